/- Walks in order: plain facts about lists in order, bits, and what is done with each. -/
import Derived.Test.YtiohfglnoneanaaDoorBicP
import Derived.Test.YtiohfglnoneanaaDoorSpc
set_option linter.unusedVariables false
set_option linter.unusedSimpArgs false
namespace Go.BmP
open Go.Am Go.Bm
/-- All lists that begin with P and go on within C, in order. -/
def subs : List Int → List Int → List (List Int)
  | [], _ => []
  | v :: C, P => (P ++ [v]) :: (subs C (P ++ [v]) ++ subs C P)
theorem subs_mem : ∀ {C P S : List Int}, S ∈ subs C P ↔ ∃ T, T ≠ [] ∧ T.Sublist C ∧ S = P ++ T
  | [], P, S => by
    simp only [subs, List.not_mem_nil, false_iff]
    rintro ⟨T, h1, h2, _⟩
    exact h1 (List.sublist_nil.1 h2)
  | v :: C, P, S => by
    simp only [subs, List.mem_cons, List.mem_append, subs_mem (C := C)]
    constructor
    · rintro (rfl | ⟨T, h1, h2, rfl⟩ | ⟨T, h1, h2, rfl⟩)
      · exact ⟨[v], by simp, by simp, rfl⟩
      · exact ⟨v :: T, by simp, h2.cons_cons v, by simp⟩
      · exact ⟨T, h1, h2.cons v, rfl⟩
    · rintro ⟨T, h1, h2, rfl⟩
      cases h2 with
      | cons _ h => exact .inr (.inr ⟨T, h1, h, rfl⟩)
      | cons_cons _ h =>
        rename_i T
        cases T with
        | nil => exact .inl rfl
        | cons t T => exact .inr (.inl ⟨t :: T, by simp, h, by simp⟩)
theorem subs_nodup : ∀ {C P : List Int}, Up (P ++ C) → (subs C P).Nodup
  | [], P, _ => List.nodup_nil
  | v :: C, P, hu => by
    have hs : (P ++ C).Sublist (P ++ v :: C) := List.Sublist.append_left (List.sublist_cons_self v C) P
    have i1 := subs_nodup (C := C) (P := P ++ [v]) (by simpa using hu)
    have i2 := subs_nodup (C := C) (P := P) (List.Pairwise.sublist hs hu)
    have hv : ∀ T : List Int, T.Sublist C → v ∉ T := fun T hT hm => by
      have := (List.pairwise_cons.1 (List.pairwise_append.1 hu).2.1).1 v (hT.subset hm)
      omega
    simp only [subs, List.nodup_cons, List.mem_append, not_or]
    refine ⟨⟨fun hm => ?_, fun hm => ?_⟩, List.nodup_append.2 ⟨i1, i2, fun a ha b hb e => ?_⟩⟩
    · obtain ⟨T, h1, _, e⟩ := subs_mem.1 hm
      exact h1 (by simpa using e)
    · obtain ⟨T, _, h2, e⟩ := subs_mem.1 hm
      have : [v] = T := by simpa using e
      exact hv T h2 (by rw [← this]; simp)
    · subst e
      obtain ⟨T, _, _, e1⟩ := subs_mem.1 ha
      obtain ⟨U, _, h2, e2⟩ := subs_mem.1 hb
      rw [e1] at e2
      have : v :: T = U := by simpa using e2
      exact hv U h2 (by rw [← this]; simp)
theorem sub_of_up : ∀ {L S : List Int}, Up S → Up L → (∀ x ∈ S, x ∈ L) → S.Sublist L
  | [], S, _, _, h => by
    cases S with
    | nil => exact List.Sublist.slnil
    | cons x S => cases h x (by simp)
  | y :: L, [], _, _, _ => List.nil_sublist _
  | y :: L, x :: S, hS, hL, h => by
    have s1 := List.pairwise_cons.1 hS
    have l1 := List.pairwise_cons.1 hL
    by_cases e : x = y
    · subst e
      refine (sub_of_up s1.2 l1.2 fun z hz => ?_).cons_cons x
      rcases List.mem_cons.1 (h z (by simp [hz])) with k | k
      · have := s1.1 z hz; omega
      · exact k
    · have hx : x ∈ L := (List.mem_cons.1 (h x (by simp))).resolve_left e
      have hy := l1.1 x hx
      refine (sub_of_up hS l1.2 fun z hz => ?_).cons y
      rcases List.mem_cons.1 (h z hz) with k | k
      · rcases List.mem_cons.1 hz with j | j
        · omega
        · have := s1.1 z j; omega
      · exact k
theorem nodup_len : ∀ {a b : List (List Int)}, a.Nodup → (∀ x ∈ a, x ∈ b) → a.length ≤ b.length
  | [], _, _, _ => Nat.zero_le _
  | x :: a, b, hn, h => by
    have h1 := List.nodup_cons.1 hn
    have hx : x ∈ b := h x (by simp)
    have ih := nodup_len (a := a) (b := b.erase x) h1.2 fun y hy => (List.mem_erase_of_ne (by rintro rfl; exact h1.1 hy)).2 (h y (by simp [hy]))
    rw [List.length_erase_of_mem hx] at ih
    have := List.length_pos_of_mem hx
    simp only [List.length_cons]
    omega
theorem subs_length : ∀ (C P : List Int), (subs C P).length + 1 = 2 ^ C.length
  | [], _ => rfl
  | v :: C, P => by
    have i1 := subs_length C (P ++ [v])
    have i2 := subs_length C P
    simp only [subs, List.length_cons, List.length_append, Nat.pow_succ]
    omega
def hereL (after P : List Int) (t : Bool) : Bool := t && decide (P.length < after.length)
def skipL (after P : List Int) (t : Bool) (v : Int) : Bool := hereL after P t && decide (v < after.getD P.length 0)
def onL (after P : List Int) (t : Bool) (v : Int) : Bool := hereL after P t && decide (v = after.getD P.length 0)
theorem cmpL_app : ∀ (P A B : List Int), cmpL (P ++ A) (P ++ B) = cmpL A B
  | [], _, _ => rfl
  | x :: P, A, B => by
    have ih := cmpL_app P A B
    simp only [List.cons_append, cmpL, Int.lt_irrefl, if_false]
    exact ih
/-- What is done with a list of sets, one behind the other, until take says stop. -/
def foldS {σ : Type} (tk : σ → List Int → σ × Bool) : List (List Int) → σ → σ × Bool
  | [], s => (s, true)
  | S :: r, s => if (tk s S).2 = true then foldS tk r (tk s S).1 else ((tk s S).1, false)
theorem foldS_app {σ : Type} {tk : σ → List Int → σ × Bool} : ∀ (a b : List (List Int)) (s : σ), foldS tk (a ++ b) s = if (foldS tk a s).2 = true then foldS tk b (foldS tk a s).1 else ((foldS tk a s).1, false)
  | [], _, _ => by simp [foldS]
  | S :: a, b, s => by
    have ih := foldS_app (tk := tk) a b (tk s S).1
    simp only [List.cons_append, foldS]
    split
    · exact ih
    · rfl
/-- Appending, as long as there are at most so many. -/
def tkA (most : Int) (o : List (List Int)) (S : List Int) : List (List Int) × Bool := (o ++ [S], decide ((o.length : Int) + 1 ≤ most))
theorem tkA_t {most : Int} {o : List (List Int)} (S : List Int) (h : (o.length : Int) + 1 ≤ most) : tkA most o S = (o ++ [S], true) := by unfold tkA; rw [decide_eq_true h]
theorem tkA_f {most : Int} {o : List (List Int)} (S : List Int) (h : ¬ (o.length : Int) + 1 ≤ most) : tkA most o S = (o ++ [S], false) := by unfold tkA; rw [decide_eq_false h]
theorem foldA_t {most : Int} {o : List (List Int)} (S : List Int) (r : List (List Int)) (h : (o.length : Int) + 1 ≤ most) : foldS (tkA most) (S :: r) o = foldS (tkA most) r (o ++ [S]) := by
  rw [foldS, tkA_t S h]; rfl
theorem foldA_f {most : Int} {o : List (List Int)} (S : List Int) (r : List (List Int)) (h : ¬ (o.length : Int) + 1 ≤ most) : foldS (tkA most) (S :: r) o = (o ++ [S], false) := by
  rw [foldS, tkA_f S h]; rfl
theorem foldS_all {most : Int} : ∀ (l o : List (List Int)), (o.length : Int) + l.length ≤ most → foldS (tkA most) l o = (o ++ l, true)
  | [], o, _ => by simp [foldS]
  | S :: l, o, h => by
    simp only [List.length_cons] at h
    rw [foldA_t S l (by omega), foldS_all l (o ++ [S]) (by simp; omega)]
    simp
theorem foldS_len {most : Int} : ∀ (l o : List (List Int)), (o.length : Int) ≤ most → (foldS (tkA most) l o).2 = true → ((foldS (tkA most) l o).1.length : Int) ≤ most
  | [], o, h, _ => h
  | S :: l, o, h, e => by
    by_cases k : (o.length : Int) + 1 ≤ most
    · rw [foldA_t S l k] at e ⊢
      exact foldS_len l (o ++ [S]) (by simp; omega) e
    · rw [foldA_f S l k] at e
      cases e
theorem bitL_nil {m : Nat} (h : m < 18446744073709551616) : bitL m = [] ↔ m = 0 := by
  constructor
  · intro e
    by_cases h0 : m = 0
    · exact h0
    · rw [bitL_step h0 h] at e; cases e
  · rintro rfl; exact bitL_zero
theorem bitL_inj {m n : Nat} (h : m < 18446744073709551616) (k : n < 18446744073709551616) (e : bitL m = bitL n) : m = n := by
  apply Nat.eq_of_testBit_eq
  intro j
  by_cases hj : j < 64
  · have a : ∀ m : Nat, m.testBit j = decide ((j : Int) ∈ bitL m) := fun m => by
      rw [Bool.eq_iff_iff, decide_eq_true_eq, bitL_mem]
      constructor
      · intro h; exact ⟨j, rfl, hj, h⟩
      · rintro ⟨i, e, _, h⟩
        rwa [show j = i by omega]
    rw [a, a, e]
  · have p : 2 ^ 64 ≤ 2 ^ j := Nat.pow_le_pow_right (by decide) (by omega)
    rw [Nat.testBit_lt_two_pow (by omega), Nat.testBit_lt_two_pow (by omega)]
theorem up_len {P : List Int} (hu : Up P) (hb : ∀ v ∈ P, 0 ≤ v ∧ v < 64) : P.length ≤ 64 := by
  have := bitL_len (msk P)
  rwa [bitL_msk hu hb] at this
theorem msk_snoc (P : List Int) (v : Int) : msk (P ++ [v]) = msk P ||| 2 ^ v.toNat := by simp [msk, mskF]
/-- The bits up to the last of a list. -/
def bh (P : List Int) : Nat := match P.getLast? with
  | none => 0
  | some v => 2 ^ (v.toNat + 1) - 1
theorem bh_nil : bh [] = 0 := rfl
theorem bh_snoc (P : List Int) (v : Int) : bh (P ++ [v]) = 2 ^ (v.toNat + 1) - 1 := by simp [bh]
theorem bh_lt {P : List Int} (h : ∀ v ∈ P, v < 64) : bh P < 18446744073709551616 := by
  unfold bh
  split
  · decide
  · rename_i v hv
    have := h v (List.mem_of_getLast? hv)
    have : 2 ^ (v.toNat + 1) ≤ 2 ^ 64 := Nat.pow_le_pow_right (by decide) (by omega)
    omega
theorem not_bit (b j : Nat) (h : b < 18446744073709551616) : (18446744073709551615 - b).testBit j = (decide (j < 64) && !b.testBit j) := by
  rw [show 18446744073709551615 - b = 2 ^ 64 - (b + 1) by omega, Nat.testBit_two_pow_sub_succ (by omega)]
theorem cmpL_ext (P T : List Int) (h : T ≠ []) : cmpL (P ++ T) P = 1 := by
  have := cmpL_app P T []
  rw [List.append_nil] at this
  rw [this]
  cases T with
  | nil => exact absurd rfl h
  | cons x r => rfl
theorem cmpL_swap : ∀ (a b : List Int), cmpL a b = - cmpL b a
  | [], [] => rfl
  | [], _ :: _ => rfl
  | _ :: _, [] => rfl
  | x :: r, y :: s => by
    have ih := cmpL_swap r s
    simp only [cmpL]
    by_cases h1 : y < x
    · have : ¬ x < y := by omega
      simp [h1, this]
    · by_cases h2 : x < y
      · simp [h1, h2]
      · simp [h1, h2, ih]
/-- Of a rising list, those behind its i-th are the rest. -/
theorem filter_sorted : ∀ (l : List (List Int)), (l.Pairwise fun a b => cmpL b a = 1) → ∀ (i : Nat) (h : i < l.length), (l.filter fun S => decide (cmpL S l[i] = 1)) = l.drop (i + 1)
  | [], _, i, h => by simp at h
  | x :: l, hp, 0, h => by
    have hp := List.pairwise_cons.1 hp
    have : cmpL x x = 0 := cmpL_zero.2 rfl
    simp only [List.getElem_cons_zero, List.filter_cons, this, List.drop_succ_cons, List.drop_zero]
    rw [if_neg (by decide), List.filter_eq_self]
    intro S hS
    exact decide_eq_true (hp.1 S hS)
  | x :: l, hp, i + 1, h => by
    have hp2 := List.pairwise_cons.1 hp
    have hi : i < l.length := by simpa using h
    have ih := filter_sorted l hp2.2 i hi
    have e : cmpL x l[i] = -1 := by
      have := hp2.1 l[i] (List.getElem_mem _)
      rw [cmpL_swap, this]
    simp only [List.getElem_cons_succ, List.filter_cons, e, List.drop_succ_cons]
    rw [if_neg (by decide)]
    exact ih
theorem foldS_more {most : Int} : ∀ (l o : List (List Int)), (o.length : Int) ≤ most → most < (o.length : Int) + l.length → ((foldS (tkA most) l o).1.length : Int) = most + 1
  | [], o, h, k => by simp at k; omega
  | S :: l, o, h, k => by
    by_cases c : (o.length : Int) + 1 ≤ most
    · rw [foldA_t S l c]
      exact foldS_more l (o ++ [S]) (by simp; omega) (by simp at k ⊢; omega)
    · rw [foldA_f S l c]
      simp
      omega
theorem beqI (a b : Int) : (a == b) = decide (a = b) := by by_cases h : a = b <;> simp [h]
theorem ints_tk (l : List Int) : (ints l).take l.length = ints l := by rw [ints_take, List.take_length]
end Go.BmP
