/- Walks in order: plain facts about lists in order, bits, and what is done with each. -/
import Derived.Test.YtfmbbifdganaaaaDoorBicP
import Derived.Test.YtfmbbifdganaaaaDoorSpc
set_option linter.unusedVariables false
set_option linter.unusedSimpArgs false
namespace Go.BmP
open Go.Am Go.Bm
def subs : List Int -> List Int -> List (List Int)
 | [], _ => []
 | v :: C, P => (P ++ [v]) :: (subs C (P ++ [v]) ++ subs C P)
theorem subs_mem : ∀ {C P S : List Int}, S ∈ subs C P ↔ ∃ T, T ≠ [] /\ T.Sublist C /\ S = P ++ T
 | [], P, S => by
   simp only [subs, List.not_mem_nil, false_iff]
   rintro ⟨T, h1, h2, _⟩
   exact h1 (List.sublist_nil.1 h2)
 | v :: C, P, S => by
   simp only [subs, List.mem_cons, List.mem_append, subs_mem (C := C)]
   constructor
   ·rintro (rfl | ⟨T, h1, h2, rfl⟩ | ⟨T, h1, h2, rfl⟩)
    ·exact ⟨[v], by simp, by simp, rfl⟩
    ·exact ⟨v :: T, by simp, h2.cons_cons v, by simp⟩
    ·exact ⟨T, h1, h2.cons v, rfl⟩
   ·rintro ⟨T, h1, h2, rfl⟩
    cases h2 with
    | cons _ h => exact .inr (.inr ⟨T, h1, h, rfl⟩)
    | cons_cons _ h =>
      rename_i T
      cases T with
      | nil => exact .inl rfl
      | cons t T => exact .inr (.inl ⟨t :: T, by simp, h, by simp⟩)
theorem sub_of_up : ∀ {L S : List Int}, Up S -> Up L -> (∀ x ∈ S, x ∈ L) -> S.Sublist L
 | [], S, _, _, h => by
   cases S with
   | nil => exact List.Sublist.slnil
   | cons x S => cases h x (by simp)
 | y :: L, [], _, _, _ => List.nil_sublist _
 | y :: L, x :: S, hS, hL, h => by
   have s1 := List.pairwise_cons.1 hS
   have l1 := List.pairwise_cons.1 hL
   by_cases e : x = y
   ·subst e
    refine (sub_of_up s1.2 l1.2 fun z hz => ?_).cons_cons x
    rcases List.mem_cons.1 (h z (by simp [hz])) with k | k
    ·have := s1.1 z hz; omega
    ·exact k
   ·have hx : x ∈ L := (List.mem_cons.1 (h x (by simp))).resolve_left e
    have hy := l1.1 x hx
    refine (sub_of_up hS l1.2 fun z hz => ?_).cons y
    rcases List.mem_cons.1 (h z hz) with k | k
    ·rcases List.mem_cons.1 hz with j | j
     ·omega
     ·have := s1.1 z j; omega
    ·exact k
theorem nodup_len : ∀ {a b : List (List Int)}, a.Nodup -> (∀ x ∈ a, x ∈ b) -> a.length <= b.length
 | [], _, _, _ => Nat.zero_le _
 | x :: a, b, hn, h => by
   have h1 := List.nodup_cons.1 hn
   have hx : x ∈ b := h x (by simp)
   have ih := nodup_len (a := a) (b := b.erase x) h1.2 fun y hy => (List.mem_erase_of_ne (by rintro rfl; exact h1.1 hy)).2 (h y (by simp [hy]))
   rw [List.length_erase_of_mem hx] at ih
   have := List.length_pos_of_mem hx
   simp only [List.length_cons]
   omega
theorem subs_length : ∀ (C P : List Int), (subs C P).length + 1 = 2 ^ C.length
 | [], _ => rfl
 | v :: C, P => by
   have i1 := subs_length C (P ++ [v])
   have i2 := subs_length C P
   simp only [subs, List.length_cons, List.length_append, Nat.pow_succ]
   omega
def hereL (after P : List Int) (t : Bool) : Bool := t && decide (P.length < after.length)
def skipL (after P : List Int) (t : Bool) (v : Int) : Bool := hereL after P t && decide (v < after.getD P.length 0)
def onL (after P : List Int) (t : Bool) (v : Int) : Bool := hereL after P t && decide (v = after.getD P.length 0)
theorem cmpL_app : ∀ (P A B : List Int), cmpL (P ++ A) (P ++ B) = cmpL A B
 | [], _, _ => rfl
 | x :: P, A, B => by
   have ih := cmpL_app P A B
   simp only [List.cons_append, cmpL, Int.lt_irrefl, if_false]
   exact ih
def foldS {σ : Type} (tk : σ -> List Int -> σ × Bool) : List (List Int) -> σ -> σ × Bool
 | [], s => (s, true)
 | S :: r, s => if (tk s S).2 = true then foldS tk r (tk s S).1 else ((tk s S).1, false)
theorem foldS_app {σ : Type} {tk : σ -> List Int -> σ × Bool} : ∀ (a b : List (List Int)) (s : σ), foldS tk (a ++ b) s = if (foldS tk a s).2 = true then foldS tk b (foldS tk a s).1 else ((foldS tk a s).1, false)
 | [], _, _ => by simp [foldS]
 | S :: a, b, s => by
   have ih := foldS_app (tk := tk) a b (tk s S).1
   simp only [List.cons_append, foldS]
   split
   ·exact ih
   ·rfl
def tkA (most : Int) (o : List (List Int)) (S : List Int) : List (List Int) × Bool := (o ++ [S], decide ((o.length : Int) + 1 <= most))
theorem tkA_t {most : Int} {o : List (List Int)} (S : List Int) (h : (o.length : Int) + 1 <= most) : tkA most o S = (o ++ [S], true) := by unfold tkA; rw [decide_eq_true h]
theorem tkA_f {most : Int} {o : List (List Int)} (S : List Int) (h : ¬ (o.length : Int) + 1 <= most) : tkA most o S = (o ++ [S], false) := by unfold tkA; rw [decide_eq_false h]
theorem foldA_t {most : Int} {o : List (List Int)} (S : List Int) (r : List (List Int)) (h : (o.length : Int) + 1 <= most) : foldS (tkA most) (S :: r) o = foldS (tkA most) r (o ++ [S]) := by
 rw [foldS, tkA_t S h]; rfl
theorem foldA_f {most : Int} {o : List (List Int)} (S : List Int) (r : List (List Int)) (h : ¬ (o.length : Int) + 1 <= most) : foldS (tkA most) (S :: r) o = (o ++ [S], false) := by
 rw [foldS, tkA_f S h]; rfl
theorem foldS_all {most : Int} : ∀ (l o : List (List Int)), (o.length : Int) + l.length <= most -> foldS (tkA most) l o = (o ++ l, true)
 | [], o, _ => by simp [foldS]
 | S :: l, o, h => by
   simp only [List.length_cons] at h
   rw [foldA_t S l (by omega), foldS_all l (o ++ [S]) (by simp; omega)]
   simp
theorem bitL_nil {m : Nat} (h : m < 18446744073709551616) : bitL m = [] ↔ m = 0 := by
 constructor
 ·intro e
  by_cases h0 : m = 0
  ·exact h0
  ·rw [bitL_step h0 h] at e; cases e
 ·rintro rfl; exact bitL_zero
theorem up_len {P : List Int} (hu : Up P) (hb : ∀ v ∈ P, 0 <= v /\ v < 64) : P.length <= 64 := by
 have := bitL_len (msk P)
 rwa [bitL_msk hu hb] at this
def bh (P : List Int) : Nat := match P.getLast? with
 | none => 0
 | some v => 2 ^ (v.toNat + 1) - 1
theorem bh_nil : bh [] = 0 := rfl
theorem bh_snoc (P : List Int) (v : Int) : bh (P ++ [v]) = 2 ^ (v.toNat + 1) - 1 := by simp [bh]
theorem bh_lt {P : List Int} (h : ∀ v ∈ P, v < 64) : bh P < 18446744073709551616 := by
 unfold bh
 split
 ·decide
 ·rename_i v hv
  have := h v (List.mem_of_getLast? hv)
  have : 2 ^ (v.toNat + 1) <= 2 ^ 64 := Nat.pow_le_pow_right (by decide) (by omega)
  omega
theorem not_bit (b j : Nat) (h : b < 18446744073709551616) : (18446744073709551615 - b).testBit j = (decide (j < 64) && !b.testBit j) := by
 rw [show 18446744073709551615 - b = 2 ^ 64 - (b + 1) by omega, Nat.testBit_two_pow_sub_succ (by omega)]
theorem foldS_more {most : Int} : ∀ (l o : List (List Int)), (o.length : Int) <= most -> most < (o.length : Int) + l.length -> ((foldS (tkA most) l o).1.length : Int) = most + 1
 | [], o, h, k => by simp at k; omega
 | S :: l, o, h, k => by
   by_cases c : (o.length : Int) + 1 <= most
   ·rw [foldA_t S l c]
    exact foldS_more l (o ++ [S]) (by simp; omega) (by simp at k ⊢; omega)
   ·rw [foldA_f S l c]
    simp
    omega
theorem beqI (a b : Int) : (a == b) = decide (a = b) := by by_cases h : a = b <;> simp [h]
theorem ints_tk (l : List Int) : (ints l).take l.length = ints l := by rw [ints_take, List.take_length]
end Go.BmP
