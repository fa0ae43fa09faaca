/- The maximal pairs in order: plain law of Next, Best, Maximal and the edges. -/
import Derived.Test.YtikffbngaolphaaDoorG19
import Derived.Test.YtikffbngaolphaaDoorG20
set_option linter.unusedSimpArgs false
set_option linter.unusedVariables false
namespace Go.BmP
open Go.Am Go.Bm
theorem cmpL_ext (P T : List Int) (h : T ≠ []) : cmpL (P ++ T) P = 1 := by
  have := cmpL_app P T []
  rw [List.append_nil] at this
  rw [this]
  cases T with
  | nil => exact absurd rfl h
  | cons x r => rfl
theorem subs_sorted : ∀ {C P : List Int}, Up (P ++ C) → (subs C P).Pairwise fun a b => cmpL b a = 1
  | [], P, _ => List.Pairwise.nil
  | v :: C, P, hu => by
    have hs : (P ++ C).Sublist (P ++ v :: C) := List.Sublist.append_left (List.sublist_cons_self v C) P
    have i1 := subs_sorted (C := C) (P := P ++ [v]) (by simpa using hu)
    have i2 := subs_sorted (C := C) (P := P) (List.Pairwise.sublist hs hu)
    have gt : ∀ T U : List Int, U ≠ [] → U.Sublist C → cmpL (P ++ U) (P ++ v :: T) = 1 := fun T U hU hs => by
      rw [cmpL_app]
      cases U with
      | nil => exact absurd rfl hU
      | cons u U =>
        have := (List.pairwise_cons.1 (List.pairwise_append.1 hu).2.1).1 u (hs.subset (by simp))
        simp only [cmpL]
        rw [if_pos this]
    simp only [subs, List.pairwise_cons, List.pairwise_append, List.mem_append]
    refine ⟨fun b hb => ?_, i1, i2, fun a ha b hb => ?_⟩
    · rcases hb with hb | hb
      · obtain ⟨T, h1, _, rfl⟩ := subs_mem.1 hb
        exact cmpL_ext _ T h1
      · obtain ⟨U, h1, h2, rfl⟩ := subs_mem.1 hb
        exact gt [] U h1 h2
    · obtain ⟨T, _, _, rfl⟩ := subs_mem.1 ha
      obtain ⟨U, h1, h2, rfl⟩ := subs_mem.1 hb
      simpa using gt T U h1 h2
theorem allC_sorted {N : Nat} {Es : List Ed} {L : List Int} (h : BOK N Es L) : (allC N Es L).Pairwise fun a b => cmpL b a = 1 := by
  rw [allC_eq h]
  exact (subs_sorted (by simpa using h.l.1)).filter _
theorem cmpL_swap : ∀ (a b : List Int), cmpL a b = - cmpL b a
  | [], [] => rfl
  | [], _ :: _ => rfl
  | _ :: _, [] => rfl
  | x :: r, y :: s => by
    have ih := cmpL_swap r s
    simp only [cmpL]
    by_cases h1 : y < x
    · have : ¬ x < y := by omega
      simp [h1, this]
    · by_cases h2 : x < y
      · simp [h1, h2]
      · simp [h1, h2, ih]
/-- Of a rising list, those behind its i-th are the rest. -/
theorem filter_sorted : ∀ (l : List (List Int)), (l.Pairwise fun a b => cmpL b a = 1) → ∀ (i : Nat) (h : i < l.length), (l.filter fun S => decide (cmpL S l[i] = 1)) = l.drop (i + 1)
  | [], _, i, h => by simp at h
  | x :: l, hp, 0, h => by
    have hp := List.pairwise_cons.1 hp
    have : cmpL x x = 0 := cmpL_zero.2 rfl
    simp only [List.getElem_cons_zero, List.filter_cons, this, List.drop_succ_cons, List.drop_zero]
    rw [if_neg (by decide), List.filter_eq_self]
    intro S hS
    exact decide_eq_true (hp.1 S hS)
  | x :: l, hp, i + 1, h => by
    have hp2 := List.pairwise_cons.1 hp
    have hi : i < l.length := by simpa using h
    have ih := filter_sorted l hp2.2 i hi
    have e : cmpL x l[i] = -1 := by
      have := hp2.1 l[i] (List.getElem_mem _)
      rw [cmpL_swap, this]
    simp only [List.getElem_cons_succ, List.filter_cons, e, List.drop_succ_cons]
    rw [if_neg (by decide)]
    exact ih
theorem behC_at {N : Nat} {Es : List Ed} {L : List Int} (h : BOK N Es L) (i : Nat) (hi : i < (allC N Es L).length) : behC N Es L (allC N Es L)[i] = (allC N Es L).drop (i + 1) := filter_sorted _ (allC_sorted h) i hi
theorem not_and_zero {a b : Nat} (ha : a < 18446744073709551616) (hb : b < 18446744073709551616) (h : ∀ j, a.testBit j = true → b.testBit j = true) : a &&& (18446744073709551615 - b) = 0 := by
  apply Nat.eq_of_testBit_eq
  intro j
  rw [Nat.testBit_and, not_bit _ _ hb, Nat.zero_testBit]
  cases e : a.testBit j with
  | false => rfl
  | true => rw [h j e]; simp
/-- Each pair of the list is maximal. -/
theorem maxV_all {N : Nat} {Es : List Ed} {L : List Int} (h : BOK N Es L) {S : List Int} (hS : S ∈ allC N Es L) : maxV N Es L S (clR N Es L S) = true := by
  obtain ⟨⟨k1, k2, k3⟩, k4, k5⟩ := (allC_mem h).1 hS
  have hn := h.n
  have bS := bOK_bd h k3
  have cu : Up (clR N Es L S) := clR_up N Es L S
  have cb : ∀ v ∈ clR N Es L S, (0 ≤ v ∧ v < (N : Int)) ∧ v ∉ L := fun v hv => by
    have := (clR_mem h k1 k3 v).1 hv
    exact ⟨this.1, this.2.1⟩
  have e1 : msk (clR N Es L S) = cR N Es L S := bitL_inj (msk_lt fun v hv => by have := (cb v hv).1; omega) (cR_lt N Es L S) (bitL_msk cu fun v hv => by have := (cb v hv).1; omega)
  have e2 := (closed_bits h k1 k3).1 k5
  have o1 : ownC N S (msk L) = true := by
    unfold ownC
    rw [Bool.and_eq_true, decide_eq_true_eq]
    refine ⟨(valGo_iff (N : Int)).2 ⟨k1, fun x hx => ?_⟩, not_and_zero (msk_lt fun v hv => (bS v hv).2) (msk_lt fun v hv => (bOK_bd h (fun _ k => k) v hv).2) fun j hj => ?_⟩
    · have := h.l.2 x (k3 x hx); omega
    · rw [msk_bit (fun v hv => (bS v hv).1)] at hj
      rw [msk_bit (fun v hv => (bOK_bd h (fun _ k => k) v hv).1)]
      exact decide_eq_true (k3 _ (of_decide_eq_true hj))
  have o2 : ownC N (clR N Es L S) (rgt N L) = true := by
    unfold ownC
    rw [Bool.and_eq_true, decide_eq_true_eq]
    refine ⟨(valGo_iff (N : Int)).2 ⟨cu, fun x hx => ?_⟩, not_and_zero (msk_lt fun v hv => by have := (cb v hv).1; omega) (rgt_lt N L) fun j hj => ?_⟩
    · have := (cb x hx).1; omega
    · rw [msk_bit (fun v hv => (cb v hv).1.1)] at hj
      have := cb _ (of_decide_eq_true hj)
      rw [rgt_bit h.n h.l.2]
      simp [this.2]
      omega
  unfold maxV
  rw [o1, o2, e1, e2]
  simp [k2, k4]
/-- Each edge lies in a pair of the list. -/
theorem edge_in {N : Nat} {Es : List Ed} {L : List Int} (h : BOK N Es L) {e : Ed} (he : e ∈ Es) : ∃ S ∈ allC N Es L, (e.1 ∈ S ∨ e.1 ∈ clR N Es L S) ∧ (e.2 ∈ S ∨ e.2 ∈ clR N Es L S) := by
  have b := h.e.2 e he
  have key : ∀ a c : Int, a ∈ L → c ∉ L → (0 ≤ c ∧ c < (N : Int)) → jn Es a c → ∃ S ∈ allC N Es L, a ∈ S ∧ c ∈ clR N Es L S := by
    intro a c ha hc hb hj
    have hu : Up [a] := by simp [Up]
    have hL : ∀ x ∈ [a], x ∈ L := by simpa using ha
    have hcR : c ∈ clR N Es L [a] := (clR_mem h hu hL c).2 ⟨hb, hc, by simpa using hj⟩
    refine ⟨clL N Es L [a], (allC_mem h).2 ⟨⟨clL_up N Es L [a], ?_, clL_L h⟩, ?_, clL_idem h hu hL⟩, cl_sub h hu hL a (by simp), ?_⟩
    · exact List.ne_nil_of_mem (cl_sub h hu hL a (by simp))
    · rw [clR_idem h hu hL]
      exact List.ne_nil_of_mem hcR
    · rw [clR_idem h hu hL]
      exact hcR
  by_cases k : e.1 ∈ L
  · obtain ⟨S, h1, h2, h3⟩ := key e.1 e.2 k ((h.s e he).1 k) ⟨by omega, by omega⟩ (.inl he)
    exact ⟨S, h1, .inl h2, .inr h3⟩
  · have k2 : e.2 ∈ L := by
      by_cases q : e.2 ∈ L
      · exact q
      · exact absurd ((h.s e he).2 q) k
    obtain ⟨S, h1, h2, h3⟩ := key e.2 e.1 k2 k ⟨by omega, by omega⟩ (.inr he)
    exact ⟨S, h1, .inr h3, .inl h2⟩
theorem allC_none {N : Nat} {L : List Int} (h : BOK N [] L) : allC N [] L = [] := by
  rw [List.eq_nil_iff_forall_not_mem]
  intro S hS
  obtain ⟨⟨k1, k2, k3⟩, k4, _⟩ := (allC_mem h).1 hS
  obtain ⟨x, hx⟩ := List.exists_mem_of_ne_nil _ k4
  obtain ⟨y, hy⟩ := List.exists_mem_of_ne_nil _ k2
  have := ((clR_mem h k1 k3 x).1 hx).2.2 y hy
  simp [jn] at this
/-- The greatest product of a list. -/
def mostC (N : Nat) (Es : List Ed) (L : List Int) (l : List (List Int)) (m : Nat) : Nat := l.foldl (fun m S => max m (prodC N Es L S)) m
theorem mostC_spec {N : Nat} {Es : List Ed} {L : List Int} : ∀ (l : List (List Int)) (m : Nat), m ≤ mostC N Es L l m ∧ (∀ S ∈ l, prodC N Es L S ≤ mostC N Es L l m) ∧ (mostC N Es L l m = m ∨ ∃ S ∈ l, mostC N Es L l m = prodC N Es L S)
  | [], m => ⟨Nat.le_refl _, fun S h => by simp at h, .inl rfl⟩
  | T :: l, m => by
    obtain ⟨i1, i2, i3⟩ := mostC_spec (N := N) (Es := Es) (L := L) l (max m (prodC N Es L T))
    have e : mostC N Es L (T :: l) m = mostC N Es L l (max m (prodC N Es L T)) := rfl
    rw [e]
    refine ⟨by omega, fun S h => ?_, ?_⟩
    · rcases List.mem_cons.1 h with k | k
      · subst k; omega
      · exact i2 S k
    · rcases i3 with k | ⟨S, h, k⟩
      · by_cases q : m ≤ prodC N Es L T
        · right; exact ⟨T, by simp, by omega⟩
        · left; omega
      · exact .inr ⟨S, by simp [h], k⟩
/-- The best has the greatest product. -/
theorem best_most {N : Nat} {Es : List Ed} {L : List Int} (h : BOK N Es L) (hE : Es ≠ []) : ∃ S ∈ allC N Es L, bestC N Es L = some S ∧ prodC N Es L S = mostC N Es L (allC N Es L) 0 := by
  obtain ⟨e, he⟩ := List.exists_mem_of_ne_nil _ hE
  obtain ⟨S0, hS0, _⟩ := edge_in h he
  have pos : 0 < prodC N Es L S0 := by
    obtain ⟨⟨_, k2, _⟩, k4, _⟩ := (allC_mem h).1 hS0
    exact Nat.mul_pos (List.length_pos_iff.2 k2) (List.length_pos_iff.2 k4)
  obtain ⟨f1, f2, f3⟩ := foldB_mem (N := N) (Es := Es) (L := L) (allC N Es L) none
  have fb : (foldS (tkB N Es L) (allC N Es L) none).1 = bestC N Es L := rfl
  rw [fb] at f1 f2 f3
  obtain ⟨m1, m2, m3⟩ := mostC_spec (N := N) (Es := Es) (L := L) (allC N Es L) 0
  cases eb : bestC N Es L with
  | none =>
    have := f2 S0 hS0
    rw [eb] at this
    have : prodC N Es L S0 ≤ 0 := this
    omega
  | some S =>
    have hS : S ∈ allC N Es L := by
      rcases f1 S eb with k | k
      · cases k
      · exact k
    refine ⟨S, hS, rfl, ?_⟩
    rw [eb] at f2
    have f2 : ∀ S' ∈ allC N Es L, prodC N Es L S' ≤ prodC N Es L S := f2
    have a := m2 S hS
    rcases m3 with k | ⟨S', h', k⟩
    · have := f2 S0 hS0; have := m2 S0 hS0; omega
    · have := f2 S' h'; omega
#print axioms best_most
#print axioms maxV_all
#print axioms behC_at
end Go.BmP
