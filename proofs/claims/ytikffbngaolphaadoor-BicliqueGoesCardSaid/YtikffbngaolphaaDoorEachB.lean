/- The maximal pairs of a two-sided graph in the order of the walk: members, each once. -/
import Derived.Test.YtikffbngaolphaaDoorEachP
import Derived.Test.YtikffbngaolphaaDoorK11
namespace Go.BmP
open Go.Am Go.Bm
theorem sub_of_up : ∀ {L S : List Int}, Up S → Up L → (∀ x ∈ S, x ∈ L) → S.Sublist L
  | [], S, _, _, h => by
    cases S with
    | nil => exact List.Sublist.slnil
    | cons x S => cases h x (by simp)
  | y :: L, [], _, _, _ => List.nil_sublist _
  | y :: L, x :: S, hS, hL, h => by
    have s1 := List.pairwise_cons.1 hS
    have l1 := List.pairwise_cons.1 hL
    by_cases e : x = y
    · subst e
      refine (sub_of_up s1.2 l1.2 fun z hz => ?_).cons_cons x
      rcases List.mem_cons.1 (h z (by simp [hz])) with k | k
      · have := s1.1 z hz; omega
      · exact k
    · have hx : x ∈ L := (List.mem_cons.1 (h x (by simp))).resolve_left e
      have hy := l1.1 x hx
      refine (sub_of_up hS l1.2 fun z hz => ?_).cons y
      rcases List.mem_cons.1 (h z hz) with k | k
      · rcases List.mem_cons.1 hz with j | j
        · omega
        · have := s1.1 z j; omega
      · exact k
def nonE (N : Nat) (Es : List Ed) (L S : List Int) : Bool := !(clR N Es L S).isEmpty
theorem mono_cl {N : Nat} {Es : List Ed} {L : List Int} (h : BOK N Es L) : Mono L (clL N Es L) (nonE N Es L) := fun A B hA hB hL hAB => by
  have hAL : ∀ x ∈ A, x ∈ L := fun x hx => hL x (hAB x hx)
  refine ⟨clL_mono h hA hAL hB hL hAB, fun hn => ?_⟩
  have k := clR_anti h hA hAL hB hL hAB
  unfold nonE at *
  cases e : clR N Es L A with
  | cons _ _ => rfl
  | nil =>
    rw [e] at k
    cases e2 : clR N Es L B with
    | nil => rw [e2] at hn; cases hn
    | cons z _ => cases k z (by rw [e2]; simp)
/-- The closed sets of the left side that something is joined to, in the walk's order. -/
def allC (N : Nat) (Es : List Ed) (L : List Int) : List (List Int) := walkE (clL N Es L) (nonE N Es L) L []
theorem allC_eq {N : Nat} {Es : List Ed} {L : List Int} (h : BOK N Es L) : allC N Es L = (subs L []).filter (fun S => nonE N Es L S && decide (clL N Es L S = S)) :=
  walkE_eq (mono_cl h) L [] (by simpa using h.l.1) (by simp)
theorem allC_mem {N : Nat} {Es : List Ed} {L : List Int} (h : BOK N Es L) {S : List Int} : S ∈ allC N Es L ↔ (Up S ∧ S ≠ [] ∧ ∀ x ∈ S, x ∈ L) ∧ clR N Es L S ≠ [] ∧ clL N Es L S = S := by
  rw [allC_eq h, List.mem_filter, subs_mem]
  simp only [nonE, Bool.and_eq_true, decide_eq_true_eq, Bool.not_eq_true', List.isEmpty_eq_false_iff]
  constructor
  · rintro ⟨⟨T, h1, h2, e⟩, h3⟩
    obtain rfl : S = T := by simpa using e
    exact ⟨⟨List.Pairwise.sublist h2 h.l.1, h1, fun x hx => h2.subset hx⟩, h3⟩
  · rintro ⟨⟨h1, h2, h3⟩, h4⟩
    exact ⟨⟨S, h2, sub_of_up h1 h.l.1 h3, rfl⟩, h4⟩
theorem allC_nodup {N : Nat} {Es : List Ed} {L : List Int} (h : BOK N Es L) : (allC N Es L).Nodup := by
  rw [allC_eq h]
  exact (subs_nodup (by simpa using h.l.1)).filter _
#print axioms allC_mem
#print axioms allC_nodup
end Go.BmP
