/- The two sides of a two-sided graph swapped: the maximal pairs are the same, turned. -/
import Derived.Test.YtikffbngaolphaaDoorEachB
namespace Go.BmP
open Go.Am Go.Bm
def Othr (N : Nat) (L M : List Int) : Prop := Up M ∧ ∀ x, x ∈ M ↔ (0 ≤ x ∧ x < (N : Int)) ∧ x ∉ L
theorem othr_back {N : Nat} {Es : List Ed} {L M : List Int} (h : BOK N Es L) (hM : Othr N L M) : Othr N M L := ⟨h.l.1, fun x => by
  rw [hM.2]
  constructor
  · intro k
    exact ⟨h.l.2 x k, fun j => j.2 k⟩
  · rintro ⟨k, j⟩
    by_cases hx : x ∈ L
    · exact hx
    · exact absurd ⟨k, hx⟩ j⟩
theorem swapB {N : Nat} {Es : List Ed} {L M : List Int} (h : BOK N Es L) (hM : Othr N L M) : BOK N Es M := ⟨h.n, h.e, ⟨hM.1, fun x hx => ((hM.2 x).1 hx).1⟩, fun e he => by
  have b := h.e.2 e he
  have s := h.s e he
  rw [hM.2, hM.2]
  constructor
  · rintro ⟨_, k⟩ ⟨_, k2⟩
    exact k (s.2 k2)
  · intro k
    exact ⟨⟨b.1, by omega⟩, fun k1 => k ⟨⟨by omega, b.2.2⟩, s.1 k1⟩⟩⟩
theorem clR_in {N : Nat} {Es : List Ed} {L M S : List Int} (h : BOK N Es L) (hM : Othr N L M) (hu : Up S) (hS : ∀ x ∈ S, x ∈ L) : ∀ x ∈ clR N Es L S, x ∈ M := fun x hx => by
  have := (clR_mem h hu hS x).1 hx
  exact (hM.2 x).2 ⟨this.1, this.2.1⟩
theorem clR_swap {N : Nat} {Es : List Ed} {L M S : List Int} (h : BOK N Es L) (hM : Othr N L M) (hu : Up S) (hS : ∀ x ∈ S, x ∈ L) : clR N Es M (clR N Es L S) = clL N Es L S := by
  refine up_ext (clR_up _ _ _ _) (clL_up _ _ _ _) fun x => ?_
  rw [clR_mem (swapB h hM) (clR_up N Es L S) (clR_in h hM hu hS) x, clL_mem h x, (othr_back h hM).2 x]
  simp only [and_assoc]
theorem swap_mem {N : Nat} {Es : List Ed} {L M S : List Int} (h : BOK N Es L) (hM : Othr N L M) (hS : S ∈ allC N Es L) : clR N Es L S ∈ allC N Es M ∧ clR N Es M (clR N Es L S) = S := by
  obtain ⟨⟨k1, k2, k3⟩, k4, k5⟩ := (allC_mem h).1 hS
  have e : clR N Es M (clR N Es L S) = S := (clR_swap h hM k1 k3).trans k5
  refine ⟨(allC_mem (swapB h hM)).2 ⟨⟨clR_up _ _ _ _, k4, clR_in h hM k1 k3⟩, by rw [e]; exact k2, ?_⟩, e⟩
  have := clR_swap (swapB h hM) (othr_back h hM) (clR_up N Es L S) (clR_in h hM k1 k3)
  rw [e] at this
  exact this.symm
theorem nodup_len : ∀ {a b : List (List Int)}, a.Nodup → (∀ x ∈ a, x ∈ b) → a.length ≤ b.length
  | [], _, _, _ => Nat.zero_le _
  | x :: a, b, hn, h => by
    have h1 := List.nodup_cons.1 hn
    have hx : x ∈ b := h x (by simp)
    have ih := nodup_len (a := a) (b := b.erase x) h1.2 fun y hy => (List.mem_erase_of_ne (by rintro rfl; exact h1.1 hy)).2 (h y (by simp [hy]))
    rw [List.length_erase_of_mem hx] at ih
    have := List.length_pos_of_mem hx
    simp only [List.length_cons]
    omega
theorem allC_le {N : Nat} {Es : List Ed} {L M : List Int} (h : BOK N Es L) (hM : Othr N L M) : (allC N Es L).length ≤ (allC N Es M).length := by
  have hn : ((allC N Es L).map (clR N Es L)).Nodup := List.pairwise_map.2 (List.Pairwise.imp_of_mem (fun ha hb hne e => hne (by rw [← (swap_mem h hM ha).2, e, (swap_mem h hM hb).2])) (allC_nodup h))
  have := nodup_len hn fun x hx => by
    obtain ⟨S, hS, rfl⟩ := List.mem_map.1 hx
    exact (swap_mem h hM hS).1
  simpa using this
theorem allC_len {N : Nat} {Es : List Ed} {L M : List Int} (h : BOK N Es L) (hM : Othr N L M) : (allC N Es L).length = (allC N Es M).length :=
  Nat.le_antisymm (allC_le h hM) (allC_le (swapB h hM) (othr_back h hM))
theorem subs_length : ∀ (C P : List Int), (subs C P).length + 1 = 2 ^ C.length
  | [], _ => rfl
  | v :: C, P => by
    have i1 := subs_length C (P ++ [v])
    have i2 := subs_length C P
    simp only [subs, List.length_cons, List.length_append, Nat.pow_succ]
    omega
theorem allC_few {N : Nat} {Es : List Ed} {L : List Int} (h : BOK N Es L) : (allC N Es L).length < 2 ^ L.length := by
  have := subs_length L []
  have h2 := List.length_filter_le (fun S => nonE N Es L S && decide (clL N Es L S = S)) (subs L [])
  rw [allC_eq h]
  omega
#print axioms allC_few
#print axioms swap_mem
#print axioms allC_len
end Go.BmP
