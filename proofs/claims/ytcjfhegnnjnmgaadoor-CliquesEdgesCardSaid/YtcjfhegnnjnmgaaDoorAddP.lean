/- A graph with an edge more: plain law of its maximal cliques. -/
import Derived.Test.YtcjfhegnnjnmgaaDoorExtP
import Derived.Test.YtcjfhegnnjnmgaaDoorCliP
set_option linter.unusedSimpArgs false
set_option linter.unusedVariables false
namespace Go.BmP
open Go.Am Go.Bm
theorem nrm_cases {x y : Int} (n : x ≠ y) : (x < y ∧ nrmE x y = (x, y)) ∨ (y < x ∧ nrmE x y = (y, x)) := by
  unfold nrmE
  by_cases h : x < y
  · left; refine ⟨h, ?_⟩; rw [if_neg (by omega), if_pos h]
  · right; refine ⟨by omega, ?_⟩; rw [if_pos (by omega), if_neg h]
theorem add_ok {N : Nat} {Es : List Ed} (hG : GOK (N : Int) Es) {u v : Int} (hn : u ≠ v) (hu : 0 ≤ u ∧ u < (N : Int)) (hv : 0 ≤ v ∧ v < (N : Int)) : GOK (N : Int) (putE (nrmE u v) Es) := by
  refine ⟨hG.1, putE_up _ hG.2.1, fun e he => ?_⟩
  rcases (putE_mem _ _ _).1 he with rfl | he
  · rcases nrm_cases hn with ⟨h, e⟩ | ⟨h, e⟩ <;> rw [e] <;> simp only <;> omega
  · exact hG.2.2 e he
section
variable {N : Nat} {Es : List Ed} (hG : GOK (N : Int) Es) {u v : Int} (hn : u ≠ v) (hu : 0 ≤ u ∧ u < (N : Int)) (hv : 0 ≤ v ∧ v < (N : Int)) (hne : nrmE u v ∉ Es)
include hn
theorem jn_add {x y : Int} : jn (putE (nrmE u v) Es) x y ↔ jn Es x y ∨ (x = u ∧ y = v) ∨ (x = v ∧ y = u) := by
  unfold jn
  rw [putE_mem, putE_mem]
  rcases nrm_cases hn with ⟨h, e⟩ | ⟨h, e⟩ <;> rw [e] <;> simp only [Prod.mk.injEq] <;> constructor
  · rintro ((⟨rfl, rfl⟩ | k) | (⟨rfl, rfl⟩ | k)) <;> simp_all
  · rintro ((k | k) | ⟨rfl, rfl⟩ | ⟨rfl, rfl⟩) <;> simp_all
  · rintro ((⟨rfl, rfl⟩ | k) | (⟨rfl, rfl⟩ | k)) <;> simp_all
  · rintro ((k | k) | ⟨rfl, rfl⟩ | ⟨rfl, rfl⟩) <;> simp_all
omit hn in
theorem isC_jn2 {F : List Ed} {S : List Int} (h : IsC N F S) {x y : Int} (hx : x ∈ S) (hy : y ∈ S) (n : x ≠ y) : jn F x y := by
  have sy : ∀ {a b}, jn F a b → jn F b a := fun k => by unfold jn at *; exact k.symm
  obtain ⟨i, hi, rfl⟩ := List.getElem_of_mem hx
  obtain ⟨j, hj, rfl⟩ := List.getElem_of_mem hy
  rcases Nat.lt_trichotomy i j with k | k | k
  · exact List.pairwise_iff_getElem.1 h.ad i j hi hj k
  · subst k; exact absurd rfl n
  · exact sy (List.pairwise_iff_getElem.1 h.ad j i hj hi k)
include hG hu hv hne
theorem new_old {S : List Int} (hS : S ∈ mcl N (putE (nrmE u v) Es)) : S ∈ mcl N Es ↔ ¬ (u ∈ S ∧ v ∈ S) := by
  have hF := add_ok hG hn hu hv
  have m := (mcl_mem hF).1 hS
  rw [mcl_mem hG]
  constructor
  · rintro k ⟨h1, h2⟩
    have := isC_jn2 k.1 h1 h2 hn
    unfold jn at this
    rcases nrm_cases hn with ⟨h, e⟩ | ⟨h, e⟩
    · rcases this with q | q
      · rw [e] at hne; exact hne q
      · have := hG.2.2 _ q; simp only at this; omega
    · rcases this with q | q
      · have := hG.2.2 _ q; simp only at this; omega
      · rw [e] at hne; exact hne q
  · intro k
    refine ⟨⟨m.1.up, m.1.bd, ?_⟩, m.2.1, fun x hx hall => m.2.2 x hx fun y hy => (jn_add hn).2 (.inl (hall y hy))⟩
    refine List.Pairwise.imp_of_mem (fun {a b} ha hb q => ?_) m.1.ad
    rcases (jn_add hn).1 q with q | ⟨rfl, rfl⟩ | ⟨rfl, rfl⟩
    · exact q
    · exact absurd ⟨ha, hb⟩ k
    · exact absurd ⟨hb, ha⟩ k
omit hne in
theorem kept_old {S : List Int} (hS : S ∈ mcl N Es) : ∃ T ∈ mcl N (putE (nrmE u v) Es), ∀ x ∈ S, x ∈ T := by
  have hF := add_ok hG hn hu hv
  have m := (mcl_mem hG).1 hS
  have hC : IsC N (putE (nrmE u v) Es) S := ⟨m.1.up, m.1.bd, m.1.ad.imp fun q => (jn_add hn).2 (.inl q)⟩
  obtain ⟨e1, e2, e3, e4⟩ := extK_spec hF hC.q
  refine ⟨extK N (putE (nrmE u v) Es) S, (mcl_mem hF).2 ⟨e3, fun e => ?_, fun x hx hall => ?_⟩, fun x hx => (e2 x).2 (.inl hx)⟩
  · obtain ⟨y, hy⟩ := List.exists_mem_of_ne_nil S m.2.1
    have := (e2 y).2 (.inl hy)
    rw [e] at this
    cases this
  · have := (cnL_mem hF (fun y hy => (e3.bd y hy).1) x).2 ⟨hx, hall⟩
    rw [e4] at this
    simp [bitL] at this
end
end Go.BmP
