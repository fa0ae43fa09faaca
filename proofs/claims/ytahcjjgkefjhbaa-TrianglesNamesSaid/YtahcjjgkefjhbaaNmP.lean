/- A graph with other names: plain facts. -/
import Derived.Test.YtahcjjgkefjhbaaN02
import Derived.Test.YtahcjjgkefjhbaaBicP
set_option linter.unusedSimpArgs false
set_option linter.unusedVariables false
namespace Go.BmP
open Go.Am Go.Bm
def inN (N : Nat) (x : Int) : Prop := 0 ≤ x ∧ x < (N : Int)
theorem nrmE_cases0 {u v : Int} (h : u ≠ v) : (u < v ∧ nrmE u v = (u, v)) ∨ (v < u ∧ nrmE u v = (v, u)) := by
  unfold nrmE
  rcases Int.lt_or_gt_of_ne h with k | k
  · exact .inl ⟨k, by rw [if_neg (by omega), if_pos k]⟩
  · exact .inr ⟨k, by rw [if_pos k, if_neg (by omega)]⟩
theorem jn_symm0 {E : List Ed} {a b : Int} (h : jn E a b) : jn E b a := Or.symm h
def nmf (nm : List Int) (x : Int) : Int := nm.getD x.toNat 0
section
variable {N : Nat} {nm : List Int} (hp : nm.Perm (allN N))
include hp
theorem nmf_len : nm.length = N := by rw [hp.length_eq]; simp [allN]
theorem nmf_get {x : Int} (h : inN N x) : ∃ k : x.toNat < nm.length, nmf nm x = nm[x.toNat] := by
  have := nmf_len hp
  unfold inN at h
  refine ⟨by omega, ?_⟩
  unfold nmf
  rw [List.getD_eq_getElem?_getD, List.getElem?_eq_getElem (by omega)]
  rfl
theorem nmf_bd (x : Int) (h : inN N x) : inN N (nmf nm x) := by
  obtain ⟨k, e⟩ := nmf_get hp h
  rw [e]
  exact allN_mem.1 (hp.mem_iff.1 (List.getElem_mem k))
theorem nmf_inj {x y : Int} (hx : inN N x) (hy : inN N y) (e : nmf nm x = nmf nm y) : x = y := by
  obtain ⟨kx, ex⟩ := nmf_get hp hx
  obtain ⟨ky, ey⟩ := nmf_get hp hy
  have nd : nm.Nodup := hp.nodup_iff.2 (allN_nodup N)
  rw [ex, ey] at e
  unfold inN at hx hy
  rcases Nat.lt_trichotomy x.toNat y.toNat with k | k | k
  · exact absurd e (List.pairwise_iff_getElem.1 nd _ _ kx ky k)
  · omega
  · exact absurd e.symm (List.pairwise_iff_getElem.1 nd _ _ ky kx k)
theorem nmf_sur {y : Int} (h : inN N y) : ∃ x, inN N x ∧ nmf nm x = y := by
  have hm : y ∈ nm := hp.mem_iff.2 (allN_mem.2 h)
  obtain ⟨i, hi, rfl⟩ := List.getElem_of_mem hm
  have := nmf_len hp
  refine ⟨(i : Int), ⟨by omega, by omega⟩, ?_⟩
  unfold nmf
  rw [List.getD_eq_getElem?_getD, List.getElem?_eq_getElem (by omega)]
  rfl
end
/-- The edges with other names. -/
def rnG (nm : List Int) (E : List Ed) : List Ed := ofE (E.map (rnE nm)) []
section
variable {N : Nat} {E : List Ed} {nm : List Int} (h : GOK (N : Int) E) (hp : nm.Perm (allN N))
include h hp
omit h hp in
theorem rnG_mem (z : Ed) : z ∈ rnG nm E ↔ ∃ d ∈ E, z = nrmE (nmf nm d.1) (nmf nm d.2) := by
  unfold rnG
  rw [(ofE_spec (E.map (rnE nm)) [] List.Pairwise.nil).2]
  constructor
  · rintro (k | ⟨e, he, rfl⟩)
    · cases k
    · obtain ⟨d, hd, rfl⟩ := List.mem_map.1 he
      exact ⟨d, hd, rfl⟩
  · rintro ⟨d, hd, rfl⟩
    exact .inr ⟨_, List.mem_map.2 ⟨d, hd, rfl⟩, rfl⟩
theorem rnG_ne {d : Ed} (hd : d ∈ E) : (inN N d.1 ∧ inN N d.2) ∧ nmf nm d.1 ≠ nmf nm d.2 := by
  obtain ⟨d1, d2, d3⟩ := h.2.2 d hd
  have a : inN N d.1 := ⟨by omega, by omega⟩
  have b : inN N d.2 := ⟨by omega, by omega⟩
  refine ⟨⟨a, b⟩, fun e => ?_⟩
  have := nmf_inj hp a b e
  omega
theorem rnG_ok : GOK (N : Int) (rnG nm E) := by
  refine ⟨h.1, (ofE_spec (E.map (rnE nm)) [] List.Pairwise.nil).1, fun z hz => ?_⟩
  obtain ⟨d, hd, rfl⟩ := (rnG_mem z).1 hz
  obtain ⟨⟨a, b⟩, n⟩ := rnG_ne h hp hd
  have a := nmf_bd hp _ a
  have b := nmf_bd hp _ b
  unfold inN at a b
  rcases nrmE_cases0 n with ⟨l, e⟩ | ⟨l, e⟩ <;> rw [e] <;> simp only <;> omega
theorem rn_jn {a b : Int} (ha : inN N a) (hb : inN N b) : jn (rnG nm E) (nmf nm a) (nmf nm b) ↔ jn E a b := by
  constructor
  · have key : ∀ {a b : Int}, inN N a → inN N b → (nmf nm a, nmf nm b) ∈ rnG nm E → jn E a b := fun {a b} ha hb k => by
      obtain ⟨d, hd, e⟩ := (rnG_mem _).1 k
      obtain ⟨⟨d1, d2⟩, n⟩ := rnG_ne h hp hd
      rcases nrmE_cases0 n with ⟨l, e2⟩ | ⟨l, e2⟩ <;> rw [e2] at e <;> obtain ⟨e3, e4⟩ := Prod.mk.inj e
      · have q1 := nmf_inj hp ha d1 e3
        have q2 := nmf_inj hp hb d2 e4
        subst q1 q2
        exact .inl hd
      · have q1 := nmf_inj hp ha d2 e3
        have q2 := nmf_inj hp hb d1 e4
        subst q1 q2
        exact .inr hd
    rintro (k | k)
    · exact key ha hb k
    · exact jn_symm0 (key hb ha k)
  · have key : ∀ {a b : Int}, (a, b) ∈ E → jn (rnG nm E) (nmf nm a) (nmf nm b) := fun {a b} k => by
      have m := (rnG_mem (nm := nm) (nrmE (nmf nm a) (nmf nm b))).2 ⟨(a, b), k, rfl⟩
      obtain ⟨_, n⟩ := rnG_ne h hp k
      rcases nrmE_cases0 n with ⟨l, e2⟩ | ⟨l, e2⟩ <;> simp only at e2 <;> rw [e2] at m
      · exact .inl m
      · exact .inr m
    rintro (k | k)
    · exact key k
    · exact jn_symm0 (key k)
end
end Go.BmP
