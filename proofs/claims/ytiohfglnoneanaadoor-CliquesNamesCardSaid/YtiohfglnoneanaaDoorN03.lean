/- The maximal cliques of a graph with other names: plain law. -/
import Derived.Test.YtiohfglnoneanaaDoorN02
import Derived.Test.YtiohfglnoneanaaDoorCliP
set_option linter.unusedSimpArgs false
set_option linter.unusedVariables false
namespace Go.BmP
open Go.Am Go.Bm
def inN (N : Nat) (x : Int) : Prop := 0 ≤ x ∧ x < (N : Int)
structure Iso (N : Nat) (E F : List Ed) (f g : Int → Int) : Prop where
  bf : ∀ x, inN N x → inN N (f x)
  bg : ∀ x, inN N x → inN N (g x)
  gf : ∀ x, inN N x → g (f x) = x
  fg : ∀ x, inN N x → f (g x) = x
  jf : ∀ a b, inN N a → inN N b → (jn F (f a) (f b) ↔ jn E a b)
theorem Iso.symm {N : Nat} {E F : List Ed} {f g : Int → Int} (h : Iso N E F f g) : Iso N F E g f :=
  ⟨h.bg, h.bf, h.fg, h.gf, fun a b ha hb => by
    have := h.jf (g a) (g b) (h.bg a ha) (h.bg b hb)
    rw [h.fg a ha, h.fg b hb] at this
    exact this.symm⟩
theorem isC_jn {N : Nat} {E : List Ed} {S : List Int} (h : IsC N E S) {x y : Int} (hx : x ∈ S) (hy : y ∈ S) (n : x ≠ y) : jn E x y := by
  obtain ⟨i, hi, rfl⟩ := List.getElem_of_mem hx
  obtain ⟨j, hj, rfl⟩ := List.getElem_of_mem hy
  rcases Nat.lt_trichotomy i j with k | k | k
  · exact List.pairwise_iff_getElem.1 h.ad i j hi hj k
  · subst k; exact absurd rfl n
  · exact jn_symm (List.pairwise_iff_getElem.1 h.ad j i hj hi k)
def imgS (f : Int → Int) (S : List Int) : List Int := setOf (S.map f)
theorem imgS_mem (f : Int → Int) (S : List Int) (y : Int) : y ∈ imgS f S ↔ ∃ x ∈ S, f x = y := by
  unfold imgS
  rw [(setOf_spec _).2, List.mem_map]
section
variable {N : Nat} {E F : List Ed} {f g : Int → Int} (h : Iso N E F f g)
include h
theorem img_max {S : List Int} (hS : IsMax N E S) : IsMax N F (imgS f S) := by
  obtain ⟨c, ne, mx⟩ := hS
  refine ⟨⟨(setOf_spec _).1, fun y hy => ?_, ?_⟩, fun e => ?_, fun y hy k => ?_⟩
  · obtain ⟨x, hx, rfl⟩ := (imgS_mem f S y).1 hy
    exact h.bf x (c.bd x hx)
  · have u : Up (imgS f S) := (setOf_spec _).1
    refine List.Pairwise.imp_of_mem (fun {a b} ha hb l => ?_) u
    obtain ⟨x, hx, rfl⟩ := (imgS_mem f S a).1 ha
    obtain ⟨y, hy, rfl⟩ := (imgS_mem f S b).1 hb
    refine (h.jf x y (c.bd x hx) (c.bd y hy)).2 (isC_jn c hx hy fun e => ?_)
    subst e
    exact Int.lt_irrefl _ l
  · obtain ⟨x, hx⟩ := List.exists_mem_of_ne_nil _ ne
    have := (imgS_mem f S (f x)).2 ⟨x, hx, rfl⟩
    rw [e] at this
    cases this
  · refine mx (g y) (h.bg y hy) fun v hv => ?_
    have := k (f v) ((imgS_mem f S _).2 ⟨v, hv, rfl⟩)
    rw [← h.fg y hy] at this
    exact (h.jf v (g y) (c.bd v hv) (h.bg y hy)).1 this
theorem img_inj {S T : List Int} (hS : IsC N E S) (hT : IsC N E T) (e : imgS f S = imgS f T) : S = T := by
  refine up_ext hS.up hT.up fun x => ?_
  have key : ∀ {S T : List Int}, IsC N E S → IsC N E T → imgS f S = imgS f T → x ∈ S → x ∈ T := fun {S T} hS hT e hx => by
    have := (imgS_mem f S (f x)).2 ⟨x, hx, rfl⟩
    rw [e] at this
    obtain ⟨y, hy, ey⟩ := (imgS_mem f T (f x)).1 this
    have e2 : g (f y) = g (f x) := by rw [ey]
    rw [h.gf y (hT.bd y hy), h.gf x (hS.bd x hx)] at e2
    rwa [← e2]
  exact ⟨key hS hT e, key hT hS e.symm⟩
theorem img_le (hE : GOK (N : Int) E) (hF : GOK (N : Int) F) : (mcl N E).length ≤ (mcl N F).length := by
  have := nodup_len (a := (mcl N E).map (imgS f)) (b := mcl N F) (by
    unfold List.Nodup
    rw [List.pairwise_map]
    exact List.Pairwise.imp_of_mem (fun {a b} ha hb n e => n (img_inj h ((mcl_mem hE).1 ha).1 ((mcl_mem hE).1 hb).1 e)) mcl_nodup) fun x hx => by
      obtain ⟨S, hS, rfl⟩ := List.mem_map.1 hx
      exact (mcl_mem hF).2 (img_max h ((mcl_mem hE).1 hS))
  rwa [List.length_map] at this
end
theorem img_len {N : Nat} {E F : List Ed} {f g : Int → Int} (h : Iso N E F f g) (hE : GOK (N : Int) E) (hF : GOK (N : Int) F) : (mcl N E).length = (mcl N F).length :=
  Nat.le_antisymm (img_le h hE hF) (img_le h.symm hF hE)
theorem nrmE_cases {x y : Int} (n : x ≠ y) : (x < y ∧ nrmE x y = (x, y)) ∨ (y < x ∧ nrmE x y = (y, x)) := by
  unfold nrmE
  by_cases k : x < y
  · left
    rw [if_neg (by omega), if_pos k]
    exact ⟨k, rfl⟩
  · right
    rw [if_pos (by omega), if_neg k]
    exact ⟨by omega, rfl⟩
/-- The name of a node. -/
def nmf (nm : List Int) (x : Int) : Int := nm.getD x.toNat 0
section
variable {N : Nat} {nm : List Int} (hp : nm.Perm (allN N))
include hp
theorem nmf_len : nm.length = N := by rw [hp.length_eq]; simp [allN]
theorem nmf_get {x : Int} (h : inN N x) : ∃ k : x.toNat < nm.length, nmf nm x = nm[x.toNat] := by
  have := nmf_len hp
  unfold inN at h
  refine ⟨by omega, ?_⟩
  unfold nmf
  rw [List.getD_eq_getElem?_getD, List.getElem?_eq_getElem (by omega)]
  rfl
theorem nmf_bd (x : Int) (h : inN N x) : inN N (nmf nm x) := by
  obtain ⟨k, e⟩ := nmf_get hp h
  rw [e]
  exact allN_mem.1 (hp.mem_iff.1 (List.getElem_mem k))
theorem nmf_inj {x y : Int} (hx : inN N x) (hy : inN N y) (e : nmf nm x = nmf nm y) : x = y := by
  obtain ⟨kx, ex⟩ := nmf_get hp hx
  obtain ⟨ky, ey⟩ := nmf_get hp hy
  have nd : nm.Nodup := hp.nodup_iff.2 (allN_nodup N)
  rw [ex, ey] at e
  unfold inN at hx hy
  rcases Nat.lt_trichotomy x.toNat y.toNat with k | k | k
  · exact absurd e (List.pairwise_iff_getElem.1 nd _ _ kx ky k)
  · omega
  · exact absurd e.symm (List.pairwise_iff_getElem.1 nd _ _ ky kx k)
theorem nmf_sur {y : Int} (h : inN N y) : ∃ x, inN N x ∧ nmf nm x = y := by
  have hm : y ∈ nm := hp.mem_iff.2 (allN_mem.2 h)
  obtain ⟨i, hi, rfl⟩ := List.getElem_of_mem hm
  have := nmf_len hp
  refine ⟨(i : Int), ⟨by omega, by omega⟩, ?_⟩
  unfold nmf
  rw [List.getD_eq_getElem?_getD, List.getElem?_eq_getElem (by omega)]
  rfl
end
open Classical in
noncomputable def nmg (N : Nat) (nm : List Int) (y : Int) : Int := if h : ∃ x, inN N x ∧ nmf nm x = y then Classical.choose h else 0
/-- The edges with other names. -/
def rnG (nm : List Int) (E : List Ed) : List Ed := ofE (E.map (rnE nm)) []
section
variable {N : Nat} {E : List Ed} {nm : List Int} (h : GOK (N : Int) E) (hp : nm.Perm (allN N))
include h hp
omit h hp in
theorem rnG_mem (z : Ed) : z ∈ rnG nm E ↔ ∃ d ∈ E, z = nrmE (nmf nm d.1) (nmf nm d.2) := by
  unfold rnG
  rw [(ofE_spec (E.map (rnE nm)) [] List.Pairwise.nil).2]
  constructor
  · rintro (k | ⟨e, he, rfl⟩)
    · cases k
    · obtain ⟨d, hd, rfl⟩ := List.mem_map.1 he
      exact ⟨d, hd, rfl⟩
  · rintro ⟨d, hd, rfl⟩
    exact .inr ⟨_, List.mem_map.2 ⟨d, hd, rfl⟩, rfl⟩
theorem rnG_ne {d : Ed} (hd : d ∈ E) : (inN N d.1 ∧ inN N d.2) ∧ nmf nm d.1 ≠ nmf nm d.2 := by
  obtain ⟨d1, d2, d3⟩ := h.2.2 d hd
  have a : inN N d.1 := ⟨by omega, by omega⟩
  have b : inN N d.2 := ⟨by omega, by omega⟩
  refine ⟨⟨a, b⟩, fun e => ?_⟩
  have := nmf_inj hp a b e
  omega
theorem rnG_ok : GOK (N : Int) (rnG nm E) := by
  refine ⟨h.1, (ofE_spec (E.map (rnE nm)) [] List.Pairwise.nil).1, fun z hz => ?_⟩
  obtain ⟨d, hd, rfl⟩ := (rnG_mem z).1 hz
  obtain ⟨⟨a, b⟩, n⟩ := rnG_ne h hp hd
  have a := nmf_bd hp _ a
  have b := nmf_bd hp _ b
  unfold inN at a b
  rcases nrmE_cases n with ⟨l, e⟩ | ⟨l, e⟩ <;> rw [e] <;> simp only <;> omega
theorem rn_iso : Iso N E (rnG nm E) (nmf nm) (nmg N nm) := by
  have gs : ∀ y, inN N y → inN N (nmg N nm y) ∧ nmf nm (nmg N nm y) = y := fun y hy => by
    have k := nmf_sur hp hy
    unfold nmg
    rw [dif_pos k]
    exact Classical.choose_spec k
  refine ⟨nmf_bd hp, fun y hy => (gs y hy).1, fun x hx => ?_, fun y hy => (gs y hy).2, fun a b ha hb => ?_⟩
  · obtain ⟨g1, g2⟩ := gs _ (nmf_bd hp x hx)
    exact nmf_inj hp g1 hx g2
  · constructor
    · have key : ∀ {a b : Int}, inN N a → inN N b → (nmf nm a, nmf nm b) ∈ rnG nm E → jn E a b := fun {a b} ha hb k => by
        obtain ⟨d, hd, e⟩ := (rnG_mem _).1 k
        obtain ⟨⟨d1, d2⟩, n⟩ := rnG_ne h hp hd
        rcases nrmE_cases n with ⟨l, e2⟩ | ⟨l, e2⟩ <;> rw [e2] at e <;> obtain ⟨e3, e4⟩ := Prod.mk.inj e
        · have q1 := nmf_inj hp ha d1 e3
          have q2 := nmf_inj hp hb d2 e4
          subst q1 q2
          exact .inl hd
        · have q1 := nmf_inj hp ha d2 e3
          have q2 := nmf_inj hp hb d1 e4
          subst q1 q2
          exact .inr hd
      rintro (k | k)
      · exact key ha hb k
      · exact jn_symm (key hb ha k)
    · have key : ∀ {a b : Int}, (a, b) ∈ E → jn (rnG nm E) (nmf nm a) (nmf nm b) := fun {a b} k => by
        have m := (rnG_mem (nm := nm) (nrmE (nmf nm a) (nmf nm b))).2 ⟨(a, b), k, rfl⟩
        obtain ⟨_, n⟩ := rnG_ne h hp k
        rcases nrmE_cases n with ⟨l, e2⟩ | ⟨l, e2⟩ <;> simp only at e2 <;> rw [e2] at m
        · exact .inl m
        · exact .inr m
      rintro (k | k)
      · exact key k
      · exact jn_symm (key k)
/-- The maximal cliques have the same number, and each is there with other names. -/
theorem names_law : (mcl N E).length = (mcl N (rnG nm E)).length ∧ ∀ S ∈ mcl N E, setOf (S.map (nmf nm)) ∈ mcl N (rnG nm E) :=
  ⟨img_len (rn_iso h hp) h (rnG_ok h hp), fun S hS => (mcl_mem (rnG_ok h hp)).2 (img_max (rn_iso h hp) ((mcl_mem h).1 hS))⟩
end
#print axioms names_law
end Go.BmP
