/- The first largest clique, node by node. -/
import Derived.Test.YtldlafnfkiiflaaDoorMxP
set_option linter.unusedSimpArgs false
set_option linter.unusedVariables false
namespace Go.BmP
open Go.Am Go.Bm
structure Bst (A : List Nat) (m0 : Nat) (O : List Nat) (m left w : Nat) : Prop where
 kq : Kq A O
 inb : Inb m0 O
 sub : ∀ y, m.testBit y = true -> m0.testBit y = true
 up : ∀ x ∈ O, ∀ y, m.testBit y = true -> x < y /\ (A.getD x 0).testBit y = true
 ex : ∃ S, Kq A S /\ Inb m S /\ S.length = left
 len : O.length + left = w
theorem bst_start {A : List Nat} {m0 : Nat} {r : Int} (h : Rg A 0 m0 0 r) : ∃ w : Nat, r = w /\ Bst A m0 [] m0 w w /\ ∀ S, Kq A S -> Inb m0 S -> S.length <= w := by
 obtain ⟨h1, h2, h3⟩ := h
 obtain ⟨w, rfl⟩ : ∃ w : Nat, r = w := ⟨r.toNat, by omega⟩
 refine ⟨w, rfl, ⟨.nil, fun x hx => by simp at hx, fun _ h => h, fun x hx => by simp at hx, ?_, by simp⟩, fun S hK hI => by have := h2 S hK hI; omega⟩
 rcases h3 with h | ⟨S, k1, k2, k3⟩
 ·exact ⟨[], .nil, fun x hx => by simp at hx, by simp; omega⟩
 ·exact ⟨S, k1, k2, by omega⟩
def Fnd (A : List Nat) (m left mm : Nat) : Prop := (∃ S, Kq A S /\ Inb mm S /\ S.length = left) /\ ∀ y, mm.testBit y = true -> m.testBit y = true
theorem Bst.fnd {A : List Nat} {m0 : Nat} {O : List Nat} {m left w : Nat} (h : Bst A m0 O m left w) : Fnd A m left m := ⟨h.ex, fun _ h => h⟩
theorem Fnd.ne {A : List Nat} {m left mm : Nat} (h : Fnd A m left mm) (hl : 0 < left) : mm ≠ 0 := by
 obtain ⟨⟨S, _, h2, h3⟩, _⟩ := h
 rintro rfl
 rw [inb_zero h2] at h3
 simp at h3; omega
theorem Fnd.miss {A : List Nat} {m left mm : Nat} {r : Int} (h : Fnd A m left mm) (hl : 0 < left) (hm : mm < 18446744073709551616) (hr : Rg A 0 (wo mm (tz mm) &&& A.getD (tz mm) 0) ((left : Int) - 2) r) (hlt : r < (left : Int) - 1) : Fnd A m left (mm &&& (mm - 1)) := by
 have h0 := h.ne hl
 obtain ⟨⟨S, h1, h2, h3⟩, h4⟩ := h
 obtain ⟨_, _, hv⟩ := tz_spec h0 hm
 have db := drop_bit h0 hm
 refine ⟨⟨S, h1, ?_, h3⟩, fun y hy => ?_⟩
 ·rcases kq_least h0 hm h1 h2 with k | ⟨T, rfl, k1, k2⟩
  ·intro x hx
   have := k x hx
   rw [wo_bit hm hv] at this
   rw [db]; exact this
  ·have := hr.2.1 T k1 k2
   simp at h3
   omega
 ·rw [db] at hy
  simp at hy
  exact h4 y hy.1
theorem Fnd.take {A : List Nat} {m0 : Nat} {O : List Nat} {m left w mm : Nat} {r : Int} (b : Bst A m0 O m left w) (h : Fnd A m left mm) (hl : 0 < left) (hm : mm < 18446744073709551616) (hr : Rg A 0 (wo mm (tz mm) &&& A.getD (tz mm) 0) ((left : Int) - 2) r) (hge : (left : Int) - 1 <= r) : Bst A m0 (O ++ [tz mm]) (wo mm (tz mm) &&& A.getD (tz mm) 0) (left - 1) w := by
 have h0 := h.ne hl
 obtain ⟨_, h4⟩ := h
 obtain ⟨_, _, hv⟩ := tz_spec h0 hm
 obtain ⟨b1, b2⟩ := tz_bit h0 hm
 have hrest : ∀ y, (wo mm (tz mm) &&& A.getD (tz mm) 0).testBit y = true -> mm.testBit y = true /\ tz mm < y /\ (A.getD (tz mm) 0).testBit y = true := by
  intro y hy
  rw [Nat.testBit_and, wo_bit hm hv] at hy
  simp only [Bool.and_eq_true, decide_eq_true_eq] at hy
  obtain ⟨⟨q1, q2⟩, q3⟩ := hy
  refine ⟨q1, ?_, q3⟩
  apply Classical.byContradiction
  intro k
  have := b2 y (by omega)
  rw [q1] at this; cases this
 refine ⟨?_, fun x hx => ?_, fun y hy => b.sub y (h4 y (hrest y hy).1), fun x hx y hy => ?_, ?_, ?_⟩
 ·refine List.pairwise_append.2 ⟨b.kq, List.pairwise_singleton _ _, fun x hx y hy => ?_⟩
  simp only [List.mem_singleton] at hy
  subst hy
  exact b.up x hx _ (h4 _ b1)
 ·rcases List.mem_append.1 hx with hx | hx
  ·exact b.inb x hx
  ·simp only [List.mem_singleton] at hx
   subst hx
   exact b.sub _ (h4 _ b1)
 ·obtain ⟨q1, q2, q3⟩ := hrest y hy
  rcases List.mem_append.1 hx with hx | hx
  ·exact b.up x hx y (h4 y q1)
  ·simp only [List.mem_singleton] at hx
   subst hx
   exact ⟨q2, q3⟩
 ·rcases hr.2.2 with k | ⟨S, k1, k2, k3⟩
  ·omega
  ·refine ⟨S.take (left - 1), k1.sublist (List.take_sublist _ _), fun x hx => k2 x (List.mem_of_mem_take hx), ?_⟩
   rw [List.length_take]; omega
 ·have := b.len
  simp; omega
end Go.BmP
