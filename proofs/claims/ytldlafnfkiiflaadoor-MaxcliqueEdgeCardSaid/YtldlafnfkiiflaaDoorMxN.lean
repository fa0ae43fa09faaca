/- Two graphs beside each other. -/
import Derived.Test.YtldlafnfkiiflaaDoorBicP
set_option linter.unusedSimpArgs false
set_option linter.unusedVariables false
namespace Go.BmP
open Go.Am Go.Bm
theorem jn_bd {N : Nat} {Es : List Ed} (hG : GOK (N : Int) Es) {u x : Int} (h : jn Es u x) : (0 <= u /\ u < N) /\ (0 <= x /\ x < N) /\ u ≠ x := by
 rcases h with h | h <;> (have := hG.2.2 _ h; simp only at this; omega)
/-! Two graphs beside each other -/
def shE (a : Nat) (e : Ed) : Ed := (e.1 + a, e.2 + a)
def bsE (a : Nat) (E F : List Ed) : List Ed := ofE (E ++ F.map (shE a)) []
theorem bsE_mem {a b : Nat} {E F : List Ed} (hE : GOK (a : Int) E) (hF : GOK (b : Int) F) (z : Ed) : z ∈ bsE a E F ↔ z ∈ E \/ ∃ e ∈ F, z = shE a e := by
 unfold bsE
 rw [(ofE_spec (E ++ F.map (shE a)) [] List.Pairwise.nil).2]
 have nr : ∀ e : Ed, e.1 < e.2 -> nrmE e.1 e.2 = e := fun e h => by unfold nrmE; rw [if_neg (by omega), if_pos h]
 constructor
 ·rintro (k | ⟨e, he, rfl⟩)
  ·cases k
  ·rcases List.mem_append.1 he with q | q
   ·left; rw [nr e (hE.2.2 e q).2.1]; exact q
   ·obtain ⟨d, hd, rfl⟩ := List.mem_map.1 q
    have := (hF.2.2 d hd).2.1
    right
    exact ⟨d, hd, nr _ (by simp [shE]; exact this)⟩
 ·rintro (k | ⟨d, hd, rfl⟩)
  ·exact .inr ⟨z, by simp [k], (nr z (hE.2.2 z k).2.1).symm⟩
  ·have := (hF.2.2 d hd).2.1
   exact .inr ⟨shE a d, List.mem_append.2 (.inr (List.mem_map.2 ⟨d, hd, rfl⟩)), (nr _ (by simp [shE]; exact this)).symm⟩
theorem bsE_ok {a b : Nat} {E F : List Ed} (hE : GOK (a : Int) E) (hF : GOK (b : Int) F) (h : a + b <= 64) : GOK ((a + b : Nat) : Int) (bsE a E F) := by
 refine ⟨by omega, (ofE_spec _ [] List.Pairwise.nil).1, fun z hz => ?_⟩
 rcases (bsE_mem hE hF z).1 hz with k | ⟨e, he, rfl⟩
 ·have := hE.2.2 z k; omega
 ·have := hF.2.2 e he
  simp only [shE]; omega
theorem bsE_jn {a b : Nat} {E F : List Ed} (hE : GOK (a : Int) E) (hF : GOK (b : Int) F) (x y : Int) : jn (bsE a E F) x y ↔ jn E x y \/ jn F (x - a) (y - a) := by
 unfold jn
 rw [bsE_mem hE hF, bsE_mem hE hF]
 have key : ∀ x y : Int, (∃ e ∈ F, (x, y) = shE a e) ↔ (x - a, y - a) ∈ F := fun x y => by
  constructor
  ·rintro ⟨e, he, h⟩
   obtain ⟨h1, h2⟩ := Prod.mk.inj h
   rw [h1, h2, show e.1 + (a : Int) - a = e.1 by omega, show e.2 + (a : Int) - a = e.2 by omega]
   exact he
  ·intro h
   exact ⟨_, h, Prod.ext (by simp [shE]) (by simp [shE])⟩
 rw [key, key]
 constructor
 ·rintro ((h | h) | (h | h))
  ·exact .inl (.inl h)
  ·exact .inr (.inl h)
  ·exact .inl (.inr h)
  ·exact .inr (.inr h)
 ·rintro ((h | h) | (h | h))
  ·exact .inl (.inl h)
  ·exact .inr (.inl h)
  ·exact .inl (.inr h)
  ·exact .inr (.inr h)
end Go.BmP
