/- Sorted edges without repetitions. -/
import Derived.Test.YtjfdniggjdnkiaaGrfP
import Derived.Test.YtjfdniggjdnkiaaCpcG
import Derived.Test.YtjfdniggjdnkiaaBitP
set_option linter.unusedSimpArgs false
set_option linter.unusedVariables false
namespace Go.BmP
open Go.Am Go.Bm
theorem ddp_mem : ∀ (l : List Ed) (z : Ed), z ∈ ddp l ↔ z ∈ l
 | [], z => by simp [ddp]
 | [x], z => by simp [ddp]
 | x :: y :: r, z => by
   have ih := ddp_mem (y :: r) z
   unfold ddp
   split
   ·rename_i e; subst e; rw [ih]; simp
   ·simp only [List.mem_cons] at ih ⊢; rw [ih]
theorem ddp_up : ∀ {l : List Ed}, l.Pairwise (fun a b => leC cfO a b = true) -> UpE (ddp l)
 | [], _ => List.Pairwise.nil
 | [x], _ => by simp [ddp, UpE]
 | x :: y :: r, h => by
   obtain ⟨h1, h2⟩ := List.pairwise_cons.1 h
   have ih := ddp_up h2
   unfold ddp
   split
   ·exact ih
   ·rename_i hne
    refine List.pairwise_cons.2 ⟨fun z hz => ?_, ih⟩
    have hz' := (ddp_mem _ z).1 hz
    have hxz := (leO x z).1 (h1 z hz')
    have hxy := (leO x y).1 (h1 y (by simp))
    have hyz : z = y \/ leC cfO y z = true := by
     rcases List.mem_cons.1 hz' with e | e
     ·exact .inl e
     ·exact .inr ((List.pairwise_cons.1 h2).1 z e)
    have nxy : ¬ (x.1 = y.1 /\ x.2 = y.2) := fun e => hne (Prod.ext e.1 e.2)
    unfold ltE
    rcases hyz with e | e
    ·subst e; omega
    ·have e2 := (leO y z).1 e; omega
def gofL (l : List Ed) : List Ed := ddp (isortC cfO (l.map fun e => nrmE e.1 e.2))
theorem gofL_up (l : List Ed) : UpE (gofL l) := ddp_up (isortC_asc totO _)
theorem gofL_mem (l : List Ed) (z : Ed) : z ∈ gofL l ↔ ∃ e ∈ l, z = nrmE e.1 e.2 := by
 unfold gofL
 rw [ddp_mem, (isortC_perm cfO _).mem_iff, List.mem_map]
 constructor
 ·rintro ⟨a, b, c⟩; exact ⟨a, b, c.symm⟩
 ·rintro ⟨a, b, c⟩; exact ⟨a, b, c.symm⟩
end Go.BmP
