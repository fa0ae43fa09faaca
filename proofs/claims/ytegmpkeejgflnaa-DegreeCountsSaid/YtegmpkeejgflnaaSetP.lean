/- Plain facts on strictly rising lists of ints: what sort and compact give, and what a merge gives. -/
import Derived.Test.YtegmpkeejgflnaaSrtG
set_option linter.unusedVariables false
set_option linter.unusedSimpArgs false
namespace Go.Bm
open Go.Am
def Up (l : List Int) : Prop := l.Pairwise (· < ·)
def dd : List Int -> List Int
 | [] => []
 | [x] => [x]
 | x :: y :: r => if x = y then dd (y :: r) else x :: dd (y :: r)
theorem dd_mem : ∀ (l : List Int) (z : Int), z ∈ dd l ↔ z ∈ l
 | [], z => by simp [dd]
 | [x], z => by simp [dd]
 | x :: y :: r, z => by
   have ih := dd_mem (y :: r) z
   unfold dd
   split
   ·rename_i e; subst e; rw [ih]; simp
   ·rw [List.mem_cons, ih, List.mem_cons (a := z) (b := x)]
theorem dd_up : ∀ {l : List Int}, l.Pairwise (· <= ·) -> Up (dd l)
 | [], _ => by simp [dd, Up]
 | [x], _ => by simp [dd, Up]
 | x :: y :: r, h => by
   obtain ⟨h1, h2⟩ := List.pairwise_cons.1 h
   have ih := dd_up h2
   unfold dd
   split
   ·exact ih
   ·rename_i hne
    refine List.pairwise_cons.2 ⟨fun z hz => ?_, ih⟩
    have hz := (dd_mem _ _).1 hz
    have a := h1 y (by simp)
    have b := (List.pairwise_cons.1 h2).1
    rcases List.mem_cons.1 hz with e | e
    ·subst e; omega
    ·have := b z e; omega
def setOf (zs : List Int) : List Int := dd (isort zs)
theorem setOf_spec (zs : List Int) : Up (setOf zs) /\ ∀ x, x ∈ setOf zs ↔ x ∈ zs :=
 ⟨dd_up (isort_asc zs), fun x => (dd_mem _ _).trans (isort_perm zs).mem_iff⟩
theorem up_ext {a b : List Int} (ha : Up a) (hb : Up b) (h : ∀ x, x ∈ a ↔ x ∈ b) : a = b := by
 induction a generalizing b with
 | nil =>
   cases b with
   | nil => rfl
   | cons y s => exact absurd ((h y).mpr (by simp)) (by simp)
 | cons x r ih =>
   cases b with
   | nil => exact absurd ((h x).mp (by simp)) (by simp)
   | cons y s =>
     unfold Up at ha hb
     rw [List.pairwise_cons] at ha hb
     have hxy : x = y := by
      have h1 := (h x).mp (by simp)
      have h2 := (h y).mpr (by simp)
      simp only [List.mem_cons] at h1 h2
      rcases h1 with e | e
      ·exact e
      ·rcases h2 with e2 | e2
       ·exact e2.symm
       ·have := ha.1 _ e2
        have := hb.1 _ e
        omega
     subst hxy
     congr 1
     refine ih ha.2 hb.2 fun z => ?_
     have hz := h z
     simp only [List.mem_cons] at hz
     constructor
     ·intro hr
      rcases hz.mp (.inr hr) with e | e
      ·have := ha.1 _ hr; omega
      ·exact e
     ·intro hr
      rcases hz.mpr (.inr hr) with e | e
      ·have := hb.1 _ hr; omega
      ·exact e
def put1 (c : Bool) (x : Int) (m : List Int) : List Int := if c = true then x :: m else m
def mrg (keep : Bool -> Bool -> Bool) : List Int -> List Int -> List Int
 | [], [] => []
 | x :: r, [] => put1 (keep true false) x (mrg keep r [])
 | [], y :: s => put1 (keep false true) y (mrg keep [] s)
 | x :: r, y :: s =>
   if x < y then put1 (keep true false) x (mrg keep r (y :: s))
   else if y < x then put1 (keep false true) y (mrg keep (x :: r) s)
   else put1 (keep true true) x (mrg keep r s)
termination_by a b => a.length + b.length
def uni (a b : List Int) : List Int := mrg (fun _ _ => true) (setOf a) (setOf b)
def meet (a b : List Int) : List Int := mrg (fun p r => p && r) (setOf a) (setOf b)
def minus (a b : List Int) : List Int := mrg (fun _ r => !r) (setOf a) (setOf b)
def gClo : List AV -> Heap -> Option (AV × Heap)
 | [.list 1 []], [] => some (.list 1 [], [])
 | _, _ => none
def cptG (k : Nat) (xs es : List AV) : Option (List AV × Option Nat) :=
 match k, es with
 | 1, [] => if xs.length <= LIM then match intsOf xs with
   | some zs => some ((dd zs ++ List.replicate (zs.length - (dd zs).length) 0).map (AV.int .i64), some (dd zs).length)
   | none => none
   else none
 | _, _ => none
end Go.Bm
