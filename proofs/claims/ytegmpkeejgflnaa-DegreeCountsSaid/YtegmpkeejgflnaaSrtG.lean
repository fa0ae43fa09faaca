/- A plain sort of ints; the library's sort as a function that writes into the slice it is given. -/
import Derived.Test.YtegmpkeejgflnaaMe
namespace Go.Am
def intsOf : List AV -> Option (List Int)
 | [] => some []
 | .int .i64 n :: r => match intsOf r with
   | some l => some (n :: l)
   | none => none
 | _ => none
theorem intsOf_eq : ∀ {cs : List AV} {zs : List Int}, intsOf cs = some zs -> cs = zs.map (AV.int .i64)
 | [], zs, h => by simp [intsOf] at h; subst h; rfl
 | c :: r, zs, h => by
   unfold intsOf at h
   split at h
   ·rename_i heq; cases heq
   ·rename_i n r' heq
    cases heq
    split at h
    ·rename_i l hl
     simp at h
     subst h
     rw [intsOf_eq hl]
     rfl
    ·cases h
   ·cases h
theorem intsOf_ints (zs : List Int) : intsOf (zs.map (AV.int .i64)) = some zs := by
 induction zs with
 | nil => rfl
 | cons z r ih => simp [intsOf, ih]
end Go.Am
namespace Go.Bm
open Go.Am
def insI (x : Int) : List Int -> List Int
 | [] => [x]
 | y :: r => if x <= y then x :: y :: r else y :: insI x r
def isort : List Int -> List Int
 | [] => []
 | x :: r => insI x (isort r)
theorem insI_perm (x : Int) : ∀ l, (insI x l).Perm (x :: l)
 | [] => .refl _
 | y :: r => by
   unfold insI
   split
   ·exact .refl _
   ·exact ((insI_perm x r).cons y).trans (List.Perm.swap x y r)
theorem isort_perm : ∀ l, (isort l).Perm l
 | [] => .refl _
 | x :: r => (insI_perm x (isort r)).trans ((isort_perm r).cons x)
theorem insI_mem {x z : Int} {l : List Int} : z ∈ insI x l ↔ z = x \/ z ∈ l := by
 rw [(insI_perm x l).mem_iff]; simp
theorem insI_asc (x : Int) : ∀ {l : List Int}, l.Pairwise (· <= ·) -> (insI x l).Pairwise (· <= ·)
 | [], _ => by simp [insI]
 | y :: r, h => by
   obtain ⟨h1, h2⟩ := List.pairwise_cons.1 h
   unfold insI
   split
   ·rename_i hle
    refine List.pairwise_cons.2 ⟨fun z hz => ?_, h⟩
    rcases List.mem_cons.1 hz with e | e
    ·omega
    ·have := h1 z e; omega
   ·rename_i hle
    refine List.pairwise_cons.2 ⟨fun z hz => ?_, insI_asc x h2⟩
    rcases insI_mem.1 hz with e | e
    ·omega
    ·exact h1 z e
theorem isort_asc : ∀ l, (isort l).Pairwise (· <= ·)
 | [] => .nil
 | x :: r => insI_asc x (isort_asc r)
theorem isort_length (l : List Int) : (isort l).length = l.length := (isort_perm l).length_eq
theorem asc_perm_eq : ∀ {l m : List Int}, l.Perm m -> l.Pairwise (· <= ·) -> m.Pairwise (· <= ·) -> l = m
 | [], m, h, _, _ => (List.Perm.nil_eq h)
 | x :: r, [], h, _, _ => by have := h.length_eq; simp at this
 | x :: r, y :: s, h, h1, h2 => by
   obtain ⟨a1, a2⟩ := List.pairwise_cons.1 h1
   obtain ⟨b1, b2⟩ := List.pairwise_cons.1 h2
   have hx : x ∈ y :: s := h.mem_iff.1 (by simp)
   have hy : y ∈ x :: r := h.mem_iff.2 (by simp)
   have e : x = y := by
    rcases List.mem_cons.1 hx with e | e
    ·exact e
    ·rcases List.mem_cons.1 hy with e2 | e2
     ·exact e2.symm
     ·have := a1 y e2; have := b1 x e; omega
   subst e
   rw [asc_perm_eq (List.Perm.cons_inv h) a2 b2]
def srtG (k : Nat) (xs es : List AV) : Option (List AV × Option Nat) :=
 match k, es with
 | 1, [] => if xs.length <= LIM then match intsOf xs with
   | some zs => some ((isort zs).map (AV.int .i64), none)
   | none => none
   else none
 | _, _ => none
end Go.Bm
