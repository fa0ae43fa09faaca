/- A plain sort of ints; the library's sort as a function that writes into the slice it is given. -/
import Derived.Test.YtjfdniggjdnkiaaMe
import Derived.Lib.TrailingZeros
import Derived.Laws.BitsAllLaws
namespace Go.Am
def intsOf : List AV -> Option (List Int)
 | [] => some []
 | .int .i64 n :: r => match intsOf r with
   | some l => some (n :: l)
   | none => none
 | _ => none
theorem intsOf_eq : ∀ {cs : List AV} {zs : List Int}, intsOf cs = some zs -> cs = zs.map (AV.int .i64)
 | [], zs, h => by simp [intsOf] at h; subst h; rfl
 | c :: r, zs, h => by
   unfold intsOf at h
   split at h
   ·rename_i heq; cases heq
   ·rename_i n r' heq
    cases heq
    split at h
    ·rename_i l hl
     simp at h
     subst h
     rw [intsOf_eq hl]
     rfl
    ·cases h
   ·cases h
theorem intsOf_ints (zs : List Int) : intsOf (zs.map (AV.int .i64)) = some zs := by
 induction zs with
 | nil => rfl
 | cons z r ih => simp [intsOf, ih]
end Go.Am
namespace Go.Bm
open Go.Am
def insI (x : Int) : List Int -> List Int
 | [] => [x]
 | y :: r => if x <= y then x :: y :: r else y :: insI x r
def isort : List Int -> List Int
 | [] => []
 | x :: r => insI x (isort r)
theorem insI_perm (x : Int) : ∀ l, (insI x l).Perm (x :: l)
 | [] => .refl _
 | y :: r => by
   unfold insI
   split
   ·exact .refl _
   ·exact ((insI_perm x r).cons y).trans (List.Perm.swap x y r)
theorem isort_perm : ∀ l, (isort l).Perm l
 | [] => .refl _
 | x :: r => (insI_perm x (isort r)).trans ((isort_perm r).cons x)
theorem insI_mem {x z : Int} {l : List Int} : z ∈ insI x l ↔ z = x \/ z ∈ l := by
 rw [(insI_perm x l).mem_iff]; simp
theorem insI_asc (x : Int) : ∀ {l : List Int}, l.Pairwise (· <= ·) -> (insI x l).Pairwise (· <= ·)
 | [], _ => by simp [insI]
 | y :: r, h => by
   obtain ⟨h1, h2⟩ := List.pairwise_cons.1 h
   unfold insI
   split
   ·rename_i hle
    refine List.pairwise_cons.2 ⟨fun z hz => ?_, h⟩
    rcases List.mem_cons.1 hz with e | e
    ·omega
    ·have := h1 z e; omega
   ·rename_i hle
    refine List.pairwise_cons.2 ⟨fun z hz => ?_, insI_asc x h2⟩
    rcases insI_mem.1 hz with e | e
    ·omega
    ·exact h1 z e
theorem isort_asc : ∀ l, (isort l).Pairwise (· <= ·)
 | [] => .nil
 | x :: r => insI_asc x (isort_asc r)
theorem isort_length (l : List Int) : (isort l).length = l.length := (isort_perm l).length_eq
theorem asc_perm_eq : ∀ {l m : List Int}, l.Perm m -> l.Pairwise (· <= ·) -> m.Pairwise (· <= ·) -> l = m
 | [], m, h, _, _ => (List.Perm.nil_eq h)
 | x :: r, [], h, _, _ => by have := h.length_eq; simp at this
 | x :: r, y :: s, h, h1, h2 => by
   obtain ⟨a1, a2⟩ := List.pairwise_cons.1 h1
   obtain ⟨b1, b2⟩ := List.pairwise_cons.1 h2
   have hx : x ∈ y :: s := h.mem_iff.1 (by simp)
   have hy : y ∈ x :: r := h.mem_iff.2 (by simp)
   have e : x = y := by
    rcases List.mem_cons.1 hx with e | e
    ·exact e
    ·rcases List.mem_cons.1 hy with e2 | e2
     ·exact e2.symm
     ·have := a1 y e2; have := b1 x e; omega
   subst e
   rw [asc_perm_eq (List.Perm.cons_inv h) a2 b2]
def srtG (k : Nat) (xs es : List AV) : Option (List AV × Option Nat) :=
 match k, es with
 | 1, [] => if xs.length <= LIM then match intsOf xs with
   | some zs => some ((isort zs).map (AV.int .i64), none)
   | none => none
   else none
 | _, _ => none
/- Plain facts on strictly rising lists of ints: what sort and compact give, and what a merge gives. -/
set_option linter.unusedVariables false
set_option linter.unusedSimpArgs false
def Up (l : List Int) : Prop := l.Pairwise (· < ·)
def dd : List Int -> List Int
 | [] => []
 | [x] => [x]
 | x :: y :: r => if x = y then dd (y :: r) else x :: dd (y :: r)
theorem dd_mem : ∀ (l : List Int) (z : Int), z ∈ dd l ↔ z ∈ l
 | [], z => by simp [dd]
 | [x], z => by simp [dd]
 | x :: y :: r, z => by
   have ih := dd_mem (y :: r) z
   unfold dd
   split
   ·rename_i e; subst e; rw [ih]; simp
   ·rw [List.mem_cons, ih, List.mem_cons (a := z) (b := x)]
theorem dd_up : ∀ {l : List Int}, l.Pairwise (· <= ·) -> Up (dd l)
 | [], _ => by simp [dd, Up]
 | [x], _ => by simp [dd, Up]
 | x :: y :: r, h => by
   obtain ⟨h1, h2⟩ := List.pairwise_cons.1 h
   have ih := dd_up h2
   unfold dd
   split
   ·exact ih
   ·rename_i hne
    refine List.pairwise_cons.2 ⟨fun z hz => ?_, ih⟩
    have hz := (dd_mem _ _).1 hz
    have a := h1 y (by simp)
    have b := (List.pairwise_cons.1 h2).1
    rcases List.mem_cons.1 hz with e | e
    ·subst e; omega
    ·have := b z e; omega
def setOf (zs : List Int) : List Int := dd (isort zs)
theorem setOf_spec (zs : List Int) : Up (setOf zs) /\ ∀ x, x ∈ setOf zs ↔ x ∈ zs :=
 ⟨dd_up (isort_asc zs), fun x => (dd_mem _ _).trans (isort_perm zs).mem_iff⟩
theorem up_ext {a b : List Int} (ha : Up a) (hb : Up b) (h : ∀ x, x ∈ a ↔ x ∈ b) : a = b := by
 induction a generalizing b with
 | nil =>
   cases b with
   | nil => rfl
   | cons y s => exact absurd ((h y).mpr (by simp)) (by simp)
 | cons x r ih =>
   cases b with
   | nil => exact absurd ((h x).mp (by simp)) (by simp)
   | cons y s =>
     unfold Up at ha hb
     rw [List.pairwise_cons] at ha hb
     have hxy : x = y := by
      have h1 := (h x).mp (by simp)
      have h2 := (h y).mpr (by simp)
      simp only [List.mem_cons] at h1 h2
      rcases h1 with e | e
      ·exact e
      ·rcases h2 with e2 | e2
       ·exact e2.symm
       ·have := ha.1 _ e2
        have := hb.1 _ e
        omega
     subst hxy
     congr 1
     refine ih ha.2 hb.2 fun z => ?_
     have hz := h z
     simp only [List.mem_cons] at hz
     constructor
     ·intro hr
      rcases hz.mp (.inr hr) with e | e
      ·have := ha.1 _ hr; omega
      ·exact e
     ·intro hr
      rcases hz.mpr (.inr hr) with e | e
      ·have := hb.1 _ hr; omega
      ·exact e
def put1 (c : Bool) (x : Int) (m : List Int) : List Int := if c = true then x :: m else m
def mrg (keep : Bool -> Bool -> Bool) : List Int -> List Int -> List Int
 | [], [] => []
 | x :: r, [] => put1 (keep true false) x (mrg keep r [])
 | [], y :: s => put1 (keep false true) y (mrg keep [] s)
 | x :: r, y :: s =>
   if x < y then put1 (keep true false) x (mrg keep r (y :: s))
   else if y < x then put1 (keep false true) y (mrg keep (x :: r) s)
   else put1 (keep true true) x (mrg keep r s)
termination_by a b => a.length + b.length
def uni (a b : List Int) : List Int := mrg (fun _ _ => true) (setOf a) (setOf b)
def meet (a b : List Int) : List Int := mrg (fun p r => p && r) (setOf a) (setOf b)
def minus (a b : List Int) : List Int := mrg (fun _ r => !r) (setOf a) (setOf b)
def gClo : List AV -> Heap -> Option (AV × Heap)
 | [.list 1 []], [] => some (.list 1 [], [])
 | _, _ => none
def cptG (k : Nat) (xs es : List AV) : Option (List AV × Option Nat) :=
 match k, es with
 | 1, [] => if xs.length <= LIM then match intsOf xs with
   | some zs => some ((dd zs ++ List.replicate (zs.length - (dd zs).length) 0).map (AV.int .i64), some (dd zs).length)
   | none => none
   else none
 | _, _ => none
/- What functions on lists of ints answer, in plain terms. -/
def cmpL : List Int -> List Int -> Int
 | [], [] => 0
 | [], _ :: _ => -1
 | _ :: _, [] => 1
 | x :: r, y :: s => if y < x then 1 else if x < y then -1 else cmpL r s
def valGo (n : Int) : Int -> List Int -> Bool
 | _, [] => true
 | p, x :: r => decide (0 <= x) && (decide (x < n) && (decide (p < x) && valGo n x r))
def prev (l : List Int) (i : Nat) : Int := if i = 0 then -1 else l.getD (i - 1) 0
def putI (x : Int) : List Int -> List Int
 | [] => [x]
 | y :: r => if y < x then y :: putI x r else if y = x then y :: r else x :: y :: r
theorem putI_len (x : Int) : ∀ l, (putI x l).length <= l.length + 1
 | [] => by simp [putI]
 | y :: r => by
   have := putI_len x r
   unfold putI
   split
   ·simp; omega
   ·split <;> simp
theorem putI_mem (x z : Int) : ∀ l, z ∈ putI x l ↔ z = x \/ z ∈ l
 | [] => by simp [putI]
 | y :: r => by
   have ih := putI_mem x z r
   unfold putI
   split
   ·simp only [List.mem_cons, ih]; constructor <;> (intro h; rcases h with h | h | h <;> simp [h])
   ·split
    ·rename_i e; subst e; simp
    ·simp
theorem putI_up (x : Int) : ∀ {l}, Up l -> Up (putI x l)
 | [], _ => by simp [putI, Up]
 | y :: r, h => by
   obtain ⟨h1, h2⟩ := List.pairwise_cons.1 h
   unfold putI
   split
   ·rename_i hlt
    refine List.pairwise_cons.2 ⟨fun z hz => ?_, putI_up x h2⟩
    rcases (putI_mem x z r).1 hz with e | e
    ·omega
    ·exact h1 z e
   ·split
    ·exact h
    ·refine List.pairwise_cons.2 ⟨fun z hz => ?_, h⟩
     rcases List.mem_cons.1 hz with e | e
     ·omega
     ·have := h1 z e; omega
def pos (x : Int) : List Int -> Nat
 | [] => 0
 | y :: r => if y < x then pos x r + 1 else 0
theorem pos_le (x : Int) : ∀ l, pos x l <= l.length
 | [] => by simp [pos]
 | y :: r => by have := pos_le x r; unfold pos; split <;> simp <;> omega
theorem putI_pos (x : Int) : ∀ l, putI x l = if l[pos x l]? = some x then l else l.take (pos x l) ++ x :: l.drop (pos x l)
 | [] => by simp [putI, pos]
 | y :: r => by
   have ih := putI_pos x r
   unfold putI pos
   split
   ·rw [ih]
    simp only [List.getElem?_cons_succ, List.take_succ_cons, List.drop_succ_cons]
    split <;> simp
   ·simp only [List.getElem?_cons_zero, Option.some.injEq, List.take_zero, List.drop_zero, List.nil_append]
def ofL (l : List Int) : List Int := l.foldl (fun o x => putI x o) []
theorem fold_up : ∀ (l o : List Int), Up o -> Up (l.foldl (fun o x => putI x o) o) /\ ∀ z, z ∈ l.foldl (fun o x => putI x o) o ↔ z ∈ o \/ z ∈ l
 | [], o, h => ⟨h, fun z => by simp⟩
 | x :: r, o, h => by
   obtain ⟨h1, h2⟩ := fold_up r (putI x o) (putI_up x h)
   refine ⟨h1, fun z => ?_⟩
   rw [List.foldl_cons, h2, putI_mem]
   simp only [List.mem_cons]
   constructor
   ·rintro ((h | h) | h) <;> simp [h]
   ·rintro (h | h | h) <;> simp [h]
theorem ofL_eq (l : List Int) : ofL l = setOf l := by
 obtain ⟨h1, h2⟩ := fold_up l [] (by simp [Up])
 obtain ⟨h3, h4⟩ := setOf_spec l
 exact up_ext h1 h3 fun x => by rw [h4]; exact (h2 x).trans (by simp)
/- Sets of nodes as bits: plain facts. -/
def tz (x : Nat) : Nat := Lib.ctz 64 x
def bitL (m : Nat) : List Int := ((List.range 64).filter fun j => m.testBit j).map fun j => ((j : Nat) : Int)
def mskF (l : List Int) (m : Nat) : Nat := l.foldl (fun m v => m ||| 2 ^ v.toNat) m
def msk (l : List Int) : Nat := mskF l 0
/-! Operations of uint64 -/
end Go.Bm
