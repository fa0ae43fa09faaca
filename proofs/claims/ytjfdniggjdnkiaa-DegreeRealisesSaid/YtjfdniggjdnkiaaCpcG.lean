/- A plain sort of pairs by a comparison; the library's sort by a comparison as a function that writes into the slice it is given. -/
import Derived.Test.YtjfdniggjdnkiaaMe
namespace Go.Bm
open Go.Am
def pr2 (x : Int × Int) : AV := .agg [.int .i64 x.1, .int .i64 x.2]
def prsOf : List AV -> Option (List (Int × Int))
 | [] => some []
 | .agg [.int .i64 a, .int .i64 b] :: r => match prsOf r with
   | some l => some ((a, b) :: l)
   | none => none
 | _ => none
theorem prsOf_eq : ∀ {cs : List AV} {zs : List (Int × Int)}, prsOf cs = some zs -> cs = zs.map pr2
 | [], zs, h => by simp [prsOf] at h; subst h; rfl
 | c :: r, zs, h => by
   unfold prsOf at h
   split at h
   ·rename_i heq; cases heq
   ·rename_i a b r' heq
    cases heq
    split at h
    ·rename_i l hl
     simp at h
     subst h
     rw [prsOf_eq hl]
     rfl
    ·cases h
   ·cases h
theorem prsOf_map (zs : List (Int × Int)) : prsOf (zs.map pr2) = some zs := by
 induction zs with
 | nil => rfl
 | cons z r ih => simp [prsOf, pr2] at ih ⊢; rw [ih]
def leC (cf : Int × Int -> Int × Int -> Int) (x y : Int × Int) : Bool := !decide (cf y x < 0)
def insC (cf : Int × Int -> Int × Int -> Int) (x : Int × Int) : List (Int × Int) -> List (Int × Int)
 | [] => [x]
 | y :: r => if leC cf x y = true then x :: y :: r else y :: insC cf x r
def isortC (cf : Int × Int -> Int × Int -> Int) : List (Int × Int) -> List (Int × Int)
 | [] => []
 | x :: r => insC cf x (isortC cf r)
theorem insC_perm (cf : Int × Int -> Int × Int -> Int) (x : Int × Int) : ∀ l, (insC cf x l).Perm (x :: l)
 | [] => .refl _
 | y :: r => by
   unfold insC
   split
   ·exact .refl _
   ·exact ((insC_perm cf x r).cons y).trans (.swap x y r)
theorem isortC_perm (cf : Int × Int -> Int × Int -> Int) : ∀ l, (isortC cf l).Perm l
 | [] => .refl _
 | x :: r => (insC_perm cf x _).trans ((isortC_perm cf r).cons x)
theorem isortC_length (cf : Int × Int -> Int × Int -> Int) (l : List (Int × Int)) : (isortC cf l).length = l.length := (isortC_perm cf l).length_eq
structure TotC (cf : Int × Int -> Int × Int -> Int) : Prop where
 tr : ∀ x y z, leC cf x y = true -> leC cf y z = true -> leC cf x z = true
 tot : ∀ x y, leC cf x y = true \/ leC cf y x = true
 anti : ∀ x y, leC cf x y = true -> leC cf y x = true -> x = y
theorem insC_asc {cf : Int × Int -> Int × Int -> Int} (h : TotC cf) (x : Int × Int) : ∀ {l}, l.Pairwise (fun a b => leC cf a b = true) -> (insC cf x l).Pairwise fun a b => leC cf a b = true
 | [], _ => by simp [insC]
 | y :: r, hp => by
   obtain ⟨p1, p2⟩ := List.pairwise_cons.1 hp
   unfold insC
   split
   ·rename_i e
    refine List.pairwise_cons.2 ⟨fun z hz => ?_, hp⟩
    rcases List.mem_cons.1 hz with rfl | hz
    ·exact e
    ·exact h.tr _ _ _ e (p1 z hz)
   ·rename_i e
    refine List.pairwise_cons.2 ⟨fun z hz => ?_, insC_asc h x p2⟩
    rcases List.mem_cons.1 ((insC_perm cf x r).mem_iff.1 hz) with rfl | hz
    ·exact (h.tot _ _).resolve_left e
    ·exact p1 z hz
theorem isortC_asc {cf : Int × Int -> Int × Int -> Int} (h : TotC cf) : ∀ l, (isortC cf l).Pairwise fun a b => leC cf a b = true
 | [] => .nil
 | x :: r => insC_asc h x (isortC_asc h r)
def srfG (cf : Int × Int -> Int × Int -> Int) (nC : Nat) (k : Nat) (xs es : List AV) : Option (List AV × Option Nat) :=
 match es with
 | [.func (.func m) [] []] => if m = nC /\ k = 2 /\ xs.length <= LIM then match prsOf xs with
   | some zs => some ((isortC cf zs).map pr2, none)
   | none => none else none
 | _ => none
/- The comparison of graph.Order: lesser first ends, then lesser second ends. -/
def cmpJ (x y : Int) : Int := if x < y then -1 else if y < x then 1 else 0
def cfO (x y : Int × Int) : Int := if cmpJ x.1 y.1 = 0 then cmpJ x.2 y.2 else cmpJ x.1 y.1
theorem cmpJ_lt (x y : Int) : (cmpJ x y < 0 ↔ x < y) /\ (cmpJ x y = 0 ↔ x = y) := by
 unfold cmpJ; split
 ·constructor <;> constructor <;> intro h <;> omega
 ·split <;> constructor <;> constructor <;> intro h <;> omega
theorem leO (x y : Int × Int) : leC cfO x y = true ↔ x.1 < y.1 \/ x.1 = y.1 /\ x.2 <= y.2 := by
 have h1 := cmpJ_lt y.1 x.1
 have h2 := cmpJ_lt y.2 x.2
 unfold leC cfO
 simp only [Bool.not_eq_true', decide_eq_false_iff_not]
 by_cases k : cmpJ y.1 x.1 = 0
 ·rw [if_pos k]; omega
 ·rw [if_neg k]; omega
theorem totO : TotC cfO where
 tr x y z h1 h2 := by rw [leO] at *; omega
 tot x y := by rw [leO, leO]; omega
 anti x y h1 h2 := by
  rw [leO] at h1 h2
  exact Prod.ext (by omega) (by omega)
/- Of equal neighbours in a list of pairs one stays; the library's Compact at pairs as a function that writes into the slice it is given. -/
def ddp : List (Int × Int) -> List (Int × Int)
 | [] => []
 | [x] => [x]
 | x :: y :: r => if x = y then ddp (y :: r) else x :: ddp (y :: r)
def cpeG (k : Nat) (xs es : List AV) : Option (List AV × Option Nat) :=
 match es with
 | [] => if k = 2 /\ xs.length <= LIM then match prsOf xs with
   | some zs => some ((ddp zs ++ List.replicate (zs.length - (ddp zs).length) (0, 0)).map pr2, some (ddp zs).length)
   | none => none else none
 | _ => none
end Go.Bm
