/- Plain facts on strictly rising lists of ints: what sort and compact give, and what a merge gives. -/
import Derived.Test.YtldlafnfkiiflaaDoorSrtG
set_option linter.unusedVariables false
set_option linter.unusedSimpArgs false
namespace Go.Bm
open Go.Am
def Up (l : List Int) : Prop := l.Pairwise (· < ·)
def dd : List Int -> List Int
 | [] => []
 | [x] => [x]
 | x :: y :: r => if x = y then dd (y :: r) else x :: dd (y :: r)
def setOf (zs : List Int) : List Int := dd (isort zs)
def put1 (c : Bool) (x : Int) (m : List Int) : List Int := if c = true then x :: m else m
def mrg (keep : Bool -> Bool -> Bool) : List Int -> List Int -> List Int
 | [], [] => []
 | x :: r, [] => put1 (keep true false) x (mrg keep r [])
 | [], y :: s => put1 (keep false true) y (mrg keep [] s)
 | x :: r, y :: s =>
   if x < y then put1 (keep true false) x (mrg keep r (y :: s))
   else if y < x then put1 (keep false true) y (mrg keep (x :: r) s)
   else put1 (keep true true) x (mrg keep r s)
termination_by a b => a.length + b.length
def uni (a b : List Int) : List Int := mrg (fun _ _ => true) (setOf a) (setOf b)
def meet (a b : List Int) : List Int := mrg (fun p r => p && r) (setOf a) (setOf b)
def minus (a b : List Int) : List Int := mrg (fun _ r => !r) (setOf a) (setOf b)
def gClo : List AV -> Heap -> Option (AV × Heap)
 | [.list 1 []], [] => some (.list 1 [], [])
 | _, _ => none
def cptG (k : Nat) (xs es : List AV) : Option (List AV × Option Nat) :=
 match k, es with
 | 1, [] => if xs.length <= LIM then match intsOf xs with
   | some zs => some ((dd zs ++ List.replicate (zs.length - (dd zs).length) 0).map (AV.int .i64), some (dd zs).length)
   | none => none
   else none
 | _, _ => none
end Go.Bm
