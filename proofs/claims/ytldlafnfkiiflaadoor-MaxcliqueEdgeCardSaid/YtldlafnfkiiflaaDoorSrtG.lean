/- A plain sort of ints; the library's sort as a function that writes into the slice it is given. -/
import Derived.Test.YtldlafnfkiiflaaDoorMe
namespace Go.Am
def intsOf : List AV -> Option (List Int)
 | [] => some []
 | .int .i64 n :: r => match intsOf r with
   | some l => some (n :: l)
   | none => none
 | _ => none
end Go.Am
namespace Go.Bm
open Go.Am
def insI (x : Int) : List Int -> List Int
 | [] => [x]
 | y :: r => if x <= y then x :: y :: r else y :: insI x r
def isort : List Int -> List Int
 | [] => []
 | x :: r => insI x (isort r)
def srtG (k : Nat) (xs es : List AV) : Option (List AV × Option Nat) :=
 match k, es with
 | 1, [] => if xs.length <= LIM then match intsOf xs with
   | some zs => some ((isort zs).map (AV.int .i64), none)
   | none => none
   else none
 | _, _ => none
end Go.Bm
