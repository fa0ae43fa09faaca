/- What functions on lists of ints answer, in plain terms. -/
import Derived.Test.YtldlafnfkiiflaaDoorSetP
set_option linter.unusedVariables false
set_option linter.unusedSimpArgs false
namespace Go.Bm
open Go.Am
def cmpL : List Int -> List Int -> Int
 | [], [] => 0
 | [], _ :: _ => -1
 | _ :: _, [] => 1
 | x :: r, y :: s => if y < x then 1 else if x < y then -1 else cmpL r s
def valGo (n : Int) : Int -> List Int -> Bool
 | _, [] => true
 | p, x :: r => decide (0 <= x) && (decide (x < n) && (decide (p < x) && valGo n x r))
def prev (l : List Int) (i : Nat) : Int := if i = 0 then -1 else l.getD (i - 1) 0
def putI (x : Int) : List Int -> List Int
 | [] => [x]
 | y :: r => if y < x then y :: putI x r else if y = x then y :: r else x :: y :: r
def pos (x : Int) : List Int -> Nat
 | [] => 0
 | y :: r => if y < x then pos x r + 1 else 0
def ofL (l : List Int) : List Int := l.foldl (fun o x => putI x o) []
end Go.Bm
