/- The library's DeleteFunc with the question that partition.Ghosts asks: whether a worker owns a node. -/
import Derived.Test.YtkhnplbbngkjkaaSrtG
set_option linter.unusedVariables false
namespace Go.Bm
open Go.Am
def ownsB (os : List Int) (w z : Int) : Bool := decide (os.getD z.toNat 0 = w)
def delfG (nC : Nat) (k : Nat) (xs es : List AV) : Option (List AV) :=
 match es with
 | [.func (.func m) [] [.fptr [.int .i64 u, .list 1 ow, .list 1 hv], .fptr [.int .i64 w]]] => if m = nC /\ k = 1 /\ xs.length <= LIM then match intsOf xs, intsOf ow with
   | some zs, some os => if ∀ z ∈ zs, 0 <= z /\ z < (os.length : Int) then some ((zs.filter fun z => !ownsB os w z).map (AV.int .i64)) else none
   | _, _ => none else none
 | _ => none
end Go.Bm
