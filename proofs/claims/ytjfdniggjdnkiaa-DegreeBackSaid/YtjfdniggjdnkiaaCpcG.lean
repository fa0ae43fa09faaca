/- Of equal neighbours in a list of pairs one stays; the library's Compact at pairs as a function that writes into the slice it is given. -/
import Derived.Test.YtjfdniggjdnkiaaSrfG
namespace Go.Bm
open Go.Am
def ddp : List (Int × Int) -> List (Int × Int)
 | [] => []
 | [x] => [x]
 | x :: y :: r => if x = y then ddp (y :: r) else x :: ddp (y :: r)
def cpeG (k : Nat) (xs es : List AV) : Option (List AV × Option Nat) :=
 match es with
 | [] => if k = 2 /\ xs.length <= LIM then match prsOf xs with
   | some zs => some ((ddp zs ++ List.replicate (zs.length - (ddp zs).length) (0, 0)).map pr2, some (ddp zs).length)
   | none => none else none
 | _ => none
end Go.Bm
