/- The library's Reverse of ints as a function that writes into the slice it is given. -/
import Derived.Test.YtbnheahpdodmjaaGreatDoorGrfP
namespace Go.Bm
open Go.Am
def rvG (k:Nat) (xs es:List AV):Option (List AV × Option Nat):=if k=1/\es.isEmpty=true/\xs.length<=4294967296 then match mL xs with
  |some l=>some ((l.reverse).map (AV.int .i64),none)
  |none=>none
 else none
end Go.Bm
