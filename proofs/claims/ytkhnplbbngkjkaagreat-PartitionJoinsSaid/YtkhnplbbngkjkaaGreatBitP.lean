/- Sets of nodes as bits: plain facts. -/
import Derived.Test.YtkhnplbbngkjkaaGreatSpc
import Derived.Lib.TrailingZeros
import Derived.Laws.BitsAllLaws
set_option linter.unusedVariables false
set_option linter.unusedSimpArgs false
namespace Go.Bm
open Go.Am
def tz (x : Nat) : Nat := Lib.ctz 64 x
def bitL (m : Nat) : List Int := ((List.range 64).filter fun j => m.testBit j).map fun j => ((j : Nat) : Int)
def mskF (l : List Int) (m : Nat) : Nat := l.foldl (fun m v => m ||| 2 ^ v.toNat) m
def msk (l : List Int) : Nat := mskF l 0
/-! Operations of uint64 -/
end Go.Bm
