/- What masks.Rows and masks.Count return; degree.Degrees. -/
import Derived.Test.YtjfdniggjdnkiaaUseM
import Derived.Test.YtjfdniggjdnkiaaK05
import Derived.Test.YtjfdniggjdnkiaaBicP
set_option linter.unusedSimpArgs false
set_option linter.unusedVariables false
set_option maxRecDepth 100000
set_option maxHeartbeats 4000000
namespace Go.BmP
open Go.Am Go.Bm
def pc9 (m : Nat) : Nat := ((List.range 9).filter fun j => m.testBit j).length
def pcA (x : Int) : Int := IntKind.u64.wrap (bits .and .u64 (x.fdiv 2) 6148914691236517205 + bits .and .u64 x 6148914691236517205)
def pcB (x : Int) : Int := IntKind.u64.wrap (bits .and .u64 (x.fdiv 4) 3689348814741910323 + bits .and .u64 x 3689348814741910323)
def pcC (x : Int) : Int := bits .and .u64 (IntKind.u64.wrap (x.fdiv 16 + x)) 1085102592571150095
def pcD (n : Int) (x : Int) : Int := IntKind.u64.wrap (x + x.fdiv n)
def pcE (x : Int) : Int := bits .and .i64 (IntKind.i64.wrap (pcD 4294967296 (pcD 65536 (pcD 256 (pcC (pcB (pcA x))))))) 127
/- What degree.Degrees returns for a graph of at most nine nodes. -/
def dgL (A : List Nat) : List Int := A.map fun m => ((pc9 m : Nat) : Int)
def dgSt (A : List Nat) (i : Nat) (J : Env) : St := ⟨(5, .own 1 (ints (dgL (A.take i)))) :: (14, .list 1 (us A)) :: (15, .int .i64 A.length) :: (16, .int .i64 i) :: J, []⟩
end Go.BmP
