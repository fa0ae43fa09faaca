/- degree.Graphic of two lists, run by the older machine. -/
import Derived.Test.YtegmpkeejgflnaaAmP
namespace Go.AmP
open Go.Am
def grA (zs : List Int) (b : Bool) : Bool := match aCall cfg 200 nQn [.list 1 (zs.map (AV.int .i64))] [] with
 | some (.bool x, _) => x == b
 | _ => false
theorem grA_a : grA [3, 3, 1, 1] false = true := by kernel_rfl
theorem grA_b : grA [1, 1] true = true := by kernel_rfl
end Go.AmP
