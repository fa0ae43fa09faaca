/- Runs of calls, by the kernel. -/
import Derived.Test.YtiohfglnoneanaaDoorTuvD
import Derived.KernelRfl
set_option maxRecDepth 100000
namespace Go.BmP
open Go.Am Go.Bm
theorem tuv5_ok : callB cfgT 3000 tuv5.f tuv5.args tuv5.H = some (tuv5.r, tuv5.H') := by kernel_rfl
end Go.BmP
