/- Runs of calls, by the kernel. -/
import Derived.Test.YtiohfglnoneanaaDoorTuvD
import Derived.KernelRfl
set_option maxRecDepth 100000
namespace Go.BmP
open Go.Am Go.Bm
theorem tuv3_ok : callB cfgT 3000 tuv3.f tuv3.args tuv3.H = some (tuv3.r, tuv3.H') := by kernel_rfl
end Go.BmP
