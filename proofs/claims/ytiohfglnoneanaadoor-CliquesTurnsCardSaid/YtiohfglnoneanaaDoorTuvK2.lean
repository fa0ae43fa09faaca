/- Runs of calls, by the kernel. -/
import Derived.Test.YtiohfglnoneanaaDoorTuvD
import Derived.KernelRfl
set_option maxRecDepth 100000
namespace Go.BmP
open Go.Am Go.Bm
theorem tuv2_ok : callB cfgT 3000 tuv2.f tuv2.args tuv2.H = some (tuv2.r, tuv2.H') := by kernel_rfl
end Go.BmP
