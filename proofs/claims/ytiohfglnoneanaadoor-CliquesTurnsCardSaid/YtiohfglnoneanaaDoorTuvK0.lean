/- Runs of calls, by the kernel. -/
import Derived.Test.YtiohfglnoneanaaDoorTuvD
import Derived.KernelRfl
set_option maxRecDepth 100000
namespace Go.BmP
open Go.Am Go.Bm
theorem tuv0_ok : callB cfgT 3000 tuv0.f tuv0.args tuv0.H = some (tuv0.r, tuv0.H') := by kernel_rfl
end Go.BmP
