/- Runs of calls, by the kernel. -/
import Derived.Test.YtiohfglnoneanaaDoorTuvD
import Derived.KernelRfl
set_option maxRecDepth 100000
namespace Go.BmP
open Go.Am Go.Bm
theorem tuv1_ok : callB cfgT 3000 tuv1.f tuv1.args tuv1.H = some (tuv1.r, tuv1.H') := by kernel_rfl
end Go.BmP
