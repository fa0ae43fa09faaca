/- Runs of calls, by the kernel. -/
import Derived.Test.YtiohfglnoneanaaDoorTuvD
import Derived.KernelRfl
set_option maxRecDepth 100000
namespace Go.BmP
open Go.Am Go.Bm
theorem tuv4_ok : callB cfgT 3000 tuv4.f tuv4.args tuv4.H = some (tuv4.r, tuv4.H') := by kernel_rfl
end Go.BmP
