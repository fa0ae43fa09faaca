/- Runs of calls, by the kernel. -/
import Derived.Test.YtiohfglnoneanaaDoorTuvD
import Derived.KernelRfl
set_option maxRecDepth 100000
namespace Go.BmP
open Go.Am Go.Bm
theorem tuv6_ok : callB cfgT 3000 tuv6.f tuv6.args tuv6.H = some (tuv6.r, tuv6.H') := by kernel_rfl
end Go.BmP
