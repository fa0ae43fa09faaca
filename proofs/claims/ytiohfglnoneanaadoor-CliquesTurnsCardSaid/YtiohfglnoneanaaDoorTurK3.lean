/- Runs of calls, by the kernel. -/
import Derived.Test.YtiohfglnoneanaaDoorTurD
import Derived.KernelRfl
set_option maxRecDepth 100000
namespace Go.BmP
open Go.Am Go.Bm
theorem tur6_ok : callB cfgS 3000 tur6.f tur6.args tur6.H = some (tur6.r, tur6.H') := by kernel_rfl
theorem tur7_ok : callB cfgS 3000 tur7.f tur7.args tur7.H = some (tur7.r, tur7.H') := by kernel_rfl
end Go.BmP
