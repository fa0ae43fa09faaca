/- Runs of calls, by the kernel. -/
import Derived.Test.YtiohfglnoneanaaDoorTurD
import Derived.KernelRfl
set_option maxRecDepth 100000
namespace Go.BmP
open Go.Am Go.Bm
theorem tur14_ok : callB cfgS 3000 tur14.f tur14.args tur14.H = some (tur14.r, tur14.H') := by kernel_rfl
end Go.BmP
