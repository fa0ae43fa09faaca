/- Runs of calls, by the kernel. -/
import Derived.Test.YtiohfglnoneanaaDoorTurD
import Derived.KernelRfl
set_option maxRecDepth 100000
namespace Go.BmP
open Go.Am Go.Bm
theorem tur0_ok : callB cfgS 3000 tur0.f tur0.args tur0.H = some (tur0.r, tur0.H') := by kernel_rfl
theorem tur1_ok : callB cfgS 3000 tur1.f tur1.args tur1.H = some (tur1.r, tur1.H') := by kernel_rfl
end Go.BmP
