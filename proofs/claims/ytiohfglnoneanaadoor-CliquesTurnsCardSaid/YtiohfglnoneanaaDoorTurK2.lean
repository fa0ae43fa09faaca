/- Runs of calls, by the kernel. -/
import Derived.Test.YtiohfglnoneanaaDoorTurD
import Derived.KernelRfl
set_option maxRecDepth 100000
namespace Go.BmP
open Go.Am Go.Bm
theorem tur4_ok : callB cfgS 3000 tur4.f tur4.args tur4.H = some (tur4.r, tur4.H') := by kernel_rfl
theorem tur5_ok : callB cfgS 3000 tur5.f tur5.args tur5.H = some (tur5.r, tur5.H') := by kernel_rfl
end Go.BmP
