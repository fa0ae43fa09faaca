/- Runs of calls, by the kernel. -/
import Derived.Test.YtiohfglnoneanaaDoorTurD
import Derived.KernelRfl
set_option maxRecDepth 100000
namespace Go.BmP
open Go.Am Go.Bm
theorem tur12_ok : callB cfgS 3000 tur12.f tur12.args tur12.H = some (tur12.r, tur12.H') := by kernel_rfl
theorem tur13_ok : callB cfgS 3000 tur13.f tur13.args tur13.H = some (tur13.r, tur13.H') := by kernel_rfl
end Go.BmP
