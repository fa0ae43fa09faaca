/- Runs of calls, by the kernel. -/
import Derived.Test.YtiohfglnoneanaaDoorTurD
import Derived.KernelRfl
set_option maxRecDepth 100000
namespace Go.BmP
open Go.Am Go.Bm
theorem tur8_ok : callB cfgS 3000 tur8.f tur8.args tur8.H = some (tur8.r, tur8.H') := by kernel_rfl
theorem tur9_ok : callB cfgS 3000 tur9.f tur9.args tur9.H = some (tur9.r, tur9.H') := by kernel_rfl
end Go.BmP
