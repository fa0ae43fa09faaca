/- Runs of calls, by the kernel. -/
import Derived.Test.YtiohfglnoneanaaDoorTurD
import Derived.KernelRfl
set_option maxRecDepth 100000
namespace Go.BmP
open Go.Am Go.Bm
theorem tur2_ok : callB cfgS 3000 tur2.f tur2.args tur2.H = some (tur2.r, tur2.H') := by kernel_rfl
theorem tur3_ok : callB cfgS 3000 tur3.f tur3.args tur3.H = some (tur3.r, tur3.H') := by kernel_rfl
end Go.BmP
