/- Runs of calls, by the kernel. -/
import Derived.Test.YtiohfglnoneanaaDoorTurD
import Derived.KernelRfl
set_option maxRecDepth 100000
namespace Go.BmP
open Go.Am Go.Bm
theorem tur10_ok : callB cfgS 3000 tur10.f tur10.args tur10.H = some (tur10.r, tur10.H') := by kernel_rfl
theorem tur11_ok : callB cfgS 3000 tur11.f tur11.args tur11.H = some (tur11.r, tur11.H') := by kernel_rfl
end Go.BmP
