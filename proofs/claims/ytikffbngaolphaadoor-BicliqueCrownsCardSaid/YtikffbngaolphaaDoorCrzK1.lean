/- Runs of calls, by the kernel. -/
import Derived.Test.YtikffbngaolphaaDoorCrzD
import Derived.KernelRfl
set_option maxRecDepth 100000
namespace Go.BmP
open Go.Am Go.Bm
theorem crz1_ok : callB cfgU 3000 crz1.f crz1.args crz1.H = some (crz1.r, crz1.H') := by kernel_rfl
end Go.BmP
