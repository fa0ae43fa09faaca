/- Runs of calls, by the kernel. -/
import Derived.Test.YtikffbngaolphaaDoorCrzD
import Derived.KernelRfl
set_option maxRecDepth 100000
namespace Go.BmP
open Go.Am Go.Bm
theorem crz0_ok : callB cfgU 3000 crz0.f crz0.args crz0.H = some (crz0.r, crz0.H') := by kernel_rfl
end Go.BmP
