/- Runs of calls, by the kernel. -/
import Derived.Test.YtikffbngaolphaaDoorCrzD
import Derived.KernelRfl
set_option maxRecDepth 100000
namespace Go.BmP
open Go.Am Go.Bm
theorem crz2_ok : callB cfgU 3000 crz2.f crz2.args crz2.H = some (crz2.r, crz2.H') := by kernel_rfl
end Go.BmP
