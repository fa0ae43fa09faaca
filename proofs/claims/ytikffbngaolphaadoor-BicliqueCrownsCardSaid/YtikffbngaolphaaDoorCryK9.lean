/- Runs of calls, by the kernel. -/
import Derived.Test.YtikffbngaolphaaDoorCryD
import Derived.KernelRfl
set_option maxRecDepth 100000
namespace Go.BmP
open Go.Am Go.Bm
theorem cry9_ok : callB cfgT 3000 cry9.f cry9.args cry9.H = some (cry9.r, cry9.H') := by kernel_rfl
end Go.BmP
