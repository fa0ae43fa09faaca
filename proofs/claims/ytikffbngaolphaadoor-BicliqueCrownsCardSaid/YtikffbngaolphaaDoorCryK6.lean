/- Runs of calls, by the kernel. -/
import Derived.Test.YtikffbngaolphaaDoorCryD
import Derived.KernelRfl
set_option maxRecDepth 100000
namespace Go.BmP
open Go.Am Go.Bm
theorem cry6_ok : callB cfgT 3000 cry6.f cry6.args cry6.H = some (cry6.r, cry6.H') := by kernel_rfl
end Go.BmP
