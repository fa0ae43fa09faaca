/- Runs of calls, by the kernel. -/
import Derived.Test.YtikffbngaolphaaDoorCryD
import Derived.KernelRfl
set_option maxRecDepth 100000
namespace Go.BmP
open Go.Am Go.Bm
theorem cry0_ok : callB cfgT 3000 cry0.f cry0.args cry0.H = some (cry0.r, cry0.H') := by kernel_rfl
end Go.BmP
