/- Runs of calls, by the kernel. -/
import Derived.Test.YtikffbngaolphaaDoorCryD
import Derived.KernelRfl
set_option maxRecDepth 100000
namespace Go.BmP
open Go.Am Go.Bm
theorem cry4_ok : callB cfgT 3000 cry4.f cry4.args cry4.H = some (cry4.r, cry4.H') := by kernel_rfl
end Go.BmP
