/- Runs of calls, by the kernel. -/
import Derived.Test.YtikffbngaolphaaDoorCryD
import Derived.KernelRfl
set_option maxRecDepth 100000
namespace Go.BmP
open Go.Am Go.Bm
theorem cry7_ok : callB cfgT 3000 cry7.f cry7.args cry7.H = some (cry7.r, cry7.H') := by kernel_rfl
end Go.BmP
