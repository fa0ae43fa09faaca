/- Runs of calls, by the kernel. -/
import Derived.Test.YtikffbngaolphaaDoorCryD
import Derived.KernelRfl
set_option maxRecDepth 100000
namespace Go.BmP
open Go.Am Go.Bm
theorem cry5_ok : callB cfgT 3000 cry5.f cry5.args cry5.H = some (cry5.r, cry5.H') := by kernel_rfl
end Go.BmP
