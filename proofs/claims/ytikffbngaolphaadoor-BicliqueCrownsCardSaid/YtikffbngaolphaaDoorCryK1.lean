/- Runs of calls, by the kernel. -/
import Derived.Test.YtikffbngaolphaaDoorCryD
import Derived.KernelRfl
set_option maxRecDepth 100000
namespace Go.BmP
open Go.Am Go.Bm
theorem cry1_ok : callB cfgT 3000 cry1.f cry1.args cry1.H = some (cry1.r, cry1.H') := by kernel_rfl
end Go.BmP
