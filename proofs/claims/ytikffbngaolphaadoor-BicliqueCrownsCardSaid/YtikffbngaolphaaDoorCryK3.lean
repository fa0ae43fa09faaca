/- Runs of calls, by the kernel. -/
import Derived.Test.YtikffbngaolphaaDoorCryD
import Derived.KernelRfl
set_option maxRecDepth 100000
namespace Go.BmP
open Go.Am Go.Bm
theorem cry3_ok : callB cfgT 3000 cry3.f cry3.args cry3.H = some (cry3.r, cry3.H') := by kernel_rfl
end Go.BmP
