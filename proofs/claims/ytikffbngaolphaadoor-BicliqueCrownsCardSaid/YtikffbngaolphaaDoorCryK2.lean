/- Runs of calls, by the kernel. -/
import Derived.Test.YtikffbngaolphaaDoorCryD
import Derived.KernelRfl
set_option maxRecDepth 100000
namespace Go.BmP
open Go.Am Go.Bm
theorem cry2_ok : callB cfgT 3000 cry2.f cry2.args cry2.H = some (cry2.r, cry2.H') := by kernel_rfl
end Go.BmP
