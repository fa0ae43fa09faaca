/- Runs of calls, by the kernel. -/
import Derived.Test.YtikffbngaolphaaDoorCryD
import Derived.KernelRfl
set_option maxRecDepth 100000
namespace Go.BmP
open Go.Am Go.Bm
theorem cry8_ok : callB cfgT 3000 cry8.f cry8.args cry8.H = some (cry8.r, cry8.H') := by kernel_rfl
end Go.BmP
