/- Runs of calls, by the kernel. -/
import Derived.Test.YtikffbngaolphaaDoorCrxD
import Derived.KernelRfl
set_option maxRecDepth 100000
namespace Go.BmP
open Go.Am Go.Bm
theorem crx18_ok : callB cfgS 3000 crx18.f crx18.args crx18.H = some (crx18.r, crx18.H') := by kernel_rfl
theorem crx19_ok : callB cfgS 3000 crx19.f crx19.args crx19.H = some (crx19.r, crx19.H') := by kernel_rfl
theorem crx20_ok : callB cfgS 3000 crx20.f crx20.args crx20.H = some (crx20.r, crx20.H') := by kernel_rfl
end Go.BmP
