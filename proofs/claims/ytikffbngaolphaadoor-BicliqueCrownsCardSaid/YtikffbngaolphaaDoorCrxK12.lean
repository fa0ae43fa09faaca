/- Runs of calls, by the kernel. -/
import Derived.Test.YtikffbngaolphaaDoorCrxD
import Derived.KernelRfl
set_option maxRecDepth 100000
namespace Go.BmP
open Go.Am Go.Bm
theorem crx36_ok : callB cfgS 3000 crx36.f crx36.args crx36.H = some (crx36.r, crx36.H') := by kernel_rfl
theorem crx37_ok : callB cfgS 3000 crx37.f crx37.args crx37.H = some (crx37.r, crx37.H') := by kernel_rfl
theorem crx38_ok : callB cfgS 3000 crx38.f crx38.args crx38.H = some (crx38.r, crx38.H') := by kernel_rfl
end Go.BmP
