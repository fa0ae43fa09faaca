/- Runs of calls, by the kernel. -/
import Derived.Test.YtikffbngaolphaaDoorCrxD
import Derived.KernelRfl
set_option maxRecDepth 100000
namespace Go.BmP
open Go.Am Go.Bm
theorem crx6_ok : callB cfgS 3000 crx6.f crx6.args crx6.H = some (crx6.r, crx6.H') := by kernel_rfl
theorem crx7_ok : callB cfgS 3000 crx7.f crx7.args crx7.H = some (crx7.r, crx7.H') := by kernel_rfl
theorem crx8_ok : callB cfgS 3000 crx8.f crx8.args crx8.H = some (crx8.r, crx8.H') := by kernel_rfl
end Go.BmP
