/- Runs of calls, by the kernel. -/
import Derived.Test.YtikffbngaolphaaDoorCrxD
import Derived.KernelRfl
set_option maxRecDepth 100000
namespace Go.BmP
open Go.Am Go.Bm
theorem crx0_ok : callB cfgS 3000 crx0.f crx0.args crx0.H = some (crx0.r, crx0.H') := by kernel_rfl
theorem crx1_ok : callB cfgS 3000 crx1.f crx1.args crx1.H = some (crx1.r, crx1.H') := by kernel_rfl
theorem crx2_ok : callB cfgS 3000 crx2.f crx2.args crx2.H = some (crx2.r, crx2.H') := by kernel_rfl
end Go.BmP
