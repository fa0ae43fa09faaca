/- Runs of calls, by the kernel. -/
import Derived.Test.YtikffbngaolphaaDoorCrxD
import Derived.KernelRfl
set_option maxRecDepth 100000
namespace Go.BmP
open Go.Am Go.Bm
theorem crx30_ok : callB cfgS 3000 crx30.f crx30.args crx30.H = some (crx30.r, crx30.H') := by kernel_rfl
theorem crx31_ok : callB cfgS 3000 crx31.f crx31.args crx31.H = some (crx31.r, crx31.H') := by kernel_rfl
theorem crx32_ok : callB cfgS 3000 crx32.f crx32.args crx32.H = some (crx32.r, crx32.H') := by kernel_rfl
end Go.BmP
