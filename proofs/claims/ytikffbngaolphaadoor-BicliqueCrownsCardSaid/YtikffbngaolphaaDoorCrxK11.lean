/- Runs of calls, by the kernel. -/
import Derived.Test.YtikffbngaolphaaDoorCrxD
import Derived.KernelRfl
set_option maxRecDepth 100000
namespace Go.BmP
open Go.Am Go.Bm
theorem crx33_ok : callB cfgS 3000 crx33.f crx33.args crx33.H = some (crx33.r, crx33.H') := by kernel_rfl
theorem crx34_ok : callB cfgS 3000 crx34.f crx34.args crx34.H = some (crx34.r, crx34.H') := by kernel_rfl
theorem crx35_ok : callB cfgS 3000 crx35.f crx35.args crx35.H = some (crx35.r, crx35.H') := by kernel_rfl
end Go.BmP
