/- Runs of calls, by the kernel. -/
import Derived.Test.YtikffbngaolphaaDoorCrxD
import Derived.KernelRfl
set_option maxRecDepth 100000
namespace Go.BmP
open Go.Am Go.Bm
theorem crx21_ok : callB cfgS 3000 crx21.f crx21.args crx21.H = some (crx21.r, crx21.H') := by kernel_rfl
theorem crx22_ok : callB cfgS 3000 crx22.f crx22.args crx22.H = some (crx22.r, crx22.H') := by kernel_rfl
theorem crx23_ok : callB cfgS 3000 crx23.f crx23.args crx23.H = some (crx23.r, crx23.H') := by kernel_rfl
end Go.BmP
