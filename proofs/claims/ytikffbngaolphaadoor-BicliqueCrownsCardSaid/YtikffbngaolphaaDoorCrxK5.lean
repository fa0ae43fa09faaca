/- Runs of calls, by the kernel. -/
import Derived.Test.YtikffbngaolphaaDoorCrxD
import Derived.KernelRfl
set_option maxRecDepth 100000
namespace Go.BmP
open Go.Am Go.Bm
theorem crx15_ok : callB cfgS 3000 crx15.f crx15.args crx15.H = some (crx15.r, crx15.H') := by kernel_rfl
theorem crx16_ok : callB cfgS 3000 crx16.f crx16.args crx16.H = some (crx16.r, crx16.H') := by kernel_rfl
theorem crx17_ok : callB cfgS 3000 crx17.f crx17.args crx17.H = some (crx17.r, crx17.H') := by kernel_rfl
end Go.BmP
