/- Runs of calls, by the kernel. -/
import Derived.Test.YtikffbngaolphaaDoorCrxD
import Derived.KernelRfl
set_option maxRecDepth 100000
namespace Go.BmP
open Go.Am Go.Bm
theorem crx24_ok : callB cfgS 3000 crx24.f crx24.args crx24.H = some (crx24.r, crx24.H') := by kernel_rfl
theorem crx25_ok : callB cfgS 3000 crx25.f crx25.args crx25.H = some (crx25.r, crx25.H') := by kernel_rfl
theorem crx26_ok : callB cfgS 3000 crx26.f crx26.args crx26.H = some (crx26.r, crx26.H') := by kernel_rfl
end Go.BmP
