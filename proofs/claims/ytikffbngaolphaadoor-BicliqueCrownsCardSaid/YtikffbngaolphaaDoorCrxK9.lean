/- Runs of calls, by the kernel. -/
import Derived.Test.YtikffbngaolphaaDoorCrxD
import Derived.KernelRfl
set_option maxRecDepth 100000
namespace Go.BmP
open Go.Am Go.Bm
theorem crx27_ok : callB cfgS 3000 crx27.f crx27.args crx27.H = some (crx27.r, crx27.H') := by kernel_rfl
theorem crx28_ok : callB cfgS 3000 crx28.f crx28.args crx28.H = some (crx28.r, crx28.H') := by kernel_rfl
theorem crx29_ok : callB cfgS 3000 crx29.f crx29.args crx29.H = some (crx29.r, crx29.H') := by kernel_rfl
end Go.BmP
