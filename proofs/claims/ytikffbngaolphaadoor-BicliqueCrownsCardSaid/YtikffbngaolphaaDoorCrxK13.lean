/- Runs of calls, by the kernel. -/
import Derived.Test.YtikffbngaolphaaDoorCrxD
import Derived.KernelRfl
set_option maxRecDepth 100000
namespace Go.BmP
open Go.Am Go.Bm
theorem crx39_ok : callB cfgS 3000 crx39.f crx39.args crx39.H = some (crx39.r, crx39.H') := by kernel_rfl
end Go.BmP
