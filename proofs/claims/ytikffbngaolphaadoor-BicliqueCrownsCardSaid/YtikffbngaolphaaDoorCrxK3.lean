/- Runs of calls, by the kernel. -/
import Derived.Test.YtikffbngaolphaaDoorCrxD
import Derived.KernelRfl
set_option maxRecDepth 100000
namespace Go.BmP
open Go.Am Go.Bm
theorem crx9_ok : callB cfgS 3000 crx9.f crx9.args crx9.H = some (crx9.r, crx9.H') := by kernel_rfl
theorem crx10_ok : callB cfgS 3000 crx10.f crx10.args crx10.H = some (crx10.r, crx10.H') := by kernel_rfl
theorem crx11_ok : callB cfgS 3000 crx11.f crx11.args crx11.H = some (crx11.r, crx11.H') := by kernel_rfl
end Go.BmP
