/- Runs of calls, by the kernel. -/
import Derived.Test.YtikffbngaolphaaDoorCrxD
import Derived.KernelRfl
set_option maxRecDepth 100000
namespace Go.BmP
open Go.Am Go.Bm
theorem crx12_ok : callB cfgS 3000 crx12.f crx12.args crx12.H = some (crx12.r, crx12.H') := by kernel_rfl
theorem crx13_ok : callB cfgS 3000 crx13.f crx13.args crx13.H = some (crx13.r, crx13.H') := by kernel_rfl
theorem crx14_ok : callB cfgS 3000 crx14.f crx14.args crx14.H = some (crx14.r, crx14.H') := by kernel_rfl
end Go.BmP
