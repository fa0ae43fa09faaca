/- Runs of calls, by the kernel. -/
import Derived.Test.YtikffbngaolphaaDoorCrxD
import Derived.KernelRfl
set_option maxRecDepth 100000
namespace Go.BmP
open Go.Am Go.Bm
theorem crx3_ok : callB cfgS 3000 crx3.f crx3.args crx3.H = some (crx3.r, crx3.H') := by kernel_rfl
theorem crx4_ok : callB cfgS 3000 crx4.f crx4.args crx4.H = some (crx4.r, crx4.H') := by kernel_rfl
theorem crx5_ok : callB cfgS 3000 crx5.f crx5.args crx5.H = some (crx5.r, crx5.H') := by kernel_rfl
end Go.BmP
