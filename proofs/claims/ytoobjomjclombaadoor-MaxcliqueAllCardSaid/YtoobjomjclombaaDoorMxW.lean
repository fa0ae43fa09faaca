/- awake of law 26, run by the kernel over the oracles. -/
import Derived.Test.YtoobjomjclombaaDoorCfS
import Derived.Test.YtoobjomjclombaaDoorRunX
import Derived.KernelRfl
set_option maxRecDepth 100000
namespace Go.BmP
open Go.Am Go.Bm
theorem awake26 : callL cfgS nQc [] [] = some (.bool true,[]) := callL_iff.2 ⟨3000,by kernel_rfl⟩
end Go.BmP
