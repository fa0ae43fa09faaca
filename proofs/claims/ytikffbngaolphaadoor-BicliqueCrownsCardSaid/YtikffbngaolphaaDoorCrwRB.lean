/- Runs of the law BicliqueCrowns, by the kernel. -/
import Derived.Test.YtikffbngaolphaaDoorCrwV
import Derived.KernelRfl
set_option maxRecDepth 100000
namespace Go.BmP
open Go.Am Go.Bm
theorem crwR4t : outOK cfgV ⟨false, false, true⟩ qLaw27BicliqueCrowns (codeB cfgV 3000 0 cCrw1 (crwS 4 true)) = true := by kernel_rfl
theorem crwR4f : outOK cfgV ⟨false, false, true⟩ qLaw27BicliqueCrowns (codeB cfgV 3000 0 cCrw1 (crwS 4 false)) = true := by kernel_rfl
theorem crwR5t : outOK cfgV ⟨false, false, true⟩ qLaw27BicliqueCrowns (codeB cfgV 3000 0 cCrw1 (crwS 5 true)) = true := by kernel_rfl
end Go.BmP
