/- Runs of the law BicliqueCrowns, by the kernel. -/
import Derived.Test.YtikffbngaolphaaDoorCrwV
import Derived.KernelRfl
set_option maxRecDepth 100000
namespace Go.BmP
open Go.Am Go.Bm
theorem crwR2t : outOK cfgV ⟨false, false, true⟩ qLaw27BicliqueCrowns (codeB cfgV 3000 0 cCrw1 (crwS 2 true)) = true := by kernel_rfl
theorem crwR2f : outOK cfgV ⟨false, false, true⟩ qLaw27BicliqueCrowns (codeB cfgV 3000 0 cCrw1 (crwS 2 false)) = true := by kernel_rfl
theorem crwR3t : outOK cfgV ⟨false, false, true⟩ qLaw27BicliqueCrowns (codeB cfgV 3000 0 cCrw1 (crwS 3 true)) = true := by kernel_rfl
theorem crwR3f : outOK cfgV ⟨false, false, true⟩ qLaw27BicliqueCrowns (codeB cfgV 3000 0 cCrw1 (crwS 3 false)) = true := by kernel_rfl
end Go.BmP
