/- Runs of the law BicliqueCrowns, by the kernel. -/
import Derived.Test.YtikffbngaolphaaDoorCrwV
import Derived.KernelRfl
set_option maxRecDepth 100000
namespace Go.BmP
open Go.Am Go.Bm
theorem crwR5f : outOK cfgV ⟨false, false, true⟩ qLaw27BicliqueCrowns (codeB cfgV 3000 0 cCrw1 (crwS 5 false)) = true := by kernel_rfl
theorem crwR6t : outOK cfgV ⟨false, false, true⟩ qLaw27BicliqueCrowns (codeB cfgV 3000 0 cCrw1 (crwS 6 true)) = true := by kernel_rfl
theorem crwR6f : outOK cfgV ⟨false, false, true⟩ qLaw27BicliqueCrowns (codeB cfgV 3000 0 cCrw1 (crwS 6 false)) = true := by kernel_rfl
end Go.BmP
