/- Runs of the law CliquesTurns, by the kernel. -/
import Derived.Test.YtiohfglnoneanaaDoorTurU
import Derived.KernelRfl
set_option maxRecDepth 100000
namespace Go.BmP
open Go.Am Go.Bm
theorem turR4 : outOK cfgU ⟨false, false, true⟩ qLaw24CliquesTurns (codeB cfgU 3000 0 cTur1 (turS 4)) = true := by kernel_rfl
theorem turR5 : outOK cfgU ⟨false, false, true⟩ qLaw24CliquesTurns (codeB cfgU 3000 0 cTur1 (turS 5)) = true := by kernel_rfl
end Go.BmP
