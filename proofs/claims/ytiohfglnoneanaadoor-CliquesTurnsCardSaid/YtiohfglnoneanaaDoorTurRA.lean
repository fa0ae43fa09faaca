/- Runs of the law CliquesTurns, by the kernel. -/
import Derived.Test.YtiohfglnoneanaaDoorTurU
import Derived.KernelRfl
set_option maxRecDepth 100000
namespace Go.BmP
open Go.Am Go.Bm
theorem turR0 : outOK cfgU ⟨false, false, true⟩ qLaw24CliquesTurns (codeB cfgU 3000 0 cTur1 (turS 0)) = true := by kernel_rfl
theorem turR1 : outOK cfgU ⟨false, false, true⟩ qLaw24CliquesTurns (codeB cfgU 3000 0 cTur1 (turS 1)) = true := by kernel_rfl
theorem turR2 : outOK cfgU ⟨false, false, true⟩ qLaw24CliquesTurns (codeB cfgU 3000 0 cTur1 (turS 2)) = true := by kernel_rfl
theorem turR3 : outOK cfgU ⟨false, false, true⟩ qLaw24CliquesTurns (codeB cfgU 3000 0 cTur1 (turS 3)) = true := by kernel_rfl
end Go.BmP
