/- The law CliquesTurns returns true at every number. -/
import Derived.Test.YtiohfglnoneanaaDoorTurRA
import Derived.Test.YtiohfglnoneanaaDoorTurRB
import Derived.Test.YtiohfglnoneanaaDoorRunT
set_option maxRecDepth 100000
namespace Go.BmP
open Go.Am Go.Bm
theorem tur_start (n : Int) : codeL cfgU 0 cLaw24CliquesTurns ⟨mkEnv 0 [.int .u8 n], []⟩ = codeL cfgU 0 cTur1 (turS (IntKind.i64.wrap (n.tmod 6))) := by
  have e0 : regL false rLaw24CliquesTurnsX0 [] 0 [0] (opsB cfgU (callL cfgU) rLaw24CliquesTurnsX0 ⟨mkEnv 0 [.int .u8 n], []⟩) = some (.normal, ⟨[(0, .int .u8 n)], []⟩) := rfl
  have e1 : regL false rLaw24CliquesTurnsX1 [] 0 [3] (opsB cfgU (callL cfgU) rLaw24CliquesTurnsX1 ⟨[(0, .int .u8 n)], []⟩) = some (.normal, turS (IntKind.i64.wrap (n.tmod 6))) := rfl
  unfold cLaw24CliquesTurns
  rw [codeL_seq, codeL_reg, e0]
  show codeL cfgU 0 (.seq _ _) _ = _
  rw [codeL_seq, codeL_reg, e1]
  rfl
theorem turns (n : Int) (h0 : 0 ≤ n) : callL cfgU nLaw24CliquesTurns [.int .u8 n] [] = some (.bool true, []) := by
  rw [callL_endA (show orcA cfgU nLaw24CliquesTurns [.int .u8 n] [] = none from rfl) (show cfgU.fn nLaw24CliquesTurns = _ from gLaw24CliquesTurns) (args := [.int .u8 n]) (show 1 ≤ qLaw24CliquesTurns.n by decide)]
  show endL cfgU _ qLaw24CliquesTurns 0 (codeL cfgU 0 cLaw24CliquesTurns ⟨mkEnv 0 [.int .u8 n], []⟩) = some (.bool true, [])
  rw [tur_start]
  have e : IntKind.i64.wrap (n.tmod 6) = n % 6 := by
    rw [Int.tmod_eq_emod_of_nonneg h0]
    simp [IntKind.wrap, IntKind.bits, IntKind.signed]
    omega
  rw [e]
  have hm : n % 6 = 0 ∨ n % 6 = 1 ∨ n % 6 = 2 ∨ n % 6 = 3 ∨ n % 6 = 4 ∨ n % 6 = 5 := by omega
  rcases hm with h | h | h | h | h | h <;> rw [h]
  · exact out_run turR0
  · exact out_run turR1
  · exact out_run turR2
  · exact out_run turR3
  · exact out_run turR4
  · exact out_run turR5
#print axioms turns
end Go.BmP
