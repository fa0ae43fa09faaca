/- The law BicliqueCrowns returns true at every number. -/
import Derived.Test.YtikffbngaolphaaDoorCrwRA
import Derived.Test.YtikffbngaolphaaDoorCrwRB
import Derived.Test.YtikffbngaolphaaDoorCrwRC
set_option maxRecDepth 100000
namespace Go.BmP
open Go.Am Go.Bm
theorem crw_start (n : Int) (p : Bool) : codeL cfgV 0 cLaw27BicliqueCrowns ⟨mkEnv 0 [.int .u8 n, .bool p], []⟩ = codeL cfgV 0 cCrw1 (crwS (IntKind.i64.wrap (2 + IntKind.i64.wrap (n.tmod 5))) p) := by
  have e0 : regL false rLaw27BicliqueCrownsX0 [] 0 [0, 1] (opsB cfgV (callL cfgV) rLaw27BicliqueCrownsX0 ⟨mkEnv 0 [.int .u8 n, .bool p], []⟩) = some (.normal, ⟨[(0, .int .u8 n), (1, .bool p)], []⟩) := rfl
  have e1 : regL false rLaw27BicliqueCrownsX1 [] 0 [1, 5] (opsB cfgV (callL cfgV) rLaw27BicliqueCrownsX1 ⟨[(0, .int .u8 n), (1, .bool p)], []⟩) = some (.normal, crwS (IntKind.i64.wrap (2 + IntKind.i64.wrap (n.tmod 5))) p) := rfl
  unfold cLaw27BicliqueCrowns
  rw [codeL_seq, codeL_reg, e0]
  show codeL cfgV 0 (.seq _ _) _ = _
  rw [codeL_seq, codeL_reg, e1]
  rfl
theorem crowns (n : Int) (p : Bool) (h0 : 0 ≤ n) : callL cfgV nLaw27BicliqueCrowns [.int .u8 n, .bool p] [] = some (.bool true, []) := by
  rw [callL_endA (show orcA cfgV nLaw27BicliqueCrowns [.int .u8 n, .bool p] [] = none from rfl) (show cfgV.fn nLaw27BicliqueCrowns = _ from gLaw27BicliqueCrowns) (args := [.int .u8 n, .bool p]) (show 2 ≤ qLaw27BicliqueCrowns.n by decide)]
  show endL cfgV _ qLaw27BicliqueCrowns 0 (codeL cfgV 0 cLaw27BicliqueCrowns ⟨mkEnv 0 [.int .u8 n, .bool p], []⟩) = some (.bool true, [])
  rw [crw_start]
  have e : IntKind.i64.wrap (2 + IntKind.i64.wrap (n.tmod 5)) = 2 + n % 5 := by
    rw [Int.tmod_eq_emod_of_nonneg h0]
    simp [IntKind.wrap, IntKind.bits, IntKind.signed]
    omega
  rw [e]
  have hm : n % 5 = 0 ∨ n % 5 = 1 ∨ n % 5 = 2 ∨ n % 5 = 3 ∨ n % 5 = 4 := by omega
  rcases hm with h | h | h | h | h <;> rw [h] <;> cases p
  · exact out_run crwR2f
  · exact out_run crwR2t
  · exact out_run crwR3f
  · exact out_run crwR3t
  · exact out_run crwR4f
  · exact out_run crwR4t
  · exact out_run crwR5f
  · exact out_run crwR5t
  · exact out_run crwR6f
  · exact out_run crwR6t
#print axioms crowns
end Go.BmP
