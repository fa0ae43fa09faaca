/- What comparisons return; nodeset.Valid, Has, Cmp, Range. -/
import Derived.Test.YtldlafnfkiiflaaDoorUseM
import Derived.Test.YtldlafnfkiiflaaDoorR02c
set_option linter.unusedSimpArgs false
set_option linter.unusedVariables false
set_option maxRecDepth 100000
namespace Go.BmP
open Go.Am Go.Bm
def cmpGo : List Int -> List Int -> Option Int
 | [], _ => none
 | _ :: _, [] => some 1
 | x :: r, y :: s => if y < x then some 1 else if x < y then some (-1) else cmpGo r s
theorem nan_run (x : Int) : callL cfgS nQG [.int .i64 x] [] = some (.bool false, []) := by
 rw [callL_end oQG sQG (Nat.le_of_ble_eq_true rfl)]
 unfold qQG cQG
 simp [rQGX0, rQGX1, endL, finB]
def cmpI (x y : Int) : Int := if x < y then -1 else if y < x then 1 else 0
theorem cmpI_run (x y : Int) : callL cfgS nQF [.int .i64 x, .int .i64 y] [] = some (.int .i64 (cmpI x y), []) := by
 rw [callL_end oQF sQF (Nat.le_of_ble_eq_true rfl)]
 have hx := nan_run x
 have hy := nan_run y
 unfold qQF cQF cmpI
 by_cases h1 : x < y
 ·simp [rQFX0, rQFX1, rQFX2, rQFX3, rQFX4, rQFX5, rQFX6, rQFX7, rQFX8, rQFX9, rQFX10, rQFX11, rQFX12, rQFX13, hx, hy, h1, sQG, iQG, endL, finB]
 ·by_cases h2 : y < x
  ·simp [rQFX0, rQFX1, rQFX2, rQFX3, rQFX4, rQFX5, rQFX6, rQFX7, rQFX8, rQFX9, rQFX10, rQFX11, rQFX12, rQFX13, hx, hy, h1, h2, sQG, iQG, endL, finB]
  ·simp [rQFX0, rQFX1, rQFX2, rQFX3, rQFX4, rQFX5, rQFX6, rQFX7, rQFX8, rQFX9, rQFX10, rQFX11, rQFX12, rQFX13, hx, hy, h1, h2, sQG, iQG, endL, finB]
end Go.BmP
