/- What comparisons return; nodeset.Valid, Has, Cmp, Range. -/
import Derived.Test.YtcjfhegnnjnmgaaUseM
import Derived.Test.YtcjfhegnnjnmgaaR02c
set_option linter.unusedSimpArgs false
set_option linter.unusedVariables false
set_option maxRecDepth 100000
namespace Go.BmP
open Go.Am Go.Bm
def cmpGo : List Int -> List Int -> Option Int
 | [], _ => none
 | _ :: _, [] => some 1
 | x :: r, y :: s => if y < x then some 1 else if x < y then some (-1) else cmpGo r s
theorem nan_run (x : Int) : callL cfgS nCmpIsNaNInt [.int .i64 x] [] = some (.bool false, []) := by
 rw [callL_end oCmpIsNaNInt sCmpIsNaNInt (Nat.le_of_ble_eq_true rfl)]
 unfold qCmpIsNaNInt cCmpIsNaNInt
 simp [rCmpIsNaNIntX0, rCmpIsNaNIntX1, endL, finB]
def cmpI (x y : Int) : Int := if x < y then -1 else if y < x then 1 else 0
theorem cmpI_run (x y : Int) : callL cfgS nCmpCompareInt [.int .i64 x, .int .i64 y] [] = some (.int .i64 (cmpI x y), []) := by
 rw [callL_end oCmpCompareInt sCmpCompareInt (Nat.le_of_ble_eq_true rfl)]
 have hx := nan_run x
 have hy := nan_run y
 unfold qCmpCompareInt cCmpCompareInt cmpI
 by_cases h1 : x < y
 ·simp [rCmpCompareIntX0, rCmpCompareIntX1, rCmpCompareIntX2, rCmpCompareIntX3, rCmpCompareIntX4, rCmpCompareIntX5, rCmpCompareIntX6, rCmpCompareIntX7, rCmpCompareIntX8, rCmpCompareIntX9, rCmpCompareIntX10, rCmpCompareIntX11, rCmpCompareIntX12, rCmpCompareIntX13, hx, hy, h1, sCmpIsNaNInt, iCmpIsNaNInt, lCmpIsNaNInt, eCmpIsNaNInt, endL, finB]
 ·by_cases h2 : y < x
  ·simp [rCmpCompareIntX0, rCmpCompareIntX1, rCmpCompareIntX2, rCmpCompareIntX3, rCmpCompareIntX4, rCmpCompareIntX5, rCmpCompareIntX6, rCmpCompareIntX7, rCmpCompareIntX8, rCmpCompareIntX9, rCmpCompareIntX10, rCmpCompareIntX11, rCmpCompareIntX12, rCmpCompareIntX13, hx, hy, h1, h2, sCmpIsNaNInt, iCmpIsNaNInt, lCmpIsNaNInt, eCmpIsNaNInt, endL, finB]
  ·simp [rCmpCompareIntX0, rCmpCompareIntX1, rCmpCompareIntX2, rCmpCompareIntX3, rCmpCompareIntX4, rCmpCompareIntX5, rCmpCompareIntX6, rCmpCompareIntX7, rCmpCompareIntX8, rCmpCompareIntX9, rCmpCompareIntX10, rCmpCompareIntX11, rCmpCompareIntX12, rCmpCompareIntX13, hx, hy, h1, h2, sCmpIsNaNInt, iCmpIsNaNInt, lCmpIsNaNInt, eCmpIsNaNInt, endL, finB]
end Go.BmP
