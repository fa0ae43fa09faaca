/- The comparison of graph.Order: lesser first ends, then lesser second ends. -/
import Derived.Test.YtjfdniggjdnkiaaSrfG
namespace Go.Bm
open Go.Am
def cmpJ (x y : Int) : Int := if x < y then -1 else if y < x then 1 else 0
def cfO (x y : Int × Int) : Int := if cmpJ x.1 y.1 = 0 then cmpJ x.2 y.2 else cmpJ x.1 y.1
theorem cmpJ_lt (x y : Int) : (cmpJ x y < 0 ↔ x < y) /\ (cmpJ x y = 0 ↔ x = y) := by
 unfold cmpJ; split
 ·constructor <;> constructor <;> intro h <;> omega
 ·split <;> constructor <;> constructor <;> intro h <;> omega
theorem leO (x y : Int × Int) : leC cfO x y = true ↔ x.1 < y.1 \/ x.1 = y.1 /\ x.2 <= y.2 := by
 have h1 := cmpJ_lt y.1 x.1
 have h2 := cmpJ_lt y.2 x.2
 unfold leC cfO
 simp only [Bool.not_eq_true', decide_eq_false_iff_not]
 by_cases k : cmpJ y.1 x.1 = 0
 ·rw [if_pos k]; omega
 ·rw [if_neg k]; omega
theorem totO : TotC cfO where
 tr x y z h1 h2 := by rw [leO] at *; omega
 tot x y := by rw [leO, leO]; omega
 anti x y h1 h2 := by
  rw [leO] at h1 h2
  exact Prod.ext (by omega) (by omega)
end Go.Bm
