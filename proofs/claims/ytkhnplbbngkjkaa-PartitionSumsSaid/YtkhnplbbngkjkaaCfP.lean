/- The comparison of partition.Make: greater numbers first, then lesser nodes. -/
import Derived.Test.YtkhnplbbngkjkaaSrfG
namespace Go.Bm
open Go.Am
def cmpJ (x y : Int) : Int := if x < y then -1 else if y < x then 1 else 0
def cfP (x y : Int × Int) : Int := if cmpJ y.1 x.1 = 0 then cmpJ x.2 y.2 else cmpJ y.1 x.1
theorem cmpJ_lt (x y : Int) : (cmpJ x y < 0 ↔ x < y) /\ (cmpJ x y = 0 ↔ x = y) := by
 unfold cmpJ; split
 ·constructor <;> constructor <;> intro h <;> omega
 ·split <;> constructor <;> constructor <;> intro h <;> omega
theorem leP (x y : Int × Int) : leC cfP x y = true ↔ y.1 < x.1 \/ y.1 = x.1 /\ x.2 <= y.2 := by
 have h1 := cmpJ_lt x.1 y.1
 have h2 := cmpJ_lt y.2 x.2
 unfold leC cfP
 simp only [Bool.not_eq_true', decide_eq_false_iff_not]
 by_cases k : cmpJ x.1 y.1 = 0
 ·rw [if_pos k]; omega
 ·rw [if_neg k]; omega
theorem totP : TotC cfP where
 tr x y z h1 h2 := by rw [leP] at *; omega
 tot x y := by rw [leP, leP]; omega
 anti x y h1 h2 := by
  rw [leP] at h1 h2
  exact Prod.ext (by omega) (by omega)
end Go.Bm
