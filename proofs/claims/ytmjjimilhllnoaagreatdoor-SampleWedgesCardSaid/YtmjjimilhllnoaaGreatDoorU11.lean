/- What ratio.Make returns for small numbers that are not negative. -/
import Derived.Test.YtmjjimilhllnoaaGreatDoorUseM
import Derived.Test.YtmjjimilhllnoaaGreatDoorT05
set_option linter.unusedSimpArgs false
set_option linter.unusedVariables false
set_option maxRecDepth 100000
set_option maxHeartbeats 4000000
namespace Go.BmP
open Go.Am Go.Bm
theorem tmodN (a b : Nat) : (a : Int).tmod b = ((a % b : Nat) : Int) := (Int.ofNat_tmod a b).symm
theorem tdivN {a : Nat} (b : Nat) (ha : a < 1000000000000) : IntKind.i64.wrap ((a : Int).tdiv b) = ((a / b : Nat) : Int) := by
 have h : ((a / b : Nat) : Int) = (a : Int).tdiv b := Int.ofNat_tdiv a b
 have := Nat.div_le_self a b
 rw [<- h]
 generalize a / b = x at *
 exact wrap_id (by omega) (by omega)
def cmSt (a b : Nat) (J : Env) : St := ⟨(0, .int .i64 a) :: (1, .int .i64 b) :: J, []⟩
theorem cm_loop : ∀ (b a : Nat), a < 1000000000000 -> b < 1000000000000 -> codeL cfgS 0 (.loop lQZX0) (cmSt a b []) = some (.exit 0, cmSt (Nat.gcd a b) 0 [(6, .bool false)]) := fun b => by
 induction b using Nat.strongRecOn with
 | ind b ih =>
   intro a ha hb
   by_cases h : b = 0
   ·subst h
    rw [Nat.gcd_zero_right]
    refine loop_exit ?_
    unfold cmSt lQZX0
    simp [rQZX0, rQZX1, rQZX2, rQZX3]
   ·have lt := Nat.mod_lt a (show b > 0 by omega)
    have e : Nat.gcd a b = Nat.gcd b (a % b) := by rw [Nat.gcd_comm b, <- Nat.gcd_rec b a, Nat.gcd_comm]
    rw [e]
    refine (loop_next ?_).trans (ih (a % b) lt b hb (by omega))
    have h1 : ¬ (b : Int) = 0 := by omega
    have q := tmodN a b
    generalize a % b = r at *
    unfold cmSt lQZX0
    simp [rQZX0, rQZX1, rQZX2, rQZX3, h, h1, q]
theorem rcommon_run {a b : Nat} (ha : a < 1000000000000) (hb : b < 1000000000000) : callL cfgS nQZ [.int .i64 a, .int .i64 b] [] = some (.int .i64 (Nat.gcd a b : Nat), []) := by
 have lp := cm_loop b a ha hb
 rw [callL_end oQZ sQZ (Nat.le_of_ble_eq_true rfl)]
 generalize Nat.gcd a b = g at *
 unfold cmSt at lp
 unfold qQZ cQZ
 simp [rQZX0, rQZX1, rQZX2, rQZX3, lp, blk, endL, finB]
theorem ratw_run {a m : Nat} (hm : m < 9223372036854775807) (h : a <= m) : callL cfgS nQI [.int .i64 a, .int .i64 m] [] = some (.bool true, []) := by
 have q : IntKind.i64.wrap (-(m : Int)) = -(m : Int) := wrap_id (by omega) (by omega)
 have h1 : -(m : Int) <= (a : Int) := by omega
 have h2 : (a : Int) <= m := by omega
 rw [callL_end oQI sQI (Nat.le_of_ble_eq_true rfl)]
 unfold qQI cQI
 simp [rQIX0, rQIX1, q, h1, h2, blk, endL, finB]
theorem ratc_run {a b : Nat} (ha : a < 1000000000000) (hb : b < 1000000000000) : callL cfgS nQ0 [.agg [.int .i64 a, .int .i64 b]] [] = some (.tup [.agg [.int .i64 a, .int .i64 b], .int .i64 0], []) := by
 have w := ratw_run (a := a) (m := 1152921504606846976) (by omega) (by omega)
 rw [show ((1152921504606846976 : Nat) : Int) = 1152921504606846976 from rfl] at w
 have h1 : ¬ (1152921504606846976 : Int) < b := by omega
 rw [callL_end oQ0 sQ0 (Nat.le_of_ble_eq_true rfl)]
 unfold qQ0 cQ0
 simp [rQ0X0, rQ0X1, rQ0X2, rQ0X3, w, h1, blk, sQI, iQI, plL, pl, endL, finB]
theorem ratl_run {a b : Nat} (ha : a < 1000000000000) (hb : b < 1000000000000) (b0 : 0 < b) : callL cfgS nQJ [.int .i64 a, .int .i64 b] [] = some (.tup [.agg [.int .i64 (a / Nat.gcd a b : Nat), .int .i64 (b / Nat.gcd a b : Nat)], .int .i64 0], []) := by
 have c := rcommon_run ha hb
 have g0 : 0 < Nat.gcd a b := Nat.gcd_pos_of_pos_right _ b0
 have k := ratc_run (a := a / Nat.gcd a b) (b := b / Nat.gcd a b) (Nat.lt_of_le_of_lt (Nat.div_le_self _ _) ha) (Nat.lt_of_le_of_lt (Nat.div_le_self _ _) hb)
 have d1 := tdivN (Nat.gcd a b) ha
 have d2 := tdivN (Nat.gcd a b) hb
 rw [Int.tdiv_eq_ediv_of_nonneg (by omega)] at d1 d2
 have n0 : ¬ (b : Int) < 0 := by omega
 have q : IntKind.i64.wrap (-(a : Int)) = -(a : Int) := wrap_id (by omega) (by omega)
 have mx : ¬ (a : Int) < -(a : Int) := by omega
 have g1 : ¬ Nat.gcd a b = 0 := by omega
 generalize a / Nat.gcd a b = x at *
 generalize b / Nat.gcd a b = y at *
 generalize Nat.gcd a b = g at *
 rw [callL_end oQJ sQJ (Nat.le_of_ble_eq_true rfl)]
 unfold qQJ cQJ
 simp [rQJX0, rQJX1, rQJX2, rQJX3, rQJX4, c, k, d1, d2, n0, q, mx, g1, blk, sQZ, iQZ, sQ0, iQ0, plL, pl, endL, finB]
theorem ratm_run {a b : Nat} (ha : a < 1000000000000) (hb : b < 1000000000000) (b0 : 0 < b) : callL cfgS nQv [.int .i64 a, .int .i64 b] [] = some (.tup [.agg [.int .i64 (a / Nat.gcd a b : Nat), .int .i64 (b / Nat.gcd a b : Nat)], .int .i64 0], []) := by
 have c := ratl_run ha hb b0
 have w1 := ratw_run (a := a) (m := 4611686018427387904) (by omega) (by omega)
 have w2 := ratw_run (a := b) (m := 4611686018427387904) (by omega) (by omega)
 rw [show ((4611686018427387904 : Nat) : Int) = 4611686018427387904 from rfl] at w1 w2
 have n0 : ¬ (b : Int) = 0 := by omega
 have n1 : ¬ b = 0 := by omega
 generalize a / Nat.gcd a b = x at *
 generalize b / Nat.gcd a b = y at *
 rw [callL_end oQv sQv (Nat.le_of_ble_eq_true rfl)]
 unfold qQv cQv
 simp [rQvX0, rQvX1, rQvX2, rQvX3, rQvX4, rQvX5, c, w1, w2, n0, n1, blk, sQJ, iQJ, sQI, iQI, plL, pl, endL, finB]
end Go.BmP
