/- What the wide numbers of ref01 return for small numbers: double, less, sub, divide. -/
import Derived.Test.YtmjjimilhllnoaaGreatDoorUseM
import Derived.Test.YtmjjimilhllnoaaGreatDoorT05
set_option linter.unusedSimpArgs false
set_option linter.unusedVariables false
set_option maxRecDepth 100000
set_option maxHeartbeats 4000000
namespace Go.BmP
open Go.Am Go.Bm
def wd (x : Nat) : AV := .agg [.int .u64 0, .int .u64 x]
theorem or00 : bits .or .u64 0 0 = 0 := by decide +kernel
theorem and01 : bits .and .u64 0 1 = 0 := by decide +kernel
theorem or1 {x : Nat} (h : x < 1000000000000) : bits .or .u64 ((2 * x : Nat) : Int) 1 = ((2 * x + 1 : Nat) : Int) := by
 have := u64_or_nat (2 * x) 1 (by omega) (by decide)
 rw [show ((1 : Nat) : Int) = 1 from rfl] at this
 rw [this]
 congr 1
 have := Nat.shiftLeft_add_eq_or_of_lt (b := 1) (i := 1) (by decide) x
 rw [Nat.shiftLeft_eq, Nat.pow_one, Nat.mul_comm] at this
 exact this.symm
theorem and1u {x : Nat} (h : x < 18446744073709551616) : bits .and .u64 (x : Int) 1 = ((x % 2 : Nat) : Int) := by
 have := u64_and_nat x 1 h (by decide)
 rw [show ((1 : Nat) : Int) = 1 from rfl] at this
 rw [this, Nat.and_one_is_mod]
theorem double_run {x : Nat} (h : x < 1000000000000) : callL cfgS nQb9 [wd x] [] = some (wd (2 * x), []) := by
 have e1 : ((x : Nat) : Int).fdiv 9223372036854775808 = 0 := by
  rw [Int.fdiv_eq_ediv_of_nonneg _ (by decide)]; omega
 have e2 : IntKind.u64.wrap ((x : Int) * 2) = ((2 * x : Nat) : Int) := by rw [IntKind.wrap_u64]; omega
 have e0 : IntKind.u64.wrap 0 = 0 := by decide
 unfold wd
 generalize ((2 * x : Nat) : Int) = y at *
 rw [callL_end oQb9 sQb9 (Nat.le_of_ble_eq_true rfl)]
 unfold qQb9 cQb9
 simp [rQb9X0, rQb9X1, e0, e1, e2, or00, IntKind.bits, blk, plL, pl, endL, finB]
theorem less_run {x y : Nat} : callL cfgS nQc0 [wd x, wd y] [] = some (.bool (decide (x < y)), []) := by
 rw [callL_end oQc0 sQc0 (Nat.le_of_ble_eq_true rfl)]
 unfold qQc0 cQc0 wd
 simp [rQc0X0, rQc0X1, blk, plL, pl, endL, finB]
theorem sub_run {x y : Nat} (hx : x < 1000000000000) (h : y <= x) : callL cfgS nQc1 [wd x, wd y] [] = some (wd (x - y), []) := by
 have e1 : IntKind.u64.wrap ((x : Int) - (y : Int)) = ((x - y : Nat) : Int) := by rw [IntKind.wrap_u64]; omega
 have e0 : IntKind.u64.wrap 0 = 0 := by decide
 have n : ¬ (x : Int) < (y : Int) := by omega
 have n1 : ¬ x < y := by omega
 unfold wd
 generalize ((x - y : Nat) : Int) = z at *
 rw [callL_end oQc1 sQc1 (Nat.le_of_ble_eq_true rfl)]
 unfold qQc1 cQc1
 simp [rQc1X0, rQc1X1, rQc1X2, rQc1X3, rQc1X4, e0, e1, n, n1, blk, plL, pl, endL, finB]
def dvSt (a b q r : Nat) (i : Int) (J : Env) : St := ⟨(2, .ptr 0 0) :: (3, .ptr 1 0) :: (4, .ptr 2 0) :: (5, .ptr 3 0) :: (6, .ptr 4 0) :: (7, .ptr 5 0) :: (8, .int .i64 i) :: J, [some [.int .u64 0, .int .u64 a], some [.int .u64 0, .int .u64 b], some [.int .u64 0, .int .u64 0], some [.int .u64 0, .int .u64 0], some [.int .u64 0, .int .u64 q], some [.int .u64 0, .int .u64 r]]⟩
theorem dv_round (a b q r n : Nat) (ha : a < 1000000000000) (hb : b < 1000000000000 / 8) (hr : r < b) (hq : q < 1000000000000 / 4) (hn : n < 128) :
  codeL cfgS 0 lQb8X0 (dvSt a b q r n []) = some (.normal, dvSt a b (if 2 * r + a / 2 ^ n % 2 < b then 2 * q else 2 * q + 1) (if 2 * r + a / 2 ^ n % 2 < b then 2 * r + a / 2 ^ n % 2 else 2 * r + a / 2 ^ n % 2 - b) ((n : Int) - 1) []) := by
 have d1 := double_run (x := r) (by omega)
 have d2 := double_run (x := q) (by omega)
 have n0 : (0 : Int) <= (n : Int) := by omega
 have hw : IntKind.i64.wrap ((n : Int) - 1) = (n : Int) - 1 := wrap_id (by omega) (by omega)
 have o1 := or1 (x := r) (by omega)
 have o2 := or1 (x := q) (by omega)
 have bt2 : a / 2 ^ n % 2 = 0 \/ a / 2 ^ n % 2 = 1 := by omega
 have key : ∀ J : Env, True := fun _ => trivial
 have a0 : 64 <= n -> a / 2 ^ n % 2 = 0 := fun h => by
  have : a < 2 ^ n := Nat.lt_of_lt_of_le ha (Nat.le_trans (show 1000000000000 <= 2 ^ 64 by decide) (Nat.pow_le_pow_right (by decide) h))
  rw [Nat.div_eq_of_lt this]
 have l1 := less_run (x := 2 * r + a / 2 ^ n % 2) (y := b)
 have s1 : ¬ 2 * r + a / 2 ^ n % 2 < b -> callL cfgS nQc1 [wd (2 * r + a / 2 ^ n % 2), wd b] [] = some (wd (2 * r + a / 2 ^ n % 2 - b), []) := fun h => sub_run (by omega) (by omega)
 unfold wd at d1 d2 l1 s1
 by_cases hn64 : 64 <= n
 ·have b0 := a0 hn64
  rw [b0, Nat.add_zero] at l1 s1 ⊢
  have h64 : (64 : Int) <= (n : Int) := by omega
  have h64' : ¬ (n : Int) < 64 := by omega
  have w1 : IntKind.i64.wrap ((n : Int) - 64) = ((n - 64 : Nat) : Int) := by rw [show ((n : Int) - 64) = ((n - 64 : Nat) : Int) by omega]; exact wrap_id (by omega) (by omega)
  have w2 : IntKind.u64.wrap ((n - 64 : Nat) : Int) = ((n - 64 : Nat) : Int) := wrapU (by omega)
  have w3 : ¬ ((n - 64 : Nat) : Int) < 0 := by omega
  generalize n - 64 = m at *
  by_cases c : 2 * r < b
  ·rw [if_pos c, if_pos c]
   rw [decide_eq_true c] at l1
   generalize 2 * r = rr at *
   generalize 2 * q = qq at *
   unfold dvSt lQb8X0
   simp [rQb8X0, rQb8X1, rQb8X2, rQb8X3, rQb8X4, rQb8X5, rQb8X6, rQb8X7, rQb8X8, rQb8X9, rQb8X10, rQb8X11, rQb8X12, n0, hn64, h64, h64', w1, w2, w3, hw, d1, d2, l1, and01, IntKind.bits, blk, Int.zero_fdiv, sQb9, iQb9, sQc0, iQc0]
  ·rw [if_neg c, if_neg c]
   have s := s1 c
   rw [decide_eq_false c] at l1
   generalize 2 * r - b = r2 at *
   generalize 2 * r = rr at *
   generalize 2 * q + 1 = q1 at *
   generalize 2 * q = qq at *
   unfold dvSt lQb8X0
   simp [rQb8X0, rQb8X1, rQb8X2, rQb8X3, rQb8X4, rQb8X5, rQb8X6, rQb8X7, rQb8X8, rQb8X9, rQb8X10, rQb8X11, rQb8X12, n0, hn64, h64, h64', w1, w2, w3, hw, d1, d2, l1, s, o2, and01, IntKind.bits, blk, Int.zero_fdiv, sQb9, iQb9, sQc0, iQc0, sQc1, iQc1]
 ·have h64 : ¬ (64 : Int) <= (n : Int) := by omega
  have h64' : (n : Int) < 64 := by omega
  have w2 : IntKind.u64.wrap (n : Int) = (n : Int) := wrapU (by omega)
  have w3 : ¬ (n : Int) < 0 := by omega
  have hmin : min n 64 = n := by omega
  have e1 : ((a : Nat) : Int).fdiv (2 ^ n) = ((a / 2 ^ n : Nat) : Int) := by
   rw [Int.fdiv_eq_ediv_of_nonneg _ (Int.pow_nonneg (by decide)), Int.natCast_ediv, Int.natCast_pow]; rfl
  have e2 := and1u (x := a / 2 ^ n) (Nat.lt_of_le_of_lt (Nat.div_le_self _ _) (by omega))
  rcases bt2 with b0 | b0
  ·rw [b0, Nat.add_zero] at l1 s1 ⊢
   rw [b0] at e2
   generalize a / 2 ^ n = an at *
   by_cases c : 2 * r < b
   ·rw [if_pos c, if_pos c]
    rw [decide_eq_true c] at l1
    generalize 2 * r = rr at *
    generalize 2 * q = qq at *
    unfold dvSt lQb8X0
    simp [rQb8X0, rQb8X1, rQb8X2, rQb8X3, rQb8X4, rQb8X5, rQb8X6, rQb8X7, rQb8X8, rQb8X9, rQb8X10, rQb8X11, rQb8X12, n0, hn64, h64, h64', w2, w3, hmin, e1, e2, hw, d1, d2, l1, and01, IntKind.bits, blk, sQb9, iQb9, sQc0, iQc0]
   ·rw [if_neg c, if_neg c]
    have s := s1 c
    rw [decide_eq_false c] at l1
    generalize 2 * r - b = r2 at *
    generalize 2 * r = rr at *
    generalize 2 * q + 1 = q1 at *
    generalize 2 * q = qq at *
    unfold dvSt lQb8X0
    simp [rQb8X0, rQb8X1, rQb8X2, rQb8X3, rQb8X4, rQb8X5, rQb8X6, rQb8X7, rQb8X8, rQb8X9, rQb8X10, rQb8X11, rQb8X12, n0, hn64, h64, h64', w2, w3, hmin, e1, e2, hw, d1, d2, l1, s, o2, and01, IntKind.bits, blk, sQb9, iQb9, sQc0, iQc0, sQc1, iQc1]
  ·rw [b0] at l1 s1 e2 ⊢
   generalize a / 2 ^ n = an at *
   by_cases c : 2 * r + 1 < b
   ·rw [if_pos c, if_pos c]
    rw [decide_eq_true c] at l1
    generalize 2 * r + 1 = r1 at *
    generalize 2 * r = rr at *
    generalize 2 * q = qq at *
    unfold dvSt lQb8X0
    simp [rQb8X0, rQb8X1, rQb8X2, rQb8X3, rQb8X4, rQb8X5, rQb8X6, rQb8X7, rQb8X8, rQb8X9, rQb8X10, rQb8X11, rQb8X12, n0, hn64, h64, h64', w2, w3, hmin, e1, e2, hw, d1, d2, l1, o1, and01, IntKind.bits, blk, sQb9, iQb9, sQc0, iQc0]
   ·rw [if_neg c, if_neg c]
    have s := s1 c
    rw [decide_eq_false c] at l1
    generalize 2 * r + 1 - b = r2 at *
    generalize 2 * r + 1 = r1 at *
    generalize 2 * r = rr at *
    generalize 2 * q + 1 = q1 at *
    generalize 2 * q = qq at *
    unfold dvSt lQb8X0
    simp [rQb8X0, rQb8X1, rQb8X2, rQb8X3, rQb8X4, rQb8X5, rQb8X6, rQb8X7, rQb8X8, rQb8X9, rQb8X10, rQb8X11, rQb8X12, n0, hn64, h64, h64', w2, w3, hmin, e1, e2, hw, d1, d2, l1, s, o1, o2, and01, IntKind.bits, blk, sQb9, iQb9, sQc0, iQc0, sQc1, iQc1]
theorem dv_loop (a b : Nat) (ha : a < 1000000000000 / 8) (hb : b < 1000000000000 / 8) (b0 : 0 < b) : ∀ n : Nat, n <= 128 -> codeL cfgS 0 (.loop lQb8X0) (dvSt a b (a / 2 ^ n / b) (a / 2 ^ n % b) ((n : Int) - 1) []) = some (.exit 0, dvSt a b (a / b) (a % b) (-1) [(10, .bool false)])
 | 0, _ => by
   rw [Nat.pow_zero, Nat.div_one]
   refine loop_exit ?_
   generalize a / b = q at *
   generalize a % b = r at *
   unfold dvSt lQb8X0
   simp [rQb8X0, rQb8X1, rQb8X2, rQb8X3, rQb8X4, rQb8X5, rQb8X6, rQb8X7, rQb8X8, rQb8X9, rQb8X10, rQb8X11, rQb8X12]
 | n + 1, hn => by
   have ih := dv_loop a b ha hb b0 n (by omega)
   have hr := Nat.mod_lt (a / 2 ^ (n + 1)) b0
   have hq : a / 2 ^ (n + 1) / b < 1000000000000 / 4 := Nat.lt_of_le_of_lt (Nat.div_le_self _ _) (Nat.lt_of_le_of_lt (Nat.div_le_self _ _) (by omega))
   have rd := dv_round a b (a / 2 ^ (n + 1) / b) (a / 2 ^ (n + 1) % b) n (by omega) hb hr hq (by omega)
   have e1 : a / 2 ^ n = 2 * (a / 2 ^ (n + 1)) + a / 2 ^ n % 2 := by
    rw [Nat.pow_succ, <- Nat.div_div_eq_div_mul]; omega
   have e2 := Nat.div_add_mod (a / 2 ^ (n + 1)) b
   generalize a / 2 ^ (n + 1) / b = q at *
   generalize a / 2 ^ (n + 1) % b = r at *
   generalize a / 2 ^ (n + 1) = z at *
   have bt2 : a / 2 ^ n % 2 < 2 := Nat.mod_lt _ (by omega)
   generalize a / 2 ^ n % 2 = c at *
   generalize a / 2 ^ n = y at *
   have f1 : y = b * (if 2 * r + c < b then 2 * q else 2 * q + 1) + (if 2 * r + c < b then 2 * r + c else 2 * r + c - b) := by
    split
    ·rw [Nat.mul_left_comm]; omega
    ·rw [Nat.mul_add, Nat.mul_left_comm]; omega
   have f2 : (if 2 * r + c < b then 2 * r + c else 2 * r + c - b) < b := by split <;> omega
   generalize (if 2 * r + c < b then 2 * q else 2 * q + 1) = q2 at *
   generalize (if 2 * r + c < b then 2 * r + c else 2 * r + c - b) = r2 at *
   have g1 : y / b = q2 := by rw [f1, Nat.mul_add_div b0, Nat.div_eq_of_lt f2, Nat.add_zero]
   have g2 : y % b = r2 := by rw [f1, Nat.mul_add_mod, Nat.mod_eq_of_lt f2]
   rw [g1, g2] at ih
   refine (loop_next ?_).trans ih
   rw [show (((n + 1 : Nat) : Int) - 1) = (n : Int) by omega]
   exact rd
theorem divide_run {a b : Nat} (ha : a < 1000000000000 / 8) (hb : b < 1000000000000 / 8) (b0 : 0 < b) : callL cfgS nQb8 [wd a, wd b] [] = some (.tup [wd (a / b), wd (a % b)], []) := by
 have lp := dv_loop a b ha hb b0 128 (by omega)
 have z : a / 2 ^ 128 = 0 := Nat.div_eq_of_lt (Nat.lt_of_lt_of_le ha (by decide))
 rw [z, Nat.zero_div, Nat.zero_mod, show (((128 : Nat) : Int) - 1) = 127 from rfl] at lp
 generalize a / b = q at *
 generalize a % b = r at *
 unfold dvSt at lp
 rw [nat0] at lp
 rw [callL_end oQb8 sQb8 (Nat.le_of_ble_eq_true rfl)]
 unfold qQb8 cQb8 wd
 simp [rQb8X0, rQb8X1, rQb8X2, rQb8X3, rQb8X4, rQb8X5, rQb8X6, rQb8X7, rQb8X8, rQb8X9, rQb8X10, rQb8X11, rQb8X12, lp, blk, plL, pl, endL, finB]
end Go.BmP
/- What ref01.Of returns for small numbers. -/
set_option linter.unusedSimpArgs false
set_option linter.unusedVariables false
set_option maxRecDepth 100000
set_option maxHeartbeats 4000000
namespace Go.BmP
open Go.Am Go.Bm
def gcSt (a b : Nat) (J : Env) : St := ⟨(2, .ptr 0 0) :: (3, .ptr 1 0) :: (4, .ptr 2 0) :: J, [some [.int .u64 0, .int .u64 a], some [.int .u64 0, .int .u64 b], some [.int .u64 0, .int .u64 0]]⟩
theorem gc_loop : ∀ (b a : Nat), a < 1000000000000 / 8 -> b < 1000000000000 / 8 -> codeL cfgS 0 (.loop lQb7X0) (gcSt a b []) = some (.exit 0, gcSt (Nat.gcd a b) 0 [(9, .bool false)]) := fun b => by
 induction b using Nat.strongRecOn with
 | ind b ih =>
   intro a ha hb
   by_cases h : b = 0
   ·subst h
    rw [Nat.gcd_zero_right]
    refine loop_exit ?_
    unfold gcSt lQb7X0
    simp [rQb7X0, rQb7X1, rQb7X2, rQb7X3, rQb7X4, eqA, eqc, blk]
   ·have lt := Nat.mod_lt a (show b > 0 by omega)
    have e : Nat.gcd a b = Nat.gcd b (a % b) := by rw [Nat.gcd_comm b, <- Nat.gcd_rec b a, Nat.gcd_comm]
    rw [e]
    refine (loop_next ?_).trans (ih (a % b) lt b hb (by omega))
    have h1 : ¬ (b : Int) = 0 := by omega
    have d := divide_run ha hb (show 0 < b by omega)
    generalize a % b = r at *
    generalize a / b = q at *
    unfold wd at d
    unfold gcSt lQb7X0
    simp [rQb7X0, rQb7X1, rQb7X2, rQb7X3, rQb7X4, h, h1, d, eqA, eqc, blk, sQb8, iQb8]
theorem gcd_run {a b : Nat} (ha : a < 1000000000000 / 8) (hb : b < 1000000000000 / 8) : callL cfgS nQb7 [wd a, wd b] [] = some (wd (Nat.gcd a b), []) := by
 have lp := gc_loop b a ha hb
 generalize Nat.gcd a b = g at *
 unfold gcSt at lp
 rw [nat0] at lp
 rw [callL_end oQb7 sQb7 (Nat.le_of_ble_eq_true rfl)]
 unfold qQb7 cQb7 wd
 simp [rQb7X0, rQb7X1, rQb7X2, rQb7X3, rQb7X4, lp, blk, plL, pl, endL, finB]
def fr (a b : Nat) : AV := .agg [.int .i64 (a / Nat.gcd a b : Nat), .int .i64 (b / Nat.gcd a b : Nat)]
theorem reduce_run {a b : Nat} (ha : a < 1000000000000 / 8) (hb : b < 1000000000000 / 8) (b0 : 0 < b) : callL cfgS nQb3 [.bool false, wd a, wd b] [] = some (.tup [fr a b, .int .i64 0], []) := by
 by_cases h : a = 0
 ·subst h
  unfold fr
  rw [Nat.gcd_zero_left, Nat.zero_div, Nat.div_self b0]
  rw [callL_end oQb3 sQb3 (Nat.le_of_ble_eq_true rfl)]
  unfold qQb3 cQb3 wd
  simp [rQb3X0, rQb3X1, rQb3X2, rQb3X3, rQb3X4, rQb3X5, rQb3X6, rQb3X7, rQb3X8, rQb3X9, rQb3X10, rQb3X11, eqA, eqc, blk, plL, pl, endL, finB]
 ·have g := gcd_run ha hb
  have g0 : 0 < Nat.gcd a b := Nat.gcd_pos_of_pos_right _ b0
  have gl : Nat.gcd a b < 1000000000000 / 8 := Nat.lt_of_le_of_lt (Nat.gcd_le_right _ b0) hb
  have d1 := divide_run ha gl g0
  have d2 := divide_run hb gl g0
  have l1 : a / Nat.gcd a b < 1000000000000 / 8 := Nat.lt_of_le_of_lt (Nat.div_le_self _ _) ha
  have l2 : b / Nat.gcd a b < 1000000000000 / 8 := Nat.lt_of_le_of_lt (Nat.div_le_self _ _) hb
  unfold fr
  generalize a / Nat.gcd a b = x at *
  generalize b / Nat.gcd a b = y at *
  generalize a % Nat.gcd a b = x' at *
  generalize b % Nat.gcd a b = y' at *
  generalize Nat.gcd a b = G at *
  have n1 : ¬ (1152921504606846976 : Int) < x := by omega
  have n2 : ¬ (1152921504606846976 : Int) < y := by omega
  have w1 : IntKind.i64.wrap (x : Int) = (x : Int) := wrap_id (by omega) (by omega)
  have w2 : IntKind.i64.wrap (y : Int) = (y : Int) := wrap_id (by omega) (by omega)
  have h1 : ¬ (a : Int) = 0 := by omega
  unfold wd at g d1 d2
  rw [callL_end oQb3 sQb3 (Nat.le_of_ble_eq_true rfl)]
  unfold qQb3 cQb3 wd
  simp [rQb3X0, rQb3X1, rQb3X2, rQb3X3, rQb3X4, rQb3X5, rQb3X6, rQb3X7, rQb3X8, rQb3X9, rQb3X10, rQb3X11, eqA, eqc, h, h1, g, d1, d2, n1, n2, w1, w2, blk, sQb7, iQb7, sQb8, iQb8, plL, pl, endL, finB]
theorem size_run {a : Nat} (ha : a < 1000000000000) : callL cfgS nQb4 [.int .i64 a] [] = some (.int .u64 a, []) := by
 have w1 : IntKind.u64.wrap (a : Int) = (a : Int) := wrapU (by omega)
 have n : ¬ (a : Int) < 0 := by omega
 rw [callL_end oQb4 sQb4 (Nat.le_of_ble_eq_true rfl)]
 unfold qQb4 cQb4
 simp [rQb4X0, rQb4X1, rQb4X2, rQb4X3, w1, n, blk, plL, pl, endL, finB]
theorem rmake_run {a b : Nat} (ha : a < 1000000000000 / 8) (hb : b < 1000000000000 / 8) (b0 : 0 < b) : callL cfgS nQ6 [.int .i64 a, .int .i64 b] [] = some (.tup [fr a b, .int .i64 0], []) := by
 have s1 := size_run (a := a) (by omega)
 have s2 := size_run (a := b) (by omega)
 have r := reduce_run ha hb b0
 have n1 : ¬ (a : Int) < 0 := by omega
 have n2 : ¬ (b : Int) < 0 := by omega
 have n3 : ¬ (b : Int) = 0 := by omega
 have n4 : ¬ b = 0 := by omega
 unfold fr wd at r
 unfold fr
 generalize a / Nat.gcd a b = x at *
 generalize b / Nat.gcd a b = y at *
 rw [callL_end oQ6 sQ6 (Nat.le_of_ble_eq_true rfl)]
 unfold qQ6 cQ6
 simp [rQ6X0, rQ6X1, rQ6X2, rQ6X3, s1, s2, r, n1, n2, n3, n4, eqA, blk, sQb4, iQb4, sQb3, iQb3, plL, pl, endL, finB]
theorem frof_run {a b : Nat} (ha : a < 1000000000000 / 8) (hb : b < 1000000000000 / 8) (b0 : 0 < b) : callL cfgS nQN [.int .i64 a, .int .i64 b] [] = some (fr a b, []) := by
 have r := rmake_run ha hb b0
 unfold fr at r ⊢
 generalize a / Nat.gcd a b = x at *
 generalize b / Nat.gcd a b = y at *
 rw [callL_end oQN sQN (Nat.le_of_ble_eq_true rfl)]
 unfold qQN cQN
 simp [rQNX0, rQNX1, rQNX2, r, blk, sQ6, iQ6, plL, pl, endL, finB]
theorem fr_zero {b : Nat} (b0 : 0 < b) : fr 0 b = .agg [.int .i64 0, .int .i64 1] := by
 unfold fr
 rw [Nat.gcd_zero_left, Nat.zero_div, Nat.div_self b0]; rfl
end Go.BmP
