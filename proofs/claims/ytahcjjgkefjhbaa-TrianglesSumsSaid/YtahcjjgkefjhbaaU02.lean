/- What the wide numbers of ref01 return for small numbers: double, less, sub, divide. -/
import Derived.Test.YtahcjjgkefjhbaaT05
set_option linter.unusedSimpArgs false
set_option linter.unusedVariables false
set_option maxRecDepth 100000
set_option maxHeartbeats 4000000
namespace Go.BmP
open Go.Am Go.Bm
def wd (x : Nat) : AV := .agg [.int .u64 0, .int .u64 x]
theorem or00 : bits .or .u64 0 0 = 0 := by decide +kernel
theorem and01 : bits .and .u64 0 1 = 0 := by decide +kernel
theorem or1 {x : Nat} (h : x < 1000000000000) : bits .or .u64 ((2 * x : Nat) : Int) 1 = ((2 * x + 1 : Nat) : Int) := by
  have := u64_or_nat (2 * x) 1 (by omega) (by decide)
  rw [show ((1 : Nat) : Int) = 1 from rfl] at this
  rw [this]
  congr 1
  have := Nat.shiftLeft_add_eq_or_of_lt (b := 1) (i := 1) (by decide) x
  rw [Nat.shiftLeft_eq, Nat.pow_one, Nat.mul_comm] at this
  exact this.symm
theorem and1u {x : Nat} (h : x < 18446744073709551616) : bits .and .u64 (x : Int) 1 = ((x % 2 : Nat) : Int) := by
  have := u64_and_nat x 1 h (by decide)
  rw [show ((1 : Nat) : Int) = 1 from rfl] at this
  rw [this, Nat.and_one_is_mod]
section
attribute [local simp] codeL_seq codeL_reg codeL_blk codeL_skip codeL_ret codeL_exit codeL_cnd condL_b thenL_n thenL_e thenL_r blkL_n blkL_e blkL_r regL_s opsB stepB opB opP opnd opnds lend lendC get_nil' get_cons' put_nil' put_cons' mem_nil' mem_cons' putdB putB slowP hasOwn hasOwnL finO relab anyB anyE anyH anyR borOf borL inSlot HAND endR hasOwnE endK keepIn trim noPtr noPtrL noPtrE noPtrH binA arith unA eqB isNilB eqc lenB bndB bnd rdN rdc AV.cells fillB peek ldOK AV.leaf allLeaf fz pl plL drawB allCW cwF okDrawB okPair Fq.ok dstOff wrOff notSlot noneIn apartR oldBoxes O.reads Kd.reads E.slot slots slotO slotsP List.getD pairIn nilL okRes clean cleanL resV resVs tupOf mkEnv partsBor doCallB inpB getArgs doCallO frzA frzV frzL minA minF cont ownAt at_ setAt rel dropS relC dropAll frzP frzAll firstBor borIn borC borS borE borH handTo mapSt mapE mapH mapB mapBL sw rt fb mvB mvRt seesP inRt isRoot rootOf boxOf seesB rootsL Am.rep ovw flatCells_ints allLeaf_ints flatCells el grp updE isNilB inpV inpL stB okL unA orcA bndB plL_ints fzL stBox inCells wrap0 wrap1 wrapm1 take_snoc BIGB marks boxZ ldLab cellOf cellN CELLM boxIn isCell apartC frzR frzRL frzS frzC frzCL
theorem double_run {x : Nat} (h : x < 1000000000000) : callL cfgS nRef01Double [wd x] [] = some (wd (2 * x), []) := by
  have e1 : ((x : Nat) : Int).fdiv 9223372036854775808 = 0 := by
    rw [Int.fdiv_eq_ediv_of_nonneg _ (by decide)]; omega
  have e2 : IntKind.u64.wrap ((x : Int) * 2) = ((2 * x : Nat) : Int) := by rw [IntKind.wrap_u64]; omega
  have e0 : IntKind.u64.wrap 0 = 0 := by decide
  unfold wd
  generalize ((2 * x : Nat) : Int) = y at *
  rw [callL_end oRef01Double sRef01Double (Nat.le_of_ble_eq_true rfl)]
  unfold qRef01Double cRef01Double
  simp [rRef01DoubleX0, rRef01DoubleX1, e0, e1, e2, or00, IntKind.bits, blk, plL, pl, endL, finB]
theorem less_run {x y : Nat} : callL cfgS nRef01Less [wd x, wd y] [] = some (.bool (decide (x < y)), []) := by
  rw [callL_end oRef01Less sRef01Less (Nat.le_of_ble_eq_true rfl)]
  unfold qRef01Less cRef01Less wd
  simp [rRef01LessX0, rRef01LessX1, blk, plL, pl, endL, finB]
theorem sub_run {x y : Nat} (hx : x < 1000000000000) (h : y ≤ x) : callL cfgS nRef01Sub [wd x, wd y] [] = some (wd (x - y), []) := by
  have e1 : IntKind.u64.wrap ((x : Int) - (y : Int)) = ((x - y : Nat) : Int) := by rw [IntKind.wrap_u64]; omega
  have e0 : IntKind.u64.wrap 0 = 0 := by decide
  have n : ¬ (x : Int) < (y : Int) := by omega
  have n1 : ¬ x < y := by omega
  unfold wd
  generalize ((x - y : Nat) : Int) = z at *
  rw [callL_end oRef01Sub sRef01Sub (Nat.le_of_ble_eq_true rfl)]
  unfold qRef01Sub cRef01Sub
  simp [rRef01SubX0, rRef01SubX1, rRef01SubX2, rRef01SubX3, rRef01SubX4, e0, e1, n, n1, blk, plL, pl, endL, finB]
end
def dvSt (a b q r : Nat) (i : Int) (J : Env) : St := ⟨(2, .ptr 0 0) :: (3, .ptr 1 0) :: (4, .ptr 2 0) :: (5, .ptr 3 0) :: (6, .ptr 4 0) :: (7, .ptr 5 0) :: (8, .int .i64 i) :: J, [some [.int .u64 0, .int .u64 a], some [.int .u64 0, .int .u64 b], some [.int .u64 0, .int .u64 0], some [.int .u64 0, .int .u64 0], some [.int .u64 0, .int .u64 q], some [.int .u64 0, .int .u64 r]]⟩
section
attribute [local simp] codeL_seq codeL_reg codeL_blk codeL_skip codeL_ret codeL_exit codeL_cnd condL_b thenL_n thenL_e thenL_r blkL_n blkL_e blkL_r regL_s opsB stepB opB opP opnd opnds lend lendC get_nil' get_cons' put_nil' put_cons' mem_nil' mem_cons' putdB putB slowP hasOwn hasOwnL finO relab anyB anyE anyH anyR borOf borL inSlot HAND endR hasOwnE endK keepIn trim noPtr noPtrL noPtrE noPtrH binA arith unA eqB isNilB eqc lenB bndB bnd rdN rdc AV.cells fillB peek ldOK AV.leaf allLeaf fz pl plL drawB allCW cwF okDrawB okPair Fq.ok dstOff wrOff notSlot noneIn apartR oldBoxes O.reads Kd.reads E.slot slots slotO slotsP List.getD pairIn nilL okRes clean cleanL resV resVs tupOf mkEnv partsBor doCallB inpB getArgs doCallO frzA frzV frzL minA minF cont ownAt at_ setAt rel dropS relC dropAll frzP frzAll firstBor borIn borC borS borE borH handTo mapSt mapE mapH mapB mapBL sw rt fb mvB mvRt seesP inRt isRoot rootOf boxOf seesB rootsL Am.rep ovw flatCells_ints allLeaf_ints flatCells el grp updE isNilB inpV inpL stB okL unA orcA bndB plL_ints fzL stBox inCells wrap0 wrap1 wrapm1 take_snoc BIGB marks boxZ ldLab cellOf cellN CELLM boxIn isCell apartC frzR frzRL frzS frzC frzCL
theorem dv_round (a b q r n : Nat) (ha : a < 1000000000000) (hb : b < 1000000000000 / 8) (hr : r < b) (hq : q < 1000000000000 / 4) (hn : n < 128) :
    codeL cfgS 0 lRef01DivideX0 (dvSt a b q r n []) = some (.normal, dvSt a b (if 2 * r + a / 2 ^ n % 2 < b then 2 * q else 2 * q + 1) (if 2 * r + a / 2 ^ n % 2 < b then 2 * r + a / 2 ^ n % 2 else 2 * r + a / 2 ^ n % 2 - b) ((n : Int) - 1) []) := by
  have d1 := double_run (x := r) (by omega)
  have d2 := double_run (x := q) (by omega)
  have n0 : (0 : Int) ≤ (n : Int) := by omega
  have hw : IntKind.i64.wrap ((n : Int) - 1) = (n : Int) - 1 := wrap_id (by omega) (by omega)
  have o1 := or1 (x := r) (by omega)
  have o2 := or1 (x := q) (by omega)
  have bt2 : a / 2 ^ n % 2 = 0 ∨ a / 2 ^ n % 2 = 1 := by omega
  have key : ∀ J : Env, True := fun _ => trivial
  have a0 : 64 ≤ n → a / 2 ^ n % 2 = 0 := fun h => by
    have : a < 2 ^ n := Nat.lt_of_lt_of_le ha (Nat.le_trans (show 1000000000000 ≤ 2 ^ 64 by decide) (Nat.pow_le_pow_right (by decide) h))
    rw [Nat.div_eq_of_lt this]
  have l1 := less_run (x := 2 * r + a / 2 ^ n % 2) (y := b)
  have s1 : ¬ 2 * r + a / 2 ^ n % 2 < b → callL cfgS nRef01Sub [wd (2 * r + a / 2 ^ n % 2), wd b] [] = some (wd (2 * r + a / 2 ^ n % 2 - b), []) := fun h => sub_run (by omega) (by omega)
  unfold wd at d1 d2 l1 s1
  by_cases hn64 : 64 ≤ n
  · have b0 := a0 hn64
    rw [b0, Nat.add_zero] at l1 s1 ⊢
    have h64 : (64 : Int) ≤ (n : Int) := by omega
    have h64' : ¬ (n : Int) < 64 := by omega
    have w1 : IntKind.i64.wrap ((n : Int) - 64) = ((n - 64 : Nat) : Int) := by rw [show ((n : Int) - 64) = ((n - 64 : Nat) : Int) by omega]; exact wrap_id (by omega) (by omega)
    have w2 : IntKind.u64.wrap ((n - 64 : Nat) : Int) = ((n - 64 : Nat) : Int) := wrapU (by omega)
    have w3 : ¬ ((n - 64 : Nat) : Int) < 0 := by omega
    generalize n - 64 = m at *
    by_cases c : 2 * r < b
    · rw [if_pos c, if_pos c]
      rw [decide_eq_true c] at l1
      generalize 2 * r = rr at *
      generalize 2 * q = qq at *
      unfold dvSt lRef01DivideX0
      simp [rRef01DivideX0, rRef01DivideX1, rRef01DivideX2, rRef01DivideX3, rRef01DivideX4, rRef01DivideX5, rRef01DivideX6, rRef01DivideX7, rRef01DivideX8, rRef01DivideX9, rRef01DivideX10, rRef01DivideX11, rRef01DivideX12, n0, hn64, h64, h64', w1, w2, w3, hw, d1, d2, l1, and01, IntKind.bits, blk, Int.zero_fdiv, sRef01Double, iRef01Double, sRef01Less, iRef01Less]
    · rw [if_neg c, if_neg c]
      have s := s1 c
      rw [decide_eq_false c] at l1
      generalize 2 * r - b = r2 at *
      generalize 2 * r = rr at *
      generalize 2 * q + 1 = q1 at *
      generalize 2 * q = qq at *
      unfold dvSt lRef01DivideX0
      simp [rRef01DivideX0, rRef01DivideX1, rRef01DivideX2, rRef01DivideX3, rRef01DivideX4, rRef01DivideX5, rRef01DivideX6, rRef01DivideX7, rRef01DivideX8, rRef01DivideX9, rRef01DivideX10, rRef01DivideX11, rRef01DivideX12, n0, hn64, h64, h64', w1, w2, w3, hw, d1, d2, l1, s, o2, and01, IntKind.bits, blk, Int.zero_fdiv, sRef01Double, iRef01Double, sRef01Less, iRef01Less, sRef01Sub, iRef01Sub]
  · have h64 : ¬ (64 : Int) ≤ (n : Int) := by omega
    have h64' : (n : Int) < 64 := by omega
    have w2 : IntKind.u64.wrap (n : Int) = (n : Int) := wrapU (by omega)
    have w3 : ¬ (n : Int) < 0 := by omega
    have hmin : min n 64 = n := by omega
    have e1 : ((a : Nat) : Int).fdiv (2 ^ n) = ((a / 2 ^ n : Nat) : Int) := by
      rw [Int.fdiv_eq_ediv_of_nonneg _ (Int.pow_nonneg (by decide)), Int.natCast_ediv, Int.natCast_pow]; rfl
    have e2 := and1u (x := a / 2 ^ n) (Nat.lt_of_le_of_lt (Nat.div_le_self _ _) (by omega))
    rcases bt2 with b0 | b0
    · rw [b0, Nat.add_zero] at l1 s1 ⊢
      rw [b0] at e2
      generalize a / 2 ^ n = an at *
      by_cases c : 2 * r < b
      · rw [if_pos c, if_pos c]
        rw [decide_eq_true c] at l1
        generalize 2 * r = rr at *
        generalize 2 * q = qq at *
        unfold dvSt lRef01DivideX0
        simp [rRef01DivideX0, rRef01DivideX1, rRef01DivideX2, rRef01DivideX3, rRef01DivideX4, rRef01DivideX5, rRef01DivideX6, rRef01DivideX7, rRef01DivideX8, rRef01DivideX9, rRef01DivideX10, rRef01DivideX11, rRef01DivideX12, n0, hn64, h64, h64', w2, w3, hmin, e1, e2, hw, d1, d2, l1, and01, IntKind.bits, blk, sRef01Double, iRef01Double, sRef01Less, iRef01Less]
      · rw [if_neg c, if_neg c]
        have s := s1 c
        rw [decide_eq_false c] at l1
        generalize 2 * r - b = r2 at *
        generalize 2 * r = rr at *
        generalize 2 * q + 1 = q1 at *
        generalize 2 * q = qq at *
        unfold dvSt lRef01DivideX0
        simp [rRef01DivideX0, rRef01DivideX1, rRef01DivideX2, rRef01DivideX3, rRef01DivideX4, rRef01DivideX5, rRef01DivideX6, rRef01DivideX7, rRef01DivideX8, rRef01DivideX9, rRef01DivideX10, rRef01DivideX11, rRef01DivideX12, n0, hn64, h64, h64', w2, w3, hmin, e1, e2, hw, d1, d2, l1, s, o2, and01, IntKind.bits, blk, sRef01Double, iRef01Double, sRef01Less, iRef01Less, sRef01Sub, iRef01Sub]
    · rw [b0] at l1 s1 e2 ⊢
      generalize a / 2 ^ n = an at *
      by_cases c : 2 * r + 1 < b
      · rw [if_pos c, if_pos c]
        rw [decide_eq_true c] at l1
        generalize 2 * r + 1 = r1 at *
        generalize 2 * r = rr at *
        generalize 2 * q = qq at *
        unfold dvSt lRef01DivideX0
        simp [rRef01DivideX0, rRef01DivideX1, rRef01DivideX2, rRef01DivideX3, rRef01DivideX4, rRef01DivideX5, rRef01DivideX6, rRef01DivideX7, rRef01DivideX8, rRef01DivideX9, rRef01DivideX10, rRef01DivideX11, rRef01DivideX12, n0, hn64, h64, h64', w2, w3, hmin, e1, e2, hw, d1, d2, l1, o1, and01, IntKind.bits, blk, sRef01Double, iRef01Double, sRef01Less, iRef01Less]
      · rw [if_neg c, if_neg c]
        have s := s1 c
        rw [decide_eq_false c] at l1
        generalize 2 * r + 1 - b = r2 at *
        generalize 2 * r + 1 = r1 at *
        generalize 2 * r = rr at *
        generalize 2 * q + 1 = q1 at *
        generalize 2 * q = qq at *
        unfold dvSt lRef01DivideX0
        simp [rRef01DivideX0, rRef01DivideX1, rRef01DivideX2, rRef01DivideX3, rRef01DivideX4, rRef01DivideX5, rRef01DivideX6, rRef01DivideX7, rRef01DivideX8, rRef01DivideX9, rRef01DivideX10, rRef01DivideX11, rRef01DivideX12, n0, hn64, h64, h64', w2, w3, hmin, e1, e2, hw, d1, d2, l1, s, o1, o2, and01, IntKind.bits, blk, sRef01Double, iRef01Double, sRef01Less, iRef01Less, sRef01Sub, iRef01Sub]
theorem dv_loop (a b : Nat) (ha : a < 1000000000000 / 8) (hb : b < 1000000000000 / 8) (b0 : 0 < b) : ∀ n : Nat, n ≤ 128 → codeL cfgS 0 (.loop lRef01DivideX0) (dvSt a b (a / 2 ^ n / b) (a / 2 ^ n % b) ((n : Int) - 1) []) = some (.exit 0, dvSt a b (a / b) (a % b) (-1) [(10, .bool false)])
  | 0, _ => by
    rw [Nat.pow_zero, Nat.div_one]
    refine loop_exit ?_
    generalize a / b = q at *
    generalize a % b = r at *
    unfold dvSt lRef01DivideX0
    simp [rRef01DivideX0, rRef01DivideX1, rRef01DivideX2, rRef01DivideX3, rRef01DivideX4, rRef01DivideX5, rRef01DivideX6, rRef01DivideX7, rRef01DivideX8, rRef01DivideX9, rRef01DivideX10, rRef01DivideX11, rRef01DivideX12]
  | n + 1, hn => by
    have ih := dv_loop a b ha hb b0 n (by omega)
    have hr := Nat.mod_lt (a / 2 ^ (n + 1)) b0
    have hq : a / 2 ^ (n + 1) / b < 1000000000000 / 4 := Nat.lt_of_le_of_lt (Nat.div_le_self _ _) (Nat.lt_of_le_of_lt (Nat.div_le_self _ _) (by omega))
    have rd := dv_round a b (a / 2 ^ (n + 1) / b) (a / 2 ^ (n + 1) % b) n (by omega) hb hr hq (by omega)
    have e1 : a / 2 ^ n = 2 * (a / 2 ^ (n + 1)) + a / 2 ^ n % 2 := by
      rw [Nat.pow_succ, ← Nat.div_div_eq_div_mul]; omega
    have e2 := Nat.div_add_mod (a / 2 ^ (n + 1)) b
    generalize a / 2 ^ (n + 1) / b = q at *
    generalize a / 2 ^ (n + 1) % b = r at *
    generalize a / 2 ^ (n + 1) = z at *
    have bt2 : a / 2 ^ n % 2 < 2 := Nat.mod_lt _ (by omega)
    generalize a / 2 ^ n % 2 = c at *
    generalize a / 2 ^ n = y at *
    have f1 : y = b * (if 2 * r + c < b then 2 * q else 2 * q + 1) + (if 2 * r + c < b then 2 * r + c else 2 * r + c - b) := by
      split
      · rw [Nat.mul_left_comm]; omega
      · rw [Nat.mul_add, Nat.mul_left_comm]; omega
    have f2 : (if 2 * r + c < b then 2 * r + c else 2 * r + c - b) < b := by split <;> omega
    generalize (if 2 * r + c < b then 2 * q else 2 * q + 1) = q2 at *
    generalize (if 2 * r + c < b then 2 * r + c else 2 * r + c - b) = r2 at *
    have g1 : y / b = q2 := by rw [f1, Nat.mul_add_div b0, Nat.div_eq_of_lt f2, Nat.add_zero]
    have g2 : y % b = r2 := by rw [f1, Nat.mul_add_mod, Nat.mod_eq_of_lt f2]
    rw [g1, g2] at ih
    refine (loop_next ?_).trans ih
    rw [show (((n + 1 : Nat) : Int) - 1) = (n : Int) by omega]
    exact rd
theorem divide_run {a b : Nat} (ha : a < 1000000000000 / 8) (hb : b < 1000000000000 / 8) (b0 : 0 < b) : callL cfgS nRef01Divide [wd a, wd b] [] = some (.tup [wd (a / b), wd (a % b)], []) := by
  have lp := dv_loop a b ha hb b0 128 (by omega)
  have z : a / 2 ^ 128 = 0 := Nat.div_eq_of_lt (Nat.lt_of_lt_of_le ha (by decide))
  rw [z, Nat.zero_div, Nat.zero_mod, show (((128 : Nat) : Int) - 1) = 127 from rfl] at lp
  generalize a / b = q at *
  generalize a % b = r at *
  unfold dvSt at lp
  rw [nat0] at lp
  rw [callL_end oRef01Divide sRef01Divide (Nat.le_of_ble_eq_true rfl)]
  unfold qRef01Divide cRef01Divide wd
  simp [rRef01DivideX0, rRef01DivideX1, rRef01DivideX2, rRef01DivideX3, rRef01DivideX4, rRef01DivideX5, rRef01DivideX6, rRef01DivideX7, rRef01DivideX8, rRef01DivideX9, rRef01DivideX10, rRef01DivideX11, rRef01DivideX12, lp, blk, plL, pl, endL, finB]
end
end Go.BmP
