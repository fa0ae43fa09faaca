/- What ratio.Make returns for small numbers that are not negative. -/
import Derived.Test.YtahcjjgkefjhbaaT05
set_option linter.unusedSimpArgs false
set_option linter.unusedVariables false
set_option maxRecDepth 100000
set_option maxHeartbeats 4000000
namespace Go.BmP
open Go.Am Go.Bm
theorem tmodN (a b : Nat) : (a : Int).tmod b = ((a % b : Nat) : Int) := (Int.ofNat_tmod a b).symm
theorem tdivN {a : Nat} (b : Nat) (ha : a < 1000000000000) : IntKind.i64.wrap ((a : Int).tdiv b) = ((a / b : Nat) : Int) := by
  have h : ((a / b : Nat) : Int) = (a : Int).tdiv b := Int.ofNat_tdiv a b
  have := Nat.div_le_self a b
  rw [← h]
  generalize a / b = x at *
  exact wrap_id (by omega) (by omega)
def cmSt (a b : Nat) (J : Env) : St := ⟨(0, .int .i64 a) :: (1, .int .i64 b) :: J, []⟩
section
attribute [local simp] codeL_seq codeL_reg codeL_blk codeL_skip codeL_ret codeL_exit codeL_cnd condL_b thenL_n thenL_e thenL_r blkL_n blkL_e blkL_r regL_s opsB stepB opB opP opnd opnds lend lendC get_nil' get_cons' put_nil' put_cons' mem_nil' mem_cons' putdB putB slowP hasOwn hasOwnL finO relab anyB anyE anyH anyR borOf borL inSlot HAND endR hasOwnE endK keepIn trim noPtr noPtrL noPtrE noPtrH binA arith unA eqB isNilB eqc lenB bndB bnd rdN rdc AV.cells fillB peek ldOK AV.leaf allLeaf fz pl plL drawB allCW cwF okDrawB okPair Fq.ok dstOff wrOff notSlot noneIn apartR oldBoxes O.reads Kd.reads E.slot slots slotO slotsP List.getD pairIn nilL okRes clean cleanL resV resVs tupOf mkEnv partsBor doCallB inpB getArgs doCallO frzA frzV frzL minA minF cont ownAt at_ setAt rel dropS relC dropAll frzP frzAll firstBor borIn borC borS borE borH handTo mapSt mapE mapH mapB mapBL sw rt fb mvB mvRt seesP inRt isRoot rootOf boxOf seesB rootsL Am.rep ovw flatCells_ints allLeaf_ints flatCells el grp updE isNilB inpV inpL stB okL unA orcA bndB plL_ints fzL stBox inCells wrap0 wrap1 wrapm1 take_snoc BIGB marks boxZ ldLab cellOf cellN CELLM boxIn isCell apartC frzR frzRL frzS frzC frzCL
theorem cm_loop : ∀ (b a : Nat), a < 1000000000000 → b < 1000000000000 → codeL cfgS 0 (.loop lRatioCommonX0) (cmSt a b []) = some (.exit 0, cmSt (Nat.gcd a b) 0 [(6, .bool false)]) := fun b => by
  induction b using Nat.strongRecOn with
  | ind b ih =>
    intro a ha hb
    by_cases h : b = 0
    · subst h
      rw [Nat.gcd_zero_right]
      refine loop_exit ?_
      unfold cmSt lRatioCommonX0
      simp [rRatioCommonX0, rRatioCommonX1, rRatioCommonX2, rRatioCommonX3]
    · have lt := Nat.mod_lt a (show b > 0 by omega)
      have e : Nat.gcd a b = Nat.gcd b (a % b) := by rw [Nat.gcd_comm b, ← Nat.gcd_rec b a, Nat.gcd_comm]
      rw [e]
      refine (loop_next ?_).trans (ih (a % b) lt b hb (by omega))
      have h1 : ¬ (b : Int) = 0 := by omega
      have q := tmodN a b
      generalize a % b = r at *
      unfold cmSt lRatioCommonX0
      simp [rRatioCommonX0, rRatioCommonX1, rRatioCommonX2, rRatioCommonX3, h, h1, q]
theorem common_run {a b : Nat} (ha : a < 1000000000000) (hb : b < 1000000000000) : callL cfgS nRatioCommon [.int .i64 a, .int .i64 b] [] = some (.int .i64 (Nat.gcd a b : Nat), []) := by
  have lp := cm_loop b a ha hb
  rw [callL_end oRatioCommon sRatioCommon (Nat.le_of_ble_eq_true rfl)]
  generalize Nat.gcd a b = g at *
  unfold cmSt at lp
  unfold qRatioCommon cRatioCommon
  simp [rRatioCommonX0, rRatioCommonX1, rRatioCommonX2, rRatioCommonX3, lp, blk, endL, finB]
theorem ratw_run {a m : Nat} (hm : m < 9223372036854775807) (h : a ≤ m) : callL cfgS nRatioWithin [.int .i64 a, .int .i64 m] [] = some (.bool true, []) := by
  have q : IntKind.i64.wrap (-(m : Int)) = -(m : Int) := wrap_id (by omega) (by omega)
  have h1 : -(m : Int) ≤ (a : Int) := by omega
  have h2 : (a : Int) ≤ m := by omega
  rw [callL_end oRatioWithin sRatioWithin (Nat.le_of_ble_eq_true rfl)]
  unfold qRatioWithin cRatioWithin
  simp [rRatioWithinX0, rRatioWithinX1, q, h1, h2, blk, endL, finB]
theorem ratc_run {a b : Nat} (ha : a < 1000000000000) (hb : b < 1000000000000) : callL cfgS nRatioChecked [.agg [.int .i64 a, .int .i64 b]] [] = some (.tup [.agg [.int .i64 a, .int .i64 b], .int .i64 0], []) := by
  have w := ratw_run (a := a) (m := 1152921504606846976) (by omega) (by omega)
  rw [show ((1152921504606846976 : Nat) : Int) = 1152921504606846976 from rfl] at w
  have h1 : ¬ (1152921504606846976 : Int) < b := by omega
  rw [callL_end oRatioChecked sRatioChecked (Nat.le_of_ble_eq_true rfl)]
  unfold qRatioChecked cRatioChecked
  simp [rRatioCheckedX0, rRatioCheckedX1, rRatioCheckedX2, rRatioCheckedX3, w, h1, blk, sRatioWithin, iRatioWithin, plL, pl, endL, finB]
theorem ratl_run {a b : Nat} (ha : a < 1000000000000) (hb : b < 1000000000000) (b0 : 0 < b) : callL cfgS nRatioLowest [.int .i64 a, .int .i64 b] [] = some (.tup [.agg [.int .i64 (a / Nat.gcd a b : Nat), .int .i64 (b / Nat.gcd a b : Nat)], .int .i64 0], []) := by
  have c := common_run ha hb
  have g0 : 0 < Nat.gcd a b := Nat.gcd_pos_of_pos_right _ b0
  have k := ratc_run (a := a / Nat.gcd a b) (b := b / Nat.gcd a b) (Nat.lt_of_le_of_lt (Nat.div_le_self _ _) ha) (Nat.lt_of_le_of_lt (Nat.div_le_self _ _) hb)
  have d1 := tdivN (Nat.gcd a b) ha
  have d2 := tdivN (Nat.gcd a b) hb
  rw [Int.tdiv_eq_ediv_of_nonneg (by omega)] at d1 d2
  have n0 : ¬ (b : Int) < 0 := by omega
  have q : IntKind.i64.wrap (-(a : Int)) = -(a : Int) := wrap_id (by omega) (by omega)
  have mx : ¬ (a : Int) < -(a : Int) := by omega
  have g1 : ¬ Nat.gcd a b = 0 := by omega
  generalize a / Nat.gcd a b = x at *
  generalize b / Nat.gcd a b = y at *
  generalize Nat.gcd a b = g at *
  rw [callL_end oRatioLowest sRatioLowest (Nat.le_of_ble_eq_true rfl)]
  unfold qRatioLowest cRatioLowest
  simp [rRatioLowestX0, rRatioLowestX1, rRatioLowestX2, rRatioLowestX3, rRatioLowestX4, c, k, d1, d2, n0, q, mx, g1, blk, sRatioCommon, iRatioCommon, sRatioChecked, iRatioChecked, plL, pl, endL, finB]
theorem ratm_run {a b : Nat} (ha : a < 1000000000000) (hb : b < 1000000000000) (b0 : 0 < b) : callL cfgS nRatioMake [.int .i64 a, .int .i64 b] [] = some (.tup [.agg [.int .i64 (a / Nat.gcd a b : Nat), .int .i64 (b / Nat.gcd a b : Nat)], .int .i64 0], []) := by
  have c := ratl_run ha hb b0
  have w1 := ratw_run (a := a) (m := 4611686018427387904) (by omega) (by omega)
  have w2 := ratw_run (a := b) (m := 4611686018427387904) (by omega) (by omega)
  rw [show ((4611686018427387904 : Nat) : Int) = 4611686018427387904 from rfl] at w1 w2
  have n0 : ¬ (b : Int) = 0 := by omega
  have n1 : ¬ b = 0 := by omega
  generalize a / Nat.gcd a b = x at *
  generalize b / Nat.gcd a b = y at *
  rw [callL_end oRatioMake sRatioMake (Nat.le_of_ble_eq_true rfl)]
  unfold qRatioMake cRatioMake
  simp [rRatioMakeX0, rRatioMakeX1, rRatioMakeX2, rRatioMakeX3, rRatioMakeX4, rRatioMakeX5, c, w1, w2, n0, n1, blk, sRatioLowest, iRatioLowest, sRatioWithin, iRatioWithin, plL, pl, endL, finB]
theorem tshare_run {a b : Nat} (ha : a < 1000000000000) (hb : b < 1000000000000) : callL cfgS nTrianglesShare [.int .i64 a, .int .i64 b] [] = some (.tup [.agg [.int .i64 (a / Nat.gcd a (max b 1) : Nat), .int .i64 (max b 1 / Nat.gcd a (max b 1) : Nat)], .int .i64 0], []) := by
  have c := ratm_run ha (b := max b 1) (by omega) (by omega)
  have mx : (if (b : Int) < 1 then 1 else (b : Int)) = ((max b 1 : Nat) : Int) := by split <;> omega
  generalize max b 1 = m at *
  generalize a / Nat.gcd a m = x at *
  generalize m / Nat.gcd a m = y at *
  rw [callL_end oTrianglesShare sTrianglesShare (Nat.le_of_ble_eq_true rfl)]
  unfold qTrianglesShare cTrianglesShare
  simp [rTrianglesShareX0, rTrianglesShareX1, c, mx, blk, sRatioMake, iRatioMake, plL, pl, endL, finB]
end
end Go.BmP
