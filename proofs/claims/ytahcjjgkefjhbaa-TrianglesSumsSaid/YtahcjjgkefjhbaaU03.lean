/- What ref01.Of returns for small numbers. -/
import Derived.Test.YtahcjjgkefjhbaaU02
set_option linter.unusedSimpArgs false
set_option linter.unusedVariables false
set_option maxRecDepth 100000
set_option maxHeartbeats 4000000
namespace Go.BmP
open Go.Am Go.Bm
def gcSt (a b : Nat) (J : Env) : St := ⟨(2, .ptr 0 0) :: (3, .ptr 1 0) :: (4, .ptr 2 0) :: J, [some [.int .u64 0, .int .u64 a], some [.int .u64 0, .int .u64 b], some [.int .u64 0, .int .u64 0]]⟩
section
attribute [local simp] codeL_seq codeL_reg codeL_blk codeL_skip codeL_ret codeL_exit codeL_cnd condL_b thenL_n thenL_e thenL_r blkL_n blkL_e blkL_r regL_s opsB stepB opB opP opnd opnds lend lendC get_nil' get_cons' put_nil' put_cons' mem_nil' mem_cons' putdB putB slowP hasOwn hasOwnL finO relab anyB anyE anyH anyR borOf borL inSlot HAND endR hasOwnE endK keepIn trim noPtr noPtrL noPtrE noPtrH binA arith unA eqB isNilB eqc lenB bndB bnd rdN rdc AV.cells fillB peek ldOK AV.leaf allLeaf fz pl plL drawB allCW cwF okDrawB okPair Fq.ok dstOff wrOff notSlot noneIn apartR oldBoxes O.reads Kd.reads E.slot slots slotO slotsP List.getD pairIn nilL okRes clean cleanL resV resVs tupOf mkEnv partsBor doCallB inpB getArgs doCallO frzA frzV frzL minA minF cont ownAt at_ setAt rel dropS relC dropAll frzP frzAll firstBor borIn borC borS borE borH handTo mapSt mapE mapH mapB mapBL sw rt fb mvB mvRt seesP inRt isRoot rootOf boxOf seesB rootsL Am.rep ovw flatCells_ints allLeaf_ints flatCells el grp updE isNilB inpV inpL stB okL unA orcA bndB plL_ints fzL stBox inCells wrap0 wrap1 wrapm1 take_snoc BIGB marks boxZ ldLab cellOf cellN CELLM boxIn isCell apartC frzR frzRL frzS frzC frzCL
theorem gc_loop : ∀ (b a : Nat), a < 1000000000000 / 8 → b < 1000000000000 / 8 → codeL cfgS 0 (.loop lRef01GcdX0) (gcSt a b []) = some (.exit 0, gcSt (Nat.gcd a b) 0 [(9, .bool false)]) := fun b => by
  induction b using Nat.strongRecOn with
  | ind b ih =>
    intro a ha hb
    by_cases h : b = 0
    · subst h
      rw [Nat.gcd_zero_right]
      refine loop_exit ?_
      unfold gcSt lRef01GcdX0
      simp [rRef01GcdX0, rRef01GcdX1, rRef01GcdX2, rRef01GcdX3, rRef01GcdX4, eqA, eqc, blk]
    · have lt := Nat.mod_lt a (show b > 0 by omega)
      have e : Nat.gcd a b = Nat.gcd b (a % b) := by rw [Nat.gcd_comm b, ← Nat.gcd_rec b a, Nat.gcd_comm]
      rw [e]
      refine (loop_next ?_).trans (ih (a % b) lt b hb (by omega))
      have h1 : ¬ (b : Int) = 0 := by omega
      have d := divide_run ha hb (show 0 < b by omega)
      generalize a % b = r at *
      generalize a / b = q at *
      unfold wd at d
      unfold gcSt lRef01GcdX0
      simp [rRef01GcdX0, rRef01GcdX1, rRef01GcdX2, rRef01GcdX3, rRef01GcdX4, h, h1, d, eqA, eqc, blk, sRef01Divide, iRef01Divide]
theorem gcd_run {a b : Nat} (ha : a < 1000000000000 / 8) (hb : b < 1000000000000 / 8) : callL cfgS nRef01Gcd [wd a, wd b] [] = some (wd (Nat.gcd a b), []) := by
  have lp := gc_loop b a ha hb
  generalize Nat.gcd a b = g at *
  unfold gcSt at lp
  rw [nat0] at lp
  rw [callL_end oRef01Gcd sRef01Gcd (Nat.le_of_ble_eq_true rfl)]
  unfold qRef01Gcd cRef01Gcd wd
  simp [rRef01GcdX0, rRef01GcdX1, rRef01GcdX2, rRef01GcdX3, rRef01GcdX4, lp, blk, plL, pl, endL, finB]
end
def fr (a b : Nat) : AV := .agg [.int .i64 (a / Nat.gcd a b : Nat), .int .i64 (b / Nat.gcd a b : Nat)]
section
attribute [local simp] codeL_seq codeL_reg codeL_blk codeL_skip codeL_ret codeL_exit codeL_cnd condL_b thenL_n thenL_e thenL_r blkL_n blkL_e blkL_r regL_s opsB stepB opB opP opnd opnds lend lendC get_nil' get_cons' put_nil' put_cons' mem_nil' mem_cons' putdB putB slowP hasOwn hasOwnL finO relab anyB anyE anyH anyR borOf borL inSlot HAND endR hasOwnE endK keepIn trim noPtr noPtrL noPtrE noPtrH binA arith unA eqB isNilB eqc lenB bndB bnd rdN rdc AV.cells fillB peek ldOK AV.leaf allLeaf fz pl plL drawB allCW cwF okDrawB okPair Fq.ok dstOff wrOff notSlot noneIn apartR oldBoxes O.reads Kd.reads E.slot slots slotO slotsP List.getD pairIn nilL okRes clean cleanL resV resVs tupOf mkEnv partsBor doCallB inpB getArgs doCallO frzA frzV frzL minA minF cont ownAt at_ setAt rel dropS relC dropAll frzP frzAll firstBor borIn borC borS borE borH handTo mapSt mapE mapH mapB mapBL sw rt fb mvB mvRt seesP inRt isRoot rootOf boxOf seesB rootsL Am.rep ovw flatCells_ints allLeaf_ints flatCells el grp updE isNilB inpV inpL stB okL unA orcA bndB plL_ints fzL stBox inCells wrap0 wrap1 wrapm1 take_snoc BIGB marks boxZ ldLab cellOf cellN CELLM boxIn isCell apartC frzR frzRL frzS frzC frzCL
theorem reduce_run {a b : Nat} (ha : a < 1000000000000 / 8) (hb : b < 1000000000000 / 8) (b0 : 0 < b) : callL cfgS nRef01Reduce [.bool false, wd a, wd b] [] = some (.tup [fr a b, .int .i64 0], []) := by
  by_cases h : a = 0
  · subst h
    unfold fr
    rw [Nat.gcd_zero_left, Nat.zero_div, Nat.div_self b0]
    rw [callL_end oRef01Reduce sRef01Reduce (Nat.le_of_ble_eq_true rfl)]
    unfold qRef01Reduce cRef01Reduce wd
    simp [rRef01ReduceX0, rRef01ReduceX1, rRef01ReduceX2, rRef01ReduceX3, rRef01ReduceX4, rRef01ReduceX5, rRef01ReduceX6, rRef01ReduceX7, rRef01ReduceX8, rRef01ReduceX9, rRef01ReduceX10, rRef01ReduceX11, eqA, eqc, blk, plL, pl, endL, finB]
  · have g := gcd_run ha hb
    have g0 : 0 < Nat.gcd a b := Nat.gcd_pos_of_pos_right _ b0
    have gl : Nat.gcd a b < 1000000000000 / 8 := Nat.lt_of_le_of_lt (Nat.gcd_le_right _ b0) hb
    have d1 := divide_run ha gl g0
    have d2 := divide_run hb gl g0
    have l1 : a / Nat.gcd a b < 1000000000000 / 8 := Nat.lt_of_le_of_lt (Nat.div_le_self _ _) ha
    have l2 : b / Nat.gcd a b < 1000000000000 / 8 := Nat.lt_of_le_of_lt (Nat.div_le_self _ _) hb
    unfold fr
    generalize a / Nat.gcd a b = x at *
    generalize b / Nat.gcd a b = y at *
    generalize a % Nat.gcd a b = x' at *
    generalize b % Nat.gcd a b = y' at *
    generalize Nat.gcd a b = G at *
    have n1 : ¬ (1152921504606846976 : Int) < x := by omega
    have n2 : ¬ (1152921504606846976 : Int) < y := by omega
    have w1 : IntKind.i64.wrap (x : Int) = (x : Int) := wrap_id (by omega) (by omega)
    have w2 : IntKind.i64.wrap (y : Int) = (y : Int) := wrap_id (by omega) (by omega)
    have h1 : ¬ (a : Int) = 0 := by omega
    unfold wd at g d1 d2
    rw [callL_end oRef01Reduce sRef01Reduce (Nat.le_of_ble_eq_true rfl)]
    unfold qRef01Reduce cRef01Reduce wd
    simp [rRef01ReduceX0, rRef01ReduceX1, rRef01ReduceX2, rRef01ReduceX3, rRef01ReduceX4, rRef01ReduceX5, rRef01ReduceX6, rRef01ReduceX7, rRef01ReduceX8, rRef01ReduceX9, rRef01ReduceX10, rRef01ReduceX11, eqA, eqc, h, h1, g, d1, d2, n1, n2, w1, w2, blk, sRef01Gcd, iRef01Gcd, sRef01Divide, iRef01Divide, plL, pl, endL, finB]
theorem size_run {a : Nat} (ha : a < 1000000000000) : callL cfgS nRef01Size [.int .i64 a] [] = some (.int .u64 a, []) := by
  have w1 : IntKind.u64.wrap (a : Int) = (a : Int) := wrapU (by omega)
  have n : ¬ (a : Int) < 0 := by omega
  rw [callL_end oRef01Size sRef01Size (Nat.le_of_ble_eq_true rfl)]
  unfold qRef01Size cRef01Size
  simp [rRef01SizeX0, rRef01SizeX1, rRef01SizeX2, rRef01SizeX3, w1, n, blk, plL, pl, endL, finB]
theorem rmake_run {a b : Nat} (ha : a < 1000000000000 / 8) (hb : b < 1000000000000 / 8) (b0 : 0 < b) : callL cfgS nRef01Make [.int .i64 a, .int .i64 b] [] = some (.tup [fr a b, .int .i64 0], []) := by
  have s1 := size_run (a := a) (by omega)
  have s2 := size_run (a := b) (by omega)
  have r := reduce_run ha hb b0
  have n1 : ¬ (a : Int) < 0 := by omega
  have n2 : ¬ (b : Int) < 0 := by omega
  have n3 : ¬ (b : Int) = 0 := by omega
  have n4 : ¬ b = 0 := by omega
  unfold fr wd at r
  unfold fr
  generalize a / Nat.gcd a b = x at *
  generalize b / Nat.gcd a b = y at *
  rw [callL_end oRef01Make sRef01Make (Nat.le_of_ble_eq_true rfl)]
  unfold qRef01Make cRef01Make
  simp [rRef01MakeX0, rRef01MakeX1, rRef01MakeX2, rRef01MakeX3, s1, s2, r, n1, n2, n3, n4, eqA, blk, sRef01Size, iRef01Size, sRef01Reduce, iRef01Reduce, plL, pl, endL, finB]
theorem frof_run {a b : Nat} (ha : a < 1000000000000 / 8) (hb : b < 1000000000000 / 8) (b0 : 0 < b) : callL cfgS nRef01Of [.int .i64 a, .int .i64 b] [] = some (fr a b, []) := by
  have r := rmake_run ha hb b0
  unfold fr at r ⊢
  generalize a / Nat.gcd a b = x at *
  generalize b / Nat.gcd a b = y at *
  rw [callL_end oRef01Of sRef01Of (Nat.le_of_ble_eq_true rfl)]
  unfold qRef01Of cRef01Of
  simp [rRef01OfX0, rRef01OfX1, rRef01OfX2, r, blk, sRef01Make, iRef01Make, plL, pl, endL, finB]
end
theorem fr_mul {a b c : Nat} (c0 : 0 < c) : fr (c * a) (c * b) = fr a b := by
  unfold fr
  rw [Nat.gcd_mul_left, Nat.mul_div_mul_left _ _ c0, Nat.mul_div_mul_left _ _ c0]
theorem fr_zero {b : Nat} (b0 : 0 < b) : fr 0 b = .agg [.int .i64 0, .int .i64 1] := by
  unfold fr
  rw [Nat.gcd_zero_left, Nat.zero_div, Nat.div_self b0]; rfl
end Go.BmP
