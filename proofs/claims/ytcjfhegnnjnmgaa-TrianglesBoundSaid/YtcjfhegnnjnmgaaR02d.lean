/- What comparisons return; nodeset.Valid, Has, Cmp, Range. -/
import Derived.Test.YtcjfhegnnjnmgaaR02c
set_option linter.unusedSimpArgs false
set_option linter.unusedVariables false
set_option maxRecDepth 100000
namespace Go.BmP
open Go.Am Go.Bm
def cmpGo : List Int → List Int → Option Int
  | [], _ => none
  | _ :: _, [] => some 1
  | x :: r, y :: s => if y < x then some 1 else if x < y then some (-1) else cmpGo r s
section
attribute [local simp] codeL_seq codeL_reg codeL_blk codeL_skip codeL_ret codeL_exit codeL_cnd condL_b thenL_n thenL_e thenL_r blkL_n blkL_e blkL_r regL_s opsB stepB opB opP opnd opnds lend lendC get_nil' get_cons' put_nil' put_cons' mem_nil' mem_cons' putdB putB slowP hasOwn hasOwnL finO relab anyB anyE anyH anyR borOf borL inSlot HAND endR hasOwnE endK keepIn trim noPtr noPtrL noPtrE noPtrH binA arith unA eqB isNilB eqc lenB bndB bnd rdN rdc AV.cells fillB peek ldOK AV.leaf allLeaf fz pl plL drawB allCW cwF okDrawB okPair Fq.ok dstOff wrOff notSlot noneIn apartR oldBoxes O.reads Kd.reads E.slot slots slotO slotsP List.getD pairIn nilL okRes clean cleanL resV resVs tupOf mkEnv partsBor doCallB inpB getArgs doCallO frzA frzV frzL minA minF cont ownAt at_ setAt rel dropS relC dropAll frzP frzAll firstBor borIn borC borS borE borH handTo mapSt mapE mapH mapB mapBL sw rt fb mvB mvRt seesP inRt isRoot rootOf boxOf seesB rootsL Am.rep ovw flatCells_ints allLeaf_ints flatCells el grp updE isNilB inpV inpL stB okL unA orcA bndB plL_ints fzL stBox inCells wrap0 wrap1 wrapm1 take_snoc BIGB marks boxZ ldLab cellOf cellN CELLM boxIn isCell apartC frzR frzRL frzS frzC frzCL locB locV offBox
theorem nan_run (x : Int) : callL cfgS nCmpIsNaNInt [.int .i64 x] [] = some (.bool false, []) := by
  rw [callL_end oCmpIsNaNInt sCmpIsNaNInt (Nat.le_of_ble_eq_true rfl)]
  unfold qCmpIsNaNInt cCmpIsNaNInt
  simp [rCmpIsNaNIntX0, rCmpIsNaNIntX1, endL, finB]
end
def cmpI (x y : Int) : Int := if x < y then -1 else if y < x then 1 else 0
section
attribute [local simp] codeL_seq codeL_reg codeL_blk codeL_skip codeL_ret codeL_exit codeL_cnd condL_b thenL_n thenL_e thenL_r blkL_n blkL_e blkL_r regL_s opsB stepB opB opP opnd opnds lend lendC get_nil' get_cons' put_nil' put_cons' mem_nil' mem_cons' putdB putB slowP hasOwn hasOwnL finO relab anyB anyE anyH anyR borOf borL inSlot HAND endR hasOwnE endK keepIn trim noPtr noPtrL noPtrE noPtrH binA arith unA eqB isNilB eqc lenB bndB bnd rdN rdc AV.cells fillB peek ldOK AV.leaf allLeaf fz pl plL drawB allCW cwF okDrawB okPair Fq.ok dstOff wrOff notSlot noneIn apartR oldBoxes O.reads Kd.reads E.slot slots slotO slotsP List.getD pairIn nilL okRes clean cleanL resV resVs tupOf mkEnv partsBor doCallB inpB getArgs doCallO frzA frzV frzL minA minF cont ownAt at_ setAt rel dropS relC dropAll frzP frzAll firstBor borIn borC borS borE borH handTo mapSt mapE mapH mapB mapBL sw rt fb mvB mvRt seesP inRt isRoot rootOf boxOf seesB rootsL Am.rep ovw flatCells_ints allLeaf_ints flatCells el grp updE isNilB inpV inpL stB okL unA orcA bndB plL_ints fzL stBox inCells wrap0 wrap1 wrapm1 take_snoc BIGB marks boxZ ldLab cellOf cellN CELLM boxIn isCell apartC frzR frzRL frzS frzC frzCL locB locV offBox
theorem cmpI_run (x y : Int) : callL cfgS nCmpCompareInt [.int .i64 x, .int .i64 y] [] = some (.int .i64 (cmpI x y), []) := by
  rw [callL_end oCmpCompareInt sCmpCompareInt (Nat.le_of_ble_eq_true rfl)]
  have hx := nan_run x
  have hy := nan_run y
  unfold qCmpCompareInt cCmpCompareInt cmpI
  by_cases h1 : x < y
  · simp [rCmpCompareIntX0, rCmpCompareIntX1, rCmpCompareIntX2, rCmpCompareIntX3, rCmpCompareIntX4, rCmpCompareIntX5, rCmpCompareIntX6, rCmpCompareIntX7, rCmpCompareIntX8, rCmpCompareIntX9, rCmpCompareIntX10, rCmpCompareIntX11, rCmpCompareIntX12, rCmpCompareIntX13, hx, hy, h1, sCmpIsNaNInt, iCmpIsNaNInt, lCmpIsNaNInt, eCmpIsNaNInt, endL, finB]
  · by_cases h2 : y < x
    · simp [rCmpCompareIntX0, rCmpCompareIntX1, rCmpCompareIntX2, rCmpCompareIntX3, rCmpCompareIntX4, rCmpCompareIntX5, rCmpCompareIntX6, rCmpCompareIntX7, rCmpCompareIntX8, rCmpCompareIntX9, rCmpCompareIntX10, rCmpCompareIntX11, rCmpCompareIntX12, rCmpCompareIntX13, hx, hy, h1, h2, sCmpIsNaNInt, iCmpIsNaNInt, lCmpIsNaNInt, eCmpIsNaNInt, endL, finB]
    · simp [rCmpCompareIntX0, rCmpCompareIntX1, rCmpCompareIntX2, rCmpCompareIntX3, rCmpCompareIntX4, rCmpCompareIntX5, rCmpCompareIntX6, rCmpCompareIntX7, rCmpCompareIntX8, rCmpCompareIntX9, rCmpCompareIntX10, rCmpCompareIntX11, rCmpCompareIntX12, rCmpCompareIntX13, hx, hy, h1, h2, sCmpIsNaNInt, iCmpIsNaNInt, lCmpIsNaNInt, eCmpIsNaNInt, endL, finB]
end
end Go.BmP
