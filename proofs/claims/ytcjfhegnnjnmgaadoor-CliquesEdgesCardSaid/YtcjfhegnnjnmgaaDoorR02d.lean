/- What comparisons return; nodeset.Valid, Has, Cmp, Range. -/
import Derived.Test.YtcjfhegnnjnmgaaDoorR02c
set_option linter.unusedSimpArgs false
set_option linter.unusedVariables false
set_option maxRecDepth 100000
namespace Go.BmP
open Go.Am Go.Bm
def cmpGo : List Int → List Int → Option Int
  | [], _ => none
  | _ :: _, [] => some 1
  | x :: r, y :: s => if y < x then some 1 else if x < y then some (-1) else cmpGo r s
theorem cmpL_go : ∀ a b : List Int, cmpL a b = (cmpGo a b).getD (if a.length < b.length then -1 else 0)
  | [], [] => rfl
  | [], _ :: _ => by simp [cmpL, cmpGo]
  | _ :: _, [] => rfl
  | x :: r, y :: s => by
    have ih := cmpL_go r s
    unfold cmpL cmpGo
    split
    · rfl
    · split
      · rfl
      · rw [ih]; simp
section
attribute [local simp] codeL_seq codeL_reg codeL_blk codeL_skip codeL_ret codeL_exit codeL_cnd condL_b thenL_n thenL_e thenL_r blkL_n blkL_e blkL_r regL_s opsB stepB opB opP opnd opnds lend lendC get_nil' get_cons' put_nil' put_cons' mem_nil' mem_cons' putdB putB slowP hasOwn hasOwnL finO relab anyB anyE anyH anyR borOf borL inSlot HAND endR hasOwnE endK keepIn trim noPtr noPtrL noPtrE noPtrH binA arith unA eqB isNilB eqc lenB bndB bnd rdN rdc AV.cells fillB peek ldOK AV.leaf allLeaf fz pl plL drawB allCW cwF okDrawB okPair Fq.ok dstOff wrOff notSlot noneIn apartR oldBoxes O.reads Kd.reads E.slot slots slotO slotsP List.getD pairIn nilL okRes clean cleanL resV resVs tupOf mkEnv partsBor doCallB inpB getArgs doCallO frzA frzV frzL minA minF cont ownAt at_ setAt rel dropS relC dropAll frzP frzAll firstBor borIn borC borS borE borH handTo mapSt mapE mapH mapB mapBL sw rt fb mvB mvRt seesP inRt isRoot rootOf boxOf seesB rootsL Am.rep ovw flatCells_ints allLeaf_ints flatCells el grp updE isNilB inpV inpL stB okL unA orcA bndB plL_ints fzL stBox inCells wrap0 wrap1 wrapm1 take_snoc BIGB marks boxZ ldLab cellOf cellN CELLM boxIn isCell apartC frzR frzRL frzS frzC frzCL
theorem cmp_loop (a b : List Int) (hl : a.length < 4294967295) (hb : b.length < 4294967295) : ∀ (n i : Nat), i + n = a.length → codeL cfgS 0 (.loop lRef02CmpX0) ⟨[(0, .list 1 (ints a)), (1, .list 1 (ints b)), (7, .int .i64 a.length), (8, .int .i64 i)], []⟩ =
    match cmpGo (a.drop i) (b.drop i) with
    | some v => some (.ret, ⟨[(4, .int .i64 v)], []⟩)
    | none => some (.exit 0, ⟨[(0, .list 1 (ints a)), (1, .list 1 (ints b)), (7, .int .i64 a.length), (8, .int .i64 a.length), (9, .bool false)], []⟩)
  | 0, i, hi => by
    have e : i = a.length := by omega
    subst e
    rw [List.drop_length]
    unfold cmpGo
    exact loop_exit (by unfold lRef02CmpX0; simp [rRef02CmpX0, rRef02CmpX1, rRef02CmpX2, rRef02CmpX3, rRef02CmpX4, rRef02CmpX5, rRef02CmpX6, rRef02CmpX7, rRef02CmpX8, rRef02CmpX9, rRef02CmpX10, rRef02CmpX11])
  | n + 1, i, hi => by
    have hlt : i < a.length := by omega
    have h1 : (i : Int) < a.length := by omega
    have hw := wrapS (i := i) (by omega)
    have ih := cmp_loop a b hl hb n (i + 1) (by omega)
    rw [List.drop_eq_getElem_cons hlt]
    by_cases hk : i < b.length
    · have h2 : (i : Int) < b.length := by omega
      have h2' : ¬ (b.length : Int) ≤ i := by omega
      rw [List.drop_eq_getElem_cons hk]
      unfold cmpGo
      by_cases hg : b[i] < a[i]
      · rw [if_pos hg]
        exact loop_ret (by unfold lRef02CmpX0; simp [rRef02CmpX0, rRef02CmpX1, rRef02CmpX2, rRef02CmpX3, rRef02CmpX4, rRef02CmpX5, rRef02CmpX6, rRef02CmpX7, rRef02CmpX8, rRef02CmpX9, rRef02CmpX10, rRef02CmpX11, h1, hlt, h2, h2', hk, hg, ints_length, ints_get, intsAt, idx])
      · rw [if_neg hg]
        by_cases hs : a[i] < b[i]
        · rw [if_pos hs]
          exact loop_ret (by unfold lRef02CmpX0; simp [rRef02CmpX0, rRef02CmpX1, rRef02CmpX2, rRef02CmpX3, rRef02CmpX4, rRef02CmpX5, rRef02CmpX6, rRef02CmpX7, rRef02CmpX8, rRef02CmpX9, rRef02CmpX10, rRef02CmpX11, h1, hlt, h2, h2', hk, hg, hs, ints_length, ints_get, intsAt, idx])
        · rw [if_neg hs]
          exact (loop_next (by unfold lRef02CmpX0; simp [rRef02CmpX0, rRef02CmpX1, rRef02CmpX2, rRef02CmpX3, rRef02CmpX4, rRef02CmpX5, rRef02CmpX6, rRef02CmpX7, rRef02CmpX8, rRef02CmpX9, rRef02CmpX10, rRef02CmpX11, h1, hlt, h2, h2', hk, hg, hs, hw, ints_length, ints_get, intsAt, idx])).trans ih
    · have h2' : (b.length : Int) ≤ i := by omega
      have e0 : b.drop i = [] := List.drop_eq_nil_of_le (by omega)
      rw [e0]
      unfold cmpGo
      exact loop_ret (by unfold lRef02CmpX0; simp [rRef02CmpX0, rRef02CmpX1, rRef02CmpX2, rRef02CmpX3, rRef02CmpX4, rRef02CmpX5, rRef02CmpX6, rRef02CmpX7, rRef02CmpX8, rRef02CmpX9, rRef02CmpX10, rRef02CmpX11, h1, hlt, h2', hk, ints_length, ints_get, intsAt, idx])
theorem cmp_run (a b : List Int) (hl : a.length < 4294967295) (hb : b.length < 4294967295) : callL cfgS nRef02Cmp [.list 1 (ints a), .list 1 (ints b)] [] = some (.int .i64 (cmpL a b), []) := by
  rw [callL_end oRef02Cmp sRef02Cmp (Nat.le_of_ble_eq_true rfl), cmpL_go]
  have h := cmp_loop a b hl hb a.length 0 (by omega)
  rw [nat0, List.drop_zero, List.drop_zero] at h
  unfold qRef02Cmp cRef02Cmp
  cases hx : cmpGo a b with
  | some v =>
    rw [hx] at h
    simp only at h
    rw [Option.getD_some]
    simp [rRef02CmpX0, rRef02CmpX1, rRef02CmpX2, rRef02CmpX3, rRef02CmpX4, rRef02CmpX5, rRef02CmpX6, rRef02CmpX7, rRef02CmpX8, rRef02CmpX9, rRef02CmpX10, rRef02CmpX11, h, ints_length, endL, finB]
  | none =>
    rw [hx] at h
    simp only at h
    rw [Option.getD_none]
    by_cases hlt : a.length < b.length
    · have h1 : (a.length : Int) < b.length := by omega
      simp [rRef02CmpX0, rRef02CmpX1, rRef02CmpX2, rRef02CmpX3, rRef02CmpX4, rRef02CmpX5, rRef02CmpX6, rRef02CmpX7, rRef02CmpX8, rRef02CmpX9, rRef02CmpX10, rRef02CmpX11, h, hlt, h1, ints_length, endL, finB]
    · have h1 : ¬ (a.length : Int) < b.length := by omega
      simp [rRef02CmpX0, rRef02CmpX1, rRef02CmpX2, rRef02CmpX3, rRef02CmpX4, rRef02CmpX5, rRef02CmpX6, rRef02CmpX7, rRef02CmpX8, rRef02CmpX9, rRef02CmpX10, rRef02CmpX11, h, hlt, h1, ints_length, endL, finB]
theorem nan_run (x : Int) : callL cfgS nCmpIsNaNInt [.int .i64 x] [] = some (.bool false, []) := by
  rw [callL_end oCmpIsNaNInt sCmpIsNaNInt (Nat.le_of_ble_eq_true rfl)]
  unfold qCmpIsNaNInt cCmpIsNaNInt
  simp [rCmpIsNaNIntX0, rCmpIsNaNIntX1, endL, finB]
end
def cmpI (x y : Int) : Int := if x < y then -1 else if y < x then 1 else 0
section
attribute [local simp] codeL_seq codeL_reg codeL_blk codeL_skip codeL_ret codeL_exit codeL_cnd condL_b thenL_n thenL_e thenL_r blkL_n blkL_e blkL_r regL_s opsB stepB opB opP opnd opnds lend lendC get_nil' get_cons' put_nil' put_cons' mem_nil' mem_cons' putdB putB slowP hasOwn hasOwnL finO relab anyB anyE anyH anyR borOf borL inSlot HAND endR hasOwnE endK keepIn trim noPtr noPtrL noPtrE noPtrH binA arith unA eqB isNilB eqc lenB bndB bnd rdN rdc AV.cells fillB peek ldOK AV.leaf allLeaf fz pl plL drawB allCW cwF okDrawB okPair Fq.ok dstOff wrOff notSlot noneIn apartR oldBoxes O.reads Kd.reads E.slot slots slotO slotsP List.getD pairIn nilL okRes clean cleanL resV resVs tupOf mkEnv partsBor doCallB inpB getArgs doCallO frzA frzV frzL minA minF cont ownAt at_ setAt rel dropS relC dropAll frzP frzAll firstBor borIn borC borS borE borH handTo mapSt mapE mapH mapB mapBL sw rt fb mvB mvRt seesP inRt isRoot rootOf boxOf seesB rootsL Am.rep ovw flatCells_ints allLeaf_ints flatCells el grp updE isNilB inpV inpL stB okL unA orcA bndB plL_ints fzL stBox inCells wrap0 wrap1 wrapm1 take_snoc BIGB marks boxZ ldLab cellOf cellN CELLM boxIn isCell apartC frzR frzRL frzS frzC frzCL
theorem cmpI_run (x y : Int) : callL cfgS nCmpCompareInt [.int .i64 x, .int .i64 y] [] = some (.int .i64 (cmpI x y), []) := by
  rw [callL_end oCmpCompareInt sCmpCompareInt (Nat.le_of_ble_eq_true rfl)]
  have hx := nan_run x
  have hy := nan_run y
  unfold qCmpCompareInt cCmpCompareInt cmpI
  by_cases h1 : x < y
  · simp [rCmpCompareIntX0, rCmpCompareIntX1, rCmpCompareIntX2, rCmpCompareIntX3, rCmpCompareIntX4, rCmpCompareIntX5, rCmpCompareIntX6, rCmpCompareIntX7, rCmpCompareIntX8, rCmpCompareIntX9, rCmpCompareIntX10, rCmpCompareIntX11, rCmpCompareIntX12, rCmpCompareIntX13, hx, hy, h1, sCmpIsNaNInt, iCmpIsNaNInt, eCmpIsNaNInt, endL, finB]
  · by_cases h2 : y < x
    · simp [rCmpCompareIntX0, rCmpCompareIntX1, rCmpCompareIntX2, rCmpCompareIntX3, rCmpCompareIntX4, rCmpCompareIntX5, rCmpCompareIntX6, rCmpCompareIntX7, rCmpCompareIntX8, rCmpCompareIntX9, rCmpCompareIntX10, rCmpCompareIntX11, rCmpCompareIntX12, rCmpCompareIntX13, hx, hy, h1, h2, sCmpIsNaNInt, iCmpIsNaNInt, eCmpIsNaNInt, endL, finB]
    · simp [rCmpCompareIntX0, rCmpCompareIntX1, rCmpCompareIntX2, rCmpCompareIntX3, rCmpCompareIntX4, rCmpCompareIntX5, rCmpCompareIntX6, rCmpCompareIntX7, rCmpCompareIntX8, rCmpCompareIntX9, rCmpCompareIntX10, rCmpCompareIntX11, rCmpCompareIntX12, rCmpCompareIntX13, hx, hy, h1, h2, sCmpIsNaNInt, iCmpIsNaNInt, eCmpIsNaNInt, endL, finB]
end
end Go.BmP
