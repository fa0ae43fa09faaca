/- What functions of cohesionref02 return: Has, Valid, put, Of. -/
import Derived.Test.YtcjfhegnnjnmgaaDoorCfS
import Derived.Test.YtcjfhegnnjnmgaaDoorRunX
import Derived.Test.YtcjfhegnnjnmgaaDoorSpc
set_option linter.unusedSimpArgs false
set_option linter.unusedVariables false
set_option maxRecDepth 100000
namespace Go.BmP
open Go.Am Go.Bm
section
attribute [local simp] codeL_seq codeL_reg codeL_blk codeL_skip codeL_ret codeL_exit codeL_cnd condL_b thenL_n thenL_e thenL_r blkL_n blkL_e blkL_r regL_s opsB stepB opB opP opnd opnds lend lendC get_nil' get_cons' put_nil' put_cons' mem_nil' mem_cons' putdB putB slowP hasOwn hasOwnL finO relab anyB anyE anyH anyR borOf borL inSlot HAND endR hasOwnE endK keepIn trim noPtr noPtrL noPtrE noPtrH binA arith unA eqB isNilB eqc lenB bndB bnd rdN rdc AV.cells fillB peek ldOK AV.leaf allLeaf fz pl plL drawB allCW cwF okDrawB okPair Fq.ok dstOff wrOff notSlot noneIn apartR oldBoxes O.reads Kd.reads E.slot slots slotO slotsP List.getD pairIn nilL okRes clean cleanL resV resVs tupOf mkEnv partsBor doCallB inpB getArgs doCallO frzA frzV frzL minA minF cont ownAt at_ setAt rel dropS relC dropAll frzP frzAll firstBor borIn borC borS borE borH handTo mapSt mapE mapH mapB mapBL sw rt fb mvB mvRt seesP inRt isRoot rootOf boxOf seesB rootsL Am.rep ovw flatCells_ints allLeaf_ints flatCells el grp updE isNilB inpV inpL stB okL unA orcA bndB plL_ints fzL stBox inCells wrap0 wrap1 wrapm1 take_snoc BIGB marks boxZ ldLab cellOf cellN CELLM boxIn isCell apartC frzR frzRL frzS frzC frzCL
theorem has_loop (x : Int) (l : List Int) (hl : l.length < 4294967297) : ∀ n i : Nat, i + n = l.length → codeL cfgS 0 (.loop lRef02HasX0) ⟨[(1, .int .i64 x), (7, .list 1 (ints l)), (8, .int .i64 l.length), (9, .int .i64 i)], []⟩ =
    if x ∈ l.drop i then some (.ret, ⟨[(4, .bool true)], []⟩) else some (.exit 0, ⟨[(1, .int .i64 x), (7, .list 1 (ints l)), (8, .int .i64 l.length), (9, .int .i64 l.length), (10, .bool false)], []⟩)
  | 0, i, hi => by
    have e : i = l.length := by omega
    subst e
    rw [List.drop_length]
    exact loop_exit (by unfold lRef02HasX0; simp [rRef02HasX0, rRef02HasX1, rRef02HasX2, rRef02HasX3, rRef02HasX4, rRef02HasX5, rRef02HasX6, rRef02HasX7])
  | n + 1, i, hi => by
    have hlt : i < l.length := by omega
    have h1 : (i : Int) < l.length := by omega
    have ih := has_loop x l hl n (i + 1) (by omega)
    have hw := wrapS (i := i) (by omega)
    rw [List.drop_eq_getElem_cons hlt]
    by_cases hx : l[i] = x
    · rw [if_pos (by simp [hx])]
      exact loop_ret (by unfold lRef02HasX0; simp [rRef02HasX0, rRef02HasX1, rRef02HasX2, rRef02HasX3, rRef02HasX4, rRef02HasX5, rRef02HasX6, rRef02HasX7, h1, hlt, hx, ints_length, ints_get, intsAt, idx])
    · have hx2 : ¬ x = l[i] := fun e => hx e.symm
      simp only [List.mem_cons, hx2, false_or]
      exact (loop_next (by unfold lRef02HasX0; simp [rRef02HasX0, rRef02HasX1, rRef02HasX2, rRef02HasX3, rRef02HasX4, rRef02HasX5, rRef02HasX6, rRef02HasX7, h1, hlt, hx, hw, ints_length, ints_get, intsAt, idx])).trans ih
theorem has_run (x : Int) (l : List Int) (hl : l.length < 4294967297) : callL cfgS nRef02Has [.list 1 (ints l), .int .i64 x] [] = some (.bool (decide (x ∈ l)), []) := by
  rw [callL_end oRef02Has sRef02Has (Nat.le_of_ble_eq_true rfl)]
  have h := has_loop x l hl l.length 0 (by omega)
  rw [nat0, List.drop_zero] at h
  unfold qRef02Has cRef02Has
  by_cases hx : x ∈ l
  · simp [rRef02HasX0, rRef02HasX1, rRef02HasX2, rRef02HasX3, rRef02HasX4, rRef02HasX5, rRef02HasX6, rRef02HasX7, h, hx, ints_length, endL, finB]
  · simp [rRef02HasX0, rRef02HasX1, rRef02HasX2, rRef02HasX3, rRef02HasX4, rRef02HasX5, rRef02HasX6, rRef02HasX7, h, hx, ints_length, endL, finB]
end
end Go.BmP
