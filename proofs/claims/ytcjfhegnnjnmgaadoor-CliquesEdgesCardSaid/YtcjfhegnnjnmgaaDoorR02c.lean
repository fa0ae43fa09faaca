/- What functions of cohesionref02 return: put, Of, Range, Union, Meet, Minus, Within, Cmp, Same. -/
import Derived.Test.YtcjfhegnnjnmgaaDoorR02b
set_option linter.unusedSimpArgs false
set_option linter.unusedVariables false
set_option maxRecDepth 100000
namespace Go.BmP
open Go.Am Go.Bm
section
attribute [local simp] codeL_seq codeL_reg codeL_blk codeL_skip codeL_ret codeL_exit codeL_cnd condL_b thenL_n thenL_e thenL_r blkL_n blkL_e blkL_r regL_s opsB stepB opB opP opnd opnds lend lendC get_nil' get_cons' put_nil' put_cons' mem_nil' mem_cons' putdB putB slowP hasOwn hasOwnL finO relab anyB anyE anyH anyR borOf borL inSlot HAND endR hasOwnE endK keepIn trim noPtr noPtrL noPtrE noPtrH binA arith unA eqB isNilB eqc lenB bndB bnd rdN rdc AV.cells fillB peek ldOK AV.leaf allLeaf fz pl plL drawB allCW cwF okDrawB okPair Fq.ok dstOff wrOff notSlot noneIn apartR oldBoxes O.reads Kd.reads E.slot slots slotO slotsP List.getD pairIn nilL okRes clean cleanL resV resVs tupOf mkEnv partsBor doCallB inpB getArgs doCallO frzA frzV frzL minA minF cont ownAt at_ setAt rel dropS relC dropAll frzP frzAll firstBor borIn borC borS borE borH handTo mapSt mapE mapH mapB mapBL sw rt fb mvB mvRt seesP inRt isRoot rootOf boxOf seesB rootsL Am.rep ovw flatCells_ints allLeaf_ints flatCells el grp updE isNilB inpV inpL stB okL unA orcA bndB plL_ints fzL stBox inCells wrap0 wrap1 wrapm1 take_snoc BIGB marks boxZ ldLab cellOf cellN CELLM boxIn isCell apartC frzR frzRL frzS frzC frzCL
theorem within_loop (l b : List Int) (hl : l.length < 4294967295) (hb : b.length < 4294967295) : ∀ (n i : Nat), i + n = l.length → codeL cfgS 0 (.loop lRef02WithinX0) ⟨[(1, .list 1 (ints b)), (7, .list 1 (ints l)), (8, .int .i64 l.length), (9, .int .i64 i)], []⟩ =
    if (l.drop i).all (fun x => decide (x ∈ b)) = true then some (.exit 0, ⟨[(1, .list 1 (ints b)), (7, .list 1 (ints l)), (8, .int .i64 l.length), (9, .int .i64 l.length), (10, .bool false)], []⟩) else some (.ret, ⟨[(4, .bool false)], []⟩)
  | 0, i, hi => by
    have e : i = l.length := by omega
    subst e
    rw [List.drop_length, List.all_nil, if_pos rfl]
    exact loop_exit (by unfold lRef02WithinX0; simp [rRef02WithinX0, rRef02WithinX1, rRef02WithinX2, rRef02WithinX3, rRef02WithinX4, rRef02WithinX5, rRef02WithinX6, rRef02WithinX7])
  | n + 1, i, hi => by
    have hlt : i < l.length := by omega
    have h1 : (i : Int) < l.length := by omega
    have hw := wrapS (i := i) (by omega)
    have hh := has_run l[i] b (by omega)
    rw [List.drop_eq_getElem_cons hlt, List.all_cons]
    by_cases hx : l[i] ∈ b
    · have ih := within_loop l b hl hb n (i + 1) (by omega)
      simp only [hx, decide_true, Bool.true_and]
      exact (loop_next (by unfold lRef02WithinX0; simp [rRef02WithinX0, rRef02WithinX1, rRef02WithinX2, rRef02WithinX3, rRef02WithinX4, rRef02WithinX5, rRef02WithinX6, rRef02WithinX7, h1, hlt, hw, hh, hx, sRef02Has, iRef02Has, eRef02Has, ints_length, ints_get, intsAt, idx])).trans ih
    · simp only [hx, decide_false, Bool.false_and, Bool.false_eq_true, if_false]
      exact loop_ret (by unfold lRef02WithinX0; simp [rRef02WithinX0, rRef02WithinX1, rRef02WithinX2, rRef02WithinX3, rRef02WithinX4, rRef02WithinX5, rRef02WithinX6, rRef02WithinX7, h1, hlt, hw, hh, hx, sRef02Has, iRef02Has, eRef02Has, ints_length, ints_get, intsAt, idx])
theorem within_run (a b : List Int) (ha : a.length < 4294967295) (hb : b.length < 4294967295) : callL cfgS nRef02Within [.list 1 (ints a), .list 1 (ints b)] [] = some (.bool (a.all fun x => decide (x ∈ b)), []) := by
  rw [callL_end oRef02Within sRef02Within (Nat.le_of_ble_eq_true rfl)]
  have h := within_loop a b ha hb a.length 0 (by omega)
  rw [nat0, List.drop_zero] at h
  unfold qRef02Within cRef02Within
  cases hx : a.all fun x => decide (x ∈ b)
  · rw [hx] at h
    simp [rRef02WithinX0, rRef02WithinX1, rRef02WithinX2, rRef02WithinX3, rRef02WithinX4, rRef02WithinX5, rRef02WithinX6, rRef02WithinX7, h, ints_length, endL, finB]
  · rw [hx] at h
    simp [rRef02WithinX0, rRef02WithinX1, rRef02WithinX2, rRef02WithinX3, rRef02WithinX4, rRef02WithinX5, rRef02WithinX6, rRef02WithinX7, h, ints_length, endL, finB]
end
def rangeI (n : Int) : List Int := (List.range (min n.toNat 64)).map fun i => ((i : Nat) : Int)
end Go.BmP
