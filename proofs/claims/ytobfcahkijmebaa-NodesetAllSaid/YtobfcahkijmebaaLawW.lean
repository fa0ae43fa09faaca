/- The law NodesetWithin over the machine by value. -/
import Derived.Test.YtobfcahkijmebaaR02k
set_option linter.unusedSimpArgs false
set_option linter.unusedVariables false
set_option maxRecDepth 100000
set_option maxHeartbeats 4000000
namespace Go.BmP
open Go.Am Go.Bm
theorem awake_run : callL cfgS nLaw02Awake [] [] = some (.bool true, []) := callL_iff.2 ⟨3000, by kernel_rfl⟩
theorem rangeI_val : valGo 64 (-1) (rangeI 64) = true := by decide +kernel
theorem within_law (a b : List Int) (x : Int) (h : a.length + b.length ≤ 1048576) : callL cfgS nLaw02NodesetWithin [.list 1 (ints a), .list 1 (ints b), .int .i64 x] [] = some (.bool true, []) := by
  rw [callL_end oLaw02NodesetWithin sLaw02NodesetWithin (Nat.le_of_ble_eq_true rfl)]
  have hw : IntKind.i64.wrap ((a.length : Int) + b.length) = (a.length : Int) + b.length := wrapZ (j := a.length + b.length) (by omega) (by omega)
  have aw := awake_run
  unfold qLaw02NodesetWithin cLaw02NodesetWithin
  by_cases hg : (200 : Int) < (a.length : Int) + b.length
  · simp [rLaw02NodesetWithinX0, rLaw02NodesetWithinX1, rLaw02NodesetWithinX2, rLaw02NodesetWithinX3, rLaw02NodesetWithinX4, rLaw02NodesetWithinX5, hw, hg, aw, sLaw02Awake, iLaw02Awake, ints_length, endL, finB, codeL_seq, codeL_reg, codeL_blk, codeL_skip, codeL_ret, codeL_exit, codeL_cnd, condL_b, thenL_n, thenL_e, thenL_r, blkL_n, blkL_e, blkL_r, regL_s, opsB, stepB, opB, opP, opnd, opnds, lend, lendC, get_nil', get_cons', put_nil', put_cons', mem_nil', mem_cons', putdB, putB, slowP, hasOwn, hasOwnL, finO, relab, anyB, anyE, anyH, anyR, borOf, borL, inSlot, HAND, endR, hasOwnE, endK, keepIn, trim, noPtr, noPtrL, noPtrE, noPtrH, binA, arith, unA, eqB, isNilB, eqc, lenB, bndB, bnd, rdN, rdc, AV.cells, fillB, peek, ldOK, AV.leaf, allLeaf, fz, pl, plL, drawB, allCW, cwF, okDrawB, okPair, Fq.ok, dstOff, wrOff, notSlot, noneIn, apartR, oldBoxes, O.reads, Kd.reads, E.slot, slots, slotO, slotsP, List.getD, pairIn, nilL, okRes, clean, cleanL, resV, resVs, tupOf, mkEnv, partsBor, doCallB, inpB, getArgs, doCallO, frzA, frzV, frzL, minA, minF, cont, ownAt, at_, setAt, rel, dropS, relC, dropAll, frzP, frzAll, firstBor, borIn, borC, borS, borE, borH, handTo, mapSt, mapE, mapH, mapB, mapBL, sw, rt, fb, mvB, mvRt, seesP, inRt, isRoot, rootOf, boxOf, seesB, rootsL, Am.rep, ovw, flatCells_ints, allLeaf_ints, flatCells, el, grp, updE, isNilB, inpV, inpL, stB, okL, unA, orcA, bndB, plL_ints, fzL, stBox, inCells, wrap0, wrap1, wrapm1, take_snoc]
  · have w1 := nwithin_run a b (by omega)
    have w2 := nwithin_run b a (by omega)
    have u := nuni_run a b (by omega)
    have la := setOf_len a
    have lb := setOf_len b
    have lu := uni_len a b
    have lm := minus_len a b
    have oa := nof_run a (by omega)
    have ob := nof_run b (by omega)
    have sm := same_run (setOf a) (setOf b) (by omega) (by omega)
    have hu := nhas_run x (uni a b) (by omega)
    have ha := nhas_run x a (by omega)
    have hb := nhas_run x b (by omega)
    have mi := nminus_run a b (by omega)
    have hm := nhas_run x (minus a b) (by omega)
    have rg := nrange_run 64
    have vl := nvalid_run 64 (rangeI 64) (by decide)
    rw [rangeI_val] at vl
    have eu : decide (x ∈ uni a b) = (decide (x ∈ a) || decide (x ∈ b)) := by rw [Bool.eq_iff_iff]; simp [(uni_spec a b).2]
    have em : decide (x ∈ minus a b) = (decide (x ∈ a) && !decide (x ∈ b)) := by rw [Bool.eq_iff_iff]; simp [(minus_spec a b).2]
    have es : decide (setOf a = setOf b) = ((a.all fun x => decide (x ∈ b)) && (b.all fun x => decide (x ∈ a))) := by
      rw [Bool.eq_iff_iff, decide_eq_true_eq, Bool.and_eq_true, List.all_eq_true, List.all_eq_true]
      constructor
      · intro e
        refine ⟨fun z hz => ?_, fun z hz => ?_⟩
        · have := (setOf_spec a).2 z |>.2 hz
          rw [e] at this
          simpa using (setOf_spec b).2 z |>.1 this
        · have := (setOf_spec b).2 z |>.2 hz
          rw [← e] at this
          simpa using (setOf_spec a).2 z |>.1 this
      · rintro ⟨h1, h2⟩
        refine up_ext (setOf_spec a).1 (setOf_spec b).1 fun z => ?_
        rw [(setOf_spec a).2, (setOf_spec b).2]
        exact ⟨fun hz => by simpa using h1 z hz, fun hz => by simpa using h2 z hz⟩
    rw [eu] at hu
    rw [em] at hm
    rw [es] at sm
    generalize hA : (a.all fun x => decide (x ∈ b)) = A at *
    generalize hB : (b.all fun x => decide (x ∈ a)) = B at *
    generalize hP : decide (x ∈ a) = P at *
    generalize hQ : decide (x ∈ b) = Q at *
    clear eu em es hA hB hP hQ
    cases A <;> cases B <;> cases P <;> cases Q <;> (simp only [Bool.true_and, Bool.false_and, Bool.and_true, Bool.and_false, Bool.not_true, Bool.not_false, Bool.or_true, Bool.or_false, Bool.true_or, Bool.false_or, Bool.and_self, Bool.or_self] at *; simp [rLaw02NodesetWithinX0, rLaw02NodesetWithinX1, rLaw02NodesetWithinX2, rLaw02NodesetWithinX3, rLaw02NodesetWithinX4, rLaw02NodesetWithinX5, hw, hg, aw, w1, w2, u, oa, ob, sm, hu, ha, hb, mi, hm, rg, vl, sLaw02Awake, iLaw02Awake, sNodesetWithin, iNodesetWithin, sNodesetUnion, iNodesetUnion, sNodesetOf, iNodesetOf, sRef02Same, iRef02Same, sNodesetHas, iNodesetHas, sNodesetMinus, iNodesetMinus, sNodesetRange, iNodesetRange, sNodesetValid, iNodesetValid, ints_length, endL, finB, codeL_seq, codeL_reg, codeL_blk, codeL_skip, codeL_ret, codeL_exit, codeL_cnd, condL_b, thenL_n, thenL_e, thenL_r, blkL_n, blkL_e, blkL_r, regL_s, opsB, stepB, opB, opP, opnd, opnds, lend, lendC, get_nil', get_cons', put_nil', put_cons', mem_nil', mem_cons', putdB, putB, slowP, hasOwn, hasOwnL, finO, relab, anyB, anyE, anyH, anyR, borOf, borL, inSlot, HAND, endR, hasOwnE, endK, keepIn, trim, noPtr, noPtrL, noPtrE, noPtrH, binA, arith, unA, eqB, isNilB, eqc, lenB, bndB, bnd, rdN, rdc, AV.cells, fillB, peek, ldOK, AV.leaf, allLeaf, fz, pl, plL, drawB, allCW, cwF, okDrawB, okPair, Fq.ok, dstOff, wrOff, notSlot, noneIn, apartR, oldBoxes, O.reads, Kd.reads, E.slot, slots, slotO, slotsP, List.getD, pairIn, nilL, okRes, clean, cleanL, resV, resVs, tupOf, mkEnv, partsBor, doCallB, inpB, getArgs, doCallO, frzA, frzV, frzL, minA, minF, cont, ownAt, at_, setAt, rel, dropS, relC, dropAll, frzP, frzAll, firstBor, borIn, borC, borS, borE, borH, handTo, mapSt, mapE, mapH, mapB, mapBL, sw, rt, fb, mvB, mvRt, seesP, inRt, isRoot, rootOf, boxOf, seesB, rootsL, Am.rep, ovw, flatCells_ints, allLeaf_ints, flatCells, el, grp, updE, isNilB, inpV, inpL, stB, okL, unA, orcA, bndB, plL_ints, fzL, stBox, inCells, wrap0, wrap1, wrapm1, take_snoc])
end Go.BmP
