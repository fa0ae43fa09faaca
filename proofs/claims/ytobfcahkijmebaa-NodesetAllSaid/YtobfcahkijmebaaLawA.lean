/- The law NodesetAll over the machine by value. -/
import Derived.Test.YtobfcahkijmebaaLawW
set_option linter.unusedSimpArgs false
set_option linter.unusedVariables false
set_option maxRecDepth 100000
set_option maxHeartbeats 8000000
namespace Go.BmP
open Go.Am Go.Bm
def pr (u v : List Int) : AV := .agg [.list 1 (ints u), .list 1 (ints v)]
def allSt (m x : Int) (P : List AV) (i : Int) : St := ⟨[(2, .int .i64 m), (3, .int .i64 x), (35, .own 2 P), (36, .int .i64 3), (37, .int .i64 i)], []⟩
theorem all_round (m x : Int) (u v : List Int) (hu : u.length ≤ 240) (hv : v.length ≤ 240) (p q r : AV) : (p = pr u v → codeL cfgS 0 lLaw02NodesetAllX0 (allSt m x [p, q, r] 0) = some (.normal, allSt m x [p, q, r] 1)) ∧ (q = pr u v → codeL cfgS 0 lLaw02NodesetAllX0 (allSt m x [p, q, r] 1) = some (.normal, allSt m x [p, q, r] 2)) ∧ (r = pr u v → codeL cfgS 0 lLaw02NodesetAllX0 (allSt m x [p, q, r] 2) = some (.normal, allSt m x [p, q, r] 3)) := by
  have f1 := nvalid_run m u (by omega)
  have f2 := valid_run m u (by omega)
  have f3 := nof_run u (by omega)
  have f4 := of_run u (by omega)
  have lu := setOf_len u
  have f5 := same_run (setOf u) (setOf u) (by omega) (by omega)
  have f6 := nhas_run x u (by omega)
  have f7 := has_run x u (by omega)
  have f8 := nuni_run u v (by omega)
  have f9 := union_run u v (by omega)
  have l1 := uni_len u v
  have f10 := same_run (uni u v) (uni u v) (by omega) (by omega)
  have f11 := nmeet_run u v (by omega)
  have f12 := meet_run u v (by omega) (by omega)
  have l2 := meet_len u v
  have f13 := same_run (meet u v) (meet u v) (by omega) (by omega)
  have f14 := nminus_run u v (by omega)
  have f15 := minus_run u v (by omega) (by omega)
  have l3 := minus_len u v
  have f16 := same_run (minus u v) (minus u v) (by omega) (by omega)
  have f17 := nwithin_run u v (by omega)
  have f18 := within_run u v (by omega) (by omega)
  have f19 := ncmp_run u v (by omega) (by omega)
  have f20 := cmp_run u v (by omega) (by omega)
  clear lu l1 l2 l3
  simp only [decide_true] at f5 f10 f13 f16
  have t2 : IntKind.i64.wrap 2 = 2 := by decide
  have t3 : IntKind.i64.wrap 3 = 3 := by decide
  refine ⟨fun e => ?_, fun e => ?_, fun e => ?_⟩ <;> subst e <;> (unfold lLaw02NodesetAllX0; simp only [allSt, pr]; simp [rLaw02NodesetAllX0, rLaw02NodesetAllX1, rLaw02NodesetAllX2, rLaw02NodesetAllX3, rLaw02NodesetAllX4, rLaw02NodesetAllX5, rLaw02NodesetAllX6, rLaw02NodesetAllX7, rLaw02NodesetAllX8, rLaw02NodesetAllX9, rLaw02NodesetAllX10, rLaw02NodesetAllX11, f1, f2, f3, f4, f5, f6, f7, f8, f9, f10, f11, f12, f13, f14, f15, f16, f17, f18, f19, f20, t2, t3, blk, sNodesetValid, iNodesetValid, sRef02Valid, iRef02Valid, sNodesetOf, iNodesetOf, sRef02Of, iRef02Of, sRef02Same, iRef02Same, sNodesetHas, iNodesetHas, sRef02Has, iRef02Has, sNodesetUnion, iNodesetUnion, sRef02Union, iRef02Union, sNodesetMeet, iNodesetMeet, sRef02Meet, iRef02Meet, sNodesetMinus, iNodesetMinus, sRef02Minus, iRef02Minus, sNodesetWithin, iNodesetWithin, sRef02Within, iRef02Within, sNodesetCmp, iNodesetCmp, sRef02Cmp, iRef02Cmp, ints_length, idx, codeL_seq, codeL_reg, codeL_blk, codeL_skip, codeL_ret, codeL_exit, codeL_cnd, condL_b, thenL_n, thenL_e, thenL_r, blkL_n, blkL_e, blkL_r, regL_s, opsB, stepB, opB, opP, opnd, opnds, lend, lendC, get_nil', get_cons', put_nil', put_cons', mem_nil', mem_cons', putdB, putB, slowP, hasOwn, hasOwnL, finO, relab, anyB, anyE, anyH, anyR, borOf, borL, inSlot, HAND, endR, hasOwnE, endK, keepIn, trim, noPtr, noPtrL, noPtrE, noPtrH, binA, arith, unA, eqB, isNilB, eqc, lenB, bndB, bnd, rdN, rdc, AV.cells, fillB, peek, ldOK, AV.leaf, allLeaf, fz, pl, plL, drawB, allCW, cwF, okDrawB, okPair, Fq.ok, dstOff, wrOff, notSlot, noneIn, apartR, oldBoxes, O.reads, Kd.reads, E.slot, slots, slotO, slotsP, List.getD, pairIn, nilL, okRes, clean, cleanL, resV, resVs, tupOf, mkEnv, partsBor, doCallB, inpB, getArgs, doCallO, frzA, frzV, frzL, minA, minF, cont, ownAt, at_, setAt, rel, dropS, relC, dropAll, frzP, frzAll, firstBor, borIn, borC, borS, borE, borH, handTo, mapSt, mapE, mapH, mapB, mapBL, sw, rt, fb, mvB, mvRt, seesP, inRt, isRoot, rootOf, boxOf, seesB, rootsL, Am.rep, ovw, flatCells_ints, allLeaf_ints, flatCells, el, grp, updE, isNilB, inpV, inpL, stB, okL, unA, orcA, bndB, plL_ints, fzL, stBox, inCells, wrap0, wrap1, wrapm1, take_snoc])
theorem mod_run (x k : Int) (hk : 0 < k) (hk2 : k < 4611686018427387904) : callL cfgS nMakeMod [.int .i64 x, .int .i64 k] [] = some (.int .i64 ((IntKind.i64.wrap (x.tmod k + k)).tmod k), []) := by
  rw [callL_end oMakeMod sMakeMod (Nat.le_of_ble_eq_true rfl)]
  have h0 : ¬ k = 0 := by omega
  unfold qMakeMod cMakeMod
  simp [rMakeModX0, rMakeModX1, h0, endL, finB, codeL_seq, codeL_reg, codeL_blk, codeL_skip, codeL_ret, codeL_exit, codeL_cnd, condL_b, thenL_n, thenL_e, thenL_r, blkL_n, blkL_e, blkL_r, regL_s, opsB, stepB, opB, opP, opnd, opnds, lend, lendC, get_nil', get_cons', put_nil', put_cons', mem_nil', mem_cons', putdB, putB, slowP, hasOwn, hasOwnL, finO, relab, anyB, anyE, anyH, anyR, borOf, borL, inSlot, HAND, endR, hasOwnE, endK, keepIn, trim, noPtr, noPtrL, noPtrE, noPtrH, binA, arith, unA, eqB, isNilB, eqc, lenB, bndB, bnd, rdN, rdc, AV.cells, fillB, peek, ldOK, AV.leaf, allLeaf, fz, pl, plL, drawB, allCW, cwF, okDrawB, okPair, Fq.ok, dstOff, wrOff, notSlot, noneIn, apartR, oldBoxes, O.reads, Kd.reads, E.slot, slots, slotO, slotsP, List.getD, pairIn, nilL, okRes, clean, cleanL, resV, resVs, tupOf, mkEnv, partsBor, doCallB, inpB, getArgs, doCallO, frzA, frzV, frzL, minA, minF, cont, ownAt, at_, setAt, rel, dropS, relC, dropAll, frzP, frzAll, firstBor, borIn, borC, borS, borE, borH, handTo, mapSt, mapE, mapH, mapB, mapBL, sw, rt, fb, mvB, mvRt, seesP, inRt, isRoot, rootOf, boxOf, seesB, rootsL, Am.rep, ovw, flatCells_ints, allLeaf_ints, flatCells, el, grp, updE, isNilB, inpV, inpL, stB, okL, unA, orcA, bndB, plL_ints, fzL, stBox, inCells, wrap0, wrap1, wrapm1, take_snoc]
theorem all_law (a b : List Int) (n x : Int) : callL cfgS nLaw02NodesetAll [.list 1 (ints a), .list 1 (ints b), .int .i64 n, .int .i64 x] [] = some (.bool true, []) := by
  rw [callL_end oLaw02NodesetAll sLaw02NodesetAll (Nat.le_of_ble_eq_true rfl)]
  have aw := awake_run
  unfold qLaw02NodesetAll cLaw02NodesetAll
  by_cases ga : (120 : Int) < a.length
  · simp [rLaw02NodesetAllX0, rLaw02NodesetAllX1, rLaw02NodesetAllX2, rLaw02NodesetAllX3, rLaw02NodesetAllX4, rLaw02NodesetAllX5, rLaw02NodesetAllX6, rLaw02NodesetAllX7, rLaw02NodesetAllX8, rLaw02NodesetAllX9, rLaw02NodesetAllX10, rLaw02NodesetAllX11, ga, aw, sLaw02Awake, iLaw02Awake, ints_length, endL, finB, codeL_seq, codeL_reg, codeL_blk, codeL_skip, codeL_ret, codeL_exit, codeL_cnd, condL_b, thenL_n, thenL_e, thenL_r, blkL_n, blkL_e, blkL_r, regL_s, opsB, stepB, opB, opP, opnd, opnds, lend, lendC, get_nil', get_cons', put_nil', put_cons', mem_nil', mem_cons', putdB, putB, slowP, hasOwn, hasOwnL, finO, relab, anyB, anyE, anyH, anyR, borOf, borL, inSlot, HAND, endR, hasOwnE, endK, keepIn, trim, noPtr, noPtrL, noPtrE, noPtrH, binA, arith, unA, eqB, isNilB, eqc, lenB, bndB, bnd, rdN, rdc, AV.cells, fillB, peek, ldOK, AV.leaf, allLeaf, fz, pl, plL, drawB, allCW, cwF, okDrawB, okPair, Fq.ok, dstOff, wrOff, notSlot, noneIn, apartR, oldBoxes, O.reads, Kd.reads, E.slot, slots, slotO, slotsP, List.getD, pairIn, nilL, okRes, clean, cleanL, resV, resVs, tupOf, mkEnv, partsBor, doCallB, inpB, getArgs, doCallO, frzA, frzV, frzL, minA, minF, cont, ownAt, at_, setAt, rel, dropS, relC, dropAll, frzP, frzAll, firstBor, borIn, borC, borS, borE, borH, handTo, mapSt, mapE, mapH, mapB, mapBL, sw, rt, fb, mvB, mvRt, seesP, inRt, isRoot, rootOf, boxOf, seesB, rootsL, Am.rep, ovw, flatCells_ints, allLeaf_ints, flatCells, el, grp, updE, isNilB, inpV, inpL, stB, okL, unA, orcA, bndB, plL_ints, fzL, stBox, inCells, wrap0, wrap1, wrapm1, take_snoc]
  by_cases gb : (120 : Int) < b.length
  · simp [rLaw02NodesetAllX0, rLaw02NodesetAllX1, rLaw02NodesetAllX2, rLaw02NodesetAllX3, rLaw02NodesetAllX4, rLaw02NodesetAllX5, rLaw02NodesetAllX6, rLaw02NodesetAllX7, rLaw02NodesetAllX8, rLaw02NodesetAllX9, rLaw02NodesetAllX10, rLaw02NodesetAllX11, ga, gb, aw, sLaw02Awake, iLaw02Awake, ints_length, endL, finB, codeL_seq, codeL_reg, codeL_blk, codeL_skip, codeL_ret, codeL_exit, codeL_cnd, condL_b, thenL_n, thenL_e, thenL_r, blkL_n, blkL_e, blkL_r, regL_s, opsB, stepB, opB, opP, opnd, opnds, lend, lendC, get_nil', get_cons', put_nil', put_cons', mem_nil', mem_cons', putdB, putB, slowP, hasOwn, hasOwnL, finO, relab, anyB, anyE, anyH, anyR, borOf, borL, inSlot, HAND, endR, hasOwnE, endK, keepIn, trim, noPtr, noPtrL, noPtrE, noPtrH, binA, arith, unA, eqB, isNilB, eqc, lenB, bndB, bnd, rdN, rdc, AV.cells, fillB, peek, ldOK, AV.leaf, allLeaf, fz, pl, plL, drawB, allCW, cwF, okDrawB, okPair, Fq.ok, dstOff, wrOff, notSlot, noneIn, apartR, oldBoxes, O.reads, Kd.reads, E.slot, slots, slotO, slotsP, List.getD, pairIn, nilL, okRes, clean, cleanL, resV, resVs, tupOf, mkEnv, partsBor, doCallB, inpB, getArgs, doCallO, frzA, frzV, frzL, minA, minF, cont, ownAt, at_, setAt, rel, dropS, relC, dropAll, frzP, frzAll, firstBor, borIn, borC, borS, borE, borH, handTo, mapSt, mapE, mapH, mapB, mapBL, sw, rt, fb, mvB, mvRt, seesP, inRt, isRoot, rootOf, boxOf, seesB, rootsL, Am.rep, ovw, flatCells_ints, allLeaf_ints, flatCells, el, grp, updE, isNilB, inpV, inpL, stB, okL, unA, orcA, bndB, plL_ints, fzL, stBox, inCells, wrap0, wrap1, wrapm1, take_snoc]
  have la := setOf_len a
  have lb := setOf_len b
  have oa := of_run a (by omega)
  have ob := of_run b (by omega)
  have r1 := (all_round n x a b (by omega) (by omega) (pr a b) (pr (setOf a) b) (pr (setOf a) (setOf b))).1 rfl
  have r2 := (all_round n x (setOf a) b (by omega) (by omega) (pr a b) (pr (setOf a) b) (pr (setOf a) (setOf b))).2.1 rfl
  have r3 := (all_round n x (setOf a) (setOf b) (by omega) (by omega) (pr a b) (pr (setOf a) b) (pr (setOf a) (setOf b))).2.2 rfl
  have r4 : codeL cfgS 0 lLaw02NodesetAllX0 (allSt n x [pr a b, pr (setOf a) b, pr (setOf a) (setOf b)] 3) = some (.exit 0, ⟨[(2, .int .i64 n), (3, .int .i64 x), (35, .own 2 [pr a b, pr (setOf a) b, pr (setOf a) (setOf b)]), (36, .int .i64 3), (37, .int .i64 3), (38, .bool false)], []⟩) := by
    unfold lLaw02NodesetAllX0
    simp only [allSt, pr]
    simp [rLaw02NodesetAllX0, rLaw02NodesetAllX1, rLaw02NodesetAllX2, rLaw02NodesetAllX3, rLaw02NodesetAllX4, rLaw02NodesetAllX5, rLaw02NodesetAllX6, rLaw02NodesetAllX7, rLaw02NodesetAllX8, rLaw02NodesetAllX9, rLaw02NodesetAllX10, rLaw02NodesetAllX11, codeL_seq, codeL_reg, codeL_blk, codeL_skip, codeL_ret, codeL_exit, codeL_cnd, condL_b, thenL_n, thenL_e, thenL_r, blkL_n, blkL_e, blkL_r, regL_s, opsB, stepB, opB, opP, opnd, opnds, lend, lendC, get_nil', get_cons', put_nil', put_cons', mem_nil', mem_cons', putdB, putB, slowP, hasOwn, hasOwnL, finO, relab, anyB, anyE, anyH, anyR, borOf, borL, inSlot, HAND, endR, hasOwnE, endK, keepIn, trim, noPtr, noPtrL, noPtrE, noPtrH, binA, arith, unA, eqB, isNilB, eqc, lenB, bndB, bnd, rdN, rdc, AV.cells, fillB, peek, ldOK, AV.leaf, allLeaf, fz, pl, plL, drawB, allCW, cwF, okDrawB, okPair, Fq.ok, dstOff, wrOff, notSlot, noneIn, apartR, oldBoxes, O.reads, Kd.reads, E.slot, slots, slotO, slotsP, List.getD, pairIn, nilL, okRes, clean, cleanL, resV, resVs, tupOf, mkEnv, partsBor, doCallB, inpB, getArgs, doCallO, frzA, frzV, frzL, minA, minF, cont, ownAt, at_, setAt, rel, dropS, relC, dropAll, frzP, frzAll, firstBor, borIn, borC, borS, borE, borH, handTo, mapSt, mapE, mapH, mapB, mapBL, sw, rt, fb, mvB, mvRt, seesP, inRt, isRoot, rootOf, boxOf, seesB, rootsL, Am.rep, ovw, flatCells_ints, allLeaf_ints, flatCells, el, grp, updE, isNilB, inpV, inpL, stB, okL, unA, orcA, bndB, plL_ints, fzL, stBox, inCells, wrap0, wrap1, wrapm1, take_snoc]
  have hl := (loop_next r1).trans ((loop_next r2).trans ((loop_next r3).trans (loop_exit r4)))
  clear r1 r2 r3 r4
  simp only [allSt, pr] at hl
  have md := mod_run n 80 (by omega) (by omega)
  generalize (IntKind.i64.wrap (n.tmod 80 + 80)).tmod 80 = t at md
  have q1 := nrange_run n
  have q2 := range_run n
  have q3 := nrange_run (IntKind.i64.wrap (t - 5))
  have q4 := range_run (IntKind.i64.wrap (t - 5))
  have rl : ∀ m, (rangeI m).length ≤ 64 := fun m => by unfold rangeI; simp; omega
  have s1 := same_run (rangeI n) (rangeI n) (by have := rl n; omega) (by have := rl n; omega)
  have s2 := same_run (rangeI (IntKind.i64.wrap (t - 5))) (rangeI (IntKind.i64.wrap (t - 5))) (by have := rl (IntKind.i64.wrap (t - 5)); omega) (by have := rl (IntKind.i64.wrap (t - 5)); omega)
  simp only [decide_true] at s1 s2
  simp [rLaw02NodesetAllX0, rLaw02NodesetAllX1, rLaw02NodesetAllX2, rLaw02NodesetAllX3, rLaw02NodesetAllX4, rLaw02NodesetAllX5, rLaw02NodesetAllX6, rLaw02NodesetAllX7, rLaw02NodesetAllX8, rLaw02NodesetAllX9, rLaw02NodesetAllX10, rLaw02NodesetAllX11, ga, gb, oa, ob, hl, md, q1, q2, q3, q4, s1, s2, aw, sRef02Of, iRef02Of, sMakeMod, iMakeMod, sNodesetRange, iNodesetRange, sRef02Range, iRef02Range, sRef02Same, iRef02Same, sLaw02Awake, iLaw02Awake, ints_length, endL, finB, codeL_seq, codeL_reg, codeL_blk, codeL_skip, codeL_ret, codeL_exit, codeL_cnd, condL_b, thenL_n, thenL_e, thenL_r, blkL_n, blkL_e, blkL_r, regL_s, opsB, stepB, opB, opP, opnd, opnds, lend, lendC, get_nil', get_cons', put_nil', put_cons', mem_nil', mem_cons', putdB, putB, slowP, hasOwn, hasOwnL, finO, relab, anyB, anyE, anyH, anyR, borOf, borL, inSlot, HAND, endR, hasOwnE, endK, keepIn, trim, noPtr, noPtrL, noPtrE, noPtrH, binA, arith, unA, eqB, isNilB, eqc, lenB, bndB, bnd, rdN, rdc, AV.cells, fillB, peek, ldOK, AV.leaf, allLeaf, fz, pl, plL, drawB, allCW, cwF, okDrawB, okPair, Fq.ok, dstOff, wrOff, notSlot, noneIn, apartR, oldBoxes, O.reads, Kd.reads, E.slot, slots, slotO, slotsP, List.getD, pairIn, nilL, okRes, clean, cleanL, resV, resVs, tupOf, mkEnv, partsBor, doCallB, inpB, getArgs, doCallO, frzA, frzV, frzL, minA, minF, cont, ownAt, at_, setAt, rel, dropS, relC, dropAll, frzP, frzAll, firstBor, borIn, borC, borS, borE, borH, handTo, mapSt, mapE, mapH, mapB, mapBL, sw, rt, fb, mvB, mvRt, seesP, inRt, isRoot, rootOf, boxOf, seesB, rootsL, Am.rep, ovw, flatCells_ints, allLeaf_ints, flatCells, el, grp, updE, isNilB, inpV, inpL, stB, okL, unA, orcA, bndB, plL_ints, fzL, stBox, inCells, wrap0, wrap1, wrapm1, take_snoc]
end Go.BmP
