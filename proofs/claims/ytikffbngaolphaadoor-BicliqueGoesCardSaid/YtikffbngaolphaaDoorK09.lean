/- What biclique.Check and Close return of a bipartite graph. -/
import Derived.Test.YtikffbngaolphaaDoorK08
import Derived.Test.YtikffbngaolphaaDoorK05
import Derived.Test.YtikffbngaolphaaDoorR02k
set_option linter.unusedSimpArgs false
set_option linter.unusedVariables false
set_option maxRecDepth 100000
set_option maxHeartbeats 4000000
namespace Go.BmP
open Go.Am Go.Bm
theorem shr_bit (M : Nat) (u : Int) (h0 : 0 ≤ u) (h1 : u < 64) : binA .shr (.int .u64 (M : Int)) (.int .i64 u) = some (.int .u64 ((M / 2 ^ u.toNat : Nat) : Int)) := by
  unfold binA
  simp only
  rw [if_neg (by omega), show min u.toNat IntKind.u64.bits = u.toNat by (show min u.toNat 64 = u.toNat); omega, powc, Int.fdiv_eq_ediv_of_nonneg _ (Int.natCast_nonneg _)]
  rfl
theorem one_bit (M : Nat) (u : Int) (h0 : 0 ≤ u) (hM : M < 18446744073709551616) : binA .and (.int .u64 ((M / 2 ^ u.toNat : Nat) : Int)) (.int .u64 1) = some (.int .u64 (if M.testBit u.toNat = true then 1 else 0)) := by
  have hd : M / 2 ^ u.toNat ≤ M := Nat.div_le_self _ _
  have h := bin_and (M / 2 ^ u.toNat) 1 (by omega) (by decide)
  have e : (((M / 2 ^ u.toNat) &&& 1 : Nat) : Int) = if M.testBit u.toNat = true then 1 else 0 := by
    rw [Nat.and_one_is_mod, Nat.testBit_eq_decide_div_mod_eq]
    by_cases k : M / 2 ^ u.toNat % 2 = 1
    · simp [k]
    · simp only [k, decide_false, Bool.false_eq_true, if_false]; omega
  rw [e] at h
  exact h
def b0 (N : Nat) (Es : List Ed) (L : List Int) : Blk := some [.int .i64 N, .list 2 (eds Es), .list 1 (ints L)]
theorem chk1_run (N : Nat) (Es : List Ed) (L : List Int) (M : Nat) (hM : M < 18446744073709551616) (e : Ed) (h1 : 0 ≤ e.1 ∧ e.1 < 64) (h2 : 0 ≤ e.2 ∧ e.2 < 64) (hne : M.testBit e.1.toNat = !M.testBit e.2.toNat) : callL cfgS nBicliqueCheck1 [.agg [.int .i64 e.1, .int .i64 e.2], .ptr 1 0] [b0 N Es L, some [.int .u64 M]] = some (.bool false, [b0 N Es L, some [.int .u64 M]]) := by
  rw [callL_end oBicliqueCheck1 sBicliqueCheck1 (Nat.le_of_ble_eq_true rfl)]
  have s1 := shr_bit M e.1 h1.1 h1.2
  have s2 := shr_bit M e.2 h2.1 h2.2
  have o1 := one_bit M e.1 h1.1 hM
  have o2 := one_bit M e.2 h2.1 hM
  rw [hne] at o1
  generalize ((M / 2 ^ e.1.toNat : Nat) : Int) = x at *
  generalize ((M / 2 ^ e.2.toNat : Nat) : Int) = y at *
  have q1 : binA .eql (.int .u64 0) (.int .u64 1) = some (.bool false) := rfl
  have q2 : binA .eql (.int .u64 1) (.int .u64 0) = some (.bool false) := rfl
  clear hne
  unfold b0
  cases hb : M.testBit e.2.toNat
  · rw [hb] at o1 o2
    simp only [Bool.not_false, Bool.false_eq_true, if_true, if_false] at o1 o2
    generalize (M : Int) = X at *
    unfold qBicliqueCheck1 cBicliqueCheck1
    simp [rBicliqueCheck1X0, rBicliqueCheck1X1, s1, s2, o1, o2, q1, q2, finS, plp, swS, blk, eds_length, eds_get, edsAt, edAV, allLeaf_eds, cleanL_eds, cleanL_ints, ints_length, ints_get, intsAt, endL, finB, codeL_seq, codeL_reg, codeL_blk, codeL_skip, codeL_ret, codeL_exit, codeL_cnd, condL_b, thenL_n, thenL_e, thenL_r, blkL_n, blkL_e, blkL_r, regL_s, opsB, stepB, opB, opP, opnd, opnds, lend, lendC, get_nil', get_cons', put_nil', put_cons', mem_nil', mem_cons', putdB, putB, slowP, hasOwn, hasOwnL, finO, relab, anyB, anyE, anyH, anyR, borOf, borL, inSlot, HAND, endR, hasOwnE, endK, keepIn, trim, noPtr, noPtrL, noPtrE, noPtrH, arith, unA, eqB, isNilB, eqc, lenB, bndB, bnd, rdN, rdc, AV.cells, fillB, peek, ldOK, AV.leaf, allLeaf, fz, pl, plL, drawB, allCW, cwF, okDrawB, okPair, Fq.ok, dstOff, wrOff, notSlot, noneIn, apartR, oldBoxes, O.reads, Kd.reads, E.slot, slots, slotO, slotsP, List.getD, pairIn, nilL, okRes, clean, cleanL, resV, resVs, tupOf, mkEnv, partsBor, doCallB, inpB, getArgs, doCallO, frzA, frzV, frzL, minA, minF, cont, ownAt, at_, setAt, rel, dropS, relC, dropAll, frzP, frzAll, firstBor, borIn, borC, borS, borE, borH, handTo, mapSt, mapE, mapH, mapB, mapBL, sw, rt, fb, mvB, mvRt, seesP, inRt, isRoot, rootOf, boxOf, seesB, rootsL, Am.rep, ovw, flatCells_ints, allLeaf_ints, flatCells, el, grp, updE, isNilB, inpV, inpL, stB, okL, unA, orcA, bndB, plL_ints, fzL, stBox, inCells, wrap0, wrap1, wrapm1, take_snoc]
  · rw [hb] at o1 o2
    simp only [Bool.not_true, Bool.false_eq_true, if_true, if_false] at o1 o2
    generalize (M : Int) = X at *
    unfold qBicliqueCheck1 cBicliqueCheck1
    simp [rBicliqueCheck1X0, rBicliqueCheck1X1, s1, s2, o1, o2, q1, q2, finS, plp, swS, blk, eds_length, eds_get, edsAt, edAV, allLeaf_eds, cleanL_eds, cleanL_ints, ints_length, ints_get, intsAt, endL, finB, codeL_seq, codeL_reg, codeL_blk, codeL_skip, codeL_ret, codeL_exit, codeL_cnd, condL_b, thenL_n, thenL_e, thenL_r, blkL_n, blkL_e, blkL_r, regL_s, opsB, stepB, opB, opP, opnd, opnds, lend, lendC, get_nil', get_cons', put_nil', put_cons', mem_nil', mem_cons', putdB, putB, slowP, hasOwn, hasOwnL, finO, relab, anyB, anyE, anyH, anyR, borOf, borL, inSlot, HAND, endR, hasOwnE, endK, keepIn, trim, noPtr, noPtrL, noPtrE, noPtrH, arith, unA, eqB, isNilB, eqc, lenB, bndB, bnd, rdN, rdc, AV.cells, fillB, peek, ldOK, AV.leaf, allLeaf, fz, pl, plL, drawB, allCW, cwF, okDrawB, okPair, Fq.ok, dstOff, wrOff, notSlot, noneIn, apartR, oldBoxes, O.reads, Kd.reads, E.slot, slots, slotO, slotsP, List.getD, pairIn, nilL, okRes, clean, cleanL, resV, resVs, tupOf, mkEnv, partsBor, doCallB, inpB, getArgs, doCallO, frzA, frzV, frzL, minA, minF, cont, ownAt, at_, setAt, rel, dropS, relC, dropAll, frzP, frzAll, firstBor, borIn, borC, borS, borE, borH, handTo, mapSt, mapE, mapH, mapB, mapBL, sw, rt, fb, mvB, mvRt, seesP, inRt, isRoot, rootOf, boxOf, seesB, rootsL, Am.rep, ovw, flatCells_ints, allLeaf_ints, flatCells, el, grp, updE, isNilB, inpV, inpL, stB, okL, unA, orcA, bndB, plL_ints, fzL, stBox, inCells, wrap0, wrap1, wrapm1, take_snoc]
section
attribute [local simp] codeL_seq codeL_reg codeL_blk codeL_skip codeL_ret codeL_exit codeL_cnd condL_b thenL_n thenL_e thenL_r blkL_n blkL_e blkL_r regL_s opsB stepB opB opP opnd opnds lend lendC get_nil' get_cons' put_nil' put_cons' mem_nil' mem_cons' putdB putB slowP hasOwn hasOwnL finO relab anyB anyE anyH anyR borOf borL inSlot HAND endR hasOwnE endK keepIn trim noPtr noPtrL noPtrE noPtrH binA arith unA eqB isNilB eqc lenB bndB bnd rdN rdc AV.cells fillB peek ldOK AV.leaf allLeaf fz pl plL drawB allCW cwF okDrawB okPair Fq.ok dstOff wrOff notSlot noneIn apartR oldBoxes O.reads Kd.reads E.slot slots slotO slotsP List.getD pairIn nilL okRes clean cleanL resV resVs tupOf mkEnv partsBor doCallB inpB getArgs doCallO frzA frzV frzL minA minF cont ownAt at_ setAt rel dropS relC dropAll frzP frzAll firstBor borIn borC borS borE borH handTo mapSt mapE mapH mapB mapBL sw rt fb mvB mvRt seesP inRt isRoot rootOf boxOf seesB rootsL Am.rep ovw flatCells_ints allLeaf_ints flatCells el grp updE isNilB inpV inpL stB okL unA orcA bndB plL_ints fzL stBox inCells wrap0 wrap1 wrapm1 take_snoc
theorem idxf_loop (N : Nat) (Es : List Ed) (hE : Es.length < 4294967295) (L : List Int) (M : Nat) (hM : M < 18446744073709551616) (hv : ∀ e ∈ Es, (0 ≤ e.1 ∧ e.1 < 64) ∧ (0 ≤ e.2 ∧ e.2 < 64) ∧ M.testBit e.1.toNat = !M.testBit e.2.toNat) : ∀ (k i : Nat), i + k = Es.length → codeL cfgS 2 (.loop lSlicesIndexFuncApiEdgeApiEdgeX0) ⟨[(0, .list 2 (eds Es)), (1, .func (.func nBicliqueCheck1) [] [.ptr 1 0]), (7, .int .i64 Es.length), (8, .int .i64 i)], [b0 N Es L, some [.int .u64 M]]⟩ =
    some (.exit 0, ⟨[(0, .list 2 (eds Es)), (1, .func (.func nBicliqueCheck1) [] [.ptr 1 0]), (7, .int .i64 Es.length), (8, .int .i64 Es.length), (9, .bool false)], [b0 N Es L, some [.int .u64 M]]⟩)
  | 0, i, hi => by
    obtain rfl : i = Es.length := by omega
    exact loop_exit (by unfold lSlicesIndexFuncApiEdgeApiEdgeX0 b0; simp [rSlicesIndexFuncApiEdgeApiEdgeX0, rSlicesIndexFuncApiEdgeApiEdgeX1, rSlicesIndexFuncApiEdgeApiEdgeX2, rSlicesIndexFuncApiEdgeApiEdgeX3, rSlicesIndexFuncApiEdgeApiEdgeX4, rSlicesIndexFuncApiEdgeApiEdgeX5, rSlicesIndexFuncApiEdgeApiEdgeX6, rSlicesIndexFuncApiEdgeApiEdgeX7, blk, eds_length, eds_get, edsAt, edAV, allLeaf_eds, cleanL_eds, cleanL_ints, ints_length, ints_get, intsAt, endL, finB])
  | k + 1, i, hi => by
    have hlt : i < Es.length := by omega
    have h1 : (i : Int) < Es.length := by omega
    have hw := wrapS (i := i) (by omega)
    obtain ⟨e1, e2, e3⟩ := hv Es[i] (List.getElem_mem hlt)
    have hc := chk1_run N Es L M hM Es[i] e1 e2 e3
    have ih := idxf_loop N Es hE L M hM hv k (i + 1) (by omega)
    unfold b0 at hc ih ⊢
    exact (loop_next (by unfold lSlicesIndexFuncApiEdgeApiEdgeX0; simp [rSlicesIndexFuncApiEdgeApiEdgeX0, rSlicesIndexFuncApiEdgeApiEdgeX1, rSlicesIndexFuncApiEdgeApiEdgeX2, rSlicesIndexFuncApiEdgeApiEdgeX3, rSlicesIndexFuncApiEdgeApiEdgeX4, rSlicesIndexFuncApiEdgeApiEdgeX5, rSlicesIndexFuncApiEdgeApiEdgeX6, rSlicesIndexFuncApiEdgeApiEdgeX7, h1, hlt, hw, hc, idx, sBicliqueCheck1, iBicliqueCheck1, plp, plpL, allB, notBox, swC, seesC, inBox, hasOwnL, blk, eds_length, eds_get, edsAt, edAV, allLeaf_eds, cleanL_eds, cleanL_ints, ints_length, ints_get, intsAt, endL, finB])).trans ih
theorem idxf_run (N : Nat) (Es : List Ed) (hE : Es.length < 4294967295) (L : List Int) (M : Nat) (hM : M < 18446744073709551616) (hv : ∀ e ∈ Es, (0 ≤ e.1 ∧ e.1 < 64) ∧ (0 ≤ e.2 ∧ e.2 < 64) ∧ M.testBit e.1.toNat = !M.testBit e.2.toNat) : callL cfgS nSlicesIndexFuncApiEdgeApiEdge [.list 2 (eds Es), .func (.func nBicliqueCheck1) [] [.ptr 1 0]] [b0 N Es L, some [.int .u64 M]] = some (.int .i64 (-1), [b0 N Es L, some [.int .u64 M]]) := by
  rw [callL_end oSlicesIndexFuncApiEdgeApiEdge sSlicesIndexFuncApiEdgeApiEdge (Nat.le_of_ble_eq_true rfl)]
  have h := idxf_loop N Es hE L M hM hv Es.length 0 (by omega)
  rw [nat0] at h
  unfold b0 at h ⊢
  unfold qSlicesIndexFuncApiEdgeApiEdge cSlicesIndexFuncApiEdgeApiEdge
  simp [rSlicesIndexFuncApiEdgeApiEdgeX0, rSlicesIndexFuncApiEdgeApiEdgeX1, rSlicesIndexFuncApiEdgeApiEdgeX2, rSlicesIndexFuncApiEdgeApiEdgeX3, rSlicesIndexFuncApiEdgeApiEdgeX4, rSlicesIndexFuncApiEdgeApiEdgeX5, rSlicesIndexFuncApiEdgeApiEdgeX6, rSlicesIndexFuncApiEdgeApiEdgeX7, h, finS, plp, swS, blk, eds_length, eds_get, edsAt, edAV, allLeaf_eds, cleanL_eds, cleanL_ints, ints_length, ints_get, intsAt, endL, finB]
theorem conf_run (N : Nat) (Es : List Ed) (hE : Es.length < 4294967295) (L : List Int) (M : Nat) (hM : M < 18446744073709551616) (hv : ∀ e ∈ Es, (0 ≤ e.1 ∧ e.1 < 64) ∧ (0 ≤ e.2 ∧ e.2 < 64) ∧ M.testBit e.1.toNat = !M.testBit e.2.toNat) : callL cfgS nSlicesContainsFuncApiEdgeApiEdge [.list 2 (eds Es), .func (.func nBicliqueCheck1) [] [.ptr 1 0]] [b0 N Es L, some [.int .u64 M]] = some (.bool false, [b0 N Es L, some [.int .u64 M]]) := by
  rw [callL_end oSlicesContainsFuncApiEdgeApiEdge sSlicesContainsFuncApiEdgeApiEdge (Nat.le_of_ble_eq_true rfl)]
  have h := idxf_run N Es hE L M hM hv
  unfold b0 at h ⊢
  unfold qSlicesContainsFuncApiEdgeApiEdge cSlicesContainsFuncApiEdgeApiEdge
  simp [rSlicesContainsFuncApiEdgeApiEdgeX0, rSlicesContainsFuncApiEdgeApiEdgeX1, h, sSlicesIndexFuncApiEdgeApiEdge, iSlicesIndexFuncApiEdgeApiEdge, plp, plpL, allB, notBox, swC, seesC, inBox, hasOwnL, finS, swS, blk, eds_length, eds_get, edsAt, edAV, allLeaf_eds, cleanL_eds, cleanL_ints, ints_length, ints_get, intsAt, endL, finB]
theorem bchk_run {N : Nat} {Es : List Ed} {L : List Int} (h : BOK N Es L) (hE : Es.length < 4294967295) (hL : L.length < 4294967295) : callL cfgS nBicliqueCheck [.agg [.int .i64 N, .list 2 (eds Es), .list 1 (ints L)]] [] = some (.int .i64 0, []) := by
  rw [callL_end oBicliqueCheck sBicliqueCheck (Nat.le_of_ble_eq_true rfl)]
  have hn := h.n
  have hb : ∀ v ∈ L, 0 ≤ v ∧ v < 64 := fun v hv => by have := h.l.2 v hv; omega
  have g1 := gchk_run N Es (by omega)
  rw [chkG_zero.2 (show GOK N Es from ⟨⟨by omega, by omega⟩, h.e.1, h.e.2⟩)] at g1
  have g2 := nvalid_run N L (by omega)
  have v1 : valGo N (-1) L = true := (valGo_iff N).2 ⟨h.l.1, fun x hx => by have := h.l.2 x hx; omega⟩
  rw [v1] at g2
  have g3 := mask_run L hL hb
  have hM := msk_lt fun v hv => (hb v hv).2
  have g4 := conf_run N Es hE L (msk L) hM fun e he => by
    have := h.e.2 e he
    refine ⟨by omega, by omega, ?_⟩
    have hs := h.s e he
    rw [msk_bit (fun v hv => (hb v hv).1), msk_bit (fun v hv => (hb v hv).1), show ((e.1.toNat : Nat) : Int) = e.1 by omega, show ((e.2.toNat : Nat) : Int) = e.2 by omega, Bool.eq_iff_iff]
    simpa using hs
  unfold b0 at g4
  unfold qBicliqueCheck cBicliqueCheck
  simp [rBicliqueCheckX0, rBicliqueCheckX1, rBicliqueCheckX2, rBicliqueCheckX3, rBicliqueCheckX4, rBicliqueCheckX5, rBicliqueCheckX6, rBicliqueCheckX7, rBicliqueCheckX8, rBicliqueCheckX9, g1, g2, g3, g4, sGraphCheck, iGraphCheck, sNodesetValid, iNodesetValid, sBicliqueMask, iBicliqueMask, sSlicesContainsFuncApiEdgeApiEdge, iSlicesContainsFuncApiEdgeApiEdge, plp, plpL, allB, notBox, swC, seesC, inBox, hasOwnL, blk, eds_length, eds_get, edsAt, edAV, allLeaf_eds, cleanL_eds, cleanL_ints, ints_length, ints_get, intsAt, endL, finB]
end
end Go.BmP
