/- The law BicliqueCloses over the machine by value. -/
import Derived.Test.YtikffbngaolphaaDoorK10
import Derived.Test.YtikffbngaolphaaDoorK09
set_option linter.unusedSimpArgs false
set_option linter.unusedVariables false
set_option maxRecDepth 100000
set_option maxHeartbeats 8000000
namespace Go.BmP
open Go.Am Go.Bm
theorem awake27 : callL cfgS nLaw27Awake [] [] = some (.bool true, []) := callL_iff.2 ⟨3000, by kernel_rfl⟩
section
attribute [local simp] codeL_seq codeL_reg codeL_blk codeL_skip codeL_ret codeL_exit codeL_cnd condL_b thenL_n thenL_e thenL_r blkL_n blkL_e blkL_r regL_s opsB stepB opB opP opnd opnds lend lendC get_nil' get_cons' put_nil' put_cons' mem_nil' mem_cons' putdB putB slowP hasOwn hasOwnL finO relab anyB anyE anyH anyR borOf borL inSlot HAND endR hasOwnE endK keepIn trim noPtr noPtrL noPtrE noPtrH binA arith unA eqB isNilB eqc lenB bndB bnd rdN rdc AV.cells fillB peek ldOK AV.leaf allLeaf fz pl plL drawB allCW cwF okDrawB okPair Fq.ok dstOff wrOff notSlot noneIn apartR oldBoxes O.reads Kd.reads E.slot slots slotO slotsP List.getD pairIn nilL okRes clean cleanL resV resVs tupOf mkEnv partsBor doCallB inpB getArgs doCallO frzA frzV frzL minA minF cont ownAt at_ setAt rel dropS relC dropAll frzP frzAll firstBor borIn borC borS borE borH handTo mapSt mapE mapH mapB mapBL sw rt fb mvB mvRt seesP inRt isRoot rootOf boxOf seesB rootsL Am.rep ovw flatCells_ints allLeaf_ints flatCells el grp updE isNilB inpV inpL stB okL unA orcA bndB plL_ints fzL stBox inCells wrap0 wrap1 wrapm1 take_snoc
theorem same27_run (a1 a2 b1 b2 : List Int) (h1 : a1.length < 4294967295) (h2 : a2.length < 4294967295) (h3 : b1.length < 4294967295) (h4 : b2.length < 4294967295) : callL cfgS nRef27Same [.agg [.list 1 (ints a1), .list 1 (ints a2)], .agg [.list 1 (ints b1), .list 1 (ints b2)]] [] = some (.bool (decide (a1 = b1 ∧ a2 = b2)), []) := by
  rw [callL_end oRef27Same sRef27Same (Nat.le_of_ble_eq_true rfl)]
  have c1 := cmp_run a1 b1 h1 h3
  have c2 := cmp_run a2 b2 h2 h4
  have e1 : cmpL a1 b1 = 0 ↔ a1 = b1 := cmpL_zero
  have e2 : cmpL a2 b2 = 0 ↔ a2 = b2 := cmpL_zero
  unfold qRef27Same cRef27Same
  by_cases k1 : cmpL a1 b1 = 0
  · by_cases k2 : cmpL a2 b2 = 0
    · have d : decide (a1 = b1 ∧ a2 = b2) = true := by simp [e1.1 k1, e2.1 k2]
      rw [d]
      simp [rRef27SameX0, rRef27SameX1, c1, c2, k1, k2, sRef02Cmp, iRef02Cmp, blk, eds_length, eds_get, edsAt, edAV, allLeaf_eds, cleanL_eds, cleanL_ints, ints_length, ints_get, intsAt, endL, finB]
    · have d : decide (a1 = b1 ∧ a2 = b2) = false := by simp; intro _ h; exact k2 (e2.2 h)
      rw [d]
      simp [rRef27SameX0, rRef27SameX1, c1, c2, k1, k2, sRef02Cmp, iRef02Cmp, blk, eds_length, eds_get, edsAt, edAV, allLeaf_eds, cleanL_eds, cleanL_ints, ints_length, ints_get, intsAt, endL, finB]
  · have d : decide (a1 = b1 ∧ a2 = b2) = false := by simp; intro h; exact absurd (e1.2 h) k1
    rw [d]
    simp [rRef27SameX0, rRef27SameX1, c1, c2, k1, sRef02Cmp, iRef02Cmp, blk, eds_length, eds_get, edsAt, edAV, allLeaf_eds, cleanL_eds, cleanL_ints, ints_length, ints_get, intsAt, endL, finB]
end
theorem rest_b (N : Nat) (Es : List Ed) (L : List Int) : Rest [b0 N Es L] := ⟨fun _ => rfl, rfl, fun _ _ => rfl, fun _ => rfl, fun _ _ => rfl⟩
def clH (l : List Int) (a N : Nat) (Es : List Ed) (L x1 x2 y1 y2 z1 z2 : List Int) : Heap := [dk l a, b0 N Es L, some [.list 1 (ints x1), .list 1 (ints x2)], some [.list 1 (ints y1), .list 1 (ints y2)], some [.list 1 (ints z1), .list 1 (ints z2)]]
theorem fnd_loop (H : Heap) (N : Nat) (Es : List Ed) (L : List Int) (hB : BOK N Es L) (hE : Es.length < 4294967295) (l : List Int) (a : Nat) (x1 x2 y1 y2 z1 z2 s : List Int) (h1 : x1.length ≤ 64) (h2 : x2.length ≤ 64) (u : Int) (hj : ∀ r ∈ x2, nrmE u r ∈ Es) (hH : H = clH l a N Es L x1 x2 y1 y2 z1 z2) (i : Int) : ∀ (k j : Nat), j + k = x2.length → codeL cfgS 0 (.loop lLaw27BicliqueClosesX0) ⟨[(4, .ptr 1 0), (5, .list 1 (ints s)), (7, .ptr 2 0), (8, .int .i64 0), (9, .ptr 3 0), (10, .int .i64 0), (11, .ptr 4 0), (12, .int .i64 0), (14, .int .i64 u), (57, .list 1 (ints x1)), (58, .int .i64 x1.length), (59, .int .i64 i), (64, .list 1 (ints x2)), (65, .int .i64 x2.length), (66, .int .i64 j)], H⟩ =
    some (.exit 2, ⟨[(4, .ptr 1 0), (5, .list 1 (ints s)), (7, .ptr 2 0), (8, .int .i64 0), (9, .ptr 3 0), (10, .int .i64 0), (11, .ptr 4 0), (12, .int .i64 0), (14, .int .i64 u), (57, .list 1 (ints x1)), (58, .int .i64 x1.length), (59, .int .i64 i), (64, .list 1 (ints x2)), (65, .int .i64 x2.length), (66, .int .i64 x2.length), (67, .bool false)], H⟩)
  | 0, j, hi => by
    subst hH
    obtain rfl : j = x2.length := by omega
    exact loop_exit (by unfold lLaw27BicliqueClosesX0 clH dk b0; simp [rLaw27BicliqueClosesX0, rLaw27BicliqueClosesX1, rLaw27BicliqueClosesX2, rLaw27BicliqueClosesX3, rLaw27BicliqueClosesX4, rLaw27BicliqueClosesX5, rLaw27BicliqueClosesX6, rLaw27BicliqueClosesX7, rLaw27BicliqueClosesX8, rLaw27BicliqueClosesX9, rLaw27BicliqueClosesX10, rLaw27BicliqueClosesX11, rLaw27BicliqueClosesX12, rLaw27BicliqueClosesX13, rLaw27BicliqueClosesX14, rLaw27BicliqueClosesX15, rLaw27BicliqueClosesX16, rLaw27BicliqueClosesX17, rLaw27BicliqueClosesX18, rLaw27BicliqueClosesX19, rLaw27BicliqueClosesX20, blk, eds_length, eds_get, edsAt, edAV, allLeaf_eds, cleanL_eds, cleanL_ints, ints_length, ints_get, intsAt, endL, finB, codeL_seq, codeL_reg, codeL_blk, codeL_skip, codeL_ret, codeL_exit, codeL_cnd, condL_b, thenL_n, thenL_e, thenL_r, blkL_n, blkL_e, blkL_r, regL_s, opsB, stepB, opB, opP, opnd, opnds, lend, lendC, get_nil', get_cons', put_nil', put_cons', mem_nil', mem_cons', putdB, putB, slowP, hasOwn, hasOwnL, finO, relab, anyB, anyE, anyH, anyR, borOf, borL, inSlot, HAND, endR, hasOwnE, endK, keepIn, trim, noPtr, noPtrL, noPtrE, noPtrH, binA, arith, unA, eqB, isNilB, eqc, lenB, bndB, bnd, rdN, rdc, AV.cells, fillB, peek, ldOK, AV.leaf, allLeaf, fz, pl, plL, drawB, allCW, cwF, okDrawB, okPair, Fq.ok, dstOff, wrOff, notSlot, noneIn, apartR, oldBoxes, O.reads, Kd.reads, E.slot, slots, slotO, slotsP, List.getD, pairIn, nilL, okRes, clean, cleanL, resV, resVs, tupOf, mkEnv, partsBor, doCallB, inpB, getArgs, doCallO, frzA, frzV, frzL, minA, minF, cont, ownAt, at_, setAt, rel, dropS, relC, dropAll, frzP, frzAll, firstBor, borIn, borC, borS, borE, borH, handTo, mapSt, mapE, mapH, mapB, mapBL, sw, rt, fb, mvB, mvRt, seesP, inRt, isRoot, rootOf, boxOf, seesB, rootsL, Am.rep, ovw, flatCells_ints, allLeaf_ints, flatCells, el, grp, updE, isNilB, inpV, inpL, stB, okL, unA, orcA, bndB, plL_ints, fzL, stBox, inCells, wrap0, wrap1, wrapm1, take_snoc])
  | k + 1, j, hi => by
    have ih := fnd_loop H N Es L hB hE l a x1 x2 y1 y2 z1 z2 s h1 h2 u hj hH i k (j + 1) (by omega)
    subst hH
    have hlt : j < x2.length := by omega
    have k1 : (j : Int) < x2.length := by omega
    have hw := wrapS (i := j) (by omega)
    have hf := find_run N Es (by omega) ⟨⟨by omega, by have := hB.n; omega⟩, hB.e.1, hB.e.2⟩ u x2[j]
    have hm := hj _ (List.getElem_mem hlt)
    rw [if_pos hm] at hf
    have hn : ¬ ((Es.idxOf (nrmE u x2[j]) : Nat) : Int) < 0 := by omega
    generalize ((Es.idxOf (nrmE u x2[j]) : Nat) : Int) = F at hf hn
    exact (loop_next (by unfold lLaw27BicliqueClosesX0 clH dk b0; simp [rLaw27BicliqueClosesX0, rLaw27BicliqueClosesX1, rLaw27BicliqueClosesX2, rLaw27BicliqueClosesX3, rLaw27BicliqueClosesX4, rLaw27BicliqueClosesX5, rLaw27BicliqueClosesX6, rLaw27BicliqueClosesX7, rLaw27BicliqueClosesX8, rLaw27BicliqueClosesX9, rLaw27BicliqueClosesX10, rLaw27BicliqueClosesX11, rLaw27BicliqueClosesX12, rLaw27BicliqueClosesX13, rLaw27BicliqueClosesX14, rLaw27BicliqueClosesX15, rLaw27BicliqueClosesX16, rLaw27BicliqueClosesX17, rLaw27BicliqueClosesX18, rLaw27BicliqueClosesX19, rLaw27BicliqueClosesX20, k1, hlt, hw, hf, hn, idx, sRef03Find, iRef03Find, blk, eds_length, eds_get, edsAt, edAV, allLeaf_eds, cleanL_eds, cleanL_ints, ints_length, ints_get, intsAt, endL, finB, codeL_seq, codeL_reg, codeL_blk, codeL_skip, codeL_ret, codeL_exit, codeL_cnd, condL_b, thenL_n, thenL_e, thenL_r, blkL_n, blkL_e, blkL_r, regL_s, opsB, stepB, opB, opP, opnd, opnds, lend, lendC, get_nil', get_cons', put_nil', put_cons', mem_nil', mem_cons', putdB, putB, slowP, hasOwn, hasOwnL, finO, relab, anyB, anyE, anyH, anyR, borOf, borL, inSlot, HAND, endR, hasOwnE, endK, keepIn, trim, noPtr, noPtrL, noPtrE, noPtrH, binA, arith, unA, eqB, isNilB, eqc, lenB, bndB, bnd, rdN, rdc, AV.cells, fillB, peek, ldOK, AV.leaf, allLeaf, fz, pl, plL, drawB, allCW, cwF, okDrawB, okPair, Fq.ok, dstOff, wrOff, notSlot, noneIn, apartR, oldBoxes, O.reads, Kd.reads, E.slot, slots, slotO, slotsP, List.getD, pairIn, nilL, okRes, clean, cleanL, resV, resVs, tupOf, mkEnv, partsBor, doCallB, inpB, getArgs, doCallO, frzA, frzV, frzL, minA, minF, cont, ownAt, at_, setAt, rel, dropS, relC, dropAll, frzP, frzAll, firstBor, borIn, borC, borS, borE, borH, handTo, mapSt, mapE, mapH, mapB, mapBL, sw, rt, fb, mvB, mvRt, seesP, inRt, isRoot, rootOf, boxOf, seesB, rootsL, Am.rep, ovw, flatCells_ints, allLeaf_ints, flatCells, el, grp, updE, isNilB, inpV, inpL, stB, okL, unA, orcA, bndB, plL_ints, fzL, stBox, inCells, wrap0, wrap1, wrapm1, take_snoc])).trans ih
theorem fnd_out (H : Heap) (N : Nat) (Es : List Ed) (L : List Int) (hB : BOK N Es L) (hE : Es.length < 4294967295) (l : List Int) (a : Nat) (x1 x2 y1 y2 z1 z2 s : List Int) (h1 : x1.length ≤ 64) (h2 : x2.length ≤ 64) (hj : ∀ u ∈ x1, ∀ r ∈ x2, nrmE u r ∈ Es) (hH : H = clH l a N Es L x1 x2 y1 y2 z1 z2) : ∀ (k j : Nat), j + k = x1.length → codeL cfgS 0 (.loop lLaw27BicliqueClosesX1) ⟨[(4, .ptr 1 0), (5, .list 1 (ints s)), (7, .ptr 2 0), (8, .int .i64 0), (9, .ptr 3 0), (10, .int .i64 0), (11, .ptr 4 0), (12, .int .i64 0), (57, .list 1 (ints x1)), (58, .int .i64 x1.length), (59, .int .i64 j)], H⟩ =
    some (.exit 0, ⟨[(4, .ptr 1 0), (5, .list 1 (ints s)), (7, .ptr 2 0), (8, .int .i64 0), (9, .ptr 3 0), (10, .int .i64 0), (11, .ptr 4 0), (12, .int .i64 0), (57, .list 1 (ints x1)), (58, .int .i64 x1.length), (59, .int .i64 x1.length), (60, .bool false)], H⟩)
  | 0, j, hi => by
    subst hH
    obtain rfl : j = x1.length := by omega
    exact loop_exit (by unfold lLaw27BicliqueClosesX1 clH dk b0; simp [rLaw27BicliqueClosesX0, rLaw27BicliqueClosesX1, rLaw27BicliqueClosesX2, rLaw27BicliqueClosesX3, rLaw27BicliqueClosesX4, rLaw27BicliqueClosesX5, rLaw27BicliqueClosesX6, rLaw27BicliqueClosesX7, rLaw27BicliqueClosesX8, rLaw27BicliqueClosesX9, rLaw27BicliqueClosesX10, rLaw27BicliqueClosesX11, rLaw27BicliqueClosesX12, rLaw27BicliqueClosesX13, rLaw27BicliqueClosesX14, rLaw27BicliqueClosesX15, rLaw27BicliqueClosesX16, rLaw27BicliqueClosesX17, rLaw27BicliqueClosesX18, rLaw27BicliqueClosesX19, rLaw27BicliqueClosesX20, blk, eds_length, eds_get, edsAt, edAV, allLeaf_eds, cleanL_eds, cleanL_ints, ints_length, ints_get, intsAt, endL, finB, codeL_seq, codeL_reg, codeL_blk, codeL_skip, codeL_ret, codeL_exit, codeL_cnd, condL_b, thenL_n, thenL_e, thenL_r, blkL_n, blkL_e, blkL_r, regL_s, opsB, stepB, opB, opP, opnd, opnds, lend, lendC, get_nil', get_cons', put_nil', put_cons', mem_nil', mem_cons', putdB, putB, slowP, hasOwn, hasOwnL, finO, relab, anyB, anyE, anyH, anyR, borOf, borL, inSlot, HAND, endR, hasOwnE, endK, keepIn, trim, noPtr, noPtrL, noPtrE, noPtrH, binA, arith, unA, eqB, isNilB, eqc, lenB, bndB, bnd, rdN, rdc, AV.cells, fillB, peek, ldOK, AV.leaf, allLeaf, fz, pl, plL, drawB, allCW, cwF, okDrawB, okPair, Fq.ok, dstOff, wrOff, notSlot, noneIn, apartR, oldBoxes, O.reads, Kd.reads, E.slot, slots, slotO, slotsP, List.getD, pairIn, nilL, okRes, clean, cleanL, resV, resVs, tupOf, mkEnv, partsBor, doCallB, inpB, getArgs, doCallO, frzA, frzV, frzL, minA, minF, cont, ownAt, at_, setAt, rel, dropS, relC, dropAll, frzP, frzAll, firstBor, borIn, borC, borS, borE, borH, handTo, mapSt, mapE, mapH, mapB, mapBL, sw, rt, fb, mvB, mvRt, seesP, inRt, isRoot, rootOf, boxOf, seesB, rootsL, Am.rep, ovw, flatCells_ints, allLeaf_ints, flatCells, el, grp, updE, isNilB, inpV, inpL, stB, okL, unA, orcA, bndB, plL_ints, fzL, stBox, inCells, wrap0, wrap1, wrapm1, take_snoc])
  | k + 1, j, hi => by
    have ih := fnd_out H N Es L hB hE l a x1 x2 y1 y2 z1 z2 s h1 h2 hj hH k (j + 1) (by omega)
    have hlt : j < x1.length := by omega
    have k1 : (j : Int) < x1.length := by omega
    have hw := wrapS (i := j) (by omega)
    have hf := fnd_loop H N Es L hB hE l a x1 x2 y1 y2 z1 z2 s h1 h2 x1[j] (hj _ (List.getElem_mem hlt)) hH j x2.length 0 (by omega)
    rw [nat0] at hf
    subst hH
    unfold clH dk b0 at *
    exact (loop_next (by unfold lLaw27BicliqueClosesX1; simp [rLaw27BicliqueClosesX0, rLaw27BicliqueClosesX1, rLaw27BicliqueClosesX2, rLaw27BicliqueClosesX3, rLaw27BicliqueClosesX4, rLaw27BicliqueClosesX5, rLaw27BicliqueClosesX6, rLaw27BicliqueClosesX7, rLaw27BicliqueClosesX8, rLaw27BicliqueClosesX9, rLaw27BicliqueClosesX10, rLaw27BicliqueClosesX11, rLaw27BicliqueClosesX12, rLaw27BicliqueClosesX13, rLaw27BicliqueClosesX14, rLaw27BicliqueClosesX15, rLaw27BicliqueClosesX16, rLaw27BicliqueClosesX17, rLaw27BicliqueClosesX18, rLaw27BicliqueClosesX19, rLaw27BicliqueClosesX20, k1, hlt, hw, hf, idx, blk, eds_length, eds_get, edsAt, edAV, allLeaf_eds, cleanL_eds, cleanL_ints, ints_length, ints_get, intsAt, endL, finB, codeL_seq, codeL_reg, codeL_blk, codeL_skip, codeL_ret, codeL_exit, codeL_cnd, condL_b, thenL_n, thenL_e, thenL_r, blkL_n, blkL_e, blkL_r, regL_s, opsB, stepB, opB, opP, opnd, opnds, lend, lendC, get_nil', get_cons', put_nil', put_cons', mem_nil', mem_cons', putdB, putB, slowP, hasOwn, hasOwnL, finO, relab, anyB, anyE, anyH, anyR, borOf, borL, inSlot, HAND, endR, hasOwnE, endK, keepIn, trim, noPtr, noPtrL, noPtrE, noPtrH, binA, arith, unA, eqB, isNilB, eqc, lenB, bndB, bnd, rdN, rdc, AV.cells, fillB, peek, ldOK, AV.leaf, allLeaf, fz, pl, plL, drawB, allCW, cwF, okDrawB, okPair, Fq.ok, dstOff, wrOff, notSlot, noneIn, apartR, oldBoxes, O.reads, Kd.reads, E.slot, slots, slotO, slotsP, List.getD, pairIn, nilL, okRes, clean, cleanL, resV, resVs, tupOf, mkEnv, partsBor, doCallB, inpB, getArgs, doCallO, frzA, frzV, frzL, minA, minF, cont, ownAt, at_, setAt, rel, dropS, relC, dropAll, frzP, frzAll, firstBor, borIn, borC, borS, borE, borH, handTo, mapSt, mapE, mapH, mapB, mapBL, sw, rt, fb, mvB, mvRt, seesP, inRt, isRoot, rootOf, boxOf, seesB, rootsL, Am.rep, ovw, flatCells_ints, allLeaf_ints, flatCells, el, grp, updE, isNilB, inpV, inpL, stB, okL, unA, orcA, bndB, plL_ints, fzL, stBox, inCells, wrap0, wrap1, wrapm1, take_snoc])).trans ih
theorem clR_up (N : Nat) (Es : List Ed) (L S : List Int) : Up (clR N Es L S) := bitL_up _
theorem clL_up (N : Nat) (Es : List Ed) (L S : List Int) : Up (clL N Es L S) := bitL_up _
theorem cl_sub {N : Nat} {Es : List Ed} {L S : List Int} (h : BOK N Es L) (hu : Up S) (hS : ∀ x ∈ S, x ∈ L) : ∀ x ∈ S, x ∈ clL N Es L S := fun x hx => (clL_mem h x).2 ⟨hS x hx, fun r hr => by
  have := ((clR_mem h hu hS r).1 hr).2.2 x hx
  unfold jn at *
  exact this.symm⟩
theorem clR_anti {N : Nat} {Es : List Ed} {L S T : List Int} (h : BOK N Es L) (hu : Up S) (hS : ∀ x ∈ S, x ∈ L) (hv : Up T) (hT : ∀ x ∈ T, x ∈ L) (hST : ∀ x ∈ S, x ∈ T) : ∀ x ∈ clR N Es L T, x ∈ clR N Es L S := fun x hx => by
  obtain ⟨k1, k2, k3⟩ := (clR_mem h hv hT x).1 hx
  exact (clR_mem h hu hS x).2 ⟨k1, k2, fun s hs => k3 s (hST s hs)⟩
theorem clL_L {N : Nat} {Es : List Ed} {L S : List Int} (h : BOK N Es L) : ∀ x ∈ clL N Es L S, x ∈ L := fun x hx => ((clL_mem h x).1 hx).1
theorem clR_idem {N : Nat} {Es : List Ed} {L S : List Int} (h : BOK N Es L) (hu : Up S) (hS : ∀ x ∈ S, x ∈ L) : clR N Es L (clL N Es L S) = clR N Es L S := by
  refine up_ext (clR_up _ _ _ _) (clR_up _ _ _ _) fun x => ⟨clR_anti h hu hS (clL_up _ _ _ _) (clL_L h) (cl_sub h hu hS) x, fun hx => ?_⟩
  obtain ⟨k1, k2, k3⟩ := (clR_mem h hu hS x).1 hx
  exact (clR_mem h (clL_up _ _ _ _) (clL_L h) x).2 ⟨k1, k2, fun s hs => by
    have := ((clL_mem h s).1 hs).2 x hx
    unfold jn at *
    exact this.symm⟩
theorem clL_idem {N : Nat} {Es : List Ed} {L S : List Int} (h : BOK N Es L) (hu : Up S) (hS : ∀ x ∈ S, x ∈ L) : clL N Es L (clL N Es L S) = clL N Es L S := by
  refine up_ext (clL_up _ _ _ _) (clL_up _ _ _ _) fun x => ?_
  rw [clL_mem h, clL_mem h, clR_idem h hu hS]
theorem clL_mono {N : Nat} {Es : List Ed} {L S T : List Int} (h : BOK N Es L) (hu : Up S) (hS : ∀ x ∈ S, x ∈ L) (hv : Up T) (hT : ∀ x ∈ T, x ∈ L) (hST : ∀ x ∈ S, x ∈ T) : ∀ x ∈ clL N Es L S, x ∈ clL N Es L T := fun x hx => by
  obtain ⟨k1, k2⟩ := (clL_mem h x).1 hx
  exact (clL_mem h x).2 ⟨k1, fun r hr => k2 r (clR_anti h hu hS hv hT hST r hr)⟩
theorem avLE_ints (l : List Int) : avLE (ints l) (ints l) = true := by
  induction l with
  | nil => rfl
  | cons x r ih => simp only [ints] at ih; simp [ints, avLE, avE, ih]
theorem avLE_eds (l : List Ed) : avLE (eds l) (eds l) = true := by
  induction l with
  | nil => rfl
  | cons x r ih => simp only [eds] at ih; simp [eds, edAV, avLE, avE, ih]
theorem closes_law (l : List Int) : callL cfgS nLaw27BicliqueCloses [.list 1 (ints l)] [] = some (.bool true, []) := by
  rw [callL_end oLaw27BicliqueCloses sLaw27BicliqueCloses (Nat.le_of_ble_eq_true rfl)]
  have aw := awake27
  have few := few_run l
  by_cases hl : (l.length : Int) ≤ 500
  case neg =>
    unfold qLaw27BicliqueCloses cLaw27BicliqueCloses
    simp [rLaw27BicliqueClosesX0, rLaw27BicliqueClosesX1, rLaw27BicliqueClosesX2, rLaw27BicliqueClosesX3, rLaw27BicliqueClosesX4, rLaw27BicliqueClosesX5, rLaw27BicliqueClosesX6, rLaw27BicliqueClosesX7, rLaw27BicliqueClosesX8, rLaw27BicliqueClosesX9, rLaw27BicliqueClosesX10, rLaw27BicliqueClosesX11, rLaw27BicliqueClosesX12, rLaw27BicliqueClosesX13, rLaw27BicliqueClosesX14, rLaw27BicliqueClosesX15, rLaw27BicliqueClosesX16, rLaw27BicliqueClosesX17, rLaw27BicliqueClosesX18, rLaw27BicliqueClosesX19, rLaw27BicliqueClosesX20, few, hl, aw, sMakeFew, iMakeFew, sLaw27Awake, iLaw27Awake, blk, eds_length, eds_get, edsAt, edAV, allLeaf_eds, cleanL_eds, cleanL_ints, ints_length, ints_get, intsAt, endL, finB, codeL_seq, codeL_reg, codeL_blk, codeL_skip, codeL_ret, codeL_exit, codeL_cnd, condL_b, thenL_n, thenL_e, thenL_r, blkL_n, blkL_e, blkL_r, regL_s, opsB, stepB, opB, opP, opnd, opnds, lend, lendC, get_nil', get_cons', put_nil', put_cons', mem_nil', mem_cons', putdB, putB, slowP, hasOwn, hasOwnL, finO, relab, anyB, anyE, anyH, anyR, borOf, borL, inSlot, HAND, endR, hasOwnE, endK, keepIn, trim, noPtr, noPtrL, noPtrE, noPtrH, binA, arith, unA, eqB, isNilB, eqc, lenB, bndB, bnd, rdN, rdc, AV.cells, fillB, peek, ldOK, AV.leaf, allLeaf, fz, pl, plL, drawB, allCW, cwF, okDrawB, okPair, Fq.ok, dstOff, wrOff, notSlot, noneIn, apartR, oldBoxes, O.reads, Kd.reads, E.slot, slots, slotO, slotsP, List.getD, pairIn, nilL, okRes, clean, cleanL, resV, resVs, tupOf, mkEnv, partsBor, doCallB, inpB, getArgs, doCallO, frzA, frzV, frzL, minA, minF, cont, ownAt, at_, setAt, rel, dropS, relC, dropAll, frzP, frzAll, firstBor, borIn, borC, borS, borE, borH, handTo, mapSt, mapE, mapH, mapB, mapBL, sw, rt, fb, mvB, mvRt, seesP, inRt, isRoot, rootOf, boxOf, seesB, rootsL, Am.rep, ovw, flatCells_ints, allLeaf_ints, flatCells, el, grp, updE, isNilB, inpV, inpL, stB, okL, unA, orcA, bndB, plL_ints, fzL, stBox, inCells, wrap0, wrap1, wrapm1, take_snoc]
  have hl5 : l.length ≤ 500 := by omega
  have n1 := new_run l
  obtain ⟨N, Es, L, a1, n2, hB, hN, hEl, hLl⟩ := sided_run l hl5 9 (by omega) 0
  obtain ⟨S1, a2, n3, s1l, s1u, s1b⟩ := set_run l hl5 9 (by omega) [b0 N Es L] (rest_b N Es L) a1
  obtain ⟨S2, a3, n4, s2l, s2u, s2b⟩ := set_run l hl5 9 (by omega) [b0 N Es L] (rest_b N Es L) a2
  have m1 := meet_run S1 L (by omega) (by omega)
  have m2 := meet_run S2 L (by omega) (by omega)
  have lm1 := meet_len S1 L
  have lm2 := meet_len S2 L
  have un := union_run (meet S1 L) (meet S2 L) (by omega)
  have lun := uni_len (meet S1 L) (meet S2 L)
  have sU : Up (meet S1 L) := (meet_spec _ _).1
  have sL : ∀ x ∈ meet S1 L, x ∈ L := fun x hx => ((meet_spec _ _).2 x |>.1 hx).2
  have tU : Up (uni (meet S1 L) (meet S2 L)) := (uni_spec _ _).1
  have tL : ∀ x ∈ uni (meet S1 L) (meet S2 L), x ∈ L := fun x hx => by
    rcases (uni_spec _ _).2 x |>.1 hx with k | k
    · exact sL x k
    · exact ((meet_spec _ _).2 x |>.1 k).2
  have sT : ∀ x ∈ meet S1 L, x ∈ uni (meet S1 L) (meet S2 L) := fun x hx => (uni_spec _ _).2 x |>.2 (.inl hx)
  generalize hs : meet S1 L = s at *
  generalize uni s (meet S2 L) = t at *
  generalize meet S2 L = s2 at *
  have c1 := close_run hB (by omega) (by omega) sU sL (by omega) (by omega)
  have bl : ∀ S, (clL N Es L S).length ≤ 64 := fun S => bitL_len _
  have br : ∀ S, (clR N Es L S).length ≤ 64 := fun S => bitL_len _
  have c2 := close_run hB (by omega) (by omega) (clL_up N Es L s) (clL_L hB) (by have := bl s; omega) (by have := bl s; omega)
  have c3 := close_run hB (by omega) (by omega) tU tL (by omega) (by omega)
  rw [clL_idem hB sU sL, clR_idem hB sU sL] at c2
  have w1 := within_run s (clL N Es L s) (by omega) (by have := bl s; omega)
  have w2 := within_run (clL N Es L s) (clL N Es L t) (by have := bl s; omega) (by have := bl t; omega)
  have w3 := within_run (clR N Es L t) (clR N Es L s) (by have := br t; omega) (by have := br s; omega)
  have d1 : (s.all fun x => decide (x ∈ clL N Es L s)) = true := by rw [List.all_eq_true]; exact fun x hx => decide_eq_true (cl_sub hB sU sL x hx)
  have d2 : ((clL N Es L s).all fun x => decide (x ∈ clL N Es L t)) = true := by rw [List.all_eq_true]; exact fun x hx => decide_eq_true (clL_mono hB sU sL tU tL sT x hx)
  have d3 : ((clR N Es L t).all fun x => decide (x ∈ clR N Es L s)) = true := by rw [List.all_eq_true]; exact fun x hx => decide_eq_true (clR_anti hB sU sL tU tL sT x hx)
  rw [d1] at w1
  rw [d2] at w2
  rw [d3] at w3
  have sm := same27_run (clL N Es L s) (clR N Es L s) (clL N Es L s) (clR N Es L s) (by have := bl s; omega) (by have := br s; omega) (by have := bl s; omega) (by have := br s; omega)
  have lp := fnd_out _ N Es L hB (by omega) l a3 (clL N Es L s) (clR N Es L s) (clL N Es L s) (clR N Es L s) (clL N Es L t) (clR N Es L t) s (bl s) (br s) (fun u hu r hr => (jn_nrm hB u r).1 (by
    have := ((clL_mem hB u).1 hu).2 r hr
    unfold jn at *
    exact this.symm)) rfl (clL N Es L s).length 0 (by omega)
  rw [nat0] at lp
  clear d1 d2 d3 sT tL tU sL sU bl br lun lm1 lm2 s1l s1u s1b s2l s2u s2b hB hN
  generalize clL N Es L s = x1 at *
  generalize clR N Es L s = x2 at *
  generalize clL N Es L t = z1 at *
  generalize clR N Es L t = z2 at *
  simp only [and_self, decide_true] at sm
  unfold clH at lp
  unfold dk b0 at *
  simp only [nat0, show ((9 : Nat) : Int) = 9 from rfl] at n1 n2 n3 n4
  unfold qLaw27BicliqueCloses cLaw27BicliqueCloses
  simp [rLaw27BicliqueClosesX0, rLaw27BicliqueClosesX1, rLaw27BicliqueClosesX2, rLaw27BicliqueClosesX3, rLaw27BicliqueClosesX4, rLaw27BicliqueClosesX5, rLaw27BicliqueClosesX6, rLaw27BicliqueClosesX7, rLaw27BicliqueClosesX8, rLaw27BicliqueClosesX9, rLaw27BicliqueClosesX10, rLaw27BicliqueClosesX11, rLaw27BicliqueClosesX12, rLaw27BicliqueClosesX13, rLaw27BicliqueClosesX14, rLaw27BicliqueClosesX15, rLaw27BicliqueClosesX16, rLaw27BicliqueClosesX17, rLaw27BicliqueClosesX18, rLaw27BicliqueClosesX19, rLaw27BicliqueClosesX20, few, hl, n1, n2, n3, n4, m1, m2, un, c1, c2, c3, w1, w2, w3, sm, lp, aw, sMakeFew, iMakeFew, sMakeNew, iMakeNew, sFieldSided, iFieldSided, sMakeSet, iMakeSet, sRef02Meet, iRef02Meet, sRef02Union, iRef02Union, sBicliqueClose, iBicliqueClose, sRef02Within, iRef02Within, sRef27Same, iRef27Same, sLaw27Awake, iLaw27Awake, plp, plpL, allB, notBox, swC, swS, seesC, inBox, offSame, calmB, ptrs, ptrsL, blkE, avE, avLE, avLE_ints, avLE_eds, blk, eds_length, eds_get, edsAt, edAV, allLeaf_eds, cleanL_eds, cleanL_ints, ints_length, ints_get, intsAt, endL, finB, codeL_seq, codeL_reg, codeL_blk, codeL_skip, codeL_ret, codeL_exit, codeL_cnd, condL_b, thenL_n, thenL_e, thenL_r, blkL_n, blkL_e, blkL_r, regL_s, opsB, stepB, opB, opP, opnd, opnds, lend, lendC, get_nil', get_cons', put_nil', put_cons', mem_nil', mem_cons', putdB, putB, slowP, hasOwn, hasOwnL, finO, relab, anyB, anyE, anyH, anyR, borOf, borL, inSlot, HAND, endR, hasOwnE, endK, keepIn, trim, noPtr, noPtrL, noPtrE, noPtrH, binA, arith, unA, eqB, isNilB, eqc, lenB, bndB, bnd, rdN, rdc, AV.cells, fillB, peek, ldOK, AV.leaf, allLeaf, fz, pl, plL, drawB, allCW, cwF, okDrawB, okPair, Fq.ok, dstOff, wrOff, notSlot, noneIn, apartR, oldBoxes, O.reads, Kd.reads, E.slot, slots, slotO, slotsP, List.getD, pairIn, nilL, okRes, clean, cleanL, resV, resVs, tupOf, mkEnv, partsBor, doCallB, inpB, getArgs, doCallO, frzA, frzV, frzL, minA, minF, cont, ownAt, at_, setAt, rel, dropS, relC, dropAll, frzP, frzAll, firstBor, borIn, borC, borS, borE, borH, handTo, mapSt, mapE, mapH, mapB, mapBL, sw, rt, fb, mvB, mvRt, seesP, inRt, isRoot, rootOf, boxOf, seesB, rootsL, Am.rep, ovw, flatCells_ints, allLeaf_ints, flatCells, el, grp, updE, isNilB, inpV, inpL, stB, okL, unA, orcA, bndB, plL_ints, fzL, stBox, inCells, wrap0, wrap1, wrapm1, take_snoc]
end Go.BmP
