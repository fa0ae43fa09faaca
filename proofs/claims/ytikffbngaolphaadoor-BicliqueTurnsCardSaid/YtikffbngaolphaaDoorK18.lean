/- What biclique.All returns of a bipartite graph. -/
import Derived.Test.YtikffbngaolphaaDoorK17
set_option linter.unusedSimpArgs false
set_option linter.unusedVariables false
set_option maxRecDepth 100000
set_option maxHeartbeats 4000000
namespace Go.BmP
open Go.Am Go.Bm
def tkH (N : Nat) (Es : List Ed) (L : List Int) (most : Int) (o : List (List Int)) : Heap := [some [.int .i64 N, .list 2 (eds Es), .list 1 (ints L)], some [.int .i64 most], some [.own 2 (prs N Es L o)]]
section
attribute [local simp] codeL_seq codeL_reg codeL_blk codeL_skip codeL_ret codeL_exit codeL_cnd condL_b thenL_n thenL_e thenL_r blkL_n blkL_e blkL_r regL_s opsB stepB opB opP opnd opnds lend lendC get_nil' get_cons' put_nil' put_cons' mem_nil' mem_cons' putdB putB slowP hasOwn hasOwnL finO relab anyB anyE anyH anyR borOf borL inSlot HAND endR hasOwnE endK keepIn trim noPtr noPtrL noPtrE noPtrH binA arith unA eqB isNilB eqc lenB bndB bnd rdN rdc AV.cells fillB peek ldOK AV.leaf allLeaf fz pl plL drawB allCW cwF okDrawB okPair Fq.ok dstOff wrOff notSlot noneIn apartR oldBoxes O.reads Kd.reads E.slot slots slotO slotsP List.getD pairIn nilL okRes clean cleanL resV resVs tupOf mkEnv partsBor doCallB inpB getArgs doCallO frzA frzV frzL minA minF cont ownAt at_ setAt rel dropS relC dropAll frzP frzAll firstBor borIn borC borS borE borH handTo mapSt mapE mapH mapB mapBL sw rt fb mvB mvRt seesP inRt isRoot rootOf boxOf seesB rootsL Am.rep ovw flatCells_ints allLeaf_ints flatCells el grp updE isNilB inpV inpL stB okL unA orcA bndB plL_ints fzL stBox inCells wrap0 wrap1 wrapm1 take_snoc
theorem each_run {N : Nat} {Es : List Ed} {L : List Int} (h : BOK N Es L) {most : Int} (hm0 : 0 ≤ most) (hm4 : most ≤ 4096) {after : List Int} (ha : after.length < 9223372036854775808) : callL cfgS nBicliqueSidesEach [.agg (sdAV (adjE N Es) (msk L) (rgt N L)), .list 1 (ints after), .func (.func nBicliqueAll1) [] [.ptr 2 0, .ptr 1 0]] (tkH N Es L most []) = some (.tup [], tkH N Es L most (foldS (tkA most) ((allC N Es L).filter fun S => decide (cmpL S after = 1)) []).1) := by
  have hb := bOK_bd h (S := L) (fun _ k => k)
  have bl : bitL (msk L &&& (18446744073709551615 - bh [])) = L := cand_nil h.l.1 hb
  have ml : msk L < 18446744073709551616 := msk_lt fun v hv => (hb v hv).2
  have wl := walk_loop h (most := most) (after := after) ha hm4 L [] true [] (msk L &&& (18446744073709551615 - bh [])) (Nat.lt_of_le_of_lt Nat.and_le_left ml) bl (by simpa using h.l.1) (by simp) ⟨[], rfl⟩ (by simpa using hm0)
  have we := walkA_eq (cl := clL N Es L) (ne := nonE N Es L) (after := after) L [] true (fun _ => ⟨after, rfl⟩) (fun k => by cases k)
  have ea : walkE (clL N Es L) (nonE N Es L) L [] = allC N Es L := rfl
  rw [ea] at we
  have cc := call_of h [] (P := []) (by simp) (by simp) true _ wl
  rw [we] at cc
  generalize foldS (tkA most) ((allC N Es L).filter fun S => decide (cmpL S after = 1)) [] = R at *
  clear we wl
  rw [callL_end oBicliqueSidesEach sBicliqueSidesEach (Nat.le_of_ble_eq_true rfl)]
  have key : ∃ b P2, callL cfgS nBicliqueSidesEach1 (eA (cR N Es L []) true) (eH N Es L most after [] []) = some (.bool b, eH N Es L most after R.1 P2) := by
    by_cases k : R.2 = true
    · exact ⟨_, _, cc.1 k⟩
    · obtain ⟨P2, e⟩ := cc.2 (Bool.eq_false_iff.2 k)
      exact ⟨_, _, e⟩
  obtain ⟨b, P2, e⟩ := key
  clear cc bl
  rw [cR_nil] at e
  have pn : prs N Es L [] = [] := rfl
  unfold eA eH sdAV at e
  unfold tkH sdAV
  rw [pn, ints_nil] at e
  rw [pn]
  generalize prs N Es L R.1 = Y at *
  unfold qBicliqueSidesEach cBicliqueSidesEach
  simp [rBicliqueSidesEachX0, rBicliqueSidesEachX1, rBicliqueSidesEachX2, rBicliqueSidesEachX3, rBicliqueSidesEachX4, e, plp, plpL, allB, notBox, swC, seesC, inBox, finS, swS, mapH, mapBL, mapB, sBicliqueSidesEach1, iBicliqueSidesEach1, blk, eds_length, eds_get, edsAt, edAV, allLeaf_eds, cleanL_eds, cleanL_ints, ints_length, ints_get, intsAt, endL, finB]
end
theorem foldS_more {most : Int} : ∀ (l o : List (List Int)), (o.length : Int) ≤ most → most < (o.length : Int) + l.length → ((foldS (tkA most) l o).1.length : Int) = most + 1
  | [], o, h, k => by simp at k; omega
  | S :: l, o, h, k => by
    by_cases c : (o.length : Int) + 1 ≤ most
    · rw [foldA_t S l c]
      exact foldS_more l (o ++ [S]) (by simp; omega) (by simp at k ⊢; omega)
    · rw [foldA_f S l c]
      simp
      omega
theorem allC_after {N : Nat} {Es : List Ed} {L : List Int} (h : BOK N Es L) : ((allC N Es L).filter fun S => decide (cmpL S [] = 1)) = allC N Es L := by
  rw [List.filter_eq_self]
  intro S hS
  have := ((allC_mem h).1 hS).1.2.1
  cases S with
  | nil => exact absurd rfl this
  | cons x r => rfl
section
attribute [local simp] codeL_seq codeL_reg codeL_blk codeL_skip codeL_ret codeL_exit codeL_cnd condL_b thenL_n thenL_e thenL_r blkL_n blkL_e blkL_r regL_s opsB stepB opB opP opnd opnds lend lendC get_nil' get_cons' put_nil' put_cons' mem_nil' mem_cons' putdB putB slowP hasOwn hasOwnL finO relab anyB anyE anyH anyR borOf borL inSlot HAND endR hasOwnE endK keepIn trim noPtr noPtrL noPtrE noPtrH binA arith unA eqB isNilB eqc lenB bndB bnd rdN rdc AV.cells fillB peek ldOK AV.leaf allLeaf fz pl plL drawB allCW cwF okDrawB okPair Fq.ok dstOff wrOff notSlot noneIn apartR oldBoxes O.reads Kd.reads E.slot slots slotO slotsP List.getD pairIn nilL okRes clean cleanL resV resVs tupOf mkEnv partsBor doCallB inpB getArgs doCallO frzA frzV frzL minA minF cont ownAt at_ setAt rel dropS relC dropAll frzP frzAll firstBor borIn borC borS borE borH handTo mapSt mapE mapH mapB mapBL sw rt fb mvB mvRt seesP inRt isRoot rootOf boxOf seesB rootsL Am.rep ovw flatCells_ints allLeaf_ints flatCells el grp updE isNilB inpV inpL stB okL unA orcA bndB plL_ints fzL stBox inCells wrap0 wrap1 wrapm1 take_snoc
theorem all_run {N : Nat} {Es : List Ed} {L : List Int} (h : BOK N Es L) (hE : Es.length < 4294967295) (hL : L.length < 4294967295) (most : Int) : callL cfgS nBicliqueAll [.agg [.int .i64 N, .list 2 (eds Es), .list 1 (ints L)], .int .i64 most] [] = some (if most < 0 ∨ 4096 < most then .tup [.list 2 [], .int .i64 1] else if ((allC N Es L).length : Int) ≤ most then .tup [.list 2 (prs N Es L (allC N Es L)), .int .i64 0] else .tup [.list 2 [], .int .i64 3], []) := by
  have c1 := bchk_run h hE hL
  have c2 := bof_run h hE hL
  rw [callL_end oBicliqueAll sBicliqueAll (Nat.le_of_ble_eq_true rfl)]
  by_cases k1 : most < 0
  · have e : (if most < 0 ∨ 4096 < most then AV.tup [.list 2 [], .int .i64 1] else if ((allC N Es L).length : Int) ≤ most then AV.tup [.list 2 (prs N Es L (allC N Es L)), .int .i64 0] else AV.tup [.list 2 [], .int .i64 3]) = AV.tup [.list 2 [], .int .i64 1] := if_pos (.inl k1)
    rw [e]
    unfold qBicliqueAll cBicliqueAll
    simp [rBicliqueAllX0, rBicliqueAllX1, rBicliqueAllX2, rBicliqueAllX3, rBicliqueAllX4, rBicliqueAllX5, rBicliqueAllX6, rBicliqueAllX7, rBicliqueAllX8, rBicliqueAllX9, rBicliqueAllX10, c1, k1, sBicliqueCheck, iBicliqueCheck, cleanL_eds, cleanL_ints, blk, eds_length, eds_get, edsAt, edAV, allLeaf_eds, cleanL_eds, cleanL_ints, ints_length, ints_get, intsAt, endL, finB]
  by_cases k2 : 4096 < most
  · have e : (if most < 0 ∨ 4096 < most then AV.tup [.list 2 [], .int .i64 1] else if ((allC N Es L).length : Int) ≤ most then AV.tup [.list 2 (prs N Es L (allC N Es L)), .int .i64 0] else AV.tup [.list 2 [], .int .i64 3]) = AV.tup [.list 2 [], .int .i64 1] := if_pos (.inr k2)
    rw [e]
    unfold qBicliqueAll cBicliqueAll
    simp [rBicliqueAllX0, rBicliqueAllX1, rBicliqueAllX2, rBicliqueAllX3, rBicliqueAllX4, rBicliqueAllX5, rBicliqueAllX6, rBicliqueAllX7, rBicliqueAllX8, rBicliqueAllX9, rBicliqueAllX10, c1, k1, k2, sBicliqueCheck, iBicliqueCheck, cleanL_eds, cleanL_ints, blk, eds_length, eds_get, edsAt, edAV, allLeaf_eds, cleanL_eds, cleanL_ints, ints_length, ints_get, intsAt, endL, finB]
  rw [if_neg (by omega)]
  have c3 := each_run h (most := most) (by omega) (by omega) (after := []) (by decide)
  rw [allC_after h] at c3
  by_cases k3 : ((allC N Es L).length : Int) ≤ most
  · have f := foldS_all (most := most) (allC N Es L) [] (by simpa using k3)
    rw [List.nil_append] at f
    rw [f] at c3
    rw [if_pos k3]
    have l1 : ¬ most < ((allC N Es L).length : Int) := by omega
    have hpl := prs_length N Es L (allC N Es L)
    have tk : (prs N Es L (allC N Es L)).take (allC N Es L).length = prs N Es L (allC N Es L) := by rw [← hpl, List.take_length]
    unfold tkH sdAV at c3
    unfold sdAV at c2
    rw [show prs N Es L [] = [] from rfl, ints_nil] at c3
    generalize prs N Es L (allC N Es L) = Y at *
    unfold qBicliqueAll cBicliqueAll
    simp [rBicliqueAllX0, rBicliqueAllX1, rBicliqueAllX2, rBicliqueAllX3, rBicliqueAllX4, rBicliqueAllX5, rBicliqueAllX6, rBicliqueAllX7, rBicliqueAllX8, rBicliqueAllX9, rBicliqueAllX10, c1, c2, c3, k1, k2, l1, hpl, tk, sBicliqueCheck, iBicliqueCheck, sBicliqueOf, iBicliqueOf, sBicliqueSidesEach, iBicliqueSidesEach, cleanL_eds, cleanL_ints, cleanL_us, plp, plpL, allB, notBox, swC, seesC, inBox, blk, eds_length, eds_get, edsAt, edAV, allLeaf_eds, cleanL_eds, cleanL_ints, ints_length, ints_get, intsAt, endL, finB]
  · have f := foldS_more (most := most) (allC N Es L) [] (by simp; omega) (by simp; omega)
    rw [if_neg k3]
    generalize (foldS (tkA most) (allC N Es L) []).1 = o at *
    have l1 : most < (o.length : Int) := by omega
    have hpl := prs_length N Es L o
    unfold tkH sdAV at c3
    unfold sdAV at c2
    rw [show prs N Es L [] = [] from rfl, ints_nil] at c3
    generalize prs N Es L o = Y at *
    unfold qBicliqueAll cBicliqueAll
    simp [rBicliqueAllX0, rBicliqueAllX1, rBicliqueAllX2, rBicliqueAllX3, rBicliqueAllX4, rBicliqueAllX5, rBicliqueAllX6, rBicliqueAllX7, rBicliqueAllX8, rBicliqueAllX9, rBicliqueAllX10, c1, c2, c3, k1, k2, l1, hpl, sBicliqueCheck, iBicliqueCheck, sBicliqueOf, iBicliqueOf, sBicliqueSidesEach, iBicliqueSidesEach, cleanL_eds, cleanL_ints, cleanL_us, plp, plpL, allB, notBox, swC, seesC, inBox, blk, eds_length, eds_get, edsAt, edAV, allLeaf_eds, cleanL_eds, cleanL_ints, ints_length, ints_get, intsAt, endL, finB]
end
end Go.BmP
