/- What biclique.Maximal returns of a bipartite graph and any two lists. -/
import Derived.Test.YtikffbngaolphaaDoorG18
set_option linter.unusedSimpArgs false
set_option linter.unusedVariables false
set_option maxRecDepth 100000
set_option maxHeartbeats 4000000
namespace Go.BmP
open Go.Am Go.Bm
/-- A list is a set of nodes of a side. -/
def ownC (N : Nat) (S : List Int) (side : Nat) : Bool := valGo (N : Int) (-1) S && decide (msk S &&& (18446744073709551615 - side) = 0)
def maxV (N : Nat) (Es : List Ed) (L S T : List Int) : Bool := ((((!decide (S = [])) && !decide (T = [])) && (ownC N S (msk L) && ownC N T (rgt N L))) && decide (cR N Es L S = msk T)) && decide (cL N Es L (msk T) = msk S)
section
attribute [local simp] codeL_seq codeL_reg codeL_blk codeL_skip codeL_ret codeL_exit codeL_cnd condL_b thenL_n thenL_e thenL_r blkL_n blkL_e blkL_r regL_s opsB stepB opB opP opnd opnds lend lendC get_nil' get_cons' put_nil' put_cons' mem_nil' mem_cons' putdB putB slowP hasOwn hasOwnL finO relab anyB anyE anyH anyR borOf borL inSlot HAND endR hasOwnE endK keepIn trim noPtr noPtrL noPtrE noPtrH binA arith unA eqB isNilB eqc lenB bndB bnd rdN rdc AV.cells fillB peek ldOK AV.leaf allLeaf fz pl plL drawB allCW cwF okDrawB okPair Fq.ok dstOff wrOff notSlot noneIn apartR oldBoxes O.reads Kd.reads E.slot slots slotO slotsP List.getD pairIn nilL okRes clean cleanL resV resVs tupOf mkEnv partsBor doCallB inpB getArgs doCallO frzA frzV frzL minA minF cont ownAt at_ setAt rel dropS relC dropAll frzP frzAll firstBor borIn borC borS borE borH handTo mapSt mapE mapH mapB mapBL sw rt fb mvB mvRt seesP inRt isRoot rootOf boxOf seesB rootsL Am.rep ovw flatCells_ints allLeaf_ints flatCells el grp updE isNilB inpV inpL stB okL unA orcA bndB plL_ints fzL stBox inCells wrap0 wrap1 wrapm1 take_snoc
theorem own_run {N : Nat} (hN : N ≤ 64) (Es : List Ed) (L S T : List Int) (A : List Nat) (lm rm : Nat) (Q : List Int) (hQ : Q.length < 4294967295) (side : Nat) (hs : side < 18446744073709551616) : callL cfgS nBicliqueMaximal1 [.list 1 (ints Q), .int .u64 (side : Int), .ptr 0 0] [some [.int .i64 N, .list 2 (eds Es), .list 1 (ints L)], some [.list 1 (ints S), .list 1 (ints T)], some [.list 1 (us A), .int .u64 lm, .int .u64 rm]] = some (.bool (ownC N Q side), [some [.int .i64 N, .list 2 (eds Es), .list 1 (ints L)], some [.list 1 (ints S), .list 1 (ints T)], some [.list 1 (us A), .int .u64 lm, .int .u64 rm]]) := by
  rw [callL_end oBicliqueMaximal1 sBicliqueMaximal1 (Nat.le_of_ble_eq_true rfl)]
  have v := nvalid_run (N : Int) Q (by omega)
  unfold ownC
  by_cases k : valGo (N : Int) (-1) Q = true
  · have hb : ∀ v ∈ Q, 0 ≤ v ∧ v < 64 := fun x hx => by
      have := ((valGo_iff (N : Int)).1 k).2 x hx
      omega
    have m := mask_run Q hQ hb
    have e1 := u64_andNot_nat (msk Q) side (msk_lt fun v hv => (hb v hv).2) hs
    have z : decide (((msk Q &&& (18446744073709551615 - side) : Nat) : Int) = 0) = decide (msk Q &&& (18446744073709551615 - side) = 0) := by
      rw [Bool.eq_iff_iff, decide_eq_true_eq, decide_eq_true_eq]; omega
    rw [← z, k]
    rw [k] at v
    generalize ((msk Q &&& (18446744073709551615 - side) : Nat) : Int) = q at *
    unfold qBicliqueMaximal1 cBicliqueMaximal1
    simp [rBicliqueMaximal1X0, rBicliqueMaximal1X1, v, m, e1, beqI, sNodesetValid, iNodesetValid, sBicliqueMask, iBicliqueMask, finS, plp, plpL, swS, mapH, mapBL, mapB, blk, eds_length, eds_get, edsAt, edAV, allLeaf_eds, cleanL_eds, cleanL_ints, ints_length, ints_get, intsAt, endL, finB]
  · have k : valGo (N : Int) (-1) Q = false := by simpa using k
    rw [k]
    rw [k] at v
    unfold qBicliqueMaximal1 cBicliqueMaximal1
    simp [rBicliqueMaximal1X0, rBicliqueMaximal1X1, v, sNodesetValid, iNodesetValid, sBicliqueMask, iBicliqueMask, finS, plp, plpL, swS, mapH, mapBL, mapB, blk, eds_length, eds_get, edsAt, edAV, allLeaf_eds, cleanL_eds, cleanL_ints, ints_length, ints_get, intsAt, endL, finB]
end
theorem wrapT : IntKind.i64.wrap 2 = 2 := by decide
/-- The two ways from side to side. -/
def waysA (A : List Nat) (lm rm : Nat) (S T : List Int) : List AV := [.agg [.func (.func nBicliqueSidesOnRight) [.agg [.list 1 (us A), .int .u64 lm, .int .u64 rm]] [], .list 1 (ints S), .list 1 (ints T)], .agg [.func (.func nBicliqueSidesOnLeft) [.agg [.list 1 (us A), .int .u64 lm, .int .u64 rm]] [], .list 1 (ints T), .list 1 (ints S)]]
section
variable {N : Nat} {Es : List Ed} {L : List Int} (h : BOK N Es L) {S T : List Int} (hS : S.length < 4294967295) (hT : T.length < 4294967295) (bS : ∀ v ∈ S, 0 ≤ v ∧ v < (N : Int)) (bT : ∀ v ∈ T, 0 ≤ v ∧ v < (N : Int))
include h hS hT bS bT
section
attribute [local simp] codeL_seq codeL_reg codeL_blk codeL_skip codeL_ret codeL_exit codeL_cnd condL_b thenL_n thenL_e thenL_r blkL_n blkL_e blkL_r regL_s opsB stepB opB opP opnd opnds lend lendC get_nil' get_cons' put_nil' put_cons' mem_nil' mem_cons' putdB putB slowP hasOwn hasOwnL finO relab anyB anyE anyH anyR borOf borL inSlot HAND endR hasOwnE endK keepIn trim noPtr noPtrL noPtrE noPtrH binA arith unA eqB isNilB eqc lenB bndB bnd rdN rdc AV.cells fillB peek ldOK AV.leaf allLeaf fz pl plL drawB allCW cwF okDrawB okPair Fq.ok dstOff wrOff notSlot noneIn apartR oldBoxes O.reads Kd.reads E.slot slots slotO slotsP List.getD pairIn nilL okRes clean cleanL resV resVs tupOf mkEnv partsBor doCallB inpB getArgs doCallO frzA frzV frzL minA minF cont ownAt at_ setAt rel dropS relC dropAll frzP frzAll firstBor borIn borC borS borE borH handTo mapSt mapE mapH mapB mapBL sw rt fb mvB mvRt seesP inRt isRoot rootOf boxOf seesB rootsL Am.rep ovw flatCells_ints allLeaf_ints flatCells el grp updE isNilB inpV inpL stB okL unA orcA bndB plL_ints fzL stBox inCells wrap0 wrap1 wrapm1 take_snoc
theorem mx_rnd0 : codeL cfgS 0 lBicliqueMaximalX0 ⟨[(57, .own 3 (waysA (adjE N Es) (msk L) (rgt N L) S T)), (58, .int .i64 2), (59, .int .i64 0)], []⟩ = if cR N Es L S = msk T then some (.normal, ⟨[(57, .own 3 (waysA (adjE N Es) (msk L) (rgt N L) S T)), (58, .int .i64 2), (59, .int .i64 1)], []⟩) else some (.ret, ⟨[(4, .bool false)], []⟩) := by
  have hn := h.n
  have ea := (adjE_spec h).1
  have cS : ∀ v ∈ S, 0 ≤ v ∧ v < 64 := fun v hv => by have := bS v hv; omega
  have cT : ∀ v ∈ T, 0 ≤ v ∧ v < 64 := fun v hv => by have := bT v hv; omega
  have m1 := mask_run S hS cS
  have m2 := mask_run T hT cT
  have o1 := onRight_run (adjE N Es) (adjE_spec h).2.1 (msk L) (rgt N L) (msk S) (msk_lt fun v hv => (cS v hv).2) (fun j hj => by
    rw [msk_bit (fun v hv => (cS v hv).1)] at hj
    have := bS _ (of_decide_eq_true hj)
    omega) (rgt_lt N L)
  have e1 : comL (adjE N Es) (rgt N L) (bitL (msk S)) = cR N Es L S := rfl
  rw [e1] at o1
  unfold sdAV at o1
  unfold waysA lBicliqueMaximalX0
  by_cases k0 : cR N Es L S = msk T
  · rw [if_pos k0]
    have k : ((cR N Es L S : Nat) : Int) = ((msk T : Nat) : Int) := by rw [k0]
    clear k0
    generalize ((cR N Es L S : Nat) : Int) = c at *
    generalize ((msk T : Nat) : Int) = t at *
    generalize ((msk S : Nat) : Int) = s at *
    generalize ((msk L : Nat) : Int) = lm at *
    generalize us (adjE N Es) = A at *
    simp [rBicliqueMaximalX0, rBicliqueMaximalX1, rBicliqueMaximalX2, rBicliqueMaximalX3, rBicliqueMaximalX4, rBicliqueMaximalX5, rBicliqueMaximalX6, rBicliqueMaximalX7, rBicliqueMaximalX8, rBicliqueMaximalX9, rBicliqueMaximalX10, rBicliqueMaximalX11, rBicliqueMaximalX12, rBicliqueMaximalX13, k, m1, m2, o1, beqI, wrapT, List.getElem_cons_succ, List.getElem_cons_zero, sBicliqueMask, iBicliqueMask, sBicliqueSidesOnRight, iBicliqueSidesOnRight, idx, blk, eds_length, eds_get, edsAt, edAV, allLeaf_eds, cleanL_eds, cleanL_ints, ints_length, ints_get, intsAt, endL, finB]
  · rw [if_neg k0]
    have k : ¬ ((cR N Es L S : Nat) : Int) = ((msk T : Nat) : Int) := by omega
    clear k0
    generalize ((cR N Es L S : Nat) : Int) = c at *
    generalize ((msk T : Nat) : Int) = t at *
    generalize ((msk S : Nat) : Int) = s at *
    generalize ((msk L : Nat) : Int) = lm at *
    generalize us (adjE N Es) = A at *
    simp [rBicliqueMaximalX0, rBicliqueMaximalX1, rBicliqueMaximalX2, rBicliqueMaximalX3, rBicliqueMaximalX4, rBicliqueMaximalX5, rBicliqueMaximalX6, rBicliqueMaximalX7, rBicliqueMaximalX8, rBicliqueMaximalX9, rBicliqueMaximalX10, rBicliqueMaximalX11, rBicliqueMaximalX12, rBicliqueMaximalX13, k, m1, m2, o1, beqI, wrapT, List.getElem_cons_succ, List.getElem_cons_zero, sBicliqueMask, iBicliqueMask, sBicliqueSidesOnRight, iBicliqueSidesOnRight, idx, blk, eds_length, eds_get, edsAt, edAV, allLeaf_eds, cleanL_eds, cleanL_ints, ints_length, ints_get, intsAt, endL, finB]
theorem mx_rnd1 : codeL cfgS 0 lBicliqueMaximalX0 ⟨[(57, .own 3 (waysA (adjE N Es) (msk L) (rgt N L) S T)), (58, .int .i64 2), (59, .int .i64 1)], []⟩ = if cL N Es L (msk T) = msk S then some (.normal, ⟨[(57, .own 3 (waysA (adjE N Es) (msk L) (rgt N L) S T)), (58, .int .i64 2), (59, .int .i64 2)], []⟩) else some (.ret, ⟨[(4, .bool false)], []⟩) := by
  have hn := h.n
  have ea := (adjE_spec h).1
  have cS : ∀ v ∈ S, 0 ≤ v ∧ v < 64 := fun v hv => by have := bS v hv; omega
  have cT : ∀ v ∈ T, 0 ≤ v ∧ v < 64 := fun v hv => by have := bT v hv; omega
  have m1 := mask_run S hS cS
  have m2 := mask_run T hT cT
  have o1 := onLeft_run (adjE N Es) (adjE_spec h).2.1 (msk L) (rgt N L) (msk T) (msk_lt fun v hv => (cT v hv).2) (fun j hj => by
    rw [msk_bit (fun v hv => (cT v hv).1)] at hj
    have := bT _ (of_decide_eq_true hj)
    omega) (msk_lt fun v hv => (bOK_bd h (fun _ k => k) v hv).2)
  have e1 : comL (adjE N Es) (msk L) (bitL (msk T)) = cL N Es L (msk T) := rfl
  rw [e1] at o1
  unfold sdAV at o1
  unfold waysA lBicliqueMaximalX0
  by_cases k0 : cL N Es L (msk T) = msk S
  · rw [if_pos k0]
    have k : ((cL N Es L (msk T) : Nat) : Int) = ((msk S : Nat) : Int) := by rw [k0]
    clear k0
    generalize ((cL N Es L (msk T) : Nat) : Int) = c at *
    generalize ((msk T : Nat) : Int) = t at *
    generalize ((msk S : Nat) : Int) = s at *
    generalize ((msk L : Nat) : Int) = lm at *
    generalize us (adjE N Es) = A at *
    simp [rBicliqueMaximalX0, rBicliqueMaximalX1, rBicliqueMaximalX2, rBicliqueMaximalX3, rBicliqueMaximalX4, rBicliqueMaximalX5, rBicliqueMaximalX6, rBicliqueMaximalX7, rBicliqueMaximalX8, rBicliqueMaximalX9, rBicliqueMaximalX10, rBicliqueMaximalX11, rBicliqueMaximalX12, rBicliqueMaximalX13, k, m1, m2, o1, beqI, wrapT, sBicliqueMask, iBicliqueMask, sBicliqueSidesOnLeft, iBicliqueSidesOnLeft, idx, blk, eds_length, eds_get, edsAt, edAV, allLeaf_eds, cleanL_eds, cleanL_ints, ints_length, ints_get, intsAt, endL, finB]
  · rw [if_neg k0]
    have k : ¬ ((cL N Es L (msk T) : Nat) : Int) = ((msk S : Nat) : Int) := by omega
    clear k0
    generalize ((cL N Es L (msk T) : Nat) : Int) = c at *
    generalize ((msk T : Nat) : Int) = t at *
    generalize ((msk S : Nat) : Int) = s at *
    generalize ((msk L : Nat) : Int) = lm at *
    generalize us (adjE N Es) = A at *
    simp [rBicliqueMaximalX0, rBicliqueMaximalX1, rBicliqueMaximalX2, rBicliqueMaximalX3, rBicliqueMaximalX4, rBicliqueMaximalX5, rBicliqueMaximalX6, rBicliqueMaximalX7, rBicliqueMaximalX8, rBicliqueMaximalX9, rBicliqueMaximalX10, rBicliqueMaximalX11, rBicliqueMaximalX12, rBicliqueMaximalX13, k, m1, m2, o1, beqI, wrapT, sBicliqueMask, iBicliqueMask, sBicliqueSidesOnLeft, iBicliqueSidesOnLeft, idx, blk, eds_length, eds_get, edsAt, edAV, allLeaf_eds, cleanL_eds, cleanL_ints, ints_length, ints_get, intsAt, endL, finB]
theorem mx_loop : codeL cfgS 0 (.loop lBicliqueMaximalX0) ⟨[(57, .own 3 (waysA (adjE N Es) (msk L) (rgt N L) S T)), (58, .int .i64 2), (59, .int .i64 0)], []⟩ = if cR N Es L S = msk T ∧ cL N Es L (msk T) = msk S then some (.exit 0, ⟨[(57, .own 3 (waysA (adjE N Es) (msk L) (rgt N L) S T)), (58, .int .i64 2), (59, .int .i64 2), (60, .bool false)], []⟩) else some (.ret, ⟨[(4, .bool false)], []⟩) := by
  have r0 := mx_rnd0 h hS hT bS bT
  have r1 := mx_rnd1 h hS hT bS bT
  by_cases k0 : cR N Es L S = msk T
  · rw [if_pos k0] at r0
    rw [loop_next r0]
    by_cases k1 : cL N Es L (msk T) = msk S
    · rw [if_pos k1] at r1
      rw [loop_next r1, if_pos ⟨k0, k1⟩]
      clear r0 r1
      exact loop_exit (by unfold lBicliqueMaximalX0; simp [rBicliqueMaximalX0, rBicliqueMaximalX1, rBicliqueMaximalX2, rBicliqueMaximalX3, rBicliqueMaximalX4, rBicliqueMaximalX5, rBicliqueMaximalX6, rBicliqueMaximalX7, rBicliqueMaximalX8, rBicliqueMaximalX9, rBicliqueMaximalX10, rBicliqueMaximalX11, rBicliqueMaximalX12, rBicliqueMaximalX13, blk, eds_length, eds_get, edsAt, edAV, allLeaf_eds, cleanL_eds, cleanL_ints, ints_length, ints_get, intsAt, endL, finB])
    · rw [if_neg k1] at r1
      rw [if_neg (fun q => k1 q.2)]
      exact loop_ret r1
  · rw [if_neg k0] at r0
    rw [if_neg (fun q => k0 q.1)]
    exact loop_ret r0
end
end
section
attribute [local simp] codeL_seq codeL_reg codeL_blk codeL_skip codeL_ret codeL_exit codeL_cnd condL_b thenL_n thenL_e thenL_r blkL_n blkL_e blkL_r regL_s opsB stepB opB opP opnd opnds lend lendC get_nil' get_cons' put_nil' put_cons' mem_nil' mem_cons' putdB putB slowP hasOwn hasOwnL finO relab anyB anyE anyH anyR borOf borL inSlot HAND endR hasOwnE endK keepIn trim noPtr noPtrL noPtrE noPtrH binA arith unA eqB isNilB eqc lenB bndB bnd rdN rdc AV.cells fillB peek ldOK AV.leaf allLeaf fz pl plL drawB allCW cwF okDrawB okPair Fq.ok dstOff wrOff notSlot noneIn apartR oldBoxes O.reads Kd.reads E.slot slots slotO slotsP List.getD pairIn nilL okRes clean cleanL resV resVs tupOf mkEnv partsBor doCallB inpB getArgs doCallO frzA frzV frzL minA minF cont ownAt at_ setAt rel dropS relC dropAll frzP frzAll firstBor borIn borC borS borE borH handTo mapSt mapE mapH mapB mapBL sw rt fb mvB mvRt seesP inRt isRoot rootOf boxOf seesB rootsL Am.rep ovw flatCells_ints allLeaf_ints flatCells el grp updE isNilB inpV inpL stB okL unA orcA bndB plL_ints fzL stBox inCells wrap0 wrap1 wrapm1 take_snoc
theorem maximal_run {N : Nat} {Es : List Ed} {L : List Int} (h : BOK N Es L) (hE : Es.length < 4294967295) (hL : L.length < 4294967295) (S T : List Int) (hS : S.length < 4294967295) (hT : T.length < 4294967295) : callL cfgS nBicliqueMaximal [.agg [.int .i64 N, .list 2 (eds Es), .list 1 (ints L)], .agg [.list 1 (ints S), .list 1 (ints T)]] [] = some (.bool (maxV N Es L S T), []) := by
  have c1 := bchk_run h hE hL
  have c2 := bof_run h hE hL
  have hn := h.n
  have ml : msk L < 18446744073709551616 := msk_lt fun v hv => (bOK_bd h (fun _ k => k) v hv).2
  have w1 := own_run h.n Es L S T (adjE N Es) (msk L) (rgt N L) S hS (msk L) ml
  have w2 := own_run h.n Es L S T (adjE N Es) (msk L) (rgt N L) T hT (rgt N L) (rgt_lt N L)
  rw [callL_end oBicliqueMaximal sBicliqueMaximal (Nat.le_of_ble_eq_true rfl)]
  by_cases k1 : S = []
  · subst k1
    have e : maxV N Es L [] T = false := by simp [maxV]
    rw [e, ints_nil]
    unfold qBicliqueMaximal cBicliqueMaximal
    simp [rBicliqueMaximalX0, rBicliqueMaximalX1, rBicliqueMaximalX2, rBicliqueMaximalX3, rBicliqueMaximalX4, rBicliqueMaximalX5, rBicliqueMaximalX6, rBicliqueMaximalX7, rBicliqueMaximalX8, rBicliqueMaximalX9, rBicliqueMaximalX10, rBicliqueMaximalX11, rBicliqueMaximalX12, rBicliqueMaximalX13, c1, sBicliqueCheck, iBicliqueCheck, cleanL_eds, cleanL_ints, blk, eds_length, eds_get, edsAt, edAV, allLeaf_eds, cleanL_eds, cleanL_ints, ints_length, ints_get, intsAt, endL, finB]
  have l1 : ¬ (S.length : Int) = 0 := by have := List.length_pos_iff.2 k1; omega
  by_cases k2 : T = []
  · subst k2
    have e : maxV N Es L S [] = false := by simp [maxV]
    rw [e, ints_nil]
    unfold qBicliqueMaximal cBicliqueMaximal
    simp [rBicliqueMaximalX0, rBicliqueMaximalX1, rBicliqueMaximalX2, rBicliqueMaximalX3, rBicliqueMaximalX4, rBicliqueMaximalX5, rBicliqueMaximalX6, rBicliqueMaximalX7, rBicliqueMaximalX8, rBicliqueMaximalX9, rBicliqueMaximalX10, rBicliqueMaximalX11, rBicliqueMaximalX12, rBicliqueMaximalX13, c1, k1, l1, sBicliqueCheck, iBicliqueCheck, cleanL_eds, cleanL_ints, blk, eds_length, eds_get, edsAt, edAV, allLeaf_eds, cleanL_eds, cleanL_ints, ints_length, ints_get, intsAt, endL, finB]
  have l2 : ¬ (T.length : Int) = 0 := by have := List.length_pos_iff.2 k2; omega
  unfold sdAV at c2
  by_cases k3 : ownC N S (msk L) = true
  case neg =>
    have k3 : ownC N S (msk L) = false := by simpa using k3
    have e : maxV N Es L S T = false := by simp [maxV, k3]
    rw [e]
    rw [k3] at w1
    unfold qBicliqueMaximal cBicliqueMaximal
    simp [rBicliqueMaximalX0, rBicliqueMaximalX1, rBicliqueMaximalX2, rBicliqueMaximalX3, rBicliqueMaximalX4, rBicliqueMaximalX5, rBicliqueMaximalX6, rBicliqueMaximalX7, rBicliqueMaximalX8, rBicliqueMaximalX9, rBicliqueMaximalX10, rBicliqueMaximalX11, rBicliqueMaximalX12, rBicliqueMaximalX13, c1, c2, w1, k1, k2, l1, l2, sBicliqueCheck, iBicliqueCheck, sBicliqueOf, iBicliqueOf, sBicliqueMaximal1, iBicliqueMaximal1, cleanL_eds, cleanL_ints, cleanL_us, plp, plpL, allB, notBox, swC, seesC, inBox, blk, eds_length, eds_get, edsAt, edAV, allLeaf_eds, cleanL_eds, cleanL_ints, ints_length, ints_get, intsAt, endL, finB]
  by_cases k4 : ownC N T (rgt N L) = true
  case neg =>
    have k4 : ownC N T (rgt N L) = false := by simpa using k4
    have e : maxV N Es L S T = false := by simp [maxV, k4]
    rw [e]
    rw [k3] at w1
    rw [k4] at w2
    unfold qBicliqueMaximal cBicliqueMaximal
    simp [rBicliqueMaximalX0, rBicliqueMaximalX1, rBicliqueMaximalX2, rBicliqueMaximalX3, rBicliqueMaximalX4, rBicliqueMaximalX5, rBicliqueMaximalX6, rBicliqueMaximalX7, rBicliqueMaximalX8, rBicliqueMaximalX9, rBicliqueMaximalX10, rBicliqueMaximalX11, rBicliqueMaximalX12, rBicliqueMaximalX13, c1, c2, w1, w2, k1, k2, l1, l2, sBicliqueCheck, iBicliqueCheck, sBicliqueOf, iBicliqueOf, sBicliqueMaximal1, iBicliqueMaximal1, cleanL_eds, cleanL_ints, cleanL_us, plp, plpL, allB, notBox, swC, seesC, inBox, blk, eds_length, eds_get, edsAt, edAV, allLeaf_eds, cleanL_eds, cleanL_ints, ints_length, ints_get, intsAt, endL, finB]
  have bS : ∀ v ∈ S, 0 ≤ v ∧ v < (N : Int) := fun x hx => by
    have k := k3
    unfold ownC at k
    rw [Bool.and_eq_true] at k
    exact (((valGo_iff (N : Int)).1 k.1).2 x hx).2
  have bT : ∀ v ∈ T, 0 ≤ v ∧ v < (N : Int) := fun x hx => by
    have k := k4
    unfold ownC at k
    rw [Bool.and_eq_true] at k
    exact (((valGo_iff (N : Int)).1 k.1).2 x hx).2
  have lp := mx_loop h hS hT bS bT
  have e : maxV N Es L S T = decide (cR N Es L S = msk T ∧ cL N Es L (msk T) = msk S) := by
    unfold maxV
    rw [k3, k4, Bool.eq_iff_iff]
    simp [k1, k2]
  rw [e]
  rw [k3] at w1
  rw [k4] at w2
  unfold waysA at lp
  generalize ((msk L : Nat) : Int) = lm at *
  generalize ((rgt N L : Nat) : Int) = rm at *
  generalize us (adjE N Es) = A at *
  unfold qBicliqueMaximal cBicliqueMaximal
  by_cases k5 : cR N Es L S = msk T ∧ cL N Es L (msk T) = msk S
  · rw [if_pos k5] at lp
    rw [decide_eq_true k5]
    clear k5 e
    simp [rBicliqueMaximalX0, rBicliqueMaximalX1, rBicliqueMaximalX2, rBicliqueMaximalX3, rBicliqueMaximalX4, rBicliqueMaximalX5, rBicliqueMaximalX6, rBicliqueMaximalX7, rBicliqueMaximalX8, rBicliqueMaximalX9, rBicliqueMaximalX10, rBicliqueMaximalX11, rBicliqueMaximalX12, rBicliqueMaximalX13, c1, c2, w1, w2, k1, k2, l1, l2, lp, sBicliqueCheck, iBicliqueCheck, sBicliqueOf, iBicliqueOf, sBicliqueMaximal1, iBicliqueMaximal1, cleanL_eds, cleanL_ints, cleanL_us, plp, plpL, allB, notBox, swC, seesC, inBox, blk, eds_length, eds_get, edsAt, edAV, allLeaf_eds, cleanL_eds, cleanL_ints, ints_length, ints_get, intsAt, endL, finB]
  · rw [if_neg k5] at lp
    rw [decide_eq_false k5]
    clear k5 e
    simp [rBicliqueMaximalX0, rBicliqueMaximalX1, rBicliqueMaximalX2, rBicliqueMaximalX3, rBicliqueMaximalX4, rBicliqueMaximalX5, rBicliqueMaximalX6, rBicliqueMaximalX7, rBicliqueMaximalX8, rBicliqueMaximalX9, rBicliqueMaximalX10, rBicliqueMaximalX11, rBicliqueMaximalX12, rBicliqueMaximalX13, c1, c2, w1, w2, k1, k2, l1, l2, lp, sBicliqueCheck, iBicliqueCheck, sBicliqueOf, iBicliqueOf, sBicliqueMaximal1, iBicliqueMaximal1, cleanL_eds, cleanL_ints, cleanL_us, plp, plpL, allB, notBox, swC, seesC, inBox, blk, eds_length, eds_get, edsAt, edAV, allLeaf_eds, cleanL_eds, cleanL_ints, ints_length, ints_get, intsAt, endL, finB]
end
end Go.BmP
