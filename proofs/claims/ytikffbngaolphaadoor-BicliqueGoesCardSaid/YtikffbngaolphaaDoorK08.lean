/- What biclique's bits return: common, onRight, onLeft, of. -/
import Derived.Test.YtikffbngaolphaaDoorK07
set_option linter.unusedSimpArgs false
set_option linter.unusedVariables false
set_option maxRecDepth 100000
set_option maxHeartbeats 4000000
namespace Go.BmP
open Go.Am Go.Bm
def sdAV (A : List Nat) (lm rm : Nat) : List AV := [.list 1 (us A), .int .u64 lm, .int .u64 rm]
section
attribute [local simp] codeL_seq codeL_reg codeL_blk codeL_skip codeL_ret codeL_exit codeL_cnd condL_b thenL_n thenL_e thenL_r blkL_n blkL_e blkL_r regL_s opsB stepB opB opP opnd opnds lend lendC get_nil' get_cons' put_nil' put_cons' mem_nil' mem_cons' putdB putB slowP hasOwn hasOwnL finO relab anyB anyE anyH anyR borOf borL inSlot HAND endR hasOwnE endK keepIn trim noPtr noPtrL noPtrE noPtrH binA arith unA eqB isNilB eqc lenB bndB bnd rdN rdc AV.cells fillB peek ldOK AV.leaf allLeaf fz pl plL drawB allCW cwF okDrawB okPair Fq.ok dstOff wrOff notSlot noneIn apartR oldBoxes O.reads Kd.reads E.slot slots slotO slotsP List.getD pairIn nilL okRes clean cleanL resV resVs tupOf mkEnv partsBor doCallB inpB getArgs doCallO frzA frzV frzL minA minF cont ownAt at_ setAt rel dropS relC dropAll frzP frzAll firstBor borIn borC borS borE borH handTo mapSt mapE mapH mapB mapBL sw rt fb mvB mvRt seesP inRt isRoot rootOf boxOf seesB rootsL Am.rep ovw flatCells_ints allLeaf_ints flatCells el grp updE isNilB inpV inpL stB okL unA orcA bndB plL_ints fzL stBox inCells wrap0 wrap1 wrapm1 take_snoc
theorem common_loop (A : List Nat) (hA : Small A) (lm rm : Nat) : ∀ (set : Nat), set < 18446744073709551616 → (∀ j, set.testBit j = true → j < A.length) → ∀ side : Nat, side < 18446744073709551616 → codeL cfgS 0 (.loop lBicliqueSidesCommonX0) ⟨[(1, .int .u64 side), (2, .int .u64 set), (3, .ptr 0 0)], [some (sdAV A lm rm)]⟩ =
    some (.exit 0, ⟨[(1, .int .u64 (comL A side (bitL set) : Nat)), (2, .int .u64 (0 : Nat)), (3, .ptr 0 0), (8, .bool false)], [some (sdAV A lm rm)]⟩) := by
  intro set
  induction set using Nat.strongRecOn with
  | ind m ih =>
    intro hm hb side hs
    by_cases h0 : m = 0
    · subst h0
      rw [bitL_zero]
      exact loop_exit (by unfold lBicliqueSidesCommonX0 sdAV; simp [rBicliqueSidesCommonX0, rBicliqueSidesCommonX1, rBicliqueSidesCommonX2, rBicliqueSidesCommonX3, rBicliqueSidesCommonX4, comL, List.foldl_nil, blk, eds_length, eds_get, edsAt, edAV, allLeaf_eds, cleanL_eds, cleanL_ints, ints_length, ints_get, intsAt, endL, finB])
    · have n0 : ¬ ((m : Int) = 0) := by omega
      have hd := drop_lt h0
      have ht := tz_run m h0 hm
      have w1 := decU h0 hm
      have w2 := u64_and_nat m (m - 1) hm (by omega)
      have hi := hb _ (tz_bit h0 hm).1
      have hi1 : ((tz m : Nat) : Int) < A.length := by omega
      have hx : A[tz m] < 18446744073709551616 := hA _ (List.getElem_mem hi)
      have w3 := u64_and_nat side A[tz m] hs hx
      have ih := ih (m &&& (m - 1)) hd (by omega) (fun j hj => hb j (by rw [drop_bit h0 hm, Bool.and_eq_true] at hj; exact hj.1)) (side &&& A[tz m]) (Nat.lt_of_le_of_lt Nat.and_le_left hs)
      have e : comL A side (bitL m) = comL A (side &&& A[tz m]) (bitL (m &&& (m - 1))) := by
        rw [bitL_step h0 hm]
        show comL A (side &&& A.getD (((tz m : Nat) : Int)).toNat 0) _ = _
        rw [show (((tz m : Nat) : Int)).toNat = tz m by omega, List.getD_eq_getElem?_getD, List.getElem?_eq_getElem hi]
        rfl
      rw [e]
      generalize (m : Int) = X at *
      exact (loop_next (by unfold lBicliqueSidesCommonX0 sdAV; simp [rBicliqueSidesCommonX0, rBicliqueSidesCommonX1, rBicliqueSidesCommonX2, rBicliqueSidesCommonX3, rBicliqueSidesCommonX4, n0, ht, w1, w2, w3, hi, hi1, us_length, us_get, usAt, idx, sMathBitsTrailingZeros64, iMathBitsTrailingZeros64, blk, eds_length, eds_get, edsAt, edAV, allLeaf_eds, cleanL_eds, cleanL_ints, ints_length, ints_get, intsAt, endL, finB])).trans ih
theorem common_run (A : List Nat) (hA : Small A) (lm rm side set : Nat) (h1 : set < 18446744073709551616) (h2 : ∀ j, set.testBit j = true → j < A.length) (h3 : side < 18446744073709551616) : callL cfgS nBicliqueSidesCommon [.agg (sdAV A lm rm), .int .u64 side, .int .u64 set] [] = some (.int .u64 (comL A side (bitL set) : Nat), []) := by
  rw [callL_end oBicliqueSidesCommon sBicliqueSidesCommon (Nat.le_of_ble_eq_true rfl)]
  have h := common_loop A hA lm rm set h1 h2 side h3
  unfold sdAV at h ⊢
  unfold qBicliqueSidesCommon cBicliqueSidesCommon
  simp [rBicliqueSidesCommonX0, rBicliqueSidesCommonX1, rBicliqueSidesCommonX2, rBicliqueSidesCommonX3, rBicliqueSidesCommonX4, h, blk, eds_length, eds_get, edsAt, edAV, allLeaf_eds, cleanL_eds, cleanL_ints, ints_length, ints_get, intsAt, endL, finB]
theorem onRight_run (A : List Nat) (hA : Small A) (lm rm set : Nat) (h1 : set < 18446744073709551616) (h2 : ∀ j, set.testBit j = true → j < A.length) (h3 : rm < 18446744073709551616) : callL cfgS nBicliqueSidesOnRight [.agg (sdAV A lm rm), .int .u64 set] [] = some (.int .u64 (comL A rm (bitL set) : Nat), []) := by
  rw [callL_end oBicliqueSidesOnRight sBicliqueSidesOnRight (Nat.le_of_ble_eq_true rfl)]
  have h := common_run A hA lm rm rm set h1 h2 h3
  unfold sdAV at h ⊢
  unfold qBicliqueSidesOnRight cBicliqueSidesOnRight
  simp [rBicliqueSidesOnRightX0, rBicliqueSidesOnRightX1, h, sBicliqueSidesCommon, iBicliqueSidesCommon, blk, eds_length, eds_get, edsAt, edAV, allLeaf_eds, cleanL_eds, cleanL_ints, ints_length, ints_get, intsAt, endL, finB]
theorem onLeft_run (A : List Nat) (hA : Small A) (lm rm set : Nat) (h1 : set < 18446744073709551616) (h2 : ∀ j, set.testBit j = true → j < A.length) (h3 : lm < 18446744073709551616) : callL cfgS nBicliqueSidesOnLeft [.agg (sdAV A lm rm), .int .u64 set] [] = some (.int .u64 (comL A lm (bitL set) : Nat), []) := by
  rw [callL_end oBicliqueSidesOnLeft sBicliqueSidesOnLeft (Nat.le_of_ble_eq_true rfl)]
  have h := common_run A hA lm rm lm set h1 h2 h3
  unfold sdAV at h ⊢
  unfold qBicliqueSidesOnLeft cBicliqueSidesOnLeft
  simp [rBicliqueSidesOnLeftX0, rBicliqueSidesOnLeftX1, h, sBicliqueSidesCommon, iBicliqueSidesCommon, blk, eds_length, eds_get, edsAt, edAV, allLeaf_eds, cleanL_eds, cleanL_ints, ints_length, ints_get, intsAt, endL, finB]
end
def ofH (N : Nat) (Es : List Ed) (L : List Int) (A : List Nat) (lm rm : Nat) : Heap := [some [.int .i64 N, .list 2 (eds Es), .list 1 (ints L)], some [.own 1 [], .int .u64 0, .int .u64 0], some [.own 1 (us A), .int .u64 lm, .int .u64 rm]]
section
attribute [local simp] codeL_seq codeL_reg codeL_blk codeL_skip codeL_ret codeL_exit codeL_cnd condL_b thenL_n thenL_e thenL_r blkL_n blkL_e blkL_r regL_s opsB stepB opB opP opnd opnds lend lendC get_nil' get_cons' put_nil' put_cons' mem_nil' mem_cons' putdB putB slowP hasOwn hasOwnL finO relab anyB anyE anyH anyR borOf borL inSlot HAND endR hasOwnE endK keepIn trim noPtr noPtrL noPtrE noPtrH binA arith unA eqB isNilB eqc lenB bndB bnd rdN rdc AV.cells fillB peek ldOK AV.leaf allLeaf fz pl plL drawB allCW cwF okDrawB okPair Fq.ok dstOff wrOff notSlot noneIn apartR oldBoxes O.reads Kd.reads E.slot slots slotO slotsP List.getD pairIn nilL okRes clean cleanL resV resVs tupOf mkEnv partsBor doCallB inpB getArgs doCallO frzA frzV frzL minA minF cont ownAt at_ setAt rel dropS relC dropAll frzP frzAll firstBor borIn borC borS borE borH handTo mapSt mapE mapH mapB mapBL sw rt fb mvB mvRt seesP inRt isRoot rootOf boxOf seesB rootsL Am.rep ovw flatCells_ints allLeaf_ints flatCells el grp updE isNilB inpV inpL stB okL unA orcA bndB plL_ints fzL stBox inCells wrap0 wrap1 wrapm1 take_snoc
theorem bof_loop (N : Nat) (hN : N ≤ 64) (Es : List Ed) (hE : Es.length < 4294967295) (hv : ∀ e ∈ Es, 0 ≤ e.1 ∧ e.1 < e.2 ∧ e.2 < (N : Int)) (L : List Int) (lm rm : Nat) : ∀ (k i : Nat) (A : List Nat), i + k = Es.length → A.length = N → Small A → codeL cfgS 0 (.loop lBicliqueOfX0) ⟨[(2, .ptr 1 0), (3, .ptr 2 0), (25, .list 2 (eds Es)), (26, .int .i64 Es.length), (27, .int .i64 i)], ofH N Es L A lm rm⟩ =
    some (.exit 0, ⟨[(2, .ptr 1 0), (3, .ptr 2 0), (25, .list 2 (eds Es)), (26, .int .i64 Es.length), (27, .int .i64 Es.length), (28, .bool false)], ofH N Es L (adjOf (Es.drop i) A) lm rm⟩)
  | 0, i, A, hi, hA, hS => by
    obtain rfl : i = Es.length := by omega
    rw [List.drop_length]
    exact loop_exit (by unfold lBicliqueOfX0 ofH; simp [rBicliqueOfX0, rBicliqueOfX1, rBicliqueOfX2, rBicliqueOfX3, rBicliqueOfX4, rBicliqueOfX5, rBicliqueOfX6, rBicliqueOfX7, rBicliqueOfX8, rBicliqueOfX9, adjOf, List.foldl_nil, blk, eds_length, eds_get, edsAt, edAV, allLeaf_eds, cleanL_eds, cleanL_ints, ints_length, ints_get, intsAt, endL, finB])
  | k + 1, i, A, hi, hA, hS => by
    have hlt : i < Es.length := by omega
    have h1 : (i : Int) < Es.length := by omega
    have hw := wrapS (i := i) (by omega)
    obtain ⟨u0, uv, vn⟩ := hv Es[i] (List.getElem_mem hlt)
    have ih := bof_loop N hN Es hE hv L lm rm k (i + 1) (adF A Es[i]) (by omega) (by rw [adF_length]; exact hA) (adF_small hS (by omega) (by omega))
    rw [List.drop_eq_getElem_cons hlt]
    have v0 : 0 ≤ Es[i].2 := by omega
    have un : Es[i].1 < (N : Int) := by omega
    have u0' : ¬ Es[i].1 < 0 := by omega
    have v0' : ¬ Es[i].2 < 0 := by omega
    have uN : Es[i].1.toNat < N := by omega
    have vN : Es[i].2.toNat < N := by omega
    have pu := pow_lt64 (v := Es[i].1) (by omega) u0
    have pv := pow_lt64 (v := Es[i].2) (by omega) v0
    have su := shlU (v := Es[i].1) u0 (by omega)
    have sv := shlU (v := Es[i].2) v0 (by omega)
    have su' : IntKind.u64.wrap (2 ^ (min Es[i].1.toNat 64)) = ((2 ^ Es[i].1.toNat : Nat) : Int) := by rw [← su, Int.one_mul]
    have sv' : IntKind.u64.wrap (2 ^ (min Es[i].2.toNat 64)) = ((2 ^ Es[i].2.toNat : Nat) : Int) := by rw [← sv, Int.one_mul]
    have gu : (us A)[Es[i].1.toNat]? = some (.int .u64 (A.getD Es[i].1.toNat 0 : Nat)) := by
      rw [us_get, List.getD_eq_getElem?_getD, List.getElem?_eq_getElem (by omega)]; rfl
    have xu := getD_lt hS Es[i].1.toNat
    have ou := u64_or_nat (A.getD Es[i].1.toNat 0) (2 ^ Es[i].2.toNat) xu pv
    have eu := us_set A Es[i].1.toNat (A.getD Es[i].1.toNat 0 ||| 2 ^ Es[i].2.toNat)
    have sm : Small (A.set Es[i].1.toNat (A.getD Es[i].1.toNat 0 ||| 2 ^ Es[i].2.toNat)) := set_small hS (Nat.or_lt_two_pow (n := 64) xu pv)
    have eln : (A.set Es[i].1.toNat (A.getD Es[i].1.toNat 0 ||| 2 ^ Es[i].2.toNat)).length = N := by rw [List.length_set]; exact hA
    have ead : adjOf (Es[i] :: Es.drop (i + 1)) A = adjOf (Es.drop (i + 1)) (adF A Es[i]) := rfl
    rw [ead]
    have eA : adF A Es[i] = (A.set Es[i].1.toNat (A.getD Es[i].1.toNat 0 ||| 2 ^ Es[i].2.toNat)).set Es[i].2.toNat ((A.set Es[i].1.toNat (A.getD Es[i].1.toNat 0 ||| 2 ^ Es[i].2.toNat)).getD Es[i].2.toNat 0 ||| 2 ^ Es[i].1.toNat) := rfl
    rw [eA] at ih ⊢
    generalize hA1 : A.set Es[i].1.toNat (A.getD Es[i].1.toNat 0 ||| 2 ^ Es[i].2.toNat) = A1 at *
    have gv : (us A1)[Es[i].2.toNat]? = some (.int .u64 (A1.getD Es[i].2.toNat 0 : Nat)) := by
      rw [us_get, List.getD_eq_getElem?_getD, List.getElem?_eq_getElem (by omega)]; rfl
    have ov := u64_or_nat (A1.getD Es[i].2.toNat 0) (2 ^ Es[i].1.toNat) (getD_lt sm _) pu
    have ev := us_set A1 Es[i].2.toNat (A1.getD Es[i].2.toNat 0 ||| 2 ^ Es[i].1.toNat)
    generalize A1.getD Es[i].2.toNat 0 ||| 2 ^ Es[i].1.toNat = q at *
    generalize A.getD Es[i].1.toNat 0 ||| 2 ^ Es[i].2.toNat = p at *
    generalize A1.getD Es[i].2.toNat 0 = y at *
    generalize A.getD Es[i].1.toNat 0 = x at *
    generalize 2 ^ Es[i].1.toNat = pU at *
    generalize 2 ^ Es[i].2.toNat = pV at *
    clear pu pv xu sm eA ead hA1
    have gu' : ∀ h : Es[i].1.toNat < (us A).length, (us A)[Es[i].1.toNat] = .int .u64 (x : Int) := fun h => by rw [List.getElem?_eq_getElem h] at gu; exact Option.some.inj gu
    have gv' : ∀ h : Es[i].2.toNat < (us A1).length, (us A1)[Es[i].2.toNat] = .int .u64 (y : Int) := fun h => by rw [List.getElem?_eq_getElem h] at gv; exact Option.some.inj gv
    refine (loop_next (s' := ⟨[(2, .ptr 1 0), (3, .ptr 2 0), (25, .list 2 (eds Es)), (26, .int .i64 Es.length), (27, .int .i64 ((i + 1 : Nat) : Int))], ofH N Es L (A1.set Es[i].2.toNat q) lm rm⟩) ?_).trans ih
    unfold lBicliqueOfX0 ofH
    simp [rBicliqueOfX0, rBicliqueOfX1, rBicliqueOfX2, rBicliqueOfX3, rBicliqueOfX4, rBicliqueOfX5, rBicliqueOfX6, rBicliqueOfX7, rBicliqueOfX8, rBicliqueOfX9, h1, hlt, hw, u0, v0, u0', v0', un, vn, uN, vN, su, sv, su', sv', gu, gv, gu', gv', ou, ov, eu, ev, hA, eln, us_length, idx, IntKind.bits, fz, pl, AV.leaf, blk, eds_length, eds_get, edsAt, edAV, allLeaf_eds, cleanL_eds, cleanL_ints, ints_length, ints_get, intsAt, endL, finB]
theorem bof_run {N : Nat} {Es : List Ed} {L : List Int} (h : BOK N Es L) (hE : Es.length < 4294967295) (hL : L.length < 4294967295) : callL cfgS nBicliqueOf [.agg [.int .i64 N, .list 2 (eds Es), .list 1 (ints L)]] [] = some (.agg (sdAV (adjE N Es) (msk L) (rgt N L)), []) := by
  rw [callL_end oBicliqueOf sBicliqueOf (Nat.le_of_ble_eq_true rfl)]
  have hn := h.n
  have hb : ∀ v ∈ L, 0 ≤ v ∧ v < 64 := fun v hv => by have := h.l.2 v hv; omega
  have hl := bof_loop N hn Es hE h.e.2 L (msk L) (rgt N L) Es.length 0 (List.replicate N 0) (by omega) (by simp) (fun x hx => by have := List.eq_of_mem_replicate hx; omega)
  rw [nat0, List.drop_zero] at hl
  have hm := mask_run L hL hb
  have r1 : List.replicate N (AV.int .u64 0) = us (List.replicate N 0) := us_rep N
  have n0 : ¬ (N : Int) < 0 := by omega
  have nL : (N : Int) ≤ 4294967296 := by omega
  have e1 : IntKind.u64.wrap (1 * 2 ^ (min N 64)) = IntKind.u64.wrap ((2 ^ N : Nat) : Int) := by rw [show min N 64 = N by omega, Int.one_mul]; simp
  have e1' : IntKind.u64.wrap (2 ^ (min N 64)) = IntKind.u64.wrap ((2 ^ N : Nat) : Int) := by rw [show min N 64 = N by omega]; simp
  have hp : 0 < 2 ^ N := Nat.two_pow_pos N
  have hq : 2 ^ N ≤ 2 ^ 64 := Nat.pow_le_pow_right (by decide) hn
  have e2 : IntKind.u64.wrap (IntKind.u64.wrap ((2 ^ N : Nat) : Int) - 1) = ((2 ^ N - 1 : Nat) : Int) := by
    rw [IntKind.wrap_u64, IntKind.wrap_u64]; omega
  have e3 := u64_andNot_nat (2 ^ N - 1) (msk L) (by omega) (msk_lt fun v hv => (hb v hv).2)
  have e4 : (2 ^ N - 1) &&& (18446744073709551615 - msk L) = rgt N L := rfl
  rw [e4] at e3
  unfold ofH at hl
  unfold sdAV
  have ea : adjOf Es (List.replicate N 0) = adjE N Es := rfl
  rw [ea] at hl
  generalize IntKind.u64.wrap ((2 ^ N : Nat) : Int) = W at *
  generalize 2 ^ N - 1 = W1 at *
  unfold qBicliqueOf cBicliqueOf
  simp [rBicliqueOfX0, rBicliqueOfX1, rBicliqueOfX2, rBicliqueOfX3, rBicliqueOfX4, rBicliqueOfX5, rBicliqueOfX6, rBicliqueOfX7, rBicliqueOfX8, rBicliqueOfX9, hl, hm, r1, n0, nL, e1, e1', e2, e3, us_length, us_take, LIM, IntKind.bits, sBicliqueMask, iBicliqueMask, blk, eds_length, eds_get, edsAt, edAV, allLeaf_eds, cleanL_eds, cleanL_ints, ints_length, ints_get, intsAt, endL, finB]
end
end Go.BmP
