/- The law: with the sides exchanged, the maximal pairs are the same, exchanged. -/
import Derived.Test.YtikffbngaolphaaDoorK18
import Derived.Test.YtikffbngaolphaaDoorK11
set_option linter.unusedSimpArgs false
set_option linter.unusedVariables false
set_option maxRecDepth 100000
set_option maxHeartbeats 4000000
namespace Go.BmP
open Go.Am Go.Bm
theorem prs_get (N : Nat) (Es : List Ed) (L : List Int) (o : List (List Int)) (i : Nat) : (prs N Es L o)[i]? = (o[i]?).map fun S => pr S (clR N Es L S) := List.getElem?_map
theorem prsAt (N : Nat) (Es : List Ed) (L : List Int) (o : List (List Int)) (i : Nat) (h : i < (prs N Es L o).length) : (prs N Es L o)[i] = .agg [.list 1 (ints (o[i]'(by simpa [prs] using h))), .list 1 (ints (clR N Es L (o[i]'(by simpa [prs] using h))))] := by simp [prs, pr]
def hitT (N : Nat) (Es : List Ed) (M S T : List Int) (o : List (List Int)) : Bool := o.any fun S' => decide (S = clR N Es M S' ∧ T = S')
section
attribute [local simp] codeL_seq codeL_reg codeL_blk codeL_skip codeL_ret codeL_exit codeL_cnd condL_b thenL_n thenL_e thenL_r blkL_n blkL_e blkL_r regL_s opsB stepB opB opP opnd opnds lend lendC get_nil' get_cons' put_nil' put_cons' mem_nil' mem_cons' putdB putB slowP hasOwn hasOwnL finO relab anyB anyE anyH anyR borOf borL inSlot HAND endR hasOwnE endK keepIn trim noPtr noPtrL noPtrE noPtrH binA arith unA eqB isNilB eqc lenB bndB bnd rdN rdc AV.cells fillB peek ldOK AV.leaf allLeaf fz pl plL drawB allCW cwF okDrawB okPair Fq.ok dstOff wrOff notSlot noneIn apartR oldBoxes O.reads Kd.reads E.slot slots slotO slotsP List.getD pairIn nilL okRes clean cleanL resV resVs tupOf mkEnv partsBor doCallB inpB getArgs doCallO frzA frzV frzL minA minF cont ownAt at_ setAt rel dropS relC dropAll frzP frzAll firstBor borIn borC borS borE borH handTo mapSt mapE mapH mapB mapBL sw rt fb mvB mvRt seesP inRt isRoot rootOf boxOf seesB rootsL Am.rep ovw flatCells_ints allLeaf_ints flatCells el grp updE isNilB inpV inpL stB okL unA orcA bndB plL_ints fzL stBox inCells wrap0 wrap1 wrapm1 take_snoc
theorem trn_in (N : Nat) (Es : List Ed) (L M : List Int) (o1 o2 : List (List Int)) (S T : List Int) (hS : S.length ≤ 64) (hT : T.length ≤ 64) (h2 : ∀ x ∈ o2, x.length ≤ 64) (h3 : ∀ x, (clR N Es M x).length ≤ 64) (hl : o2.length ≤ 4096) (i : Int) : ∀ (k j : Nat) (f : Bool), j + k = o2.length → codeL cfgS 0 (.loop lLaw27BicliqueTurnsX0) ⟨[(7, .list 2 (prs N Es M o2)), (10, .ptr 0 0), (11, .bool f), (54, .list 2 (prs N Es L o1)), (55, .int .i64 o1.length), (56, .int .i64 i), (60, .list 2 (prs N Es M o2)), (61, .int .i64 o2.length), (62, .int .i64 j)], [some [.list 1 (ints S), .list 1 (ints T)]]⟩ =
    some (.exit 2, ⟨[(7, .list 2 (prs N Es M o2)), (10, .ptr 0 0), (11, .bool (f || hitT N Es M S T (o2.drop j))), (54, .list 2 (prs N Es L o1)), (55, .int .i64 o1.length), (56, .int .i64 i), (60, .list 2 (prs N Es M o2)), (61, .int .i64 o2.length), (62, .int .i64 o2.length), (63, .bool false)], [some [.list 1 (ints S), .list 1 (ints T)]]⟩)
  | 0, j, f, hj => by
    obtain rfl : j = o2.length := by omega
    rw [List.drop_length]
    exact loop_exit (by unfold lLaw27BicliqueTurnsX0; simp [rLaw27BicliqueTurnsX0, rLaw27BicliqueTurnsX1, rLaw27BicliqueTurnsX2, rLaw27BicliqueTurnsX3, rLaw27BicliqueTurnsX4, rLaw27BicliqueTurnsX5, rLaw27BicliqueTurnsX6, rLaw27BicliqueTurnsX7, rLaw27BicliqueTurnsX8, rLaw27BicliqueTurnsX9, rLaw27BicliqueTurnsX10, rLaw27BicliqueTurnsX11, rLaw27BicliqueTurnsX12, rLaw27BicliqueTurnsX13, rLaw27BicliqueTurnsX14, rLaw27BicliqueTurnsX15, rLaw27BicliqueTurnsX16, rLaw27BicliqueTurnsX17, rLaw27BicliqueTurnsX18, rLaw27BicliqueTurnsX19, rLaw27BicliqueTurnsX20, rLaw27BicliqueTurnsX21, hitT, List.any_nil, blk, eds_length, eds_get, edsAt, edAV, allLeaf_eds, cleanL_eds, cleanL_ints, ints_length, ints_get, intsAt, endL, finB])
  | k + 1, j, f, hj => by
    have hlt : j < o2.length := by omega
    have h1 : (j : Int) < o2.length := by omega
    have hw := wrapS (i := j) (by omega)
    have ih := trn_in N Es L M o1 o2 S T hS hT h2 h3 hl i k (j + 1) (f || decide (S = clR N Es M o2[j] ∧ T = o2[j])) (by omega)
    have hx := h2 o2[j] (List.getElem_mem hlt)
    have hy := h3 o2[j]
    have sm := same27_run S T (clR N Es M o2[j]) o2[j] (by omega) (by omega) (by omega) (by omega)
    have e : hitT N Es M S T (o2.drop j) = (decide (S = clR N Es M o2[j] ∧ T = o2[j]) || hitT N Es M S T (o2.drop (j + 1))) := by
      rw [List.drop_eq_getElem_cons hlt]
      rfl
    rw [e, ← Bool.or_assoc]
    have i1 := idx_lt (k := .i64) (i := (j : Int)) (n := o2.length) (by omega) h1
    have g1 : ∀ h, (prs N Es M o2)[j]'h = AV.agg [.list 1 (ints o2[j]), .list 1 (ints (clR N Es M o2[j]))] := fun h => prsAt ..
    have g2 := prs_length N Es M o2
    have g3 : (prs N Es M o2)[j]? = some (.agg [.list 1 (ints o2[j]), .list 1 (ints (clR N Es M o2[j]))]) := by rw [prs_get, List.getElem?_eq_getElem hlt]; rfl
    generalize decide (S = clR N Es M o2[j] ∧ T = o2[j]) = d at *
    generalize prs N Es L o1 = X at *
    generalize prs N Es M o2 = Y at *
    generalize clR N Es M o2[j] = Q at *
    generalize o2[j] = R at *
    refine (loop_next ?_).trans ih
    unfold lLaw27BicliqueTurnsX0
    cases f <;> simp [rLaw27BicliqueTurnsX0, rLaw27BicliqueTurnsX1, rLaw27BicliqueTurnsX2, rLaw27BicliqueTurnsX3, rLaw27BicliqueTurnsX4, rLaw27BicliqueTurnsX5, rLaw27BicliqueTurnsX6, rLaw27BicliqueTurnsX7, rLaw27BicliqueTurnsX8, rLaw27BicliqueTurnsX9, rLaw27BicliqueTurnsX10, rLaw27BicliqueTurnsX11, rLaw27BicliqueTurnsX12, rLaw27BicliqueTurnsX13, rLaw27BicliqueTurnsX14, rLaw27BicliqueTurnsX15, rLaw27BicliqueTurnsX16, rLaw27BicliqueTurnsX17, rLaw27BicliqueTurnsX18, rLaw27BicliqueTurnsX19, rLaw27BicliqueTurnsX20, rLaw27BicliqueTurnsX21, h1, hw, hlt, i1, g1, g2, g3, sm, sRef27Same, iRef27Same, blk, eds_length, eds_get, edsAt, edAV, allLeaf_eds, cleanL_eds, cleanL_ints, ints_length, ints_get, intsAt, endL, finB]
theorem trn_out (N : Nat) (Es : List Ed) (L M : List Int) (o1 o2 : List (List Int)) (hall : ∀ S ∈ o1, hitT N Es M S (clR N Es L S) o2 = true) (h1l : ∀ x ∈ o1, x.length ≤ 64) (h2 : ∀ x ∈ o2, x.length ≤ 64) (h3 : ∀ x, (clR N Es M x).length ≤ 64) (h3' : ∀ x, (clR N Es L x).length ≤ 64) (hl1 : o1.length ≤ 4096) (hl : o2.length ≤ 4096) : ∀ (k i : Nat), i + k = o1.length → codeL cfgS 0 (.loop lLaw27BicliqueTurnsX1) ⟨[(7, .list 2 (prs N Es M o2)), (54, .list 2 (prs N Es L o1)), (55, .int .i64 o1.length), (56, .int .i64 i)], []⟩ =
    some (.exit 0, ⟨[(7, .list 2 (prs N Es M o2)), (54, .list 2 (prs N Es L o1)), (55, .int .i64 o1.length), (56, .int .i64 o1.length), (57, .bool false)], []⟩)
  | 0, i, hi => by
    obtain rfl : i = o1.length := by omega
    exact loop_exit (by unfold lLaw27BicliqueTurnsX1; simp [rLaw27BicliqueTurnsX0, rLaw27BicliqueTurnsX1, rLaw27BicliqueTurnsX2, rLaw27BicliqueTurnsX3, rLaw27BicliqueTurnsX4, rLaw27BicliqueTurnsX5, rLaw27BicliqueTurnsX6, rLaw27BicliqueTurnsX7, rLaw27BicliqueTurnsX8, rLaw27BicliqueTurnsX9, rLaw27BicliqueTurnsX10, rLaw27BicliqueTurnsX11, rLaw27BicliqueTurnsX12, rLaw27BicliqueTurnsX13, rLaw27BicliqueTurnsX14, rLaw27BicliqueTurnsX15, rLaw27BicliqueTurnsX16, rLaw27BicliqueTurnsX17, rLaw27BicliqueTurnsX18, rLaw27BicliqueTurnsX19, rLaw27BicliqueTurnsX20, rLaw27BicliqueTurnsX21, blk, eds_length, eds_get, edsAt, edAV, allLeaf_eds, cleanL_eds, cleanL_ints, ints_length, ints_get, intsAt, endL, finB])
  | k + 1, i, hi => by
    have hlt : i < o1.length := by omega
    have h1 : (i : Int) < o1.length := by omega
    have hw := wrapS (i := i) (by omega)
    have ih := trn_out N Es L M o1 o2 hall h1l h2 h3 h3' hl1 hl k (i + 1) (by omega)
    have lp := trn_in N Es L M o1 o2 o1[i] (clR N Es L o1[i]) (h1l _ (List.getElem_mem hlt)) (h3' _) h2 h3 hl (i : Int) o2.length 0 false (by omega)
    rw [nat0, List.drop_zero, Bool.false_or, hall _ (List.getElem_mem hlt)] at lp
    have i1 := idx_lt (k := .i64) (i := (i : Int)) (n := o1.length) (by omega) h1
    have g1 : ∀ h, (prs N Es L o1)[i]'h = AV.agg [.list 1 (ints o1[i]), .list 1 (ints (clR N Es L o1[i]))] := fun h => prsAt ..
    have g2 := prs_length N Es L o1
    have g4 := prs_length N Es M o2
    have g3 : (prs N Es L o1)[i]? = some (.agg [.list 1 (ints o1[i]), .list 1 (ints (clR N Es L o1[i]))]) := by rw [prs_get, List.getElem?_eq_getElem hlt]; rfl
    generalize prs N Es L o1 = X at *
    generalize prs N Es M o2 = Y at *
    generalize clR N Es L o1[i] = Q at *
    generalize o1[i] = R at *
    refine (loop_next ?_).trans ih
    unfold lLaw27BicliqueTurnsX1
    simp [rLaw27BicliqueTurnsX0, rLaw27BicliqueTurnsX1, rLaw27BicliqueTurnsX2, rLaw27BicliqueTurnsX3, rLaw27BicliqueTurnsX4, rLaw27BicliqueTurnsX5, rLaw27BicliqueTurnsX6, rLaw27BicliqueTurnsX7, rLaw27BicliqueTurnsX8, rLaw27BicliqueTurnsX9, rLaw27BicliqueTurnsX10, rLaw27BicliqueTurnsX11, rLaw27BicliqueTurnsX12, rLaw27BicliqueTurnsX13, rLaw27BicliqueTurnsX14, rLaw27BicliqueTurnsX15, rLaw27BicliqueTurnsX16, rLaw27BicliqueTurnsX17, rLaw27BicliqueTurnsX18, rLaw27BicliqueTurnsX19, rLaw27BicliqueTurnsX20, rLaw27BicliqueTurnsX21, h1, hw, hlt, i1, g1, g2, g3, g4, lp, blk, eds_length, eds_get, edsAt, edAV, allLeaf_eds, cleanL_eds, cleanL_ints, ints_length, ints_get, intsAt, endL, finB]
end
theorem othr_minus {N : Nat} {Es : List Ed} {L : List Int} (h : BOK N Es L) : Othr N L (minus (rangeI N) L) := ⟨(minus_spec _ _).1, fun x => by
  have hn := h.n
  rw [(minus_spec _ _).2]
  have : x ∈ rangeI N ↔ 0 ≤ x ∧ x < (N : Int) := by
    unfold rangeI
    rw [List.mem_map]
    constructor
    · rintro ⟨j, hj, rfl⟩
      have := List.mem_range.1 hj
      omega
    · intro k
      exact ⟨x.toNat, List.mem_range.2 (by omega), by omega⟩
  rw [this]⟩
theorem clR_len (N : Nat) (Es : List Ed) (L S : List Int) : (clR N Es L S).length ≤ 64 := bitL_len _
theorem allC_bd {N : Nat} {Es : List Ed} {L : List Int} (h : BOK N Es L) : ∀ S ∈ allC N Es L, S.length ≤ 64 := fun S hS => by
  obtain ⟨⟨k1, k2, k3⟩, _⟩ := (allC_mem h).1 hS
  exact up_len k1 (bOK_bd h k3)
section
attribute [local simp] codeL_seq codeL_reg codeL_blk codeL_skip codeL_ret codeL_exit codeL_cnd condL_b thenL_n thenL_e thenL_r blkL_n blkL_e blkL_r regL_s opsB stepB opB opP opnd opnds lend lendC get_nil' get_cons' put_nil' put_cons' mem_nil' mem_cons' putdB putB slowP hasOwn hasOwnL finO relab anyB anyE anyH anyR borOf borL inSlot HAND endR hasOwnE endK keepIn trim noPtr noPtrL noPtrE noPtrH binA arith unA eqB isNilB eqc lenB bndB bnd rdN rdc AV.cells fillB peek ldOK AV.leaf allLeaf fz pl plL drawB allCW cwF okDrawB okPair Fq.ok dstOff wrOff notSlot noneIn apartR oldBoxes O.reads Kd.reads E.slot slots slotO slotsP List.getD pairIn nilL okRes clean cleanL resV resVs tupOf mkEnv partsBor doCallB inpB getArgs doCallO frzA frzV frzL minA minF cont ownAt at_ setAt rel dropS relC dropAll frzP frzAll firstBor borIn borC borS borE borH handTo mapSt mapE mapH mapB mapBL sw rt fb mvB mvRt seesP inRt isRoot rootOf boxOf seesB rootsL Am.rep ovw flatCells_ints allLeaf_ints flatCells el grp updE isNilB inpV inpL stB okL unA orcA bndB plL_ints fzL stBox inCells wrap0 wrap1 wrapm1 take_snoc
theorem turns_law (l : List Int) : callL cfgS nLaw27BicliqueTurns [.list 1 (ints l)] [] = some (.bool true, []) := by
  rw [callL_end oLaw27BicliqueTurns sLaw27BicliqueTurns (Nat.le_of_ble_eq_true rfl)]
  have aw := awake27
  have few := few_run l
  by_cases hl : (l.length : Int) ≤ 500
  case neg =>
    unfold qLaw27BicliqueTurns cLaw27BicliqueTurns
    simp [rLaw27BicliqueTurnsX0, rLaw27BicliqueTurnsX1, rLaw27BicliqueTurnsX2, rLaw27BicliqueTurnsX3, rLaw27BicliqueTurnsX4, rLaw27BicliqueTurnsX5, rLaw27BicliqueTurnsX6, rLaw27BicliqueTurnsX7, rLaw27BicliqueTurnsX8, rLaw27BicliqueTurnsX9, rLaw27BicliqueTurnsX10, rLaw27BicliqueTurnsX11, rLaw27BicliqueTurnsX12, rLaw27BicliqueTurnsX13, rLaw27BicliqueTurnsX14, rLaw27BicliqueTurnsX15, rLaw27BicliqueTurnsX16, rLaw27BicliqueTurnsX17, rLaw27BicliqueTurnsX18, rLaw27BicliqueTurnsX19, rLaw27BicliqueTurnsX20, rLaw27BicliqueTurnsX21, few, hl, aw, sMakeFew, iMakeFew, sLaw27Awake, iLaw27Awake, blk, eds_length, eds_get, edsAt, edAV, allLeaf_eds, cleanL_eds, cleanL_ints, ints_length, ints_get, intsAt, endL, finB]
  have hl5 : l.length ≤ 500 := by omega
  have n1 := new_run l
  obtain ⟨N, Es, L, a1, n2, hB, hN, hEl, hLl⟩ := sided_run l hl5 8 (by omega) 0
  have hM := othr_minus hB
  have hB2 := swapB hB hM
  have r1 := range_run (N : Int)
  have lr : (rangeI (N : Int)).length ≤ 64 := by unfold rangeI; simp; omega
  have r2 := minus_run (rangeI N) L (by omega) (by omega)
  have lM : (minus (rangeI N) L).length ≤ 64 := up_len hM.1 fun x hx => by
    have := (hM.2 x).1 hx; omega
  have w1 := all_run hB (by omega) (by omega) 4096
  have w2 := all_run hB2 (by omega) (by omega) 4096
  have p8 : ∀ {L : List Int}, BOK N Es L → (allC N Es L).length ≤ 256 := fun {L} h => by
    have f := allC_few h
    have : L.length ≤ 8 := by
      have hs := sub_of_up (L := rangeI N) (S := L) h.l.1 (by
        unfold rangeI Up
        exact List.Pairwise.map _ (fun a b h => by omega) List.pairwise_lt_range) fun x hx => by
        have := h.l.2 x hx
        unfold rangeI
        rw [List.mem_map]
        exact ⟨x.toNat, List.mem_range.2 (by omega), by omega⟩
      have := hs.length_le
      unfold rangeI at this
      simp at this
      omega
    have : 2 ^ L.length ≤ 2 ^ 8 := Nat.pow_le_pow_right (by decide) this
    omega
  have q1 := p8 hB
  have q2 := p8 hB2
  rw [if_neg (by omega), if_pos (by omega)] at w1 w2
  have ll := allC_len hB hM
  have lp := trn_out N Es L (minus (rangeI N) L) (allC N Es L) (allC N Es (minus (rangeI N) L)) (fun S hS => by
    obtain ⟨k1, k2⟩ := swap_mem hB hM hS
    unfold hitT
    rw [List.any_eq_true]
    exact ⟨_, k1, by simp [k2]⟩) (allC_bd hB) (allC_bd hB2) (clR_len N Es _) (clR_len N Es _) (by omega) (by omega) (allC N Es L).length 0 (by omega)
  rw [nat0] at lp
  clear p8 lr hM hN hB hB2
  generalize minus (rangeI N) L = M at *
  have g1 := prs_length N Es L (allC N Es L)
  have g2 := prs_length N Es M (allC N Es M)
  generalize prs N Es L (allC N Es L) = X at *
  generalize prs N Es M (allC N Es M) = Y at *
  generalize (allC N Es L).length = n at *
  subst ll
  unfold dk at *
  simp only [nat0, show ((8 : Nat) : Int) = 8 from rfl] at n1 n2
  unfold qLaw27BicliqueTurns cLaw27BicliqueTurns
  simp [rLaw27BicliqueTurnsX0, rLaw27BicliqueTurnsX1, rLaw27BicliqueTurnsX2, rLaw27BicliqueTurnsX3, rLaw27BicliqueTurnsX4, rLaw27BicliqueTurnsX5, rLaw27BicliqueTurnsX6, rLaw27BicliqueTurnsX7, rLaw27BicliqueTurnsX8, rLaw27BicliqueTurnsX9, rLaw27BicliqueTurnsX10, rLaw27BicliqueTurnsX11, rLaw27BicliqueTurnsX12, rLaw27BicliqueTurnsX13, rLaw27BicliqueTurnsX14, rLaw27BicliqueTurnsX15, rLaw27BicliqueTurnsX16, rLaw27BicliqueTurnsX17, rLaw27BicliqueTurnsX18, rLaw27BicliqueTurnsX19, rLaw27BicliqueTurnsX20, rLaw27BicliqueTurnsX21, few, hl, n1, n2, r1, r2, w1, w2, g1, g2, lp, aw, sMakeFew, iMakeFew, sMakeNew, iMakeNew, sFieldSided, iFieldSided, sRef02Range, iRef02Range, sRef02Minus, iRef02Minus, sBicliqueAll, iBicliqueAll, sLaw27Awake, iLaw27Awake, plp, plpL, allB, notBox, swC, swS, seesC, inBox, offSame, calmB, ptrs, ptrsL, blkE, avE, avLE, avLE_ints, avLE_eds, blk, eds_length, eds_get, edsAt, edAV, allLeaf_eds, cleanL_eds, cleanL_ints, ints_length, ints_get, intsAt, endL, finB]
end
end Go.BmP
