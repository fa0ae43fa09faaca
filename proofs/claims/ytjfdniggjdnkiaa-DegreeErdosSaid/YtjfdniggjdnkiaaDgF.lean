/- What cohesionlaw09.DegreeErdos returns. -/
import Derived.Test.YtjfdniggjdnkiaaDgE
set_option linter.unusedSimpArgs false
set_option linter.unusedVariables false
set_option maxRecDepth 100000
set_option maxHeartbeats 4000000
namespace Go.BmP
open Go.Am Go.Bm
section
attribute [local simp] codeL_seq codeL_reg codeL_blk codeL_skip codeL_ret codeL_exit codeL_cnd condL_b thenL_n thenL_e thenL_r blkL_n blkL_e blkL_r regL_s opsB stepB opB opP opnd opnds lend lendC get_nil' get_cons' put_nil' put_cons' mem_nil' mem_cons' putdB putB slowP hasOwn hasOwnL finO relab anyB anyE anyH anyR borOf borL inSlot HAND endR hasOwnE endK keepIn trim noPtr noPtrL noPtrE noPtrH binA arith unA eqB isNilB eqc lenB bndB bnd rdN rdc AV.cells fillB peek ldOK AV.leaf allLeaf fz pl plL drawB allCW cwF okDrawB okPair Fq.ok dstOff wrOff notSlot noneIn apartR oldBoxes O.reads Kd.reads E.slot slots slotO slotsP List.getD pairIn nilL okRes clean cleanL resV resVs tupOf mkEnv partsBor doCallB inpB getArgs doCallO frzA frzV frzL minA minF cont ownAt at_ setAt rel dropS relC dropAll frzP frzAll firstBor borIn borC borS borE borH handTo mapSt mapE mapH mapB mapBL sw rt fb mvB mvRt seesP inRt isRoot rootOf boxOf seesB rootsL Am.rep ovw flatCells_ints allLeaf_ints flatCells el grp updE isNilB inpV inpL stB okL unA orcA bndB plL_ints fzL stBox inCells wrap0 wrap1 wrapm1 take_snoc BIGB marks boxZ ldLab cellOf cellN CELLM boxIn isCell apartC frzR frzRL frzS frzC frzCL eatN locN empN getArgs0 nob nobL notBox frzLab eatE0 isFn anyFn locB
theorem er4 (x Y : List Int) (w : Bool) (hY : ∀ d ∈ Y, 0 ≤ d ∧ d ≤ 7) (hl : Y.length ≤ 12) : ∀ n j : Nat, j + n = Y.length → codeL cfgS 0 (.loop lLaw09DegreeErdosX4) ⟨[(3, .own 1 (ints x)), (5, .own 1 (ints Y)), (9, .bool (w && egs Y j)), (10, .int .i64 (sumI (Y.take j))), (11, .int .i64 ((j : Int) + 1))], []⟩ = some (.exit 6, ⟨[(3, .own 1 (ints x)), (5, .own 1 (ints Y)), (9, .bool (w && egs Y Y.length)), (10, .int .i64 (sumI Y)), (11, .int .i64 ((Y.length : Int) + 1)), (86, .bool false)], []⟩)
  | 0, j, e => by
    obtain rfl : j = Y.length := by omega
    rw [List.take_length]
    have h1 : ¬ (Y.length : Int) + 1 ≤ Y.length := by omega
    exact loop_exit (by unfold lLaw09DegreeErdosX4; simp [rLaw09DegreeErdosX0, rLaw09DegreeErdosX1, rLaw09DegreeErdosX2, rLaw09DegreeErdosX3, rLaw09DegreeErdosX4, rLaw09DegreeErdosX5, rLaw09DegreeErdosX6, rLaw09DegreeErdosX7, rLaw09DegreeErdosX8, rLaw09DegreeErdosX9, rLaw09DegreeErdosX10, rLaw09DegreeErdosX11, rLaw09DegreeErdosX12, rLaw09DegreeErdosX13, rLaw09DegreeErdosX14, rLaw09DegreeErdosX15, rLaw09DegreeErdosX16, rLaw09DegreeErdosX17, rLaw09DegreeErdosX18, rLaw09DegreeErdosX19, rLaw09DegreeErdosX20, rLaw09DegreeErdosX21, rLaw09DegreeErdosX22, rLaw09DegreeErdosX23, rLaw09DegreeErdosX24, rLaw09DegreeErdosX25, rLaw09DegreeErdosX26, rLaw09DegreeErdosX27, rLaw09DegreeErdosX28, rLaw09DegreeErdosX29, rLaw09DegreeErdosX30, h1, ints_length, blk, eds_length, eds_get, edsAt, edAV, allLeaf_eds, cleanL_eds, cleanL_ints, ints_length, ints_get, intsAt, endL, finB])
  | n + 1, j, e => by
    have h1 : j < Y.length := by omega
    have h2 : (j : Int) < (Y.length : Int) := by omega
    have h2b : (j : Int) + 1 ≤ (Y.length : Int) := by omega
    have h3 : (0 : Int) ≤ (j : Int) := by omega
    have h3b : (0 : Int) ≤ (j : Int) + 1 := by omega
    have ew : IntKind.i64.wrap ((j : Int) + 1 - 1) = (j : Int) := by rw [show (j : Int) + 1 - 1 = (j : Int) by omega, wrap_id (by omega) (by omega)]
    have ew0 : IntKind.i64.wrap (j : Int) = (j : Int) := wrap_id (by omega) (by omega)
    have w2 : IntKind.i64.wrap ((j : Int) + 1 + 1) = (j : Int) + 1 + 1 := wrap_id (by omega) (by omega)
    have et : ((j : Int) + 1).toNat = j + 1 := by omega
    have ih := er4 x Y w hY hl n (j + 1) (by omega)
    have hs : sumI (Y.take (j + 1)) = sumI (Y.take j) + Y[j] := by rw [List.take_succ_eq_append_getElem h1, sumI_snoc]
    have b1 := sumI_bd (b := 7) (l := Y.take j) fun d hd => hY d (List.mem_of_mem_take hd)
    have b2 := hY Y[j] (List.getElem_mem h1)
    have b3 : ((Y.take j).length : Int) ≤ 12 := by rw [List.length_take]; omega
    obtain ⟨L2, eL⟩ : ∃ z, z = sumI (Y.take j) + Y[j] := ⟨_, rfl⟩
    have w1 : IntKind.i64.wrap (sumI (Y.take j) + Y[j]) = L2 := by rw [eL]; exact wrap_id (by omega) (by omega)
    have hb : 0 ≤ ((j : Int) + 1) * (j : Int) ∧ ((j : Int) + 1) * (j : Int) ≤ 12 * 12 := ⟨Int.mul_nonneg (by omega) (by omega), Int.mul_le_mul (by omega) (by omega) (by omega) (by omega)⟩
    obtain ⟨P, eP⟩ : ∃ z, z = ((j : Int) + 1) * (j : Int) := ⟨_, rfl⟩
    have w3 : IntKind.i64.wrap (((j : Int) + 1) * (j : Int)) = P := by rw [eP]; exact wrap_id (by omega) (by omega)
    have eg : egs Y (j + 1) = (egs Y j && decide (sumI (Y.take j) + Y[j] ≤ ((j : Int) + 1) * (j : Int) + sumI ((Y.drop (j + 1)).map (mnk ((j : Int) + 1))))) := by
      rw [egs]; unfold egK
      rw [hs, show ((j + 1 : Nat) : Int) = (j : Int) + 1 by omega, show (j : Int) + 1 - 1 = (j : Int) by omega]
    have lp := er3 x Y (w && egs Y j) (sumI (Y.take j) + Y[j]) (j + 1) hY hl (by omega) (((j : Int) + 1) * (j : Int)) (by omega) (Y.length - (j + 1)) 0 (by omega)
    rw [List.take_zero, List.map_nil, show sumI [] = 0 from rfl, Int.add_zero, show ((j + 1 : Nat) : Int) = (j : Int) + 1 by omega, nat0] at lp
    rw [hs, eg, ← Bool.and_assoc, show ((j + 1 : Nat) : Int) = (j : Int) + 1 by omega] at ih
    rw [← eL, ← eP] at ih lp
    generalize (w && egs Y j) = wj at *
    generalize sumI ((Y.drop (j + 1)).map (mnk ((j : Int) + 1))) = R at *
    cases wj
    · rw [Bool.false_and] at ih
      exact (loop_next (by unfold lLaw09DegreeErdosX4; simp [rLaw09DegreeErdosX0, rLaw09DegreeErdosX1, rLaw09DegreeErdosX2, rLaw09DegreeErdosX3, rLaw09DegreeErdosX4, rLaw09DegreeErdosX5, rLaw09DegreeErdosX6, rLaw09DegreeErdosX7, rLaw09DegreeErdosX8, rLaw09DegreeErdosX9, rLaw09DegreeErdosX10, rLaw09DegreeErdosX11, rLaw09DegreeErdosX12, rLaw09DegreeErdosX13, rLaw09DegreeErdosX14, rLaw09DegreeErdosX15, rLaw09DegreeErdosX16, rLaw09DegreeErdosX17, rLaw09DegreeErdosX18, rLaw09DegreeErdosX19, rLaw09DegreeErdosX20, rLaw09DegreeErdosX21, rLaw09DegreeErdosX22, rLaw09DegreeErdosX23, rLaw09DegreeErdosX24, rLaw09DegreeErdosX25, rLaw09DegreeErdosX26, rLaw09DegreeErdosX27, rLaw09DegreeErdosX28, rLaw09DegreeErdosX29, rLaw09DegreeErdosX30, h1, h2, h2b, h3, h3b, ew, ew0, w1, w2, w3, et, lp, idx, bnd, bndO, ints_length, blk, eds_length, eds_get, edsAt, edAV, allLeaf_eds, cleanL_eds, cleanL_ints, ints_length, ints_get, intsAt, endL, finB])).trans ih
    · rw [Bool.true_and] at ih
      by_cases hc : L2 ≤ P + R
      · rw [decide_eq_true hc] at ih
        exact (loop_next (by unfold lLaw09DegreeErdosX4; simp [rLaw09DegreeErdosX0, rLaw09DegreeErdosX1, rLaw09DegreeErdosX2, rLaw09DegreeErdosX3, rLaw09DegreeErdosX4, rLaw09DegreeErdosX5, rLaw09DegreeErdosX6, rLaw09DegreeErdosX7, rLaw09DegreeErdosX8, rLaw09DegreeErdosX9, rLaw09DegreeErdosX10, rLaw09DegreeErdosX11, rLaw09DegreeErdosX12, rLaw09DegreeErdosX13, rLaw09DegreeErdosX14, rLaw09DegreeErdosX15, rLaw09DegreeErdosX16, rLaw09DegreeErdosX17, rLaw09DegreeErdosX18, rLaw09DegreeErdosX19, rLaw09DegreeErdosX20, rLaw09DegreeErdosX21, rLaw09DegreeErdosX22, rLaw09DegreeErdosX23, rLaw09DegreeErdosX24, rLaw09DegreeErdosX25, rLaw09DegreeErdosX26, rLaw09DegreeErdosX27, rLaw09DegreeErdosX28, rLaw09DegreeErdosX29, rLaw09DegreeErdosX30, h1, h2, h2b, h3, h3b, ew, ew0, w1, w2, w3, et, lp, hc, idx, bnd, bndO, ints_length, blk, eds_length, eds_get, edsAt, edAV, allLeaf_eds, cleanL_eds, cleanL_ints, ints_length, ints_get, intsAt, endL, finB])).trans ih
      · rw [decide_eq_false hc] at ih
        exact (loop_next (by unfold lLaw09DegreeErdosX4; simp [rLaw09DegreeErdosX0, rLaw09DegreeErdosX1, rLaw09DegreeErdosX2, rLaw09DegreeErdosX3, rLaw09DegreeErdosX4, rLaw09DegreeErdosX5, rLaw09DegreeErdosX6, rLaw09DegreeErdosX7, rLaw09DegreeErdosX8, rLaw09DegreeErdosX9, rLaw09DegreeErdosX10, rLaw09DegreeErdosX11, rLaw09DegreeErdosX12, rLaw09DegreeErdosX13, rLaw09DegreeErdosX14, rLaw09DegreeErdosX15, rLaw09DegreeErdosX16, rLaw09DegreeErdosX17, rLaw09DegreeErdosX18, rLaw09DegreeErdosX19, rLaw09DegreeErdosX20, rLaw09DegreeErdosX21, rLaw09DegreeErdosX22, rLaw09DegreeErdosX23, rLaw09DegreeErdosX24, rLaw09DegreeErdosX25, rLaw09DegreeErdosX26, rLaw09DegreeErdosX27, rLaw09DegreeErdosX28, rLaw09DegreeErdosX29, rLaw09DegreeErdosX30, h1, h2, h2b, h3, h3b, ew, ew0, w1, w2, w3, et, lp, hc, idx, bnd, bndO, ints_length, blk, eds_length, eds_get, edsAt, edAV, allLeaf_eds, cleanL_eds, cleanL_ints, ints_length, ints_get, intsAt, endL, finB])).trans ih
theorem erdos_run (l : List Int) : callL cfgS nLaw09DegreeErdos [.list 1 (ints l)] [] = some (.bool true, []) := by
  rw [callL_end oLaw09DegreeErdos sLaw09DegreeErdos (Nat.le_of_ble_eq_true rfl)]
  have aw := awake09
  have lp := er0 l (min 12 l.length) 0 (by omega)
  rw [nat0, List.take_zero, List.map_nil] at lp
  change codeL cfgS 0 lLaw09DegreeErdosX0.loop ⟨[(0, .list 1 (ints l)), (3, .own 1 []), (4, .int .i64 0)], []⟩ = _ at lp
  have lx := xE_len l
  have bx := xE_bd l
  have hlx : (xE l).length ≤ 12 := by omega
  generalize xE l = x at *
  have lp2 := er2 x bx hlx x.length 0 (by omega)
  rw [List.take_zero, show sumI [] = 0 from rfl, nat0, show srtD 0 x = x from rfl] at lp2
  obtain ⟨hp, _⟩ := srtD_end x
  have hly : (srtD x.length x).length = x.length := hp.length_eq
  have by_ : ∀ d ∈ srtD x.length x, 0 ≤ d ∧ d ≤ 7 := fun d hd => bx d (hp.mem_iff.1 hd)
  have er := erdos_rz (x := x) fun d hd => (bx d hd).1
  have lp4 := er4 x (srtD x.length x) (decide (sumI x % 2 = 0)) by_ (by omega) (srtD x.length x).length 0 (by omega)
  rw [List.take_zero, show sumI [] = 0 from rfl, nat0, show egs (srtD x.length x) 0 = true from rfl, Bool.and_true, Int.zero_add, hly, ← er] at lp4
  have b1 := sumI_bd bx
  have gr := graphic_run x (by omega)
  generalize srtD x.length x = Y at *
  generalize (rz x).isSome = g at *
  have tm : (sumI x).tmod 2 = sumI x % 2 := Int.tmod_eq_emod_of_nonneg b1.1
  generalize sumI x = S at *
  have L1 : x.length ≤ 4294967296 := by omega
  have tk : (ints x).take x.length = ints x := by rw [ints_take, List.take_length]
  have beq1 : (S % 2 == 0) = decide (S % 2 = 0) := by
    by_cases h : S % 2 = 0 <;> simp [h]
  generalize decide (S % 2 = 0) = p at *
  generalize min 12 l.length = m at *
  unfold qLaw09DegreeErdos cLaw09DegreeErdos
  simp [rLaw09DegreeErdosX0, rLaw09DegreeErdosX1, rLaw09DegreeErdosX2, rLaw09DegreeErdosX3, rLaw09DegreeErdosX4, rLaw09DegreeErdosX5, rLaw09DegreeErdosX6, rLaw09DegreeErdosX7, rLaw09DegreeErdosX8, rLaw09DegreeErdosX9, rLaw09DegreeErdosX10, rLaw09DegreeErdosX11, rLaw09DegreeErdosX12, rLaw09DegreeErdosX13, rLaw09DegreeErdosX14, rLaw09DegreeErdosX15, rLaw09DegreeErdosX16, rLaw09DegreeErdosX17, rLaw09DegreeErdosX18, rLaw09DegreeErdosX19, rLaw09DegreeErdosX20, rLaw09DegreeErdosX21, rLaw09DegreeErdosX22, rLaw09DegreeErdosX23, rLaw09DegreeErdosX24, rLaw09DegreeErdosX25, rLaw09DegreeErdosX26, rLaw09DegreeErdosX27, rLaw09DegreeErdosX28, rLaw09DegreeErdosX29, rLaw09DegreeErdosX30, lp, lp2, lp4, gr, aw, tm, L1, tk, beq1, LIM, ints_length, sLaw09Awake, iLaw09Awake, sDegreeGraphic, iDegreeGraphic, cleanL_ints, blk, eds_length, eds_get, edsAt, edAV, allLeaf_eds, cleanL_eds, cleanL_ints, ints_length, ints_get, intsAt, endL, finB]
end
end Go.BmP
