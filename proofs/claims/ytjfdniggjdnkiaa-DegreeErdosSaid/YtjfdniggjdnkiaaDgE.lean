/- What degree.Graphic and cohesionlaw09.DegreeErdos return. -/
import Derived.Test.YtjfdniggjdnkiaaCfS
import Derived.Test.YtjfdniggjdnkiaaErP
import Derived.Test.YtjfdniggjdnkiaaDgH
import Derived.KernelRfl
set_option linter.unusedSimpArgs false
set_option linter.unusedVariables false
set_option maxRecDepth 100000
set_option maxHeartbeats 4000000
namespace Go.BmP
open Go.Am Go.Bm
theorem awake09 : callL cfgS nLaw09Awake [] [] = some (.bool true, []) := callL_iff.2 ⟨3000, by kernel_rfl⟩
theorem realise_run (l : List Int) (hl : l.length ≤ 64) : callL cfgS nDegreeRealiseN29 [.list 1 (ints l)] [] = some (.tup [.list 2 (((rz l).getD []).map pr2), .bool (rz l).isSome], []) :=
  callL_orc (by unfold orcA; rw [oDegreeRealiseN29]; simp only [gRz]; rw [show intsOf (ints l) = some l from intsOf_ints l]; simp only; rw [if_pos hl])
section
attribute [local simp] codeL_seq codeL_reg codeL_blk codeL_skip codeL_ret codeL_exit codeL_cnd condL_b thenL_n thenL_e thenL_r blkL_n blkL_e blkL_r regL_s opsB stepB opB opP opnd opnds lend lendC get_nil' get_cons' put_nil' put_cons' mem_nil' mem_cons' putdB putB slowP hasOwn hasOwnL finO relab anyB anyE anyH anyR borOf borL inSlot HAND endR hasOwnE endK keepIn trim noPtr noPtrL noPtrE noPtrH binA arith unA eqB isNilB eqc lenB bndB bnd rdN rdc AV.cells fillB peek ldOK AV.leaf allLeaf fz pl plL drawB allCW cwF okDrawB okPair Fq.ok dstOff wrOff notSlot noneIn apartR oldBoxes O.reads Kd.reads E.slot slots slotO slotsP List.getD pairIn nilL okRes clean cleanL resV resVs tupOf mkEnv partsBor doCallB inpB getArgs doCallO frzA frzV frzL minA minF cont ownAt at_ setAt rel dropS relC dropAll frzP frzAll firstBor borIn borC borS borE borH handTo mapSt mapE mapH mapB mapBL sw rt fb mvB mvRt seesP inRt isRoot rootOf boxOf seesB rootsL Am.rep ovw flatCells_ints allLeaf_ints flatCells el grp updE isNilB inpV inpL stB okL unA orcA bndB plL_ints fzL stBox inCells wrap0 wrap1 wrapm1 take_snoc BIGB marks boxZ ldLab cellOf cellN CELLM boxIn isCell apartC frzR frzRL frzS frzC frzCL eatN locN empN getArgs0 nob nobL notBox frzLab eatE0 isFn anyFn locB
theorem graphic_run (l : List Int) (hl : l.length ≤ 64) : callL cfgS nDegreeGraphic [.list 1 (ints l)] [] = some (.bool (rz l).isSome, []) := by
  rw [callL_end oDegreeGraphic sDegreeGraphic (Nat.le_of_ble_eq_true rfl)]
  have h := realise_run l hl
  have c1 : ¬ 64 < (l.length : Int) := by omega
  unfold qDegreeGraphic cDegreeGraphic
  simp [rDegreeGraphicX0, rDegreeGraphicX1, rDegreeGraphicX2, rDegreeGraphicX3, rDegreeGraphicX4, h, c1, sDegreeRealiseN29, iDegreeRealiseN29, blk, eds_length, eds_get, edsAt, edAV, allLeaf_eds, cleanL_eds, cleanL_ints, ints_length, ints_get, intsAt, endL, finB]
end
def xE (l : List Int) : List Int := (l.take 12).map fun n => n % 8
theorem xE_len (l : List Int) : (xE l).length = min 12 l.length := by simp [xE]
theorem xE_bd (l : List Int) : ∀ x ∈ xE l, 0 ≤ x ∧ x ≤ 7 := by
  intro x hx
  obtain ⟨n, _, rfl⟩ := List.mem_map.1 hx
  omega
section
attribute [local simp] codeL_seq codeL_reg codeL_blk codeL_skip codeL_ret codeL_exit codeL_cnd condL_b thenL_n thenL_e thenL_r blkL_n blkL_e blkL_r regL_s opsB stepB opB opP opnd opnds lend lendC get_nil' get_cons' put_nil' put_cons' mem_nil' mem_cons' putdB putB slowP hasOwn hasOwnL finO relab anyB anyE anyH anyR borOf borL inSlot HAND endR hasOwnE endK keepIn trim noPtr noPtrL noPtrE noPtrH binA arith unA eqB isNilB eqc lenB bndB bnd rdN rdc AV.cells fillB peek ldOK AV.leaf allLeaf fz pl plL drawB allCW cwF okDrawB okPair Fq.ok dstOff wrOff notSlot noneIn apartR oldBoxes O.reads Kd.reads E.slot slots slotO slotsP List.getD pairIn nilL okRes clean cleanL resV resVs tupOf mkEnv partsBor doCallB inpB getArgs doCallO frzA frzV frzL minA minF cont ownAt at_ setAt rel dropS relC dropAll frzP frzAll firstBor borIn borC borS borE borH handTo mapSt mapE mapH mapB mapBL sw rt fb mvB mvRt seesP inRt isRoot rootOf boxOf seesB rootsL Am.rep ovw flatCells_ints allLeaf_ints flatCells el grp updE isNilB inpV inpL stB okL unA orcA bndB plL_ints fzL stBox inCells wrap0 wrap1 wrapm1 take_snoc BIGB marks boxZ ldLab cellOf cellN CELLM boxIn isCell apartC frzR frzRL frzS frzC frzCL eatN locN empN getArgs0 nob nobL notBox frzLab eatE0 isFn anyFn locB
theorem er0 (l : List Int) : ∀ n i : Nat, i + n = min 12 l.length → codeL cfgS 0 (.loop lLaw09DegreeErdosX0) ⟨[(0, .list 1 (ints l)), (3, .own 1 (ints ((l.take i).map fun n => n % 8))), (4, .int .i64 i)], []⟩ = some (.exit 0, ⟨[(0, .list 1 (ints l)), (3, .own 1 (ints (xE l))), (4, .int .i64 (min 12 l.length : Nat)), (22, .bool false)], []⟩)
  | 0, i, e => by
    obtain rfl : i = min 12 l.length := by omega
    have ht : l.take (min 12 l.length) = l.take 12 := by rw [List.take_eq_take_iff]; omega
    rw [ht]
    change codeL cfgS 0 lLaw09DegreeErdosX0.loop ⟨[(0, .list 1 (ints l)), (3, .own 1 (ints (xE l))), (4, .int .i64 (min 12 l.length : Nat))], []⟩ = _
    generalize hm : min 12 l.length = m
    by_cases h1 : (m : Int) < l.length
    · have h2 : ¬ (m : Int) < 12 := by omega
      exact loop_exit (by unfold lLaw09DegreeErdosX0; simp [rLaw09DegreeErdosX0, rLaw09DegreeErdosX1, rLaw09DegreeErdosX2, rLaw09DegreeErdosX3, rLaw09DegreeErdosX4, rLaw09DegreeErdosX5, rLaw09DegreeErdosX6, rLaw09DegreeErdosX7, rLaw09DegreeErdosX8, rLaw09DegreeErdosX9, rLaw09DegreeErdosX10, rLaw09DegreeErdosX11, rLaw09DegreeErdosX12, rLaw09DegreeErdosX13, rLaw09DegreeErdosX14, rLaw09DegreeErdosX15, rLaw09DegreeErdosX16, rLaw09DegreeErdosX17, rLaw09DegreeErdosX18, rLaw09DegreeErdosX19, rLaw09DegreeErdosX20, rLaw09DegreeErdosX21, rLaw09DegreeErdosX22, rLaw09DegreeErdosX23, rLaw09DegreeErdosX24, rLaw09DegreeErdosX25, rLaw09DegreeErdosX26, rLaw09DegreeErdosX27, rLaw09DegreeErdosX28, rLaw09DegreeErdosX29, rLaw09DegreeErdosX30, h1, h2, ints_length, blk, eds_length, eds_get, edsAt, edAV, allLeaf_eds, cleanL_eds, cleanL_ints, ints_length, ints_get, intsAt, endL, finB])
    · exact loop_exit (by unfold lLaw09DegreeErdosX0; simp [rLaw09DegreeErdosX0, rLaw09DegreeErdosX1, rLaw09DegreeErdosX2, rLaw09DegreeErdosX3, rLaw09DegreeErdosX4, rLaw09DegreeErdosX5, rLaw09DegreeErdosX6, rLaw09DegreeErdosX7, rLaw09DegreeErdosX8, rLaw09DegreeErdosX9, rLaw09DegreeErdosX10, rLaw09DegreeErdosX11, rLaw09DegreeErdosX12, rLaw09DegreeErdosX13, rLaw09DegreeErdosX14, rLaw09DegreeErdosX15, rLaw09DegreeErdosX16, rLaw09DegreeErdosX17, rLaw09DegreeErdosX18, rLaw09DegreeErdosX19, rLaw09DegreeErdosX20, rLaw09DegreeErdosX21, rLaw09DegreeErdosX22, rLaw09DegreeErdosX23, rLaw09DegreeErdosX24, rLaw09DegreeErdosX25, rLaw09DegreeErdosX26, rLaw09DegreeErdosX27, rLaw09DegreeErdosX28, rLaw09DegreeErdosX29, rLaw09DegreeErdosX30, h1, ints_length, blk, eds_length, eds_get, edsAt, edAV, allLeaf_eds, cleanL_eds, cleanL_ints, ints_length, ints_get, intsAt, endL, finB])
  | n + 1, i, e => by
    have h1 : i < l.length := by omega
    have h2 : (i : Int) < l.length := by omega
    have h3 : (i : Int) < 12 := by omega
    have hw := wrapS (i := i) (by omega)
    have md := modk_run l[i] 8 (by omega) (by omega)
    have et : (l.take (i + 1)).map (fun n => n % 8) = (l.take i).map (fun n => n % 8) ++ [l[i] % 8] := by
      rw [List.take_succ_eq_append_getElem h1, List.map_append]
      rfl
    have ih := er0 l n (i + 1) (by omega)
    rw [et] at ih
    have lx : ((l.take i).map fun n => n % 8).length + 1 ≤ 4294967296 := by rw [List.length_map, List.length_take]; omega
    generalize (l.take i).map (fun n => n % 8) = X at *
    exact (loop_next (by unfold lLaw09DegreeErdosX0; simp [rLaw09DegreeErdosX0, rLaw09DegreeErdosX1, rLaw09DegreeErdosX2, rLaw09DegreeErdosX3, rLaw09DegreeErdosX4, rLaw09DegreeErdosX5, rLaw09DegreeErdosX6, rLaw09DegreeErdosX7, rLaw09DegreeErdosX8, rLaw09DegreeErdosX9, rLaw09DegreeErdosX10, rLaw09DegreeErdosX11, rLaw09DegreeErdosX12, rLaw09DegreeErdosX13, rLaw09DegreeErdosX14, rLaw09DegreeErdosX15, rLaw09DegreeErdosX16, rLaw09DegreeErdosX17, rLaw09DegreeErdosX18, rLaw09DegreeErdosX19, rLaw09DegreeErdosX20, rLaw09DegreeErdosX21, rLaw09DegreeErdosX22, rLaw09DegreeErdosX23, rLaw09DegreeErdosX24, rLaw09DegreeErdosX25, rLaw09DegreeErdosX26, rLaw09DegreeErdosX27, rLaw09DegreeErdosX28, rLaw09DegreeErdosX29, rLaw09DegreeErdosX30, h1, h2, h3, hw, md, lx, LIM, ints_snoc, ints_take, List.take_length, ints_length, idx, sMakeMod, iMakeMod, blk, eds_length, eds_get, edsAt, edAV, allLeaf_eds, cleanL_eds, cleanL_ints, ints_length, ints_get, intsAt, endL, finB])).trans ih
theorem sw_loop (x : List Int) (u n i : Int) : ∀ (j : Nat) (y : List Int), j < y.length → y.length ≤ 12 → ∃ k : Int, codeL cfgS 0 (.loop lLaw09DegreeErdosX1) ⟨[(3, .own 1 (ints x)), (5, .own 1 (ints y)), (6, .int .i64 u), (8, .int .i64 j), (36, .int .i64 n), (37, .int .i64 i)], []⟩ = some (.exit 4, ⟨[(3, .own 1 (ints x)), (5, .own 1 (ints (swD j y))), (6, .int .i64 u), (8, .int .i64 k), (36, .int .i64 n), (37, .int .i64 i), (60, .bool false)], []⟩)
  | 0, y, hj, hl => ⟨0, loop_exit (by unfold lLaw09DegreeErdosX1 swD; simp [rLaw09DegreeErdosX0, rLaw09DegreeErdosX1, rLaw09DegreeErdosX2, rLaw09DegreeErdosX3, rLaw09DegreeErdosX4, rLaw09DegreeErdosX5, rLaw09DegreeErdosX6, rLaw09DegreeErdosX7, rLaw09DegreeErdosX8, rLaw09DegreeErdosX9, rLaw09DegreeErdosX10, rLaw09DegreeErdosX11, rLaw09DegreeErdosX12, rLaw09DegreeErdosX13, rLaw09DegreeErdosX14, rLaw09DegreeErdosX15, rLaw09DegreeErdosX16, rLaw09DegreeErdosX17, rLaw09DegreeErdosX18, rLaw09DegreeErdosX19, rLaw09DegreeErdosX20, rLaw09DegreeErdosX21, rLaw09DegreeErdosX22, rLaw09DegreeErdosX23, rLaw09DegreeErdosX24, rLaw09DegreeErdosX25, rLaw09DegreeErdosX26, rLaw09DegreeErdosX27, rLaw09DegreeErdosX28, rLaw09DegreeErdosX29, rLaw09DegreeErdosX30, blk, eds_length, eds_get, edsAt, edAV, allLeaf_eds, cleanL_eds, cleanL_ints, ints_length, ints_get, intsAt, endL, finB])⟩
  | j + 1, y, hj, hl => by
    have e1 : IntKind.i64.wrap (((j + 1 : Nat) : Int) - 1) = (j : Int) := by rw [show ((j + 1 : Nat) : Int) - 1 = (j : Int) by omega, wrap_id (by omega) (by omega)]
    have p1 : (0 : Int) < ((j + 1 : Nat) : Int) := by omega
    have p2 : (0 : Int) ≤ (j : Int) := by omega
    have p3 : (0 : Int) ≤ ((j + 1 : Nat) : Int) := by omega
    have p4 : (j : Int) < (y.length : Int) := by omega
    have p5 : ((j + 1 : Nat) : Int) < (y.length : Int) := by omega
    have g1 : j < y.length := by omega
    by_cases hlt : y[j] < y[j + 1]
    · obtain ⟨k, ih⟩ := sw_loop x u n i j ((y.set j y[j + 1]).set (j + 1) y[j]) (by simp; omega) (by simp; omega)
      have es : swD (j + 1) y = swD j ((y.set j y[j + 1]).set (j + 1) y[j]) := by rw [swD, dif_pos hj, if_pos hlt]
      have s1 : (ints y).set j (.int .i64 y[j + 1]) = ints (y.set j y[j + 1]) := by simp [ints]
      have s2 : (ints (y.set j y[j + 1])).set (j + 1) (.int .i64 y[j]) = ints ((y.set j y[j + 1]).set (j + 1) y[j]) := by simp [ints]
      refine ⟨k, ?_⟩
      rw [es]
      generalize hJ : ((j + 1 : Nat) : Int) = J at *
      have hJ2 : J.toNat = j + 1 := by omega
      exact (loop_next (by unfold lLaw09DegreeErdosX1; simp [rLaw09DegreeErdosX0, rLaw09DegreeErdosX1, rLaw09DegreeErdosX2, rLaw09DegreeErdosX3, rLaw09DegreeErdosX4, rLaw09DegreeErdosX5, rLaw09DegreeErdosX6, rLaw09DegreeErdosX7, rLaw09DegreeErdosX8, rLaw09DegreeErdosX9, rLaw09DegreeErdosX10, rLaw09DegreeErdosX11, rLaw09DegreeErdosX12, rLaw09DegreeErdosX13, rLaw09DegreeErdosX14, rLaw09DegreeErdosX15, rLaw09DegreeErdosX16, rLaw09DegreeErdosX17, rLaw09DegreeErdosX18, rLaw09DegreeErdosX19, rLaw09DegreeErdosX20, rLaw09DegreeErdosX21, rLaw09DegreeErdosX22, rLaw09DegreeErdosX23, rLaw09DegreeErdosX24, rLaw09DegreeErdosX25, rLaw09DegreeErdosX26, rLaw09DegreeErdosX27, rLaw09DegreeErdosX28, rLaw09DegreeErdosX29, rLaw09DegreeErdosX30, e1, p1, p2, p3, p4, p5, g1, hj, hlt, hJ2, s1, s2, idx, ints_length, List.length_set, blk, eds_length, eds_get, edsAt, edAV, allLeaf_eds, cleanL_eds, cleanL_ints, ints_length, ints_get, intsAt, endL, finB])).trans ih
    · have es : swD (j + 1) y = y := by rw [swD, dif_pos hj, if_neg hlt]
      refine ⟨((j + 1 : Nat) : Int), ?_⟩
      rw [es]
      generalize hJ : ((j + 1 : Nat) : Int) = J at *
      have hJ2 : J.toNat = j + 1 := by omega
      exact loop_exit (by unfold lLaw09DegreeErdosX1; simp [rLaw09DegreeErdosX0, rLaw09DegreeErdosX1, rLaw09DegreeErdosX2, rLaw09DegreeErdosX3, rLaw09DegreeErdosX4, rLaw09DegreeErdosX5, rLaw09DegreeErdosX6, rLaw09DegreeErdosX7, rLaw09DegreeErdosX8, rLaw09DegreeErdosX9, rLaw09DegreeErdosX10, rLaw09DegreeErdosX11, rLaw09DegreeErdosX12, rLaw09DegreeErdosX13, rLaw09DegreeErdosX14, rLaw09DegreeErdosX15, rLaw09DegreeErdosX16, rLaw09DegreeErdosX17, rLaw09DegreeErdosX18, rLaw09DegreeErdosX19, rLaw09DegreeErdosX20, rLaw09DegreeErdosX21, rLaw09DegreeErdosX22, rLaw09DegreeErdosX23, rLaw09DegreeErdosX24, rLaw09DegreeErdosX25, rLaw09DegreeErdosX26, rLaw09DegreeErdosX27, rLaw09DegreeErdosX28, rLaw09DegreeErdosX29, rLaw09DegreeErdosX30, e1, p1, p2, p3, p4, p5, g1, hj, hlt, hJ2, idx, ints_length, blk, eds_length, eds_get, edsAt, edAV, allLeaf_eds, cleanL_eds, cleanL_ints, ints_length, ints_get, intsAt, endL, finB])
end
theorem sumI_snoc (l : List Int) (x : Int) : sumI (l ++ [x]) = sumI l + x := by
  rw [sumI_app]; simp [sumI]
theorem sumI_bd {b : Int} : ∀ {l : List Int}, (∀ x ∈ l, 0 ≤ x ∧ x ≤ b) → 0 ≤ sumI l ∧ sumI l ≤ b * l.length
  | [], _ => by simp [sumI]
  | x :: r, h => by
    have h1 := h x List.mem_cons_self
    have h2 := sumI_bd (l := r) fun y hy => h y (List.mem_cons_of_mem _ hy)
    have e : sumI (x :: r) = x + sumI r := rfl
    rw [e, List.length_cons, show ((r.length + 1 : Nat) : Int) = (r.length : Int) + 1 by omega, Int.mul_add, Int.mul_one]
    omega
section
attribute [local simp] codeL_seq codeL_reg codeL_blk codeL_skip codeL_ret codeL_exit codeL_cnd condL_b thenL_n thenL_e thenL_r blkL_n blkL_e blkL_r regL_s opsB stepB opB opP opnd opnds lend lendC get_nil' get_cons' put_nil' put_cons' mem_nil' mem_cons' putdB putB slowP hasOwn hasOwnL finO relab anyB anyE anyH anyR borOf borL inSlot HAND endR hasOwnE endK keepIn trim noPtr noPtrL noPtrE noPtrH binA arith unA eqB isNilB eqc lenB bndB bnd rdN rdc AV.cells fillB peek ldOK AV.leaf allLeaf fz pl plL drawB allCW cwF okDrawB okPair Fq.ok dstOff wrOff notSlot noneIn apartR oldBoxes O.reads Kd.reads E.slot slots slotO slotsP List.getD pairIn nilL okRes clean cleanL resV resVs tupOf mkEnv partsBor doCallB inpB getArgs doCallO frzA frzV frzL minA minF cont ownAt at_ setAt rel dropS relC dropAll frzP frzAll firstBor borIn borC borS borE borH handTo mapSt mapE mapH mapB mapBL sw rt fb mvB mvRt seesP inRt isRoot rootOf boxOf seesB rootsL Am.rep ovw flatCells_ints allLeaf_ints flatCells el grp updE isNilB inpV inpL stB okL unA orcA bndB plL_ints fzL stBox inCells wrap0 wrap1 wrapm1 take_snoc BIGB marks boxZ ldLab cellOf cellN CELLM boxIn isCell apartC frzR frzRL frzS frzC frzCL eatN locN empN getArgs0 nob nobL notBox frzLab eatE0 isFn anyFn locB
theorem er2 (x : List Int) (hx : ∀ d ∈ x, 0 ≤ d ∧ d ≤ 7) (hl : x.length ≤ 12) : ∀ n i : Nat, i + n = x.length → codeL cfgS 0 (.loop lLaw09DegreeErdosX2) ⟨[(3, .own 1 (ints x)), (5, .own 1 (ints (srtD i x))), (6, .int .i64 (sumI (x.take i))), (36, .int .i64 x.length), (37, .int .i64 i)], []⟩ = some (.exit 2, ⟨[(3, .own 1 (ints x)), (5, .own 1 (ints (srtD x.length x))), (6, .int .i64 (sumI x)), (36, .int .i64 x.length), (37, .int .i64 x.length), (38, .bool false)], []⟩)
  | 0, i, e => by
    obtain rfl : i = x.length := by omega
    rw [List.take_length]
    exact loop_exit (by unfold lLaw09DegreeErdosX2; simp [rLaw09DegreeErdosX0, rLaw09DegreeErdosX1, rLaw09DegreeErdosX2, rLaw09DegreeErdosX3, rLaw09DegreeErdosX4, rLaw09DegreeErdosX5, rLaw09DegreeErdosX6, rLaw09DegreeErdosX7, rLaw09DegreeErdosX8, rLaw09DegreeErdosX9, rLaw09DegreeErdosX10, rLaw09DegreeErdosX11, rLaw09DegreeErdosX12, rLaw09DegreeErdosX13, rLaw09DegreeErdosX14, rLaw09DegreeErdosX15, rLaw09DegreeErdosX16, rLaw09DegreeErdosX17, rLaw09DegreeErdosX18, rLaw09DegreeErdosX19, rLaw09DegreeErdosX20, rLaw09DegreeErdosX21, rLaw09DegreeErdosX22, rLaw09DegreeErdosX23, rLaw09DegreeErdosX24, rLaw09DegreeErdosX25, rLaw09DegreeErdosX26, rLaw09DegreeErdosX27, rLaw09DegreeErdosX28, rLaw09DegreeErdosX29, rLaw09DegreeErdosX30, blk, eds_length, eds_get, edsAt, edAV, allLeaf_eds, cleanL_eds, cleanL_ints, ints_length, ints_get, intsAt, endL, finB])
  | n + 1, i, e => by
    have h1 : i < x.length := by omega
    have h2 : (i : Int) < x.length := by omega
    have hw := wrapS (i := i) (by omega)
    obtain ⟨a1, a2⟩ := srtD_at x i h1
    have ih := er2 x hx hl n (i + 1) (by omega)
    have hs : sumI (x.take (i + 1)) = sumI (x.take i) + x[i] := by rw [List.take_succ_eq_append_getElem h1, sumI_snoc]
    have b1 := sumI_bd (b := 7) (l := x.take i) fun d hd => hx d (List.mem_of_mem_take hd)
    have b2 := hx x[i] (List.getElem_mem h1)
    have b3 : ((x.take i).length : Int) ≤ 12 := by rw [List.length_take]; omega
    have w1 : IntKind.i64.wrap (sumI (x.take i) + x[i]) = sumI (x.take i) + x[i] := wrap_id (by omega) (by omega)
    obtain ⟨k, hk⟩ := sw_loop x (sumI (x.take i) + x[i]) x.length i i (srtD i x) (by omega) (by omega)
    have es : srtD (i + 1) x = swD i (srtD i x) := rfl
    rw [hs, es] at ih
    generalize sumI (x.take i) = S at *
    generalize x[i] = z at *
    generalize swD i (srtD i x) = Y2 at *
    generalize srtD i x = Y at *
    have l2 : i < Y.length := by omega
    have l3 : (i : Int) < (Y.length : Int) := by omega
    have g1 : Y[i] = z := by
      rw [List.getElem?_eq_getElem l2] at a1
      simpa using a1
    exact (loop_next (by unfold lLaw09DegreeErdosX2; simp [rLaw09DegreeErdosX0, rLaw09DegreeErdosX1, rLaw09DegreeErdosX2, rLaw09DegreeErdosX3, rLaw09DegreeErdosX4, rLaw09DegreeErdosX5, rLaw09DegreeErdosX6, rLaw09DegreeErdosX7, rLaw09DegreeErdosX8, rLaw09DegreeErdosX9, rLaw09DegreeErdosX10, rLaw09DegreeErdosX11, rLaw09DegreeErdosX12, rLaw09DegreeErdosX13, rLaw09DegreeErdosX14, rLaw09DegreeErdosX15, rLaw09DegreeErdosX16, rLaw09DegreeErdosX17, rLaw09DegreeErdosX18, rLaw09DegreeErdosX19, rLaw09DegreeErdosX20, rLaw09DegreeErdosX21, rLaw09DegreeErdosX22, rLaw09DegreeErdosX23, rLaw09DegreeErdosX24, rLaw09DegreeErdosX25, rLaw09DegreeErdosX26, rLaw09DegreeErdosX27, rLaw09DegreeErdosX28, rLaw09DegreeErdosX29, rLaw09DegreeErdosX30, h1, h2, hw, hk, w1, l2, l3, g1, idx, ints_length, blk, eds_length, eds_get, edsAt, edAV, allLeaf_eds, cleanL_eds, cleanL_ints, ints_length, ints_get, intsAt, endL, finB])).trans ih
theorem er3 (x Y : List Int) (want : Bool) (lf : Int) (k : Nat) (hY : ∀ d ∈ Y, 0 ≤ d ∧ d ≤ 7) (hl : Y.length ≤ 12) (hk : k ≤ Y.length) (r0 : Int) (hr0 : 0 ≤ r0 ∧ r0 ≤ 1000) : ∀ n i : Nat, k + i + n = Y.length → codeL cfgS 0 (.loop lLaw09DegreeErdosX3) ⟨[(3, .own 1 (ints x)), (5, .own 1 (ints Y)), (9, .bool want), (10, .int .i64 lf), (11, .int .i64 k), (12, .int .i64 (r0 + sumI (((Y.drop k).take i).map (mnk k)))), (102, .bor 1 (.s 5) k (Y.length - k)), (103, .int .i64 (Y.length - k : Nat)), (104, .int .i64 i)], []⟩ =
    some (.exit 8, ⟨[(3, .own 1 (ints x)), (5, .own 1 (ints Y)), (9, .bool want), (10, .int .i64 lf), (11, .int .i64 k), (12, .int .i64 (r0 + sumI ((Y.drop k).map (mnk k)))), (102, .bor 1 (.s 5) k (Y.length - k)), (103, .int .i64 (Y.length - k : Nat)), (104, .int .i64 (Y.length - k : Nat)), (105, .bool false)], []⟩)
  | 0, i, e => by
    obtain rfl : i = Y.length - k := by omega
    have ht : (Y.drop k).take (Y.length - k) = Y.drop k := List.take_of_length_le (by simp)
    rw [ht]
    exact loop_exit (by unfold lLaw09DegreeErdosX3; simp [rLaw09DegreeErdosX0, rLaw09DegreeErdosX1, rLaw09DegreeErdosX2, rLaw09DegreeErdosX3, rLaw09DegreeErdosX4, rLaw09DegreeErdosX5, rLaw09DegreeErdosX6, rLaw09DegreeErdosX7, rLaw09DegreeErdosX8, rLaw09DegreeErdosX9, rLaw09DegreeErdosX10, rLaw09DegreeErdosX11, rLaw09DegreeErdosX12, rLaw09DegreeErdosX13, rLaw09DegreeErdosX14, rLaw09DegreeErdosX15, rLaw09DegreeErdosX16, rLaw09DegreeErdosX17, rLaw09DegreeErdosX18, rLaw09DegreeErdosX19, rLaw09DegreeErdosX20, rLaw09DegreeErdosX21, rLaw09DegreeErdosX22, rLaw09DegreeErdosX23, rLaw09DegreeErdosX24, rLaw09DegreeErdosX25, rLaw09DegreeErdosX26, rLaw09DegreeErdosX27, rLaw09DegreeErdosX28, rLaw09DegreeErdosX29, rLaw09DegreeErdosX30, blk, eds_length, eds_get, edsAt, edAV, allLeaf_eds, cleanL_eds, cleanL_ints, ints_length, ints_get, intsAt, endL, finB])
  | n + 1, i, e => by
    have h1 : k + i < Y.length := by omega
    have h2 : (i : Int) < (Y.length - k : Nat) := by omega
    have h3 : i < Y.length - k := by omega
    have hw := wrapS (i := i) (by omega)
    have hi : i < (Y.drop k).length := by simp; omega
    have ih := er3 x Y want lf k hY hl hk r0 hr0 n (i + 1) (by omega)
    have hs : sumI (((Y.drop k).take (i + 1)).map (mnk k)) = sumI (((Y.drop k).take i).map (mnk k)) + mnk k Y[k + i] := by
      rw [List.take_succ_eq_append_getElem hi, List.map_append, List.map_singleton, sumI_snoc, List.getElem_drop]
    have b1 := sumI_bd (b := 7) (l := ((Y.drop k).take i).map (mnk k)) (fun d hd => by
      obtain ⟨c, hc, rfl⟩ := List.mem_map.1 hd
      have := hY c (List.mem_of_mem_drop (List.mem_of_mem_take hc))
      unfold mnk; split <;> omega)
    have b2 := hY Y[k + i] (List.getElem_mem h1)
    have b3 : ((((Y.drop k).take i).map (mnk k)).length : Int) ≤ 12 := by rw [List.length_map, List.length_take]; simp; omega
    have hm : mnk k Y[k + i] = if (k : Int) < Y[k + i] then (k : Int) else Y[k + i] := rfl
    have b4 : 0 ≤ mnk k Y[k + i] ∧ mnk k Y[k + i] ≤ 7 := by unfold mnk; split <;> omega
    rw [hs, ← Int.add_assoc] at ih
    generalize hR : r0 + sumI (((Y.drop k).take i).map (mnk k)) = R at *
    have w1 : IntKind.i64.wrap (R + mnk k Y[k + i]) = R + mnk k Y[k + i] := wrap_id (by omega) (by omega)
    rw [hm] at w1 ih
    exact (loop_next (by unfold lLaw09DegreeErdosX3; simp [rLaw09DegreeErdosX0, rLaw09DegreeErdosX1, rLaw09DegreeErdosX2, rLaw09DegreeErdosX3, rLaw09DegreeErdosX4, rLaw09DegreeErdosX5, rLaw09DegreeErdosX6, rLaw09DegreeErdosX7, rLaw09DegreeErdosX8, rLaw09DegreeErdosX9, rLaw09DegreeErdosX10, rLaw09DegreeErdosX11, rLaw09DegreeErdosX12, rLaw09DegreeErdosX13, rLaw09DegreeErdosX14, rLaw09DegreeErdosX15, rLaw09DegreeErdosX16, rLaw09DegreeErdosX17, rLaw09DegreeErdosX18, rLaw09DegreeErdosX19, rLaw09DegreeErdosX20, rLaw09DegreeErdosX21, rLaw09DegreeErdosX22, rLaw09DegreeErdosX23, rLaw09DegreeErdosX24, rLaw09DegreeErdosX25, rLaw09DegreeErdosX26, rLaw09DegreeErdosX27, rLaw09DegreeErdosX28, rLaw09DegreeErdosX29, rLaw09DegreeErdosX30, h1, h2, h3, hw, w1, idx, ints_length, blk, eds_length, eds_get, edsAt, edAV, allLeaf_eds, cleanL_eds, cleanL_ints, ints_length, ints_get, intsAt, endL, finB])).trans ih
end
end Go.BmP
