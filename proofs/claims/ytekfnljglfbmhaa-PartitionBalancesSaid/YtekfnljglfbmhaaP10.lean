/- What partition.Check and the reference's Check return for a plan that is in order (Check by value). -/
import Derived.Test.YtekfnljglfbmhaaK01
import Derived.Test.YtekfnljglfbmhaaK04
set_option linter.unusedSimpArgs false
set_option linter.unusedVariables false
set_option maxRecDepth 100000
set_option maxHeartbeats 4000000
namespace Go.BmP
open Go.Am Go.Bm
def hQ (w : Nat) (O Hv : List AV) : Heap := [some [.int .i64 w, .list 1 O, .list 1 Hv]]
section
attribute [local simp] codeL_seq codeL_reg codeL_blk codeL_skip codeL_ret codeL_exit codeL_cnd condL_b thenL_n thenL_e thenL_r blkL_n blkL_e blkL_r regL_s opsB stepB opB opP opnd opnds lend lendC get_nil' get_cons' put_nil' put_cons' mem_nil' mem_cons' putdB putB slowP hasOwn hasOwnL finO relab anyB anyE anyH anyR borOf borL inSlot HAND endR hasOwnE endK keepIn trim noPtr noPtrL noPtrE noPtrH binA arith unA eqB isNilB eqc lenB bndB bnd rdN rdc AV.cells fillB peek ldOK AV.leaf allLeaf fz pl plL drawB allCW cwF okDrawB okPair Fq.ok dstOff wrOff notSlot noneIn apartR oldBoxes O.reads Kd.reads E.slot slots slotO slotsP List.getD pairIn nilL okRes clean cleanL resV resVs tupOf mkEnv partsBor doCallB inpB getArgs doCallO frzA frzV frzL minA minF cont ownAt at_ setAt rel dropS relC dropAll frzP frzAll firstBor borIn borC borS borE borH handTo mapSt mapE mapH mapB mapBL sw rt fb mvB mvRt seesP inRt isRoot rootOf boxOf seesB rootsL Am.rep ovw flatCells_ints allLeaf_ints flatCells el grp updE isNilB inpV inpL stB okL unA orcA bndB plL_ints fzL stBox inCells wrap0 wrap1 wrapm1 take_snoc BIGB marks boxZ ldLab cellOf cellN CELLM boxIn isCell apartC frzR frzRL frzS frzC frzCL
theorem check1_run (w : Nat) (O Hv : List AV) (x : Int) (h : 0 ≤ x ∧ x < (w : Int)) : callL cfgS nPartitionCheck1 [.int .i64 x, .ptr 0 0] (hQ w O Hv) = some (.bool false, hQ w O Hv) := by
  have h1 : ¬ x < 0 := by omega
  have h2 : ¬ (w : Int) ≤ x := by omega
  rw [callL_end oPartitionCheck1 sPartitionCheck1 (Nat.le_of_ble_eq_true rfl)]
  unfold qPartitionCheck1 cPartitionCheck1 hQ
  simp [rPartitionCheck1X0, rPartitionCheck1X1, h1, h2, blk, plp, plpL, allB, notBox, swC, swS, seesC, inBox, finS, endL, finB]
end
def ifSt (w : Nat) (o : List Int) (Hv : List AV) (i : Nat) (J : Env) : St := ⟨(0, .list 1 (ints o)) :: (1, .func (.func nPartitionCheck1) [] [.ptr 0 0]) :: (7, .int .i64 o.length) :: (8, .int .i64 i) :: J, hQ w (ints o) Hv⟩
section
attribute [local simp] codeL_seq codeL_reg codeL_blk codeL_skip codeL_ret codeL_exit codeL_cnd condL_b thenL_n thenL_e thenL_r blkL_n blkL_e blkL_r regL_s opsB stepB opB opP opnd opnds lend lendC get_nil' get_cons' put_nil' put_cons' mem_nil' mem_cons' putdB putB slowP hasOwn hasOwnL finO relab anyB anyE anyH anyR borOf borL inSlot HAND endR hasOwnE endK keepIn trim noPtr noPtrL noPtrE noPtrH binA arith unA eqB isNilB eqc lenB bndB bnd rdN rdc AV.cells fillB peek ldOK AV.leaf allLeaf fz pl plL drawB allCW cwF okDrawB okPair Fq.ok dstOff wrOff notSlot noneIn apartR oldBoxes O.reads Kd.reads E.slot slots slotO slotsP List.getD pairIn nilL okRes clean cleanL resV resVs tupOf mkEnv partsBor doCallB inpB getArgs doCallO frzA frzV frzL minA minF cont ownAt at_ setAt rel dropS relC dropAll frzP frzAll firstBor borIn borC borS borE borH handTo mapSt mapE mapH mapB mapBL sw rt fb mvB mvRt seesP inRt isRoot rootOf boxOf seesB rootsL Am.rep ovw flatCells_ints allLeaf_ints flatCells el grp updE isNilB inpV inpL stB okL unA orcA bndB plL_ints fzL stBox inCells wrap0 wrap1 wrapm1 take_snoc BIGB marks boxZ ldLab cellOf cellN CELLM boxIn isCell apartC frzR frzRL frzS frzC frzCL
theorem if_loop (w : Nat) (o : List Int) (Hv : List AV) (hl : o.length < 4294967295) (h : ∀ x ∈ o, 0 ≤ x ∧ x < (w : Int)) : ∀ (k i : Nat), i + k = o.length → codeL cfgS 1 (.loop lSlicesIndexFuncIntIntX0) (ifSt w o Hv i []) = some (.exit 0, ifSt w o Hv o.length [(9, .bool false)])
  | 0, i, hi => by
    obtain rfl : i = o.length := by omega
    refine loop_exit ?_
    unfold ifSt lSlicesIndexFuncIntIntX0 hQ
    generalize ints o = C at *
    simp [rSlicesIndexFuncIntIntX0, rSlicesIndexFuncIntIntX1, rSlicesIndexFuncIntIntX2, rSlicesIndexFuncIntIntX3, rSlicesIndexFuncIntIntX4, rSlicesIndexFuncIntIntX5, rSlicesIndexFuncIntIntX6, rSlicesIndexFuncIntIntX7]
  | k + 1, i, hi => by
    have hlt : i < o.length := by omega
    refine (loop_next ?_).trans (if_loop w o Hv hl h k (i + 1) (by omega))
    have k1 : (i : Int) < o.length := by omega
    have hw := wrapS (i := i) (by omega)
    have m := check1_run w (ints o) Hv o[i] (h _ (List.getElem_mem hlt))
    have g3 : (ints o)[i]? = some (.int .i64 o[i]) := by rw [ints_get, List.getElem?_eq_getElem hlt]; rfl
    have g4 : ∀ h, (ints o)[i]'h = .int .i64 o[i] := fun h => intsAt ..
    have g5 := ints_length o
    generalize o[i] = x at *
    unfold hQ at m
    unfold ifSt lSlicesIndexFuncIntIntX0 hQ
    generalize ints o = C at *
    simp [rSlicesIndexFuncIntIntX0, rSlicesIndexFuncIntIntX1, rSlicesIndexFuncIntIntX2, rSlicesIndexFuncIntIntX3, rSlicesIndexFuncIntIntX4, rSlicesIndexFuncIntIntX5, rSlicesIndexFuncIntIntX6, rSlicesIndexFuncIntIntX7, k1, hlt, hw, m, g3, g4, g5, idx, sPartitionCheck1, iPartitionCheck1, plp, plpL, allB, notBox, swC, swS, seesC, inBox, blk]
theorem containsP_run (w : Nat) (o : List Int) (Hv : List AV) (hl : o.length < 4294967295) (h : ∀ x ∈ o, 0 ≤ x ∧ x < (w : Int)) : callL cfgS nSlicesContainsFuncIntInt [.list 1 (ints o), .func (.func nPartitionCheck1) [] [.ptr 0 0]] (hQ w (ints o) Hv) = some (.bool false, hQ w (ints o) Hv) := by
  have ix : callL cfgS nSlicesIndexFuncIntInt [.list 1 (ints o), .func (.func nPartitionCheck1) [] [.ptr 0 0]] (hQ w (ints o) Hv) = some (.int .i64 (-1), hQ w (ints o) Hv) := by
    have lp := if_loop w o Hv hl h o.length 0 (by omega)
    rw [callL_end oSlicesIndexFuncIntInt sSlicesIndexFuncIntInt (Nat.le_of_ble_eq_true rfl)]
    unfold ifSt hQ at lp
    rw [nat0] at lp
    unfold qSlicesIndexFuncIntInt cSlicesIndexFuncIntInt hQ
    have g5 := ints_length o
    generalize ints o = C at *
    simp [rSlicesIndexFuncIntIntX0, rSlicesIndexFuncIntIntX1, rSlicesIndexFuncIntIntX2, rSlicesIndexFuncIntIntX3, rSlicesIndexFuncIntIntX4, rSlicesIndexFuncIntIntX5, rSlicesIndexFuncIntIntX6, rSlicesIndexFuncIntIntX7, lp, g5, blk, plp, plpL, allB, notBox, swC, swS, seesC, inBox, finS, endL, finB]
  rw [callL_end oSlicesContainsFuncIntInt sSlicesContainsFuncIntInt (Nat.le_of_ble_eq_true rfl)]
  unfold hQ at ix
  unfold qSlicesContainsFuncIntInt cSlicesContainsFuncIntInt hQ
  generalize ints o = C at *
  simp [rSlicesContainsFuncIntIntX0, rSlicesContainsFuncIntIntX1, ix, blk, sSlicesIndexFuncIntInt, iSlicesIndexFuncIntInt, plp, plpL, allB, notBox, swC, swS, seesC, inBox, finS, endL, finB]
theorem workers_run {w : Nat} (h0 : 1 ≤ w) (h1 : w ≤ 8) : callL cfgS nPartitionWorkers [.int .i64 w] [] = some (.bool true, []) := by
  have k1 : (1 : Int) ≤ (w : Int) := by omega
  have k2 : (w : Int) ≤ 8 := by omega
  rw [callL_end oPartitionWorkers sPartitionWorkers (Nat.le_of_ble_eq_true rfl)]
  unfold qPartitionWorkers cPartitionWorkers
  simp [rPartitionWorkersX0, rPartitionWorkersX1, k1, k2, h0, h1, blk, endL, finB]
theorem pchk_run (N w : Nat) (h0 : 1 ≤ w) (h1 : w ≤ 8) (o hv : List Int) (ho : o.length = N) (hN : N < 1000000) (h : ∀ x ∈ o, 0 ≤ x ∧ x < (w : Int)) (hh : hv.length < 1000000) (hV : valGo N (-1) hv = true) : callL cfgS nPartitionCheck [.agg [.int .i64 w, .list 1 (ints o), .list 1 (ints hv)], .int .i64 N] [] = some (.int .i64 0, []) := by
  have c := containsP_run w o (ints hv) (by omega) h
  have v := nvalid_run N hv (by omega)
  rw [hV] at v
  have wk := workers_run h0 h1
  have g5 : (ints o).length = N := by rw [ints_length, ho]
  unfold hQ at c
  generalize ints o = O at *
  generalize ints hv = Hv at *
  rw [callL_end oPartitionCheck sPartitionCheck (Nat.le_of_ble_eq_true rfl)]
  unfold qPartitionCheck cPartitionCheck
  simp [rPartitionCheckX0, rPartitionCheckX1, rPartitionCheckX2, rPartitionCheckX3, rPartitionCheckX4, rPartitionCheckX5, rPartitionCheckX6, rPartitionCheckX7, c, v, wk, g5, blk, sSlicesContainsFuncIntInt, iSlicesContainsFuncIntInt, sNodesetValid, iNodesetValid, sPartitionWorkers, iPartitionWorkers, plp, plpL, allB, notBox, swC, swS, seesC, inBox, finS, endL, finB]
end
def rcSt (w : Nat) (o : List Int) (Hv : List AV) (i : Nat) (J : Env) : St := ⟨(2, .ptr 0 0) :: (5, .int .i64 i) :: J, hQ w (ints o) Hv⟩
section
attribute [local simp] codeL_seq codeL_reg codeL_blk codeL_skip codeL_ret codeL_exit codeL_cnd condL_b thenL_n thenL_e thenL_r blkL_n blkL_e blkL_r regL_s opsB stepB opB opP opnd opnds lend lendC get_nil' get_cons' put_nil' put_cons' mem_nil' mem_cons' putdB putB slowP hasOwn hasOwnL finO relab anyB anyE anyH anyR borOf borL inSlot HAND endR hasOwnE endK keepIn trim noPtr noPtrL noPtrE noPtrH binA arith unA eqB isNilB eqc lenB bndB bnd rdN rdc AV.cells fillB peek ldOK AV.leaf allLeaf fz pl plL drawB allCW cwF okDrawB okPair Fq.ok dstOff wrOff notSlot noneIn apartR oldBoxes O.reads Kd.reads E.slot slots slotO slotsP List.getD pairIn nilL okRes clean cleanL resV resVs tupOf mkEnv partsBor doCallB inpB getArgs doCallO frzA frzV frzL minA minF cont ownAt at_ setAt rel dropS relC dropAll frzP frzAll firstBor borIn borC borS borE borH handTo mapSt mapE mapH mapB mapBL sw rt fb mvB mvRt seesP inRt isRoot rootOf boxOf seesB rootsL Am.rep ovw flatCells_ints allLeaf_ints flatCells el grp updE isNilB inpV inpL stB okL unA orcA bndB plL_ints fzL stBox inCells wrap0 wrap1 wrapm1 take_snoc BIGB marks boxZ ldLab cellOf cellN CELLM boxIn isCell apartC frzR frzRL frzS frzC frzCL
theorem rc_loop (w : Nat) (o : List Int) (Hv : List AV) (hl : o.length < 4294967295) (h : ∀ x ∈ o, 0 ≤ x ∧ x < (w : Int)) : ∀ (k i : Nat), i + k = o.length → codeL cfgS 0 (.loop lRef37CheckX0) (rcSt w o Hv i []) = some (.exit 0, rcSt w o Hv o.length [(30, .bool false)])
  | 0, i, hi => by
    obtain rfl : i = o.length := by omega
    have g5 := ints_length o
    refine loop_exit ?_
    unfold rcSt lRef37CheckX0 hQ
    generalize ints o = C at *
    simp [rRef37CheckX0, rRef37CheckX1, rRef37CheckX2, rRef37CheckX3, rRef37CheckX4, rRef37CheckX5, rRef37CheckX6, rRef37CheckX7, rRef37CheckX8, rRef37CheckX9, rRef37CheckX10, g5, blk]
  | k + 1, i, hi => by
    have hlt : i < o.length := by omega
    refine (loop_next ?_).trans (rc_loop w o Hv hl h k (i + 1) (by omega))
    have k1 : (i : Int) < o.length := by omega
    have hw := wrapS (i := i) (by omega)
    have g3 : (ints o)[i]? = some (.int .i64 o[i]) := by rw [ints_get, List.getElem?_eq_getElem hlt]; rfl
    have g4 : ∀ h, (ints o)[i]'h = .int .i64 o[i] := fun h => intsAt ..
    have g5 := ints_length o
    have b := h _ (List.getElem_mem hlt)
    generalize o[i] = x at *
    have b1 : ¬ x < 0 := by omega
    have b2 : ¬ (w : Int) ≤ x := by omega
    unfold rcSt lRef37CheckX0 hQ
    generalize ints o = C at *
    simp [rRef37CheckX0, rRef37CheckX1, rRef37CheckX2, rRef37CheckX3, rRef37CheckX4, rRef37CheckX5, rRef37CheckX6, rRef37CheckX7, rRef37CheckX8, rRef37CheckX9, rRef37CheckX10, k1, hlt, hw, g3, g4, g5, b1, b2, idx, blk]
theorem rpchk_run (N w : Nat) (h0 : 1 ≤ w) (h1 : w ≤ 8) (o hv : List Int) (ho : o.length = N) (hN : N < 1000000) (h : ∀ x ∈ o, 0 ≤ x ∧ x < (w : Int)) (hh : hv.length < 1000000) (hV : valGo N (-1) hv = true) : callL cfgS nRef37Check [.agg [.int .i64 w, .list 1 (ints o), .list 1 (ints hv)], .int .i64 N] [] = some (.int .i64 0, []) := by
  have v := valid_run N hv (by omega)
  rw [hV] at v
  have lp := rc_loop w o (ints hv) (by omega) h o.length 0 (by omega)
  unfold rcSt hQ at lp
  rw [nat0] at lp
  have g5 : (ints o).length = N := by rw [ints_length, ho]
  have k1 : ¬ (w : Int) < 1 := by omega
  have k2 : ¬ (8 : Int) < w := by omega
  have k3 : ¬ w < 1 := by omega
  have k4 : ¬ 8 < w := by omega
  generalize ints o = O at *
  generalize ints hv = Hv at *
  rw [callL_end oRef37Check sRef37Check (Nat.le_of_ble_eq_true rfl)]
  unfold qRef37Check cRef37Check
  simp [rRef37CheckX0, rRef37CheckX1, rRef37CheckX2, rRef37CheckX3, rRef37CheckX4, rRef37CheckX5, rRef37CheckX6, rRef37CheckX7, rRef37CheckX8, rRef37CheckX9, rRef37CheckX10, v, lp, g5, k1, k2, k3, k4, blk, sRef02Valid, iRef02Valid, endL, finB]
end
end Go.BmP
