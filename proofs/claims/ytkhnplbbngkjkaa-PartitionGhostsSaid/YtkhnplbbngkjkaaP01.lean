/- What partition.Check, check and home return for a plan that is in order. -/
import Derived.Test.YtkhnplbbngkjkaaK01
import Derived.Test.YtkhnplbbngkjkaaK04
set_option linter.unusedSimpArgs false
set_option linter.unusedVariables false
set_option maxRecDepth 100000
set_option maxHeartbeats 4000000
namespace Go.BmP
open Go.Am Go.Bm
def hP (N : Nat) (Y : List AV) (w : Nat) (O Hv : List AV) : Heap := [some [.int .i64 N, .list 2 Y], some [.int .i64 w, .list 1 O, .list 1 Hv], some [.int .i64 w, .list 1 O, .list 1 Hv]]
section
attribute [local simp] codeL_seq codeL_reg codeL_blk codeL_skip codeL_ret codeL_exit codeL_cnd condL_b thenL_n thenL_e thenL_r blkL_n blkL_e blkL_r regL_s opsB stepB opB opP opnd opnds lend lendC get_nil' get_cons' put_nil' put_cons' mem_nil' mem_cons' putdB putB slowP hasOwn hasOwnL finO relab anyB anyE anyH anyR borOf borL inSlot HAND endR hasOwnE endK keepIn trim noPtr noPtrL noPtrE noPtrH binA arith unA eqB isNilB eqc lenB bndB bnd rdN rdc AV.cells fillB peek ldOK AV.leaf allLeaf fz pl plL drawB allCW cwF okDrawB okPair Fq.ok dstOff wrOff notSlot noneIn apartR oldBoxes O.reads Kd.reads E.slot slots slotO slotsP List.getD pairIn nilL okRes clean cleanL resV resVs tupOf mkEnv partsBor doCallB inpB getArgs doCallO frzA frzV frzL minA minF cont ownAt at_ setAt rel dropS relC dropAll frzP frzAll firstBor borIn borC borS borE borH handTo mapSt mapE mapH mapB mapBL sw rt fb mvB mvRt seesP inRt isRoot rootOf boxOf seesB rootsL Am.rep ovw flatCells_ints allLeaf_ints flatCells el grp updE isNilB inpV inpL stB okL unA orcA bndB plL_ints fzL stBox inCells wrap0 wrap1 wrapm1 take_snoc BIGB marks boxZ ldLab cellOf cellN CELLM boxIn isCell apartC frzR frzRL frzS frzC frzCL locN notBox frzLab eatE0 isFn anyFn locB
theorem check1_run (N : Nat) (Y : List AV) (w : Nat) (O Hv : List AV) (x : Int) (h : 0 ≤ x ∧ x < (w : Int)) : callL cfgS nQS [.int .i64 x, .ptr 2 0] (hP N Y w O Hv) = some (.bool false, hP N Y w O Hv) := by
  have h1 : ¬ x < 0 := by omega
  have h2 : ¬ (w : Int) ≤ x := by omega
  rw [callL_end oQS sQS (Nat.le_of_ble_eq_true rfl)]
  unfold qQS cQS hP
  simp [rQSX0, rQSX1, h1, h2, blk, plp, plpL, allB, notBox, swC, swS, seesC, inBox, finS, endL, finB]
end
def ifSt (N : Nat) (Y : List AV) (w : Nat) (o : List Int) (Hv : List AV) (i : Nat) (J : Env) : St := ⟨(0, .list 1 (ints o)) :: (1, .func (.func nQS) [] [.ptr 2 0]) :: (7, .int .i64 o.length) :: (8, .int .i64 i) :: J, hP N Y w (ints o) Hv⟩
section
attribute [local simp] codeL_seq codeL_reg codeL_blk codeL_skip codeL_ret codeL_exit codeL_cnd condL_b thenL_n thenL_e thenL_r blkL_n blkL_e blkL_r regL_s opsB stepB opB opP opnd opnds lend lendC get_nil' get_cons' put_nil' put_cons' mem_nil' mem_cons' putdB putB slowP hasOwn hasOwnL finO relab anyB anyE anyH anyR borOf borL inSlot HAND endR hasOwnE endK keepIn trim noPtr noPtrL noPtrE noPtrH binA arith unA eqB isNilB eqc lenB bndB bnd rdN rdc AV.cells fillB peek ldOK AV.leaf allLeaf fz pl plL drawB allCW cwF okDrawB okPair Fq.ok dstOff wrOff notSlot noneIn apartR oldBoxes O.reads Kd.reads E.slot slots slotO slotsP List.getD pairIn nilL okRes clean cleanL resV resVs tupOf mkEnv partsBor doCallB inpB getArgs doCallO frzA frzV frzL minA minF cont ownAt at_ setAt rel dropS relC dropAll frzP frzAll firstBor borIn borC borS borE borH handTo mapSt mapE mapH mapB mapBL sw rt fb mvB mvRt seesP inRt isRoot rootOf boxOf seesB rootsL Am.rep ovw flatCells_ints allLeaf_ints flatCells el grp updE isNilB inpV inpL stB okL unA orcA bndB plL_ints fzL stBox inCells wrap0 wrap1 wrapm1 take_snoc BIGB marks boxZ ldLab cellOf cellN CELLM boxIn isCell apartC frzR frzRL frzS frzC frzCL locN notBox frzLab eatE0 isFn anyFn locB
theorem if_loop (N : Nat) (Y : List AV) (w : Nat) (o : List Int) (Hv : List AV) (hl : o.length < 4294967295) (h : ∀ x ∈ o, 0 ≤ x ∧ x < (w : Int)) : ∀ (k i : Nat), i + k = o.length → codeL cfgS 3 (.loop lQMX0) (ifSt N Y w o Hv i []) = some (.exit 0, ifSt N Y w o Hv o.length [(9, .bool false)])
  | 0, i, hi => by
    obtain rfl : i = o.length := by omega
    refine loop_exit ?_
    unfold ifSt lQMX0 hP
    generalize ints o = C at *
    simp [rQMX0, rQMX1, rQMX2, rQMX3, rQMX4, rQMX5, rQMX6, rQMX7]
  | k + 1, i, hi => by
    have hlt : i < o.length := by omega
    refine (loop_next ?_).trans (if_loop N Y w o Hv hl h k (i + 1) (by omega))
    have k1 : (i : Int) < o.length := by omega
    have hw := wrapS (i := i) (by omega)
    have m := check1_run N Y w (ints o) Hv o[i] (h _ (List.getElem_mem hlt))
    have g3 : (ints o)[i]? = some (.int .i64 o[i]) := by rw [ints_get, List.getElem?_eq_getElem hlt]; rfl
    have g4 : ∀ h, (ints o)[i]'h = .int .i64 o[i] := fun h => intsAt ..
    have g5 := ints_length o
    generalize o[i] = x at *
    unfold hP at m
    unfold ifSt lQMX0 hP
    generalize ints o = C at *
    simp [rQMX0, rQMX1, rQMX2, rQMX3, rQMX4, rQMX5, rQMX6, rQMX7, k1, hlt, hw, m, g3, g4, g5, idx, sQS, iQS, eQS, plp, plpL, allB, notBox, swC, swS, seesC, inBox, blk]
theorem containsP_run (N : Nat) (Y : List AV) (w : Nat) (o : List Int) (Hv : List AV) (hl : o.length < 4294967295) (h : ∀ x ∈ o, 0 ≤ x ∧ x < (w : Int)) : callL cfgS nQR [.list 1 (ints o), .func (.func nQS) [] [.ptr 2 0]] (hP N Y w (ints o) Hv) = some (.bool false, hP N Y w (ints o) Hv) := by
  have ix : callL cfgS nQM [.list 1 (ints o), .func (.func nQS) [] [.ptr 2 0]] (hP N Y w (ints o) Hv) = some (.int .i64 (-1), hP N Y w (ints o) Hv) := by
    have lp := if_loop N Y w o Hv hl h o.length 0 (by omega)
    rw [callL_end oQM sQM (Nat.le_of_ble_eq_true rfl)]
    unfold ifSt hP at lp
    rw [nat0] at lp
    unfold qQM cQM hP
    have g5 := ints_length o
    generalize ints o = C at *
    simp [rQMX0, rQMX1, rQMX2, rQMX3, rQMX4, rQMX5, rQMX6, rQMX7, lp, g5, blk, plp, plpL, allB, notBox, swC, swS, seesC, inBox, finS, endL, finB]
  rw [callL_end oQR sQR (Nat.le_of_ble_eq_true rfl)]
  unfold hP at ix
  unfold qQR cQR hP
  generalize ints o = C at *
  simp [rQRX0, rQRX1, ix, blk, sQM, iQM, eQM, plp, plpL, allB, notBox, swC, swS, seesC, inBox, finS, endL, finB]
theorem workers_run {w : Nat} (h0 : 1 ≤ w) (h1 : w ≤ 8) : callL cfgS nQz [.int .i64 w] [] = some (.bool true, []) := by
  have k1 : (1 : Int) ≤ (w : Int) := by omega
  have k2 : (w : Int) ≤ 8 := by omega
  rw [callL_end oQz sQz (Nat.le_of_ble_eq_true rfl)]
  unfold qQz cQz
  simp [rQzX0, rQzX1, k1, k2, h0, h1, blk, endL, finB]
theorem chkN34_run (N : Nat) (Y : List AV) (w : Nat) (h0 : 1 ≤ w) (h1 : w ≤ 8) (o hv : List Int) (ho : o.length = N) (hN : N < 1000000) (h : ∀ x ∈ o, 0 ≤ x ∧ x < (w : Int)) (hh : hv.length < 1000000) (hV : valGo N (-1) hv = true) : callL cfgS nQI [.agg [.int .i64 w, .list 1 (ints o), .list 1 (ints hv)], .int .i64 N] [some [.int .i64 N, .list 2 Y], some [.int .i64 w, .list 1 (ints o), .list 1 (ints hv)]] = some (.int .i64 0, [some [.int .i64 N, .list 2 Y], some [.int .i64 w, .list 1 (ints o), .list 1 (ints hv)]]) := by
  have c := containsP_run N Y w o (ints hv) (by omega) h
  have v := nvalid_run N hv (by omega)
  rw [hV] at v
  have wk := workers_run h0 h1
  have g5 : (ints o).length = N := by rw [ints_length, ho]
  unfold hP at c
  generalize ints o = O at *
  generalize ints hv = Hv at *
  rw [callL_end oQI sQI (Nat.le_of_ble_eq_true rfl)]
  unfold qQI cQI
  simp [rQIX0, rQIX1, rQIX2, rQIX3, rQIX4, rQIX5, rQIX6, rQIX7, c, v, wk, g5, blk, sQR, iQR, eQR, sQQ, iQQ, eQQ, sQz, iQz, eQz, plp, plpL, allB, notBox, swC, swS, seesC, inBox, finS, endL, finB]
theorem pcheck_run (N : Nat) (Es : List Ed) (hG : GOK (N : Int) Es) (hE : Es.length < 1000000) (w : Nat) (h0 : 1 ≤ w) (h1 : w ≤ 8) (o hv : List Int) (ho : o.length = N) (h : ∀ x ∈ o, 0 ≤ x ∧ x < (w : Int)) (hh : hv.length < 1000000) (hV : valGo N (-1) hv = true) : callL cfgS nQs [.agg [.int .i64 N, .list 2 (eds Es)], .agg [.int .i64 w, .list 1 (ints o), .list 1 (ints hv)]] [] = some (.int .i64 0, []) := by
  have hN := hG.1
  have g := gchk_run N Es (by omega)
  rw [chkG_zero.2 hG] at g
  have c := chkN34_run N (eds Es) w h0 h1 o hv ho (by omega) h hh hV
  generalize ints o = O at *
  generalize ints hv = Hv at *
  generalize eds Es = Y at *
  rw [callL_end oQs sQs (Nat.le_of_ble_eq_true rfl)]
  unfold qQs cQs
  simp [rQsX0, rQsX1, rQsX2, rQsX3, rQsX4, g, c, blk, sQJ, iQJ, eQJ, sQI, iQI, eQI, plp, plpL, allB, notBox, swC, swS, seesC, inBox, plL, pl, finS, endL, finB]
end
end Go.BmP
