/- What sample.Mono and ByColours return. -/
import Derived.Test.YtdkdlkajcjbakaaTriQ
import Derived.Test.YtdkdlkajcjbakaaT05
set_option linter.unusedSimpArgs false
set_option linter.unusedVariables false
set_option maxRecDepth 100000
set_option maxHeartbeats 4000000
namespace Go.BmP
open Go.Am Go.Bm
theorem gok_filter {N : Int} {Es : List Ed} (p : Ed → Bool) (h : GOK N Es) : GOK N (Es.filter p) := ⟨h.1, h.2.1.sublist List.filter_sublist, fun e he => h.2.2 e (List.mem_filter.1 he).1⟩
def h4 (N : Nat) (Y CS : List AV) (c : Int) : Heap := [some [.int .i64 N, .list 2 Y], some [.list 1 CS], some [.int .i64 c], some [.int .i64 0, .own 2 []]]
section
attribute [local simp] codeL_seq codeL_reg codeL_blk codeL_skip codeL_ret codeL_exit codeL_cnd condL_b thenL_n thenL_e thenL_r blkL_n blkL_e blkL_r regL_s opsB stepB opB opP opnd opnds lend lendC get_nil' get_cons' put_nil' put_cons' mem_nil' mem_cons' putdB putB slowP hasOwn hasOwnL finO relab anyB anyE anyH anyR borOf borL inSlot HAND endR hasOwnE endK keepIn trim noPtr noPtrL noPtrE noPtrH binA arith unA eqB isNilB eqc lenB bndB bnd rdN rdc AV.cells fillB peek ldOK AV.leaf allLeaf fz pl plL drawB allCW cwF okDrawB okPair Fq.ok dstOff wrOff notSlot noneIn apartR oldBoxes O.reads Kd.reads E.slot slots slotO slotsP List.getD pairIn nilL okRes clean cleanL resV resVs tupOf mkEnv partsBor doCallB inpB getArgs doCallO frzA frzV frzL minA minF cont ownAt at_ setAt rel dropS relC dropAll frzP frzAll firstBor borIn borC borS borE borH handTo mapSt mapE mapH mapB mapBL sw rt fb mvB mvRt seesP inRt isRoot rootOf boxOf seesB rootsL Am.rep ovw flatCells_ints allLeaf_ints flatCells el grp updE isNilB inpV inpL stB okL unA orcA bndB plL_ints fzL stBox inCells wrap0 wrap1 wrapm1 take_snoc BIGB marks boxZ ldLab cellOf cellN CELLM boxIn isCell apartC frzR frzRL frzS frzC frzCL
theorem mono1_run (N : Nat) (Y CS : List AV) (c x : Int) (h : 0 ≤ x ∧ x < c) : callL cfgS nSampleMono1 [.int .i64 x, .ptr 2 0] (h4 N Y CS c) = some (.bool false, h4 N Y CS c) := by
  have h1 : ¬ x < 0 := by omega
  have h2 : ¬ c ≤ x := by omega
  rw [callL_end oSampleMono1 sSampleMono1 (Nat.le_of_ble_eq_true rfl)]
  unfold qSampleMono1 cSampleMono1 h4
  simp [rSampleMono1X0, rSampleMono1X1, h1, h2, blk, plp, plpL, allB, notBox, swC, swS, seesC, inBox, finS, endL, finB]
end
def ifSt (N : Nat) (Y : List AV) (cs : List Int) (c : Int) (i : Nat) (J : Env) : St := ⟨(0, .list 1 (ints cs)) :: (1, .func (.func nSampleMono1) [] [.ptr 2 0]) :: (7, .int .i64 cs.length) :: (8, .int .i64 i) :: J, h4 N Y (ints cs) c⟩
section
attribute [local simp] codeL_seq codeL_reg codeL_blk codeL_skip codeL_ret codeL_exit codeL_cnd condL_b thenL_n thenL_e thenL_r blkL_n blkL_e blkL_r regL_s opsB stepB opB opP opnd opnds lend lendC get_nil' get_cons' put_nil' put_cons' mem_nil' mem_cons' putdB putB slowP hasOwn hasOwnL finO relab anyB anyE anyH anyR borOf borL inSlot HAND endR hasOwnE endK keepIn trim noPtr noPtrL noPtrE noPtrH binA arith unA eqB isNilB eqc lenB bndB bnd rdN rdc AV.cells fillB peek ldOK AV.leaf allLeaf fz pl plL drawB allCW cwF okDrawB okPair Fq.ok dstOff wrOff notSlot noneIn apartR oldBoxes O.reads Kd.reads E.slot slots slotO slotsP List.getD pairIn nilL okRes clean cleanL resV resVs tupOf mkEnv partsBor doCallB inpB getArgs doCallO frzA frzV frzL minA minF cont ownAt at_ setAt rel dropS relC dropAll frzP frzAll firstBor borIn borC borS borE borH handTo mapSt mapE mapH mapB mapBL sw rt fb mvB mvRt seesP inRt isRoot rootOf boxOf seesB rootsL Am.rep ovw flatCells_ints allLeaf_ints flatCells el grp updE isNilB inpV inpL stB okL unA orcA bndB plL_ints fzL stBox inCells wrap0 wrap1 wrapm1 take_snoc BIGB marks boxZ ldLab cellOf cellN CELLM boxIn isCell apartC frzR frzRL frzS frzC frzCL
theorem if_loop (N : Nat) (Y : List AV) (cs : List Int) (hl : cs.length < 4294967295) (c : Int) (h : ∀ x ∈ cs, 0 ≤ x ∧ x < c) : ∀ (k i : Nat), i + k = cs.length → codeL cfgS 4 (.loop lSlicesIndexFuncIntIntX0) (ifSt N Y cs c i []) = some (.exit 0, ifSt N Y cs c cs.length [(9, .bool false)])
  | 0, i, hi => by
    obtain rfl : i = cs.length := by omega
    refine loop_exit ?_
    unfold ifSt lSlicesIndexFuncIntIntX0 h4
    generalize ints cs = C at *
    simp [rSlicesIndexFuncIntIntX0, rSlicesIndexFuncIntIntX1, rSlicesIndexFuncIntIntX2, rSlicesIndexFuncIntIntX3, rSlicesIndexFuncIntIntX4, rSlicesIndexFuncIntIntX5, rSlicesIndexFuncIntIntX6, rSlicesIndexFuncIntIntX7]
  | k + 1, i, hi => by
    have hlt : i < cs.length := by omega
    refine (loop_next ?_).trans (if_loop N Y cs hl c h k (i + 1) (by omega))
    have k1 : (i : Int) < cs.length := by omega
    have hw := wrapS (i := i) (by omega)
    have m := mono1_run N Y (ints cs) c cs[i] (h _ (List.getElem_mem hlt))
    have g3 : (ints cs)[i]? = some (.int .i64 cs[i]) := by rw [ints_get, List.getElem?_eq_getElem hlt]; rfl
    have g4 : ∀ h, (ints cs)[i]'h = .int .i64 cs[i] := fun h => intsAt ..
    have g5 := ints_length cs
    generalize cs[i] = x at *
    unfold h4 at m
    unfold ifSt lSlicesIndexFuncIntIntX0 h4
    generalize ints cs = C at *
    simp [rSlicesIndexFuncIntIntX0, rSlicesIndexFuncIntIntX1, rSlicesIndexFuncIntIntX2, rSlicesIndexFuncIntIntX3, rSlicesIndexFuncIntIntX4, rSlicesIndexFuncIntIntX5, rSlicesIndexFuncIntIntX6, rSlicesIndexFuncIntIntX7, k1, hlt, hw, m, g3, g4, g5, idx, sSampleMono1, iSampleMono1, plp, plpL, allB, notBox, swC, swS, seesC, inBox, blk]
theorem contains0_run (N : Nat) (Y : List AV) (cs : List Int) (hl : cs.length < 4294967295) (c : Int) (h : ∀ x ∈ cs, 0 ≤ x ∧ x < c) : callL cfgS nSlicesContainsFuncIntInt [.list 1 (ints cs), .func (.func nSampleMono1) [] [.ptr 2 0]] (h4 N Y (ints cs) c) = some (.bool false, h4 N Y (ints cs) c) := by
  have ix : callL cfgS nSlicesIndexFuncIntInt [.list 1 (ints cs), .func (.func nSampleMono1) [] [.ptr 2 0]] (h4 N Y (ints cs) c) = some (.int .i64 (-1), h4 N Y (ints cs) c) := by
    have lp := if_loop N Y cs hl c h cs.length 0 (by omega)
    rw [callL_end oSlicesIndexFuncIntInt sSlicesIndexFuncIntInt (Nat.le_of_ble_eq_true rfl)]
    unfold ifSt h4 at lp
    rw [nat0] at lp
    unfold qSlicesIndexFuncIntInt cSlicesIndexFuncIntInt h4
    have g5 := ints_length cs
    generalize ints cs = C at *
    simp [rSlicesIndexFuncIntIntX0, rSlicesIndexFuncIntIntX1, rSlicesIndexFuncIntIntX2, rSlicesIndexFuncIntIntX3, rSlicesIndexFuncIntIntX4, rSlicesIndexFuncIntIntX5, rSlicesIndexFuncIntIntX6, rSlicesIndexFuncIntIntX7, lp, g5, blk, plp, plpL, allB, notBox, swC, swS, seesC, inBox, finS, endL, finB]
  rw [callL_end oSlicesContainsFuncIntInt sSlicesContainsFuncIntInt (Nat.le_of_ble_eq_true rfl)]
  unfold h4 at ix
  unfold qSlicesContainsFuncIntInt cSlicesContainsFuncIntInt h4
  generalize ints cs = C at *
  simp [rSlicesContainsFuncIntIntX0, rSlicesContainsFuncIntIntX1, ix, blk, sSlicesIndexFuncIntInt, iSlicesIndexFuncIntInt, plp, plpL, allB, notBox, swC, swS, seesC, inBox, finS, endL, finB]
end
/-- A node's colour. -/
def col (cs : List Int) (v : Int) : Int := cs.getD v.toNat 0
section
attribute [local simp] codeL_seq codeL_reg codeL_blk codeL_skip codeL_ret codeL_exit codeL_cnd condL_b thenL_n thenL_e thenL_r blkL_n blkL_e blkL_r regL_s opsB stepB opB opP opnd opnds lend lendC get_nil' get_cons' put_nil' put_cons' mem_nil' mem_cons' putdB putB slowP hasOwn hasOwnL finO relab anyB anyE anyH anyR borOf borL inSlot HAND endR hasOwnE endK keepIn trim noPtr noPtrL noPtrE noPtrH binA arith unA eqB isNilB eqc lenB bndB bnd rdN rdc AV.cells fillB peek ldOK AV.leaf allLeaf fz pl plL drawB allCW cwF okDrawB okPair Fq.ok dstOff wrOff notSlot noneIn apartR oldBoxes O.reads Kd.reads E.slot slots slotO slotsP List.getD pairIn nilL okRes clean cleanL resV resVs tupOf mkEnv partsBor doCallB inpB getArgs doCallO frzA frzV frzL minA minF cont ownAt at_ setAt rel dropS relC dropAll frzP frzAll firstBor borIn borC borS borE borH handTo mapSt mapE mapH mapB mapBL sw rt fb mvB mvRt seesP inRt isRoot rootOf boxOf seesB rootsL Am.rep ovw flatCells_ints allLeaf_ints flatCells el grp updE isNilB inpV inpL stB okL unA orcA bndB plL_ints fzL stBox inCells wrap0 wrap1 wrapm1 take_snoc BIGB marks boxZ ldLab cellOf cellN CELLM boxIn isCell apartC frzR frzRL frzS frzC frzCL
theorem mono2_run (N : Nat) (Y O : List AV) (cs : List Int) (hl : cs.length < 4294967295) (c : Int) (i : Int) (u v : Nat) (hu : u < cs.length) (hv : v < cs.length) :
    callL cfgS nSampleMono2 [.int .i64 i, .agg [.int .i64 u, .int .i64 v], .ptr 1 0] (h4 N Y (ints cs) c ++ [some [.int .i64 N, .list 2 Y], some [.int .i64 0, .own 2 []], some [.int .i64 N, .own 2 O], some [.int .i64 u, .int .i64 v]]) = some (.bool (decide (col cs u = col cs v)), h4 N Y (ints cs) c ++ [some [.int .i64 N, .list 2 Y], some [.int .i64 0, .own 2 []], some [.int .i64 N, .own 2 O], some [.int .i64 u, .int .i64 v]]) := by
  have k1 : (u : Int) < cs.length := by omega
  have k2 : (v : Int) < cs.length := by omega
  have at_ : ∀ j : Nat, j < cs.length → (ints cs)[j]? = some (.int .i64 (col cs j)) := fun j hj => by
    rw [ints_get, List.getElem?_eq_getElem hj]; unfold col; simp [List.getD_eq_getElem?_getD, List.getElem?_eq_getElem hj]
  have g1 := at_ u hu
  have g2 := at_ v hv
  have gg : ∀ (j : Nat) (x : AV), (ints cs)[j]? = some x → ∀ h, (ints cs)[j]'h = x := fun j x e h => by
    have := List.getElem?_eq_getElem (l := ints cs) h
    rw [e] at this
    exact (Option.some.inj this).symm
  have g1' := gg _ _ g1
  have g2' := gg _ _ g2
  have g5 := ints_length cs
  clear at_ gg
  generalize col cs u = x at *
  generalize col cs v = y at *
  have be : (x == y) = decide (x = y) := by by_cases h : x = y <;> simp [h]
  rw [callL_end oSampleMono2 sSampleMono2 (Nat.le_of_ble_eq_true rfl)]
  unfold qSampleMono2 cSampleMono2 h4
  generalize ints cs = C at *
  simp [rSampleMono2X0, rSampleMono2X1, be, k1, k2, hu, hv, g1, g2, g1', g2', g5, idx, blk, plp, plpL, allB, notBox, swC, swS, seesC, inBox, finS, endL, finB]
end
def smSt (N : Nat) (Es : List Ed) (cs : List Int) (c : Int) (o : List Ed) (i : Nat) (J : Env) : St := ⟨(1, .func (.func nSampleMono2) [] [.ptr 1 0]) :: (4, .ptr 5 0) :: (5, .ptr 6 0) :: (12, .list 2 (eds Es)) :: (13, .int .i64 Es.length) :: (14, .int .i64 i) :: J, h4 N (eds Es) (ints cs) c ++ [some [.int .i64 N, .list 2 (eds Es)], some [.int .i64 0, .own 2 []], some [.int .i64 N, .own 2 (eds o)]]⟩
section
attribute [local simp] codeL_seq codeL_reg codeL_blk codeL_skip codeL_ret codeL_exit codeL_cnd condL_b thenL_n thenL_e thenL_r blkL_n blkL_e blkL_r regL_s opsB stepB opB opP opnd opnds lend lendC get_nil' get_cons' put_nil' put_cons' mem_nil' mem_cons' putdB putB slowP hasOwn hasOwnL finO relab anyB anyE anyH anyR borOf borL inSlot HAND endR hasOwnE endK keepIn trim noPtr noPtrL noPtrE noPtrH binA arith unA eqB isNilB eqc lenB bndB bnd rdN rdc AV.cells fillB peek ldOK AV.leaf allLeaf fz pl plL drawB allCW cwF okDrawB okPair Fq.ok dstOff wrOff notSlot noneIn apartR oldBoxes O.reads Kd.reads E.slot slots slotO slotsP List.getD pairIn nilL okRes clean cleanL resV resVs tupOf mkEnv partsBor doCallB inpB getArgs doCallO frzA frzV frzL minA minF cont ownAt at_ setAt rel dropS relC dropAll frzP frzAll firstBor borIn borC borS borE borH handTo mapSt mapE mapH mapB mapBL sw rt fb mvB mvRt seesP inRt isRoot rootOf boxOf seesB rootsL Am.rep ovw flatCells_ints allLeaf_ints flatCells el grp updE isNilB inpV inpL stB okL unA orcA bndB plL_ints fzL stBox inCells wrap0 wrap1 wrapm1 take_snoc BIGB marks boxZ ldLab cellOf cellN CELLM boxIn isCell apartC frzR frzRL frzS frzC frzCL
theorem sm_round (N : Nat) (Es : List Ed) (hE : Es.length < 1000000) (cs : List Int) (hc : cs.length = N) (hN : N ≤ 64) (c : Int) (o : List Ed) (ho : o.length < 1000000) (i : Nat) (hi : i < Es.length) (he : 0 ≤ Es[i].1 ∧ Es[i].1 < Es[i].2 ∧ Es[i].2 < (N : Int)) :
    codeL cfgS 4 lSampleSomeX0 (smSt N Es cs c o i []) = some (.normal, smSt N Es cs c (if col cs Es[i].1 = col cs Es[i].2 then o ++ [Es[i]] else o) (i + 1) []) := by
  obtain ⟨u, hu⟩ : ∃ u : Nat, Es[i].1 = u := ⟨Es[i].1.toNat, by omega⟩
  obtain ⟨v, hv⟩ : ∃ v : Nat, Es[i].2 = v := ⟨Es[i].2.toNat, by omega⟩
  have k1 : (i : Int) < Es.length := by omega
  have hw := wrapS (i := i) (by omega)
  have m := mono2_run N (eds Es) (eds o) cs (by omega) c i u v (by omega) (by omega)
  have g3 : (eds Es)[i]? = some (.agg [.int .i64 u, .int .i64 v]) := by rw [eds_get, List.getElem?_eq_getElem hi]; simp [edAV, hu, hv]
  have g4 : ∀ h, (eds Es)[i]'h = .agg [.int .i64 u, .int .i64 v] := fun h => by
    have := List.getElem?_eq_getElem (l := eds Es) h
    rw [g3] at this
    exact (Option.some.inj this).symm
  have g5 := eds_length Es
  have hL : o.length + 1 ≤ 4294967296 := by omega
  have e0 : Es[i] = ((u : Int), (v : Int)) := Prod.ext hu hv
  have sn := eds_snocM o (u : Int) (v : Int)
  have tk : (eds (o ++ [((u : Int), (v : Int))])).take (o.length + 1) = eds (o ++ [((u : Int), (v : Int))]) := by
    rw [eds_take, List.take_of_length_le (by simp)]
  have tko : (eds o).take o.length = eds o := by rw [eds_take, List.take_length]
  rw [e0]
  simp only
  unfold h4 at m
  simp only [List.cons_append, List.nil_append] at m
  by_cases q : col cs u = col cs v
  · rw [if_pos q]
    rw [decide_eq_true q] at m
    unfold smSt lSampleSomeX0 h4
    generalize eds (o ++ [((u : Int), (v : Int))]) = Z at *
    generalize ints cs = C at *
    generalize eds Es = Y at *
    simp [rSampleSomeX0, rSampleSomeX1, rSampleSomeX2, rSampleSomeX3, rSampleSomeX4, rSampleSomeX5, rSampleSomeX6, rSampleSomeX7, rSampleSomeX8, k1, hi, hw, m, g3, g4, g5, hL, sn, tk, tko, LIM, idx, sSampleMono2, iSampleMono2, plp, plpL, allB, notBox, swC, swS, seesC, inBox, relB, handBox, mvBB, mvRtB, blk, eds_length, eds_get, edsAt, edAV, allLeaf_eds, cleanL_eds, cleanL_ints, ints_length, ints_get, intsAt, endL, finB]
  · rw [if_neg q]
    rw [decide_eq_false q] at m
    unfold smSt lSampleSomeX0 h4
    generalize ints cs = C at *
    generalize eds Es = Y at *
    simp [rSampleSomeX0, rSampleSomeX1, rSampleSomeX2, rSampleSomeX3, rSampleSomeX4, rSampleSomeX5, rSampleSomeX6, rSampleSomeX7, rSampleSomeX8, k1, hi, hw, m, g3, g4, g5, tko, idx, sSampleMono2, iSampleMono2, plp, plpL, allB, notBox, swC, swS, seesC, inBox, relB, handBox, mvBB, mvRtB, blk, eds_length, eds_get, edsAt, edAV, allLeaf_eds, cleanL_eds, cleanL_ints, ints_length, ints_get, intsAt, endL, finB]
end
/-- The edges within one colour. -/
def monoE (cs : List Int) (Es : List Ed) : List Ed := Es.filter fun e => decide (col cs e.1 = col cs e.2)
section
attribute [local simp] codeL_seq codeL_reg codeL_blk codeL_skip codeL_ret codeL_exit codeL_cnd condL_b thenL_n thenL_e thenL_r blkL_n blkL_e blkL_r regL_s opsB stepB opB opP opnd opnds lend lendC get_nil' get_cons' put_nil' put_cons' mem_nil' mem_cons' putdB putB slowP hasOwn hasOwnL finO relab anyB anyE anyH anyR borOf borL inSlot HAND endR hasOwnE endK keepIn trim noPtr noPtrL noPtrE noPtrH binA arith unA eqB isNilB eqc lenB bndB bnd rdN rdc AV.cells fillB peek ldOK AV.leaf allLeaf fz pl plL drawB allCW cwF okDrawB okPair Fq.ok dstOff wrOff notSlot noneIn apartR oldBoxes O.reads Kd.reads E.slot slots slotO slotsP List.getD pairIn nilL okRes clean cleanL resV resVs tupOf mkEnv partsBor doCallB inpB getArgs doCallO frzA frzV frzL minA minF cont ownAt at_ setAt rel dropS relC dropAll frzP frzAll firstBor borIn borC borS borE borH handTo mapSt mapE mapH mapB mapBL sw rt fb mvB mvRt seesP inRt isRoot rootOf boxOf seesB rootsL Am.rep ovw flatCells_ints allLeaf_ints flatCells el grp updE isNilB inpV inpL stB okL unA orcA bndB plL_ints fzL stBox inCells wrap0 wrap1 wrapm1 take_snoc BIGB marks boxZ ldLab cellOf cellN CELLM boxIn isCell apartC frzR frzRL frzS frzC frzCL
theorem sm_loop (N : Nat) (Es : List Ed) (hE : Es.length < 1000000) (cs : List Int) (hc : cs.length = N) (hN : N ≤ 64) (c : Int) (he : ∀ e ∈ Es, 0 ≤ e.1 ∧ e.1 < e.2 ∧ e.2 < (N : Int)) : ∀ (k i : Nat) (o : List Ed), i + k = Es.length → o.length ≤ i → codeL cfgS 4 (.loop lSampleSomeX0) (smSt N Es cs c o i []) = some (.exit 0, smSt N Es cs c (o ++ monoE cs (Es.drop i)) Es.length [(15, .bool false)])
  | 0, i, o, hi, ho => by
    obtain rfl : i = Es.length := by omega
    have e0 : monoE cs (Es.drop Es.length) = [] := by rw [List.drop_length]; rfl
    rw [e0, List.append_nil]
    refine loop_exit ?_
    unfold smSt lSampleSomeX0 h4
    generalize ints cs = C at *
    generalize eds Es = Y at *
    simp [rSampleSomeX0, rSampleSomeX1, rSampleSomeX2, rSampleSomeX3, rSampleSomeX4, rSampleSomeX5, rSampleSomeX6, rSampleSomeX7, rSampleSomeX8, blk, eds_length, eds_get, edsAt, edAV, allLeaf_eds, cleanL_eds, cleanL_ints, ints_length, ints_get, intsAt, endL, finB]
  | k + 1, i, o, hi, ho => by
    have hlt : i < Es.length := by omega
    have r := sm_round N Es hE cs hc hN c o (by omega) i hlt (he _ (List.getElem_mem hlt))
    have e0 : o ++ monoE cs (Es.drop i) = (if col cs Es[i].1 = col cs Es[i].2 then o ++ [Es[i]] else o) ++ monoE cs (Es.drop (i + 1)) := by
      rw [List.drop_eq_getElem_cons hlt]
      unfold monoE
      rw [List.filter_cons]
      by_cases q : col cs Es[i].1 = col cs Es[i].2
      · rw [if_pos (by simpa using q), if_pos q, List.append_assoc]; rfl
      · rw [if_neg (by simpa using q), if_neg q]
    have ih := sm_loop N Es hE cs hc hN c he k (i + 1) (if col cs Es[i].1 = col cs Es[i].2 then o ++ [Es[i]] else o) (by omega) (by split <;> (try simp) <;> omega)
    rw [e0]
    exact (loop_next r).trans ih
theorem some_run (N : Nat) (Es : List Ed) (hE : Es.length < 1000000) (cs : List Int) (hc : cs.length = N) (hN : N ≤ 64) (c : Int) (he : ∀ e ∈ Es, 0 ≤ e.1 ∧ e.1 < e.2 ∧ e.2 < (N : Int)) :
    callL cfgS nSampleSome [.agg [.int .i64 N, .list 2 (eds Es)], .func (.func nSampleMono2) [] [.ptr 1 0]] (h4 N (eds Es) (ints cs) c) = some (.agg [.int .i64 N, .list 2 (eds (monoE cs Es))], h4 N (eds Es) (ints cs) c) := by
  have lp := sm_loop N Es hE cs hc hN c he Es.length 0 [] (by omega) (by simp)
  rw [List.drop_zero, List.nil_append] at lp
  have g5 := eds_length Es
  have tk : (eds (monoE cs Es)).take (monoE cs Es).length = eds (monoE cs Es) := by rw [eds_take, List.take_length]
  have g6 := eds_length (monoE cs Es)
  unfold smSt h4 at lp
  simp only [List.cons_append, List.nil_append] at lp
  rw [nat0, show eds [] = [] from rfl] at lp
  rw [callL_end oSampleSome sSampleSome (Nat.le_of_ble_eq_true rfl)]
  unfold qSampleSome cSampleSome h4
  generalize monoE cs Es = M at *
  generalize ints cs = C at *
  generalize eds Es = Y at *
  generalize eds M = YM at *
  simp [rSampleSomeX0, rSampleSomeX1, rSampleSomeX2, rSampleSomeX3, rSampleSomeX4, rSampleSomeX5, rSampleSomeX6, rSampleSomeX7, rSampleSomeX8, lp, tk, g5, g6, plp, plpL, allB, notBox, swC, swS, seesC, inBox, relB, handBox, mvBB, mvRtB, finS, blk, eds_length, eds_get, edsAt, edAV, allLeaf_eds, cleanL_eds, cleanL_ints, ints_length, ints_get, intsAt, endL, finB]
theorem monoS_run {N : Nat} {Es : List Ed} (hG : GOK (N : Int) Es) (hE : Es.length < 1000000) (cs : List Int) (hc : cs.length = N) (c : Int) (c1 : 1 ≤ c ∧ c ≤ 64) (h : ∀ x ∈ cs, 0 ≤ x ∧ x < c) :
    callL cfgS nSampleMono [.agg [.int .i64 N, .list 2 (eds Es)], .list 1 (ints cs), .int .i64 c] [] = some (.tup [.agg [.int .i64 N, .list 2 (eds (monoE cs Es))], .int .i64 0], []) := by
  have hN := hG.1
  have g := gchk_run N Es (by omega)
  rw [chkG_zero.2 hG] at g
  have sr := some_run N Es hE cs hc (by omega) c hG.2.2
  have ct := contains0_run N (eds Es) cs (by omega) c h
  have n1 : ¬ c < 1 := by omega
  have n2 : ¬ 64 < c := by omega
  have g5 : (ints cs).length = N := by rw [ints_length, hc]
  unfold h4 at sr ct
  rw [callL_end oSampleMono sSampleMono (Nat.le_of_ble_eq_true rfl)]
  unfold qSampleMono cSampleMono
  generalize monoE cs Es = M at *
  generalize ints cs = C at *
  generalize eds Es = Y at *
  generalize eds M = YM at *
  simp [rSampleMonoX0, rSampleMonoX1, rSampleMonoX2, rSampleMonoX3, rSampleMonoX4, rSampleMonoX5, rSampleMonoX6, rSampleMonoX7, rSampleMonoX8, g, sr, ct, n1, n2, g5, blk, sGraphCheck, iGraphCheck, sSampleSome, iSampleSome, sSlicesContainsFuncIntInt, iSlicesContainsFuncIntInt, plp, plpL, allB, notBox, swC, swS, seesC, inBox, relB, handBox, mvBB, mvRtB, offBoxes, offLab, calmB, ptrs, ptrsL, blkE, avE, avLE, endL, finB]
theorem byColours_run {N : Nat} {Es : List Ed} (hG : GOK (N : Int) Es) (hE : Es.length < 1000000) (cs : List Int) (hc : cs.length = N) (c : Int) (c1 : 1 ≤ c ∧ c ≤ 64) (h : ∀ x ∈ cs, 0 ≤ x ∧ x < c) :
    callL cfgS nSampleByColours [.agg [.int .i64 N, .list 2 (eds Es)], .list 1 (ints cs), .int .i64 c] [] = some (.tup [.int .i64 (IntKind.i64.wrap (c * c * (tri N (monoE cs Es)))), .int .i64 0], []) := by
  have hM := gok_filter (fun e => decide (col cs e.1 = col cs e.2)) hG
  have ml : (monoE cs Es).length < 1000000 := Nat.lt_of_le_of_lt (List.length_filter_le _ _) hE
  have mr := monoS_run hG hE cs hc c c1 h
  have cr := count_run (Es := monoE cs Es) hM ml
  rw [tri_quo (Es := monoE cs Es) hM] at cr
  have wc : IntKind.i64.wrap (c * c) = c * c := by
    have h1 : c * c ≤ 64 * 64 := Int.mul_le_mul c1.2 c1.2 (by omega) (by omega)
    have h2 : 0 ≤ c * c := Int.mul_nonneg (by omega) (by omega)
    exact wrap_id (by omega) (by omega)
  rw [callL_end oSampleByColours sSampleByColours (Nat.le_of_ble_eq_true rfl)]
  unfold qSampleByColours cSampleByColours
  unfold monoE at *
  generalize Es.filter (fun e => decide (col cs e.1 = col cs e.2)) = M at *
  generalize (tri N M : Int) = t at *
  generalize ints cs = C at *
  generalize eds Es = Y at *
  generalize eds M = YM at *
  simp [rSampleByColoursX0, rSampleByColoursX1, rSampleByColoursX2, rSampleByColoursX3, rSampleByColoursX4, rSampleByColoursX5, mr, cr, wc, blk, sSampleMono, iSampleMono, sTrianglesCount, iTrianglesCount, plL, pl, endL, finB]
end
end Go.BmP
