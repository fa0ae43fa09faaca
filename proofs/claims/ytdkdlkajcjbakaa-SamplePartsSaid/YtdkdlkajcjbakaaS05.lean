/- What sample.Keep and ByEdges return. -/
import Derived.Test.YtdkdlkajcjbakaaTriQ
import Derived.Test.YtdkdlkajcjbakaaT05
set_option linter.unusedSimpArgs false
set_option linter.unusedVariables false
set_option maxRecDepth 100000
set_option maxHeartbeats 4000000
namespace Go.BmP
open Go.Am Go.Bm
def bls (l : List Bool) : List AV := l.map AV.bool
theorem bls_length (l : List Bool) : (bls l).length = l.length := List.length_map _
theorem bls_get (l : List Bool) (i : Nat) : (bls l)[i]? = (l[i]?).map AV.bool := List.getElem?_map
def keepE : List Bool → List Ed → List Ed
  | true :: bs, e :: r => e :: keepE bs r
  | false :: bs, _ :: r => keepE bs r
  | _, _ => []
theorem keepE_nil (bs : List Bool) : keepE bs [] = [] := by cases bs with
  | nil => rfl
  | cons b r => cases b <;> rfl
theorem keepE_cons (b : Bool) (bs : List Bool) (e : Ed) (r : List Ed) : keepE (b :: bs) (e :: r) = (if b = true then [e] else []) ++ keepE bs r := by cases b <;> rfl
theorem keepE_sub : ∀ (bs : List Bool) (l : List Ed), (keepE bs l).Sublist l
  | [], l => by cases l <;> exact List.nil_sublist _
  | b :: bs, [] => by rw [keepE_nil]; exact List.Sublist.refl _
  | true :: bs, e :: r => (keepE_sub bs r).cons_cons e
  | false :: bs, e :: r => (keepE_sub bs r).cons e
theorem gok_sub {N : Int} {Es F : List Ed} (h : GOK N Es) (s : F.Sublist Es) : GOK N F := ⟨h.1, h.2.1.sublist s, fun e he => h.2.2 e (s.mem he)⟩
def h3 (N : Nat) (Y BS : List AV) : Heap := [some [.int .i64 N, .list 2 Y], some [.list 1 BS], some [.int .i64 0, .own 2 []]]
section
attribute [local simp] codeL_seq codeL_reg codeL_blk codeL_skip codeL_ret codeL_exit codeL_cnd condL_b thenL_n thenL_e thenL_r blkL_n blkL_e blkL_r regL_s opsB stepB opB opP opnd opnds lend lendC get_nil' get_cons' put_nil' put_cons' mem_nil' mem_cons' putdB putB slowP hasOwn hasOwnL finO relab anyB anyE anyH anyR borOf borL inSlot HAND endR hasOwnE endK keepIn trim noPtr noPtrL noPtrE noPtrH binA arith unA eqB isNilB eqc lenB bndB bnd rdN rdc AV.cells fillB peek ldOK AV.leaf allLeaf fz pl plL drawB allCW cwF okDrawB okPair Fq.ok dstOff wrOff notSlot noneIn apartR oldBoxes O.reads Kd.reads E.slot slots slotO slotsP List.getD pairIn nilL okRes clean cleanL resV resVs tupOf mkEnv partsBor doCallB inpB getArgs doCallO frzA frzV frzL minA minF cont ownAt at_ setAt rel dropS relC dropAll frzP frzAll firstBor borIn borC borS borE borH handTo mapSt mapE mapH mapB mapBL sw rt fb mvB mvRt seesP inRt isRoot rootOf boxOf seesB rootsL Am.rep ovw flatCells_ints allLeaf_ints flatCells el grp updE isNilB inpV inpL stB okL unA orcA bndB plL_ints fzL stBox inCells wrap0 wrap1 wrapm1 take_snoc BIGB marks boxZ ldLab cellOf cellN CELLM boxIn isCell apartC frzR frzRL frzS frzC frzCL
theorem keep1_run (N : Nat) (Y O : List AV) (bs : List Bool) (i : Nat) (hi : i < bs.length) (hb : bs.length < 1000000) (u v : Int) :
    callL cfgS nSampleKeep1 [.int .i64 i, .agg [.int .i64 u, .int .i64 v], .ptr 1 0] (h3 N Y (bls bs) ++ [some [.int .i64 N, .list 2 Y], some [.int .i64 0, .own 2 []], some [.int .i64 N, .own 2 O], some [.int .i64 u, .int .i64 v]]) = some (.bool bs[i], h3 N Y (bls bs) ++ [some [.int .i64 N, .list 2 Y], some [.int .i64 0, .own 2 []], some [.int .i64 N, .own 2 O], some [.int .i64 u, .int .i64 v]]) := by
  have k1 : (i : Int) < bs.length := by omega
  have g1 : (bls bs)[i]? = some (.bool bs[i]) := by rw [bls_get, List.getElem?_eq_getElem hi]; rfl
  have g1' : ∀ h, (bls bs)[i]'h = .bool bs[i] := fun h => by
    have := List.getElem?_eq_getElem (l := bls bs) h
    rw [g1] at this
    exact (Option.some.inj this).symm
  have g5 := bls_length bs
  generalize bs[i] = b at *
  rw [callL_end oSampleKeep1 sSampleKeep1 (Nat.le_of_ble_eq_true rfl)]
  unfold qSampleKeep1 cSampleKeep1 h3
  generalize bls bs = C at *
  simp [rSampleKeep1X0, rSampleKeep1X1, k1, hi, g1, g1', g5, idx, blk, plp, plpL, allB, notBox, swC, swS, seesC, inBox, finS, endL, finB]
end
def skSt (N : Nat) (Es : List Ed) (bs : List Bool) (o : List Ed) (i : Nat) (J : Env) : St := ⟨(1, .func (.func nSampleKeep1) [] [.ptr 1 0]) :: (4, .ptr 4 0) :: (5, .ptr 5 0) :: (12, .list 2 (eds Es)) :: (13, .int .i64 Es.length) :: (14, .int .i64 i) :: J, h3 N (eds Es) (bls bs) ++ [some [.int .i64 N, .list 2 (eds Es)], some [.int .i64 0, .own 2 []], some [.int .i64 N, .own 2 (eds o)]]⟩
section
attribute [local simp] codeL_seq codeL_reg codeL_blk codeL_skip codeL_ret codeL_exit codeL_cnd condL_b thenL_n thenL_e thenL_r blkL_n blkL_e blkL_r regL_s opsB stepB opB opP opnd opnds lend lendC get_nil' get_cons' put_nil' put_cons' mem_nil' mem_cons' putdB putB slowP hasOwn hasOwnL finO relab anyB anyE anyH anyR borOf borL inSlot HAND endR hasOwnE endK keepIn trim noPtr noPtrL noPtrE noPtrH binA arith unA eqB isNilB eqc lenB bndB bnd rdN rdc AV.cells fillB peek ldOK AV.leaf allLeaf fz pl plL drawB allCW cwF okDrawB okPair Fq.ok dstOff wrOff notSlot noneIn apartR oldBoxes O.reads Kd.reads E.slot slots slotO slotsP List.getD pairIn nilL okRes clean cleanL resV resVs tupOf mkEnv partsBor doCallB inpB getArgs doCallO frzA frzV frzL minA minF cont ownAt at_ setAt rel dropS relC dropAll frzP frzAll firstBor borIn borC borS borE borH handTo mapSt mapE mapH mapB mapBL sw rt fb mvB mvRt seesP inRt isRoot rootOf boxOf seesB rootsL Am.rep ovw flatCells_ints allLeaf_ints flatCells el grp updE isNilB inpV inpL stB okL unA orcA bndB plL_ints fzL stBox inCells wrap0 wrap1 wrapm1 take_snoc BIGB marks boxZ ldLab cellOf cellN CELLM boxIn isCell apartC frzR frzRL frzS frzC frzCL
theorem sk_round (N : Nat) (Es : List Ed) (hE : Es.length < 1000000) (bs : List Bool) (hb : bs.length = Es.length) (o : List Ed) (ho : o.length < 1000000) (i : Nat) (hi : i < Es.length) :
    codeL cfgS 3 lSampleSomeX0 (skSt N Es bs o i []) = some (.normal, skSt N Es bs (o ++ (if bs[i]'(by omega) = true then [Es[i]] else [])) (i + 1) []) := by
  have hib : i < bs.length := by omega
  have k1 : (i : Int) < Es.length := by omega
  have hw := wrapS (i := i) (by omega)
  have m := keep1_run N (eds Es) (eds o) bs i (by omega) (by omega) Es[i].1 Es[i].2
  have g3 : (eds Es)[i]? = some (.agg [.int .i64 Es[i].1, .int .i64 Es[i].2]) := by rw [eds_get, List.getElem?_eq_getElem hi]; simp [edAV]
  have g4 : ∀ h, (eds Es)[i]'h = .agg [.int .i64 Es[i].1, .int .i64 Es[i].2] := fun h => by
    have := List.getElem?_eq_getElem (l := eds Es) h
    rw [g3] at this
    exact (Option.some.inj this).symm
  have g5 := eds_length Es
  have hL : o.length + 1 ≤ 4294967296 := by omega
  have sn := eds_snocM o Es[i].1 Es[i].2
  have tk : (eds (o ++ [(Es[i].1, Es[i].2)])).take (o.length + 1) = eds (o ++ [(Es[i].1, Es[i].2)]) := by
    rw [eds_take, List.take_of_length_le (by simp)]
  have tko : (eds o).take o.length = eds o := by rw [eds_take, List.take_length]
  have e0 : (Es[i].1, Es[i].2) = Es[i] := rfl
  rw [e0] at sn tk
  unfold h3 at m
  simp only [List.cons_append, List.nil_append] at m
  generalize bs[i]'hib = b at *
  cases b with
  | true =>
    rw [if_pos rfl]
    unfold skSt lSampleSomeX0 h3
    generalize eds (o ++ [Es[i]]) = Z at *
    generalize Es[i].1 = u at *
    generalize Es[i].2 = v at *
    generalize bls bs = C at *
    generalize eds Es = Y at *
    simp [rSampleSomeX0, rSampleSomeX1, rSampleSomeX2, rSampleSomeX3, rSampleSomeX4, rSampleSomeX5, rSampleSomeX6, rSampleSomeX7, rSampleSomeX8, k1, hi, hw, m, g3, g4, g5, hL, sn, tk, tko, LIM, idx, sSampleKeep1, iSampleKeep1, plp, plpL, allB, notBox, swC, swS, seesC, inBox, relB, handBox, mvBB, mvRtB, blk, eds_length, eds_get, edsAt, edAV, allLeaf_eds, cleanL_eds, cleanL_ints, ints_length, ints_get, intsAt, endL, finB]
  | false =>
    rw [if_neg (by simp), List.append_nil]
    unfold skSt lSampleSomeX0 h3
    generalize Es[i].1 = u at *
    generalize Es[i].2 = v at *
    generalize bls bs = C at *
    generalize eds Es = Y at *
    simp [rSampleSomeX0, rSampleSomeX1, rSampleSomeX2, rSampleSomeX3, rSampleSomeX4, rSampleSomeX5, rSampleSomeX6, rSampleSomeX7, rSampleSomeX8, k1, hi, hw, m, g3, g4, g5, tko, idx, sSampleKeep1, iSampleKeep1, plp, plpL, allB, notBox, swC, swS, seesC, inBox, relB, handBox, mvBB, mvRtB, blk, eds_length, eds_get, edsAt, edAV, allLeaf_eds, cleanL_eds, cleanL_ints, ints_length, ints_get, intsAt, endL, finB]
theorem sk_loop (N : Nat) (Es : List Ed) (hE : Es.length < 1000000) (bs : List Bool) (hb : bs.length = Es.length) : ∀ (k i : Nat) (o : List Ed), i + k = Es.length → o.length ≤ i → codeL cfgS 3 (.loop lSampleSomeX0) (skSt N Es bs o i []) = some (.exit 0, skSt N Es bs (o ++ keepE (bs.drop i) (Es.drop i)) Es.length [(15, .bool false)])
  | 0, i, o, hi, ho => by
    obtain rfl : i = Es.length := by omega
    rw [List.drop_length, keepE_nil, List.append_nil]
    refine loop_exit ?_
    unfold skSt lSampleSomeX0 h3
    generalize bls bs = C at *
    generalize eds Es = Y at *
    simp [rSampleSomeX0, rSampleSomeX1, rSampleSomeX2, rSampleSomeX3, rSampleSomeX4, rSampleSomeX5, rSampleSomeX6, rSampleSomeX7, rSampleSomeX8, blk, eds_length, eds_get, edsAt, edAV, allLeaf_eds, cleanL_eds, cleanL_ints, ints_length, ints_get, intsAt, endL, finB]
  | k + 1, i, o, hi, ho => by
    have hlt : i < Es.length := by omega
    have r := sk_round N Es hE bs hb o (by omega) i hlt
    rw [List.drop_eq_getElem_cons hlt, List.drop_eq_getElem_cons (by omega : i < bs.length), keepE_cons, ← List.append_assoc]
    have ih := sk_loop N Es hE bs hb k (i + 1) (o ++ (if bs[i]'(by omega) = true then [Es[i]] else [])) (by omega) (by split <;> (try simp) <;> omega)
    exact (loop_next r).trans ih
theorem somek_run (N : Nat) (Es : List Ed) (hE : Es.length < 1000000) (bs : List Bool) (hb : bs.length = Es.length) :
    callL cfgS nSampleSome [.agg [.int .i64 N, .list 2 (eds Es)], .func (.func nSampleKeep1) [] [.ptr 1 0]] (h3 N (eds Es) (bls bs)) = some (.agg [.int .i64 N, .list 2 (eds (keepE bs Es))], h3 N (eds Es) (bls bs)) := by
  have lp := sk_loop N Es hE bs hb Es.length 0 [] (by omega) (by simp)
  rw [List.drop_zero, List.drop_zero, List.nil_append] at lp
  have g5 := eds_length Es
  have tk : (eds (keepE bs Es)).take (keepE bs Es).length = eds (keepE bs Es) := by rw [eds_take, List.take_length]
  have g6 := eds_length (keepE bs Es)
  unfold skSt h3 at lp
  simp only [List.cons_append, List.nil_append] at lp
  rw [nat0, show eds [] = [] from rfl] at lp
  rw [callL_end oSampleSome sSampleSome (Nat.le_of_ble_eq_true rfl)]
  unfold qSampleSome cSampleSome h3
  generalize keepE bs Es = M at *
  generalize bls bs = C at *
  generalize eds Es = Y at *
  generalize eds M = YM at *
  simp [rSampleSomeX0, rSampleSomeX1, rSampleSomeX2, rSampleSomeX3, rSampleSomeX4, rSampleSomeX5, rSampleSomeX6, rSampleSomeX7, rSampleSomeX8, lp, tk, g5, g6, plp, plpL, allB, notBox, swC, swS, seesC, inBox, relB, handBox, mvBB, mvRtB, finS, blk, eds_length, eds_get, edsAt, edAV, allLeaf_eds, cleanL_eds, cleanL_ints, ints_length, ints_get, intsAt, endL, finB]
theorem keep_run {N : Nat} {Es : List Ed} (hG : GOK (N : Int) Es) (hE : Es.length < 1000000) (bs : List Bool) (hb : bs.length = Es.length) :
    callL cfgS nSampleKeep [.agg [.int .i64 N, .list 2 (eds Es)], .list 1 (bls bs)] [] = some (.tup [.agg [.int .i64 N, .list 2 (eds (keepE bs Es))], .int .i64 0], []) := by
  have g := gchk_run N Es (by omega)
  rw [chkG_zero.2 hG] at g
  have sr := somek_run N Es hE bs hb
  have g5 : (bls bs).length = Es.length := by rw [bls_length, hb]
  have g6 := eds_length Es
  unfold h3 at sr
  rw [callL_end oSampleKeep sSampleKeep (Nat.le_of_ble_eq_true rfl)]
  unfold qSampleKeep cSampleKeep
  generalize keepE bs Es = M at *
  generalize bls bs = C at *
  generalize eds Es = Y at *
  generalize eds M = YM at *
  simp [rSampleKeepX0, rSampleKeepX1, rSampleKeepX2, rSampleKeepX3, rSampleKeepX4, rSampleKeepX5, rSampleKeepX6, g, sr, g5, g6, blk, sGraphCheck, iGraphCheck, sSampleSome, iSampleSome, plp, plpL, allB, notBox, swC, swS, seesC, inBox, relB, handBox, mvBB, mvRtB, offBoxes, offLab, calmB, ptrs, ptrsL, blkE, avE, avLE, endL, finB]
theorem byEdges_run {N : Nat} {Es : List Ed} (hG : GOK (N : Int) Es) (hE : Es.length < 1000000) (bs : List Bool) (hb : bs.length = Es.length) :
    callL cfgS nSampleByEdges [.agg [.int .i64 N, .list 2 (eds Es)], .list 1 (bls bs)] [] = some (.tup [.int .i64 (IntKind.i64.wrap (8 * (tri N (keepE bs Es)))), .int .i64 0], []) := by
  have hM := gok_sub hG (keepE_sub bs Es)
  have ml : (keepE bs Es).length < 1000000 := Nat.lt_of_le_of_lt (keepE_sub bs Es).length_le hE
  have mr := keep_run hG hE bs hb
  have cr := count_run hM ml
  rw [tri_quo hM] at cr
  rw [callL_end oSampleByEdges sSampleByEdges (Nat.le_of_ble_eq_true rfl)]
  unfold qSampleByEdges cSampleByEdges
  generalize keepE bs Es = M at *
  generalize (tri N M : Int) = t at *
  generalize bls bs = C at *
  generalize eds Es = Y at *
  generalize eds M = YM at *
  simp [rSampleByEdgesX0, rSampleByEdgesX1, rSampleByEdgesX2, rSampleByEdgesX3, rSampleByEdgesX4, rSampleByEdgesX5, mr, cr, blk, sSampleKeep, iSampleKeep, sTrianglesCount, iTrianglesCount, plL, pl, endL, finB]
end
end Go.BmP
