/- What masks.Bit, Of, graph.Induced return. -/
import Derived.Test.YtiohfglnoneanaaDoorK04
import Derived.Test.YtiohfglnoneanaaDoorK07
set_option linter.unusedSimpArgs false
set_option linter.unusedVariables false
set_option maxRecDepth 100000
set_option maxHeartbeats 4000000
namespace Go.BmP
open Go.Am Go.Bm
section
attribute [local simp] codeL_seq codeL_reg codeL_blk codeL_skip codeL_ret codeL_exit codeL_cnd condL_b thenL_n thenL_e thenL_r blkL_n blkL_e blkL_r regL_s opsB stepB opB opP opnd opnds lend lendC get_nil' get_cons' put_nil' put_cons' mem_nil' mem_cons' putdB putB slowP hasOwn hasOwnL finO relab anyB anyE anyH anyR borOf borL inSlot HAND endR hasOwnE endK keepIn trim noPtr noPtrL noPtrE noPtrH binA arith unA eqB isNilB eqc lenB bndB bnd rdN rdc AV.cells fillB peek ldOK AV.leaf allLeaf fz pl plL drawB allCW cwF okDrawB okPair Fq.ok dstOff wrOff notSlot noneIn apartR oldBoxes O.reads Kd.reads E.slot slots slotO slotsP List.getD pairIn nilL okRes clean cleanL resV resVs tupOf mkEnv partsBor doCallB inpB getArgs doCallO frzA frzV frzL minA minF cont ownAt at_ setAt rel dropS relC dropAll frzP frzAll firstBor borIn borC borS borE borH handTo mapSt mapE mapH mapB mapBL sw rt fb mvB mvRt seesP inRt isRoot rootOf boxOf seesB rootsL Am.rep ovw flatCells_ints allLeaf_ints flatCells el grp updE isNilB inpV inpL stB okL unA orcA bndB plL_ints fzL stBox inCells wrap0 wrap1 wrapm1 take_snoc BIGB
theorem bit_run (v : Int) (h0 : 0 ≤ v) (h1 : v < 64) : callL cfgS nMasksBit [.int .i64 v] [] = some (.int .u64 ((2 ^ v.toNat : Nat) : Int), []) := by
  rw [callL_end oMasksBit sMasksBit (Nat.le_of_ble_eq_true rfl)]
  have n0 : ¬ v < 0 := by omega
  have n1 : ¬ 64 ≤ v := by omega
  have s1 := shlU h0 h1
  have s1' : IntKind.u64.wrap (2 ^ (min v.toNat 64)) = ((2 ^ v.toNat : Nat) : Int) := by rw [← s1, Int.one_mul]
  generalize ((2 ^ v.toNat : Nat) : Int) = p at *
  unfold qMasksBit cMasksBit
  simp [rMasksBitX0, rMasksBitX1, rMasksBitX2, rMasksBitX3, n0, n1, s1, s1', IntKind.bits, blk, eds_length, eds_get, edsAt, edAV, allLeaf_eds, cleanL_eds, cleanL_ints, ints_length, ints_get, intsAt, endL, finB]
theorem mof_loop (l : List Int) (hl : l.length < 4294967295) (hb : ∀ v ∈ l, 0 ≤ v ∧ v < 64) : ∀ (n i m : Nat), i + n = l.length → m < 18446744073709551616 → codeL cfgS 0 (.loop lMasksOfX0) ⟨[(3, .int .u64 m), (6, .list 1 (ints l)), (7, .int .i64 l.length), (8, .int .i64 i)], []⟩ =
    some (.exit 0, ⟨[(3, .int .u64 (mskF (l.drop i) m : Nat)), (6, .list 1 (ints l)), (7, .int .i64 l.length), (8, .int .i64 l.length), (9, .bool false)], []⟩)
  | 0, i, m, hi, hm => by
    obtain rfl : i = l.length := by omega
    rw [List.drop_length]
    exact loop_exit (by unfold lMasksOfX0; simp [rMasksOfX0, rMasksOfX1, rMasksOfX2, rMasksOfX3, rMasksOfX4, rMasksOfX5, rMasksOfX6, rMasksOfX7, mskF, List.foldl_nil, blk, eds_length, eds_get, edsAt, edAV, allLeaf_eds, cleanL_eds, cleanL_ints, ints_length, ints_get, intsAt, endL, finB])
  | n + 1, i, m, hi, hm => by
    have hlt : i < l.length := by omega
    have h1 : (i : Int) < l.length := by omega
    have hw := wrapS (i := i) (by omega)
    obtain ⟨b0, b1⟩ := hb l[i] (List.getElem_mem hlt)
    have hp := pow_lt64 b1 b0
    have br := bit_run l[i] b0 b1
    have ih := mof_loop l hl hb n (i + 1) (m ||| 2 ^ l[i].toNat) (by omega) (Nat.or_lt_two_pow (n := 64) hm hp)
    have w2 := u64_or_nat m (2 ^ l[i].toNat) hm hp
    rw [List.drop_eq_getElem_cons hlt]
    have e : mskF (l[i] :: l.drop (i + 1)) m = mskF (l.drop (i + 1)) (m ||| 2 ^ l[i].toNat) := rfl
    rw [e]
    refine (loop_next ?_).trans ih
    clear ih e
    generalize ((m ||| 2 ^ l[i].toNat : Nat) : Int) = q at *
    generalize ((2 ^ l[i].toNat : Nat) : Int) = p at *
    generalize (m : Int) = X at *
    have i1 := idx_lt (k := .i64) (i := (i : Int)) (n := l.length) (by omega) h1
    unfold lMasksOfX0
    simp [rMasksOfX0, rMasksOfX1, rMasksOfX2, rMasksOfX3, rMasksOfX4, rMasksOfX5, rMasksOfX6, rMasksOfX7, h1, hlt, hw, i1, br, w2, sMasksBit, iMasksBit, blk, eds_length, eds_get, edsAt, edAV, allLeaf_eds, cleanL_eds, cleanL_ints, ints_length, ints_get, intsAt, endL, finB]
theorem mof_run (l : List Int) (hl : l.length < 4294967295) (hb : ∀ v ∈ l, 0 ≤ v ∧ v < 64) : callL cfgS nMasksOf [.list 1 (ints l)] [] = some (.int .u64 (msk l : Nat), []) := by
  rw [callL_end oMasksOf sMasksOf (Nat.le_of_ble_eq_true rfl)]
  have h := mof_loop l hl hb l.length 0 0 (by omega) (by decide)
  rw [nat0, List.drop_zero] at h
  have e : mskF l 0 = msk l := rfl
  rw [e] at h
  generalize ((msk l : Nat) : Int) = q at *
  unfold qMasksOf cMasksOf
  simp [rMasksOfX0, rMasksOfX1, rMasksOfX2, rMasksOfX3, rMasksOfX4, rMasksOfX5, rMasksOfX6, rMasksOfX7, h, blk, eds_length, eds_get, edsAt, edAV, allLeaf_eds, cleanL_eds, cleanL_ints, ints_length, ints_get, intsAt, endL, finB]
end
/-- The edges within a set of bits. -/
def inM (M : Nat) (e : Ed) : Bool := M.testBit e.1.toNat && M.testBit e.2.toNat
theorem and_bit (M : Nat) (u : Nat) : ((M &&& 2 ^ u : Nat) : Int) = 0 ↔ M.testBit u = false := by
  constructor
  · intro h
    have h : M &&& 2 ^ u = 0 := by omega
    have := congrArg (fun n => n.testBit u) h
    simpa [Nat.testBit_and, Nat.testBit_two_pow] using this
  · intro h
    have : M &&& 2 ^ u = 0 := by
      apply Nat.eq_of_testBit_eq
      intro j
      rw [Nat.testBit_and, Nat.testBit_two_pow, Nat.zero_testBit]
      by_cases e : u = j
      · subst e; simp [h]
      · simp [e]
    rw [this]; rfl
section
attribute [local simp] codeL_seq codeL_reg codeL_blk codeL_skip codeL_ret codeL_exit codeL_cnd condL_b thenL_n thenL_e thenL_r blkL_n blkL_e blkL_r regL_s opsB stepB opB opP opnd opnds lend lendC get_nil' get_cons' put_nil' put_cons' mem_nil' mem_cons' putdB putB slowP hasOwn hasOwnL finO relab anyB anyE anyH anyR borOf borL inSlot HAND endR hasOwnE endK keepIn trim noPtr noPtrL noPtrE noPtrH binA arith unA eqB isNilB eqc lenB bndB bnd rdN rdc AV.cells fillB peek ldOK AV.leaf allLeaf fz pl plL drawB allCW cwF okDrawB okPair Fq.ok dstOff wrOff notSlot noneIn apartR oldBoxes O.reads Kd.reads E.slot slots slotO slotsP List.getD pairIn nilL okRes clean cleanL resV resVs tupOf mkEnv partsBor doCallB inpB getArgs doCallO frzA frzV frzL minA minF cont ownAt at_ setAt rel dropS relC dropAll frzP frzAll firstBor borIn borC borS borE borH handTo mapSt mapE mapH mapB mapBL sw rt fb mvB mvRt seesP inRt isRoot rootOf boxOf seesB rootsL Am.rep ovw flatCells_ints allLeaf_ints flatCells el grp updE isNilB inpV inpL stB okL unA orcA bndB plL_ints fzL stBox inCells wrap0 wrap1 wrapm1 take_snoc BIGB
theorem wE_loop (M : Nat) (hM : M < 18446744073709551616) (Es : List Ed) (hE : Es.length < 4294967295) (hv : ∀ e ∈ Es, (0 ≤ e.1 ∧ e.1 < 64) ∧ (0 ≤ e.2 ∧ e.2 < 64)) : ∀ (k i : Nat) (o : List Ed), i + k = Es.length → o.length ≤ i → codeL cfgS 0 (.loop lGraphWithinX0) ⟨[(5, .int .u64 M), (6, .own 2 (eds o)), (12, .list 2 (eds Es)), (13, .int .i64 Es.length), (14, .int .i64 i)], []⟩ =
    some (.exit 0, ⟨[(5, .int .u64 M), (6, .own 2 (eds (o ++ (Es.drop i).filter (inM M)))), (12, .list 2 (eds Es)), (13, .int .i64 Es.length), (14, .int .i64 Es.length), (15, .bool false)], []⟩)
  | 0, i, o, hi, ho => by
    obtain rfl : i = Es.length := by omega
    rw [List.drop_length, List.filter_nil, List.append_nil]
    exact loop_exit (by unfold lGraphWithinX0; simp [rGraphWithinX0, rGraphWithinX1, rGraphWithinX2, rGraphWithinX3, rGraphWithinX4, rGraphWithinX5, rGraphWithinX6, rGraphWithinX7, rGraphWithinX8, rGraphWithinX9, blk, eds_length, eds_get, edsAt, edAV, allLeaf_eds, cleanL_eds, cleanL_ints, ints_length, ints_get, intsAt, endL, finB])
  | k + 1, i, o, hi, ho => by
    have hlt : i < Es.length := by omega
    have h1 : (i : Int) < Es.length := by omega
    have hw := wrapS (i := i) (by omega)
    obtain ⟨⟨u0, u1⟩, v0, v1⟩ := hv Es[i] (List.getElem_mem hlt)
    have b1 := bit_run Es[i].1 u0 u1
    have b2 := bit_run Es[i].2 v0 v1
    have a1 := u64_and_nat M (2 ^ Es[i].1.toNat) hM (pow_lt64 u1 u0)
    have a2 := u64_and_nat M (2 ^ Es[i].2.toNat) hM (pow_lt64 v1 v0)
    have z1 := and_bit M Es[i].1.toNat
    have z2 := and_bit M Es[i].2.toNat
    have hL : o.length + 1 ≤ 4294967296 := by omega
    have i1 := idx_lt (k := .i64) (i := (i : Int)) (n := Es.length) (by omega) h1
    have sn := eds_snoc o Es[i]
    have ih1 := wE_loop M hM Es hE hv k (i + 1) (o ++ [Es[i]]) (by omega) (by simp; omega)
    have ih2 := wE_loop M hM Es hE hv k (i + 1) o (by omega) (by omega)
    have tk : ∀ o : List Ed, (eds o).take o.length = eds o := fun o => by rw [eds_take, List.take_length]
    have tk2 : (eds (o ++ [Es[i]])).take (o.length + 1) = eds (o ++ [Es[i]]) := by
      have := tk (o ++ [Es[i]])
      rwa [List.length_append] at this
    rw [List.drop_eq_getElem_cons hlt, List.filter_cons]
    have e0 : inM M Es[i] = (M.testBit Es[i].1.toNat && M.testBit Es[i].2.toNat) := rfl
    rw [e0]
    generalize ((M &&& 2 ^ Es[i].1.toNat : Nat) : Int) = q1 at *
    generalize ((M &&& 2 ^ Es[i].2.toNat : Nat) : Int) = q2 at *
    generalize ((2 ^ Es[i].1.toNat : Nat) : Int) = p1 at *
    generalize ((2 ^ Es[i].2.toNat : Nat) : Int) = p2 at *
    cases t1 : M.testBit Es[i].1.toNat with
    | false =>
      rw [t1] at z1
      have z1 : q1 = 0 := by simpa using z1
      rw [Bool.false_and, if_neg (by decide)]
      refine (loop_next ?_).trans ih2
      clear ih1 ih2 z2
      generalize (M : Int) = X at *
      unfold lGraphWithinX0
      simp [rGraphWithinX0, rGraphWithinX1, rGraphWithinX2, rGraphWithinX3, rGraphWithinX4, rGraphWithinX5, rGraphWithinX6, rGraphWithinX7, rGraphWithinX8, rGraphWithinX9, h1, hlt, hw, i1, b1, a1, z1, sMasksBit, iMasksBit, blk, eds_length, eds_get, edsAt, edAV, allLeaf_eds, cleanL_eds, cleanL_ints, ints_length, ints_get, intsAt, endL, finB]
    | true =>
      rw [t1] at z1
      have z1 : ¬ q1 = 0 := by simpa using z1
      cases t2 : M.testBit Es[i].2.toNat with
      | false =>
        rw [t2] at z2
        have z2 : q2 = 0 := by simpa using z2
        rw [Bool.and_false, if_neg (by decide)]
        refine (loop_next ?_).trans ih2
        clear ih1 ih2
        generalize (M : Int) = X at *
        unfold lGraphWithinX0
        simp [rGraphWithinX0, rGraphWithinX1, rGraphWithinX2, rGraphWithinX3, rGraphWithinX4, rGraphWithinX5, rGraphWithinX6, rGraphWithinX7, rGraphWithinX8, rGraphWithinX9, h1, hlt, hw, i1, b1, a1, z1, b2, a2, z2, sMasksBit, iMasksBit, blk, eds_length, eds_get, edsAt, edAV, allLeaf_eds, cleanL_eds, cleanL_ints, ints_length, ints_get, intsAt, endL, finB]
      | true =>
        rw [t2] at z2
        have z2 : ¬ q2 = 0 := by simpa using z2
        have ea : o ++ Es[i] :: (Es.drop (i + 1)).filter (inM M) = (o ++ [Es[i]]) ++ (Es.drop (i + 1)).filter (inM M) := by simp
        rw [Bool.and_self, if_pos rfl, ea]
        refine (loop_next ?_).trans ih1
        clear ih1 ih2
        generalize (M : Int) = X at *
        unfold lGraphWithinX0
        simp [rGraphWithinX0, rGraphWithinX1, rGraphWithinX2, rGraphWithinX3, rGraphWithinX4, rGraphWithinX5, rGraphWithinX6, rGraphWithinX7, rGraphWithinX8, rGraphWithinX9, h1, hlt, hw, i1, b1, a1, z1, b2, a2, z2, hL, LIM, sn, tk, tk2, sMasksBit, iMasksBit, blk, eds_length, eds_get, edsAt, edAV, allLeaf_eds, cleanL_eds, cleanL_ints, ints_length, ints_get, intsAt, endL, finB]
theorem withinE_run (n : Int) (S : List Int) (hS : S.length < 4294967295) (hb : ∀ v ∈ S, 0 ≤ v ∧ v < 64) (Es : List Ed) (hE : Es.length < 4294967295) (hv : ∀ e ∈ Es, (0 ≤ e.1 ∧ e.1 < 64) ∧ (0 ≤ e.2 ∧ e.2 < 64)) : callL cfgS nGraphWithin [.agg [.int .i64 n, .list 2 (eds Es)], .list 1 (ints S)] [] = some (.list 2 (eds (Es.filter (inM (msk S)))), []) := by
  rw [callL_end oGraphWithin sGraphWithin (Nat.le_of_ble_eq_true rfl)]
  have h := wE_loop (msk S) (msk_lt fun v hv => (hb v hv).2) Es hE hv Es.length 0 [] (by omega) (by simp)
  rw [nat0, List.drop_zero, List.nil_append, show eds [] = [] from rfl] at h
  have m := mof_run S hS hb
  have tk : (eds (Es.filter (inM (msk S)))).take (Es.filter (inM (msk S))).length = eds (Es.filter (inM (msk S))) := by rw [eds_take, List.take_length]
  generalize ((msk S : Nat) : Int) = q at *
  generalize Es.filter (inM (msk S)) = F at *
  unfold qGraphWithin cGraphWithin
  simp [rGraphWithinX0, rGraphWithinX1, rGraphWithinX2, rGraphWithinX3, rGraphWithinX4, rGraphWithinX5, rGraphWithinX6, rGraphWithinX7, rGraphWithinX8, rGraphWithinX9, h, m, tk, sMasksOf, iMasksOf, blk, eds_length, eds_get, edsAt, edAV, allLeaf_eds, cleanL_eds, cleanL_ints, ints_length, ints_get, intsAt, endL, finB]
theorem induced_run {N : Nat} {Es : List Ed} (h : GOK (N : Int) Es) (hE : Es.length < 4294967295) (S : List Int) (hS : S.length < 4294967295) (hb : ∀ v ∈ S, 0 ≤ v ∧ v < 64) : callL cfgS nGraphInduced [.agg [.int .i64 N, .list 2 (eds Es)], .list 1 (ints S)] [] = some (.tup [.agg [.int .i64 N, .list 2 (eds (Es.filter (inM (msk S))))], .int .i64 0], []) := by
  rw [callL_end oGraphInduced sGraphInduced (Nat.le_of_ble_eq_true rfl)]
  have c1 := gchk_run (N : Int) Es (by omega)
  rw [chkG_zero.2 h] at c1
  have c2 := withinE_run (N : Int) S hS hb Es hE (fun e he => by
    have := h.2.2 e he; have := h.1; omega)
  generalize Es.filter (inM (msk S)) = F at *
  unfold qGraphInduced cGraphInduced
  simp [rGraphInducedX0, rGraphInducedX1, rGraphInducedX2, rGraphInducedX3, rGraphInducedX4, c1, c2, sGraphCheck, iGraphCheck, sGraphWithin, iGraphWithin, cleanL_eds, cleanL_ints, relB, handBox, mvBB, mvRtB, blk, eds_length, eds_get, edsAt, edAV, allLeaf_eds, cleanL_eds, cleanL_ints, ints_length, ints_get, intsAt, endL, finB]
end
end Go.BmP
