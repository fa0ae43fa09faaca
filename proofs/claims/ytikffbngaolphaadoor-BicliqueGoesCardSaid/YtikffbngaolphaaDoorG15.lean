/- The walk of biclique: its regions, second part. -/
import Derived.Test.YtikffbngaolphaaDoorG14
set_option linter.unusedSimpArgs false
set_option linter.unusedVariables false
set_option maxRecDepth 100000
set_option maxHeartbeats 4000000
namespace Go.BmP
open Go.Am Go.Bm
theorem cR_bits {N : Nat} {Es : List Ed} {L S : List Int} (h : BOK N Es L) (hu : Up S) (hS : ∀ x ∈ S, x ∈ L) : ∀ j, (cR N Es L S).testBit j = true → j < (adjE N Es).length := fun j hj => by
  have hn := h.n
  have h64 : j < 64 := by
    by_cases k : j < 64
    · exact k
    · have p : 2 ^ 64 ≤ 2 ^ j := Nat.pow_le_pow_right (by decide) (by omega)
      rw [Nat.testBit_lt_two_pow (by have := cR_lt N Es L S; omega)] at hj
      cases hj
  have := (clR_mem h hu hS (j : Int)).1 (bitL_mem.2 ⟨j, rfl, h64, hj⟩)
  rw [(adjE_spec h).1]
  omega
section
attribute [local simp] codeL_seq codeL_reg codeL_blk codeL_skip codeL_ret codeL_exit codeL_cnd condL_b thenL_n thenL_e thenL_r blkL_n blkL_e blkL_r regL_s opsB stepB opB opP opnd opnds lend lendC get_nil' get_cons' put_nil' put_cons' mem_nil' mem_cons' putdB putB slowP hasOwn hasOwnL finO relab anyB anyE anyH anyR borOf borL inSlot HAND endR hasOwnE endK keepIn trim noPtr noPtrL noPtrE noPtrH binA arith unA eqB isNilB eqc lenB bndB bnd rdN rdc AV.cells fillB peek ldOK AV.leaf allLeaf fz pl plL drawB allCW cwF okDrawB okPair Fq.ok dstOff wrOff notSlot noneIn apartR oldBoxes O.reads Kd.reads E.slot slots slotO slotsP List.getD pairIn nilL okRes clean cleanL resV resVs tupOf mkEnv partsBor doCallB inpB getArgs doCallO frzA frzV frzL minA minF cont ownAt at_ setAt rel dropS relC dropAll frzP frzAll firstBor borIn borC borS borE borH handTo mapSt mapE mapH mapB mapBL sw rt fb mvB mvRt seesP inRt isRoot rootOf boxOf seesB rootsL Am.rep ovw flatCells_ints allLeaf_ints flatCells el grp updE isNilB inpV inpL stB okL unA orcA bndB plL_ints fzL stBox inCells wrap0 wrap1 wrapm1 take_snoc
theorem eX7 {N : Nat} {Es : List Ed} {L : List Int} (h : BOK N Es L) {x1 x2 caps : List AV} (q1 : Plain x1) (q2 : Plain x2) (q3 : PlainC caps) (nT : Nat) (after : List Int)  {P : List Int} (hP : ∀ v ∈ P, 0 ≤ v ∧ v < 64) (hl : P.length < 4294967295) {r : Nat} (hr : r < 18446744073709551616) (t : Bool) (X : Int) {v : Int} (hv : v ∈ L) (b : Bool) (hq : ∀ j, (r &&& (adjE N Es).getD v.toNat 0).testBit j = true → j < (adjE N Es).length) : codeL cfgS 8 (.reg rBicliqueSidesEach1X7 true [(15, 15), (0, 1), (0, 2), (0, 3), (1, 3), (0, 4), (3, 4), (0, 5), (0, 6), (1, 6), (0, 7), (0, 9), (1, 9), (2, 9), (3, 9), (4, 9), (5, 9), (6, 9), (7, 9), (8, 9), (0, 11), (3, 11), (6, 11), (8, 11), (9, 11), (10, 11), (0, 12), (3, 12), (6, 12), (8, 12), (9, 12), (10, 12)] [0, 1, 2, 3, 4, 5, 6, 10, 11, 12, 13, 14]) ⟨ev r t [(10, .int .u64 X), (11, .int .i64 v), (12, .bool b)], eH N Es L x1 x2 nT caps after P⟩ = some (.normal, ⟨ev r t [(10, .int .u64 X), (11, .int .i64 v), (12, .bool b), (13, .int .u64 (cL N Es L (r &&& (adjE N Es).getD v.toNat 0) : Nat)), (14, .int .u64 (msk P ||| 2 ^ v.toNat : Nat))], eH N Es L x1 x2 nT caps after P⟩) := by
  obtain ⟨pm1, pb1, pn1, pc1⟩ := q1
  obtain ⟨pm2, pb2, pn2, pc2⟩ := q2
  obtain ⟨pm3, pb3, po3, pp3, pl3, _⟩ := q3
  obtain ⟨i1, i2⟩ := row_at h hv
  have hb := h.l.2 v hv
  have hn := h.n
  have ha2 := getD_lt (adjE_spec h).2.1 v.toNat
  have w1 := u64_and_nat r ((adjE N Es).getD v.toNat 0) hr ha2
  have el := us_length (adjE N Es)
  have i2' : ∀ h : v.toNat < (us (adjE N Es)).length, (us (adjE N Es))[v.toNat] = .int .u64 ((adjE N Es).getD v.toNat 0 : Nat) := fun h => by rw [List.getElem?_eq_getElem h] at i2; exact Option.some.inj i2
  have ml : msk L < 18446744073709551616 := msk_lt fun v hv => (bOK_bd h (fun _ k => k) v hv).2
  have hL := onLeft_run (adjE N Es) (adjE_spec h).2.1 (msk L) (rgt N L) (r &&& (adjE N Es).getD v.toNat 0) (Nat.lt_of_le_of_lt Nat.and_le_left hr) hq ml
  have hM := mask_run P hl hP
  have mp : msk P < 18446744073709551616 := msk_lt fun v hv => (hP v hv).2
  have v0' : ¬ v < 0 := by omega
  have s1 := shlU (v := v) hb.1 (by omega)
  have s1' : IntKind.u64.wrap (2 ^ (min v.toNat 64)) = ((2 ^ v.toNat : Nat) : Int) := by rw [← s1, Int.one_mul]
  have w2 := u64_or_nat (msk P) (2 ^ v.toNat) mp (pow_lt64 (by omega) hb.1)
  have ec : cL N Es L (r &&& (adjE N Es).getD v.toNat 0) = comL (adjE N Es) (msk L) (bitL (r &&& (adjE N Es).getD v.toNat 0)) := rfl
  rw [ec]
  unfold sdAV at hL
  unfold ev eH sdAV
  generalize us (adjE N Es) = A at *
  generalize ((msk P ||| 2 ^ v.toNat : Nat) : Int) = Ow at *
  generalize ((2 ^ v.toNat : Nat) : Int) = p at *
  generalize ((msk P : Nat) : Int) = M at *
  generalize ((comL (adjE N Es) (msk L) (bitL (r &&& (adjE N Es).getD v.toNat 0)) : Nat) : Int) = W at *
  generalize ((r &&& (adjE N Es).getD v.toNat 0 : Nat) : Int) = Q at *
  generalize (((adjE N Es).getD v.toNat 0 : Nat) : Int) = a at *
  simp [rBicliqueSidesEach1X0, rBicliqueSidesEach1X1, rBicliqueSidesEach1X2, rBicliqueSidesEach1X3, rBicliqueSidesEach1X4, rBicliqueSidesEach1X5, rBicliqueSidesEach1X6, rBicliqueSidesEach1X7, rBicliqueSidesEach1X8, rBicliqueSidesEach1X9, rBicliqueSidesEach1X10, rBicliqueSidesEach1X11, rBicliqueSidesEach1X12, rBicliqueSidesEach1X13, rBicliqueSidesEach1X14, i1, i2, i2', el, w1, w2, hL, hM, ints_tk, v0', s1, s1', IntKind.bits, sBicliqueSidesOnLeft, iBicliqueSidesOnLeft, sBicliqueMask, iBicliqueMask, pm1, pb1, pn1, pc1, pm2, pb2, pn2, pc2, pm3, pb3, po3, pp3, pl3, blk, eds_length, eds_get, edsAt, edAV, allLeaf_eds, cleanL_eds, cleanL_ints, ints_length, ints_get, intsAt, endL, finB]
theorem eX8 (N : Nat) (Es : List Ed) (L : List Int) {x1 x2 caps : List AV} (q1 : Plain x1) (q2 : Plain x2) (q3 : PlainC caps) (nT : Nat) (after : List Int) (P : List Int) (r : Nat) (t : Bool) (X : Int) {v : Int} (h0 : 0 ≤ v) (h1 : v < 64) (b : Bool) {w m : Nat} (hw : w < 18446744073709551616) (hm : m < 18446744073709551616) : codeL cfgS 8 (.reg rBicliqueSidesEach1X8 true [(10, 10)] [0, 1, 2, 3, 4, 5, 6, 10, 11, 12, 13, 14, 90]) ⟨ev r t [(10, .int .u64 X), (11, .int .i64 v), (12, .bool b), (13, .int .u64 (w : Int)), (14, .int .u64 (m : Int))], eH N Es L x1 x2 nT caps after P⟩ = some (.normal, ⟨ev r t [(10, .int .u64 X), (11, .int .i64 v), (12, .bool b), (13, .int .u64 (w : Int)), (14, .int .u64 (m : Int)), (90, .bool (!decide (w &&& (2 ^ v.toNat - 1) = m &&& (2 ^ v.toNat - 1))))], eH N Es L x1 x2 nT caps after P⟩) := by
  obtain ⟨pm1, pb1, pn1, pc1⟩ := q1
  obtain ⟨pm2, pb2, pn2, pc2⟩ := q2
  obtain ⟨pm3, pb3, po3, pp3, pl3, _⟩ := q3
  have v0' : ¬ v < 0 := by omega
  have pl := pow_lt64 h1 h0
  have s1 := shlU h0 h1
  have s1' : IntKind.u64.wrap (2 ^ (min v.toNat 64)) = ((2 ^ v.toNat : Nat) : Int) := by rw [← s1, Int.one_mul]
  have s2 := decU (m := 2 ^ v.toNat) (by have := Nat.two_pow_pos v.toNat; omega) pl
  have w1 := u64_and_nat w (2 ^ v.toNat - 1) hw (by omega)
  have w2 := u64_and_nat m (2 ^ v.toNat - 1) hm (by omega)
  have z : decide (((w &&& (2 ^ v.toNat - 1) : Nat) : Int) = ((m &&& (2 ^ v.toNat - 1) : Nat) : Int)) = decide (w &&& (2 ^ v.toNat - 1) = m &&& (2 ^ v.toNat - 1)) := by
    rw [Bool.eq_iff_iff, decide_eq_true_eq, decide_eq_true_eq]; omega
  rw [← z]
  unfold ev eH sdAV
  generalize ((w &&& (2 ^ v.toNat - 1) : Nat) : Int) = q1 at *
  generalize ((m &&& (2 ^ v.toNat - 1) : Nat) : Int) = q2 at *
  generalize ((2 ^ v.toNat - 1 : Nat) : Int) = p1 at *
  generalize ((2 ^ v.toNat : Nat) : Int) = p at *
  generalize (w : Int) = W at *
  generalize (m : Int) = M at *
  by_cases k : q1 = q2
  · simp [rBicliqueSidesEach1X0, rBicliqueSidesEach1X1, rBicliqueSidesEach1X2, rBicliqueSidesEach1X3, rBicliqueSidesEach1X4, rBicliqueSidesEach1X5, rBicliqueSidesEach1X6, rBicliqueSidesEach1X7, rBicliqueSidesEach1X8, rBicliqueSidesEach1X9, rBicliqueSidesEach1X10, rBicliqueSidesEach1X11, rBicliqueSidesEach1X12, rBicliqueSidesEach1X13, rBicliqueSidesEach1X14, v0', s1, s1', s2, w1, w2, k, beqI, IntKind.bits, pm1, pb1, pn1, pc1, pm2, pb2, pn2, pc2, pm3, pb3, po3, pp3, pl3, blk, eds_length, eds_get, edsAt, edAV, allLeaf_eds, cleanL_eds, cleanL_ints, ints_length, ints_get, intsAt, endL, finB]
  · simp [rBicliqueSidesEach1X0, rBicliqueSidesEach1X1, rBicliqueSidesEach1X2, rBicliqueSidesEach1X3, rBicliqueSidesEach1X4, rBicliqueSidesEach1X5, rBicliqueSidesEach1X6, rBicliqueSidesEach1X7, rBicliqueSidesEach1X8, rBicliqueSidesEach1X9, rBicliqueSidesEach1X10, rBicliqueSidesEach1X11, rBicliqueSidesEach1X12, rBicliqueSidesEach1X13, rBicliqueSidesEach1X14, v0', s1, s1', s2, w1, w2, k, beqI, IntKind.bits, pm1, pb1, pn1, pc1, pm2, pb2, pn2, pc2, pm3, pb3, po3, pp3, pl3, blk, eds_length, eds_get, edsAt, edAV, allLeaf_eds, cleanL_eds, cleanL_ints, ints_length, ints_get, intsAt, endL, finB]
theorem eX9 (N : Nat) (Es : List Ed) (L : List Int) {x1 x2 caps : List AV} (q1 : Plain x1) (q2 : Plain x2) (q3 : PlainC caps) (nT : Nat) (after : List Int)  {P : List Int} (hl : P.length < 4294967295) (r : Nat) (t : Bool) (X v : Int) (b : Bool) (W M : Int) : codeL cfgS 8 (.reg rBicliqueSidesEach1X9 false [] [0, 1, 2, 3, 4, 5, 6, 10, 11, 12, 13, 14]) ⟨ev r t [(10, .int .u64 X), (11, .int .i64 v), (12, .bool b), (13, .int .u64 W), (14, .int .u64 M), (90, .bool false)], eH N Es L x1 x2 nT caps after P⟩ = some (.normal, ⟨ev r t [(10, .int .u64 X), (11, .int .i64 v), (12, .bool b), (13, .int .u64 W), (14, .int .u64 M)], eH N Es L x1 x2 nT caps after (P ++ [v])⟩) := by
  obtain ⟨pm1, pb1, pn1, pc1⟩ := q1
  obtain ⟨pm2, pb2, pn2, pc2⟩ := q2
  obtain ⟨pm3, pb3, po3, pp3, pl3, _⟩ := q3
  have h1 : P.length + 1 ≤ 4294967296 := by omega
  unfold ev eH sdAV
  simp [rBicliqueSidesEach1X0, rBicliqueSidesEach1X1, rBicliqueSidesEach1X2, rBicliqueSidesEach1X3, rBicliqueSidesEach1X4, rBicliqueSidesEach1X5, rBicliqueSidesEach1X6, rBicliqueSidesEach1X7, rBicliqueSidesEach1X8, rBicliqueSidesEach1X9, rBicliqueSidesEach1X10, rBicliqueSidesEach1X11, rBicliqueSidesEach1X12, rBicliqueSidesEach1X13, rBicliqueSidesEach1X14, h1, LIM, ints_snoc, ints_take, pm1, pb1, pn1, pc1, pm2, pb2, pn2, pc2, pm3, pb3, po3, pp3, pl3, blk, eds_length, eds_get, edsAt, edAV, allLeaf_eds, cleanL_eds, cleanL_ints, ints_length, ints_get, intsAt, endL, finB]
theorem eX12 (N : Nat) (Es : List Ed) (L : List Int) {x1 x2 caps : List AV} (q1 : Plain x1) (q2 : Plain x2) (q3 : PlainC caps) (nT : Nat) (after : List Int)  {P : List Int} (hl : P.length < 4294967295) (r : Nat) (t : Bool) (X v : Int) : codeL cfgS 8 (.reg rBicliqueSidesEach1X12 false [] [0, 1, 2, 3, 4, 5, 6, 10]) ⟨ev r t [(10, .int .u64 X), (137, .bool false)], eH N Es L x1 x2 nT caps after (P ++ [v])⟩ = some (.normal, ⟨ev r t [(10, .int .u64 X)], eH N Es L x1 x2 nT caps after P⟩) := by
  obtain ⟨pm1, pb1, pn1, pc1⟩ := q1
  obtain ⟨pm2, pb2, pn2, pc2⟩ := q2
  obtain ⟨pm3, pb3, po3, pp3, pl3, _⟩ := q3
  have w1 : IntKind.i64.wrap ((P.length : Int) + 1 - 1) = P.length := by rw [wrap_id (by omega) (by omega)]; omega
  have w2 := wrapN (i := P.length) (by omega)
  have le1 : (P.length : Int) ≤ P.length + 1 := by omega
  have tk : (ints (P ++ [v])).take P.length = ints P := by rw [ints_take]; simp
  have ln : (ints (P ++ [v])).length = P.length + 1 := by simp [ints]
  unfold ev eH sdAV
  simp [rBicliqueSidesEach1X0, rBicliqueSidesEach1X1, rBicliqueSidesEach1X2, rBicliqueSidesEach1X3, rBicliqueSidesEach1X4, rBicliqueSidesEach1X5, rBicliqueSidesEach1X6, rBicliqueSidesEach1X7, rBicliqueSidesEach1X8, rBicliqueSidesEach1X9, rBicliqueSidesEach1X10, rBicliqueSidesEach1X11, rBicliqueSidesEach1X12, rBicliqueSidesEach1X13, rBicliqueSidesEach1X14, w1, w2, tk, ln, le1, nle1, relB, handBox, mvBB, mvRtB, pm1, pb1, pn1, pc1, pm2, pb2, pn2, pc2, pm3, pb3, po3, pp3, pl3, blk, eds_length, eds_get, edsAt, edAV, allLeaf_eds, cleanL_eds, cleanL_ints, ints_length, ints_get, intsAt, endL, finB]
theorem eX13 (N : Nat) (Es : List Ed) (L : List Int) {x1 x2 caps : List AV} (q1 : Plain x1) (q2 : Plain x2) (q3 : PlainC caps) (nT : Nat) (after : List Int) (P : List Int) (r : Nat) (t : Bool) {m : Nat} (h0 : m ≠ 0) (hm : m < 18446744073709551616) (x : Env) (hx : x = [] ∨ (∃ v b, x = [(11, .int .i64 v), (12, .bool b), (55, .bool true)]) ∨ ∃ v b W M, x = [(11, .int .i64 v), (12, .bool b), (13, .int .u64 W), (14, .int .u64 M), (90, .bool true)]) : codeL cfgS 8 (.reg rBicliqueSidesEach1X13 false [] [0, 1, 2, 3, 4, 5, 6, 10]) ⟨ev r t ((10, .int .u64 (m : Int)) :: x), eH N Es L x1 x2 nT caps after P⟩ = some (.normal, ⟨ev r t [(10, .int .u64 ((m &&& (m - 1) : Nat) : Int))], eH N Es L x1 x2 nT caps after P⟩) := by
  obtain ⟨pm1, pb1, pn1, pc1⟩ := q1
  obtain ⟨pm2, pb2, pn2, pc2⟩ := q2
  obtain ⟨pm3, pb3, po3, pp3, pl3, _⟩ := q3
  have w1 := decU h0 hm
  have w2 := u64_and_nat m (m - 1) hm (by omega)
  unfold ev eH sdAV
  generalize ((m &&& (m - 1) : Nat) : Int) = q at *
  generalize ((m - 1 : Nat) : Int) = p at *
  generalize (m : Int) = Y at *
  rcases hx with rfl | ⟨v, b, rfl⟩ | ⟨v, b, W, M, rfl⟩
  · simp [rBicliqueSidesEach1X0, rBicliqueSidesEach1X1, rBicliqueSidesEach1X2, rBicliqueSidesEach1X3, rBicliqueSidesEach1X4, rBicliqueSidesEach1X5, rBicliqueSidesEach1X6, rBicliqueSidesEach1X7, rBicliqueSidesEach1X8, rBicliqueSidesEach1X9, rBicliqueSidesEach1X10, rBicliqueSidesEach1X11, rBicliqueSidesEach1X12, rBicliqueSidesEach1X13, rBicliqueSidesEach1X14, w1, w2, pm1, pb1, pn1, pc1, pm2, pb2, pn2, pc2, pm3, pb3, po3, pp3, pl3, blk, eds_length, eds_get, edsAt, edAV, allLeaf_eds, cleanL_eds, cleanL_ints, ints_length, ints_get, intsAt, endL, finB]
  · simp [rBicliqueSidesEach1X0, rBicliqueSidesEach1X1, rBicliqueSidesEach1X2, rBicliqueSidesEach1X3, rBicliqueSidesEach1X4, rBicliqueSidesEach1X5, rBicliqueSidesEach1X6, rBicliqueSidesEach1X7, rBicliqueSidesEach1X8, rBicliqueSidesEach1X9, rBicliqueSidesEach1X10, rBicliqueSidesEach1X11, rBicliqueSidesEach1X12, rBicliqueSidesEach1X13, rBicliqueSidesEach1X14, w1, w2, pm1, pb1, pn1, pc1, pm2, pb2, pn2, pc2, pm3, pb3, po3, pp3, pl3, blk, eds_length, eds_get, edsAt, edAV, allLeaf_eds, cleanL_eds, cleanL_ints, ints_length, ints_get, intsAt, endL, finB]
  · simp [rBicliqueSidesEach1X0, rBicliqueSidesEach1X1, rBicliqueSidesEach1X2, rBicliqueSidesEach1X3, rBicliqueSidesEach1X4, rBicliqueSidesEach1X5, rBicliqueSidesEach1X6, rBicliqueSidesEach1X7, rBicliqueSidesEach1X8, rBicliqueSidesEach1X9, rBicliqueSidesEach1X10, rBicliqueSidesEach1X11, rBicliqueSidesEach1X12, rBicliqueSidesEach1X13, rBicliqueSidesEach1X14, w1, w2, pm1, pb1, pn1, pc1, pm2, pb2, pn2, pc2, pm3, pb3, po3, pp3, pl3, blk, eds_length, eds_get, edsAt, edAV, allLeaf_eds, cleanL_eds, cleanL_ints, ints_length, ints_get, intsAt, endL, finB]
end
end Go.BmP
