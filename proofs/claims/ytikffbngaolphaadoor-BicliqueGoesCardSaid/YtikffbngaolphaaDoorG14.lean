/- The walk of biclique: its regions. -/
import Derived.Test.YtikffbngaolphaaDoorG13
set_option linter.unusedSimpArgs false
set_option linter.unusedVariables false
set_option maxRecDepth 100000
set_option maxHeartbeats 4000000
namespace Go.BmP
open Go.Am Go.Bm
theorem beqI (a b : Int) : (a == b) = decide (a = b) := by by_cases h : a = b <;> simp [h]
theorem ints_tk (l : List Int) : (ints l).take l.length = ints l := by rw [ints_take, List.take_length]
/-- The slots of the walk. -/
def ev (r : Nat) (t : Bool) (x : Env) : Env := (0, .int .u64 (r : Nat)) :: (1, .bool t) :: (2, .ptr 3 0) :: (3, .ptr 6 0) :: (4, .ptr 4 0) :: (5, .ptr 5 0) :: (6, .ptr 7 0) :: x
section
attribute [local simp] codeL_seq codeL_reg codeL_blk codeL_skip codeL_ret codeL_exit codeL_cnd condL_b thenL_n thenL_e thenL_r blkL_n blkL_e blkL_r regL_s opsB stepB opB opP opnd opnds lend lendC get_nil' get_cons' put_nil' put_cons' mem_nil' mem_cons' putdB putB slowP hasOwn hasOwnL finO relab anyB anyE anyH anyR borOf borL inSlot HAND endR hasOwnE endK keepIn trim noPtr noPtrL noPtrE noPtrH binA arith unA eqB isNilB eqc lenB bndB bnd rdN rdc AV.cells fillB peek ldOK AV.leaf allLeaf fz pl plL drawB allCW cwF okDrawB okPair Fq.ok dstOff wrOff notSlot noneIn apartR oldBoxes O.reads Kd.reads E.slot slots slotO slotsP List.getD pairIn nilL okRes clean cleanL resV resVs tupOf mkEnv partsBor doCallB inpB getArgs doCallO frzA frzV frzL minA minF cont ownAt at_ setAt rel dropS relC dropAll frzP frzAll firstBor borIn borC borS borE borH handTo mapSt mapE mapH mapB mapBL sw rt fb mvB mvRt seesP inRt isRoot rootOf boxOf seesB rootsL Am.rep ovw flatCells_ints allLeaf_ints flatCells el grp updE isNilB inpV inpL stB okL unA orcA bndB plL_ints fzL stBox inCells wrap0 wrap1 wrapm1 take_snoc
theorem eX0 (N : Nat) (Es : List Ed) (L : List Int) {x1 x2 caps : List AV} (q1 : Plain x1) (q2 : Plain x2) (q3 : PlainC caps) (nT : Nat) (after : List Int) (P : List Int) (r : Nat) (t : Bool) : codeL cfgS 8 (.reg rBicliqueSidesEach1X0 false [] [0, 1, 2, 3, 4, 5, 6]) ⟨ev r t [], eH N Es L x1 x2 nT caps after P⟩ = some (.normal, ⟨ev r t [], eH N Es L x1 x2 nT caps after P⟩) := by
  obtain ⟨pm1, pb1, pn1, pc1⟩ := q1
  obtain ⟨pm2, pb2, pn2, pc2⟩ := q2
  obtain ⟨pm3, pb3, po3, pp3, pl3, _⟩ := q3
  unfold ev eH sdAV
  simp [rBicliqueSidesEach1X0, rBicliqueSidesEach1X1, rBicliqueSidesEach1X2, rBicliqueSidesEach1X3, rBicliqueSidesEach1X4, rBicliqueSidesEach1X5, rBicliqueSidesEach1X6, rBicliqueSidesEach1X7, rBicliqueSidesEach1X8, rBicliqueSidesEach1X9, rBicliqueSidesEach1X10, rBicliqueSidesEach1X11, rBicliqueSidesEach1X12, rBicliqueSidesEach1X13, rBicliqueSidesEach1X14, pm1, pb1, pn1, pc1, pm2, pb2, pn2, pc2, pm3, pb3, po3, pp3, pl3, blk, eds_length, eds_get, edsAt, edAV, allLeaf_eds, cleanL_eds, cleanL_ints, ints_length, ints_get, intsAt, endL, finB]
theorem eX1 {N : Nat} {Es : List Ed} {L : List Int} (h : BOK N Es L) {x1 x2 caps : List AV} (q1 : Plain x1) (q2 : Plain x2) (q3 : PlainC caps) (nT : Nat) (after : List Int)  {P : List Int} (hP : ∀ v ∈ P, 0 ≤ v ∧ v < 64) (hl : P.length < 4294967295) (r : Nat) (t : Bool) : codeL cfgS 8 (.reg rBicliqueSidesEach1X1 true [(4, 4), (5, 5), (0, 2), (1, 2), (0, 3), (1, 3)] [0, 1, 2, 3, 4, 5, 6, 10]) ⟨ev r t [], eH N Es L x1 x2 nT caps after P⟩ = some (.normal, ⟨ev r t [(10, .int .u64 ((msk L &&& (18446744073709551615 - bh P) : Nat) : Int))], eH N Es L x1 x2 nT caps after P⟩) := by
  obtain ⟨pm1, pb1, pn1, pc1⟩ := q1
  obtain ⟨pm2, pb2, pn2, pc2⟩ := q2
  obtain ⟨pm3, pb3, po3, pp3, pl3, _⟩ := q3
  have hb := behind_run P hP hl
  have e1 := u64_andNot_nat (msk L) (bh P) (msk_lt fun v hv => (bOK_bd h (fun _ k => k) v hv).2) (bh_lt fun v hv => (hP v hv).2)
  unfold ev eH sdAV
  generalize ((msk L &&& (18446744073709551615 - bh P) : Nat) : Int) = W at *
  simp [rBicliqueSidesEach1X0, rBicliqueSidesEach1X1, rBicliqueSidesEach1X2, rBicliqueSidesEach1X3, rBicliqueSidesEach1X4, rBicliqueSidesEach1X5, rBicliqueSidesEach1X6, rBicliqueSidesEach1X7, rBicliqueSidesEach1X8, rBicliqueSidesEach1X9, rBicliqueSidesEach1X10, rBicliqueSidesEach1X11, rBicliqueSidesEach1X12, rBicliqueSidesEach1X13, rBicliqueSidesEach1X14, hb, e1, ints_tk, sBicliqueBehind, iBicliqueBehind, pm1, pb1, pn1, pc1, pm2, pb2, pn2, pc2, pm3, pb3, po3, pp3, pl3, blk, eds_length, eds_get, edsAt, edAV, allLeaf_eds, cleanL_eds, cleanL_ints, ints_length, ints_get, intsAt, endL, finB]
theorem eX2z (N : Nat) (Es : List Ed) (L : List Int) {x1 x2 caps : List AV} (q1 : Plain x1) (q2 : Plain x2) (q3 : PlainC caps) (nT : Nat) (after : List Int) (P : List Int) (r : Nat) (t : Bool) : codeL cfgS 8 (.reg rBicliqueSidesEach1X2 false [] [0, 1, 2, 3, 4, 5, 6, 10, 21]) ⟨ev r t [(10, .int .u64 ((0 : Nat) : Int))], eH N Es L x1 x2 nT caps after P⟩ = some (.normal, ⟨ev r t [(10, .int .u64 ((0 : Nat) : Int)), (21, .bool false)], eH N Es L x1 x2 nT caps after P⟩) := by
  obtain ⟨pm1, pb1, pn1, pc1⟩ := q1
  obtain ⟨pm2, pb2, pn2, pc2⟩ := q2
  obtain ⟨pm3, pb3, po3, pp3, pl3, _⟩ := q3
  unfold ev eH sdAV
  simp [rBicliqueSidesEach1X0, rBicliqueSidesEach1X1, rBicliqueSidesEach1X2, rBicliqueSidesEach1X3, rBicliqueSidesEach1X4, rBicliqueSidesEach1X5, rBicliqueSidesEach1X6, rBicliqueSidesEach1X7, rBicliqueSidesEach1X8, rBicliqueSidesEach1X9, rBicliqueSidesEach1X10, rBicliqueSidesEach1X11, rBicliqueSidesEach1X12, rBicliqueSidesEach1X13, rBicliqueSidesEach1X14, pm1, pb1, pn1, pc1, pm2, pb2, pn2, pc2, pm3, pb3, po3, pp3, pl3, blk, eds_length, eds_get, edsAt, edAV, allLeaf_eds, cleanL_eds, cleanL_ints, ints_length, ints_get, intsAt, endL, finB]
theorem eX2 (N : Nat) (Es : List Ed) (L : List Int) {x1 x2 caps : List AV} (q1 : Plain x1) (q2 : Plain x2) (q3 : PlainC caps) (nT : Nat) (after : List Int) (P : List Int) (r : Nat) (t : Bool) {m : Nat} (h0 : m ≠ 0) : codeL cfgS 8 (.reg rBicliqueSidesEach1X2 false [] [0, 1, 2, 3, 4, 5, 6, 10, 21]) ⟨ev r t [(10, .int .u64 (m : Int))], eH N Es L x1 x2 nT caps after P⟩ = some (.normal, ⟨ev r t [(10, .int .u64 (m : Int)), (21, .bool true)], eH N Es L x1 x2 nT caps after P⟩) := by
  obtain ⟨pm1, pb1, pn1, pc1⟩ := q1
  obtain ⟨pm2, pb2, pn2, pc2⟩ := q2
  obtain ⟨pm3, pb3, po3, pp3, pl3, _⟩ := q3
  have n0 : ¬ ((m : Int) = 0) := by omega
  generalize (m : Int) = X at *
  unfold ev eH sdAV
  simp [rBicliqueSidesEach1X0, rBicliqueSidesEach1X1, rBicliqueSidesEach1X2, rBicliqueSidesEach1X3, rBicliqueSidesEach1X4, rBicliqueSidesEach1X5, rBicliqueSidesEach1X6, rBicliqueSidesEach1X7, rBicliqueSidesEach1X8, rBicliqueSidesEach1X9, rBicliqueSidesEach1X10, rBicliqueSidesEach1X11, rBicliqueSidesEach1X12, rBicliqueSidesEach1X13, rBicliqueSidesEach1X14, n0, pm1, pb1, pn1, pc1, pm2, pb2, pn2, pc2, pm3, pb3, po3, pp3, pl3, blk, eds_length, eds_get, edsAt, edAV, allLeaf_eds, cleanL_eds, cleanL_ints, ints_length, ints_get, intsAt, endL, finB]
theorem eX3 (N : Nat) (Es : List Ed) (L : List Int) {x1 x2 caps : List AV} (q1 : Plain x1) (q2 : Plain x2) (q3 : PlainC caps) (nT : Nat) (after : List Int) (P : List Int) (r : Nat) (t : Bool) {m : Nat} (h0 : m ≠ 0) (hm : m < 18446744073709551616) : codeL cfgS 8 (.reg rBicliqueSidesEach1X3 false [] [0, 1, 2, 3, 4, 5, 6, 10, 11]) ⟨ev r t [(10, .int .u64 (m : Int)), (21, .bool true)], eH N Es L x1 x2 nT caps after P⟩ = some (.normal, ⟨ev r t [(10, .int .u64 (m : Int)), (11, .int .i64 (tz m : Nat))], eH N Es L x1 x2 nT caps after P⟩) := by
  obtain ⟨pm1, pb1, pn1, pc1⟩ := q1
  obtain ⟨pm2, pb2, pn2, pc2⟩ := q2
  obtain ⟨pm3, pb3, po3, pp3, pl3, _⟩ := q3
  have ht := tz_run m h0 hm
  generalize (m : Int) = X at *
  generalize ((tz m : Nat) : Int) = v at *
  unfold ev eH sdAV
  simp [rBicliqueSidesEach1X0, rBicliqueSidesEach1X1, rBicliqueSidesEach1X2, rBicliqueSidesEach1X3, rBicliqueSidesEach1X4, rBicliqueSidesEach1X5, rBicliqueSidesEach1X6, rBicliqueSidesEach1X7, rBicliqueSidesEach1X8, rBicliqueSidesEach1X9, rBicliqueSidesEach1X10, rBicliqueSidesEach1X11, rBicliqueSidesEach1X12, rBicliqueSidesEach1X13, rBicliqueSidesEach1X14, ht, sMathBitsTrailingZeros64, iMathBitsTrailingZeros64, pm1, pb1, pn1, pc1, pm2, pb2, pn2, pc2, pm3, pb3, po3, pp3, pl3, blk, eds_length, eds_get, edsAt, edAV, allLeaf_eds, cleanL_eds, cleanL_ints, ints_length, ints_get, intsAt, endL, finB]
theorem eX4 (N : Nat) (Es : List Ed) (L : List Int) {x1 x2 caps : List AV} (q1 : Plain x1) (q2 : Plain x2) (q3 : PlainC caps) (nT : Nat) (after : List Int) (P : List Int) (r : Nat) (t : Bool) (X v : Int) : codeL cfgS 8 (.reg rBicliqueSidesEach1X4 false [] [0, 1, 2, 3, 4, 5, 6, 10, 11, 12]) ⟨ev r t [(10, .int .u64 X), (11, .int .i64 v)], eH N Es L x1 x2 nT caps after P⟩ = some (.normal, ⟨ev r t [(10, .int .u64 X), (11, .int .i64 v), (12, .bool (hereL after P t))], eH N Es L x1 x2 nT caps after P⟩) := by
  obtain ⟨pm1, pb1, pn1, pc1⟩ := q1
  obtain ⟨pm2, pb2, pn2, pc2⟩ := q2
  obtain ⟨pm3, pb3, po3, pp3, pl3, _⟩ := q3
  unfold ev eH sdAV hereL
  cases t
  · simp [rBicliqueSidesEach1X0, rBicliqueSidesEach1X1, rBicliqueSidesEach1X2, rBicliqueSidesEach1X3, rBicliqueSidesEach1X4, rBicliqueSidesEach1X5, rBicliqueSidesEach1X6, rBicliqueSidesEach1X7, rBicliqueSidesEach1X8, rBicliqueSidesEach1X9, rBicliqueSidesEach1X10, rBicliqueSidesEach1X11, rBicliqueSidesEach1X12, rBicliqueSidesEach1X13, rBicliqueSidesEach1X14, pm1, pb1, pn1, pc1, pm2, pb2, pn2, pc2, pm3, pb3, po3, pp3, pl3, blk, eds_length, eds_get, edsAt, edAV, allLeaf_eds, cleanL_eds, cleanL_ints, ints_length, ints_get, intsAt, endL, finB]
  · simp [rBicliqueSidesEach1X0, rBicliqueSidesEach1X1, rBicliqueSidesEach1X2, rBicliqueSidesEach1X3, rBicliqueSidesEach1X4, rBicliqueSidesEach1X5, rBicliqueSidesEach1X6, rBicliqueSidesEach1X7, rBicliqueSidesEach1X8, rBicliqueSidesEach1X9, rBicliqueSidesEach1X10, rBicliqueSidesEach1X11, rBicliqueSidesEach1X12, rBicliqueSidesEach1X13, rBicliqueSidesEach1X14, pm1, pb1, pn1, pc1, pm2, pb2, pn2, pc2, pm3, pb3, po3, pp3, pl3, blk, eds_length, eds_get, edsAt, edAV, allLeaf_eds, cleanL_eds, cleanL_ints, ints_length, ints_get, intsAt, endL, finB]
/-- What the sides' rows hold. -/
theorem row_at {N : Nat} {Es : List Ed} {L : List Int} (h : BOK N Es L) {v : Int} (hv : v ∈ L) : idx (.int .i64 v) (adjE N Es).length = some v.toNat ∧ (us (adjE N Es))[v.toNat]? = some (.int .u64 ((adjE N Es).getD v.toNat 0 : Nat)) := by
  have b := h.l.2 v hv
  have e := (adjE_spec h).1
  refine ⟨idx_lt b.1 (by rw [e]; exact b.2), ?_⟩
  rw [us_get, List.getD_eq_getElem?_getD, List.getElem?_eq_getElem (by omega)]
  rfl
theorem aft_at {after P : List Int} (h : P.length < after.length) (h2 : after.length < 9223372036854775808) : idx (.int .i64 (P.length : Int)) after.length = some P.length ∧ (ints after)[P.length]? = some (.int .i64 (after.getD P.length 0)) := by
  refine ⟨idx_lt (by omega) (by omega), ?_⟩
  rw [ints_get, List.getD_eq_getElem?_getD, List.getElem?_eq_getElem h]
  rfl
theorem eX5 {N : Nat} {Es : List Ed} {L : List Int} (h : BOK N Es L) {x1 x2 caps : List AV} (q1 : Plain x1) (q2 : Plain x2) (q3 : PlainC caps) (nT : Nat) {after : List Int} (ha : after.length < 9223372036854775808) (P : List Int) {r : Nat} (hr : r < 18446744073709551616) (t : Bool) (X : Int) {v : Int} (hv : v ∈ L) : codeL cfgS 8 (.reg rBicliqueSidesEach1X5 false [] [0, 1, 2, 3, 4, 5, 6, 10, 11, 12, 55]) ⟨ev r t [(10, .int .u64 X), (11, .int .i64 v), (12, .bool (hereL after P t))], eH N Es L x1 x2 nT caps after P⟩ = some (.normal, ⟨ev r t [(10, .int .u64 X), (11, .int .i64 v), (12, .bool (hereL after P t)), (55, .bool (skipL after P t v || decide (r &&& (adjE N Es).getD v.toNat 0 = 0)))], eH N Es L x1 x2 nT caps after P⟩) := by
  obtain ⟨pm1, pb1, pn1, pc1⟩ := q1
  obtain ⟨pm2, pb2, pn2, pc2⟩ := q2
  obtain ⟨pm3, pb3, po3, pp3, pl3, _⟩ := q3
  obtain ⟨i1, i2⟩ := row_at h hv
  have hb := h.l.2 v hv
  have ha2 := getD_lt (adjE_spec h).2.1 v.toNat
  have w1 := u64_and_nat r ((adjE N Es).getD v.toNat 0) hr ha2
  have z : decide (((r &&& (adjE N Es).getD v.toNat 0 : Nat) : Int) = 0) = decide (r &&& (adjE N Es).getD v.toNat 0 = 0) := by
    rw [Bool.eq_iff_iff, decide_eq_true_eq, decide_eq_true_eq]; omega
  have el := us_length (adjE N Es)
  have i2' : ∀ h : v.toNat < (us (adjE N Es)).length, (us (adjE N Es))[v.toNat] = .int .u64 ((adjE N Es).getD v.toNat 0 : Nat) := fun h => by rw [List.getElem?_eq_getElem h] at i2; exact Option.some.inj i2
  rw [← z]
  unfold ev eH sdAV skipL
  generalize us (adjE N Es) = A at *
  generalize ((r &&& (adjE N Es).getD v.toNat 0 : Nat) : Int) = Q at *
  generalize (((adjE N Es).getD v.toNat 0 : Nat) : Int) = a at *
  by_cases k : hereL after P t = true
  · have k2 : P.length < after.length := by
      simp only [hereL, Bool.and_eq_true, decide_eq_true_eq] at k; exact k.2
    obtain ⟨j1, j2⟩ := aft_at k2 ha
    have j2' : ∀ h : P.length < (ints after).length, (ints after)[P.length] = .int .i64 (after.getD P.length 0) := fun h => by rw [List.getElem?_eq_getElem h] at j2; exact Option.some.inj j2
    generalize after.getD P.length 0 = w at *
    rw [k]
    by_cases l : v < w
    · simp [rBicliqueSidesEach1X0, rBicliqueSidesEach1X1, rBicliqueSidesEach1X2, rBicliqueSidesEach1X3, rBicliqueSidesEach1X4, rBicliqueSidesEach1X5, rBicliqueSidesEach1X6, rBicliqueSidesEach1X7, rBicliqueSidesEach1X8, rBicliqueSidesEach1X9, rBicliqueSidesEach1X10, rBicliqueSidesEach1X11, rBicliqueSidesEach1X12, rBicliqueSidesEach1X13, rBicliqueSidesEach1X14, i1, i2, i2', el, w1, j1, j2, j2', l, beqI, pm1, pb1, pn1, pc1, pm2, pb2, pn2, pc2, pm3, pb3, po3, pp3, pl3, blk, eds_length, eds_get, edsAt, edAV, allLeaf_eds, cleanL_eds, cleanL_ints, ints_length, ints_get, intsAt, endL, finB]
    · simp [rBicliqueSidesEach1X0, rBicliqueSidesEach1X1, rBicliqueSidesEach1X2, rBicliqueSidesEach1X3, rBicliqueSidesEach1X4, rBicliqueSidesEach1X5, rBicliqueSidesEach1X6, rBicliqueSidesEach1X7, rBicliqueSidesEach1X8, rBicliqueSidesEach1X9, rBicliqueSidesEach1X10, rBicliqueSidesEach1X11, rBicliqueSidesEach1X12, rBicliqueSidesEach1X13, rBicliqueSidesEach1X14, i1, i2, i2', el, w1, j1, j2, j2', l, beqI, pm1, pb1, pn1, pc1, pm2, pb2, pn2, pc2, pm3, pb3, po3, pp3, pl3, blk, eds_length, eds_get, edsAt, edAV, allLeaf_eds, cleanL_eds, cleanL_ints, ints_length, ints_get, intsAt, endL, finB]
  · have k : hereL after P t = false := by simpa using k
    rw [k]
    simp [rBicliqueSidesEach1X0, rBicliqueSidesEach1X1, rBicliqueSidesEach1X2, rBicliqueSidesEach1X3, rBicliqueSidesEach1X4, rBicliqueSidesEach1X5, rBicliqueSidesEach1X6, rBicliqueSidesEach1X7, rBicliqueSidesEach1X8, rBicliqueSidesEach1X9, rBicliqueSidesEach1X10, rBicliqueSidesEach1X11, rBicliqueSidesEach1X12, rBicliqueSidesEach1X13, rBicliqueSidesEach1X14, i1, i2, i2', el, w1, beqI, pm1, pb1, pn1, pc1, pm2, pb2, pn2, pc2, pm3, pb3, po3, pp3, pl3, blk, eds_length, eds_get, edsAt, edAV, allLeaf_eds, cleanL_eds, cleanL_ints, ints_length, ints_get, intsAt, endL, finB]
theorem eX6 (N : Nat) (Es : List Ed) (L : List Int) {x1 x2 caps : List AV} (q1 : Plain x1) (q2 : Plain x2) (q3 : PlainC caps) (nT : Nat) {after : List Int} (ha : after.length < 9223372036854775808) (P : List Int) (r : Nat) (t : Bool) (X v : Int) : codeL cfgS 8 (.reg rBicliqueSidesEach1X6 false [] [0, 1, 2, 3, 4, 5, 6, 10, 11, 12]) ⟨ev r t [(10, .int .u64 X), (11, .int .i64 v), (12, .bool (hereL after P t)), (55, .bool false)], eH N Es L x1 x2 nT caps after P⟩ = some (.normal, ⟨ev r t [(10, .int .u64 X), (11, .int .i64 v), (12, .bool (onL after P t v))], eH N Es L x1 x2 nT caps after P⟩) := by
  obtain ⟨pm1, pb1, pn1, pc1⟩ := q1
  obtain ⟨pm2, pb2, pn2, pc2⟩ := q2
  obtain ⟨pm3, pb3, po3, pp3, pl3, _⟩ := q3
  unfold ev eH sdAV onL
  by_cases k : hereL after P t = true
  · have k2 : P.length < after.length := by
      simp only [hereL, Bool.and_eq_true, decide_eq_true_eq] at k; exact k.2
    obtain ⟨j1, j2⟩ := aft_at k2 ha
    have j2' : ∀ h : P.length < (ints after).length, (ints after)[P.length] = .int .i64 (after.getD P.length 0) := fun h => by rw [List.getElem?_eq_getElem h] at j2; exact Option.some.inj j2
    generalize after.getD P.length 0 = w at *
    rw [k]
    simp [rBicliqueSidesEach1X0, rBicliqueSidesEach1X1, rBicliqueSidesEach1X2, rBicliqueSidesEach1X3, rBicliqueSidesEach1X4, rBicliqueSidesEach1X5, rBicliqueSidesEach1X6, rBicliqueSidesEach1X7, rBicliqueSidesEach1X8, rBicliqueSidesEach1X9, rBicliqueSidesEach1X10, rBicliqueSidesEach1X11, rBicliqueSidesEach1X12, rBicliqueSidesEach1X13, rBicliqueSidesEach1X14, j1, j2, j2', beqI, pm1, pb1, pn1, pc1, pm2, pb2, pn2, pc2, pm3, pb3, po3, pp3, pl3, blk, eds_length, eds_get, edsAt, edAV, allLeaf_eds, cleanL_eds, cleanL_ints, ints_length, ints_get, intsAt, endL, finB]
  · have k : hereL after P t = false := by simpa using k
    rw [k]
    simp [rBicliqueSidesEach1X0, rBicliqueSidesEach1X1, rBicliqueSidesEach1X2, rBicliqueSidesEach1X3, rBicliqueSidesEach1X4, rBicliqueSidesEach1X5, rBicliqueSidesEach1X6, rBicliqueSidesEach1X7, rBicliqueSidesEach1X8, rBicliqueSidesEach1X9, rBicliqueSidesEach1X10, rBicliqueSidesEach1X11, rBicliqueSidesEach1X12, rBicliqueSidesEach1X13, rBicliqueSidesEach1X14, pm1, pb1, pn1, pc1, pm2, pb2, pn2, pc2, pm3, pb3, po3, pp3, pl3, blk, eds_length, eds_get, edsAt, edAV, allLeaf_eds, cleanL_eds, cleanL_ints, ints_length, ints_get, intsAt, endL, finB]
end
end Go.BmP
