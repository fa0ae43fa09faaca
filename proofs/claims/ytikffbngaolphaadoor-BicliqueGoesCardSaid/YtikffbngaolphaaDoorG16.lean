/- The walk of biclique: what it hands out, and the step into it. -/
import Derived.Test.YtikffbngaolphaaDoorG15
import Derived.Test.YtikffbngaolphaaDoorR02k
set_option linter.unusedSimpArgs false
set_option linter.unusedVariables false
set_option maxRecDepth 100000
set_option maxHeartbeats 8000000
namespace Go.BmP
open Go.Am Go.Bm
theorem clone_ne {Q : List Int} (h0 : Q ≠ []) (hl : Q.length < 4294967295) : callL cfgS nSlicesCloneIntInt [.list 1 (ints Q)] [] = some (.own 1 (ints Q), []) := by
  cases Q with
  | nil => exact absurd rfl h0
  | cons x r => exact clone_cons x r (by simp at hl; omega)
/-- The arguments of the walk. -/
def eA (r : Nat) (t : Bool) : List AV := [.int .u64 (r : Nat), .bool t, .ptr 3 0, .ptr 6 0, .ptr 4 0, .ptr 5 0, .ptr 7 0]
section
variable {N : Nat} {Es : List Ed} {L : List Int} (h : BOK N Es L) {x1 caps : List AV} {nT : Nat} {after : List Int} {σ : Type} {X2 : σ → List AV} {tk : σ → List Int → σ × Bool} {Inv : σ → Prop} (hT : TakeOK N Es L after x1 nT caps X2 tk Inv) {s : σ} {Q : List Int} (hQ0 : Q ≠ []) (hQl : Q.length ≤ 64) {r : Nat} (hr : r < 18446744073709551616) (t : Bool) (X : Int) {v : Int} (hv : v ∈ L) (hc : r &&& (adjE N Es).getD v.toNat 0 = cR N Es L Q)
include h hT hQ0 hQl hr hv hc
section
attribute [local simp] codeL_seq codeL_reg codeL_blk codeL_skip codeL_ret codeL_exit codeL_cnd condL_b thenL_n thenL_e thenL_r blkL_n blkL_e blkL_r regL_s opsB stepB opB opP opnd opnds lend lendC get_nil' get_cons' put_nil' put_cons' mem_nil' mem_cons' putdB putB slowP hasOwn hasOwnL finO relab anyB anyE anyH anyR borOf borL inSlot HAND endR hasOwnE endK keepIn trim noPtr noPtrL noPtrE noPtrH binA arith unA eqB isNilB eqc lenB bndB bnd rdN rdc AV.cells fillB peek ldOK AV.leaf allLeaf fz pl plL drawB allCW cwF okDrawB okPair Fq.ok dstOff wrOff notSlot noneIn apartR oldBoxes O.reads Kd.reads E.slot slots slotO slotsP List.getD pairIn nilL okRes clean cleanL resV resVs tupOf mkEnv partsBor doCallB inpB getArgs doCallO frzA frzV frzL minA minF cont ownAt at_ setAt rel dropS relC dropAll frzP frzAll firstBor borIn borC borS borE borH handTo mapSt mapE mapH mapB mapBL sw rt fb mvB mvRt seesP inRt isRoot rootOf boxOf seesB rootsL Am.rep ovw flatCells_ints allLeaf_ints flatCells el grp updE isNilB inpV inpL stB okL unA orcA bndB plL_ints fzL stBox inCells wrap0 wrap1 wrapm1 take_snoc
theorem eX10a (hs : Inv s) (hm : (tk s Q).2 = true) (W : Int) {s2 : σ} {P2 : List Int} {g : Bool} (hin : callL cfgS nBicliqueSidesEach1 (eA (cR N Es L Q) false) (eH N Es L x1 (X2 (tk s Q).1) nT caps after Q) = some (.bool g, eH N Es L x1 (X2 s2) nT caps after P2)) : codeL cfgS 8 (.reg rBicliqueSidesEach1X10 true [(2, 2), (3, 3), (4, 4), (5, 5), (10, 10), (11, 11), (12, 12), (13, 13), (14, 14), (27, 27), (28, 28), (29, 29), (30, 30), (40, 40), (41, 41), (42, 42), (6, 8), (7, 8), (6, 9), (15, 16), (15, 17), (15, 18), (16, 18), (17, 18), (15, 19), (16, 19), (17, 19), (15, 20), (16, 20), (17, 20), (18, 20), (15, 21), (16, 21), (17, 21), (20, 21), (15, 22), (16, 22), (17, 22), (15, 23), (16, 23), (17, 23), (18, 23), (15, 24), (16, 24), (17, 24), (15, 25), (15, 26), (31, 32), (31, 33), (31, 34), (32, 34), (31, 35), (34, 35), (31, 36), (31, 37), (32, 37), (31, 38), (31, 39), (34, 39), (37, 39)] [0, 1, 2, 3, 4, 5, 6, 10, 137]) ⟨ev r t [(10, .int .u64 X), (11, .int .i64 v), (12, .bool false), (13, .int .u64 W), (14, .int .u64 W)], eH N Es L x1 (X2 s) nT caps after Q⟩ = some (.normal, ⟨ev r t [(10, .int .u64 X), (137, .bool (!g))], eH N Es L x1 (X2 s2) nT caps after P2⟩) := by
  obtain ⟨i1, i2⟩ := row_at h hv
  have ha2 := getD_lt (adjE_spec h).2.1 v.toNat
  have w1 := u64_and_nat r ((adjE N Es).getD v.toNat 0) hr ha2
  rw [hc] at w1
  have el := us_length (adjE N Es)
  have i2' : ∀ h : v.toNat < (us (adjE N Es)).length, (us (adjE N Es))[v.toNat] = .int .u64 ((adjE N Es).getD v.toNat 0 : Nat) := fun h => by rw [List.getElem?_eq_getElem h] at i2; exact Option.some.inj i2
  obtain ⟨pm1, pb1, pn1, pc1⟩ := hT.px1
  obtain ⟨pm2, pb2, pn2, pc2⟩ := hT.px2 s
  obtain ⟨pm3, pb3, po3, pp3, pl3, _⟩ := hT.cp
  have c1 := clone_ne hQ0 (by omega)
  have c2 := list_run (cR N Es L Q) (cR_lt N Es L Q)
  have c3 := hT.run s Q Q hs hQ0 hQl
  obtain ⟨q0, sT⟩ := hT.fn
  have e1 : bitL (cR N Es L Q) = clR N Es L Q := rfl
  rw [e1] at c2
  rw [hm] at c3
  obtain ⟨pm4, pb4, pn4, pc4⟩ := hT.px2 (tk s Q).1
  have tk0 : (ints Q).take Q.length = ints Q := by rw [ints_take, List.take_length]
  obtain ⟨pm5, pb5, pn5, pc5⟩ := hT.px2 s2
  unfold eA at hin
  unfold eH sdAV at c3 hin ⊢
  unfold ev
  generalize us (adjE N Es) = A at *
  generalize X2 s = Y at *
  generalize clR N Es L Q = T at *
  generalize ((cR N Es L Q : Nat) : Int) = q at *
  generalize (((adjE N Es).getD v.toNat 0 : Nat) : Int) = a at *
  generalize X2 s2 = Y2 at *
  generalize X2 (tk s Q).1 = Y1 at *
  cases g
  · simp [rBicliqueSidesEach1X0, rBicliqueSidesEach1X1, rBicliqueSidesEach1X2, rBicliqueSidesEach1X3, rBicliqueSidesEach1X4, rBicliqueSidesEach1X5, rBicliqueSidesEach1X6, rBicliqueSidesEach1X7, rBicliqueSidesEach1X8, rBicliqueSidesEach1X9, rBicliqueSidesEach1X10, rBicliqueSidesEach1X11, rBicliqueSidesEach1X12, rBicliqueSidesEach1X13, rBicliqueSidesEach1X14, i1, i2, i2', el, w1, c1, c2, c3, hin, tk0, plp, plpL, allB, notBox, swC, seesC, inBox, sSlicesCloneIntInt, iSlicesCloneIntInt, sBicliqueList, iBicliqueList, sT, sBicliqueSidesEach1, iBicliqueSidesEach1, cleanL_ints, pm1, pb1, pn1, pc1, pm2, pb2, pn2, pc2, pm3, pb3, po3, pp3, pl3, pm4, pb4, pn4, pc4, pm5, pb5, pn5, pc5, blk, eds_length, eds_get, edsAt, edAV, allLeaf_eds, cleanL_eds, cleanL_ints, ints_length, ints_get, intsAt, endL, finB]
  · simp [rBicliqueSidesEach1X0, rBicliqueSidesEach1X1, rBicliqueSidesEach1X2, rBicliqueSidesEach1X3, rBicliqueSidesEach1X4, rBicliqueSidesEach1X5, rBicliqueSidesEach1X6, rBicliqueSidesEach1X7, rBicliqueSidesEach1X8, rBicliqueSidesEach1X9, rBicliqueSidesEach1X10, rBicliqueSidesEach1X11, rBicliqueSidesEach1X12, rBicliqueSidesEach1X13, rBicliqueSidesEach1X14, i1, i2, i2', el, w1, c1, c2, c3, hin, tk0, plp, plpL, allB, notBox, swC, seesC, inBox, sSlicesCloneIntInt, iSlicesCloneIntInt, sBicliqueList, iBicliqueList, sT, sBicliqueSidesEach1, iBicliqueSidesEach1, cleanL_ints, pm1, pb1, pn1, pc1, pm2, pb2, pn2, pc2, pm3, pb3, po3, pp3, pl3, pm4, pb4, pn4, pc4, pm5, pb5, pn5, pc5, blk, eds_length, eds_get, edsAt, edAV, allLeaf_eds, cleanL_eds, cleanL_ints, ints_length, ints_get, intsAt, endL, finB]
theorem eX10b (hs : Inv s) (hm : (tk s Q).2 = false) (W : Int) : codeL cfgS 8 (.reg rBicliqueSidesEach1X10 true [(2, 2), (3, 3), (4, 4), (5, 5), (10, 10), (11, 11), (12, 12), (13, 13), (14, 14), (27, 27), (28, 28), (29, 29), (30, 30), (40, 40), (41, 41), (42, 42), (6, 8), (7, 8), (6, 9), (15, 16), (15, 17), (15, 18), (16, 18), (17, 18), (15, 19), (16, 19), (17, 19), (15, 20), (16, 20), (17, 20), (18, 20), (15, 21), (16, 21), (17, 21), (20, 21), (15, 22), (16, 22), (17, 22), (15, 23), (16, 23), (17, 23), (18, 23), (15, 24), (16, 24), (17, 24), (15, 25), (15, 26), (31, 32), (31, 33), (31, 34), (32, 34), (31, 35), (34, 35), (31, 36), (31, 37), (32, 37), (31, 38), (31, 39), (34, 39), (37, 39)] [0, 1, 2, 3, 4, 5, 6, 10, 137]) ⟨ev r t [(10, .int .u64 X), (11, .int .i64 v), (12, .bool false), (13, .int .u64 W), (14, .int .u64 W)], eH N Es L x1 (X2 s) nT caps after Q⟩ = some (.normal, ⟨ev r t [(10, .int .u64 X), (137, .bool true)], eH N Es L x1 (X2 (tk s Q).1) nT caps after Q⟩) := by
  obtain ⟨i1, i2⟩ := row_at h hv
  have ha2 := getD_lt (adjE_spec h).2.1 v.toNat
  have w1 := u64_and_nat r ((adjE N Es).getD v.toNat 0) hr ha2
  rw [hc] at w1
  have el := us_length (adjE N Es)
  have i2' : ∀ h : v.toNat < (us (adjE N Es)).length, (us (adjE N Es))[v.toNat] = .int .u64 ((adjE N Es).getD v.toNat 0 : Nat) := fun h => by rw [List.getElem?_eq_getElem h] at i2; exact Option.some.inj i2
  obtain ⟨pm1, pb1, pn1, pc1⟩ := hT.px1
  obtain ⟨pm2, pb2, pn2, pc2⟩ := hT.px2 s
  obtain ⟨pm3, pb3, po3, pp3, pl3, _⟩ := hT.cp
  have c1 := clone_ne hQ0 (by omega)
  have c2 := list_run (cR N Es L Q) (cR_lt N Es L Q)
  have c3 := hT.run s Q Q hs hQ0 hQl
  obtain ⟨q0, sT⟩ := hT.fn
  have e1 : bitL (cR N Es L Q) = clR N Es L Q := rfl
  rw [e1] at c2
  rw [hm] at c3
  obtain ⟨pm4, pb4, pn4, pc4⟩ := hT.px2 (tk s Q).1
  have tk0 : (ints Q).take Q.length = ints Q := by rw [ints_take, List.take_length]
  unfold eH sdAV at c3 ⊢
  unfold ev
  generalize us (adjE N Es) = A at *
  generalize X2 s = Y at *
  generalize clR N Es L Q = T at *
  generalize ((cR N Es L Q : Nat) : Int) = q at *
  generalize (((adjE N Es).getD v.toNat 0 : Nat) : Int) = a at *
  generalize X2 (tk s Q).1 = Y1 at *
  simp [rBicliqueSidesEach1X0, rBicliqueSidesEach1X1, rBicliqueSidesEach1X2, rBicliqueSidesEach1X3, rBicliqueSidesEach1X4, rBicliqueSidesEach1X5, rBicliqueSidesEach1X6, rBicliqueSidesEach1X7, rBicliqueSidesEach1X8, rBicliqueSidesEach1X9, rBicliqueSidesEach1X10, rBicliqueSidesEach1X11, rBicliqueSidesEach1X12, rBicliqueSidesEach1X13, rBicliqueSidesEach1X14, i1, i2, i2', el, w1, c1, c2, c3, tk0, plp, plpL, allB, notBox, swC, seesC, inBox, sSlicesCloneIntInt, iSlicesCloneIntInt, sBicliqueList, iBicliqueList, sT, sBicliqueSidesEach1, iBicliqueSidesEach1, cleanL_ints, pm1, pb1, pn1, pc1, pm2, pb2, pn2, pc2, pm3, pb3, po3, pp3, pl3, pm4, pb4, pn4, pc4, blk, eds_length, eds_get, edsAt, edAV, allLeaf_eds, cleanL_eds, cleanL_ints, ints_length, ints_get, intsAt, endL, finB]
omit hQ0 hQl in
theorem eX10c (W M : Int) (b : Bool) (hno : ¬ (W = M ∧ b = false)) (hbl : b = true → Q.length ≤ after.length) {s2 : σ} {P2 : List Int} {g : Bool} (hin : callL cfgS nBicliqueSidesEach1 (eA (cR N Es L Q) b) (eH N Es L x1 (X2 s) nT caps after Q) = some (.bool g, eH N Es L x1 (X2 s2) nT caps after P2)) : codeL cfgS 8 (.reg rBicliqueSidesEach1X10 true [(2, 2), (3, 3), (4, 4), (5, 5), (10, 10), (11, 11), (12, 12), (13, 13), (14, 14), (27, 27), (28, 28), (29, 29), (30, 30), (40, 40), (41, 41), (42, 42), (6, 8), (7, 8), (6, 9), (15, 16), (15, 17), (15, 18), (16, 18), (17, 18), (15, 19), (16, 19), (17, 19), (15, 20), (16, 20), (17, 20), (18, 20), (15, 21), (16, 21), (17, 21), (20, 21), (15, 22), (16, 22), (17, 22), (15, 23), (16, 23), (17, 23), (18, 23), (15, 24), (16, 24), (17, 24), (15, 25), (15, 26), (31, 32), (31, 33), (31, 34), (32, 34), (31, 35), (34, 35), (31, 36), (31, 37), (32, 37), (31, 38), (31, 39), (34, 39), (37, 39)] [0, 1, 2, 3, 4, 5, 6, 10, 137]) ⟨ev r t [(10, .int .u64 X), (11, .int .i64 v), (12, .bool b), (13, .int .u64 W), (14, .int .u64 M)], eH N Es L x1 (X2 s) nT caps after Q⟩ = some (.normal, ⟨ev r t [(10, .int .u64 X), (137, .bool (!g))], eH N Es L x1 (X2 s2) nT caps after P2⟩) := by
  obtain ⟨i1, i2⟩ := row_at h hv
  have ha2 := getD_lt (adjE_spec h).2.1 v.toNat
  have w1 := u64_and_nat r ((adjE N Es).getD v.toNat 0) hr ha2
  rw [hc] at w1
  have el := us_length (adjE N Es)
  have i2' : ∀ h : v.toNat < (us (adjE N Es)).length, (us (adjE N Es))[v.toNat] = .int .u64 ((adjE N Es).getD v.toNat 0 : Nat) := fun h => by rw [List.getElem?_eq_getElem h] at i2; exact Option.some.inj i2
  obtain ⟨pm1, pb1, pn1, pc1⟩ := hT.px1
  obtain ⟨pm2, pb2, pn2, pc2⟩ := hT.px2 s
  obtain ⟨pm3, pb3, po3, pp3, pl3, _⟩ := hT.cp
  obtain ⟨pm4, pb4, pn4, pc4⟩ := hT.px2 s2
  unfold eA at hin
  unfold eH sdAV at hin ⊢
  unfold ev
  generalize us (adjE N Es) = A at *
  generalize X2 s2 = Y2 at *
  generalize X2 s = Y at *
  generalize ((cR N Es L Q : Nat) : Int) = q at *
  generalize (((adjE N Es).getD v.toNat 0 : Nat) : Int) = a at *
  by_cases e : W = M
  · have b1 : b = true := by cases b <;> simp_all
    have k : (Q.length : Int) ≤ after.length := by have := hbl b1; omega
    subst b1
    cases g <;> simp [rBicliqueSidesEach1X0, rBicliqueSidesEach1X1, rBicliqueSidesEach1X2, rBicliqueSidesEach1X3, rBicliqueSidesEach1X4, rBicliqueSidesEach1X5, rBicliqueSidesEach1X6, rBicliqueSidesEach1X7, rBicliqueSidesEach1X8, rBicliqueSidesEach1X9, rBicliqueSidesEach1X10, rBicliqueSidesEach1X11, rBicliqueSidesEach1X12, rBicliqueSidesEach1X13, rBicliqueSidesEach1X14, e, k, i1, i2, i2', el, w1, hin, plp, plpL, allB, notBox, swC, seesC, inBox, sBicliqueSidesEach1, iBicliqueSidesEach1, pm1, pb1, pn1, pc1, pm2, pb2, pn2, pc2, pm3, pb3, po3, pp3, pl3, pm4, pb4, pn4, pc4, blk, eds_length, eds_get, edsAt, edAV, allLeaf_eds, cleanL_eds, cleanL_ints, ints_length, ints_get, intsAt, endL, finB]
  · cases g <;> simp [rBicliqueSidesEach1X0, rBicliqueSidesEach1X1, rBicliqueSidesEach1X2, rBicliqueSidesEach1X3, rBicliqueSidesEach1X4, rBicliqueSidesEach1X5, rBicliqueSidesEach1X6, rBicliqueSidesEach1X7, rBicliqueSidesEach1X8, rBicliqueSidesEach1X9, rBicliqueSidesEach1X10, rBicliqueSidesEach1X11, rBicliqueSidesEach1X12, rBicliqueSidesEach1X13, rBicliqueSidesEach1X14, e, i1, i2, i2', el, w1, hin, plp, plpL, allB, notBox, swC, seesC, inBox, sBicliqueSidesEach1, iBicliqueSidesEach1, pm1, pb1, pn1, pc1, pm2, pb2, pn2, pc2, pm3, pb3, po3, pp3, pl3, pm4, pb4, pn4, pc4, blk, eds_length, eds_get, edsAt, edAV, allLeaf_eds, cleanL_eds, cleanL_ints, ints_length, ints_get, intsAt, endL, finB]
end
end
end Go.BmP
