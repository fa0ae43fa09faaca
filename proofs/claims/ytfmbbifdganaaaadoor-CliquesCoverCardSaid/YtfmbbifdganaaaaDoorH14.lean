/- The walk over cliques: its regions. -/
import Derived.Test.YtfmbbifdganaaaaDoorUseM
import Derived.Test.YtfmbbifdganaaaaDoorH13
set_option linter.unusedSimpArgs false
set_option linter.unusedVariables false
set_option maxRecDepth 100000
set_option maxHeartbeats 8000000
namespace Go.BmP
open Go.Am Go.Bm
def cv0 (a b : Nat) (t : Bool) (x : Env) : Env := (0, .int .u64 (a : Nat)) :: (1, .int .u64 (b : Nat)) :: (2, .bool t) :: (3, .ptr 7 0) :: (4, .ptr 4 0) :: (5, .ptr 5 0) :: (6, .ptr 6 0) :: (7, .ptr 8 0) :: x
def cv1 (a b : Nat) (t : Bool) (x : Env) : Env := (0, .int .u64 (a : Nat)) :: (1, .int .u64 (b : Nat)) :: (2, .bool t) :: (3, .ptr 7 0) :: (4, .ptr 4 0) :: (6, .ptr 6 0) :: (7, .ptr 8 0) :: x
theorem cX0 (N : Nat) (Es : List Ed) {x1 x2 caps : List AV} (q1 : Plain x1) (q2 : Plain x2) (q3 : PlainC caps) (nT : Nat) (after P : List Int) (a b : Nat) (t : Bool)  : codeL cfgS 9 (.reg rQRX0 false [] [0, 1, 2, 3, 4, 5, 6, 7]) ⟨cv0 a b t [], kH N Es x1 x2 nT caps after P⟩ = some (.normal, ⟨cv0 a b t [], kH N Es x1 x2 nT caps after P⟩) := by
 obtain ⟨pm1, pb1, pn1, pc1⟩ := q1
 obtain ⟨pm2, pb2, pn2, pc2⟩ := q2
 obtain ⟨pm3, pb3, po3, pp3, pl3, _⟩ := q3
 try unfold cv0
 try unfold cv1
 unfold kH
 simp [rQRX0, rQRX1, rQRX2, rQRX3, rQRX4, rQRX5, rQRX6, rQRX7, rQRX8, rQRX9, rQRX10, rQRX11, rQRX12, rQRX13, rQRX14, rQRX15, rQRX16, rQRX17, rQRX18, rQRX19, rQRX20, rQRX21, pm1, pb1, pn1, pc1, pm2, pb2, pn2, pc2, pm3, pb3, po3, pp3, pl3, blk, eds_length, eds_get, edsAt, edAV, allLeaf_eds, cleanL_eds, cleanL_ints, ints_length, ints_get, intsAt, endL, finB]
theorem cX1z (N : Nat) (Es : List Ed) {x1 x2 caps : List AV} (q1 : Plain x1) (q2 : Plain x2) (q3 : PlainC caps) (nT : Nat) (after P : List Int) (a b : Nat) (t : Bool)  : codeL cfgS 9 (.reg rQRX1 false [] [0, 1, 2, 3, 4, 5, 6, 7, 19]) ⟨cv0 0 b t [], kH N Es x1 x2 nT caps after P⟩ = some (.normal, ⟨cv0 0 b t [(19, .bool true)], kH N Es x1 x2 nT caps after P⟩) := by
 obtain ⟨pm1, pb1, pn1, pc1⟩ := q1
 obtain ⟨pm2, pb2, pn2, pc2⟩ := q2
 obtain ⟨pm3, pb3, po3, pp3, pl3, _⟩ := q3
 try unfold cv0
 try unfold cv1
 unfold kH
 simp [rQRX0, rQRX1, rQRX2, rQRX3, rQRX4, rQRX5, rQRX6, rQRX7, rQRX8, rQRX9, rQRX10, rQRX11, rQRX12, rQRX13, rQRX14, rQRX15, rQRX16, rQRX17, rQRX18, rQRX19, rQRX20, rQRX21, nat0, pm1, pb1, pn1, pc1, pm2, pb2, pn2, pc2, pm3, pb3, po3, pp3, pl3, blk, eds_length, eds_get, edsAt, edAV, allLeaf_eds, cleanL_eds, cleanL_ints, ints_length, ints_get, intsAt, endL, finB]
theorem cX1 (N : Nat) (Es : List Ed) {x1 x2 caps : List AV} (q1 : Plain x1) (q2 : Plain x2) (q3 : PlainC caps) (nT : Nat) (after P : List Int) (a b : Nat) (t : Bool) (a0 : a ≠ 0) : codeL cfgS 9 (.reg rQRX1 false [] [0, 1, 2, 3, 4, 5, 6, 7, 19]) ⟨cv0 a b t [], kH N Es x1 x2 nT caps after P⟩ = some (.normal, ⟨cv0 a b t [(19, .bool false)], kH N Es x1 x2 nT caps after P⟩) := by
 obtain ⟨pm1, pb1, pn1, pc1⟩ := q1
 obtain ⟨pm2, pb2, pn2, pc2⟩ := q2
 obtain ⟨pm3, pb3, po3, pp3, pl3, _⟩ := q3
 have n0 : ¬ ((a : Int) = 0) := by omega
 unfold cv0 kH
 generalize (a : Int) = X at *
 simp [rQRX0, rQRX1, rQRX2, rQRX3, rQRX4, rQRX5, rQRX6, rQRX7, rQRX8, rQRX9, rQRX10, rQRX11, rQRX12, rQRX13, rQRX14, rQRX15, rQRX16, rQRX17, rQRX18, rQRX19, rQRX20, rQRX21, n0, pm1, pb1, pn1, pc1, pm2, pb2, pn2, pc2, pm3, pb3, po3, pp3, pl3, blk, eds_length, eds_get, edsAt, edAV, allLeaf_eds, cleanL_eds, cleanL_ints, ints_length, ints_get, intsAt, endL, finB]
theorem cX2n (N : Nat) (Es : List Ed) {x1 x2 caps : List AV} (q1 : Plain x1) (q2 : Plain x2) (q3 : PlainC caps) (nT : Nat) (after P : List Int) (b : Nat) (t : Bool) (hn : b ≠ 0 \/ P = [] \/ (t = true /\ P.length <= after.length)) : codeL cfgS 9 (.reg rQRX2 true [(0, 0), (1, 1), (2, 2), (3, 3), (4, 4), (5, 5), (6, 6), (7, 7), (8, 8), (9, 9), (14, 14), (15, 15), (16, 16), (17, 17), (21, 21), (22, 22), (23, 23), (10, 12), (11, 12), (10, 13), (18, 19), (18, 20)] [11]) ⟨cv0 0 b t [(19, .bool true)], kH N Es x1 x2 nT caps after P⟩ = some (.normal, ⟨[(11, .bool true)], kH N Es x1 x2 nT caps after P⟩) := by
 obtain ⟨pm1, pb1, pn1, pc1⟩ := q1
 obtain ⟨pm2, pb2, pn2, pc2⟩ := q2
 obtain ⟨pm3, pb3, po3, pp3, pl3, _⟩ := q3
 by_cases k1 : b = 0
 ·subst k1
  by_cases k2 : P = []
  ·subst k2
   unfold cv0 kH
   simp [rQRX0, rQRX1, rQRX2, rQRX3, rQRX4, rQRX5, rQRX6, rQRX7, rQRX8, rQRX9, rQRX10, rQRX11, rQRX12, rQRX13, rQRX14, rQRX15, rQRX16, rQRX17, rQRX18, rQRX19, rQRX20, rQRX21, nat0, ints_nil, pm1, pb1, pn1, pc1, pm2, pb2, pn2, pc2, pm3, pb3, po3, pp3, pl3, blk, eds_length, eds_get, edsAt, edAV, allLeaf_eds, cleanL_eds, cleanL_ints, ints_length, ints_get, intsAt, endL, finB]
  ·have l1 : ¬ (P.length : Int) = 0 := by have := List.length_pos_iff.2 k2; omega
   rcases hn with k | k | ⟨k3, k4⟩
   ·exact absurd rfl k
   ·exact absurd k k2
   ·have k5 : (P.length : Int) <= after.length := by omega
    subst k3
    unfold cv0 kH
    simp [rQRX0, rQRX1, rQRX2, rQRX3, rQRX4, rQRX5, rQRX6, rQRX7, rQRX8, rQRX9, rQRX10, rQRX11, rQRX12, rQRX13, rQRX14, rQRX15, rQRX16, rQRX17, rQRX18, rQRX19, rQRX20, rQRX21, nat0, l1, k2, k4, k5, pm1, pb1, pn1, pc1, pm2, pb2, pn2, pc2, pm3, pb3, po3, pp3, pl3, blk, eds_length, eds_get, edsAt, edAV, allLeaf_eds, cleanL_eds, cleanL_ints, ints_length, ints_get, intsAt, endL, finB]
 ·have n0 : ¬ ((b : Int) = 0) := by omega
  unfold cv0 kH
  generalize (b : Int) = X at *
  simp [rQRX0, rQRX1, rQRX2, rQRX3, rQRX4, rQRX5, rQRX6, rQRX7, rQRX8, rQRX9, rQRX10, rQRX11, rQRX12, rQRX13, rQRX14, rQRX15, rQRX16, rQRX17, rQRX18, rQRX19, rQRX20, rQRX21, n0, pm1, pb1, pn1, pc1, pm2, pb2, pn2, pc2, pm3, pb3, po3, pp3, pl3, blk, eds_length, eds_get, edsAt, edAV, allLeaf_eds, cleanL_eds, cleanL_ints, ints_length, ints_get, intsAt, endL, finB]
theorem cX2t {N : Nat} {Es : List Ed} {x1 caps : List AV} {nT : Nat} {after : List Int} {σ : Type} {X2 : σ -> List AV} {tk : σ -> List Int -> σ × Bool} {Inv : σ -> Prop} (hT : TakeK N Es after x1 nT caps X2 tk Inv) {s : σ} (hs : Inv s) {P : List Int} (hP : P ≠ []) (hl : P.length <= 64) (t : Bool) (hn : ¬ (t = true /\ P.length <= after.length)) : codeL cfgS 9 (.reg rQRX2 true [(0, 0), (1, 1), (2, 2), (3, 3), (4, 4), (5, 5), (6, 6), (7, 7), (8, 8), (9, 9), (14, 14), (15, 15), (16, 16), (17, 17), (21, 21), (22, 22), (23, 23), (10, 12), (11, 12), (10, 13), (18, 19), (18, 20)] [11]) ⟨cv0 0 0 t [(19, .bool true)], kH N Es x1 (X2 s) nT caps after P⟩ = some (.normal, ⟨[(11, .bool (tk s P).2)], kH N Es x1 (X2 (tk s P).1) nT caps after P⟩) := by
 obtain ⟨pm1, pb1, pn1, pc1⟩ := hT.px1
 obtain ⟨pm2, pb2, pn2, pc2⟩ := hT.px2 s
 obtain ⟨pm3, pb3, po3, pp3, pl3, _⟩ := hT.cp
 obtain ⟨pm4, pb4, pn4, pc4⟩ := hT.px2 (tk s P).1
 obtain ⟨q0, sT⟩ := hT.fn
 have c1 := clone_ne hP (by omega)
 have c3 := hT.run s P P hs hP hl
 have l1 : ¬ (P.length : Int) = 0 := by have := List.length_pos_iff.2 hP; omega
 have tk0 := ints_tk P
 unfold kH at c3 ⊢
 unfold cv0
 generalize X2 s = Y at *
 generalize X2 (tk s P).1 = Y1 at *
 generalize (tk s P).2 = g at *
 cases t with
 | false =>
   cases g <;> simp [rQRX0, rQRX1, rQRX2, rQRX3, rQRX4, rQRX5, rQRX6, rQRX7, rQRX8, rQRX9, rQRX10, rQRX11, rQRX12, rQRX13, rQRX14, rQRX15, rQRX16, rQRX17, rQRX18, rQRX19, rQRX20, rQRX21, nat0, l1, hP, c1, c3, tk0, plp, plpL, allB, notBox, swC, seesC, inBox, sQH, iQH, sT, pm1, pb1, pn1, pc1, pm2, pb2, pn2, pc2, pm3, pb3, po3, pp3, pl3, pm4, pb4, pn4, pc4, blk, eds_length, eds_get, edsAt, edAV, allLeaf_eds, cleanL_eds, cleanL_ints, ints_length, ints_get, intsAt, endL, finB]
 | true =>
   have k5 : ¬ (P.length : Int) <= after.length := by have : ¬ P.length <= after.length := fun k => hn ⟨rfl, k⟩; omega
   have k6 : ¬ P.length <= after.length := by omega
   have k7 : after.length < P.length := by omega
   cases g <;> simp [rQRX0, rQRX1, rQRX2, rQRX3, rQRX4, rQRX5, rQRX6, rQRX7, rQRX8, rQRX9, rQRX10, rQRX11, rQRX12, rQRX13, rQRX14, rQRX15, rQRX16, rQRX17, rQRX18, rQRX19, rQRX20, rQRX21, nat0, l1, hP, k5, k6, k7, c1, c3, tk0, plp, plpL, allB, notBox, swC, seesC, inBox, sQH, iQH, sT, pm1, pb1, pn1, pc1, pm2, pb2, pn2, pc2, pm3, pb3, po3, pp3, pl3, pm4, pb4, pn4, pc4, blk, eds_length, eds_get, edsAt, edAV, allLeaf_eds, cleanL_eds, cleanL_ints, ints_length, ints_get, intsAt, endL, finB]
theorem cX3 (N : Nat) (Es : List Ed) {x1 x2 caps : List AV} (q1 : Plain x1) (q2 : Plain x2) (q3 : PlainC caps) (nT : Nat) (after P : List Int) (a b : Nat) (t : Bool)  : codeL cfgS 9 (.reg rQRX3 false [] [0, 1, 2, 3, 4, 6, 7, 12]) ⟨cv0 a b t [(19, .bool false)], kH N Es x1 x2 nT caps after P⟩ = some (.normal, ⟨cv1 a b t [(12, .int .u64 (b : Int))], kH N Es x1 x2 nT caps after P⟩) := by
 obtain ⟨pm1, pb1, pn1, pc1⟩ := q1
 obtain ⟨pm2, pb2, pn2, pc2⟩ := q2
 obtain ⟨pm3, pb3, po3, pp3, pl3, _⟩ := q3
 try unfold cv0
 try unfold cv1
 unfold kH
 simp [rQRX0, rQRX1, rQRX2, rQRX3, rQRX4, rQRX5, rQRX6, rQRX7, rQRX8, rQRX9, rQRX10, rQRX11, rQRX12, rQRX13, rQRX14, rQRX15, rQRX16, rQRX17, rQRX18, rQRX19, rQRX20, rQRX21, pm1, pb1, pn1, pc1, pm2, pb2, pn2, pc2, pm3, pb3, po3, pp3, pl3, blk, eds_length, eds_get, edsAt, edAV, allLeaf_eds, cleanL_eds, cleanL_ints, ints_length, ints_get, intsAt, endL, finB]
theorem cX4z (N : Nat) (Es : List Ed) {x1 x2 caps : List AV} (q1 : Plain x1) (q2 : Plain x2) (q3 : PlainC caps) (nT : Nat) (after P : List Int) (a b : Nat) (t : Bool)  : codeL cfgS 9 (.reg rQRX4 false [] [0, 1, 2, 3, 4, 6, 7, 12, 45]) ⟨cv1 a b t [(12, .int .u64 ((0 : Nat) : Int))], kH N Es x1 x2 nT caps after P⟩ = some (.normal, ⟨cv1 a b t [(12, .int .u64 ((0 : Nat) : Int)), (45, .bool false)], kH N Es x1 x2 nT caps after P⟩) := by
 obtain ⟨pm1, pb1, pn1, pc1⟩ := q1
 obtain ⟨pm2, pb2, pn2, pc2⟩ := q2
 obtain ⟨pm3, pb3, po3, pp3, pl3, _⟩ := q3
 try unfold cv0
 try unfold cv1
 unfold kH
 simp [rQRX0, rQRX1, rQRX2, rQRX3, rQRX4, rQRX5, rQRX6, rQRX7, rQRX8, rQRX9, rQRX10, rQRX11, rQRX12, rQRX13, rQRX14, rQRX15, rQRX16, rQRX17, rQRX18, rQRX19, rQRX20, rQRX21, pm1, pb1, pn1, pc1, pm2, pb2, pn2, pc2, pm3, pb3, po3, pp3, pl3, blk, eds_length, eds_get, edsAt, edAV, allLeaf_eds, cleanL_eds, cleanL_ints, ints_length, ints_get, intsAt, endL, finB]
theorem cX4 (N : Nat) (Es : List Ed) {x1 x2 caps : List AV} (q1 : Plain x1) (q2 : Plain x2) (q3 : PlainC caps) (nT : Nat) (after P : List Int) (a b : Nat) (t : Bool) {m : Nat} (m0 : m ≠ 0) : codeL cfgS 9 (.reg rQRX4 false [] [0, 1, 2, 3, 4, 6, 7, 12, 45]) ⟨cv1 a b t [(12, .int .u64 (m : Int))], kH N Es x1 x2 nT caps after P⟩ = some (.normal, ⟨cv1 a b t [(12, .int .u64 (m : Int)), (45, .bool true)], kH N Es x1 x2 nT caps after P⟩) := by
 obtain ⟨pm1, pb1, pn1, pc1⟩ := q1
 obtain ⟨pm2, pb2, pn2, pc2⟩ := q2
 obtain ⟨pm3, pb3, po3, pp3, pl3, _⟩ := q3
 have n0 : ¬ ((m : Int) = 0) := by omega
 generalize (m : Int) = X at *
 try unfold cv0
 try unfold cv1
 unfold kH
 simp [rQRX0, rQRX1, rQRX2, rQRX3, rQRX4, rQRX5, rQRX6, rQRX7, rQRX8, rQRX9, rQRX10, rQRX11, rQRX12, rQRX13, rQRX14, rQRX15, rQRX16, rQRX17, rQRX18, rQRX19, rQRX20, rQRX21, n0, pm1, pb1, pn1, pc1, pm2, pb2, pn2, pc2, pm3, pb3, po3, pp3, pl3, blk, eds_length, eds_get, edsAt, edAV, allLeaf_eds, cleanL_eds, cleanL_ints, ints_length, ints_get, intsAt, endL, finB]
theorem row_k {N : Nat} {Es : List Ed} (h : GOK (N : Int) Es) {v : Int} (hv : 0 <= v /\ v < (N : Int)) : idx (.int .i64 v) (adjE N Es).length = some v.toNat /\ (us (adjE N Es))[v.toNat]? = some (.int .u64 ((adjE N Es).getD v.toNat 0 : Nat)) := by
 have e := (gadj h).1
 refine ⟨idx_lt hv.1 (by rw [e]; exact hv.2), ?_⟩
 rw [us_get, List.getD_eq_getElem?_getD, List.getElem?_eq_getElem (by omega)]
 rfl
theorem aft_at {after P : List Int} (h : P.length < after.length) (h2 : after.length < 9223372036854775808) : idx (.int .i64 (P.length : Int)) after.length = some P.length /\ (ints after)[P.length]? = some (.int .i64 (after.getD P.length 0)) := by
 refine ⟨idx_lt (by omega) (by omega), ?_⟩
 rw [ints_get, List.getD_eq_getElem?_getD, List.getElem?_eq_getElem h]
 rfl
theorem cX5 {N : Nat} {Es : List Ed} (h : GOK (N : Int) Es) {x1 x2 caps : List AV} (q1 : Plain x1) (q2 : Plain x2) (q3 : PlainC caps) (nT : Nat) (after P : List Int) {a : Nat} (ha : a < 18446744073709551616) (b : Nat) (t : Bool) {m : Nat} (m0 : m ≠ 0) (hm : m < 18446744073709551616) {v : Int} (ev : v = ((tz m : Nat) : Int)) (hv : 0 <= v /\ v < (N : Int)) : codeL cfgS 9 (.reg rQRX5 true [(6, 6), (7, 7), (0, 1), (1, 2), (0, 3), (1, 3), (0, 5)] [0, 1, 2, 3, 4, 6, 7, 12, 57]) ⟨cv1 a b t [(12, .int .u64 (m : Int)), (45, .bool true)], kH N Es x1 x2 nT caps after P⟩ = some (.normal, ⟨cv1 a b t [(12, .int .u64 (m : Int)), (57, .bool (decide (a &&& (18446744073709551615 - (adjE N Es).getD v.toNat 0) = 0)))], kH N Es x1 x2 nT caps after P⟩) := by
 obtain ⟨pm1, pb1, pn1, pc1⟩ := q1
 obtain ⟨pm2, pb2, pn2, pc2⟩ := q2
 obtain ⟨pm3, pb3, po3, pp3, pl3, _⟩ := q3
 obtain ⟨i1, i2⟩ := row_k h hv
 have ra := getD_lt (gadj h).2.1 v.toNat
 have el := us_length (adjE N Es)
 have i2' : ∀ h : v.toNat < (us (adjE N Es)).length, (us (adjE N Es))[v.toNat] = .int .u64 ((adjE N Es).getD v.toNat 0 : Nat) := fun h => by rw [List.getElem?_eq_getElem h] at i2; exact Option.some.inj i2
 have w1 := u64_andNot_nat a ((adjE N Es).getD v.toNat 0) ha ra
 have ht := tz_run m m0 hm
 rw [<- ev] at ht
 have z : decide (((a &&& (18446744073709551615 - (adjE N Es).getD v.toNat 0) : Nat) : Int) = 0) = decide (a &&& (18446744073709551615 - (adjE N Es).getD v.toNat 0) = 0) := by
  rw [Bool.eq_iff_iff, decide_eq_true_eq, decide_eq_true_eq]; omega
 rw [<- z]
 clear z
 generalize ((a &&& (18446744073709551615 - (adjE N Es).getD v.toNat 0) : Nat) : Int) = Q at *
 generalize (((adjE N Es).getD v.toNat 0 : Nat) : Int) = r at *
 generalize (m : Int) = X at *
 try unfold cv0
 try unfold cv1
 unfold kH
 generalize us (adjE N Es) = A at *
 simp [rQRX0, rQRX1, rQRX2, rQRX3, rQRX4, rQRX5, rQRX6, rQRX7, rQRX8, rQRX9, rQRX10, rQRX11, rQRX12, rQRX13, rQRX14, rQRX15, rQRX16, rQRX17, rQRX18, rQRX19, rQRX20, rQRX21, i1, i2, i2', el, w1, ht, beqI, sQI, iQI, pm1, pb1, pn1, pc1, pm2, pb2, pn2, pc2, pm3, pb3, po3, pp3, pl3, blk, eds_length, eds_get, edsAt, edAV, allLeaf_eds, cleanL_eds, cleanL_ints, ints_length, ints_get, intsAt, endL, finB]
theorem cX6 (N : Nat) (Es : List Ed) {x1 x2 caps : List AV} (q1 : Plain x1) (q2 : Plain x2) (q3 : PlainC caps) (nT : Nat) (after P : List Int) (a b : Nat) (t : Bool) (X : Int) : codeL cfgS 9 (.reg rQRX6 false [] [11]) ⟨cv1 a b t [(12, .int .u64 X), (57, .bool true)], kH N Es x1 x2 nT caps after P⟩ = some (.normal, ⟨[(11, .bool true)], kH N Es x1 x2 nT caps after P⟩) := by
 obtain ⟨pm1, pb1, pn1, pc1⟩ := q1
 obtain ⟨pm2, pb2, pn2, pc2⟩ := q2
 obtain ⟨pm3, pb3, po3, pp3, pl3, _⟩ := q3
 try unfold cv0
 try unfold cv1
 unfold kH
 simp [rQRX0, rQRX1, rQRX2, rQRX3, rQRX4, rQRX5, rQRX6, rQRX7, rQRX8, rQRX9, rQRX10, rQRX11, rQRX12, rQRX13, rQRX14, rQRX15, rQRX16, rQRX17, rQRX18, rQRX19, rQRX20, rQRX21, pm1, pb1, pn1, pc1, pm2, pb2, pn2, pc2, pm3, pb3, po3, pp3, pl3, blk, eds_length, eds_get, edsAt, edAV, allLeaf_eds, cleanL_eds, cleanL_ints, ints_length, ints_get, intsAt, endL, finB]
theorem cX7 (N : Nat) (Es : List Ed) {x1 x2 caps : List AV} (q1 : Plain x1) (q2 : Plain x2) (q3 : PlainC caps) (nT : Nat) (after P : List Int) (a b : Nat) (t : Bool) {m : Nat} (m0 : m ≠ 0) (hm : m < 18446744073709551616) : codeL cfgS 9 (.reg rQRX7 false [] [0, 1, 2, 3, 4, 6, 7, 12]) ⟨cv1 a b t [(12, .int .u64 (m : Int)), (57, .bool false)], kH N Es x1 x2 nT caps after P⟩ = some (.normal, ⟨cv1 a b t [(12, .int .u64 ((m &&& (m - 1) : Nat) : Int))], kH N Es x1 x2 nT caps after P⟩) := by
 obtain ⟨pm1, pb1, pn1, pc1⟩ := q1
 obtain ⟨pm2, pb2, pn2, pc2⟩ := q2
 obtain ⟨pm3, pb3, po3, pp3, pl3, _⟩ := q3
 have w1 := decU m0 hm
 have w2 := u64_and_nat m (m - 1) hm (by omega)
 generalize ((m &&& (m - 1) : Nat) : Int) = q at *
 generalize ((m - 1 : Nat) : Int) = p at *
 generalize (m : Int) = Y at *
 try unfold cv0
 try unfold cv1
 unfold kH
 simp [rQRX0, rQRX1, rQRX2, rQRX3, rQRX4, rQRX5, rQRX6, rQRX7, rQRX8, rQRX9, rQRX10, rQRX11, rQRX12, rQRX13, rQRX14, rQRX15, rQRX16, rQRX17, rQRX18, rQRX19, rQRX20, rQRX21, w1, w2, pm1, pb1, pn1, pc1, pm2, pb2, pn2, pc2, pm3, pb3, po3, pp3, pl3, blk, eds_length, eds_get, edsAt, edAV, allLeaf_eds, cleanL_eds, cleanL_ints, ints_length, ints_get, intsAt, endL, finB]
theorem cX8 (N : Nat) (Es : List Ed) {x1 x2 caps : List AV} (q1 : Plain x1) (q2 : Plain x2) (q3 : PlainC caps) (nT : Nat) (after P : List Int) (a b : Nat) (t : Bool) (X : Int) : codeL cfgS 9 (.reg rQRX8 false [] [0, 1, 2, 3, 4, 6, 7, 13]) ⟨cv1 a b t [(12, .int .u64 X), (45, .bool false)], kH N Es x1 x2 nT caps after P⟩ = some (.normal, ⟨cv1 a b t [(13, .int .u64 (a : Int))], kH N Es x1 x2 nT caps after P⟩) := by
 obtain ⟨pm1, pb1, pn1, pc1⟩ := q1
 obtain ⟨pm2, pb2, pn2, pc2⟩ := q2
 obtain ⟨pm3, pb3, po3, pp3, pl3, _⟩ := q3
 try unfold cv0
 try unfold cv1
 unfold kH
 simp [rQRX0, rQRX1, rQRX2, rQRX3, rQRX4, rQRX5, rQRX6, rQRX7, rQRX8, rQRX9, rQRX10, rQRX11, rQRX12, rQRX13, rQRX14, rQRX15, rQRX16, rQRX17, rQRX18, rQRX19, rQRX20, rQRX21, pm1, pb1, pn1, pc1, pm2, pb2, pn2, pc2, pm3, pb3, po3, pp3, pl3, blk, eds_length, eds_get, edsAt, edAV, allLeaf_eds, cleanL_eds, cleanL_ints, ints_length, ints_get, intsAt, endL, finB]
theorem cX9z (N : Nat) (Es : List Ed) {x1 x2 caps : List AV} (q1 : Plain x1) (q2 : Plain x2) (q3 : PlainC caps) (nT : Nat) (after P : List Int) (a b : Nat) (t : Bool)  : codeL cfgS 9 (.reg rQRX9 false [] [0, 1, 2, 3, 4, 6, 7, 13, 60]) ⟨cv1 a b t [(13, .int .u64 ((0 : Nat) : Int))], kH N Es x1 x2 nT caps after P⟩ = some (.normal, ⟨cv1 a b t [(13, .int .u64 ((0 : Nat) : Int)), (60, .bool false)], kH N Es x1 x2 nT caps after P⟩) := by
 obtain ⟨pm1, pb1, pn1, pc1⟩ := q1
 obtain ⟨pm2, pb2, pn2, pc2⟩ := q2
 obtain ⟨pm3, pb3, po3, pp3, pl3, _⟩ := q3
 try unfold cv0
 try unfold cv1
 unfold kH
 simp [rQRX0, rQRX1, rQRX2, rQRX3, rQRX4, rQRX5, rQRX6, rQRX7, rQRX8, rQRX9, rQRX10, rQRX11, rQRX12, rQRX13, rQRX14, rQRX15, rQRX16, rQRX17, rQRX18, rQRX19, rQRX20, rQRX21, pm1, pb1, pn1, pc1, pm2, pb2, pn2, pc2, pm3, pb3, po3, pp3, pl3, blk, eds_length, eds_get, edsAt, edAV, allLeaf_eds, cleanL_eds, cleanL_ints, ints_length, ints_get, intsAt, endL, finB]
theorem cX9 (N : Nat) (Es : List Ed) {x1 x2 caps : List AV} (q1 : Plain x1) (q2 : Plain x2) (q3 : PlainC caps) (nT : Nat) (after P : List Int) (a b : Nat) (t : Bool) {m : Nat} (m0 : m ≠ 0) : codeL cfgS 9 (.reg rQRX9 false [] [0, 1, 2, 3, 4, 6, 7, 13, 60]) ⟨cv1 a b t [(13, .int .u64 (m : Int))], kH N Es x1 x2 nT caps after P⟩ = some (.normal, ⟨cv1 a b t [(13, .int .u64 (m : Int)), (60, .bool true)], kH N Es x1 x2 nT caps after P⟩) := by
 obtain ⟨pm1, pb1, pn1, pc1⟩ := q1
 obtain ⟨pm2, pb2, pn2, pc2⟩ := q2
 obtain ⟨pm3, pb3, po3, pp3, pl3, _⟩ := q3
 have n0 : ¬ ((m : Int) = 0) := by omega
 generalize (m : Int) = X at *
 try unfold cv0
 try unfold cv1
 unfold kH
 simp [rQRX0, rQRX1, rQRX2, rQRX3, rQRX4, rQRX5, rQRX6, rQRX7, rQRX8, rQRX9, rQRX10, rQRX11, rQRX12, rQRX13, rQRX14, rQRX15, rQRX16, rQRX17, rQRX18, rQRX19, rQRX20, rQRX21, n0, pm1, pb1, pn1, pc1, pm2, pb2, pn2, pc2, pm3, pb3, po3, pp3, pl3, blk, eds_length, eds_get, edsAt, edAV, allLeaf_eds, cleanL_eds, cleanL_ints, ints_length, ints_get, intsAt, endL, finB]
theorem cX10 (N : Nat) (Es : List Ed) {x1 x2 caps : List AV} (q1 : Plain x1) (q2 : Plain x2) (q3 : PlainC caps) (nT : Nat) (after P : List Int) (a b : Nat) (t : Bool) {m : Nat} (m0 : m ≠ 0) (hm : m < 18446744073709551616) : codeL cfgS 9 (.reg rQRX10 false [] [0, 1, 2, 3, 4, 6, 7, 13, 14]) ⟨cv1 a b t [(13, .int .u64 (m : Int)), (60, .bool true)], kH N Es x1 x2 nT caps after P⟩ = some (.normal, ⟨cv1 a b t [(13, .int .u64 (m : Int)), (14, .int .i64 (tz m : Nat))], kH N Es x1 x2 nT caps after P⟩) := by
 obtain ⟨pm1, pb1, pn1, pc1⟩ := q1
 obtain ⟨pm2, pb2, pn2, pc2⟩ := q2
 obtain ⟨pm3, pb3, po3, pp3, pl3, _⟩ := q3
 have ht := tz_run m m0 hm
 generalize (m : Int) = X at *
 generalize ((tz m : Nat) : Int) = v at *
 try unfold cv0
 try unfold cv1
 unfold kH
 simp [rQRX0, rQRX1, rQRX2, rQRX3, rQRX4, rQRX5, rQRX6, rQRX7, rQRX8, rQRX9, rQRX10, rQRX11, rQRX12, rQRX13, rQRX14, rQRX15, rQRX16, rQRX17, rQRX18, rQRX19, rQRX20, rQRX21, ht, sQI, iQI, pm1, pb1, pn1, pc1, pm2, pb2, pn2, pc2, pm3, pb3, po3, pp3, pl3, blk, eds_length, eds_get, edsAt, edAV, allLeaf_eds, cleanL_eds, cleanL_ints, ints_length, ints_get, intsAt, endL, finB]
theorem cX11 (N : Nat) (Es : List Ed) {x1 x2 caps : List AV} (q1 : Plain x1) (q2 : Plain x2) (q3 : PlainC caps) (nT : Nat) (after P : List Int) (a b : Nat) (t : Bool) (X v : Int) : codeL cfgS 9 (.reg rQRX11 false [] [0, 1, 2, 3, 4, 6, 7, 13, 14, 15]) ⟨cv1 a b t [(13, .int .u64 X), (14, .int .i64 v)], kH N Es x1 x2 nT caps after P⟩ = some (.normal, ⟨cv1 a b t [(13, .int .u64 X), (14, .int .i64 v), (15, .bool (hereL after P t))], kH N Es x1 x2 nT caps after P⟩) := by
 obtain ⟨pm1, pb1, pn1, pc1⟩ := q1
 obtain ⟨pm2, pb2, pn2, pc2⟩ := q2
 obtain ⟨pm3, pb3, po3, pp3, pl3, _⟩ := q3
 try unfold cv0
 try unfold cv1
 unfold kH
 unfold hereL
 cases t
 ·simp [rQRX0, rQRX1, rQRX2, rQRX3, rQRX4, rQRX5, rQRX6, rQRX7, rQRX8, rQRX9, rQRX10, rQRX11, rQRX12, rQRX13, rQRX14, rQRX15, rQRX16, rQRX17, rQRX18, rQRX19, rQRX20, rQRX21, pm1, pb1, pn1, pc1, pm2, pb2, pn2, pc2, pm3, pb3, po3, pp3, pl3, blk, eds_length, eds_get, edsAt, edAV, allLeaf_eds, cleanL_eds, cleanL_ints, ints_length, ints_get, intsAt, endL, finB]
 ·simp [rQRX0, rQRX1, rQRX2, rQRX3, rQRX4, rQRX5, rQRX6, rQRX7, rQRX8, rQRX9, rQRX10, rQRX11, rQRX12, rQRX13, rQRX14, rQRX15, rQRX16, rQRX17, rQRX18, rQRX19, rQRX20, rQRX21, pm1, pb1, pn1, pc1, pm2, pb2, pn2, pc2, pm3, pb3, po3, pp3, pl3, blk, eds_length, eds_get, edsAt, edAV, allLeaf_eds, cleanL_eds, cleanL_ints, ints_length, ints_get, intsAt, endL, finB]
theorem cX12 (N : Nat) (Es : List Ed) {x1 x2 caps : List AV} (q1 : Plain x1) (q2 : Plain x2) (q3 : PlainC caps) (nT : Nat) (after P : List Int) (a b : Nat) (t : Bool) (hA : after.length < 9223372036854775808) (X v : Int) : codeL cfgS 9 (.reg rQRX12 false [] [0, 1, 2, 3, 4, 6, 7, 13, 14, 15, 84]) ⟨cv1 a b t [(13, .int .u64 X), (14, .int .i64 v), (15, .bool (hereL after P t))], kH N Es x1 x2 nT caps after P⟩ = some (.normal, ⟨cv1 a b t [(13, .int .u64 X), (14, .int .i64 v), (15, .bool (hereL after P t)), (84, .bool (skipL after P t v))], kH N Es x1 x2 nT caps after P⟩) := by
 obtain ⟨pm1, pb1, pn1, pc1⟩ := q1
 obtain ⟨pm2, pb2, pn2, pc2⟩ := q2
 obtain ⟨pm3, pb3, po3, pp3, pl3, _⟩ := q3
 try unfold cv0
 try unfold cv1
 unfold kH
 unfold skipL
 by_cases k : hereL after P t = true
 ·have k2 : P.length < after.length := by
   simp only [hereL, Bool.and_eq_true, decide_eq_true_eq] at k; exact k.2
  obtain ⟨j1, j2⟩ := aft_at k2 hA
  have j2' : ∀ h : P.length < (ints after).length, (ints after)[P.length] = .int .i64 (after.getD P.length 0) := fun h => by rw [List.getElem?_eq_getElem h] at j2; exact Option.some.inj j2
  generalize after.getD P.length 0 = w at *
  rw [k]
  simp [rQRX0, rQRX1, rQRX2, rQRX3, rQRX4, rQRX5, rQRX6, rQRX7, rQRX8, rQRX9, rQRX10, rQRX11, rQRX12, rQRX13, rQRX14, rQRX15, rQRX16, rQRX17, rQRX18, rQRX19, rQRX20, rQRX21, j1, j2, j2', beqI, pm1, pb1, pn1, pc1, pm2, pb2, pn2, pc2, pm3, pb3, po3, pp3, pl3, blk, eds_length, eds_get, edsAt, edAV, allLeaf_eds, cleanL_eds, cleanL_ints, ints_length, ints_get, intsAt, endL, finB]
 ·have k : hereL after P t = false := by simpa using k
  rw [k]
  simp [rQRX0, rQRX1, rQRX2, rQRX3, rQRX4, rQRX5, rQRX6, rQRX7, rQRX8, rQRX9, rQRX10, rQRX11, rQRX12, rQRX13, rQRX14, rQRX15, rQRX16, rQRX17, rQRX18, rQRX19, rQRX20, rQRX21, pm1, pb1, pn1, pc1, pm2, pb2, pn2, pc2, pm3, pb3, po3, pp3, pl3, blk, eds_length, eds_get, edsAt, edAV, allLeaf_eds, cleanL_eds, cleanL_ints, ints_length, ints_get, intsAt, endL, finB]
theorem cX13 (N : Nat) (Es : List Ed) {x1 x2 caps : List AV} (q1 : Plain x1) (q2 : Plain x2) (q3 : PlainC caps) (nT : Nat) (after P : List Int) (a b : Nat) (t : Bool) (hA : after.length < 9223372036854775808) (X v : Int) : codeL cfgS 9 (.reg rQRX13 false [] [0, 1, 2, 3, 4, 6, 7, 13, 14, 15]) ⟨cv1 a b t [(13, .int .u64 X), (14, .int .i64 v), (15, .bool (hereL after P t)), (84, .bool false)], kH N Es x1 x2 nT caps after P⟩ = some (.normal, ⟨cv1 a b t [(13, .int .u64 X), (14, .int .i64 v), (15, .bool (onL after P t v))], kH N Es x1 x2 nT caps after P⟩) := by
 obtain ⟨pm1, pb1, pn1, pc1⟩ := q1
 obtain ⟨pm2, pb2, pn2, pc2⟩ := q2
 obtain ⟨pm3, pb3, po3, pp3, pl3, _⟩ := q3
 try unfold cv0
 try unfold cv1
 unfold kH
 unfold onL
 by_cases k : hereL after P t = true
 ·have k2 : P.length < after.length := by
   simp only [hereL, Bool.and_eq_true, decide_eq_true_eq] at k; exact k.2
  obtain ⟨j1, j2⟩ := aft_at k2 hA
  have j2' : ∀ h : P.length < (ints after).length, (ints after)[P.length] = .int .i64 (after.getD P.length 0) := fun h => by rw [List.getElem?_eq_getElem h] at j2; exact Option.some.inj j2
  generalize after.getD P.length 0 = w at *
  rw [k]
  simp [rQRX0, rQRX1, rQRX2, rQRX3, rQRX4, rQRX5, rQRX6, rQRX7, rQRX8, rQRX9, rQRX10, rQRX11, rQRX12, rQRX13, rQRX14, rQRX15, rQRX16, rQRX17, rQRX18, rQRX19, rQRX20, rQRX21, j1, j2, j2', beqI, pm1, pb1, pn1, pc1, pm2, pb2, pn2, pc2, pm3, pb3, po3, pp3, pl3, blk, eds_length, eds_get, edsAt, edAV, allLeaf_eds, cleanL_eds, cleanL_ints, ints_length, ints_get, intsAt, endL, finB]
 ·have k : hereL after P t = false := by simpa using k
  rw [k]
  simp [rQRX0, rQRX1, rQRX2, rQRX3, rQRX4, rQRX5, rQRX6, rQRX7, rQRX8, rQRX9, rQRX10, rQRX11, rQRX12, rQRX13, rQRX14, rQRX15, rQRX16, rQRX17, rQRX18, rQRX19, rQRX20, rQRX21, pm1, pb1, pn1, pc1, pm2, pb2, pn2, pc2, pm3, pb3, po3, pp3, pl3, blk, eds_length, eds_get, edsAt, edAV, allLeaf_eds, cleanL_eds, cleanL_ints, ints_length, ints_get, intsAt, endL, finB]
theorem cX14 (N : Nat) (Es : List Ed) {x1 x2 caps : List AV} (q1 : Plain x1) (q2 : Plain x2) (q3 : PlainC caps) (nT : Nat) (after P : List Int) (a b : Nat) (t : Bool) (hl : P.length < 4294967295) (X v : Int) (c : Bool) : codeL cfgS 9 (.reg rQRX14 false [] [0, 1, 2, 3, 4, 6, 7, 13, 14, 15]) ⟨cv1 a b t [(13, .int .u64 X), (14, .int .i64 v), (15, .bool c)], kH N Es x1 x2 nT caps after P⟩ = some (.normal, ⟨cv1 a b t [(13, .int .u64 X), (14, .int .i64 v), (15, .bool c)], kH N Es x1 x2 nT caps after (P ++ [v])⟩) := by
 obtain ⟨pm1, pb1, pn1, pc1⟩ := q1
 obtain ⟨pm2, pb2, pn2, pc2⟩ := q2
 obtain ⟨pm3, pb3, po3, pp3, pl3, _⟩ := q3
 have h1 : P.length + 1 <= 4294967296 := by omega
 try unfold cv0
 try unfold cv1
 unfold kH
 simp [rQRX0, rQRX1, rQRX2, rQRX3, rQRX4, rQRX5, rQRX6, rQRX7, rQRX8, rQRX9, rQRX10, rQRX11, rQRX12, rQRX13, rQRX14, rQRX15, rQRX16, rQRX17, rQRX18, rQRX19, rQRX20, rQRX21, h1, LIM, ints_snoc, ints_take, pm1, pb1, pn1, pc1, pm2, pb2, pn2, pc2, pm3, pb3, po3, pp3, pl3, blk, eds_length, eds_get, edsAt, edAV, allLeaf_eds, cleanL_eds, cleanL_ints, ints_length, ints_get, intsAt, endL, finB]
theorem cX15 (N : Nat) (Es : List Ed) {x1 x2 caps : List AV} (q1 : Plain x1) (q2 : Plain x2) (q3 : PlainC caps) (nT : Nat) (after P : List Int) (a b : Nat) (t : Bool) (X : Int) {v : Int} (v0 : 0 <= v) (v1 : v < 64) (c : Bool) : codeL cfgS 9 (.reg rQRX15 false [] [0, 1, 2, 3, 4, 6, 7, 13, 14, 15, 16]) ⟨cv1 a b t [(13, .int .u64 X), (14, .int .i64 v), (15, .bool c)], kH N Es x1 x2 nT caps after P⟩ = some (.normal, ⟨cv1 a b t [(13, .int .u64 X), (14, .int .i64 v), (15, .bool c), (16, .int .u64 ((2 ^ v.toNat - 1 : Nat) : Int))], kH N Es x1 x2 nT caps after P⟩) := by
 obtain ⟨pm1, pb1, pn1, pc1⟩ := q1
 obtain ⟨pm2, pb2, pn2, pc2⟩ := q2
 obtain ⟨pm3, pb3, po3, pp3, pl3, _⟩ := q3
 have v0' : ¬ v < 0 := by omega
 have s1 := shlU v0 v1
 have s1' : IntKind.u64.wrap (2 ^ (min v.toNat 64)) = ((2 ^ v.toNat : Nat) : Int) := by rw [<- s1, Int.one_mul]
 have s2 := decU (m := 2 ^ v.toNat) (by have := Nat.two_pow_pos v.toNat; omega) (pow_lt64 v1 v0)
 generalize ((2 ^ v.toNat - 1 : Nat) : Int) = p1 at *
 generalize ((2 ^ v.toNat : Nat) : Int) = p at *
 try unfold cv0
 try unfold cv1
 unfold kH
 simp [rQRX0, rQRX1, rQRX2, rQRX3, rQRX4, rQRX5, rQRX6, rQRX7, rQRX8, rQRX9, rQRX10, rQRX11, rQRX12, rQRX13, rQRX14, rQRX15, rQRX16, rQRX17, rQRX18, rQRX19, rQRX20, rQRX21, v0', s1, s1', s2, IntKind.bits, pm1, pb1, pn1, pc1, pm2, pb2, pn2, pc2, pm3, pb3, po3, pp3, pl3, blk, eds_length, eds_get, edsAt, edAV, allLeaf_eds, cleanL_eds, cleanL_ints, ints_length, ints_get, intsAt, endL, finB]
def kA (a b : Nat) (t : Bool) : List AV := [.int .u64 (a : Nat), .int .u64 (b : Nat), .bool t, .ptr 7 0, .ptr 4 0, .ptr 5 0, .ptr 6 0, .ptr 8 0]
theorem cX16 {N : Nat} {Es : List Ed} (h : GOK (N : Int) Es) {x1 x2 caps : List AV} (q1 : Plain x1) (q2 : Plain x2) (q3 : PlainC caps) (nT : Nat) (after P : List Int) {a : Nat} (ha : a < 18446744073709551616) (b : Nat) (t : Bool) (hb : b < 18446744073709551616) {x3 : List AV} (q4 : Plain x3) (X : Int) {v : Int} (hv : 0 <= v /\ v < (N : Int)) (c g : Bool) {a2 b2 : Nat} (ea : a2 = (a &&& (adjE N Es).getD v.toNat 0) &&& (18446744073709551615 - (2 ^ v.toNat - 1))) (eb : b2 = (b ||| (a &&& (2 ^ v.toNat - 1))) &&& (adjE N Es).getD v.toNat 0) (hin : callL cfgS nQR (kA a2 b2 c) (kH N Es x1 x2 nT caps after P) = some (.bool g, kH N Es x1 x3 nT caps after P)) : codeL cfgS 9 (.reg rQRX16 true [(20, 20), (21, 21), (0, 1), (0, 2), (1, 2), (0, 3), (2, 3), (0, 4), (0, 5), (1, 5), (0, 6), (0, 7), (2, 7), (5, 7), (0, 8), (0, 9), (2, 9), (5, 9), (0, 10), (2, 10), (5, 10), (0, 11), (2, 11), (5, 11), (0, 12), (2, 12), (5, 12), (0, 13), (2, 13), (5, 13), (0, 14), (1, 14), (2, 14), (3, 14), (4, 14), (5, 14), (6, 14), (7, 14), (8, 14), (9, 14), (10, 14), (11, 14), (12, 14), (13, 14), (0, 15), (2, 15), (5, 15), (14, 15), (0, 16), (2, 16), (5, 16), (0, 17), (1, 17), (2, 17), (3, 17), (4, 17), (5, 17), (6, 17), (7, 17), (8, 17), (9, 17), (10, 17), (11, 17), (12, 17), (13, 17), (0, 18), (2, 18), (5, 18), (0, 19), (2, 19), (5, 19), (14, 19), (17, 19)] [0, 1, 2, 3, 4, 6, 7, 13, 17]) ⟨cv1 a b t [(13, .int .u64 X), (14, .int .i64 v), (15, .bool c), (16, .int .u64 ((2 ^ v.toNat - 1 : Nat) : Int))], kH N Es x1 x2 nT caps after P⟩ = some (.normal, ⟨cv1 a b t [(13, .int .u64 X), (17, .bool g)], kH N Es x1 x3 nT caps after P⟩) := by
 obtain ⟨pm1, pb1, pn1, pc1⟩ := q1
 obtain ⟨pm2, pb2, pn2, pc2⟩ := q2
 obtain ⟨pm3, pb3, po3, pp3, pl3, _⟩ := q3
 obtain ⟨pm4, pb4, pn4, pc4⟩ := q4
 obtain ⟨i1, i2⟩ := row_k h hv
 have ra := getD_lt (gadj h).2.1 v.toNat
 have el := us_length (adjE N Es)
 have i2' : ∀ h : v.toNat < (us (adjE N Es)).length, (us (adjE N Es))[v.toNat] = .int .u64 ((adjE N Es).getD v.toNat 0 : Nat) := fun h => by rw [List.getElem?_eq_getElem h] at i2; exact Option.some.inj i2
 have hn := gok_n h
 have p2 := pow_lt64 (v := v) (by omega) hv.1
 have w1 := u64_and_nat a ((adjE N Es).getD v.toNat 0) ha ra
 have w2 := u64_andNot_nat (a &&& (adjE N Es).getD v.toNat 0) (2 ^ v.toNat - 1) (Nat.lt_of_le_of_lt Nat.and_le_left ha) (by omega)
 have w3 := u64_and_nat a (2 ^ v.toNat - 1) ha (by omega)
 have w4 := u64_or_nat b (a &&& (2 ^ v.toNat - 1)) hb (Nat.lt_of_le_of_lt Nat.and_le_left ha)
 have w5 := u64_and_nat (b ||| (a &&& (2 ^ v.toNat - 1))) ((adjE N Es).getD v.toNat 0) (Nat.or_lt_two_pow (n := 64) hb (Nat.lt_of_le_of_lt Nat.and_le_left ha)) ra
 rw [<- ea] at w2
 rw [<- eb] at w5
 unfold kA at hin
 unfold cv1
 unfold kH at hin ⊢
 clear ea eb p2
 generalize ((b ||| (a &&& (2 ^ v.toNat - 1)) : Nat) : Int) = u1 at *
 generalize ((a &&& (2 ^ v.toNat - 1) : Nat) : Int) = u2 at *
 generalize ((a &&& (adjE N Es).getD v.toNat 0 : Nat) : Int) = u3 at *
 generalize ((2 ^ v.toNat - 1 : Nat) : Int) = u4 at *
 generalize (((adjE N Es).getD v.toNat 0 : Nat) : Int) = u5 at *
 generalize (a2 : Int) = u6 at *
 generalize (b2 : Int) = u7 at *
 generalize us (adjE N Es) = A at *
 simp [rQRX0, rQRX1, rQRX2, rQRX3, rQRX4, rQRX5, rQRX6, rQRX7, rQRX8, rQRX9, rQRX10, rQRX11, rQRX12, rQRX13, rQRX14, rQRX15, rQRX16, rQRX17, rQRX18, rQRX19, rQRX20, rQRX21, i1, i2, i2', el, w1, w2, w3, w4, w5, hin, plp, plpL, allB, notBox, swC, seesC, inBox, sQR, iQR, pm1, pb1, pn1, pc1, pm2, pb2, pn2, pc2, pm3, pb3, po3, pp3, pl3, pm4, pb4, pn4, pc4, blk, eds_length, eds_get, edsAt, edAV, allLeaf_eds, cleanL_eds, cleanL_ints, ints_length, ints_get, intsAt, endL, finB]
theorem cX17 (N : Nat) (Es : List Ed) {x1 x2 caps : List AV} (q1 : Plain x1) (q2 : Plain x2) (q3 : PlainC caps) (nT : Nat) (after P : List Int) (a b : Nat) (t : Bool) (hl : P.length < 4294967295) (X v : Int) (g : Bool) : codeL cfgS 9 (.reg rQRX17 false [] [0, 1, 2, 3, 4, 6, 7, 13, 17]) ⟨cv1 a b t [(13, .int .u64 X), (17, .bool g)], kH N Es x1 x2 nT caps after (P ++ [v])⟩ = some (.normal, ⟨cv1 a b t [(13, .int .u64 X), (17, .bool g)], kH N Es x1 x2 nT caps after P⟩) := by
 obtain ⟨pm1, pb1, pn1, pc1⟩ := q1
 obtain ⟨pm2, pb2, pn2, pc2⟩ := q2
 obtain ⟨pm3, pb3, po3, pp3, pl3, _⟩ := q3
 have w1 : IntKind.i64.wrap ((P.length : Int) + 1 - 1) = P.length := by rw [wrap_id (by omega) (by omega)]; omega
 have w2 := wrapN (i := P.length) (by omega)
 have le1 : (P.length : Int) <= P.length + 1 := by omega
 have nleK : ∀ n : Nat, (n + 1 <= n) = False := fun n => by simp
 have tk : (ints (P ++ [v])).take P.length = ints P := by rw [ints_take]; simp
 have ln : (ints (P ++ [v])).length = P.length + 1 := by simp [ints]
 try unfold cv0
 try unfold cv1
 unfold kH
 simp [rQRX0, rQRX1, rQRX2, rQRX3, rQRX4, rQRX5, rQRX6, rQRX7, rQRX8, rQRX9, rQRX10, rQRX11, rQRX12, rQRX13, rQRX14, rQRX15, rQRX16, rQRX17, rQRX18, rQRX19, rQRX20, rQRX21, w1, w2, tk, ln, le1, nleK, relB, handBox, mvBB, mvRtB, pm1, pb1, pn1, pc1, pm2, pb2, pn2, pc2, pm3, pb3, po3, pp3, pl3, blk, eds_length, eds_get, edsAt, edAV, allLeaf_eds, cleanL_eds, cleanL_ints, ints_length, ints_get, intsAt, endL, finB]
theorem cX18 (N : Nat) (Es : List Ed) {x1 x2 caps : List AV} (q1 : Plain x1) (q2 : Plain x2) (q3 : PlainC caps) (nT : Nat) (after P : List Int) (a b : Nat) (t : Bool) (X : Int) (g : Bool) : codeL cfgS 9 (.reg rQRX18 false [] [0, 1, 2, 3, 4, 6, 7, 13, 129]) ⟨cv1 a b t [(13, .int .u64 X), (17, .bool g)], kH N Es x1 x2 nT caps after P⟩ = some (.normal, ⟨cv1 a b t [(13, .int .u64 X), (129, .bool (!g))], kH N Es x1 x2 nT caps after P⟩) := by
 obtain ⟨pm1, pb1, pn1, pc1⟩ := q1
 obtain ⟨pm2, pb2, pn2, pc2⟩ := q2
 obtain ⟨pm3, pb3, po3, pp3, pl3, _⟩ := q3
 try unfold cv0
 try unfold cv1
 unfold kH
 cases g <;> simp [rQRX0, rQRX1, rQRX2, rQRX3, rQRX4, rQRX5, rQRX6, rQRX7, rQRX8, rQRX9, rQRX10, rQRX11, rQRX12, rQRX13, rQRX14, rQRX15, rQRX16, rQRX17, rQRX18, rQRX19, rQRX20, rQRX21, pm1, pb1, pn1, pc1, pm2, pb2, pn2, pc2, pm3, pb3, po3, pp3, pl3, blk, eds_length, eds_get, edsAt, edAV, allLeaf_eds, cleanL_eds, cleanL_ints, ints_length, ints_get, intsAt, endL, finB]
theorem cX19 (N : Nat) (Es : List Ed) {x1 x2 caps : List AV} (q1 : Plain x1) (q2 : Plain x2) (q3 : PlainC caps) (nT : Nat) (after P : List Int) (a b : Nat) (t : Bool) (X : Int) : codeL cfgS 9 (.reg rQRX19 false [] [11]) ⟨cv1 a b t [(13, .int .u64 X), (129, .bool true)], kH N Es x1 x2 nT caps after P⟩ = some (.normal, ⟨[(11, .bool false)], kH N Es x1 x2 nT caps after P⟩) := by
 obtain ⟨pm1, pb1, pn1, pc1⟩ := q1
 obtain ⟨pm2, pb2, pn2, pc2⟩ := q2
 obtain ⟨pm3, pb3, po3, pp3, pl3, _⟩ := q3
 try unfold cv0
 try unfold cv1
 unfold kH
 simp [rQRX0, rQRX1, rQRX2, rQRX3, rQRX4, rQRX5, rQRX6, rQRX7, rQRX8, rQRX9, rQRX10, rQRX11, rQRX12, rQRX13, rQRX14, rQRX15, rQRX16, rQRX17, rQRX18, rQRX19, rQRX20, rQRX21, pm1, pb1, pn1, pc1, pm2, pb2, pn2, pc2, pm3, pb3, po3, pp3, pl3, blk, eds_length, eds_get, edsAt, edAV, allLeaf_eds, cleanL_eds, cleanL_ints, ints_length, ints_get, intsAt, endL, finB]
theorem cX20 (N : Nat) (Es : List Ed) {x1 x2 caps : List AV} (q1 : Plain x1) (q2 : Plain x2) (q3 : PlainC caps) (nT : Nat) (after P : List Int) (a b : Nat) (t : Bool) {m : Nat} (m0 : m ≠ 0) (hm : m < 18446744073709551616) (x : Env) (hx : x = [(129, .bool false)] \/ ∃ v c, x = [(14, .int .i64 v), (15, .bool c), (84, .bool true)]) : codeL cfgS 9 (.reg rQRX20 false [] [0, 1, 2, 3, 4, 6, 7, 13]) ⟨cv1 a b t ((13, .int .u64 (m : Int)) :: x), kH N Es x1 x2 nT caps after P⟩ = some (.normal, ⟨cv1 a b t [(13, .int .u64 ((m &&& (m - 1) : Nat) : Int))], kH N Es x1 x2 nT caps after P⟩) := by
 obtain ⟨pm1, pb1, pn1, pc1⟩ := q1
 obtain ⟨pm2, pb2, pn2, pc2⟩ := q2
 obtain ⟨pm3, pb3, po3, pp3, pl3, _⟩ := q3
 have w1 := decU m0 hm
 have w2 := u64_and_nat m (m - 1) hm (by omega)
 generalize ((m &&& (m - 1) : Nat) : Int) = q at *
 generalize ((m - 1 : Nat) : Int) = p at *
 generalize (m : Int) = Y at *
 unfold cv1 kH
 rcases hx with rfl | ⟨v, c, rfl⟩
 ·simp [rQRX0, rQRX1, rQRX2, rQRX3, rQRX4, rQRX5, rQRX6, rQRX7, rQRX8, rQRX9, rQRX10, rQRX11, rQRX12, rQRX13, rQRX14, rQRX15, rQRX16, rQRX17, rQRX18, rQRX19, rQRX20, rQRX21, w1, w2, pm1, pb1, pn1, pc1, pm2, pb2, pn2, pc2, pm3, pb3, po3, pp3, pl3, blk, eds_length, eds_get, edsAt, edAV, allLeaf_eds, cleanL_eds, cleanL_ints, ints_length, ints_get, intsAt, endL, finB]
 ·simp [rQRX0, rQRX1, rQRX2, rQRX3, rQRX4, rQRX5, rQRX6, rQRX7, rQRX8, rQRX9, rQRX10, rQRX11, rQRX12, rQRX13, rQRX14, rQRX15, rQRX16, rQRX17, rQRX18, rQRX19, rQRX20, rQRX21, w1, w2, pm1, pb1, pn1, pc1, pm2, pb2, pn2, pc2, pm3, pb3, po3, pp3, pl3, blk, eds_length, eds_get, edsAt, edAV, allLeaf_eds, cleanL_eds, cleanL_ints, ints_length, ints_get, intsAt, endL, finB]
theorem cX21 (N : Nat) (Es : List Ed) {x1 x2 caps : List AV} (q1 : Plain x1) (q2 : Plain x2) (q3 : PlainC caps) (nT : Nat) (after P : List Int) (a b : Nat) (t : Bool) (X : Int) : codeL cfgS 9 (.reg rQRX21 false [] [11]) ⟨cv1 a b t [(13, .int .u64 X), (60, .bool false)], kH N Es x1 x2 nT caps after P⟩ = some (.normal, ⟨[(11, .bool true)], kH N Es x1 x2 nT caps after P⟩) := by
 obtain ⟨pm1, pb1, pn1, pc1⟩ := q1
 obtain ⟨pm2, pb2, pn2, pc2⟩ := q2
 obtain ⟨pm3, pb3, po3, pp3, pl3, _⟩ := q3
 try unfold cv0
 try unfold cv1
 unfold kH
 simp [rQRX0, rQRX1, rQRX2, rQRX3, rQRX4, rQRX5, rQRX6, rQRX7, rQRX8, rQRX9, rQRX10, rQRX11, rQRX12, rQRX13, rQRX14, rQRX15, rQRX16, rQRX17, rQRX18, rQRX19, rQRX20, rQRX21, pm1, pb1, pn1, pc1, pm2, pb2, pn2, pc2, pm3, pb3, po3, pp3, pl3, blk, eds_length, eds_get, edsAt, edAV, allLeaf_eds, cleanL_eds, cleanL_ints, ints_length, ints_get, intsAt, endL, finB]
theorem cEnd (N : Nat) (Es : List Ed) {x1 x2 caps : List AV} (q1 : Plain x1) (q2 : Plain x2) (q3 : PlainC caps) (nT : Nat) (after P : List Int) (g : Bool) : endL cfgS ⟨true, false, false⟩ qQR 9 (some (.ret, ⟨[(11, .bool g)], kH N Es x1 x2 nT caps after P⟩)) = some (.bool g, kH N Es x1 x2 nT caps after P) := by
 obtain ⟨pm1, pb1, pn1, pc1⟩ := q1
 obtain ⟨pm2, pb2, pn2, pc2⟩ := q2
 obtain ⟨pm3, pb3, po3, pp3, pl3, _⟩ := q3
 unfold kH qQR
 simp [rQRX0, rQRX1, rQRX2, rQRX3, rQRX4, rQRX5, rQRX6, rQRX7, rQRX8, rQRX9, rQRX10, rQRX11, rQRX12, rQRX13, rQRX14, rQRX15, rQRX16, rQRX17, rQRX18, rQRX19, rQRX20, rQRX21, finS, plp, plpL, swS, mapH, mapBL, mapB, pm1, pb1, pn1, pc1, pm2, pb2, pn2, pc2, pm3, pb3, po3, pp3, pl3, blk, eds_length, eds_get, edsAt, edAV, allLeaf_eds, cleanL_eds, cleanL_ints, ints_length, ints_get, intsAt, endL, finB]
end Go.BmP
