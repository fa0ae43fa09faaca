/- The walk of biclique: what each hands out, in order. -/
import Derived.Test.YtikffbngaolphaaDoorG16
set_option linter.unusedSimpArgs false
set_option linter.unusedVariables false
set_option maxRecDepth 100000
set_option maxHeartbeats 8000000
namespace Go.BmP
open Go.Am Go.Bm
theorem get_ev (r : Nat) (t : Bool) (x : Env) (i : Nat) (h : 6 < i) : opnd cfgS (ev r t x) (.t i) = lend i (Am.get x i) := by
  unfold ev opnd
  have h0 : i ≠ 0 := by omega
  have h1 : i ≠ 1 := by omega
  have h2 : i ≠ 2 := by omega
  have h3 : i ≠ 3 := by omega
  have h4 : i ≠ 4 := by omega
  have h5 : i ≠ 5 := by omega
  have h6 : i ≠ 6 := by omega
  simp only [get_cons', if_neg h0, if_neg h1, if_neg h2, if_neg h3, if_neg h4, if_neg h5, if_neg h6]
section
attribute [local simp] codeL_seq codeL_reg codeL_blk codeL_skip codeL_ret codeL_exit codeL_cnd condL_b thenL_n thenL_e thenL_r blkL_n blkL_e blkL_r regL_s opsB stepB opB opP opnd opnds lend lendC get_nil' get_cons' put_nil' put_cons' mem_nil' mem_cons' putdB putB slowP hasOwn hasOwnL finO relab anyB anyE anyH anyR borOf borL inSlot HAND endR hasOwnE endK keepIn trim noPtr noPtrL noPtrE noPtrH binA arith unA eqB isNilB eqc lenB bndB bnd rdN rdc AV.cells fillB peek ldOK AV.leaf allLeaf fz pl plL drawB allCW cwF okDrawB okPair Fq.ok dstOff wrOff notSlot noneIn apartR oldBoxes O.reads Kd.reads E.slot slots slotO slotsP List.getD pairIn nilL okRes clean cleanL resV resVs tupOf mkEnv partsBor doCallB inpB getArgs doCallO frzA frzV frzL minA minF cont ownAt at_ setAt rel dropS relC dropAll frzP frzAll firstBor borIn borC borS borE borH handTo mapSt mapE mapH mapB mapBL sw rt fb mvB mvRt seesP inRt isRoot rootOf boxOf seesB rootsL Am.rep ovw flatCells_ints allLeaf_ints flatCells el grp updE isNilB inpV inpL stB okL unA orcA bndB plL_ints fzL stBox inCells wrap0 wrap1 wrapm1 take_snoc
theorem eX11 (N : Nat) (Es : List Ed) (L : List Int) {x1 x2 caps : List AV} (q1 : Plain x1) (q2 : Plain x2) (q3 : PlainC caps) (nT : Nat) (after : List Int) (P : List Int) (r : Nat) (t : Bool) (X : Int) : codeL cfgS 8 (.reg rBicliqueSidesEach1X11 false [] [9]) ⟨ev r t [(10, .int .u64 X), (137, .bool true)], eH N Es L x1 x2 nT caps after P⟩ = some (.normal, ⟨[(9, .bool false)], eH N Es L x1 x2 nT caps after P⟩) := by
  obtain ⟨pm1, pb1, pn1, pc1⟩ := q1
  obtain ⟨pm2, pb2, pn2, pc2⟩ := q2
  obtain ⟨pm3, pb3, po3, pp3, pl3, _⟩ := q3
  unfold ev eH sdAV
  simp [rBicliqueSidesEach1X0, rBicliqueSidesEach1X1, rBicliqueSidesEach1X2, rBicliqueSidesEach1X3, rBicliqueSidesEach1X4, rBicliqueSidesEach1X5, rBicliqueSidesEach1X6, rBicliqueSidesEach1X7, rBicliqueSidesEach1X8, rBicliqueSidesEach1X9, rBicliqueSidesEach1X10, rBicliqueSidesEach1X11, rBicliqueSidesEach1X12, rBicliqueSidesEach1X13, rBicliqueSidesEach1X14, pm1, pb1, pn1, pc1, pm2, pb2, pn2, pc2, pm3, pb3, po3, pp3, pl3, blk, eds_length, eds_get, edsAt, edAV, allLeaf_eds, cleanL_eds, cleanL_ints, ints_length, ints_get, intsAt, endL, finB]
theorem eX14 (N : Nat) (Es : List Ed) (L : List Int) {x1 x2 caps : List AV} (q1 : Plain x1) (q2 : Plain x2) (q3 : PlainC caps) (nT : Nat) (after : List Int) (P : List Int) (r : Nat) (t : Bool) (X : Int) : codeL cfgS 8 (.reg rBicliqueSidesEach1X14 false [] [9]) ⟨ev r t [(10, .int .u64 X), (21, .bool false)], eH N Es L x1 x2 nT caps after P⟩ = some (.normal, ⟨[(9, .bool true)], eH N Es L x1 x2 nT caps after P⟩) := by
  obtain ⟨pm1, pb1, pn1, pc1⟩ := q1
  obtain ⟨pm2, pb2, pn2, pc2⟩ := q2
  obtain ⟨pm3, pb3, po3, pp3, pl3, _⟩ := q3
  unfold ev eH sdAV
  simp [rBicliqueSidesEach1X0, rBicliqueSidesEach1X1, rBicliqueSidesEach1X2, rBicliqueSidesEach1X3, rBicliqueSidesEach1X4, rBicliqueSidesEach1X5, rBicliqueSidesEach1X6, rBicliqueSidesEach1X7, rBicliqueSidesEach1X8, rBicliqueSidesEach1X9, rBicliqueSidesEach1X10, rBicliqueSidesEach1X11, rBicliqueSidesEach1X12, rBicliqueSidesEach1X13, rBicliqueSidesEach1X14, pm1, pb1, pn1, pc1, pm2, pb2, pn2, pc2, pm3, pb3, po3, pp3, pl3, blk, eds_length, eds_get, edsAt, edAV, allLeaf_eds, cleanL_eds, cleanL_ints, ints_length, ints_get, intsAt, endL, finB]
theorem eEnd (N : Nat) (Es : List Ed) (L : List Int) {x1 x2 caps : List AV} (q1 : Plain x1) (q2 : Plain x2) (q3 : PlainC caps) (nT : Nat) (after : List Int) (P : List Int) (b : Bool) : endL cfgS ⟨true, false, false⟩ qBicliqueSidesEach1 8 (some (.ret, ⟨[(9, .bool b)], eH N Es L x1 x2 nT caps after P⟩)) = some (.bool b, eH N Es L x1 x2 nT caps after P) := by
  obtain ⟨pm1, pb1, pn1, pc1⟩ := q1
  obtain ⟨pm2, pb2, pn2, pc2⟩ := q2
  obtain ⟨pm3, pb3, po3, pp3, pl3, _⟩ := q3
  unfold eH sdAV qBicliqueSidesEach1
  simp [rBicliqueSidesEach1X0, rBicliqueSidesEach1X1, rBicliqueSidesEach1X2, rBicliqueSidesEach1X3, rBicliqueSidesEach1X4, rBicliqueSidesEach1X5, rBicliqueSidesEach1X6, rBicliqueSidesEach1X7, rBicliqueSidesEach1X8, rBicliqueSidesEach1X9, rBicliqueSidesEach1X10, rBicliqueSidesEach1X11, rBicliqueSidesEach1X12, rBicliqueSidesEach1X13, rBicliqueSidesEach1X14, finS, plp, plpL, swS, mapH, mapBL, mapB, pm1, pb1, pn1, pc1, pm2, pb2, pn2, pc2, pm3, pb3, po3, pp3, pl3, blk, eds_length, eds_get, edsAt, edAV, allLeaf_eds, cleanL_eds, cleanL_ints, ints_length, ints_get, intsAt, endL, finB]
end
section
variable {N : Nat} {Es : List Ed} {L : List Int} (h : BOK N Es L) {x1 caps : List AV} {nT : Nat} {after : List Int} {σ : Type} {X2 : σ → List AV} {tk : σ → List Int → σ × Bool} {Inv : σ → Prop} (hT : TakeOK N Es L after x1 nT caps X2 tk Inv)
/-- How the loop ends. -/
def LoopE {σ : Type} (N : Nat) (Es : List Ed) (L : List Int) (x1 : List AV) (nT : Nat) (caps : List AV) (after : List Int) (X2 : σ → List AV) (Inv : σ → Prop) (R : σ × Bool) (P : List Int) (t : Bool) (z : Option (Ex × St)) : Prop :=
  (R.2 = true → z = some (.exit 0, ⟨ev (cR N Es L P) t [(10, .int .u64 ((0 : Nat) : Int)), (21, .bool false)], eH N Es L x1 (X2 R.1) nT caps after P⟩) ∧ Inv R.1) ∧ (R.2 = false → ∃ P2, z = some (.ret, ⟨[(9, .bool false)], eH N Es L x1 (X2 R.1) nT caps after P2⟩))
def CallE {σ : Type} (N : Nat) (Es : List Ed) (L : List Int) (x1 : List AV) (nT : Nat) (caps : List AV) (after : List Int) (X2 : σ → List AV) (Inv : σ → Prop) (R : σ × Bool) (P : List Int) (z : Option (AV × Heap)) : Prop :=
  (R.2 = true → z = some (.bool true, eH N Es L x1 (X2 R.1) nT caps after P) ∧ Inv R.1) ∧ (R.2 = false → ∃ P2, z = some (.bool false, eH N Es L x1 (X2 R.1) nT caps after P2))
include h hT in
theorem call_of (s : σ) {P : List Int} (hP : ∀ v ∈ P, 0 ≤ v ∧ v < 64) (hl : P.length < 4294967295) (t : Bool) (R : σ × Bool) (hL : LoopE N Es L x1 nT caps after X2 Inv R P t (codeL cfgS 8 (.loop lBicliqueSidesEach1X0) ⟨ev (cR N Es L P) t [(10, .int .u64 ((msk L &&& (18446744073709551615 - bh P) : Nat) : Int))], eH N Es L x1 (X2 s) nT caps after P⟩)) : CallE N Es L x1 nT caps after X2 Inv R P (callL cfgS nBicliqueSidesEach1 (eA (cR N Es L P) t) (eH N Es L x1 (X2 s) nT caps after P)) := by
  rw [callL_end oBicliqueSidesEach1 sBicliqueSidesEach1 (Nat.le_of_ble_eq_true rfl)]
  have e1 : codeL cfgS (eH N Es L x1 (X2 s) nT caps after P).length qBicliqueSidesEach1.body ⟨mkEnv 0 (eA (cR N Es L P) t), eH N Es L x1 (X2 s) nT caps after P⟩ = thenL cfgS 8 (.seq (.reg rBicliqueSidesEach1X14 false [] [9]) .ret) (blkL 0 (codeL cfgS 8 (.loop lBicliqueSidesEach1X0) ⟨ev (cR N Es L P) t [(10, .int .u64 ((msk L &&& (18446744073709551615 - bh P) : Nat) : Int))], eH N Es L x1 (X2 s) nT caps after P⟩)) := by
    show codeL cfgS 8 cBicliqueSidesEach1 ⟨ev (cR N Es L P) t [], eH N Es L x1 (X2 s) nT caps after P⟩ = _
    unfold cBicliqueSidesEach1
    rw [codeL_seq, eX0 N Es L hT.px1 (hT.px2 _) hT.cp, thenL_n, codeL_seq, codeL_seq, eX1 h hT.px1 (hT.px2 _) hT.cp nT after hP hl, thenL_n, codeL_blk]
  have e2 : (eH N Es L x1 (X2 s) nT caps after P).length = 8 := rfl
  rw [e1, e2]
  refine ⟨fun k => ?_, fun k => ?_⟩
  · refine ⟨?_, (hL.1 k).2⟩
    rw [(hL.1 k).1, blkL_e, if_pos rfl, thenL_n, codeL_seq, eX14 N Es L hT.px1 (hT.px2 _) hT.cp, thenL_n, codeL_ret]
    exact eEnd N Es L hT.px1 (hT.px2 _) hT.cp ..
  · obtain ⟨P2, e⟩ := hL.2 k
    refine ⟨P2, ?_⟩
    rw [e, blkL_r, thenL_r]
    exact eEnd N Es L hT.px1 (hT.px2 _) hT.cp ..
include h hT in
theorem walk_loop (ha : after.length < 9223372036854775808) : ∀ (C P : List Int) (t : Bool) (s : σ) (m : Nat), m < 18446744073709551616 → bitL m = C → Up (P ++ C) → (∀ x ∈ P ++ C, x ∈ L) → (∃ pre, L = pre ++ C) → Inv s → LoopE N Es L x1 nT caps after X2 Inv (foldS tk (walkA (clL N Es L) (nonE N Es L) after C P t) s) P t (codeL cfgS 8 (.loop lBicliqueSidesEach1X0) ⟨ev (cR N Es L P) t [(10, .int .u64 (m : Int))], eH N Es L x1 (X2 s) nT caps after P⟩)
  | [], P, t, s, m, hm, hC, hu, hS, hpre, ho => by
    obtain rfl : m = 0 := (bitL_nil hm).1 hC
    refine ⟨fun _ => ⟨?_, ho⟩, fun k => by cases k⟩
    refine loop_exit ?_
    unfold lBicliqueSidesEach1X0
    rw [codeL_seq, codeL_seq, eX2z N Es L hT.px1 (hT.px2 _) hT.cp, thenL_n, codeL_cnd, get_ev _ _ _ _ (by decide)]
    show thenL cfgS 8 _ (codeL cfgS 8 (.exit 0) _) = _
    rw [codeL_exit, thenL_e]
    rfl
  | v :: C, P, t, s, m, hm, hC, hu, hS, ⟨pre, hpre⟩, ho => by
    have h0 : m ≠ 0 := by rintro rfl; rw [bitL_zero] at hC; cases hC
    have hst := bitL_step h0 hm
    rw [hC] at hst
    obtain ⟨hv, hC'⟩ : v = ((tz m : Nat) : Int) ∧ C = bitL (m &&& (m - 1)) := by simpa using hst
    have vL : v ∈ L := hS v (by simp)
    have hb := bOK_bd h hS
    have bv := hb v (by simp)
    have bP : ∀ x ∈ P, 0 ≤ x ∧ x < 64 := fun x hx => hb x (by simp [hx])
    have uQ : Up (P ++ [v]) := List.Pairwise.sublist (List.Sublist.append_left ((List.nil_sublist C).cons_cons v) P) hu
    have sQ : ∀ x ∈ P ++ [v], x ∈ L := fun x hx => hS x (by
      rcases List.mem_append.1 hx with k | k
      · simp [k]
      · simp at k; simp [k])
    have uP : Up P := (List.pairwise_append.1 hu).1
    have sP : ∀ x ∈ P, x ∈ L := fun x hx => hS x (by simp [hx])
    have lP : P.length < 4294967295 := by
      have := up_len uP (fun x hx => bP x hx)
      omega
    have lQ : (P ++ [v]).length < 4294967295 := by
      have := up_len uQ (fun x hx => (bOK_bd h sQ x hx))
      omega
    have hr := cR_lt N Es L P
    have hc := cR_snoc h uQ sQ
    have uPC : Up (P ++ C) := List.Pairwise.sublist (List.Sublist.append_left (List.sublist_cons_self v C) P) hu
    have sPC : ∀ x ∈ P ++ C, x ∈ L := fun x hx => hS x (by
      rcases List.mem_append.1 hx with k | k
      · simp [k]
      · simp [k])
    have hpre2 : ∃ pre, L = pre ++ C := ⟨pre ++ [v], by rw [hpre]; simp⟩
    have hdm : (m &&& (m - 1)) < 18446744073709551616 := Nat.lt_of_le_of_lt Nat.and_le_left hm
    have i2 := fun s ho => walk_loop ha C P t s (m &&& (m - 1)) hdm hC'.symm uPC sPC hpre2 ho
    have gb := goes_bits h uQ sQ
    have a2 := eX2 N Es L hT.px1 (hT.px2 s) hT.cp nT after P (cR N Es L P) t h0
    have a3 := eX3 N Es L hT.px1 (hT.px2 s) hT.cp nT after P (cR N Es L P) t h0 hm
    rw [← hv] at a3
    have a4 := eX4 N Es L hT.px1 (hT.px2 s) hT.cp nT after P (cR N Es L P) t (m : Int) v
    have a5 := eX5 h hT.px1 (hT.px2 s) hT.cp nT ha P hr t (m : Int) vL
    by_cases c1 : (skipL after P t v || decide (cR N Es L P &&& (adjE N Es).getD v.toNat 0 = 0)) = true
    · -- the node is left out
      have ew : walkA (clL N Es L) (nonE N Es L) after (v :: C) P t = walkA (clL N Es L) (nonE N Es L) after C P t := by
        have : ¬ (skipL after P t v = false ∧ goesE (clL N Es L) (nonE N Es L) P v = true) := by
          rintro ⟨k1, k2⟩
          rw [k1, ← hc] at c1
          rw [gb] at k2
          simp at c1 k2
          exact k2.1 c1
        simp only [walkA, if_neg this, List.nil_append]
      rw [ew]
      rw [c1] at a5
      have a13 := eX13 N Es L hT.px1 (hT.px2 s) hT.cp nT after P (cR N Es L P) t h0 hm [(11, .int .i64 v), (12, .bool (hereL after P t)), (55, .bool true)] (.inr (.inl ⟨_, _, rfl⟩))
      have e : codeL cfgS 8 lBicliqueSidesEach1X0 ⟨ev (cR N Es L P) t [(10, .int .u64 (m : Int))], eH N Es L x1 (X2 s) nT caps after P⟩ = some (.normal, ⟨ev (cR N Es L P) t [(10, .int .u64 ((m &&& (m - 1) : Nat) : Int))], eH N Es L x1 (X2 s) nT caps after P⟩) := by
        unfold lBicliqueSidesEach1X0
        rw [codeL_seq, codeL_seq, a2, thenL_n, codeL_cnd, get_ev _ _ _ _ (by decide)]
        show thenL cfgS 8 _ (codeL cfgS 8 .skip _) = _
        rw [codeL_skip, thenL_n, codeL_seq, codeL_blk, codeL_seq, a3, thenL_n, codeL_seq, a4, thenL_n, codeL_seq, codeL_seq, a5, thenL_n, codeL_cnd, get_ev _ _ _ _ (by decide)]
        show thenL cfgS 8 _ (blkL 1 (thenL cfgS 8 _ (codeL cfgS 8 (.exit 1) _))) = _
        rw [codeL_exit, thenL_e, blkL_e, if_pos rfl, thenL_n]
        exact a13
      rw [loop_next e]
      exact i2 s ho
    · have c1 : (skipL after P t v || decide (cR N Es L P &&& (adjE N Es).getD v.toNat 0 = 0)) = false := by simpa using c1
      rw [c1] at a5
      have a6 := eX6 N Es L hT.px1 (hT.px2 s) hT.cp nT ha P (cR N Es L P) t (m : Int) v
      have a7 := eX7 h hT.px1 (hT.px2 s) hT.cp nT after bP lP hr t (m : Int) vL (onL after P t v) (by rw [← hc]; exact cR_bits h uQ sQ)
      rw [← hc, ← msk_snoc] at a7
      have hw : cL N Es L (cR N Es L (P ++ [v])) < 18446744073709551616 := cL_lt h _
      have hmq : msk (P ++ [v]) < 18446744073709551616 := msk_lt fun x hx => (bOK_bd h sQ x hx).2
      have a8 := eX8 N Es L hT.px1 (hT.px2 s) hT.cp nT after P (cR N Es L P) t (m : Int) bv.1 bv.2 (onL after P t v) hw hmq
      have sk : skipL after P t v = false := by
        cases k : skipL after P t v
        · rfl
        · rw [k] at c1; simp at c1
      have nz : cR N Es L (P ++ [v]) ≠ 0 := by
        rw [hc]
        intro k
        rw [k] at c1
        simp at c1
      by_cases c2 : cL N Es L (cR N Es L (P ++ [v])) &&& (2 ^ v.toNat - 1) = msk (P ++ [v]) &&& (2 ^ v.toNat - 1)
      case neg =>
        -- a lesser node belongs to it, too
        have ew : walkA (clL N Es L) (nonE N Es L) after (v :: C) P t = walkA (clL N Es L) (nonE N Es L) after C P t := by
          have : ¬ (skipL after P t v = false ∧ goesE (clL N Es L) (nonE N Es L) P v = true) := by
            rintro ⟨k1, k2⟩
            rw [gb] at k2
            simp only [Bool.and_eq_true, decide_eq_true_eq] at k2
            exact c2 k2.2
          simp only [walkA, if_neg this, List.nil_append]
        rw [ew]
        rw [decide_eq_false c2, Bool.not_false] at a8
        have a13 := eX13 N Es L hT.px1 (hT.px2 s) hT.cp nT after P (cR N Es L P) t h0 hm _ (.inr (.inr ⟨v, onL after P t v, (cL N Es L (cR N Es L (P ++ [v])) : Nat), (msk (P ++ [v]) : Nat), rfl⟩))
        have e : codeL cfgS 8 lBicliqueSidesEach1X0 ⟨ev (cR N Es L P) t [(10, .int .u64 (m : Int))], eH N Es L x1 (X2 s) nT caps after P⟩ = some (.normal, ⟨ev (cR N Es L P) t [(10, .int .u64 ((m &&& (m - 1) : Nat) : Int))], eH N Es L x1 (X2 s) nT caps after P⟩) := by
          unfold lBicliqueSidesEach1X0
          rw [codeL_seq, codeL_seq, a2, thenL_n, codeL_cnd, get_ev _ _ _ _ (by decide)]
          show thenL cfgS 8 _ (codeL cfgS 8 .skip _) = _
          rw [codeL_skip, thenL_n, codeL_seq, codeL_blk, codeL_seq, a3, thenL_n, codeL_seq, a4, thenL_n, codeL_seq, codeL_seq, a5, thenL_n, codeL_cnd, get_ev _ _ _ _ (by decide)]
          show thenL cfgS 8 _ (blkL 1 (thenL cfgS 8 _ (codeL cfgS 8 .skip _))) = _
          rw [codeL_skip, thenL_n, codeL_seq, a6, thenL_n, codeL_seq, a7, thenL_n, codeL_seq, codeL_seq, a8, thenL_n, codeL_cnd, get_ev _ _ _ _ (by decide)]
          show thenL cfgS 8 _ (blkL 1 (thenL cfgS 8 _ (codeL cfgS 8 (.exit 1) _))) = _
          rw [codeL_exit, thenL_e, blkL_e, if_pos rfl, thenL_n]
          exact a13
        rw [loop_next e]
        exact i2 s ho
      · have gt : goesE (clL N Es L) (nonE N Es L) P v = true := by rw [gb]; simp [nz, c2]
        rw [decide_eq_true c2, Bool.not_true] at a8
        have a9 := eX9 N Es L hT.px1 (hT.px2 s) hT.cp nT after lP (cR N Es L P) t (m : Int) v (onL after P t v) (cL N Es L (cR N Es L (P ++ [v])) : Nat) (msk (P ++ [v]) : Nat)
        -- the rest of the round, by what comes out of the step
        have cond : ∀ (s2 : σ) (P2 : List Int) (g : Bool), (g = true → P2 = P ++ [v]) → codeL cfgS 8 (.reg rBicliqueSidesEach1X10 true [(2, 2), (3, 3), (4, 4), (5, 5), (10, 10), (11, 11), (12, 12), (13, 13), (14, 14), (27, 27), (28, 28), (29, 29), (30, 30), (40, 40), (41, 41), (42, 42), (6, 8), (7, 8), (6, 9), (15, 16), (15, 17), (15, 18), (16, 18), (17, 18), (15, 19), (16, 19), (17, 19), (15, 20), (16, 20), (17, 20), (18, 20), (15, 21), (16, 21), (17, 21), (20, 21), (15, 22), (16, 22), (17, 22), (15, 23), (16, 23), (17, 23), (18, 23), (15, 24), (16, 24), (17, 24), (15, 25), (15, 26), (31, 32), (31, 33), (31, 34), (32, 34), (31, 35), (34, 35), (31, 36), (31, 37), (32, 37), (31, 38), (31, 39), (34, 39), (37, 39)] [0, 1, 2, 3, 4, 5, 6, 10, 137]) ⟨ev (cR N Es L P) t [(10, .int .u64 (m : Int)), (11, .int .i64 v), (12, .bool (onL after P t v)), (13, .int .u64 (cL N Es L (cR N Es L (P ++ [v])) : Nat)), (14, .int .u64 (msk (P ++ [v]) : Nat))], eH N Es L x1 (X2 s) nT caps after (P ++ [v])⟩ = some (.normal, ⟨ev (cR N Es L P) t [(10, .int .u64 (m : Int)), (137, .bool (!g))], eH N Es L x1 (X2 s2) nT caps after P2⟩) → codeL cfgS 8 lBicliqueSidesEach1X0 ⟨ev (cR N Es L P) t [(10, .int .u64 (m : Int))], eH N Es L x1 (X2 s) nT caps after P⟩ = if g = true then some (.normal, ⟨ev (cR N Es L P) t [(10, .int .u64 ((m &&& (m - 1) : Nat) : Int))], eH N Es L x1 (X2 s2) nT caps after P⟩) else some (.ret, ⟨[(9, .bool false)], eH N Es L x1 (X2 s2) nT caps after P2⟩) := by
          intro s2 P2 g hg a10
          unfold lBicliqueSidesEach1X0
          rw [codeL_seq, codeL_seq, a2, thenL_n, codeL_cnd, get_ev _ _ _ _ (by decide)]
          show thenL cfgS 8 _ (codeL cfgS 8 .skip _) = _
          rw [codeL_skip, thenL_n, codeL_seq, codeL_blk, codeL_seq, a3, thenL_n, codeL_seq, a4, thenL_n, codeL_seq, codeL_seq, a5, thenL_n, codeL_cnd, get_ev _ _ _ _ (by decide)]
          show thenL cfgS 8 _ (blkL 1 (thenL cfgS 8 _ (codeL cfgS 8 .skip _))) = _
          rw [codeL_skip, thenL_n, codeL_seq, a6, thenL_n, codeL_seq, a7, thenL_n, codeL_seq, codeL_seq, a8, thenL_n, codeL_cnd, get_ev _ _ _ _ (by decide)]
          show thenL cfgS 8 _ (blkL 1 (thenL cfgS 8 _ (codeL cfgS 8 .skip _))) = _
          rw [codeL_skip, thenL_n, codeL_seq, a9, thenL_n, codeL_seq, codeL_seq, a10, thenL_n, codeL_cnd, get_ev _ _ _ _ (by decide)]
          cases g with
          | true =>
            show thenL cfgS 8 _ (blkL 1 (thenL cfgS 8 _ (codeL cfgS 8 .skip _))) = _
            rw [codeL_skip, thenL_n, Bool.not_true, hg rfl, eX12 N Es L hT.px1 (hT.px2 s2) hT.cp nT after lP, blkL_n, thenL_n, eX13 N Es L hT.px1 (hT.px2 s2) hT.cp nT after P (cR N Es L P) t h0 hm [] (.inl rfl), if_pos rfl]
          | false =>
            show thenL cfgS 8 _ (blkL 1 (thenL cfgS 8 _ (codeL cfgS 8 (.seq _ .ret) _))) = _
            rw [Bool.not_false, codeL_seq, eX11 N Es L hT.px1 (hT.px2 s2) hT.cp, thenL_n, codeL_ret, thenL_r, blkL_r, thenL_r, if_neg (by decide)]
        have uQC : Up ((P ++ [v]) ++ C) := by simpa using hu
        have sQC : ∀ x ∈ (P ++ [v]) ++ C, x ∈ L := by simpa using hS
        have inn := fun (t2 : Bool) s ho => call_of h hT s (bOK_bd h sQ) lQ t2 _ (walk_loop ha C (P ++ [v]) t2 s (msk L &&& (18446744073709551615 - bh (P ++ [v]))) (Nat.lt_of_le_of_lt Nat.and_le_left (msk_lt fun x hx => (bOK_bd h (fun _ k => k) x hx).2)) (cand_snoc h.l.1 (bOK_bd h fun _ k => k) hpre) uQC sQC hpre2 ho)
        have fin : ∀ (R : σ × Bool) (P2 : List Int), (R.2 = true → Inv R.1) → codeL cfgS 8 lBicliqueSidesEach1X0 ⟨ev (cR N Es L P) t [(10, .int .u64 (m : Int))], eH N Es L x1 (X2 s) nT caps after P⟩ = (if R.2 = true then some (.normal, ⟨ev (cR N Es L P) t [(10, .int .u64 ((m &&& (m - 1) : Nat) : Int))], eH N Es L x1 (X2 R.1) nT caps after P⟩) else some (.ret, ⟨[(9, .bool false)], eH N Es L x1 (X2 R.1) nT caps after P2⟩)) → LoopE N Es L x1 nT caps after X2 Inv (if R.2 = true then foldS tk (walkA (clL N Es L) (nonE N Es L) after C P t) R.1 else (R.1, false)) P t (codeL cfgS 8 (.loop lBicliqueSidesEach1X0) ⟨ev (cR N Es L P) t [(10, .int .u64 (m : Int))], eH N Es L x1 (X2 s) nT caps after P⟩) := by
          intro R P2 hR e
          by_cases k : R.2 = true
          · rw [if_pos k] at e ⊢
            rw [loop_next e]
            exact i2 _ (hR k)
          · rw [if_neg k] at e ⊢
            rw [loop_ret e]
            exact ⟨fun q => (by cases q), fun _ => ⟨P2, rfl⟩⟩
        have Qne : P ++ [v] ≠ [] := by simp
        have l64 : (P ++ [v]).length ≤ 64 := up_len uQ (fun x hx => bOK_bd h sQ x hx)
        have ew : walkA (clL N Es L) (nonE N Es L) after (v :: C) P t = ((if clL N Es L (P ++ [v]) = P ++ [v] ∧ onL after P t v = false then [P ++ [v]] else []) ++ walkA (clL N Es L) (nonE N Es L) after C (P ++ [v]) (onL after P t v)) ++ walkA (clL N Es L) (nonE N Es L) after C P t := by
          conv => lhs; unfold walkA
          rw [if_pos ⟨sk, gt⟩]
        rw [ew, foldS_app]
        by_cases c3 : clL N Es L (P ++ [v]) = P ++ [v] ∧ onL after P t v = false
        · rw [if_pos c3]
          have c4 := (closed_bits h uQ sQ).1 c3.1
          rw [c3.2] at cond ⊢
          rw [c4] at cond
          by_cases c5 : (tk s (P ++ [v])).2 = true
          · have ef : foldS tk ([P ++ [v]] ++ walkA (clL N Es L) (nonE N Es L) after C (P ++ [v]) false) s = foldS tk (walkA (clL N Es L) (nonE N Es L) after C (P ++ [v]) false) (tk s (P ++ [v])).1 := by
              show foldS tk ((P ++ [v]) :: walkA (clL N Es L) (nonE N Es L) after C (P ++ [v]) false) s = _
              rw [foldS, if_pos c5]
            rw [ef]
            have ho2 := hT.inv s _ ho Qne l64 c5
            obtain ⟨j1, j2⟩ := inn false (tk s (P ++ [v])).1 ho2
            generalize foldS tk (walkA (clL N Es L) (nonE N Es L) after C (P ++ [v]) false) (tk s (P ++ [v])).1 = R at *
            by_cases e : R.2 = true
            case pos =>
              have := cond R.1 (P ++ [v]) true (fun _ => rfl) (eX10a h hT Qne l64 hr t (m : Int) vL hc.symm ho c5 _ (j1 e).1)
              exact fin R (P ++ [v]) (fun k => (j1 k).2) (by rw [this, e])
            case neg =>
              have e := Bool.eq_false_iff.2 e
              obtain ⟨P2, j⟩ := j2 e
              have := cond R.1 P2 false (fun k => by cases k) (eX10a h hT Qne l64 hr t (m : Int) vL hc.symm ho c5 _ j)
              exact fin R P2 (fun k => (j1 k).2) (by rw [this, e])
          · have c5 := Bool.eq_false_iff.2 c5
            have ef : foldS tk ([P ++ [v]] ++ walkA (clL N Es L) (nonE N Es L) after C (P ++ [v]) false) s = ((tk s (P ++ [v])).1, false) := by
              show foldS tk ((P ++ [v]) :: walkA (clL N Es L) (nonE N Es L) after C (P ++ [v]) false) s = _
              rw [foldS, c5]
              rfl
            rw [ef]
            have := cond (tk s (P ++ [v])).1 (P ++ [v]) false (fun k => by cases k) (eX10b h hT Qne l64 hr t (m : Int) vL hc.symm ho c5 _)
            refine fin ((tk s (P ++ [v])).1, false) (P ++ [v]) (fun k => by cases k) ?_
            rw [this]
        · rw [if_neg c3, List.nil_append]
          have hno : ¬ (((cL N Es L (cR N Es L (P ++ [v])) : Nat) : Int) = ((msk (P ++ [v]) : Nat) : Int) ∧ onL after P t v = false) := by
            rintro ⟨k1, k2⟩
            exact c3 ⟨(closed_bits h uQ sQ).2 (by omega), k2⟩
          have hbl : onL after P t v = true → (P ++ [v]).length ≤ after.length := by
            intro k
            simp only [onL, hereL, Bool.and_eq_true, decide_eq_true_eq] at k
            simp
            omega
          obtain ⟨j1, j2⟩ := inn (onL after P t v) s ho
          generalize foldS tk (walkA (clL N Es L) (nonE N Es L) after C (P ++ [v]) (onL after P t v)) s = R at *
          by_cases e : R.2 = true
          case pos =>
            have := cond R.1 (P ++ [v]) true (fun _ => rfl) (eX10c h hT hr t (m : Int) vL hc.symm _ _ _ hno hbl (j1 e).1)
            exact fin R (P ++ [v]) (fun k => (j1 k).2) (by rw [this, e])
          case neg =>
            have e := Bool.eq_false_iff.2 e
            obtain ⟨P2, j⟩ := j2 e
            have := cond R.1 P2 false (fun k => by cases k) (eX10c h hT hr t (m : Int) vL hc.symm _ _ _ hno hbl j)
            exact fin R P2 (fun k => (j1 k).2) (by rw [this, e])
end
#print axioms walk_loop
end Go.BmP
