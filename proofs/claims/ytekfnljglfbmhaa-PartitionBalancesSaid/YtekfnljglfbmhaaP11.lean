/- The loops of the law of balance. -/
import Derived.Test.YtekfnljglfbmhaaMkU
import Derived.Test.YtekfnljglfbmhaaP10
import Derived.Test.YtekfnljglfbmhaaL01
import Derived.Test.YtekfnljglfbmhaaT06
import Derived.Test.YtekfnljglfbmhaaTriQ
set_option linter.unusedSimpArgs false
set_option linter.unusedVariables false
set_option maxRecDepth 100000
set_option maxHeartbeats 4000000
namespace Go.BmP
open Go.Am Go.Bm
theorem awake37 : callL cfgS nLaw37Awake [] [] = some (.bool true, []) := callL_iff.2 ⟨3000, by kernel_rfl⟩
theorem pc9_nbr {N : Nat} (hN : N ≤ 9) {Es : List Ed} (h : GOK (N : Int) Es) {u : Nat} (hu : u < N) : pc9 ((adjE N Es).getD u 0) = (nbr N Es u).length := by
  rw [nbr_count h hu]
  unfold pc9
  rw [filter_sm]
  have e : ∀ j, (if ((adjE N Es).getD u 0).testBit j = true then 1 else 0) = ad Es u j := fun j => by
    rw [(adj_spec h).2.2]
    have q : (decide (((u : Int), (j : Int)) ∈ Es) || decide (((j : Int), (u : Int)) ∈ Es)) = true ↔ jn Es u j := by
      unfold jn; rw [Bool.or_eq_true, decide_eq_true_eq, decide_eq_true_eq]
    unfold ad
    by_cases k : jn Es u j
    · rw [if_pos k, if_pos (q.2 k)]
    · rw [if_neg k, if_neg fun z => k (q.1 z)]
  rw [sm_congr fun j _ => e j]
  have key : ∀ k, N + k ≤ 9 → sm (N + k) (fun w => ad Es u w) = sm N fun w => ad Es u w := by
    intro k
    induction k with
    | zero => intro _; rfl
    | succ m ih =>
      intro hk
      show sm (N + m) _ + ad Es u (N + m) = _
      rw [ih (by omega)]
      have : ad Es u (N + m) = 0 := by
        unfold ad
        rw [if_neg fun q => by have := jn_bd h q; omega]
      omega
  have := key (9 - N) (by omega)
  rwa [show N + (9 - N) = 9 by omega] at this
theorem dgL_get {N : Nat} (hN : N ≤ 9) {Es : List Ed} (h : GOK (N : Int) Es) {u : Nat} (hu : u < N) : (dgL (adjE N Es)).getD u 0 = (nbr N Es u).length := by
  have ln := (adj_spec h).1
  unfold dgL
  rw [List.getD_eq_getElem?_getD, List.getElem?_map, List.getElem?_eq_getElem (by omega)]
  rw [← pc9_nbr hN h hu, List.getD_eq_getElem?_getD, List.getElem?_eq_getElem (by omega)]
  rfl
/-- The sums of the workers up to node i. -/
def lwS (D o : List Int) (w i : Nat) : List Int := (List.range w).map fun k => sumW (nd D i) o k
theorem lwS_length (D o : List Int) (w i : Nat) : (lwS D o w i).length = w := by simp [lwS]
theorem lwS_at (D o : List Int) {w i c : Nat} (h : c < w) (h' : c < (lwS D o w i).length) : (lwS D o w i)[c] = sumW (nd D i) o c := by simp [lwS]
theorem lwS_step (D o : List Int) {w i c : Nat} (h : c < w) (e : o.getD i 0 = (c : Int)) : (lwS D o w i).set c (sumW (nd D i) o c + D.getD i 0) = lwS D o w (i + 1) := by
  apply List.ext_getElem
  · simp [lwS]
  · intro k h1 h2
    have hk : k < w := by simpa [lwS] using h1
    rw [List.getElem_set]
    simp only [lwS, List.getElem_map, List.getElem_range, nd_succ, sumW_snoc]
    rw [show ((i : Nat) : Int).toNat = i by omega, e]
    by_cases q : c = k
    · subst q; rw [if_pos rfl, if_pos rfl]
    · rw [if_neg q, if_neg (by omega), Int.add_zero]
theorem sumW_bd {D : List Int} (h : ∀ x ∈ D, 0 ≤ x ∧ x ≤ 64) (o : List Int) (k : Nat) : ∀ i, 0 ≤ sumW (nd D i) o k ∧ sumW (nd D i) o k ≤ 64 * i
  | 0 => by simp [sumW, nd]
  | i + 1 => by
    have ih := sumW_bd h o k i
    rw [nd_succ, sumW_snoc]
    have b : 0 ≤ D.getD i 0 ∧ D.getD i 0 ≤ 64 := by
      rw [List.getD_eq_getElem?_getD]
      cases hi : D[i]? with
      | none => simp
      | some y => exact h y (List.mem_of_getElem? hi)
    split <;> omega
/-- The greatest degree up to node i. -/
def mxD (D : List Int) : Nat → Int
  | 0 => 0
  | i + 1 => if mxD D i < D.getD i 0 then D.getD i 0 else mxD D i
theorem mxD_le (D : List Int) : ∀ {i v : Nat}, v < i → D.getD v 0 ≤ mxD D i
  | i + 1, v, h => by
    rw [mxD]
    by_cases e : v = i
    · subst e; split <;> omega
    · have := mxD_le D (i := i) (v := v) (by omega)
      split <;> omega
theorem mxD_bd {D : List Int} (h : ∀ x ∈ D, 0 ≤ x ∧ x ≤ 64) : ∀ i, 0 ≤ mxD D i ∧ mxD D i ≤ 64
  | 0 => by simp [mxD]
  | i + 1 => by
    have ih := mxD_bd h i
    have b : 0 ≤ D.getD i 0 ∧ D.getD i 0 ≤ 64 := by
      rw [List.getD_eq_getElem?_getD]
      cases hi : D[i]? with
      | none => simp
      | some y => exact h y (List.mem_of_getElem? hi)
    rw [mxD]; split <;> omega
def blSt (l : List Int) (a N : Nat) (Y : List AV) (w : Nat) (O Hv : List AV) (h : Int) (S : List Int) (m : Int) (i : Nat) (J : Env) : St := ⟨(7, .ptr 1 0) :: (9, .int .i64 h) :: (10, .ptr 2 0) :: (12, .own 1 (ints S)) :: (13, .int .i64 m) :: (14, .int .i64 i) :: J, [dk l a, some [.int .i64 N, .list 2 Y], some [.int .i64 w, .list 1 O, .list 1 Hv]]⟩
section
attribute [local simp] codeL_seq codeL_reg codeL_blk codeL_skip codeL_ret codeL_exit codeL_cnd condL_b thenL_n thenL_e thenL_r blkL_n blkL_e blkL_r regL_s opsB stepB opB opP opnd opnds lend lendC get_nil' get_cons' put_nil' put_cons' mem_nil' mem_cons' putdB putB slowP hasOwn hasOwnL finO relab anyB anyE anyH anyR borOf borL inSlot HAND endR hasOwnE endK keepIn trim noPtr noPtrL noPtrE noPtrH binA arith unA eqB isNilB eqc lenB bndB bnd rdN rdc AV.cells fillB peek ldOK AV.leaf allLeaf fz pl plL drawB allCW cwF okDrawB okPair Fq.ok dstOff wrOff notSlot noneIn apartR oldBoxes O.reads Kd.reads E.slot slots slotO slotsP List.getD pairIn nilL okRes clean cleanL resV resVs tupOf mkEnv partsBor doCallB inpB getArgs doCallO frzA frzV frzL minA minF cont ownAt at_ setAt rel dropS relC dropAll frzP frzAll firstBor borIn borC borS borE borH handTo mapSt mapE mapH mapB mapBL sw rt fb mvB mvRt seesP inRt isRoot rootOf boxOf seesB rootsL Am.rep ovw flatCells_ints allLeaf_ints flatCells el grp updE isNilB inpV inpL stB okL unA orcA bndB plL_ints fzL stBox inCells wrap0 wrap1 wrapm1 take_snoc BIGB marks boxZ ldLab cellOf cellN CELLM boxIn isCell apartC frzR frzRL frzS frzC frzCL
theorem bl_round (l : List Int) (a N : Nat) (hN : N ≤ 9) {Es : List Ed} (hG : GOK (N : Int) Es) (hE : Es.length < 1000000) (w : Nat) (w8 : w ≤ 8) (o : List Int) (ho : o.length = N) (hb : ∀ x ∈ o, 0 ≤ x ∧ x < (w : Int)) (h : Int) (i : Nat) (hi : i < N) :
    codeL cfgS 0 lLaw37PartitionBalancesX0 (blSt l a N (eds Es) w (ints o) (ints (hvL (dgL (adjE N Es)) h N)) h (lwS (dgL (adjE N Es)) o w i) (mxD (dgL (adjE N Es)) i) i []) = some (.normal, blSt l a N (eds Es) w (ints o) (ints (hvL (dgL (adjE N Es)) h N)) h (lwS (dgL (adjE N Es)) o w (i + 1)) (mxD (dgL (adjE N Es)) (i + 1)) (i + 1) []) := by
  have h1 : (i : Int) < N := by omega
  have hw := wrapS (i := i) (by omega)
  have dg := degree_run hG hE (v := i) (by omega) (by omega)
  have lD : (dgL (adjE N Es)).length = N := by rw [dgL, List.length_map]; exact (adj_spec hG).1
  have dd := dgL_get hN hG hi
  rw [← dd] at dg
  have bD : ∀ x ∈ dgL (adjE N Es), 0 ≤ x ∧ x ≤ 64 := by
    intro x hx
    obtain ⟨m, hm, rfl⟩ := List.mem_map.1 hx
    have : pc9 m ≤ 9 := by
      have := List.length_filter_le (fun j => m.testBit j) (List.range 9)
      simpa [pc9] using this
    omega
  have lh := hvL_length (dgL (adjE N Es)) h N
  have hs := has_run (i : Int) (hvL (dgL (adjE N Es)) h N) (by omega)
  have hm : ((i : Int) ∈ hvL (dgL (adjE N Es)) h N) ↔ h ≤ (dgL (adjE N Es)).getD i 0 := by
    unfold hvL
    rw [List.mem_map]
    constructor
    · rintro ⟨v, hv, e⟩
      have k := (List.mem_filter.1 hv).2
      have e : v = i := by omega
      subst e
      exact of_decide_eq_true k
    · intro k
      exact ⟨i, List.mem_filter.2 ⟨List.mem_range.2 hi, decide_eq_true k⟩, rfl⟩
  clear dd
  generalize dgL (adjE N Es) = D at *
  have ib : i < o.length := by omega
  have ob := hb (o.getD i 0) (by rw [List.getD_eq_getElem?_getD, List.getElem?_eq_getElem ib]; exact List.getElem_mem ib)
  obtain ⟨c, hc⟩ : ∃ c : Nat, o.getD i 0 = c := ⟨(o.getD i 0).toNat, by omega⟩
  have cw : c < w := by omega
  have go : (ints o)[i]? = some (.int .i64 c) := by
    rw [ints_get, List.getElem?_eq_getElem ib, ← hc]; simp [List.getD_eq_getElem?_getD, List.getElem?_eq_getElem ib]
  have go' : ∀ h, (ints o)[i]'h = .int .i64 c := fun h => by
    have := List.getElem?_eq_getElem (l := ints o) h
    rw [go] at this
    exact (Option.some.inj this).symm
  have lS := lwS_length D o w i
  have st := lwS_step D o cw hc
  have gs : (ints (lwS D o w i))[c]? = some (.int .i64 (sumW (nd D i) o c)) := by
    rw [ints_get, List.getElem?_eq_getElem (by omega), ← lwS_at D o cw (by omega)]; rfl
  have gs' : ∀ h, (ints (lwS D o w i))[c]'h = .int .i64 (sumW (nd D i) o c) := fun h => by
    have := List.getElem?_eq_getElem (l := ints (lwS D o w i)) h
    rw [gs] at this
    exact (Option.some.inj this).symm
  have sb := sumW_bd bD o c i
  have mb := mxD_bd bD i
  have db : 0 ≤ D.getD i 0 ∧ D.getD i 0 ≤ 64 := by
    rw [List.getD_eq_getElem?_getD]
    cases hi : D[i]? with
    | none => simp
    | some y => exact bD y (List.mem_of_getElem? hi)
  have q1 : IntKind.i64.wrap (sumW (nd D i) o c + D.getD i 0) = sumW (nd D i) o c + D.getD i 0 := wrap_id (by omega) (by omega)
  have b1 : (ints (lwS D o w i)).set c (.int .i64 (sumW (nd D i) o c + D.getD i 0)) = ints (lwS D o w (i + 1)) := by rw [← st]; simp [ints, List.map_set]
  have mx : (if mxD D i < D.getD i 0 then D.getD i 0 else mxD D i) = mxD D (i + 1) := rfl
  have g5 := ints_length o
  have g6 : (ints (lwS D o w i)).length = w := by rw [ints_length, lS]
  have g7 := ints_length (hvL D h N)
  have ki : (c : Int) < (w : Int) := by omega
  have kio : (i : Int) < (o.length : Int) := by omega
  have k1 : 0 ≤ (c : Int) := by omega
  unfold blSt lLaw37PartitionBalancesX0 dk
  clear st lS hc bD mb sb
  generalize mxD D (i + 1) = m2 at *
  generalize mxD D i = m1 at *
  generalize lwS D o w (i + 1) = S2 at *
  generalize lwS D o w i = S at *
  generalize sumW (nd D i) o c = z at *
  generalize hvL D h N = hv at *
  generalize D.getD i 0 = d at *
  generalize ints hv = HV at *
  generalize ints S2 = SS2 at *
  generalize ints S = SS at *
  generalize ints o = O at *
  generalize eds Es = Y at *
  by_cases k : h ≤ d
  · have km := hm.2 k
    rw [decide_eq_true km] at hs
    have k' : ¬ d < h := by omega
    simp [rLaw37PartitionBalancesX0, rLaw37PartitionBalancesX1, rLaw37PartitionBalancesX2, rLaw37PartitionBalancesX3, rLaw37PartitionBalancesX4, rLaw37PartitionBalancesX5, rLaw37PartitionBalancesX6, rLaw37PartitionBalancesX7, rLaw37PartitionBalancesX8, rLaw37PartitionBalancesX9, rLaw37PartitionBalancesX10, rLaw37PartitionBalancesX11, rLaw37PartitionBalancesX12, rLaw37PartitionBalancesX13, rLaw37PartitionBalancesX14, rLaw37PartitionBalancesX15, rLaw37PartitionBalancesX16, rLaw37PartitionBalancesX17, rLaw37PartitionBalancesX18, rLaw37PartitionBalancesX19, rLaw37PartitionBalancesX20, rLaw37PartitionBalancesX21, rLaw37PartitionBalancesX22, rLaw37PartitionBalancesX23, rLaw37PartitionBalancesX24, rLaw37PartitionBalancesX25, rLaw37PartitionBalancesX26, rLaw37PartitionBalancesX27, h1, hi, hw, dg, hs, k, k', go, go', gs, gs', q1, b1, mx, g5, g6, g7, ki, kio, k1, cw, ib, idx, eqA, eqc, blk, sRef03Degree, iRef03Degree, sRef02Has, iRef02Has, plp, plpL, allB, notBox, swC, swS, seesC, inBox, relB, handBox, mvBB, mvRtB]
  · have km := fun q => k (hm.1 q)
    rw [decide_eq_false km] at hs
    have k' : d < h := by omega
    simp [rLaw37PartitionBalancesX0, rLaw37PartitionBalancesX1, rLaw37PartitionBalancesX2, rLaw37PartitionBalancesX3, rLaw37PartitionBalancesX4, rLaw37PartitionBalancesX5, rLaw37PartitionBalancesX6, rLaw37PartitionBalancesX7, rLaw37PartitionBalancesX8, rLaw37PartitionBalancesX9, rLaw37PartitionBalancesX10, rLaw37PartitionBalancesX11, rLaw37PartitionBalancesX12, rLaw37PartitionBalancesX13, rLaw37PartitionBalancesX14, rLaw37PartitionBalancesX15, rLaw37PartitionBalancesX16, rLaw37PartitionBalancesX17, rLaw37PartitionBalancesX18, rLaw37PartitionBalancesX19, rLaw37PartitionBalancesX20, rLaw37PartitionBalancesX21, rLaw37PartitionBalancesX22, rLaw37PartitionBalancesX23, rLaw37PartitionBalancesX24, rLaw37PartitionBalancesX25, rLaw37PartitionBalancesX26, rLaw37PartitionBalancesX27, h1, hi, hw, dg, hs, k, k', go, go', gs, gs', q1, b1, mx, g5, g6, g7, ki, kio, k1, cw, ib, idx, eqA, eqc, blk, sRef03Degree, iRef03Degree, sRef02Has, iRef02Has, plp, plpL, allB, notBox, swC, swS, seesC, inBox, relB, handBox, mvBB, mvRtB]
theorem bl_loop (l : List Int) (a N : Nat) (hN : N ≤ 9) {Es : List Ed} (hG : GOK (N : Int) Es) (hE : Es.length < 1000000) (w : Nat) (w8 : w ≤ 8) (o : List Int) (ho : o.length = N) (hb : ∀ x ∈ o, 0 ≤ x ∧ x < (w : Int)) (h : Int) : ∀ (k i : Nat), i + k = N →
    codeL cfgS 0 (.loop lLaw37PartitionBalancesX0) (blSt l a N (eds Es) w (ints o) (ints (hvL (dgL (adjE N Es)) h N)) h (lwS (dgL (adjE N Es)) o w i) (mxD (dgL (adjE N Es)) i) i []) = some (.exit 0, blSt l a N (eds Es) w (ints o) (ints (hvL (dgL (adjE N Es)) h N)) h (lwS (dgL (adjE N Es)) o w N) (mxD (dgL (adjE N Es)) N) N [(69, .bool false)])
  | 0, i, hi => by
    obtain rfl : i = N := by omega
    refine loop_exit ?_
    unfold blSt lLaw37PartitionBalancesX0 dk
    generalize ints (lwS (dgL (adjE i Es)) o w i) = SS at *
    generalize ints (hvL (dgL (adjE i Es)) h i) = HV at *
    generalize mxD (dgL (adjE i Es)) i = m at *
    generalize ints o = O at *
    generalize eds Es = Y at *
    simp [rLaw37PartitionBalancesX0, rLaw37PartitionBalancesX1, rLaw37PartitionBalancesX2, rLaw37PartitionBalancesX3, rLaw37PartitionBalancesX4, rLaw37PartitionBalancesX5, rLaw37PartitionBalancesX6, rLaw37PartitionBalancesX7, rLaw37PartitionBalancesX8, rLaw37PartitionBalancesX9, rLaw37PartitionBalancesX10, rLaw37PartitionBalancesX11, rLaw37PartitionBalancesX12, rLaw37PartitionBalancesX13, rLaw37PartitionBalancesX14, rLaw37PartitionBalancesX15, rLaw37PartitionBalancesX16, rLaw37PartitionBalancesX17, rLaw37PartitionBalancesX18, rLaw37PartitionBalancesX19, rLaw37PartitionBalancesX20, rLaw37PartitionBalancesX21, rLaw37PartitionBalancesX22, rLaw37PartitionBalancesX23, rLaw37PartitionBalancesX24, rLaw37PartitionBalancesX25, rLaw37PartitionBalancesX26, rLaw37PartitionBalancesX27, blk, plp, plpL, allB, notBox, swC, swS, seesC, inBox]
  | k + 1, i, hi => (loop_next (bl_round l a N hN hG hE w w8 o ho hb h i (by omega))).trans (bl_loop l a N hN hG hE w w8 o ho hb h k (i + 1) (by omega))
end
def b1St (S : List Int) (m x : Int) (i j : Nat) (J : Env) : St := ⟨(12, .own 1 (ints S)) :: (13, .int .i64 m) :: (17, .int .i64 x) :: (97, .bor 1 (.s 12) 0 S.length) :: (98, .int .i64 S.length) :: (99, .int .i64 i) :: (103, .bor 1 (.s 12) 0 S.length) :: (104, .int .i64 S.length) :: (105, .int .i64 j) :: J, []⟩
section
attribute [local simp] codeL_seq codeL_reg codeL_blk codeL_skip codeL_ret codeL_exit codeL_cnd condL_b thenL_n thenL_e thenL_r blkL_n blkL_e blkL_r regL_s opsB stepB opB opP opnd opnds lend lendC get_nil' get_cons' put_nil' put_cons' mem_nil' mem_cons' putdB putB slowP hasOwn hasOwnL finO relab anyB anyE anyH anyR borOf borL inSlot HAND endR hasOwnE endK keepIn trim noPtr noPtrL noPtrE noPtrH binA arith unA eqB isNilB eqc lenB bndB bnd rdN rdc AV.cells fillB peek ldOK AV.leaf allLeaf fz pl plL drawB allCW cwF okDrawB okPair Fq.ok dstOff wrOff notSlot noneIn apartR oldBoxes O.reads Kd.reads E.slot slots slotO slotsP List.getD pairIn nilL okRes clean cleanL resV resVs tupOf mkEnv partsBor doCallB inpB getArgs doCallO frzA frzV frzL minA minF cont ownAt at_ setAt rel dropS relC dropAll frzP frzAll firstBor borIn borC borS borE borH handTo mapSt mapE mapH mapB mapBL sw rt fb mvB mvRt seesP inRt isRoot rootOf boxOf seesB rootsL Am.rep ovw flatCells_ints allLeaf_ints flatCells el grp updE isNilB inpV inpL stB okL unA orcA bndB plL_ints fzL stBox inCells wrap0 wrap1 wrapm1 take_snoc BIGB marks boxZ ldLab cellOf cellN CELLM boxIn isCell apartC frzR frzRL frzS frzC frzCL
theorem b1_loop (S : List Int) (hl : S.length < 1000000) (m x : Int) (i : Nat) (hx : 0 ≤ x ∧ x < 1000000) (hS : ∀ y ∈ S, (0 ≤ y ∧ y < 1000000) ∧ x - y ≤ m) : ∀ (k j : Nat), j + k = S.length → codeL cfgS 0 (.loop lLaw37PartitionBalancesX1) (b1St S m x i j []) = some (.exit 4, b1St S m x i S.length [(106, .bool false)])
  | 0, j, hj => by
    obtain rfl : j = S.length := by omega
    refine loop_exit ?_
    unfold b1St lLaw37PartitionBalancesX1
    generalize ints S = SS at *
    generalize S.length = n at *
    simp [rLaw37PartitionBalancesX0, rLaw37PartitionBalancesX1, rLaw37PartitionBalancesX2, rLaw37PartitionBalancesX3, rLaw37PartitionBalancesX4, rLaw37PartitionBalancesX5, rLaw37PartitionBalancesX6, rLaw37PartitionBalancesX7, rLaw37PartitionBalancesX8, rLaw37PartitionBalancesX9, rLaw37PartitionBalancesX10, rLaw37PartitionBalancesX11, rLaw37PartitionBalancesX12, rLaw37PartitionBalancesX13, rLaw37PartitionBalancesX14, rLaw37PartitionBalancesX15, rLaw37PartitionBalancesX16, rLaw37PartitionBalancesX17, rLaw37PartitionBalancesX18, rLaw37PartitionBalancesX19, rLaw37PartitionBalancesX20, rLaw37PartitionBalancesX21, rLaw37PartitionBalancesX22, rLaw37PartitionBalancesX23, rLaw37PartitionBalancesX24, rLaw37PartitionBalancesX25, rLaw37PartitionBalancesX26, rLaw37PartitionBalancesX27]
  | k + 1, j, hj => by
    have hlt : j < S.length := by omega
    refine (loop_next ?_).trans (b1_loop S hl m x i hx hS k (j + 1) (by omega))
    have k1 : (j : Int) < S.length := by omega
    have hw := wrapS (i := j) (by omega)
    obtain ⟨y1, y2⟩ := hS _ (List.getElem_mem hlt)
    have g3 : (ints S)[j]? = some (.int .i64 S[j]) := by rw [ints_get, List.getElem?_eq_getElem hlt]; rfl
    have g4 : ∀ h, (ints S)[j]'h = .int .i64 S[j] := fun h => intsAt ..
    have g5 := ints_length S
    have tk : (ints S).take S.length = ints S := List.take_of_length_le (by omega)
    generalize S[j] = y at *
    have q1 : IntKind.i64.wrap (x - y) = x - y := wrap_id (by omega) (by omega)
    have q2 : ¬ m < x - y := by omega
    unfold b1St lLaw37PartitionBalancesX1
    generalize ints S = SS at *
    generalize S.length = n at *
    simp [rLaw37PartitionBalancesX0, rLaw37PartitionBalancesX1, rLaw37PartitionBalancesX2, rLaw37PartitionBalancesX3, rLaw37PartitionBalancesX4, rLaw37PartitionBalancesX5, rLaw37PartitionBalancesX6, rLaw37PartitionBalancesX7, rLaw37PartitionBalancesX8, rLaw37PartitionBalancesX9, rLaw37PartitionBalancesX10, rLaw37PartitionBalancesX11, rLaw37PartitionBalancesX12, rLaw37PartitionBalancesX13, rLaw37PartitionBalancesX14, rLaw37PartitionBalancesX15, rLaw37PartitionBalancesX16, rLaw37PartitionBalancesX17, rLaw37PartitionBalancesX18, rLaw37PartitionBalancesX19, rLaw37PartitionBalancesX20, rLaw37PartitionBalancesX21, rLaw37PartitionBalancesX22, rLaw37PartitionBalancesX23, rLaw37PartitionBalancesX24, rLaw37PartitionBalancesX25, rLaw37PartitionBalancesX26, rLaw37PartitionBalancesX27, k1, hlt, hw, g3, g4, g5, tk, q1, q2, idx, blk]
end
def b2St (S : List Int) (m : Int) (i : Nat) (J : Env) : St := ⟨(12, .own 1 (ints S)) :: (13, .int .i64 m) :: (97, .bor 1 (.s 12) 0 S.length) :: (98, .int .i64 S.length) :: (99, .int .i64 i) :: J, []⟩
section
attribute [local simp] codeL_seq codeL_reg codeL_blk codeL_skip codeL_ret codeL_exit codeL_cnd condL_b thenL_n thenL_e thenL_r blkL_n blkL_e blkL_r regL_s opsB stepB opB opP opnd opnds lend lendC get_nil' get_cons' put_nil' put_cons' mem_nil' mem_cons' putdB putB slowP hasOwn hasOwnL finO relab anyB anyE anyH anyR borOf borL inSlot HAND endR hasOwnE endK keepIn trim noPtr noPtrL noPtrE noPtrH binA arith unA eqB isNilB eqc lenB bndB bnd rdN rdc AV.cells fillB peek ldOK AV.leaf allLeaf fz pl plL drawB allCW cwF okDrawB okPair Fq.ok dstOff wrOff notSlot noneIn apartR oldBoxes O.reads Kd.reads E.slot slots slotO slotsP List.getD pairIn nilL okRes clean cleanL resV resVs tupOf mkEnv partsBor doCallB inpB getArgs doCallO frzA frzV frzL minA minF cont ownAt at_ setAt rel dropS relC dropAll frzP frzAll firstBor borIn borC borS borE borH handTo mapSt mapE mapH mapB mapBL sw rt fb mvB mvRt seesP inRt isRoot rootOf boxOf seesB rootsL Am.rep ovw flatCells_ints allLeaf_ints flatCells el grp updE isNilB inpV inpL stB okL unA orcA bndB plL_ints fzL stBox inCells wrap0 wrap1 wrapm1 take_snoc BIGB marks boxZ ldLab cellOf cellN CELLM boxIn isCell apartC frzR frzRL frzS frzC frzCL
theorem b2_loop (S : List Int) (hl : S.length < 1000000) (m : Int) (hS : ∀ y ∈ S, 0 ≤ y ∧ y < 1000000) (hd : ∀ x ∈ S, ∀ y ∈ S, x - y ≤ m) : ∀ (k i : Nat), i + k = S.length → codeL cfgS 0 (.loop lLaw37PartitionBalancesX2) (b2St S m i []) = some (.exit 2, b2St S m S.length [(100, .bool false)])
  | 0, i, hi => by
    obtain rfl : i = S.length := by omega
    refine loop_exit ?_
    unfold b2St lLaw37PartitionBalancesX2
    generalize ints S = SS at *
    generalize S.length = n at *
    simp [rLaw37PartitionBalancesX0, rLaw37PartitionBalancesX1, rLaw37PartitionBalancesX2, rLaw37PartitionBalancesX3, rLaw37PartitionBalancesX4, rLaw37PartitionBalancesX5, rLaw37PartitionBalancesX6, rLaw37PartitionBalancesX7, rLaw37PartitionBalancesX8, rLaw37PartitionBalancesX9, rLaw37PartitionBalancesX10, rLaw37PartitionBalancesX11, rLaw37PartitionBalancesX12, rLaw37PartitionBalancesX13, rLaw37PartitionBalancesX14, rLaw37PartitionBalancesX15, rLaw37PartitionBalancesX16, rLaw37PartitionBalancesX17, rLaw37PartitionBalancesX18, rLaw37PartitionBalancesX19, rLaw37PartitionBalancesX20, rLaw37PartitionBalancesX21, rLaw37PartitionBalancesX22, rLaw37PartitionBalancesX23, rLaw37PartitionBalancesX24, rLaw37PartitionBalancesX25, rLaw37PartitionBalancesX26, rLaw37PartitionBalancesX27]
  | k + 1, i, hi => by
    have hlt : i < S.length := by omega
    refine (loop_next ?_).trans (b2_loop S hl m hS hd k (i + 1) (by omega))
    have k1 : (i : Int) < S.length := by omega
    have hw := wrapS (i := i) (by omega)
    have lp := b1_loop S hl m S[i] i (hS _ (List.getElem_mem hlt)) (fun y hy => ⟨hS y hy, hd _ (List.getElem_mem hlt) y hy⟩) S.length 0 (by omega)
    have g3 : (ints S)[i]? = some (.int .i64 S[i]) := by rw [ints_get, List.getElem?_eq_getElem hlt]; rfl
    have g4 : ∀ h, (ints S)[i]'h = .int .i64 S[i] := fun h => intsAt ..
    have g5 := ints_length S
    have tk : (ints S).take S.length = ints S := List.take_of_length_le (by omega)
    unfold b1St at lp
    rw [nat0] at lp
    generalize S[i] = x at *
    unfold b2St lLaw37PartitionBalancesX2
    generalize ints S = SS at *
    generalize S.length = n at *
    simp [rLaw37PartitionBalancesX0, rLaw37PartitionBalancesX1, rLaw37PartitionBalancesX2, rLaw37PartitionBalancesX3, rLaw37PartitionBalancesX4, rLaw37PartitionBalancesX5, rLaw37PartitionBalancesX6, rLaw37PartitionBalancesX7, rLaw37PartitionBalancesX8, rLaw37PartitionBalancesX9, rLaw37PartitionBalancesX10, rLaw37PartitionBalancesX11, rLaw37PartitionBalancesX12, rLaw37PartitionBalancesX13, rLaw37PartitionBalancesX14, rLaw37PartitionBalancesX15, rLaw37PartitionBalancesX16, rLaw37PartitionBalancesX17, rLaw37PartitionBalancesX18, rLaw37PartitionBalancesX19, rLaw37PartitionBalancesX20, rLaw37PartitionBalancesX21, rLaw37PartitionBalancesX22, rLaw37PartitionBalancesX23, rLaw37PartitionBalancesX24, rLaw37PartitionBalancesX25, rLaw37PartitionBalancesX26, rLaw37PartitionBalancesX27, k1, hlt, hw, g3, g4, g5, tk, lp, idx, blk]
end
end Go.BmP
