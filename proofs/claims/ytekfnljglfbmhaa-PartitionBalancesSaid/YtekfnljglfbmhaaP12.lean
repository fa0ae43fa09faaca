/- The law of balance returns true. -/
import Derived.Test.YtekfnljglfbmhaaP11
set_option linter.unusedSimpArgs false
set_option linter.unusedVariables false
set_option maxRecDepth 100000
set_option maxHeartbeats 4000000
namespace Go.BmP
open Go.Am Go.Bm
theorem sum0_eq (N w : Nat) : sum0 w = (List.range w).map fun k => (sumW [] (List.replicate N 0) k, ((k : Nat) : Int)) := by simp [sum0, sumW]
theorem nd_snd (D : List Int) (i : Nat) : (nd D i).map Prod.snd = (List.range i).map fun v => ((v : Nat) : Int) := by simp [nd]
theorem mkR_spec {D : List Int} {N w : Nat} (hw : 1 ≤ w) (hD : D.length = N) (hd : ∀ x ∈ D, 0 ≤ x ∧ x ≤ 64) : (mkR D N w).1.length = N ∧ (∀ x ∈ (mkR D N w).1, 0 ≤ x ∧ x < (w : Int)) ∧ ∀ a ∈ lwS D (mkR D N w).1 w N, ∀ b ∈ lwS D (mkR D N w).1 w N, a - b ≤ mxD D N := by
  have pm := isortC_perm cfP (nd D N)
  have mem : ∀ x ∈ isortC cfP (nd D N), (0 ≤ x.1 ∧ x.1 ≤ mxD D N) ∧ 0 ≤ x.2 ∧ x.2 < (N : Int) := fun x hx => by
    have := pm.mem_iff.1 hx
    unfold nd at this
    obtain ⟨i, hi, rfl⟩ := List.mem_map.1 this
    have hi := List.mem_range.1 hi
    have := mxD_le D hi
    refine ⟨⟨?_, this⟩, by simp only; omega, by simp only; omega⟩
    simp only
    rw [List.getD_eq_getElem?_getD, List.getElem?_eq_getElem (by omega)]
    exact (hd _ (List.getElem_mem _)).1
  have M0 := (mxD_bd hd N).1
  have st : BInv N w (mxD D N) [] (List.replicate N 0, sum0 w) := by
    refine ⟨by simp, sum0_eq N w, fun x hx => ?_, fun a ha b hb => ?_⟩
    · have := List.eq_of_mem_replicate hx
      subst this; omega
    · have e : ∀ y ∈ sum0 w, y.1 = 0 := fun y hy => by
        unfold sum0 at hy
        obtain ⟨i, _, rfl⟩ := List.mem_map.1 hy
        rfl
      have e1 := e a ha
      have e2 := e b hb
      omega
  have nd1 : (([] ++ isortC cfP (nd D N)).map Prod.snd).Nodup := by
    rw [List.nil_append]
    refine ((pm.map Prod.snd).nodup_iff).2 ?_
    rw [nd_snd]
    exact List.Pairwise.map _ (fun a b (h : a ≠ b) => show ((a : Nat) : Int) ≠ ((b : Nat) : Int) from by omega) List.nodup_range
  have fin := binv_fold hw (isortC cfP (nd D N)) [] _ st mem (by simp) nd1
  rw [List.nil_append] at fin
  have eR : (isortC cfP (nd D N)).foldl mkS (List.replicate N 0, sum0 w) = mkR D N w := rfl
  rw [eR] at fin
  obtain ⟨len, sums, own, bal⟩ := fin
  refine ⟨len, own, fun a ha b hb => ?_⟩
  have toS : ∀ a ∈ lwS D (mkR D N w).1 w N, ∃ y ∈ (mkR D N w).2, y.1 = a := fun a ha => by
    unfold lwS at ha
    obtain ⟨k, hk, rfl⟩ := List.mem_map.1 ha
    refine ⟨(sumW (nd D N) (mkR D N w).1 k, ((k : Nat) : Int)), ?_, rfl⟩
    rw [sums]
    exact List.mem_map.2 ⟨k, hk, by rw [sumW_perm pm]⟩
  obtain ⟨y, hy, rfl⟩ := toS a ha
  obtain ⟨z, hz, rfl⟩ := toS b hb
  exact bal y hy z hz
theorem hvL_val (D : List Int) (h : Int) (N : Nat) : valGo (N : Int) (-1) (hvL D h N) = true := by
  rw [valGo_iff]
  constructor
  · unfold hvL
    refine List.Pairwise.map _ (fun a b h => ?_) ((List.pairwise_lt_range (n := N)).filter _)
    show (a : Int) < b
    omega
  · intro x hx
    unfold hvL at hx
    obtain ⟨v, hv, rfl⟩ := List.mem_map.1 hx
    have := List.mem_range.1 (List.mem_filter.1 hv).1
    omega
section
attribute [local simp] codeL_seq codeL_reg codeL_blk codeL_skip codeL_ret codeL_exit codeL_cnd condL_b thenL_n thenL_e thenL_r blkL_n blkL_e blkL_r regL_s opsB stepB opB opP opnd opnds lend lendC get_nil' get_cons' put_nil' put_cons' mem_nil' mem_cons' putdB putB slowP hasOwn hasOwnL finO relab anyB anyE anyH anyR borOf borL inSlot HAND endR hasOwnE endK keepIn trim noPtr noPtrL noPtrE noPtrH binA arith unA eqB isNilB eqc lenB bndB bnd rdN rdc AV.cells fillB peek ldOK AV.leaf allLeaf fz pl plL drawB allCW cwF okDrawB okPair Fq.ok dstOff wrOff notSlot noneIn apartR oldBoxes O.reads Kd.reads E.slot slots slotO slotsP List.getD pairIn nilL okRes clean cleanL resV resVs tupOf mkEnv partsBor doCallB inpB getArgs doCallO frzA frzV frzL minA minF cont ownAt at_ setAt rel dropS relC dropAll frzP frzAll firstBor borIn borC borS borE borH handTo mapSt mapE mapH mapB mapBL sw rt fb mvB mvRt seesP inRt isRoot rootOf boxOf seesB rootsL Am.rep ovw flatCells_ints allLeaf_ints flatCells el grp updE isNilB inpV inpL stB okL unA orcA bndB plL_ints fzL stBox inCells wrap0 wrap1 wrapm1 take_snoc BIGB marks boxZ ldLab cellOf cellN CELLM boxIn isCell apartC frzR frzRL frzS frzC frzCL
theorem balN_run (ww hh : Nat) (hww : ww < 256) (hhh : hh < 256) (l : List Int) : callL cfgS nLaw37PartitionBalances [.list 1 (ints l), .int .u8 ww, .int .u8 hh] [] = some (.bool true, []) := by
  rw [callL_end oLaw37PartitionBalances sLaw37PartitionBalances (Nat.le_of_ble_eq_true rfl)]
  have aw := awake37
  have few := few_run l
  by_cases hl : (l.length : Int) ≤ 500
  case neg =>
    unfold qLaw37PartitionBalances cLaw37PartitionBalances
    simp [rLaw37PartitionBalancesX0, rLaw37PartitionBalancesX1, rLaw37PartitionBalancesX2, rLaw37PartitionBalancesX3, rLaw37PartitionBalancesX4, rLaw37PartitionBalancesX5, rLaw37PartitionBalancesX6, rLaw37PartitionBalancesX7, rLaw37PartitionBalancesX8, rLaw37PartitionBalancesX9, rLaw37PartitionBalancesX10, rLaw37PartitionBalancesX11, rLaw37PartitionBalancesX12, rLaw37PartitionBalancesX13, rLaw37PartitionBalancesX14, rLaw37PartitionBalancesX15, rLaw37PartitionBalancesX16, rLaw37PartitionBalancesX17, rLaw37PartitionBalancesX18, rLaw37PartitionBalancesX19, rLaw37PartitionBalancesX20, rLaw37PartitionBalancesX21, rLaw37PartitionBalancesX22, rLaw37PartitionBalancesX23, rLaw37PartitionBalancesX24, rLaw37PartitionBalancesX25, rLaw37PartitionBalancesX26, rLaw37PartitionBalancesX27, few, hl, aw, sMakeFew, iMakeFew, sLaw37Awake, iLaw37Awake, blk, endL, finB]
  have hl5 : l.length ≤ 500 := by omega
  have n1 := new_run l
  obtain ⟨N, Es, a1, n2, hG, hN, hEl⟩ := graph_run l hl5 9 (by omega) 0
  rw [show ((9 : Nat) : Int) = 9 from rfl] at n2
  have hE : Es.length < 1000000 := by omega
  have t1 : (ww : Int).tmod 8 = ((ww % 8 : Nat) : Int) := (Int.ofNat_tmod _ _).symm
  have t2 : (hh : Int).tmod 6 = ((hh % 6 : Nat) : Int) := (Int.ofNat_tmod _ _).symm
  have u1 : IntKind.i64.wrap ((ww % 8 : Nat) : Int) = ((ww % 8 : Nat) : Int) := wrap_id (by omega) (by omega)
  have u2 : IntKind.i64.wrap ((hh % 6 : Nat) : Int) = ((hh % 6 : Nat) : Int) := wrap_id (by omega) (by omega)
  have u3 : IntKind.i64.wrap (1 + ((ww % 8 : Nat) : Int)) = ((1 + ww % 8 : Nat) : Int) := by rw [show (1 + ((ww % 8 : Nat) : Int)) = ((1 + ww % 8 : Nat) : Int) by omega]; exact wrap_id (by omega) (by omega)
  have u4 : IntKind.i64.wrap (1 + ((hh % 6 : Nat) : Int)) = ((1 + hh % 6 : Nat) : Int) := by rw [show (1 + ((hh % 6 : Nat) : Int)) = ((1 + hh % 6 : Nat) : Int) by omega]; exact wrap_id (by omega) (by omega)
  have w1' : 1 ≤ 1 + ww % 8 := by omega
  have w8' : 1 + ww % 8 ≤ 8 := by omega
  have h1' : (1 : Int) ≤ ((1 + hh % 6 : Nat) : Int) := by omega
  generalize 1 + ww % 8 = w at *
  generalize ((1 + hh % 6 : Nat) : Int) = h at *
  generalize ((ww % 8 : Nat) : Int) = w30 at *
  generalize ((hh % 6 : Nat) : Int) = h30 at *
  have mk := pmake_run hN hG hE w1' w8' h1'
  have lD : (dgL (adjE N Es)).length = N := by rw [dgL, List.length_map]; exact (adj_spec hG).1
  have bD : ∀ x ∈ dgL (adjE N Es), 0 ≤ x ∧ x ≤ 64 := by
    intro x hx
    obtain ⟨m, hm, rfl⟩ := List.mem_map.1 hx
    have : pc9 m ≤ 9 := by
      have := List.length_filter_le (fun j => m.testBit j) (List.range 9)
      simpa [pc9] using this
    omega
  obtain ⟨ol, ob, od⟩ := mkR_spec (w := w) w1' lD bD
  have hvv := hvL_val (dgL (adjE N Es)) h N
  have hvl := hvL_length (dgL (adjE N Es)) h N
  generalize mkR (dgL (adjE N Es)) N w = R at *
  have rc := rpchk_run N w w1' w8' R.1 (hvL (dgL (adjE N Es)) h N) ol (by omega) ob (by omega) hvv
  have pc := pchk_run N w w1' w8' R.1 (hvL (dgL (adjE N Es)) h N) ol (by omega) ob (by omega) hvv
  have lp := bl_loop l a1 N hN hG hE w w8' R.1 ol ob h N 0 (by omega)
  have lS := lwS_length (dgL (adjE N Es)) R.1 w N
  have l2 := b2_loop (lwS (dgL (adjE N Es)) R.1 w N) (by omega) (mxD (dgL (adjE N Es)) N) (fun y hy => by
    unfold lwS at hy
    obtain ⟨k, _, rfl⟩ := List.mem_map.1 hy
    have := sumW_bd bD R.1 k N
    omega) od w 0 (by omega)
  have z0 : ints (lwS (dgL (adjE N Es)) R.1 w 0) = List.replicate w (AV.int .i64 0) := by
    unfold lwS ints
    rw [List.map_map]
    apply List.ext_getElem
    · simp
    · intro k h1 h2
      simp [sumW, nd]
  have m0 : mxD (dgL (adjE N Es)) 0 = 0 := rfl
  unfold blSt dk at lp
  unfold b2St at l2
  rw [nat0, z0, m0] at lp
  rw [nat0, lS] at l2
  unfold dk at n1 n2
  rw [nat0] at n1 n2
  have wi : (w : Int) ≤ 4294967296 := by omega
  have wn : w ≤ 4294967296 := by omega
  have w0 : (0 : Int) ≤ (w : Int) := by omega
  have tk : (List.replicate w (AV.int .i64 0)).take w = List.replicate w (AV.int .i64 0) := List.take_of_length_le (by simp)
  have g6 : (ints (lwS (dgL (adjE N Es)) R.1 w N)).length = w := by rw [ints_length, lS]
  have tk2 : (ints (lwS (dgL (adjE N Es)) R.1 w N)).take w = ints (lwS (dgL (adjE N Es)) R.1 w N) := List.take_of_length_le (by omega)
  clear od ob ol hvv z0 m0
  generalize mxD (dgL (adjE N Es)) N = mm at *
  generalize ints (lwS (dgL (adjE N Es)) R.1 w N) = SS at *
  generalize ints (hvL (dgL (adjE N Es)) h N) = HV at *
  generalize ints R.1 = O at *
  generalize eds Es = Y at *
  unfold qLaw37PartitionBalances cLaw37PartitionBalances
  simp [rLaw37PartitionBalancesX0, rLaw37PartitionBalancesX1, rLaw37PartitionBalancesX2, rLaw37PartitionBalancesX3, rLaw37PartitionBalancesX4, rLaw37PartitionBalancesX5, rLaw37PartitionBalancesX6, rLaw37PartitionBalancesX7, rLaw37PartitionBalancesX8, rLaw37PartitionBalancesX9, rLaw37PartitionBalancesX10, rLaw37PartitionBalancesX11, rLaw37PartitionBalancesX12, rLaw37PartitionBalancesX13, rLaw37PartitionBalancesX14, rLaw37PartitionBalancesX15, rLaw37PartitionBalancesX16, rLaw37PartitionBalancesX17, rLaw37PartitionBalancesX18, rLaw37PartitionBalancesX19, rLaw37PartitionBalancesX20, rLaw37PartitionBalancesX21, rLaw37PartitionBalancesX22, rLaw37PartitionBalancesX23, rLaw37PartitionBalancesX24, rLaw37PartitionBalancesX25, rLaw37PartitionBalancesX26, rLaw37PartitionBalancesX27, few, hl, n1, n2, t1, t2, u1, u2, u3, u4, mk, rc, pc, lp, l2, wi, wn, w0, tk, tk2, g6, List.length_replicate, LIM, aw, idx, eqA, eqc, blk, sMakeFew, iMakeFew, sMakeNew, iMakeNew, sMakeGraph, iMakeGraph, sPartitionMake, iPartitionMake, sRef37Check, iRef37Check, sPartitionCheck, iPartitionCheck, sLaw37Awake, iLaw37Awake, plp, plpL, allB, notBox, swC, swS, seesC, inBox, relB, handBox, mvBB, mvRtB, endL, finB]
end
theorem bal_run (l : List Int) (a : Int) (ha : 0 ≤ a ∧ a < 256) (b : Int) (hb : 0 ≤ b ∧ b < 256) : callL cfgS nLaw37PartitionBalances [.list 1 (ints l), .int .u8 a, .int .u8 b] [] = some (.bool true, []) := by
  obtain ⟨x, rfl⟩ : ∃ x : Nat, a = x := ⟨a.toNat, by omega⟩
  obtain ⟨y, rfl⟩ : ∃ y : Nat, b = y := ⟨b.toNat, by omega⟩
  exact balN_run x y (by omega) (by omega) l
end Go.BmP
