/- What partition.Loads returns; a star. -/
import Derived.Test.YtapiaeciffmdnaaP02
set_option linter.unusedSimpArgs false
set_option linter.unusedVariables false
set_option maxRecDepth 100000
set_option maxHeartbeats 4000000
namespace Go.BmP
open Go.Am Go.Bm
def hmE (w : Nat) (o hv : List Int) (e : Ed) : Int := hmV w o hv e.1.toNat e.2.toNat
section
attribute [local simp] codeL_seq codeL_reg codeL_blk codeL_skip codeL_ret codeL_exit codeL_cnd condL_b thenL_n thenL_e thenL_r blkL_n blkL_e blkL_r regL_s opsB stepB opB opP opnd opnds lend lendC get_nil' get_cons' put_nil' put_cons' mem_nil' mem_cons' putdB putB slowP hasOwn hasOwnL finO relab anyB anyE anyH anyR borOf borL inSlot HAND endR hasOwnE endK keepIn trim noPtr noPtrL noPtrE noPtrH binA arith unA eqB isNilB eqc lenB bndB bnd rdN rdc AV.cells fillB peek ldOK AV.leaf allLeaf fz pl plL drawB allCW cwF okDrawB okPair Fq.ok dstOff wrOff notSlot noneIn apartR oldBoxes O.reads Kd.reads E.slot slots slotO slotsP List.getD pairIn nilL okRes clean cleanL resV resVs tupOf mkEnv partsBor doCallB inpB getArgs doCallO frzA frzV frzL minA minF cont ownAt at_ setAt rel dropS relC dropAll frzP frzAll firstBor borIn borC borS borE borH handTo mapSt mapE mapH mapB mapBL sw rt fb mvB mvRt seesP inRt isRoot rootOf boxOf seesB rootsL Am.rep ovw flatCells_ints allLeaf_ints flatCells el grp updE isNilB inpV inpL stB okL unA orcA bndB plL_ints fzL stBox inCells wrap0 wrap1 wrapm1 take_snoc BIGB marks boxZ ldLab cellOf cellN CELLM boxIn isCell apartC frzR frzRL frzS frzC frzCL
theorem ld_loop {N w : Nat} (h0 : 1 ≤ w) (Es : List Ed) (hE : Es.length < 1000000) (o hv : List Int) (ho : o.length = N) (hN : N ≤ 64) (hh : hv.length < 1000000) (hb : ∀ x ∈ o, 0 ≤ x ∧ x < (w : Int)) (he : ∀ e ∈ Es, 0 ≤ e.1 ∧ e.1 < e.2 ∧ e.2 < (N : Int)) : ∀ (k i : Nat) (n : List Int), i + k = Es.length → n.length = w → (∀ x ∈ n, 0 ≤ x ∧ x ≤ (i : Int)) →
    codeL cfgS 0 (.loop lPartitionLoadsX0) (ldSt N w Es o hv n i []) = some (.exit 0, ldSt N w Es o hv (((Es.drop i).map (hmE w o hv)).foldl bump n) Es.length [(23, .bool false)])
  | 0, i, n, hi, hn, hx => by
    obtain rfl : i = Es.length := by omega
    rw [List.drop_length, List.map_nil, List.foldl_nil]
    refine loop_exit ?_
    unfold ldSt lPartitionLoadsX0
    generalize ints n = NN at *
    generalize ints o = O at *
    generalize ints hv = Hv at *
    generalize eds Es = Y at *
    simp [rPartitionLoadsX0, rPartitionLoadsX1, rPartitionLoadsX2, rPartitionLoadsX3, rPartitionLoadsX4, rPartitionLoadsX5, rPartitionLoadsX6, rPartitionLoadsX7, rPartitionLoadsX8, rPartitionLoadsX9, rPartitionLoadsX10]
  | k + 1, i, n, hi, hn, hx => by
    have hlt : i < Es.length := by omega
    rw [List.drop_eq_getElem_cons hlt, List.map_cons, List.foldl_cons]
    have ih := ld_loop h0 Es hE o hv ho hN hh hb he k (i + 1) (bump n (hmE w o hv Es[i])) (by omega) (by rw [bump_length]; exact hn) (fun x hx' => by have := bump_bd (k := (i : Int)) (by omega) hx x hx'; omega)
    exact (loop_next (ld_round h0 Es hE o hv n ho hN hh hb hn (fun x hx' => by have := hx x hx'; omega) i hlt (he _ (List.getElem_mem hlt)))).trans ih
end
def ldV (w : Nat) (o hv : List Int) (Es : List Ed) : List Int := (Es.map (hmE w o hv)).foldl bump (List.replicate w 0)
section
attribute [local simp] codeL_seq codeL_reg codeL_blk codeL_skip codeL_ret codeL_exit codeL_cnd condL_b thenL_n thenL_e thenL_r blkL_n blkL_e blkL_r regL_s opsB stepB opB opP opnd opnds lend lendC get_nil' get_cons' put_nil' put_cons' mem_nil' mem_cons' putdB putB slowP hasOwn hasOwnL finO relab anyB anyE anyH anyR borOf borL inSlot HAND endR hasOwnE endK keepIn trim noPtr noPtrL noPtrE noPtrH binA arith unA eqB isNilB eqc lenB bndB bnd rdN rdc AV.cells fillB peek ldOK AV.leaf allLeaf fz pl plL drawB allCW cwF okDrawB okPair Fq.ok dstOff wrOff notSlot noneIn apartR oldBoxes O.reads Kd.reads E.slot slots slotO slotsP List.getD pairIn nilL okRes clean cleanL resV resVs tupOf mkEnv partsBor doCallB inpB getArgs doCallO frzA frzV frzL minA minF cont ownAt at_ setAt rel dropS relC dropAll frzP frzAll firstBor borIn borC borS borE borH handTo mapSt mapE mapH mapB mapBL sw rt fb mvB mvRt seesP inRt isRoot rootOf boxOf seesB rootsL Am.rep ovw flatCells_ints allLeaf_ints flatCells el grp updE isNilB inpV inpL stB okL unA orcA bndB plL_ints fzL stBox inCells wrap0 wrap1 wrapm1 take_snoc BIGB marks boxZ ldLab cellOf cellN CELLM boxIn isCell apartC frzR frzRL frzS frzC frzCL
theorem loads_run {N w : Nat} (h0 : 1 ≤ w) (h1 : w ≤ 8) {Es : List Ed} (hG : GOK (N : Int) Es) (hE : Es.length < 1000000) (o hv : List Int) (ho : o.length = N) (hh : hv.length < 1000000) (hV : valGo N (-1) hv = true) (hb : ∀ x ∈ o, 0 ≤ x ∧ x < (w : Int)) : callL cfgS nPartitionLoads [.agg [.int .i64 N, .list 2 (eds Es)], .agg [.int .i64 w, .list 1 (ints o), .list 1 (ints hv)]] [] = some (.tup [.list 1 (ints (ldV w o hv Es)), .int .i64 0], []) := by
  have hN := hG.1
  have ck := pcheck_run N Es hG hE w h0 h1 o hv ho hb hh hV
  have lp := ld_loop h0 Es hE o hv ho (by omega) hh hb hG.2.2 Es.length 0 (List.replicate w 0) (by omega) (by simp) (fun x hx => by rw [List.eq_of_mem_replicate hx]; omega)
  rw [List.drop_zero] at lp
  have eL : (Es.map (hmE w o hv)).foldl bump (List.replicate w 0) = ldV w o hv Es := rfl
  rw [eL] at lp
  have ln : (ldV w o hv Es).length = w := by rw [ldV, bumps_length, List.length_replicate]
  have h0i : (w : Int) ≤ 4294967296 := by omega
  have h0n : w ≤ 4294967296 := by omega
  have h00 : (0 : Int) ≤ (w : Int) := by omega
  have rp : List.replicate w (AV.int .i64 0) = ints (List.replicate w 0) := by simp [ints]
  have tk : List.take w (ints (ldV w o hv Es)) = ints (ldV w o hv Es) := List.take_of_length_le (by rw [ints_length, ln]; omega)
  have tk0 : List.take w (ints (List.replicate w 0)) = ints (List.replicate w 0) := List.take_of_length_le (by rw [ints_length, List.length_replicate]; omega)
  have g5 := eds_length Es
  have g6 : (ints (ldV w o hv Es)).length = w := by rw [ints_length, ln]
  have g7 : (ints (List.replicate w 0)).length = w := by rw [ints_length, List.length_replicate]
  unfold ldSt at lp
  rw [nat0] at lp
  rw [callL_end oPartitionLoads sPartitionLoads (Nat.le_of_ble_eq_true rfl)]
  unfold qPartitionLoads cPartitionLoads
  generalize ints (ldV w o hv Es) = tN at *
  generalize ints (List.replicate w 0) = t0 at *
  generalize ints o = O at *
  generalize ints hv = Hv at *
  generalize eds Es = Y at *
  simp [rPartitionLoadsX0, rPartitionLoadsX1, rPartitionLoadsX2, rPartitionLoadsX3, rPartitionLoadsX4, rPartitionLoadsX5, rPartitionLoadsX6, rPartitionLoadsX7, rPartitionLoadsX8, rPartitionLoadsX9, rPartitionLoadsX10, ck, lp, h0i, h0n, h00, rp, tk, tk0, g5, g6, g7, LIM, blk, sPartitionCheck, iPartitionCheck, plL, pl, endL, finB]
end
/-- A star: its edges up to a leaf. -/
def stE (m : Nat) : List Ed := (List.range m).map fun i => ((0 : Int), ((i + 1 : Nat) : Int))
theorem stE_length (m : Nat) : (stE m).length = m := by simp [stE]
theorem stE_succ (m : Nat) : stE (m + 1) = stE m ++ [((0 : Int), ((m + 1 : Nat) : Int))] := by simp [stE, List.range_succ]
theorem stE_mem {m : Nat} {e : Ed} : e ∈ stE m ↔ ∃ i, i < m ∧ e = ((0 : Int), ((i + 1 : Nat) : Int)) := by
  unfold stE
  rw [List.mem_map]
  constructor
  · rintro ⟨i, hi, rfl⟩; exact ⟨i, List.mem_range.1 hi, rfl⟩
  · rintro ⟨i, hi, rfl⟩; exact ⟨i, List.mem_range.2 hi, rfl⟩
theorem stE_ok {k : Nat} (h1 : 1 ≤ k) (h2 : k ≤ 64) : GOK (k : Int) (stE (k - 1)) := by
  refine ⟨⟨by omega, by omega⟩, ?_, fun e he => ?_⟩
  · unfold UpE stE
    rw [List.pairwise_map]
    refine List.Pairwise.imp ?_ List.pairwise_lt_range
    intro a b hab
    exact .inr ⟨rfl, by simp only; omega⟩
  · obtain ⟨i, hi, rfl⟩ := stE_mem.1 he
    simp only; omega
theorem star_heavy (w : Nat) (o : List Int) (m : Nat) : (stE m).map (hmE w o [0]) = (stE m).map fun e => o.getD e.2.toNat 0 := by
  refine List.map_congr_left fun e he => ?_
  obtain ⟨i, hi, rfl⟩ := stE_mem.1 he
  unfold hmE hmV
  rw [if_pos (by simp), if_neg (by simp; omega)]
theorem star_light (w : Nat) (o : List Int) : ∀ (m : Nat) (n : List Int), 0 ≤ o.getD 0 0 → o.getD 0 0 < (n.length : Int) → (((stE m).map (hmE w o [])).foldl bump n).getD (o.getD 0 0).toNat 0 = n.getD (o.getD 0 0).toNat 0 + m
  | 0, n, _, _ => by simp [stE]
  | m + 1, n, h0, h1 => by
    have ih := star_light w o m n h0 h1
    rw [stE_succ, List.map_append, List.foldl_append, List.map_singleton, List.foldl_cons, List.foldl_nil]
    have e : hmE w o [] ((0 : Int), ((m + 1 : Nat) : Int)) = o.getD 0 0 := by unfold hmE hmV; rw [if_neg (by simp)]; rfl
    rw [e]
    have hl : (((stE m).map (hmE w o [])).foldl bump n).length = n.length := bumps_length _ _
    generalize ((stE m).map (hmE w o [])).foldl bump n = n2 at *
    unfold bump
    rw [List.getD_eq_getElem?_getD, List.getElem?_set_self (by omega), Option.getD_some, ih]
    omega
end Go.BmP
