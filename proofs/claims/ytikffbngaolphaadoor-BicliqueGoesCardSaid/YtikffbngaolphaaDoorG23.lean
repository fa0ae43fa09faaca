/- The law of Next, All, Maximal and Best: the whole. -/
import Derived.Test.YtikffbngaolphaaDoorG22
set_option linter.unusedSimpArgs false
set_option linter.unusedVariables false
set_option maxRecDepth 100000
set_option maxHeartbeats 4000000
namespace Go.BmP
open Go.Am Go.Bm
section
attribute [local simp] codeL_seq codeL_reg codeL_blk codeL_skip codeL_ret codeL_exit codeL_cnd condL_b thenL_n thenL_e thenL_r blkL_n blkL_e blkL_r regL_s opsB stepB opB opP opnd opnds lend lendC get_nil' get_cons' put_nil' put_cons' mem_nil' mem_cons' putdB putB slowP hasOwn hasOwnL finO relab anyB anyE anyH anyR borOf borL inSlot HAND endR hasOwnE endK keepIn trim noPtr noPtrL noPtrE noPtrH binA arith unA eqB isNilB eqc lenB bndB bnd rdN rdc AV.cells fillB peek ldOK AV.leaf allLeaf fz pl plL drawB allCW cwF okDrawB okPair Fq.ok dstOff wrOff notSlot noneIn apartR oldBoxes O.reads Kd.reads E.slot slots slotO slotsP List.getD pairIn nilL okRes clean cleanL resV resVs tupOf mkEnv partsBor doCallB inpB getArgs doCallO frzA frzV frzL minA minF cont ownAt at_ setAt rel dropS relC dropAll frzP frzAll firstBor borIn borC borS borE borH handTo mapSt mapE mapH mapB mapBL sw rt fb mvB mvRt seesP inRt isRoot rootOf boxOf seesB rootsL Am.rep ovw flatCells_ints allLeaf_ints flatCells el grp updE isNilB inpV inpL stB okL unA orcA bndB plL_ints fzL stBox inCells wrap0 wrap1 wrapm1 take_snoc
theorem ed_out (N : Nat) (Es : List Ed) (hE : Es.length ≤ 10000) (L : List Int) (l : List Int) (a : Nat) (o : List (List Int)) (ho : ∀ S ∈ o, S.length ≤ 64) (hl : o.length ≤ 4096) (hall : ∀ e ∈ Es, o.any (inC N Es L e) = true) (m : Int) : ∀ (k i : Nat), i + k = Es.length → codeL cfgS 0 (.loop lLaw27BicliqueGoesX2) ⟨[(3, .ptr 1 0), (4, .list 2 (prs N Es L o)), (7, .int .i64 m), (88, .list 2 (eds Es)), (89, .int .i64 Es.length), (90, .int .i64 i)], gH l a N Es L⟩ =
    some (.exit 2, ⟨[(3, .ptr 1 0), (4, .list 2 (prs N Es L o)), (7, .int .i64 m), (88, .list 2 (eds Es)), (89, .int .i64 Es.length), (90, .int .i64 Es.length), (91, .bool false)], gH l a N Es L⟩)
  | 0, i, hi => by
    obtain rfl : i = Es.length := by omega
    exact loop_exit (by unfold lLaw27BicliqueGoesX2 gH dk b0; simp [rLaw27BicliqueGoesX0, rLaw27BicliqueGoesX1, rLaw27BicliqueGoesX2, rLaw27BicliqueGoesX3, rLaw27BicliqueGoesX4, rLaw27BicliqueGoesX5, rLaw27BicliqueGoesX6, rLaw27BicliqueGoesX7, rLaw27BicliqueGoesX8, rLaw27BicliqueGoesX9, rLaw27BicliqueGoesX10, rLaw27BicliqueGoesX11, rLaw27BicliqueGoesX12, rLaw27BicliqueGoesX13, rLaw27BicliqueGoesX14, rLaw27BicliqueGoesX15, rLaw27BicliqueGoesX16, rLaw27BicliqueGoesX17, rLaw27BicliqueGoesX18, rLaw27BicliqueGoesX19, rLaw27BicliqueGoesX20, rLaw27BicliqueGoesX21, rLaw27BicliqueGoesX22, rLaw27BicliqueGoesX23, rLaw27BicliqueGoesX24, rLaw27BicliqueGoesX25, rLaw27BicliqueGoesX26, rLaw27BicliqueGoesX27, rLaw27BicliqueGoesX28, rLaw27BicliqueGoesX29, rLaw27BicliqueGoesX30, rLaw27BicliqueGoesX31, rLaw27BicliqueGoesX32, rLaw27BicliqueGoesX33, blk, eds_length, eds_get, edsAt, edAV, allLeaf_eds, cleanL_eds, cleanL_ints, ints_length, ints_get, intsAt, endL, finB])
  | k + 1, i, hi => by
    have hlt : i < Es.length := by omega
    have h1 : (i : Int) < Es.length := by omega
    have hw := wrapS (i := i) (by omega)
    have ih := ed_out N Es hE L l a o ho hl hall m k (i + 1) (by omega)
    have lp := ed_in (N := N) (Es := Es) (L := L) l a o ho hl Es[i] (i : Int) m o.length 0 false (by omega)
    rw [nat0, List.drop_zero, Bool.false_or, hall _ (List.getElem_mem hlt)] at lp
    have i1 := idx_lt (k := .i64) (i := (i : Int)) (n := Es.length) (by omega) h1
    have g2 := prs_length N Es L o
    refine (loop_next ?_).trans ih
    unfold gH dk b0 at lp ⊢
    simp only [List.cons_append, List.nil_append] at lp
    generalize prs N Es L o = X at *
    unfold lLaw27BicliqueGoesX2
    simp [rLaw27BicliqueGoesX0, rLaw27BicliqueGoesX1, rLaw27BicliqueGoesX2, rLaw27BicliqueGoesX3, rLaw27BicliqueGoesX4, rLaw27BicliqueGoesX5, rLaw27BicliqueGoesX6, rLaw27BicliqueGoesX7, rLaw27BicliqueGoesX8, rLaw27BicliqueGoesX9, rLaw27BicliqueGoesX10, rLaw27BicliqueGoesX11, rLaw27BicliqueGoesX12, rLaw27BicliqueGoesX13, rLaw27BicliqueGoesX14, rLaw27BicliqueGoesX15, rLaw27BicliqueGoesX16, rLaw27BicliqueGoesX17, rLaw27BicliqueGoesX18, rLaw27BicliqueGoesX19, rLaw27BicliqueGoesX20, rLaw27BicliqueGoesX21, rLaw27BicliqueGoesX22, rLaw27BicliqueGoesX23, rLaw27BicliqueGoesX24, rLaw27BicliqueGoesX25, rLaw27BicliqueGoesX26, rLaw27BicliqueGoesX27, rLaw27BicliqueGoesX28, rLaw27BicliqueGoesX29, rLaw27BicliqueGoesX30, rLaw27BicliqueGoesX31, rLaw27BicliqueGoesX32, rLaw27BicliqueGoesX33, h1, hw, hlt, i1, g2, lp, blk, eds_length, eds_get, edsAt, edAV, allLeaf_eds, cleanL_eds, cleanL_ints, ints_length, ints_get, intsAt, endL, finB]
theorem goes_law (l : List Int) : callL cfgS nLaw27BicliqueGoes [.list 1 (ints l)] [] = some (.bool true, []) := by
  rw [callL_end oLaw27BicliqueGoes sLaw27BicliqueGoes (Nat.le_of_ble_eq_true rfl)]
  have aw := awake27
  have few := few_run l
  by_cases hl : (l.length : Int) ≤ 500
  case neg =>
    unfold qLaw27BicliqueGoes cLaw27BicliqueGoes
    simp [rLaw27BicliqueGoesX0, rLaw27BicliqueGoesX1, rLaw27BicliqueGoesX2, rLaw27BicliqueGoesX3, rLaw27BicliqueGoesX4, rLaw27BicliqueGoesX5, rLaw27BicliqueGoesX6, rLaw27BicliqueGoesX7, rLaw27BicliqueGoesX8, rLaw27BicliqueGoesX9, rLaw27BicliqueGoesX10, rLaw27BicliqueGoesX11, rLaw27BicliqueGoesX12, rLaw27BicliqueGoesX13, rLaw27BicliqueGoesX14, rLaw27BicliqueGoesX15, rLaw27BicliqueGoesX16, rLaw27BicliqueGoesX17, rLaw27BicliqueGoesX18, rLaw27BicliqueGoesX19, rLaw27BicliqueGoesX20, rLaw27BicliqueGoesX21, rLaw27BicliqueGoesX22, rLaw27BicliqueGoesX23, rLaw27BicliqueGoesX24, rLaw27BicliqueGoesX25, rLaw27BicliqueGoesX26, rLaw27BicliqueGoesX27, rLaw27BicliqueGoesX28, rLaw27BicliqueGoesX29, rLaw27BicliqueGoesX30, rLaw27BicliqueGoesX31, rLaw27BicliqueGoesX32, rLaw27BicliqueGoesX33, few, hl, aw, sMakeFew, iMakeFew, sLaw27Awake, iLaw27Awake, blk, eds_length, eds_get, edsAt, edAV, allLeaf_eds, cleanL_eds, cleanL_ints, ints_length, ints_get, intsAt, endL, finB]
  have hl5 : l.length ≤ 500 := by omega
  have n1 := new_run l
  obtain ⟨N, Es, L, a1, n2, hB, hN, hEl, hLl⟩ := sided_run l hl5 9 (by omega) 0
  have w1 := all_run hB (by omega) (by omega) 4096
  have q1 : (allC N Es L).length ≤ 4096 := by
    have f := allC_few hB
    have : L.length ≤ 9 := by
      have hs := sub_of_up (L := (List.range 9).map fun i => ((i : Nat) : Int)) (S := L) hB.l.1 (by
        unfold Up
        exact List.Pairwise.map _ (fun a b h => by omega) List.pairwise_lt_range) fun x hx => by
        have := hB.l.2 x hx
        rw [List.mem_map]
        exact ⟨x.toNat, List.mem_range.2 (by omega), by omega⟩
      have := hs.length_le
      simpa using this
    have : 2 ^ L.length ≤ 2 ^ 9 := Nat.pow_le_pow_right (by decide) this
    omega
  have ev : allV N Es L 4096 = .tup [.list 2 (prs N Es L (allC N Es L)), .int .i64 0] := by
    unfold allV
    rw [if_neg (by omega), if_pos (by omega)]
  rw [ev] at w1
  obtain ⟨A', lp⟩ := go_loop hB hEl hLl l a1 q1 (allC N Es L).length 0 0 (.own 1 []) [] (by omega) (by omega) (by decide) (.inl ⟨rfl, rfl⟩) (by rw [behC_nil hB, List.drop_zero])
  rw [nat0, List.drop_zero] at lp
  have hall : ∀ e ∈ Es, (allC N Es L).any (inC N Es L e) = true := fun e he => by
    obtain ⟨S, h1, h2, h3⟩ := edge_in hB he
    rw [List.any_eq_true]
    refine ⟨S, h1, ?_⟩
    unfold inC
    rw [Bool.and_eq_true, decide_eq_true_eq, decide_eq_true_eq, (uni_spec _ _).2, (uni_spec _ _).2]
    exact ⟨h2, h3⟩
  have lq := ed_out N Es hEl L l a1 (allC N Es L) (allC_bd hB) q1 hall ((mostC N Es L (allC N Es L) 0 : Nat) : Int) Es.length 0 (by omega)
  rw [nat0] at lq
  have bs := best_run27 hB (by omega) (by omega)
  have g2 := prs_length N Es L (allC N Es L)
  unfold gH dk b0 at *
  simp only [nat0, show ((9 : Nat) : Int) = 9 from rfl] at n1 n2
  by_cases hE0 : Es = []
  · have hz : allC N Es L = [] := by
      subst hE0
      exact allC_none hB
    have hb : bestC N Es L = none := by
      unfold bestC
      rw [hz]
      rfl
    rw [hb] at bs
    unfold bestV at bs
    rw [hz] at lp w1 lq g2
    have e0 : prs N Es L [] = [] := rfl
    have e1 : mostC N Es L [] 0 = 0 := rfl
    have e2 : eds [] = [] := rfl
    subst hE0
    rw [e0] at lp w1 lq
    rw [e1] at lp lq
    simp only [e2, List.length_nil, nat0] at lp lq n2 w1 bs
    clear hB hall hz hb g2 q1 ev
    unfold qLaw27BicliqueGoes cLaw27BicliqueGoes
    simp [rLaw27BicliqueGoesX0, rLaw27BicliqueGoesX1, rLaw27BicliqueGoesX2, rLaw27BicliqueGoesX3, rLaw27BicliqueGoesX4, rLaw27BicliqueGoesX5, rLaw27BicliqueGoesX6, rLaw27BicliqueGoesX7, rLaw27BicliqueGoesX8, rLaw27BicliqueGoesX9, rLaw27BicliqueGoesX10, rLaw27BicliqueGoesX11, rLaw27BicliqueGoesX12, rLaw27BicliqueGoesX13, rLaw27BicliqueGoesX14, rLaw27BicliqueGoesX15, rLaw27BicliqueGoesX16, rLaw27BicliqueGoesX17, rLaw27BicliqueGoesX18, rLaw27BicliqueGoesX19, rLaw27BicliqueGoesX20, rLaw27BicliqueGoesX21, rLaw27BicliqueGoesX22, rLaw27BicliqueGoesX23, rLaw27BicliqueGoesX24, rLaw27BicliqueGoesX25, rLaw27BicliqueGoesX26, rLaw27BicliqueGoesX27, rLaw27BicliqueGoesX28, rLaw27BicliqueGoesX29, rLaw27BicliqueGoesX30, rLaw27BicliqueGoesX31, rLaw27BicliqueGoesX32, rLaw27BicliqueGoesX33, few, hl, n1, n2, w1, lp, lq, bs, aw, e2, sMakeFew, iMakeFew, sMakeNew, iMakeNew, sFieldSided, iFieldSided, sBicliqueAll, iBicliqueAll, sBicliqueBest, iBicliqueBest, sLaw27Awake, iLaw27Awake, plp, plpL, allB, notBox, swC, swS, seesC, inBox, blk, eds_length, eds_get, edsAt, edAV, allLeaf_eds, cleanL_eds, cleanL_ints, ints_length, ints_get, intsAt, endL, finB]
  · obtain ⟨S, hS, hb, hp⟩ := best_most hB hE0
    rw [hb] at bs
    have bsV : bestV N Es L (some S) = .tup [.agg [.list 1 (ints S), .list 1 (ints (clR N Es L S))], .int .i64 0] := rfl
    rw [bsV] at bs
    have sb := allC_bd hB S hS
    have tb := clR_len N Es L S
    have mv := maximal_run hB (by omega) (by omega) S (clR N Es L S) (by omega) (by omega)
    rw [maxV_all hB hS] at mv
    have pb : prodC N Es L S ≤ 64 * 64 := Nat.mul_le_mul sb tb
    have wq : IntKind.i64.wrap ((S.length : Int) * ((clR N Es L S).length : Int)) = ((mostC N Es L (allC N Es L) 0 : Nat) : Int) := by
      rw [← Int.natCast_mul, ← hp]
      exact wrapN (by unfold prodC at pb; omega)
    have l0 : ¬ (Es.length : Int) = 0 := by have := List.length_pos_iff.2 hE0; omega
    clear pb hp hall hb bsV ev
    generalize ((mostC N Es L (allC N Es L) 0 : Nat) : Int) = M at *
    generalize (((allC N Es L).length + 1 : Nat) : Int) = n1' at *
    generalize clR N Es L S = T at *
    generalize prs N Es L (allC N Es L) = X at *
    unfold qLaw27BicliqueGoes cLaw27BicliqueGoes
    simp [rLaw27BicliqueGoesX0, rLaw27BicliqueGoesX1, rLaw27BicliqueGoesX2, rLaw27BicliqueGoesX3, rLaw27BicliqueGoesX4, rLaw27BicliqueGoesX5, rLaw27BicliqueGoesX6, rLaw27BicliqueGoesX7, rLaw27BicliqueGoesX8, rLaw27BicliqueGoesX9, rLaw27BicliqueGoesX10, rLaw27BicliqueGoesX11, rLaw27BicliqueGoesX12, rLaw27BicliqueGoesX13, rLaw27BicliqueGoesX14, rLaw27BicliqueGoesX15, rLaw27BicliqueGoesX16, rLaw27BicliqueGoesX17, rLaw27BicliqueGoesX18, rLaw27BicliqueGoesX19, rLaw27BicliqueGoesX20, rLaw27BicliqueGoesX21, rLaw27BicliqueGoesX22, rLaw27BicliqueGoesX23, rLaw27BicliqueGoesX24, rLaw27BicliqueGoesX25, rLaw27BicliqueGoesX26, rLaw27BicliqueGoesX27, rLaw27BicliqueGoesX28, rLaw27BicliqueGoesX29, rLaw27BicliqueGoesX30, rLaw27BicliqueGoesX31, rLaw27BicliqueGoesX32, rLaw27BicliqueGoesX33, few, hl, n1, n2, w1, lp, lq, bs, mv, wq, l0, hE0, g2, aw, sMakeFew, iMakeFew, sMakeNew, iMakeNew, sFieldSided, iFieldSided, sBicliqueAll, iBicliqueAll, sBicliqueBest, iBicliqueBest, sBicliqueMaximal, iBicliqueMaximal, sLaw27Awake, iLaw27Awake, plp, plpL, allB, notBox, swC, swS, seesC, inBox, blk, eds_length, eds_get, edsAt, edAV, allLeaf_eds, cleanL_eds, cleanL_ints, ints_length, ints_get, intsAt, endL, finB]
end
end Go.BmP
