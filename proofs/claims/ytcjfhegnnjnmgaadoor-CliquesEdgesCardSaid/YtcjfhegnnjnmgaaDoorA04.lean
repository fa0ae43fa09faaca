/- The law of an edge more returns true. -/
import Derived.Test.YtcjfhegnnjnmgaaDoorA03
set_option linter.unusedSimpArgs false
set_option linter.unusedVariables false
set_option maxRecDepth 100000
set_option maxHeartbeats 4000000
namespace Go.BmP
open Go.Am Go.Bm
def gb (N : Nat) (Es : List Ed) : Blk := some [.int .i64 N, .list 2 (eds Es)]
theorem rest_gb (N : Nat) (Es : List Ed) : Rest [gb N Es] := ⟨fun _ => rfl, rfl, fun _ _ => rfl, fun _ => rfl, fun _ _ => rfl⟩
theorem mcl_bd {N : Nat} {Es : List Ed} (hG : GOK (N : Int) Es) (hN : N ≤ 9) : (mcl N Es).length ≤ 4096 ∧ ∀ S ∈ mcl N Es, S.length ≤ 64 := by
  have h1 := mcl_few hG
  have h2 : 2 ^ N ≤ 2 ^ 9 := Nat.pow_le_pow_right (by omega) hN
  refine ⟨by omega, fun S hS => ?_⟩
  have m := (mcl_mem hG).1 hS
  have key : ∀ {l : List Int} {a : Nat}, Up l → (∀ x ∈ l, (a : Int) ≤ x ∧ x < N) → l.length ≤ N - a := by
    intro l
    induction l with
    | nil => intro a _ _; simp
    | cons x r ih =>
      intro a hu hb
      obtain ⟨p1, p2⟩ := List.pairwise_cons.1 hu
      obtain ⟨b1, b2⟩ := hb x (by simp)
      have := ih (a := x.toNat + 1) p2 fun y hy => by
        have := p1 y hy
        have := hb y (by simp [hy])
        omega
      simp only [List.length_cons]
      omega
  have := key (a := 0) m.1.up fun x hx => by have := m.1.bd x hx; omega
  omega
section
attribute [local simp] codeL_seq codeL_reg codeL_blk codeL_skip codeL_ret codeL_exit codeL_cnd condL_b thenL_n thenL_e thenL_r blkL_n blkL_e blkL_r regL_s opsB stepB opB opP opnd opnds lend lendC get_nil' get_cons' put_nil' put_cons' mem_nil' mem_cons' putdB putB slowP hasOwn hasOwnL finO relab anyB anyE anyH anyR borOf borL inSlot HAND endR hasOwnE endK keepIn trim noPtr noPtrL noPtrE noPtrH binA arith unA eqB isNilB eqc lenB bndB bnd rdN rdc AV.cells fillB peek ldOK AV.leaf allLeaf fz pl plL drawB allCW cwF okDrawB okPair Fq.ok dstOff wrOff notSlot noneIn apartR oldBoxes O.reads Kd.reads E.slot slots slotO slotsP List.getD pairIn nilL okRes clean cleanL resV resVs tupOf mkEnv partsBor doCallB inpB getArgs doCallO frzA frzV frzL minA minF cont ownAt at_ setAt rel dropS relC dropAll frzP frzAll firstBor borIn borC borS borE borH handTo mapSt mapE mapH mapB mapBL sw rt fb mvB mvRt seesP inRt isRoot rootOf boxOf seesB rootsL Am.rep ovw flatCells_ints allLeaf_ints flatCells el grp updE isNilB inpV inpL stB okL unA orcA bndB plL_ints fzL stBox inCells wrap0 wrap1 wrapm1 take_snoc BIGB marks boxZ ldLab cellOf cellN CELLM boxIn isCell apartC frzR frzRL frzS frzC frzCL
theorem cledges_run (l : List Int) : callL cfgS nLaw24CliquesEdges [.list 1 (ints l)] [] = some (.bool true, []) := by
  rw [callL_end oLaw24CliquesEdges sLaw24CliquesEdges (Nat.le_of_ble_eq_true rfl)]
  have aw := awake24
  have few := few_run l
  by_cases hl : (l.length : Int) ≤ 500
  case neg =>
    unfold qLaw24CliquesEdges cLaw24CliquesEdges
    simp [rLaw24CliquesEdgesX0, rLaw24CliquesEdgesX1, rLaw24CliquesEdgesX2, rLaw24CliquesEdgesX3, rLaw24CliquesEdgesX4, rLaw24CliquesEdgesX5, rLaw24CliquesEdgesX6, rLaw24CliquesEdgesX7, rLaw24CliquesEdgesX8, rLaw24CliquesEdgesX9, rLaw24CliquesEdgesX10, rLaw24CliquesEdgesX11, rLaw24CliquesEdgesX12, rLaw24CliquesEdgesX13, rLaw24CliquesEdgesX14, rLaw24CliquesEdgesX15, rLaw24CliquesEdgesX16, rLaw24CliquesEdgesX17, rLaw24CliquesEdgesX18, rLaw24CliquesEdgesX19, rLaw24CliquesEdgesX20, rLaw24CliquesEdgesX21, rLaw24CliquesEdgesX22, rLaw24CliquesEdgesX23, rLaw24CliquesEdgesX24, rLaw24CliquesEdgesX25, rLaw24CliquesEdgesX26, rLaw24CliquesEdgesX27, rLaw24CliquesEdgesX28, rLaw24CliquesEdgesX29, rLaw24CliquesEdgesX30, rLaw24CliquesEdgesX31, rLaw24CliquesEdgesX32, rLaw24CliquesEdgesX33, rLaw24CliquesEdgesX34, rLaw24CliquesEdgesX35, few, hl, aw, sMakeFew, iMakeFew, eMakeFew, sLaw24Awake, iLaw24Awake, eLaw24Awake, blk, endL, finB]
  have hl5 : l.length ≤ 500 := by omega
  have n1 := new_run l
  obtain ⟨N, Es, a1, n2, hG, hN, hEl⟩ := graph_run l hl5 7 (by omega) 0
  rw [show ((7 : Nat) : Int) = 7 from rfl] at n2
  have hE : Es.length < 1000000 := by omega
  have d1 := next_run l hl5 a1 7 (by omega) [gb N Es] (rest_gb N Es)
  have d2 := next_run l hl5 (nxA l a1 7) 7 (by omega) [gb N Es] (rest_gb N Es)
  generalize nxV l a1 7 = u at *
  generalize nxA l (nxA l a1 7) 7 = a3 at *
  generalize nxV l (nxA l a1 7) 7 = v at *
  generalize nxA l a1 7 = a2 at *
  have ad := add_run N Es hG hE u v
  unfold addV at ad
  unfold dk at n1 n2
  rw [nat0] at n1 n2
  unfold dk gb at d1 d2
  by_cases q : EndsOK N u v
  · rw [if_pos q] at ad
    by_cases m : nrmE u v ∈ Es
    · rw [if_pos m] at ad
      unfold qLaw24CliquesEdges cLaw24CliquesEdges
      generalize eds Es = Y at *
      simp [rLaw24CliquesEdgesX0, rLaw24CliquesEdgesX1, rLaw24CliquesEdgesX2, rLaw24CliquesEdgesX3, rLaw24CliquesEdgesX4, rLaw24CliquesEdgesX5, rLaw24CliquesEdgesX6, rLaw24CliquesEdgesX7, rLaw24CliquesEdgesX8, rLaw24CliquesEdgesX9, rLaw24CliquesEdgesX10, rLaw24CliquesEdgesX11, rLaw24CliquesEdgesX12, rLaw24CliquesEdgesX13, rLaw24CliquesEdgesX14, rLaw24CliquesEdgesX15, rLaw24CliquesEdgesX16, rLaw24CliquesEdgesX17, rLaw24CliquesEdgesX18, rLaw24CliquesEdgesX19, rLaw24CliquesEdgesX20, rLaw24CliquesEdgesX21, rLaw24CliquesEdgesX22, rLaw24CliquesEdgesX23, rLaw24CliquesEdgesX24, rLaw24CliquesEdgesX25, rLaw24CliquesEdgesX26, rLaw24CliquesEdgesX27, rLaw24CliquesEdgesX28, rLaw24CliquesEdgesX29, rLaw24CliquesEdgesX30, rLaw24CliquesEdgesX31, rLaw24CliquesEdgesX32, rLaw24CliquesEdgesX33, rLaw24CliquesEdgesX34, rLaw24CliquesEdgesX35, few, hl, n1, n2, d1, d2, ad, aw, sMakeFew, iMakeFew, eMakeFew, sMakeNew, iMakeNew, eMakeNew, sMakeGraph, iMakeGraph, eMakeGraph, sMakeDeckNext, iMakeDeckNext, eMakeDeckNext, sGraphAdd, iGraphAdd, eGraphAdd, sLaw24Awake, iLaw24Awake, eLaw24Awake, blk, plp, plpL, allB, notBox, swC, swS, seesC, inBox, relB, handBox, mvBB, mvRtB, offBoxes, offLab, calmB, ptrs, ptrsL, blkE, avE, avLE, endL, finB]
    · rw [if_neg m] at ad
      have hF := add_ok hG q.1 q.2.1 q.2.2
      have lF := putE_len (nrmE u v) Es
      have lF2 : (putE (nrmE u v) Es).length < 4294967295 := by omega
      have a1r := allK_run hG (by omega) 4096
      have a2r := allK_run hF lF2 4096
      obtain ⟨bA, cA⟩ := mcl_bd hG (by omega)
      obtain ⟨bB, cB⟩ := mcl_bd hF (by omega)
      have no := fun S hS => new_old hG q.1 q.2.1 q.2.2 m (S := S) hS
      have kp : ∀ S ∈ mcl N Es, inAny S (mcl N (putE (nrmE u v) Es)) = true := fun S hS => by
        obtain ⟨T, hT, h⟩ := kept_old hG q.1 q.2.1 q.2.2 hS
        unfold inAny
        rw [List.any_eq_true]
        exact ⟨T, hT, List.all_eq_true.2 fun x hx => by simpa using h x hx⟩
      unfold allK at a1r a2r
      rw [if_neg (by omega), if_pos (by omega)] at a1r a2r
      generalize mcl N (putE (nrmE u v) Es) = B at *
      generalize mcl N Es = A at *
      have l1 := c1_loop u v A B bA bB cA cB no B.length 0 (by omega)
      have l3 := c3_loop A B bA bB cA cB kp A.length 0 (by omega)
      unfold c1St at l1
      unfold c3St at l3
      rw [nat0] at l1 l3
      have gA := lls_length A
      have gB := lls_length B
      have gF := eds_length (putE (nrmE u v) Es)
      clear no kp cA cB hF
      unfold qLaw24CliquesEdges cLaw24CliquesEdges
      generalize eds (putE (nrmE u v) Es) = Y2 at *
      generalize eds Es = Y at *
      generalize lls A = XA at *
      generalize lls B = XB at *
      simp [rLaw24CliquesEdgesX0, rLaw24CliquesEdgesX1, rLaw24CliquesEdgesX2, rLaw24CliquesEdgesX3, rLaw24CliquesEdgesX4, rLaw24CliquesEdgesX5, rLaw24CliquesEdgesX6, rLaw24CliquesEdgesX7, rLaw24CliquesEdgesX8, rLaw24CliquesEdgesX9, rLaw24CliquesEdgesX10, rLaw24CliquesEdgesX11, rLaw24CliquesEdgesX12, rLaw24CliquesEdgesX13, rLaw24CliquesEdgesX14, rLaw24CliquesEdgesX15, rLaw24CliquesEdgesX16, rLaw24CliquesEdgesX17, rLaw24CliquesEdgesX18, rLaw24CliquesEdgesX19, rLaw24CliquesEdgesX20, rLaw24CliquesEdgesX21, rLaw24CliquesEdgesX22, rLaw24CliquesEdgesX23, rLaw24CliquesEdgesX24, rLaw24CliquesEdgesX25, rLaw24CliquesEdgesX26, rLaw24CliquesEdgesX27, rLaw24CliquesEdgesX28, rLaw24CliquesEdgesX29, rLaw24CliquesEdgesX30, rLaw24CliquesEdgesX31, rLaw24CliquesEdgesX32, rLaw24CliquesEdgesX33, rLaw24CliquesEdgesX34, rLaw24CliquesEdgesX35, few, hl, n1, n2, d1, d2, ad, a1r, a2r, l1, l3, gA, gB, aw, sMakeFew, iMakeFew, eMakeFew, sMakeNew, iMakeNew, eMakeNew, sMakeGraph, iMakeGraph, eMakeGraph, sMakeDeckNext, iMakeDeckNext, eMakeDeckNext, sGraphAdd, iGraphAdd, eGraphAdd, sCliquesAll, iCliquesAll, eCliquesAll, sLaw24Awake, iLaw24Awake, eLaw24Awake, blk, plp, plpL, allB, notBox, swC, swS, seesC, inBox, relB, handBox, mvBB, mvRtB, offBoxes, offLab, calmB, ptrs, ptrsL, blkE, avE, avLE, endL, finB]
  · rw [if_neg q] at ad
    unfold qLaw24CliquesEdges cLaw24CliquesEdges
    generalize eds Es = Y at *
    simp [rLaw24CliquesEdgesX0, rLaw24CliquesEdgesX1, rLaw24CliquesEdgesX2, rLaw24CliquesEdgesX3, rLaw24CliquesEdgesX4, rLaw24CliquesEdgesX5, rLaw24CliquesEdgesX6, rLaw24CliquesEdgesX7, rLaw24CliquesEdgesX8, rLaw24CliquesEdgesX9, rLaw24CliquesEdgesX10, rLaw24CliquesEdgesX11, rLaw24CliquesEdgesX12, rLaw24CliquesEdgesX13, rLaw24CliquesEdgesX14, rLaw24CliquesEdgesX15, rLaw24CliquesEdgesX16, rLaw24CliquesEdgesX17, rLaw24CliquesEdgesX18, rLaw24CliquesEdgesX19, rLaw24CliquesEdgesX20, rLaw24CliquesEdgesX21, rLaw24CliquesEdgesX22, rLaw24CliquesEdgesX23, rLaw24CliquesEdgesX24, rLaw24CliquesEdgesX25, rLaw24CliquesEdgesX26, rLaw24CliquesEdgesX27, rLaw24CliquesEdgesX28, rLaw24CliquesEdgesX29, rLaw24CliquesEdgesX30, rLaw24CliquesEdgesX31, rLaw24CliquesEdgesX32, rLaw24CliquesEdgesX33, rLaw24CliquesEdgesX34, rLaw24CliquesEdgesX35, few, hl, n1, n2, d1, d2, ad, aw, sMakeFew, iMakeFew, eMakeFew, sMakeNew, iMakeNew, eMakeNew, sMakeGraph, iMakeGraph, eMakeGraph, sMakeDeckNext, iMakeDeckNext, eMakeDeckNext, sGraphAdd, iGraphAdd, eGraphAdd, sLaw24Awake, iLaw24Awake, eLaw24Awake, blk, plp, plpL, allB, notBox, swC, swS, seesC, inBox, relB, handBox, mvBB, mvRtB, offBoxes, offLab, calmB, ptrs, ptrsL, blkE, avE, avLE, endL, finB]
end
end Go.BmP
