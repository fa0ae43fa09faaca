/- The law of going through: what is left. -/
import Derived.Test.YtiohfglnoneanaaDoorE07
set_option linter.unusedSimpArgs false
set_option linter.unusedVariables false
set_option maxRecDepth 100000
set_option maxHeartbeats 8000000
namespace Go.BmP
open Go.Am Go.Bm
theorem lls_take (o : List (List Int)) (n : Nat) : lls (o.take n) = (lls o).take n := by simp [lls]
theorem lls_drop (o : List (List Int)) (n : Nat) : lls (o.drop n) = (lls o).drop n := by simp [lls]
theorem lls_app (o p : List (List Int)) : lls (o ++ p) = lls o ++ lls p := by simp [lls]
theorem lls_set (o : List (List Int)) (i : Nat) (S : List Int) : lls (o.set i S) = (lls o).set i (.list 1 (ints S)) := by simp [lls]
theorem ne_less {O : List (List Int)} {K : Nat} (h : K < O.length) : O ≠ O.take K ++ O.drop (K + 1) := fun e => by
  have := congrArg List.length e
  simp at this
  omega
theorem ne_twice {O : List (List Int)} {K : Nat} (h : K < O.length) : O ≠ O.take (K + 1) ++ O.drop K := fun e => by
  have := congrArg List.length e
  simp at this
  omega
theorem ne_other {O : List (List Int)} (hn : O.Nodup) (h : 1 < O.length) : O ≠ (O.set 0 O[O.length - 1]).set (O.length - 1) O[0] := fun e => by
  have e2 : O[0]? = ((O.set 0 O[O.length - 1]).set (O.length - 1) O[0])[0]? := by rw [← e]
  rw [List.getElem?_set_ne (by omega), List.getElem?_set_self (by omega), List.getElem?_eq_getElem (by omega)] at e2
  exact List.pairwise_iff_getElem.1 hn 0 (O.length - 1) (by omega) (by omega) (by omega) (Option.some.inj e2)
theorem other_chk {N : Nat} {Es : List Ed} (hG : GOK (N : Int) Es) (hE : Es.length ≤ 10000) (hO : (mcl N Es).length ≤ 4096) (hp : 0 < (mcl N Es).length) : ∃ S0 SN : List Int, (mcl N Es)[0]? = some S0 ∧ (mcl N Es)[(mcl N Es).length - 1]? = some SN ∧ (1 < (mcl N Es).length → callL cfgS nCliquesCheck [.agg [.int .i64 N, .list 2 (eds Es)], .list 1 (lls (((mcl N Es).set 0 SN).set ((mcl N Es).length - 1) S0))] [] = some (.bool false, [])) := by
  refine ⟨(mcl N Es)[0], (mcl N Es)[(mcl N Es).length - 1], List.getElem?_eq_getElem hp, List.getElem?_eq_getElem (by omega), fun h1 => ?_⟩
  have := checkK_run hG (by omega) (((mcl N Es).set 0 (mcl N Es)[(mcl N Es).length - 1]).set ((mcl N Es).length - 1) (mcl N Es)[0]) (by simp; omega)
  rw [decide_eq_false (ne_other mcl_nodup h1)] at this
  exact this
section
attribute [local simp] codeL_seq codeL_reg codeL_blk codeL_skip codeL_ret codeL_exit codeL_cnd condL_b thenL_n thenL_e thenL_r blkL_n blkL_e blkL_r regL_s opsB stepB opB opP opnd opnds lend lendC get_nil' get_cons' put_nil' put_cons' mem_nil' mem_cons' putdB putB slowP hasOwn hasOwnL finO relab anyB anyE anyH anyR borOf borL inSlot HAND endR hasOwnE endK keepIn trim noPtr noPtrL noPtrE noPtrH binA arith unA eqB isNilB eqc lenB bndB bnd rdN rdc AV.cells fillB peek ldOK AV.leaf allLeaf fz pl plL drawB allCW cwF okDrawB okPair Fq.ok dstOff wrOff notSlot noneIn apartR oldBoxes O.reads Kd.reads E.slot slots slotO slotsP List.getD pairIn nilL okRes clean cleanL resV resVs tupOf mkEnv partsBor doCallB inpB getArgs doCallO frzA frzV frzL minA minF cont ownAt at_ setAt rel dropS relC dropAll frzP frzAll firstBor borIn borC borS borE borH handTo mapSt mapE mapH mapB mapBL sw rt fb mvB mvRt seesP inRt isRoot rootOf boxOf seesB rootsL Am.rep ovw flatCells_ints allLeaf_ints flatCells el grp updE isNilB inpV inpL stB okL unA orcA bndB plL_ints fzL stBox inCells wrap0 wrap1 wrapm1 take_snoc BIGB marks
theorem goes_run (l : List Int) : callL cfgS nLaw24CliquesGoes [.list 1 (ints l)] [] = some (.bool true, []) := by
  rw [callL_end oLaw24CliquesGoes sLaw24CliquesGoes (Nat.le_of_ble_eq_true rfl)]
  have aw := awake24
  have few := few_run l
  by_cases hl : (l.length : Int) ≤ 500
  case neg =>
    unfold qLaw24CliquesGoes cLaw24CliquesGoes
    simp [rLaw24CliquesGoesX0, rLaw24CliquesGoesX1, rLaw24CliquesGoesX2, rLaw24CliquesGoesX3, rLaw24CliquesGoesX4, rLaw24CliquesGoesX5, rLaw24CliquesGoesX6, rLaw24CliquesGoesX7, rLaw24CliquesGoesX8, rLaw24CliquesGoesX9, rLaw24CliquesGoesX10, rLaw24CliquesGoesX11, rLaw24CliquesGoesX12, rLaw24CliquesGoesX13, rLaw24CliquesGoesX14, rLaw24CliquesGoesX15, rLaw24CliquesGoesX16, rLaw24CliquesGoesX17, rLaw24CliquesGoesX18, rLaw24CliquesGoesX19, rLaw24CliquesGoesX20, rLaw24CliquesGoesX21, rLaw24CliquesGoesX22, rLaw24CliquesGoesX23, rLaw24CliquesGoesX24, rLaw24CliquesGoesX25, few, hl, aw, sMakeFew, iMakeFew, sLaw24Awake, iLaw24Awake, blk, eds_length, eds_get, edsAt, edAV, allLeaf_eds, cleanL_eds, cleanL_ints, ints_length, ints_get, intsAt, endL, finB]
  have hl5 : l.length ≤ 500 := by omega
  have n1 := new_run l
  obtain ⟨N, Es, a1, n2, hG, hN, hEl⟩ := graph_run l hl5 8 (by omega) 0
  have al := allK_run hG (by omega) 4096
  have q1 : (mcl N Es).length ≤ 4096 := by
    have f := mcl_few hG
    have : 2 ^ N ≤ 2 ^ 8 := Nat.pow_le_pow_right (by decide) hN
    omega
  have ev : allK N Es 4096 = .tup [.list 1 (lls (mcl N Es)), .int .i64 0] := by
    unfold allK
    rw [if_neg (by omega), if_pos (by omega)]
  rw [ev] at al
  have ob : ∀ S ∈ mcl N Es, S.length ≤ 64 := fun S hS => by
    have m := ((mcl_mem hG).1 hS).1
    exact up_len m.up (isC_bd hG m)
  have lp := go_loop hG hEl l a1 q1 ob (mcl N Es).length 0 (.own 1 []) [] (by omega) (.inl ⟨rfl, rfl⟩) (by simp) (by rw [behK_nil hG, List.drop_zero])
  have c0 := checkK_run hG (by omega) (mcl N Es) (by omega)
  rw [decide_eq_true rfl] at c0
  have g2 := lls_length (mcl N Es)
  have nd : (mcl N Es).Nodup := mcl_nodup
  unfold goSt at lp
  rw [nat0] at lp
  by_cases hz : (mcl N Es).length = 0
  · have hX : lls (mcl N Es) = [] := List.length_eq_zero_iff.1 (by rw [g2, hz])
    rw [hX] at al lp c0
    rw [hz] at lp
    unfold dk gb at *
    simp only [nat0, show ((8 : Nat) : Int) = 8 from rfl] at n1 n2
    unfold qLaw24CliquesGoes cLaw24CliquesGoes
    simp [rLaw24CliquesGoesX0, rLaw24CliquesGoesX1, rLaw24CliquesGoesX2, rLaw24CliquesGoesX3, rLaw24CliquesGoesX4, rLaw24CliquesGoesX5, rLaw24CliquesGoesX6, rLaw24CliquesGoesX7, rLaw24CliquesGoesX8, rLaw24CliquesGoesX9, rLaw24CliquesGoesX10, rLaw24CliquesGoesX11, rLaw24CliquesGoesX12, rLaw24CliquesGoesX13, rLaw24CliquesGoesX14, rLaw24CliquesGoesX15, rLaw24CliquesGoesX16, rLaw24CliquesGoesX17, rLaw24CliquesGoesX18, rLaw24CliquesGoesX19, rLaw24CliquesGoesX20, rLaw24CliquesGoesX21, rLaw24CliquesGoesX22, rLaw24CliquesGoesX23, rLaw24CliquesGoesX24, rLaw24CliquesGoesX25, few, hl, n1, n2, al, lp, c0, aw, sMakeFew, iMakeFew, sMakeNew, iMakeNew, sMakeGraph, iMakeGraph, sCliquesAll, iCliquesAll, sCliquesCheck, iCliquesCheck, sLaw24Awake, iLaw24Awake, plp, plpL, allB, notBox, swC, swS, seesC, inBox, relB, handBox, mvBB, mvRtB, blk, eds_length, eds_get, edsAt, edAV, allLeaf_eds, cleanL_eds, cleanL_ints, ints_length, ints_get, intsAt, endL, finB]
  · have n3 := next_run l hl5 a1 ((mcl N Es).length : Int) (by omega) [gb N Es] (rest_gb N Es)
    obtain ⟨b0, b1⟩ := nxV_bd l a1 (n := ((mcl N Es).length : Int)) (by omega)
    obtain ⟨K, hK⟩ : ∃ K : Nat, nxV l a1 ((mcl N Es).length : Int) = (K : Int) := ⟨(nxV l a1 ((mcl N Es).length : Int)).toNat, by omega⟩
    rw [hK] at n3 b1
    generalize nxA l a1 ((mcl N Es).length : Int) = a2 at *
    have kn : K < (mcl N Es).length := by omega
    have c1 := checkK_run hG (by omega) ((mcl N Es).take K ++ (mcl N Es).drop (K + 1)) (by simp; omega)
    rw [decide_eq_false (ne_less kn)] at c1
    have c2 := checkK_run hG (by omega) ((mcl N Es).take (K + 1) ++ (mcl N Es).drop K) (by simp; omega)
    rw [decide_eq_false (ne_twice kn)] at c2
    have pN : 0 < (mcl N Es).length := by omega
    obtain ⟨S0, SN, e0, eN, c3⟩ := other_chk hG hEl q1 pN
    have r18 := gX18 l a1 a2 N Es (mcl N Es) (mcl N Es).length K n3
    have r19 := gX19 l a2 N Es (mcl N Es) (mcl N Es).length K rfl kn q1
    have r20 := gX20 l a2 N Es (mcl N Es) ((mcl N Es).take K ++ (mcl N Es).drop (K + 1)) (mcl N Es).length K rfl kn q1
    have r21 := gX21 l a2 N Es (mcl N Es) ((mcl N Es).take K ++ (mcl N Es).drop (K + 1)) ((mcl N Es).take (K + 1) ++ (mcl N Es).drop K) (mcl N Es).length rfl q1
    have r22 := gX22 l a2 N Es (mcl N Es) ((mcl N Es).take K ++ (mcl N Es).drop (K + 1)) ((mcl N Es).take (K + 1) ++ (mcl N Es).drop K) (mcl N Es).length rfl pN q1 S0 SN e0 eN
    have r23 := gX23 l a2 N Es (((mcl N Es).set 0 SN).set ((mcl N Es).length - 1) S0) ((mcl N Es).take K ++ (mcl N Es).drop (K + 1)) ((mcl N Es).take (K + 1) ++ (mcl N Es).drop K) (mcl N Es).length c1 c2 c3
    have p0 : (0 : Int) < (mcl N Es).length := by omega
    have tail : codeL cfgS 0 (.seq (.reg rLaw24CliquesGoesX18 false [] [4, 5, 12, 13]) (.seq (.reg rLaw24CliquesGoesX19 true [(8, 8), (9, 9), (3, 4), (3, 5), (3, 6), (3, 7)] [4, 5, 12, 13, 14]) (.seq (.reg rLaw24CliquesGoesX20 true [(8, 8), (9, 9), (4, 5), (4, 6), (4, 7)] [4, 5, 12, 14, 15]) (.seq (.reg rLaw24CliquesGoesX21 false [] [4, 12, 14, 15, 16]) (.seq (.reg rLaw24CliquesGoesX22 true [(14, 14), (15, 15), (0, 8), (1, 8), (2, 8), (3, 8), (8, 9), (8, 10), (0, 11), (1, 11), (2, 11), (3, 11), (4, 11), (5, 11), (6, 11), (7, 11), (8, 11), (1, 13), (2, 13), (3, 13)] [4, 12, 14, 15, 16]) (.seq (.reg rLaw24CliquesGoesX23 false [] [131]) (.cond (.t 131) (.seq (.reg rLaw24CliquesGoesX24 false [] [2]) .ret) .skip))))))) ⟨[(3, .ptr 0 0), (4, .ptr 1 0), (5, .list 1 (lls (mcl N Es))), (12, .int .i64 (mcl N Es).length), (77, .bool true)], [dk l a1, gb N Es]⟩ = some (.normal, ⟨[(131, .bool false)], []⟩) := by
      rw [codeL_seq, r18, thenL_n, codeL_seq, r19, thenL_n, codeL_seq, r20, thenL_n, codeL_seq, r21, thenL_n, codeL_seq, r22, thenL_n, codeL_seq, r23, thenL_n, codeL_cnd]
      show codeL cfgS 0 .skip _ = _
      rw [codeL_skip]
    clear r18 r19 r20 r21 r22 r23 c1 c2 c3 e0 eN ev ob
    generalize hT : (C.seq (.reg rLaw24CliquesGoesX18 false [] [4, 5, 12, 13]) _) = T at tail
    unfold dk gb at *
    simp only [nat0, show ((8 : Nat) : Int) = 8 from rfl] at n1 n2
    unfold qLaw24CliquesGoes cLaw24CliquesGoes
    rw [hT]
    generalize lls (mcl N Es) = X at *
    generalize (mcl N Es).length = n at *
    simp [rLaw24CliquesGoesX0, rLaw24CliquesGoesX1, rLaw24CliquesGoesX2, rLaw24CliquesGoesX3, rLaw24CliquesGoesX4, rLaw24CliquesGoesX5, rLaw24CliquesGoesX6, rLaw24CliquesGoesX7, rLaw24CliquesGoesX8, rLaw24CliquesGoesX9, rLaw24CliquesGoesX10, rLaw24CliquesGoesX11, rLaw24CliquesGoesX12, rLaw24CliquesGoesX13, rLaw24CliquesGoesX14, rLaw24CliquesGoesX15, rLaw24CliquesGoesX16, rLaw24CliquesGoesX17, rLaw24CliquesGoesX18, rLaw24CliquesGoesX19, rLaw24CliquesGoesX20, rLaw24CliquesGoesX21, rLaw24CliquesGoesX22, rLaw24CliquesGoesX23, rLaw24CliquesGoesX24, rLaw24CliquesGoesX25, few, hl, n1, n2, al, lp, c0, tail, p0, pN, g2, aw, sMakeFew, iMakeFew, sMakeNew, iMakeNew, sMakeGraph, iMakeGraph, sCliquesAll, iCliquesAll, sCliquesCheck, iCliquesCheck, sLaw24Awake, iLaw24Awake, plp, plpL, allB, notBox, swC, swS, seesC, inBox, relB, handBox, mvBB, mvRtB, blk, eds_length, eds_get, edsAt, edAV, allLeaf_eds, cleanL_eds, cleanL_ints, ints_length, ints_get, intsAt, endL, finB]
end
end Go.BmP
