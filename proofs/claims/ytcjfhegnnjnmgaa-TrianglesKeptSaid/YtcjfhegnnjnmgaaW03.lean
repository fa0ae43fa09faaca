/- The law of what is kept: a round of its loop. -/
import Derived.Test.YtcjfhegnnjnmgaaUseM
import Derived.Test.YtcjfhegnnjnmgaaW02
import Derived.Test.YtcjfhegnnjnmgaaKepQ
import Derived.Test.YtcjfhegnnjnmgaaL01
set_option linter.unusedSimpArgs false
set_option linter.unusedVariables false
set_option maxRecDepth 100000
set_option maxHeartbeats 8000000
namespace Go.BmP
open Go.Am Go.Bm
theorem tins_run {N : Nat} {Es : List Ed} (hG : GOK (N : Int) Es) (hE : Es.length < 1000000) (u v : Int) : callL cfgS nTrianglesInsert [triAV N Es (tri N Es : Nat) (triN N Es), .int .i64 u, .int .i64 v] [] =
  some (if EndsOK N u v then (if nrmE u v ∈ Es then .tup [triZ, .int .i64 0, .int .i64 15] else .tup [triAV N (putE (nrmE u v) Es) (tri N (putE (nrmE u v) Es) : Nat) (triN N (putE (nrmE u v) Es)), .int .i64 ((com N Es (u, v)).length : Nat), .int .i64 0]) else .tup [triZ, .int .i64 0, .int .i64 6], []) := by
 have h := tinsert_run hG hE u v
 rw [tri_quo hG] at h
 rw [h]
 by_cases q : EndsOK N u v
 ·rw [if_pos q, if_pos q]
  by_cases m : nrmE u v ∈ Es
  ·rw [if_pos m, if_pos m]
  ·rw [if_neg m, if_neg m, put_nums hG q m, put_tri hG q m, Int.natCast_add]
 ·rw [if_neg q, if_neg q]
theorem tdel_run {N : Nat} {Es : List Ed} (hG : GOK (N : Int) Es) (hE : Es.length < 1000000) (u v : Int) : callL cfgS nTrianglesDelete [triAV N Es (tri N Es : Nat) (triN N Es), .int .i64 u, .int .i64 v] [] =
  some (if EndsOK N u v then (if nrmE u v ∈ Es then .tup [triAV N (remE (nrmE u v) Es) (tri N (remE (nrmE u v) Es) : Nat) (triN N (remE (nrmE u v) Es)), .int .i64 ((com N Es (u, v)).length : Nat), .int .i64 0] else .tup [triZ, .int .i64 0, .int .i64 7]) else .tup [triZ, .int .i64 0, .int .i64 6], []) := by
 have h := tdelete_run hG hE u v
 rw [tri_quo hG] at h
 rw [h]
 by_cases q : EndsOK N u v
 ·rw [if_pos q, if_pos q]
  by_cases m : nrmE u v ∈ Es
  ·have e := rem_tri hG q m
   rw [if_pos m, if_pos m, rem_nums hG q m, show ((tri N Es : Nat) : Int) - ((com N Es (u, v)).length : Nat) = (tri N (remE (nrmE u v) Es) : Nat) by omega]
  ·rw [if_neg m, if_neg m]
 ·rw [if_neg q, if_neg q]
def tbK (N : Nat) (Es : List Ed) : Blk := some [.int .i64 N, .list 2 (eds Es), .int .i64 (tri N Es : Nat), .list 1 (ints (triN N Es))]
def kpSt (l : List Int) (a N : Nat) (Es : List Ed) (i : Nat) (J : Env) : St := ⟨(3, .ptr 0 0) :: (4, .ptr 1 0) :: (5, .int .i64 0) :: (6, .int .i64 i) :: J, [dk l a, tbK N Es]⟩
theorem rest_k : Rest [] := ⟨fun _ => rfl, rfl, fun _ _ => rfl, fun _ => rfl, fun _ _ => rfl⟩
theorem kp_round (l : List Int) (hl : l.length <= 500) {N : Nat} {Es : List Ed} (hG : GOK (N : Int) Es) (hE : Es.length < 900000) (a i : Nat) (hi : i < 12) : ∃ a' Es', codeL cfgS 0 lLaw29TrianglesKeptX0 (kpSt l a N Es i []) = some (.normal, kpSt l a' N Es' (i + 1) []) /\ GOK (N : Int) Es' /\ Es'.length <= Es.length + 1 := by
 have hN := hG.1
 have h1 : (i : Int) < 12 := by omega
 have hw := wrapS (i := i) (by omega)
 have d1 := next_run l hl a 8 (by omega) [] rest_k
 have d2 := next_run l hl (nxA l a 8) 8 (by omega) [] rest_k
 have d3 := next_run l hl (nxA l (nxA l a 8) 8) 2 (by omega) [] rest_k
 generalize nxV l a 8 = u at *
 generalize nxV l (nxA l a 8) 8 = v at *
 generalize nxV l (nxA l (nxA l a 8) 8) 2 = t at *
 generalize nxA l (nxA l (nxA l a 8) 8) 2 = a3 at *
 generalize nxA l (nxA l a 8) 8 = a2 at *
 generalize nxA l a 8 = a1 at *
 have ins := tins_run hG (by omega) u v
 have g5 := eds_length Es
 unfold dk at d1 d2 d3
 by_cases q : EndsOK N u v
 ·rw [if_pos q] at ins
  have cm := common_run hG (by omega) q.2.1 q.2.2 q.1
  by_cases m : nrmE u v ∈ Es
  ·rw [if_pos m] at ins
   unfold triZ at ins
   by_cases ht : t = 1
   ·-- it goes
    refine ⟨a3, remE (nrmE u v) Es, ?_, rem_ok hG m, by have := (remE_sub (nrmE u v) Es).length_le; omega⟩
    have del := tdel_run hG (by omega) u v
    rw [if_pos q, if_pos m] at del
    have hF := rem_ok hG m
    have va := tvalid_run hF (by have := (remE_sub (nrmE u v) Es).length_le; omega) ((triS N (remE (nrmE u v) Es) : Int) / 3) (triN N (remE (nrmE u v) Es)) (by rw [triN_length]; omega)
    rw [decide_eq_true rfl, decide_eq_true rfl, tri_quo hF] at va
    have gT := ints_length (com N Es (u, v))
    unfold lLaw29TrianglesKeptX0 kpSt dk tbK
    unfold triAV at *
    clear hG hF q m
    generalize ints (triN N (remE (nrmE u v) Es)) = tM at *
    generalize eds (remE (nrmE u v) Es) = Y2 at *
    generalize tri N (remE (nrmE u v) Es) = C2 at *
    generalize ints (triN N Es) = tN at *
    generalize eds Es = Y at *
    generalize tri N Es = C at *
    generalize (com N Es (u, v)).length = n at *
    generalize ints (com N Es (u, v)) = TT at *
    simp [rLaw29TrianglesKeptX0, rLaw29TrianglesKeptX1, rLaw29TrianglesKeptX2, rLaw29TrianglesKeptX3, rLaw29TrianglesKeptX4, rLaw29TrianglesKeptX5, rLaw29TrianglesKeptX6, rLaw29TrianglesKeptX7, rLaw29TrianglesKeptX8, rLaw29TrianglesKeptX9, rLaw29TrianglesKeptX10, rLaw29TrianglesKeptX11, rLaw29TrianglesKeptX12, rLaw29TrianglesKeptX13, rLaw29TrianglesKeptX14, rLaw29TrianglesKeptX15, rLaw29TrianglesKeptX16, rLaw29TrianglesKeptX17, rLaw29TrianglesKeptX18, rLaw29TrianglesKeptX19, rLaw29TrianglesKeptX20, h1, hw, d1, d2, d3, ins, del, cm, va, gT, ht, sMakeDeckNext, iMakeDeckNext, lMakeDeckNext, eMakeDeckNext, sTrianglesInsert, iTrianglesInsert, lTrianglesInsert, eTrianglesInsert, sTrianglesDelete, iTrianglesDelete, lTrianglesDelete, eTrianglesDelete, sTrianglesValid, iTrianglesValid, lTrianglesValid, eTrianglesValid, sRef03Common, iRef03Common, lRef03Common, eRef03Common, sLaw29Ints, iLaw29Ints, lLaw29Ints, eLaw29Ints, blk, plp, plpL, allB, notBox, swC, swS, seesC, inBox, relB, handBox, mvBB, mvRtB, offBoxes, offLab, calmB, ptrs, ptrsL, blkE, avE, avLE, endL, finB]
   ·refine ⟨a3, Es, ?_, hG, by omega⟩
    unfold lLaw29TrianglesKeptX0 kpSt dk tbK
    unfold triAV at *
    clear hG q m
    generalize ints (triN N Es) = tN at *
    generalize eds Es = Y at *
    generalize tri N Es = C at *
    simp [rLaw29TrianglesKeptX0, rLaw29TrianglesKeptX1, rLaw29TrianglesKeptX2, rLaw29TrianglesKeptX3, rLaw29TrianglesKeptX4, rLaw29TrianglesKeptX5, rLaw29TrianglesKeptX6, rLaw29TrianglesKeptX7, rLaw29TrianglesKeptX8, rLaw29TrianglesKeptX9, rLaw29TrianglesKeptX10, rLaw29TrianglesKeptX11, rLaw29TrianglesKeptX12, rLaw29TrianglesKeptX13, rLaw29TrianglesKeptX14, rLaw29TrianglesKeptX15, rLaw29TrianglesKeptX16, rLaw29TrianglesKeptX17, rLaw29TrianglesKeptX18, rLaw29TrianglesKeptX19, rLaw29TrianglesKeptX20, h1, hw, d1, d2, d3, ins, ht, sMakeDeckNext, iMakeDeckNext, lMakeDeckNext, eMakeDeckNext, sTrianglesInsert, iTrianglesInsert, lTrianglesInsert, eTrianglesInsert, sTrianglesDelete, iTrianglesDelete, lTrianglesDelete, eTrianglesDelete, sTrianglesValid, iTrianglesValid, lTrianglesValid, eTrianglesValid, sRef03Common, iRef03Common, lRef03Common, eRef03Common, sLaw29Ints, iLaw29Ints, lLaw29Ints, eLaw29Ints, blk, plp, plpL, allB, notBox, swC, swS, seesC, inBox, relB, handBox, mvBB, mvRtB, offBoxes, offLab, calmB, ptrs, ptrsL, blkE, avE, avLE, endL, finB]
  ·rw [if_neg m] at ins
   have hP := put_ok hG q
   have hl2 := putE_len (nrmE u v) Es
   refine ⟨a2, putE (nrmE u v) Es, ?_, hP, hl2⟩
   have hm2 : nrmE u v ∈ putE (nrmE u v) Es := (putE_mem _ _ _).2 (.inl rfl)
   have del := tdel_run hP (by omega) u v
   rw [if_pos q, if_pos hm2, rem_put hG.2.1 m, com_put hG q] at del
   have va := tvalid_run hP (by omega) ((triS N (putE (nrmE u v) Es) : Int) / 3) (triN N (putE (nrmE u v) Es)) (by rw [triN_length]; omega)
   rw [decide_eq_true rfl, decide_eq_true rfl, tri_quo hP] at va
   have li := lints_run (triN N Es) (triN N Es) (by rw [triN_length]; omega)
   rw [decide_eq_true rfl] at li
   have pt := put_tri hG q m
   have gT := ints_length (com N Es (u, v))
   have cl := com_len hG (e := (u, v)) ⟨q.2.1.1, q.2.1.2, q.2.2.1, q.2.2.2⟩
   have b3 := triS_bd hG
   have b4 := triS_three hG
   have wq : IntKind.i64.wrap ((tri N Es : Nat) + ((com N Es (u, v)).length : Nat) : Int) = (tri N (putE (nrmE u v) Es) : Nat) := by rw [pt, Int.natCast_add]; exact wrap_id (by omega) (by omega)
   clear pt b3 b4 cl
   unfold lLaw29TrianglesKeptX0 kpSt dk tbK
   unfold triAV at *
   clear hG hP q m hm2 hl2
   generalize ints (triN N (putE (nrmE u v) Es)) = tM at *
   generalize eds (putE (nrmE u v) Es) = Y2 at *
   generalize tri N (putE (nrmE u v) Es) = C2 at *
   generalize ints (triN N Es) = tN at *
   generalize eds Es = Y at *
   generalize tri N Es = C at *
   generalize (com N Es (u, v)).length = n at *
   generalize ints (com N Es (u, v)) = TT at *
   simp [rLaw29TrianglesKeptX0, rLaw29TrianglesKeptX1, rLaw29TrianglesKeptX2, rLaw29TrianglesKeptX3, rLaw29TrianglesKeptX4, rLaw29TrianglesKeptX5, rLaw29TrianglesKeptX6, rLaw29TrianglesKeptX7, rLaw29TrianglesKeptX8, rLaw29TrianglesKeptX9, rLaw29TrianglesKeptX10, rLaw29TrianglesKeptX11, rLaw29TrianglesKeptX12, rLaw29TrianglesKeptX13, rLaw29TrianglesKeptX14, rLaw29TrianglesKeptX15, rLaw29TrianglesKeptX16, rLaw29TrianglesKeptX17, rLaw29TrianglesKeptX18, rLaw29TrianglesKeptX19, rLaw29TrianglesKeptX20, h1, hw, d1, d2, ins, del, cm, va, li, wq, gT, sMakeDeckNext, iMakeDeckNext, lMakeDeckNext, eMakeDeckNext, sTrianglesInsert, iTrianglesInsert, lTrianglesInsert, eTrianglesInsert, sTrianglesDelete, iTrianglesDelete, lTrianglesDelete, eTrianglesDelete, sTrianglesValid, iTrianglesValid, lTrianglesValid, eTrianglesValid, sRef03Common, iRef03Common, lRef03Common, eRef03Common, sLaw29Ints, iLaw29Ints, lLaw29Ints, eLaw29Ints, blk, plp, plpL, allB, notBox, swC, swS, seesC, inBox, relB, handBox, mvBB, mvRtB, offBoxes, offLab, calmB, ptrs, ptrsL, blkE, avE, avLE, endL, finB]
 ·rw [if_neg q] at ins
  unfold triZ at ins
  refine ⟨a2, Es, ?_, hG, by omega⟩
  unfold lLaw29TrianglesKeptX0 kpSt dk tbK
  unfold triAV at *
  clear hG q
  generalize ints (triN N Es) = tN at *
  generalize eds Es = Y at *
  generalize tri N Es = C at *
  simp [rLaw29TrianglesKeptX0, rLaw29TrianglesKeptX1, rLaw29TrianglesKeptX2, rLaw29TrianglesKeptX3, rLaw29TrianglesKeptX4, rLaw29TrianglesKeptX5, rLaw29TrianglesKeptX6, rLaw29TrianglesKeptX7, rLaw29TrianglesKeptX8, rLaw29TrianglesKeptX9, rLaw29TrianglesKeptX10, rLaw29TrianglesKeptX11, rLaw29TrianglesKeptX12, rLaw29TrianglesKeptX13, rLaw29TrianglesKeptX14, rLaw29TrianglesKeptX15, rLaw29TrianglesKeptX16, rLaw29TrianglesKeptX17, rLaw29TrianglesKeptX18, rLaw29TrianglesKeptX19, rLaw29TrianglesKeptX20, h1, hw, d1, d2, ins, sMakeDeckNext, iMakeDeckNext, lMakeDeckNext, eMakeDeckNext, sTrianglesInsert, iTrianglesInsert, lTrianglesInsert, eTrianglesInsert, sTrianglesDelete, iTrianglesDelete, lTrianglesDelete, eTrianglesDelete, sTrianglesValid, iTrianglesValid, lTrianglesValid, eTrianglesValid, sRef03Common, iRef03Common, lRef03Common, eRef03Common, sLaw29Ints, iLaw29Ints, lLaw29Ints, eLaw29Ints, blk, plp, plpL, allB, notBox, swC, swS, seesC, inBox, relB, handBox, mvBB, mvRtB, offBoxes, offLab, calmB, ptrs, ptrsL, blkE, avE, avLE, endL, finB]
end Go.BmP
