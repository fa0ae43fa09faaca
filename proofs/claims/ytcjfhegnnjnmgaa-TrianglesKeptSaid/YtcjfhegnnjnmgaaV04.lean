/- What triangles.Insert returns for a graph with its triangles. -/
import Derived.Test.YtcjfhegnnjnmgaaUseM
import Derived.Test.YtcjfhegnnjnmgaaV03
import Derived.Test.YtcjfhegnnjnmgaaTnP
set_option linter.unusedSimpArgs false
set_option linter.unusedVariables false
set_option maxRecDepth 100000
set_option maxHeartbeats 4000000
namespace Go.BmP
open Go.Am Go.Bm
def triZ : AV := .agg [.int .i64 0, .list 2 [], .int .i64 0, .list 1 []]
theorem tri_num {N : Nat} {Es : List Ed} (hG : GOK (N : Int) Es) (hE : Es.length < 1000000) : (0 <= (triS N Es : Int) / 3 /\ (triS N Es : Int) / 3 < 100000000) /\ (triN N Es).length = N /\ ∀ x ∈ triN N Es, -100000000 <= x /\ x <= 100000000 := by
 have b1 := triS_bd hG
 have b2 := triN_bd hG
 refine ⟨⟨by omega, by omega⟩, triN_length N Es, fun x hx => ?_⟩
 have := b2 x hx
 omega
theorem tinsert_run {N : Nat} {Es : List Ed} (hG : GOK (N : Int) Es) (hE : Es.length < 1000000) (u v : Int) : callL cfgS nTrianglesInsert [triAV N Es ((triS N Es : Int) / 3) (triN N Es), .int .i64 u, .int .i64 v] [] =
  some (if EndsOK N u v then (if nrmE u v ∈ Es then .tup [triZ, .int .i64 0, .int .i64 15] else .tup [triAV N (putE (nrmE u v) Es) ((triS N Es : Int) / 3 + (com N Es (u, v)).length) (chN (triN N Es) (com N Es (u, v)) u.toNat v.toNat 1), .int .i64 ((com N Es (u, v)).length : Nat), .int .i64 0]) else .tup [triZ, .int .i64 0, .int .i64 6], []) := by
 obtain ⟨cb, nl, nb⟩ := tri_num hG hE
 have hN := hG.1
 have va := tvalid_run hG hE ((triS N Es : Int) / 3) (triN N Es) (by omega)
 rw [decide_eq_true rfl, decide_eq_true rfl] at va
 have ad := add_run N Es hG hE u v
 unfold addV at ad
 by_cases q : EndsOK N u v
 ·rw [if_pos q] at ad ⊢
  by_cases m : nrmE u v ∈ Es
  ·rw [if_pos m] at ad ⊢
   rw [callL_end oTrianglesInsert sTrianglesInsert (Nat.le_of_ble_eq_true rfl)]
   unfold qTrianglesInsert cTrianglesInsert triZ
   unfold triAV at va ⊢
   generalize ints (triN N Es) = tN at *
   generalize (triS N Es : Int) / 3 = tS at *
   generalize eds Es = Y at *
   simp [rTrianglesInsertX0, rTrianglesInsertX1, rTrianglesInsertX2, rTrianglesInsertX3, rTrianglesInsertX4, rTrianglesInsertX5, rTrianglesInsertX6, va, ad, sTrianglesValid, iTrianglesValid, lTrianglesValid, eTrianglesValid, sGraphAdd, iGraphAdd, lGraphAdd, eGraphAdd, blk, plp, plpL, allB, notBox, swC, swS, seesC, inBox, plL, pl, relB, handBox, mvBB, mvRtB, endL, finB, finS]
  ·rw [if_neg m] at ad ⊢
   have ch := changed_run hG hE (putE (nrmE u v) Es) ((triS N Es : Int) / 3) (by omega) (triN N Es) nl nb u.toNat v.toNat (by have := q.2.1; omega) (by have := q.2.2; omega) 1 (.inl rfl)
   rw [show ((u.toNat : Nat) : Int) = u by have := q.2.1; omega, show ((v.toNat : Nat) : Int) = v by have := q.2.2; omega, Int.one_mul] at ch
   rw [callL_end oTrianglesInsert sTrianglesInsert (Nat.le_of_ble_eq_true rfl)]
   unfold qTrianglesInsert cTrianglesInsert
   unfold triAV at va ch ⊢
   generalize ints (chN (triN N Es) (com N Es (u, v)) u.toNat v.toNat 1) = tM at *
   generalize ints (triN N Es) = tN at *
   generalize (triS N Es : Int) / 3 = tS at *
   generalize eds (putE (nrmE u v) Es) = Y2 at *
   generalize eds Es = Y at *
   generalize (com N Es (u, v)).length = n at *
   simp [rTrianglesInsertX0, rTrianglesInsertX1, rTrianglesInsertX2, rTrianglesInsertX3, rTrianglesInsertX4, rTrianglesInsertX5, rTrianglesInsertX6, va, ad, ch, sTrianglesValid, iTrianglesValid, lTrianglesValid, eTrianglesValid, sGraphAdd, iGraphAdd, lGraphAdd, eGraphAdd, sTrianglesChanged, iTrianglesChanged, lTrianglesChanged, eTrianglesChanged, blk, plp, plpL, allB, notBox, swC, swS, seesC, inBox, plL, pl, relB, handBox, mvBB, mvRtB, endL, finB, finS]
 ·rw [if_neg q] at ad ⊢
  rw [callL_end oTrianglesInsert sTrianglesInsert (Nat.le_of_ble_eq_true rfl)]
  unfold qTrianglesInsert cTrianglesInsert triZ
  unfold triAV at va ⊢
  generalize ints (triN N Es) = tN at *
  generalize (triS N Es : Int) / 3 = tS at *
  generalize eds Es = Y at *
  simp [rTrianglesInsertX0, rTrianglesInsertX1, rTrianglesInsertX2, rTrianglesInsertX3, rTrianglesInsertX4, rTrianglesInsertX5, rTrianglesInsertX6, va, ad, sTrianglesValid, iTrianglesValid, lTrianglesValid, eTrianglesValid, sGraphAdd, iGraphAdd, lGraphAdd, eGraphAdd, blk, plp, plpL, allB, notBox, swC, swS, seesC, inBox, plL, pl, relB, handBox, mvBB, mvRtB, endL, finB, finS]
end Go.BmP
