/- What graph.Remove and triangles.Delete return. -/
import Derived.Test.YtcjfhegnnjnmgaaUseM
import Derived.Test.YtcjfhegnnjnmgaaV04
set_option linter.unusedSimpArgs false
set_option linter.unusedVariables false
set_option maxRecDepth 100000
set_option maxHeartbeats 4000000
namespace Go.BmP
open Go.Am Go.Bm
def remE (x : Ed) (Es : List Ed) : List Ed := Es.take (posE x Es) ++ Es.drop (posE x Es + 1)
def remV (N : Nat) (Es : List Ed) (u v : Int) : AV := if EndsOK N u v then (if nrmE u v ∈ Es then .tup [.agg [.int .i64 N, .list 2 (eds (remE (nrmE u v) Es))], .int .i64 0] else .tup [.agg [.int .i64 0, .list 2 []], .int .i64 7]) else .tup [.agg [.int .i64 0, .list 2 []], .int .i64 6]
theorem remove_run (N : Nat) (Es : List Ed) (hG : GOK (N : Int) Es) (hE : Es.length < 1000000) (u v : Int) : callL cfgS nGraphRemove [.agg [.int .i64 N, .list 2 (eds Es)], .int .i64 u, .int .i64 v] [] = some (remV N Es u v, []) := by
 have ch := change_run N Es hG hE u v
 have pr := place_run (N : Int) Es hE hG.2.1 u v
 have pm := pos_mem (x := nrmE u v) hG.2.1
 have pl := posE_le (nrmE u v) Es
 unfold remV remE
 rw [callL_end oGraphRemove sGraphRemove (Nat.le_of_ble_eq_true rfl)]
 unfold qGraphRemove cGraphRemove
 by_cases q : EndsOK N u v
 ·rw [if_pos q] at ch ⊢
  by_cases m : nrmE u v ∈ Es
  ·rw [decide_eq_true m] at pr
   rw [if_pos m]
   have hlt : posE (nrmE u v) Es < Es.length := by
    have := pm.1 m
    rcases Nat.lt_or_ge (posE (nrmE u v) Es) Es.length with h | h
    ·exact h
    ·rw [List.getElem?_eq_none h] at this; cases this
   clear pm
   have cl := cloneE_run Es hE
   have dg : delG 2 (eds Es) [.int .i64 (posE (nrmE u v) Es), .int .i64 ((posE (nrmE u v) Es : Nat) + 1)] = some (eds (Es.take (posE (nrmE u v) Es) ++ Es.drop (posE (nrmE u v) Es + 1))) := by
    unfold delG
    simp only
    have l5 := eds_length Es
    have e1 : ((posE (nrmE u v) Es : Nat) : Int).toNat = posE (nrmE u v) Es := by omega
    rw [if_pos ⟨trivial, by omega, by rw [e1, l5]; exact hlt, trivial, by rw [l5]; show Es.length <= 4294967296; omega⟩, e1]
    simp [eds, edAV]
   have wk := wrapS (i := posE (nrmE u v) Es) (by omega)
   have cE := cleanL_eds Es
   have g5 := eds_length Es
   generalize posE (nrmE u v) Es = k at *
   have tkE : (eds Es).take Es.length = eds Es := List.take_of_length_le (by omega)
   have gk := eds_length (Es.take k ++ Es.drop (k + 1))
   have tk2 : (eds (Es.take k ++ Es.drop (k + 1))).take (Es.take k ++ Es.drop (k + 1)).length = eds (Es.take k ++ Es.drop (k + 1)) := List.take_of_length_le (by omega)
   generalize Es.take k ++ Es.drop (k + 1) = Fs at *
   generalize eds Fs = Y2 at *
   generalize eds Es = Y at *
   simp [rGraphRemoveX0, rGraphRemoveX1, rGraphRemoveX2, rGraphRemoveX3, rGraphRemoveX4, rGraphRemoveX5, rGraphRemoveX6, rGraphRemoveX7, ch, pr, cl, dg, wk, cE, g5, gk, tkE, tk2, eatV, eatL, eatE, cleanL, clean, LIM, sGraphChange, iGraphChange, lGraphChange, eGraphChange, sGraphPlace, iGraphPlace, lGraphPlace, eGraphPlace, sSlicesCloneApiEdgeApiEdge, iSlicesCloneApiEdgeApiEdge, lSlicesCloneApiEdgeApiEdge, eSlicesCloneApiEdgeApiEdge, sSlicesDeleteApiEdgeApiEdge, iSlicesDeleteApiEdgeApiEdge, lSlicesDeleteApiEdgeApiEdge, eSlicesDeleteApiEdgeApiEdge, blk, plp, plpL, allB, notBox, swC, swS, seesC, inBox, plL, pl, relB, handBox, mvBB, mvRtB, endL, finB, finS]
  ·rw [decide_eq_false m] at pr
   rw [if_neg m]
   clear pm
   generalize posE (nrmE u v) Es = k at *
   generalize eds Es = Y at *
   simp [rGraphRemoveX0, rGraphRemoveX1, rGraphRemoveX2, rGraphRemoveX3, rGraphRemoveX4, rGraphRemoveX5, rGraphRemoveX6, rGraphRemoveX7, ch, pr, sGraphChange, iGraphChange, lGraphChange, eGraphChange, sGraphPlace, iGraphPlace, lGraphPlace, eGraphPlace, blk, plp, plpL, allB, notBox, swC, swS, seesC, inBox, plL, pl, endL, finB, finS]
 ·rw [if_neg q] at ch ⊢
  generalize eds Es = Y at *
  simp [rGraphRemoveX0, rGraphRemoveX1, rGraphRemoveX2, rGraphRemoveX3, rGraphRemoveX4, rGraphRemoveX5, rGraphRemoveX6, rGraphRemoveX7, ch, sGraphChange, iGraphChange, lGraphChange, eGraphChange, blk, plp, plpL, allB, notBox, swC, swS, seesC, inBox, plL, pl, endL, finB, finS]
theorem tdelete_run {N : Nat} {Es : List Ed} (hG : GOK (N : Int) Es) (hE : Es.length < 1000000) (u v : Int) : callL cfgS nTrianglesDelete [triAV N Es ((triS N Es : Int) / 3) (triN N Es), .int .i64 u, .int .i64 v] [] =
  some (if EndsOK N u v then (if nrmE u v ∈ Es then .tup [triAV N (remE (nrmE u v) Es) ((triS N Es : Int) / 3 - (com N Es (u, v)).length) (chN (triN N Es) (com N Es (u, v)) u.toNat v.toNat (-1)), .int .i64 ((com N Es (u, v)).length : Nat), .int .i64 0] else .tup [triZ, .int .i64 0, .int .i64 7]) else .tup [triZ, .int .i64 0, .int .i64 6], []) := by
 obtain ⟨cb, nl, nb⟩ := tri_num hG hE
 have hN := hG.1
 have va := tvalid_run hG hE ((triS N Es : Int) / 3) (triN N Es) (by omega)
 rw [decide_eq_true rfl, decide_eq_true rfl] at va
 have ad := remove_run N Es hG hE u v
 unfold remV at ad
 by_cases q : EndsOK N u v
 ·rw [if_pos q] at ad ⊢
  by_cases m : nrmE u v ∈ Es
  ·rw [if_pos m] at ad ⊢
   have ch := changed_run hG hE (remE (nrmE u v) Es) ((triS N Es : Int) / 3) (by omega) (triN N Es) nl nb u.toNat v.toNat (by have := q.2.1; omega) (by have := q.2.2; omega) (-1) (.inr rfl)
   rw [show ((u.toNat : Nat) : Int) = u by have := q.2.1; omega, show ((v.toNat : Nat) : Int) = v by have := q.2.2; omega, Int.neg_mul, Int.one_mul, <- Int.sub_eq_add_neg] at ch
   rw [callL_end oTrianglesDelete sTrianglesDelete (Nat.le_of_ble_eq_true rfl)]
   unfold qTrianglesDelete cTrianglesDelete
   unfold triAV at va ch ⊢
   generalize ints (chN (triN N Es) (com N Es (u, v)) u.toNat v.toNat (-1)) = tM at *
   generalize ints (triN N Es) = tN at *
   generalize (triS N Es : Int) / 3 = tS at *
   generalize eds (remE (nrmE u v) Es) = Y2 at *
   generalize eds Es = Y at *
   generalize (com N Es (u, v)).length = n at *
   simp [rTrianglesDeleteX0, rTrianglesDeleteX1, rTrianglesDeleteX2, rTrianglesDeleteX3, rTrianglesDeleteX4, rTrianglesDeleteX5, rTrianglesDeleteX6, va, ad, ch, sTrianglesValid, iTrianglesValid, lTrianglesValid, eTrianglesValid, sGraphRemove, iGraphRemove, lGraphRemove, eGraphRemove, sTrianglesChanged, iTrianglesChanged, lTrianglesChanged, eTrianglesChanged, blk, plp, plpL, allB, notBox, swC, swS, seesC, inBox, plL, pl, relB, handBox, mvBB, mvRtB, endL, finB, finS]
  ·rw [if_neg m] at ad ⊢
   rw [callL_end oTrianglesDelete sTrianglesDelete (Nat.le_of_ble_eq_true rfl)]
   unfold qTrianglesDelete cTrianglesDelete triZ
   unfold triAV at va ⊢
   generalize ints (triN N Es) = tN at *
   generalize (triS N Es : Int) / 3 = tS at *
   generalize eds Es = Y at *
   simp [rTrianglesDeleteX0, rTrianglesDeleteX1, rTrianglesDeleteX2, rTrianglesDeleteX3, rTrianglesDeleteX4, rTrianglesDeleteX5, rTrianglesDeleteX6, va, ad, sTrianglesValid, iTrianglesValid, lTrianglesValid, eTrianglesValid, sGraphRemove, iGraphRemove, lGraphRemove, eGraphRemove, blk, plp, plpL, allB, notBox, swC, swS, seesC, inBox, plL, pl, relB, handBox, mvBB, mvRtB, endL, finB, finS]
 ·rw [if_neg q] at ad ⊢
  rw [callL_end oTrianglesDelete sTrianglesDelete (Nat.le_of_ble_eq_true rfl)]
  unfold qTrianglesDelete cTrianglesDelete triZ
  unfold triAV at va ⊢
  generalize ints (triN N Es) = tN at *
  generalize (triS N Es : Int) / 3 = tS at *
  generalize eds Es = Y at *
  simp [rTrianglesDeleteX0, rTrianglesDeleteX1, rTrianglesDeleteX2, rTrianglesDeleteX3, rTrianglesDeleteX4, rTrianglesDeleteX5, rTrianglesDeleteX6, va, ad, sTrianglesValid, iTrianglesValid, lTrianglesValid, eTrianglesValid, sGraphRemove, iGraphRemove, lGraphRemove, eGraphRemove, blk, plp, plpL, allB, notBox, swC, swS, seesC, inBox, plL, pl, relB, handBox, mvBB, mvRtB, endL, finB, finS]
end Go.BmP
