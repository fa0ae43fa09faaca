/- What slices.Equal, triangles.copied, Open, Valid return. -/
import Derived.Test.YtcjfhegnnjnmgaaUseM
import Derived.Test.YtcjfhegnnjnmgaaT05
import Derived.Test.YtcjfhegnnjnmgaaA02
set_option linter.unusedSimpArgs false
set_option linter.unusedVariables false
set_option maxRecDepth 100000
set_option maxHeartbeats 4000000
namespace Go.BmP
open Go.Am Go.Bm
theorem eql_loop (a b : List Int) (hl : a.length = b.length) (ha : a.length < 4294967295) : ∀ (k i : Nat), i + k = a.length -> codeL cfgS 0 (.loop lSlicesEqualIntIntX0) ⟨[(0, .list 1 (ints a)), (1, .list 1 (ints b)), (12, .int .i64 a.length), (13, .int .i64 i)], []⟩ =
  if a.drop i = b.drop i then some (.exit 0, ⟨[(0, .list 1 (ints a)), (1, .list 1 (ints b)), (12, .int .i64 a.length), (13, .int .i64 a.length), (14, .bool false)], []⟩) else some (.ret, ⟨[(4, .bool false)], []⟩)
 | 0, i, hi => by
   obtain rfl : i = a.length := by omega
   rw [List.drop_length, hl, List.drop_length, if_pos rfl]
   exact loop_exit (by unfold lSlicesEqualIntIntX0; simp [rSlicesEqualIntIntX0, rSlicesEqualIntIntX1, rSlicesEqualIntIntX2, rSlicesEqualIntIntX3, rSlicesEqualIntIntX4, rSlicesEqualIntIntX5, rSlicesEqualIntIntX6, rSlicesEqualIntIntX7, rSlicesEqualIntIntX8, rSlicesEqualIntIntX9, blk, eds_length, eds_get, edsAt, edAV, allLeaf_eds, cleanL_eds, cleanL_ints, ints_length, ints_get, intsAt, endL, finB])
 | k + 1, i, hi => by
   have hlt : i < a.length := by omega
   have hltb : i < b.length := by omega
   have h1 : (i : Int) < a.length := by omega
   have h1b : (i : Int) < b.length := by omega
   have hw := wrapS (i := i) (by omega)
   have ih := eql_loop a b hl ha k (i + 1) (by omega)
   have i1 := idx_lt (k := .i64) (i := (i : Int)) (n := a.length) (by omega) h1
   have i2 := idx_lt (k := .i64) (i := (i : Int)) (n := b.length) (by omega) h1b
   rw [List.drop_eq_getElem_cons hlt, List.drop_eq_getElem_cons hltb]
   simp only [List.cons.injEq]
   by_cases e : a[i] = b[i]
   ·have : (a[i] = b[i] /\ a.drop (i + 1) = b.drop (i + 1)) = (a.drop (i + 1) = b.drop (i + 1)) := by simp [e]
    simp only [this]
    rw [<- ih]
    exact loop_next (by unfold lSlicesEqualIntIntX0; simp [rSlicesEqualIntIntX0, rSlicesEqualIntIntX1, rSlicesEqualIntIntX2, rSlicesEqualIntIntX3, rSlicesEqualIntIntX4, rSlicesEqualIntIntX5, rSlicesEqualIntIntX6, rSlicesEqualIntIntX7, rSlicesEqualIntIntX8, rSlicesEqualIntIntX9, h1, h1b, hlt, hltb, hw, i1, i2, e, blk, eds_length, eds_get, edsAt, edAV, allLeaf_eds, cleanL_eds, cleanL_ints, ints_length, ints_get, intsAt, endL, finB])
   ·rw [if_neg (fun k => e k.1)]
    exact loop_ret (by unfold lSlicesEqualIntIntX0; simp [rSlicesEqualIntIntX0, rSlicesEqualIntIntX1, rSlicesEqualIntIntX2, rSlicesEqualIntIntX3, rSlicesEqualIntIntX4, rSlicesEqualIntIntX5, rSlicesEqualIntIntX6, rSlicesEqualIntIntX7, rSlicesEqualIntIntX8, rSlicesEqualIntIntX9, h1, h1b, hlt, hltb, hw, i1, i2, e, blk, eds_length, eds_get, edsAt, edAV, allLeaf_eds, cleanL_eds, cleanL_ints, ints_length, ints_get, intsAt, endL, finB])
theorem eql_run (a b : List Int) (ha : a.length < 4294967295) : callL cfgS nSlicesEqualIntInt [.list 1 (ints a), .list 1 (ints b)] [] = some (.bool (decide (a = b)), []) := by
 rw [callL_end oSlicesEqualIntInt sSlicesEqualIntInt (Nat.le_of_ble_eq_true rfl)]
 unfold qSlicesEqualIntInt cSlicesEqualIntInt
 by_cases hl : a.length = b.length
 ·have lp := eql_loop a b hl ha a.length 0 (by omega)
  rw [List.drop_zero, List.drop_zero, nat0] at lp
  have hl' : (a.length : Int) = b.length := by omega
  by_cases e : a = b
  ·rw [if_pos e] at lp
   subst e
   simp [rSlicesEqualIntIntX0, rSlicesEqualIntIntX1, rSlicesEqualIntIntX2, rSlicesEqualIntIntX3, rSlicesEqualIntIntX4, rSlicesEqualIntIntX5, rSlicesEqualIntIntX6, rSlicesEqualIntIntX7, rSlicesEqualIntIntX8, rSlicesEqualIntIntX9, lp, blk, eds_length, eds_get, edsAt, edAV, allLeaf_eds, cleanL_eds, cleanL_ints, ints_length, ints_get, intsAt, endL, finB]
  ·rw [if_neg e] at lp
   rw [decide_eq_false e]
   rw [hl'] at lp
   simp [rSlicesEqualIntIntX0, rSlicesEqualIntIntX1, rSlicesEqualIntIntX2, rSlicesEqualIntIntX3, rSlicesEqualIntIntX4, rSlicesEqualIntIntX5, rSlicesEqualIntIntX6, rSlicesEqualIntIntX7, rSlicesEqualIntIntX8, rSlicesEqualIntIntX9, lp, hl', blk, eds_length, eds_get, edsAt, edAV, allLeaf_eds, cleanL_eds, cleanL_ints, ints_length, ints_get, intsAt, endL, finB]
 ·have hl' : ¬ (a.length : Int) = b.length := by omega
  have e : ¬ a = b := fun k => hl (by rw [k])
  rw [decide_eq_false e]
  simp [rSlicesEqualIntIntX0, rSlicesEqualIntIntX1, rSlicesEqualIntIntX2, rSlicesEqualIntIntX3, rSlicesEqualIntIntX4, rSlicesEqualIntIntX5, rSlicesEqualIntIntX6, rSlicesEqualIntIntX7, rSlicesEqualIntIntX8, rSlicesEqualIntIntX9, hl', blk, eds_length, eds_get, edsAt, edAV, allLeaf_eds, cleanL_eds, cleanL_ints, ints_length, ints_get, intsAt, endL, finB]
def triAV (N : Nat) (Es : List Ed) (C : Int) (Ns : List Int) : AV := .agg [.int .i64 N, .list 2 (eds Es), .int .i64 C, .list 1 (ints Ns)]
theorem copied_run (N : Int) (Es : List Ed) (hE : Es.length < 1000000) : callL cfgS nTrianglesCopied [.agg [.int .i64 N, .list 2 (eds Es)]] [] = some (.agg [.int .i64 N, .list 2 (eds Es)], []) := by
 have cl := cloneE_run Es hE
 have cE := cleanL_eds Es
 have g5 := eds_length Es
 have tk : (eds Es).take Es.length = eds Es := List.take_of_length_le (by omega)
 rw [callL_end oTrianglesCopied sTrianglesCopied (Nat.le_of_ble_eq_true rfl)]
 unfold qTrianglesCopied cTrianglesCopied
 generalize eds Es = Y at *
 simp [rTrianglesCopiedX0, rTrianglesCopiedX1, rTrianglesCopiedX2, cl, cE, g5, tk, sSlicesCloneApiEdgeApiEdge, iSlicesCloneApiEdgeApiEdge, lSlicesCloneApiEdgeApiEdge, eSlicesCloneApiEdgeApiEdge, blk, plp, plpL, allB, notBox, swC, swS, seesC, inBox, plL, pl, relB, handBox, mvBB, mvRtB, endL, finB, finS]
theorem topen_run {N : Nat} {Es : List Ed} (hG : GOK (N : Int) Es) (hE : Es.length < 1000000) : callL cfgS nTrianglesOpen [.agg [.int .i64 N, .list 2 (eds Es)]] [] = some (.tup [triAV N Es ((triS N Es : Int) / 3) (triN N Es), .int .i64 0], []) := by
 have g := gchk_run N Es (by omega)
 rw [chkG_zero.2 hG] at g
 have cr := counts_run hG hE
 have cp := copied_run N Es hE
 rw [callL_end oTrianglesOpen sTrianglesOpen (Nat.le_of_ble_eq_true rfl)]
 unfold qTrianglesOpen cTrianglesOpen triAV
 generalize eds Es = Y at *
 generalize ints (triN N Es) = tN at *
 generalize (triS N Es : Int) / 3 = tS at *
 simp [rTrianglesOpenX0, rTrianglesOpenX1, rTrianglesOpenX2, rTrianglesOpenX3, rTrianglesOpenX4, rTrianglesOpenX5, g, cr, cp, sGraphCheck, iGraphCheck, lGraphCheck, eGraphCheck, sTrianglesCounts, iTrianglesCounts, lTrianglesCounts, eTrianglesCounts, sTrianglesCopied, iTrianglesCopied, lTrianglesCopied, eTrianglesCopied, blk, plp, plpL, allB, notBox, swC, swS, seesC, inBox, plL, pl, relB, handBox, mvBB, mvRtB, endL, finB, finS]
theorem tvalid_run {N : Nat} {Es : List Ed} (hG : GOK (N : Int) Es) (hE : Es.length < 1000000) (C : Int) (Ns : List Int) (hN : Ns.length < 1000000) : callL cfgS nTrianglesValid [triAV N Es C Ns] [] = some (.bool (decide (C = (triS N Es : Int) / 3) && decide (Ns = triN N Es)), []) := by
 have g := gchk_run N Es (by omega)
 rw [chkG_zero.2 hG] at g
 have cr := counts_run hG hE
 have el := eql_run Ns (triN N Es) (by omega)
 rw [callL_end oTrianglesValid sTrianglesValid (Nat.le_of_ble_eq_true rfl)]
 unfold qTrianglesValid cTrianglesValid triAV
 generalize decide (Ns = triN N Es) = q at *
 generalize eds Es = Y at *
 generalize ints (triN N Es) = tN at *
 generalize ints Ns = nN at *
 generalize (triS N Es : Int) / 3 = tS at *
 by_cases k : C = tS
 ·subst k
  simp [rTrianglesValidX0, rTrianglesValidX1, rTrianglesValidX2, rTrianglesValidX3, rTrianglesValidX4, g, cr, el, sGraphCheck, iGraphCheck, lGraphCheck, eGraphCheck, sTrianglesCounts, iTrianglesCounts, lTrianglesCounts, eTrianglesCounts, sSlicesEqualIntInt, iSlicesEqualIntInt, lSlicesEqualIntInt, eSlicesEqualIntInt, blk, plp, plpL, allB, notBox, swC, swS, seesC, inBox, plL, pl, relB, handBox, mvBB, mvRtB, endL, finB, finS]
 ·simp [rTrianglesValidX0, rTrianglesValidX1, rTrianglesValidX2, rTrianglesValidX3, rTrianglesValidX4, g, cr, el, k, sGraphCheck, iGraphCheck, lGraphCheck, eGraphCheck, sTrianglesCounts, iTrianglesCounts, lTrianglesCounts, eTrianglesCounts, sSlicesEqualIntInt, iSlicesEqualIntInt, lSlicesEqualIntInt, eSlicesEqualIntInt, blk, plp, plpL, allB, notBox, swC, swS, seesC, inBox, plL, pl, relB, handBox, mvBB, mvRtB, endL, finB, finS]
end Go.BmP
