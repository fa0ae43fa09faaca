/- What graph.Add returns for a graph that is in order. -/
import Derived.Test.YtcjfhegnnjnmgaaUseM
import Derived.Test.YtcjfhegnnjnmgaaA01
set_option linter.unusedSimpArgs false
set_option linter.unusedVariables false
set_option maxRecDepth 100000
set_option maxHeartbeats 4000000
namespace Go.BmP
open Go.Am Go.Bm
theorem pos_mem {x : Ed} {Es : List Ed} (hU : UpE Es) : x ∈ Es ↔ Es[posE x Es]? = some x := by
 constructor
 ·intro hx
  obtain ⟨t, ht, e⟩ := List.getElem_of_mem hx
  have h1 : posE x Es = t := posE_of x Es t (by omega) (fun s hs hst => by rw [<- e]; exact List.pairwise_iff_getElem.1 hU s t hs ht hst) (fun _ => by rw [e]; exact ltE_irr)
  rw [h1, List.getElem?_eq_getElem ht, e]
 ·exact fun h => List.mem_of_getElem? h
theorem bs_run (x : Ed) (Es : List Ed) (hE : Es.length < 1000000) (hU : UpE Es) : ∃ b, callL cfgS nSlicesBinarySearchFuncApiEdgeApiEdgeApiEdge [.list 2 (eds Es), .agg [.int .i64 x.1, .int .i64 x.2], .func (.func nGraphOrder) [] []] [] = some (.tup [.int .i64 (posE x Es), .bool b], []) := by
 have lp := bs_loop x Es hE hU Es.length 0 Es.length (by omega) (by omega) (Nat.le_refl _) (fun t h ht => by omega) (fun t h ht => by omega)
 unfold bsSt at lp
 rw [nat0] at lp
 have g5 := eds_length Es
 have pl := posE_le x Es
 rw [callL_end oSlicesBinarySearchFuncApiEdgeApiEdgeApiEdge sSlicesBinarySearchFuncApiEdgeApiEdgeApiEdge (Nat.le_of_ble_eq_true rfl)]
 unfold qSlicesBinarySearchFuncApiEdgeApiEdgeApiEdge cSlicesBinarySearchFuncApiEdgeApiEdgeApiEdge
 by_cases q : posE x Es < Es.length
 ·have qn : (posE x Es : Int) < Es.length := by omega
  have g1 : (eds Es)[posE x Es]? = some (.agg [.int .i64 Es[posE x Es].1, .int .i64 Es[posE x Es].2]) := by rw [eds_get, List.getElem?_eq_getElem q]; rfl
  have g2 : ∀ p, (eds Es)[posE x Es]'p = .agg [.int .i64 Es[posE x Es].1, .int .i64 Es[posE x Es].2] := fun p => edsAt ..
  have o := order_run Es[posE x Es] x
  refine ⟨decide (ordI Es[posE x Es] x = 0), ?_⟩
  generalize ordI Es[posE x Es] x = z at *
  generalize Es[posE x Es] = e at *
  obtain ⟨xa, xb⟩ := x
  simp only at o lp
  generalize posE (xa, xb) Es = k at *
  generalize eds Es = Y at *
  by_cases z0 : z = 0
  ·simp [rSlicesBinarySearchFuncApiEdgeApiEdgeApiEdgeX0, rSlicesBinarySearchFuncApiEdgeApiEdgeApiEdgeX1, rSlicesBinarySearchFuncApiEdgeApiEdgeApiEdgeX2, rSlicesBinarySearchFuncApiEdgeApiEdgeApiEdgeX3, rSlicesBinarySearchFuncApiEdgeApiEdgeApiEdgeX4, rSlicesBinarySearchFuncApiEdgeApiEdgeApiEdgeX5, rSlicesBinarySearchFuncApiEdgeApiEdgeApiEdgeX6, rSlicesBinarySearchFuncApiEdgeApiEdgeApiEdgeX7, rSlicesBinarySearchFuncApiEdgeApiEdgeApiEdgeX8, lp, q, qn, g1, g2, g5, o, z0, idx, sGraphOrder, iGraphOrder, lGraphOrder, eGraphOrder, blk, plp, plpL, allB, notBox, swC, swS, seesC, inBox, plL, pl, endL, finB, finS]
  ·simp [rSlicesBinarySearchFuncApiEdgeApiEdgeApiEdgeX0, rSlicesBinarySearchFuncApiEdgeApiEdgeApiEdgeX1, rSlicesBinarySearchFuncApiEdgeApiEdgeApiEdgeX2, rSlicesBinarySearchFuncApiEdgeApiEdgeApiEdgeX3, rSlicesBinarySearchFuncApiEdgeApiEdgeApiEdgeX4, rSlicesBinarySearchFuncApiEdgeApiEdgeApiEdgeX5, rSlicesBinarySearchFuncApiEdgeApiEdgeApiEdgeX6, rSlicesBinarySearchFuncApiEdgeApiEdgeApiEdgeX7, rSlicesBinarySearchFuncApiEdgeApiEdgeApiEdgeX8, lp, q, qn, g1, g2, g5, o, z0, idx, sGraphOrder, iGraphOrder, lGraphOrder, eGraphOrder, blk, plp, plpL, allB, notBox, swC, swS, seesC, inBox, plL, pl, endL, finB, finS]
 ·have qn : ¬ (posE x Es : Int) < Es.length := by omega
  refine ⟨false, ?_⟩
  obtain ⟨xa, xb⟩ := x
  simp only at lp
  generalize posE (xa, xb) Es = k at *
  generalize eds Es = Y at *
  simp [rSlicesBinarySearchFuncApiEdgeApiEdgeApiEdgeX0, rSlicesBinarySearchFuncApiEdgeApiEdgeApiEdgeX1, rSlicesBinarySearchFuncApiEdgeApiEdgeApiEdgeX2, rSlicesBinarySearchFuncApiEdgeApiEdgeApiEdgeX3, rSlicesBinarySearchFuncApiEdgeApiEdgeApiEdgeX4, rSlicesBinarySearchFuncApiEdgeApiEdgeApiEdgeX5, rSlicesBinarySearchFuncApiEdgeApiEdgeApiEdgeX6, rSlicesBinarySearchFuncApiEdgeApiEdgeApiEdgeX7, rSlicesBinarySearchFuncApiEdgeApiEdgeApiEdgeX8, lp, q, qn, g5, idx, sGraphOrder, iGraphOrder, lGraphOrder, eGraphOrder, blk, plp, plpL, allB, notBox, swC, swS, seesC, inBox, plL, pl, endL, finB, finS]
theorem place_run (N : Int) (Es : List Ed) (hE : Es.length < 1000000) (hU : UpE Es) (u v : Int) : callL cfgS nGraphPlace [.agg [.int .i64 N, .list 2 (eds Es)], .int .i64 u, .int .i64 v] [] = some (.tup [.int .i64 (posE (nrmE u v) Es), .bool (decide (nrmE u v ∈ Es))], []) := by
 have ge := gedge_run u v
 have pm := pos_mem (x := nrmE u v) hU
 generalize nrmE u v = x at *
 obtain ⟨b, bs⟩ := bs_run x Es hE hU
 have g5 := eds_length Es
 rw [callL_end oGraphPlace sGraphPlace (Nat.le_of_ble_eq_true rfl)]
 unfold qGraphPlace cGraphPlace
 by_cases q : posE x Es < Es.length
 ·have qn : (posE x Es : Int) < Es.length := by omega
  have g1 : (eds Es)[posE x Es]? = some (.agg [.int .i64 Es[posE x Es].1, .int .i64 Es[posE x Es].2]) := by rw [eds_get, List.getElem?_eq_getElem q]; rfl
  have g2 : ∀ p, (eds Es)[posE x Es]'p = .agg [.int .i64 Es[posE x Es].1, .int .i64 Es[posE x Es].2] := fun p => edsAt ..
  rw [List.getElem?_eq_getElem q] at pm
  have pm2 : (x ∈ Es) ↔ Es[posE x Es].1 = x.1 /\ Es[posE x Es].2 = x.2 := by rw [pm, Option.some.injEq, Prod.ext_iff]
  clear pm
  have pm3 : decide (x ∈ Es) = decide (Es[posE x Es].1 = x.1 /\ Es[posE x Es].2 = x.2) := decide_eq_decide.2 pm2
  rw [pm3]
  clear pm2 pm3
  generalize Es[posE x Es] = e at *
  obtain ⟨xa, xb⟩ := x
  simp only at bs ge ⊢
  generalize posE (xa, xb) Es = k at *
  generalize eds Es = Y at *
  obtain ⟨ea, eb⟩ := e
  simp only at g1 g2 ⊢
  by_cases z0 : ea = xa
  ·by_cases z1 : eb = xb
   ·simp [rGraphPlaceX0, rGraphPlaceX1, rGraphPlaceX2, rGraphPlaceX3, bs, ge, q, qn, g1, g2, g5, z0, z1, eqA, eqc, idx, sGraphEdge, iGraphEdge, lGraphEdge, eGraphEdge, sSlicesBinarySearchFuncApiEdgeApiEdgeApiEdge, iSlicesBinarySearchFuncApiEdgeApiEdgeApiEdge, lSlicesBinarySearchFuncApiEdgeApiEdgeApiEdge, eSlicesBinarySearchFuncApiEdgeApiEdgeApiEdge, blk, plp, plpL, allB, notBox, swC, swS, seesC, inBox, plL, pl, endL, finB, finS]
   ·simp [rGraphPlaceX0, rGraphPlaceX1, rGraphPlaceX2, rGraphPlaceX3, bs, ge, q, qn, g1, g2, g5, z0, z1, eqA, eqc, idx, sGraphEdge, iGraphEdge, lGraphEdge, eGraphEdge, sSlicesBinarySearchFuncApiEdgeApiEdgeApiEdge, iSlicesBinarySearchFuncApiEdgeApiEdgeApiEdge, lSlicesBinarySearchFuncApiEdgeApiEdgeApiEdge, eSlicesBinarySearchFuncApiEdgeApiEdgeApiEdge, blk, plp, plpL, allB, notBox, swC, swS, seesC, inBox, plL, pl, endL, finB, finS]
  ·simp [rGraphPlaceX0, rGraphPlaceX1, rGraphPlaceX2, rGraphPlaceX3, bs, ge, q, qn, g1, g2, g5, z0, eqA, eqc, idx, sGraphEdge, iGraphEdge, lGraphEdge, eGraphEdge, sSlicesBinarySearchFuncApiEdgeApiEdgeApiEdge, iSlicesBinarySearchFuncApiEdgeApiEdgeApiEdge, lSlicesBinarySearchFuncApiEdgeApiEdgeApiEdge, eSlicesBinarySearchFuncApiEdgeApiEdgeApiEdge, blk, plp, plpL, allB, notBox, swC, swS, seesC, inBox, plL, pl, endL, finB, finS]
 ·have qn : ¬ (posE x Es : Int) < Es.length := by omega
  rw [List.getElem?_eq_none (by omega)] at pm
  have pm2 : ¬ x ∈ Es := fun h => by have := pm.1 h; cases this
  rw [decide_eq_false pm2]
  clear pm pm2
  obtain ⟨xa, xb⟩ := x
  simp only at bs ge ⊢
  generalize posE (xa, xb) Es = k at *
  generalize eds Es = Y at *
  simp [rGraphPlaceX0, rGraphPlaceX1, rGraphPlaceX2, rGraphPlaceX3, bs, ge, q, qn, g5, eqA, eqc, idx, sGraphEdge, iGraphEdge, lGraphEdge, eGraphEdge, sSlicesBinarySearchFuncApiEdgeApiEdgeApiEdge, iSlicesBinarySearchFuncApiEdgeApiEdgeApiEdge, lSlicesBinarySearchFuncApiEdgeApiEdgeApiEdge, eSlicesBinarySearchFuncApiEdgeApiEdgeApiEdge, blk, plp, plpL, allB, notBox, swC, swS, seesC, inBox, plL, pl, endL, finB, finS]
def EndsOK (N u v : Int) : Prop := u ≠ v /\ (0 <= u /\ u < N) /\ 0 <= v /\ v < N
instance (N u v : Int) : Decidable (EndsOK N u v) := by unfold EndsOK; infer_instance
theorem gends_run (N u v : Int) : callL cfgS nGraphEnds [.int .i64 N, .int .i64 u, .int .i64 v] [] = some (.bool (decide (EndsOK N u v)), []) := by
 rw [callL_end oGraphEnds sGraphEnds (Nat.le_of_ble_eq_true rfl)]
 unfold qGraphEnds cGraphEnds
 have e : EndsOK N u v ↔ (¬ u = v /\ 0 <= (if v < u then v else u)) /\ (if u < v then v else u) < N := by
  unfold EndsOK
  constructor
  ·intro h; refine ⟨⟨h.1, ?_⟩, ?_⟩ <;> split <;> omega
  ·rintro ⟨⟨h1, h2⟩, h3⟩
   split at h2 <;> split at h3 <;> refine ⟨h1, ?_⟩ <;> omega
 have e3 : decide (EndsOK N u v) = decide ((¬ u = v /\ 0 <= (if v < u then v else u)) /\ (if u < v then v else u) < N) := decide_eq_decide.2 e
 rw [e3]
 clear e e3
 obtain ⟨a, ha⟩ : ∃ a, (if v < u then v else u) = a := ⟨_, rfl⟩
 obtain ⟨b, hb⟩ : ∃ b, (if u < v then v else u) = b := ⟨_, rfl⟩
 rw [ha, hb]
 by_cases k1 : u = v
 ·simp [rGraphEndsX0, rGraphEndsX1, ha, hb, k1, blk, endL, finB]
 ·by_cases k2 : 0 <= a
  ·simp [rGraphEndsX0, rGraphEndsX1, ha, hb, k1, k2, blk, endL, finB]
  ·simp [rGraphEndsX0, rGraphEndsX1, ha, hb, k1, k2, blk, endL, finB]
theorem change_run (N : Nat) (Es : List Ed) (hG : GOK (N : Int) Es) (hE : Es.length < 1000000) (u v : Int) : callL cfgS nGraphChange [.agg [.int .i64 N, .list 2 (eds Es)], .int .i64 u, .int .i64 v] [] = some (.int .i64 (if EndsOK N u v then 0 else 6), []) := by
 have gc := gchk_run (N : Int) Es (by omega)
 rw [chkG_zero.2 hG] at gc
 have en := gends_run (N : Int) u v
 rw [callL_end oGraphChange sGraphChange (Nat.le_of_ble_eq_true rfl)]
 unfold qGraphChange cGraphChange
 generalize eds Es = Y at *
 by_cases q : EndsOK N u v
 ·rw [decide_eq_true q] at en
  rw [if_pos q]
  simp [rGraphChangeX0, rGraphChangeX1, rGraphChangeX2, rGraphChangeX3, rGraphChangeX4, rGraphChangeX5, rGraphChangeX6, gc, en, sGraphCheck, iGraphCheck, lGraphCheck, eGraphCheck, sGraphEnds, iGraphEnds, lGraphEnds, eGraphEnds, blk, plp, plpL, allB, notBox, swC, swS, seesC, inBox, plL, pl, endL, finB, finS]
 ·rw [decide_eq_false q] at en
  rw [if_neg q]
  simp [rGraphChangeX0, rGraphChangeX1, rGraphChangeX2, rGraphChangeX3, rGraphChangeX4, rGraphChangeX5, rGraphChangeX6, gc, en, sGraphCheck, iGraphCheck, lGraphCheck, eGraphCheck, sGraphEnds, iGraphEnds, lGraphEnds, eGraphEnds, blk, plp, plpL, allB, notBox, swC, swS, seesC, inBox, plL, pl, endL, finB, finS]
def addV (N : Nat) (Es : List Ed) (u v : Int) : AV := if EndsOK N u v then (if nrmE u v ∈ Es then .tup [.agg [.int .i64 0, .list 2 []], .int .i64 15] else .tup [.agg [.int .i64 N, .list 2 (eds (putE (nrmE u v) Es))], .int .i64 0]) else .tup [.agg [.int .i64 0, .list 2 []], .int .i64 6]
theorem cloneE_run (Es : List Ed) (hl : Es.length < 1000000) : callL cfgS nSlicesCloneApiEdgeApiEdge [.list 2 (eds Es)] [] = some (.own 2 (eds Es), []) := by
 cases Es with
 | nil => exact callL_orc (by unfold orcA; rw [oSlicesCloneApiEdgeApiEdge]; rfl)
 | cons x r =>
   rw [callL_ofA (by unfold orcA; rw [oSlicesCloneApiEdgeApiEdge]; rfl) sSlicesCloneApiEdgeApiEdge (Nat.le_of_ble_eq_true rfl)]
   unfold qSlicesCloneApiEdgeApiEdge cSlicesCloneApiEdgeApiEdge
   have hl' : r.length + 1 <= 4294967296 := by simp at hl; omega
   have tk : (eds r).take r.length = eds r := List.take_of_length_le (by rw [eds_length]; omega)
   simp [rSlicesCloneApiEdgeApiEdgeX0, rSlicesCloneApiEdgeApiEdgeX1, rSlicesCloneApiEdgeApiEdgeX2, rSlicesCloneApiEdgeApiEdgeX3, eds_cons, eds_length, hl', tk, allLeaf_eds, LIM, blk, endL, finB, allLocal, local_, takeR, takeV, eds_take, List.take_take, Nat.min_self, List.take_length, AV.cells, AV.leaf]
theorem add_run (N : Nat) (Es : List Ed) (hG : GOK (N : Int) Es) (hE : Es.length < 1000000) (u v : Int) : callL cfgS nGraphAdd [.agg [.int .i64 N, .list 2 (eds Es)], .int .i64 u, .int .i64 v] [] = some (addV N Es u v, []) := by
 have ch := change_run N Es hG hE u v
 have pr := place_run (N : Int) Es hE hG.2.1 u v
 have ge := gedge_run u v
 have pm := pos_mem (x := nrmE u v) hG.2.1
 have pp := putE_pos (nrmE u v) Es
 have pl := posE_le (nrmE u v) Es
 unfold addV
 rw [callL_end oGraphAdd sGraphAdd (Nat.le_of_ble_eq_true rfl)]
 unfold qGraphAdd cGraphAdd
 by_cases q : EndsOK N u v
 ·rw [if_pos q] at ch ⊢
  by_cases m : nrmE u v ∈ Es
  ·rw [decide_eq_true m] at pr
   rw [if_pos m]
   clear pm pp
   generalize posE (nrmE u v) Es = k at *
   generalize eds Es = Y at *
   simp [rGraphAddX0, rGraphAddX1, rGraphAddX2, rGraphAddX3, rGraphAddX4, rGraphAddX5, rGraphAddX6, rGraphAddX7, ch, pr, sGraphChange, iGraphChange, lGraphChange, eGraphChange, sGraphPlace, iGraphPlace, lGraphPlace, eGraphPlace, blk, plp, plpL, allB, notBox, swC, swS, seesC, inBox, plL, pl, endL, finB, finS]
  ·rw [decide_eq_false m] at pr
   rw [if_neg m]
   rw [if_neg fun h => m (pm.2 h)] at pp
   rw [pp]
   clear pm pp
   have cl := cloneE_run Es hE
   obtain ⟨xa, xb⟩ : ∃ xa xb, nrmE u v = (xa, xb) := ⟨_, _, rfl⟩
   have hk : posE (nrmE u v) Es = posE (nrmE u v) Es := rfl
   have ig : insG 2 (eds Es) [.int .i64 (posE (nrmE u v) Es), .list 2 [.agg [.int .i64 (nrmE u v).1, .int .i64 (nrmE u v).2]]] = some (eds (Es.take (posE (nrmE u v) Es) ++ nrmE u v :: Es.drop (posE (nrmE u v) Es))) := by
    unfold insG
    simp only
    have l5 := eds_length Es
    have e1 : ((posE (nrmE u v) Es : Nat) : Int).toNat = posE (nrmE u v) Es := by omega
    rw [if_pos ⟨trivial, by omega, by rw [e1, l5]; exact pl, by rw [l5]; show Es.length + 1 <= 4294967296; omega, rfl, rfl, rfl⟩, e1]
    simp [eds, edAV]
   have cE := cleanL_eds Es
   have g5 := eds_length Es
   generalize posE (nrmE u v) Es = k at *
   have gk := eds_length (Es.take k ++ nrmE u v :: Es.drop k)
   have tkE : (eds Es).take Es.length = eds Es := List.take_of_length_le (by omega)
   have tk2 : (eds (Es.take k ++ nrmE u v :: Es.drop k)).take (Es.take k ++ nrmE u v :: Es.drop k).length = eds (Es.take k ++ nrmE u v :: Es.drop k) := List.take_of_length_le (by omega)
   generalize Es.take k ++ nrmE u v :: Es.drop k = Fs at *
   generalize eds Fs = Y2 at *
   generalize eds Es = Y at *
   generalize (nrmE u v).1 = a at *
   generalize (nrmE u v).2 = b at *
   simp [rGraphAddX0, rGraphAddX1, rGraphAddX2, rGraphAddX3, rGraphAddX4, rGraphAddX5, rGraphAddX6, rGraphAddX7, ch, pr, ge, cl, ig, cE, g5, gk, tkE, tk2, eatV, eatL, eatE, cleanL, clean, LIM, sGraphChange, iGraphChange, lGraphChange, eGraphChange, sGraphPlace, iGraphPlace, lGraphPlace, eGraphPlace, sGraphEdge, iGraphEdge, lGraphEdge, eGraphEdge, sSlicesCloneApiEdgeApiEdge, iSlicesCloneApiEdgeApiEdge, lSlicesCloneApiEdgeApiEdge, eSlicesCloneApiEdgeApiEdge, sSlicesInsertApiEdgeApiEdge, iSlicesInsertApiEdgeApiEdge, lSlicesInsertApiEdgeApiEdge, eSlicesInsertApiEdgeApiEdge, blk, plp, plpL, allB, notBox, swC, swS, seesC, inBox, plL, pl, relB, handBox, mvBB, mvRtB, endL, finB, finS]
 ·rw [if_neg q] at ch ⊢
  generalize eds Es = Y at *
  simp [rGraphAddX0, rGraphAddX1, rGraphAddX2, rGraphAddX3, rGraphAddX4, rGraphAddX5, rGraphAddX6, rGraphAddX7, ch, sGraphChange, iGraphChange, lGraphChange, eGraphChange, blk, plp, plpL, allB, notBox, swC, swS, seesC, inBox, plL, pl, endL, finB, finS]
end Go.BmP
