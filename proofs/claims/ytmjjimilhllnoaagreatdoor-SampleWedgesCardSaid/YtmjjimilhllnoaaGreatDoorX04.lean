/- What sample.Wedge and ByWedges return. -/
import Derived.Test.YtmjjimilhllnoaaGreatDoorUseM
import Derived.Test.YtmjjimilhllnoaaGreatDoorX03
set_option linter.unusedSimpArgs false
set_option linter.unusedVariables false
set_option maxRecDepth 100000
set_option maxHeartbeats 4000000
namespace Go.BmP
open Go.Am Go.Bm
theorem clone3 (a b c : Int) : callL cfgS nQs [.list 1 [.int .i64 a, .int .i64 b, .int .i64 c]] [] = some (.own 1 [.int .i64 a, .int .i64 b, .int .i64 c], []) := by
 rw [callL_ofA (by unfold orcA; rw [oQs]; rfl) sQs (Nat.le_of_ble_eq_true rfl)]
 unfold qQs cQs
 simp [rQsX0, rQsX1, rQsX2, rQsX3, LIM, endL, finB, allLocal, local_, takeR, takeV, AV.cells, AV.leaf]
theorem wedge_bad {N : Nat} {Es : List Ed} (hG : GOK (N : Int) Es) (hE : Es.length < 1000000) : ∃ r b, callL cfgS nQg [.agg [.int .i64 N, .list 2 (eds Es)], .int .i64 (wdgs N Es N).length] [] = some (.tup [.list 1 [], .bool false, .int .i64 1], []) /\ r = 0 /\ b = 0 := by
 refine ⟨0, 0, ?_, rfl, rfl⟩
 have ww := wedges_run hG hE
 have cc := gchk_run (N : Int) Es (by omega)
 rw [chkG_zero.2 hG] at cc
 rw [callL_end oQg sQg (Nat.le_of_ble_eq_true rfl)]
 unfold qQg cQg
 have gl := wds_length (wdgs N Es N)
 generalize wdgs N Es N = W at *
 generalize wds W = Z at *
 generalize eds Es = Y at *
 have n0 : ¬ (W.length : Int) < 0 := by omega
 simp [rQgX0, rQgX1, rQgX2, rQgX3, rQgX4, rQgX5, rQgX6, rQgX7, ww, cc, gl, n0, sQq, iQq, sQr, iQr, blk, eds_length, eds_get, edsAt, edAV, allLeaf_eds, cleanL_eds, cleanL_ints, ints_length, ints_get, intsAt, endL, finB]
theorem wedge_run {N : Nat} {Es : List Ed} (hG : GOK (N : Int) Es) (hE : Es.length < 1000000) (i : Nat) (hi : i < (wdgs N Es N).length) : callL cfgS nQg [.agg [.int .i64 N, .list 2 (eds Es)], .int .i64 i] [] = some (.tup [.list 1 (ints [(wdgs N Es N)[i].1, (wdgs N Es N)[i].2.1, (wdgs N Es N)[i].2.2]), .bool (cls Es (wdgs N Es N)[i]), .int .i64 0], []) := by
 have ww := wedges_run hG hE
 have cc := gchk_run (N : Int) Es (by omega)
 rw [chkG_zero.2 hG] at cc
 have wc := closed_run hG hE (wdgs N Es N)[i]
 have gl := wds_length (wdgs N Es N)
 have g1 : ∀ h : i < (wds (wdgs N Es N)).length, (wds (wdgs N Es N))[i] = .agg [.int .i64 (wdgs N Es N)[i].1, .int .i64 (wdgs N Es N)[i].2.1, .int .i64 (wdgs N Es N)[i].2.2] := fun h => by simp [wds, wdAV]
 have g2 : (wds (wdgs N Es N))[i]? = some (.agg [.int .i64 (wdgs N Es N)[i].1, .int .i64 (wdgs N Es N)[i].2.1, .int .i64 (wdgs N Es N)[i].2.2]) := by rw [List.getElem?_eq_getElem (by rw [gl]; exact hi), g1]
 have c3 := clone3 (wdgs N Es N)[i].1 (wdgs N Es N)[i].2.1 (wdgs N Es N)[i].2.2
 rw [callL_end oQg sQg (Nat.le_of_ble_eq_true rfl)]
 unfold qQg cQg
 generalize hW : (wdgs N Es N)[i] = w at *
 generalize cls Es w = q at *
 generalize wdgs N Es N = W at *
 generalize wds W = Z at *
 generalize eds Es = Y at *
 have n0 : ¬ (i : Int) < 0 := by omega
 have n1 : ¬ (W.length : Int) <= (i : Int) := by omega
 have n2 : (i : Int) < W.length := by omega
 simp [rQgX0, rQgX1, rQgX2, rQgX3, rQgX4, rQgX5, rQgX6, rQgX7, ww, cc, gl, n0, n1, n2, hi, g1, g2, c3, wc, idx, ints, List.map, sQq, iQq, sQr, iQr, sQt, iQt, sQs, iQs, blk, eds_length, eds_get, edsAt, edAV, allLeaf_eds, cleanL_eds, cleanL_ints, ints_length, ints_get, intsAt, endL, finB]
def bwSt (N : Nat) (Y : List AV) (P : List Int) (W : List AV) (n : Nat) (i : Nat) (J : Env) : St := ⟨(1, .list 1 (ints P)) :: (2, .ptr 0 0) :: (4, .ptr 1 0) :: (7, .list 3 W) :: (8, .int .i64 n) :: (19, .list 1 (ints P)) :: (20, .int .i64 P.length) :: (21, .int .i64 i) :: J, [some [.int .i64 N, .list 2 Y], some [.int .i64 0, .int .i64 0]]⟩
theorem bw_loop {N : Nat} {Es : List Ed} (hG : GOK (N : Int) Es) (hE : Es.length < 1000000) (P : List Int) (hP : P.length = (wdgs N Es N).length) (hp : ∀ i (h : i < P.length), P[i] = (i : Int)) (hb : (wdgs N Es N).length < 1000000) : ∀ n i : Nat, i + n = P.length ->
  codeL cfgS 0 (.loop lQjX0) (bwSt N (eds Es) P (wds (wdgs N Es N)) (((wdgs N Es N).take i).countP (cls Es)) i []) = some (.exit 0, bwSt N (eds Es) P (wds (wdgs N Es N)) ((wdgs N Es N).countP (cls Es)) P.length [(22, .bool false)])
 | 0, i, e => by
   obtain rfl : i = P.length := by omega
   rw [hP, List.take_length, <- hP]
   exact loop_exit (by unfold lQjX0 bwSt; simp [rQjX0, rQjX1, rQjX2, rQjX3, rQjX4, rQjX5, rQjX6, rQjX7, rQjX8, rQjX9, rQjX10, rQjX11, rQjX12, rQjX13, rQjX14, blk, eds_length, eds_get, edsAt, edAV, allLeaf_eds, cleanL_eds, cleanL_ints, ints_length, ints_get, intsAt, endL, finB])
 | n + 1, i, e => by
   have h1 : i < P.length := by omega
   have h2 : (i : Int) < P.length := by omega
   have hi : i < (wdgs N Es N).length := by omega
   have hw := wrapS (i := i) (by omega)
   have hpi := hp i h1
   have ih := bw_loop hG hE P hP hp hb n (i + 1) (by omega)
   have wc := closed_run hG hE (wdgs N Es N)[i]
   have gl := wds_length (wdgs N Es N)
   have g1 : ∀ h : i < (wds (wdgs N Es N)).length, (wds (wdgs N Es N))[i] = .agg [.int .i64 (wdgs N Es N)[i].1, .int .i64 (wdgs N Es N)[i].2.1, .int .i64 (wdgs N Es N)[i].2.2] := fun h => by simp [wds, wdAV]
   have g2 : (wds (wdgs N Es N))[i]? = some (.agg [.int .i64 (wdgs N Es N)[i].1, .int .i64 (wdgs N Es N)[i].2.1, .int .i64 (wdgs N Es N)[i].2.2]) := by rw [List.getElem?_eq_getElem (by rw [gl]; exact hi), g1]
   have ct : ((wdgs N Es N).take (i + 1)).countP (cls Es) = ((wdgs N Es N).take i).countP (cls Es) + if cls Es (wdgs N Es N)[i] = true then 1 else 0 := by
    rw [List.take_succ_eq_append_getElem hi, List.countP_append, List.countP_singleton]
   have cb : ((wdgs N Es N).take i).countP (cls Es) <= ((wdgs N Es N).take i).length := List.countP_le_length
   rw [List.length_take] at cb
   refine (loop_next (s' := bwSt N (eds Es) P (wds (wdgs N Es N)) (((wdgs N Es N).take (i + 1)).countP (cls Es)) (i + 1) []) ?_).trans ih
   rw [ct]
   clear ih ct
   generalize ((wdgs N Es N).take i).countP (cls Es) = c at *
   have hw2 := wrapS (i := c) (by omega)
   generalize hW : (wdgs N Es N)[i] = w at *
   clear hp
   generalize wdgs N Es N = W at *
   generalize wds W = Z at *
   generalize eds Es = Y at *
   have n0 : ¬ (i : Int) < 0 := by omega
   have n1 : ¬ (W.length : Int) <= (i : Int) := by omega
   have n2 : (i : Int) < W.length := by omega
   unfold lQjX0 bwSt
   by_cases q : cls Es w = true
   ·rw [q] at wc
    rw [if_pos q]
    simp [rQjX0, rQjX1, rQjX2, rQjX3, rQjX4, rQjX5, rQjX6, rQjX7, rQjX8, rQjX9, rQjX10, rQjX11, rQjX12, rQjX13, rQjX14, h1, h2, hi, hw, hw2, hpi, wc, gl, g1, g2, n0, n1, n2, idx, sQt, iQt, blk, eds_length, eds_get, edsAt, edAV, allLeaf_eds, cleanL_eds, cleanL_ints, ints_length, ints_get, intsAt, endL, finB]
   ·rw [Bool.not_eq_true] at q
    rw [q] at wc
    rw [if_neg (by rw [q]; exact Bool.false_ne_true)]
    simp [rQjX0, rQjX1, rQjX2, rQjX3, rQjX4, rQjX5, rQjX6, rQjX7, rQjX8, rQjX9, rQjX10, rQjX11, rQjX12, rQjX13, rQjX14, h1, h2, hi, hw, hw2, hpi, wc, gl, g1, g2, n0, n1, n2, idx, sQt, iQt, blk, eds_length, eds_get, edsAt, edAV, allLeaf_eds, cleanL_eds, cleanL_ints, ints_length, ints_get, intsAt, endL, finB]
end Go.BmP
