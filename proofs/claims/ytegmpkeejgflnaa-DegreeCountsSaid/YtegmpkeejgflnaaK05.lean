/- What functions of cohesionref03 return: Of, Check, Find. -/
import Derived.Test.YtegmpkeejgflnaaUseM
import Derived.Test.YtegmpkeejgflnaaK03
import Derived.Test.YtegmpkeejgflnaaK04
set_option linter.unusedSimpArgs false
set_option linter.unusedVariables false
set_option maxRecDepth 100000
set_option maxHeartbeats 4000000
namespace Go.BmP
open Go.Am Go.Bm
def ofSt (n : Int) (l : List Ed) (E : AV) (i : Int) : St := ⟨[(0, .int .i64 n), (4, .ptr 0 0), (6, .ptr 1 0), (18, .list 2 (eds l)), (19, .int .i64 l.length), (20, .int .i64 i)], [some [.int .i64 0, .own 2 []], some [.int .i64 n, E]]⟩
def ofEnd (n : Int) (l : List Ed) (E : AV) : St := ⟨[(0, .int .i64 n), (4, .ptr 0 0), (6, .ptr 1 0), (18, .list 2 (eds l)), (19, .int .i64 l.length), (20, .int .i64 l.length), (21, .bool false)], [some [.int .i64 0, .own 2 []], some [.int .i64 n, E]]⟩
theorem rchk_loop (m : Int) (l : List Ed) (hl : l.length < 4294967297) : ∀ n i : Nat, i + n = l.length -> codeL cfgS 0 (.loop lQsX0) ⟨[(1, .ptr 0 0), (14, .list 2 (eds l)), (15, .int .i64 l.length), (16, .int .i64 i)], [some [.int .i64 m, .list 2 (eds l)]]⟩ =
  if chkGo m (prevE l i) (l.drop i) = 0 then some (.exit 0, ⟨[(1, .ptr 0 0), (14, .list 2 (eds l)), (15, .int .i64 l.length), (16, .int .i64 l.length), (17, .bool false)], [some [.int .i64 m, .list 2 (eds l)]]⟩) else some (.ret, ⟨[(2, .int .i64 (chkGo m (prevE l i) (l.drop i)))], []⟩)
 | 0, i, hi => by
   have e : i = l.length := by omega
   subst e
   rw [List.drop_length]
   exact loop_exit (by unfold lQsX0; simp [rQsX0, rQsX1, rQsX2, rQsX3, rQsX4, rQsX5, rQsX6, rQsX7, rQsX8, rQsX9, rQsX10, rQsX11, blk, eds_length, eds_get, edsAt, edAV, allLeaf_eds, cleanL_eds, cleanL_ints, ints_length, ints_get, intsAt, endL, finB])
 | n + 1, i, hi => by
   have hlt : i < l.length := by omega
   have h1 : (i : Int) < l.length := by omega
   have ih := rchk_loop m l hl n (i + 1) (by omega)
   have hw := wrapS (i := i) (by omega)
   rw [prevE_succ l i hlt] at ih
   rw [List.drop_eq_getElem_cons hlt]
   by_cases ha : l[i].1 < 0
   ·have e : chkGo m (prevE l i) (l[i] :: l.drop (i + 1)) = 6 := by unfold chkGo; rw [if_pos (.inl ha)]
    rw [e]
    exact loop_ret (by unfold lQsX0; simp [rQsX0, rQsX1, rQsX2, rQsX3, rQsX4, rQsX5, rQsX6, rQsX7, rQsX8, rQsX9, rQsX10, rQsX11, h1, hlt, ha, idx, blk, eds_length, eds_get, edsAt, edAV, allLeaf_eds, cleanL_eds, cleanL_ints, ints_length, ints_get, intsAt, endL, finB])
   by_cases hb : l[i].2 <= l[i].1
   ·have e : chkGo m (prevE l i) (l[i] :: l.drop (i + 1)) = 6 := by unfold chkGo; rw [if_pos (.inr (.inl hb))]
    rw [e]
    exact loop_ret (by unfold lQsX0; simp [rQsX0, rQsX1, rQsX2, rQsX3, rQsX4, rQsX5, rQsX6, rQsX7, rQsX8, rQsX9, rQsX10, rQsX11, h1, hlt, ha, hb, idx, blk, eds_length, eds_get, edsAt, edAV, allLeaf_eds, cleanL_eds, cleanL_ints, ints_length, ints_get, intsAt, endL, finB])
   by_cases hc : m <= l[i].2
   ·have e : chkGo m (prevE l i) (l[i] :: l.drop (i + 1)) = 6 := by unfold chkGo; rw [if_pos (.inr (.inr hc))]
    rw [e]
    exact loop_ret (by unfold lQsX0; simp [rQsX0, rQsX1, rQsX2, rQsX3, rQsX4, rQsX5, rQsX6, rQsX7, rQsX8, rQsX9, rQsX10, rQsX11, h1, hlt, ha, hb, hc, idx, blk, eds_length, eds_get, edsAt, edAV, allLeaf_eds, cleanL_eds, cleanL_ints, ints_length, ints_get, intsAt, endL, finB])
   have hn : ¬ (l[i].1 < 0 \/ l[i].2 <= l[i].1 \/ m <= l[i].2) := by omega
   cases i with
   | zero =>
     have e : chkGo m (prevE l 0) (l[0] :: l.drop (0 + 1)) = chkGo m (some l[0]) (l.drop (0 + 1)) := by
      conv => lhs; unfold chkGo
      rw [if_neg hn, prevE_zero, if_neg (show ¬ badP none l[0] from fun h => h)]
     rw [e]
     exact (loop_next (by unfold lQsX0; simp [rQsX0, rQsX1, rQsX2, rQsX3, rQsX4, rQsX5, rQsX6, rQsX7, rQsX8, rQsX9, rQsX10, rQsX11, h1, hlt, ha, hb, hc, hw, idx, blk, eds_length, eds_get, edsAt, edAV, allLeaf_eds, cleanL_eds, cleanL_ints, ints_length, ints_get, intsAt, endL, finB])).trans ih
   | succ j =>
     have hj : j < l.length := by omega
     have hj1 : (j : Int) < l.length := by omega
     have hp : (0 : Int) < (j : Int) + 1 := by omega
     have hp0 : (0 : Int) <= (j : Int) + 1 := by omega
     have hw2 := wrapN (i := j) (by omega)
     have h1 : (j : Int) + 1 < l.length := by omega
     have hw : IntKind.i64.wrap ((j : Int) + 1 + 1) = (j : Int) + 1 + 1 := wrapZ (j := j + 1 + 1) rfl (by omega)
     have ho := before_run l[j] l[j + 1]
     by_cases hd : ltE l[j] l[j + 1]
     ·have e : chkGo m (prevE l (j + 1)) (l[j + 1] :: l.drop (j + 1 + 1)) = chkGo m (some l[j + 1]) (l.drop (j + 1 + 1)) := by
       conv => lhs; unfold chkGo
       rw [if_neg hn, prevE_succ l j hj, if_neg (show ¬ badP (some l[j]) l[j + 1] from fun k => k hd)]
      rw [e]
      exact (loop_next (by unfold lQsX0; simp [rQsX0, rQsX1, rQsX2, rQsX3, rQsX4, rQsX5, rQsX6, rQsX7, rQsX8, rQsX9, rQsX10, rQsX11, h1, hlt, ha, hb, hc, hj, hj1, hp, hp0, hw, hw2, ho, hd, idx, sQD, iQD, lQD, blk, eds_length, eds_get, edsAt, edAV, allLeaf_eds, cleanL_eds, cleanL_ints, ints_length, ints_get, intsAt, endL, finB])).trans ih
     ·have e : chkGo m (prevE l (j + 1)) (l[j + 1] :: l.drop (j + 1 + 1)) = 5 := by
       unfold chkGo
       rw [if_neg hn, prevE_succ l j hj, if_pos (show badP (some l[j]) l[j + 1] from hd)]
      rw [e]
      exact loop_ret (by unfold lQsX0; simp [rQsX0, rQsX1, rQsX2, rQsX3, rQsX4, rQsX5, rQsX6, rQsX7, rQsX8, rQsX9, rQsX10, rQsX11, h1, hlt, ha, hb, hc, hj, hj1, hp, hp0, hw2, ho, hd, idx, sQD, iQD, lQD, blk, eds_length, eds_get, edsAt, edAV, allLeaf_eds, cleanL_eds, cleanL_ints, ints_length, ints_get, intsAt, endL, finB])
theorem rchk_run (m : Int) (l : List Ed) (hl : l.length < 4294967297) : callL cfgS nQs [.agg [.int .i64 m, .list 2 (eds l)]] [] = some (.int .i64 (chkG m l), []) := by
 rw [callL_end oQs sQs (Nat.le_of_ble_eq_true rfl)]
 have h := rchk_loop m l hl l.length 0 (by omega)
 rw [nat0, List.drop_zero, prevE_zero] at h
 unfold qQs cQs chkG
 by_cases ha : m < 0
 ·simp [rQsX0, rQsX1, rQsX2, rQsX3, rQsX4, rQsX5, rQsX6, rQsX7, rQsX8, rQsX9, rQsX10, rQsX11, ha, blk, eds_length, eds_get, edsAt, edAV, allLeaf_eds, cleanL_eds, cleanL_ints, ints_length, ints_get, intsAt, endL, finB]
 by_cases hb : 64 < m
 ·simp [rQsX0, rQsX1, rQsX2, rQsX3, rQsX4, rQsX5, rQsX6, rQsX7, rQsX8, rQsX9, rQsX10, rQsX11, ha, hb, blk, eds_length, eds_get, edsAt, edAV, allLeaf_eds, cleanL_eds, cleanL_ints, ints_length, ints_get, intsAt, endL, finB]
 rw [if_neg (by omega)]
 by_cases hc : chkGo m none l = 0
 ·rw [if_pos hc] at h
  rw [hc]
  simp [rQsX0, rQsX1, rQsX2, rQsX3, rQsX4, rQsX5, rQsX6, rQsX7, rQsX8, rQsX9, rQsX10, rQsX11, ha, hb, h, blk, eds_length, eds_get, edsAt, edAV, allLeaf_eds, cleanL_eds, cleanL_ints, ints_length, ints_get, intsAt, endL, finB]
 ·rw [if_neg hc] at h
  simp [rQsX0, rQsX1, rQsX2, rQsX3, rQsX4, rQsX5, rQsX6, rQsX7, rQsX8, rQsX9, rQsX10, rQsX11, ha, hb, h, blk, eds_length, eds_get, edsAt, edAV, allLeaf_eds, cleanL_eds, cleanL_ints, ints_length, ints_get, intsAt, endL, finB]
end Go.BmP
