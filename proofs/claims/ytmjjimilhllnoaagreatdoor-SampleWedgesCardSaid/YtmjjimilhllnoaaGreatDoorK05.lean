/- What functions of cohesionref03 return: Of, Check, Find. -/
import Derived.Test.YtmjjimilhllnoaaGreatDoorUseM
import Derived.Test.YtmjjimilhllnoaaGreatDoorK03
import Derived.Test.YtmjjimilhllnoaaGreatDoorK04
set_option linter.unusedSimpArgs false
set_option linter.unusedVariables false
set_option maxRecDepth 100000
set_option maxHeartbeats 4000000
namespace Go.BmP
open Go.Am Go.Bm
def ofSt (n : Int) (l : List Ed) (E : AV) (i : Int) : St := ⟨[(0, .int .i64 n), (4, .ptr 0 0), (6, .ptr 1 0), (18, .list 2 (eds l)), (19, .int .i64 l.length), (20, .int .i64 i)], [some [.int .i64 0, .own 2 []], some [.int .i64 n, E]]⟩
def ofEnd (n : Int) (l : List Ed) (E : AV) : St := ⟨[(0, .int .i64 n), (4, .ptr 0 0), (6, .ptr 1 0), (18, .list 2 (eds l)), (19, .int .i64 l.length), (20, .int .i64 l.length), (21, .bool false)], [some [.int .i64 0, .own 2 []], some [.int .i64 n, E]]⟩
theorem rchk_loop (m : Int) (l : List Ed) (hl : l.length < 4294967297) : ∀ n i : Nat, i + n = l.length -> codeL cfgS 0 (.loop lQoX0) ⟨[(1, .ptr 0 0), (14, .list 2 (eds l)), (15, .int .i64 l.length), (16, .int .i64 i)], [some [.int .i64 m, .list 2 (eds l)]]⟩ =
  if chkGo m (prevE l i) (l.drop i) = 0 then some (.exit 0, ⟨[(1, .ptr 0 0), (14, .list 2 (eds l)), (15, .int .i64 l.length), (16, .int .i64 l.length), (17, .bool false)], [some [.int .i64 m, .list 2 (eds l)]]⟩) else some (.ret, ⟨[(2, .int .i64 (chkGo m (prevE l i) (l.drop i)))], []⟩)
 | 0, i, hi => by
   have e : i = l.length := by omega
   subst e
   rw [List.drop_length]
   exact loop_exit (by unfold lQoX0; simp [rQoX0, rQoX1, rQoX2, rQoX3, rQoX4, rQoX5, rQoX6, rQoX7, rQoX8, rQoX9, rQoX10, rQoX11, blk, eds_length, eds_get, edsAt, edAV, allLeaf_eds, cleanL_eds, cleanL_ints, ints_length, ints_get, intsAt, endL, finB])
 | n + 1, i, hi => by
   have hlt : i < l.length := by omega
   have h1 : (i : Int) < l.length := by omega
   have ih := rchk_loop m l hl n (i + 1) (by omega)
   have hw := wrapS (i := i) (by omega)
   rw [prevE_succ l i hlt] at ih
   rw [List.drop_eq_getElem_cons hlt]
   by_cases ha : l[i].1 < 0
   ·have e : chkGo m (prevE l i) (l[i] :: l.drop (i + 1)) = 6 := by unfold chkGo; rw [if_pos (.inl ha)]
    rw [e]
    exact loop_ret (by unfold lQoX0; simp [rQoX0, rQoX1, rQoX2, rQoX3, rQoX4, rQoX5, rQoX6, rQoX7, rQoX8, rQoX9, rQoX10, rQoX11, h1, hlt, ha, idx, blk, eds_length, eds_get, edsAt, edAV, allLeaf_eds, cleanL_eds, cleanL_ints, ints_length, ints_get, intsAt, endL, finB])
   by_cases hb : l[i].2 <= l[i].1
   ·have e : chkGo m (prevE l i) (l[i] :: l.drop (i + 1)) = 6 := by unfold chkGo; rw [if_pos (.inr (.inl hb))]
    rw [e]
    exact loop_ret (by unfold lQoX0; simp [rQoX0, rQoX1, rQoX2, rQoX3, rQoX4, rQoX5, rQoX6, rQoX7, rQoX8, rQoX9, rQoX10, rQoX11, h1, hlt, ha, hb, idx, blk, eds_length, eds_get, edsAt, edAV, allLeaf_eds, cleanL_eds, cleanL_ints, ints_length, ints_get, intsAt, endL, finB])
   by_cases hc : m <= l[i].2
   ·have e : chkGo m (prevE l i) (l[i] :: l.drop (i + 1)) = 6 := by unfold chkGo; rw [if_pos (.inr (.inr hc))]
    rw [e]
    exact loop_ret (by unfold lQoX0; simp [rQoX0, rQoX1, rQoX2, rQoX3, rQoX4, rQoX5, rQoX6, rQoX7, rQoX8, rQoX9, rQoX10, rQoX11, h1, hlt, ha, hb, hc, idx, blk, eds_length, eds_get, edsAt, edAV, allLeaf_eds, cleanL_eds, cleanL_ints, ints_length, ints_get, intsAt, endL, finB])
   have hn : ¬ (l[i].1 < 0 \/ l[i].2 <= l[i].1 \/ m <= l[i].2) := by omega
   cases i with
   | zero =>
     have e : chkGo m (prevE l 0) (l[0] :: l.drop (0 + 1)) = chkGo m (some l[0]) (l.drop (0 + 1)) := by
      conv => lhs; unfold chkGo
      rw [if_neg hn, prevE_zero, if_neg (show ¬ badP none l[0] from fun h => h)]
     rw [e]
     exact (loop_next (by unfold lQoX0; simp [rQoX0, rQoX1, rQoX2, rQoX3, rQoX4, rQoX5, rQoX6, rQoX7, rQoX8, rQoX9, rQoX10, rQoX11, h1, hlt, ha, hb, hc, hw, idx, blk, eds_length, eds_get, edsAt, edAV, allLeaf_eds, cleanL_eds, cleanL_ints, ints_length, ints_get, intsAt, endL, finB])).trans ih
   | succ j =>
     have hj : j < l.length := by omega
     have hj1 : (j : Int) < l.length := by omega
     have hp : (0 : Int) < (j : Int) + 1 := by omega
     have hp0 : (0 : Int) <= (j : Int) + 1 := by omega
     have hw2 := wrapN (i := j) (by omega)
     have h1 : (j : Int) + 1 < l.length := by omega
     have hw : IntKind.i64.wrap ((j : Int) + 1 + 1) = (j : Int) + 1 + 1 := wrapZ (j := j + 1 + 1) rfl (by omega)
     have ho := before_run l[j] l[j + 1]
     by_cases hd : ltE l[j] l[j + 1]
     ·have e : chkGo m (prevE l (j + 1)) (l[j + 1] :: l.drop (j + 1 + 1)) = chkGo m (some l[j + 1]) (l.drop (j + 1 + 1)) := by
       conv => lhs; unfold chkGo
       rw [if_neg hn, prevE_succ l j hj, if_neg (show ¬ badP (some l[j]) l[j + 1] from fun k => k hd)]
      rw [e]
      exact (loop_next (by unfold lQoX0; simp [rQoX0, rQoX1, rQoX2, rQoX3, rQoX4, rQoX5, rQoX6, rQoX7, rQoX8, rQoX9, rQoX10, rQoX11, h1, hlt, ha, hb, hc, hj, hj1, hp, hp0, hw, hw2, ho, hd, idx, sQD, iQD, blk, eds_length, eds_get, edsAt, edAV, allLeaf_eds, cleanL_eds, cleanL_ints, ints_length, ints_get, intsAt, endL, finB])).trans ih
     ·have e : chkGo m (prevE l (j + 1)) (l[j + 1] :: l.drop (j + 1 + 1)) = 5 := by
       unfold chkGo
       rw [if_neg hn, prevE_succ l j hj, if_pos (show badP (some l[j]) l[j + 1] from hd)]
      rw [e]
      exact loop_ret (by unfold lQoX0; simp [rQoX0, rQoX1, rQoX2, rQoX3, rQoX4, rQoX5, rQoX6, rQoX7, rQoX8, rQoX9, rQoX10, rQoX11, h1, hlt, ha, hb, hc, hj, hj1, hp, hp0, hw2, ho, hd, idx, sQD, iQD, blk, eds_length, eds_get, edsAt, edAV, allLeaf_eds, cleanL_eds, cleanL_ints, ints_length, ints_get, intsAt, endL, finB])
theorem rchk_run (m : Int) (l : List Ed) (hl : l.length < 4294967297) : callL cfgS nQo [.agg [.int .i64 m, .list 2 (eds l)]] [] = some (.int .i64 (chkG m l), []) := by
 rw [callL_end oQo sQo (Nat.le_of_ble_eq_true rfl)]
 have h := rchk_loop m l hl l.length 0 (by omega)
 rw [nat0, List.drop_zero, prevE_zero] at h
 unfold qQo cQo chkG
 by_cases ha : m < 0
 ·simp [rQoX0, rQoX1, rQoX2, rQoX3, rQoX4, rQoX5, rQoX6, rQoX7, rQoX8, rQoX9, rQoX10, rQoX11, ha, blk, eds_length, eds_get, edsAt, edAV, allLeaf_eds, cleanL_eds, cleanL_ints, ints_length, ints_get, intsAt, endL, finB]
 by_cases hb : 64 < m
 ·simp [rQoX0, rQoX1, rQoX2, rQoX3, rQoX4, rQoX5, rQoX6, rQoX7, rQoX8, rQoX9, rQoX10, rQoX11, ha, hb, blk, eds_length, eds_get, edsAt, edAV, allLeaf_eds, cleanL_eds, cleanL_ints, ints_length, ints_get, intsAt, endL, finB]
 rw [if_neg (by omega)]
 by_cases hc : chkGo m none l = 0
 ·rw [if_pos hc] at h
  rw [hc]
  simp [rQoX0, rQoX1, rQoX2, rQoX3, rQoX4, rQoX5, rQoX6, rQoX7, rQoX8, rQoX9, rQoX10, rQoX11, ha, hb, h, blk, eds_length, eds_get, edsAt, edAV, allLeaf_eds, cleanL_eds, cleanL_ints, ints_length, ints_get, intsAt, endL, finB]
 ·rw [if_neg hc] at h
  simp [rQoX0, rQoX1, rQoX2, rQoX3, rQoX4, rQoX5, rQoX6, rQoX7, rQoX8, rQoX9, rQoX10, rQoX11, ha, hb, h, blk, eds_length, eds_get, edsAt, edAV, allLeaf_eds, cleanL_eds, cleanL_ints, ints_length, ints_get, intsAt, endL, finB]
theorem find_loop (x : Ed) (u v : Int) (hx : nrmE u v = x) (l : List Ed) (hl : l.length < 4294967297) : ∀ n i : Nat, i + n = l.length -> codeL cfgS 0 (.loop lQhX0) ⟨[(1, .int .i64 u), (2, .int .i64 v), (13, .list 2 (eds l)), (14, .int .i64 l.length), (15, .int .i64 i)], []⟩ =
  if x ∈ l.drop i then some (.ret, ⟨[(6, .int .i64 (i + (l.drop i).idxOf x : Nat))], []⟩) else some (.exit 0, ⟨[(1, .int .i64 u), (2, .int .i64 v), (13, .list 2 (eds l)), (14, .int .i64 l.length), (15, .int .i64 l.length), (16, .bool false)], []⟩)
 | 0, i, hi => by
   have e : i = l.length := by omega
   subst e
   rw [List.drop_length, if_neg (by simp)]
   exact loop_exit (by unfold lQhX0; simp [rQhX0, rQhX1, rQhX2, rQhX3, rQhX4, rQhX5, rQhX6, rQhX7, rQhX8, rQhX9, blk, eds_length, eds_get, edsAt, edAV, allLeaf_eds, cleanL_eds, cleanL_ints, ints_length, ints_get, intsAt, endL, finB])
 | n + 1, i, hi => by
   have hlt : i < l.length := by omega
   have h1 : (i : Int) < l.length := by omega
   have ih := find_loop x u v hx l hl n (i + 1) (by omega)
   have hw := wrapS (i := i) (by omega)
   have hg := edge_run u v
   rw [hx] at hg
   rw [List.drop_eq_getElem_cons hlt]
   by_cases he : l[i] = x
   ·have hx1 : l[i].1 = x.1 := by rw [he]
    have hx2 : l[i].2 = x.2 := by rw [he]
    rw [if_pos (by rw [he]; exact List.mem_cons_self), show (l[i] :: l.drop (i + 1)).idxOf x = 0 by rw [he]; exact List.idxOf_cons_self]
    exact loop_ret (by unfold lQhX0; simp [rQhX0, rQhX1, rQhX2, rQhX3, rQhX4, rQhX5, rQhX6, rQhX7, rQhX8, rQhX9, h1, hlt, hg, hx1, hx2, idx, sQu, iQu, blk, eds_length, eds_get, edsAt, edAV, allLeaf_eds, cleanL_eds, cleanL_ints, ints_length, ints_get, intsAt, endL, finB])
   ·have he2 : ¬ x = l[i] := fun e => he e.symm
    rw [show (l[i] :: l.drop (i + 1)).idxOf x = (l.drop (i + 1)).idxOf x + 1 by simp only [List.idxOf_cons]; rw [show (l[i] == x) = false by simpa using he]; rfl, show i + ((l.drop (i + 1)).idxOf x + 1) = i + 1 + (l.drop (i + 1)).idxOf x by omega]
    simp only [List.mem_cons, he2, false_or]
    by_cases hx1 : l[i].1 = x.1
    ·have hx2 : ¬ l[i].2 = x.2 := fun e => he (Prod.ext hx1 e)
     exact (loop_next (by unfold lQhX0; simp [rQhX0, rQhX1, rQhX2, rQhX3, rQhX4, rQhX5, rQhX6, rQhX7, rQhX8, rQhX9, h1, hlt, hg, hx1, hx2, hw, idx, sQu, iQu, blk, eds_length, eds_get, edsAt, edAV, allLeaf_eds, cleanL_eds, cleanL_ints, ints_length, ints_get, intsAt, endL, finB])).trans ih
    ·exact (loop_next (by unfold lQhX0; simp [rQhX0, rQhX1, rQhX2, rQhX3, rQhX4, rQhX5, rQhX6, rQhX7, rQhX8, rQhX9, h1, hlt, hg, hx1, hw, idx, sQu, iQu, blk, eds_length, eds_get, edsAt, edAV, allLeaf_eds, cleanL_eds, cleanL_ints, ints_length, ints_get, intsAt, endL, finB])).trans ih
theorem find_run (m : Int) (l : List Ed) (hl : l.length < 4294967297) (hG : GOK m l) (u v : Int) : callL cfgS nQh [.agg [.int .i64 m, .list 2 (eds l)], .int .i64 u, .int .i64 v] [] = some (.int .i64 (if nrmE u v ∈ l then (l.idxOf (nrmE u v) : Int) else -1), []) := by
 rw [callL_end oQh sQh (Nat.le_of_ble_eq_true rfl)]
 have hc := rchk_run m l hl
 rw [chkG_zero.2 hG] at hc
 have h := find_loop (nrmE u v) u v rfl l hl l.length 0 (by omega)
 rw [nat0, List.drop_zero, Nat.zero_add] at h
 unfold qQh cQh
 by_cases hx : nrmE u v ∈ l
 ·rw [if_pos hx] at h
  simp [rQhX0, rQhX1, rQhX2, rQhX3, rQhX4, rQhX5, rQhX6, rQhX7, rQhX8, rQhX9, h, hc, hx, sQo, iQo, blk, eds_length, eds_get, edsAt, edAV, allLeaf_eds, cleanL_eds, cleanL_ints, ints_length, ints_get, intsAt, endL, finB]
 ·rw [if_neg hx] at h
  simp [rQhX0, rQhX1, rQhX2, rQhX3, rQhX4, rQhX5, rQhX6, rQhX7, rQhX8, rQhX9, h, hc, hx, sQo, iQo, blk, eds_length, eds_get, edsAt, edAV, allLeaf_eds, cleanL_eds, cleanL_ints, ints_length, ints_get, intsAt, endL, finB]
end Go.BmP
