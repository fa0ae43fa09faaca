/- What graph.Check and what it calls returns. -/
import Derived.Test.YtegmpkeejgflnaaUseM
import Derived.Test.YtegmpkeejgflnaaR02d
import Derived.Test.YtegmpkeejgflnaaGrfP
set_option linter.unusedSimpArgs false
set_option linter.unusedVariables false
set_option maxRecDepth 100000
set_option maxHeartbeats 4000000
namespace Go.BmP
open Go.Am Go.Bm
theorem or_run (a b : Int) : callL cfgS nQF [.list 1 [.int .i64 a, .int .i64 b]] [] = some (.int .i64 (if a = 0 then b else a), []) := by
 rw [callL_end oQF sQF (Nat.le_of_ble_eq_true rfl)]
 have t2 : IntKind.i64.wrap 2 = 2 := by decide
 have l3 : codeL cfgS 0 (.loop lQFX0) ⟨[(3, .int .i64 0), (6, .list 1 [.int .i64 a, .int .i64 b]), (7, .int .i64 2), (8, .int .i64 2)], []⟩ = some (.exit 0, ⟨[(3, .int .i64 0), (6, .list 1 [.int .i64 a, .int .i64 b]), (7, .int .i64 2), (8, .int .i64 2), (9, .bool false)], []⟩) :=
  loop_exit (by unfold lQFX0; simp [rQFX0, rQFX1, rQFX2, rQFX3, rQFX4, rQFX5, rQFX6, rQFX7, rQFX8, blk, eds_length, eds_get, edsAt, edAV, allLeaf_eds, cleanL_eds, cleanL_ints, ints_length, ints_get, intsAt, endL, finB])
 have l2 : codeL cfgS 0 (.loop lQFX0) ⟨[(3, .int .i64 0), (6, .list 1 [.int .i64 a, .int .i64 b]), (7, .int .i64 2), (8, .int .i64 1)], []⟩ = if b = 0 then some (.exit 0, ⟨[(3, .int .i64 0), (6, .list 1 [.int .i64 a, .int .i64 b]), (7, .int .i64 2), (8, .int .i64 2), (9, .bool false)], []⟩) else some (.ret, ⟨[(2, .int .i64 b)], []⟩) := by
  by_cases hb : b = 0
  ·subst hb
   rw [if_pos rfl]
   exact (loop_next (by unfold lQFX0; simp [rQFX0, rQFX1, rQFX2, rQFX3, rQFX4, rQFX5, rQFX6, rQFX7, rQFX8, idx, t2, blk, eds_length, eds_get, edsAt, edAV, allLeaf_eds, cleanL_eds, cleanL_ints, ints_length, ints_get, intsAt, endL, finB])).trans l3
  ·rw [if_neg hb]
   exact loop_ret (by unfold lQFX0; simp [rQFX0, rQFX1, rQFX2, rQFX3, rQFX4, rQFX5, rQFX6, rQFX7, rQFX8, hb, idx, blk, eds_length, eds_get, edsAt, edAV, allLeaf_eds, cleanL_eds, cleanL_ints, ints_length, ints_get, intsAt, endL, finB])
 have l1 : codeL cfgS 0 (.loop lQFX0) ⟨[(3, .int .i64 0), (6, .list 1 [.int .i64 a, .int .i64 b]), (7, .int .i64 2), (8, .int .i64 0)], []⟩ = if a = 0 then (if b = 0 then some (.exit 0, ⟨[(3, .int .i64 0), (6, .list 1 [.int .i64 a, .int .i64 b]), (7, .int .i64 2), (8, .int .i64 2), (9, .bool false)], []⟩) else some (.ret, ⟨[(2, .int .i64 b)], []⟩)) else some (.ret, ⟨[(2, .int .i64 a)], []⟩) := by
  by_cases ha : a = 0
  ·subst ha
   rw [if_pos rfl]
   exact (loop_next (by unfold lQFX0; simp [rQFX0, rQFX1, rQFX2, rQFX3, rQFX4, rQFX5, rQFX6, rQFX7, rQFX8, idx, blk, eds_length, eds_get, edsAt, edAV, allLeaf_eds, cleanL_eds, cleanL_ints, ints_length, ints_get, intsAt, endL, finB])).trans l2
  ·rw [if_neg ha]
   exact loop_ret (by unfold lQFX0; simp [rQFX0, rQFX1, rQFX2, rQFX3, rQFX4, rQFX5, rQFX6, rQFX7, rQFX8, ha, idx, blk, eds_length, eds_get, edsAt, edAV, allLeaf_eds, cleanL_eds, cleanL_ints, ints_length, ints_get, intsAt, endL, finB])
 clear l2 l3
 unfold qQF cQF
 by_cases ha : a = 0
 ·subst ha
  rw [if_pos rfl] at l1
  by_cases hb : b = 0
  ·subst hb
   rw [if_pos rfl] at l1
   simp [rQFX0, rQFX1, rQFX2, rQFX3, rQFX4, rQFX5, rQFX6, rQFX7, rQFX8, l1, blk, eds_length, eds_get, edsAt, edAV, allLeaf_eds, cleanL_eds, cleanL_ints, ints_length, ints_get, intsAt, endL, finB]
  ·rw [if_neg hb] at l1
   simp [rQFX0, rQFX1, rQFX2, rQFX3, rQFX4, rQFX5, rQFX6, rQFX7, rQFX8, l1, hb, blk, eds_length, eds_get, edsAt, edAV, allLeaf_eds, cleanL_eds, cleanL_ints, ints_length, ints_get, intsAt, endL, finB]
 ·rw [if_neg ha] at l1
  simp [rQFX0, rQFX1, rQFX2, rQFX3, rQFX4, rQFX5, rQFX6, rQFX7, rQFX8, l1, ha, blk, eds_length, eds_get, edsAt, edAV, allLeaf_eds, cleanL_eds, cleanL_ints, ints_length, ints_get, intsAt, endL, finB]
def ordI (a b : Ed) : Int := if cmpI a.1 b.1 = 0 then cmpI a.2 b.2 else cmpI a.1 b.1
theorem ordI_ge (a b : Ed) : 0 <= ordI a b ↔ ¬ ltE a b := by
 unfold ordI cmpI ltE
 by_cases h1 : a.1 < b.1
 ·simp [h1]
 ·by_cases h2 : b.1 < a.1
  ·have : ¬ a.1 = b.1 := by omega
   simp [h1, h2, this]
  ·have : a.1 = b.1 := by omega
   simp only [h1, h2, this, if_false, if_true, true_and, false_or]
   by_cases h3 : a.2 < b.2
   ·simp [h3]
   ·by_cases h4 : b.2 < a.2 <;> simp [h3, h4]
theorem order_run (a b : Ed) : callL cfgS nQB [.agg [.int .i64 a.1, .int .i64 a.2], .agg [.int .i64 b.1, .int .i64 b.2]] [] = some (.int .i64 (ordI a b), []) := by
 rw [callL_end oQB sQB (Nat.le_of_ble_eq_true rfl)]
 have c1 := cmpI_run a.1 b.1
 have c2 := cmpI_run a.2 b.2
 have c3 := or_run (cmpI a.1 b.1) (cmpI a.2 b.2)
 unfold qQB cQB ordI
 simp [rQBX0, rQBX1, c1, c2, c3, sQG, iQG, lQG, sQF, iQF, lQF, blk, eds_length, eds_get, edsAt, edAV, allLeaf_eds, cleanL_eds, cleanL_ints, ints_length, ints_get, intsAt, endL, finB]
def prevE (l : List Ed) (i : Nat) : Option Ed := if i = 0 then none else l[i - 1]?
theorem prevE_zero (l : List Ed) : prevE l 0 = none := rfl
theorem prevE_succ (l : List Ed) (i : Nat) (h : i < l.length) : prevE l (i + 1) = some l[i] := by simp [prevE, h]
theorem gchk_loop (m : Int) (l : List Ed) (hl : l.length < 4294967297) : ∀ n i : Nat, i + n = l.length -> codeL cfgS 0 (.loop lQpX0) ⟨[(1, .ptr 0 0), (14, .list 2 (eds l)), (15, .int .i64 l.length), (16, .int .i64 i)], [some [.int .i64 m, .list 2 (eds l)]]⟩ =
  if chkGo m (prevE l i) (l.drop i) = 0 then some (.exit 0, ⟨[(1, .ptr 0 0), (14, .list 2 (eds l)), (15, .int .i64 l.length), (16, .int .i64 l.length), (17, .bool false)], [some [.int .i64 m, .list 2 (eds l)]]⟩) else some (.ret, ⟨[(2, .int .i64 (chkGo m (prevE l i) (l.drop i)))], []⟩)
 | 0, i, hi => by
   have e : i = l.length := by omega
   subst e
   rw [List.drop_length]
   exact loop_exit (by unfold lQpX0; simp [rQpX0, rQpX1, rQpX2, rQpX3, rQpX4, rQpX5, rQpX6, rQpX7, rQpX8, rQpX9, rQpX10, rQpX11, blk, eds_length, eds_get, edsAt, edAV, allLeaf_eds, cleanL_eds, cleanL_ints, ints_length, ints_get, intsAt, endL, finB])
 | n + 1, i, hi => by
   have hlt : i < l.length := by omega
   have h1 : (i : Int) < l.length := by omega
   have ih := gchk_loop m l hl n (i + 1) (by omega)
   have hw := wrapS (i := i) (by omega)
   rw [prevE_succ l i hlt] at ih
   rw [List.drop_eq_getElem_cons hlt]
   by_cases ha : l[i].1 < 0
   ·have e : chkGo m (prevE l i) (l[i] :: l.drop (i + 1)) = 6 := by unfold chkGo; rw [if_pos (.inl ha)]
    rw [e]
    exact loop_ret (by unfold lQpX0; simp [rQpX0, rQpX1, rQpX2, rQpX3, rQpX4, rQpX5, rQpX6, rQpX7, rQpX8, rQpX9, rQpX10, rQpX11, h1, hlt, ha, idx, blk, eds_length, eds_get, edsAt, edAV, allLeaf_eds, cleanL_eds, cleanL_ints, ints_length, ints_get, intsAt, endL, finB])
   by_cases hb : l[i].2 <= l[i].1
   ·have e : chkGo m (prevE l i) (l[i] :: l.drop (i + 1)) = 6 := by unfold chkGo; rw [if_pos (.inr (.inl hb))]
    rw [e]
    exact loop_ret (by unfold lQpX0; simp [rQpX0, rQpX1, rQpX2, rQpX3, rQpX4, rQpX5, rQpX6, rQpX7, rQpX8, rQpX9, rQpX10, rQpX11, h1, hlt, ha, hb, idx, blk, eds_length, eds_get, edsAt, edAV, allLeaf_eds, cleanL_eds, cleanL_ints, ints_length, ints_get, intsAt, endL, finB])
   by_cases hc : m <= l[i].2
   ·have e : chkGo m (prevE l i) (l[i] :: l.drop (i + 1)) = 6 := by unfold chkGo; rw [if_pos (.inr (.inr hc))]
    rw [e]
    exact loop_ret (by unfold lQpX0; simp [rQpX0, rQpX1, rQpX2, rQpX3, rQpX4, rQpX5, rQpX6, rQpX7, rQpX8, rQpX9, rQpX10, rQpX11, h1, hlt, ha, hb, hc, idx, blk, eds_length, eds_get, edsAt, edAV, allLeaf_eds, cleanL_eds, cleanL_ints, ints_length, ints_get, intsAt, endL, finB])
   have hn : ¬ (l[i].1 < 0 \/ l[i].2 <= l[i].1 \/ m <= l[i].2) := by omega
   cases i with
   | zero =>
     have e : chkGo m (prevE l 0) (l[0] :: l.drop (0 + 1)) = chkGo m (some l[0]) (l.drop (0 + 1)) := by
      conv => lhs; unfold chkGo
      rw [if_neg hn, prevE_zero, if_neg (show ¬ badP none l[0] from fun h => h)]
     rw [e]
     exact (loop_next (by unfold lQpX0; simp [rQpX0, rQpX1, rQpX2, rQpX3, rQpX4, rQpX5, rQpX6, rQpX7, rQpX8, rQpX9, rQpX10, rQpX11, h1, hlt, ha, hb, hc, hw, idx, blk, eds_length, eds_get, edsAt, edAV, allLeaf_eds, cleanL_eds, cleanL_ints, ints_length, ints_get, intsAt, endL, finB])).trans ih
   | succ j =>
     have hj : j < l.length := by omega
     have hj1 : (j : Int) < l.length := by omega
     have hp : (0 : Int) < (j : Int) + 1 := by omega
     have hp0 : (0 : Int) <= (j : Int) + 1 := by omega
     have hw2 := wrapN (i := j) (by omega)
     have h1 : (j : Int) + 1 < l.length := by omega
     have hw : IntKind.i64.wrap ((j : Int) + 1 + 1) = (j : Int) + 1 + 1 := wrapZ (j := j + 1 + 1) rfl (by omega)
     have ho := order_run l[j] l[j + 1]
     by_cases hd : 0 <= ordI l[j] l[j + 1]
     ·have e : chkGo m (prevE l (j + 1)) (l[j + 1] :: l.drop (j + 1 + 1)) = 5 := by
       unfold chkGo
       rw [if_neg hn, prevE_succ l j hj, if_pos (show badP (some l[j]) l[j + 1] from (ordI_ge _ _).1 hd)]
      rw [e]
      exact loop_ret (by unfold lQpX0; simp [rQpX0, rQpX1, rQpX2, rQpX3, rQpX4, rQpX5, rQpX6, rQpX7, rQpX8, rQpX9, rQpX10, rQpX11, h1, hlt, ha, hb, hc, hj, hj1, hp, hp0, hw2, ho, hd, idx, sQB, iQB, lQB, blk, eds_length, eds_get, edsAt, edAV, allLeaf_eds, cleanL_eds, cleanL_ints, ints_length, ints_get, intsAt, endL, finB])
     ·have hlt' : ltE l[j] l[j + 1] := by
       apply Decidable.not_not.1
       exact fun k => hd ((ordI_ge _ _).2 k)
      have e : chkGo m (prevE l (j + 1)) (l[j + 1] :: l.drop (j + 1 + 1)) = chkGo m (some l[j + 1]) (l.drop (j + 1 + 1)) := by
       conv => lhs; unfold chkGo
       rw [if_neg hn, prevE_succ l j hj, if_neg (show ¬ badP (some l[j]) l[j + 1] from fun k => k hlt')]
      rw [e]
      exact (loop_next (by unfold lQpX0; simp [rQpX0, rQpX1, rQpX2, rQpX3, rQpX4, rQpX5, rQpX6, rQpX7, rQpX8, rQpX9, rQpX10, rQpX11, h1, hlt, ha, hb, hc, hj, hj1, hp, hp0, hw, hw2, ho, hd, idx, sQB, iQB, lQB, blk, eds_length, eds_get, edsAt, edAV, allLeaf_eds, cleanL_eds, cleanL_ints, ints_length, ints_get, intsAt, endL, finB])).trans ih
theorem gchk_run (m : Int) (l : List Ed) (hl : l.length < 4294967297) : callL cfgS nQp [.agg [.int .i64 m, .list 2 (eds l)]] [] = some (.int .i64 (chkG m l), []) := by
 rw [callL_end oQp sQp (Nat.le_of_ble_eq_true rfl)]
 have h := gchk_loop m l hl l.length 0 (by omega)
 rw [nat0, List.drop_zero, prevE_zero] at h
 unfold qQp cQp chkG
 by_cases ha : m < 0
 ·simp [rQpX0, rQpX1, rQpX2, rQpX3, rQpX4, rQpX5, rQpX6, rQpX7, rQpX8, rQpX9, rQpX10, rQpX11, ha, blk, eds_length, eds_get, edsAt, edAV, allLeaf_eds, cleanL_eds, cleanL_ints, ints_length, ints_get, intsAt, endL, finB]
 by_cases hb : 64 < m
 ·simp [rQpX0, rQpX1, rQpX2, rQpX3, rQpX4, rQpX5, rQpX6, rQpX7, rQpX8, rQpX9, rQpX10, rQpX11, ha, hb, blk, eds_length, eds_get, edsAt, edAV, allLeaf_eds, cleanL_eds, cleanL_ints, ints_length, ints_get, intsAt, endL, finB]
 rw [if_neg (by omega)]
 by_cases hc : chkGo m none l = 0
 ·rw [if_pos hc] at h
  rw [hc]
  simp [rQpX0, rQpX1, rQpX2, rQpX3, rQpX4, rQpX5, rQpX6, rQpX7, rQpX8, rQpX9, rQpX10, rQpX11, ha, hb, h, blk, eds_length, eds_get, edsAt, edAV, allLeaf_eds, cleanL_eds, cleanL_ints, ints_length, ints_get, intsAt, endL, finB]
 ·rw [if_neg hc] at h
  simp [rQpX0, rQpX1, rQpX2, rQpX3, rQpX4, rQpX5, rQpX6, rQpX7, rQpX8, rQpX9, rQpX10, rQpX11, ha, hb, h, blk, eds_length, eds_get, edsAt, edAV, allLeaf_eds, cleanL_eds, cleanL_ints, ints_length, ints_get, intsAt, endL, finB]
end Go.BmP
