/- What functions of cohesionref02 return: Has, Valid, put, Of. -/
import Derived.Test.YtjfdniggjdnkiaaUseM
import Derived.Test.YtjfdniggjdnkiaaCfS
import Derived.Test.YtjfdniggjdnkiaaGrfP
import Derived.Test.YtjfdniggjdnkiaaBitP
set_option linter.unusedSimpArgs false
set_option linter.unusedVariables false
set_option maxRecDepth 100000
namespace Go.BmP
open Go.Am Go.Bm
theorem put_loop (x : Int) (l : List Int) (hl : l.length < 4294967296) : ∀ n i : Nat, i + n = l.length -> codeL cfgS 0 (.loop lQSX0) ⟨[(0, .list 1 (ints l)), (1, .int .i64 x), (5, .int .i64 i)], []⟩ =
  some (.exit 0, ⟨[(0, .list 1 (ints l)), (1, .int .i64 x), (5, .int .i64 (i + pos x (l.drop i) : Nat)), (18, .bool false)], []⟩)
 | 0, i, hi => by
   have e : i = l.length := by omega
   subst e
   rw [List.drop_length]
   exact loop_exit (by unfold lQSX0; simp [rQSX0, rQSX1, rQSX2, rQSX3, rQSX4, rQSX5, rQSX6, rQSX7, pos, ints_length, idx])
 | n + 1, i, hi => by
   have hlt : i < l.length := by omega
   have h1 : (i : Int) < l.length := by omega
   have ih := put_loop x l hl n (i + 1) (by omega)
   have hw := wrapS (i := i) (by omega)
   rw [List.drop_eq_getElem_cons hlt]
   unfold pos
   by_cases hx : l[i] < x
   ·have e : i + (pos x (l.drop (i + 1)) + 1) = i + 1 + pos x (l.drop (i + 1)) := by omega
    rw [if_pos hx, e]
    exact (loop_next (by unfold lQSX0; simp [rQSX0, rQSX1, rQSX2, rQSX3, rQSX4, rQSX5, rQSX6, rQSX7, h1, hlt, hx, hw, ints_length, ints_get, intsAt, idx])).trans ih
   ·rw [if_neg hx]
    exact loop_exit (by unfold lQSX0; simp [rQSX0, rQSX1, rQSX2, rQSX3, rQSX4, rQSX5, rQSX6, rQSX7, h1, hlt, hx, ints_length, ints_get, intsAt, idx])
/- What functions of cohesionref02 return: put, Of, Range, Union, Meet, Minus, Within, Cmp, Same. -/
theorem put_run (x : Int) (l : List Int) (hl : l.length < 4294967295) : callL cfgS nQS [.list 1 (ints l), .int .i64 x] [] = some (.list 1 (ints (putI x l)), []) := by
 rw [callL_end oQS sQS (Nat.le_of_ble_eq_true rfl), putI_pos]
 have h := put_loop x l (by omega) l.length 0 (by omega)
 rw [nat0, List.drop_zero, Nat.zero_add] at h
 have hp := pos_le x l
 generalize pos x l = p at h hp ⊢
 have hq : (p : Int) <= l.length := by omega
 have hm : min p l.length = p := by omega
 have hL1 : p <= 4294967296 := by omega
 have hL2 : p + 1 <= 4294967296 := by omega
 have hL3 : p + 1 + (l.length - p) <= 4294967296 := by omega
 unfold qQS cQS
 by_cases hlt : p < l.length
 ·have h1 : (p : Int) < l.length := by omega
  by_cases hx : l[p] = x
  ·rw [if_pos (by rw [List.getElem?_eq_getElem hlt, hx])]
   simp [rQSX0, rQSX1, rQSX2, rQSX3, rQSX4, rQSX5, rQSX6, rQSX7, h, h1, hlt, hx, ints_length, ints_get, intsAt, idx, endL, finB]
  ·rw [if_neg (by rw [List.getElem?_eq_getElem hlt]; simpa using hx)]
   simp [rQSX0, rQSX1, rQSX2, rQSX3, rQSX4, rQSX5, rQSX6, rQSX7, h, h1, hlt, hx, hp, hq, hm, hL1, hL2, hL3, ints_length, ints_get, intsAt, idx, endL, finB, ints_take, ints_drop, ints_snoc, ints_app, LIM, List.length_take, List.length_drop]
   simp (disch := (simp only [List.length_take, List.length_append, List.length_drop, List.length_singleton, List.length_cons, List.length_nil] <;> omega)) only [List.take_of_length_le, List.take_take, Nat.min_self, List.append_assoc, List.singleton_append]
 ·have h1 : ¬ (p : Int) < l.length := by omega
  rw [if_neg (by rw [List.getElem?_eq_none (by omega)]; simp)]
  simp [rQSX0, rQSX1, rQSX2, rQSX3, rQSX4, rQSX5, rQSX6, rQSX7, h, h1, hlt, hp, hq, hm, hL1, hL2, hL3, ints_length, ints_get, intsAt, idx, endL, finB, ints_take, ints_drop, ints_snoc, ints_app, LIM, List.length_take, List.length_drop]
  simp (disch := (simp only [List.length_take, List.length_append, List.length_drop, List.length_singleton, List.length_cons, List.length_nil] <;> omega)) only [List.take_of_length_le, List.take_take, Nat.min_self, List.append_assoc, List.singleton_append]
theorem of_loop (l : List Int) (hl : l.length < 4294967295) : ∀ (n i : Nat) (o : List Int), i + n = l.length -> o.length <= i -> codeL cfgS 0 (.loop lQQX0) ⟨[(3, .list 1 (ints o)), (6, .list 1 (ints l)), (7, .int .i64 l.length), (8, .int .i64 i)], []⟩ =
  some (.exit 0, ⟨[(3, .list 1 (ints ((l.drop i).foldl (fun o x => putI x o) o))), (6, .list 1 (ints l)), (7, .int .i64 l.length), (8, .int .i64 l.length), (9, .bool false)], []⟩)
 | 0, i, o, hi, ho => by
   have e : i = l.length := by omega
   subst e
   rw [List.drop_length]
   exact loop_exit (by unfold lQQX0; simp [rQQX0, rQQX1, rQQX2, rQQX3, rQQX4, rQQX5, rQQX6, rQQX7])
 | n + 1, i, o, hi, ho => by
   have hlt : i < l.length := by omega
   have h1 : (i : Int) < l.length := by omega
   have hw := wrapS (i := i) (by omega)
   have hp := put_run l[i] o (by omega)
   have hpl := putI_len l[i] o
   have ih := of_loop l hl n (i + 1) (putI l[i] o) (by omega) (by omega)
   rw [List.drop_eq_getElem_cons hlt, List.foldl_cons]
   exact (loop_next (by unfold lQQX0; simp [rQQX0, rQQX1, rQQX2, rQQX3, rQQX4, rQQX5, rQQX6, rQQX7, h1, hlt, hw, hp, sQS, iQS, ints_length, ints_get, intsAt, idx])).trans ih
theorem of_loop0 (l : List Int) (hl : l.length < 4294967295) : codeL cfgS 0 (.loop lQQX0) ⟨[(3, .own 1 []), (6, .list 1 (ints l)), (7, .int .i64 l.length), (8, .int .i64 0)], []⟩ =
  some (.exit 0, ⟨[(3, if l = [] then .own 1 [] else .list 1 (ints (setOf l))), (6, .list 1 (ints l)), (7, .int .i64 l.length), (8, .int .i64 l.length), (9, .bool false)], []⟩) := by
 cases l with
 | nil => exact loop_exit (by unfold lQQX0; simp [rQQX0, rQQX1, rQQX2, rQQX3, rQQX4, rQQX5, rQQX6, rQQX7, ints_nil])
 | cons a r =>
   have hp := put_run a [] (by simp)
   have ih := of_loop (a :: r) hl r.length 1 (putI a []) (by simp; omega) (by simp [putI])
   rw [<- ofL_eq, if_neg (by simp)]
   rw [ints_nil] at hp
   refine (loop_next (s' := ⟨[(3, .list 1 (ints (putI a []))), (6, .list 1 (ints (a :: r))), (7, .int .i64 (a :: r).length), (8, .int .i64 ((1 : Nat) : Int))], []⟩) ?_).trans (ih.trans ?_)
   ·have h1 : (0 : Int) < (r.length : Int) + 1 := by omega
    unfold lQQX0
    simp [rQQX0, rQQX1, rQQX2, rQQX3, rQQX4, rQQX5, rQQX6, rQQX7, h1, hp, sQS, iQS, ints_length, ints_cons, idx]
   ·rfl
theorem of_run (l : List Int) (hl : l.length < 4294967295) : callL cfgS nQQ [.list 1 (ints l)] [] = some (.list 1 (ints (setOf l)), []) := by
 rw [callL_end oQQ sQQ (Nat.le_of_ble_eq_true rfl)]
 have h := of_loop0 l hl
 unfold qQQ cQQ
 by_cases hx : l = []
 ·subst hx
  rw [if_pos rfl] at h
  simp only [ints_nil, List.length_nil, nat0] at h
  simp [rQQX0, rQQX1, rQQX2, rQQX3, rQQX4, rQQX5, rQQX6, rQQX7, h, ints_nil, endL, finB]
  rfl
 ·rw [if_neg hx] at h
  simp [rQQX0, rQQX1, rQQX2, rQQX3, rQQX4, rQQX5, rQQX6, rQQX7, h, ints_length, endL, finB]
def rangeI (n : Int) : List Int := (List.range (min n.toNat 64)).map fun i => ((i : Nat) : Int)
/- What comparisons return; nodeset.Valid, Has, Cmp, Range. -/
def cmpGo : List Int -> List Int -> Option Int
 | [], _ => none
 | _ :: _, [] => some 1
 | x :: r, y :: s => if y < x then some 1 else if x < y then some (-1) else cmpGo r s
theorem nan_run (x : Int) : callL cfgS nQR [.int .i64 x] [] = some (.bool false, []) := by
 rw [callL_end oQR sQR (Nat.le_of_ble_eq_true rfl)]
 unfold qQR cQR
 simp [rQRX0, rQRX1, endL, finB]
def cmpI (x y : Int) : Int := if x < y then -1 else if y < x then 1 else 0
theorem cmpI_run (x y : Int) : callL cfgS nQP [.int .i64 x, .int .i64 y] [] = some (.int .i64 (cmpI x y), []) := by
 rw [callL_end oQP sQP (Nat.le_of_ble_eq_true rfl)]
 have hx := nan_run x
 have hy := nan_run y
 unfold qQP cQP cmpI
 by_cases h1 : x < y
 ·simp [rQPX0, rQPX1, rQPX2, rQPX3, rQPX4, rQPX5, rQPX6, rQPX7, rQPX8, rQPX9, rQPX10, rQPX11, rQPX12, rQPX13, hx, hy, h1, sQR, iQR, endL, finB]
 ·by_cases h2 : y < x
  ·simp [rQPX0, rQPX1, rQPX2, rQPX3, rQPX4, rQPX5, rQPX6, rQPX7, rQPX8, rQPX9, rQPX10, rQPX11, rQPX12, rQPX13, hx, hy, h1, h2, sQR, iQR, endL, finB]
  ·simp [rQPX0, rQPX1, rQPX2, rQPX3, rQPX4, rQPX5, rQPX6, rQPX7, rQPX8, rQPX9, rQPX10, rQPX11, rQPX12, rQPX13, hx, hy, h1, h2, sQR, iQR, endL, finB]
/- What functions of cohesionref03 return: Before, edge, ends, with, Of, Check. -/
set_option maxHeartbeats 4000000
theorem before_run (a b : Ed) : callL cfgS nQC [.agg [.int .i64 a.1, .int .i64 a.2], .agg [.int .i64 b.1, .int .i64 b.2]] [] = some (.bool (decide (ltE a b)), []) := by
 rw [callL_end oQC sQC (Nat.le_of_ble_eq_true rfl)]
 unfold qQC cQC ltE
 by_cases h1 : a.1 < b.1
 ·simp [rQCX0, rQCX1, h1, blk, eds_length, eds_get, edsAt, edAV, allLeaf_eds, cleanL_eds, cleanL_ints, ints_length, ints_get, intsAt, endL, finB]
 ·by_cases h2 : a.1 = b.1
  ·by_cases h3 : a.2 < b.2
   ·simp [rQCX0, rQCX1, h1, h2, h3, blk, eds_length, eds_get, edsAt, edAV, allLeaf_eds, cleanL_eds, cleanL_ints, ints_length, ints_get, intsAt, endL, finB]
   ·simp [rQCX0, rQCX1, h1, h2, h3, blk, eds_length, eds_get, edsAt, edAV, allLeaf_eds, cleanL_eds, cleanL_ints, ints_length, ints_get, intsAt, endL, finB]
  ·simp [rQCX0, rQCX1, h1, h2, blk, eds_length, eds_get, edsAt, edAV, allLeaf_eds, cleanL_eds, cleanL_ints, ints_length, ints_get, intsAt, endL, finB]
theorem edge_run (u v : Int) : callL cfgS nQN [.int .i64 u, .int .i64 v] [] = some (.agg [.int .i64 (nrmE u v).1, .int .i64 (nrmE u v).2], []) := by
 rw [callL_end oQN sQN (Nat.le_of_ble_eq_true rfl)]
 unfold qQN cQN nrmE
 simp [rQNX0, rQNX1, blk, eds_length, eds_get, edsAt, edAV, allLeaf_eds, cleanL_eds, cleanL_ints, ints_length, ints_get, intsAt, endL, finB]
theorem ends_run (n u v : Int) : callL cfgS nQK [.int .i64 n, .int .i64 u, .int .i64 v] [] = some (.bool (decide (0 <= u /\ 0 <= v /\ u < n /\ v < n /\ u ≠ v)), []) := by
 rw [callL_end oQK sQK (Nat.le_of_ble_eq_true rfl)]
 unfold qQK cQK
 by_cases h1 : 0 <= u
 ·by_cases h2 : 0 <= v
  ·by_cases h3 : u < n
   ·by_cases h4 : v < n
    ·by_cases h5 : u = v
     ·subst h5
      simp [rQKX0, rQKX1, h1, h3, blk, eds_length, eds_get, edsAt, edAV, allLeaf_eds, cleanL_eds, cleanL_ints, ints_length, ints_get, intsAt, endL, finB]
     ·simp [rQKX0, rQKX1, h1, h2, h3, h4, h5, blk, eds_length, eds_get, edsAt, edAV, allLeaf_eds, cleanL_eds, cleanL_ints, ints_length, ints_get, intsAt, endL, finB]
    ·simp [rQKX0, rQKX1, h1, h2, h3, h4, blk, eds_length, eds_get, edsAt, edAV, allLeaf_eds, cleanL_eds, cleanL_ints, ints_length, ints_get, intsAt, endL, finB]
   ·simp [rQKX0, rQKX1, h1, h2, h3, blk, eds_length, eds_get, edsAt, edAV, allLeaf_eds, cleanL_eds, cleanL_ints, ints_length, ints_get, intsAt, endL, finB]
  ·simp [rQKX0, rQKX1, h1, h2, blk, eds_length, eds_get, edsAt, edAV, allLeaf_eds, cleanL_eds, cleanL_ints, ints_length, ints_get, intsAt, endL, finB]
 ·simp [rQKX0, rQKX1, h1, blk, eds_length, eds_get, edsAt, edAV, allLeaf_eds, cleanL_eds, cleanL_ints, ints_length, ints_get, intsAt, endL, finB]
theorem with_loop (x : Ed) (l : List Ed) (hl : l.length < 4294967296) : ∀ n i : Nat, i + n = l.length -> codeL cfgS 0 (.loop lQMX0) ⟨[(0, .list 2 (eds l)), (3, .ptr 0 0), (5, .int .i64 i)], [some [.int .i64 x.1, .int .i64 x.2]]⟩ =
  some (.exit 0, ⟨[(0, .list 2 (eds l)), (3, .ptr 0 0), (5, .int .i64 (i + posE x (l.drop i) : Nat)), (18, .bool false)], [some [.int .i64 x.1, .int .i64 x.2]]⟩)
 | 0, i, hi => by
   have e : i = l.length := by omega
   subst e
   rw [List.drop_length]
   exact loop_exit (by unfold lQMX0; simp [rQMX0, rQMX1, rQMX2, rQMX3, rQMX4, rQMX5, rQMX6, rQMX7, posE, idx, blk, eds_length, eds_get, edsAt, edAV, allLeaf_eds, cleanL_eds, cleanL_ints, ints_length, ints_get, intsAt, endL, finB])
 | n + 1, i, hi => by
   have hlt : i < l.length := by omega
   have h1 : (i : Int) < l.length := by omega
   have ih := with_loop x l hl n (i + 1) (by omega)
   have hw := wrapS (i := i) (by omega)
   have hb := before_run l[i] x
   rw [List.drop_eq_getElem_cons hlt]
   unfold posE
   by_cases hx : ltE l[i] x
   ·have e : i + (posE x (l.drop (i + 1)) + 1) = i + 1 + posE x (l.drop (i + 1)) := by omega
    rw [if_pos hx, e]
    exact (loop_next (by unfold lQMX0; simp [rQMX0, rQMX1, rQMX2, rQMX3, rQMX4, rQMX5, rQMX6, rQMX7, h1, hlt, hb, hx, hw, idx, sQC, iQC, blk, eds_length, eds_get, edsAt, edAV, allLeaf_eds, cleanL_eds, cleanL_ints, ints_length, ints_get, intsAt, endL, finB])).trans ih
   ·rw [if_neg hx]
    exact loop_exit (by unfold lQMX0; simp [rQMX0, rQMX1, rQMX2, rQMX3, rQMX4, rQMX5, rQMX6, rQMX7, h1, hlt, hb, hx, idx, sQC, iQC, blk, eds_length, eds_get, edsAt, edAV, allLeaf_eds, cleanL_eds, cleanL_ints, ints_length, ints_get, intsAt, endL, finB])
theorem with_run (x : Ed) (l : List Ed) (hl : l.length < 4294967295) : callL cfgS nQM [.list 2 (eds l), .agg [.int .i64 x.1, .int .i64 x.2]] [] = some (.list 2 (eds (putE x l)), []) := by
 rw [callL_end oQM sQM (Nat.le_of_ble_eq_true rfl), putE_pos]
 have h := with_loop x l (by omega) l.length 0 (by omega)
 rw [nat0, List.drop_zero, Nat.zero_add] at h
 have hp := posE_le x l
 generalize posE x l = p at h hp ⊢
 have hq : (p : Int) <= l.length := by omega
 have hm : min p l.length = p := by omega
 have hL1 : p <= 4294967296 := by omega
 have hL2 : p + 1 <= 4294967296 := by omega
 have hL3 : p + 1 + (l.length - p) <= 4294967296 := by omega
 unfold qQM cQM
 by_cases hlt : p < l.length
 ·have h1 : (p : Int) < l.length := by omega
  by_cases hx : l[p] = x
  ·have hx1 : l[p].1 = x.1 := by rw [hx]
   have hx2 : l[p].2 = x.2 := by rw [hx]
   rw [if_pos (by rw [List.getElem?_eq_getElem hlt, hx])]
   simp [rQMX0, rQMX1, rQMX2, rQMX3, rQMX4, rQMX5, rQMX6, rQMX7, h, h1, hlt, hx1, hx2, idx, blk, eds_length, eds_get, edsAt, edAV, allLeaf_eds, cleanL_eds, cleanL_ints, ints_length, ints_get, intsAt, endL, finB]
  ·rw [if_neg (by rw [List.getElem?_eq_getElem hlt]; simpa using hx)]
   by_cases hx1 : l[p].1 = x.1
   ·have hx2 : ¬ l[p].2 = x.2 := fun e => hx (Prod.ext hx1 e)
    simp [rQMX0, rQMX1, rQMX2, rQMX3, rQMX4, rQMX5, rQMX6, rQMX7, h, h1, hlt, hx1, hx2, hp, hq, hm, hL1, hL2, hL3, idx, eds_take, eds_drop, eds_snoc, eds_app, LIM, List.length_take, List.length_drop, blk, eds_length, eds_get, edsAt, edAV, allLeaf_eds, cleanL_eds, cleanL_ints, ints_length, ints_get, intsAt, endL, finB]
    simp (disch := (simp only [List.length_take, List.length_append, List.length_drop, List.length_singleton, List.length_cons, List.length_nil] <;> omega)) only [List.take_of_length_le, List.take_take, Nat.min_self, List.append_assoc, List.singleton_append]
   ·simp [rQMX0, rQMX1, rQMX2, rQMX3, rQMX4, rQMX5, rQMX6, rQMX7, h, h1, hlt, hx1, hp, hq, hm, hL1, hL2, hL3, idx, eds_take, eds_drop, eds_snoc, eds_app, LIM, List.length_take, List.length_drop, blk, eds_length, eds_get, edsAt, edAV, allLeaf_eds, cleanL_eds, cleanL_ints, ints_length, ints_get, intsAt, endL, finB]
    simp (disch := (simp only [List.length_take, List.length_append, List.length_drop, List.length_singleton, List.length_cons, List.length_nil] <;> omega)) only [List.take_of_length_le, List.take_take, Nat.min_self, List.append_assoc, List.singleton_append]
 ·have h1 : ¬ (p : Int) < l.length := by omega
  rw [if_neg (by rw [List.getElem?_eq_none (by omega)]; simp)]
  simp [rQMX0, rQMX1, rQMX2, rQMX3, rQMX4, rQMX5, rQMX6, rQMX7, h, h1, hlt, hp, hq, hm, hL1, hL2, hL3, idx, eds_take, eds_drop, eds_snoc, eds_app, LIM, List.length_take, List.length_drop, blk, eds_length, eds_get, edsAt, edAV, allLeaf_eds, cleanL_eds, cleanL_ints, ints_length, ints_get, intsAt, endL, finB]
  simp (disch := (simp only [List.length_take, List.length_append, List.length_drop, List.length_singleton, List.length_cons, List.length_nil] <;> omega)) only [List.take_of_length_le, List.take_take, Nat.min_self, List.append_assoc, List.singleton_append]
/- What graph.Check and what it calls returns. -/
theorem or_run (a b : Int) : callL cfgS nQO [.list 1 [.int .i64 a, .int .i64 b]] [] = some (.int .i64 (if a = 0 then b else a), []) := by
 rw [callL_end oQO sQO (Nat.le_of_ble_eq_true rfl)]
 have t2 : IntKind.i64.wrap 2 = 2 := by decide
 have l3 : codeL cfgS 0 (.loop lQOX0) ⟨[(3, .int .i64 0), (6, .list 1 [.int .i64 a, .int .i64 b]), (7, .int .i64 2), (8, .int .i64 2)], []⟩ = some (.exit 0, ⟨[(3, .int .i64 0), (6, .list 1 [.int .i64 a, .int .i64 b]), (7, .int .i64 2), (8, .int .i64 2), (9, .bool false)], []⟩) :=
  loop_exit (by unfold lQOX0; simp [rQOX0, rQOX1, rQOX2, rQOX3, rQOX4, rQOX5, rQOX6, rQOX7, rQOX8, blk, eds_length, eds_get, edsAt, edAV, allLeaf_eds, cleanL_eds, cleanL_ints, ints_length, ints_get, intsAt, endL, finB])
 have l2 : codeL cfgS 0 (.loop lQOX0) ⟨[(3, .int .i64 0), (6, .list 1 [.int .i64 a, .int .i64 b]), (7, .int .i64 2), (8, .int .i64 1)], []⟩ = if b = 0 then some (.exit 0, ⟨[(3, .int .i64 0), (6, .list 1 [.int .i64 a, .int .i64 b]), (7, .int .i64 2), (8, .int .i64 2), (9, .bool false)], []⟩) else some (.ret, ⟨[(2, .int .i64 b)], []⟩) := by
  by_cases hb : b = 0
  ·subst hb
   rw [if_pos rfl]
   exact (loop_next (by unfold lQOX0; simp [rQOX0, rQOX1, rQOX2, rQOX3, rQOX4, rQOX5, rQOX6, rQOX7, rQOX8, idx, t2, blk, eds_length, eds_get, edsAt, edAV, allLeaf_eds, cleanL_eds, cleanL_ints, ints_length, ints_get, intsAt, endL, finB])).trans l3
  ·rw [if_neg hb]
   exact loop_ret (by unfold lQOX0; simp [rQOX0, rQOX1, rQOX2, rQOX3, rQOX4, rQOX5, rQOX6, rQOX7, rQOX8, hb, idx, blk, eds_length, eds_get, edsAt, edAV, allLeaf_eds, cleanL_eds, cleanL_ints, ints_length, ints_get, intsAt, endL, finB])
 have l1 : codeL cfgS 0 (.loop lQOX0) ⟨[(3, .int .i64 0), (6, .list 1 [.int .i64 a, .int .i64 b]), (7, .int .i64 2), (8, .int .i64 0)], []⟩ = if a = 0 then (if b = 0 then some (.exit 0, ⟨[(3, .int .i64 0), (6, .list 1 [.int .i64 a, .int .i64 b]), (7, .int .i64 2), (8, .int .i64 2), (9, .bool false)], []⟩) else some (.ret, ⟨[(2, .int .i64 b)], []⟩)) else some (.ret, ⟨[(2, .int .i64 a)], []⟩) := by
  by_cases ha : a = 0
  ·subst ha
   rw [if_pos rfl]
   exact (loop_next (by unfold lQOX0; simp [rQOX0, rQOX1, rQOX2, rQOX3, rQOX4, rQOX5, rQOX6, rQOX7, rQOX8, idx, blk, eds_length, eds_get, edsAt, edAV, allLeaf_eds, cleanL_eds, cleanL_ints, ints_length, ints_get, intsAt, endL, finB])).trans l2
  ·rw [if_neg ha]
   exact loop_ret (by unfold lQOX0; simp [rQOX0, rQOX1, rQOX2, rQOX3, rQOX4, rQOX5, rQOX6, rQOX7, rQOX8, ha, idx, blk, eds_length, eds_get, edsAt, edAV, allLeaf_eds, cleanL_eds, cleanL_ints, ints_length, ints_get, intsAt, endL, finB])
 clear l2 l3
 unfold qQO cQO
 by_cases ha : a = 0
 ·subst ha
  rw [if_pos rfl] at l1
  by_cases hb : b = 0
  ·subst hb
   rw [if_pos rfl] at l1
   simp [rQOX0, rQOX1, rQOX2, rQOX3, rQOX4, rQOX5, rQOX6, rQOX7, rQOX8, l1, blk, eds_length, eds_get, edsAt, edAV, allLeaf_eds, cleanL_eds, cleanL_ints, ints_length, ints_get, intsAt, endL, finB]
  ·rw [if_neg hb] at l1
   simp [rQOX0, rQOX1, rQOX2, rQOX3, rQOX4, rQOX5, rQOX6, rQOX7, rQOX8, l1, hb, blk, eds_length, eds_get, edsAt, edAV, allLeaf_eds, cleanL_eds, cleanL_ints, ints_length, ints_get, intsAt, endL, finB]
 ·rw [if_neg ha] at l1
  simp [rQOX0, rQOX1, rQOX2, rQOX3, rQOX4, rQOX5, rQOX6, rQOX7, rQOX8, l1, ha, blk, eds_length, eds_get, edsAt, edAV, allLeaf_eds, cleanL_eds, cleanL_ints, ints_length, ints_get, intsAt, endL, finB]
def ordI (a b : Ed) : Int := if cmpI a.1 b.1 = 0 then cmpI a.2 b.2 else cmpI a.1 b.1
theorem order_run (a b : Ed) : callL cfgS nQD [.agg [.int .i64 a.1, .int .i64 a.2], .agg [.int .i64 b.1, .int .i64 b.2]] [] = some (.int .i64 (ordI a b), []) := by
 rw [callL_end oQD sQD (Nat.le_of_ble_eq_true rfl)]
 have c1 := cmpI_run a.1 b.1
 have c2 := cmpI_run a.2 b.2
 have c3 := or_run (cmpI a.1 b.1) (cmpI a.2 b.2)
 unfold qQD cQD ordI
 simp [rQDX0, rQDX1, c1, c2, c3, sQP, iQP, sQO, iQO, blk, eds_length, eds_get, edsAt, edAV, allLeaf_eds, cleanL_eds, cleanL_ints, ints_length, ints_get, intsAt, endL, finB]
def prevE (l : List Ed) (i : Nat) : Option Ed := if i = 0 then none else l[i - 1]?
theorem prevE_zero (l : List Ed) : prevE l 0 = none := rfl
theorem prevE_succ (l : List Ed) (i : Nat) (h : i < l.length) : prevE l (i + 1) = some l[i] := by simp [prevE, h]
/- What functions of cohesionref03 return: Of, Check, Find. -/
def ofSt (n : Int) (l : List Ed) (E : AV) (i : Int) : St := ⟨[(0, .int .i64 n), (4, .ptr 0 0), (6, .ptr 1 0), (18, .list 2 (eds l)), (19, .int .i64 l.length), (20, .int .i64 i)], [some [.int .i64 0, .own 2 []], some [.int .i64 n, E]]⟩
def ofEnd (n : Int) (l : List Ed) (E : AV) : St := ⟨[(0, .int .i64 n), (4, .ptr 0 0), (6, .ptr 1 0), (18, .list 2 (eds l)), (19, .int .i64 l.length), (20, .int .i64 l.length), (21, .bool false)], [some [.int .i64 0, .own 2 []], some [.int .i64 n, E]]⟩
theorem rchk_loop (m : Int) (l : List Ed) (hl : l.length < 4294967297) : ∀ n i : Nat, i + n = l.length -> codeL cfgS 0 (.loop lQpX0) ⟨[(1, .ptr 0 0), (14, .list 2 (eds l)), (15, .int .i64 l.length), (16, .int .i64 i)], [some [.int .i64 m, .list 2 (eds l)]]⟩ =
  if chkGo m (prevE l i) (l.drop i) = 0 then some (.exit 0, ⟨[(1, .ptr 0 0), (14, .list 2 (eds l)), (15, .int .i64 l.length), (16, .int .i64 l.length), (17, .bool false)], [some [.int .i64 m, .list 2 (eds l)]]⟩) else some (.ret, ⟨[(2, .int .i64 (chkGo m (prevE l i) (l.drop i)))], []⟩)
 | 0, i, hi => by
   have e : i = l.length := by omega
   subst e
   rw [List.drop_length]
   exact loop_exit (by unfold lQpX0; simp [rQpX0, rQpX1, rQpX2, rQpX3, rQpX4, rQpX5, rQpX6, rQpX7, rQpX8, rQpX9, rQpX10, rQpX11, blk, eds_length, eds_get, edsAt, edAV, allLeaf_eds, cleanL_eds, cleanL_ints, ints_length, ints_get, intsAt, endL, finB])
 | n + 1, i, hi => by
   have hlt : i < l.length := by omega
   have h1 : (i : Int) < l.length := by omega
   have ih := rchk_loop m l hl n (i + 1) (by omega)
   have hw := wrapS (i := i) (by omega)
   rw [prevE_succ l i hlt] at ih
   rw [List.drop_eq_getElem_cons hlt]
   by_cases ha : l[i].1 < 0
   ·have e : chkGo m (prevE l i) (l[i] :: l.drop (i + 1)) = 6 := by unfold chkGo; rw [if_pos (.inl ha)]
    rw [e]
    exact loop_ret (by unfold lQpX0; simp [rQpX0, rQpX1, rQpX2, rQpX3, rQpX4, rQpX5, rQpX6, rQpX7, rQpX8, rQpX9, rQpX10, rQpX11, h1, hlt, ha, idx, blk, eds_length, eds_get, edsAt, edAV, allLeaf_eds, cleanL_eds, cleanL_ints, ints_length, ints_get, intsAt, endL, finB])
   by_cases hb : l[i].2 <= l[i].1
   ·have e : chkGo m (prevE l i) (l[i] :: l.drop (i + 1)) = 6 := by unfold chkGo; rw [if_pos (.inr (.inl hb))]
    rw [e]
    exact loop_ret (by unfold lQpX0; simp [rQpX0, rQpX1, rQpX2, rQpX3, rQpX4, rQpX5, rQpX6, rQpX7, rQpX8, rQpX9, rQpX10, rQpX11, h1, hlt, ha, hb, idx, blk, eds_length, eds_get, edsAt, edAV, allLeaf_eds, cleanL_eds, cleanL_ints, ints_length, ints_get, intsAt, endL, finB])
   by_cases hc : m <= l[i].2
   ·have e : chkGo m (prevE l i) (l[i] :: l.drop (i + 1)) = 6 := by unfold chkGo; rw [if_pos (.inr (.inr hc))]
    rw [e]
    exact loop_ret (by unfold lQpX0; simp [rQpX0, rQpX1, rQpX2, rQpX3, rQpX4, rQpX5, rQpX6, rQpX7, rQpX8, rQpX9, rQpX10, rQpX11, h1, hlt, ha, hb, hc, idx, blk, eds_length, eds_get, edsAt, edAV, allLeaf_eds, cleanL_eds, cleanL_ints, ints_length, ints_get, intsAt, endL, finB])
   have hn : ¬ (l[i].1 < 0 \/ l[i].2 <= l[i].1 \/ m <= l[i].2) := by omega
   cases i with
   | zero =>
     have e : chkGo m (prevE l 0) (l[0] :: l.drop (0 + 1)) = chkGo m (some l[0]) (l.drop (0 + 1)) := by
      conv => lhs; unfold chkGo
      rw [if_neg hn, prevE_zero, if_neg (show ¬ badP none l[0] from fun h => h)]
     rw [e]
     exact (loop_next (by unfold lQpX0; simp [rQpX0, rQpX1, rQpX2, rQpX3, rQpX4, rQpX5, rQpX6, rQpX7, rQpX8, rQpX9, rQpX10, rQpX11, h1, hlt, ha, hb, hc, hw, idx, blk, eds_length, eds_get, edsAt, edAV, allLeaf_eds, cleanL_eds, cleanL_ints, ints_length, ints_get, intsAt, endL, finB])).trans ih
   | succ j =>
     have hj : j < l.length := by omega
     have hj1 : (j : Int) < l.length := by omega
     have hp : (0 : Int) < (j : Int) + 1 := by omega
     have hp0 : (0 : Int) <= (j : Int) + 1 := by omega
     have hw2 := wrapN (i := j) (by omega)
     have h1 : (j : Int) + 1 < l.length := by omega
     have hw : IntKind.i64.wrap ((j : Int) + 1 + 1) = (j : Int) + 1 + 1 := wrapZ (j := j + 1 + 1) rfl (by omega)
     have ho := before_run l[j] l[j + 1]
     by_cases hd : ltE l[j] l[j + 1]
     ·have e : chkGo m (prevE l (j + 1)) (l[j + 1] :: l.drop (j + 1 + 1)) = chkGo m (some l[j + 1]) (l.drop (j + 1 + 1)) := by
       conv => lhs; unfold chkGo
       rw [if_neg hn, prevE_succ l j hj, if_neg (show ¬ badP (some l[j]) l[j + 1] from fun k => k hd)]
      rw [e]
      exact (loop_next (by unfold lQpX0; simp [rQpX0, rQpX1, rQpX2, rQpX3, rQpX4, rQpX5, rQpX6, rQpX7, rQpX8, rQpX9, rQpX10, rQpX11, h1, hlt, ha, hb, hc, hj, hj1, hp, hp0, hw, hw2, ho, hd, idx, sQC, iQC, blk, eds_length, eds_get, edsAt, edAV, allLeaf_eds, cleanL_eds, cleanL_ints, ints_length, ints_get, intsAt, endL, finB])).trans ih
     ·have e : chkGo m (prevE l (j + 1)) (l[j + 1] :: l.drop (j + 1 + 1)) = 5 := by
       unfold chkGo
       rw [if_neg hn, prevE_succ l j hj, if_pos (show badP (some l[j]) l[j + 1] from hd)]
      rw [e]
      exact loop_ret (by unfold lQpX0; simp [rQpX0, rQpX1, rQpX2, rQpX3, rQpX4, rQpX5, rQpX6, rQpX7, rQpX8, rQpX9, rQpX10, rQpX11, h1, hlt, ha, hb, hc, hj, hj1, hp, hp0, hw2, ho, hd, idx, sQC, iQC, blk, eds_length, eds_get, edsAt, edAV, allLeaf_eds, cleanL_eds, cleanL_ints, ints_length, ints_get, intsAt, endL, finB])
theorem rchk_run (m : Int) (l : List Ed) (hl : l.length < 4294967297) : callL cfgS nQp [.agg [.int .i64 m, .list 2 (eds l)]] [] = some (.int .i64 (chkG m l), []) := by
 rw [callL_end oQp sQp (Nat.le_of_ble_eq_true rfl)]
 have h := rchk_loop m l hl l.length 0 (by omega)
 rw [nat0, List.drop_zero, prevE_zero] at h
 unfold qQp cQp chkG
 by_cases ha : m < 0
 ·simp [rQpX0, rQpX1, rQpX2, rQpX3, rQpX4, rQpX5, rQpX6, rQpX7, rQpX8, rQpX9, rQpX10, rQpX11, ha, blk, eds_length, eds_get, edsAt, edAV, allLeaf_eds, cleanL_eds, cleanL_ints, ints_length, ints_get, intsAt, endL, finB]
 by_cases hb : 64 < m
 ·simp [rQpX0, rQpX1, rQpX2, rQpX3, rQpX4, rQpX5, rQpX6, rQpX7, rQpX8, rQpX9, rQpX10, rQpX11, ha, hb, blk, eds_length, eds_get, edsAt, edAV, allLeaf_eds, cleanL_eds, cleanL_ints, ints_length, ints_get, intsAt, endL, finB]
 rw [if_neg (by omega)]
 by_cases hc : chkGo m none l = 0
 ·rw [if_pos hc] at h
  rw [hc]
  simp [rQpX0, rQpX1, rQpX2, rQpX3, rQpX4, rQpX5, rQpX6, rQpX7, rQpX8, rQpX9, rQpX10, rQpX11, ha, hb, h, blk, eds_length, eds_get, edsAt, edAV, allLeaf_eds, cleanL_eds, cleanL_ints, ints_length, ints_get, intsAt, endL, finB]
 ·rw [if_neg hc] at h
  simp [rQpX0, rQpX1, rQpX2, rQpX3, rQpX4, rQpX5, rQpX6, rQpX7, rQpX8, rQpX9, rQpX10, rQpX11, ha, hb, h, blk, eds_length, eds_get, edsAt, edAV, allLeaf_eds, cleanL_eds, cleanL_ints, ints_length, ints_get, intsAt, endL, finB]
theorem find_loop (x : Ed) (u v : Int) (hx : nrmE u v = x) (l : List Ed) (hl : l.length < 4294967297) : ∀ n i : Nat, i + n = l.length -> codeL cfgS 0 (.loop lQLX0) ⟨[(1, .int .i64 u), (2, .int .i64 v), (13, .list 2 (eds l)), (14, .int .i64 l.length), (15, .int .i64 i)], []⟩ =
  if x ∈ l.drop i then some (.ret, ⟨[(6, .int .i64 (i + (l.drop i).idxOf x : Nat))], []⟩) else some (.exit 0, ⟨[(1, .int .i64 u), (2, .int .i64 v), (13, .list 2 (eds l)), (14, .int .i64 l.length), (15, .int .i64 l.length), (16, .bool false)], []⟩)
 | 0, i, hi => by
   have e : i = l.length := by omega
   subst e
   rw [List.drop_length, if_neg (by simp)]
   exact loop_exit (by unfold lQLX0; simp [rQLX0, rQLX1, rQLX2, rQLX3, rQLX4, rQLX5, rQLX6, rQLX7, rQLX8, rQLX9, blk, eds_length, eds_get, edsAt, edAV, allLeaf_eds, cleanL_eds, cleanL_ints, ints_length, ints_get, intsAt, endL, finB])
 | n + 1, i, hi => by
   have hlt : i < l.length := by omega
   have h1 : (i : Int) < l.length := by omega
   have ih := find_loop x u v hx l hl n (i + 1) (by omega)
   have hw := wrapS (i := i) (by omega)
   have hg := edge_run u v
   rw [hx] at hg
   rw [List.drop_eq_getElem_cons hlt]
   by_cases he : l[i] = x
   ·have hx1 : l[i].1 = x.1 := by rw [he]
    have hx2 : l[i].2 = x.2 := by rw [he]
    rw [if_pos (by rw [he]; exact List.mem_cons_self), show (l[i] :: l.drop (i + 1)).idxOf x = 0 by rw [he]; exact List.idxOf_cons_self]
    exact loop_ret (by unfold lQLX0; simp [rQLX0, rQLX1, rQLX2, rQLX3, rQLX4, rQLX5, rQLX6, rQLX7, rQLX8, rQLX9, h1, hlt, hg, hx1, hx2, idx, sQN, iQN, blk, eds_length, eds_get, edsAt, edAV, allLeaf_eds, cleanL_eds, cleanL_ints, ints_length, ints_get, intsAt, endL, finB])
   ·have he2 : ¬ x = l[i] := fun e => he e.symm
    rw [show (l[i] :: l.drop (i + 1)).idxOf x = (l.drop (i + 1)).idxOf x + 1 by simp only [List.idxOf_cons]; rw [show (l[i] == x) = false by simpa using he]; rfl, show i + ((l.drop (i + 1)).idxOf x + 1) = i + 1 + (l.drop (i + 1)).idxOf x by omega]
    simp only [List.mem_cons, he2, false_or]
    by_cases hx1 : l[i].1 = x.1
    ·have hx2 : ¬ l[i].2 = x.2 := fun e => he (Prod.ext hx1 e)
     exact (loop_next (by unfold lQLX0; simp [rQLX0, rQLX1, rQLX2, rQLX3, rQLX4, rQLX5, rQLX6, rQLX7, rQLX8, rQLX9, h1, hlt, hg, hx1, hx2, hw, idx, sQN, iQN, blk, eds_length, eds_get, edsAt, edAV, allLeaf_eds, cleanL_eds, cleanL_ints, ints_length, ints_get, intsAt, endL, finB])).trans ih
    ·exact (loop_next (by unfold lQLX0; simp [rQLX0, rQLX1, rQLX2, rQLX3, rQLX4, rQLX5, rQLX6, rQLX7, rQLX8, rQLX9, h1, hlt, hg, hx1, hw, idx, sQN, iQN, blk, eds_length, eds_get, edsAt, edAV, allLeaf_eds, cleanL_eds, cleanL_ints, ints_length, ints_get, intsAt, endL, finB])).trans ih
theorem find_run (m : Int) (l : List Ed) (hl : l.length < 4294967297) (hG : GOK m l) (u v : Int) : callL cfgS nQL [.agg [.int .i64 m, .list 2 (eds l)], .int .i64 u, .int .i64 v] [] = some (.int .i64 (if nrmE u v ∈ l then (l.idxOf (nrmE u v) : Int) else -1), []) := by
 rw [callL_end oQL sQL (Nat.le_of_ble_eq_true rfl)]
 have hc := rchk_run m l hl
 rw [chkG_zero.2 hG] at hc
 have h := find_loop (nrmE u v) u v rfl l hl l.length 0 (by omega)
 rw [nat0, List.drop_zero, Nat.zero_add] at h
 unfold qQL cQL
 by_cases hx : nrmE u v ∈ l
 ·rw [if_pos hx] at h
  simp [rQLX0, rQLX1, rQLX2, rQLX3, rQLX4, rQLX5, rQLX6, rQLX7, rQLX8, rQLX9, h, hc, hx, sQp, iQp, blk, eds_length, eds_get, edsAt, edAV, allLeaf_eds, cleanL_eds, cleanL_ints, ints_length, ints_get, intsAt, endL, finB]
 ·rw [if_neg hx] at h
  simp [rQLX0, rQLX1, rQLX2, rQLX3, rQLX4, rQLX5, rQLX6, rQLX7, rQLX8, rQLX9, h, hc, hx, sQp, iQp, blk, eds_length, eds_get, edsAt, edAV, allLeaf_eds, cleanL_eds, cleanL_ints, ints_length, ints_get, intsAt, endL, finB]
end Go.BmP
