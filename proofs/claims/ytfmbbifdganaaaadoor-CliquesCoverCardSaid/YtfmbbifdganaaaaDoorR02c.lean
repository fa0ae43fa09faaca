/- What functions of cohesionref02 return: put, Of, Range, Union, Meet, Minus, Within, Cmp, Same. -/
import Derived.Test.YtfmbbifdganaaaaDoorUseM
import Derived.Test.YtfmbbifdganaaaaDoorR02b
set_option linter.unusedSimpArgs false
set_option linter.unusedVariables false
set_option maxRecDepth 100000
namespace Go.BmP
open Go.Am Go.Bm
theorem put_run (x : Int) (l : List Int) (hl : l.length < 4294967295) : callL cfgS nQE [.list 1 (ints l), .int .i64 x] [] = some (.list 1 (ints (putI x l)), []) := by
 rw [callL_end oQE sQE (Nat.le_of_ble_eq_true rfl), putI_pos]
 have h := put_loop x l (by omega) l.length 0 (by omega)
 rw [nat0, List.drop_zero, Nat.zero_add] at h
 have hp := pos_le x l
 generalize pos x l = p at h hp ⊢
 have hq : (p : Int) <= l.length := by omega
 have hm : min p l.length = p := by omega
 have hL1 : p <= 4294967296 := by omega
 have hL2 : p + 1 <= 4294967296 := by omega
 have hL3 : p + 1 + (l.length - p) <= 4294967296 := by omega
 unfold qQE cQE
 by_cases hlt : p < l.length
 ·have h1 : (p : Int) < l.length := by omega
  by_cases hx : l[p] = x
  ·rw [if_pos (by rw [List.getElem?_eq_getElem hlt, hx])]
   simp [rQEX0, rQEX1, rQEX2, rQEX3, rQEX4, rQEX5, rQEX6, rQEX7, h, h1, hlt, hx, ints_length, ints_get, intsAt, idx, endL, finB]
  ·rw [if_neg (by rw [List.getElem?_eq_getElem hlt]; simpa using hx)]
   simp [rQEX0, rQEX1, rQEX2, rQEX3, rQEX4, rQEX5, rQEX6, rQEX7, h, h1, hlt, hx, hp, hq, hm, hL1, hL2, hL3, ints_length, ints_get, intsAt, idx, endL, finB, ints_take, ints_drop, ints_snoc, ints_app, LIM, List.length_take, List.length_drop]
   simp (disch := (simp only [List.length_take, List.length_append, List.length_drop, List.length_singleton, List.length_cons, List.length_nil] <;> omega)) only [List.take_of_length_le, List.take_take, Nat.min_self, List.append_assoc, List.singleton_append]
 ·have h1 : ¬ (p : Int) < l.length := by omega
  rw [if_neg (by rw [List.getElem?_eq_none (by omega)]; simp)]
  simp [rQEX0, rQEX1, rQEX2, rQEX3, rQEX4, rQEX5, rQEX6, rQEX7, h, h1, hlt, hp, hq, hm, hL1, hL2, hL3, ints_length, ints_get, intsAt, idx, endL, finB, ints_take, ints_drop, ints_snoc, ints_app, LIM, List.length_take, List.length_drop]
  simp (disch := (simp only [List.length_take, List.length_append, List.length_drop, List.length_singleton, List.length_cons, List.length_nil] <;> omega)) only [List.take_of_length_le, List.take_take, Nat.min_self, List.append_assoc, List.singleton_append]
theorem of_loop (l : List Int) (hl : l.length < 4294967295) : ∀ (n i : Nat) (o : List Int), i + n = l.length -> o.length <= i -> codeL cfgS 0 (.loop lQkX0) ⟨[(3, .list 1 (ints o)), (6, .list 1 (ints l)), (7, .int .i64 l.length), (8, .int .i64 i)], []⟩ =
  some (.exit 0, ⟨[(3, .list 1 (ints ((l.drop i).foldl (fun o x => putI x o) o))), (6, .list 1 (ints l)), (7, .int .i64 l.length), (8, .int .i64 l.length), (9, .bool false)], []⟩)
 | 0, i, o, hi, ho => by
   have e : i = l.length := by omega
   subst e
   rw [List.drop_length]
   exact loop_exit (by unfold lQkX0; simp [rQkX0, rQkX1, rQkX2, rQkX3, rQkX4, rQkX5, rQkX6, rQkX7])
 | n + 1, i, o, hi, ho => by
   have hlt : i < l.length := by omega
   have h1 : (i : Int) < l.length := by omega
   have hw := wrapS (i := i) (by omega)
   have hp := put_run l[i] o (by omega)
   have hpl := putI_len l[i] o
   have ih := of_loop l hl n (i + 1) (putI l[i] o) (by omega) (by omega)
   rw [List.drop_eq_getElem_cons hlt, List.foldl_cons]
   exact (loop_next (by unfold lQkX0; simp [rQkX0, rQkX1, rQkX2, rQkX3, rQkX4, rQkX5, rQkX6, rQkX7, h1, hlt, hw, hp, sQE, iQE, ints_length, ints_get, intsAt, idx])).trans ih
theorem of_loop0 (l : List Int) (hl : l.length < 4294967295) : codeL cfgS 0 (.loop lQkX0) ⟨[(3, .own 1 []), (6, .list 1 (ints l)), (7, .int .i64 l.length), (8, .int .i64 0)], []⟩ =
  some (.exit 0, ⟨[(3, if l = [] then .own 1 [] else .list 1 (ints (setOf l))), (6, .list 1 (ints l)), (7, .int .i64 l.length), (8, .int .i64 l.length), (9, .bool false)], []⟩) := by
 cases l with
 | nil => exact loop_exit (by unfold lQkX0; simp [rQkX0, rQkX1, rQkX2, rQkX3, rQkX4, rQkX5, rQkX6, rQkX7, ints_nil])
 | cons a r =>
   have hp := put_run a [] (by simp)
   have ih := of_loop (a :: r) hl r.length 1 (putI a []) (by simp; omega) (by simp [putI])
   rw [<- ofL_eq, if_neg (by simp)]
   rw [ints_nil] at hp
   refine (loop_next (s' := ⟨[(3, .list 1 (ints (putI a []))), (6, .list 1 (ints (a :: r))), (7, .int .i64 (a :: r).length), (8, .int .i64 ((1 : Nat) : Int))], []⟩) ?_).trans (ih.trans ?_)
   ·have h1 : (0 : Int) < (r.length : Int) + 1 := by omega
    unfold lQkX0
    simp [rQkX0, rQkX1, rQkX2, rQkX3, rQkX4, rQkX5, rQkX6, rQkX7, h1, hp, sQE, iQE, ints_length, ints_cons, idx]
   ·rfl
theorem of_run (l : List Int) (hl : l.length < 4294967295) : callL cfgS nQk [.list 1 (ints l)] [] = some (.list 1 (ints (setOf l)), []) := by
 rw [callL_end oQk sQk (Nat.le_of_ble_eq_true rfl)]
 have h := of_loop0 l hl
 unfold qQk cQk
 by_cases hx : l = []
 ·subst hx
  rw [if_pos rfl] at h
  simp only [ints_nil, List.length_nil, nat0] at h
  simp [rQkX0, rQkX1, rQkX2, rQkX3, rQkX4, rQkX5, rQkX6, rQkX7, h, ints_nil, endL, finB]
  rfl
 ·rw [if_neg hx] at h
  simp [rQkX0, rQkX1, rQkX2, rQkX3, rQkX4, rQkX5, rQkX6, rQkX7, h, ints_length, endL, finB]
theorem within_loop (l b : List Int) (hl : l.length < 4294967295) (hb : b.length < 4294967295) : ∀ (n i : Nat), i + n = l.length -> codeL cfgS 0 (.loop lQpX0) ⟨[(1, .list 1 (ints b)), (7, .list 1 (ints l)), (8, .int .i64 l.length), (9, .int .i64 i)], []⟩ =
  if (l.drop i).all (fun x => decide (x ∈ b)) = true then some (.exit 0, ⟨[(1, .list 1 (ints b)), (7, .list 1 (ints l)), (8, .int .i64 l.length), (9, .int .i64 l.length), (10, .bool false)], []⟩) else some (.ret, ⟨[(4, .bool false)], []⟩)
 | 0, i, hi => by
   have e : i = l.length := by omega
   subst e
   rw [List.drop_length, List.all_nil, if_pos rfl]
   exact loop_exit (by unfold lQpX0; simp [rQpX0, rQpX1, rQpX2, rQpX3, rQpX4, rQpX5, rQpX6, rQpX7])
 | n + 1, i, hi => by
   have hlt : i < l.length := by omega
   have h1 : (i : Int) < l.length := by omega
   have hw := wrapS (i := i) (by omega)
   have hh := has_run l[i] b (by omega)
   rw [List.drop_eq_getElem_cons hlt, List.all_cons]
   by_cases hx : l[i] ∈ b
   ·have ih := within_loop l b hl hb n (i + 1) (by omega)
    simp only [hx, decide_true, Bool.true_and]
    exact (loop_next (by unfold lQpX0; simp [rQpX0, rQpX1, rQpX2, rQpX3, rQpX4, rQpX5, rQpX6, rQpX7, h1, hlt, hw, hh, hx, sQK, iQK, ints_length, ints_get, intsAt, idx])).trans ih
   ·simp only [hx, decide_false, Bool.false_and, Bool.false_eq_true, if_false]
    exact loop_ret (by unfold lQpX0; simp [rQpX0, rQpX1, rQpX2, rQpX3, rQpX4, rQpX5, rQpX6, rQpX7, h1, hlt, hw, hh, hx, sQK, iQK, ints_length, ints_get, intsAt, idx])
theorem within_run (a b : List Int) (ha : a.length < 4294967295) (hb : b.length < 4294967295) : callL cfgS nQp [.list 1 (ints a), .list 1 (ints b)] [] = some (.bool (a.all fun x => decide (x ∈ b)), []) := by
 rw [callL_end oQp sQp (Nat.le_of_ble_eq_true rfl)]
 have h := within_loop a b ha hb a.length 0 (by omega)
 rw [nat0, List.drop_zero] at h
 unfold qQp cQp
 cases hx : a.all fun x => decide (x ∈ b)
 ·rw [hx] at h
  simp [rQpX0, rQpX1, rQpX2, rQpX3, rQpX4, rQpX5, rQpX6, rQpX7, h, ints_length, endL, finB]
 ·rw [hx] at h
  simp [rQpX0, rQpX1, rQpX2, rQpX3, rQpX4, rQpX5, rQpX6, rQpX7, h, ints_length, endL, finB]
def rangeI (n : Int) : List Int := (List.range (min n.toNat 64)).map fun i => ((i : Nat) : Int)
theorem range_loop (m : Int) : ∀ (n i : Nat), i + n = min m.toNat 64 -> codeL cfgS 0 (.loop lQlX0) ⟨[(0, .int .i64 m), (3, .own 1 (ints ((List.range i).map fun i => ((i : Nat) : Int)))), (4, .int .i64 i)], []⟩ =
  some (.exit 0, ⟨[(0, .int .i64 m), (3, .own 1 (ints (rangeI m))), (4, .int .i64 (min m.toNat 64 : Nat)), (11, .bool false)], []⟩)
 | 0, i, hi => by
   have e : i = min m.toNat 64 := by omega
   have e2 : ((List.range i).map fun i => ((i : Nat) : Int)) = rangeI m := by rw [e]; rfl
   rw [e2, <- e]
   by_cases h : (i : Int) < m
   ·have h2 : ¬ (i : Int) < 64 := by omega
    exact loop_exit (by unfold lQlX0; simp [rQlX0, rQlX1, rQlX2, rQlX3, rQlX4, rQlX5, rQlX6, h, h2])
   ·exact loop_exit (by unfold lQlX0; simp [rQlX0, rQlX1, rQlX2, rQlX3, rQlX4, rQlX5, rQlX6, h])
 | n + 1, i, hi => by
   have h : (i : Int) < m := by omega
   have h2 : (i : Int) < 64 := by omega
   have hw := wrapS (i := i) (by omega)
   have hL : i + 1 <= 4294967296 := by omega
   have ih := range_loop m n (i + 1) (by omega)
   have e : ((List.range (i + 1)).map fun i => ((i : Nat) : Int)) = ((List.range i).map fun i => ((i : Nat) : Int)) ++ [(i : Int)] := by rw [List.range_succ, List.map_append]; rfl
   rw [e] at ih
   generalize hr : ((List.range i).map fun i => ((i : Nat) : Int)) = r at ih ⊢
   have hrl : r.length = i := by rw [<- hr]; simp
   exact (loop_next (by unfold lQlX0; simp [rQlX0, rQlX1, rQlX2, rQlX3, rQlX4, rQlX5, rQlX6, h, h2, hw, hL, hrl, take_snocI hrl, LIM, ints_length, ints_snoc, ints_take])).trans ih
theorem range_run (m : Int) : callL cfgS nQl [.int .i64 m] [] = some (.list 1 (ints (rangeI m)), []) := by
 rw [callL_end oQl sQl (Nat.le_of_ble_eq_true rfl)]
 have h := range_loop m (min m.toNat 64) 0 (by omega)
 rw [nat0, List.range_zero, List.map_nil, ints_nil] at h
 unfold qQl cQl
 simp [rQlX0, rQlX1, rQlX2, rQlX3, rQlX4, rQlX5, rQlX6, h, ints_length, ints_take, endL, finB]
end Go.BmP
