/- What functions of cohesionref02 return: put, Of, Range, Union, Meet, Minus, Within, Cmp, Same. -/
import Derived.Test.YtegmpkeejgflnaaUseM
import Derived.Test.YtegmpkeejgflnaaR02b
set_option linter.unusedSimpArgs false
set_option linter.unusedVariables false
set_option maxRecDepth 100000
namespace Go.BmP
open Go.Am Go.Bm
theorem put_run (x : Int) (l : List Int) (hl : l.length < 4294967295) : callL cfgS nQJ [.list 1 (ints l), .int .i64 x] [] = some (.list 1 (ints (putI x l)), []) := by
 rw [callL_end oQJ sQJ (Nat.le_of_ble_eq_true rfl), putI_pos]
 have h := put_loop x l (by omega) l.length 0 (by omega)
 rw [nat0, List.drop_zero, Nat.zero_add] at h
 have hp := pos_le x l
 generalize pos x l = p at h hp ⊢
 have hq : (p : Int) <= l.length := by omega
 have hm : min p l.length = p := by omega
 have hL1 : p <= 4294967296 := by omega
 have hL2 : p + 1 <= 4294967296 := by omega
 have hL3 : p + 1 + (l.length - p) <= 4294967296 := by omega
 unfold qQJ cQJ
 by_cases hlt : p < l.length
 ·have h1 : (p : Int) < l.length := by omega
  by_cases hx : l[p] = x
  ·rw [if_pos (by rw [List.getElem?_eq_getElem hlt, hx])]
   simp [rQJX0, rQJX1, rQJX2, rQJX3, rQJX4, rQJX5, rQJX6, rQJX7, h, h1, hlt, hx, ints_length, ints_get, intsAt, idx, endL, finB]
  ·rw [if_neg (by rw [List.getElem?_eq_getElem hlt]; simpa using hx)]
   simp [rQJX0, rQJX1, rQJX2, rQJX3, rQJX4, rQJX5, rQJX6, rQJX7, h, h1, hlt, hx, hp, hq, hm, hL1, hL2, hL3, ints_length, ints_get, intsAt, idx, endL, finB, ints_take, ints_drop, ints_snoc, ints_app, LIM, List.length_take, List.length_drop]
   simp (disch := (simp only [List.length_take, List.length_append, List.length_drop, List.length_singleton, List.length_cons, List.length_nil] <;> omega)) only [List.take_of_length_le, List.take_take, Nat.min_self, List.append_assoc, List.singleton_append]
 ·have h1 : ¬ (p : Int) < l.length := by omega
  rw [if_neg (by rw [List.getElem?_eq_none (by omega)]; simp)]
  simp [rQJX0, rQJX1, rQJX2, rQJX3, rQJX4, rQJX5, rQJX6, rQJX7, h, h1, hlt, hp, hq, hm, hL1, hL2, hL3, ints_length, ints_get, intsAt, idx, endL, finB, ints_take, ints_drop, ints_snoc, ints_app, LIM, List.length_take, List.length_drop]
  simp (disch := (simp only [List.length_take, List.length_append, List.length_drop, List.length_singleton, List.length_cons, List.length_nil] <;> omega)) only [List.take_of_length_le, List.take_take, Nat.min_self, List.append_assoc, List.singleton_append]
theorem of_loop (l : List Int) (hl : l.length < 4294967295) : ∀ (n i : Nat) (o : List Int), i + n = l.length -> o.length <= i -> codeL cfgS 0 (.loop lQHX0) ⟨[(3, .list 1 (ints o)), (6, .list 1 (ints l)), (7, .int .i64 l.length), (8, .int .i64 i)], []⟩ =
  some (.exit 0, ⟨[(3, .list 1 (ints ((l.drop i).foldl (fun o x => putI x o) o))), (6, .list 1 (ints l)), (7, .int .i64 l.length), (8, .int .i64 l.length), (9, .bool false)], []⟩)
 | 0, i, o, hi, ho => by
   have e : i = l.length := by omega
   subst e
   rw [List.drop_length]
   exact loop_exit (by unfold lQHX0; simp [rQHX0, rQHX1, rQHX2, rQHX3, rQHX4, rQHX5, rQHX6, rQHX7])
 | n + 1, i, o, hi, ho => by
   have hlt : i < l.length := by omega
   have h1 : (i : Int) < l.length := by omega
   have hw := wrapS (i := i) (by omega)
   have hp := put_run l[i] o (by omega)
   have hpl := putI_len l[i] o
   have ih := of_loop l hl n (i + 1) (putI l[i] o) (by omega) (by omega)
   rw [List.drop_eq_getElem_cons hlt, List.foldl_cons]
   exact (loop_next (by unfold lQHX0; simp [rQHX0, rQHX1, rQHX2, rQHX3, rQHX4, rQHX5, rQHX6, rQHX7, h1, hlt, hw, hp, sQJ, iQJ, lQJ, ints_length, ints_get, intsAt, idx])).trans ih
theorem of_loop0 (l : List Int) (hl : l.length < 4294967295) : codeL cfgS 0 (.loop lQHX0) ⟨[(3, .own 1 []), (6, .list 1 (ints l)), (7, .int .i64 l.length), (8, .int .i64 0)], []⟩ =
  some (.exit 0, ⟨[(3, if l = [] then .own 1 [] else .list 1 (ints (setOf l))), (6, .list 1 (ints l)), (7, .int .i64 l.length), (8, .int .i64 l.length), (9, .bool false)], []⟩) := by
 cases l with
 | nil => exact loop_exit (by unfold lQHX0; simp [rQHX0, rQHX1, rQHX2, rQHX3, rQHX4, rQHX5, rQHX6, rQHX7, ints_nil])
 | cons a r =>
   have hp := put_run a [] (by simp)
   have ih := of_loop (a :: r) hl r.length 1 (putI a []) (by simp; omega) (by simp [putI])
   rw [<- ofL_eq, if_neg (by simp)]
   rw [ints_nil] at hp
   refine (loop_next (s' := ⟨[(3, .list 1 (ints (putI a []))), (6, .list 1 (ints (a :: r))), (7, .int .i64 (a :: r).length), (8, .int .i64 ((1 : Nat) : Int))], []⟩) ?_).trans (ih.trans ?_)
   ·have h1 : (0 : Int) < (r.length : Int) + 1 := by omega
    unfold lQHX0
    simp [rQHX0, rQHX1, rQHX2, rQHX3, rQHX4, rQHX5, rQHX6, rQHX7, h1, hp, sQJ, iQJ, lQJ, ints_length, ints_cons, idx]
   ·rfl
theorem of_run (l : List Int) (hl : l.length < 4294967295) : callL cfgS nQH [.list 1 (ints l)] [] = some (.list 1 (ints (setOf l)), []) := by
 rw [callL_end oQH sQH (Nat.le_of_ble_eq_true rfl)]
 have h := of_loop0 l hl
 unfold qQH cQH
 by_cases hx : l = []
 ·subst hx
  rw [if_pos rfl] at h
  simp only [ints_nil, List.length_nil, nat0] at h
  simp [rQHX0, rQHX1, rQHX2, rQHX3, rQHX4, rQHX5, rQHX6, rQHX7, h, ints_nil, endL, finB]
  rfl
 ·rw [if_neg hx] at h
  simp [rQHX0, rQHX1, rQHX2, rQHX3, rQHX4, rQHX5, rQHX6, rQHX7, h, ints_length, endL, finB]
def rangeI (n : Int) : List Int := (List.range (min n.toNat 64)).map fun i => ((i : Nat) : Int)
end Go.BmP
