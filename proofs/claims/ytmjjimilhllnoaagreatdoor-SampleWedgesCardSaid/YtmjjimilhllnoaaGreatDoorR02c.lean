/- What functions of cohesionref02 return: put, Of, Range, Union, Meet, Minus, Within, Cmp, Same. -/
import Derived.Test.YtmjjimilhllnoaaGreatDoorUseM
import Derived.Test.YtmjjimilhllnoaaGreatDoorR02b
set_option linter.unusedSimpArgs false
set_option linter.unusedVariables false
set_option maxRecDepth 100000
namespace Go.BmP
open Go.Am Go.Bm
theorem put_run (x : Int) (l : List Int) (hl : l.length < 4294967295) : callL cfgS nQa0 [.list 1 (ints l), .int .i64 x] [] = some (.list 1 (ints (putI x l)), []) := by
 rw [callL_end oQa0 sQa0 (Nat.le_of_ble_eq_true rfl), putI_pos]
 have h := put_loop x l (by omega) l.length 0 (by omega)
 rw [nat0, List.drop_zero, Nat.zero_add] at h
 have hp := pos_le x l
 generalize pos x l = p at h hp ⊢
 have hq : (p : Int) <= l.length := by omega
 have hm : min p l.length = p := by omega
 have hL1 : p <= 4294967296 := by omega
 have hL2 : p + 1 <= 4294967296 := by omega
 have hL3 : p + 1 + (l.length - p) <= 4294967296 := by omega
 unfold qQa0 cQa0
 by_cases hlt : p < l.length
 ·have h1 : (p : Int) < l.length := by omega
  by_cases hx : l[p] = x
  ·rw [if_pos (by rw [List.getElem?_eq_getElem hlt, hx])]
   simp [rQa0X0, rQa0X1, rQa0X2, rQa0X3, rQa0X4, rQa0X5, rQa0X6, rQa0X7, h, h1, hlt, hx, ints_length, ints_get, intsAt, idx, endL, finB]
  ·rw [if_neg (by rw [List.getElem?_eq_getElem hlt]; simpa using hx)]
   simp [rQa0X0, rQa0X1, rQa0X2, rQa0X3, rQa0X4, rQa0X5, rQa0X6, rQa0X7, h, h1, hlt, hx, hp, hq, hm, hL1, hL2, hL3, ints_length, ints_get, intsAt, idx, endL, finB, ints_take, ints_drop, ints_snoc, ints_app, LIM, List.length_take, List.length_drop]
   simp (disch := (simp only [List.length_take, List.length_append, List.length_drop, List.length_singleton, List.length_cons, List.length_nil] <;> omega)) only [List.take_of_length_le, List.take_take, Nat.min_self, List.append_assoc, List.singleton_append]
 ·have h1 : ¬ (p : Int) < l.length := by omega
  rw [if_neg (by rw [List.getElem?_eq_none (by omega)]; simp)]
  simp [rQa0X0, rQa0X1, rQa0X2, rQa0X3, rQa0X4, rQa0X5, rQa0X6, rQa0X7, h, h1, hlt, hp, hq, hm, hL1, hL2, hL3, ints_length, ints_get, intsAt, idx, endL, finB, ints_take, ints_drop, ints_snoc, ints_app, LIM, List.length_take, List.length_drop]
  simp (disch := (simp only [List.length_take, List.length_append, List.length_drop, List.length_singleton, List.length_cons, List.length_nil] <;> omega)) only [List.take_of_length_le, List.take_take, Nat.min_self, List.append_assoc, List.singleton_append]
theorem of_loop (l : List Int) (hl : l.length < 4294967295) : ∀ (n i : Nat) (o : List Int), i + n = l.length -> o.length <= i -> codeL cfgS 0 (.loop lQTX0) ⟨[(3, .list 1 (ints o)), (6, .list 1 (ints l)), (7, .int .i64 l.length), (8, .int .i64 i)], []⟩ =
  some (.exit 0, ⟨[(3, .list 1 (ints ((l.drop i).foldl (fun o x => putI x o) o))), (6, .list 1 (ints l)), (7, .int .i64 l.length), (8, .int .i64 l.length), (9, .bool false)], []⟩)
 | 0, i, o, hi, ho => by
   have e : i = l.length := by omega
   subst e
   rw [List.drop_length]
   exact loop_exit (by unfold lQTX0; simp [rQTX0, rQTX1, rQTX2, rQTX3, rQTX4, rQTX5, rQTX6, rQTX7])
 | n + 1, i, o, hi, ho => by
   have hlt : i < l.length := by omega
   have h1 : (i : Int) < l.length := by omega
   have hw := wrapS (i := i) (by omega)
   have hp := put_run l[i] o (by omega)
   have hpl := putI_len l[i] o
   have ih := of_loop l hl n (i + 1) (putI l[i] o) (by omega) (by omega)
   rw [List.drop_eq_getElem_cons hlt, List.foldl_cons]
   exact (loop_next (by unfold lQTX0; simp [rQTX0, rQTX1, rQTX2, rQTX3, rQTX4, rQTX5, rQTX6, rQTX7, h1, hlt, hw, hp, sQa0, iQa0, ints_length, ints_get, intsAt, idx])).trans ih
theorem of_loop0 (l : List Int) (hl : l.length < 4294967295) : codeL cfgS 0 (.loop lQTX0) ⟨[(3, .own 1 []), (6, .list 1 (ints l)), (7, .int .i64 l.length), (8, .int .i64 0)], []⟩ =
  some (.exit 0, ⟨[(3, if l = [] then .own 1 [] else .list 1 (ints (setOf l))), (6, .list 1 (ints l)), (7, .int .i64 l.length), (8, .int .i64 l.length), (9, .bool false)], []⟩) := by
 cases l with
 | nil => exact loop_exit (by unfold lQTX0; simp [rQTX0, rQTX1, rQTX2, rQTX3, rQTX4, rQTX5, rQTX6, rQTX7, ints_nil])
 | cons a r =>
   have hp := put_run a [] (by simp)
   have ih := of_loop (a :: r) hl r.length 1 (putI a []) (by simp; omega) (by simp [putI])
   rw [<- ofL_eq, if_neg (by simp)]
   rw [ints_nil] at hp
   refine (loop_next (s' := ⟨[(3, .list 1 (ints (putI a []))), (6, .list 1 (ints (a :: r))), (7, .int .i64 (a :: r).length), (8, .int .i64 ((1 : Nat) : Int))], []⟩) ?_).trans (ih.trans ?_)
   ·have h1 : (0 : Int) < (r.length : Int) + 1 := by omega
    unfold lQTX0
    simp [rQTX0, rQTX1, rQTX2, rQTX3, rQTX4, rQTX5, rQTX6, rQTX7, h1, hp, sQa0, iQa0, ints_length, ints_cons, idx]
   ·rfl
theorem of_run (l : List Int) (hl : l.length < 4294967295) : callL cfgS nQT [.list 1 (ints l)] [] = some (.list 1 (ints (setOf l)), []) := by
 rw [callL_end oQT sQT (Nat.le_of_ble_eq_true rfl)]
 have h := of_loop0 l hl
 unfold qQT cQT
 by_cases hx : l = []
 ·subst hx
  rw [if_pos rfl] at h
  simp only [ints_nil, List.length_nil, nat0] at h
  simp [rQTX0, rQTX1, rQTX2, rQTX3, rQTX4, rQTX5, rQTX6, rQTX7, h, ints_nil, endL, finB]
  rfl
 ·rw [if_neg hx] at h
  simp [rQTX0, rQTX1, rQTX2, rQTX3, rQTX4, rQTX5, rQTX6, rQTX7, h, ints_length, endL, finB]
theorem meet_loop (l b : List Int) (hl : l.length < 4294967295) (hb : b.length < 4294967295) : ∀ (n i : Nat) (o : List Int), i + n = l.length -> o.length <= i -> codeL cfgS 0 (.loop lQb2X0) ⟨[(1, .list 1 (ints b)), (5, .own 1 (ints o)), (9, .list 1 (ints l)), (10, .int .i64 l.length), (11, .int .i64 i)], []⟩ =
  some (.exit 0, ⟨[(1, .list 1 (ints b)), (5, .own 1 (ints (o ++ (l.drop i).filter fun x => decide (x ∈ b)))), (9, .list 1 (ints l)), (10, .int .i64 l.length), (11, .int .i64 l.length), (12, .bool false)], []⟩)
 | 0, i, o, hi, ho => by
   have e : i = l.length := by omega
   subst e
   rw [List.drop_length, List.filter_nil, List.append_nil]
   exact loop_exit (by unfold lQb2X0; simp [rQb2X0, rQb2X1, rQb2X2, rQb2X3, rQb2X4, rQb2X5, rQb2X6, rQb2X7, rQb2X8])
 | n + 1, i, o, hi, ho => by
   have hlt : i < l.length := by omega
   have h1 : (i : Int) < l.length := by omega
   have hw := wrapS (i := i) (by omega)
   have hh := has_run l[i] b (by omega)
   have hL : o.length + 1 <= 4294967296 := by omega
   rw [List.drop_eq_getElem_cons hlt, List.filter_cons]
   by_cases hx : l[i] ∈ b
   ·have ih := meet_loop l b hl hb n (i + 1) (o ++ [l[i]]) (by omega) (by simp; omega)
    rw [List.append_assoc] at ih
    rw [if_pos (by simpa using hx)]
    exact (loop_next (by unfold lQb2X0; simp [rQb2X0, rQb2X1, rQb2X2, rQb2X3, rQb2X4, rQb2X5, rQb2X6, rQb2X7, rQb2X8, h1, hlt, hw, hh, hx, hL, LIM, sQb6, iQb6, ints_length, ints_get, intsAt, idx, ints_snoc, ints_take])).trans ih
   ·have ih := meet_loop l b hl hb n (i + 1) o (by omega) (by omega)
    rw [if_neg (by simpa using hx)]
    exact (loop_next (by unfold lQb2X0; simp [rQb2X0, rQb2X1, rQb2X2, rQb2X3, rQb2X4, rQb2X5, rQb2X6, rQb2X7, rQb2X8, h1, hlt, hw, hh, hx, hL, LIM, sQb6, iQb6, ints_length, ints_get, intsAt, idx, ints_snoc, ints_take])).trans ih
theorem meet_run (a b : List Int) (ha : a.length < 4294967295) (hb : b.length < 4294967295) : callL cfgS nQb2 [.list 1 (ints a), .list 1 (ints b)] [] = some (.list 1 (ints (meet a b)), []) := by
 rw [callL_end oQb2 sQb2 (Nat.le_of_ble_eq_true rfl)]
 have hs := setOf_len a
 have h := meet_loop (setOf a) b (by omega) hb (setOf a).length 0 [] (by omega) (by simp)
 have ho := of_run a ha
 have e : (setOf a).filter (fun x => decide (x ∈ b)) = meet a b := up_ext ((setOf_spec a).1.filter _) (meet_spec _ _).1 fun x => by rw [(meet_spec _ _).2, List.mem_filter, (setOf_spec _).2]; simp
 rw [nat0, List.drop_zero, List.nil_append, e, ints_nil] at h
 unfold qQb2 cQb2
 simp [rQb2X0, rQb2X1, rQb2X2, rQb2X3, rQb2X4, rQb2X5, rQb2X6, rQb2X7, rQb2X8, h, ho, LIM, ints_nil, ints_length, ints_take, endL, finB, sQT, iQT]
def rangeI (n : Int) : List Int := (List.range (min n.toNat 64)).map fun i => ((i : Nat) : Int)
end Go.BmP
