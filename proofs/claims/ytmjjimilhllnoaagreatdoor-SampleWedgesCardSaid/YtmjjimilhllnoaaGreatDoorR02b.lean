/- What functions of cohesionref02 return: Has, Valid, put, Of. -/
import Derived.Test.YtmjjimilhllnoaaGreatDoorUseM
import Derived.Test.YtmjjimilhllnoaaGreatDoorCfS
import Derived.Test.YtmjjimilhllnoaaGreatDoorRunX
import Derived.Test.YtmjjimilhllnoaaGreatDoorSpc
set_option linter.unusedSimpArgs false
set_option linter.unusedVariables false
set_option maxRecDepth 100000
namespace Go.BmP
open Go.Am Go.Bm
theorem has_loop (x : Int) (l : List Int) (hl : l.length < 4294967297) : ∀ n i : Nat, i + n = l.length -> codeL cfgS 0 (.loop lQb6X0) ⟨[(1, .int .i64 x), (7, .list 1 (ints l)), (8, .int .i64 l.length), (9, .int .i64 i)], []⟩ =
  if x ∈ l.drop i then some (.ret, ⟨[(4, .bool true)], []⟩) else some (.exit 0, ⟨[(1, .int .i64 x), (7, .list 1 (ints l)), (8, .int .i64 l.length), (9, .int .i64 l.length), (10, .bool false)], []⟩)
 | 0, i, hi => by
   have e : i = l.length := by omega
   subst e
   rw [List.drop_length]
   exact loop_exit (by unfold lQb6X0; simp [rQb6X0, rQb6X1, rQb6X2, rQb6X3, rQb6X4, rQb6X5, rQb6X6, rQb6X7])
 | n + 1, i, hi => by
   have hlt : i < l.length := by omega
   have h1 : (i : Int) < l.length := by omega
   have ih := has_loop x l hl n (i + 1) (by omega)
   have hw := wrapS (i := i) (by omega)
   rw [List.drop_eq_getElem_cons hlt]
   by_cases hx : l[i] = x
   ·rw [if_pos (by simp [hx])]
    exact loop_ret (by unfold lQb6X0; simp [rQb6X0, rQb6X1, rQb6X2, rQb6X3, rQb6X4, rQb6X5, rQb6X6, rQb6X7, h1, hlt, hx, ints_length, ints_get, intsAt, idx])
   ·have hx2 : ¬ x = l[i] := fun e => hx e.symm
    simp only [List.mem_cons, hx2, false_or]
    exact (loop_next (by unfold lQb6X0; simp [rQb6X0, rQb6X1, rQb6X2, rQb6X3, rQb6X4, rQb6X5, rQb6X6, rQb6X7, h1, hlt, hx, hw, ints_length, ints_get, intsAt, idx])).trans ih
theorem has_run (x : Int) (l : List Int) (hl : l.length < 4294967297) : callL cfgS nQb6 [.list 1 (ints l), .int .i64 x] [] = some (.bool (decide (x ∈ l)), []) := by
 rw [callL_end oQb6 sQb6 (Nat.le_of_ble_eq_true rfl)]
 have h := has_loop x l hl l.length 0 (by omega)
 rw [nat0, List.drop_zero] at h
 unfold qQb6 cQb6
 by_cases hx : x ∈ l
 ·simp [rQb6X0, rQb6X1, rQb6X2, rQb6X3, rQb6X4, rQb6X5, rQb6X6, rQb6X7, h, hx, ints_length, endL, finB]
 ·simp [rQb6X0, rQb6X1, rQb6X2, rQb6X3, rQb6X4, rQb6X5, rQb6X6, rQb6X7, h, hx, ints_length, endL, finB]
theorem put_loop (x : Int) (l : List Int) (hl : l.length < 4294967296) : ∀ n i : Nat, i + n = l.length -> codeL cfgS 0 (.loop lQa0X0) ⟨[(0, .list 1 (ints l)), (1, .int .i64 x), (5, .int .i64 i)], []⟩ =
  some (.exit 0, ⟨[(0, .list 1 (ints l)), (1, .int .i64 x), (5, .int .i64 (i + pos x (l.drop i) : Nat)), (18, .bool false)], []⟩)
 | 0, i, hi => by
   have e : i = l.length := by omega
   subst e
   rw [List.drop_length]
   exact loop_exit (by unfold lQa0X0; simp [rQa0X0, rQa0X1, rQa0X2, rQa0X3, rQa0X4, rQa0X5, rQa0X6, rQa0X7, pos, ints_length, idx])
 | n + 1, i, hi => by
   have hlt : i < l.length := by omega
   have h1 : (i : Int) < l.length := by omega
   have ih := put_loop x l hl n (i + 1) (by omega)
   have hw := wrapS (i := i) (by omega)
   rw [List.drop_eq_getElem_cons hlt]
   unfold pos
   by_cases hx : l[i] < x
   ·have e : i + (pos x (l.drop (i + 1)) + 1) = i + 1 + pos x (l.drop (i + 1)) := by omega
    rw [if_pos hx, e]
    exact (loop_next (by unfold lQa0X0; simp [rQa0X0, rQa0X1, rQa0X2, rQa0X3, rQa0X4, rQa0X5, rQa0X6, rQa0X7, h1, hlt, hx, hw, ints_length, ints_get, intsAt, idx])).trans ih
   ·rw [if_neg hx]
    exact loop_exit (by unfold lQa0X0; simp [rQa0X0, rQa0X1, rQa0X2, rQa0X3, rQa0X4, rQa0X5, rQa0X6, rQa0X7, h1, hlt, hx, ints_length, ints_get, intsAt, idx])
end Go.BmP
