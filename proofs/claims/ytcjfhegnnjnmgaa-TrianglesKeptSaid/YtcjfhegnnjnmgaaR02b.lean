/- What functions of cohesionref02 return: Has, Valid, put, Of. -/
import Derived.Test.YtcjfhegnnjnmgaaUseM
import Derived.Test.YtcjfhegnnjnmgaaCfS
import Derived.Test.YtcjfhegnnjnmgaaRunX
import Derived.Test.YtcjfhegnnjnmgaaSpc
set_option linter.unusedSimpArgs false
set_option linter.unusedVariables false
set_option maxRecDepth 100000
namespace Go.BmP
open Go.Am Go.Bm
theorem has_loop (x : Int) (l : List Int) (hl : l.length < 4294967297) : ∀ n i : Nat, i + n = l.length -> codeL cfgS 0 (.loop lRef02HasX0) ⟨[(1, .int .i64 x), (7, .list 1 (ints l)), (8, .int .i64 l.length), (9, .int .i64 i)], []⟩ =
  if x ∈ l.drop i then some (.ret, ⟨[(4, .bool true)], []⟩) else some (.exit 0, ⟨[(1, .int .i64 x), (7, .list 1 (ints l)), (8, .int .i64 l.length), (9, .int .i64 l.length), (10, .bool false)], []⟩)
 | 0, i, hi => by
   have e : i = l.length := by omega
   subst e
   rw [List.drop_length]
   exact loop_exit (by unfold lRef02HasX0; simp [rRef02HasX0, rRef02HasX1, rRef02HasX2, rRef02HasX3, rRef02HasX4, rRef02HasX5, rRef02HasX6, rRef02HasX7])
 | n + 1, i, hi => by
   have hlt : i < l.length := by omega
   have h1 : (i : Int) < l.length := by omega
   have ih := has_loop x l hl n (i + 1) (by omega)
   have hw := wrapS (i := i) (by omega)
   rw [List.drop_eq_getElem_cons hlt]
   by_cases hx : l[i] = x
   ·rw [if_pos (by simp [hx])]
    exact loop_ret (by unfold lRef02HasX0; simp [rRef02HasX0, rRef02HasX1, rRef02HasX2, rRef02HasX3, rRef02HasX4, rRef02HasX5, rRef02HasX6, rRef02HasX7, h1, hlt, hx, ints_length, ints_get, intsAt, idx])
   ·have hx2 : ¬ x = l[i] := fun e => hx e.symm
    simp only [List.mem_cons, hx2, false_or]
    exact (loop_next (by unfold lRef02HasX0; simp [rRef02HasX0, rRef02HasX1, rRef02HasX2, rRef02HasX3, rRef02HasX4, rRef02HasX5, rRef02HasX6, rRef02HasX7, h1, hlt, hx, hw, ints_length, ints_get, intsAt, idx])).trans ih
theorem has_run (x : Int) (l : List Int) (hl : l.length < 4294967297) : callL cfgS nRef02Has [.list 1 (ints l), .int .i64 x] [] = some (.bool (decide (x ∈ l)), []) := by
 rw [callL_end oRef02Has sRef02Has (Nat.le_of_ble_eq_true rfl)]
 have h := has_loop x l hl l.length 0 (by omega)
 rw [nat0, List.drop_zero] at h
 unfold qRef02Has cRef02Has
 by_cases hx : x ∈ l
 ·simp [rRef02HasX0, rRef02HasX1, rRef02HasX2, rRef02HasX3, rRef02HasX4, rRef02HasX5, rRef02HasX6, rRef02HasX7, h, hx, ints_length, endL, finB]
 ·simp [rRef02HasX0, rRef02HasX1, rRef02HasX2, rRef02HasX3, rRef02HasX4, rRef02HasX5, rRef02HasX6, rRef02HasX7, h, hx, ints_length, endL, finB]
theorem put_loop (x : Int) (l : List Int) (hl : l.length < 4294967296) : ∀ n i : Nat, i + n = l.length -> codeL cfgS 0 (.loop lRef02PutX0) ⟨[(0, .list 1 (ints l)), (1, .int .i64 x), (5, .int .i64 i)], []⟩ =
  some (.exit 0, ⟨[(0, .list 1 (ints l)), (1, .int .i64 x), (5, .int .i64 (i + pos x (l.drop i) : Nat)), (18, .bool false)], []⟩)
 | 0, i, hi => by
   have e : i = l.length := by omega
   subst e
   rw [List.drop_length]
   exact loop_exit (by unfold lRef02PutX0; simp [rRef02PutX0, rRef02PutX1, rRef02PutX2, rRef02PutX3, rRef02PutX4, rRef02PutX5, rRef02PutX6, rRef02PutX7, pos, ints_length, idx])
 | n + 1, i, hi => by
   have hlt : i < l.length := by omega
   have h1 : (i : Int) < l.length := by omega
   have ih := put_loop x l hl n (i + 1) (by omega)
   have hw := wrapS (i := i) (by omega)
   rw [List.drop_eq_getElem_cons hlt]
   unfold pos
   by_cases hx : l[i] < x
   ·have e : i + (pos x (l.drop (i + 1)) + 1) = i + 1 + pos x (l.drop (i + 1)) := by omega
    rw [if_pos hx, e]
    exact (loop_next (by unfold lRef02PutX0; simp [rRef02PutX0, rRef02PutX1, rRef02PutX2, rRef02PutX3, rRef02PutX4, rRef02PutX5, rRef02PutX6, rRef02PutX7, h1, hlt, hx, hw, ints_length, ints_get, intsAt, idx])).trans ih
   ·rw [if_neg hx]
    exact loop_exit (by unfold lRef02PutX0; simp [rRef02PutX0, rRef02PutX1, rRef02PutX2, rRef02PutX3, rRef02PutX4, rRef02PutX5, rRef02PutX6, rRef02PutX7, h1, hlt, hx, ints_length, ints_get, intsAt, idx])
end Go.BmP
