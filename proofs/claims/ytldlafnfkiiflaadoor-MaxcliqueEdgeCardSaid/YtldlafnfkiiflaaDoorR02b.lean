/- What functions of cohesionref02 return: Has, Valid, put, Of. -/
import Derived.Test.YtldlafnfkiiflaaDoorUseM
import Derived.Test.YtldlafnfkiiflaaDoorCfS
import Derived.Test.YtldlafnfkiiflaaDoorRunX
import Derived.Test.YtldlafnfkiiflaaDoorSpc
set_option linter.unusedSimpArgs false
set_option linter.unusedVariables false
set_option maxRecDepth 100000
namespace Go.BmP
open Go.Am Go.Bm
theorem has_loop (x : Int) (l : List Int) (hl : l.length < 4294967297) : ∀ n i : Nat, i + n = l.length -> codeL cfgS 0 (.loop lQfX0) ⟨[(1, .int .i64 x), (7, .list 1 (ints l)), (8, .int .i64 l.length), (9, .int .i64 i)], []⟩ =
  if x ∈ l.drop i then some (.ret, ⟨[(4, .bool true)], []⟩) else some (.exit 0, ⟨[(1, .int .i64 x), (7, .list 1 (ints l)), (8, .int .i64 l.length), (9, .int .i64 l.length), (10, .bool false)], []⟩)
 | 0, i, hi => by
   have e : i = l.length := by omega
   subst e
   rw [List.drop_length]
   exact loop_exit (by unfold lQfX0; simp [rQfX0, rQfX1, rQfX2, rQfX3, rQfX4, rQfX5, rQfX6, rQfX7])
 | n + 1, i, hi => by
   have hlt : i < l.length := by omega
   have h1 : (i : Int) < l.length := by omega
   have ih := has_loop x l hl n (i + 1) (by omega)
   have hw := wrapS (i := i) (by omega)
   rw [List.drop_eq_getElem_cons hlt]
   by_cases hx : l[i] = x
   ·rw [if_pos (by simp [hx])]
    exact loop_ret (by unfold lQfX0; simp [rQfX0, rQfX1, rQfX2, rQfX3, rQfX4, rQfX5, rQfX6, rQfX7, h1, hlt, hx, ints_length, ints_get, intsAt, idx])
   ·have hx2 : ¬ x = l[i] := fun e => hx e.symm
    simp only [List.mem_cons, hx2, false_or]
    exact (loop_next (by unfold lQfX0; simp [rQfX0, rQfX1, rQfX2, rQfX3, rQfX4, rQfX5, rQfX6, rQfX7, h1, hlt, hx, hw, ints_length, ints_get, intsAt, idx])).trans ih
theorem has_run (x : Int) (l : List Int) (hl : l.length < 4294967297) : callL cfgS nQf [.list 1 (ints l), .int .i64 x] [] = some (.bool (decide (x ∈ l)), []) := by
 rw [callL_end oQf sQf (Nat.le_of_ble_eq_true rfl)]
 have h := has_loop x l hl l.length 0 (by omega)
 rw [nat0, List.drop_zero] at h
 unfold qQf cQf
 by_cases hx : x ∈ l
 ·simp [rQfX0, rQfX1, rQfX2, rQfX3, rQfX4, rQfX5, rQfX6, rQfX7, h, hx, ints_length, endL, finB]
 ·simp [rQfX0, rQfX1, rQfX2, rQfX3, rQfX4, rQfX5, rQfX6, rQfX7, h, hx, ints_length, endL, finB]
end Go.BmP
