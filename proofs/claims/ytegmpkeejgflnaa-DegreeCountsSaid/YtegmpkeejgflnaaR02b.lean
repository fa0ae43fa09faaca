/- What functions of cohesionref02 return: Has, Valid, put, Of. -/
import Derived.Test.YtegmpkeejgflnaaUseM
import Derived.Test.YtegmpkeejgflnaaCfS
import Derived.Test.YtegmpkeejgflnaaRunX
import Derived.Test.YtegmpkeejgflnaaSpc
set_option linter.unusedSimpArgs false
set_option linter.unusedVariables false
set_option maxRecDepth 100000
namespace Go.BmP
open Go.Am Go.Bm
theorem put_loop (x : Int) (l : List Int) (hl : l.length < 4294967296) : ∀ n i : Nat, i + n = l.length -> codeL cfgS 0 (.loop lQJX0) ⟨[(0, .list 1 (ints l)), (1, .int .i64 x), (5, .int .i64 i)], []⟩ =
  some (.exit 0, ⟨[(0, .list 1 (ints l)), (1, .int .i64 x), (5, .int .i64 (i + pos x (l.drop i) : Nat)), (18, .bool false)], []⟩)
 | 0, i, hi => by
   have e : i = l.length := by omega
   subst e
   rw [List.drop_length]
   exact loop_exit (by unfold lQJX0; simp [rQJX0, rQJX1, rQJX2, rQJX3, rQJX4, rQJX5, rQJX6, rQJX7, pos, ints_length, idx])
 | n + 1, i, hi => by
   have hlt : i < l.length := by omega
   have h1 : (i : Int) < l.length := by omega
   have ih := put_loop x l hl n (i + 1) (by omega)
   have hw := wrapS (i := i) (by omega)
   rw [List.drop_eq_getElem_cons hlt]
   unfold pos
   by_cases hx : l[i] < x
   ·have e : i + (pos x (l.drop (i + 1)) + 1) = i + 1 + pos x (l.drop (i + 1)) := by omega
    rw [if_pos hx, e]
    exact (loop_next (by unfold lQJX0; simp [rQJX0, rQJX1, rQJX2, rQJX3, rQJX4, rQJX5, rQJX6, rQJX7, h1, hlt, hx, hw, ints_length, ints_get, intsAt, idx])).trans ih
   ·rw [if_neg hx]
    exact loop_exit (by unfold lQJX0; simp [rQJX0, rQJX1, rQJX2, rQJX3, rQJX4, rQJX5, rQJX6, rQJX7, h1, hlt, hx, ints_length, ints_get, intsAt, idx])
end Go.BmP
