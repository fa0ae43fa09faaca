/- What functions of cohesionref03 return: Before, edge, ends, with, Of, Check. -/
import Derived.Test.YtldlafnfkiiflaaDoorUseM
import Derived.Test.YtldlafnfkiiflaaDoorCfS
import Derived.Test.YtldlafnfkiiflaaDoorGrfP
set_option linter.unusedSimpArgs false
set_option linter.unusedVariables false
set_option maxRecDepth 100000
set_option maxHeartbeats 4000000
namespace Go.BmP
open Go.Am Go.Bm
theorem before_run (a b : Ed) : callL cfgS nQA [.agg [.int .i64 a.1, .int .i64 a.2], .agg [.int .i64 b.1, .int .i64 b.2]] [] = some (.bool (decide (ltE a b)), []) := by
 rw [callL_end oQA sQA (Nat.le_of_ble_eq_true rfl)]
 unfold qQA cQA ltE
 by_cases h1 : a.1 < b.1
 ·simp [rQAX0, rQAX1, h1, blk, eds_length, eds_get, edsAt, edAV, allLeaf_eds, cleanL_eds, cleanL_ints, ints_length, ints_get, intsAt, endL, finB]
 ·by_cases h2 : a.1 = b.1
  ·by_cases h3 : a.2 < b.2
   ·simp [rQAX0, rQAX1, h1, h2, h3, blk, eds_length, eds_get, edsAt, edAV, allLeaf_eds, cleanL_eds, cleanL_ints, ints_length, ints_get, intsAt, endL, finB]
   ·simp [rQAX0, rQAX1, h1, h2, h3, blk, eds_length, eds_get, edsAt, edAV, allLeaf_eds, cleanL_eds, cleanL_ints, ints_length, ints_get, intsAt, endL, finB]
  ·simp [rQAX0, rQAX1, h1, h2, blk, eds_length, eds_get, edsAt, edAV, allLeaf_eds, cleanL_eds, cleanL_ints, ints_length, ints_get, intsAt, endL, finB]
theorem edge_run (u v : Int) : callL cfgS nQu [.int .i64 u, .int .i64 v] [] = some (.agg [.int .i64 (nrmE u v).1, .int .i64 (nrmE u v).2], []) := by
 rw [callL_end oQu sQu (Nat.le_of_ble_eq_true rfl)]
 unfold qQu cQu nrmE
 simp [rQuX0, rQuX1, blk, eds_length, eds_get, edsAt, edAV, allLeaf_eds, cleanL_eds, cleanL_ints, ints_length, ints_get, intsAt, endL, finB]
theorem ends_run (n u v : Int) : callL cfgS nQs [.int .i64 n, .int .i64 u, .int .i64 v] [] = some (.bool (decide (0 <= u /\ 0 <= v /\ u < n /\ v < n /\ u ≠ v)), []) := by
 rw [callL_end oQs sQs (Nat.le_of_ble_eq_true rfl)]
 unfold qQs cQs
 by_cases h1 : 0 <= u
 ·by_cases h2 : 0 <= v
  ·by_cases h3 : u < n
   ·by_cases h4 : v < n
    ·by_cases h5 : u = v
     ·subst h5
      simp [rQsX0, rQsX1, h1, h3, blk, eds_length, eds_get, edsAt, edAV, allLeaf_eds, cleanL_eds, cleanL_ints, ints_length, ints_get, intsAt, endL, finB]
     ·simp [rQsX0, rQsX1, h1, h2, h3, h4, h5, blk, eds_length, eds_get, edsAt, edAV, allLeaf_eds, cleanL_eds, cleanL_ints, ints_length, ints_get, intsAt, endL, finB]
    ·simp [rQsX0, rQsX1, h1, h2, h3, h4, blk, eds_length, eds_get, edsAt, edAV, allLeaf_eds, cleanL_eds, cleanL_ints, ints_length, ints_get, intsAt, endL, finB]
   ·simp [rQsX0, rQsX1, h1, h2, h3, blk, eds_length, eds_get, edsAt, edAV, allLeaf_eds, cleanL_eds, cleanL_ints, ints_length, ints_get, intsAt, endL, finB]
  ·simp [rQsX0, rQsX1, h1, h2, blk, eds_length, eds_get, edsAt, edAV, allLeaf_eds, cleanL_eds, cleanL_ints, ints_length, ints_get, intsAt, endL, finB]
 ·simp [rQsX0, rQsX1, h1, blk, eds_length, eds_get, edsAt, edAV, allLeaf_eds, cleanL_eds, cleanL_ints, ints_length, ints_get, intsAt, endL, finB]
theorem with_loop (x : Ed) (l : List Ed) (hl : l.length < 4294967296) : ∀ n i : Nat, i + n = l.length -> codeL cfgS 0 (.loop lQyX0) ⟨[(0, .list 2 (eds l)), (3, .ptr 0 0), (5, .int .i64 i)], [some [.int .i64 x.1, .int .i64 x.2]]⟩ =
  some (.exit 0, ⟨[(0, .list 2 (eds l)), (3, .ptr 0 0), (5, .int .i64 (i + posE x (l.drop i) : Nat)), (18, .bool false)], [some [.int .i64 x.1, .int .i64 x.2]]⟩)
 | 0, i, hi => by
   have e : i = l.length := by omega
   subst e
   rw [List.drop_length]
   exact loop_exit (by unfold lQyX0; simp [rQyX0, rQyX1, rQyX2, rQyX3, rQyX4, rQyX5, rQyX6, rQyX7, posE, idx, blk, eds_length, eds_get, edsAt, edAV, allLeaf_eds, cleanL_eds, cleanL_ints, ints_length, ints_get, intsAt, endL, finB])
 | n + 1, i, hi => by
   have hlt : i < l.length := by omega
   have h1 : (i : Int) < l.length := by omega
   have ih := with_loop x l hl n (i + 1) (by omega)
   have hw := wrapS (i := i) (by omega)
   have hb := before_run l[i] x
   rw [List.drop_eq_getElem_cons hlt]
   unfold posE
   by_cases hx : ltE l[i] x
   ·have e : i + (posE x (l.drop (i + 1)) + 1) = i + 1 + posE x (l.drop (i + 1)) := by omega
    rw [if_pos hx, e]
    exact (loop_next (by unfold lQyX0; simp [rQyX0, rQyX1, rQyX2, rQyX3, rQyX4, rQyX5, rQyX6, rQyX7, h1, hlt, hb, hx, hw, idx, sQA, iQA, blk, eds_length, eds_get, edsAt, edAV, allLeaf_eds, cleanL_eds, cleanL_ints, ints_length, ints_get, intsAt, endL, finB])).trans ih
   ·rw [if_neg hx]
    exact loop_exit (by unfold lQyX0; simp [rQyX0, rQyX1, rQyX2, rQyX3, rQyX4, rQyX5, rQyX6, rQyX7, h1, hlt, hb, hx, idx, sQA, iQA, blk, eds_length, eds_get, edsAt, edAV, allLeaf_eds, cleanL_eds, cleanL_ints, ints_length, ints_get, intsAt, endL, finB])
theorem with_run (x : Ed) (l : List Ed) (hl : l.length < 4294967295) : callL cfgS nQy [.list 2 (eds l), .agg [.int .i64 x.1, .int .i64 x.2]] [] = some (.list 2 (eds (putE x l)), []) := by
 rw [callL_end oQy sQy (Nat.le_of_ble_eq_true rfl), putE_pos]
 have h := with_loop x l (by omega) l.length 0 (by omega)
 rw [nat0, List.drop_zero, Nat.zero_add] at h
 have hp := posE_le x l
 generalize posE x l = p at h hp ⊢
 have hq : (p : Int) <= l.length := by omega
 have hm : min p l.length = p := by omega
 have hL1 : p <= 4294967296 := by omega
 have hL2 : p + 1 <= 4294967296 := by omega
 have hL3 : p + 1 + (l.length - p) <= 4294967296 := by omega
 unfold qQy cQy
 by_cases hlt : p < l.length
 ·have h1 : (p : Int) < l.length := by omega
  by_cases hx : l[p] = x
  ·have hx1 : l[p].1 = x.1 := by rw [hx]
   have hx2 : l[p].2 = x.2 := by rw [hx]
   rw [if_pos (by rw [List.getElem?_eq_getElem hlt, hx])]
   simp [rQyX0, rQyX1, rQyX2, rQyX3, rQyX4, rQyX5, rQyX6, rQyX7, h, h1, hlt, hx1, hx2, idx, blk, eds_length, eds_get, edsAt, edAV, allLeaf_eds, cleanL_eds, cleanL_ints, ints_length, ints_get, intsAt, endL, finB]
  ·rw [if_neg (by rw [List.getElem?_eq_getElem hlt]; simpa using hx)]
   by_cases hx1 : l[p].1 = x.1
   ·have hx2 : ¬ l[p].2 = x.2 := fun e => hx (Prod.ext hx1 e)
    simp [rQyX0, rQyX1, rQyX2, rQyX3, rQyX4, rQyX5, rQyX6, rQyX7, h, h1, hlt, hx1, hx2, hp, hq, hm, hL1, hL2, hL3, idx, eds_take, eds_drop, eds_snoc, eds_app, LIM, List.length_take, List.length_drop, blk, eds_length, eds_get, edsAt, edAV, allLeaf_eds, cleanL_eds, cleanL_ints, ints_length, ints_get, intsAt, endL, finB]
    simp (disch := (simp only [List.length_take, List.length_append, List.length_drop, List.length_singleton, List.length_cons, List.length_nil] <;> omega)) only [List.take_of_length_le, List.take_take, Nat.min_self, List.append_assoc, List.singleton_append]
   ·simp [rQyX0, rQyX1, rQyX2, rQyX3, rQyX4, rQyX5, rQyX6, rQyX7, h, h1, hlt, hx1, hp, hq, hm, hL1, hL2, hL3, idx, eds_take, eds_drop, eds_snoc, eds_app, LIM, List.length_take, List.length_drop, blk, eds_length, eds_get, edsAt, edAV, allLeaf_eds, cleanL_eds, cleanL_ints, ints_length, ints_get, intsAt, endL, finB]
    simp (disch := (simp only [List.length_take, List.length_append, List.length_drop, List.length_singleton, List.length_cons, List.length_nil] <;> omega)) only [List.take_of_length_le, List.take_take, Nat.min_self, List.append_assoc, List.singleton_append]
 ·have h1 : ¬ (p : Int) < l.length := by omega
  rw [if_neg (by rw [List.getElem?_eq_none (by omega)]; simp)]
  simp [rQyX0, rQyX1, rQyX2, rQyX3, rQyX4, rQyX5, rQyX6, rQyX7, h, h1, hlt, hp, hq, hm, hL1, hL2, hL3, idx, eds_take, eds_drop, eds_snoc, eds_app, LIM, List.length_take, List.length_drop, blk, eds_length, eds_get, edsAt, edAV, allLeaf_eds, cleanL_eds, cleanL_ints, ints_length, ints_get, intsAt, endL, finB]
  simp (disch := (simp only [List.length_take, List.length_append, List.length_drop, List.length_singleton, List.length_cons, List.length_nil] <;> omega)) only [List.take_of_length_le, List.take_take, Nat.min_self, List.append_assoc, List.singleton_append]
end Go.BmP
