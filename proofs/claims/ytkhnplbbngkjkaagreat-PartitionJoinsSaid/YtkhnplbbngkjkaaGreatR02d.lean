/- What comparisons return; nodeset.Valid, Has, Cmp, Range. -/
import Derived.Test.YtkhnplbbngkjkaaGreatUseM
import Derived.Test.YtkhnplbbngkjkaaGreatR02c
set_option linter.unusedSimpArgs false
set_option linter.unusedVariables false
set_option maxRecDepth 100000
namespace Go.BmP
open Go.Am Go.Bm
def cmpGo : List Int -> List Int -> Option Int
 | [], _ => none
 | _ :: _, [] => some 1
 | x :: r, y :: s => if y < x then some 1 else if x < y then some (-1) else cmpGo r s
theorem nvalid_loop (m : Int) (l : List Int) (hl : l.length < 4294967297) : ∀ n i : Nat, i + n = l.length -> codeL cfgS 0 (.loop lQTX0) ⟨[(0, .list 1 (ints l)), (1, .int .i64 m), (7, .list 1 (ints l)), (8, .int .i64 l.length), (9, .int .i64 i)], []⟩ =
  if valGo m (prev l i) (l.drop i) = true then some (.exit 0, ⟨[(0, .list 1 (ints l)), (1, .int .i64 m), (7, .list 1 (ints l)), (8, .int .i64 l.length), (9, .int .i64 l.length), (10, .bool false)], []⟩) else some (.ret, ⟨[(4, .bool false)], []⟩)
 | 0, i, hi => by
   have e : i = l.length := by omega
   subst e
   rw [List.drop_length]
   exact loop_exit (by unfold lQTX0; simp [rQTX0, rQTX1, rQTX2, rQTX3, rQTX4, rQTX5, rQTX6, rQTX7])
 | n + 1, i, hi => by
   have hlt : i < l.length := by omega
   have h1 : (i : Int) < l.length := by omega
   have ih := nvalid_loop m l hl n (i + 1) (by omega)
   have hw := wrapS (i := i) (by omega)
   rw [prev_succ l i hlt] at ih
   rw [List.drop_eq_getElem_cons hlt]
   unfold valGo
   by_cases ha : l[i] < 0
   ·have ha' : ¬ 0 <= l[i] := by omega
    simp only [ha', decide_false, Bool.false_and, Bool.false_eq_true, if_false]
    exact loop_ret (by unfold lQTX0; simp [rQTX0, rQTX1, rQTX2, rQTX3, rQTX4, rQTX5, rQTX6, rQTX7, h1, hlt, ha, ints_length, ints_get, intsAt, idx])
   have ha' : 0 <= l[i] := by omega
   by_cases hb : m <= l[i]
   ·have hb' : ¬ l[i] < m := by omega
    simp only [ha', hb', decide_true, decide_false, Bool.false_and, Bool.true_and, Bool.false_eq_true, if_false]
    exact loop_ret (by unfold lQTX0; simp [rQTX0, rQTX1, rQTX2, rQTX3, rQTX4, rQTX5, rQTX6, rQTX7, h1, hlt, ha, hb, ints_length, ints_get, intsAt, idx])
   have hb' : l[i] < m := by omega
   by_cases hc : prev l i < l[i]
   ·simp only [ha', hb', hc, decide_true, Bool.true_and]
    cases i with
    | zero => exact (loop_next (by unfold lQTX0; simp [rQTX0, rQTX1, rQTX2, rQTX3, rQTX4, rQTX5, rQTX6, rQTX7, h1, hlt, ha, hb, hw, ints_length, ints_get, intsAt, idx])).trans ih
    | succ j =>
      rw [prev_succ l j (by omega)] at hc
      have hj : j < l.length := by omega
      have hj1 : (j : Int) < l.length := by omega
      have hc' : ¬ l[j + 1] <= l[j] := by omega
      have hp : (0 : Int) < (j : Int) + 1 := by omega
      have hp0 : (0 : Int) <= (j : Int) + 1 := by omega
      have hw2 := wrapN (i := j) (by omega)
      have h1 : (j : Int) + 1 < l.length := by omega
      have hw : IntKind.i64.wrap ((j : Int) + 1 + 1) = (j : Int) + 1 + 1 := wrapZ (j := j + 1 + 1) rfl (by omega)
      exact (loop_next (by unfold lQTX0; simp [rQTX0, rQTX1, rQTX2, rQTX3, rQTX4, rQTX5, rQTX6, rQTX7, h1, hlt, ha, hb, hc', hj, hj1, hp, hp0, hw, hw2, ints_length, ints_get, intsAt, idx])).trans ih
   ·simp only [ha', hb', hc, decide_true, decide_false, Bool.false_and, Bool.true_and, Bool.false_eq_true, if_false]
    cases i with
    | zero => exact absurd (show prev l 0 < l[0] by rw [prev_zero]; omega) hc
    | succ j =>
      rw [prev_succ l j (by omega)] at hc
      have hj : j < l.length := by omega
      have hj1 : (j : Int) < l.length := by omega
      have hc' : l[j + 1] <= l[j] := by omega
      have hp : (0 : Int) < (j : Int) + 1 := by omega
      have hp0 : (0 : Int) <= (j : Int) + 1 := by omega
      have hw2 := wrapN (i := j) (by omega)
      have h1 : (j : Int) + 1 < l.length := by omega
      have hw : IntKind.i64.wrap ((j : Int) + 1 + 1) = (j : Int) + 1 + 1 := wrapZ (j := j + 1 + 1) rfl (by omega)
      exact loop_ret (by unfold lQTX0; simp [rQTX0, rQTX1, rQTX2, rQTX3, rQTX4, rQTX5, rQTX6, rQTX7, h1, hlt, ha, hb, hc', hj, hj1, hp, hp0, hw, hw2, ints_length, ints_get, intsAt, idx])
theorem nvalid_run (m : Int) (l : List Int) (hl : l.length < 4294967297) : callL cfgS nQT [.list 1 (ints l), .int .i64 m] [] = some (.bool (valGo m (-1) l), []) := by
 rw [callL_end oQT sQT (Nat.le_of_ble_eq_true rfl)]
 have h := nvalid_loop m l hl l.length 0 (by omega)
 rw [nat0, prev_zero, List.drop_zero] at h
 unfold qQT cQT
 by_cases hx : valGo m (-1) l = true
 ·simp [rQTX0, rQTX1, rQTX2, rQTX3, rQTX4, rQTX5, rQTX6, rQTX7, h, hx, ints_length, endL, finB]
 ·simp [rQTX0, rQTX1, rQTX2, rQTX3, rQTX4, rQTX5, rQTX6, rQTX7, h, hx, ints_length, endL, finB]
theorem nan_run (x : Int) : callL cfgS nQX [.int .i64 x] [] = some (.bool false, []) := by
 rw [callL_end oQX sQX (Nat.le_of_ble_eq_true rfl)]
 unfold qQX cQX
 simp [rQXX0, rQXX1, endL, finB]
def cmpI (x y : Int) : Int := if x < y then -1 else if y < x then 1 else 0
theorem cmpI_run (x y : Int) : callL cfgS nQD [.int .i64 x, .int .i64 y] [] = some (.int .i64 (cmpI x y), []) := by
 rw [callL_end oQD sQD (Nat.le_of_ble_eq_true rfl)]
 have hx := nan_run x
 have hy := nan_run y
 unfold qQD cQD cmpI
 by_cases h1 : x < y
 ·simp [rQDX0, rQDX1, rQDX2, rQDX3, rQDX4, rQDX5, rQDX6, rQDX7, rQDX8, rQDX9, rQDX10, rQDX11, rQDX12, rQDX13, hx, hy, h1, sQX, iQX, eQX, endL, finB]
 ·by_cases h2 : y < x
  ·simp [rQDX0, rQDX1, rQDX2, rQDX3, rQDX4, rQDX5, rQDX6, rQDX7, rQDX8, rQDX9, rQDX10, rQDX11, rQDX12, rQDX13, hx, hy, h1, h2, sQX, iQX, eQX, endL, finB]
  ·simp [rQDX0, rQDX1, rQDX2, rQDX3, rQDX4, rQDX5, rQDX6, rQDX7, rQDX8, rQDX9, rQDX10, rQDX11, rQDX12, rQDX13, hx, hy, h1, h2, sQX, iQX, eQX, endL, finB]
theorem index_loop (x : Int) (l : List Int) (hl : l.length < 4294967297) : ∀ n i : Nat, i + n = l.length -> codeL cfgS 0 (.loop lQ6X0) ⟨[(0, .list 1 (ints l)), (1, .int .i64 x), (7, .int .i64 l.length), (8, .int .i64 i)], []⟩ =
  if x ∈ l.drop i then some (.ret, ⟨[(4, .int .i64 (i + (l.drop i).idxOf x : Nat))], []⟩) else some (.exit 0, ⟨[(0, .list 1 (ints l)), (1, .int .i64 x), (7, .int .i64 l.length), (8, .int .i64 l.length), (9, .bool false)], []⟩)
 | 0, i, hi => by
   have e : i = l.length := by omega
   subst e
   rw [List.drop_length, if_neg (by simp)]
   exact loop_exit (by unfold lQ6X0; simp [rQ6X0, rQ6X1, rQ6X2, rQ6X3, rQ6X4, rQ6X5, rQ6X6, rQ6X7])
 | n + 1, i, hi => by
   have hlt : i < l.length := by omega
   have h1 : (i : Int) < l.length := by omega
   have ih := index_loop x l hl n (i + 1) (by omega)
   have hw := wrapS (i := i) (by omega)
   rw [List.drop_eq_getElem_cons hlt]
   by_cases hx : x = l[i]
   ·rw [if_pos (by rw [hx]; exact List.mem_cons_self), show (l[i] :: l.drop (i + 1)).idxOf x = 0 by rw [hx]; exact List.idxOf_cons_self]
    exact loop_ret (by unfold lQ6X0; simp [rQ6X0, rQ6X1, rQ6X2, rQ6X3, rQ6X4, rQ6X5, rQ6X6, rQ6X7, h1, hlt, hx, ints_length, ints_get, intsAt, idx])
   ·have hx2 : ¬ l[i] = x := fun e => hx e.symm
    rw [show (l[i] :: l.drop (i + 1)).idxOf x = (l.drop (i + 1)).idxOf x + 1 by simp only [List.idxOf_cons]; rw [show (l[i] == x) = false by simpa using hx2]; rfl, show i + ((l.drop (i + 1)).idxOf x + 1) = i + 1 + (l.drop (i + 1)).idxOf x by omega]
    simp only [List.mem_cons, hx, false_or]
    exact (loop_next (by unfold lQ6X0; simp [rQ6X0, rQ6X1, rQ6X2, rQ6X3, rQ6X4, rQ6X5, rQ6X6, rQ6X7, h1, hlt, hx, hw, ints_length, ints_get, intsAt, idx])).trans ih
theorem index_run (x : Int) (l : List Int) (hl : l.length < 4294967297) : callL cfgS nQ6 [.list 1 (ints l), .int .i64 x] [] = some (.int .i64 (if x ∈ l then (l.idxOf x : Int) else -1), []) := by
 rw [callL_end oQ6 sQ6 (Nat.le_of_ble_eq_true rfl)]
 have h := index_loop x l hl l.length 0 (by omega)
 rw [nat0, List.drop_zero, Nat.zero_add] at h
 unfold qQ6 cQ6
 by_cases hx : x ∈ l
 ·rw [if_pos hx] at h
  simp [rQ6X0, rQ6X1, rQ6X2, rQ6X3, rQ6X4, rQ6X5, rQ6X6, rQ6X7, h, hx, ints_length, endL, finB]
 ·rw [if_neg hx] at h
  simp [rQ6X0, rQ6X1, rQ6X2, rQ6X3, rQ6X4, rQ6X5, rQ6X6, rQ6X7, h, hx, ints_length, endL, finB]
theorem contains_run (x : Int) (l : List Int) (hl : l.length < 4294967297) : callL cfgS nQ0 [.list 1 (ints l), .int .i64 x] [] = some (.bool (decide (x ∈ l)), []) := by
 rw [callL_end oQ0 sQ0 (Nat.le_of_ble_eq_true rfl)]
 have h := index_run x l hl
 unfold qQ0 cQ0
 by_cases hx : x ∈ l
 ·rw [if_pos hx] at h
  have h0 : (0 : Int) <= (l.idxOf x : Int) := by omega
  simp [rQ0X0, rQ0X1, h, h0, hx, sQ6, iQ6, eQ6, endL, finB]
 ·rw [if_neg hx] at h
  simp [rQ0X0, rQ0X1, h, hx, sQ6, iQ6, eQ6, endL, finB]
theorem nhas_run (x : Int) (l : List Int) (hl : l.length < 4294967297) : callL cfgS nQO [.list 1 (ints l), .int .i64 x] [] = some (.bool (decide (x ∈ l)), []) := by
 rw [callL_end oQO sQO (Nat.le_of_ble_eq_true rfl)]
 have h := contains_run x l hl
 unfold qQO cQO
 simp [rQOX0, rQOX1, h, sQ0, iQ0, eQ0, endL, finB]
end Go.BmP
