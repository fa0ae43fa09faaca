/- What comparisons return; nodeset.Valid, Has, Cmp, Range. -/
import Derived.Test.YtkhnplbbngkjkaaUseM
import Derived.Test.YtkhnplbbngkjkaaR02c
set_option linter.unusedSimpArgs false
set_option linter.unusedVariables false
set_option maxRecDepth 100000
namespace Go.BmP
open Go.Am Go.Bm
def cmpGo : List Int -> List Int -> Option Int
 | [], _ => none
 | _ :: _, [] => some 1
 | x :: r, y :: s => if y < x then some 1 else if x < y then some (-1) else cmpGo r s
theorem cmpL_go : ∀ a b : List Int, cmpL a b = (cmpGo a b).getD (if a.length < b.length then -1 else 0)
 | [], [] => rfl
 | [], _ :: _ => by simp [cmpL, cmpGo]
 | _ :: _, [] => rfl
 | x :: r, y :: s => by
   have ih := cmpL_go r s
   unfold cmpL cmpGo
   split
   ·rfl
   ·split
    ·rfl
    ·rw [ih]; simp
theorem cmp_loop (a b : List Int) (hl : a.length < 4294967295) (hb : b.length < 4294967295) : ∀ (n i : Nat), i + n = a.length -> codeL cfgS 0 (.loop lQjX0) ⟨[(0, .list 1 (ints a)), (1, .list 1 (ints b)), (7, .int .i64 a.length), (8, .int .i64 i)], []⟩ =
  match cmpGo (a.drop i) (b.drop i) with
  | some v => some (.ret, ⟨[(4, .int .i64 v)], []⟩)
  | none => some (.exit 0, ⟨[(0, .list 1 (ints a)), (1, .list 1 (ints b)), (7, .int .i64 a.length), (8, .int .i64 a.length), (9, .bool false)], []⟩)
 | 0, i, hi => by
   have e : i = a.length := by omega
   subst e
   rw [List.drop_length]
   unfold cmpGo
   exact loop_exit (by unfold lQjX0; simp [rQjX0, rQjX1, rQjX2, rQjX3, rQjX4, rQjX5, rQjX6, rQjX7, rQjX8, rQjX9, rQjX10, rQjX11])
 | n + 1, i, hi => by
   have hlt : i < a.length := by omega
   have h1 : (i : Int) < a.length := by omega
   have hw := wrapS (i := i) (by omega)
   have ih := cmp_loop a b hl hb n (i + 1) (by omega)
   rw [List.drop_eq_getElem_cons hlt]
   by_cases hk : i < b.length
   ·have h2 : (i : Int) < b.length := by omega
    have h2' : ¬ (b.length : Int) <= i := by omega
    rw [List.drop_eq_getElem_cons hk]
    unfold cmpGo
    by_cases hg : b[i] < a[i]
    ·rw [if_pos hg]
     exact loop_ret (by unfold lQjX0; simp [rQjX0, rQjX1, rQjX2, rQjX3, rQjX4, rQjX5, rQjX6, rQjX7, rQjX8, rQjX9, rQjX10, rQjX11, h1, hlt, h2, h2', hk, hg, ints_length, ints_get, intsAt, idx])
    ·rw [if_neg hg]
     by_cases hs : a[i] < b[i]
     ·rw [if_pos hs]
      exact loop_ret (by unfold lQjX0; simp [rQjX0, rQjX1, rQjX2, rQjX3, rQjX4, rQjX5, rQjX6, rQjX7, rQjX8, rQjX9, rQjX10, rQjX11, h1, hlt, h2, h2', hk, hg, hs, ints_length, ints_get, intsAt, idx])
     ·rw [if_neg hs]
      exact (loop_next (by unfold lQjX0; simp [rQjX0, rQjX1, rQjX2, rQjX3, rQjX4, rQjX5, rQjX6, rQjX7, rQjX8, rQjX9, rQjX10, rQjX11, h1, hlt, h2, h2', hk, hg, hs, hw, ints_length, ints_get, intsAt, idx])).trans ih
   ·have h2' : (b.length : Int) <= i := by omega
    have e0 : b.drop i = [] := List.drop_eq_nil_of_le (by omega)
    rw [e0]
    unfold cmpGo
    exact loop_ret (by unfold lQjX0; simp [rQjX0, rQjX1, rQjX2, rQjX3, rQjX4, rQjX5, rQjX6, rQjX7, rQjX8, rQjX9, rQjX10, rQjX11, h1, hlt, h2', hk, ints_length, ints_get, intsAt, idx])
theorem cmp_run (a b : List Int) (hl : a.length < 4294967295) (hb : b.length < 4294967295) : callL cfgS nQj [.list 1 (ints a), .list 1 (ints b)] [] = some (.int .i64 (cmpL a b), []) := by
 rw [callL_end oQj sQj (Nat.le_of_ble_eq_true rfl), cmpL_go]
 have h := cmp_loop a b hl hb a.length 0 (by omega)
 rw [nat0, List.drop_zero, List.drop_zero] at h
 unfold qQj cQj
 cases hx : cmpGo a b with
 | some v =>
   rw [hx] at h
   simp only at h
   rw [Option.getD_some]
   simp [rQjX0, rQjX1, rQjX2, rQjX3, rQjX4, rQjX5, rQjX6, rQjX7, rQjX8, rQjX9, rQjX10, rQjX11, h, ints_length, endL, finB]
 | none =>
   rw [hx] at h
   simp only at h
   rw [Option.getD_none]
   by_cases hlt : a.length < b.length
   ·have h1 : (a.length : Int) < b.length := by omega
    simp [rQjX0, rQjX1, rQjX2, rQjX3, rQjX4, rQjX5, rQjX6, rQjX7, rQjX8, rQjX9, rQjX10, rQjX11, h, hlt, h1, ints_length, endL, finB]
   ·have h1 : ¬ (a.length : Int) < b.length := by omega
    simp [rQjX0, rQjX1, rQjX2, rQjX3, rQjX4, rQjX5, rQjX6, rQjX7, rQjX8, rQjX9, rQjX10, rQjX11, h, hlt, h1, ints_length, endL, finB]
theorem nvalid_loop (m : Int) (l : List Int) (hl : l.length < 4294967297) : ∀ n i : Nat, i + n = l.length -> codeL cfgS 0 (.loop lQQX0) ⟨[(0, .list 1 (ints l)), (1, .int .i64 m), (7, .list 1 (ints l)), (8, .int .i64 l.length), (9, .int .i64 i)], []⟩ =
  if valGo m (prev l i) (l.drop i) = true then some (.exit 0, ⟨[(0, .list 1 (ints l)), (1, .int .i64 m), (7, .list 1 (ints l)), (8, .int .i64 l.length), (9, .int .i64 l.length), (10, .bool false)], []⟩) else some (.ret, ⟨[(4, .bool false)], []⟩)
 | 0, i, hi => by
   have e : i = l.length := by omega
   subst e
   rw [List.drop_length]
   exact loop_exit (by unfold lQQX0; simp [rQQX0, rQQX1, rQQX2, rQQX3, rQQX4, rQQX5, rQQX6, rQQX7])
 | n + 1, i, hi => by
   have hlt : i < l.length := by omega
   have h1 : (i : Int) < l.length := by omega
   have ih := nvalid_loop m l hl n (i + 1) (by omega)
   have hw := wrapS (i := i) (by omega)
   rw [prev_succ l i hlt] at ih
   rw [List.drop_eq_getElem_cons hlt]
   unfold valGo
   by_cases ha : l[i] < 0
   ·have ha' : ¬ 0 <= l[i] := by omega
    simp only [ha', decide_false, Bool.false_and, Bool.false_eq_true, if_false]
    exact loop_ret (by unfold lQQX0; simp [rQQX0, rQQX1, rQQX2, rQQX3, rQQX4, rQQX5, rQQX6, rQQX7, h1, hlt, ha, ints_length, ints_get, intsAt, idx])
   have ha' : 0 <= l[i] := by omega
   by_cases hb : m <= l[i]
   ·have hb' : ¬ l[i] < m := by omega
    simp only [ha', hb', decide_true, decide_false, Bool.false_and, Bool.true_and, Bool.false_eq_true, if_false]
    exact loop_ret (by unfold lQQX0; simp [rQQX0, rQQX1, rQQX2, rQQX3, rQQX4, rQQX5, rQQX6, rQQX7, h1, hlt, ha, hb, ints_length, ints_get, intsAt, idx])
   have hb' : l[i] < m := by omega
   by_cases hc : prev l i < l[i]
   ·simp only [ha', hb', hc, decide_true, Bool.true_and]
    cases i with
    | zero => exact (loop_next (by unfold lQQX0; simp [rQQX0, rQQX1, rQQX2, rQQX3, rQQX4, rQQX5, rQQX6, rQQX7, h1, hlt, ha, hb, hw, ints_length, ints_get, intsAt, idx])).trans ih
    | succ j =>
      rw [prev_succ l j (by omega)] at hc
      have hj : j < l.length := by omega
      have hj1 : (j : Int) < l.length := by omega
      have hc' : ¬ l[j + 1] <= l[j] := by omega
      have hp : (0 : Int) < (j : Int) + 1 := by omega
      have hp0 : (0 : Int) <= (j : Int) + 1 := by omega
      have hw2 := wrapN (i := j) (by omega)
      have h1 : (j : Int) + 1 < l.length := by omega
      have hw : IntKind.i64.wrap ((j : Int) + 1 + 1) = (j : Int) + 1 + 1 := wrapZ (j := j + 1 + 1) rfl (by omega)
      exact (loop_next (by unfold lQQX0; simp [rQQX0, rQQX1, rQQX2, rQQX3, rQQX4, rQQX5, rQQX6, rQQX7, h1, hlt, ha, hb, hc', hj, hj1, hp, hp0, hw, hw2, ints_length, ints_get, intsAt, idx])).trans ih
   ·simp only [ha', hb', hc, decide_true, decide_false, Bool.false_and, Bool.true_and, Bool.false_eq_true, if_false]
    cases i with
    | zero => exact absurd (show prev l 0 < l[0] by rw [prev_zero]; omega) hc
    | succ j =>
      rw [prev_succ l j (by omega)] at hc
      have hj : j < l.length := by omega
      have hj1 : (j : Int) < l.length := by omega
      have hc' : l[j + 1] <= l[j] := by omega
      have hp : (0 : Int) < (j : Int) + 1 := by omega
      have hp0 : (0 : Int) <= (j : Int) + 1 := by omega
      have hw2 := wrapN (i := j) (by omega)
      have h1 : (j : Int) + 1 < l.length := by omega
      have hw : IntKind.i64.wrap ((j : Int) + 1 + 1) = (j : Int) + 1 + 1 := wrapZ (j := j + 1 + 1) rfl (by omega)
      exact loop_ret (by unfold lQQX0; simp [rQQX0, rQQX1, rQQX2, rQQX3, rQQX4, rQQX5, rQQX6, rQQX7, h1, hlt, ha, hb, hc', hj, hj1, hp, hp0, hw, hw2, ints_length, ints_get, intsAt, idx])
theorem nvalid_run (m : Int) (l : List Int) (hl : l.length < 4294967297) : callL cfgS nQQ [.list 1 (ints l), .int .i64 m] [] = some (.bool (valGo m (-1) l), []) := by
 rw [callL_end oQQ sQQ (Nat.le_of_ble_eq_true rfl)]
 have h := nvalid_loop m l hl l.length 0 (by omega)
 rw [nat0, prev_zero, List.drop_zero] at h
 unfold qQQ cQQ
 by_cases hx : valGo m (-1) l = true
 ·simp [rQQX0, rQQX1, rQQX2, rQQX3, rQQX4, rQQX5, rQQX6, rQQX7, h, hx, ints_length, endL, finB]
 ·simp [rQQX0, rQQX1, rQQX2, rQQX3, rQQX4, rQQX5, rQQX6, rQQX7, h, hx, ints_length, endL, finB]
theorem nan_run (x : Int) : callL cfgS nQP [.int .i64 x] [] = some (.bool false, []) := by
 rw [callL_end oQP sQP (Nat.le_of_ble_eq_true rfl)]
 unfold qQP cQP
 simp [rQPX0, rQPX1, endL, finB]
def cmpI (x y : Int) : Int := if x < y then -1 else if y < x then 1 else 0
theorem cmpI_run (x y : Int) : callL cfgS nQD [.int .i64 x, .int .i64 y] [] = some (.int .i64 (cmpI x y), []) := by
 rw [callL_end oQD sQD (Nat.le_of_ble_eq_true rfl)]
 have hx := nan_run x
 have hy := nan_run y
 unfold qQD cQD cmpI
 by_cases h1 : x < y
 ·simp [rQDX0, rQDX1, rQDX2, rQDX3, rQDX4, rQDX5, rQDX6, rQDX7, rQDX8, rQDX9, rQDX10, rQDX11, rQDX12, rQDX13, hx, hy, h1, sQP, iQP, yQP, lQP, eQP, endL, finB]
 ·by_cases h2 : y < x
  ·simp [rQDX0, rQDX1, rQDX2, rQDX3, rQDX4, rQDX5, rQDX6, rQDX7, rQDX8, rQDX9, rQDX10, rQDX11, rQDX12, rQDX13, hx, hy, h1, h2, sQP, iQP, yQP, lQP, eQP, endL, finB]
  ·simp [rQDX0, rQDX1, rQDX2, rQDX3, rQDX4, rQDX5, rQDX6, rQDX7, rQDX8, rQDX9, rQDX10, rQDX11, rQDX12, rQDX13, hx, hy, h1, h2, sQP, iQP, yQP, lQP, eQP, endL, finB]
theorem index_loop (x : Int) (l : List Int) (hl : l.length < 4294967297) : ∀ n i : Nat, i + n = l.length -> codeL cfgS 0 (.loop lQYX0) ⟨[(0, .list 1 (ints l)), (1, .int .i64 x), (7, .int .i64 l.length), (8, .int .i64 i)], []⟩ =
  if x ∈ l.drop i then some (.ret, ⟨[(4, .int .i64 (i + (l.drop i).idxOf x : Nat))], []⟩) else some (.exit 0, ⟨[(0, .list 1 (ints l)), (1, .int .i64 x), (7, .int .i64 l.length), (8, .int .i64 l.length), (9, .bool false)], []⟩)
 | 0, i, hi => by
   have e : i = l.length := by omega
   subst e
   rw [List.drop_length, if_neg (by simp)]
   exact loop_exit (by unfold lQYX0; simp [rQYX0, rQYX1, rQYX2, rQYX3, rQYX4, rQYX5, rQYX6, rQYX7])
 | n + 1, i, hi => by
   have hlt : i < l.length := by omega
   have h1 : (i : Int) < l.length := by omega
   have ih := index_loop x l hl n (i + 1) (by omega)
   have hw := wrapS (i := i) (by omega)
   rw [List.drop_eq_getElem_cons hlt]
   by_cases hx : x = l[i]
   ·rw [if_pos (by rw [hx]; exact List.mem_cons_self), show (l[i] :: l.drop (i + 1)).idxOf x = 0 by rw [hx]; exact List.idxOf_cons_self]
    exact loop_ret (by unfold lQYX0; simp [rQYX0, rQYX1, rQYX2, rQYX3, rQYX4, rQYX5, rQYX6, rQYX7, h1, hlt, hx, ints_length, ints_get, intsAt, idx])
   ·have hx2 : ¬ l[i] = x := fun e => hx e.symm
    rw [show (l[i] :: l.drop (i + 1)).idxOf x = (l.drop (i + 1)).idxOf x + 1 by simp only [List.idxOf_cons]; rw [show (l[i] == x) = false by simpa using hx2]; rfl, show i + ((l.drop (i + 1)).idxOf x + 1) = i + 1 + (l.drop (i + 1)).idxOf x by omega]
    simp only [List.mem_cons, hx, false_or]
    exact (loop_next (by unfold lQYX0; simp [rQYX0, rQYX1, rQYX2, rQYX3, rQYX4, rQYX5, rQYX6, rQYX7, h1, hlt, hx, hw, ints_length, ints_get, intsAt, idx])).trans ih
theorem index_run (x : Int) (l : List Int) (hl : l.length < 4294967297) : callL cfgS nQY [.list 1 (ints l), .int .i64 x] [] = some (.int .i64 (if x ∈ l then (l.idxOf x : Int) else -1), []) := by
 rw [callL_end oQY sQY (Nat.le_of_ble_eq_true rfl)]
 have h := index_loop x l hl l.length 0 (by omega)
 rw [nat0, List.drop_zero, Nat.zero_add] at h
 unfold qQY cQY
 by_cases hx : x ∈ l
 ·rw [if_pos hx] at h
  simp [rQYX0, rQYX1, rQYX2, rQYX3, rQYX4, rQYX5, rQYX6, rQYX7, h, hx, ints_length, endL, finB]
 ·rw [if_neg hx] at h
  simp [rQYX0, rQYX1, rQYX2, rQYX3, rQYX4, rQYX5, rQYX6, rQYX7, h, hx, ints_length, endL, finB]
theorem contains_run (x : Int) (l : List Int) (hl : l.length < 4294967297) : callL cfgS nQU [.list 1 (ints l), .int .i64 x] [] = some (.bool (decide (x ∈ l)), []) := by
 rw [callL_end oQU sQU (Nat.le_of_ble_eq_true rfl)]
 have h := index_run x l hl
 unfold qQU cQU
 by_cases hx : x ∈ l
 ·rw [if_pos hx] at h
  have h0 : (0 : Int) <= (l.idxOf x : Int) := by omega
  simp [rQUX0, rQUX1, h, h0, hx, sQY, iQY, yQY, lQY, eQY, endL, finB]
 ·rw [if_neg hx] at h
  simp [rQUX0, rQUX1, h, hx, sQY, iQY, yQY, lQY, eQY, endL, finB]
theorem nhas_run (x : Int) (l : List Int) (hl : l.length < 4294967297) : callL cfgS nQK [.list 1 (ints l), .int .i64 x] [] = some (.bool (decide (x ∈ l)), []) := by
 rw [callL_end oQK sQK (Nat.le_of_ble_eq_true rfl)]
 have h := contains_run x l hl
 unfold qQK cQK
 simp [rQKX0, rQKX1, h, sQU, iQU, yQU, lQU, eQU, endL, finB]
end Go.BmP
