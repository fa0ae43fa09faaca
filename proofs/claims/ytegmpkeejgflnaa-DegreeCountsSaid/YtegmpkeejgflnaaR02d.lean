/- What comparisons return; nodeset.Valid, Has, Cmp, Range. -/
import Derived.Test.YtegmpkeejgflnaaUseM
import Derived.Test.YtegmpkeejgflnaaR02c
set_option linter.unusedSimpArgs false
set_option linter.unusedVariables false
set_option maxRecDepth 100000
namespace Go.BmP
open Go.Am Go.Bm
def cmpGo : List Int -> List Int -> Option Int
 | [], _ => none
 | _ :: _, [] => some 1
 | x :: r, y :: s => if y < x then some 1 else if x < y then some (-1) else cmpGo r s
theorem cmpL_go : ∀ a b : List Int, cmpL a b = (cmpGo a b).getD (if a.length < b.length then -1 else 0)
 | [], [] => rfl
 | [], _ :: _ => by simp [cmpL, cmpGo]
 | _ :: _, [] => rfl
 | x :: r, y :: s => by
   have ih := cmpL_go r s
   unfold cmpL cmpGo
   split
   ·rfl
   ·split
    ·rfl
    ·rw [ih]; simp
theorem cmp_loop (a b : List Int) (hl : a.length < 4294967295) (hb : b.length < 4294967295) : ∀ (n i : Nat), i + n = a.length -> codeL cfgS 0 (.loop lQzX0) ⟨[(0, .list 1 (ints a)), (1, .list 1 (ints b)), (7, .int .i64 a.length), (8, .int .i64 i)], []⟩ =
  match cmpGo (a.drop i) (b.drop i) with
  | some v => some (.ret, ⟨[(4, .int .i64 v)], []⟩)
  | none => some (.exit 0, ⟨[(0, .list 1 (ints a)), (1, .list 1 (ints b)), (7, .int .i64 a.length), (8, .int .i64 a.length), (9, .bool false)], []⟩)
 | 0, i, hi => by
   have e : i = a.length := by omega
   subst e
   rw [List.drop_length]
   unfold cmpGo
   exact loop_exit (by unfold lQzX0; simp [rQzX0, rQzX1, rQzX2, rQzX3, rQzX4, rQzX5, rQzX6, rQzX7, rQzX8, rQzX9, rQzX10, rQzX11])
 | n + 1, i, hi => by
   have hlt : i < a.length := by omega
   have h1 : (i : Int) < a.length := by omega
   have hw := wrapS (i := i) (by omega)
   have ih := cmp_loop a b hl hb n (i + 1) (by omega)
   rw [List.drop_eq_getElem_cons hlt]
   by_cases hk : i < b.length
   ·have h2 : (i : Int) < b.length := by omega
    have h2' : ¬ (b.length : Int) <= i := by omega
    rw [List.drop_eq_getElem_cons hk]
    unfold cmpGo
    by_cases hg : b[i] < a[i]
    ·rw [if_pos hg]
     exact loop_ret (by unfold lQzX0; simp [rQzX0, rQzX1, rQzX2, rQzX3, rQzX4, rQzX5, rQzX6, rQzX7, rQzX8, rQzX9, rQzX10, rQzX11, h1, hlt, h2, h2', hk, hg, ints_length, ints_get, intsAt, idx])
    ·rw [if_neg hg]
     by_cases hs : a[i] < b[i]
     ·rw [if_pos hs]
      exact loop_ret (by unfold lQzX0; simp [rQzX0, rQzX1, rQzX2, rQzX3, rQzX4, rQzX5, rQzX6, rQzX7, rQzX8, rQzX9, rQzX10, rQzX11, h1, hlt, h2, h2', hk, hg, hs, ints_length, ints_get, intsAt, idx])
     ·rw [if_neg hs]
      exact (loop_next (by unfold lQzX0; simp [rQzX0, rQzX1, rQzX2, rQzX3, rQzX4, rQzX5, rQzX6, rQzX7, rQzX8, rQzX9, rQzX10, rQzX11, h1, hlt, h2, h2', hk, hg, hs, hw, ints_length, ints_get, intsAt, idx])).trans ih
   ·have h2' : (b.length : Int) <= i := by omega
    have e0 : b.drop i = [] := List.drop_eq_nil_of_le (by omega)
    rw [e0]
    unfold cmpGo
    exact loop_ret (by unfold lQzX0; simp [rQzX0, rQzX1, rQzX2, rQzX3, rQzX4, rQzX5, rQzX6, rQzX7, rQzX8, rQzX9, rQzX10, rQzX11, h1, hlt, h2', hk, ints_length, ints_get, intsAt, idx])
theorem cmp_run (a b : List Int) (hl : a.length < 4294967295) (hb : b.length < 4294967295) : callL cfgS nQz [.list 1 (ints a), .list 1 (ints b)] [] = some (.int .i64 (cmpL a b), []) := by
 rw [callL_end oQz sQz (Nat.le_of_ble_eq_true rfl), cmpL_go]
 have h := cmp_loop a b hl hb a.length 0 (by omega)
 rw [nat0, List.drop_zero, List.drop_zero] at h
 unfold qQz cQz
 cases hx : cmpGo a b with
 | some v =>
   rw [hx] at h
   simp only at h
   rw [Option.getD_some]
   simp [rQzX0, rQzX1, rQzX2, rQzX3, rQzX4, rQzX5, rQzX6, rQzX7, rQzX8, rQzX9, rQzX10, rQzX11, h, ints_length, endL, finB]
 | none =>
   rw [hx] at h
   simp only at h
   rw [Option.getD_none]
   by_cases hlt : a.length < b.length
   ·have h1 : (a.length : Int) < b.length := by omega
    simp [rQzX0, rQzX1, rQzX2, rQzX3, rQzX4, rQzX5, rQzX6, rQzX7, rQzX8, rQzX9, rQzX10, rQzX11, h, hlt, h1, ints_length, endL, finB]
   ·have h1 : ¬ (a.length : Int) < b.length := by omega
    simp [rQzX0, rQzX1, rQzX2, rQzX3, rQzX4, rQzX5, rQzX6, rQzX7, rQzX8, rQzX9, rQzX10, rQzX11, h, hlt, h1, ints_length, endL, finB]
theorem same_run (a b : List Int) (hl : a.length < 4294967295) (hb : b.length < 4294967295) : callL cfgS nQk [.list 1 (ints a), .list 1 (ints b)] [] = some (.bool (decide (a = b)), []) := by
 rw [callL_end oQk sQk (Nat.le_of_ble_eq_true rfl)]
 have h := cmp_run a b hl hb
 unfold qQk cQk
 by_cases hlt : a.length = b.length
 ·have h1 : (a.length : Int) = b.length := by omega
  by_cases he : a = b
  ·have hc := cmpL_zero.2 he
   rw [hc] at h
   subst he
   simp [rQkX0, rQkX1, h, sQz, iQz, lQz, ints_length, endL, finB]
  ·have hc : ¬ cmpL a b = 0 := fun e => he (cmpL_zero.1 e)
   simp [rQkX0, rQkX1, h, h1, he, hc, sQz, iQz, lQz, ints_length, endL, finB]
 ·have h1 : ¬ (a.length : Int) = b.length := by omega
  have he : ¬ a = b := fun e => hlt (e ▸ rfl)
  simp [rQkX0, rQkX1, h1, he, ints_length, endL, finB]
theorem nan_run (x : Int) : callL cfgS nQI [.int .i64 x] [] = some (.bool false, []) := by
 rw [callL_end oQI sQI (Nat.le_of_ble_eq_true rfl)]
 unfold qQI cQI
 simp [rQIX0, rQIX1, endL, finB]
def cmpI (x y : Int) : Int := if x < y then -1 else if y < x then 1 else 0
theorem cmpI_run (x y : Int) : callL cfgS nQG [.int .i64 x, .int .i64 y] [] = some (.int .i64 (cmpI x y), []) := by
 rw [callL_end oQG sQG (Nat.le_of_ble_eq_true rfl)]
 have hx := nan_run x
 have hy := nan_run y
 unfold qQG cQG cmpI
 by_cases h1 : x < y
 ·simp [rQGX0, rQGX1, rQGX2, rQGX3, rQGX4, rQGX5, rQGX6, rQGX7, rQGX8, rQGX9, rQGX10, rQGX11, rQGX12, rQGX13, hx, hy, h1, sQI, iQI, lQI, endL, finB]
 ·by_cases h2 : y < x
  ·simp [rQGX0, rQGX1, rQGX2, rQGX3, rQGX4, rQGX5, rQGX6, rQGX7, rQGX8, rQGX9, rQGX10, rQGX11, rQGX12, rQGX13, hx, hy, h1, h2, sQI, iQI, lQI, endL, finB]
  ·simp [rQGX0, rQGX1, rQGX2, rQGX3, rQGX4, rQGX5, rQGX6, rQGX7, rQGX8, rQGX9, rQGX10, rQGX11, rQGX12, rQGX13, hx, hy, h1, h2, sQI, iQI, lQI, endL, finB]
end Go.BmP
