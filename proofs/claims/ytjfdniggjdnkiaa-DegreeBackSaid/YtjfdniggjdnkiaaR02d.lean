/- What functions of cohesionref02 return: Has, Valid, put, Of. -/
import Derived.Test.YtjfdniggjdnkiaaUseM
import Derived.Test.YtjfdniggjdnkiaaCfS
import Derived.Test.YtjfdniggjdnkiaaRunX
import Derived.Test.YtjfdniggjdnkiaaSpc
set_option linter.unusedSimpArgs false
set_option linter.unusedVariables false
set_option maxRecDepth 100000
namespace Go.BmP
open Go.Am Go.Bm
theorem put_loop (x : Int) (l : List Int) (hl : l.length < 4294967296) : ∀ n i : Nat, i + n = l.length -> codeL cfgS 0 (.loop lQUX0) ⟨[(0, .list 1 (ints l)), (1, .int .i64 x), (5, .int .i64 i)], []⟩ =
  some (.exit 0, ⟨[(0, .list 1 (ints l)), (1, .int .i64 x), (5, .int .i64 (i + pos x (l.drop i) : Nat)), (18, .bool false)], []⟩)
 | 0, i, hi => by
   have e : i = l.length := by omega
   subst e
   rw [List.drop_length]
   exact loop_exit (by unfold lQUX0; simp [rQUX0, rQUX1, rQUX2, rQUX3, rQUX4, rQUX5, rQUX6, rQUX7, pos, ints_length, idx])
 | n + 1, i, hi => by
   have hlt : i < l.length := by omega
   have h1 : (i : Int) < l.length := by omega
   have ih := put_loop x l hl n (i + 1) (by omega)
   have hw := wrapS (i := i) (by omega)
   rw [List.drop_eq_getElem_cons hlt]
   unfold pos
   by_cases hx : l[i] < x
   ·have e : i + (pos x (l.drop (i + 1)) + 1) = i + 1 + pos x (l.drop (i + 1)) := by omega
    rw [if_pos hx, e]
    exact (loop_next (by unfold lQUX0; simp [rQUX0, rQUX1, rQUX2, rQUX3, rQUX4, rQUX5, rQUX6, rQUX7, h1, hlt, hx, hw, ints_length, ints_get, intsAt, idx])).trans ih
   ·rw [if_neg hx]
    exact loop_exit (by unfold lQUX0; simp [rQUX0, rQUX1, rQUX2, rQUX3, rQUX4, rQUX5, rQUX6, rQUX7, h1, hlt, hx, ints_length, ints_get, intsAt, idx])
end Go.BmP
/- What functions of cohesionref02 return: put, Of, Range, Union, Meet, Minus, Within, Cmp, Same. -/
set_option linter.unusedSimpArgs false
set_option linter.unusedVariables false
set_option maxRecDepth 100000
namespace Go.BmP
open Go.Am Go.Bm
theorem put_run (x : Int) (l : List Int) (hl : l.length < 4294967295) : callL cfgS nQU [.list 1 (ints l), .int .i64 x] [] = some (.list 1 (ints (putI x l)), []) := by
 rw [callL_end oQU sQU (Nat.le_of_ble_eq_true rfl), putI_pos]
 have h := put_loop x l (by omega) l.length 0 (by omega)
 rw [nat0, List.drop_zero, Nat.zero_add] at h
 have hp := pos_le x l
 generalize pos x l = p at h hp ⊢
 have hq : (p : Int) <= l.length := by omega
 have hm : min p l.length = p := by omega
 have hL1 : p <= 4294967296 := by omega
 have hL2 : p + 1 <= 4294967296 := by omega
 have hL3 : p + 1 + (l.length - p) <= 4294967296 := by omega
 unfold qQU cQU
 by_cases hlt : p < l.length
 ·have h1 : (p : Int) < l.length := by omega
  by_cases hx : l[p] = x
  ·rw [if_pos (by rw [List.getElem?_eq_getElem hlt, hx])]
   simp [rQUX0, rQUX1, rQUX2, rQUX3, rQUX4, rQUX5, rQUX6, rQUX7, h, h1, hlt, hx, ints_length, ints_get, intsAt, idx, endL, finB]
  ·rw [if_neg (by rw [List.getElem?_eq_getElem hlt]; simpa using hx)]
   simp [rQUX0, rQUX1, rQUX2, rQUX3, rQUX4, rQUX5, rQUX6, rQUX7, h, h1, hlt, hx, hp, hq, hm, hL1, hL2, hL3, ints_length, ints_get, intsAt, idx, endL, finB, ints_take, ints_drop, ints_snoc, ints_app, LIM, List.length_take, List.length_drop]
   simp (disch := (simp only [List.length_take, List.length_append, List.length_drop, List.length_singleton, List.length_cons, List.length_nil] <;> omega)) only [List.take_of_length_le, List.take_take, Nat.min_self, List.append_assoc, List.singleton_append]
 ·have h1 : ¬ (p : Int) < l.length := by omega
  rw [if_neg (by rw [List.getElem?_eq_none (by omega)]; simp)]
  simp [rQUX0, rQUX1, rQUX2, rQUX3, rQUX4, rQUX5, rQUX6, rQUX7, h, h1, hlt, hp, hq, hm, hL1, hL2, hL3, ints_length, ints_get, intsAt, idx, endL, finB, ints_take, ints_drop, ints_snoc, ints_app, LIM, List.length_take, List.length_drop]
  simp (disch := (simp only [List.length_take, List.length_append, List.length_drop, List.length_singleton, List.length_cons, List.length_nil] <;> omega)) only [List.take_of_length_le, List.take_take, Nat.min_self, List.append_assoc, List.singleton_append]
theorem of_loop (l : List Int) (hl : l.length < 4294967295) : ∀ (n i : Nat) (o : List Int), i + n = l.length -> o.length <= i -> codeL cfgS 0 (.loop lQSX0) ⟨[(3, .list 1 (ints o)), (6, .list 1 (ints l)), (7, .int .i64 l.length), (8, .int .i64 i)], []⟩ =
  some (.exit 0, ⟨[(3, .list 1 (ints ((l.drop i).foldl (fun o x => putI x o) o))), (6, .list 1 (ints l)), (7, .int .i64 l.length), (8, .int .i64 l.length), (9, .bool false)], []⟩)
 | 0, i, o, hi, ho => by
   have e : i = l.length := by omega
   subst e
   rw [List.drop_length]
   exact loop_exit (by unfold lQSX0; simp [rQSX0, rQSX1, rQSX2, rQSX3, rQSX4, rQSX5, rQSX6, rQSX7])
 | n + 1, i, o, hi, ho => by
   have hlt : i < l.length := by omega
   have h1 : (i : Int) < l.length := by omega
   have hw := wrapS (i := i) (by omega)
   have hp := put_run l[i] o (by omega)
   have hpl := putI_len l[i] o
   have ih := of_loop l hl n (i + 1) (putI l[i] o) (by omega) (by omega)
   rw [List.drop_eq_getElem_cons hlt, List.foldl_cons]
   exact (loop_next (by unfold lQSX0; simp [rQSX0, rQSX1, rQSX2, rQSX3, rQSX4, rQSX5, rQSX6, rQSX7, h1, hlt, hw, hp, sQU, iQU, ints_length, ints_get, intsAt, idx])).trans ih
theorem of_loop0 (l : List Int) (hl : l.length < 4294967295) : codeL cfgS 0 (.loop lQSX0) ⟨[(3, .own 1 []), (6, .list 1 (ints l)), (7, .int .i64 l.length), (8, .int .i64 0)], []⟩ =
  some (.exit 0, ⟨[(3, if l = [] then .own 1 [] else .list 1 (ints (setOf l))), (6, .list 1 (ints l)), (7, .int .i64 l.length), (8, .int .i64 l.length), (9, .bool false)], []⟩) := by
 cases l with
 | nil => exact loop_exit (by unfold lQSX0; simp [rQSX0, rQSX1, rQSX2, rQSX3, rQSX4, rQSX5, rQSX6, rQSX7, ints_nil])
 | cons a r =>
   have hp := put_run a [] (by simp)
   have ih := of_loop (a :: r) hl r.length 1 (putI a []) (by simp; omega) (by simp [putI])
   rw [<- ofL_eq, if_neg (by simp)]
   rw [ints_nil] at hp
   refine (loop_next (s' := ⟨[(3, .list 1 (ints (putI a []))), (6, .list 1 (ints (a :: r))), (7, .int .i64 (a :: r).length), (8, .int .i64 ((1 : Nat) : Int))], []⟩) ?_).trans (ih.trans ?_)
   ·have h1 : (0 : Int) < (r.length : Int) + 1 := by omega
    unfold lQSX0
    simp [rQSX0, rQSX1, rQSX2, rQSX3, rQSX4, rQSX5, rQSX6, rQSX7, h1, hp, sQU, iQU, ints_length, ints_cons, idx]
   ·rfl
theorem of_run (l : List Int) (hl : l.length < 4294967295) : callL cfgS nQS [.list 1 (ints l)] [] = some (.list 1 (ints (setOf l)), []) := by
 rw [callL_end oQS sQS (Nat.le_of_ble_eq_true rfl)]
 have h := of_loop0 l hl
 unfold qQS cQS
 by_cases hx : l = []
 ·subst hx
  rw [if_pos rfl] at h
  simp only [ints_nil, List.length_nil, nat0] at h
  simp [rQSX0, rQSX1, rQSX2, rQSX3, rQSX4, rQSX5, rQSX6, rQSX7, h, ints_nil, endL, finB]
  rfl
 ·rw [if_neg hx] at h
  simp [rQSX0, rQSX1, rQSX2, rQSX3, rQSX4, rQSX5, rQSX6, rQSX7, h, ints_length, endL, finB]
def rangeI (n : Int) : List Int := (List.range (min n.toNat 64)).map fun i => ((i : Nat) : Int)
end Go.BmP
/- What comparisons return; nodeset.Valid, Has, Cmp, Range. -/
set_option linter.unusedSimpArgs false
set_option linter.unusedVariables false
set_option maxRecDepth 100000
namespace Go.BmP
open Go.Am Go.Bm
def cmpGo : List Int -> List Int -> Option Int
 | [], _ => none
 | _ :: _, [] => some 1
 | x :: r, y :: s => if y < x then some 1 else if x < y then some (-1) else cmpGo r s
theorem cmpL_go : ∀ a b : List Int, cmpL a b = (cmpGo a b).getD (if a.length < b.length then -1 else 0)
 | [], [] => rfl
 | [], _ :: _ => by simp [cmpL, cmpGo]
 | _ :: _, [] => rfl
 | x :: r, y :: s => by
   have ih := cmpL_go r s
   unfold cmpL cmpGo
   split
   ·rfl
   ·split
    ·rfl
    ·rw [ih]; simp
theorem cmp_loop (a b : List Int) (hl : a.length < 4294967295) (hb : b.length < 4294967295) : ∀ (n i : Nat), i + n = a.length -> codeL cfgS 0 (.loop lQzX0) ⟨[(0, .list 1 (ints a)), (1, .list 1 (ints b)), (7, .int .i64 a.length), (8, .int .i64 i)], []⟩ =
  match cmpGo (a.drop i) (b.drop i) with
  | some v => some (.ret, ⟨[(4, .int .i64 v)], []⟩)
  | none => some (.exit 0, ⟨[(0, .list 1 (ints a)), (1, .list 1 (ints b)), (7, .int .i64 a.length), (8, .int .i64 a.length), (9, .bool false)], []⟩)
 | 0, i, hi => by
   have e : i = a.length := by omega
   subst e
   rw [List.drop_length]
   unfold cmpGo
   exact loop_exit (by unfold lQzX0; simp [rQzX0, rQzX1, rQzX2, rQzX3, rQzX4, rQzX5, rQzX6, rQzX7, rQzX8, rQzX9, rQzX10, rQzX11])
 | n + 1, i, hi => by
   have hlt : i < a.length := by omega
   have h1 : (i : Int) < a.length := by omega
   have hw := wrapS (i := i) (by omega)
   have ih := cmp_loop a b hl hb n (i + 1) (by omega)
   rw [List.drop_eq_getElem_cons hlt]
   by_cases hk : i < b.length
   ·have h2 : (i : Int) < b.length := by omega
    have h2' : ¬ (b.length : Int) <= i := by omega
    rw [List.drop_eq_getElem_cons hk]
    unfold cmpGo
    by_cases hg : b[i] < a[i]
    ·rw [if_pos hg]
     exact loop_ret (by unfold lQzX0; simp [rQzX0, rQzX1, rQzX2, rQzX3, rQzX4, rQzX5, rQzX6, rQzX7, rQzX8, rQzX9, rQzX10, rQzX11, h1, hlt, h2, h2', hk, hg, ints_length, ints_get, intsAt, idx])
    ·rw [if_neg hg]
     by_cases hs : a[i] < b[i]
     ·rw [if_pos hs]
      exact loop_ret (by unfold lQzX0; simp [rQzX0, rQzX1, rQzX2, rQzX3, rQzX4, rQzX5, rQzX6, rQzX7, rQzX8, rQzX9, rQzX10, rQzX11, h1, hlt, h2, h2', hk, hg, hs, ints_length, ints_get, intsAt, idx])
     ·rw [if_neg hs]
      exact (loop_next (by unfold lQzX0; simp [rQzX0, rQzX1, rQzX2, rQzX3, rQzX4, rQzX5, rQzX6, rQzX7, rQzX8, rQzX9, rQzX10, rQzX11, h1, hlt, h2, h2', hk, hg, hs, hw, ints_length, ints_get, intsAt, idx])).trans ih
   ·have h2' : (b.length : Int) <= i := by omega
    have e0 : b.drop i = [] := List.drop_eq_nil_of_le (by omega)
    rw [e0]
    unfold cmpGo
    exact loop_ret (by unfold lQzX0; simp [rQzX0, rQzX1, rQzX2, rQzX3, rQzX4, rQzX5, rQzX6, rQzX7, rQzX8, rQzX9, rQzX10, rQzX11, h1, hlt, h2', hk, ints_length, ints_get, intsAt, idx])
theorem cmp_run (a b : List Int) (hl : a.length < 4294967295) (hb : b.length < 4294967295) : callL cfgS nQz [.list 1 (ints a), .list 1 (ints b)] [] = some (.int .i64 (cmpL a b), []) := by
 rw [callL_end oQz sQz (Nat.le_of_ble_eq_true rfl), cmpL_go]
 have h := cmp_loop a b hl hb a.length 0 (by omega)
 rw [nat0, List.drop_zero, List.drop_zero] at h
 unfold qQz cQz
 cases hx : cmpGo a b with
 | some v =>
   rw [hx] at h
   simp only at h
   rw [Option.getD_some]
   simp [rQzX0, rQzX1, rQzX2, rQzX3, rQzX4, rQzX5, rQzX6, rQzX7, rQzX8, rQzX9, rQzX10, rQzX11, h, ints_length, endL, finB]
 | none =>
   rw [hx] at h
   simp only at h
   rw [Option.getD_none]
   by_cases hlt : a.length < b.length
   ·have h1 : (a.length : Int) < b.length := by omega
    simp [rQzX0, rQzX1, rQzX2, rQzX3, rQzX4, rQzX5, rQzX6, rQzX7, rQzX8, rQzX9, rQzX10, rQzX11, h, hlt, h1, ints_length, endL, finB]
   ·have h1 : ¬ (a.length : Int) < b.length := by omega
    simp [rQzX0, rQzX1, rQzX2, rQzX3, rQzX4, rQzX5, rQzX6, rQzX7, rQzX8, rQzX9, rQzX10, rQzX11, h, hlt, h1, ints_length, endL, finB]
theorem same_run (a b : List Int) (hl : a.length < 4294967295) (hb : b.length < 4294967295) : callL cfgS nQk [.list 1 (ints a), .list 1 (ints b)] [] = some (.bool (decide (a = b)), []) := by
 rw [callL_end oQk sQk (Nat.le_of_ble_eq_true rfl)]
 have h := cmp_run a b hl hb
 unfold qQk cQk
 by_cases hlt : a.length = b.length
 ·have h1 : (a.length : Int) = b.length := by omega
  by_cases he : a = b
  ·have hc := cmpL_zero.2 he
   rw [hc] at h
   subst he
   simp [rQkX0, rQkX1, h, sQz, iQz, ints_length, endL, finB]
  ·have hc : ¬ cmpL a b = 0 := fun e => he (cmpL_zero.1 e)
   simp [rQkX0, rQkX1, h, h1, he, hc, sQz, iQz, ints_length, endL, finB]
 ·have h1 : ¬ (a.length : Int) = b.length := by omega
  have he : ¬ a = b := fun e => hlt (e ▸ rfl)
  simp [rQkX0, rQkX1, h1, he, ints_length, endL, finB]
theorem nan_run (x : Int) : callL cfgS nQT [.int .i64 x] [] = some (.bool false, []) := by
 rw [callL_end oQT sQT (Nat.le_of_ble_eq_true rfl)]
 unfold qQT cQT
 simp [rQTX0, rQTX1, endL, finB]
def cmpI (x y : Int) : Int := if x < y then -1 else if y < x then 1 else 0
theorem cmpI_run (x y : Int) : callL cfgS nQR [.int .i64 x, .int .i64 y] [] = some (.int .i64 (cmpI x y), []) := by
 rw [callL_end oQR sQR (Nat.le_of_ble_eq_true rfl)]
 have hx := nan_run x
 have hy := nan_run y
 unfold qQR cQR cmpI
 by_cases h1 : x < y
 ·simp [rQRX0, rQRX1, rQRX2, rQRX3, rQRX4, rQRX5, rQRX6, rQRX7, rQRX8, rQRX9, rQRX10, rQRX11, rQRX12, rQRX13, hx, hy, h1, sQT, iQT, endL, finB]
 ·by_cases h2 : y < x
  ·simp [rQRX0, rQRX1, rQRX2, rQRX3, rQRX4, rQRX5, rQRX6, rQRX7, rQRX8, rQRX9, rQRX10, rQRX11, rQRX12, rQRX13, hx, hy, h1, h2, sQT, iQT, endL, finB]
  ·simp [rQRX0, rQRX1, rQRX2, rQRX3, rQRX4, rQRX5, rQRX6, rQRX7, rQRX8, rQRX9, rQRX10, rQRX11, rQRX12, rQRX13, hx, hy, h1, h2, sQT, iQT, endL, finB]
end Go.BmP
