/- What functions of cohesionref02 return: Has, Valid, put, Of. -/
import Derived.Test.YtoobjomjclombaaDoorUseM
import Derived.Test.YtoobjomjclombaaDoorCfS
import Derived.Test.YtoobjomjclombaaDoorRunX
import Derived.Test.YtoobjomjclombaaDoorGrfP
import Derived.Test.YtoobjomjclombaaDoorMxG
set_option linter.unusedSimpArgs false
set_option linter.unusedVariables false
set_option maxRecDepth 100000
namespace Go.BmP
open Go.Am Go.Bm
theorem has_loop (x : Int) (l : List Int) (hl : l.length < 4294967297) : ∀ n i : Nat,i + n = l.length -> codeL cfgS 0 (.loop lQgX0) ⟨[(1,.int .i64 x),(7,.list 1 (ints l)),(8,.int .i64 l.length),(9,.int .i64 i)],[]⟩ =
  if x ∈ l.drop i then some (.ret,⟨[(4,.bool true)],[]⟩) else some (.exit 0,⟨[(1,.int .i64 x),(7,.list 1 (ints l)),(8,.int .i64 l.length),(9,.int .i64 l.length),(10,.bool false)],[]⟩)
 | 0,i,hi => by
   have e : i = l.length := by omega
   subst e
   rw [List.drop_length]
   exact loop_exit (by unfold lQgX0; simp [rQgX0,rQgX1,rQgX2,rQgX3,rQgX4,rQgX5,rQgX6,rQgX7])
 | n + 1,i,hi => by
   have hlt : i < l.length := by omega
   have h1 : (i : Int) < l.length := by omega
   have ih := has_loop x l hl n (i + 1) (by omega)
   have hw := wrapS (i := i) (by omega)
   rw [List.drop_eq_getElem_cons hlt]
   by_cases hx : l[i] = x
   ·rw [if_pos (by simp [hx])]
    exact loop_ret (by unfold lQgX0; simp [rQgX0,rQgX1,rQgX2,rQgX3,rQgX4,rQgX5,rQgX6,rQgX7,h1,hlt,hx,ints_length,ints_get,intsAt,idx])
   ·have hx2 : ¬ x = l[i] := fun e => hx e.symm
    simp only [List.mem_cons,hx2,false_or]
    exact (loop_next (by unfold lQgX0; simp [rQgX0,rQgX1,rQgX2,rQgX3,rQgX4,rQgX5,rQgX6,rQgX7,h1,hlt,hx,hw,ints_length,ints_get,intsAt,idx])).trans ih
theorem has_run (x : Int) (l : List Int) (hl : l.length < 4294967297) : callL cfgS nQg [.list 1 (ints l),.int .i64 x] [] = some (.bool (decide (x ∈ l)),[]) := by
 rw [callL_end oQg sQg (Nat.le_of_ble_eq_true rfl)]
 have h := has_loop x l hl l.length 0 (by omega)
 rw [nat0,List.drop_zero] at h
 unfold qQg cQg
 by_cases hx : x ∈ l
 ·simp [rQgX0,rQgX1,rQgX2,rQgX3,rQgX4,rQgX5,rQgX6,rQgX7,h,hx,ints_length,endL,finB]
 ·simp [rQgX0,rQgX1,rQgX2,rQgX3,rQgX4,rQgX5,rQgX6,rQgX7,h,hx,ints_length,endL,finB]
theorem valid_loop (m : Int) (l : List Int) (hl : l.length < 4294967297) : ∀ n i : Nat,i + n = l.length -> codeL cfgS 0 (.loop lQEX0) ⟨[(0,.list 1 (ints l)),(1,.int .i64 m),(7,.list 1 (ints l)),(8,.int .i64 l.length),(9,.int .i64 i)],[]⟩ =
  if valGo m (prev l i) (l.drop i) = true then some (.exit 0,⟨[(0,.list 1 (ints l)),(1,.int .i64 m),(7,.list 1 (ints l)),(8,.int .i64 l.length),(9,.int .i64 l.length),(10,.bool false)],[]⟩) else some (.ret,⟨[(4,.bool false)],[]⟩)
 | 0,i,hi => by
   have e : i = l.length := by omega
   subst e
   rw [List.drop_length]
   exact loop_exit (by unfold lQEX0; simp [rQEX0,rQEX1,rQEX2,rQEX3,rQEX4,rQEX5,rQEX6,rQEX7])
 | n + 1,i,hi => by
   have hlt : i < l.length := by omega
   have h1 : (i : Int) < l.length := by omega
   have ih := valid_loop m l hl n (i + 1) (by omega)
   have hw := wrapS (i := i) (by omega)
   rw [prev_succ l i hlt] at ih
   rw [List.drop_eq_getElem_cons hlt]
   unfold valGo
   by_cases ha : l[i] < 0
   ·have ha' : ¬ 0 <= l[i] := by omega
    simp only [ha',decide_false,Bool.false_and,Bool.false_eq_true,if_false]
    exact loop_ret (by unfold lQEX0; simp [rQEX0,rQEX1,rQEX2,rQEX3,rQEX4,rQEX5,rQEX6,rQEX7,h1,hlt,ha,ints_length,ints_get,intsAt,idx])
   have ha' : 0 <= l[i] := by omega
   by_cases hb : m <= l[i]
   ·have hb' : ¬ l[i] < m := by omega
    simp only [ha',hb',decide_true,decide_false,Bool.false_and,Bool.true_and,Bool.false_eq_true,if_false]
    exact loop_ret (by unfold lQEX0; simp [rQEX0,rQEX1,rQEX2,rQEX3,rQEX4,rQEX5,rQEX6,rQEX7,h1,hlt,ha,hb,ints_length,ints_get,intsAt,idx])
   have hb' : l[i] < m := by omega
   by_cases hc : prev l i < l[i]
   ·simp only [ha',hb',hc,decide_true,Bool.true_and]
    cases i with
    | zero => exact (loop_next (by unfold lQEX0; simp [rQEX0,rQEX1,rQEX2,rQEX3,rQEX4,rQEX5,rQEX6,rQEX7,h1,hlt,ha,hb,hw,ints_length,ints_get,intsAt,idx])).trans ih
    | succ j =>
      rw [prev_succ l j (by omega)] at hc
      have hj : j < l.length := by omega
      have hj1 : (j : Int) < l.length := by omega
      have hc' : ¬ l[j + 1] <= l[j] := by omega
      have hp : (0 : Int) < (j : Int) + 1 := by omega
      have hp0 : (0 : Int) <= (j : Int) + 1 := by omega
      have hw2 := wrapN (i := j) (by omega)
      have h1 : (j : Int) + 1 < l.length := by omega
      have hw : IntKind.i64.wrap ((j : Int) + 1 + 1) = (j : Int) + 1 + 1 := wrapZ (j := j + 1 + 1) rfl (by omega)
      exact (loop_next (by unfold lQEX0; simp [rQEX0,rQEX1,rQEX2,rQEX3,rQEX4,rQEX5,rQEX6,rQEX7,h1,hlt,ha,hb,hc',hj,hj1,hp,hp0,hw,hw2,ints_length,ints_get,intsAt,idx])).trans ih
   ·simp only [ha',hb',hc,decide_true,decide_false,Bool.false_and,Bool.true_and,Bool.false_eq_true,if_false]
    cases i with
    | zero => exact absurd (show prev l 0 < l[0] by rw [prev_zero]; omega) hc
    | succ j =>
      rw [prev_succ l j (by omega)] at hc
      have hj : j < l.length := by omega
      have hj1 : (j : Int) < l.length := by omega
      have hc' : l[j + 1] <= l[j] := by omega
      have hp : (0 : Int) < (j : Int) + 1 := by omega
      have hp0 : (0 : Int) <= (j : Int) + 1 := by omega
      have hw2 := wrapN (i := j) (by omega)
      have h1 : (j : Int) + 1 < l.length := by omega
      have hw : IntKind.i64.wrap ((j : Int) + 1 + 1) = (j : Int) + 1 + 1 := wrapZ (j := j + 1 + 1) rfl (by omega)
      exact loop_ret (by unfold lQEX0; simp [rQEX0,rQEX1,rQEX2,rQEX3,rQEX4,rQEX5,rQEX6,rQEX7,h1,hlt,ha,hb,hc',hj,hj1,hp,hp0,hw,hw2,ints_length,ints_get,intsAt,idx])
theorem valid_run (m : Int) (l : List Int) (hl : l.length < 4294967297) : callL cfgS nQE [.list 1 (ints l),.int .i64 m] [] = some (.bool (valGo m (-1) l),[]) := by
 rw [callL_end oQE sQE (Nat.le_of_ble_eq_true rfl)]
 have h := valid_loop m l hl l.length 0 (by omega)
 rw [nat0,prev_zero,List.drop_zero] at h
 unfold qQE cQE
 by_cases hx : valGo m (-1) l = true
 ·simp [rQEX0,rQEX1,rQEX2,rQEX3,rQEX4,rQEX5,rQEX6,rQEX7,h,hx,ints_length,endL,finB]
 ·simp [rQEX0,rQEX1,rQEX2,rQEX3,rQEX4,rQEX5,rQEX6,rQEX7,h,hx,ints_length,endL,finB]
/- What functions of cohesionref02 return: put, Of, Range, Union, Meet, Minus, Within, Cmp, Same. -/
theorem within_loop (l b : List Int) (hl : l.length < 4294967295) (hb : b.length < 4294967295) : ∀ (n i : Nat),i + n = l.length -> codeL cfgS 0 (.loop lQoX0) ⟨[(1,.list 1 (ints b)),(7,.list 1 (ints l)),(8,.int .i64 l.length),(9,.int .i64 i)],[]⟩ =
  if (l.drop i).all (fun x => decide (x ∈ b)) = true then some (.exit 0,⟨[(1,.list 1 (ints b)),(7,.list 1 (ints l)),(8,.int .i64 l.length),(9,.int .i64 l.length),(10,.bool false)],[]⟩) else some (.ret,⟨[(4,.bool false)],[]⟩)
 | 0,i,hi => by
   have e : i = l.length := by omega
   subst e
   rw [List.drop_length,List.all_nil,if_pos rfl]
   exact loop_exit (by unfold lQoX0; simp [rQoX0,rQoX1,rQoX2,rQoX3,rQoX4,rQoX5,rQoX6,rQoX7])
 | n + 1,i,hi => by
   have hlt : i < l.length := by omega
   have h1 : (i : Int) < l.length := by omega
   have hw := wrapS (i := i) (by omega)
   have hh := has_run l[i] b (by omega)
   rw [List.drop_eq_getElem_cons hlt,List.all_cons]
   by_cases hx : l[i] ∈ b
   ·have ih := within_loop l b hl hb n (i + 1) (by omega)
    simp only [hx,decide_true,Bool.true_and]
    exact (loop_next (by unfold lQoX0; simp [rQoX0,rQoX1,rQoX2,rQoX3,rQoX4,rQoX5,rQoX6,rQoX7,h1,hlt,hw,hh,hx,sQg,iQg,vQg,ints_length,ints_get,intsAt,idx])).trans ih
   ·simp only [hx,decide_false,Bool.false_and,Bool.false_eq_true,if_false]
    exact loop_ret (by unfold lQoX0; simp [rQoX0,rQoX1,rQoX2,rQoX3,rQoX4,rQoX5,rQoX6,rQoX7,h1,hlt,hw,hh,hx,sQg,iQg,vQg,ints_length,ints_get,intsAt,idx])
theorem within_run (a b : List Int) (ha : a.length < 4294967295) (hb : b.length < 4294967295) : callL cfgS nQo [.list 1 (ints a),.list 1 (ints b)] [] = some (.bool (a.all fun x => decide (x ∈ b)),[]) := by
 rw [callL_end oQo sQo (Nat.le_of_ble_eq_true rfl)]
 have h := within_loop a b ha hb a.length 0 (by omega)
 rw [nat0,List.drop_zero] at h
 unfold qQo cQo
 cases hx : a.all fun x => decide (x ∈ b)
 ·rw [hx] at h
  simp [rQoX0,rQoX1,rQoX2,rQoX3,rQoX4,rQoX5,rQoX6,rQoX7,h,ints_length,endL,finB]
 ·rw [hx] at h
  simp [rQoX0,rQoX1,rQoX2,rQoX3,rQoX4,rQoX5,rQoX6,rQoX7,h,ints_length,endL,finB]
def rangeI (n : Int) : List Int := (List.range (min n.toNat 64)).map fun i => ((i : Nat) : Int)
/- What comparisons return; nodeset.Valid, Has, Cmp, Range. -/
def cmpGo : List Int -> List Int -> Option Int
 | [],_ => none
 | _ :: _,[] => some 1
 | x :: r,y :: s => if y < x then some 1 else if x < y then some (-1) else cmpGo r s
theorem cmpL_go : ∀ a b : List Int,cmpL a b = (cmpGo a b).getD (if a.length < b.length then -1 else 0)
 | [],[] => rfl
 | [],_ :: _ => by simp [cmpL,cmpGo]
 | _ :: _,[] => rfl
 | x :: r,y :: s => by
   have ih := cmpL_go r s
   unfold cmpL cmpGo
   split
   ·rfl
   ·split
    ·rfl
    ·rw [ih]; simp
theorem cmp_loop (a b : List Int) (hl : a.length < 4294967295) (hb : b.length < 4294967295) : ∀ (n i : Nat),i + n = a.length -> codeL cfgS 0 (.loop lQnX0) ⟨[(0,.list 1 (ints a)),(1,.list 1 (ints b)),(7,.int .i64 a.length),(8,.int .i64 i)],[]⟩ =
  match cmpGo (a.drop i) (b.drop i) with
  | some v => some (.ret,⟨[(4,.int .i64 v)],[]⟩)
  | none => some (.exit 0,⟨[(0,.list 1 (ints a)),(1,.list 1 (ints b)),(7,.int .i64 a.length),(8,.int .i64 a.length),(9,.bool false)],[]⟩)
 | 0,i,hi => by
   have e : i = a.length := by omega
   subst e
   rw [List.drop_length]
   unfold cmpGo
   exact loop_exit (by unfold lQnX0; simp [rQnX0,rQnX1,rQnX2,rQnX3,rQnX4,rQnX5,rQnX6,rQnX7,rQnX8,rQnX9,rQnX10,rQnX11])
 | n + 1,i,hi => by
   have hlt : i < a.length := by omega
   have h1 : (i : Int) < a.length := by omega
   have hw := wrapS (i := i) (by omega)
   have ih := cmp_loop a b hl hb n (i + 1) (by omega)
   rw [List.drop_eq_getElem_cons hlt]
   by_cases hk : i < b.length
   ·have h2 : (i : Int) < b.length := by omega
    have h2' : ¬ (b.length : Int) <= i := by omega
    rw [List.drop_eq_getElem_cons hk]
    unfold cmpGo
    by_cases hg : b[i] < a[i]
    ·rw [if_pos hg]
     exact loop_ret (by unfold lQnX0; simp [rQnX0,rQnX1,rQnX2,rQnX3,rQnX4,rQnX5,rQnX6,rQnX7,rQnX8,rQnX9,rQnX10,rQnX11,h1,hlt,h2,h2',hk,hg,ints_length,ints_get,intsAt,idx])
    ·rw [if_neg hg]
     by_cases hs : a[i] < b[i]
     ·rw [if_pos hs]
      exact loop_ret (by unfold lQnX0; simp [rQnX0,rQnX1,rQnX2,rQnX3,rQnX4,rQnX5,rQnX6,rQnX7,rQnX8,rQnX9,rQnX10,rQnX11,h1,hlt,h2,h2',hk,hg,hs,ints_length,ints_get,intsAt,idx])
     ·rw [if_neg hs]
      exact (loop_next (by unfold lQnX0; simp [rQnX0,rQnX1,rQnX2,rQnX3,rQnX4,rQnX5,rQnX6,rQnX7,rQnX8,rQnX9,rQnX10,rQnX11,h1,hlt,h2,h2',hk,hg,hs,hw,ints_length,ints_get,intsAt,idx])).trans ih
   ·have h2' : (b.length : Int) <= i := by omega
    have e0 : b.drop i = [] := List.drop_eq_nil_of_le (by omega)
    rw [e0]
    unfold cmpGo
    exact loop_ret (by unfold lQnX0; simp [rQnX0,rQnX1,rQnX2,rQnX3,rQnX4,rQnX5,rQnX6,rQnX7,rQnX8,rQnX9,rQnX10,rQnX11,h1,hlt,h2',hk,ints_length,ints_get,intsAt,idx])
theorem cmp_run (a b : List Int) (hl : a.length < 4294967295) (hb : b.length < 4294967295) : callL cfgS nQn [.list 1 (ints a),.list 1 (ints b)] [] = some (.int .i64 (cmpL a b),[]) := by
 rw [callL_end oQn sQn (Nat.le_of_ble_eq_true rfl),cmpL_go]
 have h := cmp_loop a b hl hb a.length 0 (by omega)
 rw [nat0,List.drop_zero,List.drop_zero] at h
 unfold qQn cQn
 cases hx : cmpGo a b with
 | some v =>
   rw [hx] at h
   simp only at h
   rw [Option.getD_some]
   simp [rQnX0,rQnX1,rQnX2,rQnX3,rQnX4,rQnX5,rQnX6,rQnX7,rQnX8,rQnX9,rQnX10,rQnX11,h,ints_length,endL,finB]
 | none =>
   rw [hx] at h
   simp only at h
   rw [Option.getD_none]
   by_cases hlt : a.length < b.length
   ·have h1 : (a.length : Int) < b.length := by omega
    simp [rQnX0,rQnX1,rQnX2,rQnX3,rQnX4,rQnX5,rQnX6,rQnX7,rQnX8,rQnX9,rQnX10,rQnX11,h,hlt,h1,ints_length,endL,finB]
   ·have h1 : ¬ (a.length : Int) < b.length := by omega
    simp [rQnX0,rQnX1,rQnX2,rQnX3,rQnX4,rQnX5,rQnX6,rQnX7,rQnX8,rQnX9,rQnX10,rQnX11,h,hlt,h1,ints_length,endL,finB]
theorem nvalid_loop (m : Int) (l : List Int) (hl : l.length < 4294967297) : ∀ n i : Nat,i + n = l.length -> codeL cfgS 0 (.loop lQLX0) ⟨[(0,.list 1 (ints l)),(1,.int .i64 m),(7,.list 1 (ints l)),(8,.int .i64 l.length),(9,.int .i64 i)],[]⟩ =
  if valGo m (prev l i) (l.drop i) = true then some (.exit 0,⟨[(0,.list 1 (ints l)),(1,.int .i64 m),(7,.list 1 (ints l)),(8,.int .i64 l.length),(9,.int .i64 l.length),(10,.bool false)],[]⟩) else some (.ret,⟨[(4,.bool false)],[]⟩)
 | 0,i,hi => by
   have e : i = l.length := by omega
   subst e
   rw [List.drop_length]
   exact loop_exit (by unfold lQLX0; simp [rQLX0,rQLX1,rQLX2,rQLX3,rQLX4,rQLX5,rQLX6,rQLX7])
 | n + 1,i,hi => by
   have hlt : i < l.length := by omega
   have h1 : (i : Int) < l.length := by omega
   have ih := nvalid_loop m l hl n (i + 1) (by omega)
   have hw := wrapS (i := i) (by omega)
   rw [prev_succ l i hlt] at ih
   rw [List.drop_eq_getElem_cons hlt]
   unfold valGo
   by_cases ha : l[i] < 0
   ·have ha' : ¬ 0 <= l[i] := by omega
    simp only [ha',decide_false,Bool.false_and,Bool.false_eq_true,if_false]
    exact loop_ret (by unfold lQLX0; simp [rQLX0,rQLX1,rQLX2,rQLX3,rQLX4,rQLX5,rQLX6,rQLX7,h1,hlt,ha,ints_length,ints_get,intsAt,idx])
   have ha' : 0 <= l[i] := by omega
   by_cases hb : m <= l[i]
   ·have hb' : ¬ l[i] < m := by omega
    simp only [ha',hb',decide_true,decide_false,Bool.false_and,Bool.true_and,Bool.false_eq_true,if_false]
    exact loop_ret (by unfold lQLX0; simp [rQLX0,rQLX1,rQLX2,rQLX3,rQLX4,rQLX5,rQLX6,rQLX7,h1,hlt,ha,hb,ints_length,ints_get,intsAt,idx])
   have hb' : l[i] < m := by omega
   by_cases hc : prev l i < l[i]
   ·simp only [ha',hb',hc,decide_true,Bool.true_and]
    cases i with
    | zero => exact (loop_next (by unfold lQLX0; simp [rQLX0,rQLX1,rQLX2,rQLX3,rQLX4,rQLX5,rQLX6,rQLX7,h1,hlt,ha,hb,hw,ints_length,ints_get,intsAt,idx])).trans ih
    | succ j =>
      rw [prev_succ l j (by omega)] at hc
      have hj : j < l.length := by omega
      have hj1 : (j : Int) < l.length := by omega
      have hc' : ¬ l[j + 1] <= l[j] := by omega
      have hp : (0 : Int) < (j : Int) + 1 := by omega
      have hp0 : (0 : Int) <= (j : Int) + 1 := by omega
      have hw2 := wrapN (i := j) (by omega)
      have h1 : (j : Int) + 1 < l.length := by omega
      have hw : IntKind.i64.wrap ((j : Int) + 1 + 1) = (j : Int) + 1 + 1 := wrapZ (j := j + 1 + 1) rfl (by omega)
      exact (loop_next (by unfold lQLX0; simp [rQLX0,rQLX1,rQLX2,rQLX3,rQLX4,rQLX5,rQLX6,rQLX7,h1,hlt,ha,hb,hc',hj,hj1,hp,hp0,hw,hw2,ints_length,ints_get,intsAt,idx])).trans ih
   ·simp only [ha',hb',hc,decide_true,decide_false,Bool.false_and,Bool.true_and,Bool.false_eq_true,if_false]
    cases i with
    | zero => exact absurd (show prev l 0 < l[0] by rw [prev_zero]; omega) hc
    | succ j =>
      rw [prev_succ l j (by omega)] at hc
      have hj : j < l.length := by omega
      have hj1 : (j : Int) < l.length := by omega
      have hc' : l[j + 1] <= l[j] := by omega
      have hp : (0 : Int) < (j : Int) + 1 := by omega
      have hp0 : (0 : Int) <= (j : Int) + 1 := by omega
      have hw2 := wrapN (i := j) (by omega)
      have h1 : (j : Int) + 1 < l.length := by omega
      have hw : IntKind.i64.wrap ((j : Int) + 1 + 1) = (j : Int) + 1 + 1 := wrapZ (j := j + 1 + 1) rfl (by omega)
      exact loop_ret (by unfold lQLX0; simp [rQLX0,rQLX1,rQLX2,rQLX3,rQLX4,rQLX5,rQLX6,rQLX7,h1,hlt,ha,hb,hc',hj,hj1,hp,hp0,hw,hw2,ints_length,ints_get,intsAt,idx])
theorem nvalid_run (m : Int) (l : List Int) (hl : l.length < 4294967297) : callL cfgS nQL [.list 1 (ints l),.int .i64 m] [] = some (.bool (valGo m (-1) l),[]) := by
 rw [callL_end oQL sQL (Nat.le_of_ble_eq_true rfl)]
 have h := nvalid_loop m l hl l.length 0 (by omega)
 rw [nat0,prev_zero,List.drop_zero] at h
 unfold qQL cQL
 by_cases hx : valGo m (-1) l = true
 ·simp [rQLX0,rQLX1,rQLX2,rQLX3,rQLX4,rQLX5,rQLX6,rQLX7,h,hx,ints_length,endL,finB]
 ·simp [rQLX0,rQLX1,rQLX2,rQLX3,rQLX4,rQLX5,rQLX6,rQLX7,h,hx,ints_length,endL,finB]
theorem nan_run (x : Int) : callL cfgS nQS [.int .i64 x] [] = some (.bool false,[]) := by
 rw [callL_end oQS sQS (Nat.le_of_ble_eq_true rfl)]
 unfold qQS cQS
 simp [rQSX0,rQSX1,endL,finB]
def cmpI (x y : Int) : Int := if x < y then -1 else if y < x then 1 else 0
theorem cmpI_run (x y : Int) : callL cfgS nQP [.int .i64 x,.int .i64 y] [] = some (.int .i64 (cmpI x y),[]) := by
 rw [callL_end oQP sQP (Nat.le_of_ble_eq_true rfl)]
 have hx := nan_run x
 have hy := nan_run y
 unfold qQP cQP cmpI
 by_cases h1 : x < y
 ·simp [rQPX0,rQPX1,rQPX2,rQPX3,rQPX4,rQPX5,rQPX6,rQPX7,rQPX8,rQPX9,rQPX10,rQPX11,rQPX12,rQPX13,hx,hy,h1,sQS,iQS,vQS,endL,finB]
 ·by_cases h2 : y < x
  ·simp [rQPX0,rQPX1,rQPX2,rQPX3,rQPX4,rQPX5,rQPX6,rQPX7,rQPX8,rQPX9,rQPX10,rQPX11,rQPX12,rQPX13,hx,hy,h1,h2,sQS,iQS,vQS,endL,finB]
  ·simp [rQPX0,rQPX1,rQPX2,rQPX3,rQPX4,rQPX5,rQPX6,rQPX7,rQPX8,rQPX9,rQPX10,rQPX11,rQPX12,rQPX13,hx,hy,h1,h2,sQS,iQS,vQS,endL,finB]
/- What the bits of biclique return: TrailingZeros64, list, mask. -/
set_option maxHeartbeats 4000000
theorem gl_tab : cfgS.gl 0 = tabZ.map (AV.int .u8) := rfl
theorem tab_at : ∀ k,k < 64 -> 2 ^ k * 285870213051353865 % 18446744073709551616 / 288230376151711744 < 64 /\ (tabZ.map (AV.int .u8)).drop (2 ^ k * 285870213051353865 % 18446744073709551616 / 288230376151711744) = .int .u8 (k : Nat) :: (tabZ.map (AV.int .u8)).drop (2 ^ k * 285870213051353865 % 18446744073709551616 / 288230376151711744 + 1) := by
 intro k hk
 have h1 : ∀ k,k < 64 -> 2 ^ k * 285870213051353865 % 18446744073709551616 / 288230376151711744 < 64 /\ tabZ[2 ^ k * 285870213051353865 % 18446744073709551616 / 288230376151711744]? = some ((k : Nat) : Int) := by decide +kernel
 obtain ⟨a,b⟩ := h1 k hk
 refine ⟨a,?_⟩
 generalize 2 ^ k * 285870213051353865 % 18446744073709551616 / 288230376151711744 = j at a b
 obtain ⟨hj,e⟩ := List.getElem?_eq_some_iff.1 b
 rw [List.drop_eq_getElem_cons (by simpa using hj),List.getElem_map,e]
theorem powc (n : Nat) : (2 : Int) ^ n = ((2 ^ n : Nat) : Int) := by simp
theorem bin_shr (q s : Nat) (hs : s < 64) : binA .shr (.int .u64 (q : Int)) (.int .u64 (s : Int)) = some (.int .u64 ((q / 2 ^ s : Nat) : Int)) := by
 unfold binA
 simp only
 have hp : 0 < 2 ^ s := Nat.two_pow_pos s
 rw [if_neg (by omega),show min (s : Int).toNat IntKind.u64.bits = s by (show min (s : Int).toNat 64 = s); omega,powc,Int.fdiv_eq_ediv_of_nonneg _ (Int.natCast_nonneg _)]
 rfl
theorem bin_and (a b : Nat) (ha : a < 18446744073709551616) (hb : b < 18446744073709551616) : binA .and (.int .u64 (a : Int)) (.int .u64 (b : Int)) = some (.int .u64 ((a &&& b : Nat) : Int)) := by
 unfold binA
 simp only [if_true,arith,u64_and_nat a b ha hb]
theorem bin_mul (a b : Nat) : binA .mul (.int .u64 (a : Int)) (.int .u64 (b : Int)) = some (.int .u64 ((a * b % 18446744073709551616 : Nat) : Int)) := by
 unfold binA
 simp only [if_true,arith,IntKind.wrap_u64]
 rw [<- Int.natCast_mul]
 rfl
theorem opsB_app {c : Cfg} {call : Nat -> List AV -> Heap -> Option (AV × Heap)} : ∀ (a b : List O) (s : St) {s' s'' : St} {f g : List Fq},opsB c call a s = some (s',f) -> opsB c call b s' = some (s'',g) -> opsB c call (a ++ b) s = some (s'',f ++ g)
 | [],b,s,s',s'',f,g,h,k => by
   simp only [opsB,Option.some.injEq,Prod.mk.injEq] at h
   obtain ⟨rfl,rfl⟩ := h
   exact k
 | o :: r,b,s,s',s'',f,g,h,k => by
   simp only [opsB,List.cons_append] at h ⊢
   split at h
   case h_2 => cases h
   rename_i s1 fl h1
   split at h
   case h_2 => cases h
   rename_i s2 fls h2
   simp only [Option.some.injEq,Prod.mk.injEq] at h
   obtain ⟨rfl,rfl⟩ := h
   rw [opsB_app r b s1 h2 k]
   rfl
theorem tz_a (x : Nat) (h0 : x ≠ 0) (hx : x < 18446744073709551616) : ∃ (y p q j : Int) (T : List AV),opsB cfgS (callL cfgS) (rQAX3.take 6) ⟨[(0,.int .u64 x),(4,.bool false)],[]⟩ = some (⟨[(0,.int .u64 x),(4,.bool false),(5,.int .u64 x),(6,.int .u64 x),(7,.int .u64 y),(8,.int .u64 p),(9,.int .u64 q),(10,.int .u64 j)],[]⟩,[.no,.no,.no,.no,.no,.no]) /\ (0 <= j /\ j < 64) /\ (cfgS.gl 0).drop j.toNat = .int .u8 (tz x : Nat) :: T /\ tz x < 64 := by
 obtain ⟨e1,e2⟩ := Lib.lowest_bit 64 x h0 hx
 have e2 : tz x < 64 := e2
 have e1 : x &&& (18446744073709551616 - x) = 2 ^ tz x := e1
 obtain ⟨e3,e4⟩ := tab_at (tz x) e2
 have b1 : binA .eql (.int .u64 (x : Int)) (.int .u64 0) = some (.bool false) := by
  have : ((x : Int) == 0) = false := by rw [beq_eq_false_iff_ne]; omega
  unfold binA
  simp only [if_true,arith,this]
 have u1 : unA .neg (.int .u64 (x : Int)) = some (.int .u64 ((18446744073709551616 - x : Nat) : Int)) := by
  unfold unA
  simp only [IntKind.wrap_u64]
  rw [show (0 - (x : Int)) % 18446744073709551616 = ((18446744073709551616 - x : Nat) : Int) by omega]
 have b2 := bin_and x (18446744073709551616 - x) hx (by omega)
 rw [e1] at b2
 have b3 := bin_mul (2 ^ tz x) 285870213051353865
 have b4 := bin_shr (2 ^ tz x * 285870213051353865 % 18446744073709551616) 58 (by omega)
 rw [show (2 ^ 58 : Nat) = 288230376151711744 from rfl] at b4
 generalize 2 ^ tz x * 285870213051353865 % 18446744073709551616 / 288230376151711744 = j at *
 generalize 2 ^ tz x * 285870213051353865 % 18446744073709551616 = q at *
 generalize 2 ^ tz x = p at *
 have b3 : binA .mul (.int .u64 (p : Int)) (.int .u64 285870213051353865) = some (.int .u64 (q : Int)) := b3
 have b4 : binA .shr (.int .u64 (q : Int)) (.int .u64 58) = some (.int .u64 (j : Int)) := b4
 have f5 : (j : Int) < 64 := by omega
 have f6 : IntKind.i64.wrap ((tz x : Nat) : Int) = ((tz x : Nat) : Int) := wrapN (by omega)
 clear e1
 generalize tz x = z at *
 generalize 18446744073709551616 - x = y at *
 generalize (x : Int) = X at *
 generalize hC : (285870213051353865 : Int) = C at *
 rw [<- gl_tab] at e4
 refine ⟨y,p,q,j,_,?_,⟨by omega,f5⟩,by rw [show (j : Int).toNat = j by omega]; exact e4,e2⟩
 clear e4 e3 e2 f6
 generalize (j : Int) = J at *
 generalize (q : Int) = Q at *
 generalize (p : Int) = Pp at *
 generalize (y : Int) = Y at *
 unfold rQAX3
 simp [rQAX0,rQAX1,rQAX2,rQAX3,List.take_succ_cons,List.take_zero,b1,u1,b2,hC,b3,b4,blk,eds_length,eds_get,edsAt,edAV,allLeaf_eds,cleanL_eds,cleanL_ints,ints_length,ints_get,intsAt,endL,finB,-binA,-unA,-unA]
theorem tz_b (X Y Pp Q J : Int) (z : Nat) (T : List AV) (h0 : 0 <= J) (h1 : J < 64) (hz : z < 64) (h : (cfgS.gl 0).drop J.toNat = .int .u8 (z : Nat) :: T) : ∃ T',opsB cfgS (callL cfgS) (rQAX3.drop 6) ⟨[(0,.int .u64 X),(4,.bool false),(5,.int .u64 X),(6,.int .u64 X),(7,.int .u64 Y),(8,.int .u64 Pp),(9,.int .u64 Q),(10,.int .u64 J)],[]⟩ = some (⟨[(0,.int .u64 X),(2,.int .i64 (z : Nat)),(4,.bool false),(5,.int .u64 X),(6,.int .u64 X),(7,.int .u64 Y),(8,.int .u64 Pp),(9,.int .u64 Q),(10,.int .u64 J),(11,.fptr T'),(12,.int .u8 (z : Nat)),(13,.int .i64 (z : Nat))],[]⟩,[.no,.rd [],.no,.no]) := by
 refine ⟨.int .u8 (z : Nat) :: T,?_⟩
 have hw := wrapN (i := z) (by omega)
 generalize hG : cfgS.gl 0 = G at *
 unfold rQAX3
 simp [rQAX0,rQAX1,rQAX2,rQAX3,List.drop_succ_cons,List.drop_zero,h0,h1,hG,h,hw,idx,blk,eds_length,eds_get,edsAt,edAV,allLeaf_eds,cleanL_eds,cleanL_ints,ints_length,ints_get,intsAt,endL,finB]
theorem tz_run (x : Nat) (h0 : x ≠ 0) (hx : x < 18446744073709551616) : callL cfgS nQA [.int .u64 x] [] = some (.int .i64 (tz x : Nat),[]) := by
 rw [callL_end oQA sQA (Nat.le_of_ble_eq_true rfl)]
 obtain ⟨y,p,q,j,T,r1,⟨j0,j1⟩,r2,r3⟩ := tz_a x h0 hx
 obtain ⟨T',r4⟩ := tz_b x y p q j (tz x) T j0 j1 r3 r2
 have r5 := opsB_app _ _ _ r1 r4
 rw [List.take_append_drop] at r5
 have r6 : codeL cfgS 0 (.reg rQAX3 false [] [2]) ⟨[(0,.int .u64 x),(4,.bool false)],[]⟩ = some (.normal,⟨[(2,.int .i64 (tz x : Nat))],[]⟩) := by
  rw [codeL_reg,r5]
  clear r1 r2 r3 r4 r5
  simp [regL_s,endR,hasOwnE,hasOwn,endK,keepIn,trim,mem_nil',mem_cons']
 have b1 : binA .eql (.int .u64 (x : Int)) (.int .u64 0) = some (.bool false) := by
  have : ((x : Int) == 0) = false := by rw [beq_eq_false_iff_ne]; omega
  unfold binA
  simp only [if_true,arith,this]
 clear r1 r2 r3 r4 r5 h0 hx
 generalize ((tz x : Nat) : Int) = z at *
 generalize (x : Int) = X at *
 have r7 : codeL cfgS 0 (.reg rQAX1 false [] [0,4]) ⟨[(0,.int .u64 X)],[]⟩ = some (.normal,⟨[(0,.int .u64 X),(4,.bool false)],[]⟩) := by
  unfold rQAX1
  simp [rQOX0,rQOX1,rQOX2,rQOX3,rQOX4,rQOX5,rQOX6,rQOX7,rQOX8,b1,blk,eds_length,eds_get,edsAt,edAV,allLeaf_eds,cleanL_eds,cleanL_ints,ints_length,ints_get,intsAt,endL,finB,-binA]
 have r8 : codeL cfgS 0 (.reg rQAX0 false [] [0]) ⟨[(0,.int .u64 X)],[]⟩ = some (.normal,⟨[(0,.int .u64 X)],[]⟩) := by
  unfold rQAX0
  simp [rQOX0,rQOX1,rQOX2,rQOX3,rQOX4,rQOX5,rQOX6,rQOX7,rQOX8,blk,eds_length,eds_get,edsAt,edAV,allLeaf_eds,cleanL_eds,cleanL_ints,ints_length,ints_get,intsAt,endL,finB]
 show endL cfgS _ _ 0 (codeL cfgS 0 cQA ⟨[(0,.int .u64 X)],[]⟩) = _
 unfold cQA
 rw [codeL_seq,r8,thenL_n,codeL_seq,codeL_seq,r7,thenL_n,codeL_cnd]
 show endL cfgS _ _ 0 (thenL cfgS 0 _ (codeL cfgS 0 .skip ⟨[(0,.int .u64 X),(4,.bool false)],[]⟩)) = _
 rw [codeL_skip,thenL_n,codeL_seq,r6,thenL_n,codeL_ret]
 simp [endL,finB,qQA,resVs,resV,opnd,lend,get_cons',tupOf,frzV,frzR]
/- What graph.Check and what it calls returns. -/
theorem or_run (a b : Int) : callL cfgS nQO [.list 1 [.int .i64 a,.int .i64 b]] [] = some (.int .i64 (if a = 0 then b else a),[]) := by
 rw [callL_end oQO sQO (Nat.le_of_ble_eq_true rfl)]
 have t2 : IntKind.i64.wrap 2 = 2 := by decide
 have l3 : codeL cfgS 0 (.loop lQOX0) ⟨[(3,.int .i64 0),(6,.list 1 [.int .i64 a,.int .i64 b]),(7,.int .i64 2),(8,.int .i64 2)],[]⟩ = some (.exit 0,⟨[(3,.int .i64 0),(6,.list 1 [.int .i64 a,.int .i64 b]),(7,.int .i64 2),(8,.int .i64 2),(9,.bool false)],[]⟩) :=
  loop_exit (by unfold lQOX0; simp [rQOX0,rQOX1,rQOX2,rQOX3,rQOX4,rQOX5,rQOX6,rQOX7,rQOX8,blk,eds_length,eds_get,edsAt,edAV,allLeaf_eds,cleanL_eds,cleanL_ints,ints_length,ints_get,intsAt,endL,finB])
 have l2 : codeL cfgS 0 (.loop lQOX0) ⟨[(3,.int .i64 0),(6,.list 1 [.int .i64 a,.int .i64 b]),(7,.int .i64 2),(8,.int .i64 1)],[]⟩ = if b = 0 then some (.exit 0,⟨[(3,.int .i64 0),(6,.list 1 [.int .i64 a,.int .i64 b]),(7,.int .i64 2),(8,.int .i64 2),(9,.bool false)],[]⟩) else some (.ret,⟨[(2,.int .i64 b)],[]⟩) := by
  by_cases hb : b = 0
  ·subst hb
   rw [if_pos rfl]
   exact (loop_next (by unfold lQOX0; simp [rQOX0,rQOX1,rQOX2,rQOX3,rQOX4,rQOX5,rQOX6,rQOX7,rQOX8,idx,t2,blk,eds_length,eds_get,edsAt,edAV,allLeaf_eds,cleanL_eds,cleanL_ints,ints_length,ints_get,intsAt,endL,finB])).trans l3
  ·rw [if_neg hb]
   exact loop_ret (by unfold lQOX0; simp [rQOX0,rQOX1,rQOX2,rQOX3,rQOX4,rQOX5,rQOX6,rQOX7,rQOX8,hb,idx,blk,eds_length,eds_get,edsAt,edAV,allLeaf_eds,cleanL_eds,cleanL_ints,ints_length,ints_get,intsAt,endL,finB])
 have l1 : codeL cfgS 0 (.loop lQOX0) ⟨[(3,.int .i64 0),(6,.list 1 [.int .i64 a,.int .i64 b]),(7,.int .i64 2),(8,.int .i64 0)],[]⟩ = if a = 0 then (if b = 0 then some (.exit 0,⟨[(3,.int .i64 0),(6,.list 1 [.int .i64 a,.int .i64 b]),(7,.int .i64 2),(8,.int .i64 2),(9,.bool false)],[]⟩) else some (.ret,⟨[(2,.int .i64 b)],[]⟩)) else some (.ret,⟨[(2,.int .i64 a)],[]⟩) := by
  by_cases ha : a = 0
  ·subst ha
   rw [if_pos rfl]
   exact (loop_next (by unfold lQOX0; simp [rQOX0,rQOX1,rQOX2,rQOX3,rQOX4,rQOX5,rQOX6,rQOX7,rQOX8,idx,blk,eds_length,eds_get,edsAt,edAV,allLeaf_eds,cleanL_eds,cleanL_ints,ints_length,ints_get,intsAt,endL,finB])).trans l2
  ·rw [if_neg ha]
   exact loop_ret (by unfold lQOX0; simp [rQOX0,rQOX1,rQOX2,rQOX3,rQOX4,rQOX5,rQOX6,rQOX7,rQOX8,ha,idx,blk,eds_length,eds_get,edsAt,edAV,allLeaf_eds,cleanL_eds,cleanL_ints,ints_length,ints_get,intsAt,endL,finB])
 clear l2 l3
 unfold qQO cQO
 by_cases ha : a = 0
 ·subst ha
  rw [if_pos rfl] at l1
  by_cases hb : b = 0
  ·subst hb
   rw [if_pos rfl] at l1
   simp [rQOX0,rQOX1,rQOX2,rQOX3,rQOX4,rQOX5,rQOX6,rQOX7,rQOX8,l1,blk,eds_length,eds_get,edsAt,edAV,allLeaf_eds,cleanL_eds,cleanL_ints,ints_length,ints_get,intsAt,endL,finB]
  ·rw [if_neg hb] at l1
   simp [rQOX0,rQOX1,rQOX2,rQOX3,rQOX4,rQOX5,rQOX6,rQOX7,rQOX8,l1,hb,blk,eds_length,eds_get,edsAt,edAV,allLeaf_eds,cleanL_eds,cleanL_ints,ints_length,ints_get,intsAt,endL,finB]
 ·rw [if_neg ha] at l1
  simp [rQOX0,rQOX1,rQOX2,rQOX3,rQOX4,rQOX5,rQOX6,rQOX7,rQOX8,l1,ha,blk,eds_length,eds_get,edsAt,edAV,allLeaf_eds,cleanL_eds,cleanL_ints,ints_length,ints_get,intsAt,endL,finB]
def ordI (a b : Ed) : Int := if cmpI a.1 b.1 = 0 then cmpI a.2 b.2 else cmpI a.1 b.1
theorem ordI_ge (a b : Ed) : 0 <= ordI a b ↔ ¬ ltE a b := by
 unfold ordI cmpI ltE
 by_cases h1 : a.1 < b.1
 ·simp [h1]
 ·by_cases h2 : b.1 < a.1
  ·have : ¬ a.1 = b.1 := by omega
   simp [h1,h2,this]
  ·have : a.1 = b.1 := by omega
   simp only [h1,h2,this,if_false,if_true,true_and,false_or]
   by_cases h3 : a.2 < b.2
   ·simp [h3]
   ·by_cases h4 : b.2 < a.2 <;> simp [h3,h4]
theorem order_run (a b : Ed) : callL cfgS nQF [.agg [.int .i64 a.1,.int .i64 a.2],.agg [.int .i64 b.1,.int .i64 b.2]] [] = some (.int .i64 (ordI a b),[]) := by
 rw [callL_end oQF sQF (Nat.le_of_ble_eq_true rfl)]
 have c1 := cmpI_run a.1 b.1
 have c2 := cmpI_run a.2 b.2
 have c3 := or_run (cmpI a.1 b.1) (cmpI a.2 b.2)
 unfold qQF cQF ordI
 simp [rQFX0,rQFX1,c1,c2,c3,sQP,iQP,vQP,sQO,iQO,vQO,blk,eds_length,eds_get,edsAt,edAV,allLeaf_eds,cleanL_eds,cleanL_ints,ints_length,ints_get,intsAt,endL,finB]
def prevE (l : List Ed) (i : Nat) : Option Ed := if i = 0 then none else l[i - 1]?
theorem prevE_zero (l : List Ed) : prevE l 0 = none := rfl
theorem prevE_succ (l : List Ed) (i : Nat) (h : i < l.length) : prevE l (i + 1) = some l[i] := by simp [prevE,h]
theorem gchk_loop (m : Int) (l : List Ed) (hl : l.length < 4294967297) : ∀ n i : Nat,i + n = l.length -> codeL cfgS 0 (.loop lQtX0) ⟨[(1,.ptr 0 0),(14,.list 2 (eds l)),(15,.int .i64 l.length),(16,.int .i64 i)],[some [.int .i64 m,.list 2 (eds l)]]⟩ =
  if chkGo m (prevE l i) (l.drop i) = 0 then some (.exit 0,⟨[(1,.ptr 0 0),(14,.list 2 (eds l)),(15,.int .i64 l.length),(16,.int .i64 l.length),(17,.bool false)],[some [.int .i64 m,.list 2 (eds l)]]⟩) else some (.ret,⟨[(2,.int .i64 (chkGo m (prevE l i) (l.drop i)))],[]⟩)
 | 0,i,hi => by
   have e : i = l.length := by omega
   subst e
   rw [List.drop_length]
   exact loop_exit (by unfold lQtX0; simp [rQtX0,rQtX1,rQtX2,rQtX3,rQtX4,rQtX5,rQtX6,rQtX7,rQtX8,rQtX9,rQtX10,rQtX11,blk,eds_length,eds_get,edsAt,edAV,allLeaf_eds,cleanL_eds,cleanL_ints,ints_length,ints_get,intsAt,endL,finB])
 | n + 1,i,hi => by
   have hlt : i < l.length := by omega
   have h1 : (i : Int) < l.length := by omega
   have ih := gchk_loop m l hl n (i + 1) (by omega)
   have hw := wrapS (i := i) (by omega)
   rw [prevE_succ l i hlt] at ih
   rw [List.drop_eq_getElem_cons hlt]
   by_cases ha : l[i].1 < 0
   ·have e : chkGo m (prevE l i) (l[i] :: l.drop (i + 1)) = 6 := by unfold chkGo; rw [if_pos (.inl ha)]
    rw [e]
    exact loop_ret (by unfold lQtX0; simp [rQtX0,rQtX1,rQtX2,rQtX3,rQtX4,rQtX5,rQtX6,rQtX7,rQtX8,rQtX9,rQtX10,rQtX11,h1,hlt,ha,idx,blk,eds_length,eds_get,edsAt,edAV,allLeaf_eds,cleanL_eds,cleanL_ints,ints_length,ints_get,intsAt,endL,finB])
   by_cases hb : l[i].2 <= l[i].1
   ·have e : chkGo m (prevE l i) (l[i] :: l.drop (i + 1)) = 6 := by unfold chkGo; rw [if_pos (.inr (.inl hb))]
    rw [e]
    exact loop_ret (by unfold lQtX0; simp [rQtX0,rQtX1,rQtX2,rQtX3,rQtX4,rQtX5,rQtX6,rQtX7,rQtX8,rQtX9,rQtX10,rQtX11,h1,hlt,ha,hb,idx,blk,eds_length,eds_get,edsAt,edAV,allLeaf_eds,cleanL_eds,cleanL_ints,ints_length,ints_get,intsAt,endL,finB])
   by_cases hc : m <= l[i].2
   ·have e : chkGo m (prevE l i) (l[i] :: l.drop (i + 1)) = 6 := by unfold chkGo; rw [if_pos (.inr (.inr hc))]
    rw [e]
    exact loop_ret (by unfold lQtX0; simp [rQtX0,rQtX1,rQtX2,rQtX3,rQtX4,rQtX5,rQtX6,rQtX7,rQtX8,rQtX9,rQtX10,rQtX11,h1,hlt,ha,hb,hc,idx,blk,eds_length,eds_get,edsAt,edAV,allLeaf_eds,cleanL_eds,cleanL_ints,ints_length,ints_get,intsAt,endL,finB])
   have hn : ¬ (l[i].1 < 0 \/ l[i].2 <= l[i].1 \/ m <= l[i].2) := by omega
   cases i with
   | zero =>
     have e : chkGo m (prevE l 0) (l[0] :: l.drop (0 + 1)) = chkGo m (some l[0]) (l.drop (0 + 1)) := by
      conv => lhs; unfold chkGo
      rw [if_neg hn,prevE_zero,if_neg (show ¬ badP none l[0] from fun h => h)]
     rw [e]
     exact (loop_next (by unfold lQtX0; simp [rQtX0,rQtX1,rQtX2,rQtX3,rQtX4,rQtX5,rQtX6,rQtX7,rQtX8,rQtX9,rQtX10,rQtX11,h1,hlt,ha,hb,hc,hw,idx,blk,eds_length,eds_get,edsAt,edAV,allLeaf_eds,cleanL_eds,cleanL_ints,ints_length,ints_get,intsAt,endL,finB])).trans ih
   | succ j =>
     have hj : j < l.length := by omega
     have hj1 : (j : Int) < l.length := by omega
     have hp : (0 : Int) < (j : Int) + 1 := by omega
     have hp0 : (0 : Int) <= (j : Int) + 1 := by omega
     have hw2 := wrapN (i := j) (by omega)
     have h1 : (j : Int) + 1 < l.length := by omega
     have hw : IntKind.i64.wrap ((j : Int) + 1 + 1) = (j : Int) + 1 + 1 := wrapZ (j := j + 1 + 1) rfl (by omega)
     have ho := order_run l[j] l[j + 1]
     by_cases hd : 0 <= ordI l[j] l[j + 1]
     ·have e : chkGo m (prevE l (j + 1)) (l[j + 1] :: l.drop (j + 1 + 1)) = 5 := by
       unfold chkGo
       rw [if_neg hn,prevE_succ l j hj,if_pos (show badP (some l[j]) l[j + 1] from (ordI_ge _ _).1 hd)]
      rw [e]
      exact loop_ret (by unfold lQtX0; simp [rQtX0,rQtX1,rQtX2,rQtX3,rQtX4,rQtX5,rQtX6,rQtX7,rQtX8,rQtX9,rQtX10,rQtX11,h1,hlt,ha,hb,hc,hj,hj1,hp,hp0,hw2,ho,hd,idx,sQF,iQF,vQF,blk,eds_length,eds_get,edsAt,edAV,allLeaf_eds,cleanL_eds,cleanL_ints,ints_length,ints_get,intsAt,endL,finB])
     ·have hlt' : ltE l[j] l[j + 1] := by
       apply Decidable.not_not.1
       exact fun k => hd ((ordI_ge _ _).2 k)
      have e : chkGo m (prevE l (j + 1)) (l[j + 1] :: l.drop (j + 1 + 1)) = chkGo m (some l[j + 1]) (l.drop (j + 1 + 1)) := by
       conv => lhs; unfold chkGo
       rw [if_neg hn,prevE_succ l j hj,if_neg (show ¬ badP (some l[j]) l[j + 1] from fun k => k hlt')]
      rw [e]
      exact (loop_next (by unfold lQtX0; simp [rQtX0,rQtX1,rQtX2,rQtX3,rQtX4,rQtX5,rQtX6,rQtX7,rQtX8,rQtX9,rQtX10,rQtX11,h1,hlt,ha,hb,hc,hj,hj1,hp,hp0,hw,hw2,ho,hd,idx,sQF,iQF,vQF,blk,eds_length,eds_get,edsAt,edAV,allLeaf_eds,cleanL_eds,cleanL_ints,ints_length,ints_get,intsAt,endL,finB])).trans ih
theorem gchk_run (m : Int) (l : List Ed) (hl : l.length < 4294967297) : callL cfgS nQt [.agg [.int .i64 m,.list 2 (eds l)]] [] = some (.int .i64 (chkG m l),[]) := by
 rw [callL_end oQt sQt (Nat.le_of_ble_eq_true rfl)]
 have h := gchk_loop m l hl l.length 0 (by omega)
 rw [nat0,List.drop_zero,prevE_zero] at h
 unfold qQt cQt chkG
 by_cases ha : m < 0
 ·simp [rQtX0,rQtX1,rQtX2,rQtX3,rQtX4,rQtX5,rQtX6,rQtX7,rQtX8,rQtX9,rQtX10,rQtX11,ha,blk,eds_length,eds_get,edsAt,edAV,allLeaf_eds,cleanL_eds,cleanL_ints,ints_length,ints_get,intsAt,endL,finB]
 by_cases hb : 64 < m
 ·simp [rQtX0,rQtX1,rQtX2,rQtX3,rQtX4,rQtX5,rQtX6,rQtX7,rQtX8,rQtX9,rQtX10,rQtX11,ha,hb,blk,eds_length,eds_get,edsAt,edAV,allLeaf_eds,cleanL_eds,cleanL_ints,ints_length,ints_get,intsAt,endL,finB]
 rw [if_neg (by omega)]
 by_cases hc : chkGo m none l = 0
 ·rw [if_pos hc] at h
  rw [hc]
  simp [rQtX0,rQtX1,rQtX2,rQtX3,rQtX4,rQtX5,rQtX6,rQtX7,rQtX8,rQtX9,rQtX10,rQtX11,ha,hb,h,blk,eds_length,eds_get,edsAt,edAV,allLeaf_eds,cleanL_eds,cleanL_ints,ints_length,ints_get,intsAt,endL,finB]
 ·rw [if_neg hc] at h
  simp [rQtX0,rQtX1,rQtX2,rQtX3,rQtX4,rQtX5,rQtX6,rQtX7,rQtX8,rQtX9,rQtX10,rQtX11,ha,hb,h,blk,eds_length,eds_get,edsAt,edAV,allLeaf_eds,cleanL_eds,cleanL_ints,ints_length,ints_get,intsAt,endL,finB]
/- What functions of cohesionref03 return: Before, edge, ends, with, Of, Check. -/
theorem before_run (a b : Ed) : callL cfgS nQG [.agg [.int .i64 a.1,.int .i64 a.2],.agg [.int .i64 b.1,.int .i64 b.2]] [] = some (.bool (decide (ltE a b)),[]) := by
 rw [callL_end oQG sQG (Nat.le_of_ble_eq_true rfl)]
 unfold qQG cQG ltE
 by_cases h1 : a.1 < b.1
 ·simp [rQGX0,rQGX1,h1,blk,eds_length,eds_get,edsAt,edAV,allLeaf_eds,cleanL_eds,cleanL_ints,ints_length,ints_get,intsAt,endL,finB]
 ·by_cases h2 : a.1 = b.1
  ·by_cases h3 : a.2 < b.2
   ·simp [rQGX0,rQGX1,h1,h2,h3,blk,eds_length,eds_get,edsAt,edAV,allLeaf_eds,cleanL_eds,cleanL_ints,ints_length,ints_get,intsAt,endL,finB]
   ·simp [rQGX0,rQGX1,h1,h2,h3,blk,eds_length,eds_get,edsAt,edAV,allLeaf_eds,cleanL_eds,cleanL_ints,ints_length,ints_get,intsAt,endL,finB]
  ·simp [rQGX0,rQGX1,h1,h2,blk,eds_length,eds_get,edsAt,edAV,allLeaf_eds,cleanL_eds,cleanL_ints,ints_length,ints_get,intsAt,endL,finB]
theorem edge_run (u v : Int) : callL cfgS nQx [.int .i64 u,.int .i64 v] [] = some (.agg [.int .i64 (nrmE u v).1,.int .i64 (nrmE u v).2],[]) := by
 rw [callL_end oQx sQx (Nat.le_of_ble_eq_true rfl)]
 unfold qQx cQx nrmE
 simp [rQxX0,rQxX1,blk,eds_length,eds_get,edsAt,edAV,allLeaf_eds,cleanL_eds,cleanL_ints,ints_length,ints_get,intsAt,endL,finB]
/- What functions of cohesionref03 return: Of, Check, Find. -/
def ofSt (n : Int) (l : List Ed) (E : AV) (i : Int) : St := ⟨[(0,.int .i64 n),(4,.ptr 0 0),(6,.ptr 1 0),(18,.list 2 (eds l)),(19,.int .i64 l.length),(20,.int .i64 i)],[some [.int .i64 0,.own 2 []],some [.int .i64 n,E]]⟩
def ofEnd (n : Int) (l : List Ed) (E : AV) : St := ⟨[(0,.int .i64 n),(4,.ptr 0 0),(6,.ptr 1 0),(18,.list 2 (eds l)),(19,.int .i64 l.length),(20,.int .i64 l.length),(21,.bool false)],[some [.int .i64 0,.own 2 []],some [.int .i64 n,E]]⟩
theorem rchk_loop (m : Int) (l : List Ed) (hl : l.length < 4294967297) : ∀ n i : Nat,i + n = l.length -> codeL cfgS 0 (.loop lQuX0) ⟨[(1,.ptr 0 0),(14,.list 2 (eds l)),(15,.int .i64 l.length),(16,.int .i64 i)],[some [.int .i64 m,.list 2 (eds l)]]⟩ =
  if chkGo m (prevE l i) (l.drop i) = 0 then some (.exit 0,⟨[(1,.ptr 0 0),(14,.list 2 (eds l)),(15,.int .i64 l.length),(16,.int .i64 l.length),(17,.bool false)],[some [.int .i64 m,.list 2 (eds l)]]⟩) else some (.ret,⟨[(2,.int .i64 (chkGo m (prevE l i) (l.drop i)))],[]⟩)
 | 0,i,hi => by
   have e : i = l.length := by omega
   subst e
   rw [List.drop_length]
   exact loop_exit (by unfold lQuX0; simp [rQuX0,rQuX1,rQuX2,rQuX3,rQuX4,rQuX5,rQuX6,rQuX7,rQuX8,rQuX9,rQuX10,rQuX11,blk,eds_length,eds_get,edsAt,edAV,allLeaf_eds,cleanL_eds,cleanL_ints,ints_length,ints_get,intsAt,endL,finB])
 | n + 1,i,hi => by
   have hlt : i < l.length := by omega
   have h1 : (i : Int) < l.length := by omega
   have ih := rchk_loop m l hl n (i + 1) (by omega)
   have hw := wrapS (i := i) (by omega)
   rw [prevE_succ l i hlt] at ih
   rw [List.drop_eq_getElem_cons hlt]
   by_cases ha : l[i].1 < 0
   ·have e : chkGo m (prevE l i) (l[i] :: l.drop (i + 1)) = 6 := by unfold chkGo; rw [if_pos (.inl ha)]
    rw [e]
    exact loop_ret (by unfold lQuX0; simp [rQuX0,rQuX1,rQuX2,rQuX3,rQuX4,rQuX5,rQuX6,rQuX7,rQuX8,rQuX9,rQuX10,rQuX11,h1,hlt,ha,idx,blk,eds_length,eds_get,edsAt,edAV,allLeaf_eds,cleanL_eds,cleanL_ints,ints_length,ints_get,intsAt,endL,finB])
   by_cases hb : l[i].2 <= l[i].1
   ·have e : chkGo m (prevE l i) (l[i] :: l.drop (i + 1)) = 6 := by unfold chkGo; rw [if_pos (.inr (.inl hb))]
    rw [e]
    exact loop_ret (by unfold lQuX0; simp [rQuX0,rQuX1,rQuX2,rQuX3,rQuX4,rQuX5,rQuX6,rQuX7,rQuX8,rQuX9,rQuX10,rQuX11,h1,hlt,ha,hb,idx,blk,eds_length,eds_get,edsAt,edAV,allLeaf_eds,cleanL_eds,cleanL_ints,ints_length,ints_get,intsAt,endL,finB])
   by_cases hc : m <= l[i].2
   ·have e : chkGo m (prevE l i) (l[i] :: l.drop (i + 1)) = 6 := by unfold chkGo; rw [if_pos (.inr (.inr hc))]
    rw [e]
    exact loop_ret (by unfold lQuX0; simp [rQuX0,rQuX1,rQuX2,rQuX3,rQuX4,rQuX5,rQuX6,rQuX7,rQuX8,rQuX9,rQuX10,rQuX11,h1,hlt,ha,hb,hc,idx,blk,eds_length,eds_get,edsAt,edAV,allLeaf_eds,cleanL_eds,cleanL_ints,ints_length,ints_get,intsAt,endL,finB])
   have hn : ¬ (l[i].1 < 0 \/ l[i].2 <= l[i].1 \/ m <= l[i].2) := by omega
   cases i with
   | zero =>
     have e : chkGo m (prevE l 0) (l[0] :: l.drop (0 + 1)) = chkGo m (some l[0]) (l.drop (0 + 1)) := by
      conv => lhs; unfold chkGo
      rw [if_neg hn,prevE_zero,if_neg (show ¬ badP none l[0] from fun h => h)]
     rw [e]
     exact (loop_next (by unfold lQuX0; simp [rQuX0,rQuX1,rQuX2,rQuX3,rQuX4,rQuX5,rQuX6,rQuX7,rQuX8,rQuX9,rQuX10,rQuX11,h1,hlt,ha,hb,hc,hw,idx,blk,eds_length,eds_get,edsAt,edAV,allLeaf_eds,cleanL_eds,cleanL_ints,ints_length,ints_get,intsAt,endL,finB])).trans ih
   | succ j =>
     have hj : j < l.length := by omega
     have hj1 : (j : Int) < l.length := by omega
     have hp : (0 : Int) < (j : Int) + 1 := by omega
     have hp0 : (0 : Int) <= (j : Int) + 1 := by omega
     have hw2 := wrapN (i := j) (by omega)
     have h1 : (j : Int) + 1 < l.length := by omega
     have hw : IntKind.i64.wrap ((j : Int) + 1 + 1) = (j : Int) + 1 + 1 := wrapZ (j := j + 1 + 1) rfl (by omega)
     have ho := before_run l[j] l[j + 1]
     by_cases hd : ltE l[j] l[j + 1]
     ·have e : chkGo m (prevE l (j + 1)) (l[j + 1] :: l.drop (j + 1 + 1)) = chkGo m (some l[j + 1]) (l.drop (j + 1 + 1)) := by
       conv => lhs; unfold chkGo
       rw [if_neg hn,prevE_succ l j hj,if_neg (show ¬ badP (some l[j]) l[j + 1] from fun k => k hd)]
      rw [e]
      exact (loop_next (by unfold lQuX0; simp [rQuX0,rQuX1,rQuX2,rQuX3,rQuX4,rQuX5,rQuX6,rQuX7,rQuX8,rQuX9,rQuX10,rQuX11,h1,hlt,ha,hb,hc,hj,hj1,hp,hp0,hw,hw2,ho,hd,idx,sQG,iQG,vQG,blk,eds_length,eds_get,edsAt,edAV,allLeaf_eds,cleanL_eds,cleanL_ints,ints_length,ints_get,intsAt,endL,finB])).trans ih
     ·have e : chkGo m (prevE l (j + 1)) (l[j + 1] :: l.drop (j + 1 + 1)) = 5 := by
       unfold chkGo
       rw [if_neg hn,prevE_succ l j hj,if_pos (show badP (some l[j]) l[j + 1] from hd)]
      rw [e]
      exact loop_ret (by unfold lQuX0; simp [rQuX0,rQuX1,rQuX2,rQuX3,rQuX4,rQuX5,rQuX6,rQuX7,rQuX8,rQuX9,rQuX10,rQuX11,h1,hlt,ha,hb,hc,hj,hj1,hp,hp0,hw2,ho,hd,idx,sQG,iQG,vQG,blk,eds_length,eds_get,edsAt,edAV,allLeaf_eds,cleanL_eds,cleanL_ints,ints_length,ints_get,intsAt,endL,finB])
theorem rchk_run (m : Int) (l : List Ed) (hl : l.length < 4294967297) : callL cfgS nQu [.agg [.int .i64 m,.list 2 (eds l)]] [] = some (.int .i64 (chkG m l),[]) := by
 rw [callL_end oQu sQu (Nat.le_of_ble_eq_true rfl)]
 have h := rchk_loop m l hl l.length 0 (by omega)
 rw [nat0,List.drop_zero,prevE_zero] at h
 unfold qQu cQu chkG
 by_cases ha : m < 0
 ·simp [rQuX0,rQuX1,rQuX2,rQuX3,rQuX4,rQuX5,rQuX6,rQuX7,rQuX8,rQuX9,rQuX10,rQuX11,ha,blk,eds_length,eds_get,edsAt,edAV,allLeaf_eds,cleanL_eds,cleanL_ints,ints_length,ints_get,intsAt,endL,finB]
 by_cases hb : 64 < m
 ·simp [rQuX0,rQuX1,rQuX2,rQuX3,rQuX4,rQuX5,rQuX6,rQuX7,rQuX8,rQuX9,rQuX10,rQuX11,ha,hb,blk,eds_length,eds_get,edsAt,edAV,allLeaf_eds,cleanL_eds,cleanL_ints,ints_length,ints_get,intsAt,endL,finB]
 rw [if_neg (by omega)]
 by_cases hc : chkGo m none l = 0
 ·rw [if_pos hc] at h
  rw [hc]
  simp [rQuX0,rQuX1,rQuX2,rQuX3,rQuX4,rQuX5,rQuX6,rQuX7,rQuX8,rQuX9,rQuX10,rQuX11,ha,hb,h,blk,eds_length,eds_get,edsAt,edAV,allLeaf_eds,cleanL_eds,cleanL_ints,ints_length,ints_get,intsAt,endL,finB]
 ·rw [if_neg hc] at h
  simp [rQuX0,rQuX1,rQuX2,rQuX3,rQuX4,rQuX5,rQuX6,rQuX7,rQuX8,rQuX9,rQuX10,rQuX11,ha,hb,h,blk,eds_length,eds_get,edsAt,edAV,allLeaf_eds,cleanL_eds,cleanL_ints,ints_length,ints_get,intsAt,endL,finB]
theorem find_loop (x : Ed) (u v : Int) (hx : nrmE u v = x) (l : List Ed) (hl : l.length < 4294967297) : ∀ n i : Nat,i + n = l.length -> codeL cfgS 0 (.loop lQwX0) ⟨[(1,.int .i64 u),(2,.int .i64 v),(13,.list 2 (eds l)),(14,.int .i64 l.length),(15,.int .i64 i)],[]⟩ =
  if x ∈ l.drop i then some (.ret,⟨[(6,.int .i64 (i + (l.drop i).idxOf x : Nat))],[]⟩) else some (.exit 0,⟨[(1,.int .i64 u),(2,.int .i64 v),(13,.list 2 (eds l)),(14,.int .i64 l.length),(15,.int .i64 l.length),(16,.bool false)],[]⟩)
 | 0,i,hi => by
   have e : i = l.length := by omega
   subst e
   rw [List.drop_length,if_neg (by simp)]
   exact loop_exit (by unfold lQwX0; simp [rQwX0,rQwX1,rQwX2,rQwX3,rQwX4,rQwX5,rQwX6,rQwX7,rQwX8,rQwX9,blk,eds_length,eds_get,edsAt,edAV,allLeaf_eds,cleanL_eds,cleanL_ints,ints_length,ints_get,intsAt,endL,finB])
 | n + 1,i,hi => by
   have hlt : i < l.length := by omega
   have h1 : (i : Int) < l.length := by omega
   have ih := find_loop x u v hx l hl n (i + 1) (by omega)
   have hw := wrapS (i := i) (by omega)
   have hg := edge_run u v
   rw [hx] at hg
   rw [List.drop_eq_getElem_cons hlt]
   by_cases he : l[i] = x
   ·have hx1 : l[i].1 = x.1 := by rw [he]
    have hx2 : l[i].2 = x.2 := by rw [he]
    rw [if_pos (by rw [he]; exact List.mem_cons_self),show (l[i] :: l.drop (i + 1)).idxOf x = 0 by rw [he]; exact List.idxOf_cons_self]
    exact loop_ret (by unfold lQwX0; simp [rQwX0,rQwX1,rQwX2,rQwX3,rQwX4,rQwX5,rQwX6,rQwX7,rQwX8,rQwX9,h1,hlt,hg,hx1,hx2,idx,sQx,iQx,vQx,blk,eds_length,eds_get,edsAt,edAV,allLeaf_eds,cleanL_eds,cleanL_ints,ints_length,ints_get,intsAt,endL,finB])
   ·have he2 : ¬ x = l[i] := fun e => he e.symm
    rw [show (l[i] :: l.drop (i + 1)).idxOf x = (l.drop (i + 1)).idxOf x + 1 by simp only [List.idxOf_cons]; rw [show (l[i] == x) = false by simpa using he]; rfl,show i + ((l.drop (i + 1)).idxOf x + 1) = i + 1 + (l.drop (i + 1)).idxOf x by omega]
    simp only [List.mem_cons,he2,false_or]
    by_cases hx1 : l[i].1 = x.1
    ·have hx2 : ¬ l[i].2 = x.2 := fun e => he (Prod.ext hx1 e)
     exact (loop_next (by unfold lQwX0; simp [rQwX0,rQwX1,rQwX2,rQwX3,rQwX4,rQwX5,rQwX6,rQwX7,rQwX8,rQwX9,h1,hlt,hg,hx1,hx2,hw,idx,sQx,iQx,vQx,blk,eds_length,eds_get,edsAt,edAV,allLeaf_eds,cleanL_eds,cleanL_ints,ints_length,ints_get,intsAt,endL,finB])).trans ih
    ·exact (loop_next (by unfold lQwX0; simp [rQwX0,rQwX1,rQwX2,rQwX3,rQwX4,rQwX5,rQwX6,rQwX7,rQwX8,rQwX9,h1,hlt,hg,hx1,hw,idx,sQx,iQx,vQx,blk,eds_length,eds_get,edsAt,edAV,allLeaf_eds,cleanL_eds,cleanL_ints,ints_length,ints_get,intsAt,endL,finB])).trans ih
theorem find_run (m : Int) (l : List Ed) (hl : l.length < 4294967297) (hG : GOK m l) (u v : Int) : callL cfgS nQw [.agg [.int .i64 m,.list 2 (eds l)],.int .i64 u,.int .i64 v] [] = some (.int .i64 (if nrmE u v ∈ l then (l.idxOf (nrmE u v) : Int) else -1),[]) := by
 rw [callL_end oQw sQw (Nat.le_of_ble_eq_true rfl)]
 have hc := rchk_run m l hl
 rw [chkG_zero.2 hG] at hc
 have h := find_loop (nrmE u v) u v rfl l hl l.length 0 (by omega)
 rw [nat0,List.drop_zero,Nat.zero_add] at h
 unfold qQw cQw
 by_cases hx : nrmE u v ∈ l
 ·rw [if_pos hx] at h
  simp [rQwX0,rQwX1,rQwX2,rQwX3,rQwX4,rQwX5,rQwX6,rQwX7,rQwX8,rQwX9,h,hc,hx,sQu,iQu,vQu,blk,eds_length,eds_get,edsAt,edAV,allLeaf_eds,cleanL_eds,cleanL_ints,ints_length,ints_get,intsAt,endL,finB]
 ·rw [if_neg hx] at h
  simp [rQwX0,rQwX1,rQwX2,rQwX3,rQwX4,rQwX5,rQwX6,rQwX7,rQwX8,rQwX9,h,hc,hx,sQu,iQu,vQu,blk,eds_length,eds_get,edsAt,edAV,allLeaf_eds,cleanL_eds,cleanL_ints,ints_length,ints_get,intsAt,endL,finB]
/- What ref24.Is and Maximal return. -/
def gBx (N : Nat) (Es : List Ed) : Heap := [some [.int .i64 N,.list 2 (eds Es)]]
theorem find_lt {N : Nat} {Es : List Ed} (h : GOK (N : Int) Es) (hE : Es.length < 4294967295) (u v : Int) : ∃ r : Int,callL cfgS nQw [.agg [.int .i64 N,.list 2 (eds Es)],.int .i64 u,.int .i64 v] [] = some (.int .i64 r,[]) /\ (nrmE u v ∈ Es -> ¬ r < 0) /\ (nrmE u v ∉ Es -> r < 0) := by
 refine ⟨_,find_run (N : Int) Es (by omega) h u v,fun k => ?_,fun k => ?_⟩
 ·rw [if_pos k]; omega
 ·rw [if_neg k]; omega
theorem fits_loop {N : Nat} {Es : List Ed} (h : GOK (N : Int) Es) (hE : Es.length < 4294967295) (S : List Int) (hl : S.length < 4294967295) (v : Int) : ∀ n i : Nat,i + n = S.length -> codeL cfgS 0 (.loop lQQX0) ⟨[(1,.list 1 (ints S)),(2,.int .i64 v),(3,.ptr 0 0),(7,.int .i64 i)],gBx N Es⟩ =
  if fitB Es (S.drop i) v = true then some (.exit 0,⟨[(1,.list 1 (ints S)),(2,.int .i64 v),(3,.ptr 0 0),(7,.int .i64 S.length),(11,.bool false)],gBx N Es⟩) else some (.ret,⟨[(6,.bool false)],[]⟩)
 | 0,i,hi => by
   obtain rfl : i = S.length := by omega
   rw [List.drop_length,if_pos (show fitB Es [] v = true from rfl)]
   exact loop_exit (by unfold lQQX0 gBx; simp [rQQX0,rQQX1,rQQX2,rQQX3,rQQX4,rQQX5,rQQX6,blk,eds_length,eds_get,edsAt,edAV,allLeaf_eds,cleanL_eds,cleanL_ints,ints_length,ints_get,intsAt,endL,finB])
 | n + 1,i,hi => by
   have hlt : i < S.length := by omega
   have h1 : (i : Int) < S.length := by omega
   have hw := wrapS (i := i) (by omega)
   have ih := fits_loop h hE S hl v n (i + 1) (by omega)
   have hx := idx_lt (k := .i64) (i := (i : Int)) (n := S.length) (by omega) h1
   obtain ⟨r,f1,f2,f3⟩ := find_lt h hE S[i] v
   rw [List.drop_eq_getElem_cons hlt]
   have e : fitB Es (S[i] :: S.drop (i + 1)) v = ((!decide (S[i] = v) && decide (nrmE S[i] v ∈ Es)) && fitB Es (S.drop (i + 1)) v) := rfl
   rw [e]
   by_cases c : S[i] = v
   ·rw [if_neg (by simp [c])]
    clear ih f1 f2 f3 e
    exact loop_ret (by unfold lQQX0 gBx; simp [rQQX0,rQQX1,rQQX2,rQQX3,rQQX4,rQQX5,rQQX6,h1,hlt,hx,c,hw,blk,eds_length,eds_get,edsAt,edAV,allLeaf_eds,cleanL_eds,cleanL_ints,ints_length,ints_get,intsAt,endL,finB])
   ·by_cases d : nrmE S[i] v ∈ Es
    ·have f2 := f2 d
     rw [show ((!decide (S[i] = v) && decide (nrmE S[i] v ∈ Es)) && fitB Es (S.drop (i + 1)) v) = fitB Es (S.drop (i + 1)) v by simp [c,d]]
     refine (loop_next ?_).trans ih
     clear ih f3 e
     unfold lQQX0 gBx
     simp [rQQX0,rQQX1,rQQX2,rQQX3,rQQX4,rQQX5,rQQX6,h1,hlt,hx,c,hw,f1,f2,sQw,iQw,vQw,cleanL_eds,blk,eds_length,eds_get,edsAt,edAV,allLeaf_eds,cleanL_eds,cleanL_ints,ints_length,ints_get,intsAt,endL,finB]
    ·have f3 := f3 d
     rw [if_neg (by simp [d])]
     clear ih f2 e
     exact loop_ret (by unfold lQQX0 gBx; simp [rQQX0,rQQX1,rQQX2,rQQX3,rQQX4,rQQX5,rQQX6,h1,hlt,hx,c,hw,f1,f3,sQw,iQw,vQw,cleanL_eds,blk,eds_length,eds_get,edsAt,edAV,allLeaf_eds,cleanL_eds,cleanL_ints,ints_length,ints_get,intsAt,endL,finB])
theorem fits_run {N : Nat} {Es : List Ed} (h : GOK (N : Int) Es) (hE : Es.length < 4294967295) (S : List Int) (hl : S.length < 4294967295) (v : Int) : callL cfgS nQQ [.agg [.int .i64 N,.list 2 (eds Es)],.list 1 (ints S),.int .i64 v] [] = some (.bool (fitB Es S v),[]) := by
 rw [callL_end oQQ sQQ (Nat.le_of_ble_eq_true rfl)]
 have l := fits_loop h hE S hl v S.length 0 (by omega)
 rw [nat0,List.drop_zero] at l
 unfold gBx at l
 cases f : fitB Es S v with
 | true =>
   rw [f,if_pos rfl] at l
   unfold qQQ cQQ
   simp [rQQX0,rQQX1,rQQX2,rQQX3,rQQX4,rQQX5,rQQX6,l,blk,eds_length,eds_get,edsAt,edAV,allLeaf_eds,cleanL_eds,cleanL_ints,ints_length,ints_get,intsAt,endL,finB]
 | false =>
   rw [f,if_neg (by decide)] at l
   unfold qQQ cQQ
   simp [rQQX0,rQQX1,rQQX2,rQQX3,rQQX4,rQQX5,rQQX6,l,blk,eds_length,eds_get,edsAt,edAV,allLeaf_eds,cleanL_eds,cleanL_ints,ints_length,ints_get,intsAt,endL,finB]
/-! Is -/
def prB (Es : List Ed) (a : Int) (S : List Int) : Bool := S.all fun b => decide (nrmE a b ∈ Es)
def prsB (Es : List Ed) : List Int -> Bool
 | [] => true
 | a :: r => prB Es a r && prsB Es r
theorem prsB_eq (Es : List Ed) : ∀ S : List Int,prsB Es S = decide (S.Pairwise fun a b => nrmE a b ∈ Es)
 | [] => by simp [prsB]
 | a :: r => by
   unfold prsB
   rw [prsB_eq Es r,Bool.eq_iff_iff]
   simp [prB,List.all_eq_true]
theorem is_in {N : Nat} {Es : List Ed} (h : GOK (N : Int) Es) (hE : Es.length < 4294967295) (S : List Int) (hl : S.length < 4294967295) (i : Nat) (hi : i < S.length) : ∀ n j : Nat,j + n = S.length -> codeL cfgS 0 (.loop lQpX0) ⟨[(1,.list 1 (ints S)),(2,.ptr 0 0),(5,.int .i64 i),(6,.int .i64 j)],gBx N Es⟩ =
  if prB Es S[i] (S.drop j) = true then some (.exit 2,⟨[(1,.list 1 (ints S)),(2,.ptr 0 0),(5,.int .i64 i),(6,.int .i64 S.length),(28,.bool false)],gBx N Es⟩) else some (.ret,⟨[(4,.bool false)],[]⟩)
 | 0,j,hj => by
   obtain rfl : j = S.length := by omega
   rw [List.drop_length,if_pos (show prB Es S[i] [] = true from rfl)]
   exact loop_exit (by unfold lQpX0 gBx; simp [rQpX0,rQpX1,rQpX2,rQpX3,rQpX4,rQpX5,rQpX6,rQpX7,rQpX8,rQpX9,rQpX10,rQpX11,blk,eds_length,eds_get,edsAt,edAV,allLeaf_eds,cleanL_eds,cleanL_ints,ints_length,ints_get,intsAt,endL,finB])
 | n + 1,j,hj => by
   have hlt : j < S.length := by omega
   have h1 : (j : Int) < S.length := by omega
   have h0 : (i : Int) < S.length := by omega
   have hw := wrapS (i := j) (by omega)
   have ih := is_in h hE S hl i hi n (j + 1) (by omega)
   have hx := idx_lt (k := .i64) (i := (j : Int)) (n := S.length) (by omega) h1
   have hy := idx_lt (k := .i64) (i := (i : Int)) (n := S.length) (by omega) h0
   obtain ⟨r,f1,f2,f3⟩ := find_lt h hE S[i] S[j]
   rw [List.drop_eq_getElem_cons hlt]
   have e : prB Es S[i] (S[j] :: S.drop (j + 1)) = (decide (nrmE S[i] S[j] ∈ Es) && prB Es S[i] (S.drop (j + 1))) := rfl
   rw [e]
   by_cases d : nrmE S[i] S[j] ∈ Es
   ·have f2 := f2 d
    rw [decide_eq_true d,Bool.true_and]
    refine (loop_next ?_).trans ih
    clear ih f3 e
    unfold lQpX0 gBx
    simp [rQpX0,rQpX1,rQpX2,rQpX3,rQpX4,rQpX5,rQpX6,rQpX7,rQpX8,rQpX9,rQpX10,rQpX11,h1,hlt,hi,h0,hx,hy,hw,f1,f2,sQw,iQw,vQw,cleanL_eds,blk,eds_length,eds_get,edsAt,edAV,allLeaf_eds,cleanL_eds,cleanL_ints,ints_length,ints_get,intsAt,endL,finB]
   ·have f3 := f3 d
    rw [if_neg (by simp [d])]
    clear ih f2 e
    exact loop_ret (by unfold lQpX0 gBx; simp [rQpX0,rQpX1,rQpX2,rQpX3,rQpX4,rQpX5,rQpX6,rQpX7,rQpX8,rQpX9,rQpX10,rQpX11,h1,hlt,hi,h0,hx,hy,hw,f1,f3,sQw,iQw,vQw,cleanL_eds,blk,eds_length,eds_get,edsAt,edAV,allLeaf_eds,cleanL_eds,cleanL_ints,ints_length,ints_get,intsAt,endL,finB])
theorem is_out {N : Nat} {Es : List Ed} (h : GOK (N : Int) Es) (hE : Es.length < 4294967295) (S : List Int) (hl : S.length < 4294967295) : ∀ n i : Nat,i + n = S.length -> codeL cfgS 0 (.loop lQpX1) ⟨[(1,.list 1 (ints S)),(2,.ptr 0 0),(5,.int .i64 i)],gBx N Es⟩ =
  if prsB Es (S.drop i) = true then some (.exit 0,⟨[(1,.list 1 (ints S)),(2,.ptr 0 0),(5,.int .i64 S.length),(20,.bool false)],gBx N Es⟩) else some (.ret,⟨[(4,.bool false)],[]⟩)
 | 0,i,hi => by
   obtain rfl : i = S.length := by omega
   rw [List.drop_length,if_pos (show prsB Es [] = true from rfl)]
   exact loop_exit (by unfold lQpX1 gBx; simp [rQpX0,rQpX1,rQpX2,rQpX3,rQpX4,rQpX5,rQpX6,rQpX7,rQpX8,rQpX9,rQpX10,rQpX11,blk,eds_length,eds_get,edsAt,edAV,allLeaf_eds,cleanL_eds,cleanL_ints,ints_length,ints_get,intsAt,endL,finB])
 | n + 1,i,hi => by
   have hlt : i < S.length := by omega
   have h1 : (i : Int) < S.length := by omega
   have hw := wrapS (i := i) (by omega)
   have ih := is_out h hE S hl n (i + 1) (by omega)
   have q := is_in h hE S hl i hlt (S.length - (i + 1)) (i + 1) (by omega)
   rw [List.drop_eq_getElem_cons hlt]
   have e : prsB Es (S[i] :: S.drop (i + 1)) = (prB Es S[i] (S.drop (i + 1)) && prsB Es (S.drop (i + 1))) := rfl
   rw [e]
   unfold gBx at q ih ⊢
   rw [show ((i + 1 : Nat) : Int) = (i : Int) + 1 by omega] at q
   cases f : prB Es S[i] (S.drop (i + 1)) with
   | true =>
     rw [f,if_pos rfl] at q
     rw [Bool.true_and]
     refine (loop_next ?_).trans ih
     clear ih e
     unfold lQpX1
     simp [rQpX0,rQpX1,rQpX2,rQpX3,rQpX4,rQpX5,rQpX6,rQpX7,rQpX8,rQpX9,rQpX10,rQpX11,h1,hlt,hw,q,blk,eds_length,eds_get,edsAt,edAV,allLeaf_eds,cleanL_eds,cleanL_ints,ints_length,ints_get,intsAt,endL,finB]
   | false =>
     rw [f,if_neg (by decide)] at q
     rw [Bool.false_and,if_neg (by decide)]
     clear ih e
     exact loop_ret (by unfold lQpX1; simp [rQpX0,rQpX1,rQpX2,rQpX3,rQpX4,rQpX5,rQpX6,rQpX7,rQpX8,rQpX9,rQpX10,rQpX11,h1,hlt,hw,q,blk,eds_length,eds_get,edsAt,edAV,allLeaf_eds,cleanL_eds,cleanL_ints,ints_length,ints_get,intsAt,endL,finB])
def isR (N : Nat) (Es : List Ed) (S : List Int) : Bool := valGo (N : Int) (-1) S && decide (S.Pairwise fun a b => nrmE a b ∈ Es)
theorem ris_run {N : Nat} {Es : List Ed} (h : GOK (N : Int) Es) (hE : Es.length < 4294967295) (S : List Int) (hl : S.length < 4294967295) : callL cfgS nQp [.agg [.int .i64 N,.list 2 (eds Es)],.list 1 (ints S)] [] = some (.bool (isR N Es S),[]) := by
 rw [callL_end oQp sQp (Nat.le_of_ble_eq_true rfl)]
 have c1 := rchk_run (N : Int) Es (by omega)
 rw [chkG_zero.2 h] at c1
 have v := valid_run (N : Int) S (by omega)
 have l := is_out h hE S hl S.length 0 (by omega)
 rw [nat0,List.drop_zero,prsB_eq] at l
 unfold gBx at l
 unfold isR
 cases f : valGo (N : Int) (-1) S with
 | false =>
   rw [f] at v
   rw [Bool.false_and]
   unfold qQp cQp
   simp [rQpX0,rQpX1,rQpX2,rQpX3,rQpX4,rQpX5,rQpX6,rQpX7,rQpX8,rQpX9,rQpX10,rQpX11,c1,v,sQu,iQu,vQu,sQE,iQE,vQE,cleanL_eds,cleanL_ints,blk,eds_length,eds_get,edsAt,edAV,allLeaf_eds,cleanL_eds,cleanL_ints,ints_length,ints_get,intsAt,endL,finB]
 | true =>
   rw [f] at v
   rw [Bool.true_and]
   cases g : decide (S.Pairwise fun a b => nrmE a b ∈ Es) with
   | true =>
     rw [g,if_pos rfl] at l
     unfold qQp cQp
     simp [rQpX0,rQpX1,rQpX2,rQpX3,rQpX4,rQpX5,rQpX6,rQpX7,rQpX8,rQpX9,rQpX10,rQpX11,c1,v,l,sQu,iQu,vQu,sQE,iQE,vQE,cleanL_eds,cleanL_ints,blk,eds_length,eds_get,edsAt,edAV,allLeaf_eds,cleanL_eds,cleanL_ints,ints_length,ints_get,intsAt,endL,finB]
   | false =>
     rw [g,if_neg (by decide)] at l
     unfold qQp cQp
     simp [rQpX0,rQpX1,rQpX2,rQpX3,rQpX4,rQpX5,rQpX6,rQpX7,rQpX8,rQpX9,rQpX10,rQpX11,c1,v,l,sQu,iQu,vQu,sQE,iQE,vQE,cleanL_eds,cleanL_ints,blk,eds_length,eds_get,edsAt,edAV,allLeaf_eds,cleanL_eds,cleanL_ints,ints_length,ints_get,intsAt,endL,finB]
/-! Maximal -/
theorem mx_loop {N : Nat} {Es : List Ed} (h : GOK (N : Int) Es) (hE : Es.length < 4294967295) (S : List Int) (hl : S.length < 4294967295) : ∀ n i : Nat,i + n = N -> codeL cfgS 0 (.loop lQRX0) ⟨[(1,.list 1 (ints S)),(2,.ptr 0 0),(5,.int .i64 i)],gBx N Es⟩ =
  if ((List.range' i n).all fun v => !fitB Es S v) = true then some (.exit 0,⟨[(1,.list 1 (ints S)),(2,.ptr 0 0),(5,.int .i64 N),(18,.bool false)],gBx N Es⟩) else some (.ret,⟨[(4,.bool false)],[]⟩)
 | 0,i,hi => by
   obtain rfl : i = N := by omega
   rw [show List.range' i 0 = [] from rfl,List.all_nil,if_pos rfl]
   exact loop_exit (by unfold lQRX0 gBx; simp [rQRX0,rQRX1,rQRX2,rQRX3,rQRX4,rQRX5,rQRX6,rQRX7,rQRX8,blk,eds_length,eds_get,edsAt,edAV,allLeaf_eds,cleanL_eds,cleanL_ints,ints_length,ints_get,intsAt,endL,finB])
 | n + 1,i,hi => by
   have h1 : (i : Int) < N := by omega
   have hlt : i < N := by omega
   have hn := gok_n h
   have hw := wrapS (i := i) (by omega)
   have ih := mx_loop h hE S hl n (i + 1) (by omega)
   have q := fits_run h hE S hl i
   rw [List.range'_succ,List.all_cons]
   cases f : fitB Es S i with
   | false =>
     rw [f] at q
     rw [Bool.not_false,Bool.true_and]
     refine (loop_next ?_).trans ih
     clear ih
     unfold lQRX0 gBx
     simp [rQRX0,rQRX1,rQRX2,rQRX3,rQRX4,rQRX5,rQRX6,rQRX7,rQRX8,h1,hlt,hw,q,sQQ,iQQ,vQQ,cleanL_eds,cleanL_ints,blk,eds_length,eds_get,edsAt,edAV,allLeaf_eds,cleanL_eds,cleanL_ints,ints_length,ints_get,intsAt,endL,finB]
   | true =>
     rw [f] at q
     rw [Bool.not_true,Bool.false_and,if_neg (by decide)]
     clear ih
     exact loop_ret (by unfold lQRX0 gBx; simp [rQRX0,rQRX1,rQRX2,rQRX3,rQRX4,rQRX5,rQRX6,rQRX7,rQRX8,h1,hlt,hw,q,sQQ,iQQ,vQQ,cleanL_eds,cleanL_ints,blk,eds_length,eds_get,edsAt,edAV,allLeaf_eds,cleanL_eds,cleanL_ints,ints_length,ints_get,intsAt,endL,finB])
theorem rmax_run {N : Nat} {Es : List Ed} (h : GOK (N : Int) Es) (hE : Es.length < 4294967295) (S : List Int) (hl : S.length < 4294967295) : callL cfgS nQR [.agg [.int .i64 N,.list 2 (eds Es)],.list 1 (ints S)] [] = some (.bool (mxR N Es S),[]) := by
 rw [callL_end oQR sQR (Nat.le_of_ble_eq_true rfl)]
 have i := ris_run h hE S hl
 have l := mx_loop h hE S hl N 0 (by omega)
 rw [nat0,<- List.range_eq_range'] at l
 unfold gBx at l
 have e : mxR N Es S = (isR N Es S && (!decide (S = []) && (List.range N).all fun v => !fitB Es S v)) := rfl
 rw [e]
 cases f : isR N Es S with
 | false =>
   rw [f] at i
   rw [Bool.false_and]
   unfold qQR cQR
   simp [rQRX0,rQRX1,rQRX2,rQRX3,rQRX4,rQRX5,rQRX6,rQRX7,rQRX8,i,sQp,iQp,vQp,cleanL_eds,cleanL_ints,blk,eds_length,eds_get,edsAt,edAV,allLeaf_eds,cleanL_eds,cleanL_ints,ints_length,ints_get,intsAt,endL,finB]
 | true =>
   rw [f] at i
   rw [Bool.true_and]
   by_cases k0 : S = []
   ·subst k0
    rw [ints_nil] at i ⊢
    unfold qQR cQR
    simp [rQRX0,rQRX1,rQRX2,rQRX3,rQRX4,rQRX5,rQRX6,rQRX7,rQRX8,i,sQp,iQp,vQp,cleanL_eds,cleanL,blk,eds_length,eds_get,edsAt,edAV,allLeaf_eds,cleanL_eds,cleanL_ints,ints_length,ints_get,intsAt,endL,finB]
   have l1 : ¬ S.length = 0 := fun e => k0 (List.length_eq_zero_iff.1 e)
   rw [decide_eq_false k0,Bool.not_false,Bool.true_and]
   cases g : (List.range N).all fun v => !fitB Es S v with
   | true =>
     rw [g,if_pos rfl] at l
     unfold qQR cQR
     simp [rQRX0,rQRX1,rQRX2,rQRX3,rQRX4,rQRX5,rQRX6,rQRX7,rQRX8,i,k0,l1,l,sQp,iQp,vQp,cleanL_eds,cleanL_ints,blk,eds_length,eds_get,edsAt,edAV,allLeaf_eds,cleanL_eds,cleanL_ints,ints_length,ints_get,intsAt,endL,finB]
   | false =>
     rw [g,if_neg (by decide)] at l
     unfold qQR cQR
     simp [rQRX0,rQRX1,rQRX2,rQRX3,rQRX4,rQRX5,rQRX6,rQRX7,rQRX8,i,k0,l1,l,sQp,iQp,vQp,cleanL_eds,cleanL_ints,blk,eds_length,eds_get,edsAt,edAV,allLeaf_eds,cleanL_eds,cleanL_ints,ints_length,ints_get,intsAt,endL,finB]
/- What ref24.List and All return of a small graph. -/
set_option maxHeartbeats 8000000
def llsG (o : List (List Int)) : List AV := o.map fun S => .list 1 (ints S)
theorem llsG_length (o : List (List Int)) : (llsG o).length = o.length := List.length_map _
theorem llsG_snoc (o : List (List Int)) (S : List Int) : llsG o ++ [.list 1 (ints S)] = llsG (o ++ [S]) := by simp [llsG]
theorem llsG_get (o : List (List Int)) (i : Nat) : (llsG o)[i]? = (o[i]?).map fun S => .list 1 (ints S) := List.getElem?_map
theorem tk_ints (S : List Int) : (ints S).take S.length = ints S := List.take_of_length_le (by rw [ints_length]; omega)
theorem tk_lls (o : List (List Int)) : (llsG o).take o.length = llsG o := List.take_of_length_le (by rw [llsG_length]; omega)
def gwS (N : Nat) (Es : List Ed) (S : List Int) (o : List (List Int)) (M : Int) (v : Int) (J : Env) : St := ⟨(1,.list 1 (ints S)) :: (3,.own 1 (llsG o)) :: (4,.int .i64 M) :: (5,.ptr 0 0) :: (11,.int .i64 v) :: J,gBx N Es⟩
def GwL (N : Nat) (Es : List Ed) (M : Int) (k : Nat) : Prop := ∀ (v : Nat) (S : List Int) (o : List (List Int)),v + k = N -> S.length <= v -> (o.length : Int) + 2 ^ k <= M -> codeL cfgS 0 (.loop lQKX0) (gwS N Es S o M v []) = some (.exit 0,gwS N Es S (o ++ grw N Es k v S) M N [(17,.bool false)])
theorem gw_fn {N : Nat} {Es : List Ed} {M : Int} {k : Nat} (h : GwL N Es M k) (v : Nat) (S : List Int) (o : List (List Int)) (hv : v + k = N) (hS : S.length <= v) (ho : (o.length : Int) + 2 ^ k <= M) : callL cfgS nQK [.agg [.int .i64 N,.list 2 (eds Es)],.list 1 (ints S),.int .i64 v,.own 1 (llsG o),.int .i64 M] [] = some (.own 1 (llsG (o ++ grw N Es k v S)),[]) := by
 rw [callL_end oQK sQK (Nat.le_of_ble_eq_true rfl)]
 have e := h v S o hv hS ho
 have t1 := tk_lls (o ++ grw N Es k v S)
 have l1 := llsG_length (o ++ grw N Es k v S)
 unfold gwS gBx at e
 generalize o ++ grw N Es k v S = R at *
 generalize llsG R = Q at *
 generalize R.length = LR at *
 generalize llsG o = Z at *
 unfold qQK cQK
 subst l1
 simp [rQKX0,rQKX1,rQKX2,rQKX3,rQKX4,rQKX5,rQKX6,rQKX7,rQKX8,rQKX9,e,t1,allLocal,local_,takeR,takeV,blk,eds_length,eds_get,edsAt,edAV,allLeaf_eds,cleanL_eds,cleanL_ints,ints_length,ints_get,intsAt,endL,finB]
theorem gw_skip {N : Nat} {Es : List Ed} (h : GOK (N : Int) Es) (hE : Es.length < 4294967295) (S : List Int) (hS : S.length <= 64) (o : List (List Int)) (M : Int) (ho : (o.length : Int) <= M) (v : Nat) (hv : v < N) (f : fitB Es S v = false) : codeL cfgS 0 lQKX0 (gwS N Es S o M v []) = some (.normal,gwS N Es S o M (v + 1 : Nat) []) := by
 have hn := gok_n h
 have h1 : (v : Int) < N := by omega
 have hw := wrapS (i := v) (by omega)
 have q := fits_run h hE S (by omega) v
 rw [f] at q
 have l1 := llsG_length o
 unfold gwS gBx lQKX0
 generalize llsG o = Z at *
 simp [rQKX0,rQKX1,rQKX2,rQKX3,rQKX4,rQKX5,rQKX6,rQKX7,rQKX8,rQKX9,h1,hv,hw,q,l1,ho,sQQ,iQQ,vQQ,cleanL_eds,cleanL_ints,blk,eds_length,eds_get,edsAt,edAV,allLeaf_eds,cleanL_eds,cleanL_ints,ints_length,ints_get,intsAt,endL,finB]
theorem gw_max {N : Nat} {Es : List Ed} (h : GOK (N : Int) Es) (hE : Es.length < 4294967295) (S : List Int) (hS : S.length <= 64) (o : List (List Int)) (M : Int) (ho : (o.length : Int) <= M) (ho2 : o.length <= 100000) (v : Nat) (hv : v < N) (f : fitB Es S v = true) (g : mxR N Es (S ++ [(v : Int)]) = true) : codeL cfgS 0 lQKX0 (gwS N Es S o M v []) = some (.normal,gwS N Es S (o ++ [S ++ [(v : Int)]]) M (v + 1 : Nat) []) := by
 have hn := gok_n h
 have h1 : (v : Int) < N := by omega
 have hw := wrapS (i := v) (by omega)
 have q := fits_run h hE S (by omega) v
 rw [f] at q
 have q2 := rmax_run h hE (S ++ [(v : Int)]) (by simp; omega)
 rw [g] at q2
 have t1 := tk_ints S
 have t2 := tk_lls o
 have t3 := tk_ints (S ++ [(v : Int)])
 have l1 := llsG_length o
 have sn := llsG_snoc o (S ++ [(v : Int)])
 have l3 := ints_length (S ++ [(v : Int)])
 have l4 : (S ++ [(v : Int)]).length = S.length + 1 := by simp
 have l5 : S.length + 1 <= 4294967296 := by omega
 have l6 : o.length + 1 <= 4294967296 := by omega
 have l7 : S.length <= 4294967296 := by omega
 have e1 := ints_snoc S v
 unfold gwS gBx lQKX0
 rw [<- sn]
 clear sn
 rw [l4] at l3 t3
 generalize S ++ [(v : Int)] = T at *
 generalize llsG o = Z at *
 generalize ints T = IT at *
 subst e1
 have t4 : ∀ x : AV,List.take (o.length + 1) (Z ++ [x]) = Z ++ [x] := fun x => List.take_of_length_le (by simp; omega)
 simp [rQKX0,rQKX1,rQKX2,rQKX3,rQKX4,rQKX5,rQKX6,rQKX7,rQKX8,rQKX9,h1,hv,hw,q,q2,l1,ho,t1,t2,t3,t4,l3,l5,l6,l7,LIM,sQQ,iQQ,vQQ,sQR,iQR,vQR,cleanL_eds,cleanL_ints,blk,eds_length,eds_get,edsAt,edAV,allLeaf_eds,cleanL_eds,cleanL_ints,ints_length,ints_get,intsAt,endL,finB]
theorem gw_rec {N : Nat} {Es : List Ed} (h : GOK (N : Int) Es) (hE : Es.length < 4294967295) (S : List Int) (hS : S.length <= 64) (o R : List (List Int)) (M : Int) (ho : (o.length : Int) <= M) (ho2 : o.length <= 100000) (v : Nat) (hv : v < N) (f : fitB Es S v = true) (g : mxR N Es (S ++ [(v : Int)]) = false) (hc : callL cfgS nQK [.agg [.int .i64 N,.list 2 (eds Es)],.list 1 (ints (S ++ [(v : Int)])),.int .i64 (v + 1 : Nat),.own 1 (llsG o),.int .i64 M] [] = some (.own 1 (llsG R),[])) : codeL cfgS 0 lQKX0 (gwS N Es S o M v []) = some (.normal,gwS N Es S R M (v + 1 : Nat) []) := by
 have hn := gok_n h
 have h1 : (v : Int) < N := by omega
 have hw := wrapS (i := v) (by omega)
 have q := fits_run h hE S (by omega) v
 rw [f] at q
 have q2 := rmax_run h hE (S ++ [(v : Int)]) (by simp; omega)
 rw [g] at q2
 have t1 := tk_ints S
 have t2 := tk_lls o
 have t3 := tk_ints (S ++ [(v : Int)])
 have l1 := llsG_length o
 have t6 := tk_lls R
 have l6 := llsG_length R
 rw [<- l6] at t6
 have l3 := ints_length (S ++ [(v : Int)])
 have l4 : (S ++ [(v : Int)]).length = S.length + 1 := by simp
 have l5 : S.length + 1 <= 4294967296 := by omega
 have l7 : S.length <= 4294967296 := by omega
 have e1 := ints_snoc S v
 rw [show ((v + 1 : Nat) : Int) = (v : Int) + 1 by omega] at hc hw ⊢
 unfold gwS gBx lQKX0
 rw [l4] at l3 t3
 generalize S ++ [(v : Int)] = T at *
 generalize llsG o = Z at *
 generalize llsG R = Y at *
 generalize ints T = IT at *
 subst e1
 simp [rQKX0,rQKX1,rQKX2,rQKX3,rQKX4,rQKX5,rQKX6,rQKX7,rQKX8,rQKX9,h1,hv,hw,q,q2,l1,ho,t1,t2,t3,t6,hc,l3,l5,l7,LIM,sQQ,iQQ,vQQ,sQR,iQR,vQR,sQK,iQK,vQK,cleanL_eds,cleanL_ints,blk,eds_length,eds_get,edsAt,edAV,allLeaf_eds,cleanL_eds,cleanL_ints,ints_length,ints_get,intsAt,endL,finB]
/- What ref24.List and All return of a small graph: the walk. -/
theorem gw_loop {N : Nat} {Es : List Ed} (h : GOK (N : Int) Es) (hE : Es.length < 4294967295) (M : Int) (hM : M <= 100000) : ∀ k : Nat,GwL N Es M k
 | 0 => by
   intro v S o hv hS ho
   obtain rfl : v = N := by omega
   rw [show grw v Es 0 v S = [] from rfl,List.append_nil]
   refine loop_exit ?_
   have l1 := llsG_length o
   unfold gwS gBx lQKX0
   generalize llsG o = Z at *
   simp [rQKX0,rQKX1,rQKX2,rQKX3,rQKX4,rQKX5,rQKX6,rQKX7,rQKX8,rQKX9,l1,blk,eds_length,eds_get,edsAt,edAV,allLeaf_eds,cleanL_eds,cleanL_ints,ints_length,ints_get,intsAt,endL,finB]
 | k + 1 => by
   intro v S o hv hS ho
   have hn := gok_n h
   have ih := gw_loop h hE M hM k
   have p2 : (2 : Int) ^ (k + 1) = 2 ^ k + 2 ^ k := by rw [Int.pow_succ]; omega
   have pk : (0 : Int) < 2 ^ k := Int.pow_pos (by decide)
   rw [p2] at ho
   have hle : o.length <= 100000 := by omega
   cases f : fitB Es S v with
   | false =>
     have e : grw N Es (k + 1) v S = grw N Es k (v + 1) S := by
      conv => lhs; unfold grw
      rw [f,if_neg (by decide),List.nil_append]
     rw [e]
     exact (loop_next (gw_skip h hE S (by omega) o M (by omega) v (by omega) f)).trans (ih (v + 1) S o (by omega) (by omega) (by omega))
   | true =>
     cases g : mxR N Es (S ++ [(v : Int)]) with
     | true =>
       have e : grw N Es (k + 1) v S = [S ++ [(v : Int)]] ++ grw N Es k (v + 1) S := by
        conv => lhs; unfold grw
        rw [f,if_pos rfl,g,if_pos rfl]
       rw [e,<- List.append_assoc]
       exact (loop_next (gw_max h hE S (by omega) o M (by omega) hle v (by omega) f g)).trans (ih (v + 1) S (o ++ [S ++ [(v : Int)]]) (by omega) (by omega) (by simp; omega))
     | false =>
       have e : grw N Es (k + 1) v S = grw N Es k (v + 1) (S ++ [(v : Int)]) ++ grw N Es k (v + 1) S := by
        conv => lhs; unfold grw
        rw [f,if_pos rfl,g,if_neg (by decide)]
       rw [e,<- List.append_assoc]
       have c := gw_fn ih (v + 1) (S ++ [(v : Int)]) o (by omega) (by simp; omega) (by omega)
       have ln := grw_len N Es k (v + 1) (S ++ [(v : Int)])
       have ln2 : ((grw N Es k (v + 1) (S ++ [(v : Int)])).length : Int) < 2 ^ k := by
        have : ((2 ^ k : Nat) : Int) = 2 ^ k := by simp
        omega
       exact (loop_next (gw_rec h hE S (by omega) o _ M (by omega) hle v (by omega) f g c)).trans (ih (v + 1) S _ (by omega) (by omega) (by rw [List.length_append]; omega))
theorem list24_run {N : Nat} {Es : List Ed} (h : GOK (N : Int) Es) (hE : Es.length < 4294967295) (M : Int) (hM : M <= 100000) (h2 : (2 : Int) ^ N <= M) : callL cfgS nQC [.agg [.int .i64 N,.list 2 (eds Es)],.int .i64 M] [] = some (.list 1 (llsG (grw N Es N 0 [])),[]) := by
 have c := gw_fn (gw_loop h hE M hM N) 0 [] [] (by omega) (by simp) (by simpa using h2)
 rw [List.nil_append,nat0,ints_nil,show llsG [] = [] from rfl] at c
 rw [callL_end oQC sQC (Nat.le_of_ble_eq_true rfl)]
 have t6 := tk_lls (grw N Es N 0 [])
 have l6 := llsG_length (grw N Es N 0 [])
 rw [<- l6] at t6
 clear l6
 generalize llsG (grw N Es N 0 []) = Y at *
 unfold qQC cQC
 simp [rQCX0,rQCX1,rQCX2,rQCX3,c,t6,sQK,iQK,vQK,blk,eds_length,eds_get,edsAt,edAV,allLeaf_eds,cleanL_eds,cleanL_ints,ints_length,ints_get,intsAt,endL,finB]
theorem all24_run {N : Nat} {Es : List Ed} (h : GOK (N : Int) Es) (hE : Es.length < 4294967295) (hN : N <= 12) : callL cfgS nQl [.agg [.int .i64 N,.list 2 (eds Es)],.int .i64 4096] [] = some (.tup [.list 1 (llsG (grw N Es N 0 [])),.int .i64 0],[]) := by
 have p : (2 : Nat) ^ N <= 4096 := Nat.pow_le_pow_right (n := 2) (by decide) hN
 have p' : (2 : Int) ^ N <= 4096 := by
  have : ((2 ^ N : Nat) : Int) = 2 ^ N := by simp
  omega
 have c := list24_run h hE 4096 (by omega) p'
 have c1 := rchk_run (N : Int) Es (by omega)
 rw [chkG_zero.2 h] at c1
 have ln := grw_len N Es N 0 []
 have l6 := llsG_length (grw N Es N 0 [])
 have l7 : ¬ (4096 : Int) < (llsG (grw N Es N 0 [])).length := by omega
 rw [callL_end oQl sQl (Nat.le_of_ble_eq_true rfl)]
 clear l6 ln
 generalize llsG (grw N Es N 0 []) = Y at *
 unfold qQl cQl
 simp [rQlX0,rQlX1,rQlX2,rQlX3,rQlX4,rQlX5,rQlX6,rQlX7,rQlX8,rQlX9,c,c1,l7,sQC,iQC,vQC,sQu,iQu,vQu,cleanL_eds,blk,eds_length,eds_get,edsAt,edAV,allLeaf_eds,cleanL_eds,cleanL_ints,ints_length,ints_get,intsAt,endL,finB]
/- What functions of cohesionmake return: Few, New, Mod, Next, Set. -/
theorem nle1 (n : Nat) : (n + 1 <= n) ↔ False := ⟨fun h => by omega,False.elim⟩
theorem few_run (l : List Int) : callL cfgS nQb [.list 1 (ints l)] [] = some (.bool (decide ((l.length : Int) <= 500)),[]) := by
 rw [callL_end oQb sQb (Nat.le_of_ble_eq_true rfl)]
 unfold qQb cQb
 simp [rQbX0,rQbX1,blk,eds_length,eds_get,edsAt,edAV,allLeaf_eds,cleanL_eds,cleanL_ints,ints_length,ints_get,intsAt,endL,finB]
def dk (l : List Int) (at_ : Nat) : Blk := some [.list 1 (ints l),.int .i64 at_]
theorem new_run (l : List Int) : callL cfgS nQd [.list 1 (ints l)] [] = some (.ptr 0 0,[dk l 0]) := by
 rw [callL_end oQd sQd (Nat.le_of_ble_eq_true rfl)]
 unfold qQd cQd dk
 simp [rQdX0,rQdX1,finS,plp,mapH,mapBL,mapB,swS,blk,eds_length,eds_get,edsAt,edAV,allLeaf_eds,cleanL_eds,cleanL_ints,ints_length,ints_get,intsAt,endL,finB]
theorem modI_eq (x k : Int) (h0 : 0 < k) (h1 : k < 4611686018427387904) : (IntKind.i64.wrap (x.tmod k + k)).tmod k = x % k := by
 have e : x % k = (x.tmod k) % k := by
  have := Int.mul_tdiv_add_tmod x k
  conv => lhs; rw [<- this]
  rw [Int.add_comm,Int.add_mul_emod_self_left]
 have h2 := Int.tmod_lt_of_pos x h0
 have h3 : -k < x.tmod k := by
  have := Int.tmod_lt_of_pos (-x) h0
  rw [Int.neg_tmod] at this
  omega
 rw [wrap_id (by omega) (by omega),Int.tmod_eq_emod_of_nonneg (by omega),e,Int.add_emod_right]
theorem modk_run (x k : Int) (h0 : 0 < k) (h1 : k < 4611686018427387904) : callL cfgS nQs [.int .i64 x,.int .i64 k] [] = some (.int .i64 (x % k),[]) := by
 rw [callL_end oQs sQs (Nat.le_of_ble_eq_true rfl),<- modI_eq x k h0 h1]
 have hk : ¬ k = 0 := by omega
 unfold qQs cQs
 simp [rQsX0,rQsX1,hk,blk,eds_length,eds_get,edsAt,edAV,allLeaf_eds,cleanL_eds,cleanL_ints,ints_length,ints_get,intsAt,endL,finB]
def nxV (l : List Int) (a : Nat) (n : Int) : Int := if n < 1 then 0 else if l.length <= a then 0 else l.getD a 0 % n
def nxA (l : List Int) (a : Nat) (n : Int) : Nat := if n < 1 then a else if l.length <= a then a else a + 1
theorem nxV_bd (l : List Int) (a : Nat) {n : Int} (h : 1 <= n) : 0 <= nxV l a n /\ nxV l a n < n := by
 unfold nxV
 rw [if_neg (by omega)]
 split
 ·omega
 ·exact ⟨Int.emod_nonneg _ (by omega),Int.emod_lt_of_pos _ (by omega)⟩
def Rest (R : Heap) : Prop := (∀ g,mapH g R = R) /\ allB R = true /\ (∀ p b,borH p b R = none) /\ (∀ f,anyH f R = false) /\ ∀ p b,seesB p b R = []
theorem next_run0 (l : List Int) (hl : l.length <= 500) (a : Nat) (n : Int) (hn : n < 4611686018427387904) (R : Heap) (hR : Rest R) : callL cfgS nQe [.ptr 0 0,.int .i64 n] (dk l a :: R) = some (.int .i64 (nxV l a n),dk l (nxA l a n) :: R) := by
 obtain ⟨r1,r2,r3,r4,r5⟩ := hR
 rw [callL_end oQe sQe (Nat.le_of_ble_eq_true rfl)]
 unfold qQe cQe nxV nxA dk
 by_cases h0 : n < 1
 ·simp [rQeX0,rQeX1,rQeX2,rQeX3,rQeX4,rQeX5,h0,finS,plp,swS,r1,r2,r3,r4,r5,nle1,blk,eds_length,eds_get,edsAt,edAV,allLeaf_eds,cleanL_eds,cleanL_ints,ints_length,ints_get,intsAt,endL,finB]
 ·have h0' : ¬ n < 1 := h0
  by_cases h1 : l.length <= a
  ·have h1' : (l.length : Int) <= a := by omega
   simp [rQeX0,rQeX1,rQeX2,rQeX3,rQeX4,rQeX5,h0,h1,h1',finS,plp,swS,r1,r2,r3,r4,r5,nle1,blk,eds_length,eds_get,edsAt,edAV,allLeaf_eds,cleanL_eds,cleanL_ints,ints_length,ints_get,intsAt,endL,finB]
  ·have h1' : ¬ (l.length : Int) <= a := by omega
   have h2 : a < l.length := by omega
   have h2' : (a : Int) < l.length := by omega
   have hw := wrapS (i := a) (by omega)
   have hm := modk_run l[a] n (by omega) hn
   simp [rQeX0,rQeX1,rQeX2,rQeX3,rQeX4,rQeX5,h0,h1,h1',h2,h2',hw,hm,idx,sQs,iQs,vQs,finS,plp,swS,r1,r2,r3,r4,r5,nle1,blk,eds_length,eds_get,edsAt,edAV,allLeaf_eds,cleanL_eds,cleanL_ints,ints_length,ints_get,intsAt,endL,finB]
theorem next_run (l : List Int) (hl : l.length <= 500) (a : Nat) (n : Int) (hn : n < 4611686018427387904) (R : Heap) (hR : Rest R) : callL cfgS nQe [.ptr 0 0,.int .i64 n] (dk l a :: R) = some (.int .i64 (nxV l a n),dk l (nxA l a n) :: R) := next_run0 l hl a n hn R hR
theorem set_loop (l : List Int) (hl : l.length <= 500) (N : Nat) (hN : N <= 64) (R : Heap) (hR : Rest R) : ∀ (k v a : Nat) (o : List Int),v + k = N -> o.length <= v -> Up o -> (∀ x ∈ o,0 <= x /\ x < (v : Int)) -> ∃ o' a',codeL cfgS (R.length + 1) (.loop lQfX0) ⟨[(0,.ptr 0 0),(1,.int .i64 N),(5,.own 1 (ints o)),(6,.int .i64 v)],dk l a :: R⟩ = some (.exit 0,⟨[(0,.ptr 0 0),(1,.int .i64 N),(5,.own 1 (ints o')),(6,.int .i64 N),(9,.bool false)],dk l a' :: R⟩) /\ (o'.length <= N /\ Up o' /\ ∀ x ∈ o',0 <= x /\ x < (N : Int))
 | 0,v,a,o,hi,ho,hu,hb => by
   obtain rfl : v = N := by omega
   exact ⟨o,a,loop_exit (by unfold lQfX0 dk; simp [rQfX0,rQfX1,rQfX2,rQfX3,rQfX4,rQfX5,rQfX6,rQfX7,nle1,blk,eds_length,eds_get,edsAt,edAV,allLeaf_eds,cleanL_eds,cleanL_ints,ints_length,ints_get,intsAt,endL,finB]),ho,hu,hb⟩
 | k + 1,v,a,o,hi,ho,hu,hb => by
   have h1 : (v : Int) < N := by omega
   have hw := wrapS (i := v) (by omega)
   have hL : o.length + 1 <= 4294967296 := by omega
   have hx := next_run l hl a 2 (by omega) R hR
   obtain ⟨r1,r2,r3,r4,r5⟩ := hR
   unfold dk at hx
   by_cases he : nxV l a 2 = 1
   ·obtain ⟨o',a',e,p⟩ := set_loop l hl N hN R ⟨r1,r2,r3,r4,r5⟩ k (v + 1) (nxA l a 2) (o ++ [(v : Int)]) (by omega) (by simp; omega) (by
     unfold Up; rw [List.pairwise_append]
     exact ⟨hu,by simp,fun x hx y hy => by simp at hy; subst hy; exact (hb x hx).2⟩) (fun x hx => by
     rcases List.mem_append.1 hx with hx | hx
     ·have := hb x hx; omega
     ·simp at hx; omega)
    exact ⟨o',a',(loop_next (by unfold lQfX0 dk; simp [rQfX0,rQfX1,rQfX2,rQfX3,rQfX4,rQfX5,rQfX6,rQfX7,h1,hw,hL,hx,he,LIM,ints_snoc,ints_take,sQe,iQe,vQe,r1,r2,r3,r4,r5,plp,plpL,allB,notBox,swC,seesC,inBox,nle1,blk,eds_length,eds_get,edsAt,edAV,allLeaf_eds,cleanL_eds,cleanL_ints,ints_length,ints_get,intsAt,endL,finB])).trans e,p⟩
   ·obtain ⟨o',a',e,p⟩ := set_loop l hl N hN R ⟨r1,r2,r3,r4,r5⟩ k (v + 1) (nxA l a 2) o (by omega) (by omega) hu (fun x hx => by have := hb x hx; omega)
    exact ⟨o',a',(loop_next (by unfold lQfX0 dk; simp [rQfX0,rQfX1,rQfX2,rQfX3,rQfX4,rQfX5,rQfX6,rQfX7,h1,hw,hL,hx,he,LIM,ints_snoc,ints_take,sQe,iQe,vQe,r1,r2,r3,r4,r5,plp,plpL,allB,notBox,swC,seesC,inBox,nle1,blk,eds_length,eds_get,edsAt,edAV,allLeaf_eds,cleanL_eds,cleanL_ints,ints_length,ints_get,intsAt,endL,finB])).trans e,p⟩
theorem set_run (l : List Int) (hl : l.length <= 500) (N : Nat) (hN : N <= 64) (R : Heap) (hR : Rest R) (a : Nat) : ∃ o a',callL cfgS nQf [.ptr 0 0,.int .i64 N] (dk l a :: R) = some (.list 1 (ints o),dk l a' :: R) /\ (o.length <= N /\ Up o /\ ∀ x ∈ o,0 <= x /\ x < (N : Int)) := by
 obtain ⟨o,a',e,p⟩ := set_loop l hl N hN R hR N 0 a [] (by omega) (by simp) (by simp [Up]) (by simp)
 refine ⟨o,a',?_,p⟩
 rw [nat0,ints_nil] at e
 obtain ⟨r1,r2,r3,r4,r5⟩ := hR
 rw [callL_end oQf sQf (Nat.le_of_ble_eq_true rfl)]
 unfold dk at e ⊢
 unfold qQf cQf
 simp [rQfX0,rQfX1,rQfX2,rQfX3,rQfX4,rQfX5,rQfX6,rQfX7,e,ints_take,finS,plp,swS,r1,r2,r3,r4,r5,nle1,blk,eds_length,eds_get,edsAt,edAV,allLeaf_eds,cleanL_eds,cleanL_ints,ints_length,ints_get,intsAt,endL,finB]
/- What mk.Graph returns: a graph that is in order. -/
theorem take_snocE (l : List Ed) (x : Ed) : (l ++ [x]).take (l.length + 1) = l ++ [x] := List.take_of_length_le (by simp)
def IVG (N : Nat) (o : List Ed) (u v : Nat) : Prop := UpE o /\ (∀ e ∈ o,0 <= e.1 /\ e.1 < e.2 /\ e.2 < (N : Int)) /\ (∀ e ∈ o,e.1 < (u : Int) \/ e.1 = (u : Int) /\ e.2 < (v : Int)) /\ o.length <= u * 64 + v
theorem ivg_skip {N : Nat} {o : List Ed} {u v : Nat} (h : IVG N o u v) : IVG N o u (v + 1) :=
 ⟨h.1,h.2.1,fun e he => by have := h.2.2.1 e he; omega,by have := h.2.2.2; omega⟩
theorem ivg_add {N : Nat} {o : List Ed} {u v : Nat} (h : IVG N o u v) (huv : u < v) (hv : v < N) : IVG N (o ++ [((u : Int),(v : Int))]) u (v + 1) := by
 obtain ⟨h1,h2,h3,h4⟩ := h
 refine ⟨?_,fun e he => ?_,fun e he => ?_,by simp; omega⟩
 ·unfold UpE
  rw [List.pairwise_append]
  refine ⟨h1,by simp,fun x hx y hy => ?_⟩
  simp at hy
  subst hy
  have := h3 x hx
  unfold ltE
  simp only
  omega
 ·rcases List.mem_append.1 he with he | he
  ·exact h2 e he
  ·simp at he; subst he; exact ⟨by simp,by simpa using huv,by simpa using hv⟩
 ·rcases List.mem_append.1 he with he | he
  ·have := h3 e he; omega
  ·simp at he; subst he; simp; omega
def gZ : Blk := some [.int .i64 0,.own 2 []]
def gB (N : Int) (o : List Ed) : Blk := some [.int .i64 N,.own 2 (eds o)]
theorem rest_g (N : Int) (o : List Ed) : Rest [gZ,gB N o] := ⟨fun _ => rfl,rfl,fun _ _ => rfl,fun _ => rfl,fun _ _ => rfl⟩
theorem rest_z : Rest [gZ] := ⟨fun _ => rfl,rfl,fun _ _ => rfl,fun _ => rfl,fun _ _ => rfl⟩
def g1St (l : List Int) (a N : Nat) (D : Int) (u v : Nat) (o : List Ed) (J : Env) : St := ⟨(0,.ptr 0 0) :: (4,.ptr 1 0) :: (5,.ptr 2 0) :: (6,.int .i64 D) :: (7,.int .i64 u) :: (8,.int .i64 v) :: J,[dk l a,gZ,gB N o]⟩
theorem g_round (l : List Int) (hl : l.length <= 500) (N : Nat) (hN : N <= 64) (D : Int) (hD : 0 <= D /\ D <= 5) (u v a : Nat) (o : List Ed) (huv : u < v) (hv : v < N) (ho : o.length <= 100000) : ∃ a',codeL cfgS 1 lQhX0 (g1St l a N D u v o []) = some (.normal,g1St l a' N D u (v + 1) o []) \/ codeL cfgS 1 lQhX0 (g1St l a N D u v o []) = some (.normal,g1St l a' N D u (v + 1) (o ++ [((u : Int),(v : Int))]) []) := by
 have h1 : (v : Int) < N := by omega
 have hw := wrapS (i := v) (by omega)
 have hL : o.length + 1 <= 4294967296 := by omega
 have hx := next_run l hl a 5 (by omega) [gZ,gB N o] (rest_g N o)
 have w5 : IntKind.i64.wrap (5 - D) = 5 - D := wrap_id (by omega) (by omega)
 simp only [dk,gZ,gB] at hx
 by_cases hd : 5 - D <= nxV l a 5
 ·refine ⟨nxA l a 5,.inr ?_⟩
  unfold lQhX0 g1St dk gZ gB
  simp [rQhX0,rQhX1,rQhX2,rQhX3,rQhX4,rQhX5,rQhX6,rQhX7,rQhX8,rQhX9,rQhX10,rQhX11,rQhX12,rQhX13,h1,hw,hd,hL,hx,w5,LIM,eds_snocM,eds_take,take_snocE,sQe,iQe,vQe,plp,plpL,allB,notBox,swC,seesC,inBox,relB,handBox,mvBB,mvRtB,blk,eds_length,eds_get,edsAt,edAV,allLeaf_eds,cleanL_eds,cleanL_ints,ints_length,ints_get,intsAt,endL,finB]
 ·refine ⟨nxA l a 5,.inl ?_⟩
  unfold lQhX0 g1St dk gZ gB
  simp [rQhX0,rQhX1,rQhX2,rQhX3,rQhX4,rQhX5,rQhX6,rQhX7,rQhX8,rQhX9,rQhX10,rQhX11,rQhX12,rQhX13,h1,hw,hd,hx,w5,sQe,iQe,vQe,plp,plpL,allB,notBox,swC,seesC,inBox,blk,eds_length,eds_get,edsAt,edAV,allLeaf_eds,cleanL_eds,cleanL_ints,ints_length,ints_get,intsAt,endL,finB]
theorem g_in (l : List Int) (hl : l.length <= 500) (N : Nat) (hN : N <= 64) (D : Int) (hD : 0 <= D /\ D <= 5) (u : Nat) : ∀ (k v a : Nat) (o : List Ed),v + k = N -> u < v -> IVG N o u v -> ∃ a' o',codeL cfgS 1 (.loop lQhX0) (g1St l a N D u v o []) = some (.exit 2,g1St l a' N D u N o' [(41,.bool false)]) /\ IVG N o' u N
 | 0,v,a,o,hi,huv,hI => by
   obtain rfl : v = N := by omega
   refine ⟨a,o,loop_exit ?_,hI⟩
   unfold lQhX0 g1St dk gZ gB
   simp [rQhX0,rQhX1,rQhX2,rQhX3,rQhX4,rQhX5,rQhX6,rQhX7,rQhX8,rQhX9,rQhX10,rQhX11,rQhX12,rQhX13,blk,eds_length,eds_get,edsAt,edAV,allLeaf_eds,cleanL_eds,cleanL_ints,ints_length,ints_get,intsAt,endL,finB]
 | k + 1,v,a,o,hi,huv,hI => by
   have hlen := hI.2.2.2
   obtain ⟨a1,e | e⟩ := g_round l hl N hN D hD u v a o huv (by omega) (by omega)
   ·obtain ⟨a',o',e2,hI2⟩ := g_in l hl N hN D hD u k (v + 1) a1 o (by omega) (by omega) (ivg_skip hI)
    exact ⟨a',o',(loop_next e).trans e2,hI2⟩
   ·obtain ⟨a',o',e2,hI2⟩ := g_in l hl N hN D hD u k (v + 1) a1 _ (by omega) (by omega) (ivg_add hI huv (by omega))
    exact ⟨a',o',(loop_next e).trans e2,hI2⟩
def g2St (l : List Int) (a N : Nat) (D : Int) (u : Nat) (o : List Ed) (J : Env) : St := ⟨(0,.ptr 0 0) :: (4,.ptr 1 0) :: (5,.ptr 2 0) :: (6,.int .i64 D) :: (7,.int .i64 u) :: J,[dk l a,gZ,gB N o]⟩
theorem g_out (l : List Int) (hl : l.length <= 500) (N : Nat) (hN : N <= 64) (D : Int) (hD : 0 <= D /\ D <= 5) : ∀ (k u a : Nat) (o : List Ed),u + k = N -> IVG N o u 0 -> ∃ a' o',codeL cfgS 1 (.loop lQhX1) (g2St l a N D u o []) = some (.exit 0,g2St l a' N D N o' [(33,.bool false)]) /\ IVG N o' N 0
 | 0,u,a,o,hi,hI => by
   obtain rfl : u = N := by omega
   refine ⟨a,o,loop_exit ?_,hI⟩
   unfold lQhX1 g2St dk gZ gB
   simp [rQhX0,rQhX1,rQhX2,rQhX3,rQhX4,rQhX5,rQhX6,rQhX7,rQhX8,rQhX9,rQhX10,rQhX11,rQhX12,rQhX13,blk,eds_length,eds_get,edsAt,edAV,allLeaf_eds,cleanL_eds,cleanL_ints,ints_length,ints_get,intsAt,endL,finB]
 | k + 1,u,a,o,hi,hI => by
   have h1 : (u : Int) < N := by omega
   have hw := wrapS (i := u) (by omega)
   have hI1 : IVG N o u (u + 1) := ⟨hI.1,hI.2.1,fun e he => by have := hI.2.2.1 e he; have := (hI.2.1 e he).1; omega,by have := hI.2.2.2; omega⟩
   obtain ⟨a1,o1,e1,hI2⟩ := g_in l hl N hN D hD u (N - (u + 1)) (u + 1) a o (by omega) (by omega) hI1
   have hI3 : IVG N o1 (u + 1) 0 := ⟨hI2.1,hI2.2.1,fun e he => by have := hI2.2.2.1 e he; omega,by have := hI2.2.2.2; omega⟩
   obtain ⟨a',o',e2,hI4⟩ := g_out l hl N hN D hD k (u + 1) a1 o1 (by omega) hI3
   refine ⟨a',o',(loop_next ?_).trans e2,hI4⟩
   unfold g1St dk gZ gB at e1
   rw [show ((u + 1 : Nat) : Int) = (u : Int) + 1 from rfl] at e1
   unfold lQhX1 g2St dk gZ gB
   simp [rQhX0,rQhX1,rQhX2,rQhX3,rQhX4,rQhX5,rQhX6,rQhX7,rQhX8,rQhX9,rQhX10,rQhX11,rQhX12,rQhX13,h1,hw,e1,blk,eds_length,eds_get,edsAt,edAV,allLeaf_eds,cleanL_eds,cleanL_ints,ints_length,ints_get,intsAt,endL,finB]
theorem graph_run (l : List Int) (hl : l.length <= 500) (most : Nat) (hm : most <= 60) (a : Nat) : ∃ N Es a',callL cfgS nQh [.ptr 0 0,.int .i64 most] [dk l a] = some (.agg [.int .i64 (N : Nat),.list 2 (eds Es)],[dk l a']) /\ GOK (N : Int) Es /\ N <= most /\ Es.length <= 10000 := by
 have n1 := next_run l hl a ((most : Int) + 1) (by omega) [gZ] rest_z
 obtain ⟨b0,b1⟩ := nxV_bd l a (n := (most : Int) + 1) (by omega)
 have wm := wrapS (i := most) (by omega)
 -- the number of nodes, drawn once or twice
 obtain ⟨n0,hn0⟩ : ∃ n0 : Nat,nxV l a ((most : Int) + 1) = (n0 : Int) := ⟨(nxV l a ((most : Int) + 1)).toNat,by omega⟩
 rw [hn0] at n1 b1
 have key : ∀ (N a2 : Nat),N <= most -> ∃ Es a',(∃ D : Int,(0 <= D /\ D <= 5) /\ nxV l a2 4 + 1 = D) /\ codeL cfgS 1 (.loop lQhX1) (g2St l (nxA l a2 4) N (nxV l a2 4 + 1) 0 [] []) = some (.exit 0,g2St l a' N (nxV l a2 4 + 1) N Es [(33,.bool false)]) /\ IVG N Es N 0 := by
  intro N a2 hN
  obtain ⟨c0,c1⟩ := nxV_bd l a2 (n := 4) (by omega)
  obtain ⟨a',Es,e,hI⟩ := g_out l hl N (by omega) (nxV l a2 4 + 1) (by omega) N 0 (nxA l a2 4) [] (by omega) ⟨by simp [UpE],by simp,by simp,by simp⟩
  exact ⟨Es,a',⟨_,by omega,rfl⟩,e,hI⟩
 have fin : ∀ (N : Nat) (Es : List Ed),N <= most -> IVG N Es N 0 -> GOK (N : Int) Es /\ N <= most /\ Es.length <= 10000 := fun N Es hN hI => ⟨⟨by omega,hI.1,hI.2.1⟩,hN,by have := hI.2.2.2; omega⟩
 by_cases h4 : n0 < 4
 ·-- a second draw
  have h4' : (n0 : Int) < 4 := by omega
  have n2 := next_run l hl (nxA l a ((most : Int) + 1)) ((most : Int) + 1) (by omega) [gZ,gB n0 []] (rest_g n0 [])
  obtain ⟨d0,d1⟩ := nxV_bd l (nxA l a ((most : Int) + 1)) (n := (most : Int) + 1) (by omega)
  obtain ⟨m0,hm0⟩ : ∃ m0 : Nat,nxV l (nxA l a ((most : Int) + 1)) ((most : Int) + 1) = (m0 : Int) := ⟨(nxV l (nxA l a ((most : Int) + 1)) ((most : Int) + 1)).toNat,by omega⟩
  rw [hm0] at n2 d1
  obtain ⟨N,hN,eN⟩ : ∃ N : Nat,N <= most /\ (if (n0 : Int) + m0 < most then (n0 : Int) + m0 else (most : Int)) = N := by
   by_cases q : (n0 : Int) + m0 < most
   ·exact ⟨n0 + m0,by omega,by rw [if_pos q]; omega⟩
   ·exact ⟨most,by omega,by rw [if_neg q]⟩
  have ws : IntKind.i64.wrap ((n0 : Int) + m0) = (n0 : Int) + m0 := wrap_id (by omega) (by omega)
  have n3 := next_run l hl (nxA l (nxA l a ((most : Int) + 1)) ((most : Int) + 1)) 4 (by omega) [gZ,gB N []] (rest_g N [])
  obtain ⟨Es,a',⟨D,hD,eD⟩,e,hI⟩ := key N (nxA l (nxA l a ((most : Int) + 1)) ((most : Int) + 1)) hN
  refine ⟨N,Es,a',?_,fin N Es hN hI⟩
  have wD : IntKind.i64.wrap (1 + nxV l (nxA l (nxA l a ((most : Int) + 1)) ((most : Int) + 1)) 4) = D := by rw [wrap_id (by omega) (by omega)]; omega
  rw [eD] at e
  rw [callL_end oQh sQh (Nat.le_of_ble_eq_true rfl)]
  unfold g2St at e
  rw [nat0] at e
  unfold dk gZ gB at *
  rw [show eds [] = [] from rfl] at *
  generalize nxV l (nxA l (nxA l a ((most : Int) + 1)) ((most : Int) + 1)) 4 = x4 at *
  clear key hI
  unfold qQh cQh
  simp [rQhX0,rQhX1,rQhX2,rQhX3,rQhX4,rQhX5,rQhX6,rQhX7,rQhX8,rQhX9,rQhX10,rQhX11,rQhX12,rQhX13,n1,n2,n3,e,wm,ws,h4',eN,wD,eds_take,List.take_length,sQe,iQe,vQe,plp,plpL,allB,notBox,swC,swS,seesC,inBox,offBoxes,offLab,calmB,ptrs,ptrsL,blkE,avE,avLE,finS,relB,handBox,mvBB,mvRtB,blk,eds_length,eds_get,edsAt,edAV,allLeaf_eds,cleanL_eds,cleanL_ints,ints_length,ints_get,intsAt,endL,finB]
 ·have h4' : ¬ (n0 : Int) < 4 := by omega
  have n3 := next_run l hl (nxA l a ((most : Int) + 1)) 4 (by omega) [gZ,gB n0 []] (rest_g n0 [])
  obtain ⟨Es,a',⟨D,hD,eD⟩,e,hI⟩ := key n0 (nxA l a ((most : Int) + 1)) (by omega)
  refine ⟨n0,Es,a',?_,fin n0 Es (by omega) hI⟩
  have wD : IntKind.i64.wrap (1 + nxV l (nxA l a ((most : Int) + 1)) 4) = D := by rw [wrap_id (by omega) (by omega)]; omega
  rw [eD] at e
  rw [callL_end oQh sQh (Nat.le_of_ble_eq_true rfl)]
  unfold g2St at e
  rw [nat0] at e
  unfold dk gZ gB at *
  rw [show eds [] = [] from rfl] at *
  generalize nxV l (nxA l a ((most : Int) + 1)) 4 = x4 at *
  clear key hI
  unfold qQh cQh
  simp [rQhX0,rQhX1,rQhX2,rQhX3,rQhX4,rQhX5,rQhX6,rQhX7,rQhX8,rQhX9,rQhX10,rQhX11,rQhX12,rQhX13,n1,n3,e,wm,h4',wD,eds_take,List.take_length,sQe,iQe,vQe,plp,plpL,allB,notBox,swC,swS,seesC,inBox,finS,relB,handBox,mvBB,mvRtB,blk,eds_length,eds_get,edsAt,edAV,allLeaf_eds,cleanL_eds,cleanL_ints,ints_length,ints_get,intsAt,endL,finB]
end Go.BmP
