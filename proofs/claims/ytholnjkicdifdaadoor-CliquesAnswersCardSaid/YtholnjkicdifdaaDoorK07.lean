/- What functions of cohesionref02 return: Has, Valid, put, Of. -/
import Derived.Test.YtholnjkicdifdaaDoorUseM
import Derived.Test.YtholnjkicdifdaaDoorCfS
import Derived.Test.YtholnjkicdifdaaDoorRunX
import Derived.Test.YtholnjkicdifdaaDoorGrfP
import Derived.Test.YtholnjkicdifdaaDoorCaP
set_option linter.unusedSimpArgs false
set_option linter.unusedVariables false
set_option maxRecDepth 100000
namespace Go.BmP
open Go.Am Go.Bm
theorem valid_loop (m : Int) (l : List Int) (hl : l.length < 4294967297) : ∀ n i : Nat,i + n = l.length -> codeL cfgS 0 (.loop lQNX0) ⟨[(0,.list 1 (ints l)),(1,.int .i64 m),(7,.list 1 (ints l)),(8,.int .i64 l.length),(9,.int .i64 i)],[]⟩ =
  if valGo m (prev l i) (l.drop i) = true then some (.exit 0,⟨[(0,.list 1 (ints l)),(1,.int .i64 m),(7,.list 1 (ints l)),(8,.int .i64 l.length),(9,.int .i64 l.length),(10,.bool false)],[]⟩) else some (.ret,⟨[(4,.bool false)],[]⟩)
 | 0,i,hi => by
   have e : i = l.length := by omega
   subst e;rw [List.drop_length];exact loop_exit (by unfold lQNX0; simp [rQNX0,rQNX1,rQNX2,rQNX3,rQNX4,rQNX5,rQNX6,rQNX7])
 | n + 1,i,hi => by
   have hlt : i < l.length := by omega
   have h1 : (i : Int) < l.length := by omega
   have ih := valid_loop m l hl n (i + 1) (by omega);have hw := wrapS (i := i) (by omega);rw [prev_succ l i hlt] at ih;rw [List.drop_eq_getElem_cons hlt];unfold valGo;by_cases ha : l[i] < 0
   ·have ha' : ¬ 0 <= l[i] := by omega
    simp only [ha',decide_false,Bool.false_and,Bool.false_eq_true,if_false];exact loop_ret (by unfold lQNX0; simp [rQNX0,rQNX1,rQNX2,rQNX3,rQNX4,rQNX5,rQNX6,rQNX7,h1,hlt,ha,ints_length,ints_get,intsAt,idx])
   have ha' : 0 <= l[i] := by omega
   by_cases hb : m <= l[i]
   ·have hb' : ¬ l[i] < m := by omega
    simp only [ha',hb',decide_true,decide_false,Bool.false_and,Bool.true_and,Bool.false_eq_true,if_false];exact loop_ret (by unfold lQNX0; simp [rQNX0,rQNX1,rQNX2,rQNX3,rQNX4,rQNX5,rQNX6,rQNX7,h1,hlt,ha,hb,ints_length,ints_get,intsAt,idx])
   have hb' : l[i] < m := by omega
   by_cases hc : prev l i < l[i]
   ·simp only [ha',hb',hc,decide_true,Bool.true_and];cases i with
    | zero => exact (loop_next (by unfold lQNX0; simp [rQNX0,rQNX1,rQNX2,rQNX3,rQNX4,rQNX5,rQNX6,rQNX7,h1,hlt,ha,hb,hw,ints_length,ints_get,intsAt,idx])).trans ih
    | succ j =>
      rw [prev_succ l j (by omega)] at hc;have hj : j < l.length := by omega
      have hj1 : (j : Int) < l.length := by omega
      have hc' : ¬ l[j + 1] <= l[j] := by omega
      have hp : (0 : Int) < (j : Int) + 1 := by omega
      have hp0 : (0 : Int) <= (j : Int) + 1 := by omega
      have hw2 := wrapN (i := j) (by omega);have h1 : (j : Int) + 1 < l.length := by omega
      have hw : IntKind.i64.wrap ((j : Int) + 1 + 1) = (j : Int) + 1 + 1 := wrapZ (j := j + 1 + 1) rfl (by omega);exact (loop_next (by unfold lQNX0; simp [rQNX0,rQNX1,rQNX2,rQNX3,rQNX4,rQNX5,rQNX6,rQNX7,h1,hlt,ha,hb,hc',hj,hj1,hp,hp0,hw,hw2,ints_length,ints_get,intsAt,idx])).trans ih
   ·simp only [ha',hb',hc,decide_true,decide_false,Bool.false_and,Bool.true_and,Bool.false_eq_true,if_false];cases i with
    | zero => exact absurd (show prev l 0 < l[0] by rw [prev_zero]; omega) hc
    | succ j =>
      rw [prev_succ l j (by omega)] at hc;have hj : j < l.length := by omega
      have hj1 : (j : Int) < l.length := by omega
      have hc' : l[j + 1] <= l[j] := by omega
      have hp : (0 : Int) < (j : Int) + 1 := by omega
      have hp0 : (0 : Int) <= (j : Int) + 1 := by omega
      have hw2 := wrapN (i := j) (by omega);have h1 : (j : Int) + 1 < l.length := by omega
      have hw : IntKind.i64.wrap ((j : Int) + 1 + 1) = (j : Int) + 1 + 1 := wrapZ (j := j + 1 + 1) rfl (by omega);exact loop_ret (by unfold lQNX0; simp [rQNX0,rQNX1,rQNX2,rQNX3,rQNX4,rQNX5,rQNX6,rQNX7,h1,hlt,ha,hb,hc',hj,hj1,hp,hp0,hw,hw2,ints_length,ints_get,intsAt,idx])
theorem valid_run (m : Int) (l : List Int) (hl : l.length < 4294967297) : callL cfgS nQN [.list 1 (ints l),.int .i64 m] [] = some (.bool (valGo m (-1) l),[]) := by
 rw [callL_end oQN sQN (Nat.le_of_ble_eq_true rfl)];have h := valid_loop m l hl l.length 0 (by omega);rw [nat0,prev_zero,List.drop_zero] at h;unfold qQN cQN;by_cases hx : valGo m (-1) l = true
 ·simp [rQNX0,rQNX1,rQNX2,rQNX3,rQNX4,rQNX5,rQNX6,rQNX7,h,hx,ints_length,endL,finB]
 ·simp [rQNX0,rQNX1,rQNX2,rQNX3,rQNX4,rQNX5,rQNX6,rQNX7,h,hx,ints_length,endL,finB]
theorem put_loop (x : Int) (l : List Int) (hl : l.length < 4294967296) : ∀ n i : Nat,i + n = l.length -> codeL cfgS 0 (.loop lQYX0) ⟨[(0,.list 1 (ints l)),(1,.int .i64 x),(5,.int .i64 i)],[]⟩ =
  some (.exit 0,⟨[(0,.list 1 (ints l)),(1,.int .i64 x),(5,.int .i64 (i + pos x (l.drop i) : Nat)),(18,.bool false)],[]⟩)
 | 0,i,hi => by
   have e : i = l.length := by omega
   subst e;rw [List.drop_length];exact loop_exit (by unfold lQYX0; simp [rQYX0,rQYX1,rQYX2,rQYX3,rQYX4,rQYX5,rQYX6,rQYX7,pos,ints_length,idx])
 | n + 1,i,hi => by
   have hlt : i < l.length := by omega
   have h1 : (i : Int) < l.length := by omega
   have ih := put_loop x l hl n (i + 1) (by omega);have hw := wrapS (i := i) (by omega);rw [List.drop_eq_getElem_cons hlt];unfold pos;by_cases hx : l[i] < x
   ·have e : i + (pos x (l.drop (i + 1)) + 1) = i + 1 + pos x (l.drop (i + 1)) := by omega
    rw [if_pos hx,e];exact (loop_next (by unfold lQYX0; simp [rQYX0,rQYX1,rQYX2,rQYX3,rQYX4,rQYX5,rQYX6,rQYX7,h1,hlt,hx,hw,ints_length,ints_get,intsAt,idx])).trans ih
   ·rw [if_neg hx];exact loop_exit (by unfold lQYX0; simp [rQYX0,rQYX1,rQYX2,rQYX3,rQYX4,rQYX5,rQYX6,rQYX7,h1,hlt,hx,ints_length,ints_get,intsAt,idx])
/- What functions of cohesionref02 return: put, Of, Range, Union, Meet, Minus, Within, Cmp, Same. -/
theorem put_run (x : Int) (l : List Int) (hl : l.length < 4294967295) : callL cfgS nQY [.list 1 (ints l),.int .i64 x] [] = some (.list 1 (ints (putI x l)),[]) := by
 rw [callL_end oQY sQY (Nat.le_of_ble_eq_true rfl),putI_pos];have h := put_loop x l (by omega) l.length 0 (by omega);rw [nat0,List.drop_zero,Nat.zero_add] at h;have hp := pos_le x l;generalize pos x l = p at h hp ⊢;have hq : (p : Int) <= l.length := by omega
 have hm : min p l.length = p := by omega
 have hL1 : p <= 4294967296 := by omega
 have hL2 : p + 1 <= 4294967296 := by omega
 have hL3 : p + 1 + (l.length - p) <= 4294967296 := by omega
 unfold qQY cQY;by_cases hlt : p < l.length
 ·have h1 : (p : Int) < l.length := by omega
  by_cases hx : l[p] = x
  ·rw [if_pos (by rw [List.getElem?_eq_getElem hlt,hx])];simp [rQYX0,rQYX1,rQYX2,rQYX3,rQYX4,rQYX5,rQYX6,rQYX7,h,h1,hlt,hx,ints_length,ints_get,intsAt,idx,endL,finB]
  ·rw [if_neg (by rw [List.getElem?_eq_getElem hlt]; simpa using hx)];simp [rQYX0,rQYX1,rQYX2,rQYX3,rQYX4,rQYX5,rQYX6,rQYX7,h,h1,hlt,hx,hp,hq,hm,hL1,hL2,hL3,ints_length,ints_get,intsAt,idx,endL,finB,ints_take,ints_drop,ints_snoc,ints_app,LIM,List.length_take,List.length_drop];simp (disch := (simp only [List.length_take,List.length_append,List.length_drop,List.length_singleton,List.length_cons,List.length_nil] <;> omega)) only [List.take_of_length_le,List.take_take,Nat.min_self,List.append_assoc,List.singleton_append]
 ·have h1 : ¬ (p : Int) < l.length := by omega
  rw [if_neg (by rw [List.getElem?_eq_none (by omega)]; simp)];simp [rQYX0,rQYX1,rQYX2,rQYX3,rQYX4,rQYX5,rQYX6,rQYX7,h,h1,hlt,hp,hq,hm,hL1,hL2,hL3,ints_length,ints_get,intsAt,idx,endL,finB,ints_take,ints_drop,ints_snoc,ints_app,LIM,List.length_take,List.length_drop];simp (disch := (simp only [List.length_take,List.length_append,List.length_drop,List.length_singleton,List.length_cons,List.length_nil] <;> omega)) only [List.take_of_length_le,List.take_take,Nat.min_self,List.append_assoc,List.singleton_append]
theorem of_loop (l : List Int) (hl : l.length < 4294967295) : ∀ (n i : Nat) (o : List Int),i + n = l.length -> o.length <= i -> codeL cfgS 0 (.loop lQHX0) ⟨[(3,.list 1 (ints o)),(6,.list 1 (ints l)),(7,.int .i64 l.length),(8,.int .i64 i)],[]⟩ =
  some (.exit 0,⟨[(3,.list 1 (ints ((l.drop i).foldl (fun o x => putI x o) o))),(6,.list 1 (ints l)),(7,.int .i64 l.length),(8,.int .i64 l.length),(9,.bool false)],[]⟩)
 | 0,i,o,hi,ho => by
   have e : i = l.length := by omega
   subst e;rw [List.drop_length];exact loop_exit (by unfold lQHX0; simp [rQHX0,rQHX1,rQHX2,rQHX3,rQHX4,rQHX5,rQHX6,rQHX7])
 | n + 1,i,o,hi,ho => by
   have hlt : i < l.length := by omega
   have h1 : (i : Int) < l.length := by omega
   have hw := wrapS (i := i) (by omega);have hp := put_run l[i] o (by omega);have hpl := putI_len l[i] o;have ih := of_loop l hl n (i + 1) (putI l[i] o) (by omega) (by omega);rw [List.drop_eq_getElem_cons hlt,List.foldl_cons];exact (loop_next (by unfold lQHX0; simp [rQHX0,rQHX1,rQHX2,rQHX3,rQHX4,rQHX5,rQHX6,rQHX7,h1,hlt,hw,hp,sQY,iQY,vQY,lQY,ints_length,ints_get,intsAt,idx])).trans ih
theorem of_loop0 (l : List Int) (hl : l.length < 4294967295) : codeL cfgS 0 (.loop lQHX0) ⟨[(3,.own 1 []),(6,.list 1 (ints l)),(7,.int .i64 l.length),(8,.int .i64 0)],[]⟩ =
  some (.exit 0,⟨[(3,if l = [] then .own 1 [] else .list 1 (ints (setOf l))),(6,.list 1 (ints l)),(7,.int .i64 l.length),(8,.int .i64 l.length),(9,.bool false)],[]⟩) := by
 cases l with
 | nil => exact loop_exit (by unfold lQHX0; simp [rQHX0,rQHX1,rQHX2,rQHX3,rQHX4,rQHX5,rQHX6,rQHX7,ints_nil])
 | cons a r =>
   have hp := put_run a [] (by simp);have ih := of_loop (a :: r) hl r.length 1 (putI a []) (by simp; omega) (by simp [putI]);rw [<- ofL_eq,if_neg (by simp)];rw [ints_nil] at hp;refine (loop_next (s' := ⟨[(3,.list 1 (ints (putI a []))),(6,.list 1 (ints (a :: r))),(7,.int .i64 (a :: r).length),(8,.int .i64 ((1 : Nat) : Int))],[]⟩) ?_).trans (ih.trans ?_)
   ·have h1 : (0 : Int) < (r.length : Int) + 1 := by omega
    unfold lQHX0;simp [rQHX0,rQHX1,rQHX2,rQHX3,rQHX4,rQHX5,rQHX6,rQHX7,h1,hp,sQY,iQY,vQY,lQY,ints_length,ints_cons,idx]
   ·rfl
theorem of_run (l : List Int) (hl : l.length < 4294967295) : callL cfgS nQH [.list 1 (ints l)] [] = some (.list 1 (ints (setOf l)),[]) := by
 rw [callL_end oQH sQH (Nat.le_of_ble_eq_true rfl)];have h := of_loop0 l hl;unfold qQH cQH;by_cases hx : l = []
 ·subst hx;rw [if_pos rfl] at h;simp only [ints_nil,List.length_nil,nat0] at h;simp [rQHX0,rQHX1,rQHX2,rQHX3,rQHX4,rQHX5,rQHX6,rQHX7,h,ints_nil,endL,finB];rfl
 ·rw [if_neg hx] at h;simp [rQHX0,rQHX1,rQHX2,rQHX3,rQHX4,rQHX5,rQHX6,rQHX7,h,ints_length,endL,finB]
def rangeI (n : Int) : List Int := (List.range (min n.toNat 64)).map fun i => ((i : Nat) : Int)
/- What comparisons return; nodeset.Valid, Has, Cmp, Range. -/
def cmpGo : List Int -> List Int -> Option Int
 | [],_ => none
 | _ :: _,[] => some 1
 | x :: r,y :: s => if y < x then some 1 else if x < y then some (-1) else cmpGo r s
theorem cmpL_go : ∀ a b : List Int,cmpL a b = (cmpGo a b).getD (if a.length < b.length then -1 else 0)
 | [],[] => rfl
 | [],_ :: _ => by simp [cmpL,cmpGo]
 | _ :: _,[] => rfl
 | x :: r,y :: s => by
   have ih := cmpL_go r s;unfold cmpL cmpGo;split
   ·rfl
   ·split
    ·rfl
    ·rw [ih]; simp
theorem cmp_loop (a b : List Int) (hl : a.length <= 9223372036854775807) (hb : b.length <= 9223372036854775807) : ∀ (n i : Nat),i + n = a.length -> codeL cfgS 0 (.loop lQrX0) ⟨[(0,.list 1 (ints a)),(1,.list 1 (ints b)),(7,.int .i64 a.length),(8,.int .i64 i)],[]⟩ =
  match cmpGo (a.drop i) (b.drop i) with
  | some v => some (.ret,⟨[(4,.int .i64 v)],[]⟩)
  | none => some (.exit 0,⟨[(0,.list 1 (ints a)),(1,.list 1 (ints b)),(7,.int .i64 a.length),(8,.int .i64 a.length),(9,.bool false)],[]⟩)
 | 0,i,hi => by
   have e : i = a.length := by omega
   subst e;rw [List.drop_length];unfold cmpGo;exact loop_exit (by unfold lQrX0; simp [rQrX0,rQrX1,rQrX2,rQrX3,rQrX4,rQrX5,rQrX6,rQrX7,rQrX8,rQrX9,rQrX10,rQrX11])
 | n + 1,i,hi => by
   have hlt : i < a.length := by omega
   have h1 : (i : Int) < a.length := by omega
   have hw := wrapS (i := i) (by omega);have ih := cmp_loop a b hl hb n (i + 1) (by omega);rw [List.drop_eq_getElem_cons hlt];by_cases hk : i < b.length
   ·have h2 : (i : Int) < b.length := by omega
    have h2' : ¬ (b.length : Int) <= i := by omega
    rw [List.drop_eq_getElem_cons hk];unfold cmpGo;by_cases hg : b[i] < a[i]
    ·rw [if_pos hg];exact loop_ret (by unfold lQrX0; simp [rQrX0,rQrX1,rQrX2,rQrX3,rQrX4,rQrX5,rQrX6,rQrX7,rQrX8,rQrX9,rQrX10,rQrX11,h1,hlt,h2,h2',hk,hg,ints_length,ints_get,intsAt,idx])
    ·rw [if_neg hg];by_cases hs : a[i] < b[i]
     ·rw [if_pos hs];exact loop_ret (by unfold lQrX0; simp [rQrX0,rQrX1,rQrX2,rQrX3,rQrX4,rQrX5,rQrX6,rQrX7,rQrX8,rQrX9,rQrX10,rQrX11,h1,hlt,h2,h2',hk,hg,hs,ints_length,ints_get,intsAt,idx])
     ·rw [if_neg hs];exact (loop_next (by unfold lQrX0; simp [rQrX0,rQrX1,rQrX2,rQrX3,rQrX4,rQrX5,rQrX6,rQrX7,rQrX8,rQrX9,rQrX10,rQrX11,h1,hlt,h2,h2',hk,hg,hs,hw,ints_length,ints_get,intsAt,idx])).trans ih
   ·have h2' : (b.length : Int) <= i := by omega
    have e0 : b.drop i = [] := List.drop_eq_nil_of_le (by omega);rw [e0];unfold cmpGo;exact loop_ret (by unfold lQrX0; simp [rQrX0,rQrX1,rQrX2,rQrX3,rQrX4,rQrX5,rQrX6,rQrX7,rQrX8,rQrX9,rQrX10,rQrX11,h1,hlt,h2',hk,ints_length,ints_get,intsAt,idx])
theorem cmp_run (a b : List Int) (hl : a.length <= 9223372036854775807) (hb : b.length <= 9223372036854775807) : callL cfgS nQr [.list 1 (ints a),.list 1 (ints b)] [] = some (.int .i64 (cmpL a b),[]) := by
 rw [callL_end oQr sQr (Nat.le_of_ble_eq_true rfl),cmpL_go];have h := cmp_loop a b hl hb a.length 0 (by omega);rw [nat0,List.drop_zero,List.drop_zero] at h;unfold qQr cQr;cases hx : cmpGo a b with
 | some v =>
   rw [hx] at h;simp only at h;rw [Option.getD_some];simp [rQrX0,rQrX1,rQrX2,rQrX3,rQrX4,rQrX5,rQrX6,rQrX7,rQrX8,rQrX9,rQrX10,rQrX11,h,ints_length,endL,finB]
 | none =>
   rw [hx] at h;simp only at h;rw [Option.getD_none];by_cases hlt : a.length < b.length
   ·have h1 : (a.length : Int) < b.length := by omega
    simp [rQrX0,rQrX1,rQrX2,rQrX3,rQrX4,rQrX5,rQrX6,rQrX7,rQrX8,rQrX9,rQrX10,rQrX11,h,hlt,h1,ints_length,endL,finB]
   ·have h1 : ¬ (a.length : Int) < b.length := by omega
    simp [rQrX0,rQrX1,rQrX2,rQrX3,rQrX4,rQrX5,rQrX6,rQrX7,rQrX8,rQrX9,rQrX10,rQrX11,h,hlt,h1,ints_length,endL,finB]
theorem nvalid_loop (m : Int) (l : List Int) (hl : l.length < 4294967297) : ∀ n i : Nat,i + n = l.length -> codeL cfgS 0 (.loop lQLX0) ⟨[(0,.list 1 (ints l)),(1,.int .i64 m),(7,.list 1 (ints l)),(8,.int .i64 l.length),(9,.int .i64 i)],[]⟩ =
  if valGo m (prev l i) (l.drop i) = true then some (.exit 0,⟨[(0,.list 1 (ints l)),(1,.int .i64 m),(7,.list 1 (ints l)),(8,.int .i64 l.length),(9,.int .i64 l.length),(10,.bool false)],[]⟩) else some (.ret,⟨[(4,.bool false)],[]⟩)
 | 0,i,hi => by
   have e : i = l.length := by omega
   subst e;rw [List.drop_length];exact loop_exit (by unfold lQLX0; simp [rQLX0,rQLX1,rQLX2,rQLX3,rQLX4,rQLX5,rQLX6,rQLX7])
 | n + 1,i,hi => by
   have hlt : i < l.length := by omega
   have h1 : (i : Int) < l.length := by omega
   have ih := nvalid_loop m l hl n (i + 1) (by omega);have hw := wrapS (i := i) (by omega);rw [prev_succ l i hlt] at ih;rw [List.drop_eq_getElem_cons hlt];unfold valGo;by_cases ha : l[i] < 0
   ·have ha' : ¬ 0 <= l[i] := by omega
    simp only [ha',decide_false,Bool.false_and,Bool.false_eq_true,if_false];exact loop_ret (by unfold lQLX0; simp [rQLX0,rQLX1,rQLX2,rQLX3,rQLX4,rQLX5,rQLX6,rQLX7,h1,hlt,ha,ints_length,ints_get,intsAt,idx])
   have ha' : 0 <= l[i] := by omega
   by_cases hb : m <= l[i]
   ·have hb' : ¬ l[i] < m := by omega
    simp only [ha',hb',decide_true,decide_false,Bool.false_and,Bool.true_and,Bool.false_eq_true,if_false];exact loop_ret (by unfold lQLX0; simp [rQLX0,rQLX1,rQLX2,rQLX3,rQLX4,rQLX5,rQLX6,rQLX7,h1,hlt,ha,hb,ints_length,ints_get,intsAt,idx])
   have hb' : l[i] < m := by omega
   by_cases hc : prev l i < l[i]
   ·simp only [ha',hb',hc,decide_true,Bool.true_and];cases i with
    | zero => exact (loop_next (by unfold lQLX0; simp [rQLX0,rQLX1,rQLX2,rQLX3,rQLX4,rQLX5,rQLX6,rQLX7,h1,hlt,ha,hb,hw,ints_length,ints_get,intsAt,idx])).trans ih
    | succ j =>
      rw [prev_succ l j (by omega)] at hc;have hj : j < l.length := by omega
      have hj1 : (j : Int) < l.length := by omega
      have hc' : ¬ l[j + 1] <= l[j] := by omega
      have hp : (0 : Int) < (j : Int) + 1 := by omega
      have hp0 : (0 : Int) <= (j : Int) + 1 := by omega
      have hw2 := wrapN (i := j) (by omega);have h1 : (j : Int) + 1 < l.length := by omega
      have hw : IntKind.i64.wrap ((j : Int) + 1 + 1) = (j : Int) + 1 + 1 := wrapZ (j := j + 1 + 1) rfl (by omega);exact (loop_next (by unfold lQLX0; simp [rQLX0,rQLX1,rQLX2,rQLX3,rQLX4,rQLX5,rQLX6,rQLX7,h1,hlt,ha,hb,hc',hj,hj1,hp,hp0,hw,hw2,ints_length,ints_get,intsAt,idx])).trans ih
   ·simp only [ha',hb',hc,decide_true,decide_false,Bool.false_and,Bool.true_and,Bool.false_eq_true,if_false];cases i with
    | zero => exact absurd (show prev l 0 < l[0] by rw [prev_zero]; omega) hc
    | succ j =>
      rw [prev_succ l j (by omega)] at hc;have hj : j < l.length := by omega
      have hj1 : (j : Int) < l.length := by omega
      have hc' : l[j + 1] <= l[j] := by omega
      have hp : (0 : Int) < (j : Int) + 1 := by omega
      have hp0 : (0 : Int) <= (j : Int) + 1 := by omega
      have hw2 := wrapN (i := j) (by omega);have h1 : (j : Int) + 1 < l.length := by omega
      have hw : IntKind.i64.wrap ((j : Int) + 1 + 1) = (j : Int) + 1 + 1 := wrapZ (j := j + 1 + 1) rfl (by omega);exact loop_ret (by unfold lQLX0; simp [rQLX0,rQLX1,rQLX2,rQLX3,rQLX4,rQLX5,rQLX6,rQLX7,h1,hlt,ha,hb,hc',hj,hj1,hp,hp0,hw,hw2,ints_length,ints_get,intsAt,idx])
theorem nvalid_run (m : Int) (l : List Int) (hl : l.length < 4294967297) : callL cfgS nQL [.list 1 (ints l),.int .i64 m] [] = some (.bool (valGo m (-1) l),[]) := by
 rw [callL_end oQL sQL (Nat.le_of_ble_eq_true rfl)];have h := nvalid_loop m l hl l.length 0 (by omega);rw [nat0,prev_zero,List.drop_zero] at h;unfold qQL cQL;by_cases hx : valGo m (-1) l = true
 ·simp [rQLX0,rQLX1,rQLX2,rQLX3,rQLX4,rQLX5,rQLX6,rQLX7,h,hx,ints_length,endL,finB]
 ·simp [rQLX0,rQLX1,rQLX2,rQLX3,rQLX4,rQLX5,rQLX6,rQLX7,h,hx,ints_length,endL,finB]
theorem nan_run (x : Int) : callL cfgS nQ3 [.int .i64 x] [] = some (.bool false,[]) := by
 rw [callL_end oQ3 sQ3 (Nat.le_of_ble_eq_true rfl)];unfold qQ3 cQ3;simp [rQ3X0,rQ3X1,endL,finB]
def cmpI (x y : Int) : Int := if x < y then -1 else if y < x then 1 else 0
theorem cmpI_run (x y : Int) : callL cfgS nQ2 [.int .i64 x,.int .i64 y] [] = some (.int .i64 (cmpI x y),[]) := by
 rw [callL_end oQ2 sQ2 (Nat.le_of_ble_eq_true rfl)];have hx := nan_run x;have hy := nan_run y;unfold qQ2 cQ2 cmpI;by_cases h1 : x < y
 ·simp [rQ2X0,rQ2X1,rQ2X2,rQ2X3,rQ2X4,rQ2X5,rQ2X6,rQ2X7,rQ2X8,rQ2X9,rQ2X10,rQ2X11,rQ2X12,rQ2X13,hx,hy,h1,sQ3,iQ3,vQ3,lQ3,endL,finB]
 ·by_cases h2 : y < x
  ·simp [rQ2X0,rQ2X1,rQ2X2,rQ2X3,rQ2X4,rQ2X5,rQ2X6,rQ2X7,rQ2X8,rQ2X9,rQ2X10,rQ2X11,rQ2X12,rQ2X13,hx,hy,h1,h2,sQ3,iQ3,vQ3,lQ3,endL,finB]
  ·simp [rQ2X0,rQ2X1,rQ2X2,rQ2X3,rQ2X4,rQ2X5,rQ2X6,rQ2X7,rQ2X8,rQ2X9,rQ2X10,rQ2X11,rQ2X12,rQ2X13,hx,hy,h1,h2,sQ3,iQ3,vQ3,lQ3,endL,finB]
/- What the bits of biclique return: TrailingZeros64, list, mask. -/
set_option maxHeartbeats 4000000
theorem gl_tab : cfgS.gl 0 = tabZ.map (AV.int .u8) := rfl
theorem tab_at : ∀ k,k < 64 -> 2 ^ k * 285870213051353865 % 18446744073709551616 / 288230376151711744 < 64 /\ (tabZ.map (AV.int .u8)).drop (2 ^ k * 285870213051353865 % 18446744073709551616 / 288230376151711744) = .int .u8 (k : Nat) :: (tabZ.map (AV.int .u8)).drop (2 ^ k * 285870213051353865 % 18446744073709551616 / 288230376151711744 + 1) := by
 intro k hk;have h1 : ∀ k,k < 64 -> 2 ^ k * 285870213051353865 % 18446744073709551616 / 288230376151711744 < 64 /\ tabZ[2 ^ k * 285870213051353865 % 18446744073709551616 / 288230376151711744]? = some ((k : Nat) : Int) := by decide +kernel
 obtain ⟨a,b⟩ := h1 k hk;refine ⟨a,?_⟩;generalize 2 ^ k * 285870213051353865 % 18446744073709551616 / 288230376151711744 = j at a b;obtain ⟨hj,e⟩ := List.getElem?_eq_some_iff.1 b;rw [List.drop_eq_getElem_cons (by simpa using hj),List.getElem_map,e]
theorem powc (n : Nat) : (2 : Int) ^ n = ((2 ^ n : Nat) : Int) := by simp
theorem bin_shr (q s : Nat) (hs : s < 64) : binA .shr (.int .u64 (q : Int)) (.int .u64 (s : Int)) = some (.int .u64 ((q / 2 ^ s : Nat) : Int)) := by
 unfold binA;simp only;have hp : 0 < 2 ^ s := Nat.two_pow_pos s;rw [if_neg (by omega),show min (s : Int).toNat IntKind.u64.bits = s by (show min (s : Int).toNat 64 = s); omega,powc,Int.fdiv_eq_ediv_of_nonneg _ (Int.natCast_nonneg _)];rfl
theorem bin_and (a b : Nat) (ha : a < 18446744073709551616) (hb : b < 18446744073709551616) : binA .and (.int .u64 (a : Int)) (.int .u64 (b : Int)) = some (.int .u64 ((a &&& b : Nat) : Int)) := by
 unfold binA;simp only [if_true,arith,u64_and_nat a b ha hb]
theorem bin_mul (a b : Nat) : binA .mul (.int .u64 (a : Int)) (.int .u64 (b : Int)) = some (.int .u64 ((a * b % 18446744073709551616 : Nat) : Int)) := by
 unfold binA;simp only [if_true,arith,IntKind.wrap_u64];rw [<- Int.natCast_mul];rfl
theorem opsB_app {c : Cfg} {call : Nat -> List AV -> Heap -> Option (AV × Heap)} : ∀ (a b : List O) (s : St) {s' s'' : St} {f g : List Fq},opsB c call a s = some (s',f) -> opsB c call b s' = some (s'',g) -> opsB c call (a ++ b) s = some (s'',f ++ g)
 | [],b,s,s',s'',f,g,h,k => by
   simp only [opsB,Option.some.injEq,Prod.mk.injEq] at h;obtain ⟨rfl,rfl⟩ := h;exact k
 | o :: r,b,s,s',s'',f,g,h,k => by
   simp only [opsB,List.cons_append] at h ⊢;split at h
   case h_2 => cases h
   rename_i s1 fl h1;split at h
   case h_2 => cases h
   rename_i s2 fls h2;simp only [Option.some.injEq,Prod.mk.injEq] at h;obtain ⟨rfl,rfl⟩ := h;rw [opsB_app r b s1 h2 k];rfl
theorem tz_a (x : Nat) (h0 : x ≠ 0) (hx : x < 18446744073709551616) : ∃ (y p q j : Int) (T : List AV),opsB cfgS (callL cfgS) (rQDX3.take 6) ⟨[(0,.int .u64 x),(4,.bool false)],[]⟩ = some (⟨[(0,.int .u64 x),(4,.bool false),(5,.int .u64 x),(6,.int .u64 x),(7,.int .u64 y),(8,.int .u64 p),(9,.int .u64 q),(10,.int .u64 j)],[]⟩,[.no,.no,.no,.no,.no,.no]) /\ (0 <= j /\ j < 64) /\ (cfgS.gl 0).drop j.toNat = .int .u8 (tz x : Nat) :: T /\ tz x < 64 := by
 obtain ⟨e1,e2⟩ := Lib.lowest_bit 64 x h0 hx;have e2 : tz x < 64 := e2;have e1 : x &&& (18446744073709551616 - x) = 2 ^ tz x := e1;obtain ⟨e3,e4⟩ := tab_at (tz x) e2
 have b1 : binA .eql (.int .u64 (x : Int)) (.int .u64 0) = some (.bool false) := by
  have : ((x : Int) == 0) = false := by rw [beq_eq_false_iff_ne]; omega
  unfold binA;simp only [if_true,arith,this]
 have u1 : unA .neg (.int .u64 (x : Int)) = some (.int .u64 ((18446744073709551616 - x : Nat) : Int)) := by
  unfold unA;simp only [IntKind.wrap_u64];rw [show (0 - (x : Int)) % 18446744073709551616 = ((18446744073709551616 - x : Nat) : Int) by omega]
 have b2 := bin_and x (18446744073709551616 - x) hx (by omega);rw [e1] at b2;have b3 := bin_mul (2 ^ tz x) 285870213051353865;have b4 := bin_shr (2 ^ tz x * 285870213051353865 % 18446744073709551616) 58 (by omega);rw [show (2 ^ 58 : Nat) = 288230376151711744 from rfl] at b4;generalize 2 ^ tz x * 285870213051353865 % 18446744073709551616 / 288230376151711744 = j at *;generalize 2 ^ tz x * 285870213051353865 % 18446744073709551616 = q at *;generalize 2 ^ tz x = p at *;have b3 : binA .mul (.int .u64 (p : Int)) (.int .u64 285870213051353865) = some (.int .u64 (q : Int)) := b3;have b4 : binA .shr (.int .u64 (q : Int)) (.int .u64 58) = some (.int .u64 (j : Int)) := b4;have f5 : (j : Int) < 64 := by omega
 have f6 : IntKind.i64.wrap ((tz x : Nat) : Int) = ((tz x : Nat) : Int) := wrapN (by omega);clear e1;generalize tz x = z at *;generalize 18446744073709551616 - x = y at *;generalize (x : Int) = X at *;generalize hC : (285870213051353865 : Int) = C at *;rw [<- gl_tab] at e4;refine ⟨y,p,q,j,_,?_,⟨by omega,f5⟩,by rw [show (j : Int).toNat = j by omega]; exact e4,e2⟩;clear e4 e3 e2 f6;generalize (j : Int) = J at *;generalize (q : Int) = Q at *;generalize (p : Int) = Pp at *;generalize (y : Int) = Y at *;unfold rQDX3;simp [rQDX0,rQDX1,rQDX2,rQDX3,List.take_succ_cons,List.take_zero,b1,u1,b2,hC,b3,b4,blk,eds_length,eds_get,edsAt,edAV,allLeaf_eds,cleanL_eds,cleanL_ints,ints_length,ints_get,intsAt,endL,finB,-binA,-unA,-unA]
theorem tz_b (X Y Pp Q J : Int) (z : Nat) (T : List AV) (h0 : 0 <= J) (h1 : J < 64) (hz : z < 64) (h : (cfgS.gl 0).drop J.toNat = .int .u8 (z : Nat) :: T) : ∃ T',opsB cfgS (callL cfgS) (rQDX3.drop 6) ⟨[(0,.int .u64 X),(4,.bool false),(5,.int .u64 X),(6,.int .u64 X),(7,.int .u64 Y),(8,.int .u64 Pp),(9,.int .u64 Q),(10,.int .u64 J)],[]⟩ = some (⟨[(0,.int .u64 X),(2,.int .i64 (z : Nat)),(4,.bool false),(5,.int .u64 X),(6,.int .u64 X),(7,.int .u64 Y),(8,.int .u64 Pp),(9,.int .u64 Q),(10,.int .u64 J),(11,.fptr T'),(12,.int .u8 (z : Nat)),(13,.int .i64 (z : Nat))],[]⟩,[.no,.rd [],.no,.no]) := by
 refine ⟨.int .u8 (z : Nat) :: T,?_⟩;have hw := wrapN (i := z) (by omega);generalize hG : cfgS.gl 0 = G at *;unfold rQDX3;simp [rQDX0,rQDX1,rQDX2,rQDX3,List.drop_succ_cons,List.drop_zero,h0,h1,hG,h,hw,idx,blk,eds_length,eds_get,edsAt,edAV,allLeaf_eds,cleanL_eds,cleanL_ints,ints_length,ints_get,intsAt,endL,finB]
theorem tz_run (x : Nat) (h0 : x ≠ 0) (hx : x < 18446744073709551616) : callL cfgS nQD [.int .u64 x] [] = some (.int .i64 (tz x : Nat),[]) := by
 rw [callL_end oQD sQD (Nat.le_of_ble_eq_true rfl)];obtain ⟨y,p,q,j,T,r1,⟨j0,j1⟩,r2,r3⟩ := tz_a x h0 hx;obtain ⟨T',r4⟩ := tz_b x y p q j (tz x) T j0 j1 r3 r2;have r5 := opsB_app _ _ _ r1 r4;rw [List.take_append_drop] at r5
 have r6 : codeL cfgS 0 (.reg rQDX3 false [] [2]) ⟨[(0,.int .u64 x),(4,.bool false)],[]⟩ = some (.normal,⟨[(2,.int .i64 (tz x : Nat))],[]⟩) := by
  rw [codeL_reg,r5];clear r1 r2 r3 r4 r5;simp [regL_s,endR,hasOwnE,hasOwn,endK,keepIn,trim,mem_nil',mem_cons']
 have b1 : binA .eql (.int .u64 (x : Int)) (.int .u64 0) = some (.bool false) := by
  have : ((x : Int) == 0) = false := by rw [beq_eq_false_iff_ne]; omega
  unfold binA;simp only [if_true,arith,this]
 clear r1 r2 r3 r4 r5 h0 hx;generalize ((tz x : Nat) : Int) = z at *;generalize (x : Int) = X at *
 have r7 : codeL cfgS 0 (.reg rQDX1 false [] [0,4]) ⟨[(0,.int .u64 X)],[]⟩ = some (.normal,⟨[(0,.int .u64 X),(4,.bool false)],[]⟩) := by
  unfold rQDX1;simp [rQ1X0,rQ1X1,rQ1X2,rQ1X3,rQ1X4,rQ1X5,rQ1X6,rQ1X7,rQ1X8,b1,blk,eds_length,eds_get,edsAt,edAV,allLeaf_eds,cleanL_eds,cleanL_ints,ints_length,ints_get,intsAt,endL,finB,-binA]
 have r8 : codeL cfgS 0 (.reg rQDX0 false [] [0]) ⟨[(0,.int .u64 X)],[]⟩ = some (.normal,⟨[(0,.int .u64 X)],[]⟩) := by
  unfold rQDX0;simp [rQ1X0,rQ1X1,rQ1X2,rQ1X3,rQ1X4,rQ1X5,rQ1X6,rQ1X7,rQ1X8,blk,eds_length,eds_get,edsAt,edAV,allLeaf_eds,cleanL_eds,cleanL_ints,ints_length,ints_get,intsAt,endL,finB]
 show endL cfgS _ _ 0 (codeL cfgS 0 cQD ⟨[(0,.int .u64 X)],[]⟩) = _;unfold cQD;rw [codeL_seq,r8,thenL_n,codeL_seq,codeL_seq,r7,thenL_n,codeL_cnd];show endL cfgS _ _ 0 (thenL cfgS 0 _ (codeL cfgS 0 .skip ⟨[(0,.int .u64 X),(4,.bool false)],[]⟩)) = _;rw [codeL_skip,thenL_n,codeL_seq,r6,thenL_n,codeL_ret];simp [endL,finB,qQD,resVs,resV,opnd,lend,get_cons',tupOf,frzV,frzR]
end Go.BmP
