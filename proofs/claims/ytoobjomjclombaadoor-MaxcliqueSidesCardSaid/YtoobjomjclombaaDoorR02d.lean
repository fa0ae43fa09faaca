/- What functions of cohesionref02 return: Has, Valid, put, Of. -/
import Derived.Test.YtoobjomjclombaaDoorUseM
import Derived.Test.YtoobjomjclombaaDoorCfS
import Derived.Test.YtoobjomjclombaaDoorRunX
import Derived.Test.YtoobjomjclombaaDoorRvG
set_option linter.unusedSimpArgs false
set_option linter.unusedVariables false
set_option maxRecDepth 100000
namespace Go.BmP
open Go.Am Go.Bm
theorem has_loop (x : Int) (l : List Int) (hl : l.length < 4294967297) : ∀ n i : Nat,i + n = l.length -> codeL cfgS 0 (.loop lQiX0) ⟨[(1,.int .i64 x),(7,.list 1 (ints l)),(8,.int .i64 l.length),(9,.int .i64 i)],[]⟩ =
  if x ∈ l.drop i then some (.ret,⟨[(4,.bool true)],[]⟩) else some (.exit 0,⟨[(1,.int .i64 x),(7,.list 1 (ints l)),(8,.int .i64 l.length),(9,.int .i64 l.length),(10,.bool false)],[]⟩)
 | 0,i,hi => by
   have e : i = l.length := by omega
   subst e;rw [List.drop_length];exact loop_exit (by unfold lQiX0; simp [rQiX0,rQiX1,rQiX2,rQiX3,rQiX4,rQiX5,rQiX6,rQiX7])
 | n + 1,i,hi => by
   have hlt : i < l.length := by omega
   have h1 : (i : Int) < l.length := by omega
   have ih := has_loop x l hl n (i + 1) (by omega);have hw := wrapS (i := i) (by omega);rw [List.drop_eq_getElem_cons hlt];by_cases hx : l[i] = x
   ·rw [if_pos (by simp [hx])];exact loop_ret (by unfold lQiX0; simp [rQiX0,rQiX1,rQiX2,rQiX3,rQiX4,rQiX5,rQiX6,rQiX7,h1,hlt,hx,ints_length,ints_get,intsAt,idx])
   ·have hx2 : ¬ x = l[i] := fun e => hx e.symm;simp only [List.mem_cons,hx2,false_or];exact (loop_next (by unfold lQiX0; simp [rQiX0,rQiX1,rQiX2,rQiX3,rQiX4,rQiX5,rQiX6,rQiX7,h1,hlt,hx,hw,ints_length,ints_get,intsAt,idx])).trans ih
theorem has_run (x : Int) (l : List Int) (hl : l.length < 4294967297) : callL cfgS nQi [.list 1 (ints l),.int .i64 x] [] = some (.bool (decide (x ∈ l)),[]) := by
 rw [callL_end oQi sQi (Nat.le_of_ble_eq_true rfl)];have h := has_loop x l hl l.length 0 (by omega);rw [nat0,List.drop_zero] at h;unfold qQi cQi;by_cases hx : x ∈ l
 ·simp [rQiX0,rQiX1,rQiX2,rQiX3,rQiX4,rQiX5,rQiX6,rQiX7,h,hx,ints_length,endL,finB]
 ·simp [rQiX0,rQiX1,rQiX2,rQiX3,rQiX4,rQiX5,rQiX6,rQiX7,h,hx,ints_length,endL,finB]
theorem put_loop (x : Int) (l : List Int) (hl : l.length < 4294967296) : ∀ n i : Nat,i + n = l.length -> codeL cfgS 0 (.loop lQBX0) ⟨[(0,.list 1 (ints l)),(1,.int .i64 x),(5,.int .i64 i)],[]⟩ =
  some (.exit 0,⟨[(0,.list 1 (ints l)),(1,.int .i64 x),(5,.int .i64 (i + pos x (l.drop i) : Nat)),(18,.bool false)],[]⟩)
 | 0,i,hi => by
   have e : i = l.length := by omega
   subst e;rw [List.drop_length];exact loop_exit (by unfold lQBX0; simp [rQBX0,rQBX1,rQBX2,rQBX3,rQBX4,rQBX5,rQBX6,rQBX7,pos,ints_length,idx])
 | n + 1,i,hi => by
   have hlt : i < l.length := by omega
   have h1 : (i : Int) < l.length := by omega
   have ih := put_loop x l hl n (i + 1) (by omega);have hw := wrapS (i := i) (by omega);rw [List.drop_eq_getElem_cons hlt];unfold pos;by_cases hx : l[i] < x
   ·have e : i + (pos x (l.drop (i + 1)) + 1) = i + 1 + pos x (l.drop (i + 1)) := by omega
    rw [if_pos hx,e];exact (loop_next (by unfold lQBX0; simp [rQBX0,rQBX1,rQBX2,rQBX3,rQBX4,rQBX5,rQBX6,rQBX7,h1,hlt,hx,hw,ints_length,ints_get,intsAt,idx])).trans ih
   ·rw [if_neg hx];exact loop_exit (by unfold lQBX0; simp [rQBX0,rQBX1,rQBX2,rQBX3,rQBX4,rQBX5,rQBX6,rQBX7,h1,hlt,hx,ints_length,ints_get,intsAt,idx])
/- What functions of cohesionref02 return: put, Of, Range, Union, Meet, Minus, Within, Cmp, Same. -/
theorem put_run (x : Int) (l : List Int) (hl : l.length < 4294967295) : callL cfgS nQB [.list 1 (ints l),.int .i64 x] [] = some (.list 1 (ints (putI x l)),[]) := by
 rw [callL_end oQB sQB (Nat.le_of_ble_eq_true rfl),putI_pos];have h := put_loop x l (by omega) l.length 0 (by omega);rw [nat0,List.drop_zero,Nat.zero_add] at h;have hp := pos_le x l;generalize pos x l = p at h hp ⊢;have hq : (p : Int) <= l.length := by omega
 have hm : min p l.length = p := by omega
 have hL1 : p <= 4294967296 := by omega
 have hL2 : p + 1 <= 4294967296 := by omega
 have hL3 : p + 1 + (l.length - p) <= 4294967296 := by omega
 unfold qQB cQB;by_cases hlt : p < l.length
 ·have h1 : (p : Int) < l.length := by omega
  by_cases hx : l[p] = x
  ·rw [if_pos (by rw [List.getElem?_eq_getElem hlt,hx])];simp [rQBX0,rQBX1,rQBX2,rQBX3,rQBX4,rQBX5,rQBX6,rQBX7,h,h1,hlt,hx,ints_length,ints_get,intsAt,idx,endL,finB]
  ·rw [if_neg (by rw [List.getElem?_eq_getElem hlt]; simpa using hx)];simp [rQBX0,rQBX1,rQBX2,rQBX3,rQBX4,rQBX5,rQBX6,rQBX7,h,h1,hlt,hx,hp,hq,hm,hL1,hL2,hL3,ints_length,ints_get,intsAt,idx,endL,finB,ints_take,ints_drop,ints_snoc,ints_app,LIM,List.length_take,List.length_drop];simp (disch := (simp only [List.length_take,List.length_append,List.length_drop,List.length_singleton,List.length_cons,List.length_nil] <;> omega)) only [List.take_of_length_le,List.take_take,Nat.min_self,List.append_assoc,List.singleton_append]
 ·have h1 : ¬ (p : Int) < l.length := by omega
  rw [if_neg (by rw [List.getElem?_eq_none (by omega)]; simp)];simp [rQBX0,rQBX1,rQBX2,rQBX3,rQBX4,rQBX5,rQBX6,rQBX7,h,h1,hlt,hp,hq,hm,hL1,hL2,hL3,ints_length,ints_get,intsAt,idx,endL,finB,ints_take,ints_drop,ints_snoc,ints_app,LIM,List.length_take,List.length_drop];simp (disch := (simp only [List.length_take,List.length_append,List.length_drop,List.length_singleton,List.length_cons,List.length_nil] <;> omega)) only [List.take_of_length_le,List.take_take,Nat.min_self,List.append_assoc,List.singleton_append]
theorem of_loop (l : List Int) (hl : l.length < 4294967295) : ∀ (n i : Nat) (o : List Int),i + n = l.length -> o.length <= i -> codeL cfgS 0 (.loop lQkX0) ⟨[(3,.list 1 (ints o)),(6,.list 1 (ints l)),(7,.int .i64 l.length),(8,.int .i64 i)],[]⟩ =
  some (.exit 0,⟨[(3,.list 1 (ints ((l.drop i).foldl (fun o x => putI x o) o))),(6,.list 1 (ints l)),(7,.int .i64 l.length),(8,.int .i64 l.length),(9,.bool false)],[]⟩)
 | 0,i,o,hi,ho => by
   have e : i = l.length := by omega
   subst e;rw [List.drop_length];exact loop_exit (by unfold lQkX0; simp [rQkX0,rQkX1,rQkX2,rQkX3,rQkX4,rQkX5,rQkX6,rQkX7])
 | n + 1,i,o,hi,ho => by
   have hlt : i < l.length := by omega
   have h1 : (i : Int) < l.length := by omega
   have hw := wrapS (i := i) (by omega);have hp := put_run l[i] o (by omega);have hpl := putI_len l[i] o;have ih := of_loop l hl n (i + 1) (putI l[i] o) (by omega) (by omega);rw [List.drop_eq_getElem_cons hlt,List.foldl_cons];exact (loop_next (by unfold lQkX0; simp [rQkX0,rQkX1,rQkX2,rQkX3,rQkX4,rQkX5,rQkX6,rQkX7,h1,hlt,hw,hp,sQB,iQB,lQB,ints_length,ints_get,intsAt,idx])).trans ih
theorem of_loop0 (l : List Int) (hl : l.length < 4294967295) : codeL cfgS 0 (.loop lQkX0) ⟨[(3,.own 1 []),(6,.list 1 (ints l)),(7,.int .i64 l.length),(8,.int .i64 0)],[]⟩ =
  some (.exit 0,⟨[(3,if l = [] then .own 1 [] else .list 1 (ints (setOf l))),(6,.list 1 (ints l)),(7,.int .i64 l.length),(8,.int .i64 l.length),(9,.bool false)],[]⟩) := by
 cases l with
 | nil => exact loop_exit (by unfold lQkX0; simp [rQkX0,rQkX1,rQkX2,rQkX3,rQkX4,rQkX5,rQkX6,rQkX7,ints_nil])
 | cons a r =>
   have hp := put_run a [] (by simp);have ih := of_loop (a :: r) hl r.length 1 (putI a []) (by simp; omega) (by simp [putI]);rw [<- ofL_eq,if_neg (by simp)];rw [ints_nil] at hp;refine (loop_next (s' := ⟨[(3,.list 1 (ints (putI a []))),(6,.list 1 (ints (a :: r))),(7,.int .i64 (a :: r).length),(8,.int .i64 ((1 : Nat) : Int))],[]⟩) ?_).trans (ih.trans ?_)
   ·have h1 : (0 : Int) < (r.length : Int) + 1 := by omega
    unfold lQkX0;simp [rQkX0,rQkX1,rQkX2,rQkX3,rQkX4,rQkX5,rQkX6,rQkX7,h1,hp,sQB,iQB,lQB,ints_length,ints_cons,idx]
   ·rfl
theorem of_run (l : List Int) (hl : l.length < 4294967295) : callL cfgS nQk [.list 1 (ints l)] [] = some (.list 1 (ints (setOf l)),[]) := by
 rw [callL_end oQk sQk (Nat.le_of_ble_eq_true rfl)];have h := of_loop0 l hl;unfold qQk cQk;by_cases hx : l = []
 ·subst hx;rw [if_pos rfl] at h;simp only [ints_nil,List.length_nil,nat0] at h;simp [rQkX0,rQkX1,rQkX2,rQkX3,rQkX4,rQkX5,rQkX6,rQkX7,h,ints_nil,endL,finB];rfl
 ·rw [if_neg hx] at h;simp [rQkX0,rQkX1,rQkX2,rQkX3,rQkX4,rQkX5,rQkX6,rQkX7,h,ints_length,endL,finB]
theorem minus_loop (l b : List Int) (hl : l.length < 4294967295) (hb : b.length < 4294967295) : ∀ (n i : Nat) (o : List Int),i + n = l.length -> o.length <= i -> codeL cfgS 0 (.loop lQgX0) ⟨[(1,.list 1 (ints b)),(5,.own 1 (ints o)),(9,.list 1 (ints l)),(10,.int .i64 l.length),(11,.int .i64 i)],[]⟩ =
  some (.exit 0,⟨[(1,.list 1 (ints b)),(5,.own 1 (ints (o ++ (l.drop i).filter fun x => !decide (x ∈ b)))),(9,.list 1 (ints l)),(10,.int .i64 l.length),(11,.int .i64 l.length),(12,.bool false)],[]⟩)
 | 0,i,o,hi,ho => by
   have e : i = l.length := by omega
   subst e;rw [List.drop_length,List.filter_nil,List.append_nil];exact loop_exit (by unfold lQgX0; simp [rQgX0,rQgX1,rQgX2,rQgX3,rQgX4,rQgX5,rQgX6,rQgX7,rQgX8])
 | n + 1,i,o,hi,ho => by
   have hlt : i < l.length := by omega
   have h1 : (i : Int) < l.length := by omega
   have hw := wrapS (i := i) (by omega);have hh := has_run l[i] b (by omega);have hL : o.length + 1 <= 4294967296 := by omega
   rw [List.drop_eq_getElem_cons hlt,List.filter_cons];by_cases hx : l[i] ∈ b
   ·have ih := minus_loop l b hl hb n (i + 1) o (by omega) (by omega);rw [if_neg (by simpa using hx)];exact (loop_next (by unfold lQgX0; simp [rQgX0,rQgX1,rQgX2,rQgX3,rQgX4,rQgX5,rQgX6,rQgX7,rQgX8,h1,hlt,hw,hh,hx,hL,LIM,sQi,iQi,lQi,ints_length,ints_get,intsAt,idx,ints_snoc,ints_take])).trans ih
   ·have ih := minus_loop l b hl hb n (i + 1) (o ++ [l[i]]) (by omega) (by simp; omega);rw [List.append_assoc] at ih;rw [if_pos (by simpa using hx)];exact (loop_next (by unfold lQgX0; simp [rQgX0,rQgX1,rQgX2,rQgX3,rQgX4,rQgX5,rQgX6,rQgX7,rQgX8,h1,hlt,hw,hh,hx,hL,LIM,sQi,iQi,lQi,ints_length,ints_get,intsAt,idx,ints_snoc,ints_take])).trans ih
theorem minus_run (a b : List Int) (ha : a.length < 4294967295) (hb : b.length < 4294967295) : callL cfgS nQg [.list 1 (ints a),.list 1 (ints b)] [] = some (.list 1 (ints (minus a b)),[]) := by
 rw [callL_end oQg sQg (Nat.le_of_ble_eq_true rfl)];have hs := setOf_len a;have h := minus_loop (setOf a) b (by omega) hb (setOf a).length 0 [] (by omega) (by simp);have ho := of_run a ha;have e : (setOf a).filter (fun x => !decide (x ∈ b)) = minus a b := up_ext ((setOf_spec a).1.filter _) (minus_spec _ _).1 fun x => by rw [(minus_spec _ _).2,List.mem_filter,(setOf_spec _).2]; simp
 rw [nat0,List.drop_zero,List.nil_append,e,ints_nil] at h;unfold qQg cQg;simp [rQgX0,rQgX1,rQgX2,rQgX3,rQgX4,rQgX5,rQgX6,rQgX7,rQgX8,h,ho,LIM,ints_nil,ints_length,ints_take,endL,finB,sQk,iQk,lQk]
def rangeI (n : Int) : List Int := (List.range (min n.toNat 64)).map fun i => ((i : Nat) : Int)
theorem range_loop (m : Int) : ∀ (n i : Nat),i + n = min m.toNat 64 -> codeL cfgS 0 (.loop lQhX0) ⟨[(0,.int .i64 m),(3,.own 1 (ints ((List.range i).map fun i => ((i : Nat) : Int)))),(4,.int .i64 i)],[]⟩ =
  some (.exit 0,⟨[(0,.int .i64 m),(3,.own 1 (ints (rangeI m))),(4,.int .i64 (min m.toNat 64 : Nat)),(11,.bool false)],[]⟩)
 | 0,i,hi => by
   have e : i = min m.toNat 64 := by omega
   have e2 : ((List.range i).map fun i => ((i : Nat) : Int)) = rangeI m := by rw [e]; rfl
   rw [e2,<- e];by_cases h : (i : Int) < m
   ·have h2 : ¬ (i : Int) < 64 := by omega
    exact loop_exit (by unfold lQhX0; simp [rQhX0,rQhX1,rQhX2,rQhX3,rQhX4,rQhX5,rQhX6,h,h2])
   ·exact loop_exit (by unfold lQhX0; simp [rQhX0,rQhX1,rQhX2,rQhX3,rQhX4,rQhX5,rQhX6,h])
 | n + 1,i,hi => by
   have h : (i : Int) < m := by omega
   have h2 : (i : Int) < 64 := by omega
   have hw := wrapS (i := i) (by omega);have hL : i + 1 <= 4294967296 := by omega
   have ih := range_loop m n (i + 1) (by omega);have e : ((List.range (i + 1)).map fun i => ((i : Nat) : Int)) = ((List.range i).map fun i => ((i : Nat) : Int)) ++ [(i : Int)] := by rw [List.range_succ,List.map_append]; rfl
   rw [e] at ih;generalize hr : ((List.range i).map fun i => ((i : Nat) : Int)) = r at ih ⊢;have hrl : r.length = i := by rw [<- hr]; simp
   exact (loop_next (by unfold lQhX0; simp [rQhX0,rQhX1,rQhX2,rQhX3,rQhX4,rQhX5,rQhX6,h,h2,hw,hL,hrl,take_snocI hrl,LIM,ints_length,ints_snoc,ints_take])).trans ih
theorem range_run (m : Int) : callL cfgS nQh [.int .i64 m] [] = some (.list 1 (ints (rangeI m)),[]) := by
 rw [callL_end oQh sQh (Nat.le_of_ble_eq_true rfl)];have h := range_loop m (min m.toNat 64) 0 (by omega);rw [nat0,List.range_zero,List.map_nil,ints_nil] at h;unfold qQh cQh;simp [rQhX0,rQhX1,rQhX2,rQhX3,rQhX4,rQhX5,rQhX6,h,ints_length,ints_take,endL,finB]
/- What comparisons return; nodeset.Valid, Has, Cmp, Range. -/
def cmpGo : List Int -> List Int -> Option Int
 | [],_ => none
 | _ :: _,[] => some 1
 | x :: r,y :: s => if y < x then some 1 else if x < y then some (-1) else cmpGo r s
theorem nan_run (x : Int) : callL cfgS nQa5 [.int .i64 x] [] = some (.bool false,[]) := by
 rw [callL_end oQa5 sQa5 (Nat.le_of_ble_eq_true rfl)];unfold qQa5 cQa5;simp [rQa5X0,rQa5X1,endL,finB]
def cmpI (x y : Int) : Int := if x < y then -1 else if y < x then 1 else 0
theorem cmpI_run (x y : Int) : callL cfgS nQ5 [.int .i64 x,.int .i64 y] [] = some (.int .i64 (cmpI x y),[]) := by
 rw [callL_end oQ5 sQ5 (Nat.le_of_ble_eq_true rfl)];have hx := nan_run x;have hy := nan_run y;unfold qQ5 cQ5 cmpI;by_cases h1 : x < y
 ·simp [rQ5X0,rQ5X1,rQ5X2,rQ5X3,rQ5X4,rQ5X5,rQ5X6,rQ5X7,rQ5X8,rQ5X9,rQ5X10,rQ5X11,rQ5X12,rQ5X13,hx,hy,h1,sQa5,iQa5,lQa5,endL,finB]
 ·by_cases h2 : y < x
  ·simp [rQ5X0,rQ5X1,rQ5X2,rQ5X3,rQ5X4,rQ5X5,rQ5X6,rQ5X7,rQ5X8,rQ5X9,rQ5X10,rQ5X11,rQ5X12,rQ5X13,hx,hy,h1,h2,sQa5,iQa5,lQa5,endL,finB]
  ·simp [rQ5X0,rQ5X1,rQ5X2,rQ5X3,rQ5X4,rQ5X5,rQ5X6,rQ5X7,rQ5X8,rQ5X9,rQ5X10,rQ5X11,rQ5X12,rQ5X13,hx,hy,h1,h2,sQa5,iQa5,lQa5,endL,finB]
theorem nrange_loop (t : Nat) (ht : t <= 64) : ∀ (n i : Nat),i + n = t -> codeL cfgS 0 (.loop lQxX0) ⟨[(3,.own 1 (ints ((List.range i).map fun i => ((i : Nat) : Int)))),(7,.int .i64 t),(8,.int .i64 i)],[]⟩ =
  some (.exit 0,⟨[(3,.own 1 (ints ((List.range t).map fun i => ((i : Nat) : Int)))),(7,.int .i64 t),(8,.int .i64 t),(9,.bool false)],[]⟩)
 | 0,i,hi => by
   obtain rfl : i = t := by omega
   exact loop_exit (by unfold lQxX0; simp [rQxX0,rQxX1,rQxX2,rQxX3,rQxX4,rQxX5,rQxX6,rQxX7])
 | n + 1,i,hi => by
   have h : (i : Int) < t := by omega
   have hw := wrapS (i := i) (by omega);have hL : i + 1 <= 4294967296 := by omega
   have ih := nrange_loop t ht n (i + 1) (by omega);have e : ((List.range (i + 1)).map fun i => ((i : Nat) : Int)) = ((List.range i).map fun i => ((i : Nat) : Int)) ++ [(i : Int)] := by rw [List.range_succ,List.map_append]; rfl
   rw [e] at ih;generalize hr : ((List.range i).map fun i => ((i : Nat) : Int)) = r at ih ⊢;have hrl : r.length = i := by rw [<- hr]; simp
   exact (loop_next (by unfold lQxX0; simp [rQxX0,rQxX1,rQxX2,rQxX3,rQxX4,rQxX5,rQxX6,rQxX7,h,hw,hL,hrl,take_snocI hrl,LIM,ints_length,ints_snoc,ints_take])).trans ih
theorem nrange_run (m : Int) : callL cfgS nQx [.int .i64 m] [] = some (.list 1 (ints (rangeI m)),[]) := by
 rw [callL_end oQx sQx (Nat.le_of_ble_eq_true rfl)];have h := nrange_loop (min m.toNat 64) (by omega) (min m.toNat 64) 0 (by omega);rw [nat0,List.range_zero,List.map_nil,ints_nil] at h;have hr : (List.range (min m.toNat 64)).map (fun i => ((i : Nat) : Int)) = rangeI m := rfl;rw [hr] at h;unfold qQx cQx;by_cases h0 : 0 > m
 ·have e : ((min m.toNat 64 : Nat) : Int) = 0 := by omega
  rw [e] at h;have h0' : m < 0 := h0;simp [rQxX0,rQxX1,rQxX2,rQxX3,rQxX4,rQxX5,rQxX6,rQxX7,h,h0,h0',ints_length,ints_take,endL,finB]
 ·have h0' : ¬ m < 0 := h0;by_cases h1 : (64 : Int) < m
  ·have e : ((min m.toNat 64 : Nat) : Int) = 64 := by omega
   rw [e] at h;simp [rQxX0,rQxX1,rQxX2,rQxX3,rQxX4,rQxX5,rQxX6,rQxX7,h,h0,h0',h1,ints_length,ints_take,endL,finB]
  ·have e : ((min m.toNat 64 : Nat) : Int) = m := by omega
   rw [e] at h;simp [rQxX0,rQxX1,rQxX2,rQxX3,rQxX4,rQxX5,rQxX6,rQxX7,h,h0,h0',h1,ints_length,ints_take,endL,finB]
end Go.BmP
