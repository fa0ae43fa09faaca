/- What graph.Check and what it calls returns. -/
import Derived.Test.YtholnjkicdifdaaDoorUseM
import Derived.Test.YtholnjkicdifdaaDoorK07
import Derived.Test.YtholnjkicdifdaaDoorGrfP
import Derived.Test.YtholnjkicdifdaaDoorCfS
set_option linter.unusedSimpArgs false
set_option linter.unusedVariables false
set_option maxRecDepth 100000
set_option maxHeartbeats 4000000
namespace Go.BmP
open Go.Am Go.Bm
theorem or_run (a b : Int) : callL cfgS nQ1 [.list 1 [.int .i64 a,.int .i64 b]] [] = some (.int .i64 (if a = 0 then b else a),[]) := by
 rw [callL_end oQ1 sQ1 (Nat.le_of_ble_eq_true rfl)];have t2 : IntKind.i64.wrap 2 = 2 := by decide
 have l3 : codeL cfgS 0 (.loop lQ1X0) ⟨[(3,.int .i64 0),(6,.list 1 [.int .i64 a,.int .i64 b]),(7,.int .i64 2),(8,.int .i64 2)],[]⟩ = some (.exit 0,⟨[(3,.int .i64 0),(6,.list 1 [.int .i64 a,.int .i64 b]),(7,.int .i64 2),(8,.int .i64 2),(9,.bool false)],[]⟩) :=
  loop_exit (by unfold lQ1X0; simp [rQ1X0,rQ1X1,rQ1X2,rQ1X3,rQ1X4,rQ1X5,rQ1X6,rQ1X7,rQ1X8,blk,eds_length,eds_get,edsAt,edAV,allLeaf_eds,cleanL_eds,cleanL_ints,ints_length,ints_get,intsAt,endL,finB])
 have l2 : codeL cfgS 0 (.loop lQ1X0) ⟨[(3,.int .i64 0),(6,.list 1 [.int .i64 a,.int .i64 b]),(7,.int .i64 2),(8,.int .i64 1)],[]⟩ = if b = 0 then some (.exit 0,⟨[(3,.int .i64 0),(6,.list 1 [.int .i64 a,.int .i64 b]),(7,.int .i64 2),(8,.int .i64 2),(9,.bool false)],[]⟩) else some (.ret,⟨[(2,.int .i64 b)],[]⟩) := by
  by_cases hb : b = 0
  ·subst hb;rw [if_pos rfl];exact (loop_next (by unfold lQ1X0; simp [rQ1X0,rQ1X1,rQ1X2,rQ1X3,rQ1X4,rQ1X5,rQ1X6,rQ1X7,rQ1X8,idx,t2,blk,eds_length,eds_get,edsAt,edAV,allLeaf_eds,cleanL_eds,cleanL_ints,ints_length,ints_get,intsAt,endL,finB])).trans l3
  ·rw [if_neg hb];exact loop_ret (by unfold lQ1X0; simp [rQ1X0,rQ1X1,rQ1X2,rQ1X3,rQ1X4,rQ1X5,rQ1X6,rQ1X7,rQ1X8,hb,idx,blk,eds_length,eds_get,edsAt,edAV,allLeaf_eds,cleanL_eds,cleanL_ints,ints_length,ints_get,intsAt,endL,finB])
 have l1 : codeL cfgS 0 (.loop lQ1X0) ⟨[(3,.int .i64 0),(6,.list 1 [.int .i64 a,.int .i64 b]),(7,.int .i64 2),(8,.int .i64 0)],[]⟩ = if a = 0 then (if b = 0 then some (.exit 0,⟨[(3,.int .i64 0),(6,.list 1 [.int .i64 a,.int .i64 b]),(7,.int .i64 2),(8,.int .i64 2),(9,.bool false)],[]⟩) else some (.ret,⟨[(2,.int .i64 b)],[]⟩)) else some (.ret,⟨[(2,.int .i64 a)],[]⟩) := by
  by_cases ha : a = 0
  ·subst ha;rw [if_pos rfl];exact (loop_next (by unfold lQ1X0; simp [rQ1X0,rQ1X1,rQ1X2,rQ1X3,rQ1X4,rQ1X5,rQ1X6,rQ1X7,rQ1X8,idx,blk,eds_length,eds_get,edsAt,edAV,allLeaf_eds,cleanL_eds,cleanL_ints,ints_length,ints_get,intsAt,endL,finB])).trans l2
  ·rw [if_neg ha];exact loop_ret (by unfold lQ1X0; simp [rQ1X0,rQ1X1,rQ1X2,rQ1X3,rQ1X4,rQ1X5,rQ1X6,rQ1X7,rQ1X8,ha,idx,blk,eds_length,eds_get,edsAt,edAV,allLeaf_eds,cleanL_eds,cleanL_ints,ints_length,ints_get,intsAt,endL,finB])
 clear l2 l3;unfold qQ1 cQ1;by_cases ha : a = 0
 ·subst ha;rw [if_pos rfl] at l1;by_cases hb : b = 0
  ·subst hb;rw [if_pos rfl] at l1;simp [rQ1X0,rQ1X1,rQ1X2,rQ1X3,rQ1X4,rQ1X5,rQ1X6,rQ1X7,rQ1X8,l1,blk,eds_length,eds_get,edsAt,edAV,allLeaf_eds,cleanL_eds,cleanL_ints,ints_length,ints_get,intsAt,endL,finB]
  ·rw [if_neg hb] at l1;simp [rQ1X0,rQ1X1,rQ1X2,rQ1X3,rQ1X4,rQ1X5,rQ1X6,rQ1X7,rQ1X8,l1,hb,blk,eds_length,eds_get,edsAt,edAV,allLeaf_eds,cleanL_eds,cleanL_ints,ints_length,ints_get,intsAt,endL,finB]
 ·rw [if_neg ha] at l1;simp [rQ1X0,rQ1X1,rQ1X2,rQ1X3,rQ1X4,rQ1X5,rQ1X6,rQ1X7,rQ1X8,l1,ha,blk,eds_length,eds_get,edsAt,edAV,allLeaf_eds,cleanL_eds,cleanL_ints,ints_length,ints_get,intsAt,endL,finB]
def ordI (a b : Ed) : Int := if cmpI a.1 b.1 = 0 then cmpI a.2 b.2 else cmpI a.1 b.1
theorem ordI_ge (a b : Ed) : 0 <= ordI a b ↔ ¬ ltE a b := by
 unfold ordI cmpI ltE;by_cases h1 : a.1 < b.1
 ·simp [h1]
 ·by_cases h2 : b.1 < a.1
  ·have : ¬ a.1 = b.1 := by omega
   simp [h1,h2,this]
  ·have : a.1 = b.1 := by omega
   simp only [h1,h2,this,if_false,if_true,true_and,false_or];by_cases h3 : a.2 < b.2
   ·simp [h3]
   ·by_cases h4 : b.2 < a.2 <;> simp [h3,h4]
theorem order_run (a b : Ed) : callL cfgS nQV [.agg [.int .i64 a.1,.int .i64 a.2],.agg [.int .i64 b.1,.int .i64 b.2]] [] = some (.int .i64 (ordI a b),[]) := by
 rw [callL_end oQV sQV (Nat.le_of_ble_eq_true rfl)];have c1 := cmpI_run a.1 b.1;have c2 := cmpI_run a.2 b.2;have c3 := or_run (cmpI a.1 b.1) (cmpI a.2 b.2);unfold qQV cQV ordI;simp [rQVX0,rQVX1,c1,c2,c3,sQ2,iQ2,vQ2,lQ2,sQ1,iQ1,vQ1,lQ1,blk,eds_length,eds_get,edsAt,edAV,allLeaf_eds,cleanL_eds,cleanL_ints,ints_length,ints_get,intsAt,endL,finB]
def prevE (l : List Ed) (i : Nat) : Option Ed := if i = 0 then none else l[i - 1]?
theorem prevE_zero (l : List Ed) : prevE l 0 = none := rfl
theorem prevE_succ (l : List Ed) (i : Nat) (h : i < l.length) : prevE l (i + 1) = some l[i] := by simp [prevE,h]
theorem gchk_loop (m : Int) (l : List Ed) (hl : l.length < 4294967297) : ∀ n i : Nat,i + n = l.length -> codeL cfgS 0 (.loop lQzX0) ⟨[(1,.ptr 0 0),(14,.list 2 (eds l)),(15,.int .i64 l.length),(16,.int .i64 i)],[some [.int .i64 m,.list 2 (eds l)]]⟩ =
  if chkGo m (prevE l i) (l.drop i) = 0 then some (.exit 0,⟨[(1,.ptr 0 0),(14,.list 2 (eds l)),(15,.int .i64 l.length),(16,.int .i64 l.length),(17,.bool false)],[some [.int .i64 m,.list 2 (eds l)]]⟩) else some (.ret,⟨[(2,.int .i64 (chkGo m (prevE l i) (l.drop i)))],[]⟩)
 | 0,i,hi => by
   have e : i = l.length := by omega
   subst e;rw [List.drop_length];exact loop_exit (by unfold lQzX0; simp [rQzX0,rQzX1,rQzX2,rQzX3,rQzX4,rQzX5,rQzX6,rQzX7,rQzX8,rQzX9,rQzX10,rQzX11,blk,eds_length,eds_get,edsAt,edAV,allLeaf_eds,cleanL_eds,cleanL_ints,ints_length,ints_get,intsAt,endL,finB])
 | n + 1,i,hi => by
   have hlt : i < l.length := by omega
   have h1 : (i : Int) < l.length := by omega
   have ih := gchk_loop m l hl n (i + 1) (by omega);have hw := wrapS (i := i) (by omega);rw [prevE_succ l i hlt] at ih;rw [List.drop_eq_getElem_cons hlt];by_cases ha : l[i].1 < 0
   ·have e : chkGo m (prevE l i) (l[i] :: l.drop (i + 1)) = 6 := by unfold chkGo; rw [if_pos (.inl ha)]
    rw [e];exact loop_ret (by unfold lQzX0; simp [rQzX0,rQzX1,rQzX2,rQzX3,rQzX4,rQzX5,rQzX6,rQzX7,rQzX8,rQzX9,rQzX10,rQzX11,h1,hlt,ha,idx,blk,eds_length,eds_get,edsAt,edAV,allLeaf_eds,cleanL_eds,cleanL_ints,ints_length,ints_get,intsAt,endL,finB])
   by_cases hb : l[i].2 <= l[i].1
   ·have e : chkGo m (prevE l i) (l[i] :: l.drop (i + 1)) = 6 := by unfold chkGo; rw [if_pos (.inr (.inl hb))]
    rw [e];exact loop_ret (by unfold lQzX0; simp [rQzX0,rQzX1,rQzX2,rQzX3,rQzX4,rQzX5,rQzX6,rQzX7,rQzX8,rQzX9,rQzX10,rQzX11,h1,hlt,ha,hb,idx,blk,eds_length,eds_get,edsAt,edAV,allLeaf_eds,cleanL_eds,cleanL_ints,ints_length,ints_get,intsAt,endL,finB])
   by_cases hc : m <= l[i].2
   ·have e : chkGo m (prevE l i) (l[i] :: l.drop (i + 1)) = 6 := by unfold chkGo; rw [if_pos (.inr (.inr hc))]
    rw [e];exact loop_ret (by unfold lQzX0; simp [rQzX0,rQzX1,rQzX2,rQzX3,rQzX4,rQzX5,rQzX6,rQzX7,rQzX8,rQzX9,rQzX10,rQzX11,h1,hlt,ha,hb,hc,idx,blk,eds_length,eds_get,edsAt,edAV,allLeaf_eds,cleanL_eds,cleanL_ints,ints_length,ints_get,intsAt,endL,finB])
   have hn : ¬ (l[i].1 < 0 \/ l[i].2 <= l[i].1 \/ m <= l[i].2) := by omega
   cases i with
   | zero =>
     have e : chkGo m (prevE l 0) (l[0] :: l.drop (0 + 1)) = chkGo m (some l[0]) (l.drop (0 + 1)) := by
      conv => lhs; unfold chkGo
      rw [if_neg hn,prevE_zero,if_neg (show ¬ badP none l[0] from fun h => h)]
     rw [e];exact (loop_next (by unfold lQzX0; simp [rQzX0,rQzX1,rQzX2,rQzX3,rQzX4,rQzX5,rQzX6,rQzX7,rQzX8,rQzX9,rQzX10,rQzX11,h1,hlt,ha,hb,hc,hw,idx,blk,eds_length,eds_get,edsAt,edAV,allLeaf_eds,cleanL_eds,cleanL_ints,ints_length,ints_get,intsAt,endL,finB])).trans ih
   | succ j =>
     have hj : j < l.length := by omega
     have hj1 : (j : Int) < l.length := by omega
     have hp : (0 : Int) < (j : Int) + 1 := by omega
     have hp0 : (0 : Int) <= (j : Int) + 1 := by omega
     have hw2 := wrapN (i := j) (by omega);have h1 : (j : Int) + 1 < l.length := by omega
     have hw : IntKind.i64.wrap ((j : Int) + 1 + 1) = (j : Int) + 1 + 1 := wrapZ (j := j + 1 + 1) rfl (by omega);have ho := order_run l[j] l[j + 1];by_cases hd : 0 <= ordI l[j] l[j + 1]
     ·have e : chkGo m (prevE l (j + 1)) (l[j + 1] :: l.drop (j + 1 + 1)) = 5 := by
       unfold chkGo;rw [if_neg hn,prevE_succ l j hj,if_pos (show badP (some l[j]) l[j + 1] from (ordI_ge _ _).1 hd)]
      rw [e];exact loop_ret (by unfold lQzX0; simp [rQzX0,rQzX1,rQzX2,rQzX3,rQzX4,rQzX5,rQzX6,rQzX7,rQzX8,rQzX9,rQzX10,rQzX11,h1,hlt,ha,hb,hc,hj,hj1,hp,hp0,hw2,ho,hd,idx,sQV,iQV,vQV,lQV,blk,eds_length,eds_get,edsAt,edAV,allLeaf_eds,cleanL_eds,cleanL_ints,ints_length,ints_get,intsAt,endL,finB])
     ·have hlt' : ltE l[j] l[j + 1] := by
       apply Decidable.not_not.1;exact fun k => hd ((ordI_ge _ _).2 k)
      have e : chkGo m (prevE l (j + 1)) (l[j + 1] :: l.drop (j + 1 + 1)) = chkGo m (some l[j + 1]) (l.drop (j + 1 + 1)) := by
       conv => lhs; unfold chkGo
       rw [if_neg hn,prevE_succ l j hj,if_neg (show ¬ badP (some l[j]) l[j + 1] from fun k => k hlt')]
      rw [e];exact (loop_next (by unfold lQzX0; simp [rQzX0,rQzX1,rQzX2,rQzX3,rQzX4,rQzX5,rQzX6,rQzX7,rQzX8,rQzX9,rQzX10,rQzX11,h1,hlt,ha,hb,hc,hj,hj1,hp,hp0,hw,hw2,ho,hd,idx,sQV,iQV,vQV,lQV,blk,eds_length,eds_get,edsAt,edAV,allLeaf_eds,cleanL_eds,cleanL_ints,ints_length,ints_get,intsAt,endL,finB])).trans ih
theorem gchk_run (m : Int) (l : List Ed) (hl : l.length < 4294967297) : callL cfgS nQz [.agg [.int .i64 m,.list 2 (eds l)]] [] = some (.int .i64 (chkG m l),[]) := by
 rw [callL_end oQz sQz (Nat.le_of_ble_eq_true rfl)];have h := gchk_loop m l hl l.length 0 (by omega);rw [nat0,List.drop_zero,prevE_zero] at h;unfold qQz cQz chkG;by_cases ha : m < 0
 ·simp [rQzX0,rQzX1,rQzX2,rQzX3,rQzX4,rQzX5,rQzX6,rQzX7,rQzX8,rQzX9,rQzX10,rQzX11,ha,blk,eds_length,eds_get,edsAt,edAV,allLeaf_eds,cleanL_eds,cleanL_ints,ints_length,ints_get,intsAt,endL,finB]
 by_cases hb : 64 < m
 ·simp [rQzX0,rQzX1,rQzX2,rQzX3,rQzX4,rQzX5,rQzX6,rQzX7,rQzX8,rQzX9,rQzX10,rQzX11,ha,hb,blk,eds_length,eds_get,edsAt,edAV,allLeaf_eds,cleanL_eds,cleanL_ints,ints_length,ints_get,intsAt,endL,finB]
 rw [if_neg (by omega)];by_cases hc : chkGo m none l = 0
 ·rw [if_pos hc] at h;rw [hc];simp [rQzX0,rQzX1,rQzX2,rQzX3,rQzX4,rQzX5,rQzX6,rQzX7,rQzX8,rQzX9,rQzX10,rQzX11,ha,hb,h,blk,eds_length,eds_get,edsAt,edAV,allLeaf_eds,cleanL_eds,cleanL_ints,ints_length,ints_get,intsAt,endL,finB]
 ·rw [if_neg hc] at h;simp [rQzX0,rQzX1,rQzX2,rQzX3,rQzX4,rQzX5,rQzX6,rQzX7,rQzX8,rQzX9,rQzX10,rQzX11,ha,hb,h,blk,eds_length,eds_get,edsAt,edAV,allLeaf_eds,cleanL_eds,cleanL_ints,ints_length,ints_get,intsAt,endL,finB]
/- What functions of cohesionref03 return: Before, edge, ends, with, Of, Check. -/
theorem before_run (a b : Ed) : callL cfgS nQX [.agg [.int .i64 a.1,.int .i64 a.2],.agg [.int .i64 b.1,.int .i64 b.2]] [] = some (.bool (decide (ltE a b)),[]) := by
 rw [callL_end oQX sQX (Nat.le_of_ble_eq_true rfl)];unfold qQX cQX ltE;by_cases h1 : a.1 < b.1
 ·simp [rQXX0,rQXX1,h1,blk,eds_length,eds_get,edsAt,edAV,allLeaf_eds,cleanL_eds,cleanL_ints,ints_length,ints_get,intsAt,endL,finB]
 ·by_cases h2 : a.1 = b.1
  ·by_cases h3 : a.2 < b.2
   ·simp [rQXX0,rQXX1,h1,h2,h3,blk,eds_length,eds_get,edsAt,edAV,allLeaf_eds,cleanL_eds,cleanL_ints,ints_length,ints_get,intsAt,endL,finB]
   ·simp [rQXX0,rQXX1,h1,h2,h3,blk,eds_length,eds_get,edsAt,edAV,allLeaf_eds,cleanL_eds,cleanL_ints,ints_length,ints_get,intsAt,endL,finB]
  ·simp [rQXX0,rQXX1,h1,h2,blk,eds_length,eds_get,edsAt,edAV,allLeaf_eds,cleanL_eds,cleanL_ints,ints_length,ints_get,intsAt,endL,finB]
theorem edge_run (u v : Int) : callL cfgS nQU [.int .i64 u,.int .i64 v] [] = some (.agg [.int .i64 (nrmE u v).1,.int .i64 (nrmE u v).2],[]) := by
 rw [callL_end oQU sQU (Nat.le_of_ble_eq_true rfl)];unfold qQU cQU nrmE;simp [rQUX0,rQUX1,blk,eds_length,eds_get,edsAt,edAV,allLeaf_eds,cleanL_eds,cleanL_ints,ints_length,ints_get,intsAt,endL,finB]
/- What functions of cohesionref03 return: Of, Check, Find. -/
def ofSt (n : Int) (l : List Ed) (E : AV) (i : Int) : St := ⟨[(0,.int .i64 n),(4,.ptr 0 0),(6,.ptr 1 0),(18,.list 2 (eds l)),(19,.int .i64 l.length),(20,.int .i64 i)],[some [.int .i64 0,.own 2 []],some [.int .i64 n,E]]⟩
def ofEnd (n : Int) (l : List Ed) (E : AV) : St := ⟨[(0,.int .i64 n),(4,.ptr 0 0),(6,.ptr 1 0),(18,.list 2 (eds l)),(19,.int .i64 l.length),(20,.int .i64 l.length),(21,.bool false)],[some [.int .i64 0,.own 2 []],some [.int .i64 n,E]]⟩
theorem rchk_loop (m : Int) (l : List Ed) (hl : l.length < 4294967297) : ∀ n i : Nat,i + n = l.length -> codeL cfgS 0 (.loop lQFX0) ⟨[(1,.ptr 0 0),(14,.list 2 (eds l)),(15,.int .i64 l.length),(16,.int .i64 i)],[some [.int .i64 m,.list 2 (eds l)]]⟩ =
  if chkGo m (prevE l i) (l.drop i) = 0 then some (.exit 0,⟨[(1,.ptr 0 0),(14,.list 2 (eds l)),(15,.int .i64 l.length),(16,.int .i64 l.length),(17,.bool false)],[some [.int .i64 m,.list 2 (eds l)]]⟩) else some (.ret,⟨[(2,.int .i64 (chkGo m (prevE l i) (l.drop i)))],[]⟩)
 | 0,i,hi => by
   have e : i = l.length := by omega
   subst e;rw [List.drop_length];exact loop_exit (by unfold lQFX0; simp [rQFX0,rQFX1,rQFX2,rQFX3,rQFX4,rQFX5,rQFX6,rQFX7,rQFX8,rQFX9,rQFX10,rQFX11,blk,eds_length,eds_get,edsAt,edAV,allLeaf_eds,cleanL_eds,cleanL_ints,ints_length,ints_get,intsAt,endL,finB])
 | n + 1,i,hi => by
   have hlt : i < l.length := by omega
   have h1 : (i : Int) < l.length := by omega
   have ih := rchk_loop m l hl n (i + 1) (by omega);have hw := wrapS (i := i) (by omega);rw [prevE_succ l i hlt] at ih;rw [List.drop_eq_getElem_cons hlt];by_cases ha : l[i].1 < 0
   ·have e : chkGo m (prevE l i) (l[i] :: l.drop (i + 1)) = 6 := by unfold chkGo; rw [if_pos (.inl ha)]
    rw [e];exact loop_ret (by unfold lQFX0; simp [rQFX0,rQFX1,rQFX2,rQFX3,rQFX4,rQFX5,rQFX6,rQFX7,rQFX8,rQFX9,rQFX10,rQFX11,h1,hlt,ha,idx,blk,eds_length,eds_get,edsAt,edAV,allLeaf_eds,cleanL_eds,cleanL_ints,ints_length,ints_get,intsAt,endL,finB])
   by_cases hb : l[i].2 <= l[i].1
   ·have e : chkGo m (prevE l i) (l[i] :: l.drop (i + 1)) = 6 := by unfold chkGo; rw [if_pos (.inr (.inl hb))]
    rw [e];exact loop_ret (by unfold lQFX0; simp [rQFX0,rQFX1,rQFX2,rQFX3,rQFX4,rQFX5,rQFX6,rQFX7,rQFX8,rQFX9,rQFX10,rQFX11,h1,hlt,ha,hb,idx,blk,eds_length,eds_get,edsAt,edAV,allLeaf_eds,cleanL_eds,cleanL_ints,ints_length,ints_get,intsAt,endL,finB])
   by_cases hc : m <= l[i].2
   ·have e : chkGo m (prevE l i) (l[i] :: l.drop (i + 1)) = 6 := by unfold chkGo; rw [if_pos (.inr (.inr hc))]
    rw [e];exact loop_ret (by unfold lQFX0; simp [rQFX0,rQFX1,rQFX2,rQFX3,rQFX4,rQFX5,rQFX6,rQFX7,rQFX8,rQFX9,rQFX10,rQFX11,h1,hlt,ha,hb,hc,idx,blk,eds_length,eds_get,edsAt,edAV,allLeaf_eds,cleanL_eds,cleanL_ints,ints_length,ints_get,intsAt,endL,finB])
   have hn : ¬ (l[i].1 < 0 \/ l[i].2 <= l[i].1 \/ m <= l[i].2) := by omega
   cases i with
   | zero =>
     have e : chkGo m (prevE l 0) (l[0] :: l.drop (0 + 1)) = chkGo m (some l[0]) (l.drop (0 + 1)) := by
      conv => lhs; unfold chkGo
      rw [if_neg hn,prevE_zero,if_neg (show ¬ badP none l[0] from fun h => h)]
     rw [e];exact (loop_next (by unfold lQFX0; simp [rQFX0,rQFX1,rQFX2,rQFX3,rQFX4,rQFX5,rQFX6,rQFX7,rQFX8,rQFX9,rQFX10,rQFX11,h1,hlt,ha,hb,hc,hw,idx,blk,eds_length,eds_get,edsAt,edAV,allLeaf_eds,cleanL_eds,cleanL_ints,ints_length,ints_get,intsAt,endL,finB])).trans ih
   | succ j =>
     have hj : j < l.length := by omega
     have hj1 : (j : Int) < l.length := by omega
     have hp : (0 : Int) < (j : Int) + 1 := by omega
     have hp0 : (0 : Int) <= (j : Int) + 1 := by omega
     have hw2 := wrapN (i := j) (by omega);have h1 : (j : Int) + 1 < l.length := by omega
     have hw : IntKind.i64.wrap ((j : Int) + 1 + 1) = (j : Int) + 1 + 1 := wrapZ (j := j + 1 + 1) rfl (by omega);have ho := before_run l[j] l[j + 1];by_cases hd : ltE l[j] l[j + 1]
     ·have e : chkGo m (prevE l (j + 1)) (l[j + 1] :: l.drop (j + 1 + 1)) = chkGo m (some l[j + 1]) (l.drop (j + 1 + 1)) := by
       conv => lhs; unfold chkGo
       rw [if_neg hn,prevE_succ l j hj,if_neg (show ¬ badP (some l[j]) l[j + 1] from fun k => k hd)]
      rw [e];exact (loop_next (by unfold lQFX0; simp [rQFX0,rQFX1,rQFX2,rQFX3,rQFX4,rQFX5,rQFX6,rQFX7,rQFX8,rQFX9,rQFX10,rQFX11,h1,hlt,ha,hb,hc,hj,hj1,hp,hp0,hw,hw2,ho,hd,idx,sQX,iQX,vQX,lQX,blk,eds_length,eds_get,edsAt,edAV,allLeaf_eds,cleanL_eds,cleanL_ints,ints_length,ints_get,intsAt,endL,finB])).trans ih
     ·have e : chkGo m (prevE l (j + 1)) (l[j + 1] :: l.drop (j + 1 + 1)) = 5 := by
       unfold chkGo;rw [if_neg hn,prevE_succ l j hj,if_pos (show badP (some l[j]) l[j + 1] from hd)]
      rw [e];exact loop_ret (by unfold lQFX0; simp [rQFX0,rQFX1,rQFX2,rQFX3,rQFX4,rQFX5,rQFX6,rQFX7,rQFX8,rQFX9,rQFX10,rQFX11,h1,hlt,ha,hb,hc,hj,hj1,hp,hp0,hw2,ho,hd,idx,sQX,iQX,vQX,lQX,blk,eds_length,eds_get,edsAt,edAV,allLeaf_eds,cleanL_eds,cleanL_ints,ints_length,ints_get,intsAt,endL,finB])
theorem rchk_run (m : Int) (l : List Ed) (hl : l.length < 4294967297) : callL cfgS nQF [.agg [.int .i64 m,.list 2 (eds l)]] [] = some (.int .i64 (chkG m l),[]) := by
 rw [callL_end oQF sQF (Nat.le_of_ble_eq_true rfl)];have h := rchk_loop m l hl l.length 0 (by omega);rw [nat0,List.drop_zero,prevE_zero] at h;unfold qQF cQF chkG;by_cases ha : m < 0
 ·simp [rQFX0,rQFX1,rQFX2,rQFX3,rQFX4,rQFX5,rQFX6,rQFX7,rQFX8,rQFX9,rQFX10,rQFX11,ha,blk,eds_length,eds_get,edsAt,edAV,allLeaf_eds,cleanL_eds,cleanL_ints,ints_length,ints_get,intsAt,endL,finB]
 by_cases hb : 64 < m
 ·simp [rQFX0,rQFX1,rQFX2,rQFX3,rQFX4,rQFX5,rQFX6,rQFX7,rQFX8,rQFX9,rQFX10,rQFX11,ha,hb,blk,eds_length,eds_get,edsAt,edAV,allLeaf_eds,cleanL_eds,cleanL_ints,ints_length,ints_get,intsAt,endL,finB]
 rw [if_neg (by omega)];by_cases hc : chkGo m none l = 0
 ·rw [if_pos hc] at h;rw [hc];simp [rQFX0,rQFX1,rQFX2,rQFX3,rQFX4,rQFX5,rQFX6,rQFX7,rQFX8,rQFX9,rQFX10,rQFX11,ha,hb,h,blk,eds_length,eds_get,edsAt,edAV,allLeaf_eds,cleanL_eds,cleanL_ints,ints_length,ints_get,intsAt,endL,finB]
 ·rw [if_neg hc] at h;simp [rQFX0,rQFX1,rQFX2,rQFX3,rQFX4,rQFX5,rQFX6,rQFX7,rQFX8,rQFX9,rQFX10,rQFX11,ha,hb,h,blk,eds_length,eds_get,edsAt,edAV,allLeaf_eds,cleanL_eds,cleanL_ints,ints_length,ints_get,intsAt,endL,finB]
theorem find_loop (x : Ed) (u v : Int) (hx : nrmE u v = x) (l : List Ed) (hl : l.length < 4294967297) : ∀ n i : Nat,i + n = l.length -> codeL cfgS 0 (.loop lQOX0) ⟨[(1,.int .i64 u),(2,.int .i64 v),(13,.list 2 (eds l)),(14,.int .i64 l.length),(15,.int .i64 i)],[]⟩ =
  if x ∈ l.drop i then some (.ret,⟨[(6,.int .i64 (i + (l.drop i).idxOf x : Nat))],[]⟩) else some (.exit 0,⟨[(1,.int .i64 u),(2,.int .i64 v),(13,.list 2 (eds l)),(14,.int .i64 l.length),(15,.int .i64 l.length),(16,.bool false)],[]⟩)
 | 0,i,hi => by
   have e : i = l.length := by omega
   subst e;rw [List.drop_length,if_neg (by simp)];exact loop_exit (by unfold lQOX0; simp [rQOX0,rQOX1,rQOX2,rQOX3,rQOX4,rQOX5,rQOX6,rQOX7,rQOX8,rQOX9,blk,eds_length,eds_get,edsAt,edAV,allLeaf_eds,cleanL_eds,cleanL_ints,ints_length,ints_get,intsAt,endL,finB])
 | n + 1,i,hi => by
   have hlt : i < l.length := by omega
   have h1 : (i : Int) < l.length := by omega
   have ih := find_loop x u v hx l hl n (i + 1) (by omega);have hw := wrapS (i := i) (by omega);have hg := edge_run u v;rw [hx] at hg;rw [List.drop_eq_getElem_cons hlt];by_cases he : l[i] = x
   ·have hx1 : l[i].1 = x.1 := by rw [he]
    have hx2 : l[i].2 = x.2 := by rw [he]
    rw [if_pos (by rw [he]; exact List.mem_cons_self),show (l[i] :: l.drop (i + 1)).idxOf x = 0 by rw [he]; exact List.idxOf_cons_self];exact loop_ret (by unfold lQOX0; simp [rQOX0,rQOX1,rQOX2,rQOX3,rQOX4,rQOX5,rQOX6,rQOX7,rQOX8,rQOX9,h1,hlt,hg,hx1,hx2,idx,sQU,iQU,vQU,lQU,blk,eds_length,eds_get,edsAt,edAV,allLeaf_eds,cleanL_eds,cleanL_ints,ints_length,ints_get,intsAt,endL,finB])
   ·have he2 : ¬ x = l[i] := fun e => he e.symm;rw [show (l[i] :: l.drop (i + 1)).idxOf x = (l.drop (i + 1)).idxOf x + 1 by simp only [List.idxOf_cons]; rw [show (l[i] == x) = false by simpa using he]; rfl,show i + ((l.drop (i + 1)).idxOf x + 1) = i + 1 + (l.drop (i + 1)).idxOf x by omega];simp only [List.mem_cons,he2,false_or];by_cases hx1 : l[i].1 = x.1
    ·have hx2 : ¬ l[i].2 = x.2 := fun e => he (Prod.ext hx1 e);exact (loop_next (by unfold lQOX0; simp [rQOX0,rQOX1,rQOX2,rQOX3,rQOX4,rQOX5,rQOX6,rQOX7,rQOX8,rQOX9,h1,hlt,hg,hx1,hx2,hw,idx,sQU,iQU,vQU,lQU,blk,eds_length,eds_get,edsAt,edAV,allLeaf_eds,cleanL_eds,cleanL_ints,ints_length,ints_get,intsAt,endL,finB])).trans ih
    ·exact (loop_next (by unfold lQOX0; simp [rQOX0,rQOX1,rQOX2,rQOX3,rQOX4,rQOX5,rQOX6,rQOX7,rQOX8,rQOX9,h1,hlt,hg,hx1,hw,idx,sQU,iQU,vQU,lQU,blk,eds_length,eds_get,edsAt,edAV,allLeaf_eds,cleanL_eds,cleanL_ints,ints_length,ints_get,intsAt,endL,finB])).trans ih
theorem find_run (m : Int) (l : List Ed) (hl : l.length < 4294967297) (hG : GOK m l) (u v : Int) : callL cfgS nQO [.agg [.int .i64 m,.list 2 (eds l)],.int .i64 u,.int .i64 v] [] = some (.int .i64 (if nrmE u v ∈ l then (l.idxOf (nrmE u v) : Int) else -1),[]) := by
 rw [callL_end oQO sQO (Nat.le_of_ble_eq_true rfl)];have hc := rchk_run m l hl;rw [chkG_zero.2 hG] at hc;have h := find_loop (nrmE u v) u v rfl l hl l.length 0 (by omega);rw [nat0,List.drop_zero,Nat.zero_add] at h;unfold qQO cQO;by_cases hx : nrmE u v ∈ l
 ·rw [if_pos hx] at h;simp [rQOX0,rQOX1,rQOX2,rQOX3,rQOX4,rQOX5,rQOX6,rQOX7,rQOX8,rQOX9,h,hc,hx,sQF,iQF,vQF,lQF,blk,eds_length,eds_get,edsAt,edAV,allLeaf_eds,cleanL_eds,cleanL_ints,ints_length,ints_get,intsAt,endL,finB]
 ·rw [if_neg hx] at h;simp [rQOX0,rQOX1,rQOX2,rQOX3,rQOX4,rQOX5,rQOX6,rQOX7,rQOX8,rQOX9,h,hc,hx,sQF,iQF,vQF,lQF,blk,eds_length,eds_get,edsAt,edAV,allLeaf_eds,cleanL_eds,cleanL_ints,ints_length,ints_get,intsAt,endL,finB]
end Go.BmP
