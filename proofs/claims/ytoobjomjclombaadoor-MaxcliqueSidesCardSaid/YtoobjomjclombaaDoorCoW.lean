/- What functions of cohesionref03 return: Of, Check, Find. -/
import Derived.Test.YtoobjomjclombaaDoorUseM
import Derived.Test.YtoobjomjclombaaDoorRwP
import Derived.Test.YtoobjomjclombaaDoorRunX
set_option linter.unusedSimpArgs false
set_option linter.unusedVariables false
set_option maxRecDepth 100000
set_option maxHeartbeats 4000000
namespace Go.BmP
open Go.Am Go.Bm
def ofSt (n : Int) (l : List Ed) (E : AV) (i : Int) : St := ⟨[(0,.int .i64 n),(4,.ptr 0 0),(6,.ptr 1 0),(18,.list 2 (eds l)),(19,.int .i64 l.length),(20,.int .i64 i)],[some [.int .i64 0,.own 2 []],some [.int .i64 n,E]]⟩
def ofEnd (n : Int) (l : List Ed) (E : AV) : St := ⟨[(0,.int .i64 n),(4,.ptr 0 0),(6,.ptr 1 0),(18,.list 2 (eds l)),(19,.int .i64 l.length),(20,.int .i64 l.length),(21,.bool false)],[some [.int .i64 0,.own 2 []],some [.int .i64 n,E]]⟩
theorem rchk_loop (m : Int) (l : List Ed) (hl : l.length < 4294967297) : ∀ n i : Nat,i + n = l.length -> codeL cfgS 0 (.loop lQEX0) ⟨[(1,.ptr 0 0),(14,.list 2 (eds l)),(15,.int .i64 l.length),(16,.int .i64 i)],[some [.int .i64 m,.list 2 (eds l)]]⟩ =
  if chkGo m (prevE l i) (l.drop i) = 0 then some (.exit 0,⟨[(1,.ptr 0 0),(14,.list 2 (eds l)),(15,.int .i64 l.length),(16,.int .i64 l.length),(17,.bool false)],[some [.int .i64 m,.list 2 (eds l)]]⟩) else some (.ret,⟨[(2,.int .i64 (chkGo m (prevE l i) (l.drop i)))],[]⟩)
 | 0,i,hi => by
   have e : i = l.length := by omega
   subst e;rw [List.drop_length];exact loop_exit (by unfold lQEX0; simp [rQEX0,rQEX1,rQEX2,rQEX3,rQEX4,rQEX5,rQEX6,rQEX7,rQEX8,rQEX9,rQEX10,rQEX11,blk,eds_length,eds_get,edsAt,edAV,allLeaf_eds,cleanL_eds,cleanL_ints,ints_length,ints_get,intsAt,endL,finB])
 | n + 1,i,hi => by
   have hlt : i < l.length := by omega
   have h1 : (i : Int) < l.length := by omega
   have ih := rchk_loop m l hl n (i + 1) (by omega);have hw := wrapS (i := i) (by omega);rw [prevE_succ l i hlt] at ih;rw [List.drop_eq_getElem_cons hlt];by_cases ha : l[i].1 < 0
   ·have e : chkGo m (prevE l i) (l[i] :: l.drop (i + 1)) = 6 := by unfold chkGo; rw [if_pos (.inl ha)]
    rw [e];exact loop_ret (by unfold lQEX0; simp [rQEX0,rQEX1,rQEX2,rQEX3,rQEX4,rQEX5,rQEX6,rQEX7,rQEX8,rQEX9,rQEX10,rQEX11,h1,hlt,ha,idx,blk,eds_length,eds_get,edsAt,edAV,allLeaf_eds,cleanL_eds,cleanL_ints,ints_length,ints_get,intsAt,endL,finB])
   by_cases hb : l[i].2 <= l[i].1
   ·have e : chkGo m (prevE l i) (l[i] :: l.drop (i + 1)) = 6 := by unfold chkGo; rw [if_pos (.inr (.inl hb))]
    rw [e];exact loop_ret (by unfold lQEX0; simp [rQEX0,rQEX1,rQEX2,rQEX3,rQEX4,rQEX5,rQEX6,rQEX7,rQEX8,rQEX9,rQEX10,rQEX11,h1,hlt,ha,hb,idx,blk,eds_length,eds_get,edsAt,edAV,allLeaf_eds,cleanL_eds,cleanL_ints,ints_length,ints_get,intsAt,endL,finB])
   by_cases hc : m <= l[i].2
   ·have e : chkGo m (prevE l i) (l[i] :: l.drop (i + 1)) = 6 := by unfold chkGo; rw [if_pos (.inr (.inr hc))]
    rw [e];exact loop_ret (by unfold lQEX0; simp [rQEX0,rQEX1,rQEX2,rQEX3,rQEX4,rQEX5,rQEX6,rQEX7,rQEX8,rQEX9,rQEX10,rQEX11,h1,hlt,ha,hb,hc,idx,blk,eds_length,eds_get,edsAt,edAV,allLeaf_eds,cleanL_eds,cleanL_ints,ints_length,ints_get,intsAt,endL,finB])
   have hn : ¬ (l[i].1 < 0 \/ l[i].2 <= l[i].1 \/ m <= l[i].2) := by omega
   cases i with
   | zero =>
     have e : chkGo m (prevE l 0) (l[0] :: l.drop (0 + 1)) = chkGo m (some l[0]) (l.drop (0 + 1)) := by
      conv => lhs; unfold chkGo
      rw [if_neg hn,prevE_zero,if_neg (show ¬ badP none l[0] from fun h => h)]
     rw [e];exact (loop_next (by unfold lQEX0; simp [rQEX0,rQEX1,rQEX2,rQEX3,rQEX4,rQEX5,rQEX6,rQEX7,rQEX8,rQEX9,rQEX10,rQEX11,h1,hlt,ha,hb,hc,hw,idx,blk,eds_length,eds_get,edsAt,edAV,allLeaf_eds,cleanL_eds,cleanL_ints,ints_length,ints_get,intsAt,endL,finB])).trans ih
   | succ j =>
     have hj : j < l.length := by omega
     have hj1 : (j : Int) < l.length := by omega
     have hp : (0 : Int) < (j : Int) + 1 := by omega
     have hp0 : (0 : Int) <= (j : Int) + 1 := by omega
     have hw2 := wrapN (i := j) (by omega);have h1 : (j : Int) + 1 < l.length := by omega
     have hw : IntKind.i64.wrap ((j : Int) + 1 + 1) = (j : Int) + 1 + 1 := wrapZ (j := j + 1 + 1) rfl (by omega);have ho := before_run l[j] l[j + 1];by_cases hd : ltE l[j] l[j + 1]
     ·have e : chkGo m (prevE l (j + 1)) (l[j + 1] :: l.drop (j + 1 + 1)) = chkGo m (some l[j + 1]) (l.drop (j + 1 + 1)) := by
       conv => lhs; unfold chkGo
       rw [if_neg hn,prevE_succ l j hj,if_neg (show ¬ badP (some l[j]) l[j + 1] from fun k => k hd)]
      rw [e];exact (loop_next (by unfold lQEX0; simp [rQEX0,rQEX1,rQEX2,rQEX3,rQEX4,rQEX5,rQEX6,rQEX7,rQEX8,rQEX9,rQEX10,rQEX11,h1,hlt,ha,hb,hc,hj,hj1,hp,hp0,hw,hw2,ho,hd,idx,sQX,iQX,lQX,blk,eds_length,eds_get,edsAt,edAV,allLeaf_eds,cleanL_eds,cleanL_ints,ints_length,ints_get,intsAt,endL,finB])).trans ih
     ·have e : chkGo m (prevE l (j + 1)) (l[j + 1] :: l.drop (j + 1 + 1)) = 5 := by
       unfold chkGo;rw [if_neg hn,prevE_succ l j hj,if_pos (show badP (some l[j]) l[j + 1] from hd)]
      rw [e];exact loop_ret (by unfold lQEX0; simp [rQEX0,rQEX1,rQEX2,rQEX3,rQEX4,rQEX5,rQEX6,rQEX7,rQEX8,rQEX9,rQEX10,rQEX11,h1,hlt,ha,hb,hc,hj,hj1,hp,hp0,hw2,ho,hd,idx,sQX,iQX,lQX,blk,eds_length,eds_get,edsAt,edAV,allLeaf_eds,cleanL_eds,cleanL_ints,ints_length,ints_get,intsAt,endL,finB])
theorem rchk_run (m : Int) (l : List Ed) (hl : l.length < 4294967297) : callL cfgS nQE [.agg [.int .i64 m,.list 2 (eds l)]] [] = some (.int .i64 (chkG m l),[]) := by
 rw [callL_end oQE sQE (Nat.le_of_ble_eq_true rfl)];have h := rchk_loop m l hl l.length 0 (by omega);rw [nat0,List.drop_zero,prevE_zero] at h;unfold qQE cQE chkG;by_cases ha : m < 0
 ·simp [rQEX0,rQEX1,rQEX2,rQEX3,rQEX4,rQEX5,rQEX6,rQEX7,rQEX8,rQEX9,rQEX10,rQEX11,ha,blk,eds_length,eds_get,edsAt,edAV,allLeaf_eds,cleanL_eds,cleanL_ints,ints_length,ints_get,intsAt,endL,finB]
 by_cases hb : 64 < m
 ·simp [rQEX0,rQEX1,rQEX2,rQEX3,rQEX4,rQEX5,rQEX6,rQEX7,rQEX8,rQEX9,rQEX10,rQEX11,ha,hb,blk,eds_length,eds_get,edsAt,edAV,allLeaf_eds,cleanL_eds,cleanL_ints,ints_length,ints_get,intsAt,endL,finB]
 rw [if_neg (by omega)];by_cases hc : chkGo m none l = 0
 ·rw [if_pos hc] at h;rw [hc];simp [rQEX0,rQEX1,rQEX2,rQEX3,rQEX4,rQEX5,rQEX6,rQEX7,rQEX8,rQEX9,rQEX10,rQEX11,ha,hb,h,blk,eds_length,eds_get,edsAt,edAV,allLeaf_eds,cleanL_eds,cleanL_ints,ints_length,ints_get,intsAt,endL,finB]
 ·rw [if_neg hc] at h;simp [rQEX0,rQEX1,rQEX2,rQEX3,rQEX4,rQEX5,rQEX6,rQEX7,rQEX8,rQEX9,rQEX10,rQEX11,ha,hb,h,blk,eds_length,eds_get,edsAt,edAV,allLeaf_eds,cleanL_eds,cleanL_ints,ints_length,ints_get,intsAt,endL,finB]
theorem find_loop (x : Ed) (u v : Int) (hx : nrmE u v = x) (l : List Ed) (hl : l.length < 4294967297) : ∀ n i : Nat,i + n = l.length -> codeL cfgS 0 (.loop lQGX0) ⟨[(1,.int .i64 u),(2,.int .i64 v),(13,.list 2 (eds l)),(14,.int .i64 l.length),(15,.int .i64 i)],[]⟩ =
  if x ∈ l.drop i then some (.ret,⟨[(6,.int .i64 (i + (l.drop i).idxOf x : Nat))],[]⟩) else some (.exit 0,⟨[(1,.int .i64 u),(2,.int .i64 v),(13,.list 2 (eds l)),(14,.int .i64 l.length),(15,.int .i64 l.length),(16,.bool false)],[]⟩)
 | 0,i,hi => by
   have e : i = l.length := by omega
   subst e;rw [List.drop_length,if_neg (by simp)];exact loop_exit (by unfold lQGX0; simp [rQGX0,rQGX1,rQGX2,rQGX3,rQGX4,rQGX5,rQGX6,rQGX7,rQGX8,rQGX9,blk,eds_length,eds_get,edsAt,edAV,allLeaf_eds,cleanL_eds,cleanL_ints,ints_length,ints_get,intsAt,endL,finB])
 | n + 1,i,hi => by
   have hlt : i < l.length := by omega
   have h1 : (i : Int) < l.length := by omega
   have ih := find_loop x u v hx l hl n (i + 1) (by omega);have hw := wrapS (i := i) (by omega);have hg := edge_run u v;rw [hx] at hg;rw [List.drop_eq_getElem_cons hlt];by_cases he : l[i] = x
   ·have hx1 : l[i].1 = x.1 := by rw [he]
    have hx2 : l[i].2 = x.2 := by rw [he]
    rw [if_pos (by rw [he]; exact List.mem_cons_self),show (l[i] :: l.drop (i + 1)).idxOf x = 0 by rw [he]; exact List.idxOf_cons_self];exact loop_ret (by unfold lQGX0; simp [rQGX0,rQGX1,rQGX2,rQGX3,rQGX4,rQGX5,rQGX6,rQGX7,rQGX8,rQGX9,h1,hlt,hg,hx1,hx2,idx,sQH,iQH,lQH,blk,eds_length,eds_get,edsAt,edAV,allLeaf_eds,cleanL_eds,cleanL_ints,ints_length,ints_get,intsAt,endL,finB])
   ·have he2 : ¬ x = l[i] := fun e => he e.symm;rw [show (l[i] :: l.drop (i + 1)).idxOf x = (l.drop (i + 1)).idxOf x + 1 by simp only [List.idxOf_cons]; rw [show (l[i] == x) = false by simpa using he]; rfl,show i + ((l.drop (i + 1)).idxOf x + 1) = i + 1 + (l.drop (i + 1)).idxOf x by omega];simp only [List.mem_cons,he2,false_or];by_cases hx1 : l[i].1 = x.1
    ·have hx2 : ¬ l[i].2 = x.2 := fun e => he (Prod.ext hx1 e);exact (loop_next (by unfold lQGX0; simp [rQGX0,rQGX1,rQGX2,rQGX3,rQGX4,rQGX5,rQGX6,rQGX7,rQGX8,rQGX9,h1,hlt,hg,hx1,hx2,hw,idx,sQH,iQH,lQH,blk,eds_length,eds_get,edsAt,edAV,allLeaf_eds,cleanL_eds,cleanL_ints,ints_length,ints_get,intsAt,endL,finB])).trans ih
    ·exact (loop_next (by unfold lQGX0; simp [rQGX0,rQGX1,rQGX2,rQGX3,rQGX4,rQGX5,rQGX6,rQGX7,rQGX8,rQGX9,h1,hlt,hg,hx1,hw,idx,sQH,iQH,lQH,blk,eds_length,eds_get,edsAt,edAV,allLeaf_eds,cleanL_eds,cleanL_ints,ints_length,ints_get,intsAt,endL,finB])).trans ih
theorem find_run (m : Int) (l : List Ed) (hl : l.length < 4294967297) (hG : GOK m l) (u v : Int) : callL cfgS nQG [.agg [.int .i64 m,.list 2 (eds l)],.int .i64 u,.int .i64 v] [] = some (.int .i64 (if nrmE u v ∈ l then (l.idxOf (nrmE u v) : Int) else -1),[]) := by
 rw [callL_end oQG sQG (Nat.le_of_ble_eq_true rfl)];have hc := rchk_run m l hl;rw [chkG_zero.2 hG] at hc;have h := find_loop (nrmE u v) u v rfl l hl l.length 0 (by omega);rw [nat0,List.drop_zero,Nat.zero_add] at h;unfold qQG cQG;by_cases hx : nrmE u v ∈ l
 ·rw [if_pos hx] at h;simp [rQGX0,rQGX1,rQGX2,rQGX3,rQGX4,rQGX5,rQGX6,rQGX7,rQGX8,rQGX9,h,hc,hx,sQE,iQE,lQE,blk,eds_length,eds_get,edsAt,edAV,allLeaf_eds,cleanL_eds,cleanL_ints,ints_length,ints_get,intsAt,endL,finB]
 ·rw [if_neg hx] at h;simp [rQGX0,rQGX1,rQGX2,rQGX3,rQGX4,rQGX5,rQGX6,rQGX7,rQGX8,rQGX9,h,hc,hx,sQE,iQE,lQE,blk,eds_length,eds_get,edsAt,edAV,allLeaf_eds,cleanL_eds,cleanL_ints,ints_length,ints_get,intsAt,endL,finB]
/- What ref03.Remove returns of an edge that is there: the graph without it. -/
set_option maxHeartbeats 8000000
def wo9 (x : Ed) (l : List Ed) : List Ed := l.filter fun e => decide (e ≠ x)
theorem wo9_len (x : Ed) (l : List Ed) : (wo9 x l).length <= l.length := List.length_filter_le _ _
theorem wo9_next (x : Ed) (l : List Ed) (i : Nat) (h : i < l.length) : wo9 x (l.take (i + 1)) = if l[i] = x then wo9 x (l.take i) else wo9 x (l.take i) ++ [l[i]] := by
 unfold wo9;rw [List.take_succ_eq_append_getElem h,List.filter_append];by_cases e : l[i] = x
 ·rw [if_pos e];simp [e]
 ·rw [if_neg e];simp [e]
theorem rm_round (N u v : Int) (Y Z : List AV) (Es : List Ed) (hE : Es.length < 1000000) (i : Nat) (hi : i < Es.length) : codeL cfgS 0 lQnX0 ⟨[(1,.int .i64 u),(2,.int .i64 v),(6,.ptr 1 0),(9,.ptr 2 0),(35,.list 2 (eds Es)),(36,.int .i64 Es.length),(37,.int .i64 i)],[some [.int .i64 N,.list 2 (eds Es)],some [.int .i64 0,.own 2 []],some [.int .i64 N,.own 2 (eds (wo9 (nrmE u v) (Es.take i)))]]⟩ = some (.normal,⟨[(1,.int .i64 u),(2,.int .i64 v),(6,.ptr 1 0),(9,.ptr 2 0),(35,.list 2 (eds Es)),(36,.int .i64 Es.length),(37,.int .i64 ((i + 1 : Nat) : Int))],[some [.int .i64 N,.list 2 (eds Es)],some [.int .i64 0,.own 2 []],some [.int .i64 N,.own 2 (eds (wo9 (nrmE u v) (Es.take (i + 1))))]]⟩) := by
 have i1 : (i : Int) < Es.length := by omega
 have w := wrapS (i := i) (by omega);have er := edge_run u v;have g0 : (eds Es)[i]? = some (.agg [.int .i64 Es[i].1,.int .i64 Es[i].2]) := by rw [eds_get,List.getElem?_eq_getElem hi]; rfl
 have g : ∀ h,(eds Es)[i]'h = .agg [.int .i64 Es[i].1,.int .i64 Es[i].2] := fun h => by rw [List.getElem?_eq_getElem h] at g0; exact Option.some.inj g0
 have lE := eds_length Es;have lo := wo9_len (nrmE u v) (Es.take i);rw [List.length_take] at lo;rw [wo9_next _ _ _ hi];have hx : (Es[i] = nrmE u v) ↔ (Es[i].1 = (nrmE u v).1 /\ Es[i].2 = (nrmE u v).2) := Prod.ext_iff;have L1 : (wo9 (nrmE u v) (Es.take i)).length + 1 <= 4294967296 := by omega
 generalize wo9 (nrmE u v) (Es.take i) = o at *;by_cases q : Es[i] = nrmE u v
 ·rw [if_pos q];obtain ⟨q1,q2⟩ := hx.1 q;generalize eds o = O1 at *;rw [q1,q2] at g0 g;generalize (nrmE u v).1 = a at *;generalize (nrmE u v).2 = b at *;generalize eds Es = E1 at *;clear hx q q1 q2;unfold lQnX0;simp [rQnX0,rQnX1,rQnX2,rQnX3,rQnX4,rQnX5,rQnX6,rQnX7,rQnX8,rQnX9,rQnX10,rQnX11,rQnX12,rQnX13,rQnX14,rQnX15,i1,hi,w,er,g,g0,lE,idx,blk,sQH,iQH,lQH,plp,plpL,plL,pl]
 ·rw [if_neg q];have q3 : ¬ (Es[i].1 = (nrmE u v).1 /\ Es[i].2 = (nrmE u v).2) := fun h => q (hx.2 h);clear hx q;generalize Es[i] = e at *;obtain ⟨a,b⟩ := e
  have q4 : ¬ a = (nrmE u v).1 \/ ¬ b = (nrmE u v).2 := by
   by_cases h : a = (nrmE u v).1
   ·exact .inr fun h2 => q3 ⟨h,h2⟩
   ·exact .inl h
  have l3 : (eds o).length <= 4294967295 := by rw [eds_length]; omega
  have tk : (eds (o ++ [(a,b)])).take ((eds o).length + 1) = eds (o ++ [(a,b)]) := List.take_of_length_le (by rw [eds_length,eds_length]; simp);have tk2 : (eds (o ++ [(a,b)])).take (o.length + 1) = eds (o ++ [(a,b)]) := List.take_of_length_le (by rw [eds_length]; simp);have lo1 := eds_length o;generalize (nrmE u v).1 = c at *;generalize (nrmE u v).2 = d at *;generalize eds Es = E1 at *;clear q3 g0;unfold lQnX0;simp [rQnX0,rQnX1,rQnX2,rQnX3,rQnX4,rQnX5,rQnX6,rQnX7,rQnX8,rQnX9,rQnX10,rQnX11,rQnX12,rQnX13,rQnX14,rQnX15,i1,hi,w,er,g,lE,q4,L1,l3,LIM,eds_snocM,tk,tk2,idx,blk,sQH,iQH,lQH,plp,plpL,plL,pl,allB,notBox,swC,seesC,inBox,relB,handBox,mvBB,mvRtB]
theorem rm_loop (N u v : Int) (Es : List Ed) (hE : Es.length < 1000000) : ∀ n i : Nat,i + n = Es.length -> codeL cfgS 0 (.loop lQnX0) ⟨[(1,.int .i64 u),(2,.int .i64 v),(6,.ptr 1 0),(9,.ptr 2 0),(35,.list 2 (eds Es)),(36,.int .i64 Es.length),(37,.int .i64 i)],[some [.int .i64 N,.list 2 (eds Es)],some [.int .i64 0,.own 2 []],some [.int .i64 N,.own 2 (eds (wo9 (nrmE u v) (Es.take i)))]]⟩ = some (.exit 0,⟨[(1,.int .i64 u),(2,.int .i64 v),(6,.ptr 1 0),(9,.ptr 2 0),(35,.list 2 (eds Es)),(36,.int .i64 Es.length),(37,.int .i64 Es.length),(38,.bool false)],[some [.int .i64 N,.list 2 (eds Es)],some [.int .i64 0,.own 2 []],some [.int .i64 N,.own 2 (eds (wo9 (nrmE u v) Es))]]⟩)
 | 0,i,e => by
   obtain rfl : i = Es.length := by omega
   rw [List.take_length];refine loop_exit ?_;have lE := eds_length Es;generalize eds (wo9 (nrmE u v) Es) = O1;generalize eds Es = E1 at *;unfold lQnX0;simp [rQnX0,rQnX1,rQnX2,rQnX3,rQnX4,rQnX5,rQnX6,rQnX7,rQnX8,rQnX9,rQnX10,rQnX11,rQnX12,rQnX13,rQnX14,rQnX15,blk]
 | n + 1,i,e => (loop_next (rm_round N u v [] [] Es hE i (by omega))).trans (rm_loop N u v Es hE n (i + 1) (by omega))
theorem rem_run {N : Nat} {Es : List Ed} (hG : GOK (N : Int) Es) (hE : Es.length < 1000000) (u v : Int) (hm : (u,v) ∈ Es) : callL cfgS nQn [.agg [.int .i64 N,.list 2 (eds Es)],.int .i64 u,.int .i64 v] [] = some (.tup [.agg [.int .i64 N,.list 2 (eds (wo9 (nrmE u v) Es))],.int .i64 0],[]) := by
 have ck := rchk_run (N : Int) Es (by omega);rw [chkG_zero.2 hG] at ck;have b := hG.2.2 _ hm;have en := ends_run (N : Int) u v;have b1 : u < v := b.2.1;have b0 : 0 <= u := b.1;have b2 : v < (N : Int) := b.2.2
 have ne : nrmE u v = (u,v) := by
  unfold nrmE;rw [if_neg (show ¬ v < u by omega),if_pos b1]
 have fd := find_run (N : Int) Es (by omega) hG u v;rw [ne,if_pos hm] at fd;have ed : decide (0 <= u /\ 0 <= v /\ u < (N : Int) /\ v < (N : Int) /\ u ≠ v) = true := decide_eq_true (by omega);rw [ed] at en;have lp := rm_loop (N : Int) u v Es hE Es.length 0 (by omega);rw [nat0,List.take_zero] at lp;change codeL cfgS 0 _ ⟨_,[_,_,some [_,.own 2 []]]⟩ = _ at lp;have q0 : ∀ p : Nat,¬ (p : Int) < 0 := fun p => by omega
 generalize List.idxOf (u,v) Es = p at fd;have qp := q0 p;have lE := eds_length Es;have lO := eds_length (wo9 (nrmE u v) Es);have tk : (eds (wo9 (nrmE u v) Es)).take (wo9 (nrmE u v) Es).length = eds (wo9 (nrmE u v) Es) := List.take_of_length_le (by rw [eds_length]; exact Nat.le_refl _);rw [callL_end oQn sQn (Nat.le_of_ble_eq_true rfl)];generalize (wo9 (nrmE u v) Es).length = k at *;generalize eds (wo9 (nrmE u v) Es) = O1 at *;generalize eds Es = E1 at *;clear hm b hG ne ed b0 b1 b2;unfold qQn cQn;simp [rQnX0,rQnX1,rQnX2,rQnX3,rQnX4,rQnX5,rQnX6,rQnX7,rQnX8,rQnX9,rQnX10,rQnX11,rQnX12,rQnX13,rQnX14,rQnX15,ck,en,fd,lp,qp,lE,lO,tk,idx,blk,endL,finB,plp,plpL,plL,pl,sQE,iQE,lQE,sQF,iQF,lQF,sQG,iQG,lQG]
theorem wo9_ok {N : Int} {Es : List Ed} (h : GOK N Es) (x : Ed) : GOK N (wo9 x Es) := by
 obtain ⟨a,b,c⟩ := h;refine ⟨a,?_,fun e he => c e (List.mem_filter.1 he).1⟩;unfold UpE at b ⊢;exact b.sublist List.filter_sublist
end Go.BmP
