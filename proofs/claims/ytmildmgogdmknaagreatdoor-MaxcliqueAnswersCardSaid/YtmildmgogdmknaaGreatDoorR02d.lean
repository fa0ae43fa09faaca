/- What functions of cohesionref02 return: Has, Valid, put, Of. -/
import Derived.Test.YtmildmgogdmknaaGreatDoorUseM
set_option linter.unusedSimpArgs false
set_option linter.unusedVariables false
set_option maxRecDepth 100000
open Bool renaming false_and → eh, false_eq_true → bz, true_and → dI
open List renaming append_assoc → du, append_nil → dW, drop_eq_getElem_cons → aT, drop_length → bK, drop_zero → bY, filter_cons → nC, getElem?_eq_getElem → an, length_append → bV, length_cons → cN, length_drop → eS, length_nil → gP, length_singleton → V4, length_take → bF, mem_filter → jR, nil_append → rP, range → cQ, singleton_append → V2, take_of_length_le → aZ
open Nat renaming le_of_ble_eq_true → ah
namespace Go.BmP
open Go.Am Go.Bm
theorem UY (x:Int) (l:List Int) (hl:l.length<4294967297):∀n i:Nat,i+n=l.length->aW aq 0 (.loop Us) ⟨[(1,.int .i64 x),(7,.list 1 (ints l)),(8,.int .i64 l.length),(9,.int .i64 i)],[]⟩ =
  if x∈l.drop i then some (.ret,⟨[(4,.bool true)],[]⟩) else some (.exit 0,⟨[(1,.int .i64 x),(7,.list 1 (ints l)),(8,.int .i64 l.length),(9,.int .i64 l.length),(10,.bool false)],[]⟩)
 |0,i,hi=>by
   have e:i=l.length:=by omega
   subst e;rw[bK];exact bq (by unfold Us; simp[N7,N6,N5,N3,N0])
 |n+1,i,hi=>by
   have bD:i<l.length:=by omega
   have h1:(i:Int)<l.length:=by omega
   have ih:=UY x l hl n (i+1) (by omega);have hw:=dM (i:=i) (by omega);rw[aT bD];by_cases hx:l[i]=x
   ·rw[if_pos (by simp[hx])];exact dp (by unfold Us; simp[N7,N6,N5,N3,N0,h1,bD,hx,af,aM,idx])
   ·have hx2:¬x=l[i]:=fun e=>hx e.symm;simp only[List.mem_cons,hx2,false_or];exact (aS (by unfold Us; simp[N7,N6,N5,N3,N0,h1,bD,hx,hw,af,aM,idx])).trans ih
theorem E6 (x:Int) (l:List Int) (hl:l.length<4294967297):bp aq nQS [.list 1 (ints l),.int .i64 x] []=some (.bool (decide (x∈l)),[]):=by
 rw[pM sQS (ah rfl)];have h:=UY x l hl l.length 0 (by omega);rw[fi,bY] at h;unfold qQS cQS;by_cases hx:x∈l
 ·simp[N9,N8,NZ,h,hx,af,bk,bf]
 ·simp[N9,N8,NZ,h,hx,af,bk,bf]
theorem I9 (m:Int) (l:List Int) (hl:l.length<=9223372036854775807):∀n i:Nat,i+n=l.length->aW aq 0 (.loop Ab) ⟨[(0,.list 1 (ints l)),(1,.int .i64 m),(7,.list 1 (ints l)),(8,.int .i64 l.length),(9,.int .i64 i)],[]⟩ =
  if n8 m (prev l i) (l.drop i)=true then some (.exit 0,⟨[(0,.list 1 (ints l)),(1,.int .i64 m),(7,.list 1 (ints l)),(8,.int .i64 l.length),(9,.int .i64 l.length),(10,.bool false)],[]⟩) else some (.ret,⟨[(4,.bool false)],[]⟩)
 |0,i,hi=>by
   have e:i=l.length:=by omega
   subst e;rw[bK];exact bq (by unfold Ab; simp[wy,wx,wv,wu,wq])
 |n+1,i,hi=>by
   have bD:i<l.length:=by omega
   have h1:(i:Int)<l.length:=by omega
   have ih:=I9 m l hl n (i+1) (by omega);have hw:=dM (i:=i) (by omega);rw[sj l i bD] at ih;rw[aT bD];unfold n8;by_cases ha:l[i]<0
   ·have IQ:¬0<=l[i]:=by omega
    simp only[IQ,decide_false,eh,bz,if_false];exact dp (by unfold Ab; simp[wy,wx,wv,wu,wq,h1,bD,ha,af,aM,idx])
   have IQ:0<=l[i]:=by omega
   by_cases hb:m<=l[i]
   ·have iK:¬l[i]<m:=by omega
    simp only[IQ,iK,decide_true,decide_false,eh,dI,bz,if_false];exact dp (by unfold Ab; simp[wy,wx,wv,wu,wq,h1,bD,ha,hb,af,aM,idx])
   have iK:l[i]<m:=by omega
   by_cases hc:prev l i<l[i]
   ·simp only[IQ,iK,hc,decide_true,dI];cases i with
    |zero=>exact (aS (by unfold Ab; simp[wy,wx,wv,wu,wq,bD,ha,hb,af,aM,idx])).trans ih
    |succ j=>
      rw[sj l j (by omega)] at hc;have hj:j<l.length:=by omega
      have Xb:(j:Int)<l.length:=by omega
      have Xh:¬l[j+1]<=l[j]:=by omega
      have hp:(0:Int)<(j:Int)+1:=by omega
      have IL:(0:Int)<=(j:Int)+1:=by omega
      have hw2:=yR (i:=j) (by omega);have h1:(j:Int)+1<l.length:=by omega
      have hw:IntKind.i64.wrap ((j:Int)+1+1)=(j:Int)+1+1:=Nl (j:=j+1+1) rfl (by omega);exact (aS (by unfold Ab; simp[wy,wx,wv,wu,wq,h1,bD,ha,hb,Xh,hj,Xb,hp,IL,hw,hw2,af,aM,idx])).trans ih
   ·simp only[IQ,iK,hc,decide_true,decide_false,eh,dI,bz,if_false];cases i with
    |zero=>exact absurd (show prev l 0<l[0] by rw[prev_zero]; omega) hc
    |succ j=>
      rw[sj l j (by omega)] at hc;have hj:j<l.length:=by omega
      have Xb:(j:Int)<l.length:=by omega
      have Xh:l[j+1]<=l[j]:=by omega
      have hp:(0:Int)<(j:Int)+1:=by omega
      have IL:(0:Int)<=(j:Int)+1:=by omega
      have hw2:=yR (i:=j) (by omega);have h1:(j:Int)+1<l.length:=by omega
      exact dp (by unfold Ab; simp[wy,wx,wv,wu,wq,h1,bD,ha,hb,Xh,hj,Xb,hp,IL,hw2,af,aM,idx])
theorem abg (m:Int) (l:List Int) (hl:l.length<=9223372036854775807):bp aq MM [.list 1 (ints l),.int .i64 m] []=some (.bool (n8 m (-1) l),[]):=by
 rw[pM sQb5 (ah rfl)];have h:=I9 m l hl l.length 0 (by omega);rw[fi,prev_zero,bY] at h;unfold qQb5 cQb5;by_cases hx:n8 m (-1) l=true
 ·simp[wA,wz,wk,h,hx,af,bk,bf]
 ·simp[wA,wz,wk,h,hx,af,bk,bf]
theorem Tx (x:Int) (l:List Int) (hl:l.length<4294967296):∀n i:Nat,i+n=l.length->aW aq 0 (.loop Lg) ⟨[(0,.list 1 (ints l)),(1,.int .i64 x),(5,.int .i64 i)],[]⟩ =
  some (.exit 0,⟨[(0,.list 1 (ints l)),(1,.int .i64 x),(5,.int .i64 (i+pos x (l.drop i):Nat)),(18,.bool false)],[]⟩)
 |0,i,hi=>by
   have e:i=l.length:=by omega
   subst e;rw[bK];exact bq (by unfold Lg; simp[C6,C5,pos,af])
 |n+1,i,hi=>by
   have bD:i<l.length:=by omega
   have h1:(i:Int)<l.length:=by omega
   have ih:=Tx x l hl n (i+1) (by omega);have hw:=dM (i:=i) (by omega);rw[aT bD];unfold pos;by_cases hx:l[i]<x
   ·have e:i+(pos x (l.drop (i+1))+1)=i+1+pos x (l.drop (i+1)):=by omega
    rw[if_pos hx,e];exact (aS (by unfold Lg; simp[C6,C5,h1,bD,hx,hw,af,aM,idx])).trans ih
   ·rw[if_neg hx];exact bq (by unfold Lg; simp[C6,C5,h1,bD,hx,af,aM,idx])
/- What functions of cohesionref02 return: put, Of, Range, Union, Meet, Minus, Within, Cmp, Same. -/
theorem Zs (x:Int) (l:List Int) (hl:l.length<4294967295):bp aq MR [.list 1 (ints l),.int .i64 x] []=some (.list 1 (ints (sZ x l)),[]):=by
 rw[pM sQa3 (ah rfl),Ty];have h:=Tx x l (by omega) l.length 0 (by omega);rw[fi,bY,Nat.zero_add] at h;have hp:=adM x l;generalize pos x l=p at h hp ⊢;have hq:(p:Int)<=l.length:=by omega
 have hm:min p l.length=p:=by omega
 have hL1:p<=4294967296:=by omega
 have hL2:p+1<=4294967296:=by omega
 have hL3:p+1+(l.length-p)<=4294967296:=by omega
 unfold qQa3 cQa3;by_cases bD:p<l.length
 ·have h1:(p:Int)<l.length:=by omega
  by_cases hx:l[p]=x
  ·rw[if_pos (by rw[an bD,hx])];simp[C8,C7,C4,C3,C2,C0,h,h1,bD,hx,af,aM,idx,bk,bf]
  ·rw[if_neg (by rw[an bD]; simpa using hx)];simp[C8,C7,C4,C3,C2,C0,h,h1,bD,hx,hq,hm,hL1,hL2,hL3,af,aM,idx,bk,bf,cq,gg,er,Lm,jx,bF,eS];simp (disch:=(simp only[bF,bV,eS,V4,cN,gP]<;>omega)) only[aZ,du,V2]
 ·have h1:¬(p:Int)<l.length:=by omega
  rw[if_neg (by rw[List.getElem?_eq_none (by omega)]; simp)];simp[C8,C7,C4,C3,C2,C0,h,h1,hq,hm,hL1,hL2,hL3,af,bk,bf,cq,gg,er,Lm,jx,bF,eS];simp (disch:=(simp only[bF,bV,eS,V4,cN,gP]<;>omega)) only[aZ,du,V2]
theorem ZQ (l:List Int) (hl:l.length<4294967295):∀(n i:Nat) (o:List Int),i+n=l.length->o.length<=i->aW aq 0 (.loop Lh) ⟨[(3,.list 1 (ints o)),(6,.list 1 (ints l)),(7,.int .i64 l.length),(8,.int .i64 i)],[]⟩ =
  some (.exit 0,⟨[(3,.list 1 (ints ((l.drop i).foldl (fun o x=>sZ x o) o))),(6,.list 1 (ints l)),(7,.int .i64 l.length),(8,.int .i64 l.length),(9,.bool false)],[]⟩)
 |0,i,o,hi,ho=>by
   have e:i=l.length:=by omega
   subst e;rw[bK];exact bq (by unfold Lh; simp[Kb,Ka,J9,J8])
 |n+1,i,o,hi,ho=>by
   have bD:i<l.length:=by omega
   have h1:(i:Int)<l.length:=by omega
   have hw:=dM (i:=i) (by omega);have hp:=Zs l[i] o (by omega);have pq:=Tz l[i] o;have ih:=ZQ l hl n (i+1) (sZ l[i] o) (by omega) (by omega);rw[aT bD,List.foldl_cons];exact (aS (by unfold Lh; simp[Kb,Ka,J9,J8,h1,bD,hw,hp,sQa3,iQa3,af,aM,idx])).trans ih
theorem aeb (l:List Int) (hl:l.length<4294967295):aW aq 0 (.loop Lh) ⟨[(3,.own 1 []),(6,.list 1 (ints l)),(7,.int .i64 l.length),(8,.int .i64 0)],[]⟩ =
  some (.exit 0,⟨[(3,if l=[] then .own 1 [] else .list 1 (ints (cV l))),(6,.list 1 (ints l)),(7,.int .i64 l.length),(8,.int .i64 l.length),(9,.bool false)],[]⟩):=by
 cases l with
 |nil=>exact bq (by unfold Lh; simp[Kb,Ka,J9,J8,c8])
 |cons a r=>
   have hp:=Zs a [] (by simp);have ih:=ZQ (a::r) hl r.length 1 (sZ a []) (by simp; omega) (by simp[sZ]);rw[<-alb,if_neg (by simp)];rw[c8] at hp;refine (aS (s':=⟨[(3,.list 1 (ints (sZ a []))),(6,.list 1 (ints (a::r))),(7,.int .i64 (a::r).length),(8,.int .i64 ((1:Nat):Int))],[]⟩) ?_).trans (ih.trans ?_)
   ·have h1:(0:Int)<(r.length:Int)+1:=by omega
    unfold Lh;simp[Kb,Ka,J9,J8,h1,hp,sQa3,iQa3,af,lf,idx]
   ·rfl
theorem FX (l:List Int) (hl:l.length<4294967295):bp aq Z3 [.list 1 (ints l)] []=some (.list 1 (ints (cV l)),[]):=by
 rw[pM sQH (ah rfl)];have h:=aeb l hl;unfold qQH cQH;by_cases hx:l=[]
 ·subst hx;rw[if_pos rfl] at h;simp only[c8,gP,fi] at h;simp[Kf,Ke,Kc,J7,h,c8,bk,bf];rfl
 ·rw[if_neg hx] at h;simp[Kf,Ke,Kc,J7,h,af,bk,bf]
theorem Ga (l b:List Int) (hl:l.length<4294967295) (hb:b.length<4294967295):∀(n i:Nat) (o:List Int),i+n=l.length->o.length<=i->aW aq 0 (.loop Lb) ⟨[(1,.list 1 (ints b)),(5,.own 1 (ints o)),(9,.list 1 (ints l)),(10,.int .i64 l.length),(11,.int .i64 i)],[]⟩ =
  some (.exit 0,⟨[(1,.list 1 (ints b)),(5,.own 1 (ints (o++(l.drop i).filter fun x=>decide (x∈b)))),(9,.list 1 (ints l)),(10,.int .i64 l.length),(11,.int .i64 l.length),(12,.bool false)],[]⟩)
 |0,i,o,hi,ho=>by
   have e:i=l.length:=by omega
   subst e;rw[bK,List.filter_nil,dW];exact bq (by unfold Lb; simp[JT,JS,JR,JQ,JP])
 |n+1,i,o,hi,ho=>by
   have bD:i<l.length:=by omega
   have h1:(i:Int)<l.length:=by omega
   have hw:=dM (i:=i) (by omega);have hh:=E6 l[i] b (by omega);have hL:o.length+1<=4294967296:=by omega
   rw[aT bD,nC];by_cases hx:l[i]∈b
   ·have ih:=Ga l b hl hb n (i+1) (o++[l[i]]) (by omega) (by simp; omega);rw[du] at ih;rw[if_pos (by simpa using hx)];exact (aS (by unfold Lb; simp[JT,JS,JR,JQ,JP,h1,bD,hw,hh,hx,hL,jx,sQS,iQS,af,aM,idx,er,cq])).trans ih
   ·have ih:=Ga l b hl hb n (i+1) o (by omega) (by omega);rw[if_neg (by simpa using hx)];exact (aS (by unfold Lb; simp[JT,JS,JR,JQ,JP,h1,bD,hw,hh,hx,sQS,iQS,af,aM,idx])).trans ih
theorem T3 (a b:List Int) (ha:a.length<4294967295) (hb:b.length<4294967295):bp aq KN [.list 1 (ints a),.list 1 (ints b)] []=some (.list 1 (ints (meet a b)),[]):=by
 rw[pM sQa5 (ah rfl)];have hs:=iI a;have h:=Ga (cV a) b (by omega) hb (cV a).length 0 [] (by omega) (by simp);have ho:=FX a ha;have e:(cV a).filter (fun x=>decide (x∈b))=meet a b:=sI ((eY a).1.filter _) (A3 _ _).1 fun x=>by rw[(A3 _ _).2,jR,(eY _).2]; simp
 rw[fi,bY,rP,e,c8] at h;unfold qQa5 cQa5;simp[JW,JV,JU,JO,h,ho,af,cq,bk,bf,sQH,iQH]
theorem Dr (l b:List Int) (hl:l.length<4294967295) (hb:b.length<4294967295):∀(n i:Nat) (o:List Int),i+n=l.length->o.length<=i->aW aq 0 (.loop La) ⟨[(1,.list 1 (ints b)),(5,.own 1 (ints o)),(9,.list 1 (ints l)),(10,.int .i64 l.length),(11,.int .i64 i)],[]⟩ =
  some (.exit 0,⟨[(1,.list 1 (ints b)),(5,.own 1 (ints (o++(l.drop i).filter fun x=>!decide (x∈b)))),(9,.list 1 (ints l)),(10,.int .i64 l.length),(11,.int .i64 l.length),(12,.bool false)],[]⟩)
 |0,i,o,hi,ho=>by
   have e:i=l.length:=by omega
   subst e;rw[bK,List.filter_nil,dW];exact bq (by unfold La; simp[JK,JJ,JI,JH,JG])
 |n+1,i,o,hi,ho=>by
   have bD:i<l.length:=by omega
   have h1:(i:Int)<l.length:=by omega
   have hw:=dM (i:=i) (by omega);have hh:=E6 l[i] b (by omega);have hL:o.length+1<=4294967296:=by omega
   rw[aT bD,nC];by_cases hx:l[i]∈b
   ·have ih:=Dr l b hl hb n (i+1) o (by omega) (by omega);rw[if_neg (by simpa using hx)];exact (aS (by unfold La; simp[JK,JJ,JI,JH,JG,h1,bD,hw,hh,hx,sQS,iQS,af,aM,idx])).trans ih
   ·have ih:=Dr l b hl hb n (i+1) (o++[l[i]]) (by omega) (by simp; omega);rw[du] at ih;rw[if_pos (by simpa using hx)];exact (aS (by unfold La; simp[JK,JJ,JI,JH,JG,h1,bD,hw,hh,hx,hL,jx,sQS,iQS,af,aM,idx,er,cq])).trans ih
theorem OP (a b:List Int) (ha:a.length<4294967295) (hb:b.length<4294967295):bp aq F7 [.list 1 (ints a),.list 1 (ints b)] []=some (.list 1 (ints (minus a b)),[]):=by
 rw[pM sQa6 (ah rfl)];have hs:=iI a;have h:=Dr (cV a) b (by omega) hb (cV a).length 0 [] (by omega) (by simp);have ho:=FX a ha;have e:(cV a).filter (fun x=>!decide (x∈b))=minus a b:=sI ((eY a).1.filter _) (oS _ _).1 fun x=>by rw[(oS _ _).2,jR,(eY _).2]; simp
 rw[fi,bY,rP,e,c8] at h;unfold qQa6 cQa6;simp[JN,JM,JL,JF,h,ho,af,cq,bk,bf,sQH,iQH]
theorem GO (l b:List Int) (hl:l.length<4294967295) (hb:b.length<4294967295):∀(n i:Nat),i+n=l.length->aW aq 0 (.loop Ux) ⟨[(1,.list 1 (ints b)),(7,.list 1 (ints l)),(8,.int .i64 l.length),(9,.int .i64 i)],[]⟩ =
  if (l.drop i).all (fun x=>decide (x∈b))=true then some (.exit 0,⟨[(1,.list 1 (ints b)),(7,.list 1 (ints l)),(8,.int .i64 l.length),(9,.int .i64 l.length),(10,.bool false)],[]⟩) else some (.ret,⟨[(4,.bool false)],[]⟩)
 |0,i,hi=>by
   have e:i=l.length:=by omega
   subst e;rw[bK,List.all_nil,if_pos rfl];exact bq (by unfold Ux; simp[OB,OA,Oz,Oy,Ox])
 |n+1,i,hi=>by
   have bD:i<l.length:=by omega
   have h1:(i:Int)<l.length:=by omega
   have hw:=dM (i:=i) (by omega);have hh:=E6 l[i] b (by omega);rw[aT bD,List.all_cons];by_cases hx:l[i]∈b
   ·have ih:=GO l b hl hb n (i+1) (by omega);simp only[hx,decide_true,dI];exact (aS (by unfold Ux; simp[OB,OA,Oz,Oy,Ox,h1,bD,hw,hh,hx,sQS,iQS,af,aM,idx])).trans ih
   ·simp only[hx,decide_false,eh,bz,if_false];exact dp (by unfold Ux; simp[OB,OA,Oz,Oy,Ox,h1,bD,hh,hx,sQS,iQS,af,aM,idx])
theorem V9 (a b:List Int) (ha:a.length<4294967295) (hb:b.length<4294967295):bp aq nQ0 [.list 1 (ints a),.list 1 (ints b)] []=some (.bool (a.all fun x=>decide (x∈b)),[]):=by
 rw[pM sQ0 (ah rfl)];have h:=GO a b ha hb a.length 0 (by omega);rw[fi,bY] at h;unfold qQ0 cQ0;cases hx:a.all fun x=>decide (x∈b)
 ·rw[hx] at h;simp[OD,OC,Ow,h,af,bk,bf]
 ·rw[hx] at h;simp[OD,OC,Ow,h,af,bk,bf]
def dN (n:Int):List Int:=(cQ (min n.toNat 64)).map fun i=>((i:Nat):Int)
theorem Jt (m:Int):∀(n i:Nat),i+n=min m.toNat 64->aW aq 0 (.loop Uu) ⟨[(0,.int .i64 m),(3,.own 1 (ints ((cQ i).map fun i=>((i:Nat):Int)))),(4,.int .i64 i)],[]⟩ =
  some (.exit 0,⟨[(0,.int .i64 m),(3,.own 1 (ints (dN m))),(4,.int .i64 (min m.toNat 64:Nat)),(11,.bool false)],[]⟩)
 |0,i,hi=>by
   have e:i=min m.toNat 64:=by omega
   have e2:((cQ i).map fun i=>((i:Nat):Int))=dN m:=by rw[e]; rfl
   rw[e2,<-e];by_cases h:(i:Int)<m
   ·have h2:¬(i:Int)<64:=by omega
    exact bq (by unfold Uu; simp[Tp,To,Tn,h,h2])
   ·exact bq (by unfold Uu; simp[Tp,To,Tn,h])
 |n+1,i,hi=>by
   have h:(i:Int)<m:=by omega
   have h2:(i:Int)<64:=by omega
   have hw:=dM (i:=i) (by omega);have hL:i+1<=4294967296:=by omega
   have ih:=Jt m n (i+1) (by omega);have e:((cQ (i+1)).map fun i=>((i:Nat):Int))=((cQ i).map fun i=>((i:Nat):Int))++[(i:Int)]:=by rw[List.range_succ,List.map_append]; rfl
   rw[e] at ih;generalize hr:((cQ i).map fun i=>((i:Nat):Int))=r at ih ⊢;have hrl:r.length=i:=by rw[<-hr]; simp
   exact (aS (by unfold Uu; simp[Tp,To,Tn,h,h2,hw,hL,hrl,Jh hrl,jx,af,er,cq])).trans ih
theorem AW (m:Int):bp aq nQQ [.int .i64 m] []=some (.list 1 (ints (dN m)),[]):=by
 rw[pM sQQ (ah rfl)];have h:=Jt m (min m.toNat 64) 0 (by omega);rw[fi,List.range_zero,List.map_nil,c8] at h;unfold qQQ cQQ;simp[Ts,Tr,Tq,Tm,h,af,cq,bk,bf]
/- What comparisons return; nodeset.Valid, Has, Cmp, Range. -/
def Fm:List Int->List Int->Option Int
 |[],_=>none
 |_::_,[]=>some 1
 |x::r,y::s=>if y<x then some 1 else if x<y then some (-1) else Fm r s
theorem aaX:∀a b:List Int,ka a b=(Fm a b).getD (if a.length<b.length then -1 else 0)
 |[],[]=>rfl
 |[],_::_=>by simp[ka,Fm]
 |_::_,[]=>rfl
 |x::r,y::s=>by
   have ih:=aaX r s;unfold ka Fm;split
   ·rfl
   ·split
    ·rfl
    ·rw[ih]; simp
theorem Vs (a b:List Int) (hl:a.length<=9223372036854775807) (hb:b.length<=9223372036854775807):∀(n i:Nat),i+n=a.length->aW aq 0 (.loop K4) ⟨[(0,.list 1 (ints a)),(1,.list 1 (ints b)),(7,.int .i64 a.length),(8,.int .i64 i)],[]⟩ =
  match Fm (a.drop i) (b.drop i) with
  |some v=>some (.ret,⟨[(4,.int .i64 v)],[]⟩)
  |none=>some (.exit 0,⟨[(0,.list 1 (ints a)),(1,.list 1 (ints b)),(7,.int .i64 a.length),(8,.int .i64 a.length),(9,.bool false)],[]⟩)
 |0,i,hi=>by
   have e:i=a.length:=by omega
   subst e;rw[bK];unfold Fm;exact bq (by unfold K4; simp[Ej,Ei,Eh,Eg,Ef,Ee,Ec])
 |n+1,i,hi=>by
   have bD:i<a.length:=by omega
   have h1:(i:Int)<a.length:=by omega
   have hw:=dM (i:=i) (by omega);have ih:=Vs a b hl hb n (i+1) (by omega);rw[aT bD];by_cases hk:i<b.length
   ·have h2:(i:Int)<b.length:=by omega
    have h2':¬(b.length:Int)<=i:=by omega
    rw[aT hk];unfold Fm;by_cases hg:b[i]<a[i]
    ·rw[if_pos hg];exact dp (by unfold K4; simp[Ej,Ei,Eh,Eg,Ef,Ee,Ec,h1,bD,h2,h2',hk,hg,af,aM,idx])
    ·rw[if_neg hg];by_cases hs:a[i]<b[i]
     ·rw[if_pos hs];exact dp (by unfold K4; simp[Ej,Ei,Eh,Eg,Ef,Ee,Ec,h1,bD,h2,h2',hk,hg,hs,af,aM,idx])
     ·rw[if_neg hs];exact (aS (by unfold K4; simp[Ej,Ei,Eh,Eg,Ef,Ee,Ec,h1,bD,h2,h2',hk,hg,hs,hw,af,aM,idx])).trans ih
   ·have h2':(b.length:Int)<=i:=by omega
    have e0:b.drop i=[]:=List.drop_eq_nil_of_le (by omega);rw[e0];unfold Fm;exact dp (by unfold K4; simp[Ej,Ei,Eh,Eg,Ef,Ee,Ec,h1,h2',af])
theorem RR (a b:List Int) (hl:a.length<=9223372036854775807) (hb:b.length<=9223372036854775807):bp aq TR [.list 1 (ints a),.list 1 (ints b)] []=some (.int .i64 (ka a b),[]):=by
 rw[pM sQn (ah rfl),aaX];have h:=Vs a b hl hb a.length 0 (by omega);rw[fi,bY,bY] at h;unfold qQn cQn;cases hx:Fm a b with
 |some v=>
   rw[hx] at h;simp only at h;rw[Option.getD_some];simp[El,Ek,Eb,wh,wg,h,af,bk,bf]
 |none=>
   rw[hx] at h;simp only at h;rw[Option.getD_none];by_cases bD:a.length<b.length
   ·have h1:(a.length:Int)<b.length:=by omega
    simp[El,Ek,Eb,wh,wg,h,bD,h1,af,bk,bf]
   ·have h1:¬(a.length:Int)<b.length:=by omega
    simp[El,Ek,Eb,wh,wg,h,bD,h1,af,bk,bf]
theorem HG (m:Int) (l:List Int) (hl:l.length<=9223372036854775807):∀n i:Nat,i+n=l.length->aW aq 0 (.loop Ac) ⟨[(0,.list 1 (ints l)),(1,.int .i64 m),(7,.list 1 (ints l)),(8,.int .i64 l.length),(9,.int .i64 i)],[]⟩ =
  if n8 m (prev l i) (l.drop i)=true then some (.exit 0,⟨[(0,.list 1 (ints l)),(1,.int .i64 m),(7,.list 1 (ints l)),(8,.int .i64 l.length),(9,.int .i64 l.length),(10,.bool false)],[]⟩) else some (.ret,⟨[(4,.bool false)],[]⟩)
 |0,i,hi=>by
   have e:i=l.length:=by omega
   subst e;rw[bK];exact bq (by unfold Ac; simp[wR,wQ,wP,wO,wN])
 |n+1,i,hi=>by
   have bD:i<l.length:=by omega
   have h1:(i:Int)<l.length:=by omega
   have ih:=HG m l hl n (i+1) (by omega);have hw:=dM (i:=i) (by omega);rw[sj l i bD] at ih;rw[aT bD];unfold n8;by_cases ha:l[i]<0
   ·have IQ:¬0<=l[i]:=by omega
    simp only[IQ,decide_false,eh,bz,if_false];exact dp (by unfold Ac; simp[wR,wQ,wP,wO,wN,h1,bD,ha,af,aM,idx])
   have IQ:0<=l[i]:=by omega
   by_cases hb:m<=l[i]
   ·have iK:¬l[i]<m:=by omega
    simp only[IQ,iK,decide_true,decide_false,eh,dI,bz,if_false];exact dp (by unfold Ac; simp[wR,wQ,wP,wO,wN,h1,bD,ha,hb,af,aM,idx])
   have iK:l[i]<m:=by omega
   by_cases hc:prev l i<l[i]
   ·simp only[IQ,iK,hc,decide_true,dI];cases i with
    |zero=>exact (aS (by unfold Ac; simp[wR,wQ,wP,wO,wN,bD,ha,hb,af,aM,idx])).trans ih
    |succ j=>
      rw[sj l j (by omega)] at hc;have hj:j<l.length:=by omega
      have Xb:(j:Int)<l.length:=by omega
      have Xh:¬l[j+1]<=l[j]:=by omega
      have hp:(0:Int)<(j:Int)+1:=by omega
      have IL:(0:Int)<=(j:Int)+1:=by omega
      have hw2:=yR (i:=j) (by omega);have h1:(j:Int)+1<l.length:=by omega
      have hw:IntKind.i64.wrap ((j:Int)+1+1)=(j:Int)+1+1:=Nl (j:=j+1+1) rfl (by omega);exact (aS (by unfold Ac; simp[wR,wQ,wP,wO,wN,h1,bD,ha,hb,Xh,hj,Xb,hp,IL,hw,hw2,af,aM,idx])).trans ih
   ·simp only[IQ,iK,hc,decide_true,decide_false,eh,dI,bz,if_false];cases i with
    |zero=>exact absurd (show prev l 0<l[0] by rw[prev_zero]; omega) hc
    |succ j=>
      rw[sj l j (by omega)] at hc;have hj:j<l.length:=by omega
      have Xb:(j:Int)<l.length:=by omega
      have Xh:l[j+1]<=l[j]:=by omega
      have hp:(0:Int)<(j:Int)+1:=by omega
      have IL:(0:Int)<=(j:Int)+1:=by omega
      have hw2:=yR (i:=j) (by omega);have h1:(j:Int)+1<l.length:=by omega
      exact dp (by unfold Ac; simp[wR,wQ,wP,wO,wN,h1,bD,ha,hb,Xh,hj,Xb,hp,IL,hw2,af,aM,idx])
theorem WM (m:Int) (l:List Int) (hl:l.length<=9223372036854775807):bp aq MP [.list 1 (ints l),.int .i64 m] []=some (.bool (n8 m (-1) l),[]):=by
 rw[pM sQb2 (ah rfl)];have h:=HG m l hl l.length 0 (by omega);rw[fi,prev_zero,bY] at h;unfold qQb2 cQb2;by_cases hx:n8 m (-1) l=true
 ·simp[wT,wS,wM,h,hx,af,bk,bf]
 ·simp[wT,wS,wM,h,hx,af,bk,bf]
theorem ZZ (x:Int):bp aq KG [.int .i64 x] []=some (.bool false,[]):=by
 rw[pM sQd1 (ah rfl)];unfold qQd1 cQd1;simp[acZ,acY,bk,bf]
def Vu (x y:Int):Int:=if x<y then -1 else if y<x then 1 else 0
theorem Vt (x y:Int):bp aq KJ [.int .i64 x,.int .i64 y] []=some (.int .i64 (Vu x y),[]):=by
 rw[pM sQb8 (ah rfl)];have hx:=ZZ x;have hy:=ZZ y;unfold qQb8 cQb8 Vu;by_cases h1:x<y
 ·simp[Qu,Qt,Qs,Qr,Qq,Qp,Qo,Qn,Qm,Ql,IA,Iz,Iy,Ix,hx,hy,h1,sQd1,iQd1,bk,bf]
 ·by_cases h2:y<x
  ·simp[Qu,Qt,Qs,Qr,Qq,Qp,Qo,Qn,Qm,Ql,IA,Iz,Iy,Ix,hx,hy,h1,h2,sQd1,iQd1,bk,bf]
  ·simp[Qu,Qt,Qs,Qr,Qq,Qp,Qo,Qn,Qm,Ql,IA,Iz,Iy,Ix,hx,hy,h1,h2,sQd1,iQd1,bk,bf]
theorem HH (t:Nat) (ht:t<=64):∀(n i:Nat),i+n=t->aW aq 0 (.loop aaq) ⟨[(3,.own 1 (ints ((cQ i).map fun i=>((i:Nat):Int)))),(7,.int .i64 t),(8,.int .i64 i)],[]⟩ =
  some (.exit 0,⟨[(3,.own 1 (ints ((cQ t).map fun i=>((i:Nat):Int)))),(7,.int .i64 t),(8,.int .i64 t),(9,.bool false)],[]⟩)
 |0,i,hi=>by
   obtain rfl:i=t:=by omega
   exact bq (by unfold aaq; simp[Oe,Od,Oc,Ob])
 |n+1,i,hi=>by
   have h:(i:Int)<t:=by omega
   have hw:=dM (i:=i) (by omega);have hL:i+1<=4294967296:=by omega
   have ih:=HH t ht n (i+1) (by omega);have e:((cQ (i+1)).map fun i=>((i:Nat):Int))=((cQ i).map fun i=>((i:Nat):Int))++[(i:Int)]:=by rw[List.range_succ,List.map_append]; rfl
   rw[e] at ih;generalize hr:((cQ i).map fun i=>((i:Nat):Int))=r at ih ⊢;have hrl:r.length=i:=by rw[<-hr]; simp
   exact (aS (by unfold aaq; simp[Oe,Od,Oc,Ob,h,hw,hL,hrl,Jh hrl,jx,af,er,cq])).trans ih
theorem Ky (m:Int):bp aq nQM [.int .i64 m] []=some (.list 1 (ints (dN m)),[]):=by
 rw[pM sQM (ah rfl)];have h:=HH (min m.toNat 64) (by omega) (min m.toNat 64) 0 (by omega);rw[fi,List.range_zero,List.map_nil,c8] at h;have hr:(cQ (min m.toNat 64)).map (fun i=>((i:Nat):Int))=dN m:=rfl;rw[hr] at h;unfold qQM cQM;by_cases h0:0 > m
 ·have e:((min m.toNat 64:Nat):Int)=0:=by omega
  rw[e] at h;have h0':m<0:=h0;simp[Oh,Og,Of,Oa,h,h0,af,cq,bk,bf]
 ·have h0':¬m<0:=h0;by_cases h1:(64:Int)<m
  ·have e:((min m.toNat 64:Nat):Int)=64:=by omega
   rw[e] at h;simp[Oh,Og,Of,Oa,h,h0,h1,af,cq,bk,bf]
  ·have e:((min m.toNat 64:Nat):Int)=m:=by omega
   rw[e] at h;simp[Oh,Og,Of,Oa,h,h0,h1,af,cq,bk,bf]
end Go.BmP
