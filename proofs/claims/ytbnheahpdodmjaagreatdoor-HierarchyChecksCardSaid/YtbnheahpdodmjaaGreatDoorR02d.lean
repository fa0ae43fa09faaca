/- What functions of cohesionref02 return: Has, Valid, put, Of. -/
import Derived.Test.YtbnheahpdodmjaaGreatDoorUseM
set_option linter.unusedSimpArgs false
set_option linter.unusedVariables false
set_option maxRecDepth 100000
open Bool renaming false_and → jc, false_eq_true → bk, true_and → jb
open List renaming append_assoc → dJ, append_nil → jv, drop_eq_getElem_cons → bg, drop_eq_nil_of_le → Bj, drop_length → bY, drop_zero → ct, filter_cons → MI, getElem?_eq_getElem → ai, length_append → bK, length_cons → cc, length_drop → eQ, length_nil → eH, length_singleton → r9, length_take → bw, mem_filter → fK, nil_append → sI, range → eF, singleton_append → Vj, take_of_length_le → aK
open Nat renaming le_of_ble_eq_true → aB
open Option renaming getD_some → dY
namespace Go.BmP
open Go.Am Go.Bm
theorem T3 (x:Int) (l:List Int) (hl:l.length<4294967297):∀n i:Nat,i+n=l.length->aY an 0 (.loop Tq) ⟨[(1,.int .i64 x),(7,.list 1 (ints l)),(8,.int .i64 l.length),(9,.int .i64 i)],[]⟩ =
  if x∈l.drop i then some (.ret,⟨[(4,.bool true)],[]⟩) else some (.exit 0,⟨[(1,.int .i64 x),(7,.list 1 (ints l)),(8,.int .i64 l.length),(9,.int .i64 l.length),(10,.bool false)],[]⟩)
 |0,i,hi=>by
   have e:i=l.length:=by omega
   subst e;rw[bY];exact bt (by unfold Tq; simp[N3,N0,NZ,NY,NX,NW,NV,NU])
 |n+1,i,hi=>by
   have bF:i<l.length:=by omega
   have h1:(i:Int)<l.length:=by omega
   have ih:=T3 x l hl n (i+1) (by omega);have hw:=dO (i:=i) (by omega);rw[bg bF];by_cases hx:l[i]=x
   ·rw[if_pos (by simp[hx])];exact cZ (by unfold Tq; simp[N3,N0,NZ,NY,NX,NW,NV,NU,h1,bF,hx,ah,aN,aZ,idx])
   ·have hx2:¬x=l[i]:=fun e=>hx e.symm;simp only[List.mem_cons,hx2,false_or];exact (aV (by unfold Tq; simp[N3,N0,NZ,NY,NX,NW,NV,NU,h1,bF,hx,hw,ah,aN,aZ,idx])).trans ih
theorem wV (x:Int) (l:List Int) (hl:l.length<4294967297):bu an nQN [.list 1 (ints l),.int .i64 x] []=some (.bool (decide (x∈l)),[]):=by
 rw[eO sQN (aB rfl)];have h:=T3 x l hl l.length 0 (by omega);rw[fU,ct] at h;unfold qQN cQN;by_cases hx:x∈l
 ·simp[N3,N0,NZ,NY,NX,NW,NV,NU,h,hx,ah,bM,bI]
 ·simp[N3,N0,NZ,NY,NX,NW,NV,NU,h,hx,ah,bM,bI]
theorem IY (m:Int) (l:List Int) (hl:l.length<=9223372036854775807):∀n i:Nat,i+n=l.length->aY an 0 (.loop HK) ⟨[(0,.list 1 (ints l)),(1,.int .i64 m),(7,.list 1 (ints l)),(8,.int .i64 l.length),(9,.int .i64 i)],[]⟩ =
  if sa m (prev l i) (l.drop i)=true then some (.exit 0,⟨[(0,.list 1 (ints l)),(1,.int .i64 m),(7,.list 1 (ints l)),(8,.int .i64 l.length),(9,.int .i64 l.length),(10,.bool false)],[]⟩) else some (.ret,⟨[(4,.bool false)],[]⟩)
 |0,i,hi=>by
   have e:i=l.length:=by omega
   subst e;rw[bY];exact bt (by unfold HK; simp[DF,DE,DD,DC,DB,DA,Dz,Dy])
 |n+1,i,hi=>by
   have bF:i<l.length:=by omega
   have h1:(i:Int)<l.length:=by omega
   have ih:=IY m l hl n (i+1) (by omega);have hw:=dO (i:=i) (by omega);rw[sU l i bF] at ih;rw[bg bF];unfold sa;by_cases ha:l[i]<0
   ·have IK:¬0<=l[i]:=by omega
    simp only[IK,decide_false,jc,bk,if_false];exact cZ (by unfold HK; simp[DF,DE,DD,DC,DB,DA,Dz,Dy,h1,bF,ha,ah,aN,aZ,idx])
   have IK:0<=l[i]:=by omega
   by_cases hb:m<=l[i]
   ·have iE:¬l[i]<m:=by omega
    simp only[IK,iE,decide_true,decide_false,jc,jb,bk,if_false];exact cZ (by unfold HK; simp[DF,DE,DD,DC,DB,DA,Dz,Dy,h1,bF,ha,hb,ah,aN,aZ,idx])
   have iE:l[i]<m:=by omega
   by_cases hc:prev l i<l[i]
   ·simp only[IK,iE,hc,decide_true,jb];cases i with
    |zero=>exact (aV (by unfold HK; simp[DF,DE,DD,DC,DB,DA,Dz,Dy,h1,bF,ha,hb,hw,ah,aN,aZ,idx])).trans ih
    |succ j=>
      rw[sU l j (by omega)] at hc;have hj:j<l.length:=by omega
      have U8:(j:Int)<l.length:=by omega
      have hc':¬l[j+1]<=l[j]:=by omega
      have hp:(0:Int)<(j:Int)+1:=by omega
      have OB:(0:Int)<=(j:Int)+1:=by omega
      have U5:=yL (i:=j) (by omega);have h1:(j:Int)+1<l.length:=by omega
      have hw:IntKind.i64.wrap ((j:Int)+1+1)=(j:Int)+1+1:=Nf (j:=j+1+1) rfl (by omega);exact (aV (by unfold HK; simp[DF,DE,DD,DC,DB,DA,Dz,Dy,h1,bF,ha,hb,hc',hj,U8,hp,OB,hw,U5,ah,aN,aZ,idx])).trans ih
   ·simp only[IK,iE,hc,decide_true,decide_false,jc,jb,bk,if_false];cases i with
    |zero=>exact absurd (show prev l 0<l[0] by rw[prev_zero]; omega) hc
    |succ j=>
      rw[sU l j (by omega)] at hc;have hj:j<l.length:=by omega
      have U8:(j:Int)<l.length:=by omega
      have hc':l[j+1]<=l[j]:=by omega
      have hp:(0:Int)<(j:Int)+1:=by omega
      have OB:(0:Int)<=(j:Int)+1:=by omega
      have U5:=yL (i:=j) (by omega);have h1:(j:Int)+1<l.length:=by omega
      have hw:IntKind.i64.wrap ((j:Int)+1+1)=(j:Int)+1+1:=Nf (j:=j+1+1) rfl (by omega);exact cZ (by unfold HK; simp[DF,DE,DD,DC,DB,DA,Dz,Dy,h1,bF,ha,hb,hc',hj,U8,hp,OB,hw,U5,ah,aN,aZ,idx])
theorem abp (m:Int) (l:List Int) (hl:l.length<=9223372036854775807):bu an nQy [.list 1 (ints l),.int .i64 m] []=some (.bool (sa m (-1) l),[]):=by
 rw[eO sQy (aB rfl)];have h:=IY m l hl l.length 0 (by omega);rw[fU,prev_zero,ct] at h;unfold qQy cQy;by_cases hx:sa m (-1) l=true
 ·simp[DF,DE,DD,DC,DB,DA,Dz,Dy,h,hx,ah,bM,bI]
 ·simp[DF,DE,DD,DC,DB,DA,Dz,Dy,h,hx,ah,bM,bI]
theorem Se (x:Int) (l:List Int) (hl:l.length<4294967296):∀n i:Nat,i+n=l.length->aY an 0 (.loop K8) ⟨[(0,.list 1 (ints l)),(1,.int .i64 x),(5,.int .i64 i)],[]⟩ =
  some (.exit 0,⟨[(0,.list 1 (ints l)),(1,.int .i64 x),(5,.int .i64 (i+pos x (l.drop i):Nat)),(18,.bool false)],[]⟩)
 |0,i,hi=>by
   have e:i=l.length:=by omega
   subst e;rw[bY];exact bt (by unfold K8; simp[Cr,Cq,Cp,Co,Cn,Cm,Cl,Ck,pos,ah,idx])
 |n+1,i,hi=>by
   have bF:i<l.length:=by omega
   have h1:(i:Int)<l.length:=by omega
   have ih:=Se x l hl n (i+1) (by omega);have hw:=dO (i:=i) (by omega);rw[bg bF];unfold pos;by_cases hx:l[i]<x
   ·have e:i+(pos x (l.drop (i+1))+1)=i+1+pos x (l.drop (i+1)):=by omega
    rw[if_pos hx,e];exact (aV (by unfold K8; simp[Cr,Cq,Cp,Co,Cn,Cm,Cl,Ck,h1,bF,hx,hw,ah,aN,aZ,idx])).trans ih
   ·rw[if_neg hx];exact bt (by unfold K8; simp[Cr,Cq,Cp,Co,Cn,Cm,Cl,Ck,h1,bF,hx,ah,aN,aZ,idx])
/- What functions of cohesionref02 return: put, Of, Range, Union, Meet, Minus, Within, Cmp, Same. -/
theorem ZE (x:Int) (l:List Int) (hl:l.length<4294967295):bu an Wh [.list 1 (ints l),.int .i64 x] []=some (.list 1 (ints (tl x l)),[]):=by
 rw[eO sQb0 (aB rfl),Sf];have h:=Se x l (by omega) l.length 0 (by omega);rw[fU,ct,Nat.zero_add] at h;have hp:=adt x l;generalize pos x l=p at h hp ⊢;have hq:(p:Int)<=l.length:=by omega
 have hm:min p l.length=p:=by omega
 have hL1:p<=4294967296:=by omega
 have hL2:p+1<=4294967296:=by omega
 have hL3:p+1+(l.length-p)<=4294967296:=by omega
 unfold qQb0 cQb0;by_cases bF:p<l.length
 ·have h1:(p:Int)<l.length:=by omega
  by_cases hx:l[p]=x
  ·rw[if_pos (by rw[ai bF,hx])];simp[Cr,Cq,Cp,Co,Cn,Cm,Cl,Ck,h,h1,bF,hx,ah,aN,aZ,idx,bM,bI]
  ·rw[if_neg (by rw[ai bF]; simpa using hx)];simp[Cr,Cq,Cp,Co,Cn,Cm,Cl,Ck,h,h1,bF,hx,hp,hq,hm,hL1,hL2,hL3,ah,aN,aZ,idx,bM,bI,cO,fZ,dZ,TD,lU,bw,eQ];simp (disch:=(simp only[bw,bK,eQ,r9,cc,eH]<;>omega)) only[aK,List.take_take,Nat.min_self,dJ,Vj]
 ·have h1:¬(p:Int)<l.length:=by omega
  rw[if_neg (by rw[List.getElem?_eq_none (by omega)]; simp)];simp[Cr,Cq,Cp,Co,Cn,Cm,Cl,Ck,h,h1,bF,hp,hq,hm,hL1,hL2,hL3,ah,aN,aZ,idx,bM,bI,cO,fZ,dZ,TD,lU,bw,eQ];simp (disch:=(simp only[bw,bK,eQ,r9,cc,eH]<;>omega)) only[aK,List.take_take,Nat.min_self,dJ,Vj]
theorem aac (l:List Int) (hl:l.length<4294967295):∀(n i:Nat) (o:List Int),i+n=l.length->o.length<=i->aY an 0 (.loop Ld) ⟨[(3,.list 1 (ints o)),(6,.list 1 (ints l)),(7,.int .i64 l.length),(8,.int .i64 i)],[]⟩ =
  some (.exit 0,⟨[(3,.list 1 (ints ((l.drop i).foldl (fun o x=>tl x o) o))),(6,.list 1 (ints l)),(7,.int .i64 l.length),(8,.int .i64 l.length),(9,.bool false)],[]⟩)
 |0,i,o,hi,ho=>by
   have e:i=l.length:=by omega
   subst e;rw[bY];exact bt (by unfold Ld; simp[Kr,Kp,Ko,Kn,Km,Kl,Kk,Kj])
 |n+1,i,o,hi,ho=>by
   have bF:i<l.length:=by omega
   have h1:(i:Int)<l.length:=by omega
   have hw:=dO (i:=i) (by omega);have hp:=ZE l[i] o (by omega);have oi:=Sg l[i] o;have ih:=aac l hl n (i+1) (tl l[i] o) (by omega) (by omega);rw[bg bF,List.foldl_cons];exact (aV (by unfold Ld; simp[Kr,Kp,Ko,Kn,Km,Kl,Kk,Kj,h1,bF,hw,hp,sQb0,iQb0,ah,aN,aZ,idx])).trans ih
theorem ad4 (l:List Int) (hl:l.length<4294967295):aY an 0 (.loop Ld) ⟨[(3,.own 1 []),(6,.list 1 (ints l)),(7,.int .i64 l.length),(8,.int .i64 0)],[]⟩ =
  some (.exit 0,⟨[(3,if l=[] then .own 1 [] else .list 1 (ints (dw l))),(6,.list 1 (ints l)),(7,.int .i64 l.length),(8,.int .i64 l.length),(9,.bool false)],[]⟩):=by
 cases l with
 |nil=>exact bt (by unfold Ld; simp[Kr,Kp,Ko,Kn,Km,Kl,Kk,Kj,dE])
 |cons a r=>
   have hp:=ZE a [] (by simp);have ih:=aac (a::r) hl r.length 1 (tl a []) (by simp; omega) (by simp[tl]);rw[<-akE,if_neg (by simp)];rw[dE] at hp;refine (aV (s':=⟨[(3,.list 1 (ints (tl a []))),(6,.list 1 (ints (a::r))),(7,.int .i64 (a::r).length),(8,.int .i64 ((1:Nat):Int))],[]⟩) ?_).trans (ih.trans ?_)
   ·have h1:(0:Int)<(r.length:Int)+1:=by omega
    unfold Ld;simp[Kr,Kp,Ko,Kn,Km,Kl,Kk,Kj,h1,hp,sQb0,iQb0,ah,jV,idx]
   ·rfl
theorem PV (l:List Int) (hl:l.length<4294967295):bu an nQ9 [.list 1 (ints l)] []=some (.list 1 (ints (dw l)),[]):=by
 rw[eO sQ9 (aB rfl)];have h:=ad4 l hl;unfold qQ9 cQ9;by_cases hx:l=[]
 ·subst hx;rw[if_pos rfl] at h;simp only[dE,eH,fU] at h;simp[Kr,Kp,Ko,Kn,Km,Kl,Kk,Kj,h,dE,bM,bI];rfl
 ·rw[if_neg hx] at h;simp[Kr,Kp,Ko,Kn,Km,Kl,Kk,Kj,h,ah,bM,bI]
theorem FB (l b:List Int) (hl:l.length<4294967295) (hb:b.length<4294967295):∀(n i:Nat) (o:List Int),i+n=l.length->o.length<=i->aY an 0 (.loop Tw) ⟨[(1,.list 1 (ints b)),(5,.own 1 (ints o)),(9,.list 1 (ints l)),(10,.int .i64 l.length),(11,.int .i64 i)],[]⟩ =
  some (.exit 0,⟨[(1,.list 1 (ints b)),(5,.own 1 (ints (o++(l.drop i).filter fun x=>decide (x∈b)))),(9,.list 1 (ints l)),(10,.int .i64 l.length),(11,.int .i64 l.length),(12,.bool false)],[]⟩)
 |0,i,o,hi,ho=>by
   have e:i=l.length:=by omega
   subst e;rw[bY,List.filter_nil,jv];exact bt (by unfold Tw; simp[Sb,Sa,R9,R8,R7,R6,R5,R4,R3])
 |n+1,i,o,hi,ho=>by
   have bF:i<l.length:=by omega
   have h1:(i:Int)<l.length:=by omega
   have hw:=dO (i:=i) (by omega);have hh:=wV l[i] b (by omega);have hL:o.length+1<=4294967296:=by omega
   rw[bg bF,MI];by_cases hx:l[i]∈b
   ·have ih:=FB l b hl hb n (i+1) (o++[l[i]]) (by omega) (by simp; omega);rw[dJ] at ih;rw[if_pos (by simpa using hx)];exact (aV (by unfold Tw; simp[Sb,Sa,R9,R8,R7,R6,R5,R4,R3,h1,bF,hw,hh,hx,hL,lU,sQN,iQN,ah,aN,aZ,idx,dZ,cO])).trans ih
   ·have ih:=FB l b hl hb n (i+1) o (by omega) (by omega);rw[if_neg (by simpa using hx)];exact (aV (by unfold Tw; simp[Sb,Sa,R9,R8,R7,R6,R5,R4,R3,h1,bF,hw,hh,hx,hL,lU,sQN,iQN,ah,aN,aZ,idx,dZ,cO])).trans ih
theorem SR (a b:List Int) (ha:a.length<4294967295) (hb:b.length<4294967295):bu an nQ7 [.list 1 (ints a),.list 1 (ints b)] []=some (.own 1 (ints (meet a b)),[]):=by
 rw[eO sQ7 (aB rfl)];have hs:=nM a;have h:=FB (dw a) b (by omega) hb (dw a).length 0 [] (by omega) (by simp);have ho:=PV a ha;have e:(dw a).filter (fun x=>decide (x∈b))=meet a b:=ta ((gI a).1.filter _) (sX _ _).1 fun x=>by rw[(sX _ _).2,fK,(gI _).2]; simp
 rw[fU,ct,sI,e,dE] at h;unfold qQ7 cQ7;simp[Sb,Sa,R9,R8,R7,R6,R5,R4,R3,h,ho,lU,dE,ah,cO,bM,bI,v7,K1,Nr,Nq,sQ9,iQ9]
theorem CL (l b:List Int) (hl:l.length<4294967295) (hb:b.length<4294967295):∀(n i:Nat) (o:List Int),i+n=l.length->o.length<=i->aY an 0 (.loop Tn) ⟨[(1,.list 1 (ints b)),(5,.own 1 (ints o)),(9,.list 1 (ints l)),(10,.int .i64 l.length),(11,.int .i64 i)],[]⟩ =
  some (.exit 0,⟨[(1,.list 1 (ints b)),(5,.own 1 (ints (o++(l.drop i).filter fun x=>!decide (x∈b)))),(9,.list 1 (ints l)),(10,.int .i64 l.length),(11,.int .i64 l.length),(12,.bool false)],[]⟩)
 |0,i,o,hi,ho=>by
   have e:i=l.length:=by omega
   subst e;rw[bY,List.filter_nil,jv];exact bt (by unfold Tn; simp[RT,RS,RR,RQ,RP,RO,RN,RM,RL])
 |n+1,i,o,hi,ho=>by
   have bF:i<l.length:=by omega
   have h1:(i:Int)<l.length:=by omega
   have hw:=dO (i:=i) (by omega);have hh:=wV l[i] b (by omega);have hL:o.length+1<=4294967296:=by omega
   rw[bg bF,MI];by_cases hx:l[i]∈b
   ·have ih:=CL l b hl hb n (i+1) o (by omega) (by omega);rw[if_neg (by simpa using hx)];exact (aV (by unfold Tn; simp[RT,RS,RR,RQ,RP,RO,RN,RM,RL,h1,bF,hw,hh,hx,hL,lU,sQN,iQN,ah,aN,aZ,idx,dZ,cO])).trans ih
   ·have ih:=CL l b hl hb n (i+1) (o++[l[i]]) (by omega) (by simp; omega);rw[dJ] at ih;rw[if_pos (by simpa using hx)];exact (aV (by unfold Tn; simp[RT,RS,RR,RQ,RP,RO,RN,RM,RL,h1,bF,hw,hh,hx,hL,lU,sQN,iQN,ah,aN,aZ,idx,dZ,cO])).trans ih
theorem Oj (a b:List Int) (ha:a.length<4294967295) (hb:b.length<4294967295):bu an nQQ [.list 1 (ints a),.list 1 (ints b)] []=some (.list 1 (ints (minus a b)),[]):=by
 rw[eO sQQ (aB rfl)];have hs:=nM a;have h:=CL (dw a) b (by omega) hb (dw a).length 0 [] (by omega) (by simp);have ho:=PV a ha;have e:(dw a).filter (fun x=>!decide (x∈b))=minus a b:=ta ((gI a).1.filter _) (nG _ _).1 fun x=>by rw[(nG _ _).2,fK,(gI _).2]; simp
 rw[fU,ct,sI,e,dE] at h;unfold qQQ cQQ;simp[RT,RS,RR,RQ,RP,RO,RN,RM,RL,h,ho,lU,dE,ah,cO,bM,bI,sQ9,iQ9]
theorem Gh (l b:List Int) (hl:l.length<4294967295) (hb:b.length<4294967295):∀(n i:Nat),i+n=l.length->aY an 0 (.loop Tc) ⟨[(1,.list 1 (ints b)),(7,.list 1 (ints l)),(8,.int .i64 l.length),(9,.int .i64 i)],[]⟩ =
  if (l.drop i).all (fun x=>decide (x∈b))=true then some (.exit 0,⟨[(1,.list 1 (ints b)),(7,.list 1 (ints l)),(8,.int .i64 l.length),(9,.int .i64 l.length),(10,.bool false)],[]⟩) else some (.ret,⟨[(4,.bool false)],[]⟩)
 |0,i,hi=>by
   have e:i=l.length:=by omega
   subst e;rw[bY,List.all_nil,if_pos rfl];exact bt (by unfold Tc; simp[NJ,NI,NH,NG,NF,ND,NC,NB])
 |n+1,i,hi=>by
   have bF:i<l.length:=by omega
   have h1:(i:Int)<l.length:=by omega
   have hw:=dO (i:=i) (by omega);have hh:=wV l[i] b (by omega);rw[bg bF,List.all_cons];by_cases hx:l[i]∈b
   ·have ih:=Gh l b hl hb n (i+1) (by omega);simp only[hx,decide_true,jb];exact (aV (by unfold Tc; simp[NJ,NI,NH,NG,NF,ND,NC,NB,h1,bF,hw,hh,hx,sQN,iQN,ah,aN,aZ,idx])).trans ih
   ·simp only[hx,decide_false,jc,bk,if_false];exact cZ (by unfold Tc; simp[NJ,NI,NH,NG,NF,ND,NC,NB,h1,bF,hw,hh,hx,sQN,iQN,ah,aN,aZ,idx])
theorem IX (a b:List Int) (ha:a.length<4294967295) (hb:b.length<4294967295):bu an nQq [.list 1 (ints a),.list 1 (ints b)] []=some (.bool (a.all fun x=>decide (x∈b)),[]):=by
 rw[eO sQq (aB rfl)];have h:=Gh a b ha hb a.length 0 (by omega);rw[fU,ct] at h;unfold qQq cQq;cases hx:a.all fun x=>decide (x∈b)
 ·rw[hx] at h;simp[NJ,NI,NH,NG,NF,ND,NC,NB,h,ah,bM,bI]
 ·rw[hx] at h;simp[NJ,NI,NH,NG,NF,ND,NC,NB,h,ah,bM,bI]
def jg (n:Int):List Int:=(eF (min n.toNat 64)).map fun i=>((i:Nat):Int)
theorem Jh (m:Int):∀(n i:Nat),i+n=min m.toNat 64->aY an 0 (.loop Tp) ⟨[(0,.int .i64 m),(3,.own 1 (ints ((eF i).map fun i=>((i:Nat):Int)))),(4,.int .i64 i)],[]⟩ =
  some (.exit 0,⟨[(0,.int .i64 m),(3,.own 1 (ints (jg m))),(4,.int .i64 (min m.toNat 64:Nat)),(11,.bool false)],[]⟩)
 |0,i,hi=>by
   have e:i=min m.toNat 64:=by omega
   have e2:((eF i).map fun i=>((i:Nat):Int))=jg m:=by rw[e]; rfl
   rw[e2,<-e];by_cases h:(i:Int)<m
   ·have h2:¬(i:Int)<64:=by omega
    exact bt (by unfold Tp; simp[R0,RZ,RY,RX,RW,RV,RU,h,h2])
   ·exact bt (by unfold Tp; simp[R0,RZ,RY,RX,RW,RV,RU,h])
 |n+1,i,hi=>by
   have h:(i:Int)<m:=by omega
   have h2:(i:Int)<64:=by omega
   have hw:=dO (i:=i) (by omega);have hL:i+1<=4294967296:=by omega
   have ih:=Jh m n (i+1) (by omega);have e:((eF (i+1)).map fun i=>((i:Nat):Int))=((eF i).map fun i=>((i:Nat):Int))++[(i:Int)]:=by rw[List.range_succ,List.map_append]; rfl
   rw[e] at ih;generalize hr:((eF i).map fun i=>((i:Nat):Int))=r at ih ⊢;have hrl:r.length=i:=by rw[<-hr]; simp
   exact (aV (by unfold Tp; simp[R0,RZ,RY,RX,RW,RV,RU,h,h2,hw,hL,hrl,Vt hrl,lU,ah,dZ,cO])).trans ih
theorem NA (m:Int):bu an nQO [.int .i64 m] []=some (.list 1 (ints (jg m)),[]):=by
 rw[eO sQO (aB rfl)];have h:=Jh m (min m.toNat 64) 0 (by omega);rw[fU,List.range_zero,List.map_nil,dE] at h;unfold qQO cQO;simp[R0,RZ,RY,RX,RW,RV,RU,h,ah,cO,bM,bI]
/- What comparisons return; nodeset.Valid, Has, Cmp, Range. -/
def kc:List Int->List Int->Option Int
 |[],_=>none
 |_::_,[]=>some 1
 |x::r,y::s=>if y<x then some 1 else if x<y then some (-1) else kc r s
theorem Be:∀a b:List Int,ja a b=(kc a b).getD (if a.length<b.length then -1 else 0)
 |[],[]=>rfl
 |[],_::_=>by simp[ja,kc]
 |_::_,[]=>rfl
 |x::r,y::s=>by
   have ih:=Be r s;unfold ja kc;split
   ·rfl
   ·split
    ·rfl
    ·rw[ih]; simp
theorem Uu (a b:List Int) (hl:a.length<=9223372036854775807) (hb:b.length<=9223372036854775807):∀(n i:Nat),i+n=a.length->aY an 0 (.loop Lb) ⟨[(0,.list 1 (ints a)),(1,.list 1 (ints b)),(7,.int .i64 a.length),(8,.int .i64 i)],[]⟩ =
  match kc (a.drop i) (b.drop i) with
  |some v=>some (.ret,⟨[(4,.int .i64 v)],[]⟩)
  |none=>some (.exit 0,⟨[(0,.list 1 (ints a)),(1,.list 1 (ints b)),(7,.int .i64 a.length),(8,.int .i64 a.length),(9,.bool false)],[]⟩)
 |0,i,hi=>by
   have e:i=a.length:=by omega
   subst e;rw[bY];unfold kc;exact bt (by unfold Lb; simp[DX,DW,DV,DU,DT,DS,DR,DQ,DP,DO,wA,wz])
 |n+1,i,hi=>by
   have bF:i<a.length:=by omega
   have h1:(i:Int)<a.length:=by omega
   have hw:=dO (i:=i) (by omega);have ih:=Uu a b hl hb n (i+1) (by omega);rw[bg bF];by_cases hk:i<b.length
   ·have h2:(i:Int)<b.length:=by omega
    have E6:¬(b.length:Int)<=i:=by omega
    rw[bg hk];unfold kc;by_cases hg:b[i]<a[i]
    ·rw[if_pos hg];exact cZ (by unfold Lb; simp[DX,DW,DV,DU,DT,DS,DR,DQ,DP,DO,wA,wz,h1,bF,h2,E6,hk,hg,ah,aN,aZ,idx])
    ·rw[if_neg hg];by_cases hs:a[i]<b[i]
     ·rw[if_pos hs];exact cZ (by unfold Lb; simp[DX,DW,DV,DU,DT,DS,DR,DQ,DP,DO,wA,wz,h1,bF,h2,E6,hk,hg,hs,ah,aN,aZ,idx])
     ·rw[if_neg hs];exact (aV (by unfold Lb; simp[DX,DW,DV,DU,DT,DS,DR,DQ,DP,DO,wA,wz,h1,bF,h2,E6,hk,hg,hs,hw,ah,aN,aZ,idx])).trans ih
   ·have E6:(b.length:Int)<=i:=by omega
    have e0:b.drop i=[]:=Bj (by omega);rw[e0];unfold kc;exact cZ (by unfold Lb; simp[DX,DW,DV,DU,DT,DS,DR,DQ,DP,DO,wA,wz,h1,bF,E6,hk,ah,aN,aZ,idx])
theorem aa3 (a b:List Int) (hl:a.length<=9223372036854775807) (hb:b.length<=9223372036854775807):bu an nQG [.list 1 (ints a),.list 1 (ints b)] []=some (.int .i64 (ja a b),[]):=by
 rw[eO sQG (aB rfl),Be];have h:=Uu a b hl hb a.length 0 (by omega);rw[fU,ct,ct] at h;unfold qQG cQG;cases hx:kc a b with
 |some v=>
   rw[hx] at h;simp only at h;rw[dY];simp[DX,DW,DV,DU,DT,DS,DR,DQ,DP,DO,wA,wz,h,ah,bM,bI]
 |none=>
   rw[hx] at h;simp only at h;rw[Option.getD_none];by_cases bF:a.length<b.length
   ·have h1:(a.length:Int)<b.length:=by omega
    simp[DX,DW,DV,DU,DT,DS,DR,DQ,DP,DO,wA,wz,h,bF,h1,ah,bM,bI]
   ·have h1:¬(a.length:Int)<b.length:=by omega
    simp[DX,DW,DV,DU,DT,DS,DR,DQ,DP,DO,wA,wz,h,bF,h1,ah,bM,bI]
theorem Ro (a b:List Int) (hl:a.length<4294967295) (hb:b.length<4294967295):bu an nQk [.list 1 (ints a),.list 1 (ints b)] []=some (.bool (decide (a=b)),[]):=by
 rw[eO sQk (aB rfl)];have h:=aa3 a b (by omega) (by omega);unfold qQk cQk;by_cases bF:a.length=b.length
 ·have h1:(a.length:Int)=b.length:=by omega
  by_cases he:a=b
  ·have hc:=Bd.2 he;rw[hc] at h;subst he;simp[Yt,Ys,h,sQG,iQG,ah,bM,bI]
  ·have hc:¬ja a b=0:=fun e=>he (Bd.1 e);simp[Yt,Ys,h,h1,he,hc,sQG,iQG,ah,bM,bI]
 ·have h1:¬(a.length:Int)=b.length:=by omega
  have he:¬a=b:=fun e=>bF (e▸rfl);simp[Yt,Ys,h1,he,ah,bM,bI]
theorem HF (m:Int) (l:List Int) (hl:l.length<=9223372036854775807):∀n i:Nat,i+n=l.length->aY an 0 (.loop HM) ⟨[(0,.list 1 (ints l)),(1,.int .i64 m),(7,.list 1 (ints l)),(8,.int .i64 l.length),(9,.int .i64 i)],[]⟩ =
  if sa m (prev l i) (l.drop i)=true then some (.exit 0,⟨[(0,.list 1 (ints l)),(1,.int .i64 m),(7,.list 1 (ints l)),(8,.int .i64 l.length),(9,.int .i64 l.length),(10,.bool false)],[]⟩) else some (.ret,⟨[(4,.bool false)],[]⟩)
 |0,i,hi=>by
   have e:i=l.length:=by omega
   subst e;rw[bY];exact bt (by unfold HM; simp[DN,DM,DL,DK,DJ,DI,DH,DG])
 |n+1,i,hi=>by
   have bF:i<l.length:=by omega
   have h1:(i:Int)<l.length:=by omega
   have ih:=HF m l hl n (i+1) (by omega);have hw:=dO (i:=i) (by omega);rw[sU l i bF] at ih;rw[bg bF];unfold sa;by_cases ha:l[i]<0
   ·have IK:¬0<=l[i]:=by omega
    simp only[IK,decide_false,jc,bk,if_false];exact cZ (by unfold HM; simp[DN,DM,DL,DK,DJ,DI,DH,DG,h1,bF,ha,ah,aN,aZ,idx])
   have IK:0<=l[i]:=by omega
   by_cases hb:m<=l[i]
   ·have iE:¬l[i]<m:=by omega
    simp only[IK,iE,decide_true,decide_false,jc,jb,bk,if_false];exact cZ (by unfold HM; simp[DN,DM,DL,DK,DJ,DI,DH,DG,h1,bF,ha,hb,ah,aN,aZ,idx])
   have iE:l[i]<m:=by omega
   by_cases hc:prev l i<l[i]
   ·simp only[IK,iE,hc,decide_true,jb];cases i with
    |zero=>exact (aV (by unfold HM; simp[DN,DM,DL,DK,DJ,DI,DH,DG,h1,bF,ha,hb,hw,ah,aN,aZ,idx])).trans ih
    |succ j=>
      rw[sU l j (by omega)] at hc;have hj:j<l.length:=by omega
      have U8:(j:Int)<l.length:=by omega
      have hc':¬l[j+1]<=l[j]:=by omega
      have hp:(0:Int)<(j:Int)+1:=by omega
      have OB:(0:Int)<=(j:Int)+1:=by omega
      have U5:=yL (i:=j) (by omega);have h1:(j:Int)+1<l.length:=by omega
      have hw:IntKind.i64.wrap ((j:Int)+1+1)=(j:Int)+1+1:=Nf (j:=j+1+1) rfl (by omega);exact (aV (by unfold HM; simp[DN,DM,DL,DK,DJ,DI,DH,DG,h1,bF,ha,hb,hc',hj,U8,hp,OB,hw,U5,ah,aN,aZ,idx])).trans ih
   ·simp only[IK,iE,hc,decide_true,decide_false,jc,jb,bk,if_false];cases i with
    |zero=>exact absurd (show prev l 0<l[0] by rw[prev_zero]; omega) hc
    |succ j=>
      rw[sU l j (by omega)] at hc;have hj:j<l.length:=by omega
      have U8:(j:Int)<l.length:=by omega
      have hc':l[j+1]<=l[j]:=by omega
      have hp:(0:Int)<(j:Int)+1:=by omega
      have OB:(0:Int)<=(j:Int)+1:=by omega
      have U5:=yL (i:=j) (by omega);have h1:(j:Int)+1<l.length:=by omega
      have hw:IntKind.i64.wrap ((j:Int)+1+1)=(j:Int)+1+1:=Nf (j:=j+1+1) rfl (by omega);exact cZ (by unfold HM; simp[DN,DM,DL,DK,DJ,DI,DH,DG,h1,bF,ha,hb,hc',hj,U8,hp,OB,hw,U5,ah,aN,aZ,idx])
theorem V7 (m:Int) (l:List Int) (hl:l.length<=9223372036854775807):bu an nQu [.list 1 (ints l),.int .i64 m] []=some (.bool (sa m (-1) l),[]):=by
 rw[eO sQu (aB rfl)];have h:=HF m l hl l.length 0 (by omega);rw[fU,prev_zero,ct] at h;unfold qQu cQu;by_cases hx:sa m (-1) l=true
 ·simp[DN,DM,DL,DK,DJ,DI,DH,DG,h,hx,ah,bM,bI]
 ·simp[DN,DM,DL,DK,DJ,DI,DH,DG,h,hx,ah,bM,bI]
theorem Ei (x:Int):bu an vL [.int .i64 x] []=some (.bool false,[]):=by
 rw[eO PE (aB rfl)];unfold VT cQa5;simp[VR,VQ,bM,bI]
def tH (x y:Int):Int:=if x<y then -1 else if y<x then 1 else 0
theorem LS (x y:Int):bu an MA [.int .i64 x,.int .i64 y] []=some (.int .i64 (tH x y),[]):=by
 rw[eO sQZ (aB rfl)];have hx:=Ei x;have hy:=Ei y;unfold qQZ cQZ tH;by_cases h1:x<y
 ·simp[JX,JW,JV,JU,JT,JS,JR,JQ,JP,JO,Cw,Cv,Cu,Ct,hx,hy,h1,PE,Ww,bM,bI]
 ·by_cases h2:y<x
  ·simp[JX,JW,JV,JU,JT,JS,JR,JQ,JP,JO,Cw,Cv,Cu,Ct,hx,hy,h1,h2,PE,Ww,bM,bI]
  ·simp[JX,JW,JV,JU,JT,JS,JR,JQ,JP,JO,Cw,Cv,Cu,Ct,hx,hy,h1,h2,PE,Ww,bM,bI]
theorem vC (a b:List Int) (hl:a.length<4294967295) (hb:b.length<4294967295):∀(n i:Nat),i+n=a.length->aY an 0 (.loop pS) ⟨[(0,.list 1 (ints a)),(1,.list 1 (ints b)),(9,.list 1 (ints a)),(10,.int .i64 a.length),(11,.int .i64 i)],[]⟩ =
  match kc (a.drop i) (b.drop i) with
  |some v=>some (.ret,⟨[(4,.int .i64 v)],[]⟩)
  |none=>some (.exit 0,⟨[(0,.list 1 (ints a)),(1,.list 1 (ints b)),(9,.list 1 (ints a)),(10,.int .i64 a.length),(11,.int .i64 a.length),(12,.bool false)],[]⟩)
 |0,i,hi=>by
   have e:i=a.length:=by omega
   subst e;rw[bY];unfold kc;exact bt (by unfold pS; simp[kD,kC,kB,kA,kz,ku,ks,ko,km,kj,iM,iL,iK,iJ])
 |n+1,i,hi=>by
   have bF:i<a.length:=by omega
   have h1:(i:Int)<a.length:=by omega
   have hw:=dO (i:=i) (by omega);have ih:=vC a b hl hb n (i+1) (by omega);rw[bg bF];by_cases hk:i<b.length
   ·have h2:(i:Int)<b.length:=by omega
    have E6:¬(b.length:Int)<=i:=by omega
    have hc:=LS a[i] b[i];rw[bg hk];unfold kc;by_cases hg:b[i]<a[i]
    ·have Qq:¬a[i]<b[i]:=by omega
     have e:tH a[i] b[i]=1:=by unfold tH; rw[if_neg Qq,if_pos hg]
     rw[e] at hc;rw[if_pos hg];exact cZ (by unfold pS; simp[kD,kC,kB,kA,kz,ku,ks,ko,km,kj,iM,iL,iK,iJ,h1,bF,h2,E6,hk,hc,sQZ,iQZ,ah,aN,aZ,idx])
    ·rw[if_neg hg];by_cases hs:a[i]<b[i]
     ·have e:tH a[i] b[i]=-1:=by unfold tH; rw[if_pos hs]
      rw[e] at hc;rw[if_pos hs];exact cZ (by unfold pS; simp[kD,kC,kB,kA,kz,ku,ks,ko,km,kj,iM,iL,iK,iJ,h1,bF,h2,E6,hk,hc,sQZ,iQZ,ah,aN,aZ,idx])
     ·have e:tH a[i] b[i]=0:=by unfold tH; rw[if_neg hs,if_neg hg]
      rw[e] at hc;rw[if_neg hs];exact (aV (by unfold pS; simp[kD,kC,kB,kA,kz,ku,ks,ko,km,kj,iM,iL,iK,iJ,h1,bF,h2,E6,hk,hc,hw,sQZ,iQZ,ah,aN,aZ,idx])).trans ih
   ·have E6:(b.length:Int)<=i:=by omega
    have e0:b.drop i=[]:=Bj (by omega);rw[e0];unfold kc;exact cZ (by unfold pS; simp[kD,kC,kB,kA,kz,ku,ks,ko,km,kj,iM,iL,iK,iJ,h1,bF,E6,hk,ah,aN,aZ,idx])
theorem Jd (a b:List Int) (hl:a.length<4294967295) (hb:b.length<4294967295):bu an wI [.list 1 (ints a),.list 1 (ints b)] []=some (.int .i64 (ja a b),[]):=by
 rw[eO sQa6 (aB rfl),Be];have h:=vC a b hl hb a.length 0 (by omega);rw[fU,ct,ct] at h;unfold VS cQa6;cases hx:kc a b with
 |some v=>
   rw[hx] at h;simp only at h;rw[dY];simp[kD,kC,kB,kA,kz,ku,ks,ko,km,kj,iM,iL,iK,iJ,h,ah,bM,bI]
 |none=>
   rw[hx] at h;simp only at h;rw[Option.getD_none];by_cases bF:a.length<b.length
   ·have h1:(a.length:Int)<b.length:=by omega
    simp[kD,kC,kB,kA,kz,ku,ks,ko,km,kj,iM,iL,iK,iJ,h,bF,h1,ah,bM,bI]
   ·have h1:¬(a.length:Int)<b.length:=by omega
    simp[kD,kC,kB,kA,kz,ku,ks,ko,km,kj,iM,iL,iK,iJ,h,bF,h1,ah,bM,bI]
theorem Sx (a b:List Int) (hl:a.length<4294967295) (hb:b.length<4294967295):bu an P5 [.list 1 (ints a),.list 1 (ints b)] []=some (.int .i64 (ja a b),[]):=by
 rw[eO sQ0 (aB rfl)];have h:=Jd a b hl hb;unfold qQ0 cQ0;simp[adm,adl,h,sQa6,iQa6,bM,bI]
end Go.BmP
