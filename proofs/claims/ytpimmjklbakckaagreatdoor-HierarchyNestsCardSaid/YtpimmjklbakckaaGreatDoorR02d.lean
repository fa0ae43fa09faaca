/- What functions of cohesionref02 return: Has, Valid, put, Of. -/
import Derived.Test.YtpimmjklbakckaaGreatDoorUseM
set_option linter.unusedSimpArgs false
set_option linter.unusedVariables false
set_option maxRecDepth 100000
open List renaming append_assoc → du, append_nil → ir, drop_eq_getElem_cons → bH, drop_length → cI, drop_zero → dc, getElem?_eq_getElem → aq, length_append → bC, length_cons → cY, length_drop → dT, length_nil → fF, length_singleton → qL, length_take → bj, mem_cons → aO, mem_filter → mM, nil_append → Aq, range → dL, singleton_append → Pr, take_of_length_le → dt
open Nat renaming le_of_ble_eq_true → aF, zero_add → fg
namespace Go.BmP
open Go.Am Go.Bm
theorem Oa (x:Int) (l:List Int) (hl:l.length<4294967297):∀n i:Nat,i+n=l.length->bg aC 0 (.loop Nn) ⟨[(1,.int .i64 x),(7,.list 1 (ints l)),(8,.int .i64 l.length),(9,.int .i64 i)],[]⟩ =
  if x∈l.drop i then some (.ret,⟨[(4,.bool true)],[]⟩) else some (.exit 0,⟨[(1,.int .i64 x),(7,.list 1 (ints l)),(8,.int .i64 l.length),(9,.int .i64 l.length),(10,.bool false)],[]⟩)
 |0,i,hi=>by
   have e:i=l.length:=by omega
   subst e;rw[cI];exact bI (by unfold Nn; simp[IF,IE,ID,IC,IA,Iz,Iy,Ix])
 |n+1,i,hi=>by
   have bQ:i<l.length:=by omega
   have h1:(i:Int)<l.length:=by omega
   have ih:=Oa x l hl n (i+1) (by omega);have hw:=eO (i:=i) (by omega);rw[bH bQ];by_cases hx:l[i]=x
   ·rw[if_pos (by simp[hx])];exact eJ (by unfold Nn; simp[IF,IE,ID,IC,IA,Iz,Iy,Ix,h1,bQ,hx,ah,aU,bm,idx])
   ·have hx2:¬x=l[i]:=fun e=>hx e.symm;simp only[aO,hx2,false_or];exact (bk (by unfold Nn; simp[IF,IE,ID,IC,IA,Iz,Iy,Ix,h1,bQ,hx,hw,ah,aU,bm,idx])).trans ih
theorem KT (x:Int) (l:List Int) (hl:l.length<4294967297):bU aC nQt [.list 1 (ints l),.int .i64 x] []=some (.bool (decide (x∈l)),[]):=by
 rw[fK sQt (aF rfl)];have h:=Oa x l hl l.length 0 (by omega);rw[jJ,dc] at h;unfold qQt cQt;by_cases hx:x∈l
 ·simp[IF,IE,ID,IC,IA,Iz,Iy,Ix,h,hx,ah,cc,bR]
 ·simp[IF,IE,ID,IC,IA,Iz,Iy,Ix,h,hx,ah,cc,bR]
theorem ME (x:Int) (l:List Int) (hl:l.length<4294967296):∀n i:Nat,i+n=l.length->bg aC 0 (.loop NA) ⟨[(0,.list 1 (ints l)),(1,.int .i64 x),(5,.int .i64 i)],[]⟩ =
  some (.exit 0,⟨[(0,.list 1 (ints l)),(1,.int .i64 x),(5,.int .i64 (i+pos x (l.drop i):Nat)),(18,.bool false)],[]⟩)
 |0,i,hi=>by
   have e:i=l.length:=by omega
   subst e;rw[cI];exact bI (by unfold NA; simp[FB,FA,Fz,Fy,Fx,Fw,Fv,Fu,pos,ah,idx])
 |n+1,i,hi=>by
   have bQ:i<l.length:=by omega
   have h1:(i:Int)<l.length:=by omega
   have ih:=ME x l hl n (i+1) (by omega);have hw:=eO (i:=i) (by omega);rw[bH bQ];unfold pos;by_cases hx:l[i]<x
   ·have e:i+(pos x (l.drop (i+1))+1)=i+1+pos x (l.drop (i+1)):=by omega
    rw[if_pos hx,e];exact (bk (by unfold NA; simp[FB,FA,Fz,Fy,Fx,Fw,Fv,Fu,h1,bQ,hx,hw,ah,aU,bm,idx])).trans ih
   ·rw[if_neg hx];exact bI (by unfold NA; simp[FB,FA,Fz,Fy,Fx,Fw,Fv,Fu,h1,bQ,hx,ah,aU,bm,idx])
/- What functions of cohesionref02 return: put, Of, Range, Union, Meet, Minus, Within, Cmp, Same. -/
theorem Ta (x:Int) (l:List Int) (hl:l.length<4294967295):bU aC nQP [.list 1 (ints l),.int .i64 x] []=some (.list 1 (ints (rf x l)),[]):=by
 rw[fK sQP (aF rfl),MF];have h:=ME x l (by omega) l.length 0 (by omega);rw[jJ,dc,fg] at h;have hp:=Ya x l;generalize pos x l=p at h hp ⊢;have hq:(p:Int)<=l.length:=by omega
 have hm:min p l.length=p:=by omega
 have hL1:p<=4294967296:=by omega
 have hL2:p+1<=4294967296:=by omega
 have hL3:p+1+(l.length-p)<=4294967296:=by omega
 unfold qQP cQP;by_cases bQ:p<l.length
 ·have h1:(p:Int)<l.length:=by omega
  by_cases hx:l[p]=x
  ·rw[if_pos (by rw[aq bQ,hx])];simp[FB,FA,Fz,Fy,Fx,Fw,Fv,Fu,h,h1,bQ,hx,ah,aU,bm,idx,cc,bR]
  ·rw[if_neg (by rw[aq bQ]; simpa using hx)];simp[FB,FA,Fz,Fy,Fx,Fw,Fv,Fu,h,h1,bQ,hx,hp,hq,hm,hL1,hL2,hL3,ah,aU,bm,idx,cc,bR,cH,fx,eG,NN,mN,bj,dT];simp (disch:=(simp only[bj,bC,dT,qL,cY,fF]<;>omega)) only[dt,List.take_take,Nat.min_self,du,Pr]
 ·have h1:¬(p:Int)<l.length:=by omega
  rw[if_neg (by rw[List.getElem?_eq_none (by omega)]; simp)];simp[FB,FA,Fz,Fy,Fx,Fw,Fv,Fu,h,h1,bQ,hp,hq,hm,hL1,hL2,hL3,ah,aU,bm,idx,cc,bR,cH,fx,eG,NN,mN,bj,dT];simp (disch:=(simp only[bj,bC,dT,qL,cY,fF]<;>omega)) only[dt,List.take_take,Nat.min_self,du,Pr]
theorem TD (l:List Int) (hl:l.length<4294967295):∀(n i:Nat) (o:List Int),i+n=l.length->o.length<=i->bg aC 0 (.loop Gq) ⟨[(3,.list 1 (ints o)),(6,.list 1 (ints l)),(7,.int .i64 l.length),(8,.int .i64 i)],[]⟩ =
  some (.exit 0,⟨[(3,.list 1 (ints ((l.drop i).foldl (fun o x=>rf x o) o))),(6,.list 1 (ints l)),(7,.int .i64 l.length),(8,.int .i64 l.length),(9,.bool false)],[]⟩)
 |0,i,o,hi,ho=>by
   have e:i=l.length:=by omega
   subst e;rw[cI];exact bI (by unfold Gq; simp[Ff,Fe,Fc,Fb,Fa,E9,E8,E7])
 |n+1,i,o,hi,ho=>by
   have bQ:i<l.length:=by omega
   have h1:(i:Int)<l.length:=by omega
   have hw:=eO (i:=i) (by omega);have hp:=Ta l[i] o (by omega);have mX:=MG l[i] o;have ih:=TD l hl n (i+1) (rf l[i] o) (by omega) (by omega);rw[bH bQ,List.foldl_cons];exact (bk (by unfold Gq; simp[Ff,Fe,Fc,Fb,Fa,E9,E8,E7,h1,bQ,hw,hp,sQP,iQP,ah,aU,bm,idx])).trans ih
theorem YE (l:List Int) (hl:l.length<4294967295):bg aC 0 (.loop Gq) ⟨[(3,.own 1 []),(6,.list 1 (ints l)),(7,.int .i64 l.length),(8,.int .i64 0)],[]⟩ =
  some (.exit 0,⟨[(3,if l=[] then .own 1 [] else .list 1 (ints (dj l))),(6,.list 1 (ints l)),(7,.int .i64 l.length),(8,.int .i64 l.length),(9,.bool false)],[]⟩):=by
 cases l with
 |nil=>exact bI (by unfold Gq; simp[Ff,Fe,Fc,Fb,Fa,E9,E8,E7,dw])
 |cons a r=>
   have hp:=Ta a [] (by simp);have ih:=TD (a::r) hl r.length 1 (rf a []) (by simp; omega) (by simp[rf]);rw[<-afb,if_neg (by simp)];rw[dw] at hp;refine (bk (s':=⟨[(3,.list 1 (ints (rf a []))),(6,.list 1 (ints (a::r))),(7,.int .i64 (a::r).length),(8,.int .i64 ((1:Nat):Int))],[]⟩) ?_).trans (ih.trans ?_)
   ·have h1:(0:Int)<(r.length:Int)+1:=by omega
    unfold Gq;simp[Ff,Fe,Fc,Fb,Fa,E9,E8,E7,h1,hp,sQP,iQP,ah,iU,idx]
   ·rfl
theorem Qa (l:List Int) (hl:l.length<4294967295):bU aC nQu [.list 1 (ints l)] []=some (.list 1 (ints (dj l)),[]):=by
 rw[fK sQu (aF rfl)];have h:=YE l hl;unfold qQu cQu;by_cases hx:l=[]
 ·subst hx;rw[if_pos rfl] at h;simp only[dw,fF,jJ] at h;simp[Ff,Fe,Fc,Fb,Fa,E9,E8,E7,h,dw,cc,bR];rfl
 ·rw[if_neg hx] at h;simp[Ff,Fe,Fc,Fb,Fa,E9,E8,E7,h,ah,cc,bR]
theorem B5 (l b:List Int) (hl:l.length<4294967295) (hb:b.length<4294967295):∀(n i:Nat) (o:List Int),i+n=l.length->o.length<=i->bg aC 0 (.loop Nu) ⟨[(1,.list 1 (ints b)),(5,.own 1 (ints o)),(9,.list 1 (ints l)),(10,.int .i64 l.length),(11,.int .i64 i)],[]⟩ =
  some (.exit 0,⟨[(1,.list 1 (ints b)),(5,.own 1 (ints (o++(l.drop i).filter fun x=>decide (x∈b)))),(9,.list 1 (ints l)),(10,.int .i64 l.length),(11,.int .i64 l.length),(12,.bool false)],[]⟩)
 |0,i,o,hi,ho=>by
   have e:i=l.length:=by omega
   subst e;rw[cI,List.filter_nil,ir];exact bI (by unfold Nu; simp[Mj,Mi,Mh,Mg,Mf,Me,Mc,Mb,Ma])
 |n+1,i,o,hi,ho=>by
   have bQ:i<l.length:=by omega
   have h1:(i:Int)<l.length:=by omega
   have hw:=eO (i:=i) (by omega);have hh:=KT l[i] b (by omega);have hL:o.length+1<=4294967296:=by omega
   rw[bH bQ,List.filter_cons];by_cases hx:l[i]∈b
   ·have ih:=B5 l b hl hb n (i+1) (o++[l[i]]) (by omega) (by simp; omega);rw[du] at ih;rw[if_pos (by simpa using hx)];exact (bk (by unfold Nu; simp[Mj,Mi,Mh,Mg,Mf,Me,Mc,Mb,Ma,h1,bQ,hw,hh,hx,hL,mN,sQt,iQt,ah,aU,bm,idx,eG,cH])).trans ih
   ·have ih:=B5 l b hl hb n (i+1) o (by omega) (by omega);rw[if_neg (by simpa using hx)];exact (bk (by unfold Nu; simp[Mj,Mi,Mh,Mg,Mf,Me,Mc,Mb,Ma,h1,bQ,hw,hh,hx,hL,mN,sQt,iQt,ah,aU,bm,idx,eG,cH])).trans ih
theorem Ge (a b:List Int) (ha:a.length<4294967295) (hb:b.length<4294967295):bU aC nQg [.list 1 (ints a),.list 1 (ints b)] []=some (.list 1 (ints (meet a b)),[]):=by
 rw[fK sQg (aF rfl)];have hs:=kX a;have h:=B5 (dj a) b (by omega) hb (dj a).length 0 [] (by omega) (by simp);have ho:=Qa a ha;have e:(dj a).filter (fun x=>decide (x∈b))=meet a b:=tR ((gh a).1.filter _) (tw _ _).1 fun x=>by rw[(tw _ _).2,mM,(gh _).2]; simp
 rw[jJ,dc,Aq,e,dw] at h;unfold qQg cQg;simp[Mj,Mi,Mh,Mg,Mf,Me,Mc,Mb,Ma,h,ho,mN,dw,ah,cH,cc,bR,sQu,iQu]
theorem zG (l b:List Int) (hl:l.length<4294967295) (hb:b.length<4294967295):∀(n i:Nat) (o:List Int),i+n=l.length->o.length<=i->bg aC 0 (.loop NB) ⟨[(1,.list 1 (ints b)),(5,.own 1 (ints o)),(9,.list 1 (ints l)),(10,.int .i64 l.length),(11,.int .i64 i)],[]⟩ =
  some (.exit 0,⟨[(1,.list 1 (ints b)),(5,.own 1 (ints (o++(l.drop i).filter fun x=>!decide (x∈b)))),(9,.list 1 (ints l)),(10,.int .i64 l.length),(11,.int .i64 l.length),(12,.bool false)],[]⟩)
 |0,i,o,hi,ho=>by
   have e:i=l.length:=by omega
   subst e;rw[cI,List.filter_nil,ir];exact bI (by unfold NB; simp[Ms,Mr,Mq,Mp,Mo,Mn,Mm,Ml,Mk])
 |n+1,i,o,hi,ho=>by
   have bQ:i<l.length:=by omega
   have h1:(i:Int)<l.length:=by omega
   have hw:=eO (i:=i) (by omega);have hh:=KT l[i] b (by omega);have hL:o.length+1<=4294967296:=by omega
   rw[bH bQ,List.filter_cons];by_cases hx:l[i]∈b
   ·have ih:=zG l b hl hb n (i+1) o (by omega) (by omega);rw[if_neg (by simpa using hx)];exact (bk (by unfold NB; simp[Ms,Mr,Mq,Mp,Mo,Mn,Mm,Ml,Mk,h1,bQ,hw,hh,hx,hL,mN,sQt,iQt,ah,aU,bm,idx,eG,cH])).trans ih
   ·have ih:=zG l b hl hb n (i+1) (o++[l[i]]) (by omega) (by simp; omega);rw[du] at ih;rw[if_pos (by simpa using hx)];exact (bk (by unfold NB; simp[Ms,Mr,Mq,Mp,Mo,Mn,Mm,Ml,Mk,h1,bQ,hw,hh,hx,hL,mN,sQt,iQt,ah,aU,bm,idx,eG,cH])).trans ih
theorem V8 (a b:List Int) (ha:a.length<4294967295) (hb:b.length<4294967295):bU aC nQO [.list 1 (ints a),.list 1 (ints b)] []=some (.list 1 (ints (minus a b)),[]):=by
 rw[fK sQO (aF rfl)];have hs:=kX a;have h:=zG (dj a) b (by omega) hb (dj a).length 0 [] (by omega) (by simp);have ho:=Qa a ha;have e:(dj a).filter (fun x=>!decide (x∈b))=minus a b:=tR ((gh a).1.filter _) (rD _ _).1 fun x=>by rw[(rD _ _).2,mM,(gh _).2]; simp
 rw[jJ,dc,Aq,e,dw] at h;unfold qQO cQO;simp[Ms,Mr,Mq,Mp,Mo,Mn,Mm,Ml,Mk,h,ho,mN,dw,ah,cH,cc,bR,sQu,iQu]
theorem CL (l b:List Int) (hl:l.length<4294967295) (hb:b.length<4294967295):∀(n i:Nat),i+n=l.length->bg aC 0 (.loop Nv) ⟨[(1,.list 1 (ints b)),(7,.list 1 (ints l)),(8,.int .i64 l.length),(9,.int .i64 i)],[]⟩ =
  if (l.drop i).all (fun x=>decide (x∈b))=true then some (.exit 0,⟨[(1,.list 1 (ints b)),(7,.list 1 (ints l)),(8,.int .i64 l.length),(9,.int .i64 l.length),(10,.bool false)],[]⟩) else some (.ret,⟨[(4,.bool false)],[]⟩)
 |0,i,hi=>by
   have e:i=l.length:=by omega
   subst e;rw[cI,List.all_nil,if_pos rfl];exact bI (by unfold Nv; simp[IP,IM,IL,IK,IJ,II,IH,IG])
 |n+1,i,hi=>by
   have bQ:i<l.length:=by omega
   have h1:(i:Int)<l.length:=by omega
   have hw:=eO (i:=i) (by omega);have hh:=KT l[i] b (by omega);rw[bH bQ,List.all_cons];by_cases hx:l[i]∈b
   ·have ih:=CL l b hl hb n (i+1) (by omega);simp only[hx,decide_true,Bool.true_and];exact (bk (by unfold Nv; simp[IP,IM,IL,IK,IJ,II,IH,IG,h1,bQ,hw,hh,hx,sQt,iQt,ah,aU,bm,idx])).trans ih
   ·simp only[hx,decide_false,Bool.false_and,Bool.false_eq_true,if_false];exact eJ (by unfold Nv; simp[IP,IM,IL,IK,IJ,II,IH,IG,h1,bQ,hw,hh,hx,sQt,iQt,ah,aU,bm,idx])
theorem PA (a b:List Int) (ha:a.length<4294967295) (hb:b.length<4294967295):bU aC nQf [.list 1 (ints a),.list 1 (ints b)] []=some (.bool (a.all fun x=>decide (x∈b)),[]):=by
 rw[fK sQf (aF rfl)];have h:=CL a b ha hb a.length 0 (by omega);rw[jJ,dc] at h;unfold qQf cQf;cases hx:a.all fun x=>decide (x∈b)
 ·rw[hx] at h;simp[IP,IM,IL,IK,IJ,II,IH,IG,h,ah,cc,bR]
 ·rw[hx] at h;simp[IP,IM,IL,IK,IJ,II,IH,IG,h,ah,cc,bR]
def wj (n:Int):List Int:=(dL (min n.toNat 64)).map fun i=>((i:Nat):Int)
theorem EV (m:Int):∀(n i:Nat),i+n=min m.toNat 64->bg aC 0 (.loop NC) ⟨[(0,.int .i64 m),(3,.own 1 (ints ((dL i).map fun i=>((i:Nat):Int)))),(4,.int .i64 i)],[]⟩ =
  some (.exit 0,⟨[(0,.int .i64 m),(3,.own 1 (ints (wj m))),(4,.int .i64 (min m.toNat 64:Nat)),(11,.bool false)],[]⟩)
 |0,i,hi=>by
   have e:i=min m.toNat 64:=by omega
   have e2:((dL i).map fun i=>((i:Nat):Int))=wj m:=by rw[e]; rfl
   rw[e2,<-e];by_cases h:(i:Int)<m
   ·have h2:¬(i:Int)<64:=by omega
    exact bI (by unfold NC; simp[Mz,My,Mx,Mw,Mv,Mu,Mt,h,h2])
   ·exact bI (by unfold NC; simp[Mz,My,Mx,Mw,Mv,Mu,Mt,h])
 |n+1,i,hi=>by
   have h:(i:Int)<m:=by omega
   have h2:(i:Int)<64:=by omega
   have hw:=eO (i:=i) (by omega);have hL:i+1<=4294967296:=by omega
   have ih:=EV m n (i+1) (by omega);have e:((dL (i+1)).map fun i=>((i:Nat):Int))=((dL i).map fun i=>((i:Nat):Int))++[(i:Int)]:=by rw[List.range_succ,List.map_append]; rfl
   rw[e] at ih;generalize hr:((dL i).map fun i=>((i:Nat):Int))=r at ih ⊢;have hrl:r.length=i:=by rw[<-hr]; simp
   exact (bk (by unfold NC; simp[Mz,My,Mx,Mw,Mv,Mu,Mt,h,h2,hw,hL,hrl,PG hrl,mN,ah,eG,cH])).trans ih
theorem VQ (m:Int):bU aC nQN [.int .i64 m] []=some (.list 1 (ints (wj m)),[]):=by
 rw[fK sQN (aF rfl)];have h:=EV m (min m.toNat 64) 0 (by omega);rw[jJ,List.range_zero,List.map_nil,dw] at h;unfold qQN cQN;simp[Mz,My,Mx,Mw,Mv,Mu,Mt,h,ah,cH,cc,bR]
/- What comparisons return; nodeset.Valid, Has, Cmp, Range. -/
def mI:List Int->List Int->Option Int
 |[],_=>none
 |_::_,[]=>some 1
 |x::r,y::s=>if y<x then some 1 else if x<y then some (-1) else mI r s
theorem Bs:∀a b:List Int,iI a b=(mI a b).getD (if a.length<b.length then -1 else 0)
 |[],[]=>rfl
 |[],_::_=>by simp[iI,mI]
 |_::_,[]=>rfl
 |x::r,y::s=>by
   have ih:=Bs r s;unfold iI mI;split
   ·rfl
   ·split
    ·rfl
    ·rw[ih]; simp
theorem AY (x:Int):bU aC O5 [.int .i64 x] []=some (.bool false,[]):=by
 rw[fK sQX (aF rfl)];unfold qQX cQX;simp[XU,XT,cc,bR]
def rK (x y:Int):Int:=if x<y then -1 else if y<x then 1 else 0
theorem GY (x y:Int):bU aC Lw [.int .i64 x,.int .i64 y] []=some (.int .i64 (rK x y),[]):=by
 rw[fK Xy (aF rfl)];have hx:=AY x;have hy:=AY y;unfold qQG cQG rK;by_cases h1:x<y
 ·simp[FL,FK,FJ,FI,FH,FG,FF,FE,FD,FC,zt,zr,zq,zp,hx,hy,h1,sQX,iQX,cc,bR]
 ·by_cases h2:y<x
  ·simp[FL,FK,FJ,FI,FH,FG,FF,FE,FD,FC,zt,zr,zq,zp,hx,hy,h1,h2,sQX,iQX,cc,bR]
  ·simp[FL,FK,FJ,FI,FH,FG,FF,FE,FD,FC,zt,zr,zq,zp,hx,hy,h1,h2,sQX,iQX,cc,bR]
theorem tj (a b:List Int) (hl:a.length<4294967295) (hb:b.length<4294967295):∀(n i:Nat),i+n=a.length->bg aC 0 (.loop tA) ⟨[(0,.list 1 (ints a)),(1,.list 1 (ints b)),(9,.list 1 (ints a)),(10,.int .i64 a.length),(11,.int .i64 i)],[]⟩ =
  match mI (a.drop i) (b.drop i) with
  |some v=>some (.ret,⟨[(4,.int .i64 v)],[]⟩)
  |none=>some (.exit 0,⟨[(0,.list 1 (ints a)),(1,.list 1 (ints b)),(9,.list 1 (ints a)),(10,.int .i64 a.length),(11,.int .i64 a.length),(12,.bool false)],[]⟩)
 |0,i,hi=>by
   have e:i=a.length:=by omega
   subst e;rw[cI];unfold mI;exact bI (by unfold tA; simp[oP,oO,oN,oM,oL,oK,oJ,oI,oH,oG,jG,jF,jE,jD])
 |n+1,i,hi=>by
   have bQ:i<a.length:=by omega
   have h1:(i:Int)<a.length:=by omega
   have hw:=eO (i:=i) (by omega);have ih:=tj a b hl hb n (i+1) (by omega);rw[bH bQ];by_cases hk:i<b.length
   ·have h2:(i:Int)<b.length:=by omega
    have QG:¬(b.length:Int)<=i:=by omega
    have hc:=GY a[i] b[i];rw[bH hk];unfold mI;by_cases hg:b[i]<a[i]
    ·have QB:¬a[i]<b[i]:=by omega
     have e:rK a[i] b[i]=1:=by unfold rK; rw[if_neg QB,if_pos hg]
     rw[e] at hc;rw[if_pos hg];exact eJ (by unfold tA; simp[oP,oO,oN,oM,oL,oK,oJ,oI,oH,oG,jG,jF,jE,jD,h1,bQ,h2,QG,hk,hc,Xy,iQG,ah,aU,bm,idx])
    ·rw[if_neg hg];by_cases hs:a[i]<b[i]
     ·have e:rK a[i] b[i]=-1:=by unfold rK; rw[if_pos hs]
      rw[e] at hc;rw[if_pos hs];exact eJ (by unfold tA; simp[oP,oO,oN,oM,oL,oK,oJ,oI,oH,oG,jG,jF,jE,jD,h1,bQ,h2,QG,hk,hc,Xy,iQG,ah,aU,bm,idx])
     ·have e:rK a[i] b[i]=0:=by unfold rK; rw[if_neg hs,if_neg hg]
      rw[e] at hc;rw[if_neg hs];exact (bk (by unfold tA; simp[oP,oO,oN,oM,oL,oK,oJ,oI,oH,oG,jG,jF,jE,jD,h1,bQ,h2,QG,hk,hc,hw,Xy,iQG,ah,aU,bm,idx])).trans ih
   ·have QG:(b.length:Int)<=i:=by omega
    have e0:b.drop i=[]:=List.drop_eq_nil_of_le (by omega);rw[e0];unfold mI;exact eJ (by unfold tA; simp[oP,oO,oN,oM,oL,oK,oJ,oI,oH,oG,jG,jF,jE,jD,h1,bQ,QG,hk,ah,aU,bm,idx])
theorem ER (a b:List Int) (hl:a.length<4294967295) (hb:b.length<4294967295):bU aC Qm [.list 1 (ints a),.list 1 (ints b)] []=some (.int .i64 (iI a b),[]):=by
 rw[fK sQY (aF rfl),Bs];have h:=tj a b hl hb a.length 0 (by omega);rw[jJ,dc,dc] at h;unfold qQY cQY;cases hx:mI a b with
 |some v=>
   rw[hx] at h;simp only at h;rw[Option.getD_some];simp[oP,oO,oN,oM,oL,oK,oJ,oI,oH,oG,jG,jF,jE,jD,h,ah,cc,bR]
 |none=>
   rw[hx] at h;simp only at h;rw[Option.getD_none];by_cases bQ:a.length<b.length
   ·have h1:(a.length:Int)<b.length:=by omega
    simp[oP,oO,oN,oM,oL,oK,oJ,oI,oH,oG,jG,jF,jE,jD,h,bQ,h1,ah,cc,bR]
   ·have h1:¬(a.length:Int)<b.length:=by omega
    simp[oP,oO,oN,oM,oL,oK,oJ,oI,oH,oG,jG,jF,jE,jD,h,bQ,h1,ah,cc,bR]
theorem MU (a b:List Int) (hl:a.length<4294967295) (hb:b.length<4294967295):bU aC Qn [.list 1 (ints a),.list 1 (ints b)] []=some (.int .i64 (iI a b),[]):=by
 rw[fK sQH (aF rfl)];have h:=ER a b hl hb;unfold qQH cQH;simp[X0,XZ,h,sQY,iQY,cc,bR]
theorem Gx (x:Int) (l:List Int) (hl:l.length<4294967297):∀n i:Nat,i+n=l.length->bg aC 0 (.loop NH) ⟨[(0,.list 1 (ints l)),(1,.int .i64 x),(7,.int .i64 l.length),(8,.int .i64 i)],[]⟩ =
  if x∈l.drop i then some (.ret,⟨[(4,.int .i64 (i+(l.drop i).idxOf x:Nat))],[]⟩) else some (.exit 0,⟨[(0,.list 1 (ints l)),(1,.int .i64 x),(7,.int .i64 l.length),(8,.int .i64 l.length),(9,.bool false)],[]⟩)
 |0,i,hi=>by
   have e:i=l.length:=by omega
   subst e;rw[cI,if_neg (by simp)];exact bI (by unfold NH; simp[I0,IZ,IY,IX,IW,IV,IU,IQ])
 |n+1,i,hi=>by
   have bQ:i<l.length:=by omega
   have h1:(i:Int)<l.length:=by omega
   have ih:=Gx x l hl n (i+1) (by omega);have hw:=eO (i:=i) (by omega);rw[bH bQ];by_cases hx:x=l[i]
   ·rw[if_pos (by rw[hx]; exact List.mem_cons_self),show (l[i]::l.drop (i+1)).idxOf x=0 by rw[hx]; exact List.idxOf_cons_self];exact eJ (by unfold NH; simp[I0,IZ,IY,IX,IW,IV,IU,IQ,h1,bQ,hx,ah,aU,bm,idx])
   ·have hx2:¬l[i]=x:=fun e=>hx e.symm;rw[show (l[i]::l.drop (i+1)).idxOf x=(l.drop (i+1)).idxOf x+1 by simp only[List.idxOf_cons]; rw[show (l[i] == x)=false by simpa using hx2]; rfl,show i+((l.drop (i+1)).idxOf x+1)=i+1+(l.drop (i+1)).idxOf x by omega];simp only[aO,hx,false_or];exact (bk (by unfold NH; simp[I0,IZ,IY,IX,IW,IV,IU,IQ,h1,bQ,hx,hw,ah,aU,bm,idx])).trans ih
theorem Wi (x:Int) (l:List Int) (hl:l.length<4294967297):bU aC nQ1 [.list 1 (ints l),.int .i64 x] []=some (.int .i64 (if x∈l then (l.idxOf x:Int) else -1),[]):=by
 rw[fK sQ1 (aF rfl)];have h:=Gx x l hl l.length 0 (by omega);rw[jJ,dc,fg] at h;unfold qQ1 cQ1;by_cases hx:x∈l
 ·rw[if_pos hx] at h;simp[I0,IZ,IY,IX,IW,IV,IU,IQ,h,hx,ah,cc,bR]
 ·rw[if_neg hx] at h;simp[I0,IZ,IY,IX,IW,IV,IU,IQ,h,hx,ah,cc,bR]
theorem K6 (x:Int) (l:List Int) (hl:l.length<4294967297):bU aC nQQ [.list 1 (ints l),.int .i64 x] []=some (.bool (decide (x∈l)),[]):=by
 rw[fK sQQ (aF rfl)];have h:=Wi x l hl;unfold qQQ cQQ;by_cases hx:x∈l
 ·rw[if_pos hx] at h;have h0:(0:Int)<=(l.idxOf x:Int):=by omega
  simp[XW,XV,h,h0,hx,sQ1,iQ1,cc,bR]
 ·rw[if_neg hx] at h;simp[XW,XV,h,hx,sQ1,iQ1,cc,bR]
theorem YN (x:Int) (l:List Int) (hl:l.length<4294967297):bU aC nQx [.list 1 (ints l),.int .i64 x] []=some (.bool (decide (x∈l)),[]):=by
 rw[fK sQx (aF rfl)];have h:=K6 x l hl;unfold qQx cQx;simp[acU,acT,h,sQQ,iQQ,cc,bR]
end Go.BmP
