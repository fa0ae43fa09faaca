/- What functions of cohesionref02 return: Has, Valid, put, Of. -/
import Derived.Test.YtpimmjklbakckaaDoorUseM
set_option linter.unusedSimpArgs false
set_option linter.unusedVariables false
set_option maxRecDepth 100000
open List renaming append_assoc → dQ, drop_eq_getElem_cons → cm, drop_length → dn, drop_zero → dN, getElem?_eq_getElem → aB, length_append → bw, length_cons → dz, length_drop → dR, length_nil → fD, length_singleton → p8, length_take → bg, mem_cons → aK, singleton_append → MR, take_of_length_le → dE
open Nat renaming le_of_ble_eq_true → aF, zero_add → eS
namespace Go.BmP
open Go.Am Go.Bm
theorem LI (x:Int) (l:List Int) (hl:l.length<4294967297):∀n i:Nat,i+n=l.length->bh aD 0 (.loop K4) ⟨[(1,.int .i64 x),(7,.list 1 (ints l)),(8,.int .i64 l.length),(9,.int .i64 i)],[]⟩ =
  if x∈l.drop i then some (.ret,⟨[(4,.bool true)],[]⟩) else some (.exit 0,⟨[(1,.int .i64 x),(7,.list 1 (ints l)),(8,.int .i64 l.length),(9,.int .i64 l.length),(10,.bool false)],[]⟩)
 |0,i,hi=>by
   have e:i=l.length:=by omega
   subst e;rw[dn];exact cv (by unfold K4; simp[Gx,Gw,Gv,Gu,Gt,Gs,Gr,Gq])
 |n+1,i,hi=>by
   have bY:i<l.length:=by omega
   have h1:(i:Int)<l.length:=by omega
   have ih:=LI x l hl n (i+1) (by omega);have hw:=fT (i:=i) (by omega);rw[cm bY];by_cases hx:l[i]=x
   ·rw[if_pos (by simp[hx])];exact fF (by unfold K4; simp[Gx,Gw,Gv,Gu,Gt,Gs,Gr,Gq,h1,bY,hx,ah,aZ,bG,idx])
   ·have hx2:¬x=l[i]:=fun e=>hx e.symm;simp only[aK,hx2,false_or];exact (bI (by unfold K4; simp[Gx,Gw,Gv,Gu,Gt,Gs,Gr,Gq,h1,bY,hx,hw,ah,aZ,bG,idx])).trans ih
theorem RI (x:Int) (l:List Int) (hl:l.length<4294967297):bS aD nQk [.list 1 (ints l),.int .i64 x] []=some (.bool (decide (x∈l)),[]):=by
 rw[fZ sQk (aF rfl)];have h:=LI x l hl l.length 0 (by omega);rw[mB,dN] at h;unfold qQk cQk;by_cases hx:x∈l
 ·simp[Gx,Gw,Gv,Gu,Gt,Gs,Gr,Gq,h,hx,ah,cB,bU]
 ·simp[Gx,Gw,Gv,Gu,Gt,Gs,Gr,Gq,h,hx,ah,cB,bU]
theorem Kk (x:Int) (l:List Int) (hl:l.length<4294967296):∀n i:Nat,i+n=l.length->bh aD 0 (.loop K8) ⟨[(0,.list 1 (ints l)),(1,.int .i64 x),(5,.int .i64 i)],[]⟩ =
  some (.exit 0,⟨[(0,.list 1 (ints l)),(1,.int .i64 x),(5,.int .i64 (i+pos x (l.drop i):Nat)),(18,.bool false)],[]⟩)
 |0,i,hi=>by
   have e:i=l.length:=by omega
   subst e;rw[dn];exact cv (by unfold K8; simp[Dt,Dr,Dq,Dn,Dm,Dk,Dj,Di,pos,ah,idx])
 |n+1,i,hi=>by
   have bY:i<l.length:=by omega
   have h1:(i:Int)<l.length:=by omega
   have ih:=Kk x l hl n (i+1) (by omega);have hw:=fT (i:=i) (by omega);rw[cm bY];unfold pos;by_cases hx:l[i]<x
   ·have e:i+(pos x (l.drop (i+1))+1)=i+1+pos x (l.drop (i+1)):=by omega
    rw[if_pos hx,e];exact (bI (by unfold K8; simp[Dt,Dr,Dq,Dn,Dm,Dk,Dj,Di,h1,bY,hx,hw,ah,aZ,bG,idx])).trans ih
   ·rw[if_neg hx];exact cv (by unfold K8; simp[Dt,Dr,Dq,Dn,Dm,Dk,Dj,Di,h1,bY,hx,ah,aZ,bG,idx])
/- What functions of cohesionref02 return: put, Of, Range, Union, Meet, Minus, Within, Cmp, Same. -/
theorem QE (x:Int) (l:List Int) (hl:l.length<4294967295):bS aD nQM [.list 1 (ints l),.int .i64 x] []=some (.list 1 (ints (qC x l)),[]):=by
 rw[fZ sQM (aF rfl),Kl];have h:=Kk x l (by omega) l.length 0 (by omega);rw[mB,dN,eS] at h;have hp:=Vu x l;generalize pos x l=p at h hp ⊢;have hq:(p:Int)<=l.length:=by omega
 have hm:min p l.length=p:=by omega
 have hL1:p<=4294967296:=by omega
 have hL2:p+1<=4294967296:=by omega
 have hL3:p+1+(l.length-p)<=4294967296:=by omega
 unfold qQM cQM;by_cases bY:p<l.length
 ·have h1:(p:Int)<l.length:=by omega
  by_cases hx:l[p]=x
  ·rw[if_pos (by rw[aB bY,hx])];simp[Dt,Dr,Dq,Dn,Dm,Dk,Dj,Di,h,h1,bY,hx,ah,aZ,bG,idx,cB,bU]
  ·rw[if_neg (by rw[aB bY]; simpa using hx)];simp[Dt,Dr,Dq,Dn,Dm,Dk,Dj,Di,h,h1,bY,hx,hp,hq,hm,hL1,hL2,hL3,ah,aZ,bG,idx,cB,bU,dC,fw,fY,Li,p7,bg,dR];simp (disch:=(simp only[bg,bw,dR,p8,dz,fD]<;>omega)) only[dE,List.take_take,Nat.min_self,dQ,MR]
 ·have h1:¬(p:Int)<l.length:=by omega
  rw[if_neg (by rw[List.getElem?_eq_none (by omega)]; simp)];simp[Dt,Dr,Dq,Dn,Dm,Dk,Dj,Di,h,h1,bY,hp,hq,hm,hL1,hL2,hL3,ah,aZ,bG,idx,cB,bU,dC,fw,fY,Li,p7,bg,dR];simp (disch:=(simp only[bg,bw,dR,p8,dz,fD]<;>omega)) only[dE,List.take_take,Nat.min_self,dQ,MR]
theorem Q8 (l:List Int) (hl:l.length<4294967295):∀(n i:Nat) (o:List Int),i+n=l.length->o.length<=i->bh aD 0 (.loop El) ⟨[(3,.list 1 (ints o)),(6,.list 1 (ints l)),(7,.int .i64 l.length),(8,.int .i64 i)],[]⟩ =
  some (.exit 0,⟨[(3,.list 1 (ints ((l.drop i).foldl (fun o x=>qC x o) o))),(6,.list 1 (ints l)),(7,.int .i64 l.length),(8,.int .i64 l.length),(9,.bool false)],[]⟩)
 |0,i,o,hi,ho=>by
   have e:i=l.length:=by omega
   subst e;rw[dn];exact cv (by unfold El; simp[Dh,Dg,Df,De,Dd,Dc,Db,Da])
 |n+1,i,o,hi,ho=>by
   have bY:i<l.length:=by omega
   have h1:(i:Int)<l.length:=by omega
   have hw:=fT (i:=i) (by omega);have hp:=QE l[i] o (by omega);have mX:=Km l[i] o;have ih:=Q8 l hl n (i+1) (qC l[i] o) (by omega) (by omega);rw[cm bY,List.foldl_cons];exact (bI (by unfold El; simp[Dh,Dg,Df,De,Dd,Dc,Db,Da,h1,bY,hw,hp,sQM,iQM,ah,aZ,bG,idx])).trans ih
theorem V2 (l:List Int) (hl:l.length<4294967295):bh aD 0 (.loop El) ⟨[(3,.own 1 []),(6,.list 1 (ints l)),(7,.int .i64 l.length),(8,.int .i64 0)],[]⟩ =
  some (.exit 0,⟨[(3,if l=[] then .own 1 [] else .list 1 (ints (dt l))),(6,.list 1 (ints l)),(7,.int .i64 l.length),(8,.int .i64 l.length),(9,.bool false)],[]⟩):=by
 cases l with
 |nil=>exact cv (by unfold El; simp[Dh,Dg,Df,De,Dd,Dc,Db,Da,dT])
 |cons a r=>
   have hp:=QE a [] (by simp);have ih:=Q8 (a::r) hl r.length 1 (qC a []) (by simp; omega) (by simp[qC]);rw[<-adn,if_neg (by simp)];rw[dT] at hp;refine (bI (s':=⟨[(3,.list 1 (ints (qC a []))),(6,.list 1 (ints (a::r))),(7,.int .i64 (a::r).length),(8,.int .i64 ((1:Nat):Int))],[]⟩) ?_).trans (ih.trans ?_)
   ·have h1:(0:Int)<(r.length:Int)+1:=by omega
    unfold El;simp[Dh,Dg,Df,De,Dd,Dc,Db,Da,h1,hp,sQM,iQM,ah,jS,idx]
   ·rfl
theorem adm (l:List Int) (hl:l.length<4294967295):bS aD nQx [.list 1 (ints l)] []=some (.list 1 (ints (dt l)),[]):=by
 rw[fZ sQx (aF rfl)];have h:=V2 l hl;unfold qQx cQx;by_cases hx:l=[]
 ·subst hx;rw[if_pos rfl] at h;simp only[dT,fD,mB] at h;simp[Dh,Dg,Df,De,Dd,Dc,Db,Da,h,dT,cB,bU];rfl
 ·rw[if_neg hx] at h;simp[Dh,Dg,Df,De,Dd,Dc,Db,Da,h,ah,cB,bU]
theorem AP (l b:List Int) (hl:l.length<4294967295) (hb:b.length<4294967295):∀(n i:Nat) (o:List Int),i+n=l.length->o.length<=i->bh aD 0 (.loop K5) ⟨[(1,.list 1 (ints b)),(5,.own 1 (ints o)),(9,.list 1 (ints l)),(10,.int .i64 l.length),(11,.int .i64 i)],[]⟩ =
  some (.exit 0,⟨[(1,.list 1 (ints b)),(5,.own 1 (ints (o++(l.drop i).filter fun x=>decide (x∈b)))),(9,.list 1 (ints l)),(10,.int .i64 l.length),(11,.int .i64 l.length),(12,.bool false)],[]⟩)
 |0,i,o,hi,ho=>by
   have e:i=l.length:=by omega
   subst e;rw[dn,List.filter_nil,List.append_nil];exact cv (by unfold K5; simp[J7,J6,J5,J4,J3,J2,J1,J0,JZ])
 |n+1,i,o,hi,ho=>by
   have bY:i<l.length:=by omega
   have h1:(i:Int)<l.length:=by omega
   have hw:=fT (i:=i) (by omega);have hh:=RI l[i] b (by omega);have hL:o.length+1<=4294967296:=by omega
   rw[cm bY,List.filter_cons];by_cases hx:l[i]∈b
   ·have ih:=AP l b hl hb n (i+1) (o++[l[i]]) (by omega) (by simp; omega);rw[dQ] at ih;rw[if_pos (by simpa using hx)];exact (bI (by unfold K5; simp[J7,J6,J5,J4,J3,J2,J1,J0,JZ,h1,bY,hw,hh,hx,hL,p7,sQk,iQk,ah,aZ,bG,idx,fY,dC])).trans ih
   ·have ih:=AP l b hl hb n (i+1) o (by omega) (by omega);rw[if_neg (by simpa using hx)];exact (bI (by unfold K5; simp[J7,J6,J5,J4,J3,J2,J1,J0,JZ,h1,bY,hw,hh,hx,hL,p7,sQk,iQk,ah,aZ,bG,idx,fY,dC])).trans ih
theorem Wg (a b:List Int) (ha:a.length<4294967295) (hb:b.length<4294967295):bS aD nQj [.list 1 (ints a),.list 1 (ints b)] []=some (.list 1 (ints (meet a b)),[]):=by
 rw[fZ sQj (aF rfl)];have hs:=nf a;have h:=AP (dt a) b (by omega) hb (dt a).length 0 [] (by omega) (by simp);have ho:=adm a ha;have e:(dt a).filter (fun x=>decide (x∈b))=meet a b:=CU ((kT a).1.filter _) (nA _ _).1 fun x=>by rw[(nA _ _).2,List.mem_filter,(kT _).2]; simp
 rw[mB,dN,List.nil_append,e,dT] at h;unfold qQj cQj;simp[J7,J6,J5,J4,J3,J2,J1,J0,JZ,h,ho,p7,dT,ah,dC,cB,bU,sQx,iQx]
def afV (n:Int):List Int:=(List.range (min n.toNat 64)).map fun i=>((i:Nat):Int)
/- What comparisons return; nodeset.Valid, Has, Cmp, Range. -/
def mK:List Int->List Int->Option Int
 |[],_=>none
 |_::_,[]=>some 1
 |x::r,y::s=>if y<x then some 1 else if x<y then some (-1) else mK r s
theorem Af:∀a b:List Int,iH a b=(mK a b).getD (if a.length<b.length then -1 else 0)
 |[],[]=>rfl
 |[],_::_=>by simp[iH,mK]
 |_::_,[]=>rfl
 |x::r,y::s=>by
   have ih:=Af r s;unfold iH mK;split
   ·rfl
   ·split
    ·rfl
    ·rw[ih]; simp
theorem zJ (x:Int):bS aD MB [.int .i64 x] []=some (.bool false,[]):=by
 rw[fZ YE (aF rfl)];unfold qQS cQS;simp[Vg,Vf,cB,bU]
def qT (x y:Int):Int:=if x<y then -1 else if y<x then 1 else 0
theorem EX (x y:Int):bS aD Jp [.int .i64 x,.int .i64 y] []=some (.int .i64 (qT x y),[]):=by
 rw[fZ UQ (aF rfl)];have hx:=zJ x;have hy:=zJ y;unfold qQE cQE qT;by_cases h1:x<y
 ·simp[DD,DC,DB,DA,Dz,Dy,Dx,Dw,Dv,Du,yj,yh,yg,yf,hx,hy,h1,YE,iQS,cB,bU]
 ·by_cases h2:y<x
  ·simp[DD,DC,DB,DA,Dz,Dy,Dx,Dw,Dv,Du,yj,yh,yg,yf,hx,hy,h1,h2,YE,iQS,cB,bU]
  ·simp[DD,DC,DB,DA,Dz,Dy,Dx,Dw,Dv,Du,yj,yh,yg,yf,hx,hy,h1,h2,YE,iQS,cB,bU]
theorem sG (a b:List Int) (hl:a.length<4294967295) (hb:b.length<4294967295):∀(n i:Nat),i+n=a.length->bh aD 0 (.loop s6) ⟨[(0,.list 1 (ints a)),(1,.list 1 (ints b)),(9,.list 1 (ints a)),(10,.int .i64 a.length),(11,.int .i64 i)],[]⟩ =
  match mK (a.drop i) (b.drop i) with
  |some v=>some (.ret,⟨[(4,.int .i64 v)],[]⟩)
  |none=>some (.exit 0,⟨[(0,.list 1 (ints a)),(1,.list 1 (ints b)),(9,.list 1 (ints a)),(10,.int .i64 a.length),(11,.int .i64 a.length),(12,.bool false)],[]⟩)
 |0,i,hi=>by
   have e:i=a.length:=by omega
   subst e;rw[dn];unfold mK;exact cv (by unfold s6; simp[oM,oL,oK,oJ,oI,oH,oG,oF,oE,oD,jE,jD,jC,jB])
 |n+1,i,hi=>by
   have bY:i<a.length:=by omega
   have h1:(i:Int)<a.length:=by omega
   have hw:=fT (i:=i) (by omega);have ih:=sG a b hl hb n (i+1) (by omega);rw[cm bY];by_cases hk:i<b.length
   ·have h2:(i:Int)<b.length:=by omega
    have NX:¬(b.length:Int)<=i:=by omega
    have hc:=EX a[i] b[i];rw[cm hk];unfold mK;by_cases hg:b[i]<a[i]
    ·have NS:¬a[i]<b[i]:=by omega
     have e:qT a[i] b[i]=1:=by unfold qT; rw[if_neg NS,if_pos hg]
     rw[e] at hc;rw[if_pos hg];exact fF (by unfold s6; simp[oM,oL,oK,oJ,oI,oH,oG,oF,oE,oD,jE,jD,jC,jB,h1,bY,h2,NX,hk,hc,UQ,ZF,ah,aZ,bG,idx])
    ·rw[if_neg hg];by_cases hs:a[i]<b[i]
     ·have e:qT a[i] b[i]=-1:=by unfold qT; rw[if_pos hs]
      rw[e] at hc;rw[if_pos hs];exact fF (by unfold s6; simp[oM,oL,oK,oJ,oI,oH,oG,oF,oE,oD,jE,jD,jC,jB,h1,bY,h2,NX,hk,hc,UQ,ZF,ah,aZ,bG,idx])
     ·have e:qT a[i] b[i]=0:=by unfold qT; rw[if_neg hs,if_neg hg]
      rw[e] at hc;rw[if_neg hs];exact (bI (by unfold s6; simp[oM,oL,oK,oJ,oI,oH,oG,oF,oE,oD,jE,jD,jC,jB,h1,bY,h2,NX,hk,hc,hw,UQ,ZF,ah,aZ,bG,idx])).trans ih
   ·have NX:(b.length:Int)<=i:=by omega
    have e0:b.drop i=[]:=List.drop_eq_nil_of_le (by omega);rw[e0];unfold mK;exact fF (by unfold s6; simp[oM,oL,oK,oJ,oI,oH,oG,oF,oE,oD,jE,jD,jC,jB,h1,bY,NX,hk,ah,aZ,bG,idx])
theorem C6 (a b:List Int) (hl:a.length<4294967295) (hb:b.length<4294967295):bS aD ND [.list 1 (ints a),.list 1 (ints b)] []=some (.int .i64 (iH a b),[]):=by
 rw[fZ sQT (aF rfl),Af];have h:=sG a b hl hb a.length 0 (by omega);rw[mB,dN,dN] at h;unfold qQT cQT;cases hx:mK a b with
 |some v=>
   rw[hx] at h;simp only at h;rw[Option.getD_some];simp[oM,oL,oK,oJ,oI,oH,oG,oF,oE,oD,jE,jD,jC,jB,h,ah,cB,bU]
 |none=>
   rw[hx] at h;simp only at h;rw[Option.getD_none];by_cases bY:a.length<b.length
   ·have h1:(a.length:Int)<b.length:=by omega
    simp[oM,oL,oK,oJ,oI,oH,oG,oF,oE,oD,jE,jD,jC,jB,h,bY,h1,ah,cB,bU]
   ·have h1:¬(a.length:Int)<b.length:=by omega
    simp[oM,oL,oK,oJ,oI,oH,oG,oF,oE,oD,jE,jD,jC,jB,h,bY,h1,ah,cB,bU]
theorem KC (a b:List Int) (hl:a.length<4294967295) (hb:b.length<4294967295):bS aD NF [.list 1 (ints a),.list 1 (ints b)] []=some (.int .i64 (iH a b),[]):=by
 rw[fZ sQF (aF rfl)];have h:=C6 a b hl hb;unfold qQF cQF;simp[Vm,Vl,h,sQT,iQT,cB,bU]
theorem Ew (x:Int) (l:List Int) (hl:l.length<4294967297):∀n i:Nat,i+n=l.length->bh aD 0 (.loop K7) ⟨[(0,.list 1 (ints l)),(1,.int .i64 x),(7,.int .i64 l.length),(8,.int .i64 i)],[]⟩ =
  if x∈l.drop i then some (.ret,⟨[(4,.int .i64 (i+(l.drop i).idxOf x:Nat))],[]⟩) else some (.exit 0,⟨[(0,.list 1 (ints l)),(1,.int .i64 x),(7,.int .i64 l.length),(8,.int .i64 l.length),(9,.bool false)],[]⟩)
 |0,i,hi=>by
   have e:i=l.length:=by omega
   subst e;rw[dn,if_neg (by simp)];exact cv (by unfold K7; simp[GG,GF,GD,GC,GB,GA,Gz,Gy])
 |n+1,i,hi=>by
   have bY:i<l.length:=by omega
   have h1:(i:Int)<l.length:=by omega
   have ih:=Ew x l hl n (i+1) (by omega);have hw:=fT (i:=i) (by omega);rw[cm bY];by_cases hx:x=l[i]
   ·rw[if_pos (by rw[hx]; exact List.mem_cons_self),show (l[i]::l.drop (i+1)).idxOf x=0 by rw[hx]; exact List.idxOf_cons_self];exact fF (by unfold K7; simp[GG,GF,GD,GC,GB,GA,Gz,Gy,h1,bY,hx,ah,aZ,bG,idx])
   ·have hx2:¬l[i]=x:=fun e=>hx e.symm;rw[show (l[i]::l.drop (i+1)).idxOf x=(l.drop (i+1)).idxOf x+1 by simp only[List.idxOf_cons]; rw[show (l[i] == x)=false by simpa using hx2]; rfl,show i+((l.drop (i+1)).idxOf x+1)=i+1+(l.drop (i+1)).idxOf x by omega];simp only[aK,hx,false_or];exact (bI (by unfold K7; simp[GG,GF,GD,GC,GB,GA,Gz,Gy,h1,bY,hx,hw,ah,aZ,bG,idx])).trans ih
theorem TC (x:Int) (l:List Int) (hl:l.length<4294967297):bS aD nQW [.list 1 (ints l),.int .i64 x] []=some (.int .i64 (if x∈l then (l.idxOf x:Int) else -1),[]):=by
 rw[fZ sQW (aF rfl)];have h:=Ew x l hl l.length 0 (by omega);rw[mB,dN,eS] at h;unfold qQW cQW;by_cases hx:x∈l
 ·rw[if_pos hx] at h;simp[GG,GF,GD,GC,GB,GA,Gz,Gy,h,hx,ah,cB,bU]
 ·rw[if_neg hx] at h;simp[GG,GF,GD,GC,GB,GA,Gz,Gy,h,hx,ah,cB,bU]
theorem I7 (x:Int) (l:List Int) (hl:l.length<4294967297):bS aD nQL [.list 1 (ints l),.int .i64 x] []=some (.bool (decide (x∈l)),[]):=by
 rw[fZ sQL (aF rfl)];have h:=TC x l hl;unfold qQL cQL;by_cases hx:x∈l
 ·rw[if_pos hx] at h;have h0:(0:Int)<=(l.idxOf x:Int):=by omega
  simp[Vi,Vh,h,h0,hx,sQW,iQW,cB,bU]
 ·rw[if_neg hx] at h;simp[Vi,Vh,h,hx,sQW,iQW,cB,bU]
theorem D6 (x:Int) (l:List Int) (hl:l.length<4294967297):bS aD nQv [.list 1 (ints l),.int .i64 x] []=some (.bool (decide (x∈l)),[]):=by
 rw[fZ sQv (aF rfl)];have h:=I7 x l hl;unfold qQv cQv;simp[aa3,aa2,h,sQL,iQL,cB,bU]
end Go.BmP
