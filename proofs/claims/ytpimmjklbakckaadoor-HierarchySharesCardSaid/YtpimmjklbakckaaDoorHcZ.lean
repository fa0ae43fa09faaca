/- The comparison of hierarchy.gathered, over a configuration without oracles: what is asked of a comparison. -/
import Derived.Test.YtpimmjklbakckaaDoorUseM
import Derived.Test.YtpimmjklbakckaaDoorCfZ
import Derived.Test.YtpimmjklbakckaaDoorPsO
set_option linter.unusedSimpArgs false
set_option linter.unusedVariables false
set_option maxRecDepth 100000
set_option maxHeartbeats 4000000
open Go.Proofs.Tryd renaming prog → ak
open List renaming drop_eq_getElem_cons → cm, drop_zero → dN
open Nat renaming le_of_ble_eq_true → aF
namespace Go.BmZ
open Go.Am Go.Bm Go.BmP
def mK:List Int->List Int->Option Int
 |[],_=>none
 |_::_,[]=>some 1
 |x::r,y::s=>if y<x then some 1 else if x<y then some (-1) else mK r s
theorem Af:∀a b:List Int,iH a b=(mK a b).getD (if a.length<b.length then -1 else 0)
 |[],[]=>rfl
 |[],_::_=>by simp[iH,mK]
 |_::_,[]=>rfl
 |x::r,y::s=>by
   have ih:=Af r s;unfold iH mK;split
   ·rfl
   ·split
    ·rfl
    ·rw[ih]; simp
theorem zJ (x:Int):bS aD MB [.int .i64 x] []=some (.bool false,[]):=by
 rw[nJ oQS YE (aF rfl)];unfold qQS cQS;simp[Vg,Vf,Go.BmZ.qf,Go.BmZ.empN,Go.BmZ.movN,cB,bU]
def xA (x y:Int):Int:=if x<y then -1 else if y<x then 1 else 0
theorem Me (x y:Int):bS aD Jp [.int .i64 x,.int .i64 y] []=some (.int .i64 (xA x y),[]):=by
 rw[nJ oQE UQ (aF rfl)];have hx:=zJ x;have hy:=zJ y;unfold qQE cQE xA;by_cases h1:x<y
 ·simp[DD,DC,DB,DA,Dz,Dy,Dx,Dw,Dv,Du,yj,yh,yg,yf,Go.BmZ.qf,Go.BmZ.empN,Go.BmZ.movN,hx,hy,h1,YE,iQS,lQS,cB,bU]
 ·by_cases h2:y<x
  ·simp[DD,DC,DB,DA,Dz,Dy,Dx,Dw,Dv,Du,yj,yh,yg,yf,Go.BmZ.qf,Go.BmZ.empN,Go.BmZ.movN,hx,hy,h1,h2,YE,iQS,lQS,cB,bU]
  ·simp[DD,DC,DB,DA,Dz,Dy,Dx,Dw,Dv,Du,yj,yh,yg,yf,Go.BmZ.qf,Go.BmZ.empN,Go.BmZ.movN,hx,hy,h1,h2,YE,iQS,lQS,cB,bU]
theorem sG (a b:List Int) (hl:a.length<4294967295) (hb:b.length<4294967295):∀(n i:Nat),i+n=a.length->bh aD 0 (.loop s6) ⟨[(0,.list 1 (ints a)),(1,.list 1 (ints b)),(9,.list 1 (ints a)),(10,.int .i64 a.length),(11,.int .i64 i)],[]⟩ =
  match mK (a.drop i) (b.drop i) with
  |some v=>some (.ret,⟨[(4,.int .i64 v)],[]⟩)
  |none=>some (.exit 0,⟨[(0,.list 1 (ints a)),(1,.list 1 (ints b)),(9,.list 1 (ints a)),(10,.int .i64 a.length),(11,.int .i64 a.length),(12,.bool false)],[]⟩)
 |0,i,hi=>by
   have e:i=a.length:=by omega
   subst e;rw[List.drop_length];unfold mK;exact cv (by unfold s6; simp[oM,oL,oK,oJ,oI,oH,oG,oF,oE,oD,jE,jD,jC,jB,Go.BmZ.qf])
 |n+1,i,hi=>by
   have bY:i<a.length:=by omega
   have h1:(i:Int)<a.length:=by omega
   have hw:=fT (i:=i) (by omega);have ih:=sG a b hl hb n (i+1) (by omega);rw[cm bY];by_cases hk:i<b.length
   ·have h2:(i:Int)<b.length:=by omega
    have NX:¬(b.length:Int)<=i:=by omega
    have hc:=Me a[i] b[i];rw[cm hk];unfold mK;by_cases hg:b[i]<a[i]
    ·have NS:¬a[i]<b[i]:=by omega
     have e:xA a[i] b[i]=1:=by unfold xA; rw[if_neg NS,if_pos hg]
     rw[e] at hc;rw[if_pos hg];exact fF (by unfold s6; simp[oM,oL,oK,oJ,oI,oH,oG,oF,oE,oD,jE,jD,jC,jB,Go.BmZ.qf,Go.BmZ.empN,Go.BmZ.movN,h1,bY,h2,NX,hk,hc,UQ,ZF,lQE,ah,aZ,bG,idx])
    ·rw[if_neg hg];by_cases hs:a[i]<b[i]
     ·have e:xA a[i] b[i]=-1:=by unfold xA; rw[if_pos hs]
      rw[e] at hc;rw[if_pos hs];exact fF (by unfold s6; simp[oM,oL,oK,oJ,oI,oH,oG,oF,oE,oD,jE,jD,jC,jB,Go.BmZ.qf,Go.BmZ.empN,Go.BmZ.movN,h1,bY,h2,NX,hk,hc,UQ,ZF,lQE,ah,aZ,bG,idx])
     ·have e:xA a[i] b[i]=0:=by unfold xA; rw[if_neg hs,if_neg hg]
      rw[e] at hc;rw[if_neg hs];exact (bI (by unfold s6; simp[oM,oL,oK,oJ,oI,oH,oG,oF,oE,oD,jE,jD,jC,jB,Go.BmZ.qf,Go.BmZ.empN,Go.BmZ.movN,h1,bY,h2,NX,hk,hc,hw,UQ,ZF,lQE,ah,aZ,bG,idx])).trans ih
   ·have NX:(b.length:Int)<=i:=by omega
    have e0:b.drop i=[]:=List.drop_eq_nil_of_le (by omega);rw[e0];unfold mK;exact fF (by unfold s6; simp[oM,oL,oK,oJ,oI,oH,oG,oF,oE,oD,jE,jD,jC,jB,Go.BmZ.qf,Go.BmZ.empN,Go.BmZ.movN,h1,bY,NX,hk,ah,aZ,bG,idx])
theorem C6 (a b:List Int) (hl:a.length<4294967295) (hb:b.length<4294967295):bS aD ND [.list 1 (ints a),.list 1 (ints b)] []=some (.int .i64 (iH a b),[]):=by
 rw[nJ oQT sQT (aF rfl),Af];have h:=sG a b hl hb a.length 0 (by omega);rw[mB,dN,dN] at h;unfold qQT cQT;cases hx:mK a b with
 |some v=>
   rw[hx] at h;simp only at h;rw[Option.getD_some];simp[oM,oL,oK,oJ,oI,oH,oG,oF,oE,oD,jE,jD,jC,jB,Go.BmZ.qf,Go.BmZ.empN,Go.BmZ.movN,h,ah,cB,bU]
 |none=>
   rw[hx] at h;simp only at h;rw[Option.getD_none];by_cases bY:a.length<b.length
   ·have h1:(a.length:Int)<b.length:=by omega
    simp[oM,oL,oK,oJ,oI,oH,oG,oF,oE,oD,jE,jD,jC,jB,Go.BmZ.qf,Go.BmZ.empN,Go.BmZ.movN,h,bY,h1,ah,cB,bU]
   ·have h1:¬(a.length:Int)<b.length:=by omega
    simp[oM,oL,oK,oJ,oI,oH,oG,oF,oE,oD,jE,jD,jC,jB,Go.BmZ.qf,Go.BmZ.empN,Go.BmZ.movN,h,bY,h1,ah,cB,bU]
theorem KC (a b:List Int) (hl:a.length<4294967295) (hb:b.length<4294967295):bS aD NF [.list 1 (ints a),.list 1 (ints b)] []=some (.int .i64 (iH a b),[]):=by
 rw[nJ oQF sQF (aF rfl)];have h:=C6 a b hl hb;unfold qQF cQF;simp[Vm,Vl,Go.BmZ.qf,Go.BmZ.empN,Go.BmZ.movN,h,sQT,iQT,lQT,cB,bU]
theorem Ns (a b:Int):bS aD MC [.list 1 [.int .i64 a,.int .i64 b]] []=some (.int .i64 (if a=0 then b else a),[]):=by
 rw[nJ oQD sQD (aF rfl)];have t2:IntKind.i64.wrap 2=2:=by decide
 have l3:bh aD 0 (.loop oP) ⟨[(3,.int .i64 0),(6,.list 1 [.int .i64 a,.int .i64 b]),(7,.int .i64 2),(8,.int .i64 2)],[]⟩=some (.exit 0,⟨[(3,.int .i64 0),(6,.list 1 [.int .i64 a,.int .i64 b]),(7,.int .i64 2),(8,.int .i64 2),(9,.bool false)],[]⟩):=
  cv (by unfold oP; simp[mw,mq,mo,mj,mi,mh,mg,me,l9,Go.BmZ.qf,aN,bf,bW,dF,fh,aY,bj,aX,ah,aZ,bG,cB,bU])
 have l2:bh aD 0 (.loop oP) ⟨[(3,.int .i64 0),(6,.list 1 [.int .i64 a,.int .i64 b]),(7,.int .i64 2),(8,.int .i64 1)],[]⟩=if b=0 then some (.exit 0,⟨[(3,.int .i64 0),(6,.list 1 [.int .i64 a,.int .i64 b]),(7,.int .i64 2),(8,.int .i64 2),(9,.bool false)],[]⟩) else some (.ret,⟨[(2,.int .i64 b)],[]⟩):=by
  by_cases hb:b=0
  ·subst hb;rw[if_pos rfl];exact (bI (by unfold oP; simp[mw,mq,mo,mj,mi,mh,mg,me,l9,Go.BmZ.qf,Go.BmZ.empN,Go.BmZ.movN,idx,t2,aN,bf,bW,dF,fh,aY,bj,aX,ah,aZ,bG,cB,bU])).trans l3
  ·rw[if_neg hb];exact fF (by unfold oP; simp[mw,mq,mo,mj,mi,mh,mg,me,l9,Go.BmZ.qf,Go.BmZ.empN,Go.BmZ.movN,hb,idx,aN,bf,bW,dF,fh,aY,bj,aX,ah,aZ,bG,cB,bU])
 have l1:bh aD 0 (.loop oP) ⟨[(3,.int .i64 0),(6,.list 1 [.int .i64 a,.int .i64 b]),(7,.int .i64 2),(8,.int .i64 0)],[]⟩=if a=0 then (if b=0 then some (.exit 0,⟨[(3,.int .i64 0),(6,.list 1 [.int .i64 a,.int .i64 b]),(7,.int .i64 2),(8,.int .i64 2),(9,.bool false)],[]⟩) else some (.ret,⟨[(2,.int .i64 b)],[]⟩)) else some (.ret,⟨[(2,.int .i64 a)],[]⟩):=by
  by_cases ha:a=0
  ·subst ha;rw[if_pos rfl];exact (bI (by unfold oP; simp[mw,mq,mo,mj,mi,mh,mg,me,l9,Go.BmZ.qf,Go.BmZ.empN,Go.BmZ.movN,idx,aN,bf,bW,dF,fh,aY,bj,aX,ah,aZ,bG,cB,bU])).trans l2
  ·rw[if_neg ha];exact fF (by unfold oP; simp[mw,mq,mo,mj,mi,mh,mg,me,l9,Go.BmZ.qf,Go.BmZ.empN,Go.BmZ.movN,ha,idx,aN,bf,bW,dF,fh,aY,bj,aX,ah,aZ,bG,cB,bU])
 clear l2 l3;unfold qQD cQD;by_cases ha:a=0
 ·subst ha;rw[if_pos rfl] at l1;by_cases hb:b=0
  ·subst hb;rw[if_pos rfl] at l1;simp[mw,mq,mo,mj,mi,mh,mg,me,l9,Go.BmZ.qf,Go.BmZ.empN,Go.BmZ.movN,l1,aN,bf,bW,dF,fh,aY,bj,aX,ah,aZ,bG,cB,bU]
  ·rw[if_neg hb] at l1;simp[mw,mq,mo,mj,mi,mh,mg,me,l9,Go.BmZ.qf,Go.BmZ.empN,Go.BmZ.movN,l1,hb,aN,bf,bW,dF,fh,aY,bj,aX,ah,aZ,bG,cB,bU]
 ·rw[if_neg ha] at l1;simp[mw,mq,mo,mj,mi,mh,mg,me,l9,Go.BmZ.qf,Go.BmZ.empN,Go.BmZ.movN,l1,ha,aN,bf,bW,dF,fh,aY,bj,aX,ah,aZ,bG,cB,bU]
theorem adV (x y:Int):xA x y=Go.Bm.qT x y:=by
 unfold xA Go.Bm.qT;split<;>split<;>(try split)<;>omega
theorem adQ (x y:Pt) (hx:x.2.2.length<=1000) (hy:y.2.2.length<=1000):bS aD Ts [en x,en y] []=some (.int .i64 (Ow x y),[]):=by
 obtain⟨a,b,s⟩:=x;obtain⟨c,d,t⟩:=y;have h1:=Me a c;have h2:=KC s t (by simp at hx; omega) (by simp at hy; omega);have h3:=Ns (xA a c) (iH s t);have e:Ow (a,b,s) (c,d,t)=if xA a c=0 then iH s t else xA a c:=by rw[adV]; rfl
 rw[e];generalize (if xA a c=0 then iH s t else xA a c)=z at *;generalize xA a c=u at *;generalize iH s t=v at *;rw[nJ oQC sQC (aF rfl)];unfold qQC cQC en;simp[abJ,abI,Go.BmZ.qf,Go.BmZ.empN,Go.BmZ.movN,h1,h2,h3,aN,UQ,ZF,lQE,sQD,iQD,lQD,sQF,iQF,lQF,eC,pl,cB,bU]
theorem afP:OM ak Ts:=by
 intro x y vx vy W hx hy rx ry;obtain⟨n,hn⟩:=gH.1 (adQ x y hx hy);refine (T9 Oz (tl.none fun _=>rfl) (fun f g md q hf=>by cases hf) (show aD.fn Ts=_ from sQC) rfl rfl hn rfl ⟨rfl,fun i c v hc hv=>?_⟩ (TO (fun _=>rfl))).mono ?_
 ·match i with
  |0=>simp at hc hv; subst hc; subst hv; exact rx
  |1=>simp at hc hv; subst hc; subst hv; exact ry
  |i+2=>simp at hc
 ·rintro e w' ⟨v,rfl,hr,hg⟩;cases hr;exact⟨rfl,hg⟩
end Go.BmZ
