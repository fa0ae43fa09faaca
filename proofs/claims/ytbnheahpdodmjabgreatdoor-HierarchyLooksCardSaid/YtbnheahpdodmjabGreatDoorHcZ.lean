/- The comparison of hierarchy.gathered, over a configuration without oracles: what is asked of a comparison. -/
import Derived.Test.YtbnheahpdodmjabGreatDoorUseM
import Derived.Test.YtbnheahpdodmjabGreatDoorCfZ
import Derived.Test.YtbnheahpdodmjabGreatDoorPsO
set_option linter.unusedSimpArgs false
set_option linter.unusedVariables false
set_option maxRecDepth 100000
set_option maxHeartbeats 4000000
open Go.Proofs.Tryz renaming prog → ak
open List renaming drop_eq_getElem_cons → bz, drop_zero → cP
open Nat renaming le_of_ble_eq_true → au
namespace Go.BmZ
open Go.Am Go.Bm Go.BmP
def km:List Int->List Int->Option Int
 |[],_=>none
 |_::_,[]=>some 1
 |x::r,y::s=>if y<x then some 1 else if x<y then some (-1) else km r s
theorem BC:∀a b:List Int,ji a b=(km a b).getD (if a.length<b.length then -1 else 0)
 |[],[]=>rfl
 |[],_::_=>by simp[ji,km]
 |_::_,[]=>rfl
 |x::r,y::s=>by
   have ih:=BC r s;unfold ji km;split
   ·rfl
   ·split
    ·rfl
    ·rw[ih]; simp
theorem ET (x:Int):bJ aq wx [.int .i64 x] []=some (.bool false,[]):=by
 rw[qz oQb3 QT (au rfl)];unfold Xg cQb3;simp[Xe,Xd,Go.BmZ.tj,Go.BmZ.uU,bL,bC]
def BS (x y:Int):Int:=if x<y then -1 else if y<x then 1 else 0
theorem VX (x y:Int):bJ aq Ny [.int .i64 x,.int .i64 y] []=some (.int .i64 (BS x y),[]):=by
 rw[qz oQ5 sQ5 (au rfl)];have hx:=ET x;have hy:=ET y;unfold qQ5 cQ5 BS;by_cases h1:x<y
 ·simp[La,K9,K8,K7,K6,K5,K4,K3,K2,K1,C8,C7,C6,C5,Go.BmZ.tj,Go.BmZ.uU,hx,hy,h1,QT,XX,vQb3,lQb3,bL,bC]
 ·by_cases h2:y<x
  ·simp[La,K9,K8,K7,K6,K5,K4,K3,K2,K1,C8,C7,C6,C5,Go.BmZ.tj,Go.BmZ.uU,hx,hy,h1,h2,QT,XX,vQb3,lQb3,bL,bC]
  ·simp[La,K9,K8,K7,K6,K5,K4,K3,K2,K1,C8,C7,C6,C5,Go.BmZ.tj,Go.BmZ.uU,hx,hy,h1,h2,QT,XX,vQb3,lQb3,bL,bC]
theorem vV (a b:List Int) (hl:a.length<4294967295) (hb:b.length<4294967295):∀(n i:Nat),i+n=a.length->aW aq 0 (.loop qt) ⟨[(0,.list 1 (ints a)),(1,.list 1 (ints b)),(9,.list 1 (ints a)),(10,.int .i64 a.length),(11,.int .i64 i)],[]⟩ =
  match km (a.drop i) (b.drop i) with
  |some v=>some (.ret,⟨[(4,.int .i64 v)],[]⟩)
  |none=>some (.exit 0,⟨[(0,.list 1 (ints a)),(1,.list 1 (ints b)),(9,.list 1 (ints a)),(10,.int .i64 a.length),(11,.int .i64 a.length),(12,.bool false)],[]⟩)
 |0,i,hi=>by
   have e:i=a.length:=by omega
   subst e;rw[List.drop_length];unfold km;exact bn (by unfold qt; simp[kM,kL,kK,kJ,kI,kH,kG,kF,kD,kC,iV,iU,iT,iS,Go.BmZ.tj])
 |n+1,i,hi=>by
   have bE:i<a.length:=by omega
   have h1:(i:Int)<a.length:=by omega
   have hw:=dA (i:=i) (by omega);have ih:=vV a b hl hb n (i+1) (by omega);rw[bz bE];by_cases hk:i<b.length
   ·have h2:(i:Int)<b.length:=by omega
    have N7:¬(b.length:Int)<=i:=by omega
    have hc:=VX a[i] b[i];rw[bz hk];unfold km;by_cases hg:b[i]<a[i]
    ·have RP:¬a[i]<b[i]:=by omega
     have e:BS a[i] b[i]=1:=by unfold BS; rw[if_neg RP,if_pos hg]
     rw[e] at hc;rw[if_pos hg];exact dM (by unfold qt; simp[kM,kL,kK,kJ,kI,kH,kG,kF,kD,kC,iV,iU,iT,iS,Go.BmZ.tj,Go.BmZ.uU,h1,bE,h2,N7,hk,hc,sQ5,iQ5,vQ5,lQ5,ah,aQ,bu,idx])
    ·rw[if_neg hg];by_cases hs:a[i]<b[i]
     ·have e:BS a[i] b[i]=-1:=by unfold BS; rw[if_pos hs]
      rw[e] at hc;rw[if_pos hs];exact dM (by unfold qt; simp[kM,kL,kK,kJ,kI,kH,kG,kF,kD,kC,iV,iU,iT,iS,Go.BmZ.tj,Go.BmZ.uU,h1,bE,h2,N7,hk,hc,sQ5,iQ5,vQ5,lQ5,ah,aQ,bu,idx])
     ·have e:BS a[i] b[i]=0:=by unfold BS; rw[if_neg hs,if_neg hg]
      rw[e] at hc;rw[if_neg hs];exact (aS (by unfold qt; simp[kM,kL,kK,kJ,kI,kH,kG,kF,kD,kC,iV,iU,iT,iS,Go.BmZ.tj,Go.BmZ.uU,h1,bE,h2,N7,hk,hc,hw,sQ5,iQ5,vQ5,lQ5,ah,aQ,bu,idx])).trans ih
   ·have N7:(b.length:Int)<=i:=by omega
    have e0:b.drop i=[]:=List.drop_eq_nil_of_le (by omega);rw[e0];unfold km;exact dM (by unfold qt; simp[kM,kL,kK,kJ,kI,kH,kG,kF,kD,kC,iV,iU,iT,iS,Go.BmZ.tj,Go.BmZ.uU,h1,bE,N7,hk,ah,aQ,bu,idx])
theorem Jo (a b:List Int) (hl:a.length<4294967295) (hb:b.length<4294967295):bJ aq xn [.list 1 (ints a),.list 1 (ints b)] []=some (.int .i64 (ji a b),[]):=by
 rw[qz oQb4 sQb4 (au rfl),BC];have h:=vV a b hl hb a.length 0 (by omega);rw[fH,cP,cP] at h;unfold Xf cQb4;cases hx:km a b with
 |some v=>
   rw[hx] at h;simp only at h;rw[Option.getD_some];simp[kM,kL,kK,kJ,kI,kH,kG,kF,kD,kC,iV,iU,iT,iS,Go.BmZ.tj,Go.BmZ.uU,h,ah,bL,bC]
 |none=>
   rw[hx] at h;simp only at h;rw[Option.getD_none];by_cases bE:a.length<b.length
   ·have h1:(a.length:Int)<b.length:=by omega
    simp[kM,kL,kK,kJ,kI,kH,kG,kF,kD,kC,iV,iU,iT,iS,Go.BmZ.tj,Go.BmZ.uU,h,bE,h1,ah,bL,bC]
   ·have h1:¬(a.length:Int)<b.length:=by omega
    simp[kM,kL,kK,kJ,kI,kH,kG,kF,kD,kC,iV,iU,iT,iS,Go.BmZ.tj,Go.BmZ.uU,h,bE,h1,ah,bL,bC]
theorem T3 (a b:List Int) (hl:a.length<4294967295) (hb:b.length<4294967295):bJ aq Rq [.list 1 (ints a),.list 1 (ints b)] []=some (.int .i64 (ji a b),[]):=by
 rw[qz oQ6 sQ6 (au rfl)];have h:=Jo a b hl hb;unfold qQ6 cQ6;simp[ae0,aeZ,Go.BmZ.tj,Go.BmZ.uU,h,sQb4,iQb4,vQb4,lQb4,bL,bC]
theorem Xl (a b:Int):bJ aq Pw [.list 1 [.int .i64 a,.int .i64 b]] []=some (.int .i64 (if a=0 then b else a),[]):=by
 rw[qz oQ4 sQ4 (au rfl)];have t2:IntKind.i64.wrap 2=2:=by decide
 have l3:aW aq 0 (.loop rj) ⟨[(3,.int .i64 0),(6,.list 1 [.int .i64 a,.int .i64 b]),(7,.int .i64 2),(8,.int .i64 2)],[]⟩=some (.exit 0,⟨[(3,.int .i64 0),(6,.list 1 [.int .i64 a,.int .i64 b]),(7,.int .i64 2),(8,.int .i64 2),(9,.bool false)],[]⟩):=
  bn (by unfold rj; simp[pw,pq,po,pk,pj,ph,pg,pf,pe,Go.BmZ.tj,aH,aN,bI,cV,dY,aM,aR,aK,ah,aQ,bu,bL,bC])
 have l2:aW aq 0 (.loop rj) ⟨[(3,.int .i64 0),(6,.list 1 [.int .i64 a,.int .i64 b]),(7,.int .i64 2),(8,.int .i64 1)],[]⟩=if b=0 then some (.exit 0,⟨[(3,.int .i64 0),(6,.list 1 [.int .i64 a,.int .i64 b]),(7,.int .i64 2),(8,.int .i64 2),(9,.bool false)],[]⟩) else some (.ret,⟨[(2,.int .i64 b)],[]⟩):=by
  by_cases hb:b=0
  ·subst hb;rw[if_pos rfl];exact (aS (by unfold rj; simp[pw,pq,po,pk,pj,ph,pg,pf,pe,Go.BmZ.tj,Go.BmZ.uU,idx,t2,aH,aN,bI,cV,dY,aM,aR,aK,ah,aQ,bu,bL,bC])).trans l3
  ·rw[if_neg hb];exact dM (by unfold rj; simp[pw,pq,po,pk,pj,ph,pg,pf,pe,Go.BmZ.tj,Go.BmZ.uU,hb,idx,aH,aN,bI,cV,dY,aM,aR,aK,ah,aQ,bu,bL,bC])
 have l1:aW aq 0 (.loop rj) ⟨[(3,.int .i64 0),(6,.list 1 [.int .i64 a,.int .i64 b]),(7,.int .i64 2),(8,.int .i64 0)],[]⟩=if a=0 then (if b=0 then some (.exit 0,⟨[(3,.int .i64 0),(6,.list 1 [.int .i64 a,.int .i64 b]),(7,.int .i64 2),(8,.int .i64 2),(9,.bool false)],[]⟩) else some (.ret,⟨[(2,.int .i64 b)],[]⟩)) else some (.ret,⟨[(2,.int .i64 a)],[]⟩):=by
  by_cases ha:a=0
  ·subst ha;rw[if_pos rfl];exact (aS (by unfold rj; simp[pw,pq,po,pk,pj,ph,pg,pf,pe,Go.BmZ.tj,Go.BmZ.uU,idx,aH,aN,bI,cV,dY,aM,aR,aK,ah,aQ,bu,bL,bC])).trans l2
  ·rw[if_neg ha];exact dM (by unfold rj; simp[pw,pq,po,pk,pj,ph,pg,pf,pe,Go.BmZ.tj,Go.BmZ.uU,ha,idx,aH,aN,bI,cV,dY,aM,aR,aK,ah,aQ,bu,bL,bC])
 clear l2 l3;unfold qQ4 cQ4;by_cases ha:a=0
 ·subst ha;rw[if_pos rfl] at l1;by_cases hb:b=0
  ·subst hb;rw[if_pos rfl] at l1;simp[pw,pq,po,pk,pj,ph,pg,pf,pe,Go.BmZ.tj,Go.BmZ.uU,l1,aH,aN,bI,cV,dY,aM,aR,aK,ah,aQ,bu,bL,bC]
  ·rw[if_neg hb] at l1;simp[pw,pq,po,pk,pj,ph,pg,pf,pe,Go.BmZ.tj,Go.BmZ.uU,l1,hb,aH,aN,bI,cV,dY,aM,aR,aK,ah,aQ,bu,bL,bC]
 ·rw[if_neg ha] at l1;simp[pw,pq,po,pk,pj,ph,pg,pf,pe,Go.BmZ.tj,Go.BmZ.uU,l1,ha,aH,aN,bI,cV,dY,aM,aR,aK,ah,aQ,bu,bL,bC]
theorem amS (x y:Int):BS x y=Go.Bm.uD x y:=by
 unfold BS Go.Bm.uD;split<;>split<;>(try split)<;>omega
theorem amN (x y:Pt) (hx:x.2.2.length<=1000) (hy:y.2.2.length<=1000):bJ aq nQ3 [bw x,bw y] []=some (.int .i64 (YC x y),[]):=by
 obtain⟨a,b,s⟩:=x;obtain⟨c,d,t⟩:=y;have h1:=VX a c;have h2:=T3 s t (by simp at hx; omega) (by simp at hy; omega);have h3:=Xl (BS a c) (ji s t);have e:YC (a,b,s) (c,d,t)=if BS a c=0 then ji s t else BS a c:=by rw[amS]; rfl
 rw[e];generalize (if BS a c=0 then ji s t else BS a c)=z at *;generalize BS a c=u at *;generalize ji s t=v at *;rw[qz oQ3 sQ3 (au rfl)];unfold qQ3 cQ3 bw;simp[aku,akt,Go.BmZ.tj,Go.BmZ.uU,h1,h2,h3,aH,sQ5,iQ5,vQ5,lQ5,sQ4,iQ4,vQ4,lQ4,sQ6,iQ6,vQ6,lQ6,dc,pl,bL,bC]
theorem an4:YV ak nQ3:=by
 intro x y vx vy W hx hy rx ry;obtain⟨n,hn⟩:=iv.1 (amN x y hx hy);refine (adw YG (wO.none fun _=>rfl) (fun f g md q hf=>by cases hf) (show aq.fn nQ3=_ from sQ3) rfl rfl hn rfl ⟨rfl,fun i c v hc hv=>?_⟩ (adi (fun _=>rfl))).mono ?_
 ·match i with
  |0=>simp at hc hv; subst hc; subst hv; exact rx
  |1=>simp at hc hv; subst hc; subst hv; exact ry
  |i+2=>simp at hc
 ·rintro e w' ⟨v,rfl,hr,hg⟩;cases hr;exact⟨rfl,hg⟩
end Go.BmZ
