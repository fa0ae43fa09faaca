/- The comparison of hierarchy.gathered, over a configuration without oracles: what is asked of a comparison. -/
import Derived.Test.YtbnheahpdodmjaaGreatDoorUseM
import Derived.Test.YtbnheahpdodmjaaGreatDoorCfZ
import Derived.Test.YtbnheahpdodmjaaGreatDoorPsO
set_option linter.unusedSimpArgs false
set_option linter.unusedVariables false
set_option maxRecDepth 100000
set_option maxHeartbeats 4000000
open Go.Proofs.Tryz renaming prog → aj
open List renaming drop_eq_getElem_cons → bg, drop_zero → ct
open Nat renaming le_of_ble_eq_true → aB
namespace Go.BmZ
open Go.Am Go.Bm Go.BmP
def kc:List Int->List Int->Option Int
 |[],_=>none
 |_::_,[]=>some 1
 |x::r,y::s=>if y<x then some 1 else if x<y then some (-1) else kc r s
theorem Be:∀a b:List Int,ja a b=(kc a b).getD (if a.length<b.length then -1 else 0)
 |[],[]=>rfl
 |[],_::_=>by simp[ja,kc]
 |_::_,[]=>rfl
 |x::r,y::s=>by
   have ih:=Be r s;unfold ja kc;split
   ·rfl
   ·split
    ·rfl
    ·rw[ih]; simp
theorem Ei (x:Int):bu an vL [.int .i64 x] []=some (.bool false,[]):=by
 rw[p7 oQa5 PE (aB rfl)];unfold VT cQa5;simp[VR,VQ,Go.BmZ.sO,Go.BmZ.tZ,bM,bI]
def Bu (x y:Int):Int:=if x<y then -1 else if y<x then 1 else 0
theorem Uw (x y:Int):bu an MA [.int .i64 x,.int .i64 y] []=some (.int .i64 (Bu x y),[]):=by
 rw[p7 oQZ sQZ (aB rfl)];have hx:=Ei x;have hy:=Ei y;unfold qQZ cQZ Bu;by_cases h1:x<y
 ·simp[JX,JW,JV,JU,JT,JS,JR,JQ,JP,JO,Cw,Cv,Cu,Ct,Go.BmZ.sO,Go.BmZ.tZ,hx,hy,h1,PE,Ww,vQa5,lQa5,bM,bI]
 ·by_cases h2:y<x
  ·simp[JX,JW,JV,JU,JT,JS,JR,JQ,JP,JO,Cw,Cv,Cu,Ct,Go.BmZ.sO,Go.BmZ.tZ,hx,hy,h1,h2,PE,Ww,vQa5,lQa5,bM,bI]
  ·simp[JX,JW,JV,JU,JT,JS,JR,JQ,JP,JO,Cw,Cv,Cu,Ct,Go.BmZ.sO,Go.BmZ.tZ,hx,hy,h1,h2,PE,Ww,vQa5,lQa5,bM,bI]
theorem vC (a b:List Int) (hl:a.length<4294967295) (hb:b.length<4294967295):∀(n i:Nat),i+n=a.length->aY an 0 (.loop pS) ⟨[(0,.list 1 (ints a)),(1,.list 1 (ints b)),(9,.list 1 (ints a)),(10,.int .i64 a.length),(11,.int .i64 i)],[]⟩ =
  match kc (a.drop i) (b.drop i) with
  |some v=>some (.ret,⟨[(4,.int .i64 v)],[]⟩)
  |none=>some (.exit 0,⟨[(0,.list 1 (ints a)),(1,.list 1 (ints b)),(9,.list 1 (ints a)),(10,.int .i64 a.length),(11,.int .i64 a.length),(12,.bool false)],[]⟩)
 |0,i,hi=>by
   have e:i=a.length:=by omega
   subst e;rw[List.drop_length];unfold kc;exact bt (by unfold pS; simp[kD,kC,kB,kA,kz,ku,ks,ko,km,kj,iM,iL,iK,iJ,Go.BmZ.sO])
 |n+1,i,hi=>by
   have bF:i<a.length:=by omega
   have h1:(i:Int)<a.length:=by omega
   have hw:=dO (i:=i) (by omega);have ih:=vC a b hl hb n (i+1) (by omega);rw[bg bF];by_cases hk:i<b.length
   ·have h2:(i:Int)<b.length:=by omega
    have E6:¬(b.length:Int)<=i:=by omega
    have hc:=Uw a[i] b[i];rw[bg hk];unfold kc;by_cases hg:b[i]<a[i]
    ·have Qq:¬a[i]<b[i]:=by omega
     have e:Bu a[i] b[i]=1:=by unfold Bu; rw[if_neg Qq,if_pos hg]
     rw[e] at hc;rw[if_pos hg];exact cZ (by unfold pS; simp[kD,kC,kB,kA,kz,ku,ks,ko,km,kj,iM,iL,iK,iJ,Go.BmZ.sO,Go.BmZ.tZ,h1,bF,h2,E6,hk,hc,sQZ,iQZ,vQZ,lQZ,ah,aN,aZ,idx])
    ·rw[if_neg hg];by_cases hs:a[i]<b[i]
     ·have e:Bu a[i] b[i]=-1:=by unfold Bu; rw[if_pos hs]
      rw[e] at hc;rw[if_pos hs];exact cZ (by unfold pS; simp[kD,kC,kB,kA,kz,ku,ks,ko,km,kj,iM,iL,iK,iJ,Go.BmZ.sO,Go.BmZ.tZ,h1,bF,h2,E6,hk,hc,sQZ,iQZ,vQZ,lQZ,ah,aN,aZ,idx])
     ·have e:Bu a[i] b[i]=0:=by unfold Bu; rw[if_neg hs,if_neg hg]
      rw[e] at hc;rw[if_neg hs];exact (aV (by unfold pS; simp[kD,kC,kB,kA,kz,ku,ks,ko,km,kj,iM,iL,iK,iJ,Go.BmZ.sO,Go.BmZ.tZ,h1,bF,h2,E6,hk,hc,hw,sQZ,iQZ,vQZ,lQZ,ah,aN,aZ,idx])).trans ih
   ·have E6:(b.length:Int)<=i:=by omega
    have e0:b.drop i=[]:=List.drop_eq_nil_of_le (by omega);rw[e0];unfold kc;exact cZ (by unfold pS; simp[kD,kC,kB,kA,kz,ku,ks,ko,km,kj,iM,iL,iK,iJ,Go.BmZ.sO,Go.BmZ.tZ,h1,bF,E6,hk,ah,aN,aZ,idx])
theorem Jd (a b:List Int) (hl:a.length<4294967295) (hb:b.length<4294967295):bu an wI [.list 1 (ints a),.list 1 (ints b)] []=some (.int .i64 (ja a b),[]):=by
 rw[p7 oQa6 sQa6 (aB rfl),Be];have h:=vC a b hl hb a.length 0 (by omega);rw[fU,ct,ct] at h;unfold VS cQa6;cases hx:kc a b with
 |some v=>
   rw[hx] at h;simp only at h;rw[Option.getD_some];simp[kD,kC,kB,kA,kz,ku,ks,ko,km,kj,iM,iL,iK,iJ,Go.BmZ.sO,Go.BmZ.tZ,h,ah,bM,bI]
 |none=>
   rw[hx] at h;simp only at h;rw[Option.getD_none];by_cases bF:a.length<b.length
   ·have h1:(a.length:Int)<b.length:=by omega
    simp[kD,kC,kB,kA,kz,ku,ks,ko,km,kj,iM,iL,iK,iJ,Go.BmZ.sO,Go.BmZ.tZ,h,bF,h1,ah,bM,bI]
   ·have h1:¬(a.length:Int)<b.length:=by omega
    simp[kD,kC,kB,kA,kz,ku,ks,ko,km,kj,iM,iL,iK,iJ,Go.BmZ.sO,Go.BmZ.tZ,h,bF,h1,ah,bM,bI]
theorem Sx (a b:List Int) (hl:a.length<4294967295) (hb:b.length<4294967295):bu an P5 [.list 1 (ints a),.list 1 (ints b)] []=some (.int .i64 (ja a b),[]):=by
 rw[p7 oQ0 sQ0 (aB rfl)];have h:=Jd a b hl hb;unfold qQ0 cQ0;simp[adm,adl,Go.BmZ.sO,Go.BmZ.tZ,h,sQa6,iQa6,vQa6,lQa6,bM,bI]
theorem VY (a b:Int):bu an Og [.list 1 [.int .i64 a,.int .i64 b]] []=some (.int .i64 (if a=0 then b else a),[]):=by
 rw[p7 oQY sQY (aB rfl)];have t2:IntKind.i64.wrap 2=2:=by decide
 have l3:aY an 0 (.loop qI) ⟨[(3,.int .i64 0),(6,.list 1 [.int .i64 a,.int .i64 b]),(7,.int .i64 2),(8,.int .i64 2)],[]⟩=some (.exit 0,⟨[(3,.int .i64 0),(6,.list 1 [.int .i64 a,.int .i64 b]),(7,.int .i64 2),(8,.int .i64 2),(9,.bool false)],[]⟩):=
  bt (by unfold qI; simp[oO,oN,oM,oL,oK,oJ,oI,oH,oG,Go.BmZ.sO,aJ,aL,bz,cM,dG,aI,aP,aH,ah,aN,aZ,bM,bI])
 have l2:aY an 0 (.loop qI) ⟨[(3,.int .i64 0),(6,.list 1 [.int .i64 a,.int .i64 b]),(7,.int .i64 2),(8,.int .i64 1)],[]⟩=if b=0 then some (.exit 0,⟨[(3,.int .i64 0),(6,.list 1 [.int .i64 a,.int .i64 b]),(7,.int .i64 2),(8,.int .i64 2),(9,.bool false)],[]⟩) else some (.ret,⟨[(2,.int .i64 b)],[]⟩):=by
  by_cases hb:b=0
  ·subst hb;rw[if_pos rfl];exact (aV (by unfold qI; simp[oO,oN,oM,oL,oK,oJ,oI,oH,oG,Go.BmZ.sO,Go.BmZ.tZ,idx,t2,aJ,aL,bz,cM,dG,aI,aP,aH,ah,aN,aZ,bM,bI])).trans l3
  ·rw[if_neg hb];exact cZ (by unfold qI; simp[oO,oN,oM,oL,oK,oJ,oI,oH,oG,Go.BmZ.sO,Go.BmZ.tZ,hb,idx,aJ,aL,bz,cM,dG,aI,aP,aH,ah,aN,aZ,bM,bI])
 have l1:aY an 0 (.loop qI) ⟨[(3,.int .i64 0),(6,.list 1 [.int .i64 a,.int .i64 b]),(7,.int .i64 2),(8,.int .i64 0)],[]⟩=if a=0 then (if b=0 then some (.exit 0,⟨[(3,.int .i64 0),(6,.list 1 [.int .i64 a,.int .i64 b]),(7,.int .i64 2),(8,.int .i64 2),(9,.bool false)],[]⟩) else some (.ret,⟨[(2,.int .i64 b)],[]⟩)) else some (.ret,⟨[(2,.int .i64 a)],[]⟩):=by
  by_cases ha:a=0
  ·subst ha;rw[if_pos rfl];exact (aV (by unfold qI; simp[oO,oN,oM,oL,oK,oJ,oI,oH,oG,Go.BmZ.sO,Go.BmZ.tZ,idx,aJ,aL,bz,cM,dG,aI,aP,aH,ah,aN,aZ,bM,bI])).trans l2
  ·rw[if_neg ha];exact cZ (by unfold qI; simp[oO,oN,oM,oL,oK,oJ,oI,oH,oG,Go.BmZ.sO,Go.BmZ.tZ,ha,idx,aJ,aL,bz,cM,dG,aI,aP,aH,ah,aN,aZ,bM,bI])
 clear l2 l3;unfold qQY cQY;by_cases ha:a=0
 ·subst ha;rw[if_pos rfl] at l1;by_cases hb:b=0
  ·subst hb;rw[if_pos rfl] at l1;simp[oO,oN,oM,oL,oK,oJ,oI,oH,oG,Go.BmZ.sO,Go.BmZ.tZ,l1,aJ,aL,bz,cM,dG,aI,aP,aH,ah,aN,aZ,bM,bI]
  ·rw[if_neg hb] at l1;simp[oO,oN,oM,oL,oK,oJ,oI,oH,oG,Go.BmZ.sO,Go.BmZ.tZ,l1,hb,aJ,aL,bz,cM,dG,aI,aP,aH,ah,aN,aZ,bM,bI]
 ·rw[if_neg ha] at l1;simp[oO,oN,oM,oL,oK,oJ,oI,oH,oG,Go.BmZ.sO,Go.BmZ.tZ,l1,ha,aJ,aL,bz,cM,dG,aI,aP,aH,ah,aN,aZ,bM,bI]
theorem ali (x y:Int):Bu x y=Go.Bm.tH x y:=by
 unfold Bu Go.Bm.tH;split<;>split<;>(try split)<;>omega
theorem alc (x y:Pt) (hx:x.2.2.length<=1000) (hy:y.2.2.length<=1000):bu an nQX [bH x,bH y] []=some (.int .i64 (Xb x y),[]):=by
 obtain⟨a,b,s⟩:=x;obtain⟨c,d,t⟩:=y;have h1:=Uw a c;have h2:=Sx s t (by simp at hx; omega) (by simp at hy; omega);have h3:=VY (Bu a c) (ja s t);have e:Xb (a,b,s) (c,d,t)=if Bu a c=0 then ja s t else Bu a c:=by rw[ali]; rfl
 rw[e];generalize (if Bu a c=0 then ja s t else Bu a c)=z at *;generalize Bu a c=u at *;generalize ja s t=v at *;rw[p7 oQX sQX (aB rfl)];unfold qQX cQX bH;simp[aiH,aiG,Go.BmZ.sO,Go.BmZ.tZ,h1,h2,h3,aJ,sQZ,iQZ,vQZ,lQZ,sQY,iQY,vQY,lQY,sQ0,iQ0,vQ0,lQ0,dq,pl,bM,bI]
theorem amN:Xw aj nQX:=by
 intro x y vx vy W hx hy rx ry;obtain⟨n,hn⟩:=ia.1 (alc x y hx hy);refine (ab6 Xg (v8.none fun _=>rfl) (fun f g md q hf=>by cases hf) (show an.fn nQX=_ from sQX) rfl rfl hn rfl ⟨rfl,fun i c v hc hv=>?_⟩ (abU (fun _=>rfl))).mono ?_
 ·match i with
  |0=>simp at hc hv; subst hc; subst hv; exact rx
  |1=>simp at hc hv; subst hc; subst hv; exact ry
  |i+2=>simp at hc
 ·rintro e w' ⟨v,rfl,hr,hg⟩;cases hr;exact⟨rfl,hg⟩
end Go.BmZ
