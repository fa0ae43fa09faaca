/- The comparison of hierarchy.gathered, over a configuration without oracles: what is asked of a comparison. -/
import Derived.Test.YtpimmjklbakckaaGreatDoorUseM
import Derived.Test.YtpimmjklbakckaaGreatDoorCfZ
import Derived.Test.YtpimmjklbakckaaGreatDoorPsO
set_option linter.unusedSimpArgs false
set_option linter.unusedVariables false
set_option maxRecDepth 100000
set_option maxHeartbeats 4000000
open Go.Proofs.Tryz renaming prog → aj
open List renaming drop_eq_getElem_cons → bH, drop_zero → dc
open Nat renaming le_of_ble_eq_true → aF
namespace Go.BmZ
open Go.Am Go.Bm Go.BmP
def mI:List Int->List Int->Option Int
 |[],_=>none
 |_::_,[]=>some 1
 |x::r,y::s=>if y<x then some 1 else if x<y then some (-1) else mI r s
theorem Bs:∀a b:List Int,iI a b=(mI a b).getD (if a.length<b.length then -1 else 0)
 |[],[]=>rfl
 |[],_::_=>by simp[iI,mI]
 |_::_,[]=>rfl
 |x::r,y::s=>by
   have ih:=Bs r s;unfold iI mI;split
   ·rfl
   ·split
    ·rfl
    ·rw[ih]; simp
theorem AY (x:Int):bU aC O5 [.int .i64 x] []=some (.bool false,[]):=by
 rw[nJ oQX sQX (aF rfl)];unfold qQX cQX;simp[XU,XT,Go.BmZ.qQ,Go.BmZ.empN,Go.BmZ.movN,cc,bR]
def yI (x y:Int):Int:=if x<y then -1 else if y<x then 1 else 0
theorem OG (x y:Int):bU aC Lw [.int .i64 x,.int .i64 y] []=some (.int .i64 (yI x y),[]):=by
 rw[nJ oQG Xy (aF rfl)];have hx:=AY x;have hy:=AY y;unfold qQG cQG yI;by_cases h1:x<y
 ·simp[FL,FK,FJ,FI,FH,FG,FF,FE,FD,FC,zt,zr,zq,zp,Go.BmZ.qQ,Go.BmZ.empN,Go.BmZ.movN,hx,hy,h1,sQX,iQX,lQX,cc,bR]
 ·by_cases h2:y<x
  ·simp[FL,FK,FJ,FI,FH,FG,FF,FE,FD,FC,zt,zr,zq,zp,Go.BmZ.qQ,Go.BmZ.empN,Go.BmZ.movN,hx,hy,h1,h2,sQX,iQX,lQX,cc,bR]
  ·simp[FL,FK,FJ,FI,FH,FG,FF,FE,FD,FC,zt,zr,zq,zp,Go.BmZ.qQ,Go.BmZ.empN,Go.BmZ.movN,hx,hy,h1,h2,sQX,iQX,lQX,cc,bR]
theorem tj (a b:List Int) (hl:a.length<4294967295) (hb:b.length<4294967295):∀(n i:Nat),i+n=a.length->bg aC 0 (.loop tA) ⟨[(0,.list 1 (ints a)),(1,.list 1 (ints b)),(9,.list 1 (ints a)),(10,.int .i64 a.length),(11,.int .i64 i)],[]⟩ =
  match mI (a.drop i) (b.drop i) with
  |some v=>some (.ret,⟨[(4,.int .i64 v)],[]⟩)
  |none=>some (.exit 0,⟨[(0,.list 1 (ints a)),(1,.list 1 (ints b)),(9,.list 1 (ints a)),(10,.int .i64 a.length),(11,.int .i64 a.length),(12,.bool false)],[]⟩)
 |0,i,hi=>by
   have e:i=a.length:=by omega
   subst e;rw[List.drop_length];unfold mI;exact bI (by unfold tA; simp[oP,oO,oN,oM,oL,oK,oJ,oI,oH,oG,jG,jF,jE,jD,Go.BmZ.qQ])
 |n+1,i,hi=>by
   have bQ:i<a.length:=by omega
   have h1:(i:Int)<a.length:=by omega
   have hw:=eO (i:=i) (by omega);have ih:=tj a b hl hb n (i+1) (by omega);rw[bH bQ];by_cases hk:i<b.length
   ·have h2:(i:Int)<b.length:=by omega
    have QG:¬(b.length:Int)<=i:=by omega
    have hc:=OG a[i] b[i];rw[bH hk];unfold mI;by_cases hg:b[i]<a[i]
    ·have QB:¬a[i]<b[i]:=by omega
     have e:yI a[i] b[i]=1:=by unfold yI; rw[if_neg QB,if_pos hg]
     rw[e] at hc;rw[if_pos hg];exact eJ (by unfold tA; simp[oP,oO,oN,oM,oL,oK,oJ,oI,oH,oG,jG,jF,jE,jD,Go.BmZ.qQ,Go.BmZ.empN,Go.BmZ.movN,h1,bQ,h2,QG,hk,hc,Xy,iQG,lQG,ah,aU,bm,idx])
    ·rw[if_neg hg];by_cases hs:a[i]<b[i]
     ·have e:yI a[i] b[i]=-1:=by unfold yI; rw[if_pos hs]
      rw[e] at hc;rw[if_pos hs];exact eJ (by unfold tA; simp[oP,oO,oN,oM,oL,oK,oJ,oI,oH,oG,jG,jF,jE,jD,Go.BmZ.qQ,Go.BmZ.empN,Go.BmZ.movN,h1,bQ,h2,QG,hk,hc,Xy,iQG,lQG,ah,aU,bm,idx])
     ·have e:yI a[i] b[i]=0:=by unfold yI; rw[if_neg hs,if_neg hg]
      rw[e] at hc;rw[if_neg hs];exact (bk (by unfold tA; simp[oP,oO,oN,oM,oL,oK,oJ,oI,oH,oG,jG,jF,jE,jD,Go.BmZ.qQ,Go.BmZ.empN,Go.BmZ.movN,h1,bQ,h2,QG,hk,hc,hw,Xy,iQG,lQG,ah,aU,bm,idx])).trans ih
   ·have QG:(b.length:Int)<=i:=by omega
    have e0:b.drop i=[]:=List.drop_eq_nil_of_le (by omega);rw[e0];unfold mI;exact eJ (by unfold tA; simp[oP,oO,oN,oM,oL,oK,oJ,oI,oH,oG,jG,jF,jE,jD,Go.BmZ.qQ,Go.BmZ.empN,Go.BmZ.movN,h1,bQ,QG,hk,ah,aU,bm,idx])
theorem ER (a b:List Int) (hl:a.length<4294967295) (hb:b.length<4294967295):bU aC Qm [.list 1 (ints a),.list 1 (ints b)] []=some (.int .i64 (iI a b),[]):=by
 rw[nJ oQY sQY (aF rfl),Bs];have h:=tj a b hl hb a.length 0 (by omega);rw[jJ,dc,dc] at h;unfold qQY cQY;cases hx:mI a b with
 |some v=>
   rw[hx] at h;simp only at h;rw[Option.getD_some];simp[oP,oO,oN,oM,oL,oK,oJ,oI,oH,oG,jG,jF,jE,jD,Go.BmZ.qQ,Go.BmZ.empN,Go.BmZ.movN,h,ah,cc,bR]
 |none=>
   rw[hx] at h;simp only at h;rw[Option.getD_none];by_cases bQ:a.length<b.length
   ·have h1:(a.length:Int)<b.length:=by omega
    simp[oP,oO,oN,oM,oL,oK,oJ,oI,oH,oG,jG,jF,jE,jD,Go.BmZ.qQ,Go.BmZ.empN,Go.BmZ.movN,h,bQ,h1,ah,cc,bR]
   ·have h1:¬(a.length:Int)<b.length:=by omega
    simp[oP,oO,oN,oM,oL,oK,oJ,oI,oH,oG,jG,jF,jE,jD,Go.BmZ.qQ,Go.BmZ.empN,Go.BmZ.movN,h,bQ,h1,ah,cc,bR]
theorem MU (a b:List Int) (hl:a.length<4294967295) (hb:b.length<4294967295):bU aC Qn [.list 1 (ints a),.list 1 (ints b)] []=some (.int .i64 (iI a b),[]):=by
 rw[nJ oQH sQH (aF rfl)];have h:=ER a b hl hb;unfold qQH cQH;simp[X0,XZ,Go.BmZ.qQ,Go.BmZ.empN,Go.BmZ.movN,h,sQY,iQY,lQY,cc,bR]
theorem P4 (a b:Int):bU aC O6 [.list 1 [.int .i64 a,.int .i64 b]] []=some (.int .i64 (if a=0 then b else a),[]):=by
 rw[nJ oQF sQF (aF rfl)];have t2:IntKind.i64.wrap 2=2:=by decide
 have l3:bg aC 0 (.loop oR) ⟨[(3,.int .i64 0),(6,.list 1 [.int .i64 a,.int .i64 b]),(7,.int .i64 2),(8,.int .i64 2)],[]⟩=some (.exit 0,⟨[(3,.int .i64 0),(6,.list 1 [.int .i64 a,.int .i64 b]),(7,.int .i64 2),(8,.int .i64 2),(9,.bool false)],[]⟩):=
  bI (by unfold oR; simp[mj,mh,mg,me,l9,l8,l7,l6,l5,Go.BmZ.qQ,aJ,aS,bG,cU,dR,aM,aV,aL,ah,aU,bm,cc,bR])
 have l2:bg aC 0 (.loop oR) ⟨[(3,.int .i64 0),(6,.list 1 [.int .i64 a,.int .i64 b]),(7,.int .i64 2),(8,.int .i64 1)],[]⟩=if b=0 then some (.exit 0,⟨[(3,.int .i64 0),(6,.list 1 [.int .i64 a,.int .i64 b]),(7,.int .i64 2),(8,.int .i64 2),(9,.bool false)],[]⟩) else some (.ret,⟨[(2,.int .i64 b)],[]⟩):=by
  by_cases hb:b=0
  ·subst hb;rw[if_pos rfl];exact (bk (by unfold oR; simp[mj,mh,mg,me,l9,l8,l7,l6,l5,Go.BmZ.qQ,Go.BmZ.empN,Go.BmZ.movN,idx,t2,aJ,aS,bG,cU,dR,aM,aV,aL,ah,aU,bm,cc,bR])).trans l3
  ·rw[if_neg hb];exact eJ (by unfold oR; simp[mj,mh,mg,me,l9,l8,l7,l6,l5,Go.BmZ.qQ,Go.BmZ.empN,Go.BmZ.movN,hb,idx,aJ,aS,bG,cU,dR,aM,aV,aL,ah,aU,bm,cc,bR])
 have l1:bg aC 0 (.loop oR) ⟨[(3,.int .i64 0),(6,.list 1 [.int .i64 a,.int .i64 b]),(7,.int .i64 2),(8,.int .i64 0)],[]⟩=if a=0 then (if b=0 then some (.exit 0,⟨[(3,.int .i64 0),(6,.list 1 [.int .i64 a,.int .i64 b]),(7,.int .i64 2),(8,.int .i64 2),(9,.bool false)],[]⟩) else some (.ret,⟨[(2,.int .i64 b)],[]⟩)) else some (.ret,⟨[(2,.int .i64 a)],[]⟩):=by
  by_cases ha:a=0
  ·subst ha;rw[if_pos rfl];exact (bk (by unfold oR; simp[mj,mh,mg,me,l9,l8,l7,l6,l5,Go.BmZ.qQ,Go.BmZ.empN,Go.BmZ.movN,idx,aJ,aS,bG,cU,dR,aM,aV,aL,ah,aU,bm,cc,bR])).trans l2
  ·rw[if_neg ha];exact eJ (by unfold oR; simp[mj,mh,mg,me,l9,l8,l7,l6,l5,Go.BmZ.qQ,Go.BmZ.empN,Go.BmZ.movN,ha,idx,aJ,aS,bG,cU,dR,aM,aV,aL,ah,aU,bm,cc,bR])
 clear l2 l3;unfold qQF cQF;by_cases ha:a=0
 ·subst ha;rw[if_pos rfl] at l1;by_cases hb:b=0
  ·subst hb;rw[if_pos rfl] at l1;simp[mj,mh,mg,me,l9,l8,l7,l6,l5,Go.BmZ.qQ,Go.BmZ.empN,Go.BmZ.movN,l1,aJ,aS,bG,cU,dR,aM,aV,aL,ah,aU,bm,cc,bR]
  ·rw[if_neg hb] at l1;simp[mj,mh,mg,me,l9,l8,l7,l6,l5,Go.BmZ.qQ,Go.BmZ.empN,Go.BmZ.movN,l1,hb,aJ,aS,bG,cU,dR,aM,aV,aL,ah,aU,bm,cc,bR]
 ·rw[if_neg ha] at l1;simp[mj,mh,mg,me,l9,l8,l7,l6,l5,Go.BmZ.qQ,Go.BmZ.empN,Go.BmZ.movN,l1,ha,aJ,aS,bG,cU,dR,aM,aV,aL,ah,aU,bm,cc,bR]
theorem afH (x y:Int):yI x y=Go.Bm.rK x y:=by
 unfold yI Go.Bm.rK;split<;>split<;>(try split)<;>omega
theorem afC (x y:Pt) (hx:x.2.2.length<=1000) (hy:y.2.2.length<=1000):bU aC V6 [dZ x,dZ y] []=some (.int .i64 (Q6 x y),[]):=by
 obtain⟨a,b,s⟩:=x;obtain⟨c,d,t⟩:=y;have h1:=OG a c;have h2:=MU s t (by simp at hx; omega) (by simp at hy; omega);have h3:=P4 (yI a c) (iI s t);have e:Q6 (a,b,s) (c,d,t)=if yI a c=0 then iI s t else yI a c:=by rw[afH]; rfl
 rw[e];generalize (if yI a c=0 then iI s t else yI a c)=z at *;generalize yI a c=u at *;generalize iI s t=v at *;rw[nJ oQE sQE (aF rfl)];unfold qQE cQE dZ;simp[adn,adm,Go.BmZ.qQ,Go.BmZ.empN,Go.BmZ.movN,h1,h2,h3,aJ,Xy,iQG,lQG,sQF,iQF,lQF,sQH,iQH,lQH,eE,pl,cc,bR]
theorem ahy:Rq aj V6:=by
 intro x y vx vy W hx hy rx ry;obtain⟨n,hn⟩:=gL.1 (afC x y hx hy);refine (WR Q9 (tM.none fun _=>rfl) (fun f g md q hf=>by cases hf) (show aC.fn V6=_ from sQE) rfl rfl hn rfl ⟨rfl,fun i c v hc hv=>?_⟩ (Wu (fun _=>rfl))).mono ?_
 ·match i with
  |0=>simp at hc hv; subst hc; subst hv; exact rx
  |1=>simp at hc hv; subst hc; subst hv; exact ry
  |i+2=>simp at hc
 ·rintro e w' ⟨v,rfl,hr,hg⟩;cases hr;exact⟨rfl,hg⟩
end Go.BmZ
