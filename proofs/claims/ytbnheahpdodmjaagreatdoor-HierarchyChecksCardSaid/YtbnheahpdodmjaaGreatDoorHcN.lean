/- core.Numbers. -/
import Derived.Test.YtbnheahpdodmjaaGreatDoorLfP
import Derived.Test.YtbnheahpdodmjaaGreatDoorDegC
import Derived.Test.YtbnheahpdodmjaaGreatDoorHcE
set_option linter.unusedSimpArgs false
set_option linter.unusedVariables false
set_option maxRecDepth 100000
set_option maxHeartbeats 8000000
open List renaming drop_eq_getElem_cons → bg, drop_length → bY, drop_zero → ct, length_cons → cc, mem_cons → aG, mem_cons_of_mem → cH, replicate → aW, take_of_length_le → aK
open Nat renaming le_of_ble_eq_true → aB, or_lt_two_pow → Bz, pow_lt_pow_right → oq
open Option.some renaming injEq → af
open Prod renaming fst → eP
namespace Go.BmP
open Go.Am Go.Bm
theorem afk {N:Nat} {Es:List Ed} (hG:tV (N:Int) Es) (hE:Es.length<1000000) (h0:0<N):∃o ds,Ao (eB N Es) (2 ^ N-1) o ds/\bu an nQA [.agg [.int .i64 N,.list 2 (dA Es)]] [tt N (dA Es)]=some (.dt [.sl 1 3 0 N,.int .i64 0],[tt N (dA Es),tt N (dA Es),some (ints (ns o)),some (ints (rS o ds 0 (aW N 0)))]):=by
 obtain⟨o,ds,hp,pr⟩:=adx hG hE h0;refine⟨o,ds,hp,?_⟩;have g:=ae2 (N:Int) Es (by omega);rw[s6.2 hG] at g;obtain⟨a1,a2,a3,a4,a5,a6,a7,a8,a9,aa,ab⟩:=bj (ns o);obtain⟨b1,b2,b3,b4,b5,b6,b7,b8,b9,ba,bb⟩:=bj (rS o ds 0 (aW N 0));rw[eO sQA (aB rfl)];unfold tt at *;generalize ints (ns o)=O1 at *;generalize ints (rS o ds 0 (aW N 0))=L1 at *;generalize dA Es=Y at *;unfold qQA cQA;simp[aiN,aiM,aiL,aiK,aiJ,aiI,g,pr,a1,a2,a3,a4,a5,a6,a7,a8,a9,aa,ab,b1,b2,b3,b4,b5,b6,b7,b8,b9,ba,bb,aJ,bM,bI,jR,eZ,dq,pl,kg,eJ,pE,qS,gW,ga,eS,lj,pB,zz,iy,yz,tS,nJ,sQU,iQU,sQT,iQT]
/- The sets of a level: hierarchy.Cores$1. -/
def hH (N:Nat) (Y O1 L1 E1:List AV):Heap:=[tt N Y,tt N Y,some O1,some L1,some [.sl 1 3 0 N],some E1]
def T6 (k:Int):List Int->Nat->Nat->Nat
 |[],_,m=>m
 |n::r,v,m=>T6 k r (v+1) (if k<=n then m ||| 2 ^ v else m)
def c1St (N:Nat) (Y O1 L1 E1:List AV) (k:Int) (m:Nat) (i:Int) (J:Env):St:=⟨(0,.int .i64 k)::(2,.ptr 0 0)::(5,.int .u64 m)::(8,.sl 1 3 0 N)::(9,.int .i64 N)::(10,.int .i64 i)::J,hH N Y O1 L1 E1⟩
theorem FF (f:Nat->Rt):∀(l:List Int) (n:Nat),fc f n (ints l)=ints l
 |[],_=>rfl
 |x::r,n=>by
   show AV.int .i64 x::fc f (n+1) (ints r)=_;rw[FF f r]; rfl
theorem aba (N:Nat) (hN:N<=64) (Y O1 E1:List AV) (L:List Int) (hL:L.length=N) (k:Int):∀(n i m:Nat),i+n=N->m<18446744073709551616->aY an 6 (.loop aay) (c1St N Y O1 (ints L) E1 k m i [])=some (.exit 0,c1St N Y O1 (ints L) E1 k (T6 k (L.drop i) i m) N [(11,.bool false)])
 |0,i,m,hi,hm=>by
   obtain rfl:i=N:=by omega
   rw[<-hL,bY,hL];refine bt ?_;unfold c1St hH tt T6 aay;generalize ints L=L1 at *;simp[Y1,Y0,YZ,YY,YX,YW,YV,YU,YT]
 |n+1,i,m,hi,hm=>by
   have bF:i<L.length:=by omega
   have h64:i<64:=by omega
   have p64:2 ^ i<18446744073709551616:=by
    have:=oq (a:=2) (by decide) h64;rw[show (18446744073709551616:Nat)=2 ^ 64 from rfl]; exact this
   have o64:m ||| 2 ^ i<18446744073709551616:=Bz (n:=64) hm p64
   have ih:=aba N hN Y O1 E1 L hL k n (i+1) (if k<=L[i] then m ||| 2 ^ i else m) (by omega) (by split<;>assumption);rw[bg bF,T6];refine (aV ?_).trans ih;have k1:(i:Int)<N:=by omega
   have kn:i<N:=by omega
   have hw:=dO (i:=i) (by omega);have g3:(ints L)[i]?=some (.int .i64 L[i]):=by rw[List.getElem?_eq_getElem (by rw[ah]; exact bF),aZ]
   have g4:∀h,(ints L)[i]'h=.int .i64 L[i]:=fun h=>aZ _ _ _;have ll:=ah L;have mb:=Ek i h64;have w1:=u64_or_nat m (2 ^ i) hm p64;obtain⟨b1,b2,b3,b4,b5,b6,b7,b8,b9,ba,bb⟩:=bj L;have n1:∀f n,fc f n (ints L)=ints L:=fun f n=>FF f L n;clear ih;unfold c1St hH tt aay;generalize ints L=L1 at *;generalize L[i]=x at *;generalize (m ||| 2 ^ i:Nat)=M2 at *;generalize (2 ^ i:Nat)=p at *;by_cases q:k<=x<;>simp[Y1,Y0,YZ,YY,YX,YW,YV,YU,YT,k1,kn,hi,hw,g3,g4,ll,hL,bF,q,n1,mb,w1,b1,b2,b3,b4,b5,b6,b7,b8,b9,ba,bb,idx,aJ,Vy,sQE,iQE]
theorem LB (k:Int):∀(L:List Int) (v m:Nat),v+L.length<=64->m<18446744073709551616->T6 k L v m<18446744073709551616
 |[],_,m,_,hm=>hm
 |n::r,v,m,hv,hm=>by
   rw[T6];rw[cc] at hv;refine LB k r (v+1) _ (by omega) ?_;split
   ·have h64:v<64:=by omega
    have p64:2 ^ v<18446744073709551616:=by
     have:=oq (a:=2) (by decide) h64;rw[show (18446744073709551616:Nat)=2 ^ 64 from rfl]; exact this
    exact Bz (n:=64) hm p64
   ·exact hm
theorem Qw (k:Int):∀(L:List Int) (v m j:Nat),(T6 k L v m).testBit j=(m.testBit j||(decide (v<=j)&&decide (j-v<L.length)&&decide (k<=L.getD (j-v) 0)))
 |[],v,m,j=>by simp[T6]
 |n::r,v,m,j=>by
   rw[T6,Qw k r]
   have e:(if k<=n then m ||| 2 ^ v else m).testBit j=(m.testBit j||(decide (v=j)&&decide (k<=n))):=by
    split
    ·rename_i h; rw[Nat.testBit_or,Nat.testBit_two_pow]; simp[h]
    ·rename_i h; simp[h]
   rw[e,Bool.or_assoc];congr 1;by_cases h1:v=j
   ·subst h1;have h3:¬(v+1<=v):=by omega
    simp[h3]
   ·by_cases h2:v<=j
    ·obtain⟨t,rfl⟩:∃t,j=v+1+t:=⟨j-(v+1),by omega⟩;rw[show v+1+t-v=t+1 by omega,show v+1+t-(v+1)=t by omega];have h3:¬v=v+1+t:=by omega
     have h4:v<=v+1+t:=by omega
     have h5:v+1<=v+1+t:=by omega
     simp[h3,h4,h5]<;>rfl
    ·have h3:¬v+1<=j:=by omega
     simp[h1,h2,h3]
structure Lm (D:List AV):Prop where
 bo:dn D=[]
 ow:bT D=false
 mp:∀g,dc g D=D
 pl:dq D=true
 pt:iy D=[]
 np:∀b,lk b D=true
 pp:eZ D=true
theorem Eo {D:List AV} (h:Lm D) (p:Rt) (f:Nat->Rt) (j:Nat):QH p f j D=none:=QG (by rw[h.bo]; simp)
theorem ux {D:List AV} (h:Lf D) (p:Rt) (f:Nat->Rt) (j:Nat):QH p f j D=none:=QG (by rw[h.bo]; simp)
theorem alv {N:Nat} {Es:List Ed} (hG:tV (N:Int) Es) (hE:Es.length<1000000) (o L:List Int) (hL:L.length=N) (E1:List AV) (hE1:Lm E1) (k:Int) :
  ∃ l,(E4 (eB N Es) (T6 k L 0 0) (T6 k L 0 0) l/\l.length<=64)/\bu an nQD [.int .i64 k,.ptr 4 0,.ptr 0 0] (hH N (dA Es) (ints o) (ints L) E1)=some (.list 1 (gk l),hH N (dA Es) (ints o) (ints L) E1):=by
 have hN:N<=64:=by have:=hG.1.2; omega
 have gl:=LB k L 0 0 (by omega) (by omega)
 obtain⟨l,l1,l2⟩:=WI hG hE gl (fun j hj=>by
  rw[Qw] at hj;simp at hj;omega)
 refine⟨l,l1,?_⟩;have lp:=aba N hN (dA Es) (ints o) E1 L hL k N 0 0 (by omega) (by omega);rw[ct] at lp;have x1:=ux (bj o);have x2:=ux (bj L);have x3:=Eo hE1;obtain⟨a1,a2,a3,a4,a5,a6,a7,a8,a9,aa,ab⟩:=bj o;obtain⟨b1,b2,b3,b4,b5,b6,b7,b8,b9,ba,bb⟩:=bj L;obtain⟨c1,c2,c3,c4,c5,c6,c8⟩:=hE1;have ll:=ah L;rw[eO sQD (aB rfl)];unfold c1St hH tt at *;simp only[fU] at lp;generalize T6 k L 0 0=M at *;generalize gk l=G at *;generalize ints o=O1 at *;generalize ints L=L1 at *;generalize dA Es=Y at *;unfold qQD cQD;simp[Y1,Y0,YZ,YY,YX,YW,YV,YU,YT,x1,x2,x3,lp,l2,ll,hL,a1,a2,a3,a4,a5,a6,a7,a8,a9,aa,ab,b1,b2,b3,b4,b5,b6,b7,b8,b9,ba,bb,c1,c2,c3,c4,c5,c6,c8,aJ,Vy,bM,bI,mM,jR,eZ,dq,pl,kg,eJ,pE,qS,gW,ga,eS,lj,pB,zz,iy,yz,tS,nJ,sQF,iQF]
/- hierarchy.gathered: the sets of a level. -/
theorem px (a:List (List Int × Int)):Lm (C0 a):=by
 induction a with
 |nil=>exact⟨rfl,rfl,fun _=>rfl,rfl,rfl,fun _=>rfl,rfl⟩
 |cons p r ih=>
   refine⟨ih.bo,ih.ow,fun g=>?_,?_,ih.pt,fun b=>ih.np b,?_⟩
   ·show AV.dt [.str (nH p.1),.int .i64 p.2]::dc g (C0 r)=_;rw[ih.mp]; rfl
   ·show (true&&dq (C0 r))=true;rw[ih.pl]; rfl
   ·show (true&&eZ (C0 r))=true;rw[ih.pp]; rfl
def Ik:AV:=.func (.func nQD) [] [.ptr 4 0,.ptr 0 0]
def qH (a:List (List Int × Int)):List AV:=a.map fun p=>bH (0,-1,p.1)
theorem zy (a:List (List Int × Int)):(qH a).length=a.length:=List.length_map _
def amX (a:List (List Int × Int)) (J:Env):Env:=(1,Ik)::(5,pQ 5)::(6,.own 3 (qH a))::J
def M6 (N:Nat) (Y O1 L1:List AV) (a:List (List Int × Int)) (k:Int) (most:Int) (gs:List Nat) (i:Int) (J:Env):St:=
 ⟨(1,Ik)::(5,pQ 5)::(6,.own 3 (qH a))::(7,.int .i64 k)::(17,.int .i64 most)::(18,.int .i64 k)::(23,.list 1 (gk gs))::(24,.int .i64 gs.length)::(25,.int .i64 i)::J,hH N Y O1 L1 (C0 a)⟩
theorem alb {N:Nat} {Y:List AV} (o L:List Int) (a:List (List Int × Int)) (ha:∀p∈a,Lo p.1) (Q4:a.length<=1000) (k most:Int) (gs:List Nat) (i:Nat) (hi:i<gs.length) (tY:gs.length<=1000) (hs:Lo (bW gs[i])) (hf:qN a (bW gs[i]) 0=none) :
  aY an 5 Lc (M6 N Y (ints o) (ints L) a k most gs i [])=some (.normal,M6 N Y (ints o) (ints L) (iH a (bW gs[i]) k) k most gs (i+1:Nat) []):=by
 have k1:(i:Int)<gs.length:=by omega
 have hw:=dO (i:=i) (by omega);have g3:(gk gs)[i]?=some (.list 1 (ints (bW gs[i]))):=by simp[gk,hi]
 have g4:∀h,(gk gs)[i]'h=.list 1 (ints (bW gs[i])):=fun h=>by simp[gk]
 have gl:=gj gs;have bl:=mY gs[i];have kr:=Qd (bW gs[i]) (by omega) hs;have mf:=AP hs ha 0;rw[hf] at mf;have mp:=aal (bW gs[i]) k a;rw[hf] at mp
 have kq:AW .CR (.str (nH (bW gs[i]))) (.str (nH (bW gs[i])))=some true:=by
  simp only[AW,af]; exact (MapKept.bytes_beq _ _).2 rfl
 have us:=Ay a (bW gs[i]) k;rw[hf] at us
 have pA:qH (iH a (bW gs[i]) k)=qH a++[bH (0,-1,bW gs[i])]:=by
  have e:∀b:List (List Int × Int),qH b=(b.map eP).map fun s=>bH (0,-1,s):=fun b=>by simp[qH]
  rw[e,us,e]; simp
 have pl:=zy a;have hL1:a.length+1<=4294967296:=by omega
 have tk1:(qH a).take a.length=qH a:=aK (by omega);have tk2:(qH a++[bH (0,-1,bW gs[i])]).take (a.length+1)=qH a++[bH (0,-1,bW gs[i])]:=aK (by simp[pl]);have x1:=ux (bj o);have x2:=ux (bj L);have x3:=Eo (px a);have x4:=Eo (px (iH a (bW gs[i]) k));obtain⟨a1,a2,a3,a4,a5,a6,a7,a8,a9,aa,ab⟩:=bj o;obtain⟨b1,b2,b3,b4,b5,b6,b7,b8,b9,ba,bb⟩:=bj L;obtain⟨c1,c2,c3,c4,c5,c6,c8⟩:=px a;obtain⟨d1,d2,d3,d4,d5,d6,d8⟩:=px (iH a (bW gs[i]) k);unfold M6 hH tt Ik;rw[pA];unfold bH at *;generalize C0 (iH a (bW gs[i]) k)=E2 at *;generalize C0 a=E1 at *;generalize qH a=Pa at *;generalize nH (bW gs[i])=K at *;generalize ints (bW gs[i])=S1 at *;generalize gk gs=G at *;generalize ints o=O1 at *;generalize ints L=L1 at *;unfold Lc;simp[qG,qF,qE,qD,qC,qB,qA,qz,qy,qx,k8,k7,kZ,kY,kX,kW,kV,kU,kT,kS,kR,kQ,kP,kO,kN,kM,kK,kJ,kI,kH,kG,kF,k1,hw,g3,g4,gl,hi,kr,mf,mp,kq,hL1,lU,pl,tk1,tk2,x1,x2,x3,x4,a1,a2,a3,a4,a5,a6,a7,a8,a9,aa,ab,b1,b2,b3,b4,b5,b6,b7,b8,b9,ba,bb,c1,c2,c3,c4,c5,c6,c8,d1,d2,d3,d4,d5,d6,d8,mapOf,pQ,mgv,idx,aJ,dq,pl,Ew,fz,E8,E7,rep,eK,sQV,iQV]
theorem ala {N:Nat} {Y:List AV} (o L:List Int) (a:List (List Int × Int)) (ha:∀p∈a,Lo p.1) (Q4:a.length<=1000) (k most:Int) (gs:List Nat) (i:Nat) (hi:i<gs.length) (tY:gs.length<=1000) (hs:Lo (bW gs[i])) {n:Nat} {z:Int} (hf:qN a (bW gs[i]) 0=some (n,.int .i64 z)) :
  aY an 5 Lc (M6 N Y (ints o) (ints L) a k most gs i [])=some (.normal,M6 N Y (ints o) (ints L) (iH a (bW gs[i]) k) k most gs (i+1:Nat) []):=by
 have k1:(i:Int)<gs.length:=by omega
 have hw:=dO (i:=i) (by omega);have g3:(gk gs)[i]?=some (.list 1 (ints (bW gs[i]))):=by simp[gk,hi]
 have g4:∀h,(gk gs)[i]'h=.list 1 (ints (bW gs[i])):=fun h=>by simp[gk]
 have gl:=gj gs;have bl:=mY gs[i];have kr:=Qd (bW gs[i]) (by omega) hs;have mf:=AP hs ha 0;rw[hf] at mf;have mp:=aal (bW gs[i]) k a;rw[hf] at mp
 have kq:AW .CR (.str (nH (bW gs[i]))) (.str (nH (bW gs[i])))=some true:=by
  simp only[AW,af]; exact (MapKept.bytes_beq _ _).2 rfl
 have us:=Ay a (bW gs[i]) k;rw[hf] at us
 have pA:qH (iH a (bW gs[i]) k)=qH a:=by
  have e:∀b:List (List Int × Int),qH b=(b.map eP).map fun s=>bH (0,-1,s):=fun b=>by simp[qH]
  rw[e,us,e]; simp
 have pl:=zy a;have x1:=ux (bj o);have x2:=ux (bj L);have x3:=Eo (px a);have x4:=Eo (px (iH a (bW gs[i]) k));obtain⟨a1,a2,a3,a4,a5,a6,a7,a8,a9,aa,ab⟩:=bj o;obtain⟨b1,b2,b3,b4,b5,b6,b7,b8,b9,ba,bb⟩:=bj L;obtain⟨c1,c2,c3,c4,c5,c6,c8⟩:=px a;obtain⟨d1,d2,d3,d4,d5,d6,d8⟩:=px (iH a (bW gs[i]) k);unfold M6 hH tt Ik;rw[pA];generalize C0 (iH a (bW gs[i]) k)=E2 at *;generalize C0 a=E1 at *;generalize qH a=Pa at *;generalize nH (bW gs[i])=K at *;generalize ints (bW gs[i])=S1 at *;generalize gk gs=G at *;generalize ints o=O1 at *;generalize ints L=L1 at *;unfold Lc;simp[qG,qF,qE,qD,qC,qB,qA,qz,qy,qx,k8,k7,kZ,kY,kX,kW,kV,kU,kT,kS,kR,kQ,kP,kO,kN,kM,kK,kJ,kI,kH,kG,kF,k1,hw,g3,g4,gl,hi,kr,mf,mp,kq,pl,x1,x2,x3,x4,a1,a2,a3,a4,a5,a6,a7,a8,a9,aa,ab,b1,b2,b3,b4,b5,b6,b7,b8,b9,ba,bb,c1,c2,c3,c4,c5,c6,c8,d1,d2,d3,d4,d5,d6,d8,mapOf,pQ,mgv,idx,aJ,dq,pl,Ew,fz,E8,E7,rep,eK,sQV,iQV]
theorem Ub:∀{a:List (List Int × Int)} {s:List Int} {i:Nat} {p:Nat × AV},qN a s i=some p->∃n z,p=(n,.int .i64 z)
 |[],_,_,_,h=>by cases h
 |(t,j)::r,s,i,p,h=>by
   unfold qN at h;split at h
   ·simp only[af] at h; subst h; exact⟨_,_,rfl⟩
   ·exact Ub h
theorem yM:∀{a:List (List Int × Int)} {s:List Int} {k:Int} {p:List Int × Int},p∈iH a s k->p.1=s\/p∈a
 |[],s,k,p,h=>by simp[iH] at h; subst h; exact .inl rfl
 |(t,j)::r,s,k,p,h=>by
   unfold iH at h;split at h
   ·rename_i e;rcases aG.1 h with rfl|h
    ·exact .inl e
    ·exact .inr (cH _ h)
   ·rcases aG.1 h with rfl|h
    ·exact .inr List.mem_cons_self
    ·exact (yM h).imp id fun h=>cH _ h
theorem I0:∀(a:List (List Int × Int)) (s:List Int) (k:Int),(iH a s k).length<=a.length+1
 |[],s,k=>by simp[iH]
 |(t,j)::r,s,k=>by
   have:=I0 r s k;unfold iH;split<;>simp only[cc]<;>omega
def pk (k:Int) (a:List (List Int × Int)) (l:List (List Int)):List (List Int × Int):=l.foldl (fun a s=>iH a s k) a
theorem aaP {N:Nat} {Y:List AV} (o L:List Int) (k most:Int) (gs:List Nat) (tY:gs.length<=64) (hs:∀R∈gs,Lo (bW R)):∀(n i:Nat) (a:List (List Int × Int)),(∀p∈a,Lo p.1)->i+n=gs.length->a.length+n<=1000 ->
  aY an 5 (.loop Lc) (M6 N Y (ints o) (ints L) a k most gs i [])=some (.exit 2,M6 N Y (ints o) (ints L) (pk k a ((gs.drop i).map bW)) k most gs gs.length [(26,.bool false)])
 |0,i,a,ha,hi,Q4=>by
   obtain rfl:i=gs.length:=by omega
   rw[bY];have e:pk k a (([]:List Nat).map bW)=a:=rfl;rw[e];refine bt ?_;have gl:=gj gs;obtain⟨c1,c2,c3,c4,c5,c6,c8⟩:=px a;unfold M6 hH tt Ik;generalize C0 a=E1 at *;generalize qH a=Pa at *;generalize gk gs=G at *;generalize ints o=O1 at *;generalize ints L=L1 at *;unfold Lc;simp[qG,qF,qE,qD,qC,qB,qA,qz,qy,qx,k8,k7,kZ,kY,kX,kW,kV,kU,kT,kS,kR,kQ,kP,kO,kN,kM,kK,kJ,kI,kH,kG,kF,pQ]
 |n+1,i,a,ha,hi,Q4=>by
   have bF:i<gs.length:=by omega
   have hsi:=hs gs[i] (List.getElem_mem bF);have ul:=I0 a (bW gs[i]) k;have ih:=aaP (Y:=Y) (N:=N) o L k most gs tY hs n (i+1) (iH a (bW gs[i]) k) (fun p hp=>(yM hp).elim (fun e=>by rw[e]; exact hsi) (ha p)) (by omega) (by omega);rw[bg bF,List.map_cons];have e:pk k a (bW gs[i]::(gs.drop (i+1)).map bW)=pk k (iH a (bW gs[i]) k) ((gs.drop (i+1)).map bW):=rfl;rw[e];cases hf:qN a (bW gs[i]) 0 with
   |none=>exact (aV (alb o L a ha (by omega) k most gs i bF (by omega) hsi hf)).trans ih
   |some p=>
     obtain⟨m,z,rfl⟩:=Ub hf;exact (aV (ala o L a ha (by omega) k most gs i bF (by omega) hsi hf)).trans ih
/- hierarchy.gathered: all levels. -/
theorem aar (R:Nat):Lo (bW R):=fun x hx=>by
 obtain⟨j,rfl,h,_⟩:=fG.1 hx;omega
def WO (N:Nat) (Y O1 L1:List AV) (a:List (List Int × Int)) (k:Int) (most:Int) (J:Env):St:=
 ⟨(1,Ik)::(5,pQ 5)::(6,.own 3 (qH a))::(17,.int .i64 most)::(18,.int .i64 k)::J,hH N Y O1 L1 (C0 a)⟩
theorem ae4 {N:Nat} {Es:List Ed} (hG:tV (N:Int) Es) (hE:Es.length<1000000) (o L:List Int) (hL:L.length=N) (a:List (List Int × Int)) (ha:∀p∈a,Lo p.1) (k:Nat) (hk:k<100) (most:Int) (hm:(k:Int)<most) (Q4:a.length<=900) :
  ∃ l,(E4 (eB N Es) (T6 k L 0 0) (T6 k L 0 0) l/\l.length<=64)/\aY an 5 Ow (WO N (dA Es) (ints o) (ints L) a k most [])=some (.normal,WO N (dA Es) (ints o) (ints L) (pk k a (l.map bW)) (k+1:Nat) most []):=by
 obtain⟨l,l1,l2⟩:=alv hG hE o L hL (C0 a) (px a) k;refine⟨l,l1,?_⟩;have lp:=aaP (Y:=dA Es) (N:=N) o L k most l l1.2 (fun R _=>aar R) l.length 0 a ha (by omega) (by have:=l1.2; omega);rw[ct] at lp;have hw:=dO (i:=k) (by omega);have gl:=gj l;have x1:=ux (bj o);have x2:=ux (bj L);have x3:=Eo (px a);have x4:=Eo (px (pk k a (l.map bW)));obtain⟨a1,a2,a3,a4,a5,a6,a7,a8,a9,aa,ab⟩:=bj o;obtain⟨b1,b2,b3,b4,b5,b6,b7,b8,b9,ba,bb⟩:=bj L;obtain⟨c1,c2,c3,c4,c5,c6,c8⟩:=px a;obtain⟨d1,d2,d3,d4,d5,d6,d8⟩:=px (pk k a (l.map bW));unfold M6 WO hH tt Ik pQ at *;simp only[fU] at lp;generalize C0 (pk k a (l.map bW))=E2 at *;generalize qH (pk k a (l.map bW))=Pb at *;generalize C0 a=E1 at *;generalize qH a=Pa at *;generalize gk l=G at *;generalize ints o=O1 at *;generalize ints L=L1 at *;generalize dA Es=Y at *;unfold Ow;simp[qG,qF,qE,qD,qC,qB,qA,qz,qy,qx,k8,k7,kZ,kY,kX,kW,kV,kU,kT,kS,kR,kQ,kP,kO,kN,kM,kK,kJ,kI,kH,kG,kF,l2,lp,hm,hw,gl,x1,x2,x3,x4,a1,a2,a3,a4,a5,a6,a7,a8,a9,aa,ab,b1,b2,b3,b4,b5,b6,b7,b8,b9,ba,bb,c1,c2,c3,c4,c5,c6,c8,d1,d2,d3,d4,d5,d6,d8,pQ,Ew,aJ,jR,eZ,dq,pl,kg,eJ,pE,qS,gW,ga,eS,lj,pB,zz,iy,yz,sQD,iQD]
inductive Xs (A:List Nat) (L:List Int):Nat->Nat->List (List Int × Int)->List (List Int × Int)->Prop
 |nil (k:Nat) (a:List (List Int × Int)):Xs A L k 0 a a
 |cons (k n:Nat) (a b:List (List Int × Int)) (l:List Nat) (h1:E4 A (T6 k L 0 0) (T6 k L 0 0) l) (h2:Xs A L (k+1) n (pk k a (l.map bW)) b):Xs A L k (n+1) a b
theorem aao (k:Int):∀(l:List Nat) (a:List (List Int × Int)),(∀p∈a,Lo p.1)->∀p∈pk k a (l.map bW),Lo p.1
 |[],a,ha=>ha
 |R::r,a,ha=>aao k r (iH a (bW R) k) fun p hp=>(yM hp).elim (fun e=>by rw[e]; exact aar R) (ha p)
theorem KW (k:Int):∀(l:List Nat) (a:List (List Int × Int)),(pk k a (l.map bW)).length<=a.length+l.length
 |[],a=>Nat.le_refl _
 |R::r,a=>by
   have h1:=KW k r (iH a (bW R) k);have h2:=I0 a (bW R) k;rw[cc];have e:pk k a ((R::r).map bW)=pk k (iH a (bW R) k) (r.map bW):=rfl;rw[e]; omega
theorem aaO {N:Nat} {Es:List Ed} (hG:tV (N:Int) Es) (hE:Es.length<1000000) (o L:List Int) (hL:L.length=N) (M:Nat) (hM:M<=14):∀(n k:Nat) (a:List (List Int × Int)),k+n=M->(∀p∈a,Lo p.1)->a.length<=64*k ->
  ∃ b,(Xs (eB N Es) L k n a b/\(∀p∈b,Lo p.1)/\b.length<=900)/\aY an 5 (.loop Ow) (WO N (dA Es) (ints o) (ints L) a k M [])=some (.exit 0,WO N (dA Es) (ints o) (ints L) b M M [(19,.bool false)])
 |0,k,a,hk,ha,Q4=>by
   obtain rfl:k=M:=by omega
   refine⟨a,⟨.nil _ _,ha,by omega⟩,?_⟩;refine bt ?_;unfold WO hH tt Ik pQ;generalize C0 a=E1 at *;generalize qH a=Pa at *;generalize ints o=O1 at *;generalize ints L=L1 at *;generalize dA Es=Y at *;unfold Ow;simp[qG,qF,qE,qD,qC,qB,qA,qz,qy,qx,k8,k7,kZ,kY,kX,kW,kV,kU,kT,kS,kR,kQ,kP,kO,kN,kM,kK,kJ,kI,kH,kG,kF]
 |n+1,k,a,hk,ha,Q4=>by
   obtain⟨l,⟨l1,l3⟩,l2⟩:=ae4 hG hE o L hL a ha k (by omega) (M:Int) (by omega) (by omega);have h1:=KW k l a;obtain⟨b,⟨b1,b2⟩,b3⟩:=aaO hG hE o L hL M hM n (k+1) (pk k a (l.map bW)) (by omega) (aao k l a ha) (by omega);exact⟨b,⟨.cons k n a b l l1 b1,b2⟩,(aV l2).trans b3⟩
end Go.BmP
