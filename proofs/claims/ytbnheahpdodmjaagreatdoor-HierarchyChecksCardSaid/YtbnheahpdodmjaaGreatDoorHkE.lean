/- ref03.Induced, ref10.Core, ref10.Degeneracy. -/
import Derived.Test.YtbnheahpdodmjaaGreatDoorHkC
set_option linter.unusedSimpArgs false
set_option linter.unusedVariables false
set_option maxRecDepth 100000
set_option maxHeartbeats 8000000
open List renaming drop_eq_getElem_cons → bg, drop_length → bY, drop_zero → ct, foldl_cons → dM, foldl_nil → Dj, getElem?_eq_getElem → ai, length_map → aQ, mem_range → iG, nil_append → sI, take_of_length_le → aK
open Nat renaming le_of_ble_eq_true → aB
open Option.some renaming inj → bm
namespace Go.BmP
open Go.Am Go.Bm
def yw (C:List Int) (e:Ed):Bool:=decide (e.1∈C)&&decide (e.2∈C)
def idF (C:List Int) (o:List Ed) (e:Ed):List Ed:=if yw C e=true then o++[e] else o
theorem TJ (C:List Int):∀(Es o:List Ed),Es.foldl (idF C) o=o++Es.filter (yw C)
 |[],o=>by simp
 |e::r,o=>by
   rw[dM,TJ C r,List.filter_cons];unfold idF;by_cases h:yw C e=true
   ·rw[if_pos h,if_pos h,List.append_assoc]; rfl
   ·rw[if_neg h,if_neg h]
def Wv (N:Nat) (Es:List Ed) (C:List Int) (o:List Ed) (i:Nat) (J:Env):St:=⟨(1,.list 1 (ints C))::(4,.ptr 1 0)::(7,.ptr 2 0)::(20,.list 2 (dA Es))::(21,.int .i64 Es.length)::(22,.int .i64 i)::J,[some [.int .i64 N,.list 2 (dA Es)],gZ,gB N o]⟩
theorem aeL (N:Nat) (Es:List Ed) (C:List Int) (o:List Ed) (i:Nat) (hC:C.length<=1000) (ho:o.length<=i) (hE:Es.length<1000000) (hi:i<Es.length) :
  aY an 0 K6 (Wv N Es C o i [])=some (.normal,Wv N Es C (idF C o Es[i]) (i+1) []):=by
 have k1:(i:Int)<Es.length:=by omega
 have hw:=dO (i:=i) (by omega);have lE:=aL Es;have g4:∀h,(dA Es)[i]'h=.agg [.int .i64 Es[i].1,.int .i64 Es[i].2]:=fun h=>cM ..;have bF:i<(dA Es).length:=by omega
 have g3:(dA Es)[i]?=some (.agg [.int .i64 Es[i].1,.int .i64 Es[i].2]):=by rw[ai bF,g4]
 have h1:=wV Es[i].1 C (by omega);have h2:=wV Es[i].2 C (by omega);have hL:o.length+1<=4294967296:=by omega
 obtain⟨a1,a2,a3,a4,a5,a6,a7,a8,a9,aa,ab⟩:=bj C;unfold idF yw;unfold Wv gZ gB;generalize Es[i]=e at *;obtain⟨u,v⟩:=e;simp only at h1 h2 g3 g4 ⊢;by_cases q1:u∈C
 ·by_cases q2:v∈C
  ·rw[if_pos (by rw[decide_eq_true q1,decide_eq_true q2]; rfl)];rw[decide_eq_true q1] at h1;rw[decide_eq_true q2] at h2;generalize ints C=C1 at *;unfold K6;simp[NT,NS,NR,NQ,NP,NO,NN,NM,NL,NK,Fl,Fk,k1,hw,lE,g3,g4,bF,hi,h1,h2,hL,lU,OR,EL,I6,a1,a2,a3,a4,a5,a6,a7,a8,a9,aa,ab,idx,aJ,sQN,iQN,aJ,aL,bz,cM,dG,aI,aP,aH,ah,aN,aZ,bM,bI]
  ·rw[if_neg (by rw[decide_eq_false q2]; simp)];rw[decide_eq_true q1] at h1;rw[decide_eq_false q2] at h2;generalize ints C=C1 at *;unfold K6;simp[NT,NS,NR,NQ,NP,NO,NN,NM,NL,NK,Fl,Fk,k1,hw,lE,g3,g4,bF,hi,h1,h2,a1,a2,a3,a4,a5,a6,a7,a8,a9,aa,ab,idx,aJ,sQN,iQN,aJ,aL,bz,cM,dG,aI,aP,aH,ah,aN,aZ,bM,bI]
 ·rw[if_neg (by rw[decide_eq_false q1]; simp)];rw[decide_eq_false q1] at h1;generalize ints C=C1 at *;unfold K6;simp[NT,NS,NR,NQ,NP,NO,NN,NM,NL,NK,Fl,Fk,k1,hw,lE,g3,g4,bF,hi,h1,a1,a2,a3,a4,a5,a6,a7,a8,a9,aa,ab,idx,aJ,sQN,iQN,aJ,aL,bz,cM,dG,aI,aP,aH,ah,aN,aZ,bM,bI]
theorem aaG (N:Nat) (Es:List Ed) (C:List Int) (hC:C.length<=1000) (hE:Es.length<1000000):∀(n i:Nat) (o:List Ed),i+n=Es.length->o.length<=i ->
  aY an 0 (.loop K6) (Wv N Es C o i [])=some (.exit 0,Wv N Es C ((Es.drop i).foldl (idF C) o) Es.length [(23,.bool false)])
 |0,i,o,hi,ho=>by
   obtain rfl:i=Es.length:=by omega
   rw[bY,Dj];refine bt ?_;unfold Wv gZ gB;generalize ints C=C1 at *;unfold K6;simp[NT,NS,NR,NQ,NP,NO,NN,NM,NL,NK,Fl,Fk,aJ,aL,bz,cM,dG,aI,aP,aH,ah,aN,aZ,bM,bI]
 |n+1,i,o,hi,ho=>by
   have bF:i<Es.length:=by omega
   rw[bg bF,dM];refine (aV (aeL N Es C o i hC ho hE bF)).trans (aaG N Es C hC hE n (i+1) (idF C o Es[i]) (by omega) ?_);unfold idF;split
   ·rw[List.length_append,List.length_singleton]; omega
   ·omega
theorem acA {N:Nat} {Es:List Ed} (hG:tV (N:Int) Es) (hE:Es.length<1000000) (C:List Int) (hC:C.length<=1000):bu an nQo [.agg [.int .i64 N,.list 2 (dA Es)],.list 1 (ints C)] []=some (.dt [.agg [.int .i64 N,.list 2 (dA (Es.filter (yw C)))],.int .i64 0],[]):=by
 have g:=yY (N:Int) Es (by omega);rw[s6.2 hG] at g;have lp:=aaG N Es C hC hE Es.length 0 [] (by omega) (Nat.le_refl _);rw[ct,TJ,sI] at lp;have fl:(Es.filter (yw C)).length<=Es.length:=List.length_filter_le _ _;have hL:(Es.filter (yw C)).length<=4294967296:=by omega
 have lE:=aL Es;have tkF:(dA (Es.filter (yw C))).take (Es.filter (yw C)).length=dA (Es.filter (yw C)):=aK (by rw[aL]; omega);obtain⟨a1,a2,a3,a4,a5,a6,a7,a8,a9,aa,ab⟩:=bj C;rw[eO sQo (aB rfl)];unfold Wv gZ gB at lp;rw[show dA []=[] from rfl] at lp;simp only[fU] at lp;generalize Es.filter (yw C)=F at *;generalize ints C=C1 at *;unfold qQo cQo;simp[NT,NS,NR,NQ,NP,NO,NN,NM,NL,NK,Fl,Fk,g,lp,lE,hL,tkF,a1,a2,a3,a4,a5,a6,a7,a8,a9,aa,ab,aJ,bM,bI,jR,eZ,dq,pl,aP,wx,nu,iP,gM,sQL,iQL,aJ,aL,bz,cM,dG,aI,aP,aH,ah,aN,aZ,bM,bI]
theorem VO {N:Nat} {Es:List Ed} (hG:tV (N:Int) Es) (hE:Es.length<1000000) (k:Nat):∃C:List Int,(∀x:Int,x∈C ↔ ∃j:Nat,x=j/\UR (eB N Es) (2 ^ N-1) k j)/\C.length<=N/\bu an nQn [.agg [.int .i64 N,.list 2 (dA Es)],.int .i64 k] []=some (.dt [.list 1 (ints C),.int .i64 0],[]):=by
 obtain⟨C,h1,h2,h3⟩:=Nx hG hE k;refine⟨C,h1,h2,?_⟩;have g:=yY (N:Int) Es (by omega);rw[s6.2 hG] at g;obtain⟨a1,a2,a3,a4,a5,a6,a7,a8,a9,aa,ab⟩:=bj C;rw[eO sQn (aB rfl)];generalize ints C=C1 at *;generalize dA Es=Y at *;unfold qQn cQn;simp[aiy,aix,aiw,aiv,aiu,g,h3,a1,a2,a3,a4,a5,a6,a7,a8,a9,aa,ab,aJ,bM,bI,jR,eZ,dq,pl,sQL,iQL,sQM,iQM]
def mxg (k n:Int):Int:=if k<n then n else k
def rdSt (L:List Int) (k i:Int) (J:Env):St:=⟨(5,.int .i64 0)::(6,.int .i64 k)::(14,.list 1 (ints L))::(15,.int .i64 L.length)::(16,.int .i64 i)::J,[]⟩
theorem X1 (L:List Int) (hL:L.length<=64):∀(m i:Nat) (k:Int),i+m=L.length->aY an 0 (.loop aav) (rdSt L k i [])=some (.exit 0,rdSt L ((L.drop i).foldl mxg k) L.length [(17,.bool false)])
 |0,i,k,hi=>by
   obtain rfl:i=L.length:=by omega
   rw[bY,Dj];refine bt ?_;unfold rdSt aav;generalize ints L=L1 at *;simp[Yr,Yq,Yp,Yo,Yn,Ym,Yl,Yk,Yj]
 |m+1,i,k,hi=>by
   have bF:i<L.length:=by omega
   have ih:=X1 L hL m (i+1) (mxg k L[i]) (by omega);rw[bg bF,dM];refine (aV ?_).trans ih;have k1:(i:Int)<L.length:=by omega
   have hw:=dO (i:=i) (by omega);have hx:=CU (k:=.i64) (i:=(i:Int)) (n:=L.length) (by omega) k1;have g3:(ints L)[i]?=some (.int .i64 L[i]):=by rw[ai (by rw[ah]; exact bF),aZ]
   have g4:∀h,(ints L)[i]'h=.int .i64 L[i]:=fun h=>aZ _ _ _;have ll:=ah L;clear ih;unfold rdSt mxg aav;generalize ints L=L1 at *;generalize L[i]=x at *;by_cases q:k<x<;>simp[Yr,Yq,Yp,Yo,Yn,Ym,Yl,Yk,Yj,k1,hi,hw,hx,g3,g4,ll,bF,q,idx,aJ]
theorem acJ {N:Nat} {Es:List Ed} (hG:tV (N:Int) Es) (hE:Es.length<1000000):∃L,sG (eB N Es) N L/\bu an nQm [.agg [.int .i64 N,.list 2 (dA Es)]] []=some (.dt [.int .i64 (Vc L),.int .i64 0],[]):=by
 have hN:N<=64:=by have:=hG.1.2; omega
 obtain⟨L,hL,nr⟩:=acy hG hE;refine⟨L,hL,?_⟩;have lp:=X1 L (by rw[hL.1]; omega) L.length 0 0 (by omega);rw[ct] at lp;have e:L.foldl mxg 0=Vc L:=rfl;rw[e] at lp;have ll:=ah L;unfold rdSt at lp;simp only[fU] at lp;rw[eO sQm (aB rfl)];generalize ints L=L1 at *;generalize dA Es=Y at *;generalize Vc L=D at *;unfold qQm cQm;simp[Yr,Yq,Yp,Yo,Yn,Ym,Yl,Yk,Yj,nr,lp,ll,aJ,bM,bI,dq,pl,sQK,iQK]
/- ref15.Components, ref18.before, ref18.add. -/
theorem Ji (n:Int):Up (jg n):=by
 unfold jg Up;rw[List.pairwise_map];exact List.pairwise_lt_range.imp fun h=>by omega
theorem Gk {N:Nat} (hN:N<=64) (x:Int):x∈jg (N:Int) ↔ 0<=x/\x<N:=by
 unfold jg;rw[List.mem_map];constructor
 ·rintro⟨j,hj,rfl⟩;have:=iG.1 hj;omega
 ·rintro⟨a,b⟩;exact⟨x.toNat,iG.2 (by omega),by omega⟩
theorem abw {N:Nat} {Es:List Ed} (hG:tV (N:Int) Es) (hE:Es.length<1000000):∃cs,(Xx (eB N Es) (jg (N:Int)) cs/\cs.length<=64)/\bu an nQp [.agg [.int .i64 N,.list 2 (dA Es)]] []=some (.dt [.list 1 (gk cs),.int .i64 0],[]):=by
 have hN:N<=64:=by have:=hG.1.2; omega
 have g:=yY (N:Int) Es (by omega);rw[s6.2 hG] at g;have rr:=NA (N:Int);have rl:(jg (N:Int)).length<=64:=by unfold jg; rw[aQ,List.length_range]; omega
 obtain⟨cs,⟨c1,c2⟩,lp⟩:=aa4 hG hE 64 (jg (N:Int)) [] rl (Ji _) (fun x hx=>(Gk hN x).1 hx) (by simpa using rl);refine⟨cs,⟨c1,by omega⟩,?_⟩;rw[sI] at lp;have gl:=gj cs;have tk1:(gk cs).take cs.length=gk cs:=aK (by omega);obtain⟨b1,b2,b3,b4,b5,b6,b7,b8,b9,ba,bb⟩:=bj (jg (N:Int));rw[eO sQp (aB rfl)];unfold Xc uC at lp;rw[show gk []=[] from rfl,show ints []=[] from rfl] at lp;clear c1;generalize gk cs=C1 at *;generalize ints (jg (N:Int))=R1 at *;generalize dA Es=Y at *;unfold qQp cQp;simp[Yi,Yh,Yg,Yf,Ye,Yd,Yc,Yb,Ya,X9,g,rr,lp,gl,tk1,b1,b2,b3,b4,b5,b6,b7,b8,b9,ba,bb,aJ,bM,bI,mM,jR,eZ,dq,pl,sQL,iQL,sQO,iQO]
theorem RC (x y:Pt) (hx:x.2.2.length<=1000) (hy:y.2.2.length<=1000):bu an nQR [bH x,bH y] []=some (.bool (wg x y),[]):=by
 obtain⟨a,b,s⟩:=x;obtain⟨c,d,t⟩:=y;have h2:=aa3 s t (by simp at hx; omega) (by simp at hy; omega)
 have e:wg (a,b,s) (c,d,t)=(decide (a<c)||(decide (a=c)&&decide (ja s t<0))):=by
  rw[Bool.eq_iff_iff,sN];simp
 rw[e];obtain⟨a1,a2,a3,a4,a5,a6,a7,a8,a9,aa,ab⟩:=bj s;obtain⟨b1,b2,b3,b4,b5,b6,b7,b8,b9,ba,bb⟩:=bj t;rw[eO sQR (aB rfl)];unfold bH;simp only;generalize ja s t=z at *;generalize ints s=S1 at *;generalize ints t=T1 at *;unfold qQR cQR;by_cases q1:a<c
 ·have q2:¬a=c:=by omega
  simp[YJ,YI,q1,q2,h2,a1,a2,a3,a4,a5,a6,a7,a8,a9,aa,ab,b1,b2,b3,b4,b5,b6,b7,b8,b9,ba,bb,aJ,bM,bI,mM,jR,eZ,dq,pl,sQG,iQG]
 ·by_cases q2:a=c
  ·subst q2;simp[YJ,YI,q1,h2,a1,a2,a3,a4,a5,a6,a7,a8,a9,aa,ab,b1,b2,b3,b4,b5,b6,b7,b8,b9,ba,bb,aJ,bM,bI,mM,jR,eZ,dq,pl,sQG,iQG]
  ·simp[YJ,YI,q1,q2,h2,a1,a2,a3,a4,a5,a6,a7,a8,a9,aa,ab,b1,b2,b3,b4,b5,b6,b7,b8,b9,ba,bb,aJ,bM,bI,mM,jR,eZ,dq,pl,sQG,iQG]
def wB (a:List (List Int × Int)):List AV:=a.map fun p=>bH (p.2,0,p.1)
theorem tj (a:List (List Int × Int)):(wB a).length=a.length:=aQ _
theorem ajY (a:List (List Int × Int)) (i:Nat) (h:i<a.length):(wB a)[i]?=some (bH (a[i].2,0,a[i].1)):=by
 unfold wB;rw[List.getElem?_map,ai h]; rfl
theorem agq (a:List (List Int × Int)) (i:Nat) (s:List Int) (m:Int):(wB a).set i (bH (m,0,s))=wB (a.set i (s,m)):=by
 unfold wB;rw[List.map_set]
theorem UM:∀(a:List (List Int × Int)) (s:List Int) (k:Int) (i:Nat) (h:i<a.length),(∀j (hj:j<a.length),j<i->a[j].1≠s)->a[i].1=s->qa a s k=a.set i (s,max a[i].2 k)
 |[],s,k,i,h,_,_=>by simp at h
 |(t,z)::r,s,k,0,h,_,e=>by
   have e:t=s:=e;unfold qa;rw[if_pos e,e]; rfl
 |(t,z)::r,s,k,i+1,h,hn,e=>by
   have h0:t≠s:=hn 0 (by simp) (by omega);have hi:i<r.length:=by simpa using h
   unfold qa;rw[if_neg h0,List.set_cons_succ];have ih:=UM r s k i hi (fun j hj Dh=>hn (j+1) (by simp; omega) (by omega)) e;rw[ih];rfl
theorem UN:∀(a:List (List Int × Int)) (s:List Int) (k:Int),(∀j (hj:j<a.length),a[j].1≠s)->qa a s k=a++[(s,k)]
 |[],s,k,_=>rfl
 |(t,z)::r,s,k,hn=>by
   have h0:t≠s:=hn 0 (by simp);unfold qa;rw[if_neg h0,UN r s k fun j hj=>hn (j+1) (by simp; omega)];rfl
def MN (a:List (List Int × Int)) (k:Int) (S1:List AV) (i:Nat) (J:Env):St:=⟨(0,.own 3 (wB a))::(1,.int .i64 k)::(2,.list 1 S1)::(9,.int .i64 a.length)::(10,.int .i64 i)::J,[]⟩
theorem X6 (a:List (List Int × Int)) (k:Int) (s:List Int) (ha:a.length<=900) (iR:∀p∈a,p.1.length<=1000) (hs:s.length<=1000):∀(n i:Nat),i+n=a.length->(∀j (hj:j<a.length),j<i->a[j].1≠s) ->
  ((∀j (hj:j<a.length),a[j].1≠s)/\aY an 0 (.loop K5) (MN a k (ints s) i [])=some (.exit 0,MN a k (ints s) a.length [(11,.bool false)])) \/
  aY an 0 (.loop K5) (MN a k (ints s) i [])=some (.ret,⟨[(6,.own 3 (wB (qa a s k)))],[]⟩)
 |0,i,hi,hn=>by
   obtain rfl:i=a.length:=by omega
   refine .inl ⟨fun j hj=>hn j hj hj,bt ?_⟩;unfold MN;generalize wB a=P1 at *;generalize ints s=S1 at *;unfold K5;simp[JB,JA,Jz,Jy,Jx,Jw,Jv,Ju,Jt]
 |n+1,i,hi,hn=>by
   have bF:i<a.length:=by omega
   have k1:(i:Int)<a.length:=by omega
   have hw:=dO (i:=i) (by omega);have la:=tj a;have g3:=ajY a i bF;have A4:i<(wB a).length:=by omega
   have g4:∀h,(wB a)[i]'h=bH (a[i].2,0,a[i].1):=fun h=>by
    rw[ai h] at g3;exact bm g3
   have sm:=Ro a[i].1 s (by have:=iR _ (List.getElem_mem bF); omega) (by omega);obtain⟨b1,b2,b3,b4,b5,b6,b7,b8,b9,ba,bb⟩:=bj a[i].1;obtain⟨c1,c2,c3,c4,c5,c6,c7,c8,c9,ca,cb⟩:=bj s;by_cases q:a[i].1=s
   ·right;refine cZ ?_;have st:=agq a i s (max a[i].2 k);rw[<-UM a s k i bF hn q] at st;rw[decide_eq_true q] at sm;rw[q] at g3 g4 sm;unfold MN;rw[<-st];unfold bH at *;generalize wB a=P1 at *;have mx:max a[i].2 k=if a[i].2<k then k else a[i].2:=by split<;>omega
    generalize a[i].2=z at *;rw[mx];have UY:∀x,(P1.set i x).take a.length=P1.set i x:=fun x=>aK (by rw[List.length_set]; omega);generalize ints s=S1 at *;unfold K5;by_cases q2:z<k
    ·simp[JB,JA,Jz,Jy,Jx,Jw,Jv,Ju,Jt,k1,bF,hw,la,g3,g4,A4,sm,q2,UY,b1,b2,b3,b4,b5,b6,b7,b8,b9,ba,bb,c1,c2,c3,c4,c5,c6,c7,c8,c9,ca,cb,idx,aJ,dq,pl,sQk,iQk]
    ·simp[JB,JA,Jz,Jy,Jx,Jw,Jv,Ju,Jt,k1,bF,hw,la,g3,g4,A4,sm,q2,UY,b1,b2,b3,b4,b5,b6,b7,b8,b9,ba,bb,c1,c2,c3,c4,c5,c6,c7,c8,c9,ca,cb,idx,aJ,dq,pl,sQk,iQk]
   ·have Q0:∀j (hj:j<a.length),j<i+1->a[j].1≠s:=fun j hj Dh=>by
     rcases Nat.eq_or_lt_of_le (Nat.le_of_lt_succ Dh) with rfl|Dh
     ·exact q
     ·exact hn j hj Dh
    rw[decide_eq_false q] at sm
    have rd:aY an 0 K5 (MN a k (ints s) i [])=some (.normal,MN a k (ints s) (i+1) []):=by
     unfold MN;unfold bH at *;generalize wB a=P1 at *;generalize ints a[i].1=T1 at *;generalize a[i].2=z at *;generalize ints s=S1 at *;unfold K5;simp[JB,JA,Jz,Jy,Jx,Jw,Jv,Ju,Jt,k1,bF,hw,la,g3,g4,A4,sm,b1,b2,b3,b4,b5,b6,b7,b8,b9,ba,bb,c1,c2,c3,c4,c5,c6,c7,c8,c9,ca,cb,idx,aJ,dq,pl,sQk,iQk]
    rcases X6 a k s ha iR hs n (i+1) (by omega) Q0 with⟨h1,h2⟩|h2
    ·exact .inl ⟨h1,(aV rd).trans h2⟩
    ·exact .inr ((aV rd).trans h2)
theorem abu (a:List (List Int × Int)) (k:Int) (s:List Int) (ha:a.length<=900) (iR:∀p∈a,p.1.length<=1000) (hs:s.length<=1000):bu an nQr [.own 3 (wB a),.int .i64 k,.list 1 (ints s)] []=some (.own 3 (wB (qa a s k)),[]):=by
 have la:=tj a;obtain⟨c1,c2,c3,c4,c5,c6,c7,c8,c9,ca,cb⟩:=bj s;have la2:=tj (qa a s k);have tk2:(wB (qa a s k)).take (qa a s k).length=wB (qa a s k):=aK (by omega);rw[eO sQr (aB rfl)];rcases X6 a k s ha iR hs a.length 0 (by omega) (fun j hj h=>by omega) with⟨h1,lp⟩|lp
 ·have e:=UN a s k h1;have e2:wB a++[bH (k,0,s)]=wB (qa a s k):=by rw[e]; unfold wB; rw[List.map_append]; rfl
  have le1:a.length+1<=4294967296:=by omega
  have l3:(qa a s k).length=a.length+1:=by rw[e]; simp
  rw[l3] at tk2 la2;rw[<-e2] at tk2 la2 ⊢;unfold MN at lp;unfold bH at *;simp only[fU] at lp;have tka:(wB a).take a.length=wB a:=aK (by omega);generalize wB a=P1 at *;generalize ints s=S1 at *;unfold qQr cQr;simp[JB,JA,Jz,Jy,Jx,Jw,Jv,Ju,Jt,lp,la,le1,lU,tk2,la2,tka,c1,c2,c3,c4,c5,c6,c7,c8,c9,ca,cb,fz,E8,E7,rep,eK,aJ,bM,bI,mM,v7,K1,Nr,Nq,dq,pl]
 ·unfold MN at lp;simp only[fU] at lp;generalize wB (qa a s k)=P2 at *;generalize wB a=P1 at *;generalize ints s=S1 at *;unfold qQr cQr;simp[JB,JA,Jz,Jy,Jx,Jw,Jv,Ju,Jt,lp,la,la2,tk2,c1,c2,c3,c4,c5,c6,c7,c8,c9,ca,cb,aJ,bM,bI,mM,v7,K1,Nr,Nq,dq,pl]
end Go.BmP
