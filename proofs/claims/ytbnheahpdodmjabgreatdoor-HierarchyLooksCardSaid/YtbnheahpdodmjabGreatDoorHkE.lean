/- ref03.Induced, ref10.Core, ref10.Degeneracy. -/
import Derived.Test.YtbnheahpdodmjabGreatDoorHkC
set_option linter.unusedSimpArgs false
set_option linter.unusedVariables false
set_option maxRecDepth 100000
set_option maxHeartbeats 8000000
open List renaming drop_eq_getElem_cons → bz, drop_length → cE, drop_zero → cP, foldl_cons → dV, foldl_nil → DX, getElem?_eq_getElem → aj, length_map → aX, mem_range → iP, nil_append → oV, take_of_length_le → aT
open Nat renaming le_of_ble_eq_true → au
open Option.some renaming inj → bj
namespace Go.BmP
open Go.Am Go.Bm
def yT (C:List Int) (e:Ed):Bool:=decide (e.1∈C)&&decide (e.2∈C)
def idF (C:List Int) (o:List Ed) (e:Ed):List Ed:=if yT C e=true then o++[e] else o
theorem Vd (C:List Int):∀(Es o:List Ed),Es.foldl (idF C) o=o++Es.filter (yT C)
 |[],o=>by simp
 |e::r,o=>by
   rw[dV,Vd C r,List.filter_cons];unfold idF;by_cases h:yT C e=true
   ·rw[if_pos h,if_pos h,List.append_assoc]; rfl
   ·rw[if_neg h,if_neg h]
def XW (N:Nat) (Es:List Ed) (C:List Int) (o:List Ed) (i:Nat) (J:Env):St:=⟨(1,.list 1 (ints C))::(4,.ptr 1 0)::(7,.ptr 2 0)::(20,.list 2 (fe Es))::(21,.int .i64 Es.length)::(22,.int .i64 i)::J,[some [.int .i64 N,.list 2 (fe Es)],gZ,gB N o]⟩
theorem agk (N:Nat) (Es:List Ed) (C:List Int) (o:List Ed) (i:Nat) (hC:C.length<=1000) (ho:o.length<=i) (hE:Es.length<1000000) (hi:i<Es.length) :
  aW aq 0 L0 (XW N Es C o i [])=some (.normal,XW N Es C (idF C o Es[i]) (i+1) []):=by
 have k1:(i:Int)<Es.length:=by omega
 have hw:=dA (i:=i) (by omega);have lE:=aN Es;have g4:∀h,(fe Es)[i]'h=.agg [.int .i64 Es[i].1,.int .i64 Es[i].2]:=fun h=>cV ..;have bE:i<(fe Es).length:=by omega
 have g3:(fe Es)[i]?=some (.agg [.int .i64 Es[i].1,.int .i64 Es[i].2]):=by rw[aj bE,g4]
 have h1:=pJ Es[i].1 C (by omega);have h2:=pJ Es[i].2 C (by omega);have hL:o.length+1<=4294967296:=by omega
 obtain⟨a1,a2,a3,a4,a5,a6,a7,a8,a9,aa,ab⟩:=bg C;unfold idF yT;unfold XW gZ gB;generalize Es[i]=e at *;obtain⟨u,v⟩:=e;simp only at h1 h2 g3 g4 ⊢;by_cases q1:u∈C
 ·by_cases q2:v∈C
  ·rw[if_pos (by rw[decide_eq_true q1,decide_eq_true q2]; rfl)];rw[decide_eq_true q1] at h1;rw[decide_eq_true q2] at h2;generalize ints C=C1 at *;unfold L0;simp[O5,O4,O0,OZ,OY,OX,OW,OV,OU,OT,FQ,FP,k1,hw,lE,g3,g4,bE,hi,h1,h2,hL,ks,Qf,Fl,Ji,a1,a2,a3,a4,a5,a6,a7,a8,a9,aa,ab,idx,aH,Jp,Nz,aH,aN,bI,cV,dY,aM,aR,aK,ah,aQ,bu,bL,bC]
  ·rw[if_neg (by rw[decide_eq_false q2]; simp)];rw[decide_eq_true q1] at h1;rw[decide_eq_false q2] at h2;generalize ints C=C1 at *;unfold L0;simp[O5,O4,O0,OZ,OY,OX,OW,OV,OU,OT,FQ,FP,k1,hw,lE,g3,g4,bE,hi,h1,h2,a1,a2,a3,a4,a5,a6,a7,a8,a9,aa,ab,idx,aH,Jp,Nz,aH,aN,bI,cV,dY,aM,aR,aK,ah,aQ,bu,bL,bC]
 ·rw[if_neg (by rw[decide_eq_false q1]; simp)];rw[decide_eq_false q1] at h1;generalize ints C=C1 at *;unfold L0;simp[O5,O4,O0,OZ,OY,OX,OW,OV,OU,OT,FQ,FP,k1,hw,lE,g3,g4,bE,hi,h1,a1,a2,a3,a4,a5,a6,a7,a8,a9,aa,ab,idx,aH,Jp,Nz,aH,aN,bI,cV,dY,aM,aR,aK,ah,aQ,bu,bL,bC]
theorem abU (N:Nat) (Es:List Ed) (C:List Int) (hC:C.length<=1000) (hE:Es.length<1000000):∀(n i:Nat) (o:List Ed),i+n=Es.length->o.length<=i ->
  aW aq 0 (.loop L0) (XW N Es C o i [])=some (.exit 0,XW N Es C ((Es.drop i).foldl (idF C) o) Es.length [(23,.bool false)])
 |0,i,o,hi,ho=>by
   obtain rfl:i=Es.length:=by omega
   rw[cE,DX];refine bn ?_;unfold XW gZ gB;generalize ints C=C1 at *;unfold L0;simp[O5,O4,O0,OZ,OY,OX,OW,OV,OU,OT,FQ,FP,aH,aN,bI,cV,dY,aM,aR,aK,ah,aQ,bu,bL,bC]
 |n+1,i,o,hi,ho=>by
   have bE:i<Es.length:=by omega
   rw[bz bE,dV];refine (aS (agk N Es C o i hC ho hE bE)).trans (abU N Es C hC hE n (i+1) (idF C o Es[i]) (by omega) ?_);unfold idF;split
   ·rw[List.length_append,List.length_singleton]; omega
   ·omega
theorem ad5 {N:Nat} {Es:List Ed} (hG:uQ (N:Int) Es) (hE:Es.length<1000000) (C:List Int) (hC:C.length<=1000):bJ aq nQu [.agg [.int .i64 N,.list 2 (fe Es)],.list 1 (ints C)] []=some (.dR [.agg [.int .i64 N,.list 2 (fe (Es.filter (yT C)))],.int .i64 0],[]):=by
 have g:=zz (N:Int) Es (by omega);rw[tE.2 hG] at g;have lp:=abU N Es C hC hE Es.length 0 [] (by omega) (Nat.le_refl _);rw[cP,Vd,oV] at lp;have fl:(Es.filter (yT C)).length<=Es.length:=List.length_filter_le _ _;have hL:(Es.filter (yT C)).length<=4294967296:=by omega
 have lE:=aN Es;have tkF:(fe (Es.filter (yT C))).take (Es.filter (yT C)).length=fe (Es.filter (yT C)):=aT (by rw[aN]; omega);obtain⟨a1,a2,a3,a4,a5,a6,a7,a8,a9,aa,ab⟩:=bg C;rw[dZ sQu (au rfl)];unfold XW gZ gB at lp;rw[show fe []=[] from rfl] at lp;simp only[fH] at lp;generalize Es.filter (yT C)=F at *;generalize ints C=C1 at *;unfold qQu cQu;simp[O5,O4,O0,OZ,OY,OX,OW,OV,OU,OT,FQ,FP,g,lp,lE,hL,tkF,a1,a2,a3,a4,a5,a6,a7,a8,a9,aa,ab,aH,bL,bC,fW,dm,dc,pl,aR,D8,xD,jU,jj,sQP,iQP,aH,aN,bI,cV,dY,aM,aR,aK,ah,aQ,bu,bL,bC]
theorem Xa {N:Nat} {Es:List Ed} (hG:uQ (N:Int) Es) (hE:Es.length<1000000) (k:Nat):∃C:List Int,(∀x:Int,x∈C ↔ ∃j:Nat,x=j/\Wi (eK N Es) (2 ^ N-1) k j)/\C.length<=N/\bJ aq nQt [.agg [.int .i64 N,.list 2 (fe Es)],.int .i64 k] []=some (.dR [.list 1 (ints C),.int .i64 0],[]):=by
 obtain⟨C,h1,h2,h3⟩:=OG hG hE k;refine⟨C,h1,h2,?_⟩;have g:=zz (N:Int) Es (by omega);rw[tE.2 hG] at g;obtain⟨a1,a2,a3,a4,a5,a6,a7,a8,a9,aa,ab⟩:=bg C;rw[dZ sQt (au rfl)];generalize ints C=C1 at *;generalize fe Es=Y at *;unfold qQt cQt;simp[aj3,aj2,aj1,aj0,ajZ,g,h3,a1,a2,a3,a4,a5,a6,a7,a8,a9,aa,ab,aH,bL,bC,fW,dm,dc,pl,sQP,iQP,sQQ,iQQ]
def mxg (k n:Int):Int:=if k<n then n else k
def rdSt (L:List Int) (k i:Int) (J:Env):St:=⟨(5,.int .i64 0)::(6,.int .i64 k)::(14,.list 1 (ints L))::(15,.int .i64 L.length)::(16,.int .i64 i)::J,[]⟩
theorem Zp (L:List Int) (hL:L.length<=64):∀(m i:Nat) (k:Int),i+m=L.length->aW aq 0 (.loop abH) (rdSt L k i [])=some (.exit 0,rdSt L ((L.drop i).foldl mxg k) L.length [(17,.bool false)])
 |0,i,k,hi=>by
   obtain rfl:i=L.length:=by omega
   rw[cE,DX];refine bn ?_;unfold rdSt abH;generalize ints L=L1 at *;simp[ZN,ZM,ZL,ZK,ZJ,ZI,ZH,ZG,ZF]
 |m+1,i,k,hi=>by
   have bE:i<L.length:=by omega
   have ih:=Zp L hL m (i+1) (mxg k L[i]) (by omega);rw[bz bE,dV];refine (aS ?_).trans ih;have k1:(i:Int)<L.length:=by omega
   have hw:=dA (i:=i) (by omega);have hx:=Dx (k:=.i64) (i:=(i:Int)) (n:=L.length) (by omega) k1;have g3:(ints L)[i]?=some (.int .i64 L[i]):=by rw[aj (by rw[ah]; exact bE),bu]
   have g4:∀h,(ints L)[i]'h=.int .i64 L[i]:=fun h=>bu _ _ _;have ll:=ah L;clear ih;unfold rdSt mxg abH;generalize ints L=L1 at *;generalize L[i]=x at *;by_cases q:k<x<;>simp[ZN,ZM,ZL,ZK,ZJ,ZI,ZH,ZG,ZF,k1,hi,hw,hx,g3,g4,ll,bE,q,idx,aH]
theorem aef {N:Nat} {Es:List Ed} (hG:uQ (N:Int) Es) (hE:Es.length<1000000):∃L,rG (eK N Es) N L/\bJ aq nQs [.agg [.int .i64 N,.list 2 (fe Es)]] []=some (.dR [.int .i64 (Wv L),.int .i64 0],[]):=by
 have hN:N<=64:=by have:=hG.1.2; omega
 obtain⟨L,hL,nr⟩:=ad3 hG hE;refine⟨L,hL,?_⟩;have lp:=Zp L (by rw[hL.1]; omega) L.length 0 0 (by omega);rw[cP] at lp;have e:L.foldl mxg 0=Wv L:=rfl;rw[e] at lp;have ll:=ah L;unfold rdSt at lp;simp only[fH] at lp;rw[dZ sQs (au rfl)];generalize ints L=L1 at *;generalize fe Es=Y at *;generalize Wv L=D at *;unfold qQs cQs;simp[ZN,ZM,ZL,ZK,ZJ,ZI,ZH,ZG,ZF,nr,lp,ll,aH,bL,bC,dc,pl,sQO,iQO]
/- ref15.Components, ref18.before, ref18.add. -/
theorem Jy (n:Int):Up (jq n):=by
 unfold jq Up;rw[List.pairwise_map];exact List.pairwise_lt_range.imp fun h=>by omega
theorem GX {N:Nat} (hN:N<=64) (x:Int):x∈jq (N:Int) ↔ 0<=x/\x<N:=by
 unfold jq;rw[List.mem_map];constructor
 ·rintro⟨j,hj,rfl⟩;have:=iP.1 hj;omega
 ·rintro⟨a,b⟩;exact⟨x.toNat,iP.2 (by omega),by omega⟩
theorem acR {N:Nat} {Es:List Ed} (hG:uQ (N:Int) Es) (hE:Es.length<1000000):∃cs,(YW (eK N Es) (jq (N:Int)) cs/\cs.length<=64)/\bJ aq nQv [.agg [.int .i64 N,.list 2 (fe Es)]] []=some (.dR [.list 1 (gJ cs),.int .i64 0],[]):=by
 have hN:N<=64:=by have:=hG.1.2; omega
 have g:=zz (N:Int) Es (by omega);rw[tE.2 hG] at g;have rr:=OK (N:Int);have rl:(jq (N:Int)).length<=64:=by unfold jq; rw[aX,List.length_range]; omega
 obtain⟨cs,⟨c1,c2⟩,lp⟩:=acj hG hE 64 (jq (N:Int)) [] rl (Jy _) (fun x hx=>(GX hN x).1 hx) (by simpa using rl);refine⟨cs,⟨c1,by omega⟩,?_⟩;rw[oV] at lp;have gl:=gI cs;have tk1:(gJ cs).take cs.length=gJ cs:=aT (by omega);obtain⟨b1,b2,b3,b4,b5,b6,b7,b8,b9,ba,bb⟩:=bg (jq (N:Int));rw[dZ sQv (au rfl)];unfold YD yV at lp;rw[show gJ []=[] from rfl,show ints []=[] from rfl] at lp;clear c1;generalize gJ cs=C1 at *;generalize ints (jq (N:Int))=R1 at *;generalize fe Es=Y at *;unfold qQv cQv;simp[ZE,ZD,ZC,ZB,ZA,Zz,Zy,Zx,Zw,Zu,g,rr,lp,gl,tk1,b1,b2,b3,b4,b5,b6,b7,b8,b9,ba,bb,aH,bL,bC,eR,fW,dm,dc,pl,sQP,iQP,sQR,iQR]
theorem Tj (x y:Pt) (hx:x.2.2.length<=1000) (hy:y.2.2.length<=1000):bJ aq nQU [bw x,bw y] []=some (.bool (wQ x y),[]):=by
 obtain⟨a,b,s⟩:=x;obtain⟨c,d,t⟩:=y;have h2:=aci s t (by simp at hx; omega) (by simp at hy; omega)
 have e:wQ (a,b,s) (c,d,t)=(decide (a<c)||(decide (a=c)&&decide (ji s t<0))):=by
  rw[Bool.eq_iff_iff,th];simp
 rw[e];obtain⟨a1,a2,a3,a4,a5,a6,a7,a8,a9,aa,ab⟩:=bg s;obtain⟨b1,b2,b3,b4,b5,b6,b7,b8,b9,ba,bb⟩:=bg t;rw[dZ sQU (au rfl)];unfold bw;simp only;generalize ji s t=z at *;generalize ints s=S1 at *;generalize ints t=T1 at *;unfold qQU cQU;by_cases q1:a<c
 ·have q2:¬a=c:=by omega
  simp[ZX,ZW,q1,q2,h2,a1,a2,a3,a4,a5,a6,a7,a8,a9,aa,ab,b1,b2,b3,b4,b5,b6,b7,b8,b9,ba,bb,aH,bL,bC,eR,fW,dm,dc,pl,sQF,iQF]
 ·by_cases q2:a=c
  ·subst q2;simp[ZX,ZW,q1,h2,a1,a2,a3,a4,a5,a6,a7,a8,a9,aa,ab,b1,b2,b3,b4,b5,b6,b7,b8,b9,ba,bb,aH,bL,bC,eR,fW,dm,dc,pl,sQF,iQF]
  ·simp[ZX,ZW,q1,q2,h2,a1,a2,a3,a4,a5,a6,a7,a8,a9,aa,ab,b1,b2,b3,b4,b5,b6,b7,b8,b9,ba,bb,aH,bL,bC,eR,fW,dm,dc,pl,sQF,iQF]
def xf (a:List (List Int × Int)):List AV:=a.map fun p=>bw (p.2,0,p.1)
theorem uc (a:List (List Int × Int)):(xf a).length=a.length:=aX _
theorem aly (a:List (List Int × Int)) (i:Nat) (h:i<a.length):(xf a)[i]?=some (bw (a[i].2,0,a[i].1)):=by
 unfold xf;rw[List.getElem?_map,aj h]; rfl
theorem ahY (a:List (List Int × Int)) (i:Nat) (s:List Int) (m:Int):(xf a).set i (bw (m,0,s))=xf (a.set i (s,m)):=by
 unfold xf;rw[List.map_set]
theorem Wd:∀(a:List (List Int × Int)) (s:List Int) (k:Int) (i:Nat) (h:i<a.length),(∀j (hj:j<a.length),j<i->a[j].1≠s)->a[i].1=s->qC a s k=a.set i (s,max a[i].2 k)
 |[],s,k,i,h,_,_=>by simp at h
 |(t,z)::r,s,k,0,h,_,e=>by
   have e:t=s:=e;unfold qC;rw[if_pos e,e]; rfl
 |(t,z)::r,s,k,i+1,h,hn,e=>by
   have h0:t≠s:=hn 0 (by simp) (by omega);have hi:i<r.length:=by simpa using h
   unfold qC;rw[if_neg h0,List.set_cons_succ];have ih:=Wd r s k i hi (fun j hj DU=>hn (j+1) (by simp; omega) (by omega)) e;rw[ih];rfl
theorem We:∀(a:List (List Int × Int)) (s:List Int) (k:Int),(∀j (hj:j<a.length),a[j].1≠s)->qC a s k=a++[(s,k)]
 |[],s,k,_=>rfl
 |(t,z)::r,s,k,hn=>by
   have h0:t≠s:=hn 0 (by simp);unfold qC;rw[if_neg h0,We r s k fun j hj=>hn (j+1) (by simp; omega)];rfl
def NM (a:List (List Int × Int)) (k:Int) (S1:List AV) (i:Nat) (J:Env):St:=⟨(0,.own 3 (xf a))::(1,.int .i64 k)::(2,.list 1 S1)::(9,.int .i64 a.length)::(10,.int .i64 i)::J,[]⟩
theorem Zt (a:List (List Int × Int)) (k:Int) (s:List Int) (ha:a.length<=900) (iZ:∀p∈a,p.1.length<=1000) (hs:s.length<=1000):∀(n i:Nat),i+n=a.length->(∀j (hj:j<a.length),j<i->a[j].1≠s) ->
  ((∀j (hj:j<a.length),a[j].1≠s)/\aW aq 0 (.loop LZ) (NM a k (ints s) i [])=some (.exit 0,NM a k (ints s) a.length [(11,.bool false)])) \/
  aW aq 0 (.loop LZ) (NM a k (ints s) i [])=some (.ret,⟨[(6,.own 3 (xf (qC a s k)))],[]⟩)
 |0,i,hi,hn=>by
   obtain rfl:i=a.length:=by omega
   refine .inl ⟨fun j hj=>hn j hj hj,bn ?_⟩;unfold NM;generalize xf a=P1 at *;generalize ints s=S1 at *;unfold LZ;simp[JH,JG,JF,JE,JD,JC,JB,JA,Jz]
 |n+1,i,hi,hn=>by
   have bE:i<a.length:=by omega
   have k1:(i:Int)<a.length:=by omega
   have hw:=dA (i:=i) (by omega);have la:=uc a;have g3:=aly a i bE;have Bp:i<(xf a).length:=by omega
   have g4:∀h,(xf a)[i]'h=bw (a[i].2,0,a[i].1):=fun h=>by
    rw[aj h] at g3;exact bj g3
   have sm:=vW a[i].1 s (by have:=iZ _ (List.getElem_mem bE); omega) (by omega);obtain⟨b1,b2,b3,b4,b5,b6,b7,b8,b9,ba,bb⟩:=bg a[i].1;obtain⟨c1,c2,c3,c4,c5,c6,c7,c8,c9,ca,cb⟩:=bg s;by_cases q:a[i].1=s
   ·right;refine dM ?_;have st:=ahY a i s (max a[i].2 k);rw[<-Wd a s k i bE hn q] at st;rw[decide_eq_true q] at sm;rw[q] at g3 g4 sm;unfold NM;rw[<-st];unfold bw at *;generalize xf a=P1 at *;have mx:max a[i].2 k=if a[i].2<k then k else a[i].2:=by split<;>omega
    generalize a[i].2=z at *;rw[mx];have tks:∀x,(P1.set i x).take a.length=P1.set i x:=fun x=>aT (by rw[List.length_set]; omega);generalize ints s=S1 at *;unfold LZ;by_cases q2:z<k
    ·simp[JH,JG,JF,JE,JD,JC,JB,JA,Jz,k1,bE,hw,la,g3,g4,Bp,sm,q2,tks,b1,b2,b3,b4,b5,b6,b7,b8,b9,ba,bb,c1,c2,c3,c4,c5,c6,c7,c8,c9,ca,cb,idx,aH,dc,pl,sQk,iQk]
    ·simp[JH,JG,JF,JE,JD,JC,JB,JA,Jz,k1,bE,hw,la,g3,g4,Bp,sm,q2,tks,b1,b2,b3,b4,b5,b6,b7,b8,b9,ba,bb,c1,c2,c3,c4,c5,c6,c7,c8,c9,ca,cb,idx,aH,dc,pl,sQk,iQk]
   ·have SC:∀j (hj:j<a.length),j<i+1->a[j].1≠s:=fun j hj DU=>by
     rcases Nat.eq_or_lt_of_le (Nat.le_of_lt_succ DU) with rfl|DU
     ·exact q
     ·exact hn j hj DU
    rw[decide_eq_false q] at sm
    have rd:aW aq 0 LZ (NM a k (ints s) i [])=some (.normal,NM a k (ints s) (i+1) []):=by
     unfold NM;unfold bw at *;generalize xf a=P1 at *;generalize ints a[i].1=T1 at *;generalize a[i].2=z at *;generalize ints s=S1 at *;unfold LZ;simp[JH,JG,JF,JE,JD,JC,JB,JA,Jz,k1,bE,hw,la,g3,g4,Bp,sm,b1,b2,b3,b4,b5,b6,b7,b8,b9,ba,bb,c1,c2,c3,c4,c5,c6,c7,c8,c9,ca,cb,idx,aH,dc,pl,sQk,iQk]
    rcases Zt a k s ha iZ hs n (i+1) (by omega) SC with⟨h1,h2⟩|h2
    ·exact .inl ⟨h1,(aS rd).trans h2⟩
    ·exact .inr ((aS rd).trans h2)
theorem acN (a:List (List Int × Int)) (k:Int) (s:List Int) (ha:a.length<=900) (iZ:∀p∈a,p.1.length<=1000) (hs:s.length<=1000):bJ aq tN [.own 3 (xf a),.int .i64 k,.list 1 (ints s)] []=some (.own 3 (xf (qC a s k)),[]):=by
 have la:=uc a;obtain⟨c1,c2,c3,c4,c5,c6,c7,c8,c9,ca,cb⟩:=bg s;have la2:=uc (qC a s k);have tk2:(xf (qC a s k)).take (qC a s k).length=xf (qC a s k):=aT (by omega);rw[dZ sQx (au rfl)];rcases Zt a k s ha iZ hs a.length 0 (by omega) (fun j hj h=>by omega) with⟨h1,lp⟩|lp
 ·have e:=We a s k h1;have e2:xf a++[bw (k,0,s)]=xf (qC a s k):=by rw[e]; unfold xf; rw[List.map_append]; rfl
  have Ry:a.length+1<=4294967296:=by omega
  have l3:(qC a s k).length=a.length+1:=by rw[e]; simp
  rw[l3] at tk2 la2;rw[<-e2] at tk2 la2 ⊢;unfold NM at lp;unfold bw at *;simp only[fH] at lp;have tka:(xf a).take a.length=xf a:=aT (by omega);generalize xf a=P1 at *;generalize ints s=S1 at *;unfold qQx cQx;simp[JH,JG,JF,JE,JD,JC,JB,JA,Jz,lp,la,Ry,ks,tk2,la2,tka,c1,c2,c3,c4,c5,c6,c7,c8,c9,ca,cb,fz,FG,Iw,rep,fa,aH,bL,bC,eR,wN,LU,Ow,Ov,dc,pl]
 ·unfold NM at lp;simp only[fH] at lp;generalize xf (qC a s k)=P2 at *;generalize xf a=P1 at *;generalize ints s=S1 at *;unfold qQx cQx;simp[JH,JG,JF,JE,JD,JC,JB,JA,Jz,lp,la,la2,tk2,c1,c2,c3,c4,c5,c6,c7,c8,c9,ca,cb,aH,bL,bC,eR,wN,LU,Ow,Ov,dc,pl]
end Go.BmP
