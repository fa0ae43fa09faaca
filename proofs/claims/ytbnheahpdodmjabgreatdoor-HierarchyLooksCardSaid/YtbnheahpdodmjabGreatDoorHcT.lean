/- hierarchy.gathered: the parents. -/
import Derived.Test.YtbnheahpdodmjabGreatDoorHcQ
set_option linter.unusedSimpArgs false
set_option linter.unusedVariables false
set_option maxRecDepth 100000
set_option maxHeartbeats 8000000
open List renaming getD_eq_getElem?_getD → aG, getElem?_eq_getElem → aj, getElem?_map → cu, getElem?_set → aU
open Option renaming getD_some → eJ
open Option.some renaming inj → bj
namespace Go.BmP
open Go.Am Go.Bm
def D3 (a b:List Int):Bool:=a.all fun x=>decide (x∈b)
def bM (P:List Pt) (i:Nat):List Int:=(P.getD i (0,0,[])).2.2
def zX (P:List Pt) (i:Nat) (p:Int) (k:Nat):Bool:=decide ((bM P i).length<(bM P k).length)&&(D3 (bM P i) (bM P k)&&(decide (p<0)||decide ((bM P k).length<(bM P p.toNat).length)))
def iL (P:List Pt) (i:Nat) (p:Int) (k:Nat):Int:=if zX P i p k=true then k else p
def mq (P:List Pt) (i:Nat) (p:Int):List AV:=(P.set i ((P.getD i (0,0,[])).1,p,bM P i)).map bw
theorem lF (P:List Pt) (i:Nat) (p:Int):(mq P i p).length=P.length:=by simp[mq]
theorem xj (P:List Pt) (i:Nat) (p:Int) (j:Nat) (h:j<P.length):∃l q,(mq P i p)[j]?=some (bw (l,q,bM P j))/\(j=i->q=p):=by
 unfold mq;rw[cu,aU];by_cases e:i=j
 ·subst e;rw[if_pos rfl,if_pos h];exact⟨_,p,rfl,fun _=>rfl⟩
 ·rw[if_neg e,aj h];refine⟨P[j].1,P[j].2.1,?_,fun e2=>absurd e2.symm e⟩;simp only[Option.map_some,bM,aG,aj h,eJ]
theorem IJ (P:List Pt) (i:Nat) (p q:Int) (h:i<P.length):(mq P i p).set i (bw ((P.getD i (0,0,[])).1,q,bM P i))=mq P i q:=by
 unfold mq;rw[<-List.map_set,List.set_set]
theorem C9 (P:List Pt) (i:Nat) (p:Int) (h:i<P.length):(mq P i p)[i]?=some (bw ((P.getD i (0,0,[])).1,p,bM P i)):=by
 unfold mq;rw[cu,aU,if_pos rfl,if_pos h];rfl
def hC (N:Nat) (Y O1 L1:List AV):Heap:=[uh N Y,uh N Y,some O1,some L1,some [.sl 1 3 0 N]]
def vF (N:Nat) (Y O1 L1:List AV) (P:List Pt) (i:Nat) (p:Int) (k:Nat) (J:Env):St:=
 ⟨(6,.own 3 (mq P i p))::(13,.int .i64 i)::(70,.int .i64 P.length)::(71,.int .i64 i)::(74,.int .i64 i)::(75,.int .i64 k)::J,hC N Y O1 L1⟩
theorem amK {N:Nat} {Y:List AV} (o L:List Int) (P:List Pt) (hP:P.length<=900) (i:Nat) (hi:i<P.length) (p:Int) (k:Nat) (hk:k<i) (h1:¬(bM P i).length<(bM P k).length) :
  aW aq 5 vk (vF N Y (ints o) (ints L) P i p k [])=some (.normal,vF N Y (ints o) (ints L) P i p (k+1) []):=by
 have k1:(k:Int)<i:=by omega
 have RN:k<P.length:=by omega
 have hw:=dA (i:=k) (by omega);obtain⟨l2,q2,e2,_⟩:=xj P i p k RN;have e1:=C9 P i p hi;have la:=lF P i p;have s1:=ah (bM P i);have s2:=ah (bM P k);have n1:¬((bM P i).length:Int)<(bM P k).length:=by omega
 have Is:k<(mq P i p).length:=by rw[la]; exact RN
 have SD:i<(mq P i p).length:=by rw[la]; exact hi
 have i1:(i:Int)<P.length:=by omega
 have i2:(k:Int)<P.length:=by omega
 have f2:∀h,(mq P i p)[k]'h=bw (l2,q2,bM P k):=fun h=>by
  rw[aj h] at e2;exact bj e2
 have f1:∀h,(mq P i p)[i]'h=bw ((P.getD i (0,0,[])).1,p,bM P i):=fun h=>by
  rw[aj h] at e1;exact bj e1
 obtain⟨a1,a2,a3,a4,a5,a6,a7,a8,a9,aa,ab⟩:=bg o;obtain⟨b1,b2,b3,b4,b5,b6,b7,b8,b9,ba,bb⟩:=bg L;unfold vF hC uh;unfold bw at *;generalize mq P i p=P1 at *;generalize (P.getD i (0,0,[])).1=l1 at *;generalize ints (bM P i)=S1 at *;generalize ints (bM P k)=S2 at *;generalize (bM P i).length=m1 at *;generalize (bM P k).length=m2 at *;generalize ints o=O1 at *;generalize ints L=L1 at *;unfold vk;simp[rf,rb,q9,q8,q7,q6,qZ,qY,qX,qW,lC,lx,lr,lk,lj,lg,k9,k8,k7,kZ,kY,kX,kW,kV,kU,kT,kS,kR,kQ,kP,kO,kN,k1,hk,hw,e1,e2,f1,f2,la,s1,s2,h1,n1,hi,RN,Is,SD,i1,i2,a1,a2,a3,a4,a5,a6,a7,a8,a9,aa,ab,b1,b2,b3,b4,b5,b6,b7,b8,b9,ba,bb,idx,aH,dc,pl]
theorem amJ {N:Nat} {Y:List AV} (o L:List Int) (P:List Pt) (hP:P.length<=900) (iZ:∀j,(bM P j).length<=64) (i:Nat) (hi:i<P.length) (p:Int) (k:Nat) (hk:k<i) (h1:(bM P i).length<(bM P k).length) (h2:D3 (bM P i) (bM P k)=false) :
  aW aq 5 vk (vF N Y (ints o) (ints L) P i p k [])=some (.normal,vF N Y (ints o) (ints L) P i p (k+1) []):=by
 have k1:(k:Int)<i:=by omega
 have RN:k<P.length:=by omega
 have hw:=dA (i:=k) (by omega);obtain⟨l2,q2,e2,_⟩:=xj P i p k RN;have e1:=C9 P i p hi;have la:=lF P i p;have s1:=ah (bM P i);have s2:=ah (bM P k);have n1:((bM P i).length:Int)<(bM P k).length:=by omega
 have wr:=ve (bM P i) (bM P k) (by have:=iZ i; have:=iZ k; omega);rw[show ((bM P i).all fun x=>decide (x∈bM P k))=D3 (bM P i) (bM P k) from rfl,h2] at wr;have Is:k<(mq P i p).length:=by rw[la]; exact RN
 have SD:i<(mq P i p).length:=by rw[la]; exact hi
 have i1:(i:Int)<P.length:=by omega
 have i2:(k:Int)<P.length:=by omega
 have f2:∀h,(mq P i p)[k]'h=bw (l2,q2,bM P k):=fun h=>by
  rw[aj h] at e2;exact bj e2
 have f1:∀h,(mq P i p)[i]'h=bw ((P.getD i (0,0,[])).1,p,bM P i):=fun h=>by
  rw[aj h] at e1;exact bj e1
 obtain⟨a1,a2,a3,a4,a5,a6,a7,a8,a9,aa,ab⟩:=bg o;obtain⟨b1,b2,b3,b4,b5,b6,b7,b8,b9,ba,bb⟩:=bg L;unfold vF hC uh;unfold bw at *;generalize mq P i p=P1 at *;generalize (P.getD i (0,0,[])).1=l1 at *;generalize ints (bM P i)=S1 at *;generalize ints (bM P k)=S2 at *;generalize (bM P i).length=m1 at *;generalize (bM P k).length=m2 at *;generalize ints o=O1 at *;generalize ints L=L1 at *;unfold vk;simp[rf,rb,q9,q8,q7,q6,qZ,qY,qX,qW,lC,lx,lr,lk,lj,lg,k9,k8,k7,kZ,kY,kX,kW,kV,kU,kT,kS,kR,kQ,kP,kO,kN,k1,hk,hw,e1,e2,f1,f2,la,s1,s2,h1,n1,wr,sQ7,iQ7,hi,RN,Is,SD,i1,i2,a1,a2,a3,a4,a5,a6,a7,a8,a9,aa,ab,b1,b2,b3,b4,b5,b6,b7,b8,b9,ba,bb,idx,aH,dc,pl]
theorem aiW {N:Nat} {Y:List AV} (o L:List Int) (P:List Pt) (hP:P.length<=900) (iZ:∀j,(bM P j).length<=64) (i:Nat) (hi:i<P.length) (p:Int) (k:Nat) (hk:k<i) (h1:(bM P i).length<(bM P k).length) (h2:D3 (bM P i) (bM P k)=true) (h3:p<0) :
  aW aq 5 vk (vF N Y (ints o) (ints L) P i p k [])=some (.normal,vF N Y (ints o) (ints L) P i k (k+1) []):=by
 have k1:(k:Int)<i:=by omega
 have RN:k<P.length:=by omega
 have hw:=dA (i:=k) (by omega);obtain⟨l2,q2,e2,_⟩:=xj P i p k RN;have e1:=C9 P i p hi;have la:=lF P i p;have s1:=ah (bM P i);have s2:=ah (bM P k);have n1:((bM P i).length:Int)<(bM P k).length:=by omega
 have wr:=ve (bM P i) (bM P k) (by have:=iZ i; have:=iZ k; omega);rw[show ((bM P i).all fun x=>decide (x∈bM P k))=D3 (bM P i) (bM P k) from rfl,h2] at wr;have Is:k<(mq P i p).length:=by rw[la]; exact RN
 have SD:i<(mq P i p).length:=by rw[la]; exact hi
 have i1:(i:Int)<P.length:=by omega
 have i2:(k:Int)<P.length:=by omega
 have f2:∀h,(mq P i p)[k]'h=bw (l2,q2,bM P k):=fun h=>by
  rw[aj h] at e2;exact bj e2
 have f1:∀h,(mq P i p)[i]'h=bw ((P.getD i (0,0,[])).1,p,bM P i):=fun h=>by
  rw[aj h] at e1;exact bj e1
 obtain⟨a1,a2,a3,a4,a5,a6,a7,a8,a9,aa,ab⟩:=bg o;obtain⟨b1,b2,b3,b4,b5,b6,b7,b8,b9,ba,bb⟩:=bg L;have st:=IJ P i p k hi;unfold vF hC uh;rw[<-st];unfold bw at *;generalize mq P i p=P1 at *;generalize (P.getD i (0,0,[])).1=l1 at *;generalize ints (bM P i)=S1 at *;generalize ints (bM P k)=S2 at *;generalize (bM P i).length=m1 at *;generalize (bM P k).length=m2 at *;generalize ints o=O1 at *;generalize ints L=L1 at *;unfold vk;simp[rf,rb,q9,q8,q7,q6,qZ,qY,qX,qW,lC,lx,lr,lk,lj,lg,k9,k8,k7,kZ,kY,kX,kW,kV,kU,kT,kS,kR,kQ,kP,kO,kN,k1,hk,hw,e1,e2,f1,f2,la,s1,s2,h1,n1,wr,sQ7,iQ7,h3,st,hi,RN,Is,SD,i1,i2,a1,a2,a3,a4,a5,a6,a7,a8,a9,aa,ab,b1,b2,b3,b4,b5,b6,b7,b8,b9,ba,bb,idx,aH,dc,pl]
theorem amI {N:Nat} {Y:List AV} (o L:List Int) (P:List Pt) (hP:P.length<=900) (iZ:∀j,(bM P j).length<=64) (i:Nat) (hi:i<P.length) (p:Int) (k:Nat) (hk:k<i) (h1:(bM P i).length<(bM P k).length) (h2:D3 (bM P i) (bM P k)=true) (h3:0<=p) (h4:p<i) (h5:¬(bM P k).length<(bM P p.toNat).length) :
  aW aq 5 vk (vF N Y (ints o) (ints L) P i p k [])=some (.normal,vF N Y (ints o) (ints L) P i p (k+1) []):=by
 have k1:(k:Int)<i:=by omega
 have RN:k<P.length:=by omega
 have hw:=dA (i:=k) (by omega);obtain⟨l2,q2,e2,_⟩:=xj P i p k RN;have e1:=C9 P i p hi;have la:=lF P i p;have s1:=ah (bM P i);have s2:=ah (bM P k);have n1:((bM P i).length:Int)<(bM P k).length:=by omega
 have wr:=ve (bM P i) (bM P k) (by have:=iZ i; have:=iZ k; omega);rw[show ((bM P i).all fun x=>decide (x∈bM P k))=D3 (bM P i) (bM P k) from rfl,h2] at wr;have NW:p.toNat<P.length:=by omega
 obtain⟨l3,q3,e3,_⟩:=xj P i p p.toNat NW;have s3:=ah (bM P p.toNat);have hlp:p.toNat<(mq P i p).length:=by rw[la]; exact NW
 have f3:∀h,(mq P i p)[p.toNat]'h=bw (l3,q3,bM P p.toNat):=fun h=>by
  rw[aj h] at e3;exact bj e3
 have p0:¬p<0:=by omega
 have p1:(0:Int)<=p:=by omega
 have p2:p<P.length:=by omega
 have n5:¬((bM P k).length:Int)<(bM P p.toNat).length:=by omega
 have Is:k<(mq P i p).length:=by rw[la]; exact RN
 have SD:i<(mq P i p).length:=by rw[la]; exact hi
 have i1:(i:Int)<P.length:=by omega
 have i2:(k:Int)<P.length:=by omega
 have f2:∀h,(mq P i p)[k]'h=bw (l2,q2,bM P k):=fun h=>by
  rw[aj h] at e2;exact bj e2
 have f1:∀h,(mq P i p)[i]'h=bw ((P.getD i (0,0,[])).1,p,bM P i):=fun h=>by
  rw[aj h] at e1;exact bj e1
 obtain⟨a1,a2,a3,a4,a5,a6,a7,a8,a9,aa,ab⟩:=bg o;obtain⟨b1,b2,b3,b4,b5,b6,b7,b8,b9,ba,bb⟩:=bg L;unfold vF hC uh;unfold bw at *;generalize mq P i p=P1 at *;generalize (P.getD i (0,0,[])).1=l1 at *;generalize ints (bM P i)=S1 at *;generalize ints (bM P k)=S2 at *;generalize (bM P i).length=m1 at *;generalize (bM P k).length=m2 at *;generalize ints (bM P p.toNat)=S3 at *;generalize (bM P p.toNat).length=m3 at *;generalize ME:p.toNat=pn at *;generalize ints o=O1 at *;generalize ints L=L1 at *;unfold vk;simp[rf,rb,q9,q8,q7,q6,qZ,qY,qX,qW,lC,lx,lr,lk,lj,lg,k9,k8,k7,kZ,kY,kX,kW,kV,kU,kT,kS,kR,kQ,kP,kO,kN,k1,hk,hw,e1,e2,f1,f2,la,s1,s2,h1,n1,wr,sQ7,iQ7,h3,h5,n5,ME,p0,p1,p2,s3,e3,f3,hlp,NW,hi,RN,Is,SD,i1,i2,a1,a2,a3,a4,a5,a6,a7,a8,a9,aa,ab,b1,b2,b3,b4,b5,b6,b7,b8,b9,ba,bb,idx,aH,dc,pl]
theorem aiV {N:Nat} {Y:List AV} (o L:List Int) (P:List Pt) (hP:P.length<=900) (iZ:∀j,(bM P j).length<=64) (i:Nat) (hi:i<P.length) (p:Int) (k:Nat) (hk:k<i) (h1:(bM P i).length<(bM P k).length) (h2:D3 (bM P i) (bM P k)=true) (h3:0<=p) (h4:p<i) (h5:(bM P k).length<(bM P p.toNat).length) :
  aW aq 5 vk (vF N Y (ints o) (ints L) P i p k [])=some (.normal,vF N Y (ints o) (ints L) P i k (k+1) []):=by
 have k1:(k:Int)<i:=by omega
 have RN:k<P.length:=by omega
 have hw:=dA (i:=k) (by omega);obtain⟨l2,q2,e2,_⟩:=xj P i p k RN;have e1:=C9 P i p hi;have la:=lF P i p;have s1:=ah (bM P i);have s2:=ah (bM P k);have n1:((bM P i).length:Int)<(bM P k).length:=by omega
 have wr:=ve (bM P i) (bM P k) (by have:=iZ i; have:=iZ k; omega);rw[show ((bM P i).all fun x=>decide (x∈bM P k))=D3 (bM P i) (bM P k) from rfl,h2] at wr;have NW:p.toNat<P.length:=by omega
 obtain⟨l3,q3,e3,_⟩:=xj P i p p.toNat NW;have s3:=ah (bM P p.toNat);have hlp:p.toNat<(mq P i p).length:=by rw[la]; exact NW
 have f3:∀h,(mq P i p)[p.toNat]'h=bw (l3,q3,bM P p.toNat):=fun h=>by
  rw[aj h] at e3;exact bj e3
 have p0:¬p<0:=by omega
 have p1:(0:Int)<=p:=by omega
 have p2:p<P.length:=by omega
 have n5:((bM P k).length:Int)<(bM P p.toNat).length:=by omega
 have Is:k<(mq P i p).length:=by rw[la]; exact RN
 have SD:i<(mq P i p).length:=by rw[la]; exact hi
 have i1:(i:Int)<P.length:=by omega
 have i2:(k:Int)<P.length:=by omega
 have f2:∀h,(mq P i p)[k]'h=bw (l2,q2,bM P k):=fun h=>by
  rw[aj h] at e2;exact bj e2
 have f1:∀h,(mq P i p)[i]'h=bw ((P.getD i (0,0,[])).1,p,bM P i):=fun h=>by
  rw[aj h] at e1;exact bj e1
 obtain⟨a1,a2,a3,a4,a5,a6,a7,a8,a9,aa,ab⟩:=bg o;obtain⟨b1,b2,b3,b4,b5,b6,b7,b8,b9,ba,bb⟩:=bg L;have st:=IJ P i p k hi;unfold vF hC uh;rw[<-st];unfold bw at *;generalize mq P i p=P1 at *;generalize (P.getD i (0,0,[])).1=l1 at *;generalize ints (bM P i)=S1 at *;generalize ints (bM P k)=S2 at *;generalize (bM P i).length=m1 at *;generalize (bM P k).length=m2 at *;generalize ints (bM P p.toNat)=S3 at *;generalize (bM P p.toNat).length=m3 at *;generalize ME:p.toNat=pn at *;generalize ints o=O1 at *;generalize ints L=L1 at *;unfold vk;simp[rf,rb,q9,q8,q7,q6,qZ,qY,qX,qW,lC,lx,lr,lk,lj,lg,k9,k8,k7,kZ,kY,kX,kW,kV,kU,kT,kS,kR,kQ,kP,kO,kN,k1,hk,hw,e1,e2,f1,f2,la,s1,s2,h1,n1,wr,sQ7,iQ7,h3,h5,n5,ME,p0,p1,p2,s3,e3,f3,hlp,NW,st,hi,RN,Is,SD,i1,i2,a1,a2,a3,a4,a5,a6,a7,a8,a9,aa,ab,b1,b2,b3,b4,b5,b6,b7,b8,b9,ba,bb,idx,aH,dc,pl]
/- hierarchy.gathered: the search for a parent. -/
theorem agC {N:Nat} {Y:List AV} (o L:List Int) (P:List Pt) (hP:P.length<=900) (iZ:∀j,(bM P j).length<=64) (i:Nat) (hi:i<P.length) (p:Int) (hp:p<i) (k:Nat) (hk:k<i) :
  aW aq 5 vk (vF N Y (ints o) (ints L) P i p k [])=some (.normal,vF N Y (ints o) (ints L) P i (iL P i p k) (k+1) []):=by
 by_cases h1:(bM P i).length<(bM P k).length
 ·cases h2:D3 (bM P i) (bM P k) with
  |false=>
    have e:iL P i p k=p:=by unfold iL zX; rw[h2]; simp
    rw[e]; exact amJ o L P hP iZ i hi p k hk h1 h2
  |true=>
    by_cases h3:p<0
    ·have e:iL P i p k=k:=by unfold iL zX; rw[h2]; simp[h1,h3]
     rw[e]; exact aiW o L P hP iZ i hi p k hk h1 h2 h3
    ·by_cases h5:(bM P k).length<(bM P p.toNat).length
     ·have e:iL P i p k=k:=by unfold iL zX; rw[h2]; simp[h1,h5]
      rw[e]; exact aiV o L P hP iZ i hi p k hk h1 h2 (by omega) hp h5
     ·have e:iL P i p k=p:=by unfold iL zX; rw[h2]; simp[h3,h5]
      rw[e]; exact amI o L P hP iZ i hi p k hk h1 h2 (by omega) hp h5
 ·have e:iL P i p k=p:=by unfold iL zX; simp[h1]
  rw[e]; exact amK o L P hP i hi p k hk h1
def mY (P:List Pt) (i:Nat):Nat->Nat->Int->Int
 |0,_,p=>p
 |n+1,k,p=>mY P i n (k+1) (iL P i p k)
theorem ab1 {N:Nat} {Y:List AV} (o L:List Int) (P:List Pt) (hP:P.length<=900) (iZ:∀j,(bM P j).length<=64) (i:Nat) (hi:i<P.length):∀(n k:Nat) (p:Int),k+n=i->p<i ->
  aW aq 5 (.loop vk) (vF N Y (ints o) (ints L) P i p k [])=some (.exit 8,vF N Y (ints o) (ints L) P i (mY P i n k p) i [(76,.bool false)])
 |0,k,p,hk,hp=>by
   obtain rfl:k=i:=by omega
   refine bn ?_;have e:mY P k 0 k p=p:=rfl;rw[e];unfold vF hC uh;generalize mq P k p=P1 at *;generalize ints o=O1 at *;generalize ints L=L1 at *;unfold vk;simp[rf,rb,q9,q8,q7,q6,qZ,qY,qX,qW,lC,lx,lr,lk,lj,lg,k9,k8,k7,kZ,kY,kX,kW,kV,kU,kT,kS,kR,kQ,kP,kO,kN]
 |n+1,k,p,hk,hp=>(aS (agC o L P hP iZ i hi p hp k (by omega))).trans (ab1 o L P hP iZ i hi n (k+1) (iL P i p k) (by omega) (by unfold iL; split<;>omega))
/- hierarchy.gathered: the parents of all parts. -/
def ij (P:List Pt) (i:Nat):Int:=(P.getD i (0,0,[])).2.1
def xk (P:List Pt) (i:Nat):List Pt:=P.set i ((P.getD i (0,0,[])).1,mY P i i 0 (ij P i),bM P i)
def Yg (N:Nat) (Y O1 L1:List AV) (P:List Pt) (i:Nat) (J:Env):St:=⟨(6,.own 3 (P.map bw))::(70,.int .i64 P.length)::(71,.int .i64 i)::J,hC N Y O1 L1⟩
theorem TO (P:List Pt) (i:Nat) (h:i<P.length):mq P i (ij P i)=P.map bw:=by
 unfold mq ij bM;rw[aG,aj h,eJ];congr 1;exact List.set_getElem_self h
theorem agB {N:Nat} {Y:List AV} (o L:List Int) (P:List Pt) (hP:P.length<=900) (iZ:∀j,(bM P j).length<=64) (i:Nat) (hi:i<P.length) (hp:ij P i<i) :
  aW aq 5 UQ (Yg N Y (ints o) (ints L) P i [])=some (.normal,Yg N Y (ints o) (ints L) (xk P i) (i+1) []):=by
 have k1:(i:Int)<P.length:=by omega
 have hw:=dA (i:=i) (by omega);have lp:=ab1 (N:=N) (Y:=Y) o L P hP iZ i hi i 0 (ij P i) (by omega) hp;have e1:mq P i (mY P i i 0 (ij P i))=(xk P i).map bw:=rfl;have e2:(xk P i).length=P.length:=by unfold xk; simp
 unfold vF at lp;rw[e1,TO P i hi] at lp;unfold Yg;rw[e2];unfold hC uh at *;simp only[fH] at lp;obtain⟨a1,a2,a3,a4,a5,a6,a7,a8,a9,aa,ab⟩:=bg o;obtain⟨b1,b2,b3,b4,b5,b6,b7,b8,b9,ba,bb⟩:=bg L;generalize (xk P i).map bw=P2 at *;generalize P.map bw=P1 at *;generalize ints o=O1 at *;generalize ints L=L1 at *;unfold UQ;simp[rf,rb,q9,q8,q7,q6,qZ,qY,qX,qW,lC,lx,lr,lk,lj,lg,k9,k8,k7,kZ,kY,kX,kW,kV,kU,kT,kS,kR,kQ,kP,kO,kN,k1,hi,hw,lp,a1,a2,a3,a4,a5,a6,a7,a8,a9,aa,ab,b1,b2,b3,b4,b5,b6,b7,b8,b9,ba,bb,aH,dc,pl]
theorem uk (P:List Pt) (i:Nat):(xk P i).length=P.length:=by unfold xk; simp
theorem ED (P:List Pt) (i j:Nat) (h:i≠j):(xk P i).getD j (0,0,[])=P.getD j (0,0,[]):=by
 unfold xk;rw[aG,List.getElem?_set_ne h,<-aG]
theorem Lj (P:List Pt) (i j:Nat) (hi:i<P.length):bM (xk P i) j=bM P j:=by
 by_cases e:i=j
 ·subst e;unfold bM xk;rw[aG,aU,if_pos rfl,if_pos hi];rfl
 ·unfold bM; rw[ED P i j e]
def sM:Nat->Nat->List Pt->List Pt
 |0,_,P=>P
 |n+1,i,P=>sM n (i+1) (xk P i)
theorem ab0 {N:Nat} {Y:List AV} (o L:List Int):∀(n i:Nat) (P:List Pt),i+n=P.length->P.length<=900->(∀j,(bM P j).length<=64)->(∀j,i<=j->j<P.length->ij P j=-1) ->
  aW aq 5 (.loop UQ) (Yg N Y (ints o) (ints L) P i [])=some (.exit 6,Yg N Y (ints o) (ints L) (sM n i P) P.length [(72,.bool false)])
 |0,i,P,hi,hP,iZ,hp=>by
   obtain rfl:i=P.length:=by omega
   refine bn ?_;have e:sM 0 P.length P=P:=rfl;rw[e];unfold Yg hC uh;generalize P.map bw=P1 at *;generalize ints o=O1 at *;generalize ints L=L1 at *;unfold UQ;simp[rf,rb,q9,q8,q7,q6,qZ,qY,qX,qW,lC,lx,lr,lk,lj,lg,k9,k8,k7,kZ,kY,kX,kW,kV,kU,kT,kS,kR,kQ,kP,kO,kN]
 |n+1,i,P,hi,hP,iZ,hp=>by
   have bE:i<P.length:=by omega
   have rd:=agB (N:=N) (Y:=Y) o L P hP iZ i bE (by rw[hp i (Nat.le_refl _) bE]; omega)
   have ih:=ab0 (N:=N) (Y:=Y) o L n (i+1) (xk P i) (by rw[uk]; omega) (by rw[uk]; omega) (fun j=>by rw[Lj P i j bE]; exact iZ j) (fun j h1 h2=>by
    rw[uk] at h2;have:=hp j (by omega) h2;unfold ij at this ⊢;rw[ED P i j (by omega)]; exact this)
   rw[uk] at ih;exact (aS rd).trans ih
end Go.BmP
