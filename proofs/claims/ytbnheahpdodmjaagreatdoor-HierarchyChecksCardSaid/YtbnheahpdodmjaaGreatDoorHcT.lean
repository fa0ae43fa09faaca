/- hierarchy.gathered: the parents. -/
import Derived.Test.YtbnheahpdodmjaaGreatDoorHcQ
set_option linter.unusedSimpArgs false
set_option linter.unusedVariables false
set_option maxRecDepth 100000
set_option maxHeartbeats 8000000
open List renaming getD_eq_getElem?_getD → au, getElem?_eq_getElem → ai, getElem?_map → cn, getElem?_set → aR
open Option renaming getD_some → dY
open Option.some renaming inj → bm
namespace Go.BmP
open Go.Am Go.Bm
def Dq (a b:List Int):Bool:=a.all fun x=>decide (x∈b)
def bR (P:List Pt) (i:Nat):List Int:=(P.getD i (0,0,[])).2.2
def zB (P:List Pt) (i:Nat) (p:Int) (k:Nat):Bool:=decide ((bR P i).length<(bR P k).length)&&(Dq (bR P i) (bR P k)&&(decide (p<0)||decide ((bR P k).length<(bR P p.toNat).length)))
def iA (P:List Pt) (i:Nat) (p:Int) (k:Nat):Int:=if zB P i p k=true then k else p
def me (P:List Pt) (i:Nat) (p:Int):List AV:=(P.set i ((P.getD i (0,0,[])).1,p,bR P i)).map bH
theorem k9 (P:List Pt) (i:Nat) (p:Int):(me P i p).length=P.length:=by simp[me]
theorem wF (P:List Pt) (i:Nat) (p:Int) (j:Nat) (h:j<P.length):∃l q,(me P i p)[j]?=some (bH (l,q,bR P j))/\(j=i->q=p):=by
 unfold me;rw[cn,aR];by_cases e:i=j
 ·subst e;rw[if_pos rfl,if_pos h];exact⟨_,p,rfl,fun _=>rfl⟩
 ·rw[if_neg e,ai h];refine⟨P[j].1,P[j].2.1,?_,fun e2=>absurd e2.symm e⟩;simp only[Option.map_some,bR,au,ai h,dY]
theorem Ix (P:List Pt) (i:Nat) (p q:Int) (h:i<P.length):(me P i p).set i (bH ((P.getD i (0,0,[])).1,q,bR P i))=me P i q:=by
 unfold me;rw[<-List.map_set,List.set_set]
theorem CB (P:List Pt) (i:Nat) (p:Int) (h:i<P.length):(me P i p)[i]?=some (bH ((P.getD i (0,0,[])).1,p,bR P i)):=by
 unfold me;rw[cn,aR,if_pos rfl,if_pos h];rfl
def hC (N:Nat) (Y O1 L1:List AV):Heap:=[tt N Y,tt N Y,some O1,some L1,some [.sl 1 3 0 N]]
def ve (N:Nat) (Y O1 L1:List AV) (P:List Pt) (i:Nat) (p:Int) (k:Nat) (J:Env):St:=
 ⟨(6,.own 3 (me P i p))::(13,.int .i64 i)::(70,.int .i64 P.length)::(71,.int .i64 i)::(74,.int .i64 i)::(75,.int .i64 k)::J,hC N Y O1 L1⟩
theorem ak9 {N:Nat} {Y:List AV} (o L:List Int) (P:List Pt) (hP:P.length<=900) (i:Nat) (hi:i<P.length) (p:Int) (k:Nat) (hk:k<i) (h1:¬(bR P i).length<(bR P k).length) :
  aY an 5 uy (ve N Y (ints o) (ints L) P i p k [])=some (.normal,ve N Y (ints o) (ints L) P i p (k+1) []):=by
 have k1:(k:Int)<i:=by omega
 have Qo:k<P.length:=by omega
 have hw:=dO (i:=k) (by omega);obtain⟨l2,q2,e2,_⟩:=wF P i p k Qo;have e1:=CB P i p hi;have la:=k9 P i p;have s1:=ah (bR P i);have s2:=ah (bR P k);have n1:¬((bR P i).length:Int)<(bR P k).length:=by omega
 have Ih:k<(me P i p).length:=by rw[la]; exact Qo
 have Q2:i<(me P i p).length:=by rw[la]; exact hi
 have i1:(i:Int)<P.length:=by omega
 have i2:(k:Int)<P.length:=by omega
 have f2:∀h,(me P i p)[k]'h=bH (l2,q2,bR P k):=fun h=>by
  rw[ai h] at e2;exact bm e2
 have f1:∀h,(me P i p)[i]'h=bH ((P.getD i (0,0,[])).1,p,bR P i):=fun h=>by
  rw[ai h] at e1;exact bm e1
 obtain⟨a1,a2,a3,a4,a5,a6,a7,a8,a9,aa,ab⟩:=bj o;obtain⟨b1,b2,b3,b4,b5,b6,b7,b8,b9,ba,bb⟩:=bj L;unfold ve hC tt;unfold bH at *;generalize me P i p=P1 at *;generalize (P.getD i (0,0,[])).1=l1 at *;generalize ints (bR P i)=S1 at *;generalize ints (bR P k)=S2 at *;generalize (bR P i).length=m1 at *;generalize (bR P k).length=m2 at *;generalize ints o=O1 at *;generalize ints L=L1 at *;unfold uy;simp[qG,qF,qE,qD,qC,qB,qA,qz,qy,qx,k8,k7,kZ,kY,kX,kW,kV,kU,kT,kS,kR,kQ,kP,kO,kN,kM,kK,kJ,kI,kH,kG,kF,k1,hk,hw,e1,e2,f1,f2,la,s1,s2,h1,n1,hi,Qo,Ih,Q2,i1,i2,a1,a2,a3,a4,a5,a6,a7,a8,a9,aa,ab,b1,b2,b3,b4,b5,b6,b7,b8,b9,ba,bb,idx,aJ,dq,pl]
theorem ak8 {N:Nat} {Y:List AV} (o L:List Int) (P:List Pt) (hP:P.length<=900) (iR:∀j,(bR P j).length<=64) (i:Nat) (hi:i<P.length) (p:Int) (k:Nat) (hk:k<i) (h1:(bR P i).length<(bR P k).length) (h2:Dq (bR P i) (bR P k)=false) :
  aY an 5 uy (ve N Y (ints o) (ints L) P i p k [])=some (.normal,ve N Y (ints o) (ints L) P i p (k+1) []):=by
 have k1:(k:Int)<i:=by omega
 have Qo:k<P.length:=by omega
 have hw:=dO (i:=k) (by omega);obtain⟨l2,q2,e2,_⟩:=wF P i p k Qo;have e1:=CB P i p hi;have la:=k9 P i p;have s1:=ah (bR P i);have s2:=ah (bR P k);have n1:((bR P i).length:Int)<(bR P k).length:=by omega
 have wr:=ur (bR P i) (bR P k) (by have:=iR i; have:=iR k; omega);rw[show ((bR P i).all fun x=>decide (x∈bR P k))=Dq (bR P i) (bR P k) from rfl,h2] at wr;have Ih:k<(me P i p).length:=by rw[la]; exact Qo
 have Q2:i<(me P i p).length:=by rw[la]; exact hi
 have i1:(i:Int)<P.length:=by omega
 have i2:(k:Int)<P.length:=by omega
 have f2:∀h,(me P i p)[k]'h=bH (l2,q2,bR P k):=fun h=>by
  rw[ai h] at e2;exact bm e2
 have f1:∀h,(me P i p)[i]'h=bH ((P.getD i (0,0,[])).1,p,bR P i):=fun h=>by
  rw[ai h] at e1;exact bm e1
 obtain⟨a1,a2,a3,a4,a5,a6,a7,a8,a9,aa,ab⟩:=bj o;obtain⟨b1,b2,b3,b4,b5,b6,b7,b8,b9,ba,bb⟩:=bj L;unfold ve hC tt;unfold bH at *;generalize me P i p=P1 at *;generalize (P.getD i (0,0,[])).1=l1 at *;generalize ints (bR P i)=S1 at *;generalize ints (bR P k)=S2 at *;generalize (bR P i).length=m1 at *;generalize (bR P k).length=m2 at *;generalize ints o=O1 at *;generalize ints L=L1 at *;unfold uy;simp[qG,qF,qE,qD,qC,qB,qA,qz,qy,qx,k8,k7,kZ,kY,kX,kW,kV,kU,kT,kS,kR,kQ,kP,kO,kN,kM,kK,kJ,kI,kH,kG,kF,k1,hk,hw,e1,e2,f1,f2,la,s1,s2,h1,n1,wr,sQ1,iQ1,hi,Qo,Ih,Q2,i1,i2,a1,a2,a3,a4,a5,a6,a7,a8,a9,aa,ab,b1,b2,b3,b4,b5,b6,b7,b8,b9,ba,bb,idx,aJ,dq,pl]
theorem ahq {N:Nat} {Y:List AV} (o L:List Int) (P:List Pt) (hP:P.length<=900) (iR:∀j,(bR P j).length<=64) (i:Nat) (hi:i<P.length) (p:Int) (k:Nat) (hk:k<i) (h1:(bR P i).length<(bR P k).length) (h2:Dq (bR P i) (bR P k)=true) (h3:p<0) :
  aY an 5 uy (ve N Y (ints o) (ints L) P i p k [])=some (.normal,ve N Y (ints o) (ints L) P i k (k+1) []):=by
 have k1:(k:Int)<i:=by omega
 have Qo:k<P.length:=by omega
 have hw:=dO (i:=k) (by omega);obtain⟨l2,q2,e2,_⟩:=wF P i p k Qo;have e1:=CB P i p hi;have la:=k9 P i p;have s1:=ah (bR P i);have s2:=ah (bR P k);have n1:((bR P i).length:Int)<(bR P k).length:=by omega
 have wr:=ur (bR P i) (bR P k) (by have:=iR i; have:=iR k; omega);rw[show ((bR P i).all fun x=>decide (x∈bR P k))=Dq (bR P i) (bR P k) from rfl,h2] at wr;have Ih:k<(me P i p).length:=by rw[la]; exact Qo
 have Q2:i<(me P i p).length:=by rw[la]; exact hi
 have i1:(i:Int)<P.length:=by omega
 have i2:(k:Int)<P.length:=by omega
 have f2:∀h,(me P i p)[k]'h=bH (l2,q2,bR P k):=fun h=>by
  rw[ai h] at e2;exact bm e2
 have f1:∀h,(me P i p)[i]'h=bH ((P.getD i (0,0,[])).1,p,bR P i):=fun h=>by
  rw[ai h] at e1;exact bm e1
 obtain⟨a1,a2,a3,a4,a5,a6,a7,a8,a9,aa,ab⟩:=bj o;obtain⟨b1,b2,b3,b4,b5,b6,b7,b8,b9,ba,bb⟩:=bj L;have st:=Ix P i p k hi;unfold ve hC tt;rw[<-st];unfold bH at *;generalize me P i p=P1 at *;generalize (P.getD i (0,0,[])).1=l1 at *;generalize ints (bR P i)=S1 at *;generalize ints (bR P k)=S2 at *;generalize (bR P i).length=m1 at *;generalize (bR P k).length=m2 at *;generalize ints o=O1 at *;generalize ints L=L1 at *;unfold uy;simp[qG,qF,qE,qD,qC,qB,qA,qz,qy,qx,k8,k7,kZ,kY,kX,kW,kV,kU,kT,kS,kR,kQ,kP,kO,kN,kM,kK,kJ,kI,kH,kG,kF,k1,hk,hw,e1,e2,f1,f2,la,s1,s2,h1,n1,wr,sQ1,iQ1,h3,st,hi,Qo,Ih,Q2,i1,i2,a1,a2,a3,a4,a5,a6,a7,a8,a9,aa,ab,b1,b2,b3,b4,b5,b6,b7,b8,b9,ba,bb,idx,aJ,dq,pl]
theorem ak7 {N:Nat} {Y:List AV} (o L:List Int) (P:List Pt) (hP:P.length<=900) (iR:∀j,(bR P j).length<=64) (i:Nat) (hi:i<P.length) (p:Int) (k:Nat) (hk:k<i) (h1:(bR P i).length<(bR P k).length) (h2:Dq (bR P i) (bR P k)=true) (h3:0<=p) (h4:p<i) (h5:¬(bR P k).length<(bR P p.toNat).length) :
  aY an 5 uy (ve N Y (ints o) (ints L) P i p k [])=some (.normal,ve N Y (ints o) (ints L) P i p (k+1) []):=by
 have k1:(k:Int)<i:=by omega
 have Qo:k<P.length:=by omega
 have hw:=dO (i:=k) (by omega);obtain⟨l2,q2,e2,_⟩:=wF P i p k Qo;have e1:=CB P i p hi;have la:=k9 P i p;have s1:=ah (bR P i);have s2:=ah (bR P k);have n1:((bR P i).length:Int)<(bR P k).length:=by omega
 have wr:=ur (bR P i) (bR P k) (by have:=iR i; have:=iR k; omega);rw[show ((bR P i).all fun x=>decide (x∈bR P k))=Dq (bR P i) (bR P k) from rfl,h2] at wr;have MW:p.toNat<P.length:=by omega
 obtain⟨l3,q3,e3,_⟩:=wF P i p p.toNat MW;have s3:=ah (bR P p.toNat);have hlp:p.toNat<(me P i p).length:=by rw[la]; exact MW
 have f3:∀h,(me P i p)[p.toNat]'h=bH (l3,q3,bR P p.toNat):=fun h=>by
  rw[ai h] at e3;exact bm e3
 have p0:¬p<0:=by omega
 have p1:(0:Int)<=p:=by omega
 have p2:p<P.length:=by omega
 have n5:¬((bR P k).length:Int)<(bR P p.toNat).length:=by omega
 have Ih:k<(me P i p).length:=by rw[la]; exact Qo
 have Q2:i<(me P i p).length:=by rw[la]; exact hi
 have i1:(i:Int)<P.length:=by omega
 have i2:(k:Int)<P.length:=by omega
 have f2:∀h,(me P i p)[k]'h=bH (l2,q2,bR P k):=fun h=>by
  rw[ai h] at e2;exact bm e2
 have f1:∀h,(me P i p)[i]'h=bH ((P.getD i (0,0,[])).1,p,bR P i):=fun h=>by
  rw[ai h] at e1;exact bm e1
 obtain⟨a1,a2,a3,a4,a5,a6,a7,a8,a9,aa,ab⟩:=bj o;obtain⟨b1,b2,b3,b4,b5,b6,b7,b8,b9,ba,bb⟩:=bj L;unfold ve hC tt;unfold bH at *;generalize me P i p=P1 at *;generalize (P.getD i (0,0,[])).1=l1 at *;generalize ints (bR P i)=S1 at *;generalize ints (bR P k)=S2 at *;generalize (bR P i).length=m1 at *;generalize (bR P k).length=m2 at *;generalize ints (bR P p.toNat)=S3 at *;generalize (bR P p.toNat).length=m3 at *;generalize epn:p.toNat=pn at *;generalize ints o=O1 at *;generalize ints L=L1 at *;unfold uy;simp[qG,qF,qE,qD,qC,qB,qA,qz,qy,qx,k8,k7,kZ,kY,kX,kW,kV,kU,kT,kS,kR,kQ,kP,kO,kN,kM,kK,kJ,kI,kH,kG,kF,k1,hk,hw,e1,e2,f1,f2,la,s1,s2,h1,n1,wr,sQ1,iQ1,h3,h5,n5,epn,p0,p1,p2,s3,e3,f3,hlp,MW,hi,Qo,Ih,Q2,i1,i2,a1,a2,a3,a4,a5,a6,a7,a8,a9,aa,ab,b1,b2,b3,b4,b5,b6,b7,b8,b9,ba,bb,idx,aJ,dq,pl]
theorem ahp {N:Nat} {Y:List AV} (o L:List Int) (P:List Pt) (hP:P.length<=900) (iR:∀j,(bR P j).length<=64) (i:Nat) (hi:i<P.length) (p:Int) (k:Nat) (hk:k<i) (h1:(bR P i).length<(bR P k).length) (h2:Dq (bR P i) (bR P k)=true) (h3:0<=p) (h4:p<i) (h5:(bR P k).length<(bR P p.toNat).length) :
  aY an 5 uy (ve N Y (ints o) (ints L) P i p k [])=some (.normal,ve N Y (ints o) (ints L) P i k (k+1) []):=by
 have k1:(k:Int)<i:=by omega
 have Qo:k<P.length:=by omega
 have hw:=dO (i:=k) (by omega);obtain⟨l2,q2,e2,_⟩:=wF P i p k Qo;have e1:=CB P i p hi;have la:=k9 P i p;have s1:=ah (bR P i);have s2:=ah (bR P k);have n1:((bR P i).length:Int)<(bR P k).length:=by omega
 have wr:=ur (bR P i) (bR P k) (by have:=iR i; have:=iR k; omega);rw[show ((bR P i).all fun x=>decide (x∈bR P k))=Dq (bR P i) (bR P k) from rfl,h2] at wr;have MW:p.toNat<P.length:=by omega
 obtain⟨l3,q3,e3,_⟩:=wF P i p p.toNat MW;have s3:=ah (bR P p.toNat);have hlp:p.toNat<(me P i p).length:=by rw[la]; exact MW
 have f3:∀h,(me P i p)[p.toNat]'h=bH (l3,q3,bR P p.toNat):=fun h=>by
  rw[ai h] at e3;exact bm e3
 have p0:¬p<0:=by omega
 have p1:(0:Int)<=p:=by omega
 have p2:p<P.length:=by omega
 have n5:((bR P k).length:Int)<(bR P p.toNat).length:=by omega
 have Ih:k<(me P i p).length:=by rw[la]; exact Qo
 have Q2:i<(me P i p).length:=by rw[la]; exact hi
 have i1:(i:Int)<P.length:=by omega
 have i2:(k:Int)<P.length:=by omega
 have f2:∀h,(me P i p)[k]'h=bH (l2,q2,bR P k):=fun h=>by
  rw[ai h] at e2;exact bm e2
 have f1:∀h,(me P i p)[i]'h=bH ((P.getD i (0,0,[])).1,p,bR P i):=fun h=>by
  rw[ai h] at e1;exact bm e1
 obtain⟨a1,a2,a3,a4,a5,a6,a7,a8,a9,aa,ab⟩:=bj o;obtain⟨b1,b2,b3,b4,b5,b6,b7,b8,b9,ba,bb⟩:=bj L;have st:=Ix P i p k hi;unfold ve hC tt;rw[<-st];unfold bH at *;generalize me P i p=P1 at *;generalize (P.getD i (0,0,[])).1=l1 at *;generalize ints (bR P i)=S1 at *;generalize ints (bR P k)=S2 at *;generalize (bR P i).length=m1 at *;generalize (bR P k).length=m2 at *;generalize ints (bR P p.toNat)=S3 at *;generalize (bR P p.toNat).length=m3 at *;generalize epn:p.toNat=pn at *;generalize ints o=O1 at *;generalize ints L=L1 at *;unfold uy;simp[qG,qF,qE,qD,qC,qB,qA,qz,qy,qx,k8,k7,kZ,kY,kX,kW,kV,kU,kT,kS,kR,kQ,kP,kO,kN,kM,kK,kJ,kI,kH,kG,kF,k1,hk,hw,e1,e2,f1,f2,la,s1,s2,h1,n1,wr,sQ1,iQ1,h3,h5,n5,epn,p0,p1,p2,s3,e3,f3,hlp,MW,st,hi,Qo,Ih,Q2,i1,i2,a1,a2,a3,a4,a5,a6,a7,a8,a9,aa,ab,b1,b2,b3,b4,b5,b6,b7,b8,b9,ba,bb,idx,aJ,dq,pl]
/- hierarchy.gathered: the search for a parent. -/
theorem ae1 {N:Nat} {Y:List AV} (o L:List Int) (P:List Pt) (hP:P.length<=900) (iR:∀j,(bR P j).length<=64) (i:Nat) (hi:i<P.length) (p:Int) (hp:p<i) (k:Nat) (hk:k<i) :
  aY an 5 uy (ve N Y (ints o) (ints L) P i p k [])=some (.normal,ve N Y (ints o) (ints L) P i (iA P i p k) (k+1) []):=by
 by_cases h1:(bR P i).length<(bR P k).length
 ·cases h2:Dq (bR P i) (bR P k) with
  |false=>
    have e:iA P i p k=p:=by unfold iA zB; rw[h2]; simp
    rw[e]; exact ak8 o L P hP iR i hi p k hk h1 h2
  |true=>
    by_cases h3:p<0
    ·have e:iA P i p k=k:=by unfold iA zB; rw[h2]; simp[h1,h3]
     rw[e]; exact ahq o L P hP iR i hi p k hk h1 h2 h3
    ·by_cases h5:(bR P k).length<(bR P p.toNat).length
     ·have e:iA P i p k=k:=by unfold iA zB; rw[h2]; simp[h1,h5]
      rw[e]; exact ahp o L P hP iR i hi p k hk h1 h2 (by omega) hp h5
     ·have e:iA P i p k=p:=by unfold iA zB; rw[h2]; simp[h3,h5]
      rw[e]; exact ak7 o L P hP iR i hi p k hk h1 h2 (by omega) hp h5
 ·have e:iA P i p k=p:=by unfold iA zB; simp[h1]
  rw[e]; exact ak9 o L P hP i hi p k hk h1
def mS (P:List Pt) (i:Nat):Nat->Nat->Int->Int
 |0,_,p=>p
 |n+1,k,p=>mS P i n (k+1) (iA P i p k)
theorem aaM {N:Nat} {Y:List AV} (o L:List Int) (P:List Pt) (hP:P.length<=900) (iR:∀j,(bR P j).length<=64) (i:Nat) (hi:i<P.length):∀(n k:Nat) (p:Int),k+n=i->p<i ->
  aY an 5 (.loop uy) (ve N Y (ints o) (ints L) P i p k [])=some (.exit 8,ve N Y (ints o) (ints L) P i (mS P i n k p) i [(76,.bool false)])
 |0,k,p,hk,hp=>by
   obtain rfl:k=i:=by omega
   refine bt ?_;have e:mS P k 0 k p=p:=rfl;rw[e];unfold ve hC tt;generalize me P k p=P1 at *;generalize ints o=O1 at *;generalize ints L=L1 at *;unfold uy;simp[qG,qF,qE,qD,qC,qB,qA,qz,qy,qx,k8,k7,kZ,kY,kX,kW,kV,kU,kT,kS,kR,kQ,kP,kO,kN,kM,kK,kJ,kI,kH,kG,kF]
 |n+1,k,p,hk,hp=>(aV (ae1 o L P hP iR i hi p hp k (by omega))).trans (aaM o L P hP iR i hi n (k+1) (iA P i p k) (by omega) (by unfold iA; split<;>omega))
/- hierarchy.gathered: the parents of all parts. -/
def pj (P:List Pt) (i:Nat):Int:=(P.getD i (0,0,[])).2.1
def wG (P:List Pt) (i:Nat):List Pt:=P.set i ((P.getD i (0,0,[])).1,mS P i i 0 (pj P i),bR P i)
def WM (N:Nat) (Y O1 L1:List AV) (P:List Pt) (i:Nat) (J:Env):St:=⟨(6,.own 3 (P.map bH))::(70,.int .i64 P.length)::(71,.int .i64 i)::J,hC N Y O1 L1⟩
theorem Sj (P:List Pt) (i:Nat) (h:i<P.length):me P i (pj P i)=P.map bH:=by
 unfold me pj bR;rw[au,ai h,dY];congr 1;exact List.set_getElem_self h
theorem ae0 {N:Nat} {Y:List AV} (o L:List Int) (P:List Pt) (hP:P.length<=900) (iR:∀j,(bR P j).length<=64) (i:Nat) (hi:i<P.length) (hp:pj P i<i) :
  aY an 5 Tt (WM N Y (ints o) (ints L) P i [])=some (.normal,WM N Y (ints o) (ints L) (wG P i) (i+1) []):=by
 have k1:(i:Int)<P.length:=by omega
 have hw:=dO (i:=i) (by omega);have lp:=aaM (N:=N) (Y:=Y) o L P hP iR i hi i 0 (pj P i) (by omega) hp;have e1:me P i (mS P i i 0 (pj P i))=(wG P i).map bH:=rfl;have e2:(wG P i).length=P.length:=by unfold wG; simp
 unfold ve at lp;rw[e1,Sj P i hi] at lp;unfold WM;rw[e2];unfold hC tt at *;simp only[fU] at lp;obtain⟨a1,a2,a3,a4,a5,a6,a7,a8,a9,aa,ab⟩:=bj o;obtain⟨b1,b2,b3,b4,b5,b6,b7,b8,b9,ba,bb⟩:=bj L;generalize (wG P i).map bH=P2 at *;generalize P.map bH=P1 at *;generalize ints o=O1 at *;generalize ints L=L1 at *;unfold Tt;simp[qG,qF,qE,qD,qC,qB,qA,qz,qy,qx,k8,k7,kZ,kY,kX,kW,kV,kU,kT,kS,kR,kQ,kP,kO,kN,kM,kK,kJ,kI,kH,kG,kF,k1,hi,hw,lp,a1,a2,a3,a4,a5,a6,a7,a8,a9,aa,ab,b1,b2,b3,b4,b5,b6,b7,b8,b9,ba,bb,aJ,dq,pl]
theorem tv (P:List Pt) (i:Nat):(wG P i).length=P.length:=by unfold wG; simp
theorem D3 (P:List Pt) (i j:Nat) (h:i≠j):(wG P i).getD j (0,0,[])=P.getD j (0,0,[]):=by
 unfold wG;rw[au,List.getElem?_set_ne h,<-au]
theorem Kx (P:List Pt) (i j:Nat) (hi:i<P.length):bR (wG P i) j=bR P j:=by
 by_cases e:i=j
 ·subst e;unfold bR wG;rw[au,aR,if_pos rfl,if_pos hi];rfl
 ·unfold bR; rw[D3 P i j e]
def rT:Nat->Nat->List Pt->List Pt
 |0,_,P=>P
 |n+1,i,P=>rT n (i+1) (wG P i)
theorem aaL {N:Nat} {Y:List AV} (o L:List Int):∀(n i:Nat) (P:List Pt),i+n=P.length->P.length<=900->(∀j,(bR P j).length<=64)->(∀j,i<=j->j<P.length->pj P j=-1) ->
  aY an 5 (.loop Tt) (WM N Y (ints o) (ints L) P i [])=some (.exit 6,WM N Y (ints o) (ints L) (rT n i P) P.length [(72,.bool false)])
 |0,i,P,hi,hP,iR,hp=>by
   obtain rfl:i=P.length:=by omega
   refine bt ?_;have e:rT 0 P.length P=P:=rfl;rw[e];unfold WM hC tt;generalize P.map bH=P1 at *;generalize ints o=O1 at *;generalize ints L=L1 at *;unfold Tt;simp[qG,qF,qE,qD,qC,qB,qA,qz,qy,qx,k8,k7,kZ,kY,kX,kW,kV,kU,kT,kS,kR,kQ,kP,kO,kN,kM,kK,kJ,kI,kH,kG,kF]
 |n+1,i,P,hi,hP,iR,hp=>by
   have bF:i<P.length:=by omega
   have rd:=ae0 (N:=N) (Y:=Y) o L P hP iR i bF (by rw[hp i (Nat.le_refl _) bF]; omega)
   have ih:=aaL (N:=N) (Y:=Y) o L n (i+1) (wG P i) (by rw[tv]; omega) (by rw[tv]; omega) (fun j=>by rw[Kx P i j bF]; exact iR j) (fun j h1 h2=>by
    rw[tv] at h2;have:=hp j (by omega) h2;unfold pj at this ⊢;rw[D3 P i j (by omega)]; exact this)
   rw[tv] at ih;exact (aV rd).trans ih
end Go.BmP
