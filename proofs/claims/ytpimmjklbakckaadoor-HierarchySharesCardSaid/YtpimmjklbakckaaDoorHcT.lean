/- hierarchy.gathered: the parents. -/
import Derived.Test.YtpimmjklbakckaaDoorHcQ
set_option linter.unusedSimpArgs false
set_option linter.unusedVariables false
set_option maxRecDepth 100000
set_option maxHeartbeats 8000000
open List renaming getD_eq_getElem?_getD → aT, getElem?_eq_getElem → aB, getElem?_map → cF, getElem?_set → aQ
open Option renaming getD_some → eX
open Option.some renaming inj → bJ
namespace Go.BmP
open Go.Am Go.Bm
def Ce (a b:List Int):Bool:=a.all fun x=>decide (x∈b)
def cq (P:List Pt) (i:Nat):List Int:=(P.getD i (0,0,[])).2.2
def FO (P:List Pt) (i:Nat) (p:Int) (k:Nat):Bool:=decide ((cq P i).length<(cq P k).length)&&(Ce (cq P i) (cq P k)&&(decide (p<0)||decide ((cq P k).length<(cq P p.toNat).length)))
def pS (P:List Pt) (i:Nat) (p:Int) (k:Nat):Int:=if FO P i p k=true then k else p
def rY (P:List Pt) (i:Nat) (p:Int):List AV:=(P.set i ((P.getD i (0,0,[])).1,p,cq P i)).map en
theorem qD (P:List Pt) (i:Nat) (p:Int):(rY P i p).length=P.length:=by simp[rY]
theorem yl (P:List Pt) (i:Nat) (p:Int) (j:Nat) (h:j<P.length):∃l q,(rY P i p)[j]?=some (en (l,q,cq P j))/\(j=i->q=p):=by
 unfold rY;rw[cF,aQ];by_cases e:i=j
 ·subst e;rw[if_pos rfl,if_pos h];exact⟨_,p,rfl,fun _=>rfl⟩
 ·rw[if_neg e,aB h];refine⟨P[j].1,P[j].2.1,?_,fun e2=>absurd e2.symm e⟩;simp only[Option.map_some,cq,aT,aB h,eX]
theorem QK (P:List Pt) (i:Nat) (p q:Int) (h:i<P.length):(rY P i p).set i (en ((P.getD i (0,0,[])).1,q,cq P i))=rY P i q:=by
 unfold rY;rw[<-List.map_set,List.set_set]
theorem DI (P:List Pt) (i:Nat) (p:Int) (h:i<P.length):(rY P i p)[i]?=some (en ((P.getD i (0,0,[])).1,p,cq P i)):=by
 unfold rY;rw[cF,aQ,if_pos rfl,if_pos h];rfl
def hC (N:Nat) (Y O1 L1:List AV):Heap:=[qa N Y,qa N Y,some O1,some L1,some [.sl 1 3 0 N]]
def r9 (N:Nat) (Y O1 L1:List AV) (P:List Pt) (i:Nat) (p:Int) (k:Nat) (J:Env):St:=
 ⟨(6,.own 3 (rY P i p))::(13,.int .i64 i)::(70,.int .i64 P.length)::(71,.int .i64 i)::(74,.int .i64 i)::(75,.int .i64 k)::J,hC N Y O1 L1⟩
theorem adN {N:Nat} {Y:List AV} (o L:List Int) (P:List Pt) (hP:P.length<=900) (i:Nat) (hi:i<P.length) (p:Int) (k:Nat) (hk:k<i) (h1:¬(cq P i).length<(cq P k).length) :
  bh aD 5 rI (r9 N Y (ints o) (ints L) P i p k [])=some (.normal,r9 N Y (ints o) (ints L) P i p (k+1) []):=by
 have k1:(k:Int)<i:=by omega
 have II:k<P.length:=by omega
 have hw:=fT (i:=k) (by omega);obtain⟨l2,q2,e2,_⟩:=yl P i p k II;have e1:=DI P i p hi;have la:=qD P i p;have s1:=ah (cq P i);have s2:=ah (cq P k);have n1:¬((cq P i).length:Int)<(cq P k).length:=by omega
 have IG:k<(rY P i p).length:=by rw[la]; exact II
 have ZV:i<(rY P i p).length:=by rw[la]; exact hi
 have i1:(i:Int)<P.length:=by omega
 have i2:(k:Int)<P.length:=by omega
 have f2:∀h,(rY P i p)[k]'h=en (l2,q2,cq P k):=fun h=>by
  rw[aB h] at e2;exact bJ e2
 have f1:∀h,(rY P i p)[i]'h=en ((P.getD i (0,0,[])).1,p,cq P i):=fun h=>by
  rw[aB h] at e1;exact bJ e1
 obtain⟨a1,a2,a3,a4,a5,a6,a7,a8,a9,aa,ab⟩:=bT o;obtain⟨b1,b2,b3,b4,b5,b6,b7,b8,b9,ba,bb⟩:=bT L;unfold r9 hC qa;unfold en at *;generalize rY P i p=P1 at *;generalize (P.getD i (0,0,[])).1=l1 at *;generalize ints (cq P i)=S1 at *;generalize ints (cq P k)=S2 at *;generalize (cq P i).length=m1 at *;generalize (cq P k).length=m2 at *;generalize ints o=O1 at *;generalize ints L=L1 at *;unfold rI;simp[oC,oB,oA,ox,ot,oq,om,oi,oh,oe,jA,jz,jy,jx,jw,jv,ju,jt,js,jr,jq,jo,jm,jl,jj,ji,jh,jg,jf,je,jd,jc,k1,hk,hw,e1,e2,f1,f2,la,s1,s2,h1,n1,hi,II,IG,ZV,i1,i2,a1,a2,a3,a4,a5,a6,a7,a8,a9,aa,ab,b1,b2,b3,b4,b5,b6,b7,b8,b9,ba,bb,idx,aN,eC,pl]
theorem adM {N:Nat} {Y:List AV} (o L:List Int) (P:List Pt) (hP:P.length<=900) (qe:∀j,(cq P j).length<=64) (i:Nat) (hi:i<P.length) (p:Int) (k:Nat) (hk:k<i) (h1:(cq P i).length<(cq P k).length) (h2:Ce (cq P i) (cq P k)=false) :
  bh aD 5 rI (r9 N Y (ints o) (ints L) P i p k [])=some (.normal,r9 N Y (ints o) (ints L) P i p (k+1) []):=by
 have k1:(k:Int)<i:=by omega
 have II:k<P.length:=by omega
 have hw:=fT (i:=k) (by omega);obtain⟨l2,q2,e2,_⟩:=yl P i p k II;have e1:=DI P i p hi;have la:=qD P i p;have s1:=ah (cq P i);have s2:=ah (cq P k);have n1:((cq P i).length:Int)<(cq P k).length:=by omega
 have wr:=rE (cq P i) (cq P k) (by have:=qe i; have:=qe k; omega);rw[show ((cq P i).all fun x=>decide (x∈cq P k))=Ce (cq P i) (cq P k) from rfl,h2] at wr;have IG:k<(rY P i p).length:=by rw[la]; exact II
 have ZV:i<(rY P i p).length:=by rw[la]; exact hi
 have i1:(i:Int)<P.length:=by omega
 have i2:(k:Int)<P.length:=by omega
 have f2:∀h,(rY P i p)[k]'h=en (l2,q2,cq P k):=fun h=>by
  rw[aB h] at e2;exact bJ e2
 have f1:∀h,(rY P i p)[i]'h=en ((P.getD i (0,0,[])).1,p,cq P i):=fun h=>by
  rw[aB h] at e1;exact bJ e1
 obtain⟨a1,a2,a3,a4,a5,a6,a7,a8,a9,aa,ab⟩:=bT o;obtain⟨b1,b2,b3,b4,b5,b6,b7,b8,b9,ba,bb⟩:=bT L;unfold r9 hC qa;unfold en at *;generalize rY P i p=P1 at *;generalize (P.getD i (0,0,[])).1=l1 at *;generalize ints (cq P i)=S1 at *;generalize ints (cq P k)=S2 at *;generalize (cq P i).length=m1 at *;generalize (cq P k).length=m2 at *;generalize ints o=O1 at *;generalize ints L=L1 at *;unfold rI;simp[oC,oB,oA,ox,ot,oq,om,oi,oh,oe,jA,jz,jy,jx,jw,jv,ju,jt,js,jr,jq,jo,jm,jl,jj,ji,jh,jg,jf,je,jd,jc,k1,hk,hw,e1,e2,f1,f2,la,s1,s2,h1,n1,wr,sQG,iQG,hi,II,IG,ZV,i1,i2,a1,a2,a3,a4,a5,a6,a7,a8,a9,aa,ab,b1,b2,b3,b4,b5,b6,b7,b8,b9,ba,bb,idx,aN,eC,pl]
theorem Z7 {N:Nat} {Y:List AV} (o L:List Int) (P:List Pt) (hP:P.length<=900) (qe:∀j,(cq P j).length<=64) (i:Nat) (hi:i<P.length) (p:Int) (k:Nat) (hk:k<i) (h1:(cq P i).length<(cq P k).length) (h2:Ce (cq P i) (cq P k)=true) (h3:p<0) :
  bh aD 5 rI (r9 N Y (ints o) (ints L) P i p k [])=some (.normal,r9 N Y (ints o) (ints L) P i k (k+1) []):=by
 have k1:(k:Int)<i:=by omega
 have II:k<P.length:=by omega
 have hw:=fT (i:=k) (by omega);obtain⟨l2,q2,e2,_⟩:=yl P i p k II;have e1:=DI P i p hi;have la:=qD P i p;have s1:=ah (cq P i);have s2:=ah (cq P k);have n1:((cq P i).length:Int)<(cq P k).length:=by omega
 have wr:=rE (cq P i) (cq P k) (by have:=qe i; have:=qe k; omega);rw[show ((cq P i).all fun x=>decide (x∈cq P k))=Ce (cq P i) (cq P k) from rfl,h2] at wr;have IG:k<(rY P i p).length:=by rw[la]; exact II
 have ZV:i<(rY P i p).length:=by rw[la]; exact hi
 have i1:(i:Int)<P.length:=by omega
 have i2:(k:Int)<P.length:=by omega
 have f2:∀h,(rY P i p)[k]'h=en (l2,q2,cq P k):=fun h=>by
  rw[aB h] at e2;exact bJ e2
 have f1:∀h,(rY P i p)[i]'h=en ((P.getD i (0,0,[])).1,p,cq P i):=fun h=>by
  rw[aB h] at e1;exact bJ e1
 obtain⟨a1,a2,a3,a4,a5,a6,a7,a8,a9,aa,ab⟩:=bT o;obtain⟨b1,b2,b3,b4,b5,b6,b7,b8,b9,ba,bb⟩:=bT L;have st:=QK P i p k hi;unfold r9 hC qa;rw[<-st];unfold en at *;generalize rY P i p=P1 at *;generalize (P.getD i (0,0,[])).1=l1 at *;generalize ints (cq P i)=S1 at *;generalize ints (cq P k)=S2 at *;generalize (cq P i).length=m1 at *;generalize (cq P k).length=m2 at *;generalize ints o=O1 at *;generalize ints L=L1 at *;unfold rI;simp[oC,oB,oA,ox,ot,oq,om,oi,oh,oe,jA,jz,jy,jx,jw,jv,ju,jt,js,jr,jq,jo,jm,jl,jj,ji,jh,jg,jf,je,jd,jc,k1,hk,hw,e1,e2,f1,f2,la,s1,s2,h1,n1,wr,sQG,iQG,h3,st,hi,II,IG,ZV,i1,i2,a1,a2,a3,a4,a5,a6,a7,a8,a9,aa,ab,b1,b2,b3,b4,b5,b6,b7,b8,b9,ba,bb,idx,aN,eC,pl]
theorem adL {N:Nat} {Y:List AV} (o L:List Int) (P:List Pt) (hP:P.length<=900) (qe:∀j,(cq P j).length<=64) (i:Nat) (hi:i<P.length) (p:Int) (k:Nat) (hk:k<i) (h1:(cq P i).length<(cq P k).length) (h2:Ce (cq P i) (cq P k)=true) (h3:0<=p) (h4:p<i) (h5:¬(cq P k).length<(cq P p.toNat).length) :
  bh aD 5 rI (r9 N Y (ints o) (ints L) P i p k [])=some (.normal,r9 N Y (ints o) (ints L) P i p (k+1) []):=by
 have k1:(k:Int)<i:=by omega
 have II:k<P.length:=by omega
 have hw:=fT (i:=k) (by omega);obtain⟨l2,q2,e2,_⟩:=yl P i p k II;have e1:=DI P i p hi;have la:=qD P i p;have s1:=ah (cq P i);have s2:=ah (cq P k);have n1:((cq P i).length:Int)<(cq P k).length:=by omega
 have wr:=rE (cq P i) (cq P k) (by have:=qe i; have:=qe k; omega);rw[show ((cq P i).all fun x=>decide (x∈cq P k))=Ce (cq P i) (cq P k) from rfl,h2] at wr;have ME:p.toNat<P.length:=by omega
 obtain⟨l3,q3,e3,_⟩:=yl P i p p.toNat ME;have s3:=ah (cq P p.toNat);have hlp:p.toNat<(rY P i p).length:=by rw[la]; exact ME
 have f3:∀h,(rY P i p)[p.toNat]'h=en (l3,q3,cq P p.toNat):=fun h=>by
  rw[aB h] at e3;exact bJ e3
 have p0:¬p<0:=by omega
 have p1:(0:Int)<=p:=by omega
 have p2:p<P.length:=by omega
 have n5:¬((cq P k).length:Int)<(cq P p.toNat).length:=by omega
 have IG:k<(rY P i p).length:=by rw[la]; exact II
 have ZV:i<(rY P i p).length:=by rw[la]; exact hi
 have i1:(i:Int)<P.length:=by omega
 have i2:(k:Int)<P.length:=by omega
 have f2:∀h,(rY P i p)[k]'h=en (l2,q2,cq P k):=fun h=>by
  rw[aB h] at e2;exact bJ e2
 have f1:∀h,(rY P i p)[i]'h=en ((P.getD i (0,0,[])).1,p,cq P i):=fun h=>by
  rw[aB h] at e1;exact bJ e1
 obtain⟨a1,a2,a3,a4,a5,a6,a7,a8,a9,aa,ab⟩:=bT o;obtain⟨b1,b2,b3,b4,b5,b6,b7,b8,b9,ba,bb⟩:=bT L;unfold r9 hC qa;unfold en at *;generalize rY P i p=P1 at *;generalize (P.getD i (0,0,[])).1=l1 at *;generalize ints (cq P i)=S1 at *;generalize ints (cq P k)=S2 at *;generalize (cq P i).length=m1 at *;generalize (cq P k).length=m2 at *;generalize ints (cq P p.toNat)=S3 at *;generalize (cq P p.toNat).length=m3 at *;generalize Xr:p.toNat=pn at *;generalize ints o=O1 at *;generalize ints L=L1 at *;unfold rI;simp[oC,oB,oA,ox,ot,oq,om,oi,oh,oe,jA,jz,jy,jx,jw,jv,ju,jt,js,jr,jq,jo,jm,jl,jj,ji,jh,jg,jf,je,jd,jc,k1,hk,hw,e1,e2,f1,f2,la,s1,s2,h1,n1,wr,sQG,iQG,h3,h5,n5,Xr,p0,p1,p2,s3,e3,f3,hlp,ME,hi,II,IG,ZV,i1,i2,a1,a2,a3,a4,a5,a6,a7,a8,a9,aa,ab,b1,b2,b3,b4,b5,b6,b7,b8,b9,ba,bb,idx,aN,eC,pl]
theorem Z6 {N:Nat} {Y:List AV} (o L:List Int) (P:List Pt) (hP:P.length<=900) (qe:∀j,(cq P j).length<=64) (i:Nat) (hi:i<P.length) (p:Int) (k:Nat) (hk:k<i) (h1:(cq P i).length<(cq P k).length) (h2:Ce (cq P i) (cq P k)=true) (h3:0<=p) (h4:p<i) (h5:(cq P k).length<(cq P p.toNat).length) :
  bh aD 5 rI (r9 N Y (ints o) (ints L) P i p k [])=some (.normal,r9 N Y (ints o) (ints L) P i k (k+1) []):=by
 have k1:(k:Int)<i:=by omega
 have II:k<P.length:=by omega
 have hw:=fT (i:=k) (by omega);obtain⟨l2,q2,e2,_⟩:=yl P i p k II;have e1:=DI P i p hi;have la:=qD P i p;have s1:=ah (cq P i);have s2:=ah (cq P k);have n1:((cq P i).length:Int)<(cq P k).length:=by omega
 have wr:=rE (cq P i) (cq P k) (by have:=qe i; have:=qe k; omega);rw[show ((cq P i).all fun x=>decide (x∈cq P k))=Ce (cq P i) (cq P k) from rfl,h2] at wr;have ME:p.toNat<P.length:=by omega
 obtain⟨l3,q3,e3,_⟩:=yl P i p p.toNat ME;have s3:=ah (cq P p.toNat);have hlp:p.toNat<(rY P i p).length:=by rw[la]; exact ME
 have f3:∀h,(rY P i p)[p.toNat]'h=en (l3,q3,cq P p.toNat):=fun h=>by
  rw[aB h] at e3;exact bJ e3
 have p0:¬p<0:=by omega
 have p1:(0:Int)<=p:=by omega
 have p2:p<P.length:=by omega
 have n5:((cq P k).length:Int)<(cq P p.toNat).length:=by omega
 have IG:k<(rY P i p).length:=by rw[la]; exact II
 have ZV:i<(rY P i p).length:=by rw[la]; exact hi
 have i1:(i:Int)<P.length:=by omega
 have i2:(k:Int)<P.length:=by omega
 have f2:∀h,(rY P i p)[k]'h=en (l2,q2,cq P k):=fun h=>by
  rw[aB h] at e2;exact bJ e2
 have f1:∀h,(rY P i p)[i]'h=en ((P.getD i (0,0,[])).1,p,cq P i):=fun h=>by
  rw[aB h] at e1;exact bJ e1
 obtain⟨a1,a2,a3,a4,a5,a6,a7,a8,a9,aa,ab⟩:=bT o;obtain⟨b1,b2,b3,b4,b5,b6,b7,b8,b9,ba,bb⟩:=bT L;have st:=QK P i p k hi;unfold r9 hC qa;rw[<-st];unfold en at *;generalize rY P i p=P1 at *;generalize (P.getD i (0,0,[])).1=l1 at *;generalize ints (cq P i)=S1 at *;generalize ints (cq P k)=S2 at *;generalize (cq P i).length=m1 at *;generalize (cq P k).length=m2 at *;generalize ints (cq P p.toNat)=S3 at *;generalize (cq P p.toNat).length=m3 at *;generalize Xr:p.toNat=pn at *;generalize ints o=O1 at *;generalize ints L=L1 at *;unfold rI;simp[oC,oB,oA,ox,ot,oq,om,oi,oh,oe,jA,jz,jy,jx,jw,jv,ju,jt,js,jr,jq,jo,jm,jl,jj,ji,jh,jg,jf,je,jd,jc,k1,hk,hw,e1,e2,f1,f2,la,s1,s2,h1,n1,wr,sQG,iQG,h3,h5,n5,Xr,p0,p1,p2,s3,e3,f3,hlp,ME,st,hi,II,IG,ZV,i1,i2,a1,a2,a3,a4,a5,a6,a7,a8,a9,aa,ab,b1,b2,b3,b4,b5,b6,b7,b8,b9,ba,bb,idx,aN,eC,pl]
/- hierarchy.gathered: the search for a parent. -/
theorem Xf {N:Nat} {Y:List AV} (o L:List Int) (P:List Pt) (hP:P.length<=900) (qe:∀j,(cq P j).length<=64) (i:Nat) (hi:i<P.length) (p:Int) (hp:p<i) (k:Nat) (hk:k<i) :
  bh aD 5 rI (r9 N Y (ints o) (ints L) P i p k [])=some (.normal,r9 N Y (ints o) (ints L) P i (pS P i p k) (k+1) []):=by
 by_cases h1:(cq P i).length<(cq P k).length
 ·cases h2:Ce (cq P i) (cq P k) with
  |false=>
    have e:pS P i p k=p:=by unfold pS FO; rw[h2]; simp
    rw[e]; exact adM o L P hP qe i hi p k hk h1 h2
  |true=>
    by_cases h3:p<0
    ·have e:pS P i p k=k:=by unfold pS FO; rw[h2]; simp[h1,h3]
     rw[e]; exact Z7 o L P hP qe i hi p k hk h1 h2 h3
    ·by_cases h5:(cq P k).length<(cq P p.toNat).length
     ·have e:pS P i p k=k:=by unfold pS FO; rw[h2]; simp[h1,h5]
      rw[e]; exact Z6 o L P hP qe i hi p k hk h1 h2 (by omega) hp h5
     ·have e:pS P i p k=p:=by unfold pS FO; rw[h2]; simp[h3,h5]
      rw[e]; exact adL o L P hP qe i hi p k hk h1 h2 (by omega) hp h5
 ·have e:pS P i p k=p:=by unfold pS FO; simp[h1]
  rw[e]; exact adN o L P hP i hi p k hk h1
def AG (P:List Pt) (i:Nat):Nat->Nat->Int->Int
 |0,_,p=>p
 |n+1,k,p=>AG P i n (k+1) (pS P i p k)
theorem RL {N:Nat} {Y:List AV} (o L:List Int) (P:List Pt) (hP:P.length<=900) (qe:∀j,(cq P j).length<=64) (i:Nat) (hi:i<P.length):∀(n k:Nat) (p:Int),k+n=i->p<i ->
  bh aD 5 (.loop rI) (r9 N Y (ints o) (ints L) P i p k [])=some (.exit 8,r9 N Y (ints o) (ints L) P i (AG P i n k p) i [(76,.bool false)])
 |0,k,p,hk,hp=>by
   obtain rfl:k=i:=by omega
   refine cv ?_;have e:AG P k 0 k p=p:=rfl;rw[e];unfold r9 hC qa;generalize rY P k p=P1 at *;generalize ints o=O1 at *;generalize ints L=L1 at *;unfold rI;simp[oC,oB,oA,ox,ot,oq,om,oi,oh,oe,jA,jz,jy,jx,jw,jv,ju,jt,js,jr,jq,jo,jm,jl,jj,ji,jh,jg,jf,je,jd,jc]
 |n+1,k,p,hk,hp=>(bI (Xf o L P hP qe i hi p hp k (by omega))).trans (RL o L P hP qe i hi n (k+1) (pS P i p k) (by omega) (by unfold pS; split<;>omega))
/- hierarchy.gathered: the parents of all parts. -/
def mT (P:List Pt) (i:Nat):Int:=(P.getD i (0,0,[])).2.1
def tC (P:List Pt) (i:Nat):List Pt:=P.set i ((P.getD i (0,0,[])).1,AG P i i 0 (mT P i),cq P i)
def N3 (N:Nat) (Y O1 L1:List AV) (P:List Pt) (i:Nat) (J:Env):St:=⟨(6,.own 3 (P.map en))::(70,.int .i64 P.length)::(71,.int .i64 i)::J,hC N Y O1 L1⟩
theorem Vt (P:List Pt) (i:Nat) (h:i<P.length):rY P i (mT P i)=P.map en:=by
 unfold rY mT cq;rw[aT,aB h,eX];congr 1;exact List.set_getElem_self h
theorem Xe {N:Nat} {Y:List AV} (o L:List Int) (P:List Pt) (hP:P.length<=900) (qe:∀j,(cq P j).length<=64) (i:Nat) (hi:i<P.length) (hp:mT P i<i) :
  bh aD 5 K2 (N3 N Y (ints o) (ints L) P i [])=some (.normal,N3 N Y (ints o) (ints L) (tC P i) (i+1) []):=by
 have k1:(i:Int)<P.length:=by omega
 have hw:=fT (i:=i) (by omega);have lp:=RL (N:=N) (Y:=Y) o L P hP qe i hi i 0 (mT P i) (by omega) hp;have e1:rY P i (AG P i i 0 (mT P i))=(tC P i).map en:=rfl;have e2:(tC P i).length=P.length:=by unfold tC; simp
 unfold r9 at lp;rw[e1,Vt P i hi] at lp;unfold N3;rw[e2];unfold hC qa at *;simp only[mB] at lp;obtain⟨a1,a2,a3,a4,a5,a6,a7,a8,a9,aa,ab⟩:=bT o;obtain⟨b1,b2,b3,b4,b5,b6,b7,b8,b9,ba,bb⟩:=bT L;generalize (tC P i).map en=P2 at *;generalize P.map en=P1 at *;generalize ints o=O1 at *;generalize ints L=L1 at *;unfold K2;simp[oC,oB,oA,ox,ot,oq,om,oi,oh,oe,jA,jz,jy,jx,jw,jv,ju,jt,js,jr,jq,jo,jm,jl,jj,ji,jh,jg,jf,je,jd,jc,k1,hi,hw,lp,a1,a2,a3,a4,a5,a6,a7,a8,a9,aa,ab,b1,b2,b3,b4,b5,b6,b7,b8,b9,ba,bb,aN,eC,pl]
theorem qH (P:List Pt) (i:Nat):(tC P i).length=P.length:=by unfold tC; simp
theorem zt (P:List Pt) (i j:Nat) (h:i≠j):(tC P i).getD j (0,0,[])=P.getD j (0,0,[]):=by
 unfold tC;rw[aT,List.getElem?_set_ne h,<-aT]
theorem DL (P:List Pt) (i j:Nat) (hi:i<P.length):cq (tC P i) j=cq P j:=by
 by_cases e:i=j
 ·subst e;unfold cq tC;rw[aT,aQ,if_pos rfl,if_pos hi];rfl
 ·unfold cq; rw[zt P i j e]
def pT:Nat->Nat->List Pt->List Pt
 |0,_,P=>P
 |n+1,i,P=>pT n (i+1) (tC P i)
theorem RK {N:Nat} {Y:List AV} (o L:List Int):∀(n i:Nat) (P:List Pt),i+n=P.length->P.length<=900->(∀j,(cq P j).length<=64)->(∀j,i<=j->j<P.length->mT P j=-1) ->
  bh aD 5 (.loop K2) (N3 N Y (ints o) (ints L) P i [])=some (.exit 6,N3 N Y (ints o) (ints L) (pT n i P) P.length [(72,.bool false)])
 |0,i,P,hi,hP,qe,hp=>by
   obtain rfl:i=P.length:=by omega
   refine cv ?_;have e:pT 0 P.length P=P:=rfl;rw[e];unfold N3 hC qa;generalize P.map en=P1 at *;generalize ints o=O1 at *;generalize ints L=L1 at *;unfold K2;simp[oC,oB,oA,ox,ot,oq,om,oi,oh,oe,jA,jz,jy,jx,jw,jv,ju,jt,js,jr,jq,jo,jm,jl,jj,ji,jh,jg,jf,je,jd,jc]
 |n+1,i,P,hi,hP,qe,hp=>by
   have bY:i<P.length:=by omega
   have rd:=Xe (N:=N) (Y:=Y) o L P hP qe i bY (by rw[hp i (Nat.le_refl _) bY]; omega)
   have ih:=RK (N:=N) (Y:=Y) o L n (i+1) (tC P i) (by rw[qH]; omega) (by rw[qH]; omega) (fun j=>by rw[DL P i j bY]; exact qe j) (fun j h1 h2=>by
    rw[qH] at h2;have:=hp j (by omega) h2;unfold mT at this ⊢;rw[zt P i j (by omega)]; exact this)
   rw[qH] at ih;exact (bI rd).trans ih
end Go.BmP
