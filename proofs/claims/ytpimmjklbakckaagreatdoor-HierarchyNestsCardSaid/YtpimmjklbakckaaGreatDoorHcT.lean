/- hierarchy.gathered: the parents. -/
import Derived.Test.YtpimmjklbakckaaGreatDoorHcQ
set_option linter.unusedSimpArgs false
set_option linter.unusedVariables false
set_option maxRecDepth 100000
set_option maxHeartbeats 8000000
open List renaming getD_eq_getElem?_getD → aH, getElem?_eq_getElem → aq, getElem?_map → cJ, getElem?_set → aX
open Option renaming getD_some → eZ
open Option.some renaming inj → bK
namespace Go.BmP
open Go.Am Go.Bm
def DP (a b:List Int):Bool:=a.all fun x=>decide (x∈b)
def bZ (P:List Pt) (i:Nat):List Int:=(P.getD i (0,0,[])).2.2
def ML (P:List Pt) (i:Nat) (p:Int) (k:Nat):Bool:=decide ((bZ P i).length<(bZ P k).length)&&(DP (bZ P i) (bZ P k)&&(decide (p<0)||decide ((bZ P k).length<(bZ P p.toNat).length)))
def rY (P:List Pt) (i:Nat) (p:Int) (k:Nat):Int:=if ML P i p k=true then k else p
def sS (P:List Pt) (i:Nat) (p:Int):List AV:=(P.set i ((P.getD i (0,0,[])).1,p,bZ P i)).map dZ
theorem rj (P:List Pt) (i:Nat) (p:Int):(sS P i p).length=P.length:=by simp[sS]
theorem zu (P:List Pt) (i:Nat) (p:Int) (j:Nat) (h:j<P.length):∃l q,(sS P i p)[j]?=some (dZ (l,q,bZ P j))/\(j=i->q=p):=by
 unfold sS;rw[cJ,aX];by_cases e:i=j
 ·subst e;rw[if_pos rfl,if_pos h];exact⟨_,p,rfl,fun _=>rfl⟩
 ·rw[if_neg e,aq h];refine⟨P[j].1,P[j].2.1,?_,fun e2=>absurd e2.symm e⟩;simp only[Option.map_some,bZ,aH,aq h,eZ]
theorem Tg (P:List Pt) (i:Nat) (p q:Int) (h:i<P.length):(sS P i p).set i (dZ ((P.getD i (0,0,[])).1,q,bZ P i))=sS P i q:=by
 unfold sS;rw[<-List.map_set,List.set_set]
theorem FO (P:List Pt) (i:Nat) (p:Int) (h:i<P.length):(sS P i p)[i]?=some (dZ ((P.getD i (0,0,[])).1,p,bZ P i)):=by
 unfold sS;rw[cJ,aX,if_pos rfl,if_pos h];rfl
def hC (N:Nat) (Y O1 L1:List AV):Heap:=[my N Y,my N Y,some O1,some L1,some [.sl 1 3 0 N]]
def sV (N:Nat) (Y O1 L1:List AV) (P:List Pt) (i:Nat) (p:Int) (k:Nat) (J:Env):St:=
 ⟨(6,.own 3 (sS P i p))::(13,.int .i64 i)::(70,.int .i64 P.length)::(71,.int .i64 i)::(74,.int .i64 i)::(75,.int .i64 k)::J,hC N Y O1 L1⟩
theorem afz {N:Nat} {Y:List AV} (o L:List Int) (P:List Pt) (hP:P.length<=900) (i:Nat) (hi:i<P.length) (p:Int) (k:Nat) (hk:k<i) (h1:¬(bZ P i).length<(bZ P k).length) :
  bg aC 5 sC (sV N Y (ints o) (ints L) P i p k [])=some (.normal,sV N Y (ints o) (ints L) P i p (k+1) []):=by
 have k1:(k:Int)<i:=by omega
 have KO:k<P.length:=by omega
 have hw:=eO (i:=k) (by omega);obtain⟨l2,q2,e2,_⟩:=zu P i p k KO;have e1:=FO P i p hi;have la:=rj P i p;have s1:=ah (bZ P i);have s2:=ah (bZ P k);have n1:¬((bZ P i).length:Int)<(bZ P k).length:=by omega
 have KM:k<(sS P i p).length:=by rw[la]; exact KO
 have hli:i<(sS P i p).length:=by rw[la]; exact hi
 have i1:(i:Int)<P.length:=by omega
 have i2:(k:Int)<P.length:=by omega
 have f2:∀h,(sS P i p)[k]'h=dZ (l2,q2,bZ P k):=fun h=>by
  rw[aq h] at e2;exact bK e2
 have f1:∀h,(sS P i p)[i]'h=dZ ((P.getD i (0,0,[])).1,p,bZ P i):=fun h=>by
  rw[aq h] at e1;exact bK e1
 obtain⟨a1,a2,a3,a4,a5,a6,a7,a8,a9,aa,ab⟩:=bM o;obtain⟨b1,b2,b3,b4,b5,b6,b7,b8,b9,ba,bb⟩:=bM L;unfold sV hC my;unfold dZ at *;generalize sS P i p=P1 at *;generalize (P.getD i (0,0,[])).1=l1 at *;generalize ints (bZ P i)=S1 at *;generalize ints (bZ P k)=S2 at *;generalize (bZ P i).length=m1 at *;generalize (bZ P k).length=m2 at *;generalize ints o=O1 at *;generalize ints L=L1 at *;unfold sC;simp[oF,oE,oD,oC,oB,oA,ox,ot,oq,om,jC,jB,jA,jz,jy,jx,jw,jv,ju,jt,js,jr,jq,jo,jm,jl,jj,ji,jh,jg,jf,je,k1,hk,hw,e1,e2,f1,f2,la,s1,s2,h1,n1,hi,KO,KM,hli,i1,i2,a1,a2,a3,a4,a5,a6,a7,a8,a9,aa,ab,b1,b2,b3,b4,b5,b6,b7,b8,b9,ba,bb,idx,aJ,eE,pl]
theorem afy {N:Nat} {Y:List AV} (o L:List Int) (P:List Pt) (hP:P.length<=900) (qP:∀j,(bZ P j).length<=64) (i:Nat) (hi:i<P.length) (p:Int) (k:Nat) (hk:k<i) (h1:(bZ P i).length<(bZ P k).length) (h2:DP (bZ P i) (bZ P k)=false) :
  bg aC 5 sC (sV N Y (ints o) (ints L) P i p k [])=some (.normal,sV N Y (ints o) (ints L) P i p (k+1) []):=by
 have k1:(k:Int)<i:=by omega
 have KO:k<P.length:=by omega
 have hw:=eO (i:=k) (by omega);obtain⟨l2,q2,e2,_⟩:=zu P i p k KO;have e1:=FO P i p hi;have la:=rj P i p;have s1:=ah (bZ P i);have s2:=ah (bZ P k);have n1:((bZ P i).length:Int)<(bZ P k).length:=by omega
 have wr:=sx (bZ P i) (bZ P k) (by have:=qP i; have:=qP k; omega);rw[show ((bZ P i).all fun x=>decide (x∈bZ P k))=DP (bZ P i) (bZ P k) from rfl,h2] at wr;have KM:k<(sS P i p).length:=by rw[la]; exact KO
 have hli:i<(sS P i p).length:=by rw[la]; exact hi
 have i1:(i:Int)<P.length:=by omega
 have i2:(k:Int)<P.length:=by omega
 have f2:∀h,(sS P i p)[k]'h=dZ (l2,q2,bZ P k):=fun h=>by
  rw[aq h] at e2;exact bK e2
 have f1:∀h,(sS P i p)[i]'h=dZ ((P.getD i (0,0,[])).1,p,bZ P i):=fun h=>by
  rw[aq h] at e1;exact bK e1
 obtain⟨a1,a2,a3,a4,a5,a6,a7,a8,a9,aa,ab⟩:=bM o;obtain⟨b1,b2,b3,b4,b5,b6,b7,b8,b9,ba,bb⟩:=bM L;unfold sV hC my;unfold dZ at *;generalize sS P i p=P1 at *;generalize (P.getD i (0,0,[])).1=l1 at *;generalize ints (bZ P i)=S1 at *;generalize ints (bZ P k)=S2 at *;generalize (bZ P i).length=m1 at *;generalize (bZ P k).length=m2 at *;generalize ints o=O1 at *;generalize ints L=L1 at *;unfold sC;simp[oF,oE,oD,oC,oB,oA,ox,ot,oq,om,jC,jB,jA,jz,jy,jx,jw,jv,ju,jt,js,jr,jq,jo,jm,jl,jj,ji,jh,jg,jf,je,k1,hk,hw,e1,e2,f1,f2,la,s1,s2,h1,n1,wr,sQI,iQI,hi,KO,KM,hli,i1,i2,a1,a2,a3,a4,a5,a6,a7,a8,a9,aa,ab,b1,b2,b3,b4,b5,b6,b7,b8,b9,ba,bb,idx,aJ,eE,pl]
theorem abR {N:Nat} {Y:List AV} (o L:List Int) (P:List Pt) (hP:P.length<=900) (qP:∀j,(bZ P j).length<=64) (i:Nat) (hi:i<P.length) (p:Int) (k:Nat) (hk:k<i) (h1:(bZ P i).length<(bZ P k).length) (h2:DP (bZ P i) (bZ P k)=true) (h3:p<0) :
  bg aC 5 sC (sV N Y (ints o) (ints L) P i p k [])=some (.normal,sV N Y (ints o) (ints L) P i k (k+1) []):=by
 have k1:(k:Int)<i:=by omega
 have KO:k<P.length:=by omega
 have hw:=eO (i:=k) (by omega);obtain⟨l2,q2,e2,_⟩:=zu P i p k KO;have e1:=FO P i p hi;have la:=rj P i p;have s1:=ah (bZ P i);have s2:=ah (bZ P k);have n1:((bZ P i).length:Int)<(bZ P k).length:=by omega
 have wr:=sx (bZ P i) (bZ P k) (by have:=qP i; have:=qP k; omega);rw[show ((bZ P i).all fun x=>decide (x∈bZ P k))=DP (bZ P i) (bZ P k) from rfl,h2] at wr;have KM:k<(sS P i p).length:=by rw[la]; exact KO
 have hli:i<(sS P i p).length:=by rw[la]; exact hi
 have i1:(i:Int)<P.length:=by omega
 have i2:(k:Int)<P.length:=by omega
 have f2:∀h,(sS P i p)[k]'h=dZ (l2,q2,bZ P k):=fun h=>by
  rw[aq h] at e2;exact bK e2
 have f1:∀h,(sS P i p)[i]'h=dZ ((P.getD i (0,0,[])).1,p,bZ P i):=fun h=>by
  rw[aq h] at e1;exact bK e1
 obtain⟨a1,a2,a3,a4,a5,a6,a7,a8,a9,aa,ab⟩:=bM o;obtain⟨b1,b2,b3,b4,b5,b6,b7,b8,b9,ba,bb⟩:=bM L;have st:=Tg P i p k hi;unfold sV hC my;rw[<-st];unfold dZ at *;generalize sS P i p=P1 at *;generalize (P.getD i (0,0,[])).1=l1 at *;generalize ints (bZ P i)=S1 at *;generalize ints (bZ P k)=S2 at *;generalize (bZ P i).length=m1 at *;generalize (bZ P k).length=m2 at *;generalize ints o=O1 at *;generalize ints L=L1 at *;unfold sC;simp[oF,oE,oD,oC,oB,oA,ox,ot,oq,om,jC,jB,jA,jz,jy,jx,jw,jv,ju,jt,js,jr,jq,jo,jm,jl,jj,ji,jh,jg,jf,je,k1,hk,hw,e1,e2,f1,f2,la,s1,s2,h1,n1,wr,sQI,iQI,h3,st,hi,KO,KM,hli,i1,i2,a1,a2,a3,a4,a5,a6,a7,a8,a9,aa,ab,b1,b2,b3,b4,b5,b6,b7,b8,b9,ba,bb,idx,aJ,eE,pl]
theorem afx {N:Nat} {Y:List AV} (o L:List Int) (P:List Pt) (hP:P.length<=900) (qP:∀j,(bZ P j).length<=64) (i:Nat) (hi:i<P.length) (p:Int) (k:Nat) (hk:k<i) (h1:(bZ P i).length<(bZ P k).length) (h2:DP (bZ P i) (bZ P k)=true) (h3:0<=p) (h4:p<i) (h5:¬(bZ P k).length<(bZ P p.toNat).length) :
  bg aC 5 sC (sV N Y (ints o) (ints L) P i p k [])=some (.normal,sV N Y (ints o) (ints L) P i p (k+1) []):=by
 have k1:(k:Int)<i:=by omega
 have KO:k<P.length:=by omega
 have hw:=eO (i:=k) (by omega);obtain⟨l2,q2,e2,_⟩:=zu P i p k KO;have e1:=FO P i p hi;have la:=rj P i p;have s1:=ah (bZ P i);have s2:=ah (bZ P k);have n1:((bZ P i).length:Int)<(bZ P k).length:=by omega
 have wr:=sx (bZ P i) (bZ P k) (by have:=qP i; have:=qP k; omega);rw[show ((bZ P i).all fun x=>decide (x∈bZ P k))=DP (bZ P i) (bZ P k) from rfl,h2] at wr;have O9:p.toNat<P.length:=by omega
 obtain⟨l3,q3,e3,_⟩:=zu P i p p.toNat O9;have s3:=ah (bZ P p.toNat);have hlp:p.toNat<(sS P i p).length:=by rw[la]; exact O9
 have f3:∀h,(sS P i p)[p.toNat]'h=dZ (l3,q3,bZ P p.toNat):=fun h=>by
  rw[aq h] at e3;exact bK e3
 have p0:¬p<0:=by omega
 have p1:(0:Int)<=p:=by omega
 have p2:p<P.length:=by omega
 have n5:¬((bZ P k).length:Int)<(bZ P p.toNat).length:=by omega
 have KM:k<(sS P i p).length:=by rw[la]; exact KO
 have hli:i<(sS P i p).length:=by rw[la]; exact hi
 have i1:(i:Int)<P.length:=by omega
 have i2:(k:Int)<P.length:=by omega
 have f2:∀h,(sS P i p)[k]'h=dZ (l2,q2,bZ P k):=fun h=>by
  rw[aq h] at e2;exact bK e2
 have f1:∀h,(sS P i p)[i]'h=dZ ((P.getD i (0,0,[])).1,p,bZ P i):=fun h=>by
  rw[aq h] at e1;exact bK e1
 obtain⟨a1,a2,a3,a4,a5,a6,a7,a8,a9,aa,ab⟩:=bM o;obtain⟨b1,b2,b3,b4,b5,b6,b7,b8,b9,ba,bb⟩:=bM L;unfold sV hC my;unfold dZ at *;generalize sS P i p=P1 at *;generalize (P.getD i (0,0,[])).1=l1 at *;generalize ints (bZ P i)=S1 at *;generalize ints (bZ P k)=S2 at *;generalize (bZ P i).length=m1 at *;generalize (bZ P k).length=m2 at *;generalize ints (bZ P p.toNat)=S3 at *;generalize (bZ P p.toNat).length=m3 at *;generalize Z8:p.toNat=pn at *;generalize ints o=O1 at *;generalize ints L=L1 at *;unfold sC;simp[oF,oE,oD,oC,oB,oA,ox,ot,oq,om,jC,jB,jA,jz,jy,jx,jw,jv,ju,jt,js,jr,jq,jo,jm,jl,jj,ji,jh,jg,jf,je,k1,hk,hw,e1,e2,f1,f2,la,s1,s2,h1,n1,wr,sQI,iQI,h3,h5,n5,Z8,p0,p1,p2,s3,e3,f3,hlp,O9,hi,KO,KM,hli,i1,i2,a1,a2,a3,a4,a5,a6,a7,a8,a9,aa,ab,b1,b2,b3,b4,b5,b6,b7,b8,b9,ba,bb,idx,aJ,eE,pl]
theorem abQ {N:Nat} {Y:List AV} (o L:List Int) (P:List Pt) (hP:P.length<=900) (qP:∀j,(bZ P j).length<=64) (i:Nat) (hi:i<P.length) (p:Int) (k:Nat) (hk:k<i) (h1:(bZ P i).length<(bZ P k).length) (h2:DP (bZ P i) (bZ P k)=true) (h3:0<=p) (h4:p<i) (h5:(bZ P k).length<(bZ P p.toNat).length) :
  bg aC 5 sC (sV N Y (ints o) (ints L) P i p k [])=some (.normal,sV N Y (ints o) (ints L) P i k (k+1) []):=by
 have k1:(k:Int)<i:=by omega
 have KO:k<P.length:=by omega
 have hw:=eO (i:=k) (by omega);obtain⟨l2,q2,e2,_⟩:=zu P i p k KO;have e1:=FO P i p hi;have la:=rj P i p;have s1:=ah (bZ P i);have s2:=ah (bZ P k);have n1:((bZ P i).length:Int)<(bZ P k).length:=by omega
 have wr:=sx (bZ P i) (bZ P k) (by have:=qP i; have:=qP k; omega);rw[show ((bZ P i).all fun x=>decide (x∈bZ P k))=DP (bZ P i) (bZ P k) from rfl,h2] at wr;have O9:p.toNat<P.length:=by omega
 obtain⟨l3,q3,e3,_⟩:=zu P i p p.toNat O9;have s3:=ah (bZ P p.toNat);have hlp:p.toNat<(sS P i p).length:=by rw[la]; exact O9
 have f3:∀h,(sS P i p)[p.toNat]'h=dZ (l3,q3,bZ P p.toNat):=fun h=>by
  rw[aq h] at e3;exact bK e3
 have p0:¬p<0:=by omega
 have p1:(0:Int)<=p:=by omega
 have p2:p<P.length:=by omega
 have n5:((bZ P k).length:Int)<(bZ P p.toNat).length:=by omega
 have KM:k<(sS P i p).length:=by rw[la]; exact KO
 have hli:i<(sS P i p).length:=by rw[la]; exact hi
 have i1:(i:Int)<P.length:=by omega
 have i2:(k:Int)<P.length:=by omega
 have f2:∀h,(sS P i p)[k]'h=dZ (l2,q2,bZ P k):=fun h=>by
  rw[aq h] at e2;exact bK e2
 have f1:∀h,(sS P i p)[i]'h=dZ ((P.getD i (0,0,[])).1,p,bZ P i):=fun h=>by
  rw[aq h] at e1;exact bK e1
 obtain⟨a1,a2,a3,a4,a5,a6,a7,a8,a9,aa,ab⟩:=bM o;obtain⟨b1,b2,b3,b4,b5,b6,b7,b8,b9,ba,bb⟩:=bM L;have st:=Tg P i p k hi;unfold sV hC my;rw[<-st];unfold dZ at *;generalize sS P i p=P1 at *;generalize (P.getD i (0,0,[])).1=l1 at *;generalize ints (bZ P i)=S1 at *;generalize ints (bZ P k)=S2 at *;generalize (bZ P i).length=m1 at *;generalize (bZ P k).length=m2 at *;generalize ints (bZ P p.toNat)=S3 at *;generalize (bZ P p.toNat).length=m3 at *;generalize Z8:p.toNat=pn at *;generalize ints o=O1 at *;generalize ints L=L1 at *;unfold sC;simp[oF,oE,oD,oC,oB,oA,ox,ot,oq,om,jC,jB,jA,jz,jy,jx,jw,jv,ju,jt,js,jr,jq,jo,jm,jl,jj,ji,jh,jg,jf,je,k1,hk,hw,e1,e2,f1,f2,la,s1,s2,h1,n1,wr,sQI,iQI,h3,h5,n5,Z8,p0,p1,p2,s3,e3,f3,hlp,O9,st,hi,KO,KM,hli,i1,i2,a1,a2,a3,a4,a5,a6,a7,a8,a9,aa,ab,b1,b2,b3,b4,b5,b6,b7,b8,b9,ba,bb,idx,aJ,eE,pl]
/- hierarchy.gathered: the search for a parent. -/
theorem ZV {N:Nat} {Y:List AV} (o L:List Int) (P:List Pt) (hP:P.length<=900) (qP:∀j,(bZ P j).length<=64) (i:Nat) (hi:i<P.length) (p:Int) (hp:p<i) (k:Nat) (hk:k<i) :
  bg aC 5 sC (sV N Y (ints o) (ints L) P i p k [])=some (.normal,sV N Y (ints o) (ints L) P i (rY P i p k) (k+1) []):=by
 by_cases h1:(bZ P i).length<(bZ P k).length
 ·cases h2:DP (bZ P i) (bZ P k) with
  |false=>
    have e:rY P i p k=p:=by unfold rY ML; rw[h2]; simp
    rw[e]; exact afy o L P hP qP i hi p k hk h1 h2
  |true=>
    by_cases h3:p<0
    ·have e:rY P i p k=k:=by unfold rY ML; rw[h2]; simp[h1,h3]
     rw[e]; exact abR o L P hP qP i hi p k hk h1 h2 h3
    ·by_cases h5:(bZ P k).length<(bZ P p.toNat).length
     ·have e:rY P i p k=k:=by unfold rY ML; rw[h2]; simp[h1,h5]
      rw[e]; exact abQ o L P hP qP i hi p k hk h1 h2 (by omega) hp h5
     ·have e:rY P i p k=p:=by unfold rY ML; rw[h2]; simp[h3,h5]
      rw[e]; exact afx o L P hP qP i hi p k hk h1 h2 (by omega) hp h5
 ·have e:rY P i p k=p:=by unfold rY ML; simp[h1]
  rw[e]; exact afz o L P hP i hi p k hk h1
def DQ (P:List Pt) (i:Nat):Nat->Nat->Int->Int
 |0,_,p=>p
 |n+1,k,p=>DQ P i n (k+1) (rY P i p k)
theorem Uk {N:Nat} {Y:List AV} (o L:List Int) (P:List Pt) (hP:P.length<=900) (qP:∀j,(bZ P j).length<=64) (i:Nat) (hi:i<P.length):∀(n k:Nat) (p:Int),k+n=i->p<i ->
  bg aC 5 (.loop sC) (sV N Y (ints o) (ints L) P i p k [])=some (.exit 8,sV N Y (ints o) (ints L) P i (DQ P i n k p) i [(76,.bool false)])
 |0,k,p,hk,hp=>by
   obtain rfl:k=i:=by omega
   refine bI ?_;have e:DQ P k 0 k p=p:=rfl;rw[e];unfold sV hC my;generalize sS P k p=P1 at *;generalize ints o=O1 at *;generalize ints L=L1 at *;unfold sC;simp[oF,oE,oD,oC,oB,oA,ox,ot,oq,om,jC,jB,jA,jz,jy,jx,jw,jv,ju,jt,js,jr,jq,jo,jm,jl,jj,ji,jh,jg,jf,je]
 |n+1,k,p,hk,hp=>(bk (ZV o L P hP qP i hi p hp k (by omega))).trans (Uk o L P hP qP i hi n (k+1) (rY P i p k) (by omega) (by unfold rY; split<;>omega))
/- hierarchy.gathered: the parents of all parts. -/
def kJ (P:List Pt) (i:Nat):Int:=(P.getD i (0,0,[])).2.1
def tZ (P:List Pt) (i:Nat):List Pt:=P.set i ((P.getD i (0,0,[])).1,DQ P i i 0 (kJ P i),bZ P i)
def QK (N:Nat) (Y O1 L1:List AV) (P:List Pt) (i:Nat) (J:Env):St:=⟨(6,.own 3 (P.map dZ))::(70,.int .i64 P.length)::(71,.int .i64 i)::J,hC N Y O1 L1⟩
theorem X9 (P:List Pt) (i:Nat) (h:i<P.length):sS P i (kJ P i)=P.map dZ:=by
 unfold sS kJ bZ;rw[aH,aq h,eZ];congr 1;exact List.set_getElem_self h
theorem ZU {N:Nat} {Y:List AV} (o L:List Int) (P:List Pt) (hP:P.length<=900) (qP:∀j,(bZ P j).length<=64) (i:Nat) (hi:i<P.length) (hp:kJ P i<i) :
  bg aC 5 Nr (QK N Y (ints o) (ints L) P i [])=some (.normal,QK N Y (ints o) (ints L) (tZ P i) (i+1) []):=by
 have k1:(i:Int)<P.length:=by omega
 have hw:=eO (i:=i) (by omega);have lp:=Uk (N:=N) (Y:=Y) o L P hP qP i hi i 0 (kJ P i) (by omega) hp;have e1:sS P i (DQ P i i 0 (kJ P i))=(tZ P i).map dZ:=rfl;have e2:(tZ P i).length=P.length:=by unfold tZ; simp
 unfold sV at lp;rw[e1,X9 P i hi] at lp;unfold QK;rw[e2];unfold hC my at *;simp only[jJ] at lp;obtain⟨a1,a2,a3,a4,a5,a6,a7,a8,a9,aa,ab⟩:=bM o;obtain⟨b1,b2,b3,b4,b5,b6,b7,b8,b9,ba,bb⟩:=bM L;generalize (tZ P i).map dZ=P2 at *;generalize P.map dZ=P1 at *;generalize ints o=O1 at *;generalize ints L=L1 at *;unfold Nr;simp[oF,oE,oD,oC,oB,oA,ox,ot,oq,om,jC,jB,jA,jz,jy,jx,jw,jv,ju,jt,js,jr,jq,jo,jm,jl,jj,ji,jh,jg,jf,je,k1,hi,hw,lp,a1,a2,a3,a4,a5,a6,a7,a8,a9,aa,ab,b1,b2,b3,b4,b5,b6,b7,b8,b9,ba,bb,aJ,eE,pl]
theorem rq (P:List Pt) (i:Nat):(tZ P i).length=P.length:=by unfold tZ; simp
theorem AF (P:List Pt) (i j:Nat) (h:i≠j):(tZ P i).getD j (0,0,[])=P.getD j (0,0,[]):=by
 unfold tZ;rw[aH,List.getElem?_set_ne h,<-aH]
theorem FR (P:List Pt) (i j:Nat) (hi:i<P.length):bZ (tZ P i) j=bZ P j:=by
 by_cases e:i=j
 ·subst e;unfold bZ tZ;rw[aH,aX,if_pos rfl,if_pos hi];rfl
 ·unfold bZ; rw[AF P i j e]
def qF:Nat->Nat->List Pt->List Pt
 |0,_,P=>P
 |n+1,i,P=>qF n (i+1) (tZ P i)
theorem Uj {N:Nat} {Y:List AV} (o L:List Int):∀(n i:Nat) (P:List Pt),i+n=P.length->P.length<=900->(∀j,(bZ P j).length<=64)->(∀j,i<=j->j<P.length->kJ P j=-1) ->
  bg aC 5 (.loop Nr) (QK N Y (ints o) (ints L) P i [])=some (.exit 6,QK N Y (ints o) (ints L) (qF n i P) P.length [(72,.bool false)])
 |0,i,P,hi,hP,qP,hp=>by
   obtain rfl:i=P.length:=by omega
   refine bI ?_;have e:qF 0 P.length P=P:=rfl;rw[e];unfold QK hC my;generalize P.map dZ=P1 at *;generalize ints o=O1 at *;generalize ints L=L1 at *;unfold Nr;simp[oF,oE,oD,oC,oB,oA,ox,ot,oq,om,jC,jB,jA,jz,jy,jx,jw,jv,ju,jt,js,jr,jq,jo,jm,jl,jj,ji,jh,jg,jf,je]
 |n+1,i,P,hi,hP,qP,hp=>by
   have bQ:i<P.length:=by omega
   have rd:=ZU (N:=N) (Y:=Y) o L P hP qP i bQ (by rw[hp i (Nat.le_refl _) bQ]; omega)
   have ih:=Uj (N:=N) (Y:=Y) o L n (i+1) (tZ P i) (by rw[rq]; omega) (by rw[rq]; omega) (fun j=>by rw[FR P i j bQ]; exact qP j) (fun j h1 h2=>by
    rw[rq] at h2;have:=hp j (by omega) h2;unfold kJ at this ⊢;rw[AF P i j (by omega)]; exact this)
   rw[rq] at ih;exact (bk rd).trans ih
end Go.BmP
