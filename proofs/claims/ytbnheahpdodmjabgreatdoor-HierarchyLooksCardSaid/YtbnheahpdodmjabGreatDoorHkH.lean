/- ref18.arranged: the order of the parts. -/
import Derived.Test.YtbnheahpdodmjabGreatDoorHkE
set_option linter.unusedSimpArgs false
set_option linter.unusedVariables false
set_option maxRecDepth 100000
set_option maxHeartbeats 8000000
open List renaming getD_eq_getElem?_getD → aG, getElem?_eq_getElem → aj, getElem?_eq_none → dO, getElem?_map → cu, getElem_mem → mV, length_map → aX, length_range → xS, length_set → cF, map_cons → eQ, map_drop → GO, take_of_length_le → aT
open Option.some renaming inj → bj
namespace Go.BmP
open Go.Am Go.Bm
def bxP (x:Pt):Wy:=some [.int .i64 x.1,.int .i64 x.2.1,.list 1 (ints x.2.2)]
def aiSt (P Q:List Pt) (x:Pt) (n j:Nat) (J:Env):St:=⟨(3,.own 3 (P.map bw))::(5,.ptr 0 0)::(6,.int .i64 n)::(10,.list 3 (Q.map bw))::(11,.int .i64 Q.length)::(12,.int .i64 j)::J,[bxP x]⟩
theorem Lc (P:List Pt) (i:Nat) (h:i<P.length):(P.map bw)[i]?=some (.agg [.int .i64 P[i].1,.int .i64 P[i].2.1,.list 1 (ints P[i].2.2)]):=by rw[cu,aj h]; rfl
theorem acF (P Q:List Pt) (x:Pt) (j:Nat) (hP:P.length<=900) (iZ:∀p∈P,p.2.2.length<=1000) (hx:x.2.2.length<=1000):∀n,n<=P.length ->
  aW aq 0 (.loop UE) (aiSt P Q x n j [])=some (.exit 2,aiSt P Q x (kg P x n) j [(28,.bool false)])
 |0,_=>by
   refine bn ?_;have e:kg P x 0=0:=rfl;rw[e];unfold aiSt bxP;generalize P.map bw=Pv at *;generalize Q.map bw=Qv at *;generalize ints x.2.2=S1 at *;unfold UE;simp[ta,s9,s8,s7,s6,sZ,sY,sX,sW,sV,mO,mN,mM,mL,mK,mJ,mI,mH,mG,mF,mE,mD,mC,mB]
 |n+1,hn=>by
   have bE:n<P.length:=by omega
   have e:P.getD n pt0=P[n]:=by rw[aG,aj bE]; rfl
   have g3:=Lc P n bE;have ll:(P.map bw).length=P.length:=aX _;have Bp:n<(P.map bw).length:=by omega
   have g4:∀h,(P.map bw)[n]'h=.agg [.int .i64 P[n].1,.int .i64 P[n].2.1,.list 1 (ints P[n].2.2)]:=fun h=>by
    rw[aj h] at g3;exact bj g3
   have br:=Tj x P[n] hx (iZ _ (mV bE));have w1:IntKind.i64.wrap ((n:Int)+1-1)=(n:Int):=by rw[show (n:Int)+1-1=n by omega]; exact qD (by omega) (by omega)
   have w2:IntKind.i64.wrap (n:Int)=(n:Int):=qD (by omega) (by omega);have k0:(0:Int)<(n:Int)+1:=by omega
   have k1:(n:Int)<P.length:=by omega
   obtain⟨b1,b2,b3,b4,b5,b6,b7,b8,b9,ba,bb⟩:=bg x.2.2;obtain⟨c1,c2,c3,c4,c5,c6,c7,c8,c9,ca,cb⟩:=bg P[n].2.2;by_cases q:wQ x P[n]=true
   ·have ei:kg P x (n+1)=kg P x n:=by rw[kg,e,if_pos q]
    rw[ei];refine (aS ?_).trans (acF P Q x j hP iZ hx n (by omega));rw[q] at br;unfold aiSt bxP;unfold bw at br;generalize P.map bw=Pv at *;generalize Q.map bw=Qv at *;generalize ints P[n].2.2=S2 at *;generalize ints x.2.2=S1 at *;generalize P[n].1=y1 at *;generalize P[n].2.1=y2 at *;unfold UE;simp[ta,s9,s8,s7,s6,sZ,sY,sX,sW,sV,mO,mN,mM,mL,mK,mJ,mI,mH,mG,mF,mE,mD,mC,mB,g3,g4,ll,Bp,bE,br,w1,w2,k0,k1,b1,b2,b3,b4,b5,b6,b7,b8,b9,ba,bb,c1,c2,c3,c4,c5,c6,c7,c8,c9,ca,cb,idx,aH,dc,pl,sQU,iQU]
   ·have ei:kg P x (n+1)=n+1:=by rw[kg,e,if_neg q]
    rw[ei];refine bn ?_;rw[Bool.not_eq_true] at q;rw[q] at br;unfold aiSt bxP;unfold bw at br;generalize P.map bw=Pv at *;generalize Q.map bw=Qv at *;generalize ints P[n].2.2=S2 at *;generalize ints x.2.2=S1 at *;generalize P[n].1=y1 at *;generalize P[n].2.1=y2 at *;unfold UE;simp[ta,s9,s8,s7,s6,sZ,sY,sX,sW,sV,mO,mN,mM,mL,mK,mJ,mI,mH,mG,mF,mE,mD,mC,mB,g3,g4,ll,Bp,bE,br,w1,w2,k0,k1,b1,b2,b3,b4,b5,b6,b7,b8,b9,ba,bb,c1,c2,c3,c4,c5,c6,c7,c8,c9,ca,cb,idx,aH,dc,pl,sQU,iQU]
theorem AJ:∀P:List Pt,bF (aC (P.map bw))=true
 |[]=>rfl
 |p::r=>by
   have ih:=AJ r;rw[eQ];generalize r.map bw=R at *;simp[bw,aC,AV.cells,bF,AV.leaf,ih]
def YO (P Q:List Pt) (j:Nat) (J:Env):St:=⟨(3,.own 3 (P.map bw))::(10,.list 3 (Q.map bw))::(11,.int .i64 Q.length)::(12,.int .i64 j)::J,[]⟩
theorem ahi (P Q:List Pt) (j:Nat) (hP:P.length<=800) (hQ:Q.length<=900) (iZ:∀p∈P,p.2.2.length<=1000) (hj:j<Q.length) (hx:Q[j].2.2.length<=1000) :
  aW aq 0 UD (YO P Q j [])=some (.normal,YO (An P Q[j]) Q (j+1) []):=by
 have lp:=acF P Q Q[j] j (by omega) iZ hx P.length (Nat.le_refl _);have k1:(j:Int)<Q.length:=by omega
 have hw:=dA (i:=j) (by omega);have lQ:(Q.map bw).length=Q.length:=aX _;have Bp:j<(Q.map bw).length:=by omega
 have g3:=Lc Q j hj
 have g4:∀h,(Q.map bw)[j]'h=.agg [.int .i64 Q[j].1,.int .i64 Q[j].2.1,.list 1 (ints Q[j].2.2)]:=fun h=>by
  rw[aj h] at g3;exact bj g3
 have ll:(P.map bw).length=P.length:=aX _;have il:=RF P Q[j] P.length
 have e:(P.map bw).take (kg P Q[j] P.length)++.agg [.int .i64 Q[j].1,.int .i64 Q[j].2.1,.list 1 (ints Q[j].2.2)]::(P.map bw).drop (kg P Q[j] P.length)=(An P Q[j]).map bw:=by
  unfold An;rw[List.map_append,eQ,List.map_take,GO];rfl
 have le:((An P Q[j]).map bw).length=P.length+1:=by rw[aX,(wE P Q[j]).length_eq]; rfl
 have tke:((An P Q[j]).map bw).take (P.length+1)=(An P Q[j]).map bw:=aT (by omega);have ld:((P.map bw).drop (kg P Q[j] P.length)).length=P.length-kg P Q[j] P.length:=by rw[List.length_drop,ll]
 have lt:((P.map bw).take (kg P Q[j] P.length)).length=kg P Q[j] P.length:=by rw[List.length_take,ll]; omega
 have tkd:((P.map bw).drop (kg P Q[j] P.length)).take (P.length-kg P Q[j] P.length)=(P.map bw).drop (kg P Q[j] P.length):=aT (by omega);have al1:bF (aC ((P.map bw).drop (kg P Q[j] P.length)))=true:=by rw[<-GO]; exact AJ _
 have al2:bF (aC (AV.agg [.int .i64 Q[j].1,.int .i64 Q[j].2.1,.list 1 (ints Q[j].2.2)]::(P.map bw).drop (kg P Q[j] P.length)))=true:=by
  have:=AJ (Q[j]::P.drop (kg P Q[j] P.length));rw[eQ,GO] at this;exact this
 have tkp:(P.map bw).take P.length=P.map bw:=aT (by omega);have i1:(kg P Q[j] P.length:Int)<=P.length:=by omega
 have i2:P.length-kg P Q[j] P.length+1<=4294967296:=by omega
 have i3:kg P Q[j] P.length+(P.length-kg P Q[j] P.length+1)<=4294967296:=by omega
 have i4:kg P Q[j] P.length+(P.length-kg P Q[j] P.length)=P.length:=by omega
 have i5:1+(P.length-kg P Q[j] P.length)<=4294967296:=by omega
 obtain⟨b1,b2,b3,b4,b5,b6,b7,b8,b9,ba,bb⟩:=bg Q[j].2.2;unfold aiSt bxP at lp;unfold YO;rw[<-e] at le tke ⊢;generalize (kg P Q[j] P.length)=m at *;generalize Q[j].1=x1 at *;generalize Q[j].2.1=x2 at *;generalize ints Q[j].2.2=S1 at *;generalize P.map bw=Pv at *;generalize Q.map bw=Qv at *;unfold UD;simp[ta,s9,s8,s7,s6,sZ,sY,sX,sW,sV,mO,mN,mM,mL,mK,mJ,mI,mH,mG,mF,mE,mD,mC,mB,k1,hj,hw,lQ,Bp,g3,g4,ll,lp,il,le,tke,ld,lt,tkp,tkd,al1,al2,i1,i2,i3,i4,i5,ks,b1,b2,b3,b4,b5,b6,b7,b8,b9,ba,bb,idx,aH,dc,pl,fz,FG,Iw,rep,fa]
/- ref18.arranged: all parts in order; the parents. -/
theorem acC (Q:List Pt) (hQ:Q.length<=800) (hq:∀p∈Q,p.2.2.length<=1000):∀(n j:Nat) (P:List Pt),j+n=Q.length->P.length=j->(∀p∈P,p.2.2.length<=1000) ->
  aW aq 0 (.loop UD) (YO P Q j [])=some (.exit 0,YO ((Q.drop j).foldl An P) Q Q.length [(13,.bool false)])
 |0,j,P,hj,hP,iZ=>by
   obtain rfl:j=Q.length:=by omega
   rw[List.drop_length,List.foldl_nil];refine bn ?_;unfold YO;generalize P.map bw=Pv at *;generalize Q.map bw=Qv at *;unfold UD;simp[ta,s9,s8,s7,s6,sZ,sY,sX,sW,sV,mO,mN,mM,mL,mK,mJ,mI,mH,mG,mF,mE,mD,mC,mB]
 |n+1,j,P,hj,hP,iZ=>by
   have bE:j<Q.length:=by omega
   rw[List.drop_eq_getElem_cons bE,List.foldl_cons];have hx:=hq _ (mV bE);refine (aS (ahi P Q j (by omega) (by omega) iZ bE hx)).trans (acC Q hQ hq n (j+1) (An P Q[j]) (by omega) (by rw[(wE P Q[j]).length_eq,List.length_cons,hP]) fun p hp=>?_);rcases List.mem_cons.1 ((wE P Q[j]).mem_iff.1 hp) with rfl|hp
   ·exact hx
   ·exact iZ p hp
def Iy (P:List Pt) (i:Nat) (p:Int) (k:Nat) (J:Env):St:=⟨(3,.own 3 (mq P i p))::(7,.int .i64 i)::(43,.int .i64 P.length)::(44,.int .i64 i)::(52,.int .i64 P.length)::(53,.int .i64 k)::J,[]⟩
theorem ahh (P:List Pt) (hP:P.length<=900) (iZ:∀j,(bM P j).length<=64) (i:Nat) (hi:i<P.length) (p:Int) (hp:p<(P.length:Int)) (k:Nat) (hk:k<P.length) :
  aW aq 0 B6 (Iy P i p k [])=some (.normal,Iy P i (iL P i p k) (k+1) []):=by
 have k1:(k:Int)<P.length:=by omega
 have hw:=dA (i:=k) (by omega);obtain⟨l2,q2,e2,_⟩:=xj P i p k hk;have e1:=C9 P i p hi;have la:=lF P i p;have s1:=ah (bM P i);have s2:=ah (bM P k);have wr:=Ja (bM P i) (bM P k) (by have:=iZ i; omega) (by have:=iZ k; omega);rw[show ((bM P i).all fun x=>decide (x∈bM P k))=D3 (bM P i) (bM P k) from rfl] at wr;have Is:k<(mq P i p).length:=by rw[la]; exact hk
 have SD:i<(mq P i p).length:=by rw[la]; exact hi
 have i1:(i:Int)<P.length:=by omega
 unfold bw at e1 e2
 have f2:∀h,(mq P i p)[k]'h=.agg [.int .i64 (l2,q2,bM P k).1,.int .i64 (l2,q2,bM P k).2.1,.list 1 (ints (l2,q2,bM P k).2.2)]:=fun h=>by
  rw[aj h] at e2;exact bj e2
 have f1:∀h,(mq P i p)[i]'h=.agg [.int .i64 ((P.getD i (0,0,[])).1,p,bM P i).1,.int .i64 ((P.getD i (0,0,[])).1,p,bM P i).2.1,.list 1 (ints ((P.getD i (0,0,[])).1,p,bM P i).2.2)]:=fun h=>by
  rw[aj h] at e1;exact bj e1
 simp only at e1 e2 f1 f2;have st:=IJ P i p k hi;unfold bw at st;simp only at st;have tks:∀x,((mq P i p).set i x).take P.length=(mq P i p).set i x:=fun x=>aT (by rw[cF]; omega);obtain⟨b1,b2,b3,b4,b5,b6,b7,b8,b9,ba,bb⟩:=bg (bM P i);obtain⟨c1,c2,c3,c4,c5,c6,c7,c8,c9,ca,cb⟩:=bg (bM P k);by_cases h0:k=i
 ·have e:iL P i p k=p:=by unfold iL zX; rw[h0]; simp
  rw[e];subst h0;unfold Iy;generalize mq P k p=P1 at *;generalize (P.getD k (0,0,[])).1=l1 at *;generalize ints (bM P k)=S1 at *;unfold B6;simp[ta,s9,s8,s7,s6,sZ,sY,sX,sW,sV,mO,mN,mM,mL,mK,mJ,mI,mH,mG,mF,mE,mD,mC,mB,k1,hk,hw,e1,f1,la,s1,SD,b1,b2,b3,b4,b5,b6,b7,b8,b9,ba,bb,idx,aH,dc,pl]
 have h0':¬(k:Int)=i:=by omega
 by_cases h1:(bM P i).length<(bM P k).length
 ·have n1:¬((bM P k).length:Int)<=(bM P i).length:=by omega
  have n2:¬(bM P k).length<=(bM P i).length:=by omega
  cases h2:D3 (bM P i) (bM P k) with
  |false=>
    have e:iL P i p k=p:=by unfold iL zX; rw[h2]; simp
    rw[e];rw[h2] at wr;unfold Iy;generalize mq P i p=P1 at *;generalize (P.getD i (0,0,[])).1=l1 at *;generalize ints (bM P i)=S1 at *;generalize ints (bM P k)=S2 at *;generalize (bM P i).length=m1 at *;generalize (bM P k).length=m2 at *;unfold B6;simp[ta,s9,s8,s7,s6,sZ,sY,sX,sW,sV,mO,mN,mM,mL,mK,mJ,mI,mH,mG,mF,mE,mD,mC,mB,k1,hk,hi,hw,e1,e2,f1,f2,la,s1,s2,wr,Is,SD,i1,h0,h0',n1,n2,b1,b2,b3,b4,b5,b6,b7,b8,b9,ba,bb,c1,c2,c3,c4,c5,c6,c7,c8,c9,ca,cb,idx,aH,dc,pl,sQw,iQw]
  |true=>
    rw[h2] at wr;by_cases h3:p<0
    ·have e:iL P i p k=k:=by unfold iL zX; rw[h2]; simp[h1,h3]
     rw[e];unfold Iy;rw[<-st];generalize mq P i p=P1 at *;generalize (P.getD i (0,0,[])).1=l1 at *;generalize ints (bM P i)=S1 at *;generalize ints (bM P k)=S2 at *;generalize (bM P i).length=m1 at *;generalize (bM P k).length=m2 at *;unfold B6;simp[ta,s9,s8,s7,s6,sZ,sY,sX,sW,sV,mO,mN,mM,mL,mK,mJ,mI,mH,mG,mF,mE,mD,mC,mB,k1,hk,hi,hw,e1,e2,f1,f2,la,s1,s2,wr,Is,SD,i1,h0,h0',n1,n2,h3,tks,b1,b2,b3,b4,b5,b6,b7,b8,b9,ba,bb,c1,c2,c3,c4,c5,c6,c7,c8,c9,ca,cb,idx,aH,dc,pl,sQw,iQw]
    ·have NW:p.toNat<P.length:=by omega
     obtain⟨l3,q3,e3,_⟩:=xj P i p p.toNat NW;have s3:=ah (bM P p.toNat);have hlp:p.toNat<(mq P i p).length:=by rw[la]; exact NW
     unfold bw at e3
     have f3:∀h,(mq P i p)[p.toNat]'h=.agg [.int .i64 (l3,q3,bM P p.toNat).1,.int .i64 (l3,q3,bM P p.toNat).2.1,.list 1 (ints (l3,q3,bM P p.toNat).2.2)]:=fun h=>by
      rw[aj h] at e3;exact bj e3
     simp only at e3 f3;have p1:(0:Int)<=p:=by omega
     by_cases h5:(bM P k).length<(bM P p.toNat).length
     ·have e:iL P i p k=k:=by unfold iL zX; rw[h2]; simp[h1,h5]
      rw[e];have n5:((bM P k).length:Int)<(bM P p.toNat).length:=by omega
      unfold Iy;rw[<-st];generalize mq P i p=P1 at *;generalize (P.getD i (0,0,[])).1=l1 at *;generalize ints (bM P i)=S1 at *;generalize ints (bM P k)=S2 at *;generalize (bM P i).length=m1 at *;generalize (bM P k).length=m2 at *;generalize ME:p.toNat=pn at *;generalize ints (bM P pn)=S3 at *;generalize (bM P pn).length=m3 at *;unfold B6;simp[ta,s9,s8,s7,s6,sZ,sY,sX,sW,sV,mO,mN,mM,mL,mK,mJ,mI,mH,mG,mF,mE,mD,mC,mB,k1,hk,hi,hw,e1,e2,e3,f1,f2,f3,la,s1,s2,s3,wr,Is,SD,hlp,NW,i1,h0,h0',n1,n2,n5,h5,h3,p1,hp,ME,tks,b1,b2,b3,b4,b5,b6,b7,b8,b9,ba,bb,c1,c2,c3,c4,c5,c6,c7,c8,c9,ca,cb,idx,aH,dc,pl,sQw,iQw]
     ·have e:iL P i p k=p:=by unfold iL zX; rw[h2]; simp[h3,h5]
      rw[e];have n5:¬((bM P k).length:Int)<(bM P p.toNat).length:=by omega
      unfold Iy;generalize mq P i p=P1 at *;generalize (P.getD i (0,0,[])).1=l1 at *;generalize ints (bM P i)=S1 at *;generalize ints (bM P k)=S2 at *;generalize (bM P i).length=m1 at *;generalize (bM P k).length=m2 at *;generalize ME:p.toNat=pn at *;generalize ints (bM P pn)=S3 at *;generalize (bM P pn).length=m3 at *;unfold B6;simp[ta,s9,s8,s7,s6,sZ,sY,sX,sW,sV,mO,mN,mM,mL,mK,mJ,mI,mH,mG,mF,mE,mD,mC,mB,k1,hk,hi,hw,e1,e2,e3,f1,f2,f3,la,s1,s2,s3,wr,Is,SD,hlp,NW,i1,h0,h0',n1,n2,n5,h5,h3,p1,hp,ME,tks,b1,b2,b3,b4,b5,b6,b7,b8,b9,ba,bb,c1,c2,c3,c4,c5,c6,c7,c8,c9,ca,cb,idx,aH,dc,pl,sQw,iQw]
 ·have e:iL P i p k=p:=by unfold iL zX; simp[h1]
  rw[e];have n1:((bM P k).length:Int)<=(bM P i).length:=by omega
  have n2:(bM P k).length<=(bM P i).length:=by omega
  unfold Iy;generalize mq P i p=P1 at *;generalize (P.getD i (0,0,[])).1=l1 at *;generalize ints (bM P i)=S1 at *;generalize ints (bM P k)=S2 at *;generalize (bM P i).length=m1 at *;generalize (bM P k).length=m2 at *;unfold B6;simp[ta,s9,s8,s7,s6,sZ,sY,sX,sW,sV,mO,mN,mM,mL,mK,mJ,mI,mH,mG,mF,mE,mD,mC,mB,k1,hk,hi,hw,e1,e2,f1,f2,la,s1,s2,wr,Is,SD,i1,h0,h0',n1,n2,b1,b2,b3,b4,b5,b6,b7,b8,b9,ba,bb,c1,c2,c3,c4,c5,c6,c7,c8,c9,ca,cb,idx,aH,dc,pl,sQw,iQw]
theorem acB (P:List Pt) (hP:P.length<=900) (iZ:∀j,(bM P j).length<=64) (i:Nat) (hi:i<P.length):∀(n k:Nat) (p:Int),k+n=P.length->p<(P.length:Int) ->
  aW aq 0 (.loop B6) (Iy P i p k [])=some (.exit 6,Iy P i (mY P i n k p) P.length [(54,.bool false)])
 |0,k,p,hk,hp=>by
   obtain rfl:k=P.length:=by omega
   refine bn ?_;have e:mY P i 0 P.length p=p:=rfl;rw[e];unfold Iy;generalize mq P i p=P1 at *;unfold B6;simp[ta,s9,s8,s7,s6,sZ,sY,sX,sW,sV,mO,mN,mM,mL,mK,mJ,mI,mH,mG,mF,mE,mD,mC,mB]
 |n+1,k,p,hk,hp=>(aS (ahh P hP iZ i hi p hp k (by omega))).trans (acB P hP iZ i hi n (k+1) (iL P i p k) (by omega) (by unfold iL; split<;>omega))
/- ref18.arranged, as a whole. -/
def Wa (P:List Pt) (i:Nat):List Pt:=P.set i ((P.getD i (0,0,[])).1,mY P i P.length 0 (-1),bM P i)
def YN (P:List Pt) (i:Nat) (J:Env):St:=⟨(3,.own 3 (P.map bw))::(43,.int .i64 P.length)::(44,.int .i64 i)::J,[]⟩
theorem ahg (P:List Pt) (hP:P.length<=900) (iZ:∀j,(bM P j).length<=64) (i:Nat) (hi:i<P.length) :
  aW aq 0 UC (YN P i [])=some (.normal,YN (Wa P i) (i+1) []):=by
 have lp:=acB P hP iZ i hi P.length 0 (-1) (by omega) (by omega);have e1:=C9 P i (ij P i) hi;have st:=IJ P i (ij P i) (-1) hi;have ee:mq P i (mY P i P.length 0 (-1))=(Wa P i).map bw:=rfl;have es:(Wa P i).length=P.length:=by unfold Wa; rw[cF]
 have la:=lF P i (ij P i);have lb:=lF P i (-1);have hw:=dA (i:=i) (by omega);have i1:(i:Int)<P.length:=by omega
 have SD:i<(mq P i (ij P i)).length:=by rw[la]; exact hi
 have f1:∀h,(mq P i (ij P i))[i]'h=bw ((P.getD i (0,0,[])).1,ij P i,bM P i):=fun h=>by
  rw[aj h] at e1;exact bj e1
 have tks:∀x,((mq P i (ij P i)).set i x).take P.length=(mq P i (ij P i)).set i x:=fun x=>aT (by rw[cF]; omega);have tkb:(mq P i (-1)).take P.length=mq P i (-1):=aT (by omega);obtain⟨b1,b2,b3,b4,b5,b6,b7,b8,b9,ba,bb⟩:=bg (bM P i);unfold Iy at lp;rw[ee] at lp;unfold YN;rw[es,<-TO P i hi];simp only[fH] at lp;unfold bw at e1 f1 st;simp only at e1 f1 st;generalize (Wa P i).map bw=P3 at *;generalize mq P i (-1)=P2 at *;generalize mq P i (ij P i)=P1 at *;generalize (P.getD i (0,0,[])).1=l1 at *;generalize ints (bM P i)=S1 at *;unfold UC;simp[ta,s9,s8,s7,s6,sZ,sY,sX,sW,sV,mO,mN,mM,mL,mK,mJ,mI,mH,mG,mF,mE,mD,mC,mB,lp,e1,f1,st,la,lb,hw,i1,hi,SD,tks,tkb,b1,b2,b3,b4,b5,b6,b7,b8,b9,ba,bb,idx,aH,dc,pl]
def AF:Nat->Nat->List Pt->List Pt
 |0,_,P=>P
 |n+1,i,P=>AF n (i+1) (Wa P i)
theorem xK (P:List Pt) (i:Nat):(Wa P i).length=P.length:=by unfold Wa; rw[cF]
theorem Sf (P:List Pt) (i j:Nat) (h:i≠j):(Wa P i).getD j (0,0,[])=P.getD j (0,0,[]):=by
 unfold Wa;rw[aG,List.getElem?_set_ne h,<-aG]
theorem YL (P:List Pt) (i:Nat) (hi:i<P.length):(Wa P i).getD i (0,0,[])=((P.getD i (0,0,[])).1,mY P i P.length 0 (-1),bM P i):=by
 unfold Wa;rw[aG,List.getElem?_set,if_pos rfl,if_pos hi];rfl
theorem Se (P:List Pt) (i j:Nat) (hi:i<P.length):bM (Wa P i) j=bM P j:=by
 by_cases e:i=j
 ·subst e; unfold bM; rw[YL P i hi]; rfl
 ·unfold bM; rw[Sf P i j e]
theorem ajN (P:List Pt) (i j:Nat) (hi:i<P.length):iJ (Wa P i) j=iJ P j:=by
 by_cases e:i=j
 ·subst e; unfold iJ; rw[YL P i hi]
 ·unfold iJ; rw[Sf P i j e]
theorem Na:∀(n i:Nat) (P:List Pt),i+n=P.length->(AF n i P).length=P.length/\(∀j,bM (AF n i P) j=bM P j)/\(∀j,iJ (AF n i P) j=iJ P j)/\(∀j,j<i->ij (AF n i P) j=ij P j)/\∀ j,i<=j->j<P.length->ij (AF n i P) j=mY P j P.length 0 (-1)
 |0,i,P,hi=>⟨rfl,fun _=>rfl,fun _=>rfl,fun _ _=>rfl,fun j h1 h2=>by omega⟩
 |n+1,i,P,hi=>by
   have bE:i<P.length:=by omega
   obtain⟨a1,a2,a3,a4,a5⟩:=Na n (i+1) (Wa P i) (by rw[xK]; omega);have e:AF (n+1) i P=AF n (i+1) (Wa P i):=rfl;rw[e];refine⟨by rw[a1,xK],fun j=>by rw[a2,Se P i j bE],fun j=>by rw[a3,ajN P i j bE],fun j hj=>?_,fun j h1 h2=>?_⟩
   ·rw[a4 j (by omega)];unfold ij;rw[Sf P i j (by omega)]
   ·rcases Nat.eq_or_lt_of_le h1 with rfl|h1
    ·rw[a4 i (by omega)];unfold ij;rw[YL P i bE]
    ·rw[a5 j h1 (by rw[xK]; exact h2),xK,uq (fun j=>Se P i j bE)]
theorem YM (P:List Pt):AF P.length 0 P=yW P:=by
 obtain⟨a1,a2,a3,a4,a5⟩:=Na P.length 0 P (by omega);apply List.ext_getElem?;intro i;by_cases hi:i<P.length
 ·have e2:(yW P)[i]?=some (iJ P i,mY P i P.length 0 (-1),bM P i):=by
   unfold yW;rw[cu,List.getElem?_range hi];rfl
  rw[e2,<-a2 i,<-a3 i,<-a5 i (by omega) hi];rw[aj (by omega)];unfold iJ ij bM;rw[aG,aj (by omega)];rfl
 ·rw[dO (by omega),dO (by unfold yW; rw[aX,xS]; omega)]
theorem acA:∀(n i:Nat) (P:List Pt),i+n=P.length->P.length<=900->(∀j,(bM P j).length<=64) ->
  aW aq 0 (.loop UC) (YN P i [])=some (.exit 4,YN (AF n i P) P.length [(45,.bool false)])
 |0,i,P,hi,hP,iZ=>by
   obtain rfl:i=P.length:=by omega
   refine bn ?_;have e:AF 0 P.length P=P:=rfl;rw[e];unfold YN;generalize P.map bw=P1 at *;unfold UC;simp[ta,s9,s8,s7,s6,sZ,sY,sX,sW,sV,mO,mN,mM,mL,mK,mJ,mI,mH,mG,mF,mE,mD,mC,mB]
 |n+1,i,P,hi,hP,iZ=>by
   have bE:i<P.length:=by omega
   have ih:=acA n (i+1) (Wa P i) (by rw[xK]; omega) (by rw[xK]; exact hP) (fun j=>by rw[Se P i j bE]; exact iZ j);rw[xK] at ih;exact (aS (ahg P hP iZ i bE)).trans ih
theorem ajL (Q:List Pt) (hQ:Q.length<=800) (hq:∀p∈Q,p.2.2.length<=64):bJ aq nQy [.list 3 (Q.map bw)] []=some (.list 3 ((yW (uX Q)).map bw),[]):=by
 have lp1:=acC Q hQ (fun p hp=>by have:=hq p hp; omega) Q.length 0 [] (by omega) rfl (fun p hp=>absurd hp List.not_mem_nil);rw[List.drop_zero] at lp1;have pm:=GJ Q [];rw[List.nil_append] at pm;have e1:Q.foldl An []=uX Q:=rfl;rw[e1] at lp1 pm;have l1:(uX Q).length=Q.length:=pm.length_eq
 have hs:∀j,(bM (uX Q) j).length<=64:=fun j=>by
  unfold bM;by_cases h:j<(uX Q).length
  ·exact hq _ (pm.mem_iff.1 (at_mem h))
  ·rw[aG,dO (by omega)];exact Nat.zero_le _
 have lp2:=acA (uX Q).length 0 (uX Q) (by omega) (by omega) hs;rw[YM] at lp2;have l2:(yW (uX Q)).length=Q.length:=by unfold yW; rw[aX,xS,l1]
 have lQ:(Q.map bw).length=Q.length:=aX _;have lP:((uX Q).map bw).length=Q.length:=by rw[aX,l1]
 have lR:((yW (uX Q)).map bw).length=Q.length:=by rw[aX,l2]
 have tk:((yW (uX Q)).map bw).take Q.length=(yW (uX Q)).map bw:=aT (by omega);rw[dZ sQy (Nat.le_of_ble_eq_true rfl)];unfold YO at lp1;unfold YN at lp2;rw[show ([]:List Pt).map bw=[] from rfl] at lp1;rw[l1,l2] at lp2;simp only[fH] at lp1 lp2;generalize (yW (uX Q)).map bw=R1 at *;generalize (uX Q).map bw=P1 at *;generalize Q.map bw=Q1 at *;unfold qQy cQy;simp[ta,s9,s8,s7,s6,sZ,sY,sX,sW,sV,mO,mN,mM,mL,mK,mJ,mI,mH,mG,mF,mE,mD,mC,mB,lp1,lp2,lQ,lP,lR,tk,aH,bL,bC,eR,dc,pl]
end Go.BmP
