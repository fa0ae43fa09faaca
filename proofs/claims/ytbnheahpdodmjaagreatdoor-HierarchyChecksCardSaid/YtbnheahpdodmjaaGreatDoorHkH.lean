/- ref18.arranged: the order of the parts. -/
import Derived.Test.YtbnheahpdodmjaaGreatDoorHkE
set_option linter.unusedSimpArgs false
set_option linter.unusedVariables false
set_option maxRecDepth 100000
set_option maxHeartbeats 8000000
open List renaming getD_eq_getElem?_getD → au, getElem?_eq_getElem → ai, getElem?_eq_none → cE, getElem?_map → cn, getElem_mem → eG, length_map → aQ, length_range → xn, length_set → bG, map_cons → dp, map_drop → Ar, take_of_length_le → aK
open Option.some renaming inj → bm
namespace Go.BmP
open Go.Am Go.Bm
def bxP (x:Pt):Vf:=some [.int .i64 x.1,.int .i64 x.2.1,.list 1 (ints x.2.2)]
def aiSt (P Q:List Pt) (x:Pt) (n j:Nat) (J:Env):St:=⟨(3,.own 3 (P.map bH))::(5,.ptr 0 0)::(6,.int .i64 n)::(10,.list 3 (Q.map bH))::(11,.int .i64 Q.length)::(12,.int .i64 j)::J,[bxP x]⟩
theorem rR (P:List Pt) (i:Nat) (h:i<P.length):(P.map bH)[i]?=some (.agg [.int .i64 P[i].1,.int .i64 P[i].2.1,.list 1 (ints P[i].2.2)]):=by rw[cn,ai h]; rfl
theorem abk (P Q:List Pt) (x:Pt) (j:Nat) (hP:P.length<=900) (iR:∀p∈P,p.2.2.length<=1000) (hx:x.2.2.length<=1000):∀n,n<=P.length ->
  aY an 0 (.loop Tb) (aiSt P Q x n j [])=some (.exit 2,aiSt P Q x (jX P x n) j [(28,.bool false)])
 |0,_=>by
   refine bt ?_;have e:jX P x 0=0:=rfl;rw[e];unfold aiSt bxP;generalize P.map bH=Pv at *;generalize Q.map bH=Qv at *;generalize ints x.2.2=S1 at *;unfold Tb;simp[sC,sB,sy,sx,ss,sr,sk,sj,si,sg,mK,mJ,mI,mH,mG,mF,mE,mD,mC,mB,mA,mz,my,mw]
 |n+1,hn=>by
   have bF:n<P.length:=by omega
   have e:P.getD n pt0=P[n]:=by rw[au,ai bF]; rfl
   have g3:=rR P n bF;have ll:(P.map bH).length=P.length:=aQ _;have A4:n<(P.map bH).length:=by omega
   have g4:∀h,(P.map bH)[n]'h=.agg [.int .i64 P[n].1,.int .i64 P[n].2.1,.list 1 (ints P[n].2.2)]:=fun h=>by
    rw[ai h] at g3;exact bm g3
   have br:=RC x P[n] hx (iR _ (eG bF));have w1:IntKind.i64.wrap ((n:Int)+1-1)=(n:Int):=by rw[show (n:Int)+1-1=n by omega]; exact nn (by omega) (by omega)
   have w2:IntKind.i64.wrap (n:Int)=(n:Int):=nn (by omega) (by omega);have k0:(0:Int)<(n:Int)+1:=by omega
   have k1:(n:Int)<P.length:=by omega
   obtain⟨b1,b2,b3,b4,b5,b6,b7,b8,b9,ba,bb⟩:=bj x.2.2;obtain⟨c1,c2,c3,c4,c5,c6,c7,c8,c9,ca,cb⟩:=bj P[n].2.2;by_cases q:wg x P[n]=true
   ·have ei:jX P x (n+1)=jX P x n:=by rw[jX,e,if_pos q]
    rw[ei];refine (aV ?_).trans (abk P Q x j hP iR hx n (by omega));rw[q] at br;unfold aiSt bxP;unfold bH at br;generalize P.map bH=Pv at *;generalize Q.map bH=Qv at *;generalize ints P[n].2.2=S2 at *;generalize ints x.2.2=S1 at *;generalize P[n].1=y1 at *;generalize P[n].2.1=y2 at *;unfold Tb;simp[sC,sB,sy,sx,ss,sr,sk,sj,si,sg,mK,mJ,mI,mH,mG,mF,mE,mD,mC,mB,mA,mz,my,mw,g3,g4,ll,A4,bF,br,w1,w2,k0,k1,b1,b2,b3,b4,b5,b6,b7,b8,b9,ba,bb,c1,c2,c3,c4,c5,c6,c7,c8,c9,ca,cb,idx,aJ,dq,pl,sQR,iQR]
   ·have ei:jX P x (n+1)=n+1:=by rw[jX,e,if_neg q]
    rw[ei];refine bt ?_;rw[Bool.not_eq_true] at q;rw[q] at br;unfold aiSt bxP;unfold bH at br;generalize P.map bH=Pv at *;generalize Q.map bH=Qv at *;generalize ints P[n].2.2=S2 at *;generalize ints x.2.2=S1 at *;generalize P[n].1=y1 at *;generalize P[n].2.1=y2 at *;unfold Tb;simp[sC,sB,sy,sx,ss,sr,sk,sj,si,sg,mK,mJ,mI,mH,mG,mF,mE,mD,mC,mB,mA,mz,my,mw,g3,g4,ll,A4,bF,br,w1,w2,k0,k1,b1,b2,b3,b4,b5,b6,b7,b8,b9,ba,bb,c1,c2,c3,c4,c5,c6,c7,c8,c9,ca,cb,idx,aJ,dq,pl,sQR,iQR]
theorem iV:∀P:List Pt,bC (aA (P.map bH))=true
 |[]=>rfl
 |p::r=>by
   have ih:=iV r;rw[dp];generalize r.map bH=R at *;simp[bH,aA,AV.cells,bC,AV.leaf,ih]
def Xp (P Q:List Pt) (j:Nat) (J:Env):St:=⟨(3,.own 3 (P.map bH))::(10,.list 3 (Q.map bH))::(11,.int .i64 Q.length)::(12,.int .i64 j)::J,[]⟩
theorem afG (P Q:List Pt) (j:Nat) (hP:P.length<=800) (hQ:Q.length<=900) (iR:∀p∈P,p.2.2.length<=1000) (hj:j<Q.length) (hx:Q[j].2.2.length<=1000) :
  aY an 0 Ta (Xp P Q j [])=some (.normal,Xp (zR P Q[j]) Q (j+1) []):=by
 have lp:=abk P Q Q[j] j (by omega) iR hx P.length (Nat.le_refl _);have k1:(j:Int)<Q.length:=by omega
 have hw:=dO (i:=j) (by omega);have lQ:(Q.map bH).length=Q.length:=aQ _;have A4:j<(Q.map bH).length:=by omega
 have g3:=rR Q j hj
 have g4:∀h,(Q.map bH)[j]'h=.agg [.int .i64 Q[j].1,.int .i64 Q[j].2.1,.list 1 (ints Q[j].2.2)]:=fun h=>by
  rw[ai h] at g3;exact bm g3
 have ll:(P.map bH).length=P.length:=aQ _;have il:=Qg P Q[j] P.length
 have e:(P.map bH).take (jX P Q[j] P.length)++.agg [.int .i64 Q[j].1,.int .i64 Q[j].2.1,.list 1 (ints Q[j].2.2)]::(P.map bH).drop (jX P Q[j] P.length)=(zR P Q[j]).map bH:=by
  unfold zR;rw[List.map_append,dp,List.map_take,Ar];rfl
 have le:((zR P Q[j]).map bH).length=P.length+1:=by rw[aQ,(vR P Q[j]).length_eq]; rfl
 have tke:((zR P Q[j]).map bH).take (P.length+1)=(zR P Q[j]).map bH:=aK (by omega);have ld:((P.map bH).drop (jX P Q[j] P.length)).length=P.length-jX P Q[j] P.length:=by rw[List.length_drop,ll]
 have lt:((P.map bH).take (jX P Q[j] P.length)).length=jX P Q[j] P.length:=by rw[List.length_take,ll]; omega
 have tkd:((P.map bH).drop (jX P Q[j] P.length)).take (P.length-jX P Q[j] P.length)=(P.map bH).drop (jX P Q[j] P.length):=aK (by omega);have al1:bC (aA ((P.map bH).drop (jX P Q[j] P.length)))=true:=by rw[<-Ar]; exact iV _
 have al2:bC (aA (AV.agg [.int .i64 Q[j].1,.int .i64 Q[j].2.1,.list 1 (ints Q[j].2.2)]::(P.map bH).drop (jX P Q[j] P.length)))=true:=by
  have:=iV (Q[j]::P.drop (jX P Q[j] P.length));rw[dp,Ar] at this;exact this
 have tkp:(P.map bH).take P.length=P.map bH:=aK (by omega);have i1:(jX P Q[j] P.length:Int)<=P.length:=by omega
 have i2:P.length-jX P Q[j] P.length+1<=4294967296:=by omega
 have i3:jX P Q[j] P.length+(P.length-jX P Q[j] P.length+1)<=4294967296:=by omega
 have i4:jX P Q[j] P.length+(P.length-jX P Q[j] P.length)=P.length:=by omega
 have i5:1+(P.length-jX P Q[j] P.length)<=4294967296:=by omega
 obtain⟨b1,b2,b3,b4,b5,b6,b7,b8,b9,ba,bb⟩:=bj Q[j].2.2;unfold aiSt bxP at lp;unfold Xp;rw[<-e] at le tke ⊢;generalize (jX P Q[j] P.length)=m at *;generalize Q[j].1=x1 at *;generalize Q[j].2.1=x2 at *;generalize ints Q[j].2.2=S1 at *;generalize P.map bH=Pv at *;generalize Q.map bH=Qv at *;unfold Ta;simp[sC,sB,sy,sx,ss,sr,sk,sj,si,sg,mK,mJ,mI,mH,mG,mF,mE,mD,mC,mB,mA,mz,my,mw,k1,hj,hw,lQ,A4,g3,g4,ll,lp,il,le,tke,ld,lt,tkp,tkd,al1,al2,i1,i2,i3,i4,i5,lU,b1,b2,b3,b4,b5,b6,b7,b8,b9,ba,bb,idx,aJ,dq,pl,fz,E8,E7,rep,eK]
/- ref18.arranged: all parts in order; the parents. -/
theorem abh (Q:List Pt) (hQ:Q.length<=800) (hq:∀p∈Q,p.2.2.length<=1000):∀(n j:Nat) (P:List Pt),j+n=Q.length->P.length=j->(∀p∈P,p.2.2.length<=1000) ->
  aY an 0 (.loop Ta) (Xp P Q j [])=some (.exit 0,Xp ((Q.drop j).foldl zR P) Q Q.length [(13,.bool false)])
 |0,j,P,hj,hP,iR=>by
   obtain rfl:j=Q.length:=by omega
   rw[List.drop_length,List.foldl_nil];refine bt ?_;unfold Xp;generalize P.map bH=Pv at *;generalize Q.map bH=Qv at *;unfold Ta;simp[sC,sB,sy,sx,ss,sr,sk,sj,si,sg,mK,mJ,mI,mH,mG,mF,mE,mD,mC,mB,mA,mz,my,mw]
 |n+1,j,P,hj,hP,iR=>by
   have bF:j<Q.length:=by omega
   rw[List.drop_eq_getElem_cons bF,List.foldl_cons];have hx:=hq _ (eG bF);refine (aV (afG P Q j (by omega) (by omega) iR bF hx)).trans (abh Q hQ hq n (j+1) (zR P Q[j]) (by omega) (by rw[(vR P Q[j]).length_eq,List.length_cons,hP]) fun p hp=>?_);rcases List.mem_cons.1 ((vR P Q[j]).mem_iff.1 hp) with rfl|hp
   ·exact hx
   ·exact iR p hp
def Il (P:List Pt) (i:Nat) (p:Int) (k:Nat) (J:Env):St:=⟨(3,.own 3 (me P i p))::(7,.int .i64 i)::(43,.int .i64 P.length)::(44,.int .i64 i)::(52,.int .i64 P.length)::(53,.int .i64 k)::J,[]⟩
theorem afF (P:List Pt) (hP:P.length<=900) (iR:∀j,(bR P j).length<=64) (i:Nat) (hi:i<P.length) (p:Int) (hp:p<(P.length:Int)) (k:Nat) (hk:k<P.length) :
  aY an 0 BS (Il P i p k [])=some (.normal,Il P i (iA P i p k) (k+1) []):=by
 have k1:(k:Int)<P.length:=by omega
 have hw:=dO (i:=k) (by omega);obtain⟨l2,q2,e2,_⟩:=wF P i p k hk;have e1:=CB P i p hi;have la:=k9 P i p;have s1:=ah (bR P i);have s2:=ah (bR P k);have wr:=IX (bR P i) (bR P k) (by have:=iR i; omega) (by have:=iR k; omega);rw[show ((bR P i).all fun x=>decide (x∈bR P k))=Dq (bR P i) (bR P k) from rfl] at wr;have Ih:k<(me P i p).length:=by rw[la]; exact hk
 have Q2:i<(me P i p).length:=by rw[la]; exact hi
 have i1:(i:Int)<P.length:=by omega
 unfold bH at e1 e2
 have f2:∀h,(me P i p)[k]'h=.agg [.int .i64 (l2,q2,bR P k).1,.int .i64 (l2,q2,bR P k).2.1,.list 1 (ints (l2,q2,bR P k).2.2)]:=fun h=>by
  rw[ai h] at e2;exact bm e2
 have f1:∀h,(me P i p)[i]'h=.agg [.int .i64 ((P.getD i (0,0,[])).1,p,bR P i).1,.int .i64 ((P.getD i (0,0,[])).1,p,bR P i).2.1,.list 1 (ints ((P.getD i (0,0,[])).1,p,bR P i).2.2)]:=fun h=>by
  rw[ai h] at e1;exact bm e1
 simp only at e1 e2 f1 f2;have st:=Ix P i p k hi;unfold bH at st;simp only at st;have UY:∀x,((me P i p).set i x).take P.length=(me P i p).set i x:=fun x=>aK (by rw[bG]; omega);obtain⟨b1,b2,b3,b4,b5,b6,b7,b8,b9,ba,bb⟩:=bj (bR P i);obtain⟨c1,c2,c3,c4,c5,c6,c7,c8,c9,ca,cb⟩:=bj (bR P k);by_cases h0:k=i
 ·have e:iA P i p k=p:=by unfold iA zB; rw[h0]; simp
  rw[e];subst h0;unfold Il;generalize me P k p=P1 at *;generalize (P.getD k (0,0,[])).1=l1 at *;generalize ints (bR P k)=S1 at *;unfold BS;simp[sC,sB,sy,sx,ss,sr,sk,sj,si,sg,mK,mJ,mI,mH,mG,mF,mE,mD,mC,mB,mA,mz,my,mw,k1,hk,hw,e1,f1,la,s1,Q2,b1,b2,b3,b4,b5,b6,b7,b8,b9,ba,bb,idx,aJ,dq,pl]
 have h0':¬(k:Int)=i:=by omega
 by_cases h1:(bR P i).length<(bR P k).length
 ·have n1:¬((bR P k).length:Int)<=(bR P i).length:=by omega
  have n2:¬(bR P k).length<=(bR P i).length:=by omega
  cases h2:Dq (bR P i) (bR P k) with
  |false=>
    have e:iA P i p k=p:=by unfold iA zB; rw[h2]; simp
    rw[e];rw[h2] at wr;unfold Il;generalize me P i p=P1 at *;generalize (P.getD i (0,0,[])).1=l1 at *;generalize ints (bR P i)=S1 at *;generalize ints (bR P k)=S2 at *;generalize (bR P i).length=m1 at *;generalize (bR P k).length=m2 at *;unfold BS;simp[sC,sB,sy,sx,ss,sr,sk,sj,si,sg,mK,mJ,mI,mH,mG,mF,mE,mD,mC,mB,mA,mz,my,mw,k1,hk,hi,hw,e1,e2,f1,f2,la,s1,s2,wr,Ih,Q2,i1,h0,h0',n1,n2,b1,b2,b3,b4,b5,b6,b7,b8,b9,ba,bb,c1,c2,c3,c4,c5,c6,c7,c8,c9,ca,cb,idx,aJ,dq,pl,sQq,iQq]
  |true=>
    rw[h2] at wr;by_cases h3:p<0
    ·have e:iA P i p k=k:=by unfold iA zB; rw[h2]; simp[h1,h3]
     rw[e];unfold Il;rw[<-st];generalize me P i p=P1 at *;generalize (P.getD i (0,0,[])).1=l1 at *;generalize ints (bR P i)=S1 at *;generalize ints (bR P k)=S2 at *;generalize (bR P i).length=m1 at *;generalize (bR P k).length=m2 at *;unfold BS;simp[sC,sB,sy,sx,ss,sr,sk,sj,si,sg,mK,mJ,mI,mH,mG,mF,mE,mD,mC,mB,mA,mz,my,mw,k1,hk,hi,hw,e1,e2,f1,f2,la,s1,s2,wr,Ih,Q2,i1,h0,h0',n1,n2,h3,UY,b1,b2,b3,b4,b5,b6,b7,b8,b9,ba,bb,c1,c2,c3,c4,c5,c6,c7,c8,c9,ca,cb,idx,aJ,dq,pl,sQq,iQq]
    ·have MW:p.toNat<P.length:=by omega
     obtain⟨l3,q3,e3,_⟩:=wF P i p p.toNat MW;have s3:=ah (bR P p.toNat);have hlp:p.toNat<(me P i p).length:=by rw[la]; exact MW
     unfold bH at e3
     have f3:∀h,(me P i p)[p.toNat]'h=.agg [.int .i64 (l3,q3,bR P p.toNat).1,.int .i64 (l3,q3,bR P p.toNat).2.1,.list 1 (ints (l3,q3,bR P p.toNat).2.2)]:=fun h=>by
      rw[ai h] at e3;exact bm e3
     simp only at e3 f3;have p1:(0:Int)<=p:=by omega
     by_cases h5:(bR P k).length<(bR P p.toNat).length
     ·have e:iA P i p k=k:=by unfold iA zB; rw[h2]; simp[h1,h5]
      rw[e];have n5:((bR P k).length:Int)<(bR P p.toNat).length:=by omega
      unfold Il;rw[<-st];generalize me P i p=P1 at *;generalize (P.getD i (0,0,[])).1=l1 at *;generalize ints (bR P i)=S1 at *;generalize ints (bR P k)=S2 at *;generalize (bR P i).length=m1 at *;generalize (bR P k).length=m2 at *;generalize epn:p.toNat=pn at *;generalize ints (bR P pn)=S3 at *;generalize (bR P pn).length=m3 at *;unfold BS;simp[sC,sB,sy,sx,ss,sr,sk,sj,si,sg,mK,mJ,mI,mH,mG,mF,mE,mD,mC,mB,mA,mz,my,mw,k1,hk,hi,hw,e1,e2,e3,f1,f2,f3,la,s1,s2,s3,wr,Ih,Q2,hlp,MW,i1,h0,h0',n1,n2,n5,h5,h3,p1,hp,epn,UY,b1,b2,b3,b4,b5,b6,b7,b8,b9,ba,bb,c1,c2,c3,c4,c5,c6,c7,c8,c9,ca,cb,idx,aJ,dq,pl,sQq,iQq]
     ·have e:iA P i p k=p:=by unfold iA zB; rw[h2]; simp[h3,h5]
      rw[e];have n5:¬((bR P k).length:Int)<(bR P p.toNat).length:=by omega
      unfold Il;generalize me P i p=P1 at *;generalize (P.getD i (0,0,[])).1=l1 at *;generalize ints (bR P i)=S1 at *;generalize ints (bR P k)=S2 at *;generalize (bR P i).length=m1 at *;generalize (bR P k).length=m2 at *;generalize epn:p.toNat=pn at *;generalize ints (bR P pn)=S3 at *;generalize (bR P pn).length=m3 at *;unfold BS;simp[sC,sB,sy,sx,ss,sr,sk,sj,si,sg,mK,mJ,mI,mH,mG,mF,mE,mD,mC,mB,mA,mz,my,mw,k1,hk,hi,hw,e1,e2,e3,f1,f2,f3,la,s1,s2,s3,wr,Ih,Q2,hlp,MW,i1,h0,h0',n1,n2,n5,h5,h3,p1,hp,epn,UY,b1,b2,b3,b4,b5,b6,b7,b8,b9,ba,bb,c1,c2,c3,c4,c5,c6,c7,c8,c9,ca,cb,idx,aJ,dq,pl,sQq,iQq]
 ·have e:iA P i p k=p:=by unfold iA zB; simp[h1]
  rw[e];have n1:((bR P k).length:Int)<=(bR P i).length:=by omega
  have n2:(bR P k).length<=(bR P i).length:=by omega
  unfold Il;generalize me P i p=P1 at *;generalize (P.getD i (0,0,[])).1=l1 at *;generalize ints (bR P i)=S1 at *;generalize ints (bR P k)=S2 at *;generalize (bR P i).length=m1 at *;generalize (bR P k).length=m2 at *;unfold BS;simp[sC,sB,sy,sx,ss,sr,sk,sj,si,sg,mK,mJ,mI,mH,mG,mF,mE,mD,mC,mB,mA,mz,my,mw,k1,hk,hi,hw,e1,e2,f1,f2,la,s1,s2,wr,Ih,Q2,i1,h0,h0',n1,n2,b1,b2,b3,b4,b5,b6,b7,b8,b9,ba,bb,c1,c2,c3,c4,c5,c6,c7,c8,c9,ca,cb,idx,aJ,dq,pl,sQq,iQq]
theorem abg (P:List Pt) (hP:P.length<=900) (iR:∀j,(bR P j).length<=64) (i:Nat) (hi:i<P.length):∀(n k:Nat) (p:Int),k+n=P.length->p<(P.length:Int) ->
  aY an 0 (.loop BS) (Il P i p k [])=some (.exit 6,Il P i (mS P i n k p) P.length [(54,.bool false)])
 |0,k,p,hk,hp=>by
   obtain rfl:k=P.length:=by omega
   refine bt ?_;have e:mS P i 0 P.length p=p:=rfl;rw[e];unfold Il;generalize me P i p=P1 at *;unfold BS;simp[sC,sB,sy,sx,ss,sr,sk,sj,si,sg,mK,mJ,mI,mH,mG,mF,mE,mD,mC,mB,mA,mz,my,mw]
 |n+1,k,p,hk,hp=>(aV (afF P hP iR i hi p hp k (by omega))).trans (abg P hP iR i hi n (k+1) (iA P i p k) (by omega) (by unfold iA; split<;>omega))
/- ref18.arranged, as a whole. -/
def UJ (P:List Pt) (i:Nat):List Pt:=P.set i ((P.getD i (0,0,[])).1,mS P i P.length 0 (-1),bR P i)
def Xo (P:List Pt) (i:Nat) (J:Env):St:=⟨(3,.own 3 (P.map bH))::(43,.int .i64 P.length)::(44,.int .i64 i)::J,[]⟩
theorem afE (P:List Pt) (hP:P.length<=900) (iR:∀j,(bR P j).length<=64) (i:Nat) (hi:i<P.length) :
  aY an 0 S9 (Xo P i [])=some (.normal,Xo (UJ P i) (i+1) []):=by
 have lp:=abg P hP iR i hi P.length 0 (-1) (by omega) (by omega);have e1:=CB P i (pj P i) hi;have st:=Ix P i (pj P i) (-1) hi;have ee:me P i (mS P i P.length 0 (-1))=(UJ P i).map bH:=rfl;have es:(UJ P i).length=P.length:=by unfold UJ; rw[bG]
 have la:=k9 P i (pj P i);have lb:=k9 P i (-1);have hw:=dO (i:=i) (by omega);have i1:(i:Int)<P.length:=by omega
 have Q2:i<(me P i (pj P i)).length:=by rw[la]; exact hi
 have f1:∀h,(me P i (pj P i))[i]'h=bH ((P.getD i (0,0,[])).1,pj P i,bR P i):=fun h=>by
  rw[ai h] at e1;exact bm e1
 have UY:∀x,((me P i (pj P i)).set i x).take P.length=(me P i (pj P i)).set i x:=fun x=>aK (by rw[bG]; omega);have tkb:(me P i (-1)).take P.length=me P i (-1):=aK (by omega);obtain⟨b1,b2,b3,b4,b5,b6,b7,b8,b9,ba,bb⟩:=bj (bR P i);unfold Il at lp;rw[ee] at lp;unfold Xo;rw[es,<-Sj P i hi];simp only[fU] at lp;unfold bH at e1 f1 st;simp only at e1 f1 st;generalize (UJ P i).map bH=P3 at *;generalize me P i (-1)=P2 at *;generalize me P i (pj P i)=P1 at *;generalize (P.getD i (0,0,[])).1=l1 at *;generalize ints (bR P i)=S1 at *;unfold S9;simp[sC,sB,sy,sx,ss,sr,sk,sj,si,sg,mK,mJ,mI,mH,mG,mF,mE,mD,mC,mB,mA,mz,my,mw,lp,e1,f1,st,la,lb,hw,i1,hi,Q2,UY,tkb,b1,b2,b3,b4,b5,b6,b7,b8,b9,ba,bb,idx,aJ,dq,pl]
def Ag:Nat->Nat->List Pt->List Pt
 |0,_,P=>P
 |n+1,i,P=>Ag n (i+1) (UJ P i)
theorem xe (P:List Pt) (i:Nat):(UJ P i).length=P.length:=by unfold UJ; rw[bG]
theorem QK (P:List Pt) (i j:Nat) (h:i≠j):(UJ P i).getD j (0,0,[])=P.getD j (0,0,[]):=by
 unfold UJ;rw[au,List.getElem?_set_ne h,<-au]
theorem Xm (P:List Pt) (i:Nat) (hi:i<P.length):(UJ P i).getD i (0,0,[])=((P.getD i (0,0,[])).1,mS P i P.length 0 (-1),bR P i):=by
 unfold UJ;rw[au,List.getElem?_set,if_pos rfl,if_pos hi];rfl
theorem QJ (P:List Pt) (i j:Nat) (hi:i<P.length):bR (UJ P i) j=bR P j:=by
 by_cases e:i=j
 ·subst e; unfold bR; rw[Xm P i hi]; rfl
 ·unfold bR; rw[QK P i j e]
theorem aii (P:List Pt) (i j:Nat) (hi:i<P.length):yG (UJ P i) j=yG P j:=by
 by_cases e:i=j
 ·subst e; unfold yG; rw[Xm P i hi]
 ·unfold yG; rw[QK P i j e]
theorem Mi:∀(n i:Nat) (P:List Pt),i+n=P.length->(Ag n i P).length=P.length/\(∀j,bR (Ag n i P) j=bR P j)/\(∀j,yG (Ag n i P) j=yG P j)/\(∀j,j<i->pj (Ag n i P) j=pj P j)/\∀ j,i<=j->j<P.length->pj (Ag n i P) j=mS P j P.length 0 (-1)
 |0,i,P,hi=>⟨rfl,fun _=>rfl,fun _=>rfl,fun _ _=>rfl,fun j h1 h2=>by omega⟩
 |n+1,i,P,hi=>by
   have bF:i<P.length:=by omega
   obtain⟨a1,a2,a3,a4,a5⟩:=Mi n (i+1) (UJ P i) (by rw[xe]; omega);have e:Ag (n+1) i P=Ag n (i+1) (UJ P i):=rfl;rw[e];refine⟨by rw[a1,xe],fun j=>by rw[a2,QJ P i j bF],fun j=>by rw[a3,aii P i j bF],fun j hj=>?_,fun j h1 h2=>?_⟩
   ·rw[a4 j (by omega)];unfold pj;rw[QK P i j (by omega)]
   ·rcases Nat.eq_or_lt_of_le h1 with rfl|h1
    ·rw[a4 i (by omega)];unfold pj;rw[Xm P i bF]
    ·rw[a5 j h1 (by rw[xe]; exact h2),xe,tw (fun j=>QJ P i j bF)]
theorem Xn (P:List Pt):Ag P.length 0 P=yA P:=by
 obtain⟨a1,a2,a3,a4,a5⟩:=Mi P.length 0 P (by omega);apply List.ext_getElem?;intro i;by_cases hi:i<P.length
 ·have e2:(yA P)[i]?=some (yG P i,mS P i P.length 0 (-1),bR P i):=by
   unfold yA;rw[cn,List.getElem?_range hi];rfl
  rw[e2,<-a2 i,<-a3 i,<-a5 i (by omega) hi];rw[ai (by omega)];unfold yG pj bR;rw[au,ai (by omega)];rfl
 ·rw[cE (by omega),cE (by unfold yA; rw[aQ,xn]; omega)]
theorem abf:∀(n i:Nat) (P:List Pt),i+n=P.length->P.length<=900->(∀j,(bR P j).length<=64) ->
  aY an 0 (.loop S9) (Xo P i [])=some (.exit 4,Xo (Ag n i P) P.length [(45,.bool false)])
 |0,i,P,hi,hP,iR=>by
   obtain rfl:i=P.length:=by omega
   refine bt ?_;have e:Ag 0 P.length P=P:=rfl;rw[e];unfold Xo;generalize P.map bH=P1 at *;unfold S9;simp[sC,sB,sy,sx,ss,sr,sk,sj,si,sg,mK,mJ,mI,mH,mG,mF,mE,mD,mC,mB,mA,mz,my,mw]
 |n+1,i,P,hi,hP,iR=>by
   have bF:i<P.length:=by omega
   have ih:=abf n (i+1) (UJ P i) (by rw[xe]; omega) (by rw[xe]; exact hP) (fun j=>by rw[QJ P i j bF]; exact iR j);rw[xe] at ih;exact (aV (afE P hP iR i bF)).trans ih
theorem aif (Q:List Pt) (hQ:Q.length<=800) (hq:∀p∈Q,p.2.2.length<=64):bu an nQs [.list 3 (Q.map bH)] []=some (.list 3 ((yA (uc Q)).map bH),[]):=by
 have lp1:=abh Q hQ (fun p hp=>by have:=hq p hp; omega) Q.length 0 [] (by omega) rfl (fun p hp=>absurd hp List.not_mem_nil);rw[List.drop_zero] at lp1;have pm:=Ga Q [];rw[List.nil_append] at pm;have e1:Q.foldl zR []=uc Q:=rfl;rw[e1] at lp1 pm;have l1:(uc Q).length=Q.length:=pm.length_eq
 have hs:∀j,(bR (uc Q) j).length<=64:=fun j=>by
  unfold bR;by_cases h:j<(uc Q).length
  ·exact hq _ (pm.mem_iff.1 (at_mem h))
  ·rw[au,cE (by omega)];exact Nat.zero_le _
 have lp2:=abf (uc Q).length 0 (uc Q) (by omega) (by omega) hs;rw[Xn] at lp2;have l2:(yA (uc Q)).length=Q.length:=by unfold yA; rw[aQ,xn,l1]
 have lQ:(Q.map bH).length=Q.length:=aQ _;have lP:((uc Q).map bH).length=Q.length:=by rw[aQ,l1]
 have lR:((yA (uc Q)).map bH).length=Q.length:=by rw[aQ,l2]
 have tk:((yA (uc Q)).map bH).take Q.length=(yA (uc Q)).map bH:=aK (by omega);rw[eO sQs (Nat.le_of_ble_eq_true rfl)];unfold Xp at lp1;unfold Xo at lp2;rw[show ([]:List Pt).map bH=[] from rfl] at lp1;rw[l1,l2] at lp2;simp only[fU] at lp1 lp2;generalize (yA (uc Q)).map bH=R1 at *;generalize (uc Q).map bH=P1 at *;generalize Q.map bH=Q1 at *;unfold qQs cQs;simp[sC,sB,sy,sx,ss,sr,sk,sj,si,sg,mK,mJ,mI,mH,mG,mF,mE,mD,mC,mB,mA,mz,my,mw,lp1,lp2,lQ,lP,lR,tk,aJ,bM,bI,mM,dq,pl]
end Go.BmP
