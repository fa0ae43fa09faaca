/- hierarchy.Find. -/
import Derived.Test.YtpimmjklbakckaaDoorHsQ
set_option linter.unusedSimpArgs false
set_option linter.unusedVariables false
set_option maxRecDepth 100000
set_option maxHeartbeats 8000000
open List renaming getElem?_eq_getElem → aB, length_map → cS, take_of_length_le → dE
open Nat renaming le_of_ble_eq_true → aF
open Option.some renaming inj → bJ
namespace Go.BmP
open Go.Am Go.Bm
def hF (x lv:Int):Heap:=[some [.int .i64 x],some [.int .i64 lv]]
def hF3 (x lv:Int) (p:Pt):Heap:=[some [.int .i64 x],some [.int .i64 lv],some [.int .i64 p.1,.int .i64 p.2.1,.list 1 (ints p.2.2)]]
theorem TT (x lv:Int) (p:Pt) (hp:p.2.2.length<=100000):bS aD nQw [en p,.ptr 1 0,.ptr 0 0] (hF3 x lv p)=some (.bool (decide (p.1<=lv)&&decide (x∈p.2.2)),hF3 x lv p):=by
 obtain⟨a,b,s⟩:=p;have nh:=D6 x s (by simp at hp; omega);obtain⟨b1,b2,b3,b4,b5,b6,b7,b8,b9,ba,bb⟩:=bT s;rw[fZ sQw (aF rfl)];unfold hF3 en;simp only;generalize decide (x∈s)=D at *;generalize ints s=S1 at *;unfold qQw cQw;by_cases q:a<=lv
 ·simp[Vb,Va,nh,q,b1,b2,b3,b4,b5,b6,b7,b8,b9,ba,bb,uF,aN,qA,cB,bU,ku,kK,fo,eC,pl,gQ,dh,kS,lQ,eU,eB,cT,ft,hU,nn,eV,mP,mQ,il,sQv,iQv]
 ·simp[Vb,Va,nh,q,b1,b2,b3,b4,b5,b6,b7,b8,b9,ba,bb,uF,aN,qA,cB,bU,ku,kK,fo,eC,pl,gQ,dh,kS,lQ,eU,eB,cT,ft,hU,nn,eV,mP,mQ,il,sQv,iQv]
def I0:AV:=.func (.func nQw) [] [.ptr 1 0,.ptr 0 0]
def F8 (x lv:Int) (Pv:List AV) (n:Nat) (a:Int) (i:Int) (J:Env):St:=⟨(0,.list 3 Pv)::(1,I0)::(5,.int .i64 a)::(8,.list 3 Pv)::(9,.int .i64 n)::(10,.int .i64 i)::J,hF x lv⟩
theorem DF (P:List Pt) (i:Nat) (hi:i<P.length):(P.map en)[i]?=some (.agg [.int .i64 (nE P i),.int .i64 (mT P i),.list 1 (ints (cq P i))]):=by
 unfold nE mT cq;rw[List.getElem?_map,List.getD_eq_getElem?_getD,aB hi];rfl
theorem XO (x lv:Int) (P:List Pt) (hP:P.length<=900) (hs:∀j,(cq P j).length<=64) (i:Nat) (hi:i<P.length) (a:Int) (ha:a=-1\/(0<=a/\a<i)) :
  bh aD 2 qN (F8 x lv (P.map en) P.length a i [])=some (.normal,F8 x lv (P.map en) P.length (B8 P (rb P x lv) a i) (i+1:Nat) []):=by
 have k1:(i:Int)<P.length:=by omega
 have hw:=fT (i:=i) (by omega);have g3:=DF P i hi;have ll:(P.map en).length=P.length:=cS _;have bY:i<(P.map en).length:=by omega
 have g4:∀h,(P.map en)[i]'h=.agg [.int .i64 (nE P i),.int .i64 (mT P i),.list 1 (ints (cq P i))]:=fun h=>by
  rw[aB h] at g3;exact bJ g3
 have fr:=TT x lv (nE P i,mT P i,cq P i) (by have:=hs i; simp; omega);have ek:(decide (nE P i<=lv)&&decide (x∈cq P i))=rb P x lv i:=rfl;obtain⟨b1,b2,b3,b4,b5,b6,b7,b8,b9,ba,bb⟩:=bT (cq P i);unfold hF3 en at fr;simp only[ek] at fr;cases hk:rb P x lv i with
 |false=>
   have e:B8 P (rb P x lv) a i=a:=by unfold B8; rw[hk]; rfl
   rw[e];rw[hk] at fr;unfold F8 hF I0;generalize P.map en=Pv at *;generalize ints (cq P i)=S1 at *;generalize nE P i=l1 at *;unfold qN;simp[sS,sR,sQ,sP,sO,sN,sM,sK,sJ,k1,hw,g3,g4,ll,bY,hi,fr,b1,b2,b3,b4,b5,b6,b7,b8,b9,ba,bb,idx,uF,aN,qA,bU,ku,kK,fo,eC,pl,gQ,dh,kS,lQ,eU,eB,cT,ft,hU,nn,eV,mP,mQ,il,sQw,iQw]
 |true=>
   rw[hk] at fr;by_cases q:a<0
   ·have e:B8 P (rb P x lv) a i=i:=by unfold B8; rw[hk]; simp[q]
    rw[e];unfold F8 hF I0;generalize P.map en=Pv at *;generalize ints (cq P i)=S1 at *;generalize nE P i=l1 at *;unfold qN;simp[sS,sR,sQ,sP,sO,sN,sM,sK,sJ,k1,hw,g3,g4,ll,bY,hi,fr,q,b1,b2,b3,b4,b5,b6,b7,b8,b9,ba,bb,idx,uF,aN,qA,bU,ku,kK,fo,eC,pl,gQ,dh,kS,lQ,eU,eB,cT,ft,hU,nn,eV,mP,mQ,il,sQw,iQw]
   ·have a0:0<=a:=by omega
    have ai:a<i:=by omega
    have an:a.toNat<P.length:=by omega
    have f3:=DF P a.toNat an;have flt:a.toNat<(P.map en).length:=by omega
    have f4:∀h,(P.map en)[a.toNat]'h=.agg [.int .i64 (nE P a.toNat),.int .i64 (mT P a.toNat),.list 1 (ints (cq P a.toNat))]:=fun h=>by
     rw[aB h] at f3;exact bJ f3
    have aP:a<(P.length:Int):=by omega
    by_cases z:nE P a.toNat<=nE P i
    ·have e:B8 P (rb P x lv) a i=i:=by unfold B8; rw[hk]; simp[z]
     rw[e];unfold F8 hF I0;generalize P.map en=Pv at *;generalize ints (cq P i)=S1 at *;generalize nE P i=l1 at *;generalize Xr:a.toNat=pn at *;generalize ints (cq P pn)=S3 at *;generalize nE P pn=l3 at *;unfold qN;simp[sS,sR,sQ,sP,sO,sN,sM,sK,sJ,k1,hw,g3,g4,ll,bY,hi,fr,q,a0,ai,an,f3,f4,flt,aP,z,Xr,b1,b2,b3,b4,b5,b6,b7,b8,b9,ba,bb,idx,uF,aN,qA,bU,ku,kK,fo,eC,pl,gQ,dh,kS,lQ,eU,eB,cT,ft,hU,nn,eV,mP,mQ,il,sQw,iQw]
    ·have e:B8 P (rb P x lv) a i=a:=by unfold B8; rw[hk]; simp[z,q]
     rw[e];unfold F8 hF I0;generalize P.map en=Pv at *;generalize ints (cq P i)=S1 at *;generalize nE P i=l1 at *;generalize Xr:a.toNat=pn at *;generalize ints (cq P pn)=S3 at *;generalize nE P pn=l3 at *;unfold qN;simp[sS,sR,sQ,sP,sO,sN,sM,sK,sJ,k1,hw,g3,g4,ll,bY,hi,fr,q,a0,ai,an,f3,f4,flt,aP,z,Xr,b1,b2,b3,b4,b5,b6,b7,b8,b9,ba,bb,idx,uF,aN,qA,bU,ku,kK,fo,eC,pl,gQ,dh,kS,lQ,eU,eB,cT,ft,hU,nn,eV,mP,mQ,il,sQw,iQw]
theorem Sa (x lv:Int) (P:List Pt) (hP:P.length<=900) (hs:∀j,(cq P j).length<=64):∀(n i:Nat) (a:Int),i+n=P.length->(a=-1\/(0<=a/\a<i)) ->
  bh aD 2 (.loop qN) (F8 x lv (P.map en) P.length a i [])=some (.exit 0,F8 x lv (P.map en) P.length (o7 P (rb P x lv) n i a) P.length [(11,.bool false)])
 |0,i,a,hi,ha=>by
   obtain rfl:i=P.length:=by omega
   refine cv ?_;have e:o7 P (rb P x lv) 0 P.length a=a:=rfl;rw[e];unfold F8 hF I0;generalize P.map en=Pv at *;unfold qN;simp[sS,sR,sQ,sP,sO,sN,sM,sK,sJ]
 |n+1,i,a,hi,ha=>(bI (XO x lv P hP hs i (by omega) a ha)).trans (Sa x lv P hP hs n (i+1) (B8 P (rb P x lv) a i) (by omega) (by
   unfold B8;split
   ·right; omega
   ·rcases ha with h|h
    ·exact .inl h
    ·right; omega))
theorem G5 (x lv:Int) (P:List Pt) (hP:P.length<=900) (hs:∀j,(cq P j).length<=64):bS aD nQi [.list 3 (P.map en),.int .i64 x,.int .i64 lv] []=some (.int .i64 (o7 P (rb P x lv) P.length 0 (-1)),[]):=by
 have lp:=Sa x lv P hP hs P.length 0 (-1) (by omega) (.inl rfl);have ll:(P.map en).length=P.length:=cS _
 have br:bS aD nQt [.list 3 (P.map en),I0] (hF x lv)=some (.int .i64 (o7 P (rb P x lv) P.length 0 (-1)),hF x lv):=by
  rw[fZ sQt (aF rfl)];unfold F8 hF I0 at *;simp only[mB] at lp;generalize o7 P (rb P x lv) P.length 0 (-1)=z at *;generalize P.map en=Pv at *;unfold qQt cQt;simp[sS,sR,sQ,sP,sO,sN,sM,sK,sJ,lp,ll,uF,aN,qA,cB,bU,ku,kK,fo,eC,pl,gQ,dh,kS,lQ,eU,eB,cT,ft,hU,nn,eV,mP,mQ,il]
 rw[fZ sQi (aF rfl)];obtain⟨g1,g2,g3,g4,g5,g6,g7,g8⟩:=Eh P;unfold hF I0 at *;generalize o7 P (rb P x lv) P.length 0 (-1)=z at *;generalize P.map en=Pv at *;unfold qQi cQi;simp[abd,abc,br,ll,g1,g2,g3,g4,g5,g6,g7,g8,uF,aN,qA,cB,bU,ku,kK,fo,eC,pl,gQ,dh,kS,lQ,eU,eB,cT,ft,hU,nn,eV,mP,mQ,il,sQt,iQt]
/- hierarchy.Shared, hierarchy.Path. -/
theorem JO (x y:Int) (p:Pt) (hp:p.2.2.length<=100000):bS aD nQu [en p,.ptr 0 0,.ptr 1 0] (hF3 x y p)=some (.bool (decide (x∈p.2.2)&&decide (y∈p.2.2)),hF3 x y p):=by
 obtain⟨a,b,s⟩:=p;have nx:=D6 x s (by simp at hp; omega);have ny:=D6 y s (by simp at hp; omega);obtain⟨b1,b2,b3,b4,b5,b6,b7,b8,b9,ba,bb⟩:=bT s;rw[fZ sQu (aF rfl)];unfold hF3 en;simp only;generalize decide (x∈s)=D at *;generalize decide (y∈s)=D2 at *;generalize ints s=S1 at *;unfold qQu cQu;cases D
 ·simp[Vd,Vc,nx,ny,b1,b2,b3,b4,b5,b6,b7,b8,b9,ba,bb,uF,aN,qA,cB,bU,ku,kK,fo,eC,pl,gQ,dh,kS,lQ,eU,eB,cT,ft,hU,nn,eV,mP,mQ,il,sQv,iQv]
 ·simp[Vd,Vc,nx,ny,b1,b2,b3,b4,b5,b6,b7,b8,b9,ba,bb,uF,aN,qA,cB,bU,ku,kK,fo,eC,pl,gQ,dh,kS,lQ,eU,eB,cT,ft,hU,nn,eV,mP,mQ,il,sQv,iQv]
def IZ:AV:=.func (.func nQu) [] [.ptr 0 0,.ptr 1 0]
def F7 (x y:Int) (Pv:List AV) (n:Nat) (a:Int) (i:Int) (J:Env):St:=⟨(0,.list 3 Pv)::(1,IZ)::(5,.int .i64 a)::(8,.list 3 Pv)::(9,.int .i64 n)::(10,.int .i64 i)::J,hF x y⟩
theorem XN (x y:Int) (P:List Pt) (hP:P.length<=900) (hs:∀j,(cq P j).length<=64) (i:Nat) (hi:i<P.length) (a:Int) (ha:a=-1\/(0<=a/\a<i)) :
  bh aD 2 qN (F7 x y (P.map en) P.length a i [])=some (.normal,F7 x y (P.map en) P.length (B8 P (Eo P x y) a i) (i+1:Nat) []):=by
 have k1:(i:Int)<P.length:=by omega
 have hw:=fT (i:=i) (by omega);have g3:=DF P i hi;have ll:(P.map en).length=P.length:=cS _;have bY:i<(P.map en).length:=by omega
 have g4:∀h,(P.map en)[i]'h=.agg [.int .i64 (nE P i),.int .i64 (mT P i),.list 1 (ints (cq P i))]:=fun h=>by
  rw[aB h] at g3;exact bJ g3
 have fr:=JO x y (nE P i,mT P i,cq P i) (by have:=hs i; simp; omega);have ek:(decide (x∈cq P i)&&decide (y∈cq P i))=Eo P x y i:=rfl;obtain⟨b1,b2,b3,b4,b5,b6,b7,b8,b9,ba,bb⟩:=bT (cq P i);unfold hF3 en at fr;simp only[ek] at fr;cases hk:Eo P x y i with
 |false=>
   have e:B8 P (Eo P x y) a i=a:=by unfold B8; rw[hk]; rfl
   rw[e];rw[hk] at fr;unfold F7 hF IZ;generalize P.map en=Pv at *;generalize ints (cq P i)=S1 at *;generalize nE P i=l1 at *;unfold qN;simp[sS,sR,sQ,sP,sO,sN,sM,sK,sJ,k1,hw,g3,g4,ll,bY,hi,fr,b1,b2,b3,b4,b5,b6,b7,b8,b9,ba,bb,idx,uF,aN,qA,bU,ku,kK,fo,eC,pl,gQ,dh,kS,lQ,eU,eB,cT,ft,hU,nn,eV,mP,mQ,il,sQu,iQu]
 |true=>
   rw[hk] at fr;by_cases q:a<0
   ·have e:B8 P (Eo P x y) a i=i:=by unfold B8; rw[hk]; simp[q]
    rw[e];unfold F7 hF IZ;generalize P.map en=Pv at *;generalize ints (cq P i)=S1 at *;generalize nE P i=l1 at *;unfold qN;simp[sS,sR,sQ,sP,sO,sN,sM,sK,sJ,k1,hw,g3,g4,ll,bY,hi,fr,q,b1,b2,b3,b4,b5,b6,b7,b8,b9,ba,bb,idx,uF,aN,qA,bU,ku,kK,fo,eC,pl,gQ,dh,kS,lQ,eU,eB,cT,ft,hU,nn,eV,mP,mQ,il,sQu,iQu]
   ·have a0:0<=a:=by omega
    have ai:a<i:=by omega
    have an:a.toNat<P.length:=by omega
    have f3:=DF P a.toNat an;have flt:a.toNat<(P.map en).length:=by omega
    have f4:∀h,(P.map en)[a.toNat]'h=.agg [.int .i64 (nE P a.toNat),.int .i64 (mT P a.toNat),.list 1 (ints (cq P a.toNat))]:=fun h=>by
     rw[aB h] at f3;exact bJ f3
    have aP:a<(P.length:Int):=by omega
    by_cases z:nE P a.toNat<=nE P i
    ·have e:B8 P (Eo P x y) a i=i:=by unfold B8; rw[hk]; simp[z]
     rw[e];unfold F7 hF IZ;generalize P.map en=Pv at *;generalize ints (cq P i)=S1 at *;generalize nE P i=l1 at *;generalize Xr:a.toNat=pn at *;generalize ints (cq P pn)=S3 at *;generalize nE P pn=l3 at *;unfold qN;simp[sS,sR,sQ,sP,sO,sN,sM,sK,sJ,k1,hw,g3,g4,ll,bY,hi,fr,q,a0,ai,an,f3,f4,flt,aP,z,Xr,b1,b2,b3,b4,b5,b6,b7,b8,b9,ba,bb,idx,uF,aN,qA,bU,ku,kK,fo,eC,pl,gQ,dh,kS,lQ,eU,eB,cT,ft,hU,nn,eV,mP,mQ,il,sQu,iQu]
    ·have e:B8 P (Eo P x y) a i=a:=by unfold B8; rw[hk]; simp[z,q]
     rw[e];unfold F7 hF IZ;generalize P.map en=Pv at *;generalize ints (cq P i)=S1 at *;generalize nE P i=l1 at *;generalize Xr:a.toNat=pn at *;generalize ints (cq P pn)=S3 at *;generalize nE P pn=l3 at *;unfold qN;simp[sS,sR,sQ,sP,sO,sN,sM,sK,sJ,k1,hw,g3,g4,ll,bY,hi,fr,q,a0,ai,an,f3,f4,flt,aP,z,Xr,b1,b2,b3,b4,b5,b6,b7,b8,b9,ba,bb,idx,uF,aN,qA,bU,ku,kK,fo,eC,pl,gQ,dh,kS,lQ,eU,eB,cT,ft,hU,nn,eV,mP,mQ,il,sQu,iQu]
theorem R9 (x y:Int) (P:List Pt) (hP:P.length<=900) (hs:∀j,(cq P j).length<=64):∀(n i:Nat) (a:Int),i+n=P.length->(a=-1\/(0<=a/\a<i)) ->
  bh aD 2 (.loop qN) (F7 x y (P.map en) P.length a i [])=some (.exit 0,F7 x y (P.map en) P.length (o7 P (Eo P x y) n i a) P.length [(11,.bool false)])
 |0,i,a,hi,ha=>by
   obtain rfl:i=P.length:=by omega
   refine cv ?_;have e:o7 P (Eo P x y) 0 P.length a=a:=rfl;rw[e];unfold F7 hF IZ;generalize P.map en=Pv at *;unfold qN;simp[sS,sR,sQ,sP,sO,sN,sM,sK,sJ]
 |n+1,i,a,hi,ha=>(bI (XN x y P hP hs i (by omega) a ha)).trans (R9 x y P hP hs n (i+1) (B8 P (Eo P x y) a i) (by omega) (by
   unfold B8;split
   ·right; omega
   ·rcases ha with h|h
    ·exact .inl h
    ·right; omega))
theorem Lv (x y:Int) (P:List Pt) (hP:P.length<=900) (hs:∀j,(cq P j).length<=64):bS aD nQg [.list 3 (P.map en),.int .i64 x,.int .i64 y] []=some (.int .i64 (o7 P (Eo P x y) P.length 0 (-1)),[]):=by
 have lp:=R9 x y P hP hs P.length 0 (-1) (by omega) (.inl rfl);have ll:(P.map en).length=P.length:=cS _
 have br:bS aD nQt [.list 3 (P.map en),IZ] (hF x y)=some (.int .i64 (o7 P (Eo P x y) P.length 0 (-1)),hF x y):=by
  rw[fZ sQt (aF rfl)];unfold F7 hF IZ at *;simp only[mB] at lp;generalize o7 P (Eo P x y) P.length 0 (-1)=z at *;generalize P.map en=Pv at *;unfold qQt cQt;simp[sS,sR,sQ,sP,sO,sN,sM,sK,sJ,lp,ll,uF,aN,qA,cB,bU,ku,kK,fo,eC,pl,gQ,dh,kS,lQ,eU,eB,cT,ft,hU,nn,eV,mP,mQ,il]
 rw[fZ sQg (aF rfl)];obtain⟨g1,g2,g3,g4,g5,g6,g7,g8⟩:=Eh P;unfold hF IZ at *;generalize o7 P (Eo P x y) P.length 0 (-1)=z at *;generalize P.map en=Pv at *;unfold qQg cQg;simp[abf,abe,br,ll,g1,g2,g3,g4,g5,g6,g7,g8,uF,aN,qA,cB,bU,ku,kK,fo,eC,pl,gQ,dh,kS,lQ,eU,eB,cT,ft,hU,nn,eV,mP,mQ,il,sQt,iQt]
def YV (Pv:List AV) (a:Int) (o:List Int) (J:Env):St:=⟨(0,.list 3 Pv)::(1,.int .i64 a)::(5,.own 1 (ints o))::J,[]⟩
theorem QO (P:List Pt) (hP:P.length<=900):∀(n a:Nat) (o:List Int) (J:Env),(J=[]\/J=[(14,.bool false)])->a<n->a<P.length->o.length+n<=2000 ->
  bh aD 0 (.loop Rw) (YV (P.map en) a o J)=some (.ret,⟨[(4,.own 1 (ints (o++fx P n a)))],[]⟩)
 |0,a,o,J,_,h,_,_=>by omega
 |n+1,a,o,J,hJ,h,ha,ho=>by
   have g3:=DF P a ha;have ll:(P.map en).length=P.length:=cS _;have bY:a<(P.map en).length:=by omega
   have aP:(a:Int)<P.length:=by omega
   have g4:∀h,(P.map en)[a]'h=.agg [.int .i64 (nE P a),.int .i64 (mT P a),.list 1 (ints (cq P a))]:=fun h=>by
    rw[aB h] at g3;exact bJ g3
   have ea:((a:Nat):Int).toNat=a:=by omega
   have lo:=ah o;have le1:o.length+1<=4294967296:=by omega
   have tk:(ints o++[AV.int .i64 (a:Int)]).take (o.length+1)=ints (o++[(a:Int)]):=by rw[fY,dE (by rw[ah]; simp)]
   have tko:(ints o).take o.length=ints o:=dE (by omega);have sn:=fY o (a:Int);unfold fx;rw[ea];obtain⟨b1,b2,b3,b4,b5,b6,b7,b8,b9,ba,bb⟩:=bT (cq P a);by_cases q:mT P a<0\/(a:Int)<=mT P a
   ·rw[if_pos q];refine fF ?_;unfold YV;generalize ints (o++[(a:Int)])=O2 at *;generalize ints o=O1 at *;generalize P.map en=Pv at *;generalize ints (cq P a)=S1 at *;unfold Rw;by_cases q1:mT P a<0
    ·rcases hJ with rfl|rfl<;>simp[Kh,Kg,Kf,Ke,Kc,Kb,Ka,J9,J8,g3,g4,ll,bY,ha,aP,lo,le1,p7,tk,tko,sn,q1,b1,b2,b3,b4,b5,b6,b7,b8,b9,ba,bb,idx,aN]
    ·have q2:(a:Int)<=mT P a:=by omega
     rcases hJ with rfl|rfl<;>simp[Kh,Kg,Kf,Ke,Kc,Kb,Ka,J9,J8,g3,g4,ll,bY,ha,aP,lo,le1,p7,tk,tko,sn,q1,q2,b1,b2,b3,b4,b5,b6,b7,b8,b9,ba,bb,idx,aN]
   ·rw[if_neg q];rw[not_or] at q;obtain⟨p,ep⟩:∃p:Nat,mT P a=(p:Int):=⟨(mT P a).toNat,by omega⟩;rw[ep] at g3 g4 q ⊢;have ih:=QO P hP n p (o++[(a:Int)]) [] (.inl rfl) (by omega) (by omega) (by simp; omega);rw[List.append_assoc] at ih;refine (bI ?_).trans ih;clear ih;have q1:¬(p:Int)<0:=by omega
    have q2:¬(a:Int)<=p:=by omega
    unfold YV;generalize ints (o++[(a:Int)])=O2 at *;generalize ints o=O1 at *;generalize P.map en=Pv at *;generalize ints (cq P a)=S1 at *;unfold Rw;rcases hJ with rfl|rfl<;>simp[Kh,Kg,Kf,Ke,Kc,Kb,Ka,J9,J8,g3,g4,ll,bY,ha,aP,lo,le1,p7,tk,tko,sn,q1,q2,b1,b2,b3,b4,b5,b6,b7,b8,b9,ba,bb,idx,aN]
theorem G4 (P:List Pt) (hP:P.length<=900) (a:Int) (h0:0<=a) (h1:a<(P.length:Int)):bS aD nQh [.list 3 (P.map en),.int .i64 a] []=some (.list 1 (ints (fx P P.length a)),[]):=by
 obtain⟨n,rfl⟩:∃n:Nat,a=(n:Int):=⟨a.toNat,by omega⟩;have lp:=QO P hP P.length n [] [(14,.bool false)] (.inr rfl) (by omega) (by omega) (by simp; omega);rw[List.nil_append] at lp;have ll:(P.map en).length=P.length:=cS _;have q1:¬(n:Int)<0:=by omega
 have q2:¬(P.length:Int)<=n:=by omega
 have q3:¬P.length<=n:=by omega
 rw[fZ sQh (aF rfl)];unfold YV at lp;rw[show ints []=[] from rfl] at lp;generalize ints (fx P P.length n)=O1 at *;generalize P.map en=Pv at *;unfold qQh cQh;simp[Kh,Kg,Kf,Ke,Kc,Kb,Ka,J9,J8,lp,ll,q1,q2,q3,aN,cB,bU,ku,kK,fo,eC,pl]
/- HierarchyNests: the example of chapter 18, and the graph without nodes. -/
def isBH (b:Bool):Option (AV × Heap)->Bool
 |some (.bool c,[])=>b == c
 |_=>false
theorem ZC {b:Bool} {r:Option (AV × Heap)} (h:isBH b r=true):r=some (.bool b,[]):=by
 unfold isBH at h;split at h
 ·rw[eq_of_beq h]
 ·cases h
theorem adB:isBH true (kA aD 2000 Zl [] [])=true:=by kernel_rfl
theorem aw18:bS aD Zl [] []=some (.bool true,[]):=gH.2 ⟨2000,ZC adB⟩
def isT0:Option (AV × Heap)->Bool
 |some (.dA [.list 3 [],.int .i64 0],[])=>true
 |_=>false
theorem ZA {r:Option (AV × Heap)} (h:isT0 r=true):r=some (.dA [.list 3 [],.int .i64 0],[]):=by
 unfold isT0 at h;split at h
 ·rfl
 ·cases h
theorem afz:isT0 (kA aD 300 Yc [.agg [.int .i64 0,.list 2 []]] [])=true:=by kernel_rfl
theorem Om:bS aD Yc [.agg [.int .i64 0,.list 2 []]] []=some (.dA [.list 3 [],.int .i64 0],[]):=gH.2 ⟨300,ZA afz⟩
end Go.BmP
