/- hierarchy.Find. -/
import Derived.Test.YtbnheahpdodmjabGreatDoorHkR
set_option linter.unusedSimpArgs false
set_option linter.unusedVariables false
set_option maxRecDepth 100000
set_option maxHeartbeats 8000000
open List renaming getElem?_eq_getElem → aj, length_map → aX, take_of_length_le → aT
open Nat renaming le_of_ble_eq_true → au
open Option.some renaming inj → bj
namespace Go.BmP
open Go.Am Go.Bm
def hF (x lv:Int):Heap:=[some [.int .i64 x],some [.int .i64 lv]]
def hF3 (x lv:Int) (p:Pt):Heap:=[some [.int .i64 x],some [.int .i64 lv],some [.int .i64 p.1,.int .i64 p.2.1,.list 1 (ints p.2.2)]]
theorem adl (x lv:Int) (p:Pt) (hp:p.2.2.length<=100000):bJ aq nQB [bw p,.ptr 1 0,.ptr 0 0] (hF3 x lv p)=some (.bool (decide (p.1<=lv)&&decide (x∈p.2.2)),hF3 x lv p):=by
 obtain⟨a,b,s⟩:=p;have nh:=LG x s (by simp at hp; omega);obtain⟨b1,b2,b3,b4,b5,b6,b7,b8,b9,ba,bb⟩:=bg s;rw[dZ sQB (au rfl)];unfold hF3 bw;simp only;generalize decide (x∈s)=D at *;generalize ints s=S1 at *;unfold qQB cQB;by_cases q:a<=lv
 ·simp[aeW,aeV,nh,q,b1,b2,b3,b4,b5,b6,b7,b8,b9,ba,bb,kB,aH,gn,bL,bC,eR,fW,dm,dc,pl,fx,cN,jD,jC,dn,de,bX,dB,eX,iH,dJ,iC,ke,fI,sQC,iQC]
 ·simp[aeW,aeV,nh,q,b1,b2,b3,b4,b5,b6,b7,b8,b9,ba,bb,kB,aH,gn,bL,bC,eR,fW,dm,dc,pl,fx,cN,jD,jC,dn,de,bX,dB,eX,iH,dJ,iC,ke,fI,sQC,iQC]
def RY:AV:=.func (.func nQB) [] [.ptr 1 0,.ptr 0 0]
def Od (x lv:Int) (Pv:List AV) (n:Nat) (a:Int) (i:Int) (J:Env):St:=⟨(0,.list 3 Pv)::(1,RY)::(5,.int .i64 a)::(8,.list 3 Pv)::(9,.int .i64 n)::(10,.int .i64 i)::J,hF x lv⟩
theorem px (P:List Pt) (i:Nat) (hi:i<P.length):(P.map bw)[i]?=some (.agg [.int .i64 (iJ P i),.int .i64 (ij P i),.list 1 (ints (bM P i))]):=by
 unfold iJ ij bM;rw[List.getElem?_map,List.getD_eq_getElem?_getD,aj hi];rfl
theorem aha (x lv:Int) (P:List Pt) (hP:P.length<=900) (hs:∀j,(bM P j).length<=64) (i:Nat) (hi:i<P.length) (a:Int) (ha:a=-1\/(0<=a/\a<i)) :
  aW aq 2 ux (Od x lv (P.map bw) P.length a i [])=some (.normal,Od x lv (P.map bw) P.length (tn P (DS P x lv) a i) (i+1:Nat) []):=by
 have k1:(i:Int)<P.length:=by omega
 have hw:=dA (i:=i) (by omega);have g3:=px P i hi;have ll:(P.map bw).length=P.length:=aX _;have bE:i<(P.map bw).length:=by omega
 have g4:∀h,(P.map bw)[i]'h=.agg [.int .i64 (iJ P i),.int .i64 (ij P i),.list 1 (ints (bM P i))]:=fun h=>by
  rw[aj h] at g3;exact bj g3
 have fr:=adl x lv (iJ P i,ij P i,bM P i) (by have:=hs i; simp; omega);have ek:(decide (iJ P i<=lv)&&decide (x∈bM P i))=DS P x lv i:=rfl;obtain⟨b1,b2,b3,b4,b5,b6,b7,b8,b9,ba,bb⟩:=bg (bM P i);unfold hF3 bw at fr;simp only[ek] at fr;cases hk:DS P x lv i with
 |false=>
   have e:tn P (DS P x lv) a i=a:=by unfold tn; rw[hk]; rfl
   rw[e];rw[hk] at fr;unfold Od hF RY;generalize P.map bw=Pv at *;generalize ints (bM P i)=S1 at *;generalize iJ P i=l1 at *;unfold ux;simp[wh,wg,we,wc,wa,v8,v7,vZ,vY,k1,hw,g3,g4,ll,bE,hi,fr,b1,b2,b3,b4,b5,b6,b7,b8,b9,ba,bb,idx,kB,aH,gn,bC,eR,fW,dm,dc,pl,fx,cN,jD,jC,dn,de,bX,dB,eX,iH,dJ,iC,ke,fI,sQB,iQB]
 |true=>
   rw[hk] at fr;by_cases q:a<0
   ·have e:tn P (DS P x lv) a i=i:=by unfold tn; rw[hk]; simp[q]
    rw[e];unfold Od hF RY;generalize P.map bw=Pv at *;generalize ints (bM P i)=S1 at *;generalize iJ P i=l1 at *;unfold ux;simp[wh,wg,we,wc,wa,v8,v7,vZ,vY,k1,hw,g3,g4,ll,bE,hi,fr,q,b1,b2,b3,b4,b5,b6,b7,b8,b9,ba,bb,idx,kB,aH,gn,bC,eR,fW,dm,dc,pl,fx,cN,jD,jC,dn,de,bX,dB,eX,iH,dJ,iC,ke,fI,sQB,iQB]
   ·have a0:0<=a:=by omega
    have ai:a<i:=by omega
    have an:a.toNat<P.length:=by omega
    have f3:=px P a.toNat an;have flt:a.toNat<(P.map bw).length:=by omega
    have f4:∀h,(P.map bw)[a.toNat]'h=.agg [.int .i64 (iJ P a.toNat),.int .i64 (ij P a.toNat),.list 1 (ints (bM P a.toNat))]:=fun h=>by
     rw[aj h] at f3;exact bj f3
    have aP:a<(P.length:Int):=by omega
    by_cases z:iJ P a.toNat<=iJ P i
    ·have e:tn P (DS P x lv) a i=i:=by unfold tn; rw[hk]; simp[z]
     rw[e];unfold Od hF RY;generalize P.map bw=Pv at *;generalize ints (bM P i)=S1 at *;generalize iJ P i=l1 at *;generalize ME:a.toNat=pn at *;generalize ints (bM P pn)=S3 at *;generalize iJ P pn=l3 at *;unfold ux;simp[wh,wg,we,wc,wa,v8,v7,vZ,vY,k1,hw,g3,g4,ll,bE,hi,fr,q,a0,ai,an,f3,f4,flt,aP,z,ME,b1,b2,b3,b4,b5,b6,b7,b8,b9,ba,bb,idx,kB,aH,gn,bC,eR,fW,dm,dc,pl,fx,cN,jD,jC,dn,de,bX,dB,eX,iH,dJ,iC,ke,fI,sQB,iQB]
    ·have e:tn P (DS P x lv) a i=a:=by unfold tn; rw[hk]; simp[z,q]
     rw[e];unfold Od hF RY;generalize P.map bw=Pv at *;generalize ints (bM P i)=S1 at *;generalize iJ P i=l1 at *;generalize ME:a.toNat=pn at *;generalize ints (bM P pn)=S3 at *;generalize iJ P pn=l3 at *;unfold ux;simp[wh,wg,we,wc,wa,v8,v7,vZ,vY,k1,hw,g3,g4,ll,bE,hi,fr,q,a0,ai,an,f3,f4,flt,aP,z,ME,b1,b2,b3,b4,b5,b6,b7,b8,b9,ba,bb,idx,kB,aH,gn,bC,eR,fW,dm,dc,pl,fx,cN,jD,jC,dn,de,bX,dB,eX,iH,dJ,iC,ke,fI,sQB,iQB]
theorem acv (x lv:Int) (P:List Pt) (hP:P.length<=900) (hs:∀j,(bM P j).length<=64):∀(n i:Nat) (a:Int),i+n=P.length->(a=-1\/(0<=a/\a<i)) ->
  aW aq 2 (.loop ux) (Od x lv (P.map bw) P.length a i [])=some (.exit 0,Od x lv (P.map bw) P.length (MY P (DS P x lv) n i a) P.length [(11,.bool false)])
 |0,i,a,hi,ha=>by
   obtain rfl:i=P.length:=by omega
   refine bn ?_;have e:MY P (DS P x lv) 0 P.length a=a:=rfl;rw[e];unfold Od hF RY;generalize P.map bw=Pv at *;unfold ux;simp[wh,wg,we,wc,wa,v8,v7,vZ,vY]
 |n+1,i,a,hi,ha=>(aS (aha x lv P hP hs i (by omega) a ha)).trans (acv x lv P hP hs n (i+1) (tn P (DS P x lv) a i) (by omega) (by
   unfold tn;split
   ·right; omega
   ·rcases ha with h|h
    ·exact .inl h
    ·right; omega))
theorem adg (x lv:Int) (P:List Pt) (hP:P.length<=900) (hs:∀j,(bM P j).length<=64):bJ aq nQg [.list 3 (P.map bw),.int .i64 x,.int .i64 lv] []=some (.int .i64 (MY P (DS P x lv) P.length 0 (-1)),[]):=by
 have lp:=acv x lv P hP hs P.length 0 (-1) (by omega) (.inl rfl);have ll:(P.map bw).length=P.length:=aX _
 have br:bJ aq nQA [.list 3 (P.map bw),RY] (hF x lv)=some (.int .i64 (MY P (DS P x lv) P.length 0 (-1)),hF x lv):=by
  rw[dZ sQA (au rfl)];unfold Od hF RY at *;simp only[fH] at lp;generalize MY P (DS P x lv) P.length 0 (-1)=z at *;generalize P.map bw=Pv at *;unfold qQA cQA;simp[wh,wg,we,wc,wa,v8,v7,vZ,vY,lp,ll,kB,aH,gn,bL,bC,eR,fW,dm,dc,pl,fx,cN,jD,jC,dn,de,bX,dB,eX,iH,dJ,iC,ke,fI]
 rw[dZ sQg (au rfl)];obtain⟨g1,g2,g3,g4,g5,g6,g7,g8⟩:=jf P;unfold hF RY at *;generalize MY P (DS P x lv) P.length 0 (-1)=z at *;generalize P.map bw=Pv at *;unfold qQg cQg;simp[akg,akf,br,ll,g1,g2,g3,g4,g5,g6,g7,g8,kB,aH,gn,bL,bC,eR,fW,dm,dc,pl,fx,cN,jD,jC,dn,de,bX,dB,eX,iH,dJ,iC,ke,fI,sQA,iQA]
/- What two nodes share in the hierarchy of cores, plain. -/
set_option linter.unusedSectionVars false
def DT (P:List Pt) (x y:Int) (i:Nat):Bool:=decide (x∈bM P i)&&decide (y∈bM P i)
section
variable {A:List Nat} {N:Nat} {L:List Int} {P:List Pt} (hS:GK A) (hN:N<=64) (hL:rG A N L) (hx:∀x∈L,x<=64) (h:HOK2 A N L P)
include hS hN hL hx h
end
/- hierarchy.Shared, hierarchy.Path. -/
theorem S4 (x y:Int) (p:Pt) (hp:p.2.2.length<=100000):bJ aq nQE [bw p,.ptr 0 0,.ptr 1 0] (hF3 x y p)=some (.bool (decide (x∈p.2.2)&&decide (y∈p.2.2)),hF3 x y p):=by
 obtain⟨a,b,s⟩:=p;have nx:=LG x s (by simp at hp; omega);have ny:=LG y s (by simp at hp; omega);obtain⟨b1,b2,b3,b4,b5,b6,b7,b8,b9,ba,bb⟩:=bg s;rw[dZ sQE (au rfl)];unfold hF3 bw;simp only;generalize decide (x∈s)=D at *;generalize decide (y∈s)=D2 at *;generalize ints s=S1 at *;unfold qQE cQE;cases D
 ·simp[aeU,aeT,nx,ny,b1,b2,b3,b4,b5,b6,b7,b8,b9,ba,bb,kB,aH,gn,bL,bC,eR,fW,dm,dc,pl,fx,cN,jD,jC,dn,de,bX,dB,eX,iH,dJ,iC,ke,fI,sQC,iQC]
 ·simp[aeU,aeT,nx,ny,b1,b2,b3,b4,b5,b6,b7,b8,b9,ba,bb,kB,aH,gn,bL,bC,eR,fW,dm,dc,pl,fx,cN,jD,jC,dn,de,bX,dB,eX,iH,dJ,iC,ke,fI,sQC,iQC]
def RX:AV:=.func (.func nQE) [] [.ptr 0 0,.ptr 1 0]
def Oc (x y:Int) (Pv:List AV) (n:Nat) (a:Int) (i:Int) (J:Env):St:=⟨(0,.list 3 Pv)::(1,RX)::(5,.int .i64 a)::(8,.list 3 Pv)::(9,.int .i64 n)::(10,.int .i64 i)::J,hF x y⟩
theorem ag9 (x y:Int) (P:List Pt) (hP:P.length<=900) (hs:∀j,(bM P j).length<=64) (i:Nat) (hi:i<P.length) (a:Int) (ha:a=-1\/(0<=a/\a<i)) :
  aW aq 2 ux (Oc x y (P.map bw) P.length a i [])=some (.normal,Oc x y (P.map bw) P.length (tn P (DT P x y) a i) (i+1:Nat) []):=by
 have k1:(i:Int)<P.length:=by omega
 have hw:=dA (i:=i) (by omega);have g3:=px P i hi;have ll:(P.map bw).length=P.length:=aX _;have bE:i<(P.map bw).length:=by omega
 have g4:∀h,(P.map bw)[i]'h=.agg [.int .i64 (iJ P i),.int .i64 (ij P i),.list 1 (ints (bM P i))]:=fun h=>by
  rw[aj h] at g3;exact bj g3
 have fr:=S4 x y (iJ P i,ij P i,bM P i) (by have:=hs i; simp; omega);have ek:(decide (x∈bM P i)&&decide (y∈bM P i))=DT P x y i:=rfl;obtain⟨b1,b2,b3,b4,b5,b6,b7,b8,b9,ba,bb⟩:=bg (bM P i);unfold hF3 bw at fr;simp only[ek] at fr;cases hk:DT P x y i with
 |false=>
   have e:tn P (DT P x y) a i=a:=by unfold tn; rw[hk]; rfl
   rw[e];rw[hk] at fr;unfold Oc hF RX;generalize P.map bw=Pv at *;generalize ints (bM P i)=S1 at *;generalize iJ P i=l1 at *;unfold ux;simp[wh,wg,we,wc,wa,v8,v7,vZ,vY,k1,hw,g3,g4,ll,bE,hi,fr,b1,b2,b3,b4,b5,b6,b7,b8,b9,ba,bb,idx,kB,aH,gn,bC,eR,fW,dm,dc,pl,fx,cN,jD,jC,dn,de,bX,dB,eX,iH,dJ,iC,ke,fI,sQE,iQE]
 |true=>
   rw[hk] at fr;by_cases q:a<0
   ·have e:tn P (DT P x y) a i=i:=by unfold tn; rw[hk]; simp[q]
    rw[e];unfold Oc hF RX;generalize P.map bw=Pv at *;generalize ints (bM P i)=S1 at *;generalize iJ P i=l1 at *;unfold ux;simp[wh,wg,we,wc,wa,v8,v7,vZ,vY,k1,hw,g3,g4,ll,bE,hi,fr,q,b1,b2,b3,b4,b5,b6,b7,b8,b9,ba,bb,idx,kB,aH,gn,bC,eR,fW,dm,dc,pl,fx,cN,jD,jC,dn,de,bX,dB,eX,iH,dJ,iC,ke,fI,sQE,iQE]
   ·have a0:0<=a:=by omega
    have ai:a<i:=by omega
    have an:a.toNat<P.length:=by omega
    have f3:=px P a.toNat an;have flt:a.toNat<(P.map bw).length:=by omega
    have f4:∀h,(P.map bw)[a.toNat]'h=.agg [.int .i64 (iJ P a.toNat),.int .i64 (ij P a.toNat),.list 1 (ints (bM P a.toNat))]:=fun h=>by
     rw[aj h] at f3;exact bj f3
    have aP:a<(P.length:Int):=by omega
    by_cases z:iJ P a.toNat<=iJ P i
    ·have e:tn P (DT P x y) a i=i:=by unfold tn; rw[hk]; simp[z]
     rw[e];unfold Oc hF RX;generalize P.map bw=Pv at *;generalize ints (bM P i)=S1 at *;generalize iJ P i=l1 at *;generalize ME:a.toNat=pn at *;generalize ints (bM P pn)=S3 at *;generalize iJ P pn=l3 at *;unfold ux;simp[wh,wg,we,wc,wa,v8,v7,vZ,vY,k1,hw,g3,g4,ll,bE,hi,fr,q,a0,ai,an,f3,f4,flt,aP,z,ME,b1,b2,b3,b4,b5,b6,b7,b8,b9,ba,bb,idx,kB,aH,gn,bC,eR,fW,dm,dc,pl,fx,cN,jD,jC,dn,de,bX,dB,eX,iH,dJ,iC,ke,fI,sQE,iQE]
    ·have e:tn P (DT P x y) a i=a:=by unfold tn; rw[hk]; simp[z,q]
     rw[e];unfold Oc hF RX;generalize P.map bw=Pv at *;generalize ints (bM P i)=S1 at *;generalize iJ P i=l1 at *;generalize ME:a.toNat=pn at *;generalize ints (bM P pn)=S3 at *;generalize iJ P pn=l3 at *;unfold ux;simp[wh,wg,we,wc,wa,v8,v7,vZ,vY,k1,hw,g3,g4,ll,bE,hi,fr,q,a0,ai,an,f3,f4,flt,aP,z,ME,b1,b2,b3,b4,b5,b6,b7,b8,b9,ba,bb,idx,kB,aH,gn,bC,eR,fW,dm,dc,pl,fx,cN,jD,jC,dn,de,bX,dB,eX,iH,dJ,iC,ke,fI,sQE,iQE]
theorem acu (x y:Int) (P:List Pt) (hP:P.length<=900) (hs:∀j,(bM P j).length<=64):∀(n i:Nat) (a:Int),i+n=P.length->(a=-1\/(0<=a/\a<i)) ->
  aW aq 2 (.loop ux) (Oc x y (P.map bw) P.length a i [])=some (.exit 0,Oc x y (P.map bw) P.length (MY P (DT P x y) n i a) P.length [(11,.bool false)])
 |0,i,a,hi,ha=>by
   obtain rfl:i=P.length:=by omega
   refine bn ?_;have e:MY P (DT P x y) 0 P.length a=a:=rfl;rw[e];unfold Oc hF RX;generalize P.map bw=Pv at *;unfold ux;simp[wh,wg,we,wc,wa,v8,v7,vZ,vY]
 |n+1,i,a,hi,ha=>(aS (ag9 x y P hP hs i (by omega) a ha)).trans (acu x y P hP hs n (i+1) (tn P (DT P x y) a i) (by omega) (by
   unfold tn;split
   ·right; omega
   ·rcases ha with h|h
    ·exact .inl h
    ·right; omega))
theorem Vj (x y:Int) (P:List Pt) (hP:P.length<=900) (hs:∀j,(bM P j).length<=64):bJ aq nQi [.list 3 (P.map bw),.int .i64 x,.int .i64 y] []=some (.int .i64 (MY P (DT P x y) P.length 0 (-1)),[]):=by
 have lp:=acu x y P hP hs P.length 0 (-1) (by omega) (.inl rfl);have ll:(P.map bw).length=P.length:=aX _
 have br:bJ aq nQA [.list 3 (P.map bw),RX] (hF x y)=some (.int .i64 (MY P (DT P x y) P.length 0 (-1)),hF x y):=by
  rw[dZ sQA (au rfl)];unfold Oc hF RX at *;simp only[fH] at lp;generalize MY P (DT P x y) P.length 0 (-1)=z at *;generalize P.map bw=Pv at *;unfold qQA cQA;simp[wh,wg,we,wc,wa,v8,v7,vZ,vY,lp,ll,kB,aH,gn,bL,bC,eR,fW,dm,dc,pl,fx,cN,jD,jC,dn,de,bX,dB,eX,iH,dJ,iC,ke,fI]
 rw[dZ sQi (au rfl)];obtain⟨g1,g2,g3,g4,g5,g6,g7,g8⟩:=jf P;unfold hF RX at *;generalize MY P (DT P x y) P.length 0 (-1)=z at *;generalize P.map bw=Pv at *;unfold qQi cQi;simp[ake,akd,br,ll,g1,g2,g3,g4,g5,g6,g7,g8,kB,aH,gn,bL,bC,eR,fW,dm,dc,pl,fx,cN,jD,jC,dn,de,bX,dB,eX,iH,dJ,iC,ke,fI,sQA,iQA]
def phSt (Pv:List AV) (a:Int) (o:List Int) (J:Env):St:=⟨(0,.list 3 Pv)::(1,.int .i64 a)::(5,.own 1 (ints o))::J,[]⟩
theorem aa1 (P:List Pt) (hP:P.length<=900):∀(n a:Nat) (o:List Int) (J:Env),(J=[]\/J=[(14,.bool false)])->a<n->a<P.length->o.length+n<=2000 ->
  aW aq 0 (.loop abJ) (phSt (P.map bw) a o J)=some (.ret,⟨[(4,.own 1 (ints (o++yF P n a)))],[]⟩)
 |0,a,o,J,_,h,_,_=>by omega
 |n+1,a,o,J,hJ,h,ha,ho=>by
   have g3:=px P a ha;have ll:(P.map bw).length=P.length:=aX _;have bE:a<(P.map bw).length:=by omega
   have aP:(a:Int)<P.length:=by omega
   have g4:∀h,(P.map bw)[a]'h=.agg [.int .i64 (iJ P a),.int .i64 (ij P a),.list 1 (ints (bM P a))]:=fun h=>by
    rw[aj h] at g3;exact bj g3
   have ea:((a:Nat):Int).toNat=a:=by omega
   have lo:=ah o;have Ry:o.length+1<=4294967296:=by omega
   have tk:(ints o++[AV.int .i64 (a:Int)]).take (o.length+1)=ints (o++[(a:Int)]):=by rw[cZ,aT (by rw[ah]; simp)]
   have Oq:(ints o).take o.length=ints o:=aT (by omega);have sn:=cZ o (a:Int);unfold yF;rw[ea];obtain⟨b1,b2,b3,b4,b5,b6,b7,b8,b9,ba,bb⟩:=bg (bM P a);by_cases q:ij P a<0\/(a:Int)<=ij P a
   ·rw[if_pos q];refine dM ?_;unfold phSt;generalize ints (o++[(a:Int)])=O2 at *;generalize ints o=O1 at *;generalize P.map bw=Pv at *;generalize ints (bM P a)=S1 at *;unfold abJ;by_cases q1:ij P a<0
    ·rcases hJ with rfl|rfl<;>simp[Kj,Ki,Kh,Kg,Kf,Ke,Kc,Kb,Ka,g3,g4,ll,bE,ha,aP,lo,Ry,ks,tk,Oq,sn,q1,b1,b2,b3,b4,b5,b6,b7,b8,b9,ba,bb,idx,aH]
    ·have q2:(a:Int)<=ij P a:=by omega
     rcases hJ with rfl|rfl<;>simp[Kj,Ki,Kh,Kg,Kf,Ke,Kc,Kb,Ka,g3,g4,ll,bE,ha,aP,lo,Ry,ks,tk,Oq,sn,q1,q2,b1,b2,b3,b4,b5,b6,b7,b8,b9,ba,bb,idx,aH]
   ·rw[if_neg q];rw[not_or] at q;obtain⟨p,ep⟩:∃p:Nat,ij P a=(p:Int):=⟨(ij P a).toNat,by omega⟩;rw[ep] at g3 g4 q ⊢;have ih:=aa1 P hP n p (o++[(a:Int)]) [] (.inl rfl) (by omega) (by omega) (by simp; omega);rw[List.append_assoc] at ih;refine (aS ?_).trans ih;clear ih;have q1:¬(p:Int)<0:=by omega
    have q2:¬(a:Int)<=p:=by omega
    unfold phSt;generalize ints (o++[(a:Int)])=O2 at *;generalize ints o=O1 at *;generalize P.map bw=Pv at *;generalize ints (bM P a)=S1 at *;unfold abJ;rcases hJ with rfl|rfl<;>simp[Kj,Ki,Kh,Kg,Kf,Ke,Kc,Kb,Ka,g3,g4,ll,bE,ha,aP,lo,Ry,ks,tk,Oq,sn,q1,q2,b1,b2,b3,b4,b5,b6,b7,b8,b9,ba,bb,idx,aH]
theorem ade (P:List Pt) (hP:P.length<=900) (a:Int) (h0:0<=a) (h1:a<(P.length:Int)):bJ aq nQl [.list 3 (P.map bw),.int .i64 a] []=some (.list 1 (ints (yF P P.length a)),[]):=by
 obtain⟨n,rfl⟩:∃n:Nat,a=(n:Int):=⟨a.toNat,by omega⟩;have lp:=aa1 P hP P.length n [] [(14,.bool false)] (.inr rfl) (by omega) (by omega) (by simp; omega);rw[List.nil_append] at lp;have ll:(P.map bw).length=P.length:=aX _;have q1:¬(n:Int)<0:=by omega
 have q2:¬(P.length:Int)<=n:=by omega
 have q3:¬P.length<=n:=by omega
 rw[dZ sQl (au rfl)];unfold phSt at lp;rw[show ints []=[] from rfl] at lp;generalize ints (yF P P.length n)=O1 at *;generalize P.map bw=Pv at *;unfold qQl cQl;simp[Kj,Ki,Kh,Kg,Kf,Ke,Kc,Kb,Ka,lp,ll,q1,q2,q3,aH,bL,bC,eR,fW,dm,dc,pl]
end Go.BmP
