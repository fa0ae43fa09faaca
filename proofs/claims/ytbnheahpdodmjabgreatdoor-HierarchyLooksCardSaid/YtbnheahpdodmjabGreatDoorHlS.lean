/- ref18.Find, ref18.Shared, ref18.Path, and Path and Children of both sides for any list of parts. -/
import Derived.Test.YtbnheahpdodmjabGreatDoorHsY
import Derived.Test.YtbnheahpdodmjabGreatDoorHkK
set_option linter.unusedSimpArgs false
set_option linter.unusedVariables false
set_option maxRecDepth 100000
set_option maxHeartbeats 8000000
open Bool renaming and_false → SM
open List renaming getElem?_eq_getElem → aj, length_map → aX, nil_append → oV, take_of_length_le → aT
open Nat renaming le_of_ble_eq_true → au, le_refl → aJ, zero_le → yM
open Option.some renaming inj → bj
namespace Go.BmP
open Go.Am Go.Bm
def Jv (x y:Int) (Pv:List AV) (n:Nat) (a:Int) (i:Int) (J:Env):St:=⟨(0,.list 3 Pv)::(1,.int .i64 x)::(2,.int .i64 y)::(7,.int .i64 a)::(10,.list 3 Pv)::(11,.int .i64 n)::(12,.int .i64 i)::J,[]⟩
theorem W5 (x y:Int) (P:List Pt) (hP:P.length<=900) (hs:∀j,(bM P j).length<=64) (i:Nat) (hi:i<P.length) (a:Int) (ha:a=-1\/(0<=a/\a<i)) :
  aW aq 0 E5 (Jv x y (P.map bw) P.length a i [])=some (.normal,Jv x y (P.map bw) P.length (tn P (DS P x y) a i) (i+1:Nat) []):=by
 have k1:(i:Int)<P.length:=by omega
 have hw:=dA (i:=i) (by omega);have g3:=px P i hi;have ll:(P.map bw).length=P.length:=aX _;have bE:i<(P.map bw).length:=by omega
 have g4:∀h,(P.map bw)[i]'h=.agg [.int .i64 (iJ P i),.int .i64 (ij P i),.list 1 (ints (bM P i))]:=fun h=>by
  rw[aj h] at g3;exact bj g3
 have hx:=pJ x (bM P i) (by have:=hs i; omega);have hy:=pJ y (bM P i) (by have:=hs i; omega);obtain⟨b1,b2,b3,b4,b5,b6,b7,b8,b9,ba,bb⟩:=bg (bM P i);generalize hD:decide (x∈bM P i)=D at *;clear hy;by_cases q0:iJ P i<=y
 case neg=>
  have e:tn P (DS P x y) a i=a:=by unfold tn DS; rw[decide_eq_false q0]; rfl
  rw[e];unfold Jv;generalize P.map bw=Pv at *;generalize ints (bM P i)=S1 at *;generalize iJ P i=l1 at *;unfold E5;simp[Hh,Hg,Hf,He,Hd,Hc,Hb,G9,G8,k1,hw,g3,g4,ll,bE,hi,hx,q0,b1,b2,b3,b4,b5,b6,b7,b8,b9,ba,bb,idx,kB,aH,gn,bC,eR,fW,dm,dc,pl,fx,cN,jD,jC,dn,de,bX,dB,eX,iH,dJ,iC,ke,fI,Jp,Nz]
 cases D with
 |false=>
   have e:tn P (DS P x y) a i=a:=by unfold tn DS; rw[hD,SM]; rfl
   rw[e];unfold Jv;generalize P.map bw=Pv at *;generalize ints (bM P i)=S1 at *;generalize iJ P i=l1 at *;unfold E5;simp[Hh,Hg,Hf,He,Hd,Hc,Hb,G9,G8,k1,hw,g3,g4,ll,bE,hi,hx,q0,b1,b2,b3,b4,b5,b6,b7,b8,b9,ba,bb,idx,kB,aH,gn,bC,eR,fW,dm,dc,pl,fx,cN,jD,jC,dn,de,bX,dB,eX,iH,dJ,iC,ke,fI,Jp,Nz]
 |true=>
   have hk:DS P x y i=true:=by unfold DS; rw[hD,decide_eq_true q0]; rfl
   by_cases q:a<0
   ·have e:tn P (DS P x y) a i=i:=by unfold tn; rw[hk]; simp[q]
    rw[e];unfold Jv;generalize P.map bw=Pv at *;generalize ints (bM P i)=S1 at *;generalize iJ P i=l1 at *;unfold E5;simp[Hh,Hg,Hf,He,Hd,Hc,Hb,G9,G8,k1,hw,g3,g4,ll,bE,hi,hx,q0,q,b1,b2,b3,b4,b5,b6,b7,b8,b9,ba,bb,idx,kB,aH,gn,bC,eR,fW,dm,dc,pl,fx,cN,jD,jC,dn,de,bX,dB,eX,iH,dJ,iC,ke,fI,Jp,Nz]
   ·have a0:0<=a:=by omega
    have ai:a<i:=by omega
    have an:a.toNat<P.length:=by omega
    have f3:=px P a.toNat an;have flt:a.toNat<(P.map bw).length:=by omega
    have f4:∀h,(P.map bw)[a.toNat]'h=.agg [.int .i64 (iJ P a.toNat),.int .i64 (ij P a.toNat),.list 1 (ints (bM P a.toNat))]:=fun h=>by
     rw[aj h] at f3;exact bj f3
    have aP:a<(P.length:Int):=by omega
    by_cases z:iJ P a.toNat<=iJ P i
    ·have e:tn P (DS P x y) a i=i:=by unfold tn; rw[hk]; simp[z]
     rw[e];unfold Jv;generalize P.map bw=Pv at *;generalize ints (bM P i)=S1 at *;generalize iJ P i=l1 at *;generalize ME:a.toNat=pn at *;generalize ints (bM P pn)=S3 at *;generalize iJ P pn=l3 at *;unfold E5;simp[Hh,Hg,Hf,He,Hd,Hc,Hb,G9,G8,k1,hw,g3,g4,ll,bE,hi,hx,q0,q,a0,ai,an,f3,f4,flt,aP,z,ME,b1,b2,b3,b4,b5,b6,b7,b8,b9,ba,bb,idx,kB,aH,gn,bC,eR,fW,dm,dc,pl,fx,cN,jD,jC,dn,de,bX,dB,eX,iH,dJ,iC,ke,fI,Jp,Nz]
    ·have e:tn P (DS P x y) a i=a:=by unfold tn; rw[hk]; simp[z,q]
     rw[e];unfold Jv;generalize P.map bw=Pv at *;generalize ints (bM P i)=S1 at *;generalize iJ P i=l1 at *;generalize ME:a.toNat=pn at *;generalize ints (bM P pn)=S3 at *;generalize iJ P pn=l3 at *;unfold E5;simp[Hh,Hg,Hf,He,Hd,Hc,Hb,G9,G8,k1,hw,g3,g4,ll,bE,hi,hx,q0,q,a0,ai,an,f3,f4,flt,aP,z,ME,b1,b2,b3,b4,b5,b6,b7,b8,b9,ba,bb,idx,kB,aH,gn,bC,eR,fW,dm,dc,pl,fx,cN,jD,jC,dn,de,bX,dB,eX,iH,dJ,iC,ke,fI,Jp,Nz]
theorem OD (x y:Int) (P:List Pt) (hP:P.length<=900) (hs:∀j,(bM P j).length<=64):∀(n i:Nat) (a:Int),i+n=P.length->(a=-1\/(0<=a/\a<i)) ->
  aW aq 0 (.loop E5) (Jv x y (P.map bw) P.length a i [])=some (.exit 0,Jv x y (P.map bw) P.length (MY P (DS P x y) n i a) P.length [(13,.bool false)])
 |0,i,a,hi,ha=>by
   obtain rfl:i=P.length:=by omega
   refine bn ?_;have e:MY P (DS P x y) 0 P.length a=a:=rfl;rw[e];unfold Jv;generalize P.map bw=Pv at *;unfold E5;simp[Hh,Hg,Hf,He,Hd,Hc,Hb,G9,G8]
 |n+1,i,a,hi,ha=>(aS (W5 x y P hP hs i (by omega) a ha)).trans (OD x y P hP hs n (i+1) (tn P (DS P x y) a i) (by omega) (by
   unfold tn;split
   ·right; omega
   ·rcases ha with h|h
    ·exact .inl h
    ·right; omega))
theorem ad7 (x y:Int) (P:List Pt) (hP:P.length<=900) (hs:∀j,(bM P j).length<=64):bJ aq nQh [.list 3 (P.map bw),.int .i64 x,.int .i64 y] []=some (.int .i64 (MY P (DS P x y) P.length 0 (-1)),[]):=by
 have lp:=OD x y P hP hs P.length 0 (-1) (by omega) (.inl rfl);have ll:(P.map bw).length=P.length:=aX _;rw[dZ sQh (au rfl)];unfold Jv at lp;simp only[fH] at lp;generalize MY P (DS P x y) P.length 0 (-1)=z at *;generalize P.map bw=Pv at *;unfold qQh cQh;simp[Hh,Hg,Hf,He,Hd,Hc,Hb,G9,G8,lp,ll,aH,bL,bC,eR,fW,dm,dc,pl]
def Ju (x y:Int) (Pv:List AV) (n:Nat) (a:Int) (i:Int) (J:Env):St:=⟨(0,.list 3 Pv)::(1,.int .i64 x)::(2,.int .i64 y)::(7,.int .i64 a)::(10,.list 3 Pv)::(11,.int .i64 n)::(12,.int .i64 i)::J,[]⟩
theorem W2 (x y:Int) (P:List Pt) (hP:P.length<=900) (hs:∀j,(bM P j).length<=64) (i:Nat) (hi:i<P.length) (a:Int) (ha:a=-1\/(0<=a/\a<i)) :
  aW aq 0 E4 (Ju x y (P.map bw) P.length a i [])=some (.normal,Ju x y (P.map bw) P.length (tn P (DT P x y) a i) (i+1:Nat) []):=by
 have k1:(i:Int)<P.length:=by omega
 have hw:=dA (i:=i) (by omega);have g3:=px P i hi;have ll:(P.map bw).length=P.length:=aX _;have bE:i<(P.map bw).length:=by omega
 have g4:∀h,(P.map bw)[i]'h=.agg [.int .i64 (iJ P i),.int .i64 (ij P i),.list 1 (ints (bM P i))]:=fun h=>by
  rw[aj h] at g3;exact bj g3
 have hx:=pJ x (bM P i) (by have:=hs i; omega);have hy:=pJ y (bM P i) (by have:=hs i; omega);obtain⟨b1,b2,b3,b4,b5,b6,b7,b8,b9,ba,bb⟩:=bg (bM P i);generalize hD:decide (x∈bM P i)=D at *;generalize hE:decide (y∈bM P i)=D2 at *;cases D with
 |false=>
   have e:tn P (DT P x y) a i=a:=by unfold tn DT; rw[hD,Bool.false_and]; rfl
   rw[e];unfold Ju;generalize P.map bw=Pv at *;generalize ints (bM P i)=S1 at *;generalize iJ P i=l1 at *;unfold E4;simp[G7,G6,G5,G4,G3,G2,G0,GZ,GY,k1,hw,g3,g4,ll,bE,hi,hx,hy,b1,b2,b3,b4,b5,b6,b7,b8,b9,ba,bb,idx,kB,aH,gn,bC,eR,fW,dm,dc,pl,fx,cN,jD,jC,dn,de,bX,dB,eX,iH,dJ,iC,ke,fI,Jp,Nz]
 |true=>
 cases D2 with
 |false=>
   have e:tn P (DT P x y) a i=a:=by unfold tn DT; rw[hE,SM]; rfl
   rw[e];unfold Ju;generalize P.map bw=Pv at *;generalize ints (bM P i)=S1 at *;generalize iJ P i=l1 at *;unfold E4;simp[G7,G6,G5,G4,G3,G2,G0,GZ,GY,k1,hw,g3,g4,ll,bE,hi,hx,hy,b1,b2,b3,b4,b5,b6,b7,b8,b9,ba,bb,idx,kB,aH,gn,bC,eR,fW,dm,dc,pl,fx,cN,jD,jC,dn,de,bX,dB,eX,iH,dJ,iC,ke,fI,Jp,Nz]
 |true=>
   have hk:DT P x y i=true:=by unfold DT; rw[hD,hE]; rfl
   by_cases q:a<0
   ·have e:tn P (DT P x y) a i=i:=by unfold tn; rw[hk]; simp[q]
    rw[e];unfold Ju;generalize P.map bw=Pv at *;generalize ints (bM P i)=S1 at *;generalize iJ P i=l1 at *;unfold E4;simp[G7,G6,G5,G4,G3,G2,G0,GZ,GY,k1,hw,g3,g4,ll,bE,hi,hx,hy,q,b1,b2,b3,b4,b5,b6,b7,b8,b9,ba,bb,idx,kB,aH,gn,bC,eR,fW,dm,dc,pl,fx,cN,jD,jC,dn,de,bX,dB,eX,iH,dJ,iC,ke,fI,Jp,Nz]
   ·have a0:0<=a:=by omega
    have ai:a<i:=by omega
    have an:a.toNat<P.length:=by omega
    have f3:=px P a.toNat an;have flt:a.toNat<(P.map bw).length:=by omega
    have f4:∀h,(P.map bw)[a.toNat]'h=.agg [.int .i64 (iJ P a.toNat),.int .i64 (ij P a.toNat),.list 1 (ints (bM P a.toNat))]:=fun h=>by
     rw[aj h] at f3;exact bj f3
    have aP:a<(P.length:Int):=by omega
    by_cases z:iJ P a.toNat<=iJ P i
    ·have e:tn P (DT P x y) a i=i:=by unfold tn; rw[hk]; simp[z]
     rw[e];unfold Ju;generalize P.map bw=Pv at *;generalize ints (bM P i)=S1 at *;generalize iJ P i=l1 at *;generalize ME:a.toNat=pn at *;generalize ints (bM P pn)=S3 at *;generalize iJ P pn=l3 at *;unfold E4;simp[G7,G6,G5,G4,G3,G2,G0,GZ,GY,k1,hw,g3,g4,ll,bE,hi,hx,hy,q,a0,ai,an,f3,f4,flt,aP,z,ME,b1,b2,b3,b4,b5,b6,b7,b8,b9,ba,bb,idx,kB,aH,gn,bC,eR,fW,dm,dc,pl,fx,cN,jD,jC,dn,de,bX,dB,eX,iH,dJ,iC,ke,fI,Jp,Nz]
    ·have e:tn P (DT P x y) a i=a:=by unfold tn; rw[hk]; simp[z,q]
     rw[e];unfold Ju;generalize P.map bw=Pv at *;generalize ints (bM P i)=S1 at *;generalize iJ P i=l1 at *;generalize ME:a.toNat=pn at *;generalize ints (bM P pn)=S3 at *;generalize iJ P pn=l3 at *;unfold E4;simp[G7,G6,G5,G4,G3,G2,G0,GZ,GY,k1,hw,g3,g4,ll,bE,hi,hx,hy,q,a0,ai,an,f3,f4,flt,aP,z,ME,b1,b2,b3,b4,b5,b6,b7,b8,b9,ba,bb,idx,kB,aH,gn,bC,eR,fW,dm,dc,pl,fx,cN,jD,jC,dn,de,bX,dB,eX,iH,dJ,iC,ke,fI,Jp,Nz]
theorem OA (x y:Int) (P:List Pt) (hP:P.length<=900) (hs:∀j,(bM P j).length<=64):∀(n i:Nat) (a:Int),i+n=P.length->(a=-1\/(0<=a/\a<i)) ->
  aW aq 0 (.loop E4) (Ju x y (P.map bw) P.length a i [])=some (.exit 0,Ju x y (P.map bw) P.length (MY P (DT P x y) n i a) P.length [(13,.bool false)])
 |0,i,a,hi,ha=>by
   obtain rfl:i=P.length:=by omega
   refine bn ?_;have e:MY P (DT P x y) 0 P.length a=a:=rfl;rw[e];unfold Ju;generalize P.map bw=Pv at *;unfold E4;simp[G7,G6,G5,G4,G3,G2,G0,GZ,GY]
 |n+1,i,a,hi,ha=>(aS (W2 x y P hP hs i (by omega) a ha)).trans (OA x y P hP hs n (i+1) (tn P (DT P x y) a i) (by omega) (by
   unfold tn;split
   ·right; omega
   ·rcases ha with h|h
    ·exact .inl h
    ·right; omega))
theorem adY (x y:Int) (P:List Pt) (hP:P.length<=900) (hs:∀j,(bM P j).length<=64):bJ aq nQj [.list 3 (P.map bw),.int .i64 x,.int .i64 y] []=some (.int .i64 (MY P (DT P x y) P.length 0 (-1)),[]):=by
 have lp:=OA x y P hP hs P.length 0 (-1) (by omega) (.inl rfl);have ll:(P.map bw).length=P.length:=aX _;rw[dZ sQj (au rfl)];unfold Ju at lp;simp only[fH] at lp;generalize MY P (DT P x y) P.length 0 (-1)=z at *;generalize P.map bw=Pv at *;unfold qQj cQj;simp[G7,G6,G5,G4,G3,G2,G0,GZ,GY,lp,ll,aH,bL,bC,eR,fW,dm,dc,pl]
/- Path and Children of both sides for any list of parts and any index. -/
def phA (P:List Pt) (a:Int):List Int:=if 0<=a/\a<(P.length:Int) then yF P P.length a else[]
theorem aa2 (P:List Pt) (a:Int):(phA P a).length<=P.length:=by
 unfold phA;split
 ·exact Pm _ _ _
 ·exact yM _
theorem adf (P:List Pt) (hP:P.length<=900) (a:Int):bJ aq nQl [.list 3 (P.map bw),.int .i64 a] []=some (.list 1 (ints (phA P a)),[]):=by
 by_cases h:0<=a/\a<(P.length:Int)
 ·unfold phA;rw[if_pos h];exact ade P hP a h.1 h.2
 ·unfold phA;rw[if_neg h];have ll:(P.map bw).length=P.length:=aX _;rw[dZ sQl (au rfl)];rw[show ints []=[] from rfl];by_cases q1:a<0
  ·generalize P.map bw=Pv at *;unfold qQl cQl;simp[Kj,Ki,Kh,Kg,Kf,Ke,Kc,Kb,Ka,ll,q1,aH,bL,bC,eR,fW,dm,dc,pl]
  ·have q2:(P.length:Int)<=a:=by omega
   generalize P.map bw=Pv at *;unfold qQl cQl;simp[Kj,Ki,Kh,Kg,Kf,Ke,Kc,Kb,Ka,ll,q1,q2,aH,bL,bC,eR,fW,dm,dc,pl]
def rpSt (Pv:List AV) (a:Int) (o:List Int) (J:Env):St:=⟨(0,.list 3 Pv)::(1,.int .i64 a)::(5,.own 1 (ints o))::J,[]⟩
theorem Zi (P:List Pt) (hP:P.length<=900):∀(n a:Nat) (o:List Int),a<n->a<P.length->o.length+n<=2000 ->
  ∃ z:Int,aW aq 0 (.loop abI) (rpSt (P.map bw) a (o++[(a:Int)]) [])=some (.exit 0,rpSt (P.map bw) z (o++yF P n a) [(30,.bool false)])
 |0,a,o,h,_,_=>by omega
 |n+1,a,o,h,ha,ho=>by
   have g3:=px P a ha;have ll:(P.map bw).length=P.length:=aX _;have bE:a<(P.map bw).length:=by omega
   have aP:(a:Int)<P.length:=by omega
   have g4:∀h,(P.map bw)[a]'h=.agg [.int .i64 (iJ P a),.int .i64 (ij P a),.list 1 (ints (bM P a))]:=fun h=>by
    rw[aj h] at g3;exact bj g3
   have ea:((a:Nat):Int).toNat=a:=by omega
   unfold yF;rw[ea];obtain⟨b1,b2,b3,b4,b5,b6,b7,b8,b9,ba,bb⟩:=bg (bM P a);by_cases q:ij P a<0\/(a:Int)<=ij P a
   ·rw[if_pos q];refine⟨a,bn ?_⟩;unfold rpSt;generalize ints (o++[(a:Int)])=O2 at *;generalize P.map bw=Pv at *;generalize ints (bM P a)=S1 at *;unfold abI;by_cases q1:ij P a<0
    ·have q1':¬0<=ij P a:=by omega
     simp[J9,J8,J7,J6,J5,J4,J3,J2,g3,g4,ll,bE,ha,aP,q1,q1',b1,b2,b3,b4,b5,b6,b7,b8,b9,ba,bb,idx,aH]
    ·have q1':0<=ij P a:=by omega
     have q2:(a:Int)<=ij P a:=by omega
     have q2':¬ij P a<(a:Int):=by omega
     simp[J9,J8,J7,J6,J5,J4,J3,J2,g3,g4,ll,bE,ha,aP,q1,q1',q2,q2',b1,b2,b3,b4,b5,b6,b7,b8,b9,ba,bb,idx,aH]
   ·rw[if_neg q];rw[not_or] at q;obtain⟨p,ep⟩:∃p:Nat,ij P a=(p:Int):=⟨(ij P a).toNat,by omega⟩;rw[ep] at g3 g4 q ⊢;obtain⟨z,ih⟩:=Zi P hP n p (o++[(a:Int)]) (by omega) (by omega) (by simp; omega);rw[List.append_assoc o [(a:Int)] (yF P n p)] at ih;refine⟨z,(aS ?_).trans ih⟩;clear ih;have q1:(0:Int)<=p:=by omega
    have q2:(p:Int)<a:=by omega
    have lo:=ah (o++[(a:Int)]);have l1:(o++[(a:Int)]).length=o.length+1:=by simp
    have Ry:o.length+1+1<=4294967296:=by omega
    have tk:(ints (o++[(a:Int)])++[AV.int .i64 (p:Int)]).take (o.length+1+1)=ints (o++[(a:Int)]++[(p:Int)]):=by rw[cZ,aT (by rw[ah]; simp)]
    have Oq:(ints (o++[(a:Int)])).take (o.length+1)=ints (o++[(a:Int)]):=aT (by omega);have sn:=cZ (o++[(a:Int)]) (p:Int);rw[l1] at lo;unfold rpSt;generalize ints (o++[(a:Int)]++[(p:Int)])=O3 at *;generalize ints (o++[(a:Int)])=O2 at *;generalize P.map bw=Pv at *;generalize ints (bM P a)=S1 at *;unfold abI;simp[J9,J8,J7,J6,J5,J4,J3,J2,g3,g4,ll,bE,ha,aP,lo,Ry,ks,tk,Oq,sn,q1,q2,b1,b2,b3,b4,b5,b6,b7,b8,b9,ba,bb,idx,aH]
theorem acO (P:List Pt) (hP:P.length<=900) (a:Int):bJ aq nQm [.list 3 (P.map bw),.int .i64 a] []=some (.list 1 (ints (phA P a)),[]):=by
 have ll:(P.map bw).length=P.length:=aX _;rw[dZ sQm (au rfl)];unfold phA;by_cases h:0<=a/\a<(P.length:Int)
 ·rw[if_pos h];obtain⟨n,rfl⟩:∃n:Nat,a=(n:Int):=⟨a.toNat,by omega⟩;obtain⟨z,lp⟩:=Zi P hP P.length n [] (by omega) (by omega) (by simp; omega);rw[oV,oV] at lp;have q1:¬(n:Int)<0:=by omega
  have q2:¬(P.length:Int)<=n:=by omega
  have q3:¬P.length<=n:=by omega
  unfold rpSt at lp;rw[show ints [(n:Int)]=[.int .i64 n] from rfl] at lp;generalize ints (yF P P.length n)=O1 at *;generalize P.map bw=Pv at *;unfold qQm cQm;simp[J9,J8,J7,J6,J5,J4,J3,J2,lp,ll,q1,q2,q3,ks,aH,bL,bC,eR,fW,dm,dc,pl]
 ·rw[if_neg h];rw[show ints []=[] from rfl];by_cases q1:a<0
  ·generalize P.map bw=Pv at *;unfold qQm cQm;simp[J9,J8,J7,J6,J5,J4,J3,J2,ll,q1,aH,bL,bC,eR,fW,dm,dc,pl]
  ·have q2:(P.length:Int)<=a:=by omega
   generalize P.map bw=Pv at *;unfold qQm cQm;simp[J9,J8,J7,J6,J5,J4,J3,J2,ll,q1,q2,aH,bL,bC,eR,fW,dm,dc,pl]
def chG (P:List Pt) (a:Int):Nat->Nat->List Int->List Int
 |0,_,o=>o
 |n+1,i,o=>chG P a n (i+1) (if ij P i=a then o++[(i:Int)] else o)
theorem acp (P:List Pt) (a:Int):∀(n i:Nat) (o:List Int),(chG P a n i o).length<=o.length+n
 |0,i,o=>aJ _
 |n+1,i,o=>by
   have:=acp P a n (i+1) (if ij P i=a then o++[(i:Int)] else o);unfold chG;refine Nat.le_trans this ?_;split
   ·simp; omega
   ·omega
def chA (P:List Pt) (a:Int):List Int:=if -1<=a/\a<(P.length:Int) then chG P a P.length 0 [] else[]
theorem acq (P:List Pt) (a:Int):(chA P a).length<=P.length:=by
 unfold chA;split
 ·have:=acp P a P.length 0 []; simpa using this
 ·exact yM _
def BT (Pv:List AV) (a:Int) (o:List Int) (n i:Nat) (J:Env):St:=⟨(1,.int .i64 a)::(5,.own 1 (ints o))::(16,.list 3 Pv)::(17,.int .i64 n)::(18,.int .i64 i)::J,[]⟩
theorem X7 (P:List Pt) (hP:P.length<=900) (a:Int) (o:List Int) (ho:o.length<=900) (i:Nat) (hi:i<P.length) :
  aW aq 0 PG (BT (P.map bw) a o P.length i [])=some (.normal,BT (P.map bw) a (if ij P i=a then o++[(i:Int)] else o) P.length (i+1) []):=by
 have k1:(i:Int)<P.length:=by omega
 have hw:=dA (i:=i) (by omega);have g3:=px P i hi;have ll:(P.map bw).length=P.length:=aX _;have bE:i<(P.map bw).length:=by omega
 have g4:∀h,(P.map bw)[i]'h=.agg [.int .i64 (iJ P i),.int .i64 (ij P i),.list 1 (ints (bM P i))]:=fun h=>by
  rw[aj h] at g3;exact bj g3
 obtain⟨b1,b2,b3,b4,b5,b6,b7,b8,b9,ba,bb⟩:=bg (bM P i);have lo:=ah o;have Ry:o.length+1<=4294967296:=by omega
 have tk:(ints o++[AV.int .i64 (i:Int)]).take (o.length+1)=ints (o++[(i:Int)]):=by rw[cZ,aT (by rw[ah]; simp)]
 have Oq:(ints o).take o.length=ints o:=aT (by omega);have sn:=cZ o (i:Int);by_cases q:ij P i=a
 ·rw[if_pos q];unfold BT;generalize ints (o++[(i:Int)])=O2 at *;generalize ints o=O1 at *;generalize P.map bw=Pv at *;generalize ints (bM P i)=S1 at *;unfold PG;simp[J1,J0,JZ,JY,JX,JW,JV,JU,JT,JS,Co,k1,hw,g3,g4,ll,bE,hi,q,lo,Ry,ks,tk,Oq,sn,b1,b2,b3,b4,b5,b6,b7,b8,b9,ba,bb,idx,kB,aH,gn,dc,pl,dn,de]
 ·rw[if_neg q];unfold BT;generalize ints (o++[(i:Int)])=O2 at *;generalize ints o=O1 at *;generalize P.map bw=Pv at *;generalize ints (bM P i)=S1 at *;unfold PG;simp[J1,J0,JZ,JY,JX,JW,JV,JU,JT,JS,Co,k1,hw,g3,g4,ll,bE,hi,q,b1,b2,b3,b4,b5,b6,b7,b8,b9,ba,bb,idx,kB,aH,gn,dc,pl,dn,de]
theorem PV (P:List Pt) (hP:P.length<=900) (a:Int):∀(n i:Nat) (o:List Int),i+n=P.length->o.length<=i ->
  aW aq 0 (.loop PG) (BT (P.map bw) a o P.length i [])=some (.exit 0,BT (P.map bw) a (chG P a n i o) P.length P.length [(19,.bool false)])
 |0,i,o,hi,ho=>by
   obtain rfl:i=P.length:=by omega
   refine bn ?_;have e:chG P a 0 P.length o=o:=rfl;rw[e];unfold BT;generalize P.map bw=Pv at *;generalize ints o=O1 at *;unfold PG;simp[J1,J0,JZ,JY,JX,JW,JV,JU,JT,JS,Co]
 |n+1,i,o,hi,ho=>(aS (X7 P hP a o (by omega) i (by omega))).trans (PV P hP a n (i+1) (if ij P i=a then o++[(i:Int)] else o) (by omega) (by
   split
   ·simp; omega
   ·omega))
theorem agv (P:List Pt) (hP:P.length<=900) (a:Int):bJ aq nQn [.list 3 (P.map bw),.int .i64 a] []=some (.list 1 (ints (chA P a)),[]):=by
 have ll:(P.map bw).length=P.length:=aX _;rw[dZ sQn (au rfl)];unfold chA;by_cases h:-1<=a/\a<(P.length:Int)
 ·rw[if_pos h];have lp:=PV P hP a P.length 0 [] (by omega) (aJ _);have q1:¬a < -1:=by omega
  have q2:¬(P.length:Int)<=a:=by omega
  unfold BT at lp;rw[show ints []=[] from rfl] at lp;simp only[fH] at lp;generalize ints (chG P a P.length 0 [])=O1 at *;generalize P.map bw=Pv at *;unfold qQn cQn;simp[J1,J0,JZ,JY,JX,JW,JV,JU,JT,JS,Co,lp,ll,q1,q2,aH,bL,bC,eR,fW,dm,dc,pl]
 ·rw[if_neg h];rw[show ints []=[] from rfl];by_cases q1:a < -1
  ·generalize P.map bw=Pv at *;unfold qQn cQn;simp[J1,J0,JZ,JY,JX,JW,JV,JU,JT,JS,Co,ll,q1,aH,bL,bC,eR,fW,dm,dc,pl]
  ·have q2:(P.length:Int)<=a:=by omega
   generalize P.map bw=Pv at *;unfold qQn cQn;simp[J1,J0,JZ,JY,JX,JW,JV,JU,JT,JS,Co,ll,q1,q2,aH,bL,bC,eR,fW,dm,dc,pl]
theorem Xb (P:List Pt) (hP:P.length<=900) (a:Int) (o:List Int) (ho:o.length<=900) (i:Nat) (hi:i<P.length) :
  aW aq 0 PF (BT (P.map bw) a o P.length i [])=some (.normal,BT (P.map bw) a (if ij P i=a then o++[(i:Int)] else o) P.length (i+1) []):=by
 have k1:(i:Int)<P.length:=by omega
 have hw:=dA (i:=i) (by omega);have g3:=px P i hi;have ll:(P.map bw).length=P.length:=aX _;have bE:i<(P.map bw).length:=by omega
 have g4:∀h,(P.map bw)[i]'h=.agg [.int .i64 (iJ P i),.int .i64 (ij P i),.list 1 (ints (bM P i))]:=fun h=>by
  rw[aj h] at g3;exact bj g3
 obtain⟨b1,b2,b3,b4,b5,b6,b7,b8,b9,ba,bb⟩:=bg (bM P i);have lo:=ah o;have Ry:o.length+1<=4294967296:=by omega
 have tk:(ints o++[AV.int .i64 (i:Int)]).take (o.length+1)=ints (o++[(i:Int)]):=by rw[cZ,aT (by rw[ah]; simp)]
 have Oq:(ints o).take o.length=ints o:=aT (by omega);have sn:=cZ o (i:Int);by_cases q:ij P i=a
 ·rw[if_pos q];unfold BT;generalize ints (o++[(i:Int)])=O2 at *;generalize ints o=O1 at *;generalize P.map bw=Pv at *;generalize ints (bM P i)=S1 at *;unfold PF;simp[JR,JQ,JP,JO,JN,JM,JL,JK,JJ,JI,Cn,k1,hw,g3,g4,ll,bE,hi,q,lo,Ry,ks,tk,Oq,sn,b1,b2,b3,b4,b5,b6,b7,b8,b9,ba,bb,idx,kB,aH,gn,dc,pl,dn,de]
 ·rw[if_neg q];unfold BT;generalize ints (o++[(i:Int)])=O2 at *;generalize ints o=O1 at *;generalize P.map bw=Pv at *;generalize ints (bM P i)=S1 at *;unfold PF;simp[JR,JQ,JP,JO,JN,JM,JL,JK,JJ,JI,Cn,k1,hw,g3,g4,ll,bE,hi,q,b1,b2,b3,b4,b5,b6,b7,b8,b9,ba,bb,idx,kB,aH,gn,dc,pl,dn,de]
theorem OH (P:List Pt) (hP:P.length<=900) (a:Int):∀(n i:Nat) (o:List Int),i+n=P.length->o.length<=i ->
  aW aq 0 (.loop PF) (BT (P.map bw) a o P.length i [])=some (.exit 0,BT (P.map bw) a (chG P a n i o) P.length P.length [(19,.bool false)])
 |0,i,o,hi,ho=>by
   obtain rfl:i=P.length:=by omega
   refine bn ?_;have e:chG P a 0 P.length o=o:=rfl;rw[e];unfold BT;generalize P.map bw=Pv at *;generalize ints o=O1 at *;unfold PF;simp[JR,JQ,JP,JO,JN,JM,JL,JK,JJ,JI,Cn]
 |n+1,i,o,hi,ho=>(aS (Xb P hP a o (by omega) i (by omega))).trans (OH P hP a n (i+1) (if ij P i=a then o++[(i:Int)] else o) (by omega) (by
   split
   ·simp; omega
   ·omega))
theorem aej (P:List Pt) (hP:P.length<=900) (a:Int):bJ aq nQo [.list 3 (P.map bw),.int .i64 a] []=some (.list 1 (ints (chA P a)),[]):=by
 have ll:(P.map bw).length=P.length:=aX _;rw[dZ sQo (au rfl)];unfold chA;by_cases h:-1<=a/\a<(P.length:Int)
 ·rw[if_pos h];have lp:=OH P hP a P.length 0 [] (by omega) (aJ _);have q1:¬a < -1:=by omega
  have q2:¬(P.length:Int)<=a:=by omega
  unfold BT at lp;rw[show ints []=[] from rfl] at lp;simp only[fH] at lp;generalize ints (chG P a P.length 0 [])=O1 at *;generalize P.map bw=Pv at *;unfold qQo cQo;simp[JR,JQ,JP,JO,JN,JM,JL,JK,JJ,JI,Cn,lp,ll,q1,q2,aH,bL,bC,eR,fW,dm,dc,pl]
 ·rw[if_neg h];rw[show ints []=[] from rfl];by_cases q1:a < -1
  ·generalize P.map bw=Pv at *;unfold qQo cQo;simp[JR,JQ,JP,JO,JN,JM,JL,JK,JJ,JI,Cn,ll,q1,aH,bL,bC,eR,fW,dm,dc,pl]
  ·have q2:(P.length:Int)<=a:=by omega
   generalize P.map bw=Pv at *;unfold qQo cQo;simp[JR,JQ,JP,JO,JN,JM,JL,JK,JJ,JI,Cn,ll,q1,q2,aH,bL,bC,eR,fW,dm,dc,pl]
/- hierarchy.same (as in HkL, without Check). -/
theorem adb (x y:Pt) (hx:x.2.2.length<=1000):bJ aq nQY [bw x,bw y] []=some (.bool (decide (x.1=y.1)&&decide (x.2.2=y.2.2)),[]):=by
 obtain⟨a,b,s⟩:=x;obtain⟨c,d,t⟩:=y;have h2:=ai5 s t (by simp at hx; omega);obtain⟨a1,a2,a3,a4,a5,a6,a7,a8,a9,aa,ab⟩:=bg s;obtain⟨b1,b2,b3,b4,b5,b6,b7,b8,b9,ba,bb⟩:=bg t;rw[dZ sQY (au rfl)];unfold bw;simp only;generalize decide (s=t)=z at *;generalize ints s=S1 at *;generalize ints t=T1 at *;unfold qQY cQY;by_cases q1:a=c
 ·subst q1;simp[aeO,aeN,h2,a1,a2,a3,a4,a5,a6,a7,a8,a9,aa,ab,b1,b2,b3,b4,b5,b6,b7,b8,b9,ba,bb,aH,bL,bC,eR,fW,dm,dc,pl,sQa7,iQa7]
 ·simp[aeO,aeN,q1,h2,a1,a2,a3,a4,a5,a6,a7,a8,a9,aa,ab,b1,b2,b3,b4,b5,b6,b7,b8,b9,ba,bb,aH,bL,bC,eR,fW,dm,dc,pl,sQa7,iQa7]
end Go.BmP
