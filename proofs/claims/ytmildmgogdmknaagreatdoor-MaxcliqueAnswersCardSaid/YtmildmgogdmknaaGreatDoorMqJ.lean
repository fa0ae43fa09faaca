/- ref26.Colours, Bound, Proper. -/
import Derived.Test.YtmildmgogdmknaaGreatDoorMqH
import Derived.Test.YtmildmgogdmknaaGreatDoorMbB
import Derived.Test.YtmildmgogdmknaaGreatDoorPeE
set_option linter.unusedSimpArgs false
set_option linter.unusedVariables false
set_option maxRecDepth 100000
set_option maxHeartbeats 8000000
open Bool renaming and_false → Ni, false_and → eh, true_and → dI
open Classical renaming byContradiction → ep
open Int renaming toNat_natCast → kc
open List renaming all_eq_true → gL, drop_eq_getElem_cons → aT, drop_eq_nil_of_le → Bo, drop_length → bK, drop_zero → bY, getD_eq_getElem?_getD → aJ, getElem?_eq_getElem → an, getElem_mem → cI, mem_cons → aK
open Nat renaming le_of_ble_eq_true → ah
open Option.some renaming inj → dv
namespace Go.BmP
open Go.Am Go.Bm
theorem FO {N:Nat} {Es:List Ed} (hG:jh (N:Int) Es) (hE:Es.length<1000000) {o ds:List Nat} (hp:l9 (dn N Es) (2 ^ N-1) o ds):bp aq nQm [.agg [.int .i64 N,.list 2 (bU Es)]] []=some (.dJ [.list 1 (ints (rN (dj N Es) N (ns o).reverse)),.int .i64 0],[]):=by
 have hN:N<=64:=by have:=hG.1.2; omega
 obtain⟨o',ds',Pb,ro⟩:=acx hG hE;obtain⟨rfl,rfl⟩:=TE hp Pb;obtain⟨ol,_,nd,om⟩:=vE hN hp;obtain⟨q1,q2,q3,q4⟩:=u7 hN ol nd om;have cr:=SU hG hE (ns o).reverse q1 q2 q3;have nl:(ns o).length=N:=by rw[iJ]; exact ol
 have lp:=Yg N Es (ns o) (by omega) (ns o).length [] (Nat.le_refl _) (by simp; omega);rw[List.take_length,List.nil_append] at lp;have l1:=af (ns o);have l2:(ints (ns o).reverse).length=N:=by rw[af]; exact q1
 have t2:(ints (ns o).reverse).take N=ints (ns o).reverse:=List.take_of_length_le (by omega);have po:=cY (ns o);have pr:=cY (ns o).reverse;have w:IntKind.i64.wrap (((ns o).length:Int)-1)=((ns o).length:Int)-1:=fE (by omega) (by omega);unfold rvQ jv at lp;rw[pM sQm (ah rfl)];rw[c8] at lp;generalize ints (rN (dj N Es) N (ns o).reverse)=R1 at *;generalize ints (ns o).reverse=O2 at *;generalize ints (ns o)=O1 at *;generalize bU Es=Y at *;unfold qQm cQm;simp[Td,Tc,Tb,Ta,S9,S8,S4,ro,cr,lp,l1,l2,t2,w,aO,bk,bf,dP,pl,sQK,iQK,sQr,iQr]
theorem acN {N:Nat} {Es:List Ed} (hG:jh (N:Int) Es) (hE:Es.length<1000000) (h0:0<N) {o ds:List Nat} (hp:l9 (dn N Es) (2 ^ N-1) o ds) {L:List Int} (hL:AF (dn N Es) N L) {K:Nat} (hK:Xv L=(K:Int)) (kN:K<64):bp aq nQk [.agg [.int .i64 N,.list 2 (bU Es)]] []=some (.dJ [.int .i64 ((min (cV (rN (dj N Es) N (ns o).reverse)).length (K+1):Nat):Int),.int .i64 0],[]):=by
 have hN:N<=64:=by have:=hG.1.2; omega
 have cr:=FO hG hE hp;obtain⟨L',hL',dr⟩:=acG hG hE;obtain rfl:=alc hL hL';rw[hK] at dr;obtain⟨ol,_,nd,om⟩:=vE hN hp;obtain⟨q1,q2,q3,q4⟩:=u7 hN ol nd om;have lg:(rN (dj N Es) N (ns o).reverse).length=N:=(xj (pn hG) _ _ q3 (qb _ _)).1.len;have no:=FX (rN (dj N Es) N (ns o).reverse) (by omega);have ls:=af (cV (rN (dj N Es) N (ns o).reverse));have pC:=cY (rN (dj N Es) N (ns o).reverse);have nz:¬(N:Int)=0:=by omega
 have nz2:¬N=0:=by omega
 have w1:IntKind.i64.wrap ((K:Int)+1)=(K:Int)+1:=fE (by omega) (by omega);rw[pM sQk (ah rfl)];clear lg;generalize cV (rN (dj N Es) N (ns o).reverse)=S at *;generalize ints (rN (dj N Es) N (ns o).reverse)=C1 at *;generalize ints S=S1 at *;generalize bU Es=Y at *;unfold qQk cQk;by_cases q:S.length<K+1
 ·have q1:(S.length:Int)<(K:Int)+1:=by omega
  have q2:min S.length (K+1)=S.length:=by omega
  have q3:¬(K:Int)+1<S.length:=by omega
  rw[q2];simp[NY,NX,NW,NV,NU,NT,cr,dr,no,ls,nz2,w1,q3,aO,bk,bf,dP,pl,sQm,iQm,sQG,iQG,sQH,iQH]
 ·have q1:¬(S.length:Int)<(K:Int)+1:=by omega
  have q2:((min S.length (K+1):Nat):Int)=(K:Int)+1:=by omega
  rw[q2];by_cases q3:(K:Int)+1<S.length
  ·simp[NY,NX,NW,NV,NU,NT,cr,dr,no,ls,nz2,w1,q3,aO,bk,bf,dP,pl,sQm,iQm,sQG,iQG,sQH,iQH]
  ·have q4:(S.length:Int)=(K:Int)+1:=by omega
   simp[NY,NX,NW,NV,NU,NT,cr,dr,no,ls,nz2,w1,q4,aO,bk,bf,dP,pl,sQm,iQm,sQG,iQG,sQH,iQH]
theorem abm:bp aq nQk [.agg [.int .i64 (0:Nat),.list 2 (bU [])]] []=some (.dJ [.int .i64 0,.int .i64 0],[]):=by
 have hG:jh ((0:Nat):Int) []:=eB.1 rfl;have cr:=FO hG (by simp) (o:=[]) (ds:=[]) .nil;rw[pM sQk (ah rfl)];generalize ints (rN (dj 0 []) 0 (ns []).reverse)=C1 at *;rw[fi,rZ] at *;unfold qQk cQk;simp[NY,NX,NW,NV,NU,NT,cr,aO,bk,bf,dP,pl,sQm,iQm]
def Ki (N:Nat) (Es:List Ed) (C:List Int):Bool:=decide (C.length=N)&&(C.all (fun x=>decide (0<=x))&&Es.all fun e=>!decide (C.getD e.1.toNat (-1)=C.getD e.2.toNat (-1)))
def rpS (N:Nat) (Es:List Ed) (C:List Int) (i:Int) (J:Env):St:=⟨(1,.list 1 (ints C))::(2,.ptr 0 0)::(5,.int .i64 i)::J,jv N Es⟩
theorem SM (N:Nat) (Es:List Ed) (C:List Int) (hl:C.length<1000000):∀(m i:Nat),i+m=C.length->aW aq 0 (.loop Ug) (rpS N Es C i [])=if (C.drop i).all (fun x=>decide (0<=x))=true then some (.exit 0,rpS N Es C C.length [(20,.bool false)]) else some (.ret,⟨[(4,.bool false)],[]⟩)
 |0,i,hi=>by
   obtain rfl:i=C.length:=by omega
   rw[bK,List.all_nil,if_pos rfl];refine bq ?_;have lC:=af C;unfold rpS jv Ug;generalize ints C=C1 at *;generalize bU Es=Y at *;simp[xQ,xP,xO,xN,lC]
 |m+1,i,hi=>by
   have bD:i<C.length:=by omega
   have i1:(i:Int)<C.length:=by omega
   have hw:=dM (i:=i) (by omega);have hx:=gC (k:=.i64) (i:=(i:Int)) (n:=C.length) (by omega) i1;have g4:∀h,(ints C)[i]'h=.int .i64 C[i]:=fun h=>aM _ _ _
   have lC:=af C;rw[aT bD,List.all_cons];by_cases q:0<=C[i]
   ·rw[decide_eq_true q,dI];have q1:¬C[i]<0:=by omega
    refine (aS ?_).trans (SM N Es C hl m (i+1) (by omega));unfold rpS jv Ug;generalize C[i]=x at *;generalize ints C=C1 at *;generalize bU Es=Y at *;simp[xQ,xP,xO,xN,i1,bD,hw,g4,lC,q1,idx]
   ·rw[decide_eq_false q,eh,if_neg (by decide)];have q1:C[i]<0:=by omega
    refine dp ?_;unfold rpS jv Ug;generalize C[i]=x at *;generalize ints C=C1 at *;generalize bU Es=Y at *;simp[xQ,xP,xO,xN,i1,bD,g4,lC,q1,idx]
def rqP (N:Nat) (Es:List Ed) (C:List Int) (i:Int) (J:Env):St:=⟨(1,.list 1 (ints C))::(2,.ptr 0 0)::(6,.int .i64 i)::J,jv N Es⟩
theorem SL (N:Nat) (Es:List Ed) (C:List Int) (hl:C.length<1000000) (hE:Es.length<1000000) (hb:∀e∈Es,(0<=e.1/\e.1<C.length)/\(0<=e.2/\e.2<C.length)):∀(m i:Nat),i+m=Es.length->aW aq 0 (.loop Uf) (rqP N Es C i [])=if ((Es.drop i).all fun e=>!decide (C.getD e.1.toNat (-1)=C.getD e.2.toNat (-1)))=true then some (.exit 2,rqP N Es C Es.length [(32,.bool false)]) else some (.ret,⟨[(4,.bool false)],[]⟩)
 |0,i,hi=>by
   obtain rfl:i=Es.length:=by omega
   rw[bK,List.all_nil,if_pos rfl];refine bq ?_;have lE:=az Es;unfold rqP jv Uf;generalize ints C=C1 at *;generalize bU Es=Y at *;simp[xL,qw,qv,qu,lE,aO]
 |m+1,i,hi=>by
   have bD:i<Es.length:=by omega
   have i1:(i:Int)<Es.length:=by omega
   have hw:=dM (i:=i) (by omega);have hx:=gC (k:=.i64) (i:=(i:Int)) (n:=Es.length) (by omega) i1;obtain⟨b1,b2⟩:=hb Es[i] (cI bD);rw[aT bD,List.all_cons];obtain⟨u,hu⟩:∃u:Nat,Es[i].1=(u:Int):=⟨Es[i].1.toNat,by omega⟩;obtain⟨v,hv⟩:∃v:Nat,Es[i].2=(v:Int):=⟨Es[i].2.toNat,by omega⟩;have ul:u<C.length:=by omega
   have vl:v<C.length:=by omega
   have e1:C.getD Es[i].1.toNat (-1)=C[u]:=by rw[hu,kc,aJ,an ul]; rfl
   have e2:C.getD Es[i].2.toNat (-1)=C[v]:=by rw[hv,kc,aJ,an vl]; rfl
   rw[e1,e2];have ih:=SL N Es C hl hE hb m (i+1) (by omega);have g0:(bU Es)[i]?=some (.agg [.int .i64 u,.int .i64 v]):=by rw[aQ,an bD]; show some (AV.agg [.int .i64 Es[i].1,.int .i64 Es[i].2])=_; rw[hu,hv]
   have g1:∀h,(bU Es)[i]'h=.agg [.int .i64 u,.int .i64 v]:=fun h=>by rw[an h] at g0; exact dv g0
   have lE:=az Es;have lC:=af C;have cu:∀h,(ints C)[u]'h=.int .i64 C[u]:=fun h=>aM _ _ _;have cv:∀h,(ints C)[v]'h=.int .i64 C[v]:=fun h=>aM _ _ _
   have u1:(u:Int)<C.length:=by omega
   have v1:(v:Int)<C.length:=by omega
   have hu1:=gC (k:=.i64) (i:=(u:Int)) (n:=C.length) (by omega) u1;have hv1:=gC (k:=.i64) (i:=(v:Int)) (n:=C.length) (by omega) v1;clear e1 e2 hu hv b1 b2 hb;by_cases q:C[u]=C[v]
   ·rw[decide_eq_true q,Bool.not_true,eh,if_neg (by decide)];refine dp ?_;unfold rqP jv Uf;clear ih;generalize C[u]=x at *;generalize C[v]=y at *;subst q;generalize ints C=C1 at *;generalize bU Es=Y at *;simp[xL,qw,qv,qu,i1,bD,g1,lE,lC,cu,cv,u1,v1,ul,vl,idx,aO]
   ·rw[decide_eq_false q,Bool.not_false,dI];refine (aS ?_).trans ih;clear ih;unfold rqP jv Uf;generalize C[u]=x at *;generalize C[v]=y at *;generalize ints C=C1 at *;generalize bU Es=Y at *;simp[xL,qw,qv,qu,i1,bD,hw,g1,lE,lC,cu,cv,u1,v1,ul,vl,q,idx,aO]
theorem acu {N:Nat} {Es:List Ed} (hG:jh (N:Int) Es) (hE:Es.length<1000000) (C:List Int) (hl:C.length<1000000):bp aq nQt [.agg [.int .i64 N,.list 2 (bU Es)],.list 1 (ints C)] []=some (.bool (Ki N Es C),[]):=by
 have hN:N<=64:=by have:=hG.1.2; omega
 have g:=iM N Es (by omega);rw[eB.2 hG] at g;have lC:=af C;rw[pM sQt (ah rfl)];unfold Ki;by_cases q:C.length=N
 ·rw[decide_eq_true q,dI];have l0:=SM N Es C hl C.length 0 (by omega);have l1:=SL N Es C hl hE (fun e he=>by have b:=hG.2.2 e he; exact⟨⟨by omega,by omega⟩,⟨by omega,by omega⟩⟩) Es.length 0 (by omega);rw[bY] at l0 l1;generalize (C.all fun x=>decide (0<=x))=b0 at *;generalize (Es.all fun e=>!decide (C.getD e.1.toNat (-1)=C.getD e.2.toNat (-1)))=b1 at *;rw[fi] at l0 l1;unfold rpS jv at l0;unfold rqP jv at l1;generalize ints C=C1 at *;generalize bU Es=Y at *;unfold qQt cQt;cases b0
  ·rw[if_neg (by decide)] at l0;simp[xU,xT,xS,xR,xM,qt,g,l0,lC,q,aO,bk,bf,FD,Gs]
  ·rw[if_pos rfl] at l0;cases b1
   ·rw[if_neg (by decide)] at l1;simp[xU,xT,xS,xR,xM,qt,g,l0,l1,lC,q,aO,bk,bf,FD,Gs]
   ·rw[if_pos rfl] at l1;simp[xU,xT,xS,xR,xM,qt,g,l0,l1,lC,q,aO,bk,bf,FD,Gs]
 ·rw[decide_eq_false q,eh];have q1:¬(C.length:Int)=N:=by omega
  generalize ints C=C1 at *;generalize bU Es=Y at *;unfold qQt cQt;simp[xU,xT,xS,xR,xM,qt,g,lC,q1,aO,bk,bf,FD,Gs]
/- What the functions of maxclique and of ref26 return where the graph is refused. -/
theorem alm (n:Int) (Fs:List Ed) (hE:Fs.length<1000000) (e:Int) (he:tt n Fs=e) (h0:e≠0):bp aq WU [.agg [.int .i64 n,.list 2 (bU Fs)]] []=some (.dJ [.list 1 [],.int .i64 e],[]):=by
 rw[pM sQh (ah rfl)];have ck:=im n Fs (by omega);rw[he] at ck;unfold qQh cQh;generalize bU Fs=Y at *;simp[JE,JD,JC,JB,JA,Jz,Jy,Jx,Ck,ck,Mw,O7,h0,aO,bk,bf]
theorem alo (n:Int) (Fs:List Ed) (hE:Fs.length<1000000) (e:Int) (he:tt n Fs=e) (h0:e≠0) (s:List Int) (k:Int):bp aq nQv [.agg [.int .i64 n,.list 2 (bU Fs)],.list 1 (ints s),.int .i64 k] []=some (.dJ [.bool false,.int .i64 e],[]):=by
 rw[pM sQv (ah rfl)];have ck:=im n Fs (by omega);rw[he] at ck;unfold qQv cQv;generalize bU Fs=Y at *;simp[NN,NM,NL,NK,NJ,NI,NH,NG,NF,FP,ck,Mw,O7,h0,aO,bk,bf]
theorem am9 (n:Int) (Fs:List Ed) (hE:Fs.length<1000000) (e:Int) (he:tt n Fs=e) (h0:e≠0) (s:List Int):bp aq Z2 [.agg [.int .i64 n,.list 2 (bU Fs)],.list 1 (ints s)] []=some (.dJ [.list 1 [],.int .i64 e],[]):=by
 rw[pM sQq (ah rfl)];have ck:=im n Fs (by omega);rw[he] at ck;unfold qQq cQq;generalize bU Fs=Y at *;simp[BU,BT,BS,BR,BQ,BP,BO,BN,ur,ck,Mw,O7,h0,aO,bk,bf]
theorem am8 (n:Int) (Fs:List Ed) (hE:Fs.length<1000000) (e:Int) (he:tt n Fs=e) (h0:e≠0) (s:List Int):bp aq TQ [.agg [.int .i64 n,.list 2 (bU Fs)],.list 1 (ints s)] []=some (.bool false,[]):=by
 rw[pM sQs (ah rfl)];have ck:=im n Fs (by omega);rw[he] at ck;unfold qQs cQs;generalize bU Fs=Y at *;simp[NR,NQ,NP,NO,ck,Mw,O7,h0,aO,bk,bf]
theorem ajO (n:Int) (Fs:List Ed) (hE:Fs.length<1000000) (e:Int) (he:tt n Fs=e) (h0:e≠0):bp aq nQi [.agg [.int .i64 n,.list 2 (bU Fs)]] []=some (.dJ [.list 1 [],.int .i64 e],[]):=by
 rw[pM sQi (ah rfl)];have ck:=iM n Fs (by omega);rw[he] at ck;unfold qQi cQi;generalize bU Fs=Y at *;simp[EA,Ez,Ey,Ew,Eu,Er,Ep,wi,ck,FD,Gs,h0,aO,bk,bf]
theorem ajP (n:Int) (Fs:List Ed) (hE:Fs.length<1000000) (e:Int) (he:tt n Fs=e) (h0:e≠0) (s:List Int) (k:Int):bp aq nQw [.agg [.int .i64 n,.list 2 (bU Fs)],.list 1 (ints s),.int .i64 k] []=some (.dJ [.bool false,.int .i64 e],[]):=by
 rw[pM sQw (ah rfl)];have ck:=iM n Fs (by omega);rw[he] at ck;unfold qQw cQw;generalize bU Fs=Y at *;simp[BK,BJ,BI,BH,BG,BF,BE,BD,BC,BB,ui,ck,FD,Gs,h0,aO,bk,bf]
theorem amp (n:Int) (Fs:List Ed) (hE:Fs.length<1000000) (e:Int) (he:tt n Fs=e) (h0:e≠0) (s:List Int):bp aq Z0 [.agg [.int .i64 n,.list 2 (bU Fs)],.list 1 (ints s)] []=some (.dJ [.list 1 [],.int .i64 e],[]):=by
 rw[pM sQr (ah rfl)];have ck:=iM n Fs (by omega);rw[he] at ck;unfold qQr cQr;generalize bU Fs=Y at *;simp[vp,vo,vm,vk,vj,vh,vf,ve,oM,ox,ck,FD,Gs,h0,aO,bk,bf]
theorem amn (n:Int) (Fs:List Ed) (hE:Fs.length<1000000) (e:Int) (he:tt n Fs=e) (h0:e≠0) (s:List Int):bp aq nQt [.agg [.int .i64 n,.list 2 (bU Fs)],.list 1 (ints s)] []=some (.bool false,[]):=by
 rw[pM sQt (ah rfl)];have ck:=iM n Fs (by omega);rw[he] at ck;unfold qQt cQt;generalize bU Fs=Y at *;simp[xU,xT,xS,xR,xM,qt,ck,FD,Gs,h0,aO,bk,bf]
theorem amo (n:Int) (Fs:List Ed) (hE:Fs.length<1000000) (e:Int) (he:tt n Fs=e) (h0:e≠0):bp aq nQK [.agg [.int .i64 n,.list 2 (bU Fs)]] []=some (.dJ [.list 1 [],.int .i64 e],[]):=by
 rw[pM sQK (ah rfl)];have ck:=iM n Fs (by omega);rw[he] at ck;unfold qQK cQK;generalize bU Fs=Y at *;simp[Hp,Ho,Hn,Hm,Hk,Hj,zH,ck,FD,Gs,h0,aO,bk,bf]
theorem acK (n:Int) (Fs:List Ed) (hE:Fs.length<1000000) (e:Int) (he:tt n Fs=e) (h0:e≠0):bp aq nQm [.agg [.int .i64 n,.list 2 (bU Fs)]] []=some (.dJ [.list 1 [],.int .i64 e],[]):=by
 rw[pM sQm (ah rfl)];have ck:=amo n Fs hE e he h0;unfold qQm cQm;generalize bU Fs=Y at *;simp[Td,Tc,Tb,Ta,S9,S8,S4,ck,sQK,iQK,h0,aO,dP,pl,bk,bf]
theorem amq (n:Int) (Fs:List Ed) (hE:Fs.length<1000000) (e:Int) (he:tt n Fs=e) (h0:e≠0):bp aq nQk [.agg [.int .i64 n,.list 2 (bU Fs)]] []=some (.dJ [.int .i64 0,.int .i64 e],[]):=by
 rw[pM sQk (ah rfl)];have ck:=acK n Fs hE e he h0;unfold qQk cQk;generalize bU Fs=Y at *;simp[NY,NX,NW,NV,NU,NT,ck,sQm,iQm,h0,aO,dP,pl,bk,bf]
/- maxclique.Proper of any list, Colour of a bad order, Bound and Colours of a graph that is refused. -/
theorem agB (H:Heap) (hH:afQ H) (x:Int) (h:x<0):bp aq Sf [.int .i64 x] H=some (.bool true,H):=by
 obtain⟨r1,r2,r3,r4,r5⟩:=hH;rw[pM sQU (ah rfl)];unfold qQU cQU;simp[ads,adr,h,iD,fu,r1,r4,Jb,bk,bf]
theorem aax (N:Int) (Y:List AV) (C:List Int) (hl:C.length<1000000):∀n i:Nat,i+n=C.length->(∃x∈C.drop i,x<0)->∃j:Nat,aW aq 2 (.loop Dv) ⟨[(0,.list 1 (ints C)),(1,.func (.func Sf) [] []),(7,.int .i64 C.length),(8,.int .i64 i)],pN N Y C⟩=some (.ret,⟨[(4,.int .i64 j)],pN N Y C⟩)
 |0,i,e,h=>by
   obtain⟨x,hx,_⟩:=h;rw[Bo (by omega)] at hx;cases hx
 |n+1,i,e,h=>by
   have hi:i<C.length:=by omega
   have i1:(i:Int)<C.length:=by omega
   have w:=dM (i:=i) (by omega);have g:∀h,(ints C)[i]'h=.int .i64 C[i]:=fun h=>aM _ _ _;have lC:=af C;have pC:=cY C;have hR:afQ (pN N Y C):=⟨fun _=>rfl,rfl,fun _ _=>rfl,fun _=>rfl,fun _ _=>rfl⟩;by_cases q:0<=C[i]
   ·have cv:=Zx (pN N Y C) hR C[i] q
    obtain⟨j,ih⟩:=aax N Y C hl n (i+1) (by omega) (by
     obtain⟨x,hx,x0⟩:=h;rw[aT hi] at hx;rcases aK.1 hx with rfl|hx
     ·omega
     ·exact⟨x,hx,x0⟩)
    refine⟨j,(aS ?_).trans ih⟩;clear ih h;unfold pN at cv ⊢;generalize C[i]=x at *;generalize ints C=C1 at *;unfold Dv;simp[CX,CW,CV,CU,CT,i1,hi,w,cv,g,lC,idx,sQU,fu,cX,fa,dD,dt,dH,gR,jL,s5,gY,rI,o9,jS]
   ·have cv:=agB (pN N Y C) hR C[i] (by omega);refine⟨i,dp ?_⟩;clear h;unfold pN at cv ⊢;generalize C[i]=x at *;generalize ints C=C1 at *;unfold Dv;simp[CX,CW,CV,CU,CT,i1,hi,cv,g,lC,idx,sQU,fu,cX,fa,dD,dt,dH,gR,jL,s5,gY,rI,o9,jS]
theorem akB (N:Int) (Y:List AV) (C:List Int) (u v:Nat) (hu:u<C.length) (hv:v<C.length) (hl:C.length<1000000) (hn:C.getD u (-1)=C.getD v (-1)):bp aq Se [.agg [.int .i64 u,.int .i64 v],.ptr 1 0] (pN N Y C)=some (.bool true,pN N Y C):=by
 have g1:C.getD u (-1)=C[u]:=by rw[aJ,an hu]; rfl
 have g2:C.getD v (-1)=C[v]:=by rw[aJ,an hv]; rfl
 rw[g1,g2] at hn;have e1:∀h,(ints C)[u]'h=.int .i64 C[u]:=fun h=>aM _ _ _;have e2:∀h,(ints C)[v]'h=.int .i64 C[v]:=fun h=>aM _ _ _;have lC:=af C;have i1:(u:Int)<C.length:=by omega
 have i2:(v:Int)<C.length:=by omega
 rw[pM sQW (ah rfl)];unfold pN;generalize C[u]=x at *;generalize C[v]=y at *;subst hn;generalize ints C=C1 at *;unfold qQW cQW;simp[ado,adn,hu,hv,e1,e2,lC,i1,i2,idx,aO,bk,bf,iD,fu,fI,dq,cZ,kM,iB,lM,kB]
theorem aaw (N:Int) (Es:List Ed) (C:List Int) (hl:C.length<1000000) (hE:Es.length<1000000) (hr:∀e∈Es,(0<=e.1/\e.1<C.length)/\(0<=e.2/\e.2<C.length)) (Y:List AV):∀n i:Nat,i+n=Es.length->(∃e∈Es.drop i,C.getD e.1.toNat (-1)=C.getD e.2.toNat (-1))->∃j:Nat,aW aq 2 (.loop Du) ⟨[(0,.list 2 (bU Es)),(1,.func (.func Se) [] [.ptr 1 0]),(7,.int .i64 Es.length),(8,.int .i64 i)],pN N Y C⟩=some (.ret,⟨[(4,.int .i64 j)],pN N Y C⟩)
 |0,i,e,h=>by
   obtain⟨x,hx,_⟩:=h;rw[Bo (by omega)] at hx;cases hx
 |n+1,i,e,h=>by
   have hi:i<Es.length:=by omega
   have i1:(i:Int)<Es.length:=by omega
   have w:=dM (i:=i) (by omega);obtain⟨b1,b2⟩:=hr Es[i] (cI hi);obtain⟨u,hu⟩:∃u:Nat,Es[i].1=(u:Int):=⟨Es[i].1.toNat,by omega⟩;obtain⟨v,hv⟩:∃v:Nat,Es[i].2=(v:Int):=⟨Es[i].2.toNat,by omega⟩;have g0:(bU Es)[i]?=some (.agg [.int .i64 u,.int .i64 v]):=by rw[aQ,an hi]; show some (AV.agg [.int .i64 Es[i].1,.int .i64 Es[i].2])=_; rw[hu,hv]
   have g:∀h,(bU Es)[i]'h=.agg [.int .i64 u,.int .i64 v]:=fun h=>by rw[an h] at g0; exact dv g0
   have lE:=az Es;by_cases q:C.getD u (-1)=C.getD v (-1)
   ·have cv:=akB N Y C u v (by omega) (by omega) hl q;refine⟨i,dp ?_⟩;clear h hr;unfold pN at cv ⊢;generalize ints C=C1 at *;generalize bU Es=E1 at *;clear b1 b2 hu hv;unfold Du;simp[CP,CO,CN,CM,CL,i1,hi,cv,g,lE,idx,sQW,fu,cX,fa,dD,dt,dH,gR,jL,s5,gY,rI,o9,jS]
   ·have cv:=Zw N Y C u v (by omega) (by omega) hl q
    obtain⟨j,ih⟩:=aaw N Es C hl hE hr Y n (i+1) (by omega) (by
     obtain⟨x,hx,x0⟩:=h;rw[aT hi] at hx;rcases aK.1 hx with rfl|hx
     ·rw[hu,hv] at x0;exact absurd x0 q
     ·exact⟨x,hx,x0⟩)
    refine⟨j,(aS ?_).trans ih⟩;clear ih h hr;unfold pN at cv ⊢;generalize ints C=C1 at *;generalize bU Es=E1 at *;clear b1 b2 hu hv;unfold Du;simp[CP,CO,CN,CM,CL,i1,hi,w,cv,g,lE,idx,sQW,fu,cX,fa,dD,dt,dH,gR,jL,s5,gY,rI,o9,jS]
theorem ah5 (N:Int) (Y:List AV) (C:List Int) (hl:C.length<1000000) (h:∃x∈C,x<0):bp aq nQT [.list 1 (ints C),.func (.func Sf) [] []] (pN N Y C)=some (.bool true,pN N Y C):=by
 obtain⟨j,lp⟩:=aax N Y C hl C.length 0 (by omega) (by rwa [bY])
 have i:bp aq KL [.list 1 (ints C),.func (.func Sf) [] []] (pN N Y C)=some (.int .i64 j,pN N Y C):=by
  rw[fi] at lp;have lC:=af C;rw[pM sQb0 (ah rfl)];unfold pN at lp ⊢;clear h;generalize ints C=C1 at *;unfold qQb0 cQb0;simp[CZ,CY,CS,lp,lC,bk,bf,iD,fu,fI,dq,cZ,kM,iB,lM,kB]
 have pC:=cY C;have j0:(0:Int)<=j:=by omega
 rw[pM sQT (ah rfl)];unfold pN at i ⊢;clear h lp;generalize ints C=C1 at *;unfold qQT cQT;simp[adu,adt,i,j0,bk,bf,iD,fu,cX,fI,dq,cZ,kM,iB,lM,kB,sQb0,iQb0,fa,dD,dt,dH,gR,jL,s5,gY,rI,o9,jS]
theorem ah4 (N:Int) (Y:List AV) (Es:List Ed) (C:List Int) (hl:C.length<1000000) (hE:Es.length<1000000) (hr:∀e∈Es,(0<=e.1/\e.1<C.length)/\(0<=e.2/\e.2<C.length)) (h:∃e∈Es,C.getD e.1.toNat (-1)=C.getD e.2.toNat (-1)):bp aq nQV [.list 2 (bU Es),.func (.func Se) [] [.ptr 1 0]] (pN N Y C)=some (.bool true,pN N Y C):=by
 obtain⟨j,lp⟩:=aaw N Es C hl hE hr Y Es.length 0 (by omega) (by rwa [bY])
 have i:bp aq KK [.list 2 (bU Es),.func (.func Se) [] [.ptr 1 0]] (pN N Y C)=some (.int .i64 j,pN N Y C):=by
  rw[fi] at lp;have lE:=az Es;rw[pM sQb1 (ah rfl)];unfold pN at lp ⊢;clear h hr;generalize ints C=C1 at *;generalize bU Es=E1 at *;unfold qQb1 cQb1;simp[CR,CQ,CK,lp,lE,bk,bf,iD,fu,fI,dq,cZ,kM,iB,lM,kB]
 have pC:=EC Es;have j0:(0:Int)<=j:=by omega
 rw[pM sQV (ah rfl)];unfold pN at i ⊢;clear h hr lp;generalize ints C=C1 at *;generalize bU Es=E1 at *;unfold qQV cQV;simp[adq,adp,i,j0,bk,bf,iD,fu,cX,fI,dq,cZ,kM,iB,lM,kB,sQb1,iQb1,fa,dD,dt,dH,gR,jL,s5,gY,rI,o9,jS]
theorem aes {N:Nat} {Es:List Ed} (hG:jh (N:Int) Es) (hE:Es.length<1000000) (C:List Int) (hl:C.length<1000000):bp aq TQ [.agg [.int .i64 N,.list 2 (bU Es)],.list 1 (ints C)] []=some (.bool (Ki N Es C),[]):=by
 have hN:=hG.1.2;have g:=im N Es (by omega);rw[eB.2 hG] at g;have lC:=af C;have pC:=cY C;by_cases q:C.length=N
 case neg=>
  have q1:¬(C.length:Int)=N:=by omega
  rw[show Ki N Es C=false by unfold Ki; rw[decide_eq_false q,eh]];rw[pM sQs (ah rfl)];generalize ints C=C1 at *;generalize bU Es=Y at *;unfold qQs cQs;simp[NR,NQ,NP,NO,g,lC,q1,aO,bk,bf,Mw,O7]
 by_cases q0:∀x∈C,0<=x
 case neg=>
  have hb:∃x∈C,x<0:=by
   apply ep;intro hh
   exact q0 fun x hx=>by
    by_cases z:0<=x
    ·exact z
    ·exact absurd ⟨x,hx,by omega⟩ hh
  have c1:=ah5 N (bU Es) C hl hb
  rw[show Ki N Es C=false by
   unfold Ki
   rw[show (C.all fun x=>decide (0<=x))=false by
    rw[Bool.eq_false_iff];intro hh;exact q0 fun x hx=>by have:=gL.1 hh x hx; simpa using this,eh,Ni]]
  rw[pM sQs (ah rfl)];unfold pN at c1;clear q0 hb;generalize ints C=C1 at *;generalize bU Es=Y at *;unfold qQs cQs;simp[NR,NQ,NP,NO,g,c1,lC,q,aO,bk,bf,fu,cX,Mw,O7,sQT,iQT,fa,dD,dt,dH,gR,jL,s5,gY,rI,o9,jS]
 by_cases q2:∀e∈Es,C.getD e.1.toNat (-1)≠C.getD e.2.toNat (-1)
 case pos=>
  rw[show Ki N Es C=true by
   unfold Ki;rw[decide_eq_true q,dI,Bool.and_eq_true,gL,gL];exact⟨fun x hx=>decide_eq_true (q0 x hx),fun e he=>by rw[decide_eq_false (q2 e he)]; rfl⟩]
  exact Wz hG hE C q q0 q2
 have hb:∃e∈Es,C.getD e.1.toNat (-1)=C.getD e.2.toNat (-1):=by
  apply ep;intro hh;exact q2 fun e he z=>hh ⟨e,he,z⟩
 have c1:=aa3 N (bU Es) C (by omega) q0
 have c2:=ah4 N (bU Es) Es C hl hE (fun e he=>by
  have b:=hG.2.2 e he;exact⟨⟨by omega,by omega⟩,⟨by omega,by omega⟩⟩) hb
 rw[show Ki N Es C=false by
  unfold Ki
  rw[show (Es.all fun e=>!decide (C.getD e.1.toNat (-1)=C.getD e.2.toNat (-1)))=false by
   rw[Bool.eq_false_iff];intro hh;exact q2 fun e he z=>by have:=gL.1 hh e he; rw[decide_eq_true z] at this; exact absurd this (by decide),Ni,Ni]]
 rw[pM sQs (ah rfl)];unfold pN at c1 c2;clear q0 q2 hb;generalize ints C=C1 at *;generalize bU Es=Y at *;unfold qQs cQs;simp[NR,NQ,NP,NO,g,c1,c2,lC,q,aO,bk,bf,fu,cX,Mw,O7,sQT,iQT,sQV,iQV,fa,dD,dt,dH,gR,jL,s5,gY,rI,o9,jS]
theorem aev {N:Nat} {Es:List Ed} (hG:jh (N:Int) Es) (hE:Es.length<1000000) (O:List Int) (hl:O.length<=1000) (hb:¬(O.length=N/\cV O=dN N)):bp aq Z2 [.agg [.int .i64 N,.list 2 (bU Es)],.list 1 (ints O)] []=some (.dJ [.list 1 [],.int .i64 4],[]):=by
 have hN:N<=64:=by have:=hG.1.2; omega
 have g:=im N Es (by omega);rw[eB.2 hG] at g;have lO:=af O;rw[pM sQq (ah rfl)];by_cases q:O.length=N
 ·have of:=QX O (by omega);have rg:=Ky (N:Int);have sl:=iI O;have eq:=aaO (cV O) (dN (N:Int)) (by omega);rw[decide_eq_false (fun h=>hb ⟨q,h⟩)] at eq;have p1:=cY (cV O);have p2:=cY (dN (N:Int));generalize ints (cV O)=S1 at *;generalize ints (dN (N:Int))=R2 at *;generalize ints O=O1 at *;generalize bU Es=Y at *;unfold qQq cQq;simp[BU,BT,BS,BR,BQ,BP,BO,BN,ur,g,of,rg,eq,lO,q,aO,bk,bf,dP,pl,Mw,O7,sQF,iQF,sQM,iQM,sQL,iQL]
 ·have q1:¬(O.length:Int)=N:=by omega
  generalize ints O=O1 at *;generalize bU Es=Y at *;unfold qQq cQq;simp[BU,BT,BS,BR,BQ,BP,BO,BN,ur,g,lO,q1,aO,bk,bf,Mw,O7]
theorem anF (n:Int) (Fs:List Ed) (hE:Fs.length<1000000) (e:Int) (he:tt n Fs=e) (h0:e≠0):bp aq nQI [.agg [.int .i64 n,.list 2 (bU Fs)]] [some [.int .i64 n,.list 2 (bU Fs)]]=some (.dJ [.list 1 [],.int .i64 e],[some [.int .i64 n,.list 2 (bU Fs)]]):=by
 have g:=im n Fs (by omega);rw[he] at g;rw[pM sQI (ah rfl)];generalize bU Fs=Y at *;unfold qQI cQI;simp[adC,adB,adA,adz,adx,adw,g,h0,aO,bk,bf,fu,cX,Mw,O7]
theorem aeu (n:Int) (Fs:List Ed) (hE:Fs.length<1000000) (e:Int) (he:tt n Fs=e) (h0:e≠0):bp aq Sd [.agg [.int .i64 n,.list 2 (bU Fs)]] []=some (.dJ [.list 1 [],.int .i64 e],[]):=by
 have g:=anF n Fs hE e he h0;rw[pM sQl (ah rfl)];generalize bU Fs=Y at *;unfold qQl cQl;simp[acT,acS,acR,acQ,acP,acO,g,h0,aO,bk,bf,fu,cX,fa,dD,dt,dH,gR,jL,s5,gY,rI,o9,jS,sQI,iQI]
theorem ana (n:Int) (Fs:List Ed) (hE:Fs.length<1000000) (e:Int) (he:tt n Fs=e) (h0:e≠0):bp aq TU [.agg [.int .i64 n,.list 2 (bU Fs)]] []=some (.dJ [.int .i64 0,.int .i64 e],[]):=by
 have g:=aeu n Fs hE e he h0;rw[pM sQj (ah rfl)];generalize bU Fs=Y at *;unfold qQj cQj;simp[Tl,Tk,Tj,Ti,Th,Tg,Tf,Te,g,h0,aO,bk,bf,dP,pl,sQl,iQl]
end Go.BmP
