/- ref10.core, Numbers, Degeneracy. -/
import Derived.Test.YtmildmgogdmknaaGreatDoorDegC
import Derived.Test.YtmildmgogdmknaaGreatDoorT06
import Derived.Test.YtmildmgogdmknaaGreatDoorCaA
set_option linter.unusedSimpArgs false
set_option linter.unusedVariables false
set_option maxRecDepth 100000
set_option maxHeartbeats 8000000
open List renaming drop_eq_getElem_cons → aT, drop_length → bK, drop_zero → bY, foldl_cons → fN, foldl_nil → rL, getElem_mem → cI, replicate → aH
open Nat renaming le_of_ble_eq_true → ah
namespace Go.BmP
open Go.Am Go.Bm
theorem IY {A:List Nat} {N k:Nat} {l:List Int} (h:Crs A N k l):l.length<=N:=by
 have:=Dp (A:=l) (B:=(List.range N).map fun n=>((n:Nat):Int)) (h.up.imp fun{a b} h=>by omega) fun x hx=>List.mem_map.2 ⟨x.toNat,List.mem_range.2 (by have:=h.bd x hx; omega),by have:=h.bd x hx; omega⟩
 rwa [List.length_map,List.length_range] at this
theorem ER {N:Nat} {Es:List Ed} (hG:jh (N:Int) Es):∀v,v<N->dj N Es v=fG ((dn N Es).getD v 0):=fun v hv=>(RV hG hv).symm
def rcSt (N:Nat) (Es:List Ed) (k:Int) (l:List Int) (b:Bool) (W:List Int) (i:Int) (J:Env):St:=⟨(1,.int .i64 k)::(2,.ptr 0 0)::(5,.list 1 (ints l))::(6,.bool b)::(13,.list 1 (ints W))::(14,.int .i64 W.length)::(15,.int .i64 i)::J,jv N Es⟩
theorem acM {N:Nat} {Es:List Ed} (hG:jh (N:Int) Es) (hE:Es.length<1000000) (k:Nat) (W:List Int) (hl:W.length<=64) (hW:∀v∈W,0<=v/\v<(N:Int)):∀(m i:Nat) (l:List Int) (b:Bool),i+m=W.length->Crs (dn N Es) N k l->aW aq 0 (.loop K6) (rcSt N Es k l b W i [])=some (.exit 2,rcSt N Es k ((W.drop i).foldl (Pw (dj N Es) k) (l,b)).1 ((W.drop i).foldl (Pw (dj N Es) k) (l,b)).2 W W.length [(16,.bool false)])
 |0,i,l,b,hi,_=>by
   obtain rfl:i=W.length:=by omega
   rw[bK,rL];refine bq ?_;unfold rcSt jv K6;generalize ints W=W1 at *;generalize ints l=L1 at *;generalize bU Es=Y at *;simp[zm,zl,zj,zi,tV]
 |m+1,i,l,b,hi,hc=>by
   have hN:N<=64:=by have:=hG.1.2; omega
   have bD:i<W.length:=by omega
   have hv:=hW W[i] (cI bD);rw[aT bD,fN];have k1:(i:Int)<W.length:=by omega
   have hw:=dM (i:=i) (by omega);have hx:=gC (k:=.i64) (i:=(i:Int)) (n:=W.length) (by omega) k1;have g4:∀h,(ints W)[i]'h=.int .i64 W[i]:=fun h=>aM _ _ _
   have lw:=af W;have lc:=IY hc;have nr:=ta hG hE hv.1 hv.2;have nl:=Q4 hG hv.1 hv.2;have mr:=T3 (B9 N Es W[i]) l (by omega) (by omega);have ml:=af (meet (B9 N Es W[i]) l);have en:dj N Es W[i].toNat=B9 N Es W[i]:=by unfold dj; rw[show ((W[i].toNat:Nat):Int)=W[i] by omega]
   by_cases q:((meet (B9 N Es W[i]) l).length:Int)<k
   ·have e:Pw (dj N Es) k (l,b) W[i]=(minus l [W[i]],true):=by unfold Pw; rw[en,if_pos q]
    rw[e];have Lr:=Vo hN (ER hG) hc hv (by rw[en]; omega);have ih:=acM hG hE k W hl hW m (i+1) (minus l [W[i]]) true (by omega) Lr;refine (aS ?_).trans ih;have mi:bp aq F7 [.list 1 (ints l),.list 1 [.int .i64 W[i]]] []=some (.list 1 (ints (minus l [W[i]])),[]):=OP l [W[i]] (by omega) (by simp);clear ih hc Lr e en hW;unfold rcSt jv K6;generalize ints (minus l [W[i]])=M1 at *;generalize ints (meet (B9 N Es W[i]) l)=Z1 at *;generalize ints (B9 N Es W[i])=B1 at *;generalize (meet (B9 N Es W[i]) l).length=z at *;generalize W[i]=v at *;generalize ints W=W1 at *;generalize ints l=L1 at *;generalize bU Es=Y at *;simp[zm,zl,zj,zi,tV,k1,hw,bD,g4,lw,nr,mr,ml,mi,q,idx,aO,dP,pl,sQR,iQR,sQa5,iQa5,sQa6,iQa6]
   ·have e:Pw (dj N Es) k (l,b) W[i]=(l,b):=by unfold Pw; rw[en,if_neg q]
    rw[e];have ih:=acM hG hE k W hl hW m (i+1) l b (by omega) hc;refine (aS ?_).trans ih;clear ih hc e en hW;unfold rcSt jv K6;generalize ints (meet (B9 N Es W[i]) l)=Z1 at *;generalize ints (B9 N Es W[i])=B1 at *;generalize (meet (B9 N Es W[i]) l).length=z at *;generalize W[i]=v at *;generalize ints W=W1 at *;generalize ints l=L1 at *;generalize bU Es=Y at *;simp[zm,zl,zj,zi,tV,k1,hw,bD,g4,lw,nr,mr,ml,q,idx,aO,dP,pl,sQR,iQR,sQa5,iQa5]
def P4 (N:Nat) (Es:List Ed) (k:Int) (l:List Int) (J:Env):St:=⟨(1,.int .i64 k)::(2,.ptr 0 0)::(5,.list 1 (ints l))::J,jv N Es⟩
def rjk (W:List AV) (z:Int):Env:=[(13,.list 1 W),(14,.int .i64 z),(15,.int .i64 z),(16,.bool false)]
theorem Yu {N:Nat} {Es:List Ed} (hG:jh (N:Int) Es) (hE:Es.length<1000000) (k:Nat) (l:List Int) (hc:Crs (dn N Es) N k l) (J:Env) (hJ:J=[]\/∃ W z,J=rjk W z):aW aq 0 Gh (P4 N Es k l ((6,.bool true)::J))=some (.normal,P4 N Es k (l.foldl (Pw (dj N Es) k) (l,false)).1 ((6,.bool (l.foldl (Pw (dj N Es) k) (l,false)).2)::rjk (ints l) l.length)):=by
 have hN:N<=64:=by have:=hG.1.2; omega
 have lc:=IY hc;have lp:=acM hG hE k l (by omega) hc.bd l.length 0 l false (by omega) hc;rw[bY] at lp;have ll:=af l;simp only[fi] at lp;unfold rcSt jv at lp;unfold P4 jv Gh;generalize l.foldl (Pw (dj N Es) k) (l,false)=z at *;obtain⟨z1,z2⟩:=z;simp only at lp ⊢;generalize ints z1=Z1 at *;generalize ints l=L1 at *;generalize bU Es=Y at *;rcases hJ with rfl|⟨W,z,rfl⟩
 ·unfold rjk;simp[zp,zo,zn,lp,ll]
 ·unfold rjk;simp[zp,zo,zn,lp,ll]
theorem Yt (N:Nat) (Es:List Ed) (k:Int) (l:List Int) (W:List AV) (z:Int):aW aq 0 Gh (P4 N Es k l ((6,.bool false)::rjk W z))=some (.exit 0,P4 N Es k l [(12,.bool false)]):=by
 unfold P4 jv rjk Gh;generalize ints l=L1 at *;generalize bU Es=Y at *;simp[zp,zo,zn]
theorem ajN {N:Nat} {Es:List Ed} (hG:jh (N:Int) Es) (hE:Es.length<1000000) (k:Nat):∀(n:Nat) (l:List Int) (J:Env),(J=[]\/∃ W z,J=rjk W z)->l.length<=n->Crs (dn N Es) N k l->∃C:List Int,(∀x:Int,x∈C ↔ ∃j:Nat,x=j/\VW (dn N Es) (2 ^ N-1) k j)/\C.length<=N/\aW aq 0 (.loop Gh) (P4 N Es k l ((6,.bool true)::J))=some (.exit 0,P4 N Es k C [(12,.bool false)]):=by
 have hN:N<=64:=by have:=hG.1.2; omega
 intro n
 induction n with
 |zero=>
   intro l J hJ hl hc;have:l=[]:=List.eq_nil_of_length_eq_zero (by omega);subst this;have bd:=Yu hG hE k [] hc J hJ;rw[rL] at bd;exact⟨[],aaU hN (ER hG) hc (fun v hv=>by cases hv),by simp,(aS bd).trans (bq (Yt _ _ _ _ _ _))⟩
 |succ n ih=>
   intro l J hJ hl hc;have bd:=Yu hG hE k l hc J hJ;obtain⟨f1,f2,f3,f4⟩:=LM hN (ER hG) l l false hc (fun v hv=>hv) (hc.up.imp fun{a b} h=>by omega);cases hz:(l.foldl (Pw (dj N Es) k) (l,false)).2 with
   |false=>
     obtain⟨_,e,g⟩:=f3 hz;rw[hz,e] at bd;exact⟨l,aaU hN (ER hG) hc g,IY hc,(aS bd).trans (bq (Yt _ _ _ _ _ _))⟩
   |true=>
     rw[hz] at bd;have sm:=(f4 hz).resolve_left (by simp);obtain⟨C,c1,c2,c3⟩:=ih _ _ (.inr ⟨_,_,rfl⟩) (by omega) f1;exact⟨C,c1,c2,(aS bd).trans c3⟩
theorem abl {N:Nat} {Es:List Ed} (hG:jh (N:Int) Es) (hE:Es.length<1000000) (k:Nat):∃C:List Int,(∀x:Int,x∈C ↔ ∃j:Nat,x=j/\VW (dn N Es) (2 ^ N-1) k j)/\C.length<=N/\bp aq MI [.agg [.int .i64 N,.list 2 (bU Es)],.int .i64 k] []=some (.list 1 (ints C),[]):=by
 have hN:N<=64:=by have:=hG.1.2; omega
 have hz:=Vn (dn N Es) hN k;obtain⟨C,c1,c2,lp⟩:=ajN hG hE k N _ [] (.inl rfl) (IY hz) hz;refine⟨C,c1,c2,?_⟩;have n4:=AW (N:Int);unfold P4 jv at lp;have pC:=cY C;rw[pM sQc3 (ah rfl)];unfold qQc3 cQc3;generalize ints C=C1 at *;generalize ints (dN (N:Int))=R1 at *;generalize bU Es=Y at *;simp[zt,zr,zq,tU,lp,n4,aO,bk,bf,dP,pl,sQQ,iQQ]
def FL (N:Nat) (Es:List Ed) (L:List Int) (k:Int) (J:Env):St:=⟨(1,.ptr 0 0)::(5,.own 1 (ints L))::(6,.int .i64 k)::J,jv N Es⟩
theorem aiq (N:Nat) (Es:List Ed) (k:Int) (C:List Int) (hC:C.length<=64):∀(m i:Nat) (L:List Int),i+m=C.length->(∀v∈C,0<=v/\v<(L.length:Int))->aW aq 0 (.loop Rq) (FL N Es L k [(25,.list 1 (ints C)),(26,.int .i64 C.length),(27,.int .i64 i)])=some (.exit 2,FL N Es ((C.drop i).foldl (stK k) L) k [(25,.list 1 (ints C)),(26,.int .i64 C.length),(27,.int .i64 C.length),(28,.bool false)])
 |0,i,L,hi,_=>by
   obtain rfl:i=C.length:=by omega
   rw[bK,rL];refine bq ?_;unfold FL jv Rq;generalize ints C=C1 at *;generalize ints L=L1 at *;generalize bU Es=Y at *;simp[Da,C9,wX,wW]
 |m+1,i,L,hi,hb=>by
   have bD:i<C.length:=by omega
   have hv:=hb C[i] (cI bD);rw[aT bD,fN];have ih:=aiq N Es k C hC m (i+1) (stK k L C[i]) (by omega) (fun v hv=>by unfold stK; rw[List.length_set]; exact hb v hv);refine (aS ?_).trans ih;clear ih;have k1:(i:Int)<C.length:=by omega
   have hw:=dM (i:=i) (by omega);have hx:=gC (k:=.i64) (i:=(i:Int)) (n:=C.length) (by omega) k1;have g4:∀h,(ints C)[i]'h=.int .i64 C[i]:=fun h=>aM _ _ _
   have lw:=af C;have ll:=af L;have e:ints (stK k L C[i])=(ints L).set C[i].toNat (.int .i64 k):=by unfold stK ints; rw[List.map_set]
   unfold FL jv Rq;rw[e];generalize C[i]=v at *;obtain⟨v0,v1⟩:=hv;have v2:v.toNat<L.length:=by omega
   have hx2:=gC (k:=.i64) (i:=v) (n:=L.length) v0 v1;generalize ints C=C1 at *;generalize ints L=L1 at *;generalize bU Es=Y at *;simp[Da,C9,wX,wW,k1,hw,bD,g4,lw,ll,v0,v1,v2,idx]
theorem acz {N:Nat} {Es:List Ed} (hG:jh (N:Int) Es) (hE:Es.length<1000000):∀(m k:Nat) (L:List Int),k+m+1=N->NumK (dn N Es) N k L->∃L',NumK (dn N Es) N (N-1) L'/\aW aq 0 (.loop Gk) (FL N Es L ((k:Int)+1) [])=some (.exit 0,FL N Es L' N [(20,.bool false)])
 |0,k,L,hk,hn=>by
   obtain rfl:N=k+1:=by omega
   refine⟨L,hn,bq ?_⟩;have e:((k+1:Nat):Int)=(k:Int)+1:=by omega
   unfold FL jv Gk;rw[e];generalize ints L=L1 at *;generalize bU Es=Y at *;simp[Dc,Db,wV,aO]
 |m+1,k,L,hk,hn=>by
   have hN:N<=64:=by have:=hG.1.2; omega
   obtain⟨C,c1,c2,cr⟩:=abl hG hE (k+1);have hs:=abB hn c1;obtain⟨L',l1,l2⟩:=acz hG hE m (k+1) _ (by omega) hs;refine⟨L',l1,(aS ?_).trans l2⟩
   have hb:∀v∈C,0<=v/\v<(L.length:Int):=fun v hv=>by
    obtain⟨j,rfl,q⟩:=(c1 v).1 hv;have:=Rx q;have:=hn.1;omega
   have lp:=aiq N Es ((k:Int)+1) C (by omega) C.length 0 L (by omega) hb;rw[bY] at lp;have e:((k+1:Nat):Int)=(k:Int)+1:=by omega
   rw[e] at cr ⊢;have k1:(k:Int)+1<N:=by omega
   have lc:=af C;have w1:IntKind.i64.wrap ((k:Int)+1+1)=(k:Int)+1+1:=fE (by omega) (by omega);clear l2 hs;simp only[fi] at lp;unfold FL jv at lp;unfold FL jv Gk;generalize ints (C.foldl (stK ((k:Int)+1)) L)=L2 at *;generalize ints C=C1 at *;generalize ints L=L1 at *;generalize bU Es=Y at *;simp[Dc,Db,wV,cr,lp,k1,lc,w1,aO,sQc3,iQc3]
theorem acy {N:Nat} {Es:List Ed} (hG:jh (N:Int) Es) (hE:Es.length<1000000):∃L,AF (dn N Es) N L/\bp aq MS [.agg [.int .i64 N,.list 2 (bU Es)]] []=some (.dJ [.list 1 (ints L),.int .i64 0],[]):=by
 have hN:N<=64:=by have:=hG.1.2; omega
 have g:=iM N Es (by omega);rw[eB.2 hG] at g
 have hI:∀a,((dn N Es).getD a 0).testBit a=false:=fun a=>by
  rw[(jO hG).2.2];cases e:(decide (((a:Int),(a:Int))∈Es)||decide (((a:Int),(a:Int))∈Es)) with
  |false=>rfl
  |true=>
    simp only[Bool.or_self,decide_eq_true_eq] at e;have:=hG.2.2 _ e;simp only at this;omega
 have main:∃L,AF (dn N Es) N L/\∃ k,aW aq 0 (.loop Gk) (FL N Es (aH N 0) 1 [])=some (.exit 0,FL N Es L k [(20,.bool false)]):=by
  by_cases h0:N=0
  ·subst h0;refine⟨[],⟨rfl,fun v hv=>by omega⟩,1,bq ?_⟩;unfold FL jv Gk;generalize bU Es=Y at *;simp[Dc,Db,wV,aO]
  ·obtain⟨L,l1,l2⟩:=acz hG hE (N-1) 0 (aH N 0) (by omega) (abA _ _);exact⟨L,aef hN hI l1 (by omega),N,by simpa using l2⟩
 obtain⟨L,hL,k,lp⟩:=main;refine⟨L,hL,?_⟩;have e1:aH N (AV.int .i64 0)=ints (aH N 0):=by simp[ints]
 have nL:(N:Int)<=(jx:Int):=by unfold jx; omega
 have pL:=cY L;have fL:=gT L;have lL:=af L;have tk:(ints L).take L.length=ints L:=List.take_of_length_le (by omega);unfold FL jv at lp;rw[pM sQa2 (ah rfl)];unfold qQa2 cQa2;generalize ints (aH N 0)=Z1 at *;generalize ints L=L1 at *;generalize bU Es=Y at *;simp[Di,Dh,Dg,Df,De,Dd,wU,g,lp,e1,nL,lL,tk,aO,bk,bf,FD,Gs]
def mxg (k n:Int):Int:=if k<n then n else k
def rdSt (L:List Int) (k i:Int) (J:Env):St:=⟨(5,.int .i64 0)::(6,.int .i64 k)::(14,.list 1 (ints L))::(15,.int .i64 L.length)::(16,.int .i64 i)::J,[]⟩
theorem Ys (L:List Int) (hL:L.length<=64):∀(m i:Nat) (k:Int),i+m=L.length->aW aq 0 (.loop aas) (rdSt L k i [])=some (.exit 0,rdSt L ((L.drop i).foldl mxg k) L.length [(17,.bool false)])
 |0,i,k,hi=>by
   obtain rfl:i=L.length:=by omega
   rw[bK,rL];refine bq ?_;unfold rdSt aas;generalize ints L=L1 at *;simp[Zc,Zb,Za,Y9]
 |m+1,i,k,hi=>by
   have bD:i<L.length:=by omega
   have ih:=Ys L hL m (i+1) (mxg k L[i]) (by omega);rw[aT bD,fN];refine (aS ?_).trans ih;have k1:(i:Int)<L.length:=by omega
   have hw:=dM (i:=i) (by omega);have hx:=gC (k:=.i64) (i:=(i:Int)) (n:=L.length) (by omega) k1
   have g4:∀h,(ints L)[i]'h=.int .i64 L[i]:=fun h=>aM _ _ _;have ll:=af L;clear ih;unfold rdSt mxg aas;generalize ints L=L1 at *;generalize L[i]=x at *;by_cases q:k<x<;>simp[Zc,Zb,Za,Y9,k1,hw,g4,ll,bD,q,idx]
theorem acG {N:Nat} {Es:List Ed} (hG:jh (N:Int) Es) (hE:Es.length<1000000):∃L,AF (dn N Es) N L/\bp aq nQG [.agg [.int .i64 N,.list 2 (bU Es)]] []=some (.dJ [.int .i64 (Xv L),.int .i64 0],[]):=by
 have hN:N<=64:=by have:=hG.1.2; omega
 obtain⟨L,hL,nr⟩:=acy hG hE;refine⟨L,hL,?_⟩;have lp:=Ys L (by rw[hL.1]; omega) L.length 0 0 (by omega);rw[bY] at lp;have e:L.foldl mxg 0=Xv L:=rfl;rw[e] at lp;have ll:=af L;unfold rdSt at lp;simp only[fi] at lp;rw[pM sQG (ah rfl)];generalize ints L=L1 at *;generalize bU Es=Y at *;generalize Xv L=D at *;unfold qQG cQG;simp[Zg,Zf,Ze,Zd,Y8,nr,lp,ll,aO,bk,bf,dP,pl,sQa2,iQa2]
end Go.BmP
