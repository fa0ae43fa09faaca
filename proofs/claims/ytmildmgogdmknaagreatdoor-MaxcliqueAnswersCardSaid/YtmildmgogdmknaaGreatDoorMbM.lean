/- core.Numbers, core.Degeneracy. -/
import Derived.Test.YtmildmgogdmknaaGreatDoorPeE
import Derived.Test.YtmildmgogdmknaaGreatDoorDegC
import Derived.Test.YtmildmgogdmknaaGreatDoorMxS
import Derived.Test.YtmildmgogdmknaaGreatDoorCaA
set_option linter.unusedSimpArgs false
set_option linter.unusedVariables false
set_option maxRecDepth 100000
set_option maxHeartbeats 8000000
open List renaming length_cons → cN, length_map → jQ, mem_cons → aK, mem_map → gO, mem_range → eP, nodup_cons → lv, pairwise_map → I5, replicate → aH
open Nat renaming le_of_ble_eq_true → ah
namespace Go.BmP
open Go.Am Go.Bm
theorem afq {N:Nat} {Es:List Ed} (hG:jh (N:Int) Es) (hE:Es.length<1000000) (h0:0<N):∃o ds,l9 (dn N Es) (2 ^ N-1) o ds/\bp aq MU [.agg [.int .i64 N,.list 2 (bU Es)]] [Bs N (bU Es)]=some (.dJ [.sl 1 3 0 N,.int .i64 0],[Bs N (bU Es),Bs N (bU Es),some (ints (ns o)),some (ints (nB o ds 0 (aH N 0)))]):=by
 obtain⟨o,ds,hp,pr⟩:=TC hG hE h0;refine⟨o,ds,hp,?_⟩;have g:=im (N:Int) Es (by omega);rw[eB.2 hG] at g;obtain⟨a1,a2,a3,a4,a5,a6,a7,a8,a9,aa,ab⟩:=rX (ns o);obtain⟨b1,b2,b3,b4,b5,b6,b7,b8,b9,ba,bb⟩:=rX (nB o ds 0 (aH N 0));rw[pM sQa0 (ah rfl)];unfold Bs at *;generalize ints (ns o)=O1 at *;generalize ints (nB o ds 0 (aH N 0))=L1 at *;generalize bU Es=Y at *;unfold qQa0 cQa0;simp[adk,adj,adi,adh,adg,adf,g,pr,a1,a3,a6,b1,b3,aO,bk,bf,fu,cX,fa,dD,dt,dH,gR,s5,gY,sQa4,iQa4,Mw,O7]
theorem OV (f:Nat->Rt):∀(l:List Int) (n:Nat),fw f n (ints l)=ints l
 |[],_=>rfl
 |x::r,n=>by
   show AV.int .i64 x::fw f (n+1) (ints r)=_;rw[OV f r]; rfl
def mxf (k n:Int):Int:=if k<n then n else k
def cdSt (N:Nat) (Y O1 L1:List AV) (k i:Int) (J:Env):St:=⟨(5,.int .i64 0)::(6,.int .i64 k)::(14,.sl 1 3 0 N)::(15,.int .i64 N)::(16,.int .i64 i)::J,[Bs N Y,Bs N Y,some O1,some L1]⟩
theorem aa4 (N:Nat) (hN:N<=64) (Y O1:List AV) (L:List Int) (hL:L.length=N):∀(m i:Nat) (k:Int),i+m=N->aW aq 0 (.loop aat) (cdSt N Y O1 (ints L) k i [])=some (.exit 0,cdSt N Y O1 (ints L) ((L.drop i).foldl mxf k) N [(17,.bool false)])
 |0,i,k,hi=>by
   obtain rfl:i=N:=by omega
   rw[<-hL,List.drop_length,List.foldl_nil,hL];refine bq ?_;unfold cdSt Bs aat;generalize ints L=L1 at *;simp[Zl,Zk,Zj,Zi]
 |m+1,i,k,hi=>by
   have bD:i<L.length:=by omega
   have ih:=aa4 N hN Y O1 L hL m (i+1) (mxf k L[i]) (by omega);rw[List.drop_eq_getElem_cons bD,List.foldl_cons];refine (aS ?_).trans ih;have k1:(i:Int)<N:=by omega
   have kn:i<N:=by omega
   have hw:=dM (i:=i) (by omega)
   have g4:∀h,(ints L)[i]'h=.int .i64 L[i]:=fun h=>aM _ _ _;have ll:=af L;obtain⟨b1,b2,b3,b4,b5,b6,b7,b8,b9,ba,bb⟩:=rX L;have n1:∀f n,fw f n (ints L)=ints L:=fun f n=>OV f L n;clear ih;unfold cdSt Bs mxf aat;generalize ints L=L1 at *;generalize L[i]=x at *;by_cases q:k<x<;>simp[Zl,Zk,Zj,Zi,k1,kn,hw,g4,ll,hL,q,n1,b1,idx,aO]
theorem afz {N:Nat} {Es:List Ed} (hG:jh (N:Int) Es) (hE:Es.length<1000000) (h0:0<N):∃L,AF (dn N Es) N L/\bp aq nQE [.agg [.int .i64 N,.list 2 (bU Es)]] []=some (.dJ [.int .i64 (Xv L),.int .i64 0],[]):=by
 have hN:N<=64:=by have:=hG.1.2; omega
 obtain⟨o,ds,hp,nr⟩:=afq hG hE h0;have ln:(nB o ds 0 (aH N 0)).length=N:=by rw[Kj,List.length_replicate]
 refine⟨_,adN hN hp ln,?_⟩;have lp:=aa4 N hN (bU Es) (ints (ns o)) (nB o ds 0 (aH N 0)) ln N 0 0 (by omega);rw[List.drop_zero] at lp;have e:(nB o ds 0 (aH N 0)).foldl mxf 0=Xv (nB o ds 0 (aH N 0)):=rfl;rw[e] at lp;generalize nB o ds 0 (aH N 0)=L at *;have ll:=af L;obtain⟨a1,a2,a3,a4,a5,a6,a7,a8,a9,aa,ab⟩:=rX (ns o);obtain⟨b1,b2,b3,b4,b5,b6,b7,b8,b9,ba,bb⟩:=rX L;unfold cdSt at lp;rw[pM sQE (ah rfl)];unfold Bs at *;simp only[fi] at lp;generalize ints (ns o)=O1 at *;generalize ints L=L1 at *;generalize bU Es=Y at *;generalize Xv L=D at *;unfold qQE cQE;simp[Zp,Zo,Zn,Zm,Zh,nr,lp,a1,a6,b1,aO,bk,bf,fu,cX,fa,dD,dt,dH,gR,s5,gY,sQa0,iQa0]
/- Bounds of cliques, joined: colours, degeneracy, largest clique. Plain. -/
theorem ahG {N:Nat} {Es:List Ed} (hG:jh (N:Int) Es) {o ds:List Nat} (hp:l9 (dn N Es) (2 ^ N-1) o ds):(rN (dj N Es) N (ns o).reverse).length=N/\(∀x∈rN (dj N Es) N (ns o).reverse,0<=x)/\∀ e∈Es,(rN (dj N Es) N (ns o).reverse).getD e.1.toNat (-1)≠(rN (dj N Es) N (ns o).reverse).getD e.2.toNat (-1):=by
 have hN:N<=64:=by have:=hG.1.2; omega
 obtain⟨ol,_,nd,om⟩:=vE hN hp;obtain⟨q1,q2,q3,q4⟩:=u7 hN ol nd om;obtain⟨g1,g2,g3⟩:=Xk hG (ns o).reverse q3 q4;refine⟨g1,fun x hx=>?_,g3⟩;obtain⟨i,hi,rfl⟩:=List.getElem_of_mem hx;have:=g2 i (by omega)
 rwa [List.getD_eq_getElem?_getD,List.getElem?_eq_getElem hi] at this
/- maxclique.Bound. -/
def aeT:Option (AV × Heap)->Bool
 |some (.dJ [.int .i64 0,.int .i64 0],[])=>true
 |_=>false
theorem aeS {r:Option (AV × Heap)} (h:aeT r=true):r=some (.dJ [.int .i64 0,.int .i64 0],[]):=by
 unfold aeT at h;split at h
 ·rfl
 ·cases h
theorem aeV:aeT (jN aq 300 TU [.agg [.int .i64 0,.list 2 []]] [])=true:=by kernel_rfl
theorem T5:bp aq TU [.agg [.int .i64 0,.list 2 []]] []=some (.dJ [.int .i64 0,.int .i64 0],[]):=fF.2 ⟨300,aeS aeV⟩
theorem T4 {N:Nat} {Es:List Ed} (hG:jh (N:Int) Es) (hE:Es.length<1000000) (h0:0<N):∃o ds L K,l9 (dn N Es) (2 ^ N-1) o ds/\AF (dn N Es) N L/\Xv L=((K:Nat):Int)/\(∀v j,VW (dn N Es) (2 ^ N-1) j v->j<=K)/\K<64/\bp aq TU [.agg [.int .i64 N,.list 2 (bU Es)]] []=some (.dJ [.int .i64 ((min (cV (rN (dj N Es) N (ns o).reverse)).length (K+1):Nat):Int),.int .i64 0],[]):=by
 have hN:N<=64:=by have:=hG.1.2; omega
 obtain⟨o,ds,hp,cr⟩:=HZ hG hE;obtain⟨L,hL,dr⟩:=afz hG hE h0;obtain⟨K,hK,k1,k2⟩:=afj hL;refine⟨o,ds,L,K,hp,hL,hK,k1,?_⟩;obtain⟨c1,_,_⟩:=ahG hG hp
 have kN:K<64:=by
  rcases k2 with e|⟨v,hv⟩
  ·omega
  ·have hv':=Rx hv;obtain⟨x,e,q⟩:=hL.2 v hv';obtain⟨m',s,b,g⟩:=hv;have:=g v b;unfold Xw at this
   have h3:lI (m' &&& (dn N Es).getD v 0)<64:=by
    rw[<-Fu]
    have:=Dp (A:=(v:Int)::fG (m' &&& (dn N Es).getD v 0)) (B:=(List.range 64).map fun n=>((n:Nat):Int)) (lv.2 ⟨fun z=>by
     obtain⟨i,i1,i2,i3⟩:=gb.1 z;obtain rfl:v=i:=by omega
     rw[Nat.testBit_and,(PI hG).2.1 v,Bool.and_false] at i3
     exact absurd i3 (by simp),(mT _).imp fun{a b} h=>by omega⟩) fun y hy=>by
      rcases aK.1 hy with rfl|hy
      ·exact gO.2 ⟨v,eP.2 (by omega),rfl⟩
      ·obtain⟨i,rfl,i2,i3⟩:=gb.1 hy;exact gO.2 ⟨i,eP.2 i2,rfl⟩
    rw[jQ,List.length_range,cN] at this;omega
   omega
 refine⟨kN,?_⟩;have no:=QX (rN (dj N Es) N (ns o).reverse) (by omega);have ls:=af (cV (rN (dj N Es) N (ns o).reverse));have pC:=cY (rN (dj N Es) N (ns o).reverse);have sl:=iI (rN (dj N Es) N (ns o).reverse);rw[hK] at dr;have nz:¬(N:Int)=0:=by omega
 have nz2:¬N=0:=by omega
 have w1:IntKind.i64.wrap ((K:Int)+1)=(K:Int)+1:=fE (by omega) (by omega);clear k1 k2 hK c1;rw[pM sQj (ah rfl)];generalize cV (rN (dj N Es) N (ns o).reverse)=S at *;generalize ints (rN (dj N Es) N (ns o).reverse)=C1 at *;generalize ints S=S1 at *;generalize bU Es=Y at *;unfold qQj cQj;by_cases q:S.length<K+1
 ·have q1:(S.length:Int)<(K:Int)+1:=by omega
  have q2:min S.length (K+1)=S.length:=by omega
  have q3:¬(K:Int)+1<S.length:=by omega
  rw[q2];simp[Tl,Tk,Tj,Ti,Th,Tg,Tf,Te,cr,dr,no,ls,nz2,w1,q3,aO,bk,bf,dP,pl,sQl,iQl,sQE,iQE,sQF,iQF]
 ·have q1:¬(S.length:Int)<(K:Int)+1:=by omega
  have q2:((min S.length (K+1):Nat):Int)=(K:Int)+1:=by omega
  rw[q2];by_cases q3:(K:Int)+1<S.length
  ·simp[Tl,Tk,Tj,Ti,Th,Tg,Tf,Te,cr,dr,no,ls,nz2,w1,q3,aO,bk,bf,dP,pl,sQl,iQl,sQE,iQE,sQF,iQF]
  ·have q4:(S.length:Int)=(K:Int)+1:=by omega
   simp[Tl,Tk,Tj,Ti,Th,Tg,Tf,Te,cr,dr,no,ls,nz2,w1,q4,aO,bk,bf,dP,pl,sQl,iQl,sQE,iQE,sQF,iQF]
/- A largest clique is a maximal one; Above of the empty set. Plain. -/
theorem adE {N:Nat} {E:List Ed} {O:List Nat} (h:QS N E O):Ng N E (nz O):=by
 refine⟨?_,fun x hx=>?_,?_⟩
 ·unfold Up nz;rw[I5];exact h.1.imp fun k=>by omega
 ·unfold nz at hx;obtain⟨y,hy,rfl⟩:=gO.1 hx;have:=h.2 y hy;omega
 ·unfold nz;rw[I5];exact h.1.imp fun k=>k.2
theorem alu {N:Nat} {E:List Ed} {O:List Nat} (h:Lgst N E O) (h0:0<N):nz O≠[]:=by
 have:=h.2 [0] ⟨by simp,fun x hx=>by simp at hx; omega⟩;intro e;have:=congrArg List.length e;rw[k7] at this;simp only[List.length_nil,cN] at *;omega
theorem ag5 {N:Nat} {E:List Ed} (hG:jh (N:Int) E) {O:List Nat} (h:Lgst N E O) (h0:0<N):ue N E (nz O):=by
 have hc:=adE h.1;refine⟨hc,alu h h0,fun x hx k=>?_⟩;have hn:x∉nz O:=fun q=>Rs hG x (k x q);obtain⟨s1,s2⟩:=eY (x::nz O)
 have pw:∀{l:List Int},l.Pairwise (jn E)->∀a∈l,∀b∈l,a≠b->jn E a b:=by
  intro l hl
  induction hl with
  |nil=>intro a ha; simp at ha
  |cons p _ ih=>
    intro a ha b hb kj;rcases aK.1 ha with e1|h1<;>rcases aK.1 hb with e2|h2
    ·exact absurd (e1.trans e2.symm) kj
    ·rw[e1]; exact p b h2
    ·rw[e2]; exact (p a h1).symm
    ·exact ih a h1 b h2 kj
 have all:∀a∈x::nz O,∀b∈x::nz O,a≠b->jn E a b:=fun a ha b hb kj=>by
  rcases aK.1 ha with e1|h1<;>rcases aK.1 hb with e2|h2
  ·exact absurd (e1.trans e2.symm) kj
  ·rw[e1]; exact (k b h2).symm
  ·rw[e2]; exact k a h1
  ·exact pw hc.ad a h1 b h2 kj
 have Lr:Ng N E (cV (x::nz O)):=by
  refine⟨s1,fun y hy=>?_,?_⟩
  ·rcases aK.1 ((s2 y).1 hy) with rfl|q
   ·exact hx
   ·exact hc.bd y q
  ·exact s1.imp_of_mem fun{a b} ha hb bD=>all a ((s2 a).1 ha) b ((s2 b).1 hb) (by omega)
 obtain⟨q1,_⟩:=Lk Lr;have l1:=h.2 _ q1;rw[jQ] at l1;have l2:=Dp (A:=x::nz O) (B:=cV (x::nz O)) (lv.2 ⟨hn,hc.up.imp fun{a b} h=>by omega⟩) fun y hy=>(s2 y).2 hy;rw[cN,k7] at l2;omega
end Go.BmP
