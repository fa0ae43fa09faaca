/- ref10.core, Numbers. -/
import Derived.Test.YtbnheahpdodmjabGreatDoorDegC
import Derived.Test.YtbnheahpdodmjabGreatDoorLfP
set_option linter.unusedSimpArgs false
set_option linter.unusedVariables false
set_option maxRecDepth 100000
set_option maxHeartbeats 8000000
open List renaming drop_eq_getElem_cons → bz, drop_length → cE, drop_zero → cP, foldl_cons → dV, foldl_nil → DX, getElem?_eq_getElem → aj, getElem_mem → mV, replicate → bh
open Nat renaming le_of_ble_eq_true → au
namespace Go.BmP
open Go.Am Go.Bm
def yV (N:Nat) (Es:List Ed):Heap:=[some [.int .i64 N,.list 2 (fe Es)]]
theorem I4 {A:List Nat} {N k:Nat} {l:List Int} (h:Crs A N k l):l.length<=N:=by
 have:=xm (A:=l) (B:=(List.range N).map fun n=>((n:Nat):Int)) (h.up.imp fun{a b} h=>by omega) fun x hx=>List.mem_map.2 ⟨x.toNat,List.mem_range.2 (by have:=h.bd x hx; omega),by have:=h.bd x hx; omega⟩
 rwa [List.length_map,List.length_range] at this
theorem ES {N:Nat} {Es:List Ed} (hG:uQ (N:Int) Es):∀v,v<N->LH N Es v=bZ ((eK N Es).getD v 0):=fun v hv=>(acw hG hv).symm
def rcSt (N:Nat) (Es:List Ed) (k:Int) (l:List Int) (b:Bool) (W:List Int) (i:Int) (J:Env):St:=⟨(1,.int .i64 k)::(2,.ptr 0 0)::(5,.list 1 (ints l))::(6,.bool b)::(13,.list 1 (ints W))::(14,.int .i64 W.length)::(15,.int .i64 i)::J,yV N Es⟩
theorem aem {N:Nat} {Es:List Ed} (hG:uQ (N:Int) Es) (hE:Es.length<1000000) (k:Nat) (W:List Int) (hl:W.length<=64) (hW:∀v∈W,0<=v/\v<(N:Int)):∀(m i:Nat) (l:List Int) (b:Bool),i+m=W.length->Crs (eK N Es) N k l->aW aq 0 (.loop UO) (rcSt N Es k l b W i [])=some (.exit 2,rcSt N Es k ((W.drop i).foldl (Qj (LH N Es) k) (l,b)).1 ((W.drop i).foldl (Qj (LH N Es) k) (l,b)).2 W W.length [(16,.bool false)])
 |0,i,l,b,hi,_=>by
   obtain rfl:i=W.length:=by omega
   rw[cE,DX];refine bn ?_;unfold rcSt yV UO;generalize ints W=W1 at *;generalize ints l=L1 at *;generalize fe Es=Y at *;simp[HR,HQ,HP,HO,HN,HM,HK,HJ,HI,HH,zT,zS]
 |m+1,i,l,b,hi,hc=>by
   have hN:N<=64:=by have:=hG.1.2; omega
   have bE:i<W.length:=by omega
   have hv:=hW W[i] (mV bE);rw[bz bE,dV];have k1:(i:Int)<W.length:=by omega
   have hw:=dA (i:=i) (by omega);have hx:=Dx (k:=.i64) (i:=(i:Int)) (n:=W.length) (by omega) k1;have g4:∀h,(ints W)[i]'h=.int .i64 W[i]:=fun h=>bu _ _ _;have g3:(ints W)[i]?=some (.int .i64 W[i]):=by rw[aj (by rw[ah]; exact bE),bu]
   have lw:=ah W;have lc:=I4 hc;have nr:=Ad hG hE hv.1 hv.2;have nl:=ait hG hv.1 hv.2;have mr:=Uq (HU N Es W[i]) l (by omega) (by omega);have ml:=ah (meet (HU N Es W[i]) l);have zc:=aK (meet (HU N Es W[i]) l);obtain⟨z1,z2,z3,z4,z5,z6,z7,z8,z9,za,zb⟩:=bg (meet (HU N Es W[i]) l);have en:LH N Es W[i].toNat=HU N Es W[i]:=by unfold LH; rw[show ((W[i].toNat:Nat):Int)=W[i] by omega]
   by_cases q:((meet (HU N Es W[i]) l).length:Int)<k
   ·have e:Qj (LH N Es) k (l,b) W[i]=(minus l [W[i]],true):=by unfold Qj; rw[en,if_pos q]
    rw[e];have I1:=VS hN (ES hG) hc hv (by rw[en]; omega);have ih:=aem hG hE k W hl hW m (i+1) (minus l [W[i]]) true (by omega) I1;refine (aS ?_).trans ih;have mi:bJ aq nQT [.list 1 (ints l),.list 1 [.int .i64 W[i]]] []=some (.list 1 (ints (minus l [W[i]])),[]):=Pz l [W[i]] (by omega) (by simp);clear ih hc I1 e en hW;have pM:=EC (minus l [W[i]]);unfold rcSt yV UO;generalize ints (minus l [W[i]])=M1 at *;generalize ints (meet (HU N Es W[i]) l)=Z1 at *;generalize ints (HU N Es W[i])=B1 at *;generalize (meet (HU N Es W[i]) l).length=z at *;generalize W[i]=v at *;generalize ints W=W1 at *;generalize ints l=L1 at *;generalize fe Es=Y at *;simp[HR,HQ,HP,HO,HN,HM,HK,HJ,HI,HH,zT,zS,k1,hi,hw,hx,bE,g3,g4,lw,nr,mr,ml,zc,z1,z2,z3,z4,z5,z6,z7,z8,z9,za,zb,mi,q,pM,idx,aH,fW,dm,dc,pl,sQa3,iQa3,sQa2,iQa2,sQT,iQT]
   ·have e:Qj (LH N Es) k (l,b) W[i]=(l,b):=by unfold Qj; rw[en,if_neg q]
    rw[e];have ih:=aem hG hE k W hl hW m (i+1) l b (by omega) hc;refine (aS ?_).trans ih;clear ih hc e en hW;unfold rcSt yV UO;generalize ints (meet (HU N Es W[i]) l)=Z1 at *;generalize ints (HU N Es W[i])=B1 at *;generalize (meet (HU N Es W[i]) l).length=z at *;generalize W[i]=v at *;generalize ints W=W1 at *;generalize ints l=L1 at *;generalize fe Es=Y at *;simp[HR,HQ,HP,HO,HN,HM,HK,HJ,HI,HH,zT,zS,k1,hi,hw,hx,bE,g3,g4,lw,nr,mr,ml,zc,z1,z2,z3,z4,z5,z6,z7,z8,z9,za,zb,q,idx,aH,fW,dm,dc,pl,sQa3,iQa3,sQa2,iQa2]
def QU (N:Nat) (Es:List Ed) (k:Int) (l:List Int) (J:Env):St:=⟨(1,.int .i64 k)::(2,.ptr 0 0)::(5,.list 1 (ints l))::J,yV N Es⟩
def rjk (W:List AV) (z:Int):Env:=[(13,.list 1 W),(14,.int .i64 z),(15,.int .i64 z),(16,.bool false)]
theorem Zr {N:Nat} {Es:List Ed} (hG:uQ (N:Int) Es) (hE:Es.length<1000000) (k:Nat) (l:List Int) (hc:Crs (eK N Es) N k l) (J:Env) (hJ:J=[]\/∃ W z,J=rjk W z):aW aq 0 PK (QU N Es k l ((6,.bool true)::J))=some (.normal,QU N Es k (l.foldl (Qj (LH N Es) k) (l,false)).1 ((6,.bool (l.foldl (Qj (LH N Es) k) (l,false)).2)::rjk (ints l) l.length)):=by
 have hN:N<=64:=by have:=hG.1.2; omega
 have lc:=I4 hc;have lp:=aem hG hE k l (by omega) hc.bd l.length 0 l false (by omega) hc;rw[cP] at lp;have ll:=ah l;simp only[fH] at lp;unfold rcSt yV at lp;unfold QU yV PK;generalize l.foldl (Qj (LH N Es) k) (l,false)=z at *;obtain⟨z1,z2⟩:=z;simp only at lp ⊢;generalize ints z1=Z1 at *;generalize ints l=L1 at *;generalize fe Es=Y at *;rcases hJ with rfl|⟨W,z,rfl⟩
 ·unfold rjk;simp[HR,HQ,HP,HO,HN,HM,HK,HJ,HI,HH,zT,zS,lp,ll,aH]
 ·unfold rjk;simp[HR,HQ,HP,HO,HN,HM,HK,HJ,HI,HH,zT,zS,lp,ll,aH]
theorem Zq (N:Nat) (Es:List Ed) (k:Int) (l:List Int) (W:List AV) (z:Int):aW aq 0 PK (QU N Es k l ((6,.bool false)::rjk W z))=some (.exit 0,QU N Es k l [(12,.bool false)]):=by
 unfold QU yV rjk PK;generalize ints l=L1 at *;generalize fe Es=Y at *;simp[HR,HQ,HP,HO,HN,HM,HK,HJ,HI,HH,zT,zS]
theorem ak3 {N:Nat} {Es:List Ed} (hG:uQ (N:Int) Es) (hE:Es.length<1000000) (k:Nat):∀(n:Nat) (l:List Int) (J:Env),(J=[]\/∃ W z,J=rjk W z)->l.length<=n->Crs (eK N Es) N k l->∃C:List Int,(∀x:Int,x∈C ↔ ∃j:Nat,x=j/\Wi (eK N Es) (2 ^ N-1) k j)/\C.length<=N/\aW aq 0 (.loop PK) (QU N Es k l ((6,.bool true)::J))=some (.exit 0,QU N Es k C [(12,.bool false)]):=by
 have hN:N<=64:=by have:=hG.1.2; omega
 intro n
 induction n with
 |zero=>
   intro l J hJ hl hc;have:l=[]:=List.eq_nil_of_length_eq_zero (by omega);subst this;have bd:=Zr hG hE k [] hc J hJ;rw[DX] at bd;exact⟨[],ach hN (ES hG) hc (fun v hv=>by cases hv),by simp,(aS bd).trans (bn (Zq _ _ _ _ _ _))⟩
 |succ n ih=>
   intro l J hJ hl hc;have bd:=Zr hG hE k l hc J hJ;obtain⟨f1,f2,f3,f4⟩:=MJ hN (ES hG) l l false hc (fun v hv=>hv) (hc.up.imp fun{a b} h=>by omega);cases hz:(l.foldl (Qj (LH N Es) k) (l,false)).2 with
   |false=>
     obtain⟨_,e,g⟩:=f3 hz;rw[hz,e] at bd;exact⟨l,ach hN (ES hG) hc g,I4 hc,(aS bd).trans (bn (Zq _ _ _ _ _ _))⟩
   |true=>
     rw[hz] at bd;have sm:=(f4 hz).resolve_left (by simp);obtain⟨C,c1,c2,c3⟩:=ih _ _ (.inr ⟨_,_,rfl⟩) (by omega) f1;exact⟨C,c1,c2,(aS bd).trans c3⟩
theorem OG {N:Nat} {Es:List Ed} (hG:uQ (N:Int) Es) (hE:Es.length<1000000) (k:Nat):∃C:List Int,(∀x:Int,x∈C ↔ ∃j:Nat,x=j/\Wi (eK N Es) (2 ^ N-1) k j)/\C.length<=N/\bJ aq nQQ [.agg [.int .i64 N,.list 2 (fe Es)],.int .i64 k] []=some (.list 1 (ints C),[]):=by
 have hN:N<=64:=by have:=hG.1.2; omega
 have hz:=agR (eK N Es) hN k;obtain⟨C,c1,c2,lp⟩:=ak3 hG hE k N _ [] (.inl rfl) (I4 hz) hz;refine⟨C,c1,c2,?_⟩;have n4:=OK (N:Int);unfold QU yV at lp;have pC:=EC C;rw[dZ sQQ (au rfl)];unfold qQQ cQQ;generalize ints C=C1 at *;generalize ints (jq (N:Int))=R1 at *;generalize fe Es=Y at *;simp[HR,HQ,HP,HO,HN,HM,HK,HJ,HI,HH,zT,zS,lp,n4,pC,aH,bL,bC,dc,pl,sQR,iQR]
def FM (N:Nat) (Es:List Ed) (L:List Int) (k:Int) (J:Env):St:=⟨(1,.ptr 0 0)::(5,.own 1 (ints L))::(6,.int .i64 k)::J,yV N Es⟩
theorem ajV (N:Nat) (Es:List Ed) (k:Int) (C:List Int) (hC:C.length<=64):∀(m i:Nat) (L:List Int),i+m=C.length->(∀v∈C,0<=v/\v<(L.length:Int))->aW aq 0 (.loop abK) (FM N Es L k [(25,.list 1 (ints C)),(26,.int .i64 C.length),(27,.int .i64 i)])=some (.exit 2,FM N Es ((C.drop i).foldl (stK k) L) k [(25,.list 1 (ints C)),(26,.int .i64 C.length),(27,.int .i64 C.length),(28,.bool false)])
 |0,i,L,hi,_=>by
   obtain rfl:i=C.length:=by omega
   rw[cE,DX];refine bn ?_;unfold FM yV abK;generalize ints C=C1 at *;generalize ints L=L1 at *;generalize fe Es=Y at *;simp[K0,KZ,KY,KX,KW,KV,KU,KT,KS,KR,C4,C3,C0,CZ]
 |m+1,i,L,hi,hb=>by
   have bE:i<C.length:=by omega
   have hv:=hb C[i] (mV bE);rw[bz bE,dV];have ih:=ajV N Es k C hC m (i+1) (stK k L C[i]) (by omega) (fun v hv=>by unfold stK; rw[List.length_set]; exact hb v hv);refine (aS ?_).trans ih;clear ih;have k1:(i:Int)<C.length:=by omega
   have hw:=dA (i:=i) (by omega);have hx:=Dx (k:=.i64) (i:=(i:Int)) (n:=C.length) (by omega) k1;have g4:∀h,(ints C)[i]'h=.int .i64 C[i]:=fun h=>bu _ _ _;have g3:(ints C)[i]?=some (.int .i64 C[i]):=by rw[aj (by rw[ah]; exact bE),bu]
   have lw:=ah C;have ll:=ah L;have e:ints (stK k L C[i])=(ints L).set C[i].toNat (.int .i64 k):=by unfold stK ints; rw[List.map_set]
   unfold FM yV abK;rw[e];generalize C[i]=v at *;obtain⟨v0,v1⟩:=hv;have v2:v.toNat<L.length:=by omega
   have hx2:=Dx (k:=.i64) (i:=v) (n:=L.length) v0 v1;generalize ints C=C1 at *;generalize ints L=L1 at *;generalize fe Es=Y at *;simp[K0,KZ,KY,KX,KW,KV,KU,KT,KS,KR,C4,C3,C0,CZ,k1,hi,hw,hx,hx2,bE,g3,g4,lw,ll,v0,v1,v2,idx,aH]
theorem ad4 {N:Nat} {Es:List Ed} (hG:uQ (N:Int) Es) (hE:Es.length<1000000):∀(m k:Nat) (L:List Int),k+m+1=N->NumK (eK N Es) N k L->∃L',NumK (eK N Es) N (N-1) L'/\aW aq 0 (.loop PL) (FM N Es L ((k:Int)+1) [])=some (.exit 0,FM N Es L' N [(20,.bool false)])
 |0,k,L,hk,hn=>by
   obtain rfl:N=k+1:=by omega
   refine⟨L,hn,bn ?_⟩;have e:((k+1:Nat):Int)=(k:Int)+1:=by omega
   unfold FM yV PL;rw[e];generalize ints L=L1 at *;generalize fe Es=Y at *;simp[K0,KZ,KY,KX,KW,KV,KU,KT,KS,KR,C4,C3,C0,CZ,aH]
 |m+1,k,L,hk,hn=>by
   have hN:N<=64:=by have:=hG.1.2; omega
   obtain⟨C,c1,c2,cr⟩:=OG hG hE (k+1);have hs:=ac4 hn c1;obtain⟨L',l1,l2⟩:=ad4 hG hE m (k+1) _ (by omega) hs;refine⟨L',l1,(aS ?_).trans l2⟩
   have hb:∀v∈C,0<=v/\v<(L.length:Int):=fun v hv=>by
    obtain⟨j,rfl,q⟩:=(c1 v).1 hv;have:=RG q;have:=hn.1;omega
   have lp:=ajV N Es ((k:Int)+1) C (by omega) C.length 0 L (by omega) hb;rw[cP] at lp;have e:((k+1:Nat):Int)=(k:Int)+1:=by omega
   rw[e] at cr ⊢;have k1:(k:Int)+1<N:=by omega
   have lc:=ah C;have w1:IntKind.i64.wrap ((k:Int)+1+1)=(k:Int)+1+1:=qD (by omega) (by omega);clear l2 hs;simp only[fH] at lp;unfold FM yV at lp;unfold FM yV PL;generalize ints (C.foldl (stK ((k:Int)+1)) L)=L2 at *;generalize ints C=C1 at *;generalize ints L=L1 at *;generalize fe Es=Y at *;simp[K0,KZ,KY,KX,KW,KV,KU,KT,KS,KR,C4,C3,C0,CZ,cr,lp,k1,lc,w1,aH,sQQ,iQQ]
theorem ad3 {N:Nat} {Es:List Ed} (hG:uQ (N:Int) Es) (hE:Es.length<1000000):∃L,rG (eK N Es) N L/\bJ aq nQO [.agg [.int .i64 N,.list 2 (fe Es)]] []=some (.dR [.list 1 (ints L),.int .i64 0],[]):=by
 have hN:N<=64:=by have:=hG.1.2; omega
 have g:=zz N Es (by omega);rw[tE.2 hG] at g
 have hI:∀a,((eK N Es).getD a 0).testBit a=false:=fun a=>by
  rw[(lV hG).2.2];cases e:(decide (((a:Int),(a:Int))∈Es)||decide (((a:Int),(a:Int))∈Es)) with
  |false=>rfl
  |true=>
    simp only[Bool.or_self,decide_eq_true_eq] at e;have:=hG.2.2 _ e;simp only at this;omega
 have main:∃L,rG (eK N Es) N L/\∃ k,aW aq 0 (.loop PL) (FM N Es (bh N 0) 1 [])=some (.exit 0,FM N Es L k [(20,.bool false)]):=by
  by_cases h0:N=0
  ·subst h0;refine⟨[],⟨rfl,fun v hv=>by omega⟩,1,bn ?_⟩;unfold FM yV PL;generalize fe Es=Y at *;simp[K0,KZ,KY,KX,KW,KV,KU,KT,KS,KR,C4,C3,C0,CZ,aH]
  ·obtain⟨L,l1,l2⟩:=ad4 hG hE (N-1) 0 (bh N 0) (by omega) (ac3 _ _);exact⟨L,afC hN hI l1 (by omega),N,by simpa using l2⟩
 obtain⟨L,hL,k,lp⟩:=main;refine⟨L,hL,?_⟩;have e1:bh N (AV.int .i64 0)=ints (bh N 0):=by simp[ints]
 have nL:(N:Int)<=(ks:Int):=by unfold ks; omega
 have pL:=EC L;have fL:=lT L;have lL:=ah L;have tk:(ints L).take L.length=ints L:=List.take_of_length_le (by omega);unfold FM yV at lp;rw[dZ sQO (au rfl)];unfold qQO cQO;generalize ints (bh N 0)=Z1 at *;generalize ints L=L1 at *;generalize fe Es=Y at *;simp[K0,KZ,KY,KX,KW,KV,KU,KT,KS,KR,C4,C3,C0,CZ,g,lp,e1,nL,pL,fL,lL,tk,aH,bL,bC,dc,pl,sQP,iQP]
end Go.BmP
