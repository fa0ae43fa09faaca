/- ref10.core, Numbers. -/
import Derived.Test.YtbnheahpdodmjaaGreatDoorDegC
import Derived.Test.YtbnheahpdodmjaaGreatDoorLfP
set_option linter.unusedSimpArgs false
set_option linter.unusedVariables false
set_option maxRecDepth 100000
set_option maxHeartbeats 8000000
open List renaming drop_eq_getElem_cons → bg, drop_length → bY, drop_zero → ct, foldl_cons → dM, foldl_nil → Dj, getElem?_eq_getElem → ai, getElem_mem → eG, replicate → aW
open Nat renaming le_of_ble_eq_true → aB
namespace Go.BmP
open Go.Am Go.Bm
def uC (N:Nat) (Es:List Ed):Heap:=[some [.int .i64 N,.list 2 (dA Es)]]
theorem IP {A:List Nat} {N k:Nat} {l:List Int} (h:Crs A N k l):l.length<=N:=by
 have:=u9 (A:=l) (B:=(List.range N).map fun n=>((n:Nat):Int)) (h.up.imp fun{a b} h=>by omega) fun x hx=>List.mem_map.2 ⟨x.toNat,List.mem_range.2 (by have:=h.bd x hx; omega),by have:=h.bd x hx; omega⟩
 rwa [List.length_map,List.length_range] at this
theorem Eh {N:Nat} {Es:List Ed} (hG:tV (N:Int) Es):∀v,v<N->KO N Es v=bW ((eB N Es).getD v 0):=fun v hv=>(abb hG hv).symm
def rcSt (N:Nat) (Es:List Ed) (k:Int) (l:List Int) (b:Bool) (W:List Int) (i:Int) (J:Env):St:=⟨(1,.int .i64 k)::(2,.ptr 0 0)::(5,.list 1 (ints l))::(6,.bool b)::(13,.list 1 (ints W))::(14,.int .i64 W.length)::(15,.int .i64 i)::J,uC N Es⟩
theorem acO {N:Nat} {Es:List Ed} (hG:tV (N:Int) Es) (hE:Es.length<1000000) (k:Nat) (W:List Int) (hl:W.length<=64) (hW:∀v∈W,0<=v/\v<(N:Int)):∀(m i:Nat) (l:List Int) (b:Bool),i+m=W.length->Crs (eB N Es) N k l->aY an 0 (.loop Tr) (rcSt N Es k l b W i [])=some (.exit 2,rcSt N Es k ((W.drop i).foldl (OV (KO N Es) k) (l,b)).1 ((W.drop i).foldl (OV (KO N Es) k) (l,b)).2 W W.length [(16,.bool false)])
 |0,i,l,b,hi,_=>by
   obtain rfl:i=W.length:=by omega
   rw[bY,Dj];refine bt ?_;unfold rcSt uC Tr;generalize ints W=W1 at *;generalize ints l=L1 at *;generalize dA Es=Y at *;simp[Ho,Hn,Hm,Hk,Hj,Hi,Hh,Hg,Hf,He,zr,zq]
 |m+1,i,l,b,hi,hc=>by
   have hN:N<=64:=by have:=hG.1.2; omega
   have bF:i<W.length:=by omega
   have hv:=hW W[i] (eG bF);rw[bg bF,dM];have k1:(i:Int)<W.length:=by omega
   have hw:=dO (i:=i) (by omega);have hx:=CU (k:=.i64) (i:=(i:Int)) (n:=W.length) (by omega) k1;have g4:∀h,(ints W)[i]'h=.int .i64 W[i]:=fun h=>aZ _ _ _;have g3:(ints W)[i]?=some (.int .i64 W[i]):=by rw[ai (by rw[ah]; exact bF),aZ]
   have lw:=ah W;have lc:=IP hc;have nr:=zI hG hE hv.1 hv.2;have nl:=agT hG hv.1 hv.2;have mr:=SR (HG N Es W[i]) l (by omega) (by omega);have ml:=ah (meet (HG N Es W[i]) l);have zc:=aH (meet (HG N Es W[i]) l);obtain⟨z1,z2,z3,z4,z5,z6,z7,z8,z9,za,zb⟩:=bj (meet (HG N Es W[i]) l);have en:KO N Es W[i].toNat=HG N Es W[i]:=by unfold KO; rw[show ((W[i].toNat:Nat):Int)=W[i] by omega]
   by_cases q:((meet (HG N Es W[i]) l).length:Int)<k
   ·have e:OV (KO N Es) k (l,b) W[i]=(minus l [W[i]],true):=by unfold OV; rw[en,if_pos q]
    rw[e];have IJ:=Ur hN (Eh hG) hc hv (by rw[en]; omega);have ih:=acO hG hE k W hl hW m (i+1) (minus l [W[i]]) true (by omega) IJ;refine (aV ?_).trans ih;have mi:bu an nQQ [.list 1 (ints l),.list 1 [.int .i64 W[i]]] []=some (.list 1 (ints (minus l [W[i]])),[]):=Oj l [W[i]] (by omega) (by simp);clear ih hc IJ e en hW;have pM:=D0 (minus l [W[i]]);unfold rcSt uC Tr;generalize ints (minus l [W[i]])=M1 at *;generalize ints (meet (HG N Es W[i]) l)=Z1 at *;generalize ints (HG N Es W[i])=B1 at *;generalize (meet (HG N Es W[i]) l).length=z at *;generalize W[i]=v at *;generalize ints W=W1 at *;generalize ints l=L1 at *;generalize dA Es=Y at *;simp[Ho,Hn,Hm,Hk,Hj,Hi,Hh,Hg,Hf,He,zr,zq,k1,hi,hw,hx,bF,g3,g4,lw,nr,mr,ml,zc,z1,z2,z3,z4,z5,z6,z7,z8,z9,za,zb,mi,q,pM,idx,aJ,jR,eZ,dq,pl,sQ8,iQ8,sQ7,iQ7,sQQ,iQQ]
   ·have e:OV (KO N Es) k (l,b) W[i]=(l,b):=by unfold OV; rw[en,if_neg q]
    rw[e];have ih:=acO hG hE k W hl hW m (i+1) l b (by omega) hc;refine (aV ?_).trans ih;clear ih hc e en hW;unfold rcSt uC Tr;generalize ints (meet (HG N Es W[i]) l)=Z1 at *;generalize ints (HG N Es W[i])=B1 at *;generalize (meet (HG N Es W[i]) l).length=z at *;generalize W[i]=v at *;generalize ints W=W1 at *;generalize ints l=L1 at *;generalize dA Es=Y at *;simp[Ho,Hn,Hm,Hk,Hj,Hi,Hh,Hg,Hf,He,zr,zq,k1,hi,hw,hx,bF,g3,g4,lw,nr,mr,ml,zc,z1,z2,z3,z4,z5,z6,z7,z8,z9,za,zb,q,idx,aJ,jR,eZ,dq,pl,sQ8,iQ8,sQ7,iQ7]
def PF (N:Nat) (Es:List Ed) (k:Int) (l:List Int) (J:Env):St:=⟨(1,.int .i64 k)::(2,.ptr 0 0)::(5,.list 1 (ints l))::J,uC N Es⟩
def rjk (W:List AV) (z:Int):Env:=[(13,.list 1 W),(14,.int .i64 z),(15,.int .i64 z),(16,.bool false)]
theorem X4 {N:Nat} {Es:List Ed} (hG:tV (N:Int) Es) (hE:Es.length<1000000) (k:Nat) (l:List Int) (hc:Crs (eB N Es) N k l) (J:Env) (hJ:J=[]\/∃ W z,J=rjk W z):aY an 0 Ou (PF N Es k l ((6,.bool true)::J))=some (.normal,PF N Es k (l.foldl (OV (KO N Es) k) (l,false)).1 ((6,.bool (l.foldl (OV (KO N Es) k) (l,false)).2)::rjk (ints l) l.length)):=by
 have hN:N<=64:=by have:=hG.1.2; omega
 have lc:=IP hc;have lp:=acO hG hE k l (by omega) hc.bd l.length 0 l false (by omega) hc;rw[ct] at lp;have ll:=ah l;simp only[fU] at lp;unfold rcSt uC at lp;unfold PF uC Ou;generalize l.foldl (OV (KO N Es) k) (l,false)=z at *;obtain⟨z1,z2⟩:=z;simp only at lp ⊢;generalize ints z1=Z1 at *;generalize ints l=L1 at *;generalize dA Es=Y at *;rcases hJ with rfl|⟨W,z,rfl⟩
 ·unfold rjk;simp[Ho,Hn,Hm,Hk,Hj,Hi,Hh,Hg,Hf,He,zr,zq,lp,ll,aJ]
 ·unfold rjk;simp[Ho,Hn,Hm,Hk,Hj,Hi,Hh,Hg,Hf,He,zr,zq,lp,ll,aJ]
theorem X3 (N:Nat) (Es:List Ed) (k:Int) (l:List Int) (W:List AV) (z:Int):aY an 0 Ou (PF N Es k l ((6,.bool false)::rjk W z))=some (.exit 0,PF N Es k l [(12,.bool false)]):=by
 unfold PF uC rjk Ou;generalize ints l=L1 at *;generalize dA Es=Y at *;simp[Ho,Hn,Hm,Hk,Hj,Hi,Hh,Hg,Hf,He,zr,zq]
theorem ajn {N:Nat} {Es:List Ed} (hG:tV (N:Int) Es) (hE:Es.length<1000000) (k:Nat):∀(n:Nat) (l:List Int) (J:Env),(J=[]\/∃ W z,J=rjk W z)->l.length<=n->Crs (eB N Es) N k l->∃C:List Int,(∀x:Int,x∈C ↔ ∃j:Nat,x=j/\UR (eB N Es) (2 ^ N-1) k j)/\C.length<=N/\aY an 0 (.loop Ou) (PF N Es k l ((6,.bool true)::J))=some (.exit 0,PF N Es k C [(12,.bool false)]):=by
 have hN:N<=64:=by have:=hG.1.2; omega
 intro n
 induction n with
 |zero=>
   intro l J hJ hl hc;have:l=[]:=List.eq_nil_of_length_eq_zero (by omega);subst this;have bd:=X4 hG hE k [] hc J hJ;rw[Dj] at bd;exact⟨[],aa2 hN (Eh hG) hc (fun v hv=>by cases hv),by simp,(aV bd).trans (bt (X3 _ _ _ _ _ _))⟩
 |succ n ih=>
   intro l J hJ hl hc;have bd:=X4 hG hE k l hc J hJ;obtain⟨f1,f2,f3,f4⟩:=LO hN (Eh hG) l l false hc (fun v hv=>hv) (hc.up.imp fun{a b} h=>by omega);cases hz:(l.foldl (OV (KO N Es) k) (l,false)).2 with
   |false=>
     obtain⟨_,e,g⟩:=f3 hz;rw[hz,e] at bd;exact⟨l,aa2 hN (Eh hG) hc g,IP hc,(aV bd).trans (bt (X3 _ _ _ _ _ _))⟩
   |true=>
     rw[hz] at bd;have sm:=(f4 hz).resolve_left (by simp);obtain⟨C,c1,c2,c3⟩:=ih _ _ (.inr ⟨_,_,rfl⟩) (by omega) f1;exact⟨C,c1,c2,(aV bd).trans c3⟩
theorem Nx {N:Nat} {Es:List Ed} (hG:tV (N:Int) Es) (hE:Es.length<1000000) (k:Nat):∃C:List Int,(∀x:Int,x∈C ↔ ∃j:Nat,x=j/\UR (eB N Es) (2 ^ N-1) k j)/\C.length<=N/\bu an nQM [.agg [.int .i64 N,.list 2 (dA Es)],.int .i64 k] []=some (.list 1 (ints C),[]):=by
 have hN:N<=64:=by have:=hG.1.2; omega
 have hz:=afg (eB N Es) hN k;obtain⟨C,c1,c2,lp⟩:=ajn hG hE k N _ [] (.inl rfl) (IP hz) hz;refine⟨C,c1,c2,?_⟩;have n4:=NA (N:Int);unfold PF uC at lp;have pC:=D0 C;rw[eO sQM (aB rfl)];unfold qQM cQM;generalize ints C=C1 at *;generalize ints (jg (N:Int))=R1 at *;generalize dA Es=Y at *;simp[Ho,Hn,Hm,Hk,Hj,Hi,Hh,Hg,Hf,He,zr,zq,lp,n4,pC,aJ,bM,bI,dq,pl,sQO,iQO]
def Fh (N:Nat) (Es:List Ed) (L:List Int) (k:Int) (J:Env):St:=⟨(1,.ptr 0 0)::(5,.own 1 (ints L))::(6,.int .i64 k)::J,uC N Es⟩
theorem aiq (N:Nat) (Es:List Ed) (k:Int) (C:List Int) (hC:C.length<=64):∀(m i:Nat) (L:List Int),i+m=C.length->(∀v∈C,0<=v/\v<(L.length:Int))->aY an 0 (.loop aax) (Fh N Es L k [(25,.list 1 (ints C)),(26,.int .i64 C.length),(27,.int .i64 i)])=some (.exit 2,Fh N Es ((C.drop i).foldl (stK k) L) k [(25,.list 1 (ints C)),(26,.int .i64 C.length),(27,.int .i64 C.length),(28,.bool false)])
 |0,i,L,hi,_=>by
   obtain rfl:i=C.length:=by omega
   rw[bY,Dj];refine bt ?_;unfold Fh uC aax;generalize ints C=C1 at *;generalize ints L=L1 at *;generalize dA Es=Y at *;simp[Ki,Kh,Kg,Kf,Ke,Kc,Kb,Ka,J9,J8,CA,Cz,Cy,Cx]
 |m+1,i,L,hi,hb=>by
   have bF:i<C.length:=by omega
   have hv:=hb C[i] (eG bF);rw[bg bF,dM];have ih:=aiq N Es k C hC m (i+1) (stK k L C[i]) (by omega) (fun v hv=>by unfold stK; rw[List.length_set]; exact hb v hv);refine (aV ?_).trans ih;clear ih;have k1:(i:Int)<C.length:=by omega
   have hw:=dO (i:=i) (by omega);have hx:=CU (k:=.i64) (i:=(i:Int)) (n:=C.length) (by omega) k1;have g4:∀h,(ints C)[i]'h=.int .i64 C[i]:=fun h=>aZ _ _ _;have g3:(ints C)[i]?=some (.int .i64 C[i]):=by rw[ai (by rw[ah]; exact bF),aZ]
   have lw:=ah C;have ll:=ah L;have e:ints (stK k L C[i])=(ints L).set C[i].toNat (.int .i64 k):=by unfold stK ints; rw[List.map_set]
   unfold Fh uC aax;rw[e];generalize C[i]=v at *;obtain⟨v0,v1⟩:=hv;have v2:v.toNat<L.length:=by omega
   have hx2:=CU (k:=.i64) (i:=v) (n:=L.length) v0 v1;generalize ints C=C1 at *;generalize ints L=L1 at *;generalize dA Es=Y at *;simp[Ki,Kh,Kg,Kf,Ke,Kc,Kb,Ka,J9,J8,CA,Cz,Cy,Cx,k1,hi,hw,hx,hx2,bF,g3,g4,lw,ll,v0,v1,v2,idx,aJ]
theorem acz {N:Nat} {Es:List Ed} (hG:tV (N:Int) Es) (hE:Es.length<1000000):∀(m k:Nat) (L:List Int),k+m+1=N->NumK (eB N Es) N k L->∃L',NumK (eB N Es) N (N-1) L'/\aY an 0 (.loop Ov) (Fh N Es L ((k:Int)+1) [])=some (.exit 0,Fh N Es L' N [(20,.bool false)])
 |0,k,L,hk,hn=>by
   obtain rfl:N=k+1:=by omega
   refine⟨L,hn,bt ?_⟩;have e:((k+1:Nat):Int)=(k:Int)+1:=by omega
   unfold Fh uC Ov;rw[e];generalize ints L=L1 at *;generalize dA Es=Y at *;simp[Ki,Kh,Kg,Kf,Ke,Kc,Kb,Ka,J9,J8,CA,Cz,Cy,Cx,aJ]
 |m+1,k,L,hk,hn=>by
   have hN:N<=64:=by have:=hG.1.2; omega
   obtain⟨C,c1,c2,cr⟩:=Nx hG hE (k+1);have hs:=abK hn c1;obtain⟨L',l1,l2⟩:=acz hG hE m (k+1) _ (by omega) hs;refine⟨L',l1,(aV ?_).trans l2⟩
   have hb:∀v∈C,0<=v/\v<(L.length:Int):=fun v hv=>by
    obtain⟨j,rfl,q⟩:=(c1 v).1 hv;have:=Qh q;have:=hn.1;omega
   have lp:=aiq N Es ((k:Int)+1) C (by omega) C.length 0 L (by omega) hb;rw[ct] at lp;have e:((k+1:Nat):Int)=(k:Int)+1:=by omega
   rw[e] at cr ⊢;have k1:(k:Int)+1<N:=by omega
   have lc:=ah C;have w1:IntKind.i64.wrap ((k:Int)+1+1)=(k:Int)+1+1:=nn (by omega) (by omega);clear l2 hs;simp only[fU] at lp;unfold Fh uC at lp;unfold Fh uC Ov;generalize ints (C.foldl (stK ((k:Int)+1)) L)=L2 at *;generalize ints C=C1 at *;generalize ints L=L1 at *;generalize dA Es=Y at *;simp[Ki,Kh,Kg,Kf,Ke,Kc,Kb,Ka,J9,J8,CA,Cz,Cy,Cx,cr,lp,k1,lc,w1,aJ,sQM,iQM]
theorem acy {N:Nat} {Es:List Ed} (hG:tV (N:Int) Es) (hE:Es.length<1000000):∃L,sG (eB N Es) N L/\bu an nQK [.agg [.int .i64 N,.list 2 (dA Es)]] []=some (.dt [.list 1 (ints L),.int .i64 0],[]):=by
 have hN:N<=64:=by have:=hG.1.2; omega
 have g:=yY N Es (by omega);rw[s6.2 hG] at g
 have hI:∀a,((eB N Es).getD a 0).testBit a=false:=fun a=>by
  rw[(lM hG).2.2];cases e:(decide (((a:Int),(a:Int))∈Es)||decide (((a:Int),(a:Int))∈Es)) with
  |false=>rfl
  |true=>
    simp only[Bool.or_self,decide_eq_true_eq] at e;have:=hG.2.2 _ e;simp only at this;omega
 have main:∃L,sG (eB N Es) N L/\∃ k,aY an 0 (.loop Ov) (Fh N Es (aW N 0) 1 [])=some (.exit 0,Fh N Es L k [(20,.bool false)]):=by
  by_cases h0:N=0
  ·subst h0;refine⟨[],⟨rfl,fun v hv=>by omega⟩,1,bt ?_⟩;unfold Fh uC Ov;generalize dA Es=Y at *;simp[Ki,Kh,Kg,Kf,Ke,Kc,Kb,Ka,J9,J8,CA,Cz,Cy,Cx,aJ]
  ·obtain⟨L,l1,l2⟩:=acz hG hE (N-1) 0 (aW N 0) (by omega) (abJ _ _);exact⟨L,ad5 hN hI l1 (by omega),N,by simpa using l2⟩
 obtain⟨L,hL,k,lp⟩:=main;refine⟨L,hL,?_⟩;have e1:aW N (AV.int .i64 0)=ints (aW N 0):=by simp[ints]
 have nL:(N:Int)<=(lU:Int):=by unfold lU; omega
 have pL:=D0 L;have fL:=lJ L;have lL:=ah L;have tk:(ints L).take L.length=ints L:=List.take_of_length_le (by omega);unfold Fh uC at lp;rw[eO sQK (aB rfl)];unfold qQK cQK;generalize ints (aW N 0)=Z1 at *;generalize ints L=L1 at *;generalize dA Es=Y at *;simp[Ki,Kh,Kg,Kf,Ke,Kc,Kb,Ka,J9,J8,CA,Cz,Cy,Cx,g,lp,e1,nL,pL,fL,lL,tk,aJ,bM,bI,dq,pl,sQL,iQL]
end Go.BmP
