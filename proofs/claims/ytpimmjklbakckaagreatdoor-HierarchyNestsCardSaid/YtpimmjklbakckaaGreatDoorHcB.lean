/- ref10.core, Numbers. -/
import Derived.Test.YtpimmjklbakckaaGreatDoorDegC
set_option linter.unusedSimpArgs false
set_option linter.unusedVariables false
set_option maxRecDepth 100000
set_option maxHeartbeats 8000000
open List renaming drop_eq_getElem_cons → bH, drop_length → cI, drop_zero → dc, foldl_cons → pd, foldl_nil → Ie, getElem?_eq_getElem → aq, getElem_mem → nP, replicate → aT
open Nat renaming le_of_ble_eq_true → aF
namespace Go.BmP
open Go.Am Go.Bm
def Of (N:Nat) (Es:List Ed):Heap:=[some [.int .i64 N,.list 2 (fi Es)]]
theorem Eo {A:List Nat} {N k:Nat} {l:List Int} (h:Crs A N k l):l.length<=N:=by
 have:=Ga (A:=l) (B:=(List.range N).map fun n=>((n:Nat):Int)) (h.up.imp fun{a b} h=>by omega) fun x hx=>List.mem_map.2 ⟨x.toNat,List.mem_range.2 (by have:=h.bd x hx; omega),by have:=h.bd x hx; omega⟩
 rwa [List.length_map,List.length_range] at this
theorem AX {N:Nat} {Es:List Ed} (hG:vW (N:Int) Es):∀v,v<N->Gb N Es v=cz ((ft N Es).getD v 0):=fun v hv=>(UL hG hv).symm
def VP (N:Nat) (Es:List Ed) (k:Int) (l:List Int) (b:Bool) (W:List Int) (i:Int) (J:Env):St:=⟨(1,.int .i64 k)::(2,.ptr 0 0)::(5,.list 1 (ints l))::(6,.bool b)::(13,.list 1 (ints W))::(14,.int .i64 W.length)::(15,.int .i64 i)::J,Of N Es⟩
theorem XQ {N:Nat} {Es:List Ed} (hG:vW (N:Int) Es) (hE:Es.length<1000000) (k:Nat) (W:List Int) (hl:W.length<=64) (hW:∀v∈W,0<=v/\v<(N:Int)):∀(m i:Nat) (l:List Int) (b:Bool),i+m=W.length->Crs (ft N Es) N k l->bg aC 0 (.loop Np) (VP N Es k l b W i [])=some (.exit 2,VP N Es k ((W.drop i).foldl (JF (Gb N Es) k) (l,b)).1 ((W.drop i).foldl (JF (Gb N Es) k) (l,b)).2 W W.length [(16,.bool false)])
 |0,i,l,b,hi,_=>by
   obtain rfl:i=W.length:=by omega
   rw[cI,Ie];refine bI ?_;unfold VP Of Np;generalize ints W=W1 at *;generalize ints l=L1 at *;generalize fi Es=Y at *;simp[CX,CW,CV,CU,CT,CS,CR,CQ,CP,CO,wq,wk]
 |m+1,i,l,b,hi,hc=>by
   have hN:N<=64:=by have:=hG.1.2; omega
   have bQ:i<W.length:=by omega
   have hv:=hW W[i] (nP bQ);rw[bH bQ,pd];have k1:(i:Int)<W.length:=by omega
   have hw:=eO (i:=i) (by omega);have hx:=KI (k:=.i64) (i:=(i:Int)) (n:=W.length) (by omega) k1;have g4:∀h,(ints W)[i]'h=.int .i64 W[i]:=fun h=>bm _ _ _;have g3:(ints W)[i]?=some (.int .i64 W[i]):=by rw[aq (by rw[ah]; exact bQ),bm]
   have lw:=ah W;have lc:=Eo hc;have nr:=wN hG hE hv.1 hv.2;have nl:=abq hG hv.1 hv.2;have mr:=Ge (yF N Es W[i]) l (by omega) (by omega);have ml:=ah (meet (yF N Es W[i]) l);have en:Gb N Es W[i].toNat=yF N Es W[i]:=by unfold Gb; rw[show ((W[i].toNat:Nat):Int)=W[i] by omega]
   by_cases q:((meet (yF N Es W[i]) l).length:Int)<k
   ·have e:JF (Gb N Es) k (l,b) W[i]=(minus l [W[i]],true):=by unfold JF; rw[en,if_pos q]
    rw[e];have El:=OB hN (AX hG) hc hv (by rw[en]; omega);have ih:=XQ hG hE k W hl hW m (i+1) (minus l [W[i]]) true (by omega) El;refine (bk ?_).trans ih;have mi:bU aC nQO [.list 1 (ints l),.list 1 [.int .i64 W[i]]] []=some (.list 1 (ints (minus l [W[i]])),[]):=V8 l [W[i]] (by omega) (by simp);clear ih hc El e en hW;have pM:=AE (minus l [W[i]]);unfold VP Of Np;generalize ints (minus l [W[i]])=M1 at *;generalize ints (meet (yF N Es W[i]) l)=Z1 at *;generalize ints (yF N Es W[i])=B1 at *;generalize (meet (yF N Es W[i]) l).length=z at *;generalize W[i]=v at *;generalize ints W=W1 at *;generalize ints l=L1 at *;generalize fi Es=Y at *;simp[CX,CW,CV,CU,CT,CS,CR,CQ,CP,CO,wq,wk,k1,hi,hw,hx,bQ,g3,g4,lw,nr,mr,ml,mi,q,pM,idx,aJ,lN,fI,eE,pl,sQh,iQh,sQg,iQg,sQO,iQO]
   ·have e:JF (Gb N Es) k (l,b) W[i]=(l,b):=by unfold JF; rw[en,if_neg q]
    rw[e];have ih:=XQ hG hE k W hl hW m (i+1) l b (by omega) hc;refine (bk ?_).trans ih;clear ih hc e en hW;unfold VP Of Np;generalize ints (meet (yF N Es W[i]) l)=Z1 at *;generalize ints (yF N Es W[i])=B1 at *;generalize (meet (yF N Es W[i]) l).length=z at *;generalize W[i]=v at *;generalize ints W=W1 at *;generalize ints l=L1 at *;generalize fi Es=Y at *;simp[CX,CW,CV,CU,CT,CS,CR,CQ,CP,CO,wq,wk,k1,hi,hw,hx,bQ,g3,g4,lw,nr,mr,ml,q,idx,aJ,lN,fI,eE,pl,sQh,iQh,sQg,iQg]
def Kb (N:Nat) (Es:List Ed) (k:Int) (l:List Int) (J:Env):St:=⟨(1,.int .i64 k)::(2,.ptr 0 0)::(5,.list 1 (ints l))::J,Of N Es⟩
def rjk (W:List AV) (z:Int):Env:=[(13,.list 1 W),(14,.int .i64 z),(15,.int .i64 z),(16,.bool false)]
theorem RU {N:Nat} {Es:List Ed} (hG:vW (N:Int) Es) (hE:Es.length<1000000) (k:Nat) (l:List Int) (hc:Crs (ft N Es) N k l) (J:Env) (hJ:J=[]\/∃ W z,J=rjk W z):bg aC 0 Ji (Kb N Es k l ((6,.bool true)::J))=some (.normal,Kb N Es k (l.foldl (JF (Gb N Es) k) (l,false)).1 ((6,.bool (l.foldl (JF (Gb N Es) k) (l,false)).2)::rjk (ints l) l.length)):=by
 have hN:N<=64:=by have:=hG.1.2; omega
 have lc:=Eo hc;have lp:=XQ hG hE k l (by omega) hc.bd l.length 0 l false (by omega) hc;rw[dc] at lp;have ll:=ah l;simp only[jJ] at lp;unfold VP Of at lp;unfold Kb Of Ji;generalize l.foldl (JF (Gb N Es) k) (l,false)=z at *;obtain⟨z1,z2⟩:=z;simp only at lp ⊢;generalize ints z1=Z1 at *;generalize ints l=L1 at *;generalize fi Es=Y at *;rcases hJ with rfl|⟨W,z,rfl⟩
 ·unfold rjk;simp[CX,CW,CV,CU,CT,CS,CR,CQ,CP,CO,wq,wk,lp,ll,aJ]
 ·unfold rjk;simp[CX,CW,CV,CU,CT,CS,CR,CQ,CP,CO,wq,wk,lp,ll,aJ]
theorem RT (N:Nat) (Es:List Ed) (k:Int) (l:List Int) (W:List AV) (z:Int):bg aC 0 Ji (Kb N Es k l ((6,.bool false)::rjk W z))=some (.exit 0,Kb N Es k l [(12,.bool false)]):=by
 unfold Kb Of rjk Ji;generalize ints l=L1 at *;generalize fi Es=Y at *;simp[CX,CW,CV,CU,CT,CS,CR,CQ,CP,CO,wq,wk]
theorem aei {N:Nat} {Es:List Ed} (hG:vW (N:Int) Es) (hE:Es.length<1000000) (k:Nat):∀(n:Nat) (l:List Int) (J:Env),(J=[]\/∃ W z,J=rjk W z)->l.length<=n->Crs (ft N Es) N k l->∃C:List Int,(∀x:Int,x∈C ↔ ∃j:Nat,x=j/\W0 (ft N Es) (2 ^ N-1) k j)/\C.length<=N/\bg aC 0 (.loop Ji) (Kb N Es k l ((6,.bool true)::J))=some (.exit 0,Kb N Es k C [(12,.bool false)]):=by
 have hN:N<=64:=by have:=hG.1.2; omega
 intro n
 induction n with
 |zero=>
   intro l J hJ hl hc;have:l=[]:=List.eq_nil_of_length_eq_zero (by omega);subst this;have bd:=RU hG hE k [] hc J hJ;rw[Ie] at bd;exact⟨[],UB hN (AX hG) hc (fun v hv=>by cases hv),by simp,(bk bd).trans (bI (RT _ _ _ _ _ _))⟩
 |succ n ih=>
   intro l J hJ hl hc;have bd:=RU hG hE k l hc J hJ;obtain⟨f1,f2,f3,f4⟩:=GU hN (AX hG) l l false hc (fun v hv=>hv) (hc.up.imp fun{a b} h=>by omega);cases hz:(l.foldl (JF (Gb N Es) k) (l,false)).2 with
   |false=>
     obtain⟨_,e,g⟩:=f3 hz;rw[hz,e] at bd;exact⟨l,UB hN (AX hG) hc g,Eo hc,(bk bd).trans (bI (RT _ _ _ _ _ _))⟩
   |true=>
     rw[hz] at bd;have sm:=(f4 hz).resolve_left (by simp);obtain⟨C,c1,c2,c3⟩:=ih _ _ (.inr ⟨_,_,rfl⟩) (by omega) f1;exact⟨C,c1,c2,(bk bd).trans c3⟩
theorem VO {N:Nat} {Es:List Ed} (hG:vW (N:Int) Es) (hE:Es.length<1000000) (k:Nat):∃C:List Int,(∀x:Int,x∈C ↔ ∃j:Nat,x=j/\W0 (ft N Es) (2 ^ N-1) k j)/\C.length<=N/\bU aC nQs [.agg [.int .i64 N,.list 2 (fi Es)],.int .i64 k] []=some (.list 1 (ints C),[]):=by
 have hN:N<=64:=by have:=hG.1.2; omega
 have hz:=aac (ft N Es) hN k;obtain⟨C,c1,c2,lp⟩:=aei hG hE k N _ [] (.inl rfl) (Eo hz) hz;refine⟨C,c1,c2,?_⟩;have n4:=VQ (N:Int);unfold Kb Of at lp;have pC:=AE C;rw[fK sQs (aF rfl)];unfold qQs cQs;generalize ints C=C1 at *;generalize ints (wj (N:Int))=R1 at *;generalize fi Es=Y at *;simp[CX,CW,CV,CU,CT,CS,CR,CQ,CP,CO,wq,wk,lp,n4,pC,aJ,cc,bR,eE,pl,sQN,iQN]
def BO (N:Nat) (Es:List Ed) (L:List Int) (k:Int) (J:Env):St:=⟨(1,.ptr 0 0)::(5,.own 1 (ints L))::(6,.int .i64 k)::J,Of N Es⟩
theorem acP (N:Nat) (Es:List Ed) (k:Int) (C:List Int) (hC:C.length<=64):∀(m i:Nat) (L:List Int),i+m=C.length->(∀v∈C,0<=v/\v<(L.length:Int))->bg aC 0 (.loop T6) (BO N Es L k [(25,.list 1 (ints C)),(26,.int .i64 C.length),(27,.int .i64 i)])=some (.exit 2,BO N Es ((C.drop i).foldl (VL k) L) k [(25,.list 1 (ints C)),(26,.int .i64 C.length),(27,.int .i64 C.length),(28,.bool false)])
 |0,i,L,hi,_=>by
   obtain rfl:i=C.length:=by omega
   rw[cI,Ie];refine bI ?_;unfold BO Of T6;generalize ints C=C1 at *;generalize ints L=L1 at *;generalize fi Es=Y at *;simp[Ft,Fs,Fo,Fm,Fl,Fk,Fj,Fi,Fh,Fg,zo,zn,zm,zk]
 |m+1,i,L,hi,hb=>by
   have bQ:i<C.length:=by omega
   have hv:=hb C[i] (nP bQ);rw[bH bQ,pd];have ih:=acP N Es k C hC m (i+1) (VL k L C[i]) (by omega) (fun v hv=>by unfold VL; rw[List.length_set]; exact hb v hv);refine (bk ?_).trans ih;clear ih;have k1:(i:Int)<C.length:=by omega
   have hw:=eO (i:=i) (by omega);have hx:=KI (k:=.i64) (i:=(i:Int)) (n:=C.length) (by omega) k1;have g4:∀h,(ints C)[i]'h=.int .i64 C[i]:=fun h=>bm _ _ _;have g3:(ints C)[i]?=some (.int .i64 C[i]):=by rw[aq (by rw[ah]; exact bQ),bm]
   have lw:=ah C;have ll:=ah L;have e:ints (VL k L C[i])=(ints L).set C[i].toNat (.int .i64 k):=by unfold VL ints; rw[List.map_set]
   unfold BO Of T6;rw[e];generalize C[i]=v at *;obtain⟨v0,v1⟩:=hv;have v2:v.toNat<L.length:=by omega
   have hx2:=KI (k:=.i64) (i:=v) (n:=L.length) v0 v1;generalize ints C=C1 at *;generalize ints L=L1 at *;generalize fi Es=Y at *;simp[Ft,Fs,Fo,Fm,Fl,Fk,Fj,Fi,Fh,Fg,zo,zn,zm,zk,k1,hi,hw,hx,hx2,bQ,g3,g4,lw,ll,v0,v1,v2,idx,aJ]
theorem XB {N:Nat} {Es:List Ed} (hG:vW (N:Int) Es) (hE:Es.length<1000000):∀(m k:Nat) (L:List Int),k+m+1=N->WZ (ft N Es) N k L->∃L',WZ (ft N Es) N (N-1) L'/\bg aC 0 (.loop Jk) (BO N Es L ((k:Int)+1) [])=some (.exit 0,BO N Es L' N [(20,.bool false)])
 |0,k,L,hk,hn=>by
   obtain rfl:N=k+1:=by omega
   refine⟨L,hn,bI ?_⟩;have e:((k+1:Nat):Int)=(k:Int)+1:=by omega
   unfold BO Of Jk;rw[e];generalize ints L=L1 at *;generalize fi Es=Y at *;simp[Ft,Fs,Fo,Fm,Fl,Fk,Fj,Fi,Fh,Fg,zo,zn,zm,zk,aJ]
 |m+1,k,L,hk,hn=>by
   have hN:N<=64:=by have:=hG.1.2; omega
   obtain⟨C,c1,c2,cr⟩:=VO hG hE (k+1);have hs:=V4 hn c1;obtain⟨L',l1,l2⟩:=XB hG hE m (k+1) _ (by omega) hs;refine⟨L',l1,(bk ?_).trans l2⟩
   have hb:∀v∈C,0<=v/\v<(L.length:Int):=fun v hv=>by
    obtain⟨j,rfl,q⟩:=(c1 v).1 hv;have:=Zs q;have:=hn.1;omega
   have lp:=acP N Es ((k:Int)+1) C (by omega) C.length 0 L (by omega) hb;rw[dc] at lp;have e:((k+1:Nat):Int)=(k:Int)+1:=by omega
   rw[e] at cr ⊢;have k1:(k:Int)+1<N:=by omega
   have lc:=ah C;have w1:IntKind.i64.wrap ((k:Int)+1+1)=(k:Int)+1+1:=sg (by omega) (by omega);clear l2 hs;simp only[jJ] at lp;unfold BO Of at lp;unfold BO Of Jk;generalize ints (C.foldl (VL ((k:Int)+1)) L)=L2 at *;generalize ints C=C1 at *;generalize ints L=L1 at *;generalize fi Es=Y at *;simp[Ft,Fs,Fo,Fm,Fl,Fk,Fj,Fi,Fh,Fg,zo,zn,zm,zk,cr,lp,k1,lc,w1,aJ,sQs,iQs]
theorem XA {N:Nat} {Es:List Ed} (hG:vW (N:Int) Es) (hE:Es.length<1000000):∃L,nj (ft N Es) N L/\bU aC nQe [.agg [.int .i64 N,.list 2 (fi Es)]] []=some (.dF [.list 1 (ints L),.int .i64 0],[]):=by
 have hN:N<=64:=by have:=hG.1.2; omega
 have g:=L9 N Es (by omega);rw[CC.2 hG] at g
 have hI:∀a,((ft N Es).getD a 0).testBit a=false:=fun a=>by
  rw[(mK hG).2.2];cases e:(decide (((a:Int),(a:Int))∈Es)||decide (((a:Int),(a:Int))∈Es)) with
  |false=>rfl
  |true=>
    simp only[Bool.or_self,decide_eq_true_eq] at e;have:=hG.2.2 _ e;simp only at this;omega
 have main:∃L,nj (ft N Es) N L/\∃ k,bg aC 0 (.loop Jk) (BO N Es (aT N 0) 1 [])=some (.exit 0,BO N Es L k [(20,.bool false)]):=by
  by_cases h0:N=0
  ·subst h0;refine⟨[],⟨rfl,fun v hv=>by omega⟩,1,bI ?_⟩;unfold BO Of Jk;generalize fi Es=Y at *;simp[Ft,Fs,Fo,Fm,Fl,Fk,Fj,Fi,Fh,Fg,zo,zn,zm,zk,aJ]
  ·obtain⟨L,l1,l2⟩:=XB hG hE (N-1) 0 (aT N 0) (by omega) (V3 _ _);exact⟨L,YJ hN hI l1 (by omega),N,by simpa using l2⟩
 obtain⟨L,hL,k,lp⟩:=main;refine⟨L,hL,?_⟩;have e1:aT N (AV.int .i64 0)=ints (aT N 0):=by simp[ints]
 have nL:(N:Int)<=(mN:Int):=by unfold mN; omega
 have pL:=AE L;have fL:=jM L;have lL:=ah L;have tk:(ints L).take L.length=ints L:=List.take_of_length_le (by omega);unfold BO Of at lp;rw[fK sQe (aF rfl)];unfold qQe cQe;generalize ints (aT N 0)=Z1 at *;generalize ints L=L1 at *;generalize fi Es=Y at *;simp[Ft,Fs,Fo,Fm,Fl,Fk,Fj,Fi,Fh,Fg,zo,zn,zm,zk,g,lp,e1,nL,pL,fL,lL,tk,aJ,cc,bR,eE,pl,sQr,iQr]
end Go.BmP
