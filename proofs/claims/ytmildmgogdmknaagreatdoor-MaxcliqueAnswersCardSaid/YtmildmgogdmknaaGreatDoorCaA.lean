/- What ref24.Is and Maximal return. -/
import Derived.Test.YtmildmgogdmknaaGreatDoorCaP
import Derived.Test.YtmildmgogdmknaaGreatDoorK05
set_option linter.unusedSimpArgs false
set_option linter.unusedVariables false
set_option maxRecDepth 100000
set_option maxHeartbeats 4000000
open Bool renaming false_and → eh, true_and → dI
open List renaming append_assoc → du, drop_eq_getElem_cons → aT, drop_length → bK, drop_zero → bY, length_take → bF, nil_append → rP, range → cQ, take_append_of_le_length → de, take_of_length_le → aZ
open Nat renaming le_of_ble_eq_true → ah
namespace Go.BmP
open Go.Am Go.Bm
def jv (N:Nat) (Es:List Ed):Heap:=[some [.int .i64 N,.list 2 (bU Es)]]
theorem aaK {N:Nat} {Es:List Ed} (h:jh (N:Int) Es) (hE:Es.length<4294967295) (u v:Int):∃r:Int,bp aq Ic [.agg [.int .i64 N,.list 2 (bU Es)],.int .i64 u,.int .i64 v] []=some (.int .i64 r,[])/\(rE u v∈Es->¬r<0)/\(rE u v∉Es->r<0):=by
 refine⟨_,afa (N:Int) Es (by omega) h u v,fun k=>?_,fun k=>?_⟩
 ·rw[if_pos k]; omega
 ·rw[if_neg k]; omega
theorem Pq {N:Nat} {Es:List Ed} (h:jh (N:Int) Es) (hE:Es.length<4294967295) (S:List Int) (hl:S.length<4294967295) (v:Int):∀n i:Nat,i+n=S.length->aW aq 0 (.loop Gi) ⟨[(1,.list 1 (ints S)),(2,.int .i64 v),(3,.ptr 0 0),(7,.int .i64 i)],jv N Es⟩ =
  if th Es (S.drop i) v=true then some (.exit 0,⟨[(1,.list 1 (ints S)),(2,.int .i64 v),(3,.ptr 0 0),(7,.int .i64 S.length),(11,.bool false)],jv N Es⟩) else some (.ret,⟨[(6,.bool false)],[]⟩)
 |0,i,hi=>by
   obtain rfl:i=S.length:=by omega
   rw[bK,if_pos (show th Es [] v=true from rfl)];exact bq (by unfold Gi jv; simp[Cx,Cw,Cv,Cu,af])
 |n+1,i,hi=>by
   have bD:i<S.length:=by omega
   have h1:(i:Int)<S.length:=by omega
   have hw:=dM (i:=i) (by omega);have ih:=Pq h hE S hl v n (i+1) (by omega);have hx:=gC (k:=.i64) (i:=(i:Int)) (n:=S.length) (by omega) h1;obtain⟨r,f1,f2,f3⟩:=aaK h hE S[i] v;rw[aT bD];have e:th Es (S[i]::S.drop (i+1)) v=((!decide (S[i]=v)&&decide (rE S[i] v∈Es))&&th Es (S.drop (i+1)) v):=rfl;rw[e];by_cases c:S[i]=v
   ·rw[if_neg (by simp[c])];clear ih f1 f2 f3 e;exact dp (by unfold Gi jv; simp[Cx,Cw,Cv,Cu,h1,bD,hx,c,af,aM])
   ·by_cases d:rE S[i] v∈Es
    ·have f2:=f2 d;rw[show ((!decide (S[i]=v)&&decide (rE S[i] v∈Es))&&th Es (S.drop (i+1)) v)=th Es (S.drop (i+1)) v by simp[c,d]];refine (aS ?_).trans ih;clear ih f3 e;unfold Gi jv;simp[Cx,Cw,Cv,Cu,h1,bD,hx,c,hw,f1,f2,sQb6,iQb6,aO,af,aM]
    ·have f3:=f3 d;rw[if_neg (by simp[d])];clear ih f2 e;exact dp (by unfold Gi jv; simp[Cx,Cw,Cv,Cu,h1,bD,hx,c,f1,f3,sQb6,iQb6,aO,af,aM])
theorem Fe {N:Nat} {Es:List Ed} (h:jh (N:Int) Es) (hE:Es.length<4294967295) (S:List Int) (hl:S.length<4294967295) (v:Int):bp aq KI [.agg [.int .i64 N,.list 2 (bU Es)],.list 1 (ints S),.int .i64 v] []=some (.bool (th Es S v),[]):=by
 rw[pM sQb9 (ah rfl)];have l:=Pq h hE S hl v S.length 0 (by omega);rw[fi,bY] at l;unfold jv at l;cases f:th Es S v with
 |true=>
   rw[f,if_pos rfl] at l;unfold qQb9 cQb9;simp[Cz,Cy,Ct,l,bk,bf]
 |false=>
   rw[f,if_neg (by decide)] at l;unfold qQb9 cQb9;simp[Cz,Cy,Ct,l,bk,bf]
/-! Is -/
def prB (Es:List Ed) (a:Int) (S:List Int):Bool:=S.all fun b=>decide (rE a b∈Es)
def TB (Es:List Ed):List Int->Bool
 |[]=>true
 |a::r=>prB Es a r&&TB Es r
theorem Zv (Es:List Ed):∀S:List Int,TB Es S=decide (S.Pairwise fun a b=>rE a b∈Es)
 |[]=>by simp[TB]
 |a::r=>by
   unfold TB;rw[Zv Es r,Bool.eq_iff_iff];simp[prB,List.all_eq_true]
theorem ajg {N:Nat} {Es:List Ed} (h:jh (N:Int) Es) (hE:Es.length<4294967295) (S:List Int) (hl:S.length<4294967295) (i:Nat) (hi:i<S.length):∀n j:Nat,j+n=S.length->aW aq 0 (.loop Ur) ⟨[(1,.list 1 (ints S)),(2,.ptr 0 0),(5,.int .i64 i),(6,.int .i64 j)],jv N Es⟩ =
  if prB Es S[i] (S.drop j)=true then some (.exit 2,⟨[(1,.list 1 (ints S)),(2,.ptr 0 0),(5,.int .i64 i),(6,.int .i64 S.length),(28,.bool false)],jv N Es⟩) else some (.ret,⟨[(4,.bool false)],[]⟩)
 |0,j,hj=>by
   obtain rfl:j=S.length:=by omega
   rw[bK,if_pos (show prB Es S[i] []=true from rfl)];exact bq (by unfold Ur jv; simp[BZ,BX,BW,BV,af])
 |n+1,j,hj=>by
   have bD:j<S.length:=by omega
   have h1:(j:Int)<S.length:=by omega
   have h0:(i:Int)<S.length:=by omega
   have hw:=dM (i:=j) (by omega);have ih:=ajg h hE S hl i hi n (j+1) (by omega);have hx:=gC (k:=.i64) (i:=(j:Int)) (n:=S.length) (by omega) h1;have hy:=gC (k:=.i64) (i:=(i:Int)) (n:=S.length) (by omega) h0;obtain⟨r,f1,f2,f3⟩:=aaK h hE S[i] S[j];rw[aT bD];have e:prB Es S[i] (S[j]::S.drop (j+1))=(decide (rE S[i] S[j]∈Es)&&prB Es S[i] (S.drop (j+1))):=rfl;rw[e];by_cases d:rE S[i] S[j]∈Es
   ·have f2:=f2 d;rw[decide_eq_true d,dI];refine (aS ?_).trans ih;clear ih f3 e;unfold Ur jv;simp[BZ,BX,BW,BV,h1,bD,hi,hx,hy,hw,f1,f2,sQb6,iQb6,aO,af,aM]
   ·have f3:=f3 d;rw[if_neg (by simp[d])];clear ih f2 e;exact dp (by unfold Ur jv; simp[BZ,BX,BW,BV,h1,bD,hi,hx,hy,f1,f3,sQb6,iQb6,aO,af,aM])
theorem aeP {N:Nat} {Es:List Ed} (h:jh (N:Int) Es) (hE:Es.length<4294967295) (S:List Int) (hl:S.length<4294967295):∀n i:Nat,i+n=S.length->aW aq 0 (.loop Uq) ⟨[(1,.list 1 (ints S)),(2,.ptr 0 0),(5,.int .i64 i)],jv N Es⟩ =
  if TB Es (S.drop i)=true then some (.exit 0,⟨[(1,.list 1 (ints S)),(2,.ptr 0 0),(5,.int .i64 S.length),(20,.bool false)],jv N Es⟩) else some (.ret,⟨[(4,.bool false)],[]⟩)
 |0,i,hi=>by
   obtain rfl:i=S.length:=by omega
   rw[bK,if_pos (show TB Es []=true from rfl)];exact bq (by unfold Uq jv; simp[B3,B0,uF,af])
 |n+1,i,hi=>by
   have bD:i<S.length:=by omega
   have h1:(i:Int)<S.length:=by omega
   have hw:=dM (i:=i) (by omega);have ih:=aeP h hE S hl n (i+1) (by omega);have q:=ajg h hE S hl i bD (S.length-(i+1)) (i+1) (by omega);rw[aT bD];have e:TB Es (S[i]::S.drop (i+1))=(prB Es S[i] (S.drop (i+1))&&TB Es (S.drop (i+1))):=rfl;rw[e];unfold jv at q ih ⊢;rw[show ((i+1:Nat):Int)=(i:Int)+1 by omega] at q;cases f:prB Es S[i] (S.drop (i+1)) with
   |true=>
     rw[f,if_pos rfl] at q;rw[dI];refine (aS ?_).trans ih;clear ih e;unfold Uq;simp[B3,B0,uF,h1,hw,q,af]
   |false=>
     rw[f,if_neg (by decide)] at q;rw[eh,if_neg (by decide)];clear ih e;exact dp (by unfold Uq; simp[B3,B0,uF,h1,hw,q,af])
def isR (N:Nat) (Es:List Ed) (S:List Int):Bool:=n8 (N:Int) (-1) S&&decide (S.Pairwise fun a b=>rE a b∈Es)
theorem Yl {N:Nat} {Es:List Ed} (h:jh (N:Int) Es) (hE:Es.length<4294967295) (S:List Int) (hl:S.length<4294967295):bp aq nQZ [.agg [.int .i64 N,.list 2 (bU Es)],.list 1 (ints S)] []=some (.bool (isR N Es S),[]):=by
 rw[pM sQZ (ah rfl)];have c1:=iM (N:Int) Es (by omega);rw[eB.2 h] at c1;have v:=abg (N:Int) S (by omega);have l:=aeP h hE S hl S.length 0 (by omega);rw[fi,bY,Zv] at l;unfold jv at l;unfold isR;cases f:n8 (N:Int) (-1) S with
 |false=>
   rw[f] at v;rw[eh];unfold qQZ cQZ;simp[B7,B6,B5,B4,uE,c1,v,FD,Gs,sQb5,iQb5,aO,bk,bf]
 |true=>
   rw[f] at v;rw[dI];cases g:decide (S.Pairwise fun a b=>rE a b∈Es) with
   |true=>
     rw[g,if_pos rfl] at l;unfold qQZ cQZ;simp[B7,B6,B5,B4,uE,c1,v,l,FD,Gs,sQb5,iQb5,aO,bk,bf]
   |false=>
     rw[g,if_neg (by decide)] at l;unfold qQZ cQZ;simp[B7,B6,B5,B4,uE,c1,v,l,FD,Gs,sQb5,iQb5,aO,bk,bf]
/-! Maximal -/
theorem Z5 {N:Nat} {Es:List Ed} (h:jh (N:Int) Es) (hE:Es.length<4294967295) (S:List Int) (hl:S.length<4294967295):∀n i:Nat,i+n=N->aW aq 0 (.loop K7) ⟨[(1,.list 1 (ints S)),(2,.ptr 0 0),(5,.int .i64 i)],jv N Es⟩ =
  if ((List.range' i n).all fun v=>!th Es S v)=true then some (.exit 0,⟨[(1,.list 1 (ints S)),(2,.ptr 0 0),(5,.int .i64 N),(18,.bool false)],jv N Es⟩) else some (.ret,⟨[(4,.bool false)],[]⟩)
 |0,i,hi=>by
   obtain rfl:i=N:=by omega
   rw[show List.range' i 0=[] from rfl,List.all_nil,if_pos rfl];exact bq (by unfold K7 jv; simp[zy,zx,zw,zv,aO])
 |n+1,i,hi=>by
   have h1:(i:Int)<N:=by omega
   have bD:i<N:=by omega
   have hn:=od h;have hw:=dM (i:=i) (by omega);have ih:=Z5 h hE S hl n (i+1) (by omega);have q:=Fe h hE S hl i;rw[List.range'_succ,List.all_cons];cases f:th Es S i with
   |false=>
     rw[f] at q;rw[Bool.not_false,dI];refine (aS ?_).trans ih;clear ih;unfold K7 jv;simp[zy,zx,zw,zv,h1,hw,q,sQb9,iQb9,aO]
   |true=>
     rw[f] at q;rw[Bool.not_true,eh,if_neg (by decide)];clear ih;exact dp (by unfold K7 jv; simp[zy,zx,zw,zv,h1,q,sQb9,iQb9,aO])
theorem SO {N:Nat} {Es:List Ed} (h:jh (N:Int) Es) (hE:Es.length<4294967295) (S:List Int) (hl:S.length<4294967295):bp aq MK [.agg [.int .i64 N,.list 2 (bU Es)],.list 1 (ints S)] []=some (.bool (mxR N Es S),[]):=by
 rw[pM sQc0 (ah rfl)];have i:=Yl h hE S hl;have l:=Z5 h hE S hl N 0 (by omega);rw[fi,<-List.range_eq_range'] at l;unfold jv at l;have e:mxR N Es S=(isR N Es S&&(!decide (S=[])&&(cQ N).all fun v=>!th Es S v)):=rfl;rw[e];cases f:isR N Es S with
 |false=>
   rw[f] at i;rw[eh];unfold Wx cQc0;simp[zD,zC,zB,zA,zu,i,sQZ,iQZ,aO,bk,bf]
 |true=>
   rw[f] at i;rw[dI];by_cases k0:S=[]
   ·subst k0;rw[c8] at i ⊢;unfold Wx cQc0;simp[zD,zC,zB,zA,zu,i,sQZ,iQZ,aO,bk,bf]
   have l1:¬S.length=0:=fun e=>k0 (List.length_eq_zero_iff.1 e);rw[decide_eq_false k0,Bool.not_false,dI];cases g:(cQ N).all fun v=>!th Es S v with
   |true=>
     rw[g,if_pos rfl] at l;unfold Wx cQc0;simp[zD,zC,zB,zA,zu,i,l1,l,sQZ,iQZ,aO,af,bk,bf]
   |false=>
     rw[g,if_neg (by decide)] at l;unfold Wx cQc0;simp[zD,zC,zB,zA,zu,i,l1,l,sQZ,iQZ,aO,af,bk,bf]
/- What ref24.List and All return of a small graph. -/
set_option maxHeartbeats 8000000
def iC (o:List (List Int)):List AV:=o.map fun S=>.list 1 (ints S)
theorem eL (o:List (List Int)):(iC o).length=o.length:=List.length_map _
theorem abE (o:List (List Int)) (S:List Int):iC o++[.list 1 (ints S)]=iC (o++[S]):=by simp[iC]
theorem aeC (o:List (List Int)) (i:Nat):(iC o)[i]?=(o[i]?).map fun S=>.list 1 (ints S):=List.getElem?_map
theorem Iv (S:List Int):(ints S).take S.length=ints S:=aZ (by rw[af]; omega)
theorem FH (o:List (List Int)):(iC o).take o.length=iC o:=aZ (by rw[eL]; omega)
def RK (N:Nat) (Es:List Ed) (S:List Int) (o:List (List Int)) (M:Int) (v:Int) (J:Env):St:=⟨(1,.list 1 (ints S))::(3,.own 1 (iC o))::(4,.int .i64 M)::(5,.ptr 0 0)::(11,.int .i64 v)::J,jv N Es⟩
theorem ahj {N:Nat} {Es:List Ed} (h:jh (N:Int) Es) (hE:Es.length<4294967295) (S:List Int) (hS:S.length<=64) (o:List (List Int)) (M:Int) (ho:(o.length:Int)<=M) (v:Nat) (hv:v<N) (f:th Es S v=false):aW aq 0 yE (RK N Es S o M v [])=some (.normal,RK N Es S o M (v+1:Nat) []):=by
 have hn:=od h;have h1:(v:Int)<N:=by omega
 have hw:=dM (i:=v) (by omega);have q:=Fe h hE S (by omega) v;rw[f] at q;have l1:=eL o;unfold RK jv yE;generalize iC o=Z at *;simp[HB,HA,Hz,Hy,Hw,Hv,Hu,h1,hw,q,l1,ho,sQb9,iQb9,aO]
theorem alL {N:Nat} {Es:List Ed} (h:jh (N:Int) Es) (hE:Es.length<4294967295) (S:List Int) (hS:S.length<=64) (o:List (List Int)) (M:Int) (ho:(o.length:Int)<=M) (ho2:o.length<=4000000) (v:Nat) (hv:v<N) (f:th Es S v=true) (g:mxR N Es (S++[(v:Int)])=true):aW aq 0 yE (RK N Es S o M v [])=some (.normal,RK N Es S (o++[S++[(v:Int)]]) M (v+1:Nat) []):=by
 have hn:=od h;have h1:(v:Int)<N:=by omega
 have hw:=dM (i:=v) (by omega);have q:=Fe h hE S (by omega) v;rw[f] at q;have q2:=SO h hE (S++[(v:Int)]) (by simp; omega);rw[g] at q2;have t1:=Iv S;have t2:=FH o;have t3:=Iv (S++[(v:Int)]);have l1:=eL o;have sn:=abE o (S++[(v:Int)]);have l3:=af (S++[(v:Int)]);have l4:(S++[(v:Int)]).length=S.length+1:=by simp
 have l5:S.length+1<=4294967296:=by omega
 have l6:o.length+1<=4294967296:=by omega
 have l7:S.length<=4294967296:=by omega
 have e1:=er S v;unfold RK jv yE;rw[<-sn];clear sn;rw[l4] at l3 t3;generalize S++[(v:Int)]=T at *;generalize iC o=Z at *;generalize ints T=IT at *;subst e1;have t4:∀x:AV,List.take (o.length+1) (Z++[x])=Z++[x]:=fun x=>aZ (by simp; omega);simp[HB,HA,Hz,Hy,Hw,Hv,Hu,h1,hw,q,q2,l1,ho,t1,t2,t3,t4,l3,l5,l6,l7,jx,sQb9,iQb9,sQc0,iQc0,aO,af]
theorem alK {N:Nat} {Es:List Ed} (h:jh (N:Int) Es) (hE:Es.length<4294967295) (S:List Int) (hS:S.length<=64) (o R:List (List Int)) (M:Int) (ho:(o.length:Int)<=M) (ho2:o.length<=4000000) (v:Nat) (hv:v<N) (f:th Es S v=true) (g:mxR N Es (S++[(v:Int)])=false) (hc:bp aq ij [.agg [.int .i64 N,.list 2 (bU Es)],.list 1 (ints (S++[(v:Int)])),.int .i64 (v+1:Nat),.own 1 (iC o),.int .i64 M] []=some (.own 1 (iC R),[])):aW aq 0 yE (RK N Es S o M v [])=some (.normal,RK N Es S R M (v+1:Nat) []):=by
 have hn:=od h;have h1:(v:Int)<N:=by omega
 have hw:=dM (i:=v) (by omega);have q:=Fe h hE S (by omega) v;rw[f] at q;have q2:=SO h hE (S++[(v:Int)]) (by simp; omega);rw[g] at q2;have t1:=Iv S;have t2:=FH o;have t3:=Iv (S++[(v:Int)]);have l1:=eL o;have t6:=FH R;have l6:=eL R;rw[<-l6] at t6;have l3:=af (S++[(v:Int)]);have l4:(S++[(v:Int)]).length=S.length+1:=by simp
 have l5:S.length+1<=4294967296:=by omega
 have l7:S.length<=4294967296:=by omega
 have e1:=er S v;rw[show ((v+1:Nat):Int)=(v:Int)+1 by omega] at hc hw ⊢;unfold RK jv yE;rw[l4] at l3 t3;generalize S++[(v:Int)]=T at *;generalize iC o=Z at *;generalize iC R=Y at *;generalize ints T=IT at *;subst e1;simp[HB,HA,Hz,Hy,Hw,Hv,Hu,h1,hw,q,q2,l1,ho,t1,t3,t6,hc,l3,l5,l7,jx,sQb9,iQb9,sQc0,iQc0,sQ9,iQ9,aO,af]
/- What ref24.List returns of any graph that is in order, with any bound: the first ones of the walk. -/
theorem abj {α:Type} (X B:List α) (n:Nat):(X.take n++B).take n=(X++B).take n:=by
 by_cases h:X.length<=n
 ·rw[aZ h]
 ·have h1:(X.take n).length=n:=by rw[bF]; omega
  rw[de (by omega),de (by omega),aZ (by omega)]
def GwG (N:Nat) (Es:List Ed) (M:Nat) (k:Nat):Prop:=∀(v:Nat) (S:List Int) (o:List (List Int)),v+k=N->S.length<=v->o.length<=M+1->aW aq 0 (.loop yE) (RK N Es S o M v [])=some (.exit 0,RK N Es S ((o++py N Es k v S).take (M+1)) M N [(17,.bool false)])
theorem ahk {N:Nat} {Es:List Ed} (h:jh (N:Int) Es) (hE:Es.length<4294967295) (S:List Int) (o:List (List Int)) (M:Int) (ho:¬(o.length:Int)<=M) (v:Nat) (hv:v<N):aW aq 0 yE (RK N Es S o M v [])=some (.normal,RK N Es S o M (v+1:Nat) []):=by
 have hn:=od h;have h1:(v:Int)<N:=by omega
 have hw:=dM (i:=v) (by omega);have l1:=eL o;unfold RK jv yE;generalize iC o=Z at *;simp[HB,HA,Hz,Hy,Hw,Hv,Hu,h1,hw,l1,ho,aO]
theorem ae2 {N:Nat} {Es:List Ed} {M k:Nat} (h:GwG N Es M k) (v:Nat) (S:List Int) (o:List (List Int)) (hv:v+k=N) (hS:S.length<=v) (ho:o.length<=M+1):bp aq ij [.agg [.int .i64 N,.list 2 (bU Es)],.list 1 (ints S),.int .i64 v,.own 1 (iC o),.int .i64 M] []=some (.own 1 (iC ((o++py N Es k v S).take (M+1))),[]):=by
 rw[pM sQ9 (ah rfl)];have e:=h v S o hv hS ho;have t1:=FH ((o++py N Es k v S).take (M+1));have l1:=eL ((o++py N Es k v S).take (M+1));unfold RK jv at e;generalize (o++py N Es k v S).take (M+1)=R at *;generalize iC R=Q at *;generalize R.length=LR at *;generalize iC o=Z at *;unfold qQ9 cQ9;subst l1;simp[HE,HD,Hs,e,t1,Ax,Q9,Sy,Sx,bk,bf]
theorem U4 {N:Nat} {Es:List Ed} (h:jh (N:Int) Es) (hE:Es.length<4294967295) (M:Nat) (hM:M<=1100000):∀k:Nat,GwG N Es M k
 |0=>by
   intro v S o hv hS ho;obtain rfl:v=N:=by omega
   rw[show py v Es 0 v S=[] from rfl,List.append_nil,aZ ho];refine bq ?_;have l1:=eL o;unfold RK jv yE;generalize iC o=Z at *;simp[HB,HA,Hz,Hy,Hw,Hv,Hu,aO]
 |k+1=>by
   intro v S o hv hS ho;have hn:=od h;have ih:=U4 h hE M hM k;have hle:o.length<=4000000:=by omega
   by_cases hf:o.length<=M
   case neg=>
    have h1:=ih (v+1) S o (by omega) (by omega) ho;have e:∀B:List (List Int),(o++B).take (M+1)=o:=fun B=>by rw[de (by omega),aZ (by omega)]
    rw[e] at h1 ⊢;exact (aS (ahk h hE S o M (by omega) v (by omega))).trans h1
   cases f:th Es S v with
   |false=>
     have e:py N Es (k+1) v S=py N Es k (v+1) S:=by
      conv=>lhs; unfold py
      rw[f,if_neg (by decide),rP]
     rw[e];exact (aS (ahj h hE S (by omega) o M (by omega) v (by omega) f)).trans (ih (v+1) S o (by omega) (by omega) ho)
   |true=>
     cases g:mxR N Es (S++[(v:Int)]) with
     |true=>
       have e:py N Es (k+1) v S=[S++[(v:Int)]]++py N Es k (v+1) S:=by
        conv=>lhs; unfold py
        rw[f,if_pos rfl,g,if_pos rfl]
       rw[e,<-du];exact (aS (alL h hE S (by omega) o M (by omega) hle v (by omega) f g)).trans (ih (v+1) S (o++[S++[(v:Int)]]) (by omega) (by omega) (by simp; omega))
     |false=>
       have e:py N Es (k+1) v S=py N Es k (v+1) (S++[(v:Int)])++py N Es k (v+1) S:=by
        conv=>lhs; unfold py
        rw[f,if_pos rfl,g,if_neg (by decide)]
       rw[e,<-du,<-abj];have c:=ae2 ih (v+1) (S++[(v:Int)]) o (by omega) (by simp; omega) ho;exact (aS (alK h hE S (by omega) o _ M (by omega) hle v (by omega) f g c)).trans (ih (v+1) S _ (by omega) (by omega) (by rw[bF]; omega))
theorem HJ {N:Nat} {Es:List Ed} (h:jh (N:Int) Es) (hE:Es.length<4294967295) (M:Nat) (hM:M<=1100000):bp aq nQD [.agg [.int .i64 N,.list 2 (bU Es)],.int .i64 M] []=some (.list 1 (iC ((py N Es N 0 []).take (M+1))),[]):=by
 have c:=ae2 (U4 h hE M hM N) 0 [] [] (by omega) (by simp) (by simp);rw[rP,fi,c8,show iC []=[] from rfl] at c;rw[pM sQD (ah rfl)];have t6:=FH ((py N Es N 0 []).take (M+1));have l6:=eL ((py N Es N 0 []).take (M+1));rw[<-l6] at t6;clear l6;generalize iC ((py N Es N 0 []).take (M+1))=Y at *;unfold qQD cQD;simp[aiL,aiK,aiJ,aiI,c,t6,sQ9,iQ9,aO,bk,bf]
end Go.BmP
