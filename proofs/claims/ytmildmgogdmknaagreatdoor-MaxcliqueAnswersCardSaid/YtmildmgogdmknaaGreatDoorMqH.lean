/- ref26.Best and Above of a graph that is in order. -/
import Derived.Test.YtmildmgogdmknaaGreatDoorMqO
set_option linter.unusedSimpArgs false
set_option linter.unusedVariables false
set_option maxRecDepth 100000
set_option maxHeartbeats 8000000
open List renaming append_nil → dW, drop_eq_getElem_cons → aT, drop_length → bK, drop_zero → bY, foldl_cons → fN, foldl_nil → rL, getD_eq_getElem?_getD → aJ, getElem?_eq_getElem → an, getElem_mem → cI, length_map → jQ, length_replicate → cz, map_set → Nh, replicate → aH, take_of_length_le → aZ
open Nat renaming le_of_ble_eq_true → ah
open Option.some renaming inj → dv
namespace Go.BmP
open Go.Am Go.Bm
theorem Rb (o:List (List Int)) (i:Nat) (h:i<o.length):(iC o)[i]?=some (.list 1 (ints o[i]))/\∀ h2,(iC o)[i]'h2=.list 1 (ints o[i]):=by
 have e:(iC o)[i]?=some (.list 1 (ints o[i])):=by rw[aeC,an h]; rfl
 refine⟨e,fun h2=>?_⟩;rw[an h2] at e;exact dv e
def CurQ (c:AV) (o:List Int):Prop:=(c=.own 1 []/\o=[])\/c=.list 1 (ints o)
def rbS (c:AV) (l:List (List Int)) (i:Int) (J:Env):St:=⟨(5,c)::(6,.list 1 (iC l))::(7,.int .i64 i)::J,[]⟩
theorem Qa (l:List (List Int)) (hl:l.length<=2000000):∀(m i:Nat) (c:AV) (o:List Int),i+m=l.length->CurQ c o->∃c',CurQ c' ((l.drop i).foldl VM o)/\aW aq 0 (.loop Ul) (rbS c l i [])=some (.exit 0,rbS c' l l.length [(18,.bool false)])
 |0,i,c,o,hi,hc=>by
   obtain rfl:i=l.length:=by omega
   rw[bK,rL];refine⟨c,hc,bq ?_⟩;have lg:=eL l;unfold rbS Ul;generalize iC l=Y at *;rcases hc with⟨rfl,rfl⟩|rfl<;>simp[Eo,En,Em,wj,lg]
 |m+1,i,c,o,hi,hc=>by
   have bD:i<l.length:=by omega
   rw[aT bD,fN];have k1:(i:Int)<l.length:=by omega
   have hw:=dM (i:=i) (by omega);have hx:=gC (k:=.i64) (i:=(i:Int)) (n:=l.length) (by omega) k1;obtain⟨g3,g4⟩:=Rb l i bD;have lg:=eL l;have lx:=af l[i];have lo:=af o;by_cases q:o.length<l[i].length
   ·obtain⟨c',h1,h2⟩:=Qa l hl m (i+1) (.list 1 (ints l[i])) l[i] (by omega) (.inr rfl);have e:VM o l[i]=l[i]:=by unfold VM; rw[if_pos q]
    rw[e];refine⟨c',h1,(aS ?_).trans h2⟩;have q1:(o.length:Int)<l[i].length:=by omega
    clear h1 h2 e;unfold rbS Ul;generalize l[i]=X at *;generalize iC l=Y at *;rcases hc with⟨rfl,rfl⟩|rfl
    ·have q2:(0:Int)<X.length:=by simpa using q1
     have q3:0<X.length:=by simpa using q
     generalize ints X=X1 at *;simp[Eo,En,Em,wj,k1,bD,hw,g4,lg,lx,q3,idx]
    ·generalize ints X=X1 at *;generalize ints o=O1 at *;simp[Eo,En,Em,wj,k1,bD,hw,g4,lg,lx,lo,q1,idx]
   ·obtain⟨c',h1,h2⟩:=Qa l hl m (i+1) c o (by omega) hc;have e:VM o l[i]=o:=by unfold VM; rw[if_neg q]
    rw[e];refine⟨c',h1,(aS ?_).trans h2⟩;have q1:¬(o.length:Int)<l[i].length:=by omega
    clear h1 h2 e;unfold rbS Ul;generalize l[i]=X at *;generalize iC l=Y at *;rcases hc with⟨rfl,rfl⟩|rfl
    ·have q3:X.length=0:=by simp only[List.length_nil] at q; omega
     generalize ints X=X1 at *;simp[Eo,En,Em,wj,k1,bD,hw,g4,lg,lx,q3,idx]
    ·generalize ints X=X1 at *;generalize ints o=O1 at *;simp[Eo,En,Em,wj,k1,bD,hw,g4,lg,lx,lo,q1,idx]
theorem abn {N:Nat} {Es:List Ed} (hG:jh (N:Int) Es) (hE:Es.length<1000000) (hm:(py N Es N 0 []).length<=1000000):bp aq nQi [.agg [.int .i64 N,.list 2 (bU Es)]] []=some (.dJ [.list 1 (ints ((py N Es N 0 []).foldl VM [])),.int .i64 0],[]):=by
 have g:=iM N Es (by omega);rw[eB.2 hG] at g;have li:=HJ hG (by omega) 1048576 (by omega);rw[aZ (by omega)] at li;obtain⟨c',h1,h2⟩:=Qa (py N Es N 0 []) (by omega) (py N Es N 0 []).length 0 (.own 1 []) [] (by omega) (.inl ⟨rfl,rfl⟩);rw[bY] at h1;have lg:=eL (py N Es N 0 []);simp only[fi] at h2;rw[show ((1048576:Nat):Int)=1048576 from rfl] at li;unfold rbS at h2;rw[pM sQi (ah rfl)];unfold qQi cQi;generalize iC (py N Es N 0 [])=Y at *;generalize (py N Es N 0 []).foldl VM []=R at *;generalize bU Es=YE at *;have pR:=cY R;rcases h1 with⟨rfl,rfl⟩|rfl
 ·rw[c8];simp[EA,Ez,Ey,Ew,Eu,Er,Ep,wi,g,li,h2,aO,bk,bf,dP,pl,FD,Gs,sQD,iQD]
 ·generalize ints R=R1 at *;simp[EA,Ez,Ey,Ew,Eu,Er,Ep,wi,g,li,h2,aO,bk,bf,dP,pl,FD,Gs,sQD,iQD]
/- ref26.Above of a graph that is in order. -/
def abQ (s:List Int) (n:Int) (X:List Int):Bool:=decide (n<=(X.length:Int))&&s.all fun x=>decide (x∈X)
def raS (s:List Int) (n:Int) (l:List (List Int)) (i:Int) (J:Env):St:=⟨(1,.list 1 (ints s))::(2,.int .i64 n)::(9,.list 1 (iC l))::(10,.int .i64 i)::J,[]⟩
theorem Yv (s:List Int) (hs:s.length<=1000) (n:Int) (l:List (List Int)) (hl:l.length<=2000000) (hX:∀X∈l,X.length<=64):∀(m i:Nat),i+m=l.length->aW aq 0 (.loop OZ) (raS s n l i [])=if (l.drop i).any (abQ s n)=true then some (.ret,⟨[(6,.bool true),(7,.int .i64 0)],[]⟩) else some (.exit 0,raS s n l l.length [(29,.bool false)])
 |0,i,hi=>by
   obtain rfl:i=l.length:=by omega
   rw[bK,List.any_nil,if_neg (by decide)];refine bq ?_;have lg:=eL l;unfold raS OZ;generalize iC l=Y at *;generalize ints s=S1 at *;simp[uq,um,uk,uj,lg]
 |m+1,i,hi=>by
   have bD:i<l.length:=by omega
   rw[aT bD,List.any_cons];have ih:=Yv s hs n l hl hX m (i+1) (by omega);have k1:(i:Int)<l.length:=by omega
   have hw:=dM (i:=i) (by omega);have hx:=gC (k:=.i64) (i:=(i:Int)) (n:=l.length) (by omega) k1;obtain⟨g3,g4⟩:=Rb l i bD;have lg:=eL l;have lx:=af l[i];have wr:=V9 s l[i] (by omega) (by have:=hX _ (cI bD); omega);unfold abQ at *;cases w:(s.all fun x=>decide (x∈l[i])) with
   |false=>
     rw[w] at wr;rw[Bool.and_false,Bool.false_or];refine (aS ?_).trans ih;clear ih w;unfold raS OZ;generalize l[i]=X at *;generalize iC l=Y at *;generalize ints X=X1 at *;generalize ints s=S1 at *;by_cases q:n<=(X.length:Int)<;>simp[uq,um,uk,uj,k1,bD,hw,g4,lg,lx,wr,q,idx,sQ0,iQ0]
   |true=>
     rw[w] at wr;by_cases q:n<=(l[i].length:Int)
     ·rw[decide_eq_true q,Bool.true_and,Bool.true_or,if_pos rfl];clear ih w;refine dp ?_;unfold raS OZ;generalize l[i]=X at *;generalize iC l=Y at *;generalize ints X=X1 at *;generalize ints s=S1 at *;simp[uq,um,uk,uj,k1,bD,g4,lg,lx,wr,q,idx,sQ0,iQ0]
     ·rw[decide_eq_false q,Bool.false_and,Bool.false_or];refine (aS ?_).trans ih;clear ih w;unfold raS OZ;generalize l[i]=X at *;generalize iC l=Y at *;generalize ints X=X1 at *;generalize ints s=S1 at *;simp[uq,um,uk,uj,k1,bD,hw,g4,lg,lx,q,idx]
theorem Ww {N:Nat} {Es:List Ed} (hG:jh (N:Int) Es) (hE:Es.length<1000000) (hm:(py N Es N 0 []).length<=1000000) (hX:∀X∈py N Es N 0 [],X.length<=64) (s:List Int) (hs:s.length<=1000) (n:Int):bp aq nQw [.agg [.int .i64 N,.list 2 (bU Es)],.list 1 (ints s),.int .i64 n] []=some (.dJ [.bool (isR N Es s&&(decide (n<=(s.length:Int))||(py N Es N 0 []).any (abQ s n))),.int .i64 (if isR N Es s=true then 0 else 4)],[]):=by
 have g:=iM N Es (by omega);rw[eB.2 hG] at g;have li:=HJ hG (by omega) 1048576 (by omega);rw[aZ (by omega)] at li;have ri:=Yl hG (by omega) s (by omega);have lp:=Yv s hs n (py N Es N 0 []) (by omega) hX (py N Es N 0 []).length 0 (by omega);rw[bY] at lp;have lg:=eL (py N Es N 0 []);have ls:=af s;simp only[fi] at lp;rw[show ((1048576:Nat):Int)=1048576 from rfl] at li;unfold raS at lp;rw[pM sQw (ah rfl)];unfold qQw cQw;generalize iC (py N Es N 0 [])=Y at *;generalize (py N Es N 0 []).any (abQ s n)=w at *;generalize isR N Es s=r at *;generalize ints s=S1 at *;generalize bU Es=YE at *;cases r with
 |false=>simp[BK,BJ,BI,BH,BG,BF,BE,BD,BC,BB,ui,g,ri,aO,bk,bf,FD,Gs,sQZ,iQZ]
 |true=>
   by_cases q:n<=(s.length:Int)
   ·rw[decide_eq_true q];simp[BK,BJ,BI,BH,BG,BF,BE,BD,BC,BB,ui,g,ri,ls,q,aO,bk,bf,FD,Gs,sQZ,iQZ]
   ·rw[decide_eq_false q];cases w with
    |false=>
      rw[if_neg (by decide)] at lp;simp[BK,BJ,BI,BH,BG,BF,BE,BD,BC,BB,ui,g,ri,li,lp,ls,q,aO,bk,bf,dP,pl,FD,Gs,sQZ,iQZ,sQD,iQD]
    |true=>
      rw[if_pos rfl] at lp;simp[BK,BJ,BI,BH,BG,BF,BE,BD,BC,BB,ui,g,ri,li,lp,ls,q,aO,bk,bf,dP,pl,FD,Gs,sQZ,iQZ,sQD,iQD]
/- ref26.Colour: the loop for the least colour that is not used. -/
def rqS (N:Nat) (Es:List Ed) (O C U:List Int) (i c:Int) (J:Env):St:=⟨(1,.list 1 (ints O))::(2,.ptr 0 0)::(7,.own 1 (ints C))::(9,.int .i64 i)::(10,.own 1 (ints U))::(13,.int .i64 c)::J,jv N Es⟩
theorem Yj (N:Nat) (Es:List Ed) (O C U:List Int) (hU:U.length<=1000) (i:Int) (mx:Nat) (hm:mx<=1000) (h1:∀c:Nat,c<mx->(c:Int)∈U) (h2:(mx:Int)∉U):∀(m c:Nat),c+m=mx->aW aq 0 (.loop aaj) (rqS N Es O C U i c [])=some (.exit 6,rqS N Es O C U i mx [(75,.bool false)])
 |0,c,hc=>by
   obtain rfl:c=mx:=by omega
   have hr:=E6 (c:Int) U (by omega);rw[decide_eq_false h2] at hr;have lU:=af U;have tk:(ints U).take U.length=ints U:=aZ (by omega);refine bq ?_;unfold rqS jv aaj;generalize ints U=U1 at *;generalize ints C=C1 at *;generalize ints O=O1 at *;generalize bU Es=Y at *;simp[oD,oC,hr,lU,tk,sQS,iQS]
 |m+1,c,hc=>by
   have hr:=E6 (c:Int) U (by omega);rw[decide_eq_true (h1 c (by omega))] at hr;have ih:=Yj N Es O C U hU i mx hm h1 h2 m (c+1) (by omega);refine (aS ?_).trans ih;have hw:=dM (i:=c) (by omega);have lU:=af U;have tk:(ints U).take U.length=ints U:=aZ (by omega);clear ih;unfold rqS jv aaj;generalize ints U=U1 at *;generalize ints C=C1 at *;generalize ints O=O1 at *;generalize bU Es=Y at *;simp[oD,oC,hr,hw,lU,tk,sQS,iQS]
def ruQ (N:Nat) (Es:List Ed) (O C U W:List Int) (i k:Int) (J:Env):St:=⟨(1,.list 1 (ints O))::(2,.ptr 0 0)::(7,.own 1 (ints C))::(9,.int .i64 i)::(10,.own 1 (ints U))::(11,.list 1 (ints W))::(12,.int .i64 k)::J,jv N Es⟩
theorem Yi (N:Nat) (Es:List Ed) (O C W:List Int) (i:Int) (hW:W.length<=100) (hC:C.length<=100) (hb:∀w∈W,0<=w/\w<(C.length:Int)):∀(m k:Nat) (U:List Int),k+m=W.length->U.length=k->aW aq 0 (.loop aak) (ruQ N Es O C U W i k [])=some (.exit 4,ruQ N Es O C (U++usd C (W.drop k)) W i W.length [(60,.bool false)])
 |0,k,U,hk,hU=>by
   obtain rfl:k=W.length:=by omega
   rw[bK,show usd C []=[] from rfl,dW];have lW:=af W;refine bq ?_;unfold ruQ jv aak;generalize ints W=W1 at *;generalize ints U=U1 at *;generalize ints C=C1 at *;generalize ints O=O1 at *;generalize bU Es=Y at *;simp[oH,oG,oF,lW]
 |m+1,k,U,hk,hU=>by
   have bD:k<W.length:=by omega
   obtain⟨w0,w1⟩:=hb W[k] (cI bD);have wt:W[k].toNat<C.length:=by omega
   have ih:=Yi N Es O C W i hW hC hb m (k+1) (U++[C.getD W[k].toNat (-1)]) (by omega) (by simp[hU]);have e:usd C (W.drop k)=C.getD W[k].toNat (-1)::usd C (W.drop (k+1)):=by rw[aT bD]; rfl
   rw[e];rw[List.append_assoc,List.singleton_append] at ih;refine (aS ?_).trans ih;clear ih e;have k1:(k:Int)<W.length:=by omega
   have hw:=dM (i:=k) (by omega);have hx:=gC (k:=.i64) (i:=(k:Int)) (n:=W.length) (by omega) k1;have hx2:=gC (k:=.i64) (i:=W[k]) (n:=C.length) w0 w1
   have g4:∀h,(ints W)[k]'h=.int .i64 W[k]:=fun h=>aM _ _ _;generalize W[k]=w at *;have cg:C.getD w.toNat (-1)=C[w.toNat]:=by rw[aJ,an wt]; rfl
   rw[cg]
   have g6:∀h,(ints C)[w.toNat]'h=.int .i64 C[w.toNat]:=fun h=>aM _ _ _;have lW:=af W;have lC:=af C;have lU:=af U;have sn:ints (U++[C[w.toNat]])=ints U++[.int .i64 C[w.toNat]]:=by simp[ints]
   have lk:U.length+1<=jx:=by unfold jx; omega
   unfold ruQ jv aak;rw[sn];generalize C[w.toNat]=x at *;have tk:(ints U++[AV.int .i64 x]).take (U.length+1)=ints U++[.int .i64 x]:=aZ (by simp[af]);have tk2:(ints U).take U.length=ints U:=aZ (by omega);generalize ints W=W1 at *;generalize ints U=U1 at *;generalize ints C=C1 at *;generalize ints O=O1 at *;generalize bU Es=Y at *;clear hb sn;simp[oH,oG,oF,k1,bD,hw,g4,g6,lW,lC,lU,lk,tk,tk2,w0,w1,wt,idx,pl]
/- ref26.Colour: the first loop fills with -1. -/
def rfQ (N:Nat) (Es:List Ed) (O C:List Int) (i:Int) (J:Env):St:=⟨(1,.list 1 (ints O))::(2,.ptr 0 0)::(7,.own 1 (ints C))::(8,.int .i64 i)::J,jv N Es⟩
theorem Ym (N:Nat) (hN:N<=64) (Es:List Ed) (O:List Int):∀(m i:Nat) (C:List Int),i+m=N->C.length=N->(∀j,j<i->C.getD j 0=-1)->aW aq 0 (.loop aal) (rfQ N Es O C i [])=some (.exit 0,rfQ N Es O (aH N (-1)) N [(39,.bool false)])
 |0,i,C,hi,hC,hj=>by
   obtain rfl:i=N:=by omega
   have e:C=aH i (-1):=by
    refine List.eq_replicate_iff.2 ⟨hC,fun x hx=>?_⟩;obtain⟨j,hjl,rfl⟩:=List.getElem_of_mem hx;have:=hj j (by omega)
    rwa [aJ,an hjl] at this
   rw[e];have lC:(ints (aH i (-1))).length=i:=by rw[af,cz]
   refine bq ?_;unfold rfQ jv aal;generalize ints (aH i (-1))=C1 at *;generalize ints O=O1 at *;generalize bU Es=Y at *;simp[vd,vc,oN,lC]
 |m+1,i,C,hi,hC,hj=>by
   have ih:=Ym N hN Es O m (i+1) (C.set i (-1)) (by omega) (by simp[hC]) (fun j h=>by
    rw[E8 _ _ _ _ (by omega)];split
    ·rfl
    ·exact hj j (by omega))
   refine (aS ?_).trans ih;clear ih hj;have k1:(i:Int)<N:=by omega
   have kn:i<N:=by omega
   have hw:=dM (i:=i) (by omega);have hx:=gC (k:=.i64) (i:=(i:Int)) (n:=N) (by omega) k1;have lC:=af C;have e:ints (C.set i (-1))=(ints C).set i (.int .i64 (-1)):=by unfold ints; rw[Nh]
   unfold rfQ jv aal;rw[e];generalize ints C=C1 at *;generalize ints O=O1 at *;generalize bU Es=Y at *;simp[vd,vc,oN,k1,kn,hw,lC,hC,idx]
/- ref26.Colours: the loop that turns the order round. -/
def rvQ (N:Nat) (Es:List Ed) (O B:List Int) (i:Int) (J:Env):St:=⟨(1,.ptr 0 0)::(4,.list 1 (ints O))::(6,.own 1 (ints B))::(7,.int .i64 i)::J,jv N Es⟩
theorem Yg (N:Nat) (Es:List Ed) (O:List Int) (hO:O.length<=64):∀(k:Nat) (B:List Int),k<=O.length->B.length+k<=64->aW aq 0 (.loop aam) (rvQ N Es O B ((k:Int)-1) [])=some (.exit 0,rvQ N Es O (B++(O.take k).reverse) (-1) [(20,.bool false)])
 |0,B,_,_=>by
   rw[List.take_zero,List.reverse_nil,dW,fi,show (0:Int)-1=-1 from rfl];refine bq ?_;unfold rvQ jv aam;generalize ints B=B1 at *;generalize ints O=O1 at *;generalize bU Es=Y at *;simp[S7,S6,S5]
 |k+1,B,hk,hB=>by
   have bD:k<O.length:=by omega
   have ih:=Yg N Es O hO k (B++[O[k]]) (by omega) (by simp; omega);have e:B++(O.take (k+1)).reverse=B++[O[k]]++(O.take k).reverse:=by rw[List.take_succ_eq_append_getElem bD]; simp
   rw[e,show ((k+1:Nat):Int)-1=(k:Int) by omega];refine (aS ?_).trans ih;clear ih e;have k0:(0:Int)<=k:=by omega
   have k1:(k:Int)<O.length:=by omega
   have hw:IntKind.i64.wrap ((k:Int)-1)=(k:Int)-1:=fE (by omega) (by omega);have hx:=gC (k:=.i64) (i:=(k:Int)) (n:=O.length) k0 k1
   have g4:∀h,(ints O)[k]'h=.int .i64 O[k]:=fun h=>aM _ _ _;have lO:=af O;have lB:=af B;have lk:B.length+1<=jx:=by unfold jx; omega
   generalize O[k]=x at *;have sn:ints (B++[x])=ints B++[.int .i64 x]:=by simp[ints]
   have tk:(ints B++[AV.int .i64 x]).take (B.length+1)=ints B++[.int .i64 x]:=aZ (by simp[af]);have tk2:(ints B).take B.length=ints B:=aZ (by omega);unfold rvQ jv aam;rw[sn];clear sn;generalize ints B=B1 at *;generalize ints O=O1 at *;generalize bU Es=Y at *;simp[S7,S6,S5,k0,k1,bD,hw,g4,lO,lB,lk,tk,tk2,idx,pl]
/- ref26.Colour: one node, all nodes, the whole. -/
def rkS (N:Nat) (Es:List Ed) (O C:List Int) (i:Int) (J:Env):St:=⟨(1,.list 1 (ints O))::(2,.ptr 0 0)::(7,.own 1 (ints C))::(9,.int .i64 i)::J,jv N Es⟩
theorem agh {N:Nat} {Es:List Ed} (hG:jh (N:Int) Es) (hE:Es.length<1000000) (O C:List Int) (hO:∀v∈O,0<=v/\v<(N:Int)) (hC:Cso (dj N Es) N C) (hl:O.length<=100) (i:Nat) (hi:i<O.length):aW aq 0 Uh (rkS N Es O C i [])=some (.normal,rkS N Es O (Wi (dj N Es) C O[i]) ((i+1:Nat):Int) []):=by
 have hN:=hG.1.2;have nb:=pn hG;obtain⟨v0,v1⟩:=hO O[i] (cI hi);obtain⟨v,hv⟩:∃v:Nat,O[i]=(v:Int):=⟨O[i].toNat,by omega⟩;have vN:v<N:=by omega
 have W64:=nb.len v vN;have nr:=ta hG hE (v:=(v:Int)) (by omega) (by omega);change bp aq nQR _ []=some (.list 1 (ints (dj N Es v)),[]) at nr;have nl:(zU C (dj N Es v)).length<65:=by have:=Q3 C (dj N Es v); omega
 have l1:=Yi N Es O C (dj N Es v) i (by omega) (by rw[hC.len]; omega) (fun w hw=>by rw[hC.len]; exact nb.rng v vN w hw) (dj N Es v).length 0 [] (by omega) rfl;rw[bY,List.nil_append,fi] at l1;have ul:(usd C (dj N Es v)).length<=100:=by unfold usd; rw[jQ]; omega
 have l2:=Yj N Es O C (usd C (dj N Es v)) (by omega) i (OQ (zU C (dj N Es v))) (by have:=KT _ nl; omega) (fun c hc=>afZ nl hc) (afY nl) (OQ (zU C (dj N Es v))) 0 (by omega);rw[fi] at l2
 have e:Wi (dj N Es) C O[i]=C.set v (OQ (zU C (dj N Es v)):Nat):=by
  unfold Wi;rw[hv];rfl
 have e2:∀z:Int,ints (C.set v z)=(ints C).set v (.int .i64 z):=fun z=>by unfold ints; rw[Nh]
 rw[e];generalize OQ (zU C (dj N Es v))=m at *;have i1:(i:Int)<O.length:=by omega
 have wr:=dM (i:=i) (by omega);have go:∀h,(ints O)[i]'h=.int .i64 (v:Int):=fun h=>by rw[aM,hv]
 have x1:(v:Int)<C.length:=by rw[hC.len]; omega
 have x2:v<C.length:=by rw[hC.len]; omega
 have ix1:=gC (k:=.i64) (i:=(i:Int)) (n:=O.length) (by omega) i1;have ix2:=gC (k:=.i64) (i:=(v:Int)) (n:=C.length) (by omega) x1;have lC:=af C;have lO:=af O;unfold ruQ jv at l1;unfold rqS jv at l2;unfold rkS jv Uh;rw[e2,c8] at *;clear e e2 hv hO ul nl nb;generalize usd C (dj N Es v)=U at *;generalize dj N Es v=W at *;generalize ints U=U1 at *;generalize ints W=W1 at *;generalize bU Es=Y at *;generalize ints C=C1 at *;generalize ints O=O1 at *;simp[oL,oK,oJ,oI,oE,oB,oA,i1,hi,wr,go,x1,x2,l1,l2,nr,lC,lO,idx,aO,dP,pl,sQR,iQR]
theorem Yk {N:Nat} {Es:List Ed} (hG:jh (N:Int) Es) (hE:Es.length<1000000) (O:List Int) (hO:∀v∈O,0<=v/\v<(N:Int)) (hl:O.length<=100):∀(k i:Nat) (C:List Int),i+k=O.length->Cso (dj N Es) N C->aW aq 0 (.loop Uh) (rkS N Es O C i [])=some (.exit 2,rkS N Es O ((O.drop i).foldl (Wi (dj N Es)) C) O.length [(48,.bool false)])
 |0,i,C,h,_=>by
   obtain rfl:i=O.length:=by omega
   rw[bK,rL];refine bq ?_;have lO:=af O;unfold rkS jv Uh;generalize ints C=C1 at *;generalize ints O=O1 at *;generalize bU Es=Y at *;simp[oL,oK,oJ,oI,oE,oB,oA,lO]
 |k+1,i,C,h,hC=>by
   have hi:i<O.length:=by omega
   rw[aT hi,fN];exact (aS (agh hG hE O C hO hC hl i hi)).trans (Yk hG hE O hO hl k (i+1) _ (by omega) (Wh (pn hG) hC (hO _ (cI hi))))
theorem SU {N:Nat} {Es:List Ed} (hG:jh (N:Int) Es) (hE:Es.length<1000000) (O:List Int) (hl:O.length=N) (hs:cV O=dN N) (hO:∀v∈O,0<=v/\v<(N:Int)):bp aq Z0 [.agg [.int .i64 N,.list 2 (bU Es)],.list 1 (ints O)] []=some (.dJ [.list 1 (ints (rN (dj N Es) N O)),.int .i64 0],[]):=by
 have hN:N<=64:=by have:=hG.1.2; omega
 have g:=iM N Es (by omega);rw[eB.2 hG] at g;have of:=FX O (by omega);rw[hs] at of;have rg:=AW (N:Int);have rl:(dN (N:Int)).length<=64:=by rw[<-hs]; have:=iI O; omega
 have cp:=RR (dN (N:Int)) (dN (N:Int)) (by omega) (by omega);rw[sA.2 rfl] at cp;have l0:=Ym N hN Es O N 0 (aH N 0) (by omega) cz (fun j h=>by omega);have lp:=Yk hG hE O hO (by omega) O.length 0 (aH N (-1)) (by omega) (qb _ _);rw[bY,fi,hl] at lp;rw[fi] at l0;change aW aq 0 _ _=some (Ex.exit 2,rkS N Es O (rN (dj N Es) N O) N [(48,.bool false)]) at lp;have lg:(rN (dj N Es) N O).length=N:=(xj (pn hG) O _ hO (qb _ _)).1.len;have tk:(ints (rN (dj N Es) N O)).take N=ints (rN (dj N Es) N O):=aZ (by rw[af]; omega);have lO:(ints O).length=N:=by rw[af,hl]
 have lG:(ints (rN (dj N Es) N O)).length=N:=by rw[af,lg]
 have pr:=cY (dN (N:Int));have pg:=cY (rN (dj N Es) N O);have fg:=gT (rN (dj N Es) N O);have e1:aH N (AV.int .i64 0)=ints (aH N 0):=by simp[ints]
 have nL:(N:Int)<=(jx:Int):=by unfold jx; omega
 unfold rfQ jv at l0;unfold rkS jv at lp;rw[pM sQr (ah rfl)];unfold qQr cQr;generalize ints (rN (dj N Es) N O)=R1 at *;generalize ints (dN (N:Int))=R2 at *;generalize ints (aH N (-1))=R3 at *;generalize ints (aH N 0)=R4 at *;generalize ints O=O1 at *;generalize bU Es=Y at *;simp[vp,vo,vm,vk,vj,vh,vf,ve,oM,ox,g,of,rg,cp,l0,lp,tk,lO,lG,e1,nL,aO,bk,bf,dP,pl,FD,Gs,sQH,iQH,sQQ,iQQ,sQn,iQn]
theorem acL {N:Nat} {Es:List Ed} (hG:jh (N:Int) Es) (hE:Es.length<1000000) (O:List Int) (hl:O.length<=1000) (hb:¬(O.length=N/\cV O=dN N)):bp aq Z0 [.agg [.int .i64 N,.list 2 (bU Es)],.list 1 (ints O)] []=some (.dJ [.list 1 [],.int .i64 4],[]):=by
 have hN:N<=64:=by have:=hG.1.2; omega
 have g:=iM N Es (by omega);rw[eB.2 hG] at g;have lO:=af O;rw[pM sQr (ah rfl)];by_cases q:O.length=N
 ·have of:=FX O (by omega);have rg:=AW (N:Int);have sl:=iI O;have rl:(dN (N:Int)).length=N:=by unfold dN; rw[jQ,List.length_range]; omega
  have cp:=RR (cV O) (dN (N:Int)) (by omega) (by omega);have c0:¬ka (cV O) (dN (N:Int))=0:=fun h=>hb ⟨q,sA.1 h⟩;have p1:=cY (cV O);have p2:=cY (dN (N:Int));generalize ka (cV O) (dN (N:Int))=c at *;generalize ints (cV O)=S1 at *;generalize ints (dN (N:Int))=R2 at *;generalize ints O=O1 at *;generalize bU Es=Y at *;unfold qQr cQr;simp[vp,vo,vm,vk,vj,vh,vf,ve,oM,ox,g,of,rg,cp,c0,lO,q,aO,bk,bf,dP,pl,FD,Gs,sQH,iQH,sQQ,iQQ,sQn,iQn]
 ·have q1:¬(O.length:Int)=N:=by omega
  generalize ints O=O1 at *;generalize bU Es=Y at *;unfold qQr cQr;simp[vp,vo,vm,vk,vj,vh,vf,ve,oM,ox,g,lO,q1,aO,bk,bf,FD,Gs]
end Go.BmP
