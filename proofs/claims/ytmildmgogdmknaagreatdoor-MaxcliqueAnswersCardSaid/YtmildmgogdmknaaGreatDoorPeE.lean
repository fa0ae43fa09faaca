/- core.peel: the nodes one after the other; the buckets at the start. -/
import Derived.Test.YtmildmgogdmknaaGreatDoorPeB
set_option linter.unusedSimpArgs false
set_option linter.unusedVariables false
set_option maxRecDepth 100000
set_option maxHeartbeats 8000000
open List renaming length_filter_le → V5, length_range → GN, length_replicate → cz, length_set → bI, mem_map → gO, mem_range → eP, nodup_range → Mv, range → cQ, replicate → aH, take_of_length_le → aZ
open Nat renaming eq_of_testBit_eq → uQ, le_of_ble_eq_true → ah, pow_le_pow_right → iU, pow_lt_pow_right → nD, testBit_and → cm, two_pow_pos → Sp
namespace Go.BmP
open Go.Am Go.Bm
theorem agD (m:Nat) (h:m<18446744073709551616):bp aq nQ6 [.int .u64 m] []=some (.int .i64 (lI m:Nat),[]):=by
 rw[TJ];have:=Zr m h;rw[show pcE (m:Int)=pxE (m:Int) from rfl,this]
theorem akG (m:Nat) (h:m<18446744073709551616):bp aq MH [.int .u64 m] []=some (.int .i64 (lI m:Nat),[]):=by
 have o:=agD m h;rw[pM sQc5 (ah rfl)];generalize ((lI m:Nat):Int)=p at *;generalize (m:Int)=x at *;unfold qQc5 cQc5;simp[ac3,ac2,o,bk,bf,sQ6,iQ6]
def jk9 (J:Env):Prop:=J=[]\/∃ W:List Nat,J=[(90,.list 1 (ints (ns W))),(91,.int .i64 W.length),(92,.int .i64 W.length),(93,.bool false)]
theorem akF (N:Int) (Y:List AV) (O L:List Int) (A D B:List Nat) (k:Int) (J:Env) (hJ:jk9 J):aW aq 2 Ad (wY N Y O L A D B 0 k J)=some (.exit 2,wY N Y O L A D B 0 k [(50,.bool false)]):=by
 obtain⟨x1,x2,x3,x4,x5,x6,_⟩:=Cd B;unfold wY Bs;rw[fi];generalize us B=U1 at *;generalize ints (ns D)=D1 at *;generalize ints O=O1 at *;generalize ints L=L1 at *;generalize us A=A1 at *;rcases hJ with rfl|⟨W,rfl⟩
 ·unfold Ad;simp[mM,mL,x1]
 ·generalize ints (ns W)=W1 at *;unfold Ad;simp[mM,mL,x1]
theorem agE (N:Int) (Y:List AV) (O L O' L':List Int) (A D B D' B':List Nat) (k k':Int) (m m':Nat) (h0:m≠0) (W:List Nat) (J:Env) (hJ:jk9 J) (h:aW aq 2 (.loop Dw) (wY N Y O L A D B m k [(51,.int .i64 0)])=some (.exit 3,wY N Y O' L' A D' B' m' k' [(90,.list 1 (ints (ns W))),(91,.int .i64 W.length),(92,.int .i64 W.length),(93,.bool false)])):aW aq 2 Ad (wY N Y O L A D B m k J)=some (.normal,wY N Y O' L' A D' B' m' k' [(90,.list 1 (ints (ns W))),(91,.int .i64 W.length),(92,.int .i64 W.length),(93,.bool false)]):=by
 have m0:¬((m:Int)=0):=by omega
 obtain⟨x1,x2,x3,x4,x5,x6,_⟩:=Cd B;unfold wY Bs at *;generalize us B'=U2 at *;generalize us B=U1 at *;generalize ints (ns D')=D2 at *;generalize ints (ns D)=D1 at *;generalize ints O'=O2 at *;generalize ints O=O1 at *;generalize ints L'=L2 at *;generalize ints L=L1 at *;generalize us A=A1 at *;generalize (m:Int)=X at *;rcases hJ with rfl|⟨V,rfl⟩
 ·generalize ints (ns W)=W1 at *;unfold Ad;simp[mM,mL,h,m0,x1]
 ·generalize ints (ns W)=W1 at *;generalize ints (ns V)=V1 at *;unfold Ad;simp[mM,mL,h,m0,x1]
theorem Kj:∀(o ds:List Nat) (k:Nat) (L:List Int),(nB o ds k L).length=L.length
 |[],_,_,_=>by unfold nB; rfl
 |v::o,[],_,_=>by unfold nB; rfl
 |v::o,d::ds,k,L=>by unfold nB; rw[Kj,bI]
theorem akD (N:Nat) (Y:List AV) (A:List Nat) (hN:N<=64) (hS:SymA A) (hI:∀a,(A.getD a 0).testBit a=false) (hA:A.length=N) (Xj:Small A):∀(m:Nat) (O L:List Int) (D B:List Nat) (k:Nat) (J:Env),jk9 J->Pst A N m D B->O.length+lI m<=64->L.length=N ->
  ∃ (o ds D' B':List Nat) (k':Nat),l9 A m o ds/\aW aq 2 (.loop Ad) (wY N Y O L A D B m k J)=some (.exit 2,wY N Y (O++ns o) (nB o ds k L) A D' B' 0 (k':Int) [(50,.bool false)]):=by
 intro m
 induction m using Nat.strongRecOn with
 |ind m ih=>
   intro O L D B k J hJ hP hO hL;by_cases h0:m=0
   ·subst h0;refine⟨[],[],D,B,k,.nil,?_⟩;have:O++ns []=O:=by simp[ns]
    rw[this];exact bq (akF N Y O L A D B k J hJ)
   ·obtain⟨d,d1,d2,d3⟩:=abr hP hN h0;obtain⟨hp,vN,_⟩:=TA hP hN d1 d2 d3;have pc:=adR (m:=m) (a:=m) hP.lt hp.1;rw[if_pos ⟨hp.2.1,hp.2.1⟩,Nat.and_self] at pc
    have e1:wo m (tz (B.getD d 0)) &&& m=wo m (tz (B.getD d 0)):=by
     apply uQ;intro j;rw[cm,fW hP.lt hp.1];cases m.testBit j<;>simp
    rw[e1] at pc;have pp:=QL hp.1 hp.2.1;obtain⟨D',B',W,s1,s2⟩:=ZB N Y O L A D B hN m hS hI hA Xj hP k d d1 d2 d3 (by omega) hL d 0 (by omega);obtain⟨o,ds,D2,B2,k2,r1,r2⟩:=ih (wo m (tz (B.getD d 0))) (X0 hP.lt hp.1 hp.2.1) (O++[((tz (B.getD d 0):Nat):Int)]) (L.set (tz (B.getD d 0)) ((max k d:Nat):Int)) D' B' (max k d) _ (.inr ⟨W,rfl⟩) s1 (by rw[List.length_append,List.length_singleton]; omega) (by rw[bI,hL]);refine⟨tz (B.getD d 0)::o,d::ds,D2,B2,k2,.cons hp r1,?_⟩;have e2:O++ns (tz (B.getD d 0)::o)=O++[((tz (B.getD d 0):Nat):Int)]++ns o:=by simp[ns]
    rw[e2];exact (aS (agE N Y O L _ _ A D B D' B' k _ m _ h0 W J hJ s2)).trans r2
/-! The start -/
theorem nP (n j:Nat):(2 ^ n-1).testBit j=decide (j<n):=Nat.testBit_two_pow_sub_one n j
theorem agF {x i:Nat} (hi:i<64) (h:x.testBit i=false):lI x<64:=by
 unfold lI
 have e:((cQ 64).filter fun j=>x.testBit j)=(((cQ 64).erase i).filter fun j=>x.testBit j):=by
  rw[List.Nodup.erase_eq_filter Mv,List.filter_filter];congr 1;funext j;by_cases q:j=i
  ·subst q; simp[h]
  ·simp[q]
 rw[e];have h1:=V5 (fun j=>x.testBit j) ((cQ 64).erase i);rw[List.length_erase_of_mem (eP.2 hi),GN] at h1;omega
theorem agG {N i:Nat} {D B:List Nat} (h:Pck N (2 ^ i-1) D B) (hN:N<=64) (hi:i<N) {c:Nat} (hc:c<64):Pck N (2 ^ (i+1)-1) (D.set i c) (B.set c (B.getD c 0 ||| 2 ^ i)):=by
 have hp:2 ^ i<18446744073709551616:=nD (by decide) (by omega:i<64);have gB:∀d,(B.set c (B.getD c 0 ||| 2 ^ i)).getD d 0=if d=c then B.getD c 0 ||| 2 ^ i else B.getD d 0:=fun d=>mS _ _ _ _ (by rw[h.xb]; exact hc)
 have gD:∀j,(D.set i c).getD j 0=if j=i then c else D.getD j 0:=fun j=>mS _ _ _ _ (by rw[h.MV]; exact hi);refine⟨by rw[bI,h.MV],by rw[bI,h.xb],fun d=>?_,fun d j hd=>?_,fun j hj=>?_,fun v=>?_⟩
 ·rw[gB];split
  ·exact Nat.or_lt_two_pow (n:=64) (h.sm c) hp
  ·exact h.sm d
 ·rw[gB,gD,nP];by_cases q:d=c
  ·subst q;rw[if_pos rfl,Nat.testBit_or,Nat.testBit_two_pow,h.bit d j hd,nP];by_cases z:j=i
   ·subst z;rw[if_pos rfl]; simp
   ·rw[if_neg z];have z':¬i=j:=fun k=>z k.symm;have:decide (j<i+1)=decide (j<i):=by apply decide_eq_decide.2; omega
    rw[this];simp[z']
  ·rw[if_neg q,h.bit d j hd,nP];by_cases z:j=i
   ·subst z;rw[if_pos rfl];have:¬c=d:=fun k=>q k.symm;simp[this]
   ·rw[if_neg z];have:decide (j<i+1)=decide (j<i):=by apply decide_eq_decide.2; omega
    rw[this]
 ·rw[nP] at hj;have:=of_decide_eq_true hj;omega
 ·rw[gD];split
  ·exact hc
  ·exact h.deg v
def Xm (N:Int) (Y:List AV) (A D B:List Nat) (n i:Int) (J:Env):St:=⟨(2,.own 1 [])::(4,.list 1 (us A))::(5,.ptr 2 0)::(6,.own 1 (ints (ns D)))::(20,.list 1 (us A))::(21,.int .i64 n)::(22,.int .i64 i)::J,[Bs N Y,Bs N Y,some (us B)]⟩
theorem afb (N:Int) (Y:List AV) (A D B:List Nat) (hA:A.length<=64) (Xj:Small A) (i:Nat) (hi:i<A.length) (lD:D.length=A.length) (lB:B.length=64) (sm:∀d,B.getD d 0<18446744073709551616) (hc:lI (A.getD i 0)<64):aW aq 2 Ld (Xm N Y A D B A.length i [])=some (.normal,Xm N Y A (D.set i (lI (A.getD i 0))) (B.set (lI (A.getD i 0)) (B.getD (lI (A.getD i 0)) 0 ||| 2 ^ i)) A.length ((i+1:Nat):Int) []):=by
 have i1:(i:Int)<A.length:=by omega
 have wr:=dM (i:=i) (by omega);have hg:=jz Xj i;have mc:=akG _ hg;have gA:∀q,(us A)[i]'q=.int .u64 (A.getD i 0:Nat):=fun q=>Wb A i hi q;have lA:=dU A;have lDD:(ints (ns D)).length=A.length:=by rw[af,iJ,lD]
 have sD:=(aeg D i (lI (A.getD i 0))).symm;have lDD2:(ints (ns (D.set i (lI (A.getD i 0))))).length=A.length:=by rw[af,iJ,bI,lD]
 have gD2:∀h,(ints (ns (D.set i (lI (A.getD i 0)))))[i]'h=.int .i64 (lI (A.getD i 0):Nat):=fun h=>by
  rw[aeh _ i (by rw[bI,lD]; exact hi),mS _ _ _ _ (by rw[lD]; exact hi),if_pos rfl]
 have mb:=KU i (by omega);have hp:2 ^ i<18446744073709551616:=nD (by decide) (by omega:i<64);have a2:=u64_or_nat (B.getD (lI (A.getD i 0)) 0) (2 ^ i) (sm _) hp;obtain⟨c1,c2⟩:=Fo B (lI (A.getD i 0)) (B.getD (lI (A.getD i 0)) 0 ||| 2 ^ i) (by omega);have n1:=EW B;have lu:(us B).length=64:=by rw[dU,lB]
 obtain⟨x1,x2,x3,x4,x5,x6,_⟩:=Cd B;obtain⟨y1,y2,y3,y4,y5,y6,_⟩:=Cd (B.set (lI (A.getD i 0)) (B.getD (lI (A.getD i 0)) 0 ||| 2 ^ i));have e1:((lI (A.getD i 0):Nat):Int)<64:=by omega
 have e2:lI (A.getD i 0)<=63:=by omega
 unfold Xm Bs;generalize B.getD (lI (A.getD i 0)) 0 ||| 2 ^ i=z1 at *
 generalize B.getD (lI (A.getD i 0)) 0=z2 at *;generalize us (B.set (lI (A.getD i 0)) z1)=U2 at *;generalize us B=U1 at *;generalize ints (ns (D.set i (lI (A.getD i 0))))=D2 at *;generalize ints (ns D)=D1 at *;clear hg sm hp;generalize lI (A.getD i 0)=c at *;generalize A.getD i 0=z5 at *;generalize us A=A1 at *;generalize 2 ^ i=p2 at *;unfold Ld;simp[rm,rk,rj,rh,rf,i1,hi,wr,mc,gA,lA,lDD,lDD2,gD2,sD,mb,a2,c1,c2,n1,lu,e1,e2,x1,y1,idx,aO,sQc6,iQc6,sQc5,iQc5]
theorem aaM (N:Nat) (Y:List AV) (A:List Nat) (hN:N<=64) (hA:A.length=N) (Xj:Small A) (hI:∀a,(A.getD a 0).testBit a=false):∀(c i:Nat) (D B:List Nat),i+c=N->Pck N (2 ^ i-1) D B->(∀j,j<i->D.getD j 0=lI (A.getD j 0))->∃D' B',Pck N (2 ^ N-1) D' B'/\(∀j,j<N->D'.getD j 0=lI (A.getD j 0))/\aW aq 2 (.loop Ld) (Xm N Y A D B N i [])=some (.exit 0,Xm N Y A D' B' N N [(23,.bool false)])
 |0,i,D,B,hc,hP,hD=>by
   obtain rfl:i=N:=by omega
   refine⟨D,B,hP,hD,bq ?_⟩;obtain⟨x1,x2,x3,x4,x5,x6,_⟩:=Cd B;unfold Xm Bs;generalize us B=U1 at *;generalize ints (ns D)=D1 at *;generalize us A=A1 at *;unfold Ld;simp[rm,rk,rj,rh,rf,x1]
 |c+1,i,D,B,hc,hP,hD=>by
   have hi:i<N:=by omega
   have hcn:=agF (x:=A.getD i 0) (i:=i) (by omega) (hI i);have r:=afb N Y A D B (by omega) Xj i (by omega) (by rw[hP.MV,hA]) hP.xb hP.sm hcn;rw[hA] at r
   obtain⟨D',B',h1,h2,h3⟩:=aaM N Y A hN hA Xj hI c (i+1) _ _ (by omega) (agG hP hN hi hcn) fun j hj=>by
    rw[mS _ _ _ _ (by rw[hP.MV]; exact hi)];split
    ·rename_i e; rw[e]
    ·exact hD j (by omega)
   exact⟨D',B',h1,h2,(aS r).trans h3⟩
theorem adJ {A:List Nat} {N:Nat} {D B:List Nat} (hN:N<=64) (hb:∀a j,(A.getD a 0).testBit j=true->j<N) (h:Pck N (2 ^ N-1) D B) (hD:∀j,j<N->D.getD j 0=lI (A.getD j 0)):Pst A N (2 ^ N-1) D B:=by
 have hp:2 ^ N<=2 ^ 64:=iU (by decide) hN;refine⟨h,by have:(2:Nat) ^ 64=18446744073709551616:=rfl; have:=Sp N; omega,fun j hj=>?_⟩;rw[nP] at hj;rw[hD j (of_decide_eq_true hj)];unfold Xw;congr 1;apply uQ;intro i;rw[cm,nP];cases e:(A.getD j 0).testBit i with
 |false=>simp
 |true=>simp[hb j i e]
theorem adS (N:Nat):Pck N (2 ^ 0-1) (aH N 0) (aH 64 0):=by
 have g:∀n v,(aH n 0).getD v 0=0:=fun n v=>by rw[List.getD_eq_getElem?_getD,List.getElem?_replicate]; split<;>rfl
 refine⟨cz,cz,fun d=>by rw[g]; decide,fun d j hd=>?_,fun j hj=>?_,fun v=>by rw[g]; decide⟩
 ·rw[g,nP]; simp
 ·rw[nP] at hj; simp at hj
/- core.peel, core.Order, maxclique.Colours. -/
theorem ajD:us (aH 64 0)=[.int .u64 0,.int .u64 0,.int .u64 0,.int .u64 0,.int .u64 0,.int .u64 0,.int .u64 0,.int .u64 0,.int .u64 0,.int .u64 0,.int .u64 0,.int .u64 0,.int .u64 0,.int .u64 0,.int .u64 0,.int .u64 0,.int .u64 0,.int .u64 0,.int .u64 0,.int .u64 0,.int .u64 0,.int .u64 0,.int .u64 0,.int .u64 0,.int .u64 0,.int .u64 0,.int .u64 0,.int .u64 0,.int .u64 0,.int .u64 0,.int .u64 0,.int .u64 0,.int .u64 0,.int .u64 0,.int .u64 0,.int .u64 0,.int .u64 0,.int .u64 0,.int .u64 0,.int .u64 0,.int .u64 0,.int .u64 0,.int .u64 0,.int .u64 0,.int .u64 0,.int .u64 0,.int .u64 0,.int .u64 0,.int .u64 0,.int .u64 0,.int .u64 0,.int .u64 0,.int .u64 0,.int .u64 0,.int .u64 0,.int .u64 0,.int .u64 0,.int .u64 0,.int .u64 0,.int .u64 0,.int .u64 0,.int .u64 0,.int .u64 0,.int .u64 0]:=rfl
theorem PI {N:Nat} {Es:List Ed} (h:jh (N:Int) Es):SymA (dn N Es)/\(∀a,((dn N Es).getD a 0).testBit a=false)/\∀ a j,((dn N Es).getD a 0).testBit j=true->j<N:=by
 obtain⟨_,_,hb⟩:=jO h;refine⟨fun a b=>?_,fun a=>?_,fun a j hj=>?_⟩
 ·rw[hb,hb,Bool.or_comm]
 ·rw[hb];cases e:(decide (((a:Int),(a:Int))∈Es)||decide (((a:Int),(a:Int))∈Es)) with
  |false=>rfl
  |true=>
    simp only[Bool.or_self,decide_eq_true_eq] at e;have:=h.2.2 _ e;simp only at this;omega
 ·rw[hb] at hj;simp only[Bool.or_eq_true,decide_eq_true_eq] at hj;rcases hj with hj|hj<;>(have:=h.2.2 _ hj; simp only at this; omega)
theorem vE {A:List Nat} {N:Nat} (hN:N<=64) {o ds:List Nat} (h:l9 A (2 ^ N-1) o ds):o.length=N/\ds.length=N/\o.Nodup/\∀ j,j∈o ↔ j<N:=by
 have hp:2 ^ N<=2 ^ 64:=iU (by decide) hN;obtain⟨a,b,c⟩:=TD (by have:(2:Nat) ^ 64=18446744073709551616:=rfl; have:=Sp N; omega) h;have hm:∀j,j∈o ↔ j<N:=fun j=>by rw[a,nP]; simp
 have hp:o.Perm (cQ N):=(List.perm_ext_iff_of_nodup b Mv).2 fun j=>by rw[hm,eP]
 have hl:=hp.length_eq;rw[GN] at hl;exact⟨hl,by omega,b,hm⟩
theorem TC {N:Nat} {Es:List Ed} (hG:jh (N:Int) Es) (hE:Es.length<1000000) (h0:0<N):∃o ds,l9 (dn N Es) (2 ^ N-1) o ds/\bp aq KO [.agg [.int .i64 N,.list 2 (bU Es)]] [Bs N (bU Es),Bs N (bU Es)]=some (.dJ [.sl 1 2 0 N,.sl 1 3 0 N],[Bs N (bU Es),Bs N (bU Es),some (ints (ns o)),some (ints (nB o ds 0 (aH N 0)))]):=by
 have hN:N<=64:=by have:=hG.1.2; omega
 obtain⟨hA,Xj,_⟩:=jO hG;obtain⟨hS,hI,hb⟩:=PI hG;obtain⟨D,B,f1,f2,f3⟩:=aaM N (bU Es) (dn N Es) hN hA Xj hI N 0 _ _ (by omega) (adS N) (fun j hj=>by omega);have hP:=adJ hN hb f1 f2
 have pc:lI (2 ^ N-1)<=64:=by
  unfold lI;have:=V5 (fun j=>(2 ^ N-1:Nat).testBit j) (cQ 64)
  rwa [GN] at this
 obtain⟨o,ds,D',B',k',p1,p2⟩:=akD N (bU Es) (dn N Es) hN hS hI hA Xj (2 ^ N-1) [] (aH N 0) D B 0 [] (.inl rfl) hP (by simpa using pc) cz;rw[List.nil_append] at p2;refine⟨o,ds,p1,?_⟩;obtain⟨ol,dl,_,_⟩:=vE hN p1;have rr:=SN hG (by omega);have ma:=aey N hN;have lo:(ns o).length=N:=by rw[iJ]; exact ol
 have ln:(nB o ds 0 (aH N 0)).length=N:=by rw[Kj,cz]
 have e1:aH N (AV.int .i64 0)=ints (aH N 0):=by simp[ints]
 have e2:ns (aH N 0)=aH N 0:=by simp[ns]
 have t1:(ints (ns o)).take N=ints (ns o):=aZ (by rw[af]; omega);have t2:(ints (nB o ds 0 (aH N 0))).take N=ints (nB o ds 0 (aH N 0)):=aZ (by rw[af]; omega);have l1:(ints (ns o)).length=N:=by rw[af]; omega
 have l2:(ints (nB o ds 0 (aH N 0))).length=N:=by rw[af]; omega
 have l3:=dU (dn N Es);have fl1:=gT (ns o);have fl2:=gT (nB o ds 0 (aH N 0));have nz:¬N=0:=by omega
 have nL:(N:Int)<=(jx:Int):=by unfold jx; omega
 unfold Xm at f3;unfold wY at p2;rw[ajD,e2,fi] at f3;simp only[c8,fi] at p2;obtain⟨x1,x2,x3,x4,x5,x6,_⟩:=Cd B;obtain⟨y1,y2,y3,y4,y5,y6,_⟩:=Cd B';rw[pM sQa4 (ah rfl)];unfold Bs at *;generalize us B=U1 at *;generalize us B'=U2 at *;generalize ints (ns o)=O1 at *;generalize ints (nB o ds 0 (aH N 0))=L1 at *;generalize ints (aH N 0)=Z1 at *;generalize ints (ns D)=D1 at *;generalize ints (ns D')=D2 at *;rw[hA] at l3;generalize us (dn N Es)=A1 at *;generalize bU Es=Y at *;generalize 2 ^ N-1=m0 at *;clear hP f1 f2 p1 hG hS hI hb;unfold qQa4 cQa4;simp[rB,rA,rz,rq,rn,mP,mO,mN,mh,rr,ma,f3,p2,e1,t1,t2,l1,l2,l3,fl1,fl2,nz,nL,x1,x3,y1,y3,y4,el,finX,vX,Mp,bf,bk,aO,fu,cX,sQc4,iQc4,sQc7,iQc7]
/- What a run asks of a box of ints; slices.Reverse of ints. -/
theorem acr (l:List Int) (h:l.length<=4294967296):rvG 1 (ints l) []=some (ints l.reverse,none):=by
 unfold rvG;rw[if_pos ⟨rfl,rfl,by rw[af]; exact h⟩,show j8 (ints l)=some l from nt l];rfl
structure Lf (D:List AV):Prop where
 bo:dL D=[]
 ow:bZ D=false
 mp:∀g,dq g D=D
 pl:dP D=true
 pt:gY D=[]
 np:∀b,iB b D=true
 av:jS D D=true
 pp:cX D=true
 fz:U7 D=true
 fl:aI D=D
 fr:vT D=some D
theorem rX (l:List Int):Lf (ints l):=by
 induction l with
 |nil=>exact⟨rfl,rfl,fun _=>rfl,rfl,rfl,fun _=>rfl,rfl,rfl,rfl,rfl,rfl⟩
 |cons x r ih=>
   refine⟨?_,?_,fun g=>?_,?_,?_,fun b=>?_,?_,?_,?_,gT _,?_⟩
   ·exact ih.bo
   ·exact ih.ow
   ·show AV.int .i64 x::dq g (ints r)=_;rw[ih.mp]; rfl
   ·exact ih.pl
   ·exact ih.pt
   ·exact ih.np b
   ·show (decide _&&jS (ints r) (ints r))=true;rw[ih.av]; simp
   ·exact ih.pp
   ·exact ih.fz
   ·show (match Vb (.int .i64 x),vT (ints r) with|some y,some ys=>some (y::ys)|_,_=>none)=_;rw[ih.fr]; rfl
/- core.Order and maxclique.Colours. -/
theorem afk {N:Nat} {Es:List Ed} (hG:jh (N:Int) Es) (hE:Es.length<1000000) (h0:0<N):∃o ds,l9 (dn N Es) (2 ^ N-1) o ds/\bp aq nQI [.agg [.int .i64 N,.list 2 (bU Es)]] [Bs N (bU Es)]=some (.dJ [.sl 1 2 0 N,.int .i64 0],[Bs N (bU Es),Bs N (bU Es),some (ints (ns o))]):=by
 obtain⟨o,ds,hp,pr⟩:=TC hG hE h0;refine⟨o,ds,hp,?_⟩;have g:=im (N:Int) Es (by omega);rw[eB.2 hG] at g;obtain⟨a1,a2,a3,a4,a5,a6,a7,a8,a9,aa,ab⟩:=rX (ns o);obtain⟨b1,b2,b3,b4,b5,b6,b7,b8,b9,ba,bb⟩:=rX (nB o ds 0 (aH N 0));rw[pM sQI (ah rfl)];unfold Bs at *;generalize ints (ns o)=O1 at *;generalize ints (nB o ds 0 (aH N 0))=L1 at *;generalize bU Es=Y at *;unfold qQI cQI;simp[adC,adB,adA,adz,adx,adw,g,pr,a1,a3,a6,b1,aO,bk,bf,fu,cX,fa,dD,dt,dH,gR,s5,gY,sQa4,iQa4,Mw,O7]
def xd:Option (AV × Heap)->Bool
 |some (.dJ [.list 1 [],.int .i64 0],[])=>true
 |_=>false
theorem ahg {r:Option (AV × Heap)} (h:xd r=true):r=some (.dJ [.list 1 [],.int .i64 0],[]):=by
 unfold xd at h;split at h
 ·rfl
 ·cases h
theorem afo:xd (jN aq 300 Sd [.agg [.int .i64 0,.list 2 []]] [])=true:=by kernel_rfl
theorem afn:bp aq Sd [.agg [.int .i64 0,.list 2 []]] []=some (.dJ [.list 1 [],.int .i64 0],[]):=fF.2 ⟨300,ahg afo⟩
theorem abo (n:Int):Up (dN n):=by
 unfold dN Up;rw[List.pairwise_map];exact List.pairwise_lt_range.imp fun h=>by omega
theorem Ju {N:Nat} (hN:N<=64) (x:Int):x∈dN (N:Int) ↔ 0<=x/\x<N:=by
 unfold dN;rw[gO];constructor
 ·rintro⟨j,hj,rfl⟩;have:=eP.1 hj;omega
 ·rintro⟨a,b⟩;exact⟨x.toNat,eP.2 (by omega),by omega⟩
theorem u7 {N:Nat} (hN:N<=64) {o:List Nat} (hl:o.length=N) (hn:o.Nodup) (hm:∀j,j∈o ↔ j<N):(ns o).reverse.length=N/\cV (ns o).reverse=dN N/\(∀v∈(ns o).reverse,0<=v/\v<(N:Int))/\∀ i:Nat,i<N->(i:Int)∈(ns o).reverse:=by
 have mem:∀v:Int,v∈(ns o).reverse ↔ ∃j:Nat,v=j/\j<N:=fun v=>by
  rw[List.mem_reverse];unfold ns;rw[gO];constructor
  ·rintro⟨j,hj,rfl⟩; exact⟨j,rfl,(hm j).1 hj⟩
  ·rintro⟨j,rfl,hj⟩; exact⟨j,(hm j).2 hj,rfl⟩
 refine⟨by rw[List.length_reverse,iJ,hl],?_,fun v hv=>?_,fun i hi=>(mem i).2 ⟨i,rfl,hi⟩⟩
 ·obtain⟨s1,s2⟩:=eY (ns o).reverse;refine sI s1 (abo N) fun x=>?_;rw[s2,mem,Ju hN];constructor
  ·rintro⟨j,rfl,h⟩; omega
  ·intro h; exact⟨x.toNat,by omega,by omega⟩
 ·obtain⟨j,rfl,h⟩:=(mem v).1 hv;omega
theorem HZ {N:Nat} {Es:List Ed} (hG:jh (N:Int) Es) (hE:Es.length<1000000):∃o ds,l9 (dn N Es) (2 ^ N-1) o ds/\bp aq Sd [.agg [.int .i64 N,.list 2 (bU Es)]] []=some (.dJ [.list 1 (ints (rN (dj N Es) N (ns o).reverse)),.int .i64 0],[]):=by
 have hN:N<=64:=by have:=hG.1.2; omega
 by_cases h0:N=0
 ·subst h0
  have:Es=[]:=by
   cases Es with
   |nil=>rfl
   |cons e r=>have:=hG.2.2 e List.mem_cons_self; omega
  subst this;exact⟨[],[],.nil,afn⟩
 ·obtain⟨o,ds,hp,pr⟩:=afk hG hE (by omega);refine⟨o,ds,hp,?_⟩;obtain⟨ol,_,nd,om⟩:=vE hN hp;obtain⟨q1,q2,q3,q4⟩:=u7 hN ol nd om;have cr:=LN hG hE (ns o).reverse q1 q2 q3;have r1:=acr (ns o) (by rw[iJ]; omega);have l1:(ints (ns o)).length=N:=by rw[af,iJ]; exact ol
  have l2:(ints (ns o).reverse).length=N:=by rw[af]; exact q1
  have t1:(ints (ns o)).take N=ints (ns o):=aZ (by omega);have t2:(ints (ns o).reverse).take N=ints (ns o).reverse:=aZ (by omega);have k1:(ints (ns o)).drop N=[]:=List.drop_eq_nil_of_le (by omega);obtain⟨a1,a2,a3,a4,a5,a6,a7,a8,a9,aa,ab⟩:=rX (ns o);obtain⟨b1,b2,b3,b4,b5,b6,b7,b8,b9,ba,bb⟩:=rX (ns o).reverse;rw[pM sQl (ah rfl)];unfold Bs at *;generalize ints (rN (dj N Es) N (ns o).reverse)=R1 at *;generalize ints (ns o).reverse=O2 at *;generalize ints (ns o)=O1 at *;generalize bU Es=Y at *;unfold qQl cQl;simp[acT,acS,acR,acQ,acP,acO,pr,cr,r1,l1,l2,t1,t2,k1,a1,a9,b1,b9,ba,aO,bk,bf,fu,cX,dP,pl,Bm.MW,fa,dD,dt,dH,gR,s5,gY,FI,D4,sQI,iQI,sQq,iQq,iQJ]
end Go.BmP
