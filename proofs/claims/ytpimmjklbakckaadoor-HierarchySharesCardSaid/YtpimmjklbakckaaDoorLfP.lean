/- core.peel: the nodes one after the other; the buckets at the start. -/
import Derived.Test.YtpimmjklbakckaaDoorPeB
import Derived.Test.YtpimmjklbakckaaDoorRvG
set_option linter.unusedSimpArgs false
set_option linter.unusedVariables false
set_option maxRecDepth 100000
set_option maxHeartbeats 8000000
open List renaming length_filter_le → MT, length_range → Bv, length_replicate → cJ, length_set → cO, mem_range → qt, nodup_range → FJ, range → fc, replicate → aV, take_of_length_le → dE
open Nat renaming eq_of_testBit_eq → Ar, le_of_ble_eq_true → aF, pow_le_pow_right → Sk, pow_lt_pow_right → lR, testBit_and → cV, two_pow_pos → JA
namespace Go.BmP
open Go.Am Go.Bm
theorem YX (m:Nat) (h:m<18446744073709551616):bS aD nQX [.int .u64 m] []=some (.int .i64 (sj m:Nat),[]):=by
 rw[VL];have:=YP m h;rw[show pcE (m:Int)=pxE (m:Int) from rfl,this]
theorem acS (m:Nat) (h:m<18446744073709551616):bS aD nQO [.int .u64 m] []=some (.int .i64 (sj m:Nat),[]):=by
 have o:=YX m h;rw[fZ sQO (aF rfl)];generalize ((sj m:Nat):Int)=p at *;generalize (m:Int)=x at *;unfold qQO cQO;simp[abF,abE,o,aN,cB,bU,sQX,iQX]
def jk9 (J:Env):Prop:=J=[]\/∃ W:List Nat,J=[(90,.list 1 (ints (ns W))),(91,.int .i64 W.length),(92,.int .i64 W.length),(93,.bool false)]
theorem acR (N:Int) (Y:List AV) (O L:List Int) (A D B:List Nat) (k:Int) (J:Env) (hJ:jk9 J):bh aD 2 BR (tA N Y O L A D B 0 k J)=some (.exit 2,tA N Y O L A D B 0 k [(50,.bool false)]):=by
 obtain⟨x1,x2,x3,x4,x5,x6,_⟩:=xR B;unfold tA qa;rw[mB];generalize us B=U1 at *;generalize ints (ns D)=D1 at *;generalize ints O=O1 at *;generalize ints L=L1 at *;generalize us A=A1 at *;rcases hJ with rfl|⟨W,rfl⟩
 ·unfold BR;simp[uq,um,uk,uj,ui,uh,ug,uf,ue,ud,pO,pN,pM,pL,pK,pJ,pI,pH,pG,pF,pE,pD,pC,pB,pz,py,px,pw,pq,po,pk,pj,ph,x1,x2,x3,x4,x6,aN]
 ·generalize ints (ns W)=W1 at *;unfold BR;simp[uq,um,uk,uj,ui,uh,ug,uf,ue,ud,pO,pN,pM,pL,pK,pJ,pI,pH,pG,pF,pE,pD,pC,pB,pz,py,px,pw,pq,po,pk,pj,ph,x1,x2,x3,x4,x6,aN]
theorem YY (N:Int) (Y:List AV) (O L O' L':List Int) (A D B D' B':List Nat) (k k':Int) (m m':Nat) (h0:m≠0) (W:List Nat) (J:Env) (hJ:jk9 J) (h:bh aD 2 (.loop Ek) (tA N Y O L A D B m k [(51,.int .i64 0)])=some (.exit 3,tA N Y O' L' A D' B' m' k' [(90,.list 1 (ints (ns W))),(91,.int .i64 W.length),(92,.int .i64 W.length),(93,.bool false)])):bh aD 2 BR (tA N Y O L A D B m k J)=some (.normal,tA N Y O' L' A D' B' m' k' [(90,.list 1 (ints (ns W))),(91,.int .i64 W.length),(92,.int .i64 W.length),(93,.bool false)]):=by
 have m0:¬((m:Int)=0):=by omega
 obtain⟨x1,x2,x3,x4,x5,x6,_⟩:=xR B;unfold tA qa at *;generalize us B'=U2 at *;generalize us B=U1 at *;generalize ints (ns D')=D2 at *;generalize ints (ns D)=D1 at *;generalize ints O'=O2 at *;generalize ints O=O1 at *;generalize ints L'=L2 at *;generalize ints L=L1 at *;generalize us A=A1 at *;generalize (m:Int)=X at *;rcases hJ with rfl|⟨V,rfl⟩
 ·generalize ints (ns W)=W1 at *;unfold BR;simp[uq,um,uk,uj,ui,uh,ug,uf,ue,ud,pO,pN,pM,pL,pK,pJ,pI,pH,pG,pF,pE,pD,pC,pB,pz,py,px,pw,pq,po,pk,pj,ph,h,m0,h0,x1,x2,x3,x4,x6,aN]
 ·generalize ints (ns W)=W1 at *;generalize ints (ns V)=V1 at *;unfold BR;simp[uq,um,uk,uj,ui,uh,ug,uf,ue,ud,pO,pN,pM,pL,pK,pJ,pI,pH,pG,pF,pE,pD,pC,pB,pz,py,px,pw,pq,po,pk,pj,ph,h,m0,h0,x1,x2,x3,x4,x6,aN]
theorem DJ:∀(o ds:List Nat) (k:Nat) (L:List Int),(pR o ds k L).length=L.length
 |[],_,_,_=>by unfold pR; rfl
 |v::o,[],_,_=>by unfold pR; rfl
 |v::o,d::ds,k,L=>by unfold pR; rw[DJ,cO]
theorem acP (N:Nat) (Y:List AV) (A:List Nat) (hN:N<=64) (hS:Cp A) (hI:∀a,(A.getD a 0).testBit a=false) (hA:A.length=N) (NW:Small A):∀(m:Nat) (O L:List Int) (D B:List Nat) (k:Nat) (J:Env),jk9 J->Yo A N m D B->O.length+sj m<=64->L.length=N ->
  ∃ (o ds D' B':List Nat) (k':Nat),wq A m o ds/\bh aD 2 (.loop BR) (tA N Y O L A D B m k J)=some (.exit 2,tA N Y (O++ns o) (pR o ds k L) A D' B' 0 (k':Int) [(50,.bool false)]):=by
 intro m
 induction m using Nat.strongRecOn with
 |ind m ih=>
   intro O L D B k J hJ hP hO hL;by_cases h0:m=0
   ·subst h0;refine⟨[],[],D,B,k,.nil,?_⟩;have:O++ns []=O:=by simp[ns]
    rw[this];exact cv (acR N Y O L A D B k J hJ)
   ·obtain⟨d,d1,d2,d3⟩:=Tj hP hN h0;obtain⟨hp,vN,_⟩:=Ko hP hN d1 d2 d3;have pc:=VC (m:=m) (a:=m) hP.lt hp.1;rw[if_pos ⟨hp.2.1,hp.2.1⟩,Nat.and_self] at pc
    have e1:wo m (tz (B.getD d 0)) &&& m=wo m (tz (B.getD d 0)):=by
     apply Ar;intro j;rw[cV,jZ hP.lt hp.1];cases m.testBit j<;>simp
    rw[e1] at pc;have pp:=Ii hp.1 hp.2.1;obtain⟨D',B',W,s1,s2⟩:=QP N Y O L A D B hN m hS hI hA NW hP k d d1 d2 d3 (by omega) hL d 0 (by omega);obtain⟨o,ds,D2,B2,k2,r1,r2⟩:=ih (wo m (tz (B.getD d 0))) (aen hP.lt hp.1 hp.2.1) (O++[((tz (B.getD d 0):Nat):Int)]) (L.set (tz (B.getD d 0)) ((max k d:Nat):Int)) D' B' (max k d) _ (.inr ⟨W,rfl⟩) s1 (by rw[List.length_append,List.length_singleton]; omega) (by rw[cO,hL]);refine⟨tz (B.getD d 0)::o,d::ds,D2,B2,k2,.cons hp r1,?_⟩;have e2:O++ns (tz (B.getD d 0)::o)=O++[((tz (B.getD d 0):Nat):Int)]++ns o:=by simp[ns]
    rw[e2];exact (bI (YY N Y O L _ _ A D B D' B' k _ m _ h0 W J hJ s2)).trans r2
/-! The start -/
theorem mG (n j:Nat):(2 ^ n-1).testBit j=decide (j<n):=Nat.testBit_two_pow_sub_one n j
theorem YZ {x i:Nat} (hi:i<64) (h:x.testBit i=false):sj x<64:=by
 unfold sj
 have e:((fc 64).filter fun j=>x.testBit j)=(((fc 64).erase i).filter fun j=>x.testBit j):=by
  rw[List.Nodup.erase_eq_filter FJ,List.filter_filter];congr 1;funext j;by_cases q:j=i
  ·subst q; simp[h]
  ·simp[q]
 rw[e];have h1:=MT (fun j=>x.testBit j) ((fc 64).erase i);rw[List.length_erase_of_mem (qt.2 hi),Bv] at h1;omega
theorem Y0 {N i:Nat} {D B:List Nat} (h:Sh N (2 ^ i-1) D B) (hN:N<=64) (hi:i<N) {c:Nat} (hc:c<64):Sh N (2 ^ (i+1)-1) (D.set i c) (B.set c (B.getD c 0 ||| 2 ^ i)):=by
 have hp:2 ^ i<18446744073709551616:=lR (by decide) (by omega:i<64);have gB:∀d,(B.set c (B.getD c 0 ||| 2 ^ i)).getD d 0=if d=c then B.getD c 0 ||| 2 ^ i else B.getD d 0:=fun d=>kN _ _ _ _ (by rw[h.tG]; exact hc)
 have gD:∀j,(D.set i c).getD j 0=if j=i then c else D.getD j 0:=fun j=>kN _ _ _ _ (by rw[h.FR]; exact hi);refine⟨by rw[cO,h.FR],by rw[cO,h.tG],fun d=>?_,fun d j hd=>?_,fun j hj=>?_,fun v=>?_⟩
 ·rw[gB];split
  ·exact Nat.or_lt_two_pow (n:=64) (h.sm c) hp
  ·exact h.sm d
 ·rw[gB,gD,mG];by_cases q:d=c
  ·subst q;rw[if_pos rfl,Nat.testBit_or,Nat.testBit_two_pow,h.bit d j hd,mG];by_cases z:j=i
   ·subst z;rw[if_pos rfl]; simp
   ·rw[if_neg z];have z':¬i=j:=fun k=>z k.symm;have:decide (j<i+1)=decide (j<i):=by apply decide_eq_decide.2; omega
    rw[this];simp[z']
  ·rw[if_neg q,h.bit d j hd,mG];by_cases z:j=i
   ·subst z;rw[if_pos rfl];have:¬c=d:=fun k=>q k.symm;simp[this]
   ·rw[if_neg z];have:decide (j<i+1)=decide (j<i):=by apply decide_eq_decide.2; omega
    rw[this]
 ·rw[mG] at hj;have:=of_decide_eq_true hj;omega
 ·rw[gD];split
  ·exact hc
  ·exact h.TZ v
def N8 (N:Int) (Y:List AV) (A D B:List Nat) (n i:Int) (J:Env):St:=⟨(2,.own 1 [])::(4,.list 1 (us A))::(5,.ptr 2 0)::(6,.own 1 (ints (ns D)))::(20,.list 1 (us A))::(21,.int .i64 n)::(22,.int .i64 i)::J,[qa N Y,qa N Y,some (us B)]⟩
theorem Xo (N:Int) (Y:List AV) (A D B:List Nat) (hA:A.length<=64) (NW:Small A) (i:Nat) (hi:i<A.length) (lD:D.length=A.length) (lB:B.length=64) (sm:∀d,B.getD d 0<18446744073709551616) (hc:sj (A.getD i 0)<64):bh aD 2 K0 (N8 N Y A D B A.length i [])=some (.normal,N8 N Y A (D.set i (sj (A.getD i 0))) (B.set (sj (A.getD i 0)) (B.getD (sj (A.getD i 0)) 0 ||| 2 ^ i)) A.length ((i+1:Nat):Int) []):=by
 have i1:(i:Int)<A.length:=by omega
 have wr:=fT (i:=i) (by omega);have hg:=tN NW i;have mc:=acS _ hg;have gA:∀q,(us A)[i]'q=.int .u64 (A.getD i 0:Nat):=fun q=>MZ A i hi q;have lA:=fI A;have lDD:(ints (ns D)).length=A.length:=by rw[ah,jP,lD]
 have sD:=(V3 D i (sj (A.getD i 0))).symm;have lDD2:(ints (ns (D.set i (sj (A.getD i 0))))).length=A.length:=by rw[ah,jP,cO,lD]
 have gD2:∀h,(ints (ns (D.set i (sj (A.getD i 0)))))[i]'h=.int .i64 (sj (A.getD i 0):Nat):=fun h=>by
  rw[V4 _ i (by rw[cO,lD]; exact hi),kN _ _ _ _ (by rw[lD]; exact hi),if_pos rfl]
 have mb:=zL i (by omega);have hp:2 ^ i<18446744073709551616:=lR (by decide) (by omega:i<64);have a2:=u64_or_nat (B.getD (sj (A.getD i 0)) 0) (2 ^ i) (sm _) hp;obtain⟨c1,c2⟩:=Ah B (sj (A.getD i 0)) (B.getD (sj (A.getD i 0)) 0 ||| 2 ^ i) (by omega);have n1:=zP B;have lu:(us B).length=64:=by rw[fI,lB]
 obtain⟨x1,x2,x3,x4,x5,x6,_⟩:=xR B;obtain⟨y1,y2,y3,y4,y5,y6,_⟩:=xR (B.set (sj (A.getD i 0)) (B.getD (sj (A.getD i 0)) 0 ||| 2 ^ i));have e1:((sj (A.getD i 0):Nat):Int)<64:=by omega
 have e2:sj (A.getD i 0)<=63:=by omega
 unfold N8 qa;generalize B.getD (sj (A.getD i 0)) 0 ||| 2 ^ i=z1 at *
 generalize B.getD (sj (A.getD i 0)) 0=z2 at *;generalize us (B.set (sj (A.getD i 0)) z1)=U2 at *;generalize us B=U1 at *;generalize ints (ns (D.set i (sj (A.getD i 0))))=D2 at *;generalize ints (ns D)=D1 at *;clear hg sm hp;generalize sj (A.getD i 0)=c at *;generalize A.getD i 0=z5 at *;generalize us A=A1 at *;generalize 2 ^ i=p2 at *;unfold K0;simp[uq,um,uk,uj,ui,uh,ug,uf,ue,ud,pO,pN,pM,pL,pK,pJ,pI,pH,pG,pF,pE,pD,pC,pB,pz,py,px,pw,pq,po,pk,pj,ph,i1,hi,wr,mc,gA,lA,lDD,lDD2,gD2,sD,mb,a2,c1,c2,n1,lu,e1,hc,e2,x1,x2,x3,x4,x6,y1,y2,y3,y4,y6,idx,aN,IntKind.bits,sQp,iQp,sQO,iQO]
theorem RT (N:Nat) (Y:List AV) (A:List Nat) (hN:N<=64) (hA:A.length=N) (NW:Small A) (hI:∀a,(A.getD a 0).testBit a=false):∀(c i:Nat) (D B:List Nat),i+c=N->Sh N (2 ^ i-1) D B->(∀j,j<i->D.getD j 0=sj (A.getD j 0))->∃D' B',Sh N (2 ^ N-1) D' B'/\(∀j,j<N->D'.getD j 0=sj (A.getD j 0))/\bh aD 2 (.loop K0) (N8 N Y A D B N i [])=some (.exit 0,N8 N Y A D' B' N N [(23,.bool false)])
 |0,i,D,B,hc,hP,hD=>by
   obtain rfl:i=N:=by omega
   refine⟨D,B,hP,hD,cv ?_⟩;obtain⟨x1,x2,x3,x4,x5,x6,_⟩:=xR B;unfold N8 qa;generalize us B=U1 at *;generalize ints (ns D)=D1 at *;generalize us A=A1 at *;unfold K0;simp[uq,um,uk,uj,ui,uh,ug,uf,ue,ud,pO,pN,pM,pL,pK,pJ,pI,pH,pG,pF,pE,pD,pC,pB,pz,py,px,pw,pq,po,pk,pj,ph,x1,x2,x3,x4,x6,aN]
 |c+1,i,D,B,hc,hP,hD=>by
   have hi:i<N:=by omega
   have hcn:=YZ (x:=A.getD i 0) (i:=i) (by omega) (hI i);have r:=Xo N Y A D B (by omega) NW i (by omega) (by rw[hP.FR,hA]) hP.tG hP.sm hcn;rw[hA] at r
   obtain⟨D',B',h1,h2,h3⟩:=RT N Y A hN hA NW hI c (i+1) _ _ (by omega) (Y0 hP hN hi hcn) fun j hj=>by
    rw[kN _ _ _ _ (by rw[hP.FR]; exact hi)];split
    ·rename_i e; rw[e]
    ·exact hD j (by omega)
   exact⟨D',B',h1,h2,(bI r).trans h3⟩
theorem Vq {A:List Nat} {N:Nat} {D B:List Nat} (hN:N<=64) (hb:∀a j,(A.getD a 0).testBit j=true->j<N) (h:Sh N (2 ^ N-1) D B) (hD:∀j,j<N->D.getD j 0=sj (A.getD j 0)):Yo A N (2 ^ N-1) D B:=by
 have hp:2 ^ N<=2 ^ 64:=Sk (by decide) hN;refine⟨h,by have:(2:Nat) ^ 64=18446744073709551616:=rfl; have:=JA N; omega,fun j hj=>?_⟩;rw[mG] at hj;rw[hD j (of_decide_eq_true hj)];unfold Xu;congr 1;apply Ar;intro i;rw[cV,mG];cases e:(A.getD j 0).testBit i with
 |false=>simp
 |true=>simp[hb j i e]
theorem VD (N:Nat):Sh N (2 ^ 0-1) (aV N 0) (aV 64 0):=by
 have g:∀n v,(aV n 0).getD v 0=0:=fun n v=>by rw[List.getD_eq_getElem?_getD,List.getElem?_replicate]; split<;>rfl
 refine⟨cJ,cJ,fun d=>by rw[g]; decide,fun d j hd=>?_,fun j hj=>?_,fun v=>by rw[g]; decide⟩
 ·rw[g,mG]; simp
 ·rw[mG] at hj; simp at hj
/- core.peel, core.Order, maxclique.Colours. -/
theorem ace:us (aV 64 0)=[.int .u64 0,.int .u64 0,.int .u64 0,.int .u64 0,.int .u64 0,.int .u64 0,.int .u64 0,.int .u64 0,.int .u64 0,.int .u64 0,.int .u64 0,.int .u64 0,.int .u64 0,.int .u64 0,.int .u64 0,.int .u64 0,.int .u64 0,.int .u64 0,.int .u64 0,.int .u64 0,.int .u64 0,.int .u64 0,.int .u64 0,.int .u64 0,.int .u64 0,.int .u64 0,.int .u64 0,.int .u64 0,.int .u64 0,.int .u64 0,.int .u64 0,.int .u64 0,.int .u64 0,.int .u64 0,.int .u64 0,.int .u64 0,.int .u64 0,.int .u64 0,.int .u64 0,.int .u64 0,.int .u64 0,.int .u64 0,.int .u64 0,.int .u64 0,.int .u64 0,.int .u64 0,.int .u64 0,.int .u64 0,.int .u64 0,.int .u64 0,.int .u64 0,.int .u64 0,.int .u64 0,.int .u64 0,.int .u64 0,.int .u64 0,.int .u64 0,.int .u64 0,.int .u64 0,.int .u64 0,.int .u64 0,.int .u64 0,.int .u64 0,.int .u64 0]:=rfl
theorem xl {N:Nat} {Es:List Ed} (h:Jz (N:Int) Es):Cp (jL N Es)/\(∀a,((jL N Es).getD a 0).testBit a=false)/\∀ a j,((jL N Es).getD a 0).testBit j=true->j<N:=by
 obtain⟨_,_,hb⟩:=q8 h;refine⟨fun a b=>?_,fun a=>?_,fun a j hj=>?_⟩
 ·rw[hb,hb,Bool.or_comm]
 ·rw[hb];cases e:(decide (((a:Int),(a:Int))∈Es)||decide (((a:Int),(a:Int))∈Es)) with
  |false=>rfl
  |true=>
    simp only[Bool.or_self,decide_eq_true_eq] at e;have:=h.2.2 _ e;simp only at this;omega
 ·rw[hb] at hj;simp only[Bool.or_eq_true,decide_eq_true_eq] at hj;rcases hj with hj|hj<;>(have:=h.2.2 _ hj; simp only at this; omega)
theorem VA {A:List Nat} {N:Nat} (hN:N<=64) {o ds:List Nat} (h:wq A (2 ^ N-1) o ds):o.length=N/\ds.length=N/\o.Nodup/\∀ j,j∈o ↔ j<N:=by
 have hp:2 ^ N<=2 ^ 64:=Sk (by decide) hN;obtain⟨a,b,c⟩:=Kp (by have:(2:Nat) ^ 64=18446744073709551616:=rfl; have:=JA N; omega) h;have hm:∀j,j∈o ↔ j<N:=fun j=>by rw[a,mG]; simp
 have hp:o.Perm (fc N):=(List.perm_ext_iff_of_nodup b FJ).2 fun j=>by rw[hm,qt]
 have hl:=hp.length_eq;rw[Bv] at hl;exact⟨hl,by omega,b,hm⟩
theorem Vz {N:Nat} {Es:List Ed} (hG:Jz (N:Int) Es) (hE:Es.length<1000000) (h0:0<N):∃o ds,wq (jL N Es) (2 ^ N-1) o ds/\bS aD nQz [.agg [.int .i64 N,.list 2 (iQ Es)]] [qa N (iQ Es),qa N (iQ Es)]=some (.dA [.sl 1 2 0 N,.sl 1 3 0 N],[qa N (iQ Es),qa N (iQ Es),some (ints (ns o)),some (ints (pR o ds 0 (aV N 0)))]):=by
 have hN:N<=64:=by have:=hG.1.2; omega
 obtain⟨hA,NW,_⟩:=q8 hG;obtain⟨hS,hI,hb⟩:=xl hG;obtain⟨D,B,f1,f2,f3⟩:=RT N (iQ Es) (jL N Es) hN hA NW hI N 0 _ _ (by omega) (VD N) (fun j hj=>by omega);have hP:=Vq hN hb f1 f2
 have pc:sj (2 ^ N-1)<=64:=by
  unfold sj;have:=MT (fun j=>(2 ^ N-1:Nat).testBit j) (fc 64)
  rwa [Bv] at this
 obtain⟨o,ds,D',B',k',p1,p2⟩:=acP N (iQ Es) (jL N Es) hN hS hI hA NW (2 ^ N-1) [] (aV N 0) D B 0 [] (.inl rfl) hP (by simpa using pc) cJ;rw[List.nil_append] at p2;refine⟨o,ds,p1,?_⟩;obtain⟨ol,dl,_,_⟩:=VA hN p1;have rr:=JT hG (by omega);have ma:=Wj N hN;have lo:(ns o).length=N:=by rw[jP]; exact ol
 have ln:(pR o ds 0 (aV N 0)).length=N:=by rw[DJ,cJ]
 have e1:aV N (AV.int .i64 0)=ints (aV N 0):=by simp[ints]
 have e2:ns (aV N 0)=aV N 0:=by simp[ns]
 have t1:(ints (ns o)).take N=ints (ns o):=dE (by rw[ah]; omega);have t2:(ints (pR o ds 0 (aV N 0))).take N=ints (pR o ds 0 (aV N 0)):=dE (by rw[ah]; omega);have l1:(ints (ns o)).length=N:=by rw[ah]; omega
 have l2:(ints (pR o ds 0 (aV N 0))).length=N:=by rw[ah]; omega
 have l3:=fI (jL N Es);have fl1:=mI (ns o);have fl2:=mI (pR o ds 0 (aV N 0));have nz:¬N=0:=by omega
 have nL:(N:Int)<=(p7:Int):=by unfold p7; omega
 unfold N8 at f3;unfold tA at p2;rw[ace,e2,mB] at f3;simp only[dT,mB] at p2;obtain⟨x1,x2,x3,x4,x5,x6,_⟩:=xR B;obtain⟨y1,y2,y3,y4,y5,y6,_⟩:=xR B';rw[fZ sQz (aF rfl)];unfold qa at *;generalize us B=U1 at *;generalize us B'=U2 at *;generalize ints (ns o)=O1 at *;generalize ints (pR o ds 0 (aV N 0))=L1 at *;generalize ints (aV N 0)=Z1 at *;generalize ints (ns D)=D1 at *;generalize ints (ns D')=D2 at *;rw[hA] at l3;generalize us (jL N Es)=A1 at *;generalize iQ Es=Y at *;generalize 2 ^ N-1=m0 at *;clear hP f1 f2 p1 hG hS hI hb;unfold qQz cQz;simp[uq,um,uk,uj,ui,uh,ug,uf,ue,ud,pO,pN,pM,pL,pK,pJ,pI,pH,pG,pF,pE,pD,pC,pB,pz,py,px,pw,pq,po,pk,pj,ph,rr,ma,f3,p2,e1,t1,t2,l1,l2,l3,fl1,fl2,nz,nL,x1,x2,x3,x4,x6,y1,y2,y3,y4,y6,el,Xn,tg,FD,bU,cB,aN,kK,fo,lQ,gQ,dh,kS,eU,eB,sQH,iQH,sQP,iQP]
/- What a run asks of a box of ints; slices.Reverse of ints. -/
theorem nat1:((1:Nat):Int)=1:=rfl
structure Lf (D:List AV):Prop where
 bo:cU D=[]
 ow:bF D=false
 mp:∀g,cK g D=D
 pl:eC D=true
 pt:eV D=[]
 np:∀b,jG b D=true
 av:il D D=true
 pp:fo D=true
 fz:IY D=true
 fl:az D=D
 fr:xO D=some D
theorem bT (l:List Int):Lf (ints l):=by
 induction l with
 |nil=>exact⟨rfl,rfl,fun _=>rfl,rfl,rfl,fun _=>rfl,rfl,rfl,rfl,rfl,rfl⟩
 |cons x r ih=>
   refine⟨?_,?_,fun g=>?_,?_,?_,fun b=>?_,?_,?_,?_,mI _,?_⟩
   ·exact ih.bo
   ·exact ih.ow
   ·show AV.int .i64 x::cK g (ints r)=_;rw[ih.mp]; rfl
   ·exact ih.pl
   ·exact ih.pt
   ·exact ih.np b
   ·show (decide _&&il (ints r) (ints r))=true;rw[ih.av]; simp
   ·exact ih.pp
   ·exact ih.fz
   ·show (match Ob (.int .i64 x),xO (ints r) with|some y,some ys=>some (y::ys)|_,_=>none)=_;rw[ih.fr]; rfl
end Go.BmP
