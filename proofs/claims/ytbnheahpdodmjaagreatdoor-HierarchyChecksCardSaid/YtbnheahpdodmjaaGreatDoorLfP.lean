/- core.peel: the nodes one after the other; the buckets at the start. -/
import Derived.Test.YtbnheahpdodmjaaGreatDoorPeB
import Derived.Test.YtbnheahpdodmjaaGreatDoorRvG
set_option linter.unusedSimpArgs false
set_option linter.unusedVariables false
set_option maxRecDepth 100000
set_option maxHeartbeats 8000000
open List renaming length_filter_le → B4, length_range → xn, length_replicate → cV, length_set → bG, mem_range → iG, nodup_range → MH, range → eF, replicate → aW, take_of_length_le → aK
open Nat renaming eq_of_testBit_eq → jO, le_of_ble_eq_true → aB, pow_lt_pow_right → oq, testBit_and → bU, two_pow_pos → Q7
namespace Go.BmP
open Go.Am Go.Bm
theorem agy (m:Nat) (h:m<18446744073709551616):bu an SA [.int .u64 m] []=some (.int .i64 (vl m:Nat),[]):=by
 rw[adK];have:=agr m h;rw[show pcE (m:Int)=pxE (m:Int) from rfl,this]
theorem akc (m:Nat) (h:m<18446744073709551616):bu an Wj [.int .u64 m] []=some (.int .i64 (vl m:Nat),[]):=by
 have o:=agy m h;rw[eO sQa1 (aB rfl)];generalize ((vl m:Nat):Int)=p at *;generalize (m:Int)=x at *;unfold qQa1 cQa1;simp[adg,adf,o,aJ,bM,bI,sQb1,iQb1]
def jk9 (J:Env):Prop:=J=[]\/∃ W:List Nat,J=[(90,.list 1 (ints (ns W))),(91,.int .i64 W.length),(92,.int .i64 W.length),(93,.bool false)]
theorem akb (N:Int) (Y:List AV) (O L:List Int) (A D B:List Nat) (k:Int) (J:Env) (hJ:jk9 J):aY an 2 HN (wC N Y O L A D B 0 k J)=some (.exit 2,wC N Y O L A D B 0 k [(50,.bool false)]):=by
 obtain⟨x1,x2,x3,x4,x5,x6,_⟩:=BZ B;unfold wC tt;rw[fU];generalize us B=U1 at *;generalize ints (ns D)=D1 at *;generalize ints O=O1 at *;generalize ints L=L1 at *;generalize us A=A1 at *;rcases hJ with rfl|⟨W,rfl⟩
 ·unfold HN;simp[xF,xE,xD,xC,xB,xA,xz,xy,xx,xw,rM,rL,rK,rJ,rI,rH,rG,rF,rE,rD,rC,rB,rA,rq,rn,rj,rh,rf,rb,q9,q8,q7,q6,x1,x2,x3,x4,x6,aJ]
 ·generalize ints (ns W)=W1 at *;unfold HN;simp[xF,xE,xD,xC,xB,xA,xz,xy,xx,xw,rM,rL,rK,rJ,rI,rH,rG,rF,rE,rD,rC,rB,rA,rq,rn,rj,rh,rf,rb,q9,q8,q7,q6,x1,x2,x3,x4,x6,aJ]
theorem agz (N:Int) (Y:List AV) (O L O' L':List Int) (A D B D' B':List Nat) (k k':Int) (m m':Nat) (h0:m≠0) (W:List Nat) (J:Env) (hJ:jk9 J) (h:aY an 2 (.loop K9) (wC N Y O L A D B m k [(51,.int .i64 0)])=some (.exit 3,wC N Y O' L' A D' B' m' k' [(90,.list 1 (ints (ns W))),(91,.int .i64 W.length),(92,.int .i64 W.length),(93,.bool false)])):aY an 2 HN (wC N Y O L A D B m k J)=some (.normal,wC N Y O' L' A D' B' m' k' [(90,.list 1 (ints (ns W))),(91,.int .i64 W.length),(92,.int .i64 W.length),(93,.bool false)]):=by
 have m0:¬((m:Int)=0):=by omega
 obtain⟨x1,x2,x3,x4,x5,x6,_⟩:=BZ B;unfold wC tt at *;generalize us B'=U2 at *;generalize us B=U1 at *;generalize ints (ns D')=D2 at *;generalize ints (ns D)=D1 at *;generalize ints O'=O2 at *;generalize ints O=O1 at *;generalize ints L'=L2 at *;generalize ints L=L1 at *;generalize us A=A1 at *;generalize (m:Int)=X at *;rcases hJ with rfl|⟨V,rfl⟩
 ·generalize ints (ns W)=W1 at *;unfold HN;simp[xF,xE,xD,xC,xB,xA,xz,xy,xx,xw,rM,rL,rK,rJ,rI,rH,rG,rF,rE,rD,rC,rB,rA,rq,rn,rj,rh,rf,rb,q9,q8,q7,q6,h,m0,h0,x1,x2,x3,x4,x6,aJ]
 ·generalize ints (ns W)=W1 at *;generalize ints (ns V)=V1 at *;unfold HN;simp[xF,xE,xD,xC,xB,xA,xz,xy,xx,xw,rM,rL,rK,rJ,rI,rH,rG,rF,rE,rD,rC,rB,rA,rq,rn,rj,rh,rf,rb,q9,q8,q7,q6,h,m0,h0,x1,x2,x3,x4,x6,aJ]
theorem Kv:∀(o ds:List Nat) (k:Nat) (L:List Int),(rS o ds k L).length=L.length
 |[],_,_,_=>by unfold rS; rfl
 |v::o,[],_,_=>by unfold rS; rfl
 |v::o,d::ds,k,L=>by unfold rS; rw[Kv,bG]
theorem aj9 (N:Nat) (Y:List AV) (A:List Nat) (hN:N<=64) (hS:Im A) (hI:∀a,(A.getD a 0).testBit a=false) (hA:A.length=N) (WG:Small A):∀(m:Nat) (O L:List Int) (D B:List Nat) (k:Nat) (J:Env),jk9 J->Pst A N m D B->O.length+vl m<=64->L.length=N ->
  ∃ (o ds D' B':List Nat) (k':Nat),Ao A m o ds/\aY an 2 (.loop HN) (wC N Y O L A D B m k J)=some (.exit 2,wC N Y (O++ns o) (rS o ds k L) A D' B' 0 (k':Int) [(50,.bool false)]):=by
 intro m
 induction m using Nat.strongRecOn with
 |ind m ih=>
   intro O L D B k J hJ hP hO hL;by_cases h0:m=0
   ·subst h0;refine⟨[],[],D,B,k,.nil,?_⟩;have:O++ns []=O:=by simp[ns]
    rw[this];exact bt (akb N Y O L A D B k J hJ)
   ·obtain⟨d,d1,d2,d3⟩:=abB hP hN h0;obtain⟨hp,vN,_⟩:=Si hP hN d1 d2 d3;have pc:=adB (m:=m) (a:=m) hP.lt hp.1;rw[if_pos ⟨hp.2.1,hp.2.1⟩,Nat.and_self] at pc
    have e1:wo m (tz (B.getD d 0)) &&& m=wo m (tz (B.getD d 0)):=by
     apply jO;intro j;rw[bU,mq hP.lt hp.1];cases m.testBit j<;>simp
    rw[e1] at pc;have pp:=PQ hp.1 hp.2.1;obtain⟨D',B',W,s1,s2⟩:=ZN N Y O L A D B hN m hS hI hA WG hP k d d1 d2 d3 (by omega) hL d 0 (by omega);obtain⟨o,ds,D2,B2,k2,r1,r2⟩:=ih (wo m (tz (B.getD d 0))) (alJ hP.lt hp.1 hp.2.1) (O++[((tz (B.getD d 0):Nat):Int)]) (L.set (tz (B.getD d 0)) ((max k d:Nat):Int)) D' B' (max k d) _ (.inr ⟨W,rfl⟩) s1 (by rw[List.length_append,List.length_singleton]; omega) (by rw[bG,hL]);refine⟨tz (B.getD d 0)::o,d::ds,D2,B2,k2,.cons hp r1,?_⟩;have e2:O++ns (tz (B.getD d 0)::o)=O++[((tz (B.getD d 0):Nat):Int)]++ns o:=by simp[ns]
    rw[e2];exact (aV (agz N Y O L _ _ A D B D' B' k _ m _ h0 W J hJ s2)).trans r2
/-! The start -/
theorem oZ (n j:Nat):(2 ^ n-1).testBit j=decide (j<n):=Nat.testBit_two_pow_sub_one n j
theorem agA {x i:Nat} (hi:i<64) (h:x.testBit i=false):vl x<64:=by
 unfold vl
 have e:((eF 64).filter fun j=>x.testBit j)=(((eF 64).erase i).filter fun j=>x.testBit j):=by
  rw[List.Nodup.erase_eq_filter MH,List.filter_filter];congr 1;funext j;by_cases q:j=i
  ·subst q; simp[h]
  ·simp[q]
 rw[e];have h1:=B4 (fun j=>x.testBit j) ((eF 64).erase i);rw[List.length_erase_of_mem (iG.2 hi),xn] at h1;omega
theorem agB {N i:Nat} {D B:List Nat} (h:Pck N (2 ^ i-1) D B) (hN:N<=64) (hi:i<N) {c:Nat} (hc:c<64):Pck N (2 ^ (i+1)-1) (D.set i c) (B.set c (B.getD c 0 ||| 2 ^ i)):=by
 have hp:2 ^ i<18446744073709551616:=oq (by decide) (by omega:i<64);have gB:∀d,(B.set c (B.getD c 0 ||| 2 ^ i)).getD d 0=if d=c then B.getD c 0 ||| 2 ^ i else B.getD d 0:=fun d=>nx _ _ _ _ (by rw[h.wK]; exact hc)
 have gD:∀j,(D.set i c).getD j 0=if j=i then c else D.getD j 0:=fun j=>nx _ _ _ _ (by rw[h.MR]; exact hi);refine⟨by rw[bG,h.MR],by rw[bG,h.wK],fun d=>?_,fun d j hd=>?_,fun j hj=>?_,fun v=>?_⟩
 ·rw[gB];split
  ·exact Nat.or_lt_two_pow (n:=64) (h.sm c) hp
  ·exact h.sm d
 ·rw[gB,gD,oZ];by_cases q:d=c
  ·subst q;rw[if_pos rfl,Nat.testBit_or,Nat.testBit_two_pow,h.bit d j hd,oZ];by_cases z:j=i
   ·subst z;rw[if_pos rfl]; simp
   ·rw[if_neg z];have z':¬i=j:=fun k=>z k.symm;have:decide (j<i+1)=decide (j<i):=by apply decide_eq_decide.2; omega
    rw[this];simp[z']
  ·rw[if_neg q,h.bit d j hd,oZ];by_cases z:j=i
   ·subst z;rw[if_pos rfl];have:¬c=d:=fun k=>q k.symm;simp[this]
   ·rw[if_neg z];have:decide (j<i+1)=decide (j<i):=by apply decide_eq_decide.2; omega
    rw[this]
 ·rw[oZ] at hj;have:=of_decide_eq_true hj;omega
 ·rw[gD];split
  ·exact hc
  ·exact h.deg v
def WQ (N:Int) (Y:List AV) (A D B:List Nat) (n i:Int) (J:Env):St:=⟨(2,.own 1 [])::(4,.list 1 (us A))::(5,.ptr 2 0)::(6,.own 1 (ints (ns D)))::(20,.list 1 (us A))::(21,.int .i64 n)::(22,.int .i64 i)::J,[tt N Y,tt N Y,some (us B)]⟩
theorem ae9 (N:Int) (Y:List AV) (A D B:List Nat) (hA:A.length<=64) (WG:Small A) (i:Nat) (hi:i<A.length) (lD:D.length=A.length) (lB:B.length=64) (sm:∀d,B.getD d 0<18446744073709551616) (hc:vl (A.getD i 0)<64):aY an 2 Tl (WQ N Y A D B A.length i [])=some (.normal,WQ N Y A (D.set i (vl (A.getD i 0))) (B.set (vl (A.getD i 0)) (B.getD (vl (A.getD i 0)) 0 ||| 2 ^ i)) A.length ((i+1:Nat):Int) []):=by
 have i1:(i:Int)<A.length:=by omega
 have wr:=dO (i:=i) (by omega);have hg:=wX WG i;have mc:=akc _ hg;have gA:∀q,(us A)[i]'q=.int .u64 (A.getD i 0:Nat):=fun q=>Vp A i hi q;have lA:=gq A;have lDD:(ints (ns D)).length=A.length:=by rw[ah,lY,lD]
 have sD:=(ad6 D i (vl (A.getD i 0))).symm;have lDD2:(ints (ns (D.set i (vl (A.getD i 0))))).length=A.length:=by rw[ah,lY,bG,lD]
 have gD2:∀h,(ints (ns (D.set i (vl (A.getD i 0)))))[i]'h=.int .i64 (vl (A.getD i 0):Nat):=fun h=>by
  rw[ad7 _ i (by rw[bG,lD]; exact hi),nx _ _ _ _ (by rw[lD]; exact hi),if_pos rfl]
 have mb:=Ek i (by omega);have hp:2 ^ i<18446744073709551616:=oq (by decide) (by omega:i<64);have a2:=u64_or_nat (B.getD (vl (A.getD i 0)) 0) (2 ^ i) (sm _) hp;obtain⟨c1,c2⟩:=EV B (vl (A.getD i 0)) (B.getD (vl (A.getD i 0)) 0 ||| 2 ^ i) (by omega);have n1:=Ep B;have lu:(us B).length=64:=by rw[gq,lB]
 obtain⟨x1,x2,x3,x4,x5,x6,_⟩:=BZ B;obtain⟨y1,y2,y3,y4,y5,y6,_⟩:=BZ (B.set (vl (A.getD i 0)) (B.getD (vl (A.getD i 0)) 0 ||| 2 ^ i));have e1:((vl (A.getD i 0):Nat):Int)<64:=by omega
 have e2:vl (A.getD i 0)<=63:=by omega
 unfold WQ tt;generalize B.getD (vl (A.getD i 0)) 0 ||| 2 ^ i=z1 at *
 generalize B.getD (vl (A.getD i 0)) 0=z2 at *;generalize us (B.set (vl (A.getD i 0)) z1)=U2 at *;generalize us B=U1 at *;generalize ints (ns (D.set i (vl (A.getD i 0))))=D2 at *;generalize ints (ns D)=D1 at *;clear hg sm hp;generalize vl (A.getD i 0)=c at *;generalize A.getD i 0=z5 at *;generalize us A=A1 at *;generalize 2 ^ i=p2 at *;unfold Tl;simp[xF,xE,xD,xC,xB,xA,xz,xy,xx,xw,rM,rL,rK,rJ,rI,rH,rG,rF,rE,rD,rC,rB,rA,rq,rn,rj,rh,rf,rb,q9,q8,q7,q6,i1,hi,wr,mc,gA,lA,lDD,lDD2,gD2,sD,mb,a2,c1,c2,n1,lu,e1,hc,e2,x1,x2,x3,x4,x6,y1,y2,y3,y4,y6,idx,aJ,IntKind.bits,sQE,iQE,sQa1,iQa1]
theorem aaU (N:Nat) (Y:List AV) (A:List Nat) (hN:N<=64) (hA:A.length=N) (WG:Small A) (hI:∀a,(A.getD a 0).testBit a=false):∀(c i:Nat) (D B:List Nat),i+c=N->Pck N (2 ^ i-1) D B->(∀j,j<i->D.getD j 0=vl (A.getD j 0))->∃D' B',Pck N (2 ^ N-1) D' B'/\(∀j,j<N->D'.getD j 0=vl (A.getD j 0))/\aY an 2 (.loop Tl) (WQ N Y A D B N i [])=some (.exit 0,WQ N Y A D' B' N N [(23,.bool false)])
 |0,i,D,B,hc,hP,hD=>by
   obtain rfl:i=N:=by omega
   refine⟨D,B,hP,hD,bt ?_⟩;obtain⟨x1,x2,x3,x4,x5,x6,_⟩:=BZ B;unfold WQ tt;generalize us B=U1 at *;generalize ints (ns D)=D1 at *;generalize us A=A1 at *;unfold Tl;simp[xF,xE,xD,xC,xB,xA,xz,xy,xx,xw,rM,rL,rK,rJ,rI,rH,rG,rF,rE,rD,rC,rB,rA,rq,rn,rj,rh,rf,rb,q9,q8,q7,q6,x1,x2,x3,x4,x6,aJ]
 |c+1,i,D,B,hc,hP,hD=>by
   have hi:i<N:=by omega
   have hcn:=agA (x:=A.getD i 0) (i:=i) (by omega) (hI i);have r:=ae9 N Y A D B (by omega) WG i (by omega) (by rw[hP.MR,hA]) hP.wK hP.sm hcn;rw[hA] at r
   obtain⟨D',B',h1,h2,h3⟩:=aaU N Y A hN hA WG hI c (i+1) _ _ (by omega) (agB hP hN hi hcn) fun j hj=>by
    rw[nx _ _ _ _ (by rw[hP.MR]; exact hi)];split
    ·rename_i e; rw[e]
    ·exact hD j (by omega)
   exact⟨D',B',h1,h2,(aV r).trans h3⟩
theorem adq {A:List Nat} {N:Nat} {D B:List Nat} (hN:N<=64) (hb:∀a j,(A.getD a 0).testBit j=true->j<N) (h:Pck N (2 ^ N-1) D B) (hD:∀j,j<N->D.getD j 0=vl (A.getD j 0)):Pst A N (2 ^ N-1) D B:=by
 have hp:2 ^ N<=2 ^ 64:=Nat.pow_le_pow_right (by decide) hN;refine⟨h,by have:(2:Nat) ^ 64=18446744073709551616:=rfl; have:=Q7 N; omega,fun j hj=>?_⟩;rw[oZ] at hj;rw[hD j (of_decide_eq_true hj)];unfold dgM;congr 1;apply jO;intro i;rw[bU,oZ];cases e:(A.getD j 0).testBit i with
 |false=>simp
 |true=>simp[hb j i e]
theorem adC (N:Nat):Pck N (2 ^ 0-1) (aW N 0) (aW 64 0):=by
 have g:∀n v,(aW n 0).getD v 0=0:=fun n v=>by rw[List.getD_eq_getElem?_getD,List.getElem?_replicate]; split<;>rfl
 refine⟨cV,cV,fun d=>by rw[g]; decide,fun d j hd=>?_,fun j hj=>?_,fun v=>by rw[g]; decide⟩
 ·rw[g,oZ]; simp
 ·rw[oZ] at hj; simp at hj
/- core.peel, core.Order, maxclique.Colours. -/
theorem ajc:us (aW 64 0)=[.int .u64 0,.int .u64 0,.int .u64 0,.int .u64 0,.int .u64 0,.int .u64 0,.int .u64 0,.int .u64 0,.int .u64 0,.int .u64 0,.int .u64 0,.int .u64 0,.int .u64 0,.int .u64 0,.int .u64 0,.int .u64 0,.int .u64 0,.int .u64 0,.int .u64 0,.int .u64 0,.int .u64 0,.int .u64 0,.int .u64 0,.int .u64 0,.int .u64 0,.int .u64 0,.int .u64 0,.int .u64 0,.int .u64 0,.int .u64 0,.int .u64 0,.int .u64 0,.int .u64 0,.int .u64 0,.int .u64 0,.int .u64 0,.int .u64 0,.int .u64 0,.int .u64 0,.int .u64 0,.int .u64 0,.int .u64 0,.int .u64 0,.int .u64 0,.int .u64 0,.int .u64 0,.int .u64 0,.int .u64 0,.int .u64 0,.int .u64 0,.int .u64 0,.int .u64 0,.int .u64 0,.int .u64 0,.int .u64 0,.int .u64 0,.int .u64 0,.int .u64 0,.int .u64 0,.int .u64 0,.int .u64 0,.int .u64 0,.int .u64 0,.int .u64 0]:=rfl
theorem s7 {N:Nat} {Es:List Ed} (h:tV (N:Int) Es):Im (eB N Es)/\(∀a,((eB N Es).getD a 0).testBit a=false)/\∀ a j,((eB N Es).getD a 0).testBit j=true->j<N:=by
 obtain⟨_,_,hb⟩:=lM h;refine⟨fun a b=>?_,fun a=>?_,fun a j hj=>?_⟩
 ·rw[hb,hb,Bool.or_comm]
 ·rw[hb];cases e:(decide (((a:Int),(a:Int))∈Es)||decide (((a:Int),(a:Int))∈Es)) with
  |false=>rfl
  |true=>
    simp only[Bool.or_self,decide_eq_true_eq] at e;have:=h.2.2 _ e;simp only at this;omega
 ·rw[hb] at hj;simp only[Bool.or_eq_true,decide_eq_true_eq] at hj;rcases hj with hj|hj<;>(have:=h.2.2 _ hj; simp only at this; omega)
theorem adz {A:List Nat} {N:Nat} (hN:N<=64) {o ds:List Nat} (h:Ao A (2 ^ N-1) o ds):o.length=N/\ds.length=N/\o.Nodup/\∀ j,j∈o ↔ j<N:=by
 have hp:2 ^ N<=2 ^ 64:=Nat.pow_le_pow_right (by decide) hN;obtain⟨a,b,c⟩:=Sk (by have:(2:Nat) ^ 64=18446744073709551616:=rfl; have:=Q7 N; omega) h;have hm:∀j,j∈o ↔ j<N:=fun j=>by rw[a,oZ]; simp
 have hp:o.Perm (eF N):=(List.perm_ext_iff_of_nodup b MH).2 fun j=>by rw[hm,iG]
 have hl:=hp.length_eq;rw[xn] at hl;exact⟨hl,by omega,b,hm⟩
theorem adx {N:Nat} {Es:List Ed} (hG:tV (N:Int) Es) (hE:Es.length<1000000) (h0:0<N):∃o ds,Ao (eB N Es) (2 ^ N-1) o ds/\bu an nQU [.agg [.int .i64 N,.list 2 (dA Es)]] [tt N (dA Es),tt N (dA Es)]=some (.dt [.sl 1 2 0 N,.sl 1 3 0 N],[tt N (dA Es),tt N (dA Es),some (ints (ns o)),some (ints (rS o ds 0 (aW N 0)))]):=by
 have hN:N<=64:=by have:=hG.1.2; omega
 obtain⟨hA,WG,_⟩:=lM hG;obtain⟨hS,hI,hb⟩:=s7 hG;obtain⟨D,B,f1,f2,f3⟩:=aaU N (dA Es) (eB N Es) hN hA WG hI N 0 _ _ (by omega) (adC N) (fun j hj=>by omega);have hP:=adq hN hb f1 f2
 have pc:vl (2 ^ N-1)<=64:=by
  unfold vl;have:=B4 (fun j=>(2 ^ N-1:Nat).testBit j) (eF 64)
  rwa [xn] at this
 obtain⟨o,ds,D',B',k',p1,p2⟩:=aj9 N (dA Es) (eB N Es) hN hS hI hA WG (2 ^ N-1) [] (aW N 0) D B 0 [] (.inl rfl) hP (by simpa using pc) cV;rw[List.nil_append] at p2;refine⟨o,ds,p1,?_⟩;obtain⟨ol,dl,_,_⟩:=adz hN p1;have rr:=Rs hG (by omega);have ma:=aen N hN;have lo:(ns o).length=N:=by rw[lY]; exact ol
 have ln:(rS o ds 0 (aW N 0)).length=N:=by rw[Kv,cV]
 have e1:aW N (AV.int .i64 0)=ints (aW N 0):=by simp[ints]
 have e2:ns (aW N 0)=aW N 0:=by simp[ns]
 have t1:(ints (ns o)).take N=ints (ns o):=aK (by rw[ah]; omega);have t2:(ints (rS o ds 0 (aW N 0))).take N=ints (rS o ds 0 (aW N 0)):=aK (by rw[ah]; omega);have l1:(ints (ns o)).length=N:=by rw[ah]; omega
 have l2:(ints (rS o ds 0 (aW N 0))).length=N:=by rw[ah]; omega
 have l3:=gq (eB N Es);have fl1:=lJ (ns o);have fl2:=lJ (rS o ds 0 (aW N 0));have nz:¬N=0:=by omega
 have nL:(N:Int)<=(lU:Int):=by unfold lU; omega
 unfold WQ at f3;unfold wC at p2;rw[ajc,e2,fU] at f3;simp only[dE,fU] at p2;obtain⟨x1,x2,x3,x4,x5,x6,_⟩:=BZ B;obtain⟨y1,y2,y3,y4,y5,y6,_⟩:=BZ B';rw[eO sQU (aB rfl)];unfold tt at *;generalize us B=U1 at *;generalize us B'=U2 at *;generalize ints (ns o)=O1 at *;generalize ints (rS o ds 0 (aW N 0))=L1 at *;generalize ints (aW N 0)=Z1 at *;generalize ints (ns D)=D1 at *;generalize ints (ns D')=D2 at *;rw[hA] at l3;generalize us (eB N Es)=A1 at *;generalize dA Es=Y at *;generalize 2 ^ N-1=m0 at *;clear hP f1 f2 p1 hG hS hI hb;unfold qQU cQU;simp[xF,xE,xD,xC,xB,xA,xz,xy,xx,xw,rM,rL,rK,rJ,rI,rH,rG,rF,rE,rD,rC,rB,rA,rq,rn,rj,rh,rf,rb,q9,q8,q7,q6,rr,ma,f3,p2,e1,t1,t2,l1,l2,l3,fl1,fl2,nz,nL,x1,x2,x3,x4,x6,y1,y2,y3,y4,y6,el,finX,vW,Mz,bI,bM,aJ,jR,eZ,qS,kg,eJ,pE,gW,ga,sQ2,iQ2,sQa2,iQa2]
/- What a run asks of a box of ints; slices.Reverse of ints. -/
theorem nat1:((1:Nat):Int)=1:=rfl
structure Lf (D:List AV):Prop where
 bo:dn D=[]
 ow:bT D=false
 mp:∀g,dc g D=D
 pl:dq D=true
 pt:iy D=[]
 np:∀b,lk b D=true
 av:nJ D D=true
 pp:eZ D=true
 fz:E8 D=true
 fl:aA D=D
 fr:BW D=some D
theorem bj (l:List Int):Lf (ints l):=by
 induction l with
 |nil=>exact⟨rfl,rfl,fun _=>rfl,rfl,rfl,fun _=>rfl,rfl,rfl,rfl,rfl,rfl⟩
 |cons x r ih=>
   refine⟨?_,?_,fun g=>?_,?_,?_,fun b=>?_,?_,?_,?_,lJ _,?_⟩
   ·exact ih.bo
   ·exact ih.ow
   ·show AV.int .i64 x::dc g (ints r)=_;rw[ih.mp]; rfl
   ·exact ih.pl
   ·exact ih.pt
   ·exact ih.np b
   ·show (decide _&&nJ (ints r) (ints r))=true;rw[ih.av]; simp
   ·exact ih.pp
   ·exact ih.fz
   ·show (match WT (.int .i64 x),BW (ints r) with|some y,some ys=>some (y::ys)|_,_=>none)=_;rw[ih.fr]; rfl
end Go.BmP
