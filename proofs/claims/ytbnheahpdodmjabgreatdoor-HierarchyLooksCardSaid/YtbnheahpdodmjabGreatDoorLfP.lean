/- core.peel: the nodes one after the other; the buckets at the start. -/
import Derived.Test.YtbnheahpdodmjabGreatDoorPeB
import Derived.Test.YtbnheahpdodmjabGreatDoorRvG
set_option linter.unusedSimpArgs false
set_option linter.unusedVariables false
set_option maxRecDepth 100000
set_option maxHeartbeats 8000000
open List renaming length_filter_le → Cg, length_range → xS, length_replicate → cY, length_set → cF, mem_range → iP, nodup_range → NG, range → eP, replicate → bh, take_of_length_le → aT
open Nat renaming eq_of_testBit_eq → jY, le_of_ble_eq_true → au, pow_lt_pow_right → oU, testBit_and → bW, two_pow_pos → SK
namespace Go.BmP
open Go.Am Go.Bm
theorem ah6 (m:Nat) (h:m<18446744073709551616):bJ aq T6 [.int .u64 m] []=some (.int .i64 (vK m:Nat),[]):=by
 rw[afl];have:=ahZ m h;rw[show pcE (m:Int)=pxE (m:Int) from rfl,this]
theorem alM (m:Nat) (h:m<18446744073709551616):bJ aq XD [.int .u64 m] []=some (.int .i64 (vK m:Nat),[]):=by
 have o:=ah6 m h;rw[dZ sQa9 (au rfl)];generalize ((vK m:Nat):Int)=p at *;generalize (m:Int)=x at *;unfold qQa9 cQa9;simp[aeK,aeJ,o,aH,bL,bC,sQb8,iQb8]
def jk9 (J:Env):Prop:=J=[]\/∃ W:List Nat,J=[(90,.list 1 (ints (ns W))),(91,.int .i64 W.length),(92,.int .i64 W.length),(93,.bool false)]
theorem alL (N:Int) (Y:List AV) (O L:List Int) (A D B:List Nat) (k:Int) (J:Env) (hJ:jk9 J):aW aq 2 HZ (xg N Y O L A D B 0 k J)=some (.exit 2,xg N Y O L A D B 0 k [(50,.bool false)]):=by
 obtain⟨x1,x2,x3,x4,x5,x6,_⟩:=Cd B;unfold xg uh;rw[fH];generalize us B=U1 at *;generalize ints (ns D)=D1 at *;generalize ints O=O1 at *;generalize ints L=L1 at *;generalize us A=A1 at *;rcases hJ with rfl|⟨W,rfl⟩
 ·unfold HZ;simp[yE,yD,yC,yB,yA,yz,yy,yx,yw,yu,sJ,sI,sG,sF,sE,sC,sB,sy,sx,ss,sr,sk,sj,si,sg,sd,sa,rZ,rY,rX,rW,rV,rU,x1,x2,x3,x4,x6,aH]
 ·generalize ints (ns W)=W1 at *;unfold HZ;simp[yE,yD,yC,yB,yA,yz,yy,yx,yw,yu,sJ,sI,sG,sF,sE,sC,sB,sy,sx,ss,sr,sk,sj,si,sg,sd,sa,rZ,rY,rX,rW,rV,rU,x1,x2,x3,x4,x6,aH]
theorem ah7 (N:Int) (Y:List AV) (O L O' L':List Int) (A D B D' B':List Nat) (k k':Int) (m m':Nat) (h0:m≠0) (W:List Nat) (J:Env) (hJ:jk9 J) (h:aW aq 2 (.loop Me) (xg N Y O L A D B m k [(51,.int .i64 0)])=some (.exit 3,xg N Y O' L' A D' B' m' k' [(90,.list 1 (ints (ns W))),(91,.int .i64 W.length),(92,.int .i64 W.length),(93,.bool false)])):aW aq 2 HZ (xg N Y O L A D B m k J)=some (.normal,xg N Y O' L' A D' B' m' k' [(90,.list 1 (ints (ns W))),(91,.int .i64 W.length),(92,.int .i64 W.length),(93,.bool false)]):=by
 have m0:¬((m:Int)=0):=by omega
 obtain⟨x1,x2,x3,x4,x5,x6,_⟩:=Cd B;unfold xg uh at *;generalize us B'=U2 at *;generalize us B=U1 at *;generalize ints (ns D')=D2 at *;generalize ints (ns D)=D1 at *;generalize ints O'=O2 at *;generalize ints O=O1 at *;generalize ints L'=L2 at *;generalize ints L=L1 at *;generalize us A=A1 at *;generalize (m:Int)=X at *;rcases hJ with rfl|⟨V,rfl⟩
 ·generalize ints (ns W)=W1 at *;unfold HZ;simp[yE,yD,yC,yB,yA,yz,yy,yx,yw,yu,sJ,sI,sG,sF,sE,sC,sB,sy,sx,ss,sr,sk,sj,si,sg,sd,sa,rZ,rY,rX,rW,rV,rU,h,m0,h0,x1,x2,x3,x4,x6,aH]
 ·generalize ints (ns W)=W1 at *;generalize ints (ns V)=V1 at *;unfold HZ;simp[yE,yD,yC,yB,yA,yz,yy,yx,yw,yu,sJ,sI,sG,sF,sE,sC,sB,sy,sx,ss,sr,sk,sj,si,sg,sd,sa,rZ,rY,rX,rW,rV,rU,h,m0,h0,x1,x2,x3,x4,x6,aH]
theorem Lh:∀(o ds:List Nat) (k:Nat) (L:List Int),(sK o ds k L).length=L.length
 |[],_,_,_=>by unfold sK; rfl
 |v::o,[],_,_=>by unfold sK; rfl
 |v::o,d::ds,k,L=>by unfold sK; rw[Lh,cF]
theorem alJ (N:Nat) (Y:List AV) (A:List Nat) (hN:N<=64) (hS:GK A) (hI:∀a,(A.getD a 0).testBit a=false) (hA:A.length=N) (Ya:Small A):∀(m:Nat) (O L:List Int) (D B:List Nat) (k:Nat) (J:Env),jk9 J->Pst A N m D B->O.length+vK m<=64->L.length=N ->
  ∃ (o ds D' B':List Nat) (k':Nat),AO A m o ds/\aW aq 2 (.loop HZ) (xg N Y O L A D B m k J)=some (.exit 2,xg N Y (O++ns o) (sK o ds k L) A D' B' 0 (k':Int) [(50,.bool false)]):=by
 intro m
 induction m using Nat.strongRecOn with
 |ind m ih=>
   intro O L D B k J hJ hP hO hL;by_cases h0:m=0
   ·subst h0;refine⟨[],[],D,B,k,.nil,?_⟩;have:O++ns []=O:=by simp[ns]
    rw[this];exact bn (alL N Y O L A D B k J hJ)
   ·obtain⟨d,d1,d2,d3⟩:=acV hP hN h0;obtain⟨hp,vN,_⟩:=TN hP hN d1 d2 d3;have pc:=afd (m:=m) (a:=m) hP.lt hp.1;rw[if_pos ⟨hp.2.1,hp.2.1⟩,Nat.and_self] at pc
    have e1:wo m (tz (B.getD d 0)) &&& m=wo m (tz (B.getD d 0)):=by
     apply jY;intro j;rw[bW,mA hP.lt hp.1];cases m.testBit j<;>simp
    rw[e1] at pc;have pp:=Rb hp.1 hp.2.1;obtain⟨D',B',W,s1,s2⟩:=aa3 N Y O L A D B hN m hS hI hA Ya hP k d d1 d2 d3 (by omega) hL d 0 (by omega);obtain⟨o,ds,D2,B2,k2,r1,r2⟩:=ih (wo m (tz (B.getD d 0))) (anj hP.lt hp.1 hp.2.1) (O++[((tz (B.getD d 0):Nat):Int)]) (L.set (tz (B.getD d 0)) ((max k d:Nat):Int)) D' B' (max k d) _ (.inr ⟨W,rfl⟩) s1 (by rw[List.length_append,List.length_singleton]; omega) (by rw[cF,hL]);refine⟨tz (B.getD d 0)::o,d::ds,D2,B2,k2,.cons hp r1,?_⟩;have e2:O++ns (tz (B.getD d 0)::o)=O++[((tz (B.getD d 0):Nat):Int)]++ns o:=by simp[ns]
    rw[e2];exact (aS (ah7 N Y O L _ _ A D B D' B' k _ m _ h0 W J hJ s2)).trans r2
/-! The start -/
theorem pO (n j:Nat):(2 ^ n-1).testBit j=decide (j<n):=Nat.testBit_two_pow_sub_one n j
theorem ah8 {x i:Nat} (hi:i<64) (h:x.testBit i=false):vK x<64:=by
 unfold vK
 have e:((eP 64).filter fun j=>x.testBit j)=(((eP 64).erase i).filter fun j=>x.testBit j):=by
  rw[List.Nodup.erase_eq_filter NG,List.filter_filter];congr 1;funext j;by_cases q:j=i
  ·subst q; simp[h]
  ·simp[q]
 rw[e];have h1:=Cg (fun j=>x.testBit j) ((eP 64).erase i);rw[List.length_erase_of_mem (iP.2 hi),xS] at h1;omega
theorem ah9 {N i:Nat} {D B:List Nat} (h:Si N (2 ^ i-1) D B) (hN:N<=64) (hi:i<N) {c:Nat} (hc:c<64):Si N (2 ^ (i+1)-1) (D.set i c) (B.set c (B.getD c 0 ||| 2 ^ i)):=by
 have hp:2 ^ i<18446744073709551616:=oU (by decide) (by omega:i<64);have gB:∀d,(B.set c (B.getD c 0 ||| 2 ^ i)).getD d 0=if d=c then B.getD c 0 ||| 2 ^ i else B.getD d 0:=fun d=>nH _ _ _ _ (by rw[h.xq]; exact hc)
 have gD:∀j,(D.set i c).getD j 0=if j=i then c else D.getD j 0:=fun j=>nH _ _ _ _ (by rw[h.NR]; exact hi);refine⟨by rw[cF,h.NR],by rw[cF,h.xq],fun d=>?_,fun d j hd=>?_,fun j hj=>?_,fun v=>?_⟩
 ·rw[gB];split
  ·exact Nat.or_lt_two_pow (n:=64) (h.sm c) hp
  ·exact h.sm d
 ·rw[gB,gD,pO];by_cases q:d=c
  ·subst q;rw[if_pos rfl,Nat.testBit_or,Nat.testBit_two_pow,h.bit d j hd,pO];by_cases z:j=i
   ·subst z;rw[if_pos rfl]; simp
   ·rw[if_neg z];have z':¬i=j:=fun k=>z k.symm;have:decide (j<i+1)=decide (j<i):=by apply decide_eq_decide.2; omega
    rw[this];simp[z']
  ·rw[if_neg q,h.bit d j hd,pO];by_cases z:j=i
   ·subst z;rw[if_pos rfl];have:¬c=d:=fun k=>q k.symm;simp[this]
   ·rw[if_neg z];have:decide (j<i+1)=decide (j<i):=by apply decide_eq_decide.2; omega
    rw[this]
 ·rw[pO] at hj;have:=of_decide_eq_true hj;omega
 ·rw[gD];split
  ·exact hc
  ·exact h.deg v
def Yj (N:Int) (Y:List AV) (A D B:List Nat) (n i:Int) (J:Env):St:=⟨(2,.own 1 [])::(4,.list 1 (us A))::(5,.ptr 2 0)::(6,.own 1 (ints (ns D)))::(20,.list 1 (us A))::(21,.int .i64 n)::(22,.int .i64 i)::J,[uh N Y,uh N Y,some (us B)]⟩
theorem agK (N:Int) (Y:List AV) (A D B:List Nat) (hA:A.length<=64) (Ya:Small A) (i:Nat) (hi:i<A.length) (lD:D.length=A.length) (lB:B.length=64) (sm:∀d,B.getD d 0<18446744073709551616) (hc:vK (A.getD i 0)<64):aW aq 2 UX (Yj N Y A D B A.length i [])=some (.normal,Yj N Y A (D.set i (vK (A.getD i 0))) (B.set (vK (A.getD i 0)) (B.getD (vK (A.getD i 0)) 0 ||| 2 ^ i)) A.length ((i+1:Nat):Int) []):=by
 have i1:(i:Int)<A.length:=by omega
 have wr:=dA (i:=i) (by omega);have hg:=xF Ya i;have mc:=alM _ hg;have gA:∀q,(us A)[i]'q=.int .u64 (A.getD i 0:Nat):=fun q=>WK A i hi q;have lA:=gL A;have lDD:(ints (ns D)).length=A.length:=by rw[ah,l7,lD]
 have sD:=(afD D i (vK (A.getD i 0))).symm;have lDD2:(ints (ns (D.set i (vK (A.getD i 0))))).length=A.length:=by rw[ah,l7,cF,lD]
 have gD2:∀h,(ints (ns (D.set i (vK (A.getD i 0)))))[i]'h=.int .i64 (vK (A.getD i 0):Nat):=fun h=>by
  rw[afE _ i (by rw[cF,lD]; exact hi),nH _ _ _ _ (by rw[lD]; exact hi),if_pos rfl]
 have mb:=EV i (by omega);have hp:2 ^ i<18446744073709551616:=oU (by decide) (by omega:i<64);have a2:=u64_or_nat (B.getD (vK (A.getD i 0)) 0) (2 ^ i) (sm _) hp;obtain⟨c1,c2⟩:=Fx B (vK (A.getD i 0)) (B.getD (vK (A.getD i 0)) 0 ||| 2 ^ i) (by omega);have n1:=E3 B;have lu:(us B).length=64:=by rw[gL,lB]
 obtain⟨x1,x2,x3,x4,x5,x6,_⟩:=Cd B;obtain⟨y1,y2,y3,y4,y5,y6,_⟩:=Cd (B.set (vK (A.getD i 0)) (B.getD (vK (A.getD i 0)) 0 ||| 2 ^ i));have e1:((vK (A.getD i 0):Nat):Int)<64:=by omega
 have e2:vK (A.getD i 0)<=63:=by omega
 unfold Yj uh;generalize B.getD (vK (A.getD i 0)) 0 ||| 2 ^ i=z1 at *
 generalize B.getD (vK (A.getD i 0)) 0=z2 at *;generalize us (B.set (vK (A.getD i 0)) z1)=U2 at *;generalize us B=U1 at *;generalize ints (ns (D.set i (vK (A.getD i 0))))=D2 at *;generalize ints (ns D)=D1 at *;clear hg sm hp;generalize vK (A.getD i 0)=c at *;generalize A.getD i 0=z5 at *;generalize us A=A1 at *;generalize 2 ^ i=p2 at *;unfold UX;simp[yE,yD,yC,yB,yA,yz,yy,yx,yw,yu,sJ,sI,sG,sF,sE,sC,sB,sy,sx,ss,sr,sk,sj,si,sg,sd,sa,rZ,rY,rX,rW,rV,rU,i1,hi,wr,mc,gA,lA,lDD,lDD2,gD2,sD,mb,a2,c1,c2,n1,lu,e1,hc,e2,x1,x2,x3,x4,x6,y1,y2,y3,y4,y6,idx,aH,IntKind.bits,sQM,iQM,sQa9,iQa9]
theorem ab9 (N:Nat) (Y:List AV) (A:List Nat) (hN:N<=64) (hA:A.length=N) (Ya:Small A) (hI:∀a,(A.getD a 0).testBit a=false):∀(c i:Nat) (D B:List Nat),i+c=N->Si N (2 ^ i-1) D B->(∀j,j<i->D.getD j 0=vK (A.getD j 0))->∃D' B',Si N (2 ^ N-1) D' B'/\(∀j,j<N->D'.getD j 0=vK (A.getD j 0))/\aW aq 2 (.loop UX) (Yj N Y A D B N i [])=some (.exit 0,Yj N Y A D' B' N N [(23,.bool false)])
 |0,i,D,B,hc,hP,hD=>by
   obtain rfl:i=N:=by omega
   refine⟨D,B,hP,hD,bn ?_⟩;obtain⟨x1,x2,x3,x4,x5,x6,_⟩:=Cd B;unfold Yj uh;generalize us B=U1 at *;generalize ints (ns D)=D1 at *;generalize us A=A1 at *;unfold UX;simp[yE,yD,yC,yB,yA,yz,yy,yx,yw,yu,sJ,sI,sG,sF,sE,sC,sB,sy,sx,ss,sr,sk,sj,si,sg,sd,sa,rZ,rY,rX,rW,rV,rU,x1,x2,x3,x4,x6,aH]
 |c+1,i,D,B,hc,hP,hD=>by
   have hi:i<N:=by omega
   have hcn:=ah8 (x:=A.getD i 0) (i:=i) (by omega) (hI i);have r:=agK N Y A D B (by omega) Ya i (by omega) (by rw[hP.NR,hA]) hP.xq hP.sm hcn;rw[hA] at r
   obtain⟨D',B',h1,h2,h3⟩:=ab9 N Y A hN hA Ya hI c (i+1) _ _ (by omega) (ah9 hP hN hi hcn) fun j hj=>by
    rw[nH _ _ _ _ (by rw[hP.NR]; exact hi)];split
    ·rename_i e; rw[e]
    ·exact hD j (by omega)
   exact⟨D',B',h1,h2,(aS r).trans h3⟩
theorem ae4 {A:List Nat} {N:Nat} {D B:List Nat} (hN:N<=64) (hb:∀a j,(A.getD a 0).testBit j=true->j<N) (h:Si N (2 ^ N-1) D B) (hD:∀j,j<N->D.getD j 0=vK (A.getD j 0)):Pst A N (2 ^ N-1) D B:=by
 have hp:2 ^ N<=2 ^ 64:=Nat.pow_le_pow_right (by decide) hN;refine⟨h,by have:(2:Nat) ^ 64=18446744073709551616:=rfl; have:=SK N; omega,fun j hj=>?_⟩;rw[pO] at hj;rw[hD j (of_decide_eq_true hj)];unfold dgM;congr 1;apply jY;intro i;rw[bW,pO];cases e:(A.getD j 0).testBit i with
 |false=>simp
 |true=>simp[hb j i e]
theorem afe (N:Nat):Si N (2 ^ 0-1) (bh N 0) (bh 64 0):=by
 have g:∀n v,(bh n 0).getD v 0=0:=fun n v=>by rw[List.getD_eq_getElem?_getD,List.getElem?_replicate]; split<;>rfl
 refine⟨cY,cY,fun d=>by rw[g]; decide,fun d j hd=>?_,fun j hj=>?_,fun v=>by rw[g]; decide⟩
 ·rw[g,pO]; simp
 ·rw[pO] at hj; simp at hj
/- core.peel, core.Order, maxclique.Colours. -/
theorem akS:us (bh 64 0)=[.int .u64 0,.int .u64 0,.int .u64 0,.int .u64 0,.int .u64 0,.int .u64 0,.int .u64 0,.int .u64 0,.int .u64 0,.int .u64 0,.int .u64 0,.int .u64 0,.int .u64 0,.int .u64 0,.int .u64 0,.int .u64 0,.int .u64 0,.int .u64 0,.int .u64 0,.int .u64 0,.int .u64 0,.int .u64 0,.int .u64 0,.int .u64 0,.int .u64 0,.int .u64 0,.int .u64 0,.int .u64 0,.int .u64 0,.int .u64 0,.int .u64 0,.int .u64 0,.int .u64 0,.int .u64 0,.int .u64 0,.int .u64 0,.int .u64 0,.int .u64 0,.int .u64 0,.int .u64 0,.int .u64 0,.int .u64 0,.int .u64 0,.int .u64 0,.int .u64 0,.int .u64 0,.int .u64 0,.int .u64 0,.int .u64 0,.int .u64 0,.int .u64 0,.int .u64 0,.int .u64 0,.int .u64 0,.int .u64 0,.int .u64 0,.int .u64 0,.int .u64 0,.int .u64 0,.int .u64 0,.int .u64 0,.int .u64 0,.int .u64 0,.int .u64 0]:=rfl
theorem tH {N:Nat} {Es:List Ed} (h:uQ (N:Int) Es):GK (eK N Es)/\(∀a,((eK N Es).getD a 0).testBit a=false)/\∀ a j,((eK N Es).getD a 0).testBit j=true->j<N:=by
 obtain⟨_,_,hb⟩:=lV h;refine⟨fun a b=>?_,fun a=>?_,fun a j hj=>?_⟩
 ·rw[hb,hb,Bool.or_comm]
 ·rw[hb];cases e:(decide (((a:Int),(a:Int))∈Es)||decide (((a:Int),(a:Int))∈Es)) with
  |false=>rfl
  |true=>
    simp only[Bool.or_self,decide_eq_true_eq] at e;have:=h.2.2 _ e;simp only at this;omega
 ·rw[hb] at hj;simp only[Bool.or_eq_true,decide_eq_true_eq] at hj;rcases hj with hj|hj<;>(have:=h.2.2 _ hj; simp only at this; omega)
theorem afb {A:List Nat} {N:Nat} (hN:N<=64) {o ds:List Nat} (h:AO A (2 ^ N-1) o ds):o.length=N/\ds.length=N/\o.Nodup/\∀ j,j∈o ↔ j<N:=by
 have hp:2 ^ N<=2 ^ 64:=Nat.pow_le_pow_right (by decide) hN;obtain⟨a,b,c⟩:=TP (by have:(2:Nat) ^ 64=18446744073709551616:=rfl; have:=SK N; omega) h;have hm:∀j,j∈o ↔ j<N:=fun j=>by rw[a,pO]; simp
 have hp:o.Perm (eP N):=(List.perm_ext_iff_of_nodup b NG).2 fun j=>by rw[hm,iP]
 have hl:=hp.length_eq;rw[xS] at hl;exact⟨hl,by omega,b,hm⟩
theorem afa {N:Nat} {Es:List Ed} (hG:uQ (N:Int) Es) (hE:Es.length<1000000) (h0:0<N):∃o ds,AO (eK N Es) (2 ^ N-1) o ds/\bJ aq nQ0 [.agg [.int .i64 N,.list 2 (fe Es)]] [uh N (fe Es),uh N (fe Es)]=some (.dR [.sl 1 2 0 N,.sl 1 3 0 N],[uh N (fe Es),uh N (fe Es),some (ints (ns o)),some (ints (sK o ds 0 (bh N 0)))]):=by
 have hN:N<=64:=by have:=hG.1.2; omega
 obtain⟨hA,Ya,_⟩:=lV hG;obtain⟨hS,hI,hb⟩:=tH hG;obtain⟨D,B,f1,f2,f3⟩:=ab9 N (fe Es) (eK N Es) hN hA Ya hI N 0 _ _ (by omega) (afe N) (fun j hj=>by omega);have hP:=ae4 hN hb f1 f2
 have pc:vK (2 ^ N-1)<=64:=by
  unfold vK;have:=Cg (fun j=>(2 ^ N-1:Nat).testBit j) (eP 64)
  rwa [xS] at this
 obtain⟨o,ds,D',B',k',p1,p2⟩:=alJ N (fe Es) (eK N Es) hN hS hI hA Ya (2 ^ N-1) [] (bh N 0) D B 0 [] (.inl rfl) hP (by simpa using pc) cY;rw[List.nil_append] at p2;refine⟨o,ds,p1,?_⟩;obtain⟨ol,dl,_,_⟩:=afb hN p1;have rr:=Tb hG (by omega);have ma:=afU N hN;have lo:(ns o).length=N:=by rw[l7]; exact ol
 have ln:(sK o ds 0 (bh N 0)).length=N:=by rw[Lh,cY]
 have e1:bh N (AV.int .i64 0)=ints (bh N 0):=by simp[ints]
 have e2:ns (bh N 0)=bh N 0:=by simp[ns]
 have t1:(ints (ns o)).take N=ints (ns o):=aT (by rw[ah]; omega);have t2:(ints (sK o ds 0 (bh N 0))).take N=ints (sK o ds 0 (bh N 0)):=aT (by rw[ah]; omega);have l1:(ints (ns o)).length=N:=by rw[ah]; omega
 have l2:(ints (sK o ds 0 (bh N 0))).length=N:=by rw[ah]; omega
 have l3:=gL (eK N Es);have fl1:=lT (ns o);have fl2:=lT (sK o ds 0 (bh N 0));have nz:¬N=0:=by omega
 have nL:(N:Int)<=(ks:Int):=by unfold ks; omega
 unfold Yj at f3;unfold xg at p2;rw[akS,e2,fH] at f3;simp only[dT,fH] at p2;obtain⟨x1,x2,x3,x4,x5,x6,_⟩:=Cd B;obtain⟨y1,y2,y3,y4,y5,y6,_⟩:=Cd B';rw[dZ sQ0 (au rfl)];unfold uh at *;generalize us B=U1 at *;generalize us B'=U2 at *;generalize ints (ns o)=O1 at *;generalize ints (sK o ds 0 (bh N 0))=L1 at *;generalize ints (bh N 0)=Z1 at *;generalize ints (ns D)=D1 at *;generalize ints (ns D')=D2 at *;rw[hA] at l3;generalize us (eK N Es)=A1 at *;generalize fe Es=Y at *;generalize 2 ^ N-1=m0 at *;clear hP f1 f2 p1 hG hS hI hb;unfold qQ0 cQ0;simp[yE,yD,yC,yB,yA,yz,yy,yx,yw,yu,sJ,sI,sG,sF,sE,sC,sB,sy,sx,ss,sr,sk,sj,si,sg,sd,sa,rZ,rY,rX,rW,rV,rU,rr,ma,f3,p2,e1,t1,t2,l1,l2,l3,fl1,fl2,nz,nL,x1,x2,x3,x4,x6,y1,y2,y3,y4,y6,el,finX,wJ,Nw,bC,bL,aH,fW,dm,jC,fx,cN,jD,dn,de,sQ8,iQ8,sQb0,iQb0]
/- What a run asks of a box of ints; slices.Reverse of ints. -/
theorem nat1:((1:Nat):Int)=1:=rfl
structure Lf (D:List AV):Prop where
 bo:dz D=[]
 ow:bS D=false
 mp:∀g,dp g D=D
 pl:dc D=true
 pt:dJ D=[]
 np:∀b,lH b D=true
 av:fI D D=true
 pp:dm D=true
 fz:FG D=true
 fl:aC D=D
 fr:Ca D=some D
theorem bg (l:List Int):Lf (ints l):=by
 induction l with
 |nil=>exact⟨rfl,rfl,fun _=>rfl,rfl,rfl,fun _=>rfl,rfl,rfl,rfl,rfl,rfl⟩
 |cons x r ih=>
   refine⟨?_,?_,fun g=>?_,?_,?_,fun b=>?_,?_,?_,?_,lT _,?_⟩
   ·exact ih.bo
   ·exact ih.ow
   ·show AV.int .i64 x::dp g (ints r)=_;rw[ih.mp]; rfl
   ·exact ih.pl
   ·exact ih.pt
   ·exact ih.np b
   ·show (decide _&&fI (ints r) (ints r))=true;rw[ih.av]; simp
   ·exact ih.pp
   ·exact ih.fz
   ·show (match Ym (.int .i64 x),Ca (ints r) with|some y,some ys=>some (y::ys)|_,_=>none)=_;rw[ih.fr]; rfl
end Go.BmP
