/- core.peel: the nodes one after the other; the buckets at the start. -/
import Derived.Test.YtpimmjklbakckaaGreatDoorPeB
import Derived.Test.YtpimmjklbakckaaGreatDoorRvG
set_option linter.unusedSimpArgs false
set_option linter.unusedVariables false
set_option maxRecDepth 100000
set_option maxHeartbeats 8000000
open List renaming length_filter_le → Pu, length_range → CH, length_replicate → cu, length_set → cF, mem_range → iv, nodup_range → HJ, range → dL, replicate → aT, take_of_length_le → dt
open Nat renaming eq_of_testBit_eq → BH, le_of_ble_eq_true → aF, pow_le_pow_right → UW, pow_lt_pow_right → lP, testBit_and → bS, two_pow_pos → LI
namespace Go.BmP
open Go.Am Go.Bm
theorem aa5 (m:Nat) (h:m<18446744073709551616):bU aC nQ2 [.int .u64 m] []=some (.int .i64 (s7 m:Nat),[]):=by
 rw[Yo];have:=aaY m h;rw[show pcE (m:Int)=pxE (m:Int) from rfl,this]
theorem aeJ (m:Nat) (h:m<18446744073709551616):bU aC nQT [.int .u64 m] []=some (.int .i64 (s7 m:Nat),[]):=by
 have o:=aa5 m h;rw[fK sQT (aF rfl)];generalize ((s7 m:Nat):Int)=p at *;generalize (m:Int)=x at *;unfold qQT cQT;simp[adj,adi,o,aJ,cc,bR,sQ2,iQ2]
def jk9 (J:Env):Prop:=J=[]\/∃ W:List Nat,J=[(90,.list 1 (ints (ns W))),(91,.int .i64 W.length),(92,.int .i64 W.length),(93,.bool false)]
theorem aeI (N:Int) (Y:List AV) (O L:List Int) (A D B:List Nat) (k:Int) (J:Env) (hJ:jk9 J):bg aC 2 Dt (tW N Y O L A D B 0 k J)=some (.exit 2,tW N Y O L A D B 0 k [(50,.bool false)]):=by
 obtain⟨x1,x2,x3,x4,x5,x6,_⟩:=yY B;unfold tW my;rw[jJ];generalize us B=U1 at *;generalize ints (ns D)=D1 at *;generalize ints O=O1 at *;generalize ints L=L1 at *;generalize us A=A1 at *;rcases hJ with rfl|⟨W,rfl⟩
 ·unfold Dt;simp[vh,vf,ve,vd,vc,u9,u7,u6,u5,u4,qB,qA,qz,qx,qw,qv,qu,qt,qq,qp,qo,ql,qk,qj,qi,qh,qg,qf,qe,qd,qc,qb,qa,x1,x2,x3,x4,x6,aJ]
 ·generalize ints (ns W)=W1 at *;unfold Dt;simp[vh,vf,ve,vd,vc,u9,u7,u6,u5,u4,qB,qA,qz,qx,qw,qv,qu,qt,qq,qp,qo,ql,qk,qj,qi,qh,qg,qf,qe,qd,qc,qb,qa,x1,x2,x3,x4,x6,aJ]
theorem aa6 (N:Int) (Y:List AV) (O L O' L':List Int) (A D B D' B':List Nat) (k k':Int) (m m':Nat) (h0:m≠0) (W:List Nat) (J:Env) (hJ:jk9 J) (h:bg aC 2 (.loop Gt) (tW N Y O L A D B m k [(51,.int .i64 0)])=some (.exit 3,tW N Y O' L' A D' B' m' k' [(90,.list 1 (ints (ns W))),(91,.int .i64 W.length),(92,.int .i64 W.length),(93,.bool false)])):bg aC 2 Dt (tW N Y O L A D B m k J)=some (.normal,tW N Y O' L' A D' B' m' k' [(90,.list 1 (ints (ns W))),(91,.int .i64 W.length),(92,.int .i64 W.length),(93,.bool false)]):=by
 have m0:¬((m:Int)=0):=by omega
 obtain⟨x1,x2,x3,x4,x5,x6,_⟩:=yY B;unfold tW my at *;generalize us B'=U2 at *;generalize us B=U1 at *;generalize ints (ns D')=D2 at *;generalize ints (ns D)=D1 at *;generalize ints O'=O2 at *;generalize ints O=O1 at *;generalize ints L'=L2 at *;generalize ints L=L1 at *;generalize us A=A1 at *;generalize (m:Int)=X at *;rcases hJ with rfl|⟨V,rfl⟩
 ·generalize ints (ns W)=W1 at *;unfold Dt;simp[vh,vf,ve,vd,vc,u9,u7,u6,u5,u4,qB,qA,qz,qx,qw,qv,qu,qt,qq,qp,qo,ql,qk,qj,qi,qh,qg,qf,qe,qd,qc,qb,qa,h,m0,h0,x1,x2,x3,x4,x6,aJ]
 ·generalize ints (ns W)=W1 at *;generalize ints (ns V)=V1 at *;unfold Dt;simp[vh,vf,ve,vd,vc,u9,u7,u6,u5,u4,qB,qA,qz,qx,qw,qv,qu,qt,qq,qp,qo,ql,qk,qj,qi,qh,qg,qf,qe,qd,qc,qb,qa,h,m0,h0,x1,x2,x3,x4,x6,aJ]
theorem FP:∀(o ds:List Nat) (k:Nat) (L:List Int),(qE o ds k L).length=L.length
 |[],_,_,_=>by unfold qE; rfl
 |v::o,[],_,_=>by unfold qE; rfl
 |v::o,d::ds,k,L=>by unfold qE; rw[FP,cF]
theorem aeG (N:Nat) (Y:List AV) (A:List Nat) (hN:N<=64) (hS:D3 A) (hI:∀a,(A.getD a 0).testBit a=false) (hA:A.length=N) (QF:Small A):∀(m:Nat) (O L:List Int) (D B:List Nat) (k:Nat) (J:Env),jk9 J->Pst A N m D B->O.length+s7 m<=64->L.length=N ->
  ∃ (o ds D' B':List Nat) (k':Nat),xw A m o ds/\bg aC 2 (.loop Dt) (tW N Y O L A D B m k J)=some (.exit 2,tW N Y (O++ns o) (qE o ds k L) A D' B' 0 (k':Int) [(50,.bool false)]):=by
 intro m
 induction m using Nat.strongRecOn with
 |ind m ih=>
   intro O L D B k J hJ hP hO hL;by_cases h0:m=0
   ·subst h0;refine⟨[],[],D,B,k,.nil,?_⟩;have:O++ns []=O:=by simp[ns]
    rw[this];exact bI (aeI N Y O L A D B k J hJ)
   ·obtain⟨d,d1,d2,d3⟩:=VU hP hN h0;obtain⟨hp,vN,_⟩:=MI hP hN d1 d2 d3;have pc:=Yg (m:=m) (a:=m) hP.lt hp.1;rw[if_pos ⟨hp.2.1,hp.2.1⟩,Nat.and_self] at pc
    have e1:wo m (tz (B.getD d 0)) &&& m=wo m (tz (B.getD d 0)):=by
     apply BH;intro j;rw[bS,j5 hP.lt hp.1];cases m.testBit j<;>simp
    rw[e1] at pc;have pp:=Kk hp.1 hp.2.1;obtain⟨D',B',W,s1,s2⟩:=Tk N Y O L A D B hN m hS hI hA QF hP k d d1 d2 d3 (by omega) hL d 0 (by omega);obtain⟨o,ds,D2,B2,k2,r1,r2⟩:=ih (wo m (tz (B.getD d 0))) (af6 hP.lt hp.1 hp.2.1) (O++[((tz (B.getD d 0):Nat):Int)]) (L.set (tz (B.getD d 0)) ((max k d:Nat):Int)) D' B' (max k d) _ (.inr ⟨W,rfl⟩) s1 (by rw[List.length_append,List.length_singleton]; omega) (by rw[cF,hL]);refine⟨tz (B.getD d 0)::o,d::ds,D2,B2,k2,.cons hp r1,?_⟩;have e2:O++ns (tz (B.getD d 0)::o)=O++[((tz (B.getD d 0):Nat):Int)]++ns o:=by simp[ns]
    rw[e2];exact (bk (aa6 N Y O L _ _ A D B D' B' k _ m _ h0 W J hJ s2)).trans r2
/-! The start -/
theorem mF (n j:Nat):(2 ^ n-1).testBit j=decide (j<n):=Nat.testBit_two_pow_sub_one n j
theorem aa7 {x i:Nat} (hi:i<64) (h:x.testBit i=false):s7 x<64:=by
 unfold s7
 have e:((dL 64).filter fun j=>x.testBit j)=(((dL 64).erase i).filter fun j=>x.testBit j):=by
  rw[List.Nodup.erase_eq_filter HJ,List.filter_filter];congr 1;funext j;by_cases q:j=i
  ·subst q; simp[h]
  ·simp[q]
 rw[e];have h1:=Pu (fun j=>x.testBit j) ((dL 64).erase i);rw[List.length_erase_of_mem (iv.2 hi),CH] at h1;omega
theorem aa8 {N i:Nat} {D B:List Nat} (h:US N (2 ^ i-1) D B) (hN:N<=64) (hi:i<N) {c:Nat} (hc:c<64):US N (2 ^ (i+1)-1) (D.set i c) (B.set c (B.getD c 0 ||| 2 ^ i)):=by
 have hp:2 ^ i<18446744073709551616:=lP (by decide) (by omega:i<64);have gB:∀d,(B.set c (B.getD c 0 ||| 2 ^ i)).getD d 0=if d=c then B.getD c 0 ||| 2 ^ i else B.getD d 0:=fun d=>kM _ _ _ _ (by rw[h.ud]; exact hc)
 have gD:∀j,(D.set i c).getD j 0=if j=i then c else D.getD j 0:=fun j=>kM _ _ _ _ (by rw[h.HR]; exact hi);refine⟨by rw[cF,h.HR],by rw[cF,h.ud],fun d=>?_,fun d j hd=>?_,fun j hj=>?_,fun v=>?_⟩
 ·rw[gB];split
  ·exact Nat.or_lt_two_pow (n:=64) (h.sm c) hp
  ·exact h.sm d
 ·rw[gB,gD,mF];by_cases q:d=c
  ·subst q;rw[if_pos rfl,Nat.testBit_or,Nat.testBit_two_pow,h.bit d j hd,mF];by_cases z:j=i
   ·subst z;rw[if_pos rfl]; simp
   ·rw[if_neg z];have z':¬i=j:=fun k=>z k.symm;have:decide (j<i+1)=decide (j<i):=by apply decide_eq_decide.2; omega
    rw[this];simp[z']
  ·rw[if_neg q,h.bit d j hd,mF];by_cases z:j=i
   ·subst z;rw[if_pos rfl];have:¬c=d:=fun k=>q k.symm;simp[this]
   ·rw[if_neg z];have:decide (j<i+1)=decide (j<i):=by apply decide_eq_decide.2; omega
    rw[this]
 ·rw[mF] at hj;have:=of_decide_eq_true hj;omega
 ·rw[gD];split
  ·exact hc
  ·exact h.WG v
def QO (N:Int) (Y:List AV) (A D B:List Nat) (n i:Int) (J:Env):St:=⟨(2,.own 1 [])::(4,.list 1 (us A))::(5,.ptr 2 0)::(6,.own 1 (ints (ns D)))::(20,.list 1 (us A))::(21,.int .i64 n)::(22,.int .i64 i)::J,[my N Y,my N Y,some (us B)]⟩
theorem Z5 (N:Int) (Y:List AV) (A D B:List Nat) (hA:A.length<=64) (QF:Small A) (i:Nat) (hi:i<A.length) (lD:D.length=A.length) (lB:B.length=64) (sm:∀d,B.getD d 0<18446744073709551616) (hc:s7 (A.getD i 0)<64):bg aC 2 NG (QO N Y A D B A.length i [])=some (.normal,QO N Y A (D.set i (s7 (A.getD i 0))) (B.set (s7 (A.getD i 0)) (B.getD (s7 (A.getD i 0)) 0 ||| 2 ^ i)) A.length ((i+1:Nat):Int) []):=by
 have i1:(i:Int)<A.length:=by omega
 have wr:=eO (i:=i) (by omega);have hg:=ui QF i;have mc:=aeJ _ hg;have gA:∀q,(us A)[i]'q=.int .u64 (A.getD i 0:Nat):=fun q=>PC A i hi q;have lA:=fM A;have lDD:(ints (ns D)).length=A.length:=by rw[ah,jR,lD]
 have sD:=(YK D i (s7 (A.getD i 0))).symm;have lDD2:(ints (ns (D.set i (s7 (A.getD i 0))))).length=A.length:=by rw[ah,jR,cF,lD]
 have gD2:∀h,(ints (ns (D.set i (s7 (A.getD i 0)))))[i]'h=.int .i64 (s7 (A.getD i 0):Nat):=fun h=>by
  rw[YL _ i (by rw[cF,lD]; exact hi),kM _ _ _ _ (by rw[lD]; exact hi),if_pos rfl]
 have mb:=A0 i (by omega);have hp:2 ^ i<18446744073709551616:=lP (by decide) (by omega:i<64);have a2:=u64_or_nat (B.getD (s7 (A.getD i 0)) 0) (2 ^ i) (sm _) hp;obtain⟨c1,c2⟩:=Bv B (s7 (A.getD i 0)) (B.getD (s7 (A.getD i 0)) 0 ||| 2 ^ i) (by omega);have n1:=A6 B;have lu:(us B).length=64:=by rw[fM,lB]
 obtain⟨x1,x2,x3,x4,x5,x6,_⟩:=yY B;obtain⟨y1,y2,y3,y4,y5,y6,_⟩:=yY (B.set (s7 (A.getD i 0)) (B.getD (s7 (A.getD i 0)) 0 ||| 2 ^ i));have e1:((s7 (A.getD i 0):Nat):Int)<64:=by omega
 have e2:s7 (A.getD i 0)<=63:=by omega
 unfold QO my;generalize B.getD (s7 (A.getD i 0)) 0 ||| 2 ^ i=z1 at *
 generalize B.getD (s7 (A.getD i 0)) 0=z2 at *;generalize us (B.set (s7 (A.getD i 0)) z1)=U2 at *;generalize us B=U1 at *;generalize ints (ns (D.set i (s7 (A.getD i 0))))=D2 at *;generalize ints (ns D)=D1 at *;clear hg sm hp;generalize s7 (A.getD i 0)=c at *;generalize A.getD i 0=z5 at *;generalize us A=A1 at *;generalize 2 ^ i=p2 at *;unfold NG;simp[vh,vf,ve,vd,vc,u9,u7,u6,u5,u4,qB,qA,qz,qx,qw,qv,qu,qt,qq,qp,qo,ql,qk,qj,qi,qh,qg,qf,qe,qd,qc,qb,qa,i1,hi,wr,mc,gA,lA,lDD,lDD2,gD2,sD,mb,a2,c1,c2,n1,lu,e1,hc,e2,x1,x2,x3,x4,x6,y1,y2,y3,y4,y6,idx,aJ,IntKind.bits,sQp,iQp,sQT,iQT]
theorem Ut (N:Nat) (Y:List AV) (A:List Nat) (hN:N<=64) (hA:A.length=N) (QF:Small A) (hI:∀a,(A.getD a 0).testBit a=false):∀(c i:Nat) (D B:List Nat),i+c=N->US N (2 ^ i-1) D B->(∀j,j<i->D.getD j 0=s7 (A.getD j 0))->∃D' B',US N (2 ^ N-1) D' B'/\(∀j,j<N->D'.getD j 0=s7 (A.getD j 0))/\bg aC 2 (.loop NG) (QO N Y A D B N i [])=some (.exit 0,QO N Y A D' B' N N [(23,.bool false)])
 |0,i,D,B,hc,hP,hD=>by
   obtain rfl:i=N:=by omega
   refine⟨D,B,hP,hD,bI ?_⟩;obtain⟨x1,x2,x3,x4,x5,x6,_⟩:=yY B;unfold QO my;generalize us B=U1 at *;generalize ints (ns D)=D1 at *;generalize us A=A1 at *;unfold NG;simp[vh,vf,ve,vd,vc,u9,u7,u6,u5,u4,qB,qA,qz,qx,qw,qv,qu,qt,qq,qp,qo,ql,qk,qj,qi,qh,qg,qf,qe,qd,qc,qb,qa,x1,x2,x3,x4,x6,aJ]
 |c+1,i,D,B,hc,hP,hD=>by
   have hi:i<N:=by omega
   have hcn:=aa7 (x:=A.getD i 0) (i:=i) (by omega) (hI i);have r:=Z5 N Y A D B (by omega) QF i (by omega) (by rw[hP.HR,hA]) hP.ud hP.sm hcn;rw[hA] at r
   obtain⟨D',B',h1,h2,h3⟩:=Ut N Y A hN hA QF hI c (i+1) _ _ (by omega) (aa8 hP hN hi hcn) fun j hj=>by
    rw[kM _ _ _ _ (by rw[hP.HR]; exact hi)];split
    ·rename_i e; rw[e]
    ·exact hD j (by omega)
   exact⟨D',B',h1,h2,(bk r).trans h3⟩
theorem X6 {A:List Nat} {N:Nat} {D B:List Nat} (hN:N<=64) (hb:∀a j,(A.getD a 0).testBit j=true->j<N) (h:US N (2 ^ N-1) D B) (hD:∀j,j<N->D.getD j 0=s7 (A.getD j 0)):Pst A N (2 ^ N-1) D B:=by
 have hp:2 ^ N<=2 ^ 64:=UW (by decide) hN;refine⟨h,by have:(2:Nat) ^ 64=18446744073709551616:=rfl; have:=LI N; omega,fun j hj=>?_⟩;rw[mF] at hj;rw[hD j (of_decide_eq_true hj)];unfold Ux;congr 1;apply BH;intro i;rw[bS,mF];cases e:(A.getD j 0).testBit i with
 |false=>simp
 |true=>simp[hb j i e]
theorem Yh (N:Nat):US N (2 ^ 0-1) (aT N 0) (aT 64 0):=by
 have g:∀n v,(aT n 0).getD v 0=0:=fun n v=>by rw[List.getD_eq_getElem?_getD,List.getElem?_replicate]; split<;>rfl
 refine⟨cu,cu,fun d=>by rw[g]; decide,fun d j hd=>?_,fun j hj=>?_,fun v=>by rw[g]; decide⟩
 ·rw[g,mF]; simp
 ·rw[mF] at hj; simp at hj
/- core.peel, core.Order, maxclique.Colours. -/
theorem ad6:us (aT 64 0)=[.int .u64 0,.int .u64 0,.int .u64 0,.int .u64 0,.int .u64 0,.int .u64 0,.int .u64 0,.int .u64 0,.int .u64 0,.int .u64 0,.int .u64 0,.int .u64 0,.int .u64 0,.int .u64 0,.int .u64 0,.int .u64 0,.int .u64 0,.int .u64 0,.int .u64 0,.int .u64 0,.int .u64 0,.int .u64 0,.int .u64 0,.int .u64 0,.int .u64 0,.int .u64 0,.int .u64 0,.int .u64 0,.int .u64 0,.int .u64 0,.int .u64 0,.int .u64 0,.int .u64 0,.int .u64 0,.int .u64 0,.int .u64 0,.int .u64 0,.int .u64 0,.int .u64 0,.int .u64 0,.int .u64 0,.int .u64 0,.int .u64 0,.int .u64 0,.int .u64 0,.int .u64 0,.int .u64 0,.int .u64 0,.int .u64 0,.int .u64 0,.int .u64 0,.int .u64 0,.int .u64 0,.int .u64 0,.int .u64 0,.int .u64 0,.int .u64 0,.int .u64 0,.int .u64 0,.int .u64 0,.int .u64 0,.int .u64 0,.int .u64 0,.int .u64 0]:=rfl
theorem yx {N:Nat} {Es:List Ed} (h:vW (N:Int) Es):D3 (ft N Es)/\(∀a,((ft N Es).getD a 0).testBit a=false)/\∀ a j,((ft N Es).getD a 0).testBit j=true->j<N:=by
 obtain⟨_,_,hb⟩:=mK h;refine⟨fun a b=>?_,fun a=>?_,fun a j hj=>?_⟩
 ·rw[hb,hb,Bool.or_comm]
 ·rw[hb];cases e:(decide (((a:Int),(a:Int))∈Es)||decide (((a:Int),(a:Int))∈Es)) with
  |false=>rfl
  |true=>
    simp only[Bool.or_self,decide_eq_true_eq] at e;have:=h.2.2 _ e;simp only at this;omega
 ·rw[hb] at hj;simp only[Bool.or_eq_true,decide_eq_true_eq] at hj;rcases hj with hj|hj<;>(have:=h.2.2 _ hj; simp only at this; omega)
theorem Ye {A:List Nat} {N:Nat} (hN:N<=64) {o ds:List Nat} (h:xw A (2 ^ N-1) o ds):o.length=N/\ds.length=N/\o.Nodup/\∀ j,j∈o ↔ j<N:=by
 have hp:2 ^ N<=2 ^ 64:=UW (by decide) hN;obtain⟨a,b,c⟩:=MJ (by have:(2:Nat) ^ 64=18446744073709551616:=rfl; have:=LI N; omega) h;have hm:∀j,j∈o ↔ j<N:=fun j=>by rw[a,mF]; simp
 have hp:o.Perm (dL N):=(List.perm_ext_iff_of_nodup b HJ).2 fun j=>by rw[hm,iv]
 have hl:=hp.length_eq;rw[CH] at hl;exact⟨hl,by omega,b,hm⟩
theorem Yd {N:Nat} {Es:List Ed} (hG:vW (N:Int) Es) (hE:Es.length<1000000) (h0:0<N):∃o ds,xw (ft N Es) (2 ^ N-1) o ds/\bU aC nQB [.agg [.int .i64 N,.list 2 (fi Es)]] [my N (fi Es),my N (fi Es)]=some (.dF [.sl 1 2 0 N,.sl 1 3 0 N],[my N (fi Es),my N (fi Es),some (ints (ns o)),some (ints (qE o ds 0 (aT N 0)))]):=by
 have hN:N<=64:=by have:=hG.1.2; omega
 obtain⟨hA,QF,_⟩:=mK hG;obtain⟨hS,hI,hb⟩:=yx hG;obtain⟨D,B,f1,f2,f3⟩:=Ut N (fi Es) (ft N Es) hN hA QF hI N 0 _ _ (by omega) (Yh N) (fun j hj=>by omega);have hP:=X6 hN hb f1 f2
 have pc:s7 (2 ^ N-1)<=64:=by
  unfold s7;have:=Pu (fun j=>(2 ^ N-1:Nat).testBit j) (dL 64)
  rwa [CH] at this
 obtain⟨o,ds,D',B',k',p1,p2⟩:=aeG N (fi Es) (ft N Es) hN hS hI hA QF (2 ^ N-1) [] (aT N 0) D B 0 [] (.inl rfl) hP (by simpa using pc) cu;rw[List.nil_append] at p2;refine⟨o,ds,p1,?_⟩;obtain⟨ol,dl,_,_⟩:=Ye hN p1;have rr:=L4 hG (by omega);have ma:=Y3 N hN;have lo:(ns o).length=N:=by rw[jR]; exact ol
 have ln:(qE o ds 0 (aT N 0)).length=N:=by rw[FP,cu]
 have e1:aT N (AV.int .i64 0)=ints (aT N 0):=by simp[ints]
 have e2:ns (aT N 0)=aT N 0:=by simp[ns]
 have t1:(ints (ns o)).take N=ints (ns o):=dt (by rw[ah]; omega);have t2:(ints (qE o ds 0 (aT N 0))).take N=ints (qE o ds 0 (aT N 0)):=dt (by rw[ah]; omega);have l1:(ints (ns o)).length=N:=by rw[ah]; omega
 have l2:(ints (qE o ds 0 (aT N 0))).length=N:=by rw[ah]; omega
 have l3:=fM (ft N Es);have fl1:=jM (ns o);have fl2:=jM (qE o ds 0 (aT N 0));have nz:¬N=0:=by omega
 have nL:(N:Int)<=(mN:Int):=by unfold mN; omega
 unfold QO at f3;unfold tW at p2;rw[ad6,e2,jJ] at f3;simp only[dw,jJ] at p2;obtain⟨x1,x2,x3,x4,x5,x6,_⟩:=yY B;obtain⟨y1,y2,y3,y4,y5,y6,_⟩:=yY B';rw[fK sQB (aF rfl)];unfold my at *;generalize us B=U1 at *;generalize us B'=U2 at *;generalize ints (ns o)=O1 at *;generalize ints (qE o ds 0 (aT N 0))=L1 at *;generalize ints (aT N 0)=Z1 at *;generalize ints (ns D)=D1 at *;generalize ints (ns D')=D2 at *;rw[hA] at l3;generalize us (ft N Es)=A1 at *;generalize fi Es=Y at *;generalize 2 ^ N-1=m0 at *;clear hP f1 f2 p1 hG hS hI hb;unfold qQB cQB;simp[vh,vf,ve,vd,vc,u9,u7,u6,u5,u4,qB,qA,qz,qx,qw,qv,qu,qt,qq,qp,qo,ql,qk,qj,qi,qh,qg,qf,qe,qd,qc,qb,qa,rr,ma,f3,p2,e1,t1,t2,l1,l2,l3,fl1,fl2,nz,nL,x1,x2,x3,x4,x6,y1,y2,y3,y4,y6,el,Z4,tH,HB,bR,cc,aJ,lN,fI,mO,iu,dD,lV,fy,eX,sQJ,iQJ,sQU,iQU]
/- What a run asks of a box of ints; slices.Reverse of ints. -/
theorem nat1:((1:Nat):Int)=1:=rfl
structure Lf (D:List AV):Prop where
 bo:cW D=[]
 ow:bJ D=false
 mp:∀g,cO g D=D
 pl:eE D=true
 pt:fD D=[]
 np:∀b,jI b D=true
 av:iX D D=true
 pp:fI D=true
 fz:K0 D=true
 fl:aA D=D
 fr:yV D=some D
theorem bM (l:List Int):Lf (ints l):=by
 induction l with
 |nil=>exact⟨rfl,rfl,fun _=>rfl,rfl,rfl,fun _=>rfl,rfl,rfl,rfl,rfl,rfl⟩
 |cons x r ih=>
   refine⟨?_,?_,fun g=>?_,?_,?_,fun b=>?_,?_,?_,?_,jM _,?_⟩
   ·exact ih.bo
   ·exact ih.ow
   ·show AV.int .i64 x::cO g (ints r)=_;rw[ih.mp]; rfl
   ·exact ih.pl
   ·exact ih.pt
   ·exact ih.np b
   ·show (decide _&&iX (ints r) (ints r))=true;rw[ih.av]; simp
   ·exact ih.pp
   ·exact ih.fz
   ·show (match QR (.int .i64 x),yV (ints r) with|some y,some ys=>some (y::ys)|_,_=>none)=_;rw[ih.fr]; rfl
end Go.BmP
