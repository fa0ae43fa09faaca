/- What cliques.masks and all return. -/
import Derived.Test.YtmildmgogdmknaaGreatDoorCaP
import Derived.Test.YtmildmgogdmknaaGreatDoorMxF
set_option linter.unusedSimpArgs false
set_option linter.unusedVariables false
set_option maxRecDepth 100000
set_option maxHeartbeats 4000000
open Bool renaming and_eq_true → ae, false_and → eh, true_and → dI
open Int renaming one_mul → I7, toNat → I6
open List renaming all_eq_true → gL, drop_eq_getElem_cons → aT, drop_length → bK, drop_zero → bY, foldl_nil → rL, getD_eq_getElem?_getD → aJ, getElem?_eq_getElem → an, getElem_mem → cI, length_replicate → cz, mem_cons → aK, mem_filter → jR, mem_map → gO, mem_take_iff_getElem → PN, pairwise_map → I5, replicate → aH, take_length → eW
open Nat renaming le_of_ble_eq_true → ah
open Option.some renaming inj → dv
namespace Go.BmP
open Go.Am Go.Bm
theorem OM (N:Nat) (hN:N<=64) (Es:List Ed) (hE:Es.length<4294967295) (hv:∀e∈Es,0<=e.1/\e.1<e.2/\e.2<(N:Int)):∀(k i:Nat) (A:List Nat),i+k=Es.length->A.length=N->Small A->aW aq 0 (.loop Ro) ⟨[(3,.own 1 (us A)),(10,.list 2 (bU Es)),(11,.int .i64 Es.length),(12,.int .i64 i)],[]⟩ =
  some (.exit 0,⟨[(3,.own 1 (us (l8 (Es.drop i) A))),(10,.list 2 (bU Es)),(11,.int .i64 Es.length),(12,.int .i64 Es.length),(13,.bool false)],[]⟩)
 |0,i,A,hi,hA,hS=>by
   obtain rfl:i=Es.length:=by omega
   rw[bK];exact bq (by unfold Ro; simp[QA,Qz,Qy,Qx,Qw,l8,rL])
 |k+1,i,A,hi,hA,hS=>by
   have bD:i<Es.length:=by omega
   have h1:(i:Int)<Es.length:=by omega
   have hw:=dM (i:=i) (by omega);obtain⟨u0,uv,vn⟩:=hv Es[i] (cI bD);have ih:=OM N hN Es hE hv k (i+1) (VG A Es[i]) (by omega) (by rw[xz]; exact hA) (Bn hS (by omega) (by omega));rw[aT bD];have v0:0<=Es[i].2:=by omega
   have un:Es[i].1<(N:Int):=by omega
   have u0':¬Es[i].1<0:=by omega
   have v0':¬Es[i].2<0:=by omega
   have uN:Es[i].1.toNat<N:=by omega
   have vN:Es[i].2.toNat<N:=by omega
   have pu:=pQ (v:=Es[i].1) (by omega) u0;have pv:=pQ (v:=Es[i].2) (by omega) v0;have su:=Wm (v:=Es[i].1) u0 (by omega);have sv:=Wm (v:=Es[i].2) v0 (by omega);have su':IntKind.u64.wrap (2 ^ (min Es[i].1.toNat 64))=((2 ^ Es[i].1.toNat:Nat):Int):=by rw[<-su,I7]
   have sv':IntKind.u64.wrap (2 ^ (min Es[i].2.toNat 64))=((2 ^ Es[i].2.toNat:Nat):Int):=by rw[<-sv,I7]
   have gu:(us A)[Es[i].1.toNat]?=some (.int .u64 (A.getD Es[i].1.toNat 0:Nat)):=by
    rw[sG,aJ,an (by omega)]; rfl
   have xu:=jz hS Es[i].1.toNat;have ou:=u64_or_nat (A.getD Es[i].1.toNat 0) (2 ^ Es[i].2.toNat) xu pv;have eu:=Cf A Es[i].1.toNat (A.getD Es[i].1.toNat 0 ||| 2 ^ Es[i].2.toNat);have sm:Small (A.set Es[i].1.toNat (A.getD Es[i].1.toNat 0 ||| 2 ^ Es[i].2.toNat)):=uX hS (Nat.or_lt_two_pow (n:=64) xu pv);have eln:(A.set Es[i].1.toNat (A.getD Es[i].1.toNat 0 ||| 2 ^ Es[i].2.toNat)).length=N:=by rw[List.length_set]; exact hA
   have ead:l8 (Es[i]::Es.drop (i+1)) A=l8 (Es.drop (i+1)) (VG A Es[i]):=rfl;rw[ead];have eA:VG A Es[i]=(A.set Es[i].1.toNat (A.getD Es[i].1.toNat 0 ||| 2 ^ Es[i].2.toNat)).set Es[i].2.toNat ((A.set Es[i].1.toNat (A.getD Es[i].1.toNat 0 ||| 2 ^ Es[i].2.toNat)).getD Es[i].2.toNat 0 ||| 2 ^ Es[i].1.toNat):=rfl;rw[eA] at ih ⊢;generalize hA1:A.set Es[i].1.toNat (A.getD Es[i].1.toNat 0 ||| 2 ^ Es[i].2.toNat)=A1 at *
   have gv:(us A1)[Es[i].2.toNat]?=some (.int .u64 (A1.getD Es[i].2.toNat 0:Nat)):=by
    rw[sG,aJ,an (by omega)]; rfl
   have ov:=u64_or_nat (A1.getD Es[i].2.toNat 0) (2 ^ Es[i].1.toNat) (jz sm _) pu;have ev:=Cf A1 Es[i].2.toNat (A1.getD Es[i].2.toNat 0 ||| 2 ^ Es[i].1.toNat);generalize A1.getD Es[i].2.toNat 0 ||| 2 ^ Es[i].1.toNat=q at *
   generalize A.getD Es[i].1.toNat 0 ||| 2 ^ Es[i].2.toNat=p at *
   generalize A1.getD Es[i].2.toNat 0=y at *;generalize A.getD Es[i].1.toNat 0=x at *;generalize 2 ^ Es[i].1.toNat=pU at *;generalize 2 ^ Es[i].2.toNat=pV at *;clear pu pv xu sm eA ead hA1;have gu':∀h:Es[i].1.toNat<(us A).length,(us A)[Es[i].1.toNat]=.int .u64 (x:Int):=fun h=>by rw[an h] at gu; exact dv gu
   have gv':∀h:Es[i].2.toNat<(us A1).length,(us A1)[Es[i].2.toNat]=.int .u64 (y:Int):=fun h=>by rw[an h] at gv; exact dv gv
   refine (aS (s':=⟨[(3,.own 1 (us (A1.set Es[i].2.toNat q))),(10,.list 2 (bU Es)),(11,.int .i64 Es.length),(12,.int .i64 ((i+1:Nat):Int))],[]⟩) ?_).trans ih;unfold Ro;simp[QA,Qz,Qy,Qx,Qw,h1,bD,hw,u0,v0,u0',v0',un,vn,uN,vN,su',sv',gu',gv',ou,ov,eu,ev,hA,eln,dU,idx,IntKind.bits,fz,pl,AV.leaf,aO,az,bw,bW]
theorem aem {N:Nat} {Es:List Ed} (h:jh (N:Int) Es) (hE:Es.length<4294967295):bp aq MN [.agg [.int .i64 N,.list 2 (bU Es)]] []=some (.list 1 (us (dn N Es)),[]):=by
 rw[pM sQb4 (ah rfl)];have hn:=od h;have hl:=OM N hn Es hE h.2.2 Es.length 0 (aH N 0) (by omega) (by simp) (fun x hx=>by have:=List.eq_of_mem_replicate hx; omega);rw[fi,bY] at hl;have r1:aH N (AV.int .u64 0)=us (aH N 0):=Wa N;have n0:¬(N:Int)<0:=by omega
 have nL:(N:Int)<=4294967296:=by omega
 have ea:l8 Es (aH N 0)=dn N Es:=rfl;rw[ea] at hl;have tk:(us (dn N Es)).take (dn N Es).length=us (dn N Es):=by rw[PT,eW]
 have e:=(gadj h).1
 have tkr:(us (aH N 0)).take N=us (aH N 0):=by
  have:=eW (l:=us (aH N 0))
  rwa [dU,cz] at this
 rw[e] at tk;unfold qQb4 cQb4;simp[QD,QC,QB,Qv,hl,r1,tkr,e,cz,nL,dU,tk,jx,aO,az,bk,bf]
/- What cliques.masks and all return. -/
/- What cliques.Is, Maximal and Extend return of a graph. -/
def WK (A:List Nat) (S:List Int) (i:Nat):Bool:=(S.take i).all fun w=>(A.getD (S.getD i 0).toNat 0).testBit w.toNat
theorem shrb (M:Nat) (u:Int) (h0:0<=u) (h1:u<64):kr .shr (.int .u64 (M:Int)) (.int .i64 u)=some (.int .u64 ((M / 2 ^ u.toNat:Nat):Int)):=by
 unfold kr;simp only;rw[if_neg (by omega),show min u.toNat IntKind.u64.bits=u.toNat by (show min u.toNat 64=u.toNat); omega,powc,Int.fdiv_eq_ediv_of_nonneg _ (Int.natCast_nonneg _)];rfl
theorem oneb (M:Nat) (u:Int) (h0:0<=u) (hM:M<18446744073709551616):kr .and (.int .u64 ((M / 2 ^ u.toNat:Nat):Int)) (.int .u64 1)=some (.int .u64 (if M.testBit u.toNat=true then 1 else 0)):=by
 have hd:M / 2 ^ u.toNat<=M:=Nat.div_le_self _ _;have h:=aa6 (M / 2 ^ u.toNat) 1 (by omega) (by decide)
 have e:(((M / 2 ^ u.toNat) &&& 1:Nat):Int)=if M.testBit u.toNat=true then 1 else 0:=by
  rw[Nat.and_one_is_mod,Nat.testBit_eq_decide_div_mod_eq];by_cases k:M / 2 ^ u.toNat%2=1
  ·simp[k]
  ·simp only[k,decide_false,Bool.false_eq_true,if_false]; omega
 rw[e] at h;exact h
theorem afu (A:List Nat) (hA:Small A) (S:List Int) (hS:S.length<4294967295) (hb:∀v∈S,0<=v/\v<(A.length:Int)) (hA64:A.length<=64) (i:Nat) (hi:i<S.length):∀(k j:Nat),j+k=i->aW aq 0 (.loop K9) ⟨[(0,.list 1 (us A)),(1,.list 1 (ints S)),(6,.int .i64 (S.getD i 0)),(9,.list 1 (ints S)),(10,.int .i64 S.length),(11,.int .i64 i),(18,.list 1 (ints (S.take i))),(19,.int .i64 i),(20,.int .i64 j)],[]⟩ =
  if ((S.take i).drop j).all (fun w=>(A.getD (S.getD i 0).toNat 0).testBit w.toNat)=true then some (.exit 2,⟨[(0,.list 1 (us A)),(1,.list 1 (ints S)),(6,.int .i64 (S.getD i 0)),(9,.list 1 (ints S)),(10,.int .i64 S.length),(11,.int .i64 i),(18,.list 1 (ints (S.take i))),(19,.int .i64 i),(20,.int .i64 i),(21,.bool false)],[]⟩) else some (.ret,⟨[(4,.bool false)],[]⟩)
 |0,j,hj=>by
   obtain rfl:j=i:=by omega
   have:(S.take j).drop j=[]:=List.drop_eq_nil_of_le (by simp; omega);rw[this,List.all_nil,if_pos rfl];exact bq (by unfold K9; simp[wG,wF,wE,wC,wB])
 |k+1,j,hj=>by
   have bD:j<i:=by omega
   have hlS:j<S.length:=by omega
   have h1:(j:Int)<i:=by omega
   have hw:=dM (i:=j) (by omega);have lt:(S.take i).length=i:=by simp; omega
   have ih:=afu A hA S hS hb hA64 i hi k (j+1) (by omega);have gj:(S.take i)[j]'(by omega)=S[j]:=by simp
   rw[aT (by omega),List.all_cons,gj];obtain⟨b0,b1⟩:=hb S[j] (cI hlS)
   have hSi:S.getD i 0∈S:=by
    rw[aJ,an hi];exact cI hi
   obtain⟨c0,c1⟩:=hb _ hSi;have i1:=gC (k:=.i64) (i:=(j:Int)) (n:=i) (by omega) h1;have i2:=gC (k:=.i64) (i:=S.getD i 0) (n:=A.length) c0 c1
   have g2:(us A)[(S.getD i 0).toNat]?=some (.int .u64 (A.getD (S.getD i 0).toNat 0:Nat)):=by
    rw[sG,aJ (l:=A),an (by omega)]; rfl
   have elA:=dU A;have ra:=jz hA (S.getD i 0).toNat;have s1:=shrb (A.getD (S.getD i 0).toNat 0) S[j] b0 (by omega);have s2:=oneb (A.getD (S.getD i 0).toNat 0) S[j] b0 ra;have gt:(ints (S.take i))[j]?=some (.int .i64 S[j]):=by rw[aF,an (by omega),gj]; rfl
   have gt':∀h:j<(ints (S.take i)).length,(ints (S.take i))[j]=.int .i64 S[j]:=fun h=>by rw[an h] at gt; exact dv gt
   have elt:(ints (S.take i)).length=i:=by rw[af]; exact lt
   generalize ((A.getD (S.getD i 0).toNat 0 / 2 ^ S[j].toNat:Nat):Int)=q1 at *;cases tb:(A.getD (S.getD i 0).toNat 0).testBit S[j].toNat with
   |true=>
     rw[tb,if_pos rfl] at s2;rw[dI];refine (aS ?_).trans ih;clear ih tb;generalize ((A.getD (S.getD i 0).toNat 0:Nat):Int)=p at *;generalize S.getD i 0=sv at *;generalize us A=Z at *;generalize hT:ints (S.take i)=TT at *;have q2:kr .eql (.int .u64 1) (.int .u64 0)=some (.bool false):=rfl;unfold K9;simp[wG,wF,wE,wC,wB,bD,i1,i2,g2,elA,gt',elt,s1,s2,q2,show kr .lss (.int .i64 (j:Int)) (.int .i64 (i:Int))=some (.bool true) from (by simp[kr,arith,h1]),show kr .add (.int .i64 (j:Int)) (.int .i64 1)=some (.int .i64 ((j+1:Nat):Int)) from (by simp[kr,arith,hw]),-kr]
   |false=>
     rw[tb,if_neg (by decide)] at s2;rw[eh,if_neg (by decide)];refine dp ?_;clear ih tb;generalize ((A.getD (S.getD i 0).toNat 0:Nat):Int)=p at *;generalize S.getD i 0=sv at *;generalize us A=Z at *;generalize hT:ints (S.take i)=TT at *;have q2:kr .eql (.int .u64 0) (.int .u64 0)=some (.bool true):=rfl;unfold K9;simp[wG,wF,wE,wC,wB,bD,i1,i2,g2,elA,gt',elt,s1,s2,q2,show kr .lss (.int .i64 (j:Int)) (.int .i64 (i:Int))=some (.bool true) from (by simp[kr,arith,h1]),-kr]
/- What cliques.Is, Maximal and Extend return of a graph: the whole. -/
def okK (A:List Nat) (S:List Int):Nat->Nat->Bool
 |_,0=>true
 |i,k+1=>WK A S i&&okK A S (i+1) k
theorem aaY (A:List Nat) (hA:Small A) (S:List Int) (hS:S.length<4294967295) (hb:∀v∈S,0<=v/\v<(A.length:Int)) (hA64:A.length<=64):∀(k i:Nat),i+k=S.length->aW aq 0 (.loop K8) ⟨[(0,.list 1 (us A)),(1,.list 1 (ints S)),(9,.list 1 (ints S)),(10,.int .i64 S.length),(11,.int .i64 i)],[]⟩ =
  if okK A S i k=true then some (.exit 0,⟨[(0,.list 1 (us A)),(1,.list 1 (ints S)),(9,.list 1 (ints S)),(10,.int .i64 S.length),(11,.int .i64 S.length),(12,.bool false)],[]⟩) else some (.ret,⟨[(4,.bool false)],[]⟩)
 |0,i,hi=>by
   obtain rfl:i=S.length:=by omega
   rw[if_pos (show okK A S S.length 0=true from rfl)];exact bq (by unfold K8; simp[wJ,wI,wH,rT])
 |k+1,i,hi=>by
   have bD:i<S.length:=by omega
   have h1:(i:Int)<S.length:=by omega
   have h1':(i:Int)<=S.length:=by omega
   have hw:=dM (i:=i) (by omega);have ih:=aaY A hA S hS hb hA64 k (i+1) (by omega);have inn:=afu A hA S hS hb hA64 i bD i 0 (by omega);rw[bY] at inn;have e0:((S.take i).all fun w=>(A.getD (S.getD i 0).toNat 0).testBit w.toNat)=WK A S i:=rfl;rw[e0,fi] at inn;have i1:=gC (k:=.i64) (i:=(i:Int)) (n:=S.length) (by omega) h1;have gi:(ints S)[i]?=some (.int .i64 (S.getD i 0)):=by rw[aF,aJ,an bD]; rfl
   have gi':∀h:i<(ints S).length,(ints S)[i]=.int .i64 (S.getD i 0):=fun h=>by rw[an h] at gi; exact dv gi
   have ti:=cq S i;have lt:(ints (S.take i)).length=i:=by rw[af]; simp; omega
   have ek:okK A S i (k+1)=(WK A S i&&okK A S (i+1) k):=rfl;rw[ek];cases q:WK A S i with
   |true=>
     rw[q,if_pos rfl] at inn;rw[dI];refine (aS ?_).trans ih;clear ih ek q e0;generalize us A=Z at *;generalize S.getD i 0=sv at *;generalize ints (S.take i)=TT at *;unfold K8;simp[wJ,wI,wH,rT,h1,h1',bD,hw,i1,gi',ti,lt,inn,af]
   |false=>
     rw[q,if_neg (by decide)] at inn;rw[eh,if_neg (by decide)];refine dp ?_;clear ih ek q e0;generalize us A=Z at *;generalize S.getD i 0=sv at *;generalize ints (S.take i)=TT at *;unfold K8;simp[wJ,wI,wH,rT,h1,h1',bD,i1,gi',ti,lt,inn,af]
theorem ZP {A:List Nat} {S:List Int}:∀(k i:Nat),okK A S i k=true ↔ ∀j,i<=j->j<i+k->WK A S j=true
 |0,i=>⟨fun _ j h1 h2=>by omega,fun _=>rfl⟩
 |k+1,i=>by
   unfold okK;rw[ae,ZP k (i+1)];constructor
   ·rintro⟨h1,h2⟩ j h3 h4;by_cases e:j=i
    ·rw[e]; exact h1
    ·exact h2 j (by omega) (by omega)
   ·intro h;exact⟨h i (by omega) (by omega),fun j h3 h4=>h j (by omega) (by omega)⟩
theorem ala {N:Nat} {Es:List Ed} (h:jh (N:Int) Es) {S:List Int} (hb:∀v∈S,0<=v/\v<(N:Int)):okK (dn N Es) S 0 S.length=true ↔ S.Pairwise (jn Es):=by
 rw[ZP,List.pairwise_iff_getElem]
 have key:∀(i j:Nat) (hi:i<S.length) (hj:j<S.length),((dn N Es).getD (S.getD j 0).toNat 0).testBit S[i].toNat=true ↔ jn Es S[i] S[j]:=by
  intro i j hi hj;have ej:S.getD j 0=S[j]:=by rw[aJ,an hj]; rfl
  have bi:=hb S[i] (cI hi);have bj:=hb S[j] (cI hj);rw[ej,R0 h bj.1,show ((S[i].toNat:Nat):Int)=S[i] by omega];exact⟨II,II⟩
 constructor
 ·intro k i j hi hj Il;have:=k j (by omega) (by omega);unfold WK at this;rw[gL] at this;exact (key i j hi hj).1 (this S[i] (PN.2 ⟨i,by omega,rfl⟩))
 ·intro k j _ hj;have hj:j<S.length:=by omega
  unfold WK;rw[gL];intro w hw;obtain⟨i,hi,rfl⟩:=PN.1 hw;have hi2:i<j/\i<S.length:=by omega
  exact (key i j hi2.2 hj).2 (k i j hi2.2 hj hi2.1)
def isB (N:Nat) (Es:List Ed) (S:List Int):Bool:=n8 (N:Int) (-1) S&&decide (S.Pairwise (jn Es))
theorem aaz {N:Nat} {Es:List Ed} {S:List Int}:isB N Es S=true ↔ Ng N Es S:=by
 unfold isB;rw[ae,decide_eq_true_eq,AL];constructor
 ·rintro⟨⟨h1,h2⟩,h3⟩;exact⟨h1,fun x hx=>(h2 x hx).2,h3⟩
 ·rintro⟨h1,h2,h3⟩;exact⟨⟨h1,fun x hx=>by have:=h2 x hx; omega⟩,h3⟩
theorem aeO {N:Nat} {Es:List Ed} (h:jh (N:Int) Es) (hE:Es.length<4294967295) (S:List Int) (hS:S.length<4294967295):bp aq nQY [.agg [.int .i64 N,.list 2 (bU Es)],.list 1 (ints S)] []=some (.bool (isB N Es S),[]):=by
 rw[pM sQY (ah rfl)];have c1:=im (N:Int) Es (by omega);rw[eB.2 h] at c1;have v:=WM (N:Int) S (by omega);have m:=aem h hE;unfold isB;by_cases k:n8 (N:Int) (-1) S=true
 ·have hb:∀v∈S,0<=v/\v<(N:Int):=fun x hx=>(((AL (N:Int)).1 k).2 x hx).2;have ga:=gadj h;have hn:=od h;have cl:=aaY (dn N Es) ga.2.1 S hS (by rw[ga.1]; exact hb) (by rw[ga.1]; exact hn) S.length 0 (by omega);rw[fi] at cl
  have Vv:bp aq MO [.list 1 (us (dn N Es)),.list 1 (ints S)] []=some (.bool (okK (dn N Es) S 0 S.length),[]):=by
   rw[pM sQb3 (ah rfl)];cases q:okK (dn N Es) S 0 S.length with
   |true=>
     rw[q,if_pos rfl] at cl;generalize us (dn N Es)=Z at *;unfold qQb3 cQb3;simp[wL,wK,rS,cl,af,bk,bf]
   |false=>
     rw[q,if_neg (by decide)] at cl;generalize us (dn N Es)=Z at *;unfold qQb3 cQb3;simp[wL,wK,rS,cl,af,bk,bf]
  have e:okK (dn N Es) S 0 S.length=decide (S.Pairwise (jn Es)):=by
   rw[Bool.eq_iff_iff,decide_eq_true_eq]; exact ala h hb
  rw[e] at Vv;rw[k] at v;rw[k,dI];clear cl e;generalize decide (S.Pairwise (jn Es))=d at *;generalize us (dn N Es)=Z at *;unfold qQY cQY;cases d<;>simp[adm,adl,c1,v,m,Vv,Mw,O7,sQb2,iQb2,sQb4,iQb4,sQb3,iQb3,aO,bk,bf]
 ·have k:n8 (N:Int) (-1) S=false:=by simpa using k
  rw[k] at v;rw[k,eh];unfold qQY cQY;simp[adm,adl,c1,v,Mw,O7,sQb2,iQb2,aO,bk,bf]
/- Largest cliques and maximal ones: plain. -/
theorem aed (a b:List Nat):nz (a++b)=nz a++nz b:=by simp[nz]
theorem aec {X:List Int} (h:∀x∈X,0<=x):nz (X.map I6)=X:=by
 induction X with
 |nil=>rfl
 |cons x r ih=>
   have:=h x (by simp);have ih:=ih fun y hy=>h y (by simp[hy]);unfold nz at ih ⊢;simp only[List.map_cons];rw[ih,show ((x.toNat:Nat):Int)=x by omega]
theorem Lk {N:Nat} {E:List Ed} {X:List Int} (h:Ng N E X):QS N E (X.map I6)/\nz (X.map I6)=X:=by
 have h0:∀x∈X,0<=x:=fun x hx=>(h.bd x hx).1;refine⟨⟨?_,fun x hx=>?_⟩,aec h0⟩
 ·rw[I5];refine List.Pairwise.imp_of_mem ?_ (h.up.and h.ad);intro a b ha hb k;have a0:=h0 a ha;have b0:=h0 b hb;have:=k.1;refine⟨by omega,?_⟩;rw[show ((a.toNat:Nat):Int)=a by omega,show ((b.toNat:Nat):Int)=b by omega];exact k.2
 ·obtain⟨y,hy,rfl⟩:=gO.1 hx;have:=h.bd y hy;omega
theorem ahn {N:Nat} {E:List Ed} {O:List Nat} (hF:Fst N E O) {X:List Int} (h:Ng N E X) (hl:X.length=O.length):¬ka X (nz O)<0:=by
 obtain⟨h1,h2⟩:=Lk h;rcases hF _ h1 (by simpa using hl) with k|⟨P,a,b,T',O',e1,e2,e3⟩
 ·rw[<-h2,k,sA.2 rfl]; decide
 ·rw[<-h2,e1,e2,aed,aed,qc];show ¬ka ((a:Int)::nz T') ((b:Int)::nz O')<0;unfold ka;rw[if_pos (by omega)]; decide
theorem Vf (f:Int->Bool):∀l:List Int,l.length=(l.filter f).length+(l.filter fun x=>!f x).length
 |[]=>rfl
 |x::r=>by
   have:=Vf f r;cases k:f x<;>simp[k]<;>omega
theorem X8 {A B:List Int} (hA:A.Nodup) (hs:∀x∈A,x∈B):A.length<=B.length:=by
 induction A generalizing B with
 |nil=>simp
 |cons a r ih=>
   have hc:=List.nodup_cons.1 hA;have hm:=hs a (by simp);have:=ih (B:=B.erase a) hc.2 fun x hx=>(List.mem_erase_of_ne (fun e=>hc.1 (by rw[<-e]; exact hx))).2 (hs x (by simp[hx]));rw[List.length_erase_of_mem hm] at this;have:=List.length_pos_of_mem hm;simp only[List.length_cons]; omega
section
variable {N:Nat} {E:List Ed} (h:jh (N:Int) E)
include h
theorem ahw {P:List Int} (hP:XO N E P) (kj:P≠[]):ue N E (M9 N E P)/\∀ x∈P,x∈M9 N E P:=by
 obtain⟨s1,s2,s3,s4⟩:=abO h hP;refine⟨⟨s3,?_,fun x hx k=>?_⟩,fun x hx=>(s2 x).2 (.inl hx)⟩
 ·obtain⟨x,hx⟩:=List.exists_mem_of_ne_nil _ kj;exact List.ne_nil_of_mem ((s2 x).2 (.inl hx))
 ·have m:=(I0 h (P:=M9 N E P) (fun y hy=>(s3.bd y hy).1) x).2 ⟨hx,k⟩;rw[s4] at m;simp[gb] at m
theorem acb {s:List Int} (hs:Ng N E s) {r:Int} (hr:Rg (dn N E) 0 (cn N E s) 0 r) (n:Int):(n<=(s.length:Int)+r) ↔ (∃X,ue N E X/\(∀x∈s,x∈X)/\n<=(X.length:Int))\/n<=(s.length:Int):=by
 obtain⟨r1,r2,r3⟩:=hr;have s0:∀x∈s,0<=x:=fun x hx=>(hs.bd x hx).1;constructor
 ·intro k;rcases r3 with e|⟨T,t1,t2,t3⟩
  ·right; omega
  ·by_cases hz:T.length=0
   ·right; simp[hz] at t3; omega
   left
   have hi:FB (2 ^ N-1) T:=fun x hx=>by
    have:=(uL h s0 x).1 (t2 x hx);rw[EE]; simp[this.1]
   have q:=(Uy h T).1 ⟨t1,hi⟩
   have hQ:XO N E (s++nz T):=by
    refine⟨fun x hx=>?_,?_⟩
    ·rcases List.mem_append.1 hx with u|u
     ·exact hs.bd x u
     ·unfold nz at u;obtain⟨y,hy,rfl⟩:=gO.1 u;have:=q.2 y hy;omega
    ·rw[List.pairwise_append];refine⟨hs.ad,?_,fun x hx y hy=>?_⟩
     ·unfold nz;rw[I5];exact q.1.imp fun k=>k.2
     ·unfold nz at hy;obtain⟨z,hz,rfl⟩:=gO.1 hy;exact ((uL h s0 z).1 (t2 z hz)).2 x hx
   have kj:s++nz T≠[]:=by
    intro e;have:=congrArg List.length e;simp[k7] at this;exact hz (by simp[this.2])
   obtain⟨m1,m2⟩:=ahw h hQ kj;refine⟨_,m1,fun x hx=>m2 x (by simp[hx]),?_⟩;have:=X8 (O5 h hQ) m2;rw[List.length_append,k7] at this;omega
 ·rintro (⟨X,hX,rY,hn⟩|k)
  ·let T:=(X.filter fun x=>!decide (x∈s)).map I6
   have DU:∀x∈X,0<=x:=fun x hx=>(hX.1.bd x hx).1;have hXf:Ng N E (X.filter fun x=>!decide (x∈s)):=⟨hX.1.up.filter _,fun x hx=>hX.1.bd x (jR.1 hx).1,hX.1.ad.filter _⟩;obtain⟨q1,q2⟩:=Lk hXf;obtain⟨kq,_⟩:=(Uy h _).2 q1
   have hin:FB (cn N E s) ((X.filter fun x=>!decide (x∈s)).map I6):=by
    intro y hy;obtain⟨x,hx,rfl⟩:=gO.1 hy;obtain⟨W5,hx2⟩:=jR.1 hx;have hx2:x∉s:=by simpa using hx2
    have b:=hX.1.bd x W5;refine (uL h s0 _).2 ⟨by omega,fun v hv=>?_⟩;rw[show ((x.toNat:Nat):Int)=x by omega];have hv2:=rY v hv
    have hpw:∀{l:List Int},l.Pairwise (jn E)->∀a∈l,∀b∈l,a≠b->jn E a b:=by
     intro l hl
     induction hl with
     |nil=>intro a ha; simp at ha
     |cons p _ ih=>
       intro a ha b hb kj;rcases aK.1 ha with e1|h1<;>rcases aK.1 hb with e2|h2
       ·exact absurd (e1.trans e2.symm) kj
       ·rw[e1]; exact p b h2
       ·rw[e2]; exact (p a h1).symm
       ·exact ih a h1 b h2 kj
    exact hpw hX.1.ad v hv2 x W5 fun e=>hx2 (e▸hv)
   have l1:=r2 _ kq hin;rw[List.length_map] at l1;have l2:=Vf (fun x=>decide (x∈s)) X;have nd:X.Nodup:=hX.1.up.imp fun{a b} k e=>by omega
   have l3:=X8 (A:=X.filter fun x=>decide (x∈s)) (B:=s) (nd.filter _) fun x hx=>by simpa using (jR.1 hx).2
   omega
  ·omega
end
/- What maxclique.Above returns. -/
set_option maxHeartbeats 8000000
theorem abb (A:List Nat) (hA:Small A) (n:Int) (l:List Int) (hl:l.length<4294967295) (hb:∀v∈l,0<=v/\v<(A.length:Int)):∀(k i m:Nat),i+k=l.length->m<18446744073709551616->aW aq 0 (.loop aai) ⟨[(1,.list 1 (ints l)),(2,.int .i64 n),(9,.list 1 (us A)),(10,.int .u64 m),(28,.list 1 (ints l)),(29,.int .i64 l.length),(30,.int .i64 i)],[]⟩ =
  some (.exit 0,⟨[(1,.list 1 (ints l)),(2,.int .i64 n),(9,.list 1 (us A)),(10,.int .u64 (GF A m (l.drop i):Nat)),(28,.list 1 (ints l)),(29,.int .i64 l.length),(30,.int .i64 l.length),(31,.bool false)],[]⟩)
 |0,i,m,hi,hm=>by
   obtain rfl:i=l.length:=by omega
   rw[bK];exact bq (by unfold aai; simp[ND,FT,FR,FQ,GF,rL])
 |k+1,i,m,hi,hm=>by
   have bD:i<l.length:=by omega
   have h1:(i:Int)<l.length:=by omega
   have hw:=dM (i:=i) (by omega);obtain⟨b0,b1⟩:=hb l[i] (cI bD);have ra:=jz hA l[i].toNat;have w2:=u64_and_nat m (A.getD l[i].toNat 0) hm ra;have ih:=abb A hA n l hl hb k (i+1) (m &&& A.getD l[i].toNat 0) (by omega) (Nat.lt_of_le_of_lt Nat.and_le_left hm);rw[aT bD];have e:GF A m (l[i]::l.drop (i+1))=GF A (m &&& A.getD l[i].toNat 0) (l.drop (i+1)):=rfl;rw[e];refine (aS ?_).trans ih;clear ih e;have i1:=gC (k:=.i64) (i:=(i:Int)) (n:=l.length) (by omega) h1;have i2:=gC (k:=.i64) (i:=l[i]) (n:=A.length) b0 b1
   have g2:(us A)[l[i].toNat]?=some (.int .u64 (A.getD l[i].toNat 0:Nat)):=by
    rw[sG,aJ,an (by omega)]; rfl
   have elA:=dU A;generalize ((m &&& A.getD l[i].toNat 0:Nat):Int)=q at *;generalize ((A.getD l[i].toNat 0:Nat):Int)=p at *;generalize us A=Z at *;generalize (m:Int)=X at *;unfold aai;simp[ND,FT,FR,FQ,h1,bD,hw,i1,i2,g2,elA,w2,af,aM]
theorem afN {N:Nat} {Es:List Ed} (h:jh (N:Int) Es) (hE:Es.length<1000000) (s:List Int) (hs:s.length<4294967295) (n:Int) (hb:isB N Es s=false):bp aq nQv [.agg [.int .i64 N,.list 2 (bU Es)],.list 1 (ints s),.int .i64 n] []=some (.dJ [.bool false,.int .i64 4],[]):=by
 have ck:=im (N:Int) Es (by omega);rw[eB.2 h] at ck;have q:=aeO h (by omega) s hs;rw[hb] at q;rw[pM sQv (ah rfl)];unfold qQv cQv;simp[NN,NM,NL,NK,NJ,NI,NH,NG,NF,FP,ck,q,Mw,O7,sQY,iQY,aO,bk,bf]
theorem aca {N:Nat} {Es:List Ed} (h:jh (N:Int) Es) (hN:N<=64) (hE:Es.length<1000000) (s:List Int) (hs:s.length<=64) (hb:isB N Es s=true):∃r,Rg (dn N Es) 0 (cn N Es s) 0 r/\∀ n:Int,bp aq nQv [.agg [.int .i64 N,.list 2 (bU Es)],.list 1 (ints s),.int .i64 n] []=some (.dJ [.bool (decide (n<=(s.length:Int)+r)),.int .i64 0],[]):=by
 have ck:=im (N:Int) Es (by omega);rw[eB.2 h] at ck;have q:=aeO h (by omega) s (by omega);rw[hb] at q;have hc:=aaz.1 hb;have mk:=OT h (by omega);obtain⟨eN,hS,_⟩:=jO h;have hA:=aba h;have hp:=adL (v:=N) (by omega);have IL:0<2 ^ N:=Nat.two_pow_pos N;have e:GF (dn N Es) (2 ^ N-1) s=cn N Es s:=rfl;have cl:=H5 h s;obtain⟨r,g1,g2⟩:=zZ hS hA (cn N Es s) cl (fun j hj=>by rw[eN]; exact ((uL h (fun x hx=>(hc.bd x hx).1) j).1 hj).1) 0;refine⟨r,g1,fun n=>?_⟩;have lp:=abb (dn N Es) hS n s (by omega) (by rw[eN]; exact hc.bd) s.length 0 (2 ^ N-1) (by omega) (by omega);rw[fi,bY,e] at lp;have r0:0<=r:=g1.1
 have r1:r<=64:=by
  rcases g1.2.2 with k|⟨T,t1,t2,t3⟩
  ·omega
  ·have:=Rr cl t1 t2;have e2:((List.range 64).filter fun j=>(cn N Es s).testBit j).length=lI (cn N Es s):=rfl;have:=FV (cn N Es s);omega
 have wr:IntKind.i64.wrap ((s.length:Int)+r)=s.length+r:=fE (by omega) (by omega);obtain⟨M2,s1,s2,s3,d1⟩:=Yd (v:=N) (by omega);have nn:¬(N:Int)<0:=by omega
 have n0:(0:Int)<=N:=by omega
 have n6:N<=64:=by omega
 rw[pM sQv (ah rfl)];unfold qQv cQv;clear g1 hS hA eN IL h hc e;generalize cn N Es s=C at *;generalize (2 ^ N-1:Nat)=M at *;generalize us (dn N Es)=AA at *;simp[NN,NM,NL,NK,NJ,NI,NH,NG,NF,FP,ck,q,mk,g2,lp,wr,s3,d1,nn,n6,IntKind.bits,dP,pl,Mw,O7,sQY,iQY,sQz,iQz,sQA,iQA,Int.toNat_natCast,aO,af,bk,bf]
end Go.BmP
