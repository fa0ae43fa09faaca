/- What the bits of biclique return: TrailingZeros64, list, mask. -/
import Derived.Test.YtbnheahpdodmjabGreatDoorL61
import Derived.Test.YtbnheahpdodmjabGreatDoorK05
set_option linter.unusedSimpArgs false
set_option linter.unusedVariables false
set_option maxRecDepth 100000
set_option maxHeartbeats 4000000
open List renaming drop_eq_getElem_cons → bz, drop_zero → cP, eq_of_mem_replicate → Sq, getD_eq_getElem?_getD → aG, getElem?_eq_getElem → aj, length_replicate → cY, replicate → bh, take_length → fk
open Nat renaming le_of_ble_eq_true → au
open Option.some renaming inj → bj, injEq → af
open Prod.mk renaming injEq → aF
namespace Go.BmP
open Go.Am Go.Bm
theorem amH:aq.gl 0=SU.map (AV.int .u8):=rfl
theorem akW:∀k,k<64->2 ^ k*285870213051353865%18446744073709551616 / 288230376151711744<64/\(SU.map (AV.int .u8)).drop (2 ^ k*285870213051353865%18446744073709551616 / 288230376151711744)=.int .u8 (k:Nat)::(SU.map (AV.int .u8)).drop (2 ^ k*285870213051353865%18446744073709551616 / 288230376151711744+1):=by
 intro k hk;have h1:∀k,k<64->2 ^ k*285870213051353865%18446744073709551616 / 288230376151711744<64/\SU[2 ^ k*285870213051353865%18446744073709551616 / 288230376151711744]?=some ((k:Nat):Int):=by decide +kernel
 obtain⟨a,b⟩:=h1 k hk;refine⟨a,?_⟩;generalize 2 ^ k*285870213051353865%18446744073709551616 / 288230376151711744=j at a b;obtain⟨hj,e⟩:=List.getElem?_eq_some_iff.1 b;rw[bz (by simpa using hj),List.getElem_map,e]
theorem powc (n:Nat):(2:Int) ^ n=((2 ^ n:Nat):Int):=by simp
theorem ajH (q s:Nat) (hs:s<64):tq .shr (.int .u64 (q:Int)) (.int .u64 (s:Int))=some (.int .u64 ((q / 2 ^ s:Nat):Int)):=by
 unfold tq;simp only;have hp:0<2 ^ s:=Nat.two_pow_pos s;rw[if_neg (by omega),show min (s:Int).toNat IntKind.u64.bits=s by (show min (s:Int).toNat 64=s); omega,powc,Int.fdiv_eq_ediv_of_nonneg _ (Int.natCast_nonneg _)];rfl
theorem ajJ (a b:Nat) (ha:a<18446744073709551616) (hb:b<18446744073709551616):tq .and (.int .u64 (a:Int)) (.int .u64 (b:Int))=some (.int .u64 ((a &&& b:Nat):Int)):=by
 unfold tq;simp only[if_true,arith,u64_and_nat a b ha hb]
theorem ajI (a b:Nat):tq .mul (.int .u64 (a:Int)) (.int .u64 (b:Int))=some (.int .u64 ((a*b%18446744073709551616:Nat):Int)):=by
 unfold tq;simp only[if_true,arith,IntKind.wrap_u64];rw[<-Int.natCast_mul];rfl
theorem TV {c:eS} {call:Nat->List AV->Heap->Option (AV × Heap)}:∀(a b:List O) (s:St) {s' s'':St} {f g:List Fq},pz c call a s=some (s',f)->pz c call b s'=some (s'',g)->pz c call (a++b) s=some (s'',f++g)
 |[],b,s,s',s'',f,g,h,k=>by
   simp only[pz,af,aF] at h;obtain⟨rfl,rfl⟩:=h;exact k
 |o::r,b,s,s',s'',f,g,h,k=>by
   simp only[pz,List.cons_append] at h ⊢;split at h
   case h_2=>cases h
   rename_i s1 fl h1;split at h
   case h_2=>cases h
   rename_i s2 sP h2;simp only[af,aF] at h;obtain⟨rfl,rfl⟩:=h;rw[TV r b s1 h2 k];rfl
theorem tz_a (x:Nat) (h0:x≠0) (hx:x<18446744073709551616):∃(y p q j:Int) (T:List AV),pz aq (bJ aq) (zF.take 6) ⟨[(0,.int .u64 x),(4,.bool false)],[]⟩=some (⟨[(0,.int .u64 x),(4,.bool false),(5,.int .u64 x),(6,.int .u64 x),(7,.int .u64 y),(8,.int .u64 p),(9,.int .u64 q),(10,.int .u64 j)],[]⟩,[.no,.no,.no,.no,.no,.no])/\(0<=j/\j<64)/\(aq.gl 0).drop j.toNat=.int .u8 (tz x:Nat)::T/\tz x<64:=by
 obtain⟨e1,e2⟩:=Lib.lowest_bit 64 x h0 hx;have e2:tz x<64:=e2;have e1:x &&& (18446744073709551616-x)=2 ^ tz x:=e1;obtain⟨e3,e4⟩:=akW (tz x) e2
 have b1:tq .eql (.int .u64 (x:Int)) (.int .u64 0)=some (.bool false):=by
  have:((x:Int) == 0)=false:=by rw[beq_eq_false_iff_ne]; omega
  unfold tq;simp only[if_true,arith,this]
 have u1:WM .neg (.int .u64 (x:Int))=some (.int .u64 ((18446744073709551616-x:Nat):Int)):=by
  unfold WM;simp only[IntKind.wrap_u64];rw[show (0-(x:Int))%18446744073709551616=((18446744073709551616-x:Nat):Int) by omega]
 have b2:=ajJ x (18446744073709551616-x) hx (by omega);rw[e1] at b2;have b3:=ajI (2 ^ tz x) 285870213051353865;have b4:=ajH (2 ^ tz x*285870213051353865%18446744073709551616) 58 (by omega);rw[show (2 ^ 58:Nat)=288230376151711744 from rfl] at b4;generalize 2 ^ tz x*285870213051353865%18446744073709551616 / 288230376151711744=j at *;generalize 2 ^ tz x*285870213051353865%18446744073709551616=q at *;generalize 2 ^ tz x=p at *;have b3:tq .mul (.int .u64 (p:Int)) (.int .u64 285870213051353865)=some (.int .u64 (q:Int)):=b3;have b4:tq .shr (.int .u64 (q:Int)) (.int .u64 58)=some (.int .u64 (j:Int)):=b4;have f5:(j:Int)<64:=by omega
 have f6:IntKind.i64.wrap ((tz x:Nat):Int)=((tz x:Nat):Int):=I9 (by omega);clear e1;generalize tz x=z at *;generalize 18446744073709551616-x=y at *;generalize (x:Int)=X at *;generalize hC:(285870213051353865:Int)=C at *;rw[<-amH] at e4;refine⟨y,p,q,j,_,?_,⟨by omega,f5⟩,by rw[show (j:Int).toNat=j by omega]; exact e4,e2⟩;clear e4 e3 e2 f6;generalize (j:Int)=J at *;generalize (q:Int)=Q at *;generalize (p:Int)=Pp at *;generalize (y:Int)=Y at *;unfold zF;simp[Kx,Kw,Xc,zF,List.take_succ_cons,List.take_zero,b1,u1,b2,hC,b3,b4,aH,aN,bI,cV,dY,aM,aR,aK,ah,aQ,bu,bL,bC,-tq,-WM,-WM]
theorem tz_b (X Y Pp Q J:Int) (z:Nat) (T:List AV) (h0:0<=J) (h1:J<64) (hz:z<64) (h:(aq.gl 0).drop J.toNat=.int .u8 (z:Nat)::T):∃T',pz aq (bJ aq) (zF.drop 6) ⟨[(0,.int .u64 X),(4,.bool false),(5,.int .u64 X),(6,.int .u64 X),(7,.int .u64 Y),(8,.int .u64 Pp),(9,.int .u64 Q),(10,.int .u64 J)],[]⟩=some (⟨[(0,.int .u64 X),(2,.int .i64 (z:Nat)),(4,.bool false),(5,.int .u64 X),(6,.int .u64 X),(7,.int .u64 Y),(8,.int .u64 Pp),(9,.int .u64 Q),(10,.int .u64 J),(11,.dG T'),(12,.int .u8 (z:Nat)),(13,.int .i64 (z:Nat))],[]⟩,[.no,.rd [],.no,.no]):=by
 refine⟨.int .u8 (z:Nat)::T,?_⟩;have hw:=I9 (i:=z) (by omega);generalize hG:aq.gl 0=G at *;unfold zF;simp[Kx,Kw,Xc,zF,List.drop_succ_cons,cP,h0,h1,hG,h,hw,idx,aH,aN,bI,cV,dY,aM,aR,aK,ah,aQ,bu,bL,bC]
theorem adH (x:Nat) (h0:x≠0) (hx:x<18446744073709551616):bJ aq T7 [.int .u64 x] []=some (.int .i64 (tz x:Nat),[]):=by
 rw[dZ sQb6 (au rfl)];obtain⟨y,p,q,j,T,r1,⟨j0,j1⟩,r2,r3⟩:=tz_a x h0 hx;obtain⟨T',r4⟩:=tz_b x y p q j (tz x) T j0 j1 r3 r2;have r5:=TV _ _ _ r1 r4;rw[List.take_append_drop] at r5
 have r6:aW aq 0 (.qT zF false [] [2]) ⟨[(0,.int .u64 x),(4,.bool false)],[]⟩=some (.normal,⟨[(2,.int .i64 (tz x:Nat))],[]⟩):=by
  rw[Ql,r5];clear r1 r2 r3 r4 r5;simp[aec,Yp,vo,bY,endK,uy,trim,Uo,PA]
 have b1:tq .eql (.int .u64 (x:Int)) (.int .u64 0)=some (.bool false):=by
  have:((x:Int) == 0)=false:=by rw[beq_eq_false_iff_ne]; omega
  unfold tq;simp only[if_true,arith,this]
 clear r1 r2 r3 r4 r5 h0 hx;generalize ((tz x:Nat):Int)=z at *;generalize (x:Int)=X at *
 have r7:aW aq 0 (.qT Kw false [] [0,4]) ⟨[(0,.int .u64 X)],[]⟩=some (.normal,⟨[(0,.int .u64 X),(4,.bool false)],[]⟩):=by
  unfold Kw;simp[pw,pq,po,pk,pj,ph,pg,pf,pe,b1,aH,aN,bI,cV,dY,aM,aR,aK,ah,aQ,bu,bL,bC,-tq]
 have r8:aW aq 0 (.qT Kx false [] [0]) ⟨[(0,.int .u64 X)],[]⟩=some (.normal,⟨[(0,.int .u64 X)],[]⟩):=by
  unfold Kx;simp[pw,pq,po,pk,pj,ph,pg,pf,pe,aH,aN,bI,cV,dY,aM,aR,aK,ah,aQ,bu,bL,bC]
 show bL aq _ _ 0 (aW aq 0 cQb6 ⟨[(0,.int .u64 X)],[]⟩)=_;unfold cQb6;rw[fF,r8,o7,fF,fF,r7,o7,Qm];show bL aq _ _ 0 (Ot aq 0 _ (aW aq 0 .skip ⟨[(0,.int .u64 X),(4,.bool false)],[]⟩))=_;rw[ML,o7,fF,r6,o7,Qk];simp[bL,bC,qQb6,sU,resV,bq,fE,P0,qQ,nf,Yl]
theorem XJ:∀(m:Nat),m<18446744073709551616->∀(o:List Int),o.length+(bZ m).length<=64->aW aq 0 (.loop RB) ⟨[(0,.int .u64 m),(3,.own 1 (ints o))],[]⟩=some (.exit 0,⟨[(0,.int .u64 (0:Nat)),(3,.own 1 (ints (o++bZ m))),(5,.bool false)],[]⟩):=by
 intro m
 induction m using Nat.strongRecOn with
 |ind m ih=>
   intro hm o hL;by_cases h0:m=0
   ·subst h0;rw[adC,List.append_nil];exact bn (by unfold RB; simp[Q7,Q6,Q5,Q4,Q3,Q2,aH,aN,bI,cV,dY,aM,aR,aK,ah,aQ,bu,bL,bC])
   ·have n0:¬((m:Int)=0):=by omega
    have hd:=acd h0;have ht:=adH m h0 hm;have w1:=decU h0 hm;have w2:=u64_and_nat m (m-1) hm (by omega);rw[Qy h0 hm,List.length_cons] at hL;have hL1:o.length+1<=4294967296:=by omega
    have ih:=ih (m &&& (m-1)) hd (by omega) (o++[(tz m:Int)]) (by simp; omega);rw[Qy h0 hm];rw[List.append_assoc] at ih;generalize (m:Int)=X at *;exact (aS (by unfold RB; simp[Q7,Q6,Q5,Q4,Q3,Q2,n0,ht,w1,w2,hL1,ks,cZ,dh,sQb6,iQb6,aH,aN,bI,cV,dY,aM,aR,aK,ah,aQ,bu,bL,bC])).trans ih
theorem Py (m:Nat) (hm:m<18446744073709551616):bJ aq Ud [.int .u64 m] []=some (.list 1 (ints (bZ m)),[]):=by
 rw[dZ sQa0 (au rfl)];have h:=XJ m hm [] (by have:=nt m; simpa using this);rw[List.nil_append,fH,dT] at h;unfold qQa0 cQa0;simp[Q7,Q6,Q5,Q4,Q3,Q2,h,dh,aH,aN,bI,cV,dY,aM,aR,aK,ah,aQ,bu,bL,bC]
/- What masks.Rows and masks.Count return; degree.Degrees. -/
theorem OB (N:Nat) (hN:N<=64) (Es:List Ed) (hE:Es.length<4294967295) (hv:∀e∈Es,0<=e.1/\e.1<e.2/\e.2<(N:Int)):∀(k i:Nat) (A:List Nat),i+k=Es.length->A.length=N->Small A->aW aq 0 (.loop abN) ⟨[(3,.own 1 (us A)),(12,.list 2 (fe Es)),(13,.int .i64 Es.length),(14,.int .i64 i)],[]⟩ =
  some (.exit 0,⟨[(3,.own 1 (us (AM (Es.drop i) A))),(12,.list 2 (fe Es)),(13,.int .i64 Es.length),(14,.int .i64 Es.length),(15,.bool false)],[]⟩)
 |0,i,A,hi,hA,hS=>by
   obtain rfl:i=Es.length:=by omega
   rw[List.drop_length];exact bn (by unfold abN; simp[aaL,aaK,aaJ,aaI,aaH,aaG,aaF,aaE,aaD,aaC,AM,List.foldl_nil])
 |k+1,i,A,hi,hA,hS=>by
   have bE:i<Es.length:=by omega
   have h1:(i:Int)<Es.length:=by omega
   have hw:=dA (i:=i) (by omega);obtain⟨u0,uv,vn⟩:=hv Es[i] (List.getElem_mem bE);have ih:=OB N hN Es hE hv k (i+1) (adF A Es[i]) (by omega) (by rw[Np]; exact hA) (QA hS (by omega) (by omega));rw[bz bE];have v0:0<=Es[i].2:=by omega
   have un:Es[i].1<(N:Int):=by omega
   have u0':¬Es[i].1<0:=by omega
   have v0':¬Es[i].2<0:=by omega
   have uN:Es[i].1.toNat<N:=by omega
   have vN:Es[i].2.toNat<N:=by omega
   have pu:=EA (v:=Es[i].1) (by omega) u0;have pv:=EA (v:=Es[i].2) (by omega) v0;have su:=shlU (v:=Es[i].1) u0 (by omega);have sv:=shlU (v:=Es[i].2) v0 (by omega);have su':IntKind.u64.wrap (2 ^ (min Es[i].1.toNat 64))=((2 ^ Es[i].1.toNat:Nat):Int):=by rw[<-su,Int.one_mul]
   have sv':IntKind.u64.wrap (2 ^ (min Es[i].2.toNat 64))=((2 ^ Es[i].2.toNat:Nat):Int):=by rw[<-sv,Int.one_mul]
   have gu:(us A)[Es[i].1.toNat]?=some (.int .u64 (A.getD Es[i].1.toNat 0:Nat)):=by
    rw[QM,aG,aj (by omega)]; rfl
   have xu:=xF hS Es[i].1.toNat;have ou:=u64_or_nat (A.getD Es[i].1.toNat 0) (2 ^ Es[i].2.toNat) xu pv;have eu:=WJ A Es[i].1.toNat (A.getD Es[i].1.toNat 0 ||| 2 ^ Es[i].2.toNat);have sm:Small (A.set Es[i].1.toNat (A.getD Es[i].1.toNat 0 ||| 2 ^ Es[i].2.toNat)):=FJ hS (Nat.or_lt_two_pow (n:=64) xu pv);have eln:(A.set Es[i].1.toNat (A.getD Es[i].1.toNat 0 ||| 2 ^ Es[i].2.toNat)).length=N:=by rw[List.length_set]; exact hA
   have ead:AM (Es[i]::Es.drop (i+1)) A=AM (Es.drop (i+1)) (adF A Es[i]):=rfl;rw[ead];have eA:adF A Es[i]=(A.set Es[i].1.toNat (A.getD Es[i].1.toNat 0 ||| 2 ^ Es[i].2.toNat)).set Es[i].2.toNat ((A.set Es[i].1.toNat (A.getD Es[i].1.toNat 0 ||| 2 ^ Es[i].2.toNat)).getD Es[i].2.toNat 0 ||| 2 ^ Es[i].1.toNat):=rfl;rw[eA] at ih ⊢;generalize hA1:A.set Es[i].1.toNat (A.getD Es[i].1.toNat 0 ||| 2 ^ Es[i].2.toNat)=A1 at *
   have gv:(us A1)[Es[i].2.toNat]?=some (.int .u64 (A1.getD Es[i].2.toNat 0:Nat)):=by
    rw[QM,aG,aj (by omega)]; rfl
   have ov:=u64_or_nat (A1.getD Es[i].2.toNat 0) (2 ^ Es[i].1.toNat) (xF sm _) pu;have ev:=WJ A1 Es[i].2.toNat (A1.getD Es[i].2.toNat 0 ||| 2 ^ Es[i].1.toNat);generalize A1.getD Es[i].2.toNat 0 ||| 2 ^ Es[i].1.toNat=q at *
   generalize A.getD Es[i].1.toNat 0 ||| 2 ^ Es[i].2.toNat=p at *
   generalize A1.getD Es[i].2.toNat 0=y at *;generalize A.getD Es[i].1.toNat 0=x at *;generalize 2 ^ Es[i].1.toNat=pU at *;generalize 2 ^ Es[i].2.toNat=pV at *;clear pu pv xu sm eA ead hA1;have gu':∀h:Es[i].1.toNat<(us A).length,(us A)[Es[i].1.toNat]=.int .u64 (x:Int):=fun h=>by rw[aj h] at gu; exact bj gu
   have gv':∀h:Es[i].2.toNat<(us A1).length,(us A1)[Es[i].2.toNat]=.int .u64 (y:Int):=fun h=>by rw[aj h] at gv; exact bj gv
   refine (aS (s':=⟨[(3,.own 1 (us (A1.set Es[i].2.toNat q))),(12,.list 2 (fe Es)),(13,.int .i64 Es.length),(14,.int .i64 ((i+1:Nat):Int))],[]⟩) ?_).trans ih;have g1:(fe Es)[i]?=some (.agg [.int .i64 Es[i].1,.int .i64 Es[i].2]):=by rw[bI,aj bE]; rfl
   have g2:∀h,(fe Es)[i]'h=.agg [.int .i64 Es[i].1,.int .i64 Es[i].2]:=fun h=>cV ..;have g5:=aN Es;have vN':Es[i].2<(N:Int):=vn;unfold abN;simp[aaL,aaK,aaJ,aaI,aaH,aaG,aaF,aaE,aaD,aaC,h1,bE,hw,u0,v0,u0',v0',un,vn,uv,uN,vN,su,sv,su',sv',gu,gv,gu',gv',g1,g2,g5,ou,ov,eu,ev,hA,eln,gL,idx,IntKind.bits,fz,pl,AV.leaf,aH]
theorem lV {N:Nat} {Es:List Ed} (h:uQ (N:Int) Es):(eK N Es).length=N/\Small (eK N Es)/\∀ a b:Nat,((eK N Es).getD a 0).testBit b=(decide (((a:Int),(b:Int))∈Es)||decide (((b:Int),(a:Int))∈Es)):=by
 have hn:=h.1;obtain⟨i1,i2,i3⟩:=Nl N (by omega) Es (bh N 0) (by simp) (fun x hx=>by have:=Sq hx; omega) h.2.2;refine⟨i1,i2,fun a b=>?_⟩;unfold eK;rw[i3];have:((bh N 0).getD a 0)=0:=by rw[aG,List.getElem?_replicate]; split<;>rfl
 rw[this,Nat.zero_testBit,Bool.false_or]
theorem Tb {N:Nat} {Es:List Ed} (h:uQ (N:Int) Es) (hE:Es.length<4294967295):bJ aq nQ8 [.agg [.int .i64 N,.list 2 (fe Es)]] []=some (.list 1 (us (eK N Es)),[]):=by
 have hn:N<=64:=by have:=h.1; omega
 have hl:=OB N hn Es hE h.2.2 Es.length 0 (bh N 0) (by omega) (by simp) (fun x hx=>by have:=Sq hx; omega);rw[fH,cP] at hl;have r1:bh N (AV.int .u64 0)=us (bh N 0):=akT N;have n0:¬(N:Int)<0:=by omega
 have nL:(N:Int)<=4294967296:=by omega
 have m1:max (N:Int) 0=(N:Int):=by omega
 have m2:¬(64:Int)<N:=by omega
 have ea:AM Es (bh N 0)=eK N Es:=rfl;rw[ea] at hl;have tk:(us (eK N Es)).take (eK N Es).length=us (eK N Es):=by rw[ahv,fk]
 have e:=(lV h).1
 have tkr:(us (bh N 0)).take N=us (bh N 0):=by
  have:=fk (l:=us (bh N 0))
  rwa [gL,cY] at this
 rw[e] at tk;have g5:=aN Es;rw[dZ sQ8 (au rfl)];unfold qQ8 cQ8;generalize fe Es=Y at *;simp[aaL,aaK,aaJ,aaI,aaH,aaG,aaF,aaE,aaD,aaC,hl,r1,tkr,e,cY,n0,nL,m1,m2,gL,tk,g5,ks,aH,dc,pl,bL,bC]
def pcA (x:Int):Int:=IntKind.u64.wrap (bits .and .u64 (x.fdiv 2) 6148914691236517205+bits .and .u64 x 6148914691236517205)
def pcB (x:Int):Int:=IntKind.u64.wrap (bits .and .u64 (x.fdiv 4) 3689348814741910323+bits .and .u64 x 3689348814741910323)
def pcC (x:Int):Int:=bits .and .u64 (IntKind.u64.wrap (x.fdiv 16+x)) 1085102592571150095
def pcD (n:Int) (x:Int):Int:=IntKind.u64.wrap (x+x.fdiv n)
def pcE (x:Int):Int:=bits .and .i64 (IntKind.i64.wrap (pcD 4294967296 (pcD 65536 (pcD 256 (pcC (pcB (pcA x))))))) 127
theorem afl (x:Int):bJ aq T6 [.int .u64 x] []=some (.int .i64 (pcE x),[]):=by
 obtain⟨a,ea⟩:∃a,IntKind.u64.wrap (bits .and .u64 (x.fdiv 2) 6148914691236517205+bits .and .u64 x 6148914691236517205)=a:=⟨_,rfl⟩;obtain⟨b,eb⟩:∃b,IntKind.u64.wrap (bits .and .u64 (a.fdiv 4) 3689348814741910323+bits .and .u64 a 3689348814741910323)=b:=⟨_,rfl⟩;obtain⟨c,ec⟩:∃c,bits .and .u64 (IntKind.u64.wrap (b.fdiv 16+b)) 1085102592571150095=c:=⟨_,rfl⟩;obtain⟨d,ed⟩:∃d,IntKind.u64.wrap (c+c.fdiv 256)=d:=⟨_,rfl⟩;obtain⟨e,ee⟩:∃e,IntKind.u64.wrap (d+d.fdiv 65536)=e:=⟨_,rfl⟩;obtain⟨f,ef⟩:∃f,IntKind.u64.wrap (e+e.fdiv 4294967296)=f:=⟨_,rfl⟩;have hp:pcE x=bits .and .i64 (IntKind.i64.wrap f) 127:=by unfold pcE pcD pcC pcB pcA; rw[ea,eb,ec,ed,ee,ef]
 rw[hp];rw[dZ sQb8 (au rfl)];unfold qQb8 cQb8;simp[aeC,aeB,aeA,aez,aey,aex,aew,aev,ea,eb,ec,ed,ee,ef,IntKind.bits,aH,bL,bC]
end Go.BmP
