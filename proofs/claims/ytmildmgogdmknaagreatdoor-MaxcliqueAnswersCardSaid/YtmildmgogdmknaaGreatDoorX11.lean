/- What the bits of biclique return: TrailingZeros64, list, mask. -/
import Derived.Test.YtmildmgogdmknaaGreatDoorK05
import Derived.Test.YtmildmgogdmknaaGreatDoorT01
import Derived.Test.YtmildmgogdmknaaGreatDoorT03
set_option linter.unusedSimpArgs false
set_option linter.unusedVariables false
set_option maxRecDepth 100000
set_option maxHeartbeats 4000000
open Int renaming one_mul → I7
open List renaming append_assoc → du, drop_eq_getElem_cons → aT, drop_zero → bY, eq_of_mem_replicate → Sb, getD_eq_getElem?_getD → aJ, getElem?_eq_getElem → an, getElem?_replicate → iE, getElem?_set_ne → bT, getElem?_set_self → VN, getElem_mem → cI, length_cons → cN, length_replicate → cz, nil_append → rP, replicate → aH, take_length → eW
open Nat renaming le_of_ble_eq_true → ah
open Option.some renaming inj → dv, injEq → ai
open Prod.mk renaming injEq → aP
namespace Go.BmP
open Go.Am Go.Bm
theorem alM:aq.gl 0=Sz.map (AV.int .u8):=rfl
theorem ajG:∀k,k<64->2 ^ k*285870213051353865%18446744073709551616 / 288230376151711744<64/\(Sz.map (AV.int .u8)).drop (2 ^ k*285870213051353865%18446744073709551616 / 288230376151711744)=.int .u8 (k:Nat)::(Sz.map (AV.int .u8)).drop (2 ^ k*285870213051353865%18446744073709551616 / 288230376151711744+1):=by
 intro k hk;have h1:∀k,k<64->2 ^ k*285870213051353865%18446744073709551616 / 288230376151711744<64/\Sz[2 ^ k*285870213051353865%18446744073709551616 / 288230376151711744]?=some ((k:Nat):Int):=by decide +kernel
 obtain⟨a,b⟩:=h1 k hk;refine⟨a,?_⟩;generalize 2 ^ k*285870213051353865%18446744073709551616 / 288230376151711744=j at a b;obtain⟨hj,e⟩:=List.getElem?_eq_some_iff.1 b;rw[aT (by simpa using hj),List.getElem_map,e]
theorem powc (n:Nat):(2:Int) ^ n=((2 ^ n:Nat):Int):=by simp
theorem aic (q s:Nat) (hs:s<64):kr .shr (.int .u64 (q:Int)) (.int .u64 (s:Int))=some (.int .u64 ((q / 2 ^ s:Nat):Int)):=by
 unfold kr;simp only;have hp:0<2 ^ s:=Nat.two_pow_pos s;rw[if_neg (by omega),show min (s:Int).toNat IntKind.u64.bits=s by (show min (s:Int).toNat 64=s); omega,powc,Int.fdiv_eq_ediv_of_nonneg _ (Int.natCast_nonneg _)];rfl
theorem aa6 (a b:Nat) (ha:a<18446744073709551616) (hb:b<18446744073709551616):kr .and (.int .u64 (a:Int)) (.int .u64 (b:Int))=some (.int .u64 ((a &&& b:Nat):Int)):=by
 unfold kr;simp only[if_true,arith,u64_and_nat a b ha hb]
theorem aid (a b:Nat):kr .mul (.int .u64 (a:Int)) (.int .u64 (b:Int))=some (.int .u64 ((a*b%18446744073709551616:Nat):Int)):=by
 unfold kr;simp only[if_true,arith,IntKind.wrap_u64];rw[<-Int.natCast_mul];rfl
theorem TI {c:fe} {call:Nat->List AV->Heap->Option (AV × Heap)}:∀(a b:List O) (s:St) {s' s'':St} {f g:List Fq},nI c call a s=some (s',f)->nI c call b s'=some (s'',g)->nI c call (a++b) s=some (s'',f++g)
 |[],b,s,s',s'',f,g,h,k=>by
   simp only[nI,ai,aP] at h;obtain⟨rfl,rfl⟩:=h;exact k
 |o::r,b,s,s',s'',f,g,h,k=>by
   simp only[nI,List.cons_append] at h ⊢;split at h
   case h_2=>cases h
   rename_i s1 fl h1;split at h
   case h_2=>cases h
   rename_i s2 rH h2;simp only[ai,aP] at h;obtain⟨rfl,rfl⟩:=h;rw[TI r b s1 h2 k];rfl
theorem tz_a (x:Nat) (h0:x≠0) (hx:x<18446744073709551616):∃(y p q j:Int) (T:List AV),nI aq (bp aq) (Hr.take 6) ⟨[(0,.int .u64 x),(4,.bool false)],[]⟩=some (⟨[(0,.int .u64 x),(4,.bool false),(5,.int .u64 x),(6,.int .u64 x),(7,.int .u64 y),(8,.int .u64 p),(9,.int .u64 q),(10,.int .u64 j)],[]⟩,[.no,.no,.no,.no,.no,.no])/\(0<=j/\j<64)/\(aq.gl 0).drop j.toNat=.int .u8 (tz x:Nat)::T/\tz x<64:=by
 obtain⟨e1,e2⟩:=Lib.lowest_bit 64 x h0 hx;have e2:tz x<64:=e2;have e1:x &&& (18446744073709551616-x)=2 ^ tz x:=e1;obtain⟨e3,e4⟩:=ajG (tz x) e2
 have b1:kr .eql (.int .u64 (x:Int)) (.int .u64 0)=some (.bool false):=by
  have:((x:Int) == 0)=false:=by rw[beq_eq_false_iff_ne]; omega
  unfold kr;simp only[if_true,arith,this]
 have u1:We .neg (.int .u64 (x:Int))=some (.int .u64 ((18446744073709551616-x:Nat):Int)):=by
  unfold We;simp only[IntKind.wrap_u64];rw[show (0-(x:Int))%18446744073709551616=((18446744073709551616-x:Nat):Int) by omega]
 have b2:=aa6 x (18446744073709551616-x) hx (by omega);rw[e1] at b2;have b3:=aid (2 ^ tz x) 285870213051353865;have b4:=aic (2 ^ tz x*285870213051353865%18446744073709551616) 58 (by omega);rw[show (2 ^ 58:Nat)=288230376151711744 from rfl] at b4;generalize 2 ^ tz x*285870213051353865%18446744073709551616 / 288230376151711744=j at *;generalize 2 ^ tz x*285870213051353865%18446744073709551616=q at *;generalize 2 ^ tz x=p at *;have b3:kr .mul (.int .u64 (p:Int)) (.int .u64 285870213051353865)=some (.int .u64 (q:Int)):=b3;have b4:kr .shr (.int .u64 (q:Int)) (.int .u64 58)=some (.int .u64 (j:Int)):=b4;have f5:(j:Int)<64:=by omega
 have f6:IntKind.i64.wrap ((tz x:Nat):Int)=((tz x:Nat):Int):=yR (by omega);clear e1;generalize tz x=z at *;generalize 18446744073709551616-x=y at *;generalize (x:Int)=X at *;generalize hC:(285870213051353865:Int)=C at *;rw[<-alM] at e4;refine⟨y,p,q,j,_,?_,⟨by omega,f5⟩,by rw[show (j:Int).toNat=j by omega]; exact e4,e2⟩;clear e4 e3 e2 f6;generalize (j:Int)=J at *;generalize (q:Int)=Q at *;generalize (p:Int)=Pp at *;generalize (y:Int)=Y at *;unfold Hr;simp[List.take_succ_cons,List.take_zero,u1,b2,hC,b3,b4,-kr,-We,-We]
theorem tz_b (X Y Pp Q J:Int) (z:Nat) (T:List AV) (h0:0<=J) (h1:J<64) (hz:z<64) (h:(aq.gl 0).drop J.toNat=.int .u8 (z:Nat)::T):∃T',nI aq (bp aq) (Hr.drop 6) ⟨[(0,.int .u64 X),(4,.bool false),(5,.int .u64 X),(6,.int .u64 X),(7,.int .u64 Y),(8,.int .u64 Pp),(9,.int .u64 Q),(10,.int .u64 J)],[]⟩=some (⟨[(0,.int .u64 X),(2,.int .i64 (z:Nat)),(4,.bool false),(5,.int .u64 X),(6,.int .u64 X),(7,.int .u64 Y),(8,.int .u64 Pp),(9,.int .u64 Q),(10,.int .u64 J),(11,.dV T'),(12,.int .u8 (z:Nat)),(13,.int .i64 (z:Nat))],[]⟩,[.no,.rd [],.no,.no]):=by
 refine⟨.int .u8 (z:Nat)::T,?_⟩;have hw:=yR (i:=z) (by omega);generalize hG:aq.gl 0=G at *;unfold Hr;simp[List.drop_succ_cons,bY,h0,h1,hG,h,hw,idx]
theorem Ja (x:Nat) (h0:x≠0) (hx:x<18446744073709551616):bp aq Z4 [.int .u64 x] []=some (.int .i64 (tz x:Nat),[]):=by
 rw[pM sQB (ah rfl)];obtain⟨y,p,q,j,T,r1,⟨j0,j1⟩,r2,r3⟩:=tz_a x h0 hx;obtain⟨T',r4⟩:=tz_b x y p q j (tz x) T j0 j1 r3 r2;have r5:=TI _ _ _ r1 r4;rw[List.take_append_drop] at r5
 have r6:aW aq 0 (.aN Hr false [] [2]) ⟨[(0,.int .u64 x),(4,.bool false)],[]⟩=some (.normal,⟨[(2,.int .i64 (tz x:Nat))],[]⟩):=by
  rw[Py,r5];clear r1 r2 r3 r4 r5;simp[acE,Xr,tZ,bX,endK,td,trim,T2,OR]
 have b1:kr .eql (.int .u64 (x:Int)) (.int .u64 0)=some (.bool false):=by
  have:((x:Int) == 0)=false:=by rw[beq_eq_false_iff_ne]; omega
  unfold kr;simp only[if_true,arith,this]
 clear r1 r2 r3 r4 r5 h0 hx;generalize ((tz x:Nat):Int)=z at *;generalize (x:Int)=X at *
 have r7:aW aq 0 (.aN Tt false [] [0,4]) ⟨[(0,.int .u64 X)],[]⟩=some (.normal,⟨[(0,.int .u64 X),(4,.bool false)],[]⟩):=by
  unfold Tt;simp[b1,-kr]
 have r8:aW aq 0 (.aN Tu false [] [0]) ⟨[(0,.int .u64 X)],[]⟩=some (.normal,⟨[(0,.int .u64 X)],[]⟩):=by
  unfold Tu;simp
 show bk aq _ _ 0 (aW aq 0 cQB ⟨[(0,.int .u64 X)],[]⟩)=_;unfold cQB;rw[di,r8,fO,di,di,r7,fO,oY];show bk aq _ _ 0 (yU aq 0 _ (aW aq 0 .skip ⟨[(0,.int .u64 X),(4,.bool false)],[]⟩))=_;rw[m4,fO,di,r6,fO,Px];simp[bk,bf,qQB,rM,resV,bC,fJ,Gy,pF,mZ,Xo]
theorem WW:∀(m:Nat),m<18446744073709551616->∀(o:List Int),o.length+(fG m).length<=64->aW aq 0 (.loop Rp) ⟨[(0,.int .u64 m),(3,.own 1 (ints o))],[]⟩=some (.exit 0,⟨[(0,.int .u64 (0:Nat)),(3,.own 1 (ints (o++fG m))),(5,.bool false)],[]⟩):=by
 intro m
 induction m using Nat.strongRecOn with
 |ind m ih=>
   intro hm o hL;by_cases h0:m=0
   ·subst h0;rw[PH,List.append_nil];exact bq (by unfold Rp; simp[QH,QG,QF])
   ·have n0:¬((m:Int)=0):=by omega
    have hd:=aaQ h0;have ht:=Ja m h0 hm;have w1:=decU h0 hm;have w2:=u64_and_nat m (m-1) hm (by omega);rw[Bl h0 hm,cN] at hL;have hL1:o.length+1<=4294967296:=by omega
    have ih:=ih (m &&& (m-1)) hd (by omega) (o++[(tz m:Int)]) (by simp; omega);rw[Bl h0 hm];rw[du] at ih;generalize (m:Int)=X at *;exact (aS (by unfold Rp; simp[QH,QG,QF,n0,ht,w1,w2,hL1,jx,er,cq,sQB,iQB,af])).trans ih
theorem OO (m:Nat) (hm:m<18446744073709551616):bp aq KM [.int .u64 m] []=some (.list 1 (ints (fG m)),[]):=by
 rw[pM sQa8 (ah rfl)];have h:=WW m hm [] (by have:=Fv m; simpa using this);rw[rP,fi,c8] at h;unfold qQa8 cQa8;simp[QJ,QI,QE,h,cq,af,bk,bf]
/- What masks.Rows and masks.Count return; degree.Degrees. -/
theorem NB (N:Nat) (hN:N<=64) (Es:List Ed) (hE:Es.length<4294967295) (hv:∀e∈Es,0<=e.1/\e.1<e.2/\e.2<(N:Int)):∀(k i:Nat) (A:List Nat),i+k=Es.length->A.length=N->Small A->aW aq 0 (.loop Rn) ⟨[(3,.own 1 (us A)),(12,.list 2 (bU Es)),(13,.int .i64 Es.length),(14,.int .i64 i)],[]⟩ =
  some (.exit 0,⟨[(3,.own 1 (us (l8 (Es.drop i) A))),(12,.list 2 (bU Es)),(13,.int .i64 Es.length),(14,.int .i64 Es.length),(15,.bool false)],[]⟩)
 |0,i,A,hi,hA,hS=>by
   obtain rfl:i=Es.length:=by omega
   rw[List.drop_length];exact bq (by unfold Rn; simp[Qh,Qg,Qf,Qe,Qd,Qc,l8,List.foldl_nil])
 |k+1,i,A,hi,hA,hS=>by
   have bD:i<Es.length:=by omega
   have h1:(i:Int)<Es.length:=by omega
   have hw:=dM (i:=i) (by omega);obtain⟨u0,uv,vn⟩:=hv Es[i] (cI bD);have ih:=NB N hN Es hE hv k (i+1) (VG A Es[i]) (by omega) (by rw[xz]; exact hA) (Bn hS (by omega) (by omega));rw[aT bD];have v0:0<=Es[i].2:=by omega
   have un:Es[i].1<(N:Int):=by omega
   have u0':¬Es[i].1<0:=by omega
   have v0':¬Es[i].2<0:=by omega
   have uN:Es[i].1.toNat<N:=by omega
   have vN:Es[i].2.toNat<N:=by omega
   have pu:=pQ (v:=Es[i].1) (by omega) u0;have pv:=pQ (v:=Es[i].2) (by omega) v0;have su:=Wm (v:=Es[i].1) u0 (by omega);have sv:=Wm (v:=Es[i].2) v0 (by omega);have su':IntKind.u64.wrap (2 ^ (min Es[i].1.toNat 64))=((2 ^ Es[i].1.toNat:Nat):Int):=by rw[<-su,I7]
   have sv':IntKind.u64.wrap (2 ^ (min Es[i].2.toNat 64))=((2 ^ Es[i].2.toNat:Nat):Int):=by rw[<-sv,I7]
   have gu:(us A)[Es[i].1.toNat]?=some (.int .u64 (A.getD Es[i].1.toNat 0:Nat)):=by
    rw[sG,aJ,an (by omega)]; rfl
   have xu:=jz hS Es[i].1.toNat;have ou:=u64_or_nat (A.getD Es[i].1.toNat 0) (2 ^ Es[i].2.toNat) xu pv;have eu:=Cf A Es[i].1.toNat (A.getD Es[i].1.toNat 0 ||| 2 ^ Es[i].2.toNat);have sm:Small (A.set Es[i].1.toNat (A.getD Es[i].1.toNat 0 ||| 2 ^ Es[i].2.toNat)):=uX hS (Nat.or_lt_two_pow (n:=64) xu pv);have eln:(A.set Es[i].1.toNat (A.getD Es[i].1.toNat 0 ||| 2 ^ Es[i].2.toNat)).length=N:=by rw[List.length_set]; exact hA
   have ead:l8 (Es[i]::Es.drop (i+1)) A=l8 (Es.drop (i+1)) (VG A Es[i]):=rfl;rw[ead];have eA:VG A Es[i]=(A.set Es[i].1.toNat (A.getD Es[i].1.toNat 0 ||| 2 ^ Es[i].2.toNat)).set Es[i].2.toNat ((A.set Es[i].1.toNat (A.getD Es[i].1.toNat 0 ||| 2 ^ Es[i].2.toNat)).getD Es[i].2.toNat 0 ||| 2 ^ Es[i].1.toNat):=rfl;rw[eA] at ih ⊢;generalize hA1:A.set Es[i].1.toNat (A.getD Es[i].1.toNat 0 ||| 2 ^ Es[i].2.toNat)=A1 at *
   have gv:(us A1)[Es[i].2.toNat]?=some (.int .u64 (A1.getD Es[i].2.toNat 0:Nat)):=by
    rw[sG,aJ,an (by omega)]; rfl
   have ov:=u64_or_nat (A1.getD Es[i].2.toNat 0) (2 ^ Es[i].1.toNat) (jz sm _) pu;have ev:=Cf A1 Es[i].2.toNat (A1.getD Es[i].2.toNat 0 ||| 2 ^ Es[i].1.toNat);generalize A1.getD Es[i].2.toNat 0 ||| 2 ^ Es[i].1.toNat=q at *
   generalize A.getD Es[i].1.toNat 0 ||| 2 ^ Es[i].2.toNat=p at *
   generalize A1.getD Es[i].2.toNat 0=y at *;generalize A.getD Es[i].1.toNat 0=x at *;generalize 2 ^ Es[i].1.toNat=pU at *;generalize 2 ^ Es[i].2.toNat=pV at *;clear pu pv xu sm eA ead hA1;have gu':∀h:Es[i].1.toNat<(us A).length,(us A)[Es[i].1.toNat]=.int .u64 (x:Int):=fun h=>by rw[an h] at gu; exact dv gu
   have gv':∀h:Es[i].2.toNat<(us A1).length,(us A1)[Es[i].2.toNat]=.int .u64 (y:Int):=fun h=>by rw[an h] at gv; exact dv gv
   refine (aS (s':=⟨[(3,.own 1 (us (A1.set Es[i].2.toNat q))),(12,.list 2 (bU Es)),(13,.int .i64 Es.length),(14,.int .i64 ((i+1:Nat):Int))],[]⟩) ?_).trans ih
   have g2:∀h,(bU Es)[i]'h=.agg [.int .i64 Es[i].1,.int .i64 Es[i].2]:=fun h=>bw ..;have g5:=az Es;have vN':Es[i].2<(N:Int):=vn;unfold Rn;simp[Qh,Qg,Qf,Qe,Qd,Qc,h1,bD,hw,u0,v0,u0',v0',un,vn,uv,uN,vN,su',sv',gu',gv',g2,g5,ou,ov,eu,ev,hA,eln,dU,idx,IntKind.bits,fz,pl,AV.leaf,aO]
theorem jO {N:Nat} {Es:List Ed} (h:jh (N:Int) Es):(dn N Es).length=N/\Small (dn N Es)/\∀ a b:Nat,((dn N Es).getD a 0).testBit b=(decide (((a:Int),(b:Int))∈Es)||decide (((b:Int),(a:Int))∈Es)):=by
 have hn:=h.1;obtain⟨i1,i2,i3⟩:=DN N (by omega) Es (aH N 0) (by simp) (fun x hx=>by have:=Sb hx; omega) h.2.2;refine⟨i1,i2,fun a b=>?_⟩;unfold dn;rw[i3];have:((aH N 0).getD a 0)=0:=by rw[aJ,iE]; split<;>rfl
 rw[this,Nat.zero_testBit,Bool.false_or]
theorem SN {N:Nat} {Es:List Ed} (h:jh (N:Int) Es) (hE:Es.length<4294967295):bp aq KH [.agg [.int .i64 N,.list 2 (bU Es)]] []=some (.list 1 (us (dn N Es)),[]):=by
 have hn:N<=64:=by have:=h.1; omega
 have hl:=NB N hn Es hE h.2.2 Es.length 0 (aH N 0) (by omega) (by simp) (fun x hx=>by have:=Sb hx; omega);rw[fi,bY] at hl;have r1:aH N (AV.int .u64 0)=us (aH N 0):=Wa N;have n0:¬(N:Int)<0:=by omega
 have nL:(N:Int)<=4294967296:=by omega
 have m1:max (N:Int) 0=(N:Int):=by omega
 have m2:¬(64:Int)<N:=by omega
 have ea:l8 Es (aH N 0)=dn N Es:=rfl;rw[ea] at hl;have tk:(us (dn N Es)).take (dn N Es).length=us (dn N Es):=by rw[PT,eW]
 have e:=(jO h).1
 have tkr:(us (aH N 0)).take N=us (aH N 0):=by
  have:=eW (l:=us (aH N 0))
  rwa [dU,cz] at this
 rw[e] at tk;have g5:=az Es;rw[pM sQc4 (ah rfl)];unfold qQc4 cQc4;generalize bU Es=Y at *;simp[Qk,Qj,Qi,Qb,hl,r1,tkr,e,cz,n0,nL,m2,dU,tk,g5,jx,aO,bk,bf]
def pcA (x:Int):Int:=IntKind.u64.wrap (bits .and .u64 (x.fdiv 2) 6148914691236517205+bits .and .u64 x 6148914691236517205)
def pcB (x:Int):Int:=IntKind.u64.wrap (bits .and .u64 (x.fdiv 4) 3689348814741910323+bits .and .u64 x 3689348814741910323)
def pcC (x:Int):Int:=bits .and .u64 (IntKind.u64.wrap (x.fdiv 16+x)) 1085102592571150095
def pcD (n:Int) (x:Int):Int:=IntKind.u64.wrap (x+x.fdiv n)
def pcE (x:Int):Int:=bits .and .i64 (IntKind.i64.wrap (pcD 4294967296 (pcD 65536 (pcD 256 (pcC (pcB (pcA x))))))) 127
theorem TJ (x:Int):bp aq nQ6 [.int .u64 x] []=some (.int .i64 (pcE x),[]):=by
 obtain⟨a,ea⟩:∃a,IntKind.u64.wrap (bits .and .u64 (x.fdiv 2) 6148914691236517205+bits .and .u64 x 6148914691236517205)=a:=⟨_,rfl⟩;obtain⟨b,eb⟩:∃b,IntKind.u64.wrap (bits .and .u64 (a.fdiv 4) 3689348814741910323+bits .and .u64 a 3689348814741910323)=b:=⟨_,rfl⟩;obtain⟨c,ec⟩:∃c,bits .and .u64 (IntKind.u64.wrap (b.fdiv 16+b)) 1085102592571150095=c:=⟨_,rfl⟩;obtain⟨d,ed⟩:∃d,IntKind.u64.wrap (c+c.fdiv 256)=d:=⟨_,rfl⟩;obtain⟨e,ee⟩:∃e,IntKind.u64.wrap (d+d.fdiv 65536)=e:=⟨_,rfl⟩;obtain⟨f,ef⟩:∃f,IntKind.u64.wrap (e+e.fdiv 4294967296)=f:=⟨_,rfl⟩;have hp:pcE x=bits .and .i64 (IntKind.i64.wrap f) 127:=by unfold pcE pcD pcC pcB pcA; rw[ea,eb,ec,ed,ee,ef]
 rw[hp];rw[pM sQ6 (ah rfl)];unfold qQ6 cQ6;simp[aiZ,aiY,aiX,aiW,aiV,aiU,aiT,aiS,ea,eb,ec,ed,ee,ef,IntKind.bits,bk,bf]
/- The neighbours that triangles.lists computes: plain law. -/
def nbF (u:Int) (e:Ed):Option Int:=if e.1=u then some e.2 else if e.2=u then some e.1 else none
theorem ag3 {R:List (List Int)} {e:Ed} {u:Nat} (hu:u<R.length) (h0:0<=e.1) (h1:e.1<e.2):(lsF R e).getD u []=R.getD u []++(nbF u e).toList:=by
 unfold lsF nbF;simp only[aJ];by_cases k1:e.1=(u:Int)
 ·have k2:¬e.2=(u:Int):=by omega
  rw[if_pos k1,bT (by omega),show e.1.toNat=u by omega,VN hu];rfl
 ·rw[if_neg k1];by_cases k2:e.2=(u:Int)
  ·rw[if_pos k2,show e.2.toNat=u by omega,VN (by simpa using hu)];rfl
  ·rw[if_neg k2,bT (by omega),bT (by omega)];simp
theorem Pn {N:Nat} {u:Nat} (hu:u<N):∀(Es:List Ed) (R:List (List Int)),R.length=N->(∀e∈Es,0<=e.1/\e.1<e.2)->(Es.foldl lsF R).getD u []=R.getD u []++Es.filterMap (nbF u)
 |[],R,_,_=>by simp
 |e::r,R,hR,h=>by
   have he:=h e (by simp);rw[List.foldl_cons,Pn hu r (lsF R e) (by rw[KZ]; exact hR) (fun x hx=>h x (by simp[hx])),ag3 (by omega) he.1 he.2,List.filterMap_cons,du];congr 1;cases nbF u e<;>simp
def B9 (N:Nat) (Es:List Ed) (u:Int):List Int:=(lstE N Es).getD u.toNat []
theorem aek {N:Nat} {Es:List Ed} {u:Nat} (hu:u<N) (h:∀e∈Es,0<=e.1/\e.1<e.2):B9 N Es u=iP (Es.filterMap (nbF u)):=by
 have:=Pn hu Es (aH N []) (by simp) h;have e0:(aH N ([]:List Int)).getD u []=[]:=by rw[aJ,iE,if_pos hu]; rfl
 rw[e0,rP] at this;unfold B9 lstE;have hl:u<(Es.foldl lsF (aH N [])).length:=by rw[abM,cz]; exact hu
 rw[show ((u:Int)).toNat=u by omega,aJ,List.getElem?_map];rw[aJ] at this;rw[an hl] at this ⊢;simp at this ⊢;rw[this]
theorem zV {u x:Int} {e:Ed}:nbF u e=some x ↔ (e.1=u/\e.2=x)\/(e.1≠u/\e.2=u/\e.1=x):=by
 unfold nbF;split
 ·rename_i h; simp[h]
 ·rename_i h;split
  ·rename_i h2; simp[h,h2]
  ·rename_i h2; simp[h,h2]
theorem rW {N:Nat} {Es:List Ed} (hG:jh (N:Int) Es) {u:Int} (h0:0<=u) (h1:u<N) (x:Int):x∈B9 N Es u ↔ jn Es u x:=by
 obtain⟨w,rfl⟩:∃w:Nat,u=w:=⟨u.toNat,by omega⟩;rw[aek (by omega) fun e he=>⟨(hG.2.2 e he).1,(hG.2.2 e he).2.1⟩,(kP _).mem_iff,List.mem_filterMap];unfold jn;constructor
 ·rintro⟨e,he,h⟩;rcases zV.1 h with⟨a,b⟩|⟨a,b,c⟩
  ·left; rw[<-a,<-b]; exact he
  ·right; rw[<-b,<-c]; exact he
 ·rintro (h|h)
  ·exact⟨_,h,zV.2 (.inl ⟨rfl,rfl⟩)⟩
  ·have:=(hG.2.2 _ h).2.1;exact⟨_,h,zV.2 (.inr ⟨by simp only at this ⊢; omega,rfl,rfl⟩)⟩
theorem WR {N:Nat} {Es:List Ed} (hG:jh (N:Int) Es) {u:Int} (h0:0<=u) (h1:u<N):Up (B9 N Es u):=by
 obtain⟨w,rfl⟩:∃w:Nat,u=w:=⟨u.toNat,by omega⟩;rw[aek (by omega) fun e he=>⟨(hG.2.2 e he).1,(hG.2.2 e he).2.1⟩]
 have nd:(Es.filterMap (nbF w)).Nodup:=by
  have hp:Es.Pairwise (fun a b=>KY a b/\(a.1<a.2/\b.1<b.2)):=by
   refine List.Pairwise.imp_of_mem (fun{a b} ha hb h=>⟨h,(hG.2.2 a ha).2.1,(hG.2.2 b hb).2.1⟩) hG.2.1
  refine List.Pairwise.filterMap _ (fun a b h x hx y hy e=>?_) hp;subst e;obtain⟨h1,h2,h3⟩:=h
  have:a=b:=by
   rcases zV.1 hx with⟨p,q⟩|⟨p,q,r⟩<;>rcases zV.1 hy with⟨p',q'⟩|⟨p',q',r'⟩
   ·exact Prod.ext (by omega) (by omega)
   ·exfalso; omega
   ·exfalso; omega
   ·exact Prod.ext (by omega) (by omega)
  subst this;exact ag2 h1
 have nd2:(iP (Es.filterMap (nbF w))).Nodup:=(kP _).nodup_iff.2 nd;refine List.Pairwise.imp₂ (fun{a b} h1 h2=>?_) (vM _) nd2;omega
theorem Lj {N:Nat} {Es:List Ed} (hG:jh (N:Int) Es) {u x:Int} (h:jn Es u x):(0<=u/\u<N)/\(0<=x/\x<N)/\u≠x:=by
 rcases h with h|h<;>(have:=hG.2.2 _ h; simp only at this; omega)
theorem X3 {N:Nat}:∀{l:List Int} {a:Nat},Up l->(∀x∈l,(a:Int)<=x/\x<N)->l.length<=N-a
 |[],a,_,_=>by simp
 |x::r,a,hu,h=>by
   obtain⟨h1,h2⟩:=List.pairwise_cons.1 hu;have hx:=h x (by simp);have ih:=X3 (l:=r) (a:=a+1) h2 fun y hy=>⟨by have:=h1 y hy; omega,(h y (by simp[hy])).2⟩;simp only[cN];omega
theorem Q4 {N:Nat} {Es:List Ed} (hG:jh (N:Int) Es) {u:Int} (h0:0<=u) (h1:u<N):(B9 N Es u).length<=N:=by
 have:=X3 (a:=0) (N:=N) (WR hG h0 h1) fun x hx=>⟨by have:=(Lj hG ((rW hG h0 h1 x).1 hx)).2.1; omega,(Lj hG ((rW hG h0 h1 x).1 hx)).2.1.2⟩;omega
/- What graph.Neighbours returns (X01's head, beside RwP, K07, T04). -/
theorem RV {N:Nat} {Es:List Ed} (hG:jh (N:Int) Es) {v:Nat} (hv:v<N):fG ((dn N Es).getD v 0)=B9 N Es v:=by
 have hN:=hG.1;obtain⟨_,_,h3⟩:=jO hG;refine sI (mT _) (WR hG (by omega) (by omega)) fun x=>?_;rw[gb,rW hG (by omega) (by omega)];constructor
 ·rintro⟨j,rfl,_,hj⟩;rw[h3] at hj;unfold jn;simpa using hj
 ·intro hj;have hb:=Lj hG hj;obtain⟨j,rfl⟩:∃j:Nat,x=j:=⟨x.toNat,by omega⟩;refine⟨j,rfl,by omega,?_⟩;rw[h3];unfold jn at hj;simpa using hj
theorem age {N:Nat} {Es:List Ed} (hG:jh (N:Int) Es) (hE:Es.length<1000000) {v:Nat} (hv:v<N):bp aq MQ [.agg [.int .i64 N,.list 2 (bU Es)],.int .i64 v] []=some (.int .u64 ((dn N Es).getD v 0:Nat),[]):=by
 have hN:=hG.1;have rr:=SN hG (by omega);have cc:=im (N:Int) Es (by omega);rw[eB.2 hG] at cc;obtain⟨a1,a2,_⟩:=jO hG;have v0:¬(v:Int)<0:=by omega
 have v1:¬((dn N Es).length:Int)<=(v:Int):=by omega
 have v2:(v:Int)<(dn N Es).length:=by omega
 have v3:v<(dn N Es).length:=by omega
 have gv:(us (dn N Es))[v]?=some (.int .u64 ((dn N Es).getD v 0:Nat)):=by
  rw[sG,an v3,aJ,an v3]; rfl
 have gv':∀h:v<(us (dn N Es)).length,(us (dn N Es))[v]=.int .u64 ((dn N Es).getD v 0:Nat):=fun h=>by rw[an h] at gv; exact dv gv
 rw[pM sQa9 (ah rfl)];unfold qQa9 cQa9;generalize bU Es=Y at *;have gl:=dU (dn N Es);generalize us (dn N Es)=Z at *;generalize (dn N Es).getD v 0=q at *;rw[a1] at *;simp[ada,ac9,ac8,ac7,ac6,rr,cc,v0,v1,v2,v3,gv',gl,idx,sQc4,iQc4,Mw,O7,aO,bk,bf]
theorem ahl {N:Nat} {Es:List Ed} (hG:jh (N:Int) Es) (hE:Es.length<1000000) {v:Nat} (hv:v<N):bp aq nQO [.agg [.int .i64 N,.list 2 (bU Es)],.int .i64 v] []=some (.list 1 (ints (B9 N Es v)),[]):=by
 have rr:=age hG hE hv;obtain⟨a1,a2,_⟩:=jO hG
 have sm:(dn N Es).getD v 0<18446744073709551616:=by
  rw[aJ,an (by omega)];exact a2 _ (cI _)
 have ll:=OO _ sm;rw[RV hG hv] at ll;generalize (dn N Es).getD v 0=q at rr ll;rw[pM sQO (ah rfl)];unfold qQO cQO;generalize bU Es=Y at *;generalize ints (B9 N Es v)=Z at *;simp[aiF,aiE,rr,ll,sQa9,iQa9,sQa8,iQa8,aO,bk,bf]
end Go.BmP
