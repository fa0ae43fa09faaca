/- What the bits of biclique return: TrailingZeros64, list, mask. -/
import Derived.Test.YtpimmjklbakckaaDoorL61
import Derived.Test.YtpimmjklbakckaaDoorK04
set_option linter.unusedSimpArgs false
set_option linter.unusedVariables false
set_option maxRecDepth 100000
set_option maxHeartbeats 4000000
open List renaming drop_eq_getElem_cons → cm, drop_zero → dN, eq_of_mem_replicate → Jo, getD_eq_getElem?_getD → aT, getElem?_eq_getElem → aB, length_replicate → cJ, replicate → aV, take_length → eE
open Nat renaming le_of_ble_eq_true → aF
open Option.some renaming inj → bJ, injEq → af
open Prod.mk renaming injEq → aA
namespace Go.BmP
open Go.Am Go.Bm
theorem adK:aD.gl 0=JI.map (AV.int .u8):=rfl
theorem aci:∀k,k<64->2 ^ k*285870213051353865%18446744073709551616 / 288230376151711744<64/\(JI.map (AV.int .u8)).drop (2 ^ k*285870213051353865%18446744073709551616 / 288230376151711744)=.int .u8 (k:Nat)::(JI.map (AV.int .u8)).drop (2 ^ k*285870213051353865%18446744073709551616 / 288230376151711744+1):=by
 intro k hk;have h1:∀k,k<64->2 ^ k*285870213051353865%18446744073709551616 / 288230376151711744<64/\JI[2 ^ k*285870213051353865%18446744073709551616 / 288230376151711744]?=some ((k:Nat):Int):=by decide +kernel
 obtain⟨a,b⟩:=h1 k hk;refine⟨a,?_⟩;generalize 2 ^ k*285870213051353865%18446744073709551616 / 288230376151711744=j at a b;obtain⟨hj,e⟩:=List.getElem?_eq_some_iff.1 b;rw[cm (by simpa using hj),List.getElem_map,e]
theorem powc (n:Nat):(2:Int) ^ n=((2 ^ n:Nat):Int):=by simp
theorem aaP (q s:Nat) (hs:s<64):qg .shr (.int .u64 (q:Int)) (.int .u64 (s:Int))=some (.int .u64 ((q / 2 ^ s:Nat):Int)):=by
 unfold qg;simp only;have hp:0<2 ^ s:=Nat.two_pow_pos s;rw[if_neg (by omega),show min (s:Int).toNat IntKind.u64.bits=s by (show min (s:Int).toNat 64=s); omega,powc,Int.fdiv_eq_ediv_of_nonneg _ (Int.natCast_nonneg _)];rfl
theorem aaR (a b:Nat) (ha:a<18446744073709551616) (hb:b<18446744073709551616):qg .and (.int .u64 (a:Int)) (.int .u64 (b:Int))=some (.int .u64 ((a &&& b:Nat):Int)):=by
 unfold qg;simp only[if_true,arith,u64_and_nat a b ha hb]
theorem aaQ (a b:Nat):qg .mul (.int .u64 (a:Int)) (.int .u64 (b:Int))=some (.int .u64 ((a*b%18446744073709551616:Nat):Int)):=by
 unfold qg;simp only[if_true,arith,IntKind.wrap_u64];rw[<-Int.natCast_mul];rfl
theorem Kw {c:dM} {call:Nat->List AV->Heap->Option (AV × Heap)}:∀(a b:List O) (s:St) {s' YF:St} {f g:List Fq},my c call a s=some (s',f)->my c call b s'=some (YF,g)->my c call (a++b) s=some (YF,f++g)
 |[],b,s,s',YF,f,g,h,k=>by
   simp only[my,af,aA] at h;obtain⟨rfl,rfl⟩:=h;exact k
 |o::r,b,s,s',YF,f,g,h,k=>by
   simp only[my,List.cons_append] at h ⊢;split at h
   case h_2=>cases h
   rename_i s1 fl h1;split at h
   case h_2=>cases h
   rename_i s2 pX h2;simp only[af,aA] at h;obtain⟨rfl,rfl⟩:=h;rw[Kw r b s1 h2 k];rfl
theorem tz_a (x:Nat) (h0:x≠0) (hx:x<18446744073709551616):∃(y p q j:Int) (T:List AV),my aD (bS aD) (BM.take 6) ⟨[(0,.int .u64 x),(4,.bool false)],[]⟩=some (⟨[(0,.int .u64 x),(4,.bool false),(5,.int .u64 x),(6,.int .u64 x),(7,.int .u64 y),(8,.int .u64 p),(9,.int .u64 q),(10,.int .u64 j)],[]⟩,[.no,.no,.no,.no,.no,.no])/\(0<=j/\j<64)/\(aD.gl 0).drop j.toNat=.int .u8 (tz x:Nat)::T/\tz x<64:=by
 obtain⟨e1,e2⟩:=Lib.lowest_bit 64 x h0 hx;have e2:tz x<64:=e2;have e1:x &&& (18446744073709551616-x)=2 ^ tz x:=e1;obtain⟨e3,e4⟩:=aci (tz x) e2
 have b1:qg .eql (.int .u64 (x:Int)) (.int .u64 0)=some (.bool false):=by
  have:((x:Int) == 0)=false:=by rw[beq_eq_false_iff_ne]; omega
  unfold qg;simp only[if_true,arith,this]
 have u1:M1 .neg (.int .u64 (x:Int))=some (.int .u64 ((18446744073709551616-x:Nat):Int)):=by
  unfold M1;simp only[IntKind.wrap_u64];rw[show (0-(x:Int))%18446744073709551616=((18446744073709551616-x:Nat):Int) by omega]
 have b2:=aaR x (18446744073709551616-x) hx (by omega);rw[e1] at b2;have b3:=aaQ (2 ^ tz x) 285870213051353865;have b4:=aaP (2 ^ tz x*285870213051353865%18446744073709551616) 58 (by omega);rw[show (2 ^ 58:Nat)=288230376151711744 from rfl] at b4;generalize 2 ^ tz x*285870213051353865%18446744073709551616 / 288230376151711744=j at *;generalize 2 ^ tz x*285870213051353865%18446744073709551616=q at *;generalize 2 ^ tz x=p at *;have b3:qg .mul (.int .u64 (p:Int)) (.int .u64 285870213051353865)=some (.int .u64 (q:Int)):=b3;have b4:qg .shr (.int .u64 (q:Int)) (.int .u64 58)=some (.int .u64 (j:Int)):=b4;have f5:(j:Int)<64:=by omega
 have f6:IntKind.i64.wrap ((tz x:Nat):Int)=((tz x:Nat):Int):=Gb (by omega);clear e1;generalize tz x=z at *;generalize 18446744073709551616-x=y at *;generalize (x:Int)=X at *;generalize hC:(285870213051353865:Int)=C at *;rw[<-adK] at e4;refine⟨y,p,q,j,_,?_,⟨by omega,f5⟩,by rw[show (j:Int).toNat=j by omega]; exact e4,e2⟩;clear e4 e3 e2 f6;generalize (j:Int)=J at *;generalize (q:Int)=Q at *;generalize (p:Int)=Pp at *;generalize (y:Int)=Y at *;unfold BM;simp[Kj,Ki,Ve,BM,List.take_succ_cons,List.take_zero,b1,u1,b2,hC,b3,b4,aN,bf,bW,dF,fh,aY,bj,aX,ah,aZ,bG,cB,bU,-qg,-M1,-M1]
theorem tz_b (X Y Pp Q J:Int) (z:Nat) (T:List AV) (h0:0<=J) (h1:J<64) (hz:z<64) (h:(aD.gl 0).drop J.toNat=.int .u8 (z:Nat)::T):∃T',my aD (bS aD) (BM.drop 6) ⟨[(0,.int .u64 X),(4,.bool false),(5,.int .u64 X),(6,.int .u64 X),(7,.int .u64 Y),(8,.int .u64 Pp),(9,.int .u64 Q),(10,.int .u64 J)],[]⟩=some (⟨[(0,.int .u64 X),(2,.int .i64 (z:Nat)),(4,.bool false),(5,.int .u64 X),(6,.int .u64 X),(7,.int .u64 Y),(8,.int .u64 Pp),(9,.int .u64 Q),(10,.int .u64 J),(11,.de T'),(12,.int .u8 (z:Nat)),(13,.int .i64 (z:Nat))],[]⟩,[.no,.rd [],.no,.no]):=by
 refine⟨.int .u8 (z:Nat)::T,?_⟩;have hw:=Gb (i:=z) (by omega);generalize hG:aD.gl 0=G at *;unfold BM;simp[Kj,Ki,Ve,BM,List.drop_succ_cons,dN,h0,h1,hG,h,hw,idx,aN,bf,bW,dF,fh,aY,bj,aX,ah,aZ,bG,cB,bU]
theorem UB (x:Nat) (h0:x≠0) (hx:x<18446744073709551616):bS aD nQV [.int .u64 x] []=some (.int .i64 (tz x:Nat),[]):=by
 rw[fZ sQV (aF rfl)];obtain⟨y,p,q,j,T,r1,⟨j0,j1⟩,r2,r3⟩:=tz_a x h0 hx;obtain⟨T',r4⟩:=tz_b x y p q j (tz x) T j0 j1 r3 r2;have r5:=Kw _ _ _ r1 r4;rw[List.take_append_drop] at r5
 have r6:bh aD 0 (.rW BM false [] [2]) ⟨[(0,.int .u64 x),(4,.bool false)],[]⟩=some (.normal,⟨[(2,.int .i64 (tz x:Nat))],[]⟩):=by
  rw[Ho,r5];clear r1 r2 r3 r4 r5;simp[U0,Oe,rL,bH,Xs,qO,trim,KN,GU]
 have b1:qg .eql (.int .u64 (x:Int)) (.int .u64 0)=some (.bool false):=by
  have:((x:Int) == 0)=false:=by rw[beq_eq_false_iff_ne]; omega
  unfold qg;simp only[if_true,arith,this]
 clear r1 r2 r3 r4 r5 h0 hx;generalize ((tz x:Nat):Int)=z at *;generalize (x:Int)=X at *
 have r7:bh aD 0 (.rW Ki false [] [0,4]) ⟨[(0,.int .u64 X)],[]⟩=some (.normal,⟨[(0,.int .u64 X),(4,.bool false)],[]⟩):=by
  unfold Ki;simp[mw,mq,mo,mj,mi,mh,mg,me,l9,b1,aN,bf,bW,dF,fh,aY,bj,aX,ah,aZ,bG,cB,bU,-qg]
 have r8:bh aD 0 (.rW Kj false [] [0]) ⟨[(0,.int .u64 X)],[]⟩=some (.normal,⟨[(0,.int .u64 X)],[]⟩):=by
  unfold Kj;simp[mw,mq,mo,mj,mi,mh,mg,me,l9,aN,bf,bW,dF,fh,aY,bj,aX,ah,aZ,bG,cB,bU]
 show cB aD _ _ 0 (bh aD 0 cQV ⟨[(0,.int .u64 X)],[]⟩)=_;unfold cQV;rw[eQ,r8,lX,eQ,eQ,r7,lX,Hp];show cB aD _ _ 0 (Gi aD 0 _ (bh aD 0 .skip ⟨[(0,.int .u64 X),(4,.bool false)],[]⟩))=_;rw[EU,lX,eQ,r6,lX,Hn];simp[cB,bU,qQV,p9,Tf,aR,eP,G8,nZ,ks,Oa]
theorem NG:∀(m:Nat),m<18446744073709551616->∀(o:List Int),o.length+(cI m).length<=64->bh aD 0 (.loop Rx) ⟨[(0,.int .u64 m),(3,.own 1 (ints o))],[]⟩=some (.exit 0,⟨[(0,.int .u64 (0:Nat)),(3,.own 1 (ints (o++cI m))),(5,.bool false)],[]⟩):=by
 intro m
 induction m using Nat.strongRecOn with
 |ind m ih=>
   intro hm o hL;by_cases h0:m=0
   ·subst h0;rw[Ui,List.append_nil];exact cv (by unfold Rx; simp[Qb,Qa,P9,P8,P7,P6,aN,bf,bW,dF,fh,aY,bj,aX,ah,aZ,bG,cB,bU])
   ·have n0:¬((m:Int)=0):=by omega
    have hd:=RW h0;have ht:=UB m h0 hm;have w1:=decU h0 hm;have w2:=u64_and_nat m (m-1) hm (by omega);rw[HF h0 hm,List.length_cons] at hL;have hL1:o.length+1<=4294967296:=by omega
    have ih:=ih (m &&& (m-1)) hd (by omega) (o++[(tz m:Int)]) (by simp; omega);rw[HF h0 hm];rw[List.append_assoc] at ih;generalize (m:Int)=X at *;exact (bI (by unfold Rx; simp[Qb,Qa,P9,P8,P7,P6,n0,ht,w1,w2,hL1,p7,fY,dC,sQV,iQV,aN,bf,bW,dF,fh,aY,bj,aX,ah,aZ,bG,cB,bU])).trans ih
theorem GS (m:Nat) (hm:m<18446744073709551616):bS aD nQJ [.int .u64 m] []=some (.list 1 (ints (cI m)),[]):=by
 rw[fZ sQJ (aF rfl)];have h:=NG m hm [] (by have:=v7 m; simpa using this);rw[List.nil_append,mB,dT] at h;unfold qQJ cQJ;simp[Qb,Qa,P9,P8,P7,P6,h,dC,aN,bf,bW,dF,fh,aY,bj,aX,ah,aZ,bG,cB,bU]
/- What masks.Rows and masks.Count return; degree.Degrees. -/
theorem Gn (N:Nat) (hN:N<=64) (Es:List Ed) (hE:Es.length<4294967295) (hv:∀e∈Es,0<=e.1/\e.1<e.2/\e.2<(N:Int)):∀(k i:Nat) (A:List Nat),i+k=Es.length->A.length=N->Small A->bh aD 0 (.loop Ry) ⟨[(3,.own 1 (us A)),(12,.list 2 (iQ Es)),(13,.int .i64 Es.length),(14,.int .i64 i)],[]⟩ =
  some (.exit 0,⟨[(3,.own 1 (us (wi (Es.drop i) A))),(12,.list 2 (iQ Es)),(13,.int .i64 Es.length),(14,.int .i64 Es.length),(15,.bool false)],[]⟩)
 |0,i,A,hi,hA,hS=>by
   obtain rfl:i=Es.length:=by omega
   rw[List.drop_length];exact cv (by unfold Ry; simp[Qv,Qu,Qt,Qs,Qr,Qq,Qp,Qo,Qn,Qm,wi,List.foldl_nil])
 |k+1,i,A,hi,hA,hS=>by
   have bY:i<Es.length:=by omega
   have h1:(i:Int)<Es.length:=by omega
   have hw:=fT (i:=i) (by omega);obtain⟨u0,uv,vn⟩:=hv Es[i] (List.getElem_mem bY);have ih:=Gn N hN Es hE hv k (i+1) (X3 A Es[i]) (by omega) (by rw[Ft]; exact hA) (HG hS (by omega) (by omega));rw[cm bY];have v0:0<=Es[i].2:=by omega
   have un:Es[i].1<(N:Int):=by omega
   have u0':¬Es[i].1<0:=by omega
   have v0':¬Es[i].2<0:=by omega
   have uN:Es[i].1.toNat<N:=by omega
   have vN:Es[i].2.toNat<N:=by omega
   have pu:=zq (v:=Es[i].1) (by omega) u0;have pv:=zq (v:=Es[i].2) (by omega) v0;have su:=shlU (v:=Es[i].1) u0 (by omega);have sv:=shlU (v:=Es[i].2) v0 (by omega);have su':IntKind.u64.wrap (2 ^ (min Es[i].1.toNat 64))=((2 ^ Es[i].1.toNat:Nat):Int):=by rw[<-su,Int.one_mul]
   have sv':IntKind.u64.wrap (2 ^ (min Es[i].2.toNat 64))=((2 ^ Es[i].2.toNat:Nat):Int):=by rw[<-sv,Int.one_mul]
   have gu:(us A)[Es[i].1.toNat]?=some (.int .u64 (A.getD Es[i].1.toNat 0:Nat)):=by
    rw[HR,aT,aB (by omega)]; rfl
   have xu:=tN hS Es[i].1.toNat;have ou:=u64_or_nat (A.getD Es[i].1.toNat 0) (2 ^ Es[i].2.toNat) xu pv;have eu:=MY A Es[i].1.toNat (A.getD Es[i].1.toNat 0 ||| 2 ^ Es[i].2.toNat);have sm:Small (A.set Es[i].1.toNat (A.getD Es[i].1.toNat 0 ||| 2 ^ Es[i].2.toNat)):=Aw hS (Nat.or_lt_two_pow (n:=64) xu pv);have eln:(A.set Es[i].1.toNat (A.getD Es[i].1.toNat 0 ||| 2 ^ Es[i].2.toNat)).length=N:=by rw[List.length_set]; exact hA
   have ead:wi (Es[i]::Es.drop (i+1)) A=wi (Es.drop (i+1)) (X3 A Es[i]):=rfl;rw[ead];have eA:X3 A Es[i]=(A.set Es[i].1.toNat (A.getD Es[i].1.toNat 0 ||| 2 ^ Es[i].2.toNat)).set Es[i].2.toNat ((A.set Es[i].1.toNat (A.getD Es[i].1.toNat 0 ||| 2 ^ Es[i].2.toNat)).getD Es[i].2.toNat 0 ||| 2 ^ Es[i].1.toNat):=rfl;rw[eA] at ih ⊢;generalize hA1:A.set Es[i].1.toNat (A.getD Es[i].1.toNat 0 ||| 2 ^ Es[i].2.toNat)=A1 at *
   have gv:(us A1)[Es[i].2.toNat]?=some (.int .u64 (A1.getD Es[i].2.toNat 0:Nat)):=by
    rw[HR,aT,aB (by omega)]; rfl
   have ov:=u64_or_nat (A1.getD Es[i].2.toNat 0) (2 ^ Es[i].1.toNat) (tN sm _) pu;have ev:=MY A1 Es[i].2.toNat (A1.getD Es[i].2.toNat 0 ||| 2 ^ Es[i].1.toNat);generalize A1.getD Es[i].2.toNat 0 ||| 2 ^ Es[i].1.toNat=q at *
   generalize A.getD Es[i].1.toNat 0 ||| 2 ^ Es[i].2.toNat=p at *
   generalize A1.getD Es[i].2.toNat 0=y at *;generalize A.getD Es[i].1.toNat 0=x at *;generalize 2 ^ Es[i].1.toNat=pU at *;generalize 2 ^ Es[i].2.toNat=pV at *;clear pu pv xu sm eA ead hA1;have gu':∀h:Es[i].1.toNat<(us A).length,(us A)[Es[i].1.toNat]=.int .u64 (x:Int):=fun h=>by rw[aB h] at gu; exact bJ gu
   have gv':∀h:Es[i].2.toNat<(us A1).length,(us A1)[Es[i].2.toNat]=.int .u64 (y:Int):=fun h=>by rw[aB h] at gv; exact bJ gv
   refine (bI (s':=⟨[(3,.own 1 (us (A1.set Es[i].2.toNat q))),(12,.list 2 (iQ Es)),(13,.int .i64 Es.length),(14,.int .i64 ((i+1:Nat):Int))],[]⟩) ?_).trans ih;have g1:(iQ Es)[i]?=some (.agg [.int .i64 Es[i].1,.int .i64 Es[i].2]):=by rw[bW,aB bY]; rfl
   have g2:∀h,(iQ Es)[i]'h=.agg [.int .i64 Es[i].1,.int .i64 Es[i].2]:=fun h=>dF ..;have g5:=bf Es;have vN':Es[i].2<(N:Int):=vn;unfold Ry;simp[Qv,Qu,Qt,Qs,Qr,Qq,Qp,Qo,Qn,Qm,h1,bY,hw,u0,v0,u0',v0',un,vn,uv,uN,vN,su,sv,su',sv',gu,gv,gu',gv',g1,g2,g5,ou,ov,eu,ev,hA,eln,fI,idx,IntKind.bits,fz,pl,AV.leaf,aN]
theorem q8 {N:Nat} {Es:List Ed} (h:Jz (N:Int) Es):(jL N Es).length=N/\Small (jL N Es)/\∀ a b:Nat,((jL N Es).getD a 0).testBit b=(decide (((a:Int),(b:Int))∈Es)||decide (((b:Int),(a:Int))∈Es)):=by
 have hn:=h.1;obtain⟨i1,i2,i3⟩:=Fs N (by omega) Es (aV N 0) (by simp) (fun x hx=>by have:=Jo hx; omega) h.2.2;refine⟨i1,i2,fun a b=>?_⟩;unfold jL;rw[i3];have:((aV N 0).getD a 0)=0:=by rw[aT,List.getElem?_replicate]; split<;>rfl
 rw[this,Nat.zero_testBit,Bool.false_or]
theorem JT {N:Nat} {Es:List Ed} (h:Jz (N:Int) Es) (hE:Es.length<4294967295):bS aD nQH [.agg [.int .i64 N,.list 2 (iQ Es)]] []=some (.list 1 (us (jL N Es)),[]):=by
 have hn:N<=64:=by have:=h.1; omega
 have hl:=Gn N hn Es hE h.2.2 Es.length 0 (aV N 0) (by omega) (by simp) (fun x hx=>by have:=Jo hx; omega);rw[mB,dN] at hl;have r1:aV N (AV.int .u64 0)=us (aV N 0):=acf N;have n0:¬(N:Int)<0:=by omega
 have nL:(N:Int)<=4294967296:=by omega
 have m1:max (N:Int) 0=(N:Int):=by omega
 have m2:¬(64:Int)<N:=by omega
 have ea:wi Es (aV N 0)=jL N Es:=rfl;rw[ea] at hl;have tk:(us (jL N Es)).take (jL N Es).length=us (jL N Es):=by rw[Yv,eE]
 have e:=(q8 h).1
 have tkr:(us (aV N 0)).take N=us (aV N 0):=by
  have:=eE (l:=us (aV N 0))
  rwa [fI,cJ] at this
 rw[e] at tk;have g5:=bf Es;rw[fZ sQH (aF rfl)];unfold qQH cQH;generalize iQ Es=Y at *;simp[Qv,Qu,Qt,Qs,Qr,Qq,Qp,Qo,Qn,Qm,hl,r1,tkr,e,cJ,n0,nL,m1,m2,fI,tk,g5,p7,aN,eC,pl,cB,bU]
def pc9 (m:Nat):Nat:=((List.range 9).filter fun j=>m.testBit j).length
def pcA (x:Int):Int:=IntKind.u64.wrap (bits .and .u64 (x.fdiv 2) 6148914691236517205+bits .and .u64 x 6148914691236517205)
def pcB (x:Int):Int:=IntKind.u64.wrap (bits .and .u64 (x.fdiv 4) 3689348814741910323+bits .and .u64 x 3689348814741910323)
def pcC (x:Int):Int:=bits .and .u64 (IntKind.u64.wrap (x.fdiv 16+x)) 1085102592571150095
def pcD (n:Int) (x:Int):Int:=IntKind.u64.wrap (x+x.fdiv n)
def pcE (x:Int):Int:=bits .and .i64 (IntKind.i64.wrap (pcD 4294967296 (pcD 65536 (pcD 256 (pcC (pcB (pcA x))))))) 127
theorem VL (x:Int):bS aD nQX [.int .u64 x] []=some (.int .i64 (pcE x),[]):=by
 obtain⟨a,ea⟩:∃a,IntKind.u64.wrap (bits .and .u64 (x.fdiv 2) 6148914691236517205+bits .and .u64 x 6148914691236517205)=a:=⟨_,rfl⟩;obtain⟨b,eb⟩:∃b,IntKind.u64.wrap (bits .and .u64 (a.fdiv 4) 3689348814741910323+bits .and .u64 a 3689348814741910323)=b:=⟨_,rfl⟩;obtain⟨c,ec⟩:∃c,bits .and .u64 (IntKind.u64.wrap (b.fdiv 16+b)) 1085102592571150095=c:=⟨_,rfl⟩;obtain⟨d,ed⟩:∃d,IntKind.u64.wrap (c+c.fdiv 256)=d:=⟨_,rfl⟩;obtain⟨e,ee⟩:∃e,IntKind.u64.wrap (d+d.fdiv 65536)=e:=⟨_,rfl⟩;obtain⟨f,ef⟩:∃f,IntKind.u64.wrap (e+e.fdiv 4294967296)=f:=⟨_,rfl⟩;have hp:pcE x=bits .and .i64 (IntKind.i64.wrap f) 127:=by unfold pcE pcD pcC pcB pcA; rw[ea,eb,ec,ed,ee,ef]
 rw[hp];rw[fZ sQX (aF rfl)];unfold qQX cQX;simp[abx,abw,abv,abu,abt,abr,abq,abp,ea,eb,ec,ed,ee,ef,IntKind.bits,aN,cB,bU]
end Go.BmP
