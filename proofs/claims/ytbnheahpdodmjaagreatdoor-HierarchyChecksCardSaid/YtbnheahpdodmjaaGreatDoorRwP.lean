/- What the bits of biclique return: TrailingZeros64, list, mask. -/
import Derived.Test.YtbnheahpdodmjaaGreatDoorL61
import Derived.Test.YtbnheahpdodmjaaGreatDoorK05
set_option linter.unusedSimpArgs false
set_option linter.unusedVariables false
set_option maxRecDepth 100000
set_option maxHeartbeats 4000000
open List renaming drop_eq_getElem_cons → bg, drop_zero → ct, eq_of_mem_replicate → QU, getD_eq_getElem?_getD → au, getElem?_eq_getElem → ai, length_replicate → cV, replicate → aW, take_length → fe
open Nat renaming le_of_ble_eq_true → aB
open Option.some renaming inj → bm, injEq → af
open Prod.mk renaming injEq → aC
namespace Go.BmP
open Go.Am Go.Bm
theorem ak6:an.gl 0=Rh.map (AV.int .u8):=rfl
theorem ajg:∀k,k<64->2 ^ k*285870213051353865%18446744073709551616 / 288230376151711744<64/\(Rh.map (AV.int .u8)).drop (2 ^ k*285870213051353865%18446744073709551616 / 288230376151711744)=.int .u8 (k:Nat)::(Rh.map (AV.int .u8)).drop (2 ^ k*285870213051353865%18446744073709551616 / 288230376151711744+1):=by
 intro k hk;have h1:∀k,k<64->2 ^ k*285870213051353865%18446744073709551616 / 288230376151711744<64/\Rh[2 ^ k*285870213051353865%18446744073709551616 / 288230376151711744]?=some ((k:Nat):Int):=by decide +kernel
 obtain⟨a,b⟩:=h1 k hk;refine⟨a,?_⟩;generalize 2 ^ k*285870213051353865%18446744073709551616 / 288230376151711744=j at a b;obtain⟨hj,e⟩:=List.getElem?_eq_some_iff.1 b;rw[bg (by simpa using hj),List.getElem_map,e]
theorem powc (n:Nat):(2:Int) ^ n=((2 ^ n:Nat):Int):=by simp
theorem aib (q s:Nat) (hs:s<64):sP .shr (.int .u64 (q:Int)) (.int .u64 (s:Int))=some (.int .u64 ((q / 2 ^ s:Nat):Int)):=by
 unfold sP;simp only;have hp:0<2 ^ s:=Nat.two_pow_pos s;rw[if_neg (by omega),show min (s:Int).toNat IntKind.u64.bits=s by (show min (s:Int).toNat 64=s); omega,powc,Int.fdiv_eq_ediv_of_nonneg _ (Int.natCast_nonneg _)];rfl
theorem aid (a b:Nat) (ha:a<18446744073709551616) (hb:b<18446744073709551616):sP .and (.int .u64 (a:Int)) (.int .u64 (b:Int))=some (.int .u64 ((a &&& b:Nat):Int)):=by
 unfold sP;simp only[if_true,arith,u64_and_nat a b ha hb]
theorem aic (a b:Nat):sP .mul (.int .u64 (a:Int)) (.int .u64 (b:Int))=some (.int .u64 ((a*b%18446744073709551616:Nat):Int)):=by
 unfold sP;simp only[if_true,arith,IntKind.wrap_u64];rw[<-Int.natCast_mul];rfl
theorem Sq {c:eI} {call:Nat->List AV->Heap->Option (AV × Heap)}:∀(a b:List O) (s:St) {s' s'':St} {f g:List Fq},oQ c call a s=some (s',f)->oQ c call b s'=some (s'',g)->oQ c call (a++b) s=some (s'',f++g)
 |[],b,s,s',s'',f,g,h,k=>by
   simp only[oQ,af,aC] at h;obtain⟨rfl,rfl⟩:=h;exact k
 |o::r,b,s,s',s'',f,g,h,k=>by
   simp only[oQ,List.cons_append] at h ⊢;split at h
   case h_2=>cases h
   rename_i s1 fl h1;split at h
   case h_2=>cases h
   rename_i s2 rW h2;simp only[af,aC] at h;obtain⟨rfl,rfl⟩:=h;rw[Sq r b s1 h2 k];rfl
theorem tz_a (x:Nat) (h0:x≠0) (hx:x<18446744073709551616):∃(y p q j:Int) (T:List AV),oQ an (bu an) (zn.take 6) ⟨[(0,.int .u64 x),(4,.bool false)],[]⟩=some (⟨[(0,.int .u64 x),(4,.bool false),(5,.int .u64 x),(6,.int .u64 x),(7,.int .u64 y),(8,.int .u64 p),(9,.int .u64 q),(10,.int .u64 j)],[]⟩,[.no,.no,.no,.no,.no,.no])/\(0<=j/\j<64)/\(an.gl 0).drop j.toNat=.int .u8 (tz x:Nat)::T/\tz x<64:=by
 obtain⟨e1,e2⟩:=Lib.lowest_bit 64 x h0 hx;have e2:tz x<64:=e2;have e1:x &&& (18446744073709551616-x)=2 ^ tz x:=e1;obtain⟨e3,e4⟩:=ajg (tz x) e2
 have b1:sP .eql (.int .u64 (x:Int)) (.int .u64 0)=some (.bool false):=by
  have:((x:Int) == 0)=false:=by rw[beq_eq_false_iff_ne]; omega
  unfold sP;simp only[if_true,arith,this]
 have u1:Vr .neg (.int .u64 (x:Int))=some (.int .u64 ((18446744073709551616-x:Nat):Int)):=by
  unfold Vr;simp only[IntKind.wrap_u64];rw[show (0-(x:Int))%18446744073709551616=((18446744073709551616-x:Nat):Int) by omega]
 have b2:=aid x (18446744073709551616-x) hx (by omega);rw[e1] at b2;have b3:=aic (2 ^ tz x) 285870213051353865;have b4:=aib (2 ^ tz x*285870213051353865%18446744073709551616) 58 (by omega);rw[show (2 ^ 58:Nat)=288230376151711744 from rfl] at b4;generalize 2 ^ tz x*285870213051353865%18446744073709551616 / 288230376151711744=j at *;generalize 2 ^ tz x*285870213051353865%18446744073709551616=q at *;generalize 2 ^ tz x=p at *;have b3:sP .mul (.int .u64 (p:Int)) (.int .u64 285870213051353865)=some (.int .u64 (q:Int)):=b3;have b4:sP .shr (.int .u64 (q:Int)) (.int .u64 58)=some (.int .u64 (j:Int)):=b4;have f5:(j:Int)<64:=by omega
 have f6:IntKind.i64.wrap ((tz x:Nat):Int)=((tz x:Nat):Int):=yL (by omega);clear e1;generalize tz x=z at *;generalize 18446744073709551616-x=y at *;generalize (x:Int)=X at *;generalize hC:(285870213051353865:Int)=C at *;rw[<-ak6] at e4;refine⟨y,p,q,j,_,?_,⟨by omega,f5⟩,by rw[show (j:Int).toNat=j by omega]; exact e4,e2⟩;clear e4 e3 e2 f6;generalize (j:Int)=J at *;generalize (q:Int)=Q at *;generalize (p:Int)=Pp at *;generalize (y:Int)=Y at *;unfold zn;simp[JN,JM,VP,zn,List.take_succ_cons,List.take_zero,b1,u1,b2,hC,b3,b4,aJ,aL,bz,cM,dG,aI,aP,aH,ah,aN,aZ,bM,bI,-sP,-Vr,-Vr]
theorem tz_b (X Y Pp Q J:Int) (z:Nat) (T:List AV) (h0:0<=J) (h1:J<64) (hz:z<64) (h:(an.gl 0).drop J.toNat=.int .u8 (z:Nat)::T):∃T',oQ an (bu an) (zn.drop 6) ⟨[(0,.int .u64 X),(4,.bool false),(5,.int .u64 X),(6,.int .u64 X),(7,.int .u64 Y),(8,.int .u64 Pp),(9,.int .u64 Q),(10,.int .u64 J)],[]⟩=some (⟨[(0,.int .u64 X),(2,.int .i64 (z:Nat)),(4,.bool false),(5,.int .u64 X),(6,.int .u64 X),(7,.int .u64 Y),(8,.int .u64 Pp),(9,.int .u64 Q),(10,.int .u64 J),(11,.dy T'),(12,.int .u8 (z:Nat)),(13,.int .i64 (z:Nat))],[]⟩,[.no,.rd [],.no,.no]):=by
 refine⟨.int .u8 (z:Nat)::T,?_⟩;have hw:=yL (i:=z) (by omega);generalize hG:an.gl 0=G at *;unfold zn;simp[JN,JM,VP,zn,List.drop_succ_cons,ct,h0,h1,hG,h,hw,idx,aJ,aL,bz,cM,dG,aI,aP,aH,ah,aN,aZ,bM,bI]
theorem acf (x:Nat) (h0:x≠0) (hx:x<18446744073709551616):bu an SC [.int .u64 x] []=some (.int .i64 (tz x:Nat),[]):=by
 rw[eO sQa8 (aB rfl)];obtain⟨y,p,q,j,T,r1,⟨j0,j1⟩,r2,r3⟩:=tz_a x h0 hx;obtain⟨T',r4⟩:=tz_b x y p q j (tz x) T j0 j1 r3 r2;have r5:=Sq _ _ _ r1 r4;rw[List.take_append_drop] at r5
 have r6:aY an 0 (.pI zn false [] [2]) ⟨[(0,.int .u64 x),(4,.bool false)],[]⟩=some (.normal,⟨[(2,.int .i64 (tz x:Nat))],[]⟩):=by
  rw[OX,r5];clear r1 r2 r3 r4 r5;simp[acG,WW,uB,bV,endK,tC,trim,SQ,Ol]
 have b1:sP .eql (.int .u64 (x:Int)) (.int .u64 0)=some (.bool false):=by
  have:((x:Int) == 0)=false:=by rw[beq_eq_false_iff_ne]; omega
  unfold sP;simp only[if_true,arith,this]
 clear r1 r2 r3 r4 r5 h0 hx;generalize ((tz x:Nat):Int)=z at *;generalize (x:Int)=X at *
 have r7:aY an 0 (.pI JM false [] [0,4]) ⟨[(0,.int .u64 X)],[]⟩=some (.normal,⟨[(0,.int .u64 X),(4,.bool false)],[]⟩):=by
  unfold JM;simp[oO,oN,oM,oL,oK,oJ,oI,oH,oG,b1,aJ,aL,bz,cM,dG,aI,aP,aH,ah,aN,aZ,bM,bI,-sP]
 have r8:aY an 0 (.pI JN false [] [0]) ⟨[(0,.int .u64 X)],[]⟩=some (.normal,⟨[(0,.int .u64 X)],[]⟩):=by
  unfold JN;simp[oO,oN,oM,oL,oK,oJ,oI,oH,oG,aJ,aL,bz,cM,dG,aI,aP,aH,ah,aN,aZ,bM,bI]
 show bM an _ _ 0 (aY an 0 cQa8 ⟨[(0,.int .u64 X)],[]⟩)=_;unfold cQa8;rw[ft,r8,oC,ft,ft,r7,oC,OY];show bM an _ _ 0 (Nn an 0 _ (aY an 0 .skip ⟨[(0,.int .u64 X),(4,.bool false)],[]⟩))=_;rw[LP,oC,ft,r6,oC,OW];simp[bM,bI,qQa8,sd,resV,bp,fo,OG,qq,mU,WS]
theorem Wl:∀(m:Nat),m<18446744073709551616->∀(o:List Int),o.length+(bW m).length<=64->aY an 0 (.loop aaA) ⟨[(0,.int .u64 m),(3,.own 1 (ints o))],[]⟩=some (.exit 0,⟨[(0,.int .u64 (0:Nat)),(3,.own 1 (ints (o++bW m))),(5,.bool false)],[]⟩):=by
 intro m
 induction m using Nat.strongRecOn with
 |ind m ih=>
   intro hm o hL;by_cases h0:m=0
   ·subst h0;rw[acb,List.append_nil];exact bt (by unfold aaA; simp[Zh,Zg,Zf,Ze,Zd,Zc,aJ,aL,bz,cM,dG,aI,aP,aH,ah,aN,aZ,bM,bI])
   ·have n0:¬((m:Int)=0):=by omega
    have hd:=aaY h0;have ht:=acf m h0 hm;have w1:=decU h0 hm;have w2:=u64_and_nat m (m-1) hm (by omega);rw[Pd h0 hm,List.length_cons] at hL;have hL1:o.length+1<=4294967296:=by omega
    have ih:=ih (m &&& (m-1)) hd (by omega) (o++[(tz m:Int)]) (by simp; omega);rw[Pd h0 hm];rw[List.append_assoc] at ih;generalize (m:Int)=X at *;exact (aV (by unfold aaA; simp[Zh,Zg,Zf,Ze,Zd,Zc,n0,ht,w1,w2,hL1,lU,dZ,cO,sQa8,iQa8,aJ,aL,bz,cM,dG,aI,aP,aH,ah,aN,aZ,bM,bI])).trans ih
theorem Oi (m:Nat) (hm:m<18446744073709551616):bu an nQ4 [.int .u64 m] []=some (.list 1 (ints (bW m)),[]):=by
 rw[eO sQ4 (aB rfl)];have h:=Wl m hm [] (by have:=mY m; simpa using this);rw[List.nil_append,fU,dE] at h;unfold qQ4 cQ4;simp[Zh,Zg,Zf,Ze,Zd,Zc,h,cO,aJ,aL,bz,cM,dG,aI,aP,aH,ah,aN,aZ,bM,bI]
/- What masks.Rows and masks.Count return; degree.Degrees. -/
theorem Nv (N:Nat) (hN:N<=64) (Es:List Ed) (hE:Es.length<4294967295) (hv:∀e∈Es,0<=e.1/\e.1<e.2/\e.2<(N:Int)):∀(k i:Nat) (A:List Nat),i+k=Es.length->A.length=N->Small A->aY an 0 (.loop aaB) ⟨[(3,.own 1 (us A)),(12,.list 2 (dA Es)),(13,.int .i64 Es.length),(14,.int .i64 i)],[]⟩ =
  some (.exit 0,⟨[(3,.own 1 (us (Al (Es.drop i) A))),(12,.list 2 (dA Es)),(13,.int .i64 Es.length),(14,.int .i64 Es.length),(15,.bool false)],[]⟩)
 |0,i,A,hi,hA,hS=>by
   obtain rfl:i=Es.length:=by omega
   rw[List.drop_length];exact bt (by unfold aaB; simp[ZD,ZC,ZB,ZA,Zz,Zy,Zx,Zw,Zu,Zt,Al,List.foldl_nil])
 |k+1,i,A,hi,hA,hS=>by
   have bF:i<Es.length:=by omega
   have h1:(i:Int)<Es.length:=by omega
   have hw:=dO (i:=i) (by omega);obtain⟨u0,uv,vn⟩:=hv Es[i] (List.getElem_mem bF);have ih:=Nv N hN Es hE hv k (i+1) (adF A Es[i]) (by omega) (by rw[Mt]; exact hA) (Pf hS (by omega) (by omega));rw[bg bF];have v0:0<=Es[i].2:=by omega
   have un:Es[i].1<(N:Int):=by omega
   have u0':¬Es[i].1<0:=by omega
   have v0':¬Es[i].2<0:=by omega
   have uN:Es[i].1.toNat<N:=by omega
   have vN:Es[i].2.toNat<N:=by omega
   have pu:=DY (v:=Es[i].1) (by omega) u0;have pv:=DY (v:=Es[i].2) (by omega) v0;have su:=shlU (v:=Es[i].1) u0 (by omega);have sv:=shlU (v:=Es[i].2) v0 (by omega);have su':IntKind.u64.wrap (2 ^ (min Es[i].1.toNat 64))=((2 ^ Es[i].1.toNat:Nat):Int):=by rw[<-su,Int.one_mul]
   have sv':IntKind.u64.wrap (2 ^ (min Es[i].2.toNat 64))=((2 ^ Es[i].2.toNat:Nat):Int):=by rw[<-sv,Int.one_mul]
   have gu:(us A)[Es[i].1.toNat]?=some (.int .u64 (A.getD Es[i].1.toNat 0:Nat)):=by
    rw[Px,au,ai (by omega)]; rfl
   have xu:=wX hS Es[i].1.toNat;have ou:=u64_or_nat (A.getD Es[i].1.toNat 0) (2 ^ Es[i].2.toNat) xu pv;have eu:=Vo A Es[i].1.toNat (A.getD Es[i].1.toNat 0 ||| 2 ^ Es[i].2.toNat);have sm:Small (A.set Es[i].1.toNat (A.getD Es[i].1.toNat 0 ||| 2 ^ Es[i].2.toNat)):=Fe hS (Nat.or_lt_two_pow (n:=64) xu pv);have eln:(A.set Es[i].1.toNat (A.getD Es[i].1.toNat 0 ||| 2 ^ Es[i].2.toNat)).length=N:=by rw[List.length_set]; exact hA
   have ead:Al (Es[i]::Es.drop (i+1)) A=Al (Es.drop (i+1)) (adF A Es[i]):=rfl;rw[ead];have eA:adF A Es[i]=(A.set Es[i].1.toNat (A.getD Es[i].1.toNat 0 ||| 2 ^ Es[i].2.toNat)).set Es[i].2.toNat ((A.set Es[i].1.toNat (A.getD Es[i].1.toNat 0 ||| 2 ^ Es[i].2.toNat)).getD Es[i].2.toNat 0 ||| 2 ^ Es[i].1.toNat):=rfl;rw[eA] at ih ⊢;generalize hA1:A.set Es[i].1.toNat (A.getD Es[i].1.toNat 0 ||| 2 ^ Es[i].2.toNat)=A1 at *
   have gv:(us A1)[Es[i].2.toNat]?=some (.int .u64 (A1.getD Es[i].2.toNat 0:Nat)):=by
    rw[Px,au,ai (by omega)]; rfl
   have ov:=u64_or_nat (A1.getD Es[i].2.toNat 0) (2 ^ Es[i].1.toNat) (wX sm _) pu;have ev:=Vo A1 Es[i].2.toNat (A1.getD Es[i].2.toNat 0 ||| 2 ^ Es[i].1.toNat);generalize A1.getD Es[i].2.toNat 0 ||| 2 ^ Es[i].1.toNat=q at *
   generalize A.getD Es[i].1.toNat 0 ||| 2 ^ Es[i].2.toNat=p at *
   generalize A1.getD Es[i].2.toNat 0=y at *;generalize A.getD Es[i].1.toNat 0=x at *;generalize 2 ^ Es[i].1.toNat=pU at *;generalize 2 ^ Es[i].2.toNat=pV at *;clear pu pv xu sm eA ead hA1;have gu':∀h:Es[i].1.toNat<(us A).length,(us A)[Es[i].1.toNat]=.int .u64 (x:Int):=fun h=>by rw[ai h] at gu; exact bm gu
   have gv':∀h:Es[i].2.toNat<(us A1).length,(us A1)[Es[i].2.toNat]=.int .u64 (y:Int):=fun h=>by rw[ai h] at gv; exact bm gv
   refine (aV (s':=⟨[(3,.own 1 (us (A1.set Es[i].2.toNat q))),(12,.list 2 (dA Es)),(13,.int .i64 Es.length),(14,.int .i64 ((i+1:Nat):Int))],[]⟩) ?_).trans ih;have g1:(dA Es)[i]?=some (.agg [.int .i64 Es[i].1,.int .i64 Es[i].2]):=by rw[bz,ai bF]; rfl
   have g2:∀h,(dA Es)[i]'h=.agg [.int .i64 Es[i].1,.int .i64 Es[i].2]:=fun h=>cM ..;have g5:=aL Es;have vN':Es[i].2<(N:Int):=vn;unfold aaB;simp[ZD,ZC,ZB,ZA,Zz,Zy,Zx,Zw,Zu,Zt,h1,bF,hw,u0,v0,u0',v0',un,vn,uv,uN,vN,su,sv,su',sv',gu,gv,gu',gv',g1,g2,g5,ou,ov,eu,ev,hA,eln,gq,idx,IntKind.bits,fz,pl,AV.leaf,aJ]
theorem lM {N:Nat} {Es:List Ed} (h:tV (N:Int) Es):(eB N Es).length=N/\Small (eB N Es)/\∀ a b:Nat,((eB N Es).getD a 0).testBit b=(decide (((a:Int),(b:Int))∈Es)||decide (((b:Int),(a:Int))∈Es)):=by
 have hn:=h.1;obtain⟨i1,i2,i3⟩:=Mr N (by omega) Es (aW N 0) (by simp) (fun x hx=>by have:=QU hx; omega) h.2.2;refine⟨i1,i2,fun a b=>?_⟩;unfold eB;rw[i3];have:((aW N 0).getD a 0)=0:=by rw[au,List.getElem?_replicate]; split<;>rfl
 rw[this,Nat.zero_testBit,Bool.false_or]
theorem Rs {N:Nat} {Es:List Ed} (h:tV (N:Int) Es) (hE:Es.length<4294967295):bu an nQ2 [.agg [.int .i64 N,.list 2 (dA Es)]] []=some (.list 1 (us (eB N Es)),[]):=by
 have hn:N<=64:=by have:=h.1; omega
 have hl:=Nv N hn Es hE h.2.2 Es.length 0 (aW N 0) (by omega) (by simp) (fun x hx=>by have:=QU hx; omega);rw[fU,ct] at hl;have r1:aW N (AV.int .u64 0)=us (aW N 0):=ajd N;have n0:¬(N:Int)<0:=by omega
 have nL:(N:Int)<=4294967296:=by omega
 have m1:max (N:Int) 0=(N:Int):=by omega
 have m2:¬(64:Int)<N:=by omega
 have ea:Al Es (aW N 0)=eB N Es:=rfl;rw[ea] at hl;have tk:(us (eB N Es)).take (eB N Es).length=us (eB N Es):=by rw[afT,fe]
 have e:=(lM h).1
 have tkr:(us (aW N 0)).take N=us (aW N 0):=by
  have:=fe (l:=us (aW N 0))
  rwa [gq,cV] at this
 rw[e] at tk;have g5:=aL Es;rw[eO sQ2 (aB rfl)];unfold qQ2 cQ2;generalize dA Es=Y at *;simp[ZD,ZC,ZB,ZA,Zz,Zy,Zx,Zw,Zu,Zt,hl,r1,tkr,e,cV,n0,nL,m1,m2,gq,tk,g5,lU,aJ,dq,pl,bM,bI]
def pc9 (m:Nat):Nat:=((List.range 9).filter fun j=>m.testBit j).length
def pcA (x:Int):Int:=IntKind.u64.wrap (bits .and .u64 (x.fdiv 2) 6148914691236517205+bits .and .u64 x 6148914691236517205)
def pcB (x:Int):Int:=IntKind.u64.wrap (bits .and .u64 (x.fdiv 4) 3689348814741910323+bits .and .u64 x 3689348814741910323)
def pcC (x:Int):Int:=bits .and .u64 (IntKind.u64.wrap (x.fdiv 16+x)) 1085102592571150095
def pcD (n:Int) (x:Int):Int:=IntKind.u64.wrap (x+x.fdiv n)
def pcE (x:Int):Int:=bits .and .i64 (IntKind.i64.wrap (pcD 4294967296 (pcD 65536 (pcD 256 (pcC (pcB (pcA x))))))) 127
theorem adK (x:Int):bu an SA [.int .u64 x] []=some (.int .i64 (pcE x),[]):=by
 obtain⟨a,ea⟩:∃a,IntKind.u64.wrap (bits .and .u64 (x.fdiv 2) 6148914691236517205+bits .and .u64 x 6148914691236517205)=a:=⟨_,rfl⟩;obtain⟨b,eb⟩:∃b,IntKind.u64.wrap (bits .and .u64 (a.fdiv 4) 3689348814741910323+bits .and .u64 a 3689348814741910323)=b:=⟨_,rfl⟩;obtain⟨c,ec⟩:∃c,bits .and .u64 (IntKind.u64.wrap (b.fdiv 16+b)) 1085102592571150095=c:=⟨_,rfl⟩;obtain⟨d,ed⟩:∃d,IntKind.u64.wrap (c+c.fdiv 256)=d:=⟨_,rfl⟩;obtain⟨e,ee⟩:∃e,IntKind.u64.wrap (d+d.fdiv 65536)=e:=⟨_,rfl⟩;obtain⟨f,ef⟩:∃f,IntKind.u64.wrap (e+e.fdiv 4294967296)=f:=⟨_,rfl⟩;have hp:pcE x=bits .and .i64 (IntKind.i64.wrap f) 127:=by unfold pcE pcD pcC pcB pcA; rw[ea,eb,ec,ed,ee,ef]
 rw[hp];rw[eO sQb1 (aB rfl)];unfold qQb1 cQb1;simp[ac6,ac5,ac4,ac3,ac2,ac1,ac0,acZ,ea,eb,ec,ed,ee,ef,IntKind.bits,aJ,bM,bI]
end Go.BmP
