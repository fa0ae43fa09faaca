/- masks.Reach. -/
import Derived.Test.YtbnheahpdodmjaaGreatDoorCoT
import Derived.Test.YtbnheahpdodmjaaGreatDoorMxP
set_option linter.unusedSimpArgs false
set_option linter.unusedVariables false
set_option maxRecDepth 100000
set_option maxHeartbeats 4000000
open Bool renaming and_eq_true → ae, or_eq_true → dT
open List renaming all_eq_true → ph, append_assoc → dJ, getElem?_eq_getElem → ai, length_append → bK, length_singleton → r9, mem_cons_of_mem → cH, mem_cons_self → cF, mem_range → iG, range → eF, take_of_length_le → aK
open List.cons renaming injEq → QV
open Nat renaming and_le_left → fJ, and_le_right → Bi, eq_of_testBit_eq → jO, le_of_ble_eq_true → aB, le_refl → aO, lt_of_le_of_lt → dB, or_lt_two_pow → Bz, strongRecOn → MF, testBit_and → bU, testBit_or → iW, testBit_two_pow → xm, zero_testBit → Po
open Option.some renaming inj → bm, injEq → af
open Prod renaming fst → eP
namespace Go.BmP
open Go.Am Go.Bm
theorem uI {m b:Nat} (hm:m<18446744073709551616) (hb:b<18446744073709551616) (j:Nat):(m &&& (18446744073709551615-b)).testBit j=(m.testBit j&&!b.testBit j):=by
 rw[bU];have e:18446744073709551615-b=2 ^ 64-(b+1):=by omega
 rw[e,Nat.testBit_two_pow_sub_succ (by omega)];by_cases hj:j<64
 ·simp[hj]
 ·have:m.testBit j=false:=Nat.testBit_lt_two_pow (Nat.lt_of_lt_of_le hm (by
   rw[show (18446744073709551616:Nat)=2 ^ 64 from rfl];exact Nat.pow_le_pow_right (by decide) (by omega)))
  simp[this]
theorem aji {A:List Nat} {v:Nat} (hv:v<A.length):idx (.int .i64 (v:Int)) A.length=some v/\(us A)[v]?=some (.int .u64 (A.getD v 0:Nat))/\∀ h:v<(us A).length,(us A)[v]=.int .u64 (A.getD v 0:Nat):=by
 have e:(us A)[v]?=some (.int .u64 (A.getD v 0:Nat)):=by
  rw[Px,List.getD_eq_getElem?_getD,ai hv]; rfl
 refine⟨by have:=CU (k:=.i64) (i:=(v:Int)) (n:=A.length) (by omega) (by omega); simpa using this,e,fun h=>?_⟩;rw[ai h] at e;exact bm e
structure pd (A:List Nat) (W x R:Nat):Prop where
 lt:R<18446744073709551616
 sub:∀j,x.testBit j=true->R.testBit j=true
 win:∀j,R.testBit j=true->W.testBit j=true
 cl:∀j k,R.testBit j=true->(A.getD j 0).testBit k=true->W.testBit k=true->R.testBit k=true
 least:∀C:Nat->Prop,(∀j,x.testBit j=true->C j)->(∀j k,C j->(A.getD j 0).testBit k=true->W.testBit k=true->C k)->∀j,R.testBit j=true->C j
def VJ (A:List Nat) (x W t:Nat) (J:Env):St:=⟨(0,.list 1 (us A))::(1,.int .u64 x)::(2,.int .u64 W)::(7,.int .u64 t)::J,[]⟩
def rhN (A:List Nat) (W x t:Nat):Nat:=(A.getD (tz t) 0 &&& W) &&& (18446744073709551615-x)
theorem acB {A:List Nat} (hA:A.length<=64) (hS:∀i,A.getD i 0<18446744073709551616) {x W t:Nat} (hx:x<18446744073709551616) (hW:W<18446744073709551616) (h0:t≠0) (ht:t<18446744073709551616) (hv:tz t<A.length):aY an 0 Tx (VJ A x W t [])=some (.normal,VJ A (x ||| rhN A W x t) W ((t &&& (t-1)) ||| rhN A W x t) []):=by
 have n0:¬((t:Int)=0):=by omega
 have lw:=KR t h0 ht;obtain⟨r1,r2,r3⟩:=aji hv;have w1:=decU h0 ht;have w2:=u64_and_nat t (t-1) ht (by omega);have w3:=u64_and_nat (A.getD (tz t) 0) W (hS _) hW;have l3:A.getD (tz t) 0 &&& W<18446744073709551616:=dB Bi hW;have w4:=u64_andNot_nat (A.getD (tz t) 0 &&& W) x l3 hx;have l4:rhN A W x t<18446744073709551616:=dB fJ l3;have w5:=u64_or_nat x (rhN A W x t) hx l4;have l2:t &&& (t-1)<18446744073709551616:=dB fJ ht;have w6:=u64_or_nat (t &&& (t-1)) (rhN A W x t) l2 l4;have bF:tz t<(us A).length:=by rw[gq]; exact hv
 have lA:=gq A;unfold VJ;unfold rhN at *;generalize ((A.getD (tz t) 0 &&& W) &&& (18446744073709551615-x):Nat)=Z at *;generalize (A.getD (tz t) 0 &&& W:Nat)=Y at *;generalize (x ||| Z:Nat)=X2 at *;generalize ((t &&& (t-1)) ||| Z:Nat)=T2 at *;generalize (t &&& (t-1):Nat)=T1 at *;generalize A.getD (tz t) 0=r at *;generalize tz t=v at *;unfold Tx;simp[Zr,Zq,Zp,Zo,Zn,Zm,Zl,Zk,Zj,Zi,n0,h0,lw,r1,r2,r3,w1,w2,w3,w4,w5,w6,hv,bF,lA,idx,aJ,sQa3,iQa3]
theorem af8 {A:List Nat} {W x t:Nat} (hx:x<18446744073709551616) (hW:W<18446744073709551616) (j:Nat):(rhN A W x t).testBit j=((A.getD (tz t) 0).testBit j&&W.testBit j&&!x.testBit j):=by
 unfold rhN;rw[uI (dB Bi hW) hx,bU]
theorem amj (a b:Nat):a<=a ||| b:=Nat.left_le_or
theorem VL {A:List Nat} (hA:A.length<=64) (hS:∀i,A.getD i 0<18446744073709551616) {W:Nat} (hW:W<18446744073709551616) (hWA:∀j,W.testBit j=true->j<A.length):∀(n x:Nat),x+n=18446744073709551616->∀t:Nat,x<18446744073709551616->t<18446744073709551616->(∀j,t.testBit j=true->x.testBit j=true)->(∀j,x.testBit j=true->W.testBit j=true) ->
  (∀j k,x.testBit j=true->t.testBit j=false->(A.getD j 0).testBit k=true->W.testBit k=true->x.testBit k=true)->∃R,pd A W x R/\aY an 0 (.loop Tx) (VJ A x W t [])=some (.exit 0,VJ A R W 0 [(15,.bool false)]):=by
 intro n
 induction n using MF with
 |ind n ihn=>
   intro x hn t
   induction t using MF with
   |ind t iht=>
     intro hx ht htx hxW II;by_cases h0:t=0
     ·subst h0;refine⟨x,⟨hx,fun _ h=>h,hxW,fun j k h1 h2 h3=>II j k h1 (Po j) h2 h3,fun C hC _ j hj=>hC j hj⟩,?_⟩;refine bt ?_;unfold VJ Tx;simp[Zr,Zq,Zp,Zo,Zn,Zm,Zl,Zk,Zj,Zi,fU]
     ·obtain⟨tb,tlo⟩:=yN h0 ht;have hv:tz t<A.length:=hWA _ (hxW _ (htx _ tb));have rd:=acB hA hS hx hW h0 ht hv;have zb:=fun j=>af8 (A:=A) (W:=W) (x:=x) (t:=t) hx hW j
      have zl:rhN A W x t<18446744073709551616:=by
       unfold rhN;exact dB fJ (dB Bi hW)
      have db:=fun j=>EM h0 ht j;have dl:=aaY h0;generalize rhN A W x t=Z at *;generalize hT:t &&& (t-1)=T at *;have x2:x ||| Z<18446744073709551616:=Bz (n:=64) hx zl
      have t2:T ||| Z<18446744073709551616:=Bz (n:=64) (by omega) zl
      have a1:∀j,(T ||| Z).testBit j=true->(x ||| Z).testBit j=true:=fun j hj=>by
       rw[iW,dT] at hj ⊢;rcases hj with hj|hj
       ·rw[db,ae] at hj; exact .inl (htx j hj.1)
       ·exact .inr hj
      have a2:∀j,(x ||| Z).testBit j=true->W.testBit j=true:=fun j hj=>by
       rw[iW,dT] at hj;rcases hj with hj|hj
       ·exact hxW j hj
       ·rw[zb,ae,ae] at hj; exact hj.1.2
      have a3:∀j k,(x ||| Z).testBit j=true->(T ||| Z).testBit j=false->(A.getD j 0).testBit k=true->W.testBit k=true->(x ||| Z).testBit k=true:=fun j k h1 h2 h3 h4=>by
       rw[iW,Bool.or_eq_false_iff] at h2;obtain⟨h2,h5⟩:=h2;rw[iW,h5,Bool.or_false] at h1;rw[iW,dT];by_cases e:j=tz t
       ·subst e;cases hk:x.testBit k with
        |true=>exact .inl rfl
        |false=>right; rw[zb,h3,h4,hk]; rfl
       ·left;refine II j k h1 ?_ h3 h4;rw[db] at h2;cases htj:t.testBit j with
        |false=>rfl
        |true=>rw[htj] at h2; simp[e] at h2
      have fin:∀R,pd A W (x ||| Z) R->pd A W x R:=fun R r=>by
       refine⟨r.lt,fun j hj=>r.sub j (by rw[iW,hj]; rfl),r.win,r.cl,fun C h1 h2 j hj=>r.least C (fun i hi=>?_) h2 j hj⟩;rw[iW,dT] at hi;rcases hi with hi|hi
       ·exact h1 i hi
       ·rw[zb,ae,ae] at hi;exact h2 (tz t) i (h1 _ (htx _ tb)) hi.1.1 hi.1.2
      by_cases hz:Z=0
      ·subst hz;rw[Nat.or_zero] at rd a1 a2 a3 x2 fin;rw[Nat.or_zero] at rd a1 a3 t2;obtain⟨R,r1,r2⟩:=iht T (by omega) hx t2 a1 hxW a3;exact⟨R,r1,(aV rd).trans r2⟩
      ·have hgt:x<x ||| Z:=by
        rcases Nat.lt_or_eq_of_le (amj x Z) with h|h
        ·exact h
        ·exfalso;apply hz;apply jO;intro j;rw[Po];cases hj:Z.testBit j with
         |false=>rfl
         |true=>
           have hj':=hj;rw[zb,ae] at hj';have:(x ||| Z).testBit j=true:=by rw[iW,hj,Bool.or_true]
           rw[<-h] at this;rw[this] at hj';cases hj'.2
       obtain⟨R,r1,r2⟩:=ihn (18446744073709551616-(x ||| Z)) (by omega) (x ||| Z) (by omega) (T ||| Z) x2 t2 a1 a2 a3;exact⟨R,fin R r1,(aV rd).trans r2⟩
theorem Nw {A:List Nat} (hA:A.length<=64) (hS:∀i,A.getD i 0<18446744073709551616) {W f:Nat} (hW:W<18446744073709551616) (hf:f<18446744073709551616) (hWA:∀j,W.testBit j=true->j<A.length):∃R,pd A W (f &&& W) R/\bu an nQ3 [.list 1 (us A),.int .u64 f,.int .u64 W] []=some (.int .u64 R,[]):=by
 have hx:f &&& W<18446744073709551616:=dB fJ hf;obtain⟨R,r1,r2⟩:=VL hA hS hW hWA (18446744073709551616-(f &&& W)) (f &&& W) (by omega) (f &&& W) hx hx (fun _ h=>h) (fun j hj=>by rw[bU,ae] at hj; exact hj.2) (fun j k h1 h2=>by rw[h1] at h2; cases h2);refine⟨R,r1,?_⟩;have w1:=u64_and_nat f W hf hW;rw[eO sQ3 (aB rfl)];unfold VJ at r2;generalize (f &&& W:Nat)=x at *;generalize us A=A1 at *;unfold qQ3 cQ3;simp[Zr,Zq,Zp,Zo,Zn,Zm,Zl,Zk,Zj,Zi,r2,w1,aJ,bM,bI]
/- connect.Groups. -/
inductive E4 (A:List Nat) (m:Nat):Nat->List Nat->Prop
 |nil:E4 A m 0 []
 |cons (r R:Nat) (l:List Nat) (h0:r≠0) (h1:pd A m (2 ^ tz r) R) (h2:E4 A m (r &&& (18446744073709551615-R)) l):E4 A m r (R::l)
def gk (l:List Nat):List AV:=l.map fun R=>.list 1 (ints (bW R))
theorem OD (l:List Nat) (R:Nat):gk l++[.list 1 (ints (bW R))]=gk (l++[R]):=by simp[gk]
theorem gj (l:List Nat):(gk l).length=l.length:=List.length_map _
def WK (A:List Nat) (m:Nat) (o:List Nat) (r:Nat) (J:Env):St:=⟨(1,.int .u64 m)::(5,.list 1 (us A))::(6,.own 1 (gk o))::(7,.int .u64 r)::J,[]⟩
theorem aeY {A:List Nat} {m r R:Nat} (o:List Nat) (hm:m<18446744073709551616) (hr:r<18446744073709551616) (h0:r≠0) (hR:R<18446744073709551616) (hc:bu an nQ3 [.list 1 (us A),.int .u64 ((2 ^ tz r:Nat):Int),.int .u64 m] []=some (.int .u64 R,[])) (ho:o.length<=64) :
  aY an 0 Ts (WK A m o r [])=some (.normal,WK A m (o++[R]) (r &&& (18446744073709551615-R)) []):=by
 have n0:¬((r:Int)=0):=by omega
 obtain⟨e1,e2⟩:=Lib.lowest_bit 64 r h0 hr;have e1:r &&& (18446744073709551616-r)=2 ^ tz r:=e1
 have u1:IntKind.u64.wrap (0-(r:Int))=((18446744073709551616-r:Nat):Int):=by
  simp only[IntKind.wrap_u64];omega
 have u2:IntKind.u64.wrap (-(r:Int))=((18446744073709551616-r:Nat):Int):=by rw[<-u1]; simp
 have w2:=u64_and_nat r (18446744073709551616-r) hr (by omega);rw[e1] at w2;have w3:=u64_andNot_nat r R hr hR;have ml:=Oi R hR;have gl:=gj o;have hL1:o.length+1<=4294967296:=by omega
 have gs:=OD o R;unfold WK;generalize (r &&& (18446744073709551615-R):Nat)=r2 at *;generalize (2 ^ tz r:Nat)=p at *;generalize (18446744073709551616-r:Nat)=nr at *;rw[<-gs];have tk1:(gk o).take o.length=gk o:=aK (by omega);have tk2:(gk o++[AV.list 1 (ints (bW R))]).take (o.length+1)=gk o++[AV.list 1 (ints (bW R))]:=aK (by simp[gl]);generalize gk o=G at *;generalize ints (bW R)=B1 at *;generalize us A=A1 at *;unfold Ts;simp[YS,YR,YQ,YP,YO,YN,YM,YL,YK,n0,h0,hc,ml,u1,u2,w2,w3,hL1,lU,gl,tk1,tk2,aJ,dq,pl,fz,E8,E7,rep,eK,sQ3,iQ3,sQ4,iQ4]
theorem aho {A:List Nat} (hA:A.length<=64) (hS:∀i,A.getD i 0<18446744073709551616) {m:Nat} (hm:m<18446744073709551616) (hmA:∀j,m.testBit j=true->j<A.length):∀(r:Nat),r<18446744073709551616->(∀j,r.testBit j=true->m.testBit j=true)->∀o:List Nat,o.length<=64->(r≠0->o.length<=tz r) ->
  ∃ l,(E4 A m r l/\o.length+l.length<=64)/\aY an 0 (.loop Ts) (WK A m o r [])=some (.exit 0,WK A m (o++l) 0 [(13,.bool false)]):=by
 intro r
 induction r using MF with
 |ind r ih=>
   intro hr hrm o ho2 ho;by_cases h0:r=0
   ·subst h0;refine⟨[],⟨.nil,ho2⟩,?_⟩;rw[List.append_nil];refine bt ?_;unfold WK Ts;generalize gk o=G at *;generalize us A=A1 at *;simp[YS,YR,YQ,YP,YO,YN,YM,YL,YK,fU]
   ·obtain⟨tb,tlo⟩:=yN h0 hr;obtain⟨_,_,ht⟩:=Is h0 hr
    have hp:2 ^ tz r<18446744073709551616:=by
     have:=Nat.pow_lt_pow_right (a:=2) (by decide) ht;rw[show (18446744073709551616:Nat)=2 ^ 64 from rfl]; exact this
    have fm:2 ^ tz r &&& m=2 ^ tz r:=by
     apply jO;intro j;rw[bU,xm];by_cases e:tz r=j
     ·subst e; simp[hrm _ tb]
     ·simp[e]
    obtain⟨R,r1,r2⟩:=Nw hA hS hm hp hmA;rw[fm] at r1;have hRb:R.testBit (tz r)=true:=r1.sub _ (by rw[xm]; simp);have rd:=aeY o hm hr h0 r1.lt r2 (by have:=ho h0; omega);have nb:=fun j=>uI hr r1.lt j;have hle:r &&& (18446744073709551615-R)<=r:=fJ
    have bF:r &&& (18446744073709551615-R)<r:=by
     rcases Nat.lt_or_eq_of_le hle with h|h
     ·exact h
     ·have:=nb (tz r);rw[h,tb,hRb] at this;cases this
    obtain⟨l,⟨l1,l3⟩,l2⟩:=ih _ bF (by omega) (fun j hj=>hrm j (by rw[nb,ae] at hj; exact hj.1)) (o++[R]) (by rw[bK,r9]; have:=ho h0; omega) (fun hn=>by
     have h1:=ho h0;obtain⟨tb2,_⟩:=yN hn (by omega);rw[nb,ae] at tb2;obtain⟨q1,q2⟩:=tb2
     have q3:tz r<=tz (r &&& (18446744073709551615-R)):=by
      apply Nat.le_of_not_lt;intro h;rw[tlo _ h] at q1; cases q1
     have q4:tz r≠tz (r &&& (18446744073709551615-R)):=fun e=>by rw[<-e,hRb] at q2; cases q2
     rw[bK,r9];omega)
    refine⟨R::l,⟨.cons r R l h0 r1 l1,by rw[bK,r9] at l3; rw[List.length_cons]; omega⟩,?_⟩;rw[dJ] at l2;exact (aV rd).trans l2
theorem abl {N:Nat} {Es:List Ed} (hG:tV (N:Int) Es) (i:Nat):(eB N Es).getD i 0<18446744073709551616:=wX (lM hG).2.1 i
theorem WI {N:Nat} {Es:List Ed} (hG:tV (N:Int) Es) (hE:Es.length<1000000) {m:Nat} (hm:m<18446744073709551616) (hmN:∀j,m.testBit j=true->j<N) :
  ∃ l,(E4 (eB N Es) m m l/\l.length<=64)/\bu an nQF [.agg [.int .i64 N,.list 2 (dA Es)],.int .u64 m] []=some (.list 1 (gk l),[]):=by
 have hN:N<=64:=by have:=hG.1.2; omega
 have la:(eB N Es).length=N:=(lM hG).1;obtain⟨l,l1,l2⟩:=aho (A:=eB N Es) (by omega) (abl hG) hm (fun j hj=>by rw[la]; exact hmN j hj) m hm (fun _ h=>h) [] (by simp) (fun _=>Nat.zero_le _);refine⟨l,⟨l1.1,by simpa using l1.2⟩,?_⟩;have rw1:=Rs hG (by omega);rw[List.nil_append] at l2;rw[eO sQF (aB rfl)];have gl:=gj l;have ge:gk []=[]:=rfl;unfold WK at l2;rw[ge] at l2;simp only[fU] at l2;have tk1:(gk l).take l.length=gk l:=aK (by omega);generalize gk l=G at *;generalize us (eB N Es)=A1 at *;generalize dA Es=Y at *;unfold qQF cQF;simp[YS,YR,YQ,YP,YO,YN,YM,YL,YK,rw1,l2,gl,tk1,aJ,bM,bI,jR,eZ,dq,pl,sQ2,iQ2]
/- The text that stands for a set of nodes below 100 tells it. -/
def Qe:ByteArray->List Int->ByteArray
 |s,[]=>s
 |s,x::r=>Qe (s++(py x++⟨#[32]⟩)) r
def nH (l:List Int):ByteArray:=Qe ⟨#[]⟩ l
def encI (x:Int):List UInt8:=Lib.decDigits x.toNat++[32]
theorem Oy:∀(l:List Int) (s:ByteArray),(Qe s l).data.toList=s.data.toList++l.flatMap encI
 |[],s=>by simp[Qe]
 |x::r,s=>by
   rw[Qe,Oy r];simp[encI,py,ByteArray.data_append]
def valD (d:List UInt8):Nat:=d.foldl (fun a b=>a*10+(b.toNat-48)) 0
theorem ahD:((eF 100).all fun n=>decide (valD (Lib.decDigits n)=n)&&decide (32∉Lib.decDigits n))=true:=by decide +kernel
theorem Uq {x:Int} (h0:0<=x) (h1:x<100):valD (Lib.decDigits x.toNat)=x.toNat/\32∉Lib.decDigits x.toNat:=by
 have:=ph.1 ahD x.toNat (iG.2 (by omega));rw[ae] at this;exact⟨of_decide_eq_true this.1,of_decide_eq_true this.2⟩
theorem aff:∀{a b r s:List UInt8},32∉a->32∉b->a++32::r=b++32::s->a=b/\r=s
 |[],[],r,s,_,_,h=>by simpa using h
 |[],y::b,r,s,_,hb,h=>by
   simp at h;exact absurd (by rw[<-h.1]; exact cF) hb
 |x::a,[],r,s,ha,_,h=>by
   simp at h;exact absurd (by rw[h.1]; exact cF) ha
 |x::a,y::b,r,s,ha,hb,h=>by
   simp only[List.cons_append,QV] at h;obtain⟨p,q⟩:=aff (fun m=>ha (cH _ m)) (fun m=>hb (cH _ m)) h.2;exact⟨by rw[h.1,p],q⟩
theorem Uk:∀{l m:List Int},(∀x∈l,0<=x/\x<100)->(∀x∈m,0<=x/\x<100)->l.flatMap encI=m.flatMap encI->l=m
 |[],[],_,_,_=>rfl
 |[],y::m,_,_,h=>by simp[encI] at h
 |x::l,[],_,_,h=>by simp[encI] at h
 |x::l,y::m,hl,hm,h=>by
   obtain⟨a1,a2⟩:=hl x cF;obtain⟨b1,b2⟩:=hm y cF;obtain⟨c1,c2⟩:=Uq a1 a2;obtain⟨d1,d2⟩:=Uq b1 b2;simp only[List.flatMap_cons,encI,dJ,List.singleton_append] at h;obtain⟨p,q⟩:=aff c2 d2 h
   have e:x=y:=by
    rw[p,d1] at c1;omega
   rw[e,Uk (fun z hz=>hl z (cH _ hz)) (fun z hz=>hm z (cH _ hz)) q]
theorem aeB {l m:List Int} (hl:∀x∈l,0<=x/\x<100) (hm:∀x∈m,0<=x/\x<100) (h:nH l=nH m):l=m:=by
 have e:=congrArg (fun b:ByteArray=>b.data.toList) h;simp only[nH,Oy] at e;exact Uk hl hm (by simpa using e)
def iH:List (List Int × Int)->List Int->Int->List (List Int × Int)
 |[],s,k=>[(s,k)]
 |(t,j)::r,s,k=>if t=s then (t,k)::r else (t,j)::iH r s k
def C0 (a:List (List Int × Int)):List AV:=a.map fun p=>.dt [.str (nH p.1),.int .i64 p.2]
def qN:List (List Int × Int)->List Int->Nat->Option (Nat × AV)
 |[],_,_=>none
 |(t,j)::r,s,i=>if t=s then some (i,.int .i64 j) else qN r s (i+1)
def Lo (s:List Int):Prop:=∀x∈s,0<=x/\x<100
theorem AP {s:List Int} (hs:Lo s):∀{a:List (List Int × Int)},(∀p∈a,Lo p.1)->∀i:Nat,iQ .CR (.str (nH s)) (C0 a) i=some (qN a s i)
 |[],_,i=>rfl
 |(t,j)::r,ha,i=>by
   have ht:Lo t:=ha (t,j) cF;have ih:=AP hs (fun p hp=>ha p (cH _ hp)) (i+1);show iQ .CR (.str (nH s)) (.dt [.str (nH t),.int .i64 j]::C0 r) i=_;unfold iQ qN;by_cases e:t=s
   ·subst e
    have q:AW .CR (.str (nH t)) (.str (nH t))=some true:=by
     simp only[AW,af]; exact (MapKept.bytes_beq _ _).2 rfl
    rw[q,if_pos rfl]
   ·have q:AW .CR (.str (nH s)) (.str (nH t))=some false:=by
     simp only[AW,af];cases hb:(nH s == nH t) with
     |false=>rfl
     |true=>exact absurd (aeB ht hs ((MapKept.bytes_beq _ _).1 hb).symm) e
    rw[q,if_neg e];exact ih
theorem aaS:∀{a:List (List Int × Int)} {s:List Int} {i:Nat} {p:Nat × AV},qN a s i=some p->i<=p.1
 |[],_,_,_,h=>by cases h
 |(t,j)::r,s,i,p,h=>by
   unfold qN at h;split at h
   ·simp only[af] at h; subst h; exact aO _
   ·have:=aaS h; omega
theorem SL {s:List Int} {k:Int}:∀{a:List (List Int × Int)} (i:Nat),(match qN a s i with
  |some (n,_)=>(C0 a).set (n-i) (.dt [.str (nH s),.int .i64 k])
  |none=>C0 a++[.dt [.str (nH s),.int .i64 k]])=C0 (iH a s k)
 |[],i=>rfl
 |(t,j)::r,i=>by
   have ih:=SL (s:=s) (k:=k) (a:=r) (i+1);unfold qN iH;by_cases e:t=s
   ·subst e;rw[if_pos rfl,if_pos rfl];simp[C0]
   ·rw[if_neg e,if_neg e];have e1:C0 ((t,j)::r)=.dt [.str (nH t),.int .i64 j]::C0 r:=rfl;have e2:C0 ((t,j)::iH r s k)=.dt [.str (nH t),.int .i64 j]::C0 (iH r s k):=rfl;rw[e1,e2,<-ih];cases h:qN r s (i+1) with
    |none=>rfl
    |some p=>
      obtain⟨n,v⟩:=p;have:=aaS h;simp only at this;simp only;rw[show n-i=(n-(i+1))+1 by omega,List.set_cons_succ]
theorem aal (s:List Int) (k:Int) (a:List (List Int × Int)):CJ (.str (nH s)) (.int .i64 k) (C0 a) (qN a s 0)=C0 (iH a s k):=by
 rw[<-SL (s:=s) (k:=k) (a:=a) 0];unfold CJ;cases h:qN a s 0 with
 |none=>rfl
 |some p=>obtain⟨n,v⟩:=p; simp
theorem Ay:∀(a:List (List Int × Int)) (s:List Int) (k:Int),(iH a s k).map eP=if (qN a s 0).isSome then a.map eP else a.map eP++[s]
 |[],s,k=>rfl
 |(t,j)::r,s,k=>by
   have ih:=Ay r s k
   have sh:∀(a:List (List Int × Int)) (i i':Nat),(qN a s i).isSome=(qN a s i').isSome:=by
    intro a
    induction a with
    |nil=>intro i i'; rfl
    | cons p r ih => intro i i'; obtain ⟨t, j⟩ := p; unfold qN; split; · rfl
                     ·exact ih _ _
   unfold iH qN;by_cases e:t=s
   ·simp[e]
   ·rw[if_neg e,if_neg e,List.map_cons,ih,sh r 0 1];by_cases q:(qN r s (0+1)).isSome=true
    ·rw[if_pos q,if_pos q]; rfl
    ·rw[if_neg q,if_neg q]; rfl
/- hierarchy.key. -/
theorem aeF:((eF 100).all fun n=>decide ((Lib.decDigits n).length<=2))=true:=by decide +kernel
theorem abO {x:Int} (h0:0<=x) (h1:x<100):(py x).size<=2:=by
 have:=ph.1 aeF x.toNat (iG.2 (by omega));have:=of_decide_eq_true this;show (Lib.decDigits x.toNat).toArray.size<=2;simpa using this
theorem aeD {x:Int} (b0:0<=x) (b1:x<100):bu an SD [.int .i64 x] []=some (.str (py x),[]):=by
 have git:bu an P4 [.int .i64 x,.int .i64 10] []=some (.str (py x),[]):=O8 (by unfold MP; rw[oQb5]; show OI _ _=_; simp only[OI]; rw[if_pos ⟨b0,b1⟩]);have w:IntKind.i64.wrap x=x:=by simp only[IntKind.wrap_i64]; omega
 generalize py x=I at *
 have i2:bu an Wg [.int .i64 x] []=some (.str I,[]):=by
  rw[eO sQb2 (aB rfl)];unfold qQb2 cQb2;simp[acY,acX,git,w,b0,b1,aJ,bM,bI,sQb5,iQb5]
 rw[eO sQa4 (aB rfl)];unfold qQa4 cQa4;simp[ada,ac9,i2,w,b0,b1,aJ,bM,bI,sQb2,iQb2]
theorem abe (a b:ByteArray):(a++b).size=a.size+b.size:=by simp
theorem Tz (l:List Int) (hl:l.length<=1000) (hb:∀x∈l,0<=x/\x<100):∀(n i:Nat) (s:ByteArray),i+n=l.length->s.size<=3*i->aY an 0 (.loop aaw) ⟨[(3,.str s),(6,.list 1 (ints l)),(7,.int .i64 l.length),(8,.int .i64 i)],[]⟩=some (.exit 0,⟨[(3,.str (Qe s (l.drop i))),(6,.list 1 (ints l)),(7,.int .i64 l.length),(8,.int .i64 l.length),(9,.bool false)],[]⟩)
 |0,i,s,hi,hs=>by
   obtain rfl:i=l.length:=by omega
   rw[List.drop_length];have e:Qe s []=s:=rfl;rw[e];refine bt ?_;generalize ints l=L at *;unfold aaw;simp[YH,YG,YF,YE,YD,YC,YB,YA]
 |n+1,i,s,hi,hs=>by
   have bF:i<l.length:=by omega
   obtain⟨b0,b1⟩:=hb l[i] (List.getElem_mem bF);have sz:=abO b0 b1;have s1:(py l[i]++(⟨#[32]⟩:ByteArray)).size=(py l[i]).size+1:=by rw[abe]; rfl
   have ih:=Tz l hl hb n (i+1) (s++(py l[i]++⟨#[32]⟩)) (by omega) (by rw[abe,s1]; omega);rw[List.drop_eq_getElem_cons bF,Qe];refine (aV ?_).trans ih;have k1:(i:Int)<l.length:=by omega
   have hw:=dO (i:=i) (by omega);have g3:(ints l)[i]?=some (.int .i64 l[i]):=by rw[ai (by rw[ah]; exact bF),aZ]
   have g4:∀h,(ints l)[i]'h=.int .i64 l[i]:=fun h=>aZ _ _ _;have ll:=ah l;have q1:(py l[i]).size+1<=1000000000:=by omega
   have q2:s.size+(py l[i]++(⟨#[32]⟩:ByteArray)).size<=1000000000:=by rw[s1]; omega
   have q3:s.size+((py l[i]).size+1)<=1000000000:=by omega
   have q0:(py l[i]).size+(⟨#[32]⟩:ByteArray).size<=1000000000:=q1;have q4:s.size+((py l[i]).size+(⟨#[32]⟩:ByteArray).size)<=1000000000:=q3;have git:=aeD b0 b1;clear ih s1;generalize py l[i]=I at *;generalize l[i]=x at *;generalize ints l=L at *;unfold aaw;simp[YH,YG,YF,YE,YD,YC,YB,YA,k1,hw,g3,g4,ll,bF,q0,q1,q2,q3,q4,b0,b1,git,idx,aJ,dq,pl,oQa4,sQa4,iQa4]
theorem Qd (l:List Int) (hl:l.length<=1000) (hb:∀x∈l,0<=x/\x<100):bu an nQV [.list 1 (ints l)] []=some (.str (nH l),[]):=by
 have lp:=Tz l hl hb l.length 0 ⟨#[]⟩ (by omega) (aO _);rw[List.drop_zero] at lp;have e:Qe ⟨#[]⟩ l=nH l:=rfl;rw[e] at lp;rw[eO sQV (aB rfl)];have ll:=ah l;simp only[fU] at lp;generalize nH l=K at *;generalize ints l=L at *;unfold qQV cQV;simp[YH,YG,YF,YE,YD,YC,YB,YA,lp,ll,aJ,bM,bI]
end Go.BmP
