/- masks.Reach. -/
import Derived.Test.YtpimmjklbakckaaGreatDoorCoT
import Derived.Test.YtpimmjklbakckaaGreatDoorMxP
set_option linter.unusedSimpArgs false
set_option linter.unusedVariables false
set_option maxRecDepth 100000
set_option maxHeartbeats 4000000
open Bool renaming and_eq_true → ae, or_eq_true → dS
open List renaming all_eq_true → sO, append_assoc → du, getElem?_eq_getElem → aq, length_append → bC, length_singleton → qL, mem_cons_of_mem → dm, mem_cons_self → eI, mem_range → iv, range → dL, take_of_length_le → dt
open List.cons renaming injEq → O3
open Nat renaming and_le_left → fh, and_le_right → Ey, eq_of_testBit_eq → BH, le_of_ble_eq_true → aF, le_refl → aI, lt_of_le_of_lt → dA, or_lt_two_pow → yJ, strongRecOn → HI, testBit_and → bS, testBit_or → gT, testBit_two_pow → uB
open Option.some renaming inj → bK, injEq → af
open Prod renaming fst → eH
namespace Go.BmP
open Go.Am Go.Bm
theorem xl {m b:Nat} (hm:m<18446744073709551616) (hb:b<18446744073709551616) (j:Nat):(m &&& (18446744073709551615-b)).testBit j=(m.testBit j&&!b.testBit j):=by
 rw[bS];have e:18446744073709551615-b=2 ^ 64-(b+1):=by omega
 rw[e,Nat.testBit_two_pow_sub_succ (by omega)];by_cases hj:j<64
 ·simp[hj]
 ·have:m.testBit j=false:=Nat.testBit_lt_two_pow (Nat.lt_of_lt_of_le hm (by
   rw[show (18446744073709551616:Nat)=2 ^ 64 from rfl];exact Nat.pow_le_pow_right (by decide) (by omega)))
  simp[this]
theorem aec {A:List Nat} {v:Nat} (hv:v<A.length):idx (.int .i64 (v:Int)) A.length=some v/\(us A)[v]?=some (.int .u64 (A.getD v 0:Nat))/\∀ h:v<(us A).length,(us A)[v]=.int .u64 (A.getD v 0:Nat):=by
 have e:(us A)[v]?=some (.int .u64 (A.getD v 0:Nat)):=by
  rw[J5,List.getD_eq_getElem?_getD,aq hv]; rfl
 refine⟨by have:=KI (k:=.i64) (i:=(v:Int)) (n:=A.length) (by omega) (by omega); simpa using this,e,fun h=>?_⟩;rw[aq h] at e;exact bK e
structure xq (A:List Nat) (W x R:Nat):Prop where
 lt:R<18446744073709551616
 sub:∀j,x.testBit j=true->R.testBit j=true
 win:∀j,R.testBit j=true->W.testBit j=true
 cl:∀j k,R.testBit j=true->(A.getD j 0).testBit k=true->W.testBit k=true->R.testBit k=true
 least:∀C:Nat->Prop,(∀j,x.testBit j=true->C j)->(∀j k,C j->(A.getD j 0).testBit k=true->W.testBit k=true->C k)->∀j,R.testBit j=true->C j
def PT (A:List Nat) (x W t:Nat) (J:Env):St:=⟨(0,.list 1 (us A))::(1,.int .u64 x)::(2,.int .u64 W)::(7,.int .u64 t)::J,[]⟩
def XD (A:List Nat) (W x t:Nat):Nat:=(A.getD (tz t) 0 &&& W) &&& (18446744073709551615-x)
theorem XC {A:List Nat} (hA:A.length<=64) (hS:∀i,A.getD i 0<18446744073709551616) {x W t:Nat} (hx:x<18446744073709551616) (hW:W<18446744073709551616) (h0:t≠0) (ht:t<18446744073709551616) (hv:tz t<A.length):bg aC 0 ND (PT A x W t [])=some (.normal,PT A (x ||| XD A W x t) W ((t &&& (t-1)) ||| XD A W x t) []):=by
 have n0:¬((t:Int)=0):=by omega
 have lw:=Gc t h0 ht;obtain⟨r1,r2,r3⟩:=aec hv;have w1:=decU h0 ht;have w2:=u64_and_nat t (t-1) ht (by omega);have w3:=u64_and_nat (A.getD (tz t) 0) W (hS _) hW;have l3:A.getD (tz t) 0 &&& W<18446744073709551616:=dA Ey hW;have w4:=u64_andNot_nat (A.getD (tz t) 0 &&& W) x l3 hx;have l4:XD A W x t<18446744073709551616:=dA fh l3;have w5:=u64_or_nat x (XD A W x t) hx l4;have l2:t &&& (t-1)<18446744073709551616:=dA fh ht;have w6:=u64_or_nat (t &&& (t-1)) (XD A W x t) l2 l4;have bQ:tz t<(us A).length:=by rw[fM]; exact hv
 have lA:=fM A;unfold PT;unfold XD at *;generalize ((A.getD (tz t) 0 &&& W) &&& (18446744073709551615-x):Nat)=Z at *;generalize (A.getD (tz t) 0 &&& W:Nat)=Y at *;generalize (x ||| Z:Nat)=X2 at *;generalize ((t &&& (t-1)) ||| Z:Nat)=T2 at *;generalize (t &&& (t-1):Nat)=T1 at *;generalize A.getD (tz t) 0=r at *;generalize tz t=v at *;unfold ND;simp[SM,SL,SK,SJ,SI,SH,SG,SF,SE,SD,n0,h0,lw,r1,r2,r3,w1,w2,w3,w4,w5,w6,hv,bQ,lA,idx,aJ,sQV,iQV]
theorem aaV {A:List Nat} {W x t:Nat} (hx:x<18446744073709551616) (hW:W<18446744073709551616) (j:Nat):(XD A W x t).testBit j=((A.getD (tz t) 0).testBit j&&W.testBit j&&!x.testBit j):=by
 unfold XD;rw[xl (dA Ey hW) hx,bS]
theorem ag2 (a b:Nat):a<=a ||| b:=Nat.left_le_or
theorem PV {A:List Nat} (hA:A.length<=64) (hS:∀i,A.getD i 0<18446744073709551616) {W:Nat} (hW:W<18446744073709551616) (hWA:∀j,W.testBit j=true->j<A.length):∀(n x:Nat),x+n=18446744073709551616->∀t:Nat,x<18446744073709551616->t<18446744073709551616->(∀j,t.testBit j=true->x.testBit j=true)->(∀j,x.testBit j=true->W.testBit j=true) ->
  (∀j k,x.testBit j=true->t.testBit j=false->(A.getD j 0).testBit k=true->W.testBit k=true->x.testBit k=true)->∃R,xq A W x R/\bg aC 0 (.loop ND) (PT A x W t [])=some (.exit 0,PT A R W 0 [(15,.bool false)]):=by
 intro n
 induction n using HI with
 |ind n ihn=>
   intro x hn t
   induction t using HI with
   |ind t iht=>
     intro hx ht htx hxW LC;by_cases h0:t=0
     ·subst h0;refine⟨x,⟨hx,fun _ h=>h,hxW,fun j k h1 h2 h3=>LC j k h1 (Nat.zero_testBit j) h2 h3,fun C hC _ j hj=>hC j hj⟩,?_⟩;refine bI ?_;unfold PT ND;simp[SM,SL,SK,SJ,SI,SH,SG,SF,SE,SD,jJ]
     ·obtain⟨tb,tlo⟩:=zd h0 ht;have hv:tz t<A.length:=hWA _ (hxW _ (htx _ tb));have rd:=XC hA hS hx hW h0 ht hv;have zb:=fun j=>aaV (A:=A) (W:=W) (x:=x) (t:=t) hx hW j
      have zl:XD A W x t<18446744073709551616:=by
       unfold XD;exact dA fh (dA Ey hW)
      have db:=fun j=>Bn h0 ht j;have dl:=Uw h0;generalize XD A W x t=Z at *;generalize hT:t &&& (t-1)=T at *;have x2:x ||| Z<18446744073709551616:=yJ (n:=64) hx zl
      have t2:T ||| Z<18446744073709551616:=yJ (n:=64) (by omega) zl
      have a1:∀j,(T ||| Z).testBit j=true->(x ||| Z).testBit j=true:=fun j hj=>by
       rw[gT,dS] at hj ⊢;rcases hj with hj|hj
       ·rw[db,ae] at hj; exact .inl (htx j hj.1)
       ·exact .inr hj
      have a2:∀j,(x ||| Z).testBit j=true->W.testBit j=true:=fun j hj=>by
       rw[gT,dS] at hj;rcases hj with hj|hj
       ·exact hxW j hj
       ·rw[zb,ae,ae] at hj; exact hj.1.2
      have a3:∀j k,(x ||| Z).testBit j=true->(T ||| Z).testBit j=false->(A.getD j 0).testBit k=true->W.testBit k=true->(x ||| Z).testBit k=true:=fun j k h1 h2 h3 h4=>by
       rw[gT,Bool.or_eq_false_iff] at h2;obtain⟨h2,h5⟩:=h2;rw[gT,h5,Bool.or_false] at h1;rw[gT,dS];by_cases e:j=tz t
       ·subst e;cases hk:x.testBit k with
        |true=>exact .inl rfl
        |false=>right; rw[zb,h3,h4,hk]; rfl
       ·left;refine LC j k h1 ?_ h3 h4;rw[db] at h2;cases htj:t.testBit j with
        |false=>rfl
        |true=>rw[htj] at h2; simp[e] at h2
      have fin:∀R,xq A W (x ||| Z) R->xq A W x R:=fun R r=>by
       refine⟨r.lt,fun j hj=>r.sub j (by rw[gT,hj]; rfl),r.win,r.cl,fun C h1 h2 j hj=>r.least C (fun i hi=>?_) h2 j hj⟩;rw[gT,dS] at hi;rcases hi with hi|hi
       ·exact h1 i hi
       ·rw[zb,ae,ae] at hi;exact h2 (tz t) i (h1 _ (htx _ tb)) hi.1.1 hi.1.2
      by_cases hz:Z=0
      ·subst hz;rw[Nat.or_zero] at rd a1 a2 a3 x2 fin;rw[Nat.or_zero] at rd a1 a3 t2;obtain⟨R,r1,r2⟩:=iht T (by omega) hx t2 a1 hxW a3;exact⟨R,r1,(bk rd).trans r2⟩
      ·have hgt:x<x ||| Z:=by
        rcases Nat.lt_or_eq_of_le (ag2 x Z) with h|h
        ·exact h
        ·exfalso;apply hz;apply BH;intro j;rw[Nat.zero_testBit];cases hj:Z.testBit j with
         |false=>rfl
         |true=>
           have Xc:=hj;rw[zb,ae] at Xc;have:(x ||| Z).testBit j=true:=by rw[gT,hj,Bool.or_true]
           rw[<-h] at this;rw[this] at Xc;cases Xc.2
       obtain⟨R,r1,r2⟩:=ihn (18446744073709551616-(x ||| Z)) (by omega) (x ||| Z) (by omega) (T ||| Z) x2 t2 a1 a2 a3;exact⟨R,fin R r1,(bk rd).trans r2⟩
theorem Iv {A:List Nat} (hA:A.length<=64) (hS:∀i,A.getD i 0<18446744073709551616) {W f:Nat} (hW:W<18446744073709551616) (hf:f<18446744073709551616) (hWA:∀j,W.testBit j=true->j<A.length):∃R,xq A W (f &&& W) R/\bU aC nQK [.list 1 (us A),.int .u64 f,.int .u64 W] []=some (.int .u64 R,[]):=by
 have hx:f &&& W<18446744073709551616:=dA fh hf;obtain⟨R,r1,r2⟩:=PV hA hS hW hWA (18446744073709551616-(f &&& W)) (f &&& W) (by omega) (f &&& W) hx hx (fun _ h=>h) (fun j hj=>by rw[bS,ae] at hj; exact hj.2) (fun j k h1 h2=>by rw[h1] at h2; cases h2);refine⟨R,r1,?_⟩;have w1:=u64_and_nat f W hf hW;rw[fK sQK (aF rfl)];unfold PT at r2;generalize (f &&& W:Nat)=x at *;generalize us A=A1 at *;unfold qQK cQK;simp[SM,SL,SK,SJ,SI,SH,SG,SF,SE,SD,r2,w1,aJ,cc,bR]
/- connect.Groups. -/
inductive Lq (A:List Nat) (m:Nat):Nat->List Nat->Prop
 |nil:Lq A m 0 []
 |cons (r R:Nat) (l:List Nat) (h0:r≠0) (h1:xq A m (2 ^ tz r) R) (h2:Lq A m (r &&& (18446744073709551615-R)) l):Lq A m r (R::l)
def kV (l:List Nat):List AV:=l.map fun R=>.list 1 (ints (cz R))
theorem Ws (l:List Nat) (R:Nat):kV l++[.list 1 (ints (cz R))]=kV (l++[R]):=by simp[kV]
theorem lF (l:List Nat):(kV l).length=l.length:=List.length_map _
def QI (A:List Nat) (m:Nat) (o:List Nat) (r:Nat) (J:Env):St:=⟨(1,.int .u64 m)::(5,.list 1 (us A))::(6,.own 1 (kV o))::(7,.int .u64 r)::J,[]⟩
theorem ZS {A:List Nat} {m r R:Nat} (o:List Nat) (hm:m<18446744073709551616) (hr:r<18446744073709551616) (h0:r≠0) (hR:R<18446744073709551616) (hc:bU aC nQK [.list 1 (us A),.int .u64 ((2 ^ tz r:Nat):Int),.int .u64 m] []=some (.int .u64 R,[])) (ho:o.length<=64) :
  bg aC 0 Nq (QI A m o r [])=some (.normal,QI A m (o++[R]) (r &&& (18446744073709551615-R)) []):=by
 have n0:¬((r:Int)=0):=by omega
 obtain⟨e1,e2⟩:=Lib.lowest_bit 64 r h0 hr;have e1:r &&& (18446744073709551616-r)=2 ^ tz r:=e1
 have u1:IntKind.u64.wrap (0-(r:Int))=((18446744073709551616-r:Nat):Int):=by
  simp only[IntKind.wrap_u64];omega
 have u2:IntKind.u64.wrap (-(r:Int))=((18446744073709551616-r:Nat):Int):=by rw[<-u1]; simp
 have w2:=u64_and_nat r (18446744073709551616-r) hr (by omega);rw[e1] at w2;have w3:=u64_andNot_nat r R hr hR;have ml:=Jc R hR;have gl:=lF o;have hL1:o.length+1<=4294967296:=by omega
 have gs:=Ws o R;unfold QI;generalize (r &&& (18446744073709551615-R):Nat)=r2 at *;generalize (2 ^ tz r:Nat)=p at *;generalize (18446744073709551616-r:Nat)=nr at *;rw[<-gs];have tk1:(kV o).take o.length=kV o:=dt (by omega);have tk2:(kV o++[AV.list 1 (ints (cz R))]).take (o.length+1)=kV o++[AV.list 1 (ints (cz R))]:=dt (by simp[gl]);generalize kV o=G at *;generalize ints (cz R)=B1 at *;generalize us A=A1 at *;unfold Nq;simp[R5,R4,R3,R0,RZ,RY,RX,RW,RV,n0,h0,hc,ml,u1,u2,w2,w3,hL1,mN,gl,tk1,tk2,aJ,eE,pl,fz,K0,KW,rep,gq,sQK,iQK,sQL,iQL]
theorem abP {A:List Nat} (hA:A.length<=64) (hS:∀i,A.getD i 0<18446744073709551616) {m:Nat} (hm:m<18446744073709551616) (hmA:∀j,m.testBit j=true->j<A.length):∀(r:Nat),r<18446744073709551616->(∀j,r.testBit j=true->m.testBit j=true)->∀o:List Nat,o.length<=64->(r≠0->o.length<=tz r) ->
  ∃ l,(Lq A m r l/\o.length+l.length<=64)/\bg aC 0 (.loop Nq) (QI A m o r [])=some (.exit 0,QI A m (o++l) 0 [(13,.bool false)]):=by
 intro r
 induction r using HI with
 |ind r ih=>
   intro hr hrm o ho2 ho;by_cases h0:r=0
   ·subst h0;refine⟨[],⟨.nil,ho2⟩,?_⟩;rw[List.append_nil];refine bI ?_;unfold QI Nq;generalize kV o=G at *;generalize us A=A1 at *;simp[R5,R4,R3,R0,RZ,RY,RX,RW,RV,jJ]
   ·obtain⟨tb,tlo⟩:=zd h0 hr;obtain⟨_,_,ht⟩:=D6 h0 hr
    have hp:2 ^ tz r<18446744073709551616:=by
     have:=Nat.pow_lt_pow_right (a:=2) (by decide) ht;rw[show (18446744073709551616:Nat)=2 ^ 64 from rfl]; exact this
    have fm:2 ^ tz r &&& m=2 ^ tz r:=by
     apply BH;intro j;rw[bS,uB];by_cases e:tz r=j
     ·subst e; simp[hrm _ tb]
     ·simp[e]
    obtain⟨R,r1,r2⟩:=Iv hA hS hm hp hmA;rw[fm] at r1;have hRb:R.testBit (tz r)=true:=r1.sub _ (by rw[uB]; simp);have rd:=ZS o hm hr h0 r1.lt r2 (by have:=ho h0; omega);have nb:=fun j=>xl hr r1.lt j;have hle:r &&& (18446744073709551615-R)<=r:=fh
    have bQ:r &&& (18446744073709551615-R)<r:=by
     rcases Nat.lt_or_eq_of_le hle with h|h
     ·exact h
     ·have:=nb (tz r);rw[h,tb,hRb] at this;cases this
    obtain⟨l,⟨l1,l3⟩,l2⟩:=ih _ bQ (by omega) (fun j hj=>hrm j (by rw[nb,ae] at hj; exact hj.1)) (o++[R]) (by rw[bC,qL]; have:=ho h0; omega) (fun hn=>by
     have h1:=ho h0;obtain⟨tb2,_⟩:=zd hn (by omega);rw[nb,ae] at tb2;obtain⟨q1,q2⟩:=tb2
     have q3:tz r<=tz (r &&& (18446744073709551615-R)):=by
      apply Nat.le_of_not_lt;intro h;rw[tlo _ h] at q1; cases q1
     have q4:tz r≠tz (r &&& (18446744073709551615-R)):=fun e=>by rw[<-e,hRb] at q2; cases q2
     rw[bC,qL];omega)
    refine⟨R::l,⟨.cons r R l h0 r1 l1,by rw[bC,qL] at l3; rw[List.length_cons]; omega⟩,?_⟩;rw[du] at l2;exact (bk rd).trans l2
theorem UR {N:Nat} {Es:List Ed} (hG:vW (N:Int) Es) (i:Nat):(ft N Es).getD i 0<18446744073709551616:=ui (mK hG).2.1 i
theorem QH {N:Nat} {Es:List Ed} (hG:vW (N:Int) Es) (hE:Es.length<1000000) {m:Nat} (hm:m<18446744073709551616) (hmN:∀j,m.testBit j=true->j<N) :
  ∃ l,(Lq (ft N Es) m m l/\l.length<=64)/\bU aC nQq [.agg [.int .i64 N,.list 2 (fi Es)],.int .u64 m] []=some (.list 1 (kV l),[]):=by
 have hN:N<=64:=by have:=hG.1.2; omega
 have la:(ft N Es).length=N:=(mK hG).1;obtain⟨l,l1,l2⟩:=abP (A:=ft N Es) (by omega) (UR hG) hm (fun j hj=>by rw[la]; exact hmN j hj) m hm (fun _ h=>h) [] (by simp) (fun _=>Nat.zero_le _);refine⟨l,⟨l1.1,by simpa using l1.2⟩,?_⟩;have rw1:=L4 hG (by omega);rw[List.nil_append] at l2;rw[fK sQq (aF rfl)];have gl:=lF l;have ge:kV []=[]:=rfl;unfold QI at l2;rw[ge] at l2;simp only[jJ] at l2;have tk1:(kV l).take l.length=kV l:=dt (by omega);generalize kV l=G at *;generalize us (ft N Es)=A1 at *;generalize fi Es=Y at *;unfold qQq cQq;simp[R5,R4,R3,R0,RZ,RY,RX,RW,RV,rw1,l2,gl,tk1,aJ,cc,bR,lN,fI,eE,pl,sQJ,iQJ]
/- The text that stands for a set of nodes below 100 tells it. -/
def KG:ByteArray->List Int->ByteArray
 |s,[]=>s
 |s,x::r=>KG (s++(mV x++⟨#[32]⟩)) r
def kS (l:List Int):ByteArray:=KG ⟨#[]⟩ l
def encI (x:Int):List UInt8:=Lib.decDigits x.toNat++[32]
theorem Jn:∀(l:List Int) (s:ByteArray),(KG s l).data.toList=s.data.toList++l.flatMap encI
 |[],s=>by simp[KG]
 |x::r,s=>by
   rw[KG,Jn r];simp[encI,mV,ByteArray.data_append]
def valD (d:List UInt8):Nat:=d.foldl (fun a b=>a*10+(b.toNat-48)) 0
theorem ab2:((dL 100).all fun n=>decide (valD (Lib.decDigits n)=n)&&decide (32∉Lib.decDigits n))=true:=by decide +kernel
theorem OA {x:Int} (h0:0<=x) (h1:x<100):valD (Lib.decDigits x.toNat)=x.toNat/\32∉Lib.decDigits x.toNat:=by
 have:=sO.1 ab2 x.toNat (iv.2 (by omega));rw[ae] at this;exact⟨of_decide_eq_true this.1,of_decide_eq_true this.2⟩
theorem aab:∀{a b r s:List UInt8},32∉a->32∉b->a++32::r=b++32::s->a=b/\r=s
 |[],[],r,s,_,_,h=>by simpa using h
 |[],y::b,r,s,_,hb,h=>by
   simp at h;exact absurd (by rw[<-h.1]; exact eI) hb
 |x::a,[],r,s,ha,_,h=>by
   simp at h;exact absurd (by rw[h.1]; exact eI) ha
 |x::a,y::b,r,s,ha,hb,h=>by
   simp only[List.cons_append,O3] at h;obtain⟨p,q⟩:=aab (fun m=>ha (dm _ m)) (fun m=>hb (dm _ m)) h.2;exact⟨by rw[h.1,p],q⟩
theorem Ov:∀{l m:List Int},(∀x∈l,0<=x/\x<100)->(∀x∈m,0<=x/\x<100)->l.flatMap encI=m.flatMap encI->l=m
 |[],[],_,_,_=>rfl
 |[],y::m,_,_,h=>by simp[encI] at h
 |x::l,[],_,_,h=>by simp[encI] at h
 |x::l,y::m,hl,hm,h=>by
   obtain⟨a1,a2⟩:=hl x eI;obtain⟨b1,b2⟩:=hm y eI;obtain⟨c1,c2⟩:=OA a1 a2;obtain⟨d1,d2⟩:=OA b1 b2;simp only[List.flatMap_cons,encI,du,List.singleton_append] at h;obtain⟨p,q⟩:=aab c2 d2 h
   have e:x=y:=by
    rw[p,d1] at c1;omega
   rw[e,Ov (fun z hz=>hl z (dm _ hz)) (fun z hz=>hm z (dm _ hz)) q]
theorem Zh {l m:List Int} (hl:∀x∈l,0<=x/\x<100) (hm:∀x∈m,0<=x/\x<100) (h:kS l=kS m):l=m:=by
 have e:=congrArg (fun b:ByteArray=>b.data.toList) h;simp only[kS,Jn] at e;exact Ov hl hm (by simpa using e)
def iW:List (List Int × Int)->List Int->Int->List (List Int × Int)
 |[],s,k=>[(s,k)]
 |(t,j)::r,s,k=>if t=s then (t,k)::r else (t,j)::iW r s k
def zY (a:List (List Int × Int)):List AV:=a.map fun p=>.dF [.str (kS p.1),.int .i64 p.2]
def oY:List (List Int × Int)->List Int->Nat->Option (Nat × AV)
 |[],_,_=>none
 |(t,j)::r,s,i=>if t=s then some (i,.int .i64 j) else oY r s (i+1)
def Lo (s:List Int):Prop:=∀x∈s,0<=x/\x<100
theorem xS {s:List Int} (hs:Lo s):∀{a:List (List Int × Int)},(∀p∈a,Lo p.1)->∀i:Nat,gP .zM (.str (kS s)) (zY a) i=some (oY a s i)
 |[],_,i=>rfl
 |(t,j)::r,ha,i=>by
   have ht:Lo t:=ha (t,j) eI;have ih:=xS hs (fun p hp=>ha p (dm _ hp)) (i+1);show gP .zM (.str (kS s)) (.dF [.str (kS t),.int .i64 j]::zY r) i=_;unfold gP oY;by_cases e:t=s
   ·subst e
    have q:xW .zM (.str (kS t)) (.str (kS t))=some true:=by
     simp only[xW,af]; exact (MapKept.bytes_beq _ _).2 rfl
    rw[q,if_pos rfl]
   ·have q:xW .zM (.str (kS s)) (.str (kS t))=some false:=by
     simp only[xW,af];cases hb:(kS s == kS t) with
     |false=>rfl
     |true=>exact absurd (Zh ht hs ((MapKept.bytes_beq _ _).1 hb).symm) e
    rw[q,if_neg e];exact ih
theorem Ur:∀{a:List (List Int × Int)} {s:List Int} {i:Nat} {p:Nat × AV},oY a s i=some p->i<=p.1
 |[],_,_,_,h=>by cases h
 |(t,j)::r,s,i,p,h=>by
   unfold oY at h;split at h
   ·simp only[af] at h; subst h; exact aI _
   ·have:=Ur h; omega
theorem M3 {s:List Int} {k:Int}:∀{a:List (List Int × Int)} (i:Nat),(match oY a s i with
  |some (n,_)=>(zY a).set (n-i) (.dF [.str (kS s),.int .i64 k])
  |none=>zY a++[.dF [.str (kS s),.int .i64 k]])=zY (iW a s k)
 |[],i=>rfl
 |(t,j)::r,i=>by
   have ih:=M3 (s:=s) (k:=k) (a:=r) (i+1);unfold oY iW;by_cases e:t=s
   ·subst e;rw[if_pos rfl,if_pos rfl];simp[zY]
   ·rw[if_neg e,if_neg e];have e1:zY ((t,j)::r)=.dF [.str (kS t),.int .i64 j]::zY r:=rfl;have e2:zY ((t,j)::iW r s k)=.dF [.str (kS t),.int .i64 j]::zY (iW r s k):=rfl;rw[e1,e2,<-ih];cases h:oY r s (i+1) with
    |none=>rfl
    |some p=>
      obtain⟨n,v⟩:=p;have:=Ur h;simp only at this;simp only;rw[show n-i=(n-(i+1))+1 by omega,List.set_cons_succ]
theorem TR (s:List Int) (k:Int) (a:List (List Int × Int)):zD (.str (kS s)) (.int .i64 k) (zY a) (oY a s 0)=zY (iW a s k):=by
 rw[<-M3 (s:=s) (k:=k) (a:=a) 0];unfold zD;cases h:oY a s 0 with
 |none=>rfl
 |some p=>obtain⟨n,v⟩:=p; simp
theorem xE:∀(a:List (List Int × Int)) (s:List Int) (k:Int),(iW a s k).map eH=if (oY a s 0).isSome then a.map eH else a.map eH++[s]
 |[],s,k=>rfl
 |(t,j)::r,s,k=>by
   have ih:=xE r s k
   have sh:∀(a:List (List Int × Int)) (i i':Nat),(oY a s i).isSome=(oY a s i').isSome:=by
    intro a
    induction a with
    |nil=>intro i i'; rfl
    | cons p r ih => intro i i'; obtain ⟨t, j⟩ := p; unfold oY; split; · rfl
                     ·exact ih _ _
   unfold iW oY;by_cases e:t=s
   ·simp[e]
   ·rw[if_neg e,if_neg e,List.map_cons,ih,sh r 0 1];by_cases q:(oY r s (0+1)).isSome=true
    ·rw[if_pos q,if_pos q]; rfl
    ·rw[if_neg q,if_neg q]; rfl
/- hierarchy.key. -/
theorem Zm:((dL 100).all fun n=>decide ((Lib.decDigits n).length<=2))=true:=by decide +kernel
theorem Wf {x:Int} (h0:0<=x) (h1:x<100):(mV x).size<=2:=by
 have:=sO.1 Zm x.toNat (iv.2 (by omega));have:=of_decide_eq_true this;show (Lib.decDigits x.toNat).toArray.size<=2;simpa using this
theorem Zj {x:Int} (b0:0<=x) (b1:x<100):bU aC nQW [.int .i64 x] []=some (.str (mV x),[]):=by
 have git:bU aC nQ6 [.int .i64 x,.int .i64 10] []=some (.str (mV x),[]):=JR (by unfold HP; rw[oQ6]; show Jt _ _=_; simp only[Jt]; rw[if_pos ⟨b0,b1⟩]);have w:IntKind.i64.wrap x=x:=by simp only[IntKind.wrap_i64]; omega
 generalize mV x=I at *
 have i2:bU aC nQ3 [.int .i64 x] []=some (.str I,[]):=by
  rw[fK sQ3 (aF rfl)];unfold qQ3 cQ3;simp[adw,adu,git,w,b0,b1,aJ,cc,bR,sQ6,iQ6]
 rw[fK sQW (aF rfl)];unfold qQW cQW;simp[adf,ade,i2,w,b0,b1,aJ,cc,bR,sQ3,iQ3]
theorem UO (a b:ByteArray):(a++b).size=a.size+b.size:=by simp
theorem NJ (l:List Int) (hl:l.length<=1000) (hb:∀x∈l,0<=x/\x<100):∀(n i:Nat) (s:ByteArray),i+n=l.length->s.size<=3*i->bg aC 0 (.loop T9) ⟨[(3,.str s),(6,.list 1 (ints l)),(7,.int .i64 l.length),(8,.int .i64 i)],[]⟩=some (.exit 0,⟨[(3,.str (KG s (l.drop i))),(6,.list 1 (ints l)),(7,.int .i64 l.length),(8,.int .i64 l.length),(9,.bool false)],[]⟩)
 |0,i,s,hi,hs=>by
   obtain rfl:i=l.length:=by omega
   rw[List.drop_length];have e:KG s []=s:=rfl;rw[e];refine bI ?_;generalize ints l=L at *;unfold T9;simp[S9,S8,S7,S6,S5,S4,S0,SZ]
 |n+1,i,s,hi,hs=>by
   have bQ:i<l.length:=by omega
   obtain⟨b0,b1⟩:=hb l[i] (List.getElem_mem bQ);have sz:=Wf b0 b1;have s1:(mV l[i]++(⟨#[32]⟩:ByteArray)).size=(mV l[i]).size+1:=by rw[UO]; rfl
   have ih:=NJ l hl hb n (i+1) (s++(mV l[i]++⟨#[32]⟩)) (by omega) (by rw[UO,s1]; omega);rw[List.drop_eq_getElem_cons bQ,KG];refine (bk ?_).trans ih;have k1:(i:Int)<l.length:=by omega
   have hw:=eO (i:=i) (by omega);have g3:(ints l)[i]?=some (.int .i64 l[i]):=by rw[aq (by rw[ah]; exact bQ),bm]
   have g4:∀h,(ints l)[i]'h=.int .i64 l[i]:=fun h=>bm _ _ _;have ll:=ah l;have q1:(mV l[i]).size+1<=1000000000:=by omega
   have q2:s.size+(mV l[i]++(⟨#[32]⟩:ByteArray)).size<=1000000000:=by rw[s1]; omega
   have q3:s.size+((mV l[i]).size+1)<=1000000000:=by omega
   have q0:(mV l[i]).size+(⟨#[32]⟩:ByteArray).size<=1000000000:=q1;have q4:s.size+((mV l[i]).size+(⟨#[32]⟩:ByteArray).size)<=1000000000:=q3;have git:=Zj b0 b1;clear ih s1;generalize mV l[i]=I at *;generalize l[i]=x at *;generalize ints l=L at *;unfold T9;simp[S9,S8,S7,S6,S5,S4,S0,SZ,k1,hw,g3,g4,ll,bQ,q0,q1,q2,q3,q4,b0,b1,git,idx,aJ,eE,pl,oQW,sQW,iQW]
theorem KF (l:List Int) (hl:l.length<=1000) (hb:∀x∈l,0<=x/\x<100):bU aC nQC [.list 1 (ints l)] []=some (.str (kS l),[]):=by
 have lp:=NJ l hl hb l.length 0 ⟨#[]⟩ (by omega) (aI _);rw[List.drop_zero] at lp;have e:KG ⟨#[]⟩ l=kS l:=rfl;rw[e] at lp;rw[fK sQC (aF rfl)];have ll:=ah l;simp only[jJ] at lp;generalize kS l=K at *;generalize ints l=L at *;unfold qQC cQC;simp[S9,S8,S7,S6,S5,S4,S0,SZ,lp,ll,aJ,cc,bR]
end Go.BmP
