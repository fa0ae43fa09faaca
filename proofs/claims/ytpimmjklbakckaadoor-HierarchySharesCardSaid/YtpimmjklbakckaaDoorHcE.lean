/- masks.Reach. -/
import Derived.Test.YtpimmjklbakckaaDoorCoT
import Derived.Test.YtpimmjklbakckaaDoorMxP
set_option linter.unusedSimpArgs false
set_option linter.unusedVariables false
set_option maxRecDepth 100000
set_option maxHeartbeats 4000000
open Bool renaming and_eq_true → ae, or_eq_true → dG
open List renaming all_eq_true → rT, append_assoc → dQ, getElem?_eq_getElem → aB, length_append → bw, length_singleton → p8, mem_cons_of_mem → eH, mem_cons_self → fP, mem_range → qt, range → fc, take_of_length_le → dE
open List.cons renaming injEq → Mz
open Nat renaming and_le_left → fa, and_le_right → CQ, eq_of_testBit_eq → Ar, le_of_ble_eq_true → aF, le_refl → aG, lt_of_le_of_lt → dv, or_lt_two_pow → xC, strongRecOn → FI, testBit_and → cV, testBit_or → gS, testBit_two_pow → tZ
open Option.some renaming inj → bJ, injEq → af
open Prod renaming fst → dW
namespace Go.BmP
open Go.Am Go.Bm
theorem we {m b:Nat} (hm:m<18446744073709551616) (hb:b<18446744073709551616) (j:Nat):(m &&& (18446744073709551615-b)).testBit j=(m.testBit j&&!b.testBit j):=by
 rw[cV];have e:18446744073709551615-b=2 ^ 64-(b+1):=by omega
 rw[e,Nat.testBit_two_pow_sub_succ (by omega)];by_cases hj:j<64
 ·simp[hj]
 ·have:m.testBit j=false:=Nat.testBit_lt_two_pow (Nat.lt_of_lt_of_le hm (by
   rw[show (18446744073709551616:Nat)=2 ^ 64 from rfl];exact Nat.pow_le_pow_right (by decide) (by omega)))
  simp[this]
theorem ack {A:List Nat} {v:Nat} (hv:v<A.length):idx (.int .i64 (v:Int)) A.length=some v/\(us A)[v]?=some (.int .u64 (A.getD v 0:Nat))/\∀ h:v<(us A).length,(us A)[v]=.int .u64 (A.getD v 0:Nat):=by
 have e:(us A)[v]?=some (.int .u64 (A.getD v 0:Nat)):=by
  rw[HR,List.getD_eq_getElem?_getD,aB hv]; rfl
 refine⟨by have:=adC (k:=.i64) (i:=(v:Int)) (n:=A.length) (by omega) (by omega); simpa using this,e,fun h=>?_⟩;rw[aB h] at e;exact bJ e
structure wj (A:List Nat) (W x R:Nat):Prop where
 lt:R<18446744073709551616
 sub:∀j,x.testBit j=true->R.testBit j=true
 win:∀j,R.testBit j=true->W.testBit j=true
 cl:∀j k,R.testBit j=true->(A.getD j 0).testBit k=true->W.testBit k=true->R.testBit k=true
 least:∀C:Nat->Prop,(∀j,x.testBit j=true->C j)->(∀j k,C j->(A.getD j 0).testBit k=true->W.testBit k=true->C k)->∀j,R.testBit j=true->C j
def Nh (A:List Nat) (x W t:Nat) (J:Env):St:=⟨(0,.list 1 (us A))::(1,.int .u64 x)::(2,.int .u64 W)::(7,.int .u64 t)::J,[]⟩
def UT (A:List Nat) (W x t:Nat):Nat:=(A.getD (tz t) 0 &&& W) &&& (18446744073709551615-x)
theorem US {A:List Nat} (hA:A.length<=64) (hS:∀i,A.getD i 0<18446744073709551616) {x W t:Nat} (hx:x<18446744073709551616) (hW:W<18446744073709551616) (h0:t≠0) (ht:t<18446744073709551616) (hv:tz t<A.length):bh aD 0 K9 (Nh A x W t [])=some (.normal,Nh A (x ||| UT A W x t) W ((t &&& (t-1)) ||| UT A W x t) []):=by
 have n0:¬((t:Int)=0):=by omega
 have lw:=D8 t h0 ht;obtain⟨r1,r2,r3⟩:=ack hv;have w1:=decU h0 ht;have w2:=u64_and_nat t (t-1) ht (by omega);have w3:=u64_and_nat (A.getD (tz t) 0) W (hS _) hW;have l3:A.getD (tz t) 0 &&& W<18446744073709551616:=dv CQ hW;have w4:=u64_andNot_nat (A.getD (tz t) 0 &&& W) x l3 hx;have l4:UT A W x t<18446744073709551616:=dv fa l3;have w5:=u64_or_nat x (UT A W x t) hx l4;have l2:t &&& (t-1)<18446744073709551616:=dv fa ht;have w6:=u64_or_nat (t &&& (t-1)) (UT A W x t) l2 l4;have bY:tz t<(us A).length:=by rw[fI]; exact hv
 have lA:=fI A;unfold Nh;unfold UT at *;generalize ((A.getD (tz t) 0 &&& W) &&& (18446744073709551615-x):Nat)=Z at *;generalize (A.getD (tz t) 0 &&& W:Nat)=Y at *;generalize (x ||| Z:Nat)=X2 at *;generalize ((t &&& (t-1)) ||| Z:Nat)=T2 at *;generalize (t &&& (t-1):Nat)=T1 at *;generalize A.getD (tz t) 0=r at *;generalize tz t=v at *;unfold K9;simp[Ql,Qk,Qj,Qi,Qh,Qg,Qf,Qe,Qd,Qc,n0,h0,lw,r1,r2,r3,w1,w2,w3,w4,w5,w6,hv,bY,lA,idx,aN,sQQ,iQQ]
theorem YM {A:List Nat} {W x t:Nat} (hx:x<18446744073709551616) (hW:W<18446744073709551616) (j:Nat):(UT A W x t).testBit j=((A.getD (tz t) 0).testBit j&&W.testBit j&&!x.testBit j):=by
 unfold UT;rw[we (dv CQ hW) hx,cV]
theorem afj (a b:Nat):a<=a ||| b:=Nat.left_le_or
theorem Nj {A:List Nat} (hA:A.length<=64) (hS:∀i,A.getD i 0<18446744073709551616) {W:Nat} (hW:W<18446744073709551616) (hWA:∀j,W.testBit j=true->j<A.length):∀(n x:Nat),x+n=18446744073709551616->∀t:Nat,x<18446744073709551616->t<18446744073709551616->(∀j,t.testBit j=true->x.testBit j=true)->(∀j,x.testBit j=true->W.testBit j=true) ->
  (∀j k,x.testBit j=true->t.testBit j=false->(A.getD j 0).testBit k=true->W.testBit k=true->x.testBit k=true)->∃R,wj A W x R/\bh aD 0 (.loop K9) (Nh A x W t [])=some (.exit 0,Nh A R W 0 [(15,.bool false)]):=by
 intro n
 induction n using FI with
 |ind n ihn=>
   intro x hn t
   induction t using FI with
   |ind t iht=>
     intro hx ht htx hxW Ju;by_cases h0:t=0
     ·subst h0;refine⟨x,⟨hx,fun _ h=>h,hxW,fun j k h1 h2 h3=>Ju j k h1 (Nat.zero_testBit j) h2 h3,fun C hC _ j hj=>hC j hj⟩,?_⟩;refine cv ?_;unfold Nh K9;simp[Ql,Qk,Qj,Qi,Qh,Qg,Qf,Qe,Qd,Qc,mB]
     ·obtain⟨tb,tlo⟩:=xW h0 ht;have hv:tz t<A.length:=hWA _ (hxW _ (htx _ tb));have rd:=US hA hS hx hW h0 ht hv;have zb:=fun j=>YM (A:=A) (W:=W) (x:=x) (t:=t) hx hW j
      have zl:UT A W x t<18446744073709551616:=by
       unfold UT;exact dv fa (dv CQ hW)
      have db:=fun j=>Ab h0 ht j;have dl:=RW h0;generalize UT A W x t=Z at *;generalize hT:t &&& (t-1)=T at *;have x2:x ||| Z<18446744073709551616:=xC (n:=64) hx zl
      have t2:T ||| Z<18446744073709551616:=xC (n:=64) (by omega) zl
      have a1:∀j,(T ||| Z).testBit j=true->(x ||| Z).testBit j=true:=fun j hj=>by
       rw[gS,dG] at hj ⊢;rcases hj with hj|hj
       ·rw[db,ae] at hj; exact .inl (htx j hj.1)
       ·exact .inr hj
      have a2:∀j,(x ||| Z).testBit j=true->W.testBit j=true:=fun j hj=>by
       rw[gS,dG] at hj;rcases hj with hj|hj
       ·exact hxW j hj
       ·rw[zb,ae,ae] at hj; exact hj.1.2
      have a3:∀j k,(x ||| Z).testBit j=true->(T ||| Z).testBit j=false->(A.getD j 0).testBit k=true->W.testBit k=true->(x ||| Z).testBit k=true:=fun j k h1 h2 h3 h4=>by
       rw[gS,Bool.or_eq_false_iff] at h2;obtain⟨h2,h5⟩:=h2;rw[gS,h5,Bool.or_false] at h1;rw[gS,dG];by_cases e:j=tz t
       ·subst e;cases hk:x.testBit k with
        |true=>exact .inl rfl
        |false=>right; rw[zb,h3,h4,hk]; rfl
       ·left;refine Ju j k h1 ?_ h3 h4;rw[db] at h2;cases htj:t.testBit j with
        |false=>rfl
        |true=>rw[htj] at h2; simp[e] at h2
      have fin:∀R,wj A W (x ||| Z) R->wj A W x R:=fun R r=>by
       refine⟨r.lt,fun j hj=>r.sub j (by rw[gS,hj]; rfl),r.win,r.cl,fun C h1 h2 j hj=>r.least C (fun i hi=>?_) h2 j hj⟩;rw[gS,dG] at hi;rcases hi with hi|hi
       ·exact h1 i hi
       ·rw[zb,ae,ae] at hi;exact h2 (tz t) i (h1 _ (htx _ tb)) hi.1.1 hi.1.2
      by_cases hz:Z=0
      ·subst hz;rw[Nat.or_zero] at rd a1 a2 a3 x2 fin;rw[Nat.or_zero] at rd a1 a3 t2;obtain⟨R,r1,r2⟩:=iht T (by omega) hx t2 a1 hxW a3;exact⟨R,r1,(bI rd).trans r2⟩
      ·have hgt:x<x ||| Z:=by
        rcases Nat.lt_or_eq_of_le (afj x Z) with h|h
        ·exact h
        ·exfalso;apply hz;apply Ar;intro j;rw[Nat.zero_testBit];cases hj:Z.testBit j with
         |false=>rfl
         |true=>
           have Ut:=hj;rw[zb,ae] at Ut;have:(x ||| Z).testBit j=true:=by rw[gS,hj,Bool.or_true]
           rw[<-h] at this;rw[this] at Ut;cases Ut.2
       obtain⟨R,r1,r2⟩:=ihn (18446744073709551616-(x ||| Z)) (by omega) (x ||| Z) (by omega) (T ||| Z) x2 t2 a1 a2 a3;exact⟨R,fin R r1,(bI rd).trans r2⟩
theorem Gp {A:List Nat} (hA:A.length<=64) (hS:∀i,A.getD i 0<18446744073709551616) {W f:Nat} (hW:W<18446744073709551616) (hf:f<18446744073709551616) (hWA:∀j,W.testBit j=true->j<A.length):∃R,wj A W (f &&& W) R/\bS aD nQI [.list 1 (us A),.int .u64 f,.int .u64 W] []=some (.int .u64 R,[]):=by
 have hx:f &&& W<18446744073709551616:=dv fa hf;obtain⟨R,r1,r2⟩:=Nj hA hS hW hWA (18446744073709551616-(f &&& W)) (f &&& W) (by omega) (f &&& W) hx hx (fun _ h=>h) (fun j hj=>by rw[cV,ae] at hj; exact hj.2) (fun j k h1 h2=>by rw[h1] at h2; cases h2);refine⟨R,r1,?_⟩;have w1:=u64_and_nat f W hf hW;rw[fZ sQI (aF rfl)];unfold Nh at r2;generalize (f &&& W:Nat)=x at *;generalize us A=A1 at *;unfold qQI cQI;simp[Ql,Qk,Qj,Qi,Qh,Qg,Qf,Qe,Qd,Qc,r2,w1,aN,cB,bU]
/- connect.Groups. -/
inductive Jk (A:List Nat) (m:Nat):Nat->List Nat->Prop
 |nil:Jk A m 0 []
 |cons (r R:Nat) (l:List Nat) (h0:r≠0) (h1:wj A m (2 ^ tz r) R) (h2:Jk A m (r &&& (18446744073709551615-R)) l):Jk A m r (R::l)
def kY (l:List Nat):List AV:=l.map fun R=>.list 1 (ints (cI R))
theorem TM (l:List Nat) (R:Nat):kY l++[.list 1 (ints (cI R))]=kY (l++[R]):=by simp[kY]
theorem lH (l:List Nat):(kY l).length=l.length:=List.length_map _
def NZ (A:List Nat) (m:Nat) (o:List Nat) (r:Nat) (J:Env):St:=⟨(1,.int .u64 m)::(5,.list 1 (us A))::(6,.own 1 (kY o))::(7,.int .u64 r)::J,[]⟩
theorem Xc {A:List Nat} {m r R:Nat} (o:List Nat) (hm:m<18446744073709551616) (hr:r<18446744073709551616) (h0:r≠0) (hR:R<18446744073709551616) (hc:bS aD nQI [.list 1 (us A),.int .u64 ((2 ^ tz r:Nat):Int),.int .u64 m] []=some (.int .u64 R,[])) (ho:o.length<=64) :
  bh aD 0 K1 (NZ A m o r [])=some (.normal,NZ A m (o++[R]) (r &&& (18446744073709551615-R)) []):=by
 have n0:¬((r:Int)=0):=by omega
 obtain⟨e1,e2⟩:=Lib.lowest_bit 64 r h0 hr;have e1:r &&& (18446744073709551616-r)=2 ^ tz r:=e1
 have u1:IntKind.u64.wrap (0-(r:Int))=((18446744073709551616-r:Nat):Int):=by
  simp only[IntKind.wrap_u64];omega
 have u2:IntKind.u64.wrap (-(r:Int))=((18446744073709551616-r:Nat):Int):=by rw[<-u1]; simp
 have w2:=u64_and_nat r (18446744073709551616-r) hr (by omega);rw[e1] at w2;have w3:=u64_andNot_nat r R hr hR;have ml:=GS R hR;have gl:=lH o;have hL1:o.length+1<=4294967296:=by omega
 have gs:=TM o R;unfold NZ;generalize (r &&& (18446744073709551615-R):Nat)=r2 at *;generalize (2 ^ tz r:Nat)=p at *;generalize (18446744073709551616-r:Nat)=nr at *;rw[<-gs];have tk1:(kY o).take o.length=kY o:=dE (by omega);have tk2:(kY o++[AV.list 1 (ints (cI R))]).take (o.length+1)=kY o++[AV.list 1 (ints (cI R))]:=dE (by simp[gl]);generalize kY o=G at *;generalize ints (cI R)=B1 at *;generalize us A=A1 at *;unfold K1;simp[Ps,Pr,Pq,Po,Pn,Pm,Pk,Pj,Pg,n0,h0,hc,ml,u1,u2,w2,w3,hL1,p7,gl,tk1,tk2,aN,eC,pl,fz,IY,IU,rep,gj,sQI,iQI,sQJ,iQJ]
theorem Z5 {A:List Nat} (hA:A.length<=64) (hS:∀i,A.getD i 0<18446744073709551616) {m:Nat} (hm:m<18446744073709551616) (hmA:∀j,m.testBit j=true->j<A.length):∀(r:Nat),r<18446744073709551616->(∀j,r.testBit j=true->m.testBit j=true)->∀o:List Nat,o.length<=64->(r≠0->o.length<=tz r) ->
  ∃ l,(Jk A m r l/\o.length+l.length<=64)/\bh aD 0 (.loop K1) (NZ A m o r [])=some (.exit 0,NZ A m (o++l) 0 [(13,.bool false)]):=by
 intro r
 induction r using FI with
 |ind r ih=>
   intro hr hrm o ho2 ho;by_cases h0:r=0
   ·subst h0;refine⟨[],⟨.nil,ho2⟩,?_⟩;rw[List.append_nil];refine cv ?_;unfold NZ K1;generalize kY o=G at *;generalize us A=A1 at *;simp[Ps,Pr,Pq,Po,Pn,Pm,Pk,Pj,Pg,mB]
   ·obtain⟨tb,tlo⟩:=xW h0 hr;obtain⟨_,_,ht⟩:=Ct h0 hr
    have hp:2 ^ tz r<18446744073709551616:=by
     have:=Nat.pow_lt_pow_right (a:=2) (by decide) ht;rw[show (18446744073709551616:Nat)=2 ^ 64 from rfl]; exact this
    have fm:2 ^ tz r &&& m=2 ^ tz r:=by
     apply Ar;intro j;rw[cV,tZ];by_cases e:tz r=j
     ·subst e; simp[hrm _ tb]
     ·simp[e]
    obtain⟨R,r1,r2⟩:=Gp hA hS hm hp hmA;rw[fm] at r1;have hRb:R.testBit (tz r)=true:=r1.sub _ (by rw[tZ]; simp);have rd:=Xc o hm hr h0 r1.lt r2 (by have:=ho h0; omega);have nb:=fun j=>we hr r1.lt j;have hle:r &&& (18446744073709551615-R)<=r:=fa
    have bY:r &&& (18446744073709551615-R)<r:=by
     rcases Nat.lt_or_eq_of_le hle with h|h
     ·exact h
     ·have:=nb (tz r);rw[h,tb,hRb] at this;cases this
    obtain⟨l,⟨l1,l3⟩,l2⟩:=ih _ bY (by omega) (fun j hj=>hrm j (by rw[nb,ae] at hj; exact hj.1)) (o++[R]) (by rw[bw,p8]; have:=ho h0; omega) (fun hn=>by
     have h1:=ho h0;obtain⟨tb2,_⟩:=xW hn (by omega);rw[nb,ae] at tb2;obtain⟨q1,q2⟩:=tb2
     have q3:tz r<=tz (r &&& (18446744073709551615-R)):=by
      apply Nat.le_of_not_lt;intro h;rw[tlo _ h] at q1; cases q1
     have q4:tz r≠tz (r &&& (18446744073709551615-R)):=fun e=>by rw[<-e,hRb] at q2; cases q2
     rw[bw,p8];omega)
    refine⟨R::l,⟨.cons r R l h0 r1 l1,by rw[bw,p8] at l3; rw[List.length_cons]; omega⟩,?_⟩;rw[dQ] at l2;exact (bI rd).trans l2
theorem Sg {N:Nat} {Es:List Ed} (hG:Jz (N:Int) Es) (i:Nat):(jL N Es).getD i 0<18446744073709551616:=tN (q8 hG).2.1 i
theorem NY {N:Nat} {Es:List Ed} (hG:Jz (N:Int) Es) (hE:Es.length<1000000) {m:Nat} (hm:m<18446744073709551616) (hmN:∀j,m.testBit j=true->j<N) :
  ∃ l,(Jk (jL N Es) m m l/\l.length<=64)/\bS aD nQq [.agg [.int .i64 N,.list 2 (iQ Es)],.int .u64 m] []=some (.list 1 (kY l),[]):=by
 have hN:N<=64:=by have:=hG.1.2; omega
 have la:(jL N Es).length=N:=(q8 hG).1;obtain⟨l,l1,l2⟩:=Z5 (A:=jL N Es) (by omega) (Sg hG) hm (fun j hj=>by rw[la]; exact hmN j hj) m hm (fun _ h=>h) [] (by simp) (fun _=>Nat.zero_le _);refine⟨l,⟨l1.1,by simpa using l1.2⟩,?_⟩;have rw1:=JT hG (by omega);rw[List.nil_append] at l2;rw[fZ sQq (aF rfl)];have gl:=lH l;have ge:kY []=[]:=rfl;unfold NZ at l2;rw[ge] at l2;simp only[mB] at l2;have tk1:(kY l).take l.length=kY l:=dE (by omega);generalize kY l=G at *;generalize us (jL N Es)=A1 at *;generalize iQ Es=Y at *;unfold qQq cQq;simp[Ps,Pr,Pq,Po,Pn,Pm,Pk,Pj,Pg,rw1,l2,gl,tk1,aN,cB,bU,kK,fo,eC,pl,sQH,iQH]
/- The text that stands for a set of nodes below 100 tells it. -/
def ID:ByteArray->List Int->ByteArray
 |s,[]=>s
 |s,x::r=>ID (s++(mV x++⟨#[32]⟩)) r
def kV (l:List Int):ByteArray:=ID ⟨#[]⟩ l
def encI (x:Int):List UInt8:=Lib.decDigits x.toNat++[32]
theorem G2:∀(l:List Int) (s:ByteArray),(ID s l).data.toList=s.data.toList++l.flatMap encI
 |[],s=>by simp[ID]
 |x::r,s=>by
   rw[ID,G2 r];simp[encI,mV,ByteArray.data_append]
def valD (d:List UInt8):Nat:=d.foldl (fun a b=>a*10+(b.toNat-48)) 0
theorem aai:((fc 100).all fun n=>decide (valD (Lib.decDigits n)=n)&&decide (32∉Lib.decDigits n))=true:=by decide +kernel
theorem L8 {x:Int} (h0:0<=x) (h1:x<100):valD (Lib.decDigits x.toNat)=x.toNat/\32∉Lib.decDigits x.toNat:=by
 have:=rT.1 aai x.toNat (qt.2 (by omega));rw[ae] at this;exact⟨of_decide_eq_true this.1,of_decide_eq_true this.2⟩
theorem Xw:∀{a b r s:List UInt8},32∉a->32∉b->a++32::r=b++32::s->a=b/\r=s
 |[],[],r,s,_,_,h=>by simpa using h
 |[],y::b,r,s,_,hb,h=>by
   simp at h;exact absurd (by rw[<-h.1]; exact fP) hb
 |x::a,[],r,s,ha,_,h=>by
   simp at h;exact absurd (by rw[h.1]; exact fP) ha
 |x::a,y::b,r,s,ha,hb,h=>by
   simp only[List.cons_append,Mz] at h;obtain⟨p,q⟩:=Xw (fun m=>ha (eH _ m)) (fun m=>hb (eH _ m)) h.2;exact⟨by rw[h.1,p],q⟩
theorem L3:∀{l m:List Int},(∀x∈l,0<=x/\x<100)->(∀x∈m,0<=x/\x<100)->l.flatMap encI=m.flatMap encI->l=m
 |[],[],_,_,_=>rfl
 |[],y::m,_,_,h=>by simp[encI] at h
 |x::l,[],_,_,h=>by simp[encI] at h
 |x::l,y::m,hl,hm,h=>by
   obtain⟨a1,a2⟩:=hl x fP;obtain⟨b1,b2⟩:=hm y fP;obtain⟨c1,c2⟩:=L8 a1 a2;obtain⟨d1,d2⟩:=L8 b1 b2;simp only[List.flatMap_cons,encI,dQ,List.singleton_append] at h;obtain⟨p,q⟩:=Xw c2 d2 h
   have e:x=y:=by
    rw[p,d1] at c1;omega
   rw[e,L3 (fun z hz=>hl z (eH _ hz)) (fun z hz=>hm z (eH _ hz)) q]
theorem Wx {l m:List Int} (hl:∀x∈l,0<=x/\x<100) (hm:∀x∈m,0<=x/\x<100) (h:kV l=kV m):l=m:=by
 have e:=congrArg (fun b:ByteArray=>b.data.toList) h;simp only[kV,G2] at e;exact L3 hl hm (by simpa using e)
def iV:List (List Int × Int)->List Int->Int->List (List Int × Int)
 |[],s,k=>[(s,k)]
 |(t,j)::r,s,k=>if t=s then (t,k)::r else (t,j)::iV r s k
def yQ (a:List (List Int × Int)):List AV:=a.map fun p=>.dA [.str (kV p.1),.int .i64 p.2]
def oV:List (List Int × Int)->List Int->Nat->Option (Nat × AV)
 |[],_,_=>none
 |(t,j)::r,s,i=>if t=s then some (i,.int .i64 j) else oV r s (i+1)
def Lo (s:List Int):Prop:=∀x∈s,0<=x/\x<100
theorem wR {s:List Int} (hs:Lo s):∀{a:List (List Int × Int)},(∀p∈a,Lo p.1)->∀i:Nat,gM .yE (.str (kV s)) (yQ a) i=some (oV a s i)
 |[],_,i=>rfl
 |(t,j)::r,ha,i=>by
   have ht:Lo t:=ha (t,j) fP;have ih:=wR hs (fun p hp=>ha p (eH _ hp)) (i+1);show gM .yE (.str (kV s)) (.dA [.str (kV t),.int .i64 j]::yQ r) i=_;unfold gM oV;by_cases e:t=s
   ·subst e
    have q:wV .yE (.str (kV t)) (.str (kV t))=some true:=by
     simp only[wV,af]; exact (MapKept.bytes_beq _ _).2 rfl
    rw[q,if_pos rfl]
   ·have q:wV .yE (.str (kV s)) (.str (kV t))=some false:=by
     simp only[wV,af];cases hb:(kV s == kV t) with
     |false=>rfl
     |true=>exact absurd (Wx ht hs ((MapKept.bytes_beq _ _).1 hb).symm) e
    rw[q,if_neg e];exact ih
theorem RR:∀{a:List (List Int × Int)} {s:List Int} {i:Nat} {p:Nat × AV},oV a s i=some p->i<=p.1
 |[],_,_,_,h=>by cases h
 |(t,j)::r,s,i,p,h=>by
   unfold oV at h;split at h
   ·simp only[af] at h; subst h; exact aG _
   ·have:=RR h; omega
theorem KH {s:List Int} {k:Int}:∀{a:List (List Int × Int)} (i:Nat),(match oV a s i with
  |some (n,_)=>(yQ a).set (n-i) (.dA [.str (kV s),.int .i64 k])
  |none=>yQ a++[.dA [.str (kV s),.int .i64 k]])=yQ (iV a s k)
 |[],i=>rfl
 |(t,j)::r,i=>by
   have ih:=KH (s:=s) (k:=k) (a:=r) (i+1);unfold oV iV;by_cases e:t=s
   ·subst e;rw[if_pos rfl,if_pos rfl];simp[yQ]
   ·rw[if_neg e,if_neg e];have e1:yQ ((t,j)::r)=.dA [.str (kV t),.int .i64 j]::yQ r:=rfl;have e2:yQ ((t,j)::iV r s k)=.dA [.str (kV t),.int .i64 j]::yQ (iV r s k):=rfl;rw[e1,e2,<-ih];cases h:oV r s (i+1) with
    |none=>rfl
    |some p=>
      obtain⟨n,v⟩:=p;have:=RR h;simp only at this;simp only;rw[show n-i=(n-(i+1))+1 by omega,List.set_cons_succ]
theorem Ri (s:List Int) (k:Int) (a:List (List Int × Int)):yx (.str (kV s)) (.int .i64 k) (yQ a) (oV a s 0)=yQ (iV a s k):=by
 rw[<-KH (s:=s) (k:=k) (a:=a) 0];unfold yx;cases h:oV a s 0 with
 |none=>rfl
 |some p=>obtain⟨n,v⟩:=p; simp
theorem wC:∀(a:List (List Int × Int)) (s:List Int) (k:Int),(iV a s k).map dW=if (oV a s 0).isSome then a.map dW else a.map dW++[s]
 |[],s,k=>rfl
 |(t,j)::r,s,k=>by
   have ih:=wC r s k
   have sh:∀(a:List (List Int × Int)) (i i':Nat),(oV a s i).isSome=(oV a s i').isSome:=by
    intro a
    induction a with
    |nil=>intro i i'; rfl
    | cons p r ih => intro i i'; obtain ⟨t, j⟩ := p; unfold oV; split; · rfl
                     ·exact ih _ _
   unfold iV oV;by_cases e:t=s
   ·simp[e]
   ·rw[if_neg e,if_neg e,List.map_cons,ih,sh r 0 1];by_cases q:(oV r s (0+1)).isSome=true
    ·rw[if_pos q,if_pos q]; rfl
    ·rw[if_neg q,if_neg q]; rfl
/- hierarchy.key. -/
theorem WB:((fc 100).all fun n=>decide ((Lib.decDigits n).length<=2))=true:=by decide +kernel
theorem Tz {x:Int} (h0:0<=x) (h1:x<100):(mV x).size<=2:=by
 have:=rT.1 WB x.toNat (qt.2 (by omega));have:=of_decide_eq_true this;show (Lib.decDigits x.toNat).toArray.size<=2;simpa using this
theorem Wz {x:Int} (b0:0<=x) (b1:x<100):bS aD nQR [.int .i64 x] []=some (.str (mV x),[]):=by
 have git:bS aD nQ1 [.int .i64 x,.int .i64 10] []=some (.str (mV x),[]):=HB (by unfold FP; rw[oQ1]; show Hb _ _=_; simp only[Hb]; rw[if_pos ⟨b0,b1⟩]);have w:IntKind.i64.wrap x=x:=by simp only[IntKind.wrap_i64]; omega
 generalize mV x=I at *
 have i2:bS aD nQY [.int .i64 x] []=some (.str I,[]):=by
  rw[fZ sQY (aF rfl)];unfold qQY cQY;simp[abo,abn,git,w,b0,b1,aN,cB,bU,sQ1,iQ1]
 rw[fZ sQR (aF rfl)];unfold qQR cQR;simp[abB,abA,i2,w,b0,b1,aN,cB,bU,sQY,iQY]
theorem Sd (a b:ByteArray):(a++b).size=a.size+b.size:=by simp
theorem Lb (l:List Int) (hl:l.length<=1000) (hb:∀x∈l,0<=x/\x<100):∀(n i:Nat) (s:ByteArray),i+n=l.length->s.size<=3*i->bh aD 0 (.loop Rz) ⟨[(3,.str s),(6,.list 1 (ints l)),(7,.int .i64 l.length),(8,.int .i64 i)],[]⟩=some (.exit 0,⟨[(3,.str (ID s (l.drop i))),(6,.list 1 (ints l)),(7,.int .i64 l.length),(8,.int .i64 l.length),(9,.bool false)],[]⟩)
 |0,i,s,hi,hs=>by
   obtain rfl:i=l.length:=by omega
   rw[List.drop_length];have e:ID s []=s:=rfl;rw[e];refine cv ?_;generalize ints l=L at *;unfold Rz;simp[QD,QC,QB,QA,Qz,Qy,Qx,Qw]
 |n+1,i,s,hi,hs=>by
   have bY:i<l.length:=by omega
   obtain⟨b0,b1⟩:=hb l[i] (List.getElem_mem bY);have sz:=Tz b0 b1;have s1:(mV l[i]++(⟨#[32]⟩:ByteArray)).size=(mV l[i]).size+1:=by rw[Sd]; rfl
   have ih:=Lb l hl hb n (i+1) (s++(mV l[i]++⟨#[32]⟩)) (by omega) (by rw[Sd,s1]; omega);rw[List.drop_eq_getElem_cons bY,ID];refine (bI ?_).trans ih;have k1:(i:Int)<l.length:=by omega
   have hw:=fT (i:=i) (by omega);have g3:(ints l)[i]?=some (.int .i64 l[i]):=by rw[aB (by rw[ah]; exact bY),bG]
   have g4:∀h,(ints l)[i]'h=.int .i64 l[i]:=fun h=>bG _ _ _;have ll:=ah l;have q1:(mV l[i]).size+1<=1000000000:=by omega
   have q2:s.size+(mV l[i]++(⟨#[32]⟩:ByteArray)).size<=1000000000:=by rw[s1]; omega
   have q3:s.size+((mV l[i]).size+1)<=1000000000:=by omega
   have q0:(mV l[i]).size+(⟨#[32]⟩:ByteArray).size<=1000000000:=q1;have q4:s.size+((mV l[i]).size+(⟨#[32]⟩:ByteArray).size)<=1000000000:=q3;have git:=Wz b0 b1;clear ih s1;generalize mV l[i]=I at *;generalize l[i]=x at *;generalize ints l=L at *;unfold Rz;simp[QD,QC,QB,QA,Qz,Qy,Qx,Qw,k1,hw,g3,g4,ll,bY,q0,q1,q2,q3,q4,b0,b1,git,idx,aN,eC,pl,oQR,sQR,iQR]
theorem IC (l:List Int) (hl:l.length<=1000) (hb:∀x∈l,0<=x/\x<100):bS aD nQA [.list 1 (ints l)] []=some (.str (kV l),[]):=by
 have lp:=Lb l hl hb l.length 0 ⟨#[]⟩ (by omega) (aG _);rw[List.drop_zero] at lp;have e:ID ⟨#[]⟩ l=kV l:=rfl;rw[e] at lp;rw[fZ sQA (aF rfl)];have ll:=ah l;simp only[mB] at lp;generalize kV l=K at *;generalize ints l=L at *;unfold qQA cQA;simp[QD,QC,QB,QA,Qz,Qy,Qx,Qw,lp,ll,aN,cB,bU]
end Go.BmP
