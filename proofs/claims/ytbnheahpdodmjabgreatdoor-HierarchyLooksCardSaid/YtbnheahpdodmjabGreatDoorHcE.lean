/- masks.Reach. -/
import Derived.Test.YtbnheahpdodmjabGreatDoorCoT
import Derived.Test.YtbnheahpdodmjabGreatDoorMxP
set_option linter.unusedSimpArgs false
set_option linter.unusedVariables false
set_option maxRecDepth 100000
set_option maxHeartbeats 4000000
open Bool renaming and_eq_true → ae, or_eq_true → eE
open List renaming all_eq_true → pY, append_assoc → dS, getElem?_eq_getElem → aj, length_append → bO, length_singleton → sT, mem_cons_of_mem → cK, mem_cons_self → cI, mem_range → iP, range → eP, take_of_length_le → aT
open List.cons renaming injEq → Sr
open Nat renaming and_le_left → fU, and_le_right → BH, eq_of_testBit_eq → jY, le_of_ble_eq_true → au, le_refl → aJ, lt_of_le_of_lt → dI, or_lt_two_pow → BU, strongRecOn → ND, testBit_and → bW, testBit_or → jd, testBit_two_pow → xR, zero_testBit → QG
open Option.some renaming inj → bj, injEq → af
open Prod renaming fst → eU
namespace Go.BmP
open Go.Am Go.Bm
theorem vw {m b:Nat} (hm:m<18446744073709551616) (hb:b<18446744073709551616) (j:Nat):(m &&& (18446744073709551615-b)).testBit j=(m.testBit j&&!b.testBit j):=by
 rw[bW];have e:18446744073709551615-b=2 ^ 64-(b+1):=by omega
 rw[e,Nat.testBit_two_pow_sub_succ (by omega)];by_cases hj:j<64
 ·simp[hj]
 ·have:m.testBit j=false:=Nat.testBit_lt_two_pow (Nat.lt_of_lt_of_le hm (by
   rw[show (18446744073709551616:Nat)=2 ^ 64 from rfl];exact Nat.pow_le_pow_right (by decide) (by omega)))
  simp[this]
theorem akY {A:List Nat} {v:Nat} (hv:v<A.length):idx (.int .i64 (v:Int)) A.length=some v/\(us A)[v]?=some (.int .u64 (A.getD v 0:Nat))/\∀ h:v<(us A).length,(us A)[v]=.int .u64 (A.getD v 0:Nat):=by
 have e:(us A)[v]?=some (.int .u64 (A.getD v 0:Nat)):=by
  rw[QM,List.getD_eq_getElem?_getD,aj hv]; rfl
 refine⟨by have:=Dx (k:=.i64) (i:=(v:Int)) (n:=A.length) (by omega) (by omega); simpa using this,e,fun h=>?_⟩;rw[aj h] at e;exact bj e
structure pT (A:List Nat) (W x R:Nat):Prop where
 lt:R<18446744073709551616
 sub:∀j,x.testBit j=true->R.testBit j=true
 win:∀j,R.testBit j=true->W.testBit j=true
 cl:∀j k,R.testBit j=true->(A.getD j 0).testBit k=true->W.testBit k=true->R.testBit k=true
 least:∀C:Nat->Prop,(∀j,x.testBit j=true->C j)->(∀j k,C j->(A.getD j 0).testBit k=true->W.testBit k=true->C k)->∀j,R.testBit j=true->C j
def W4 (A:List Nat) (x W t:Nat) (J:Env):St:=⟨(0,.list 1 (us A))::(1,.int .u64 x)::(2,.int .u64 W)::(7,.int .u64 t)::J,[]⟩
def rhN (A:List Nat) (W x t:Nat):Nat:=(A.getD (tz t) 0 &&& W) &&& (18446744073709551615-x)
theorem ad6 {A:List Nat} (hA:A.length<=64) (hS:∀i,A.getD i 0<18446744073709551616) {x W t:Nat} (hx:x<18446744073709551616) (hW:W<18446744073709551616) (h0:t≠0) (ht:t<18446744073709551616) (hv:tz t<A.length):aW aq 0 UU (W4 A x W t [])=some (.normal,W4 A (x ||| rhN A W x t) W ((t &&& (t-1)) ||| rhN A W x t) []):=by
 have n0:¬((t:Int)=0):=by omega
 have lw:=LJ t h0 ht;obtain⟨r1,r2,r3⟩:=akY hv;have w1:=decU h0 ht;have w2:=u64_and_nat t (t-1) ht (by omega);have w3:=u64_and_nat (A.getD (tz t) 0) W (hS _) hW;have l3:A.getD (tz t) 0 &&& W<18446744073709551616:=dI BH hW;have w4:=u64_andNot_nat (A.getD (tz t) 0 &&& W) x l3 hx;have l4:rhN A W x t<18446744073709551616:=dI fU l3;have w5:=u64_or_nat x (rhN A W x t) hx l4;have l2:t &&& (t-1)<18446744073709551616:=dI fU ht;have w6:=u64_or_nat (t &&& (t-1)) (rhN A W x t) l2 l4;have bE:tz t<(us A).length:=by rw[gL]; exact hv
 have lA:=gL A;unfold W4;unfold rhN at *;generalize ((A.getD (tz t) 0 &&& W) &&& (18446744073709551615-x):Nat)=Z at *;generalize (A.getD (tz t) 0 &&& W:Nat)=Y at *;generalize (x ||| Z:Nat)=X2 at *;generalize ((t &&& (t-1)) ||| Z:Nat)=T2 at *;generalize (t &&& (t-1):Nat)=T1 at *;generalize A.getD (tz t) 0=r at *;generalize tz t=v at *;unfold UU;simp[aaB,aaA,aaz,aay,aax,aaw,aav,aau,aat,aas,n0,h0,lw,r1,r2,r3,w1,w2,w3,w4,w5,w6,hv,bE,lA,idx,aH,sQb1,iQb1]
theorem ahI {A:List Nat} {W x t:Nat} (hx:x<18446744073709551616) (hW:W<18446744073709551616) (j:Nat):(rhN A W x t).testBit j=((A.getD (tz t) 0).testBit j&&W.testBit j&&!x.testBit j):=by
 unfold rhN;rw[vw (dI BH hW) hx,bW]
theorem anB (a b:Nat):a<=a ||| b:=Nat.left_le_or
theorem W7 {A:List Nat} (hA:A.length<=64) (hS:∀i,A.getD i 0<18446744073709551616) {W:Nat} (hW:W<18446744073709551616) (hWA:∀j,W.testBit j=true->j<A.length):∀(n x:Nat),x+n=18446744073709551616->∀t:Nat,x<18446744073709551616->t<18446744073709551616->(∀j,t.testBit j=true->x.testBit j=true)->(∀j,x.testBit j=true->W.testBit j=true) ->
  (∀j k,x.testBit j=true->t.testBit j=false->(A.getD j 0).testBit k=true->W.testBit k=true->x.testBit k=true)->∃R,pT A W x R/\aW aq 0 (.loop UU) (W4 A x W t [])=some (.exit 0,W4 A R W 0 [(15,.bool false)]):=by
 intro n
 induction n using ND with
 |ind n ihn=>
   intro x hn t
   induction t using ND with
   |ind t iht=>
     intro hx ht htx hxW I0;by_cases h0:t=0
     ·subst h0;refine⟨x,⟨hx,fun _ h=>h,hxW,fun j k h1 h2 h3=>I0 j k h1 (QG j) h2 h3,fun C hC _ j hj=>hC j hj⟩,?_⟩;refine bn ?_;unfold W4 UU;simp[aaB,aaA,aaz,aay,aax,aaw,aav,aau,aat,aas,fH]
     ·obtain⟨tb,tlo⟩:=zm h0 ht;have hv:tz t<A.length:=hWA _ (hxW _ (htx _ tb));have rd:=ad6 hA hS hx hW h0 ht hv;have zb:=fun j=>ahI (A:=A) (W:=W) (x:=x) (t:=t) hx hW j
      have zl:rhN A W x t<18446744073709551616:=by
       unfold rhN;exact dI fU (dI BH hW)
      have db:=fun j=>Fm h0 ht j;have dl:=acd h0;generalize rhN A W x t=Z at *;generalize hT:t &&& (t-1)=T at *;have x2:x ||| Z<18446744073709551616:=BU (n:=64) hx zl
      have t2:T ||| Z<18446744073709551616:=BU (n:=64) (by omega) zl
      have a1:∀j,(T ||| Z).testBit j=true->(x ||| Z).testBit j=true:=fun j hj=>by
       rw[jd,eE] at hj ⊢;rcases hj with hj|hj
       ·rw[db,ae] at hj; exact .inl (htx j hj.1)
       ·exact .inr hj
      have a2:∀j,(x ||| Z).testBit j=true->W.testBit j=true:=fun j hj=>by
       rw[jd,eE] at hj;rcases hj with hj|hj
       ·exact hxW j hj
       ·rw[zb,ae,ae] at hj; exact hj.1.2
      have a3:∀j k,(x ||| Z).testBit j=true->(T ||| Z).testBit j=false->(A.getD j 0).testBit k=true->W.testBit k=true->(x ||| Z).testBit k=true:=fun j k h1 h2 h3 h4=>by
       rw[jd,Bool.or_eq_false_iff] at h2;obtain⟨h2,h5⟩:=h2;rw[jd,h5,Bool.or_false] at h1;rw[jd,eE];by_cases e:j=tz t
       ·subst e;cases hk:x.testBit k with
        |true=>exact .inl rfl
        |false=>right; rw[zb,h3,h4,hk]; rfl
       ·left;refine I0 j k h1 ?_ h3 h4;rw[db] at h2;cases htj:t.testBit j with
        |false=>rfl
        |true=>rw[htj] at h2; simp[e] at h2
      have fin:∀R,pT A W (x ||| Z) R->pT A W x R:=fun R r=>by
       refine⟨r.lt,fun j hj=>r.sub j (by rw[jd,hj]; rfl),r.win,r.cl,fun C h1 h2 j hj=>r.least C (fun i hi=>?_) h2 j hj⟩;rw[jd,eE] at hi;rcases hi with hi|hi
       ·exact h1 i hi
       ·rw[zb,ae,ae] at hi;exact h2 (tz t) i (h1 _ (htx _ tb)) hi.1.1 hi.1.2
      by_cases hz:Z=0
      ·subst hz;rw[Nat.or_zero] at rd a1 a2 a3 x2 fin;rw[Nat.or_zero] at rd a1 a3 t2;obtain⟨R,r1,r2⟩:=iht T (by omega) hx t2 a1 hxW a3;exact⟨R,r1,(aS rd).trans r2⟩
      ·have hgt:x<x ||| Z:=by
        rcases Nat.lt_or_eq_of_le (anB x Z) with h|h
        ·exact h
        ·exfalso;apply hz;apply jY;intro j;rw[QG];cases hj:Z.testBit j with
         |false=>rfl
         |true=>
           have hj':=hj;rw[zb,ae] at hj';have:(x ||| Z).testBit j=true:=by rw[jd,hj,Bool.or_true]
           rw[<-h] at this;rw[this] at hj';cases hj'.2
       obtain⟨R,r1,r2⟩:=ihn (18446744073709551616-(x ||| Z)) (by omega) (x ||| Z) (by omega) (T ||| Z) x2 t2 a1 a2 a3;exact⟨R,fin R r1,(aS rd).trans r2⟩
theorem OE {A:List Nat} (hA:A.length<=64) (hS:∀i,A.getD i 0<18446744073709551616) {W f:Nat} (hW:W<18446744073709551616) (hf:f<18446744073709551616) (hWA:∀j,W.testBit j=true->j<A.length):∃R,pT A W (f &&& W) R/\bJ aq nQ9 [.list 1 (us A),.int .u64 f,.int .u64 W] []=some (.int .u64 R,[]):=by
 have hx:f &&& W<18446744073709551616:=dI fU hf;obtain⟨R,r1,r2⟩:=W7 hA hS hW hWA (18446744073709551616-(f &&& W)) (f &&& W) (by omega) (f &&& W) hx hx (fun _ h=>h) (fun j hj=>by rw[bW,ae] at hj; exact hj.2) (fun j k h1 h2=>by rw[h1] at h2; cases h2);refine⟨R,r1,?_⟩;have w1:=u64_and_nat f W hf hW;rw[dZ sQ9 (au rfl)];unfold W4 at r2;generalize (f &&& W:Nat)=x at *;generalize us A=A1 at *;unfold qQ9 cQ9;simp[aaB,aaA,aaz,aay,aax,aaw,aav,aau,aat,aas,r2,w1,aH,bL,bC]
/- connect.Groups. -/
inductive FE (A:List Nat) (m:Nat):Nat->List Nat->Prop
 |nil:FE A m 0 []
 |cons (r R:Nat) (l:List Nat) (h0:r≠0) (h1:pT A m (2 ^ tz r) R) (h2:FE A m (r &&& (18446744073709551615-R)) l):FE A m r (R::l)
def gJ (l:List Nat):List AV:=l.map fun R=>.list 1 (ints (bZ R))
theorem PX (l:List Nat) (R:Nat):gJ l++[.list 1 (ints (bZ R))]=gJ (l++[R]):=by simp[gJ]
theorem gI (l:List Nat):(gJ l).length=l.length:=List.length_map _
def Ye (A:List Nat) (m:Nat) (o:List Nat) (r:Nat) (J:Env):St:=⟨(1,.int .u64 m)::(5,.list 1 (us A))::(6,.own 1 (gJ o))::(7,.int .u64 r)::J,[]⟩
theorem agz {A:List Nat} {m r R:Nat} (o:List Nat) (hm:m<18446744073709551616) (hr:r<18446744073709551616) (h0:r≠0) (hR:R<18446744073709551616) (hc:bJ aq nQ9 [.list 1 (us A),.int .u64 ((2 ^ tz r:Nat):Int),.int .u64 m] []=some (.int .u64 R,[])) (ho:o.length<=64) :
  aW aq 0 UP (Ye A m o r [])=some (.normal,Ye A m (o++[R]) (r &&& (18446744073709551615-R)) []):=by
 have n0:¬((r:Int)=0):=by omega
 obtain⟨e1,e2⟩:=Lib.lowest_bit 64 r h0 hr;have e1:r &&& (18446744073709551616-r)=2 ^ tz r:=e1
 have u1:IntKind.u64.wrap (0-(r:Int))=((18446744073709551616-r:Nat):Int):=by
  simp only[IntKind.wrap_u64];omega
 have u2:IntKind.u64.wrap (-(r:Int))=((18446744073709551616-r:Nat):Int):=by rw[<-u1]; simp
 have w2:=u64_and_nat r (18446744073709551616-r) hr (by omega);rw[e1] at w2;have w3:=u64_andNot_nat r R hr hR;have ml:=Py R hR;have gl:=gI o;have hL1:o.length+1<=4294967296:=by omega
 have gs:=PX o R;unfold Ye;generalize (r &&& (18446744073709551615-R):Nat)=r2 at *;generalize (2 ^ tz r:Nat)=p at *;generalize (18446744073709551616-r:Nat)=nr at *;rw[<-gs];have tk1:(gJ o).take o.length=gJ o:=aT (by omega);have tk2:(gJ o++[AV.list 1 (ints (bZ R))]).take (o.length+1)=gJ o++[AV.list 1 (ints (bZ R))]:=aT (by simp[gl]);generalize gJ o=G at *;generalize ints (bZ R)=B1 at *;generalize us A=A1 at *;unfold UP;simp[Z9,Z8,Z7,Z6,Z5,Z4,Z3,ZZ,ZY,n0,h0,hc,ml,u1,u2,w2,w3,hL1,ks,gl,tk1,tk2,aH,dc,pl,fz,FG,Iw,rep,fa,sQ9,iQ9,sQa0,iQa0]
theorem aiU {A:List Nat} (hA:A.length<=64) (hS:∀i,A.getD i 0<18446744073709551616) {m:Nat} (hm:m<18446744073709551616) (hmA:∀j,m.testBit j=true->j<A.length):∀(r:Nat),r<18446744073709551616->(∀j,r.testBit j=true->m.testBit j=true)->∀o:List Nat,o.length<=64->(r≠0->o.length<=tz r) ->
  ∃ l,(FE A m r l/\o.length+l.length<=64)/\aW aq 0 (.loop UP) (Ye A m o r [])=some (.exit 0,Ye A m (o++l) 0 [(13,.bool false)]):=by
 intro r
 induction r using ND with
 |ind r ih=>
   intro hr hrm o ho2 ho;by_cases h0:r=0
   ·subst h0;refine⟨[],⟨.nil,ho2⟩,?_⟩;rw[List.append_nil];refine bn ?_;unfold Ye UP;generalize gJ o=G at *;generalize us A=A1 at *;simp[Z9,Z8,Z7,Z6,Z5,Z4,Z3,ZZ,ZY,fH]
   ·obtain⟨tb,tlo⟩:=zm h0 hr;obtain⟨_,_,ht⟩:=IE h0 hr
    have hp:2 ^ tz r<18446744073709551616:=by
     have:=Nat.pow_lt_pow_right (a:=2) (by decide) ht;rw[show (18446744073709551616:Nat)=2 ^ 64 from rfl]; exact this
    have fm:2 ^ tz r &&& m=2 ^ tz r:=by
     apply jY;intro j;rw[bW,xR];by_cases e:tz r=j
     ·subst e; simp[hrm _ tb]
     ·simp[e]
    obtain⟨R,r1,r2⟩:=OE hA hS hm hp hmA;rw[fm] at r1;have hRb:R.testBit (tz r)=true:=r1.sub _ (by rw[xR]; simp);have rd:=agz o hm hr h0 r1.lt r2 (by have:=ho h0; omega);have nb:=fun j=>vw hr r1.lt j;have hle:r &&& (18446744073709551615-R)<=r:=fU
    have bE:r &&& (18446744073709551615-R)<r:=by
     rcases Nat.lt_or_eq_of_le hle with h|h
     ·exact h
     ·have:=nb (tz r);rw[h,tb,hRb] at this;cases this
    obtain⟨l,⟨l1,l3⟩,l2⟩:=ih _ bE (by omega) (fun j hj=>hrm j (by rw[nb,ae] at hj; exact hj.1)) (o++[R]) (by rw[bO,sT]; have:=ho h0; omega) (fun hn=>by
     have h1:=ho h0;obtain⟨tb2,_⟩:=zm hn (by omega);rw[nb,ae] at tb2;obtain⟨q1,q2⟩:=tb2
     have q3:tz r<=tz (r &&& (18446744073709551615-R)):=by
      apply Nat.le_of_not_lt;intro h;rw[tlo _ h] at q1; cases q1
     have q4:tz r≠tz (r &&& (18446744073709551615-R)):=fun e=>by rw[<-e,hRb] at q2; cases q2
     rw[bO,sT];omega)
    refine⟨R::l,⟨.cons r R l h0 r1 l1,by rw[bO,sT] at l3; rw[List.length_cons]; omega⟩,?_⟩;rw[dS] at l2;exact (aS rd).trans l2
theorem acG {N:Nat} {Es:List Ed} (hG:uQ (N:Int) Es) (i:Nat):(eK N Es).getD i 0<18446744073709551616:=xF (lV hG).2.1 i
theorem Yc {N:Nat} {Es:List Ed} (hG:uQ (N:Int) Es) (hE:Es.length<1000000) {m:Nat} (hm:m<18446744073709551616) (hmN:∀j,m.testBit j=true->j<N) :
  ∃ l,(FE (eK N Es) m m l/\l.length<=64)/\bJ aq nQN [.agg [.int .i64 N,.list 2 (fe Es)],.int .u64 m] []=some (.list 1 (gJ l),[]):=by
 have hN:N<=64:=by have:=hG.1.2; omega
 have la:(eK N Es).length=N:=(lV hG).1;obtain⟨l,l1,l2⟩:=aiU (A:=eK N Es) (by omega) (acG hG) hm (fun j hj=>by rw[la]; exact hmN j hj) m hm (fun _ h=>h) [] (by simp) (fun _=>Nat.zero_le _);refine⟨l,⟨l1.1,by simpa using l1.2⟩,?_⟩;have rw1:=Tb hG (by omega);rw[List.nil_append] at l2;rw[dZ sQN (au rfl)];have gl:=gI l;have ge:gJ []=[]:=rfl;unfold Ye at l2;rw[ge] at l2;simp only[fH] at l2;have tk1:(gJ l).take l.length=gJ l:=aT (by omega);generalize gJ l=G at *;generalize us (eK N Es)=A1 at *;generalize fe Es=Y at *;unfold qQN cQN;simp[Z9,Z8,Z7,Z6,Z5,Z4,Z3,ZZ,ZY,rw1,l2,gl,tk1,aH,bL,bC,fW,dm,dc,pl,sQ8,iQ8]
/- The text that stands for a set of nodes below 100 tells it. -/
def RD:ByteArray->List Int->ByteArray
 |s,[]=>s
 |s,x::r=>RD (s++(qc x++⟨#[32]⟩)) r
def oB (l:List Int):ByteArray:=RD ⟨#[]⟩ l
def encI (x:Int):List UInt8:=Lib.decDigits x.toNat++[32]
theorem PR:∀(l:List Int) (s:ByteArray),(RD s l).data.toList=s.data.toList++l.flatMap encI
 |[],s=>by simp[RD]
 |x::r,s=>by
   rw[RD,PR r];simp[encI,qc,ByteArray.data_append]
def valD (d:List UInt8):Nat:=d.foldl (fun a b=>a*10+(b.toNat-48)) 0
theorem ai8:((eP 100).all fun n=>decide (valD (Lib.decDigits n)=n)&&decide (32∉Lib.decDigits n))=true:=by decide +kernel
theorem VR {x:Int} (h0:0<=x) (h1:x<100):valD (Lib.decDigits x.toNat)=x.toNat/\32∉Lib.decDigits x.toNat:=by
 have:=pY.1 ai8 x.toNat (iP.2 (by omega));rw[ae] at this;exact⟨of_decide_eq_true this.1,of_decide_eq_true this.2⟩
theorem agQ:∀{a b r s:List UInt8},32∉a->32∉b->a++32::r=b++32::s->a=b/\r=s
 |[],[],r,s,_,_,h=>by simpa using h
 |[],y::b,r,s,_,hb,h=>by
   simp at h;exact absurd (by rw[<-h.1]; exact cI) hb
 |x::a,[],r,s,ha,_,h=>by
   simp at h;exact absurd (by rw[h.1]; exact cI) ha
 |x::a,y::b,r,s,ha,hb,h=>by
   simp only[List.cons_append,Sr] at h;obtain⟨p,q⟩:=agQ (fun m=>ha (cK _ m)) (fun m=>hb (cK _ m)) h.2;exact⟨by rw[h.1,p],q⟩
theorem VM:∀{l m:List Int},(∀x∈l,0<=x/\x<100)->(∀x∈m,0<=x/\x<100)->l.flatMap encI=m.flatMap encI->l=m
 |[],[],_,_,_=>rfl
 |[],y::m,_,_,h=>by simp[encI] at h
 |x::l,[],_,_,h=>by simp[encI] at h
 |x::l,y::m,hl,hm,h=>by
   obtain⟨a1,a2⟩:=hl x cI;obtain⟨b1,b2⟩:=hm y cI;obtain⟨c1,c2⟩:=VR a1 a2;obtain⟨d1,d2⟩:=VR b1 b2;simp only[List.flatMap_cons,encI,dS,List.singleton_append] at h;obtain⟨p,q⟩:=agQ c2 d2 h
   have e:x=y:=by
    rw[p,d1] at c1;omega
   rw[e,VM (fun z hz=>hl z (cK _ hz)) (fun z hz=>hm z (cK _ hz)) q]
theorem af8 {l m:List Int} (hl:∀x∈l,0<=x/\x<100) (hm:∀x∈m,0<=x/\x<100) (h:oB l=oB m):l=m:=by
 have e:=congrArg (fun b:ByteArray=>b.data.toList) h;simp only[oB,PR] at e;exact VM hl hm (by simpa using e)
def iQ:List (List Int × Int)->List Int->Int->List (List Int × Int)
 |[],s,k=>[(s,k)]
 |(t,j)::r,s,k=>if t=s then (t,k)::r else (t,j)::iQ r s k
def DD (a:List (List Int × Int)):List AV:=a.map fun p=>.dR [.str (oB p.1),.int .i64 p.2]
def rC:List (List Int × Int)->List Int->Nat->Option (Nat × AV)
 |[],_,_=>none
 |(t,j)::r,s,i=>if t=s then some (i,.int .i64 j) else rC r s (i+1)
def Lo (s:List Int):Prop:=∀x∈s,0<=x/\x<100
theorem Bf {s:List Int} (hs:Lo s):∀{a:List (List Int × Int)},(∀p∈a,Lo p.1)->∀i:Nat,iY .Du (.str (oB s)) (DD a) i=some (rC a s i)
 |[],_,i=>rfl
 |(t,j)::r,ha,i=>by
   have ht:Lo t:=ha (t,j) cI;have ih:=Bf hs (fun p hp=>ha p (cK _ hp)) (i+1);show iY .Du (.str (oB s)) (.dR [.str (oB t),.int .i64 j]::DD r) i=_;unfold iY rC;by_cases e:t=s
   ·subst e
    have q:Bi .Du (.str (oB t)) (.str (oB t))=some true:=by
     simp only[Bi,af]; exact (MapKept.bytes_beq _ _).2 rfl
    rw[q,if_pos rfl]
   ·have q:Bi .Du (.str (oB s)) (.str (oB t))=some false:=by
     simp only[Bi,af];cases hb:(oB s == oB t) with
     |false=>rfl
     |true=>exact absurd (af8 ht hs ((MapKept.bytes_beq _ _).1 hb).symm) e
    rw[q,if_neg e];exact ih
theorem ab7:∀{a:List (List Int × Int)} {s:List Int} {i:Nat} {p:Nat × AV},rC a s i=some p->i<=p.1
 |[],_,_,_,h=>by cases h
 |(t,j)::r,s,i,p,h=>by
   unfold rC at h;split at h
   ·simp only[af] at h; subst h; exact aJ _
   ·have:=ab7 h; omega
theorem Uj {s:List Int} {k:Int}:∀{a:List (List Int × Int)} (i:Nat),(match rC a s i with
  |some (n,_)=>(DD a).set (n-i) (.dR [.str (oB s),.int .i64 k])
  |none=>DD a++[.dR [.str (oB s),.int .i64 k]])=DD (iQ a s k)
 |[],i=>rfl
 |(t,j)::r,i=>by
   have ih:=Uj (s:=s) (k:=k) (a:=r) (i+1);unfold rC iQ;by_cases e:t=s
   ·subst e;rw[if_pos rfl,if_pos rfl];simp[DD]
   ·rw[if_neg e,if_neg e];have e1:DD ((t,j)::r)=.dR [.str (oB t),.int .i64 j]::DD r:=rfl;have e2:DD ((t,j)::iQ r s k)=.dR [.str (oB t),.int .i64 j]::DD (iQ r s k):=rfl;rw[e1,e2,<-ih];cases h:rC r s (i+1) with
    |none=>rfl
    |some p=>
      obtain⟨n,v⟩:=p;have:=ab7 h;simp only at this;simp only;rw[show n-i=(n-(i+1))+1 by omega,List.set_cons_succ]
theorem abw (s:List Int) (k:Int) (a:List (List Int × Int)):Dh (.str (oB s)) (.int .i64 k) (DD a) (rC a s 0)=DD (iQ a s k):=by
 rw[<-Uj (s:=s) (k:=k) (a:=a) 0];unfold Dh;cases h:rC a s 0 with
 |none=>rfl
 |some p=>obtain⟨n,v⟩:=p; simp
theorem AZ:∀(a:List (List Int × Int)) (s:List Int) (k:Int),(iQ a s k).map eU=if (rC a s 0).isSome then a.map eU else a.map eU++[s]
 |[],s,k=>rfl
 |(t,j)::r,s,k=>by
   have ih:=AZ r s k
   have sh:∀(a:List (List Int × Int)) (i i':Nat),(rC a s i).isSome=(rC a s i').isSome:=by
    intro a
    induction a with
    |nil=>intro i i'; rfl
    | cons p r ih => intro i i'; obtain ⟨t, j⟩ := p; unfold rC; split; · rfl
                     ·exact ih _ _
   unfold iQ rC;by_cases e:t=s
   ·simp[e]
   ·rw[if_neg e,if_neg e,List.map_cons,ih,sh r 0 1];by_cases q:(rC r s (0+1)).isSome=true
    ·rw[if_pos q,if_pos q]; rfl
    ·rw[if_neg q,if_neg q]; rfl
/- hierarchy.key. -/
theorem agd:((eP 100).all fun n=>decide ((Lib.decDigits n).length<=2))=true:=by decide +kernel
theorem ac8 {x:Int} (h0:0<=x) (h1:x<100):(qc x).size<=2:=by
 have:=pY.1 agd x.toNat (iP.2 (by omega));have:=of_decide_eq_true this;show (Lib.decDigits x.toNat).toArray.size<=2;simpa using this
theorem agb {x:Int} (b0:0<=x) (b1:x<100):bJ aq T8 [.int .i64 x] []=some (.str (qc x),[]):=by
 have git:bJ aq Rp [.int .i64 x,.int .i64 10] []=some (.str (qc x),[]):=Qu (by unfold NO; rw[oQc2]; show P5 _ _=_; simp only[P5]; rw[if_pos ⟨b0,b1⟩]);have w:IntKind.i64.wrap x=x:=by simp only[IntKind.wrap_i64]; omega
 generalize qc x=I at *
 have i2:bJ aq XA [.int .i64 x] []=some (.str I,[]):=by
  rw[dZ sQb9 (au rfl)];unfold qQb9 cQb9;simp[aeu,aet,git,w,b0,b1,aH,bL,bC,sQc2,iQc2]
 rw[dZ sQb2 (au rfl)];unfold qQb2 cQb2;simp[aeG,aeF,i2,w,b0,b1,aH,bL,bC,sQb9,iQb9]
theorem acz (a b:ByteArray):(a++b).size=a.size+b.size:=by simp
theorem UZ (l:List Int) (hl:l.length<=1000) (hb:∀x∈l,0<=x/\x<100):∀(n i:Nat) (s:ByteArray),i+n=l.length->s.size<=3*i->aW aq 0 (.loop abO) ⟨[(3,.str s),(6,.list 1 (ints l)),(7,.int .i64 l.length),(8,.int .i64 i)],[]⟩=some (.exit 0,⟨[(3,.str (RD s (l.drop i))),(6,.list 1 (ints l)),(7,.int .i64 l.length),(8,.int .i64 l.length),(9,.bool false)],[]⟩)
 |0,i,s,hi,hs=>by
   obtain rfl:i=l.length:=by omega
   rw[List.drop_length];have e:RD s []=s:=rfl;rw[e];refine bn ?_;generalize ints l=L at *;unfold abO;simp[aaT,aaS,aaR,aaQ,aaP,aaO,aaN,aaM]
 |n+1,i,s,hi,hs=>by
   have bE:i<l.length:=by omega
   obtain⟨b0,b1⟩:=hb l[i] (List.getElem_mem bE);have sz:=ac8 b0 b1;have s1:(qc l[i]++(⟨#[32]⟩:ByteArray)).size=(qc l[i]).size+1:=by rw[acz]; rfl
   have ih:=UZ l hl hb n (i+1) (s++(qc l[i]++⟨#[32]⟩)) (by omega) (by rw[acz,s1]; omega);rw[List.drop_eq_getElem_cons bE,RD];refine (aS ?_).trans ih;have k1:(i:Int)<l.length:=by omega
   have hw:=dA (i:=i) (by omega);have g3:(ints l)[i]?=some (.int .i64 l[i]):=by rw[aj (by rw[ah]; exact bE),bu]
   have g4:∀h,(ints l)[i]'h=.int .i64 l[i]:=fun h=>bu _ _ _;have ll:=ah l;have q1:(qc l[i]).size+1<=1000000000:=by omega
   have q2:s.size+(qc l[i]++(⟨#[32]⟩:ByteArray)).size<=1000000000:=by rw[s1]; omega
   have q3:s.size+((qc l[i]).size+1)<=1000000000:=by omega
   have q0:(qc l[i]).size+(⟨#[32]⟩:ByteArray).size<=1000000000:=q1;have q4:s.size+((qc l[i]).size+(⟨#[32]⟩:ByteArray).size)<=1000000000:=q3;have git:=agb b0 b1;clear ih s1;generalize qc l[i]=I at *;generalize l[i]=x at *;generalize ints l=L at *;unfold abO;simp[aaT,aaS,aaR,aaQ,aaP,aaO,aaN,aaM,k1,hw,g3,g4,ll,bE,q0,q1,q2,q3,q4,b0,b1,git,idx,aH,dc,pl,oQb2,sQb2,iQb2]
theorem RC (l:List Int) (hl:l.length<=1000) (hb:∀x∈l,0<=x/\x<100):bJ aq nQ1 [.list 1 (ints l)] []=some (.str (oB l),[]):=by
 have lp:=UZ l hl hb l.length 0 ⟨#[]⟩ (by omega) (aJ _);rw[List.drop_zero] at lp;have e:RD ⟨#[]⟩ l=oB l:=rfl;rw[e] at lp;rw[dZ sQ1 (au rfl)];have ll:=ah l;simp only[fH] at lp;generalize oB l=K at *;generalize ints l=L at *;unfold qQ1 cQ1;simp[aaT,aaS,aaR,aaQ,aaP,aaO,aaN,aaM,lp,ll,aH,bL,bC]
end Go.BmP
