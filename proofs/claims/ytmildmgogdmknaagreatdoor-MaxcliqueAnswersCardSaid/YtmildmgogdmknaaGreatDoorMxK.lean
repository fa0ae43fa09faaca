/- What maxclique.bound returns: no less than the greatest clique. -/
import Derived.Test.YtmildmgogdmknaaGreatDoorMxP
import Derived.Test.YtmildmgogdmknaaGreatDoorX11
set_option linter.unusedSimpArgs false
set_option linter.unusedVariables false
set_option maxRecDepth 100000
set_option maxHeartbeats 4000000
open Bool renaming and_eq_true → ae
open Classical renaming byContradiction → ep
open Int renaming one_mul → I7, toNat_natCast → kc
open List renaming filter_cons → nC, getD_eq_getElem?_getD → aJ, getElem?_eq_getElem → an, length_replicate → cz, mem_cons → aK, range → cQ, replicate → aH, take_length → eW
open Nat renaming and_le_left → jm, le_of_ble_eq_true → ah, le_refl → aY, lt_of_lt_of_le → ff, or_lt_two_pow → Mt, pow_le_pow_right → iU, strongRecOn → Ms, testBit_and → cm, testBit_lt_two_pow → sB
open Option.some renaming inj → dv
namespace Go.BmP
open Go.Am Go.Bm
theorem Kt (m:Nat) (h:m<18446744073709551616):bp aq nQ6 [.int .u64 m] []=some (.int .i64 (lI m:Nat),[]):=by
 rw[TJ];have:=Zr m h;rw[show pcE (m:Int)=pxE (m:Int) from rfl,this]
theorem XK {m b:Nat} (hm:m<18446744073709551616) (hb:b<18446744073709551616) (j:Nat):(m &&& (18446744073709551615-b)).testBit j=(m.testBit j&&!b.testBit j):=by
 rw[cm];have e:18446744073709551615-b=2 ^ 64-(b+1):=by omega
 rw[e,Nat.testBit_two_pow_sub_succ (by omega)];by_cases hj:j<64
 ·simp[hj]
 ·have:m.testBit j=false:=sB (ff hm (by
   rw[show (18446744073709551616:Nat)=2 ^ 64 from rfl];exact iU (by decide) (by omega)))
  simp[this]
theorem acv {A:List Nat} {v:Nat} (hv:v<A.length):idx (.int .i64 (v:Int)) A.length=some v/\(us A)[v]?=some (.int .u64 (A.getD v 0:Nat))/\∀ h:v<(us A).length,(us A)[v]=.int .u64 (A.getD v 0:Nat):=by
 have e:(us A)[v]?=some (.int .u64 (A.getD v 0:Nat)):=by
  rw[sG,aJ,an hv]; rfl
 refine⟨by have:=gC (k:=.i64) (i:=(v:Int)) (n:=A.length) (by omega) (by omega); simpa using this,e,fun h=>?_⟩;rw[an h] at e;exact dv e
theorem Zy {v:Nat} (h:v<64):2 ^ v<18446744073709551616:=by
 have:=Nat.pow_lt_pow_right (a:=2) (by decide) h;rw[show (18446744073709551616:Nat)=2 ^ 64 from rfl]; exact this
theorem Yc {v:Nat} (h:v<64):IntKind.u64.wrap (2 ^ (min v 64))=((2 ^ v:Nat):Int)/\IntKind.u64.wrap (1*2 ^ (min v 64))=((2 ^ v:Nat):Int):=by
 have:=Wm (v:=(v:Int)) (by omega) (by omega);simp only[kc] at this;exact⟨by rw[<-this,I7],this⟩
theorem adL {v:Nat} (h:v<=64):2 ^ v<=18446744073709551616:=by
 have:=iU (n:=2) (by decide) h;rw[show (18446744073709551616:Nat)=2 ^ 64 from rfl]; exact this
theorem Yd {v:Nat} (h:v<=64):∃M:Int,IntKind.u64.wrap (2 ^ (min v 64))=M/\IntKind.u64.wrap (1*2 ^ (min v 64))=M/\IntKind.u64.wrap (2 ^ v)=M/\IntKind.u64.wrap (M-1)=((2 ^ v-1:Nat):Int):=by
 by_cases q:v<64
 ·obtain⟨s1,s2⟩:=Yc q;refine⟨_,s1,s2,?_,decU (by have:=Nat.two_pow_pos v; omega) (Zy q)⟩;rw[Nat.min_eq_left h] at s1;exact s1
 ·obtain rfl:v=64:=by omega
  exact⟨0,by decide +kernel,by decide +kernel,by decide +kernel,by decide +kernel⟩
theorem al7 {A:List Nat} (hS:Small A) (hA:Sym A) (m n:Nat):∀(free kv:Nat),kv<18446744073709551616->free<18446744073709551616->(∀j,free.testBit j=true->j<A.length)->ClsI A m kv free ->
  ∃ Mg,Mg<=kv/\(free≠0->Mg<kv)/\(∀j,Mg.testBit j=true->kv.testBit j=true)/\ClsI A m Mg 0 /\
   aW aq 0 (.loop aav) ⟨[(0,.list 1 (us A)),(1,.int .u64 kv),(5,.int .i64 n),(6,.int .u64 free)],[]⟩=some (.exit 2,⟨[(0,.list 1 (us A)),(1,.int .u64 Mg),(5,.int .i64 n),(6,.int .u64 (0:Nat)),(14,.bool false)],[]⟩):=by
 intro free
 induction free using Ms with
 |ind free ih=>
   intro kv ha hf hr hc;by_cases h0:free=0
   ·subst h0;refine⟨kv,aY _,fun h=>absurd rfl h,fun _ h=>h,hc,?_⟩;exact bq (by unfold aav; simp[Oo,On,Om,Ol])
   ·have n0:¬((free:Int)=0):=by omega
    obtain⟨_,_,ht⟩:=kY h0 hf;obtain⟨tb,_⟩:=ug h0 hf;have htz:=Ja free h0 hf;obtain⟨r1,r2,r3⟩:=acv (hr _ tb);obtain⟨s1,s2⟩:=Yc ht;have hp:=Zy ht;have hg:=jz hS (tz free);have w1:=u64_andNot_nat kv (2 ^ tz free) ha hp;have w2:=u64_or_nat (2 ^ tz free) (A.getD (tz free) 0) hp hg;have ho:2 ^ tz free ||| A.getD (tz free) 0<18446744073709551616:=Mt (n:=64) hp hg
    have w3:=u64_andNot_nat free (2 ^ tz free ||| A.getD (tz free) 0) hf ho
    have hfr:∀x,(free &&& (18446744073709551615-(2 ^ tz free ||| A.getD (tz free) 0))).testBit x=(free.testBit x&&(decide (x≠tz free)&&!(A.getD (tz free) 0).testBit x)):=fun x=>by
     rw[XK hf ho,Nat.testBit_or,Nat.testBit_two_pow,Bool.not_or];by_cases k:tz free=x
     ·subst k; simp
     ·have k':¬x=tz free:=fun h=>k h.symm;simp[k,k']
    have Xh:=aft hA ha hf h0 hc hfr;have hwo:wo kv (tz free)<kv:=X0 ha ht (hc.1 _ tb)
    have bD:free &&& (18446744073709551615-(2 ^ tz free ||| A.getD (tz free) 0))<free:=by
     rcases Nat.lt_or_eq_of_le (jm:free &&& (18446744073709551615-(2 ^ tz free ||| A.getD (tz free) 0))<=free) with h|h
     ·exact h
     ·have:=hfr (tz free);rw[h,tb] at this;simp at this
    have yN:∀j,(free &&& (18446744073709551615-(2 ^ tz free ||| A.getD (tz free) 0))).testBit j=true->j<A.length:=fun j hj=>by
     rw[hfr] at hj;simp only[ae] at hj;exact hr j hj.1
    obtain⟨am,a1,a2,a3,a4,a5⟩:=ih _ bD (wo kv (tz free)) (by omega) (by omega) yN Xh;refine⟨am,by omega,fun _=>by omega,fun j hj=>?_,a4,?_⟩
    ·have:=a3 j hj;rw[fW ha ht] at this;simp only[ae] at this;exact this.1
    ·refine (aS (s':=⟨[(0,.list 1 (us A)),(1,.int .u64 ((wo kv (tz free):Nat):Int)),(5,.int .i64 n),(6,.int .u64 ((free &&& (18446744073709551615-(2 ^ tz free ||| A.getD (tz free) 0)):Nat):Int))],[]⟩) ?_).trans a5;have lA:=dU A;clear hfr Xh hwo bD yN a1 a2 a3 a4 a5 ih hc hr tb hg ho hp ha hf;unfold wo;generalize (kv &&& (18446744073709551615-2 ^ tz free):Nat)=W at *;generalize (free &&& (18446744073709551615-(2 ^ tz free ||| A.getD (tz free) 0)):Nat)=F at *;generalize (2 ^ tz free ||| A.getD (tz free) 0:Nat)=Q at *;generalize A.getD (tz free) 0=r at *;generalize (2 ^ tz free:Nat)=p at *;generalize tz free=t at *;have t0:(0:Int)<=t:=by omega
     have t1:(t:Int)<64:=by omega
     have t2:¬((t:Int)<0):=by omega
     generalize us A=AA at *;unfold aav;simp[Oo,On,Om,Ol,h0,htz,r1,r2,s1,w1,w2,w3,t2,lA,IntKind.bits,sQB,iQB,kc]
theorem aaL {p q:Nat->Bool}:∀{L:List Nat},(∀x,p x=true->q x=true)->(L.filter p).length<=(L.filter q).length
 |[],_=>aY _
 |x::r,h=>by
   have ih:=aaL (L:=r) h;rw[nC,nC];by_cases k:p x=true
   ·rw[if_pos k,if_pos (h x k)]; simp; exact ih
   ·rw[if_neg k];split
    ·simp; omega
    ·exact ih
theorem RO {p q:Nat->Bool}:∀{L:List Nat},(∀x,p x=true->q x=true)->∀{y:Nat},y∈L->q y=true->p y=false->(L.filter p).length<(L.filter q).length
 |[],_,y,hy,_,_=>by simp at hy
 |x::r,h,y,hy,h1,h2=>by
   rw[nC,nC];by_cases k:p x=true
   ·rw[if_pos k,if_pos (h x k)];have DT:y∈r:=(aK.1 hy).resolve_left fun e=>by rw[e,k] at h2; cases h2
    have ih:=RO h DT h1 h2;simp; exact ih
   ·rw[if_neg k];rcases aK.1 hy with rfl|DT
    ·rw[if_pos h1];have:=aaL (L:=r) h;simp; omega
    ·have ih:=RO h DT h1 h2;split
     ·simp; omega
     ·exact ih
theorem aml {m:Nat} (hm:m<18446744073709551616) {j:Nat} (h:m.testBit j=true):j<64:=by
 apply ep;intro k
 have:m.testBit j=false:=sB (ff hm (by
  rw[show (18446744073709551616:Nat)=2 ^ 64 from rfl];exact iU (by decide) (by omega)))
 rw[h] at this; cases this
theorem akH {a m:Nat} (hm:m<18446744073709551616) (h:∀j,a.testBit j=true->m.testBit j=true) {j:Nat} (h1:m.testBit j=true) (h2:a.testBit j=false):lI a<lI m:=
 RO h (List.mem_range.2 (aml hm h1)) h1 h2
theorem QM {a m:Nat} (hm:m<18446744073709551616) (h:∀j,a.testBit j=true->m.testBit j=true) (hl:a<m):lI a<lI m:=by
 apply ep;intro k
 have:a=m:=Nat.eq_of_testBit_eq fun j=>by
  cases e:m.testBit j with
  |false=>
    cases e2:a.testBit j with
    |false=>rfl
    |true=>rw[h j e2] at e; cases e
  |true=>
    cases e2:a.testBit j with
    |true=>rfl
    |false=>exact absurd (akH hm h e e2) k
 omega
theorem FV (m:Nat):lI m<=64:=by
 unfold lI;have:=List.length_filter_le (fun j=>m.testBit j) (cQ 64);rw[List.length_range] at this;exact this
theorem ah8 {A:List Nat} (hS:Small A) (hA:Sym A) (m0:Nat):∀(m n:Nat),m<18446744073709551616->n+lI m<=64->(∀j,m.testBit j=true->j<A.length)->BdI A m0 n m ->
  ∃ k,BdI A m0 k 0/\k<=64/\aW aq 0 (.loop aau) ⟨[(0,.list 1 (us A)),(1,.int .u64 m),(5,.int .i64 n)],[]⟩=some (.exit 0,⟨[(0,.list 1 (us A)),(1,.int .u64 (0:Nat)),(5,.int .i64 k),(9,.bool false)],[]⟩):=by
 intro m
 induction m using Ms with
 |ind m ih=>
   intro n hm hn hr hb;by_cases h0:m=0
   ·subst h0;refine⟨n,hb,by omega,?_⟩;exact bq (by unfold aau; simp[Ot,Oq,Oj])
   ·have n0:¬((m:Int)=0):=by omega
    obtain⟨am,a1,a2,a3,a4,a5⟩:=al7 hS hA m n m m hm hm hr (abT A m);have a2:=a2 h0;have O9:=QM hm a3 a2;obtain⟨k,b1,b2,b3⟩:=ih am a2 (n+1) (by omega) (by omega) (fun j hj=>hr j (a3 j hj)) (aih hb a4);refine⟨k,b1,b2,(aS (s':=⟨[(0,.list 1 (us A)),(1,.int .u64 am),(5,.int .i64 ((n+1:Nat):Int))],[]⟩) ?_).trans b3⟩;have hw:=dM (i:=n) (by omega);clear ih hr hb a3 a4 b1 b2 b3 hS hA;generalize us A=AA at *;unfold aau;simp[Ot,Oq,Oj,h0,a5,hw]
theorem ab4 {A:List Nat} (hS:Small A) (hA:Sym A) (m:Nat) (hm:m<18446744073709551616) (hr:∀j,m.testBit j=true->j<A.length) :
  ∃ k:Nat,k<=64/\(∀S,Kq A S->FB m S->S.length<=k)/\bp aq nQ7 [.list 1 (us A),.int .u64 m] []=some (.int .i64 k,[]):=by
 obtain⟨k,h1,h2,h3⟩:=ah8 hS hA m m 0 hm (by have:=FV m; omega) hr (afL A m);refine⟨k,h2,fun S a b=>ama h1 a b,?_⟩;rw[pM sQ7 (ah rfl)];unfold qQ7 cQ7;rw[fi] at h3;generalize us A=AA at *;simp[Ov,Ou,Oi,h3,bk,bf]
/- What maxclique.longest returns: the greater one of what it is given and the size of a largest clique. -/
set_option maxHeartbeats 8000000
def lgF:AV:=.func (.func nQ5) [] [.ptr 1 0,.ptr 0 0,.ptr 2 0]
def lH (A:List Nat) (b:Int):Heap:=[some [.list 1 (us A)],some [.int .i64 b],some [lgF]]
def lE (m:Nat) (s:Int) (x:Env):Env:=(0,.int .u64 (m:Nat))::(1,.int .i64 s)::(2,.ptr 1 0)::(3,.ptr 0 0)::(4,.ptr 2 0)::x
theorem alv (A:List Nat) (m:Nat) (s b:Int):aW aq 3 (.aN vw false [] [0,1,2,3,4]) ⟨lE m s [],lH A b⟩=some (.normal,⟨lE m s [],lH A (mxI b s)⟩):=by
 unfold lE lH lgF mxI;generalize us A=AA;generalize (m:Int)=X;by_cases k:b<s
 ·simp[vw,k,aO]
 ·simp[vw,k,aO]
theorem lg_z (A:List Nat) (s b:Int):aW aq 3 (.aN tW false [] [0,1,2,3,4,12]) ⟨lE 0 s [],lH A b⟩=some (.normal,⟨lE 0 s [(12,.bool false)],lH A b⟩):=by
 unfold lE lH lgF;generalize us A=AA;simp[tW]
theorem aja (A:List Nat) {m:Nat} (s b:Int) (h:m≠0):aW aq 3 (.aN tW false [] [0,1,2,3,4,12]) ⟨lE m s [],lH A b⟩=some (.normal,⟨lE m s [(12,.bool true)],lH A b⟩):=by
 have n0:¬((m:Int)=0):=by omega
 unfold lE lH lgF;generalize us A=AA;generalize (m:Int)=X at *;simp[tW,n0]
theorem alw (A:List Nat) {m:Nat} (hm:m<18446744073709551616) (s b:Int) (hs:0<=s/\s<=1000) (h:s+lI m<=b):aW aq 3 (.aN sY true [(5,5),(6,6),(13,13),(14,14),(0,2),(0,4),(1,4),(2,4),(3,4),(7,8),(8,9),(7,10),(7,12),(8,12),(9,12),(10,12),(11,12)] [0,1,2,3,4,27]) ⟨lE m s [(12,.bool true)],lH A b⟩=some (.normal,⟨lE m s [(27,.bool true)],lH A b⟩):=by
 have on:=Kt m hm;have hp:=FV m;have w:IntKind.i64.wrap (s+(lI m:Int))=s+lI m:=fE (by omega) (by omega);unfold lE lH lgF;generalize us A=AA;generalize (m:Int)=X at *;generalize (lI m:Int)=c at *;simp[sY,on,w,h,sQ6,iQ6,aO]
theorem alx (A:List Nat) {m:Nat} (hm:m<18446744073709551616) (s b:Int) (hs:0<=s/\s<=1000) (h:¬s+lI m<=b) {k:Nat} (hk:k<=64) (hb:bp aq nQ7 [.list 1 (us A),.int .u64 m] []=some (.int .i64 k,[])):aW aq 3 (.aN sY true [(5,5),(6,6),(13,13),(14,14),(0,2),(0,4),(1,4),(2,4),(3,4),(7,8),(8,9),(7,10),(7,12),(8,12),(9,12),(10,12),(11,12)] [0,1,2,3,4,27]) ⟨lE m s [(12,.bool true)],lH A b⟩=some (.normal,⟨lE m s [(27,.bool (decide (s+k<=b)))],lH A b⟩):=by
 have on:=Kt m hm;have hp:=FV m;have w:IntKind.i64.wrap (s+(lI m:Int))=s+lI m:=fE (by omega) (by omega);have w2:IntKind.i64.wrap (s+(k:Int))=s+k:=fE (by omega) (by omega);unfold lE lH lgF;have lA:=dU A;generalize us A=AA at *;generalize (m:Int)=X at *;generalize (lI m:Int)=c at *;generalize (k:Int)=kk at *;simp[sY,on,w,w2,h,hb,sQ6,iQ6,sQ7,iQ7,aO]
theorem anf (A:List Nat) {m:Nat} (h0:m≠0) (hm:m<18446744073709551616) (s b:Int):aW aq 3 (.aN vu false [] [0,1,2,3,4,7]) ⟨lE m s [(27,.bool false)],lH A b⟩=some (.normal,⟨lE m s [(7,.int .i64 (tz m:Nat))],lH A b⟩):=by
 have ht:=Ja m h0 hm;unfold lE lH lgF;generalize us A=AA;generalize (m:Int)=X at *;simp[vu,ht,sQB,iQB]
theorem ane (A:List Nat) {m:Nat} (h0:m≠0) (hm:m<18446744073709551616) (s b:Int):aW aq 3 (.aN vt false [] [0,1,2,3,4,7]) ⟨lE m s [(7,.int .i64 (tz m:Nat))],lH A b⟩=some (.normal,⟨lE (wo m (tz m)) s [(7,.int .i64 (tz m:Nat))],lH A b⟩):=by
 obtain⟨_,_,ht⟩:=kY h0 hm;obtain⟨s1,s2⟩:=Yc ht;have w1:=u64_andNot_nat m (2 ^ tz m) hm (Zy ht);unfold lE lH lgF wo;generalize us A=AA;generalize (m &&& (18446744073709551615-2 ^ tz m):Nat)=W at *;generalize (2 ^ tz m:Nat)=p at *;generalize tz m=t at *;generalize (m:Int)=X at *;have t0:(0:Int)<=t:=by omega
 have t1:(t:Int)<64:=by omega
 have t2:¬((t:Int)<0):=by omega
 simp[vt,s1,w1,t2,IntKind.bits,kc]
theorem ag7 {A:List Nat} (hS:Small A) {w t:Nat} (hw:w<18446744073709551616) (ht:t<A.length) {s b b2:Int} (hs:0<=s/\s<=1000) (hc:bp aq nQ5 [.int .u64 (w &&& A.getD t 0:Nat),.int .i64 (s+1),.ptr 1 0,.ptr 0 0,.ptr 2 0] (lH A b)=some (.dJ [],lH A b2)):aW aq 3 (.aN vq true [(9,9),(0,1),(0,2),(1,2),(0,3),(2,3),(0,4),(0,5),(1,5),(0,6),(0,7),(2,7),(5,7),(0,8),(2,8),(5,8)] [0,1,2,3,4]) ⟨lE w s [(7,.int .i64 (t:Nat))],lH A b⟩=some (.normal,⟨lE w s [],lH A b2⟩):=by
 obtain⟨r1,r2,r3⟩:=acv ht;have w1:=u64_and_nat w (A.getD t 0) hw (jz hS t);have w2:IntKind.i64.wrap (s+1)=s+1:=fE (by omega) (by omega);have lA:=dU A;unfold lH lgF at *;unfold lE;generalize (w &&& A.getD t 0:Nat)=W at *;generalize A.getD t 0=r at *;generalize (w:Int)=X at *;have t0:(0:Int)<=t:=by omega
 have t2:¬((t:Int)<0):=by omega
 have t3:(t:Int)<A.length:=by omega
 generalize us A=AA at *;simp[vq,r1,r3,w1,w2,lA,hc,ht,fu,cX,fa,dD,dt,dH,gR,jL,sQ5,aO]
/- maxclique.longest, by its regions. -/
theorem Lw (m:Nat) (s:Int) (x:Env) (i:Nat) (h:4<i):bC aq (lE m s x) (.t i)=fJ i (Am.get x i):=by
 unfold lE bC;simp only[Gy,if_neg (show i≠0 by omega),if_neg (show i≠1 by omega),if_neg (show i≠2 by omega),if_neg (show i≠3 by omega),if_neg (show i≠4 by omega)]
def aje (m:Nat) (s:Int):List AV:=[.int .u64 (m:Nat),.int .i64 s,.ptr 1 0,.ptr 0 0,.ptr 2 0]
def abc (A:List Nat) (m:Nat) (s b b':Int):Prop:=(∃m',aW aq 3 (.loop Li) ⟨lE m s [],lH A b⟩=some (.exit 0,⟨lE m' s [(27,.bool true)],lH A b'⟩))\/aW aq 3 (.loop Li) ⟨lE m s [],lH A b⟩=some (.exit 0,⟨lE 0 s [(12,.bool false)],lH A b'⟩)
theorem ajb {A:List Nat} {m:Nat} {s b b':Int} (h:abc A m s (mxI b s) b'):bp aq nQ5 (aje m s) (lH A b)=some (.dJ [],lH A b'):=by
 have h0:=alv A m s b;rw[pM sQ5 (ah rfl)];unfold qQ5 cQ5;show bk aq _ _ 3 (aW aq 3 _ ⟨lE m s [],lH A b⟩)=_;rw[di,m4,fO,di,h0,fO,di,m4,fO,vW];rcases h with⟨m',h⟩|h
 ·rw[h,L5,if_pos rfl];unfold lE lH lgF;generalize us A=AA;simp[bk,bf,iD,fu,cX]
 ·rw[h,L5,if_pos rfl];unfold lE lH lgF;generalize us A=AA;simp[bk,bf,iD,fu,cX]
theorem ag6 {A:List Nat} (hS:Small A) (hA:Sym A):∀(m:Nat),m<18446744073709551616->(∀j,m.testBit j=true->j<A.length)->∀(s:Nat) (b:Int),(s:Int)<=b->s+lI m<=1000->∃b',Rg A s m b b'/\abc A m s b b':=by
 intro m
 induction m using Ms with
 |ind m ih=>
   intro hm hr s b IK hsm;by_cases h0:m=0
   ·subst h0;refine⟨b,agi IK,.inr (bq ?_)⟩;unfold Li;rw[di,di,lg_z,fO,oY,Lw _ _ _ _ (by decide)];show yU aq 3 _ (aW aq 3 (.exit 0) _)=_;rw[DF,PX]
   ·have hs:(0:Int)<=s/\(s:Int)<=1000:=by omega
    have stop:aW aq 3 (.aN sY true [(5,5),(6,6),(13,13),(14,14),(0,2),(0,4),(1,4),(2,4),(3,4),(7,8),(8,9),(7,10),(7,12),(8,12),(9,12),(10,12),(11,12)] [0,1,2,3,4,27]) ⟨lE m s [(12,.bool true)],lH A b⟩=some (.normal,⟨lE m s [(27,.bool true)],lH A b⟩)->abc A m s b b:=by
     intro e;refine .inl ⟨m,bq ?_⟩;unfold Li;rw[di,di,aja A s b h0,fO,oY,Lw _ _ _ _ (by decide)];show yU aq 3 _ (aW aq 3 .skip _)=_;rw[m4,fO,vW,di,di,e,fO,oY,Lw _ _ _ _ (by decide)];show blkL 1 (yU aq 3 _ (aW aq 3 (.exit 0) _))=_;rw[DF,PX,L5,if_neg (by decide)]
    by_cases k1:(s:Int)+lI m<=b
    ·refine⟨b,P5 fun S hK hI=>?_,stop (alw A hm s b hs k1)⟩;have:=Rr hm hK hI;have e:((cQ 64).filter fun j=>m.testBit j).length=lI m:=rfl;omega
    ·obtain⟨k,q1,q2,q3⟩:=ab4 hS hA m hm hr;have e2:=alx A hm s b hs k1 q1 q3;by_cases k2:(s:Int)+k<=b
     ·rw[decide_eq_true k2] at e2;refine⟨b,P5 fun S hK hI=>?_,stop e2⟩;have:=q2 S hK hI;omega
     ·rw[decide_eq_false k2] at e2;obtain⟨_,_,ht⟩:=kY h0 hm;obtain⟨tb,_⟩:=ug h0 hm;have hwl:=X0 hm ht tb;have hw:wo m (tz m)<18446744073709551616:=by omega
      have wb:∀j,(wo m (tz m)).testBit j=true->m.testBit j=true:=fun j hj=>by
       rw[fW hm ht] at hj;simp only[ae] at hj;exact hj.1
      have rb:∀j,(wo m (tz m) &&& A.getD (tz m) 0).testBit j=true->(wo m (tz m)).testBit j=true:=fun j hj=>by
       rw[cm] at hj;simp only[ae] at hj;exact hj.1
      have rl:wo m (tz m) &&& A.getD (tz m) 0<=wo m (tz m):=jm;have p1:lI (wo m (tz m))<lI m:=QM hm wb hwl;have p2:lI (wo m (tz m) &&& A.getD (tz m) 0)<lI m:=QM hm (fun j hj=>wb j (rb j hj)) (by omega);obtain⟨b2,g1,g2⟩:=ih (wo m (tz m) &&& A.getD (tz m) 0) (by omega) (by omega) (fun j hj=>hr j (wb j (rb j hj))) (s+1) (mxI b ((s+1:Nat):Int)) (by unfold mxI; split<;>omega) (by omega);have g1:=acA g1;have vS:(s:Int)<=b2:=by have:=g1.1; omega
      have hc:=ajb g2;have es:((s+1:Nat):Int)=(s:Int)+1:=by omega
      rw[es] at hc;obtain⟨b3,f1,f2⟩:=ih (wo m (tz m)) hwl hw (fun j hj=>hr j (wb j hj)) s b2 vS (by omega)
      have step:aW aq 3 Li ⟨lE m s [],lH A b⟩=some (.normal,⟨lE (wo m (tz m)) s [],lH A b2⟩):=by
       unfold Li;rw[di,di,aja A s b h0,fO,oY,Lw _ _ _ _ (by decide)];show yU aq 3 _ (aW aq 3 .skip _)=_;rw[m4,fO,vW,di,di,e2,fO,oY,Lw _ _ _ _ (by decide)];show blkL 1 (yU aq 3 _ (aW aq 3 .skip _))=_;rw[m4,fO,di,anf A h0 hm,fO,di,ane A h0 hm,fO,ag7 hS hw (hr _ tb) hs hc,afG]
      refine⟨b3,agj h0 hm g1 f1,?_⟩;unfold abc at f2 ⊢;rw[aS step];exact f2
theorem zZ {A:List Nat} (hS:Small A) (hA:Sym A) (m:Nat) (hm:m<18446744073709551616) (hr:∀j,m.testBit j=true->j<A.length) (least:Int):∃r,Rg A 0 m least r/\bp aq nQA [.list 1 (us A),.int .u64 m,.int .i64 least] []=some (.int .i64 r,[]):=by
 obtain⟨r,g1,g2⟩:=ag6 hS hA m hm hr 0 (mxI least ((0:Nat):Int)) (by unfold mxI; split<;>omega) (by have:=FV m; omega);refine⟨r,acA g1,?_⟩;have hc:=ajb g2;rw[pM sQA (ah rfl)];unfold qQA cQA;unfold aje lH lgF at hc;rw[fi] at hc;generalize us A=AA at *;generalize (m:Int)=X at *;simp[aiR,aiQ,aiP,aiO,aiN,aiM,hc,fu,cX,fa,dD,dt,dH,gR,jL,sQ5,bk,bf,aO]
/- What maxclique.masks returns. -/
theorem KV (N:Nat) (hN:N<=64) (Es:List Ed) (hE:Es.length<4294967295) (hv:∀e∈Es,0<=e.1/\e.1<e.2/\e.2<(N:Int)):∀(k i:Nat) (A:List Nat),i+k=Es.length->A.length=N->Small A->aW aq 0 (.loop aah) ⟨[(3,.own 1 (us A)),(10,.list 2 (bU Es)),(11,.int .i64 Es.length),(12,.int .i64 i)],[]⟩ =
  some (.exit 0,⟨[(3,.own 1 (us (l8 (Es.drop i) A))),(10,.list 2 (bU Es)),(11,.int .i64 Es.length),(12,.int .i64 Es.length),(13,.bool false)],[]⟩)
 |0,i,A,hi,hA,hS=>by
   obtain rfl:i=Es.length:=by omega
   rw[List.drop_length];exact bq (by unfold aah; simp[YB,YA,Yz,Yy,Yx,l8,List.foldl_nil])
 |k+1,i,A,hi,hA,hS=>by
   have bD:i<Es.length:=by omega
   have h1:(i:Int)<Es.length:=by omega
   have hw:=dM (i:=i) (by omega);obtain⟨u0,uv,vn⟩:=hv Es[i] (List.getElem_mem bD);have ih:=KV N hN Es hE hv k (i+1) (VG A Es[i]) (by omega) (by rw[xz]; exact hA) (Bn hS (by omega) (by omega));rw[List.drop_eq_getElem_cons bD];have v0:0<=Es[i].2:=by omega
   have un:Es[i].1<(N:Int):=by omega
   have u0':¬Es[i].1<0:=by omega
   have v0':¬Es[i].2<0:=by omega
   have uN:Es[i].1.toNat<N:=by omega
   have vN:Es[i].2.toNat<N:=by omega
   have pu:=pQ (v:=Es[i].1) (by omega) u0;have pv:=pQ (v:=Es[i].2) (by omega) v0;have su:=Wm (v:=Es[i].1) u0 (by omega);have sv:=Wm (v:=Es[i].2) v0 (by omega);have su':IntKind.u64.wrap (2 ^ (min Es[i].1.toNat 64))=((2 ^ Es[i].1.toNat:Nat):Int):=by rw[<-su,I7]
   have sv':IntKind.u64.wrap (2 ^ (min Es[i].2.toNat 64))=((2 ^ Es[i].2.toNat:Nat):Int):=by rw[<-sv,I7]
   have gu:(us A)[Es[i].1.toNat]?=some (.int .u64 (A.getD Es[i].1.toNat 0:Nat)):=by
    rw[sG,aJ,an (by omega)]; rfl
   have xu:=jz hS Es[i].1.toNat;have ou:=u64_or_nat (A.getD Es[i].1.toNat 0) (2 ^ Es[i].2.toNat) xu pv;have eu:=Cf A Es[i].1.toNat (A.getD Es[i].1.toNat 0 ||| 2 ^ Es[i].2.toNat);have sm:Small (A.set Es[i].1.toNat (A.getD Es[i].1.toNat 0 ||| 2 ^ Es[i].2.toNat)):=uX hS (Mt (n:=64) xu pv);have eln:(A.set Es[i].1.toNat (A.getD Es[i].1.toNat 0 ||| 2 ^ Es[i].2.toNat)).length=N:=by rw[List.length_set]; exact hA
   have ead:l8 (Es[i]::Es.drop (i+1)) A=l8 (Es.drop (i+1)) (VG A Es[i]):=rfl;rw[ead];have eA:VG A Es[i]=(A.set Es[i].1.toNat (A.getD Es[i].1.toNat 0 ||| 2 ^ Es[i].2.toNat)).set Es[i].2.toNat ((A.set Es[i].1.toNat (A.getD Es[i].1.toNat 0 ||| 2 ^ Es[i].2.toNat)).getD Es[i].2.toNat 0 ||| 2 ^ Es[i].1.toNat):=rfl;rw[eA] at ih ⊢;generalize hA1:A.set Es[i].1.toNat (A.getD Es[i].1.toNat 0 ||| 2 ^ Es[i].2.toNat)=A1 at *
   have gv:(us A1)[Es[i].2.toNat]?=some (.int .u64 (A1.getD Es[i].2.toNat 0:Nat)):=by
    rw[sG,aJ,an (by omega)]; rfl
   have ov:=u64_or_nat (A1.getD Es[i].2.toNat 0) (2 ^ Es[i].1.toNat) (jz sm _) pu;have ev:=Cf A1 Es[i].2.toNat (A1.getD Es[i].2.toNat 0 ||| 2 ^ Es[i].1.toNat);generalize A1.getD Es[i].2.toNat 0 ||| 2 ^ Es[i].1.toNat=q at *
   generalize A.getD Es[i].1.toNat 0 ||| 2 ^ Es[i].2.toNat=p at *
   generalize A1.getD Es[i].2.toNat 0=y at *;generalize A.getD Es[i].1.toNat 0=x at *;generalize 2 ^ Es[i].1.toNat=pU at *;generalize 2 ^ Es[i].2.toNat=pV at *;clear pu pv xu sm eA ead hA1;have gu':∀h:Es[i].1.toNat<(us A).length,(us A)[Es[i].1.toNat]=.int .u64 (x:Int):=fun h=>by rw[an h] at gu; exact dv gu
   have gv':∀h:Es[i].2.toNat<(us A1).length,(us A1)[Es[i].2.toNat]=.int .u64 (y:Int):=fun h=>by rw[an h] at gv; exact dv gv
   refine (aS (s':=⟨[(3,.own 1 (us (A1.set Es[i].2.toNat q))),(10,.list 2 (bU Es)),(11,.int .i64 Es.length),(12,.int .i64 ((i+1:Nat):Int))],[]⟩) ?_).trans ih
   have g2:∀h,(bU Es)[i]'h=.agg [.int .i64 Es[i].1,.int .i64 Es[i].2]:=fun h=>bw ..;have g5:=az Es;have vN':Es[i].2<(N:Int):=vn;unfold aah;simp[YB,YA,Yz,Yy,Yx,h1,bD,hw,u0,v0,u0',v0',un,vn,uN,vN,su',sv',gu',gv',g2,g5,ou,ov,eu,ev,hA,eln,dU,idx,IntKind.bits,fz,pl,AV.leaf,aO]
theorem OT {N:Nat} {Es:List Ed} (h:jh (N:Int) Es) (hE:Es.length<4294967295):bp aq nQz [.agg [.int .i64 N,.list 2 (bU Es)]] []=some (.list 1 (us (dn N Es)),[]):=by
 have hn:N<=64:=by have:=h.1; omega
 have hl:=KV N hn Es hE h.2.2 Es.length 0 (aH N 0) (by omega) (by simp) (fun x hx=>by have:=List.eq_of_mem_replicate hx; omega);rw[fi,List.drop_zero] at hl;have r1:aH N (AV.int .u64 0)=us (aH N 0):=Wa N;have n0:¬(N:Int)<0:=by omega
 have nL:(N:Int)<=4294967296:=by omega
 have m1:max (N:Int) 0=(N:Int):=by omega
 have m2:¬(64:Int)<N:=by omega
 have ea:l8 Es (aH N 0)=dn N Es:=rfl;rw[ea] at hl;have tk:(us (dn N Es)).take (dn N Es).length=us (dn N Es):=by rw[PT,eW]
 have e:=(jO h).1
 have tkr:(us (aH N 0)).take N=us (aH N 0):=by
  have:=eW (l:=us (aH N 0))
  rwa [dU,cz] at this
 rw[e] at tk;have g5:=az Es;rw[pM sQz (ah rfl)];unfold qQz cQz;generalize bU Es=Y at *;simp[YF,YD,YC,Yw,hl,r1,tkr,e,cz,nL,dU,tk,g5,jx,aO,bk,bf]
end Go.BmP
