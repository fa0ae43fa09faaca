/- What maxclique.bound returns: no less than the greatest clique. -/
import Derived.Test.YtppmiehidnpgbaaGreatDoorUseM
import Derived.Test.YtppmiehidnpgbaaGreatDoorMxP
import Derived.Test.YtppmiehidnpgbaaGreatDoorX11
set_option linter.unusedSimpArgs false
set_option linter.unusedVariables false
set_option maxRecDepth 100000
set_option maxHeartbeats 4000000
open Bool renaming and_eq_true → ae
open Classical renaming byContradiction → fc
open Int renaming one_mul → Dg, toNat_natCast → km
open List renaming filter_cons → lq, getD_eq_getElem?_getD → aI, getElem?_eq_getElem → aB, length_replicate → bW, mem_cons → aK, range → cH, replicate → aF, take_length → dW
open Nat renaming and_le_left → gU, le_of_ble_eq_true → aD, le_refl → aT, lt_of_lt_of_le → fM, or_lt_two_pow → Hj, pow_le_pow_right → jK, strongRecOn → Hi, testBit_and → bI, testBit_lt_two_pow → py
open Option.some renaming inj → dn
namespace Go.BmP
open Go.Am Go.Bm
theorem Fy (m : Nat) (h : m < 18446744073709551616) : br au nQU [.int .u64 m] [] = some (.int .i64 (jQ m : Nat),[]) := by
 rw [MK];have := Th m h;rw [show pcE (m : Int) = pxE (m : Int) from rfl,this]
theorem QV {m b : Nat} (hm : m < 18446744073709551616) (hb : b < 18446744073709551616) (j : Nat) : (m &&& (18446744073709551615 - b)).testBit j = (m.testBit j && !b.testBit j) := by
 rw [bI];have e : 18446744073709551615 - b = 2 ^ 64 - (b + 1) := by omega
 rw [e,Nat.testBit_two_pow_sub_succ (by omega)];by_cases hj : j < 64
 ·simp [hj]
 ·have : m.testBit j = false := py (fM hm (by
   rw [show (18446744073709551616 : Nat) = 2 ^ 64 from rfl];exact jK (by decide) (by omega)))
  simp [this]
theorem Xx {A : List Nat} {v : Nat} (hv : v < A.length) : idx (.int .i64 (v : Int)) A.length = some v /\ (us A)[v]? = some (.int .u64 (A.getD v 0 : Nat)) /\ ∀ h : v < (us A).length,(us A)[v] = .int .u64 (A.getD v 0 : Nat) := by
 have e : (us A)[v]? = some (.int .u64 (A.getD v 0 : Nat)) := by
  rw [pB,aI,aB hv]; rfl
 refine ⟨by have := kQ (k := .i64) (i := (v : Int)) (n := A.length) (by omega) (by omega); simpa using this,e,fun h => ?_⟩;rw [aB h] at e;exact dn e
theorem MB {v : Nat} (h : v < 64) : 2 ^ v < 18446744073709551616 := by
 have := Nat.pow_lt_pow_right (a := 2) (by decide) h;rw [show (18446744073709551616 : Nat) = 2 ^ 64 from rfl]; exact this
theorem Ml {v : Nat} (h : v < 64) : IntKind.u64.wrap (2 ^ (min v 64)) = ((2 ^ v : Nat) : Int) /\ IntKind.u64.wrap (1 * 2 ^ (min v 64)) = ((2 ^ v : Nat) : Int) := by
 have := Pr (v := (v : Int)) (by omega) (by omega);simp only [km] at this;exact ⟨by rw [<- this,Dg],this⟩
theorem aha {A : List Nat} (hS : Small A) (hA : Sym A) (m n : Nat) : ∀ (free jB : Nat),jB < 18446744073709551616 -> free < 18446744073709551616 -> (∀ j,free.testBit j = true -> j < A.length) -> WS A m jB free ->
  ∃ G2,G2 <= jB /\ (free ≠ 0 -> G2 < jB) /\ (∀ j,G2.testBit j = true -> jB.testBit j = true) /\ WS A m G2 0 /\
   aW au 0 (.loop Ub) ⟨[(0,.list 1 (us A)),(1,.int .u64 jB),(5,.int .i64 n),(6,.int .u64 free)],[]⟩ = some (.exit 2,⟨[(0,.list 1 (us A)),(1,.int .u64 G2),(5,.int .i64 n),(6,.int .u64 (0 : Nat)),(14,.bool false)],[]⟩) := by
 intro free
 induction free using Hi with
 | ind free ih =>
   intro jB ha hf hr hc;by_cases h0 : free = 0
   ·subst h0;refine ⟨jB,aT _,fun h => absurd rfl h,fun _ h => h,hc,?_⟩;exact bw (by unfold Ub; simp [Iv,Iu,It,Is,Ir,Iq,Ip,Io,Im,Il,fY,aN,aq,aM,bp,bV,an,ak,aj,af,aE,aL,bu,bq])
   ·have n0 : ¬ ((free : Int) = 0) := by omega
    obtain ⟨_,_,ht⟩ := jZ h0 hf;obtain ⟨tb,_⟩ := qX h0 hf;have htz := Dk free h0 hf;obtain ⟨r1,r2,r3⟩ := Xx (hr _ tb);obtain ⟨s1,s2⟩ := Ml ht;have hp := MB ht;have hg := iR hS (tz free);have w1 := u64_andNot_nat jB (2 ^ tz free) ha hp;have w2 := u64_or_nat (2 ^ tz free) (A.getD (tz free) 0) hp hg;have ho : 2 ^ tz free ||| A.getD (tz free) 0 < 18446744073709551616 := Hj (n := 64) hp hg
    have w3 := u64_andNot_nat free (2 ^ tz free ||| A.getD (tz free) 0) hf ho
    have hfr : ∀ x,(free &&& (18446744073709551615 - (2 ^ tz free ||| A.getD (tz free) 0))).testBit x = (free.testBit x && (decide (x ≠ tz free) && !(A.getD (tz free) 0).testBit x)) := fun x => by
     rw [QV hf ho,Nat.testBit_or,Nat.testBit_two_pow,Bool.not_or];by_cases k : tz free = x
     ·subst k; simp
     ·have k' : ¬ x = tz free := fun h => k h.symm;simp [k,k']
    have Qr := aaa hA ha hf h0 hc hfr;have hwo : wo jB (tz free) < jB := Q8 ha ht (hc.1 _ tb)
    have bL : free &&& (18446744073709551615 - (2 ^ tz free ||| A.getD (tz free) 0)) < free := by
     rcases Nat.lt_or_eq_of_le (gU : free &&& (18446744073709551615 - (2 ^ tz free ||| A.getD (tz free) 0)) <= free) with h | h
     ·exact h
     ·have := hfr (tz free);rw [h,tb] at this;simp at this
    have uh : ∀ j,(free &&& (18446744073709551615 - (2 ^ tz free ||| A.getD (tz free) 0))).testBit j = true -> j < A.length := fun j hj => by
     rw [hfr] at hj;simp only [ae] at hj;exact hr j hj.1
    obtain ⟨am,a1,a2,a3,a4,a5⟩ := ih _ bL (wo jB (tz free)) (by omega) (by omega) uh Qr;refine ⟨am,by omega,fun _ => by omega,fun j hj => ?_,a4,?_⟩
    ·have := a3 j hj;rw [eU ha ht] at this;simp only [ae] at this;exact this.1
    ·refine (aY (s' := ⟨[(0,.list 1 (us A)),(1,.int .u64 ((wo jB (tz free) : Nat) : Int)),(5,.int .i64 n),(6,.int .u64 ((free &&& (18446744073709551615 - (2 ^ tz free ||| A.getD (tz free) 0)) : Nat) : Int))],[]⟩) ?_).trans a5;have lA := dv A;clear hfr Qr hwo bL uh a1 a2 a3 a4 a5 ih hc hr tb hg ho hp ha hf;unfold wo;generalize (jB &&& (18446744073709551615 - 2 ^ tz free) : Nat) = W at *;generalize (free &&& (18446744073709551615 - (2 ^ tz free ||| A.getD (tz free) 0)) : Nat) = F at *;generalize (2 ^ tz free ||| A.getD (tz free) 0 : Nat) = Q at *;generalize A.getD (tz free) 0 = r at *;generalize (2 ^ tz free : Nat) = p at *;generalize tz free = t at *;have t0 : (0 : Int) <= t := by omega
     have t1 : (t : Int) < 64 := by omega
     have t2 : ¬ ((t : Int) < 0) := by omega
     generalize us A = AA at *;unfold Ub;simp [Iv,Iu,It,Is,Ir,Iq,Ip,Io,Im,Il,n0,h0,htz,r1,r2,r3,s1,s2,w1,w2,w3,t0,t1,t2,lA,IntKind.bits,sQv,iQv,lQv,km,aN,aq,aM,bp,bV,an,ak,aj,af,aE,aL,bu,bq]
theorem UC {p q : Nat -> Bool} : ∀ {L : List Nat},(∀ x,p x = true -> q x = true) -> (L.filter p).length <= (L.filter q).length
 | [],_ => aT _
 | x :: r,h => by
   have ih := UC (L := r) h;rw [lq,lq];by_cases k : p x = true
   ·rw [if_pos k,if_pos (h x k)]; simp; exact ih
   ·rw [if_neg k];split
    ·simp; omega
    ·exact ih
theorem Lw {p q : Nat -> Bool} : ∀ {L : List Nat},(∀ x,p x = true -> q x = true) -> ∀ {y : Nat},y ∈ L -> q y = true -> p y = false -> (L.filter p).length < (L.filter q).length
 | [],_,y,hy,_,_ => by simp at hy
 | x :: r,h,y,hy,h1,h2 => by
   rw [lq,lq];by_cases k : p x = true
   ·rw [if_pos k,if_pos (h x k)];have C2 : y ∈ r := (aK.1 hy).resolve_left fun e => by rw [e,k] at h2; cases h2
    have ih := Lw h C2 h1 h2;simp; exact ih
   ·rw [if_neg k];rcases aK.1 hy with rfl | C2
    ·rw [if_pos h1];have := UC (L := r) h;simp; omega
    ·have ih := Lw h C2 h1 h2;split
     ·simp; omega
     ·exact ih
theorem aht {m : Nat} (hm : m < 18446744073709551616) {j : Nat} (h : m.testBit j = true) : j < 64 := by
 apply fc;intro k
 have : m.testBit j = false := py (fM hm (by
  rw [show (18446744073709551616 : Nat) = 2 ^ 64 from rfl];exact jK (by decide) (by omega)))
 rw [h] at this; cases this
theorem afT {a m : Nat} (hm : m < 18446744073709551616) (h : ∀ j,a.testBit j = true -> m.testBit j = true) {j : Nat} (h1 : m.testBit j = true) (h2 : a.testBit j = false) : jQ a < jQ m :=
 Lw h (List.mem_range.2 (aht hm h1)) h1 h2
theorem KK {a m : Nat} (hm : m < 18446744073709551616) (h : ∀ j,a.testBit j = true -> m.testBit j = true) (hl : a < m) : jQ a < jQ m := by
 apply fc;intro k
 have : a = m := Nat.eq_of_testBit_eq fun j => by
  cases e : m.testBit j with
  | false =>
    cases e2 : a.testBit j with
    | false => rfl
    | true => rw [h j e2] at e; cases e
  | true =>
    cases e2 : a.testBit j with
    | true => rfl
    | false => exact absurd (afT hm h e e2) k
 omega
theorem AJ (m : Nat) : jQ m <= 64 := by
 unfold jQ;have := List.length_filter_le (fun j => m.testBit j) (cH 64);rw [List.length_range] at this;exact this
theorem acL {A : List Nat} (hS : Small A) (hA : Sym A) (m0 : Nat) : ∀ (m n : Nat),m < 18446744073709551616 -> n + jQ m <= 64 -> (∀ j,m.testBit j = true -> j < A.length) -> BdI A m0 n m ->
  ∃ k,BdI A m0 k 0 /\ k <= 64 /\ aW au 0 (.loop Ua) ⟨[(0,.list 1 (us A)),(1,.int .u64 m),(5,.int .i64 n)],[]⟩ = some (.exit 0,⟨[(0,.list 1 (us A)),(1,.int .u64 (0 : Nat)),(5,.int .i64 k),(9,.bool false)],[]⟩) := by
 intro m
 induction m using Hi with
 | ind m ih =>
   intro n hm hn hr hb;by_cases h0 : m = 0
   ·subst h0;refine ⟨n,hb,by omega,?_⟩;exact bw (by unfold Ua; simp [Iv,Iu,It,Is,Ir,Iq,Ip,Io,Im,Il,fY,aN,aq,aM,bp,bV,an,ak,aj,af,aE,aL,bu,bq])
   ·have n0 : ¬ ((m : Int) = 0) := by omega
    obtain ⟨am,a1,a2,a3,a4,a5⟩ := aha hS hA m n m m hm hm hr (Wq A m);have a2 := a2 h0;have Jc := KK hm a3 a2;obtain ⟨k,b1,b2,b3⟩ := ih am a2 (n + 1) (by omega) (by omega) (fun j hj => hr j (a3 j hj)) (acT hb a4);refine ⟨k,b1,b2,(aY (s' := ⟨[(0,.list 1 (us A)),(1,.int .u64 am),(5,.int .i64 ((n + 1 : Nat) : Int))],[]⟩) ?_).trans b3⟩;have hw := eT (i := n) (by omega);clear ih hr hb a3 a4 b1 b2 b3 hS hA;generalize us A = AA at *;unfold Ua;simp [Iv,Iu,It,Is,Ir,Iq,Ip,Io,Im,Il,n0,h0,a5,hw,aN,aq,aM,bp,bV,an,ak,aj,af,aE,aL,bu,bq]
theorem WD {A : List Nat} (hS : Small A) (hA : Sym A) (m : Nat) (hm : m < 18446744073709551616) (hr : ∀ j,m.testBit j = true -> j < A.length) :
  ∃ k : Nat,k <= 64 /\ (∀ S,Kq A S -> Bl m S -> S.length <= k) /\ br au nQV [.list 1 (us A),.int .u64 m] [] = some (.int .i64 k,[]) := by
 obtain ⟨k,h1,h2,h3⟩ := acL hS hA m m 0 hm (by have := AJ m; omega) hr (aar A m);refine ⟨k,h2,fun S a b => ahd h1 a b,?_⟩;rw [aV oQV sQV (aD rfl)];unfold qQV cQV;rw [fY] at h3;generalize us A = AA at *;simp [Iv,Iu,It,Is,Ir,Iq,Ip,Io,Im,Il,h3,bu,bq]
/- What maxclique.longest returns: the greater one of what it is given and the size of a largest clique. -/
set_option maxHeartbeats 8000000
def W6 : AV := .func (.func nQT) [] [.ptr 1 0,.ptr 0 0,.ptr 2 0]
def lH (A : List Nat) (b : Int) : Heap := [some [.list 1 (us A)],some [.int .i64 b],some [W6]]
def lE (m : Nat) (s : Int) (x : Env) : Env := (0,.int .u64 (m : Nat)) :: (1,.int .i64 s) :: (2,.ptr 1 0) :: (3,.ptr 0 0) :: (4,.ptr 2 0) :: x
theorem agz (A : List Nat) (m : Nat) (s b : Int) : aW au 3 (.aO rK false [] [0,1,2,3,4]) ⟨lE m s [],lH A b⟩ = some (.normal,⟨lE m s [],lH A (W4 b s)⟩) := by
 unfold lE lH W6 W4;generalize us A = AA;generalize (m : Int) = X;by_cases k : b < s
 ·simp [rK,qM,p7,rJ,rI,rH,k,aN,aq,aM,bp,bV,an,ak,aj,af,aE,aL,bu,bq]
 ·simp [rK,qM,p7,rJ,rI,rH,k,aN,aq,aM,bp,bV,an,ak,aj,af,aE,aL,bu,bq]
theorem lg_z (A : List Nat) (s b : Int) : aW au 3 (.aO qM false [] [0,1,2,3,4,12]) ⟨lE 0 s [],lH A b⟩ = some (.normal,⟨lE 0 s [(12,.bool false)],lH A b⟩) := by
 unfold lE lH W6;generalize us A = AA;simp [rK,qM,p7,rJ,rI,rH,fY,aN,aq,aM,bp,bV,an,ak,aj,af,aE,aL,bu,bq]
theorem aep (A : List Nat) {m : Nat} (s b : Int) (h : m ≠ 0) : aW au 3 (.aO qM false [] [0,1,2,3,4,12]) ⟨lE m s [],lH A b⟩ = some (.normal,⟨lE m s [(12,.bool true)],lH A b⟩) := by
 have n0 : ¬ ((m : Int) = 0) := by omega
 unfold lE lH W6;generalize us A = AA;generalize (m : Int) = X at *;simp [rK,qM,p7,rJ,rI,rH,n0,aN,aq,aM,bp,bV,an,ak,aj,af,aE,aL,bu,bq]
theorem agA (A : List Nat) {m : Nat} (hm : m < 18446744073709551616) (s b : Int) (hs : 0 <= s /\ s <= 1000) (h : s + jQ m <= b) : aW au 3 (.aO p7 true [(5,5),(6,6),(13,13),(14,14),(0,2),(0,4),(1,4),(2,4),(3,4),(7,8),(8,9),(7,10),(7,12),(8,12),(9,12),(10,12),(11,12)] [0,1,2,3,4,27]) ⟨lE m s [(12,.bool true)],lH A b⟩ = some (.normal,⟨lE m s [(27,.bool true)],lH A b⟩) := by
 have on := Fy m hm;have hp := AJ m;have w : IntKind.i64.wrap (s + (jQ m : Int)) = s + jQ m := gK (by omega) (by omega);unfold lE lH W6;generalize us A = AA;generalize (m : Int) = X at *;generalize (jQ m : Int) = c at *;simp [rK,qM,p7,rJ,rI,rH,on,w,h,sQU,iQU,lQU,sQV,iQV,lQV,aN,aq,aM,bp,bV,an,ak,aj,af,aE,aL,bu,bq]
theorem agB (A : List Nat) {m : Nat} (hm : m < 18446744073709551616) (s b : Int) (hs : 0 <= s /\ s <= 1000) (h : ¬ s + jQ m <= b) {k : Nat} (hk : k <= 64) (hb : br au nQV [.list 1 (us A),.int .u64 m] [] = some (.int .i64 k,[])) : aW au 3 (.aO p7 true [(5,5),(6,6),(13,13),(14,14),(0,2),(0,4),(1,4),(2,4),(3,4),(7,8),(8,9),(7,10),(7,12),(8,12),(9,12),(10,12),(11,12)] [0,1,2,3,4,27]) ⟨lE m s [(12,.bool true)],lH A b⟩ = some (.normal,⟨lE m s [(27,.bool (decide (s + k <= b)))],lH A b⟩) := by
 have on := Fy m hm;have hp := AJ m;have w : IntKind.i64.wrap (s + (jQ m : Int)) = s + jQ m := gK (by omega) (by omega);have w2 : IntKind.i64.wrap (s + (k : Int)) = s + k := gK (by omega) (by omega);unfold lE lH W6;have lA := dv A;generalize us A = AA at *;generalize (m : Int) = X at *;generalize (jQ m : Int) = c at *;generalize (k : Int) = kk at *;simp [rK,qM,p7,rJ,rI,rH,on,w,w2,h,hb,sQU,iQU,lQU,sQV,iQV,lQV,aN,aq,aM,bp,bV,an,ak,aj,af,aE,aL,bu,bq]
theorem aiv (A : List Nat) {m : Nat} (h0 : m ≠ 0) (hm : m < 18446744073709551616) (s b : Int) : aW au 3 (.aO rJ false [] [0,1,2,3,4,7]) ⟨lE m s [(27,.bool false)],lH A b⟩ = some (.normal,⟨lE m s [(7,.int .i64 (tz m : Nat))],lH A b⟩) := by
 have ht := Dk m h0 hm;unfold lE lH W6;generalize us A = AA;generalize (m : Int) = X at *;simp [rK,qM,p7,rJ,rI,rH,ht,sQv,iQv,lQv,aN,aq,aM,bp,bV,an,ak,aj,af,aE,aL,bu,bq]
theorem aiu (A : List Nat) {m : Nat} (h0 : m ≠ 0) (hm : m < 18446744073709551616) (s b : Int) : aW au 3 (.aO rI false [] [0,1,2,3,4,7]) ⟨lE m s [(7,.int .i64 (tz m : Nat))],lH A b⟩ = some (.normal,⟨lE (wo m (tz m)) s [(7,.int .i64 (tz m : Nat))],lH A b⟩) := by
 obtain ⟨_,_,ht⟩ := jZ h0 hm;obtain ⟨s1,s2⟩ := Ml ht;have w1 := u64_andNot_nat m (2 ^ tz m) hm (MB ht);unfold lE lH W6 wo;generalize us A = AA;generalize (m &&& (18446744073709551615 - 2 ^ tz m) : Nat) = W at *;generalize (2 ^ tz m : Nat) = p at *;generalize tz m = t at *;generalize (m : Int) = X at *;have t0 : (0 : Int) <= t := by omega
 have t1 : (t : Int) < 64 := by omega
 have t2 : ¬ ((t : Int) < 0) := by omega
 simp [rK,qM,p7,rJ,rI,rH,s1,s2,w1,t0,t1,t2,IntKind.bits,km,aN,aq,aM,bp,bV,an,ak,aj,af,aE,aL,bu,bq]
theorem abI {A : List Nat} (hS : Small A) {w t : Nat} (hw : w < 18446744073709551616) (ht : t < A.length) {s b b2 : Int} (hs : 0 <= s /\ s <= 1000) (hc : br au nQT [.int .u64 (w &&& A.getD t 0 : Nat),.int .i64 (s + 1),.ptr 1 0,.ptr 0 0,.ptr 2 0] (lH A b) = some (.dB [],lH A b2)) : aW au 3 (.aO rH true [(9,9),(0,1),(0,2),(1,2),(0,3),(2,3),(0,4),(0,5),(1,5),(0,6),(0,7),(2,7),(5,7),(0,8),(2,8),(5,8)] [0,1,2,3,4]) ⟨lE w s [(7,.int .i64 (t : Nat))],lH A b⟩ = some (.normal,⟨lE w s [],lH A b2⟩) := by
 obtain ⟨r1,r2,r3⟩ := Xx ht;have w1 := u64_and_nat w (A.getD t 0) hw (iR hS t);have w2 : IntKind.i64.wrap (s + 1) = s + 1 := gK (by omega) (by omega);have lA := dv A;unfold lH W6 at *;unfold lE;generalize (w &&& A.getD t 0 : Nat) = W at *;generalize A.getD t 0 = r at *;generalize (w : Int) = X at *;have t0 : (0 : Int) <= t := by omega
 have t2 : ¬ ((t : Int) < 0) := by omega
 have t3 : (t : Int) < A.length := by omega
 generalize us A = AA at *;simp [rK,qM,p7,rJ,rI,rH,r1,r2,r3,w1,w2,lA,hc,t0,t2,t3,ht,ko,fQ,jt,dQ,l6,gg,fx,eL,kj,nN,sQT,iQT,lQT,km,aN,aq,aM,bp,bV,an,ak,aj,af,aE,aL,bu,bq]
/- maxclique.longest, by its regions. -/
theorem Gm (m : Nat) (s : Int) (x : Env) (i : Nat) (h : 4 < i) : bt au (lE m s x) (.t i) = eW i (Am.get x i) := by
 unfold lE bt;simp only [A9,if_neg (show i ≠ 0 by omega),if_neg (show i ≠ 1 by omega),if_neg (show i ≠ 2 by omega),if_neg (show i ≠ 3 by omega),if_neg (show i ≠ 4 by omega)]
def aet (m : Nat) (s : Int) : List AV := [.int .u64 (m : Nat),.int .i64 s,.ptr 1 0,.ptr 0 0,.ptr 2 0]
def U7 (A : List Nat) (m : Nat) (s b b' : Int) : Prop := (∃ m',aW au 3 (.loop F7) ⟨lE m s [],lH A b⟩ = some (.exit 0,⟨lE m' s [(27,.bool true)],lH A b'⟩)) \/ aW au 3 (.loop F7) ⟨lE m s [],lH A b⟩ = some (.exit 0,⟨lE 0 s [(12,.bool false)],lH A b'⟩)
theorem aeq {A : List Nat} {m : Nat} {s b b' : Int} (h : U7 A m s (W4 b s) b') : br au nQT (aet m s) (lH A b) = some (.dB [],lH A b') := by
 have h0 := agz A m s b;rw [aV oQT sQT (aD rfl)];unfold qQT cQT;show bu au _ _ 3 (aW au 3 _ ⟨lE m s [],lH A b⟩) = _;rw [cQ,kT,e9,cQ,h0,e9,cQ,kT,e9,sr];rcases h with ⟨m',h⟩ | h
 ·rw [h,GQ,if_pos rfl];unfold lE lH W6;generalize us A = AA;simp [rK,qM,p7,rJ,rI,rH,bu,bq,uk,jt,dQ,ko,fQ,fx,gg,l6]
 ·rw [h,GQ,if_pos rfl];unfold lE lH W6;generalize us A = AA;simp [rK,qM,p7,rJ,rI,rH,bu,bq,uk,jt,dQ,ko,fQ,fx,gg,l6]
theorem abH {A : List Nat} (hS : Small A) (hA : Sym A) : ∀ (m : Nat),m < 18446744073709551616 -> (∀ j,m.testBit j = true -> j < A.length) -> ∀ (s : Nat) (b : Int),(s : Int) <= b -> s + jQ m <= 1000 -> ∃ b',Rg A s m b b' /\ U7 A m s b b' := by
 intro m
 induction m using Hi with
 | ind m ih =>
   intro hm hr s b C3 hsm;by_cases h0 : m = 0
   ·subst h0;refine ⟨b,aaQ C3,.inr (bw ?_)⟩;unfold F7;rw [cQ,cQ,lg_z,e9,mN,Gm _ _ _ _ (by decide)];show uu au 3 _ (aW au 3 (.exit 0) _) = _;rw [yd,JW]
   ·have hs : (0 : Int) <= s /\ (s : Int) <= 1000 := by omega
    have stop : aW au 3 (.aO p7 true [(5,5),(6,6),(13,13),(14,14),(0,2),(0,4),(1,4),(2,4),(3,4),(7,8),(8,9),(7,10),(7,12),(8,12),(9,12),(10,12),(11,12)] [0,1,2,3,4,27]) ⟨lE m s [(12,.bool true)],lH A b⟩ = some (.normal,⟨lE m s [(27,.bool true)],lH A b⟩) -> U7 A m s b b := by
     intro e;refine .inl ⟨m,bw ?_⟩;unfold F7;rw [cQ,cQ,aep A s b h0,e9,mN,Gm _ _ _ _ (by decide)];show uu au 3 _ (aW au 3 .skip _) = _;rw [kT,e9,sr,cQ,cQ,e,e9,mN,Gm _ _ _ _ (by decide)];show WH 1 (uu au 3 _ (aW au 3 (.exit 0) _)) = _;rw [yd,JW,GQ,if_neg (by decide)]
    by_cases k1 : (s : Int) + jQ m <= b
    ·refine ⟨b,JZ fun S hK hI => ?_,stop (agA A hm s b hs k1)⟩;have := La hm hK hI;have e : ((cH 64).filter fun j => m.testBit j).length = jQ m := rfl;omega
    ·obtain ⟨k,q1,q2,q3⟩ := WD hS hA m hm hr;have e2 := agB A hm s b hs k1 q1 q3;by_cases k2 : (s : Int) + k <= b
     ·rw [decide_eq_true k2] at e2;refine ⟨b,JZ fun S hK hI => ?_,stop e2⟩;have := q2 S hK hI;omega
     ·rw [decide_eq_false k2] at e2;obtain ⟨_,_,ht⟩ := jZ h0 hm;obtain ⟨tb,_⟩ := qX h0 hm;have hwl := Q8 hm ht tb;have hw : wo m (tz m) < 18446744073709551616 := by omega
      have wb : ∀ j,(wo m (tz m)).testBit j = true -> m.testBit j = true := fun j hj => by
       rw [eU hm ht] at hj;simp only [ae] at hj;exact hj.1
      have rb : ∀ j,(wo m (tz m) &&& A.getD (tz m) 0).testBit j = true -> (wo m (tz m)).testBit j = true := fun j hj => by
       rw [bI] at hj;simp only [ae] at hj;exact hj.1
      have rl : wo m (tz m) &&& A.getD (tz m) 0 <= wo m (tz m) := gU;have p1 : jQ (wo m (tz m)) < jQ m := KK hm wb hwl;have p2 : jQ (wo m (tz m) &&& A.getD (tz m) 0) < jQ m := KK hm (fun j hj => wb j (rb j hj)) (by omega);obtain ⟨b2,g1,g2⟩ := ih (wo m (tz m) &&& A.getD (tz m) 0) (by omega) (by omega) (fun j hj => hr j (wb j (rb j hj))) (s + 1) (W4 b ((s + 1 : Nat) : Int)) (by unfold W4; split <;> omega) (by omega);have g1 := XB g1;have r9 : (s : Int) <= b2 := by have := g1.1; omega
      have hc := aeq g2;have es : ((s + 1 : Nat) : Int) = (s : Int) + 1 := by omega
      rw [es] at hc;obtain ⟨b3,f1,f2⟩ := ih (wo m (tz m)) hwl hw (fun j hj => hr j (wb j hj)) s b2 r9 (by omega)
      have step : aW au 3 F7 ⟨lE m s [],lH A b⟩ = some (.normal,⟨lE (wo m (tz m)) s [],lH A b2⟩) := by
       unfold F7;rw [cQ,cQ,aep A s b h0,e9,mN,Gm _ _ _ _ (by decide)];show uu au 3 _ (aW au 3 .skip _) = _;rw [kT,e9,sr,cQ,cQ,e2,e9,mN,Gm _ _ _ _ (by decide)];show WH 1 (uu au 3 _ (aW au 3 .skip _)) = _;rw [kT,e9,cQ,aiv A h0 hm,e9,cQ,aiu A h0 hm,e9,abI hS hw (hr _ tb) hs hc,aan]
      refine ⟨b3,aaR h0 hm g1 f1,?_⟩;unfold U7 at f2 ⊢;rw [aY step];exact f2
theorem vf {A : List Nat} (hS : Small A) (hA : Sym A) (m : Nat) (hm : m < 18446744073709551616) (hr : ∀ j,m.testBit j = true -> j < A.length) (least : Int) : ∃ r,Rg A 0 m least r /\ br au nQu [.list 1 (us A),.int .u64 m,.int .i64 least] [] = some (.int .i64 r,[]) := by
 obtain ⟨r,g1,g2⟩ := abH hS hA m hm hr 0 (W4 least ((0 : Nat) : Int)) (by unfold W4; split <;> omega) (by have := AJ m; omega);refine ⟨r,XB g1,?_⟩;have hc := aeq g2;rw [aV oQu sQu (aD rfl)];unfold qQu cQu;unfold aet lH W6 at hc;rw [fY] at hc;generalize us A = AA at *;generalize (m : Int) = X at *;simp [adj,adi,adh,adg,adf,ade,hc,ko,fQ,jt,dQ,l6,gg,fx,eL,kj,nN,sQT,iQT,lQT,bu,bq,aN]
/- What maxclique.masks returns. -/
theorem FQ (N : Nat) (hN : N <= 64) (Es : List Ed) (hE : Es.length < 4294967295) (hv : ∀ e ∈ Es,0 <= e.1 /\ e.1 < e.2 /\ e.2 < (N : Int)) : ∀ (k i : Nat) (A : List Nat),i + k = Es.length -> A.length = N -> Small A -> aW au 0 (.loop T5) ⟨[(3,.own 1 (us A)),(10,.list 2 (dO Es)),(11,.int .i64 Es.length),(12,.int .i64 i)],[]⟩ =
  some (.exit 0,⟨[(3,.own 1 (us (kC (Es.drop i) A))),(10,.list 2 (dO Es)),(11,.int .i64 Es.length),(12,.int .i64 Es.length),(13,.bool false)],[]⟩)
 | 0,i,A,hi,hA,hS => by
   obtain rfl : i = Es.length := by omega
   rw [List.drop_length];exact bw (by unfold T5; simp [RN,RM,RL,RK,RJ,RI,RH,RG,RF,kC,List.foldl_nil])
 | k + 1,i,A,hi,hA,hS => by
   have bL : i < Es.length := by omega
   have h1 : (i : Int) < Es.length := by omega
   have hw := eT (i := i) (by omega);obtain ⟨u0,uv,vn⟩ := hv Es[i] (List.getElem_mem bL);have ih := FQ N hN Es hE hv k (i + 1) (OI A Es[i]) (by omega) (by rw [th]; exact hA) (wK hS (by omega) (by omega));rw [List.drop_eq_getElem_cons bL];have v0 : 0 <= Es[i].2 := by omega
   have un : Es[i].1 < (N : Int) := by omega
   have u0' : ¬ Es[i].1 < 0 := by omega
   have v0' : ¬ Es[i].2 < 0 := by omega
   have uN : Es[i].1.toNat < N := by omega
   have vN : Es[i].2.toNat < N := by omega
   have pu := nD (v := Es[i].1) (by omega) u0;have pv := nD (v := Es[i].2) (by omega) v0;have su := Pr (v := Es[i].1) u0 (by omega);have sv := Pr (v := Es[i].2) v0 (by omega);have su' : IntKind.u64.wrap (2 ^ (min Es[i].1.toNat 64)) = ((2 ^ Es[i].1.toNat : Nat) : Int) := by rw [<- su,Dg]
   have sv' : IntKind.u64.wrap (2 ^ (min Es[i].2.toNat 64)) = ((2 ^ Es[i].2.toNat : Nat) : Int) := by rw [<- sv,Dg]
   have gu : (us A)[Es[i].1.toNat]? = some (.int .u64 (A.getD Es[i].1.toNat 0 : Nat)) := by
    rw [pB,aI,aB (by omega)]; rfl
   have xu := iR hS Es[i].1.toNat;have ou := u64_or_nat (A.getD Es[i].1.toNat 0) (2 ^ Es[i].2.toNat) xu pv;have eu := xn A Es[i].1.toNat (A.getD Es[i].1.toNat 0 ||| 2 ^ Es[i].2.toNat);have sm : Small (A.set Es[i].1.toNat (A.getD Es[i].1.toNat 0 ||| 2 ^ Es[i].2.toNat)) := rA hS (Hj (n := 64) xu pv);have eln : (A.set Es[i].1.toNat (A.getD Es[i].1.toNat 0 ||| 2 ^ Es[i].2.toNat)).length = N := by rw [List.length_set]; exact hA
   have ead : kC (Es[i] :: Es.drop (i + 1)) A = kC (Es.drop (i + 1)) (OI A Es[i]) := rfl;rw [ead];have eA : OI A Es[i] = (A.set Es[i].1.toNat (A.getD Es[i].1.toNat 0 ||| 2 ^ Es[i].2.toNat)).set Es[i].2.toNat ((A.set Es[i].1.toNat (A.getD Es[i].1.toNat 0 ||| 2 ^ Es[i].2.toNat)).getD Es[i].2.toNat 0 ||| 2 ^ Es[i].1.toNat) := rfl;rw [eA] at ih ⊢;generalize hA1 : A.set Es[i].1.toNat (A.getD Es[i].1.toNat 0 ||| 2 ^ Es[i].2.toNat) = A1 at *
   have gv : (us A1)[Es[i].2.toNat]? = some (.int .u64 (A1.getD Es[i].2.toNat 0 : Nat)) := by
    rw [pB,aI,aB (by omega)]; rfl
   have ov := u64_or_nat (A1.getD Es[i].2.toNat 0) (2 ^ Es[i].1.toNat) (iR sm _) pu;have ev := xn A1 Es[i].2.toNat (A1.getD Es[i].2.toNat 0 ||| 2 ^ Es[i].1.toNat);generalize A1.getD Es[i].2.toNat 0 ||| 2 ^ Es[i].1.toNat = q at *
   generalize A.getD Es[i].1.toNat 0 ||| 2 ^ Es[i].2.toNat = p at *
   generalize A1.getD Es[i].2.toNat 0 = y at *;generalize A.getD Es[i].1.toNat 0 = x at *;generalize 2 ^ Es[i].1.toNat = pU at *;generalize 2 ^ Es[i].2.toNat = pV at *;clear pu pv xu sm eA ead hA1;have gu' : ∀ h : Es[i].1.toNat < (us A).length,(us A)[Es[i].1.toNat] = .int .u64 (x : Int) := fun h => by rw [aB h] at gu; exact dn gu
   have gv' : ∀ h : Es[i].2.toNat < (us A1).length,(us A1)[Es[i].2.toNat] = .int .u64 (y : Int) := fun h => by rw [aB h] at gv; exact dn gv
   refine (aY (s' := ⟨[(3,.own 1 (us (A1.set Es[i].2.toNat q))),(10,.list 2 (dO Es)),(11,.int .i64 Es.length),(12,.int .i64 ((i + 1 : Nat) : Int))],[]⟩) ?_).trans ih;have g1 : (dO Es)[i]? = some (.agg [.int .i64 Es[i].1,.int .i64 Es[i].2]) := by rw [aM,aB bL]; rfl
   have g2 : ∀ h,(dO Es)[i]'h = .agg [.int .i64 Es[i].1,.int .i64 Es[i].2] := fun h => bp ..;have g5 := aq Es;have vN' : Es[i].2 < (N : Int) := vn;unfold T5;simp [RN,RM,RL,RK,RJ,RI,RH,RG,RF,h1,bL,hw,u0,v0,u0',v0',un,vn,uv,uN,vN,su,sv,su',sv',gu,gv,gu',gv',g1,g2,g5,ou,ov,eu,ev,hA,eln,dv,idx,IntKind.bits,fz,pl,AV.leaf,aN]
theorem IX {N : Nat} {Es : List Ed} (h : ke (N : Int) Es) (hE : Es.length < 4294967295) : br au nQt [.agg [.int .i64 N,.list 2 (dO Es)]] [] = some (.list 1 (us (cU N Es)),[]) := by
 have hn : N <= 64 := by have := h.1; omega
 have hl := FQ N hn Es hE h.2.2 Es.length 0 (aF N 0) (by omega) (by simp) (fun x hx => by have := List.eq_of_mem_replicate hx; omega);rw [fY,List.drop_zero] at hl;have r1 : aF N (AV.int .u64 0) = us (aF N 0) := Pd N;have n0 : ¬ (N : Int) < 0 := by omega
 have nL : (N : Int) <= 4294967296 := by omega
 have m1 : max (N : Int) 0 = (N : Int) := by omega
 have m2 : ¬ (64 : Int) < N := by omega
 have ea : kC Es (aF N 0) = cU N Es := rfl;rw [ea] at hl;have tk : (us (cU N Es)).take (cU N Es).length = us (cU N Es) := by rw [JS,dW]
 have e := (iG h).1
 have tkr : (us (aF N 0)).take N = us (aF N 0) := by
  have := dW (l := us (aF N 0))
  rwa [dv,bW] at this
 rw [e] at tk;have g5 := aq Es;rw [aV oQt sQt (aD rfl)];unfold qQt cQt;generalize dO Es = Y at *;simp [RN,RM,RL,RK,RJ,RI,RH,RG,RF,hl,r1,tkr,e,bW,n0,nL,m1,m2,dv,tk,g5,lj,aN,gz,pl,bu,bq]
end Go.BmP
