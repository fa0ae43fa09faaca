/- Bipartite graphs as bits: plain facts. -/
import Derived.Test.YteomjfokokneoaaDoorGrfP
import Derived.Test.YteomjfokokneoaaDoorUseM
import Derived.Test.YteomjfokokneoaaDoorCfS
import Derived.Test.YteomjfokokneoaaDoorR02d
set_option linter.unusedVariables false
set_option linter.unusedSimpArgs false
open Bool renaming and_eq_true → ab, eq_iff_iff → gP
open List renaming all_eq_true → jc, append_assoc → du, drop_eq_getElem_cons → aZ, drop_length → bz, drop_zero → bX, ext_getElem? → cY, getD_eq_getElem?_getD → cM, getElem?_eq_getElem → aI, getElem?_eq_none → c9, getElem?_map → df, getElem?_replicate → fW, getElem?_set → bj, getElem_mem → ed, length_append → bu, length_cons → c8, length_drop → cB, length_nil → dP, length_singleton → hD, length_take → bg, map_cons → iY, mem_cons → aJ, range → pN, replicate → cK, singleton_append → nX, take_of_length_le → bL, take_take → ya
open Nat renaming le_of_ble_eq_true → an, lt_of_le_of_lt → lC, min_self → GH, or_lt_two_pow → GG, testBit_and → xY, testBit_two_pow → Vl, zero_add → fD
open Option renaming getD_some → jJ
namespace Go.Bm
open Go.Am
def us (l : List Nat) : List AV := l.map fun n => .int .u64 ((n : Nat) : Int)
theorem ko (l : List Nat) : (us l).length = l.length := List.length_map _
theorem Ji (l : List Nat) (i : Nat) : (us l)[i]? = (l[i]?).map (fun n => .int .u64 ((n : Nat) : Int)) := df
theorem usAt (l : List Nat) (i : Nat) (h : i < (us l).length) : (us l)[i] = .int .u64 ((l[i]'(by simpa [us] using h) : Nat) : Int) := by simp [us]
theorem VC (l : List Nat) (i n : Nat) : (us l).set i (.int .u64 (n : Int)) = us (l.set i n) := by simp [us,List.map_set]
theorem acI (n : Nat) : cK n (AV.int .u64 0) = us (cK n 0) := by simp [us]
theorem iX (l : List Nat) : fj (us l) = true := by
 induction l with
 | nil => rfl
 | cons x r ih => simp only [us,iY,fj,clean] at ih ⊢; rw [ih]; rfl
theorem Zu (l : List Nat) (n : Nat) : (us l).take n = us (l.take n) := by simp [us]
def Small (A : List Nat) : Prop := ∀ x ∈ A,x < 18446744073709551616
theorem pf {v : Int} (h : v < 64) (h0 : 0 <= v) : 2 ^ v.toNat < 18446744073709551616 := by
 have := Nat.pow_lt_pow_right (a := 2) (by decide) (show v.toNat < 64 by omega);exact this
def Y4 (A : List Nat) (e : Ed) : List Nat :=
 (A.set e.1.toNat (A.getD e.1.toNat 0 ||| 2 ^ e.2.toNat)).set e.2.toNat ((A.set e.1.toNat (A.getD e.1.toNat 0 ||| 2 ^ e.2.toNat)).getD e.2.toNat 0 ||| 2 ^ e.1.toNat)
theorem Gy (A : List Nat) (e : Ed) : (Y4 A e).length = A.length := by simp [Y4]
theorem od {A : List Nat} (h : Small A) (i : Nat) : A.getD i 0 < 18446744073709551616 := by
 rw [cM];cases e : A[i]? with
 | none => simp
 | some x => exact h x (List.mem_of_getElem? e)
theorem Aw {A : List Nat} (h : Small A) {i n : Nat} (hn : n < 18446744073709551616) : Small (A.set i n) := by
 intro x hx;rcases List.mem_or_eq_of_mem_set hx with h1 | h1
 ·exact h x h1
 ·omega
theorem I9 {A : List Nat} (h : Small A) {e : Ed} (h1 : 0 <= e.1 /\ e.1 < 64) (h2 : 0 <= e.2 /\ e.2 < 64) : Small (Y4 A e) := by
 have s1 : Small (A.set e.1.toNat (A.getD e.1.toNat 0 ||| 2 ^ e.2.toNat)) := Aw h (GG (n := 64) (od h _) (pf h2.2 h2.1));exact Aw s1 (GG (n := 64) (od s1 _) (pf h1.2 h1.1))
theorem abB {A : List Nat} {e : Ed} (h1 : 0 <= e.1 /\ e.1.toNat < A.length) (h2 : 0 <= e.2 /\ e.2.toNat < A.length) (sZ : e.1 ≠ e.2) (a b : Nat) : ((Y4 A e).getD a 0).testBit b = ((A.getD a 0).testBit b || (decide ((a : Int) = e.1 /\ (b : Int) = e.2) || decide ((a : Int) = e.2 /\ (b : Int) = e.1))) := by
 have hn : e.1.toNat ≠ e.2.toNat := by omega
 unfold Y4;simp only [cM,bj,List.length_set,if_neg hn,if_neg (Ne.symm hn)];by_cases ha : e.2.toNat = a
 ·subst ha;rw [if_pos rfl,if_pos h2.2];simp only [jJ,Nat.testBit_or,Vl];congr 1;have e1 : ¬ ((e.2.toNat : Int) = e.1) := by omega
  have e2 : ((e.2.toNat : Int) = e.2) := by omega
  have e3 : ¬ (e.2 = e.1) := fun k => sZ k.symm;simp only [e1,e2,e3,false_and,true_and,decide_false,Bool.false_or];rw [gP,decide_eq_true_eq,decide_eq_true_eq]; omega
 ·rw [if_neg ha];have e2 : ¬ ((a : Int) = e.2) := by omega
  by_cases hb : e.1.toNat = a
  ·subst hb;rw [if_pos rfl,if_pos h1.2];simp only [jJ,Nat.testBit_or,Vl];congr 1;have e1 : ((e.1.toNat : Int) = e.1) := by omega
   have e3 : ¬ (e.1 = e.2) := sZ;simp only [e1,e2,e3,false_and,true_and,decide_false,Bool.or_false];rw [gP,decide_eq_true_eq,decide_eq_true_eq];omega
  ·rw [if_neg hb];have e1 : ¬ ((a : Int) = e.1) := by omega
   simp [e1,e2]
def vj (l : List Ed) (A : List Nat) : List Nat := l.foldl Y4 A
theorem Gx (N : Nat) (hN : N <= 64) : ∀ (l : List Ed) (A : List Nat),A.length = N -> Small A -> (∀ e ∈ l,0 <= e.1 /\ e.1 < e.2 /\ e.2 < (N : Int)) -> (vj l A).length = N /\ Small (vj l A) /\ ∀ a b : Nat,((vj l A).getD a 0).testBit b = ((A.getD a 0).testBit b || (decide (((a : Int),(b : Int)) ∈ l) || decide (((b : Int),(a : Int)) ∈ l)))
 | [],A,hl,hs,_ => ⟨hl,hs,fun a b => by simp [vj]⟩
 | e :: r,A,hl,hs,h => by
   have he := h e (by simp);obtain ⟨i1,i2,i3⟩ := Gx N hN r (Y4 A e) (by rw [Gy]; exact hl) (I9 hs (by omega) (by omega)) (fun x hx => h x (by simp [hx]));refine ⟨i1,i2,fun a b => ?_⟩;show ((vj r (Y4 A e)).getD a 0).testBit b = _;rw [i3,abB (by omega) (by omega) (by omega)];rw [gP];simp only [Bool.or_eq_true,decide_eq_true_eq,aJ,Prod.ext_iff];constructor
   ·rintro ((h | (h | h)) | (h | h))
    ·exact .inl h
    ·exact .inr (.inl (.inl h))
    ·exact .inr (.inr (.inl ⟨h.2,h.1⟩))
    ·exact .inr (.inl (.inr h))
    ·exact .inr (.inr (.inr h))
   ·rintro (h | ((h | h) | (h | h)))
    ·exact .inl (.inl h)
    ·exact .inl (.inr (.inl h))
    ·exact .inr (.inl h)
    ·exact .inl (.inr (.inr ⟨h.2,h.1⟩))
    ·exact .inr (.inr h)
def pW (A : List Nat) (side : Nat) (l : List Int) : Nat := l.foldl (fun s v => s &&& A.getD v.toNat 0) side
theorem FQ (A : List Nat) : ∀ (l : List Int) (side j : Nat),(pW A side l).testBit j = (side.testBit j && l.all fun v => (A.getD v.toNat 0).testBit j)
 | [],side,j => by simp [pW]
 | v :: r,side,j => by
   have ih := FQ A r (side &&& A.getD v.toNat 0) j;unfold pW at ih ⊢;rw [List.foldl_cons,ih,xY,List.all_cons,Bool.and_assoc]
theorem J6 (A : List Nat) : ∀ (l : List Int) (side : Nat),pW A side l <= side
 | [],side => Nat.le_refl _
 | v :: r,side => Nat.le_trans (J6 A r _) Nat.and_le_left
structure kj (N : Nat) (E : List Ed) (L : List Int) : Prop where
 n : N <= 64
 e : Kt E /\ ∀ e ∈ E,0 <= e.1 /\ e.1 < e.2 /\ e.2 < (N : Int)
 l : Up L /\ ∀ x ∈ L,0 <= x /\ x < (N : Int)
 s : ∀ e ∈ E,e.1 ∈ L ↔ ¬ e.2 ∈ L
def jn (E : List Ed) (a b : Int) : Prop := (a,b) ∈ E \/ (b,a) ∈ E
instance (E : List Ed) (a b : Int) : Decidable (jn E a b) := by unfold jn; infer_instance
theorem Xx {N : Nat} {E : List Ed} {L : List Int} (h : kj N E L) (a b : Int) : jn E a b ↔ kC a b ∈ E := by
 unfold jn kC;by_cases h1 : a < b
 ·have h2 : ¬ b < a := by omega
  simp only [h1,h2,if_true,if_false];constructor
  ·rintro (k | k)
   ·exact k
   ·have := h.e.2 _ k; simp at this; omega
  ·exact .inl
 ·by_cases h2 : b < a
  ·simp only [h1,h2,if_true,if_false];constructor
   ·rintro (k | k)
    ·have := h.e.2 _ k; simp at this; omega
    ·exact k
   ·exact .inr
  ·have : a = b := by omega
   subst this;simp
def cU (N : Nat) (E : List Ed) : List Nat := vj E (cK N 0)
theorem eJ {N : Nat} {E : List Ed} {L : List Int} (h : kj N E L) : (cU N E).length = N /\ Small (cU N E) /\ ∀ a b : Nat,((cU N E).getD a 0).testBit b = decide (jn E a b) := by
 obtain ⟨h1,h2,h3⟩ := Gx N h.n E (cK N 0) (by simp) (fun x hx => by have := List.eq_of_mem_replicate hx; omega) h.e.2;refine ⟨h1,h2,fun a b => ?_⟩;unfold cU;rw [h3]
 have e : (cK N 0).getD a 0 = 0 := by
  rw [cM,fW]; split <;> rfl
 rw [e,Nat.zero_testBit,Bool.false_or,gP,decide_eq_true_eq];simp [jn]
def xf (N : Nat) (L : List Int) : Nat := (2 ^ N - 1) &&& (18446744073709551615 - ei L)
theorem QC {N : Nat} {L : List Int} (hN : N <= 64) (hL : ∀ x ∈ L,0 <= x /\ x < (N : Int)) (j : Nat) : (xf N L).testBit j = (decide (j < N) && !decide ((j : Int) ∈ L)) := by
 have hm : ei L < 2 ^ 64 := fM fun v hv => by have := hL v hv; omega
 unfold xf;rw [xY,Nat.testBit_two_pow_sub_one,show 18446744073709551615 - ei L = 2 ^ 64 - (ei L + 1) by omega,Nat.testBit_two_pow_sub_succ hm,fV (fun v hv => (hL v hv).1)];by_cases h : j < N
 ·simp [h,show j < 64 by omega]
 ·simp [h]
theorem DA (N : Nat) (L : List Int) : xf N L < 18446744073709551616 := lC Nat.and_le_right (by omega)
def cR (N : Nat) (E : List Ed) (L S : List Int) : Nat := pW (cU N E) (xf N L) (gN (ei S))
def cL (N : Nat) (E : List Ed) (L : List Int) (r : Nat) : Nat := pW (cU N E) (ei L) (gN r)
def dO (N : Nat) (E : List Ed) (L S : List Int) : List Int := gN (cR N E L S)
def iL (N : Nat) (E : List Ed) (L S : List Int) : List Int := gN (cL N E L (cR N E L S))
theorem Aa (N : Nat) (E : List Ed) (L S : List Int) : cR N E L S < 18446744073709551616 := lC (J6 _ _ _) (DA N L)
theorem YI {N : Nat} {E : List Ed} {L : List Int} (h : kj N E L) (r : Nat) : cL N E L r < 18446744073709551616 := lC (J6 _ _ _) (fM fun v hv => by have := h.l.2 v hv; have := h.n; omega)
theorem jH {N : Nat} {E : List Ed} {L S : List Int} (h : kj N E L) (hu : Up S) (hS : ∀ x ∈ S,x ∈ L) (x : Int) : x ∈ dO N E L S ↔ (0 <= x /\ x < (N : Int)) /\ x ∉ L /\ ∀ s ∈ S,jn E s x := by
 have hn := h.n;have hb : ∀ v ∈ S,0 <= v /\ v < 64 := fun v hv => by have := h.l.2 v (hS v hv); omega
 unfold dO cR;rw [gM,jZ hu hb];simp only [FQ,QC h.n h.l.2,ab,decide_eq_true_eq,jc,Bool.not_eq_true',decide_eq_false_iff_not]
 have key : ∀ (j : Nat),(∀ s ∈ S,((cU N E).getD s.toNat 0).testBit j = true) ↔ ∀ s ∈ S,jn E s j := fun j => by
  constructor
  ·intro k s hs;have := k s hs;rw [(eJ h).2.2,decide_eq_true_eq] at this;have := hb s hs
   rwa [show ((s.toNat : Nat) : Int) = s by omega] at *
  ·intro k s hs;rw [(eJ h).2.2,decide_eq_true_eq];have := hb s hs;rw [show ((s.toNat : Nat) : Int) = s by omega];exact k s hs
 constructor
 ·rintro ⟨j,rfl,_,⟨h1,h2⟩,h3⟩;exact ⟨by omega,h2,(key j).1 h3⟩
 ·rintro ⟨⟨h1,h2⟩,h3,h4⟩;have e : ((x.toNat : Nat) : Int) = x := by omega
  exact ⟨x.toNat,e.symm,by omega,⟨by omega,by rw [e]; exact h3⟩,(key x.toNat).2 (by rw [e]; exact h4)⟩
theorem oe {N : Nat} {E : List Ed} {L S : List Int} (h : kj N E L) (x : Int) : x ∈ iL N E L S ↔ x ∈ L /\ ∀ s ∈ dO N E L S,jn E s x := by
 have hn := h.n
 have hb : ∀ v ∈ dO N E L S,0 <= v /\ v < 64 := fun v hv => by
  obtain ⟨j,rfl,hj,_⟩ := gM.1 hv; omega
 unfold iL cL;rw [gM];show (∃ j : Nat,x = j /\ j < 64 /\ (pW (cU N E) (ei L) (dO N E L S)).testBit j = true) ↔ _;simp only [FQ,fV (fun v hv => (h.l.2 v hv).1),ab,decide_eq_true_eq,jc]
 have key : ∀ (j : Nat),(∀ s ∈ dO N E L S,((cU N E).getD s.toNat 0).testBit j = true) ↔ ∀ s ∈ dO N E L S,jn E s j := fun j => by
  constructor
  ·intro k s hs;have := k s hs;rw [(eJ h).2.2,decide_eq_true_eq] at this;have := hb s hs
   rwa [show ((s.toNat : Nat) : Int) = s by omega] at *
  ·intro k s hs;rw [(eJ h).2.2,decide_eq_true_eq];have := hb s hs;rw [show ((s.toNat : Nat) : Int) = s by omega];exact k s hs
 constructor
 ·rintro ⟨j,rfl,_,h1,h2⟩;exact ⟨h1,(key j).1 h2⟩
 ·rintro ⟨h1,h2⟩;have hx := h.l.2 x h1;have e : ((x.toNat : Nat) : Int) = x := by omega
  exact ⟨x.toNat,e.symm,by omega,by rw [e]; exact h1,(key x.toNat).2 (by rw [e]; exact h2)⟩
end Go.Bm
/- What functions of cohesionmake return: Few, New, Mod, Next, Set. -/
set_option maxRecDepth 100000
set_option maxHeartbeats 4000000
namespace Go.BmP
open Go.Am Go.Bm
theorem Mr (n : Nat) : (n + 1 <= n) ↔ False := ⟨fun h => by omega,False.elim⟩
theorem aaL (l : List Int) : bk aA nJb [.list 1 (ints l)] [] = some (.bool (decide ((l.length : Int) <= 500)),[]) := by
 rw [aM oJb sJb (an rfl)];unfold qJb cJb;simp [abM,abL,aH,ai,au,aG,aT,af,ah,ae,aa,ak,az,aP,aK]
def dk (l : List Int) (at_ : Nat) : Ql := some [.list 1 (ints l),.int .i64 at_]
theorem aav (x k : Int) (h0 : 0 < k) (h1 : k < 4611686018427387904) : (IntKind.i64.wrap (x.tmod k + k)).tmod k = x % k := by
 have e : x % k = (x.tmod k) % k := by
  have := Int.mul_tdiv_add_tmod x k
  conv => lhs; rw [<- this]
  rw [Int.add_comm,Int.add_mul_emod_self_left]
 have h2 := Int.tmod_lt_of_pos x h0
 have h3 : -k < x.tmod k := by
  have := Int.tmod_lt_of_pos (-x) h0;rw [Int.neg_tmod] at this;omega
 rw [yj (by omega) (by omega),Int.tmod_eq_emod_of_nonneg (by omega),e,Int.add_emod_right]
theorem Xi (x k : Int) (h0 : 0 < k) (h1 : k < 4611686018427387904) : bk aA nJU [.int .i64 x,.int .i64 k] [] = some (.int .i64 (x % k),[]) := by
 rw [aM oJU sJU (an rfl),<- aav x k h0 h1];have hk : ¬ k = 0 := by omega
 unfold qJU cJU;simp [abT,abS,hk,aH,ai,au,aG,aT,af,ah,ae,aa,ak,az,aP,aK]
def Ug (l : List Int) (a : Nat) (n : Int) : Int := if n < 1 then 0 else if l.length <= a then 0 else l.getD a 0 % n
def Vt (l : List Int) (a : Nat) (n : Int) : Nat := if n < 1 then a else if l.length <= a then a else a + 1
theorem adD (l : List Int) (a : Nat) {n : Int} (h : 1 <= n) : 0 <= Ug l a n /\ Ug l a n < n := by
 unfold Ug;rw [if_neg (by omega)];split
 ·omega
 ·exact ⟨Int.emod_nonneg _ (by omega),Int.emod_lt_of_pos _ (by omega)⟩
def Rest (R : Heap) : Prop := (∀ g,ft g R = R) /\ gj R = true /\ (∀ p b,YL p b R = none) /\ (∀ f,Gp f R = false) /\ ∀ p b,oV p b R = []
theorem Uh (l : List Int) (hl : l.length <= 500) (a : Nat) (n : Int) (hn : n < 4611686018427387904) (R : Heap) (hR : Rest R) : bk aA Ui [.ptr 0 0,.int .i64 n] (dk l a :: R) = some (.int .i64 (Ug l a n),dk l (Vt l a n) :: R) := by
 obtain ⟨r1,r2,r3,r4,r5⟩ := hR;rw [aM oJr ZD (an rfl)];unfold qJr cJr Ug Vt dk;by_cases h0 : n < 1
 ·simp [Q9,Q8,Q7,Q6,Q5,Q4,h0,mS,js,oq,r1,r2,r3,r4,r5,Mr,aH,ai,au,aG,aT,af,ah,ae,aa,ak,az,aP,aK]
 ·have h0' : ¬ n < 1 := h0;by_cases h1 : l.length <= a
  ·have Vy : (l.length : Int) <= a := by omega
   simp [Q9,Q8,Q7,Q6,Q5,Q4,h0,h1,Vy,mS,js,oq,r1,r2,r3,r4,r5,Mr,aH,ai,au,aG,aT,af,ah,ae,aa,ak,az,aP,aK]
  ·have Vy : ¬ (l.length : Int) <= a := by omega
   have h2 : a < l.length := by omega
   have h2' : (a : Int) < l.length := by omega
   have hw := fm (i := a) (by omega);have hm := Xi l[a] n (by omega) hn;simp [Q9,Q8,Q7,Q6,Q5,Q4,h0,h1,Vy,h2,h2',hw,hm,idx,sJU,iJU,lJU,mS,js,oq,r1,r2,r3,r4,r5,Mr,aH,ai,au,aG,aT,af,ah,ae,aa,ak,az,aP,aK]
theorem uF (l : List Int) (hl : l.length <= 500) (a : Nat) (n : Int) (hn : n < 4611686018427387904) (R : Heap) (hR : Rest R) : bk aA Ui [.ptr 0 0,.int .i64 n] [dk l a] = some (.int .i64 (Ug l a n),[dk l (Vt l a n)]) := Uh l hl a n hn [] ⟨fun _ => rfl,rfl,fun _ _ => rfl,fun _ => rfl,fun _ _ => rfl⟩
theorem Du (l : List Int) (hl : l.length <= 500) (N : Nat) (hN : N <= 64) (R : Heap) (hR : Rest R) : ∀ (k v a : Nat) (o : List Int),v + k = N -> o.length <= v -> Up o -> (∀ x ∈ o,0 <= x /\ x < (v : Int)) -> ∃ o' a',aU aA (R.length + 1) (.loop MR) ⟨[(0,.ptr 0 0),(1,.int .i64 N),(5,.own 1 (ints o)),(6,.int .i64 v)],dk l a :: R⟩ = some (.exit 0,⟨[(0,.ptr 0 0),(1,.int .i64 N),(5,.own 1 (ints o')),(6,.int .i64 N),(9,.bool false)],dk l a' :: R⟩) /\ (o'.length <= N /\ Up o' /\ ∀ x ∈ o',0 <= x /\ x < (N : Int))
 | 0,v,a,o,hi,ho,hu,hb => by
   obtain rfl : v = N := by omega
   exact ⟨o,a,bC (by unfold MR dk; simp [LD,LC,LB,LA,Lx,Lw,Lv,Lu,Mr,aH,ai,au,aG,aT,af,ah,ae,aa,ak,az,aP,aK]),ho,hu,hb⟩
 | k + 1,v,a,o,hi,ho,hu,hb => by
   have h1 : (v : Int) < N := by omega
   have hw := fm (i := v) (by omega);have hL : o.length + 1 <= 4294967296 := by omega
   have hx := uF l hl a 2 (by omega) R hR;obtain ⟨r1,r2,r3,r4,r5⟩ := hR;unfold dk at hx;by_cases he : Ug l a 2 = 1
   ·obtain ⟨o',a',e,p⟩ := Du l hl N hN R ⟨r1,r2,r3,r4,r5⟩ k (v + 1) (Vt l a 2) (o ++ [(v : Int)]) (by omega) (by simp; omega) (by
     unfold Up; rw [List.pairwise_append];exact ⟨hu,by simp,fun x hx y hy => by simp at hy; subst hy; exact (hb x hx).2⟩) (fun x hx => by
     rcases List.mem_append.1 hx with hx | hx
     ·have := hb x hx; omega
     ·simp at hx; omega)
    exact ⟨o',a',(ba (by unfold MR dk; simp [LD,LC,LB,LA,Lx,Lw,Lv,Lu,h1,hw,hL,hx,he,lz,ez,bR,ZD,iJr,lJr,r1,r2,r3,r4,r5,js,fx,gj,cz,jP,eC,dT,Mr,aH,ai,au,aG,aT,af,ah,ae,aa,ak,az,aP,aK])).trans e,p⟩
   ·obtain ⟨o',a',e,p⟩ := Du l hl N hN R ⟨r1,r2,r3,r4,r5⟩ k (v + 1) (Vt l a 2) o (by omega) (by omega) hu (fun x hx => by have := hb x hx; omega);exact ⟨o',a',(ba (by unfold MR dk; simp [LD,LC,LB,LA,Lx,Lw,Lv,Lu,h1,hw,hL,hx,he,lz,ez,bR,ZD,iJr,lJr,r1,r2,r3,r4,r5,js,fx,gj,cz,jP,eC,dT,Mr,aH,ai,au,aG,aT,af,ah,ae,aa,ak,az,aP,aK])).trans e,p⟩
theorem CP (l : List Int) (hl : l.length <= 500) (N : Nat) (hN : N <= 64) (R : Heap) (hR : Rest R) (a : Nat) : ∃ o a',bk aA W8 [.ptr 0 0,.int .i64 N] (dk l a :: R) = some (.list 1 (ints o),dk l a' :: R) /\ (o.length <= N /\ Up o /\ ∀ x ∈ o,0 <= x /\ x < (N : Int)) := by
 obtain ⟨o,a',e,p⟩ := Du l hl N hN R hR N 0 a [] (by omega) (by simp) (by simp [Up]) (by simp);refine ⟨o,a',?_,p⟩;rw [jj,cD] at e;obtain ⟨r1,r2,r3,r4,r5⟩ := hR;rw [aM oJg sJg (an rfl)];unfold dk at e ⊢;unfold qJg cJg;simp [LD,LC,LB,LA,Lx,Lw,Lv,Lu,e,bR,mS,js,oq,r1,r2,r3,r4,r5,Mr,aH,ai,au,aG,aT,af,ah,ae,aa,ak,az,aP,aK]
/- What functions of cohesionref03 return: Before, edge, ends, with, Of, Check. -/
theorem Gi (a b : Ed) : bk aA nJ2 [.agg [.int .i64 a.1,.int .i64 a.2],.agg [.int .i64 b.1,.int .i64 b.2]] [] = some (.bool (decide (BV a b)),[]) := by
 rw [aM oJ2 sJ2 (an rfl)];unfold qJ2 cJ2 BV;by_cases h1 : a.1 < b.1
 ·simp [Ma,L9,h1,aH,ai,au,aG,aT,af,ah,ae,aa,ak,az,aP,aK]
 ·by_cases h2 : a.1 = b.1
  ·by_cases h3 : a.2 < b.2
   ·simp [Ma,L9,h1,h2,h3,aH,ai,au,aG,aT,af,ah,ae,aa,ak,az,aP,aK]
   ·simp [Ma,L9,h1,h2,h3,aH,ai,au,aG,aT,af,ah,ae,aa,ak,az,aP,aK]
  ·simp [Ma,L9,h1,h2,aH,ai,au,aG,aT,af,ah,ae,aa,ak,az,aP,aK]
theorem NC (u v : Int) : bk aA nJZ [.int .i64 u,.int .i64 v] [] = some (.agg [.int .i64 (kC u v).1,.int .i64 (kC u v).2],[]) := by
 rw [aM oJZ sJZ (an rfl)];unfold qJZ cJZ kC;simp [abO,abN,aH,ai,au,aG,aT,af,ah,ae,aa,ak,az,aP,aK]
theorem Yn (n u v : Int) : bk aA nJX [.int .i64 n,.int .i64 u,.int .i64 v] [] = some (.bool (decide (0 <= u /\ 0 <= v /\ u < n /\ v < n /\ u ≠ v)),[]) := by
 rw [aM oJX sJX (an rfl)];unfold qJX cJX;by_cases h1 : 0 <= u
 ·by_cases h2 : 0 <= v
  ·by_cases h3 : u < n
   ·by_cases h4 : v < n
    ·by_cases h5 : u = v
     ·subst h5;simp [DZ,DY,h1,h3,aH,ai,au,aG,aT,af,ah,ae,aa,ak,az,aP,aK]
     ·simp [DZ,DY,h1,h2,h3,h4,h5,aH,ai,au,aG,aT,af,ah,ae,aa,ak,az,aP,aK]
    ·simp [DZ,DY,h1,h2,h3,h4,aH,ai,au,aG,aT,af,ah,ae,aa,ak,az,aP,aK]
   ·simp [DZ,DY,h1,h2,h3,aH,ai,au,aG,aT,af,ah,ae,aa,ak,az,aP,aK]
  ·simp [DZ,DY,h1,h2,aH,ai,au,aG,aT,af,ah,ae,aa,ak,az,aP,aK]
 ·simp [DZ,DY,h1,aH,ai,au,aG,aT,af,ah,ae,aa,ak,az,aP,aK]
theorem G8 (x : Ed) (l : List Ed) (hl : l.length < 4294967296) : ∀ n i : Nat,i + n = l.length -> aU aA 0 (.loop MV) ⟨[(0,.list 2 (dy l)),(3,.ptr 0 0),(5,.int .i64 i)],[some [.int .i64 x.1,.int .i64 x.2]]⟩ =
  some (.exit 0,⟨[(0,.list 2 (dy l)),(3,.ptr 0 0),(5,.int .i64 (i + xw x (l.drop i) : Nat)),(18,.bool false)],[some [.int .i64 x.1,.int .i64 x.2]]⟩)
 | 0,i,hi => by
   have e : i = l.length := by omega
   subst e;rw [bz];exact bC (by unfold MV; simp [BO,BN,BM,BL,BK,BJ,BI,BH,xw,idx,aH,ai,au,aG,aT,af,ah,ae,aa,ak,az,aP,aK])
 | n + 1,i,hi => by
   have bA : i < l.length := by omega
   have h1 : (i : Int) < l.length := by omega
   have ih := G8 x l hl n (i + 1) (by omega);have hw := fm (i := i) (by omega);have hb := Gi l[i] x;rw [aZ bA];unfold xw;by_cases hx : BV l[i] x
   ·have e : i + (xw x (l.drop (i + 1)) + 1) = i + 1 + xw x (l.drop (i + 1)) := by omega
    rw [if_pos hx,e];exact (ba (by unfold MV; simp [BO,BN,BM,BL,BK,BJ,BI,BH,h1,bA,hb,hx,hw,idx,sJ2,iJ2,lJ2,aH,ai,au,aG,aT,af,ah,ae,aa,ak,az,aP,aK])).trans ih
   ·rw [if_neg hx];exact bC (by unfold MV; simp [BO,BN,BM,BL,BK,BJ,BI,BH,h1,bA,hb,hx,idx,sJ2,iJ2,lJ2,aH,ai,au,aG,aT,af,ah,ae,aa,ak,az,aP,aK])
theorem VB (x : Ed) (l : List Ed) (hl : l.length < 4294967295) : bk aA nJY [.list 2 (dy l),.agg [.int .i64 x.1,.int .i64 x.2]] [] = some (.list 2 (dy (qx x l)),[]) := by
 rw [aM oJY sJY (an rfl),Mf];have h := G8 x l (by omega) l.length 0 (by omega);rw [jj,bX,fD] at h;have hp := RW x l;generalize xw x l = p at h hp ⊢;have hq : (p : Int) <= l.length := by omega
 have hm : min p l.length = p := by omega
 have hL1 : p <= 4294967296 := by omega
 have hL2 : p + 1 <= 4294967296 := by omega
 have hL3 : p + 1 + (l.length - p) <= 4294967296 := by omega
 unfold qJY cJY;by_cases bA : p < l.length
 ·have h1 : (p : Int) < l.length := by omega
  by_cases hx : l[p] = x
  ·have IA : l[p].1 = x.1 := by rw [hx]
   have Vw : l[p].2 = x.2 := by rw [hx]
   rw [if_pos (by rw [aI bA,hx])];simp [BO,BN,BM,BL,BK,BJ,BI,BH,h,h1,bA,IA,Vw,idx,aH,ai,au,aG,aT,af,ah,ae,aa,ak,az,aP,aK]
  ·rw [if_neg (by rw [aI bA]; simpa using hx)];by_cases IA : l[p].1 = x.1
   ·have Vw : ¬ l[p].2 = x.2 := fun e => hx (Prod.ext IA e);simp [BO,BN,BM,BL,BK,BJ,BI,BH,h,h1,bA,IA,Vw,hp,hq,hm,hL1,hL2,hL3,idx,rV,FK,FJ,J3,lz,bg,cB,aH,ai,au,aG,aT,af,ah,ae,aa,ak,az,aP,aK];simp (disch := (simp only [bg,bu,cB,hD,c8,dP] <;> omega)) only [bL,ya,GH,du,nX]
   ·simp [BO,BN,BM,BL,BK,BJ,BI,BH,h,h1,bA,IA,hp,hq,hm,hL1,hL2,hL3,idx,rV,FK,FJ,J3,lz,bg,cB,aH,ai,au,aG,aT,af,ah,ae,aa,ak,az,aP,aK];simp (disch := (simp only [bg,bu,cB,hD,c8,dP] <;> omega)) only [bL,ya,GH,du,nX]
 ·have h1 : ¬ (p : Int) < l.length := by omega
  rw [if_neg (by rw [c9 (by omega)]; simp)];simp [BO,BN,BM,BL,BK,BJ,BI,BH,h,h1,bA,hp,hq,hm,hL1,hL2,hL3,idx,rV,FK,FJ,J3,lz,bg,cB,aH,ai,au,aG,aT,af,ah,ae,aa,ak,az,aP,aK];simp (disch := (simp only [bg,bu,cB,hD,c8,dP] <;> omega)) only [bL,ya,GH,du,nX]
/- What graph.Check and what it calls returns. -/
theorem ac5 (a b : Int) : bk aA Pt [.list 1 [.int .i64 a,.int .i64 b]] [] = some (.int .i64 (if a = 0 then b else a),[]) := by
 rw [aM oJa4 sJa4 (an rfl)];have t2 : IntKind.i64.wrap 2 = 2 := by decide
 have l3 : aU aA 0 (.loop sV) ⟨[(3,.int .i64 0),(6,.list 1 [.int .i64 a,.int .i64 b]),(7,.int .i64 2),(8,.int .i64 2)],[]⟩ = some (.exit 0,⟨[(3,.int .i64 0),(6,.list 1 [.int .i64 a,.int .i64 b]),(7,.int .i64 2),(8,.int .i64 2),(9,.bool false)],[]⟩) :=
  bC (by unfold sV; simp [pd,pc,o9,o8,o7,oZ,oY,oX,oW,aH,ai,au,aG,aT,af,ah,ae,aa,ak,az,aP,aK])
 have l2 : aU aA 0 (.loop sV) ⟨[(3,.int .i64 0),(6,.list 1 [.int .i64 a,.int .i64 b]),(7,.int .i64 2),(8,.int .i64 1)],[]⟩ = if b = 0 then some (.exit 0,⟨[(3,.int .i64 0),(6,.list 1 [.int .i64 a,.int .i64 b]),(7,.int .i64 2),(8,.int .i64 2),(9,.bool false)],[]⟩) else some (.ret,⟨[(2,.int .i64 b)],[]⟩) := by
  by_cases hb : b = 0
  ·subst hb;rw [if_pos rfl];exact (ba (by unfold sV; simp [pd,pc,o9,o8,o7,oZ,oY,oX,oW,idx,t2,aH,ai,au,aG,aT,af,ah,ae,aa,ak,az,aP,aK])).trans l3
  ·rw [if_neg hb];exact dj (by unfold sV; simp [pd,pc,o9,o8,o7,oZ,oY,oX,oW,hb,idx,aH,ai,au,aG,aT,af,ah,ae,aa,ak,az,aP,aK])
 have l1 : aU aA 0 (.loop sV) ⟨[(3,.int .i64 0),(6,.list 1 [.int .i64 a,.int .i64 b]),(7,.int .i64 2),(8,.int .i64 0)],[]⟩ = if a = 0 then (if b = 0 then some (.exit 0,⟨[(3,.int .i64 0),(6,.list 1 [.int .i64 a,.int .i64 b]),(7,.int .i64 2),(8,.int .i64 2),(9,.bool false)],[]⟩) else some (.ret,⟨[(2,.int .i64 b)],[]⟩)) else some (.ret,⟨[(2,.int .i64 a)],[]⟩) := by
  by_cases ha : a = 0
  ·subst ha;rw [if_pos rfl];exact (ba (by unfold sV; simp [pd,pc,o9,o8,o7,oZ,oY,oX,oW,idx,aH,ai,au,aG,aT,af,ah,ae,aa,ak,az,aP,aK])).trans l2
  ·rw [if_neg ha];exact dj (by unfold sV; simp [pd,pc,o9,o8,o7,oZ,oY,oX,oW,ha,idx,aH,ai,au,aG,aT,af,ah,ae,aa,ak,az,aP,aK])
 clear l2 l3;unfold ZZ cJa4;by_cases ha : a = 0
 ·subst ha;rw [if_pos rfl] at l1;by_cases hb : b = 0
  ·subst hb;rw [if_pos rfl] at l1;simp [pd,pc,o9,o8,o7,oZ,oY,oX,oW,l1,aH,ai,au,aG,aT,af,ah,ae,aa,ak,az,aP,aK]
  ·rw [if_neg hb] at l1;simp [pd,pc,o9,o8,o7,oZ,oY,oX,oW,l1,hb,aH,ai,au,aG,aT,af,ah,ae,aa,ak,az,aP,aK]
 ·rw [if_neg ha] at l1;simp [pd,pc,o9,o8,o7,oZ,oY,oX,oW,l1,ha,aH,ai,au,aG,aT,af,ah,ae,aa,ak,az,aP,aK]
def WL (a b : Ed) : Int := if NM a.1 b.1 = 0 then NM a.2 b.2 else NM a.1 b.1
theorem R4 (a b : Ed) : 0 <= WL a b ↔ ¬ BV a b := by
 unfold WL NM BV;by_cases h1 : a.1 < b.1
 ·simp [h1]
 ·by_cases h2 : b.1 < a.1
  ·have : ¬ a.1 = b.1 := by omega
   simp [h1,h2,this]
  ·have : a.1 = b.1 := by omega
   simp only [h1,h2,this,if_false,if_true,true_and,false_or];by_cases h3 : a.2 < b.2
   ·simp [h3]
   ·by_cases h4 : b.2 < a.2 <;> simp [h3,h4]
theorem Uc (a b : Ed) : bk aA nJ0 [.agg [.int .i64 a.1,.int .i64 a.2],.agg [.int .i64 b.1,.int .i64 b.2]] [] = some (.int .i64 (WL a b),[]) := by
 rw [aM oJ0 sJ0 (an rfl)];have c1 := NL a.1 b.1;have c2 := NL a.2 b.2;have c3 := ac5 (NM a.1 b.1) (NM a.2 b.2);unfold qJ0 cJ0 WL;simp [acb,aca,c1,c2,c3,sJa5,iJa5,lJa5,sJa4,iJa4,lJa4,aH,ai,au,aG,aT,af,ah,ae,aa,ak,az,aP,aK]
def kK (l : List Ed) (i : Nat) : Option Ed := if i = 0 then none else l[i - 1]?
theorem sO (l : List Ed) : kK l 0 = none := rfl
theorem mK (l : List Ed) (i : Nat) (h : i < l.length) : kK l (i + 1) = some l[i] := by simp [kK,h]
theorem IF (m : Int) (l : List Ed) (hl : l.length < 4294967297) : ∀ n i : Nat,i + n = l.length -> aU aA 0 (.loop zI) ⟨[(1,.ptr 0 0),(14,.list 2 (dy l)),(15,.int .i64 l.length),(16,.int .i64 i)],[some [.int .i64 m,.list 2 (dy l)]]⟩ =
  if fa m (kK l i) (l.drop i) = 0 then some (.exit 0,⟨[(1,.ptr 0 0),(14,.list 2 (dy l)),(15,.int .i64 l.length),(16,.int .i64 l.length),(17,.bool false)],[some [.int .i64 m,.list 2 (dy l)]]⟩) else some (.ret,⟨[(2,.int .i64 (fa m (kK l i) (l.drop i)))],[]⟩)
 | 0,i,hi => by
   have e : i = l.length := by omega
   subst e;rw [bz];exact bC (by unfold zI; simp [tx,tw,tv,tu,tt,tr,tq,tn,tl,tj,nM,nK,aH,ai,au,aG,aT,af,ah,ae,aa,ak,az,aP,aK])
 | n + 1,i,hi => by
   have bA : i < l.length := by omega
   have h1 : (i : Int) < l.length := by omega
   have ih := IF m l hl n (i + 1) (by omega);have hw := fm (i := i) (by omega);rw [mK l i bA] at ih;rw [aZ bA];by_cases ha : l[i].1 < 0
   ·have e : fa m (kK l i) (l[i] :: l.drop (i + 1)) = 6 := by unfold fa; rw [if_pos (.inl ha)]
    rw [e];exact dj (by unfold zI; simp [tx,tw,tv,tu,tt,tr,tq,tn,tl,tj,nM,nK,h1,bA,ha,idx,aH,ai,au,aG,aT,af,ah,ae,aa,ak,az,aP,aK])
   by_cases hb : l[i].2 <= l[i].1
   ·have e : fa m (kK l i) (l[i] :: l.drop (i + 1)) = 6 := by unfold fa; rw [if_pos (.inr (.inl hb))]
    rw [e];exact dj (by unfold zI; simp [tx,tw,tv,tu,tt,tr,tq,tn,tl,tj,nM,nK,h1,bA,ha,hb,idx,aH,ai,au,aG,aT,af,ah,ae,aa,ak,az,aP,aK])
   by_cases hc : m <= l[i].2
   ·have e : fa m (kK l i) (l[i] :: l.drop (i + 1)) = 6 := by unfold fa; rw [if_pos (.inr (.inr hc))]
    rw [e];exact dj (by unfold zI; simp [tx,tw,tv,tu,tt,tr,tq,tn,tl,tj,nM,nK,h1,bA,ha,hb,hc,idx,aH,ai,au,aG,aT,af,ah,ae,aa,ak,az,aP,aK])
   have hn : ¬ (l[i].1 < 0 \/ l[i].2 <= l[i].1 \/ m <= l[i].2) := by omega
   cases i with
   | zero =>
     have e : fa m (kK l 0) (l[0] :: l.drop (0 + 1)) = fa m (some l[0]) (l.drop (0 + 1)) := by
      conv => lhs; unfold fa
      rw [if_neg hn,sO,if_neg (show ¬ Gl none l[0] from fun h => h)]
     rw [e];exact (ba (by unfold zI; simp [tx,tw,tv,tu,tt,tr,tq,tn,tl,tj,nM,nK,h1,bA,ha,hb,hc,hw,idx,aH,ai,au,aG,aT,af,ah,ae,aa,ak,az,aP,aK])).trans ih
   | succ j =>
     have hj : j < l.length := by omega
     have PG : (j : Int) < l.length := by omega
     have hp : (0 : Int) < (j : Int) + 1 := by omega
     have PF : (0 : Int) <= (j : Int) + 1 := by omega
     have UE := oQ (i := j) (by omega);have h1 : (j : Int) + 1 < l.length := by omega
     have hw : IntKind.i64.wrap ((j : Int) + 1 + 1) = (j : Int) + 1 + 1 := Dd (j := j + 1 + 1) rfl (by omega);have ho := Uc l[j] l[j + 1];by_cases hd : 0 <= WL l[j] l[j + 1]
     ·have e : fa m (kK l (j + 1)) (l[j + 1] :: l.drop (j + 1 + 1)) = 5 := by
       unfold fa;rw [if_neg hn,mK l j hj,if_pos (show Gl (some l[j]) l[j + 1] from (R4 _ _).1 hd)]
      rw [e];exact dj (by unfold zI; simp [tx,tw,tv,tu,tt,tr,tq,tn,tl,tj,nM,nK,h1,bA,ha,hb,hc,hj,PG,hp,PF,UE,ho,hd,idx,sJ0,iJ0,lJ0,aH,ai,au,aG,aT,af,ah,ae,aa,ak,az,aP,aK])
     ·have hlt' : BV l[j] l[j + 1] := by
       apply Decidable.not_not.1;exact fun k => hd ((R4 _ _).2 k)
      have e : fa m (kK l (j + 1)) (l[j + 1] :: l.drop (j + 1 + 1)) = fa m (some l[j + 1]) (l.drop (j + 1 + 1)) := by
       conv => lhs; unfold fa
       rw [if_neg hn,mK l j hj,if_neg (show ¬ Gl (some l[j]) l[j + 1] from fun k => k hlt')]
      rw [e];exact (ba (by unfold zI; simp [tx,tw,tv,tu,tt,tr,tq,tn,tl,tj,nM,nK,h1,bA,ha,hb,hc,hj,PG,hp,PF,hw,UE,ho,hd,idx,sJ0,iJ0,lJ0,aH,ai,au,aG,aT,af,ah,ae,aa,ak,az,aP,aK])).trans ih
theorem Nt (m : Int) (l : List Ed) (hl : l.length < 4294967297) : bk aA nJz [.agg [.int .i64 m,.list 2 (dy l)]] [] = some (.int .i64 (F5 m l),[]) := by
 rw [aM oJz sJz (an rfl)];have h := IF m l hl l.length 0 (by omega);rw [jj,bX,sO] at h;unfold qJz cJz F5;by_cases ha : m < 0
 ·simp [tx,tw,tv,tu,tt,tr,tq,tn,tl,tj,nM,nK,ha,aH,ai,au,aG,aT,af,ah,ae,aa,ak,az,aP,aK]
 by_cases hb : 64 < m
 ·simp [tx,tw,tv,tu,tt,tr,tq,tn,tl,tj,nM,nK,ha,hb,aH,ai,au,aG,aT,af,ah,ae,aa,ak,az,aP,aK]
 rw [if_neg (by omega)];by_cases hc : fa m none l = 0
 ·rw [if_pos hc] at h;rw [hc];simp [tx,tw,tv,tu,tt,tr,tq,tn,tl,tj,nM,nK,ha,hb,h,aH,ai,au,aG,aT,af,ah,ae,aa,ak,az,aP,aK]
 ·rw [if_neg hc] at h;simp [tx,tw,tv,tu,tt,tr,tq,tn,tl,tj,nM,nK,ha,hb,h,aH,ai,au,aG,aT,af,ah,ae,aa,ak,az,aP,aK]
/- What functions of cohesionref03 return: Of, Check, Find. -/
def AM (n : Int) (l : List Ed) (E : AV) (i : Int) : St := ⟨[(0,.int .i64 n),(4,.ptr 0 0),(6,.ptr 1 0),(18,.list 2 (dy l)),(19,.int .i64 l.length),(20,.int .i64 i)],[some [.int .i64 0,.own 2 []],some [.int .i64 n,E]]⟩
def EY (n : Int) (l : List Ed) (E : AV) : St := ⟨[(0,.int .i64 n),(4,.ptr 0 0),(6,.ptr 1 0),(18,.list 2 (dy l)),(19,.int .i64 l.length),(20,.int .i64 l.length),(21,.bool false)],[some [.int .i64 0,.own 2 []],some [.int .i64 n,E]]⟩
theorem Ig (n : Int) (l : List Ed) (hl : l.length < 4294967295) (i : Nat) (bA : i < l.length) (o : List Ed) (ho : o.length < 4294967295) (he : 0 <= l[i].1 /\ 0 <= l[i].2 /\ l[i].1 < n /\ l[i].2 < n /\ l[i].1 ≠ l[i].2) :
  aU aA 0 wS (AM n l (.list 2 (dy o)) i) = some (.normal,AM n l (.list 2 (dy (qx (kC l[i].1 l[i].2) o))) ((i + 1 : Nat) : Int)) /\
  (o = [] -> aU aA 0 wS (AM n l (.own 2 []) i) = some (.normal,AM n l (.list 2 (dy (qx (kC l[i].1 l[i].2) o))) ((i + 1 : Nat) : Int))) := by
 have h1 : (i : Int) < l.length := by omega
 have hw := fm (i := i) (by omega);have hn := Yn n l[i].1 l[i].2;have hg := NC l[i].1 l[i].2;have hp := VB (kC l[i].1 l[i].2) o ho;rw [decide_eq_true he] at hn;refine ⟨?_,fun e => ?_⟩
 ·unfold wS;simp only [AM];simp [DN,DM,DL,DK,DJ,DI,DH,DG,DF,DE,xh,xg,h1,bA,hw,hn,hg,hp,idx,sJX,iJX,lJX,sJZ,iJZ,lJZ,sJY,iJY,lJY,aH,ai,au,aG,aT,af,ah,ae,aa,ak,az,aP,aK]
 ·subst e;rw [zX] at hp;unfold wS;simp only [AM];simp [DN,DM,DL,DK,DJ,DI,DH,DG,DF,DE,xh,xg,h1,bA,hw,hn,hg,hp,idx,sJX,iJX,lJX,sJZ,iJZ,lJZ,sJY,iJY,lJY,aH,ai,au,aG,aT,af,ah,ae,aa,ak,az,aP,aK]
theorem Sg (n : Int) (l : List Ed) (E : AV) (hE : E = .own 2 [] \/ ∃ o,E = .list 2 (dy o)) : aU aA 0 (.loop wS) (AM n l E l.length) = some (.exit 0,EY n l E) := by
 rcases hE with rfl | ⟨o,rfl⟩
 ·exact bC (by unfold wS; simp only [AM,EY]; simp [DN,DM,DL,DK,DJ,DI,DH,DG,DF,DE,xh,xg,aH,ai,au,aG,aT,af,ah,ae,aa,ak,az,aP,aK])
 ·exact bC (by unfold wS; simp only [AM,EY]; simp [DN,DM,DL,DK,DJ,DI,DH,DG,DF,DE,xh,xg,aH,ai,au,aG,aT,af,ah,ae,aa,ak,az,aP,aK])
theorem Mp (n : Int) (l : List Ed) (hl : l.length < 4294967295) (he : ∀ e ∈ l,0 <= e.1 /\ 0 <= e.2 /\ e.1 < n /\ e.2 < n /\ e.1 ≠ e.2) : ∀ (k i : Nat) (o : List Ed),i + k = l.length -> o.length <= i -> aU aA 0 (.loop wS) (AM n l (.list 2 (dy o)) i) = some (.exit 0,EY n l (.list 2 (dy (ofE (l.drop i) o))))
 | 0,i,o,hi,ho => by
   obtain rfl : i = l.length := by omega
   rw [bz];exact Sg n l _ (.inr ⟨o,rfl⟩)
 | k + 1,i,o,hi,ho => by
   have bA : i < l.length := by omega
   have hp := EJ (kC l[i].1 l[i].2) o;have ih := Mp n l hl he k (i + 1) (qx (kC l[i].1 l[i].2) o) (by omega) (by omega);rw [aZ bA];exact (ba (Ig n l hl i bA o (by omega) (he _ (ed bA))).1).trans ih
theorem Uf (n : Int) (l : List Ed) (hl : l.length < 4294967295) (he : ∀ e ∈ l,0 <= e.1 /\ 0 <= e.2 /\ e.1 < n /\ e.2 < n /\ e.1 ≠ e.2) : aU aA 0 (.loop wS) (AM n l (.own 2 []) 0) = some (.exit 0,EY n l (if l = [] then .own 2 [] else .list 2 (dy (ofE l [])))) := by
 cases l with
 | nil => rw [if_pos rfl]; exact Sg n [] _ (.inl rfl)
 | cons a r =>
   rw [if_neg (by simp)];have h0 : 0 < (a :: r).length := by simp
   have hp := EJ (kC a.1 a.2) [];have ih := Mp n (a :: r) hl he r.length 1 (qx (kC a.1 a.2) []) (by simp; omega) (by simpa using hp);exact (ba ((Ig n (a :: r) hl 0 h0 [] (by simp) (he _ (ed h0))).2 rfl)).trans ih
theorem aam (n : Int) (l : List Ed) (hl : l.length < 4294967295) (hn : 0 <= n /\ n <= 64) (he : ∀ e ∈ l,0 <= e.1 /\ 0 <= e.2 /\ e.1 < n /\ e.2 < n /\ e.1 ≠ e.2) : bk aA nJx [.int .i64 n,.list 2 (dy l)] [] = some (.dW [.agg [.int .i64 n,.list 2 (dy (ofE l []))],.int .i64 0],[]) := by
 rw [aM oJx sJx (an rfl)];have h := Uf n l hl he;have a1 : ¬ n < 0 := by omega
 have a2 : ¬ 64 < n := by omega
 unfold qJx cJx;by_cases hx : l = []
 ·subst hx;rw [if_pos rfl] at h;simp only [AM,EY,zX,dP,jj] at h;simp [DN,DM,DL,DK,DJ,DI,DH,DG,DF,DE,xh,xg,h,a1,a2,zX,aH,ai,au,aG,aT,af,ah,ae,aa,ak,az,aP,aK];rfl
 ·rw [if_neg hx] at h;simp only [AM,EY] at h;simp [DN,DM,DL,DK,DJ,DI,DH,DG,DF,DE,xh,xg,h,a1,a2,aH,ai,au,aG,aT,af,ah,ae,aa,ak,az,aP,aK]
theorem Hh (m : Int) (l : List Ed) (hl : l.length < 4294967297) : ∀ n i : Nat,i + n = l.length -> aU aA 0 (.loop zJ) ⟨[(1,.ptr 0 0),(14,.list 2 (dy l)),(15,.int .i64 l.length),(16,.int .i64 i)],[some [.int .i64 m,.list 2 (dy l)]]⟩ =
  if fa m (kK l i) (l.drop i) = 0 then some (.exit 0,⟨[(1,.ptr 0 0),(14,.list 2 (dy l)),(15,.int .i64 l.length),(16,.int .i64 l.length),(17,.bool false)],[some [.int .i64 m,.list 2 (dy l)]]⟩) else some (.ret,⟨[(2,.int .i64 (fa m (kK l i) (l.drop i)))],[]⟩)
 | 0,i,hi => by
   have e : i = l.length := by omega
   subst e;rw [bz];exact bC (by unfold zJ; simp [tJ,tI,tH,tG,tF,tE,tD,tC,tB,tA,nP,nO,aH,ai,au,aG,aT,af,ah,ae,aa,ak,az,aP,aK])
 | n + 1,i,hi => by
   have bA : i < l.length := by omega
   have h1 : (i : Int) < l.length := by omega
   have ih := Hh m l hl n (i + 1) (by omega);have hw := fm (i := i) (by omega);rw [mK l i bA] at ih;rw [aZ bA];by_cases ha : l[i].1 < 0
   ·have e : fa m (kK l i) (l[i] :: l.drop (i + 1)) = 6 := by unfold fa; rw [if_pos (.inl ha)]
    rw [e];exact dj (by unfold zJ; simp [tJ,tI,tH,tG,tF,tE,tD,tC,tB,tA,nP,nO,h1,bA,ha,idx,aH,ai,au,aG,aT,af,ah,ae,aa,ak,az,aP,aK])
   by_cases hb : l[i].2 <= l[i].1
   ·have e : fa m (kK l i) (l[i] :: l.drop (i + 1)) = 6 := by unfold fa; rw [if_pos (.inr (.inl hb))]
    rw [e];exact dj (by unfold zJ; simp [tJ,tI,tH,tG,tF,tE,tD,tC,tB,tA,nP,nO,h1,bA,ha,hb,idx,aH,ai,au,aG,aT,af,ah,ae,aa,ak,az,aP,aK])
   by_cases hc : m <= l[i].2
   ·have e : fa m (kK l i) (l[i] :: l.drop (i + 1)) = 6 := by unfold fa; rw [if_pos (.inr (.inr hc))]
    rw [e];exact dj (by unfold zJ; simp [tJ,tI,tH,tG,tF,tE,tD,tC,tB,tA,nP,nO,h1,bA,ha,hb,hc,idx,aH,ai,au,aG,aT,af,ah,ae,aa,ak,az,aP,aK])
   have hn : ¬ (l[i].1 < 0 \/ l[i].2 <= l[i].1 \/ m <= l[i].2) := by omega
   cases i with
   | zero =>
     have e : fa m (kK l 0) (l[0] :: l.drop (0 + 1)) = fa m (some l[0]) (l.drop (0 + 1)) := by
      conv => lhs; unfold fa
      rw [if_neg hn,sO,if_neg (show ¬ Gl none l[0] from fun h => h)]
     rw [e];exact (ba (by unfold zJ; simp [tJ,tI,tH,tG,tF,tE,tD,tC,tB,tA,nP,nO,h1,bA,ha,hb,hc,hw,idx,aH,ai,au,aG,aT,af,ah,ae,aa,ak,az,aP,aK])).trans ih
   | succ j =>
     have hj : j < l.length := by omega
     have PG : (j : Int) < l.length := by omega
     have hp : (0 : Int) < (j : Int) + 1 := by omega
     have PF : (0 : Int) <= (j : Int) + 1 := by omega
     have UE := oQ (i := j) (by omega);have h1 : (j : Int) + 1 < l.length := by omega
     have hw : IntKind.i64.wrap ((j : Int) + 1 + 1) = (j : Int) + 1 + 1 := Dd (j := j + 1 + 1) rfl (by omega);have ho := Gi l[j] l[j + 1];by_cases hd : BV l[j] l[j + 1]
     ·have e : fa m (kK l (j + 1)) (l[j + 1] :: l.drop (j + 1 + 1)) = fa m (some l[j + 1]) (l.drop (j + 1 + 1)) := by
       conv => lhs; unfold fa
       rw [if_neg hn,mK l j hj,if_neg (show ¬ Gl (some l[j]) l[j + 1] from fun k => k hd)]
      rw [e];exact (ba (by unfold zJ; simp [tJ,tI,tH,tG,tF,tE,tD,tC,tB,tA,nP,nO,h1,bA,ha,hb,hc,hj,PG,hp,PF,hw,UE,ho,hd,idx,sJ2,iJ2,lJ2,aH,ai,au,aG,aT,af,ah,ae,aa,ak,az,aP,aK])).trans ih
     ·have e : fa m (kK l (j + 1)) (l[j + 1] :: l.drop (j + 1 + 1)) = 5 := by
       unfold fa;rw [if_neg hn,mK l j hj,if_pos (show Gl (some l[j]) l[j + 1] from hd)]
      rw [e];exact dj (by unfold zJ; simp [tJ,tI,tH,tG,tF,tE,tD,tC,tB,tA,nP,nO,h1,bA,ha,hb,hc,hj,PG,hp,PF,UE,ho,hd,idx,sJ2,iJ2,lJ2,aH,ai,au,aG,aT,af,ah,ae,aa,ak,az,aP,aK])
theorem KR (m : Int) (l : List Ed) (hl : l.length < 4294967297) : bk aA nJE [.agg [.int .i64 m,.list 2 (dy l)]] [] = some (.int .i64 (F5 m l),[]) := by
 rw [aM oJE sJE (an rfl)];have h := Hh m l hl l.length 0 (by omega);rw [jj,bX,sO] at h;unfold qJE cJE F5;by_cases ha : m < 0
 ·simp [tJ,tI,tH,tG,tF,tE,tD,tC,tB,tA,nP,nO,ha,aH,ai,au,aG,aT,af,ah,ae,aa,ak,az,aP,aK]
 by_cases hb : 64 < m
 ·simp [tJ,tI,tH,tG,tF,tE,tD,tC,tB,tA,nP,nO,ha,hb,aH,ai,au,aG,aT,af,ah,ae,aa,ak,az,aP,aK]
 rw [if_neg (by omega)];by_cases hc : fa m none l = 0
 ·rw [if_pos hc] at h;rw [hc];simp [tJ,tI,tH,tG,tF,tE,tD,tC,tB,tA,nP,nO,ha,hb,h,aH,ai,au,aG,aT,af,ah,ae,aa,ak,az,aP,aK]
 ·rw [if_neg hc] at h;simp [tJ,tI,tH,tG,tF,tE,tD,tC,tB,tA,nP,nO,ha,hb,h,aH,ai,au,aG,aT,af,ah,ae,aa,ak,az,aP,aK]
theorem IQ (x : Ed) (u v : Int) (hx : kC u v = x) (l : List Ed) (hl : l.length < 4294967297) : ∀ n i : Nat,i + n = l.length -> aU aA 0 (.loop Iw) ⟨[(1,.int .i64 u),(2,.int .i64 v),(13,.list 2 (dy l)),(14,.int .i64 l.length),(15,.int .i64 i)],[]⟩ =
  if x ∈ l.drop i then some (.ret,⟨[(6,.int .i64 (i + (l.drop i).idxOf x : Nat))],[]⟩) else some (.exit 0,⟨[(1,.int .i64 u),(2,.int .i64 v),(13,.list 2 (dy l)),(14,.int .i64 l.length),(15,.int .i64 l.length),(16,.bool false)],[]⟩)
 | 0,i,hi => by
   have e : i = l.length := by omega
   subst e;rw [bz,if_neg (by simp)];exact bC (by unfold Iw; simp [Ek,Ej,Ei,Eh,Eg,Ef,Ee,Ec,Eb,Ea,aH,ai,au,aG,aT,af,ah,ae,aa,ak,az,aP,aK])
 | n + 1,i,hi => by
   have bA : i < l.length := by omega
   have h1 : (i : Int) < l.length := by omega
   have ih := IQ x u v hx l hl n (i + 1) (by omega);have hw := fm (i := i) (by omega);have hg := NC u v;rw [hx] at hg;rw [aZ bA];by_cases he : l[i] = x
   ·have IA : l[i].1 = x.1 := by rw [he]
    have Vw : l[i].2 = x.2 := by rw [he]
    rw [if_pos (by rw [he]; exact List.mem_cons_self),show (l[i] :: l.drop (i + 1)).idxOf x = 0 by rw [he]; exact List.idxOf_cons_self];exact dj (by unfold Iw; simp [Ek,Ej,Ei,Eh,Eg,Ef,Ee,Ec,Eb,Ea,h1,bA,hg,IA,Vw,idx,sJZ,iJZ,lJZ,aH,ai,au,aG,aT,af,ah,ae,aa,ak,az,aP,aK])
   ·have he2 : ¬ x = l[i] := fun e => he e.symm;rw [show (l[i] :: l.drop (i + 1)).idxOf x = (l.drop (i + 1)).idxOf x + 1 by simp only [List.idxOf_cons]; rw [show (l[i] == x) = false by simpa using he]; rfl,show i + ((l.drop (i + 1)).idxOf x + 1) = i + 1 + (l.drop (i + 1)).idxOf x by omega];simp only [aJ,he2,false_or];by_cases IA : l[i].1 = x.1
    ·have Vw : ¬ l[i].2 = x.2 := fun e => he (Prod.ext IA e);exact (ba (by unfold Iw; simp [Ek,Ej,Ei,Eh,Eg,Ef,Ee,Ec,Eb,Ea,h1,bA,hg,IA,Vw,hw,idx,sJZ,iJZ,lJZ,aH,ai,au,aG,aT,af,ah,ae,aa,ak,az,aP,aK])).trans ih
    ·exact (ba (by unfold Iw; simp [Ek,Ej,Ei,Eh,Eg,Ef,Ee,Ec,Eb,Ea,h1,bA,hg,IA,hw,idx,sJZ,iJZ,lJZ,aH,ai,au,aG,aT,af,ah,ae,aa,ak,az,aP,aK])).trans ih
theorem Yi (m : Int) (l : List Ed) (hl : l.length < 4294967297) (hG : GOK m l) (u v : Int) : bk aA nJ7 [.agg [.int .i64 m,.list 2 (dy l)],.int .i64 u,.int .i64 v] [] = some (.int .i64 (if kC u v ∈ l then (l.idxOf (kC u v) : Int) else -1),[]) := by
 rw [aM oJ7 sJ7 (an rfl)];have hc := KR m l hl;rw [rZ.2 hG] at hc;have h := IQ (kC u v) u v rfl l hl l.length 0 (by omega);rw [jj,bX,fD] at h;unfold qJ7 cJ7;by_cases hx : kC u v ∈ l
 ·rw [if_pos hx] at h;simp [Ek,Ej,Ei,Eh,Eg,Ef,Ee,Ec,Eb,Ea,h,hc,hx,sJE,iJE,lJE,aH,ai,au,aG,aT,af,ah,ae,aa,ak,az,aP,aK]
 ·rw [if_neg hx] at h;simp [Ek,Ej,Ei,Eh,Eg,Ef,Ee,Ec,Eb,Ea,h,hc,hx,sJE,iJE,lJE,aH,ai,au,aG,aT,af,ah,ae,aa,ak,az,aP,aK]
/- What field.Sided returns: a bipartite graph. -/
def I6 (N : Nat) (T : List Int) : List AV := (pN N).map fun j => .bool (decide (((j : Nat) : Int) ∈ T))
theorem en (N : Nat) (T : List Int) : (I6 N T).length = N := by simp [I6]
theorem C9 (N : Nat) (T : List Int) (i : Nat) (h : i < N) : (I6 N T)[i]? = some (.bool (decide ((i : Int) ∈ T))) := by
 simp [I6,h]
theorem Br (N : Nat) (T : List Int) (i : Nat) (h : i < (I6 N T).length) : (I6 N T)[i] = .bool (decide ((i : Int) ∈ T)) := by simp [I6]
theorem abo (N : Nat) : cK N (AV.bool false) = I6 N [] := by
 apply cY;intro i;simp only [I6,fW,df,List.not_mem_nil,decide_false];by_cases h : i < N
 ·simp [h]
 ·simp [h]
theorem abn (N : Nat) (T : List Int) (x : Int) (h : 0 <= x /\ x < (N : Int)) : (I6 N T).set x.toNat (.bool true) = I6 N (T ++ [x]) := by
 apply cY;intro i;simp only [bj,en];by_cases hi : x.toNat = i
 ·subst hi;rw [if_pos rfl,if_pos (by omega),C9 N _ _ (by omega)];simp [show ((x.toNat : Nat) : Int) = x by omega]
 ·rw [if_neg hi];by_cases hN : i < N
  ·rw [C9 N _ _ hN,C9 N _ _ hN];have : ¬ (i : Int) = x := by omega
   simp [this]
  ·rw [c9 (by rw [en]; omega),c9 (by rw [en]; omega)]
theorem FV (N : Nat) (T : List Int) : fj (I6 N T) = true := by
 unfold I6
 induction pN N with
 | nil => rfl
 | cons x r ih => simp only [iY,fj,clean,Bool.true_and]; exact ih
def CG : Ql := some [.int .i64 0,.own 2 [],.own 1 []]
def Ga (S : List Int) : Ql := some [.int .i64 0,.own 2 [],.list 1 (ints S)]
theorem acN : Rest [CG] := ⟨fun _ => rfl,rfl,fun _ _ => rfl,fun _ => rfl,fun _ _ => rfl⟩
theorem V6 (S : List Int) : Rest [CG,Ga S] := ⟨fun _ => rfl,rfl,fun _ _ => rfl,fun _ => rfl,fun _ _ => rfl⟩
theorem It (l : List Int) (a N : Nat) (hN : N <= 64) (S : List Int) (hS : ∀ x ∈ S,0 <= x /\ x < (N : Int)) (hSl : S.length <= 64) : ∀ (k i : Nat),i + k = S.length -> aU aA 1 (.loop SC) ⟨[(0,.ptr 0 0),(4,.ptr 1 0),(5,.int .i64 N),(6,.ptr 2 0),(7,.own 2 []),(8,.own 1 (I6 N (S.take i))),(9,.int .i64 i)],[dk l a,CG,Ga S]⟩ =
  some (.exit 0,⟨[(0,.ptr 0 0),(4,.ptr 1 0),(5,.int .i64 N),(6,.ptr 2 0),(7,.own 2 []),(8,.own 1 (I6 N S)),(9,.int .i64 S.length),(27,.bool false)],[dk l a,CG,Ga S]⟩)
 | 0,i,hi => by
   obtain rfl : i = S.length := by omega
   rw [List.take_length];exact bC (by unfold SC dk CG Ga; simp [rn,rl,rk,rj,rh,rf,re,rb,q9,q8,l9,l8,l7,l6,l5,lZ,lY,lX,lW,lV,en,aH,ai,au,aG,aT,af,ah,ae,aa,ak,az,aP,aK])
 | k + 1,i,hi => by
   have bA : i < S.length := by omega
   have h1 : (i : Int) < S.length := by omega
   have hw := fm (i := i) (by omega);have ih := It l a N hN S hS hSl k (i + 1) (by omega);have hx := hS S[i] (ed bA);have Bb : 0 <= S[i] := hx.1;have IA : S[i] < (N : Int) := hx.2;have Vw : S[i].toNat < N := by omega
   have hb := abn N (S.take i) S[i] hx;have hg := C9 N (S.take i) S[i].toNat Vw;rw [show S.take (i + 1) = S.take i ++ [S[i]] by rw [List.take_add_one,aI bA]; rfl] at ih;exact (ba (by unfold SC dk CG Ga; simp [rn,rl,rk,rj,rh,rf,re,rb,q9,q8,l9,l8,l7,l6,l5,lZ,lY,lX,lW,lV,h1,bA,hw,Bb,IA,Vw,hb,hg,en,idx,fz,pl,AV.leaf,aH,ai,au,aG,aT,af,ah,ae,aa,ak,az,aP,aK])).trans ih
end Go.BmP
