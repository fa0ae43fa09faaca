/- Bipartite graphs as bits: plain facts. -/
import Derived.Test.YtppmiehidnpgbaaGreatDoorGrfP
import Derived.Test.YtppmiehidnpgbaaGreatDoorUseM
import Derived.Test.YtppmiehidnpgbaaGreatDoorCfS
set_option linter.unusedVariables false
set_option linter.unusedSimpArgs false
open Bool renaming eq_iff_iff → rj
open List renaming getD_eq_getElem?_getD → aI, length_drop → dS, mem_append → aG, replicate → aF, take_length → dW, take_of_length_le → du
open Nat renaming le_of_ble_eq_true → aD, or_lt_two_pow → Hj, testBit_two_pow → WU
open Option renaming getD_some → hF
namespace Go.Bm
open Go.Am
def us (l : List Nat) : List AV := l.map fun n => .int .u64 ((n : Nat) : Int)
theorem dv (l : List Nat) : (us l).length = l.length := List.length_map _
theorem pB (l : List Nat) (i : Nat) : (us l)[i]? = (l[i]?).map (fun n => .int .u64 ((n : Nat) : Int)) := List.getElem?_map
theorem xn (l : List Nat) (i n : Nat) : (us l).set i (.int .u64 (n : Int)) = us (l.set i n) := by simp [us,List.map_set]
theorem Pd (n : Nat) : aF n (AV.int .u64 0) = us (aF n 0) := by simp [us]
theorem Wt (l : List Nat) : fU (us l) = true := by
 induction l with
 | nil => rfl
 | cons x r ih => simp only [us,List.map_cons,fU,clean] at ih ⊢; rw [ih]; rfl
theorem JS (l : List Nat) (n : Nat) : (us l).take n = us (l.take n) := by simp [us]
def Small (A : List Nat) : Prop := ∀ x ∈ A,x < 18446744073709551616
theorem nD {v : Int} (h : v < 64) (h0 : 0 <= v) : 2 ^ v.toNat < 18446744073709551616 := by
 have := Nat.pow_lt_pow_right (a := 2) (by decide) (show v.toNat < 64 by omega);exact this
def OI (A : List Nat) (e : Ed) : List Nat :=
 (A.set e.1.toNat (A.getD e.1.toNat 0 ||| 2 ^ e.2.toNat)).set e.2.toNat ((A.set e.1.toNat (A.getD e.1.toNat 0 ||| 2 ^ e.2.toNat)).getD e.2.toNat 0 ||| 2 ^ e.1.toNat)
theorem th (A : List Nat) (e : Ed) : (OI A e).length = A.length := by simp [OI]
theorem iR {A : List Nat} (h : Small A) (i : Nat) : A.getD i 0 < 18446744073709551616 := by
 rw [aI];cases e : A[i]? with
 | none => simp
 | some x => exact h x (List.mem_of_getElem? e)
theorem rA {A : List Nat} (h : Small A) {i n : Nat} (hn : n < 18446744073709551616) : Small (A.set i n) := by
 intro x hx;rcases List.mem_or_eq_of_mem_set hx with h1 | h1
 ·exact h x h1
 ·omega
theorem wK {A : List Nat} (h : Small A) {e : Ed} (h1 : 0 <= e.1 /\ e.1 < 64) (h2 : 0 <= e.2 /\ e.2 < 64) : Small (OI A e) := by
 have s1 : Small (A.set e.1.toNat (A.getD e.1.toNat 0 ||| 2 ^ e.2.toNat)) := rA h (Hj (n := 64) (iR h _) (nD h2.2 h2.1));exact rA s1 (Hj (n := 64) (iR s1 _) (nD h1.2 h1.1))
theorem acW {A : List Nat} {e : Ed} (h1 : 0 <= e.1 /\ e.1.toNat < A.length) (h2 : 0 <= e.2 /\ e.2.toNat < A.length) (mW : e.1 ≠ e.2) (a b : Nat) : ((OI A e).getD a 0).testBit b = ((A.getD a 0).testBit b || (decide ((a : Int) = e.1 /\ (b : Int) = e.2) || decide ((a : Int) = e.2 /\ (b : Int) = e.1))) := by
 have hn : e.1.toNat ≠ e.2.toNat := by omega
 unfold OI;simp only [aI,List.getElem?_set,List.length_set,if_neg hn,if_neg (Ne.symm hn)];by_cases ha : e.2.toNat = a
 ·subst ha;rw [if_pos rfl,if_pos h2.2];simp only [hF,Nat.testBit_or,WU];congr 1;have e1 : ¬ ((e.2.toNat : Int) = e.1) := by omega
  have e2 : ((e.2.toNat : Int) = e.2) := by omega
  have e3 : ¬ (e.2 = e.1) := fun k => mW k.symm;simp only [e1,e2,e3,false_and,true_and,decide_false,Bool.false_or];rw [rj,decide_eq_true_eq,decide_eq_true_eq]; omega
 ·rw [if_neg ha];have e2 : ¬ ((a : Int) = e.2) := by omega
  by_cases hb : e.1.toNat = a
  ·subst hb;rw [if_pos rfl,if_pos h1.2];simp only [hF,Nat.testBit_or,WU];congr 1;have e1 : ((e.1.toNat : Int) = e.1) := by omega
   have e3 : ¬ (e.1 = e.2) := mW;simp only [e1,e2,e3,false_and,true_and,decide_false,Bool.or_false];rw [rj,decide_eq_true_eq,decide_eq_true_eq];omega
  ·rw [if_neg hb];have e1 : ¬ ((a : Int) = e.1) := by omega
   simp [e1,e2]
def kC (l : List Ed) (A : List Nat) : List Nat := l.foldl OI A
theorem yq (N : Nat) (hN : N <= 64) : ∀ (l : List Ed) (A : List Nat),A.length = N -> Small A -> (∀ e ∈ l,0 <= e.1 /\ e.1 < e.2 /\ e.2 < (N : Int)) -> (kC l A).length = N /\ Small (kC l A) /\ ∀ a b : Nat,((kC l A).getD a 0).testBit b = ((A.getD a 0).testBit b || (decide (((a : Int),(b : Int)) ∈ l) || decide (((b : Int),(a : Int)) ∈ l)))
 | [],A,hl,hs,_ => ⟨hl,hs,fun a b => by simp [kC]⟩
 | e :: r,A,hl,hs,h => by
   have he := h e (by simp);obtain ⟨i1,i2,i3⟩ := yq N hN r (OI A e) (by rw [th]; exact hl) (wK hs (by omega) (by omega)) (fun x hx => h x (by simp [hx]));refine ⟨i1,i2,fun a b => ?_⟩;show ((kC r (OI A e)).getD a 0).testBit b = _;rw [i3,acW (by omega) (by omega) (by omega)];rw [rj];simp only [Bool.or_eq_true,decide_eq_true_eq,List.mem_cons,Prod.ext_iff];constructor
   ·rintro ((h | (h | h)) | (h | h))
    ·exact .inl h
    ·exact .inr (.inl (.inl h))
    ·exact .inr (.inr (.inl ⟨h.2,h.1⟩))
    ·exact .inr (.inl (.inr h))
    ·exact .inr (.inr (.inr h))
   ·rintro (h | ((h | h) | (h | h)))
    ·exact .inl (.inl h)
    ·exact .inl (.inr (.inl h))
    ·exact .inr (.inl h)
    ·exact .inl (.inr (.inr ⟨h.2,h.1⟩))
    ·exact .inr (.inr h)
def Bf (A : List Nat) (side : Nat) (l : List Int) : Nat := l.foldl (fun s v => s &&& A.getD v.toNat 0) side
theorem Oo (A : List Nat) : ∀ (l : List Int) (side j : Nat),(Bf A side l).testBit j = (side.testBit j && l.all fun v => (A.getD v.toNat 0).testBit j)
 | [],side,j => by simp [Bf]
 | v :: r,side,j => by
   have ih := Oo A r (side &&& A.getD v.toNat 0) j;unfold Bf at ih ⊢;rw [List.foldl_cons,ih,Nat.testBit_and,List.all_cons,Bool.and_assoc]
theorem UM (A : List Nat) : ∀ (l : List Int) (side : Nat),Bf A side l <= side
 | [],side => Nat.le_refl _
 | v :: r,side => Nat.le_trans (UM A r _) Nat.and_le_left
structure BOK (N : Nat) (E : List Ed) (L : List Int) : Prop where
 n : N <= 64
 e : UpE E /\ ∀ e ∈ E,0 <= e.1 /\ e.1 < e.2 /\ e.2 < (N : Int)
 l : Up L /\ ∀ x ∈ L,0 <= x /\ x < (N : Int)
 s : ∀ e ∈ E,e.1 ∈ L ↔ ¬ e.2 ∈ L
def jn (E : List Ed) (a b : Int) : Prop := (a,b) ∈ E \/ (b,a) ∈ E
instance (E : List Ed) (a b : Int) : Decidable (jn E a b) := by unfold jn; infer_instance
def cU (N : Nat) (E : List Ed) : List Nat := kC E (aF N 0)
def rgt (N : Nat) (L : List Int) : Nat := (2 ^ N - 1) &&& (18446744073709551615 - W5 L)
def cR (N : Nat) (E : List Ed) (L S : List Int) : Nat := Bf (cU N E) (rgt N L) (eS (W5 S))
def cL (N : Nat) (E : List Ed) (L : List Int) (r : Nat) : Nat := Bf (cU N E) (W5 L) (eS r)
def clR (N : Nat) (E : List Ed) (L S : List Int) : List Int := eS (cR N E L S)
def clL (N : Nat) (E : List Ed) (L S : List Int) : List Int := eS (cL N E L (cR N E L S))
end Go.Bm
/- What functions of cohesionmake return: Few, New, Mod, Next, Set. -/
set_option maxRecDepth 100000
set_option maxHeartbeats 4000000
namespace Go.BmP
open Go.Am Go.Bm
theorem VL (n : Nat) : (n + 1 <= n) ↔ False := ⟨fun h => by omega,False.elim⟩
theorem abZ (l : List Int) : br au nQb [.list 1 (ints l)] [] = some (.bool (decide ((l.length : Int) <= 500)),[]) := by
 rw [aV oQb sQb (aD rfl)];unfold qQb cQb;simp [adG,adE,aN,aq,aM,bp,bV,an,ak,aj,af,aE,aL,bu,bq]
def dk (l : List Int) (at_ : Nat) : Q2 := some [.list 1 (ints l),.int .i64 at_]
theorem abu (l : List Int) : br au nQd [.list 1 (ints l)] [] = some (.ptr 0 0,[dk l 0]) := by
 rw [aV oQd sQd (aD rfl)];unfold qQd cQd dk;simp [adw,adu,uk,ko,ft,de,cN,mg,aN,aq,aM,bp,bV,an,ak,aj,af,aE,aL,bu,bq]
theorem abB (x k : Int) (h0 : 0 < k) (h1 : k < 4611686018427387904) : (IntKind.i64.wrap (x.tmod k + k)).tmod k = x % k := by
 have e : x % k = (x.tmod k) % k := by
  have := Int.mul_tdiv_add_tmod x k
  conv => lhs; rw [<- this]
  rw [Int.add_comm,Int.add_mul_emod_self_left]
 have h2 := Int.tmod_lt_of_pos x h0
 have h3 : -k < x.tmod k := by
  have := Int.tmod_lt_of_pos (-x) h0;rw [Int.neg_tmod] at this;omega
 rw [gK (by omega) (by omega),Int.tmod_eq_emod_of_nonneg (by omega),e,Int.add_emod_right]
theorem YS (x k : Int) (h0 : 0 < k) (h1 : k < 4611686018427387904) : br au nQR [.int .i64 x,.int .i64 k] [] = some (.int .i64 (x % k),[]) := by
 rw [aV oQR sQR (aD rfl),<- abB x k h0 h1];have hk : ¬ k = 0 := by omega
 unfold qQR cQR;simp [ad0,adZ,hk,aN,aq,aM,bp,bV,an,ak,aj,af,aE,aL,bu,bq]
def Hs (l : List Int) (a : Nat) (n : Int) : Int := if n < 1 then 0 else if l.length <= a then 0 else l.getD a 0 % n
def Cv (l : List Int) (a : Nat) (n : Int) : Nat := if n < 1 then a else if l.length <= a then a else a + 1
theorem KS (l : List Int) (a : Nat) {n : Int} (h : 1 <= n) : 0 <= Hs l a n /\ Hs l a n < n := by
 unfold Hs;rw [if_neg (by omega)];split
 ·omega
 ·exact ⟨Int.emod_nonneg _ (by omega),Int.emod_lt_of_pos _ (by omega)⟩
def Rest (R : Heap) : Prop := (∀ g,ft g R = R) /\ jt R = true /\ (∀ p b,WE p b R = none) /\ (∀ f,CI f R = false) /\ ∀ p b,pJ p b R = []
theorem VM (l : List Int) (hl : l.length <= 500) (a : Nat) (n : Int) (hn : n < 4611686018427387904) (R : Heap) (hR : Rest R) : br au VN [.ptr 0 0,.int .i64 n] (dk l a :: R) = some (.int .i64 (Hs l a n),dk l (Cv l a n) :: R) := by
 obtain ⟨r1,r2,r3,r4,r5⟩ := hR;rw [aV oQr sQr (aD rfl)];unfold qQr cQr Hs Cv dk;by_cases h0 : n < 1
 ·simp [RT,RS,RR,RQ,RP,RO,h0,uk,ko,mg,r1,r2,r3,r4,r5,VL,aN,aq,aM,bp,bV,an,ak,aj,af,aE,aL,bu,bq]
 ·have h0' : ¬ n < 1 := h0;by_cases h1 : l.length <= a
  ·have h1' : (l.length : Int) <= a := by omega
   simp [RT,RS,RR,RQ,RP,RO,h0,h1,h1',uk,ko,mg,r1,r2,r3,r4,r5,VL,aN,aq,aM,bp,bV,an,ak,aj,af,aE,aL,bu,bq]
  ·have h1' : ¬ (l.length : Int) <= a := by omega
   have h2 : a < l.length := by omega
   have h2' : (a : Int) < l.length := by omega
   have hw := eT (i := a) (by omega);have hm := YS l[a] n (by omega) hn;simp [RT,RS,RR,RQ,RP,RO,h0,h1,h1',h2,h2',hw,hm,idx,sQR,iQR,lQR,uk,ko,mg,r1,r2,r3,r4,r5,VL,aN,aq,aM,bp,bV,an,ak,aj,af,aE,aL,bu,bq]
theorem rR (l : List Int) (hl : l.length <= 500) (a : Nat) (n : Int) (hn : n < 4611686018427387904) (R : Heap) (hR : Rest R) : br au VN [.ptr 0 0,.int .i64 n] [dk l a] = some (.int .i64 (Hs l a n),[dk l (Cv l a n)]) := VM l hl a n hn [] ⟨fun _ => rfl,rfl,fun _ _ => rfl,fun _ => rfl,fun _ _ => rfl⟩
/- What mk.Graph returns: a graph that is in order. -/
theorem Pk (l : List Ed) (x : Ed) : (l ++ [x]).take (l.length + 1) = l ++ [x] := du (by simp)
def Xd (N : Nat) (o : List Ed) (u v : Nat) : Prop := UpE o /\ (∀ e ∈ o,0 <= e.1 /\ e.1 < e.2 /\ e.2 < (N : Int)) /\ (∀ e ∈ o,e.1 < (u : Int) \/ e.1 = (u : Int) /\ e.2 < (v : Int)) /\ o.length <= u * 64 + v
theorem Y7 {N : Nat} {o : List Ed} {u v : Nat} (h : Xd N o u v) : Xd N o u (v + 1) :=
 ⟨h.1,h.2.1,fun e he => by have := h.2.2.1 e he; omega,by have := h.2.2.2; omega⟩
theorem abO {N : Nat} {o : List Ed} {u v : Nat} (h : Xd N o u v) (huv : u < v) (hv : v < N) : Xd N (o ++ [((u : Int),(v : Int))]) u (v + 1) := by
 obtain ⟨h1,h2,h3,h4⟩ := h;refine ⟨?_,fun e he => ?_,fun e he => ?_,by simp; omega⟩
 ·unfold UpE;rw [List.pairwise_append];refine ⟨h1,by simp,fun x hx y hy => ?_⟩;simp at hy;subst hy;have := h3 x hx;unfold FU;simp only;omega
 ·rcases aG.1 he with he | he
  ·exact h2 e he
  ·simp at he; subst he; exact ⟨by simp,by simpa using huv,by simpa using hv⟩
 ·rcases aG.1 he with he | he
  ·have := h3 e he; omega
  ·simp at he; subst he; simp; omega
def gZ : Q2 := some [.int .i64 0,.own 2 []]
def gB (N : Int) (o : List Ed) : Q2 := some [.int .i64 N,.own 2 (dO o)]
theorem J0 (N : Int) (o : List Ed) : Rest [gZ,gB N o] := ⟨fun _ => rfl,rfl,fun _ _ => rfl,fun _ => rfl,fun _ _ => rfl⟩
theorem ae1 : Rest [gZ] := ⟨fun _ => rfl,rfl,fun _ _ => rfl,fun _ => rfl,fun _ _ => rfl⟩
def HH (l : List Int) (a N : Nat) (D : Int) (u v : Nat) (o : List Ed) (J : Env) : St := ⟨(0,.ptr 0 0) :: (4,.ptr 1 0) :: (5,.ptr 2 0) :: (6,.int .i64 D) :: (7,.int .i64 u) :: (8,.int .i64 v) :: J,[dk l a,gZ,gB N o]⟩
theorem abV (l : List Int) (hl : l.length <= 500) (N : Nat) (hN : N <= 64) (D : Int) (hD : 0 <= D /\ D <= 5) (u v a : Nat) (o : List Ed) (huv : u < v) (hv : v < N) (ho : o.length <= 100000) : ∃ a',aW au 1 F0 (HH l a N D u v o []) = some (.normal,HH l a' N D u (v + 1) o []) \/ aW au 1 F0 (HH l a N D u v o []) = some (.normal,HH l a' N D u (v + 1) (o ++ [((u : Int),(v : Int))]) []) := by
 have h1 : (v : Int) < N := by omega
 have hw := eT (i := v) (by omega);have hL : o.length + 1 <= 4294967296 := by omega
 have hx := rR l hl a 5 (by omega) [gZ,gB N o] (J0 N o);have w5 : IntKind.i64.wrap (5 - D) = 5 - D := gK (by omega) (by omega);simp only [dk,gZ,gB] at hx;by_cases hd : 5 - D <= Hs l a 5
 ·refine ⟨Cv l a 5,.inr ?_⟩;unfold F0 HH dk gZ gB;simp [BM,BL,BK,BJ,BI,BH,BG,BF,BE,BD,uJ,uI,uH,uG,h1,hw,hd,hL,hx,w5,lj,Wl,Gx,Pk,sQr,iQr,lQr,ko,fQ,jt,dQ,l6,gg,fx,xx,qQ,je,iC,aN,aq,aM,bp,bV,an,ak,aj,af,aE,aL,bu,bq]
 ·refine ⟨Cv l a 5,.inl ?_⟩;unfold F0 HH dk gZ gB;simp [BM,BL,BK,BJ,BI,BH,BG,BF,BE,BD,uJ,uI,uH,uG,h1,hw,hd,hx,w5,sQr,iQr,lQr,ko,fQ,jt,dQ,l6,gg,fx,aN,aq,aM,bp,bV,an,ak,aj,af,aE,aL,bu,bq]
theorem g_in (l : List Int) (hl : l.length <= 500) (N : Nat) (hN : N <= 64) (D : Int) (hD : 0 <= D /\ D <= 5) (u : Nat) : ∀ (k v a : Nat) (o : List Ed),v + k = N -> u < v -> Xd N o u v -> ∃ a' o',aW au 1 (.loop F0) (HH l a N D u v o []) = some (.exit 2,HH l a' N D u N o' [(41,.bool false)]) /\ Xd N o' u N
 | 0,v,a,o,hi,huv,hI => by
   obtain rfl : v = N := by omega
   refine ⟨a,o,bw ?_,hI⟩;unfold F0 HH dk gZ gB;simp [BM,BL,BK,BJ,BI,BH,BG,BF,BE,BD,uJ,uI,uH,uG,aN,aq,aM,bp,bV,an,ak,aj,af,aE,aL,bu,bq]
 | k + 1,v,a,o,hi,huv,hI => by
   have hlen := hI.2.2.2;obtain ⟨a1,e | e⟩ := abV l hl N hN D hD u v a o huv (by omega) (by omega)
   ·obtain ⟨a',o',e2,hI2⟩ := g_in l hl N hN D hD u k (v + 1) a1 o (by omega) (by omega) (Y7 hI);exact ⟨a',o',(aY e).trans e2,hI2⟩
   ·obtain ⟨a',o',e2,hI2⟩ := g_in l hl N hN D hD u k (v + 1) a1 _ (by omega) (by omega) (abO hI huv (by omega));exact ⟨a',o',(aY e).trans e2,hI2⟩
def NZ (l : List Int) (a N : Nat) (D : Int) (u : Nat) (o : List Ed) (J : Env) : St := ⟨(0,.ptr 0 0) :: (4,.ptr 1 0) :: (5,.ptr 2 0) :: (6,.int .i64 D) :: (7,.int .i64 u) :: J,[dk l a,gZ,gB N o]⟩
theorem aeA (l : List Int) (hl : l.length <= 500) (N : Nat) (hN : N <= 64) (D : Int) (hD : 0 <= D /\ D <= 5) : ∀ (k u a : Nat) (o : List Ed),u + k = N -> Xd N o u 0 -> ∃ a' o',aW au 1 (.loop Nn) (NZ l a N D u o []) = some (.exit 0,NZ l a' N D N o' [(33,.bool false)]) /\ Xd N o' N 0
 | 0,u,a,o,hi,hI => by
   obtain rfl : u = N := by omega
   refine ⟨a,o,bw ?_,hI⟩;unfold Nn NZ dk gZ gB;simp [BM,BL,BK,BJ,BI,BH,BG,BF,BE,BD,uJ,uI,uH,uG,aN,aq,aM,bp,bV,an,ak,aj,af,aE,aL,bu,bq]
 | k + 1,u,a,o,hi,hI => by
   have h1 : (u : Int) < N := by omega
   have hw := eT (i := u) (by omega);have hI1 : Xd N o u (u + 1) := ⟨hI.1,hI.2.1,fun e he => by have := hI.2.2.1 e he; have := (hI.2.1 e he).1; omega,by have := hI.2.2.2; omega⟩;obtain ⟨a1,o1,e1,hI2⟩ := g_in l hl N hN D hD u (N - (u + 1)) (u + 1) a o (by omega) (by omega) hI1;have hI3 : Xd N o1 (u + 1) 0 := ⟨hI2.1,hI2.2.1,fun e he => by have := hI2.2.2.1 e he; omega,by have := hI2.2.2.2; omega⟩;obtain ⟨a',o',e2,hI4⟩ := aeA l hl N hN D hD k (u + 1) a1 o1 (by omega) hI3;refine ⟨a',o',(aY ?_).trans e2,hI4⟩;unfold HH dk gZ gB at e1;rw [show ((u + 1 : Nat) : Int) = (u : Int) + 1 from rfl] at e1;unfold Nn NZ dk gZ gB;simp [BM,BL,BK,BJ,BI,BH,BG,BF,BE,BD,uJ,uI,uH,uG,h1,hw,e1,aN,aq,aM,bp,bV,an,ak,aj,af,aE,aL,bu,bq]
theorem Wd (l : List Int) (hl : l.length <= 500) (most : Nat) (hm : most <= 60) (a : Nat) : ∃ N Es a',br au nQe [.ptr 0 0,.int .i64 most] [dk l a] = some (.agg [.int .i64 (N : Nat),.list 2 (dO Es)],[dk l a']) /\ ke (N : Int) Es /\ N <= most /\ Es.length <= 10000 := by
 have n1 := rR l hl a ((most : Int) + 1) (by omega) [gZ] ae1;obtain ⟨b0,b1⟩ := KS l a (n := (most : Int) + 1) (by omega);have wm := eT (i := most) (by omega)
 -- the number of nodes, drawn once or twice
 obtain ⟨n0,hn0⟩ : ∃ n0 : Nat,Hs l a ((most : Int) + 1) = (n0 : Int) := ⟨(Hs l a ((most : Int) + 1)).toNat,by omega⟩;rw [hn0] at n1 b1
 have key : ∀ (N a2 : Nat),N <= most -> ∃ Es a',(∃ D : Int,(0 <= D /\ D <= 5) /\ Hs l a2 4 + 1 = D) /\ aW au 1 (.loop Nn) (NZ l (Cv l a2 4) N (Hs l a2 4 + 1) 0 [] []) = some (.exit 0,NZ l a' N (Hs l a2 4 + 1) N Es [(33,.bool false)]) /\ Xd N Es N 0 := by
  intro N a2 hN;obtain ⟨c0,c1⟩ := KS l a2 (n := 4) (by omega);obtain ⟨a',Es,e,hI⟩ := aeA l hl N (by omega) (Hs l a2 4 + 1) (by omega) N 0 (Cv l a2 4) [] (by omega) ⟨by simp [UpE],by simp,by simp,by simp⟩;exact ⟨Es,a',⟨_,by omega,rfl⟩,e,hI⟩
 have fin : ∀ (N : Nat) (Es : List Ed),N <= most -> Xd N Es N 0 -> ke (N : Int) Es /\ N <= most /\ Es.length <= 10000 := fun N Es hN hI => ⟨⟨by omega,hI.1,hI.2.1⟩,hN,by have := hI.2.2.2; omega⟩;by_cases h4 : n0 < 4
 ·-- a second draw
  have h4' : (n0 : Int) < 4 := by omega
  have n2 := rR l hl (Cv l a ((most : Int) + 1)) ((most : Int) + 1) (by omega) [gZ,gB n0 []] (J0 n0 []);obtain ⟨d0,d1⟩ := KS l (Cv l a ((most : Int) + 1)) (n := (most : Int) + 1) (by omega);obtain ⟨m0,hm0⟩ : ∃ m0 : Nat,Hs l (Cv l a ((most : Int) + 1)) ((most : Int) + 1) = (m0 : Int) := ⟨(Hs l (Cv l a ((most : Int) + 1)) ((most : Int) + 1)).toNat,by omega⟩;rw [hm0] at n2 d1
  obtain ⟨N,hN,eN⟩ : ∃ N : Nat,N <= most /\ (if (n0 : Int) + m0 < most then (n0 : Int) + m0 else (most : Int)) = N := by
   by_cases q : (n0 : Int) + m0 < most
   ·exact ⟨n0 + m0,by omega,by rw [if_pos q]; omega⟩
   ·exact ⟨most,by omega,by rw [if_neg q]⟩
  have ws : IntKind.i64.wrap ((n0 : Int) + m0) = (n0 : Int) + m0 := gK (by omega) (by omega);have n3 := rR l hl (Cv l (Cv l a ((most : Int) + 1)) ((most : Int) + 1)) 4 (by omega) [gZ,gB N []] (J0 N []);obtain ⟨Es,a',⟨D,hD,eD⟩,e,hI⟩ := key N (Cv l (Cv l a ((most : Int) + 1)) ((most : Int) + 1)) hN;refine ⟨N,Es,a',?_,fin N Es hN hI⟩;have wD : IntKind.i64.wrap (1 + Hs l (Cv l (Cv l a ((most : Int) + 1)) ((most : Int) + 1)) 4) = D := by rw [gK (by omega) (by omega)]; omega
  rw [eD] at e;rw [aV oQe sQe (aD rfl)];unfold NZ at e;rw [fY] at e;unfold dk gZ gB at *;rw [show dO [] = [] from rfl] at *;generalize Hs l (Cv l (Cv l a ((most : Int) + 1)) ((most : Int) + 1)) 4 = x4 at *;clear key hI;unfold qQe cQe;simp [BM,BL,BK,BJ,BI,BH,BG,BF,BE,BD,uJ,uI,uH,uG,n1,n2,n3,e,wm,ws,h4',eN,wD,Gx,dW,sQr,iQr,lQr,ko,fQ,jt,dQ,l6,mg,gg,fx,eL,kj,nN,AH,jJ,ym,qB,kB,uk,xx,qQ,je,iC,aN,aq,aM,bp,bV,an,ak,aj,af,aE,aL,bu,bq]
 ·have h4' : ¬ (n0 : Int) < 4 := by omega
  have n3 := rR l hl (Cv l a ((most : Int) + 1)) 4 (by omega) [gZ,gB n0 []] (J0 n0 []);obtain ⟨Es,a',⟨D,hD,eD⟩,e,hI⟩ := key n0 (Cv l a ((most : Int) + 1)) (by omega);refine ⟨n0,Es,a',?_,fin n0 Es (by omega) hI⟩;have wD : IntKind.i64.wrap (1 + Hs l (Cv l a ((most : Int) + 1)) 4) = D := by rw [gK (by omega) (by omega)]; omega
  rw [eD] at e;rw [aV oQe sQe (aD rfl)];unfold NZ at e;rw [fY] at e;unfold dk gZ gB at *;rw [show dO [] = [] from rfl] at *;generalize Hs l (Cv l a ((most : Int) + 1)) 4 = x4 at *;clear key hI;unfold qQe cQe;simp [BM,BL,BK,BJ,BI,BH,BG,BF,BE,BD,uJ,uI,uH,uG,n1,n3,e,wm,h4',wD,Gx,dW,sQr,iQr,lQr,ko,fQ,jt,dQ,l6,mg,gg,fx,uk,xx,qQ,je,iC,aN,aq,aM,bp,bV,an,ak,aj,af,aE,aL,bu,bq]
/- What mk.Order returns: an order of all nodes. -/
def yp (n : Nat) : List Int := (List.range n).map fun i => ((i : Nat) : Int)
theorem WL (n : Nat) : yp (n + 1) = yp n ++ [(n : Int)] := by simp [yp,List.range_succ]
theorem Zh {o : List Int} {v : Nat} (h : o.Perm (yp v)) (i : Nat) : (o.take i ++ (v : Int) :: o.drop i).Perm (yp (v + 1)) := by
 rw [WL];refine List.perm_middle.trans ?_;rw [List.take_append_drop];exact (h.cons _).trans (List.perm_append_singleton _ _).symm
theorem VF (l : List Int) (hl : l.length <= 500) (N : Nat) (hN : N <= 64) (R : Heap) (hR : Rest R) (v a : Nat) (o : List Int) (hv : v < N) (ho : o.length = v) : ∃ i a',aW au (R.length + 1) Nk ⟨[(0,.ptr 0 0),(1,.int .i64 N),(5,.own 1 (ints o)),(6,.int .i64 v)],dk l a :: R⟩ = some (.normal,⟨[(0,.ptr 0 0),(1,.int .i64 N),(5,.own 1 (ints (o.take i ++ (v : Int) :: o.drop i))),(6,.int .i64 ((v + 1 : Nat) : Int))],dk l a' :: R⟩) := by
 have h1 : (v : Int) < N := by omega
 have hw := eT (i := v) (by omega);have hx := rR l hl a ((v : Int) + 1) (by omega) R hR;obtain ⟨b0,b1⟩ := KS l a (n := (v : Int) + 1) (by omega);obtain ⟨i,hi⟩ : ∃ i : Nat,Hs l a ((v : Int) + 1) = (i : Int) := ⟨(Hs l a ((v : Int) + 1)).toNat,by omega⟩;rw [hi] at hx b1;refine ⟨i,Cv l a ((v : Int) + 1),?_⟩;generalize Cv l a ((v : Int) + 1) = a1 at *;obtain ⟨r1,r2,r3,r4,r5⟩ := hR;have h2 : (i : Int) <= v := by omega
 have h3 : i <= v := by omega
 have h4 : i <= 4294967296 := by omega
 have h5 : v - i + 1 <= 4294967296 := by omega
 have h6 : 1 + (v - i) <= 4294967296 := by omega
 have h7 : i + (v - i + 1) <= 4294967296 := by omega
 have h8 : i + (1 + (v - i)) <= 4294967296 := by omega
 have h9 : min i v = i := by omega
 have cons : ∀ x : List Int,AV.int .i64 (v : Int) :: ints x = ints ((v : Int) :: x) := fun _ => rfl;unfold dk at hx ⊢;unfold Nk;simp [Sn,Sm,Sl,Sk,Sj,Si,Sh,Sg,h1,hw,hx,ho,h2,h3,h4,h5,h6,h7,h8,h9,lj,bY,fo,F9,cons,List.length_take,dS,sQr,iQr,lQr,r1,r2,r3,r4,r5,ko,fQ,jt,dQ,l6,mg,gg,fx,VL,aN,aq,aM,bp,bV,an,ak,aj,af,aE,aL,bu,bq];have l1 : (o.drop i).length = v - i := by rw [dS,ho]
 rw [List.take_take,Nat.min_self,du (by omega : (o.drop i).length <= v - i),du (by simp; omega)]
theorem MH (l : List Int) (hl : l.length <= 500) (N : Nat) (hN : N <= 64) (R : Heap) (hR : Rest R) : ∀ (k v a : Nat) (o : List Int),v + k = N -> o.Perm (yp v) -> ∃ o' a',aW au (R.length + 1) (.loop Nk) ⟨[(0,.ptr 0 0),(1,.int .i64 N),(5,.own 1 (ints o)),(6,.int .i64 v)],dk l a :: R⟩ = some (.exit 0,⟨[(0,.ptr 0 0),(1,.int .i64 N),(5,.own 1 (ints o')),(6,.int .i64 N),(10,.bool false)],dk l a' :: R⟩) /\ o'.Perm (yp N)
 | 0,v,a,o,hi,hp => by
   obtain rfl : v = N := by omega
   refine ⟨o,a,bw ?_,hp⟩;obtain ⟨r1,r2,r3,r4,r5⟩ := hR;unfold Nk dk;simp [Sn,Sm,Sl,Sk,Sj,Si,Sh,Sg,r1,r2,r3,r4,r5,VL,aN,aq,aM,bp,bV,an,ak,aj,af,aE,aL,bu,bq]
 | k + 1,v,a,o,hi,hp => by
   have ho : o.length = v := by rw [hp.length_eq]; simp [yp]
   obtain ⟨i,a1,e1⟩ := VF l hl N hN R hR v a o (by omega) ho;obtain ⟨o',a',e2,hp2⟩ := MH l hl N hN R hR k (v + 1) a1 _ (by omega) (Zh hp i);exact ⟨o',a',(aY e1).trans e2,hp2⟩
theorem VT (l : List Int) (hl : l.length <= 500) (N : Nat) (hN : N <= 64) (R : Heap) (hR : Rest R) (a : Nat) : ∃ o a',br au nQj [.ptr 0 0,.int .i64 N] (dk l a :: R) = some (.list 1 (ints o),dk l a' :: R) /\ o.Perm (yp N) := by
 obtain ⟨o,a',e,hp⟩ := MH l hl N hN R hR N 0 a [] (by omega) (by simp [yp]);refine ⟨o,a',?_,hp⟩;have ho : o.length = N := by rw [hp.length_eq]; simp [yp]
 rw [fY,cV] at e;obtain ⟨r1,r2,r3,r4,r5⟩ := hR;rw [aV oQj sQj (aD rfl)];unfold dk at e ⊢;unfold qQj cQj;simp [Sn,Sm,Sl,Sk,Sj,Si,Sh,Sg,e,bY,uk,ko,mg,r1,r2,r3,r4,r5,VL,aN,aq,aM,bp,bV,an,ak,aj,af,aE,aL,bu,bq]
end Go.BmP
