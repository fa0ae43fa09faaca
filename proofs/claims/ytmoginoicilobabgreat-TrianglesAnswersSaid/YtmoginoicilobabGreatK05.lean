/- Bipartite graphs as bits: plain facts. -/
import Derived.Test.YtmoginoicilobabGreatGrfP
import Derived.Test.YtmoginoicilobabGreatUseM
import Derived.Test.YtmoginoicilobabGreatCfS
import Derived.Test.YtmoginoicilobabGreatR02d
set_option linter.unusedVariables false
set_option linter.unusedSimpArgs false
open Bool renaming eq_iff_iff → Gy
open List renaming append_assoc → bK, drop_eq_getElem_cons → bt, drop_length → dB, drop_zero → dN, getD_eq_getElem?_getD → aP, getElem?_eq_getElem → ai, length_append → bX, length_cons → bY, length_drop → c9, length_nil → iF, length_singleton → jZ, length_take → bh, mem_cons → aU, replicate → aO, singleton_append → jY, take_of_length_le → aL, take_take → yn
open Nat renaming le_of_ble_eq_true → ae, min_self → GH, testBit_two_pow → WH, zero_add → dM
open Option renaming getD_some → gI
namespace Go.Bm
open Go.Am
def us (l : List Nat) : List AV := l.map fun n => .int .u64 ((n : Nat) : Int)
theorem uV (l : List Nat) : (us l).length = l.length := List.length_map _
theorem PJ (l : List Nat) (i : Nat) : (us l)[i]? = (l[i]?).map (fun n => .int .u64 ((n : Nat) : Int)) := List.getElem?_map
theorem WZ (l : List Nat) (i n : Nat) : (us l).set i (.int .u64 (n : Int)) = us (l.set i n) := by simp [us,List.map_set]
theorem ae1 (n : Nat) : aO n (AV.int .u64 0) = us (aO n 0) := by simp [us]
theorem abh (l : List Nat) (n : Nat) : (us l).take n = us (l.take n) := by simp [us]
def Small (A : List Nat) : Prop := ∀ x ∈ A,x < 18446744073709551616
theorem yH {v : Int} (h : v < 64) (h0 : 0 <= v) : 2 ^ v.toNat < 18446744073709551616 := by
 have := Nat.pow_lt_pow_right (a := 2) (by decide) (show v.toNat < 64 by omega);exact this
def adF (A : List Nat) (e : Ed) : List Nat :=
 (A.set e.1.toNat (A.getD e.1.toNat 0 ||| 2 ^ e.2.toNat)).set e.2.toNat ((A.set e.1.toNat (A.getD e.1.toNat 0 ||| 2 ^ e.2.toNat)).getD e.2.toNat 0 ||| 2 ^ e.1.toNat)
theorem Gu (A : List Nat) (e : Ed) : (adF A e).length = A.length := by simp [adF]
theorem C5 {A : List Nat} (h : Small A) (i : Nat) : A.getD i 0 < 18446744073709551616 := by
 rw [aP];cases e : A[i]? with
 | none => simp
 | some x => exact h x (List.mem_of_getElem? e)
theorem zN {A : List Nat} (h : Small A) {i n : Nat} (hn : n < 18446744073709551616) : Small (A.set i n) := by
 intro x hx;rcases List.mem_or_eq_of_mem_set hx with h1 | h1
 ·exact h x h1
 ·omega
theorem IP {A : List Nat} (h : Small A) {e : Ed} (h1 : 0 <= e.1 /\ e.1 < 64) (h2 : 0 <= e.2 /\ e.2 < 64) : Small (adF A e) := by
 have s1 : Small (A.set e.1.toNat (A.getD e.1.toNat 0 ||| 2 ^ e.2.toNat)) := zN h (Nat.or_lt_two_pow (n := 64) (C5 h _) (yH h2.2 h2.1));exact zN s1 (Nat.or_lt_two_pow (n := 64) (C5 s1 _) (yH h1.2 h1.1))
theorem adu {A : List Nat} {e : Ed} (h1 : 0 <= e.1 /\ e.1.toNat < A.length) (h2 : 0 <= e.2 /\ e.2.toNat < A.length) (sO : e.1 ≠ e.2) (a b : Nat) : ((adF A e).getD a 0).testBit b = ((A.getD a 0).testBit b || (decide ((a : Int) = e.1 /\ (b : Int) = e.2) || decide ((a : Int) = e.2 /\ (b : Int) = e.1))) := by
 have hn : e.1.toNat ≠ e.2.toNat := by omega
 unfold adF;simp only [aP,List.getElem?_set,List.length_set,if_neg hn,if_neg (Ne.symm hn)];by_cases ha : e.2.toNat = a
 ·subst ha;rw [if_pos rfl,if_pos h2.2];simp only [gI,Nat.testBit_or,WH];congr 1;have e1 : ¬ ((e.2.toNat : Int) = e.1) := by omega
  have e2 : ((e.2.toNat : Int) = e.2) := by omega
  have e3 : ¬ (e.2 = e.1) := fun k => sO k.symm;simp only [e1,e2,e3,false_and,true_and,decide_false,Bool.false_or];rw [Gy,decide_eq_true_eq,decide_eq_true_eq]; omega
 ·rw [if_neg ha];have e2 : ¬ ((a : Int) = e.2) := by omega
  by_cases hb : e.1.toNat = a
  ·subst hb;rw [if_pos rfl,if_pos h1.2];simp only [gI,Nat.testBit_or,WH];congr 1;have e1 : ((e.1.toNat : Int) = e.1) := by omega
   have e3 : ¬ (e.1 = e.2) := sO;simp only [e1,e2,e3,false_and,true_and,decide_false,Bool.or_false];rw [Gy,decide_eq_true_eq,decide_eq_true_eq];omega
  ·rw [if_neg hb];have e1 : ¬ ((a : Int) = e.1) := by omega
   simp [e1,e2]
def uP (l : List Ed) (A : List Nat) : List Nat := l.foldl adF A
theorem Gq (N : Nat) (hN : N <= 64) : ∀ (l : List Ed) (A : List Nat),A.length = N -> Small A -> (∀ e ∈ l,0 <= e.1 /\ e.1 < e.2 /\ e.2 < (N : Int)) -> (uP l A).length = N /\ Small (uP l A) /\ ∀ a b : Nat,((uP l A).getD a 0).testBit b = ((A.getD a 0).testBit b || (decide (((a : Int),(b : Int)) ∈ l) || decide (((b : Int),(a : Int)) ∈ l)))
 | [],A,hl,hs,_ => ⟨hl,hs,fun a b => by simp [uP]⟩
 | e :: r,A,hl,hs,h => by
   have he := h e (by simp);obtain ⟨i1,i2,i3⟩ := Gq N hN r (adF A e) (by rw [Gu]; exact hl) (IP hs (by omega) (by omega)) (fun x hx => h x (by simp [hx]));refine ⟨i1,i2,fun a b => ?_⟩;show ((uP r (adF A e)).getD a 0).testBit b = _;rw [i3,adu (by omega) (by omega) (by omega)];rw [Gy];simp only [Bool.or_eq_true,decide_eq_true_eq,aU,Prod.ext_iff];constructor
   ·rintro ((h | (h | h)) | (h | h))
    ·exact .inl h
    ·exact .inr (.inl (.inl h))
    ·exact .inr (.inr (.inl ⟨h.2,h.1⟩))
    ·exact .inr (.inl (.inr h))
    ·exact .inr (.inr (.inr h))
   ·rintro (h | ((h | h) | (h | h)))
    ·exact .inl (.inl h)
    ·exact .inl (.inr (.inl h))
    ·exact .inr (.inl h)
    ·exact .inl (.inr (.inr ⟨h.2,h.1⟩))
    ·exact .inr (.inr h)
def comL (A : List Nat) (side : Nat) (l : List Int) : Nat := l.foldl (fun s v => s &&& A.getD v.toNat 0) side
structure BOK (N : Nat) (E : List Ed) (L : List Int) : Prop where
 n : N <= 64
 e : CC E /\ ∀ e ∈ E,0 <= e.1 /\ e.1 < e.2 /\ e.2 < (N : Int)
 l : Up L /\ ∀ x ∈ L,0 <= x /\ x < (N : Int)
 s : ∀ e ∈ E,e.1 ∈ L ↔ ¬ e.2 ∈ L
def jn (E : List Ed) (a b : Int) : Prop := (a,b) ∈ E \/ (b,a) ∈ E
instance (E : List Ed) (a b : Int) : Decidable (jn E a b) := by unfold jn; infer_instance
def o8 (N : Nat) (E : List Ed) : List Nat := uP E (aO N 0)
def rgt (N : Nat) (L : List Int) : Nat := (2 ^ N - 1) &&& (18446744073709551615 - msk L)
def cR (N : Nat) (E : List Ed) (L S : List Int) : Nat := comL (o8 N E) (rgt N L) (Pf (msk S))
def cL (N : Nat) (E : List Ed) (L : List Int) (r : Nat) : Nat := comL (o8 N E) (msk L) (Pf r)
def clR (N : Nat) (E : List Ed) (L S : List Int) : List Int := Pf (cR N E L S)
def clL (N : Nat) (E : List Ed) (L S : List Int) : List Int := Pf (cL N E L (cR N E L S))
end Go.Bm
/- What functions of cohesionmake return: Few, New, Mod, Next, Set. -/
set_option maxRecDepth 100000
set_option maxHeartbeats 4000000
namespace Go.BmP
open Go.Am Go.Bm
theorem nle1 (n : Nat) : (n + 1 <= n) ↔ False := ⟨fun h => by omega,False.elim⟩
theorem acE (l : List Int) : aY ak nQb [.list 1 (ints l)] [] = some (.bool (decide ((l.length : Int) <= 500)),[]) := by
 rw [aB oQb sQb (ae rfl)];unfold qQb cQb;simp [adQ,adP,aJ,av,aX,bV,dj,aD,aI,aG,aj,aM,bk,ba,aZ]
def dk (l : List Int) (at_ : Nat) : PB := some [.list 1 (ints l),.int .i64 at_]
theorem ack (x k : Int) (h0 : 0 < k) (h1 : k < 4611686018427387904) : (IntKind.i64.wrap (x.tmod k + k)).tmod k = x % k := by
 have e : x % k = (x.tmod k) % k := by
  have := Int.mul_tdiv_add_tmod x k
  conv => lhs; rw [<- this]
  rw [Int.add_comm,Int.add_mul_emod_self_left]
 have h2 := Int.tmod_lt_of_pos x h0
 have h3 : -k < x.tmod k := by
  have := Int.tmod_lt_of_pos (-x) h0;rw [Int.neg_tmod] at this;omega
 rw [cM (by omega) (by omega),Int.tmod_eq_emod_of_nonneg (by omega),e,Int.add_emod_right]
theorem Z3 (x k : Int) (h0 : 0 < k) (h1 : k < 4611686018427387904) : aY ak nQB [.int .i64 x,.int .i64 k] [] = some (.int .i64 (x % k),[]) := by
 rw [aB oQB sQB (ae rfl),<- ack x k h0 h1];have hk : ¬ k = 0 := by omega
 unfold qQB cQB;simp [aeg,aef,hk,aJ,av,aX,bV,dj,aD,aI,aG,aj,aM,bk,ba,aZ]
def vO (l : List Int) (a : Nat) (n : Int) : Int := if n < 1 then 0 else if l.length <= a then 0 else l.getD a 0 % n
def vh (l : List Int) (a : Nat) (n : Int) : Nat := if n < 1 then a else if l.length <= a then a else a + 1
theorem rn (l : List Int) (a : Nat) {n : Int} (h : 1 <= n) : 0 <= vO l a n /\ vO l a n < n := by
 unfold vO;rw [if_neg (by omega)];split
 ·omega
 ·exact ⟨Int.emod_nonneg _ (by omega),Int.emod_lt_of_pos _ (by omega)⟩
def Rest (R : Heap) : Prop := (∀ g,fy g R = R) /\ dz R = true /\ (∀ p b,borH p b R = none) /\ (∀ f,Gi f R = false) /\ ∀ p b,nM p b R = []
theorem Vq (l : List Int) (hl : l.length <= 500) (a : Nat) (n : Int) (hn : n < 4611686018427387904) (R : Heap) (hR : Rest R) : aY ak CQ [.ptr 0 0,.int .i64 n] (dk l a :: R) = some (.int .i64 (vO l a n),dk l (vh l a n) :: R) := by
 obtain ⟨r1,r2,r3,r4,r5⟩ := hR;rw [aB oQh Hk (ae rfl)];unfold qQh cQh vO vh dk;by_cases h0 : n < 1
 ·simp [Sp,Sn,Sm,Sl,Sk,Sj,h0,eB,fG,fP,r1,r2,r3,r4,r5,nle1,aJ,av,aX,bV,dj,aD,aI,aG,aj,aM,bk,ba,aZ]
 ·have h0' : ¬ n < 1 := h0;by_cases h1 : l.length <= a
  ·have VY : (l.length : Int) <= a := by omega
   simp [Sp,Sn,Sm,Sl,Sk,Sj,h0,h1,VY,eB,fG,fP,r1,r2,r3,r4,r5,nle1,aJ,av,aX,bV,dj,aD,aI,aG,aj,aM,bk,ba,aZ]
  ·have VY : ¬ (l.length : Int) <= a := by omega
   have h2 : a < l.length := by omega
   have h2' : (a : Int) < l.length := by omega
   have hw := fT (i := a) (by omega);have hm := Z3 l[a] n (by omega) hn;simp [Sp,Sn,Sm,Sl,Sk,Sj,h0,h1,VY,h2,h2',hw,hm,idx,sQB,iQB,lQB,eQB,eB,fG,fP,r1,r2,r3,r4,r5,nle1,aJ,av,aX,bV,dj,aD,aI,aG,aj,aM,bk,ba,aZ]
theorem fU (l : List Int) (hl : l.length <= 500) (a : Nat) (n : Int) (hn : n < 4611686018427387904) (R : Heap) (hR : Rest R) : aY ak CQ [.ptr 0 0,.int .i64 n] [dk l a] = some (.int .i64 (vO l a n),[dk l (vh l a n)]) := Vq l hl a n hn [] ⟨fun _ => rfl,rfl,fun _ _ => rfl,fun _ => rfl,fun _ _ => rfl⟩
/- What functions of cohesionref03 return: Before, edge, ends, with, Of, Check. -/
theorem Gd (a b : Ed) : aY ak nQZ [.agg [.int .i64 a.1,.int .i64 a.2],.agg [.int .i64 b.1,.int .i64 b.2]] [] = some (.bool (decide (vm a b)),[]) := by
 rw [aB oQZ sQZ (ae rfl)];unfold qQZ cQZ vm;by_cases h1 : a.1 < b.1
 ·simp [Nf,Nd,h1,aJ,av,aX,bV,dj,aD,aI,aG,aj,aM,bk,ba,aZ]
 ·by_cases h2 : a.1 = b.1
  ·by_cases h3 : a.2 < b.2
   ·simp [Nf,Nd,h1,h2,h3,aJ,av,aX,bV,dj,aD,aI,aG,aj,aM,bk,ba,aZ]
   ·simp [Nf,Nd,h1,h2,h3,aJ,av,aX,bV,dj,aD,aI,aG,aj,aM,bk,ba,aZ]
  ·simp [Nf,Nd,h1,h2,aJ,av,aX,bV,dj,aD,aI,aG,aj,aM,bk,ba,aZ]
theorem FF (u v : Int) : aY ak ZY [.int .i64 u,.int .i64 v] [] = some (.agg [.int .i64 (bw u v).1,.int .i64 (bw u v).2],[]) := by
 rw [aB oQW sQW (ae rfl)];unfold qQW cQW bw;simp [adU,adT,aJ,av,aX,bV,dj,aD,aI,aG,aj,aM,bk,ba,aZ]
theorem qG (n u v : Int) : aY ak nQU [.int .i64 n,.int .i64 u,.int .i64 v] [] = some (.bool (decide (0 <= u /\ 0 <= v /\ u < n /\ v < n /\ u ≠ v)),[]) := by
 rw [aB oQU sQU (ae rfl)];unfold qQU cQU;by_cases h1 : 0 <= u
 ·by_cases h2 : 0 <= v
  ·by_cases h3 : u < n
   ·by_cases h4 : v < n
    ·by_cases h5 : u = v
     ·subst h5;simp [Eg,Ef,h1,h3,aJ,av,aX,bV,dj,aD,aI,aG,aj,aM,bk,ba,aZ]
     ·simp [Eg,Ef,h1,h2,h3,h4,h5,aJ,av,aX,bV,dj,aD,aI,aG,aj,aM,bk,ba,aZ]
    ·simp [Eg,Ef,h1,h2,h3,h4,aJ,av,aX,bV,dj,aD,aI,aG,aj,aM,bk,ba,aZ]
   ·simp [Eg,Ef,h1,h2,h3,aJ,av,aX,bV,dj,aD,aI,aG,aj,aM,bk,ba,aZ]
  ·simp [Eg,Ef,h1,h2,aJ,av,aX,bV,dj,aD,aI,aG,aj,aM,bk,ba,aZ]
 ·simp [Eg,Ef,h1,aJ,av,aX,bV,dj,aD,aI,aG,aj,aM,bk,ba,aZ]
theorem He (x : Ed) (l : List Ed) (hl : l.length < 4294967296) : ∀ n i : Nat,i + n = l.length -> bL ak 0 (.loop Ol) ⟨[(0,.list 2 (bm l)),(3,.ptr 0 0),(5,.int .i64 i)],[some [.int .i64 x.1,.int .i64 x.2]]⟩ =
  some (.exit 0,⟨[(0,.list 2 (bm l)),(3,.ptr 0 0),(5,.int .i64 (i + dP x (l.drop i) : Nat)),(18,.bool false)],[some [.int .i64 x.1,.int .i64 x.2]]⟩)
 | 0,i,hi => by
   have e : i = l.length := by omega
   subst e;rw [dB];exact cj (by unfold Ol; simp [BJ,BI,BH,BG,BF,BE,BD,BC,dP,idx,aJ,av,aX,bV,dj,aD,aI,aG,aj,aM,bk,ba,aZ])
 | n + 1,i,hi => by
   have bO : i < l.length := by omega
   have h1 : (i : Int) < l.length := by omega
   have ih := He x l hl n (i + 1) (by omega);have hw := fT (i := i) (by omega);have hb := Gd l[i] x;rw [bt bO];unfold dP;by_cases hx : vm l[i] x
   ·have e : i + (dP x (l.drop (i + 1)) + 1) = i + 1 + dP x (l.drop (i + 1)) := by omega
    rw [if_pos hx,e];exact (bG (by unfold Ol; simp [BJ,BI,BH,BG,BF,BE,BD,BC,h1,bO,hb,hx,hw,idx,sQZ,iQZ,lQZ,eQZ,aJ,av,aX,bV,dj,aD,aI,aG,aj,aM,bk,ba,aZ])).trans ih
   ·rw [if_neg hx];exact cj (by unfold Ol; simp [BJ,BI,BH,BG,BF,BE,BD,BC,h1,bO,hb,hx,idx,sQZ,iQZ,lQZ,eQZ,aJ,av,aX,bV,dj,aD,aI,aG,aj,aM,bk,ba,aZ])
theorem WX (x : Ed) (l : List Ed) (hl : l.length < 4294967295) : aY ak nQV [.list 2 (bm l),.agg [.int .i64 x.1,.int .i64 x.2]] [] = some (.list 2 (bm (fE x l)),[]) := by
 rw [aB oQV sQV (ae rfl),EH];have h := He x l (by omega) l.length 0 (by omega);rw [iR,dN,dM] at h;have hp := yI x l;generalize dP x l = p at h hp ⊢;have hq : (p : Int) <= l.length := by omega
 have hm : min p l.length = p := by omega
 have hL1 : p <= 4294967296 := by omega
 have hL2 : p + 1 <= 4294967296 := by omega
 have hL3 : p + 1 + (l.length - p) <= 4294967296 := by omega
 unfold qQV cQV;by_cases bO : p < l.length
 ·have h1 : (p : Int) < l.length := by omega
  by_cases hx : l[p] = x
  ·have Lb : l[p].1 = x.1 := by rw [hx]
   have hx2 : l[p].2 = x.2 := by rw [hx]
   rw [if_pos (by rw [ai bO,hx])];simp [BJ,BI,BH,BG,BF,BE,BD,BC,h,h1,bO,Lb,hx2,idx,aJ,av,aX,bV,dj,aD,aI,aG,aj,aM,bk,ba,aZ]
  ·rw [if_neg (by rw [ai bO]; simpa using hx)];by_cases Lb : l[p].1 = x.1
   ·have hx2 : ¬ l[p].2 = x.2 := fun e => hx (Prod.ext Lb e);simp [BJ,BI,BH,BG,BF,BE,BD,BC,h,h1,bO,Lb,hx2,hp,hq,hm,hL1,hL2,hL3,idx,oO,FE,FD,KJ,jQ,bh,c9,aJ,av,aX,bV,dj,aD,aI,aG,aj,aM,bk,ba,aZ];simp (disch := (simp only [bh,bX,c9,jZ,bY,iF] <;> omega)) only [aL,yn,GH,bK,jY]
   ·simp [BJ,BI,BH,BG,BF,BE,BD,BC,h,h1,bO,Lb,hp,hq,hm,hL1,hL2,hL3,idx,oO,FE,FD,KJ,jQ,bh,c9,aJ,av,aX,bV,dj,aD,aI,aG,aj,aM,bk,ba,aZ];simp (disch := (simp only [bh,bX,c9,jZ,bY,iF] <;> omega)) only [aL,yn,GH,bK,jY]
 ·have h1 : ¬ (p : Int) < l.length := by omega
  rw [if_neg (by rw [List.getElem?_eq_none (by omega)]; simp)];simp [BJ,BI,BH,BG,BF,BE,BD,BC,h,h1,bO,hp,hq,hm,hL1,hL2,hL3,idx,oO,FE,FD,KJ,jQ,bh,c9,aJ,av,aX,bV,dj,aD,aI,aG,aj,aM,bk,ba,aZ];simp (disch := (simp only [bh,bX,c9,jZ,bY,iF] <;> omega)) only [aL,yn,GH,bK,jY]
/- What graph.Check and what it calls returns. -/
theorem agu (a b : Int) : aY ak NT [.list 1 [.int .i64 a,.int .i64 b]] [] = some (.int .i64 (if a = 0 then b else a),[]) := by
 rw [aB oQa7 sQa7 (ae rfl)];have t2 : IntKind.i64.wrap 2 = 2 := by decide
 have l3 : bL ak 0 (.loop rz) ⟨[(3,.int .i64 0),(6,.list 1 [.int .i64 a,.int .i64 b]),(7,.int .i64 2),(8,.int .i64 2)],[]⟩ = some (.exit 0,⟨[(3,.int .i64 0),(6,.list 1 [.int .i64 a,.int .i64 b]),(7,.int .i64 2),(8,.int .i64 2),(9,.bool false)],[]⟩) :=
  cj (by unfold rz; simp [rk,rj,rh,rf,re,rb,q9,q8,q7,aJ,av,aX,bV,dj,aD,aI,aG,aj,aM,bk,ba,aZ])
 have l2 : bL ak 0 (.loop rz) ⟨[(3,.int .i64 0),(6,.list 1 [.int .i64 a,.int .i64 b]),(7,.int .i64 2),(8,.int .i64 1)],[]⟩ = if b = 0 then some (.exit 0,⟨[(3,.int .i64 0),(6,.list 1 [.int .i64 a,.int .i64 b]),(7,.int .i64 2),(8,.int .i64 2),(9,.bool false)],[]⟩) else some (.ret,⟨[(2,.int .i64 b)],[]⟩) := by
  by_cases hb : b = 0
  ·subst hb;rw [if_pos rfl];exact (bG (by unfold rz; simp [rk,rj,rh,rf,re,rb,q9,q8,q7,idx,t2,aJ,av,aX,bV,dj,aD,aI,aG,aj,aM,bk,ba,aZ])).trans l3
  ·rw [if_neg hb];exact gr (by unfold rz; simp [rk,rj,rh,rf,re,rb,q9,q8,q7,hb,idx,aJ,av,aX,bV,dj,aD,aI,aG,aj,aM,bk,ba,aZ])
 have l1 : bL ak 0 (.loop rz) ⟨[(3,.int .i64 0),(6,.list 1 [.int .i64 a,.int .i64 b]),(7,.int .i64 2),(8,.int .i64 0)],[]⟩ = if a = 0 then (if b = 0 then some (.exit 0,⟨[(3,.int .i64 0),(6,.list 1 [.int .i64 a,.int .i64 b]),(7,.int .i64 2),(8,.int .i64 2),(9,.bool false)],[]⟩) else some (.ret,⟨[(2,.int .i64 b)],[]⟩)) else some (.ret,⟨[(2,.int .i64 a)],[]⟩) := by
  by_cases ha : a = 0
  ·subst ha;rw [if_pos rfl];exact (bG (by unfold rz; simp [rk,rj,rh,rf,re,rb,q9,q8,q7,idx,aJ,av,aX,bV,dj,aD,aI,aG,aj,aM,bk,ba,aZ])).trans l2
  ·rw [if_neg ha];exact gr (by unfold rz; simp [rk,rj,rh,rf,re,rb,q9,q8,q7,ha,idx,aJ,av,aX,bV,dj,aD,aI,aG,aj,aM,bk,ba,aZ])
 clear l2 l3;unfold qQa7 cQa7;by_cases ha : a = 0
 ·subst ha;rw [if_pos rfl] at l1;by_cases hb : b = 0
  ·subst hb;rw [if_pos rfl] at l1;simp [rk,rj,rh,rf,re,rb,q9,q8,q7,l1,aJ,av,aX,bV,dj,aD,aI,aG,aj,aM,bk,ba,aZ]
  ·rw [if_neg hb] at l1;simp [rk,rj,rh,rf,re,rb,q9,q8,q7,l1,hb,aJ,av,aX,bV,dj,aD,aI,aG,aj,aM,bk,ba,aZ]
 ·rw [if_neg ha] at l1;simp [rk,rj,rh,rf,re,rb,q9,q8,q7,l1,ha,aJ,av,aX,bV,dj,aD,aI,aG,aj,aM,bk,ba,aZ]
def Co (a b : Ed) : Int := if FO a.1 b.1 = 0 then FO a.2 b.2 else FO a.1 b.1
theorem J2 (a b : Ed) : 0 <= Co a b ↔ ¬ vm a b := by
 unfold Co FO vm;by_cases h1 : a.1 < b.1
 ·simp [h1]
 ·by_cases h2 : b.1 < a.1
  ·have : ¬ a.1 = b.1 := by omega
   simp [h1,h2,this]
  ·have : a.1 = b.1 := by omega
   simp only [h1,h2,this,if_false,if_true,true_and,false_or];by_cases h3 : a.2 < b.2
   ·simp [h3]
   ·by_cases h4 : b.2 < a.2 <;> simp [h3,h4]
theorem Ai (a b : Ed) : aY ak ZX [.agg [.int .i64 a.1,.int .i64 a.2],.agg [.int .i64 b.1,.int .i64 b.2]] [] = some (.int .i64 (Co a b),[]) := by
 rw [aB oQX sQX (ae rfl)];have c1 := uC a.1 b.1;have c2 := uC a.2 b.2;have c3 := agu (FO a.1 b.1) (FO a.2 b.2);unfold qQX cQX Co;simp [adS,adR,c1,c2,c3,Xx,iQa8,lQa8,eQa8,sQa7,iQa7,lQa7,eQa7,aJ,av,aX,bV,dj,aD,aI,aG,aj,aM,bk,ba,aZ]
def kQ (l : List Ed) (i : Nat) : Option Ed := if i = 0 then none else l[i - 1]?
theorem rl (l : List Ed) : kQ l 0 = none := rfl
theorem lL (l : List Ed) (i : Nat) (h : i < l.length) : kQ l (i + 1) = some l[i] := by simp [kQ,h]
theorem Ii (m : Int) (l : List Ed) (hl : l.length < 4294967297) : ∀ n i : Nat,i + n = l.length -> bL ak 0 (.loop y5) ⟨[(1,.ptr 0 0),(14,.list 2 (bm l)),(15,.int .i64 l.length),(16,.int .i64 i)],[some [.int .i64 m,.list 2 (bm l)]]⟩ =
  if fe m (kQ l i) (l.drop i) = 0 then some (.exit 0,⟨[(1,.ptr 0 0),(14,.list 2 (bm l)),(15,.int .i64 l.length),(16,.int .i64 l.length),(17,.bool false)],[some [.int .i64 m,.list 2 (bm l)]]⟩) else some (.ret,⟨[(2,.int .i64 (fe m (kQ l i) (l.drop i)))],[]⟩)
 | 0,i,hi => by
   have e : i = l.length := by omega
   subst e;rw [dB];exact cj (by unfold y5; simp [sN,sM,sL,sK,sJ,sI,sG,sF,sD,sC,mW,mV,aJ,av,aX,bV,dj,aD,aI,aG,aj,aM,bk,ba,aZ])
 | n + 1,i,hi => by
   have bO : i < l.length := by omega
   have h1 : (i : Int) < l.length := by omega
   have ih := Ii m l hl n (i + 1) (by omega);have hw := fT (i := i) (by omega);rw [lL l i bO] at ih;rw [bt bO];by_cases ha : l[i].1 < 0
   ·have e : fe m (kQ l i) (l[i] :: l.drop (i + 1)) = 6 := by unfold fe; rw [if_pos (.inl ha)]
    rw [e];exact gr (by unfold y5; simp [sN,sM,sL,sK,sJ,sI,sG,sF,sD,sC,mW,mV,h1,bO,ha,idx,aJ,av,aX,bV,dj,aD,aI,aG,aj,aM,bk,ba,aZ])
   by_cases hb : l[i].2 <= l[i].1
   ·have e : fe m (kQ l i) (l[i] :: l.drop (i + 1)) = 6 := by unfold fe; rw [if_pos (.inr (.inl hb))]
    rw [e];exact gr (by unfold y5; simp [sN,sM,sL,sK,sJ,sI,sG,sF,sD,sC,mW,mV,h1,bO,ha,hb,idx,aJ,av,aX,bV,dj,aD,aI,aG,aj,aM,bk,ba,aZ])
   by_cases hc : m <= l[i].2
   ·have e : fe m (kQ l i) (l[i] :: l.drop (i + 1)) = 6 := by unfold fe; rw [if_pos (.inr (.inr hc))]
    rw [e];exact gr (by unfold y5; simp [sN,sM,sL,sK,sJ,sI,sG,sF,sD,sC,mW,mV,h1,bO,ha,hb,hc,idx,aJ,av,aX,bV,dj,aD,aI,aG,aj,aM,bk,ba,aZ])
   have hn : ¬ (l[i].1 < 0 \/ l[i].2 <= l[i].1 \/ m <= l[i].2) := by omega
   cases i with
   | zero =>
     have e : fe m (kQ l 0) (l[0] :: l.drop (0 + 1)) = fe m (some l[0]) (l.drop (0 + 1)) := by
      conv => lhs; unfold fe
      rw [if_neg hn,rl,if_neg (show ¬ Ge none l[0] from fun h => h)]
     rw [e];exact (bG (by unfold y5; simp [sN,sM,sL,sK,sJ,sI,sG,sF,sD,sC,mW,mV,h1,bO,ha,hb,hc,hw,idx,aJ,av,aX,bV,dj,aD,aI,aG,aj,aM,bk,ba,aZ])).trans ih
   | succ j =>
     have hj : j < l.length := by omega
     have VT : (j : Int) < l.length := by omega
     have hp : (0 : Int) < (j : Int) + 1 := by omega
     have hp0 : (0 : Int) <= (j : Int) + 1 := by omega
     have hw2 := RG (i := j) (by omega);have h1 : (j : Int) + 1 < l.length := by omega
     have hw : IntKind.i64.wrap ((j : Int) + 1 + 1) = (j : Int) + 1 + 1 := adz (j := j + 1 + 1) rfl (by omega);have ho := Ai l[j] l[j + 1];by_cases hd : 0 <= Co l[j] l[j + 1]
     ·have e : fe m (kQ l (j + 1)) (l[j + 1] :: l.drop (j + 1 + 1)) = 5 := by
       unfold fe;rw [if_neg hn,lL l j hj,if_pos (show Ge (some l[j]) l[j + 1] from (J2 _ _).1 hd)]
      rw [e];exact gr (by unfold y5; simp [sN,sM,sL,sK,sJ,sI,sG,sF,sD,sC,mW,mV,h1,bO,ha,hb,hc,hj,VT,hp,hp0,hw2,ho,hd,idx,sQX,iQX,lQX,eQX,aJ,av,aX,bV,dj,aD,aI,aG,aj,aM,bk,ba,aZ])
     ·have hlt' : vm l[j] l[j + 1] := by
       apply Decidable.not_not.1;exact fun k => hd ((J2 _ _).2 k)
      have e : fe m (kQ l (j + 1)) (l[j + 1] :: l.drop (j + 1 + 1)) = fe m (some l[j + 1]) (l.drop (j + 1 + 1)) := by
       conv => lhs; unfold fe
       rw [if_neg hn,lL l j hj,if_neg (show ¬ Ge (some l[j]) l[j + 1] from fun k => k hlt')]
      rw [e];exact (bG (by unfold y5; simp [sN,sM,sL,sK,sJ,sI,sG,sF,sD,sC,mW,mV,h1,bO,ha,hb,hc,hj,VT,hp,hp0,hw,hw2,ho,hd,idx,sQX,iQX,lQX,eQX,aJ,av,aX,bV,dj,aD,aI,aG,aj,aM,bk,ba,aZ])).trans ih
theorem gz (m : Int) (l : List Ed) (hl : l.length < 4294967297) : aY ak QJ [.agg [.int .i64 m,.list 2 (bm l)]] [] = some (.int .i64 (rI m l),[]) := by
 rw [aB oQC Jc (ae rfl)];have h := Ii m l hl l.length 0 (by omega);rw [iR,dN,rl] at h;unfold qQC cQC rI;by_cases ha : m < 0
 ·simp [sN,sM,sL,sK,sJ,sI,sG,sF,sD,sC,mW,mV,ha,aJ,av,aX,bV,dj,aD,aI,aG,aj,aM,bk,ba,aZ]
 by_cases hb : 64 < m
 ·simp [sN,sM,sL,sK,sJ,sI,sG,sF,sD,sC,mW,mV,ha,hb,aJ,av,aX,bV,dj,aD,aI,aG,aj,aM,bk,ba,aZ]
 rw [if_neg (by omega)];by_cases hc : fe m none l = 0
 ·rw [if_pos hc] at h;rw [hc];simp [sN,sM,sL,sK,sJ,sI,sG,sF,sD,sC,mW,mV,ha,hb,h,aJ,av,aX,bV,dj,aD,aI,aG,aj,aM,bk,ba,aZ]
 ·rw [if_neg hc] at h;simp [sN,sM,sL,sK,sJ,sI,sG,sF,sD,sC,mW,mV,ha,hb,h,aJ,av,aX,bV,dj,aD,aI,aG,aj,aM,bk,ba,aZ]
/- What functions of cohesionref03 return: Of, Check, Find. -/
def ofSt (n : Int) (l : List Ed) (E : AV) (i : Int) : St := ⟨[(0,.int .i64 n),(4,.ptr 0 0),(6,.ptr 1 0),(18,.list 2 (bm l)),(19,.int .i64 l.length),(20,.int .i64 i)],[some [.int .i64 0,.own 2 []],some [.int .i64 n,E]]⟩
def aiL (n : Int) (l : List Ed) (E : AV) : St := ⟨[(0,.int .i64 n),(4,.ptr 0 0),(6,.ptr 1 0),(18,.list 2 (bm l)),(19,.int .i64 l.length),(20,.int .i64 l.length),(21,.bool false)],[some [.int .i64 0,.own 2 []],some [.int .i64 n,E]]⟩
theorem Ho (m : Int) (l : List Ed) (hl : l.length < 4294967297) : ∀ n i : Nat,i + n = l.length -> bL ak 0 (.loop yZ) ⟨[(1,.ptr 0 0),(14,.list 2 (bm l)),(15,.int .i64 l.length),(16,.int .i64 i)],[some [.int .i64 m,.list 2 (bm l)]]⟩ =
  if fe m (kQ l i) (l.drop i) = 0 then some (.exit 0,⟨[(1,.ptr 0 0),(14,.list 2 (bm l)),(15,.int .i64 l.length),(16,.int .i64 l.length),(17,.bool false)],[some [.int .i64 m,.list 2 (bm l)]]⟩) else some (.ret,⟨[(2,.int .i64 (fe m (kQ l i) (l.drop i)))],[]⟩)
 | 0,i,hi => by
   have e : i = l.length := by omega
   subst e;rw [dB];exact cj (by unfold yZ; simp [sB,sA,sx,ss,sq,sk,sj,si,sg,sd,mU,mT,aJ,av,aX,bV,dj,aD,aI,aG,aj,aM,bk,ba,aZ])
 | n + 1,i,hi => by
   have bO : i < l.length := by omega
   have h1 : (i : Int) < l.length := by omega
   have ih := Ho m l hl n (i + 1) (by omega);have hw := fT (i := i) (by omega);rw [lL l i bO] at ih;rw [bt bO];by_cases ha : l[i].1 < 0
   ·have e : fe m (kQ l i) (l[i] :: l.drop (i + 1)) = 6 := by unfold fe; rw [if_pos (.inl ha)]
    rw [e];exact gr (by unfold yZ; simp [sB,sA,sx,ss,sq,sk,sj,si,sg,sd,mU,mT,h1,bO,ha,idx,aJ,av,aX,bV,dj,aD,aI,aG,aj,aM,bk,ba,aZ])
   by_cases hb : l[i].2 <= l[i].1
   ·have e : fe m (kQ l i) (l[i] :: l.drop (i + 1)) = 6 := by unfold fe; rw [if_pos (.inr (.inl hb))]
    rw [e];exact gr (by unfold yZ; simp [sB,sA,sx,ss,sq,sk,sj,si,sg,sd,mU,mT,h1,bO,ha,hb,idx,aJ,av,aX,bV,dj,aD,aI,aG,aj,aM,bk,ba,aZ])
   by_cases hc : m <= l[i].2
   ·have e : fe m (kQ l i) (l[i] :: l.drop (i + 1)) = 6 := by unfold fe; rw [if_pos (.inr (.inr hc))]
    rw [e];exact gr (by unfold yZ; simp [sB,sA,sx,ss,sq,sk,sj,si,sg,sd,mU,mT,h1,bO,ha,hb,hc,idx,aJ,av,aX,bV,dj,aD,aI,aG,aj,aM,bk,ba,aZ])
   have hn : ¬ (l[i].1 < 0 \/ l[i].2 <= l[i].1 \/ m <= l[i].2) := by omega
   cases i with
   | zero =>
     have e : fe m (kQ l 0) (l[0] :: l.drop (0 + 1)) = fe m (some l[0]) (l.drop (0 + 1)) := by
      conv => lhs; unfold fe
      rw [if_neg hn,rl,if_neg (show ¬ Ge none l[0] from fun h => h)]
     rw [e];exact (bG (by unfold yZ; simp [sB,sA,sx,ss,sq,sk,sj,si,sg,sd,mU,mT,h1,bO,ha,hb,hc,hw,idx,aJ,av,aX,bV,dj,aD,aI,aG,aj,aM,bk,ba,aZ])).trans ih
   | succ j =>
     have hj : j < l.length := by omega
     have VT : (j : Int) < l.length := by omega
     have hp : (0 : Int) < (j : Int) + 1 := by omega
     have hp0 : (0 : Int) <= (j : Int) + 1 := by omega
     have hw2 := RG (i := j) (by omega);have h1 : (j : Int) + 1 < l.length := by omega
     have hw : IntKind.i64.wrap ((j : Int) + 1 + 1) = (j : Int) + 1 + 1 := adz (j := j + 1 + 1) rfl (by omega);have ho := Gd l[j] l[j + 1];by_cases hd : vm l[j] l[j + 1]
     ·have e : fe m (kQ l (j + 1)) (l[j + 1] :: l.drop (j + 1 + 1)) = fe m (some l[j + 1]) (l.drop (j + 1 + 1)) := by
       conv => lhs; unfold fe
       rw [if_neg hn,lL l j hj,if_neg (show ¬ Ge (some l[j]) l[j + 1] from fun k => k hd)]
      rw [e];exact (bG (by unfold yZ; simp [sB,sA,sx,ss,sq,sk,sj,si,sg,sd,mU,mT,h1,bO,ha,hb,hc,hj,VT,hp,hp0,hw,hw2,ho,hd,idx,sQZ,iQZ,lQZ,eQZ,aJ,av,aX,bV,dj,aD,aI,aG,aj,aM,bk,ba,aZ])).trans ih
     ·have e : fe m (kQ l (j + 1)) (l[j + 1] :: l.drop (j + 1 + 1)) = 5 := by
       unfold fe;rw [if_neg hn,lL l j hj,if_pos (show Ge (some l[j]) l[j + 1] from hd)]
      rw [e];exact gr (by unfold yZ; simp [sB,sA,sx,ss,sq,sk,sj,si,sg,sd,mU,mT,h1,bO,ha,hb,hc,hj,VT,hp,hp0,hw2,ho,hd,idx,sQZ,iQZ,lQZ,eQZ,aJ,av,aX,bV,dj,aD,aI,aG,aj,aM,bk,ba,aZ])
theorem kb (m : Int) (l : List Ed) (hl : l.length < 4294967297) : aY ak WM [.agg [.int .i64 m,.list 2 (bm l)]] [] = some (.int .i64 (rI m l),[]) := by
 rw [aB oQE U7 (ae rfl)];have h := Ho m l hl l.length 0 (by omega);rw [iR,dN,rl] at h;unfold qQE cQE rI;by_cases ha : m < 0
 ·simp [sB,sA,sx,ss,sq,sk,sj,si,sg,sd,mU,mT,ha,aJ,av,aX,bV,dj,aD,aI,aG,aj,aM,bk,ba,aZ]
 by_cases hb : 64 < m
 ·simp [sB,sA,sx,ss,sq,sk,sj,si,sg,sd,mU,mT,ha,hb,aJ,av,aX,bV,dj,aD,aI,aG,aj,aM,bk,ba,aZ]
 rw [if_neg (by omega)];by_cases hc : fe m none l = 0
 ·rw [if_pos hc] at h;rw [hc];simp [sB,sA,sx,ss,sq,sk,sj,si,sg,sd,mU,mT,ha,hb,h,aJ,av,aX,bV,dj,aD,aI,aG,aj,aM,bk,ba,aZ]
 ·rw [if_neg hc] at h;simp [sB,sA,sx,ss,sq,sk,sj,si,sg,sd,mU,mT,ha,hb,h,aJ,av,aX,bV,dj,aD,aI,aG,aj,aM,bk,ba,aZ]
theorem Iq (x : Ed) (u v : Int) (hx : bw u v = x) (l : List Ed) (hl : l.length < 4294967297) : ∀ n i : Nat,i + n = l.length -> bL ak 0 (.loop Az) ⟨[(1,.int .i64 u),(2,.int .i64 v),(13,.list 2 (bm l)),(14,.int .i64 l.length),(15,.int .i64 i)],[]⟩ =
  if x ∈ l.drop i then some (.ret,⟨[(6,.int .i64 (i + (l.drop i).idxOf x : Nat))],[]⟩) else some (.exit 0,⟨[(1,.int .i64 u),(2,.int .i64 v),(13,.list 2 (bm l)),(14,.int .i64 l.length),(15,.int .i64 l.length),(16,.bool false)],[]⟩)
 | 0,i,hi => by
   have e : i = l.length := by omega
   subst e;rw [dB,if_neg (by simp)];exact cj (by unfold Az; simp [xt,xq,xp,xn,xm,xl,xk,xj,xh,xg,aJ,av,aX,bV,dj,aD,aI,aG,aj,aM,bk,ba,aZ])
 | n + 1,i,hi => by
   have bO : i < l.length := by omega
   have h1 : (i : Int) < l.length := by omega
   have ih := Iq x u v hx l hl n (i + 1) (by omega);have hw := fT (i := i) (by omega);have hg := FF u v;rw [hx] at hg;rw [bt bO];by_cases he : l[i] = x
   ·have Lb : l[i].1 = x.1 := by rw [he]
    have hx2 : l[i].2 = x.2 := by rw [he]
    rw [if_pos (by rw [he]; exact List.mem_cons_self),show (l[i] :: l.drop (i + 1)).idxOf x = 0 by rw [he]; exact List.idxOf_cons_self];exact gr (by unfold Az; simp [xt,xq,xp,xn,xm,xl,xk,xj,xh,xg,h1,bO,hg,Lb,hx2,idx,sQW,iQW,lQW,eQW,aJ,av,aX,bV,dj,aD,aI,aG,aj,aM,bk,ba,aZ])
   ·have he2 : ¬ x = l[i] := fun e => he e.symm;rw [show (l[i] :: l.drop (i + 1)).idxOf x = (l.drop (i + 1)).idxOf x + 1 by simp only [List.idxOf_cons]; rw [show (l[i] == x) = false by simpa using he]; rfl,show i + ((l.drop (i + 1)).idxOf x + 1) = i + 1 + (l.drop (i + 1)).idxOf x by omega];simp only [aU,he2,false_or];by_cases Lb : l[i].1 = x.1
    ·have hx2 : ¬ l[i].2 = x.2 := fun e => he (Prod.ext Lb e);exact (bG (by unfold Az; simp [xt,xq,xp,xn,xm,xl,xk,xj,xh,xg,h1,bO,hg,Lb,hx2,hw,idx,sQW,iQW,lQW,eQW,aJ,av,aX,bV,dj,aD,aI,aG,aj,aM,bk,ba,aZ])).trans ih
    ·exact (bG (by unfold Az; simp [xt,xq,xp,xn,xm,xl,xk,xj,xh,xg,h1,bO,hg,Lb,hw,idx,sQW,iQW,lQW,eQW,aJ,av,aX,bV,dj,aD,aI,aG,aj,aM,bk,ba,aZ])).trans ih
theorem zh (m : Int) (l : List Ed) (hl : l.length < 4294967297) (hG : gK m l) (u v : Int) : aY ak Ki [.agg [.int .i64 m,.list 2 (bm l)],.int .i64 u,.int .i64 v] [] = some (.int .i64 (if bw u v ∈ l then (l.idxOf (bw u v) : Int) else -1),[]) := by
 rw [aB oQa5 U5 (ae rfl)];have hc := kb m l hl;rw [eK.2 hG] at hc;have h := Iq (bw u v) u v rfl l hl l.length 0 (by omega);rw [iR,dN,dM] at h;unfold qQa5 cQa5;by_cases hx : bw u v ∈ l
 ·rw [if_pos hx] at h;simp [xt,xq,xp,xn,xm,xl,xk,xj,xh,xg,h,hc,hx,U7,WO,WN,WR,aJ,av,aX,bV,dj,aD,aI,aG,aj,aM,bk,ba,aZ]
 ·rw [if_neg hx] at h;simp [xt,xq,xp,xn,xm,xl,xk,xj,xh,xg,h,hc,hx,U7,WO,WN,WR,aJ,av,aX,bV,dj,aD,aI,aG,aj,aM,bk,ba,aZ]
end Go.BmP
