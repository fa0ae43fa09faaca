/- What graph.Remove and triangles.Delete return. -/
import Derived.Test.YtmoginoicilobabGreatUseM
import Derived.Test.YtmoginoicilobabGreatV04
import Derived.Test.YtmoginoicilobabGreatTnP
set_option linter.unusedSimpArgs false
set_option linter.unusedVariables false
set_option maxRecDepth 100000
set_option maxHeartbeats 4000000
open Classical renaming em → mG
open List renaming getD_eq_getElem?_getD → aP, getElem?_eq_getElem → ai, nodup_cons → IW, take_of_length_le → aL
open List.Pairwise renaming imp → qb
open Nat renaming add_mul → cq, le_of_ble_eq_true → ae, mul_assoc → iN, mul_comm → ff, mul_zero → ta, zero_mul → fY
open Option.some renaming inj → cK
namespace Go.BmP
open Go.Am Go.Bm
def kL (x : Ed) (Es : List Ed) : List Ed := Es.take (dP x Es) ++ Es.drop (dP x Es + 1)
def Vb (N : Nat) (Es : List Ed) (u v : Int) : AV := if eM N u v then (if bw u v ∈ Es then .dD [.agg [.int .i64 N,.list 2 (bm (kL (bw u v) Es))],.int .i64 0] else .dD [.agg [.int .i64 0,.list 2 []],.int .i64 7]) else .dD [.agg [.int .i64 0,.list 2 []],.int .i64 6]
theorem P6 (N : Nat) (Es : List Ed) (hG : gK (N : Int) Es) (hE : Es.length < 1000000) (u v : Int) : aY ak nQS [.agg [.int .i64 N,.list 2 (bm Es)],.int .i64 u,.int .i64 v] [] = some (Vb N Es u v,[]) := by
 have ch := FU N Es hG hE u v;have pr := HN (N : Int) Es hE hG.2.1 u v;have pm := CL (x := bw u v) hG.2.1;have pl := yI (bw u v) Es;unfold Vb kL;rw [aB oQS sQS (ae rfl)];unfold qQS cQS;by_cases q : eM N u v
 ·rw [if_pos q] at ch ⊢;by_cases m : bw u v ∈ Es
  ·rw [decide_eq_true m] at pr;rw [if_pos m]
   have bO : dP (bw u v) Es < Es.length := by
    have := pm.1 m;rcases Nat.lt_or_ge (dP (bw u v) Es) Es.length with h | h
    ·exact h
    ·rw [List.getElem?_eq_none h] at this; cases this
   clear pm;have cl := x8 Es hE
   have dg : O3 2 (bm Es) [.int .i64 (dP (bw u v) Es),.int .i64 ((dP (bw u v) Es : Nat) + 1)] = some (bm (Es.take (dP (bw u v) Es) ++ Es.drop (dP (bw u v) Es + 1))) := by
    unfold O3;simp only;have l5 := av Es;have e1 : ((dP (bw u v) Es : Nat) : Int).toNat = dP (bw u v) Es := by omega
    rw [if_pos ⟨trivial,by omega,by rw [e1,l5]; exact bO,trivial,by rw [l5]; show Es.length <= 4294967296; omega⟩,e1];simp [bm,dj]
   have wk := fT (i := dP (bw u v) Es) (by omega);have cE := aI Es;have g5 := av Es;generalize dP (bw u v) Es = k at *;have tkE : (bm Es).take Es.length = bm Es := aL (by omega);have gk := av (Es.take k ++ Es.drop (k + 1));have tk2 : (bm (Es.take k ++ Es.drop (k + 1))).take (Es.take k ++ Es.drop (k + 1)).length = bm (Es.take k ++ Es.drop (k + 1)) := aL (by omega);generalize Es.take k ++ Es.drop (k + 1) = Fs at *;generalize bm Fs = Y2 at *;generalize bm Es = Y at *;simp [SA,Sz,Sy,Sx,Sw,Sv,Su,Ss,ch,pr,cl,dg,wk,cE,g5,gk,tkE,tk2,G5,Cz,OY,fK,clean,jQ,PY,VM,VD,We,Xy,iQa1,lQa1,eQa1,sQ6,iQ6,lQ6,eQ6,sQa6,iQa6,lQa6,eQa6,aJ,fG,dx,dz,bp,fi,fP,bZ,bU,dK,pl,eT,bQ,dH,cO,ba,aZ,eB]
  ·rw [decide_eq_false m] at pr;rw [if_neg m];clear pm;generalize dP (bw u v) Es = k at *;generalize bm Es = Y at *;simp [SA,Sz,Sy,Sx,Sw,Sv,Su,Ss,ch,pr,PY,VM,VD,We,Xy,iQa1,lQa1,eQa1,aJ,fG,dx,dz,bp,fi,fP,bZ,bU,dK,pl,ba,aZ,eB]
 ·rw [if_neg q] at ch ⊢;generalize bm Es = Y at *;simp [SA,Sz,Sy,Sx,Sw,Sv,Su,Ss,ch,PY,VM,VD,We,aJ,fG,dx,dz,bp,fi,fP,bZ,bU,dK,pl,ba,aZ,eB]
theorem LB {N : Nat} {Es : List Ed} (hG : gK (N : Int) Es) (hE : Es.length < 1000000) (u v : Int) : aY ak ZO [fh N Es ((fw N Es : Int) / 3) (du N Es),.int .i64 u,.int .i64 v] [] =
  some (if eM N u v then (if bw u v ∈ Es then .dD [fh N (kL (bw u v) Es) ((fw N Es : Int) / 3 - (gF N Es (u,v)).length) (WS (du N Es) (gF N Es (u,v)) u.toNat v.toNat (-1)),.int .i64 ((gF N Es (u,v)).length : Nat),.int .i64 0] else .dD [jW,.int .i64 0,.int .i64 7]) else .dD [jW,.int .i64 0,.int .i64 6],[]) := by
 obtain ⟨cb,nl,nb⟩ := RI hG hE;have hN := hG.1;have va := wj hG hE ((fw N Es : Int) / 3) (du N Es) (by omega);rw [decide_eq_true rfl,decide_eq_true rfl] at va;have ad := P6 N Es hG hE u v;unfold Vb at ad;by_cases q : eM N u v
 ·rw [if_pos q] at ad ⊢;by_cases m : bw u v ∈ Es
  ·rw [if_pos m] at ad ⊢;have ch := Ch hG hE (kL (bw u v) Es) ((fw N Es : Int) / 3) (by omega) (du N Es) nl nb u.toNat v.toNat (by have := q.2.1; omega) (by have := q.2.2; omega) (-1) (.inr rfl);rw [show ((u.toNat : Nat) : Int) = u by have := q.2.1; omega,show ((v.toNat : Nat) : Int) = v by have := q.2.2; omega,Int.neg_mul,Int.one_mul,<- Int.sub_eq_add_neg] at ch;rw [aB oQy sQy (ae rfl)];unfold qQy cQy;unfold fh at va ch ⊢;generalize ints (WS (du N Es) (gF N Es (u,v)) u.toNat v.toNat (-1)) = tM at *;generalize ints (du N Es) = tN at *;generalize (fw N Es : Int) / 3 = tS at *;generalize bm (kL (bw u v) Es) = Y2 at *;generalize bm Es = Y at *;generalize (gF N Es (u,v)).length = n at *;simp [Me,Mc,Mb,Ma,L9,L8,L7,va,ad,ch,Xu,iQs,lQs,eQs,sQS,iQS,lQS,eQS,sQQ,iQQ,lQQ,eQQ,aJ,fG,dx,dz,bp,fi,fP,bZ,bU,dK,pl,eT,bQ,dH,cO,ba,aZ,eB]
  ·rw [if_neg m] at ad ⊢;rw [aB oQy sQy (ae rfl)];unfold qQy cQy jW;unfold fh at va ⊢;generalize ints (du N Es) = tN at *;generalize (fw N Es : Int) / 3 = tS at *;generalize bm Es = Y at *;simp [Me,Mc,Mb,Ma,L9,L8,L7,va,ad,Xu,iQs,lQs,eQs,sQS,iQS,lQS,eQS,aJ,fG,dx,dz,bp,fi,fP,bZ,bU,dK,pl,eT,bQ,dH,cO,ba,aZ,eB]
 ·rw [if_neg q] at ad ⊢;rw [aB oQy sQy (ae rfl)];unfold qQy cQy jW;unfold fh at va ⊢;generalize ints (du N Es) = tN at *;generalize (fw N Es : Int) / 3 = tS at *;generalize bm Es = Y at *;simp [Me,Mc,Mb,Ma,L9,L8,L7,va,ad,Xu,iQs,lQs,eQs,sQS,iQS,lQS,eQS,aJ,fG,dx,dz,bp,fi,fP,bZ,bU,dK,pl,eT,bQ,dH,cO,ba,aZ,eB]
/- What an edge more does to the numbers of triangles: plain law. -/
theorem J6 {x y : Int} (n : x ≠ y) : (x < y /\ bw x y = (x,y)) \/ (y < x /\ bw x y = (y,x)) := by
 unfold bw;by_cases h : x < y
 ·left; refine ⟨h,?_⟩; rw [if_neg (by omega),if_pos h]
 ·right; refine ⟨by omega,?_⟩; rw [if_pos (by omega),if_neg h]
theorem xC {N : Nat} {Es : List Ed} (hG : gK (N : Int) Es) {u v : Int} (q : eM N u v) : gK (N : Int) (fE (bw u v) Es) := by
 obtain ⟨hn,hu,hv⟩ := q;refine ⟨hG.1,JY _ hG.2.1,fun e he => ?_⟩;rcases (qm _ _ _).1 he with rfl | he
 ·rcases J6 hn with ⟨h,e⟩ | ⟨h,e⟩ <;> rw [e] <;> simp only <;> omega
 ·exact hG.2.2 e he
theorem Kw {Es : List Ed} {u v x y : Int} (hn : u ≠ v) : jn (fE (bw u v) Es) x y ↔ jn Es x y \/ (x = u /\ y = v) \/ (x = v /\ y = u) := by
 unfold jn;rw [qm,qm];rcases J6 hn with ⟨h,e⟩ | ⟨h,e⟩ <;> rw [e] <;> simp only [Prod.mk.injEq] <;> constructor
 ·rintro ((⟨rfl,rfl⟩ | k) | (⟨rfl,rfl⟩ | k)) <;> simp_all
 ·rintro ((k | k) | ⟨rfl,rfl⟩ | ⟨rfl,rfl⟩) <;> simp_all
 ·rintro ((⟨rfl,rfl⟩ | k) | (⟨rfl,rfl⟩ | k)) <;> simp_all
 ·rintro ((k | k) | ⟨rfl,rfl⟩ | ⟨rfl,rfl⟩) <;> simp_all
theorem agX {N : Nat} {Es : List Ed} (hG : gK (N : Int) Es) {u v : Int} (hn : u ≠ v) : bw u v ∈ Es ↔ jn Es u v := by
 unfold jn;rcases J6 hn with ⟨h,e⟩ | ⟨h,e⟩ <;> rw [e]
 ·exact ⟨.inl,fun k => k.elim id fun k => by have := hG.2.2 _ k; simp only at this; omega⟩
 ·exact ⟨.inr,fun k => k.elim (fun k => by have := hG.2.2 _ k; simp only at this; omega) id⟩
def dl (a b u w : Nat) : Nat := (if u = a then (if w = b then 1 else 0) else 0) + if u = b then (if w = a then 1 else 0) else 0
theorem zp {a b u w : Nat} (h1 : ¬ (u = a /\ w = b)) (h2 : ¬ (u = b /\ w = a)) : dl a b u w = 0 := by
 unfold dl;by_cases p : u = a
 ·have : ¬ w = b := fun q => h1 ⟨p,q⟩;rw [if_pos p,if_neg this];by_cases p2 : u = b
  ·have : ¬ w = a := fun q => h2 ⟨p2,q⟩;rw [if_pos p2,if_neg this]
  ·rw [if_neg p2]
 ·rw [if_neg p];by_cases p2 : u = b
  ·have : ¬ w = a := fun q => h2 ⟨p2,q⟩;rw [if_pos p2,if_neg this]
  ·rw [if_neg p2]
theorem aaG {a b : Nat} (n : a ≠ b) : dl a b a b = 1 /\ dl a b b a = 1 := by
 unfold dl;have n2 : ¬ b = a := fun e => n e.symm;constructor <;> simp [n,n2]
theorem Rp {N : Nat} {Es : List Ed} (hG : gK (N : Int) Es) {a b : Nat} (n : a ≠ b) (m : ¬ bw a b ∈ Es) (u w : Nat) : ad (fE (bw (a : Int) (b : Int)) Es) u w = ad Es u w + dl a b u w := by
 have nI : (a : Int) ≠ b := by omega
 have j := Kw (Es := Es) (x := (u : Int)) (y := (w : Int)) nI;have z := agX hG nI;unfold ad;by_cases h1 : u = a /\ w = b
 ·obtain ⟨rfl,rfl⟩ := h1;have k0 : ¬ jn Es (u : Int) (w : Int) := fun k => m (z.2 k);rw [if_pos (j.2 (.inr (.inl ⟨rfl,rfl⟩))),if_neg k0,(aaG n).1]
 ·by_cases h2 : u = b /\ w = a
  ·obtain ⟨rfl,rfl⟩ := h2;have k0 : ¬ jn Es (u : Int) (w : Int) := fun k => m (z.2 (Or.symm k));rw [if_pos (j.2 (.inr (.inr ⟨rfl,rfl⟩))),if_neg k0,(aaG n).2]
  ·rw [zp h1 h2];have : jn (fE (bw (a : Int) (b : Int)) Es) u w ↔ jn Es u w := ⟨fun k => (j.1 k).elim id fun k => (k.elim (fun k => absurd ⟨by omega,by omega⟩ h1) fun k => absurd ⟨by omega,by omega⟩ h2),fun k => j.2 (.inl k)⟩;by_cases k : jn Es u w
   ·rw [if_pos k,if_pos (this.2 k)]
   ·rw [if_neg k,if_neg fun q => k (this.1 q)]
theorem Q7 {a b : Nat} (g : Nat -> Nat) {N : Nat} (ha : a < N) (hb : b < N) (z : Nat) : sm N (fun u => dl a b u z * g u) = (if z = b then g a else 0) + if z = a then g b else 0 := by
 have e : ∀ u,dl a b u z * g u = (if u = a then (if z = b then g u else 0) else 0) + if u = b then (if z = a then g u else 0) else 0 := fun u => by
  unfold dl;rw [cq];congr 1
  ·by_cases p : u = a
   ·rw [if_pos p,if_pos p]; split <;> omega
   ·rw [if_neg p,if_neg p]; omega
  ·by_cases p : u = b
   ·rw [if_pos p,if_pos p]; split <;> omega
   ·rw [if_neg p,if_neg p]; omega
 rw [ct fun u _ => e u,fV,qQ (fun u => if z = b then g u else 0),qQ (fun u => if z = a then g u else 0),if_pos ha,if_pos hb]
theorem C9 (a b u w : Nat) : dl a b u w = dl a b w u := by
 have h : ∀ (p q : Prop) [Decidable p] [Decidable q],(if p then (if q then 1 else 0) else 0) = if q then (if p then 1 else 0) else (0 : Nat) := fun p q _ _ => by
  by_cases hp : p <;> by_cases hq : q <;> simp [hp,hq]
 unfold dl;rw [h (w = a) (u = b),h (w = b) (u = a),Nat.add_comm]
theorem Xa {N : Nat} {Es : List Ed} (hG : gK (N : Int) Es) (z : Nat) : 2 * tn N Es z = sm N fun u => sm N fun w => ad Es u w * (ad Es u z * ad Es w z) := by
 have h := Hg (fun u w => ad Es u w * (ad Es u z * ad Es w z)) (fun u => by simp [Gt hG u]) N;rw [h];unfold tn;rw [<- pK];refine ct fun w _ => ?_;rw [<- pK];refine ct fun u _ => ?_;rw [mh Es w u,ff (ad Es w z)];omega
theorem KN {a b u w z : Nat} (n : a ≠ b) (h1 : dl a b u w ≠ 0) (h2 : dl a b u z ≠ 0) : w = z := by
 rcases mG (u = a /\ w = b) with p | p
 ·rcases mG (u = a /\ z = b) with q | q
  ·omega
  ·rcases mG (u = b /\ z = a) with r | r
   ·omega
   ·exact absurd (zp q r) h2
 ·rcases mG (u = b /\ w = a) with p2 | p2
  ·rcases mG (u = a /\ z = b) with q | q
   ·omega
   ·rcases mG (u = b /\ z = a) with r | r
    ·omega
    ·exact absurd (zp q r) h2
  ·exact absurd (zp p p2) h1
theorem ahi {a b : Nat} (n : a ≠ b) (w : Nat) : dl a b w w = 0 := zp (fun h => n (by omega)) (fun h => n (by omega))
theorem adH (c : Prop) [Decidable c] (f : Nat -> Nat) (n : Nat) : sm n (fun i => if c then f i else 0) = if c then sm n f else 0 := by
 by_cases h : c
 ·simp only [h,if_true]
 ·simp only [h,if_false,ma]
theorem eight (x y s p q r : Nat) (h1 : p * q * s = 0) (h2 : p * r * y = 0) (h3 : q * r * x = 0) (h4 : p * q * r = 0) : (x + p) * ((y + q) * (s + r)) = x * (y * s) + p * (y * s) + q * (x * s) + r * (x * y) := by
 have e1 : p * (q * s) = 0 := by rw [<- iN]; exact h1
 have e2 : p * (y * r) = 0 := by rw [ff y,<- iN]; exact h2
 have e3 : x * (q * r) = 0 := by rw [ff]; exact h3
 have e4 : p * (q * r) = 0 := by rw [<- iN]; exact h4
 have e5 : x * (y * r) = r * (x * y) := by rw [<- iN,ff]
 have e6 : x * (q * s) = q * (x * s) := by rw [<- iN,ff x q,iN]
 simp only [cq,Nat.mul_add,e1,e2,e3,e4,e5,e6];omega
theorem ae4 {N : Nat} {Es : List Ed} (hG : gK (N : Int) Es) {a b : Nat} (ha : a < N) (hb : b < N) (n : a ≠ b) (m : ¬ bw (a : Int) (b : Int) ∈ Es) (z : Nat) :
  tn N (fE (bw (a : Int) (b : Int)) Es) z = tn N Es z + ad Es a z * ad Es b z + ((if z = b then sm N (fun w => ad Es a w * ad Es b w) else 0) + if z = a then sm N (fun w => ad Es a w * ad Es b w) else 0) := by
 have hG' : gK (N : Int) (fE (bw (a : Int) (b : Int)) Es) := xC hG ⟨by omega,by omega,by omega⟩;have t1 := Xa hG z;have t2 := Xa hG' z
 have pw : ∀ u w,ad (fE (bw (a : Int) (b : Int)) Es) u w * (ad (fE (bw (a : Int) (b : Int)) Es) u z * ad (fE (bw (a : Int) (b : Int)) Es) w z) = ad Es u w * (ad Es u z * ad Es w z) + dl a b w u * (ad Es u z * ad Es w z) + dl a b u z * (ad Es u w * ad Es w z) + dl a b w z * (ad Es u w * ad Es u z) := fun u w => by
  rw [Rp hG n m,Rp hG n m,Rp hG n m,C9 a b w u]
  have nz : ∀ {p q : Nat},(p ≠ 0 -> q = 0) -> p * q = 0 := fun {p q} h => by
   by_cases k : p = 0
   ·rw [k,fY]
   ·rw [h k,ta]
  refine eight _ _ _ _ _ _ (nz fun h => ?_) (nz fun h => ?_) (nz fun h => ?_) (nz fun h => ?_)
  ·have := KN n (u := u) (w := w) (z := z) (fun e => h (by rw [e,fY])) (fun e => h (by rw [e,ta]));rw [this]; exact Gt hG z
  ·have := KN n (u := w) (w := u) (z := z) (fun e => h (by rw [C9,e,fY])) (fun e => h (by rw [e,ta]));rw [this]; exact Gt hG z
  ·have := KN n (u := z) (w := u) (z := w) (fun e => h (by rw [C9,e,fY])) (fun e => h (by rw [C9 a b w z,e,ta]));rw [this]; exact Gt hG w
  ·have := KN n (u := u) (w := w) (z := z) (fun e => h (by rw [e,fY])) (fun e => h (by rw [e,ta]));rw [this]; exact ahi n z
 have s2 : (sm N fun u => sm N fun w => dl a b w u * (ad Es u z * ad Es w z)) = 2 * (ad Es a z * ad Es b z) := by
  rw [ct fun u _ => Q7 (fun w => ad Es u z * ad Es w z) ha hb u,fV,qQ (fun u => ad Es u z * ad Es a z),qQ (fun u => ad Es u z * ad Es b z),if_pos ha,if_pos hb,ff (ad Es b z)];omega
 have g1 : (sm N fun w => ad Es a w * ad Es w b) = sm N fun w => ad Es a w * ad Es b w := ct fun w _ => by rw [mh Es w b]
 have g2 : (sm N fun w => ad Es b w * ad Es w a) = sm N fun w => ad Es a w * ad Es b w := ct fun w _ => by rw [mh Es w a,ff]
 have g3 : (sm N fun u => ad Es u a * ad Es u b) = sm N fun w => ad Es a w * ad Es b w := ct fun w _ => by rw [mh Es w a,mh Es w b]
 have g4 : (sm N fun u => ad Es u b * ad Es u a) = sm N fun w => ad Es a w * ad Es b w := ct fun w _ => by rw [mh Es w a,mh Es w b,ff]
 have s3 : (sm N fun u => sm N fun w => dl a b u z * (ad Es u w * ad Es w z)) = (if z = b then sm N (fun w => ad Es a w * ad Es b w) else 0) + if z = a then sm N (fun w => ad Es a w * ad Es b w) else 0 := by
  rw [ct fun u _ => pK (dl a b u z) (fun w => ad Es u w * ad Es w z) N,Q7 (fun u => sm N fun w => ad Es u w * ad Es w z) ha hb z];congr 1
  ·split
   ·rename_i e; subst e; exact g1
   ·rfl
  ·split
   ·rename_i e; subst e; exact g2
   ·rfl
 have s4 : (sm N fun u => sm N fun w => dl a b w z * (ad Es u w * ad Es u z)) = (if z = b then sm N (fun w => ad Es a w * ad Es b w) else 0) + if z = a then sm N (fun w => ad Es a w * ad Es b w) else 0 := by
  rw [ct fun u _ => Q7 (fun w => ad Es u w * ad Es u z) ha hb z,fV,adH (z = b) (fun u => ad Es u a * ad Es u z),adH (z = a) (fun u => ad Es u b * ad Es u z)];congr 1
  ·split
   ·rename_i e; subst e; exact g3
   ·rfl
  ·split
   ·rename_i e; subst e; exact g4
   ·rfl
 rw [ct fun u _ => (ct fun w _ => pw u w),ct fun u _ => by rw [fV,fV,fV],fV,fV,fV,s2,s3,s4,<- t1] at t2;omega
/- What an edge more or less does to the numbers of triangles: what changed reckons. -/
theorem Ba {n : List Int} {w v : Nat} {b : Int} (hv : v < n.length) : (gH n (w : Int) b).getD v 0 = n.getD v 0 + if v = w then b else 0 := by
 unfold gH;simp only [aP,show ((w : Int)).toNat = w by omega];by_cases e : v = w
 ·subst e; rw [List.getElem?_set_self hv,if_pos rfl]; rfl
 ·rw [List.getElem?_set_ne (Ne.symm e),if_neg e]; omega
theorem Gr {v : Nat} {b : Int} : ∀ {S n : List Int},v < n.length -> (∀ x ∈ S,0 <= x) -> S.Nodup -> (S.foldl (fun n w => gH n w b) n).getD v 0 = n.getD v 0 + if (v : Int) ∈ S then b else 0
 | [],n,_,_,_ => by simp
 | x :: r,n,hv,h0,hn => by
   obtain ⟨n1,n2⟩ := IW.1 hn;have hx := h0 x (by simp);obtain ⟨w,rfl⟩ : ∃ w : Nat,x = w := ⟨x.toNat,by omega⟩;rw [List.foldl_cons,Gr (by rw [fW]; exact hv) (fun y hy => h0 y (by simp [hy])) n2,Ba hv];by_cases e : v = w
   ·subst e; rw [if_pos rfl,if_neg n1,if_pos (by simp)]; omega
   ·have e2 : ¬ (v : Int) = (w : Int) := by omega
    rw [if_neg e];by_cases q : (v : Int) ∈ r
    ·rw [if_pos q,if_pos (by simp [q])]; omega
    ·rw [if_neg q,if_neg (by simp [q,e2])]; omega
theorem KQ {Ns T : List Int} {u v z : Nat} {b : Int} (hz : z < Ns.length) (h0 : ∀ x ∈ T,0 <= x) (hn : T.Nodup) : (WS Ns T u v b).getD z 0 = Ns.getD z 0 + (if (z : Int) ∈ T then b else 0) + (if z = u then b * T.length else 0) + if z = v then b * T.length else 0 := by
 unfold WS;rw [Ba (by rw [fW,kh]; exact hz),Ba (by rw [kh]; exact hz),Gr hz h0 hn]
theorem OM {a b : List Int} (hl : a.length = b.length) (h : ∀ z,z < a.length -> a.getD z 0 = b.getD z 0) : a = b := by
 apply List.ext_getElem hl;intro i h1 h2;have := h i h1;rw [aP,aP,ai h1,ai h2] at this;exact this
theorem acX {N : Nat} {Es : List Ed} (hG : gK (N : Int) Es) {u v : Int} (q : eM N u v) : gF N (fE (bw u v) Es) (u,v) = gF N Es (u,v) := by
 have hG' := xC hG q;obtain ⟨hn,hu,hv⟩ := q;have hb : 0 <= (u,v).1 /\ (u,v).1 < (N : Int) /\ 0 <= (u,v).2 /\ (u,v).2 < (N : Int) := ⟨hu.1,hu.2,hv.1,hv.2⟩;refine wi (xZ hG' hb) (xZ hG hb) fun x => ?_;rw [iV hG' hb,iV hG hb];simp only;constructor
 ·rintro ⟨h1,h2⟩;have b1 := (oM hG' h1).2.2;have b2 := (oM hG' h2).2.2;rw [Kw hn] at h1 h2;refine ⟨h1.elim id fun k => ?_,h2.elim id fun k => ?_⟩ <;> exfalso <;> omega
 ·rintro ⟨h1,h2⟩;exact ⟨(Kw hn).2 (.inl h1),(Kw hn).2 (.inl h2)⟩
section
variable {N : Nat} {Es : List Ed} (hG : gK (N : Int) Es) {u v : Int} (q : eM N u v) (m : ¬ bw u v ∈ Es)
include hG q m
theorem RN (z : Nat) (hz : z < N) : tn N (fE (bw u v) Es) z = tn N Es z + (if (z : Int) ∈ gF N Es (u,v) then 1 else 0) + (if z = u.toNat then (gF N Es (u,v)).length else 0) + if z = v.toNat then (gF N Es (u,v)).length else 0 := by
 obtain ⟨hn,hu,hv⟩ := q;obtain ⟨a,rfl⟩ : ∃ a : Nat,u = a := ⟨u.toNat,by omega⟩;obtain ⟨b,rfl⟩ : ∃ b : Nat,v = b := ⟨v.toNat,by omega⟩;have h := ae4 hG (a := a) (b := b) (by omega) (by omega) (by omega) m z;have cc := A5 hG (u := a) (v := b) (by omega) (by omega);have cm := iV hG (e := ((a : Int),(b : Int))) ⟨hu.1,hu.2,hv.1,hv.2⟩ (z : Int)
 have e : ad Es a z * ad Es b z = if (z : Int) ∈ gF N Es ((a : Int),(b : Int)) then 1 else 0 := by
  unfold ad;by_cases k1 : jn Es a z
  ·by_cases k2 : jn Es b z
   ·rw [if_pos (cm.2 ⟨k1,k2⟩),if_pos k1,if_pos k2]
   ·rw [if_neg fun q => k2 (cm.1 q).2,if_neg k2]; simp
  ·rw [if_neg fun q => k1 (cm.1 q).1,if_neg k1]; simp
 rw [h,e,cc,show ((a : Int)).toNat = a by omega,show ((b : Int)).toNat = b by omega];omega
theorem Nt : du N (fE (bw u v) Es) = WS (du N Es) (gF N Es (u,v)) u.toNat v.toNat 1 := by
 have hG' := xC hG q;have hb : 0 <= (u,v).1 /\ (u,v).1 < (N : Int) /\ 0 <= (u,v).2 /\ (u,v).2 < (N : Int) := ⟨q.2.1.1,q.2.1.2,q.2.2.1,q.2.2.2⟩;have cu := xZ hG hb;have cm := iV hG hb;refine OM (by rw [FV,cS,cS]) fun z hz => ?_;rw [cS] at hz;rw [qe hG' hz,KQ (by rw [cS]; exact hz) (fun x hx => (oM hG ((cm x).1 hx).1).2.1.1) (qb (fun {a b} h => by omega) cu),qe hG hz,RN hG q m z hz];split <;> split <;> split <;> simp
theorem JW : j7 N (fE (bw u v) Es) = j7 N Es + (gF N Es (u,v)).length := by
 have hG' := xC hG q;have s1 := I8 hG;have s2 := I8 hG';have hu := q.2.1;have hv := q.2.2;have cc := A5 hG (u := u.toNat) (v := v.toNat) (by omega) (by omega);rw [show ((u.toNat : Nat) : Int) = u by omega,show ((v.toNat : Nat) : Int) = v by omega] at cc;have hb : 0 <= (u,v).1 /\ (u,v).1 < (N : Int) /\ 0 <= (u,v).2 /\ (u,v).2 < (N : Int) := ⟨q.2.1.1,q.2.1.2,q.2.2.1,q.2.2.2⟩;have cm := iV hG hb
 have e : (sm N fun z => if (z : Int) ∈ gF N Es (u,v) then 1 else 0) = (gF N Es (u,v)).length := by
  rw [cc];refine ct fun z hz => ?_;have k := cm (z : Int);unfold ad;rw [show ((u.toNat : Nat) : Int) = u by omega,show ((v.toNat : Nat) : Int) = v by omega];by_cases k1 : jn Es u z
  ·by_cases k2 : jn Es v z
   ·rw [if_pos (k.2 ⟨k1,k2⟩),if_pos k1,if_pos k2]
   ·rw [if_neg fun q => k2 (k.1 q).2,if_neg k2]; simp
  ·rw [if_neg fun q => k1 (k.1 q).1,if_neg k1]; simp
 rw [ct fun z hz => RN hG q m z hz,fV,fV,fV,s1,e,qQ (fun _ => (gF N Es (u,v)).length),qQ (fun _ => (gF N Es (u,v)).length),if_pos (by omega),if_pos (by omega)] at s2;omega
end
theorem Dz (x : Ed) (Es : List Ed) : (kL x Es).Sublist Es := by
 unfold kL;rw [<- List.eraseIdx_eq_take_drop_succ];exact List.eraseIdx_sublist _ _
theorem yD {x : Ed} {Es : List Ed} (hU : CC Es) (hx : x ∈ Es) (y : Ed) : y ∈ kL x Es ↔ y ∈ Es /\ y ≠ x := by
 have hp := (CL hU).1 hx;have hk := au hp
 have e : Es = Es.take (dP x Es) ++ x :: Es.drop (dP x Es + 1) := by
  have := List.drop_eq_getElem_cons hk;rw [ai hk] at hp;rw [cK hp] at this;rw [<- this,List.take_append_drop]
 have hN := zH hU;unfold kL;generalize Es.take (dP x Es) = A at *;generalize Es.drop (dP x Es + 1) = B at *;subst e;rw [List.nodup_append] at hN;obtain ⟨_,n2,n3⟩ := hN;have n4 := (IW.1 n2).1;simp only [List.mem_append,List.mem_cons];constructor
 ·rintro (h | h)
  ·exact ⟨.inl h,n3 y h x (by simp)⟩
  ·exact ⟨.inr (.inr h),fun e => n4 (e ▸ h)⟩
 ·rintro ⟨h | h | h,sO⟩
  ·exact .inl h
  ·exact absurd h sO
  ·exact .inr h
theorem Ji {x : Ed} {Es : List Ed} (hU : CC Es) : CC (kL x Es) := List.Pairwise.sublist (Dz x Es) hU
theorem JX {x : Ed} {Es : List Ed} (hU : CC Es) (hx : x ∈ Es) : fE x (kL x Es) = Es := by
 refine IZ (JY _ (Ji hU)) hU fun y => ?_;rw [qm,yD hU hx];constructor
 ·rintro (rfl | h)
  ·exact hx
  ·exact h.1
 ·intro h;by_cases e : y = x
  ·exact .inl e
  ·exact .inr ⟨h,e⟩
section
variable {N : Nat} {Es : List Ed} (hG : gK (N : Int) Es) {u v : Int} (q : eM N u v) (m : bw u v ∈ Es)
include hG m
theorem Jh : gK (N : Int) (kL (bw u v) Es) := ⟨hG.1,Ji hG.2.1,fun e he => hG.2.2 e ((yD hG.2.1 m e).1 he).1⟩
theorem Sb : ¬ bw u v ∈ kL (bw u v) Es := fun h => ((yD hG.2.1 m _).1 h).2 rfl
include q
theorem Uo : gF N (kL (bw u v) Es) (u,v) = gF N Es (u,v) := by
 have h := acX (Jh hG m) q;rw [JX hG.2.1 m] at h;exact h.symm
theorem XO : du N (kL (bw u v) Es) = WS (du N Es) (gF N Es (u,v)) u.toNat v.toNat (-1) := by
 have hF := Jh hG m;have h := Nt hF q (Sb hG m);rw [JX hG.2.1 m,Uo hG q m] at h;have hb : 0 <= (u,v).1 /\ (u,v).1 < (N : Int) /\ 0 <= (u,v).2 /\ (u,v).2 < (N : Int) := ⟨q.2.1.1,q.2.1.2,q.2.2.1,q.2.2.2⟩;have cu := xZ hG hb;have cm := iV hG hb;have c0 : ∀ x ∈ gF N Es (u,v),0 <= x := fun x hx => (oM hG ((cm x).1 hx).1).2.1.1;have cn : (gF N Es (u,v)).Nodup := qb (fun {a b} h => by omega) cu;refine OM (by rw [FV,cS,cS]) fun z hz => ?_;rw [cS] at hz;rw [KQ (by rw [cS]; exact hz) c0 cn,h,KQ (by rw [cS]; exact hz) c0 cn];split <;> split <;> split <;> omega
theorem Sa : j7 N Es = j7 N (kL (bw u v) Es) + (gF N Es (u,v)).length := by
 have h := JW (Jh hG m) q (Sb hG m);rw [JX hG.2.1 m,Uo hG q m] at h;exact h
end
/- What triangles.Insert and Delete return, by the plain numbers. -/
set_option maxHeartbeats 8000000
theorem Xb {N : Nat} {Es : List Ed} (hG : gK (N : Int) Es) (hE : Es.length < 1000000) (u v : Int) : aY ak ZP [fh N Es (j7 N Es : Nat) (du N Es),.int .i64 u,.int .i64 v] [] =
  some (if eM N u v then (if bw u v ∈ Es then .dD [jW,.int .i64 0,.int .i64 15] else .dD [fh N (fE (bw u v) Es) (j7 N (fE (bw u v) Es) : Nat) (du N (fE (bw u v) Es)),.int .i64 ((gF N Es (u,v)).length : Nat),.int .i64 0]) else .dD [jW,.int .i64 0,.int .i64 6],[]) := by
 have h := Lx hG hE u v;rw [pj hG] at h;rw [h];by_cases q : eM N u v
 ·rw [if_pos q,if_pos q];by_cases m : bw u v ∈ Es
  ·rw [if_pos m,if_pos m]
  ·rw [if_neg m,if_neg m,Nt hG q m,JW hG q m,Int.natCast_add]
 ·rw [if_neg q,if_neg q]
theorem Xc {N : Nat} {Es : List Ed} (hG : gK (N : Int) Es) (hE : Es.length < 1000000) (u v : Int) : aY ak ZO [fh N Es (j7 N Es : Nat) (du N Es),.int .i64 u,.int .i64 v] [] =
  some (if eM N u v then (if bw u v ∈ Es then .dD [fh N (kL (bw u v) Es) (j7 N (kL (bw u v) Es) : Nat) (du N (kL (bw u v) Es)),.int .i64 ((gF N Es (u,v)).length : Nat),.int .i64 0] else .dD [jW,.int .i64 0,.int .i64 7]) else .dD [jW,.int .i64 0,.int .i64 6],[]) := by
 have h := LB hG hE u v;rw [pj hG] at h;rw [h];by_cases q : eM N u v
 ·rw [if_pos q,if_pos q];by_cases m : bw u v ∈ Es
  ·have e := Sa hG q m;rw [if_pos m,if_pos m,XO hG q m,show ((j7 N Es : Nat) : Int) - ((gF N Es (u,v)).length : Nat) = (j7 N (kL (bw u v) Es) : Nat) by omega]
  ·rw [if_neg m,if_neg m]
 ·rw [if_neg q,if_neg q]
end Go.BmP
