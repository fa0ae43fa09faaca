/- The machine by value: what a state stands for. -/
import Derived.Test.YteomjfokokneoaaDoorBmA
/- How a state by value stands for a state of the older machine. -/
set_option linter.unusedSimpArgs false
open Bool renaming and_eq_true → ab, or_eq_false_iff → fg
open List renaming ext_getElem? → cY, getElem?_append_left → av, getElem?_append_right → aQ, getElem?_drop → aV, getElem?_eq_none → c9, getElem?_map → df, getElem?_of_mem → bD, getElem?_set → bj, getElem?_set_ne → jR, getElem?_take → bF, length_drop → cB, length_map → nF, length_replicate → dM, length_take → bg, mem_append → aD, mem_cons → aJ, mem_map_of_mem → oO, mem_of_getElem? → bf, mem_of_mem_drop → cI, mem_of_mem_take → cH, mem_singleton → cv, replicate → cK
open Nat renaming add_mul → bV, le_refl → aS, mul_le_mul_right → bG, zero_add → fD, zero_mul → qE
open Ne renaming symm → sy
open Option renaming isSome_iff_exists → aW, map_some → cJ
open Option.some renaming inj → dm, injEq → aj
open Prod.mk renaming injEq → aF
namespace Go.Bm
open Go.Am

structure Names where
 β : Nat -> Nat
 ν : Rt -> Option Nat

mutual
def ct (N : Names) : AV -> AV
 | .dp k p off len => match N.ν p with
   | some n => .sl k n (off * k) len
   | none => .dc
 | .eK k p i off => match N.ν p with
   | some n => .ptr n (i * k + off)
   | none => .any
 | .ptr b off => .ptr (N.β b) off
 | .agg cs => .agg (kq N cs)
 | .dW cs => .dW (kq N cs)
 | .func f a b => .func f (kq N a) (kq N b)
 | .own _ _ => .any
 | .sl k b off len => .sl k (N.β b) off len
 | .any => .any | .undef => .undef | .fi => .fi | .eV => .eV | .dc => .dc
 | .int k n => .int k n | .bool b => .bool b | .str s => .str s
 | .list k xs => .list k xs | .cX cs => .cX cs
def kq (N : Names) : List AV -> List AV
 | [] => []
 | x :: r => ct N x :: kq N r
end
def rK (N : Names) (p : Rt) (k len : Nat) : AV :=
 match N.ν p with
 | some n => .sl k n 0 len
 | none => .dc
def je (N : Names) (p : Rt) : AV -> AV
 | .own k xs => rK N p k xs.length
 | v => ct N v
def OE (N : Names) (f : Nat -> Rt) : Nat -> List AV -> List AV
 | _,[] => []
 | j,x :: r => je N (f j) x :: OE N f (j + 1) r
def jS (N : Names) (i : Nat) : AV -> AV
 | .agg cs => .agg (OE N (.sc i) 0 cs)
 | v => je N (.s i) v
def x8 (N : Names) : Env -> Env
 | [] => []
 | (i,v) :: r => (i,jS N i v) :: x8 N r

def Le (x y : AV) : Prop := ∀ R φ v,bN R φ y v -> bN R φ x v
theorem Le.refl (x : AV) : Le x x := fun _ _ _ h => h
theorem Le.trans {x y z : AV} (h : Le x y) (k : Le y z) : Le x z := fun R φ v r => h R φ v (k R φ v r)
theorem Le.any (y : AV) : Le .any y := fun _ _ _ _ => .any _ _
theorem Le.agg {xs ys : List AV} (hl : xs.length = ys.length) (h : ∀ (i : Nat) (x y : AV),xs[i]? = some x -> ys[i]? = some y -> Le x y) : Le (.agg xs) (.agg ys) := by
 intro R φ v r;cases r with
 | agg _ _ vs Cz h2 =>
   refine .agg _ _ _ (hl.trans Cz) fun i c u hc hu => ?_;obtain ⟨y,hy⟩ := bc (l := ys) (i := i) (by have := aB hc; omega);exact h i c y hc hy _ _ _ (h2 i y u hy hu)
theorem Le.gI (k : Nat) : Le (.list k []) .dc := by
 intro R φ v r;cases r with
 | dc => exact .jM _ _

mutual
def cr (o : Rt -> Option (Nat × List AV)) (nb : Nat) : AV -> Prop
 | .dp k p off len => ∃ xs,o p = some (k,xs) /\ off + len <= xs.length
 | .eK k p i _ => ∃ xs,o p = some (k,xs) /\ i < xs.length
 | .ptr b _ => b < nb
 | .agg cs => jK o nb cs
 | .dW cs => jK o nb cs
 | .func _ a b => jK o nb a /\ jK o nb b
 | .sl _ b _ _ => b < nb
 | _ => True
def jK (o : Rt -> Option (Nat × List AV)) (nb : Nat) : List AV -> Prop
 | [] => True
 | x :: r => cr o nb x /\ jK o nb r
end
theorem hJ {o : Rt -> Option (Nat × List AV)} {nb : Nat} : ∀ {cs : List AV},jK o nb cs ↔ ∀ (i : Nat) (c : AV),cs[i]? = some c -> cr o nb c
 | [] => by simp [jK]
 | x :: r => by
   simp only [jK,hJ (cs := r)];constructor
   ·rintro ⟨h1,h2⟩ i c hc;cases i with
    | zero => simp at hc; exact hc ▸ h1
    | succ i => exact h2 i c (by simpa using hc)
   ·intro h;exact ⟨h 0 x rfl,fun i c hc => h (i + 1) c (by simpa using hc)⟩

def pX (H : Heap) (o : Option Nat) (k : Nat) (xs : List AV) : Prop :=
 match o with
 | none => xs = []
 | some n => ∃ cs,aH H n = some cs /\ xs.length * k <= cs.length /\ (∀ x ∈ xs,x.cells.length = k) /\ ∀ (i : Nat) (c : AV),(aE xs)[i]? = some c -> fz c = true /\ ∃ a,cs[i]? = some a /\ a.leaf = true /\ Le c a

structure eW (X : Nat -> Prop) (φ : de) (w : World) (N : Names) (s : St) (Ha : Heap) (t : Nat -> Value) : Prop where
 env : ∀ i,bN (Rd X φ w) φ (jS N i (get s.env i)) (t i)
 GO : ∀ i,cr (aC s) s.H.length (get s.env i)
 heap : b6 X φ w Ha
 own : ∀ p k xs,aC s p = some (k,xs) -> pX Ha (N.ν p) k xs
 box : ∀ b cs,aH s.H b = some cs -> ∃ as,aH Ha (N.β b) = some as /\ as.length = cs.length /\ ∀ (j : Nat) (c : AV),cs[j]? = some c -> cr (aC s) s.H.length c /\ ∃ a,as[j]? = some a /\ Le (je N (.c b j) c) a
 inj : ∀ p q n,(aC s p).isSome -> (aC s q).isSome -> N.ν p = some n -> N.ν q = some n -> p = q
 bx : ∀ b p,(aH s.H b).isSome -> (aC s p).isSome -> N.ν p ≠ some (N.β b)
 bi : ∀ b c,(aH s.H b).isSome -> (aH s.H c).isSome -> N.β b = N.β c -> b = c

/-! Lists and places -/
theorem vw (N : Names) : ∀ (cs : List AV) (i : Nat),(kq N cs)[i]? = (cs[i]?).map (ct N)
 | [],i => by simp [kq]
 | x :: r,i => by cases i <;> simp [kq,vw N r]
theorem dQ (N : Names) : ∀ cs : List AV,(kq N cs).length = cs.length
 | [] => rfl
 | x :: r => by simp [kq,dQ N r]
theorem fH (N : Names) (f : Nat -> Rt) : ∀ (cs : List AV) (j i : Nat),(OE N f j cs)[i]? = (cs[i]?).map (je N (f (j + i)))
 | [],j,i => by simp [OE]
 | x :: r,j,i => by
   cases i with
   | zero => simp [OE]
   | succ i => simp only [OE,List.getElem?_cons_succ,fH N f r]; rw [show j + 1 + i = j + (i + 1) by omega]
theorem gR (N : Names) (f : Nat -> Rt) : ∀ (cs : List AV) (j : Nat),(OE N f j cs).length = cs.length
 | [],j => rfl
 | x :: r,j => by simp [OE,gR N f r]
theorem dX (g : AV -> AV) : ∀ (cs : List AV) (i : Nat),(cC g cs)[i]? = (cs[i]?).map (b8 g)
 | [],i => by simp [cC]
 | x :: r,i => by cases i <;> simp [cC,dX g r]
theorem bZ (g : AV -> AV) : ∀ cs : List AV,(cC g cs).length = cs.length
 | [] => rfl
 | x :: r => by simp [cC,bZ g r]
theorem kT (N : Names) : ∀ (e : Env) (i : Nat),get (x8 N e) i = jS N i (get e i)
 | [],i => rfl
 | (j,u) :: r,i => by
   simp only [x8,Am.get];split
   ·rename_i h; rw [h]
   ·exact kT N r i
theorem cW (g : AV -> AV) : ∀ (e : Env) (i : Nat),get (jC g e) i = b8 g (get e i)
 | [],i => rfl
 | (j,u) :: r,i => by
   simp only [jC,Am.get];split
   ·rfl
   ·exact cW g r i
theorem Fa (g : AV -> AV) : ∀ (H : Heap) (b : Nat),(ft g H)[b]? = (H[b]?).map (Option.map (cC g))
 | [],b => by simp [ft]
 | none :: r,b => by cases b <;> simp [ft,Fa g r]
 | some cs :: r,b => by cases b <;> simp [ft,Fa g r]
theorem fY (g : AV -> AV) : ∀ H : Heap,(ft g H).length = H.length
 | [] => rfl
 | none :: r => by simp [ft,fY g r]
 | some cs :: r => by simp [ft,fY g r]
theorem fv (g : AV -> AV) (H : Heap) (b : Nat) : aH (ft g H) b = (aH H b).map (cC g) := by
 unfold aH;rw [Fa];cases H[b]? with
 | none => rfl
 | some o => cases o <;> rfl
theorem qk {H : Heap} {b : Nat} {cs : List AV} : aH H b = some cs ↔ H[b]? = some (some cs) := by
 constructor
 ·exact u7
 ·intro h; unfold aH; rw [h]
theorem dZ {H : Heap} {b : Nat} {cs : List AV} (h : aH H b = some cs) : b < H.length := aB (u7 h)
theorem dF (H : Heap) (b c : Nat) (x : List AV) : aH (H.set b (some x)) c = if c = b /\ b < H.length then some x else aH H c := by
 unfold aH;rw [bj];by_cases h : b = c
 ·subst h;by_cases hl : b < H.length
  ·simp [hl]
  ·simp [hl,c9 (Nat.le_of_not_lt hl)]
 ·simp [h,sy h]
theorem jy (H : Heap) (x : List AV) (c : Nat) : aH (H ++ [some x]) c = if c = H.length then some x else aH H c := by
 unfold aH;by_cases h : c < H.length
 ·rw [av h,if_neg (by omega)]
 ·rw [aQ (by omega)];by_cases h2 : c = H.length
  ·subst h2; simp
  ·rw [if_neg h2,c9 (l := H) (by omega),c9 (by simp; omega)]

def jr (x : AV) : Prop := ∀ cs,x ≠ .agg cs
def NOwn (x : AV) : Prop := ∀ k xs,x ≠ .own k xs
def jA (g : AV -> AV) : Prop := ∀ k p o l,(jr (g (.dp k p o l)) /\ NOwn (g (.dp k p o l))) /\ (jr (g (.eK k p o l)) /\ NOwn (g (.eK k p o l)))
theorem uH {g : AV -> AV} (hg : jA g) (x : AV) (k : Nat) (xs : List AV) : b8 g x = .own k xs ↔ x = .own k xs := by
 cases x <;> simp [b8]
 ·exact (hg _ _ _ _).1.2 _ _
 ·exact (hg _ _ _ _).2.2 _ _
theorem MG {g : AV -> AV} (hg : jA g) (x : AV) (cs : List AV) : b8 g x = .agg cs ↔ ∃ ds,x = .agg ds /\ cC g ds = cs := by
 cases x <;> simp [b8]
 ·exact (hg _ _ _ _).1.1 _
 ·exact (hg _ _ _ _).2.1 _
theorem kt {g : AV -> AV} (hg : jA g) {x : AV} (h : jr x) : jr (b8 g x) := by
 intro cs e;obtain ⟨ds,rfl,_⟩ := (MG hg x cs).1 e;exact h _ rfl
theorem iS {g : AV -> AV} (hg : jA g) (s : St) (p : Rt) : at_ (bW g s) p = (at_ s p).map (b8 g) := by
 cases p with
 | s i => simp [at_,bW,cW]
 | sc i j =>
   simp only [at_,bW,cW];generalize get s.env i = x;split
   ·rename_i cs h;obtain ⟨ds,rfl,rfl⟩ := (MG hg x cs).1 h;simp [dX]
   ·rename_i h;split
    ·rename_i ds;exact absurd rfl (h (cC g ds))
    ·rfl
 | c b j =>
   simp only [at_,bW,fv];cases aH s.H b with
   | none => rfl
   | some cs => simp [dX]
theorem bY {s : St} {p : Rt} {k : Nat} {xs : List AV} : aC s p = some (k,xs) ↔ at_ s p = some (.own k xs) := by
 unfold aC;split
 ·rename_i k' xs' h;rw [h];simp
 ·rename_i h;constructor
  ·intro h'; cases h'
  ·intro h'; exact absurd h' (h k xs)
theorem iz {g : AV -> AV} (hg : jA g) (s : St) (p : Rt) : aC (bW g s) p = aC s p := by
 cases h : aC s p with
 | none =>
   cases h2 : aC (bW g s) p with
   | none => rfl
   | some y =>
     obtain ⟨k,xs⟩ := y;rw [bY,iS hg] at h2;cases hx : at_ s p with
     | none => rw [hx] at h2; cases h2
     | some x =>
       rw [hx] at h2;simp only [cJ,aj] at h2;rw [uH hg] at h2;subst h2;rw [bY.2 hx] at h;cases h
 | some y =>
   obtain ⟨k,xs⟩ := y;rw [bY] at h ⊢;rw [iS hg,h];rfl

structure Shape (s s' : St) : Prop where
 agg : ∀ i cs,get s.env i = .agg cs -> ∃ ds,get s'.env i = .agg ds /\ ds.length = cs.length
 Po : ∀ i,jr (get s.env i) -> jr (get s'.env i)
 len : s'.H.length = s.H.length
 box : ∀ b cs,aH s.H b = some cs -> ∃ ds,aH s'.H b = some ds /\ ds.length = cs.length
 Cp : ∀ b,aH s.H b = none -> aH s'.H b = none
theorem Shape.refl (s : St) : Shape s s := ⟨fun _ cs h => ⟨cs,h,rfl⟩,fun _ h => h,rfl,fun _ cs h => ⟨cs,h,rfl⟩,fun _ h => h⟩
theorem Shape.trans {s s' ZG : St} (h : Shape s s') (k : Shape s' ZG) : Shape s ZG :=
 ⟨fun i cs hc => let ⟨ds,h1,h2⟩ := h.agg i cs hc; let ⟨es,h3,h4⟩ := k.agg i ds h1; ⟨es,h3,h4.trans h2⟩,fun i hi => k.Po i (h.Po i hi),k.len.trans h.len,
  fun b cs hc => let ⟨ds,h1,h2⟩ := h.box b cs hc; let ⟨es,h3,h4⟩ := k.box b ds h1; ⟨es,h3,h4.trans h2⟩,fun b hb => k.Cp b (h.Cp b hb)⟩
theorem Shape.map {g : AV -> AV} (hg : jA g) (s : St) : Shape s (bW g s) where
 agg i cs h := ⟨cC g cs,by simp [bW,cW,h,b8],bZ g cs⟩
 Po i h := by simp only [bW,cW]; exact kt hg h
 len := fY g s.H
 box b cs h := ⟨cC g cs,by simp [bW,fv,h],bZ g cs⟩
 Cp b h := by simp [bW,fv,h]
def Lf (s : St) (r : Rt) : Prop := ∀ i,r = .s i -> jr (get s.env i)
def Fits (s : St) (p : Rt) (v : AV) : Prop := jr v /\ ∃ x,at_ s p = some x /\ jr x
theorem Shape.set {s : St} {p : Rt} {v : AV} (h : Fits s p v) : Shape s (setAt s p v) := by
 obtain ⟨hv,x,hx,hn⟩ := h;cases p with
 | s i =>
   simp only [at_,aj] at hx;refine ⟨fun j cs hc => ?_,fun j hj => ?_,rfl,fun b cs hc => ⟨cs,hc,rfl⟩,fun b hb => hb⟩
   ·simp only [setAt,br];by_cases C3 : j = i
    ·subst C3; rw [hx] at hc; exact absurd hc (hn cs)
    ·rw [if_neg C3]; exact ⟨cs,hc,rfl⟩
   ·simp only [setAt,br];by_cases C3 : j = i
    ·rw [if_pos C3]; exact hv
    ·rw [if_neg C3]; exact hj
 | sc i l =>
   simp only [at_] at hx;cases hg : get s.env i <;> rw [hg] at hx <;> simp at hx
   rename_i ds;have hs : setAt s (.sc i l) v = ⟨put s.env i (.agg (ds.set l v)),s.H⟩ := by simp [setAt,hg]
   rw [hs];refine ⟨fun j cs hc => ?_,fun j hj => ?_,rfl,fun b cs hc => ⟨cs,hc,rfl⟩,fun b hb => hb⟩
   ·simp only [br];by_cases C3 : j = i
    ·subst C3; rw [hg] at hc; cases hc; exact ⟨_,if_pos rfl,by simp⟩
    ·rw [if_neg C3]; exact ⟨cs,hc,rfl⟩
   ·simp only [br];by_cases C3 : j = i
    ·subst C3; exact absurd hg (hj ds)
    ·rw [if_neg C3]; exact hj
 | c b l =>
   simp only [at_] at hx;cases hg : aH s.H b <;> rw [hg] at hx <;> simp at hx
   rename_i ds;have hs : setAt s (.c b l) v = ⟨s.env,s.H.set b (some (ds.set l v))⟩ := by simp [setAt,hg]
   rw [hs];refine ⟨fun j cs hc => ⟨cs,hc,rfl⟩,fun j hj => hj,by simp,fun d cs hc => ?_,fun d hd => ?_⟩
   ·rw [dF];by_cases hdb : d = b
    ·subst hdb; rw [hg] at hc; cases hc; exact ⟨_,if_pos ⟨rfl,dZ hg⟩,by simp⟩
    ·rw [if_neg (fun h => hdb h.1)]; exact ⟨cs,hc,rfl⟩
   ·rw [dF];by_cases hdb : d = b
    ·subst hdb; rw [hg] at hd; cases hd
    ·rw [if_neg (fun h => hdb h.1)]; exact hd
theorem Bt {s : St} {p : Rt} {v : AV} (h : Fits s p v) {r : Rt} (hr : Lf s r) : at_ (setAt s p v) r = if r = p then some v else at_ s r := by
 obtain ⟨hv,x,hx,hn⟩ := h;cases p with
 | s i =>
   simp only [at_,aj] at hx;cases r with
   | s j => simp only [at_,setAt,br]; by_cases C3 : j = i <;> simp [C3]
   | sc j l =>
     simp only [at_,setAt,br];by_cases C3 : j = i
     ·subst C3;simp only [if_true,hx,reduceCtorEq,if_false];cases v <;> first | (exact absurd rfl (hv _)) | (cases x <;> first | (exact absurd rfl (hn _)) | rfl)
     ·simp [C3]
   | c b l => simp [at_,setAt]
 | sc i l =>
   simp only [at_] at hx;cases hg : get s.env i <;> rw [hg] at hx <;> simp at hx
   rename_i ds;have hs : setAt s (.sc i l) v = ⟨put s.env i (.agg (ds.set l v)),s.H⟩ := by simp [setAt,hg]
   rw [hs];cases r with
   | s j =>
     simp only [at_,br,reduceCtorEq,if_false];by_cases C3 : j = i
     ·subst C3;exact absurd hg (hr j rfl ds)
     ·simp [C3]
   | sc j m =>
     simp only [at_,br];by_cases C3 : j = i
     ·subst C3;simp only [if_true,hg,Rt.sc.injEq,true_and];rw [bj];by_cases hlm : l = m
      ·subst hlm;have := aB hx;simp [this]
      ·simp [hlm,sy hlm]
     ·simp [C3]
   | c b m => simp [at_]
 | c b l =>
   simp only [at_] at hx;cases hg : aH s.H b <;> rw [hg] at hx <;> simp at hx
   rename_i ds;have hs : setAt s (.c b l) v = ⟨s.env,s.H.set b (some (ds.set l v))⟩ := by simp [setAt,hg]
   rw [hs];cases r with
   | s j => simp [at_]
   | sc j m => simp [at_]
   | c d m =>
     simp only [at_,dF];by_cases hdb : d = b
     ·subst hdb;simp only [dZ hg,and_self,if_true,hg,Rt.c.injEq,true_and];rw [bj];by_cases hlm : l = m
      ·subst hlm;have := aB hx;simp [this]
      ·simp [hlm,sy hlm]
     ·simp [hdb]

theorem Xq {N N' : Names} {i : Nat} {x y : AV} (h1 : ∀ cs,x = .agg cs -> ∃ ds,y = .agg ds /\ ds.length = cs.length /\ ∀ (j : Nat) (c d : AV),cs[j]? = some c -> ds[j]? = some d -> Le (je N' (.sc i j) d) (je N (.sc i j) c))
  (h2 : jr x -> jr y /\ Le (je N' (.s i) y) (je N (.s i) x)) : Le (jS N' i y) (jS N i x) := by
 by_cases hx : ∃ cs,x = .agg cs
 ·obtain ⟨cs,rfl⟩ := hx;obtain ⟨ds,rfl,hl,h⟩ := h1 cs rfl;simp only [jS];refine Le.agg (by simp [gR,hl]) fun j u v hu hv => ?_;rw [fH] at hu hv;simp only [fD] at hu hv;cases hd : ds[j]? with
  | none => rw [hd] at hu; cases hu
  | some d =>
    cases hc : cs[j]? with
    | none => rw [hc] at hv; cases hv
    | some c =>
      rw [hd] at hu; rw [hc] at hv;simp at hu hv;subst hu hv;exact h j c d hc hd
 ·have hn : jr x := fun cs e => hx ⟨cs,e⟩;obtain ⟨hy,hle⟩ := h2 hn;have e1 : jS N' i y = je N' (.s i) y := by cases y <;> first | rfl | exact absurd rfl (hy _)
  have e2 : jS N i x = je N (.s i) x := by cases x <;> first | rfl | exact absurd rfl (hn _)
  rw [e1,e2]; exact hle
theorem Gm {s : St} {i : Nat} {cs : List AV} (h : get s.env i = .agg cs) (j : Nat) : at_ s (.sc i j) = cs[j]? := by simp [at_,h]
theorem vd {s : St} {b : Nat} {cs : List AV} (h : aH s.H b = some cs) (j : Nat) : at_ s (.c b j) = cs[j]? := by simp [at_,h]
theorem EP {s : St} {p : Rt} (h : (aC s p).isSome) : Lf s p := by
 intro i hi cs hc;subst hi;cases ho : aC s (.s i) with
 | none => rw [ho] at h; cases h
 | some y =>
   obtain ⟨k,xs⟩ := y;rw [bY] at ho;simp [at_,hc] at ho
theorem pX.take {H : Heap} {o : Option Nat} {k m : Nat} {xs : List AV} (h : pX H o k xs) : pX H o k (xs.take m) := by
 cases o with
 | none => simp only [pX] at h ⊢; rw [h]; simp
 | some n =>
   simp only [pX] at h ⊢;obtain ⟨cs,h1,h2,h3,h4⟩ := h;refine ⟨cs,h1,?_,fun x hx => h3 x (cH hx),fun i c hc => ?_⟩
   ·rw [bg]; exact Nat.le_trans (bG k (Nat.min_le_right _ _)) h2
   ·refine h4 i c ?_
    have : ∀ (m : Nat) (l : List AV) (i : Nat) (c : AV),(aE (l.take m))[i]? = some c -> (aE l)[i]? = some c := by
     intro m
     induction m with
     | zero => intro l i c h; simp [aE] at h
     | succ m ih =>
       intro l i c h;cases l with
       | nil => simpa using h
       | cons y r =>
         simp only [List.take_succ_cons,aE] at h ⊢;rw [List.getElem?_append] at h ⊢;split
         ·rename_i bA; rw [if_pos bA] at h; exact h
         ·rename_i bA; rw [if_neg bA] at h; exact ih _ _ _ h
    exact this m xs i c hc
theorem EV {o : Rt -> Option (Nat × List AV)} {nb : Nat} {s : St} (h : ∀ r y,Lf s r -> at_ s r = some y -> cr o nb y) :
  (∀ i,cr o nb (get s.env i)) /\ ∀ b cs,aH s.H b = some cs -> ∀ (j : Nat) (c : AV),cs[j]? = some c -> cr o nb c := by
 refine ⟨fun i => ?_,fun b cs hb j c hc => h (.c b j) c (fun i e => by cases e) (by rw [vd hb]; exact hc)⟩;by_cases hx : ∃ cs,get s.env i = .agg cs
 ·obtain ⟨cs,dv⟩ := hx;rw [dv];simp only [cr];exact hJ.2 fun j c hc => h (.sc i j) c (fun i e => by cases e) (by rw [Gm dv]; exact hc)
 ·exact h (.s i) _ (fun j e cs hc => by cases e; exact hx ⟨cs,hc⟩) rfl
theorem eW.zu {X : Nat -> Prop} {φ : de} {w : World} {N : Names} {s : St} {Ha : Heap} {t : Nat -> Value} (h : eW X φ w N s Ha t) {r : Rt} {x : AV} (hx : at_ s r = some x) : cr (aC s) s.H.length x := by
 cases r with
 | s i => simp [at_] at hx; exact hx ▸ h.GO i
 | sc i j =>
   simp only [at_] at hx;split at hx
   ·rename_i cs dv;have := h.GO i;rw [dv] at this;simp only [cr] at this;exact hJ.1 this j x hx
   ·cases hx
 | c b j =>
   simp only [at_] at hx;split at hx
   ·rename_i cs dv;obtain ⟨as,_,_,h3⟩ := h.box b cs dv;exact (h3 j x hx).1
   ·cases hx
theorem Shape.back {s s' : St} (h : Shape s s') {r : Rt} {y : AV} (hl : Lf s' r) (hy : at_ s' r = some y) : Lf s r /\ ∃ x,at_ s r = some x := by
 cases r with
 | s i =>
   refine ⟨fun j e cs hc => ?_,_,rfl⟩;cases e;obtain ⟨ds,h1,_⟩ := h.agg i cs hc;exact hl i rfl ds h1
 | sc i j =>
   refine ⟨(fun j e => by cases e),?_⟩;simp only [at_] at hy ⊢;split at hy
   ·rename_i ds mY;by_cases hx : ∃ cs,get s.env i = .agg cs
    ·obtain ⟨cs,dv⟩ := hx;obtain ⟨es,h1,h2⟩ := h.agg i cs dv;rw [mY] at h1; cases h1;rw [dv];exact bc (by have := aB hy; omega)
    ·exact absurd mY (h.Po i (fun cs e => hx ⟨cs,e⟩) ds)
   ·cases hy
 | c b j =>
   refine ⟨(fun j e => by cases e),?_⟩;simp only [at_] at hy ⊢;split at hy
   ·rename_i ds mY;cases hb : aH s.H b with
    | none => rw [h.Cp b hb] at mY; cases mY
    | some cs =>
      obtain ⟨es,h1,h2⟩ := h.box b cs hb;rw [mY] at h1; cases h1;exact bc (by have := aB hy; omega)
   ·cases hy
theorem eW.change {X : Nat -> Prop} {φ : de} {w : World} {N N' : Names} {s s' : St} {Ha : Heap} {t : Nat -> Value} (h : eW X φ w N s Ha t) (eX : N'.β = N.β) (hs : Shape s s')
  (hp : ∀ r x y,Lf s r -> at_ s r = some x -> at_ s' r = some y -> cr (aC s') s'.H.length y /\ Le (je N' r y) (je N r x))
  (src : Rt -> Rt) (ho : ∀ p k xs,aC s' p = some (k,xs) -> ∃ ys,aC s (src p) = some (k,ys) /\ N'.ν p = N.ν (src p) /\ ∃ m,xs = ys.take m)
  (hi : ∀ p q,(aC s' p).isSome -> (aC s' q).isSome -> src p = src q -> p = q) : eW X φ w N' s' Ha t := by
 have so : ∀ {p},(aC s' p).isSome -> (aC s (src p)).isSome /\ N'.ν p = N.ν (src p) := by
  intro p hp;cases e : aC s' p with
  | none => rw [e] at hp; cases hp
  | some y => obtain ⟨ys,h1,h2,_⟩ := ho p y.1 y.2 e; exact ⟨by rw [h1]; rfl,h2⟩
 have sb : ∀ {b},(aH s'.H b).isSome -> (aH s.H b).isSome := by
  intro b hb;cases e : aH s.H b with
  | none => rw [hs.Cp b e] at hb; cases hb
  | some _ => rfl
 obtain ⟨hk,Zk⟩ := EV (o := aC s') (nb := s'.H.length) (s := s') fun r y hl hy => by
  obtain ⟨UL,x,hx⟩ := hs.back hl hy;exact (hp r x y UL hx hy).1
 refine ⟨fun i => ?_,hk,h.heap,fun p k xs e => ?_,fun b cs' e => ?_,fun p q n h1 h2 e1 e2 => ?_,fun b p h1 h2 e => ?_,fun b c h1 h2 e => ?_⟩
 ·refine Xq (fun cs dv => ?_) (fun hn => ⟨hs.Po i hn,?_⟩) _ _ _ (h.env i)
  ·obtain ⟨ds,h1,h2⟩ := hs.agg i cs dv;refine ⟨ds,h1,h2,fun j c d hc hd => (hp (.sc i j) c d (fun i e => by cases e) ?_ ?_).2⟩
   ·rw [Gm dv]; exact hc
   ·rw [Gm h1]; exact hd
  ·exact (hp (.s i) _ _ (fun j e => by cases e; exact hn) rfl rfl).2
 ·obtain ⟨ys,h1,h2,m,rfl⟩ := ho p k xs e;rw [h2];exact (h.own _ _ _ h1).take
 ·cases hb : aH s.H b with
  | none => rw [hs.Cp b hb] at e; cases e
  | some cs =>
    obtain ⟨ds,h1,h2⟩ := hs.box b cs hb;rw [e] at h1; cases h1;obtain ⟨as,g1,g2,g3⟩ := h.box b cs hb;refine ⟨as,by rw [eX]; exact g1,by omega,fun j c hc => ⟨Zk b cs' e j c hc,?_⟩⟩;obtain ⟨d,hd⟩ := bc (l := cs) (i := j) (by have := aB hc; omega);obtain ⟨_,a,g4,g5⟩ := g3 j d hd;exact ⟨a,g4,(hp (.c b j) d c (fun i e => by cases e) (by rw [vd hb]; exact hd) (by rw [vd e]; exact hc)).2.trans g5⟩
 ·obtain ⟨k1,k2⟩ := so h1;obtain ⟨k3,k4⟩ := so h2;exact hi p q h1 h2 (h.inj _ _ n k1 k3 (by rw [<- k2]; exact e1) (by rw [<- k4]; exact e2))
 ·obtain ⟨k1,k2⟩ := so h2;rw [k2,eX] at e;exact h.bx b _ (sb h1) k1 e
 ·rw [eX] at e;exact h.bi b c (sb h1) (sb h2) e

mutual
theorem JO {N N' : Names} {o o' : Rt -> Option (Nat × List AV)} {nb : Nat} {g : AV -> AV} (eX : N'.β = N.β) (hg : jA g)
  (hl : ∀ k p a l,(cr o nb (.dp k p a l) -> cr o' nb (g (.dp k p a l)) /\ Le (ct N' (g (.dp k p a l))) (ct N (.dp k p a l))) /\ (cr o nb (.eK k p a l) -> cr o' nb (g (.eK k p a l)) /\ Le (ct N' (g (.eK k p a l))) (ct N (.eK k p a l)))) :
  ∀ x,cr o nb x -> cr o' nb (b8 g x) /\ Le (ct N' (b8 g x)) (ct N x)
 | .dp k p a l,h => by simp only [b8]; exact (hl k p a l).1 h
 | .eK k p a l,h => by simp only [b8]; exact (hl k p a l).2 h
 | .agg cs,h => by
   simp only [cr] at h;obtain ⟨h1,h2,h3⟩ := uJ eX hg hl cs h;simp only [b8,cr,ct];exact ⟨h1,Le.agg h2 h3⟩
 | .dW cs,h => by
   simp only [cr] at h;obtain ⟨h1,h2,h3⟩ := uJ eX hg hl cs h;simp only [b8,cr,ct];refine ⟨h1,fun R φ v r => ?_⟩;cases r with
   | dW _ _ vs Cz hh2 =>
     refine .dW _ _ _ (h2.trans Cz) fun i c u hc hu => ?_;obtain ⟨y,hy⟩ := bc (l := kq N cs) (i := i) (by have := aB hc; omega);exact h3 i c y hc hy _ _ _ (hh2 i y u hy hu)
 | .func f a b,h => by
   simp only [cr] at h;obtain ⟨h1,h2,h3⟩ := uJ eX hg hl a h.1;obtain ⟨k1,k2,k3⟩ := uJ eX hg hl b h.2;simp only [b8,cr,ct];refine ⟨⟨h1,k1⟩,fun R φ v r => ?_⟩;cases r with
   | func _ _ _ va _ vb B6 B5 ha hb =>
     refine .func _ _ _ _ _ _ (h2.trans B6) (k2.trans B5) (fun i c u hc hu => ?_) (fun i c u hc hu => ?_)
     ·obtain ⟨y,hy⟩ := bc (l := kq N a) (i := i) (by have := aB hc; omega);exact h3 i c y hc hy _ _ _ (ha i y u hy hu)
     ·obtain ⟨y,hy⟩ := bc (l := kq N b) (i := i) (by have := aB hc; omega);exact k3 i c y hc hy _ _ _ (hb i y u hy hu)
 | .any,h => ⟨h,Le.refl _⟩
 | .undef,h => ⟨h,Le.refl _⟩
 | .fi,h => ⟨h,Le.refl _⟩
 | .eV,h => ⟨h,Le.refl _⟩
 | .dc,h => ⟨h,Le.refl _⟩
 | .int _ _,h => ⟨h,Le.refl _⟩
 | .bool _,h => ⟨h,Le.refl _⟩
 | .str _,h => ⟨h,Le.refl _⟩
 | .list _ _,h => ⟨h,Le.refl _⟩
 | .cX _,h => ⟨h,Le.refl _⟩
 | .own _ _,h => ⟨h,Le.refl _⟩
 | .sl k b off len,h => by simp only [b8,ct,eX]; exact ⟨h,Le.refl _⟩
 | .ptr b off,h => by simp only [b8,ct,eX]; exact ⟨h,Le.refl _⟩
theorem uJ {N N' : Names} {o o' : Rt -> Option (Nat × List AV)} {nb : Nat} {g : AV -> AV} (eX : N'.β = N.β) (hg : jA g)
  (hl : ∀ k p a l,(cr o nb (.dp k p a l) -> cr o' nb (g (.dp k p a l)) /\ Le (ct N' (g (.dp k p a l))) (ct N (.dp k p a l))) /\ (cr o nb (.eK k p a l) -> cr o' nb (g (.eK k p a l)) /\ Le (ct N' (g (.eK k p a l))) (ct N (.eK k p a l)))) :
  ∀ cs,jK o nb cs -> jK o' nb (cC g cs) /\ (kq N' (cC g cs)).length = (kq N cs).length /\ ∀ (i : Nat) (x y : AV),(kq N' (cC g cs))[i]? = some x -> (kq N cs)[i]? = some y -> Le x y
 | [],_ => ⟨trivial,rfl,fun i x y h => by simp [cC,kq] at h⟩
 | c :: r,h => by
   simp only [jK] at h;obtain ⟨h1,h2⟩ := JO eX hg hl c h.1;obtain ⟨k1,k2,k3⟩ := uJ eX hg hl r h.2;refine ⟨⟨h1,k1⟩,by simp [cC,kq,k2],fun i x y hx hy => ?_⟩;cases i with
   | zero => simp [cC,kq] at hx hy; subst hx hy; exact h2
   | succ i => simp [cC,kq] at hx hy; exact k3 i x y hx hy
end
theorem ku {N N' : Names} {o o' : Rt -> Option (Nat × List AV)} {nb : Nat} {g : AV -> AV} (eX : N'.β = N.β) (hg : jA g)
  (hl : ∀ k p a l,(cr o nb (.dp k p a l) -> cr o' nb (g (.dp k p a l)) /\ Le (ct N' (g (.dp k p a l))) (ct N (.dp k p a l))) /\ (cr o nb (.eK k p a l) -> cr o' nb (g (.eK k p a l)) /\ Le (ct N' (g (.eK k p a l))) (ct N (.eK k p a l))))
  {r : Rt} {x : AV} (hr : ∀ k xs,x = .own k xs -> N'.ν r = N.ν r) (hx : cr o nb x) : cr o' nb (b8 g x) /\ Le (je N' r (b8 g x)) (je N r x) := by
 by_cases ho : ∃ k xs,x = .own k xs
 ·obtain ⟨k,xs,rfl⟩ := ho;simp only [b8,je,rK,hr k xs rfl];exact ⟨trivial,Le.refl _⟩
 ·obtain ⟨h1,h2⟩ := JO eX hg hl x hx;refine ⟨h1,?_⟩
  have e1 : je N' r (b8 g x) = ct N' (b8 g x) := by
   have : ∀ k xs,b8 g x ≠ .own k xs := fun k xs e => ho ⟨k,xs,(uH hg x k xs).1 e⟩;generalize b8 g x = y at this;cases y <;> first | rfl | exact absurd rfl (this _ _)
  have e2 : je N r x = ct N x := by cases x <;> first | rfl | exact absurd ⟨_,_,rfl⟩ ho
  rw [e1,e2];exact h2
theorem Lf.map {g : AV -> AV} (hg : jA g) {s : St} {r : Rt} (h : Lf s r) : Lf (bW g s) r := by
 intro i hi;simp only [bW,cW];exact kt hg (h i hi)
theorem Ff (p : Rt) : jA (sw p) := by
 intro k q o l;simp only [sw];constructor <;> (split <;> exact ⟨(fun cs e => by cases e),(fun k xs e => by cases e)⟩)
theorem adL (p q : Rt) (n : Nat) : jA (rt p q n) := by
 intro k r o l;simp only [rt];constructor <;> (repeat' split) <;> exact ⟨(fun cs e => by cases e),(fun k xs e => by cases e)⟩
theorem adN (p : Rt) (k : Nat) (xs : List AV) : jA (fb p k xs) := by
 intro k r o l;simp only [fb];constructor <;> (repeat' split) <;> exact ⟨(fun cs e => by cases e),(fun k xs e => by cases e)⟩
theorem adM (i d : Nat) : jA (Un i d) := by
 intro k r o l;simp only [Un];exact ⟨⟨(fun cs e => by cases e),(fun k xs e => by cases e)⟩,⟨(fun cs e => by cases e),(fun k xs e => by cases e)⟩⟩
theorem Sx (i b off : Nat) : jA (jm i b off) := by
 intro k r o l;simp only [jm];exact ⟨⟨(fun cs e => by cases e),(fun k xs e => by cases e)⟩,⟨(fun cs e => by cases e),(fun k xs e => by cases e)⟩⟩
theorem vM : jA jP := by
 intro k r o l;cases r <;> exact ⟨⟨(fun cs e => by cases e),(fun k xs e => by cases e)⟩,⟨(fun cs e => by cases e),(fun k xs e => by cases e)⟩⟩
theorem xW {g : AV -> AV} (hg : jA g) {s : St} {p : Rt} {v x : AV} (hv : jr v) (hx : at_ s p = some x) (hn : jr x) {r : Rt} (hr : Lf s r) :
  at_ (setAt (bW g s) p v) r = if r = p then some v else (at_ s r).map (b8 g) := by
 rw [Bt ⟨hv,b8 g x,by rw [iS hg,hx]; rfl,kt hg hn⟩ (hr.map hg),iS hg]
theorem qo {g : AV -> AV} (hg : jA g) {s : St} {p : Rt} {v x : AV} (hv : jr v) (hx : at_ s p = some x) (hn : jr x) : Shape s (setAt (bW g s) p v) :=
 (Shape.map hg s).trans (Shape.set ⟨hv,b8 g x,by rw [iS hg,hx]; rfl,kt hg hn⟩)
theorem JC {s s' : St} {p q : Rt} (h : at_ s' p = at_ s q) : aC s' p = aC s q := by unfold aC; rw [h]
theorem iy {s s' : St} {p : Rt} (h : at_ s' p = at_ s p) : aC s' p = aC s p := by unfold aC; rw [h]
theorem rL {s : St} {q : Rt} (h : ¬ Lf s q) : aC s q = none := by
 cases e : aC s q with
 | none => rfl
 | some y => exact absurd (EP (by rw [e]; rfl)) h
theorem Shape.nlf {s s' : St} (h : Shape s s') {q : Rt} (hq : ¬ Lf s q) : ¬ Lf s' q := fun hl => hq fun i hi cs hc => by
 obtain ⟨ds,h1,_⟩ := h.agg i cs hc;exact hl i hi ds h1
theorem vG {s s' : St} (jo : Shape s s') {f : Rt -> Option (Nat × List AV)} (hf : ∀ q,Lf s q -> aC s' q = f q) (hn : ∀ q,¬ Lf s q -> f q = none) (q : Rt) : aC s' q = f q := by
 by_cases hq : Lf s q
 ·exact hf q hq
 ·rw [hn q hq,rL (jo.nlf hq)]
theorem eW.drop {X : Nat -> Prop} {φ : de} {w : World} {N : Names} {s : St} {Ha : Heap} {t : Nat -> Value} (h : eW X φ w N s Ha t) {p : Rt} {k : Nat} {xs : List AV} (hp : aC s p = some (k,xs)) :
  eW X φ w N (setAt (bW (sw p) s) p .any) Ha t /\ (∀ q,aC (setAt (bW (sw p) s) p .any) q = if q = p then none else aC s q) /\ Shape s (setAt (bW (sw p) s) p .any) := by
 have ua := bY.1 hp;have hn : jr (.own k xs) := fun cs e => by cases e
 have hv : jr .any := fun cs e => by cases e
 have jo := qo (Ff p) hv ua hn;have key : ∀ {r},Lf s r -> at_ (setAt (bW (sw p) s) p .any) r = if r = p then some .any else (at_ s r).map (b8 (sw p)) := fun hr => xW (Ff p) hv ua hn hr
 have own : ∀ q,aC (setAt (bW (sw p) s) p .any) q = if q = p then none else aC s q := by
  refine vG jo (fun q hq => ?_) (fun q hq => ?_)
  ·have e := key hq;by_cases nq : q = p
   ·subst nq; rw [if_pos rfl] at e ⊢; unfold aC; rw [e]
   ·rw [if_neg nq] at e ⊢;rw [<- iz (Ff p) s q];exact iy (by rw [e,iS (Ff p)])
  ·split
   ·rfl
   ·exact rL hq
 refine ⟨h.change rfl jo (fun r x y hl hx hy => ?_) id (fun q k' ys e => ?_) (fun q r _ _ e => e),own,jo⟩
 ·rw [key hl] at hy;by_cases Cw : r = p
  ·rw [if_pos Cw] at hy;cases hy;exact ⟨trivial,Le.any _⟩
  ·rw [if_neg Cw,hx] at hy;simp at hy;subst hy;have := ku (N := N) (N' := N) (o := aC s) (o' := aC (setAt (bW (sw p) s) p .any)) (nb := s.H.length) rfl (Ff p) (fun k q a l => ?_) (r := r) (x := x) (fun _ _ _ => rfl) (h.zu hx)
   ·rw [jo.len]; exact this
   ·simp only [sw];refine ⟨fun ho => ?_,fun ho => ?_⟩
    ·split
     ·exact ⟨trivial,Le.any _⟩
     ·rename_i nq;simp only [cr,own,if_neg nq] at ho ⊢;exact ⟨ho,Le.refl _⟩
    ·split
     ·exact ⟨trivial,Le.any _⟩
     ·rename_i nq;simp only [cr,own,if_neg nq] at ho ⊢;exact ⟨ho,Le.refl _⟩
 ·rw [own] at e;split at e
  ·cases e
  ·exact ⟨ys,e,rfl,ys.length,by simp⟩
theorem eW.give {X : Nat -> Prop} {φ : de} {w : World} {N : Names} {s : St} {Ha : Heap} {t : Nat -> Value} (h : eW X φ w N s Ha t) {p q : Rt} {k k' len : Nat} {xs : List AV} (hp : aC s p = some (k,xs)) (hq : at_ s q = some (.dp k' p 0 len)) :
  ∃ N',N'.β = N.β /\ eW X φ w N' (setAt (setAt (bW (rt p q len) s) p .any) q (.own k (xs.take len))) Ha t /\ (∀ r,aC (setAt (setAt (bW (rt p q len) s) p .any) q (.own k (xs.take len))) r = if r = q then some (k,xs.take len) else if r = p then none else aC s r) /\
   Shape s (setAt (setAt (bW (rt p q len) s) p .any) q (.own k (xs.take len))) := by
 have cO := h.zu hq;simp only [cr,hp,aj,aF] at cO;obtain ⟨_,⟨rfl,rfl⟩,hle⟩ := cO;have ua := bY.1 hp;have hn : jr (.own k xs) := fun cs e => by cases e
 have hv : jr .any := fun cs e => by cases e
 have nq : q ≠ p := by rintro rfl; rw [ua] at hq; cases hq
 have qn : aC s q = none := by unfold aC; rw [hq]
 have hg := adL p q len;have key1 : ∀ {r},Lf s r -> at_ (setAt (bW (rt p q len) s) p .any) r = if r = p then some .any else (at_ s r).map (b8 (rt p q len)) := fun hr => xW hg hv ua hn hr;have hsh1 : Shape s (setAt (bW (rt p q len) s) p .any) := qo hg hv ua hn;have hlq : Lf s q := fun i hi cs hc => by subst hi; simp [at_,hc] at hq
 have IA : at_ (setAt (bW (rt p q len) s) p .any) q = some (b8 (rt p q len) (.dp k p 0 len)) := by rw [key1 hlq,if_neg nq,hq]; rfl
 have hn1 : jr (b8 (rt p q len) (.dp k p 0 len)) := kt hg fun cs e => by cases e
 have hv1 : jr (.own k (xs.take len)) := fun cs e => by cases e
 have hsh2 : Shape s (setAt (setAt (bW (rt p q len) s) p .any) q (.own k (xs.take len))) := hsh1.trans (Shape.set ⟨hv1,_,IA,hn1⟩);have lf1 : ∀ {r},Lf s r -> Lf (setAt (bW (rt p q len) s) p .any) r := fun hr i hi => hsh1.Po i (hr i hi)
 have key : ∀ {r},Lf s r -> at_ (setAt (setAt (bW (rt p q len) s) p .any) q (.own k (xs.take len))) r = if r = q then some (.own k (xs.take len)) else if r = p then some .any else (at_ s r).map (b8 (rt p q len)) := by
  intro r hr;rw [Bt ⟨hv1,_,IA,hn1⟩ (lf1 hr),key1 hr]
 have own : ∀ r,aC (setAt (setAt (bW (rt p q len) s) p .any) q (.own k (xs.take len))) r = if r = q then some (k,xs.take len) else if r = p then none else aC s r := by
  refine vG hsh2 (fun r hr => ?_) (fun r hr => ?_)
  ·have e := key hr;by_cases h1 : r = q
   ·rw [if_pos h1] at e ⊢; exact bY.2 e
   ·rw [if_neg h1] at e ⊢;by_cases h2 : r = p
    ·rw [if_pos h2] at e ⊢; unfold aC; rw [e]
    ·rw [if_neg h2] at e ⊢;rw [<- iz hg s r];exact iy (by rw [e,iS hg])
  ·rw [if_neg (by rintro rfl; exact hr hlq)];split
   ·rfl
   ·exact rL hr
 refine ⟨⟨N.β,fun r => if r = q then N.ν p else N.ν r⟩,rfl,h.change rfl hsh2 (fun r x y hl hx hy => ?_) (fun r => if r = q then p else r) (fun r k' ys e => ?_) (fun r1 r2 e1 e2 e => ?_),own,hsh2⟩
 ·rw [key hl] at hy;by_cases h1 : r = q
  ·rw [if_pos h1] at hy;subst h1;rw [hq] at hx;cases hx;cases hy;refine ⟨trivial,?_⟩;have hlen : (xs.take len).length = len := by rw [bg]; omega
   simp only [je,ct,rK,if_true,hlen,qE];exact Le.refl _
  ·rw [if_neg h1] at hy;by_cases h2 : r = p
   ·rw [if_pos h2] at hy;cases hy;exact ⟨trivial,Le.any _⟩
   ·rw [if_neg h2,hx] at hy;simp at hy;subst hy;have := ku (N := N) (N' := ⟨N.β,fun r => if r = q then N.ν p else N.ν r⟩) (o := aC s) (o' := aC (setAt (setAt (bW (rt p q len) s) p .any) q (.own k (xs.take len)))) (nb := s.H.length) rfl hg (fun kk r' a l => ?_) (r := r) (x := x) (fun _ _ _ => by simp [h1]) (h.zu hx)
    ·rw [hsh2.len]; exact this
    ·simp only [rt];refine ⟨fun ho => ?_,fun ho => ?_⟩
     ·split
      ·rename_i Cw;subst Cw;split
       ·rename_i hal;simp only [cr,hp,aj,aF] at ho;obtain ⟨_,⟨rfl,rfl⟩,_⟩ := ho;refine ⟨?_,?_⟩
        ·simp only [cr,own,if_true];exact ⟨_,rfl,by rw [bg]; omega⟩
        ·simp only [ct,if_true]; exact Le.refl _
       ·exact ⟨trivial,Le.any _⟩
      ·rename_i Cw;simp only [cr] at ho ⊢;obtain ⟨zs,hz,hz2⟩ := ho;have hrq : r' ≠ q := by rintro rfl; rw [qn] at hz; cases hz
       refine ⟨⟨zs,by rw [own,if_neg hrq,if_neg Cw]; exact hz,hz2⟩,?_⟩;simp only [ct,if_neg hrq]; exact Le.refl _
     ·split
      ·rename_i Cw;subst Cw;split
       ·rename_i hal;simp only [cr,hp,aj,aF] at ho;obtain ⟨_,⟨rfl,rfl⟩,_⟩ := ho;refine ⟨?_,?_⟩
        ·simp only [cr,own,if_true];exact ⟨_,rfl,by rw [bg]; omega⟩
        ·simp only [ct,if_true]; exact Le.refl _
       ·exact ⟨trivial,Le.any _⟩
      ·rename_i Cw;simp only [cr] at ho ⊢;obtain ⟨zs,hz,hz2⟩ := ho;have hrq : r' ≠ q := by rintro rfl; rw [qn] at hz; cases hz
       refine ⟨⟨zs,by rw [own,if_neg hrq,if_neg Cw]; exact hz,hz2⟩,?_⟩;simp only [ct,if_neg hrq]; exact Le.refl _
 ·rw [own] at e;by_cases h1 : r = q
  ·rw [if_pos h1] at e;simp only [aj,aF] at e;obtain ⟨rfl,rfl⟩ := e;exact ⟨xs,by simp [h1,hp],by simp [h1,nq.symm],len,rfl⟩
  ·rw [if_neg h1] at e;by_cases h2 : r = p
   ·rw [if_pos h2] at e; cases e
   ·rw [if_neg h2] at e;exact ⟨ys,by simp [h1,e],by simp [h1],ys.length,by simp⟩
 ·have np : ∀ r,(aC (setAt (setAt (bW (rt p q len) s) p .any) q (.own k (xs.take len))) r).isSome -> r ≠ p := by
   intro r hr e;subst e;rw [own,if_neg (sy nq),if_pos rfl] at hr;cases hr
  by_cases h1 : r1 = q <;> by_cases h2 : r2 = q
  ·rw [h1,h2]
  ·simp only [h1,h2,if_true,if_false] at e;exact absurd e.symm (np r2 e2)
  ·simp only [h1,h2,if_true,if_false] at e;exact absurd e (np r1 e1)
  ·simpa only [h1,h2,if_false] using e
end Go.Bm

/- What is owned becomes a value by value. -/
namespace Go.Bm
open Go.Am

theorem zT {k : Nat} : ∀ {xs : List AV},(∀ x ∈ xs,x.cells.length = k) -> ∀ {i j : Nat} {x c : AV},xs[i]? = some x -> x.cells[j]? = some c -> (aE xs)[i * k + j]? = some c
 | [],_,i,j,x,c,h,_ => by simp at h
 | y :: r,hk,i,j,x,c,h,hc => by
   have hy := hk y (by simp);cases i with
   | zero =>
     simp at h; subst h;simp only [aE,qE,fD];rw [av (aB hc)];exact hc
   | succ i =>
     simp at h;have := zT (xs := r) (fun z hz => hk z (by simp [hz])) h hc;simp only [aE];rw [aQ (by rw [hy,bV]; omega),hy,bV,show i * k + 1 * k + j - k = i * k + j by omega];exact this
mutual
theorem gH : ∀ x : AV,pl x = true -> x.plain = true
 | .agg cs,h => by simp only [pl] at h; simp only [AV.plain]; exact rJ cs h
 | .dW cs,h => by simp only [pl] at h; simp only [AV.plain]; exact rJ cs h
 | .func _ a b,h => by simp only [pl,ab] at h; simp only [AV.plain,ab]; exact ⟨rJ a h.1,rJ b h.2⟩
 | .any,_ => rfl
 | .undef,_ => rfl
 | .fi,_ => rfl
 | .eV,_ => rfl
 | .dc,_ => rfl
 | .int _ _,_ => rfl
 | .bool _,_ => rfl
 | .str _,_ => rfl
 | .list _ _,_ => rfl
 | .cX _,_ => rfl
 | .own _ _,h => by simp [pl] at h
 | .dp _ _ _ _,h => by simp [pl] at h
 | .eK _ _ _ _,h => by simp [pl] at h
 | .ptr _ _,h => by simp [pl] at h
 | .sl _ _ _ _,h => by simp [pl] at h
theorem rJ : ∀ cs : List AV,j5 cs = true -> qy cs = true
 | [],_ => rfl
 | x :: r,h => by simp only [j5,ab] at h; simp only [qy,ab]; exact ⟨gH x h.1,rJ r h.2⟩
end
theorem lu {c : AV} (h : fz c = true) : pl c = true /\ c.leaf = true := by
 unfold fz at h;simp only [ab] at h;exact ⟨h.2,h.1⟩
section
variable {X : Nat -> Prop} {φ : de} {w : World} {Ha : Heap}
theorem vF (h : b6 X φ w Ha) {n k : Nat} {xs : List AV} (ho : pX Ha (some n) k xs) :
  ∃ g sz,φ[n]? = some (some (g,sz)) /\ ¬ X g /\ ∀ (i j : Nat) (x c : AV),xs[i]? = some x -> x.cells[j]? = some c -> ∃ u,w.cell? ⟨g,i * k + j,none⟩ = some u /\ fz c = true /\ bN (Rd X φ w) [] c u := by
 obtain ⟨cs,h1,h2,h3,h4⟩ := ho;obtain ⟨g,sz,arr,e,g1,g2,g3,g4,g5,g6⟩ := h.at h1;refine ⟨g,sz,g1,g5,fun i j x c hx hc => ?_⟩;obtain ⟨f1,a,f2,_,f3⟩ := h4 _ c (zT h3 hx hc);obtain ⟨u,u1,u2⟩ := g6 _ a f2;exact ⟨u,by rw [gL g2]; exact u1,f1,(f3 _ _ _ u2).dA (gH _ (lu f1).1) []⟩
theorem Wg {n g sz : Nat} (h : b6 X φ w Ha) (kF : φ[n]? = some (some (g,sz))) {o : Nat} {u : Value} (hX : ¬ X g) (hu : w.cell? ⟨g,o,none⟩ = some u) : Rd X (φ.set n none) w ⟨g,o,none⟩ u := by
 refine ⟨hX,fun ⟨b,m9,hb⟩ => ?_,hu⟩;rw [bj] at hb;split at hb
 ·split at hb <;> simp at hb
 ·rename_i sZ;exact sZ (h.inj n b g sz m9 kF hb)
theorem Wf (n : Nat) : ∀ a u,Rd X φ w a u -> Rd X (φ.set n none) w a u := fun _ _ ⟨h1,h2,h3⟩ => ⟨h1,fun h => h2 (H8 h),h3⟩
theorem Gc (h : b6 X φ w Ha) {n k : Nat} {xs : List AV} (ho : pX Ha (some n) k xs) {off len : Nat} (hle : off + len <= xs.length) {v : Value} (r : bN (Rd X φ w) φ (.sl k n (off * k) len) v) (ψ : de) :
  bN (Rd X (φ.set n none) w) ψ (.list k ((xs.drop off).take len)) v := by
 obtain ⟨g,sz,kF,hX,hc⟩ := vF h ho;cases r with
 | sl _ _ _ _ _ a cap hb iZ hh =>
   obtain ⟨h1,h2⟩ := hh g sz kF;by_cases h0 : len = 0
   ·subst h0;simp only [List.take_zero];exact .tS _ _ _ _ _ _ (fun _ _ => undef) rfl iZ (fun x hx => by simp at hx) (fun i j x c hx => by simp at hx) (fun i j x c hx => by simp at hx)
   ·have ha := h1 (by omega);subst ha
    have hx : ∀ (i : Nat) (x : AV),((xs.drop off).take len)[i]? = some x -> xs[off + i]? = some x /\ i < len := by
     intro i x hx;rw [bF] at hx;split at hx
     ·rw [aV] at hx; exact ⟨hx,‹_›⟩
     ·cases hx
    obtain ⟨cs,q1,q2,hk,q4⟩ := ho;refine .tS _ _ _ _ _ _ (fun i j => (w.cell? ⟨g,(off + i) * k + j,none⟩).getD undef) (by simp; omega) iZ (fun x hm => ?_) (fun i j x c hi hj => ?_) (fun i j x c hi hj => ?_)
    ·exact hk x (cI (cH hm))
    ·obtain ⟨u,u1,_,_⟩ := hc _ j x c (hx i x hi).1 hj;rw [u1,Addr.iu,show off * k + (i * k + j) = (off + i) * k + j by rw [bV]; omega];exact Wg h kF hX u1
    ·obtain ⟨u,u1,_,u3⟩ := hc _ j x c (hx i x hi).1 hj;rw [u1];exact u3.mono (Wf n) (.refl _)
theorem Vf (h : b6 X φ w Ha) {n k : Nat} {xs : List AV} (ho : pX Ha (some n) k xs) {i o : Nat} {x : AV} (hx : xs[i]? = some x) {v : Value} (r : bN (Rd X φ w) φ (.ptr n (i * k + o)) v) (ψ : de) :
  bN (Rd X (φ.set n none) w) ψ (.cX (x.cells.drop o)) v := by
 obtain ⟨g,sz,kF,hX,hc⟩ := vF h ho;cases r with
 | ptr _ _ _ a hb hh =>
   have ha := hh g sz kF;subst ha;refine .cX _ _ _ (fun j => (w.cell? ⟨g,i * k + (o + j),none⟩).getD undef) (fun j c hj => ?_) (fun j c hj => ?_)
   ·rw [aV] at hj;obtain ⟨u,u1,_,_⟩ := hc i (o + j) x c hx hj;rw [u1,Addr.iu,show i * k + o + j = i * k + (o + j) by omega];exact Wg h kF hX u1
   ·rw [aV] at hj;obtain ⟨u,u1,_,u3⟩ := hc i (o + j) x c hx hj;rw [u1];exact u3.mono (Wf n) (.refl _)
end
theorem ZM {R R' : Addr -> Value -> Prop} {φ φ' : de} {N N' : Names} {i : Nat} {x y : AV} (h1 : ∀ cs,x = .agg cs -> ∃ ds,y = .agg ds /\ ds.length = cs.length /\ ∀ (j : Nat) (c d : AV),cs[j]? = some c -> ds[j]? = some d -> ∀ u,bN R φ (je N (.sc i j) c) u -> bN R' φ' (je N' (.sc i j) d) u)
  (h2 : jr x -> jr y /\ ∀ v,bN R φ (je N (.s i) x) v -> bN R' φ' (je N' (.s i) y) v) {v : Value} (hv : bN R φ (jS N i x) v) : bN R' φ' (jS N' i y) v := by
 by_cases hx : ∃ cs,x = .agg cs
 ·obtain ⟨cs,rfl⟩ := hx;obtain ⟨ds,rfl,hl,h⟩ := h1 cs rfl;simp only [jS] at hv ⊢;cases hv with
  | agg _ _ vs Cz hh =>
    rw [gR] at Cz;refine .agg _ _ _ (by rw [gR]; omega) fun j c u hc hu => ?_;rw [fH] at hc;simp only [fD] at hc;cases hd : ds[j]? with
    | none => rw [hd] at hc; cases hc
    | some d =>
      rw [hd] at hc;simp at hc;subst hc;obtain ⟨c,hc⟩ := bc (l := cs) (i := j) (by have := aB hd; omega);exact h j c d hc hd u (hh j _ u (by rw [fH,hc]; simp) hu)
 ·have hn : jr x := fun cs e => hx ⟨cs,e⟩;obtain ⟨hy,hle⟩ := h2 hn;have e1 : jS N' i y = je N' (.s i) y := by cases y <;> first | rfl | exact absurd rfl (hy _)
  have e2 : jS N i x = je N (.s i) x := by cases x <;> first | rfl | exact absurd rfl (hn _)
  rw [e2] at hv;rw [e1];exact hle v hv
mutual
theorem KN {R R' : Addr -> Value -> Prop} {φ φ' : de} {N N' : Names} {o o' : Rt -> Option (Nat × List AV)} {nb : Nat} {g : AV -> AV} (hR : ∀ a u,R a u -> R' a u) (kF : vk φ φ') (eX : N'.β = N.β)
  (hl : ∀ k p a l,(cr o nb (.dp k p a l) -> cr o' nb (g (.dp k p a l)) /\ ∀ v,bN R φ (ct N (.dp k p a l)) v -> bN R' φ' (ct N' (g (.dp k p a l))) v) /\ (cr o nb (.eK k p a l) -> cr o' nb (g (.eK k p a l)) /\ ∀ v,bN R φ (ct N (.eK k p a l)) v -> bN R' φ' (ct N' (g (.eK k p a l))) v)) :
  ∀ x,cr o nb x -> cr o' nb (b8 g x) /\ ∀ v,bN R φ (ct N x) v -> bN R' φ' (ct N' (b8 g x)) v
 | .dp k p a l,h => by simp only [b8]; exact (hl k p a l).1 h
 | .eK k p a l,h => by simp only [b8]; exact (hl k p a l).2 h
 | .agg cs,h => by
   simp only [cr] at h;obtain ⟨h1,h3⟩ := qR hR kF eX hl cs h;simp only [b8,cr,ct];refine ⟨h1,fun v r => ?_⟩;cases r with
   | agg _ _ vs Cz hh2 =>
     refine .agg _ _ _ (by simp only [dQ,bZ] at Cz ⊢; exact Cz) fun i c u hc hu => ?_;exact h3 i c u hc (fun y hy => hh2 i y u hy hu)
 | .dW cs,h => by
   simp only [cr] at h;obtain ⟨h1,h3⟩ := qR hR kF eX hl cs h;simp only [b8,cr,ct];refine ⟨h1,fun v r => ?_⟩;cases r with
   | dW _ _ vs Cz hh2 =>
     refine .dW _ _ _ (by simp only [dQ,bZ] at Cz ⊢; exact Cz) fun i c u hc hu => ?_;exact h3 i c u hc (fun y hy => hh2 i y u hy hu)
 | .func f a b,h => by
   simp only [cr] at h;obtain ⟨h1,h3⟩ := qR hR kF eX hl a h.1;obtain ⟨k1,k3⟩ := qR hR kF eX hl b h.2;simp only [b8,cr,ct];refine ⟨⟨h1,k1⟩,fun v r => ?_⟩;cases r with
   | func _ _ _ va _ vb B6 B5 ha hb =>
     refine .func _ _ _ _ _ _ (by simp only [dQ,bZ] at B6 ⊢; exact B6) (by simp only [dQ,bZ] at B5 ⊢; exact B5) (fun i c u hc hu => ?_) (fun i c u hc hu => ?_)
     ·exact h3 i c u hc (fun y hy => ha i y u hy hu)
     ·exact k3 i c u hc (fun y hy => hb i y u hy hu)
 | .any,h => ⟨h,fun v r => r.mono hR kF⟩
 | .undef,h => ⟨h,fun v r => r.mono hR kF⟩
 | .fi,h => ⟨h,fun v r => r.mono hR kF⟩
 | .eV,h => ⟨h,fun v r => r.mono hR kF⟩
 | .dc,h => ⟨h,fun v r => r.mono hR kF⟩
 | .int _ _,h => ⟨h,fun v r => r.mono hR kF⟩
 | .bool _,h => ⟨h,fun v r => r.mono hR kF⟩
 | .str _,h => ⟨h,fun v r => r.mono hR kF⟩
 | .list _ _,h => ⟨h,fun v r => r.mono hR kF⟩
 | .cX _,h => ⟨h,fun v r => r.mono hR kF⟩
 | .own _ _,h => ⟨h,fun v r => r.mono hR kF⟩
 | .sl _ b _ _,h => by simp only [b8,ct,eX]; exact ⟨h,fun v r => r.mono hR kF⟩
 | .ptr b off,h => by simp only [b8,ct,eX]; exact ⟨h,fun v r => r.mono hR kF⟩
theorem qR {R R' : Addr -> Value -> Prop} {φ φ' : de} {N N' : Names} {o o' : Rt -> Option (Nat × List AV)} {nb : Nat} {g : AV -> AV} (hR : ∀ a u,R a u -> R' a u) (kF : vk φ φ') (eX : N'.β = N.β)
  (hl : ∀ k p a l,(cr o nb (.dp k p a l) -> cr o' nb (g (.dp k p a l)) /\ ∀ v,bN R φ (ct N (.dp k p a l)) v -> bN R' φ' (ct N' (g (.dp k p a l))) v) /\ (cr o nb (.eK k p a l) -> cr o' nb (g (.eK k p a l)) /\ ∀ v,bN R φ (ct N (.eK k p a l)) v -> bN R' φ' (ct N' (g (.eK k p a l))) v)) :
  ∀ cs,jK o nb cs -> jK o' nb (cC g cs) /\ ∀ (i : Nat) (x : AV) (u : Value),(kq N' (cC g cs))[i]? = some x -> (∀ y,(kq N cs)[i]? = some y -> bN R φ y u) -> bN R' φ' x u
 | [],_ => ⟨trivial,fun i x u h => by simp [cC,kq] at h⟩
 | c :: r,h => by
   simp only [jK] at h;obtain ⟨h1,h2⟩ := KN hR kF eX hl c h.1;obtain ⟨k1,k3⟩ := qR hR kF eX hl r h.2;refine ⟨⟨h1,k1⟩,fun i x u hx hy => ?_⟩;cases i with
   | zero => simp [cC,kq] at hx hy; subst hx; exact h2 u hy
   | succ i => simp [cC,kq] at hx hy; exact k3 i x u hx hy
end
theorem uW (L : Nat) (G : Nat -> Ql) : ∃ H : Heap,H.length = L /\ ∀ m,m < L -> H[m]? = some (G m) :=
 ⟨(List.range L).map G,by simp,fun m hm => by simp [hm]⟩
theorem Jl {N N' : Names} {g : AV -> AV} (hg : jA g) {r : Rt} {x : AV} (ho : NOwn x) : je N r x = ct N x /\ je N' r (b8 g x) = ct N' (b8 g x) := by
 constructor
 ·cases x <;> first | rfl | exact absurd rfl (ho _ _)
 ·have : ∀ k xs,b8 g x ≠ .own k xs := fun k xs e => ho k xs ((uH hg x k xs).1 e);generalize b8 g x = y at this;cases y <;> first | rfl | exact absurd rfl (this _ _)
theorem eW.Bk {X : Nat -> Prop} {φ : de} {w : World} {N : Names} {s : St} {Ha : Heap} {t : Nat -> Value} (h : eW X φ w N s Ha t) (p : Rt) :
  ∃ φ' Ha',eW X φ' w N (FB s p) Ha' t /\ fB φ w φ' w /\ (∀ q,aC (FB s p) q = if q = p then none else aC s q) /\ Shape s (FB s p) := by
 unfold FB;cases hp : aC s p with
 | none =>
   refine ⟨φ,Ha,h,.refl _ _,fun q => ?_,.refl _⟩;by_cases e : q = p
   ·rw [if_pos e,e]; exact hp
   ·rw [if_neg e]
 | some y =>
   obtain ⟨k,xs⟩ := y;simp only;have ua := bY.1 hp;have hn : jr (.own k xs) := fun cs e => by cases e
   have hv : jr (.list k xs) := fun cs e => by cases e
   have hg := adN p k xs;have jo := qo hg hv ua hn;generalize Zh : setAt (bW (fb p k xs) s) p (.list k xs) = s' at jo ⊢;have key : ∀ {r},Lf s r -> at_ s' r = if r = p then some (.list k xs) else (at_ s r).map (b8 (fb p k xs)) := fun hr => by rw [<- Zh]; exact xW hg hv ua hn hr
   have own : ∀ q,aC s' q = if q = p then none else aC s q := by
    refine vG jo (fun q hq => ?_) (fun q hq => ?_)
    ·have e := key hq;by_cases nq : q = p
     ·subst nq; rw [if_pos rfl] at e ⊢; unfold aC; rw [e]
     ·rw [if_neg nq] at e ⊢;rw [<- iz hg s q];exact iy (by rw [e,iS hg])
    ·split
     ·rfl
     ·exact rL hq
   have fA := h.own p k xs hp;cases k9 : N.ν p with
   | none =>
     rw [k9] at fA;have fA : xs = [] := fA;subst fA;refine ⟨φ,Ha,h.change rfl jo (fun r x y hl hx hy => ?_) id (fun q k' ys e => ?_) (fun q r _ _ e => e),.refl _ _,own,jo⟩
     ·rw [key hl] at hy;by_cases Cw : r = p
      ·rw [if_pos Cw] at hy;subst Cw;rw [ua] at hx;cases hx; cases hy;refine ⟨trivial,?_⟩;simp only [je,ct,rK,k9];exact Le.gI k
      ·rw [if_neg Cw,hx] at hy;simp at hy;subst hy;have := ku (N := N) (N' := N) (o := aC s) (o' := aC s') (nb := s.H.length) rfl hg (fun k' q a l => ?_) (r := r) (x := x) (fun _ _ _ => rfl) (h.zu hx)
       ·rw [jo.len]; exact this
       ·simp only [fb];refine ⟨fun ho => ?_,fun ho => ?_⟩
        ·by_cases nq : q = p
         ·rw [if_pos nq];subst nq;simp only [cr,hp,aj,aF] at ho;obtain ⟨_,⟨rfl,rfl⟩,hle⟩ := ho;rw [if_pos ⟨rfl,hle⟩];refine ⟨trivial,?_⟩;simp only [ct,k9,List.drop_nil,List.take_nil];exact Le.gI k
         ·rw [if_neg nq];simp only [cr,own,if_neg nq] at ho ⊢;exact ⟨ho,Le.refl _⟩
        ·by_cases nq : q = p
         ·subst nq;simp only [cr,hp,aj,aF] at ho;obtain ⟨_,⟨rfl,rfl⟩,hle⟩ := ho;simp at hle
         ·rw [if_neg nq];simp only [cr,own,if_neg nq] at ho ⊢;exact ⟨ho,Le.refl _⟩
     ·rw [own] at e;split at e
      ·cases e
      ·exact ⟨ys,e,rfl,ys.length,by simp⟩
   | some n =>
     rw [k9] at fA;obtain ⟨_,s5⟩ := h.heap.Xw n;have hr2 : ∀ a u,Rd X φ w a u -> Rd X (φ.set n none) w a u := s5.rd
     have conv : ∀ r x y,Lf s r -> at_ s r = some x -> at_ s' r = some y -> cr (aC s') s'.H.length y /\ ∀ v,bN (Rd X φ w) φ (je N r x) v -> bN (Rd X (φ.set n none) w) (φ.set n none) (je N r y) v := by
      intro r x y hl hx hy;rw [key hl] at hy;by_cases Cw : r = p
      ·rw [if_pos Cw] at hy;subst Cw;rw [ua] at hx;cases hx; cases hy;refine ⟨trivial,fun v hv => ?_⟩;simp only [je,ct,rK,k9] at hv ⊢;have := Gc h.heap fA (off := 0) (len := xs.length) (by omega) (by simpa using hv) (φ.set n none);simpa using this
      ·rw [if_neg Cw,hx] at hy;simp at hy;subst hy
       have On := KN (R := Rd X φ w) (R' := Rd X (φ.set n none) w) (φ := φ) (φ' := φ.set n none) (N := N) (N' := N) (o := aC s) (o' := aC s') (nb := s.H.length) (g := fb p k xs) hr2 s5.RX rfl (fun k' q a l => by
        simp only [fb];refine ⟨fun ho => ?_,fun ho => ?_⟩
        ·by_cases nq : q = p
         ·rw [if_pos nq];subst nq;simp only [cr,hp,aj,aF] at ho;obtain ⟨_,⟨rfl,rfl⟩,hle⟩ := ho;rw [if_pos ⟨rfl,hle⟩];refine ⟨trivial,fun v hv => ?_⟩;simp only [ct,k9] at hv ⊢;exact Gc h.heap fA hle hv _
         ·rw [if_neg nq];simp only [cr,own,if_neg nq] at ho ⊢;exact ⟨ho,fun v hv => hv.mono hr2 s5.RX⟩
        ·by_cases nq : q = p
         ·rw [if_pos nq];subst nq;simp only [cr,hp,aj,aF] at ho;obtain ⟨_,⟨rfl,rfl⟩,hle⟩ := ho;rw [if_pos rfl];obtain ⟨x,hx⟩ := bc hle;rw [hx];refine ⟨trivial,fun v hv => ?_⟩;simp only [ct,k9] at hv ⊢;exact Vf h.heap fA hx hv _
         ·rw [if_neg nq];simp only [cr,own,if_neg nq] at ho ⊢;exact ⟨ho,fun v hv => hv.mono hr2 s5.RX⟩) x (h.zu hx)
       refine ⟨by rw [jo.len]; exact On.1,fun v hv => ?_⟩;by_cases hxo : ∃ k' ys,x = .own k' ys
       ·obtain ⟨k',ys,rfl⟩ := hxo;simp only [b8,je,rK] at hv ⊢;exact hv.mono hr2 s5.RX
       ·obtain ⟨e1,e2⟩ := Jl (N := N) (N' := N) hg (r := r) (x := x) (fun k ys e => hxo ⟨k,ys,e⟩);rw [e1] at hv;rw [e2];exact On.2 v hv
     obtain ⟨hk,Zk⟩ := EV (o := aC s') (nb := s'.H.length) (s := s') fun r y hl hy => by
      obtain ⟨UL,x,hx⟩ := jo.back hl hy;exact (conv r x y UL hx hy).1
     have sb : ∀ {b},(aH s'.H b).isSome -> (aH s.H b).isSome := by
      intro b hb;cases e : aH s.H b with
      | none => rw [jo.Cp b e] at hb; cases hb
      | some _ => rfl
     have so : ∀ {q},(aC s' q).isSome -> (aC s q).isSome /\ q ≠ p := by
      intro q hq;rw [own] at hq;by_cases e : q = p
      ·rw [if_pos e] at hq; cases hq
      ·rw [if_neg e] at hq; exact ⟨hq,e⟩
     classical
     obtain ⟨Ha',hL,hG⟩ := uW Ha.length (fun m => if m = n then none else if hb : ∃ z : Nat × List AV,aH s'.H z.1 = some z.2 /\ N.β z.1 = m then some (OE N (.c hb.choose.1) 0 hb.choose.2) else (Ha[m]?).getD none)
     have hbox : ∀ b cs,aH s'.H b = some cs -> aH Ha' (N.β b) = some (OE N (.c b) 0 cs) := by
      intro b cs hb;obtain ⟨S9,CD⟩ := aW.1 (sb (by rw [hb]; rfl : (aH s'.H b).isSome));obtain ⟨as,g1,_⟩ := h.box b S9 CD;rw [qk,hG _ (dZ g1)];have sZ : N.β b ≠ n := fun e => h.bx b p (by rw [CD]; rfl) (by rw [hp]; rfl) (by rw [k9,e]);have hex : ∃ z : Nat × List AV,aH s'.H z.1 = some z.2 /\ N.β z.1 = N.β b := ⟨(b,cs),hb,rfl⟩;rw [if_neg sZ,dif_pos hex];have e1 : hex.choose.1 = b := h.bi _ _ (sb (by rw [hex.choose_spec.1]; rfl)) (by rw [CD]; rfl) hex.choose_spec.2
      have e2 : hex.choose.2 = cs := by
       have := hex.choose_spec.1;rw [e1,hb] at this;exact (dm this).symm
      rw [e2,e1]
     have Be : ∀ m,m ≠ n -> (¬ ∃ z : Nat × List AV,aH s'.H z.1 = some z.2 /\ N.β z.1 = m) -> Ha'[m]? = Ha[m]? := by
      intro m hm UJ;by_cases bA : m < Ha.length
      ·rw [hG m bA,if_neg hm,dif_neg UJ];obtain ⟨x,hx⟩ := bc bA;rw [hx]; rfl
      ·rw [c9 (by omega),c9 (by omega)]
     refine ⟨φ.set n none,Ha',⟨fun i => ?_,hk,⟨?_,h.heap.GL,fun m cs hm => ?_,fun m hm => ?_,fun m m' g sz m9 e1 e2 => ?_⟩,fun q k' ys e => ?_,fun b cs e => ?_,fun q r m e1 e2 e3 e4 => ?_,fun b q e1 e2 e3 => ?_,fun b c e1 e2 e3 => ?_⟩,s5,own,jo⟩
     ·refine ZM (fun cs dv => ?_) (fun hnn => ⟨jo.Po i hnn,?_⟩) (h.env i)
      ·obtain ⟨ds,h1,h2⟩ := jo.agg i cs dv;refine ⟨ds,h1,h2,fun j c d hc hd => (conv (.sc i j) c d (fun i e => by cases e) ?_ ?_).2⟩
       ·rw [Gm dv]; exact hc
       ·rw [Gm h1]; exact hd
      ·exact (conv (.s i) _ _ (fun j e => by cases e; exact hnn) rfl rfl).2
     ·rw [List.length_set,h.heap.len,hL]
     ·have bA := aB hm;rw [hL] at bA;by_cases C2 : m = n
      ·rw [hG m bA,if_pos C2] at hm; cases hm
      ·by_cases UJ : ∃ z : Nat × List AV,aH s'.H z.1 = some z.2 /\ N.β z.1 = m
       ·obtain ⟨⟨b,ds⟩,hb,rfl⟩ := UJ;simp only at hb hm C2;have := hbox b ds hb;rw [qk,hm] at this;cases this;obtain ⟨S9,CD⟩ := aW.1 (sb (by rw [hb]; rfl : (aH s'.H b).isSome));obtain ⟨as,g1,g2,g3⟩ := h.box b S9 CD;obtain ⟨g,sz,arr,e,f1,f2,f3,f4,f5,f6⟩ := h.heap.at g1;obtain ⟨ds',q1,q2⟩ := jo.box b S9 CD;rw [hb] at q1; cases q1;refine ⟨g,sz,arr,e,?_,f2,f3,by rw [gR]; omega,f5,fun i c hc => ?_⟩
        ·rw [jR (sy C2)]; exact f1
        ·rw [fH] at hc;simp only [fD] at hc;cases hd : ds[i]? with
         | none => rw [hd] at hc; cases hc
         | some d =>
           rw [hd] at hc;simp at hc;subst hc;obtain ⟨c0,Fw⟩ := bc (l := S9) (i := i) (by have := aB hd; omega);obtain ⟨_,a,a1,a2⟩ := g3 i c0 Fw;obtain ⟨u,u1,u2⟩ := f6 i a a1;exact ⟨u,u1,(conv (.c b i) c0 d (fun i e => by cases e) (by rw [vd CD]; exact Fw) (by rw [vd hb]; exact hd)).2 u (a2 _ _ _ u2)⟩
       ·rw [Be m C2 UJ] at hm;obtain ⟨g,sz,arr,e,f1,f2,f3,f4,f5,f6⟩ := h.heap.live m cs hm;refine ⟨g,sz,arr,e,?_,f2,f3,f4,f5,fun i c hc => ?_⟩
        ·rw [jR (sy C2)]; exact f1
        ·obtain ⟨u,u1,u2⟩ := f6 i c hc;exact ⟨u,u1,u2.mono hr2 s5.RX⟩
     ·by_cases C2 : m = n
      ·subst C2;have bA := aB hm;rw [List.getElem?_set_self (by rw [h.heap.len]; omega)]
      ·rw [jR (sy C2)];by_cases UJ : ∃ z : Nat × List AV,aH s'.H z.1 = some z.2 /\ N.β z.1 = m
       ·obtain ⟨⟨b,ds⟩,hb,rfl⟩ := UJ;simp only at hb hm C2;have := hbox b ds hb;rw [qk,hm] at this;cases this
       ·rw [Be m C2 UJ] at hm;exact h.heap.dead m hm
     ·have sub : ∀ m g sz : Nat,(φ.set n none)[m]? = some (some (g,sz)) -> φ[m]? = some (some (g,sz)) := by
       intro m g sz e;rw [bj] at e;split at e
       ·split at e <;> simp at e
       ·exact e
      exact h.heap.inj m m' g sz m9 (sub _ _ _ e1) (sub _ _ _ e2)
     ·have hq := own q;rw [e] at hq;by_cases nq : q = p
      ·rw [if_pos nq] at hq; cases hq
      ·rw [if_neg nq] at hq;have ho := h.own q k' ys hq.symm;cases hνq : N.ν q with
       | none => rw [hνq] at ho; exact ho
       | some m =>
         rw [hνq] at ho;obtain ⟨cs,c1,c2⟩ := ho
         have C2 : m ≠ n := by
          intro e; subst e;exact nq (h.inj q p m (by rw [<- hq]; rfl) (by rw [hp]; rfl) hνq k9)
         refine ⟨cs,?_,c2⟩;rw [qk,Be m C2 ?_]
         ·exact u7 c1
         ·rintro ⟨⟨b,ds⟩,hb,rfl⟩;exact h.bx b q (sb (by rw [hb]; rfl)) (by rw [<- hq]; rfl) hνq
     ·refine ⟨_,hbox b cs e,gR _ _ _ _,fun j c hc => ⟨Zk b cs e j c hc,_,by rw [fH,hc]; simp,Le.refl _⟩⟩
     ·exact h.inj q r m (so e1).1 (so e2).1 e3 e4
     ·exact h.bx b q (sb e1) (so e2).1 e3
     ·exact h.bi b c (sb e1) (sb e2) e3
end Go.Bm

/- Owners that go, values that go to their slots, the end of a region. -/
namespace Go.Bm
open Go.Am

def SB (X : Nat -> Prop) (φ : de) (w : World) (B : Nat -> Nat) (base : Nat) (s : St) (t : Nat -> Value) : Prop := ∃ N Ha,eW X φ w N s Ha t /\ (∀ b,b < base -> N.β b = B b) /\ base <= s.H.length
section
variable {X : Nat -> Prop} {φ : de} {w : World} {N : Names} {s s' : St} {Ha : Heap} {t : Nat -> Value} {B : Nat -> Nat} {base : Nat}

theorem SB.Bk (h : SB X φ w B base s t) (p : Rt) : ∃ φ',SB X φ' w B base (FB s p) t /\ fB φ w φ' w := by
 obtain ⟨N,Ha,h,hb,hl⟩ := h;obtain ⟨φ',Ha',h1,h2,_,h3⟩ := h.Bk p;exact ⟨φ',⟨N,Ha',h1,hb,by rw [h3.len]; exact hl⟩,h2⟩
theorem SB.dB : ∀ (ps : List Rt) {φ : de} {s : St},SB X φ w B base s t -> ∃ φ',SB X φ' w B base (dB ps s) t /\ fB φ w φ' w
 | [],φ,s,h => ⟨φ,h,.refl _ _⟩
 | p :: r,φ,s,h => by
   obtain ⟨nG,h1,a1⟩ := h.Bk p;obtain ⟨ka,h2,a2⟩ := SB.dB r h1;exact ⟨ka,h2,a1.trans a2⟩
theorem SB.rel (h : SB X φ w B base s t) (p : Rt) : ∃ φ',SB X φ' w B base (rel s p) t /\ fB φ w φ' w := by
 unfold Go.Bm.rel;split
 ·exact ⟨φ,h,.refl _ _⟩
 ·rename_i k xs hp;split
  ·obtain ⟨N,Ha,h,hb,hl⟩ := h;exact ⟨φ,⟨N,Ha,(h.drop hp).1,hb,by rw [(h.drop hp).2.2.len]; exact hl⟩,.refl _ _⟩
  ·rename_i q hq;split
   ·rename_i k' r len ua;split
    ·rename_i hr;subst hr;obtain ⟨N,Ha,h,hb,hl⟩ := h;obtain ⟨N',e,h',_,h3⟩ := h.give hp ua;exact ⟨φ,⟨N',Ha,h',fun b bA => by rw [e]; exact hb b bA,by rw [h3.len]; exact hl⟩,.refl _ _⟩
    ·exact h.Bk p
   ·exact h.Bk p
theorem SB.GM (i : Nat) : ∀ (cs : List AV) (j : Nat) {φ : de} {s : St},SB X φ w B base s t -> ∃ φ',SB X φ' w B base (GM i j cs s) t /\ fB φ w φ' w
 | [],j,φ,s,h => ⟨φ,h,.refl _ _⟩
 | x :: r,j,φ,s,h => by
   have skip : ∃ φ',SB X φ' w B base (Go.Bm.GM i (j + 1) r s) t /\ fB φ w φ' w := SB.GM i r (j + 1) h
   cases x <;> first
    | exact skip
    | (obtain ⟨nG, h1, a1⟩ := h.rel (.sc i j)
       obtain ⟨ka,h2,a2⟩ := SB.GM i r (j + 1) h1;exact ⟨ka,h2,a1.trans a2⟩)
theorem SB.zZ (h : SB X φ w B base s t) (i : Nat) : ∃ φ',SB X φ' w B base (zZ s i) t /\ fB φ w φ' w := by
 unfold Go.Bm.zZ;split
 ·exact h.rel _
 ·exact SB.GM i _ 0 h
 ·exact ⟨φ,h,.refl _ _⟩
theorem SB.m4 (keep : List Nat) : ∀ (e : Env) {φ : de} {s : St},SB X φ w B base s t -> ∃ φ',SB X φ' w B base (m4 keep e s) t /\ fB φ w φ' w
 | [],φ,s,h => ⟨φ,h,.refl _ _⟩
 | (i,v) :: r,φ,s,h => by
   simp only [Go.Bm.m4];split
   ·exact SB.m4 keep r h
   ·obtain ⟨nG,h1,a1⟩ := h.zZ i;obtain ⟨ka,h2,a2⟩ := SB.m4 keep r h1;exact ⟨ka,h2,a1.trans a2⟩
theorem SB.qS (b : Nat) : ∀ (n j : Nat) {φ : de} {s : St},SB X φ w B base s t -> ∃ φ',SB X φ' w B base (qS b j n s) t /\ fB φ w φ' w
 | 0,j,φ,s,h => ⟨φ,h,.refl _ _⟩
 | n + 1,j,φ,s,h => by
   simp only [Go.Bm.qS];split
   ·obtain ⟨nG,h1,a1⟩ := h.rel (.c b j);obtain ⟨ka,h2,a2⟩ := SB.qS b n (j + 1) h1;exact ⟨ka,h2,a1.trans a2⟩
   ·exact SB.qS b n (j + 1) h

theorem aem (he : ∀ i,get s'.env i = get s.env i) (hH : s'.H = s.H) : at_ s' = at_ s := by
 funext p;cases p <;> simp only [at_,he,hH]
theorem H9 (he : ∀ i,get s'.env i = get s.env i) (hH : s'.H = s.H) : aC s' = aC s := by
 funext p;unfold aC;rw [aem he hH]
theorem eW.ext (h : eW X φ w N s Ha t) (he : ∀ i,get s'.env i = get s.env i) (hH : s'.H = s.H) : eW X φ w N s' Ha t := by
 have ho := H9 he hH;exact ⟨fun i => by rw [he]; exact h.env i,fun i => by rw [he,ho,hH]; exact h.GO i,h.heap,by rw [ho]; exact h.own,by rw [ho,hH]; exact h.box,by rw [ho]; exact h.inj,by rw [ho,hH]; exact h.bx,by rw [hH]; exact h.bi⟩
theorem dY {i : Nat} (h : bI (get s.env i) = false) : aC s (.s i) = none /\ ∀ j,aC s (.sc i j) = none := by
 have hl : ∀ (cs : List AV),bw cs = false -> ∀ (j : Nat) (k : Nat) (xs : List AV),cs[j]? ≠ some (.own k xs) := by
  intro cs
  induction cs with
  | nil => intro _ j k xs e; simp at e
  | cons x r ih =>
    intro h j k xs e;cases j with
    | zero => simp at e; subst e; simp [bw] at h
    | succ j =>
      simp at e;refine ih ?_ j k xs e;cases x <;> simp [bw] at h <;> exact h
 refine ⟨?_,fun j => ?_⟩
 ·cases e : aC s (.s i) with
  | none => rfl
  | some y =>
    have e' := bY.1 (show aC s (.s i) = some (y.1,y.2) from e);simp only [at_,aj] at e';rw [e'] at h;simp [bI] at h
 ·cases e : aC s (.sc i j) with
  | none => rfl
  | some y =>
    have e' := bY.1 (show aC s (.sc i j) = some (y.1,y.2) from e);simp only [at_] at e';split at e'
    ·rename_i cs dv;rw [dv] at h;simp only [bI] at h;exact absurd e' (hl cs h j _ _)
    ·cases e'
theorem eW.keep (h : eW X φ w N s Ha t) (he : ∀ i,get s'.env i = get s.env i \/ (get s'.env i = .any /\ bI (get s.env i) = false)) (hH : s'.H = s.H) : eW X φ w N s' Ha t := by
 have ho : aC s' = aC s := by
  funext p;cases p with
  | s i =>
    rcases he i with e | ⟨e1,e2⟩
    ·unfold aC; simp only [at_,e]
    ·rw [(dY e2).1]; unfold aC; simp only [at_,e1]
  | sc i j =>
    rcases he i with e | ⟨e1,e2⟩
    ·unfold aC; simp only [at_,e]
    ·rw [(dY e2).2 j]; unfold aC; simp only [at_,e1]
  | c b j => unfold aC; simp only [at_,hH]
 refine ⟨fun i => ?_,fun i => ?_,h.heap,by rw [ho]; exact h.own,by rw [ho,hH]; exact h.box,by rw [ho]; exact h.inj,by rw [ho,hH]; exact h.bx,by rw [hH]; exact h.bi⟩
 ·rcases he i with e | ⟨e1,e2⟩
  ·rw [e]; exact h.env i
  ·rw [e1]; exact .any _ _
 ·rcases he i with e | ⟨e1,e2⟩
  ·rw [e,ho,hH]; exact h.GO i
  ·rw [e1]; trivial
mutual
theorem JF {o o' : Rt -> Option (Nat × List AV)} {n : Nat} (ho : ∀ p,(∀ j,p ≠ .c n j) -> o' p = o p) : ∀ x,cr o (n + 1) x -> po n x = true -> cr o' n x
 | .dp k p off len,h,hp => by
   simp only [cr] at h ⊢;rw [ho p]
   ·exact h
   ·rintro j rfl; simp [po] at hp
 | .eK k p i off,h,hp => by
   simp only [cr] at h ⊢;rw [ho p]
   ·exact h
   ·rintro j rfl; simp [po] at hp
 | .ptr b off,h,hp => by simp only [cr] at h ⊢; simp [po] at hp; omega
 | .agg cs,h,hp => by simp only [cr,po] at h hp ⊢; exact uC ho cs h hp
 | .dW cs,h,hp => by simp only [cr,po] at h hp ⊢; exact uC ho cs h hp
 | .func f a b,h,hp => by simp only [cr,po,ab] at h hp ⊢; exact ⟨uC ho a h.1 hp.1,uC ho b h.2 hp.2⟩
 | .any,_,_ => trivial
 | .undef,_,_ => trivial
 | .fi,_,_ => trivial
 | .eV,_,_ => trivial
 | .dc,_,_ => trivial
 | .int _ _,_,_ => trivial
 | .bool _,_,_ => trivial
 | .str _,_,_ => trivial
 | .list _ _,_,_ => trivial
 | .cX _,_,_ => trivial
 | .own _ _,_,_ => trivial
 | .sl _ b _ _,h,hp => by simp only [cr] at h ⊢; simp [po] at hp; omega
theorem uC {o o' : Rt -> Option (Nat × List AV)} {n : Nat} (ho : ∀ p,(∀ j,p ≠ .c n j) -> o' p = o p) : ∀ cs,jK o (n + 1) cs -> jL n cs = true -> jK o' n cs
 | [],_,_ => trivial
 | x :: r,h,hp => by simp only [jK,jL,ab] at h hp ⊢; exact ⟨JF ho x h.1 hp.1,uC ho r h.2 hp.2⟩
end
theorem E5 {n : Nat} : ∀ {e : Env},AN n e = true -> ∀ i,po n (get e i) = true
 | [],_,i => rfl
 | (j,v) :: r,h,i => by
   simp only [AN,ab] at h;simp only [Am.get];split
   ·exact h.1
   ·exact E5 h.2 i
theorem xE {n : Nat} : ∀ {H : Heap},uE n H = true -> ∀ b cs,aH H b = some cs -> jL n cs = true
 | [],_,b,cs,hb => by simp [aH] at hb
 | none :: r,h,b,cs,hb => by
   simp only [uE] at h;cases b with
   | zero => simp [aH] at hb
   | succ b => exact xE h b cs (by simpa [aH] using hb)
 | some ds :: r,h,b,cs,hb => by
   simp only [uE,ab] at h;cases b with
   | zero => simp [aH] at hb; subst hb; exact h.1
   | succ b => exact xE h.2 b cs (by simpa [aH] using hb)
theorem E4 {n : Nat} : ∀ {cs : List AV},jL n cs = true -> ∀ (j : Nat) (c : AV),cs[j]? = some c -> po n c = true
 | [],_,j,c,h => by simp at h
 | x :: r,hp,j,c,h => by
   simp only [jL,ab] at hp;cases j with
   | zero => simp at h; subst h; exact hp.1
   | succ j => exact E4 hp.2 j c (by simpa using h)
theorem sa {H : Heap} {n b : Nat} : aH (H.take n) b = if b < n then aH H b else none := by
 unfold aH;rw [bF];by_cases h : b < n <;> simp [h]
theorem eW.aes {env : Env} {H : Heap} {n : Nat} (h : eW X φ w N ⟨env,H⟩ Ha t) (hl : H.length = n + 1) (he : AN n env = true) (hH : uE n (H.take n) = true) : eW X φ w N ⟨env,H.take n⟩ Ha t := by
 have ho : ∀ p,(∀ j,p ≠ .c n j) -> aC ⟨env,H.take n⟩ p = aC ⟨env,H⟩ p := by
  intro p hp;cases p with
  | s i => rfl
  | sc i j => rfl
  | c b j =>
    unfold aC;simp only [at_,sa];by_cases hb : b < n
    ·rw [if_pos hb]
    ·rw [if_neg hb]
     have : aH H b = none := by
      cases e : aH H b with
      | none => rfl
      | some cs =>
        have := dZ e;simp only [hl] at this;exact absurd (by rw [show b = n by omega]) (hp j)
     rw [this]
 have hs : ∀ {p},(aC ⟨env,H.take n⟩ p).isSome -> (aC ⟨env,H⟩ p).isSome := by
  intro p hp;by_cases hc : ∀ j,p ≠ .c n j
  ·rwa [ho p hc] at hp
  ·exfalso;apply hc;rintro j rfl;unfold aC at hp;simp [at_,sa] at hp
 have hlen : (H.take n).length = n := by simp; omega
 have zP : ∀ {b},(aH (H.take n) b).isSome -> (aH H b).isSome := by
  intro b hb;rw [sa] at hb;split at hb
  ·exact hb
  ·cases hb
 refine ⟨h.env,fun i => ?_,h.heap,fun p k xs e => ?_,fun b cs e => ?_,fun p q m e1 e2 => h.inj p q m (hs e1) (hs e2),fun b p e1 e2 => h.bx b p (zP e1) (hs e2),fun b c e1 e2 => h.bi b c (zP e1) (zP e2)⟩
 ·have := h.GO i;simp only [hl] at this;simp only [hlen];exact JF ho _ this (E5 he i)
 ·refine h.own p k xs ?_;by_cases hc : ∀ j,p ≠ .c n j
  ·rwa [ho p hc] at e
  ·exfalso;apply hc;rintro j rfl;unfold aC at e;simp [at_,sa] at e
 ·simp only [sa] at e;split at e
  ·obtain ⟨as,g1,g2,g3⟩ := h.box b cs e;refine ⟨as,g1,g2,fun j c hc => ?_⟩;obtain ⟨k1,k2⟩ := g3 j c hc;refine ⟨?_,k2⟩;simp only [hl] at k1;simp only [hlen];refine JF ho _ k1 (E4 (xE hH b cs ?_) j c hc);rw [sa,if_pos ‹_›];exact e
  ·cases e
theorem eW.trim {env : Env} {base0 : Nat} : ∀ (n : Nat) {H : Heap},eW X φ w N ⟨env,H⟩ Ha t -> eW X φ w N ⟨env,trim base0 env n H⟩ Ha t
 | 0,H,h => h
 | n + 1,H,h => by
   simp only [Go.Bm.trim];split
   ·rename_i hc;exact eW.trim n (h.aes hc.2.1 hc.2.2.1 hc.2.2.2)
   ·exact h
end
end Go.Bm

/- From the hand to a slot. -/
namespace Go.Bm
open Go.Am

mutual
theorem VG {N N' : Names} {m : Rt -> Rt} {g : AV -> AV} (eX : N'.β = N.β) (hg : ∀ k p a l,g (.dp k p a l) = .dp k (m p) a l /\ g (.eK k p a l) = .eK k (m p) a l) :
  ∀ x,(∀ p ∈ aL x,N'.ν (m p) = N.ν p) -> ct N' (b8 g x) = ct N x
 | .dp k p a l,h => by simp only [b8,(hg k p a l).1,ct]; rw [h p (by simp [aL])]
 | .eK k p a l,h => by simp only [b8,(hg k p a l).2,ct]; rw [h p (by simp [aL])]
 | .ptr b off,_ => by simp only [b8,ct,eX]
 | .agg cs,h => by simp only [b8,ct]; rw [Di eX hg cs (fun p hp => h p (by simpa [aL] using hp))]
 | .dW cs,h => by simp only [b8,ct]; rw [Di eX hg cs (fun p hp => h p (by simpa [aL] using hp))]
 | .func f a b,h => by
   simp only [b8,ct];rw [Di eX hg a (fun p hp => h p (by simp only [aL,aD]; exact .inl hp)),Di eX hg b (fun p hp => h p (by simp only [aL,aD]; exact .inr hp))]
 | .any,_ => rfl
 | .undef,_ => rfl
 | .fi,_ => rfl
 | .eV,_ => rfl
 | .dc,_ => rfl
 | .int _ _,_ => rfl
 | .bool _,_ => rfl
 | .str _,_ => rfl
 | .list _ _,_ => rfl
 | .cX _,_ => rfl
 | .own _ _,_ => rfl
 | .sl _ b _ _,_ => by simp only [b8,ct,eX]
theorem Di {N N' : Names} {m : Rt -> Rt} {g : AV -> AV} (eX : N'.β = N.β) (hg : ∀ k p a l,g (.dp k p a l) = .dp k (m p) a l /\ g (.eK k p a l) = .eK k (m p) a l) :
  ∀ cs,(∀ p ∈ cQ cs,N'.ν (m p) = N.ν p) -> kq N' (cC g cs) = kq N cs
 | [],_ => rfl
 | x :: r,h => by
   simp only [cC,kq];rw [VG eX hg x (fun p hp => h p (by simp only [cQ,aD]; exact .inl hp)),Di eX hg r (fun p hp => h p (by simp only [cQ,aD]; exact .inr hp))]
end
mutual
theorem Ml {o o' : Rt -> Option (Nat × List AV)} {nb : Nat} {m : Rt -> Rt} {g : AV -> AV} (hg : ∀ k p a l,g (.dp k p a l) = .dp k (m p) a l /\ g (.eK k p a l) = .eK k (m p) a l) :
  ∀ x,(∀ p ∈ aL x,o' (m p) = o p) -> cr o nb x -> cr o' nb (b8 g x)
 | .dp k p a l,h,hk => by simp only [b8,(hg k p a l).1,cr] at hk ⊢; rw [h p (by simp [aL])]; exact hk
 | .eK k p a l,h,hk => by simp only [b8,(hg k p a l).2,cr] at hk ⊢; rw [h p (by simp [aL])]; exact hk
 | .ptr b off,_,hk => hk
 | .agg cs,h,hk => by simp only [b8,cr] at hk ⊢; exact EW hg cs (fun p hp => h p (by simpa [aL] using hp)) hk
 | .dW cs,h,hk => by simp only [b8,cr] at hk ⊢; exact EW hg cs (fun p hp => h p (by simpa [aL] using hp)) hk
 | .func f a b,h,hk => by
   simp only [b8,cr] at hk ⊢;exact ⟨EW hg a (fun p hp => h p (by simp only [aL,aD]; exact .inl hp)) hk.1,EW hg b (fun p hp => h p (by simp only [aL,aD]; exact .inr hp)) hk.2⟩
 | .any,_,_ => trivial
 | .undef,_,_ => trivial
 | .fi,_,_ => trivial
 | .eV,_,_ => trivial
 | .dc,_,_ => trivial
 | .int _ _,_,_ => trivial
 | .bool _,_,_ => trivial
 | .str _,_,_ => trivial
 | .list _ _,_,_ => trivial
 | .cX _,_,_ => trivial
 | .own _ _,_,_ => trivial
 | .sl _ _ _ _,_,h => h
theorem EW {o o' : Rt -> Option (Nat × List AV)} {nb : Nat} {m : Rt -> Rt} {g : AV -> AV} (hg : ∀ k p a l,g (.dp k p a l) = .dp k (m p) a l /\ g (.eK k p a l) = .eK k (m p) a l) :
  ∀ cs,(∀ p ∈ cQ cs,o' (m p) = o p) -> jK o nb cs -> jK o' nb (cC g cs)
 | [],_,_ => trivial
 | x :: r,h,hk => by
   simp only [cC,jK] at hk ⊢;exact ⟨Ml hg x (fun p hp => h p (by simp only [cQ,aD]; exact .inl hp)) hk.1,EW hg r (fun p hp => h p (by simp only [cQ,aD]; exact .inr hp)) hk.2⟩
end
theorem jY {cs : List AV} {j : Nat} {c : AV} (h : cs[j]? = some c) {p : Rt} (hp : p ∈ aL c) : p ∈ cQ cs := by
 induction cs generalizing j with
 | nil => simp at h
 | cons x r ih =>
   simp only [cQ,aD];cases j with
   | zero => simp at h; subst h; exact .inl hp
   | succ j => exact .inr (ih (by simpa using h))
theorem w8 {N N' : Names} {m : Rt -> Rt} {g : AV -> AV} (eX : N'.β = N.β) (hg : ∀ k p a l,g (.dp k p a l) = .dp k (m p) a l /\ g (.eK k p a l) = .eK k (m p) a l) {r r' : Rt} {x : AV} (hr : ∀ k xs,x = .own k xs -> N'.ν r' = N.ν r) (hx : ∀ p ∈ aL x,N'.ν (m p) = N.ν p) :
  je N' r' (b8 g x) = je N r x := by
 have hL : jA g := fun k p a l => by rw [(hg k p a l).1,(hg k p a l).2]; exact ⟨⟨(fun cs e => by cases e),(fun k xs e => by cases e)⟩,⟨(fun cs e => by cases e),(fun k xs e => by cases e)⟩⟩
 by_cases ho : ∃ k xs,x = .own k xs
 ·obtain ⟨k,xs,rfl⟩ := ho;simp only [b8,je,rK,hr k xs rfl]
 ·obtain ⟨e1,e2⟩ := Jl (N := N) (N' := N') hL (r := r) (x := x) (fun k xs e => ho ⟨k,xs,e⟩);obtain ⟨_,e3⟩ := Jl (N := N) (N' := N') hL (r := r') (x := x) (fun k xs e => ho ⟨k,xs,e⟩);rw [e1,e3,VG eX hg x hx]
theorem Jk {N N' : Names} {m : Rt -> Rt} {g : AV -> AV} (eX : N'.β = N.β) (hg : ∀ k p a l,g (.dp k p a l) = .dp k (m p) a l /\ g (.eK k p a l) = .eK k (m p) a l) {i i' : Nat} {x : AV} (h1 : N'.ν (.s i') = N.ν (.s i)) (h2 : ∀ j,N'.ν (.sc i' j) = N.ν (.sc i j)) (hx : ∀ p ∈ aL x,N'.ν (m p) = N.ν p) :
  jS N' i' (b8 g x) = jS N i x := by
 have hL : jA g := fun k p a l => by rw [(hg k p a l).1,(hg k p a l).2]; exact ⟨⟨(fun cs e => by cases e),(fun k xs e => by cases e)⟩,⟨(fun cs e => by cases e),(fun k xs e => by cases e)⟩⟩
 by_cases ha : ∃ cs,x = .agg cs
 ·obtain ⟨cs,rfl⟩ := ha;simp only [b8,jS];congr 1;apply cY;intro j;rw [fH,fH,dX];simp only [fD];cases hc : cs[j]? with
  | none => rfl
  | some c =>
    simp only [cJ];rw [w8 eX hg (r := .sc i j) (fun _ _ _ => h2 j) (fun p hp => hx p (by simp only [aL]; exact jY hc hp))]
 ·have hn : jr x := fun cs e => ha ⟨cs,e⟩;have Ol : jr (b8 g x) := kt hL hn
  have e1 : jS N' i' (b8 g x) = je N' (.s i') (b8 g x) := by
   generalize b8 g x = y at Ol;cases y <;> first | rfl | exact absurd rfl (Ol _)
  have e2 : jS N i x = je N (.s i) x := by cases x <;> first | rfl | exact absurd rfl (hn _)
  rw [e1,e2];exact w8 eX hg (fun _ _ _ => h1) hx
section
variable {X : Nat -> Prop} {φ : de} {w : World} {N : Names} {s s' : St} {Ha : Heap} {t t' : Nat -> Value} {B : Nat -> Nat} {base : Nat}
theorem zD (i d : Nat) : ∀ k p a l,Un i d (.dp k p a l) = .dp k (jl i d p) a l /\ Un i d (.eK k p a l) = .eK k (jl i d p) a l := fun _ _ _ _ => ⟨rfl,rfl⟩
theorem AO {i d : Nat} {p : Rt} (h : bq d p = false) : jl d i (jl i d p) = p := by
 cases p with
 | s j =>
   simp only [bq,decide_eq_false_iff_not] at h;simp only [jl];by_cases e : j = i
   ·subst e; simp [jl]
   ·simp [e,jl,h]
 | sc j l =>
   simp only [bq,decide_eq_false_iff_not] at h;simp only [jl];by_cases e : j = i
   ·subst e; simp [jl]
   ·simp [e,jl,h]
 | c b j => rfl
theorem Mw {i d : Nat} {q : Rt} (h : bq i q = false) : jl i d (jl d i q) = q := AO h
theorem eW.hand {i d : Nat} (h : eW X φ w N s Ha t) (pP : i ≠ d) (hC : ∀ r x,at_ s r = some x -> ∀ p ∈ aL x,bq d p = false)
  (he : ∀ j,get s'.env j = if j = d then b8 (Un i d) (get s.env i) else if j = i then .any else b8 (Un i d) (get s.env j)) (hH : s'.H = ft (Un i d) s.H) (ht : ∀ j,j ≠ i -> t' j = if j = d then t i else t j) :
  ∃ N',N'.β = N.β /\ eW X φ w N' s' Ha t' := by
 have hg := zD i d;have hL := adM i d
 have atq : ∀ q,bq i q = false -> at_ s' q = (at_ s (jl d i q)).map (b8 (Un i d)) := by
  intro q hq;rw [<- iS hL];cases q with
  | s j =>
    simp only [bq,decide_eq_false_iff_not] at hq;simp only [at_,he,jl,bW];by_cases e : j = d
    ·simp [e,cW,at_]
    ·simp [e,hq,cW,at_]
  | sc j l =>
    simp only [bq,decide_eq_false_iff_not] at hq;simp only [at_,he,jl,bW];by_cases e : j = d
    ·simp [e,cW,at_]
    ·simp [e,hq,cW,at_]
  | c b j => simp only [at_,hH,jl,bW]
 have atn : ∀ q,bq i q = true -> aC s' q = none := by
  intro q hq;cases q with
  | s j => simp only [bq,decide_eq_true_eq] at hq; subst hq; unfold aC; simp [at_,he,pP]
  | sc j l => simp only [bq,decide_eq_true_eq] at hq; subst hq; unfold aC; simp [at_,he,pP]
  | c b j => simp [bq] at hq
 have own : ∀ q,bq i q = false -> aC s' q = aC s (jl d i q) := by
  intro q hq;rw [<- iz hL s (jl d i q)];exact JC (by rw [atq q hq,iS hL])
 have Ub : ∀ p,bq d p = false -> aC s' (jl i d p) = aC s p := by
  intro p hp
  have hi : bq i (jl i d p) = false := by
   cases p with
   | s j => simp only [jl]; split <;> simp_all [bq]; exact fun e => pP e.symm
   | sc j l => simp only [jl]; split <;> simp_all [bq]; exact fun e => pP e.symm
   | c b j => rfl
  rw [own _ hi,AO hp]
 have hlen : s'.H.length = s.H.length := by rw [hH,fY]
 obtain ⟨N',eX,hN⟩ : ∃ N' : Names,N'.β = N.β /\ ∀ q,N'.ν q = N.ν (jl d i q) := ⟨⟨N.β,fun q => N.ν (jl d i q)⟩,rfl,fun _ => rfl⟩;have k9 : ∀ p,bq d p = false -> N'.ν (jl i d p) = N.ν p := fun p hp => by rw [hN,AO hp]
 refine ⟨N',eX,⟨fun j => ?_,fun j => ?_,h.heap,fun p k xs e => ?_,fun b cs e => ?_,fun p q n e1 e2 e3 e4 => ?_,fun b p e1 e2 e3 => ?_,fun b c e1 e2 e3 => ?_⟩⟩
 ·rw [he];by_cases UM : j = d
  ·subst UM;rw [if_pos rfl,ht j (sy pP),if_pos rfl];rw [Jk (N := N) (i := i) eX hg (by simp [hN,jl]) (fun l => by simp [hN,jl]) (fun p hp => k9 p (hC (.s i) _ rfl p hp))];exact h.env i
  ·rw [if_neg UM];by_cases GV : j = i
   ·rw [if_pos GV]; exact .any _ _
   ·rw [if_neg GV,ht j GV,if_neg UM];rw [Jk (N := N) (i := j) eX hg (by simp [hN,jl,UM]) (fun l => by simp [hN,jl,UM]) (fun p hp => k9 p (hC (.s j) _ rfl p hp))];exact h.env j
 ·rw [he,hlen];by_cases UM : j = d
  ·rw [if_pos UM];exact Ml hg _ (fun p hp => Ub p (hC (.s i) _ rfl p hp)) (h.GO i)
  ·rw [if_neg UM];by_cases GV : j = i
   ·rw [if_pos GV]; trivial
   ·rw [if_neg GV];exact Ml hg _ (fun p hp => Ub p (hC (.s j) _ rfl p hp)) (h.GO j)
 ·cases hq : bq i p with
  | true => rw [atn p hq] at e; cases e
  | false => rw [own p hq] at e; rw [hN]; exact h.own _ k xs e
 ·rw [hH,fv] at e;cases hb : aH s.H b with
  | none => rw [hb] at e; cases e
  | some ds =>
    rw [hb] at e;simp at e;subst e;obtain ⟨as,g1,g2,g3⟩ := h.box b ds hb;refine ⟨as,by rw [eX]; exact g1,by rw [bZ]; exact g2,fun j c hc => ?_⟩;rw [dX] at hc;cases hd : ds[j]? with
    | none => rw [hd] at hc; cases hc
    | some c0 =>
      rw [hd] at hc;simp at hc;subst hc;have hcc := fun p hp => hC (.c b j) c0 (by rw [vd hb]; exact hd) p hp;obtain ⟨k1,a,k2,k3⟩ := g3 j c0 hd;refine ⟨by rw [hlen]; exact Ml hg _ (fun p hp => Ub p (hcc p hp)) k1,a,k2,?_⟩;rw [w8 (N := N) (r := .c b j) eX hg (fun _ _ _ => by rw [hN]; rfl) (fun p hp => k9 p (hcc p hp))];exact k3
 ·have hp : bq i p = false := by
   cases hq : bq i p with
   | true => rw [atn p hq] at e1; cases e1
   | false => rfl
  have hq : bq i q = false := by
   cases hq : bq i q with
   | true => rw [atn q hq] at e2; cases e2
   | false => rfl
  rw [own p hp] at e1;rw [own q hq] at e2;rw [hN] at e3 e4;have := h.inj _ _ n e1 e2 e3 e4;rw [<- Mw (d := d) hp,this,Mw hq]
 ·have hp : bq i p = false := by
   cases hq : bq i p with
   | true => rw [atn p hq] at e2; cases e2
   | false => rfl
  rw [own p hp] at e2;rw [hN,eX] at e3;refine h.bx b _ ?_ e2 e3;rw [hH,fv] at e1;cases hb : aH s.H b with
  | none => rw [hb] at e1; cases e1
  | some _ => rfl
 ·have sb : ∀ {b},(aH s'.H b).isSome -> (aH s.H b).isSome := by
   intro b hb;rw [hH,fv] at hb;cases e : aH s.H b with
   | none => rw [e] at hb; cases hb
   | some _ => rfl
  rw [eX] at e3;exact h.bi b c (sb e1) (sb e2) e3
end
end Go.Bm

/- A value goes to its slot. -/
namespace Go.Bm
open Go.Am
mutual
theorem AL {o : Rt -> Option (Nat × List AV)} {nb : Nat} : ∀ x,cr o nb x -> ∀ p ∈ aL x,(o p).isSome
 | .dp k q a l,h,p,hp => by simp only [aL,cv] at hp; subst hp; simp only [cr] at h; obtain ⟨xs,e,_⟩ := h; rw [e]; rfl
 | .eK k q a l,h,p,hp => by simp only [aL,cv] at hp; subst hp; simp only [cr] at h; obtain ⟨xs,e,_⟩ := h; rw [e]; rfl
 | .agg cs,h,p,hp => by simp only [cr,aL] at h hp; exact zt cs h p hp
 | .dW cs,h,p,hp => by simp only [cr,aL] at h hp; exact zt cs h p hp
 | .func f a b,h,p,hp => by
   simp only [cr,aL,aD] at h hp;rcases hp with hp | hp
   ·exact zt a h.1 p hp
   ·exact zt b h.2 p hp
 | .any,_,p,hp => by simp [aL] at hp
 | .undef,_,p,hp => by simp [aL] at hp
 | .fi,_,p,hp => by simp [aL] at hp
 | .eV,_,p,hp => by simp [aL] at hp
 | .dc,_,p,hp => by simp [aL] at hp
 | .int _ _,_,p,hp => by simp [aL] at hp
 | .bool _,_,p,hp => by simp [aL] at hp
 | .str _,_,p,hp => by simp [aL] at hp
 | .list _ _,_,p,hp => by simp [aL] at hp
 | .cX _,_,p,hp => by simp [aL] at hp
 | .own _ _,_,p,hp => by simp [aL] at hp
 | .ptr _ _,_,p,hp => by simp [aL] at hp
 | .sl _ _ _ _,_,p,hp => by simp [aL] at hp
theorem zt {o : Rt -> Option (Nat × List AV)} {nb : Nat} : ∀ cs,jK o nb cs -> ∀ p ∈ cQ cs,(o p).isSome
 | [],_,p,hp => by simp [cQ] at hp
 | x :: r,h,p,hp => by
   simp only [jK,cQ,aD] at h hp;rcases hp with hp | hp
   ·exact AL x h.1 p hp
   ·exact zt r h.2 p hp
end
mutual
theorem qc {g : AV -> AV} {m : Rt -> Rt} (hg : ∀ k p a l,g (.dp k p a l) = .dp k (m p) a l /\ g (.eK k p a l) = .eK k (m p) a l) : ∀ x,(∀ p ∈ aL x,m p = p) -> b8 g x = x
 | .dp k p a l,h => by simp only [b8,(hg k p a l).1]; rw [h p (by simp [aL])]
 | .eK k p a l,h => by simp only [b8,(hg k p a l).2]; rw [h p (by simp [aL])]
 | .agg cs,h => by simp only [b8]; rw [pq hg cs (fun p hp => h p (by simpa [aL] using hp))]
 | .dW cs,h => by simp only [b8]; rw [pq hg cs (fun p hp => h p (by simpa [aL] using hp))]
 | .func f a b,h => by
   simp only [b8];rw [pq hg a (fun p hp => h p (by simp only [aL,aD]; exact .inl hp)),pq hg b (fun p hp => h p (by simp only [aL,aD]; exact .inr hp))]
 | .any,_ => rfl
 | .undef,_ => rfl
 | .fi,_ => rfl
 | .eV,_ => rfl
 | .dc,_ => rfl
 | .int _ _,_ => rfl
 | .bool _,_ => rfl
 | .str _,_ => rfl
 | .list _ _,_ => rfl
 | .cX _,_ => rfl
 | .own _ _,_ => rfl
 | .ptr _ _,_ => rfl
 | .sl _ _ _ _,_ => rfl
theorem pq {g : AV -> AV} {m : Rt -> Rt} (hg : ∀ k p a l,g (.dp k p a l) = .dp k (m p) a l /\ g (.eK k p a l) = .eK k (m p) a l) : ∀ cs,(∀ p ∈ cQ cs,m p = p) -> cC g cs = cs
 | [],_ => rfl
 | x :: r,h => by
   simp only [cC];rw [qc hg x (fun p hp => h p (by simp only [cQ,aD]; exact .inl hp)),pq hg r (fun p hp => h p (by simp only [cQ,aD]; exact .inr hp))]
end
theorem C0 {g : AV -> AV} {m : Rt -> Rt} (hg : ∀ k p a l,g (.dp k p a l) = .dp k (m p) a l /\ g (.eK k p a l) = .eK k (m p) a l) : ∀ H : Heap,(∀ b cs,aH H b = some cs -> ∀ p ∈ cQ cs,m p = p) -> ft g H = H
 | [],_ => rfl
 | none :: r,h => by simp only [ft]; rw [C0 hg r (fun b cs hb => h (b + 1) cs (by simpa [aH] using hb))]
 | some cs :: r,h => by simp only [ft]; rw [C0 hg r (fun b ds hb => h (b + 1) ds (by simpa [aH] using hb)),pq hg cs (h 0 cs rfl)]
theorem jz {f : Rt -> Bool} : ∀ {l : List Rt},vf f l = false -> ∀ p ∈ l,f p = false
 | [],_,p,hp => by simp at hp
 | q :: r,h,p,hp => by
   simp only [vf,fg] at h;rcases aJ.1 hp with e | e
   ·subst e; exact h.1
   ·exact jz h.2 p e
theorem pK {f : Rt -> Bool} : ∀ {e : Env},Gr f e = false -> ∀ i,∀ p ∈ aL (get e i),f p = false
 | [],_,i,p,hp => by simp [Am.get,aL] at hp
 | (j,v) :: r,h,i,p,hp => by
   simp only [Gr,fg] at h;simp only [Am.get] at hp;split at hp
   ·exact jz h.1 p hp
   ·exact pK h.2 i p hp
theorem td {f : Rt -> Bool} : ∀ {H : Heap},Gp f H = false -> ∀ b cs,aH H b = some cs -> ∀ p ∈ cQ cs,f p = false
 | [],_,b,cs,hb,p,hp => by simp [aH] at hb
 | none :: r,h,b,cs,hb,p,hp => by
   simp only [Gp] at h;cases b with
   | zero => simp [aH] at hb
   | succ b => exact td h b cs (by simpa [aH] using hb) p hp
 | some ds :: r,h,b,cs,hb,p,hp => by
   simp only [Gp,fg] at h;cases b with
   | zero => simp [aH] at hb; subst hb; exact jz h.1 p hp
   | succ b => exact td h.2 b cs (by simpa [aH] using hb) p hp
theorem Kc {cs : List AV} {p : Rt} (hp : p ∈ cQ cs) : ∃ (j : Nat) (c : AV),cs[j]? = some c /\ p ∈ aL c := by
 induction cs with
 | nil => simp [cQ] at hp
 | cons x r ih =>
   simp only [cQ,aD] at hp;rcases hp with hp | hp
   ·exact ⟨0,x,rfl,hp⟩
   ·obtain ⟨j,c,h1,h2⟩ := ih hp;exact ⟨j + 1,c,by simpa using h1,h2⟩
theorem IE : ∀ (e : Env) (l : List Nat),∃ i,Am.get e i = .any /\ i ∉ l := by
 have key : ∀ e : Env,∃ n,∀ i,n <= i -> Am.get e i = .any := by
  intro e
  induction e with
  | nil => exact ⟨0,fun i _ => rfl⟩
  | cons p r ih =>
    obtain ⟨j,v⟩ := p;obtain ⟨n,hn⟩ := ih;refine ⟨max n (j + 1),fun i hi => ?_⟩;simp only [Am.get];rw [if_neg (by omega)];exact hn i (by omega)
 intro e l;obtain ⟨n,hn⟩ := key e
 have : ∃ m,∀ x ∈ l,x < m := by
  induction l with
  | nil => exact ⟨0,fun x hx => by simp at hx⟩
  | cons y r ih =>
    obtain ⟨m,hm⟩ := ih;refine ⟨max m (y + 1),fun x hx => ?_⟩;rcases aJ.1 hx with e | e
    ·omega
    ·have := hm x e; omega
 obtain ⟨m,hm⟩ := this;exact ⟨max n m,hn _ (by omega),fun h => by have := hm _ h; omega⟩
section
variable {X : Nat -> Prop} {φ : de} {w : World} {s s' : St} {t t' : Nat -> Value} {B : Nat -> Nat} {base : Nat} {v : AV} {v' : Value}
structure dV (X : Nat -> Prop) (φ : de) (w : World) (B : Nat -> Nat) (base : Nat) (s : St) (v : AV) (t : Nat -> Value) (v' : Value) : Prop where
 st : SB X φ w B base s t
 ok : cr (aC s) s.H.length v
 put : ∀ i,get s.env i = .any -> SB X φ w B base ⟨put s.env i v,s.H⟩ (fun j => if j = i then v' else t j)
theorem Ke {r : Rt} {x : AV} (h : SB X φ w B base s t) (hx : at_ s r = some x) : ∀ p ∈ aL x,(aC s p).isSome := by
 obtain ⟨N,Ha,h,_⟩ := h;exact AL x (h.zu hx)
theorem abp {b : Nat} {cs : List AV} (h : SB X φ w B base s t) (hb : aH s.H b = some cs) : ∀ p ∈ cQ cs,(aC s p).isSome := by
 intro p hp;obtain ⟨j,c,h1,h2⟩ := Kc hp;exact Ke h (r := .c b j) (by rw [vd hb]; exact h1) p h2
theorem aaq {i d : Nat} {p : Rt} (h : bq i p = false) : jl i d p = p := by
 cases p with
 | s j => simp only [bq,decide_eq_false_iff_not] at h; simp [jl,h]
 | sc j l => simp only [bq,decide_eq_false_iff_not] at h; simp [jl,h]
 | c b j => rfl
theorem tc {i : Nat} {p : Rt} (hi : bI (get s.env i) = false) (hp : (aC s p).isSome) : bq i p = false := by
 obtain ⟨h1,h2⟩ := dY hi;cases p with
 | s j =>
   simp only [bq,decide_eq_false_iff_not];rintro rfl;rw [h1] at hp; cases hp
 | sc j l =>
   simp only [bq,decide_eq_false_iff_not];rintro rfl;rw [h2] at hp; cases hp
 | c b j => rfl
theorem SB.hand {i d : Nat} (h : SB X φ w B base s t) (pP : i ≠ d) (hC : ∀ r x,at_ s r = some x -> ∀ p ∈ aL x,bq d p = false)
  (he : ∀ j,get s'.env j = if j = d then b8 (Un i d) (get s.env i) else if j = i then .any else b8 (Un i d) (get s.env j)) (hH : s'.H = ft (Un i d) s.H) (ht : ∀ j,j ≠ i -> t' j = if j = d then t i else t j) : SB X φ w B base s' t' := by
 obtain ⟨N,Ha,h,hb,hl⟩ := h;obtain ⟨N',e,h'⟩ := h.hand pP hC he hH ht;exact ⟨N',Ha,h',fun b bA => by rw [e]; exact hb b bA,by rw [hH,fY]; exact hl⟩
theorem ac2 (h : dV X φ w B base s v t v') {d : Nat} (hp : T6 s d v = some s') (hd : d ≠ ff) (ht : ∀ j,t' j = if j = d then v' else t j) : ∃ φ',SB X φ' w B base s' t' /\ fB φ w φ' w := by
 unfold T6 at hp;split at hp
 ·split at hp
  case h_2 => cases hp
  rename_i Np;split at hp
  ·cases hp
  rename_i ho;simp at hp;subst hp;obtain ⟨nG,h1,a1⟩ := (h.put ff Np).zZ d;refine ⟨nG,h1.hand (i := ff) (d := d) (sy hd) (fun r x hx p hp => tc (by simpa using ho) (Ke h1 hx p hp)) (fun j => ?_) ?_ (fun j hj => ?_),a1⟩
  ·simp only [J0,br,bW,cW]
  ·simp only [J0,bW]
  ·rw [ht,if_pos rfl,if_neg hj]
 ·rename_i hs;simp at hp;subst hp;obtain ⟨i,hi,pP⟩ := IE s.env [d];have hid' : i ≠ d := fun e => pP (by simp [e]);have hio : bI (get s.env i) = false := by rw [hi]; rfl
  have IB := h.put i hi;have Mv : ∀ {p},(aC s p).isSome -> jl i d p = p := fun hp => aaq (tc hio hp);refine ⟨φ,IB.hand (i := i) (d := d) hid' (fun r x hx p hp => ?_) (fun j => ?_) ?_ (fun j hj => ?_),.refl _ _⟩
  ·simp only [KF,ab,not_and,Bool.not_eq_true] at hs;cases hod : bI (get s.env d) with
   | false =>
     refine tc (s := ⟨put s.env i v,s.H⟩) (i := d) ?_ (Ke IB hx p hp);simp only [br];rw [if_neg (sy hid')];exact hod
   | true =>
     have hn := hs hod;simp only [Gs,fg] at hn;cases r with
     | s j =>
       simp only [at_,br,aj] at hx;subst hx;split at hp
       ·exact jz hn.1 p hp
       ·exact pK hn.2.1 j p hp
     | sc j l =>
       simp only [at_,br] at hx;split at hx
       ·rename_i cs dv;split at dv
        ·subst dv;exact jz hn.1 p (by simp only [aL]; exact jY hx hp)
        ·exact pK hn.2.1 j p (by rw [dv]; simp only [aL]; exact jY hx hp)
       ·cases hx
     | c b l =>
       simp only [at_] at hx;split at hx
       ·rename_i cs dv;exact td hn.2.2 b cs dv p (jY hx hp)
       ·cases hx
  ·simp only [br];by_cases UM : j = d
   ·rw [if_pos UM,if_pos UM,if_pos trivial,qc (zD i d) v (fun p hp => Mv (AL v h.ok p hp))]
   ·rw [if_neg UM,if_neg UM];by_cases GV : j = i
    ·rw [if_pos GV,GV]; exact hi
    ·rw [if_neg GV,if_neg GV,qc (zD i d) _ (fun p hp => Mv (Ke h.st (r := .s j) rfl p hp))]
  ·exact (C0 (zD i d) s.H (fun b cs hb p hp => Mv (abp h.st hb p hp))).symm
  ·rw [ht,if_pos rfl,if_neg hj]
theorem Z6 (h : dV X φ w B base s v t v') {d : Option Nat} (hp : wQ s d v = some s') (hd : d ≠ some ff) (ht : ∀ j,t' j = if some j = d then v' else t j) : ∃ φ',SB X φ' w B base s' t' /\ fB φ w φ' w := by
 cases d with
 | none =>
   simp [wQ] at hp;subst hp;refine ⟨φ,?_,.refl _ _⟩;obtain ⟨N,Ha,h1,hb⟩ := h.st;have : t' = t := by funext j; rw [ht,if_neg (by simp)]
   rw [this];exact ⟨N,Ha,h1,hb⟩
 | some d => exact ac2 h (by simpa [wQ] using hp) (fun e => hd (by rw [e])) (fun j => by rw [ht]; simp)
end
end Go.Bm

/- Operations that change nothing, in both machines. -/
namespace Go.Bm
open Go.Am

def xJ : AV -> Bool
 | .bool _ | .int _ _ | .dc | .fi | .eV | .undef => true
 | _ => false
def ll : List AV -> Bool
 | [] => true
 | x :: r => xJ x && ll r
def XA : AV -> Bool
 | .agg cs => ll cs
 | .func _ [] [] => true
 | x => xJ x
theorem Th {v : Value} {x : AV} (h : I2 v x = true) : xJ x = true := by
 unfold I2 at h;split at h <;> first | rfl | cases h
theorem J8 : ∀ {vs : List Value} {xs : List AV},pF vs xs = true -> ll xs = true
 | [],[],_ => rfl
 | [],_ :: _,h => by simp [pF] at h
 | _ :: _,[],h => by simp [pF] at h
 | v :: r,x :: s,h => by
   simp only [pF,ab] at h;simp only [ll,ab];exact ⟨Th h.1,J8 h.2⟩
theorem zK {x : AV} (h : xJ x = true) : XA x = true := by cases x <;> first | (simp [xJ] at h; done) | rfl | exact h
theorem ad8 {o : Operand} {a : AV} (h : cN o (.k a) = true) : XA a = true := by
 unfold cN at h;split at h
 ·rename_i hk; cases hk
 ·rename_i v x hk;cases hk;unfold chkV at h;split at h
  ·exact J8 h
  ·exact zK (Th h)
 ·rename_i f g hk; cases hk; rfl
 ·rename_i hk; cases hk
 ·cases h
theorem VI (N : Names) {x : AV} (h : xJ x = true) : ct N x = x := by cases x <;> first | rfl | simp [xJ] at h
theorem VH (N : Names) : ∀ {xs : List AV},ll xs = true -> kq N xs = xs
 | [],_ => rfl
 | x :: r,h => by
   simp only [ll,ab] at h;simp only [kq];rw [VI N h.1,VH N h.2]
theorem tr_c (N : Names) {x : AV} (h : XA x = true) : ct N x = x := by
 unfold XA at h;split at h
 ·simp only [ct]; rw [VH N h]
 ·rfl
 ·exact VI N h
theorem dn_c {x : AV} (h : XA (dnV x) = true) : (∃ k,x = .own k [] /\ dnV x = .dc) \/ (XA x = true /\ dnV x = x) := by
 unfold dnV at h ⊢;split
 ·exact .inl ⟨_,rfl,rfl⟩
 ·rename_i hn;split at h
  ·rename_i k; exact absurd rfl (hn k)
  ·exact .inr ⟨h,rfl⟩

def fZ (N : Names) : AV -> AV
 | .own _ _ => .dc
 | x => ct N x
def gD (N : Names) : List AV -> List AV
 | [] => []
 | x :: r => fZ N x :: gD N r
def vv (N : Names) : AV -> AV
 | .own _ _ => .dc
 | .agg cs => .agg (gD N cs)
 | x => ct N x
def EO : AV -> Prop
 | .own _ xs => xs = []
 | .agg cs => ∀ (j k : Nat) (xs : List AV),cs[j]? = some (.own k xs) -> xs = []
 | _ => True
theorem m8 (N : Names) : ∀ (cs : List AV) (i : Nat),(gD N cs)[i]? = (cs[i]?).map (fZ N)
 | [],i => by simp [gD]
 | x :: r,i => by cases i <;> simp [gD,m8 N r]
theorem iw (N : Names) : ∀ cs : List AV,(gD N cs).length = cs.length
 | [] => rfl
 | x :: r => by simp [gD,iw N r]
theorem jT (N : Names) : ∀ {cs : List AV},bw cs = false -> gD N cs = kq N cs
 | [],_ => rfl
 | x :: r,h => by
   simp only [gD,kq];cases x <;> simp [bw] at h <;> rw [jT N h] <;> rfl
theorem kH (N : Names) {x : AV} (h : bI x = false) : vv N x = ct N x := by
 cases x <;> first | rfl | (simp [bI] at h; done) | skip
 rename_i cs;simp only [bI] at h;simp only [vv,ct];rw [jT N h]
theorem Zx (N : Names) {x : AV} (h : ∀ cs,x = .agg cs -> bw cs = false) : fZ N x = vv N x := by
 cases x <;> first | rfl | skip
 rename_i cs;simp only [fZ,ct,vv];rw [jT N (h cs rfl)]
theorem Is (f : Nat -> Rt) : ∀ (cs : List AV) (j : Nat),bw (fh f j cs) = false
 | [],j => rfl
 | x :: r,j => by
   have ih := Is f r (j + 1);cases x <;> simp [fh,bw,ih]
theorem MJ (i : Nat) (v : AV) : bI (eG i v) = false := by
 cases v <;> simp [eG,bI]
 exact Is _ _ _
theorem AY (f : Nat -> Rt) : ∀ (cs : List AV) (j i : Nat),(fh f j cs)[i]? = (cs[i]?).map (fun x => match x with
  | .own k xs => .dp k (f (j + i)) 0 xs.length
  | x => x)
 | [],j,i => by simp [fh]
 | x :: r,j,i => by
   cases i with
   | zero => cases x <;> simp [fh]
   | succ i =>
     have ih := AY f r (j + 1) i;rw [show j + 1 + i = j + (i + 1) by omega] at ih;cases x <;> simp [fh,ih]
theorem Dj (N : Names) (f : Nat -> Rt) : ∀ (cs : List AV) (j : Nat),kq N (fh f j cs) = OE N f j cs
 | [],j => rfl
 | x :: r,j => by
   have ih := Dj N f r (j + 1);cases x <;> simp [fh,kq,OE,je,ih]
   simp only [ct,rK,qE]
theorem Qt (N : Names) (i : Nat) (v : AV) : ct N (eG i v) = jS N i v := by
 cases v <;> first | rfl | skip
 ·simp only [eG,ct,jS]; rw [Dj]
 ·simp only [eG,ct,jS,je,rK,qE]
section
variable {X : Nat -> Prop} {φ : de} {w : World} {N : Names} {s : St} {Ha : Heap} {t : Nat -> Value} {c : dN} {cA : Am.dN}
theorem acf {o : Rt -> Option (Nat × List AV)} {nb : Nat} {x : AV} (h : xJ x = true) : cr o nb x := by cases x <;> first | trivial | simp [xJ] at h
theorem WX {o : Rt -> Option (Nat × List AV)} {nb : Nat} : ∀ {xs : List AV},ll xs = true -> jK o nb xs
 | [],_ => trivial
 | x :: r,h => by simp only [ll,ab] at h; exact ⟨acf h.1,WX h.2⟩
theorem ok_c {o : Rt -> Option (Nat × List AV)} {nb : Nat} {x : AV} (h : XA x = true) : cr o nb x := by
 unfold XA at h;split at h
 ·exact WX h
 ·exact ⟨trivial,trivial⟩
 ·exact acf h
theorem A6 : ∀ {xs : List AV},ll xs = true -> bw xs = false
 | [],_ => rfl
 | x :: r,h => by
   simp only [ll,ab] at h;have := A6 h.2;cases x <;> first | (simp [xJ] at h; done) | simpa [bw] using this
theorem aaD {x : AV} (h : XA x = true) : bI x = false := by
 unfold XA at h;split at h
 ·exact A6 h
 ·rfl
 ·rename_i h1 h2;cases x <;> first | rfl | (simp [xJ] at h; done)
theorem Sa (h : eW X φ w N s Ha t) (i : Nat) : cr (aC s) s.H.length (eG i (get s.env i)) := by
 have hk := h.GO i;have ua : at_ s (.s i) = some (get s.env i) := rfl;cases hv : get s.env i <;> rw [hv] at hk ua <;> try exact hk
 ·rename_i cs;simp only [eG,cr] at hk ⊢;refine hJ.2 fun j c hc => ?_;rw [AY] at hc;cases hd : cs[j]? with
  | none => rw [hd] at hc; cases hc
  | some d =>
    rw [hd] at hc;simp only [cJ,aj,fD] at hc;subst hc;have hdk := hJ.1 hk j d hd;split
    ·rename_i k xs;simp only [cr];exact ⟨xs,bY.2 (by rw [Gm hv]; exact hd),by omega⟩
    ·exact hdk
 ·rename_i k xs;simp only [eG,cr];exact ⟨xs,bY.2 ua,by omega⟩
structure nW (N : Names) (s : St) (c : dN) (cA : Am.dN) (x : E) : Prop where
 ev : Am.ev cA (x8 N s.env) (kV x) = fZ N (bn c s.env x)
 ok : cr (aC s) s.H.length (bn c s.env x)
 eo : ∀ k xs,bn c s.env x = .own k xs -> xs = []
 na : ∀ cs,bn c s.env x = .agg cs -> bw cs = false
theorem cn (h : eW X φ w N s Ha t) (rR : cA.gl = c.gl) {o : Operand} {x : E} (hk : cN o (kV x) = true) : nW N s c cA x := by
 cases x with
 | t i =>
   have hl := MJ i (get s.env i);refine ⟨?_,Sa h i,fun k xs e => ?_,fun cs e => ?_⟩
   ·simp only [kV,Am.ev,bn,kT];rw [<- Qt];generalize eG i (get s.env i) = y at hl;cases y <;> first | rfl | simp [bI] at hl
   ·simp only [bn] at e; rw [e] at hl; simp [bI] at hl
   ·simp only [bn] at e; rw [e] at hl; exact hl
 | k a =>
   simp only [kV] at hk;rcases dn_c (ad8 hk) with ⟨k,rfl,e⟩ | ⟨hc,e⟩
   ·exact ⟨rfl,trivial,fun k' xs e => by simp only [bn,AV.own.injEq] at e; exact e.2.symm,fun cs e => by simp [bn] at e⟩
   ·refine ⟨?_,ok_c hc,fun k xs e' => ?_,fun cs e' => ?_⟩
    ·simp only [kV,Am.ev,bn,e];have := tr_c N hc;have hn := aaD hc;cases a <;> first | exact this.symm | (simp [bI] at hn; done)
    ·simp only [bn] at e'; rw [e'] at hc; simp [XA,xJ] at hc
    ·simp only [bn] at e'; rw [e'] at hc; exact A6 hc
 | g i => exact ⟨by simp [kV,Am.ev,bn,fZ,ct,rR],trivial,fun k xs e => by simp [bn] at e,fun cs e => by simp [bn] at e⟩
theorem nW.int {x : E} (h : nW N s c cA x) {k : IntKind} {n : Int} (e : bn c s.env x = .int k n) : Am.ev cA (x8 N s.env) (kV x) = .int k n := by rw [h.ev,e]; rfl
theorem nW.bool {x : E} (h : nW N s c cA x) {b : Bool} (e : bn c s.env x = .bool b) : Am.ev cA (x8 N s.env) (kV x) = .bool b := by rw [h.ev,e]; rfl
theorem rM (h : eW X φ w N s Ha t) (rR : cA.gl = c.gl) : ∀ {os : List Operand} {xs : List E},iB os (Bn xs) = true -> Am.C6 cA (x8 N s.env) (Bn xs) = gD N (di c s.env xs) /\ jK (aC s) s.H.length (di c s.env xs)
 | _,[],_ => ⟨rfl,trivial⟩
 | [],x :: r,hk => by simp [Bn,iB] at hk
 | o :: os,x :: r,hk => by
   simp only [Bn,iB,ab] at hk;obtain ⟨h1,h2⟩ := rM h rR hk.2;have h3 := cn (c := c) h rR hk.1;exact ⟨by simp only [Bn,Am.C6,di,gD,h1,h3.ev],h3.ok,h2⟩
theorem qC (h : eW X φ w N s Ha t) {k : Nat} {p : Rt} {off len : Nat} (ho : cr (aC s) s.H.length (.dp k p off len)) :
  (∃ n,N.ν p = some n /\ ct N (.dp k p off len) = .sl k n (off * k) len) \/ (N.ν p = none /\ off = 0 /\ len = 0 /\ ct N (.dp k p off len) = .dc) := by
 simp only [cr] at ho;obtain ⟨xs,h1,h2⟩ := ho;cases k9 : N.ν p with
 | some n => exact .inl ⟨n,rfl,by simp [ct,k9]⟩
 | none =>
   have := h.own p k xs h1;rw [k9] at this;have hx : xs = [] := this;subst hx;simp at h2;exact .inr ⟨rfl,h2.1,h2.2,by simp [ct,k9]⟩
theorem EK (h : eW X φ w N s Ha t) {k : Nat} {p : Rt} {i off : Nat} (ho : cr (aC s) s.H.length (.eK k p i off)) : ∃ n,N.ν p = some n /\ ct N (.eK k p i off) = .ptr n (i * k + off) := by
 simp only [cr] at ho;obtain ⟨xs,h1,h2⟩ := ho;cases k9 : N.ν p with
 | some n => exact ⟨n,rfl,by simp [ct,k9]⟩
 | none =>
   have := h.own p k xs h1;rw [k9] at this;have hx : xs = [] := this;subst hx;simp at h2
end
end Go.Bm

/- Operations that change nothing: the older machine does the same. -/
namespace Go.Bm
open Go.Am
section
variable {P : Program}
theorem ad4 {op : Op} {y : E} (h : cG P op (.mv y) = true) : ∃ x,cN x y = true := by
 unfold cG at h; split at h <;> simp_all <;> exact ⟨_,h⟩
theorem YB {op : Op} {a b d : E} (h : cG P op (.pick a b d) = true) : (∃ x,cN x a = true) /\ (∃ x,cN x b = true) /\ ∃ x,cN x d = true := by
 unfold cG at h; split at h <;> simp_all; exact ⟨⟨_,h.1.1⟩,⟨_,h.1.2⟩,⟨_,h.2⟩⟩
theorem abd {op : Op} {y : E} (h : cG P op (.box y) = true) : ∃ x,cN x y = true := by
 unfold cG at h; split at h <;> simp_all; exact ⟨_,h⟩
theorem U7 {op : Op} {y : E} (h : cG P op (.kP y) = true) : ∃ x,cN x y = true := by
 unfold cG at h; split at h <;> simp_all; exact ⟨_,h⟩
theorem abe {op : Op} {bo : BinOp} {a b : E} (h : cG P op (.bin bo a b) = true) : (∃ x,cN x a = true) /\ ∃ x,cN x b = true := by
 unfold cG at h; split at h <;> simp_all; exact ⟨⟨_,h.1.2⟩,⟨_,h.2⟩⟩
theorem ad7 {op : Op} {ng : Bool} {t : Et} {a b : E} (h : cG P op (.eq ng t a b) = true) : (∃ x,cN x a = true) /\ ∃ x,cN x b = true := by
 unfold cG at h; split at h <;> simp_all; exact ⟨⟨_,h.1.2⟩,⟨_,h.2⟩⟩
theorem ad0 {op : Op} {uo : UnOp} {y : E} (h : cG P op (.un uo y) = true) : ∃ x,cN x y = true := by
 unfold cG at h; split at h <;> simp_all; exact ⟨_,h.2⟩
theorem abb {op : Op} {k : IntKind} {y : E} (h : cG P op (.S7 k y) = true) : ∃ x,cN x y = true := by
 unfold cG at h; split at h <;> simp_all; exact ⟨_,h.2⟩
theorem aa1 {op : Op} {fn : Fn} {a b : List E} (h : cG P op (.GC fn a b) = true) : (∃ x,iB x a = true) /\ ∃ x,iB x b = true := by
 unfold cG at h; split at h <;> simp_all; exact ⟨⟨_,h.1.2⟩,⟨_,h.2⟩⟩
theorem Te {op : Op} {k : Nat} {zs : List AV} {a b : E} (h : cG P op (.MA k zs a b) = true) : (∃ t,ir P t k = true /\ gJ P t zs = true) /\ (∃ x,cN x a = true) /\ ∃ x,cN x b = true := by
 unfold cG at h; split at h <;> simp_all; exact ⟨⟨_,h.1.1⟩,⟨_,h.1.2⟩,⟨_,h.2⟩⟩
theorem aa9 {op : Op} {off : Nat} {y : E} (h : cG P op (.dt off y) = true) : ∃ x,cN x y = true := by
 unfold cG at h; split at h <;> simp_all; exact ⟨_,h.2⟩
theorem Tf {op : Op} {n : Nat} {y : E} {hi : Option E} (h : cG P op (.I8 n y hi) = true) : (∃ x,cN x y = true) /\ ∀ e,hi = some e -> ∃ x,cN x e = true := by
 unfold cG at h; split at h <;> simp_all
 refine ⟨⟨_,h.2.1⟩,fun e he => ?_⟩;subst he; have := h.2.2; unfold pI at this; split at this <;> simp_all; exact ⟨_,this⟩
theorem aa8 {op : Op} {off : Nat} {ag : Option Nat} {y : E} (h : cG P op (.UW off ag y) = true) : ∃ x,cN x y = true := by
 unfold cG at h; split at h <;> simp_all; exact ⟨_,h.2⟩
theorem aa7 {op : Op} {k : Nat} {a b : E} (h : cG P op (.gq k a b) = true) : (∃ x,cN x a = true) /\ ∃ x,cN x b = true := by
 unfold cG at h; split at h <;> simp_all; exact ⟨⟨_,h.1.2⟩,⟨_,h.2⟩⟩
theorem aa6 {op : Op} {n k : Nat} {a b : E} (h : cG P op (.SJ n k a b) = true) : (∃ x,cN x a = true) /\ ∃ x,cN x b = true := by
 unfold cG at h; split at h <;> simp_all; exact ⟨⟨_,h.1.2⟩,⟨_,h.2⟩⟩
theorem ad6 {op : Op} {n k : Nat} {ag : Option Nat} {a b : E} (h : cG P op (.ix n k ag a b) = true) : (∃ x,cN x a = true) /\ ∃ x,cN x b = true := by
 unfold cG at h; split at h <;> simp_all; exact ⟨⟨_,h.1.2⟩,⟨_,h.2⟩⟩
theorem aba {op : Op} {i : Nat} {y : E} (h : cG P op (.ext i y) = true) : ∃ x,cN x y = true := by
 unfold cG at h; split at h <;> simp_all; exact ⟨_,h.2⟩
theorem aa5 {op : Op} {tab : List Nat} {y : E} (h : cG P op (.Ux tab y) = true) : ∃ x,cN x y = true := by
 unfold cG at h; split at h <;> simp_all; exact ⟨_,h.2⟩
theorem aa4 {op : Op} {y : E} (h : cG P op (.len y) = true) : ∃ x,cN x y = true := by
 unfold cG at h; split at h <;> simp_all
 split at h <;> simp_all; exact ⟨_,h.2⟩
theorem aa2 {op : Op} {ys : List E} (h : cG P op (.min ys) = true) : ∃ x,iB x ys = true := by
 unfold cG at h; split at h <;> simp_all; exact ⟨_,h⟩
theorem aa3 {op : Op} {ys : List E} (h : cG P op (.max ys) = true) : ∃ x,iB x ys = true := by
 unfold cG at h; split at h <;> simp_all; exact ⟨_,h⟩
theorem aaZ {op : Op} {k : Nat} {y : E} {lo hi : Option E} (h : cG P op (.Av k y lo hi) = true) : (∃ x,cN x y = true) /\ (∀ e,lo = some e -> ∃ x,cN x e = true) /\ ∀ e,hi = some e -> ∃ x,cN x e = true := by
 unfold cG at h; split at h <;> simp_all
 refine ⟨⟨_,h.1.1.2⟩,fun e he => ?_,fun e he => ?_⟩
 ·subst he; have := h.1.2; unfold pI at this; split at this <;> simp_all; exact ⟨_,this⟩
 ·subst he; have := h.2; unfold pI at this; split at this <;> simp_all; exact ⟨_,this⟩
theorem wa {place : Nat -> Option (Nat × Nat)} : ∀ {ps : List (Nat × Operand)} {qs : List (Nat × Nat × E)},pG place ps qs = true -> ∀ q ∈ qs,∃ x,cN x q.2.2 = true
 | [],[],_,q,hq => by simp at hq
 | [],_ :: _,h,_,_ => by simp [pG] at h
 | _ :: _,[],h,_,_ => by simp [pG] at h
 | p :: r,q :: s,h,q',hq => by
   simp only [pG,ab] at h;rcases aJ.1 hq with e | e
   ·subst e; exact ⟨_,h.1.2⟩
   ·exact wa h.2 q' e
theorem U9 {op : Op} {zs : List AV} {ps : List (Nat × Nat × E)} (h : cG P op (.build zs ps) = true) : (∃ t,nI P t zs = true) /\ ∀ q ∈ ps,∃ x,cN x q.2.2 = true := by
 unfold cG at h; split at h <;> simp_all
 obtain ⟨h1,h2⟩ := h;refine ⟨⟨_,h1⟩,?_⟩;split at h2
 ·simp_all; exact fun a b e hq => wa h2.2 (a,b,e) hq
 ·split at h2
  ·exact fun a b e hq => wa h2 (a,b,e) hq
  ·cases h2
 ·cases h2
theorem P7 {op : Op} {k n : Nat} {zs : List AV} {ps : List (Nat × Nat × E)} (h : cG P op (.dh k n zs ps) = true) : (∃ t,ir P t k = true /\ gJ P t zs = true) /\ ∀ q ∈ ps,∃ x,cN x q.2.2 = true := by
 unfold cG at h; split at h <;> simp_all
 exact ⟨⟨_,h.1.1.1.2,h.1.1.2⟩,fun a b e hq => wa h.2 (a,b,e) hq⟩
theorem ad5 {op : Op} {ag : Option Nat} {y : E} (h : cG P op (.ld ag y) = true) : ∃ x,cN x y = true := by
 unfold cG at h; split at h <;> simp_all; exact ⟨_,h.2⟩
theorem ad3 {op : Op} {k : Nat} {a b : E} (h : cG P op (.st k a b) = true) : (∃ x,cN x a = true) /\ ∃ x,cN x b = true := by
 unfold cG at h; split at h <;> simp_all; exact ⟨⟨_,h.1.2⟩,⟨_,h.2⟩⟩
theorem aa0 {op : Op} {zs : List AV} (h : cG P op (.new zs) = true) : ∃ t,nI P t zs = true := by
 unfold cG at h; split at h <;> simp_all; exact ⟨_,h⟩
theorem abc {op : Op} {k : Nat} {zs : List AV} {y : E} (h : cG P op (.Td k zs y) = true) : (∃ t,ir P t k = true /\ gJ P t zs = true) /\ ∃ x,cN x y = true := by
 unfold cG at h; split at h <;> simp_all
 split at h <;> simp_all; exact ⟨⟨_,h.1.1,h.1.2⟩,⟨_,h.2⟩⟩
theorem Tg {op : Op} {k : Nat} {a b : E} (h : cG P op (.app k a b) = true) : (∃ x,cN x a = true) /\ ∃ x,cN x b = true := by
 unfold cG at h; split at h <;> simp_all
 split at h <;> simp_all; exact ⟨⟨_,h.1.2⟩,⟨_,h.2⟩⟩
theorem NS {op : Op} {k : Nat} {a b : E} (h : cG P op (.copy k a b) = true) : (∃ x,cN x a = true) /\ ∃ x,cN x b = true := by
 unfold cG at h; split at h <;> simp_all
 split at h <;> simp_all; exact ⟨⟨_,h.1.2⟩,⟨_,h.2⟩⟩
theorem qI {t : TypeId} {zs : List AV} (h : nI P t zs = true) : ll zs = true /\ bm zs = true := by
 unfold nI at h;split at h
 ·split at h
  ·simp only [ab] at h; exact ⟨J8 h.1,h.2⟩
  ·cases h
 ·cases h
end
end Go.Bm

/- Operations that change nothing: what they give. -/
set_option linter.unusedVariables false
namespace Go.Bm
open Go.Am
section
variable {P : Program} {X : Nat -> Prop} {φ : de} {w : World} {N : Names} {s : St} {Ha : Heap} {t : Nat -> Value} {c : dN} {cA : Am.dN} {call : Nat -> List AV -> Heap -> Option (AV × Heap)}
theorem qK (N : Names) (cs : List AV) : gD N cs = cs.map (fZ N) := by
 induction cs with
 | nil => rfl
 | cons x r ih => simp [gD,ih]
theorem Qv (N : Names) (cs : List AV) : kq N cs = cs.map (ct N) := by
 induction cs with
 | nil => rfl
 | cons x r ih => simp [kq,ih]
theorem nW.EO {x : E} (h : nW N s c cA x) : EO (bn c s.env x) := by
 cases e : bn c s.env x <;> simp only [Go.Bm.EO]
 ·rename_i cs;intro j k xs hj;exfalso;have := h.na cs e;clear e
  induction cs generalizing j with
  | nil => simp at hj
  | cons y r ih =>
    cases j with
    | zero => simp at hj; subst hj; simp [bw] at this
    | succ j => exact ih j (by simpa using hj) (by cases y <;> simp [bw] at this <;> exact this)
 ·exact h.eo _ _ e
theorem nW.evQ {x : E} (h : nW N s c cA x) : Am.ev cA (x8 N s.env) (kV x) = vv N (bn c s.env x) := by rw [h.ev,Zx N h.na]
theorem JN (h : eW X φ w N s Ha t) {x : AV} (hl : x.leaf = true) (hk : cr (aC s) s.H.length x) : (fZ N x).leaf = true := by
 cases x <;> first | rfl | (simp [AV.leaf] at hl; done) | skip
 ·rename_i k p off len;simp only [fZ,ct];cases N.ν p <;> rfl
 ·rename_i k p i off;obtain ⟨n,_,e⟩ := EK h hk;simp only [fZ,e,AV.leaf]
theorem tf (h : eW X φ w N s Ha t) : ∀ {cs : List AV},bm cs = true -> jK (aC s) s.H.length cs -> bm (gD N cs) = true
 | [],_,_ => rfl
 | x :: r,hl,hk => by
   simp only [bm,ab] at hl;simp only [gD,bm,ab];exact ⟨JN h hl.1 hk.1,tf h hl.2 hk.2⟩
theorem F7 (N : Names) {x : AV} (hn : ∀ cs,x = .agg cs -> bw cs = false) : (fZ N x).cells = gD N x.cells := by
 cases x <;> first | rfl | skip
 ·rename_i cs; simp only [fZ,ct,AV.cells]; rw [jT N (hn cs rfl)]
 ·rename_i k p off len;simp only [fZ,ct,AV.cells,gD];cases N.ν p <;> rfl
 ·rename_i k p i off;simp only [fZ,ct,AV.cells,gD];cases N.ν p <;> rfl
theorem uB {o : Rt -> Option (Nat × List AV)} {nb : Nat} {x : AV} (h : cr o nb x) : jK o nb x.cells := by
 cases x <;> first | exact ⟨h,trivial⟩ | exact h
theorem Mn {o : Rt -> Option (Nat × List AV)} {nb n : Nat} {cs : List AV} (h : jK o nb cs) : jK o nb (cs.take n) :=
 hJ.2 fun i c hc => hJ.1 h i c (by rw [bF] at hc; split at hc; exact hc; cases hc)
theorem zw {o : Rt -> Option (Nat × List AV)} {nb n : Nat} {cs : List AV} (h : jK o nb cs) : jK o nb (cs.drop n) :=
 hJ.2 fun i c hc => hJ.1 h (n + i) c (by rw [aV] at hc; exact hc)
theorem pj {o : Rt -> Option (Nat × List AV)} {nb : Nat} : ∀ {cs ds : List AV},jK o nb cs -> jK o nb ds -> jK o nb (cs ++ ds)
 | [],_,_,h => h
 | x :: r,_,h,k => ⟨h.1,pj h.2 k⟩
theorem aal {o : Rt -> Option (Nat × List AV)} {nb off : Nat} {cs ds : List AV} (h : jK o nb cs) (k : jK o nb ds) : jK o nb (jf cs off ds) := pj (pj (Mn h) k) (zw h)
theorem acJ (N : Names) (cs ds : List AV) (off : Nat) : gD N (jf cs off ds) = jf (gD N cs) off (gD N ds) := by
 simp only [qK,jf,List.map_append,List.map_take,List.map_drop,nF]
def Tu (cs : List AV) : Prop := ∀ (j k : Nat) (xs : List AV),cs[j]? = some (.own k xs) -> xs = []
theorem Tu.jf {cs ds : List AV} {off : Nat} (h : Tu cs) (k : Tu ds) : Tu (Am.jf cs off ds) := by
 intro j kk xs hj;have := bf hj;simp only [Am.jf,aD] at this
 have mem : ∀ {l : List AV},Tu l -> (.own kk xs) ∈ l -> xs = [] := fun hl hm => by
  obtain ⟨i,hi⟩ := bD hm;exact hl i _ _ hi
 rcases this with (hm | hm) | hm
 ·exact mem h (cH hm)
 ·exact mem k hm
 ·exact mem h (cI hm)
theorem nW.Tu {x : E} (h : nW N s c cA x) : Tu (bn c s.env x).cells := by
 have he := h.EO;cases e : bn c s.env x <;> rw [e] at he <;> simp only [AV.cells] <;> first | exact he | skip
 all_goals
  intro j k xs hj;cases j with
  | zero => simp at hj <;> exact hj.2 ▸ (by first | exact he | exact he)
  | succ j => simp at hj
theorem qh (h : eW X φ w N s Ha t) (rR : cA.gl = c.gl) : ∀ {ps : List (Nat × Nat × E)} {zs cs : List AV},(∀ q ∈ NF ps,∃ x,cN x q.2.2 = true) -> jK (aC s) s.H.length zs -> Tu zs -> n8 c s.env zs ps = some cs ->
  nv cA (x8 N s.env) (gD N zs) (NF ps) = some (gD N cs) /\ jK (aC s) s.H.length cs /\ Tu cs /\ cs.length = zs.length
 | [],zs,cs,_,hz,he,hf => by simp [n8] at hf; subst hf; exact ⟨rfl,hz,he,rfl⟩
 | (off,sz,x) :: r,zs,cs,hq,hz,he,hf => by
   simp only [n8] at hf;split at hf
   case isFalse => cases hf
   rename_i hc;obtain ⟨c1,c2,c3⟩ := hc;obtain ⟨o,ho⟩ := hq (off,sz,kV x) (by simp [NF]);have hx := cn (c := c) (cA := cA) h rR ho;have kz := F7 N hx.na;obtain ⟨k1,k2,k3,k4⟩ := qh h rR (ps := r) (fun q hq' => hq q (by simp [NF,hq'])) (aal hz (uB hx.ok)) (he.jf hx.Tu) hf;refine ⟨?_,k2,k3,?_⟩
   ·simp only [NF,nv,hx.ev,kz];rw [if_pos ⟨by rw [iw]; exact c1,by rw [iw]; exact c2,tf h c3 (uB hx.ok)⟩,<- acJ];exact k1
   ·rw [k4]; exact fL (by omega)
theorem z7 (N : Names) : ∀ {zs : List AV},ll (s7 zs) = true -> s7 zs = gD N zs /\ Tu zs
 | [],_ => ⟨rfl,fun j k xs h => by simp at h⟩
 | x :: r,h => by
   simp only [s7,ll,ab] at h;obtain ⟨h1,h2⟩ := z7 N h.2;rcases dn_c (zK h.1) with ⟨k,rfl,e⟩ | ⟨hc,e⟩
   ·refine ⟨by simp only [s7,gD,h1,e,fZ],fun j k xs hj => ?_⟩;cases j with
    | zero => simp at hj; exact hj.2
    | succ j => exact h2 j k xs (by simpa using hj)
   ·rw [e] at h;refine ⟨?_,fun j k xs hj => ?_⟩
    ·simp only [s7,gD,h1,e];congr 1;have := VI N h.1;cases x <;> first | exact this.symm | (simp [xJ] at h; done)
    ·cases j with
     | zero => simp at hj; subst hj; simp [xJ] at h
     | succ j => exact h2 j k xs (by simpa using hj)
theorem zr {o : Rt -> Option (Nat × List AV)} {nb : Nat} : ∀ {zs : List AV},ll (s7 zs) = true -> jK o nb zs
 | [],_ => trivial
 | x :: r,h => by
   simp only [s7,ll,ab] at h;rcases dn_c (zK h.1) with ⟨k,rfl,e⟩ | ⟨hc,e⟩
   ·exact ⟨trivial,zr h.2⟩
   ·exact ⟨ok_c hc,zr h.2⟩
theorem PQ (N : Names) : ∀ {l : List Bool} {xs ys : List AV} {e : Bool},zW l xs ys = some e -> zW l (gD N xs) (gD N ys) = some e
 | [],[],[],e,h => h
 | true :: l,x :: r,y :: s,e,h => by
   cases x <;> try (simp [zW] at h; done)
   cases y <;> try (simp [zW] at h; done)
   simp only [zW,gD,fZ,ct] at h ⊢;split at h
   ·rename_i hk;rw [if_pos hk];split at h
    ·rename_i e' he;rw [PQ N he];exact h
    ·cases h
   ·cases h
 | false :: l,x :: r,y :: s,e,h => by
   cases x <;> try (simp [zW] at h; done)
   cases y <;> try (simp [zW] at h; done)
   simp only [zW,gD,fZ,ct] at h ⊢;split at h
   ·rename_i e' he;rw [PQ N he];exact h
   ·cases h
 | [],x :: r,ys,e,h => by simp [zW] at h
 | [],[],y :: s,e,h => by simp [zW] at h
 | b :: l,[],ys,e,h => by cases b <;> simp [zW] at h
 | b :: l,x :: r,[],e,h => by cases b <;> cases x <;> simp [zW] at h
theorem Sq (N : Names) (mx : Bool) : ∀ {xs : List AV} {x v : AV},zE mx x xs = some v -> (∃ k n,x = .int k n) -> zE mx x (gD N xs) = some v /\ ∃ k n,v = .int k n
 | [],x,v,h,hx => by simp [zE] at h; subst h; exact ⟨rfl,hx⟩
 | y :: r,x,v,h,hx => by
   obtain ⟨k,n,rfl⟩ := hx;cases y <;> try (simp [zE] at h; done)
   simp only [zE,gD,fZ,ct] at h ⊢;exact Sq N mx h ⟨_,_,rfl⟩
theorem Sr (N : Names) {mx : Bool} {xs : List AV} {v : AV} (h : xH mx xs = some v) : xH mx (gD N xs) = some v /\ ∃ k n,v = .int k n := by
 cases xs with
 | nil => simp [xH] at h
 | cons y r =>
   cases y <;> try (simp [xH] at h; done)
   simp only [xH,gD,fZ,ct] at h ⊢;exact Sq N mx h ⟨_,_,rfl⟩
theorem abu {op : BinOp} {x y v : AV} (h : jq op x y = some v) : (∃ k n,x = .int k n) /\ (∃ k n,y = .int k n) /\ ((∃ k n,v = .int k n) \/ ∃ b,v = .bool b) := by
 unfold jq at h;split at h
 case h_2 => cases h
 refine ⟨⟨_,_,rfl⟩,⟨_,_,rfl⟩,?_⟩;split at h
 ·split at h
  ·cases h
  ·simp at h; exact .inl ⟨_,_,h.symm⟩
 ·split at h
  ·cases h
  ·simp at h; exact .inl ⟨_,_,h.symm⟩
 ·split at h
  ·unfold arith at h
   split at h <;> first
    | (simp at h; exact .inl ⟨_,_,h.symm⟩)
    | (simp at h; exact .inr ⟨_,h.symm⟩)
    | (split at h
       ·cases h
       ·simp at h; exact .inl ⟨_,_,h.symm⟩)
    | cases h
  ·cases h
theorem KG {v : AV} (h : (∃ k n,v = .int k n) \/ ∃ b,v = .bool b) (o : Rt -> Option (Nat × List AV)) (nb : Nat) : vv N v = v /\ cr o nb v /\ EO v := by
 rcases h with ⟨k,n,rfl⟩ | ⟨b,rfl⟩ <;> exact ⟨rfl,trivial,trivial⟩
theorem OT (N : Names) {ag : Option Nat} {cs : List AV} {v : AV} {o : Rt -> Option (Nat × List AV)} {nb : Nat} (h : Jp ag cs = some v) (hk : jK o nb cs) : AE ag (kq N cs) = some (vv N v) /\ cr o nb v /\ EO v /\ bI v = false := by
 unfold Jp at h;split at h
 case h_2 => cases h
 rename_i v' hr;split at h
 ·cases h
 rename_i ho;simp at h ho;subst h
 have he : EO v' := by
  cases v' <;> simp only [EO] <;> try (simp [bI] at ho; done)
  rename_i ds;intro j k xs hj;exfalso;simp only [bI] at ho;clear hr
  induction ds generalizing j with
  | nil => simp at hj
  | cons y r ih =>
    cases j with
    | zero => simp at hj; subst hj; simp [bw] at ho
    | succ j => exact ih (by cases y <;> simp [bw] at ho <;> exact ho) j (by simpa using hj)
 unfold AE at hr ⊢;cases ag with
 | some k =>
   simp only at hr ⊢;split at hr
   case isFalse => cases hr
   rename_i hle;simp at hr;subst hr;rw [if_pos (by rw [dQ]; exact hle),kH N ho];exact ⟨by simp only [ct,Qv,List.map_take],Mn hk,he,ho⟩
 | none =>
   simp only at hr ⊢;cases cs with
   | nil => cases hr
   | cons x r =>
     simp at hr;subst hr;rw [kH N ho];exact ⟨by simp [kq],hk.1,he,ho⟩
theorem Dm (N : Names) (cs : List AV) (n : Nat) : (kq N cs).drop n = kq N (cs.drop n) := by simp only [Qv,List.map_drop]
end
end Go.Bm

/- Operations that change nothing: the older machine does the same. -/
namespace Go.Bm
open Go.Am
section
variable {P : Program} {X : Nat -> Prop} {φ : de} {w : World} {N : Names} {s : St} {Ha : Heap} {t : Nat -> Value} {c : dN} {cA : Am.dN} {call : Nat -> List AV -> Heap -> Option (AV × Heap)}
theorem P9 (h : eW X φ w N s Ha t) (rR : cA.gl = c.gl) {d m n : Nat} {x : Option E} (hk : ∀ e,dnO x = some e -> ∃ o,cN o e = true) (hb : xU c s.env d m x = some n) : Ac cA (x8 N s.env) d m (dnO x) = some n := by
 cases x with
 | none => exact hb
 | some x =>
   obtain ⟨o,ho⟩ := hk _ rfl;simp only [xU] at hb;simp only [dnO,Ac];cases e : bn c s.env x <;> rw [e] at hb <;> try (simp [bnd] at hb; done)
   rw [(cn (c := c) (cA := cA) h rR ho).int e];exact hb
theorem Ba {x : AV} {n m : Nat} (h : idx x n = some m) : ∃ k i,x = .int k i /\ idx (.int k i) n = some m /\ m < n := by
 unfold idx at h;split at h
 ·rename_i k i;refine ⟨k,i,rfl,h,?_⟩;split at h
  ·simp at h; omega
  ·cases h
 ·cases h
theorem Sv (h : eW X φ w N s Ha t) {x : E} (hx : nW N s c cA x) {n : Nat} (hl : PA (bn c s.env x) = some n) : Xp (Am.ev cA (x8 N s.env) (kV x)) = some n := by
 rw [hx.ev];have hk := hx.ok;cases e : bn c s.env x <;> rw [e] at hl hk <;> try (simp [PA] at hl; done)
 ·exact hl
 ·exact hl
 ·exact hl
 ·rename_i k xs;have := hx.eo k xs e;subst this;exact hl
 ·rename_i k p off len;simp only [PA] at hl;cases hl;simp only [fZ];rcases qC h hk with ⟨m,_,e2⟩ | ⟨_,_,rfl,e2⟩ <;> rw [e2] <;> rfl
theorem ac4 (h : eW X φ w N s Ha t) (rR : cA.gl = c.gl) {op : Op} {kd : Kd} {v : AV} (hk : cG P op (kU kd) = true) (hs : Pb c s.env kd = some v) :
  fG cA call (x8 N s.env) Ha (kU kd) = some (vv N v,Ha,.no) /\ cr (aC s) s.H.length v /\ EO v := by
 cases kd <;> simp only [Pb,reduceCtorEq] at hs <;> simp only [kU] at hk ⊢
 case mv x =>
  obtain ⟨o,ho⟩ := ad4 hk;have hx := cn (c := c) (cA := cA) h rR ho;simp at hs;subst hs;exact ⟨by simp only [fG,hx.evQ],hx.ok,hx.EO⟩
 case pick x a b =>
  obtain ⟨⟨o1,h1⟩,⟨o2,h2⟩,o3,h3⟩ := YB hk;have hx := cn (c := c) (cA := cA) h rR h1;have ha := cn (c := c) (cA := cA) h rR h2;have hb := cn (c := c) (cA := cA) h rR h3;split at hs
  case h_2 => cases hs
  rename_i b' he;simp at hs;subst hs;simp only [fG,hx.bool he];cases b'
  ·exact ⟨by simp [hb.evQ],by simpa using hb.ok,by simpa using hb.EO⟩
  ·exact ⟨by simp [ha.evQ],by simpa using ha.ok,by simpa using ha.EO⟩
 case build zs ps =>
  obtain ⟨⟨t,ht⟩,hq⟩ := U9 hk;obtain ⟨e1,e2⟩ := z7 N (qI ht).1;split at hs
  case h_2 => cases hs
  rename_i cs hf;simp at hs;subst hs;obtain ⟨k1,k2,k3,k4⟩ := qh (cA := cA) h rR hq (zr (qI ht).1) e2 hf;rw [e1];exact ⟨by simp only [fG,k1,vv],k2,k3⟩
 case kP x =>
  obtain ⟨o,ho⟩ := U7 hk;have hx := cn (c := c) (cA := cA) h rR ho;have cO := hx.ok;simp only [fG,hx.ev];cases e : bn c s.env x <;> rw [e] at hs cO <;> try (simp at hs; done)
  ·simp at hs; subst hs; exact ⟨rfl,trivial,trivial⟩
  ·simp at hs; subst hs; exact ⟨rfl,cO,trivial⟩
  ·rename_i f a b;cases f <;> simp at hs
   subst hs;exact ⟨rfl,cO,trivial⟩
 case bin op' x y =>
  obtain ⟨⟨o1,h1⟩,o2,h2⟩ := abe hk;have hx := cn (c := c) (cA := cA) h rR h1;have hy := cn (c := c) (cA := cA) h rR h2;obtain ⟨⟨k1,n1,e1⟩,⟨k2,n2,e2⟩,hv⟩ := abu hs;obtain ⟨q1,q2,q3⟩ := KG (N := N) hv (aC s) s.H.length;rw [e1,e2] at hs;simp only [fG,hx.int e1,hy.int e2,hs,q1];exact ⟨trivial,q2,q3⟩
 case eq ng et x y =>
  obtain ⟨⟨o1,h1⟩,o2,h2⟩ := ad7 hk;have hx := cn (c := c) (cA := cA) h rR h1;have hy := cn (c := c) (cA := cA) h rR h2;split at hs
  case h_2 => cases hs
  rename_i e he;simp at hs;subst hs;refine ⟨?_,trivial,trivial⟩
  have : UY et (Am.ev cA (x8 N s.env) (kV x)) (Am.ev cA (x8 N s.env) (kV y)) = some e := by
   rw [hx.ev,hy.ev];have hxk := hx.ok;unfold eqB at he;split at he
   ·rename_i a b e1 e2; rw [e1,e2]; exact he
   ·rename_i l xs ys e1 e2;have n1 := hx.na _ e1;have n2 := hy.na _ e2;rw [e1,e2];simp only [fZ,ct,UY];rw [<- jT N n1,<- jT N n2];exact PQ N he
   ·rename_i z k e2;rw [e2];simp only [fZ];cases e1 : bn c s.env x <;> rw [e1] at he hxk <;> try (simp [gB] at he; done)
    ·simpa [gB,UY,isNil,fZ,ct] using he
    ·rename_i k' xs;cases xs with
     | nil => simp [gB] at he
     | cons u r => simpa [gB,UY,isNil,fZ,ct] using he
    ·simpa [gB,UY,isNil,fZ,ct] using he
    ·rename_i k' p off len;simp only [gB] at he;split at he
     ·cases he
     ·rename_i hlen;simp at he;subst he;simp only [fZ];rcases qC h hxk with ⟨m,_,e3⟩ | ⟨_,_,h0,_⟩
      ·rw [e3]; rfl
      ·exact absurd h0 hlen
   ·rename_i z e2;rw [e2];simp only [fZ];cases e1 : bn c s.env x <;> rw [e1] at he hxk <;> try (simp [gB] at he; done)
    ·simpa [gB,UY,isNil,fZ,ct] using he
    ·rename_i k' xs;cases xs with
     | nil => simp [gB] at he
     | cons u r => simpa [gB,UY,isNil,fZ,ct] using he
    ·simpa [gB,UY,isNil,fZ,ct] using he
    ·rename_i k' p off len;simp only [gB] at he;split at he
     ·cases he
     ·rename_i hlen;simp at he;subst he;simp only [fZ];rcases qC h hxk with ⟨m,_,e3⟩ | ⟨_,_,h0,_⟩
      ·rw [e3]; rfl
      ·exact absurd h0 hlen
   ·rename_i z e2;rw [e2];cases e1 : bn c s.env x <;> rw [e1] at he <;> try (simp [gB] at he; done)
    all_goals simpa [gB,UY,isNil,fZ,ct] using he
   ·rename_i z e2;rw [e2];cases e1 : bn c s.env x <;> rw [e1] at he <;> try (simp [gB] at he; done)
    all_goals simpa [gB,UY,isNil,fZ,ct] using he
   ·cases he
  simp only [fG,this,vv,ct]
 case un uo x =>
  obtain ⟨o,ho⟩ := ad0 hk;have hx := cn (c := c) (cA := cA) h rR ho;simp only [fG,hx.ev];cases e : bn c s.env x <;> rw [e] at hs <;> try (cases uo <;> simp [OC] at hs; done)
  ·have : (∃ k n,v = .int k n) \/ ∃ b,v = .bool b := by
    cases uo <;> simp [OC] at hs
    ·exact .inl ⟨_,_,hs.symm⟩
    ·exact .inl ⟨_,_,hs.symm⟩
   obtain ⟨q1,q2,q3⟩ := KG (N := N) this (aC s) s.H.length;simp only [fZ,ct,hs,q1];exact ⟨trivial,q2,q3⟩
  ·have : (∃ k n,v = .int k n) \/ ∃ b,v = .bool b := by
    cases uo <;> simp [OC] at hs
    exact .inr ⟨_,hs.symm⟩
   obtain ⟨q1,q2,q3⟩ := KG (N := N) this (aC s) s.H.length;simp only [fZ,ct,hs,q1];exact ⟨trivial,q2,q3⟩
 case S7 k x =>
  obtain ⟨o,ho⟩ := abb hk;have hx := cn (c := c) (cA := cA) h rR ho;split at hs
  case h_2 => cases hs
  rename_i k' n e;simp at hs;subst hs;simp only [fG,hx.int e];exact ⟨rfl,trivial,trivial⟩
 case GC fn a b =>
  obtain ⟨⟨o1,h1⟩,o2,h2⟩ := aa1 hk;obtain ⟨a1,a2⟩ := rM (cA := cA) h rR h1;obtain ⟨b1,b2⟩ := rM (cA := cA) h rR h2;split at hs
  ·cases hs
  rename_i ho;simp at hs ho;subst hs
  have sp : ∀ {xs ys : List AV},bw (xs ++ ys) = false -> bw xs = false /\ bw ys = false := by
   intro xs
   induction xs with
   | nil => intro ys h; exact ⟨rfl,h⟩
   | cons z r ih =>
     intro ys h;cases z <;> simp [bw] at h ⊢ <;> exact ih h
  obtain ⟨p1,p2⟩ := sp ho;refine ⟨?_,⟨a2,b2⟩,trivial⟩;simp only [fG,a1,b1,vv,ct,jT N p1,jT N p2]
 case Av k x lo hi =>
  obtain ⟨⟨o,ho⟩,h1,h2⟩ := aaZ hk;have hx := cn (c := c) (cA := cA) h rR ho;have cO := hx.ok;split at hs
  case h_2 => cases hs
  rename_i n hn;split at hs
  case h_2 => cases hs
  rename_i hh hhh;split at hs
  case h_2 => cases hs
  rename_i l hl;have g1 := Sv h hx hn;have g2 := P9 h rR h2 hhh;have g3 := P9 h rR h1 hl
  have bb : ∀ {d m n : Nat} {x : Option E},xU c s.env d m x = some n -> d <= m -> n <= m := by
   intro d m n x hb hd;cases x with
   | none => simp [xU] at hb; omega
   | some x =>
     simp only [xU] at hb;unfold bnd at hb;split at hb
     ·split at hb
      ·simp at hb; omega
      ·cases hb
     ·cases hb
  have l1 := bb hhh (aS _);have l2 := bb hl (Nat.zero_le _);simp only [fG,g1,g2,g3];rw [hx.ev];cases e : bn c s.env x <;> rw [e] at hs cO hn <;> try (simp at hs; done)
  ·rename_i k' xs;simp only at hs;split at hs
   case isFalse => cases hs
   rename_i sx;simp at hs;subst hs;simp only [fZ,ct];rw [if_pos sx];exact ⟨rfl,trivial,trivial⟩
  ·rename_i k' b off len;simp only at hs;split at hs
   case isFalse => cases hs
   rename_i sx;simp at hs;subst hs;simp only [fZ,ct];rw [if_pos sx];exact ⟨rfl,cO,trivial⟩
  ·rename_i k' xs;have := hx.eo k' xs e;subst this;simp only at hs;split at hs
   case isFalse => cases hs
   simp at hs;subst hs;exact ⟨rfl,trivial,rfl⟩
  ·rename_i k' p off len;simp only at hs;split at hs
   case isFalse => cases hs
   rename_i sx;subst sx;simp at hs;subst hs;simp only [PA,aj] at hn;subst hn
   have XT : cr (aC s) s.H.length (.dp k' p (off + l) (hh - l)) := by
    simp only [cr] at cO ⊢;obtain ⟨xs,e1,e2⟩ := cO;exact ⟨xs,e1,by omega⟩
   refine ⟨?_,XT,trivial⟩;simp only [fZ];rcases qC h cO with ⟨m,hm,e3⟩ | ⟨hm,e0,e1,e3⟩
   ·rw [e3];simp only [if_true,vv,ct,hm,bV]
   ·rw [e3];simp only [vv,ct,hm]
 case dt off x =>
  obtain ⟨o,ho⟩ := aa9 hk;have hx := cn (c := c) (cA := cA) h rR ho;have cO := hx.ok;simp only [fG,hx.ev];cases e : bn c s.env x <;> rw [e] at hs cO <;> try (simp at hs; done)
  ·simp at hs; subst hs; exact ⟨rfl,trivial,trivial⟩
  ·simp at hs; subst hs; exact ⟨rfl,cO,trivial⟩
  ·rename_i k p i o';simp at hs;subst hs;have XT : cr (aC s) s.H.length (.eK k p i (o' + off)) := cO;refine ⟨?_,XT,trivial⟩;obtain ⟨m,hm,e2⟩ := EK h cO;simp only [fZ,e2,vv,ct,hm,Nat.add_assoc]
 case I8 n x hi =>
  cases hi with
  | some y => simp at hs
  | none =>
  obtain ⟨⟨o,ho⟩,_⟩ := Tf hk;have hx := cn (c := c) (cA := cA) h rR ho;have cO := hx.ok;simp only [fG,hx.ev,dnO,Ac];simp only at hs;cases e : bn c s.env x <;> rw [e] at hs cO <;> try (simp at hs; done)
  rename_i cs;simp only at hs;split at hs
  case isFalse => cases hs
  rename_i hc;simp at hs;subst hs;simp only [fZ,ct];rw [if_pos ⟨hc.1,trivial,hc.2⟩];exact ⟨rfl,trivial,trivial⟩
 case UW off ag x =>
  obtain ⟨o,ho⟩ := aa8 hk;have hx := cn (c := c) (cA := cA) h rR ho;have cO := hx.ok;simp only [fG,hx.ev];cases e : bn c s.env x <;> rw [e] at hs cO <;> try (simp at hs; done)
  rename_i cs;simp only at hs;obtain ⟨r1,r2,r3,_⟩ := OT N hs (zw (n := off) cO);simp only [fZ,ct,Dm,r1];exact ⟨trivial,r2,r3⟩
 case gq k x i =>
  obtain ⟨⟨o1,h1⟩,o2,h2⟩ := aa7 hk;have hx := cn (c := c) (cA := cA) h rR h1;have hi := cn (c := c) (cA := cA) h rR h2;have cO := hx.ok;simp only [fG,hx.ev];cases e : bn c s.env x <;> rw [e] at hs cO <;> try (simp at hs; done)
  ·rename_i k' xs;simp only at hs;split at hs
   case h_2 => cases hs
   rename_i j hj;obtain ⟨ki,ni,e2,XZ,_⟩ := Ba hj;split at hs
   case isFalse => cases hs
   rename_i sx;split at hs
   case h_2 => cases hs
   rename_i u hu;simp at hs;subst hs;simp only [fZ,ct,hi.int e2,XZ,if_pos sx,hu];exact ⟨rfl,trivial,trivial⟩
  ·rename_i k' b off len;simp only at hs;split at hs
   case h_2 => cases hs
   rename_i j hj;obtain ⟨ki,ni,e2,XZ,_⟩ := Ba hj;split at hs
   case isFalse => cases hs
   rename_i sx;simp at hs;subst hs;simp only [fZ,ct,hi.int e2,XZ,if_pos sx];exact ⟨rfl,cO,trivial⟩
  ·rename_i k' p off len;simp only at hs;split at hs
   case h_2 => cases hs
   rename_i j hj;obtain ⟨ki,ni,e2,XZ,bA⟩ := Ba hj;split at hs
   case isFalse => cases hs
   rename_i sx;subst sx;simp at hs;subst hs;simp only [fZ];rcases qC h cO with ⟨m,hm,e3⟩ | ⟨_,_,h0,_⟩
   ·rw [e3];simp only [hi.int e2,XZ,if_true,vv,ct,hm,bV,Nat.add_zero];refine ⟨trivial,?_,trivial⟩;simp only [cr] at cO ⊢;obtain ⟨xs,q1,q2⟩ := cO;exact ⟨xs,q1,by omega⟩
   ·omega
 case SJ n k x i =>
  obtain ⟨⟨o1,h1⟩,o2,h2⟩ := aa6 hk;have hx := cn (c := c) (cA := cA) h rR h1;have hi := cn (c := c) (cA := cA) h rR h2;have cO := hx.ok;split at hs
  case h_2 => cases hs
  rename_i j hj;obtain ⟨ki,ni,e2,XZ,_⟩ := Ba hj;simp only [fG,hi.int e2,XZ,hx.ev];cases e : bn c s.env x <;> rw [e] at hs cO <;> try (simp at hs; done)
  ·simp at hs; subst hs; exact ⟨rfl,trivial,trivial⟩
  ·simp at hs; subst hs; exact ⟨rfl,cO,trivial⟩
  ·rename_i k' p l off;simp at hs;subst hs;have XT : cr (aC s) s.H.length (.eK k' p l (off + j * k)) := cO;refine ⟨?_,XT,trivial⟩;obtain ⟨m,hm,e3⟩ := EK h cO;simp only [fZ,e3,vv,ct,hm,Nat.add_assoc]
 case ix n k ag x i =>
  obtain ⟨⟨o1,h1⟩,o2,h2⟩ := ad6 hk;have hx := cn (c := c) (cA := cA) h rR h1;have hi := cn (c := c) (cA := cA) h rR h2;have cO := hx.ok;split at hs
  case h_2 => cases hs
  rename_i j hj;obtain ⟨ki,ni,e2,XZ,_⟩ := Ba hj;simp only [fG,hi.int e2,XZ,hx.ev];cases e : bn c s.env x <;> rw [e] at hs cO <;> try (simp at hs; done)
  rename_i cs;simp only at hs;obtain ⟨r1,r2,r3,_⟩ := OT N hs (zw (n := j * k) cO);simp only [fZ,ct,Dm,r1];exact ⟨trivial,r2,r3⟩
 case ext i x =>
  obtain ⟨o,ho⟩ := aba hk;have hx := cn (c := c) (cA := cA) h rR ho;have cO := hx.ok;simp only [fG,hx.ev];cases e : bn c s.env x <;> rw [e] at hs cO <;> try (simp at hs; done)
  rename_i vs;simp only at hs;split at hs
  case h_2 => cases hs
  rename_i u hu;split at hs
  ·cases hs
  rename_i gY;simp at hs gY;subst hs;simp only [fZ,ct,vw,hu,cJ];refine ⟨by rw [kH N gY],hJ.1 cO i u hu,?_⟩;cases u <;> simp only [EO] <;> try (simp [bI] at gY; done)
  rename_i ds;intro j k xs hj;exfalso;simp only [bI] at gY;clear hu
  induction ds generalizing j with
  | nil => simp at hj
  | cons y r ih =>
    cases j with
    | zero => simp at hj; subst hj; simp [bw] at gY
    | succ j => exact ih (by cases y <;> simp [bw] at gY <;> exact gY) j (by simpa using hj)
 case Ux tab i =>
  obtain ⟨o,ho⟩ := aa5 hk;have hi := cn (c := c) (cA := cA) h rR ho;split at hs
  case h_2 => cases hs
  rename_i j hj;obtain ⟨ki,ni,e2,XZ,_⟩ := Ba hj;split at hs
  case h_2 => cases hs
  rename_i u hu;simp at hs;subst hs;simp only [fG,hi.int e2,XZ,hu];exact ⟨rfl,trivial,trivial⟩
 case len x =>
  obtain ⟨o,ho⟩ := aa4 hk;have hx := cn (c := c) (cA := cA) h rR ho;split at hs
  case h_2 => cases hs
  rename_i n hn;simp at hs;subst hs;simp only [fG,Sv h hx hn];exact ⟨rfl,trivial,trivial⟩
 case min xs =>
  obtain ⟨o,ho⟩ := aa2 hk;obtain ⟨a1,a2⟩ := rM (cA := cA) h rR ho;obtain ⟨m1,m2⟩ := Sr N hs;obtain ⟨q1,q2,q3⟩ := KG (N := N) (.inl m2) (aC s) s.H.length;simp only [fG,a1,m1,q1];exact ⟨trivial,q2,q3⟩
 case max xs =>
  obtain ⟨o,ho⟩ := aa3 hk;obtain ⟨a1,a2⟩ := rM (cA := cA) h rR ho;obtain ⟨m1,m2⟩ := Sr N hs;obtain ⟨q1,q2,q3⟩ := KG (N := N) (.inl m2) (aC s) s.H.length;simp only [fG,a1,m1,q1];exact ⟨trivial,q2,q3⟩
end
end Go.Bm

/- A value in hand; operations that read and make. -/
namespace Go.Bm
open Go.Am
section
variable {P : Program} {X : Nat -> Prop} {φ : de} {w : World} {N N' : Names} {s : St} {Ha : Heap} {t t' : Nat -> Value} {B : Nat -> Nat} {base : Nat} {v : AV} {v' : Value}
theorem Dk (eX : N'.β = N.β) {x : AV} (h : ∀ p ∈ aL x,N'.ν p = N.ν p) : ct N' x = ct N x := by
 have e := VG (N := N) (N' := N') (m := id) (g := fun y => y) eX (fun _ _ _ _ => ⟨rfl,rfl⟩) x h;have : b8 (fun y => y) x = x := qc (m := id) (fun _ _ _ _ => ⟨rfl,rfl⟩) x (fun _ _ => rfl)
 rwa [this] at e
theorem Hb (eX : N'.β = N.β) {r : Rt} {x : AV} (hr : ∀ k xs,x = .own k xs -> N'.ν r = N.ν r) (h : ∀ p ∈ aL x,N'.ν p = N.ν p) : je N' r x = je N r x := by
 have e := w8 (N := N) (N' := N') (m := id) (g := fun y => y) eX (fun _ _ _ _ => ⟨rfl,rfl⟩) (r := r) (r' := r) hr h;have : b8 (fun y => y) x = x := qc (m := id) (fun _ _ _ _ => ⟨rfl,rfl⟩) x (fun _ _ => rfl)
 rwa [this] at e
theorem TI (eX : N'.β = N.β) {i : Nat} {x : AV} (h1 : N'.ν (.s i) = N.ν (.s i)) (h2 : ∀ j,N'.ν (.sc i j) = N.ν (.sc i j)) (h : ∀ p ∈ aL x,N'.ν p = N.ν p) : jS N' i x = jS N i x := by
 have e := Jk (N := N) (N' := N') (m := id) (g := fun y => y) eX (fun _ _ _ _ => ⟨rfl,rfl⟩) (i := i) (i' := i) h1 h2 h;have : b8 (fun y => y) x = x := qc (m := id) (fun _ _ _ _ => ⟨rfl,rfl⟩) x (fun _ _ => rfl)
 rwa [this] at e
theorem eW.dp (h : eW X φ w N s Ha t) {r : Rt} {x : AV} (hx : at_ s r = some x) : ∀ p ∈ aL x,(aC s p).isSome := AL x (h.zu hx)
theorem ael {i : Nat} (hi : get s.env i = .any) {q : Rt} (hq : bq i q = false) : at_ ⟨put s.env i v,s.H⟩ q = at_ s q := by
 cases q with
 | s j => simp only [bq,decide_eq_false_iff_not] at hq; simp [at_,br,hq]
 | sc j l => simp only [bq,decide_eq_false_iff_not] at hq; simp [at_,br,hq]
 | c b j => rfl
theorem mM {i : Nat} (hi : get s.env i = .any) {q : Rt} (hq : bq i q = false) : aC ⟨put s.env i v,s.H⟩ q = aC s q := iy (ael hi hq)
theorem Tq {i : Nat} (hi : get s.env i = .any) {q : Rt} (hq : bq i q = true) : aC s q = none := by
 have ho : bI (get s.env i) = false := by rw [hi]; rfl
 obtain ⟨h1,h2⟩ := dY ho;cases q with
 | s j => simp only [bq,decide_eq_true_eq] at hq; subst hq; exact h1
 | sc j l => simp only [bq,decide_eq_true_eq] at hq; subst hq; exact h2 l
 | c b j => simp [bq] at hq
mutual
theorem kN {o o' : Rt -> Option (Nat × List AV)} {nb Ms : Nat} (ho : ∀ p,(o p).isSome -> o' p = o p) (hn : nb <= Ms) : ∀ x,cr o nb x -> cr o' Ms x
 | .dp k p off len,h => by simp only [cr] at h ⊢; obtain ⟨xs,e,h2⟩ := h; exact ⟨xs,by rw [ho p (by rw [e]; rfl)]; exact e,h2⟩
 | .eK k p i off,h => by simp only [cr] at h ⊢; obtain ⟨xs,e,h2⟩ := h; exact ⟨xs,by rw [ho p (by rw [e]; rfl)]; exact e,h2⟩
 | .ptr b off,h => by simp only [cr] at h ⊢; omega
 | .agg cs,h => by simp only [cr] at h ⊢; exact uD ho hn cs h
 | .dW cs,h => by simp only [cr] at h ⊢; exact uD ho hn cs h
 | .func f a b,h => by simp only [cr] at h ⊢; exact ⟨uD ho hn a h.1,uD ho hn b h.2⟩
 | .any,_ => trivial
 | .undef,_ => trivial
 | .fi,_ => trivial
 | .eV,_ => trivial
 | .dc,_ => trivial
 | .int _ _,_ => trivial
 | .bool _,_ => trivial
 | .str _,_ => trivial
 | .list _ _,_ => trivial
 | .cX _,_ => trivial
 | .own _ _,_ => trivial
 | .sl _ b _ _,h => by simp only [cr] at h ⊢; omega
theorem uD {o o' : Rt -> Option (Nat × List AV)} {nb Ms : Nat} (ho : ∀ p,(o p).isSome -> o' p = o p) (hn : nb <= Ms) : ∀ cs,jK o nb cs -> jK o' Ms cs
 | [],_ => trivial
 | x :: r,h => ⟨kN ho hn x h.1,uD ho hn r h.2⟩
end
theorem eW.putG (h : eW X φ w N s Ha t) {i : Nat} (hi : get s.env i = .any) (eX : N'.β = N.β) (hN : ∀ p,bq i p = false -> N'.ν p = N.ν p) (hv : cr (aC s) s.H.length v) (rv : bN (Rd X φ w) φ (jS N' i v) v')
  (fA : ∀ p k xs,bq i p = true -> aC ⟨put s.env i v,s.H⟩ p = some (k,xs) -> pX Ha (N'.ν p) k xs /\ ∀ n,N'.ν p = some n -> (∀ q,(aC s q).isSome -> N.ν q ≠ some n) /\ (∀ b,(aH s.H b).isSome -> N.β b ≠ n) /\ ∀ q,bq i q = true -> (aC ⟨put s.env i v,s.H⟩ q).isSome -> N'.ν q = some n -> q = p) :
  eW X φ w N' ⟨put s.env i v,s.H⟩ Ha (fun j => if j = i then v' else t j) := by
 have Ic : ∀ {p},(aC s p).isSome -> bq i p = false := by
  intro p hp;cases e : bq i p with
  | false => rfl
  | true => rw [Tq hi e] at hp; cases hp
 have mono : ∀ p,(aC s p).isSome -> aC ⟨put s.env i v,s.H⟩ p = aC s p := fun p hp => mM hi (Ic hp);refine ⟨fun j => ?_,fun j => ?_,h.heap,fun p k xs e => ?_,fun b cs e => ?_,fun p q n e1 e2 e3 e4 => ?_,fun b p e1 e2 e3 => ?_,fun b d e1 e2 e3 => ?_⟩
 ·simp only [br];by_cases hj : j = i
  ·subst hj; simp only [if_true]; exact rv
  ·simp only [if_neg hj];rw [TI eX (hN _ (by simp [bq,hj])) (fun l => hN _ (by simp [bq,hj])) (fun p hp => hN p (Ic (h.dp (r := .s j) rfl p hp)))];exact h.env j
 ·simp only [br];by_cases hj : j = i
  ·rw [if_pos hj]; exact kN mono (aS _) v hv
  ·rw [if_neg hj]; exact kN mono (aS _) _ (h.GO j)
 ·cases hp : bq i p with
  | true => exact (fA p k xs hp e).1
  | false => rw [mM hi hp] at e; rw [hN p hp]; exact h.own p k xs e
 ·obtain ⟨as,g1,g2,g3⟩ := h.box b cs e;refine ⟨as,by rw [eX]; exact g1,g2,fun j c hc => ?_⟩;obtain ⟨k1,a,k2,k3⟩ := g3 j c hc;refine ⟨kN mono (aS _) c k1,a,k2,?_⟩;rw [Hb eX (fun _ _ _ => hN _ rfl) (fun p hp => hN p (Ic (h.dp (r := .c b j) (by rw [vd (s := s) e]; exact hc) p hp)))];exact k3
 ·cases hp : bq i p with
  | true =>
    obtain ⟨⟨k,xs⟩,e⟩ := aW.1 e1;obtain ⟨_,h2⟩ := fA p k xs hp e;obtain ⟨f1,f2,f3⟩ := h2 n e3;cases hq : bq i q with
    | true => exact (f3 q hq e2 e4).symm
    | false => rw [mM hi hq] at e2; rw [hN q hq] at e4; exact absurd e4 (f1 q e2)
  | false =>
    cases hq : bq i q with
    | true =>
      obtain ⟨⟨k,xs⟩,e⟩ := aW.1 e2;obtain ⟨_,h2⟩ := fA q k xs hq e;obtain ⟨f1,f2,f3⟩ := h2 n e4;rw [mM hi hp] at e1;rw [hN p hp] at e3;exact absurd e3 (f1 p e1)
    | false =>
      rw [mM hi hp] at e1;rw [mM hi hq] at e2;rw [hN p hp] at e3;rw [hN q hq] at e4;exact h.inj p q n e1 e2 e3 e4
 ·rw [eX] at e3;cases hp : bq i p with
  | true =>
    obtain ⟨⟨k,xs⟩,e⟩ := aW.1 e2;obtain ⟨_,h2⟩ := fA p k xs hp e;exact (h2 _ e3).2.1 b e1 rfl
  | false => rw [mM hi hp] at e2; rw [hN p hp] at e3; exact h.bx b p e1 e2 e3
 ·rw [eX] at e3; exact h.bi b d e1 e2 e3
theorem dV.quiet (h : eW X φ w N s Ha t) (hb : (∀ b,b < base -> N.β b = B b) /\ base <= s.H.length) (hv : cr (aC s) s.H.length v) (he : EO v) (r : bN (Rd X φ w) φ (vv N v) v') : dV X φ w B base s v t v' := by
 refine ⟨⟨N,Ha,h,hb⟩,hv,fun i hi => ?_⟩
 have Ic : ∀ {p},(aC s p).isSome -> bq i p = false := by
  intro p hp;cases e : bq i p with
  | false => rfl
  | true => rw [Tq hi e] at hp; cases hp
 obtain ⟨N',eX,hN1,Zo⟩ : ∃ N' : Names,N'.β = N.β /\ (∀ p,bq i p = false -> N'.ν p = N.ν p) /\ ∀ p,bq i p = true -> N'.ν p = none := ⟨⟨N.β,fun p => if bq i p then none else N.ν p⟩,rfl,fun p hp => by simp [hp],fun p hp => by simp [hp]⟩;have hvb : ∀ p ∈ aL v,N'.ν p = N.ν p := fun p hp => hN1 p (Ic (AL v hv p hp))
 have e1 : jS N' i v = vv N v := by
  cases v <;> simp only [jS,vv,je] <;> try exact Dk eX hvb
  ·rename_i cs;congr 1;apply cY;intro j;rw [fH,m8];simp only [fD];cases hc : cs[j]? with
   | none => rfl
   | some c =>
     simp only [cJ];congr 1;have hcb : ∀ p ∈ aL c,N'.ν p = N.ν p := fun p hp => hvb p (by simp only [aL]; exact jY hc hp);cases c <;> simp only [je,fZ] <;> try exact Dk eX hcb
     simp only [rK,Zo (.sc i j) (by simp [bq])]
  ·simp only [rK,Zo (.s i) (by simp [bq])]
 refine ⟨N',Ha,h.putG hi eX hN1 hv (by rw [e1]; exact r) (fun p k xs hp e => ?_),fun b bA => by rw [eX]; exact hb.1 b bA,hb.2⟩;rw [Zo p hp];refine ⟨?_,fun n e => by cases e⟩;have e' := bY.1 e;cases p with
 | s j =>
   simp only [bq,decide_eq_true_eq] at hp;subst hp;simp only [at_,br,if_true,aj] at e';rw [e'] at he;exact he
 | sc j l =>
   simp only [bq,decide_eq_true_eq] at hp;subst hp;simp only [at_,br,if_true] at e';cases v <;> simp only [reduceCtorEq] at e'
   exact he l k xs e'
 | c b j => simp [bq] at hp
theorem dV.fresh (h : eW X φ w N s Ha t) (hb : (∀ b,b < base -> N.β b = B b) /\ base <= s.H.length) {k n : Nat} {xs : List AV} (ho : pX Ha (some n) k xs) (hf : ∀ q,(aC s q).isSome -> N.ν q ≠ some n) (hx : ∀ b,(aH s.H b).isSome -> N.β b ≠ n) (r : bN (Rd X φ w) φ (.sl k n 0 xs.length) v') :
  dV X φ w B base s (.own k xs) t v' := by
 refine ⟨⟨N,Ha,h,hb⟩,trivial,fun i hi => ?_⟩
 obtain ⟨N',eX,hN1,Zo⟩ : ∃ N' : Names,N'.β = N.β /\ (∀ p,bq i p = false -> N'.ν p = N.ν p) /\ N'.ν (.s i) = some n := ⟨⟨N.β,fun p => if p = .s i then some n else N.ν p⟩,rfl,fun p hp => by
  have : p ≠ .s i := by rintro rfl; simp [bq] at hp
  simp [this],by simp⟩
 have only : ∀ p,bq i p = true -> (aC ⟨Am.put s.env i (.own k xs),s.H⟩ p).isSome -> p = .s i := by
  intro p hp e;cases p with
  | s j => simp only [bq,decide_eq_true_eq] at hp; rw [hp]
  | sc j l =>
    simp only [bq,decide_eq_true_eq] at hp;subst hp;unfold aC at e;simp [at_,br] at e
  | c b j => simp [bq] at hp
 refine ⟨N',Ha,h.putG hi eX hN1 trivial (by simp only [jS,je,rK,Zo]; exact r) (fun p k' ys hp e => ?_),fun b bA => by rw [eX]; exact hb.1 b bA,hb.2⟩;have tT := only p hp (by rw [e]; rfl);subst tT;have e' := bY.1 e;simp only [at_,br,if_true,aj,AV.own.injEq] at e';obtain ⟨rfl,rfl⟩ := e';rw [Zo];refine ⟨ho,fun m hm => ?_⟩;cases hm;exact ⟨hf,hx,fun q hq e _ => only q hq e⟩
theorem eW.m6 {φ' : de} {w' : World} {Ha' : Heap} (h : eW X φ w N s Ha t) (a : fB φ w φ' w') (hh : b6 X φ' w' Ha') (ho : ∀ p k xs,aC s p = some (k,xs) -> pX Ha' (N.ν p) k xs) (hb : ∀ b,(aH s.H b).isSome -> aH Ha' (N.β b) = aH Ha (N.β b)) : eW X φ' w' N s Ha' t :=
 ⟨fun i => a.rep (h.env i),h.GO,hh,ho,fun b cs e => by
  obtain ⟨as,g1,g2,g3⟩ := h.box b cs e;exact ⟨as,by rw [hb b (by rw [e]; rfl)]; exact g1,g2,g3⟩,h.inj,h.bx,h.bi⟩
theorem pX.same {H H' : Heap} {o : Option Nat} {k : Nat} {xs : List AV} (h : pX H o k xs) (hb : ∀ n,o = some n -> aH H' n = aH H n) : pX H' o k xs := by
 cases o with
 | none => exact h
 | some n =>
   obtain ⟨cs,h1,h2⟩ := h;exact ⟨cs,by rw [hb n rfl]; exact h1,h2⟩
theorem pX.lt {H : Heap} {n k : Nat} {xs : List AV} (h : pX H (some n) k xs) : n < H.length := by
 obtain ⟨cs,h1,_⟩ := h;exact dZ h1
theorem eW.gU (h : eW X φ w N s Ha t) {p : Rt} (hp : (aC s p).isSome) {n : Nat} (hn : N.ν p = some n) : n < Ha.length := by
 obtain ⟨⟨k,xs⟩,e⟩ := aW.1 hp;have := h.own p k xs e;rw [hn] at this;exact this.lt
theorem eW.qB (h : eW X φ w N s Ha t) {b : Nat} (hb : (aH s.H b).isSome) : N.β b < Ha.length := by
 obtain ⟨cs,e⟩ := aW.1 hb;obtain ⟨as,g1,_⟩ := h.box b cs e;exact dZ g1
theorem eW.push {φ' : de} {w' : World} {cs : List AV} (h : eW X φ w N s Ha t) (a : fB φ w φ' w') (hh : b6 X φ' w' (Ha ++ [some cs])) : eW X φ' w' N s (Ha ++ [some cs]) t := by
 refine h.m6 a hh (fun p k xs e => ?_) (fun b hb => ?_)
 ·refine (h.own p k xs e).same fun n hn => ?_;rw [jy,if_neg];have := h.gU (by rw [e]; rfl) hn;omega
 ·rw [jy,if_neg];have := h.qB hb;omega
theorem Ge (H : Heap) (cs : List AV) : aH (H ++ [some cs]) H.length = some cs := by rw [jy,if_pos rfl]
end
end Go.Bm

/- Operations that make blocks and boxes. -/
namespace Go.Bm
open Go.Am
mutual
theorem Ar {N N' : Names} {o : Rt -> Option (Nat × List AV)} {nb : Nat} (eX : ∀ b,b < nb -> N'.β b = N.β b) (k9 : ∀ p,(o p).isSome -> N'.ν p = N.ν p) : ∀ x,cr o nb x -> ct N' x = ct N x
 | .dp k p a l,h => by simp only [cr] at h; obtain ⟨xs,e,_⟩ := h; simp only [ct,k9 p (by rw [e]; rfl)]
 | .eK k p a l,h => by simp only [cr] at h; obtain ⟨xs,e,_⟩ := h; simp only [ct,k9 p (by rw [e]; rfl)]
 | .ptr b off,h => by simp only [cr] at h; simp only [ct,eX b h]
 | .agg cs,h => by simp only [cr] at h; simp only [ct,oS eX k9 cs h]
 | .dW cs,h => by simp only [cr] at h; simp only [ct,oS eX k9 cs h]
 | .func f a b,h => by simp only [cr] at h; simp only [ct,oS eX k9 a h.1,oS eX k9 b h.2]
 | .any,_ => rfl
 | .undef,_ => rfl
 | .fi,_ => rfl
 | .eV,_ => rfl
 | .dc,_ => rfl
 | .int _ _,_ => rfl
 | .bool _,_ => rfl
 | .str _,_ => rfl
 | .list _ _,_ => rfl
 | .cX _,_ => rfl
 | .own _ _,_ => rfl
 | .sl _ b _ _,h => by simp only [cr] at h; simp only [ct,eX b h]
theorem oS {N N' : Names} {o : Rt -> Option (Nat × List AV)} {nb : Nat} (eX : ∀ b,b < nb -> N'.β b = N.β b) (k9 : ∀ p,(o p).isSome -> N'.ν p = N.ν p) : ∀ cs,jK o nb cs -> kq N' cs = kq N cs
 | [],_ => rfl
 | x :: r,h => by simp only [kq,Ar eX k9 x h.1,oS eX k9 r h.2]
end
theorem w9 {N N' : Names} {o : Rt -> Option (Nat × List AV)} {nb : Nat} (eX : ∀ b,b < nb -> N'.β b = N.β b) (k9 : ∀ p,(o p).isSome -> N'.ν p = N.ν p) {r : Rt} {x : AV} (hr : ∀ k xs,x = .own k xs -> N'.ν r = N.ν r) (h : cr o nb x) : je N' r x = je N r x := by
 cases x <;> simp only [je] <;> first | exact Ar eX k9 _ h | skip
 rename_i k xs;simp only [rK,hr k xs rfl]
theorem Dl {N N' : Names} {o : Rt -> Option (Nat × List AV)} {nb : Nat} (eX : ∀ b,b < nb -> N'.β b = N.β b) (k9 : ∀ p,(o p).isSome -> N'.ν p = N.ν p) {i : Nat} {x : AV} (h1 : N'.ν (.s i) = N.ν (.s i)) (h2 : ∀ j,N'.ν (.sc i j) = N.ν (.sc i j)) (h : cr o nb x) : jS N' i x = jS N i x := by
 by_cases ha : ∃ cs,x = .agg cs
 ·obtain ⟨cs,rfl⟩ := ha;simp only [jS];congr 1;apply cY;intro j;rw [fH,fH];simp only [fD];cases hc : cs[j]? with
  | none => rfl
  | some c =>
    simp only [cJ];simp only [cr] at h;rw [w9 eX k9 (fun _ _ _ => h2 j) (hJ.1 h j c hc)]
 ·have hn : jr x := fun cs e => ha ⟨cs,e⟩;have e1 : jS N' i x = je N' (.s i) x := by cases x <;> first | rfl | exact absurd rfl (hn _)
  have e2 : jS N i x = je N (.s i) x := by cases x <;> first | rfl | exact absurd rfl (hn _)
  rw [e1,e2];exact w9 eX k9 (fun _ _ _ => h1) h
mutual
theorem kG (N : Names) : ∀ x,pl x = true -> ct N x = x
 | .agg cs,h => by simp only [pl] at h; simp only [ct,Dh N cs h]
 | .dW cs,h => by simp only [pl] at h; simp only [ct,Dh N cs h]
 | .func f a b,h => by simp only [pl,ab] at h; simp only [ct,Dh N a h.1,Dh N b h.2]
 | .any,_ => rfl
 | .undef,_ => rfl
 | .fi,_ => rfl
 | .eV,_ => rfl
 | .dc,_ => rfl
 | .int _ _,_ => rfl
 | .bool _,_ => rfl
 | .str _,_ => rfl
 | .list _ _,_ => rfl
 | .cX _,_ => rfl
 | .own _ _,h => by simp [pl] at h
 | .dp _ _ _ _,h => by simp [pl] at h
 | .eK _ _ _ _,h => by simp [pl] at h
 | .ptr _ _,h => by simp [pl] at h
 | .sl _ _ _ _,h => by simp [pl] at h
theorem Dh (N : Names) : ∀ cs,j5 cs = true -> kq N cs = cs
 | [],_ => rfl
 | x :: r,h => by simp only [j5,ab] at h; simp only [kq,kG N x h.1,Dh N r h.2]
end
theorem Sy (N : Names) {c : AV} (h : fz (gI c) = true) (he : ∀ k xs,c = .own k xs -> xs = []) : Le (gI c) (fZ N c) := by
 cases c <;> simp only [gI] at h ⊢ <;> first
  | (have := (lu h).1
     simp only [fZ];rw [kG N _ this];exact Le.refl _)
  | skip
 rename_i k xs;have := he k xs rfl;subst this;exact Le.gI k
section
variable {P : Program} {X : Nat -> Prop} {φ φ' : de} {w w' : World} {N N' : Names} {s s1 : St} {Ha : Heap} {t : Nat -> Value} {B : Nat -> Nat} {base : Nat} {v : AV} {v' : Value} {c : dN} {o : Oper} {a : Act}
theorem eW.Pn {zs as : List AV} (h : eW X φ w N s Ha t) (ad : fB φ w φ' w') (hh : b6 X φ' w' (Ha ++ [some as])) (hz : jK (aC s) s.H.length zs) (he : Tu zs) (has : as = gD N zs) :
  ∃ N',(∀ b,b < s.H.length -> N'.β b = N.β b) /\ N'.β s.H.length = Ha.length /\ eW X φ' w' N' ⟨s.env,s.H ++ [some zs]⟩ (Ha ++ [some as]) t := by
 have h1 := h.push ad hh
 obtain ⟨N',eX,XJ,hN1,Zo⟩ : ∃ N' : Names,(∀ b,b < s.H.length -> N'.β b = N.β b) /\ N'.β s.H.length = Ha.length /\ (∀ p,(∀ j,p ≠ .c s.H.length j) -> N'.ν p = N.ν p) /\ ∀ j,N'.ν (.c s.H.length j) = none :=
  ⟨⟨fun b => if b = s.H.length then Ha.length else N.β b,fun p => match p with
   | .c b j => if b = s.H.length then none else N.ν (.c b j)
   | p => N.ν p⟩,fun b hb => by simp; omega,by simp,fun p hp => by
     cases p with
     | s i => rfl
     | sc i j => rfl
     | c b j =>
       have : b ≠ s.H.length := fun e => hp j (by rw [e]);simp [this],fun j => by simp⟩
 have atq : ∀ q,(∀ j,q ≠ .c s.H.length j) -> at_ ⟨s.env,s.H ++ [some zs]⟩ q = at_ s q := by
  intro q hq;cases q with
  | s i => rfl
  | sc i j => rfl
  | c b j =>
    have : b ≠ s.H.length := fun e => hq j (by rw [e]);simp only [at_,jy,if_neg this]
 have atn : ∀ j,at_ ⟨s.env,s.H ++ [some zs]⟩ (.c s.H.length j) = zs[j]? := fun j => by simp only [at_,jy,if_true]
 have Ic : ∀ {q},(aC s q).isSome -> ∀ j,q ≠ .c s.H.length j := by
  rintro q hq j rfl;unfold aC at hq
  have : aH s.H s.H.length = none := by
   cases e : aH s.H s.H.length with
   | none => rfl
   | some cs => have := dZ e; omega
  simp [at_,this] at hq
 have mono : ∀ p,(aC s p).isSome -> aC ⟨s.env,s.H ++ [some zs]⟩ p = aC s p := fun p hp => iy (atq p (Ic hp));have k9 : ∀ p,(aC s p).isSome -> N'.ν p = N.ν p := fun p hp => hN1 p (Ic hp);have hlen : s.H.length <= (s.H ++ [some zs]).length := by simp
 have aci : ∀ {q k xs},aC ⟨s.env,s.H ++ [some zs]⟩ q = some (k,xs) -> (aC s q = some (k,xs)) \/ ((∃ j,q = .c s.H.length j) /\ xs = []) := by
  intro q k xs e;by_cases hq : ∃ j,q = .c s.H.length j
  ·obtain ⟨j,rfl⟩ := hq;have e' := bY.1 e;rw [atn] at e';exact .inr ⟨⟨j,rfl⟩,he j k xs e'⟩
  ·rw [iy (atq q fun j e => hq ⟨j,e⟩)] at e;exact .inl e
 have Dr : ∀ {q n},(aC ⟨s.env,s.H ++ [some zs]⟩ q).isSome -> N'.ν q = some n -> (aC s q).isSome /\ N.ν q = some n := by
  intro q n hq hn;obtain ⟨⟨k,xs⟩,e⟩ := aW.1 hq;rcases aci e with e1 | ⟨⟨j,rfl⟩,_⟩
  ·have : (aC s q).isSome := by rw [e1]; rfl
   exact ⟨this,by rw [<- k9 q this]; exact hn⟩
  ·rw [Zo] at hn; cases hn
 have bold : ∀ {b},(aH (s.H ++ [some zs]) b).isSome -> (b < s.H.length /\ (aH s.H b).isSome) \/ b = s.H.length := by
  intro b hb;rw [jy] at hb;by_cases e : b = s.H.length
  ·exact .inr e
  ·rw [if_neg e] at hb;obtain ⟨cs,e2⟩ := aW.1 hb;exact .inl ⟨dZ e2,hb⟩
 refine ⟨N',eX,XJ,⟨fun i => ?_,fun i => kN mono hlen _ (h1.GO i),hh,fun p k xs e => ?_,fun b cs e => ?_,fun p q n e1 e2 e3 e4 => ?_,fun b p e1 e2 e3 => ?_,fun b d e1 e2 e3 => ?_⟩⟩
 ·rw [Dl eX k9 (hN1 _ (fun j e => by cases e)) (fun l => hN1 _ (fun j e => by cases e)) (h1.GO i)];exact h1.env i
 ·rcases aci e with e1 | ⟨⟨j,rfl⟩,rfl⟩
  ·rw [k9 p (by rw [e1]; rfl)]; exact h1.own p k xs e1
  ·rw [Zo]; rfl
 ·by_cases hb : b = s.H.length
  ·subst hb;simp only [jy,if_true,aj] at e;subst e;refine ⟨as,by rw [XJ]; exact Ge _ _,by rw [has,iw],fun j x hx => ⟨kN mono hlen x (hJ.1 hz j x hx),fZ N x,by rw [has,m8,hx]; rfl,?_⟩⟩;have hxk := hJ.1 hz j x hx;cases x <;> simp only [je,fZ] <;> try (rw [Ar eX k9 _ hxk]; exact Le.refl _)
   simp only [rK,Zo];exact Le.refl _
  ·simp only [jy,if_neg hb] at e;obtain ⟨as',g1,g2,g3⟩ := h1.box b cs e;refine ⟨as',by rw [eX b (dZ e)]; exact g1,g2,fun j x hx => ?_⟩;obtain ⟨k1,a',k2,k3⟩ := g3 j x hx;refine ⟨kN mono hlen x k1,a',k2,?_⟩;rw [w9 eX k9 (fun _ _ _ => hN1 _ (fun l e => by cases e; exact hb rfl)) k1];exact k3
 ·obtain ⟨p1,p2⟩ := Dr e1 e3;obtain ⟨q1,q2⟩ := Dr e2 e4;exact h1.inj p q n p1 q1 p2 q2
 ·obtain ⟨p1,p2⟩ := Dr e2 e3;rcases bold e1 with ⟨b1,b2⟩ | b1
  ·rw [eX b b1] at p2; exact h1.bx b p b2 p1 p2
  ·subst b1;rw [XJ] at p2;have := h.gU p1 p2;omega
 ·rcases bold e1 with ⟨b1,b2⟩ | b1 <;> rcases bold e2 with ⟨d1,d2⟩ | d1
  ·rw [eX b b1,eX d d1] at e3; exact h1.bi b d b2 d2 e3
  ·subst d1; rw [eX b b1,XJ] at e3; have := h.qB b2; omega
  ·subst b1; rw [eX d d1,XJ] at e3; have := h.qB d2; omega
  ·rw [b1,d1]
def tm (a : Act) : Nat -> Value := fun i => a.tmps.getD i undef
def kY (P : Program) (X : Nat -> Prop) (φ : de) (w : World) (B : Nat -> Nat) (base : Nat) (s1 : St) (v : AV) (o : Oper) (a : Act) : Prop :=
 ∀ (K : Act -> World -> Prop) (Q : Exit -> Act -> World -> Prop),(∀ v' w' φ',dV X φ' w' B base s1 v (tm a) v' -> fB φ w φ' w' -> K (a.put o.dst v') w') -> o.wp P a w K Q
theorem kY.ghost (ad : fB φ w φ' w) (h : kY P X φ' w B base s1 v o a) : kY P X φ w B base s1 v o a := fun K Q hK => h K Q fun v' w' nH hp k => hK v' w' nH hp (ad.trans k)
theorem kY.of {va : AV} {Ha' : Heap} (h : Ok P X φ w o a va Ha') (hp : ∀ v' w' φ',bN (Rd X φ' w') φ' va v' -> b6 X φ' w' Ha' -> fB φ w φ' w' -> dV X φ' w' B base s1 v (tm a) v') : kY P X φ w B base s1 v o a :=
 fun K Q hK => h K Q fun v' w' φ' r hh ad => hK v' w' φ' (hp v' w' φ' r hh ad) ad
def gZ (c : dN) : Am.dN := ⟨fun _ => none,c.gl,fun _ => none⟩
theorem aef (hm : P.follows .mixedOrders = true) (c : dN) : Am.Od P (gZ c) := ⟨hm,fun f m q h => by cases h⟩
def noC : Nat -> List AV -> Heap -> Option (AV × Heap) := fun _ _ _ => none
theorem YJ (c : dN) : Am.Bx P (gZ c) noC := fun f m q h => by cases h
end
end Go.Bm

/- Operations that read, and that make blocks and boxes: from the model. -/
namespace Go.Bm
open Go.Am
theorem jF : ∀ (a b : List AV),aE (a ++ b) = aE a ++ aE b
 | [],b => rfl
 | x :: r,b => by simp [aE,jF r b]
theorem Ny (k : Nat) : ∀ (n : Nat) (ys : List AV),n * k <= ys.length -> aE (Oq k n ys) = ys.take (n * k)
 | 0,ys,_ => by simp [Oq,aE]
 | n + 1,ys,h => by
   have h' : n * k + k <= ys.length := by rw [bV] at h; omega
   simp only [Oq,aE,rU];rw [Ny k n (ys.drop k) (by rw [cB]; omega),bV,Nat.one_mul,Nat.add_comm,List.take_add]
theorem Nx (e : AV) : ∀ n,aE (cK n e) = rep e.cells n
 | 0 => rfl
 | n + 1 => by simp [List.replicate_succ,aE,rep,Nx e n]
theorem yu (f : AV -> AV) (zs : List AV) : ∀ n,rep (zs.map f) n = (rep zs n).map f
 | 0 => rfl
 | n + 1 => by simp [rep,yu f zs n]
theorem Jn (zs : List AV) : ∀ n,(rep zs n).length = n * zs.length
 | 0 => by simp [rep]
 | n + 1 => by simp [rep,Jn zs n,bV]; omega
theorem vD {zs : List AV} {x : AV} : ∀ {n : Nat},x ∈ rep zs n -> x ∈ zs
 | 0,h => by simp [rep] at h
 | n + 1,h => by
   simp only [rep,aD] at h;rcases h with h | h
   ·exact h
   ·exact vD h
theorem mZ : ∀ {cs : List AV},UU cs = true -> ∀ x ∈ cs,fz x = true
 | [],_,x,hx => by simp at hx
 | y :: r,h,x,hx => by
   simp only [UU,ab] at h;rcases aJ.1 hx with e | e
   ·subst e; exact h.1
   ·exact mZ h.2 x e
theorem CZ {o : Rt -> Option (Nat × List AV)} {nb : Nat} : ∀ {cs : List AV},jK o nb cs -> ∀ x ∈ cs,cr o nb x
 | [],_,x,hx => by simp at hx
 | y :: r,h,x,hx => by
   rcases aJ.1 hx with e | e
   ·subst e; exact h.1
   ·exact CZ h.2 x e
theorem xC {o : Rt -> Option (Nat × List AV)} {nb : Nat} : ∀ {cs : List AV},(∀ x ∈ cs,cr o nb x) -> jK o nb cs
 | [],_ => trivial
 | y :: r,h => ⟨h y (by simp),xC fun x hx => h x (by simp [hx])⟩
theorem I0 : ∀ {vs : List Value} {xs : List AV},pF vs xs = true -> xs.length = vs.length
 | [],[],_ => rfl
 | [],_ :: _,h => by simp [pF] at h
 | _ :: _,[],h => by simp [pF] at h
 | v :: r,x :: s,h => by simp only [pF,ab] at h; simp [I0 h.2]
theorem abD : ∀ {zs : List AV},ll (s7 zs) = true -> bm (s7 zs) = true -> ∀ z ∈ zs,fz (gI z) = true
 | [],_,_,z,hz => by simp at hz
 | x :: r,h1,h2,z,hz => by
   simp only [s7,ll,bm,ab] at h1 h2;rcases aJ.1 hz with e | e
   ·subst e;rcases dn_c (zK h1.1) with ⟨k,rfl,e⟩ | ⟨hc,e⟩
    ·rfl
    ·rw [e] at h1 h2;have Vy := h1.1;have h2' := h2.1;cases z <;> first | rfl | (simp [xJ] at Vy; done) | (simp [AV.leaf] at h2'; done)
   ·exact abD h1.2 h2.2 z e
theorem V9 {R : Addr -> Value -> Prop} {φ : de} {x : AV} {v : Value} (h : bN R φ x v) : φ = [] -> pl x = true := by
 have all : ∀ {cs : List AV} {vs : Array Value},cs.length = vs.size -> (∀ (i : Nat) (c : AV) (v : Value),cs[i]? = some c -> vs[i]? = some v -> pl c = true) -> j5 cs = true := by
  intro cs
  induction cs with
  | nil => intro vs _ _; rfl
  | cons x r ih =>
    intro vs hl h;simp only [j5,ab];obtain ⟨u,hu⟩ := cP (l := vs) (i := 0) (by simp at hl; omega);refine ⟨h 0 x u rfl hu,ih (vs := vs.extract 1 vs.size) (by simp at hl ⊢; omega) fun i c v hc hv => ?_⟩;refine h (i + 1) c v (by simpa using hc) ?_;rw [Array.getElem?_extract] at hv;split at hv
    ·rwa [Nat.add_comm] at hv
    ·cases hv
 induction h with
 | agg φ cs vs hl h ih => intro e; simp only [pl]; exact all hl fun i c v h1 h2 => ih i c v h1 h2 e
 | dW φ cs vs hl h ih => intro e; simp only [pl]; exact all hl fun i c v h1 h2 => ih i c v h1 h2 e
 | func φ f as va bs vb B6 B5 ha hb XF UA => intro e; simp only [pl,ab]; exact ⟨all B6 fun i c v h1 h2 => XF i c v h1 h2 e,all B5 fun i c v h1 h2 => UA i c v h1 h2 e⟩
 | ptr φ b off a hb h => intro e; subst e; simp at hb
 | sl φ k b off len a cap hb hc h => intro e; subst e; simp at hb
 | _ => intro _; rfl
mutual
theorem wR {o : Rt -> Option (Nat × List AV)} {nb : Nat} : ∀ x,pl x = true -> cr o nb x
 | .agg cs,h => by simp only [pl] at h; exact EU cs h
 | .dW cs,h => by simp only [pl] at h; exact EU cs h
 | .func f a b,h => by simp only [pl,ab] at h; exact ⟨EU a h.1,EU b h.2⟩
 | .any,_ => trivial
 | .undef,_ => trivial
 | .fi,_ => trivial
 | .eV,_ => trivial
 | .dc,_ => trivial
 | .int _ _,_ => trivial
 | .bool _,_ => trivial
 | .str _,_ => trivial
 | .list _ _,_ => trivial
 | .cX _,_ => trivial
 | .own _ _,h => by simp [pl] at h
 | .dp _ _ _ _,h => by simp [pl] at h
 | .eK _ _ _ _,h => by simp [pl] at h
 | .ptr _ _,h => by simp [pl] at h
 | .sl _ _ _ _,h => by simp [pl] at h
theorem EU {o : Rt -> Option (Nat × List AV)} {nb : Nat} : ∀ cs,j5 cs = true -> jK o nb cs
 | [],_ => trivial
 | x :: r,h => by simp only [j5,ab] at h; exact ⟨wR x h.1,EU r h.2⟩
end
theorem xN : ∀ {ds : List AV},bw ds = false -> ∀ (j k : Nat) (xs : List AV),ds[j]? ≠ some (.own k xs)
 | [],_,j,k,xs,e => by simp at e
 | y :: r,h,j,k,xs,e => by
   cases j with
   | zero => simp at e; subst e; simp [bw] at h
   | succ j => exact xN (ds := r) (by cases y <;> simp [bw] at h <;> exact h) j k xs (by simpa using e)
theorem mR {x : AV} (h : bI x = false) : EO x := by
 cases x <;> simp only [EO] <;> try (simp [bI] at h; done)
 exact fun j k xs e => absurd e (xN h j k xs)
theorem We {ag : Option Nat} {xs ys : List AV} {x : AV} (h : AE ag xs = some x) (hl : xs.length <= ys.length) (hle : ∀ (i : Nat) (a b : AV),xs[i]? = some a -> ys[i]? = some b -> Le a b) : ∃ y,AE ag ys = some y /\ Le x y := by
 unfold AE at h ⊢;cases ag with
 | some k =>
   simp only at h ⊢;split at h
   case isFalse => cases h
   rename_i hk;simp at h;subst h;rw [if_pos (by omega)];refine ⟨_,rfl,Le.agg (by simp; omega) fun i a b ha hb => ?_⟩;rw [bF] at ha hb;split at ha
   ·rename_i hi;rw [if_pos hi] at hb;exact hle i a b ha hb
   ·cases ha
 | none =>
   simp only at h ⊢;cases xs with
   | nil => cases h
   | cons a r =>
     simp at h;subst h;cases ys with
     | nil => simp at hl
     | cons b r' => exact ⟨b,rfl,hle 0 a b rfl rfl⟩
section
variable {P : Program} {X : Nat -> Prop} {φ φ' : de} {w w' : World} {N N' : Names} {s s1 : St} {Ha Ha' : Heap} {t : Nat -> Value} {B : Nat -> Nat} {base : Nat} {v va : AV} {v' : Value} {c : dN} {o : Oper} {a : Act} {kd : Kd}
theorem NB {t : TypeId} {k : Nat} {zs : List AV} (h1 : ir P t k = true) (h2 : gJ P t zs = true) : zs.length = k /\ ll zs = true /\ bm zs = true := by
 obtain ⟨e,i,z,hu,hi,vS,hk0,hby,Nh,Oj⟩ := iA h1;unfold gJ at h2;rw [hu] at h2;simp only at h2;refine ⟨?_,(qI h2).1,(qI h2).2⟩;unfold nI at h2;rw [hi] at h2;simp only [Nh,ab] at h2;have := I0 h2.1;rw [this];simpa using Oj
theorem lx (hm : P.follows .mixedOrders = true) (h : eW X φ w N s Ha (tm a)) (hg : Am.dL (gZ c) X φ w) (hk : cG P o.op kd = true) {fl : Fp} (hs : fG (gZ c) noC (x8 N s.env) Ha kd = some (va,Ha',fl)) : Ok P X φ w o a va Ha' :=
 aeB (aef hm c) (YJ c) (fun i => by rw [kT]; exact h.env i) hg h.heap hk hs
theorem R8 (hm : P.follows .mixedOrders = true) (h : SB X φ w B base s (tm a)) (hg : Am.dL (gZ c) X φ w) (hk : cG P o.op (kU kd) = true) (hs : Pb c s.env kd = some v) : kY P X φ w B base s v o a := by
 obtain ⟨N,Ha,h,hb⟩ := h;obtain ⟨h1,h2,h3⟩ := ac4 (cA := gZ c) (call := noC) h rfl hk hs;refine kY.of (lx hm h hg hk h1) fun v' w' φ' r hh ad => ?_;exact dV.quiet (h.m6 ad hh h.own (fun _ _ => rfl)) hb h2 h3 r
theorem Pc (hm : P.follows .mixedOrders = true) (h : SB X φ w B base s (tm a)) (hg : Am.dL (gZ c) X φ w) {zs : List AV} (hk : cG P o.op (kU (.new zs)) = true) : kY P X φ w B base ⟨s.env,s.H ++ [some zs]⟩ (.ptr s.H.length 0) o a := by
 obtain ⟨N,Ha,h,hb,hl⟩ := h;obtain ⟨t,ht⟩ := aa0 hk;obtain ⟨e1,e2⟩ := z7 N (qI ht).1;refine kY.of (lx hm h hg hk (by simp only [kU,fG]; rfl)) fun v' w' φ' r hh ad => ?_;obtain ⟨N',n1,n2,h'⟩ := h.Pn ad hh (zr (qI ht).1) e2 e1;refine dV.quiet h' ⟨fun b bA => by rw [n1 b (by omega)]; exact hb b bA,by simp; omega⟩ (by simp [cr]) trivial ?_;simp only [vv,ct,n2];exact r
theorem aah (hm : P.follows .mixedOrders = true) (h : SB X φ w B base s (tm a)) (hg : Am.dL (gZ c) X φ w) {x : E} (hk : cG P o.op (kU (.box x)) = true) (vR : bm (bn c s.env x).cells = true) : kY P X φ w B base ⟨s.env,s.H ++ [some (bn c s.env x).cells]⟩ (.ptr s.H.length 0) o a := by
 obtain ⟨N,Ha,h,hb,hl⟩ := h;obtain ⟨o',ho⟩ := abd hk;have hx := cn (c := c) (cA := gZ c) h rfl ho;have hc := F7 N hx.na;refine kY.of (lx hm h hg hk (by simp only [kU,fG,hx.ev,hc,tf h vR (uB hx.ok),if_true]; rfl)) fun v' w' φ' r hh ad => ?_;obtain ⟨N',n1,n2,h'⟩ := h.Pn ad hh (uB hx.ok) hx.Tu rfl;refine dV.quiet h' ⟨fun b bA => by rw [n1 b (by omega)]; exact hb b bA,by simp; omega⟩ (by simp [cr]) trivial ?_;simp only [vv,ct,n2];exact r
theorem zS (h : eW X φ w N s Ha t) (hb : (∀ b,b < base -> N.β b = B b) /\ base <= s.H.length) (ad : fB φ w φ' w') {cs : List AV} (hh : b6 X φ' w' (Ha ++ [some cs])) {k : Nat} {xs : List AV} (hlen : xs.length * k <= cs.length) (hk : ∀ x ∈ xs,x.cells.length = k)
  (hc : ∀ (i : Nat) (d : AV),(aE xs)[i]? = some d -> fz d = true /\ ∃ e,cs[i]? = some e /\ e.leaf = true /\ Le d e) (r : bN (Rd X φ' w') φ' (.sl k Ha.length 0 xs.length) v') : dV X φ' w' B base s (.own k xs) t v' := by
 refine dV.fresh (h.push ad hh) hb (n := Ha.length) ⟨cs,Ge _ _,hlen,hk,hc⟩ (fun q hq e => ?_) (fun b hb e => ?_) r
 ·have := h.gU hq e; omega
 ·have := h.qB hb; omega
theorem Pf (hm : P.follows .mixedOrders = true) (h : SB X φ w B base s (tm a)) (hg : Am.dL (gZ c) X φ w) {k n : Nat} {zs cs : List AV} {ps : List (Nat × Nat × E)} (hk : cG P o.op (kU (.dh k n zs ps)) = true) (hf : n8 c s.env (rep zs n) ps = some cs) (hz : UU (cs.map gI) = true) :
  kY P X φ w B base s (.own k (Oq k n (cs.map gI))) o a := by
 obtain ⟨N,Ha,h,hb⟩ := h;obtain ⟨⟨t,ht1,ht2⟩,hq⟩ := P7 hk;obtain ⟨z1,z2,z3⟩ := NB ht1 ht2;obtain ⟨e1,e2⟩ := z7 N z2;have Fu : rep (s7 zs) n = gD N (rep zs n) := by rw [e1,qK,qK,yu]
 have Cv : zs.length = k := by rw [<- z1,e1,iw]
 have hzok : jK (aC s) s.H.length (rep zs n) := xC fun x hx => CZ (zr z2) x (vD hx)
 have hzeo : Tu (rep zs n) := fun j k' xs hj => by
  obtain ⟨i,hi⟩ := bD (vD (bf hj));exact e2 i k' xs hi
 obtain ⟨f1,f2,f3,f4⟩ := qh (cA := gZ c) h rfl hq hzok hzeo hf;have PJ : cs.length = n * k := by rw [f4,Jn,Cv]
 have vR : bm cs = true := by
  have : ∀ {l : List AV},(∀ x ∈ l,x.leaf = true) -> bm l = true := by
   intro l
   induction l with
   | nil => intro _; rfl
   | cons y r ih => intro h; simp only [bm,ab]; exact ⟨h y (by simp),ih fun x hx => h x (by simp [hx])⟩
  refine this fun x hx => ?_;have := (lu (mZ hz (gI x) (oO hx))).2;cases x <;> first | exact this | rfl
 have aeO : ∀ x ∈ cs,x.leaf = true := fun x hx => by
  have := (lu (mZ hz (gI x) (oO hx))).2;cases x <;> first | exact this | rfl
 refine kY.of (lx hm h hg hk (by simp only [kU,fG,Fu,f1,tf h vR f2,if_true]; rfl)) fun v' w' φ' r hh ad => ?_;obtain ⟨g1,g2⟩ := Fy k n (cs.map gI) (by simp [PJ]);refine zS h hb ad hh (by rw [g1,iw,PJ]; omega) (fun x hx => ?_) (fun i d hd => ?_) (by rw [g1]; exact r)
 ·obtain ⟨i,hi⟩ := bD hx;obtain ⟨q1,q2⟩ := g2 i x hi;rw [q1,bg,cB,nF,PJ];have : (i + 1) * k <= n * k := bG k q2;rw [bV] at this;omega
 ·rw [Ny k n _ (by simp [PJ]),<- PJ,show (cs.map gI).take cs.length = cs.map gI from List.take_of_length_le (by simp),df] at hd;cases hc : cs[i]? with
  | none => rw [hc] at hd; cases hd
  | some x =>
    rw [hc] at hd;simp at hd;subst hd;have CB := mZ hz (gI x) (oO (bf hc));exact ⟨CB,fZ N x,by rw [m8,hc]; rfl,JN h (aeO x (bf hc)) (CZ f2 x (bf hc)),Sy N CB (fun k xs e => f3 i k xs (by rw [hc,e]))⟩
theorem aad (hm : P.follows .mixedOrders = true) (h : SB X φ w B base s (tm a)) (hg : Am.dL (gZ c) X φ w) {k : Nat} {zs : List AV} {x y : E} {k1 k2 : IntKind} {l cp : Int} (hk : cG P o.op (kU (.MA k zs x y)) = true) (hx : bn c s.env x = .int k1 l) (hy : bn c s.env y = .int k2 cp) (hc : 0 <= l /\ l <= cp /\ cp <= (lz : Int)) :
  kY P X φ w B base s (.own k (cK l.toNat (el (zs.map gI)))) o a := by
 obtain ⟨N,Ha,h,hb⟩ := h;obtain ⟨⟨t,ht1,ht2⟩,⟨o1,h1⟩,o2,h2⟩ := Te hk;obtain ⟨z1,z2,z3⟩ := NB ht1 ht2;obtain ⟨e1,e2⟩ := z7 N z2;have Cv : zs.length = k := by rw [<- z1,e1,iw]
 have GR := (cn (c := c) (cA := gZ c) h rfl h1).int hx;have Iz := (cn (c := c) (cA := gZ c) h rfl h2).int hy;refine kY.of (lx hm h hg hk (by simp only [kU,fG,GR,Iz,if_pos hc]; rfl)) fun v' w' φ' r hh ad => ?_;refine zS h hb ad hh (by rw [dM,Jn,z1]; omega) (fun u hu => ?_) (fun i d hd => ?_) (by rw [dM]; exact r)
 ·rw [List.eq_of_mem_replicate hu,rU,nF,Cv]
 ·rw [Nx,rU,yu,df] at hd;cases Vx : (rep zs l.toNat)[i]? with
  | none => rw [Vx] at hd; cases hd
  | some z =>
    rw [Vx] at hd;simp at hd;subst hd;have XW := vD (bf Vx);obtain ⟨j,hj⟩ := bD XW;have heo : ∀ k xs,z = .own k xs -> xs = [] := fun k xs e => e2 j k xs (by rw [hj,e]);have CB : fz (gI z) = true := abD z2 z3 z XW
    have vR : (fZ N z).leaf = true := by
     have UK : fZ N z ∈ s7 zs := by rw [e1,qK]; exact oO XW
     have : ∀ {l : List AV},bm l = true -> ∀ x ∈ l,x.leaf = true := by
      intro l
      induction l with
      | nil => intro _ x hx; simp at hx
      | cons y r ih =>
        intro q x hx;simp only [bm,ab] at q;rcases aJ.1 hx with e | e
        ·subst e; exact q.1
        ·exact ih q.2 x e
     exact this z3 _ UK
    exact ⟨CB,fZ N z,by rw [e1]; rw [qK,yu,df,Vx]; rfl,vR,Sy N CB heo⟩
theorem abm {zs z : List AV} (h : Ve zs = some z) : s7 zs = [.dc] /\ ∃ k,z = [.own k []] := by
 unfold Ve at h;split at h
 case h_2 => cases h
 rename_i k;split at h
 case isFalse => cases h
 simp at h;exact ⟨rfl,_,h.symm⟩
theorem aac (hm : P.follows .mixedOrders = true) (h : SB X φ w B base s (tm a)) (hg : Am.dL (gZ c) X φ w) {k : Nat} {zs z : List AV} {x y : E} {k1 k2 : IntKind} {l cp : Int} (hk : cG P o.op (kU (.MA k zs x y)) = true) (hz : Ve zs = some z) (hx : bn c s.env x = .int k1 l) (hy : bn c s.env y = .int k2 cp) (hc : 0 <= l /\ l <= cp /\ cp <= (lz : Int)) :
  kY P X φ w B base ⟨s.env,s.H ++ [some (rep z l.toNat)]⟩ (.sl k s.H.length 0 l.toNat) o a := by
 obtain ⟨N,Ha,h,hb,hl⟩ := h;obtain ⟨_,⟨o1,h1⟩,o2,h2⟩ := Te hk;obtain ⟨e1,k',rfl⟩ := abm hz;have GR := (cn (c := c) (cA := gZ c) h rfl h1).int hx;have Iz := (cn (c := c) (cA := gZ c) h rfl h2).int hy;refine kY.of (lx hm h hg hk (by simp only [kU,fG,GR,Iz,if_pos hc]; rfl)) fun v' w' φ' r hh ad => ?_
 obtain ⟨N',n1,n2,h'⟩ := h.Pn (zs := rep [.own k' []] l.toNat) ad hh (xC fun u hu => by
  have := vD hu;simp at this;subst this;exact trivial) (fun j kk xs hj => by
  have := vD (bf hj);simp at this;exact this.2) (by rw [e1,qK,<- yu]; rfl)
 refine dV.quiet h' ⟨fun b bA => by rw [n1 b (by omega)]; exact hb b bA,by simp; omega⟩ (by simp [cr]) trivial ?_;simp only [vv,ct,n2];exact r
theorem acg (h : eW X φ w N s Ha (tm a)) (hg : Am.dL (gZ c) X φ w) {ag : Option Nat} {x : E} {ps : List Rt} {o' : Operand} (ho : cN o' (kV x) = true) (hs : xy s ag (bn c s.env x) = some (v,ps)) :
  ∃ va fl,fG (gZ c) noC (x8 N s.env) Ha (kU (.ld ag x)) = some (va,Ha,fl) /\ Le (vv N v) va /\ cr (aC s) s.H.length v /\ EO v := by
 have hx := cn (c := c) (cA := gZ c) h rfl ho;have cO := hx.ok
 have fin : ∀ {va : AV} {fl : Fp},fG (gZ c) noC (x8 N s.env) Ha (kU (.ld ag x)) = some (va,Ha,fl) -> Le (vv N v) va -> cr (aC s) s.H.length v -> EO v -> ∃ va fl,fG (gZ c) noC (x8 N s.env) Ha (kU (.ld ag x)) = some (va,Ha,fl) /\ Le (vv N v) va /\ cr (aC s) s.H.length v /\ EO v :=
  fun e hle h2 h3 => ⟨_,_,e,hle,h2,h3⟩
 have rdn : ∀ {cs : List AV},Jp ag cs = some v -> AE ag cs = some v /\ bI v = false := by
  intro cs hu;unfold Jp at hu;split at hu
  case h_2 => cases hu
  rename_i u' hr;split at hu
  ·cases hu
  rename_i gY;simp at hu gY;subst hu;exact ⟨hr,gY⟩
 have plrd : ∀ {cs : List AV},AE ag cs = some v -> (∀ x ∈ cs,pl x = true) -> pl v = true := by
  intro cs hr hp;unfold AE at hr;cases ag with
  | some k =>
    simp only at hr;split at hr
    case isFalse => cases hr
    simp at hr;subst hr;simp only [pl]
    have : ∀ {l : List AV},(∀ x ∈ l,pl x = true) -> j5 l = true := by
     intro l
     induction l with
     | nil => intro _; rfl
     | cons y r ih => intro h; simp only [j5,ab]; exact ⟨h y (by simp),ih fun x hx => h x (by simp [hx])⟩
    exact this fun x hx => hp x (cH hx)
  | none =>
    simp only at hr;cases cs with
    | nil => cases hr
    | cons y r => simp at hr; subst hr; exact hp y (by simp)
 unfold xy at hs;cases e : bn c s.env x <;> rw [e] at hs cO <;> try (simp at hs; done)
 ·rename_i cs;simp only at hs;split at hs
  case h_2 => cases hs
  rename_i u hu;simp at hs;obtain ⟨rfl,rfl⟩ := hs;obtain ⟨hr,gY⟩ := rdn hu;have r := bM (c := gZ c) (env := x8 N s.env) (a := a) (fun i => by rw [kT]; exact h.env i) hg ho;rw [hx.ev,e] at r;simp only [fZ,ct] at r
  have pR : ∀ y ∈ cs,pl y = true := by
   intro y hy;obtain ⟨j,hj⟩ := bD hy;generalize a.eval o' = z at r;cases r with
   | cX _ _ _ u hu h => exact V9 (h j y hj) rfl
  have hv := plrd hr pR;refine fin (va := u) (by simp only [kU,fG,hx.ev,e,fZ,ct,hr]; rfl) ?_ (wR _ hv) (mR gY);rw [kH N gY,kG N _ hv];exact Le.refl _
 ·rename_i b off;simp only at hs;split at hs
  case h_2 => cases hs
  rename_i cs dv;split at hs
  case h_2 => cases hs
  rename_i u hu;simp at hs;obtain ⟨rfl,rfl⟩ := hs;obtain ⟨hr,gY⟩ := rdn hu;obtain ⟨as,g1,g2,g3⟩ := h.box b cs dv
  have hokL : jK (aC s) s.H.length (fh (.c b) 0 cs) := by
   refine hJ.2 fun j d hd => ?_;rw [AY] at hd;cases hc : cs[j]? with
   | none => rw [hc] at hd; cases hd
   | some d0 =>
     rw [hc] at hd;simp only [cJ,aj,fD] at hd;subst hd;split
     ·rename_i k xs;simp only [cr];exact ⟨xs,bY.2 (by rw [vd dv]; exact hc),by omega⟩
     ·exact (g3 j _ hc).1
  obtain ⟨r1,r2,r3,_⟩ := OT N hu (zw (n := off) hokL);rw [<- Dm,Dj] at r1
  obtain ⟨va,q1,q2⟩ := We (ys := as.drop off) r1 (by simp [gR]; omega) (fun i x y hx hy => by
   rw [aV,fH] at hx;rw [aV] at hy;simp only [fD] at hx;cases hc : cs[off + i]? with
   | none => rw [hc] at hx; cases hx
   | some d =>
     rw [hc] at hx;simp at hx;subst hx;obtain ⟨_,a',a1,a2⟩ := g3 _ d hc;rw [a1] at hy;cases hy;exact a2)
  exact fin (va := va) (by simp only [kU,fG,hx.ev,e,fZ,ct,g1,q1]; rfl) q2 r2 r3
 ·rename_i k p i off;simp only at hs;split at hs
  case h_2 => cases hs
  rename_i k' xs hp;split at hs
  case isFalse => cases hs
  rename_i sx;subst sx;split at hs
  case h_2 => cases hs
  rename_i el' hel;split at hs
  case h_2 => cases hs
  rename_i u hu;simp at hs;obtain ⟨rfl,rfl⟩ := hs;obtain ⟨hr,gY⟩ := rdn hu;obtain ⟨n,hn,e2⟩ := EK h cO;have fA := h.own p k' xs hp;rw [hn] at fA;obtain ⟨cs,c1,c2,c3,c4⟩ := fA;have kz : ∀ (j : Nat) (d : AV),el'.cells[j]? = some d -> fz d = true /\ ∃ a,cs[i * k' + j]? = some a /\ Le d a := fun j d hd => let ⟨f1,a,f2,_,f3⟩ := c4 _ d (zT c3 hel hd); ⟨f1,a,f2,f3⟩
  have pR : ∀ y ∈ el'.cells.drop off,pl y = true := by
   intro y hy;obtain ⟨j,hj⟩ := bD (cI hy);exact (lu (kz j y hj).1).1
  have hv := plrd hr pR;have ae9 : el'.cells.length = k' := c3 el' (bf hel);have hi : (i + 1) * k' <= xs.length * k' := bG k' (aB hel);rw [bV] at hi
  obtain ⟨va,q1,q2⟩ := We (ys := cs.drop (i * k' + off)) hr (by simp; omega) (fun j x y hx hy => by
   rw [aV] at hx hy;obtain ⟨_,a',a1,a2⟩ := kz _ x hx;rw [show i * k' + (off + j) = i * k' + off + j by omega] at a1;rw [a1] at hy;cases hy;exact a2)
  refine fin (va := va) (by simp only [kU,fG,hx.ev,e,fZ,e2,c1,q1]; rfl) ?_ (wR _ hv) (mR gY);rw [kH N gY,kG N _ hv];exact q2
theorem adk (hm : P.follows .mixedOrders = true) (h : SB X φ w B base s (tm a)) (hg : Am.dL (gZ c) X φ w) {ag : Option Nat} {x : E} {ps : List Rt} (hk : cG P o.op (kU (.ld ag x)) = true) (hs : xy s ag (bn c s.env x) = some (v,ps)) : kY P X φ w B base s v o a := by
 obtain ⟨N,Ha,h,hb⟩ := h;obtain ⟨o',ho⟩ := ad5 hk;obtain ⟨va,fl,e,hle,h2,h3⟩ := acg h hg ho hs;refine kY.of (lx hm h hg hk e) fun v' w' φ' r hh ad => ?_;exact dV.quiet (h.m6 ad hh h.own (fun _ _ => rfl)) hb h2 h3 (hle _ _ _ r)
end
end Go.Bm
