/- The machine by value: what a state stands for. -/
import Derived.Test.YtmoginoicilobaaGreatDoorBmA
/- How a state by value stands for a state of the older machine. -/
set_option linter.unusedSimpArgs false
open Bool renaming and_eq_true → aa, or_eq_false_iff → eM
open List renaming ext_getElem? → dA, getElem?_append_left → ak, getElem?_append_right → aN, getElem?_drop → aS, getElem?_eq_none → dz, getElem?_map → cU, getElem?_of_mem → bA, getElem?_set → bn, getElem?_set_ne → c9, getElem?_take → bB, length_drop → dK, length_map → iM, length_replicate → dT, length_take → bu, mem_append → aD, mem_cons → aX, mem_map_of_mem → po, mem_of_getElem? → aW, mem_of_mem_drop → cQ, mem_of_mem_take → cP, mem_singleton → cq, replicate → aM
open Nat renaming add_assoc → TT, add_mul → bX, le_refl → ba, mul_le_mul_right → bG, zero_add → dL, zero_mul → q8
open Ne renaming symm → oV
open Option renaming isSome_iff_exists → aU, map_some → cT
open Option.some renaming inj → bU, injEq → ai
open Prod.mk renaming injEq → aF
namespace Go.Bm
open Go.Am

structure Names where
 β : Nat -> Nat
 ν : Rt -> Option Nat

mutual
def cF (N : Names) : AV -> AV
 | .c8 k p off len => match N.ν p with
   | some n => .sl k n (off * k) len
   | none => .dn
 | .ez k p i off => match N.ν p with
   | some n => .ptr n (i * k + off)
   | none => .any
 | .ptr b off => .ptr (N.β b) off
 | .agg cs => .agg (k8 N cs)
 | .dp cs => .dp (k8 N cs)
 | .func f a b => .func f (k8 N a) (k8 N b)
 | .own _ _ => .any
 | .sl k b off len => .sl k (N.β b) off len
 | .any => .any | .undef => .undef | .eP => .eP | .eT => .eT | .dn => .dn
 | .int k n => .int k n | .bool b => .bool b | .str s => .str s
 | .list k xs => .list k xs | .dh cs => .dh cs
def k8 (N : Names) : List AV -> List AV
 | [] => []
 | x :: r => cF N x :: k8 N r
end
def qP (N : Names) (p : Rt) (k len : Nat) : AV :=
 match N.ν p with
 | some n => .sl k n 0 len
 | none => .dn
def jR (N : Names) (p : Rt) : AV -> AV
 | .own k xs => qP N p k xs.length
 | v => cF N v
def Ov (N : Names) (f : Nat -> Rt) : Nat -> List AV -> List AV
 | _,[] => []
 | j,x :: r => jR N (f j) x :: Ov N f (j + 1) r
def kJ (N : Names) (i : Nat) : AV -> AV
 | .agg cs => .agg (Ov N (.sc i) 0 cs)
 | v => jR N (.s i) v
def yF (N : Names) : Env -> Env
 | [] => []
 | (i,v) :: r => (i,kJ N i v) :: yF N r

def Le (x y : AV) : Prop := ∀ R φ v,bR R φ y v -> bR R φ x v
theorem Le.refl (x : AV) : Le x x := fun _ _ _ h => h
theorem Le.trans {x y z : AV} (h : Le x y) (k : Le y z) : Le x z := fun R φ v r => h R φ v (k R φ v r)
theorem Le.any (y : AV) : Le .any y := fun _ _ _ _ => .any _ _
theorem Le.agg {xs ys : List AV} (hl : xs.length = ys.length) (h : ∀ (i : Nat) (x y : AV),xs[i]? = some x -> ys[i]? = some y -> Le x y) : Le (.agg xs) (.agg ys) := by
 intro R φ v r;cases r with
 | agg _ _ vs IV h2 =>
   refine .agg _ _ _ (hl.trans IV) fun i c u hc hu => ?_;obtain ⟨y,hy⟩ := bg (l := ys) (i := i) (by have := aq hc; omega);exact h i c y hc hy _ _ _ (h2 i y u hy hu)
theorem Le.iP (k : Nat) : Le (.list k []) .dn := by
 intro R φ v r;cases r with
 | dn => exact .kL _ _

mutual
def cD (o : Rt -> Option (Nat × List AV)) (nb : Nat) : AV -> Prop
 | .c8 k p off len => ∃ xs,o p = some (k,xs) /\ off + len <= xs.length
 | .ez k p i _ => ∃ xs,o p = some (k,xs) /\ i < xs.length
 | .ptr b _ => b < nb
 | .agg cs => kF o nb cs
 | .dp cs => kF o nb cs
 | .func _ a b => kF o nb a /\ kF o nb b
 | .sl _ b _ _ => b < nb
 | _ => True
def kF (o : Rt -> Option (Nat × List AV)) (nb : Nat) : List AV -> Prop
 | [] => True
 | x :: r => cD o nb x /\ kF o nb r
end
theorem iY {o : Rt -> Option (Nat × List AV)} {nb : Nat} : ∀ {cs : List AV},kF o nb cs ↔ ∀ (i : Nat) (c : AV),cs[i]? = some c -> cD o nb c
 | [] => by simp [kF]
 | x :: r => by
   simp only [kF,iY (cs := r)];constructor
   ·rintro ⟨h1,h2⟩ i c hc;cases i with
    | zero => simp at hc; exact hc ▸ h1
    | succ i => exact h2 i c (by simpa using hc)
   ·intro h;exact ⟨h 0 x rfl,fun i c hc => h (i + 1) c (by simpa using hc)⟩

def p7 (H : Heap) (o : Option Nat) (k : Nat) (xs : List AV) : Prop :=
 match o with
 | none => xs = []
 | some n => ∃ cs,aJ H n = some cs /\ xs.length * k <= cs.length /\ (∀ x ∈ xs,x.cells.length = k) /\ ∀ (i : Nat) (c : AV),(aG xs)[i]? = some c -> fz c = true /\ ∃ a,cs[i]? = some a /\ a.leaf = true /\ Le c a

structure eF (X : Nat -> Prop) (φ : dq) (w : World) (N : Names) (s : St) (Ha : Heap) (t : Nat -> Value) : Prop where
 env : ∀ i,bR (Rd X φ w) φ (kJ N i (get s.env i)) (t i)
 Hd : ∀ i,cD (av s) s.H.length (get s.env i)
 heap : b8 X φ w Ha
 own : ∀ p k xs,av s p = some (k,xs) -> p7 Ha (N.ν p) k xs
 box : ∀ b cs,aJ s.H b = some cs -> ∃ as,aJ Ha (N.β b) = some as /\ as.length = cs.length /\ ∀ (j : Nat) (c : AV),cs[j]? = some c -> cD (av s) s.H.length c /\ ∃ a,as[j]? = some a /\ Le (jR N (.c b j) c) a
 inj : ∀ p q n,(av s p).isSome -> (av s q).isSome -> N.ν p = some n -> N.ν q = some n -> p = q
 bx : ∀ b p,(aJ s.H b).isSome -> (av s p).isSome -> N.ν p ≠ some (N.β b)
 bi : ∀ b c,(aJ s.H b).isSome -> (aJ s.H c).isSome -> N.β b = N.β c -> b = c

/-! Lists and places -/
theorem v8 (N : Names) : ∀ (cs : List AV) (i : Nat),(k8 N cs)[i]? = (cs[i]?).map (cF N)
 | [],i => by simp [k8]
 | x :: r,i => by cases i <;> simp [k8,v8 N r]
theorem dO (N : Names) : ∀ cs : List AV,(k8 N cs).length = cs.length
 | [] => rfl
 | x :: r => by simp [k8,dO N r]
theorem fg (N : Names) (f : Nat -> Rt) : ∀ (cs : List AV) (j i : Nat),(Ov N f j cs)[i]? = (cs[i]?).map (jR N (f (j + i)))
 | [],j,i => by simp [Ov]
 | x :: r,j,i => by
   cases i with
   | zero => simp [Ov]
   | succ i => simp only [Ov,List.getElem?_cons_succ,fg N f r]; rw [show j + 1 + i = j + (i + 1) by omega]
theorem iN (N : Names) (f : Nat -> Rt) : ∀ (cs : List AV) (j : Nat),(Ov N f j cs).length = cs.length
 | [],j => rfl
 | x :: r,j => by simp [Ov,iN N f r]
theorem dU (g : AV -> AV) : ∀ (cs : List AV) (i : Nat),(cV g cs)[i]? = (cs[i]?).map (cn g)
 | [],i => by simp [cV]
 | x :: r,i => by cases i <;> simp [cV,dU g r]
theorem b6 (g : AV -> AV) : ∀ cs : List AV,(cV g cs).length = cs.length
 | [] => rfl
 | x :: r => by simp [cV,b6 g r]
theorem mz (N : Names) : ∀ (e : Env) (i : Nat),get (yF N e) i = kJ N i (get e i)
 | [],i => rfl
 | (j,u) :: r,i => by
   simp only [yF,Am.get];split
   ·rename_i h; rw [h]
   ·exact mz N r i
theorem de (g : AV -> AV) : ∀ (e : Env) (i : Nat),get (kf g e) i = cn g (get e i)
 | [],i => rfl
 | (j,u) :: r,i => by
   simp only [kf,Am.get];split
   ·rfl
   ·exact de g r i
theorem FA (g : AV -> AV) : ∀ (H : Heap) (b : Nat),(fL g H)[b]? = (H[b]?).map (Option.map (cV g))
 | [],b => by simp [fL]
 | none :: r,b => by cases b <;> simp [fL,FA g r]
 | some cs :: r,b => by cases b <;> simp [fL,FA g r]
theorem fA (g : AV -> AV) : ∀ H : Heap,(fL g H).length = H.length
 | [] => rfl
 | none :: r => by simp [fL,fA g r]
 | some cs :: r => by simp [fL,fA g r]
theorem eV (g : AV -> AV) (H : Heap) (b : Nat) : aJ (fL g H) b = (aJ H b).map (cV g) := by
 unfold aJ;rw [FA];cases H[b]? with
 | none => rfl
 | some o => cases o <;> rfl
theorem sX {H : Heap} {b : Nat} {cs : List AV} : aJ H b = some cs ↔ H[b]? = some (some cs) := by
 constructor
 ·exact vK
 ·intro h; unfold aJ; rw [h]
theorem dY {H : Heap} {b : Nat} {cs : List AV} (h : aJ H b = some cs) : b < H.length := aq (vK h)
theorem dD (H : Heap) (b c : Nat) (x : List AV) : aJ (H.set b (some x)) c = if c = b /\ b < H.length then some x else aJ H c := by
 unfold aJ;rw [bn];by_cases h : b = c
 ·subst h;by_cases hl : b < H.length
  ·simp [hl]
  ·simp [hl,dz (Nat.le_of_not_lt hl)]
 ·simp [h,oV h]
theorem ka (H : Heap) (x : List AV) (c : Nat) : aJ (H ++ [some x]) c = if c = H.length then some x else aJ H c := by
 unfold aJ;by_cases h : c < H.length
 ·rw [ak h,if_neg (by omega)]
 ·rw [aN (by omega)];by_cases h2 : c = H.length
  ·subst h2; simp
  ·rw [if_neg h2,dz (l := H) (by omega),dz (by simp; omega)]

def jX (x : AV) : Prop := ∀ cs,x ≠ .agg cs
def NOwn (x : AV) : Prop := ∀ k xs,x ≠ .own k xs
def kc (g : AV -> AV) : Prop := ∀ k p o l,(jX (g (.c8 k p o l)) /\ NOwn (g (.c8 k p o l))) /\ (jX (g (.ez k p o l)) /\ NOwn (g (.ez k p o l)))
theorem vk {g : AV -> AV} (hg : kc g) (x : AV) (k : Nat) (xs : List AV) : cn g x = .own k xs ↔ x = .own k xs := by
 cases x <;> simp [cn]
 ·exact (hg _ _ _ _).1.2 _ _
 ·exact (hg _ _ _ _).2.2 _ _
theorem MP {g : AV -> AV} (hg : kc g) (x : AV) (cs : List AV) : cn g x = .agg cs ↔ ∃ ds,x = .agg ds /\ cV g ds = cs := by
 cases x <;> simp [cn]
 ·exact (hg _ _ _ _).1.1 _
 ·exact (hg _ _ _ _).2.1 _
theorem lg {g : AV -> AV} (hg : kc g) {x : AV} (h : jX x) : jX (cn g x) := by
 intro cs e;obtain ⟨ds,rfl,_⟩ := (MP hg x cs).1 e;exact h _ rfl
theorem jM {g : AV -> AV} (hg : kc g) (s : St) (p : Rt) : at_ (bY g s) p = (at_ s p).map (cn g) := by
 cases p with
 | s i => simp [at_,bY,de]
 | sc i j =>
   simp only [at_,bY,de];generalize get s.env i = x;split
   ·rename_i cs h;obtain ⟨ds,rfl,rfl⟩ := (MP hg x cs).1 h;simp [dU]
   ·rename_i h;split
    ·rename_i ds;exact absurd rfl (h (cV g ds))
    ·rfl
 | c b j =>
   simp only [at_,bY,eV];cases aJ s.H b with
   | none => rfl
   | some cs => simp [dU]
theorem bZ {s : St} {p : Rt} {k : Nat} {xs : List AV} : av s p = some (k,xs) ↔ at_ s p = some (.own k xs) := by
 unfold av;split
 ·rename_i k' xs' h;rw [h];simp
 ·rename_i h;constructor
  ·intro h'; cases h'
  ·intro h'; exact absurd h' (h k xs)
theorem ji {g : AV -> AV} (hg : kc g) (s : St) (p : Rt) : av (bY g s) p = av s p := by
 cases h : av s p with
 | none =>
   cases h2 : av (bY g s) p with
   | none => rfl
   | some y =>
     obtain ⟨k,xs⟩ := y;rw [bZ,jM hg] at h2;cases hx : at_ s p with
     | none => rw [hx] at h2; cases h2
     | some x =>
       rw [hx] at h2;simp only [cT,ai] at h2;rw [vk hg] at h2;subst h2;rw [bZ.2 hx] at h;cases h
 | some y =>
   obtain ⟨k,xs⟩ := y;rw [bZ] at h ⊢;rw [jM hg,h];rfl

structure Shape (s s' : St) : Prop where
 agg : ∀ i cs,get s.env i = .agg cs -> ∃ ds,get s'.env i = .agg ds /\ ds.length = cs.length
 Pn : ∀ i,jX (get s.env i) -> jX (get s'.env i)
 len : s'.H.length = s.H.length
 box : ∀ b cs,aJ s.H b = some cs -> ∃ ds,aJ s'.H b = some ds /\ ds.length = cs.length
 CY : ∀ b,aJ s.H b = none -> aJ s'.H b = none
theorem Shape.refl (s : St) : Shape s s := ⟨fun _ cs h => ⟨cs,h,rfl⟩,fun _ h => h,rfl,fun _ cs h => ⟨cs,h,rfl⟩,fun _ h => h⟩
theorem Shape.trans {s s' s'' : St} (h : Shape s s') (k : Shape s' s'') : Shape s s'' :=
 ⟨fun i cs hc => let ⟨ds,h1,h2⟩ := h.agg i cs hc; let ⟨es,h3,h4⟩ := k.agg i ds h1; ⟨es,h3,h4.trans h2⟩,fun i hi => k.Pn i (h.Pn i hi),k.len.trans h.len,
  fun b cs hc => let ⟨ds,h1,h2⟩ := h.box b cs hc; let ⟨es,h3,h4⟩ := k.box b ds h1; ⟨es,h3,h4.trans h2⟩,fun b hb => k.CY b (h.CY b hb)⟩
theorem Shape.map {g : AV -> AV} (hg : kc g) (s : St) : Shape s (bY g s) where
 agg i cs h := ⟨cV g cs,by simp [bY,de,h,cn],b6 g cs⟩
 Pn i h := by simp only [bY,de]; exact lg hg h
 len := fA g s.H
 box b cs h := ⟨cV g cs,by simp [bY,eV,h],b6 g cs⟩
 CY b h := by simp [bY,eV,h]
def Lf (s : St) (r : Rt) : Prop := ∀ i,r = .s i -> jX (get s.env i)
def Fits (s : St) (p : Rt) (v : AV) : Prop := jX v /\ ∃ x,at_ s p = some x /\ jX x
theorem Shape.set {s : St} {p : Rt} {v : AV} (h : Fits s p v) : Shape s (setAt s p v) := by
 obtain ⟨hv,x,hx,hn⟩ := h;cases p with
 | s i =>
   simp only [at_,ai] at hx;refine ⟨fun j cs hc => ?_,fun j hj => ?_,rfl,fun b cs hc => ⟨cs,hc,rfl⟩,fun b hb => hb⟩
   ·simp only [setAt,bw];by_cases zW : j = i
    ·subst zW; rw [hx] at hc; exact absurd hc (hn cs)
    ·rw [if_neg zW]; exact ⟨cs,hc,rfl⟩
   ·simp only [setAt,bw];by_cases zW : j = i
    ·rw [if_pos zW]; exact hv
    ·rw [if_neg zW]; exact hj
 | sc i l =>
   simp only [at_] at hx;cases hg : get s.env i <;> rw [hg] at hx <;> simp at hx
   rename_i ds;have hs : setAt s (.sc i l) v = ⟨put s.env i (.agg (ds.set l v)),s.H⟩ := by simp [setAt,hg]
   rw [hs];refine ⟨fun j cs hc => ?_,fun j hj => ?_,rfl,fun b cs hc => ⟨cs,hc,rfl⟩,fun b hb => hb⟩
   ·simp only [bw];by_cases zW : j = i
    ·subst zW; rw [hg] at hc; cases hc; exact ⟨_,if_pos rfl,by simp⟩
    ·rw [if_neg zW]; exact ⟨cs,hc,rfl⟩
   ·simp only [bw];by_cases zW : j = i
    ·subst zW; exact absurd hg (hj ds)
    ·rw [if_neg zW]; exact hj
 | c b l =>
   simp only [at_] at hx;cases hg : aJ s.H b <;> rw [hg] at hx <;> simp at hx
   rename_i ds;have hs : setAt s (.c b l) v = ⟨s.env,s.H.set b (some (ds.set l v))⟩ := by simp [setAt,hg]
   rw [hs];refine ⟨fun j cs hc => ⟨cs,hc,rfl⟩,fun j hj => hj,by simp,fun d cs hc => ?_,fun d hd => ?_⟩
   ·rw [dD];by_cases hdb : d = b
    ·subst hdb; rw [hg] at hc; cases hc; exact ⟨_,if_pos ⟨rfl,dY hg⟩,by simp⟩
    ·rw [if_neg (fun h => hdb h.1)]; exact ⟨cs,hc,rfl⟩
   ·rw [dD];by_cases hdb : d = b
    ·subst hdb; rw [hg] at hd; cases hd
    ·rw [if_neg (fun h => hdb h.1)]; exact hd
theorem BD {s : St} {p : Rt} {v : AV} (h : Fits s p v) {r : Rt} (hr : Lf s r) : at_ (setAt s p v) r = if r = p then some v else at_ s r := by
 obtain ⟨hv,x,hx,hn⟩ := h;cases p with
 | s i =>
   simp only [at_,ai] at hx;cases r with
   | s j => simp only [at_,setAt,bw]; by_cases zW : j = i <;> simp [zW]
   | sc j l =>
     simp only [at_,setAt,bw];by_cases zW : j = i
     ·subst zW;simp only [if_true,hx,reduceCtorEq,if_false];cases v <;> first | (exact absurd rfl (hv _)) | (cases x <;> first | (exact absurd rfl (hn _)) | rfl)
     ·simp [zW]
   | c b l => simp [at_,setAt]
 | sc i l =>
   simp only [at_] at hx;cases hg : get s.env i <;> rw [hg] at hx <;> simp at hx
   rename_i ds;have hs : setAt s (.sc i l) v = ⟨put s.env i (.agg (ds.set l v)),s.H⟩ := by simp [setAt,hg]
   rw [hs];cases r with
   | s j =>
     simp only [at_,bw,reduceCtorEq,if_false];by_cases zW : j = i
     ·subst zW;exact absurd hg (hr j rfl ds)
     ·simp [zW]
   | sc j m =>
     simp only [at_,bw];by_cases zW : j = i
     ·subst zW;simp only [if_true,hg,Rt.sc.injEq,true_and];rw [bn];by_cases hlm : l = m
      ·subst hlm;have := aq hx;simp [this]
      ·simp [hlm,oV hlm]
     ·simp [zW]
   | c b m => simp [at_]
 | c b l =>
   simp only [at_] at hx;cases hg : aJ s.H b <;> rw [hg] at hx <;> simp at hx
   rename_i ds;have hs : setAt s (.c b l) v = ⟨s.env,s.H.set b (some (ds.set l v))⟩ := by simp [setAt,hg]
   rw [hs];cases r with
   | s j => simp [at_]
   | sc j m => simp [at_]
   | c d m =>
     simp only [at_,dD];by_cases hdb : d = b
     ·subst hdb;simp only [dY hg,and_self,if_true,hg,Rt.c.injEq,true_and];rw [bn];by_cases hlm : l = m
      ·subst hlm;have := aq hx;simp [this]
      ·simp [hlm,oV hlm]
     ·simp [hdb]

theorem Yz {N N' : Names} {i : Nat} {x y : AV} (h1 : ∀ cs,x = .agg cs -> ∃ ds,y = .agg ds /\ ds.length = cs.length /\ ∀ (j : Nat) (c d : AV),cs[j]? = some c -> ds[j]? = some d -> Le (jR N' (.sc i j) d) (jR N (.sc i j) c))
  (h2 : jX x -> jX y /\ Le (jR N' (.s i) y) (jR N (.s i) x)) : Le (kJ N' i y) (kJ N i x) := by
 by_cases hx : ∃ cs,x = .agg cs
 ·obtain ⟨cs,rfl⟩ := hx;obtain ⟨ds,rfl,hl,h⟩ := h1 cs rfl;simp only [kJ];refine Le.agg (by simp [iN,hl]) fun j u v hu hv => ?_;rw [fg] at hu hv;simp only [dL] at hu hv;cases hd : ds[j]? with
  | none => rw [hd] at hu; cases hu
  | some d =>
    cases hc : cs[j]? with
    | none => rw [hc] at hv; cases hv
    | some c =>
      rw [hd] at hu; rw [hc] at hv;simp at hu hv;subst hu hv;exact h j c d hc hd
 ·have hn : jX x := fun cs e => hx ⟨cs,e⟩;obtain ⟨hy,hle⟩ := h2 hn;have e1 : kJ N' i y = jR N' (.s i) y := by cases y <;> first | rfl | exact absurd rfl (hy _)
  have e2 : kJ N i x = jR N (.s i) x := by cases x <;> first | rfl | exact absurd rfl (hn _)
  rw [e1,e2]; exact hle
theorem GG {s : St} {i : Nat} {cs : List AV} (h : get s.env i = .agg cs) (j : Nat) : at_ s (.sc i j) = cs[j]? := by simp [at_,h]
theorem vL {s : St} {b : Nat} {cs : List AV} (h : aJ s.H b = some cs) (j : Nat) : at_ s (.c b j) = cs[j]? := by simp [at_,h]
theorem Ff {s : St} {p : Rt} (h : (av s p).isSome) : Lf s p := by
 intro i hi cs hc;subst hi;cases ho : av s (.s i) with
 | none => rw [ho] at h; cases h
 | some y =>
   obtain ⟨k,xs⟩ := y;rw [bZ] at ho;simp [at_,hc] at ho
theorem p7.take {H : Heap} {o : Option Nat} {k m : Nat} {xs : List AV} (h : p7 H o k xs) : p7 H o k (xs.take m) := by
 cases o with
 | none => simp only [p7] at h ⊢; rw [h]; simp
 | some n =>
   simp only [p7] at h ⊢;obtain ⟨cs,h1,h2,h3,h4⟩ := h;refine ⟨cs,h1,?_,fun x hx => h3 x (cP hx),fun i c hc => ?_⟩
   ·rw [bu]; exact Nat.le_trans (bG k (Nat.min_le_right _ _)) h2
   ·refine h4 i c ?_
    have : ∀ (m : Nat) (l : List AV) (i : Nat) (c : AV),(aG (l.take m))[i]? = some c -> (aG l)[i]? = some c := by
     intro m
     induction m with
     | zero => intro l i c h; simp [aG] at h
     | succ m ih =>
       intro l i c h;cases l with
       | nil => simpa using h
       | cons y r =>
         simp only [List.take_succ_cons,aG] at h ⊢;rw [List.getElem?_append] at h ⊢;split
         ·rename_i bz; rw [if_pos bz] at h; exact h
         ·rename_i bz; rw [if_neg bz] at h; exact ih _ _ _ h
    exact this m xs i c hc
theorem Fk {o : Rt -> Option (Nat × List AV)} {nb : Nat} {s : St} (h : ∀ r y,Lf s r -> at_ s r = some y -> cD o nb y) :
  (∀ i,cD o nb (get s.env i)) /\ ∀ b cs,aJ s.H b = some cs -> ∀ (j : Nat) (c : AV),cs[j]? = some c -> cD o nb c := by
 refine ⟨fun i => ?_,fun b cs hb j c hc => h (.c b j) c (fun i e => by cases e) (by rw [vL hb]; exact hc)⟩;by_cases hx : ∃ cs,get s.env i = .agg cs
 ·obtain ⟨cs,dx⟩ := hx;rw [dx];simp only [cD];exact iY.2 fun j c hc => h (.sc i j) c (fun i e => by cases e) (by rw [GG dx]; exact hc)
 ·exact h (.s i) _ (fun j e cs hc => by cases e; exact hx ⟨cs,hc⟩) rfl
theorem eF.zC {X : Nat -> Prop} {φ : dq} {w : World} {N : Names} {s : St} {Ha : Heap} {t : Nat -> Value} (h : eF X φ w N s Ha t) {r : Rt} {x : AV} (hx : at_ s r = some x) : cD (av s) s.H.length x := by
 cases r with
 | s i => simp [at_] at hx; exact hx ▸ h.Hd i
 | sc i j =>
   simp only [at_] at hx;split at hx
   ·rename_i cs dx;have := h.Hd i;rw [dx] at this;simp only [cD] at this;exact iY.1 this j x hx
   ·cases hx
 | c b j =>
   simp only [at_] at hx;split at hx
   ·rename_i cs dx;obtain ⟨as,_,_,h3⟩ := h.box b cs dx;exact (h3 j x hx).1
   ·cases hx
theorem Shape.back {s s' : St} (h : Shape s s') {r : Rt} {y : AV} (hl : Lf s' r) (hy : at_ s' r = some y) : Lf s r /\ ∃ x,at_ s r = some x := by
 cases r with
 | s i =>
   refine ⟨fun j e cs hc => ?_,_,rfl⟩;cases e;obtain ⟨ds,h1,_⟩ := h.agg i cs hc;exact hl i rfl ds h1
 | sc i j =>
   refine ⟨(fun j e => by cases e),?_⟩;simp only [at_] at hy ⊢;split at hy
   ·rename_i ds nE;by_cases hx : ∃ cs,get s.env i = .agg cs
    ·obtain ⟨cs,dx⟩ := hx;obtain ⟨es,h1,h2⟩ := h.agg i cs dx;rw [nE] at h1; cases h1;rw [dx];exact bg (by have := aq hy; omega)
    ·exact absurd nE (h.Pn i (fun cs e => hx ⟨cs,e⟩) ds)
   ·cases hy
 | c b j =>
   refine ⟨(fun j e => by cases e),?_⟩;simp only [at_] at hy ⊢;split at hy
   ·rename_i ds nE;cases hb : aJ s.H b with
    | none => rw [h.CY b hb] at nE; cases nE
    | some cs =>
      obtain ⟨es,h1,h2⟩ := h.box b cs hb;rw [nE] at h1; cases h1;exact bg (by have := aq hy; omega)
   ·cases hy
theorem eF.change {X : Nat -> Prop} {φ : dq} {w : World} {N N' : Names} {s s' : St} {Ha : Heap} {t : Nat -> Value} (h : eF X φ w N s Ha t) (eE : N'.β = N.β) (hs : Shape s s')
  (hp : ∀ r x y,Lf s r -> at_ s r = some x -> at_ s' r = some y -> cD (av s') s'.H.length y /\ Le (jR N' r y) (jR N r x))
  (src : Rt -> Rt) (ho : ∀ p k xs,av s' p = some (k,xs) -> ∃ ys,av s (src p) = some (k,ys) /\ N'.ν p = N.ν (src p) /\ ∃ m,xs = ys.take m)
  (hi : ∀ p q,(av s' p).isSome -> (av s' q).isSome -> src p = src q -> p = q) : eF X φ w N' s' Ha t := by
 have so : ∀ {p},(av s' p).isSome -> (av s (src p)).isSome /\ N'.ν p = N.ν (src p) := by
  intro p hp;cases e : av s' p with
  | none => rw [e] at hp; cases hp
  | some y => obtain ⟨ys,h1,h2,_⟩ := ho p y.1 y.2 e; exact ⟨by rw [h1]; rfl,h2⟩
 have sb : ∀ {b},(aJ s'.H b).isSome -> (aJ s.H b).isSome := by
  intro b hb;cases e : aJ s.H b with
  | none => rw [hs.CY b e] at hb; cases hb
  | some _ => rfl
 obtain ⟨hk,hkc⟩ := Fk (o := av s') (nb := s'.H.length) (s := s') fun r y hl hy => by
  obtain ⟨hl',x,hx⟩ := hs.back hl hy;exact (hp r x y hl' hx hy).1
 refine ⟨fun i => ?_,hk,h.heap,fun p k xs e => ?_,fun b cs' e => ?_,fun p q n h1 h2 e1 e2 => ?_,fun b p h1 h2 e => ?_,fun b c h1 h2 e => ?_⟩
 ·refine Yz (fun cs dx => ?_) (fun hn => ⟨hs.Pn i hn,?_⟩) _ _ _ (h.env i)
  ·obtain ⟨ds,h1,h2⟩ := hs.agg i cs dx;refine ⟨ds,h1,h2,fun j c d hc hd => (hp (.sc i j) c d (fun i e => by cases e) ?_ ?_).2⟩
   ·rw [GG dx]; exact hc
   ·rw [GG h1]; exact hd
  ·exact (hp (.s i) _ _ (fun j e => by cases e; exact hn) rfl rfl).2
 ·obtain ⟨ys,h1,h2,m,rfl⟩ := ho p k xs e;rw [h2];exact (h.own _ _ _ h1).take
 ·cases hb : aJ s.H b with
  | none => rw [hs.CY b hb] at e; cases e
  | some cs =>
    obtain ⟨ds,h1,h2⟩ := hs.box b cs hb;rw [e] at h1; cases h1;obtain ⟨as,g1,g2,g3⟩ := h.box b cs hb;refine ⟨as,by rw [eE]; exact g1,by omega,fun j c hc => ⟨hkc b cs' e j c hc,?_⟩⟩;obtain ⟨d,hd⟩ := bg (l := cs) (i := j) (by have := aq hc; omega);obtain ⟨_,a,g4,g5⟩ := g3 j d hd;exact ⟨a,g4,(hp (.c b j) d c (fun i e => by cases e) (by rw [vL hb]; exact hd) (by rw [vL e]; exact hc)).2.trans g5⟩
 ·obtain ⟨k1,k2⟩ := so h1;obtain ⟨k3,k4⟩ := so h2;exact hi p q h1 h2 (h.inj _ _ n k1 k3 (by rw [<- k2]; exact e1) (by rw [<- k4]; exact e2))
 ·obtain ⟨k1,k2⟩ := so h2;rw [k2,eE] at e;exact h.bx b _ (sb h1) k1 e
 ·rw [eE] at e;exact h.bi b c (sb h1) (sb h2) e

mutual
theorem KK {N N' : Names} {o o' : Rt -> Option (Nat × List AV)} {nb : Nat} {g : AV -> AV} (eE : N'.β = N.β) (hg : kc g)
  (hl : ∀ k p a l,(cD o nb (.c8 k p a l) -> cD o' nb (g (.c8 k p a l)) /\ Le (cF N' (g (.c8 k p a l))) (cF N (.c8 k p a l))) /\ (cD o nb (.ez k p a l) -> cD o' nb (g (.ez k p a l)) /\ Le (cF N' (g (.ez k p a l))) (cF N (.ez k p a l)))) :
  ∀ x,cD o nb x -> cD o' nb (cn g x) /\ Le (cF N' (cn g x)) (cF N x)
 | .c8 k p a l,h => by simp only [cn]; exact (hl k p a l).1 h
 | .ez k p a l,h => by simp only [cn]; exact (hl k p a l).2 h
 | .agg cs,h => by
   simp only [cD] at h;obtain ⟨h1,h2,h3⟩ := vm eE hg hl cs h;simp only [cn,cD,cF];exact ⟨h1,Le.agg h2 h3⟩
 | .dp cs,h => by
   simp only [cD] at h;obtain ⟨h1,h2,h3⟩ := vm eE hg hl cs h;simp only [cn,cD,cF];refine ⟨h1,fun R φ v r => ?_⟩;cases r with
   | dp _ _ vs IV hh2 =>
     refine .dp _ _ _ (h2.trans IV) fun i c u hc hu => ?_;obtain ⟨y,hy⟩ := bg (l := k8 N cs) (i := i) (by have := aq hc; omega);exact h3 i c y hc hy _ _ _ (hh2 i y u hy hu)
 | .func f a b,h => by
   simp only [cD] at h;obtain ⟨h1,h2,h3⟩ := vm eE hg hl a h.1;obtain ⟨k1,k2,k3⟩ := vm eE hg hl b h.2;simp only [cn,cD,cF];refine ⟨⟨h1,k1⟩,fun R φ v r => ?_⟩;cases r with
   | func _ _ _ va _ vb CG CF ha hb =>
     refine .func _ _ _ _ _ _ (h2.trans CG) (k2.trans CF) (fun i c u hc hu => ?_) (fun i c u hc hu => ?_)
     ·obtain ⟨y,hy⟩ := bg (l := k8 N a) (i := i) (by have := aq hc; omega);exact h3 i c y hc hy _ _ _ (ha i y u hy hu)
     ·obtain ⟨y,hy⟩ := bg (l := k8 N b) (i := i) (by have := aq hc; omega);exact k3 i c y hc hy _ _ _ (hb i y u hy hu)
 | .any,h => ⟨h,Le.refl _⟩
 | .undef,h => ⟨h,Le.refl _⟩
 | .eP,h => ⟨h,Le.refl _⟩
 | .eT,h => ⟨h,Le.refl _⟩
 | .dn,h => ⟨h,Le.refl _⟩
 | .int _ _,h => ⟨h,Le.refl _⟩
 | .bool _,h => ⟨h,Le.refl _⟩
 | .str _,h => ⟨h,Le.refl _⟩
 | .list _ _,h => ⟨h,Le.refl _⟩
 | .dh _,h => ⟨h,Le.refl _⟩
 | .own _ _,h => ⟨h,Le.refl _⟩
 | .sl k b off len,h => by simp only [cn,cF,eE]; exact ⟨h,Le.refl _⟩
 | .ptr b off,h => by simp only [cn,cF,eE]; exact ⟨h,Le.refl _⟩
theorem vm {N N' : Names} {o o' : Rt -> Option (Nat × List AV)} {nb : Nat} {g : AV -> AV} (eE : N'.β = N.β) (hg : kc g)
  (hl : ∀ k p a l,(cD o nb (.c8 k p a l) -> cD o' nb (g (.c8 k p a l)) /\ Le (cF N' (g (.c8 k p a l))) (cF N (.c8 k p a l))) /\ (cD o nb (.ez k p a l) -> cD o' nb (g (.ez k p a l)) /\ Le (cF N' (g (.ez k p a l))) (cF N (.ez k p a l)))) :
  ∀ cs,kF o nb cs -> kF o' nb (cV g cs) /\ (k8 N' (cV g cs)).length = (k8 N cs).length /\ ∀ (i : Nat) (x y : AV),(k8 N' (cV g cs))[i]? = some x -> (k8 N cs)[i]? = some y -> Le x y
 | [],_ => ⟨trivial,rfl,fun i x y h => by simp [cV,k8] at h⟩
 | c :: r,h => by
   simp only [kF] at h;obtain ⟨h1,h2⟩ := KK eE hg hl c h.1;obtain ⟨k1,k2,k3⟩ := vm eE hg hl r h.2;refine ⟨⟨h1,k1⟩,by simp [cV,k8,k2],fun i x y hx hy => ?_⟩;cases i with
   | zero => simp [cV,k8] at hx hy; subst hx hy; exact h2
   | succ i => simp [cV,k8] at hx hy; exact k3 i x y hx hy
end
theorem lh {N N' : Names} {o o' : Rt -> Option (Nat × List AV)} {nb : Nat} {g : AV -> AV} (eE : N'.β = N.β) (hg : kc g)
  (hl : ∀ k p a l,(cD o nb (.c8 k p a l) -> cD o' nb (g (.c8 k p a l)) /\ Le (cF N' (g (.c8 k p a l))) (cF N (.c8 k p a l))) /\ (cD o nb (.ez k p a l) -> cD o' nb (g (.ez k p a l)) /\ Le (cF N' (g (.ez k p a l))) (cF N (.ez k p a l))))
  {r : Rt} {x : AV} (hr : ∀ k xs,x = .own k xs -> N'.ν r = N.ν r) (hx : cD o nb x) : cD o' nb (cn g x) /\ Le (jR N' r (cn g x)) (jR N r x) := by
 by_cases ho : ∃ k xs,x = .own k xs
 ·obtain ⟨k,xs,rfl⟩ := ho;simp only [cn,jR,qP,hr k xs rfl];exact ⟨trivial,Le.refl _⟩
 ·obtain ⟨h1,h2⟩ := KK eE hg hl x hx;refine ⟨h1,?_⟩
  have e1 : jR N' r (cn g x) = cF N' (cn g x) := by
   have : ∀ k xs,cn g x ≠ .own k xs := fun k xs e => ho ⟨k,xs,(vk hg x k xs).1 e⟩;generalize cn g x = y at this;cases y <;> first | rfl | exact absurd rfl (this _ _)
  have e2 : jR N r x = cF N x := by cases x <;> first | rfl | exact absurd ⟨_,_,rfl⟩ ho
  rw [e1,e2];exact h2
theorem Lf.map {g : AV -> AV} (hg : kc g) {s : St} {r : Rt} (h : Lf s r) : Lf (bY g s) r := by
 intro i hi;simp only [bY,de];exact lg hg (h i hi)
theorem FD (p : Rt) : kc (sw p) := by
 intro k q o l;simp only [sw];constructor <;> (split <;> exact ⟨(fun cs e => by cases e),(fun k xs e => by cases e)⟩)
theorem afa (p q : Rt) (n : Nat) : kc (rt p q n) := by
 intro k r o l;simp only [rt];constructor <;> (repeat' split) <;> exact ⟨(fun cs e => by cases e),(fun k xs e => by cases e)⟩
theorem afc (p : Rt) (k : Nat) (xs : List AV) : kc (fb p k xs) := by
 intro k r o l;simp only [fb];constructor <;> (repeat' split) <;> exact ⟨(fun cs e => by cases e),(fun k xs e => by cases e)⟩
theorem afb (i d : Nat) : kc (UF i d) := by
 intro k r o l;simp only [UF];exact ⟨⟨(fun cs e => by cases e),(fun k xs e => by cases e)⟩,⟨(fun cs e => by cases e),(fun k xs e => by cases e)⟩⟩
theorem Ta (i b off : Nat) : kc (du i b off) := by
 intro k r o l;simp only [du];exact ⟨⟨(fun cs e => by cases e),(fun k xs e => by cases e)⟩,⟨(fun cs e => by cases e),(fun k xs e => by cases e)⟩⟩
theorem wz : kc eC := by
 intro k r o l;cases r <;> exact ⟨⟨(fun cs e => by cases e),(fun k xs e => by cases e)⟩,⟨(fun cs e => by cases e),(fun k xs e => by cases e)⟩⟩
theorem yD {g : AV -> AV} (hg : kc g) {s : St} {p : Rt} {v x : AV} (hv : jX v) (hx : at_ s p = some x) (hn : jX x) {r : Rt} (hr : Lf s r) :
  at_ (setAt (bY g s) p v) r = if r = p then some v else (at_ s r).map (cn g) := by
 rw [BD ⟨hv,cn g x,by rw [jM hg,hx]; rfl,lg hg hn⟩ (hr.map hg),jM hg]
theorem qN {g : AV -> AV} (hg : kc g) {s : St} {p : Rt} {v x : AV} (hv : jX v) (hx : at_ s p = some x) (hn : jX x) : Shape s (setAt (bY g s) p v) :=
 (Shape.map hg s).trans (Shape.set ⟨hv,cn g x,by rw [jM hg,hx]; rfl,lg hg hn⟩)
theorem Kv {s s' : St} {p q : Rt} (h : at_ s' p = at_ s q) : av s' p = av s q := by unfold av; rw [h]
theorem jh {s s' : St} {p : Rt} (h : at_ s' p = at_ s p) : av s' p = av s p := by unfold av; rw [h]
theorem rL {s : St} {q : Rt} (h : ¬ Lf s q) : av s q = none := by
 cases e : av s q with
 | none => rfl
 | some y => exact absurd (Ff (by rw [e]; rfl)) h
theorem Shape.nlf {s s' : St} (h : Shape s s') {q : Rt} (hq : ¬ Lf s q) : ¬ Lf s' q := fun hl => hq fun i hi cs hc => by
 obtain ⟨ds,h1,_⟩ := h.agg i cs hc;exact hl i hi ds h1
theorem wq {s s' : St} (jV : Shape s s') {f : Rt -> Option (Nat × List AV)} (hf : ∀ q,Lf s q -> av s' q = f q) (hn : ∀ q,¬ Lf s q -> f q = none) (q : Rt) : av s' q = f q := by
 by_cases hq : Lf s q
 ·exact hf q hq
 ·rw [hn q hq,rL (jV.nlf hq)]
theorem eF.drop {X : Nat -> Prop} {φ : dq} {w : World} {N : Names} {s : St} {Ha : Heap} {t : Nat -> Value} (h : eF X φ w N s Ha t) {p : Rt} {k : Nat} {xs : List AV} (hp : av s p = some (k,xs)) :
  eF X φ w N (setAt (bY (sw p) s) p .any) Ha t /\ (∀ q,av (setAt (bY (sw p) s) p .any) q = if q = p then none else av s q) /\ Shape s (setAt (bY (sw p) s) p .any) := by
 have uc := bZ.1 hp;have hn : jX (.own k xs) := fun cs e => by cases e
 have hv : jX .any := fun cs e => by cases e
 have jV := qN (FD p) hv uc hn;have key : ∀ {r},Lf s r -> at_ (setAt (bY (sw p) s) p .any) r = if r = p then some .any else (at_ s r).map (cn (sw p)) := fun hr => yD (FD p) hv uc hn hr
 have own : ∀ q,av (setAt (bY (sw p) s) p .any) q = if q = p then none else av s q := by
  refine wq jV (fun q hq => ?_) (fun q hq => ?_)
  ·have e := key hq;by_cases nS : q = p
   ·subst nS; rw [if_pos rfl] at e ⊢; unfold av; rw [e]
   ·rw [if_neg nS] at e ⊢;rw [<- ji (FD p) s q];exact jh (by rw [e,jM (FD p)])
  ·split
   ·rfl
   ·exact rL hq
 refine ⟨h.change rfl jV (fun r x y hl hx hy => ?_) id (fun q k' ys e => ?_) (fun q r _ _ e => e),own,jV⟩
 ·rw [key hl] at hy;by_cases C3 : r = p
  ·rw [if_pos C3] at hy;cases hy;exact ⟨trivial,Le.any _⟩
  ·rw [if_neg C3,hx] at hy;simp at hy;subst hy;have := lh (N := N) (N' := N) (o := av s) (o' := av (setAt (bY (sw p) s) p .any)) (nb := s.H.length) rfl (FD p) (fun k q a l => ?_) (r := r) (x := x) (fun _ _ _ => rfl) (h.zC hx)
   ·rw [jV.len]; exact this
   ·simp only [sw];refine ⟨fun ho => ?_,fun ho => ?_⟩
    ·split
     ·exact ⟨trivial,Le.any _⟩
     ·rename_i nS;simp only [cD,own,if_neg nS] at ho ⊢;exact ⟨ho,Le.refl _⟩
    ·split
     ·exact ⟨trivial,Le.any _⟩
     ·rename_i nS;simp only [cD,own,if_neg nS] at ho ⊢;exact ⟨ho,Le.refl _⟩
 ·rw [own] at e;split at e
  ·cases e
  ·exact ⟨ys,e,rfl,ys.length,by simp⟩
theorem eF.give {X : Nat -> Prop} {φ : dq} {w : World} {N : Names} {s : St} {Ha : Heap} {t : Nat -> Value} (h : eF X φ w N s Ha t) {p q : Rt} {k k' len : Nat} {xs : List AV} (hp : av s p = some (k,xs)) (hq : at_ s q = some (.c8 k' p 0 len)) :
  ∃ N',N'.β = N.β /\ eF X φ w N' (setAt (setAt (bY (rt p q len) s) p .any) q (.own k (xs.take len))) Ha t /\ (∀ r,av (setAt (setAt (bY (rt p q len) s) p .any) q (.own k (xs.take len))) r = if r = q then some (k,xs.take len) else if r = p then none else av s r) /\
   Shape s (setAt (setAt (bY (rt p q len) s) p .any) q (.own k (xs.take len))) := by
 have c6 := h.zC hq;simp only [cD,hp,ai,aF] at c6;obtain ⟨_,⟨rfl,rfl⟩,hle⟩ := c6;have uc := bZ.1 hp;have hn : jX (.own k xs) := fun cs e => by cases e
 have hv : jX .any := fun cs e => by cases e
 have nS : q ≠ p := by rintro rfl; rw [uc] at hq; cases hq
 have qn : av s q = none := by unfold av; rw [hq]
 have hg := afa p q len;have key1 : ∀ {r},Lf s r -> at_ (setAt (bY (rt p q len) s) p .any) r = if r = p then some .any else (at_ s r).map (cn (rt p q len)) := fun hr => yD hg hv uc hn hr;have hsh1 : Shape s (setAt (bY (rt p q len) s) p .any) := qN hg hv uc hn;have hlq : Lf s q := fun i hi cs hc => by subst hi; simp [at_,hc] at hq
 have VJ : at_ (setAt (bY (rt p q len) s) p .any) q = some (cn (rt p q len) (.c8 k p 0 len)) := by rw [key1 hlq,if_neg nS,hq]; rfl
 have YY : jX (cn (rt p q len) (.c8 k p 0 len)) := lg hg fun cs e => by cases e
 have hv1 : jX (.own k (xs.take len)) := fun cs e => by cases e
 have hsh2 : Shape s (setAt (setAt (bY (rt p q len) s) p .any) q (.own k (xs.take len))) := hsh1.trans (Shape.set ⟨hv1,_,VJ,YY⟩);have lf1 : ∀ {r},Lf s r -> Lf (setAt (bY (rt p q len) s) p .any) r := fun hr i hi => hsh1.Pn i (hr i hi)
 have key : ∀ {r},Lf s r -> at_ (setAt (setAt (bY (rt p q len) s) p .any) q (.own k (xs.take len))) r = if r = q then some (.own k (xs.take len)) else if r = p then some .any else (at_ s r).map (cn (rt p q len)) := by
  intro r hr;rw [BD ⟨hv1,_,VJ,YY⟩ (lf1 hr),key1 hr]
 have own : ∀ r,av (setAt (setAt (bY (rt p q len) s) p .any) q (.own k (xs.take len))) r = if r = q then some (k,xs.take len) else if r = p then none else av s r := by
  refine wq hsh2 (fun r hr => ?_) (fun r hr => ?_)
  ·have e := key hr;by_cases h1 : r = q
   ·rw [if_pos h1] at e ⊢; exact bZ.2 e
   ·rw [if_neg h1] at e ⊢;by_cases h2 : r = p
    ·rw [if_pos h2] at e ⊢; unfold av; rw [e]
    ·rw [if_neg h2] at e ⊢;rw [<- ji hg s r];exact jh (by rw [e,jM hg])
  ·rw [if_neg (by rintro rfl; exact hr hlq)];split
   ·rfl
   ·exact rL hr
 refine ⟨⟨N.β,fun r => if r = q then N.ν p else N.ν r⟩,rfl,h.change rfl hsh2 (fun r x y hl hx hy => ?_) (fun r => if r = q then p else r) (fun r k' ys e => ?_) (fun r1 r2 e1 e2 e => ?_),own,hsh2⟩
 ·rw [key hl] at hy;by_cases h1 : r = q
  ·rw [if_pos h1] at hy;subst h1;rw [hq] at hx;cases hx;cases hy;refine ⟨trivial,?_⟩;have hlen : (xs.take len).length = len := by rw [bu]; omega
   simp only [jR,cF,qP,if_true,hlen,q8];exact Le.refl _
  ·rw [if_neg h1] at hy;by_cases h2 : r = p
   ·rw [if_pos h2] at hy;cases hy;exact ⟨trivial,Le.any _⟩
   ·rw [if_neg h2,hx] at hy;simp at hy;subst hy;have := lh (N := N) (N' := ⟨N.β,fun r => if r = q then N.ν p else N.ν r⟩) (o := av s) (o' := av (setAt (setAt (bY (rt p q len) s) p .any) q (.own k (xs.take len)))) (nb := s.H.length) rfl hg (fun kk r' a l => ?_) (r := r) (x := x) (fun _ _ _ => by simp [h1]) (h.zC hx)
    ·rw [hsh2.len]; exact this
    ·simp only [rt];refine ⟨fun ho => ?_,fun ho => ?_⟩
     ·split
      ·rename_i C3;subst C3;split
       ·rename_i hal;simp only [cD,hp,ai,aF] at ho;obtain ⟨_,⟨rfl,rfl⟩,_⟩ := ho;refine ⟨?_,?_⟩
        ·simp only [cD,own,if_true];exact ⟨_,rfl,by rw [bu]; omega⟩
        ·simp only [cF,if_true]; exact Le.refl _
       ·exact ⟨trivial,Le.any _⟩
      ·rename_i C3;simp only [cD] at ho ⊢;obtain ⟨zs,hz,hz2⟩ := ho;have hrq : r' ≠ q := by rintro rfl; rw [qn] at hz; cases hz
       refine ⟨⟨zs,by rw [own,if_neg hrq,if_neg C3]; exact hz,hz2⟩,?_⟩;simp only [cF,if_neg hrq]; exact Le.refl _
     ·split
      ·rename_i C3;subst C3;split
       ·rename_i hal;simp only [cD,hp,ai,aF] at ho;obtain ⟨_,⟨rfl,rfl⟩,_⟩ := ho;refine ⟨?_,?_⟩
        ·simp only [cD,own,if_true];exact ⟨_,rfl,by rw [bu]; omega⟩
        ·simp only [cF,if_true]; exact Le.refl _
       ·exact ⟨trivial,Le.any _⟩
      ·rename_i C3;simp only [cD] at ho ⊢;obtain ⟨zs,hz,hz2⟩ := ho;have hrq : r' ≠ q := by rintro rfl; rw [qn] at hz; cases hz
       refine ⟨⟨zs,by rw [own,if_neg hrq,if_neg C3]; exact hz,hz2⟩,?_⟩;simp only [cF,if_neg hrq]; exact Le.refl _
 ·rw [own] at e;by_cases h1 : r = q
  ·rw [if_pos h1] at e;simp only [ai,aF] at e;obtain ⟨rfl,rfl⟩ := e;exact ⟨xs,by simp [h1,hp],by simp [h1,nS.symm],len,rfl⟩
  ·rw [if_neg h1] at e;by_cases h2 : r = p
   ·rw [if_pos h2] at e; cases e
   ·rw [if_neg h2] at e;exact ⟨ys,by simp [h1,e],by simp [h1],ys.length,by simp⟩
 ·have np : ∀ r,(av (setAt (setAt (bY (rt p q len) s) p .any) q (.own k (xs.take len))) r).isSome -> r ≠ p := by
   intro r hr e;subst e;rw [own,if_neg (oV nS),if_pos rfl] at hr;cases hr
  by_cases h1 : r1 = q <;> by_cases h2 : r2 = q
  ·rw [h1,h2]
  ·simp only [h1,h2,if_true,if_false] at e;exact absurd e.symm (np r2 e2)
  ·simp only [h1,h2,if_true,if_false] at e;exact absurd e (np r1 e1)
  ·simpa only [h1,h2,if_false] using e
end Go.Bm

/- What is owned becomes a value by value. -/
namespace Go.Bm
open Go.Am

theorem zZ {k : Nat} : ∀ {xs : List AV},(∀ x ∈ xs,x.cells.length = k) -> ∀ {i j : Nat} {x c : AV},xs[i]? = some x -> x.cells[j]? = some c -> (aG xs)[i * k + j]? = some c
 | [],_,i,j,x,c,h,_ => by simp at h
 | y :: r,hk,i,j,x,c,h,hc => by
   have hy := hk y (by simp);cases i with
   | zero =>
     simp at h; subst h;simp only [aG,q8,dL];rw [ak (aq hc)];exact hc
   | succ i =>
     simp at h;have := zZ (xs := r) (fun z hz => hk z (by simp [hz])) h hc;simp only [aG];rw [aN (by rw [hy,bX]; omega),hy,bX,show i * k + 1 * k + j - k = i * k + j by omega];exact this
mutual
theorem iI : ∀ x : AV,pl x = true -> x.plain = true
 | .agg cs,h => by simp only [pl] at h; simp only [AV.plain]; exact rK cs h
 | .dp cs,h => by simp only [pl] at h; simp only [AV.plain]; exact rK cs h
 | .func _ a b,h => by simp only [pl,aa] at h; simp only [AV.plain,aa]; exact ⟨rK a h.1,rK b h.2⟩
 | .any,_ => rfl
 | .undef,_ => rfl
 | .eP,_ => rfl
 | .eT,_ => rfl
 | .dn,_ => rfl
 | .int _ _,_ => rfl
 | .bool _,_ => rfl
 | .str _,_ => rfl
 | .list _ _,_ => rfl
 | .dh _,_ => rfl
 | .own _ _,h => by simp [pl] at h
 | .c8 _ _ _ _,h => by simp [pl] at h
 | .ez _ _ _ _,h => by simp [pl] at h
 | .ptr _ _,h => by simp [pl] at h
 | .sl _ _ _ _,h => by simp [pl] at h
theorem rK : ∀ cs : List AV,df cs = true -> qO cs = true
 | [],_ => rfl
 | x :: r,h => by simp only [df,aa] at h; simp only [qO,aa]; exact ⟨iI x h.1,rK r h.2⟩
end
theorem mO {c : AV} (h : fz c = true) : pl c = true /\ c.leaf = true := by
 unfold fz at h;simp only [aa] at h;exact ⟨h.2,h.1⟩
section
variable {X : Nat -> Prop} {φ : dq} {w : World} {Ha : Heap}
theorem wo (h : b8 X φ w Ha) {n k : Nat} {xs : List AV} (ho : p7 Ha (some n) k xs) :
  ∃ g sz,φ[n]? = some (some (g,sz)) /\ ¬ X g /\ ∀ (i j : Nat) (x c : AV),xs[i]? = some x -> x.cells[j]? = some c -> ∃ u,w.cell? ⟨g,i * k + j,none⟩ = some u /\ fz c = true /\ bR (Rd X φ w) [] c u := by
 obtain ⟨cs,h1,h2,h3,h4⟩ := ho;obtain ⟨g,sz,arr,e,g1,g2,g3,g4,g5,g6⟩ := h.at h1;refine ⟨g,sz,g1,g5,fun i j x c hx hc => ?_⟩;obtain ⟨f1,a,f2,_,f3⟩ := h4 _ c (zZ h3 hx hc);obtain ⟨u,u1,u2⟩ := g6 _ a f2;exact ⟨u,by rw [iK g2]; exact u1,f1,(f3 _ _ _ u2).dB (iI _ (mO f1).1) []⟩
theorem WQ {n g sz : Nat} (h : b8 X φ w Ha) (lA : φ[n]? = some (some (g,sz))) {o : Nat} {u : Value} (hX : ¬ X g) (hu : w.cell? ⟨g,o,none⟩ = some u) : Rd X (φ.set n none) w ⟨g,o,none⟩ u := by
 refine ⟨hX,fun ⟨b,nC,hb⟩ => ?_,hu⟩;rw [bn] at hb;split at hb
 ·split at hb <;> simp at hb
 ·rename_i Bq;exact Bq (h.inj n b g sz nC lA hb)
theorem WO (n : Nat) : ∀ a u,Rd X φ w a u -> Rd X (φ.set n none) w a u := fun _ _ ⟨h1,h2,h3⟩ => ⟨h1,fun h => h2 (Io h),h3⟩
theorem GA (h : b8 X φ w Ha) {n k : Nat} {xs : List AV} (ho : p7 Ha (some n) k xs) {off len : Nat} (hle : off + len <= xs.length) {v : Value} (r : bR (Rd X φ w) φ (.sl k n (off * k) len) v) (ψ : dq) :
  bR (Rd X (φ.set n none) w) ψ (.list k ((xs.drop off).take len)) v := by
 obtain ⟨g,sz,lA,hX,hc⟩ := wo h ho;cases r with
 | sl _ _ _ _ _ a cap hb jW hh =>
   obtain ⟨h1,h2⟩ := hh g sz lA;by_cases h0 : len = 0
   ·subst h0;simp only [List.take_zero];exact .ub _ _ _ _ _ _ (fun _ _ => undef) rfl jW (fun x hx => by simp at hx) (fun i j x c hx => by simp at hx) (fun i j x c hx => by simp at hx)
   ·have ha := h1 (by omega);subst ha
    have hx : ∀ (i : Nat) (x : AV),((xs.drop off).take len)[i]? = some x -> xs[off + i]? = some x /\ i < len := by
     intro i x hx;rw [bB] at hx;split at hx
     ·rw [aS] at hx; exact ⟨hx,‹_›⟩
     ·cases hx
    obtain ⟨cs,q1,q2,hk,q4⟩ := ho;refine .ub _ _ _ _ _ _ (fun i j => (w.cell? ⟨g,(off + i) * k + j,none⟩).getD undef) (by simp; omega) jW (fun x hm => ?_) (fun i j x c hi hj => ?_) (fun i j x c hi hj => ?_)
    ·exact hk x (cQ (cP hm))
    ·obtain ⟨u,u1,_,_⟩ := hc _ j x c (hx i x hi).1 hj;rw [u1,Addr.jd,show off * k + (i * k + j) = (off + i) * k + j by rw [bX]; omega];exact WQ h lA hX u1
    ·obtain ⟨u,u1,_,u3⟩ := hc _ j x c (hx i x hi).1 hj;rw [u1];exact u3.mono (WO n) (.refl _)
theorem Vt (h : b8 X φ w Ha) {n k : Nat} {xs : List AV} (ho : p7 Ha (some n) k xs) {i o : Nat} {x : AV} (hx : xs[i]? = some x) {v : Value} (r : bR (Rd X φ w) φ (.ptr n (i * k + o)) v) (ψ : dq) :
  bR (Rd X (φ.set n none) w) ψ (.dh (x.cells.drop o)) v := by
 obtain ⟨g,sz,lA,hX,hc⟩ := wo h ho;cases r with
 | ptr _ _ _ a hb hh =>
   have ha := hh g sz lA;subst ha;refine .dh _ _ _ (fun j => (w.cell? ⟨g,i * k + (o + j),none⟩).getD undef) (fun j c hj => ?_) (fun j c hj => ?_)
   ·rw [aS] at hj;obtain ⟨u,u1,_,_⟩ := hc i (o + j) x c hx hj;rw [u1,Addr.jd,show i * k + o + j = i * k + (o + j) by omega];exact WQ h lA hX u1
   ·rw [aS] at hj;obtain ⟨u,u1,_,u3⟩ := hc i (o + j) x c hx hj;rw [u1];exact u3.mono (WO n) (.refl _)
end
theorem aaB {R R' : Addr -> Value -> Prop} {φ φ' : dq} {N N' : Names} {i : Nat} {x y : AV} (h1 : ∀ cs,x = .agg cs -> ∃ ds,y = .agg ds /\ ds.length = cs.length /\ ∀ (j : Nat) (c d : AV),cs[j]? = some c -> ds[j]? = some d -> ∀ u,bR R φ (jR N (.sc i j) c) u -> bR R' φ' (jR N' (.sc i j) d) u)
  (h2 : jX x -> jX y /\ ∀ v,bR R φ (jR N (.s i) x) v -> bR R' φ' (jR N' (.s i) y) v) {v : Value} (hv : bR R φ (kJ N i x) v) : bR R' φ' (kJ N' i y) v := by
 by_cases hx : ∃ cs,x = .agg cs
 ·obtain ⟨cs,rfl⟩ := hx;obtain ⟨ds,rfl,hl,h⟩ := h1 cs rfl;simp only [kJ] at hv ⊢;cases hv with
  | agg _ _ vs IV hh =>
    rw [iN] at IV;refine .agg _ _ _ (by rw [iN]; omega) fun j c u hc hu => ?_;rw [fg] at hc;simp only [dL] at hc;cases hd : ds[j]? with
    | none => rw [hd] at hc; cases hc
    | some d =>
      rw [hd] at hc;simp at hc;subst hc;obtain ⟨c,hc⟩ := bg (l := cs) (i := j) (by have := aq hd; omega);exact h j c d hc hd u (hh j _ u (by rw [fg,hc]; simp) hu)
 ·have hn : jX x := fun cs e => hx ⟨cs,e⟩;obtain ⟨hy,hle⟩ := h2 hn;have e1 : kJ N' i y = jR N' (.s i) y := by cases y <;> first | rfl | exact absurd rfl (hy _)
  have e2 : kJ N i x = jR N (.s i) x := by cases x <;> first | rfl | exact absurd rfl (hn _)
  rw [e2] at hv;rw [e1];exact hle v hv
mutual
theorem Mc {R R' : Addr -> Value -> Prop} {φ φ' : dq} {N N' : Names} {o o' : Rt -> Option (Nat × List AV)} {nb : Nat} {g : AV -> AV} (hR : ∀ a u,R a u -> R' a u) (lA : vS φ φ') (eE : N'.β = N.β)
  (hl : ∀ k p a l,(cD o nb (.c8 k p a l) -> cD o' nb (g (.c8 k p a l)) /\ ∀ v,bR R φ (cF N (.c8 k p a l)) v -> bR R' φ' (cF N' (g (.c8 k p a l))) v) /\ (cD o nb (.ez k p a l) -> cD o' nb (g (.ez k p a l)) /\ ∀ v,bR R φ (cF N (.ez k p a l)) v -> bR R' φ' (cF N' (g (.ez k p a l))) v)) :
  ∀ x,cD o nb x -> cD o' nb (cn g x) /\ ∀ v,bR R φ (cF N x) v -> bR R' φ' (cF N' (cn g x)) v
 | .c8 k p a l,h => by simp only [cn]; exact (hl k p a l).1 h
 | .ez k p a l,h => by simp only [cn]; exact (hl k p a l).2 h
 | .agg cs,h => by
   simp only [cD] at h;obtain ⟨h1,h3⟩ := rq hR lA eE hl cs h;simp only [cn,cD,cF];refine ⟨h1,fun v r => ?_⟩;cases r with
   | agg _ _ vs IV hh2 =>
     refine .agg _ _ _ (by simp only [dO,b6] at IV ⊢; exact IV) fun i c u hc hu => ?_;exact h3 i c u hc (fun y hy => hh2 i y u hy hu)
 | .dp cs,h => by
   simp only [cD] at h;obtain ⟨h1,h3⟩ := rq hR lA eE hl cs h;simp only [cn,cD,cF];refine ⟨h1,fun v r => ?_⟩;cases r with
   | dp _ _ vs IV hh2 =>
     refine .dp _ _ _ (by simp only [dO,b6] at IV ⊢; exact IV) fun i c u hc hu => ?_;exact h3 i c u hc (fun y hy => hh2 i y u hy hu)
 | .func f a b,h => by
   simp only [cD] at h;obtain ⟨h1,h3⟩ := rq hR lA eE hl a h.1;obtain ⟨k1,k3⟩ := rq hR lA eE hl b h.2;simp only [cn,cD,cF];refine ⟨⟨h1,k1⟩,fun v r => ?_⟩;cases r with
   | func _ _ _ va _ vb CG CF ha hb =>
     refine .func _ _ _ _ _ _ (by simp only [dO,b6] at CG ⊢; exact CG) (by simp only [dO,b6] at CF ⊢; exact CF) (fun i c u hc hu => ?_) (fun i c u hc hu => ?_)
     ·exact h3 i c u hc (fun y hy => ha i y u hy hu)
     ·exact k3 i c u hc (fun y hy => hb i y u hy hu)
 | .any,h => ⟨h,fun v r => r.mono hR lA⟩
 | .undef,h => ⟨h,fun v r => r.mono hR lA⟩
 | .eP,h => ⟨h,fun v r => r.mono hR lA⟩
 | .eT,h => ⟨h,fun v r => r.mono hR lA⟩
 | .dn,h => ⟨h,fun v r => r.mono hR lA⟩
 | .int _ _,h => ⟨h,fun v r => r.mono hR lA⟩
 | .bool _,h => ⟨h,fun v r => r.mono hR lA⟩
 | .str _,h => ⟨h,fun v r => r.mono hR lA⟩
 | .list _ _,h => ⟨h,fun v r => r.mono hR lA⟩
 | .dh _,h => ⟨h,fun v r => r.mono hR lA⟩
 | .own _ _,h => ⟨h,fun v r => r.mono hR lA⟩
 | .sl _ b _ _,h => by simp only [cn,cF,eE]; exact ⟨h,fun v r => r.mono hR lA⟩
 | .ptr b off,h => by simp only [cn,cF,eE]; exact ⟨h,fun v r => r.mono hR lA⟩
theorem rq {R R' : Addr -> Value -> Prop} {φ φ' : dq} {N N' : Names} {o o' : Rt -> Option (Nat × List AV)} {nb : Nat} {g : AV -> AV} (hR : ∀ a u,R a u -> R' a u) (lA : vS φ φ') (eE : N'.β = N.β)
  (hl : ∀ k p a l,(cD o nb (.c8 k p a l) -> cD o' nb (g (.c8 k p a l)) /\ ∀ v,bR R φ (cF N (.c8 k p a l)) v -> bR R' φ' (cF N' (g (.c8 k p a l))) v) /\ (cD o nb (.ez k p a l) -> cD o' nb (g (.ez k p a l)) /\ ∀ v,bR R φ (cF N (.ez k p a l)) v -> bR R' φ' (cF N' (g (.ez k p a l))) v)) :
  ∀ cs,kF o nb cs -> kF o' nb (cV g cs) /\ ∀ (i : Nat) (x : AV) (u : Value),(k8 N' (cV g cs))[i]? = some x -> (∀ y,(k8 N cs)[i]? = some y -> bR R φ y u) -> bR R' φ' x u
 | [],_ => ⟨trivial,fun i x u h => by simp [cV,k8] at h⟩
 | c :: r,h => by
   simp only [kF] at h;obtain ⟨h1,h2⟩ := Mc hR lA eE hl c h.1;obtain ⟨k1,k3⟩ := rq hR lA eE hl r h.2;refine ⟨⟨h1,k1⟩,fun i x u hx hy => ?_⟩;cases i with
   | zero => simp [cV,k8] at hx hy; subst hx; exact h2 u hy
   | succ i => simp [cV,k8] at hx hy; exact k3 i x u hx hy
end
theorem vD (L : Nat) (G : Nat -> TQ) : ∃ H : Heap,H.length = L /\ ∀ m,m < L -> H[m]? = some (G m) :=
 ⟨(List.range L).map G,by simp,fun m hm => by simp [hm]⟩
theorem JH {N N' : Names} {g : AV -> AV} (hg : kc g) {r : Rt} {x : AV} (ho : NOwn x) : jR N r x = cF N x /\ jR N' r (cn g x) = cF N' (cn g x) := by
 constructor
 ·cases x <;> first | rfl | exact absurd rfl (ho _ _)
 ·have : ∀ k xs,cn g x ≠ .own k xs := fun k xs e => ho k xs ((vk hg x k xs).1 e);generalize cn g x = y at this;cases y <;> first | rfl | exact absurd rfl (this _ _)
theorem eF.Bu {X : Nat -> Prop} {φ : dq} {w : World} {N : Names} {s : St} {Ha : Heap} {t : Nat -> Value} (h : eF X φ w N s Ha t) (p : Rt) :
  ∃ φ' Ha',eF X φ' w N (F7 s p) Ha' t /\ eZ φ w φ' w /\ (∀ q,av (F7 s p) q = if q = p then none else av s q) /\ Shape s (F7 s p) := by
 unfold F7;cases hp : av s p with
 | none =>
   refine ⟨φ,Ha,h,.refl _ _,fun q => ?_,.refl _⟩;by_cases e : q = p
   ·rw [if_pos e,e]; exact hp
   ·rw [if_neg e]
 | some y =>
   obtain ⟨k,xs⟩ := y;simp only;have uc := bZ.1 hp;have hn : jX (.own k xs) := fun cs e => by cases e
   have hv : jX (.list k xs) := fun cs e => by cases e
   have hg := afc p k xs;have jV := qN hg hv uc hn;generalize hs' : setAt (bY (fb p k xs) s) p (.list k xs) = s' at jV ⊢;have key : ∀ {r},Lf s r -> at_ s' r = if r = p then some (.list k xs) else (at_ s r).map (cn (fb p k xs)) := fun hr => by rw [<- hs']; exact yD hg hv uc hn hr
   have own : ∀ q,av s' q = if q = p then none else av s q := by
    refine wq jV (fun q hq => ?_) (fun q hq => ?_)
    ·have e := key hq;by_cases nS : q = p
     ·subst nS; rw [if_pos rfl] at e ⊢; unfold av; rw [e]
     ·rw [if_neg nS] at e ⊢;rw [<- ji hg s q];exact jh (by rw [e,jM hg])
    ·split
     ·rfl
     ·exact rL hq
   have eW := h.own p k xs hp;cases mI : N.ν p with
   | none =>
     rw [mI] at eW;have eW : xs = [] := eW;subst eW;refine ⟨φ,Ha,h.change rfl jV (fun r x y hl hx hy => ?_) id (fun q k' ys e => ?_) (fun q r _ _ e => e),.refl _ _,own,jV⟩
     ·rw [key hl] at hy;by_cases C3 : r = p
      ·rw [if_pos C3] at hy;subst C3;rw [uc] at hx;cases hx; cases hy;refine ⟨trivial,?_⟩;simp only [jR,cF,qP,mI];exact Le.iP k
      ·rw [if_neg C3,hx] at hy;simp at hy;subst hy;have := lh (N := N) (N' := N) (o := av s) (o' := av s') (nb := s.H.length) rfl hg (fun k' q a l => ?_) (r := r) (x := x) (fun _ _ _ => rfl) (h.zC hx)
       ·rw [jV.len]; exact this
       ·simp only [fb];refine ⟨fun ho => ?_,fun ho => ?_⟩
        ·by_cases nS : q = p
         ·rw [if_pos nS];subst nS;simp only [cD,hp,ai,aF] at ho;obtain ⟨_,⟨rfl,rfl⟩,hle⟩ := ho;rw [if_pos ⟨rfl,hle⟩];refine ⟨trivial,?_⟩;simp only [cF,mI,List.drop_nil,List.take_nil];exact Le.iP k
         ·rw [if_neg nS];simp only [cD,own,if_neg nS] at ho ⊢;exact ⟨ho,Le.refl _⟩
        ·by_cases nS : q = p
         ·subst nS;simp only [cD,hp,ai,aF] at ho;obtain ⟨_,⟨rfl,rfl⟩,hle⟩ := ho;simp at hle
         ·rw [if_neg nS];simp only [cD,own,if_neg nS] at ho ⊢;exact ⟨ho,Le.refl _⟩
     ·rw [own] at e;split at e
      ·cases e
      ·exact ⟨ys,e,rfl,ys.length,by simp⟩
   | some n =>
     rw [mI] at eW;obtain ⟨_,sS⟩ := h.heap.YD n;have hr2 : ∀ a u,Rd X φ w a u -> Rd X (φ.set n none) w a u := sS.rd
     have conv : ∀ r x y,Lf s r -> at_ s r = some x -> at_ s' r = some y -> cD (av s') s'.H.length y /\ ∀ v,bR (Rd X φ w) φ (jR N r x) v -> bR (Rd X (φ.set n none) w) (φ.set n none) (jR N r y) v := by
      intro r x y hl hx hy;rw [key hl] at hy;by_cases C3 : r = p
      ·rw [if_pos C3] at hy;subst C3;rw [uc] at hx;cases hx; cases hy;refine ⟨trivial,fun v hv => ?_⟩;simp only [jR,cF,qP,mI] at hv ⊢;have := GA h.heap eW (off := 0) (len := xs.length) (by omega) (by simpa using hv) (φ.set n none);simpa using this
      ·rw [if_neg C3,hx] at hy;simp at hy;subst hy
       have Zh := Mc (R := Rd X φ w) (R' := Rd X (φ.set n none) w) (φ := φ) (φ' := φ.set n none) (N := N) (N' := N) (o := av s) (o' := av s') (nb := s.H.length) (g := fb p k xs) hr2 sS.SC rfl (fun k' q a l => by
        simp only [fb];refine ⟨fun ho => ?_,fun ho => ?_⟩
        ·by_cases nS : q = p
         ·rw [if_pos nS];subst nS;simp only [cD,hp,ai,aF] at ho;obtain ⟨_,⟨rfl,rfl⟩,hle⟩ := ho;rw [if_pos ⟨rfl,hle⟩];refine ⟨trivial,fun v hv => ?_⟩;simp only [cF,mI] at hv ⊢;exact GA h.heap eW hle hv _
         ·rw [if_neg nS];simp only [cD,own,if_neg nS] at ho ⊢;exact ⟨ho,fun v hv => hv.mono hr2 sS.SC⟩
        ·by_cases nS : q = p
         ·rw [if_pos nS];subst nS;simp only [cD,hp,ai,aF] at ho;obtain ⟨_,⟨rfl,rfl⟩,hle⟩ := ho;rw [if_pos rfl];obtain ⟨x,hx⟩ := bg hle;rw [hx];refine ⟨trivial,fun v hv => ?_⟩;simp only [cF,mI] at hv ⊢;exact Vt h.heap eW hx hv _
         ·rw [if_neg nS];simp only [cD,own,if_neg nS] at ho ⊢;exact ⟨ho,fun v hv => hv.mono hr2 sS.SC⟩) x (h.zC hx)
       refine ⟨by rw [jV.len]; exact Zh.1,fun v hv => ?_⟩;by_cases hxo : ∃ k' ys,x = .own k' ys
       ·obtain ⟨k',ys,rfl⟩ := hxo;simp only [cn,jR,qP] at hv ⊢;exact hv.mono hr2 sS.SC
       ·obtain ⟨e1,e2⟩ := JH (N := N) (N' := N) hg (r := r) (x := x) (fun k ys e => hxo ⟨k,ys,e⟩);rw [e1] at hv;rw [e2];exact Zh.2 v hv
     obtain ⟨hk,hkc⟩ := Fk (o := av s') (nb := s'.H.length) (s := s') fun r y hl hy => by
      obtain ⟨hl',x,hx⟩ := jV.back hl hy;exact (conv r x y hl' hx hy).1
     have sb : ∀ {b},(aJ s'.H b).isSome -> (aJ s.H b).isSome := by
      intro b hb;cases e : aJ s.H b with
      | none => rw [jV.CY b e] at hb; cases hb
      | some _ => rfl
     have so : ∀ {q},(av s' q).isSome -> (av s q).isSome /\ q ≠ p := by
      intro q hq;rw [own] at hq;by_cases e : q = p
      ·rw [if_pos e] at hq; cases hq
      ·rw [if_neg e] at hq; exact ⟨hq,e⟩
     classical
     obtain ⟨Ha',hL,hG⟩ := vD Ha.length (fun m => if m = n then none else if hb : ∃ z : Nat × List AV,aJ s'.H z.1 = some z.2 /\ N.β z.1 = m then some (Ov N (.c hb.choose.1) 0 hb.choose.2) else (Ha[m]?).getD none)
     have hbox : ∀ b cs,aJ s'.H b = some cs -> aJ Ha' (N.β b) = some (Ov N (.c b) 0 cs) := by
      intro b cs hb;obtain ⟨VL,Da⟩ := aU.1 (sb (by rw [hb]; rfl : (aJ s'.H b).isSome));obtain ⟨as,g1,_⟩ := h.box b VL Da;rw [sX,hG _ (dY g1)];have Bq : N.β b ≠ n := fun e => h.bx b p (by rw [Da]; rfl) (by rw [hp]; rfl) (by rw [mI,e]);have hex : ∃ z : Nat × List AV,aJ s'.H z.1 = some z.2 /\ N.β z.1 = N.β b := ⟨(b,cs),hb,rfl⟩;rw [if_neg Bq,dif_pos hex];have e1 : hex.choose.1 = b := h.bi _ _ (sb (by rw [hex.choose_spec.1]; rfl)) (by rw [Da]; rfl) hex.choose_spec.2
      have e2 : hex.choose.2 = cs := by
       have := hex.choose_spec.1;rw [e1,hb] at this;exact (bU this).symm
      rw [e2,e1]
     have Bo : ∀ m,m ≠ n -> (¬ ∃ z : Nat × List AV,aJ s'.H z.1 = some z.2 /\ N.β z.1 = m) -> Ha'[m]? = Ha[m]? := by
      intro m hm hnb;by_cases bz : m < Ha.length
      ·rw [hG m bz,if_neg hm,dif_neg hnb];obtain ⟨x,hx⟩ := bg bz;rw [hx]; rfl
      ·rw [dz (by omega),dz (by omega)]
     refine ⟨φ.set n none,Ha',⟨fun i => ?_,hk,⟨?_,h.heap.G7,fun m cs hm => ?_,fun m hm => ?_,fun m m' g sz nC e1 e2 => ?_⟩,fun q k' ys e => ?_,fun b cs e => ?_,fun q r m e1 e2 e3 e4 => ?_,fun b q e1 e2 e3 => ?_,fun b c e1 e2 e3 => ?_⟩,sS,own,jV⟩
     ·refine aaB (fun cs dx => ?_) (fun hnn => ⟨jV.Pn i hnn,?_⟩) (h.env i)
      ·obtain ⟨ds,h1,h2⟩ := jV.agg i cs dx;refine ⟨ds,h1,h2,fun j c d hc hd => (conv (.sc i j) c d (fun i e => by cases e) ?_ ?_).2⟩
       ·rw [GG dx]; exact hc
       ·rw [GG h1]; exact hd
      ·exact (conv (.s i) _ _ (fun j e => by cases e; exact hnn) rfl rfl).2
     ·rw [List.length_set,h.heap.len,hL]
     ·have bz := aq hm;rw [hL] at bz;by_cases Dt : m = n
      ·rw [hG m bz,if_pos Dt] at hm; cases hm
      ·by_cases hnb : ∃ z : Nat × List AV,aJ s'.H z.1 = some z.2 /\ N.β z.1 = m
       ·obtain ⟨⟨b,ds⟩,hb,rfl⟩ := hnb;simp only at hb hm Dt;have := hbox b ds hb;rw [sX,hm] at this;cases this;obtain ⟨VL,Da⟩ := aU.1 (sb (by rw [hb]; rfl : (aJ s'.H b).isSome));obtain ⟨as,g1,g2,g3⟩ := h.box b VL Da;obtain ⟨g,sz,arr,e,f1,f2,f3,f4,f5,f6⟩ := h.heap.at g1;obtain ⟨ds',q1,q2⟩ := jV.box b VL Da;rw [hb] at q1; cases q1;refine ⟨g,sz,arr,e,?_,f2,f3,by rw [iN]; omega,f5,fun i c hc => ?_⟩
        ·rw [c9 (oV Dt)]; exact f1
        ·rw [fg] at hc;simp only [dL] at hc;cases hd : ds[i]? with
         | none => rw [hd] at hc; cases hc
         | some d =>
           rw [hd] at hc;simp at hc;subst hc;obtain ⟨c0,FW⟩ := bg (l := VL) (i := i) (by have := aq hd; omega);obtain ⟨_,a,a1,a2⟩ := g3 i c0 FW;obtain ⟨u,u1,u2⟩ := f6 i a a1;exact ⟨u,u1,(conv (.c b i) c0 d (fun i e => by cases e) (by rw [vL Da]; exact FW) (by rw [vL hb]; exact hd)).2 u (a2 _ _ _ u2)⟩
       ·rw [Bo m Dt hnb] at hm;obtain ⟨g,sz,arr,e,f1,f2,f3,f4,f5,f6⟩ := h.heap.live m cs hm;refine ⟨g,sz,arr,e,?_,f2,f3,f4,f5,fun i c hc => ?_⟩
        ·rw [c9 (oV Dt)]; exact f1
        ·obtain ⟨u,u1,u2⟩ := f6 i c hc;exact ⟨u,u1,u2.mono hr2 sS.SC⟩
     ·by_cases Dt : m = n
      ·subst Dt;have bz := aq hm;rw [List.getElem?_set_self (by rw [h.heap.len]; omega)]
      ·rw [c9 (oV Dt)];by_cases hnb : ∃ z : Nat × List AV,aJ s'.H z.1 = some z.2 /\ N.β z.1 = m
       ·obtain ⟨⟨b,ds⟩,hb,rfl⟩ := hnb;simp only at hb hm Dt;have := hbox b ds hb;rw [sX,hm] at this;cases this
       ·rw [Bo m Dt hnb] at hm;exact h.heap.dead m hm
     ·have sub : ∀ m g sz : Nat,(φ.set n none)[m]? = some (some (g,sz)) -> φ[m]? = some (some (g,sz)) := by
       intro m g sz e;rw [bn] at e;split at e
       ·split at e <;> simp at e
       ·exact e
      exact h.heap.inj m m' g sz nC (sub _ _ _ e1) (sub _ _ _ e2)
     ·have hq := own q;rw [e] at hq;by_cases nS : q = p
      ·rw [if_pos nS] at hq; cases hq
      ·rw [if_neg nS] at hq;have ho := h.own q k' ys hq.symm;cases hνq : N.ν q with
       | none => rw [hνq] at ho; exact ho
       | some m =>
         rw [hνq] at ho;obtain ⟨cs,c1,c2⟩ := ho
         have Dt : m ≠ n := by
          intro e; subst e;exact nS (h.inj q p m (by rw [<- hq]; rfl) (by rw [hp]; rfl) hνq mI)
         refine ⟨cs,?_,c2⟩;rw [sX,Bo m Dt ?_]
         ·exact vK c1
         ·rintro ⟨⟨b,ds⟩,hb,rfl⟩;exact h.bx b q (sb (by rw [hb]; rfl)) (by rw [<- hq]; rfl) hνq
     ·refine ⟨_,hbox b cs e,iN _ _ _ _,fun j c hc => ⟨hkc b cs e j c hc,_,by rw [fg,hc]; simp,Le.refl _⟩⟩
     ·exact h.inj q r m (so e1).1 (so e2).1 e3 e4
     ·exact h.bx b q (sb e1) (so e2).1 e3
     ·exact h.bi b c (sb e1) (sb e2) e3
end Go.Bm

/- Owners that go, values that go to their slots, the end of a region. -/
namespace Go.Bm
open Go.Am

def SB (X : Nat -> Prop) (φ : dq) (w : World) (B : Nat -> Nat) (base : Nat) (s : St) (t : Nat -> Value) : Prop := ∃ N Ha,eF X φ w N s Ha t /\ (∀ b,b < base -> N.β b = B b) /\ base <= s.H.length
section
variable {X : Nat -> Prop} {φ : dq} {w : World} {N : Names} {s s' : St} {Ha : Heap} {t : Nat -> Value} {B : Nat -> Nat} {base : Nat}

theorem SB.Bu (h : SB X φ w B base s t) (p : Rt) : ∃ φ',SB X φ' w B base (F7 s p) t /\ eZ φ w φ' w := by
 obtain ⟨N,Ha,h,hb,hl⟩ := h;obtain ⟨φ',Ha',h1,h2,_,h3⟩ := h.Bu p;exact ⟨φ',⟨N,Ha',h1,hb,by rw [h3.len]; exact hl⟩,h2⟩
theorem SB.dC : ∀ (ps : List Rt) {φ : dq} {s : St},SB X φ w B base s t -> ∃ φ',SB X φ' w B base (dC ps s) t /\ eZ φ w φ' w
 | [],φ,s,h => ⟨φ,h,.refl _ _⟩
 | p :: r,φ,s,h => by
   obtain ⟨n8,h1,a1⟩ := h.Bu p;obtain ⟨kT,h2,a2⟩ := SB.dC r h1;exact ⟨kT,h2,a1.trans a2⟩
theorem SB.rel (h : SB X φ w B base s t) (p : Rt) : ∃ φ',SB X φ' w B base (rel s p) t /\ eZ φ w φ' w := by
 unfold Go.Bm.rel;split
 ·exact ⟨φ,h,.refl _ _⟩
 ·rename_i k xs hp;split
  ·obtain ⟨N,Ha,h,hb,hl⟩ := h;exact ⟨φ,⟨N,Ha,(h.drop hp).1,hb,by rw [(h.drop hp).2.2.len]; exact hl⟩,.refl _ _⟩
  ·rename_i q hq;split
   ·rename_i k' r len uc;split
    ·rename_i hr;subst hr;obtain ⟨N,Ha,h,hb,hl⟩ := h;obtain ⟨N',e,h',_,h3⟩ := h.give hp uc;exact ⟨φ,⟨N',Ha,h',fun b bz => by rw [e]; exact hb b bz,by rw [h3.len]; exact hl⟩,.refl _ _⟩
    ·exact h.Bu p
   ·exact h.Bu p
theorem SB.Hb (i : Nat) : ∀ (cs : List AV) (j : Nat) {φ : dq} {s : St},SB X φ w B base s t -> ∃ φ',SB X φ' w B base (Hb i j cs s) t /\ eZ φ w φ' w
 | [],j,φ,s,h => ⟨φ,h,.refl _ _⟩
 | x :: r,j,φ,s,h => by
   have skip : ∃ φ',SB X φ' w B base (Go.Bm.Hb i (j + 1) r s) t /\ eZ φ w φ' w := SB.Hb i r (j + 1) h
   cases x <;> first
    | exact skip
    | (obtain ⟨n8, h1, a1⟩ := h.rel (.sc i j)
       obtain ⟨kT,h2,a2⟩ := SB.Hb i r (j + 1) h1;exact ⟨kT,h2,a1.trans a2⟩)
theorem SB.z8 (h : SB X φ w B base s t) (i : Nat) : ∃ φ',SB X φ' w B base (z8 s i) t /\ eZ φ w φ' w := by
 unfold Go.Bm.z8;split
 ·exact h.rel _
 ·exact SB.Hb i _ 0 h
 ·exact ⟨φ,h,.refl _ _⟩
theorem SB.nG (keep : List Nat) : ∀ (e : Env) {φ : dq} {s : St},SB X φ w B base s t -> ∃ φ',SB X φ' w B base (nG keep e s) t /\ eZ φ w φ' w
 | [],φ,s,h => ⟨φ,h,.refl _ _⟩
 | (i,v) :: r,φ,s,h => by
   simp only [Go.Bm.nG];split
   ·exact SB.nG keep r h
   ·obtain ⟨n8,h1,a1⟩ := h.z8 i;obtain ⟨kT,h2,a2⟩ := SB.nG keep r h1;exact ⟨kT,h2,a1.trans a2⟩
theorem SB.eH (b : Nat) : ∀ (n j : Nat) {φ : dq} {s : St},SB X φ w B base s t -> ∃ φ',SB X φ' w B base (eH b j n s) t /\ eZ φ w φ' w
 | 0,j,φ,s,h => ⟨φ,h,.refl _ _⟩
 | n + 1,j,φ,s,h => by
   simp only [Go.Bm.eH];split
   ·obtain ⟨n8,h1,a1⟩ := h.rel (.c b j);obtain ⟨kT,h2,a2⟩ := SB.eH b n (j + 1) h1;exact ⟨kT,h2,a1.trans a2⟩
   ·exact SB.eH b n (j + 1) h

theorem afM (he : ∀ i,get s'.env i = get s.env i) (hH : s'.H = s.H) : at_ s' = at_ s := by
 funext p;cases p <;> simp only [at_,he,hH]
theorem Ip (he : ∀ i,get s'.env i = get s.env i) (hH : s'.H = s.H) : av s' = av s := by
 funext p;unfold av;rw [afM he hH]
theorem eF.ext (h : eF X φ w N s Ha t) (he : ∀ i,get s'.env i = get s.env i) (hH : s'.H = s.H) : eF X φ w N s' Ha t := by
 have ho := Ip he hH;exact ⟨fun i => by rw [he]; exact h.env i,fun i => by rw [he,ho,hH]; exact h.Hd i,h.heap,by rw [ho]; exact h.own,by rw [ho,hH]; exact h.box,by rw [ho]; exact h.inj,by rw [ho,hH]; exact h.bx,by rw [hH]; exact h.bi⟩
theorem dV {i : Nat} (h : bJ (get s.env i) = false) : av s (.s i) = none /\ ∀ j,av s (.sc i j) = none := by
 have hl : ∀ (cs : List AV),bI cs = false -> ∀ (j : Nat) (k : Nat) (xs : List AV),cs[j]? ≠ some (.own k xs) := by
  intro cs
  induction cs with
  | nil => intro _ j k xs e; simp at e
  | cons x r ih =>
    intro h j k xs e;cases j with
    | zero => simp at e; subst e; simp [bI] at h
    | succ j =>
      simp at e;refine ih ?_ j k xs e;cases x <;> simp [bI] at h <;> exact h
 refine ⟨?_,fun j => ?_⟩
 ·cases e : av s (.s i) with
  | none => rfl
  | some y =>
    have e' := bZ.1 (show av s (.s i) = some (y.1,y.2) from e);simp only [at_,ai] at e';rw [e'] at h;simp [bJ] at h
 ·cases e : av s (.sc i j) with
  | none => rfl
  | some y =>
    have e' := bZ.1 (show av s (.sc i j) = some (y.1,y.2) from e);simp only [at_] at e';split at e'
    ·rename_i cs dx;rw [dx] at h;simp only [bJ] at h;exact absurd e' (hl cs h j _ _)
    ·cases e'
theorem eF.keep (h : eF X φ w N s Ha t) (he : ∀ i,get s'.env i = get s.env i \/ (get s'.env i = .any /\ bJ (get s.env i) = false)) (hH : s'.H = s.H) : eF X φ w N s' Ha t := by
 have ho : av s' = av s := by
  funext p;cases p with
  | s i =>
    rcases he i with e | ⟨e1,e2⟩
    ·unfold av; simp only [at_,e]
    ·rw [(dV e2).1]; unfold av; simp only [at_,e1]
  | sc i j =>
    rcases he i with e | ⟨e1,e2⟩
    ·unfold av; simp only [at_,e]
    ·rw [(dV e2).2 j]; unfold av; simp only [at_,e1]
  | c b j => unfold av; simp only [at_,hH]
 refine ⟨fun i => ?_,fun i => ?_,h.heap,by rw [ho]; exact h.own,by rw [ho,hH]; exact h.box,by rw [ho]; exact h.inj,by rw [ho,hH]; exact h.bx,by rw [hH]; exact h.bi⟩
 ·rcases he i with e | ⟨e1,e2⟩
  ·rw [e]; exact h.env i
  ·rw [e1]; exact .any _ _
 ·rcases he i with e | ⟨e1,e2⟩
  ·rw [e,ho,hH]; exact h.Hd i
  ·rw [e1]; trivial
mutual
theorem Ky {o o' : Rt -> Option (Nat × List AV)} {n : Nat} (ho : ∀ p,(∀ j,p ≠ .c n j) -> o' p = o p) : ∀ x,cD o (n + 1) x -> rN n x = true -> cD o' n x
 | .c8 k p off len,h,hp => by
   simp only [cD] at h ⊢;rw [ho p]
   ·exact h
   ·rintro j rfl; simp [rN] at hp
 | .ez k p i off,h,hp => by
   simp only [cD] at h ⊢;rw [ho p]
   ·exact h
   ·rintro j rfl; simp [rN] at hp
 | .ptr b off,h,hp => by simp only [cD] at h ⊢; simp [rN] at hp; omega
 | .agg cs,h,hp => by simp only [cD,rN] at h hp ⊢; exact vd ho cs h hp
 | .dp cs,h,hp => by simp only [cD,rN] at h hp ⊢; exact vd ho cs h hp
 | .func f a b,h,hp => by simp only [cD,rN,aa] at h hp ⊢; exact ⟨vd ho a h.1 hp.1,vd ho b h.2 hp.2⟩
 | .any,_,_ => trivial
 | .undef,_,_ => trivial
 | .eP,_,_ => trivial
 | .eT,_,_ => trivial
 | .dn,_,_ => trivial
 | .int _ _,_,_ => trivial
 | .bool _,_,_ => trivial
 | .str _,_,_ => trivial
 | .list _ _,_,_ => trivial
 | .dh _,_,_ => trivial
 | .own _ _,_,_ => trivial
 | .sl _ b _ _,h,hp => by simp only [cD] at h ⊢; simp [rN] at hp; omega
theorem vd {o o' : Rt -> Option (Nat × List AV)} {n : Nat} (ho : ∀ p,(∀ j,p ≠ .c n j) -> o' p = o p) : ∀ cs,kF o (n + 1) cs -> jO n cs = true -> kF o' n cs
 | [],_,_ => trivial
 | x :: r,h,hp => by simp only [kF,jO,aa] at h hp ⊢; exact ⟨Ky ho x h.1 hp.1,vd ho r h.2 hp.2⟩
end
theorem Fx {n : Nat} : ∀ {e : Env},A3 n e = true -> ∀ i,rN n (get e i) = true
 | [],_,i => rfl
 | (j,v) :: r,h,i => by
   simp only [A3,aa] at h;simp only [Am.get];split
   ·exact h.1
   ·exact Fx h.2 i
theorem ye {n : Nat} : ∀ {H : Heap},vf n H = true -> ∀ b cs,aJ H b = some cs -> jO n cs = true
 | [],_,b,cs,hb => by simp [aJ] at hb
 | none :: r,h,b,cs,hb => by
   simp only [vf] at h;cases b with
   | zero => simp [aJ] at hb
   | succ b => exact ye h b cs (by simpa [aJ] using hb)
 | some ds :: r,h,b,cs,hb => by
   simp only [vf,aa] at h;cases b with
   | zero => simp [aJ] at hb; subst hb; exact h.1
   | succ b => exact ye h.2 b cs (by simpa [aJ] using hb)
theorem Fw {n : Nat} : ∀ {cs : List AV},jO n cs = true -> ∀ (j : Nat) (c : AV),cs[j]? = some c -> rN n c = true
 | [],_,j,c,h => by simp at h
 | x :: r,hp,j,c,h => by
   simp only [jO,aa] at hp;cases j with
   | zero => simp at h; subst h; exact hp.1
   | succ j => exact Fw hp.2 j c (by simpa using h)
theorem rY {H : Heap} {n b : Nat} : aJ (H.take n) b = if b < n then aJ H b else none := by
 unfold aJ;rw [bB];by_cases h : b < n <;> simp [h]
theorem eF.afU {env : Env} {H : Heap} {n : Nat} (h : eF X φ w N ⟨env,H⟩ Ha t) (hl : H.length = n + 1) (he : A3 n env = true) (hH : vf n (H.take n) = true) : eF X φ w N ⟨env,H.take n⟩ Ha t := by
 have ho : ∀ p,(∀ j,p ≠ .c n j) -> av ⟨env,H.take n⟩ p = av ⟨env,H⟩ p := by
  intro p hp;cases p with
  | s i => rfl
  | sc i j => rfl
  | c b j =>
    unfold av;simp only [at_,rY];by_cases hb : b < n
    ·rw [if_pos hb]
    ·rw [if_neg hb]
     have : aJ H b = none := by
      cases e : aJ H b with
      | none => rfl
      | some cs =>
        have := dY e;simp only [hl] at this;exact absurd (by rw [show b = n by omega]) (hp j)
     rw [this]
 have hs : ∀ {p},(av ⟨env,H.take n⟩ p).isSome -> (av ⟨env,H⟩ p).isSome := by
  intro p hp;by_cases hc : ∀ j,p ≠ .c n j
  ·rwa [ho p hc] at hp
  ·exfalso;apply hc;rintro j rfl;unfold av at hp;simp [at_,rY] at hp
 have hlen : (H.take n).length = n := by simp; omega
 have zX : ∀ {b},(aJ (H.take n) b).isSome -> (aJ H b).isSome := by
  intro b hb;rw [rY] at hb;split at hb
  ·exact hb
  ·cases hb
 refine ⟨h.env,fun i => ?_,h.heap,fun p k xs e => ?_,fun b cs e => ?_,fun p q m e1 e2 => h.inj p q m (hs e1) (hs e2),fun b p e1 e2 => h.bx b p (zX e1) (hs e2),fun b c e1 e2 => h.bi b c (zX e1) (zX e2)⟩
 ·have := h.Hd i;simp only [hl] at this;simp only [hlen];exact Ky ho _ this (Fx he i)
 ·refine h.own p k xs ?_;by_cases hc : ∀ j,p ≠ .c n j
  ·rwa [ho p hc] at e
  ·exfalso;apply hc;rintro j rfl;unfold av at e;simp [at_,rY] at e
 ·simp only [rY] at e;split at e
  ·obtain ⟨as,g1,g2,g3⟩ := h.box b cs e;refine ⟨as,g1,g2,fun j c hc => ?_⟩;obtain ⟨k1,k2⟩ := g3 j c hc;refine ⟨?_,k2⟩;simp only [hl] at k1;simp only [hlen];refine Ky ho _ k1 (Fw (ye hH b cs ?_) j c hc);rw [rY,if_pos ‹_›];exact e
  ·cases e
theorem eF.trim {env : Env} {base0 : Nat} : ∀ (n : Nat) {H : Heap},eF X φ w N ⟨env,H⟩ Ha t -> eF X φ w N ⟨env,trim base0 env n H⟩ Ha t
 | 0,H,h => h
 | n + 1,H,h => by
   simp only [Go.Bm.trim];split
   ·rename_i hc;exact eF.trim n (h.afU hc.2.1 hc.2.2.1 hc.2.2.2)
   ·exact h
end
end Go.Bm

/- From the hand to a slot. -/
namespace Go.Bm
open Go.Am

mutual
theorem VY {N N' : Names} {m : Rt -> Rt} {g : AV -> AV} (eE : N'.β = N.β) (hg : ∀ k p a l,g (.c8 k p a l) = .c8 k (m p) a l /\ g (.ez k p a l) = .ez k (m p) a l) :
  ∀ x,(∀ p ∈ aK x,N'.ν (m p) = N.ν p) -> cF N' (cn g x) = cF N x
 | .c8 k p a l,h => by simp only [cn,(hg k p a l).1,cF]; rw [h p (by simp [aK])]
 | .ez k p a l,h => by simp only [cn,(hg k p a l).2,cF]; rw [h p (by simp [aK])]
 | .ptr b off,_ => by simp only [cn,cF,eE]
 | .agg cs,h => by simp only [cn,cF]; rw [DF eE hg cs (fun p hp => h p (by simpa [aK] using hp))]
 | .dp cs,h => by simp only [cn,cF]; rw [DF eE hg cs (fun p hp => h p (by simpa [aK] using hp))]
 | .func f a b,h => by
   simp only [cn,cF];rw [DF eE hg a (fun p hp => h p (by simp only [aK,aD]; exact .inl hp)),DF eE hg b (fun p hp => h p (by simp only [aK,aD]; exact .inr hp))]
 | .any,_ => rfl
 | .undef,_ => rfl
 | .eP,_ => rfl
 | .eT,_ => rfl
 | .dn,_ => rfl
 | .int _ _,_ => rfl
 | .bool _,_ => rfl
 | .str _,_ => rfl
 | .list _ _,_ => rfl
 | .dh _,_ => rfl
 | .own _ _,_ => rfl
 | .sl _ b _ _,_ => by simp only [cn,cF,eE]
theorem DF {N N' : Names} {m : Rt -> Rt} {g : AV -> AV} (eE : N'.β = N.β) (hg : ∀ k p a l,g (.c8 k p a l) = .c8 k (m p) a l /\ g (.ez k p a l) = .ez k (m p) a l) :
  ∀ cs,(∀ p ∈ cY cs,N'.ν (m p) = N.ν p) -> k8 N' (cV g cs) = k8 N cs
 | [],_ => rfl
 | x :: r,h => by
   simp only [cV,k8];rw [VY eE hg x (fun p hp => h p (by simp only [cY,aD]; exact .inl hp)),DF eE hg r (fun p hp => h p (by simp only [cY,aD]; exact .inr hp))]
end
mutual
theorem Mw {o o' : Rt -> Option (Nat × List AV)} {nb : Nat} {m : Rt -> Rt} {g : AV -> AV} (hg : ∀ k p a l,g (.c8 k p a l) = .c8 k (m p) a l /\ g (.ez k p a l) = .ez k (m p) a l) :
  ∀ x,(∀ p ∈ aK x,o' (m p) = o p) -> cD o nb x -> cD o' nb (cn g x)
 | .c8 k p a l,h,hk => by simp only [cn,(hg k p a l).1,cD] at hk ⊢; rw [h p (by simp [aK])]; exact hk
 | .ez k p a l,h,hk => by simp only [cn,(hg k p a l).2,cD] at hk ⊢; rw [h p (by simp [aK])]; exact hk
 | .ptr b off,_,hk => hk
 | .agg cs,h,hk => by simp only [cn,cD] at hk ⊢; exact Fl hg cs (fun p hp => h p (by simpa [aK] using hp)) hk
 | .dp cs,h,hk => by simp only [cn,cD] at hk ⊢; exact Fl hg cs (fun p hp => h p (by simpa [aK] using hp)) hk
 | .func f a b,h,hk => by
   simp only [cn,cD] at hk ⊢;exact ⟨Fl hg a (fun p hp => h p (by simp only [aK,aD]; exact .inl hp)) hk.1,Fl hg b (fun p hp => h p (by simp only [aK,aD]; exact .inr hp)) hk.2⟩
 | .any,_,_ => trivial
 | .undef,_,_ => trivial
 | .eP,_,_ => trivial
 | .eT,_,_ => trivial
 | .dn,_,_ => trivial
 | .int _ _,_,_ => trivial
 | .bool _,_,_ => trivial
 | .str _,_,_ => trivial
 | .list _ _,_,_ => trivial
 | .dh _,_,_ => trivial
 | .own _ _,_,_ => trivial
 | .sl _ _ _ _,_,h => h
theorem Fl {o o' : Rt -> Option (Nat × List AV)} {nb : Nat} {m : Rt -> Rt} {g : AV -> AV} (hg : ∀ k p a l,g (.c8 k p a l) = .c8 k (m p) a l /\ g (.ez k p a l) = .ez k (m p) a l) :
  ∀ cs,(∀ p ∈ cY cs,o' (m p) = o p) -> kF o nb cs -> kF o' nb (cV g cs)
 | [],_,_ => trivial
 | x :: r,h,hk => by
   simp only [cV,kF] at hk ⊢;exact ⟨Mw hg x (fun p hp => h p (by simp only [cY,aD]; exact .inl hp)) hk.1,Fl hg r (fun p hp => h p (by simp only [cY,aD]; exact .inr hp)) hk.2⟩
end
theorem kO {cs : List AV} {j : Nat} {c : AV} (h : cs[j]? = some c) {p : Rt} (hp : p ∈ aK c) : p ∈ cY cs := by
 induction cs generalizing j with
 | nil => simp at h
 | cons x r ih =>
   simp only [cY,aD];cases j with
   | zero => simp at h; subst h; exact .inl hp
   | succ j => exact .inr (ih (by simpa using h))
theorem xt {N N' : Names} {m : Rt -> Rt} {g : AV -> AV} (eE : N'.β = N.β) (hg : ∀ k p a l,g (.c8 k p a l) = .c8 k (m p) a l /\ g (.ez k p a l) = .ez k (m p) a l) {r r' : Rt} {x : AV} (hr : ∀ k xs,x = .own k xs -> N'.ν r' = N.ν r) (hx : ∀ p ∈ aK x,N'.ν (m p) = N.ν p) :
  jR N' r' (cn g x) = jR N r x := by
 have hL : kc g := fun k p a l => by rw [(hg k p a l).1,(hg k p a l).2]; exact ⟨⟨(fun cs e => by cases e),(fun k xs e => by cases e)⟩,⟨(fun cs e => by cases e),(fun k xs e => by cases e)⟩⟩
 by_cases ho : ∃ k xs,x = .own k xs
 ·obtain ⟨k,xs,rfl⟩ := ho;simp only [cn,jR,qP,hr k xs rfl]
 ·obtain ⟨e1,e2⟩ := JH (N := N) (N' := N') hL (r := r) (x := x) (fun k xs e => ho ⟨k,xs,e⟩);obtain ⟨_,e3⟩ := JH (N := N) (N' := N') hL (r := r') (x := x) (fun k xs e => ho ⟨k,xs,e⟩);rw [e1,e3,VY eE hg x hx]
theorem JG {N N' : Names} {m : Rt -> Rt} {g : AV -> AV} (eE : N'.β = N.β) (hg : ∀ k p a l,g (.c8 k p a l) = .c8 k (m p) a l /\ g (.ez k p a l) = .ez k (m p) a l) {i i' : Nat} {x : AV} (h1 : N'.ν (.s i') = N.ν (.s i)) (h2 : ∀ j,N'.ν (.sc i' j) = N.ν (.sc i j)) (hx : ∀ p ∈ aK x,N'.ν (m p) = N.ν p) :
  kJ N' i' (cn g x) = kJ N i x := by
 have hL : kc g := fun k p a l => by rw [(hg k p a l).1,(hg k p a l).2]; exact ⟨⟨(fun cs e => by cases e),(fun k xs e => by cases e)⟩,⟨(fun cs e => by cases e),(fun k xs e => by cases e)⟩⟩
 by_cases ha : ∃ cs,x = .agg cs
 ·obtain ⟨cs,rfl⟩ := ha;simp only [cn,kJ];congr 1;apply dA;intro j;rw [fg,fg,dU];simp only [dL];cases hc : cs[j]? with
  | none => rfl
  | some c =>
    simp only [cT];rw [xt eE hg (r := .sc i j) (fun _ _ _ => h2 j) (fun p hp => hx p (by simp only [aK]; exact kO hc hp))]
 ·have hn : jX x := fun cs e => ha ⟨cs,e⟩;have N9 : jX (cn g x) := lg hL hn
  have e1 : kJ N' i' (cn g x) = jR N' (.s i') (cn g x) := by
   generalize cn g x = y at N9;cases y <;> first | rfl | exact absurd rfl (N9 _)
  have e2 : kJ N i x = jR N (.s i) x := by cases x <;> first | rfl | exact absurd rfl (hn _)
  rw [e1,e2];exact xt eE hg (fun _ _ _ => h1) hx
section
variable {X : Nat -> Prop} {φ : dq} {w : World} {N : Names} {s s' : St} {Ha : Heap} {t t' : Nat -> Value} {B : Nat -> Nat} {base : Nat}
theorem zJ (i d : Nat) : ∀ k p a l,UF i d (.c8 k p a l) = .c8 k (jU i d p) a l /\ UF i d (.ez k p a l) = .ez k (jU i d p) a l := fun _ _ _ _ => ⟨rfl,rfl⟩
theorem A4 {i d : Nat} {p : Rt} (h : bt d p = false) : jU d i (jU i d p) = p := by
 cases p with
 | s j =>
   simp only [bt,decide_eq_false_iff_not] at h;simp only [jU];by_cases e : j = i
   ·subst e; simp [jU]
   ·simp [e,jU,h]
 | sc j l =>
   simp only [bt,decide_eq_false_iff_not] at h;simp only [jU];by_cases e : j = i
   ·subst e; simp [jU]
   ·simp [e,jU,h]
 | c b j => rfl
theorem MI {i d : Nat} {q : Rt} (h : bt i q = false) : jU i d (jU d i q) = q := A4 h
theorem eF.hand {i d : Nat} (h : eF X φ w N s Ha t) (pZ : i ≠ d) (hC : ∀ r x,at_ s r = some x -> ∀ p ∈ aK x,bt d p = false)
  (he : ∀ j,get s'.env j = if j = d then cn (UF i d) (get s.env i) else if j = i then .any else cn (UF i d) (get s.env j)) (hH : s'.H = fL (UF i d) s.H) (ht : ∀ j,j ≠ i -> t' j = if j = d then t i else t j) :
  ∃ N',N'.β = N.β /\ eF X φ w N' s' Ha t' := by
 have hg := zJ i d;have hL := afb i d
 have atq : ∀ q,bt i q = false -> at_ s' q = (at_ s (jU d i q)).map (cn (UF i d)) := by
  intro q hq;rw [<- jM hL];cases q with
  | s j =>
    simp only [bt,decide_eq_false_iff_not] at hq;simp only [at_,he,jU,bY];by_cases e : j = d
    ·simp [e,de,at_]
    ·simp [e,hq,de,at_]
  | sc j l =>
    simp only [bt,decide_eq_false_iff_not] at hq;simp only [at_,he,jU,bY];by_cases e : j = d
    ·simp [e,de,at_]
    ·simp [e,hq,de,at_]
  | c b j => simp only [at_,hH,jU,bY]
 have atn : ∀ q,bt i q = true -> av s' q = none := by
  intro q hq;cases q with
  | s j => simp only [bt,decide_eq_true_eq] at hq; subst hq; unfold av; simp [at_,he,pZ]
  | sc j l => simp only [bt,decide_eq_true_eq] at hq; subst hq; unfold av; simp [at_,he,pZ]
  | c b j => simp [bt] at hq
 have own : ∀ q,bt i q = false -> av s' q = av s (jU d i q) := by
  intro q hq;rw [<- ji hL s (jU d i q)];exact Kv (by rw [atq q hq,jM hL])
 have Uw : ∀ p,bt d p = false -> av s' (jU i d p) = av s p := by
  intro p hp
  have hi : bt i (jU i d p) = false := by
   cases p with
   | s j => simp only [jU]; split <;> simp_all [bt]; exact fun e => pZ e.symm
   | sc j l => simp only [jU]; split <;> simp_all [bt]; exact fun e => pZ e.symm
   | c b j => rfl
  rw [own _ hi,A4 hp]
 have hlen : s'.H.length = s.H.length := by rw [hH,fA]
 obtain ⟨N',eE,hN⟩ : ∃ N' : Names,N'.β = N.β /\ ∀ q,N'.ν q = N.ν (jU d i q) := ⟨⟨N.β,fun q => N.ν (jU d i q)⟩,rfl,fun _ => rfl⟩;have mI : ∀ p,bt d p = false -> N'.ν (jU i d p) = N.ν p := fun p hp => by rw [hN,A4 hp]
 refine ⟨N',eE,⟨fun j => ?_,fun j => ?_,h.heap,fun p k xs e => ?_,fun b cs e => ?_,fun p q n e1 e2 e3 e4 => ?_,fun b p e1 e2 e3 => ?_,fun b c e1 e2 e3 => ?_⟩⟩
 ·rw [he];by_cases U2 : j = d
  ·subst U2;rw [if_pos rfl,ht j (oV pZ),if_pos rfl];rw [JG (N := N) (i := i) eE hg (by simp [hN,jU]) (fun l => by simp [hN,jU]) (fun p hp => mI p (hC (.s i) _ rfl p hp))];exact h.env i
  ·rw [if_neg U2];by_cases Hh : j = i
   ·rw [if_pos Hh]; exact .any _ _
   ·rw [if_neg Hh,ht j Hh,if_neg U2];rw [JG (N := N) (i := j) eE hg (by simp [hN,jU,U2]) (fun l => by simp [hN,jU,U2]) (fun p hp => mI p (hC (.s j) _ rfl p hp))];exact h.env j
 ·rw [he,hlen];by_cases U2 : j = d
  ·rw [if_pos U2];exact Mw hg _ (fun p hp => Uw p (hC (.s i) _ rfl p hp)) (h.Hd i)
  ·rw [if_neg U2];by_cases Hh : j = i
   ·rw [if_pos Hh]; trivial
   ·rw [if_neg Hh];exact Mw hg _ (fun p hp => Uw p (hC (.s j) _ rfl p hp)) (h.Hd j)
 ·cases hq : bt i p with
  | true => rw [atn p hq] at e; cases e
  | false => rw [own p hq] at e; rw [hN]; exact h.own _ k xs e
 ·rw [hH,eV] at e;cases hb : aJ s.H b with
  | none => rw [hb] at e; cases e
  | some ds =>
    rw [hb] at e;simp at e;subst e;obtain ⟨as,g1,g2,g3⟩ := h.box b ds hb;refine ⟨as,by rw [eE]; exact g1,by rw [b6]; exact g2,fun j c hc => ?_⟩;rw [dU] at hc;cases hd : ds[j]? with
    | none => rw [hd] at hc; cases hc
    | some c0 =>
      rw [hd] at hc;simp at hc;subst hc;have hcc := fun p hp => hC (.c b j) c0 (by rw [vL hb]; exact hd) p hp;obtain ⟨k1,a,k2,k3⟩ := g3 j c0 hd;refine ⟨by rw [hlen]; exact Mw hg _ (fun p hp => Uw p (hcc p hp)) k1,a,k2,?_⟩;rw [xt (N := N) (r := .c b j) eE hg (fun _ _ _ => by rw [hN]; rfl) (fun p hp => mI p (hcc p hp))];exact k3
 ·have hp : bt i p = false := by
   cases hq : bt i p with
   | true => rw [atn p hq] at e1; cases e1
   | false => rfl
  have hq : bt i q = false := by
   cases hq : bt i q with
   | true => rw [atn q hq] at e2; cases e2
   | false => rfl
  rw [own p hp] at e1;rw [own q hq] at e2;rw [hN] at e3 e4;have := h.inj _ _ n e1 e2 e3 e4;rw [<- MI (d := d) hp,this,MI hq]
 ·have hp : bt i p = false := by
   cases hq : bt i p with
   | true => rw [atn p hq] at e2; cases e2
   | false => rfl
  rw [own p hp] at e2;rw [hN,eE] at e3;refine h.bx b _ ?_ e2 e3;rw [hH,eV] at e1;cases hb : aJ s.H b with
  | none => rw [hb] at e1; cases e1
  | some _ => rfl
 ·have sb : ∀ {b},(aJ s'.H b).isSome -> (aJ s.H b).isSome := by
   intro b hb;rw [hH,eV] at hb;cases e : aJ s.H b with
   | none => rw [e] at hb; cases hb
   | some _ => rfl
  rw [eE] at e3;exact h.bi b c (sb e1) (sb e2) e3
end
end Go.Bm

/- A value goes to its slot. -/
namespace Go.Bm
open Go.Am
mutual
theorem A0 {o : Rt -> Option (Nat × List AV)} {nb : Nat} : ∀ x,cD o nb x -> ∀ p ∈ aK x,(o p).isSome
 | .c8 k q a l,h,p,hp => by simp only [aK,cq] at hp; subst hp; simp only [cD] at h; obtain ⟨xs,e,_⟩ := h; rw [e]; rfl
 | .ez k q a l,h,p,hp => by simp only [aK,cq] at hp; subst hp; simp only [cD] at h; obtain ⟨xs,e,_⟩ := h; rw [e]; rfl
 | .agg cs,h,p,hp => by simp only [cD,aK] at h hp; exact zB cs h p hp
 | .dp cs,h,p,hp => by simp only [cD,aK] at h hp; exact zB cs h p hp
 | .func f a b,h,p,hp => by
   simp only [cD,aK,aD] at h hp;rcases hp with hp | hp
   ·exact zB a h.1 p hp
   ·exact zB b h.2 p hp
 | .any,_,p,hp => by simp [aK] at hp
 | .undef,_,p,hp => by simp [aK] at hp
 | .eP,_,p,hp => by simp [aK] at hp
 | .eT,_,p,hp => by simp [aK] at hp
 | .dn,_,p,hp => by simp [aK] at hp
 | .int _ _,_,p,hp => by simp [aK] at hp
 | .bool _,_,p,hp => by simp [aK] at hp
 | .str _,_,p,hp => by simp [aK] at hp
 | .list _ _,_,p,hp => by simp [aK] at hp
 | .dh _,_,p,hp => by simp [aK] at hp
 | .own _ _,_,p,hp => by simp [aK] at hp
 | .ptr _ _,_,p,hp => by simp [aK] at hp
 | .sl _ _ _ _,_,p,hp => by simp [aK] at hp
theorem zB {o : Rt -> Option (Nat × List AV)} {nb : Nat} : ∀ cs,kF o nb cs -> ∀ p ∈ cY cs,(o p).isSome
 | [],_,p,hp => by simp [cY] at hp
 | x :: r,h,p,hp => by
   simp only [kF,cY,aD] at h hp;rcases hp with hp | hp
   ·exact A0 x h.1 p hp
   ·exact zB r h.2 p hp
end
mutual
theorem qB {g : AV -> AV} {m : Rt -> Rt} (hg : ∀ k p a l,g (.c8 k p a l) = .c8 k (m p) a l /\ g (.ez k p a l) = .ez k (m p) a l) : ∀ x,(∀ p ∈ aK x,m p = p) -> cn g x = x
 | .c8 k p a l,h => by simp only [cn,(hg k p a l).1]; rw [h p (by simp [aK])]
 | .ez k p a l,h => by simp only [cn,(hg k p a l).2]; rw [h p (by simp [aK])]
 | .agg cs,h => by simp only [cn]; rw [pH hg cs (fun p hp => h p (by simpa [aK] using hp))]
 | .dp cs,h => by simp only [cn]; rw [pH hg cs (fun p hp => h p (by simpa [aK] using hp))]
 | .func f a b,h => by
   simp only [cn];rw [pH hg a (fun p hp => h p (by simp only [aK,aD]; exact .inl hp)),pH hg b (fun p hp => h p (by simp only [aK,aD]; exact .inr hp))]
 | .any,_ => rfl
 | .undef,_ => rfl
 | .eP,_ => rfl
 | .eT,_ => rfl
 | .dn,_ => rfl
 | .int _ _,_ => rfl
 | .bool _,_ => rfl
 | .str _,_ => rfl
 | .list _ _,_ => rfl
 | .dh _,_ => rfl
 | .own _ _,_ => rfl
 | .ptr _ _,_ => rfl
 | .sl _ _ _ _,_ => rfl
theorem pH {g : AV -> AV} {m : Rt -> Rt} (hg : ∀ k p a l,g (.c8 k p a l) = .c8 k (m p) a l /\ g (.ez k p a l) = .ez k (m p) a l) : ∀ cs,(∀ p ∈ cY cs,m p = p) -> cV g cs = cs
 | [],_ => rfl
 | x :: r,h => by
   simp only [cV];rw [qB hg x (fun p hp => h p (by simp only [cY,aD]; exact .inl hp)),pH hg r (fun p hp => h p (by simp only [cY,aD]; exact .inr hp))]
end
theorem Dn {g : AV -> AV} {m : Rt -> Rt} (hg : ∀ k p a l,g (.c8 k p a l) = .c8 k (m p) a l /\ g (.ez k p a l) = .ez k (m p) a l) : ∀ H : Heap,(∀ b cs,aJ H b = some cs -> ∀ p ∈ cY cs,m p = p) -> fL g H = H
 | [],_ => rfl
 | none :: r,h => by simp only [fL]; rw [Dn hg r (fun b cs hb => h (b + 1) cs (by simpa [aJ] using hb))]
 | some cs :: r,h => by simp only [fL]; rw [Dn hg r (fun b ds hb => h (b + 1) ds (by simpa [aJ] using hb)),pH hg cs (h 0 cs rfl)]
theorem kb {f : Rt -> Bool} : ∀ {l : List Rt},vO f l = false -> ∀ p ∈ l,f p = false
 | [],_,p,hp => by simp at hp
 | q :: r,h,p,hp => by
   simp only [vO,eM] at h;rcases aX.1 hp with e | e
   ·subst e; exact h.1
   ·exact kb h.2 p e
theorem pW {f : Rt -> Bool} : ∀ {e : Env},GK f e = false -> ∀ i,∀ p ∈ aK (get e i),f p = false
 | [],_,i,p,hp => by simp [Am.get,aK] at hp
 | (j,v) :: r,h,i,p,hp => by
   simp only [GK,eM] at h;simp only [Am.get] at hp;split at hp
   ·exact kb h.1 p hp
   ·exact pW h.2 i p hp
theorem s5 {f : Rt -> Bool} : ∀ {H : Heap},GI f H = false -> ∀ b cs,aJ H b = some cs -> ∀ p ∈ cY cs,f p = false
 | [],_,b,cs,hb,p,hp => by simp [aJ] at hb
 | none :: r,h,b,cs,hb,p,hp => by
   simp only [GI] at h;cases b with
   | zero => simp [aJ] at hb
   | succ b => exact s5 h b cs (by simpa [aJ] using hb) p hp
 | some ds :: r,h,b,cs,hb,p,hp => by
   simp only [GI,eM] at h;cases b with
   | zero => simp [aJ] at hb; subst hb; exact kb h.1 p hp
   | succ b => exact s5 h.2 b cs (by simpa [aJ] using hb) p hp
theorem K8 {cs : List AV} {p : Rt} (hp : p ∈ cY cs) : ∃ (j : Nat) (c : AV),cs[j]? = some c /\ p ∈ aK c := by
 induction cs with
 | nil => simp [cY] at hp
 | cons x r ih =>
   simp only [cY,aD] at hp;rcases hp with hp | hp
   ·exact ⟨0,x,rfl,hp⟩
   ·obtain ⟨j,c,h1,h2⟩ := ih hp;exact ⟨j + 1,c,by simpa using h1,h2⟩
theorem IX : ∀ (e : Env) (l : List Nat),∃ i,Am.get e i = .any /\ i ∉ l := by
 have key : ∀ e : Env,∃ n,∀ i,n <= i -> Am.get e i = .any := by
  intro e
  induction e with
  | nil => exact ⟨0,fun i _ => rfl⟩
  | cons p r ih =>
    obtain ⟨j,v⟩ := p;obtain ⟨n,hn⟩ := ih;refine ⟨max n (j + 1),fun i hi => ?_⟩;simp only [Am.get];rw [if_neg (by omega)];exact hn i (by omega)
 intro e l;obtain ⟨n,hn⟩ := key e
 have : ∃ m,∀ x ∈ l,x < m := by
  induction l with
  | nil => exact ⟨0,fun x hx => by simp at hx⟩
  | cons y r ih =>
    obtain ⟨m,hm⟩ := ih;refine ⟨max m (y + 1),fun x hx => ?_⟩;rcases aX.1 hx with e | e
    ·omega
    ·have := hm x e; omega
 obtain ⟨m,hm⟩ := this;exact ⟨max n m,hn _ (by omega),fun h => by have := hm _ h; omega⟩
section
variable {X : Nat -> Prop} {φ : dq} {w : World} {s s' : St} {t t' : Nat -> Value} {B : Nat -> Nat} {base : Nat} {v : AV} {v' : Value}
structure dS (X : Nat -> Prop) (φ : dq) (w : World) (B : Nat -> Nat) (base : Nat) (s : St) (v : AV) (t : Nat -> Value) (v' : Value) : Prop where
 st : SB X φ w B base s t
 ok : cD (av s) s.H.length v
 put : ∀ i,get s.env i = .any -> SB X φ w B base ⟨put s.env i v,s.H⟩ (fun j => if j = i then v' else t j)
theorem Lc {r : Rt} {x : AV} (h : SB X φ w B base s t) (hx : at_ s r = some x) : ∀ p ∈ aK x,(av s p).isSome := by
 obtain ⟨N,Ha,h,_⟩ := h;exact A0 x (h.zC hx)
theorem ab5 {b : Nat} {cs : List AV} (h : SB X φ w B base s t) (hb : aJ s.H b = some cs) : ∀ p ∈ cY cs,(av s p).isSome := by
 intro p hp;obtain ⟨j,c,h1,h2⟩ := K8 hp;exact Lc h (r := .c b j) (by rw [vL hb]; exact h1) p h2
theorem abb {i d : Nat} {p : Rt} (h : bt i p = false) : jU i d p = p := by
 cases p with
 | s j => simp only [bt,decide_eq_false_iff_not] at h; simp [jU,h]
 | sc j l => simp only [bt,decide_eq_false_iff_not] at h; simp [jU,h]
 | c b j => rfl
theorem sZ {i : Nat} {p : Rt} (hi : bJ (get s.env i) = false) (hp : (av s p).isSome) : bt i p = false := by
 obtain ⟨h1,h2⟩ := dV hi;cases p with
 | s j =>
   simp only [bt,decide_eq_false_iff_not];rintro rfl;rw [h1] at hp; cases hp
 | sc j l =>
   simp only [bt,decide_eq_false_iff_not];rintro rfl;rw [h2] at hp; cases hp
 | c b j => rfl
theorem SB.hand {i d : Nat} (h : SB X φ w B base s t) (pZ : i ≠ d) (hC : ∀ r x,at_ s r = some x -> ∀ p ∈ aK x,bt d p = false)
  (he : ∀ j,get s'.env j = if j = d then cn (UF i d) (get s.env i) else if j = i then .any else cn (UF i d) (get s.env j)) (hH : s'.H = fL (UF i d) s.H) (ht : ∀ j,j ≠ i -> t' j = if j = d then t i else t j) : SB X φ w B base s' t' := by
 obtain ⟨N,Ha,h,hb,hl⟩ := h;obtain ⟨N',e,h'⟩ := h.hand pZ hC he hH ht;exact ⟨N',Ha,h',fun b bz => by rw [e]; exact hb b bz,by rw [hH,fA]; exact hl⟩
theorem aeC (h : dS X φ w B base s v t v') {d : Nat} (hp : Us s d v = some s') (hd : d ≠ eL) (ht : ∀ j,t' j = if j = d then v' else t j) : ∃ φ',SB X φ' w B base s' t' /\ eZ φ w φ' w := by
 unfold Us at hp;split at hp
 ·split at hp
  case h_2 => cases hp
  rename_i Np;split at hp
  ·cases hp
  rename_i ho;simp at hp;subst hp;obtain ⟨n8,h1,a1⟩ := (h.put eL Np).z8 d;refine ⟨n8,h1.hand (i := eL) (d := d) (oV hd) (fun r x hx p hp => sZ (by simpa using ho) (Lc h1 hx p hp)) (fun j => ?_) ?_ (fun j hj => ?_),a1⟩
  ·simp only [KY,bw,bY,de]
  ·simp only [KY,bY]
  ·rw [ht,if_pos rfl,if_neg hj]
 ·rename_i hs;simp at hp;subst hp;obtain ⟨i,hi,pZ⟩ := IX s.env [d];have hid' : i ≠ d := fun e => pZ (by simp [e]);have hio : bJ (get s.env i) = false := by rw [hi]; rfl
  have IQ := h.put i hi;have MH : ∀ {p},(av s p).isSome -> jU i d p = p := fun hp => abb (sZ hio hp);refine ⟨φ,IQ.hand (i := i) (d := d) hid' (fun r x hx p hp => ?_) (fun j => ?_) ?_ (fun j hj => ?_),.refl _ _⟩
  ·simp only [LQ,aa,not_and,Bool.not_eq_true] at hs;cases hod : bJ (get s.env d) with
   | false =>
     refine sZ (s := ⟨put s.env i v,s.H⟩) (i := d) ?_ (Lc IQ hx p hp);simp only [bw];rw [if_neg (oV hid')];exact hod
   | true =>
     have hn := hs hod;simp only [GL,eM] at hn;cases r with
     | s j =>
       simp only [at_,bw,ai] at hx;subst hx;split at hp
       ·exact kb hn.1 p hp
       ·exact pW hn.2.1 j p hp
     | sc j l =>
       simp only [at_,bw] at hx;split at hx
       ·rename_i cs dx;split at dx
        ·subst dx;exact kb hn.1 p (by simp only [aK]; exact kO hx hp)
        ·exact pW hn.2.1 j p (by rw [dx]; simp only [aK]; exact kO hx hp)
       ·cases hx
     | c b l =>
       simp only [at_] at hx;split at hx
       ·rename_i cs dx;exact s5 hn.2.2 b cs dx p (kO hx hp)
       ·cases hx
  ·simp only [bw];by_cases U2 : j = d
   ·rw [if_pos U2,if_pos U2,if_pos trivial,qB (zJ i d) v (fun p hp => MH (A0 v h.ok p hp))]
   ·rw [if_neg U2,if_neg U2];by_cases Hh : j = i
    ·rw [if_pos Hh,Hh]; exact hi
    ·rw [if_neg Hh,if_neg Hh,qB (zJ i d) _ (fun p hp => MH (Lc h.st (r := .s j) rfl p hp))]
  ·exact (Dn (zJ i d) s.H (fun b cs hb p hp => MH (ab5 h.st hb p hp))).symm
  ·rw [ht,if_pos rfl,if_neg hj]
theorem aaV (h : dS X φ w B base s v t v') {d : Option Nat} (hp : w9 s d v = some s') (hd : d ≠ some eL) (ht : ∀ j,t' j = if some j = d then v' else t j) : ∃ φ',SB X φ' w B base s' t' /\ eZ φ w φ' w := by
 cases d with
 | none =>
   simp [w9] at hp;subst hp;refine ⟨φ,?_,.refl _ _⟩;obtain ⟨N,Ha,h1,hb⟩ := h.st;have : t' = t := by funext j; rw [ht,if_neg (by simp)]
   rw [this];exact ⟨N,Ha,h1,hb⟩
 | some d => exact aeC h (by simpa [w9] using hp) (fun e => hd (by rw [e])) (fun j => by rw [ht]; simp)
end
end Go.Bm

/- Operations that change nothing, in both machines. -/
namespace Go.Bm
open Go.Am

def yl : AV -> Bool
 | .bool _ | .int _ _ | .dn | .eP | .eT | .undef => true
 | _ => false
def mN : List AV -> Bool
 | [] => true
 | x :: r => yl x && mN r
def YG : AV -> Bool
 | .agg cs => mN cs
 | .func _ [] [] => true
 | x => yl x
theorem TJ {v : Value} {x : AV} (h : Jo v x = true) : yl x = true := by
 unfold Jo at h;split at h <;> first | rfl | cases h
theorem K3 : ∀ {vs : List Value} {xs : List AV},pN vs xs = true -> mN xs = true
 | [],[],_ => rfl
 | [],_ :: _,h => by simp [pN] at h
 | _ :: _,[],h => by simp [pN] at h
 | v :: r,x :: s,h => by
   simp only [pN,aa] at h;simp only [mN,aa];exact ⟨TJ h.1,K3 h.2⟩
theorem zR {x : AV} (h : yl x = true) : YG x = true := by cases x <;> first | (simp [yl] at h; done) | rfl | exact h
theorem afA {o : Operand} {a : AV} (h : cZ o (.k a) = true) : YG a = true := by
 unfold cZ at h;split at h
 ·rename_i hk; cases hk
 ·rename_i v x hk;cases hk;unfold chkV at h;split at h
  ·exact K3 h
  ·exact zR (TJ h)
 ·rename_i f g hk; cases hk; rfl
 ·rename_i hk; cases hk
 ·cases h
theorem V2 (N : Names) {x : AV} (h : yl x = true) : cF N x = x := by cases x <;> first | rfl | simp [yl] at h
theorem VZ (N : Names) : ∀ {xs : List AV},mN xs = true -> k8 N xs = xs
 | [],_ => rfl
 | x :: r,h => by
   simp only [mN,aa] at h;simp only [k8];rw [V2 N h.1,VZ N h.2]
theorem tr_c (N : Names) {x : AV} (h : YG x = true) : cF N x = x := by
 unfold YG at h;split at h
 ·simp only [cF]; rw [VZ N h]
 ·rfl
 ·exact V2 N h
theorem dn_c {x : AV} (h : YG (dnV x) = true) : (∃ k,x = .own k [] /\ dnV x = .dn) \/ (YG x = true /\ dnV x = x) := by
 unfold dnV at h ⊢;split
 ·exact .inl ⟨_,rfl,rfl⟩
 ·rename_i hn;split at h
  ·rename_i k; exact absurd rfl (hn k)
  ·exact .inr ⟨h,rfl⟩

def fB (N : Names) : AV -> AV
 | .own _ _ => .dn
 | x => cF N x
def iD (N : Names) : List AV -> List AV
 | [] => []
 | x :: r => fB N x :: iD N r
def v7 (N : Names) : AV -> AV
 | .own _ _ => .dn
 | .agg cs => .agg (iD N cs)
 | x => cF N x
def EO : AV -> Prop
 | .own _ xs => xs = []
 | .agg cs => ∀ (j k : Nat) (xs : List AV),cs[j]? = some (.own k xs) -> xs = []
 | _ => True
theorem nK (N : Names) : ∀ (cs : List AV) (i : Nat),(iD N cs)[i]? = (cs[i]?).map (fB N)
 | [],i => by simp [iD]
 | x :: r,i => by cases i <;> simp [iD,nK N r]
theorem jg (N : Names) : ∀ cs : List AV,(iD N cs).length = cs.length
 | [] => rfl
 | x :: r => by simp [iD,jg N r]
theorem kK (N : Names) : ∀ {cs : List AV},bI cs = false -> iD N cs = k8 N cs
 | [],_ => rfl
 | x :: r,h => by
   simp only [iD,k8];cases x <;> simp [bI] at h <;> rw [kK N h] <;> rfl
theorem lD (N : Names) {x : AV} (h : bJ x = false) : v7 N x = cF N x := by
 cases x <;> first | rfl | (simp [bJ] at h; done) | skip
 rename_i cs;simp only [bJ] at h;simp only [v7,cF];rw [kK N h]
theorem aam (N : Names) {x : AV} (h : ∀ cs,x = .agg cs -> bI cs = false) : fB N x = v7 N x := by
 cases x <;> first | rfl | skip
 rename_i cs;simp only [fB,cF,v7];rw [kK N (h cs rfl)]
theorem IC (f : Nat -> Rt) : ∀ (cs : List AV) (j : Nat),bI (dZ f j cs) = false
 | [],j => rfl
 | x :: r,j => by
   have ih := IC f r (j + 1);cases x <;> simp [dZ,bI,ih]
theorem MS (i : Nat) (v : AV) : bJ (ep i v) = false := by
 cases v <;> simp [ep,bJ]
 exact IC _ _ _
theorem Bb (f : Nat -> Rt) : ∀ (cs : List AV) (j i : Nat),(dZ f j cs)[i]? = (cs[i]?).map (fun x => match x with
  | .own k xs => .c8 k (f (j + i)) 0 xs.length
  | x => x)
 | [],j,i => by simp [dZ]
 | x :: r,j,i => by
   cases i with
   | zero => cases x <;> simp [dZ]
   | succ i =>
     have ih := Bb f r (j + 1) i;rw [show j + 1 + i = j + (i + 1) by omega] at ih;cases x <;> simp [dZ,ih]
theorem DG (N : Names) (f : Nat -> Rt) : ∀ (cs : List AV) (j : Nat),k8 N (dZ f j cs) = Ov N f j cs
 | [],j => rfl
 | x :: r,j => by
   have ih := DG N f r (j + 1);cases x <;> simp [dZ,k8,Ov,jR,ih]
   simp only [cF,qP,q8]
theorem QC (N : Names) (i : Nat) (v : AV) : cF N (ep i v) = kJ N i v := by
 cases v <;> first | rfl | skip
 ·simp only [ep,cF,kJ]; rw [DG]
 ·simp only [ep,cF,kJ,jR,qP,q8]
section
variable {X : Nat -> Prop} {φ : dq} {w : World} {N : Names} {s : St} {Ha : Heap} {t : Nat -> Value} {c : dR} {cA : Am.dR}
theorem adi {o : Rt -> Option (Nat × List AV)} {nb : Nat} {x : AV} (h : yl x = true) : cD o nb x := by cases x <;> first | trivial | simp [yl] at h
theorem X5 {o : Rt -> Option (Nat × List AV)} {nb : Nat} : ∀ {xs : List AV},mN xs = true -> kF o nb xs
 | [],_ => trivial
 | x :: r,h => by simp only [mN,aa] at h; exact ⟨adi h.1,X5 h.2⟩
theorem ok_c {o : Rt -> Option (Nat × List AV)} {nb : Nat} {x : AV} (h : YG x = true) : cD o nb x := by
 unfold YG at h;split at h
 ·exact X5 h
 ·exact ⟨trivial,trivial⟩
 ·exact adi h
theorem Bf : ∀ {xs : List AV},mN xs = true -> bI xs = false
 | [],_ => rfl
 | x :: r,h => by
   simp only [mN,aa] at h;have := Bf h.2;cases x <;> first | (simp [yl] at h; done) | simpa [bI] using this
theorem abi {x : AV} (h : YG x = true) : bJ x = false := by
 unfold YG at h;split at h
 ·exact Bf h
 ·rfl
 ·rename_i h1 h2;cases x <;> first | rfl | (simp [yl] at h; done)
theorem SM (h : eF X φ w N s Ha t) (i : Nat) : cD (av s) s.H.length (ep i (get s.env i)) := by
 have hk := h.Hd i;have uc : at_ s (.s i) = some (get s.env i) := rfl;cases hv : get s.env i <;> rw [hv] at hk uc <;> try exact hk
 ·rename_i cs;simp only [ep,cD] at hk ⊢;refine iY.2 fun j c hc => ?_;rw [Bb] at hc;cases hd : cs[j]? with
  | none => rw [hd] at hc; cases hc
  | some d =>
    rw [hd] at hc;simp only [cT,ai,dL] at hc;subst hc;have hdk := iY.1 hk j d hd;split
    ·rename_i k xs;simp only [cD];exact ⟨xs,bZ.2 (by rw [GG hv]; exact hd),by omega⟩
    ·exact hdk
 ·rename_i k xs;simp only [ep,cD];exact ⟨xs,bZ.2 uc,by omega⟩
structure oP (N : Names) (s : St) (c : dR) (cA : Am.dR) (x : E) : Prop where
 ev : Am.ev cA (yF N s.env) (mC x) = fB N (bp c s.env x)
 ok : cD (av s) s.H.length (bp c s.env x)
 eo : ∀ k xs,bp c s.env x = .own k xs -> xs = []
 na : ∀ cs,bp c s.env x = .agg cs -> bI cs = false
theorem cj (h : eF X φ w N s Ha t) (rT : cA.gl = c.gl) {o : Operand} {x : E} (hk : cZ o (mC x) = true) : oP N s c cA x := by
 cases x with
 | t i =>
   have hl := MS i (get s.env i);refine ⟨?_,SM h i,fun k xs e => ?_,fun cs e => ?_⟩
   ·simp only [mC,Am.ev,bp,mz];rw [<- QC];generalize ep i (get s.env i) = y at hl;cases y <;> first | rfl | simp [bJ] at hl
   ·simp only [bp] at e; rw [e] at hl; simp [bJ] at hl
   ·simp only [bp] at e; rw [e] at hl; exact hl
 | k a =>
   simp only [mC] at hk;rcases dn_c (afA hk) with ⟨k,rfl,e⟩ | ⟨hc,e⟩
   ·exact ⟨rfl,trivial,fun k' xs e => by simp only [bp,AV.own.injEq] at e; exact e.2.symm,fun cs e => by simp [bp] at e⟩
   ·refine ⟨?_,ok_c hc,fun k xs e' => ?_,fun cs e' => ?_⟩
    ·simp only [mC,Am.ev,bp,e];have := tr_c N hc;have hn := abi hc;cases a <;> first | exact this.symm | (simp [bJ] at hn; done)
    ·simp only [bp] at e'; rw [e'] at hc; simp [YG,yl] at hc
    ·simp only [bp] at e'; rw [e'] at hc; exact Bf hc
 | g i => exact ⟨by simp [mC,Am.ev,bp,fB,cF,rT],trivial,fun k xs e => by simp [bp] at e,fun cs e => by simp [bp] at e⟩
theorem oP.int {x : E} (h : oP N s c cA x) {k : IntKind} {n : Int} (e : bp c s.env x = .int k n) : Am.ev cA (yF N s.env) (mC x) = .int k n := by rw [h.ev,e]; rfl
theorem oP.bool {x : E} (h : oP N s c cA x) {b : Bool} (e : bp c s.env x = .bool b) : Am.ev cA (yF N s.env) (mC x) = .bool b := by rw [h.ev,e]; rfl
theorem rM (h : eF X φ w N s Ha t) (rT : cA.gl = c.gl) : ∀ {os : List Operand} {xs : List E},jk os (Bx xs) = true -> Am.Dx cA (yF N s.env) (Bx xs) = iD N (dt c s.env xs) /\ kF (av s) s.H.length (dt c s.env xs)
 | _,[],_ => ⟨rfl,trivial⟩
 | [],x :: r,hk => by simp [Bx,jk] at hk
 | o :: os,x :: r,hk => by
   simp only [Bx,jk,aa] at hk;obtain ⟨h1,h2⟩ := rM h rT hk.2;have h3 := cj (c := c) h rT hk.1;exact ⟨by simp only [Bx,Am.Dx,dt,iD,h1,h3.ev],h3.ok,h2⟩
theorem qY (h : eF X φ w N s Ha t) {k : Nat} {p : Rt} {off len : Nat} (ho : cD (av s) s.H.length (.c8 k p off len)) :
  (∃ n,N.ν p = some n /\ cF N (.c8 k p off len) = .sl k n (off * k) len) \/ (N.ν p = none /\ off = 0 /\ len = 0 /\ cF N (.c8 k p off len) = .dn) := by
 simp only [cD] at ho;obtain ⟨xs,h1,h2⟩ := ho;cases mI : N.ν p with
 | some n => exact .inl ⟨n,rfl,by simp [cF,mI]⟩
 | none =>
   have := h.own p k xs h1;rw [mI] at this;have hx : xs = [] := this;subst hx;simp at h2;exact .inr ⟨rfl,h2.1,h2.2,by simp [cF,mI]⟩
theorem Fc (h : eF X φ w N s Ha t) {k : Nat} {p : Rt} {i off : Nat} (ho : cD (av s) s.H.length (.ez k p i off)) : ∃ n,N.ν p = some n /\ cF N (.ez k p i off) = .ptr n (i * k + off) := by
 simp only [cD] at ho;obtain ⟨xs,h1,h2⟩ := ho;cases mI : N.ν p with
 | some n => exact ⟨n,rfl,by simp [cF,mI]⟩
 | none =>
   have := h.own p k xs h1;rw [mI] at this;have hx : xs = [] := this;subst hx;simp at h2
end
end Go.Bm

/- Operations that change nothing: the older machine does the same. -/
namespace Go.Bm
open Go.Am
section
variable {P : Program}
theorem afw {op : Op} {y : E} (h : cN P op (.mv y) = true) : ∃ x,cZ x y = true := by
 unfold cN at h; split at h <;> simp_all <;> exact ⟨_,h⟩
theorem ZO {op : Op} {a b d : E} (h : cN P op (.pick a b d) = true) : (∃ x,cZ x a = true) /\ (∃ x,cZ x b = true) /\ ∃ x,cZ x d = true := by
 unfold cN at h; split at h <;> simp_all; exact ⟨⟨_,h.1.1⟩,⟨_,h.1.2⟩,⟨_,h.2⟩⟩
theorem abX {op : Op} {y : E} (h : cN P op (.box y) = true) : ∃ x,cZ x y = true := by
 unfold cN at h; split at h <;> simp_all; exact ⟨_,h⟩
theorem Vk {op : Op} {y : E} (h : cN P op (.mu y) = true) : ∃ x,cZ x y = true := by
 unfold cN at h; split at h <;> simp_all; exact ⟨_,h⟩
theorem abY {op : Op} {bo : BinOp} {a b : E} (h : cN P op (.bin bo a b) = true) : (∃ x,cZ x a = true) /\ ∃ x,cZ x b = true := by
 unfold cN at h; split at h <;> simp_all; exact ⟨⟨_,h.1.2⟩,⟨_,h.2⟩⟩
theorem afz {op : Op} {ng : Bool} {t : Et} {a b : E} (h : cN P op (.eq ng t a b) = true) : (∃ x,cZ x a = true) /\ ∃ x,cZ x b = true := by
 unfold cN at h; split at h <;> simp_all; exact ⟨⟨_,h.1.2⟩,⟨_,h.2⟩⟩
theorem afu {op : Op} {uo : UnOp} {y : E} (h : cN P op (.un uo y) = true) : ∃ x,cZ x y = true := by
 unfold cN at h; split at h <;> simp_all; exact ⟨_,h.2⟩
theorem abV {op : Op} {k : IntKind} {y : E} (h : cN P op (.De k y) = true) : ∃ x,cZ x y = true := by
 unfold cN at h; split at h <;> simp_all; exact ⟨_,h.2⟩
theorem abL {op : Op} {fn : Fn} {a b : List E} (h : cN P op (.MK fn a b) = true) : (∃ x,jk x a = true) /\ ∃ x,jk x b = true := by
 unfold cN at h; split at h <;> simp_all; exact ⟨⟨_,h.1.2⟩,⟨_,h.2⟩⟩
theorem TG {op : Op} {k : Nat} {zs : List AV} {a b : E} (h : cN P op (.KF k zs a b) = true) : (∃ t,jc P t k = true /\ iJ P t zs = true) /\ (∃ x,cZ x a = true) /\ ∃ x,cZ x b = true := by
 unfold cN at h; split at h <;> simp_all; exact ⟨⟨_,h.1.1⟩,⟨_,h.1.2⟩,⟨_,h.2⟩⟩
theorem abT {op : Op} {off : Nat} {y : E} (h : cN P op (.cH off y) = true) : ∃ x,cZ x y = true := by
 unfold cN at h; split at h <;> simp_all; exact ⟨_,h.2⟩
theorem TH {op : Op} {n : Nat} {y : E} {hi : Option E} (h : cN P op (.Hw n y hi) = true) : (∃ x,cZ x y = true) /\ ∀ e,hi = some e -> ∃ x,cZ x e = true := by
 unfold cN at h; split at h <;> simp_all
 refine ⟨⟨_,h.2.1⟩,fun e he => ?_⟩;subst he; have := h.2.2; unfold pQ at this; split at this <;> simp_all; exact ⟨_,this⟩
theorem abS {op : Op} {off : Nat} {ag : Option Nat} {y : E} (h : cN P op (.Vb off ag y) = true) : ∃ x,cZ x y = true := by
 unfold cN at h; split at h <;> simp_all; exact ⟨_,h.2⟩
theorem abR {op : Op} {k : Nat} {a b : E} (h : cN P op (.fa k a b) = true) : (∃ x,cZ x a = true) /\ ∃ x,cZ x b = true := by
 unfold cN at h; split at h <;> simp_all; exact ⟨⟨_,h.1.2⟩,⟨_,h.2⟩⟩
theorem abQ {op : Op} {n k : Nat} {a b : E} (h : cN P op (.He n k a b) = true) : (∃ x,cZ x a = true) /\ ∃ x,cZ x b = true := by
 unfold cN at h; split at h <;> simp_all; exact ⟨⟨_,h.1.2⟩,⟨_,h.2⟩⟩
theorem afy {op : Op} {n k : Nat} {ag : Option Nat} {a b : E} (h : cN P op (.ix n k ag a b) = true) : (∃ x,cZ x a = true) /\ ∃ x,cZ x b = true := by
 unfold cN at h; split at h <;> simp_all; exact ⟨⟨_,h.1.2⟩,⟨_,h.2⟩⟩
theorem abU {op : Op} {i : Nat} {y : E} (h : cN P op (.ext i y) = true) : ∃ x,cZ x y = true := by
 unfold cN at h; split at h <;> simp_all; exact ⟨_,h.2⟩
theorem abP {op : Op} {tab : List Nat} {y : E} (h : cN P op (.UP tab y) = true) : ∃ x,cZ x y = true := by
 unfold cN at h; split at h <;> simp_all; exact ⟨_,h.2⟩
theorem abO {op : Op} {y : E} (h : cN P op (.len y) = true) : ∃ x,cZ x y = true := by
 unfold cN at h; split at h <;> simp_all
 split at h <;> simp_all; exact ⟨_,h.2⟩
theorem abM {op : Op} {ys : List E} (h : cN P op (.min ys) = true) : ∃ x,jk x ys = true := by
 unfold cN at h; split at h <;> simp_all; exact ⟨_,h⟩
theorem abN {op : Op} {ys : List E} (h : cN P op (.max ys) = true) : ∃ x,jk x ys = true := by
 unfold cN at h; split at h <;> simp_all; exact ⟨_,h⟩
theorem abJ {op : Op} {k : Nat} {y : E} {lo hi : Option E} (h : cN P op (.GY k y lo hi) = true) : (∃ x,cZ x y = true) /\ (∀ e,lo = some e -> ∃ x,cZ x e = true) /\ ∀ e,hi = some e -> ∃ x,cZ x e = true := by
 unfold cN at h; split at h <;> simp_all
 refine ⟨⟨_,h.1.1.2⟩,fun e he => ?_,fun e he => ?_⟩
 ·subst he; have := h.1.2; unfold pQ at this; split at this <;> simp_all; exact ⟨_,this⟩
 ·subst he; have := h.2; unfold pQ at this; split at this <;> simp_all; exact ⟨_,this⟩
theorem wN {place : Nat -> Option (Nat × Nat)} : ∀ {ps : List (Nat × Operand)} {qs : List (Nat × Nat × E)},pO place ps qs = true -> ∀ q ∈ qs,∃ x,cZ x q.2.2 = true
 | [],[],_,q,hq => by simp at hq
 | [],_ :: _,h,_,_ => by simp [pO] at h
 | _ :: _,[],h,_,_ => by simp [pO] at h
 | p :: r,q :: s,h,q',hq => by
   simp only [pO,aa] at h;rcases aX.1 hq with e | e
   ·subst e; exact ⟨_,h.1.2⟩
   ·exact wN h.2 q' e
theorem Vm {op : Op} {zs : List AV} {ps : List (Nat × Nat × E)} (h : cN P op (.build zs ps) = true) : (∃ t,oa P t zs = true) /\ ∀ q ∈ ps,∃ x,cZ x q.2.2 = true := by
 unfold cN at h; split at h <;> simp_all
 obtain ⟨h1,h2⟩ := h;refine ⟨⟨_,h1⟩,?_⟩;split at h2
 ·simp_all; exact fun a b e hq => wN h2.2 (a,b,e) hq
 ·split at h2
  ·exact fun a b e hq => wN h2 (a,b,e) hq
  ·cases h2
 ·cases h2
theorem Qf {op : Op} {k n : Nat} {zs : List AV} {ps : List (Nat × Nat × E)} (h : cN P op (.c5 k n zs ps) = true) : (∃ t,jc P t k = true /\ iJ P t zs = true) /\ ∀ q ∈ ps,∃ x,cZ x q.2.2 = true := by
 unfold cN at h; split at h <;> simp_all
 exact ⟨⟨_,h.1.1.1.2,h.1.1.2⟩,fun a b e hq => wN h.2 (a,b,e) hq⟩
theorem afx {op : Op} {ag : Option Nat} {y : E} (h : cN P op (.ld ag y) = true) : ∃ x,cZ x y = true := by
 unfold cN at h; split at h <;> simp_all; exact ⟨_,h.2⟩
theorem afv {op : Op} {k : Nat} {a b : E} (h : cN P op (.st k a b) = true) : (∃ x,cZ x a = true) /\ ∃ x,cZ x b = true := by
 unfold cN at h; split at h <;> simp_all; exact ⟨⟨_,h.1.2⟩,⟨_,h.2⟩⟩
theorem abK {op : Op} {zs : List AV} (h : cN P op (.new zs) = true) : ∃ t,oa P t zs = true := by
 unfold cN at h; split at h <;> simp_all; exact ⟨_,h⟩
theorem abW {op : Op} {k : Nat} {zs : List AV} {y : E} (h : cN P op (.Vh k zs y) = true) : (∃ t,jc P t k = true /\ iJ P t zs = true) /\ ∃ x,cZ x y = true := by
 unfold cN at h; split at h <;> simp_all
 split at h <;> simp_all; exact ⟨⟨_,h.1.1,h.1.2⟩,⟨_,h.2⟩⟩
theorem TI {op : Op} {k : Nat} {a b : E} (h : cN P op (.app k a b) = true) : (∃ x,cZ x a = true) /\ ∃ x,cZ x b = true := by
 unfold cN at h; split at h <;> simp_all
 split at h <;> simp_all; exact ⟨⟨_,h.1.2⟩,⟨_,h.2⟩⟩
theorem NL {op : Op} {k : Nat} {a b : E} (h : cN P op (.copy k a b) = true) : (∃ x,cZ x a = true) /\ ∃ x,cZ x b = true := by
 unfold cN at h; split at h <;> simp_all
 split at h <;> simp_all; exact ⟨⟨_,h.1.2⟩,⟨_,h.2⟩⟩
theorem re {t : TypeId} {zs : List AV} (h : oa P t zs = true) : mN zs = true /\ bq zs = true := by
 unfold oa at h;split at h
 ·split at h
  ·simp only [aa] at h; exact ⟨K3 h.1,h.2⟩
  ·cases h
 ·cases h
end
end Go.Bm

/- Operations that change nothing: what they give. -/
set_option linter.unusedVariables false
namespace Go.Bm
open Go.Am
section
variable {P : Program} {X : Nat -> Prop} {φ : dq} {w : World} {N : Names} {s : St} {Ha : Heap} {t : Nat -> Value} {c : dR} {cA : Am.dR} {call : Nat -> List AV -> Heap -> Option (AV × Heap)}
theorem rj (N : Names) (cs : List AV) : iD N cs = cs.map (fB N) := by
 induction cs with
 | nil => rfl
 | cons x r ih => simp [iD,ih]
theorem QE (N : Names) (cs : List AV) : k8 N cs = cs.map (cF N) := by
 induction cs with
 | nil => rfl
 | cons x r ih => simp [k8,ih]
theorem oP.EO {x : E} (h : oP N s c cA x) : EO (bp c s.env x) := by
 cases e : bp c s.env x <;> simp only [Go.Bm.EO]
 ·rename_i cs;intro j k xs hj;exfalso;have := h.na cs e;clear e
  induction cs generalizing j with
  | nil => simp at hj
  | cons y r ih =>
    cases j with
    | zero => simp at hj; subst hj; simp [bI] at this
    | succ j => exact ih j (by simpa using hj) (by cases y <;> simp [bI] at this <;> exact this)
 ·exact h.eo _ _ e
theorem oP.evQ {x : E} (h : oP N s c cA x) : Am.ev cA (yF N s.env) (mC x) = v7 N (bp c s.env x) := by rw [h.ev,aam N h.na]
theorem KJ (h : eF X φ w N s Ha t) {x : AV} (hl : x.leaf = true) (hk : cD (av s) s.H.length x) : (fB N x).leaf = true := by
 cases x <;> first | rfl | (simp [AV.leaf] at hl; done) | skip
 ·rename_i k p off len;simp only [fB,cF];cases N.ν p <;> rfl
 ·rename_i k p i off;obtain ⟨n,_,e⟩ := Fc h hk;simp only [fB,e,AV.leaf]
theorem s6 (h : eF X φ w N s Ha t) : ∀ {cs : List AV},bq cs = true -> kF (av s) s.H.length cs -> bq (iD N cs) = true
 | [],_,_ => rfl
 | x :: r,hl,hk => by
   simp only [bq,aa] at hl;simp only [iD,bq,aa];exact ⟨KJ h hl.1 hk.1,s6 h hl.2 hk.2⟩
theorem Gw (N : Names) {x : AV} (hn : ∀ cs,x = .agg cs -> bI cs = false) : (fB N x).cells = iD N x.cells := by
 cases x <;> first | rfl | skip
 ·rename_i cs; simp only [fB,cF,AV.cells]; rw [kK N (hn cs rfl)]
 ·rename_i k p off len;simp only [fB,cF,AV.cells,iD];cases N.ν p <;> rfl
 ·rename_i k p i off;simp only [fB,cF,AV.cells,iD];cases N.ν p <;> rfl
theorem vc {o : Rt -> Option (Nat × List AV)} {nb : Nat} {x : AV} (h : cD o nb x) : kF o nb x.cells := by
 cases x <;> first | exact ⟨h,trivial⟩ | exact h
theorem My {o : Rt -> Option (Nat × List AV)} {nb n : Nat} {cs : List AV} (h : kF o nb cs) : kF o nb (cs.take n) :=
 iY.2 fun i c hc => iY.1 h i c (by rw [bB] at hc; split at hc; exact hc; cases hc)
theorem zE {o : Rt -> Option (Nat × List AV)} {nb n : Nat} {cs : List AV} (h : kF o nb cs) : kF o nb (cs.drop n) :=
 iY.2 fun i c hc => iY.1 h (n + i) c (by rw [aS] at hc; exact hc)
theorem pE {o : Rt -> Option (Nat × List AV)} {nb : Nat} : ∀ {cs ds : List AV},kF o nb cs -> kF o nb ds -> kF o nb (cs ++ ds)
 | [],_,_,h => h
 | x :: r,_,h,k => ⟨h.1,pE h.2 k⟩
theorem aba {o : Rt -> Option (Nat × List AV)} {nb off : Nat} {cs ds : List AV} (h : kF o nb cs) (k : kF o nb ds) : kF o nb (jK cs off ds) := pE (pE (My h) k) (zE h)
theorem adK (N : Names) (cs ds : List AV) (off : Nat) : iD N (jK cs off ds) = jK (iD N cs) off (iD N ds) := by
 simp only [rj,jK,List.map_append,List.map_take,List.map_drop,iM]
def TP (cs : List AV) : Prop := ∀ (j k : Nat) (xs : List AV),cs[j]? = some (.own k xs) -> xs = []
theorem TP.jK {cs ds : List AV} {off : Nat} (h : TP cs) (k : TP ds) : TP (Am.jK cs off ds) := by
 intro j kk xs hj;have := aW hj;simp only [Am.jK,aD] at this
 have mem : ∀ {l : List AV},TP l -> (.own kk xs) ∈ l -> xs = [] := fun hl hm => by
  obtain ⟨i,hi⟩ := bA hm;exact hl i _ _ hi
 rcases this with (hm | hm) | hm
 ·exact mem h (cP hm)
 ·exact mem k hm
 ·exact mem h (cQ hm)
theorem oP.TP {x : E} (h : oP N s c cA x) : TP (bp c s.env x).cells := by
 have he := h.EO;cases e : bp c s.env x <;> rw [e] at he <;> simp only [AV.cells] <;> first | exact he | skip
 all_goals
  intro j k xs hj;cases j with
  | zero => simp at hj <;> exact hj.2 ▸ (by first | exact he | exact he)
  | succ j => simp at hj
theorem qE (h : eF X φ w N s Ha t) (rT : cA.gl = c.gl) : ∀ {ps : List (Nat × Nat × E)} {zs cs : List AV},(∀ q ∈ NF ps,∃ x,cZ x q.2.2 = true) -> kF (av s) s.H.length zs -> TP zs -> oT c s.env zs ps = some cs ->
  nW cA (yF N s.env) (iD N zs) (NF ps) = some (iD N cs) /\ kF (av s) s.H.length cs /\ TP cs /\ cs.length = zs.length
 | [],zs,cs,_,hz,he,hf => by simp [oT] at hf; subst hf; exact ⟨rfl,hz,he,rfl⟩
 | (off,sz,x) :: r,zs,cs,hq,hz,he,hf => by
   simp only [oT] at hf;split at hf
   case isFalse => cases hf
   rename_i hc;obtain ⟨c1,c2,c3⟩ := hc;obtain ⟨o,ho⟩ := hq (off,sz,mC x) (by simp [NF]);have hx := cj (c := c) (cA := cA) h rT ho;have kA := Gw N hx.na;obtain ⟨k1,k2,k3,k4⟩ := qE h rT (ps := r) (fun q hq' => hq q (by simp [NF,hq'])) (aba hz (vc hx.ok)) (he.jK hx.TP) hf;refine ⟨?_,k2,k3,?_⟩
   ·simp only [NF,nW,hx.ev,kA];rw [if_pos ⟨by rw [jg]; exact c1,by rw [jg]; exact c2,s6 h c3 (vc hx.ok)⟩,<- adK];exact k1
   ·rw [k4]; exact fk (by omega)
theorem Ab (N : Names) : ∀ {zs : List AV},mN (sU zs) = true -> sU zs = iD N zs /\ TP zs
 | [],_ => ⟨rfl,fun j k xs h => by simp at h⟩
 | x :: r,h => by
   simp only [sU,mN,aa] at h;obtain ⟨h1,h2⟩ := Ab N h.2;rcases dn_c (zR h.1) with ⟨k,rfl,e⟩ | ⟨hc,e⟩
   ·refine ⟨by simp only [sU,iD,h1,e,fB],fun j k xs hj => ?_⟩;cases j with
    | zero => simp at hj; exact hj.2
    | succ j => exact h2 j k xs (by simpa using hj)
   ·rw [e] at h;refine ⟨?_,fun j k xs hj => ?_⟩
    ·simp only [sU,iD,h1,e];congr 1;have := V2 N h.1;cases x <;> first | exact this.symm | (simp [yl] at h; done)
    ·cases j with
     | zero => simp at hj; subst hj; simp [yl] at h
     | succ j => exact h2 j k xs (by simpa using hj)
theorem zA {o : Rt -> Option (Nat × List AV)} {nb : Nat} : ∀ {zs : List AV},mN (sU zs) = true -> kF o nb zs
 | [],_ => trivial
 | x :: r,h => by
   simp only [sU,mN,aa] at h;rcases dn_c (zR h.1) with ⟨k,rfl,e⟩ | ⟨hc,e⟩
   ·exact ⟨trivial,zA h.2⟩
   ·exact ⟨ok_c hc,zA h.2⟩
theorem PY (N : Names) : ∀ {l : List Bool} {xs ys : List AV} {e : Bool},tO l xs ys = some e -> tO l (iD N xs) (iD N ys) = some e
 | [],[],[],e,h => h
 | true :: l,x :: r,y :: s,e,h => by
   cases x <;> try (simp [tO] at h; done)
   cases y <;> try (simp [tO] at h; done)
   simp only [tO,iD,fB,cF] at h ⊢;split at h
   ·rename_i hk;rw [if_pos hk];split at h
    ·rename_i e' he;rw [PY N he];exact h
    ·cases h
   ·cases h
 | false :: l,x :: r,y :: s,e,h => by
   cases x <;> try (simp [tO] at h; done)
   cases y <;> try (simp [tO] at h; done)
   simp only [tO,iD,fB,cF] at h ⊢;split at h
   ·rename_i e' he;rw [PY N he];exact h
   ·cases h
 | [],x :: r,ys,e,h => by simp [tO] at h
 | [],[],y :: s,e,h => by simp [tO] at h
 | b :: l,[],ys,e,h => by cases b <;> simp [tO] at h
 | b :: l,x :: r,[],e,h => by cases b <;> cases x <;> simp [tO] at h
theorem S3 (N : Names) (mx : Bool) : ∀ {xs : List AV} {x v : AV},zK mx x xs = some v -> (∃ k n,x = .int k n) -> zK mx x (iD N xs) = some v /\ ∃ k n,v = .int k n
 | [],x,v,h,hx => by simp [zK] at h; subst h; exact ⟨rfl,hx⟩
 | y :: r,x,v,h,hx => by
   obtain ⟨k,n,rfl⟩ := hx;cases y <;> try (simp [zK] at h; done)
   simp only [zK,iD,fB,cF] at h ⊢;exact S3 N mx h ⟨_,_,rfl⟩
theorem S4 (N : Names) {mx : Bool} {xs : List AV} {v : AV} (h : yg mx xs = some v) : yg mx (iD N xs) = some v /\ ∃ k n,v = .int k n := by
 cases xs with
 | nil => simp [yg] at h
 | cons y r =>
   cases y <;> try (simp [yg] at h; done)
   simp only [yg,iD,fB,cF] at h ⊢;exact S3 N mx h ⟨_,_,rfl⟩
theorem acb {op : BinOp} {x y v : AV} (h : oM op x y = some v) : (∃ k n,x = .int k n) /\ (∃ k n,y = .int k n) /\ ((∃ k n,v = .int k n) \/ ∃ b,v = .bool b) := by
 unfold oM at h;split at h
 case h_2 => cases h
 refine ⟨⟨_,_,rfl⟩,⟨_,_,rfl⟩,?_⟩;split at h
 ·split at h
  ·cases h
  ·simp at h; exact .inl ⟨_,_,h.symm⟩
 ·split at h
  ·cases h
  ·simp at h; exact .inl ⟨_,_,h.symm⟩
 ·split at h
  ·unfold arith at h
   split at h <;> first
    | (simp at h; exact .inl ⟨_,_,h.symm⟩)
    | (simp at h; exact .inr ⟨_,h.symm⟩)
    | (split at h
       ·cases h
       ·simp at h; exact .inl ⟨_,_,h.symm⟩)
    | cases h
  ·cases h
theorem LX {v : AV} (h : (∃ k n,v = .int k n) \/ ∃ b,v = .bool b) (o : Rt -> Option (Nat × List AV)) (nb : Nat) : v7 N v = v /\ cD o nb v /\ EO v := by
 rcases h with ⟨k,n,rfl⟩ | ⟨b,rfl⟩ <;> exact ⟨rfl,trivial,trivial⟩
theorem OP (N : Names) {ag : Option Nat} {cs : List AV} {v : AV} {o : Rt -> Option (Nat × List AV)} {nb : Nat} (h : JV ag cs = some v) (hk : kF o nb cs) : Ay ag (k8 N cs) = some (v7 N v) /\ cD o nb v /\ EO v /\ bJ v = false := by
 unfold JV at h;split at h
 case h_2 => cases h
 rename_i v' hr;split at h
 ·cases h
 rename_i ho;simp at h ho;subst h
 have he : EO v' := by
  cases v' <;> simp only [EO] <;> try (simp [bJ] at ho; done)
  rename_i ds;intro j k xs hj;exfalso;simp only [bJ] at ho;clear hr
  induction ds generalizing j with
  | nil => simp at hj
  | cons y r ih =>
    cases j with
    | zero => simp at hj; subst hj; simp [bI] at ho
    | succ j => exact ih (by cases y <;> simp [bI] at ho <;> exact ho) j (by simpa using hj)
 unfold Ay at hr ⊢;cases ag with
 | some k =>
   simp only at hr ⊢;split at hr
   case isFalse => cases hr
   rename_i hle;simp at hr;subst hr;rw [if_pos (by rw [dO]; exact hle),lD N ho];exact ⟨by simp only [cF,QE,List.map_take],My hk,he,ho⟩
 | none =>
   simp only at hr ⊢;cases cs with
   | nil => cases hr
   | cons x r =>
     simp at hr;subst hr;rw [lD N ho];exact ⟨by simp [k8],hk.1,he,ho⟩
theorem DJ (N : Names) (cs : List AV) (n : Nat) : (k8 N cs).drop n = k8 N (cs.drop n) := by simp only [QE,List.map_drop]
end
end Go.Bm

/- Operations that change nothing: the older machine does the same. -/
namespace Go.Bm
open Go.Am
section
variable {P : Program} {X : Nat -> Prop} {φ : dq} {w : World} {N : Names} {s : St} {Ha : Heap} {t : Nat -> Value} {c : dR} {cA : Am.dR} {call : Nat -> List AV -> Heap -> Option (AV × Heap)}
theorem Qi (h : eF X φ w N s Ha t) (rT : cA.gl = c.gl) {d m n : Nat} {x : Option E} (hk : ∀ e,dnO x = some e -> ∃ o,cZ o e = true) (hb : yC c s.env d m x = some n) : Ag cA (yF N s.env) d m (dnO x) = some n := by
 cases x with
 | none => exact hb
 | some x =>
   obtain ⟨o,ho⟩ := hk _ rfl;simp only [yC] at hb;simp only [dnO,Ag];cases e : bp c s.env x <;> rw [e] at hb <;> try (simp [bnd] at hb; done)
   rw [(cj (c := c) (cA := cA) h rT ho).int e];exact hb
theorem Bl {x : AV} {n m : Nat} (h : idx x n = some m) : ∃ k i,x = .int k i /\ idx (.int k i) n = some m /\ m < n := by
 unfold idx at h;split at h
 ·rename_i k i;refine ⟨k,i,rfl,h,?_⟩;split at h
  ·simp at h; omega
  ·cases h
 ·cases h
theorem S8 (h : eF X φ w N s Ha t) {x : E} (hx : oP N s c cA x) {n : Nat} (hl : PJ (bp c s.env x) = some n) : Yy (Am.ev cA (yF N s.env) (mC x)) = some n := by
 rw [hx.ev];have hk := hx.ok;cases e : bp c s.env x <;> rw [e] at hl hk <;> try (simp [PJ] at hl; done)
 ·exact hl
 ·exact hl
 ·exact hl
 ·rename_i k xs;have := hx.eo k xs e;subst this;exact hl
 ·rename_i k p off len;simp only [PJ] at hl;cases hl;simp only [fB];rcases qY h hk with ⟨m,_,e2⟩ | ⟨_,_,rfl,e2⟩ <;> rw [e2] <;> rfl
theorem aeD (h : eF X φ w N s Ha t) (rT : cA.gl = c.gl) {op : Op} {kd : Kd} {v : AV} (hk : cN P op (mB kd) = true) (hs : Pc c s.env kd = some v) :
  fc cA call (yF N s.env) Ha (mB kd) = some (v7 N v,Ha,.no) /\ cD (av s) s.H.length v /\ EO v := by
 cases kd <;> simp only [Pc,reduceCtorEq] at hs <;> simp only [mB] at hk ⊢
 case mv x =>
  obtain ⟨o,ho⟩ := afw hk;have hx := cj (c := c) (cA := cA) h rT ho;simp at hs;subst hs;exact ⟨by simp only [fc,hx.evQ],hx.ok,hx.EO⟩
 case pick x a b =>
  obtain ⟨⟨o1,h1⟩,⟨o2,h2⟩,o3,h3⟩ := ZO hk;have hx := cj (c := c) (cA := cA) h rT h1;have ha := cj (c := c) (cA := cA) h rT h2;have hb := cj (c := c) (cA := cA) h rT h3;split at hs
  case h_2 => cases hs
  rename_i b' he;simp at hs;subst hs;simp only [fc,hx.bool he];cases b'
  ·exact ⟨by simp [hb.evQ],by simpa using hb.ok,by simpa using hb.EO⟩
  ·exact ⟨by simp [ha.evQ],by simpa using ha.ok,by simpa using ha.EO⟩
 case build zs ps =>
  obtain ⟨⟨t,ht⟩,hq⟩ := Vm hk;obtain ⟨e1,e2⟩ := Ab N (re ht).1;split at hs
  case h_2 => cases hs
  rename_i cs hf;simp at hs;subst hs;obtain ⟨k1,k2,k3,k4⟩ := qE (cA := cA) h rT hq (zA (re ht).1) e2 hf;rw [e1];exact ⟨by simp only [fc,k1,v7],k2,k3⟩
 case mu x =>
  obtain ⟨o,ho⟩ := Vk hk;have hx := cj (c := c) (cA := cA) h rT ho;have c6 := hx.ok;simp only [fc,hx.ev];cases e : bp c s.env x <;> rw [e] at hs c6 <;> try (simp at hs; done)
  ·simp at hs; subst hs; exact ⟨rfl,trivial,trivial⟩
  ·simp at hs; subst hs; exact ⟨rfl,c6,trivial⟩
  ·rename_i f a b;cases f <;> simp at hs
   subst hs;exact ⟨rfl,c6,trivial⟩
 case bin op' x y =>
  obtain ⟨⟨o1,h1⟩,o2,h2⟩ := abY hk;have hx := cj (c := c) (cA := cA) h rT h1;have hy := cj (c := c) (cA := cA) h rT h2;obtain ⟨⟨k1,n1,e1⟩,⟨k2,n2,e2⟩,hv⟩ := acb hs;obtain ⟨q1,q2,q3⟩ := LX (N := N) hv (av s) s.H.length;rw [e1,e2] at hs;simp only [fc,hx.int e1,hy.int e2,hs,q1];exact ⟨trivial,q2,q3⟩
 case eq ng et x y =>
  obtain ⟨⟨o1,h1⟩,o2,h2⟩ := afz hk;have hx := cj (c := c) (cA := cA) h rT h1;have hy := cj (c := c) (cA := cA) h rT h2;split at hs
  case h_2 => cases hs
  rename_i e he;simp at hs;subst hs;refine ⟨?_,trivial,trivial⟩
  have : Gd et (Am.ev cA (yF N s.env) (mC x)) (Am.ev cA (yF N s.env) (mC y)) = some e := by
   rw [hx.ev,hy.ev];have hxk := hx.ok;unfold eqB at he;split at he
   ·rename_i a b e1 e2; rw [e1,e2]; exact he
   ·rename_i l xs ys e1 e2;have n1 := hx.na _ e1;have n2 := hy.na _ e2;rw [e1,e2];simp only [fB,cF,Gd];rw [<- kK N n1,<- kK N n2];exact PY N he
   ·rename_i z k e2;rw [e2];simp only [fB];cases e1 : bp c s.env x <;> rw [e1] at he hxk <;> try (simp [iC] at he; done)
    ·simpa [iC,Gd,isNil,fB,cF] using he
    ·rename_i k' xs;cases xs with
     | nil => simp [iC] at he
     | cons u r => simpa [iC,Gd,isNil,fB,cF] using he
    ·simpa [iC,Gd,isNil,fB,cF] using he
    ·rename_i k' p off len;simp only [iC] at he;split at he
     ·cases he
     ·rename_i hlen;simp at he;subst he;simp only [fB];rcases qY h hxk with ⟨m,_,e3⟩ | ⟨_,_,h0,_⟩
      ·rw [e3]; rfl
      ·exact absurd h0 hlen
   ·rename_i z e2;rw [e2];simp only [fB];cases e1 : bp c s.env x <;> rw [e1] at he hxk <;> try (simp [iC] at he; done)
    ·simpa [iC,Gd,isNil,fB,cF] using he
    ·rename_i k' xs;cases xs with
     | nil => simp [iC] at he
     | cons u r => simpa [iC,Gd,isNil,fB,cF] using he
    ·simpa [iC,Gd,isNil,fB,cF] using he
    ·rename_i k' p off len;simp only [iC] at he;split at he
     ·cases he
     ·rename_i hlen;simp at he;subst he;simp only [fB];rcases qY h hxk with ⟨m,_,e3⟩ | ⟨_,_,h0,_⟩
      ·rw [e3]; rfl
      ·exact absurd h0 hlen
   ·rename_i z e2;rw [e2];cases e1 : bp c s.env x <;> rw [e1] at he <;> try (simp [iC] at he; done)
    all_goals simpa [iC,Gd,isNil,fB,cF] using he
   ·rename_i z e2;rw [e2];cases e1 : bp c s.env x <;> rw [e1] at he <;> try (simp [iC] at he; done)
    all_goals simpa [iC,Gd,isNil,fB,cF] using he
   ·cases he
  simp only [fc,this,v7,cF]
 case un uo x =>
  obtain ⟨o,ho⟩ := afu hk;have hx := cj (c := c) (cA := cA) h rT ho;simp only [fc,hx.ev];cases e : bp c s.env x <;> rw [e] at hs <;> try (cases uo <;> simp [Oq] at hs; done)
  ·have : (∃ k n,v = .int k n) \/ ∃ b,v = .bool b := by
    cases uo <;> simp [Oq] at hs
    ·exact .inl ⟨_,_,hs.symm⟩
    ·exact .inl ⟨_,_,hs.symm⟩
   obtain ⟨q1,q2,q3⟩ := LX (N := N) this (av s) s.H.length;simp only [fB,cF,hs,q1];exact ⟨trivial,q2,q3⟩
  ·have : (∃ k n,v = .int k n) \/ ∃ b,v = .bool b := by
    cases uo <;> simp [Oq] at hs
    exact .inr ⟨_,hs.symm⟩
   obtain ⟨q1,q2,q3⟩ := LX (N := N) this (av s) s.H.length;simp only [fB,cF,hs,q1];exact ⟨trivial,q2,q3⟩
 case De k x =>
  obtain ⟨o,ho⟩ := abV hk;have hx := cj (c := c) (cA := cA) h rT ho;split at hs
  case h_2 => cases hs
  rename_i k' n e;simp at hs;subst hs;simp only [fc,hx.int e];exact ⟨rfl,trivial,trivial⟩
 case MK fn a b =>
  obtain ⟨⟨o1,h1⟩,o2,h2⟩ := abL hk;obtain ⟨a1,a2⟩ := rM (cA := cA) h rT h1;obtain ⟨b1,b2⟩ := rM (cA := cA) h rT h2;split at hs
  ·cases hs
  rename_i ho;simp at hs ho;subst hs
  have sp : ∀ {xs ys : List AV},bI (xs ++ ys) = false -> bI xs = false /\ bI ys = false := by
   intro xs
   induction xs with
   | nil => intro ys h; exact ⟨rfl,h⟩
   | cons z r ih =>
     intro ys h;cases z <;> simp [bI] at h ⊢ <;> exact ih h
  obtain ⟨p1,p2⟩ := sp ho;refine ⟨?_,⟨a2,b2⟩,trivial⟩;simp only [fc,a1,b1,v7,cF,kK N p1,kK N p2]
 case GY k x lo hi =>
  obtain ⟨⟨o,ho⟩,h1,h2⟩ := abJ hk;have hx := cj (c := c) (cA := cA) h rT ho;have c6 := hx.ok;split at hs
  case h_2 => cases hs
  rename_i n hn;split at hs
  case h_2 => cases hs
  rename_i hh hhh;split at hs
  case h_2 => cases hs
  rename_i l hl;have g1 := S8 h hx hn;have g2 := Qi h rT h2 hhh;have g3 := Qi h rT h1 hl
  have bb : ∀ {d m n : Nat} {x : Option E},yC c s.env d m x = some n -> d <= m -> n <= m := by
   intro d m n x hb hd;cases x with
   | none => simp [yC] at hb; omega
   | some x =>
     simp only [yC] at hb;unfold bnd at hb;split at hb
     ·split at hb
      ·simp at hb; omega
      ·cases hb
     ·cases hb
  have l1 := bb hhh (ba _);have l2 := bb hl (Nat.zero_le _);simp only [fc,g1,g2,g3];rw [hx.ev];cases e : bp c s.env x <;> rw [e] at hs c6 hn <;> try (simp at hs; done)
  ·rename_i k' xs;simp only at hs;split at hs
   case isFalse => cases hs
   rename_i C7;simp at hs;subst hs;simp only [fB,cF];rw [if_pos C7];exact ⟨rfl,trivial,trivial⟩
  ·rename_i k' b off len;simp only at hs;split at hs
   case isFalse => cases hs
   rename_i C7;simp at hs;subst hs;simp only [fB,cF];rw [if_pos C7];exact ⟨rfl,c6,trivial⟩
  ·rename_i k' xs;have := hx.eo k' xs e;subst this;simp only at hs;split at hs
   case isFalse => cases hs
   simp at hs;subst hs;exact ⟨rfl,trivial,rfl⟩
  ·rename_i k' p off len;simp only at hs;split at hs
   case isFalse => cases hs
   rename_i C7;subst C7;simp at hs;subst hs;simp only [PJ,ai] at hn;subst hn
   have YV : cD (av s) s.H.length (.c8 k' p (off + l) (hh - l)) := by
    simp only [cD] at c6 ⊢;obtain ⟨xs,e1,e2⟩ := c6;exact ⟨xs,e1,by omega⟩
   refine ⟨?_,YV,trivial⟩;simp only [fB];rcases qY h c6 with ⟨m,hm,e3⟩ | ⟨hm,e0,e1,e3⟩
   ·rw [e3];simp only [if_true,v7,cF,hm,bX]
   ·rw [e3];simp only [v7,cF,hm]
 case cH off x =>
  obtain ⟨o,ho⟩ := abT hk;have hx := cj (c := c) (cA := cA) h rT ho;have c6 := hx.ok;simp only [fc,hx.ev];cases e : bp c s.env x <;> rw [e] at hs c6 <;> try (simp at hs; done)
  ·simp at hs; subst hs; exact ⟨rfl,trivial,trivial⟩
  ·simp at hs; subst hs; exact ⟨rfl,c6,trivial⟩
  ·rename_i k p i o';simp at hs;subst hs;have YV : cD (av s) s.H.length (.ez k p i (o' + off)) := c6;refine ⟨?_,YV,trivial⟩;obtain ⟨m,hm,e2⟩ := Fc h c6;simp only [fB,e2,v7,cF,hm,TT]
 case Hw n x hi =>
  cases hi with
  | some y => simp at hs
  | none =>
  obtain ⟨⟨o,ho⟩,_⟩ := TH hk;have hx := cj (c := c) (cA := cA) h rT ho;have c6 := hx.ok;simp only [fc,hx.ev,dnO,Ag];simp only at hs;cases e : bp c s.env x <;> rw [e] at hs c6 <;> try (simp at hs; done)
  rename_i cs;simp only at hs;split at hs
  case isFalse => cases hs
  rename_i hc;simp at hs;subst hs;simp only [fB,cF];rw [if_pos ⟨hc.1,trivial,hc.2⟩];exact ⟨rfl,trivial,trivial⟩
 case Vb off ag x =>
  obtain ⟨o,ho⟩ := abS hk;have hx := cj (c := c) (cA := cA) h rT ho;have c6 := hx.ok;simp only [fc,hx.ev];cases e : bp c s.env x <;> rw [e] at hs c6 <;> try (simp at hs; done)
  rename_i cs;simp only at hs;obtain ⟨r1,r2,r3,_⟩ := OP N hs (zE (n := off) c6);simp only [fB,cF,DJ,r1];exact ⟨trivial,r2,r3⟩
 case fa k x i =>
  obtain ⟨⟨o1,h1⟩,o2,h2⟩ := abR hk;have hx := cj (c := c) (cA := cA) h rT h1;have hi := cj (c := c) (cA := cA) h rT h2;have c6 := hx.ok;simp only [fc,hx.ev];cases e : bp c s.env x <;> rw [e] at hs c6 <;> try (simp at hs; done)
  ·rename_i k' xs;simp only at hs;split at hs
   case h_2 => cases hs
   rename_i j hj;obtain ⟨ki,ni,e2,Y7,_⟩ := Bl hj;split at hs
   case isFalse => cases hs
   rename_i C7;split at hs
   case h_2 => cases hs
   rename_i u hu;simp at hs;subst hs;simp only [fB,cF,hi.int e2,Y7,if_pos C7,hu];exact ⟨rfl,trivial,trivial⟩
  ·rename_i k' b off len;simp only at hs;split at hs
   case h_2 => cases hs
   rename_i j hj;obtain ⟨ki,ni,e2,Y7,_⟩ := Bl hj;split at hs
   case isFalse => cases hs
   rename_i C7;simp at hs;subst hs;simp only [fB,cF,hi.int e2,Y7,if_pos C7];exact ⟨rfl,c6,trivial⟩
  ·rename_i k' p off len;simp only at hs;split at hs
   case h_2 => cases hs
   rename_i j hj;obtain ⟨ki,ni,e2,Y7,bz⟩ := Bl hj;split at hs
   case isFalse => cases hs
   rename_i C7;subst C7;simp at hs;subst hs;simp only [fB];rcases qY h c6 with ⟨m,hm,e3⟩ | ⟨_,_,h0,_⟩
   ·rw [e3];simp only [hi.int e2,Y7,if_true,v7,cF,hm,bX,Nat.add_zero];refine ⟨trivial,?_,trivial⟩;simp only [cD] at c6 ⊢;obtain ⟨xs,q1,q2⟩ := c6;exact ⟨xs,q1,by omega⟩
   ·omega
 case He n k x i =>
  obtain ⟨⟨o1,h1⟩,o2,h2⟩ := abQ hk;have hx := cj (c := c) (cA := cA) h rT h1;have hi := cj (c := c) (cA := cA) h rT h2;have c6 := hx.ok;split at hs
  case h_2 => cases hs
  rename_i j hj;obtain ⟨ki,ni,e2,Y7,_⟩ := Bl hj;simp only [fc,hi.int e2,Y7,hx.ev];cases e : bp c s.env x <;> rw [e] at hs c6 <;> try (simp at hs; done)
  ·simp at hs; subst hs; exact ⟨rfl,trivial,trivial⟩
  ·simp at hs; subst hs; exact ⟨rfl,c6,trivial⟩
  ·rename_i k' p l off;simp at hs;subst hs;have YV : cD (av s) s.H.length (.ez k' p l (off + j * k)) := c6;refine ⟨?_,YV,trivial⟩;obtain ⟨m,hm,e3⟩ := Fc h c6;simp only [fB,e3,v7,cF,hm,TT]
 case ix n k ag x i =>
  obtain ⟨⟨o1,h1⟩,o2,h2⟩ := afy hk;have hx := cj (c := c) (cA := cA) h rT h1;have hi := cj (c := c) (cA := cA) h rT h2;have c6 := hx.ok;split at hs
  case h_2 => cases hs
  rename_i j hj;obtain ⟨ki,ni,e2,Y7,_⟩ := Bl hj;simp only [fc,hi.int e2,Y7,hx.ev];cases e : bp c s.env x <;> rw [e] at hs c6 <;> try (simp at hs; done)
  rename_i cs;simp only at hs;obtain ⟨r1,r2,r3,_⟩ := OP N hs (zE (n := j * k) c6);simp only [fB,cF,DJ,r1];exact ⟨trivial,r2,r3⟩
 case ext i x =>
  obtain ⟨o,ho⟩ := abU hk;have hx := cj (c := c) (cA := cA) h rT ho;have c6 := hx.ok;simp only [fc,hx.ev];cases e : bp c s.env x <;> rw [e] at hs c6 <;> try (simp at hs; done)
  rename_i vs;simp only at hs;split at hs
  case h_2 => cases hs
  rename_i u hu;split at hs
  ·cases hs
  rename_i jH;simp at hs jH;subst hs;simp only [fB,cF,v8,hu,cT];refine ⟨by rw [lD N jH],iY.1 c6 i u hu,?_⟩;cases u <;> simp only [EO] <;> try (simp [bJ] at jH; done)
  rename_i ds;intro j k xs hj;exfalso;simp only [bJ] at jH;clear hu
  induction ds generalizing j with
  | nil => simp at hj
  | cons y r ih =>
    cases j with
    | zero => simp at hj; subst hj; simp [bI] at jH
    | succ j => exact ih (by cases y <;> simp [bI] at jH <;> exact jH) j (by simpa using hj)
 case UP tab i =>
  obtain ⟨o,ho⟩ := abP hk;have hi := cj (c := c) (cA := cA) h rT ho;split at hs
  case h_2 => cases hs
  rename_i j hj;obtain ⟨ki,ni,e2,Y7,_⟩ := Bl hj;split at hs
  case h_2 => cases hs
  rename_i u hu;simp at hs;subst hs;simp only [fc,hi.int e2,Y7,hu];exact ⟨rfl,trivial,trivial⟩
 case len x =>
  obtain ⟨o,ho⟩ := abO hk;have hx := cj (c := c) (cA := cA) h rT ho;split at hs
  case h_2 => cases hs
  rename_i n hn;simp at hs;subst hs;simp only [fc,S8 h hx hn];exact ⟨rfl,trivial,trivial⟩
 case min xs =>
  obtain ⟨o,ho⟩ := abM hk;obtain ⟨a1,a2⟩ := rM (cA := cA) h rT ho;obtain ⟨m1,m2⟩ := S4 N hs;obtain ⟨q1,q2,q3⟩ := LX (N := N) (.inl m2) (av s) s.H.length;simp only [fc,a1,m1,q1];exact ⟨trivial,q2,q3⟩
 case max xs =>
  obtain ⟨o,ho⟩ := abN hk;obtain ⟨a1,a2⟩ := rM (cA := cA) h rT ho;obtain ⟨m1,m2⟩ := S4 N hs;obtain ⟨q1,q2,q3⟩ := LX (N := N) (.inl m2) (av s) s.H.length;simp only [fc,a1,m1,q1];exact ⟨trivial,q2,q3⟩
end
end Go.Bm

/- A value in hand; operations that read and make. -/
namespace Go.Bm
open Go.Am
section
variable {P : Program} {X : Nat -> Prop} {φ : dq} {w : World} {N N' : Names} {s : St} {Ha : Heap} {t t' : Nat -> Value} {B : Nat -> Nat} {base : Nat} {v : AV} {v' : Value}
theorem DH (eE : N'.β = N.β) {x : AV} (h : ∀ p ∈ aK x,N'.ν p = N.ν p) : cF N' x = cF N x := by
 have e := VY (N := N) (N' := N') (m := id) (g := fun y => y) eE (fun _ _ _ _ => ⟨rfl,rfl⟩) x h;have : cn (fun y => y) x = x := qB (m := id) (fun _ _ _ _ => ⟨rfl,rfl⟩) x (fun _ _ => rfl)
 rwa [this] at e
theorem HG (eE : N'.β = N.β) {r : Rt} {x : AV} (hr : ∀ k xs,x = .own k xs -> N'.ν r = N.ν r) (h : ∀ p ∈ aK x,N'.ν p = N.ν p) : jR N' r x = jR N r x := by
 have e := xt (N := N) (N' := N') (m := id) (g := fun y => y) eE (fun _ _ _ _ => ⟨rfl,rfl⟩) (r := r) (r' := r) hr h;have : cn (fun y => y) x = x := qB (m := id) (fun _ _ _ _ => ⟨rfl,rfl⟩) x (fun _ _ => rfl)
 rwa [this] at e
theorem T8 (eE : N'.β = N.β) {i : Nat} {x : AV} (h1 : N'.ν (.s i) = N.ν (.s i)) (h2 : ∀ j,N'.ν (.sc i j) = N.ν (.sc i j)) (h : ∀ p ∈ aK x,N'.ν p = N.ν p) : kJ N' i x = kJ N i x := by
 have e := JG (N := N) (N' := N') (m := id) (g := fun y => y) eE (fun _ _ _ _ => ⟨rfl,rfl⟩) (i := i) (i' := i) h1 h2 h;have : cn (fun y => y) x = x := qB (m := id) (fun _ _ _ _ => ⟨rfl,rfl⟩) x (fun _ _ => rfl)
 rwa [this] at e
theorem eF.c8 (h : eF X φ w N s Ha t) {r : Rt} {x : AV} (hx : at_ s r = some x) : ∀ p ∈ aK x,(av s p).isSome := A0 x (h.zC hx)
theorem afL {i : Nat} (hi : get s.env i = .any) {q : Rt} (hq : bt i q = false) : at_ ⟨put s.env i v,s.H⟩ q = at_ s q := by
 cases q with
 | s j => simp only [bt,decide_eq_false_iff_not] at hq; simp [at_,bw,hq]
 | sc j l => simp only [bt,decide_eq_false_iff_not] at hq; simp [at_,bw,hq]
 | c b j => rfl
theorem nk {i : Nat} (hi : get s.env i = .any) {q : Rt} (hq : bt i q = false) : av ⟨put s.env i v,s.H⟩ q = av s q := jh (afL hi hq)
theorem TM {i : Nat} (hi : get s.env i = .any) {q : Rt} (hq : bt i q = true) : av s q = none := by
 have ho : bJ (get s.env i) = false := by rw [hi]; rfl
 obtain ⟨h1,h2⟩ := dV ho;cases q with
 | s j => simp only [bt,decide_eq_true_eq] at hq; subst hq; exact h1
 | sc j l => simp only [bt,decide_eq_true_eq] at hq; subst hq; exact h2 l
 | c b j => simp [bt] at hq
mutual
theorem mq {o o' : Rt -> Option (Nat × List AV)} {nb MB : Nat} (ho : ∀ p,(o p).isSome -> o' p = o p) (hn : nb <= MB) : ∀ x,cD o nb x -> cD o' MB x
 | .c8 k p off len,h => by simp only [cD] at h ⊢; obtain ⟨xs,e,h2⟩ := h; exact ⟨xs,by rw [ho p (by rw [e]; rfl)]; exact e,h2⟩
 | .ez k p i off,h => by simp only [cD] at h ⊢; obtain ⟨xs,e,h2⟩ := h; exact ⟨xs,by rw [ho p (by rw [e]; rfl)]; exact e,h2⟩
 | .ptr b off,h => by simp only [cD] at h ⊢; omega
 | .agg cs,h => by simp only [cD] at h ⊢; exact ve ho hn cs h
 | .dp cs,h => by simp only [cD] at h ⊢; exact ve ho hn cs h
 | .func f a b,h => by simp only [cD] at h ⊢; exact ⟨ve ho hn a h.1,ve ho hn b h.2⟩
 | .any,_ => trivial
 | .undef,_ => trivial
 | .eP,_ => trivial
 | .eT,_ => trivial
 | .dn,_ => trivial
 | .int _ _,_ => trivial
 | .bool _,_ => trivial
 | .str _,_ => trivial
 | .list _ _,_ => trivial
 | .dh _,_ => trivial
 | .own _ _,_ => trivial
 | .sl _ b _ _,h => by simp only [cD] at h ⊢; omega
theorem ve {o o' : Rt -> Option (Nat × List AV)} {nb MB : Nat} (ho : ∀ p,(o p).isSome -> o' p = o p) (hn : nb <= MB) : ∀ cs,kF o nb cs -> kF o' MB cs
 | [],_ => trivial
 | x :: r,h => ⟨mq ho hn x h.1,ve ho hn r h.2⟩
end
theorem eF.putG (h : eF X φ w N s Ha t) {i : Nat} (hi : get s.env i = .any) (eE : N'.β = N.β) (hN : ∀ p,bt i p = false -> N'.ν p = N.ν p) (hv : cD (av s) s.H.length v) (rv : bR (Rd X φ w) φ (kJ N' i v) v')
  (eW : ∀ p k xs,bt i p = true -> av ⟨put s.env i v,s.H⟩ p = some (k,xs) -> p7 Ha (N'.ν p) k xs /\ ∀ n,N'.ν p = some n -> (∀ q,(av s q).isSome -> N.ν q ≠ some n) /\ (∀ b,(aJ s.H b).isSome -> N.β b ≠ n) /\ ∀ q,bt i q = true -> (av ⟨put s.env i v,s.H⟩ q).isSome -> N'.ν q = some n -> q = p) :
  eF X φ w N' ⟨put s.env i v,s.H⟩ Ha (fun j => if j = i then v' else t j) := by
 have Is : ∀ {p},(av s p).isSome -> bt i p = false := by
  intro p hp;cases e : bt i p with
  | false => rfl
  | true => rw [TM hi e] at hp; cases hp
 have mono : ∀ p,(av s p).isSome -> av ⟨put s.env i v,s.H⟩ p = av s p := fun p hp => nk hi (Is hp);refine ⟨fun j => ?_,fun j => ?_,h.heap,fun p k xs e => ?_,fun b cs e => ?_,fun p q n e1 e2 e3 e4 => ?_,fun b p e1 e2 e3 => ?_,fun b d e1 e2 e3 => ?_⟩
 ·simp only [bw];by_cases hj : j = i
  ·subst hj; simp only [if_true]; exact rv
  ·simp only [if_neg hj];rw [T8 eE (hN _ (by simp [bt,hj])) (fun l => hN _ (by simp [bt,hj])) (fun p hp => hN p (Is (h.c8 (r := .s j) rfl p hp)))];exact h.env j
 ·simp only [bw];by_cases hj : j = i
  ·rw [if_pos hj]; exact mq mono (ba _) v hv
  ·rw [if_neg hj]; exact mq mono (ba _) _ (h.Hd j)
 ·cases hp : bt i p with
  | true => exact (eW p k xs hp e).1
  | false => rw [nk hi hp] at e; rw [hN p hp]; exact h.own p k xs e
 ·obtain ⟨as,g1,g2,g3⟩ := h.box b cs e;refine ⟨as,by rw [eE]; exact g1,g2,fun j c hc => ?_⟩;obtain ⟨k1,a,k2,k3⟩ := g3 j c hc;refine ⟨mq mono (ba _) c k1,a,k2,?_⟩;rw [HG eE (fun _ _ _ => hN _ rfl) (fun p hp => hN p (Is (h.c8 (r := .c b j) (by rw [vL (s := s) e]; exact hc) p hp)))];exact k3
 ·cases hp : bt i p with
  | true =>
    obtain ⟨⟨k,xs⟩,e⟩ := aU.1 e1;obtain ⟨_,h2⟩ := eW p k xs hp e;obtain ⟨f1,f2,f3⟩ := h2 n e3;cases hq : bt i q with
    | true => exact (f3 q hq e2 e4).symm
    | false => rw [nk hi hq] at e2; rw [hN q hq] at e4; exact absurd e4 (f1 q e2)
  | false =>
    cases hq : bt i q with
    | true =>
      obtain ⟨⟨k,xs⟩,e⟩ := aU.1 e2;obtain ⟨_,h2⟩ := eW q k xs hq e;obtain ⟨f1,f2,f3⟩ := h2 n e4;rw [nk hi hp] at e1;rw [hN p hp] at e3;exact absurd e3 (f1 p e1)
    | false =>
      rw [nk hi hp] at e1;rw [nk hi hq] at e2;rw [hN p hp] at e3;rw [hN q hq] at e4;exact h.inj p q n e1 e2 e3 e4
 ·rw [eE] at e3;cases hp : bt i p with
  | true =>
    obtain ⟨⟨k,xs⟩,e⟩ := aU.1 e2;obtain ⟨_,h2⟩ := eW p k xs hp e;exact (h2 _ e3).2.1 b e1 rfl
  | false => rw [nk hi hp] at e2; rw [hN p hp] at e3; exact h.bx b p e1 e2 e3
 ·rw [eE] at e3; exact h.bi b d e1 e2 e3
theorem dS.quiet (h : eF X φ w N s Ha t) (hb : (∀ b,b < base -> N.β b = B b) /\ base <= s.H.length) (hv : cD (av s) s.H.length v) (he : EO v) (r : bR (Rd X φ w) φ (v7 N v) v') : dS X φ w B base s v t v' := by
 refine ⟨⟨N,Ha,h,hb⟩,hv,fun i hi => ?_⟩
 have Is : ∀ {p},(av s p).isSome -> bt i p = false := by
  intro p hp;cases e : bt i p with
  | false => rfl
  | true => rw [TM hi e] at hp; cases hp
 obtain ⟨N',eE,hN1,hN2⟩ : ∃ N' : Names,N'.β = N.β /\ (∀ p,bt i p = false -> N'.ν p = N.ν p) /\ ∀ p,bt i p = true -> N'.ν p = none := ⟨⟨N.β,fun p => if bt i p then none else N.ν p⟩,rfl,fun p hp => by simp [hp],fun p hp => by simp [hp]⟩;have hvb : ∀ p ∈ aK v,N'.ν p = N.ν p := fun p hp => hN1 p (Is (A0 v hv p hp))
 have e1 : kJ N' i v = v7 N v := by
  cases v <;> simp only [kJ,v7,jR] <;> try exact DH eE hvb
  ·rename_i cs;congr 1;apply dA;intro j;rw [fg,nK];simp only [dL];cases hc : cs[j]? with
   | none => rfl
   | some c =>
     simp only [cT];congr 1;have hcb : ∀ p ∈ aK c,N'.ν p = N.ν p := fun p hp => hvb p (by simp only [aK]; exact kO hc hp);cases c <;> simp only [jR,fB] <;> try exact DH eE hcb
     simp only [qP,hN2 (.sc i j) (by simp [bt])]
  ·simp only [qP,hN2 (.s i) (by simp [bt])]
 refine ⟨N',Ha,h.putG hi eE hN1 hv (by rw [e1]; exact r) (fun p k xs hp e => ?_),fun b bz => by rw [eE]; exact hb.1 b bz,hb.2⟩;rw [hN2 p hp];refine ⟨?_,fun n e => by cases e⟩;have e' := bZ.1 e;cases p with
 | s j =>
   simp only [bt,decide_eq_true_eq] at hp;subst hp;simp only [at_,bw,if_true,ai] at e';rw [e'] at he;exact he
 | sc j l =>
   simp only [bt,decide_eq_true_eq] at hp;subst hp;simp only [at_,bw,if_true] at e';cases v <;> simp only [reduceCtorEq] at e'
   exact he l k xs e'
 | c b j => simp [bt] at hp
theorem dS.fresh (h : eF X φ w N s Ha t) (hb : (∀ b,b < base -> N.β b = B b) /\ base <= s.H.length) {k n : Nat} {xs : List AV} (ho : p7 Ha (some n) k xs) (hf : ∀ q,(av s q).isSome -> N.ν q ≠ some n) (hx : ∀ b,(aJ s.H b).isSome -> N.β b ≠ n) (r : bR (Rd X φ w) φ (.sl k n 0 xs.length) v') :
  dS X φ w B base s (.own k xs) t v' := by
 refine ⟨⟨N,Ha,h,hb⟩,trivial,fun i hi => ?_⟩
 obtain ⟨N',eE,hN1,hN2⟩ : ∃ N' : Names,N'.β = N.β /\ (∀ p,bt i p = false -> N'.ν p = N.ν p) /\ N'.ν (.s i) = some n := ⟨⟨N.β,fun p => if p = .s i then some n else N.ν p⟩,rfl,fun p hp => by
  have : p ≠ .s i := by rintro rfl; simp [bt] at hp
  simp [this],by simp⟩
 have only : ∀ p,bt i p = true -> (av ⟨Am.put s.env i (.own k xs),s.H⟩ p).isSome -> p = .s i := by
  intro p hp e;cases p with
  | s j => simp only [bt,decide_eq_true_eq] at hp; rw [hp]
  | sc j l =>
    simp only [bt,decide_eq_true_eq] at hp;subst hp;unfold av at e;simp [at_,bw] at e
  | c b j => simp [bt] at hp
 refine ⟨N',Ha,h.putG hi eE hN1 trivial (by simp only [kJ,jR,qP,hN2]; exact r) (fun p k' ys hp e => ?_),fun b bz => by rw [eE]; exact hb.1 b bz,hb.2⟩;have tX := only p hp (by rw [e]; rfl);subst tX;have e' := bZ.1 e;simp only [at_,bw,if_true,ai,AV.own.injEq] at e';obtain ⟨rfl,rfl⟩ := e';rw [hN2];refine ⟨ho,fun m hm => ?_⟩;cases hm;exact ⟨hf,hx,fun q hq e _ => only q hq e⟩
theorem eF.nI {φ' : dq} {w' : World} {Ha' : Heap} (h : eF X φ w N s Ha t) (a : eZ φ w φ' w') (hh : b8 X φ' w' Ha') (ho : ∀ p k xs,av s p = some (k,xs) -> p7 Ha' (N.ν p) k xs) (hb : ∀ b,(aJ s.H b).isSome -> aJ Ha' (N.β b) = aJ Ha (N.β b)) : eF X φ' w' N s Ha' t :=
 ⟨fun i => a.rep (h.env i),h.Hd,hh,ho,fun b cs e => by
  obtain ⟨as,g1,g2,g3⟩ := h.box b cs e;exact ⟨as,by rw [hb b (by rw [e]; rfl)]; exact g1,g2,g3⟩,h.inj,h.bx,h.bi⟩
theorem p7.same {H H' : Heap} {o : Option Nat} {k : Nat} {xs : List AV} (h : p7 H o k xs) (hb : ∀ n,o = some n -> aJ H' n = aJ H n) : p7 H' o k xs := by
 cases o with
 | none => exact h
 | some n =>
   obtain ⟨cs,h1,h2⟩ := h;exact ⟨cs,by rw [hb n rfl]; exact h1,h2⟩
theorem p7.lt {H : Heap} {n k : Nat} {xs : List AV} (h : p7 H (some n) k xs) : n < H.length := by
 obtain ⟨cs,h1,_⟩ := h;exact dY h1
theorem eF.iO (h : eF X φ w N s Ha t) {p : Rt} (hp : (av s p).isSome) {n : Nat} (hn : N.ν p = some n) : n < Ha.length := by
 obtain ⟨⟨k,xs⟩,e⟩ := aU.1 hp;have := h.own p k xs e;rw [hn] at this;exact this.lt
theorem eF.qX (h : eF X φ w N s Ha t) {b : Nat} (hb : (aJ s.H b).isSome) : N.β b < Ha.length := by
 obtain ⟨cs,e⟩ := aU.1 hb;obtain ⟨as,g1,_⟩ := h.box b cs e;exact dY g1
theorem eF.push {φ' : dq} {w' : World} {cs : List AV} (h : eF X φ w N s Ha t) (a : eZ φ w φ' w') (hh : b8 X φ' w' (Ha ++ [some cs])) : eF X φ' w' N s (Ha ++ [some cs]) t := by
 refine h.nI a hh (fun p k xs e => ?_) (fun b hb => ?_)
 ·refine (h.own p k xs e).same fun n hn => ?_;rw [ka,if_neg];have := h.iO (by rw [e]; rfl) hn;omega
 ·rw [ka,if_neg];have := h.qX hb;omega
theorem GC (H : Heap) (cs : List AV) : aJ (H ++ [some cs]) H.length = some cs := by rw [ka,if_pos rfl]
end
end Go.Bm

/- Operations that make blocks and boxes. -/
namespace Go.Bm
open Go.Am
mutual
theorem Aq {N N' : Names} {o : Rt -> Option (Nat × List AV)} {nb : Nat} (eE : ∀ b,b < nb -> N'.β b = N.β b) (mI : ∀ p,(o p).isSome -> N'.ν p = N.ν p) : ∀ x,cD o nb x -> cF N' x = cF N x
 | .c8 k p a l,h => by simp only [cD] at h; obtain ⟨xs,e,_⟩ := h; simp only [cF,mI p (by rw [e]; rfl)]
 | .ez k p a l,h => by simp only [cD] at h; obtain ⟨xs,e,_⟩ := h; simp only [cF,mI p (by rw [e]; rfl)]
 | .ptr b off,h => by simp only [cD] at h; simp only [cF,eE b h]
 | .agg cs,h => by simp only [cD] at h; simp only [cF,pw eE mI cs h]
 | .dp cs,h => by simp only [cD] at h; simp only [cF,pw eE mI cs h]
 | .func f a b,h => by simp only [cD] at h; simp only [cF,pw eE mI a h.1,pw eE mI b h.2]
 | .any,_ => rfl
 | .undef,_ => rfl
 | .eP,_ => rfl
 | .eT,_ => rfl
 | .dn,_ => rfl
 | .int _ _,_ => rfl
 | .bool _,_ => rfl
 | .str _,_ => rfl
 | .list _ _,_ => rfl
 | .dh _,_ => rfl
 | .own _ _,_ => rfl
 | .sl _ b _ _,h => by simp only [cD] at h; simp only [cF,eE b h]
theorem pw {N N' : Names} {o : Rt -> Option (Nat × List AV)} {nb : Nat} (eE : ∀ b,b < nb -> N'.β b = N.β b) (mI : ∀ p,(o p).isSome -> N'.ν p = N.ν p) : ∀ cs,kF o nb cs -> k8 N' cs = k8 N cs
 | [],_ => rfl
 | x :: r,h => by simp only [k8,Aq eE mI x h.1,pw eE mI r h.2]
end
theorem xv {N N' : Names} {o : Rt -> Option (Nat × List AV)} {nb : Nat} (eE : ∀ b,b < nb -> N'.β b = N.β b) (mI : ∀ p,(o p).isSome -> N'.ν p = N.ν p) {r : Rt} {x : AV} (hr : ∀ k xs,x = .own k xs -> N'.ν r = N.ν r) (h : cD o nb x) : jR N' r x = jR N r x := by
 cases x <;> simp only [jR] <;> first | exact Aq eE mI _ h | skip
 rename_i k xs;simp only [qP,hr k xs rfl]
theorem DI {N N' : Names} {o : Rt -> Option (Nat × List AV)} {nb : Nat} (eE : ∀ b,b < nb -> N'.β b = N.β b) (mI : ∀ p,(o p).isSome -> N'.ν p = N.ν p) {i : Nat} {x : AV} (h1 : N'.ν (.s i) = N.ν (.s i)) (h2 : ∀ j,N'.ν (.sc i j) = N.ν (.sc i j)) (h : cD o nb x) : kJ N' i x = kJ N i x := by
 by_cases ha : ∃ cs,x = .agg cs
 ·obtain ⟨cs,rfl⟩ := ha;simp only [kJ];congr 1;apply dA;intro j;rw [fg,fg];simp only [dL];cases hc : cs[j]? with
  | none => rfl
  | some c =>
    simp only [cT];simp only [cD] at h;rw [xv eE mI (fun _ _ _ => h2 j) (iY.1 h j c hc)]
 ·have hn : jX x := fun cs e => ha ⟨cs,e⟩;have e1 : kJ N' i x = jR N' (.s i) x := by cases x <;> first | rfl | exact absurd rfl (hn _)
  have e2 : kJ N i x = jR N (.s i) x := by cases x <;> first | rfl | exact absurd rfl (hn _)
  rw [e1,e2];exact xv eE mI (fun _ _ _ => h1) h
mutual
theorem lC (N : Names) : ∀ x,pl x = true -> cF N x = x
 | .agg cs,h => by simp only [pl] at h; simp only [cF,DE N cs h]
 | .dp cs,h => by simp only [pl] at h; simp only [cF,DE N cs h]
 | .func f a b,h => by simp only [pl,aa] at h; simp only [cF,DE N a h.1,DE N b h.2]
 | .any,_ => rfl
 | .undef,_ => rfl
 | .eP,_ => rfl
 | .eT,_ => rfl
 | .dn,_ => rfl
 | .int _ _,_ => rfl
 | .bool _,_ => rfl
 | .str _,_ => rfl
 | .list _ _,_ => rfl
 | .dh _,_ => rfl
 | .own _ _,h => by simp [pl] at h
 | .c8 _ _ _ _,h => by simp [pl] at h
 | .ez _ _ _ _,h => by simp [pl] at h
 | .ptr _ _,h => by simp [pl] at h
 | .sl _ _ _ _,h => by simp [pl] at h
theorem DE (N : Names) : ∀ cs,df cs = true -> k8 N cs = cs
 | [],_ => rfl
 | x :: r,h => by simp only [df,aa] at h; simp only [k8,lC N x h.1,DE N r h.2]
end
theorem Tb (N : Names) {c : AV} (h : fz (iP c) = true) (he : ∀ k xs,c = .own k xs -> xs = []) : Le (iP c) (fB N c) := by
 cases c <;> simp only [iP] at h ⊢ <;> first
  | (have := (mO h).1
     simp only [fB];rw [lC N _ this];exact Le.refl _)
  | skip
 rename_i k xs;have := he k xs rfl;subst this;exact Le.iP k
section
variable {P : Program} {X : Nat -> Prop} {φ φ' : dq} {w w' : World} {N N' : Names} {s s1 : St} {Ha : Heap} {t : Nat -> Value} {B : Nat -> Nat} {base : Nat} {v : AV} {v' : Value} {c : dR} {o : Oper} {a : Act}
theorem eF.Pl {zs as : List AV} (h : eF X φ w N s Ha t) (ad : eZ φ w φ' w') (hh : b8 X φ' w' (Ha ++ [some as])) (hz : kF (av s) s.H.length zs) (he : TP zs) (has : as = iD N zs) :
  ∃ N',(∀ b,b < s.H.length -> N'.β b = N.β b) /\ N'.β s.H.length = Ha.length /\ eF X φ' w' N' ⟨s.env,s.H ++ [some zs]⟩ (Ha ++ [some as]) t := by
 have h1 := h.push ad hh
 obtain ⟨N',eE,YL,hN1,hN2⟩ : ∃ N' : Names,(∀ b,b < s.H.length -> N'.β b = N.β b) /\ N'.β s.H.length = Ha.length /\ (∀ p,(∀ j,p ≠ .c s.H.length j) -> N'.ν p = N.ν p) /\ ∀ j,N'.ν (.c s.H.length j) = none :=
  ⟨⟨fun b => if b = s.H.length then Ha.length else N.β b,fun p => match p with
   | .c b j => if b = s.H.length then none else N.ν (.c b j)
   | p => N.ν p⟩,fun b hb => by simp; omega,by simp,fun p hp => by
     cases p with
     | s i => rfl
     | sc i j => rfl
     | c b j =>
       have : b ≠ s.H.length := fun e => hp j (by rw [e]);simp [this],fun j => by simp⟩
 have atq : ∀ q,(∀ j,q ≠ .c s.H.length j) -> at_ ⟨s.env,s.H ++ [some zs]⟩ q = at_ s q := by
  intro q hq;cases q with
  | s i => rfl
  | sc i j => rfl
  | c b j =>
    have : b ≠ s.H.length := fun e => hq j (by rw [e]);simp only [at_,ka,if_neg this]
 have atn : ∀ j,at_ ⟨s.env,s.H ++ [some zs]⟩ (.c s.H.length j) = zs[j]? := fun j => by simp only [at_,ka,if_true]
 have Is : ∀ {q},(av s q).isSome -> ∀ j,q ≠ .c s.H.length j := by
  rintro q hq j rfl;unfold av at hq
  have : aJ s.H s.H.length = none := by
   cases e : aJ s.H s.H.length with
   | none => rfl
   | some cs => have := dY e; omega
  simp [at_,this] at hq
 have mono : ∀ p,(av s p).isSome -> av ⟨s.env,s.H ++ [some zs]⟩ p = av s p := fun p hp => jh (atq p (Is hp));have mI : ∀ p,(av s p).isSome -> N'.ν p = N.ν p := fun p hp => hN1 p (Is hp);have hlen : s.H.length <= (s.H ++ [some zs]).length := by simp
 have adk : ∀ {q k xs},av ⟨s.env,s.H ++ [some zs]⟩ q = some (k,xs) -> (av s q = some (k,xs)) \/ ((∃ j,q = .c s.H.length j) /\ xs = []) := by
  intro q k xs e;by_cases hq : ∃ j,q = .c s.H.length j
  ·obtain ⟨j,rfl⟩ := hq;have e' := bZ.1 e;rw [atn] at e';exact .inr ⟨⟨j,rfl⟩,he j k xs e'⟩
  ·rw [jh (atq q fun j e => hq ⟨j,e⟩)] at e;exact .inl e
 have DL : ∀ {q n},(av ⟨s.env,s.H ++ [some zs]⟩ q).isSome -> N'.ν q = some n -> (av s q).isSome /\ N.ν q = some n := by
  intro q n hq hn;obtain ⟨⟨k,xs⟩,e⟩ := aU.1 hq;rcases adk e with e1 | ⟨⟨j,rfl⟩,_⟩
  ·have : (av s q).isSome := by rw [e1]; rfl
   exact ⟨this,by rw [<- mI q this]; exact hn⟩
  ·rw [hN2] at hn; cases hn
 have bold : ∀ {b},(aJ (s.H ++ [some zs]) b).isSome -> (b < s.H.length /\ (aJ s.H b).isSome) \/ b = s.H.length := by
  intro b hb;rw [ka] at hb;by_cases e : b = s.H.length
  ·exact .inr e
  ·rw [if_neg e] at hb;obtain ⟨cs,e2⟩ := aU.1 hb;exact .inl ⟨dY e2,hb⟩
 refine ⟨N',eE,YL,⟨fun i => ?_,fun i => mq mono hlen _ (h1.Hd i),hh,fun p k xs e => ?_,fun b cs e => ?_,fun p q n e1 e2 e3 e4 => ?_,fun b p e1 e2 e3 => ?_,fun b d e1 e2 e3 => ?_⟩⟩
 ·rw [DI eE mI (hN1 _ (fun j e => by cases e)) (fun l => hN1 _ (fun j e => by cases e)) (h1.Hd i)];exact h1.env i
 ·rcases adk e with e1 | ⟨⟨j,rfl⟩,rfl⟩
  ·rw [mI p (by rw [e1]; rfl)]; exact h1.own p k xs e1
  ·rw [hN2]; rfl
 ·by_cases hb : b = s.H.length
  ·subst hb;simp only [ka,if_true,ai] at e;subst e;refine ⟨as,by rw [YL]; exact GC _ _,by rw [has,jg],fun j x hx => ⟨mq mono hlen x (iY.1 hz j x hx),fB N x,by rw [has,nK,hx]; rfl,?_⟩⟩;have hxk := iY.1 hz j x hx;cases x <;> simp only [jR,fB] <;> try (rw [Aq eE mI _ hxk]; exact Le.refl _)
   simp only [qP,hN2];exact Le.refl _
  ·simp only [ka,if_neg hb] at e;obtain ⟨as',g1,g2,g3⟩ := h1.box b cs e;refine ⟨as',by rw [eE b (dY e)]; exact g1,g2,fun j x hx => ?_⟩;obtain ⟨k1,a',k2,k3⟩ := g3 j x hx;refine ⟨mq mono hlen x k1,a',k2,?_⟩;rw [xv eE mI (fun _ _ _ => hN1 _ (fun l e => by cases e; exact hb rfl)) k1];exact k3
 ·obtain ⟨p1,p2⟩ := DL e1 e3;obtain ⟨q1,q2⟩ := DL e2 e4;exact h1.inj p q n p1 q1 p2 q2
 ·obtain ⟨p1,p2⟩ := DL e2 e3;rcases bold e1 with ⟨b1,b2⟩ | b1
  ·rw [eE b b1] at p2; exact h1.bx b p b2 p1 p2
  ·subst b1;rw [YL] at p2;have := h.iO p1 p2;omega
 ·rcases bold e1 with ⟨b1,b2⟩ | b1 <;> rcases bold e2 with ⟨d1,d2⟩ | d1
  ·rw [eE b b1,eE d d1] at e3; exact h1.bi b d b2 d2 e3
  ·subst d1; rw [eE b b1,YL] at e3; have := h.qX b2; omega
  ·subst b1; rw [eE d d1,YL] at e3; have := h.qX d2; omega
  ·rw [b1,d1]
def tm (a : Act) : Nat -> Value := fun i => a.tmps.getD i undef
def mF (P : Program) (X : Nat -> Prop) (φ : dq) (w : World) (B : Nat -> Nat) (base : Nat) (s1 : St) (v : AV) (o : Oper) (a : Act) : Prop :=
 ∀ (K : Act -> World -> Prop) (Q : Exit -> Act -> World -> Prop),(∀ v' w' φ',dS X φ' w' B base s1 v (tm a) v' -> eZ φ w φ' w' -> K (a.put o.dst v') w') -> o.wp P a w K Q
theorem mF.ghost (ad : eZ φ w φ' w) (h : mF P X φ' w B base s1 v o a) : mF P X φ w B base s1 v o a := fun K Q hK => h K Q fun v' w' n9 hp k => hK v' w' n9 hp (ad.trans k)
theorem mF.of {va : AV} {Ha' : Heap} (h : Ok P X φ w o a va Ha') (hp : ∀ v' w' φ',bR (Rd X φ' w') φ' va v' -> b8 X φ' w' Ha' -> eZ φ w φ' w' -> dS X φ' w' B base s1 v (tm a) v') : mF P X φ w B base s1 v o a :=
 fun K Q hK => h K Q fun v' w' φ' r hh ad => hK v' w' φ' (hp v' w' φ' r hh ad) ad
def iW (c : dR) : Am.dR := ⟨fun _ => none,c.gl,fun _ => none⟩
theorem afF (hm : P.follows .mixedOrders = true) (c : dR) : Am.NY P (iW c) := ⟨hm,fun f m q h => by cases h⟩
def noC : Nat -> List AV -> Heap -> Option (AV × Heap) := fun _ _ _ => none
theorem ZU (c : dR) : Am.BF P (iW c) noC := fun f m q h => by cases h
end
end Go.Bm

/- Operations that read, and that make blocks and boxes: from the model. -/
namespace Go.Bm
open Go.Am
theorem kg : ∀ (a b : List AV),aG (a ++ b) = aG a ++ aG b
 | [],b => rfl
 | x :: r,b => by simp [aG,kg r b]
theorem Nz (k : Nat) : ∀ (n : Nat) (ys : List AV),n * k <= ys.length -> aG (Oc k n ys) = ys.take (n * k)
 | 0,ys,_ => by simp [Oc,aG]
 | n + 1,ys,h => by
   have h' : n * k + k <= ys.length := by rw [bX] at h; omega
   simp only [Oc,aG,rW];rw [Nz k n (ys.drop k) (by rw [dK]; omega),bX,Nat.one_mul,Nat.add_comm,List.take_add]
theorem Ny (e : AV) : ∀ n,aG (aM n e) = rep e.cells n
 | 0 => rfl
 | n + 1 => by simp [List.replicate_succ,aG,rep,Ny e n]
theorem yT (f : AV -> AV) (zs : List AV) : ∀ n,rep (zs.map f) n = (rep zs n).map f
 | 0 => rfl
 | n + 1 => by simp [rep,yT f zs n]
theorem JT (zs : List AV) : ∀ n,(rep zs n).length = n * zs.length
 | 0 => by simp [rep]
 | n + 1 => by simp [rep,JT zs n,bX]; omega
theorem wj {zs : List AV} {x : AV} : ∀ {n : Nat},x ∈ rep zs n -> x ∈ zs
 | 0,h => by simp [rep] at h
 | n + 1,h => by
   simp only [rep,aD] at h;rcases h with h | h
   ·exact h
   ·exact wj h
theorem nF : ∀ {cs : List AV},U9 cs = true -> ∀ x ∈ cs,fz x = true
 | [],_,x,hx => by simp at hx
 | y :: r,h,x,hx => by
   simp only [U9,aa] at h;rcases aX.1 hx with e | e
   ·subst e; exact h.1
   ·exact nF h.2 x e
theorem Dm {o : Rt -> Option (Nat × List AV)} {nb : Nat} : ∀ {cs : List AV},kF o nb cs -> ∀ x ∈ cs,cD o nb x
 | [],_,x,hx => by simp at hx
 | y :: r,h,x,hx => by
   rcases aX.1 hx with e | e
   ·subst e; exact h.1
   ·exact Dm h.2 x e
theorem yc {o : Rt -> Option (Nat × List AV)} {nb : Nat} : ∀ {cs : List AV},(∀ x ∈ cs,cD o nb x) -> kF o nb cs
 | [],_ => trivial
 | y :: r,h => ⟨h y (by simp),yc fun x hx => h x (by simp [hx])⟩
theorem Jm : ∀ {vs : List Value} {xs : List AV},pN vs xs = true -> xs.length = vs.length
 | [],[],_ => rfl
 | [],_ :: _,h => by simp [pN] at h
 | _ :: _,[],h => by simp [pN] at h
 | v :: r,x :: s,h => by simp only [pN,aa] at h; simp [Jm h.2]
theorem aci : ∀ {zs : List AV},mN (sU zs) = true -> bq (sU zs) = true -> ∀ z ∈ zs,fz (iP z) = true
 | [],_,_,z,hz => by simp at hz
 | x :: r,h1,h2,z,hz => by
   simp only [sU,mN,bq,aa] at h1 h2;rcases aX.1 hz with e | e
   ·subst e;rcases dn_c (zR h1.1) with ⟨k,rfl,e⟩ | ⟨hc,e⟩
    ·rfl
    ·rw [e] at h1 h2;have h1' := h1.1;have h2' := h2.1;cases z <;> first | rfl | (simp [yl] at h1'; done) | (simp [AV.leaf] at h2'; done)
   ·exact aci h1.2 h2.2 z e
theorem WI {R : Addr -> Value -> Prop} {φ : dq} {x : AV} {v : Value} (h : bR R φ x v) : φ = [] -> pl x = true := by
 have all : ∀ {cs : List AV} {vs : Array Value},cs.length = vs.size -> (∀ (i : Nat) (c : AV) (v : Value),cs[i]? = some c -> vs[i]? = some v -> pl c = true) -> df cs = true := by
  intro cs
  induction cs with
  | nil => intro vs _ _; rfl
  | cons x r ih =>
    intro vs hl h;simp only [df,aa];obtain ⟨u,hu⟩ := c7 (l := vs) (i := 0) (by simp at hl; omega);refine ⟨h 0 x u rfl hu,ih (vs := vs.extract 1 vs.size) (by simp at hl ⊢; omega) fun i c v hc hv => ?_⟩;refine h (i + 1) c v (by simpa using hc) ?_;rw [Array.getElem?_extract] at hv;split at hv
    ·rwa [Nat.add_comm] at hv
    ·cases hv
 induction h with
 | agg φ cs vs hl h ih => intro e; simp only [pl]; exact all hl fun i c v h1 h2 => ih i c v h1 h2 e
 | dp φ cs vs hl h ih => intro e; simp only [pl]; exact all hl fun i c v h1 h2 => ih i c v h1 h2 e
 | func φ f as va bs vb CG CF ha hb YJ UT => intro e; simp only [pl,aa]; exact ⟨all CG fun i c v h1 h2 => YJ i c v h1 h2 e,all CF fun i c v h1 h2 => UT i c v h1 h2 e⟩
 | ptr φ b off a hb h => intro e; subst e; simp at hb
 | sl φ k b off len a cap hb hc h => intro e; subst e; simp at hb
 | _ => intro _; rfl
mutual
theorem xd {o : Rt -> Option (Nat × List AV)} {nb : Nat} : ∀ x,pl x = true -> cD o nb x
 | .agg cs,h => by simp only [pl] at h; exact Fj cs h
 | .dp cs,h => by simp only [pl] at h; exact Fj cs h
 | .func f a b,h => by simp only [pl,aa] at h; exact ⟨Fj a h.1,Fj b h.2⟩
 | .any,_ => trivial
 | .undef,_ => trivial
 | .eP,_ => trivial
 | .eT,_ => trivial
 | .dn,_ => trivial
 | .int _ _,_ => trivial
 | .bool _,_ => trivial
 | .str _,_ => trivial
 | .list _ _,_ => trivial
 | .dh _,_ => trivial
 | .own _ _,h => by simp [pl] at h
 | .c8 _ _ _ _,h => by simp [pl] at h
 | .ez _ _ _ _,h => by simp [pl] at h
 | .ptr _ _,h => by simp [pl] at h
 | .sl _ _ _ _,h => by simp [pl] at h
theorem Fj {o : Rt -> Option (Nat × List AV)} {nb : Nat} : ∀ cs,df cs = true -> kF o nb cs
 | [],_ => trivial
 | x :: r,h => by simp only [df,aa] at h; exact ⟨xd x h.1,Fj r h.2⟩
end
theorem yq : ∀ {ds : List AV},bI ds = false -> ∀ (j k : Nat) (xs : List AV),ds[j]? ≠ some (.own k xs)
 | [],_,j,k,xs,e => by simp at e
 | y :: r,h,j,k,xs,e => by
   cases j with
   | zero => simp at e; subst e; simp [bI] at h
   | succ j => exact yq (ds := r) (by cases y <;> simp [bI] at h <;> exact h) j k xs (by simpa using e)
theorem nx {x : AV} (h : bJ x = false) : EO x := by
 cases x <;> simp only [EO] <;> try (simp [bJ] at h; done)
 exact fun j k xs e => absurd e (yq h j k xs)
theorem WN {ag : Option Nat} {xs ys : List AV} {x : AV} (h : Ay ag xs = some x) (hl : xs.length <= ys.length) (hle : ∀ (i : Nat) (a b : AV),xs[i]? = some a -> ys[i]? = some b -> Le a b) : ∃ y,Ay ag ys = some y /\ Le x y := by
 unfold Ay at h ⊢;cases ag with
 | some k =>
   simp only at h ⊢;split at h
   case isFalse => cases h
   rename_i hk;simp at h;subst h;rw [if_pos (by omega)];refine ⟨_,rfl,Le.agg (by simp; omega) fun i a b ha hb => ?_⟩;rw [bB] at ha hb;split at ha
   ·rename_i hi;rw [if_pos hi] at hb;exact hle i a b ha hb
   ·cases ha
 | none =>
   simp only at h ⊢;cases xs with
   | nil => cases h
   | cons a r =>
     simp at h;subst h;cases ys with
     | nil => simp at hl
     | cons b r' => exact ⟨b,rfl,hle 0 a b rfl rfl⟩
section
variable {P : Program} {X : Nat -> Prop} {φ φ' : dq} {w w' : World} {N N' : Names} {s s1 : St} {Ha Ha' : Heap} {t : Nat -> Value} {B : Nat -> Nat} {base : Nat} {v va : AV} {v' : Value} {c : dR} {o : Oper} {a : Act} {kd : Kd}
theorem NC {t : TypeId} {k : Nat} {zs : List AV} (h1 : jc P t k = true) (h2 : iJ P t zs = true) : zs.length = k /\ mN zs = true /\ bq zs = true := by
 obtain ⟨e,i,z,hu,hi,wF,hk0,hby,Ni,N7⟩ := jj h1;unfold iJ at h2;rw [hu] at h2;simp only at h2;refine ⟨?_,(re h2).1,(re h2).2⟩;unfold oa at h2;rw [hi] at h2;simp only [Ni,aa] at h2;have := Jm h2.1;rw [this];simpa using N7
theorem mS (hm : P.follows .mixedOrders = true) (h : eF X φ w N s Ha (tm a)) (hg : Am.dH (iW c) X φ w) (hk : cN P o.op kd = true) {fl : Fp} (hs : fc (iW c) noC (yF N s.env) Ha kd = some (va,Ha',fl)) : Ok P X φ w o a va Ha' :=
 agw (afF hm c) (ZU c) (fun i => by rw [mz]; exact h.env i) hg h.heap hk hs
theorem SK (hm : P.follows .mixedOrders = true) (h : SB X φ w B base s (tm a)) (hg : Am.dH (iW c) X φ w) (hk : cN P o.op (mB kd) = true) (hs : Pc c s.env kd = some v) : mF P X φ w B base s v o a := by
 obtain ⟨N,Ha,h,hb⟩ := h;obtain ⟨h1,h2,h3⟩ := aeD (cA := iW c) (call := noC) h rfl hk hs;refine mF.of (mS hm h hg hk h1) fun v' w' φ' r hh ad => ?_;exact dS.quiet (h.nI ad hh h.own (fun _ _ => rfl)) hb h2 h3 r
theorem Pd (hm : P.follows .mixedOrders = true) (h : SB X φ w B base s (tm a)) (hg : Am.dH (iW c) X φ w) {zs : List AV} (hk : cN P o.op (mB (.new zs)) = true) : mF P X φ w B base ⟨s.env,s.H ++ [some zs]⟩ (.ptr s.H.length 0) o a := by
 obtain ⟨N,Ha,h,hb,hl⟩ := h;obtain ⟨t,ht⟩ := abK hk;obtain ⟨e1,e2⟩ := Ab N (re ht).1;refine mF.of (mS hm h hg hk (by simp only [mB,fc]; rfl)) fun v' w' φ' r hh ad => ?_;obtain ⟨N',n1,n2,h'⟩ := h.Pl ad hh (zA (re ht).1) e2 e1;refine dS.quiet h' ⟨fun b bz => by rw [n1 b (by omega)]; exact hb b bz,by simp; omega⟩ (by simp [cD]) trivial ?_;simp only [v7,cF,n2];exact r
theorem aa6 (hm : P.follows .mixedOrders = true) (h : SB X φ w B base s (tm a)) (hg : Am.dH (iW c) X φ w) {x : E} (hk : cN P o.op (mB (.box x)) = true) (wE : bq (bp c s.env x).cells = true) : mF P X φ w B base ⟨s.env,s.H ++ [some (bp c s.env x).cells]⟩ (.ptr s.H.length 0) o a := by
 obtain ⟨N,Ha,h,hb,hl⟩ := h;obtain ⟨o',ho⟩ := abX hk;have hx := cj (c := c) (cA := iW c) h rfl ho;have hc := Gw N hx.na;refine mF.of (mS hm h hg hk (by simp only [mB,fc,hx.ev,hc,s6 h wE (vc hx.ok),if_true]; rfl)) fun v' w' φ' r hh ad => ?_;obtain ⟨N',n1,n2,h'⟩ := h.Pl ad hh (vc hx.ok) hx.TP rfl;refine dS.quiet h' ⟨fun b bz => by rw [n1 b (by omega)]; exact hb b bz,by simp; omega⟩ (by simp [cD]) trivial ?_;simp only [v7,cF,n2];exact r
theorem zY (h : eF X φ w N s Ha t) (hb : (∀ b,b < base -> N.β b = B b) /\ base <= s.H.length) (ad : eZ φ w φ' w') {cs : List AV} (hh : b8 X φ' w' (Ha ++ [some cs])) {k : Nat} {xs : List AV} (hlen : xs.length * k <= cs.length) (hk : ∀ x ∈ xs,x.cells.length = k)
  (hc : ∀ (i : Nat) (d : AV),(aG xs)[i]? = some d -> fz d = true /\ ∃ e,cs[i]? = some e /\ e.leaf = true /\ Le d e) (r : bR (Rd X φ' w') φ' (.sl k Ha.length 0 xs.length) v') : dS X φ' w' B base s (.own k xs) t v' := by
 refine dS.fresh (h.push ad hh) hb (n := Ha.length) ⟨cs,GC _ _,hlen,hk,hc⟩ (fun q hq e => ?_) (fun b hb e => ?_) r
 ·have := h.iO hq e; omega
 ·have := h.qX hb; omega
theorem Pg (hm : P.follows .mixedOrders = true) (h : SB X φ w B base s (tm a)) (hg : Am.dH (iW c) X φ w) {k n : Nat} {zs cs : List AV} {ps : List (Nat × Nat × E)} (hk : cN P o.op (mB (.c5 k n zs ps)) = true) (hf : oT c s.env (rep zs n) ps = some cs) (hz : U9 (cs.map iP) = true) :
  mF P X φ w B base s (.own k (Oc k n (cs.map iP))) o a := by
 obtain ⟨N,Ha,h,hb⟩ := h;obtain ⟨⟨t,ht1,ht2⟩,hq⟩ := Qf hk;obtain ⟨z1,z2,z3⟩ := NC ht1 ht2;obtain ⟨e1,e2⟩ := Ab N z2;have C4 : rep (sU zs) n = iD N (rep zs n) := by rw [e1,rj,rj,yT]
 have Hf : zs.length = k := by rw [<- z1,e1,jg]
 have hzok : kF (av s) s.H.length (rep zs n) := yc fun x hx => Dm (zA z2) x (wj hx)
 have hzeo : TP (rep zs n) := fun j k' xs hj => by
  obtain ⟨i,hi⟩ := bA (wj (aW hj));exact e2 i k' xs hi
 obtain ⟨f1,f2,f3,f4⟩ := qE (cA := iW c) h rfl hq hzok hzeo hf;have Lt : cs.length = n * k := by rw [f4,JT,Hf]
 have wE : bq cs = true := by
  have : ∀ {l : List AV},(∀ x ∈ l,x.leaf = true) -> bq l = true := by
   intro l
   induction l with
   | nil => intro _; rfl
   | cons y r ih => intro h; simp only [bq,aa]; exact ⟨h y (by simp),ih fun x hx => h x (by simp [hx])⟩
  refine this fun x hx => ?_;have := (mO (nF hz (iP x) (po hx))).2;cases x <;> first | exact this | rfl
 have agH : ∀ x ∈ cs,x.leaf = true := fun x hx => by
  have := (mO (nF hz (iP x) (po hx))).2;cases x <;> first | exact this | rfl
 refine mF.of (mS hm h hg hk (by simp only [mB,fc,C4,f1,s6 h wE f2,if_true]; rfl)) fun v' w' φ' r hh ad => ?_;obtain ⟨g1,g2⟩ := FZ k n (cs.map iP) (by simp [Lt]);refine zY h hb ad hh (by rw [g1,jg,Lt]; omega) (fun x hx => ?_) (fun i d hd => ?_) (by rw [g1]; exact r)
 ·obtain ⟨i,hi⟩ := bA hx;obtain ⟨q1,q2⟩ := g2 i x hi;rw [q1,bu,dK,iM,Lt];have : (i + 1) * k <= n * k := bG k q2;rw [bX] at this;omega
 ·rw [Nz k n _ (by simp [Lt]),<- Lt,show (cs.map iP).take cs.length = cs.map iP from List.take_of_length_le (by simp),cU] at hd;cases hc : cs[i]? with
  | none => rw [hc] at hd; cases hd
  | some x =>
    rw [hc] at hd;simp at hd;subst hd;have C9 := nF hz (iP x) (po (aW hc));exact ⟨C9,fB N x,by rw [nK,hc]; rfl,KJ h (agH x (aW hc)) (Dm f2 x (aW hc)),Tb N C9 (fun k xs e => f3 i k xs (by rw [hc,e]))⟩
theorem aa2 (hm : P.follows .mixedOrders = true) (h : SB X φ w B base s (tm a)) (hg : Am.dH (iW c) X φ w) {k : Nat} {zs : List AV} {x y : E} {k1 k2 : IntKind} {l cp : Int} (hk : cN P o.op (mB (.KF k zs x y)) = true) (hx : bp c s.env x = .int k1 l) (hy : bp c s.env y = .int k2 cp) (hc : 0 <= l /\ l <= cp /\ cp <= (kR : Int)) :
  mF P X φ w B base s (.own k (aM l.toNat (el (zs.map iP)))) o a := by
 obtain ⟨N,Ha,h,hb⟩ := h;obtain ⟨⟨t,ht1,ht2⟩,⟨o1,h1⟩,o2,h2⟩ := TG hk;obtain ⟨z1,z2,z3⟩ := NC ht1 ht2;obtain ⟨e1,e2⟩ := Ab N z2;have Hf : zs.length = k := by rw [<- z1,e1,jg]
 have Ds := (cj (c := c) (cA := iW c) h rfl h1).int hx;have IP := (cj (c := c) (cA := iW c) h rfl h2).int hy;refine mF.of (mS hm h hg hk (by simp only [mB,fc,Ds,IP,if_pos hc]; rfl)) fun v' w' φ' r hh ad => ?_;refine zY h hb ad hh (by rw [dT,JT,z1]; omega) (fun u hu => ?_) (fun i d hd => ?_) (by rw [dT]; exact r)
 ·rw [List.eq_of_mem_replicate hu,rW,iM,Hf]
 ·rw [Ny,rW,yT,cU] at hd;cases hc' : (rep zs l.toNat)[i]? with
  | none => rw [hc'] at hd; cases hd
  | some z =>
    rw [hc'] at hd;simp at hd;subst hd;have Y5 := wj (aW hc');obtain ⟨j,hj⟩ := bA Y5;have heo : ∀ k xs,z = .own k xs -> xs = [] := fun k xs e => e2 j k xs (by rw [hj,e]);have C9 : fz (iP z) = true := aci z2 z3 z Y5
    have wE : (fB N z).leaf = true := by
     have U1 : fB N z ∈ sU zs := by rw [e1,rj]; exact po Y5
     have : ∀ {l : List AV},bq l = true -> ∀ x ∈ l,x.leaf = true := by
      intro l
      induction l with
      | nil => intro _ x hx; simp at hx
      | cons y r ih =>
        intro q x hx;simp only [bq,aa] at q;rcases aX.1 hx with e | e
        ·subst e; exact q.1
        ·exact ih q.2 x e
     exact this z3 _ U1
    exact ⟨C9,fB N z,by rw [e1]; rw [rj,yT,cU,hc']; rfl,wE,Tb N C9 heo⟩
theorem ab4 {zs z : List AV} (h : Vs zs = some z) : sU zs = [.dn] /\ ∃ k,z = [.own k []] := by
 unfold Vs at h;split at h
 case h_2 => cases h
 rename_i k;split at h
 case isFalse => cases h
 simp at h;exact ⟨rfl,_,h.symm⟩
theorem aa1 (hm : P.follows .mixedOrders = true) (h : SB X φ w B base s (tm a)) (hg : Am.dH (iW c) X φ w) {k : Nat} {zs z : List AV} {x y : E} {k1 k2 : IntKind} {l cp : Int} (hk : cN P o.op (mB (.KF k zs x y)) = true) (hz : Vs zs = some z) (hx : bp c s.env x = .int k1 l) (hy : bp c s.env y = .int k2 cp) (hc : 0 <= l /\ l <= cp /\ cp <= (kR : Int)) :
  mF P X φ w B base ⟨s.env,s.H ++ [some (rep z l.toNat)]⟩ (.sl k s.H.length 0 l.toNat) o a := by
 obtain ⟨N,Ha,h,hb,hl⟩ := h;obtain ⟨_,⟨o1,h1⟩,o2,h2⟩ := TG hk;obtain ⟨e1,k',rfl⟩ := ab4 hz;have Ds := (cj (c := c) (cA := iW c) h rfl h1).int hx;have IP := (cj (c := c) (cA := iW c) h rfl h2).int hy;refine mF.of (mS hm h hg hk (by simp only [mB,fc,Ds,IP,if_pos hc]; rfl)) fun v' w' φ' r hh ad => ?_
 obtain ⟨N',n1,n2,h'⟩ := h.Pl (zs := rep [.own k' []] l.toNat) ad hh (yc fun u hu => by
  have := wj hu;simp at this;subst this;exact trivial) (fun j kk xs hj => by
  have := wj (aW hj);simp at this;exact this.2) (by rw [e1,rj,<- yT]; rfl)
 refine dS.quiet h' ⟨fun b bz => by rw [n1 b (by omega)]; exact hb b bz,by simp; omega⟩ (by simp [cD]) trivial ?_;simp only [v7,cF,n2];exact r
theorem adj (h : eF X φ w N s Ha (tm a)) (hg : Am.dH (iW c) X φ w) {ag : Option Nat} {x : E} {ps : List Rt} {o' : Operand} (ho : cZ o' (mC x) = true) (hs : ya s ag (bp c s.env x) = some (v,ps)) :
  ∃ va fl,fc (iW c) noC (yF N s.env) Ha (mB (.ld ag x)) = some (va,Ha,fl) /\ Le (v7 N v) va /\ cD (av s) s.H.length v /\ EO v := by
 have hx := cj (c := c) (cA := iW c) h rfl ho;have c6 := hx.ok
 have fin : ∀ {va : AV} {fl : Fp},fc (iW c) noC (yF N s.env) Ha (mB (.ld ag x)) = some (va,Ha,fl) -> Le (v7 N v) va -> cD (av s) s.H.length v -> EO v -> ∃ va fl,fc (iW c) noC (yF N s.env) Ha (mB (.ld ag x)) = some (va,Ha,fl) /\ Le (v7 N v) va /\ cD (av s) s.H.length v /\ EO v :=
  fun e hle h2 h3 => ⟨_,_,e,hle,h2,h3⟩
 have rdn : ∀ {cs : List AV},JV ag cs = some v -> Ay ag cs = some v /\ bJ v = false := by
  intro cs hu;unfold JV at hu;split at hu
  case h_2 => cases hu
  rename_i u' hr;split at hu
  ·cases hu
  rename_i jH;simp at hu jH;subst hu;exact ⟨hr,jH⟩
 have plrd : ∀ {cs : List AV},Ay ag cs = some v -> (∀ x ∈ cs,pl x = true) -> pl v = true := by
  intro cs hr hp;unfold Ay at hr;cases ag with
  | some k =>
    simp only at hr;split at hr
    case isFalse => cases hr
    simp at hr;subst hr;simp only [pl]
    have : ∀ {l : List AV},(∀ x ∈ l,pl x = true) -> df l = true := by
     intro l
     induction l with
     | nil => intro _; rfl
     | cons y r ih => intro h; simp only [df,aa]; exact ⟨h y (by simp),ih fun x hx => h x (by simp [hx])⟩
    exact this fun x hx => hp x (cP hx)
  | none =>
    simp only at hr;cases cs with
    | nil => cases hr
    | cons y r => simp at hr; subst hr; exact hp y (by simp)
 unfold ya at hs;cases e : bp c s.env x <;> rw [e] at hs c6 <;> try (simp at hs; done)
 ·rename_i cs;simp only at hs;split at hs
  case h_2 => cases hs
  rename_i u hu;simp at hs;obtain ⟨rfl,rfl⟩ := hs;obtain ⟨hr,jH⟩ := rdn hu;have r := bQ (c := iW c) (env := yF N s.env) (a := a) (fun i => by rw [mz]; exact h.env i) hg ho;rw [hx.ev,e] at r;simp only [fB,cF] at r
  have sd : ∀ y ∈ cs,pl y = true := by
   intro y hy;obtain ⟨j,hj⟩ := bA hy;generalize a.eval o' = z at r;cases r with
   | dh _ _ _ u hu h => exact WI (h j y hj) rfl
  have hv := plrd hr sd;refine fin (va := u) (by simp only [mB,fc,hx.ev,e,fB,cF,hr]; rfl) ?_ (xd _ hv) (nx jH);rw [lD N jH,lC N _ hv];exact Le.refl _
 ·rename_i b off;simp only at hs;split at hs
  case h_2 => cases hs
  rename_i cs dx;split at hs
  case h_2 => cases hs
  rename_i u hu;simp at hs;obtain ⟨rfl,rfl⟩ := hs;obtain ⟨hr,jH⟩ := rdn hu;obtain ⟨as,g1,g2,g3⟩ := h.box b cs dx
  have hokL : kF (av s) s.H.length (dZ (.c b) 0 cs) := by
   refine iY.2 fun j d hd => ?_;rw [Bb] at hd;cases hc : cs[j]? with
   | none => rw [hc] at hd; cases hd
   | some d0 =>
     rw [hc] at hd;simp only [cT,ai,dL] at hd;subst hd;split
     ·rename_i k xs;simp only [cD];exact ⟨xs,bZ.2 (by rw [vL dx]; exact hc),by omega⟩
     ·exact (g3 j _ hc).1
  obtain ⟨r1,r2,r3,_⟩ := OP N hu (zE (n := off) hokL);rw [<- DJ,DG] at r1
  obtain ⟨va,q1,q2⟩ := WN (ys := as.drop off) r1 (by simp [iN]; omega) (fun i x y hx hy => by
   rw [aS,fg] at hx;rw [aS] at hy;simp only [dL] at hx;cases hc : cs[off + i]? with
   | none => rw [hc] at hx; cases hx
   | some d =>
     rw [hc] at hx;simp at hx;subst hx;obtain ⟨_,a',a1,a2⟩ := g3 _ d hc;rw [a1] at hy;cases hy;exact a2)
  exact fin (va := va) (by simp only [mB,fc,hx.ev,e,fB,cF,g1,q1]; rfl) q2 r2 r3
 ·rename_i k p i off;simp only at hs;split at hs
  case h_2 => cases hs
  rename_i k' xs hp;split at hs
  case isFalse => cases hs
  rename_i C7;subst C7;split at hs
  case h_2 => cases hs
  rename_i el' hel;split at hs
  case h_2 => cases hs
  rename_i u hu;simp at hs;obtain ⟨rfl,rfl⟩ := hs;obtain ⟨hr,jH⟩ := rdn hu;obtain ⟨n,hn,e2⟩ := Fc h c6;have eW := h.own p k' xs hp;rw [hn] at eW;obtain ⟨cs,c1,c2,c3,c4⟩ := eW;have kA : ∀ (j : Nat) (d : AV),el'.cells[j]? = some d -> fz d = true /\ ∃ a,cs[i * k' + j]? = some a /\ Le d a := fun j d hd => let ⟨f1,a,f2,_,f3⟩ := c4 _ d (zZ c3 hel hd); ⟨f1,a,f2,f3⟩
  have sd : ∀ y ∈ el'.cells.drop off,pl y = true := by
   intro y hy;obtain ⟨j,hj⟩ := bA (cQ hy);exact (mO (kA j y hj).1).1
  have hv := plrd hr sd;have ag1 : el'.cells.length = k' := c3 el' (aW hel);have hi : (i + 1) * k' <= xs.length * k' := bG k' (aq hel);rw [bX] at hi
  obtain ⟨va,q1,q2⟩ := WN (ys := cs.drop (i * k' + off)) hr (by simp; omega) (fun j x y hx hy => by
   rw [aS] at hx hy;obtain ⟨_,a',a1,a2⟩ := kA _ x hx;rw [show i * k' + (off + j) = i * k' + off + j by omega] at a1;rw [a1] at hy;cases hy;exact a2)
  refine fin (va := va) (by simp only [mB,fc,hx.ev,e,fB,e2,c1,q1]; rfl) ?_ (xd _ hv) (nx jH);rw [lD N jH,lC N _ hv];exact q2
theorem aeR (hm : P.follows .mixedOrders = true) (h : SB X φ w B base s (tm a)) (hg : Am.dH (iW c) X φ w) {ag : Option Nat} {x : E} {ps : List Rt} (hk : cN P o.op (mB (.ld ag x)) = true) (hs : ya s ag (bp c s.env x) = some (v,ps)) : mF P X φ w B base s v o a := by
 obtain ⟨N,Ha,h,hb⟩ := h;obtain ⟨o',ho⟩ := afx hk;obtain ⟨va,fl,e,hle,h2,h3⟩ := adj h hg ho hs;refine mF.of (mS hm h hg hk e) fun v' w' φ' r hh ad => ?_;exact dS.quiet (h.nI ad hh h.own (fun _ _ => rfl)) hb h2 h3 (hle _ _ _ r)
end
end Go.Bm
