/- The machine by value: what a state stands for. -/
import Derived.Test.YtppmiehidnpgbaaGreatDoorBmA
/- How a state by value stands for a state of the older machine. -/
set_option linter.unusedSimpArgs false
open Bool renaming and_eq_true → ae, or_eq_false_iff → eP
open List renaming ext_getElem? → dT, getElem?_append_left → az, getElem?_append_right → aR, getElem?_drop → aU, getElem?_eq_none → eH, getElem?_map → cq, getElem?_of_mem → bG, getElem?_set → bm, getElem?_set_ne → dq, getElem?_take → bF, length_drop → dS, length_map → gF, length_replicate → bW, length_take → bC, mem_append → aG, mem_cons → aK, mem_map_of_mem → pz, mem_of_getElem? → bg, mem_of_mem_drop → c9, mem_of_mem_take → c8, mem_singleton → cE, replicate → aF
open Nat renaming add_mul → cF, le_refl → aT, mul_le_mul_right → bM, zero_add → gE, zero_mul → rk
open Ne renaming symm → iP
open Option renaming isSome_iff_exists → aQ, map_some → dc
open Option.some renaming inj → dn, injEq → ah
open Prod.mk renaming injEq → aJ
namespace Go.Bm
open Go.Am

structure Names where
 β : Nat -> Nat
 ν : Rt -> Option Nat

mutual
def cM (N : Names) : AV -> AV
 | .dG k p off len => match N.ν p with
   | some n => .sl k n (off * k) len
   | none => .dz
 | .fa k p i off => match N.ν p with
   | some n => .ptr n (i * k + off)
   | none => .any
 | .ptr b off => .ptr (N.β b) off
 | .agg cs => .agg (kW N cs)
 | .dB cs => .dB (kW N cs)
 | .func f a b => .func f (kW N a) (kW N b)
 | .own _ _ => .any
 | .sl k b off len => .sl k (N.β b) off len
 | .any => .any | .undef => .undef | .fy => .fy | .fD => .fD | .dz => .dz
 | .int k n => .int k n | .bool b => .bool b | .str s => .str s
 | .list k xs => .list k xs | .dw cs => .dw cs
def kW (N : Names) : List AV -> List AV
 | [] => []
 | x :: r => cM N x :: kW N r
end
def rO (N : Names) (p : Rt) (k len : Nat) : AV :=
 match N.ν p with
 | some n => .sl k n 0 len
 | none => .dz
def jF (N : Names) (p : Rt) : AV -> AV
 | .own k xs => rO N p k xs.length
 | v => cM N v
def Pj (N : Names) (f : Nat -> Rt) : Nat -> List AV -> List AV
 | _,[] => []
 | j,x :: r => jF N (f j) x :: Pj N f (j + 1) r
def ku (N : Names) (i : Nat) : AV -> AV
 | .agg cs => .agg (Pj N (.sc i) 0 cs)
 | v => jF N (.s i) v
def yw (N : Names) : Env -> Env
 | [] => []
 | (i,v) :: r => (i,ku N i v) :: yw N r

def Le (x y : AV) : Prop := ∀ R φ v,bT R φ y v -> bT R φ x v
theorem Le.refl (x : AV) : Le x x := fun _ _ _ h => h
theorem Le.trans {x y z : AV} (h : Le x y) (k : Le y z) : Le x z := fun R φ v r => h R φ v (k R φ v r)
theorem Le.any (y : AV) : Le .any y := fun _ _ _ _ => .any _ _
theorem Le.agg {xs ys : List AV} (hl : xs.length = ys.length) (h : ∀ (i : Nat) (x y : AV),xs[i]? = some x -> ys[i]? = some y -> Le x y) : Le (.agg xs) (.agg ys) := by
 intro R φ v r;cases r with
 | agg _ _ vs Ge h2 =>
   refine .agg _ _ _ (hl.trans Ge) fun i c u hc hu => ?_;obtain ⟨y,hy⟩ := aZ (l := ys) (i := i) (by have := aA hc; omega);exact h i c y hc hy _ _ _ (h2 i y u hy hu)
theorem Le.fi (k : Nat) : Le (.list k []) .dz := by
 intro R φ v r;cases r with
 | dz => exact .j8 _ _

mutual
def cK (o : Rt -> Option (Nat × List AV)) (nb : Nat) : AV -> Prop
 | .dG k p off len => ∃ xs,o p = some (k,xs) /\ off + len <= xs.length
 | .fa k p i _ => ∃ xs,o p = some (k,xs) /\ i < xs.length
 | .ptr b _ => b < nb
 | .agg cs => kg o nb cs
 | .dB cs => kg o nb cs
 | .func _ a b => kg o nb a /\ kg o nb b
 | .sl _ b _ _ => b < nb
 | _ => True
def kg (o : Rt -> Option (Nat × List AV)) (nb : Nat) : List AV -> Prop
 | [] => True
 | x :: r => cK o nb x /\ kg o nb r
end
theorem gk {o : Rt -> Option (Nat × List AV)} {nb : Nat} : ∀ {cs : List AV},kg o nb cs ↔ ∀ (i : Nat) (c : AV),cs[i]? = some c -> cK o nb c
 | [] => by simp [kg]
 | x :: r => by
   simp only [kg,gk (cs := r)];constructor
   ·rintro ⟨h1,h2⟩ i c hc;cases i with
    | zero => simp at hc; exact hc ▸ h1
    | succ i => exact h2 i c (by simpa using hc)
   ·intro h;exact ⟨h 0 x rfl,fun i c hc => h (i + 1) c (by simpa using hc)⟩

def oT (H : Heap) (o : Option Nat) (k : Nat) (xs : List AV) : Prop :=
 match o with
 | none => xs = []
 | some n => ∃ cs,aN H n = some cs /\ xs.length * k <= cs.length /\ (∀ x ∈ xs,x.cells.length = k) /\ ∀ (i : Nat) (c : AV),(aH xs)[i]? = some c -> fz c = true /\ ∃ a,cs[i]? = some a /\ a.leaf = true /\ Le c a

structure eR (X : Nat -> Prop) (φ : dy) (w : World) (N : Names) (s : St) (Ha : Heap) (t : Nat -> Value) : Prop where
 env : ∀ i,bT (Rd X φ w) φ (ku N i (get s.env i)) (t i)
 Cu : ∀ i,cK (aC s) s.H.length (get s.env i)
 heap : cG X φ w Ha
 own : ∀ p k xs,aC s p = some (k,xs) -> oT Ha (N.ν p) k xs
 box : ∀ b cs,aN s.H b = some cs -> ∃ as,aN Ha (N.β b) = some as /\ as.length = cs.length /\ ∀ (j : Nat) (c : AV),cs[j]? = some c -> cK (aC s) s.H.length c /\ ∃ a,as[j]? = some a /\ Le (jF N (.c b j) c) a
 inj : ∀ p q n,(aC s p).isSome -> (aC s q).isSome -> N.ν p = some n -> N.ν q = some n -> p = q
 bx : ∀ b p,(aN s.H b).isSome -> (aC s p).isSome -> N.ν p ≠ some (N.β b)
 bi : ∀ b c,(aN s.H b).isSome -> (aN s.H c).isSome -> N.β b = N.β c -> b = c

/-! Lists and places -/
theorem lx (N : Names) : ∀ (cs : List AV) (i : Nat),(kW N cs)[i]? = (cs[i]?).map (cM N)
 | [],i => by simp [kW]
 | x :: r,i => by cases i <;> simp [kW,lx N r]
theorem dI (N : Names) : ∀ cs : List AV,(kW N cs).length = cs.length
 | [] => rfl
 | x :: r => by simp [kW,dI N r]
theorem fZ (N : Names) (f : Nat -> Rt) : ∀ (cs : List AV) (j i : Nat),(Pj N f j cs)[i]? = (cs[i]?).map (jF N (f (j + i)))
 | [],j,i => by simp [Pj]
 | x :: r,j,i => by
   cases i with
   | zero => simp [Pj]
   | succ i => simp only [Pj,List.getElem?_cons_succ,fZ N f r]; rw [show j + 1 + i = j + (i + 1) by omega]
theorem iI (N : Names) (f : Nat -> Rt) : ∀ (cs : List AV) (j : Nat),(Pj N f j cs).length = cs.length
 | [],j => rfl
 | x :: r,j => by simp [Pj,iI N f r]
theorem eJ (g : AV -> AV) : ∀ (cs : List AV) (i : Nat),(de g cs)[i]? = (cs[i]?).map (cN g)
 | [],i => by simp [de]
 | x :: r,i => by cases i <;> simp [de,eJ g r]
theorem cI (g : AV -> AV) : ∀ cs : List AV,(de g cs).length = cs.length
 | [] => rfl
 | x :: r => by simp [de,cI g r]
theorem lP (N : Names) : ∀ (e : Env) (i : Nat),get (yw N e) i = ku N i (get e i)
 | [],i => rfl
 | (j,u) :: r,i => by
   simp only [yw,Am.get];split
   ·rename_i h; rw [h]
   ·exact lP N r i
theorem dt (g : AV -> AV) : ∀ (e : Env) (i : Nat),get (j7 g e) i = cN g (get e i)
 | [],i => rfl
 | (j,u) :: r,i => by
   simp only [j7,Am.get];split
   ·rfl
   ·exact dt g r i
theorem FR (g : AV -> AV) : ∀ (H : Heap) (b : Nat),(ft g H)[b]? = (H[b]?).map (Option.map (de g))
 | [],b => by simp [ft]
 | none :: r,b => by cases b <;> simp [ft,FR g r]
 | some cs :: r,b => by cases b <;> simp [ft,FR g r]
theorem fw (g : AV -> AV) : ∀ H : Heap,(ft g H).length = H.length
 | [] => rfl
 | none :: r => by simp [ft,fw g r]
 | some cs :: r => by simp [ft,fw g r]
theorem fk (g : AV -> AV) (H : Heap) (b : Nat) : aN (ft g H) b = (aN H b).map (de g) := by
 unfold aN;rw [FR];cases H[b]? with
 | none => rfl
 | some o => cases o <;> rfl
theorem pe {H : Heap} {b : Nat} {cs : List AV} : aN H b = some cs ↔ H[b]? = some (some cs) := by
 constructor
 ·exact sC
 ·intro h; unfold aN; rw [h]
theorem dL {H : Heap} {b : Nat} {cs : List AV} (h : aN H b = some cs) : b < H.length := aA (sC h)
theorem dH (H : Heap) (b c : Nat) (x : List AV) : aN (H.set b (some x)) c = if c = b /\ b < H.length then some x else aN H c := by
 unfold aN;rw [bm];by_cases h : b = c
 ·subst h;by_cases hl : b < H.length
  ·simp [hl]
  ·simp [hl,eH (Nat.le_of_not_lt hl)]
 ·simp [h,iP h]
theorem fV (H : Heap) (x : List AV) (c : Nat) : aN (H ++ [some x]) c = if c = H.length then some x else aN H c := by
 unfold aN;by_cases h : c < H.length
 ·rw [az h,if_neg (by omega)]
 ·rw [aR (by omega)];by_cases h2 : c = H.length
  ·subst h2; simp
  ·rw [if_neg h2,eH (l := H) (by omega),eH (by simp; omega)]

def jP (x : AV) : Prop := ∀ cs,x ≠ .agg cs
def NOwn (x : AV) : Prop := ∀ k xs,x ≠ .own k xs
def jX (g : AV -> AV) : Prop := ∀ k p o l,(jP (g (.dG k p o l)) /\ NOwn (g (.dG k p o l))) /\ (jP (g (.fa k p o l)) /\ NOwn (g (.fa k p o l)))
theorem ve {g : AV -> AV} (hg : jX g) (x : AV) (k : Nat) (xs : List AV) : cN g x = .own k xs ↔ x = .own k xs := by
 cases x <;> simp [cN]
 ·exact (hg _ _ _ _).1.2 _ _
 ·exact (hg _ _ _ _).2.2 _ _
theorem M9 {g : AV -> AV} (hg : jX g) (x : AV) (cs : List AV) : cN g x = .agg cs ↔ ∃ ds,x = .agg ds /\ de g ds = cs := by
 cases x <;> simp [cN]
 ·exact (hg _ _ _ _).1.1 _
 ·exact (hg _ _ _ _).2.1 _
theorem kZ {g : AV -> AV} (hg : jX g) {x : AV} (h : jP x) : jP (cN g x) := by
 intro cs e;obtain ⟨ds,rfl,_⟩ := (M9 hg x cs).1 e;exact h _ rfl
theorem jA {g : AV -> AV} (hg : jX g) (s : St) (p : Rt) : at_ (cz g s) p = (at_ s p).map (cN g) := by
 cases p with
 | s i => simp [at_,cz,dt]
 | sc i j =>
   simp only [at_,cz,dt];generalize get s.env i = x;split
   ·rename_i cs h;obtain ⟨ds,rfl,rfl⟩ := (M9 hg x cs).1 h;simp [eJ]
   ·rename_i h;split
    ·rename_i ds;exact absurd rfl (h (de g ds))
    ·rfl
 | c b j =>
   simp only [at_,cz,fk];cases aN s.H b with
   | none => rfl
   | some cs => simp [eJ]
theorem cu {s : St} {p : Rt} {k : Nat} {xs : List AV} : aC s p = some (k,xs) ↔ at_ s p = some (.own k xs) := by
 unfold aC;split
 ·rename_i k' xs' h;rw [h];simp
 ·rename_i h;constructor
  ·intro h'; cases h'
  ·intro h'; exact absurd h' (h k xs)
theorem iB {g : AV -> AV} (hg : jX g) (s : St) (p : Rt) : aC (cz g s) p = aC s p := by
 cases h : aC s p with
 | none =>
   cases h2 : aC (cz g s) p with
   | none => rfl
   | some y =>
     obtain ⟨k,xs⟩ := y;rw [cu,jA hg] at h2;cases hx : at_ s p with
     | none => rw [hx] at h2; cases h2
     | some x =>
       rw [hx] at h2;simp only [dc,ah] at h2;rw [ve hg] at h2;subst h2;rw [cu.2 hx] at h;cases h
 | some y =>
   obtain ⟨k,xs⟩ := y;rw [cu] at h ⊢;rw [jA hg,h];rfl

structure Shape (s s' : St) : Prop where
 agg : ∀ i cs,get s.env i = .agg cs -> ∃ ds,get s'.env i = .agg ds /\ ds.length = cs.length
 PT : ∀ i,jP (get s.env i) -> jP (get s'.env i)
 len : s'.H.length = s.H.length
 box : ∀ b cs,aN s.H b = some cs -> ∃ ds,aN s'.H b = some ds /\ ds.length = cs.length
 Cw : ∀ b,aN s.H b = none -> aN s'.H b = none
theorem Shape.refl (s : St) : Shape s s := ⟨fun _ cs h => ⟨cs,h,rfl⟩,fun _ h => h,rfl,fun _ cs h => ⟨cs,h,rfl⟩,fun _ h => h⟩
theorem Shape.trans {s s' s'' : St} (h : Shape s s') (k : Shape s' s'') : Shape s s'' :=
 ⟨fun i cs hc => let ⟨ds,h1,h2⟩ := h.agg i cs hc; let ⟨es,h3,h4⟩ := k.agg i ds h1; ⟨es,h3,h4.trans h2⟩,fun i hi => k.PT i (h.PT i hi),k.len.trans h.len,
  fun b cs hc => let ⟨ds,h1,h2⟩ := h.box b cs hc; let ⟨es,h3,h4⟩ := k.box b ds h1; ⟨es,h3,h4.trans h2⟩,fun b hb => k.Cw b (h.Cw b hb)⟩
theorem Shape.map {g : AV -> AV} (hg : jX g) (s : St) : Shape s (cz g s) where
 agg i cs h := ⟨de g cs,by simp [cz,dt,h,cN],cI g cs⟩
 PT i h := by simp only [cz,dt]; exact kZ hg h
 len := fw g s.H
 box b cs h := ⟨de g cs,by simp [cz,fk,h],cI g cs⟩
 Cw b h := by simp [cz,fk,h]
def Lf (s : St) (r : Rt) : Prop := ∀ i,r = .s i -> jP (get s.env i)
def Fits (s : St) (p : Rt) (v : AV) : Prop := jP v /\ ∃ x,at_ s p = some x /\ jP x
theorem Shape.set {s : St} {p : Rt} {v : AV} (h : Fits s p v) : Shape s (setAt s p v) := by
 obtain ⟨hv,x,hx,hn⟩ := h;cases p with
 | s i =>
   simp only [at_,ah] at hx;refine ⟨fun j cs hc => ?_,fun j hj => ?_,rfl,fun b cs hc => ⟨cs,hc,rfl⟩,fun b hb => hb⟩
   ·simp only [setAt,bE];by_cases CC : j = i
    ·subst CC; rw [hx] at hc; exact absurd hc (hn cs)
    ·rw [if_neg CC]; exact ⟨cs,hc,rfl⟩
   ·simp only [setAt,bE];by_cases CC : j = i
    ·rw [if_pos CC]; exact hv
    ·rw [if_neg CC]; exact hj
 | sc i l =>
   simp only [at_] at hx;cases hg : get s.env i <;> rw [hg] at hx <;> simp at hx
   rename_i ds;have hs : setAt s (.sc i l) v = ⟨put s.env i (.agg (ds.set l v)),s.H⟩ := by simp [setAt,hg]
   rw [hs];refine ⟨fun j cs hc => ?_,fun j hj => ?_,rfl,fun b cs hc => ⟨cs,hc,rfl⟩,fun b hb => hb⟩
   ·simp only [bE];by_cases CC : j = i
    ·subst CC; rw [hg] at hc; cases hc; exact ⟨_,if_pos rfl,by simp⟩
    ·rw [if_neg CC]; exact ⟨cs,hc,rfl⟩
   ·simp only [bE];by_cases CC : j = i
    ·subst CC; exact absurd hg (hj ds)
    ·rw [if_neg CC]; exact hj
 | c b l =>
   simp only [at_] at hx;cases hg : aN s.H b <;> rw [hg] at hx <;> simp at hx
   rename_i ds;have hs : setAt s (.c b l) v = ⟨s.env,s.H.set b (some (ds.set l v))⟩ := by simp [setAt,hg]
   rw [hs];refine ⟨fun j cs hc => ⟨cs,hc,rfl⟩,fun j hj => hj,by simp,fun d cs hc => ?_,fun d hd => ?_⟩
   ·rw [dH];by_cases hdb : d = b
    ·subst hdb; rw [hg] at hc; cases hc; exact ⟨_,if_pos ⟨rfl,dL hg⟩,by simp⟩
    ·rw [if_neg (fun h => hdb h.1)]; exact ⟨cs,hc,rfl⟩
   ·rw [dH];by_cases hdb : d = b
    ·subst hdb; rw [hg] at hd; cases hd
    ·rw [if_neg (fun h => hdb h.1)]; exact hd
theorem Bj {s : St} {p : Rt} {v : AV} (h : Fits s p v) {r : Rt} (hr : Lf s r) : at_ (setAt s p v) r = if r = p then some v else at_ s r := by
 obtain ⟨hv,x,hx,hn⟩ := h;cases p with
 | s i =>
   simp only [at_,ah] at hx;cases r with
   | s j => simp only [at_,setAt,bE]; by_cases CC : j = i <;> simp [CC]
   | sc j l =>
     simp only [at_,setAt,bE];by_cases CC : j = i
     ·subst CC;simp only [if_true,hx,reduceCtorEq,if_false];cases v <;> first | (exact absurd rfl (hv _)) | (cases x <;> first | (exact absurd rfl (hn _)) | rfl)
     ·simp [CC]
   | c b l => simp [at_,setAt]
 | sc i l =>
   simp only [at_] at hx;cases hg : get s.env i <;> rw [hg] at hx <;> simp at hx
   rename_i ds;have hs : setAt s (.sc i l) v = ⟨put s.env i (.agg (ds.set l v)),s.H⟩ := by simp [setAt,hg]
   rw [hs];cases r with
   | s j =>
     simp only [at_,bE,reduceCtorEq,if_false];by_cases CC : j = i
     ·subst CC;exact absurd hg (hr j rfl ds)
     ·simp [CC]
   | sc j m =>
     simp only [at_,bE];by_cases CC : j = i
     ·subst CC;simp only [if_true,hg,Rt.sc.injEq,true_and];rw [bm];by_cases hlm : l = m
      ·subst hlm;have := aA hx;simp [this]
      ·simp [hlm,iP hlm]
     ·simp [CC]
   | c b m => simp [at_]
 | c b l =>
   simp only [at_] at hx;cases hg : aN s.H b <;> rw [hg] at hx <;> simp at hx
   rename_i ds;have hs : setAt s (.c b l) v = ⟨s.env,s.H.set b (some (ds.set l v))⟩ := by simp [setAt,hg]
   rw [hs];cases r with
   | s j => simp [at_]
   | sc j m => simp [at_]
   | c d m =>
     simp only [at_,dH];by_cases hdb : d = b
     ·subst hdb;simp only [dL hg,and_self,if_true,hg,Rt.c.injEq,true_and];rw [bm];by_cases hlm : l = m
      ·subst hlm;have := aA hx;simp [this]
      ·simp [hlm,iP hlm]
     ·simp [hdb]

theorem Y2 {N N' : Names} {i : Nat} {x y : AV} (h1 : ∀ cs,x = .agg cs -> ∃ ds,y = .agg ds /\ ds.length = cs.length /\ ∀ (j : Nat) (c d : AV),cs[j]? = some c -> ds[j]? = some d -> Le (jF N' (.sc i j) d) (jF N (.sc i j) c))
  (h2 : jP x -> jP y /\ Le (jF N' (.s i) y) (jF N (.s i) x)) : Le (ku N' i y) (ku N i x) := by
 by_cases hx : ∃ cs,x = .agg cs
 ·obtain ⟨cs,rfl⟩ := hx;obtain ⟨ds,rfl,hl,h⟩ := h1 cs rfl;simp only [ku];refine Le.agg (by simp [iI,hl]) fun j u v hu hv => ?_;rw [fZ] at hu hv;simp only [gE] at hu hv;cases hd : ds[j]? with
  | none => rw [hd] at hu; cases hu
  | some d =>
    cases hc : cs[j]? with
    | none => rw [hc] at hv; cases hv
    | some c =>
      rw [hd] at hu; rw [hc] at hv;simp at hu hv;subst hu hv;exact h j c d hc hd
 ·have hn : jP x := fun cs e => hx ⟨cs,e⟩;obtain ⟨hy,hle⟩ := h2 hn;have e1 : ku N' i y = jF N' (.s i) y := by cases y <;> first | rfl | exact absurd rfl (hy _)
  have e2 : ku N i x = jF N (.s i) x := by cases x <;> first | rfl | exact absurd rfl (hn _)
  rw [e1,e2]; exact hle
theorem GU {s : St} {i : Nat} {cs : List AV} (h : get s.env i = .agg cs) (j : Nat) : at_ s (.sc i j) = cs[j]? := by simp [at_,h]
theorem vF {s : St} {b : Nat} {cs : List AV} (h : aN s.H b = some cs) (j : Nat) : at_ s (.c b j) = cs[j]? := by simp [at_,h]
theorem Ft {s : St} {p : Rt} (h : (aC s p).isSome) : Lf s p := by
 intro i hi cs hc;subst hi;cases ho : aC s (.s i) with
 | none => rw [ho] at h; cases h
 | some y =>
   obtain ⟨k,xs⟩ := y;rw [cu] at ho;simp [at_,hc] at ho
theorem oT.take {H : Heap} {o : Option Nat} {k m : Nat} {xs : List AV} (h : oT H o k xs) : oT H o k (xs.take m) := by
 cases o with
 | none => simp only [oT] at h ⊢; rw [h]; simp
 | some n =>
   simp only [oT] at h ⊢;obtain ⟨cs,h1,h2,h3,h4⟩ := h;refine ⟨cs,h1,?_,fun x hx => h3 x (c8 hx),fun i c hc => ?_⟩
   ·rw [bC]; exact Nat.le_trans (bM k (Nat.min_le_right _ _)) h2
   ·refine h4 i c ?_
    have : ∀ (m : Nat) (l : List AV) (i : Nat) (c : AV),(aH (l.take m))[i]? = some c -> (aH l)[i]? = some c := by
     intro m
     induction m with
     | zero => intro l i c h; simp [aH] at h
     | succ m ih =>
       intro l i c h;cases l with
       | nil => simpa using h
       | cons y r =>
         simp only [List.take_succ_cons,aH] at h ⊢;rw [List.getElem?_append] at h ⊢;split
         ·rename_i bL; rw [if_pos bL] at h; exact h
         ·rename_i bL; rw [if_neg bL] at h; exact ih _ _ _ h
    exact this m xs i c hc
theorem FA {o : Rt -> Option (Nat × List AV)} {nb : Nat} {s : St} (h : ∀ r y,Lf s r -> at_ s r = some y -> cK o nb y) :
  (∀ i,cK o nb (get s.env i)) /\ ∀ b cs,aN s.H b = some cs -> ∀ (j : Nat) (c : AV),cs[j]? = some c -> cK o nb c := by
 refine ⟨fun i => ?_,fun b cs hb j c hc => h (.c b j) c (fun i e => by cases e) (by rw [vF hb]; exact hc)⟩;by_cases hx : ∃ cs,get s.env i = .agg cs
 ·obtain ⟨cs,dP⟩ := hx;rw [dP];simp only [cK];exact gk.2 fun j c hc => h (.sc i j) c (fun i e => by cases e) (by rw [GU dP]; exact hc)
 ·exact h (.s i) _ (fun j e cs hc => by cases e; exact hx ⟨cs,hc⟩) rfl
theorem eR.zr {X : Nat -> Prop} {φ : dy} {w : World} {N : Names} {s : St} {Ha : Heap} {t : Nat -> Value} (h : eR X φ w N s Ha t) {r : Rt} {x : AV} (hx : at_ s r = some x) : cK (aC s) s.H.length x := by
 cases r with
 | s i => simp [at_] at hx; exact hx ▸ h.Cu i
 | sc i j =>
   simp only [at_] at hx;split at hx
   ·rename_i cs dP;have := h.Cu i;rw [dP] at this;simp only [cK] at this;exact gk.1 this j x hx
   ·cases hx
 | c b j =>
   simp only [at_] at hx;split at hx
   ·rename_i cs dP;obtain ⟨as,_,_,h3⟩ := h.box b cs dP;exact (h3 j x hx).1
   ·cases hx
theorem Shape.back {s s' : St} (h : Shape s s') {r : Rt} {y : AV} (hl : Lf s' r) (hy : at_ s' r = some y) : Lf s r /\ ∃ x,at_ s r = some x := by
 cases r with
 | s i =>
   refine ⟨fun j e cs hc => ?_,_,rfl⟩;cases e;obtain ⟨ds,h1,_⟩ := h.agg i cs hc;exact hl i rfl ds h1
 | sc i j =>
   refine ⟨(fun j e => by cases e),?_⟩;simp only [at_] at hy ⊢;split at hy
   ·rename_i ds mX;by_cases hx : ∃ cs,get s.env i = .agg cs
    ·obtain ⟨cs,dP⟩ := hx;obtain ⟨es,h1,h2⟩ := h.agg i cs dP;rw [mX] at h1; cases h1;rw [dP];exact aZ (by have := aA hy; omega)
    ·exact absurd mX (h.PT i (fun cs e => hx ⟨cs,e⟩) ds)
   ·cases hy
 | c b j =>
   refine ⟨(fun j e => by cases e),?_⟩;simp only [at_] at hy ⊢;split at hy
   ·rename_i ds mX;cases hb : aN s.H b with
    | none => rw [h.Cw b hb] at mX; cases mX
    | some cs =>
      obtain ⟨es,h1,h2⟩ := h.box b cs hb;rw [mX] at h1; cases h1;exact aZ (by have := aA hy; omega)
   ·cases hy
theorem eR.change {X : Nat -> Prop} {φ : dy} {w : World} {N N' : Names} {s s' : St} {Ha : Heap} {t : Nat -> Value} (h : eR X φ w N s Ha t) (eO : N'.β = N.β) (hs : Shape s s')
  (hp : ∀ r x y,Lf s r -> at_ s r = some x -> at_ s' r = some y -> cK (aC s') s'.H.length y /\ Le (jF N' r y) (jF N r x))
  (src : Rt -> Rt) (ho : ∀ p k xs,aC s' p = some (k,xs) -> ∃ ys,aC s (src p) = some (k,ys) /\ N'.ν p = N.ν (src p) /\ ∃ m,xs = ys.take m)
  (hi : ∀ p q,(aC s' p).isSome -> (aC s' q).isSome -> src p = src q -> p = q) : eR X φ w N' s' Ha t := by
 have so : ∀ {p},(aC s' p).isSome -> (aC s (src p)).isSome /\ N'.ν p = N.ν (src p) := by
  intro p hp;cases e : aC s' p with
  | none => rw [e] at hp; cases hp
  | some y => obtain ⟨ys,h1,h2,_⟩ := ho p y.1 y.2 e; exact ⟨by rw [h1]; rfl,h2⟩
 have sb : ∀ {b},(aN s'.H b).isSome -> (aN s.H b).isSome := by
  intro b hb;cases e : aN s.H b with
  | none => rw [hs.Cw b e] at hb; cases hb
  | some _ => rfl
 obtain ⟨hk,hkc⟩ := FA (o := aC s') (nb := s'.H.length) (s := s') fun r y hl hy => by
  obtain ⟨Jg,x,hx⟩ := hs.back hl hy;exact (hp r x y Jg hx hy).1
 refine ⟨fun i => ?_,hk,h.heap,fun p k xs e => ?_,fun b cs' e => ?_,fun p q n h1 h2 e1 e2 => ?_,fun b p h1 h2 e => ?_,fun b c h1 h2 e => ?_⟩
 ·refine Y2 (fun cs dP => ?_) (fun hn => ⟨hs.PT i hn,?_⟩) _ _ _ (h.env i)
  ·obtain ⟨ds,h1,h2⟩ := hs.agg i cs dP;refine ⟨ds,h1,h2,fun j c d hc hd => (hp (.sc i j) c d (fun i e => by cases e) ?_ ?_).2⟩
   ·rw [GU dP]; exact hc
   ·rw [GU h1]; exact hd
  ·exact (hp (.s i) _ _ (fun j e => by cases e; exact hn) rfl rfl).2
 ·obtain ⟨ys,h1,h2,m,rfl⟩ := ho p k xs e;rw [h2];exact (h.own _ _ _ h1).take
 ·cases hb : aN s.H b with
  | none => rw [hs.Cw b hb] at e; cases e
  | some cs =>
    obtain ⟨ds,h1,h2⟩ := hs.box b cs hb;rw [e] at h1; cases h1;obtain ⟨as,g1,g2,g3⟩ := h.box b cs hb;refine ⟨as,by rw [eO]; exact g1,by omega,fun j c hc => ⟨hkc b cs' e j c hc,?_⟩⟩;obtain ⟨d,hd⟩ := aZ (l := cs) (i := j) (by have := aA hc; omega);obtain ⟨_,a,g4,g5⟩ := g3 j d hd;exact ⟨a,g4,(hp (.c b j) d c (fun i e => by cases e) (by rw [vF hb]; exact hd) (by rw [vF e]; exact hc)).2.trans g5⟩
 ·obtain ⟨k1,k2⟩ := so h1;obtain ⟨k3,k4⟩ := so h2;exact hi p q h1 h2 (h.inj _ _ n k1 k3 (by rw [<- k2]; exact e1) (by rw [<- k4]; exact e2))
 ·obtain ⟨k1,k2⟩ := so h2;rw [k2,eO] at e;exact h.bx b _ (sb h1) k1 e
 ·rw [eO] at e;exact h.bi b c (sb h1) (sb h2) e

mutual
theorem K3 {N N' : Names} {o o' : Rt -> Option (Nat × List AV)} {nb : Nat} {g : AV -> AV} (eO : N'.β = N.β) (hg : jX g)
  (hl : ∀ k p a l,(cK o nb (.dG k p a l) -> cK o' nb (g (.dG k p a l)) /\ Le (cM N' (g (.dG k p a l))) (cM N (.dG k p a l))) /\ (cK o nb (.fa k p a l) -> cK o' nb (g (.fa k p a l)) /\ Le (cM N' (g (.fa k p a l))) (cM N (.fa k p a l)))) :
  ∀ x,cK o nb x -> cK o' nb (cN g x) /\ Le (cM N' (cN g x)) (cM N x)
 | .dG k p a l,h => by simp only [cN]; exact (hl k p a l).1 h
 | .fa k p a l,h => by simp only [cN]; exact (hl k p a l).2 h
 | .agg cs,h => by
   simp only [cK] at h;obtain ⟨h1,h2,h3⟩ := vi eO hg hl cs h;simp only [cN,cK,cM];exact ⟨h1,Le.agg h2 h3⟩
 | .dB cs,h => by
   simp only [cK] at h;obtain ⟨h1,h2,h3⟩ := vi eO hg hl cs h;simp only [cN,cK,cM];refine ⟨h1,fun R φ v r => ?_⟩;cases r with
   | dB _ _ vs Ge hh2 =>
     refine .dB _ _ _ (h2.trans Ge) fun i c u hc hu => ?_;obtain ⟨y,hy⟩ := aZ (l := kW N cs) (i := i) (by have := aA hc; omega);exact h3 i c y hc hy _ _ _ (hh2 i y u hy hu)
 | .func f a b,h => by
   simp only [cK] at h;obtain ⟨h1,h2,h3⟩ := vi eO hg hl a h.1;obtain ⟨k1,k2,k3⟩ := vi eO hg hl b h.2;simp only [cN,cK,cM];refine ⟨⟨h1,k1⟩,fun R φ v r => ?_⟩;cases r with
   | func _ _ _ va _ vb Ca B9 ha hb =>
     refine .func _ _ _ _ _ _ (h2.trans Ca) (k2.trans B9) (fun i c u hc hu => ?_) (fun i c u hc hu => ?_)
     ·obtain ⟨y,hy⟩ := aZ (l := kW N a) (i := i) (by have := aA hc; omega);exact h3 i c y hc hy _ _ _ (ha i y u hy hu)
     ·obtain ⟨y,hy⟩ := aZ (l := kW N b) (i := i) (by have := aA hc; omega);exact k3 i c y hc hy _ _ _ (hb i y u hy hu)
 | .any,h => ⟨h,Le.refl _⟩
 | .undef,h => ⟨h,Le.refl _⟩
 | .fy,h => ⟨h,Le.refl _⟩
 | .fD,h => ⟨h,Le.refl _⟩
 | .dz,h => ⟨h,Le.refl _⟩
 | .int _ _,h => ⟨h,Le.refl _⟩
 | .bool _,h => ⟨h,Le.refl _⟩
 | .str _,h => ⟨h,Le.refl _⟩
 | .list _ _,h => ⟨h,Le.refl _⟩
 | .dw _,h => ⟨h,Le.refl _⟩
 | .own _ _,h => ⟨h,Le.refl _⟩
 | .sl k b off len,h => by simp only [cN,cM,eO]; exact ⟨h,Le.refl _⟩
 | .ptr b off,h => by simp only [cN,cM,eO]; exact ⟨h,Le.refl _⟩
theorem vi {N N' : Names} {o o' : Rt -> Option (Nat × List AV)} {nb : Nat} {g : AV -> AV} (eO : N'.β = N.β) (hg : jX g)
  (hl : ∀ k p a l,(cK o nb (.dG k p a l) -> cK o' nb (g (.dG k p a l)) /\ Le (cM N' (g (.dG k p a l))) (cM N (.dG k p a l))) /\ (cK o nb (.fa k p a l) -> cK o' nb (g (.fa k p a l)) /\ Le (cM N' (g (.fa k p a l))) (cM N (.fa k p a l)))) :
  ∀ cs,kg o nb cs -> kg o' nb (de g cs) /\ (kW N' (de g cs)).length = (kW N cs).length /\ ∀ (i : Nat) (x y : AV),(kW N' (de g cs))[i]? = some x -> (kW N cs)[i]? = some y -> Le x y
 | [],_ => ⟨trivial,rfl,fun i x y h => by simp [de,kW] at h⟩
 | c :: r,h => by
   simp only [kg] at h;obtain ⟨h1,h2⟩ := K3 eO hg hl c h.1;obtain ⟨k1,k2,k3⟩ := vi eO hg hl r h.2;refine ⟨⟨h1,k1⟩,by simp [de,kW,k2],fun i x y hx hy => ?_⟩;cases i with
   | zero => simp [de,kW] at hx hy; subst hx hy; exact h2
   | succ i => simp [de,kW] at hx hy; exact k3 i x y hx hy
end
theorem k7 {N N' : Names} {o o' : Rt -> Option (Nat × List AV)} {nb : Nat} {g : AV -> AV} (eO : N'.β = N.β) (hg : jX g)
  (hl : ∀ k p a l,(cK o nb (.dG k p a l) -> cK o' nb (g (.dG k p a l)) /\ Le (cM N' (g (.dG k p a l))) (cM N (.dG k p a l))) /\ (cK o nb (.fa k p a l) -> cK o' nb (g (.fa k p a l)) /\ Le (cM N' (g (.fa k p a l))) (cM N (.fa k p a l))))
  {r : Rt} {x : AV} (hr : ∀ k xs,x = .own k xs -> N'.ν r = N.ν r) (hx : cK o nb x) : cK o' nb (cN g x) /\ Le (jF N' r (cN g x)) (jF N r x) := by
 by_cases ho : ∃ k xs,x = .own k xs
 ·obtain ⟨k,xs,rfl⟩ := ho;simp only [cN,jF,rO,hr k xs rfl];exact ⟨trivial,Le.refl _⟩
 ·obtain ⟨h1,h2⟩ := K3 eO hg hl x hx;refine ⟨h1,?_⟩
  have e1 : jF N' r (cN g x) = cM N' (cN g x) := by
   have : ∀ k xs,cN g x ≠ .own k xs := fun k xs e => ho ⟨k,xs,(ve hg x k xs).1 e⟩;generalize cN g x = y at this;cases y <;> first | rfl | exact absurd rfl (this _ _)
  have e2 : jF N r x = cM N x := by cases x <;> first | rfl | exact absurd ⟨_,_,rfl⟩ ho
  rw [e1,e2];exact h2
theorem Lf.map {g : AV -> AV} (hg : jX g) {s : St} {r : Rt} (h : Lf s r) : Lf (cz g s) r := by
 intro i hi;simp only [cz,dt];exact kZ hg (h i hi)
theorem FX (p : Rt) : jX (sw p) := by
 intro k q o l;simp only [sw];constructor <;> (split <;> exact ⟨(fun cs e => by cases e),(fun k xs e => by cases e)⟩)
theorem agC (p q : Rt) (n : Nat) : jX (rt p q n) := by
 intro k r o l;simp only [rt];constructor <;> (repeat' split) <;> exact ⟨(fun cs e => by cases e),(fun k xs e => by cases e)⟩
theorem agE (p : Rt) (k : Nat) (xs : List AV) : jX (fb p k xs) := by
 intro k r o l;simp only [fb];constructor <;> (repeat' split) <;> exact ⟨(fun cs e => by cases e),(fun k xs e => by cases e)⟩
theorem agD (i d : Nat) : jX (VS i d) := by
 intro k r o l;simp only [VS];exact ⟨⟨(fun cs e => by cases e),(fun k xs e => by cases e)⟩,⟨(fun cs e => by cases e),(fun k xs e => by cases e)⟩⟩
theorem T2 (i b off : Nat) : jX (je i b off) := by
 intro k r o l;simp only [je];exact ⟨⟨(fun cs e => by cases e),(fun k xs e => by cases e)⟩,⟨(fun cs e => by cases e),(fun k xs e => by cases e)⟩⟩
theorem wq : jX l6 := by
 intro k r o l;cases r <;> exact ⟨⟨(fun cs e => by cases e),(fun k xs e => by cases e)⟩,⟨(fun cs e => by cases e),(fun k xs e => by cases e)⟩⟩
theorem yn {g : AV -> AV} (hg : jX g) {s : St} {p : Rt} {v x : AV} (hv : jP v) (hx : at_ s p = some x) (hn : jP x) {r : Rt} (hr : Lf s r) :
  at_ (setAt (cz g s) p v) r = if r = p then some v else (at_ s r).map (cN g) := by
 rw [Bj ⟨hv,cN g x,by rw [jA hg,hx]; rfl,kZ hg hn⟩ (hr.map hg),jA hg]
theorem qY {g : AV -> AV} (hg : jX g) {s : St} {p : Rt} {v x : AV} (hv : jP v) (hx : at_ s p = some x) (hn : jP x) : Shape s (setAt (cz g s) p v) :=
 (Shape.map hg s).trans (Shape.set ⟨hv,cN g x,by rw [jA hg,hx]; rfl,kZ hg hn⟩)
theorem KM {s s' : St} {p q : Rt} (h : at_ s' p = at_ s q) : aC s' p = aC s q := by unfold aC; rw [h]
theorem iA {s s' : St} {p : Rt} (h : at_ s' p = at_ s p) : aC s' p = aC s p := by unfold aC; rw [h]
theorem rP {s : St} {q : Rt} (h : ¬ Lf s q) : aC s q = none := by
 cases e : aC s q with
 | none => rfl
 | some y => exact absurd (Ft (by rw [e]; rfl)) h
theorem Shape.nlf {s s' : St} (h : Shape s s') {q : Rt} (hq : ¬ Lf s q) : ¬ Lf s' q := fun hl => hq fun i hi cs hc => by
 obtain ⟨ds,h1,_⟩ := h.agg i cs hc;exact hl i hi ds h1
theorem wh {s s' : St} (jG : Shape s s') {f : Rt -> Option (Nat × List AV)} (hf : ∀ q,Lf s q -> aC s' q = f q) (hn : ∀ q,¬ Lf s q -> f q = none) (q : Rt) : aC s' q = f q := by
 by_cases hq : Lf s q
 ·exact hf q hq
 ·rw [hn q hq,rP (jG.nlf hq)]
theorem eR.drop {X : Nat -> Prop} {φ : dy} {w : World} {N : Names} {s : St} {Ha : Heap} {t : Nat -> Value} (h : eR X φ w N s Ha t) {p : Rt} {k : Nat} {xs : List AV} (hp : aC s p = some (k,xs)) :
  eR X φ w N (setAt (cz (sw p) s) p .any) Ha t /\ (∀ q,aC (setAt (cz (sw p) s) p .any) q = if q = p then none else aC s q) /\ Shape s (setAt (cz (sw p) s) p .any) := by
 have uq := cu.1 hp;have hn : jP (.own k xs) := fun cs e => by cases e
 have hv : jP .any := fun cs e => by cases e
 have jG := qY (FX p) hv uq hn;have key : ∀ {r},Lf s r -> at_ (setAt (cz (sw p) s) p .any) r = if r = p then some .any else (at_ s r).map (cN (sw p)) := fun hr => yn (FX p) hv uq hn hr
 have own : ∀ q,aC (setAt (cz (sw p) s) p .any) q = if q = p then none else aC s q := by
  refine wh jG (fun q hq => ?_) (fun q hq => ?_)
  ·have e := key hq;by_cases nF : q = p
   ·subst nF; rw [if_pos rfl] at e ⊢; unfold aC; rw [e]
   ·rw [if_neg nF] at e ⊢;rw [<- iB (FX p) s q];exact iA (by rw [e,jA (FX p)])
  ·split
   ·rfl
   ·exact rP hq
 refine ⟨h.change rfl jG (fun r x y hl hx hy => ?_) id (fun q k' ys e => ?_) (fun q r _ _ e => e),own,jG⟩
 ·rw [key hl] at hy;by_cases Cz : r = p
  ·rw [if_pos Cz] at hy;cases hy;exact ⟨trivial,Le.any _⟩
  ·rw [if_neg Cz,hx] at hy;simp at hy;subst hy;have := k7 (N := N) (N' := N) (o := aC s) (o' := aC (setAt (cz (sw p) s) p .any)) (nb := s.H.length) rfl (FX p) (fun k q a l => ?_) (r := r) (x := x) (fun _ _ _ => rfl) (h.zr hx)
   ·rw [jG.len]; exact this
   ·simp only [sw];refine ⟨fun ho => ?_,fun ho => ?_⟩
    ·split
     ·exact ⟨trivial,Le.any _⟩
     ·rename_i nF;simp only [cK,own,if_neg nF] at ho ⊢;exact ⟨ho,Le.refl _⟩
    ·split
     ·exact ⟨trivial,Le.any _⟩
     ·rename_i nF;simp only [cK,own,if_neg nF] at ho ⊢;exact ⟨ho,Le.refl _⟩
 ·rw [own] at e;split at e
  ·cases e
  ·exact ⟨ys,e,rfl,ys.length,by simp⟩
theorem eR.give {X : Nat -> Prop} {φ : dy} {w : World} {N : Names} {s : St} {Ha : Heap} {t : Nat -> Value} (h : eR X φ w N s Ha t) {p q : Rt} {k k' len : Nat} {xs : List AV} (hp : aC s p = some (k,xs)) (hq : at_ s q = some (.dG k' p 0 len)) :
  ∃ N',N'.β = N.β /\ eR X φ w N' (setAt (setAt (cz (rt p q len) s) p .any) q (.own k (xs.take len))) Ha t /\ (∀ r,aC (setAt (setAt (cz (rt p q len) s) p .any) q (.own k (xs.take len))) r = if r = q then some (k,xs.take len) else if r = p then none else aC s r) /\
   Shape s (setAt (setAt (cz (rt p q len) s) p .any) q (.own k (xs.take len))) := by
 have dg := h.zr hq;simp only [cK,hp,ah,aJ] at dg;obtain ⟨_,⟨rfl,rfl⟩,hle⟩ := dg;have uq := cu.1 hp;have hn : jP (.own k xs) := fun cs e => by cases e
 have hv : jP .any := fun cs e => by cases e
 have nF : q ≠ p := by rintro rfl; rw [uq] at hq; cases hq
 have qn : aC s q = none := by unfold aC; rw [hq]
 have hg := agC p q len;have key1 : ∀ {r},Lf s r -> at_ (setAt (cz (rt p q len) s) p .any) r = if r = p then some .any else (at_ s r).map (cN (rt p q len)) := fun hr => yn hg hv uq hn hr;have hsh1 : Shape s (setAt (cz (rt p q len) s) p .any) := qY hg hv uq hn;have hlq : Lf s q := fun i hi cs hc => by subst hi; simp [at_,hc] at hq
 have W7 : at_ (setAt (cz (rt p q len) s) p .any) q = some (cN (rt p q len) (.dG k p 0 len)) := by rw [key1 hlq,if_neg nF,hq]; rfl
 have hn1 : jP (cN (rt p q len) (.dG k p 0 len)) := kZ hg fun cs e => by cases e
 have hv1 : jP (.own k (xs.take len)) := fun cs e => by cases e
 have hsh2 : Shape s (setAt (setAt (cz (rt p q len) s) p .any) q (.own k (xs.take len))) := hsh1.trans (Shape.set ⟨hv1,_,W7,hn1⟩);have lf1 : ∀ {r},Lf s r -> Lf (setAt (cz (rt p q len) s) p .any) r := fun hr i hi => hsh1.PT i (hr i hi)
 have key : ∀ {r},Lf s r -> at_ (setAt (setAt (cz (rt p q len) s) p .any) q (.own k (xs.take len))) r = if r = q then some (.own k (xs.take len)) else if r = p then some .any else (at_ s r).map (cN (rt p q len)) := by
  intro r hr;rw [Bj ⟨hv1,_,W7,hn1⟩ (lf1 hr),key1 hr]
 have own : ∀ r,aC (setAt (setAt (cz (rt p q len) s) p .any) q (.own k (xs.take len))) r = if r = q then some (k,xs.take len) else if r = p then none else aC s r := by
  refine wh hsh2 (fun r hr => ?_) (fun r hr => ?_)
  ·have e := key hr;by_cases h1 : r = q
   ·rw [if_pos h1] at e ⊢; exact cu.2 e
   ·rw [if_neg h1] at e ⊢;by_cases h2 : r = p
    ·rw [if_pos h2] at e ⊢; unfold aC; rw [e]
    ·rw [if_neg h2] at e ⊢;rw [<- iB hg s r];exact iA (by rw [e,jA hg])
  ·rw [if_neg (by rintro rfl; exact hr hlq)];split
   ·rfl
   ·exact rP hr
 refine ⟨⟨N.β,fun r => if r = q then N.ν p else N.ν r⟩,rfl,h.change rfl hsh2 (fun r x y hl hx hy => ?_) (fun r => if r = q then p else r) (fun r k' ys e => ?_) (fun r1 r2 e1 e2 e => ?_),own,hsh2⟩
 ·rw [key hl] at hy;by_cases h1 : r = q
  ·rw [if_pos h1] at hy;subst h1;rw [hq] at hx;cases hx;cases hy;refine ⟨trivial,?_⟩;have hlen : (xs.take len).length = len := by rw [bC]; omega
   simp only [jF,cM,rO,if_true,hlen,rk];exact Le.refl _
  ·rw [if_neg h1] at hy;by_cases h2 : r = p
   ·rw [if_pos h2] at hy;cases hy;exact ⟨trivial,Le.any _⟩
   ·rw [if_neg h2,hx] at hy;simp at hy;subst hy;have := k7 (N := N) (N' := ⟨N.β,fun r => if r = q then N.ν p else N.ν r⟩) (o := aC s) (o' := aC (setAt (setAt (cz (rt p q len) s) p .any) q (.own k (xs.take len)))) (nb := s.H.length) rfl hg (fun kk r' a l => ?_) (r := r) (x := x) (fun _ _ _ => by simp [h1]) (h.zr hx)
    ·rw [hsh2.len]; exact this
    ·simp only [rt];refine ⟨fun ho => ?_,fun ho => ?_⟩
     ·split
      ·rename_i Cz;subst Cz;split
       ·rename_i hal;simp only [cK,hp,ah,aJ] at ho;obtain ⟨_,⟨rfl,rfl⟩,_⟩ := ho;refine ⟨?_,?_⟩
        ·simp only [cK,own,if_true];exact ⟨_,rfl,by rw [bC]; omega⟩
        ·simp only [cM,if_true]; exact Le.refl _
       ·exact ⟨trivial,Le.any _⟩
      ·rename_i Cz;simp only [cK] at ho ⊢;obtain ⟨zs,hz,hz2⟩ := ho;have hrq : r' ≠ q := by rintro rfl; rw [qn] at hz; cases hz
       refine ⟨⟨zs,by rw [own,if_neg hrq,if_neg Cz]; exact hz,hz2⟩,?_⟩;simp only [cM,if_neg hrq]; exact Le.refl _
     ·split
      ·rename_i Cz;subst Cz;split
       ·rename_i hal;simp only [cK,hp,ah,aJ] at ho;obtain ⟨_,⟨rfl,rfl⟩,_⟩ := ho;refine ⟨?_,?_⟩
        ·simp only [cK,own,if_true];exact ⟨_,rfl,by rw [bC]; omega⟩
        ·simp only [cM,if_true]; exact Le.refl _
       ·exact ⟨trivial,Le.any _⟩
      ·rename_i Cz;simp only [cK] at ho ⊢;obtain ⟨zs,hz,hz2⟩ := ho;have hrq : r' ≠ q := by rintro rfl; rw [qn] at hz; cases hz
       refine ⟨⟨zs,by rw [own,if_neg hrq,if_neg Cz]; exact hz,hz2⟩,?_⟩;simp only [cM,if_neg hrq]; exact Le.refl _
 ·rw [own] at e;by_cases h1 : r = q
  ·rw [if_pos h1] at e;simp only [ah,aJ] at e;obtain ⟨rfl,rfl⟩ := e;exact ⟨xs,by simp [h1,hp],by simp [h1,nF.symm],len,rfl⟩
  ·rw [if_neg h1] at e;by_cases h2 : r = p
   ·rw [if_pos h2] at e; cases e
   ·rw [if_neg h2] at e;exact ⟨ys,by simp [h1,e],by simp [h1],ys.length,by simp⟩
 ·have np : ∀ r,(aC (setAt (setAt (cz (rt p q len) s) p .any) q (.own k (xs.take len))) r).isSome -> r ≠ p := by
   intro r hr e;subst e;rw [own,if_neg (iP nF),if_pos rfl] at hr;cases hr
  by_cases h1 : r1 = q <;> by_cases h2 : r2 = q
  ·rw [h1,h2]
  ·simp only [h1,h2,if_true,if_false] at e;exact absurd e.symm (np r2 e2)
  ·simp only [h1,h2,if_true,if_false] at e;exact absurd e (np r1 e1)
  ·simpa only [h1,h2,if_false] using e
end Go.Bm

/- What is owned becomes a value by value. -/
namespace Go.Bm
open Go.Am

theorem zP {k : Nat} : ∀ {xs : List AV},(∀ x ∈ xs,x.cells.length = k) -> ∀ {i j : Nat} {x c : AV},xs[i]? = some x -> x.cells[j]? = some c -> (aH xs)[i * k + j]? = some c
 | [],_,i,j,x,c,h,_ => by simp at h
 | y :: r,hk,i,j,x,c,h,hc => by
   have hy := hk y (by simp);cases i with
   | zero =>
     simp at h; subst h;simp only [aH,rk,gE];rw [az (aA hc)];exact hc
   | succ i =>
     simp at h;have := zP (xs := r) (fun z hz => hk z (by simp [hz])) h hc;simp only [aH];rw [aR (by rw [hy,cF]; omega),hy,cF,show i * k + 1 * k + j - k = i * k + j by omega];exact this
mutual
theorem gH : ∀ x : AV,pl x = true -> x.plain = true
 | .agg cs,h => by simp only [pl] at h; simp only [AV.plain]; exact rN cs h
 | .dB cs,h => by simp only [pl] at h; simp only [AV.plain]; exact rN cs h
 | .func _ a b,h => by simp only [pl,ae] at h; simp only [AV.plain,ae]; exact ⟨rN a h.1,rN b h.2⟩
 | .any,_ => rfl
 | .undef,_ => rfl
 | .fy,_ => rfl
 | .fD,_ => rfl
 | .dz,_ => rfl
 | .int _ _,_ => rfl
 | .bool _,_ => rfl
 | .str _,_ => rfl
 | .list _ _,_ => rfl
 | .dw _,_ => rfl
 | .own _ _,h => by simp [pl] at h
 | .dG _ _ _ _,h => by simp [pl] at h
 | .fa _ _ _ _,h => by simp [pl] at h
 | .ptr _ _,h => by simp [pl] at h
 | .sl _ _ _ _,h => by simp [pl] at h
theorem rN : ∀ cs : List AV,gz cs = true -> q6 cs = true
 | [],_ => rfl
 | x :: r,h => by simp only [gz,ae] at h; simp only [q6,ae]; exact ⟨gH x h.1,rN r h.2⟩
end
theorem kh {c : AV} (h : fz c = true) : pl c = true /\ c.leaf = true := by
 unfold fz at h;simp only [ae] at h;exact ⟨h.2,h.1⟩
section
variable {X : Nat -> Prop} {φ : dy} {w : World} {Ha : Heap}
theorem wg (h : cG X φ w Ha) {n k : Nat} {xs : List AV} (ho : oT Ha (some n) k xs) :
  ∃ g sz,φ[n]? = some (some (g,sz)) /\ ¬ X g /\ ∀ (i j : Nat) (x c : AV),xs[i]? = some x -> x.cells[j]? = some c -> ∃ u,w.cell? ⟨g,i * k + j,none⟩ = some u /\ fz c = true /\ bT (Rd X φ w) [] c u := by
 obtain ⟨cs,h1,h2,h3,h4⟩ := ho;obtain ⟨g,sz,arr,e,g1,g2,g3,g4,g5,g6⟩ := h.at h1;refine ⟨g,sz,g1,g5,fun i j x c hx hc => ?_⟩;obtain ⟨f1,a,f2,_,f3⟩ := h4 _ c (zP h3 hx hc);obtain ⟨u,u1,u2⟩ := g6 _ a f2;exact ⟨u,by rw [iF g2]; exact u1,f1,(f3 _ _ _ u2).dJ (gH _ (kh f1).1) []⟩
theorem XM {n g sz : Nat} (h : cG X φ w Ha) (lv : φ[n]? = some (some (g,sz))) {o : Nat} {u : Value} (hX : ¬ X g) (hu : w.cell? ⟨g,o,none⟩ = some u) : Rd X (φ.set n none) w ⟨g,o,none⟩ u := by
 refine ⟨hX,fun ⟨b,nx,hb⟩ => ?_,hu⟩;rw [bm] at hb;split at hb
 ·split at hb <;> simp at hb
 ·rename_i mW;exact mW (h.inj n b g sz nx lv hb)
theorem XL (n : Nat) : ∀ a u,Rd X φ w a u -> Rd X (φ.set n none) w a u := fun _ _ ⟨h1,h2,h3⟩ => ⟨h1,fun h => h2 (IG h),h3⟩
theorem yl (h : cG X φ w Ha) {n k : Nat} {xs : List AV} (ho : oT Ha (some n) k xs) {off len : Nat} (hle : off + len <= xs.length) {v : Value} (r : bT (Rd X φ w) φ (.sl k n (off * k) len) v) (ψ : dy) :
  bT (Rd X (φ.set n none) w) ψ (.list k ((xs.drop off).take len)) v := by
 obtain ⟨g,sz,lv,hX,hc⟩ := wg h ho;cases r with
 | sl _ _ _ _ _ a cap hb jH hh =>
   obtain ⟨h1,h2⟩ := hh g sz lv;by_cases h0 : len = 0
   ·subst h0;simp only [List.take_zero];exact .mI _ _ _ _ _ _ (fun _ _ => undef) rfl jH (fun x hx => by simp at hx) (fun i j x c hx => by simp at hx) (fun i j x c hx => by simp at hx)
   ·have ha := h1 (by omega);subst ha
    have hx : ∀ (i : Nat) (x : AV),((xs.drop off).take len)[i]? = some x -> xs[off + i]? = some x /\ i < len := by
     intro i x hx;rw [bF] at hx;split at hx
     ·rw [aU] at hx; exact ⟨hx,‹_›⟩
     ·cases hx
    obtain ⟨cs,q1,q2,hk,q4⟩ := ho;refine .mI _ _ _ _ _ _ (fun i j => (w.cell? ⟨g,(off + i) * k + j,none⟩).getD undef) (by simp; omega) jH (fun x hm => ?_) (fun i j x c hi hj => ?_) (fun i j x c hi hj => ?_)
    ·exact hk x (c9 (c8 hm))
    ·obtain ⟨u,u1,_,_⟩ := hc _ j x c (hx i x hi).1 hj;rw [u1,Addr.jd,show off * k + (i * k + j) = (off + i) * k + j by rw [cF]; omega];exact XM h lv hX u1
    ·obtain ⟨u,u1,_,u3⟩ := hc _ j x c (hx i x hi).1 hj;rw [u1];exact u3.mono (XL n) (.refl _)
theorem WG (h : cG X φ w Ha) {n k : Nat} {xs : List AV} (ho : oT Ha (some n) k xs) {i o : Nat} {x : AV} (hx : xs[i]? = some x) {v : Value} (r : bT (Rd X φ w) φ (.ptr n (i * k + o)) v) (ψ : dy) :
  bT (Rd X (φ.set n none) w) ψ (.dw (x.cells.drop o)) v := by
 obtain ⟨g,sz,lv,hX,hc⟩ := wg h ho;cases r with
 | ptr _ _ _ a hb hh =>
   have ha := hh g sz lv;subst ha;refine .dw _ _ _ (fun j => (w.cell? ⟨g,i * k + (o + j),none⟩).getD undef) (fun j c hj => ?_) (fun j c hj => ?_)
   ·rw [aU] at hj;obtain ⟨u,u1,_,_⟩ := hc i (o + j) x c hx hj;rw [u1,Addr.jd,show i * k + o + j = i * k + (o + j) by omega];exact XM h lv hX u1
   ·rw [aU] at hj;obtain ⟨u,u1,_,u3⟩ := hc i (o + j) x c hx hj;rw [u1];exact u3.mono (XL n) (.refl _)
end
theorem aaU {R R' : Addr -> Value -> Prop} {φ φ' : dy} {N N' : Names} {i : Nat} {x y : AV} (h1 : ∀ cs,x = .agg cs -> ∃ ds,y = .agg ds /\ ds.length = cs.length /\ ∀ (j : Nat) (c d : AV),cs[j]? = some c -> ds[j]? = some d -> ∀ u,bT R φ (jF N (.sc i j) c) u -> bT R' φ' (jF N' (.sc i j) d) u)
  (h2 : jP x -> jP y /\ ∀ v,bT R φ (jF N (.s i) x) v -> bT R' φ' (jF N' (.s i) y) v) {v : Value} (hv : bT R φ (ku N i x) v) : bT R' φ' (ku N' i y) v := by
 by_cases hx : ∃ cs,x = .agg cs
 ·obtain ⟨cs,rfl⟩ := hx;obtain ⟨ds,rfl,hl,h⟩ := h1 cs rfl;simp only [ku] at hv ⊢;cases hv with
  | agg _ _ vs Ge hh =>
    rw [iI] at Ge;refine .agg _ _ _ (by rw [iI]; omega) fun j c u hc hu => ?_;rw [fZ] at hc;simp only [gE] at hc;cases hd : ds[j]? with
    | none => rw [hd] at hc; cases hc
    | some d =>
      rw [hd] at hc;simp at hc;subst hc;obtain ⟨c,hc⟩ := aZ (l := cs) (i := j) (by have := aA hd; omega);exact h j c d hc hd u (hh j _ u (by rw [fZ,hc]; simp) hu)
 ·have hn : jP x := fun cs e => hx ⟨cs,e⟩;obtain ⟨hy,hle⟩ := h2 hn;have e1 : ku N' i y = jF N' (.s i) y := by cases y <;> first | rfl | exact absurd rfl (hy _)
  have e2 : ku N i x = jF N (.s i) x := by cases x <;> first | rfl | exact absurd rfl (hn _)
  rw [e2] at hv;rw [e1];exact hle v hv
mutual
theorem Ms {R R' : Addr -> Value -> Prop} {φ φ' : dy} {N N' : Names} {o o' : Rt -> Option (Nat × List AV)} {nb : Nat} {g : AV -> AV} (hR : ∀ a u,R a u -> R' a u) (lv : vK φ φ') (eO : N'.β = N.β)
  (hl : ∀ k p a l,(cK o nb (.dG k p a l) -> cK o' nb (g (.dG k p a l)) /\ ∀ v,bT R φ (cM N (.dG k p a l)) v -> bT R' φ' (cM N' (g (.dG k p a l))) v) /\ (cK o nb (.fa k p a l) -> cK o' nb (g (.fa k p a l)) /\ ∀ v,bT R φ (cM N (.fa k p a l)) v -> bT R' φ' (cM N' (g (.fa k p a l))) v)) :
  ∀ x,cK o nb x -> cK o' nb (cN g x) /\ ∀ v,bT R φ (cM N x) v -> bT R' φ' (cM N' (cN g x)) v
 | .dG k p a l,h => by simp only [cN]; exact (hl k p a l).1 h
 | .fa k p a l,h => by simp only [cN]; exact (hl k p a l).2 h
 | .agg cs,h => by
   simp only [cK] at h;obtain ⟨h1,h3⟩ := rG hR lv eO hl cs h;simp only [cN,cK,cM];refine ⟨h1,fun v r => ?_⟩;cases r with
   | agg _ _ vs Ge hh2 =>
     refine .agg _ _ _ (by simp only [dI,cI] at Ge ⊢; exact Ge) fun i c u hc hu => ?_;exact h3 i c u hc (fun y hy => hh2 i y u hy hu)
 | .dB cs,h => by
   simp only [cK] at h;obtain ⟨h1,h3⟩ := rG hR lv eO hl cs h;simp only [cN,cK,cM];refine ⟨h1,fun v r => ?_⟩;cases r with
   | dB _ _ vs Ge hh2 =>
     refine .dB _ _ _ (by simp only [dI,cI] at Ge ⊢; exact Ge) fun i c u hc hu => ?_;exact h3 i c u hc (fun y hy => hh2 i y u hy hu)
 | .func f a b,h => by
   simp only [cK] at h;obtain ⟨h1,h3⟩ := rG hR lv eO hl a h.1;obtain ⟨k1,k3⟩ := rG hR lv eO hl b h.2;simp only [cN,cK,cM];refine ⟨⟨h1,k1⟩,fun v r => ?_⟩;cases r with
   | func _ _ _ va _ vb Ca B9 ha hb =>
     refine .func _ _ _ _ _ _ (by simp only [dI,cI] at Ca ⊢; exact Ca) (by simp only [dI,cI] at B9 ⊢; exact B9) (fun i c u hc hu => ?_) (fun i c u hc hu => ?_)
     ·exact h3 i c u hc (fun y hy => ha i y u hy hu)
     ·exact k3 i c u hc (fun y hy => hb i y u hy hu)
 | .any,h => ⟨h,fun v r => r.mono hR lv⟩
 | .undef,h => ⟨h,fun v r => r.mono hR lv⟩
 | .fy,h => ⟨h,fun v r => r.mono hR lv⟩
 | .fD,h => ⟨h,fun v r => r.mono hR lv⟩
 | .dz,h => ⟨h,fun v r => r.mono hR lv⟩
 | .int _ _,h => ⟨h,fun v r => r.mono hR lv⟩
 | .bool _,h => ⟨h,fun v r => r.mono hR lv⟩
 | .str _,h => ⟨h,fun v r => r.mono hR lv⟩
 | .list _ _,h => ⟨h,fun v r => r.mono hR lv⟩
 | .dw _,h => ⟨h,fun v r => r.mono hR lv⟩
 | .own _ _,h => ⟨h,fun v r => r.mono hR lv⟩
 | .sl _ b _ _,h => by simp only [cN,cM,eO]; exact ⟨h,fun v r => r.mono hR lv⟩
 | .ptr b off,h => by simp only [cN,cM,eO]; exact ⟨h,fun v r => r.mono hR lv⟩
theorem rG {R R' : Addr -> Value -> Prop} {φ φ' : dy} {N N' : Names} {o o' : Rt -> Option (Nat × List AV)} {nb : Nat} {g : AV -> AV} (hR : ∀ a u,R a u -> R' a u) (lv : vK φ φ') (eO : N'.β = N.β)
  (hl : ∀ k p a l,(cK o nb (.dG k p a l) -> cK o' nb (g (.dG k p a l)) /\ ∀ v,bT R φ (cM N (.dG k p a l)) v -> bT R' φ' (cM N' (g (.dG k p a l))) v) /\ (cK o nb (.fa k p a l) -> cK o' nb (g (.fa k p a l)) /\ ∀ v,bT R φ (cM N (.fa k p a l)) v -> bT R' φ' (cM N' (g (.fa k p a l))) v)) :
  ∀ cs,kg o nb cs -> kg o' nb (de g cs) /\ ∀ (i : Nat) (x : AV) (u : Value),(kW N' (de g cs))[i]? = some x -> (∀ y,(kW N cs)[i]? = some y -> bT R φ y u) -> bT R' φ' x u
 | [],_ => ⟨trivial,fun i x u h => by simp [de,kW] at h⟩
 | c :: r,h => by
   simp only [kg] at h;obtain ⟨h1,h2⟩ := Ms hR lv eO hl c h.1;obtain ⟨k1,k3⟩ := rG hR lv eO hl r h.2;refine ⟨⟨h1,k1⟩,fun i x u hx hy => ?_⟩;cases i with
   | zero => simp [de,kW] at hx hy; subst hx; exact h2 u hy
   | succ i => simp [de,kW] at hx hy; exact k3 i x u hx hy
end
theorem vv (L : Nat) (G : Nat -> Q2) : ∃ H : Heap,H.length = L /\ ∀ m,m < L -> H[m]? = some (G m) :=
 ⟨(List.range L).map G,by simp,fun m hm => by simp [hm]⟩
theorem JV {N N' : Names} {g : AV -> AV} (hg : jX g) {r : Rt} {x : AV} (ho : NOwn x) : jF N r x = cM N x /\ jF N' r (cN g x) = cM N' (cN g x) := by
 constructor
 ·cases x <;> first | rfl | exact absurd rfl (ho _ _)
 ·have : ∀ k xs,cN g x ≠ .own k xs := fun k xs e => ho k xs ((ve hg x k xs).1 e);generalize cN g x = y at this;cases y <;> first | rfl | exact absurd rfl (this _ _)
theorem eR.Bc {X : Nat -> Prop} {φ : dy} {w : World} {N : Names} {s : St} {Ha : Heap} {t : Nat -> Value} (h : eR X φ w N s Ha t) (p : Rt) :
  ∃ φ' Ha',eR X φ' w N (Gr s p) Ha' t /\ fJ φ w φ' w /\ (∀ q,aC (Gr s p) q = if q = p then none else aC s q) /\ Shape s (Gr s p) := by
 unfold Gr;cases hp : aC s p with
 | none =>
   refine ⟨φ,Ha,h,.refl _ _,fun q => ?_,.refl _⟩;by_cases e : q = p
   ·rw [if_pos e,e]; exact hp
   ·rw [if_neg e]
 | some y =>
   obtain ⟨k,xs⟩ := y;simp only;have uq := cu.1 hp;have hn : jP (.own k xs) := fun cs e => by cases e
   have hv : jP (.list k xs) := fun cs e => by cases e
   have hg := agE p k xs;have jG := qY hg hv uq hn;generalize NP : setAt (cz (fb p k xs) s) p (.list k xs) = s' at jG ⊢;have key : ∀ {r},Lf s r -> at_ s' r = if r = p then some (.list k xs) else (at_ s r).map (cN (fb p k xs)) := fun hr => by rw [<- NP]; exact yn hg hv uq hn hr
   have own : ∀ q,aC s' q = if q = p then none else aC s q := by
    refine wh jG (fun q hq => ?_) (fun q hq => ?_)
    ·have e := key hq;by_cases nF : q = p
     ·subst nF; rw [if_pos rfl] at e ⊢; unfold aC; rw [e]
     ·rw [if_neg nF] at e ⊢;rw [<- iB hg s q];exact iA (by rw [e,jA hg])
    ·split
     ·rfl
     ·exact rP hq
   have eQ := h.own p k xs hp;cases kR : N.ν p with
   | none =>
     rw [kR] at eQ;have eQ : xs = [] := eQ;subst eQ;refine ⟨φ,Ha,h.change rfl jG (fun r x y hl hx hy => ?_) id (fun q k' ys e => ?_) (fun q r _ _ e => e),.refl _ _,own,jG⟩
     ·rw [key hl] at hy;by_cases Cz : r = p
      ·rw [if_pos Cz] at hy;subst Cz;rw [uq] at hx;cases hx; cases hy;refine ⟨trivial,?_⟩;simp only [jF,cM,rO,kR];exact Le.fi k
      ·rw [if_neg Cz,hx] at hy;simp at hy;subst hy;have := k7 (N := N) (N' := N) (o := aC s) (o' := aC s') (nb := s.H.length) rfl hg (fun k' q a l => ?_) (r := r) (x := x) (fun _ _ _ => rfl) (h.zr hx)
       ·rw [jG.len]; exact this
       ·simp only [fb];refine ⟨fun ho => ?_,fun ho => ?_⟩
        ·by_cases nF : q = p
         ·rw [if_pos nF];subst nF;simp only [cK,hp,ah,aJ] at ho;obtain ⟨_,⟨rfl,rfl⟩,hle⟩ := ho;rw [if_pos ⟨rfl,hle⟩];refine ⟨trivial,?_⟩;simp only [cM,kR,List.drop_nil,List.take_nil];exact Le.fi k
         ·rw [if_neg nF];simp only [cK,own,if_neg nF] at ho ⊢;exact ⟨ho,Le.refl _⟩
        ·by_cases nF : q = p
         ·subst nF;simp only [cK,hp,ah,aJ] at ho;obtain ⟨_,⟨rfl,rfl⟩,hle⟩ := ho;simp at hle
         ·rw [if_neg nF];simp only [cK,own,if_neg nF] at ho ⊢;exact ⟨ho,Le.refl _⟩
     ·rw [own] at e;split at e
      ·cases e
      ·exact ⟨ys,e,rfl,ys.length,by simp⟩
   | some n =>
     rw [kR] at eQ;obtain ⟨_,sZ⟩ := h.heap.NB n;have hr2 : ∀ a u,Rd X φ w a u -> Rd X (φ.set n none) w a u := sZ.rd
     have conv : ∀ r x y,Lf s r -> at_ s r = some x -> at_ s' r = some y -> cK (aC s') s'.H.length y /\ ∀ v,bT (Rd X φ w) φ (jF N r x) v -> bT (Rd X (φ.set n none) w) (φ.set n none) (jF N r y) v := by
      intro r x y hl hx hy;rw [key hl] at hy;by_cases Cz : r = p
      ·rw [if_pos Cz] at hy;subst Cz;rw [uq] at hx;cases hx; cases hy;refine ⟨trivial,fun v hv => ?_⟩;simp only [jF,cM,rO,kR] at hv ⊢;have := yl h.heap eQ (off := 0) (len := xs.length) (by omega) (by simpa using hv) (φ.set n none);simpa using this
      ·rw [if_neg Cz,hx] at hy;simp at hy;subst hy
       have Xa := Ms (R := Rd X φ w) (R' := Rd X (φ.set n none) w) (φ := φ) (φ' := φ.set n none) (N := N) (N' := N) (o := aC s) (o' := aC s') (nb := s.H.length) (g := fb p k xs) hr2 sZ.Tm rfl (fun k' q a l => by
        simp only [fb];refine ⟨fun ho => ?_,fun ho => ?_⟩
        ·by_cases nF : q = p
         ·rw [if_pos nF];subst nF;simp only [cK,hp,ah,aJ] at ho;obtain ⟨_,⟨rfl,rfl⟩,hle⟩ := ho;rw [if_pos ⟨rfl,hle⟩];refine ⟨trivial,fun v hv => ?_⟩;simp only [cM,kR] at hv ⊢;exact yl h.heap eQ hle hv _
         ·rw [if_neg nF];simp only [cK,own,if_neg nF] at ho ⊢;exact ⟨ho,fun v hv => hv.mono hr2 sZ.Tm⟩
        ·by_cases nF : q = p
         ·rw [if_pos nF];subst nF;simp only [cK,hp,ah,aJ] at ho;obtain ⟨_,⟨rfl,rfl⟩,hle⟩ := ho;rw [if_pos rfl];obtain ⟨x,hx⟩ := aZ hle;rw [hx];refine ⟨trivial,fun v hv => ?_⟩;simp only [cM,kR] at hv ⊢;exact WG h.heap eQ hx hv _
         ·rw [if_neg nF];simp only [cK,own,if_neg nF] at ho ⊢;exact ⟨ho,fun v hv => hv.mono hr2 sZ.Tm⟩) x (h.zr hx)
       refine ⟨by rw [jG.len]; exact Xa.1,fun v hv => ?_⟩;by_cases hxo : ∃ k' ys,x = .own k' ys
       ·obtain ⟨k',ys,rfl⟩ := hxo;simp only [cN,jF,rO] at hv ⊢;exact hv.mono hr2 sZ.Tm
       ·obtain ⟨e1,e2⟩ := JV (N := N) (N' := N) hg (r := r) (x := x) (fun k ys e => hxo ⟨k,ys,e⟩);rw [e1] at hv;rw [e2];exact Xa.2 v hv
     obtain ⟨hk,hkc⟩ := FA (o := aC s') (nb := s'.H.length) (s := s') fun r y hl hy => by
      obtain ⟨Jg,x,hx⟩ := jG.back hl hy;exact (conv r x y Jg hx hy).1
     have sb : ∀ {b},(aN s'.H b).isSome -> (aN s.H b).isSome := by
      intro b hb;cases e : aN s.H b with
      | none => rw [jG.Cw b e] at hb; cases hb
      | some _ => rfl
     have so : ∀ {q},(aC s' q).isSome -> (aC s q).isSome /\ q ≠ p := by
      intro q hq;rw [own] at hq;by_cases e : q = p
      ·rw [if_pos e] at hq; cases hq
      ·rw [if_neg e] at hq; exact ⟨hq,e⟩
     classical
     obtain ⟨Ha',hL,hG⟩ := vv Ha.length (fun m => if m = n then none else if hb : ∃ z : Nat × List AV,aN s'.H z.1 = some z.2 /\ N.β z.1 = m then some (Pj N (.c hb.choose.1) 0 hb.choose.2) else (Ha[m]?).getD none)
     have hbox : ∀ b cs,aN s'.H b = some cs -> aN Ha' (N.β b) = some (Pj N (.c b) 0 cs) := by
      intro b cs hb;obtain ⟨Xb,CE⟩ := aQ.1 (sb (by rw [hb]; rfl : (aN s'.H b).isSome));obtain ⟨as,g1,_⟩ := h.box b Xb CE;rw [pe,hG _ (dL g1)];have mW : N.β b ≠ n := fun e => h.bx b p (by rw [CE]; rfl) (by rw [hp]; rfl) (by rw [kR,e]);have hex : ∃ z : Nat × List AV,aN s'.H z.1 = some z.2 /\ N.β z.1 = N.β b := ⟨(b,cs),hb,rfl⟩;rw [if_neg mW,dif_pos hex];have e1 : hex.choose.1 = b := h.bi _ _ (sb (by rw [hex.choose_spec.1]; rfl)) (by rw [CE]; rfl) hex.choose_spec.2
      have e2 : hex.choose.2 = cs := by
       have := hex.choose_spec.1;rw [e1,hb] at this;exact (dn this).symm
      rw [e2,e1]
     have A6 : ∀ m,m ≠ n -> (¬ ∃ z : Nat × List AV,aN s'.H z.1 = some z.2 /\ N.β z.1 = m) -> Ha'[m]? = Ha[m]? := by
      intro m hm Je;by_cases bL : m < Ha.length
      ·rw [hG m bL,if_neg hm,dif_neg Je];obtain ⟨x,hx⟩ := aZ bL;rw [hx]; rfl
      ·rw [eH (by omega),eH (by omega)]
     refine ⟨φ.set n none,Ha',⟨fun i => ?_,hk,⟨?_,h.heap.Dh,fun m cs hm => ?_,fun m hm => ?_,fun m m' g sz nx e1 e2 => ?_⟩,fun q k' ys e => ?_,fun b cs e => ?_,fun q r m e1 e2 e3 e4 => ?_,fun b q e1 e2 e3 => ?_,fun b c e1 e2 e3 => ?_⟩,sZ,own,jG⟩
     ·refine aaU (fun cs dP => ?_) (fun hnn => ⟨jG.PT i hnn,?_⟩) (h.env i)
      ·obtain ⟨ds,h1,h2⟩ := jG.agg i cs dP;refine ⟨ds,h1,h2,fun j c d hc hd => (conv (.sc i j) c d (fun i e => by cases e) ?_ ?_).2⟩
       ·rw [GU dP]; exact hc
       ·rw [GU h1]; exact hd
      ·exact (conv (.s i) _ _ (fun j e => by cases e; exact hnn) rfl rfl).2
     ·rw [List.length_set,h.heap.len,hL]
     ·have bL := aA hm;rw [hL] at bL;by_cases C5 : m = n
      ·rw [hG m bL,if_pos C5] at hm; cases hm
      ·by_cases Je : ∃ z : Nat × List AV,aN s'.H z.1 = some z.2 /\ N.β z.1 = m
       ·obtain ⟨⟨b,ds⟩,hb,rfl⟩ := Je;simp only at hb hm C5;have := hbox b ds hb;rw [pe,hm] at this;cases this;obtain ⟨Xb,CE⟩ := aQ.1 (sb (by rw [hb]; rfl : (aN s'.H b).isSome));obtain ⟨as,g1,g2,g3⟩ := h.box b Xb CE;obtain ⟨g,sz,arr,e,f1,f2,f3,f4,f5,f6⟩ := h.heap.at g1;obtain ⟨ds',q1,q2⟩ := jG.box b Xb CE;rw [hb] at q1; cases q1;refine ⟨g,sz,arr,e,?_,f2,f3,by rw [iI]; omega,f5,fun i c hc => ?_⟩
        ·rw [dq (iP C5)]; exact f1
        ·rw [fZ] at hc;simp only [gE] at hc;cases hd : ds[i]? with
         | none => rw [hd] at hc; cases hc
         | some d =>
           rw [hd] at hc;simp at hc;subst hc;obtain ⟨c0,Gh⟩ := aZ (l := Xb) (i := i) (by have := aA hd; omega);obtain ⟨_,a,a1,a2⟩ := g3 i c0 Gh;obtain ⟨u,u1,u2⟩ := f6 i a a1;exact ⟨u,u1,(conv (.c b i) c0 d (fun i e => by cases e) (by rw [vF CE]; exact Gh) (by rw [vF hb]; exact hd)).2 u (a2 _ _ _ u2)⟩
       ·rw [A6 m C5 Je] at hm;obtain ⟨g,sz,arr,e,f1,f2,f3,f4,f5,f6⟩ := h.heap.live m cs hm;refine ⟨g,sz,arr,e,?_,f2,f3,f4,f5,fun i c hc => ?_⟩
        ·rw [dq (iP C5)]; exact f1
        ·obtain ⟨u,u1,u2⟩ := f6 i c hc;exact ⟨u,u1,u2.mono hr2 sZ.Tm⟩
     ·by_cases C5 : m = n
      ·subst C5;have bL := aA hm;rw [List.getElem?_set_self (by rw [h.heap.len]; omega)]
      ·rw [dq (iP C5)];by_cases Je : ∃ z : Nat × List AV,aN s'.H z.1 = some z.2 /\ N.β z.1 = m
       ·obtain ⟨⟨b,ds⟩,hb,rfl⟩ := Je;simp only at hb hm C5;have := hbox b ds hb;rw [pe,hm] at this;cases this
       ·rw [A6 m C5 Je] at hm;exact h.heap.dead m hm
     ·have sub : ∀ m g sz : Nat,(φ.set n none)[m]? = some (some (g,sz)) -> φ[m]? = some (some (g,sz)) := by
       intro m g sz e;rw [bm] at e;split at e
       ·split at e <;> simp at e
       ·exact e
      exact h.heap.inj m m' g sz nx (sub _ _ _ e1) (sub _ _ _ e2)
     ·have hq := own q;rw [e] at hq;by_cases nF : q = p
      ·rw [if_pos nF] at hq; cases hq
      ·rw [if_neg nF] at hq;have ho := h.own q k' ys hq.symm;cases hνq : N.ν q with
       | none => rw [hνq] at ho; exact ho
       | some m =>
         rw [hνq] at ho;obtain ⟨cs,c1,c2⟩ := ho
         have C5 : m ≠ n := by
          intro e; subst e;exact nF (h.inj q p m (by rw [<- hq]; rfl) (by rw [hp]; rfl) hνq kR)
         refine ⟨cs,?_,c2⟩;rw [pe,A6 m C5 ?_]
         ·exact sC c1
         ·rintro ⟨⟨b,ds⟩,hb,rfl⟩;exact h.bx b q (sb (by rw [hb]; rfl)) (by rw [<- hq]; rfl) hνq
     ·refine ⟨_,hbox b cs e,iI _ _ _ _,fun j c hc => ⟨hkc b cs e j c hc,_,by rw [fZ,hc]; simp,Le.refl _⟩⟩
     ·exact h.inj q r m (so e1).1 (so e2).1 e3 e4
     ·exact h.bx b q (sb e1) (so e2).1 e3
     ·exact h.bi b c (sb e1) (sb e2) e3
end Go.Bm

/- Owners that go, values that go to their slots, the end of a region. -/
namespace Go.Bm
open Go.Am

def SB (X : Nat -> Prop) (φ : dy) (w : World) (B : Nat -> Nat) (base : Nat) (s : St) (t : Nat -> Value) : Prop := ∃ N Ha,eR X φ w N s Ha t /\ (∀ b,b < base -> N.β b = B b) /\ base <= s.H.length
section
variable {X : Nat -> Prop} {φ : dy} {w : World} {N : Names} {s s' : St} {Ha : Heap} {t : Nat -> Value} {B : Nat -> Nat} {base : Nat}

theorem SB.Bc (h : SB X φ w B base s t) (p : Rt) : ∃ φ',SB X φ' w B base (Gr s p) t /\ fJ φ w φ' w := by
 obtain ⟨N,Ha,h,hb,hl⟩ := h;obtain ⟨φ',Ha',h1,h2,_,h3⟩ := h.Bc p;exact ⟨φ',⟨N,Ha',h1,hb,by rw [h3.len]; exact hl⟩,h2⟩
theorem SB.dR : ∀ (ps : List Rt) {φ : dy} {s : St},SB X φ w B base s t -> ∃ φ',SB X φ' w B base (dR ps s) t /\ fJ φ w φ' w
 | [],φ,s,h => ⟨φ,h,.refl _ _⟩
 | p :: r,φ,s,h => by
   obtain ⟨nk,h1,a1⟩ := h.Bc p;obtain ⟨kO,h2,a2⟩ := SB.dR r h1;exact ⟨kO,h2,a1.trans a2⟩
theorem SB.rel (h : SB X φ w B base s t) (p : Rt) : ∃ φ',SB X φ' w B base (rel s p) t /\ fJ φ w φ' w := by
 unfold Go.Bm.rel;split
 ·exact ⟨φ,h,.refl _ _⟩
 ·rename_i k xs hp;split
  ·obtain ⟨N,Ha,h,hb,hl⟩ := h;exact ⟨φ,⟨N,Ha,(h.drop hp).1,hb,by rw [(h.drop hp).2.2.len]; exact hl⟩,.refl _ _⟩
  ·rename_i q hq;split
   ·rename_i k' r len uq;split
    ·rename_i hr;subst hr;obtain ⟨N,Ha,h,hb,hl⟩ := h;obtain ⟨N',e,h',_,h3⟩ := h.give hp uq;exact ⟨φ,⟨N',Ha,h',fun b bL => by rw [e]; exact hb b bL,by rw [h3.len]; exact hl⟩,.refl _ _⟩
    ·exact h.Bc p
   ·exact h.Bc p
theorem SB.Ho (i : Nat) : ∀ (cs : List AV) (j : Nat) {φ : dy} {s : St},SB X φ w B base s t -> ∃ φ',SB X φ' w B base (Ho i j cs s) t /\ fJ φ w φ' w
 | [],j,φ,s,h => ⟨φ,h,.refl _ _⟩
 | x :: r,j,φ,s,h => by
   have skip : ∃ φ',SB X φ' w B base (Go.Bm.Ho i (j + 1) r s) t /\ fJ φ w φ' w := SB.Ho i r (j + 1) h
   cases x <;> first
    | exact skip
    | (obtain ⟨nk, h1, a1⟩ := h.rel (.sc i j)
       obtain ⟨kO,h2,a2⟩ := SB.Ho i r (j + 1) h1;exact ⟨kO,h2,a1.trans a2⟩)
theorem SB.zU (h : SB X φ w B base s t) (i : Nat) : ∃ φ',SB X φ' w B base (zU s i) t /\ fJ φ w φ' w := by
 unfold Go.Bm.zU;split
 ·exact h.rel _
 ·exact SB.Ho i _ 0 h
 ·exact ⟨φ,h,.refl _ _⟩
theorem SB.mY (keep : List Nat) : ∀ (e : Env) {φ : dy} {s : St},SB X φ w B base s t -> ∃ φ',SB X φ' w B base (mY keep e s) t /\ fJ φ w φ' w
 | [],φ,s,h => ⟨φ,h,.refl _ _⟩
 | (i,v) :: r,φ,s,h => by
   simp only [Go.Bm.mY];split
   ·exact SB.mY keep r h
   ·obtain ⟨nk,h1,a1⟩ := h.zU i;obtain ⟨kO,h2,a2⟩ := SB.mY keep r h1;exact ⟨kO,h2,a1.trans a2⟩
theorem SB.xx (b : Nat) : ∀ (n j : Nat) {φ : dy} {s : St},SB X φ w B base s t -> ∃ φ',SB X φ' w B base (xx b j n s) t /\ fJ φ w φ' w
 | 0,j,φ,s,h => ⟨φ,h,.refl _ _⟩
 | n + 1,j,φ,s,h => by
   simp only [Go.Bm.xx];split
   ·obtain ⟨nk,h1,a1⟩ := h.rel (.c b j);obtain ⟨kO,h2,a2⟩ := SB.xx b n (j + 1) h1;exact ⟨kO,h2,a1.trans a2⟩
   ·exact SB.xx b n (j + 1) h

theorem ahg (he : ∀ i,get s'.env i = get s.env i) (hH : s'.H = s.H) : at_ s' = at_ s := by
 funext p;cases p <;> simp only [at_,he,hH]
theorem IH (he : ∀ i,get s'.env i = get s.env i) (hH : s'.H = s.H) : aC s' = aC s := by
 funext p;unfold aC;rw [ahg he hH]
theorem eR.ext (h : eR X φ w N s Ha t) (he : ∀ i,get s'.env i = get s.env i) (hH : s'.H = s.H) : eR X φ w N s' Ha t := by
 have ho := IH he hH;exact ⟨fun i => by rw [he]; exact h.env i,fun i => by rw [he,ho,hH]; exact h.Cu i,h.heap,by rw [ho]; exact h.own,by rw [ho,hH]; exact h.box,by rw [ho]; exact h.inj,by rw [ho,hH]; exact h.bx,by rw [hH]; exact h.bi⟩
theorem dV {i : Nat} (h : bJ (get s.env i) = false) : aC s (.s i) = none /\ ∀ j,aC s (.sc i j) = none := by
 have hl : ∀ (cs : List AV),bK cs = false -> ∀ (j : Nat) (k : Nat) (xs : List AV),cs[j]? ≠ some (.own k xs) := by
  intro cs
  induction cs with
  | nil => intro _ j k xs e; simp at e
  | cons x r ih =>
    intro h j k xs e;cases j with
    | zero => simp at e; subst e; simp [bK] at h
    | succ j =>
      simp at e;refine ih ?_ j k xs e;cases x <;> simp [bK] at h <;> exact h
 refine ⟨?_,fun j => ?_⟩
 ·cases e : aC s (.s i) with
  | none => rfl
  | some y =>
    have e' := cu.1 (show aC s (.s i) = some (y.1,y.2) from e);simp only [at_,ah] at e';rw [e'] at h;simp [bJ] at h
 ·cases e : aC s (.sc i j) with
  | none => rfl
  | some y =>
    have e' := cu.1 (show aC s (.sc i j) = some (y.1,y.2) from e);simp only [at_] at e';split at e'
    ·rename_i cs dP;rw [dP] at h;simp only [bJ] at h;exact absurd e' (hl cs h j _ _)
    ·cases e'
theorem eR.keep (h : eR X φ w N s Ha t) (he : ∀ i,get s'.env i = get s.env i \/ (get s'.env i = .any /\ bJ (get s.env i) = false)) (hH : s'.H = s.H) : eR X φ w N s' Ha t := by
 have ho : aC s' = aC s := by
  funext p;cases p with
  | s i =>
    rcases he i with e | ⟨e1,e2⟩
    ·unfold aC; simp only [at_,e]
    ·rw [(dV e2).1]; unfold aC; simp only [at_,e1]
  | sc i j =>
    rcases he i with e | ⟨e1,e2⟩
    ·unfold aC; simp only [at_,e]
    ·rw [(dV e2).2 j]; unfold aC; simp only [at_,e1]
  | c b j => unfold aC; simp only [at_,hH]
 refine ⟨fun i => ?_,fun i => ?_,h.heap,by rw [ho]; exact h.own,by rw [ho,hH]; exact h.box,by rw [ho]; exact h.inj,by rw [ho,hH]; exact h.bx,by rw [hH]; exact h.bi⟩
 ·rcases he i with e | ⟨e1,e2⟩
  ·rw [e]; exact h.env i
  ·rw [e1]; exact .any _ _
 ·rcases he i with e | ⟨e1,e2⟩
  ·rw [e,ho,hH]; exact h.Cu i
  ·rw [e1]; trivial
mutual
theorem KP {o o' : Rt -> Option (Nat × List AV)} {n : Nat} (ho : ∀ p,(∀ j,p ≠ .c n j) -> o' p = o p) : ∀ x,cK o (n + 1) x -> mj n x = true -> cK o' n x
 | .dG k p off len,h,hp => by
   simp only [cK] at h ⊢;rw [ho p]
   ·exact h
   ·rintro j rfl; simp [mj] at hp
 | .fa k p i off,h,hp => by
   simp only [cK] at h ⊢;rw [ho p]
   ·exact h
   ·rintro j rfl; simp [mj] at hp
 | .ptr b off,h,hp => by simp only [cK] at h ⊢; simp [mj] at hp; omega
 | .agg cs,h,hp => by simp only [cK,mj] at h hp ⊢; exact u7 ho cs h hp
 | .dB cs,h,hp => by simp only [cK,mj] at h hp ⊢; exact u7 ho cs h hp
 | .func f a b,h,hp => by simp only [cK,mj,ae] at h hp ⊢; exact ⟨u7 ho a h.1 hp.1,u7 ho b h.2 hp.2⟩
 | .any,_,_ => trivial
 | .undef,_,_ => trivial
 | .fy,_,_ => trivial
 | .fD,_,_ => trivial
 | .dz,_,_ => trivial
 | .int _ _,_,_ => trivial
 | .bool _,_,_ => trivial
 | .str _,_,_ => trivial
 | .list _ _,_,_ => trivial
 | .dw _,_,_ => trivial
 | .own _ _,_,_ => trivial
 | .sl _ b _ _,h,hp => by simp only [cK] at h ⊢; simp [mj] at hp; omega
theorem u7 {o o' : Rt -> Option (Nat × List AV)} {n : Nat} (ho : ∀ p,(∀ j,p ≠ .c n j) -> o' p = o p) : ∀ cs,kg o (n + 1) cs -> jq n cs = true -> kg o' n cs
 | [],_,_ => trivial
 | x :: r,h,hp => by simp only [kg,jq,ae] at h hp ⊢; exact ⟨KP ho x h.1 hp.1,u7 ho r h.2 hp.2⟩
end
theorem FJ {n : Nat} : ∀ {e : Env},qd n e = true -> ∀ i,mj n (get e i) = true
 | [],_,i => rfl
 | (j,v) :: r,h,i => by
   simp only [qd,ae] at h;simp only [Am.get];split
   ·exact h.1
   ·exact FJ h.2 i
theorem xQ {n : Nat} : ∀ {H : Heap},mG n H = true -> ∀ b cs,aN H b = some cs -> jq n cs = true
 | [],_,b,cs,hb => by simp [aN] at hb
 | none :: r,h,b,cs,hb => by
   simp only [mG] at h;cases b with
   | zero => simp [aN] at hb
   | succ b => exact xQ h b cs (by simpa [aN] using hb)
 | some ds :: r,h,b,cs,hb => by
   simp only [mG,ae] at h;cases b with
   | zero => simp [aN] at hb; subst hb; exact h.1
   | succ b => exact xQ h.2 b cs (by simpa [aN] using hb)
theorem FI {n : Nat} : ∀ {cs : List AV},jq n cs = true -> ∀ (j : Nat) (c : AV),cs[j]? = some c -> mj n c = true
 | [],_,j,c,h => by simp at h
 | x :: r,hp,j,c,h => by
   simp only [jq,ae] at hp;cases j with
   | zero => simp at h; subst h; exact hp.1
   | succ j => exact FI hp.2 j c (by simpa using h)
theorem qt {H : Heap} {n b : Nat} : aN (H.take n) b = if b < n then aN H b else none := by
 unfold aN;rw [bF];by_cases h : b < n <;> simp [h]
theorem eR.ahs {env : Env} {H : Heap} {n : Nat} (h : eR X φ w N ⟨env,H⟩ Ha t) (hl : H.length = n + 1) (he : qd n env = true) (hH : mG n (H.take n) = true) : eR X φ w N ⟨env,H.take n⟩ Ha t := by
 have ho : ∀ p,(∀ j,p ≠ .c n j) -> aC ⟨env,H.take n⟩ p = aC ⟨env,H⟩ p := by
  intro p hp;cases p with
  | s i => rfl
  | sc i j => rfl
  | c b j =>
    unfold aC;simp only [at_,qt];by_cases hb : b < n
    ·rw [if_pos hb]
    ·rw [if_neg hb]
     have : aN H b = none := by
      cases e : aN H b with
      | none => rfl
      | some cs =>
        have := dL e;simp only [hl] at this;exact absurd (by rw [show b = n by omega]) (hp j)
     rw [this]
 have hs : ∀ {p},(aC ⟨env,H.take n⟩ p).isSome -> (aC ⟨env,H⟩ p).isSome := by
  intro p hp;by_cases hc : ∀ j,p ≠ .c n j
  ·rwa [ho p hc] at hp
  ·exfalso;apply hc;rintro j rfl;unfold aC at hp;simp [at_,qt] at hp
 have hlen : (H.take n).length = n := by simp; omega
 have zL : ∀ {b},(aN (H.take n) b).isSome -> (aN H b).isSome := by
  intro b hb;rw [qt] at hb;split at hb
  ·exact hb
  ·cases hb
 refine ⟨h.env,fun i => ?_,h.heap,fun p k xs e => ?_,fun b cs e => ?_,fun p q m e1 e2 => h.inj p q m (hs e1) (hs e2),fun b p e1 e2 => h.bx b p (zL e1) (hs e2),fun b c e1 e2 => h.bi b c (zL e1) (zL e2)⟩
 ·have := h.Cu i;simp only [hl] at this;simp only [hlen];exact KP ho _ this (FJ he i)
 ·refine h.own p k xs ?_;by_cases hc : ∀ j,p ≠ .c n j
  ·rwa [ho p hc] at e
  ·exfalso;apply hc;rintro j rfl;unfold aC at e;simp [at_,qt] at e
 ·simp only [qt] at e;split at e
  ·obtain ⟨as,g1,g2,g3⟩ := h.box b cs e;refine ⟨as,g1,g2,fun j c hc => ?_⟩;obtain ⟨k1,k2⟩ := g3 j c hc;refine ⟨?_,k2⟩;simp only [hl] at k1;simp only [hlen];refine KP ho _ k1 (FI (xQ hH b cs ?_) j c hc);rw [qt,if_pos ‹_›];exact e
  ·cases e
theorem eR.trim {env : Env} {base0 : Nat} : ∀ (n : Nat) {H : Heap},eR X φ w N ⟨env,H⟩ Ha t -> eR X φ w N ⟨env,trim base0 env n H⟩ Ha t
 | 0,H,h => h
 | n + 1,H,h => by
   simp only [Go.Bm.trim];split
   ·rename_i hc;exact eR.trim n (h.ahs hc.2.1 hc.2.2.1 hc.2.2.2)
   ·exact h
end
end Go.Bm

/- From the hand to a slot. -/
namespace Go.Bm
open Go.Am

mutual
theorem Xg {N N' : Names} {m : Rt -> Rt} {g : AV -> AV} (eO : N'.β = N.β) (hg : ∀ k p a l,g (.dG k p a l) = .dG k (m p) a l /\ g (.fa k p a l) = .fa k (m p) a l) :
  ∀ x,(∀ p ∈ aP x,N'.ν (m p) = N.ν p) -> cM N' (cN g x) = cM N x
 | .dG k p a l,h => by simp only [cN,(hg k p a l).1,cM]; rw [h p (by simp [aP])]
 | .fa k p a l,h => by simp only [cN,(hg k p a l).2,cM]; rw [h p (by simp [aP])]
 | .ptr b off,_ => by simp only [cN,cM,eO]
 | .agg cs,h => by simp only [cN,cM]; rw [Dm eO hg cs (fun p hp => h p (by simpa [aP] using hp))]
 | .dB cs,h => by simp only [cN,cM]; rw [Dm eO hg cs (fun p hp => h p (by simpa [aP] using hp))]
 | .func f a b,h => by
   simp only [cN,cM];rw [Dm eO hg a (fun p hp => h p (by simp only [aP,aG]; exact .inl hp)),Dm eO hg b (fun p hp => h p (by simp only [aP,aG]; exact .inr hp))]
 | .any,_ => rfl
 | .undef,_ => rfl
 | .fy,_ => rfl
 | .fD,_ => rfl
 | .dz,_ => rfl
 | .int _ _,_ => rfl
 | .bool _,_ => rfl
 | .str _,_ => rfl
 | .list _ _,_ => rfl
 | .dw _,_ => rfl
 | .own _ _,_ => rfl
 | .sl _ b _ _,_ => by simp only [cN,cM,eO]
theorem Dm {N N' : Names} {m : Rt -> Rt} {g : AV -> AV} (eO : N'.β = N.β) (hg : ∀ k p a l,g (.dG k p a l) = .dG k (m p) a l /\ g (.fa k p a l) = .fa k (m p) a l) :
  ∀ cs,(∀ p ∈ dh cs,N'.ν (m p) = N.ν p) -> kW N' (de g cs) = kW N cs
 | [],_ => rfl
 | x :: r,h => by
   simp only [de,kW];rw [Xg eO hg x (fun p hp => h p (by simp only [dh,aG]; exact .inl hp)),Dm eO hg r (fun p hp => h p (by simp only [dh,aG]; exact .inr hp))]
end
mutual
theorem MM {o o' : Rt -> Option (Nat × List AV)} {nb : Nat} {m : Rt -> Rt} {g : AV -> AV} (hg : ∀ k p a l,g (.dG k p a l) = .dG k (m p) a l /\ g (.fa k p a l) = .fa k (m p) a l) :
  ∀ x,(∀ p ∈ aP x,o' (m p) = o p) -> cK o nb x -> cK o' nb (cN g x)
 | .dG k p a l,h,hk => by simp only [cN,(hg k p a l).1,cK] at hk ⊢; rw [h p (by simp [aP])]; exact hk
 | .fa k p a l,h,hk => by simp only [cN,(hg k p a l).2,cK] at hk ⊢; rw [h p (by simp [aP])]; exact hk
 | .ptr b off,_,hk => hk
 | .agg cs,h,hk => by simp only [cN,cK] at hk ⊢; exact FB hg cs (fun p hp => h p (by simpa [aP] using hp)) hk
 | .dB cs,h,hk => by simp only [cN,cK] at hk ⊢; exact FB hg cs (fun p hp => h p (by simpa [aP] using hp)) hk
 | .func f a b,h,hk => by
   simp only [cN,cK] at hk ⊢;exact ⟨FB hg a (fun p hp => h p (by simp only [aP,aG]; exact .inl hp)) hk.1,FB hg b (fun p hp => h p (by simp only [aP,aG]; exact .inr hp)) hk.2⟩
 | .any,_,_ => trivial
 | .undef,_,_ => trivial
 | .fy,_,_ => trivial
 | .fD,_,_ => trivial
 | .dz,_,_ => trivial
 | .int _ _,_,_ => trivial
 | .bool _,_,_ => trivial
 | .str _,_,_ => trivial
 | .list _ _,_,_ => trivial
 | .dw _,_,_ => trivial
 | .own _ _,_,_ => trivial
 | .sl _ _ _ _,_,h => h
theorem FB {o o' : Rt -> Option (Nat × List AV)} {nb : Nat} {m : Rt -> Rt} {g : AV -> AV} (hg : ∀ k p a l,g (.dG k p a l) = .dG k (m p) a l /\ g (.fa k p a l) = .fa k (m p) a l) :
  ∀ cs,(∀ p ∈ dh cs,o' (m p) = o p) -> kg o nb cs -> kg o' nb (de g cs)
 | [],_,_ => trivial
 | x :: r,h,hk => by
   simp only [de,kg] at hk ⊢;exact ⟨MM hg x (fun p hp => h p (by simp only [dh,aG]; exact .inl hp)) hk.1,FB hg r (fun p hp => h p (by simp only [dh,aG]; exact .inr hp)) hk.2⟩
end
theorem kA {cs : List AV} {j : Nat} {c : AV} (h : cs[j]? = some c) {p : Rt} (hp : p ∈ aP c) : p ∈ dh cs := by
 induction cs generalizing j with
 | nil => simp at h
 | cons x r ih =>
   simp only [dh,aG];cases j with
   | zero => simp at h; subst h; exact .inl hp
   | succ j => exact .inr (ih (by simpa using h))
theorem xt {N N' : Names} {m : Rt -> Rt} {g : AV -> AV} (eO : N'.β = N.β) (hg : ∀ k p a l,g (.dG k p a l) = .dG k (m p) a l /\ g (.fa k p a l) = .fa k (m p) a l) {r r' : Rt} {x : AV} (hr : ∀ k xs,x = .own k xs -> N'.ν r' = N.ν r) (hx : ∀ p ∈ aP x,N'.ν (m p) = N.ν p) :
  jF N' r' (cN g x) = jF N r x := by
 have hL : jX g := fun k p a l => by rw [(hg k p a l).1,(hg k p a l).2]; exact ⟨⟨(fun cs e => by cases e),(fun k xs e => by cases e)⟩,⟨(fun cs e => by cases e),(fun k xs e => by cases e)⟩⟩
 by_cases ho : ∃ k xs,x = .own k xs
 ·obtain ⟨k,xs,rfl⟩ := ho;simp only [cN,jF,rO,hr k xs rfl]
 ·obtain ⟨e1,e2⟩ := JV (N := N) (N' := N') hL (r := r) (x := x) (fun k xs e => ho ⟨k,xs,e⟩);obtain ⟨_,e3⟩ := JV (N := N) (N' := N') hL (r := r') (x := x) (fun k xs e => ho ⟨k,xs,e⟩);rw [e1,e3,Xg eO hg x hx]
theorem JU {N N' : Names} {m : Rt -> Rt} {g : AV -> AV} (eO : N'.β = N.β) (hg : ∀ k p a l,g (.dG k p a l) = .dG k (m p) a l /\ g (.fa k p a l) = .fa k (m p) a l) {i i' : Nat} {x : AV} (h1 : N'.ν (.s i') = N.ν (.s i)) (h2 : ∀ j,N'.ν (.sc i' j) = N.ν (.sc i j)) (hx : ∀ p ∈ aP x,N'.ν (m p) = N.ν p) :
  ku N' i' (cN g x) = ku N i x := by
 have hL : jX g := fun k p a l => by rw [(hg k p a l).1,(hg k p a l).2]; exact ⟨⟨(fun cs e => by cases e),(fun k xs e => by cases e)⟩,⟨(fun cs e => by cases e),(fun k xs e => by cases e)⟩⟩
 by_cases ha : ∃ cs,x = .agg cs
 ·obtain ⟨cs,rfl⟩ := ha;simp only [cN,ku];congr 1;apply dT;intro j;rw [fZ,fZ,eJ];simp only [gE];cases hc : cs[j]? with
  | none => rfl
  | some c =>
    simp only [dc];rw [xt eO hg (r := .sc i j) (fun _ _ _ => h2 j) (fun p hp => hx p (by simp only [aP]; exact kA hc hp))]
 ·have hn : jP x := fun cs e => ha ⟨cs,e⟩;have OV : jP (cN g x) := kZ hL hn
  have e1 : ku N' i' (cN g x) = jF N' (.s i') (cN g x) := by
   generalize cN g x = y at OV;cases y <;> first | rfl | exact absurd rfl (OV _)
  have e2 : ku N i x = jF N (.s i) x := by cases x <;> first | rfl | exact absurd rfl (hn _)
  rw [e1,e2];exact xt eO hg (fun _ _ _ => h1) hx
section
variable {X : Nat -> Prop} {φ : dy} {w : World} {N : Names} {s s' : St} {Ha : Heap} {t t' : Nat -> Value} {B : Nat -> Nat} {base : Nat}
theorem zB (i d : Nat) : ∀ k p a l,VS i d (.dG k p a l) = .dG k (jN i d p) a l /\ VS i d (.fa k p a l) = .fa k (jN i d p) a l := fun _ _ _ _ => ⟨rfl,rfl⟩
theorem AM {i d : Nat} {p : Rt} (h : bD d p = false) : jN d i (jN i d p) = p := by
 cases p with
 | s j =>
   simp only [bD,decide_eq_false_iff_not] at h;simp only [jN];by_cases e : j = i
   ·subst e; simp [jN]
   ·simp [e,jN,h]
 | sc j l =>
   simp only [bD,decide_eq_false_iff_not] at h;simp only [jN];by_cases e : j = i
   ·subst e; simp [jN]
   ·simp [e,jN,h]
 | c b j => rfl
theorem MY {i d : Nat} {q : Rt} (h : bD i q = false) : jN i d (jN d i q) = q := AM h
theorem eR.hand {i d : Nat} (h : eR X φ w N s Ha t) (qA : i ≠ d) (hC : ∀ r x,at_ s r = some x -> ∀ p ∈ aP x,bD d p = false)
  (he : ∀ j,get s'.env j = if j = d then cN (VS i d) (get s.env i) else if j = i then .any else cN (VS i d) (get s.env j)) (hH : s'.H = ft (VS i d) s.H) (ht : ∀ j,j ≠ i -> t' j = if j = d then t i else t j) :
  ∃ N',N'.β = N.β /\ eR X φ w N' s' Ha t' := by
 have hg := zB i d;have hL := agD i d
 have atq : ∀ q,bD i q = false -> at_ s' q = (at_ s (jN d i q)).map (cN (VS i d)) := by
  intro q hq;rw [<- jA hL];cases q with
  | s j =>
    simp only [bD,decide_eq_false_iff_not] at hq;simp only [at_,he,jN,cz];by_cases e : j = d
    ·simp [e,dt,at_]
    ·simp [e,hq,dt,at_]
  | sc j l =>
    simp only [bD,decide_eq_false_iff_not] at hq;simp only [at_,he,jN,cz];by_cases e : j = d
    ·simp [e,dt,at_]
    ·simp [e,hq,dt,at_]
  | c b j => simp only [at_,hH,jN,cz]
 have atn : ∀ q,bD i q = true -> aC s' q = none := by
  intro q hq;cases q with
  | s j => simp only [bD,decide_eq_true_eq] at hq; subst hq; unfold aC; simp [at_,he,qA]
  | sc j l => simp only [bD,decide_eq_true_eq] at hq; subst hq; unfold aC; simp [at_,he,qA]
  | c b j => simp [bD] at hq
 have own : ∀ q,bD i q = false -> aC s' q = aC s (jN d i q) := by
  intro q hq;rw [<- iB hL s (jN d i q)];exact KM (by rw [atq q hq,jA hL])
 have VD : ∀ p,bD d p = false -> aC s' (jN i d p) = aC s p := by
  intro p hp
  have hi : bD i (jN i d p) = false := by
   cases p with
   | s j => simp only [jN]; split <;> simp_all [bD]; exact fun e => qA e.symm
   | sc j l => simp only [jN]; split <;> simp_all [bD]; exact fun e => qA e.symm
   | c b j => rfl
  rw [own _ hi,AM hp]
 have hlen : s'.H.length = s.H.length := by rw [hH,fw]
 obtain ⟨N',eO,hN⟩ : ∃ N' : Names,N'.β = N.β /\ ∀ q,N'.ν q = N.ν (jN d i q) := ⟨⟨N.β,fun q => N.ν (jN d i q)⟩,rfl,fun _ => rfl⟩;have kR : ∀ p,bD d p = false -> N'.ν (jN i d p) = N.ν p := fun p hp => by rw [hN,AM hp]
 refine ⟨N',eO,⟨fun j => ?_,fun j => ?_,h.heap,fun p k xs e => ?_,fun b cs e => ?_,fun p q n e1 e2 e3 e4 => ?_,fun b p e1 e2 e3 => ?_,fun b c e1 e2 e3 => ?_⟩⟩
 ·rw [he];by_cases V9 : j = d
  ·subst V9;rw [if_pos rfl,ht j (iP qA),if_pos rfl];rw [JU (N := N) (i := i) eO hg (by simp [hN,jN]) (fun l => by simp [hN,jN]) (fun p hp => kR p (hC (.s i) _ rfl p hp))];exact h.env i
  ·rw [if_neg V9];by_cases HD : j = i
   ·rw [if_pos HD]; exact .any _ _
   ·rw [if_neg HD,ht j HD,if_neg V9];rw [JU (N := N) (i := j) eO hg (by simp [hN,jN,V9]) (fun l => by simp [hN,jN,V9]) (fun p hp => kR p (hC (.s j) _ rfl p hp))];exact h.env j
 ·rw [he,hlen];by_cases V9 : j = d
  ·rw [if_pos V9];exact MM hg _ (fun p hp => VD p (hC (.s i) _ rfl p hp)) (h.Cu i)
  ·rw [if_neg V9];by_cases HD : j = i
   ·rw [if_pos HD]; trivial
   ·rw [if_neg HD];exact MM hg _ (fun p hp => VD p (hC (.s j) _ rfl p hp)) (h.Cu j)
 ·cases hq : bD i p with
  | true => rw [atn p hq] at e; cases e
  | false => rw [own p hq] at e; rw [hN]; exact h.own _ k xs e
 ·rw [hH,fk] at e;cases hb : aN s.H b with
  | none => rw [hb] at e; cases e
  | some ds =>
    rw [hb] at e;simp at e;subst e;obtain ⟨as,g1,g2,g3⟩ := h.box b ds hb;refine ⟨as,by rw [eO]; exact g1,by rw [cI]; exact g2,fun j c hc => ?_⟩;rw [eJ] at hc;cases hd : ds[j]? with
    | none => rw [hd] at hc; cases hc
    | some c0 =>
      rw [hd] at hc;simp at hc;subst hc;have hcc := fun p hp => hC (.c b j) c0 (by rw [vF hb]; exact hd) p hp;obtain ⟨k1,a,k2,k3⟩ := g3 j c0 hd;refine ⟨by rw [hlen]; exact MM hg _ (fun p hp => VD p (hcc p hp)) k1,a,k2,?_⟩;rw [xt (N := N) (r := .c b j) eO hg (fun _ _ _ => by rw [hN]; rfl) (fun p hp => kR p (hcc p hp))];exact k3
 ·have hp : bD i p = false := by
   cases hq : bD i p with
   | true => rw [atn p hq] at e1; cases e1
   | false => rfl
  have hq : bD i q = false := by
   cases hq : bD i q with
   | true => rw [atn q hq] at e2; cases e2
   | false => rfl
  rw [own p hp] at e1;rw [own q hq] at e2;rw [hN] at e3 e4;have := h.inj _ _ n e1 e2 e3 e4;rw [<- MY (d := d) hp,this,MY hq]
 ·have hp : bD i p = false := by
   cases hq : bD i p with
   | true => rw [atn p hq] at e2; cases e2
   | false => rfl
  rw [own p hp] at e2;rw [hN,eO] at e3;refine h.bx b _ ?_ e2 e3;rw [hH,fk] at e1;cases hb : aN s.H b with
  | none => rw [hb] at e1; cases e1
  | some _ => rfl
 ·have sb : ∀ {b},(aN s'.H b).isSome -> (aN s.H b).isSome := by
   intro b hb;rw [hH,fk] at hb;cases e : aN s.H b with
   | none => rw [e] at hb; cases hb
   | some _ => rfl
  rw [eO] at e3;exact h.bi b c (sb e1) (sb e2) e3
end
end Go.Bm

/- A value goes to its slot. -/
namespace Go.Bm
open Go.Am
mutual
theorem AK {o : Rt -> Option (Nat × List AV)} {nb : Nat} : ∀ x,cK o nb x -> ∀ p ∈ aP x,(o p).isSome
 | .dG k q a l,h,p,hp => by simp only [aP,cE] at hp; subst hp; simp only [cK] at h; obtain ⟨xs,e,_⟩ := h; rw [e]; rfl
 | .fa k q a l,h,p,hp => by simp only [aP,cE] at hp; subst hp; simp only [cK] at h; obtain ⟨xs,e,_⟩ := h; rw [e]; rfl
 | .agg cs,h,p,hp => by simp only [cK,aP] at h hp; exact zq cs h p hp
 | .dB cs,h,p,hp => by simp only [cK,aP] at h hp; exact zq cs h p hp
 | .func f a b,h,p,hp => by
   simp only [cK,aP,aG] at h hp;rcases hp with hp | hp
   ·exact zq a h.1 p hp
   ·exact zq b h.2 p hp
 | .any,_,p,hp => by simp [aP] at hp
 | .undef,_,p,hp => by simp [aP] at hp
 | .fy,_,p,hp => by simp [aP] at hp
 | .fD,_,p,hp => by simp [aP] at hp
 | .dz,_,p,hp => by simp [aP] at hp
 | .int _ _,_,p,hp => by simp [aP] at hp
 | .bool _,_,p,hp => by simp [aP] at hp
 | .str _,_,p,hp => by simp [aP] at hp
 | .list _ _,_,p,hp => by simp [aP] at hp
 | .dw _,_,p,hp => by simp [aP] at hp
 | .own _ _,_,p,hp => by simp [aP] at hp
 | .ptr _ _,_,p,hp => by simp [aP] at hp
 | .sl _ _ _ _,_,p,hp => by simp [aP] at hp
theorem zq {o : Rt -> Option (Nat × List AV)} {nb : Nat} : ∀ cs,kg o nb cs -> ∀ p ∈ dh cs,(o p).isSome
 | [],_,p,hp => by simp [dh] at hp
 | x :: r,h,p,hp => by
   simp only [kg,dh,aG] at h hp;rcases hp with hp | hp
   ·exact AK x h.1 p hp
   ·exact zq r h.2 p hp
end
mutual
theorem qN {g : AV -> AV} {m : Rt -> Rt} (hg : ∀ k p a l,g (.dG k p a l) = .dG k (m p) a l /\ g (.fa k p a l) = .fa k (m p) a l) : ∀ x,(∀ p ∈ aP x,m p = p) -> cN g x = x
 | .dG k p a l,h => by simp only [cN,(hg k p a l).1]; rw [h p (by simp [aP])]
 | .fa k p a l,h => by simp only [cN,(hg k p a l).2]; rw [h p (by simp [aP])]
 | .agg cs,h => by simp only [cN]; rw [qe hg cs (fun p hp => h p (by simpa [aP] using hp))]
 | .dB cs,h => by simp only [cN]; rw [qe hg cs (fun p hp => h p (by simpa [aP] using hp))]
 | .func f a b,h => by
   simp only [cN];rw [qe hg a (fun p hp => h p (by simp only [aP,aG]; exact .inl hp)),qe hg b (fun p hp => h p (by simp only [aP,aG]; exact .inr hp))]
 | .any,_ => rfl
 | .undef,_ => rfl
 | .fy,_ => rfl
 | .fD,_ => rfl
 | .dz,_ => rfl
 | .int _ _,_ => rfl
 | .bool _,_ => rfl
 | .str _,_ => rfl
 | .list _ _,_ => rfl
 | .dw _,_ => rfl
 | .own _ _,_ => rfl
 | .ptr _ _,_ => rfl
 | .sl _ _ _ _,_ => rfl
theorem qe {g : AV -> AV} {m : Rt -> Rt} (hg : ∀ k p a l,g (.dG k p a l) = .dG k (m p) a l /\ g (.fa k p a l) = .fa k (m p) a l) : ∀ cs,(∀ p ∈ dh cs,m p = p) -> de g cs = cs
 | [],_ => rfl
 | x :: r,h => by
   simp only [de];rw [qN hg x (fun p hp => h p (by simp only [dh,aG]; exact .inl hp)),qe hg r (fun p hp => h p (by simp only [dh,aG]; exact .inr hp))]
end
theorem CW {g : AV -> AV} {m : Rt -> Rt} (hg : ∀ k p a l,g (.dG k p a l) = .dG k (m p) a l /\ g (.fa k p a l) = .fa k (m p) a l) : ∀ H : Heap,(∀ b cs,aN H b = some cs -> ∀ p ∈ dh cs,m p = p) -> ft g H = H
 | [],_ => rfl
 | none :: r,h => by simp only [ft]; rw [CW hg r (fun b cs hb => h (b + 1) cs (by simpa [aN] using hb))]
 | some cs :: r,h => by simp only [ft]; rw [CW hg r (fun b ds hb => h (b + 1) ds (by simpa [aN] using hb)),qe hg cs (h 0 cs rfl)]
theorem jW {f : Rt -> Bool} : ∀ {l : List Rt},vH f l = false -> ∀ p ∈ l,f p = false
 | [],_,p,hp => by simp at hp
 | q :: r,h,p,hp => by
   simp only [vH,eP] at h;rcases aK.1 hp with e | e
   ·subst e; exact h.1
   ·exact jW h.2 p e
theorem qu {f : Rt -> Bool} : ∀ {e : Env},GY f e = false -> ∀ i,∀ p ∈ aP (get e i),f p = false
 | [],_,i,p,hp => by simp [Am.get,aP] at hp
 | (j,v) :: r,h,i,p,hp => by
   simp only [GY,eP] at h;simp only [Am.get] at hp;split at hp
   ·exact jW h.1 p hp
   ·exact qu h.2 i p hp
theorem tc {f : Rt -> Bool} : ∀ {H : Heap},CI f H = false -> ∀ b cs,aN H b = some cs -> ∀ p ∈ dh cs,f p = false
 | [],_,b,cs,hb,p,hp => by simp [aN] at hb
 | none :: r,h,b,cs,hb,p,hp => by
   simp only [CI] at h;cases b with
   | zero => simp [aN] at hb
   | succ b => exact tc h b cs (by simpa [aN] using hb) p hp
 | some ds :: r,h,b,cs,hb,p,hp => by
   simp only [CI,eP] at h;cases b with
   | zero => simp [aN] at hb; subst hb; exact jW h.1 p hp
   | succ b => exact tc h.2 b cs (by simpa [aN] using hb) p hp
theorem Dd {cs : List AV} {p : Rt} (hp : p ∈ dh cs) : ∃ (j : Nat) (c : AV),cs[j]? = some c /\ p ∈ aP c := by
 induction cs with
 | nil => simp [dh] at hp
 | cons x r ih =>
   simp only [dh,aG] at hp;rcases hp with hp | hp
   ·exact ⟨0,x,rfl,hp⟩
   ·obtain ⟨j,c,h1,h2⟩ := ih hp;exact ⟨j + 1,c,by simpa using h1,h2⟩
theorem Jj : ∀ (e : Env) (l : List Nat),∃ i,Am.get e i = .any /\ i ∉ l := by
 have key : ∀ e : Env,∃ n,∀ i,n <= i -> Am.get e i = .any := by
  intro e
  induction e with
  | nil => exact ⟨0,fun i _ => rfl⟩
  | cons p r ih =>
    obtain ⟨j,v⟩ := p;obtain ⟨n,hn⟩ := ih;refine ⟨max n (j + 1),fun i hi => ?_⟩;simp only [Am.get];rw [if_neg (by omega)];exact hn i (by omega)
 intro e l;obtain ⟨n,hn⟩ := key e
 have : ∃ m,∀ x ∈ l,x < m := by
  induction l with
  | nil => exact ⟨0,fun x hx => by simp at hx⟩
  | cons y r ih =>
    obtain ⟨m,hm⟩ := ih;refine ⟨max m (y + 1),fun x hx => ?_⟩;rcases aK.1 hx with e | e
    ·omega
    ·have := hm x e; omega
 obtain ⟨m,hm⟩ := this;exact ⟨max n m,hn _ (by omega),fun h => by have := hm _ h; omega⟩
section
variable {X : Nat -> Prop} {φ : dy} {w : World} {s s' : St} {t t' : Nat -> Value} {B : Nat -> Nat} {base : Nat} {v : AV} {v' : Value}
structure eG (X : Nat -> Prop) (φ : dy) (w : World) (B : Nat -> Nat) (base : Nat) (s : St) (v : AV) (t : Nat -> Value) (v' : Value) : Prop where
 st : SB X φ w B base s t
 ok : cK (aC s) s.H.length v
 put : ∀ i,get s.env i = .any -> SB X φ w B base ⟨put s.env i v,s.H⟩ (fun j => if j = i then v' else t j)
theorem LI {r : Rt} {x : AV} (h : SB X φ w B base s t) (hx : at_ s r = some x) : ∀ p ∈ aP x,(aC s p).isSome := by
 obtain ⟨N,Ha,h,_⟩ := h;exact AK x (h.zr hx)
theorem acN {b : Nat} {cs : List AV} (h : SB X φ w B base s t) (hb : aN s.H b = some cs) : ∀ p ∈ dh cs,(aC s p).isSome := by
 intro p hp;obtain ⟨j,c,h1,h2⟩ := Dd hp;exact LI h (r := .c b j) (by rw [vF hb]; exact h1) p h2
theorem abx {i d : Nat} {p : Rt} (h : bD i p = false) : jN i d p = p := by
 cases p with
 | s j => simp only [bD,decide_eq_false_iff_not] at h; simp [jN,h]
 | sc j l => simp only [bD,decide_eq_false_iff_not] at h; simp [jN,h]
 | c b j => rfl
theorem ta {i : Nat} {p : Rt} (hi : bJ (get s.env i) = false) (hp : (aC s p).isSome) : bD i p = false := by
 obtain ⟨h1,h2⟩ := dV hi;cases p with
 | s j =>
   simp only [bD,decide_eq_false_iff_not];rintro rfl;rw [h1] at hp; cases hp
 | sc j l =>
   simp only [bD,decide_eq_false_iff_not];rintro rfl;rw [h2] at hp; cases hp
 | c b j => rfl
theorem SB.hand {i d : Nat} (h : SB X φ w B base s t) (qA : i ≠ d) (hC : ∀ r x,at_ s r = some x -> ∀ p ∈ aP x,bD d p = false)
  (he : ∀ j,get s'.env j = if j = d then cN (VS i d) (get s.env i) else if j = i then .any else cN (VS i d) (get s.env j)) (hH : s'.H = ft (VS i d) s.H) (ht : ∀ j,j ≠ i -> t' j = if j = d then t i else t j) : SB X φ w B base s' t' := by
 obtain ⟨N,Ha,h,hb,hl⟩ := h;obtain ⟨N',e,h'⟩ := h.hand qA hC he hH ht;exact ⟨N',Ha,h',fun b bL => by rw [e]; exact hb b bL,by rw [hH,fw]; exact hl⟩
theorem afN (h : eG X φ w B base s v t v') {d : Nat} (hp : Vz s d v = some s') (hd : d ≠ fe) (ht : ∀ j,t' j = if j = d then v' else t j) : ∃ φ',SB X φ' w B base s' t' /\ fJ φ w φ' w := by
 unfold Vz at hp;split at hp
 ·split at hp
  case h_2 => cases hp
  rename_i HG;split at hp
  ·cases hp
  rename_i ho;simp at hp;subst hp;obtain ⟨nk,h1,a1⟩ := (h.put fe HG).zU d;refine ⟨nk,h1.hand (i := fe) (d := d) (iP hd) (fun r x hx p hp => ta (by simpa using ho) (LI h1 hx p hp)) (fun j => ?_) ?_ (fun j hj => ?_),a1⟩
  ·simp only [Lr,bE,cz,dt]
  ·simp only [Lr,cz]
  ·rw [ht,if_pos rfl,if_neg hj]
 ·rename_i hs;simp at hp;subst hp;obtain ⟨i,hi,qA⟩ := Jj s.env [d];have hid' : i ≠ d := fun e => qA (by simp [e]);have hio : bJ (get s.env i) = false := by rw [hi]; rfl
  have C3 := h.put i hi;have MX : ∀ {p},(aC s p).isSome -> jN i d p = p := fun hp => abx (ta hio hp);refine ⟨φ,C3.hand (i := i) (d := d) hid' (fun r x hx p hp => ?_) (fun j => ?_) ?_ (fun j hj => ?_),.refl _ _⟩
  ·simp only [Mj,ae,not_and,Bool.not_eq_true] at hs;cases hod : bJ (get s.env d) with
   | false =>
     refine ta (s := ⟨put s.env i v,s.H⟩) (i := d) ?_ (LI C3 hx p hp);simp only [bE];rw [if_neg (iP hid')];exact hod
   | true =>
     have hn := hs hod;simp only [GZ,eP] at hn;cases r with
     | s j =>
       simp only [at_,bE,ah] at hx;subst hx;split at hp
       ·exact jW hn.1 p hp
       ·exact qu hn.2.1 j p hp
     | sc j l =>
       simp only [at_,bE] at hx;split at hx
       ·rename_i cs dP;split at dP
        ·subst dP;exact jW hn.1 p (by simp only [aP]; exact kA hx hp)
        ·exact qu hn.2.1 j p (by rw [dP]; simp only [aP]; exact kA hx hp)
       ·cases hx
     | c b l =>
       simp only [at_] at hx;split at hx
       ·rename_i cs dP;exact tc hn.2.2 b cs dP p (kA hx hp)
       ·cases hx
  ·simp only [bE];by_cases V9 : j = d
   ·rw [if_pos V9,if_pos V9,if_pos trivial,qN (zB i d) v (fun p hp => MX (AK v h.ok p hp))]
   ·rw [if_neg V9,if_neg V9];by_cases HD : j = i
    ·rw [if_pos HD,HD]; exact hi
    ·rw [if_neg HD,if_neg HD,qN (zB i d) _ (fun p hp => MX (LI h.st (r := .s j) rfl p hp))]
  ·exact (CW (zB i d) s.H (fun b cs hb p hp => MX (acN h.st hb p hp))).symm
  ·rw [ht,if_pos rfl,if_neg hj]
theorem aa6 (h : eG X φ w B base s v t v') {d : Option Nat} (hp : xc s d v = some s') (hd : d ≠ some fe) (ht : ∀ j,t' j = if some j = d then v' else t j) : ∃ φ',SB X φ' w B base s' t' /\ fJ φ w φ' w := by
 cases d with
 | none =>
   simp [xc] at hp;subst hp;refine ⟨φ,?_,.refl _ _⟩;obtain ⟨N,Ha,h1,hb⟩ := h.st;have : t' = t := by funext j; rw [ht,if_neg (by simp)]
   rw [this];exact ⟨N,Ha,h1,hb⟩
 | some d => exact afN h (by simpa [xc] using hp) (fun e => hd (by rw [e])) (fun j => by rw [ht]; simp)
end
end Go.Bm

/- Operations that change nothing, in both machines. -/
namespace Go.Bm
open Go.Am

def sY : AV -> Bool
 | .bool _ | .int _ _ | .dz | .fy | .fD | .undef => true
 | _ => false
def mn : List AV -> Bool
 | [] => true
 | x :: r => sY x && mn r
def Ze : AV -> Bool
 | .agg cs => mn cs
 | .func _ [] [] => true
 | x => sY x
theorem UT {v : Value} {x : AV} (h : JE v x = true) : sY x = true := by
 unfold JE at h;split at h <;> first | rfl | cases h
theorem LD : ∀ {vs : List Value} {xs : List AV},ql vs xs = true -> mn xs = true
 | [],[],_ => rfl
 | [],_ :: _,h => by simp [ql] at h
 | _ :: _,[],h => by simp [ql] at h
 | v :: r,x :: s,h => by
   simp only [ql,ae] at h;simp only [mn,ae];exact ⟨UT h.1,LD h.2⟩
theorem zH {x : AV} (h : sY x = true) : Ze x = true := by cases x <;> first | (simp [sY] at h; done) | rfl | exact h
theorem ag2 {o : Operand} {a : AV} (h : df o (.k a) = true) : Ze a = true := by
 unfold df at h;split at h
 ·rename_i hk; cases hk
 ·rename_i v x hk;cases hk;unfold chkV at h;split at h
  ·exact LD h
  ·exact zH (UT h)
 ·rename_i f g hk; cases hk; rfl
 ·rename_i hk; cases hk
 ·cases h
theorem Xi (N : Names) {x : AV} (h : sY x = true) : cM N x = x := by cases x <;> first | rfl | simp [sY] at h
theorem Xh (N : Names) : ∀ {xs : List AV},mn xs = true -> kW N xs = xs
 | [],_ => rfl
 | x :: r,h => by
   simp only [mn,ae] at h;simp only [kW];rw [Xi N h.1,Xh N h.2]
theorem tr_c (N : Names) {x : AV} (h : Ze x = true) : cM N x = x := by
 unfold Ze at h;split at h
 ·simp only [cM]; rw [Xh N h]
 ·rfl
 ·exact Xi N h
theorem dn_c {x : AV} (h : Ze (dnV x) = true) : (∃ k,x = .own k [] /\ dnV x = .dz) \/ (Ze x = true /\ dnV x = x) := by
 unfold dnV at h ⊢;split
 ·exact .inl ⟨_,rfl,rfl⟩
 ·rename_i hn;split at h
  ·rename_i k; exact absurd rfl (hn k)
  ·exact .inr ⟨h,rfl⟩

def gL (N : Names) : AV -> AV
 | .own _ _ => .dz
 | x => cM N x
def iy (N : Names) : List AV -> List AV
 | [] => []
 | x :: r => gL N x :: iy N r
def vX (N : Names) : AV -> AV
 | .own _ _ => .dz
 | .agg cs => .agg (iy N cs)
 | x => cM N x
def EO : AV -> Prop
 | .own _ xs => xs = []
 | .agg cs => ∀ (j k : Nat) (xs : List AV),cs[j]? = some (.own k xs) -> xs = []
 | _ => True
theorem nu (N : Names) : ∀ (cs : List AV) (i : Nat),(iy N cs)[i]? = (cs[i]?).map (gL N)
 | [],i => by simp [iy]
 | x :: r,i => by cases i <;> simp [iy,nu N r]
theorem jf (N : Names) : ∀ cs : List AV,(iy N cs).length = cs.length
 | [] => rfl
 | x :: r => by simp [iy,jf N r]
theorem kv (N : Names) : ∀ {cs : List AV},bK cs = false -> iy N cs = kW N cs
 | [],_ => rfl
 | x :: r,h => by
   simp only [iy,kW];cases x <;> simp [bK] at h <;> rw [kv N h] <;> rfl
theorem kG (N : Names) {x : AV} (h : bJ x = false) : vX N x = cM N x := by
 cases x <;> first | rfl | (simp [bJ] at h; done) | skip
 rename_i cs;simp only [bJ] at h;simp only [vX,cM];rw [kv N h]
theorem aaE (N : Names) {x : AV} (h : ∀ cs,x = .agg cs -> bK cs = false) : gL N x = vX N x := by
 cases x <;> first | rfl | skip
 rename_i cs;simp only [gL,cM,vX];rw [kv N (h cs rfl)]
theorem I3 (f : Nat -> Rt) : ∀ (cs : List AV) (j : Nat),bK (eM f j cs) = false
 | [],j => rfl
 | x :: r,j => by
   have ih := I3 f r (j + 1);cases x <;> simp [eM,bK,ih]
theorem Nd (i : Nat) (v : AV) : bJ (eW i v) = false := by
 cases v <;> simp [eW,bJ]
 exact I3 _ _ _
theorem AW (f : Nat -> Rt) : ∀ (cs : List AV) (j i : Nat),(eM f j cs)[i]? = (cs[i]?).map (fun x => match x with
  | .own k xs => .dG k (f (j + i)) 0 xs.length
  | x => x)
 | [],j,i => by simp [eM]
 | x :: r,j,i => by
   cases i with
   | zero => cases x <;> simp [eM]
   | succ i =>
     have ih := AW f r (j + 1) i;rw [show j + 1 + i = j + (i + 1) by omega] at ih;cases x <;> simp [eM,ih]
theorem Dn (N : Names) (f : Nat -> Rt) : ∀ (cs : List AV) (j : Nat),kW N (eM f j cs) = Pj N f j cs
 | [],j => rfl
 | x :: r,j => by
   have ih := Dn N f r (j + 1);cases x <;> simp [eM,kW,Pj,jF,ih]
   simp only [cM,rO,rk]
theorem Ra (N : Names) (i : Nat) (v : AV) : cM N (eW i v) = ku N i v := by
 cases v <;> first | rfl | skip
 ·simp only [eW,cM,ku]; rw [Dn]
 ·simp only [eW,cM,ku,jF,rO,rk]
section
variable {X : Nat -> Prop} {φ : dy} {w : World} {N : Names} {s : St} {Ha : Heap} {t : Nat -> Value} {c : eE} {cA : Am.eE}
theorem aen {o : Rt -> Option (Nat × List AV)} {nb : Nat} {x : AV} (h : sY x = true) : cK o nb x := by cases x <;> first | trivial | simp [sY] at h
theorem Yu {o : Rt -> Option (Nat × List AV)} {nb : Nat} : ∀ {xs : List AV},mn xs = true -> kg o nb xs
 | [],_ => trivial
 | x :: r,h => by simp only [mn,ae] at h; exact ⟨aen h.1,Yu h.2⟩
theorem ok_c {o : Rt -> Option (Nat × List AV)} {nb : Nat} {x : AV} (h : Ze x = true) : cK o nb x := by
 unfold Ze at h;split at h
 ·exact Yu h
 ·exact ⟨trivial,trivial⟩
 ·exact aen h
theorem AZ : ∀ {xs : List AV},mn xs = true -> bK xs = false
 | [],_ => rfl
 | x :: r,h => by
   simp only [mn,ae] at h;have := AZ h.2;cases x <;> first | (simp [sY] at h; done) | simpa [bK] using this
theorem abP {x : AV} (h : Ze x = true) : bJ x = false := by
 unfold Ze at h;split at h
 ·exact AZ h
 ·rfl
 ·rename_i h1 h2;cases x <;> first | rfl | (simp [sY] at h; done)
theorem Ty (h : eR X φ w N s Ha t) (i : Nat) : cK (aC s) s.H.length (eW i (get s.env i)) := by
 have hk := h.Cu i;have uq : at_ s (.s i) = some (get s.env i) := rfl;cases hv : get s.env i <;> rw [hv] at hk uq <;> try exact hk
 ·rename_i cs;simp only [eW,cK] at hk ⊢;refine gk.2 fun j c hc => ?_;rw [AW] at hc;cases hd : cs[j]? with
  | none => rw [hd] at hc; cases hc
  | some d =>
    rw [hd] at hc;simp only [dc,ah,gE] at hc;subst hc;have hdk := gk.1 hk j d hd;split
    ·rename_i k xs;simp only [cK];exact ⟨xs,cu.2 (by rw [GU hv]; exact hd),by omega⟩
    ·exact hdk
 ·rename_i k xs;simp only [eW,cK];exact ⟨xs,cu.2 uq,by omega⟩
structure oU (N : Names) (s : St) (c : eE) (cA : Am.eE) (x : E) : Prop where
 ev : Am.ev cA (yw N s.env) (lU x) = gL N (bt c s.env x)
 ok : cK (aC s) s.H.length (bt c s.env x)
 eo : ∀ k xs,bt c s.env x = .own k xs -> xs = []
 na : ∀ cs,bt c s.env x = .agg cs -> bK cs = false
theorem cP (h : eR X φ w N s Ha t) (rY : cA.gl = c.gl) {o : Operand} {x : E} (hk : df o (lU x) = true) : oU N s c cA x := by
 cases x with
 | t i =>
   have hl := Nd i (get s.env i);refine ⟨?_,Ty h i,fun k xs e => ?_,fun cs e => ?_⟩
   ·simp only [lU,Am.ev,bt,lP];rw [<- Ra];generalize eW i (get s.env i) = y at hl;cases y <;> first | rfl | simp [bJ] at hl
   ·simp only [bt] at e; rw [e] at hl; simp [bJ] at hl
   ·simp only [bt] at e; rw [e] at hl; exact hl
 | k a =>
   simp only [lU] at hk;rcases dn_c (ag2 hk) with ⟨k,rfl,e⟩ | ⟨hc,e⟩
   ·exact ⟨rfl,trivial,fun k' xs e => by simp only [bt,AV.own.injEq] at e; exact e.2.symm,fun cs e => by simp [bt] at e⟩
   ·refine ⟨?_,ok_c hc,fun k xs e' => ?_,fun cs e' => ?_⟩
    ·simp only [lU,Am.ev,bt,e];have := tr_c N hc;have hn := abP hc;cases a <;> first | exact this.symm | (simp [bJ] at hn; done)
    ·simp only [bt] at e'; rw [e'] at hc; simp [Ze,sY] at hc
    ·simp only [bt] at e'; rw [e'] at hc; exact AZ hc
 | g i => exact ⟨by simp [lU,Am.ev,bt,gL,cM,rY],trivial,fun k xs e => by simp [bt] at e,fun cs e => by simp [bt] at e⟩
theorem oU.int {x : E} (h : oU N s c cA x) {k : IntKind} {n : Int} (e : bt c s.env x = .int k n) : Am.ev cA (yw N s.env) (lU x) = .int k n := by rw [h.ev,e]; rfl
theorem oU.bool {x : E} (h : oU N s c cA x) {b : Bool} (e : bt c s.env x = .bool b) : Am.ev cA (yw N s.env) (lU x) = .bool b := by rw [h.ev,e]; rfl
theorem rQ (h : eR X φ w N s Ha t) (rY : cA.gl = c.gl) : ∀ {os : List Operand} {xs : List E},jh os (Be xs) = true -> Am.Da cA (yw N s.env) (Be xs) = iy N (dE c s.env xs) /\ kg (aC s) s.H.length (dE c s.env xs)
 | _,[],_ => ⟨rfl,trivial⟩
 | [],x :: r,hk => by simp [Be,jh] at hk
 | o :: os,x :: r,hk => by
   simp only [Be,jh,ae] at hk;obtain ⟨h1,h2⟩ := rQ h rY hk.2;have h3 := cP (c := c) h rY hk.1;exact ⟨by simp only [Be,Am.Da,dE,iy,h1,h3.ev],h3.ok,h2⟩
theorem re (h : eR X φ w N s Ha t) {k : Nat} {p : Rt} {off len : Nat} (ho : cK (aC s) s.H.length (.dG k p off len)) :
  (∃ n,N.ν p = some n /\ cM N (.dG k p off len) = .sl k n (off * k) len) \/ (N.ν p = none /\ off = 0 /\ len = 0 /\ cM N (.dG k p off len) = .dz) := by
 simp only [cK] at ho;obtain ⟨xs,h1,h2⟩ := ho;cases kR : N.ν p with
 | some n => exact .inl ⟨n,rfl,by simp [cM,kR]⟩
 | none =>
   have := h.own p k xs h1;rw [kR] at this;have hx : xs = [] := this;subst hx;simp at h2;exact .inr ⟨rfl,h2.1,h2.2,by simp [cM,kR]⟩
theorem Fh (h : eR X φ w N s Ha t) {k : Nat} {p : Rt} {i off : Nat} (ho : cK (aC s) s.H.length (.fa k p i off)) : ∃ n,N.ν p = some n /\ cM N (.fa k p i off) = .ptr n (i * k + off) := by
 simp only [cK] at ho;obtain ⟨xs,h1,h2⟩ := ho;cases kR : N.ν p with
 | some n => exact ⟨n,rfl,by simp [cM,kR]⟩
 | none =>
   have := h.own p k xs h1;rw [kR] at this;have hx : xs = [] := this;subst hx;simp at h2
end
end Go.Bm

/- Operations that change nothing: the older machine does the same. -/
namespace Go.Bm
open Go.Am
section
variable {P : Program}
theorem agY {op : Op} {y : E} (h : cZ P op (.mv y) = true) : ∃ x,df x y = true := by
 unfold cZ at h; split at h <;> simp_all <;> exact ⟨_,h⟩
theorem aad {op : Op} {a b d : E} (h : cZ P op (.pick a b d) = true) : (∃ x,df x a = true) /\ (∃ x,df x b = true) /\ ∃ x,df x d = true := by
 unfold cZ at h; split at h <;> simp_all; exact ⟨⟨_,h.1.1⟩,⟨_,h.1.2⟩,⟨_,h.2⟩⟩
theorem acC {op : Op} {y : E} (h : cZ P op (.box y) = true) : ∃ x,df x y = true := by
 unfold cZ at h; split at h <;> simp_all; exact ⟨_,h⟩
theorem Wu {op : Op} {y : E} (h : cZ P op (.lK y) = true) : ∃ x,df x y = true := by
 unfold cZ at h; split at h <;> simp_all; exact ⟨_,h⟩
theorem acD {op : Op} {bo : BinOp} {a b : E} (h : cZ P op (.bin bo a b) = true) : (∃ x,df x a = true) /\ ∃ x,df x b = true := by
 unfold cZ at h; split at h <;> simp_all; exact ⟨⟨_,h.1.2⟩,⟨_,h.2⟩⟩
theorem ag1 {op : Op} {ng : Bool} {t : Et} {a b : E} (h : cZ P op (.eq ng t a b) = true) : (∃ x,df x a = true) /\ ∃ x,df x b = true := by
 unfold cZ at h; split at h <;> simp_all; exact ⟨⟨_,h.1.2⟩,⟨_,h.2⟩⟩
theorem agW {op : Op} {uo : UnOp} {y : E} (h : cZ P op (.un uo y) = true) : ∃ x,df x y = true := by
 unfold cZ at h; split at h <;> simp_all; exact ⟨_,h.2⟩
theorem acA {op : Op} {k : IntKind} {y : E} (h : cZ P op (.Ci k y) = true) : ∃ x,df x y = true := by
 unfold cZ at h; split at h <;> simp_all; exact ⟨_,h.2⟩
theorem acp {op : Op} {fn : Fn} {a b : List E} (h : cZ P op (.OS fn a b) = true) : (∃ x,jh x a = true) /\ ∃ x,jh x b = true := by
 unfold cZ at h; split at h <;> simp_all; exact ⟨⟨_,h.1.2⟩,⟨_,h.2⟩⟩
theorem UQ {op : Op} {k : Nat} {zs : List AV} {a b : E} (h : cZ P op (.Hd k zs a b) = true) : (∃ t,jb P t k = true /\ iD P t zs = true) /\ (∃ x,df x a = true) /\ ∃ x,df x b = true := by
 unfold cZ at h; split at h <;> simp_all; exact ⟨⟨_,h.1.1⟩,⟨_,h.1.2⟩,⟨_,h.2⟩⟩
theorem acy {op : Op} {off : Nat} {y : E} (h : cZ P op (.fX off y) = true) : ∃ x,df x y = true := by
 unfold cZ at h; split at h <;> simp_all; exact ⟨_,h.2⟩
theorem UR {op : Op} {n : Nat} {y : E} {hi : Option E} (h : cZ P op (.HK n y hi) = true) : (∃ x,df x y = true) /\ ∀ e,hi = some e -> ∃ x,df x e = true := by
 unfold cZ at h; split at h <;> simp_all
 refine ⟨⟨_,h.2.1⟩,fun e he => ?_⟩;subst he; have := h.2.2; unfold qp at this; split at this <;> simp_all; exact ⟨_,this⟩
theorem acx {op : Op} {off : Nat} {ag : Option Nat} {y : E} (h : cZ P op (.Wi off ag y) = true) : ∃ x,df x y = true := by
 unfold cZ at h; split at h <;> simp_all; exact ⟨_,h.2⟩
theorem acw {op : Op} {k : Nat} {a b : E} (h : cZ P op (.fO k a b) = true) : (∃ x,df x a = true) /\ ∃ x,df x b = true := by
 unfold cZ at h; split at h <;> simp_all; exact ⟨⟨_,h.1.2⟩,⟨_,h.2⟩⟩
theorem acv {op : Op} {n k : Nat} {a b : E} (h : cZ P op (.Cy n k a b) = true) : (∃ x,df x a = true) /\ ∃ x,df x b = true := by
 unfold cZ at h; split at h <;> simp_all; exact ⟨⟨_,h.1.2⟩,⟨_,h.2⟩⟩
theorem ag0 {op : Op} {n k : Nat} {ag : Option Nat} {a b : E} (h : cZ P op (.ix n k ag a b) = true) : (∃ x,df x a = true) /\ ∃ x,df x b = true := by
 unfold cZ at h; split at h <;> simp_all; exact ⟨⟨_,h.1.2⟩,⟨_,h.2⟩⟩
theorem acz {op : Op} {i : Nat} {y : E} (h : cZ P op (.ext i y) = true) : ∃ x,df x y = true := by
 unfold cZ at h; split at h <;> simp_all; exact ⟨_,h.2⟩
theorem acu {op : Op} {tab : List Nat} {y : E} (h : cZ P op (.VY tab y) = true) : ∃ x,df x y = true := by
 unfold cZ at h; split at h <;> simp_all; exact ⟨_,h.2⟩
theorem acs {op : Op} {y : E} (h : cZ P op (.len y) = true) : ∃ x,df x y = true := by
 unfold cZ at h; split at h <;> simp_all
 split at h <;> simp_all; exact ⟨_,h.2⟩
theorem acq {op : Op} {ys : List E} (h : cZ P op (.min ys) = true) : ∃ x,jh x ys = true := by
 unfold cZ at h; split at h <;> simp_all; exact ⟨_,h⟩
theorem acr {op : Op} {ys : List E} (h : cZ P op (.max ys) = true) : ∃ x,jh x ys = true := by
 unfold cZ at h; split at h <;> simp_all; exact ⟨_,h⟩
theorem acn {op : Op} {k : Nat} {y : E} {lo hi : Option E} (h : cZ P op (.yG k y lo hi) = true) : (∃ x,df x y = true) /\ (∀ e,lo = some e -> ∃ x,df x e = true) /\ ∀ e,hi = some e -> ∃ x,df x e = true := by
 unfold cZ at h; split at h <;> simp_all
 refine ⟨⟨_,h.1.1.2⟩,fun e he => ?_,fun e he => ?_⟩
 ·subst he; have := h.1.2; unfold qp at this; split at this <;> simp_all; exact ⟨_,this⟩
 ·subst he; have := h.2; unfold qp at this; split at this <;> simp_all; exact ⟨_,this⟩
theorem wG {place : Nat -> Option (Nat × Nat)} : ∀ {ps : List (Nat × Operand)} {qs : List (Nat × Nat × E)},qm place ps qs = true -> ∀ q ∈ qs,∃ x,df x q.2.2 = true
 | [],[],_,q,hq => by simp at hq
 | [],_ :: _,h,_,_ => by simp [qm] at h
 | _ :: _,[],h,_,_ => by simp [qm] at h
 | p :: r,q :: s,h,q',hq => by
   simp only [qm,ae] at h;rcases aK.1 hq with e | e
   ·subst e; exact ⟨_,h.1.2⟩
   ·exact wG h.2 q' e
theorem Ww {op : Op} {zs : List AV} {ps : List (Nat × Nat × E)} (h : cZ P op (.build zs ps) = true) : (∃ t,nX P t zs = true) /\ ∀ q ∈ ps,∃ x,df x q.2.2 = true := by
 unfold cZ at h; split at h <;> simp_all
 obtain ⟨h1,h2⟩ := h;refine ⟨⟨_,h1⟩,?_⟩;split at h2
 ·simp_all; exact fun a b e hq => wG h2.2 (a,b,e) hq
 ·split at h2
  ·exact fun a b e hq => wG h2 (a,b,e) hq
  ·cases h2
 ·cases h2
theorem QP {op : Op} {k n : Nat} {zs : List AV} {ps : List (Nat × Nat × E)} (h : cZ P op (.dY k n zs ps) = true) : (∃ t,jb P t k = true /\ iD P t zs = true) /\ ∀ q ∈ ps,∃ x,df x q.2.2 = true := by
 unfold cZ at h; split at h <;> simp_all
 exact ⟨⟨_,h.1.1.1.2,h.1.1.2⟩,fun a b e hq => wG h.2 (a,b,e) hq⟩
theorem agZ {op : Op} {ag : Option Nat} {y : E} (h : cZ P op (.ld ag y) = true) : ∃ x,df x y = true := by
 unfold cZ at h; split at h <;> simp_all; exact ⟨_,h.2⟩
theorem agX {op : Op} {k : Nat} {a b : E} (h : cZ P op (.st k a b) = true) : (∃ x,df x a = true) /\ ∃ x,df x b = true := by
 unfold cZ at h; split at h <;> simp_all; exact ⟨⟨_,h.1.2⟩,⟨_,h.2⟩⟩
theorem aco {op : Op} {zs : List AV} (h : cZ P op (.new zs) = true) : ∃ t,nX P t zs = true := by
 unfold cZ at h; split at h <;> simp_all; exact ⟨_,h⟩
theorem acB {op : Op} {k : Nat} {zs : List AV} {y : E} (h : cZ P op (.Ov k zs y) = true) : (∃ t,jb P t k = true /\ iD P t zs = true) /\ ∃ x,df x y = true := by
 unfold cZ at h; split at h <;> simp_all
 split at h <;> simp_all; exact ⟨⟨_,h.1.1,h.1.2⟩,⟨_,h.2⟩⟩
theorem US {op : Op} {k : Nat} {a b : E} (h : cZ P op (.app k a b) = true) : (∃ x,df x a = true) /\ ∃ x,df x b = true := by
 unfold cZ at h; split at h <;> simp_all
 split at h <;> simp_all; exact ⟨⟨_,h.1.2⟩,⟨_,h.2⟩⟩
theorem Oy {op : Op} {k : Nat} {a b : E} (h : cZ P op (.copy k a b) = true) : (∃ x,df x a = true) /\ ∃ x,df x b = true := by
 unfold cZ at h; split at h <;> simp_all
 split at h <;> simp_all; exact ⟨⟨_,h.1.2⟩,⟨_,h.2⟩⟩
theorem rq {t : TypeId} {zs : List AV} (h : nX P t zs = true) : mn zs = true /\ bz zs = true := by
 unfold nX at h;split at h
 ·split at h
  ·simp only [ae] at h; exact ⟨LD h.1,h.2⟩
  ·cases h
 ·cases h
end
end Go.Bm

/- Operations that change nothing: what they give. -/
set_option linter.unusedVariables false
namespace Go.Bm
open Go.Am
section
variable {P : Program} {X : Nat -> Prop} {φ : dy} {w : World} {N : Names} {s : St} {Ha : Heap} {t : Nat -> Value} {c : eE} {cA : Am.eE} {call : Nat -> List AV -> Heap -> Option (AV × Heap)}
theorem rz (N : Names) (cs : List AV) : iy N cs = cs.map (gL N) := by
 induction cs with
 | nil => rfl
 | cons x r ih => simp [iy,ih]
theorem Rc (N : Names) (cs : List AV) : kW N cs = cs.map (cM N) := by
 induction cs with
 | nil => rfl
 | cons x r ih => simp [kW,ih]
theorem oU.EO {x : E} (h : oU N s c cA x) : EO (bt c s.env x) := by
 cases e : bt c s.env x <;> simp only [Go.Bm.EO]
 ·rename_i cs;intro j k xs hj;exfalso;have := h.na cs e;clear e
  induction cs generalizing j with
  | nil => simp at hj
  | cons y r ih =>
    cases j with
    | zero => simp at hj; subst hj; simp [bK] at this
    | succ j => exact ih j (by simpa using hj) (by cases y <;> simp [bK] at this <;> exact this)
 ·exact h.eo _ _ e
theorem oU.evQ {x : E} (h : oU N s c cA x) : Am.ev cA (yw N s.env) (lU x) = vX N (bt c s.env x) := by rw [h.ev,aaE N h.na]
theorem K1 (h : eR X φ w N s Ha t) {x : AV} (hl : x.leaf = true) (hk : cK (aC s) s.H.length x) : (gL N x).leaf = true := by
 cases x <;> first | rfl | (simp [AV.leaf] at hl; done) | skip
 ·rename_i k p off len;simp only [gL,cM];cases N.ν p <;> rfl
 ·rename_i k p i off;obtain ⟨n,_,e⟩ := Fh h hk;simp only [gL,e,AV.leaf]
theorem td (h : eR X φ w N s Ha t) : ∀ {cs : List AV},bz cs = true -> kg (aC s) s.H.length cs -> bz (iy N cs) = true
 | [],_,_ => rfl
 | x :: r,hl,hk => by
   simp only [bz,ae] at hl;simp only [iy,bz,ae];exact ⟨K1 h hl.1 hk.1,td h hl.2 hk.2⟩
theorem GK (N : Names) {x : AV} (hn : ∀ cs,x = .agg cs -> bK cs = false) : (gL N x).cells = iy N x.cells := by
 cases x <;> first | rfl | skip
 ·rename_i cs; simp only [gL,cM,AV.cells]; rw [kv N (hn cs rfl)]
 ·rename_i k p off len;simp only [gL,cM,AV.cells,iy];cases N.ν p <;> rfl
 ·rename_i k p i off;simp only [gL,cM,AV.cells,iy];cases N.ν p <;> rfl
theorem u6 {o : Rt -> Option (Nat × List AV)} {nb : Nat} {x : AV} (h : cK o nb x) : kg o nb x.cells := by
 cases x <;> first | exact ⟨h,trivial⟩ | exact h
theorem MO {o : Rt -> Option (Nat × List AV)} {nb n : Nat} {cs : List AV} (h : kg o nb cs) : kg o nb (cs.take n) :=
 gk.2 fun i c hc => gk.1 h i c (by rw [bF] at hc; split at hc; exact hc; cases hc)
theorem zu {o : Rt -> Option (Nat × List AV)} {nb n : Nat} {cs : List AV} (h : kg o nb cs) : kg o nb (cs.drop n) :=
 gk.2 fun i c hc => gk.1 h (n + i) c (by rw [aU] at hc; exact hc)
theorem qb {o : Rt -> Option (Nat × List AV)} {nb : Nat} : ∀ {cs ds : List AV},kg o nb cs -> kg o nb ds -> kg o nb (cs ++ ds)
 | [],_,_,h => h
 | x :: r,_,h,k => ⟨h.1,qb h.2 k⟩
theorem abq {o : Rt -> Option (Nat × List AV)} {nb off : Nat} {cs ds : List AV} (h : kg o nb cs) (k : kg o nb ds) : kg o nb (jv cs off ds) := qb (qb (MO h) k) (zu h)
theorem aeV (N : Names) (cs ds : List AV) (off : Nat) : iy N (jv cs off ds) = jv (iy N cs) off (iy N ds) := by
 simp only [rz,jv,List.map_append,List.map_take,List.map_drop,gF]
def U8 (cs : List AV) : Prop := ∀ (j k : Nat) (xs : List AV),cs[j]? = some (.own k xs) -> xs = []
theorem U8.jv {cs ds : List AV} {off : Nat} (h : U8 cs) (k : U8 ds) : U8 (Am.jv cs off ds) := by
 intro j kk xs hj;have := bg hj;simp only [Am.jv,aG] at this
 have mem : ∀ {l : List AV},U8 l -> (.own kk xs) ∈ l -> xs = [] := fun hl hm => by
  obtain ⟨i,hi⟩ := bG hm;exact hl i _ _ hi
 rcases this with (hm | hm) | hm
 ·exact mem h (c8 hm)
 ·exact mem k hm
 ·exact mem h (c9 hm)
theorem oU.U8 {x : E} (h : oU N s c cA x) : U8 (bt c s.env x).cells := by
 have he := h.EO;cases e : bt c s.env x <;> rw [e] at he <;> simp only [AV.cells] <;> first | exact he | skip
 all_goals
  intro j k xs hj;cases j with
  | zero => simp at hj <;> exact hj.2 ▸ (by first | exact he | exact he)
  | succ j => simp at hj
theorem qR (h : eR X φ w N s Ha t) (rY : cA.gl = c.gl) : ∀ {ps : List (Nat × Nat × E)} {zs cs : List AV},(∀ q ∈ Og ps,∃ x,df x q.2.2 = true) -> kg (aC s) s.H.length zs -> U8 zs -> oY c s.env zs ps = some cs ->
  nK cA (yw N s.env) (iy N zs) (Og ps) = some (iy N cs) /\ kg (aC s) s.H.length cs /\ U8 cs /\ cs.length = zs.length
 | [],zs,cs,_,hz,he,hf => by simp [oY] at hf; subst hf; exact ⟨rfl,hz,he,rfl⟩
 | (off,sz,x) :: r,zs,cs,hq,hz,he,hf => by
   simp only [oY] at hf;split at hf
   case isFalse => cases hf
   rename_i hc;obtain ⟨c1,c2,c3⟩ := hc;obtain ⟨o,ho⟩ := hq (off,sz,lU x) (by simp [Og]);have hx := cP (c := c) (cA := cA) h rY ho;have mq := GK N hx.na;obtain ⟨k1,k2,k3,k4⟩ := qR h rY (ps := r) (fun q hq' => hq q (by simp [Og,hq'])) (abq hz (u6 hx.ok)) (he.jv hx.U8) hf;refine ⟨?_,k2,k3,?_⟩
   ·simp only [Og,nK,hx.ev,mq];rw [if_pos ⟨by rw [jf]; exact c1,by rw [jf]; exact c2,td h c3 (u6 hx.ok)⟩,<- aeV];exact k1
   ·rw [k4]; exact gC (by omega)
theorem zW (N : Names) : ∀ {zs : List AV},mn (s6 zs) = true -> s6 zs = iy N zs /\ U8 zs
 | [],_ => ⟨rfl,fun j k xs h => by simp at h⟩
 | x :: r,h => by
   simp only [s6,mn,ae] at h;obtain ⟨h1,h2⟩ := zW N h.2;rcases dn_c (zH h.1) with ⟨k,rfl,e⟩ | ⟨hc,e⟩
   ·refine ⟨by simp only [s6,iy,h1,e,gL],fun j k xs hj => ?_⟩;cases j with
    | zero => simp at hj; exact hj.2
    | succ j => exact h2 j k xs (by simpa using hj)
   ·rw [e] at h;refine ⟨?_,fun j k xs hj => ?_⟩
    ·simp only [s6,iy,h1,e];congr 1;have := Xi N h.1;cases x <;> first | exact this.symm | (simp [sY] at h; done)
    ·cases j with
     | zero => simp at hj; subst hj; simp [sY] at h
     | succ j => exact h2 j k xs (by simpa using hj)
theorem zp {o : Rt -> Option (Nat × List AV)} {nb : Nat} : ∀ {zs : List AV},mn (s6 zs) = true -> kg o nb zs
 | [],_ => trivial
 | x :: r,h => by
   simp only [s6,mn,ae] at h;rcases dn_c (zH h.1) with ⟨k,rfl,e⟩ | ⟨hc,e⟩
   ·exact ⟨trivial,zp h.2⟩
   ·exact ⟨ok_c hc,zp h.2⟩
theorem QA (N : Names) : ∀ {l : List Bool} {xs ys : List AV} {e : Bool},zT l xs ys = some e -> zT l (iy N xs) (iy N ys) = some e
 | [],[],[],e,h => h
 | true :: l,x :: r,y :: s,e,h => by
   cases x <;> try (simp [zT] at h; done)
   cases y <;> try (simp [zT] at h; done)
   simp only [zT,iy,gL,cM] at h ⊢;split at h
   ·rename_i hk;rw [if_pos hk];split at h
    ·rename_i e' he;rw [QA N he];exact h
    ·cases h
   ·cases h
 | false :: l,x :: r,y :: s,e,h => by
   cases x <;> try (simp [zT] at h; done)
   cases y <;> try (simp [zT] at h; done)
   simp only [zT,iy,gL,cM] at h ⊢;split at h
   ·rename_i e' he;rw [QA N he];exact h
   ·cases h
 | [],x :: r,ys,e,h => by simp [zT] at h
 | [],[],y :: s,e,h => by simp [zT] at h
 | b :: l,[],ys,e,h => by cases b <;> simp [zT] at h
 | b :: l,x :: r,[],e,h => by cases b <;> cases x <;> simp [zT] at h
theorem TW (N : Names) (mx : Bool) : ∀ {xs : List AV} {x v : AV},xT mx x xs = some v -> (∃ k n,x = .int k n) -> xT mx x (iy N xs) = some v /\ ∃ k n,v = .int k n
 | [],x,v,h,hx => by simp [xT] at h; subst h; exact ⟨rfl,hx⟩
 | y :: r,x,v,h,hx => by
   obtain ⟨k,n,rfl⟩ := hx;cases y <;> try (simp [xT] at h; done)
   simp only [xT,iy,gL,cM] at h ⊢;exact TW N mx h ⟨_,_,rfl⟩
theorem TX (N : Names) {mx : Bool} {xs : List AV} {v : AV} (h : wO mx xs = some v) : wO mx (iy N xs) = some v /\ ∃ k n,v = .int k n := by
 cases xs with
 | nil => simp [wO] at h
 | cons y r =>
   cases y <;> try (simp [wO] at h; done)
   simp only [wO,iy,gL,cM] at h ⊢;exact TW N mx h ⟨_,_,rfl⟩
theorem acR {op : BinOp} {x y v : AV} (h : jz op x y = some v) : (∃ k n,x = .int k n) /\ (∃ k n,y = .int k n) /\ ((∃ k n,v = .int k n) \/ ∃ b,v = .bool b) := by
 unfold jz at h;split at h
 case h_2 => cases h
 refine ⟨⟨_,_,rfl⟩,⟨_,_,rfl⟩,?_⟩;split at h
 ·split at h
  ·cases h
  ·simp at h; exact .inl ⟨_,_,h.symm⟩
 ·split at h
  ·cases h
  ·simp at h; exact .inl ⟨_,_,h.symm⟩
 ·split at h
  ·unfold arith at h
   split at h <;> first
    | (simp at h; exact .inl ⟨_,_,h.symm⟩)
    | (simp at h; exact .inr ⟨_,h.symm⟩)
    | (split at h
       ·cases h
       ·simp at h; exact .inl ⟨_,_,h.symm⟩)
    | cases h
  ·cases h
theorem Mm {v : AV} (h : (∃ k n,v = .int k n) \/ ∃ b,v = .bool b) (o : Rt -> Option (Nat × List AV)) (nb : Nat) : vX N v = v /\ cK o nb v /\ EO v := by
 rcases h with ⟨k,n,rfl⟩ | ⟨b,rfl⟩ <;> exact ⟨rfl,trivial,trivial⟩
theorem Pz (N : Names) {ag : Option Nat} {cs : List AV} {v : AV} {o : Rt -> Option (Nat × List AV)} {nb : Nat} (h : J3 ag cs = some v) (hk : kg o nb cs) : Al ag (kW N cs) = some (vX N v) /\ cK o nb v /\ EO v /\ bJ v = false := by
 unfold J3 at h;split at h
 case h_2 => cases h
 rename_i v' hr;split at h
 ·cases h
 rename_i ho;simp at h ho;subst h
 have he : EO v' := by
  cases v' <;> simp only [EO] <;> try (simp [bJ] at ho; done)
  rename_i ds;intro j k xs hj;exfalso;simp only [bJ] at ho;clear hr
  induction ds generalizing j with
  | nil => simp at hj
  | cons y r ih =>
    cases j with
    | zero => simp at hj; subst hj; simp [bK] at ho
    | succ j => exact ih (by cases y <;> simp [bK] at ho <;> exact ho) j (by simpa using hj)
 unfold Al at hr ⊢;cases ag with
 | some k =>
   simp only at hr ⊢;split at hr
   case isFalse => cases hr
   rename_i hle;simp at hr;subst hr;rw [if_pos (by rw [dI]; exact hle),kG N ho];exact ⟨by simp only [cM,Rc,List.map_take],MO hk,he,ho⟩
 | none =>
   simp only at hr ⊢;cases cs with
   | nil => cases hr
   | cons x r =>
     simp at hr;subst hr;rw [kG N ho];exact ⟨by simp [kW],hk.1,he,ho⟩
theorem Dq (N : Names) (cs : List AV) (n : Nat) : (kW N cs).drop n = kW N (cs.drop n) := by simp only [Rc,List.map_drop]
end
end Go.Bm

/- Operations that change nothing: the older machine does the same. -/
namespace Go.Bm
open Go.Am
section
variable {P : Program} {X : Nat -> Prop} {φ : dy} {w : World} {N : Names} {s : St} {Ha : Heap} {t : Nat -> Value} {c : eE} {cA : Am.eE} {call : Nat -> List AV -> Heap -> Option (AV × Heap)}
theorem QR (h : eR X φ w N s Ha t) (rY : cA.gl = c.gl) {d m n : Nat} {x : Option E} (hk : ∀ e,dnO x = some e -> ∃ o,df o e = true) (hb : yk c s.env d m x = some n) : zY cA (yw N s.env) d m (dnO x) = some n := by
 cases x with
 | none => exact hb
 | some x =>
   obtain ⟨o,ho⟩ := hk _ rfl;simp only [yk] at hb;simp only [dnO,zY];cases e : bt c s.env x <;> rw [e] at hb <;> try (simp [bnd] at hb; done)
   rw [(cP (c := c) (cA := cA) h rY ho).int e];exact hb
theorem A4 {x : AV} {n m : Nat} (h : idx x n = some m) : ∃ k i,x = .int k i /\ idx (.int k i) n = some m /\ m < n := by
 unfold idx at h;split at h
 ·rename_i k i;refine ⟨k,i,rfl,h,?_⟩;split at h
  ·simp at h; omega
  ·cases h
 ·cases h
theorem T1 (h : eR X φ w N s Ha t) {x : E} (hx : oU N s c cA x) {n : Nat} (hl : sW (bt c s.env x) = some n) : Y1 (Am.ev cA (yw N s.env) (lU x)) = some n := by
 rw [hx.ev];have hk := hx.ok;cases e : bt c s.env x <;> rw [e] at hl hk <;> try (simp [sW] at hl; done)
 ·exact hl
 ·exact hl
 ·exact hl
 ·rename_i k xs;have := hx.eo k xs e;subst this;exact hl
 ·rename_i k p off len;simp only [sW] at hl;cases hl;simp only [gL];rcases re h hk with ⟨m,_,e2⟩ | ⟨_,_,rfl,e2⟩ <;> rw [e2] <;> rfl
theorem afO (h : eR X φ w N s Ha t) (rY : cA.gl = c.gl) {op : Op} {kd : Kd} {v : AV} (hk : cZ P op (lS kd) = true) (hs : PE c s.env kd = some v) :
  fW cA call (yw N s.env) Ha (lS kd) = some (vX N v,Ha,.no) /\ cK (aC s) s.H.length v /\ EO v := by
 cases kd <;> simp only [PE,reduceCtorEq] at hs <;> simp only [lS] at hk ⊢
 case mv x =>
  obtain ⟨o,ho⟩ := agY hk;have hx := cP (c := c) (cA := cA) h rY ho;simp at hs;subst hs;exact ⟨by simp only [fW,hx.evQ],hx.ok,hx.EO⟩
 case pick x a b =>
  obtain ⟨⟨o1,h1⟩,⟨o2,h2⟩,o3,h3⟩ := aad hk;have hx := cP (c := c) (cA := cA) h rY h1;have ha := cP (c := c) (cA := cA) h rY h2;have hb := cP (c := c) (cA := cA) h rY h3;split at hs
  case h_2 => cases hs
  rename_i b' he;simp at hs;subst hs;simp only [fW,hx.bool he];cases b'
  ·exact ⟨by simp [hb.evQ],by simpa using hb.ok,by simpa using hb.EO⟩
  ·exact ⟨by simp [ha.evQ],by simpa using ha.ok,by simpa using ha.EO⟩
 case build zs ps =>
  obtain ⟨⟨t,ht⟩,hq⟩ := Ww hk;obtain ⟨e1,e2⟩ := zW N (rq ht).1;split at hs
  case h_2 => cases hs
  rename_i cs hf;simp at hs;subst hs;obtain ⟨k1,k2,k3,k4⟩ := qR (cA := cA) h rY hq (zp (rq ht).1) e2 hf;rw [e1];exact ⟨by simp only [fW,k1,vX],k2,k3⟩
 case lK x =>
  obtain ⟨o,ho⟩ := Wu hk;have hx := cP (c := c) (cA := cA) h rY ho;have dg := hx.ok;simp only [fW,hx.ev];cases e : bt c s.env x <;> rw [e] at hs dg <;> try (simp at hs; done)
  ·simp at hs; subst hs; exact ⟨rfl,trivial,trivial⟩
  ·simp at hs; subst hs; exact ⟨rfl,dg,trivial⟩
  ·rename_i f a b;cases f <;> simp at hs
   subst hs;exact ⟨rfl,dg,trivial⟩
 case bin op' x y =>
  obtain ⟨⟨o1,h1⟩,o2,h2⟩ := acD hk;have hx := cP (c := c) (cA := cA) h rY h1;have hy := cP (c := c) (cA := cA) h rY h2;obtain ⟨⟨k1,n1,e1⟩,⟨k2,n2,e2⟩,hv⟩ := acR hs;obtain ⟨q1,q2,q3⟩ := Mm (N := N) hv (aC s) s.H.length;rw [e1,e2] at hs;simp only [fW,hx.int e1,hy.int e2,hs,q1];exact ⟨trivial,q2,q3⟩
 case eq ng et x y =>
  obtain ⟨⟨o1,h1⟩,o2,h2⟩ := ag1 hk;have hx := cP (c := c) (cA := cA) h rY h1;have hy := cP (c := c) (cA := cA) h rY h2;split at hs
  case h_2 => cases hs
  rename_i e he;simp at hs;subst hs;refine ⟨?_,trivial,trivial⟩
  have : Wk et (Am.ev cA (yw N s.env) (lU x)) (Am.ev cA (yw N s.env) (lU y)) = some e := by
   rw [hx.ev,hy.ev];have hxk := hx.ok;unfold eqB at he;split at he
   ·rename_i a b e1 e2; rw [e1,e2]; exact he
   ·rename_i l xs ys e1 e2;have n1 := hx.na _ e1;have n2 := hy.na _ e2;rw [e1,e2];simp only [gL,cM,Wk];rw [<- kv N n1,<- kv N n2];exact QA N he
   ·rename_i z k e2;rw [e2];simp only [gL];cases e1 : bt c s.env x <;> rw [e1] at he hxk <;> try (simp [iq] at he; done)
    ·simpa [iq,Wk,isNil,gL,cM] using he
    ·rename_i k' xs;cases xs with
     | nil => simp [iq] at he
     | cons u r => simpa [iq,Wk,isNil,gL,cM] using he
    ·simpa [iq,Wk,isNil,gL,cM] using he
    ·rename_i k' p off len;simp only [iq] at he;split at he
     ·cases he
     ·rename_i hlen;simp at he;subst he;simp only [gL];rcases re h hxk with ⟨m,_,e3⟩ | ⟨_,_,h0,_⟩
      ·rw [e3]; rfl
      ·exact absurd h0 hlen
   ·rename_i z e2;rw [e2];simp only [gL];cases e1 : bt c s.env x <;> rw [e1] at he hxk <;> try (simp [iq] at he; done)
    ·simpa [iq,Wk,isNil,gL,cM] using he
    ·rename_i k' xs;cases xs with
     | nil => simp [iq] at he
     | cons u r => simpa [iq,Wk,isNil,gL,cM] using he
    ·simpa [iq,Wk,isNil,gL,cM] using he
    ·rename_i k' p off len;simp only [iq] at he;split at he
     ·cases he
     ·rename_i hlen;simp at he;subst he;simp only [gL];rcases re h hxk with ⟨m,_,e3⟩ | ⟨_,_,h0,_⟩
      ·rw [e3]; rfl
      ·exact absurd h0 hlen
   ·rename_i z e2;rw [e2];cases e1 : bt c s.env x <;> rw [e1] at he <;> try (simp [iq] at he; done)
    all_goals simpa [iq,Wk,isNil,gL,cM] using he
   ·rename_i z e2;rw [e2];cases e1 : bt c s.env x <;> rw [e1] at he <;> try (simp [iq] at he; done)
    all_goals simpa [iq,Wk,isNil,gL,cM] using he
   ·cases he
  simp only [fW,this,vX,cM]
 case un uo x =>
  obtain ⟨o,ho⟩ := agW hk;have hx := cP (c := c) (cA := cA) h rY ho;simp only [fW,hx.ev];cases e : bt c s.env x <;> rw [e] at hs <;> try (cases uo <;> simp [Pg] at hs; done)
  ·have : (∃ k n,v = .int k n) \/ ∃ b,v = .bool b := by
    cases uo <;> simp [Pg] at hs
    ·exact .inl ⟨_,_,hs.symm⟩
    ·exact .inl ⟨_,_,hs.symm⟩
   obtain ⟨q1,q2,q3⟩ := Mm (N := N) this (aC s) s.H.length;simp only [gL,cM,hs,q1];exact ⟨trivial,q2,q3⟩
  ·have : (∃ k n,v = .int k n) \/ ∃ b,v = .bool b := by
    cases uo <;> simp [Pg] at hs
    exact .inr ⟨_,hs.symm⟩
   obtain ⟨q1,q2,q3⟩ := Mm (N := N) this (aC s) s.H.length;simp only [gL,cM,hs,q1];exact ⟨trivial,q2,q3⟩
 case Ci k x =>
  obtain ⟨o,ho⟩ := acA hk;have hx := cP (c := c) (cA := cA) h rY ho;split at hs
  case h_2 => cases hs
  rename_i k' n e;simp at hs;subst hs;simp only [fW,hx.int e];exact ⟨rfl,trivial,trivial⟩
 case OS fn a b =>
  obtain ⟨⟨o1,h1⟩,o2,h2⟩ := acp hk;obtain ⟨a1,a2⟩ := rQ (cA := cA) h rY h1;obtain ⟨b1,b2⟩ := rQ (cA := cA) h rY h2;split at hs
  ·cases hs
  rename_i ho;simp at hs ho;subst hs
  have sp : ∀ {xs ys : List AV},bK (xs ++ ys) = false -> bK xs = false /\ bK ys = false := by
   intro xs
   induction xs with
   | nil => intro ys h; exact ⟨rfl,h⟩
   | cons z r ih =>
     intro ys h;cases z <;> simp [bK] at h ⊢ <;> exact ih h
  obtain ⟨p1,p2⟩ := sp ho;refine ⟨?_,⟨a2,b2⟩,trivial⟩;simp only [fW,a1,b1,vX,cM,kv N p1,kv N p2]
 case yG k x lo hi =>
  obtain ⟨⟨o,ho⟩,h1,h2⟩ := acn hk;have hx := cP (c := c) (cA := cA) h rY ho;have dg := hx.ok;split at hs
  case h_2 => cases hs
  rename_i n hn;split at hs
  case h_2 => cases hs
  rename_i hh hhh;split at hs
  case h_2 => cases hs
  rename_i l hl;have g1 := T1 h hx hn;have g2 := QR h rY h2 hhh;have g3 := QR h rY h1 hl
  have bb : ∀ {d m n : Nat} {x : Option E},yk c s.env d m x = some n -> d <= m -> n <= m := by
   intro d m n x hb hd;cases x with
   | none => simp [yk] at hb; omega
   | some x =>
     simp only [yk] at hb;unfold bnd at hb;split at hb
     ·split at hb
      ·simp at hb; omega
      ·cases hb
     ·cases hb
  have l1 := bb hhh (aT _);have l2 := bb hl (Nat.zero_le _);simp only [fW,g1,g2,g3];rw [hx.ev];cases e : bt c s.env x <;> rw [e] at hs dg hn <;> try (simp at hs; done)
  ·rename_i k' xs;simp only at hs;split at hs
   case isFalse => cases hs
   rename_i sK;simp at hs;subst hs;simp only [gL,cM];rw [if_pos sK];exact ⟨rfl,trivial,trivial⟩
  ·rename_i k' b off len;simp only at hs;split at hs
   case isFalse => cases hs
   rename_i sK;simp at hs;subst hs;simp only [gL,cM];rw [if_pos sK];exact ⟨rfl,dg,trivial⟩
  ·rename_i k' xs;have := hx.eo k' xs e;subst this;simp only at hs;split at hs
   case isFalse => cases hs
   simp at hs;subst hs;exact ⟨rfl,trivial,rfl⟩
  ·rename_i k' p off len;simp only at hs;split at hs
   case isFalse => cases hs
   rename_i sK;subst sK;simp at hs;subst hs;simp only [sW,ah] at hn;subst hn
   have Zr : cK (aC s) s.H.length (.dG k' p (off + l) (hh - l)) := by
    simp only [cK] at dg ⊢;obtain ⟨xs,e1,e2⟩ := dg;exact ⟨xs,e1,by omega⟩
   refine ⟨?_,Zr,trivial⟩;simp only [gL];rcases re h dg with ⟨m,hm,e3⟩ | ⟨hm,e0,e1,e3⟩
   ·rw [e3];simp only [if_true,vX,cM,hm,cF]
   ·rw [e3];simp only [vX,cM,hm]
 case fX off x =>
  obtain ⟨o,ho⟩ := acy hk;have hx := cP (c := c) (cA := cA) h rY ho;have dg := hx.ok;simp only [fW,hx.ev];cases e : bt c s.env x <;> rw [e] at hs dg <;> try (simp at hs; done)
  ·simp at hs; subst hs; exact ⟨rfl,trivial,trivial⟩
  ·simp at hs; subst hs; exact ⟨rfl,dg,trivial⟩
  ·rename_i k p i o';simp at hs;subst hs;have Zr : cK (aC s) s.H.length (.fa k p i (o' + off)) := dg;refine ⟨?_,Zr,trivial⟩;obtain ⟨m,hm,e2⟩ := Fh h dg;simp only [gL,e2,vX,cM,hm,Nat.add_assoc]
 case HK n x hi =>
  cases hi with
  | some y => simp at hs
  | none =>
  obtain ⟨⟨o,ho⟩,_⟩ := UR hk;have hx := cP (c := c) (cA := cA) h rY ho;have dg := hx.ok;simp only [fW,hx.ev,dnO,zY];simp only at hs;cases e : bt c s.env x <;> rw [e] at hs dg <;> try (simp at hs; done)
  rename_i cs;simp only at hs;split at hs
  case isFalse => cases hs
  rename_i hc;simp at hs;subst hs;simp only [gL,cM];rw [if_pos ⟨hc.1,trivial,hc.2⟩];exact ⟨rfl,trivial,trivial⟩
 case Wi off ag x =>
  obtain ⟨o,ho⟩ := acx hk;have hx := cP (c := c) (cA := cA) h rY ho;have dg := hx.ok;simp only [fW,hx.ev];cases e : bt c s.env x <;> rw [e] at hs dg <;> try (simp at hs; done)
  rename_i cs;simp only at hs;obtain ⟨r1,r2,r3,_⟩ := Pz N hs (zu (n := off) dg);simp only [gL,cM,Dq,r1];exact ⟨trivial,r2,r3⟩
 case fO k x i =>
  obtain ⟨⟨o1,h1⟩,o2,h2⟩ := acw hk;have hx := cP (c := c) (cA := cA) h rY h1;have hi := cP (c := c) (cA := cA) h rY h2;have dg := hx.ok;simp only [fW,hx.ev];cases e : bt c s.env x <;> rw [e] at hs dg <;> try (simp at hs; done)
  ·rename_i k' xs;simp only at hs;split at hs
   case h_2 => cases hs
   rename_i j hj;obtain ⟨ki,ni,e2,Qj,_⟩ := A4 hj;split at hs
   case isFalse => cases hs
   rename_i sK;split at hs
   case h_2 => cases hs
   rename_i u hu;simp at hs;subst hs;simp only [gL,cM,hi.int e2,Qj,if_pos sK,hu];exact ⟨rfl,trivial,trivial⟩
  ·rename_i k' b off len;simp only at hs;split at hs
   case h_2 => cases hs
   rename_i j hj;obtain ⟨ki,ni,e2,Qj,_⟩ := A4 hj;split at hs
   case isFalse => cases hs
   rename_i sK;simp at hs;subst hs;simp only [gL,cM,hi.int e2,Qj,if_pos sK];exact ⟨rfl,dg,trivial⟩
  ·rename_i k' p off len;simp only at hs;split at hs
   case h_2 => cases hs
   rename_i j hj;obtain ⟨ki,ni,e2,Qj,bL⟩ := A4 hj;split at hs
   case isFalse => cases hs
   rename_i sK;subst sK;simp at hs;subst hs;simp only [gL];rcases re h dg with ⟨m,hm,e3⟩ | ⟨_,_,h0,_⟩
   ·rw [e3];simp only [hi.int e2,Qj,if_true,vX,cM,hm,cF,Nat.add_zero];refine ⟨trivial,?_,trivial⟩;simp only [cK] at dg ⊢;obtain ⟨xs,q1,q2⟩ := dg;exact ⟨xs,q1,by omega⟩
   ·omega
 case Cy n k x i =>
  obtain ⟨⟨o1,h1⟩,o2,h2⟩ := acv hk;have hx := cP (c := c) (cA := cA) h rY h1;have hi := cP (c := c) (cA := cA) h rY h2;have dg := hx.ok;split at hs
  case h_2 => cases hs
  rename_i j hj;obtain ⟨ki,ni,e2,Qj,_⟩ := A4 hj;simp only [fW,hi.int e2,Qj,hx.ev];cases e : bt c s.env x <;> rw [e] at hs dg <;> try (simp at hs; done)
  ·simp at hs; subst hs; exact ⟨rfl,trivial,trivial⟩
  ·simp at hs; subst hs; exact ⟨rfl,dg,trivial⟩
  ·rename_i k' p l off;simp at hs;subst hs;have Zr : cK (aC s) s.H.length (.fa k' p l (off + j * k)) := dg;refine ⟨?_,Zr,trivial⟩;obtain ⟨m,hm,e3⟩ := Fh h dg;simp only [gL,e3,vX,cM,hm,Nat.add_assoc]
 case ix n k ag x i =>
  obtain ⟨⟨o1,h1⟩,o2,h2⟩ := ag0 hk;have hx := cP (c := c) (cA := cA) h rY h1;have hi := cP (c := c) (cA := cA) h rY h2;have dg := hx.ok;split at hs
  case h_2 => cases hs
  rename_i j hj;obtain ⟨ki,ni,e2,Qj,_⟩ := A4 hj;simp only [fW,hi.int e2,Qj,hx.ev];cases e : bt c s.env x <;> rw [e] at hs dg <;> try (simp at hs; done)
  rename_i cs;simp only at hs;obtain ⟨r1,r2,r3,_⟩ := Pz N hs (zu (n := j * k) dg);simp only [gL,cM,Dq,r1];exact ⟨trivial,r2,r3⟩
 case ext i x =>
  obtain ⟨o,ho⟩ := acz hk;have hx := cP (c := c) (cA := cA) h rY ho;have dg := hx.ok;simp only [fW,hx.ev];cases e : bt c s.env x <;> rw [e] at hs dg <;> try (simp at hs; done)
  rename_i vs;simp only at hs;split at hs
  case h_2 => cases hs
  rename_i u hu;split at hs
  ·cases hs
  rename_i iK;simp at hs iK;subst hs;simp only [gL,cM,lx,hu,dc];refine ⟨by rw [kG N iK],gk.1 dg i u hu,?_⟩;cases u <;> simp only [EO] <;> try (simp [bJ] at iK; done)
  rename_i ds;intro j k xs hj;exfalso;simp only [bJ] at iK;clear hu
  induction ds generalizing j with
  | nil => simp at hj
  | cons y r ih =>
    cases j with
    | zero => simp at hj; subst hj; simp [bK] at iK
    | succ j => exact ih (by cases y <;> simp [bK] at iK <;> exact iK) j (by simpa using hj)
 case VY tab i =>
  obtain ⟨o,ho⟩ := acu hk;have hi := cP (c := c) (cA := cA) h rY ho;split at hs
  case h_2 => cases hs
  rename_i j hj;obtain ⟨ki,ni,e2,Qj,_⟩ := A4 hj;split at hs
  case h_2 => cases hs
  rename_i u hu;simp at hs;subst hs;simp only [fW,hi.int e2,Qj,hu];exact ⟨rfl,trivial,trivial⟩
 case len x =>
  obtain ⟨o,ho⟩ := acs hk;have hx := cP (c := c) (cA := cA) h rY ho;split at hs
  case h_2 => cases hs
  rename_i n hn;simp at hs;subst hs;simp only [fW,T1 h hx hn];exact ⟨rfl,trivial,trivial⟩
 case min xs =>
  obtain ⟨o,ho⟩ := acq hk;obtain ⟨a1,a2⟩ := rQ (cA := cA) h rY ho;obtain ⟨m1,m2⟩ := TX N hs;obtain ⟨q1,q2,q3⟩ := Mm (N := N) (.inl m2) (aC s) s.H.length;simp only [fW,a1,m1,q1];exact ⟨trivial,q2,q3⟩
 case max xs =>
  obtain ⟨o,ho⟩ := acr hk;obtain ⟨a1,a2⟩ := rQ (cA := cA) h rY ho;obtain ⟨m1,m2⟩ := TX N hs;obtain ⟨q1,q2,q3⟩ := Mm (N := N) (.inl m2) (aC s) s.H.length;simp only [fW,a1,m1,q1];exact ⟨trivial,q2,q3⟩
end
end Go.Bm

/- A value in hand; operations that read and make. -/
namespace Go.Bm
open Go.Am
section
variable {P : Program} {X : Nat -> Prop} {φ : dy} {w : World} {N N' : Names} {s : St} {Ha : Heap} {t t' : Nat -> Value} {B : Nat -> Nat} {base : Nat} {v : AV} {v' : Value}
theorem Dp (eO : N'.β = N.β) {x : AV} (h : ∀ p ∈ aP x,N'.ν p = N.ν p) : cM N' x = cM N x := by
 have e := Xg (N := N) (N' := N') (m := id) (g := fun y => y) eO (fun _ _ _ _ => ⟨rfl,rfl⟩) x h;have : cN (fun y => y) x = x := qN (m := id) (fun _ _ _ _ => ⟨rfl,rfl⟩) x (fun _ _ => rfl)
 rwa [this] at e
theorem HT (eO : N'.β = N.β) {r : Rt} {x : AV} (hr : ∀ k xs,x = .own k xs -> N'.ν r = N.ν r) (h : ∀ p ∈ aP x,N'.ν p = N.ν p) : jF N' r x = jF N r x := by
 have e := xt (N := N) (N' := N') (m := id) (g := fun y => y) eO (fun _ _ _ _ => ⟨rfl,rfl⟩) (r := r) (r' := r) hr h;have : cN (fun y => y) x = x := qN (m := id) (fun _ _ _ _ => ⟨rfl,rfl⟩) x (fun _ _ => rfl)
 rwa [this] at e
theorem Vp (eO : N'.β = N.β) {i : Nat} {x : AV} (h1 : N'.ν (.s i) = N.ν (.s i)) (h2 : ∀ j,N'.ν (.sc i j) = N.ν (.sc i j)) (h : ∀ p ∈ aP x,N'.ν p = N.ν p) : ku N' i x = ku N i x := by
 have e := JU (N := N) (N' := N') (m := id) (g := fun y => y) eO (fun _ _ _ _ => ⟨rfl,rfl⟩) (i := i) (i' := i) h1 h2 h;have : cN (fun y => y) x = x := qN (m := id) (fun _ _ _ _ => ⟨rfl,rfl⟩) x (fun _ _ => rfl)
 rwa [this] at e
theorem eR.dG (h : eR X φ w N s Ha t) {r : Rt} {x : AV} (hx : at_ s r = some x) : ∀ p ∈ aP x,(aC s p).isSome := AK x (h.zr hx)
theorem ahf {i : Nat} (hi : get s.env i = .any) {q : Rt} (hq : bD i q = false) : at_ ⟨put s.env i v,s.H⟩ q = at_ s q := by
 cases q with
 | s j => simp only [bD,decide_eq_false_iff_not] at hq; simp [at_,bE,hq]
 | sc j l => simp only [bD,decide_eq_false_iff_not] at hq; simp [at_,bE,hq]
 | c b j => rfl
theorem mE {i : Nat} (hi : get s.env i = .any) {q : Rt} (hq : bD i q = false) : aC ⟨put s.env i v,s.H⟩ q = aC s q := iA (ahf hi hq)
theorem UZ {i : Nat} (hi : get s.env i = .any) {q : Rt} (hq : bD i q = true) : aC s q = none := by
 have ho : bJ (get s.env i) = false := by rw [hi]; rfl
 obtain ⟨h1,h2⟩ := dV ho;cases q with
 | s j => simp only [bD,decide_eq_true_eq] at hq; subst hq; exact h1
 | sc j l => simp only [bD,decide_eq_true_eq] at hq; subst hq; exact h2 l
 | c b j => simp [bD] at hq
mutual
theorem jw {o o' : Rt -> Option (Nat × List AV)} {nb IP : Nat} (ho : ∀ p,(o p).isSome -> o' p = o p) (hn : nb <= IP) : ∀ x,cK o nb x -> cK o' IP x
 | .dG k p off len,h => by simp only [cK] at h ⊢; obtain ⟨xs,e,h2⟩ := h; exact ⟨xs,by rw [ho p (by rw [e]; rfl)]; exact e,h2⟩
 | .fa k p i off,h => by simp only [cK] at h ⊢; obtain ⟨xs,e,h2⟩ := h; exact ⟨xs,by rw [ho p (by rw [e]; rfl)]; exact e,h2⟩
 | .ptr b off,h => by simp only [cK] at h ⊢; omega
 | .agg cs,h => by simp only [cK] at h ⊢; exact u9 ho hn cs h
 | .dB cs,h => by simp only [cK] at h ⊢; exact u9 ho hn cs h
 | .func f a b,h => by simp only [cK] at h ⊢; exact ⟨u9 ho hn a h.1,u9 ho hn b h.2⟩
 | .any,_ => trivial
 | .undef,_ => trivial
 | .fy,_ => trivial
 | .fD,_ => trivial
 | .dz,_ => trivial
 | .int _ _,_ => trivial
 | .bool _,_ => trivial
 | .str _,_ => trivial
 | .list _ _,_ => trivial
 | .dw _,_ => trivial
 | .own _ _,_ => trivial
 | .sl _ b _ _,h => by simp only [cK] at h ⊢; omega
theorem u9 {o o' : Rt -> Option (Nat × List AV)} {nb IP : Nat} (ho : ∀ p,(o p).isSome -> o' p = o p) (hn : nb <= IP) : ∀ cs,kg o nb cs -> kg o' IP cs
 | [],_ => trivial
 | x :: r,h => ⟨jw ho hn x h.1,u9 ho hn r h.2⟩
end
theorem eR.putG (h : eR X φ w N s Ha t) {i : Nat} (hi : get s.env i = .any) (eO : N'.β = N.β) (hN : ∀ p,bD i p = false -> N'.ν p = N.ν p) (hv : cK (aC s) s.H.length v) (rv : bT (Rd X φ w) φ (ku N' i v) v')
  (eQ : ∀ p k xs,bD i p = true -> aC ⟨put s.env i v,s.H⟩ p = some (k,xs) -> oT Ha (N'.ν p) k xs /\ ∀ n,N'.ν p = some n -> (∀ q,(aC s q).isSome -> N.ν q ≠ some n) /\ (∀ b,(aN s.H b).isSome -> N.β b ≠ n) /\ ∀ q,bD i q = true -> (aC ⟨put s.env i v,s.H⟩ q).isSome -> N'.ν q = some n -> q = p) :
  eR X φ w N' ⟨put s.env i v,s.H⟩ Ha (fun j => if j = i then v' else t j) := by
 have IK : ∀ {p},(aC s p).isSome -> bD i p = false := by
  intro p hp;cases e : bD i p with
  | false => rfl
  | true => rw [UZ hi e] at hp; cases hp
 have mono : ∀ p,(aC s p).isSome -> aC ⟨put s.env i v,s.H⟩ p = aC s p := fun p hp => mE hi (IK hp);refine ⟨fun j => ?_,fun j => ?_,h.heap,fun p k xs e => ?_,fun b cs e => ?_,fun p q n e1 e2 e3 e4 => ?_,fun b p e1 e2 e3 => ?_,fun b d e1 e2 e3 => ?_⟩
 ·simp only [bE];by_cases hj : j = i
  ·subst hj; simp only [if_true]; exact rv
  ·simp only [if_neg hj];rw [Vp eO (hN _ (by simp [bD,hj])) (fun l => hN _ (by simp [bD,hj])) (fun p hp => hN p (IK (h.dG (r := .s j) rfl p hp)))];exact h.env j
 ·simp only [bE];by_cases hj : j = i
  ·rw [if_pos hj]; exact jw mono (aT _) v hv
  ·rw [if_neg hj]; exact jw mono (aT _) _ (h.Cu j)
 ·cases hp : bD i p with
  | true => exact (eQ p k xs hp e).1
  | false => rw [mE hi hp] at e; rw [hN p hp]; exact h.own p k xs e
 ·obtain ⟨as,g1,g2,g3⟩ := h.box b cs e;refine ⟨as,by rw [eO]; exact g1,g2,fun j c hc => ?_⟩;obtain ⟨k1,a,k2,k3⟩ := g3 j c hc;refine ⟨jw mono (aT _) c k1,a,k2,?_⟩;rw [HT eO (fun _ _ _ => hN _ rfl) (fun p hp => hN p (IK (h.dG (r := .c b j) (by rw [vF (s := s) e]; exact hc) p hp)))];exact k3
 ·cases hp : bD i p with
  | true =>
    obtain ⟨⟨k,xs⟩,e⟩ := aQ.1 e1;obtain ⟨_,h2⟩ := eQ p k xs hp e;obtain ⟨f1,f2,f3⟩ := h2 n e3;cases hq : bD i q with
    | true => exact (f3 q hq e2 e4).symm
    | false => rw [mE hi hq] at e2; rw [hN q hq] at e4; exact absurd e4 (f1 q e2)
  | false =>
    cases hq : bD i q with
    | true =>
      obtain ⟨⟨k,xs⟩,e⟩ := aQ.1 e2;obtain ⟨_,h2⟩ := eQ q k xs hq e;obtain ⟨f1,f2,f3⟩ := h2 n e4;rw [mE hi hp] at e1;rw [hN p hp] at e3;exact absurd e3 (f1 p e1)
    | false =>
      rw [mE hi hp] at e1;rw [mE hi hq] at e2;rw [hN p hp] at e3;rw [hN q hq] at e4;exact h.inj p q n e1 e2 e3 e4
 ·rw [eO] at e3;cases hp : bD i p with
  | true =>
    obtain ⟨⟨k,xs⟩,e⟩ := aQ.1 e2;obtain ⟨_,h2⟩ := eQ p k xs hp e;exact (h2 _ e3).2.1 b e1 rfl
  | false => rw [mE hi hp] at e2; rw [hN p hp] at e3; exact h.bx b p e1 e2 e3
 ·rw [eO] at e3; exact h.bi b d e1 e2 e3
theorem eG.quiet (h : eR X φ w N s Ha t) (hb : (∀ b,b < base -> N.β b = B b) /\ base <= s.H.length) (hv : cK (aC s) s.H.length v) (he : EO v) (r : bT (Rd X φ w) φ (vX N v) v') : eG X φ w B base s v t v' := by
 refine ⟨⟨N,Ha,h,hb⟩,hv,fun i hi => ?_⟩
 have IK : ∀ {p},(aC s p).isSome -> bD i p = false := by
  intro p hp;cases e : bD i p with
  | false => rfl
  | true => rw [UZ hi e] at hp; cases hp
 obtain ⟨N',eO,hN1,hN2⟩ : ∃ N' : Names,N'.β = N.β /\ (∀ p,bD i p = false -> N'.ν p = N.ν p) /\ ∀ p,bD i p = true -> N'.ν p = none := ⟨⟨N.β,fun p => if bD i p then none else N.ν p⟩,rfl,fun p hp => by simp [hp],fun p hp => by simp [hp]⟩;have hvb : ∀ p ∈ aP v,N'.ν p = N.ν p := fun p hp => hN1 p (IK (AK v hv p hp))
 have e1 : ku N' i v = vX N v := by
  cases v <;> simp only [ku,vX,jF] <;> try exact Dp eO hvb
  ·rename_i cs;congr 1;apply dT;intro j;rw [fZ,nu];simp only [gE];cases hc : cs[j]? with
   | none => rfl
   | some c =>
     simp only [dc];congr 1;have hcb : ∀ p ∈ aP c,N'.ν p = N.ν p := fun p hp => hvb p (by simp only [aP]; exact kA hc hp);cases c <;> simp only [jF,gL] <;> try exact Dp eO hcb
     simp only [rO,hN2 (.sc i j) (by simp [bD])]
  ·simp only [rO,hN2 (.s i) (by simp [bD])]
 refine ⟨N',Ha,h.putG hi eO hN1 hv (by rw [e1]; exact r) (fun p k xs hp e => ?_),fun b bL => by rw [eO]; exact hb.1 b bL,hb.2⟩;rw [hN2 p hp];refine ⟨?_,fun n e => by cases e⟩;have e' := cu.1 e;cases p with
 | s j =>
   simp only [bD,decide_eq_true_eq] at hp;subst hp;simp only [at_,bE,if_true,ah] at e';rw [e'] at he;exact he
 | sc j l =>
   simp only [bD,decide_eq_true_eq] at hp;subst hp;simp only [at_,bE,if_true] at e';cases v <;> simp only [reduceCtorEq] at e'
   exact he l k xs e'
 | c b j => simp [bD] at hp
theorem eG.fresh (h : eR X φ w N s Ha t) (hb : (∀ b,b < base -> N.β b = B b) /\ base <= s.H.length) {k n : Nat} {xs : List AV} (ho : oT Ha (some n) k xs) (hf : ∀ q,(aC s q).isSome -> N.ν q ≠ some n) (hx : ∀ b,(aN s.H b).isSome -> N.β b ≠ n) (r : bT (Rd X φ w) φ (.sl k n 0 xs.length) v') :
  eG X φ w B base s (.own k xs) t v' := by
 refine ⟨⟨N,Ha,h,hb⟩,trivial,fun i hi => ?_⟩
 obtain ⟨N',eO,hN1,hN2⟩ : ∃ N' : Names,N'.β = N.β /\ (∀ p,bD i p = false -> N'.ν p = N.ν p) /\ N'.ν (.s i) = some n := ⟨⟨N.β,fun p => if p = .s i then some n else N.ν p⟩,rfl,fun p hp => by
  have : p ≠ .s i := by rintro rfl; simp [bD] at hp
  simp [this],by simp⟩
 have only : ∀ p,bD i p = true -> (aC ⟨Am.put s.env i (.own k xs),s.H⟩ p).isSome -> p = .s i := by
  intro p hp e;cases p with
  | s j => simp only [bD,decide_eq_true_eq] at hp; rw [hp]
  | sc j l =>
    simp only [bD,decide_eq_true_eq] at hp;subst hp;unfold aC at e;simp [at_,bE] at e
  | c b j => simp [bD] at hp
 refine ⟨N',Ha,h.putG hi eO hN1 trivial (by simp only [ku,jF,rO,hN2]; exact r) (fun p k' ys hp e => ?_),fun b bL => by rw [eO]; exact hb.1 b bL,hb.2⟩;have ui := only p hp (by rw [e]; rfl);subst ui;have e' := cu.1 e;simp only [at_,bE,if_true,ah,AV.own.injEq] at e';obtain ⟨rfl,rfl⟩ := e';rw [hN2];refine ⟨ho,fun m hm => ?_⟩;cases hm;exact ⟨hf,hx,fun q hq e _ => only q hq e⟩
theorem eR.my {φ' : dy} {w' : World} {Ha' : Heap} (h : eR X φ w N s Ha t) (a : fJ φ w φ' w') (hh : cG X φ' w' Ha') (ho : ∀ p k xs,aC s p = some (k,xs) -> oT Ha' (N.ν p) k xs) (hb : ∀ b,(aN s.H b).isSome -> aN Ha' (N.β b) = aN Ha (N.β b)) : eR X φ' w' N s Ha' t :=
 ⟨fun i => a.rep (h.env i),h.Cu,hh,ho,fun b cs e => by
  obtain ⟨as,g1,g2,g3⟩ := h.box b cs e;exact ⟨as,by rw [hb b (by rw [e]; rfl)]; exact g1,g2,g3⟩,h.inj,h.bx,h.bi⟩
theorem oT.same {H H' : Heap} {o : Option Nat} {k : Nat} {xs : List AV} (h : oT H o k xs) (hb : ∀ n,o = some n -> aN H' n = aN H n) : oT H' o k xs := by
 cases o with
 | none => exact h
 | some n =>
   obtain ⟨cs,h1,h2⟩ := h;exact ⟨cs,by rw [hb n rfl]; exact h1,h2⟩
theorem oT.lt {H : Heap} {n k : Nat} {xs : List AV} (h : oT H (some n) k xs) : n < H.length := by
 obtain ⟨cs,h1,_⟩ := h;exact dL h1
theorem eR.im (h : eR X φ w N s Ha t) {p : Rt} (hp : (aC s p).isSome) {n : Nat} (hn : N.ν p = some n) : n < Ha.length := by
 obtain ⟨⟨k,xs⟩,e⟩ := aQ.1 hp;have := h.own p k xs e;rw [hn] at this;exact this.lt
theorem eR.q9 (h : eR X φ w N s Ha t) {b : Nat} (hb : (aN s.H b).isSome) : N.β b < Ha.length := by
 obtain ⟨cs,e⟩ := aQ.1 hb;obtain ⟨as,g1,_⟩ := h.box b cs e;exact dL g1
theorem eR.push {φ' : dy} {w' : World} {cs : List AV} (h : eR X φ w N s Ha t) (a : fJ φ w φ' w') (hh : cG X φ' w' (Ha ++ [some cs])) : eR X φ' w' N s (Ha ++ [some cs]) t := by
 refine h.my a hh (fun p k xs e => ?_) (fun b hb => ?_)
 ·refine (h.own p k xs e).same fun n hn => ?_;rw [fV,if_neg];have := h.im (by rw [e]; rfl) hn;omega
 ·rw [fV,if_neg];have := h.q9 hb;omega
theorem GO (H : Heap) (cs : List AV) : aN (H ++ [some cs]) H.length = some cs := by rw [fV,if_pos rfl]
end
end Go.Bm

/- Operations that make blocks and boxes. -/
namespace Go.Bm
open Go.Am
mutual
theorem vU {N N' : Names} {o : Rt -> Option (Nat × List AV)} {nb : Nat} (eO : ∀ b,b < nb -> N'.β b = N.β b) (kR : ∀ p,(o p).isSome -> N'.ν p = N.ν p) : ∀ x,cK o nb x -> cM N' x = cM N x
 | .dG k p a l,h => by simp only [cK] at h; obtain ⟨xs,e,_⟩ := h; simp only [cM,kR p (by rw [e]; rfl)]
 | .fa k p a l,h => by simp only [cK] at h; obtain ⟨xs,e,_⟩ := h; simp only [cM,kR p (by rw [e]; rfl)]
 | .ptr b off,h => by simp only [cK] at h; simp only [cM,eO b h]
 | .agg cs,h => by simp only [cK] at h; simp only [cM,pF eO kR cs h]
 | .dB cs,h => by simp only [cK] at h; simp only [cM,pF eO kR cs h]
 | .func f a b,h => by simp only [cK] at h; simp only [cM,pF eO kR a h.1,pF eO kR b h.2]
 | .any,_ => rfl
 | .undef,_ => rfl
 | .fy,_ => rfl
 | .fD,_ => rfl
 | .dz,_ => rfl
 | .int _ _,_ => rfl
 | .bool _,_ => rfl
 | .str _,_ => rfl
 | .list _ _,_ => rfl
 | .dw _,_ => rfl
 | .own _ _,_ => rfl
 | .sl _ b _ _,h => by simp only [cK] at h; simp only [cM,eO b h]
theorem pF {N N' : Names} {o : Rt -> Option (Nat × List AV)} {nb : Nat} (eO : ∀ b,b < nb -> N'.β b = N.β b) (kR : ∀ p,(o p).isSome -> N'.ν p = N.ν p) : ∀ cs,kg o nb cs -> kW N' cs = kW N cs
 | [],_ => rfl
 | x :: r,h => by simp only [kW,vU eO kR x h.1,pF eO kR r h.2]
end
theorem sN {N N' : Names} {o : Rt -> Option (Nat × List AV)} {nb : Nat} (eO : ∀ b,b < nb -> N'.β b = N.β b) (kR : ∀ p,(o p).isSome -> N'.ν p = N.ν p) {r : Rt} {x : AV} (hr : ∀ k xs,x = .own k xs -> N'.ν r = N.ν r) (h : cK o nb x) : jF N' r x = jF N r x := by
 cases x <;> simp only [jF] <;> first | exact vU eO kR _ h | skip
 rename_i k xs;simp only [rO,hr k xs rfl]
theorem xq {N N' : Names} {o : Rt -> Option (Nat × List AV)} {nb : Nat} (eO : ∀ b,b < nb -> N'.β b = N.β b) (kR : ∀ p,(o p).isSome -> N'.ν p = N.ν p) {i : Nat} {x : AV} (h1 : N'.ν (.s i) = N.ν (.s i)) (h2 : ∀ j,N'.ν (.sc i j) = N.ν (.sc i j)) (h : cK o nb x) : ku N' i x = ku N i x := by
 by_cases ha : ∃ cs,x = .agg cs
 ·obtain ⟨cs,rfl⟩ := ha;simp only [ku];congr 1;apply dT;intro j;rw [fZ,fZ];simp only [gE];cases hc : cs[j]? with
  | none => rfl
  | some c =>
    simp only [dc];simp only [cK] at h;rw [sN eO kR (fun _ _ _ => h2 j) (gk.1 h j c hc)]
 ·have hn : jP x := fun cs e => ha ⟨cs,e⟩;have e1 : ku N' i x = jF N' (.s i) x := by cases x <;> first | rfl | exact absurd rfl (hn _)
  have e2 : ku N i x = jF N (.s i) x := by cases x <;> first | rfl | exact absurd rfl (hn _)
  rw [e1,e2];exact sN eO kR (fun _ _ _ => h1) h
mutual
theorem ks (N : Names) : ∀ x,pl x = true -> cM N x = x
 | .agg cs,h => by simp only [pl] at h; simp only [cM,Dl N cs h]
 | .dB cs,h => by simp only [pl] at h; simp only [cM,Dl N cs h]
 | .func f a b,h => by simp only [pl,ae] at h; simp only [cM,Dl N a h.1,Dl N b h.2]
 | .any,_ => rfl
 | .undef,_ => rfl
 | .fy,_ => rfl
 | .fD,_ => rfl
 | .dz,_ => rfl
 | .int _ _,_ => rfl
 | .bool _,_ => rfl
 | .str _,_ => rfl
 | .list _ _,_ => rfl
 | .dw _,_ => rfl
 | .own _ _,h => by simp [pl] at h
 | .dG _ _ _ _,h => by simp [pl] at h
 | .fa _ _ _ _,h => by simp [pl] at h
 | .ptr _ _,h => by simp [pl] at h
 | .sl _ _ _ _,h => by simp [pl] at h
theorem Dl (N : Names) : ∀ cs,gz cs = true -> kW N cs = cs
 | [],_ => rfl
 | x :: r,h => by simp only [gz,ae] at h; simp only [kW,ks N x h.1,Dl N r h.2]
end
theorem T3 (N : Names) {c : AV} (h : fz (fi c) = true) (he : ∀ k xs,c = .own k xs -> xs = []) : Le (fi c) (gL N c) := by
 cases c <;> simp only [fi] at h ⊢ <;> first
  | (have := (kh h).1
     simp only [gL];rw [ks N _ this];exact Le.refl _)
  | skip
 rename_i k xs;have := he k xs rfl;subst this;exact Le.fi k
section
variable {P : Program} {X : Nat -> Prop} {φ φ' : dy} {w w' : World} {N N' : Names} {s s1 : St} {Ha : Heap} {t : Nat -> Value} {B : Nat -> Nat} {base : Nat} {v : AV} {v' : Value} {c : eE} {o : Oper} {a : Act}
theorem eR.PQ {zs as : List AV} (h : eR X φ w N s Ha t) (ad : fJ φ w φ' w') (hh : cG X φ' w' (Ha ++ [some as])) (hz : kg (aC s) s.H.length zs) (he : U8 zs) (has : as = iy N zs) :
  ∃ N',(∀ b,b < s.H.length -> N'.β b = N.β b) /\ N'.β s.H.length = Ha.length /\ eR X φ' w' N' ⟨s.env,s.H ++ [some zs]⟩ (Ha ++ [some as]) t := by
 have h1 := h.push ad hh
 obtain ⟨N',eO,Zk,hN1,hN2⟩ : ∃ N' : Names,(∀ b,b < s.H.length -> N'.β b = N.β b) /\ N'.β s.H.length = Ha.length /\ (∀ p,(∀ j,p ≠ .c s.H.length j) -> N'.ν p = N.ν p) /\ ∀ j,N'.ν (.c s.H.length j) = none :=
  ⟨⟨fun b => if b = s.H.length then Ha.length else N.β b,fun p => match p with
   | .c b j => if b = s.H.length then none else N.ν (.c b j)
   | p => N.ν p⟩,fun b hb => by simp; omega,by simp,fun p hp => by
     cases p with
     | s i => rfl
     | sc i j => rfl
     | c b j =>
       have : b ≠ s.H.length := fun e => hp j (by rw [e]);simp [this],fun j => by simp⟩
 have atq : ∀ q,(∀ j,q ≠ .c s.H.length j) -> at_ ⟨s.env,s.H ++ [some zs]⟩ q = at_ s q := by
  intro q hq;cases q with
  | s i => rfl
  | sc i j => rfl
  | c b j =>
    have : b ≠ s.H.length := fun e => hq j (by rw [e]);simp only [at_,fV,if_neg this]
 have atn : ∀ j,at_ ⟨s.env,s.H ++ [some zs]⟩ (.c s.H.length j) = zs[j]? := fun j => by simp only [at_,fV,if_true]
 have IK : ∀ {q},(aC s q).isSome -> ∀ j,q ≠ .c s.H.length j := by
  rintro q hq j rfl;unfold aC at hq
  have : aN s.H s.H.length = none := by
   cases e : aN s.H s.H.length with
   | none => rfl
   | some cs => have := dL e; omega
  simp [at_,this] at hq
 have mono : ∀ p,(aC s p).isSome -> aC ⟨s.env,s.H ++ [some zs]⟩ p = aC s p := fun p hp => iA (atq p (IK hp));have kR : ∀ p,(aC s p).isSome -> N'.ν p = N.ν p := fun p hp => hN1 p (IK hp);have hlen : s.H.length <= (s.H ++ [some zs]).length := by simp
 have aeu : ∀ {q k xs},aC ⟨s.env,s.H ++ [some zs]⟩ q = some (k,xs) -> (aC s q = some (k,xs)) \/ ((∃ j,q = .c s.H.length j) /\ xs = []) := by
  intro q k xs e;by_cases hq : ∃ j,q = .c s.H.length j
  ·obtain ⟨j,rfl⟩ := hq;have e' := cu.1 e;rw [atn] at e';exact .inr ⟨⟨j,rfl⟩,he j k xs e'⟩
  ·rw [iA (atq q fun j e => hq ⟨j,e⟩)] at e;exact .inl e
 have Dt : ∀ {q n},(aC ⟨s.env,s.H ++ [some zs]⟩ q).isSome -> N'.ν q = some n -> (aC s q).isSome /\ N.ν q = some n := by
  intro q n hq hn;obtain ⟨⟨k,xs⟩,e⟩ := aQ.1 hq;rcases aeu e with e1 | ⟨⟨j,rfl⟩,_⟩
  ·have : (aC s q).isSome := by rw [e1]; rfl
   exact ⟨this,by rw [<- kR q this]; exact hn⟩
  ·rw [hN2] at hn; cases hn
 have bold : ∀ {b},(aN (s.H ++ [some zs]) b).isSome -> (b < s.H.length /\ (aN s.H b).isSome) \/ b = s.H.length := by
  intro b hb;rw [fV] at hb;by_cases e : b = s.H.length
  ·exact .inr e
  ·rw [if_neg e] at hb;obtain ⟨cs,e2⟩ := aQ.1 hb;exact .inl ⟨dL e2,hb⟩
 refine ⟨N',eO,Zk,⟨fun i => ?_,fun i => jw mono hlen _ (h1.Cu i),hh,fun p k xs e => ?_,fun b cs e => ?_,fun p q n e1 e2 e3 e4 => ?_,fun b p e1 e2 e3 => ?_,fun b d e1 e2 e3 => ?_⟩⟩
 ·rw [xq eO kR (hN1 _ (fun j e => by cases e)) (fun l => hN1 _ (fun j e => by cases e)) (h1.Cu i)];exact h1.env i
 ·rcases aeu e with e1 | ⟨⟨j,rfl⟩,rfl⟩
  ·rw [kR p (by rw [e1]; rfl)]; exact h1.own p k xs e1
  ·rw [hN2]; rfl
 ·by_cases hb : b = s.H.length
  ·subst hb;simp only [fV,if_true,ah] at e;subst e;refine ⟨as,by rw [Zk]; exact GO _ _,by rw [has,jf],fun j x hx => ⟨jw mono hlen x (gk.1 hz j x hx),gL N x,by rw [has,nu,hx]; rfl,?_⟩⟩;have hxk := gk.1 hz j x hx;cases x <;> simp only [jF,gL] <;> try (rw [vU eO kR _ hxk]; exact Le.refl _)
   simp only [rO,hN2];exact Le.refl _
  ·simp only [fV,if_neg hb] at e;obtain ⟨as',g1,g2,g3⟩ := h1.box b cs e;refine ⟨as',by rw [eO b (dL e)]; exact g1,g2,fun j x hx => ?_⟩;obtain ⟨k1,a',k2,k3⟩ := g3 j x hx;refine ⟨jw mono hlen x k1,a',k2,?_⟩;rw [sN eO kR (fun _ _ _ => hN1 _ (fun l e => by cases e; exact hb rfl)) k1];exact k3
 ·obtain ⟨p1,p2⟩ := Dt e1 e3;obtain ⟨q1,q2⟩ := Dt e2 e4;exact h1.inj p q n p1 q1 p2 q2
 ·obtain ⟨p1,p2⟩ := Dt e2 e3;rcases bold e1 with ⟨b1,b2⟩ | b1
  ·rw [eO b b1] at p2; exact h1.bx b p b2 p1 p2
  ·subst b1;rw [Zk] at p2;have := h.im p1 p2;omega
 ·rcases bold e1 with ⟨b1,b2⟩ | b1 <;> rcases bold e2 with ⟨d1,d2⟩ | d1
  ·rw [eO b b1,eO d d1] at e3; exact h1.bi b d b2 d2 e3
  ·subst d1; rw [eO b b1,Zk] at e3; have := h.q9 b2; omega
  ·subst b1; rw [eO d d1,Zk] at e3; have := h.q9 d2; omega
  ·rw [b1,d1]
def tm (a : Act) : Nat -> Value := fun i => a.tmps.getD i undef
def lY (P : Program) (X : Nat -> Prop) (φ : dy) (w : World) (B : Nat -> Nat) (base : Nat) (s1 : St) (v : AV) (o : Oper) (a : Act) : Prop :=
 ∀ (K : Act -> World -> Prop) (Q : Exit -> Act -> World -> Prop),(∀ v' w' φ',eG X φ' w' B base s1 v (tm a) v' -> fJ φ w φ' w' -> K (a.put o.dst v') w') -> o.wp P a w K Q
theorem lY.ghost (ad : fJ φ w φ' w) (h : lY P X φ' w B base s1 v o a) : lY P X φ w B base s1 v o a := fun K Q hK => h K Q fun v' w' nW hp k => hK v' w' nW hp (ad.trans k)
theorem lY.of {va : AV} {Ha' : Heap} (h : Ok P X φ w o a va Ha') (hp : ∀ v' w' φ',bT (Rd X φ' w') φ' va v' -> cG X φ' w' Ha' -> fJ φ w φ' w' -> eG X φ' w' B base s1 v (tm a) v') : lY P X φ w B base s1 v o a :=
 fun K Q hK => h K Q fun v' w' φ' r hh ad => hK v' w' φ' (hp v' w' φ' r hh ad) ad
def iO (c : eE) : Am.eE := ⟨fun _ => none,c.gl,fun _ => none⟩
theorem ag7 (hm : P.follows .mixedOrders = true) (c : eE) : Am.ON P (iO c) := ⟨hm,fun f m q h => by cases h⟩
def noC : Nat -> List AV -> Heap -> Option (AV × Heap) := fun _ _ _ => none
theorem aak (c : eE) : Am.Bo P (iO c) noC := fun f m q h => by cases h
end
end Go.Bm

/- Operations that read, and that make blocks and boxes: from the model. -/
namespace Go.Bm
open Go.Am
theorem kb : ∀ (a b : List AV),aH (a ++ b) = aH a ++ aH b
 | [],b => rfl
 | x :: r,b => by simp [aH,kb r b]
theorem Oa (k : Nat) : ∀ (n : Nat) (ys : List AV),n * k <= ys.length -> aH (OY k n ys) = ys.take (n * k)
 | 0,ys,_ => by simp [OY,aH]
 | n + 1,ys,h => by
   have h' : n * k + k <= ys.length := by rw [cF] at h; omega
   simp only [OY,aH,sj];rw [Oa k n (ys.drop k) (by rw [dS]; omega),cF,Nat.one_mul,Nat.add_comm,List.take_add]
theorem N9 (e : AV) : ∀ n,aH (aF n e) = rep e.cells n
 | 0 => rfl
 | n + 1 => by simp [List.replicate_succ,aH,rep,N9 e n]
theorem yK (f : AV -> AV) (zs : List AV) : ∀ n,rep (zs.map f) n = (rep zs n).map f
 | 0 => rfl
 | n + 1 => by simp [rep,yK f zs n]
theorem J1 (zs : List AV) : ∀ n,(rep zs n).length = n * zs.length
 | 0 => by simp [rep]
 | n + 1 => by simp [rep,J1 zs n,cF]; omega
theorem wa {zs : List AV} {x : AV} : ∀ {n : Nat},x ∈ rep zs n -> x ∈ zs
 | 0,h => by simp [rep] at h
 | n + 1,h => by
   simp only [rep,aG] at h;rcases h with h | h
   ·exact h
   ·exact wa h
theorem ka : ∀ {cs : List AV},N3 cs = true -> ∀ x ∈ cs,fz x = true
 | [],_,x,hx => by simp at hx
 | y :: r,h,x,hx => by
   simp only [N3,ae] at h;rcases aK.1 hx with e | e
   ·subst e; exact h.1
   ·exact ka h.2 x e
theorem CU {o : Rt -> Option (Nat × List AV)} {nb : Nat} : ∀ {cs : List AV},kg o nb cs -> ∀ x ∈ cs,cK o nb x
 | [],_,x,hx => by simp at hx
 | y :: r,h,x,hx => by
   rcases aK.1 hx with e | e
   ·subst e; exact h.1
   ·exact CU h.2 x e
theorem xO {o : Rt -> Option (Nat × List AV)} {nb : Nat} : ∀ {cs : List AV},(∀ x ∈ cs,cK o nb x) -> kg o nb cs
 | [],_ => trivial
 | y :: r,h => ⟨h y (by simp),xO fun x hx => h x (by simp [hx])⟩
theorem JC : ∀ {vs : List Value} {xs : List AV},ql vs xs = true -> xs.length = vs.length
 | [],[],_ => rfl
 | [],_ :: _,h => by simp [ql] at h
 | _ :: _,[],h => by simp [ql] at h
 | v :: r,x :: s,h => by simp only [ql,ae] at h; simp [JC h.2]
theorem acY : ∀ {zs : List AV},mn (s6 zs) = true -> bz (s6 zs) = true -> ∀ z ∈ zs,fz (fi z) = true
 | [],_,_,z,hz => by simp at hz
 | x :: r,h1,h2,z,hz => by
   simp only [s6,mn,bz,ae] at h1 h2;rcases aK.1 hz with e | e
   ·subst e;rcases dn_c (zH h1.1) with ⟨k,rfl,e⟩ | ⟨hc,e⟩
    ·rfl
    ·rw [e] at h1 h2;have h1' := h1.1;have h2' := h2.1;cases z <;> first | rfl | (simp [sY] at h1'; done) | (simp [AV.leaf] at h2'; done)
   ·exact acY h1.2 h2.2 z e
theorem XE {R : Addr -> Value -> Prop} {φ : dy} {x : AV} {v : Value} (h : bT R φ x v) : φ = [] -> pl x = true := by
 have all : ∀ {cs : List AV} {vs : Array Value},cs.length = vs.size -> (∀ (i : Nat) (c : AV) (v : Value),cs[i]? = some c -> vs[i]? = some v -> pl c = true) -> gz cs = true := by
  intro cs
  induction cs with
  | nil => intro vs _ _; rfl
  | cons x r ih =>
    intro vs hl h;simp only [gz,ae];obtain ⟨u,hu⟩ := cY (l := vs) (i := 0) (by simp at hl; omega);refine ⟨h 0 x u rfl hu,ih (vs := vs.extract 1 vs.size) (by simp at hl ⊢; omega) fun i c v hc hv => ?_⟩;refine h (i + 1) c v (by simpa using hc) ?_;rw [Array.getElem?_extract] at hv;split at hv
    ·rwa [Nat.add_comm] at hv
    ·cases hv
 induction h with
 | agg φ cs vs hl h ih => intro e; simp only [pl]; exact all hl fun i c v h1 h2 => ih i c v h1 h2 e
 | dB φ cs vs hl h ih => intro e; simp only [pl]; exact all hl fun i c v h1 h2 => ih i c v h1 h2 e
 | func φ f as va bs vb Ca B9 ha hb Zj V4 => intro e; simp only [pl,ae]; exact ⟨all Ca fun i c v h1 h2 => Zj i c v h1 h2 e,all B9 fun i c v h1 h2 => V4 i c v h1 h2 e⟩
 | ptr φ b off a hb h => intro e; subst e; simp at hb
 | sl φ k b off len a cap hb hc h => intro e; subst e; simp at hb
 | _ => intro _; rfl
mutual
theorem tX {o : Rt -> Option (Nat × List AV)} {nb : Nat} : ∀ x,pl x = true -> cK o nb x
 | .agg cs,h => by simp only [pl] at h; exact Fz cs h
 | .dB cs,h => by simp only [pl] at h; exact Fz cs h
 | .func f a b,h => by simp only [pl,ae] at h; exact ⟨Fz a h.1,Fz b h.2⟩
 | .any,_ => trivial
 | .undef,_ => trivial
 | .fy,_ => trivial
 | .fD,_ => trivial
 | .dz,_ => trivial
 | .int _ _,_ => trivial
 | .bool _,_ => trivial
 | .str _,_ => trivial
 | .list _ _,_ => trivial
 | .dw _,_ => trivial
 | .own _ _,h => by simp [pl] at h
 | .dG _ _ _ _,h => by simp [pl] at h
 | .fa _ _ _ _,h => by simp [pl] at h
 | .ptr _ _,h => by simp [pl] at h
 | .sl _ _ _ _,h => by simp [pl] at h
theorem Fz {o : Rt -> Option (Nat × List AV)} {nb : Nat} : ∀ cs,gz cs = true -> kg o nb cs
 | [],_ => trivial
 | x :: r,h => by simp only [gz,ae] at h; exact ⟨tX x h.1,Fz r h.2⟩
end
theorem yb : ∀ {ds : List AV},bK ds = false -> ∀ (j k : Nat) (xs : List AV),ds[j]? ≠ some (.own k xs)
 | [],_,j,k,xs,e => by simp at e
 | y :: r,h,j,k,xs,e => by
   cases j with
   | zero => simp at e; subst e; simp [bK] at h
   | succ j => exact yb (ds := r) (by cases y <;> simp [bK] at h <;> exact h) j k xs (by simpa using e)
theorem k9 {x : AV} (h : bJ x = false) : EO x := by
 cases x <;> simp only [EO] <;> try (simp [bJ] at h; done)
 exact fun j k xs e => absurd e (yb h j k xs)
theorem XK {ag : Option Nat} {xs ys : List AV} {x : AV} (h : Al ag xs = some x) (hl : xs.length <= ys.length) (hle : ∀ (i : Nat) (a b : AV),xs[i]? = some a -> ys[i]? = some b -> Le a b) : ∃ y,Al ag ys = some y /\ Le x y := by
 unfold Al at h ⊢;cases ag with
 | some k =>
   simp only at h ⊢;split at h
   case isFalse => cases h
   rename_i hk;simp at h;subst h;rw [if_pos (by omega)];refine ⟨_,rfl,Le.agg (by simp; omega) fun i a b ha hb => ?_⟩;rw [bF] at ha hb;split at ha
   ·rename_i hi;rw [if_pos hi] at hb;exact hle i a b ha hb
   ·cases ha
 | none =>
   simp only at h ⊢;cases xs with
   | nil => cases h
   | cons a r =>
     simp at h;subst h;cases ys with
     | nil => simp at hl
     | cons b r' => exact ⟨b,rfl,hle 0 a b rfl rfl⟩
section
variable {P : Program} {X : Nat -> Prop} {φ φ' : dy} {w w' : World} {N N' : Names} {s s1 : St} {Ha Ha' : Heap} {t : Nat -> Value} {B : Nat -> Nat} {base : Nat} {v va : AV} {v' : Value} {c : eE} {o : Oper} {a : Act} {kd : Kd}
theorem Oe {t : TypeId} {k : Nat} {zs : List AV} (h1 : jb P t k = true) (h2 : iD P t zs = true) : zs.length = k /\ mn zs = true /\ bz zs = true := by
 obtain ⟨e,i,z,hu,hi,wy,hk0,hby,NS,OU⟩ := jg h1;unfold iD at h2;rw [hu] at h2;simp only at h2;refine ⟨?_,(rq h2).1,(rq h2).2⟩;unfold nX at h2;rw [hi] at h2;simp only [NS,ae] at h2;have := JC h2.1;rw [this];simpa using OU
theorem mw (hm : P.follows .mixedOrders = true) (h : eR X φ w N s Ha (tm a)) (hg : Am.dZ (iO c) X φ w) (hk : cZ P o.op kd = true) {fl : Fp} (hs : fW (iO c) noC (yw N s.env) Ha kd = some (va,Ha',fl)) : Ok P X φ w o a va Ha' :=
 ail (ag7 hm c) (aak c) (fun i => by rw [lP]; exact h.env i) hg h.heap hk hs
theorem Tw (hm : P.follows .mixedOrders = true) (h : SB X φ w B base s (tm a)) (hg : Am.dZ (iO c) X φ w) (hk : cZ P o.op (lS kd) = true) (hs : PE c s.env kd = some v) : lY P X φ w B base s v o a := by
 obtain ⟨N,Ha,h,hb⟩ := h;obtain ⟨h1,h2,h3⟩ := afO (cA := iO c) (call := noC) h rfl hk hs;refine lY.of (mw hm h hg hk h1) fun v' w' φ' r hh ad => ?_;exact eG.quiet (h.my ad hh h.own (fun _ _ => rfl)) hb h2 h3 r
theorem PF (hm : P.follows .mixedOrders = true) (h : SB X φ w B base s (tm a)) (hg : Am.dZ (iO c) X φ w) {zs : List AV} (hk : cZ P o.op (lS (.new zs)) = true) : lY P X φ w B base ⟨s.env,s.H ++ [some zs]⟩ (.ptr s.H.length 0) o a := by
 obtain ⟨N,Ha,h,hb,hl⟩ := h;obtain ⟨t,ht⟩ := aco hk;obtain ⟨e1,e2⟩ := zW N (rq ht).1;refine lY.of (mw hm h hg hk (by simp only [lS,fW]; rfl)) fun v' w' φ' r hh ad => ?_;obtain ⟨N',n1,n2,h'⟩ := h.PQ ad hh (zp (rq ht).1) e2 e1;refine eG.quiet h' ⟨fun b bL => by rw [n1 b (by omega)]; exact hb b bL,by simp; omega⟩ (by simp [cK]) trivial ?_;simp only [vX,cM,n2];exact r
theorem abm (hm : P.follows .mixedOrders = true) (h : SB X φ w B base s (tm a)) (hg : Am.dZ (iO c) X φ w) {x : E} (hk : cZ P o.op (lS (.box x)) = true) (wx : bz (bt c s.env x).cells = true) : lY P X φ w B base ⟨s.env,s.H ++ [some (bt c s.env x).cells]⟩ (.ptr s.H.length 0) o a := by
 obtain ⟨N,Ha,h,hb,hl⟩ := h;obtain ⟨o',ho⟩ := acC hk;have hx := cP (c := c) (cA := iO c) h rfl ho;have hc := GK N hx.na;refine lY.of (mw hm h hg hk (by simp only [lS,fW,hx.ev,hc,td h wx (u6 hx.ok),if_true]; rfl)) fun v' w' φ' r hh ad => ?_;obtain ⟨N',n1,n2,h'⟩ := h.PQ ad hh (u6 hx.ok) hx.U8 rfl;refine eG.quiet h' ⟨fun b bL => by rw [n1 b (by omega)]; exact hb b bL,by simp; omega⟩ (by simp [cK]) trivial ?_;simp only [vX,cM,n2];exact r
theorem zO (h : eR X φ w N s Ha t) (hb : (∀ b,b < base -> N.β b = B b) /\ base <= s.H.length) (ad : fJ φ w φ' w') {cs : List AV} (hh : cG X φ' w' (Ha ++ [some cs])) {k : Nat} {xs : List AV} (hlen : xs.length * k <= cs.length) (hk : ∀ x ∈ xs,x.cells.length = k)
  (hc : ∀ (i : Nat) (d : AV),(aH xs)[i]? = some d -> fz d = true /\ ∃ e,cs[i]? = some e /\ e.leaf = true /\ Le d e) (r : bT (Rd X φ' w') φ' (.sl k Ha.length 0 xs.length) v') : eG X φ' w' B base s (.own k xs) t v' := by
 refine eG.fresh (h.push ad hh) hb (n := Ha.length) ⟨cs,GO _ _,hlen,hk,hc⟩ (fun q hq e => ?_) (fun b hb e => ?_) r
 ·have := h.im hq e; omega
 ·have := h.q9 hb; omega
theorem PI (hm : P.follows .mixedOrders = true) (h : SB X φ w B base s (tm a)) (hg : Am.dZ (iO c) X φ w) {k n : Nat} {zs cs : List AV} {ps : List (Nat × Nat × E)} (hk : cZ P o.op (lS (.dY k n zs ps)) = true) (hf : oY c s.env (rep zs n) ps = some cs) (hz : N3 (cs.map fi) = true) :
  lY P X φ w B base s (.own k (OY k n (cs.map fi))) o a := by
 obtain ⟨N,Ha,h,hb⟩ := h;obtain ⟨⟨t,ht1,ht2⟩,hq⟩ := QP hk;obtain ⟨z1,z2,z3⟩ := Oe ht1 ht2;obtain ⟨e1,e2⟩ := zW N z2;have Gd : rep (s6 zs) n = iy N (rep zs n) := by rw [e1,rz,rz,yK]
 have yy : zs.length = k := by rw [<- z1,e1,jf]
 have hzok : kg (aC s) s.H.length (rep zs n) := xO fun x hx => CU (zp z2) x (wa hx)
 have hzeo : U8 (rep zs n) := fun j k' xs hj => by
  obtain ⟨i,hi⟩ := bG (wa (bg hj));exact e2 i k' xs hi
 obtain ⟨f1,f2,f3,f4⟩ := qR (cA := iO c) h rfl hq hzok hzeo hf;have Qp : cs.length = n * k := by rw [f4,J1,yy]
 have wx : bz cs = true := by
  have : ∀ {l : List AV},(∀ x ∈ l,x.leaf = true) -> bz l = true := by
   intro l
   induction l with
   | nil => intro _; rfl
   | cons y r ih => intro h; simp only [bz,ae]; exact ⟨h y (by simp),ih fun x hx => h x (by simp [hx])⟩
  refine this fun x hx => ?_;have := (kh (ka hz (fi x) (pz hx))).2;cases x <;> first | exact this | rfl
 have aiG : ∀ x ∈ cs,x.leaf = true := fun x hx => by
  have := (kh (ka hz (fi x) (pz hx))).2;cases x <;> first | exact this | rfl
 refine lY.of (mw hm h hg hk (by simp only [lS,fW,Gd,f1,td h wx f2,if_true]; rfl)) fun v' w' φ' r hh ad => ?_;obtain ⟨g1,g2⟩ := Gk k n (cs.map fi) (by simp [Qp]);refine zO h hb ad hh (by rw [g1,jf,Qp]; omega) (fun x hx => ?_) (fun i d hd => ?_) (by rw [g1]; exact r)
 ·obtain ⟨i,hi⟩ := bG hx;obtain ⟨q1,q2⟩ := g2 i x hi;rw [q1,bC,dS,gF,Qp];have : (i + 1) * k <= n * k := bM k q2;rw [cF] at this;omega
 ·rw [Oa k n _ (by simp [Qp]),<- Qp,show (cs.map fi).take cs.length = cs.map fi from List.take_of_length_le (by simp),cq] at hd;cases hc : cs[i]? with
  | none => rw [hc] at hd; cases hd
  | some x =>
    rw [hc] at hd;simp at hd;subst hd;have zK := ka hz (fi x) (pz (bg hc));exact ⟨zK,gL N x,by rw [nu,hc]; rfl,K1 h (aiG x (bg hc)) (CU f2 x (bg hc)),T3 N zK (fun k xs e => f3 i k xs (by rw [hc,e]))⟩
theorem abi (hm : P.follows .mixedOrders = true) (h : SB X φ w B base s (tm a)) (hg : Am.dZ (iO c) X φ w) {k : Nat} {zs : List AV} {x y : E} {k1 k2 : IntKind} {l cp : Int} (hk : cZ P o.op (lS (.Hd k zs x y)) = true) (hx : bt c s.env x = .int k1 l) (hy : bt c s.env y = .int k2 cp) (hc : 0 <= l /\ l <= cp /\ cp <= (lj : Int)) :
  lY P X φ w B base s (.own k (aF l.toNat (el (zs.map fi)))) o a := by
 obtain ⟨N,Ha,h,hb⟩ := h;obtain ⟨⟨t,ht1,ht2⟩,⟨o1,h1⟩,o2,h2⟩ := UQ hk;obtain ⟨z1,z2,z3⟩ := Oe ht1 ht2;obtain ⟨e1,e2⟩ := zW N z2;have yy : zs.length = k := by rw [<- z1,e1,jf]
 have Hz := (cP (c := c) (cA := iO c) h rfl h1).int hx;have C2 := (cP (c := c) (cA := iO c) h rfl h2).int hy;refine lY.of (mw hm h hg hk (by simp only [lS,fW,Hz,C2,if_pos hc]; rfl)) fun v' w' φ' r hh ad => ?_;refine zO h hb ad hh (by rw [bW,J1,z1]; omega) (fun u hu => ?_) (fun i d hd => ?_) (by rw [bW]; exact r)
 ·rw [List.eq_of_mem_replicate hu,sj,gF,yy]
 ·rw [N9,sj,yK,cq] at hd;cases Qr : (rep zs l.toNat)[i]? with
  | none => rw [Qr] at hd; cases hd
  | some z =>
    rw [Qr] at hd;simp at hd;subst hd;have Zu := wa (bg Qr);obtain ⟨j,hj⟩ := bG Zu;have heo : ∀ k xs,z = .own k xs -> xs = [] := fun k xs e => e2 j k xs (by rw [hj,e]);have zK : fz (fi z) = true := acY z2 z3 z Zu
    have wx : (gL N z).leaf = true := by
     have Qi : gL N z ∈ s6 zs := by rw [e1,rz]; exact pz Zu
     have : ∀ {l : List AV},bz l = true -> ∀ x ∈ l,x.leaf = true := by
      intro l
      induction l with
      | nil => intro _ x hx; simp at hx
      | cons y r ih =>
        intro q x hx;simp only [bz,ae] at q;rcases aK.1 hx with e | e
        ·subst e; exact q.1
        ·exact ih q.2 x e
     exact this z3 _ Qi
    exact ⟨zK,gL N z,by rw [e1]; rw [rz,yK,cq,Qr]; rfl,wx,T3 N zK heo⟩
theorem acK {zs z : List AV} (h : WC zs = some z) : s6 zs = [.dz] /\ ∃ k,z = [.own k []] := by
 unfold WC at h;split at h
 case h_2 => cases h
 rename_i k;split at h
 case isFalse => cases h
 simp at h;exact ⟨rfl,_,h.symm⟩
theorem abh (hm : P.follows .mixedOrders = true) (h : SB X φ w B base s (tm a)) (hg : Am.dZ (iO c) X φ w) {k : Nat} {zs z : List AV} {x y : E} {k1 k2 : IntKind} {l cp : Int} (hk : cZ P o.op (lS (.Hd k zs x y)) = true) (hz : WC zs = some z) (hx : bt c s.env x = .int k1 l) (hy : bt c s.env y = .int k2 cp) (hc : 0 <= l /\ l <= cp /\ cp <= (lj : Int)) :
  lY P X φ w B base ⟨s.env,s.H ++ [some (rep z l.toNat)]⟩ (.sl k s.H.length 0 l.toNat) o a := by
 obtain ⟨N,Ha,h,hb,hl⟩ := h;obtain ⟨_,⟨o1,h1⟩,o2,h2⟩ := UQ hk;obtain ⟨e1,k',rfl⟩ := acK hz;have Hz := (cP (c := c) (cA := iO c) h rfl h1).int hx;have C2 := (cP (c := c) (cA := iO c) h rfl h2).int hy;refine lY.of (mw hm h hg hk (by simp only [lS,fW,Hz,C2,if_pos hc]; rfl)) fun v' w' φ' r hh ad => ?_
 obtain ⟨N',n1,n2,h'⟩ := h.PQ (zs := rep [.own k' []] l.toNat) ad hh (xO fun u hu => by
  have := wa hu;simp at this;subst this;exact trivial) (fun j kk xs hj => by
  have := wa (bg hj);simp at this;exact this.2) (by rw [e1,rz,<- yK]; rfl)
 refine eG.quiet h' ⟨fun b bL => by rw [n1 b (by omega)]; exact hb b bL,by simp; omega⟩ (by simp [cK]) trivial ?_;simp only [vX,cM,n2];exact r
theorem aes (h : eR X φ w N s Ha (tm a)) (hg : Am.dZ (iO c) X φ w) {ag : Option Nat} {x : E} {ps : List Rt} {o' : Operand} (ho : df o' (lU x) = true) (hs : xM s ag (bt c s.env x) = some (v,ps)) :
  ∃ va fl,fW (iO c) noC (yw N s.env) Ha (lS (.ld ag x)) = some (va,Ha,fl) /\ Le (vX N v) va /\ cK (aC s) s.H.length v /\ EO v := by
 have hx := cP (c := c) (cA := iO c) h rfl ho;have dg := hx.ok
 have fin : ∀ {va : AV} {fl : Fp},fW (iO c) noC (yw N s.env) Ha (lS (.ld ag x)) = some (va,Ha,fl) -> Le (vX N v) va -> cK (aC s) s.H.length v -> EO v -> ∃ va fl,fW (iO c) noC (yw N s.env) Ha (lS (.ld ag x)) = some (va,Ha,fl) /\ Le (vX N v) va /\ cK (aC s) s.H.length v /\ EO v :=
  fun e hle h2 h3 => ⟨_,_,e,hle,h2,h3⟩
 have rdn : ∀ {cs : List AV},J3 ag cs = some v -> Al ag cs = some v /\ bJ v = false := by
  intro cs hu;unfold J3 at hu;split at hu
  case h_2 => cases hu
  rename_i u' hr;split at hu
  ·cases hu
  rename_i iK;simp at hu iK;subst hu;exact ⟨hr,iK⟩
 have plrd : ∀ {cs : List AV},Al ag cs = some v -> (∀ x ∈ cs,pl x = true) -> pl v = true := by
  intro cs hr hp;unfold Al at hr;cases ag with
  | some k =>
    simp only at hr;split at hr
    case isFalse => cases hr
    simp at hr;subst hr;simp only [pl]
    have : ∀ {l : List AV},(∀ x ∈ l,pl x = true) -> gz l = true := by
     intro l
     induction l with
     | nil => intro _; rfl
     | cons y r ih => intro h; simp only [gz,ae]; exact ⟨h y (by simp),ih fun x hx => h x (by simp [hx])⟩
    exact this fun x hx => hp x (c8 hx)
  | none =>
    simp only at hr;cases cs with
    | nil => cases hr
    | cons y r => simp at hr; subst hr; exact hp y (by simp)
 unfold xM at hs;cases e : bt c s.env x <;> rw [e] at hs dg <;> try (simp at hs; done)
 ·rename_i cs;simp only at hs;split at hs
  case h_2 => cases hs
  rename_i u hu;simp at hs;obtain ⟨rfl,rfl⟩ := hs;obtain ⟨hr,iK⟩ := rdn hu;have r := bX (c := iO c) (env := yw N s.env) (a := a) (fun i => by rw [lP]; exact h.env i) hg ho;rw [hx.ev,e] at r;simp only [gL,cM] at r
  have oX : ∀ y ∈ cs,pl y = true := by
   intro y hy;obtain ⟨j,hj⟩ := bG hy;generalize a.eval o' = z at r;cases r with
   | dw _ _ _ u hu h => exact XE (h j y hj) rfl
  have hv := plrd hr oX;refine fin (va := u) (by simp only [lS,fW,hx.ev,e,gL,cM,hr]; rfl) ?_ (tX _ hv) (k9 iK);rw [kG N iK,ks N _ hv];exact Le.refl _
 ·rename_i b off;simp only at hs;split at hs
  case h_2 => cases hs
  rename_i cs dP;split at hs
  case h_2 => cases hs
  rename_i u hu;simp at hs;obtain ⟨rfl,rfl⟩ := hs;obtain ⟨hr,iK⟩ := rdn hu;obtain ⟨as,g1,g2,g3⟩ := h.box b cs dP
  have hokL : kg (aC s) s.H.length (eM (.c b) 0 cs) := by
   refine gk.2 fun j d hd => ?_;rw [AW] at hd;cases hc : cs[j]? with
   | none => rw [hc] at hd; cases hd
   | some d0 =>
     rw [hc] at hd;simp only [dc,ah,gE] at hd;subst hd;split
     ·rename_i k xs;simp only [cK];exact ⟨xs,cu.2 (by rw [vF dP]; exact hc),by omega⟩
     ·exact (g3 j _ hc).1
  obtain ⟨r1,r2,r3,_⟩ := Pz N hu (zu (n := off) hokL);rw [<- Dq,Dn] at r1
  obtain ⟨va,q1,q2⟩ := XK (ys := as.drop off) r1 (by simp [iI]; omega) (fun i x y hx hy => by
   rw [aU,fZ] at hx;rw [aU] at hy;simp only [gE] at hx;cases hc : cs[off + i]? with
   | none => rw [hc] at hx; cases hx
   | some d =>
     rw [hc] at hx;simp at hx;subst hx;obtain ⟨_,a',a1,a2⟩ := g3 _ d hc;rw [a1] at hy;cases hy;exact a2)
  exact fin (va := va) (by simp only [lS,fW,hx.ev,e,gL,cM,g1,q1]; rfl) q2 r2 r3
 ·rename_i k p i off;simp only at hs;split at hs
  case h_2 => cases hs
  rename_i k' xs hp;split at hs
  case isFalse => cases hs
  rename_i sK;subst sK;split at hs
  case h_2 => cases hs
  rename_i el' hel;split at hs
  case h_2 => cases hs
  rename_i u hu;simp at hs;obtain ⟨rfl,rfl⟩ := hs;obtain ⟨hr,iK⟩ := rdn hu;obtain ⟨n,hn,e2⟩ := Fh h dg;have eQ := h.own p k' xs hp;rw [hn] at eQ;obtain ⟨cs,c1,c2,c3,c4⟩ := eQ;have mq : ∀ (j : Nat) (d : AV),el'.cells[j]? = some d -> fz d = true /\ ∃ a,cs[i * k' + j]? = some a /\ Le d a := fun j d hd => let ⟨f1,a,f2,_,f3⟩ := c4 _ d (zP c3 hel hd); ⟨f1,a,f2,f3⟩
  have oX : ∀ y ∈ el'.cells.drop off,pl y = true := by
   intro y hy;obtain ⟨j,hj⟩ := bG (c9 hy);exact (kh (mq j y hj).1).1
  have hv := plrd hr oX;have ai5 : el'.cells.length = k' := c3 el' (bg hel);have hi : (i + 1) * k' <= xs.length * k' := bM k' (aA hel);rw [cF] at hi
  obtain ⟨va,q1,q2⟩ := XK (ys := cs.drop (i * k' + off)) hr (by simp; omega) (fun j x y hx hy => by
   rw [aU] at hx hy;obtain ⟨_,a',a1,a2⟩ := mq _ x hx;rw [show i * k' + (off + j) = i * k' + off + j by omega] at a1;rw [a1] at hy;cases hy;exact a2)
  refine fin (va := va) (by simp only [lS,fW,hx.ev,e,gL,e2,c1,q1]; rfl) ?_ (tX _ hv) (k9 iK);rw [kG N iK,ks N _ hv];exact q2
theorem af7 (hm : P.follows .mixedOrders = true) (h : SB X φ w B base s (tm a)) (hg : Am.dZ (iO c) X φ w) {ag : Option Nat} {x : E} {ps : List Rt} (hk : cZ P o.op (lS (.ld ag x)) = true) (hs : xM s ag (bt c s.env x) = some (v,ps)) : lY P X φ w B base s v o a := by
 obtain ⟨N,Ha,h,hb⟩ := h;obtain ⟨o',ho⟩ := agZ hk;obtain ⟨va,fl,e,hle,h2,h3⟩ := aes h hg ho hs;refine lY.of (mw hm h hg hk e) fun v' w' φ' r hh ad => ?_;exact eG.quiet (h.my ad hh h.own (fun _ _ => rfl)) hb h2 h3 (hle _ _ _ r)
end
end Go.Bm
