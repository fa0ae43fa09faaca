/- The machine by value: what a state stands for. -/
import Derived.Test.YtmoginoicilobabGreatBmA
/- How a state by value stands for a state of the older machine. -/
set_option linter.unusedSimpArgs false
open Bool renaming and_eq_true → aa, or_eq_false_iff → eO
open List renaming ext_getElem? → dS, getElem?_append_left → aq, getElem?_append_right → aK, getElem?_drop → aQ, getElem?_eq_none → eF, getElem?_map → dQ, getElem?_of_mem → br, getElem?_set → bg, getElem?_set_ne → cP, getElem?_take → bf, length_drop → c9, length_map → jR, length_replicate → eH, length_take → bh, mem_append → aC, mem_cons → aU, mem_map_of_mem → nF, mem_of_getElem? → aR, mem_of_mem_drop → cF, mem_of_mem_take → cD, mem_singleton → cV, replicate → aO
open Nat renaming add_mul → cq, le_refl → aT, mul_le_mul_right → bD, zero_add → dM, zero_mul → fY
open Ne renaming symm → kj
open Option renaming isSome_iff_exists → aW, map_some → cX
open Option.some renaming inj → cK, injEq → ah
open Prod.mk renaming injEq → aF
namespace Go.Bm
open Go.Am

structure Names where
 β : Nat -> Nat
 ν : Rt -> Option Nat

mutual
def cW (N : Names) : AV -> AV
 | .dA k p off len => match N.ν p with
   | some n => .sl k n (off * k) len
   | none => .dJ
 | .eW k p i off => match N.ν p with
   | some n => .ptr n (i * k + off)
   | none => .any
 | .ptr b off => .ptr (N.β b) off
 | .agg cs => .agg (kt N cs)
 | .dD cs => .dD (kt N cs)
 | .func f a b => .func f (kt N a) (kt N b)
 | .own _ _ => .any
 | .sl k b off len => .sl k (N.β b) off len
 | .any => .any | .undef => .undef | .fk => .fk | .fu => .fu | .dJ => .dJ
 | .int k n => .int k n | .bool b => .bool b | .str s => .str s
 | .list k xs => .list k xs | .dI cs => .dI cs
def kt (N : Names) : List AV -> List AV
 | [] => []
 | x :: r => cW N x :: kt N r
end
def pd (N : Names) (p : Rt) (k len : Nat) : AV :=
 match N.ν p with
 | some n => .sl k n 0 len
 | none => .dJ
def iH (N : Names) (p : Rt) : AV -> AV
 | .own k xs => pd N p k xs.length
 | v => cW N v
def PM (N : Names) (f : Nat -> Rt) : Nat -> List AV -> List AV
 | _,[] => []
 | j,x :: r => iH N (f j) x :: PM N f (j + 1) r
def j9 (N : Names) (i : Nat) : AV -> AV
 | .agg cs => .agg (PM N (.sc i) 0 cs)
 | v => iH N (.s i) v
def yj (N : Names) : Env -> Env
 | [] => []
 | (i,v) :: r => (i,j9 N i v) :: yj N r

def Le (x y : AV) : Prop := ∀ R φ v,bI R φ y v -> bI R φ x v
theorem Le.refl (x : AV) : Le x x := fun _ _ _ h => h
theorem Le.trans {x y z : AV} (h : Le x y) (k : Le y z) : Le x z := fun R φ v r => h R φ v (k R φ v r)
theorem Le.any (y : AV) : Le .any y := fun _ _ _ _ => .any _ _
theorem Le.agg {xs ys : List AV} (hl : xs.length = ys.length) (h : ∀ (i : Nat) (x y : AV),xs[i]? = some x -> ys[i]? = some y -> Le x y) : Le (.agg xs) (.agg ys) := by
 intro R φ v r;cases r with
 | agg _ _ vs CW h2 =>
   refine .agg _ _ _ (hl.trans CW) fun i c u hc hu => ?_;obtain ⟨y,hy⟩ := aV (l := ys) (i := i) (by have := au hc; omega);exact h i c y hc hy _ _ _ (h2 i y u hy hu)
theorem Le.hO (k : Nat) : Le (.list k []) .dJ := by
 intro R φ v r;cases r with
 | dJ => exact .jC _ _

mutual
def cZ (o : Rt -> Option (Nat × List AV)) (nb : Nat) : AV -> Prop
 | .dA k p off len => ∃ xs,o p = some (k,xs) /\ off + len <= xs.length
 | .eW k p i _ => ∃ xs,o p = some (k,xs) /\ i < xs.length
 | .ptr b _ => b < nb
 | .agg cs => jU o nb cs
 | .dD cs => jU o nb cs
 | .func _ a b => jU o nb a /\ jU o nb b
 | .sl _ b _ _ => b < nb
 | _ => True
def jU (o : Rt -> Option (Nat × List AV)) (nb : Nat) : List AV -> Prop
 | [] => True
 | x :: r => cZ o nb x /\ jU o nb r
end
theorem iv {o : Rt -> Option (Nat × List AV)} {nb : Nat} : ∀ {cs : List AV},jU o nb cs ↔ ∀ (i : Nat) (c : AV),cs[i]? = some c -> cZ o nb c
 | [] => by simp [jU]
 | x :: r => by
   simp only [jU,iv (cs := r)];constructor
   ·rintro ⟨h1,h2⟩ i c hc;cases i with
    | zero => simp at hc; exact hc ▸ h1
    | succ i => exact h2 i c (by simpa using hc)
   ·intro h;exact ⟨h 0 x rfl,fun i c hc => h (i + 1) c (by simpa using hc)⟩

def ph (H : Heap) (o : Option Nat) (k : Nat) (xs : List AV) : Prop :=
 match o with
 | none => xs = []
 | some n => ∃ cs,aJ H n = some cs /\ xs.length * k <= cs.length /\ (∀ x ∈ xs,x.cells.length = k) /\ ∀ (i : Nat) (c : AV),(aA xs)[i]? = some c -> fz c = true /\ ∃ a,cs[i]? = some a /\ a.leaf = true /\ Le c a

structure eV (X : Nat -> Prop) (φ : dF) (w : World) (N : Names) (s : St) (Ha : Heap) (t : Nat -> Value) : Prop where
 env : ∀ i,bI (Rd X φ w) φ (j9 N i (get s.env i)) (t i)
 GQ : ∀ i,cZ (az s) s.H.length (get s.env i)
 heap : cJ X φ w Ha
 own : ∀ p k xs,az s p = some (k,xs) -> ph Ha (N.ν p) k xs
 box : ∀ b cs,aJ s.H b = some cs -> ∃ as,aJ Ha (N.β b) = some as /\ as.length = cs.length /\ ∀ (j : Nat) (c : AV),cs[j]? = some c -> cZ (az s) s.H.length c /\ ∃ a,as[j]? = some a /\ Le (iH N (.c b j) c) a
 inj : ∀ p q n,(az s p).isSome -> (az s q).isSome -> N.ν p = some n -> N.ν q = some n -> p = q
 bx : ∀ b p,(aJ s.H b).isSome -> (az s p).isSome -> N.ν p ≠ some (N.β b)
 bi : ∀ b c,(aJ s.H b).isSome -> (aJ s.H c).isSome -> N.β b = N.β c -> b = c

/-! Lists and places -/
theorem qP (N : Names) : ∀ (cs : List AV) (i : Nat),(kt N cs)[i]? = (cs[i]?).map (cW N)
 | [],i => by simp [kt]
 | x :: r,i => by cases i <;> simp [kt,qP N r]
theorem dZ (N : Names) : ∀ cs : List AV,(kt N cs).length = cs.length
 | [] => rfl
 | x :: r => by simp [kt,dZ N r]
theorem fO (N : Names) (f : Nat -> Rt) : ∀ (cs : List AV) (j i : Nat),(PM N f j cs)[i]? = (cs[i]?).map (iH N (f (j + i)))
 | [],j,i => by simp [PM]
 | x :: r,j,i => by
   cases i with
   | zero => simp [PM]
   | succ i => simp only [PM,List.getElem?_cons_succ,fO N f r]; rw [show j + 1 + i = j + (i + 1) by omega]
theorem hM (N : Names) (f : Nat -> Rt) : ∀ (cs : List AV) (j : Nat),(PM N f j cs).length = cs.length
 | [],j => rfl
 | x :: r,j => by simp [PM,hM N f r]
theorem eI (g : AV -> AV) : ∀ (cs : List AV) (i : Nat),(dp g cs)[i]? = (cs[i]?).map (cU g)
 | [],i => by simp [dp]
 | x :: r,i => by cases i <;> simp [dp,eI g r]
theorem cI (g : AV -> AV) : ∀ cs : List AV,(dp g cs).length = cs.length
 | [] => rfl
 | x :: r => by simp [dp,cI g r]
theorem kW (N : Names) : ∀ (e : Env) (i : Nat),get (yj N e) i = j9 N i (get e i)
 | [],i => rfl
 | (j,u) :: r,i => by
   simp only [yj,Am.get];split
   ·rename_i h; rw [h]
   ·exact kW N r i
theorem dt (g : AV -> AV) : ∀ (e : Env) (i : Nat),get (ji g e) i = cU g (get e i)
 | [],i => rfl
 | (j,u) :: r,i => by
   simp only [ji,Am.get];split
   ·rfl
   ·exact dt g r i
theorem E6 (g : AV -> AV) : ∀ (H : Heap) (b : Nat),(fy g H)[b]? = (H[b]?).map (Option.map (dp g))
 | [],b => by simp [fy]
 | none :: r,b => by cases b <;> simp [fy,E6 g r]
 | some cs :: r,b => by cases b <;> simp [fy,E6 g r]
theorem fX (g : AV -> AV) : ∀ H : Heap,(fy g H).length = H.length
 | [] => rfl
 | none :: r => by simp [fy,fX g r]
 | some cs :: r => by simp [fy,fX g r]
theorem dW (g : AV -> AV) (H : Heap) (b : Nat) : aJ (fy g H) b = (aJ H b).map (dp g) := by
 unfold aJ;rw [E6];cases H[b]? with
 | none => rfl
 | some o => cases o <;> rfl
theorem rL {H : Heap} {b : Nat} {cs : List AV} : aJ H b = some cs ↔ H[b]? = some (some cs) := by
 constructor
 ·exact uI
 ·intro h; unfold aJ; rw [h]
theorem eL {H : Heap} {b : Nat} {cs : List AV} (h : aJ H b = some cs) : b < H.length := au (uI h)
theorem dO (H : Heap) (b c : Nat) (x : List AV) : aJ (H.set b (some x)) c = if c = b /\ b < H.length then some x else aJ H c := by
 unfold aJ;rw [bg];by_cases h : b = c
 ·subst h;by_cases hl : b < H.length
  ·simp [hl]
  ·simp [hl,eF (Nat.le_of_not_lt hl)]
 ·simp [h,kj h]
theorem iE (H : Heap) (x : List AV) (c : Nat) : aJ (H ++ [some x]) c = if c = H.length then some x else aJ H c := by
 unfold aJ;by_cases h : c < H.length
 ·rw [aq h,if_neg (by omega)]
 ·rw [aK (by omega)];by_cases h2 : c = H.length
  ·subst h2; simp
  ·rw [if_neg h2,eF (l := H) (by omega),eF (by simp; omega)]

def jx (x : AV) : Prop := ∀ cs,x ≠ .agg cs
def NOwn (x : AV) : Prop := ∀ k xs,x ≠ .own k xs
def jI (g : AV -> AV) : Prop := ∀ k p o l,(jx (g (.dA k p o l)) /\ NOwn (g (.dA k p o l))) /\ (jx (g (.eW k p o l)) /\ NOwn (g (.eW k p o l)))
theorem tZ {g : AV -> AV} (hg : jI g) (x : AV) (k : Nat) (xs : List AV) : cU g x = .own k xs ↔ x = .own k xs := by
 cases x <;> simp [cU]
 ·exact (hg _ _ _ _).1.2 _ _
 ·exact (hg _ _ _ _).2.2 _ _
theorem N8 {g : AV -> AV} (hg : jI g) (x : AV) (cs : List AV) : cU g x = .agg cs ↔ ∃ ds,x = .agg ds /\ dp g ds = cs := by
 cases x <;> simp [cU]
 ·exact (hg _ _ _ _).1.1 _
 ·exact (hg _ _ _ _).2.1 _
theorem kD {g : AV -> AV} (hg : jI g) {x : AV} (h : jx x) : jx (cU g x) := by
 intro cs e;obtain ⟨ds,rfl,_⟩ := (N8 hg x cs).1 e;exact h _ rfl
theorem jc {g : AV -> AV} (hg : jI g) (s : St) (p : Rt) : at_ (bP g s) p = (at_ s p).map (cU g) := by
 cases p with
 | s i => simp [at_,bP,dt]
 | sc i j =>
   simp only [at_,bP,dt];generalize get s.env i = x;split
   ·rename_i cs h;obtain ⟨ds,rfl,rfl⟩ := (N8 hg x cs).1 h;simp [eI]
   ·rename_i h;split
    ·rename_i ds;exact absurd rfl (h (dp g ds))
    ·rfl
 | c b j =>
   simp only [at_,bP,dW];cases aJ s.H b with
   | none => rfl
   | some cs => simp [eI]
theorem cH {s : St} {p : Rt} {k : Nat} {xs : List AV} : az s p = some (k,xs) ↔ at_ s p = some (.own k xs) := by
 unfold az;split
 ·rename_i k' xs' h;rw [h];simp
 ·rename_i h;constructor
  ·intro h'; cases h'
  ·intro h'; exact absurd h' (h k xs)
theorem iK {g : AV -> AV} (hg : jI g) (s : St) (p : Rt) : az (bP g s) p = az s p := by
 cases h : az s p with
 | none =>
   cases h2 : az (bP g s) p with
   | none => rfl
   | some y =>
     obtain ⟨k,xs⟩ := y;rw [cH,jc hg] at h2;cases hx : at_ s p with
     | none => rw [hx] at h2; cases h2
     | some x =>
       rw [hx] at h2;simp only [cX,ah] at h2;rw [tZ hg] at h2;subst h2;rw [cH.2 hx] at h;cases h
 | some y =>
   obtain ⟨k,xs⟩ := y;rw [cH] at h ⊢;rw [jc hg,h];rfl

structure Shape (s s' : St) : Prop where
 agg : ∀ i cs,get s.env i = .agg cs -> ∃ ds,get s'.env i = .agg ds /\ ds.length = cs.length
 QG : ∀ i,jx (get s.env i) -> jx (get s'.env i)
 len : s'.H.length = s.H.length
 box : ∀ b cs,aJ s.H b = some cs -> ∃ ds,aJ s'.H b = some ds /\ ds.length = cs.length
 An : ∀ b,aJ s.H b = none -> aJ s'.H b = none
theorem Shape.refl (s : St) : Shape s s := ⟨fun _ cs h => ⟨cs,h,rfl⟩,fun _ h => h,rfl,fun _ cs h => ⟨cs,h,rfl⟩,fun _ h => h⟩
theorem Shape.trans {s s' s'' : St} (h : Shape s s') (k : Shape s' s'') : Shape s s'' :=
 ⟨fun i cs hc => let ⟨ds,h1,h2⟩ := h.agg i cs hc; let ⟨es,h3,h4⟩ := k.agg i ds h1; ⟨es,h3,h4.trans h2⟩,fun i hi => k.QG i (h.QG i hi),k.len.trans h.len,
  fun b cs hc => let ⟨ds,h1,h2⟩ := h.box b cs hc; let ⟨es,h3,h4⟩ := k.box b ds h1; ⟨es,h3,h4.trans h2⟩,fun b hb => k.An b (h.An b hb)⟩
theorem Shape.map {g : AV -> AV} (hg : jI g) (s : St) : Shape s (bP g s) where
 agg i cs h := ⟨dp g cs,by simp [bP,dt,h,cU],cI g cs⟩
 QG i h := by simp only [bP,dt]; exact kD hg h
 len := fX g s.H
 box b cs h := ⟨dp g cs,by simp [bP,dW,h],cI g cs⟩
 An b h := by simp [bP,dW,h]
def Lf (s : St) (r : Rt) : Prop := ∀ i,r = .s i -> jx (get s.env i)
def Fits (s : St) (p : Rt) (v : AV) : Prop := jx v /\ ∃ x,at_ s p = some x /\ jx x
theorem Shape.set {s : St} {p : Rt} {v : AV} (h : Fits s p v) : Shape s (setAt s p v) := by
 obtain ⟨hv,x,hx,hn⟩ := h;cases p with
 | s i =>
   simp only [at_,ah] at hx;refine ⟨fun j cs hc => ?_,fun j hj => ?_,rfl,fun b cs hc => ⟨cs,hc,rfl⟩,fun b hb => hb⟩
   ·simp only [setAt,bu];by_cases B7 : j = i
    ·subst B7; rw [hx] at hc; exact absurd hc (hn cs)
    ·rw [if_neg B7]; exact ⟨cs,hc,rfl⟩
   ·simp only [setAt,bu];by_cases B7 : j = i
    ·rw [if_pos B7]; exact hv
    ·rw [if_neg B7]; exact hj
 | sc i l =>
   simp only [at_] at hx;cases hg : get s.env i <;> rw [hg] at hx <;> simp at hx
   rename_i ds;have hs : setAt s (.sc i l) v = ⟨put s.env i (.agg (ds.set l v)),s.H⟩ := by simp [setAt,hg]
   rw [hs];refine ⟨fun j cs hc => ?_,fun j hj => ?_,rfl,fun b cs hc => ⟨cs,hc,rfl⟩,fun b hb => hb⟩
   ·simp only [bu];by_cases B7 : j = i
    ·subst B7; rw [hg] at hc; cases hc; exact ⟨_,if_pos rfl,by simp⟩
    ·rw [if_neg B7]; exact ⟨cs,hc,rfl⟩
   ·simp only [bu];by_cases B7 : j = i
    ·subst B7; exact absurd hg (hj ds)
    ·rw [if_neg B7]; exact hj
 | c b l =>
   simp only [at_] at hx;cases hg : aJ s.H b <;> rw [hg] at hx <;> simp at hx
   rename_i ds;have hs : setAt s (.c b l) v = ⟨s.env,s.H.set b (some (ds.set l v))⟩ := by simp [setAt,hg]
   rw [hs];refine ⟨fun j cs hc => ⟨cs,hc,rfl⟩,fun j hj => hj,by simp,fun d cs hc => ?_,fun d hd => ?_⟩
   ·rw [dO];by_cases hdb : d = b
    ·subst hdb; rw [hg] at hc; cases hc; exact ⟨_,if_pos ⟨rfl,eL hg⟩,by simp⟩
    ·rw [if_neg (fun h => hdb h.1)]; exact ⟨cs,hc,rfl⟩
   ·rw [dO];by_cases hdb : d = b
    ·subst hdb; rw [hg] at hd; cases hd
    ·rw [if_neg (fun h => hdb h.1)]; exact hd
theorem A9 {s : St} {p : Rt} {v : AV} (h : Fits s p v) {r : Rt} (hr : Lf s r) : at_ (setAt s p v) r = if r = p then some v else at_ s r := by
 obtain ⟨hv,x,hx,hn⟩ := h;cases p with
 | s i =>
   simp only [at_,ah] at hx;cases r with
   | s j => simp only [at_,setAt,bu]; by_cases B7 : j = i <;> simp [B7]
   | sc j l =>
     simp only [at_,setAt,bu];by_cases B7 : j = i
     ·subst B7;simp only [if_true,hx,reduceCtorEq,if_false];cases v <;> first | (exact absurd rfl (hv _)) | (cases x <;> first | (exact absurd rfl (hn _)) | rfl)
     ·simp [B7]
   | c b l => simp [at_,setAt]
 | sc i l =>
   simp only [at_] at hx;cases hg : get s.env i <;> rw [hg] at hx <;> simp at hx
   rename_i ds;have hs : setAt s (.sc i l) v = ⟨put s.env i (.agg (ds.set l v)),s.H⟩ := by simp [setAt,hg]
   rw [hs];cases r with
   | s j =>
     simp only [at_,bu,reduceCtorEq,if_false];by_cases B7 : j = i
     ·subst B7;exact absurd hg (hr j rfl ds)
     ·simp [B7]
   | sc j m =>
     simp only [at_,bu];by_cases B7 : j = i
     ·subst B7;simp only [if_true,hg,Rt.sc.injEq,true_and];rw [bg];by_cases hlm : l = m
      ·subst hlm;have := au hx;simp [this]
      ·simp [hlm,kj hlm]
     ·simp [B7]
   | c b m => simp [at_]
 | c b l =>
   simp only [at_] at hx;cases hg : aJ s.H b <;> rw [hg] at hx <;> simp at hx
   rename_i ds;have hs : setAt s (.c b l) v = ⟨s.env,s.H.set b (some (ds.set l v))⟩ := by simp [setAt,hg]
   rw [hs];cases r with
   | s j => simp [at_]
   | sc j m => simp [at_]
   | c d m =>
     simp only [at_,dO];by_cases hdb : d = b
     ·subst hdb;simp only [eL hg,and_self,if_true,hg,Rt.c.injEq,true_and];rw [bg];by_cases hlm : l = m
      ·subst hlm;have := au hx;simp [this]
      ·simp [hlm,kj hlm]
     ·simp [hdb]

theorem aad {N N' : Names} {i : Nat} {x y : AV} (h1 : ∀ cs,x = .agg cs -> ∃ ds,y = .agg ds /\ ds.length = cs.length /\ ∀ (j : Nat) (c d : AV),cs[j]? = some c -> ds[j]? = some d -> Le (iH N' (.sc i j) d) (iH N (.sc i j) c))
  (h2 : jx x -> jx y /\ Le (iH N' (.s i) y) (iH N (.s i) x)) : Le (j9 N' i y) (j9 N i x) := by
 by_cases hx : ∃ cs,x = .agg cs
 ·obtain ⟨cs,rfl⟩ := hx;obtain ⟨ds,rfl,hl,h⟩ := h1 cs rfl;simp only [j9];refine Le.agg (by simp [hM,hl]) fun j u v hu hv => ?_;rw [fO] at hu hv;simp only [dM] at hu hv;cases hd : ds[j]? with
  | none => rw [hd] at hu; cases hu
  | some d =>
    cases hc : cs[j]? with
    | none => rw [hc] at hv; cases hv
    | some c =>
      rw [hd] at hu; rw [hc] at hv;simp at hu hv;subst hu hv;exact h j c d hc hd
 ·have hn : jx x := fun cs e => hx ⟨cs,e⟩;obtain ⟨hy,hle⟩ := h2 hn;have e1 : j9 N' i y = iH N' (.s i) y := by cases y <;> first | rfl | exact absurd rfl (hy _)
  have e2 : j9 N i x = iH N (.s i) x := by cases x <;> first | rfl | exact absurd rfl (hn _)
  rw [e1,e2]; exact hle
theorem Gg {s : St} {i : Nat} {cs : List AV} (h : get s.env i = .agg cs) (j : Nat) : at_ s (.sc i j) = cs[j]? := by simp [at_,h]
theorem uJ {s : St} {b : Nat} {cs : List AV} (h : aJ s.H b = some cs) (j : Nat) : at_ s (.c b j) = cs[j]? := by simp [at_,h]
theorem EM {s : St} {p : Rt} (h : (az s p).isSome) : Lf s p := by
 intro i hi cs hc;subst hi;cases ho : az s (.s i) with
 | none => rw [ho] at h; cases h
 | some y =>
   obtain ⟨k,xs⟩ := y;rw [cH] at ho;simp [at_,hc] at ho
theorem ph.take {H : Heap} {o : Option Nat} {k m : Nat} {xs : List AV} (h : ph H o k xs) : ph H o k (xs.take m) := by
 cases o with
 | none => simp only [ph] at h ⊢; rw [h]; simp
 | some n =>
   simp only [ph] at h ⊢;obtain ⟨cs,h1,h2,h3,h4⟩ := h;refine ⟨cs,h1,?_,fun x hx => h3 x (cD hx),fun i c hc => ?_⟩
   ·rw [bh]; exact Nat.le_trans (bD k (Nat.min_le_right _ _)) h2
   ·refine h4 i c ?_
    have : ∀ (m : Nat) (l : List AV) (i : Nat) (c : AV),(aA (l.take m))[i]? = some c -> (aA l)[i]? = some c := by
     intro m
     induction m with
     | zero => intro l i c h; simp [aA] at h
     | succ m ih =>
       intro l i c h;cases l with
       | nil => simpa using h
       | cons y r =>
         simp only [List.take_succ_cons,aA] at h ⊢;rw [List.getElem?_append] at h ⊢;split
         ·rename_i bO; rw [if_pos bO] at h; exact h
         ·rename_i bO; rw [if_neg bO] at h; exact ih _ _ _ h
    exact this m xs i c hc
theorem EU {o : Rt -> Option (Nat × List AV)} {nb : Nat} {s : St} (h : ∀ r y,Lf s r -> at_ s r = some y -> cZ o nb y) :
  (∀ i,cZ o nb (get s.env i)) /\ ∀ b cs,aJ s.H b = some cs -> ∀ (j : Nat) (c : AV),cs[j]? = some c -> cZ o nb c := by
 refine ⟨fun i => ?_,fun b cs hb j c hc => h (.c b j) c (fun i e => by cases e) (by rw [uJ hb]; exact hc)⟩;by_cases hx : ∃ cs,get s.env i = .agg cs
 ·obtain ⟨cs,dC⟩ := hx;rw [dC];simp only [cZ];exact iv.2 fun j c hc => h (.sc i j) c (fun i e => by cases e) (by rw [Gg dC]; exact hc)
 ·exact h (.s i) _ (fun j e cs hc => by cases e; exact hx ⟨cs,hc⟩) rfl
theorem eV.yP {X : Nat -> Prop} {φ : dF} {w : World} {N : Names} {s : St} {Ha : Heap} {t : Nat -> Value} (h : eV X φ w N s Ha t) {r : Rt} {x : AV} (hx : at_ s r = some x) : cZ (az s) s.H.length x := by
 cases r with
 | s i => simp [at_] at hx; exact hx ▸ h.GQ i
 | sc i j =>
   simp only [at_] at hx;split at hx
   ·rename_i cs dC;have := h.GQ i;rw [dC] at this;simp only [cZ] at this;exact iv.1 this j x hx
   ·cases hx
 | c b j =>
   simp only [at_] at hx;split at hx
   ·rename_i cs dC;obtain ⟨as,_,_,h3⟩ := h.box b cs dC;exact (h3 j x hx).1
   ·cases hx
theorem Shape.back {s s' : St} (h : Shape s s') {r : Rt} {y : AV} (hl : Lf s' r) (hy : at_ s' r = some y) : Lf s r /\ ∃ x,at_ s r = some x := by
 cases r with
 | s i =>
   refine ⟨fun j e cs hc => ?_,_,rfl⟩;cases e;obtain ⟨ds,h1,_⟩ := h.agg i cs hc;exact hl i rfl ds h1
 | sc i j =>
   refine ⟨(fun j e => by cases e),?_⟩;simp only [at_] at hy ⊢;split at hy
   ·rename_i ds kc;by_cases hx : ∃ cs,get s.env i = .agg cs
    ·obtain ⟨cs,dC⟩ := hx;obtain ⟨es,h1,h2⟩ := h.agg i cs dC;rw [kc] at h1; cases h1;rw [dC];exact aV (by have := au hy; omega)
    ·exact absurd kc (h.QG i (fun cs e => hx ⟨cs,e⟩) ds)
   ·cases hy
 | c b j =>
   refine ⟨(fun j e => by cases e),?_⟩;simp only [at_] at hy ⊢;split at hy
   ·rename_i ds kc;cases hb : aJ s.H b with
    | none => rw [h.An b hb] at kc; cases kc
    | some cs =>
      obtain ⟨es,h1,h2⟩ := h.box b cs hb;rw [kc] at h1; cases h1;exact aV (by have := au hy; omega)
   ·cases hy
theorem eV.change {X : Nat -> Prop} {φ : dF} {w : World} {N N' : Names} {s s' : St} {Ha : Heap} {t : Nat -> Value} (h : eV X φ w N s Ha t) (eZ : N'.β = N.β) (hs : Shape s s')
  (hp : ∀ r x y,Lf s r -> at_ s r = some x -> at_ s' r = some y -> cZ (az s') s'.H.length y /\ Le (iH N' r y) (iH N r x))
  (src : Rt -> Rt) (ho : ∀ p k xs,az s' p = some (k,xs) -> ∃ ys,az s (src p) = some (k,ys) /\ N'.ν p = N.ν (src p) /\ ∃ m,xs = ys.take m)
  (hi : ∀ p q,(az s' p).isSome -> (az s' q).isSome -> src p = src q -> p = q) : eV X φ w N' s' Ha t := by
 have so : ∀ {p},(az s' p).isSome -> (az s (src p)).isSome /\ N'.ν p = N.ν (src p) := by
  intro p hp;cases e : az s' p with
  | none => rw [e] at hp; cases hp
  | some y => obtain ⟨ys,h1,h2,_⟩ := ho p y.1 y.2 e; exact ⟨by rw [h1]; rfl,h2⟩
 have sb : ∀ {b},(aJ s'.H b).isSome -> (aJ s.H b).isSome := by
  intro b hb;cases e : aJ s.H b with
  | none => rw [hs.An b e] at hb; cases hb
  | some _ => rfl
 obtain ⟨hk,hkc⟩ := EU (o := az s') (nb := s'.H.length) (s := s') fun r y hl hy => by
  obtain ⟨AO,x,hx⟩ := hs.back hl hy;exact (hp r x y AO hx hy).1
 refine ⟨fun i => ?_,hk,h.heap,fun p k xs e => ?_,fun b cs' e => ?_,fun p q n h1 h2 e1 e2 => ?_,fun b p h1 h2 e => ?_,fun b c h1 h2 e => ?_⟩
 ·refine aad (fun cs dC => ?_) (fun hn => ⟨hs.QG i hn,?_⟩) _ _ _ (h.env i)
  ·obtain ⟨ds,h1,h2⟩ := hs.agg i cs dC;refine ⟨ds,h1,h2,fun j c d hc hd => (hp (.sc i j) c d (fun i e => by cases e) ?_ ?_).2⟩
   ·rw [Gg dC]; exact hc
   ·rw [Gg h1]; exact hd
  ·exact (hp (.s i) _ _ (fun j e => by cases e; exact hn) rfl rfl).2
 ·obtain ⟨ys,h1,h2,m,rfl⟩ := ho p k xs e;rw [h2];exact (h.own _ _ _ h1).take
 ·cases hb : aJ s.H b with
  | none => rw [hs.An b hb] at e; cases e
  | some cs =>
    obtain ⟨ds,h1,h2⟩ := hs.box b cs hb;rw [e] at h1; cases h1;obtain ⟨as,g1,g2,g3⟩ := h.box b cs hb;refine ⟨as,by rw [eZ]; exact g1,by omega,fun j c hc => ⟨hkc b cs' e j c hc,?_⟩⟩;obtain ⟨d,hd⟩ := aV (l := cs) (i := j) (by have := au hc; omega);obtain ⟨_,a,g4,g5⟩ := g3 j d hd;exact ⟨a,g4,(hp (.c b j) d c (fun i e => by cases e) (by rw [uJ hb]; exact hd) (by rw [uJ e]; exact hc)).2.trans g5⟩
 ·obtain ⟨k1,k2⟩ := so h1;obtain ⟨k3,k4⟩ := so h2;exact hi p q h1 h2 (h.inj _ _ n k1 k3 (by rw [<- k2]; exact e1) (by rw [<- k4]; exact e2))
 ·obtain ⟨k1,k2⟩ := so h2;rw [k2,eZ] at e;exact h.bx b _ (sb h1) k1 e
 ·rw [eZ] at e;exact h.bi b c (sb h1) (sb h2) e

mutual
theorem Kq {N N' : Names} {o o' : Rt -> Option (Nat × List AV)} {nb : Nat} {g : AV -> AV} (eZ : N'.β = N.β) (hg : jI g)
  (hl : ∀ k p a l,(cZ o nb (.dA k p a l) -> cZ o' nb (g (.dA k p a l)) /\ Le (cW N' (g (.dA k p a l))) (cW N (.dA k p a l))) /\ (cZ o nb (.eW k p a l) -> cZ o' nb (g (.eW k p a l)) /\ Le (cW N' (g (.eW k p a l))) (cW N (.eW k p a l)))) :
  ∀ x,cZ o nb x -> cZ o' nb (cU g x) /\ Le (cW N' (cU g x)) (cW N x)
 | .dA k p a l,h => by simp only [cU]; exact (hl k p a l).1 h
 | .eW k p a l,h => by simp only [cU]; exact (hl k p a l).2 h
 | .agg cs,h => by
   simp only [cZ] at h;obtain ⟨h1,h2,h3⟩ := ud eZ hg hl cs h;simp only [cU,cZ,cW];exact ⟨h1,Le.agg h2 h3⟩
 | .dD cs,h => by
   simp only [cZ] at h;obtain ⟨h1,h2,h3⟩ := ud eZ hg hl cs h;simp only [cU,cZ,cW];refine ⟨h1,fun R φ v r => ?_⟩;cases r with
   | dD _ _ vs CW hh2 =>
     refine .dD _ _ _ (h2.trans CW) fun i c u hc hu => ?_;obtain ⟨y,hy⟩ := aV (l := kt N cs) (i := i) (by have := au hc; omega);exact h3 i c y hc hy _ _ _ (hh2 i y u hy hu)
 | .func f a b,h => by
   simp only [cZ] at h;obtain ⟨h1,h2,h3⟩ := ud eZ hg hl a h.1;obtain ⟨k1,k2,k3⟩ := ud eZ hg hl b h.2;simp only [cU,cZ,cW];refine ⟨⟨h1,k1⟩,fun R φ v r => ?_⟩;cases r with
   | func _ _ _ va _ vb zE zD ha hb =>
     refine .func _ _ _ _ _ _ (h2.trans zE) (k2.trans zD) (fun i c u hc hu => ?_) (fun i c u hc hu => ?_)
     ·obtain ⟨y,hy⟩ := aV (l := kt N a) (i := i) (by have := au hc; omega);exact h3 i c y hc hy _ _ _ (ha i y u hy hu)
     ·obtain ⟨y,hy⟩ := aV (l := kt N b) (i := i) (by have := au hc; omega);exact k3 i c y hc hy _ _ _ (hb i y u hy hu)
 | .any,h => ⟨h,Le.refl _⟩
 | .undef,h => ⟨h,Le.refl _⟩
 | .fk,h => ⟨h,Le.refl _⟩
 | .fu,h => ⟨h,Le.refl _⟩
 | .dJ,h => ⟨h,Le.refl _⟩
 | .int _ _,h => ⟨h,Le.refl _⟩
 | .bool _,h => ⟨h,Le.refl _⟩
 | .str _,h => ⟨h,Le.refl _⟩
 | .list _ _,h => ⟨h,Le.refl _⟩
 | .dI _,h => ⟨h,Le.refl _⟩
 | .own _ _,h => ⟨h,Le.refl _⟩
 | .sl k b off len,h => by simp only [cU,cW,eZ]; exact ⟨h,Le.refl _⟩
 | .ptr b off,h => by simp only [cU,cW,eZ]; exact ⟨h,Le.refl _⟩
theorem ud {N N' : Names} {o o' : Rt -> Option (Nat × List AV)} {nb : Nat} {g : AV -> AV} (eZ : N'.β = N.β) (hg : jI g)
  (hl : ∀ k p a l,(cZ o nb (.dA k p a l) -> cZ o' nb (g (.dA k p a l)) /\ Le (cW N' (g (.dA k p a l))) (cW N (.dA k p a l))) /\ (cZ o nb (.eW k p a l) -> cZ o' nb (g (.eW k p a l)) /\ Le (cW N' (g (.eW k p a l))) (cW N (.eW k p a l)))) :
  ∀ cs,jU o nb cs -> jU o' nb (dp g cs) /\ (kt N' (dp g cs)).length = (kt N cs).length /\ ∀ (i : Nat) (x y : AV),(kt N' (dp g cs))[i]? = some x -> (kt N cs)[i]? = some y -> Le x y
 | [],_ => ⟨trivial,rfl,fun i x y h => by simp [dp,kt] at h⟩
 | c :: r,h => by
   simp only [jU] at h;obtain ⟨h1,h2⟩ := Kq eZ hg hl c h.1;obtain ⟨k1,k2,k3⟩ := ud eZ hg hl r h.2;refine ⟨⟨h1,k1⟩,by simp [dp,kt,k2],fun i x y hx hy => ?_⟩;cases i with
   | zero => simp [dp,kt] at hx hy; subst hx hy; exact h2
   | succ i => simp [dp,kt] at hx hy; exact k3 i x y hx hy
end
theorem kF {N N' : Names} {o o' : Rt -> Option (Nat × List AV)} {nb : Nat} {g : AV -> AV} (eZ : N'.β = N.β) (hg : jI g)
  (hl : ∀ k p a l,(cZ o nb (.dA k p a l) -> cZ o' nb (g (.dA k p a l)) /\ Le (cW N' (g (.dA k p a l))) (cW N (.dA k p a l))) /\ (cZ o nb (.eW k p a l) -> cZ o' nb (g (.eW k p a l)) /\ Le (cW N' (g (.eW k p a l))) (cW N (.eW k p a l))))
  {r : Rt} {x : AV} (hr : ∀ k xs,x = .own k xs -> N'.ν r = N.ν r) (hx : cZ o nb x) : cZ o' nb (cU g x) /\ Le (iH N' r (cU g x)) (iH N r x) := by
 by_cases ho : ∃ k xs,x = .own k xs
 ·obtain ⟨k,xs,rfl⟩ := ho;simp only [cU,iH,pd,hr k xs rfl];exact ⟨trivial,Le.refl _⟩
 ·obtain ⟨h1,h2⟩ := Kq eZ hg hl x hx;refine ⟨h1,?_⟩
  have e1 : iH N' r (cU g x) = cW N' (cU g x) := by
   have : ∀ k xs,cU g x ≠ .own k xs := fun k xs e => ho ⟨k,xs,(tZ hg x k xs).1 e⟩;generalize cU g x = y at this;cases y <;> first | rfl | exact absurd rfl (this _ _)
  have e2 : iH N r x = cW N x := by cases x <;> first | rfl | exact absurd ⟨_,_,rfl⟩ ho
  rw [e1,e2];exact h2
theorem Lf.map {g : AV -> AV} (hg : jI g) {s : St} {r : Rt} (h : Lf s r) : Lf (bP g s) r := by
 intro i hi;simp only [bP,dt];exact kD hg (h i hi)
theorem Fb (p : Rt) : jI (sw p) := by
 intro k q o l;simp only [sw];constructor <;> (split <;> exact ⟨(fun cs e => by cases e),(fun k xs e => by cases e)⟩)
theorem ag2 (p q : Rt) (n : Nat) : jI (rt p q n) := by
 intro k r o l;simp only [rt];constructor <;> (repeat' split) <;> exact ⟨(fun cs e => by cases e),(fun k xs e => by cases e)⟩
theorem ag4 (p : Rt) (k : Nat) (xs : List AV) : jI (fb p k xs) := by
 intro k r o l;simp only [fb];constructor <;> (repeat' split) <;> exact ⟨(fun cs e => by cases e),(fun k xs e => by cases e)⟩
theorem ag3 (i d : Nat) : jI (Vv i d) := by
 intro k r o l;simp only [Vv];exact ⟨⟨(fun cs e => by cases e),(fun k xs e => by cases e)⟩,⟨(fun cs e => by cases e),(fun k xs e => by cases e)⟩⟩
theorem TU (i b off : Nat) : jI (dH i b off) := by
 intro k r o l;simp only [dH];exact ⟨⟨(fun cs e => by cases e),(fun k xs e => by cases e)⟩,⟨(fun cs e => by cases e),(fun k xs e => by cases e)⟩⟩
theorem vo : jI fi := by
 intro k r o l;cases r <;> exact ⟨⟨(fun cs e => by cases e),(fun k xs e => by cases e)⟩,⟨(fun cs e => by cases e),(fun k xs e => by cases e)⟩⟩
theorem ye {g : AV -> AV} (hg : jI g) {s : St} {p : Rt} {v x : AV} (hv : jx v) (hx : at_ s p = some x) (hn : jx x) {r : Rt} (hr : Lf s r) :
  at_ (setAt (bP g s) p v) r = if r = p then some v else (at_ s r).map (cU g) := by
 rw [A9 ⟨hv,cU g x,by rw [jc hg,hx]; rfl,kD hg hn⟩ (hr.map hg),jc hg]
theorem pL {g : AV -> AV} (hg : jI g) {s : St} {p : Rt} {v x : AV} (hv : jx v) (hx : at_ s p = some x) (hn : jx x) : Shape s (setAt (bP g s) p v) :=
 (Shape.map hg s).trans (Shape.set ⟨hv,cU g x,by rw [jc hg,hx]; rfl,kD hg hn⟩)
theorem J1 {s s' : St} {p q : Rt} (h : at_ s' p = at_ s q) : az s' p = az s q := by unfold az; rw [h]
theorem iJ {s s' : St} {p : Rt} (h : at_ s' p = at_ s p) : az s' p = az s p := by unfold az; rw [h]
theorem qu {s : St} {q : Rt} (h : ¬ Lf s q) : az s q = none := by
 cases e : az s q with
 | none => rfl
 | some y => exact absurd (EM (by rw [e]; rfl)) h
theorem Shape.nlf {s s' : St} (h : Shape s s') {q : Rt} (hq : ¬ Lf s q) : ¬ Lf s' q := fun hl => hq fun i hi cs hc => by
 obtain ⟨ds,h1,_⟩ := h.agg i cs hc;exact hl i hi ds h1
theorem ve {s s' : St} (jv : Shape s s') {f : Rt -> Option (Nat × List AV)} (hf : ∀ q,Lf s q -> az s' q = f q) (hn : ∀ q,¬ Lf s q -> f q = none) (q : Rt) : az s' q = f q := by
 by_cases hq : Lf s q
 ·exact hf q hq
 ·rw [hn q hq,qu (jv.nlf hq)]
theorem eV.drop {X : Nat -> Prop} {φ : dF} {w : World} {N : Names} {s : St} {Ha : Heap} {t : Nat -> Value} (h : eV X φ w N s Ha t) {p : Rt} {k : Nat} {xs : List AV} (hp : az s p = some (k,xs)) :
  eV X φ w N (setAt (bP (sw p) s) p .any) Ha t /\ (∀ q,az (setAt (bP (sw p) s) p .any) q = if q = p then none else az s q) /\ Shape s (setAt (bP (sw p) s) p .any) := by
 have s9 := cH.1 hp;have hn : jx (.own k xs) := fun cs e => by cases e
 have hv : jx .any := fun cs e => by cases e
 have jv := pL (Fb p) hv s9 hn;have key : ∀ {r},Lf s r -> at_ (setAt (bP (sw p) s) p .any) r = if r = p then some .any else (at_ s r).map (cU (sw p)) := fun hr => ye (Fb p) hv s9 hn hr
 have own : ∀ q,az (setAt (bP (sw p) s) p .any) q = if q = p then none else az s q := by
  refine ve jv (fun q hq => ?_) (fun q hq => ?_)
  ·have e := key hq;by_cases lY : q = p
   ·subst lY; rw [if_pos rfl] at e ⊢; unfold az; rw [e]
   ·rw [if_neg lY] at e ⊢;rw [<- iK (Fb p) s q];exact iJ (by rw [e,jc (Fb p)])
  ·split
   ·rfl
   ·exact qu hq
 refine ⟨h.change rfl jv (fun r x y hl hx hy => ?_) id (fun q k' ys e => ?_) (fun q r _ _ e => e),own,jv⟩
 ·rw [key hl] at hy;by_cases Cq : r = p
  ·rw [if_pos Cq] at hy;cases hy;exact ⟨trivial,Le.any _⟩
  ·rw [if_neg Cq,hx] at hy;simp at hy;subst hy;have := kF (N := N) (N' := N) (o := az s) (o' := az (setAt (bP (sw p) s) p .any)) (nb := s.H.length) rfl (Fb p) (fun k q a l => ?_) (r := r) (x := x) (fun _ _ _ => rfl) (h.yP hx)
   ·rw [jv.len]; exact this
   ·simp only [sw];refine ⟨fun ho => ?_,fun ho => ?_⟩
    ·split
     ·exact ⟨trivial,Le.any _⟩
     ·rename_i lY;simp only [cZ,own,if_neg lY] at ho ⊢;exact ⟨ho,Le.refl _⟩
    ·split
     ·exact ⟨trivial,Le.any _⟩
     ·rename_i lY;simp only [cZ,own,if_neg lY] at ho ⊢;exact ⟨ho,Le.refl _⟩
 ·rw [own] at e;split at e
  ·cases e
  ·exact ⟨ys,e,rfl,ys.length,by simp⟩
theorem eV.give {X : Nat -> Prop} {φ : dF} {w : World} {N : Names} {s : St} {Ha : Heap} {t : Nat -> Value} (h : eV X φ w N s Ha t) {p q : Rt} {k k' len : Nat} {xs : List AV} (hp : az s p = some (k,xs)) (hq : at_ s q = some (.dA k' p 0 len)) :
  ∃ N',N'.β = N.β /\ eV X φ w N' (setAt (setAt (bP (rt p q len) s) p .any) q (.own k (xs.take len))) Ha t /\ (∀ r,az (setAt (setAt (bP (rt p q len) s) p .any) q (.own k (xs.take len))) r = if r = q then some (k,xs.take len) else if r = p then none else az s r) /\
   Shape s (setAt (setAt (bP (rt p q len) s) p .any) q (.own k (xs.take len))) := by
 have dy := h.yP hq;simp only [cZ,hp,ah,aF] at dy;obtain ⟨_,⟨rfl,rfl⟩,hle⟩ := dy;have s9 := cH.1 hp;have hn : jx (.own k xs) := fun cs e => by cases e
 have hv : jx .any := fun cs e => by cases e
 have lY : q ≠ p := by rintro rfl; rw [s9] at hq; cases hq
 have qn : az s q = none := by unfold az; rw [hq]
 have hg := ag2 p q len;have key1 : ∀ {r},Lf s r -> at_ (setAt (bP (rt p q len) s) p .any) r = if r = p then some .any else (at_ s r).map (cU (rt p q len)) := fun hr => ye hg hv s9 hn hr;have hsh1 : Shape s (setAt (bP (rt p q len) s) p .any) := pL hg hv s9 hn;have hlq : Lf s q := fun i hi cs hc => by subst hi; simp [at_,hc] at hq
 have Lb : at_ (setAt (bP (rt p q len) s) p .any) q = some (cU (rt p q len) (.dA k p 0 len)) := by rw [key1 hlq,if_neg lY,hq]; rfl
 have T7 : jx (cU (rt p q len) (.dA k p 0 len)) := kD hg fun cs e => by cases e
 have hv1 : jx (.own k (xs.take len)) := fun cs e => by cases e
 have hsh2 : Shape s (setAt (setAt (bP (rt p q len) s) p .any) q (.own k (xs.take len))) := hsh1.trans (Shape.set ⟨hv1,_,Lb,T7⟩);have lf1 : ∀ {r},Lf s r -> Lf (setAt (bP (rt p q len) s) p .any) r := fun hr i hi => hsh1.QG i (hr i hi)
 have key : ∀ {r},Lf s r -> at_ (setAt (setAt (bP (rt p q len) s) p .any) q (.own k (xs.take len))) r = if r = q then some (.own k (xs.take len)) else if r = p then some .any else (at_ s r).map (cU (rt p q len)) := by
  intro r hr;rw [A9 ⟨hv1,_,Lb,T7⟩ (lf1 hr),key1 hr]
 have own : ∀ r,az (setAt (setAt (bP (rt p q len) s) p .any) q (.own k (xs.take len))) r = if r = q then some (k,xs.take len) else if r = p then none else az s r := by
  refine ve hsh2 (fun r hr => ?_) (fun r hr => ?_)
  ·have e := key hr;by_cases h1 : r = q
   ·rw [if_pos h1] at e ⊢; exact cH.2 e
   ·rw [if_neg h1] at e ⊢;by_cases h2 : r = p
    ·rw [if_pos h2] at e ⊢; unfold az; rw [e]
    ·rw [if_neg h2] at e ⊢;rw [<- iK hg s r];exact iJ (by rw [e,jc hg])
  ·rw [if_neg (by rintro rfl; exact hr hlq)];split
   ·rfl
   ·exact qu hr
 refine ⟨⟨N.β,fun r => if r = q then N.ν p else N.ν r⟩,rfl,h.change rfl hsh2 (fun r x y hl hx hy => ?_) (fun r => if r = q then p else r) (fun r k' ys e => ?_) (fun r1 r2 e1 e2 e => ?_),own,hsh2⟩
 ·rw [key hl] at hy;by_cases h1 : r = q
  ·rw [if_pos h1] at hy;subst h1;rw [hq] at hx;cases hx;cases hy;refine ⟨trivial,?_⟩;have hlen : (xs.take len).length = len := by rw [bh]; omega
   simp only [iH,cW,pd,if_true,hlen,fY];exact Le.refl _
  ·rw [if_neg h1] at hy;by_cases h2 : r = p
   ·rw [if_pos h2] at hy;cases hy;exact ⟨trivial,Le.any _⟩
   ·rw [if_neg h2,hx] at hy;simp at hy;subst hy;have := kF (N := N) (N' := ⟨N.β,fun r => if r = q then N.ν p else N.ν r⟩) (o := az s) (o' := az (setAt (setAt (bP (rt p q len) s) p .any) q (.own k (xs.take len)))) (nb := s.H.length) rfl hg (fun kk r' a l => ?_) (r := r) (x := x) (fun _ _ _ => by simp [h1]) (h.yP hx)
    ·rw [hsh2.len]; exact this
    ·simp only [rt];refine ⟨fun ho => ?_,fun ho => ?_⟩
     ·split
      ·rename_i Cq;subst Cq;split
       ·rename_i hal;simp only [cZ,hp,ah,aF] at ho;obtain ⟨_,⟨rfl,rfl⟩,_⟩ := ho;refine ⟨?_,?_⟩
        ·simp only [cZ,own,if_true];exact ⟨_,rfl,by rw [bh]; omega⟩
        ·simp only [cW,if_true]; exact Le.refl _
       ·exact ⟨trivial,Le.any _⟩
      ·rename_i Cq;simp only [cZ] at ho ⊢;obtain ⟨zs,hz,hz2⟩ := ho;have hrq : r' ≠ q := by rintro rfl; rw [qn] at hz; cases hz
       refine ⟨⟨zs,by rw [own,if_neg hrq,if_neg Cq]; exact hz,hz2⟩,?_⟩;simp only [cW,if_neg hrq]; exact Le.refl _
     ·split
      ·rename_i Cq;subst Cq;split
       ·rename_i hal;simp only [cZ,hp,ah,aF] at ho;obtain ⟨_,⟨rfl,rfl⟩,_⟩ := ho;refine ⟨?_,?_⟩
        ·simp only [cZ,own,if_true];exact ⟨_,rfl,by rw [bh]; omega⟩
        ·simp only [cW,if_true]; exact Le.refl _
       ·exact ⟨trivial,Le.any _⟩
      ·rename_i Cq;simp only [cZ] at ho ⊢;obtain ⟨zs,hz,hz2⟩ := ho;have hrq : r' ≠ q := by rintro rfl; rw [qn] at hz; cases hz
       refine ⟨⟨zs,by rw [own,if_neg hrq,if_neg Cq]; exact hz,hz2⟩,?_⟩;simp only [cW,if_neg hrq]; exact Le.refl _
 ·rw [own] at e;by_cases h1 : r = q
  ·rw [if_pos h1] at e;simp only [ah,aF] at e;obtain ⟨rfl,rfl⟩ := e;exact ⟨xs,by simp [h1,hp],by simp [h1,lY.symm],len,rfl⟩
  ·rw [if_neg h1] at e;by_cases h2 : r = p
   ·rw [if_pos h2] at e; cases e
   ·rw [if_neg h2] at e;exact ⟨ys,by simp [h1,e],by simp [h1],ys.length,by simp⟩
 ·have np : ∀ r,(az (setAt (setAt (bP (rt p q len) s) p .any) q (.own k (xs.take len))) r).isSome -> r ≠ p := by
   intro r hr e;subst e;rw [own,if_neg (kj lY),if_pos rfl] at hr;cases hr
  by_cases h1 : r1 = q <;> by_cases h2 : r2 = q
  ·rw [h1,h2]
  ·simp only [h1,h2,if_true,if_false] at e;exact absurd e.symm (np r2 e2)
  ·simp only [h1,h2,if_true,if_false] at e;exact absurd e (np r1 e1)
  ·simpa only [h1,h2,if_false] using e
end Go.Bm

/- What is owned becomes a value by value. -/
namespace Go.Bm
open Go.Am

theorem zg {k : Nat} : ∀ {xs : List AV},(∀ x ∈ xs,x.cells.length = k) -> ∀ {i j : Nat} {x c : AV},xs[i]? = some x -> x.cells[j]? = some c -> (aA xs)[i * k + j]? = some c
 | [],_,i,j,x,c,h,_ => by simp at h
 | y :: r,hk,i,j,x,c,h,hc => by
   have hy := hk y (by simp);cases i with
   | zero =>
     simp at h; subst h;simp only [aA,fY,dM];rw [aq (au hc)];exact hc
   | succ i =>
     simp at h;have := zg (xs := r) (fun z hz => hk z (by simp [hz])) h hc;simp only [aA];rw [aK (by rw [hy,cq]; omega),hy,cq,show i * k + 1 * k + j - k = i * k + j by omega];exact this
mutual
theorem gU : ∀ x : AV,pl x = true -> x.plain = true
 | .agg cs,h => by simp only [pl] at h; simp only [AV.plain]; exact qo cs h
 | .dD cs,h => by simp only [pl] at h; simp only [AV.plain]; exact qo cs h
 | .func _ a b,h => by simp only [pl,aa] at h; simp only [AV.plain,aa]; exact ⟨qo a h.1,qo b h.2⟩
 | .any,_ => rfl
 | .undef,_ => rfl
 | .fk,_ => rfl
 | .fu,_ => rfl
 | .dJ,_ => rfl
 | .int _ _,_ => rfl
 | .bool _,_ => rfl
 | .str _,_ => rfl
 | .list _ _,_ => rfl
 | .dI _,_ => rfl
 | .own _ _,h => by simp [pl] at h
 | .dA _ _ _ _,h => by simp [pl] at h
 | .eW _ _ _ _,h => by simp [pl] at h
 | .ptr _ _,h => by simp [pl] at h
 | .sl _ _ _ _,h => by simp [pl] at h
theorem qo : ∀ cs : List AV,dK cs = true -> pO cs = true
 | [],_ => rfl
 | x :: r,h => by simp only [dK,aa] at h; simp only [pO,aa]; exact ⟨gU x h.1,qo r h.2⟩
end
theorem iC {c : AV} (h : fz c = true) : pl c = true /\ c.leaf = true := by
 unfold fz at h;simp only [aa] at h;exact ⟨h.2,h.1⟩
section
variable {X : Nat -> Prop} {φ : dF} {w : World} {Ha : Heap}
theorem nD (h : cJ X φ w Ha) {n k : Nat} {xs : List AV} (ho : ph Ha (some n) k xs) :
  ∃ g sz,φ[n]? = some (some (g,sz)) /\ ¬ X g /\ ∀ (i j : Nat) (x c : AV),xs[i]? = some x -> x.cells[j]? = some c -> ∃ u,w.cell? ⟨g,i * k + j,none⟩ = some u /\ fz c = true /\ bI (Rd X φ w) [] c u := by
 obtain ⟨cs,h1,h2,h3,h4⟩ := ho;obtain ⟨g,sz,arr,e,g1,g2,g3,g4,g5,g6⟩ := h.at h1;refine ⟨g,sz,g1,g5,fun i j x c hx hc => ?_⟩;obtain ⟨f1,a,f2,_,f3⟩ := h4 _ c (zg h3 hx hc);obtain ⟨u,u1,u2⟩ := g6 _ a f2;exact ⟨u,by rw [gY g2]; exact u1,f1,(f3 _ _ _ u2).dU (gU _ (iC f1).1) []⟩
theorem XV {n g sz : Nat} (h : cJ X φ w Ha) (jK : φ[n]? = some (some (g,sz))) {o : Nat} {u : Value} (hX : ¬ X g) (hu : w.cell? ⟨g,o,none⟩ = some u) : Rd X (φ.set n none) w ⟨g,o,none⟩ u := by
 refine ⟨hX,fun ⟨b,lk,hb⟩ => ?_,hu⟩;rw [bg] at hb;split at hb
 ·split at hb <;> simp at hb
 ·rename_i sO;exact sO (h.inj n b g sz lk jK hb)
theorem XU (n : Nat) : ∀ a u,Rd X φ w a u -> Rd X (φ.set n none) w a u := fun _ _ ⟨h1,h2,h3⟩ => ⟨h1,fun h => h2 (Ah h),h3⟩
theorem F8 (h : cJ X φ w Ha) {n k : Nat} {xs : List AV} (ho : ph Ha (some n) k xs) {off len : Nat} (hle : off + len <= xs.length) {v : Value} (r : bI (Rd X φ w) φ (.sl k n (off * k) len) v) (ψ : dF) :
  bI (Rd X (φ.set n none) w) ψ (.list k ((xs.drop off).take len)) v := by
 obtain ⟨g,sz,jK,hX,hc⟩ := nD h ho;cases r with
 | sl _ _ _ _ _ a cap hb fD hh =>
   obtain ⟨h1,h2⟩ := hh g sz jK;by_cases h0 : len = 0
   ·subst h0;simp only [List.take_zero];exact .qC _ _ _ _ _ _ (fun _ _ => undef) rfl fD (fun x hx => by simp at hx) (fun i j x c hx => by simp at hx) (fun i j x c hx => by simp at hx)
   ·have ha := h1 (by omega);subst ha
    have hx : ∀ (i : Nat) (x : AV),((xs.drop off).take len)[i]? = some x -> xs[off + i]? = some x /\ i < len := by
     intro i x hx;rw [bf] at hx;split at hx
     ·rw [aQ] at hx; exact ⟨hx,‹_›⟩
     ·cases hx
    obtain ⟨cs,q1,q2,hk,q4⟩ := ho;refine .qC _ _ _ _ _ _ (fun i j => (w.cell? ⟨g,(off + i) * k + j,none⟩).getD undef) (by simp; omega) fD (fun x hm => ?_) (fun i j x c hi hj => ?_) (fun i j x c hi hj => ?_)
    ·exact hk x (cF (cD hm))
    ·obtain ⟨u,u1,_,_⟩ := hc _ j x c (hx i x hi).1 hj;rw [u1,Addr.gG,show off * k + (i * k + j) = (off + i) * k + j by rw [cq]; omega];exact XV h jK hX u1
    ·obtain ⟨u,u1,_,u3⟩ := hc _ j x c (hx i x hi).1 hj;rw [u1];exact u3.mono (XU n) (.refl _)
theorem Wy (h : cJ X φ w Ha) {n k : Nat} {xs : List AV} (ho : ph Ha (some n) k xs) {i o : Nat} {x : AV} (hx : xs[i]? = some x) {v : Value} (r : bI (Rd X φ w) φ (.ptr n (i * k + o)) v) (ψ : dF) :
  bI (Rd X (φ.set n none) w) ψ (.dI (x.cells.drop o)) v := by
 obtain ⟨g,sz,jK,hX,hc⟩ := nD h ho;cases r with
 | ptr _ _ _ a hb hh =>
   have ha := hh g sz jK;subst ha;refine .dI _ _ _ (fun j => (w.cell? ⟨g,i * k + (o + j),none⟩).getD undef) (fun j c hj => ?_) (fun j c hj => ?_)
   ·rw [aQ] at hj;obtain ⟨u,u1,_,_⟩ := hc i (o + j) x c hx hj;rw [u1,Addr.gG,show i * k + o + j = i * k + (o + j) by omega];exact XV h jK hX u1
   ·rw [aQ] at hj;obtain ⟨u,u1,_,u3⟩ := hc i (o + j) x c hx hj;rw [u1];exact u3.mono (XU n) (.refl _)
end
theorem abv {R R' : Addr -> Value -> Prop} {φ φ' : dF} {N N' : Names} {i : Nat} {x y : AV} (h1 : ∀ cs,x = .agg cs -> ∃ ds,y = .agg ds /\ ds.length = cs.length /\ ∀ (j : Nat) (c d : AV),cs[j]? = some c -> ds[j]? = some d -> ∀ u,bI R φ (iH N (.sc i j) c) u -> bI R' φ' (iH N' (.sc i j) d) u)
  (h2 : jx x -> jx y /\ ∀ v,bI R φ (iH N (.s i) x) v -> bI R' φ' (iH N' (.s i) y) v) {v : Value} (hv : bI R φ (j9 N i x) v) : bI R' φ' (j9 N' i y) v := by
 by_cases hx : ∃ cs,x = .agg cs
 ·obtain ⟨cs,rfl⟩ := hx;obtain ⟨ds,rfl,hl,h⟩ := h1 cs rfl;simp only [j9] at hv ⊢;cases hv with
  | agg _ _ vs CW hh =>
    rw [hM] at CW;refine .agg _ _ _ (by rw [hM]; omega) fun j c u hc hu => ?_;rw [fO] at hc;simp only [dM] at hc;cases hd : ds[j]? with
    | none => rw [hd] at hc; cases hc
    | some d =>
      rw [hd] at hc;simp at hc;subst hc;obtain ⟨c,hc⟩ := aV (l := cs) (i := j) (by have := au hd; omega);exact h j c d hc hd u (hh j _ u (by rw [fO,hc]; simp) hu)
 ·have hn : jx x := fun cs e => hx ⟨cs,e⟩;obtain ⟨hy,hle⟩ := h2 hn;have e1 : j9 N' i y = iH N' (.s i) y := by cases y <;> first | rfl | exact absurd rfl (hy _)
  have e2 : j9 N i x = iH N (.s i) x := by cases x <;> first | rfl | exact absurd rfl (hn _)
  rw [e2] at hv;rw [e1];exact hle v hv
mutual
theorem LS {R R' : Addr -> Value -> Prop} {φ φ' : dF} {N N' : Names} {o o' : Rt -> Option (Nat × List AV)} {nb : Nat} {g : AV -> AV} (hR : ∀ a u,R a u -> R' a u) (jK : uQ φ φ') (eZ : N'.β = N.β)
  (hl : ∀ k p a l,(cZ o nb (.dA k p a l) -> cZ o' nb (g (.dA k p a l)) /\ ∀ v,bI R φ (cW N (.dA k p a l)) v -> bI R' φ' (cW N' (g (.dA k p a l))) v) /\ (cZ o nb (.eW k p a l) -> cZ o' nb (g (.eW k p a l)) /\ ∀ v,bI R φ (cW N (.eW k p a l)) v -> bI R' φ' (cW N' (g (.eW k p a l))) v)) :
  ∀ x,cZ o nb x -> cZ o' nb (cU g x) /\ ∀ v,bI R φ (cW N x) v -> bI R' φ' (cW N' (cU g x)) v
 | .dA k p a l,h => by simp only [cU]; exact (hl k p a l).1 h
 | .eW k p a l,h => by simp only [cU]; exact (hl k p a l).2 h
 | .agg cs,h => by
   simp only [cZ] at h;obtain ⟨h1,h3⟩ := qk hR jK eZ hl cs h;simp only [cU,cZ,cW];refine ⟨h1,fun v r => ?_⟩;cases r with
   | agg _ _ vs CW hh2 =>
     refine .agg _ _ _ (by simp only [dZ,cI] at CW ⊢; exact CW) fun i c u hc hu => ?_;exact h3 i c u hc (fun y hy => hh2 i y u hy hu)
 | .dD cs,h => by
   simp only [cZ] at h;obtain ⟨h1,h3⟩ := qk hR jK eZ hl cs h;simp only [cU,cZ,cW];refine ⟨h1,fun v r => ?_⟩;cases r with
   | dD _ _ vs CW hh2 =>
     refine .dD _ _ _ (by simp only [dZ,cI] at CW ⊢; exact CW) fun i c u hc hu => ?_;exact h3 i c u hc (fun y hy => hh2 i y u hy hu)
 | .func f a b,h => by
   simp only [cZ] at h;obtain ⟨h1,h3⟩ := qk hR jK eZ hl a h.1;obtain ⟨k1,k3⟩ := qk hR jK eZ hl b h.2;simp only [cU,cZ,cW];refine ⟨⟨h1,k1⟩,fun v r => ?_⟩;cases r with
   | func _ _ _ va _ vb zE zD ha hb =>
     refine .func _ _ _ _ _ _ (by simp only [dZ,cI] at zE ⊢; exact zE) (by simp only [dZ,cI] at zD ⊢; exact zD) (fun i c u hc hu => ?_) (fun i c u hc hu => ?_)
     ·exact h3 i c u hc (fun y hy => ha i y u hy hu)
     ·exact k3 i c u hc (fun y hy => hb i y u hy hu)
 | .any,h => ⟨h,fun v r => r.mono hR jK⟩
 | .undef,h => ⟨h,fun v r => r.mono hR jK⟩
 | .fk,h => ⟨h,fun v r => r.mono hR jK⟩
 | .fu,h => ⟨h,fun v r => r.mono hR jK⟩
 | .dJ,h => ⟨h,fun v r => r.mono hR jK⟩
 | .int _ _,h => ⟨h,fun v r => r.mono hR jK⟩
 | .bool _,h => ⟨h,fun v r => r.mono hR jK⟩
 | .str _,h => ⟨h,fun v r => r.mono hR jK⟩
 | .list _ _,h => ⟨h,fun v r => r.mono hR jK⟩
 | .dI _,h => ⟨h,fun v r => r.mono hR jK⟩
 | .own _ _,h => ⟨h,fun v r => r.mono hR jK⟩
 | .sl _ b _ _,h => by simp only [cU,cW,eZ]; exact ⟨h,fun v r => r.mono hR jK⟩
 | .ptr b off,h => by simp only [cU,cW,eZ]; exact ⟨h,fun v r => r.mono hR jK⟩
theorem qk {R R' : Addr -> Value -> Prop} {φ φ' : dF} {N N' : Names} {o o' : Rt -> Option (Nat × List AV)} {nb : Nat} {g : AV -> AV} (hR : ∀ a u,R a u -> R' a u) (jK : uQ φ φ') (eZ : N'.β = N.β)
  (hl : ∀ k p a l,(cZ o nb (.dA k p a l) -> cZ o' nb (g (.dA k p a l)) /\ ∀ v,bI R φ (cW N (.dA k p a l)) v -> bI R' φ' (cW N' (g (.dA k p a l))) v) /\ (cZ o nb (.eW k p a l) -> cZ o' nb (g (.eW k p a l)) /\ ∀ v,bI R φ (cW N (.eW k p a l)) v -> bI R' φ' (cW N' (g (.eW k p a l))) v)) :
  ∀ cs,jU o nb cs -> jU o' nb (dp g cs) /\ ∀ (i : Nat) (x : AV) (u : Value),(kt N' (dp g cs))[i]? = some x -> (∀ y,(kt N cs)[i]? = some y -> bI R φ y u) -> bI R' φ' x u
 | [],_ => ⟨trivial,fun i x u h => by simp [dp,kt] at h⟩
 | c :: r,h => by
   simp only [jU] at h;obtain ⟨h1,h2⟩ := LS hR jK eZ hl c h.1;obtain ⟨k1,k3⟩ := qk hR jK eZ hl r h.2;refine ⟨⟨h1,k1⟩,fun i x u hx hy => ?_⟩;cases i with
   | zero => simp [dp,kt] at hx hy; subst hx; exact h2 u hy
   | succ i => simp [dp,kt] at hx hy; exact k3 i x u hx hy
end
theorem ux (L : Nat) (G : Nat -> PB) : ∃ H : Heap,H.length = L /\ ∀ m,m < L -> H[m]? = some (G m) :=
 ⟨(List.range L).map G,by simp,fun m hm => by simp [hm]⟩
theorem I7 {N N' : Names} {g : AV -> AV} (hg : jI g) {r : Rt} {x : AV} (ho : NOwn x) : iH N r x = cW N x /\ iH N' r (cU g x) = cW N' (cU g x) := by
 constructor
 ·cases x <;> first | rfl | exact absurd rfl (ho _ _)
 ·have : ∀ k xs,cU g x ≠ .own k xs := fun k xs e => ho k xs ((tZ hg x k xs).1 e);generalize cU g x = y at this;cases y <;> first | rfl | exact absurd rfl (this _ _)
theorem eV.AW {X : Nat -> Prop} {φ : dF} {w : World} {N : Names} {s : St} {Ha : Heap} {t : Nat -> Value} (h : eV X φ w N s Ha t) (p : Rt) :
  ∃ φ' Ha',eV X φ' w N (Fw s p) Ha' t /\ fo φ w φ' w /\ (∀ q,az (Fw s p) q = if q = p then none else az s q) /\ Shape s (Fw s p) := by
 unfold Fw;cases hp : az s p with
 | none =>
   refine ⟨φ,Ha,h,.refl _ _,fun q => ?_,.refl _⟩;by_cases e : q = p
   ·rw [if_pos e,e]; exact hp
   ·rw [if_neg e]
 | some y =>
   obtain ⟨k,xs⟩ := y;simp only;have s9 := cH.1 hp;have hn : jx (.own k xs) := fun cs e => by cases e
   have hv : jx (.list k xs) := fun cs e => by cases e
   have hg := ag4 p k xs;have jv := pL hg hv s9 hn;generalize hs' : setAt (bP (fb p k xs) s) p (.list k xs) = s' at jv ⊢;have key : ∀ {r},Lf s r -> at_ s' r = if r = p then some (.list k xs) else (at_ s r).map (cU (fb p k xs)) := fun hr => by rw [<- hs']; exact ye hg hv s9 hn hr
   have own : ∀ q,az s' q = if q = p then none else az s q := by
    refine ve jv (fun q hq => ?_) (fun q hq => ?_)
    ·have e := key hq;by_cases lY : q = p
     ·subst lY; rw [if_pos rfl] at e ⊢; unfold az; rw [e]
     ·rw [if_neg lY] at e ⊢;rw [<- iK hg s q];exact iJ (by rw [e,jc hg])
    ·split
     ·rfl
     ·exact qu hq
   have eQ := h.own p k xs hp;cases lh : N.ν p with
   | none =>
     rw [lh] at eQ;have eQ : xs = [] := eQ;subst eQ;refine ⟨φ,Ha,h.change rfl jv (fun r x y hl hx hy => ?_) id (fun q k' ys e => ?_) (fun q r _ _ e => e),.refl _ _,own,jv⟩
     ·rw [key hl] at hy;by_cases Cq : r = p
      ·rw [if_pos Cq] at hy;subst Cq;rw [s9] at hx;cases hx; cases hy;refine ⟨trivial,?_⟩;simp only [iH,cW,pd,lh];exact Le.hO k
      ·rw [if_neg Cq,hx] at hy;simp at hy;subst hy;have := kF (N := N) (N' := N) (o := az s) (o' := az s') (nb := s.H.length) rfl hg (fun k' q a l => ?_) (r := r) (x := x) (fun _ _ _ => rfl) (h.yP hx)
       ·rw [jv.len]; exact this
       ·simp only [fb];refine ⟨fun ho => ?_,fun ho => ?_⟩
        ·by_cases lY : q = p
         ·rw [if_pos lY];subst lY;simp only [cZ,hp,ah,aF] at ho;obtain ⟨_,⟨rfl,rfl⟩,hle⟩ := ho;rw [if_pos ⟨rfl,hle⟩];refine ⟨trivial,?_⟩;simp only [cW,lh,List.drop_nil,List.take_nil];exact Le.hO k
         ·rw [if_neg lY];simp only [cZ,own,if_neg lY] at ho ⊢;exact ⟨ho,Le.refl _⟩
        ·by_cases lY : q = p
         ·subst lY;simp only [cZ,hp,ah,aF] at ho;obtain ⟨_,⟨rfl,rfl⟩,hle⟩ := ho;simp at hle
         ·rw [if_neg lY];simp only [cZ,own,if_neg lY] at ho ⊢;exact ⟨ho,Le.refl _⟩
     ·rw [own] at e;split at e
      ·cases e
      ·exact ⟨ys,e,rfl,ys.length,by simp⟩
   | some n =>
     rw [lh] at eQ;obtain ⟨_,rE⟩ := h.heap.aag n;have hr2 : ∀ a u,Rd X φ w a u -> Rd X (φ.set n none) w a u := rE.rd
     have conv : ∀ r x y,Lf s r -> at_ s r = some x -> at_ s' r = some y -> cZ (az s') s'.H.length y /\ ∀ v,bI (Rd X φ w) φ (iH N r x) v -> bI (Rd X (φ.set n none) w) (φ.set n none) (iH N r y) v := by
      intro r x y hl hx hy;rw [key hl] at hy;by_cases Cq : r = p
      ·rw [if_pos Cq] at hy;subst Cq;rw [s9] at hx;cases hx; cases hy;refine ⟨trivial,fun v hv => ?_⟩;simp only [iH,cW,pd,lh] at hv ⊢;have := F8 h.heap eQ (off := 0) (len := xs.length) (by omega) (by simpa using hv) (φ.set n none);simpa using this
      ·rw [if_neg Cq,hx] at hy;simp at hy;subst hy
       have hbl := LS (R := Rd X φ w) (R' := Rd X (φ.set n none) w) (φ := φ) (φ' := φ.set n none) (N := N) (N' := N) (o := az s) (o' := az s') (nb := s.H.length) (g := fb p k xs) hr2 rE.Tk rfl (fun k' q a l => by
        simp only [fb];refine ⟨fun ho => ?_,fun ho => ?_⟩
        ·by_cases lY : q = p
         ·rw [if_pos lY];subst lY;simp only [cZ,hp,ah,aF] at ho;obtain ⟨_,⟨rfl,rfl⟩,hle⟩ := ho;rw [if_pos ⟨rfl,hle⟩];refine ⟨trivial,fun v hv => ?_⟩;simp only [cW,lh] at hv ⊢;exact F8 h.heap eQ hle hv _
         ·rw [if_neg lY];simp only [cZ,own,if_neg lY] at ho ⊢;exact ⟨ho,fun v hv => hv.mono hr2 rE.Tk⟩
        ·by_cases lY : q = p
         ·rw [if_pos lY];subst lY;simp only [cZ,hp,ah,aF] at ho;obtain ⟨_,⟨rfl,rfl⟩,hle⟩ := ho;rw [if_pos rfl];obtain ⟨x,hx⟩ := aV hle;rw [hx];refine ⟨trivial,fun v hv => ?_⟩;simp only [cW,lh] at hv ⊢;exact Wy h.heap eQ hx hv _
         ·rw [if_neg lY];simp only [cZ,own,if_neg lY] at ho ⊢;exact ⟨ho,fun v hv => hv.mono hr2 rE.Tk⟩) x (h.yP hx)
       refine ⟨by rw [jv.len]; exact hbl.1,fun v hv => ?_⟩;by_cases hxo : ∃ k' ys,x = .own k' ys
       ·obtain ⟨k',ys,rfl⟩ := hxo;simp only [cU,iH,pd] at hv ⊢;exact hv.mono hr2 rE.Tk
       ·obtain ⟨e1,e2⟩ := I7 (N := N) (N' := N) hg (r := r) (x := x) (fun k ys e => hxo ⟨k,ys,e⟩);rw [e1] at hv;rw [e2];exact hbl.2 v hv
     obtain ⟨hk,hkc⟩ := EU (o := az s') (nb := s'.H.length) (s := s') fun r y hl hy => by
      obtain ⟨AO,x,hx⟩ := jv.back hl hy;exact (conv r x y AO hx hy).1
     have sb : ∀ {b},(aJ s'.H b).isSome -> (aJ s.H b).isSome := by
      intro b hb;cases e : aJ s.H b with
      | none => rw [jv.An b e] at hb; cases hb
      | some _ => rfl
     have so : ∀ {q},(az s' q).isSome -> (az s q).isSome /\ q ≠ p := by
      intro q hq;rw [own] at hq;by_cases e : q = p
      ·rw [if_pos e] at hq; cases hq
      ·rw [if_neg e] at hq; exact ⟨hq,e⟩
     classical
     obtain ⟨Ha',hL,hG⟩ := ux Ha.length (fun m => if m = n then none else if hb : ∃ z : Nat × List AV,aJ s'.H z.1 = some z.2 /\ N.β z.1 = m then some (PM N (.c hb.choose.1) 0 hb.choose.2) else (Ha[m]?).getD none)
     have hbox : ∀ b cs,aJ s'.H b = some cs -> aJ Ha' (N.β b) = some (PM N (.c b) 0 cs) := by
      intro b cs hb;obtain ⟨Un,Cx⟩ := aW.1 (sb (by rw [hb]; rfl : (aJ s'.H b).isSome));obtain ⟨as,g1,_⟩ := h.box b Un Cx;rw [rL,hG _ (eL g1)];have sO : N.β b ≠ n := fun e => h.bx b p (by rw [Cx]; rfl) (by rw [hp]; rfl) (by rw [lh,e]);have hex : ∃ z : Nat × List AV,aJ s'.H z.1 = some z.2 /\ N.β z.1 = N.β b := ⟨(b,cs),hb,rfl⟩;rw [if_neg sO,dif_pos hex];have e1 : hex.choose.1 = b := h.bi _ _ (sb (by rw [hex.choose_spec.1]; rfl)) (by rw [Cx]; rfl) hex.choose_spec.2
      have e2 : hex.choose.2 = cs := by
       have := hex.choose_spec.1;rw [e1,hb] at this;exact (cK this).symm
      rw [e2,e1]
     have AM : ∀ m,m ≠ n -> (¬ ∃ z : Nat × List AV,aJ s'.H z.1 = some z.2 /\ N.β z.1 = m) -> Ha'[m]? = Ha[m]? := by
      intro m hm hnb;by_cases bO : m < Ha.length
      ·rw [hG m bO,if_neg hm,dif_neg hnb];obtain ⟨x,hx⟩ := aV bO;rw [hx]; rfl
      ·rw [eF (by omega),eF (by omega)]
     refine ⟨φ.set n none,Ha',⟨fun i => ?_,hk,⟨?_,h.heap.Df,fun m cs hm => ?_,fun m hm => ?_,fun m m' g sz lk e1 e2 => ?_⟩,fun q k' ys e => ?_,fun b cs e => ?_,fun q r m e1 e2 e3 e4 => ?_,fun b q e1 e2 e3 => ?_,fun b c e1 e2 e3 => ?_⟩,rE,own,jv⟩
     ·refine abv (fun cs dC => ?_) (fun hnn => ⟨jv.QG i hnn,?_⟩) (h.env i)
      ·obtain ⟨ds,h1,h2⟩ := jv.agg i cs dC;refine ⟨ds,h1,h2,fun j c d hc hd => (conv (.sc i j) c d (fun i e => by cases e) ?_ ?_).2⟩
       ·rw [Gg dC]; exact hc
       ·rw [Gg h1]; exact hd
      ·exact (conv (.s i) _ _ (fun j e => by cases e; exact hnn) rfl rfl).2
     ·rw [List.length_set,h.heap.len,hL]
     ·have bO := au hm;rw [hL] at bO;by_cases B6 : m = n
      ·rw [hG m bO,if_pos B6] at hm; cases hm
      ·by_cases hnb : ∃ z : Nat × List AV,aJ s'.H z.1 = some z.2 /\ N.β z.1 = m
       ·obtain ⟨⟨b,ds⟩,hb,rfl⟩ := hnb;simp only at hb hm B6;have := hbox b ds hb;rw [rL,hm] at this;cases this;obtain ⟨Un,Cx⟩ := aW.1 (sb (by rw [hb]; rfl : (aJ s'.H b).isSome));obtain ⟨as,g1,g2,g3⟩ := h.box b Un Cx;obtain ⟨g,sz,arr,e,f1,f2,f3,f4,f5,f6⟩ := h.heap.at g1;obtain ⟨ds',q1,q2⟩ := jv.box b Un Cx;rw [hb] at q1; cases q1;refine ⟨g,sz,arr,e,?_,f2,f3,by rw [hM]; omega,f5,fun i c hc => ?_⟩
        ·rw [cP (kj B6)]; exact f1
        ·rw [fO] at hc;simp only [dM] at hc;cases hd : ds[i]? with
         | none => rw [hd] at hc; cases hc
         | some d =>
           rw [hd] at hc;simp at hc;subst hc;obtain ⟨c0,AR⟩ := aV (l := Un) (i := i) (by have := au hd; omega);obtain ⟨_,a,a1,a2⟩ := g3 i c0 AR;obtain ⟨u,u1,u2⟩ := f6 i a a1;exact ⟨u,u1,(conv (.c b i) c0 d (fun i e => by cases e) (by rw [uJ Cx]; exact AR) (by rw [uJ hb]; exact hd)).2 u (a2 _ _ _ u2)⟩
       ·rw [AM m B6 hnb] at hm;obtain ⟨g,sz,arr,e,f1,f2,f3,f4,f5,f6⟩ := h.heap.live m cs hm;refine ⟨g,sz,arr,e,?_,f2,f3,f4,f5,fun i c hc => ?_⟩
        ·rw [cP (kj B6)]; exact f1
        ·obtain ⟨u,u1,u2⟩ := f6 i c hc;exact ⟨u,u1,u2.mono hr2 rE.Tk⟩
     ·by_cases B6 : m = n
      ·subst B6;have bO := au hm;rw [List.getElem?_set_self (by rw [h.heap.len]; omega)]
      ·rw [cP (kj B6)];by_cases hnb : ∃ z : Nat × List AV,aJ s'.H z.1 = some z.2 /\ N.β z.1 = m
       ·obtain ⟨⟨b,ds⟩,hb,rfl⟩ := hnb;simp only at hb hm B6;have := hbox b ds hb;rw [rL,hm] at this;cases this
       ·rw [AM m B6 hnb] at hm;exact h.heap.dead m hm
     ·have sub : ∀ m g sz : Nat,(φ.set n none)[m]? = some (some (g,sz)) -> φ[m]? = some (some (g,sz)) := by
       intro m g sz e;rw [bg] at e;split at e
       ·split at e <;> simp at e
       ·exact e
      exact h.heap.inj m m' g sz lk (sub _ _ _ e1) (sub _ _ _ e2)
     ·have hq := own q;rw [e] at hq;by_cases lY : q = p
      ·rw [if_pos lY] at hq; cases hq
      ·rw [if_neg lY] at hq;have ho := h.own q k' ys hq.symm;cases hνq : N.ν q with
       | none => rw [hνq] at ho; exact ho
       | some m =>
         rw [hνq] at ho;obtain ⟨cs,c1,c2⟩ := ho
         have B6 : m ≠ n := by
          intro e; subst e;exact lY (h.inj q p m (by rw [<- hq]; rfl) (by rw [hp]; rfl) hνq lh)
         refine ⟨cs,?_,c2⟩;rw [rL,AM m B6 ?_]
         ·exact uI c1
         ·rintro ⟨⟨b,ds⟩,hb,rfl⟩;exact h.bx b q (sb (by rw [hb]; rfl)) (by rw [<- hq]; rfl) hνq
     ·refine ⟨_,hbox b cs e,hM _ _ _ _,fun j c hc => ⟨hkc b cs e j c hc,_,by rw [fO,hc]; simp,Le.refl _⟩⟩
     ·exact h.inj q r m (so e1).1 (so e2).1 e3 e4
     ·exact h.bx b q (sb e1) (so e2).1 e3
     ·exact h.bi b c (sb e1) (sb e2) e3
end Go.Bm

/- Owners that go, values that go to their slots, the end of a region. -/
namespace Go.Bm
open Go.Am

def SB (X : Nat -> Prop) (φ : dF) (w : World) (B : Nat -> Nat) (base : Nat) (s : St) (t : Nat -> Value) : Prop := ∃ N Ha,eV X φ w N s Ha t /\ (∀ b,b < base -> N.β b = B b) /\ base <= s.H.length
section
variable {X : Nat -> Prop} {φ : dF} {w : World} {N : Names} {s s' : St} {Ha : Heap} {t : Nat -> Value} {B : Nat -> Nat} {base : Nat}

theorem SB.AW (h : SB X φ w B base s t) (p : Rt) : ∃ φ',SB X φ' w B base (Fw s p) t /\ fo φ w φ' w := by
 obtain ⟨N,Ha,h,hb,hl⟩ := h;obtain ⟨φ',Ha',h1,h2,_,h3⟩ := h.AW p;exact ⟨φ',⟨N,Ha',h1,hb,by rw [h3.len]; exact hl⟩,h2⟩
theorem SB.dV : ∀ (ps : List Rt) {φ : dF} {s : St},SB X φ w B base s t -> ∃ φ',SB X φ' w B base (dV ps s) t /\ fo φ w φ' w
 | [],φ,s,h => ⟨φ,h,.refl _ _⟩
 | p :: r,φ,s,h => by
   obtain ⟨j5,h1,a1⟩ := h.AW p;obtain ⟨ks,h2,a2⟩ := SB.dV r h1;exact ⟨ks,h2,a1.trans a2⟩
theorem SB.rel (h : SB X φ w B base s t) (p : Rt) : ∃ φ',SB X φ' w B base (rel s p) t /\ fo φ w φ' w := by
 unfold Go.Bm.rel;split
 ·exact ⟨φ,h,.refl _ _⟩
 ·rename_i k xs hp;split
  ·obtain ⟨N,Ha,h,hb,hl⟩ := h;exact ⟨φ,⟨N,Ha,(h.drop hp).1,hb,by rw [(h.drop hp).2.2.len]; exact hl⟩,.refl _ _⟩
  ·rename_i q hq;split
   ·rename_i k' r len s9;split
    ·rename_i hr;subst hr;obtain ⟨N,Ha,h,hb,hl⟩ := h;obtain ⟨N',e,h',_,h3⟩ := h.give hp s9;exact ⟨φ,⟨N',Ha,h',fun b bO => by rw [e]; exact hb b bO,by rw [h3.len]; exact hl⟩,.refl _ _⟩
    ·exact h.AW p
   ·exact h.AW p
theorem SB.GN (i : Nat) : ∀ (cs : List AV) (j : Nat) {φ : dF} {s : St},SB X φ w B base s t -> ∃ φ',SB X φ' w B base (GN i j cs s) t /\ fo φ w φ' w
 | [],j,φ,s,h => ⟨φ,h,.refl _ _⟩
 | x :: r,j,φ,s,h => by
   have skip : ∃ φ',SB X φ' w B base (Go.Bm.GN i (j + 1) r s) t /\ fo φ w φ' w := SB.GN i r (j + 1) h
   cases x <;> first
    | exact skip
    | (obtain ⟨j5, h1, a1⟩ := h.rel (.sc i j)
       obtain ⟨ks,h2,a2⟩ := SB.GN i r (j + 1) h1;exact ⟨ks,h2,a1.trans a2⟩)
theorem SB.zk (h : SB X φ w B base s t) (i : Nat) : ∃ φ',SB X φ' w B base (zk s i) t /\ fo φ w φ' w := by
 unfold Go.Bm.zk;split
 ·exact h.rel _
 ·exact SB.GN i _ 0 h
 ·exact ⟨φ,h,.refl _ _⟩
theorem SB.mf (keep : List Nat) : ∀ (e : Env) {φ : dF} {s : St},SB X φ w B base s t -> ∃ φ',SB X φ' w B base (mf keep e s) t /\ fo φ w φ' w
 | [],φ,s,h => ⟨φ,h,.refl _ _⟩
 | (i,v) :: r,φ,s,h => by
   simp only [Go.Bm.mf];split
   ·exact SB.mf keep r h
   ·obtain ⟨j5,h1,a1⟩ := h.zk i;obtain ⟨ks,h2,a2⟩ := SB.mf keep r h1;exact ⟨ks,h2,a1.trans a2⟩
theorem SB.eT (b : Nat) : ∀ (n j : Nat) {φ : dF} {s : St},SB X φ w B base s t -> ∃ φ',SB X φ' w B base (eT b j n s) t /\ fo φ w φ' w
 | 0,j,φ,s,h => ⟨φ,h,.refl _ _⟩
 | n + 1,j,φ,s,h => by
   simp only [Go.Bm.eT];split
   ·obtain ⟨j5,h1,a1⟩ := h.rel (.c b j);obtain ⟨ks,h2,a2⟩ := SB.eT b n (j + 1) h1;exact ⟨ks,h2,a1.trans a2⟩
   ·exact SB.eT b n (j + 1) h

theorem ahA (he : ∀ i,get s'.env i = get s.env i) (hH : s'.H = s.H) : at_ s' = at_ s := by
 funext p;cases p <;> simp only [at_,he,hH]
theorem HP (he : ∀ i,get s'.env i = get s.env i) (hH : s'.H = s.H) : az s' = az s := by
 funext p;unfold az;rw [ahA he hH]
theorem eV.ext (h : eV X φ w N s Ha t) (he : ∀ i,get s'.env i = get s.env i) (hH : s'.H = s.H) : eV X φ w N s' Ha t := by
 have ho := HP he hH;exact ⟨fun i => by rw [he]; exact h.env i,fun i => by rw [he,ho,hH]; exact h.GQ i,h.heap,by rw [ho]; exact h.own,by rw [ho,hH]; exact h.box,by rw [ho]; exact h.inj,by rw [ho,hH]; exact h.bx,by rw [hH]; exact h.bi⟩
theorem eJ {i : Nat} (h : bN (get s.env i) = false) : az s (.s i) = none /\ ∀ j,az s (.sc i j) = none := by
 have hl : ∀ (cs : List AV),bJ cs = false -> ∀ (j : Nat) (k : Nat) (xs : List AV),cs[j]? ≠ some (.own k xs) := by
  intro cs
  induction cs with
  | nil => intro _ j k xs e; simp at e
  | cons x r ih =>
    intro h j k xs e;cases j with
    | zero => simp at e; subst e; simp [bJ] at h
    | succ j =>
      simp at e;refine ih ?_ j k xs e;cases x <;> simp [bJ] at h <;> exact h
 refine ⟨?_,fun j => ?_⟩
 ·cases e : az s (.s i) with
  | none => rfl
  | some y =>
    have e' := cH.1 (show az s (.s i) = some (y.1,y.2) from e);simp only [at_,ah] at e';rw [e'] at h;simp [bN] at h
 ·cases e : az s (.sc i j) with
  | none => rfl
  | some y =>
    have e' := cH.1 (show az s (.sc i j) = some (y.1,y.2) from e);simp only [at_] at e';split at e'
    ·rename_i cs dC;rw [dC] at h;simp only [bN] at h;exact absurd e' (hl cs h j _ _)
    ·cases e'
theorem eV.keep (h : eV X φ w N s Ha t) (he : ∀ i,get s'.env i = get s.env i \/ (get s'.env i = .any /\ bN (get s.env i) = false)) (hH : s'.H = s.H) : eV X φ w N s' Ha t := by
 have ho : az s' = az s := by
  funext p;cases p with
  | s i =>
    rcases he i with e | ⟨e1,e2⟩
    ·unfold az; simp only [at_,e]
    ·rw [(eJ e2).1]; unfold az; simp only [at_,e1]
  | sc i j =>
    rcases he i with e | ⟨e1,e2⟩
    ·unfold az; simp only [at_,e]
    ·rw [(eJ e2).2 j]; unfold az; simp only [at_,e1]
  | c b j => unfold az; simp only [at_,hH]
 refine ⟨fun i => ?_,fun i => ?_,h.heap,by rw [ho]; exact h.own,by rw [ho,hH]; exact h.box,by rw [ho]; exact h.inj,by rw [ho,hH]; exact h.bx,by rw [hH]; exact h.bi⟩
 ·rcases he i with e | ⟨e1,e2⟩
  ·rw [e]; exact h.env i
  ·rw [e1]; exact .any _ _
 ·rcases he i with e | ⟨e1,e2⟩
  ·rw [e,ho,hH]; exact h.GQ i
  ·rw [e1]; trivial
mutual
theorem J4 {o o' : Rt -> Option (Nat × List AV)} {n : Nat} (ho : ∀ p,(∀ j,p ≠ .c n j) -> o' p = o p) : ∀ x,cZ o (n + 1) x -> qw n x = true -> cZ o' n x
 | .dA k p off len,h,hp => by
   simp only [cZ] at h ⊢;rw [ho p]
   ·exact h
   ·rintro j rfl; simp [qw] at hp
 | .eW k p i off,h,hp => by
   simp only [cZ] at h ⊢;rw [ho p]
   ·exact h
   ·rintro j rfl; simp [qw] at hp
 | .ptr b off,h,hp => by simp only [cZ] at h ⊢; simp [qw] at hp; omega
 | .agg cs,h,hp => by simp only [cZ,qw] at h hp ⊢; exact tT ho cs h hp
 | .dD cs,h,hp => by simp only [cZ,qw] at h hp ⊢; exact tT ho cs h hp
 | .func f a b,h,hp => by simp only [cZ,qw,aa] at h hp ⊢; exact ⟨tT ho a h.1 hp.1,tT ho b h.2 hp.2⟩
 | .any,_,_ => trivial
 | .undef,_,_ => trivial
 | .fk,_,_ => trivial
 | .fu,_,_ => trivial
 | .dJ,_,_ => trivial
 | .int _ _,_,_ => trivial
 | .bool _,_,_ => trivial
 | .str _,_,_ => trivial
 | .list _ _,_,_ => trivial
 | .dI _,_,_ => trivial
 | .own _ _,_,_ => trivial
 | .sl _ b _ _,h,hp => by simp only [cZ] at h ⊢; simp [qw] at hp; omega
theorem tT {o o' : Rt -> Option (Nat × List AV)} {n : Nat} (ho : ∀ p,(∀ j,p ≠ .c n j) -> o' p = o p) : ∀ cs,jU o (n + 1) cs -> jh n cs = true -> jU o' n cs
 | [],_,_ => trivial
 | x :: r,h,hp => by simp only [jU,jh,aa] at h hp ⊢; exact ⟨J4 ho x h.1 hp.1,tT ho r h.2 hp.2⟩
end
theorem E3 {n : Nat} : ∀ {e : Env},Al n e = true -> ∀ i,qw n (get e i) = true
 | [],_,i => rfl
 | (j,v) :: r,h,i => by
   simp only [Al,aa] at h;simp only [Am.get];split
   ·exact h.1
   ·exact E3 h.2 i
theorem xI {n : Nat} : ∀ {H : Heap},tV n H = true -> ∀ b cs,aJ H b = some cs -> jh n cs = true
 | [],_,b,cs,hb => by simp [aJ] at hb
 | none :: r,h,b,cs,hb => by
   simp only [tV] at h;cases b with
   | zero => simp [aJ] at hb
   | succ b => exact xI h b cs (by simpa [aJ] using hb)
 | some ds :: r,h,b,cs,hb => by
   simp only [tV,aa] at h;cases b with
   | zero => simp [aJ] at hb; subst hb; exact h.1
   | succ b => exact xI h.2 b cs (by simpa [aJ] using hb)
theorem E2 {n : Nat} : ∀ {cs : List AV},jh n cs = true -> ∀ (j : Nat) (c : AV),cs[j]? = some c -> qw n c = true
 | [],_,j,c,h => by simp at h
 | x :: r,hp,j,c,h => by
   simp only [jh,aa] at hp;cases j with
   | zero => simp at h; subst h; exact hp.1
   | succ j => exact E2 hp.2 j c (by simpa using h)
theorem qL {H : Heap} {n b : Nat} : aJ (H.take n) b = if b < n then aJ H b else none := by
 unfold aJ;rw [bf];by_cases h : b < n <;> simp [h]
theorem eV.ahJ {env : Env} {H : Heap} {n : Nat} (h : eV X φ w N ⟨env,H⟩ Ha t) (hl : H.length = n + 1) (he : Al n env = true) (hH : tV n (H.take n) = true) : eV X φ w N ⟨env,H.take n⟩ Ha t := by
 have ho : ∀ p,(∀ j,p ≠ .c n j) -> az ⟨env,H.take n⟩ p = az ⟨env,H⟩ p := by
  intro p hp;cases p with
  | s i => rfl
  | sc i j => rfl
  | c b j =>
    unfold az;simp only [at_,qL];by_cases hb : b < n
    ·rw [if_pos hb]
    ·rw [if_neg hb]
     have : aJ H b = none := by
      cases e : aJ H b with
      | none => rfl
      | some cs =>
        have := eL e;simp only [hl] at this;exact absurd (by rw [show b = n by omega]) (hp j)
     rw [this]
 have hs : ∀ {p},(az ⟨env,H.take n⟩ p).isSome -> (az ⟨env,H⟩ p).isSome := by
  intro p hp;by_cases hc : ∀ j,p ≠ .c n j
  ·rwa [ho p hc] at hp
  ·exfalso;apply hc;rintro j rfl;unfold az at hp;simp [at_,qL] at hp
 have hlen : (H.take n).length = n := by simp; omega
 have pg : ∀ {b},(aJ (H.take n) b).isSome -> (aJ H b).isSome := by
  intro b hb;rw [qL] at hb;split at hb
  ·exact hb
  ·cases hb
 refine ⟨h.env,fun i => ?_,h.heap,fun p k xs e => ?_,fun b cs e => ?_,fun p q m e1 e2 => h.inj p q m (hs e1) (hs e2),fun b p e1 e2 => h.bx b p (pg e1) (hs e2),fun b c e1 e2 => h.bi b c (pg e1) (pg e2)⟩
 ·have := h.GQ i;simp only [hl] at this;simp only [hlen];exact J4 ho _ this (E3 he i)
 ·refine h.own p k xs ?_;by_cases hc : ∀ j,p ≠ .c n j
  ·rwa [ho p hc] at e
  ·exfalso;apply hc;rintro j rfl;unfold az at e;simp [at_,qL] at e
 ·simp only [qL] at e;split at e
  ·obtain ⟨as,g1,g2,g3⟩ := h.box b cs e;refine ⟨as,g1,g2,fun j c hc => ?_⟩;obtain ⟨k1,k2⟩ := g3 j c hc;refine ⟨?_,k2⟩;simp only [hl] at k1;simp only [hlen];refine J4 ho _ k1 (E2 (xI hH b cs ?_) j c hc);rw [qL,if_pos ‹_›];exact e
  ·cases e
theorem eV.trim {env : Env} {base0 : Nat} : ∀ (n : Nat) {H : Heap},eV X φ w N ⟨env,H⟩ Ha t -> eV X φ w N ⟨env,trim base0 env n H⟩ Ha t
 | 0,H,h => h
 | n + 1,H,h => by
   simp only [Go.Bm.trim];split
   ·rename_i hc;exact eV.trim n (h.ahJ hc.2.1 hc.2.2.1 hc.2.2.2)
   ·exact h
end
end Go.Bm

/- From the hand to a slot. -/
namespace Go.Bm
open Go.Am

mutual
theorem W7 {N N' : Names} {m : Rt -> Rt} {g : AV -> AV} (eZ : N'.β = N.β) (hg : ∀ k p a l,g (.dA k p a l) = .dA k (m p) a l /\ g (.eW k p a l) = .eW k (m p) a l) :
  ∀ x,(∀ p ∈ aN x,N'.ν (m p) = N.ν p) -> cW N' (cU g x) = cW N x
 | .dA k p a l,h => by simp only [cU,(hg k p a l).1,cW]; rw [h p (by simp [aN])]
 | .eW k p a l,h => by simp only [cU,(hg k p a l).2,cW]; rw [h p (by simp [aN])]
 | .ptr b off,_ => by simp only [cU,cW,eZ]
 | .agg cs,h => by simp only [cU,cW]; rw [Dk eZ hg cs (fun p hp => h p (by simpa [aN] using hp))]
 | .dD cs,h => by simp only [cU,cW]; rw [Dk eZ hg cs (fun p hp => h p (by simpa [aN] using hp))]
 | .func f a b,h => by
   simp only [cU,cW];rw [Dk eZ hg a (fun p hp => h p (by simp only [aN,aC]; exact .inl hp)),Dk eZ hg b (fun p hp => h p (by simp only [aN,aC]; exact .inr hp))]
 | .any,_ => rfl
 | .undef,_ => rfl
 | .fk,_ => rfl
 | .fu,_ => rfl
 | .dJ,_ => rfl
 | .int _ _,_ => rfl
 | .bool _,_ => rfl
 | .str _,_ => rfl
 | .list _ _,_ => rfl
 | .dI _,_ => rfl
 | .own _ _,_ => rfl
 | .sl _ b _ _,_ => by simp only [cU,cW,eZ]
theorem Dk {N N' : Names} {m : Rt -> Rt} {g : AV -> AV} (eZ : N'.β = N.β) (hg : ∀ k p a l,g (.dA k p a l) = .dA k (m p) a l /\ g (.eW k p a l) = .eW k (m p) a l) :
  ∀ cs,(∀ p ∈ df cs,N'.ν (m p) = N.ν p) -> kt N' (dp g cs) = kt N cs
 | [],_ => rfl
 | x :: r,h => by
   simp only [dp,kt];rw [W7 eZ hg x (fun p hp => h p (by simp only [df,aC]; exact .inl hp)),Dk eZ hg r (fun p hp => h p (by simp only [df,aC]; exact .inr hp))]
end
mutual
theorem NA {o o' : Rt -> Option (Nat × List AV)} {nb : Nat} {m : Rt -> Rt} {g : AV -> AV} (hg : ∀ k p a l,g (.dA k p a l) = .dA k (m p) a l /\ g (.eW k p a l) = .eW k (m p) a l) :
  ∀ x,(∀ p ∈ aN x,o' (m p) = o p) -> cZ o nb x -> cZ o' nb (cU g x)
 | .dA k p a l,h,hk => by simp only [cU,(hg k p a l).1,cZ] at hk ⊢; rw [h p (by simp [aN])]; exact hk
 | .eW k p a l,h,hk => by simp only [cU,(hg k p a l).2,cZ] at hk ⊢; rw [h p (by simp [aN])]; exact hk
 | .ptr b off,_,hk => hk
 | .agg cs,h,hk => by simp only [cU,cZ] at hk ⊢; exact EV hg cs (fun p hp => h p (by simpa [aN] using hp)) hk
 | .dD cs,h,hk => by simp only [cU,cZ] at hk ⊢; exact EV hg cs (fun p hp => h p (by simpa [aN] using hp)) hk
 | .func f a b,h,hk => by
   simp only [cU,cZ] at hk ⊢;exact ⟨EV hg a (fun p hp => h p (by simp only [aN,aC]; exact .inl hp)) hk.1,EV hg b (fun p hp => h p (by simp only [aN,aC]; exact .inr hp)) hk.2⟩
 | .any,_,_ => trivial
 | .undef,_,_ => trivial
 | .fk,_,_ => trivial
 | .fu,_,_ => trivial
 | .dJ,_,_ => trivial
 | .int _ _,_,_ => trivial
 | .bool _,_,_ => trivial
 | .str _,_,_ => trivial
 | .list _ _,_,_ => trivial
 | .dI _,_,_ => trivial
 | .own _ _,_,_ => trivial
 | .sl _ _ _ _,_,h => h
theorem EV {o o' : Rt -> Option (Nat × List AV)} {nb : Nat} {m : Rt -> Rt} {g : AV -> AV} (hg : ∀ k p a l,g (.dA k p a l) = .dA k (m p) a l /\ g (.eW k p a l) = .eW k (m p) a l) :
  ∀ cs,(∀ p ∈ df cs,o' (m p) = o p) -> jU o nb cs -> jU o' nb (dp g cs)
 | [],_,_ => trivial
 | x :: r,h,hk => by
   simp only [dp,jU] at hk ⊢;exact ⟨NA hg x (fun p hp => h p (by simp only [df,aC]; exact .inl hp)) hk.1,EV hg r (fun p hp => h p (by simp only [df,aC]; exact .inr hp)) hk.2⟩
end
theorem kg {cs : List AV} {j : Nat} {c : AV} (h : cs[j]? = some c) {p : Rt} (hp : p ∈ aN c) : p ∈ df cs := by
 induction cs generalizing j with
 | nil => simp at h
 | cons x r ih =>
   simp only [df,aC];cases j with
   | zero => simp at h; subst h; exact .inl hp
   | succ j => exact .inr (ih (by simpa using h))
theorem wo {N N' : Names} {m : Rt -> Rt} {g : AV -> AV} (eZ : N'.β = N.β) (hg : ∀ k p a l,g (.dA k p a l) = .dA k (m p) a l /\ g (.eW k p a l) = .eW k (m p) a l) {r r' : Rt} {x : AV} (hr : ∀ k xs,x = .own k xs -> N'.ν r' = N.ν r) (hx : ∀ p ∈ aN x,N'.ν (m p) = N.ν p) :
  iH N' r' (cU g x) = iH N r x := by
 have hL : jI g := fun k p a l => by rw [(hg k p a l).1,(hg k p a l).2]; exact ⟨⟨(fun cs e => by cases e),(fun k xs e => by cases e)⟩,⟨(fun cs e => by cases e),(fun k xs e => by cases e)⟩⟩
 by_cases ho : ∃ k xs,x = .own k xs
 ·obtain ⟨k,xs,rfl⟩ := ho;simp only [cU,iH,pd,hr k xs rfl]
 ·obtain ⟨e1,e2⟩ := I7 (N := N) (N' := N') hL (r := r) (x := x) (fun k xs e => ho ⟨k,xs,e⟩);obtain ⟨_,e3⟩ := I7 (N := N) (N' := N') hL (r := r') (x := x) (fun k xs e => ho ⟨k,xs,e⟩);rw [e1,e3,W7 eZ hg x hx]
theorem I6 {N N' : Names} {m : Rt -> Rt} {g : AV -> AV} (eZ : N'.β = N.β) (hg : ∀ k p a l,g (.dA k p a l) = .dA k (m p) a l /\ g (.eW k p a l) = .eW k (m p) a l) {i i' : Nat} {x : AV} (h1 : N'.ν (.s i') = N.ν (.s i)) (h2 : ∀ j,N'.ν (.sc i' j) = N.ν (.sc i j)) (hx : ∀ p ∈ aN x,N'.ν (m p) = N.ν p) :
  j9 N' i' (cU g x) = j9 N i x := by
 have hL : jI g := fun k p a l => by rw [(hg k p a l).1,(hg k p a l).2]; exact ⟨⟨(fun cs e => by cases e),(fun k xs e => by cases e)⟩,⟨(fun cs e => by cases e),(fun k xs e => by cases e)⟩⟩
 by_cases ha : ∃ cs,x = .agg cs
 ·obtain ⟨cs,rfl⟩ := ha;simp only [cU,j9];congr 1;apply dS;intro j;rw [fO,fO,eI];simp only [dM];cases hc : cs[j]? with
  | none => rfl
  | some c =>
    simp only [cX];rw [wo eZ hg (r := .sc i j) (fun _ _ _ => h2 j) (fun p hp => hx p (by simp only [aN]; exact kg hc hp))]
 ·have hn : jx x := fun cs e => ha ⟨cs,e⟩;have Pw : jx (cU g x) := kD hL hn
  have e1 : j9 N' i' (cU g x) = iH N' (.s i') (cU g x) := by
   generalize cU g x = y at Pw;cases y <;> first | rfl | exact absurd rfl (Pw _)
  have e2 : j9 N i x = iH N (.s i) x := by cases x <;> first | rfl | exact absurd rfl (hn _)
  rw [e1,e2];exact wo eZ hg (fun _ _ _ => h1) hx
section
variable {X : Nat -> Prop} {φ : dF} {w : World} {N : Names} {s s' : St} {Ha : Heap} {t t' : Nat -> Value} {B : Nat -> Nat} {base : Nat}
theorem yW (i d : Nat) : ∀ k p a l,Vv i d (.dA k p a l) = .dA k (ju i d p) a l /\ Vv i d (.eW k p a l) = .eW k (ju i d p) a l := fun _ _ _ _ => ⟨rfl,rfl⟩
theorem Ap {i d : Nat} {p : Rt} (h : bz d p = false) : ju d i (ju i d p) = p := by
 cases p with
 | s j =>
   simp only [bz,decide_eq_false_iff_not] at h;simp only [ju];by_cases e : j = i
   ·subst e; simp [ju]
   ·simp [e,ju,h]
 | sc j l =>
   simp only [bz,decide_eq_false_iff_not] at h;simp only [ju];by_cases e : j = i
   ·subst e; simp [ju]
   ·simp [e,ju,h]
 | c b j => rfl
theorem NX {i d : Nat} {q : Rt} (h : bz i q = false) : ju i d (ju d i q) = q := Ap h
theorem eV.hand {i d : Nat} (h : eV X φ w N s Ha t) (pc : i ≠ d) (hC : ∀ r x,at_ s r = some x -> ∀ p ∈ aN x,bz d p = false)
  (he : ∀ j,get s'.env j = if j = d then cU (Vv i d) (get s.env i) else if j = i then .any else cU (Vv i d) (get s.env j)) (hH : s'.H = fy (Vv i d) s.H) (ht : ∀ j,j ≠ i -> t' j = if j = d then t i else t j) :
  ∃ N',N'.β = N.β /\ eV X φ w N' s' Ha t' := by
 have hg := yW i d;have hL := ag3 i d
 have atq : ∀ q,bz i q = false -> at_ s' q = (at_ s (ju d i q)).map (cU (Vv i d)) := by
  intro q hq;rw [<- jc hL];cases q with
  | s j =>
    simp only [bz,decide_eq_false_iff_not] at hq;simp only [at_,he,ju,bP];by_cases e : j = d
    ·simp [e,dt,at_]
    ·simp [e,hq,dt,at_]
  | sc j l =>
    simp only [bz,decide_eq_false_iff_not] at hq;simp only [at_,he,ju,bP];by_cases e : j = d
    ·simp [e,dt,at_]
    ·simp [e,hq,dt,at_]
  | c b j => simp only [at_,hH,ju,bP]
 have atn : ∀ q,bz i q = true -> az s' q = none := by
  intro q hq;cases q with
  | s j => simp only [bz,decide_eq_true_eq] at hq; subst hq; unfold az; simp [at_,he,pc]
  | sc j l => simp only [bz,decide_eq_true_eq] at hq; subst hq; unfold az; simp [at_,he,pc]
  | c b j => simp [bz] at hq
 have own : ∀ q,bz i q = false -> az s' q = az s (ju d i q) := by
  intro q hq;rw [<- iK hL s (ju d i q)];exact J1 (by rw [atq q hq,jc hL])
 have Vj : ∀ p,bz d p = false -> az s' (ju i d p) = az s p := by
  intro p hp
  have hi : bz i (ju i d p) = false := by
   cases p with
   | s j => simp only [ju]; split <;> simp_all [bz]; exact fun e => pc e.symm
   | sc j l => simp only [ju]; split <;> simp_all [bz]; exact fun e => pc e.symm
   | c b j => rfl
  rw [own _ hi,Ap hp]
 have hlen : s'.H.length = s.H.length := by rw [hH,fX]
 obtain ⟨N',eZ,hN⟩ : ∃ N' : Names,N'.β = N.β /\ ∀ q,N'.ν q = N.ν (ju d i q) := ⟨⟨N.β,fun q => N.ν (ju d i q)⟩,rfl,fun _ => rfl⟩;have lh : ∀ p,bz d p = false -> N'.ν (ju i d p) = N.ν p := fun p hp => by rw [hN,Ap hp]
 refine ⟨N',eZ,⟨fun j => ?_,fun j => ?_,h.heap,fun p k xs e => ?_,fun b cs e => ?_,fun p q n e1 e2 e3 e4 => ?_,fun b p e1 e2 e3 => ?_,fun b c e1 e2 e3 => ?_⟩⟩
 ·rw [he];by_cases VS : j = d
  ·subst VS;rw [if_pos rfl,ht j (kj pc),if_pos rfl];rw [I6 (N := N) (i := i) eZ hg (by simp [hN,ju]) (fun l => by simp [hN,ju]) (fun p hp => lh p (hC (.s i) _ rfl p hp))];exact h.env i
  ·rw [if_neg VS];by_cases GY : j = i
   ·rw [if_pos GY]; exact .any _ _
   ·rw [if_neg GY,ht j GY,if_neg VS];rw [I6 (N := N) (i := j) eZ hg (by simp [hN,ju,VS]) (fun l => by simp [hN,ju,VS]) (fun p hp => lh p (hC (.s j) _ rfl p hp))];exact h.env j
 ·rw [he,hlen];by_cases VS : j = d
  ·rw [if_pos VS];exact NA hg _ (fun p hp => Vj p (hC (.s i) _ rfl p hp)) (h.GQ i)
  ·rw [if_neg VS];by_cases GY : j = i
   ·rw [if_pos GY]; trivial
   ·rw [if_neg GY];exact NA hg _ (fun p hp => Vj p (hC (.s j) _ rfl p hp)) (h.GQ j)
 ·cases hq : bz i p with
  | true => rw [atn p hq] at e; cases e
  | false => rw [own p hq] at e; rw [hN]; exact h.own _ k xs e
 ·rw [hH,dW] at e;cases hb : aJ s.H b with
  | none => rw [hb] at e; cases e
  | some ds =>
    rw [hb] at e;simp at e;subst e;obtain ⟨as,g1,g2,g3⟩ := h.box b ds hb;refine ⟨as,by rw [eZ]; exact g1,by rw [cI]; exact g2,fun j c hc => ?_⟩;rw [eI] at hc;cases hd : ds[j]? with
    | none => rw [hd] at hc; cases hc
    | some c0 =>
      rw [hd] at hc;simp at hc;subst hc;have hcc := fun p hp => hC (.c b j) c0 (by rw [uJ hb]; exact hd) p hp;obtain ⟨k1,a,k2,k3⟩ := g3 j c0 hd;refine ⟨by rw [hlen]; exact NA hg _ (fun p hp => Vj p (hcc p hp)) k1,a,k2,?_⟩;rw [wo (N := N) (r := .c b j) eZ hg (fun _ _ _ => by rw [hN]; rfl) (fun p hp => lh p (hcc p hp))];exact k3
 ·have hp : bz i p = false := by
   cases hq : bz i p with
   | true => rw [atn p hq] at e1; cases e1
   | false => rfl
  have hq : bz i q = false := by
   cases hq : bz i q with
   | true => rw [atn q hq] at e2; cases e2
   | false => rfl
  rw [own p hp] at e1;rw [own q hq] at e2;rw [hN] at e3 e4;have := h.inj _ _ n e1 e2 e3 e4;rw [<- NX (d := d) hp,this,NX hq]
 ·have hp : bz i p = false := by
   cases hq : bz i p with
   | true => rw [atn p hq] at e2; cases e2
   | false => rfl
  rw [own p hp] at e2;rw [hN,eZ] at e3;refine h.bx b _ ?_ e2 e3;rw [hH,dW] at e1;cases hb : aJ s.H b with
  | none => rw [hb] at e1; cases e1
  | some _ => rfl
 ·have sb : ∀ {b},(aJ s'.H b).isSome -> (aJ s.H b).isSome := by
   intro b hb;rw [hH,dW] at hb;cases e : aJ s.H b with
   | none => rw [e] at hb; cases hb
   | some _ => rfl
  rw [eZ] at e3;exact h.bi b c (sb e1) (sb e2) e3
end
end Go.Bm

/- A value goes to its slot. -/
namespace Go.Bm
open Go.Am
mutual
theorem Aj {o : Rt -> Option (Nat × List AV)} {nb : Nat} : ∀ x,cZ o nb x -> ∀ p ∈ aN x,(o p).isSome
 | .dA k q a l,h,p,hp => by simp only [aN,cV] at hp; subst hp; simp only [cZ] at h; obtain ⟨xs,e,_⟩ := h; rw [e]; rfl
 | .eW k q a l,h,p,hp => by simp only [aN,cV] at hp; subst hp; simp only [cZ] at h; obtain ⟨xs,e,_⟩ := h; rw [e]; rfl
 | .agg cs,h,p,hp => by simp only [cZ,aN] at h hp; exact yO cs h p hp
 | .dD cs,h,p,hp => by simp only [cZ,aN] at h hp; exact yO cs h p hp
 | .func f a b,h,p,hp => by
   simp only [cZ,aN,aC] at h hp;rcases hp with hp | hp
   ·exact yO a h.1 p hp
   ·exact yO b h.2 p hp
 | .any,_,p,hp => by simp [aN] at hp
 | .undef,_,p,hp => by simp [aN] at hp
 | .fk,_,p,hp => by simp [aN] at hp
 | .fu,_,p,hp => by simp [aN] at hp
 | .dJ,_,p,hp => by simp [aN] at hp
 | .int _ _,_,p,hp => by simp [aN] at hp
 | .bool _,_,p,hp => by simp [aN] at hp
 | .str _,_,p,hp => by simp [aN] at hp
 | .list _ _,_,p,hp => by simp [aN] at hp
 | .dI _,_,p,hp => by simp [aN] at hp
 | .own _ _,_,p,hp => by simp [aN] at hp
 | .ptr _ _,_,p,hp => by simp [aN] at hp
 | .sl _ _ _ _,_,p,hp => by simp [aN] at hp
theorem yO {o : Rt -> Option (Nat × List AV)} {nb : Nat} : ∀ cs,jU o nb cs -> ∀ p ∈ df cs,(o p).isSome
 | [],_,p,hp => by simp [df] at hp
 | x :: r,h,p,hp => by
   simp only [jU,df,aC] at h hp;rcases hp with hp | hp
   ·exact Aj x h.1 p hp
   ·exact yO r h.2 p hp
end
mutual
theorem py {g : AV -> AV} {m : Rt -> Rt} (hg : ∀ k p a l,g (.dA k p a l) = .dA k (m p) a l /\ g (.eW k p a l) = .eW k (m p) a l) : ∀ x,(∀ p ∈ aN x,m p = p) -> cU g x = x
 | .dA k p a l,h => by simp only [cU,(hg k p a l).1]; rw [h p (by simp [aN])]
 | .eW k p a l,h => by simp only [cU,(hg k p a l).2]; rw [h p (by simp [aN])]
 | .agg cs,h => by simp only [cU]; rw [oL hg cs (fun p hp => h p (by simpa [aN] using hp))]
 | .dD cs,h => by simp only [cU]; rw [oL hg cs (fun p hp => h p (by simpa [aN] using hp))]
 | .func f a b,h => by
   simp only [cU];rw [oL hg a (fun p hp => h p (by simp only [aN,aC]; exact .inl hp)),oL hg b (fun p hp => h p (by simp only [aN,aC]; exact .inr hp))]
 | .any,_ => rfl
 | .undef,_ => rfl
 | .fk,_ => rfl
 | .fu,_ => rfl
 | .dJ,_ => rfl
 | .int _ _,_ => rfl
 | .bool _,_ => rfl
 | .str _,_ => rfl
 | .list _ _,_ => rfl
 | .dI _,_ => rfl
 | .own _ _,_ => rfl
 | .ptr _ _,_ => rfl
 | .sl _ _ _ _,_ => rfl
theorem oL {g : AV -> AV} {m : Rt -> Rt} (hg : ∀ k p a l,g (.dA k p a l) = .dA k (m p) a l /\ g (.eW k p a l) = .eW k (m p) a l) : ∀ cs,(∀ p ∈ df cs,m p = p) -> dp g cs = cs
 | [],_ => rfl
 | x :: r,h => by
   simp only [dp];rw [py hg x (fun p hp => h p (by simp only [df,aC]; exact .inl hp)),oL hg r (fun p hp => h p (by simp only [df,aC]; exact .inr hp))]
end
theorem CR {g : AV -> AV} {m : Rt -> Rt} (hg : ∀ k p a l,g (.dA k p a l) = .dA k (m p) a l /\ g (.eW k p a l) = .eW k (m p) a l) : ∀ H : Heap,(∀ b cs,aJ H b = some cs -> ∀ p ∈ df cs,m p = p) -> fy g H = H
 | [],_ => rfl
 | none :: r,h => by simp only [fy]; rw [CR hg r (fun b cs hb => h (b + 1) cs (by simpa [aJ] using hb))]
 | some cs :: r,h => by simp only [fy]; rw [CR hg r (fun b ds hb => h (b + 1) ds (by simpa [aJ] using hb)),oL hg cs (h 0 cs rfl)]
theorem jH {f : Rt -> Bool} : ∀ {l : List Rt},uL f l = false -> ∀ p ∈ l,f p = false
 | [],_,p,hp => by simp at hp
 | q :: r,h,p,hp => by
   simp only [uL,eO] at h;rcases aU.1 hp with e | e
   ·subst e; exact h.1
   ·exact jH h.2 p e
theorem oZ {f : Rt -> Bool} : ∀ {e : Env},Gk f e = false -> ∀ i,∀ p ∈ aN (get e i),f p = false
 | [],_,i,p,hp => by simp [Am.get,aN] at hp
 | (j,v) :: r,h,i,p,hp => by
   simp only [Gk,eO] at h;simp only [Am.get] at hp;split at hp
   ·exact jH h.1 p hp
   ·exact oZ h.2 i p hp
theorem rO {f : Rt -> Bool} : ∀ {H : Heap},Gi f H = false -> ∀ b cs,aJ H b = some cs -> ∀ p ∈ df cs,f p = false
 | [],_,b,cs,hb,p,hp => by simp [aJ] at hb
 | none :: r,h,b,cs,hb,p,hp => by
   simp only [Gi] at h;cases b with
   | zero => simp [aJ] at hb
   | succ b => exact rO h b cs (by simpa [aJ] using hb) p hp
 | some ds :: r,h,b,cs,hb,p,hp => by
   simp only [Gi,eO] at h;cases b with
   | zero => simp [aJ] at hb; subst hb; exact jH h.1 p hp
   | succ b => exact rO h.2 b cs (by simpa [aJ] using hb) p hp
theorem KT {cs : List AV} {p : Rt} (hp : p ∈ df cs) : ∃ (j : Nat) (c : AV),cs[j]? = some c /\ p ∈ aN c := by
 induction cs with
 | nil => simp [df] at hp
 | cons x r ih =>
   simp only [df,aC] at hp;rcases hp with hp | hp
   ·exact ⟨0,x,rfl,hp⟩
   ·obtain ⟨j,c,h1,h2⟩ := ih hp;exact ⟨j + 1,c,by simpa using h1,h2⟩
theorem Ig : ∀ (e : Env) (l : List Nat),∃ i,Am.get e i = .any /\ i ∉ l := by
 have key : ∀ e : Env,∃ n,∀ i,n <= i -> Am.get e i = .any := by
  intro e
  induction e with
  | nil => exact ⟨0,fun i _ => rfl⟩
  | cons p r ih =>
    obtain ⟨j,v⟩ := p;obtain ⟨n,hn⟩ := ih;refine ⟨max n (j + 1),fun i hi => ?_⟩;simp only [Am.get];rw [if_neg (by omega)];exact hn i (by omega)
 intro e l;obtain ⟨n,hn⟩ := key e
 have : ∃ m,∀ x ∈ l,x < m := by
  induction l with
  | nil => exact ⟨0,fun x hx => by simp at hx⟩
  | cons y r ih =>
    obtain ⟨m,hm⟩ := ih;refine ⟨max m (y + 1),fun x hx => ?_⟩;rcases aU.1 hx with e | e
    ·omega
    ·have := hm x e; omega
 obtain ⟨m,hm⟩ := this;exact ⟨max n m,hn _ (by omega),fun h => by have := hm _ h; omega⟩
section
variable {X : Nat -> Prop} {φ : dF} {w : World} {s s' : St} {t t' : Nat -> Value} {B : Nat -> Nat} {base : Nat} {v : AV} {v' : Value}
structure dY (X : Nat -> Prop) (φ : dF) (w : World) (B : Nat -> Nat) (base : Nat) (s : St) (v : AV) (t : Nat -> Value) (v' : Value) : Prop where
 st : SB X φ w B base s t
 ok : cZ (az s) s.H.length v
 put : ∀ i,get s.env i = .any -> SB X φ w B base ⟨put s.env i v,s.H⟩ (fun j => if j = i then v' else t j)
theorem KX {r : Rt} {x : AV} (h : SB X φ w B base s t) (hx : at_ s r = some x) : ∀ p ∈ aN x,(az s p).isSome := by
 obtain ⟨N,Ha,h,_⟩ := h;exact Aj x (h.yP hx)
theorem ado {b : Nat} {cs : List AV} (h : SB X φ w B base s t) (hb : aJ s.H b = some cs) : ∀ p ∈ df cs,(az s p).isSome := by
 intro p hp;obtain ⟨j,c,h1,h2⟩ := KT hp;exact KX h (r := .c b j) (by rw [uJ hb]; exact h1) p h2
theorem aci {i d : Nat} {p : Rt} (h : bz i p = false) : ju i d p = p := by
 cases p with
 | s j => simp only [bz,decide_eq_false_iff_not] at h; simp [ju,h]
 | sc j l => simp only [bz,decide_eq_false_iff_not] at h; simp [ju,h]
 | c b j => rfl
theorem rN {i : Nat} {p : Rt} (hi : bN (get s.env i) = false) (hp : (az s p).isSome) : bz i p = false := by
 obtain ⟨h1,h2⟩ := eJ hi;cases p with
 | s j =>
   simp only [bz,decide_eq_false_iff_not];rintro rfl;rw [h1] at hp; cases hp
 | sc j l =>
   simp only [bz,decide_eq_false_iff_not];rintro rfl;rw [h2] at hp; cases hp
 | c b j => rfl
theorem SB.hand {i d : Nat} (h : SB X φ w B base s t) (pc : i ≠ d) (hC : ∀ r x,at_ s r = some x -> ∀ p ∈ aN x,bz d p = false)
  (he : ∀ j,get s'.env j = if j = d then cU (Vv i d) (get s.env i) else if j = i then .any else cU (Vv i d) (get s.env j)) (hH : s'.H = fy (Vv i d) s.H) (ht : ∀ j,j ≠ i -> t' j = if j = d then t i else t j) : SB X φ w B base s' t' := by
 obtain ⟨N,Ha,h,hb,hl⟩ := h;obtain ⟨N',e,h'⟩ := h.hand pc hC he hH ht;exact ⟨N',Ha,h',fun b bO => by rw [e]; exact hb b bO,by rw [hH,fX]; exact hl⟩
theorem xC (h : dY X φ w B base s v t v') {d : Nat} (hp : Vg s d v = some s') (hd : d ≠ fg) (ht : ∀ j,t' j = if j = d then v' else t j) : ∃ φ',SB X φ' w B base s' t' /\ fo φ w φ' w := by
 unfold Vg at hp;split at hp
 ·split at hp
  case h_2 => cases hp
  rename_i OI;split at hp
  ·cases hp
  rename_i ho;simp at hp;subst hp;obtain ⟨j5,h1,a1⟩ := (h.put fg OI).zk d;refine ⟨j5,h1.hand (i := fg) (d := d) (kj hd) (fun r x hx p hp => rN (by simpa using ho) (KX h1 hx p hp)) (fun j => ?_) ?_ (fun j hj => ?_),a1⟩
  ·simp only [KE,bu,bP,dt]
  ·simp only [KE,bP]
  ·rw [ht,if_pos rfl,if_neg hj]
 ·rename_i hs;simp at hp;subst hp;obtain ⟨i,hi,pc⟩ := Ig s.env [d];have hid' : i ≠ d := fun e => pc (by simp [e]);have hio : bN (get s.env i) = false := by rw [hi]; rfl
  have H9 := h.put i hi;have NW : ∀ {p},(az s p).isSome -> ju i d p = p := fun hp => aci (rN hio hp);refine ⟨φ,H9.hand (i := i) (d := d) hid' (fun r x hx p hp => ?_) (fun j => ?_) ?_ (fun j hj => ?_),.refl _ _⟩
  ·simp only [LJ,aa,not_and,Bool.not_eq_true] at hs;cases hod : bN (get s.env d) with
   | false =>
     refine rN (s := ⟨put s.env i v,s.H⟩) (i := d) ?_ (KX H9 hx p hp);simp only [bu];rw [if_neg (kj hid')];exact hod
   | true =>
     have hn := hs hod;simp only [Gl,eO] at hn;cases r with
     | s j =>
       simp only [at_,bu,ah] at hx;subst hx;split at hp
       ·exact jH hn.1 p hp
       ·exact oZ hn.2.1 j p hp
     | sc j l =>
       simp only [at_,bu] at hx;split at hx
       ·rename_i cs dC;split at dC
        ·subst dC;exact jH hn.1 p (by simp only [aN]; exact kg hx hp)
        ·exact oZ hn.2.1 j p (by rw [dC]; simp only [aN]; exact kg hx hp)
       ·cases hx
     | c b l =>
       simp only [at_] at hx;split at hx
       ·rename_i cs dC;exact rO hn.2.2 b cs dC p (kg hx hp)
       ·cases hx
  ·simp only [bu];by_cases VS : j = d
   ·rw [if_pos VS,if_pos VS,if_pos trivial,py (yW i d) v (fun p hp => NW (Aj v h.ok p hp))]
   ·rw [if_neg VS,if_neg VS];by_cases GY : j = i
    ·rw [if_pos GY,GY]; exact hi
    ·rw [if_neg GY,if_neg GY,py (yW i d) _ (fun p hp => NW (KX h.st (r := .s j) rfl p hp))]
  ·exact (CR (yW i d) s.H (fun b cs hb p hp => NW (ado h.st hb p hp))).symm
  ·rw [ht,if_pos rfl,if_neg hj]
theorem ab1 (h : dY X φ w B base s v t v') {d : Option Nat} (hp : vU s d v = some s') (hd : d ≠ some fg) (ht : ∀ j,t' j = if some j = d then v' else t j) : ∃ φ',SB X φ' w B base s' t' /\ fo φ w φ' w := by
 cases d with
 | none =>
   simp [vU] at hp;subst hp;refine ⟨φ,?_,.refl _ _⟩;obtain ⟨N,Ha,h1,hb⟩ := h.st;have : t' = t := by funext j; rw [ht,if_neg (by simp)]
   rw [this];exact ⟨N,Ha,h1,hb⟩
 | some d => exact xC h (by simpa [vU] using hp) (fun e => hd (by rw [e])) (fun j => by rw [ht]; simp)
end
end Go.Bm

/- Operations that change nothing, in both machines. -/
namespace Go.Bm
open Go.Am

def xO : AV -> Bool
 | .bool _ | .int _ _ | .dJ | .fk | .fu | .undef => true
 | _ => false
def lB : List AV -> Bool
 | [] => true
 | x :: r => xO x && lB r
def isC : AV -> Bool
 | .agg cs => lB cs
 | .func _ [] [] => true
 | x => xO x
theorem Uw {v : Value} {x : AV} (h : IA v x = true) : xO x = true := by
 unfold IA at h;split at h <;> first | rfl | cases h
theorem KO : ∀ {vs : List Value} {xs : List AV},oS vs xs = true -> lB xs = true
 | [],[],_ => rfl
 | [],_ :: _,h => by simp [oS] at h
 | _ :: _,[],h => by simp [oS] at h
 | v :: r,x :: s,h => by
   simp only [oS,aa] at h;simp only [lB,aa];exact ⟨Uw h.1,KO h.2⟩
theorem y6 {x : AV} (h : xO x = true) : isC x = true := by cases x <;> first | (simp [xO] at h; done) | rfl | exact h
theorem ahq {o : Operand} {a : AV} (h : dv o (.k a) = true) : isC a = true := by
 unfold dv at h;split at h
 ·rename_i hk; cases hk
 ·rename_i v x hk;cases hk;unfold chkV at h;split at h
  ·exact KO h
  ·exact y6 (Uw h)
 ·rename_i f g hk; cases hk; rfl
 ·rename_i hk; cases hk
 ·cases h
theorem W9 (N : Names) {x : AV} (h : xO x = true) : cW N x = x := by cases x <;> first | rfl | simp [xO] at h
theorem W8 (N : Names) : ∀ {xs : List AV},lB xs = true -> kt N xs = xs
 | [],_ => rfl
 | x :: r,h => by
   simp only [lB,aa] at h;simp only [kt];rw [W9 N h.1,W8 N h.2]
theorem tr_c (N : Names) {x : AV} (h : isC x = true) : cW N x = x := by
 unfold isC at h;split at h
 ·simp only [cW]; rw [W8 N h]
 ·rfl
 ·exact W9 N h
theorem dn_c {x : AV} (h : isC (dnV x) = true) : (∃ k,x = .own k [] /\ dnV x = .dJ) \/ (isC x = true /\ dnV x = x) := by
 unfold dnV at h ⊢;split
 ·exact .inl ⟨_,rfl,rfl⟩
 ·rename_i hn;split at h
  ·rename_i k; exact absurd rfl (hn k)
  ·exact .inr ⟨h,rfl⟩

def fM (N : Names) : AV -> AV
 | .own _ _ => .dJ
 | x => cW N x
def gR (N : Names) : List AV -> List AV
 | [] => []
 | x :: r => fM N x :: gR N r
def td (N : Names) : AV -> AV
 | .own _ _ => .dJ
 | .agg cs => .agg (gR N cs)
 | x => cW N x
def EO : AV -> Prop
 | .own _ xs => xs = []
 | .agg cs => ∀ (j k : Nat) (xs : List AV),cs[j]? = some (.own k xs) -> xs = []
 | _ => True
theorem mj (N : Names) : ∀ (cs : List AV) (i : Nat),(gR N cs)[i]? = (cs[i]?).map (fM N)
 | [],i => by simp [gR]
 | x :: r,i => by cases i <;> simp [gR,mj N r]
theorem iI (N : Names) : ∀ cs : List AV,(gR N cs).length = cs.length
 | [] => rfl
 | x :: r => by simp [gR,iI N r]
theorem ka (N : Names) : ∀ {cs : List AV},bJ cs = false -> gR N cs = kt N cs
 | [],_ => rfl
 | x :: r,h => by
   simp only [gR,kt];cases x <;> simp [bJ] at h <;> rw [ka N h] <;> rfl
theorem kO (N : Names) {x : AV} (h : bN x = false) : td N x = cW N x := by
 cases x <;> first | rfl | (simp [bN] at h; done) | skip
 rename_i cs;simp only [bN] at h;simp only [td,cW];rw [ka N h]
theorem abk (N : Names) {x : AV} (h : ∀ cs,x = .agg cs -> bJ cs = false) : fM N x = td N x := by
 cases x <;> first | rfl | skip
 rename_i cs;simp only [fM,cW,td];rw [ka N (h cs rfl)]
theorem H0 (f : Nat -> Rt) : ∀ (cs : List AV) (j : Nat),bJ (eP f j cs) = false
 | [],j => rfl
 | x :: r,j => by
   have ih := H0 f r (j + 1);cases x <;> simp [eP,bJ,ih]
theorem Ob (i : Nat) (v : AV) : bN (eY i v) = false := by
 cases v <;> simp [eY,bN]
 exact H0 _ _ _
theorem Ax (f : Nat -> Rt) : ∀ (cs : List AV) (j i : Nat),(eP f j cs)[i]? = (cs[i]?).map (fun x => match x with
  | .own k xs => .dA k (f (j + i)) 0 xs.length
  | x => x)
 | [],j,i => by simp [eP]
 | x :: r,j,i => by
   cases i with
   | zero => cases x <;> simp [eP]
   | succ i =>
     have ih := Ax f r (j + 1) i;rw [show j + 1 + i = j + (i + 1) by omega] at ih;cases x <;> simp [eP,ih]
theorem Dl (N : Names) (f : Nat -> Rt) : ∀ (cs : List AV) (j : Nat),kt N (eP f j cs) = PM N f j cs
 | [],j => rfl
 | x :: r,j => by
   have ih := Dl N f r (j + 1);cases x <;> simp [eP,kt,PM,iH,ih]
   simp only [cW,pd,fY]
theorem RJ (N : Names) (i : Nat) (v : AV) : cW N (eY i v) = j9 N i v := by
 cases v <;> first | rfl | skip
 ·simp only [eY,cW,j9]; rw [Dl]
 ·simp only [eY,cW,j9,iH,pd,fY]
section
variable {X : Nat -> Prop} {φ : dF} {w : World} {N : Names} {s : St} {Ha : Heap} {t : Nat -> Value} {c : eG} {cA : Am.eG}
theorem aeF {o : Rt -> Option (Nat × List AV)} {nb : Nat} {x : AV} (h : xO x = true) : cZ o nb x := by cases x <;> first | trivial | simp [xO] at h
theorem ZD {o : Rt -> Option (Nat × List AV)} {nb : Nat} : ∀ {xs : List AV},lB xs = true -> jU o nb xs
 | [],_ => trivial
 | x :: r,h => by simp only [lB,aa] at h; exact ⟨aeF h.1,ZD h.2⟩
theorem ok_c {o : Rt -> Option (Nat × List AV)} {nb : Nat} {x : AV} (h : isC x = true) : cZ o nb x := by
 unfold isC at h;split at h
 ·exact ZD h
 ·exact ⟨trivial,trivial⟩
 ·exact aeF h
theorem AA : ∀ {xs : List AV},lB xs = true -> bJ xs = false
 | [],_ => rfl
 | x :: r,h => by
   simp only [lB,aa] at h;have := AA h.2;cases x <;> first | (simp [xO] at h; done) | simpa [bJ] using this
theorem acr {x : AV} (h : isC x = true) : bN x = false := by
 unfold isC at h;split at h
 ·exact AA h
 ·rfl
 ·rename_i h1 h2;cases x <;> first | rfl | (simp [xO] at h; done)
theorem Tu (h : eV X φ w N s Ha t) (i : Nat) : cZ (az s) s.H.length (eY i (get s.env i)) := by
 have hk := h.GQ i;have s9 : at_ s (.s i) = some (get s.env i) := rfl;cases hv : get s.env i <;> rw [hv] at hk s9 <;> try exact hk
 ·rename_i cs;simp only [eY,cZ] at hk ⊢;refine iv.2 fun j c hc => ?_;rw [Ax] at hc;cases hd : cs[j]? with
  | none => rw [hd] at hc; cases hc
  | some d =>
    rw [hd] at hc;simp only [cX,ah,dM] at hc;subst hc;have hdk := iv.1 hk j d hd;split
    ·rename_i k xs;simp only [cZ];exact ⟨xs,cH.2 (by rw [Gg hv]; exact hd),by omega⟩
    ·exact hdk
 ·rename_i k xs;simp only [eY,cZ];exact ⟨xs,cH.2 s9,by omega⟩
structure m5 (N : Names) (s : St) (c : eG) (cA : Am.eG) (x : E) : Prop where
 ev : Am.ev cA (yj N s.env) (kZ x) = fM N (bn c s.env x)
 ok : cZ (az s) s.H.length (bn c s.env x)
 eo : ∀ k xs,bn c s.env x = .own k xs -> xs = []
 na : ∀ cs,bn c s.env x = .agg cs -> bJ cs = false
theorem cQ (h : eV X φ w N s Ha t) (qD : cA.gl = c.gl) {o : Operand} {x : E} (hk : dv o (kZ x) = true) : m5 N s c cA x := by
 cases x with
 | t i =>
   have hl := Ob i (get s.env i);refine ⟨?_,Tu h i,fun k xs e => ?_,fun cs e => ?_⟩
   ·simp only [kZ,Am.ev,bn,kW];rw [<- RJ];generalize eY i (get s.env i) = y at hl;cases y <;> first | rfl | simp [bN] at hl
   ·simp only [bn] at e; rw [e] at hl; simp [bN] at hl
   ·simp only [bn] at e; rw [e] at hl; exact hl
 | k a =>
   simp only [kZ] at hk;rcases dn_c (ahq hk) with ⟨k,rfl,e⟩ | ⟨hc,e⟩
   ·exact ⟨rfl,trivial,fun k' xs e => by simp only [bn,AV.own.injEq] at e; exact e.2.symm,fun cs e => by simp [bn] at e⟩
   ·refine ⟨?_,ok_c hc,fun k xs e' => ?_,fun cs e' => ?_⟩
    ·simp only [kZ,Am.ev,bn,e];have := tr_c N hc;have hn := acr hc;cases a <;> first | exact this.symm | (simp [bN] at hn; done)
    ·simp only [bn] at e'; rw [e'] at hc; simp [isC,xO] at hc
    ·simp only [bn] at e'; rw [e'] at hc; exact AA hc
 | g i => exact ⟨by simp [kZ,Am.ev,bn,fM,cW,qD],trivial,fun k xs e => by simp [bn] at e,fun cs e => by simp [bn] at e⟩
theorem m5.int {x : E} (h : m5 N s c cA x) {k : IntKind} {n : Int} (e : bn c s.env x = .int k n) : Am.ev cA (yj N s.env) (kZ x) = .int k n := by rw [h.ev,e]; rfl
theorem m5.bool {x : E} (h : m5 N s c cA x) {b : Bool} (e : bn c s.env x = .bool b) : Am.ev cA (yj N s.env) (kZ x) = .bool b := by rw [h.ev,e]; rfl
theorem qv (h : eV X φ w N s Ha t) (qD : cA.gl = c.gl) : ∀ {os : List Operand} {xs : List E},iM os (A4 xs) = true -> Am.C7 cA (yj N s.env) (A4 xs) = gR N (dq c s.env xs) /\ jU (az s) s.H.length (dq c s.env xs)
 | _,[],_ => ⟨rfl,trivial⟩
 | [],x :: r,hk => by simp [A4,iM] at hk
 | o :: os,x :: r,hk => by
   simp only [A4,iM,aa] at hk;obtain ⟨h1,h2⟩ := qv h qD hk.2;have h3 := cQ (c := c) h qD hk.1;exact ⟨by simp only [A4,Am.C7,dq,gR,h1,h3.ev],h3.ok,h2⟩
theorem oY (h : eV X φ w N s Ha t) {k : Nat} {p : Rt} {off len : Nat} (ho : cZ (az s) s.H.length (.dA k p off len)) :
  (∃ n,N.ν p = some n /\ cW N (.dA k p off len) = .sl k n (off * k) len) \/ (N.ν p = none /\ off = 0 /\ len = 0 /\ cW N (.dA k p off len) = .dJ) := by
 simp only [cZ] at ho;obtain ⟨xs,h1,h2⟩ := ho;cases lh : N.ν p with
 | some n => exact .inl ⟨n,rfl,by simp [cW,lh]⟩
 | none =>
   have := h.own p k xs h1;rw [lh] at this;have hx : xs = [] := this;subst hx;simp at h2;exact .inr ⟨rfl,h2.1,h2.2,by simp [cW,lh]⟩
theorem EI (h : eV X φ w N s Ha t) {k : Nat} {p : Rt} {i off : Nat} (ho : cZ (az s) s.H.length (.eW k p i off)) : ∃ n,N.ν p = some n /\ cW N (.eW k p i off) = .ptr n (i * k + off) := by
 simp only [cZ] at ho;obtain ⟨xs,h1,h2⟩ := ho;cases lh : N.ν p with
 | some n => exact ⟨n,rfl,by simp [cW,lh]⟩
 | none =>
   have := h.own p k xs h1;rw [lh] at this;have hx : xs = [] := this;subst hx;simp at h2
end
end Go.Bm

/- Operations that change nothing: the older machine does the same. -/
namespace Go.Bm
open Go.Am
section
variable {P : Program}
theorem ahm {op : Op} {y : E} (h : dm P op (.mv y) = true) : ∃ x,dv x y = true := by
 unfold dm at h; split at h <;> simp_all <;> exact ⟨_,h⟩
theorem aaR {op : Op} {a b d : E} (h : dm P op (.pick a b d) = true) : (∃ x,dv x a = true) /\ (∃ x,dv x b = true) /\ ∃ x,dv x d = true := by
 unfold dm at h; split at h <;> simp_all; exact ⟨⟨_,h.1.1⟩,⟨_,h.1.2⟩,⟨_,h.2⟩⟩
theorem adg {op : Op} {y : E} (h : dm P op (.box y) = true) : ∃ x,dv x y = true := by
 unfold dm at h; split at h <;> simp_all; exact ⟨_,h⟩
theorem Wr {op : Op} {y : E} (h : dm P op (.kU y) = true) : ∃ x,dv x y = true := by
 unfold dm at h; split at h <;> simp_all; exact ⟨_,h⟩
theorem adh {op : Op} {bo : BinOp} {a b : E} (h : dm P op (.bin bo a b) = true) : (∃ x,dv x a = true) /\ ∃ x,dv x b = true := by
 unfold dm at h; split at h <;> simp_all; exact ⟨⟨_,h.1.2⟩,⟨_,h.2⟩⟩
theorem ahp {op : Op} {ng : Bool} {t : Et} {a b : E} (h : dm P op (.eq ng t a b) = true) : (∃ x,dv x a = true) /\ ∃ x,dv x b = true := by
 unfold dm at h; split at h <;> simp_all; exact ⟨⟨_,h.1.2⟩,⟨_,h.2⟩⟩
theorem ahk {op : Op} {uo : UnOp} {y : E} (h : dm P op (.un uo y) = true) : ∃ x,dv x y = true := by
 unfold dm at h; split at h <;> simp_all; exact ⟨_,h.2⟩
theorem ade {op : Op} {k : IntKind} {y : E} (h : dm P op (.CB k y) = true) : ∃ x,dv x y = true := by
 unfold dm at h; split at h <;> simp_all; exact ⟨_,h.2⟩
theorem ac2 {op : Op} {fn : Fn} {a b : List E} (h : dm P op (.TK fn a b) = true) : (∃ x,iM x a = true) /\ ∃ x,iM x b = true := by
 unfold dm at h; split at h <;> simp_all; exact ⟨⟨_,h.1.2⟩,⟨_,h.2⟩⟩
theorem Ut {op : Op} {k : Nat} {zs : List AV} {a b : E} (h : dm P op (.Kn k zs a b) = true) : (∃ t,iD P t k = true /\ gX P t zs = true) /\ (∃ x,dv x a = true) /\ ∃ x,dv x b = true := by
 unfold dm at h; split at h <;> simp_all; exact ⟨⟨_,h.1.1⟩,⟨_,h.1.2⟩,⟨_,h.2⟩⟩
theorem ada {op : Op} {off : Nat} {y : E} (h : dm P op (.cC off y) = true) : ∃ x,dv x y = true := by
 unfold dm at h; split at h <;> simp_all; exact ⟨_,h.2⟩
theorem Uu {op : Op} {n : Nat} {y : E} {hi : Option E} (h : dm P op (.IK n y hi) = true) : (∃ x,dv x y = true) /\ ∀ e,hi = some e -> ∃ x,dv x e = true := by
 unfold dm at h; split at h <;> simp_all
 refine ⟨⟨_,h.2.1⟩,fun e he => ?_⟩;subst he; have := h.2.2; unfold oV at this; split at this <;> simp_all; exact ⟨_,this⟩
theorem ac9 {op : Op} {off : Nat} {ag : Option Nat} {y : E} (h : dm P op (.V9 off ag y) = true) : ∃ x,dv x y = true := by
 unfold dm at h; split at h <;> simp_all; exact ⟨_,h.2⟩
theorem ac8 {op : Op} {k : Nat} {a b : E} (h : dm P op (.gw k a b) = true) : (∃ x,dv x a = true) /\ ∃ x,dv x b = true := by
 unfold dm at h; split at h <;> simp_all; exact ⟨⟨_,h.1.2⟩,⟨_,h.2⟩⟩
theorem ac7 {op : Op} {n k : Nat} {a b : E} (h : dm P op (.Fi n k a b) = true) : (∃ x,dv x a = true) /\ ∃ x,dv x b = true := by
 unfold dm at h; split at h <;> simp_all; exact ⟨⟨_,h.1.2⟩,⟨_,h.2⟩⟩
theorem aho {op : Op} {n k : Nat} {ag : Option Nat} {a b : E} (h : dm P op (.ix n k ag a b) = true) : (∃ x,dv x a = true) /\ ∃ x,dv x b = true := by
 unfold dm at h; split at h <;> simp_all; exact ⟨⟨_,h.1.2⟩,⟨_,h.2⟩⟩
theorem adb {op : Op} {i : Nat} {y : E} (h : dm P op (.ext i y) = true) : ∃ x,dv x y = true := by
 unfold dm at h; split at h <;> simp_all; exact ⟨_,h.2⟩
theorem ac6 {op : Op} {tab : List Nat} {y : E} (h : dm P op (.VE tab y) = true) : ∃ x,dv x y = true := by
 unfold dm at h; split at h <;> simp_all; exact ⟨_,h.2⟩
theorem ac5 {op : Op} {y : E} (h : dm P op (.len y) = true) : ∃ x,dv x y = true := by
 unfold dm at h; split at h <;> simp_all
 split at h <;> simp_all; exact ⟨_,h.2⟩
theorem ac3 {op : Op} {ys : List E} (h : dm P op (.min ys) = true) : ∃ x,iM x ys = true := by
 unfold dm at h; split at h <;> simp_all; exact ⟨_,h⟩
theorem ac4 {op : Op} {ys : List E} (h : dm P op (.max ys) = true) : ∃ x,iM x ys = true := by
 unfold dm at h; split at h <;> simp_all; exact ⟨_,h⟩
theorem ac0 {op : Op} {k : Nat} {y : E} {lo hi : Option E} (h : dm P op (.rT k y lo hi) = true) : (∃ x,dv x y = true) /\ (∀ e,lo = some e -> ∃ x,dv x e = true) /\ ∀ e,hi = some e -> ∃ x,dv x e = true := by
 unfold dm at h; split at h <;> simp_all
 refine ⟨⟨_,h.1.1.2⟩,fun e he => ?_,fun e he => ?_⟩
 ·subst he; have := h.1.2; unfold oV at this; split at this <;> simp_all; exact ⟨_,this⟩
 ·subst he; have := h.2; unfold oV at this; split at this <;> simp_all; exact ⟨_,this⟩
theorem vH {place : Nat -> Option (Nat × Nat)} : ∀ {ps : List (Nat × Operand)} {qs : List (Nat × Nat × E)},oT place ps qs = true -> ∀ q ∈ qs,∃ x,dv x q.2.2 = true
 | [],[],_,q,hq => by simp at hq
 | [],_ :: _,h,_,_ => by simp [oT] at h
 | _ :: _,[],h,_,_ => by simp [oT] at h
 | p :: r,q :: s,h,q',hq => by
   simp only [oT,aa] at h;rcases aU.1 hq with e | e
   ·subst e; exact ⟨_,h.1.2⟩
   ·exact vH h.2 q' e
theorem Wt {op : Op} {zs : List AV} {ps : List (Nat × Nat × E)} (h : dm P op (.build zs ps) = true) : (∃ t,mI P t zs = true) /\ ∀ q ∈ ps,∃ x,dv x q.2.2 = true := by
 unfold dm at h; split at h <;> simp_all
 obtain ⟨h1,h2⟩ := h;refine ⟨⟨_,h1⟩,?_⟩;split at h2
 ·simp_all; exact fun a b e hq => vH h2.2 (a,b,e) hq
 ·split at h2
  ·exact fun a b e hq => vH h2 (a,b,e) hq
  ·cases h2
 ·cases h2
theorem Rk {op : Op} {k n : Nat} {zs : List AV} {ps : List (Nat × Nat × E)} (h : dm P op (.eE k n zs ps) = true) : (∃ t,iD P t k = true /\ gX P t zs = true) /\ ∀ q ∈ ps,∃ x,dv x q.2.2 = true := by
 unfold dm at h; split at h <;> simp_all
 exact ⟨⟨_,h.1.1.1.2,h.1.1.2⟩,fun a b e hq => vH h.2 (a,b,e) hq⟩
theorem ahn {op : Op} {ag : Option Nat} {y : E} (h : dm P op (.ld ag y) = true) : ∃ x,dv x y = true := by
 unfold dm at h; split at h <;> simp_all; exact ⟨_,h.2⟩
theorem ahl {op : Op} {k : Nat} {a b : E} (h : dm P op (.st k a b) = true) : (∃ x,dv x a = true) /\ ∃ x,dv x b = true := by
 unfold dm at h; split at h <;> simp_all; exact ⟨⟨_,h.1.2⟩,⟨_,h.2⟩⟩
theorem ac1 {op : Op} {zs : List AV} (h : dm P op (.new zs) = true) : ∃ t,mI P t zs = true := by
 unfold dm at h; split at h <;> simp_all; exact ⟨_,h⟩
theorem adf {op : Op} {k : Nat} {zs : List AV} {y : E} (h : dm P op (.Ur k zs y) = true) : (∃ t,iD P t k = true /\ gX P t zs = true) /\ ∃ x,dv x y = true := by
 unfold dm at h; split at h <;> simp_all
 split at h <;> simp_all; exact ⟨⟨_,h.1.1,h.1.2⟩,⟨_,h.2⟩⟩
theorem Uv {op : Op} {k : Nat} {a b : E} (h : dm P op (.app k a b) = true) : (∃ x,dv x a = true) /\ ∃ x,dv x b = true := by
 unfold dm at h; split at h <;> simp_all
 split at h <;> simp_all; exact ⟨⟨_,h.1.2⟩,⟨_,h.2⟩⟩
theorem O6 {op : Op} {k : Nat} {a b : E} (h : dm P op (.copy k a b) = true) : (∃ x,dv x a = true) /\ ∃ x,dv x b = true := by
 unfold dm at h; split at h <;> simp_all
 split at h <;> simp_all; exact ⟨⟨_,h.1.2⟩,⟨_,h.2⟩⟩
theorem qd {t : TypeId} {zs : List AV} (h : mI P t zs = true) : lB zs = true /\ bq zs = true := by
 unfold mI at h;split at h
 ·split at h
  ·simp only [aa] at h; exact ⟨KO h.1,h.2⟩
  ·cases h
 ·cases h
end
end Go.Bm

/- Operations that change nothing: what they give. -/
set_option linter.unusedVariables false
namespace Go.Bm
open Go.Am
section
variable {P : Program} {X : Nat -> Prop} {φ : dF} {w : World} {N : Names} {s : St} {Ha : Heap} {t : Nat -> Value} {c : eG} {cA : Am.eG} {call : Nat -> List AV -> Heap -> Option (AV × Heap)}
theorem qg (N : Names) (cs : List AV) : gR N cs = cs.map (fM N) := by
 induction cs with
 | nil => rfl
 | cons x r ih => simp [gR,ih]
theorem RL (N : Names) (cs : List AV) : kt N cs = cs.map (cW N) := by
 induction cs with
 | nil => rfl
 | cons x r ih => simp [kt,ih]
theorem m5.EO {x : E} (h : m5 N s c cA x) : EO (bn c s.env x) := by
 cases e : bn c s.env x <;> simp only [Go.Bm.EO]
 ·rename_i cs;intro j k xs hj;exfalso;have := h.na cs e;clear e
  induction cs generalizing j with
  | nil => simp at hj
  | cons y r ih =>
    cases j with
    | zero => simp at hj; subst hj; simp [bJ] at this
    | succ j => exact ih j (by simpa using hj) (by cases y <;> simp [bJ] at this <;> exact this)
 ·exact h.eo _ _ e
theorem m5.evQ {x : E} (h : m5 N s c cA x) : Am.ev cA (yj N s.env) (kZ x) = td N (bn c s.env x) := by rw [h.ev,abk N h.na]
theorem Kp (h : eV X φ w N s Ha t) {x : AV} (hl : x.leaf = true) (hk : cZ (az s) s.H.length x) : (fM N x).leaf = true := by
 cases x <;> first | rfl | (simp [AV.leaf] at hl; done) | skip
 ·rename_i k p off len;simp only [fM,cW];cases N.ν p <;> rfl
 ·rename_i k p i off;obtain ⟨n,_,e⟩ := EI h hk;simp only [fM,e,AV.leaf]
theorem rP (h : eV X φ w N s Ha t) : ∀ {cs : List AV},bq cs = true -> jU (az s) s.H.length cs -> bq (gR N cs) = true
 | [],_,_ => rfl
 | x :: r,hl,hk => by
   simp only [bq,aa] at hl;simp only [gR,bq,aa];exact ⟨Kp h hl.1 hk.1,rP h hl.2 hk.2⟩
theorem FY (N : Names) {x : AV} (hn : ∀ cs,x = .agg cs -> bJ cs = false) : (fM N x).cells = gR N x.cells := by
 cases x <;> first | rfl | skip
 ·rename_i cs; simp only [fM,cW,AV.cells]; rw [ka N (hn cs rfl)]
 ·rename_i k p off len;simp only [fM,cW,AV.cells,gR];cases N.ν p <;> rfl
 ·rename_i k p i off;simp only [fM,cW,AV.cells,gR];cases N.ν p <;> rfl
theorem tR {o : Rt -> Option (Nat × List AV)} {nb : Nat} {x : AV} (h : cZ o nb x) : jU o nb x.cells := by
 cases x <;> first | exact ⟨h,trivial⟩ | exact h
theorem NC {o : Rt -> Option (Nat × List AV)} {nb n : Nat} {cs : List AV} (h : jU o nb cs) : jU o nb (cs.take n) :=
 iv.2 fun i c hc => iv.1 h i c (by rw [bf] at hc; split at hc; exact hc; cases hc)
theorem yR {o : Rt -> Option (Nat × List AV)} {nb n : Nat} {cs : List AV} (h : jU o nb cs) : jU o nb (cs.drop n) :=
 iv.2 fun i c hc => iv.1 h (n + i) c (by rw [aQ] at hc; exact hc)
theorem oI {o : Rt -> Option (Nat × List AV)} {nb : Nat} : ∀ {cs ds : List AV},jU o nb cs -> jU o nb ds -> jU o nb (cs ++ ds)
 | [],_,_,h => h
 | x :: r,_,h,k => ⟨h.1,oI h.2 k⟩
theorem ach {o : Rt -> Option (Nat × List AV)} {nb off : Nat} {cs ds : List AV} (h : jU o nb cs) (k : jU o nb ds) : jU o nb (iZ cs off ds) := oI (oI (NC h) k) (yR h)
theorem ae3 (N : Names) (cs ds : List AV) (off : Nat) : gR N (iZ cs off ds) = iZ (gR N cs) off (gR N ds) := by
 simp only [qg,iZ,List.map_append,List.map_take,List.map_drop,jR]
def UD (cs : List AV) : Prop := ∀ (j k : Nat) (xs : List AV),cs[j]? = some (.own k xs) -> xs = []
theorem UD.iZ {cs ds : List AV} {off : Nat} (h : UD cs) (k : UD ds) : UD (Am.iZ cs off ds) := by
 intro j kk xs hj;have := aR hj;simp only [Am.iZ,aC] at this
 have mem : ∀ {l : List AV},UD l -> (.own kk xs) ∈ l -> xs = [] := fun hl hm => by
  obtain ⟨i,hi⟩ := br hm;exact hl i _ _ hi
 rcases this with (hm | hm) | hm
 ·exact mem h (cD hm)
 ·exact mem k hm
 ·exact mem h (cF hm)
theorem m5.UD {x : E} (h : m5 N s c cA x) : UD (bn c s.env x).cells := by
 have he := h.EO;cases e : bn c s.env x <;> rw [e] at he <;> simp only [AV.cells] <;> first | exact he | skip
 all_goals
  intro j k xs hj;cases j with
  | zero => simp at hj <;> exact hj.2 ▸ (by first | exact he | exact he)
  | succ j => simp at hj
theorem pA (h : eV X φ w N s Ha t) (qD : cA.gl = c.gl) : ∀ {ps : List (Nat × Nat × E)} {zs cs : List AV},(∀ q ∈ O0 ps,∃ x,dv x q.2.2 = true) -> jU (az s) s.H.length zs -> UD zs -> nf c s.env zs ps = some cs ->
  mB cA (yj N s.env) (gR N zs) (O0 ps) = some (gR N cs) /\ jU (az s) s.H.length cs /\ UD cs /\ cs.length = zs.length
 | [],zs,cs,_,hz,he,hf => by simp [nf] at hf; subst hf; exact ⟨rfl,hz,he,rfl⟩
 | (off,sz,x) :: r,zs,cs,hq,hz,he,hf => by
   simp only [nf] at hf;split at hf
   case isFalse => cases hf
   rename_i hc;obtain ⟨c1,c2,c3⟩ := hc;obtain ⟨o,ho⟩ := hq (off,sz,kZ x) (by simp [O0]);have hx := cQ (c := c) (cA := cA) h qD ho;have fQ := FY N hx.na;obtain ⟨k1,k2,k3,k4⟩ := pA h qD (ps := r) (fun q hq' => hq q (by simp [O0,hq'])) (ach hz (tR hx.ok)) (he.iZ hx.UD) hf;refine ⟨?_,k2,k3,?_⟩
   ·simp only [O0,mB,hx.ev,fQ];rw [if_pos ⟨by rw [iI]; exact c1,by rw [iI]; exact c2,rP h c3 (tR hx.ok)⟩,<- ae3];exact k1
   ·rw [k4]; exact fS (by omega)
theorem zo (N : Names) : ∀ {zs : List AV},lB (rG zs) = true -> rG zs = gR N zs /\ UD zs
 | [],_ => ⟨rfl,fun j k xs h => by simp at h⟩
 | x :: r,h => by
   simp only [rG,lB,aa] at h;obtain ⟨h1,h2⟩ := zo N h.2;rcases dn_c (y6 h.1) with ⟨k,rfl,e⟩ | ⟨hc,e⟩
   ·refine ⟨by simp only [rG,gR,h1,e,fM],fun j k xs hj => ?_⟩;cases j with
    | zero => simp at hj; exact hj.2
    | succ j => exact h2 j k xs (by simpa using hj)
   ·rw [e] at h;refine ⟨?_,fun j k xs hj => ?_⟩
    ·simp only [rG,gR,h1,e];congr 1;have := W9 N h.1;cases x <;> first | exact this.symm | (simp [xO] at h; done)
    ·cases j with
     | zero => simp at hj; subst hj; simp [xO] at h
     | succ j => exact h2 j k xs (by simpa using hj)
theorem yN {o : Rt -> Option (Nat × List AV)} {nb : Nat} : ∀ {zs : List AV},lB (rG zs) = true -> jU o nb zs
 | [],_ => trivial
 | x :: r,h => by
   simp only [rG,lB,aa] at h;rcases dn_c (y6 h.1) with ⟨k,rfl,e⟩ | ⟨hc,e⟩
   ·exact ⟨trivial,yN h.2⟩
   ·exact ⟨ok_c hc,yN h.2⟩
theorem Q3 (N : Names) : ∀ {l : List Bool} {xs ys : List AV} {e : Bool},sQ l xs ys = some e -> sQ l (gR N xs) (gR N ys) = some e
 | [],[],[],e,h => h
 | true :: l,x :: r,y :: s,e,h => by
   cases x <;> try (simp [sQ] at h; done)
   cases y <;> try (simp [sQ] at h; done)
   simp only [sQ,gR,fM,cW] at h ⊢;split at h
   ·rename_i hk;rw [if_pos hk];split at h
    ·rename_i e' he;rw [Q3 N he];exact h
    ·cases h
   ·cases h
 | false :: l,x :: r,y :: s,e,h => by
   cases x <;> try (simp [sQ] at h; done)
   cases y <;> try (simp [sQ] at h; done)
   simp only [sQ,gR,fM,cW] at h ⊢;split at h
   ·rename_i e' he;rw [Q3 N he];exact h
   ·cases h
 | [],x :: r,ys,e,h => by simp [sQ] at h
 | [],[],y :: s,e,h => by simp [sQ] at h
 | b :: l,[],ys,e,h => by cases b <;> simp [sQ] at h
 | b :: l,x :: r,[],e,h => by cases b <;> cases x <;> simp [sQ] at h
theorem TL (N : Names) (mx : Bool) : ∀ {xs : List AV} {x v : AV},yX mx x xs = some v -> (∃ k n,x = .int k n) -> yX mx x (gR N xs) = some v /\ ∃ k n,v = .int k n
 | [],x,v,h,hx => by simp [yX] at h; subst h; exact ⟨rfl,hx⟩
 | y :: r,x,v,h,hx => by
   obtain ⟨k,n,rfl⟩ := hx;cases y <;> try (simp [yX] at h; done)
   simp only [yX,gR,fM,cW] at h ⊢;exact TL N mx h ⟨_,_,rfl⟩
theorem TM (N : Names) {mx : Bool} {xs : List AV} {v : AV} (h : xK mx xs = some v) : xK mx (gR N xs) = some v /\ ∃ k n,v = .int k n := by
 cases xs with
 | nil => simp [xK] at h
 | cons y r =>
   cases y <;> try (simp [xK] at h; done)
   simp only [xK,gR,fM,cW] at h ⊢;exact TL N mx h ⟨_,_,rfl⟩
theorem adq {op : BinOp} {x y v : AV} (h : Gc op x y = some v) : (∃ k n,x = .int k n) /\ (∃ k n,y = .int k n) /\ ((∃ k n,v = .int k n) \/ ∃ b,v = .bool b) := by
 unfold Gc at h;split at h
 case h_2 => cases h
 refine ⟨⟨_,_,rfl⟩,⟨_,_,rfl⟩,?_⟩;split at h
 ·split at h
  ·cases h
  ·simp at h; exact .inl ⟨_,_,h.symm⟩
 ·split at h
  ·cases h
  ·simp at h; exact .inl ⟨_,_,h.symm⟩
 ·split at h
  ·unfold arith at h
   split at h <;> first
    | (simp at h; exact .inl ⟨_,_,h.symm⟩)
    | (simp at h; exact .inr ⟨_,h.symm⟩)
    | (split at h
       ·cases h
       ·simp at h; exact .inl ⟨_,_,h.symm⟩)
    | cases h
  ·cases h
theorem LM {v : AV} (h : (∃ k n,v = .int k n) \/ ∃ b,v = .bool b) (o : Rt -> Option (Nat × List AV)) (nb : Nat) : td N v = v /\ cZ o nb v /\ EO v := by
 rcases h with ⟨k,n,rfl⟩ | ⟨b,rfl⟩ <;> exact ⟨rfl,trivial,trivial⟩
theorem P8 (N : Names) {ag : Option Nat} {cs : List AV} {v : AV} {o : Rt -> Option (Nat × List AV)} {nb : Nat} (h : Jk ag cs = some v) (hk : jU o nb cs) : zQ ag (kt N cs) = some (td N v) /\ cZ o nb v /\ EO v /\ bN v = false := by
 unfold Jk at h;split at h
 case h_2 => cases h
 rename_i v' hr;split at h
 ·cases h
 rename_i ho;simp at h ho;subst h
 have he : EO v' := by
  cases v' <;> simp only [EO] <;> try (simp [bN] at ho; done)
  rename_i ds;intro j k xs hj;exfalso;simp only [bN] at ho;clear hr
  induction ds generalizing j with
  | nil => simp at hj
  | cons y r ih =>
    cases j with
    | zero => simp at hj; subst hj; simp [bJ] at ho
    | succ j => exact ih (by cases y <;> simp [bJ] at ho <;> exact ho) j (by simpa using hj)
 unfold zQ at hr ⊢;cases ag with
 | some k =>
   simp only at hr ⊢;split at hr
   case isFalse => cases hr
   rename_i hle;simp at hr;subst hr;rw [if_pos (by rw [dZ]; exact hle),kO N ho];exact ⟨by simp only [cW,RL,List.map_take],NC hk,he,ho⟩
 | none =>
   simp only at hr ⊢;cases cs with
   | nil => cases hr
   | cons x r =>
     simp at hr;subst hr;rw [kO N ho];exact ⟨by simp [kt],hk.1,he,ho⟩
theorem Dp (N : Names) (cs : List AV) (n : Nat) : (kt N cs).drop n = kt N (cs.drop n) := by simp only [RL,List.map_drop]
end
end Go.Bm

/- Operations that change nothing: the older machine does the same. -/
namespace Go.Bm
open Go.Am
section
variable {P : Program} {X : Nat -> Prop} {φ : dF} {w : World} {N : Names} {s : St} {Ha : Heap} {t : Nat -> Value} {c : eG} {cA : Am.eG} {call : Nat -> List AV -> Heap -> Option (AV × Heap)}
theorem Rm (h : eV X φ w N s Ha t) (qD : cA.gl = c.gl) {d m n : Nat} {x : Option E} (hk : ∀ e,dnO x = some e -> ∃ o,dv o e = true) (hb : yd c s.env d m x = some n) : zq cA (yj N s.env) d m (dnO x) = some n := by
 cases x with
 | none => exact hb
 | some x =>
   obtain ⟨o,ho⟩ := hk _ rfl;simp only [yd] at hb;simp only [dnO,zq];cases e : bn c s.env x <;> rw [e] at hb <;> try (simp [bnd] at hb; done)
   rw [(cQ (c := c) (cA := cA) h qD ho).int e];exact hb
theorem AG {x : AV} {n m : Nat} (h : idx x n = some m) : ∃ k i,x = .int k i /\ idx (.int k i) n = some m /\ m < n := by
 unfold idx at h;split at h
 ·rename_i k i;refine ⟨k,i,rfl,h,?_⟩;split at h
  ·simp at h; omega
  ·cases h
 ·cases h
theorem TQ (h : eV X φ w N s Ha t) {x : E} (hx : m5 N s c cA x) {n : Nat} (hl : QO (bn c s.env x) = some n) : lenA (Am.ev cA (yj N s.env) (kZ x)) = some n := by
 rw [hx.ev];have hk := hx.ok;cases e : bn c s.env x <;> rw [e] at hl hk <;> try (simp [QO] at hl; done)
 ·exact hl
 ·exact hl
 ·exact hl
 ·rename_i k xs;have := hx.eo k xs e;subst this;exact hl
 ·rename_i k p off len;simp only [QO] at hl;cases hl;simp only [fM];rcases oY h hk with ⟨m,_,e2⟩ | ⟨_,_,rfl,e2⟩ <;> rw [e2] <;> rfl
theorem agt (h : eV X φ w N s Ha t) (qD : cA.gl = c.gl) {op : Op} {kd : Kd} {v : AV} (hk : dm P op (kY kd) = true) (hs : Qy c s.env kd = some v) :
  fL cA call (yj N s.env) Ha (kY kd) = some (td N v,Ha,.no) /\ cZ (az s) s.H.length v /\ EO v := by
 cases kd <;> simp only [Qy,reduceCtorEq] at hs <;> simp only [kY] at hk ⊢
 case mv x =>
  obtain ⟨o,ho⟩ := ahm hk;have hx := cQ (c := c) (cA := cA) h qD ho;simp at hs;subst hs;exact ⟨by simp only [fL,hx.evQ],hx.ok,hx.EO⟩
 case pick x a b =>
  obtain ⟨⟨o1,h1⟩,⟨o2,h2⟩,o3,h3⟩ := aaR hk;have hx := cQ (c := c) (cA := cA) h qD h1;have ha := cQ (c := c) (cA := cA) h qD h2;have hb := cQ (c := c) (cA := cA) h qD h3;split at hs
  case h_2 => cases hs
  rename_i b' he;simp at hs;subst hs;simp only [fL,hx.bool he];cases b'
  ·exact ⟨by simp [hb.evQ],by simpa using hb.ok,by simpa using hb.EO⟩
  ·exact ⟨by simp [ha.evQ],by simpa using ha.ok,by simpa using ha.EO⟩
 case build zs ps =>
  obtain ⟨⟨t,ht⟩,hq⟩ := Wt hk;obtain ⟨e1,e2⟩ := zo N (qd ht).1;split at hs
  case h_2 => cases hs
  rename_i cs hf;simp at hs;subst hs;obtain ⟨k1,k2,k3,k4⟩ := pA (cA := cA) h qD hq (yN (qd ht).1) e2 hf;rw [e1];exact ⟨by simp only [fL,k1,td],k2,k3⟩
 case kU x =>
  obtain ⟨o,ho⟩ := Wr hk;have hx := cQ (c := c) (cA := cA) h qD ho;have dy := hx.ok;simp only [fL,hx.ev];cases e : bn c s.env x <;> rw [e] at hs dy <;> try (simp at hs; done)
  ·simp at hs; subst hs; exact ⟨rfl,trivial,trivial⟩
  ·simp at hs; subst hs; exact ⟨rfl,dy,trivial⟩
  ·rename_i f a b;cases f <;> simp at hs
   subst hs;exact ⟨rfl,dy,trivial⟩
 case bin op' x y =>
  obtain ⟨⟨o1,h1⟩,o2,h2⟩ := adh hk;have hx := cQ (c := c) (cA := cA) h qD h1;have hy := cQ (c := c) (cA := cA) h qD h2;obtain ⟨⟨k1,n1,e1⟩,⟨k2,n2,e2⟩,hv⟩ := adq hs;obtain ⟨q1,q2,q3⟩ := LM (N := N) hv (az s) s.H.length;rw [e1,e2] at hs;simp only [fL,hx.int e1,hy.int e2,hs,q1];exact ⟨trivial,q2,q3⟩
 case eq ng et x y =>
  obtain ⟨⟨o1,h1⟩,o2,h2⟩ := ahp hk;have hx := cQ (c := c) (cA := cA) h qD h1;have hy := cQ (c := c) (cA := cA) h qD h2;split at hs
  case h_2 => cases hs
  rename_i e he;simp at hs;subst hs;refine ⟨?_,trivial,trivial⟩
  have : FC et (Am.ev cA (yj N s.env) (kZ x)) (Am.ev cA (yj N s.env) (kZ y)) = some e := by
   rw [hx.ev,hy.ev];have hxk := hx.ok;unfold eqB at he;split at he
   ·rename_i a b e1 e2; rw [e1,e2]; exact he
   ·rename_i l xs ys e1 e2;have n1 := hx.na _ e1;have n2 := hy.na _ e2;rw [e1,e2];simp only [fM,cW,FC];rw [<- ka N n1,<- ka N n2];exact Q3 N he
   ·rename_i z k e2;rw [e2];simp only [fM];cases e1 : bn c s.env x <;> rw [e1] at he hxk <;> try (simp [gO] at he; done)
    ·simpa [gO,FC,isNil,fM,cW] using he
    ·rename_i k' xs;cases xs with
     | nil => simp [gO] at he
     | cons u r => simpa [gO,FC,isNil,fM,cW] using he
    ·simpa [gO,FC,isNil,fM,cW] using he
    ·rename_i k' p off len;simp only [gO] at he;split at he
     ·cases he
     ·rename_i hlen;simp at he;subst he;simp only [fM];rcases oY h hxk with ⟨m,_,e3⟩ | ⟨_,_,h0,_⟩
      ·rw [e3]; rfl
      ·exact absurd h0 hlen
   ·rename_i z e2;rw [e2];simp only [fM];cases e1 : bn c s.env x <;> rw [e1] at he hxk <;> try (simp [gO] at he; done)
    ·simpa [gO,FC,isNil,fM,cW] using he
    ·rename_i k' xs;cases xs with
     | nil => simp [gO] at he
     | cons u r => simpa [gO,FC,isNil,fM,cW] using he
    ·simpa [gO,FC,isNil,fM,cW] using he
    ·rename_i k' p off len;simp only [gO] at he;split at he
     ·cases he
     ·rename_i hlen;simp at he;subst he;simp only [fM];rcases oY h hxk with ⟨m,_,e3⟩ | ⟨_,_,h0,_⟩
      ·rw [e3]; rfl
      ·exact absurd h0 hlen
   ·rename_i z e2;rw [e2];cases e1 : bn c s.env x <;> rw [e1] at he <;> try (simp [gO] at he; done)
    all_goals simpa [gO,FC,isNil,fM,cW] using he
   ·rename_i z e2;rw [e2];cases e1 : bn c s.env x <;> rw [e1] at he <;> try (simp [gO] at he; done)
    all_goals simpa [gO,FC,isNil,fM,cW] using he
   ·cases he
  simp only [fL,this,td,cW]
 case un uo x =>
  obtain ⟨o,ho⟩ := ahk hk;have hx := cQ (c := c) (cA := cA) h qD ho;simp only [fL,hx.ev];cases e : bn c s.env x <;> rw [e] at hs <;> try (cases uo <;> simp [W2] at hs; done)
  ·have : (∃ k n,v = .int k n) \/ ∃ b,v = .bool b := by
    cases uo <;> simp [W2] at hs
    ·exact .inl ⟨_,_,hs.symm⟩
    ·exact .inl ⟨_,_,hs.symm⟩
   obtain ⟨q1,q2,q3⟩ := LM (N := N) this (az s) s.H.length;simp only [fM,cW,hs,q1];exact ⟨trivial,q2,q3⟩
  ·have : (∃ k n,v = .int k n) \/ ∃ b,v = .bool b := by
    cases uo <;> simp [W2] at hs
    exact .inr ⟨_,hs.symm⟩
   obtain ⟨q1,q2,q3⟩ := LM (N := N) this (az s) s.H.length;simp only [fM,cW,hs,q1];exact ⟨trivial,q2,q3⟩
 case CB k x =>
  obtain ⟨o,ho⟩ := ade hk;have hx := cQ (c := c) (cA := cA) h qD ho;split at hs
  case h_2 => cases hs
  rename_i k' n e;simp at hs;subst hs;simp only [fL,hx.int e];exact ⟨rfl,trivial,trivial⟩
 case TK fn a b =>
  obtain ⟨⟨o1,h1⟩,o2,h2⟩ := ac2 hk;obtain ⟨a1,a2⟩ := qv (cA := cA) h qD h1;obtain ⟨b1,b2⟩ := qv (cA := cA) h qD h2;split at hs
  ·cases hs
  rename_i ho;simp at hs ho;subst hs
  have sp : ∀ {xs ys : List AV},bJ (xs ++ ys) = false -> bJ xs = false /\ bJ ys = false := by
   intro xs
   induction xs with
   | nil => intro ys h; exact ⟨rfl,h⟩
   | cons z r ih =>
     intro ys h;cases z <;> simp [bJ] at h ⊢ <;> exact ih h
  obtain ⟨p1,p2⟩ := sp ho;refine ⟨?_,⟨a2,b2⟩,trivial⟩;simp only [fL,a1,b1,td,cW,ka N p1,ka N p2]
 case rT k x lo hi =>
  obtain ⟨⟨o,ho⟩,h1,h2⟩ := ac0 hk;have hx := cQ (c := c) (cA := cA) h qD ho;have dy := hx.ok;split at hs
  case h_2 => cases hs
  rename_i n hn;split at hs
  case h_2 => cases hs
  rename_i hh hhh;split at hs
  case h_2 => cases hs
  rename_i l hl;have g1 := TQ h hx hn;have g2 := Rm h qD h2 hhh;have g3 := Rm h qD h1 hl
  have bb : ∀ {d m n : Nat} {x : Option E},yd c s.env d m x = some n -> d <= m -> n <= m := by
   intro d m n x hb hd;cases x with
   | none => simp [yd] at hb; omega
   | some x =>
     simp only [yd] at hb;unfold bnd at hb;split at hb
     ·split at hb
      ·simp at hb; omega
      ·cases hb
     ·cases hb
  have l1 := bb hhh (aT _);have l2 := bb hl (Nat.zero_le _);simp only [fL,g1,g2,g3];rw [hx.ev];cases e : bn c s.env x <;> rw [e] at hs dy hn <;> try (simp at hs; done)
  ·rename_i k' xs;simp only at hs;split at hs
   case isFalse => cases hs
   rename_i zF;simp at hs;subst hs;simp only [fM,cW];rw [if_pos zF];exact ⟨rfl,trivial,trivial⟩
  ·rename_i k' b off len;simp only at hs;split at hs
   case isFalse => cases hs
   rename_i zF;simp at hs;subst hs;simp only [fM,cW];rw [if_pos zF];exact ⟨rfl,dy,trivial⟩
  ·rename_i k' xs;have := hx.eo k' xs e;subst this;simp only at hs;split at hs
   case isFalse => cases hs
   simp at hs;subst hs;exact ⟨rfl,trivial,rfl⟩
  ·rename_i k' p off len;simp only at hs;split at hs
   case isFalse => cases hs
   rename_i zF;subst zF;simp at hs;subst hs;simp only [QO,ah] at hn;subst hn
   have hok2 : cZ (az s) s.H.length (.dA k' p (off + l) (hh - l)) := by
    simp only [cZ] at dy ⊢;obtain ⟨xs,e1,e2⟩ := dy;exact ⟨xs,e1,by omega⟩
   refine ⟨?_,hok2,trivial⟩;simp only [fM];rcases oY h dy with ⟨m,hm,e3⟩ | ⟨hm,e0,e1,e3⟩
   ·rw [e3];simp only [if_true,td,cW,hm,cq]
   ·rw [e3];simp only [td,cW,hm]
 case cC off x =>
  obtain ⟨o,ho⟩ := ada hk;have hx := cQ (c := c) (cA := cA) h qD ho;have dy := hx.ok;simp only [fL,hx.ev];cases e : bn c s.env x <;> rw [e] at hs dy <;> try (simp at hs; done)
  ·simp at hs; subst hs; exact ⟨rfl,trivial,trivial⟩
  ·simp at hs; subst hs; exact ⟨rfl,dy,trivial⟩
  ·rename_i k p i o';simp at hs;subst hs;have hok2 : cZ (az s) s.H.length (.eW k p i (o' + off)) := dy;refine ⟨?_,hok2,trivial⟩;obtain ⟨m,hm,e2⟩ := EI h dy;simp only [fM,e2,td,cW,hm,Nat.add_assoc]
 case IK n x hi =>
  cases hi with
  | some y => simp at hs
  | none =>
  obtain ⟨⟨o,ho⟩,_⟩ := Uu hk;have hx := cQ (c := c) (cA := cA) h qD ho;have dy := hx.ok;simp only [fL,hx.ev,dnO,zq];simp only at hs;cases e : bn c s.env x <;> rw [e] at hs dy <;> try (simp at hs; done)
  rename_i cs;simp only at hs;split at hs
  case isFalse => cases hs
  rename_i hc;simp at hs;subst hs;simp only [fM,cW];rw [if_pos ⟨hc.1,trivial,hc.2⟩];exact ⟨rfl,trivial,trivial⟩
 case V9 off ag x =>
  obtain ⟨o,ho⟩ := ac9 hk;have hx := cQ (c := c) (cA := cA) h qD ho;have dy := hx.ok;simp only [fL,hx.ev];cases e : bn c s.env x <;> rw [e] at hs dy <;> try (simp at hs; done)
  rename_i cs;simp only at hs;obtain ⟨r1,r2,r3,_⟩ := P8 N hs (yR (n := off) dy);simp only [fM,cW,Dp,r1];exact ⟨trivial,r2,r3⟩
 case gw k x i =>
  obtain ⟨⟨o1,h1⟩,o2,h2⟩ := ac8 hk;have hx := cQ (c := c) (cA := cA) h qD h1;have hi := cQ (c := c) (cA := cA) h qD h2;have dy := hx.ok;simp only [fL,hx.ev];cases e : bn c s.env x <;> rw [e] at hs dy <;> try (simp at hs; done)
  ·rename_i k' xs;simp only at hs;split at hs
   case h_2 => cases hs
   rename_i j hj;obtain ⟨ki,ni,e2,hj2,_⟩ := AG hj;split at hs
   case isFalse => cases hs
   rename_i zF;split at hs
   case h_2 => cases hs
   rename_i u hu;simp at hs;subst hs;simp only [fM,cW,hi.int e2,hj2,if_pos zF,hu];exact ⟨rfl,trivial,trivial⟩
  ·rename_i k' b off len;simp only at hs;split at hs
   case h_2 => cases hs
   rename_i j hj;obtain ⟨ki,ni,e2,hj2,_⟩ := AG hj;split at hs
   case isFalse => cases hs
   rename_i zF;simp at hs;subst hs;simp only [fM,cW,hi.int e2,hj2,if_pos zF];exact ⟨rfl,dy,trivial⟩
  ·rename_i k' p off len;simp only at hs;split at hs
   case h_2 => cases hs
   rename_i j hj;obtain ⟨ki,ni,e2,hj2,bO⟩ := AG hj;split at hs
   case isFalse => cases hs
   rename_i zF;subst zF;simp at hs;subst hs;simp only [fM];rcases oY h dy with ⟨m,hm,e3⟩ | ⟨_,_,h0,_⟩
   ·rw [e3];simp only [hi.int e2,hj2,if_true,td,cW,hm,cq,Nat.add_zero];refine ⟨trivial,?_,trivial⟩;simp only [cZ] at dy ⊢;obtain ⟨xs,q1,q2⟩ := dy;exact ⟨xs,q1,by omega⟩
   ·omega
 case Fi n k x i =>
  obtain ⟨⟨o1,h1⟩,o2,h2⟩ := ac7 hk;have hx := cQ (c := c) (cA := cA) h qD h1;have hi := cQ (c := c) (cA := cA) h qD h2;have dy := hx.ok;split at hs
  case h_2 => cases hs
  rename_i j hj;obtain ⟨ki,ni,e2,hj2,_⟩ := AG hj;simp only [fL,hi.int e2,hj2,hx.ev];cases e : bn c s.env x <;> rw [e] at hs dy <;> try (simp at hs; done)
  ·simp at hs; subst hs; exact ⟨rfl,trivial,trivial⟩
  ·simp at hs; subst hs; exact ⟨rfl,dy,trivial⟩
  ·rename_i k' p l off;simp at hs;subst hs;have hok2 : cZ (az s) s.H.length (.eW k' p l (off + j * k)) := dy;refine ⟨?_,hok2,trivial⟩;obtain ⟨m,hm,e3⟩ := EI h dy;simp only [fM,e3,td,cW,hm,Nat.add_assoc]
 case ix n k ag x i =>
  obtain ⟨⟨o1,h1⟩,o2,h2⟩ := aho hk;have hx := cQ (c := c) (cA := cA) h qD h1;have hi := cQ (c := c) (cA := cA) h qD h2;have dy := hx.ok;split at hs
  case h_2 => cases hs
  rename_i j hj;obtain ⟨ki,ni,e2,hj2,_⟩ := AG hj;simp only [fL,hi.int e2,hj2,hx.ev];cases e : bn c s.env x <;> rw [e] at hs dy <;> try (simp at hs; done)
  rename_i cs;simp only at hs;obtain ⟨r1,r2,r3,_⟩ := P8 N hs (yR (n := j * k) dy);simp only [fM,cW,Dp,r1];exact ⟨trivial,r2,r3⟩
 case ext i x =>
  obtain ⟨o,ho⟩ := adb hk;have hx := cQ (c := c) (cA := cA) h qD ho;have dy := hx.ok;simp only [fL,hx.ev];cases e : bn c s.env x <;> rw [e] at hs dy <;> try (simp at hs; done)
  rename_i vs;simp only at hs;split at hs
  case h_2 => cases hs
  rename_i u hu;split at hs
  ·cases hs
  rename_i iB;simp at hs iB;subst hs;simp only [fM,cW,qP,hu,cX];refine ⟨by rw [kO N iB],iv.1 dy i u hu,?_⟩;cases u <;> simp only [EO] <;> try (simp [bN] at iB; done)
  rename_i ds;intro j k xs hj;exfalso;simp only [bN] at iB;clear hu
  induction ds generalizing j with
  | nil => simp at hj
  | cons y r ih =>
    cases j with
    | zero => simp at hj; subst hj; simp [bJ] at iB
    | succ j => exact ih (by cases y <;> simp [bJ] at iB <;> exact iB) j (by simpa using hj)
 case VE tab i =>
  obtain ⟨o,ho⟩ := ac6 hk;have hi := cQ (c := c) (cA := cA) h qD ho;split at hs
  case h_2 => cases hs
  rename_i j hj;obtain ⟨ki,ni,e2,hj2,_⟩ := AG hj;split at hs
  case h_2 => cases hs
  rename_i u hu;simp at hs;subst hs;simp only [fL,hi.int e2,hj2,hu];exact ⟨rfl,trivial,trivial⟩
 case len x =>
  obtain ⟨o,ho⟩ := ac5 hk;have hx := cQ (c := c) (cA := cA) h qD ho;split at hs
  case h_2 => cases hs
  rename_i n hn;simp at hs;subst hs;simp only [fL,TQ h hx hn];exact ⟨rfl,trivial,trivial⟩
 case min xs =>
  obtain ⟨o,ho⟩ := ac3 hk;obtain ⟨a1,a2⟩ := qv (cA := cA) h qD ho;obtain ⟨m1,m2⟩ := TM N hs;obtain ⟨q1,q2,q3⟩ := LM (N := N) (.inl m2) (az s) s.H.length;simp only [fL,a1,m1,q1];exact ⟨trivial,q2,q3⟩
 case max xs =>
  obtain ⟨o,ho⟩ := ac4 hk;obtain ⟨a1,a2⟩ := qv (cA := cA) h qD ho;obtain ⟨m1,m2⟩ := TM N hs;obtain ⟨q1,q2,q3⟩ := LM (N := N) (.inl m2) (az s) s.H.length;simp only [fL,a1,m1,q1];exact ⟨trivial,q2,q3⟩
end
end Go.Bm

/- A value in hand; operations that read and make. -/
namespace Go.Bm
open Go.Am
section
variable {P : Program} {X : Nat -> Prop} {φ : dF} {w : World} {N N' : Names} {s : St} {Ha : Heap} {t t' : Nat -> Value} {B : Nat -> Nat} {base : Nat} {v : AV} {v' : Value}
theorem Dm (eZ : N'.β = N.β) {x : AV} (h : ∀ p ∈ aN x,N'.ν p = N.ν p) : cW N' x = cW N x := by
 have e := W7 (N := N) (N' := N') (m := id) (g := fun y => y) eZ (fun _ _ _ _ => ⟨rfl,rfl⟩) x h;have : cU (fun y => y) x = x := py (m := id) (fun _ _ _ _ => ⟨rfl,rfl⟩) x (fun _ _ => rfl)
 rwa [this] at e
theorem Hf (eZ : N'.β = N.β) {r : Rt} {x : AV} (hr : ∀ k xs,x = .own k xs -> N'.ν r = N.ν r) (h : ∀ p ∈ aN x,N'.ν p = N.ν p) : iH N' r x = iH N r x := by
 have e := wo (N := N) (N' := N') (m := id) (g := fun y => y) eZ (fun _ _ _ _ => ⟨rfl,rfl⟩) (r := r) (r' := r) hr h;have : cU (fun y => y) x = x := py (m := id) (fun _ _ _ _ => ⟨rfl,rfl⟩) x (fun _ _ => rfl)
 rwa [this] at e
theorem UQ (eZ : N'.β = N.β) {i : Nat} {x : AV} (h1 : N'.ν (.s i) = N.ν (.s i)) (h2 : ∀ j,N'.ν (.sc i j) = N.ν (.sc i j)) (h : ∀ p ∈ aN x,N'.ν p = N.ν p) : j9 N' i x = j9 N i x := by
 have e := I6 (N := N) (N' := N') (m := id) (g := fun y => y) eZ (fun _ _ _ _ => ⟨rfl,rfl⟩) (i := i) (i' := i) h1 h2 h;have : cU (fun y => y) x = x := py (m := id) (fun _ _ _ _ => ⟨rfl,rfl⟩) x (fun _ _ => rfl)
 rwa [this] at e
theorem eV.dA (h : eV X φ w N s Ha t) {r : Rt} {x : AV} (hx : at_ s r = some x) : ∀ p ∈ aN x,(az s p).isSome := Aj x (h.yP hx)
theorem ahz {i : Nat} (hi : get s.env i = .any) {q : Rt} (hq : bz i q = false) : at_ ⟨put s.env i v,s.H⟩ q = at_ s q := by
 cases q with
 | s j => simp only [bz,decide_eq_false_iff_not] at hq; simp [at_,bu,hq]
 | sc j l => simp only [bz,decide_eq_false_iff_not] at hq; simp [at_,bu,hq]
 | c b j => rfl
theorem lM {i : Nat} (hi : get s.env i = .any) {q : Rt} (hq : bz i q = false) : az ⟨put s.env i v,s.H⟩ q = az s q := iJ (ahz hi hq)
theorem Uz {i : Nat} (hi : get s.env i = .any) {q : Rt} (hq : bz i q = true) : az s q = none := by
 have ho : bN (get s.env i) = false := by rw [hi]; rfl
 obtain ⟨h1,h2⟩ := eJ ho;cases q with
 | s j => simp only [bz,decide_eq_true_eq] at hq; subst hq; exact h1
 | sc j l => simp only [bz,decide_eq_true_eq] at hq; subst hq; exact h2 l
 | c b j => simp [bz] at hq
mutual
theorem kT {o o' : Rt -> Option (Nat × List AV)} {nb NG : Nat} (ho : ∀ p,(o p).isSome -> o' p = o p) (hn : nb <= NG) : ∀ x,cZ o nb x -> cZ o' NG x
 | .dA k p off len,h => by simp only [cZ] at h ⊢; obtain ⟨xs,e,h2⟩ := h; exact ⟨xs,by rw [ho p (by rw [e]; rfl)]; exact e,h2⟩
 | .eW k p i off,h => by simp only [cZ] at h ⊢; obtain ⟨xs,e,h2⟩ := h; exact ⟨xs,by rw [ho p (by rw [e]; rfl)]; exact e,h2⟩
 | .ptr b off,h => by simp only [cZ] at h ⊢; omega
 | .agg cs,h => by simp only [cZ] at h ⊢; exact tU ho hn cs h
 | .dD cs,h => by simp only [cZ] at h ⊢; exact tU ho hn cs h
 | .func f a b,h => by simp only [cZ] at h ⊢; exact ⟨tU ho hn a h.1,tU ho hn b h.2⟩
 | .any,_ => trivial
 | .undef,_ => trivial
 | .fk,_ => trivial
 | .fu,_ => trivial
 | .dJ,_ => trivial
 | .int _ _,_ => trivial
 | .bool _,_ => trivial
 | .str _,_ => trivial
 | .list _ _,_ => trivial
 | .dI _,_ => trivial
 | .own _ _,_ => trivial
 | .sl _ b _ _,h => by simp only [cZ] at h ⊢; omega
theorem tU {o o' : Rt -> Option (Nat × List AV)} {nb NG : Nat} (ho : ∀ p,(o p).isSome -> o' p = o p) (hn : nb <= NG) : ∀ cs,jU o nb cs -> jU o' NG cs
 | [],_ => trivial
 | x :: r,h => ⟨kT ho hn x h.1,tU ho hn r h.2⟩
end
theorem eV.putG (h : eV X φ w N s Ha t) {i : Nat} (hi : get s.env i = .any) (eZ : N'.β = N.β) (hN : ∀ p,bz i p = false -> N'.ν p = N.ν p) (hv : cZ (az s) s.H.length v) (rv : bI (Rd X φ w) φ (j9 N' i v) v')
  (eQ : ∀ p k xs,bz i p = true -> az ⟨put s.env i v,s.H⟩ p = some (k,xs) -> ph Ha (N'.ν p) k xs /\ ∀ n,N'.ν p = some n -> (∀ q,(az s q).isSome -> N.ν q ≠ some n) /\ (∀ b,(aJ s.H b).isSome -> N.β b ≠ n) /\ ∀ q,bz i q = true -> (az ⟨put s.env i v,s.H⟩ q).isSome -> N'.ν q = some n -> q = p) :
  eV X φ w N' ⟨put s.env i v,s.H⟩ Ha (fun j => if j = i then v' else t j) := by
 have HT : ∀ {p},(az s p).isSome -> bz i p = false := by
  intro p hp;cases e : bz i p with
  | false => rfl
  | true => rw [Uz hi e] at hp; cases hp
 have mono : ∀ p,(az s p).isSome -> az ⟨put s.env i v,s.H⟩ p = az s p := fun p hp => lM hi (HT hp);refine ⟨fun j => ?_,fun j => ?_,h.heap,fun p k xs e => ?_,fun b cs e => ?_,fun p q n e1 e2 e3 e4 => ?_,fun b p e1 e2 e3 => ?_,fun b d e1 e2 e3 => ?_⟩
 ·simp only [bu];by_cases hj : j = i
  ·subst hj; simp only [if_true]; exact rv
  ·simp only [if_neg hj];rw [UQ eZ (hN _ (by simp [bz,hj])) (fun l => hN _ (by simp [bz,hj])) (fun p hp => hN p (HT (h.dA (r := .s j) rfl p hp)))];exact h.env j
 ·simp only [bu];by_cases hj : j = i
  ·rw [if_pos hj]; exact kT mono (aT _) v hv
  ·rw [if_neg hj]; exact kT mono (aT _) _ (h.GQ j)
 ·cases hp : bz i p with
  | true => exact (eQ p k xs hp e).1
  | false => rw [lM hi hp] at e; rw [hN p hp]; exact h.own p k xs e
 ·obtain ⟨as,g1,g2,g3⟩ := h.box b cs e;refine ⟨as,by rw [eZ]; exact g1,g2,fun j c hc => ?_⟩;obtain ⟨k1,a,k2,k3⟩ := g3 j c hc;refine ⟨kT mono (aT _) c k1,a,k2,?_⟩;rw [Hf eZ (fun _ _ _ => hN _ rfl) (fun p hp => hN p (HT (h.dA (r := .c b j) (by rw [uJ (s := s) e]; exact hc) p hp)))];exact k3
 ·cases hp : bz i p with
  | true =>
    obtain ⟨⟨k,xs⟩,e⟩ := aW.1 e1;obtain ⟨_,h2⟩ := eQ p k xs hp e;obtain ⟨f1,f2,f3⟩ := h2 n e3;cases hq : bz i q with
    | true => exact (f3 q hq e2 e4).symm
    | false => rw [lM hi hq] at e2; rw [hN q hq] at e4; exact absurd e4 (f1 q e2)
  | false =>
    cases hq : bz i q with
    | true =>
      obtain ⟨⟨k,xs⟩,e⟩ := aW.1 e2;obtain ⟨_,h2⟩ := eQ q k xs hq e;obtain ⟨f1,f2,f3⟩ := h2 n e4;rw [lM hi hp] at e1;rw [hN p hp] at e3;exact absurd e3 (f1 p e1)
    | false =>
      rw [lM hi hp] at e1;rw [lM hi hq] at e2;rw [hN p hp] at e3;rw [hN q hq] at e4;exact h.inj p q n e1 e2 e3 e4
 ·rw [eZ] at e3;cases hp : bz i p with
  | true =>
    obtain ⟨⟨k,xs⟩,e⟩ := aW.1 e2;obtain ⟨_,h2⟩ := eQ p k xs hp e;exact (h2 _ e3).2.1 b e1 rfl
  | false => rw [lM hi hp] at e2; rw [hN p hp] at e3; exact h.bx b p e1 e2 e3
 ·rw [eZ] at e3; exact h.bi b d e1 e2 e3
theorem dY.quiet (h : eV X φ w N s Ha t) (hb : (∀ b,b < base -> N.β b = B b) /\ base <= s.H.length) (hv : cZ (az s) s.H.length v) (he : EO v) (r : bI (Rd X φ w) φ (td N v) v') : dY X φ w B base s v t v' := by
 refine ⟨⟨N,Ha,h,hb⟩,hv,fun i hi => ?_⟩
 have HT : ∀ {p},(az s p).isSome -> bz i p = false := by
  intro p hp;cases e : bz i p with
  | false => rfl
  | true => rw [Uz hi e] at hp; cases hp
 obtain ⟨N',eZ,hN1,hN2⟩ : ∃ N' : Names,N'.β = N.β /\ (∀ p,bz i p = false -> N'.ν p = N.ν p) /\ ∀ p,bz i p = true -> N'.ν p = none := ⟨⟨N.β,fun p => if bz i p then none else N.ν p⟩,rfl,fun p hp => by simp [hp],fun p hp => by simp [hp]⟩;have hvb : ∀ p ∈ aN v,N'.ν p = N.ν p := fun p hp => hN1 p (HT (Aj v hv p hp))
 have e1 : j9 N' i v = td N v := by
  cases v <;> simp only [j9,td,iH] <;> try exact Dm eZ hvb
  ·rename_i cs;congr 1;apply dS;intro j;rw [fO,mj];simp only [dM];cases hc : cs[j]? with
   | none => rfl
   | some c =>
     simp only [cX];congr 1;have hcb : ∀ p ∈ aN c,N'.ν p = N.ν p := fun p hp => hvb p (by simp only [aN]; exact kg hc hp);cases c <;> simp only [iH,fM] <;> try exact Dm eZ hcb
     simp only [pd,hN2 (.sc i j) (by simp [bz])]
  ·simp only [pd,hN2 (.s i) (by simp [bz])]
 refine ⟨N',Ha,h.putG hi eZ hN1 hv (by rw [e1]; exact r) (fun p k xs hp e => ?_),fun b bO => by rw [eZ]; exact hb.1 b bO,hb.2⟩;rw [hN2 p hp];refine ⟨?_,fun n e => by cases e⟩;have e' := cH.1 e;cases p with
 | s j =>
   simp only [bz,decide_eq_true_eq] at hp;subst hp;simp only [at_,bu,if_true,ah] at e';rw [e'] at he;exact he
 | sc j l =>
   simp only [bz,decide_eq_true_eq] at hp;subst hp;simp only [at_,bu,if_true] at e';cases v <;> simp only [reduceCtorEq] at e'
   exact he l k xs e'
 | c b j => simp [bz] at hp
theorem dY.fresh (h : eV X φ w N s Ha t) (hb : (∀ b,b < base -> N.β b = B b) /\ base <= s.H.length) {k n : Nat} {xs : List AV} (ho : ph Ha (some n) k xs) (hf : ∀ q,(az s q).isSome -> N.ν q ≠ some n) (hx : ∀ b,(aJ s.H b).isSome -> N.β b ≠ n) (r : bI (Rd X φ w) φ (.sl k n 0 xs.length) v') :
  dY X φ w B base s (.own k xs) t v' := by
 refine ⟨⟨N,Ha,h,hb⟩,trivial,fun i hi => ?_⟩
 obtain ⟨N',eZ,hN1,hN2⟩ : ∃ N' : Names,N'.β = N.β /\ (∀ p,bz i p = false -> N'.ν p = N.ν p) /\ N'.ν (.s i) = some n := ⟨⟨N.β,fun p => if p = .s i then some n else N.ν p⟩,rfl,fun p hp => by
  have : p ≠ .s i := by rintro rfl; simp [bz] at hp
  simp [this],by simp⟩
 have only : ∀ p,bz i p = true -> (az ⟨Am.put s.env i (.own k xs),s.H⟩ p).isSome -> p = .s i := by
  intro p hp e;cases p with
  | s j => simp only [bz,decide_eq_true_eq] at hp; rw [hp]
  | sc j l =>
    simp only [bz,decide_eq_true_eq] at hp;subst hp;unfold az at e;simp [at_,bu] at e
  | c b j => simp [bz] at hp
 refine ⟨N',Ha,h.putG hi eZ hN1 trivial (by simp only [j9,iH,pd,hN2]; exact r) (fun p k' ys hp e => ?_),fun b bO => by rw [eZ]; exact hb.1 b bO,hb.2⟩;have sX := only p hp (by rw [e]; rfl);subst sX;have e' := cH.1 e;simp only [at_,bu,if_true,ah,AV.own.injEq] at e';obtain ⟨rfl,rfl⟩ := e';rw [hN2];refine ⟨ho,fun m hm => ?_⟩;cases hm;exact ⟨hf,hx,fun q hq e _ => only q hq e⟩
theorem eV.lj {φ' : dF} {w' : World} {Ha' : Heap} (h : eV X φ w N s Ha t) (a : fo φ w φ' w') (hh : cJ X φ' w' Ha') (ho : ∀ p k xs,az s p = some (k,xs) -> ph Ha' (N.ν p) k xs) (hb : ∀ b,(aJ s.H b).isSome -> aJ Ha' (N.β b) = aJ Ha (N.β b)) : eV X φ' w' N s Ha' t :=
 ⟨fun i => a.rep (h.env i),h.GQ,hh,ho,fun b cs e => by
  obtain ⟨as,g1,g2,g3⟩ := h.box b cs e;exact ⟨as,by rw [hb b (by rw [e]; rfl)]; exact g1,g2,g3⟩,h.inj,h.bx,h.bi⟩
theorem ph.same {H H' : Heap} {o : Option Nat} {k : Nat} {xs : List AV} (h : ph H o k xs) (hb : ∀ n,o = some n -> aJ H' n = aJ H n) : ph H' o k xs := by
 cases o with
 | none => exact h
 | some n =>
   obtain ⟨cs,h1,h2⟩ := h;exact ⟨cs,by rw [hb n rfl]; exact h1,h2⟩
theorem ph.lt {H : Heap} {n k : Nat} {xs : List AV} (h : ph H (some n) k xs) : n < H.length := by
 obtain ⟨cs,h1,_⟩ := h;exact eL h1
theorem eV.gn (h : eV X φ w N s Ha t) {p : Rt} (hp : (az s p).isSome) {n : Nat} (hn : N.ν p = some n) : n < Ha.length := by
 obtain ⟨⟨k,xs⟩,e⟩ := aW.1 hp;have := h.own p k xs e;rw [hn] at this;exact this.lt
theorem eV.oX (h : eV X φ w N s Ha t) {b : Nat} (hb : (aJ s.H b).isSome) : N.β b < Ha.length := by
 obtain ⟨cs,e⟩ := aW.1 hb;obtain ⟨as,g1,_⟩ := h.box b cs e;exact eL g1
theorem eV.push {φ' : dF} {w' : World} {cs : List AV} (h : eV X φ w N s Ha t) (a : fo φ w φ' w') (hh : cJ X φ' w' (Ha ++ [some cs])) : eV X φ' w' N s (Ha ++ [some cs]) t := by
 refine h.lj a hh (fun p k xs e => ?_) (fun b hb => ?_)
 ·refine (h.own p k xs e).same fun n hn => ?_;rw [iE,if_neg];have := h.gn (by rw [e]; rfl) hn;omega
 ·rw [iE,if_neg];have := h.oX hb;omega
theorem Ga (H : Heap) (cs : List AV) : aJ (H ++ [some cs]) H.length = some cs := by rw [iE,if_pos rfl]
end
end Go.Bm

/- Operations that make blocks and boxes. -/
namespace Go.Bm
open Go.Am
mutual
theorem zI {N N' : Names} {o : Rt -> Option (Nat × List AV)} {nb : Nat} (eZ : ∀ b,b < nb -> N'.β b = N.β b) (lh : ∀ p,(o p).isSome -> N'.ν p = N.ν p) : ∀ x,cZ o nb x -> cW N' x = cW N x
 | .dA k p a l,h => by simp only [cZ] at h; obtain ⟨xs,e,_⟩ := h; simp only [cW,lh p (by rw [e]; rfl)]
 | .eW k p a l,h => by simp only [cZ] at h; obtain ⟨xs,e,_⟩ := h; simp only [cW,lh p (by rw [e]; rfl)]
 | .ptr b off,h => by simp only [cZ] at h; simp only [cW,eZ b h]
 | .agg cs,h => by simp only [cZ] at h; simp only [cW,nH eZ lh cs h]
 | .dD cs,h => by simp only [cZ] at h; simp only [cW,nH eZ lh cs h]
 | .func f a b,h => by simp only [cZ] at h; simp only [cW,nH eZ lh a h.1,nH eZ lh b h.2]
 | .any,_ => rfl
 | .undef,_ => rfl
 | .fk,_ => rfl
 | .fu,_ => rfl
 | .dJ,_ => rfl
 | .int _ _,_ => rfl
 | .bool _,_ => rfl
 | .str _,_ => rfl
 | .list _ _,_ => rfl
 | .dI _,_ => rfl
 | .own _ _,_ => rfl
 | .sl _ b _ _,h => by simp only [cZ] at h; simp only [cW,eZ b h]
theorem nH {N N' : Names} {o : Rt -> Option (Nat × List AV)} {nb : Nat} (eZ : ∀ b,b < nb -> N'.β b = N.β b) (lh : ∀ p,(o p).isSome -> N'.ν p = N.ν p) : ∀ cs,jU o nb cs -> kt N' cs = kt N cs
 | [],_ => rfl
 | x :: r,h => by simp only [kt,zI eZ lh x h.1,nH eZ lh r h.2]
end
theorem wq {N N' : Names} {o : Rt -> Option (Nat × List AV)} {nb : Nat} (eZ : ∀ b,b < nb -> N'.β b = N.β b) (lh : ∀ p,(o p).isSome -> N'.ν p = N.ν p) {r : Rt} {x : AV} (hr : ∀ k xs,x = .own k xs -> N'.ν r = N.ν r) (h : cZ o nb x) : iH N' r x = iH N r x := by
 cases x <;> simp only [iH] <;> first | exact zI eZ lh _ h | skip
 rename_i k xs;simp only [pd,hr k xs rfl]
theorem Dn {N N' : Names} {o : Rt -> Option (Nat × List AV)} {nb : Nat} (eZ : ∀ b,b < nb -> N'.β b = N.β b) (lh : ∀ p,(o p).isSome -> N'.ν p = N.ν p) {i : Nat} {x : AV} (h1 : N'.ν (.s i) = N.ν (.s i)) (h2 : ∀ j,N'.ν (.sc i j) = N.ν (.sc i j)) (h : cZ o nb x) : j9 N' i x = j9 N i x := by
 by_cases ha : ∃ cs,x = .agg cs
 ·obtain ⟨cs,rfl⟩ := ha;simp only [j9];congr 1;apply dS;intro j;rw [fO,fO];simp only [dM];cases hc : cs[j]? with
  | none => rfl
  | some c =>
    simp only [cX];simp only [cZ] at h;rw [wq eZ lh (fun _ _ _ => h2 j) (iv.1 h j c hc)]
 ·have hn : jx x := fun cs e => ha ⟨cs,e⟩;have e1 : j9 N' i x = iH N' (.s i) x := by cases x <;> first | rfl | exact absurd rfl (hn _)
  have e2 : j9 N i x = iH N (.s i) x := by cases x <;> first | rfl | exact absurd rfl (hn _)
  rw [e1,e2];exact wq eZ lh (fun _ _ _ => h1) h
mutual
theorem j8 (N : Names) : ∀ x,pl x = true -> cW N x = x
 | .agg cs,h => by simp only [pl] at h; simp only [cW,Dj N cs h]
 | .dD cs,h => by simp only [pl] at h; simp only [cW,Dj N cs h]
 | .func f a b,h => by simp only [pl,aa] at h; simp only [cW,Dj N a h.1,Dj N b h.2]
 | .any,_ => rfl
 | .undef,_ => rfl
 | .fk,_ => rfl
 | .fu,_ => rfl
 | .dJ,_ => rfl
 | .int _ _,_ => rfl
 | .bool _,_ => rfl
 | .str _,_ => rfl
 | .list _ _,_ => rfl
 | .dI _,_ => rfl
 | .own _ _,h => by simp [pl] at h
 | .dA _ _ _ _,h => by simp [pl] at h
 | .eW _ _ _ _,h => by simp [pl] at h
 | .ptr _ _,h => by simp [pl] at h
 | .sl _ _ _ _,h => by simp [pl] at h
theorem Dj (N : Names) : ∀ cs,dK cs = true -> kt N cs = cs
 | [],_ => rfl
 | x :: r,h => by simp only [dK,aa] at h; simp only [kt,j8 N x h.1,Dj N r h.2]
end
theorem TV (N : Names) {c : AV} (h : fz (hO c) = true) (he : ∀ k xs,c = .own k xs -> xs = []) : Le (hO c) (fM N c) := by
 cases c <;> simp only [hO] at h ⊢ <;> first
  | (have := (iC h).1
     simp only [fM];rw [j8 N _ this];exact Le.refl _)
  | skip
 rename_i k xs;have := he k xs rfl;subst this;exact Le.hO k
section
variable {P : Program} {X : Nat -> Prop} {φ φ' : dF} {w w' : World} {N N' : Names} {s s1 : St} {Ha : Heap} {t : Nat -> Value} {B : Nat -> Nat} {base : Nat} {v : AV} {v' : Value} {c : eG} {o : Oper} {a : Act}
theorem eV.QE {zs as : List AV} (h : eV X φ w N s Ha t) (ad : fo φ w φ' w') (hh : cJ X φ' w' (Ha ++ [some as])) (hz : jU (az s) s.H.length zs) (he : UD zs) (has : as = gR N zs) :
  ∃ N',(∀ b,b < s.H.length -> N'.β b = N.β b) /\ N'.β s.H.length = Ha.length /\ eV X φ' w' N' ⟨s.env,s.H ++ [some zs]⟩ (Ha ++ [some as]) t := by
 have h1 := h.push ad hh
 obtain ⟨N',eZ,hβ2,hN1,hN2⟩ : ∃ N' : Names,(∀ b,b < s.H.length -> N'.β b = N.β b) /\ N'.β s.H.length = Ha.length /\ (∀ p,(∀ j,p ≠ .c s.H.length j) -> N'.ν p = N.ν p) /\ ∀ j,N'.ν (.c s.H.length j) = none :=
  ⟨⟨fun b => if b = s.H.length then Ha.length else N.β b,fun p => match p with
   | .c b j => if b = s.H.length then none else N.ν (.c b j)
   | p => N.ν p⟩,fun b hb => by simp; omega,by simp,fun p hp => by
     cases p with
     | s i => rfl
     | sc i j => rfl
     | c b j =>
       have : b ≠ s.H.length := fun e => hp j (by rw [e]);simp [this],fun j => by simp⟩
 have atq : ∀ q,(∀ j,q ≠ .c s.H.length j) -> at_ ⟨s.env,s.H ++ [some zs]⟩ q = at_ s q := by
  intro q hq;cases q with
  | s i => rfl
  | sc i j => rfl
  | c b j =>
    have : b ≠ s.H.length := fun e => hq j (by rw [e]);simp only [at_,iE,if_neg this]
 have atn : ∀ j,at_ ⟨s.env,s.H ++ [some zs]⟩ (.c s.H.length j) = zs[j]? := fun j => by simp only [at_,iE,if_true]
 have HT : ∀ {q},(az s q).isSome -> ∀ j,q ≠ .c s.H.length j := by
  rintro q hq j rfl;unfold az at hq
  have : aJ s.H s.H.length = none := by
   cases e : aJ s.H s.H.length with
   | none => rfl
   | some cs => have := eL e; omega
  simp [at_,this] at hq
 have mono : ∀ p,(az s p).isSome -> az ⟨s.env,s.H ++ [some zs]⟩ p = az s p := fun p hp => iJ (atq p (HT hp));have lh : ∀ p,(az s p).isSome -> N'.ν p = N.ν p := fun p hp => hN1 p (HT hp);have hlen : s.H.length <= (s.H ++ [some zs]).length := by simp
 have aeI : ∀ {q k xs},az ⟨s.env,s.H ++ [some zs]⟩ q = some (k,xs) -> (az s q = some (k,xs)) \/ ((∃ j,q = .c s.H.length j) /\ xs = []) := by
  intro q k xs e;by_cases hq : ∃ j,q = .c s.H.length j
  ·obtain ⟨j,rfl⟩ := hq;have e' := cH.1 e;rw [atn] at e';exact .inr ⟨⟨j,rfl⟩,he j k xs e'⟩
  ·rw [iJ (atq q fun j e => hq ⟨j,e⟩)] at e;exact .inl e
 have Dr : ∀ {q n},(az ⟨s.env,s.H ++ [some zs]⟩ q).isSome -> N'.ν q = some n -> (az s q).isSome /\ N.ν q = some n := by
  intro q n hq hn;obtain ⟨⟨k,xs⟩,e⟩ := aW.1 hq;rcases aeI e with e1 | ⟨⟨j,rfl⟩,_⟩
  ·have : (az s q).isSome := by rw [e1]; rfl
   exact ⟨this,by rw [<- lh q this]; exact hn⟩
  ·rw [hN2] at hn; cases hn
 have bold : ∀ {b},(aJ (s.H ++ [some zs]) b).isSome -> (b < s.H.length /\ (aJ s.H b).isSome) \/ b = s.H.length := by
  intro b hb;rw [iE] at hb;by_cases e : b = s.H.length
  ·exact .inr e
  ·rw [if_neg e] at hb;obtain ⟨cs,e2⟩ := aW.1 hb;exact .inl ⟨eL e2,hb⟩
 refine ⟨N',eZ,hβ2,⟨fun i => ?_,fun i => kT mono hlen _ (h1.GQ i),hh,fun p k xs e => ?_,fun b cs e => ?_,fun p q n e1 e2 e3 e4 => ?_,fun b p e1 e2 e3 => ?_,fun b d e1 e2 e3 => ?_⟩⟩
 ·rw [Dn eZ lh (hN1 _ (fun j e => by cases e)) (fun l => hN1 _ (fun j e => by cases e)) (h1.GQ i)];exact h1.env i
 ·rcases aeI e with e1 | ⟨⟨j,rfl⟩,rfl⟩
  ·rw [lh p (by rw [e1]; rfl)]; exact h1.own p k xs e1
  ·rw [hN2]; rfl
 ·by_cases hb : b = s.H.length
  ·subst hb;simp only [iE,if_true,ah] at e;subst e;refine ⟨as,by rw [hβ2]; exact Ga _ _,by rw [has,iI],fun j x hx => ⟨kT mono hlen x (iv.1 hz j x hx),fM N x,by rw [has,mj,hx]; rfl,?_⟩⟩;have hxk := iv.1 hz j x hx;cases x <;> simp only [iH,fM] <;> try (rw [zI eZ lh _ hxk]; exact Le.refl _)
   simp only [pd,hN2];exact Le.refl _
  ·simp only [iE,if_neg hb] at e;obtain ⟨as',g1,g2,g3⟩ := h1.box b cs e;refine ⟨as',by rw [eZ b (eL e)]; exact g1,g2,fun j x hx => ?_⟩;obtain ⟨k1,a',k2,k3⟩ := g3 j x hx;refine ⟨kT mono hlen x k1,a',k2,?_⟩;rw [wq eZ lh (fun _ _ _ => hN1 _ (fun l e => by cases e; exact hb rfl)) k1];exact k3
 ·obtain ⟨p1,p2⟩ := Dr e1 e3;obtain ⟨q1,q2⟩ := Dr e2 e4;exact h1.inj p q n p1 q1 p2 q2
 ·obtain ⟨p1,p2⟩ := Dr e2 e3;rcases bold e1 with ⟨b1,b2⟩ | b1
  ·rw [eZ b b1] at p2; exact h1.bx b p b2 p1 p2
  ·subst b1;rw [hβ2] at p2;have := h.gn p1 p2;omega
 ·rcases bold e1 with ⟨b1,b2⟩ | b1 <;> rcases bold e2 with ⟨d1,d2⟩ | d1
  ·rw [eZ b b1,eZ d d1] at e3; exact h1.bi b d b2 d2 e3
  ·subst d1; rw [eZ b b1,hβ2] at e3; have := h.oX b2; omega
  ·subst b1; rw [eZ d d1,hβ2] at e3; have := h.oX d2; omega
  ·rw [b1,d1]
def tm (a : Act) : Nat -> Value := fun i => a.tmps.getD i undef
def k8 (P : Program) (X : Nat -> Prop) (φ : dF) (w : World) (B : Nat -> Nat) (base : Nat) (s1 : St) (v : AV) (o : Oper) (a : Act) : Prop :=
 ∀ (K : Act -> World -> Prop) (Q : Exit -> Act -> World -> Prop),(∀ v' w' φ',dY X φ' w' B base s1 v (tm a) v' -> fo φ w φ' w' -> K (a.put o.dst v') w') -> o.wp P a w K Q
theorem k8.ghost (ad : fo φ w φ' w) (h : k8 P X φ' w B base s1 v o a) : k8 P X φ w B base s1 v o a := fun K Q hK => h K Q fun v' w' mH hp k => hK v' w' mH hp (ad.trans k)
theorem k8.of {va : AV} {Ha' : Heap} (h : Ok P X φ w o a va Ha') (hp : ∀ v' w' φ',bI (Rd X φ' w') φ' va v' -> cJ X φ' w' Ha' -> fo φ w φ' w' -> dY X φ' w' B base s1 v (tm a) v') : k8 P X φ w B base s1 v o a :=
 fun K Q hK => h K Q fun v' w' φ' r hh ad => hK v' w' φ' (hp v' w' φ' r hh ad) ad
def iq (c : eG) : Am.eG := ⟨fun _ => none,c.gl,fun _ => none⟩
theorem aht (hm : P.follows .mixedOrders = true) (c : eG) : Am.Po P (iq c) := ⟨hm,fun f m q h => by cases h⟩
def noC : Nat -> List AV -> Heap -> Option (AV × Heap) := fun _ _ _ => none
theorem aaY (c : eG) : Am.Bc P (iq c) noC := fun f m q h => by cases h
end
end Go.Bm

/- Operations that read, and that make blocks and boxes: from the model. -/
namespace Go.Bm
open Go.Am
theorem aiO : ∀ (a b : List AV),aA (a ++ b) = aA a ++ aA b
 | [],b => rfl
 | x :: r,b => by simp [aA,aiO r b]
theorem OS (k : Nat) : ∀ (n : Nat) (ys : List AV),n * k <= ys.length -> aA (PA k n ys) = ys.take (n * k)
 | 0,ys,_ => by simp [PA,aA]
 | n + 1,ys,h => by
   have h' : n * k + k <= ys.length := by rw [cq] at h; omega
   simp only [PA,aA,qI];rw [OS k n (ys.drop k) (by rw [c9]; omega),cq,Nat.one_mul,Nat.add_comm,List.take_add]
theorem OR (e : AV) : ∀ n,aA (aO n e) = rep e.cells n
 | 0 => rfl
 | n + 1 => by simp [List.replicate_succ,aA,rep,OR e n]
theorem yC (f : AV -> AV) (zs : List AV) : ∀ n,rep (zs.map f) n = (rep zs n).map f
 | 0 => rfl
 | n + 1 => by simp [rep,yC f zs n]
theorem Jg (zs : List AV) : ∀ n,(rep zs n).length = n * zs.length
 | 0 => by simp [rep]
 | n + 1 => by simp [rep,Jg zs n,cq]; omega
theorem u9 {zs : List AV} {x : AV} : ∀ {n : Nat},x ∈ rep zs n -> x ∈ zs
 | 0,h => by simp [rep] at h
 | n + 1,h => by
   simp only [rep,aC] at h;rcases h with h | h
   ·exact h
   ·exact u9 h
theorem jO : ∀ {cs : List AV},Q1 cs = true -> ∀ x ∈ cs,fz x = true
 | [],_,x,hx => by simp at hx
 | y :: r,h,x,hx => by
   simp only [Q1,aa] at h;rcases aU.1 hx with e | e
   ·subst e; exact h.1
   ·exact jO h.2 x e
theorem CO {o : Rt -> Option (Nat × List AV)} {nb : Nat} : ∀ {cs : List AV},jU o nb cs -> ∀ x ∈ cs,cZ o nb x
 | [],_,x,hx => by simp at hx
 | y :: r,h,x,hx => by
   rcases aU.1 hx with e | e
   ·subst e; exact h.1
   ·exact CO h.2 x e
theorem xG {o : Rt -> Option (Nat × List AV)} {nb : Nat} : ∀ {cs : List AV},(∀ x ∈ cs,cZ o nb x) -> jU o nb cs
 | [],_ => trivial
 | y :: r,h => ⟨h y (by simp),xG fun x hx => h x (by simp [hx])⟩
theorem Iy : ∀ {vs : List Value} {xs : List AV},oS vs xs = true -> xs.length = vs.length
 | [],[],_ => rfl
 | [],_ :: _,h => by simp [oS] at h
 | _ :: _,[],h => by simp [oS] at h
 | v :: r,x :: s,h => by simp only [oS,aa] at h; simp [Iy h.2]
theorem adx : ∀ {zs : List AV},lB (rG zs) = true -> bq (rG zs) = true -> ∀ z ∈ zs,fz (hO z) = true
 | [],_,_,z,hz => by simp at hz
 | x :: r,h1,h2,z,hz => by
   simp only [rG,lB,bq,aa] at h1 h2;rcases aU.1 hz with e | e
   ·subst e;rcases dn_c (y6 h1.1) with ⟨k,rfl,e⟩ | ⟨hc,e⟩
    ·rfl
    ·rw [e] at h1 h2;have VY := h1.1;have h2' := h2.1;cases z <;> first | rfl | (simp [xO] at VY; done) | (simp [AV.leaf] at h2'; done)
   ·exact adx h1.2 h2.2 z e
theorem XM {R : Addr -> Value -> Prop} {φ : dF} {x : AV} {v : Value} (h : bI R φ x v) : φ = [] -> pl x = true := by
 have all : ∀ {cs : List AV} {vs : Array Value},cs.length = vs.size -> (∀ (i : Nat) (c : AV) (v : Value),cs[i]? = some c -> vs[i]? = some v -> pl c = true) -> dK cs = true := by
  intro cs
  induction cs with
  | nil => intro vs _ _; rfl
  | cons x r ih =>
    intro vs hl h;simp only [dK,aa];obtain ⟨u,hu⟩ := cv (l := vs) (i := 0) (by simp at hl; omega);refine ⟨h 0 x u rfl hu,ih (vs := vs.extract 1 vs.size) (by simp at hl ⊢; omega) fun i c v hc hv => ?_⟩;refine h (i + 1) c v (by simpa using hc) ?_;rw [Array.getElem?_extract] at hv;split at hv
    ·rwa [Nat.add_comm] at hv
    ·cases hv
 induction h with
 | agg φ cs vs hl h ih => intro e; simp only [pl]; exact all hl fun i c v h1 h2 => ih i c v h1 h2 e
 | dD φ cs vs hl h ih => intro e; simp only [pl]; exact all hl fun i c v h1 h2 => ih i c v h1 h2 e
 | func φ f as va bs vb zE zD ha hb iha VJ => intro e; simp only [pl,aa]; exact ⟨all zE fun i c v h1 h2 => iha i c v h1 h2 e,all zD fun i c v h1 h2 => VJ i c v h1 h2 e⟩
 | ptr φ b off a hb h => intro e; subst e; simp at hb
 | sl φ k b off len a cap hb hc h => intro e; subst e; simp at hb
 | _ => intro _; rfl
mutual
theorem vV {o : Rt -> Option (Nat × List AV)} {nb : Nat} : ∀ x,pl x = true -> cZ o nb x
 | .agg cs,h => by simp only [pl] at h; exact ET cs h
 | .dD cs,h => by simp only [pl] at h; exact ET cs h
 | .func f a b,h => by simp only [pl,aa] at h; exact ⟨ET a h.1,ET b h.2⟩
 | .any,_ => trivial
 | .undef,_ => trivial
 | .fk,_ => trivial
 | .fu,_ => trivial
 | .dJ,_ => trivial
 | .int _ _,_ => trivial
 | .bool _,_ => trivial
 | .str _,_ => trivial
 | .list _ _,_ => trivial
 | .dI _,_ => trivial
 | .own _ _,h => by simp [pl] at h
 | .dA _ _ _ _,h => by simp [pl] at h
 | .eW _ _ _ _,h => by simp [pl] at h
 | .ptr _ _,h => by simp [pl] at h
 | .sl _ _ _ _,h => by simp [pl] at h
theorem ET {o : Rt -> Option (Nat × List AV)} {nb : Nat} : ∀ cs,dK cs = true -> jU o nb cs
 | [],_ => trivial
 | x :: r,h => by simp only [dK,aa] at h; exact ⟨vV x h.1,ET r h.2⟩
end
theorem xV : ∀ {ds : List AV},bJ ds = false -> ∀ (j k : Nat) (xs : List AV),ds[j]? ≠ some (.own k xs)
 | [],_,j,k,xs,e => by simp at e
 | y :: r,h,j,k,xs,e => by
   cases j with
   | zero => simp at e; subst e; simp [bJ] at h
   | succ j => exact xV (ds := r) (by cases y <;> simp [bJ] at h <;> exact h) j k xs (by simpa using e)
theorem lZ {x : AV} (h : bN x = false) : EO x := by
 cases x <;> simp only [EO] <;> try (simp [bN] at h; done)
 exact fun j k xs e => absurd e (xV h j k xs)
theorem XT {ag : Option Nat} {xs ys : List AV} {x : AV} (h : zQ ag xs = some x) (hl : xs.length <= ys.length) (hle : ∀ (i : Nat) (a b : AV),xs[i]? = some a -> ys[i]? = some b -> Le a b) : ∃ y,zQ ag ys = some y /\ Le x y := by
 unfold zQ at h ⊢;cases ag with
 | some k =>
   simp only at h ⊢;split at h
   case isFalse => cases h
   rename_i hk;simp at h;subst h;rw [if_pos (by omega)];refine ⟨_,rfl,Le.agg (by simp; omega) fun i a b ha hb => ?_⟩;rw [bf] at ha hb;split at ha
   ·rename_i hi;rw [if_pos hi] at hb;exact hle i a b ha hb
   ·cases ha
 | none =>
   simp only at h ⊢;cases xs with
   | nil => cases h
   | cons a r =>
     simp at h;subst h;cases ys with
     | nil => simp at hl
     | cons b r' => exact ⟨b,rfl,hle 0 a b rfl rfl⟩
section
variable {P : Program} {X : Nat -> Prop} {φ φ' : dF} {w w' : World} {N N' : Names} {s s1 : St} {Ha Ha' : Heap} {t : Nat -> Value} {B : Nat -> Nat} {base : Nat} {v va : AV} {v' : Value} {c : eG} {o : Oper} {a : Act} {kd : Kd}
theorem OW {t : TypeId} {k : Nat} {zs : List AV} (h1 : iD P t k = true) (h2 : gX P t zs = true) : zs.length = k /\ lB zs = true /\ bq zs = true := by
 obtain ⟨e,i,z,hu,hi,sP,hk0,hby,OC,Pu⟩ := iL h1;unfold gX at h2;rw [hu] at h2;simp only at h2;refine ⟨?_,(qd h2).1,(qd h2).2⟩;unfold mI at h2;rw [hi] at h2;simp only [OC,aa] at h2;have := Iy h2.1;rw [this];simpa using Pu
theorem lH (hm : P.follows .mixedOrders = true) (h : eV X φ w N s Ha (tm a)) (hg : Am.ek (iq c) X φ w) (hk : dm P o.op kd = true) {fl : Fp} (hs : fL (iq c) noC (yj N s.env) Ha kd = some (va,Ha',fl)) : Ok P X φ w o a va Ha' :=
 aid (aht hm c) (aaY c) (fun i => by rw [kW]; exact h.env i) hg h.heap hk hs
theorem Ts (hm : P.follows .mixedOrders = true) (h : SB X φ w B base s (tm a)) (hg : Am.ek (iq c) X φ w) (hk : dm P o.op (kY kd) = true) (hs : Qy c s.env kd = some v) : k8 P X φ w B base s v o a := by
 obtain ⟨N,Ha,h,hb⟩ := h;obtain ⟨h1,h2,h3⟩ := agt (cA := iq c) (call := noC) h rfl hk hs;refine k8.of (lH hm h hg hk h1) fun v' w' φ' r hh ad => ?_;exact dY.quiet (h.lj ad hh h.own (fun _ _ => rfl)) hb h2 h3 r
theorem Qz (hm : P.follows .mixedOrders = true) (h : SB X φ w B base s (tm a)) (hg : Am.ek (iq c) X φ w) {zs : List AV} (hk : dm P o.op (kY (.new zs)) = true) : k8 P X φ w B base ⟨s.env,s.H ++ [some zs]⟩ (.ptr s.H.length 0) o a := by
 obtain ⟨N,Ha,h,hb,hl⟩ := h;obtain ⟨t,ht⟩ := ac1 hk;obtain ⟨e1,e2⟩ := zo N (qd ht).1;refine k8.of (lH hm h hg hk (by simp only [kY,fL]; rfl)) fun v' w' φ' r hh ad => ?_;obtain ⟨N',n1,n2,h'⟩ := h.QE ad hh (yN (qd ht).1) e2 e1;refine dY.quiet h' ⟨fun b bO => by rw [n1 b (by omega)]; exact hb b bO,by simp; omega⟩ (by simp [cZ]) trivial ?_;simp only [td,cW,n2];exact r
theorem acd (hm : P.follows .mixedOrders = true) (h : SB X φ w B base s (tm a)) (hg : Am.ek (iq c) X φ w) {x : E} (hk : dm P o.op (kY (.box x)) = true) (vw : bq (bn c s.env x).cells = true) : k8 P X φ w B base ⟨s.env,s.H ++ [some (bn c s.env x).cells]⟩ (.ptr s.H.length 0) o a := by
 obtain ⟨N,Ha,h,hb,hl⟩ := h;obtain ⟨o',ho⟩ := adg hk;have hx := cQ (c := c) (cA := iq c) h rfl ho;have hc := FY N hx.na;refine k8.of (lH hm h hg hk (by simp only [kY,fL,hx.ev,hc,rP h vw (tR hx.ok),if_true]; rfl)) fun v' w' φ' r hh ad => ?_;obtain ⟨N',n1,n2,h'⟩ := h.QE ad hh (tR hx.ok) hx.UD rfl;refine dY.quiet h' ⟨fun b bO => by rw [n1 b (by omega)]; exact hb b bO,by simp; omega⟩ (by simp [cZ]) trivial ?_;simp only [td,cW,n2];exact r
theorem zf (h : eV X φ w N s Ha t) (hb : (∀ b,b < base -> N.β b = B b) /\ base <= s.H.length) (ad : fo φ w φ' w') {cs : List AV} (hh : cJ X φ' w' (Ha ++ [some cs])) {k : Nat} {xs : List AV} (hlen : xs.length * k <= cs.length) (hk : ∀ x ∈ xs,x.cells.length = k)
  (hc : ∀ (i : Nat) (d : AV),(aA xs)[i]? = some d -> fz d = true /\ ∃ e,cs[i]? = some e /\ e.leaf = true /\ Le d e) (r : bI (Rd X φ' w') φ' (.sl k Ha.length 0 xs.length) v') : dY X φ' w' B base s (.own k xs) t v' := by
 refine dY.fresh (h.push ad hh) hb (n := Ha.length) ⟨cs,Ga _ _,hlen,hk,hc⟩ (fun q hq e => ?_) (fun b hb e => ?_) r
 ·have := h.gn hq e; omega
 ·have := h.oX hb; omega
theorem QC (hm : P.follows .mixedOrders = true) (h : SB X φ w B base s (tm a)) (hg : Am.ek (iq c) X φ w) {k n : Nat} {zs cs : List AV} {ps : List (Nat × Nat × E)} (hk : dm P o.op (kY (.eE k n zs ps)) = true) (hf : nf c s.env (rep zs n) ps = some cs) (hz : Q1 (cs.map hO) = true) :
  k8 P X φ w B base s (.own k (PA k n (cs.map hO))) o a := by
 obtain ⟨N,Ha,h,hb⟩ := h;obtain ⟨⟨t,ht1,ht2⟩,hq⟩ := Rk hk;obtain ⟨z1,z2,z3⟩ := OW ht1 ht2;obtain ⟨e1,e2⟩ := zo N z2;have Ct : rep (rG zs) n = gR N (rep zs n) := by rw [e1,qg,qg,yC]
 have GV : zs.length = k := by rw [<- z1,e1,iI]
 have hzok : jU (az s) s.H.length (rep zs n) := xG fun x hx => CO (yN z2) x (u9 hx)
 have hzeo : UD (rep zs n) := fun j k' xs hj => by
  obtain ⟨i,hi⟩ := br (u9 (aR hj));exact e2 i k' xs hi
 obtain ⟨f1,f2,f3,f4⟩ := pA (cA := iq c) h rfl hq hzok hzeo hf;have xT : cs.length = n * k := by rw [f4,Jg,GV]
 have vw : bq cs = true := by
  have : ∀ {l : List AV},(∀ x ∈ l,x.leaf = true) -> bq l = true := by
   intro l
   induction l with
   | nil => intro _; rfl
   | cons y r ih => intro h; simp only [bq,aa]; exact ⟨h y (by simp),ih fun x hx => h x (by simp [hx])⟩
  refine this fun x hx => ?_;have := (iC (jO hz (hO x) (nF hx))).2;cases x <;> first | exact this | rfl
 have air : ∀ x ∈ cs,x.leaf = true := fun x hx => by
  have := (iC (jO hz (hO x) (nF hx))).2;cases x <;> first | exact this | rfl
 refine k8.of (lH hm h hg hk (by simp only [kY,fL,Ct,f1,rP h vw f2,if_true]; rfl)) fun v' w' φ' r hh ad => ?_;obtain ⟨g1,g2⟩ := Ft k n (cs.map hO) (by simp [xT]);refine zf h hb ad hh (by rw [g1,iI,xT]; omega) (fun x hx => ?_) (fun i d hd => ?_) (by rw [g1]; exact r)
 ·obtain ⟨i,hi⟩ := br hx;obtain ⟨q1,q2⟩ := g2 i x hi;rw [q1,bh,c9,jR,xT];have : (i + 1) * k <= n * k := bD k q2;rw [cq] at this;omega
 ·rw [OS k n _ (by simp [xT]),<- xT,show (cs.map hO).take cs.length = cs.map hO from List.take_of_length_le (by simp),dQ] at hd;cases hc : cs[i]? with
  | none => rw [hc] at hd; cases hd
  | some x =>
    rw [hc] at hd;simp at hd;subst hd;have AP := jO hz (hO x) (nF (aR hc));exact ⟨AP,fM N x,by rw [mj,hc]; rfl,Kp h (air x (aR hc)) (CO f2 x (aR hc)),TV N AP (fun k xs e => f3 i k xs (by rw [hc,e]))⟩
theorem ab8 (hm : P.follows .mixedOrders = true) (h : SB X φ w B base s (tm a)) (hg : Am.ek (iq c) X φ w) {k : Nat} {zs : List AV} {x y : E} {k1 k2 : IntKind} {l cp : Int} (hk : dm P o.op (kY (.Kn k zs x y)) = true) (hx : bn c s.env x = .int k1 l) (hy : bn c s.env y = .int k2 cp) (hc : 0 <= l /\ l <= cp /\ cp <= (jQ : Int)) :
  k8 P X φ w B base s (.own k (aO l.toNat (el (zs.map hO)))) o a := by
 obtain ⟨N,Ha,h,hb⟩ := h;obtain ⟨⟨t,ht1,ht2⟩,⟨o1,h1⟩,o2,h2⟩ := Ut hk;obtain ⟨z1,z2,z3⟩ := OW ht1 ht2;obtain ⟨e1,e2⟩ := zo N z2;have GV : zs.length = k := by rw [<- z1,e1,iI]
 have AJ := (cQ (c := c) (cA := iq c) h rfl h1).int hx;have H8 := (cQ (c := c) (cA := iq c) h rfl h2).int hy;refine k8.of (lH hm h hg hk (by simp only [kY,fL,AJ,H8,if_pos hc]; rfl)) fun v' w' φ' r hh ad => ?_;refine zf h hb ad hh (by rw [eH,Jg,z1]; omega) (fun u hu => ?_) (fun i d hd => ?_) (by rw [eH]; exact r)
 ·rw [List.eq_of_mem_replicate hu,qI,jR,GV]
 ·rw [OR,qI,yC,dQ] at hd;cases hc' : (rep zs l.toNat)[i]? with
  | none => rw [hc'] at hd; cases hd
  | some z =>
    rw [hc'] at hd;simp at hd;subst hd;have hmem := u9 (aR hc');obtain ⟨j,hj⟩ := br hmem;have heo : ∀ k xs,z = .own k xs -> xs = [] := fun k xs e => e2 j k xs (by rw [hj,e]);have AP : fz (hO z) = true := adx z2 z3 z hmem
    have vw : (fM N z).leaf = true := by
     have VR : fM N z ∈ rG zs := by rw [e1,qg]; exact nF hmem
     have : ∀ {l : List AV},bq l = true -> ∀ x ∈ l,x.leaf = true := by
      intro l
      induction l with
      | nil => intro _ x hx; simp at hx
      | cons y r ih =>
        intro q x hx;simp only [bq,aa] at q;rcases aU.1 hx with e | e
        ·subst e; exact q.1
        ·exact ih q.2 x e
     exact this z3 _ VR
    exact ⟨AP,fM N z,by rw [e1]; rw [qg,yC,dQ,hc']; rfl,vw,TV N AP heo⟩
theorem adn {zs z : List AV} (h : Wx zs = some z) : rG zs = [.dJ] /\ ∃ k,z = [.own k []] := by
 unfold Wx at h;split at h
 case h_2 => cases h
 rename_i k;split at h
 case isFalse => cases h
 simp at h;exact ⟨rfl,_,h.symm⟩
theorem ab7 (hm : P.follows .mixedOrders = true) (h : SB X φ w B base s (tm a)) (hg : Am.ek (iq c) X φ w) {k : Nat} {zs z : List AV} {x y : E} {k1 k2 : IntKind} {l cp : Int} (hk : dm P o.op (kY (.Kn k zs x y)) = true) (hz : Wx zs = some z) (hx : bn c s.env x = .int k1 l) (hy : bn c s.env y = .int k2 cp) (hc : 0 <= l /\ l <= cp /\ cp <= (jQ : Int)) :
  k8 P X φ w B base ⟨s.env,s.H ++ [some (rep z l.toNat)]⟩ (.sl k s.H.length 0 l.toNat) o a := by
 obtain ⟨N,Ha,h,hb,hl⟩ := h;obtain ⟨_,⟨o1,h1⟩,o2,h2⟩ := Ut hk;obtain ⟨e1,k',rfl⟩ := adn hz;have AJ := (cQ (c := c) (cA := iq c) h rfl h1).int hx;have H8 := (cQ (c := c) (cA := iq c) h rfl h2).int hy;refine k8.of (lH hm h hg hk (by simp only [kY,fL,AJ,H8,if_pos hc]; rfl)) fun v' w' φ' r hh ad => ?_
 obtain ⟨N',n1,n2,h'⟩ := h.QE (zs := rep [.own k' []] l.toNat) ad hh (xG fun u hu => by
  have := u9 hu;simp at this;subst this;exact trivial) (fun j kk xs hj => by
  have := u9 (aR hj);simp at this;exact this.2) (by rw [e1,qg,<- yC]; rfl)
 refine dY.quiet h' ⟨fun b bO => by rw [n1 b (by omega)]; exact hb b bO,by simp; omega⟩ (by simp [cZ]) trivial ?_;simp only [td,cW,n2];exact r
theorem aeH (h : eV X φ w N s Ha (tm a)) (hg : Am.ek (iq c) X φ w) {ag : Option Nat} {x : E} {ps : List Rt} {o' : Operand} (ho : dv o' (kZ x) = true) (hs : xE s ag (bn c s.env x) = some (v,ps)) :
  ∃ va fl,fL (iq c) noC (yj N s.env) Ha (kY (.ld ag x)) = some (va,Ha,fl) /\ Le (td N v) va /\ cZ (az s) s.H.length v /\ EO v := by
 have hx := cQ (c := c) (cA := iq c) h rfl ho;have dy := hx.ok
 have fin : ∀ {va : AV} {fl : Fp},fL (iq c) noC (yj N s.env) Ha (kY (.ld ag x)) = some (va,Ha,fl) -> Le (td N v) va -> cZ (az s) s.H.length v -> EO v -> ∃ va fl,fL (iq c) noC (yj N s.env) Ha (kY (.ld ag x)) = some (va,Ha,fl) /\ Le (td N v) va /\ cZ (az s) s.H.length v /\ EO v :=
  fun e hle h2 h3 => ⟨_,_,e,hle,h2,h3⟩
 have rdn : ∀ {cs : List AV},Jk ag cs = some v -> zQ ag cs = some v /\ bN v = false := by
  intro cs hu;unfold Jk at hu;split at hu
  case h_2 => cases hu
  rename_i u' hr;split at hu
  ·cases hu
  rename_i iB;simp at hu iB;subst hu;exact ⟨hr,iB⟩
 have plrd : ∀ {cs : List AV},zQ ag cs = some v -> (∀ x ∈ cs,pl x = true) -> pl v = true := by
  intro cs hr hp;unfold zQ at hr;cases ag with
  | some k =>
    simp only at hr;split at hr
    case isFalse => cases hr
    simp at hr;subst hr;simp only [pl]
    have : ∀ {l : List AV},(∀ x ∈ l,pl x = true) -> dK l = true := by
     intro l
     induction l with
     | nil => intro _; rfl
     | cons y r ih => intro h; simp only [dK,aa]; exact ⟨h y (by simp),ih fun x hx => h x (by simp [hx])⟩
    exact this fun x hx => hp x (cD hx)
  | none =>
    simp only at hr;cases cs with
    | nil => cases hr
    | cons y r => simp at hr; subst hr; exact hp y (by simp)
 unfold xE at hs;cases e : bn c s.env x <;> rw [e] at hs dy <;> try (simp at hs; done)
 ·rename_i cs;simp only at hs;split at hs
  case h_2 => cases hs
  rename_i u hu;simp at hs;obtain ⟨rfl,rfl⟩ := hs;obtain ⟨hr,iB⟩ := rdn hu;have r := b7 (c := iq c) (env := yj N s.env) (a := a) (fun i => by rw [kW]; exact h.env i) hg ho;rw [hx.ev,e] at r;simp only [fM,cW] at r
  have qO : ∀ y ∈ cs,pl y = true := by
   intro y hy;obtain ⟨j,hj⟩ := br hy;generalize a.eval o' = z at r;cases r with
   | dI _ _ _ u hu h => exact XM (h j y hj) rfl
  have hv := plrd hr qO;refine fin (va := u) (by simp only [kY,fL,hx.ev,e,fM,cW,hr]; rfl) ?_ (vV _ hv) (lZ iB);rw [kO N iB,j8 N _ hv];exact Le.refl _
 ·rename_i b off;simp only at hs;split at hs
  case h_2 => cases hs
  rename_i cs dC;split at hs
  case h_2 => cases hs
  rename_i u hu;simp at hs;obtain ⟨rfl,rfl⟩ := hs;obtain ⟨hr,iB⟩ := rdn hu;obtain ⟨as,g1,g2,g3⟩ := h.box b cs dC
  have hokL : jU (az s) s.H.length (eP (.c b) 0 cs) := by
   refine iv.2 fun j d hd => ?_;rw [Ax] at hd;cases hc : cs[j]? with
   | none => rw [hc] at hd; cases hd
   | some d0 =>
     rw [hc] at hd;simp only [cX,ah,dM] at hd;subst hd;split
     ·rename_i k xs;simp only [cZ];exact ⟨xs,cH.2 (by rw [uJ dC]; exact hc),by omega⟩
     ·exact (g3 j _ hc).1
  obtain ⟨r1,r2,r3,_⟩ := P8 N hu (yR (n := off) hokL);rw [<- Dp,Dl] at r1
  obtain ⟨va,q1,q2⟩ := XT (ys := as.drop off) r1 (by simp [hM]; omega) (fun i x y hx hy => by
   rw [aQ,fO] at hx;rw [aQ] at hy;simp only [dM] at hx;cases hc : cs[off + i]? with
   | none => rw [hc] at hx; cases hx
   | some d =>
     rw [hc] at hx;simp at hx;subst hx;obtain ⟨_,a',a1,a2⟩ := g3 _ d hc;rw [a1] at hy;cases hy;exact a2)
  exact fin (va := va) (by simp only [kY,fL,hx.ev,e,fM,cW,g1,q1]; rfl) q2 r2 r3
 ·rename_i k p i off;simp only at hs;split at hs
  case h_2 => cases hs
  rename_i k' xs hp;split at hs
  case isFalse => cases hs
  rename_i zF;subst zF;split at hs
  case h_2 => cases hs
  rename_i el' hel;split at hs
  case h_2 => cases hs
  rename_i u hu;simp at hs;obtain ⟨rfl,rfl⟩ := hs;obtain ⟨hr,iB⟩ := rdn hu;obtain ⟨n,hn,e2⟩ := EI h dy;have eQ := h.own p k' xs hp;rw [hn] at eQ;obtain ⟨cs,c1,c2,c3,c4⟩ := eQ;have fQ : ∀ (j : Nat) (d : AV),el'.cells[j]? = some d -> fz d = true /\ ∃ a,cs[i * k' + j]? = some a /\ Le d a := fun j d hd => let ⟨f1,a,f2,_,f3⟩ := c4 _ d (zg c3 hel hd); ⟨f1,a,f2,f3⟩
  have qO : ∀ y ∈ el'.cells.drop off,pl y = true := by
   intro y hy;obtain ⟨j,hj⟩ := br (cF hy);exact (iC (fQ j y hj).1).1
  have hv := plrd hr qO;have aiM : el'.cells.length = k' := c3 el' (aR hel);have hi : (i + 1) * k' <= xs.length * k' := bD k' (au hel);rw [cq] at hi
  obtain ⟨va,q1,q2⟩ := XT (ys := cs.drop (i * k' + off)) hr (by simp; omega) (fun j x y hx hy => by
   rw [aQ] at hx hy;obtain ⟨_,a',a1,a2⟩ := fQ _ x hx;rw [show i * k' + (off + j) = i * k' + off + j by omega] at a1;rw [a1] at hy;cases hy;exact a2)
  refine fin (va := va) (by simp only [kY,fL,hx.ev,e,fM,e2,c1,q1]; rfl) ?_ (vV _ hv) (lZ iB);rw [kO N iB,j8 N _ hv];exact q2
theorem agH (hm : P.follows .mixedOrders = true) (h : SB X φ w B base s (tm a)) (hg : Am.ek (iq c) X φ w) {ag : Option Nat} {x : E} {ps : List Rt} (hk : dm P o.op (kY (.ld ag x)) = true) (hs : xE s ag (bn c s.env x) = some (v,ps)) : k8 P X φ w B base s v o a := by
 obtain ⟨N,Ha,h,hb⟩ := h;obtain ⟨o',ho⟩ := ahn hk;obtain ⟨va,fl,e,hle,h2,h3⟩ := aeH h hg ho hs;refine k8.of (lH hm h hg hk e) fun v' w' φ' r hh ad => ?_;exact dY.quiet (h.lj ad hh h.own (fun _ _ => rfl)) hb h2 h3 (hle _ _ _ r)
end
end Go.Bm
