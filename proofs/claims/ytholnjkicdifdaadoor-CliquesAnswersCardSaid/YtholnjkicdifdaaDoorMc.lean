/- The machine by value: what a state stands for. -/
import Derived.Test.YtholnjkicdifdaaDoorBmA
/- How a state by value stands for a state of the older machine. -/
set_option linter.unusedSimpArgs false
namespace Go.Bm
open Go.Am

structure Names where
 β : Nat -> Nat
 ν : Rt -> Option Nat

mutual
def trV (N : Names) : AV -> AV
 | .bor k p off len => match N.ν p with
   | some n => .sl k n (off * k) len
   | none => .nils
 | .pto k p i off => match N.ν p with
   | some n => .ptr n (i * k + off)
   | none => .any
 | .ptr b off => .ptr (N.β b) off
 | .agg cs => .agg (trL N cs)
 | .tup cs => .tup (trL N cs)
 | .func f a b => .func f (trL N a) (trL N b)
 | .own _ _ => .any
 | .sl k b off len => .sl k (N.β b) off len
 | .any => .any | .undef => .undef | .nilp => .nilp | .nilf => .nilf | .nils => .nils
 | .int k n => .int k n | .bool b => .bool b | .str s => .str s
 | .list k xs => .list k xs | .fptr cs => .fptr cs
def trL (N : Names) : List AV -> List AV
 | [] => []
 | x :: r => trV N x :: trL N r
end
def ownT (N : Names) (p : Rt) (k len : Nat) : AV :=
 match N.ν p with
 | some n => .sl k n 0 len
 | none => .nils
def trP (N : Names) (p : Rt) : AV -> AV
 | .own k xs => ownT N p k xs.length
 | v => trV N v
def trC (N : Names) (f : Nat -> Rt) : Nat -> List AV -> List AV
 | _,[] => []
 | j,x :: r => trP N (f j) x :: trC N f (j + 1) r
def trS (N : Names) (i : Nat) : AV -> AV
 | .agg cs => .agg (trC N (.sc i) 0 cs)
 | v => trP N (.s i) v
def trE (N : Names) : Env -> Env
 | [] => []
 | (i,v) :: r => (i,trS N i v) :: trE N r

def Le (x y : AV) : Prop := ∀ R φ v,Rep R φ y v -> Rep R φ x v
theorem Le.refl (x : AV) : Le x x := fun _ _ _ h => h
theorem Le.trans {x y z : AV} (h : Le x y) (k : Le y z) : Le x z := fun R φ v r => h R φ v (k R φ v r)
theorem Le.any (y : AV) : Le .any y := fun _ _ _ _ => .any _ _
theorem Le.agg {xs ys : List AV} (hl : xs.length = ys.length) (h : ∀ (i : Nat) (x y : AV),xs[i]? = some x -> ys[i]? = some y -> Le x y) : Le (.agg xs) (.agg ys) := by
 intro R φ v r;cases r with
 | agg _ _ vs hl2 h2 =>
   refine .agg _ _ _ (hl.trans hl2) fun i c u hc hu => ?_;obtain ⟨y,hy⟩ := getElem?_some_of (l := ys) (i := i) (by have := lt_of_getElem? hc; omega);exact h i c y hc hy _ _ _ (h2 i y u hy hu)
theorem Le.nilL (k : Nat) : Le (.list k []) .nils := by
 intro R φ v r;cases r with
 | nils => exact .lst0 _ _

mutual
def okV (o : Rt -> Option (Nat × List AV)) (nb : Nat) : AV -> Prop
 | .bor k p off len => ∃ xs,o p = some (k,xs) /\ off + len <= xs.length
 | .pto k p i _ => ∃ xs,o p = some (k,xs) /\ i < xs.length
 | .ptr b _ => b < nb
 | .agg cs => okL o nb cs
 | .tup cs => okL o nb cs
 | .func _ a b => okL o nb a /\ okL o nb b
 | .sl _ b _ _ => b < nb
 | _ => True
def okL (o : Rt -> Option (Nat × List AV)) (nb : Nat) : List AV -> Prop
 | [] => True
 | x :: r => okV o nb x /\ okL o nb r
end
theorem okL_get {o : Rt -> Option (Nat × List AV)} {nb : Nat} : ∀ {cs : List AV},okL o nb cs ↔ ∀ (i : Nat) (c : AV),cs[i]? = some c -> okV o nb c
 | [] => by simp [okL]
 | x :: r => by
   simp only [okL,okL_get (cs := r)];constructor
   ·rintro ⟨h1,h2⟩ i c hc;cases i with
    | zero => simp at hc; exact hc ▸ h1
    | succ i => exact h2 i c (by simpa using hc)
   ·intro h;exact ⟨h 0 x rfl,fun i c hc => h (i + 1) c (by simpa using hc)⟩

def OwnH (H : Heap) (o : Option Nat) (k : Nat) (xs : List AV) : Prop :=
 match o with
 | none => xs = []
 | some n => ∃ cs,blk H n = some cs /\ xs.length * k <= cs.length /\ (∀ x ∈ xs,x.cells.length = k) /\ ∀ (i : Nat) (c : AV),(flatCells xs)[i]? = some c -> fz c = true /\ ∃ a,cs[i]? = some a /\ a.leaf = true /\ Le c a

structure Sim (X : Nat -> Prop) (φ : Phi) (w : World) (N : Names) (s : St) (Ha : Heap) (t : Nat -> Value) : Prop where
 env : ∀ i,Rep (Rd X φ w) φ (trS N i (get s.env i)) (t i)
 oke : ∀ i,okV (ownAt s) s.H.length (get s.env i)
 heap : HRel X φ w Ha
 own : ∀ p k xs,ownAt s p = some (k,xs) -> OwnH Ha (N.ν p) k xs
 box : ∀ b cs,blk s.H b = some cs -> ∃ as,blk Ha (N.β b) = some as /\ as.length = cs.length /\ ∀ (j : Nat) (c : AV),cs[j]? = some c -> okV (ownAt s) s.H.length c /\ ∃ a,as[j]? = some a /\ Le (trP N (.c b j) c) a
 inj : ∀ p q n,(ownAt s p).isSome -> (ownAt s q).isSome -> N.ν p = some n -> N.ν q = some n -> p = q
 bx : ∀ b p,(blk s.H b).isSome -> (ownAt s p).isSome -> N.ν p ≠ some (N.β b)
 bi : ∀ b c,(blk s.H b).isSome -> (blk s.H c).isSome -> N.β b = N.β c -> b = c

/-! Lists and places -/
theorem trL_get (N : Names) : ∀ (cs : List AV) (i : Nat),(trL N cs)[i]? = (cs[i]?).map (trV N)
 | [],i => by simp [trL]
 | x :: r,i => by cases i <;> simp [trL,trL_get N r]
theorem trL_length (N : Names) : ∀ cs : List AV,(trL N cs).length = cs.length
 | [] => rfl
 | x :: r => by simp [trL,trL_length N r]
theorem trC_get (N : Names) (f : Nat -> Rt) : ∀ (cs : List AV) (j i : Nat),(trC N f j cs)[i]? = (cs[i]?).map (trP N (f (j + i)))
 | [],j,i => by simp [trC]
 | x :: r,j,i => by
   cases i with
   | zero => simp [trC]
   | succ i => simp only [trC,List.getElem?_cons_succ,trC_get N f r]; rw [show j + 1 + i = j + (i + 1) by omega]
theorem trC_length (N : Names) (f : Nat -> Rt) : ∀ (cs : List AV) (j : Nat),(trC N f j cs).length = cs.length
 | [],j => rfl
 | x :: r,j => by simp [trC,trC_length N f r]
theorem mapBL_get (g : AV -> AV) : ∀ (cs : List AV) (i : Nat),(mapBL g cs)[i]? = (cs[i]?).map (mapB g)
 | [],i => by simp [mapBL]
 | x :: r,i => by cases i <;> simp [mapBL,mapBL_get g r]
theorem mapBL_length (g : AV -> AV) : ∀ cs : List AV,(mapBL g cs).length = cs.length
 | [] => rfl
 | x :: r => by simp [mapBL,mapBL_length g r]
theorem get_trE (N : Names) : ∀ (e : Env) (i : Nat),get (trE N e) i = trS N i (get e i)
 | [],i => rfl
 | (j,u) :: r,i => by
   simp only [trE,Am.get];split
   ·rename_i h; rw [h]
   ·exact get_trE N r i
theorem get_mapE (g : AV -> AV) : ∀ (e : Env) (i : Nat),get (mapE g e) i = mapB g (get e i)
 | [],i => rfl
 | (j,u) :: r,i => by
   simp only [mapE,Am.get];split
   ·rfl
   ·exact get_mapE g r i
theorem mapH_get (g : AV -> AV) : ∀ (H : Heap) (b : Nat),(mapH g H)[b]? = (H[b]?).map (Option.map (mapBL g))
 | [],b => by simp [mapH]
 | none :: r,b => by cases b <;> simp [mapH,mapH_get g r]
 | some cs :: r,b => by cases b <;> simp [mapH,mapH_get g r]
theorem mapH_length (g : AV -> AV) : ∀ H : Heap,(mapH g H).length = H.length
 | [] => rfl
 | none :: r => by simp [mapH,mapH_length g r]
 | some cs :: r => by simp [mapH,mapH_length g r]
theorem blk_mapH (g : AV -> AV) (H : Heap) (b : Nat) : blk (mapH g H) b = (blk H b).map (mapBL g) := by
 unfold blk;rw [mapH_get];cases H[b]? with
 | none => rfl
 | some o => cases o <;> rfl
theorem blk_iff {H : Heap} {b : Nat} {cs : List AV} : blk H b = some cs ↔ H[b]? = some (some cs) := by
 constructor
 ·exact blk_some
 ·intro h; unfold blk; rw [h]
theorem blk_lt {H : Heap} {b : Nat} {cs : List AV} (h : blk H b = some cs) : b < H.length := lt_of_getElem? (blk_some h)
theorem blk_set (H : Heap) (b c : Nat) (x : List AV) : blk (H.set b (some x)) c = if c = b /\ b < H.length then some x else blk H c := by
 unfold blk;rw [List.getElem?_set];by_cases h : b = c
 ·subst h;by_cases hl : b < H.length
  ·simp [hl]
  ·simp [hl,List.getElem?_eq_none (Nat.le_of_not_lt hl)]
 ·simp [h,Ne.symm h]
theorem blk_push (H : Heap) (x : List AV) (c : Nat) : blk (H ++ [some x]) c = if c = H.length then some x else blk H c := by
 unfold blk;by_cases h : c < H.length
 ·rw [List.getElem?_append_left h,if_neg (by omega)]
 ·rw [List.getElem?_append_right (by omega)];by_cases h2 : c = H.length
  ·subst h2; simp
  ·rw [if_neg h2,List.getElem?_eq_none (l := H) (by omega),List.getElem?_eq_none (by simp; omega)]

def NAgg (x : AV) : Prop := ∀ cs,x ≠ .agg cs
def NOwn (x : AV) : Prop := ∀ k xs,x ≠ .own k xs
def LeafG (g : AV -> AV) : Prop := ∀ k p o l,(NAgg (g (.bor k p o l)) /\ NOwn (g (.bor k p o l))) /\ (NAgg (g (.pto k p o l)) /\ NOwn (g (.pto k p o l)))
theorem mapB_own {g : AV -> AV} (hg : LeafG g) (x : AV) (k : Nat) (xs : List AV) : mapB g x = .own k xs ↔ x = .own k xs := by
 cases x <;> simp [mapB]
 ·exact (hg _ _ _ _).1.2 _ _
 ·exact (hg _ _ _ _).2.2 _ _
theorem mapB_agg {g : AV -> AV} (hg : LeafG g) (x : AV) (cs : List AV) : mapB g x = .agg cs ↔ ∃ ds,x = .agg ds /\ mapBL g ds = cs := by
 cases x <;> simp [mapB]
 ·exact (hg _ _ _ _).1.1 _
 ·exact (hg _ _ _ _).2.1 _
theorem mapB_nagg {g : AV -> AV} (hg : LeafG g) {x : AV} (h : NAgg x) : NAgg (mapB g x) := by
 intro cs e;obtain ⟨ds,rfl,_⟩ := (mapB_agg hg x cs).1 e;exact h _ rfl
theorem at_mapSt {g : AV -> AV} (hg : LeafG g) (s : St) (p : Rt) : at_ (mapSt g s) p = (at_ s p).map (mapB g) := by
 cases p with
 | s i => simp [at_,mapSt,get_mapE]
 | sc i j =>
   simp only [at_,mapSt,get_mapE];generalize get s.env i = x;split
   ·rename_i cs h;obtain ⟨ds,rfl,rfl⟩ := (mapB_agg hg x cs).1 h;simp [mapBL_get]
   ·rename_i h;split
    ·rename_i ds;exact absurd rfl (h (mapBL g ds))
    ·rfl
 | c b j =>
   simp only [at_,mapSt,blk_mapH];cases blk s.H b with
   | none => rfl
   | some cs => simp [mapBL_get]
theorem ownAt_iff {s : St} {p : Rt} {k : Nat} {xs : List AV} : ownAt s p = some (k,xs) ↔ at_ s p = some (.own k xs) := by
 unfold ownAt;split
 ·rename_i k' xs' h;rw [h];simp
 ·rename_i h;constructor
  ·intro h'; cases h'
  ·intro h'; exact absurd h' (h k xs)
theorem ownAt_mapSt {g : AV -> AV} (hg : LeafG g) (s : St) (p : Rt) : ownAt (mapSt g s) p = ownAt s p := by
 cases h : ownAt s p with
 | none =>
   cases h2 : ownAt (mapSt g s) p with
   | none => rfl
   | some y =>
     obtain ⟨k,xs⟩ := y;rw [ownAt_iff,at_mapSt hg] at h2;cases hx : at_ s p with
     | none => rw [hx] at h2; cases h2
     | some x =>
       rw [hx] at h2;simp only [Option.map_some,Option.some.injEq] at h2;rw [mapB_own hg] at h2;subst h2;rw [ownAt_iff.2 hx] at h;cases h
 | some y =>
   obtain ⟨k,xs⟩ := y;rw [ownAt_iff] at h ⊢;rw [at_mapSt hg,h];rfl

structure Shape (s s' : St) : Prop where
 agg : ∀ i cs,get s.env i = .agg cs -> ∃ ds,get s'.env i = .agg ds /\ ds.length = cs.length
 nagg : ∀ i,NAgg (get s.env i) -> NAgg (get s'.env i)
 len : s'.H.length = s.H.length
 box : ∀ b cs,blk s.H b = some cs -> ∃ ds,blk s'.H b = some ds /\ ds.length = cs.length
 nbox : ∀ b,blk s.H b = none -> blk s'.H b = none
theorem Shape.refl (s : St) : Shape s s := ⟨fun _ cs h => ⟨cs,h,rfl⟩,fun _ h => h,rfl,fun _ cs h => ⟨cs,h,rfl⟩,fun _ h => h⟩
theorem Shape.trans {s s' s'' : St} (h : Shape s s') (k : Shape s' s'') : Shape s s'' :=
 ⟨fun i cs hc => let ⟨ds,h1,h2⟩ := h.agg i cs hc; let ⟨es,h3,h4⟩ := k.agg i ds h1; ⟨es,h3,h4.trans h2⟩,fun i hi => k.nagg i (h.nagg i hi),k.len.trans h.len,
  fun b cs hc => let ⟨ds,h1,h2⟩ := h.box b cs hc; let ⟨es,h3,h4⟩ := k.box b ds h1; ⟨es,h3,h4.trans h2⟩,fun b hb => k.nbox b (h.nbox b hb)⟩
theorem Shape.map {g : AV -> AV} (hg : LeafG g) (s : St) : Shape s (mapSt g s) where
 agg i cs h := ⟨mapBL g cs,by simp [mapSt,get_mapE,h,mapB],mapBL_length g cs⟩
 nagg i h := by simp only [mapSt,get_mapE]; exact mapB_nagg hg h
 len := mapH_length g s.H
 box b cs h := ⟨mapBL g cs,by simp [mapSt,blk_mapH,h],mapBL_length g cs⟩
 nbox b h := by simp [mapSt,blk_mapH,h]
def Lf (s : St) (r : Rt) : Prop := ∀ i,r = .s i -> NAgg (get s.env i)
def Fits (s : St) (p : Rt) (v : AV) : Prop := NAgg v /\ ∃ x,at_ s p = some x /\ NAgg x
theorem Shape.set {s : St} {p : Rt} {v : AV} (h : Fits s p v) : Shape s (setAt s p v) := by
 obtain ⟨hv,x,hx,hn⟩ := h;cases p with
 | s i =>
   simp only [at_,Option.some.injEq] at hx;refine ⟨fun j cs hc => ?_,fun j hj => ?_,rfl,fun b cs hc => ⟨cs,hc,rfl⟩,fun b hb => hb⟩
   ·simp only [setAt,get_put];by_cases hij : j = i
    ·subst hij; rw [hx] at hc; exact absurd hc (hn cs)
    ·rw [if_neg hij]; exact ⟨cs,hc,rfl⟩
   ·simp only [setAt,get_put];by_cases hij : j = i
    ·rw [if_pos hij]; exact hv
    ·rw [if_neg hij]; exact hj
 | sc i l =>
   simp only [at_] at hx;cases hg : get s.env i <;> rw [hg] at hx <;> simp at hx
   rename_i ds;have hs : setAt s (.sc i l) v = ⟨put s.env i (.agg (ds.set l v)),s.H⟩ := by simp [setAt,hg]
   rw [hs];refine ⟨fun j cs hc => ?_,fun j hj => ?_,rfl,fun b cs hc => ⟨cs,hc,rfl⟩,fun b hb => hb⟩
   ·simp only [get_put];by_cases hij : j = i
    ·subst hij; rw [hg] at hc; cases hc; exact ⟨_,if_pos rfl,by simp⟩
    ·rw [if_neg hij]; exact ⟨cs,hc,rfl⟩
   ·simp only [get_put];by_cases hij : j = i
    ·subst hij; exact absurd hg (hj ds)
    ·rw [if_neg hij]; exact hj
 | c b l =>
   simp only [at_] at hx;cases hg : blk s.H b <;> rw [hg] at hx <;> simp at hx
   rename_i ds;have hs : setAt s (.c b l) v = ⟨s.env,s.H.set b (some (ds.set l v))⟩ := by simp [setAt,hg]
   rw [hs];refine ⟨fun j cs hc => ⟨cs,hc,rfl⟩,fun j hj => hj,by simp,fun d cs hc => ?_,fun d hd => ?_⟩
   ·rw [blk_set];by_cases hdb : d = b
    ·subst hdb; rw [hg] at hc; cases hc; exact ⟨_,if_pos ⟨rfl,blk_lt hg⟩,by simp⟩
    ·rw [if_neg (fun h => hdb h.1)]; exact ⟨cs,hc,rfl⟩
   ·rw [blk_set];by_cases hdb : d = b
    ·subst hdb; rw [hg] at hd; cases hd
    ·rw [if_neg (fun h => hdb h.1)]; exact hd
theorem at_set {s : St} {p : Rt} {v : AV} (h : Fits s p v) {r : Rt} (hr : Lf s r) : at_ (setAt s p v) r = if r = p then some v else at_ s r := by
 obtain ⟨hv,x,hx,hn⟩ := h;cases p with
 | s i =>
   simp only [at_,Option.some.injEq] at hx;cases r with
   | s j => simp only [at_,setAt,get_put]; by_cases hij : j = i <;> simp [hij]
   | sc j l =>
     simp only [at_,setAt,get_put];by_cases hij : j = i
     ·subst hij;simp only [if_true,hx,reduceCtorEq,if_false];cases v <;> first | (exact absurd rfl (hv _)) | (cases x <;> first | (exact absurd rfl (hn _)) | rfl)
     ·simp [hij]
   | c b l => simp [at_,setAt]
 | sc i l =>
   simp only [at_] at hx;cases hg : get s.env i <;> rw [hg] at hx <;> simp at hx
   rename_i ds;have hs : setAt s (.sc i l) v = ⟨put s.env i (.agg (ds.set l v)),s.H⟩ := by simp [setAt,hg]
   rw [hs];cases r with
   | s j =>
     simp only [at_,get_put,reduceCtorEq,if_false];by_cases hij : j = i
     ·subst hij;exact absurd hg (hr j rfl ds)
     ·simp [hij]
   | sc j m =>
     simp only [at_,get_put];by_cases hij : j = i
     ·subst hij;simp only [if_true,hg,Rt.sc.injEq,true_and];rw [List.getElem?_set];by_cases hlm : l = m
      ·subst hlm;have := lt_of_getElem? hx;simp [this]
      ·simp [hlm,Ne.symm hlm]
     ·simp [hij]
   | c b m => simp [at_]
 | c b l =>
   simp only [at_] at hx;cases hg : blk s.H b <;> rw [hg] at hx <;> simp at hx
   rename_i ds;have hs : setAt s (.c b l) v = ⟨s.env,s.H.set b (some (ds.set l v))⟩ := by simp [setAt,hg]
   rw [hs];cases r with
   | s j => simp [at_]
   | sc j m => simp [at_]
   | c d m =>
     simp only [at_,blk_set];by_cases hdb : d = b
     ·subst hdb;simp only [blk_lt hg,and_self,if_true,hg,Rt.c.injEq,true_and];rw [List.getElem?_set];by_cases hlm : l = m
      ·subst hlm;have := lt_of_getElem? hx;simp [this]
      ·simp [hlm,Ne.symm hlm]
     ·simp [hdb]

theorem le_trS {N N' : Names} {i : Nat} {x y : AV} (h1 : ∀ cs,x = .agg cs -> ∃ ds,y = .agg ds /\ ds.length = cs.length /\ ∀ (j : Nat) (c d : AV),cs[j]? = some c -> ds[j]? = some d -> Le (trP N' (.sc i j) d) (trP N (.sc i j) c))
  (h2 : NAgg x -> NAgg y /\ Le (trP N' (.s i) y) (trP N (.s i) x)) : Le (trS N' i y) (trS N i x) := by
 by_cases hx : ∃ cs,x = .agg cs
 ·obtain ⟨cs,rfl⟩ := hx;obtain ⟨ds,rfl,hl,h⟩ := h1 cs rfl;simp only [trS];refine Le.agg (by simp [trC_length,hl]) fun j u v hu hv => ?_;rw [trC_get] at hu hv;simp only [Nat.zero_add] at hu hv;cases hd : ds[j]? with
  | none => rw [hd] at hu; cases hu
  | some d =>
    cases hc : cs[j]? with
    | none => rw [hc] at hv; cases hv
    | some c =>
      rw [hd] at hu; rw [hc] at hv;simp at hu hv;subst hu hv;exact h j c d hc hd
 ·have hn : NAgg x := fun cs e => hx ⟨cs,e⟩;obtain ⟨hy,hle⟩ := h2 hn;have e1 : trS N' i y = trP N' (.s i) y := by cases y <;> first | rfl | exact absurd rfl (hy _)
  have e2 : trS N i x = trP N (.s i) x := by cases x <;> first | rfl | exact absurd rfl (hn _)
  rw [e1,e2]; exact hle
theorem at_sc {s : St} {i : Nat} {cs : List AV} (h : get s.env i = .agg cs) (j : Nat) : at_ s (.sc i j) = cs[j]? := by simp [at_,h]
theorem at_c {s : St} {b : Nat} {cs : List AV} (h : blk s.H b = some cs) (j : Nat) : at_ s (.c b j) = cs[j]? := by simp [at_,h]
theorem ownAt_lf {s : St} {p : Rt} (h : (ownAt s p).isSome) : Lf s p := by
 intro i hi cs hc;subst hi;cases ho : ownAt s (.s i) with
 | none => rw [ho] at h; cases h
 | some y =>
   obtain ⟨k,xs⟩ := y;rw [ownAt_iff] at ho;simp [at_,hc] at ho
theorem OwnH.take {H : Heap} {o : Option Nat} {k m : Nat} {xs : List AV} (h : OwnH H o k xs) : OwnH H o k (xs.take m) := by
 cases o with
 | none => simp only [OwnH] at h ⊢; rw [h]; simp
 | some n =>
   simp only [OwnH] at h ⊢;obtain ⟨cs,h1,h2,h3,h4⟩ := h;refine ⟨cs,h1,?_,fun x hx => h3 x (List.mem_of_mem_take hx),fun i c hc => ?_⟩
   ·rw [List.length_take]; exact Nat.le_trans (Nat.mul_le_mul_right k (Nat.min_le_right _ _)) h2
   ·refine h4 i c ?_
    have : ∀ (m : Nat) (l : List AV) (i : Nat) (c : AV),(flatCells (l.take m))[i]? = some c -> (flatCells l)[i]? = some c := by
     intro m
     induction m with
     | zero => intro l i c h; simp [flatCells] at h
     | succ m ih =>
       intro l i c h;cases l with
       | nil => simpa using h
       | cons y r =>
         simp only [List.take_succ_cons,flatCells] at h ⊢;rw [List.getElem?_append] at h ⊢;split
         ·rename_i hlt; rw [if_pos hlt] at h; exact h
         ·rename_i hlt; rw [if_neg hlt] at h; exact ih _ _ _ h
    exact this m xs i c hc
theorem ok_of_at {o : Rt -> Option (Nat × List AV)} {nb : Nat} {s : St} (h : ∀ r y,Lf s r -> at_ s r = some y -> okV o nb y) :
  (∀ i,okV o nb (get s.env i)) /\ ∀ b cs,blk s.H b = some cs -> ∀ (j : Nat) (c : AV),cs[j]? = some c -> okV o nb c := by
 refine ⟨fun i => ?_,fun b cs hb j c hc => h (.c b j) c (fun i e => by cases e) (by rw [at_c hb]; exact hc)⟩;by_cases hx : ∃ cs,get s.env i = .agg cs
 ·obtain ⟨cs,hcs⟩ := hx;rw [hcs];simp only [okV];exact okL_get.2 fun j c hc => h (.sc i j) c (fun i e => by cases e) (by rw [at_sc hcs]; exact hc)
 ·exact h (.s i) _ (fun j e cs hc => by cases e; exact hx ⟨cs,hc⟩) rfl
theorem Sim.ok_at {X : Nat -> Prop} {φ : Phi} {w : World} {N : Names} {s : St} {Ha : Heap} {t : Nat -> Value} (h : Sim X φ w N s Ha t) {r : Rt} {x : AV} (hx : at_ s r = some x) : okV (ownAt s) s.H.length x := by
 cases r with
 | s i => simp [at_] at hx; exact hx ▸ h.oke i
 | sc i j =>
   simp only [at_] at hx;split at hx
   ·rename_i cs hcs;have := h.oke i;rw [hcs] at this;simp only [okV] at this;exact okL_get.1 this j x hx
   ·cases hx
 | c b j =>
   simp only [at_] at hx;split at hx
   ·rename_i cs hcs;obtain ⟨as,_,_,h3⟩ := h.box b cs hcs;exact (h3 j x hx).1
   ·cases hx
theorem Shape.back {s s' : St} (h : Shape s s') {r : Rt} {y : AV} (hl : Lf s' r) (hy : at_ s' r = some y) : Lf s r /\ ∃ x,at_ s r = some x := by
 cases r with
 | s i =>
   refine ⟨fun j e cs hc => ?_,_,rfl⟩;cases e;obtain ⟨ds,h1,_⟩ := h.agg i cs hc;exact hl i rfl ds h1
 | sc i j =>
   refine ⟨(fun j e => by cases e),?_⟩;simp only [at_] at hy ⊢;split at hy
   ·rename_i ds hds;by_cases hx : ∃ cs,get s.env i = .agg cs
    ·obtain ⟨cs,hcs⟩ := hx;obtain ⟨es,h1,h2⟩ := h.agg i cs hcs;rw [hds] at h1; cases h1;rw [hcs];exact getElem?_some_of (by have := lt_of_getElem? hy; omega)
    ·exact absurd hds (h.nagg i (fun cs e => hx ⟨cs,e⟩) ds)
   ·cases hy
 | c b j =>
   refine ⟨(fun j e => by cases e),?_⟩;simp only [at_] at hy ⊢;split at hy
   ·rename_i ds hds;cases hb : blk s.H b with
    | none => rw [h.nbox b hb] at hds; cases hds
    | some cs =>
      obtain ⟨es,h1,h2⟩ := h.box b cs hb;rw [hds] at h1; cases h1;exact getElem?_some_of (by have := lt_of_getElem? hy; omega)
   ·cases hy
theorem Sim.change {X : Nat -> Prop} {φ : Phi} {w : World} {N N' : Names} {s s' : St} {Ha : Heap} {t : Nat -> Value} (h : Sim X φ w N s Ha t) (hβ : N'.β = N.β) (hs : Shape s s')
  (hp : ∀ r x y,Lf s r -> at_ s r = some x -> at_ s' r = some y -> okV (ownAt s') s'.H.length y /\ Le (trP N' r y) (trP N r x))
  (src : Rt -> Rt) (ho : ∀ p k xs,ownAt s' p = some (k,xs) -> ∃ ys,ownAt s (src p) = some (k,ys) /\ N'.ν p = N.ν (src p) /\ ∃ m,xs = ys.take m)
  (hi : ∀ p q,(ownAt s' p).isSome -> (ownAt s' q).isSome -> src p = src q -> p = q) : Sim X φ w N' s' Ha t := by
 have so : ∀ {p},(ownAt s' p).isSome -> (ownAt s (src p)).isSome /\ N'.ν p = N.ν (src p) := by
  intro p hp;cases e : ownAt s' p with
  | none => rw [e] at hp; cases hp
  | some y => obtain ⟨ys,h1,h2,_⟩ := ho p y.1 y.2 e; exact ⟨by rw [h1]; rfl,h2⟩
 have sb : ∀ {b},(blk s'.H b).isSome -> (blk s.H b).isSome := by
  intro b hb;cases e : blk s.H b with
  | none => rw [hs.nbox b e] at hb; cases hb
  | some _ => rfl
 obtain ⟨hk,hkc⟩ := ok_of_at (o := ownAt s') (nb := s'.H.length) (s := s') fun r y hl hy => by
  obtain ⟨hl',x,hx⟩ := hs.back hl hy;exact (hp r x y hl' hx hy).1
 refine ⟨fun i => ?_,hk,h.heap,fun p k xs e => ?_,fun b cs' e => ?_,fun p q n h1 h2 e1 e2 => ?_,fun b p h1 h2 e => ?_,fun b c h1 h2 e => ?_⟩
 ·refine le_trS (fun cs hcs => ?_) (fun hn => ⟨hs.nagg i hn,?_⟩) _ _ _ (h.env i)
  ·obtain ⟨ds,h1,h2⟩ := hs.agg i cs hcs;refine ⟨ds,h1,h2,fun j c d hc hd => (hp (.sc i j) c d (fun i e => by cases e) ?_ ?_).2⟩
   ·rw [at_sc hcs]; exact hc
   ·rw [at_sc h1]; exact hd
  ·exact (hp (.s i) _ _ (fun j e => by cases e; exact hn) rfl rfl).2
 ·obtain ⟨ys,h1,h2,m,rfl⟩ := ho p k xs e;rw [h2];exact (h.own _ _ _ h1).take
 ·cases hb : blk s.H b with
  | none => rw [hs.nbox b hb] at e; cases e
  | some cs =>
    obtain ⟨ds,h1,h2⟩ := hs.box b cs hb;rw [e] at h1; cases h1;obtain ⟨as,g1,g2,g3⟩ := h.box b cs hb;refine ⟨as,by rw [hβ]; exact g1,by omega,fun j c hc => ⟨hkc b cs' e j c hc,?_⟩⟩;obtain ⟨d,hd⟩ := getElem?_some_of (l := cs) (i := j) (by have := lt_of_getElem? hc; omega);obtain ⟨_,a,g4,g5⟩ := g3 j d hd;exact ⟨a,g4,(hp (.c b j) d c (fun i e => by cases e) (by rw [at_c hb]; exact hd) (by rw [at_c e]; exact hc)).2.trans g5⟩
 ·obtain ⟨k1,k2⟩ := so h1;obtain ⟨k3,k4⟩ := so h2;exact hi p q h1 h2 (h.inj _ _ n k1 k3 (by rw [<- k2]; exact e1) (by rw [<- k4]; exact e2))
 ·obtain ⟨k1,k2⟩ := so h2;rw [k2,hβ] at e;exact h.bx b _ (sb h1) k1 e
 ·rw [hβ] at e;exact h.bi b c (sb h1) (sb h2) e

mutual
theorem le_mapB {N N' : Names} {o o' : Rt -> Option (Nat × List AV)} {nb : Nat} {g : AV -> AV} (hβ : N'.β = N.β) (hg : LeafG g)
  (hl : ∀ k p a l,(okV o nb (.bor k p a l) -> okV o' nb (g (.bor k p a l)) /\ Le (trV N' (g (.bor k p a l))) (trV N (.bor k p a l))) /\ (okV o nb (.pto k p a l) -> okV o' nb (g (.pto k p a l)) /\ Le (trV N' (g (.pto k p a l))) (trV N (.pto k p a l)))) :
  ∀ x,okV o nb x -> okV o' nb (mapB g x) /\ Le (trV N' (mapB g x)) (trV N x)
 | .bor k p a l,h => by simp only [mapB]; exact (hl k p a l).1 h
 | .pto k p a l,h => by simp only [mapB]; exact (hl k p a l).2 h
 | .agg cs,h => by
   simp only [okV] at h;obtain ⟨h1,h2,h3⟩ := le_mapBL hβ hg hl cs h;simp only [mapB,okV,trV];exact ⟨h1,Le.agg h2 h3⟩
 | .tup cs,h => by
   simp only [okV] at h;obtain ⟨h1,h2,h3⟩ := le_mapBL hβ hg hl cs h;simp only [mapB,okV,trV];refine ⟨h1,fun R φ v r => ?_⟩;cases r with
   | tup _ _ vs hl2 hh2 =>
     refine .tup _ _ _ (h2.trans hl2) fun i c u hc hu => ?_;obtain ⟨y,hy⟩ := getElem?_some_of (l := trL N cs) (i := i) (by have := lt_of_getElem? hc; omega);exact h3 i c y hc hy _ _ _ (hh2 i y u hy hu)
 | .func f a b,h => by
   simp only [okV] at h;obtain ⟨h1,h2,h3⟩ := le_mapBL hβ hg hl a h.1;obtain ⟨k1,k2,k3⟩ := le_mapBL hβ hg hl b h.2;simp only [mapB,okV,trV];refine ⟨⟨h1,k1⟩,fun R φ v r => ?_⟩;cases r with
   | func _ _ _ va _ vb hla hlb ha hb =>
     refine .func _ _ _ _ _ _ (h2.trans hla) (k2.trans hlb) (fun i c u hc hu => ?_) (fun i c u hc hu => ?_)
     ·obtain ⟨y,hy⟩ := getElem?_some_of (l := trL N a) (i := i) (by have := lt_of_getElem? hc; omega);exact h3 i c y hc hy _ _ _ (ha i y u hy hu)
     ·obtain ⟨y,hy⟩ := getElem?_some_of (l := trL N b) (i := i) (by have := lt_of_getElem? hc; omega);exact k3 i c y hc hy _ _ _ (hb i y u hy hu)
 | .any,h => ⟨h,Le.refl _⟩
 | .undef,h => ⟨h,Le.refl _⟩
 | .nilp,h => ⟨h,Le.refl _⟩
 | .nilf,h => ⟨h,Le.refl _⟩
 | .nils,h => ⟨h,Le.refl _⟩
 | .int _ _,h => ⟨h,Le.refl _⟩
 | .bool _,h => ⟨h,Le.refl _⟩
 | .str _,h => ⟨h,Le.refl _⟩
 | .list _ _,h => ⟨h,Le.refl _⟩
 | .fptr _,h => ⟨h,Le.refl _⟩
 | .own _ _,h => ⟨h,Le.refl _⟩
 | .sl k b off len,h => by simp only [mapB,trV,hβ]; exact ⟨h,Le.refl _⟩
 | .ptr b off,h => by simp only [mapB,trV,hβ]; exact ⟨h,Le.refl _⟩
theorem le_mapBL {N N' : Names} {o o' : Rt -> Option (Nat × List AV)} {nb : Nat} {g : AV -> AV} (hβ : N'.β = N.β) (hg : LeafG g)
  (hl : ∀ k p a l,(okV o nb (.bor k p a l) -> okV o' nb (g (.bor k p a l)) /\ Le (trV N' (g (.bor k p a l))) (trV N (.bor k p a l))) /\ (okV o nb (.pto k p a l) -> okV o' nb (g (.pto k p a l)) /\ Le (trV N' (g (.pto k p a l))) (trV N (.pto k p a l)))) :
  ∀ cs,okL o nb cs -> okL o' nb (mapBL g cs) /\ (trL N' (mapBL g cs)).length = (trL N cs).length /\ ∀ (i : Nat) (x y : AV),(trL N' (mapBL g cs))[i]? = some x -> (trL N cs)[i]? = some y -> Le x y
 | [],_ => ⟨trivial,rfl,fun i x y h => by simp [mapBL,trL] at h⟩
 | c :: r,h => by
   simp only [okL] at h;obtain ⟨h1,h2⟩ := le_mapB hβ hg hl c h.1;obtain ⟨k1,k2,k3⟩ := le_mapBL hβ hg hl r h.2;refine ⟨⟨h1,k1⟩,by simp [mapBL,trL,k2],fun i x y hx hy => ?_⟩;cases i with
   | zero => simp [mapBL,trL] at hx hy; subst hx hy; exact h2
   | succ i => simp [mapBL,trL] at hx hy; exact k3 i x y hx hy
end
theorem le_trP_mapB {N N' : Names} {o o' : Rt -> Option (Nat × List AV)} {nb : Nat} {g : AV -> AV} (hβ : N'.β = N.β) (hg : LeafG g)
  (hl : ∀ k p a l,(okV o nb (.bor k p a l) -> okV o' nb (g (.bor k p a l)) /\ Le (trV N' (g (.bor k p a l))) (trV N (.bor k p a l))) /\ (okV o nb (.pto k p a l) -> okV o' nb (g (.pto k p a l)) /\ Le (trV N' (g (.pto k p a l))) (trV N (.pto k p a l))))
  {r : Rt} {x : AV} (hr : ∀ k xs,x = .own k xs -> N'.ν r = N.ν r) (hx : okV o nb x) : okV o' nb (mapB g x) /\ Le (trP N' r (mapB g x)) (trP N r x) := by
 by_cases ho : ∃ k xs,x = .own k xs
 ·obtain ⟨k,xs,rfl⟩ := ho;simp only [mapB,trP,ownT,hr k xs rfl];exact ⟨trivial,Le.refl _⟩
 ·obtain ⟨h1,h2⟩ := le_mapB hβ hg hl x hx;refine ⟨h1,?_⟩
  have e1 : trP N' r (mapB g x) = trV N' (mapB g x) := by
   have : ∀ k xs,mapB g x ≠ .own k xs := fun k xs e => ho ⟨k,xs,(mapB_own hg x k xs).1 e⟩;generalize mapB g x = y at this;cases y <;> first | rfl | exact absurd rfl (this _ _)
  have e2 : trP N r x = trV N x := by cases x <;> first | rfl | exact absurd ⟨_,_,rfl⟩ ho
  rw [e1,e2];exact h2
theorem Lf.map {g : AV -> AV} (hg : LeafG g) {s : St} {r : Rt} (h : Lf s r) : Lf (mapSt g s) r := by
 intro i hi;simp only [mapSt,get_mapE];exact mapB_nagg hg (h i hi)
theorem leafSw (p : Rt) : LeafG (sw p) := by
 intro k q o l;simp only [sw];constructor <;> (split <;> exact ⟨(fun cs e => by cases e),(fun k xs e => by cases e)⟩)
theorem leafRt (p q : Rt) (n : Nat) : LeafG (rt p q n) := by
 intro k r o l;simp only [rt];constructor <;> (repeat' split) <;> exact ⟨(fun cs e => by cases e),(fun k xs e => by cases e)⟩
theorem leafFb (p : Rt) (k : Nat) (xs : List AV) : LeafG (fb p k xs) := by
 intro k r o l;simp only [fb];constructor <;> (repeat' split) <;> exact ⟨(fun cs e => by cases e),(fun k xs e => by cases e)⟩
theorem leafMv (i d : Nat) : LeafG (mvB i d) := by
 intro k r o l;simp only [mvB];exact ⟨⟨(fun cs e => by cases e),(fun k xs e => by cases e)⟩,⟨(fun cs e => by cases e),(fun k xs e => by cases e)⟩⟩
theorem leafMvB (i b off : Nat) : LeafG (mvBB i b off) := by
 intro k r o l;simp only [mvBB];exact ⟨⟨(fun cs e => by cases e),(fun k xs e => by cases e)⟩,⟨(fun cs e => by cases e),(fun k xs e => by cases e)⟩⟩
theorem leafSwC : LeafG swC := by
 intro k r o l;cases r <;> exact ⟨⟨(fun cs e => by cases e),(fun k xs e => by cases e)⟩,⟨(fun cs e => by cases e),(fun k xs e => by cases e)⟩⟩
theorem at_map_set {g : AV -> AV} (hg : LeafG g) {s : St} {p : Rt} {v x : AV} (hv : NAgg v) (hx : at_ s p = some x) (hn : NAgg x) {r : Rt} (hr : Lf s r) :
  at_ (setAt (mapSt g s) p v) r = if r = p then some v else (at_ s r).map (mapB g) := by
 rw [at_set ⟨hv,mapB g x,by rw [at_mapSt hg,hx]; rfl,mapB_nagg hg hn⟩ (hr.map hg),at_mapSt hg]
theorem shape_map_set {g : AV -> AV} (hg : LeafG g) {s : St} {p : Rt} {v x : AV} (hv : NAgg v) (hx : at_ s p = some x) (hn : NAgg x) : Shape s (setAt (mapSt g s) p v) :=
 (Shape.map hg s).trans (Shape.set ⟨hv,mapB g x,by rw [at_mapSt hg,hx]; rfl,mapB_nagg hg hn⟩)
theorem ownAt_of_at' {s s' : St} {p q : Rt} (h : at_ s' p = at_ s q) : ownAt s' p = ownAt s q := by unfold ownAt; rw [h]
theorem ownAt_of_at {s s' : St} {p : Rt} (h : at_ s' p = at_ s p) : ownAt s' p = ownAt s p := by unfold ownAt; rw [h]
theorem ownAt_nlf {s : St} {q : Rt} (h : ¬ Lf s q) : ownAt s q = none := by
 cases e : ownAt s q with
 | none => rfl
 | some y => exact absurd (ownAt_lf (by rw [e]; rfl)) h
theorem Shape.nlf {s s' : St} (h : Shape s s') {q : Rt} (hq : ¬ Lf s q) : ¬ Lf s' q := fun hl => hq fun i hi cs hc => by
 obtain ⟨ds,h1,_⟩ := h.agg i cs hc;exact hl i hi ds h1
theorem ownAt_key {s s' : St} (hsh : Shape s s') {f : Rt -> Option (Nat × List AV)} (hf : ∀ q,Lf s q -> ownAt s' q = f q) (hn : ∀ q,¬ Lf s q -> f q = none) (q : Rt) : ownAt s' q = f q := by
 by_cases hq : Lf s q
 ·exact hf q hq
 ·rw [hn q hq,ownAt_nlf (hsh.nlf hq)]
theorem Sim.drop {X : Nat -> Prop} {φ : Phi} {w : World} {N : Names} {s : St} {Ha : Heap} {t : Nat -> Value} (h : Sim X φ w N s Ha t) {p : Rt} {k : Nat} {xs : List AV} (hp : ownAt s p = some (k,xs)) :
  Sim X φ w N (setAt (mapSt (sw p) s) p .any) Ha t /\ (∀ q,ownAt (setAt (mapSt (sw p) s) p .any) q = if q = p then none else ownAt s q) /\ Shape s (setAt (mapSt (sw p) s) p .any) := by
 have hat := ownAt_iff.1 hp;have hn : NAgg (.own k xs) := fun cs e => by cases e
 have hv : NAgg .any := fun cs e => by cases e
 have hsh := shape_map_set (leafSw p) hv hat hn;have key : ∀ {r},Lf s r -> at_ (setAt (mapSt (sw p) s) p .any) r = if r = p then some .any else (at_ s r).map (mapB (sw p)) := fun hr => at_map_set (leafSw p) hv hat hn hr
 have own : ∀ q,ownAt (setAt (mapSt (sw p) s) p .any) q = if q = p then none else ownAt s q := by
  refine ownAt_key hsh (fun q hq => ?_) (fun q hq => ?_)
  ·have e := key hq;by_cases hqp : q = p
   ·subst hqp; rw [if_pos rfl] at e ⊢; unfold ownAt; rw [e]
   ·rw [if_neg hqp] at e ⊢;rw [<- ownAt_mapSt (leafSw p) s q];exact ownAt_of_at (by rw [e,at_mapSt (leafSw p)])
  ·split
   ·rfl
   ·exact ownAt_nlf hq
 refine ⟨h.change rfl hsh (fun r x y hl hx hy => ?_) id (fun q k' ys e => ?_) (fun q r _ _ e => e),own,hsh⟩
 ·rw [key hl] at hy;by_cases hrp : r = p
  ·rw [if_pos hrp] at hy;cases hy;exact ⟨trivial,Le.any _⟩
  ·rw [if_neg hrp,hx] at hy;simp at hy;subst hy;have := le_trP_mapB (N := N) (N' := N) (o := ownAt s) (o' := ownAt (setAt (mapSt (sw p) s) p .any)) (nb := s.H.length) rfl (leafSw p) (fun k q a l => ?_) (r := r) (x := x) (fun _ _ _ => rfl) (h.ok_at hx)
   ·rw [hsh.len]; exact this
   ·simp only [sw];refine ⟨fun ho => ?_,fun ho => ?_⟩
    ·split
     ·exact ⟨trivial,Le.any _⟩
     ·rename_i hqp;simp only [okV,own,if_neg hqp] at ho ⊢;exact ⟨ho,Le.refl _⟩
    ·split
     ·exact ⟨trivial,Le.any _⟩
     ·rename_i hqp;simp only [okV,own,if_neg hqp] at ho ⊢;exact ⟨ho,Le.refl _⟩
 ·rw [own] at e;split at e
  ·cases e
  ·exact ⟨ys,e,rfl,ys.length,by simp⟩
theorem Sim.give {X : Nat -> Prop} {φ : Phi} {w : World} {N : Names} {s : St} {Ha : Heap} {t : Nat -> Value} (h : Sim X φ w N s Ha t) {p q : Rt} {k k' len : Nat} {xs : List AV} (hp : ownAt s p = some (k,xs)) (hq : at_ s q = some (.bor k' p 0 len)) :
  ∃ N',N'.β = N.β /\ Sim X φ w N' (setAt (setAt (mapSt (rt p q len) s) p .any) q (.own k (xs.take len))) Ha t /\ (∀ r,ownAt (setAt (setAt (mapSt (rt p q len) s) p .any) q (.own k (xs.take len))) r = if r = q then some (k,xs.take len) else if r = p then none else ownAt s r) /\
   Shape s (setAt (setAt (mapSt (rt p q len) s) p .any) q (.own k (xs.take len))) := by
 have hok := h.ok_at hq;simp only [okV,hp,Option.some.injEq,Prod.mk.injEq] at hok;obtain ⟨_,⟨rfl,rfl⟩,hle⟩ := hok;have hat := ownAt_iff.1 hp;have hn : NAgg (.own k xs) := fun cs e => by cases e
 have hv : NAgg .any := fun cs e => by cases e
 have hqp : q ≠ p := by rintro rfl; rw [hat] at hq; cases hq
 have qn : ownAt s q = none := by unfold ownAt; rw [hq]
 have hg := leafRt p q len;have key1 : ∀ {r},Lf s r -> at_ (setAt (mapSt (rt p q len) s) p .any) r = if r = p then some .any else (at_ s r).map (mapB (rt p q len)) := fun hr => at_map_set hg hv hat hn hr;have hsh1 : Shape s (setAt (mapSt (rt p q len) s) p .any) := shape_map_set hg hv hat hn;have hlq : Lf s q := fun i hi cs hc => by subst hi; simp [at_,hc] at hq
 have hx1 : at_ (setAt (mapSt (rt p q len) s) p .any) q = some (mapB (rt p q len) (.bor k p 0 len)) := by rw [key1 hlq,if_neg hqp,hq]; rfl
 have hn1 : NAgg (mapB (rt p q len) (.bor k p 0 len)) := mapB_nagg hg fun cs e => by cases e
 have hv1 : NAgg (.own k (xs.take len)) := fun cs e => by cases e
 have hsh2 : Shape s (setAt (setAt (mapSt (rt p q len) s) p .any) q (.own k (xs.take len))) := hsh1.trans (Shape.set ⟨hv1,_,hx1,hn1⟩);have lf1 : ∀ {r},Lf s r -> Lf (setAt (mapSt (rt p q len) s) p .any) r := fun hr i hi => hsh1.nagg i (hr i hi)
 have key : ∀ {r},Lf s r -> at_ (setAt (setAt (mapSt (rt p q len) s) p .any) q (.own k (xs.take len))) r = if r = q then some (.own k (xs.take len)) else if r = p then some .any else (at_ s r).map (mapB (rt p q len)) := by
  intro r hr;rw [at_set ⟨hv1,_,hx1,hn1⟩ (lf1 hr),key1 hr]
 have own : ∀ r,ownAt (setAt (setAt (mapSt (rt p q len) s) p .any) q (.own k (xs.take len))) r = if r = q then some (k,xs.take len) else if r = p then none else ownAt s r := by
  refine ownAt_key hsh2 (fun r hr => ?_) (fun r hr => ?_)
  ·have e := key hr;by_cases h1 : r = q
   ·rw [if_pos h1] at e ⊢; exact ownAt_iff.2 e
   ·rw [if_neg h1] at e ⊢;by_cases h2 : r = p
    ·rw [if_pos h2] at e ⊢; unfold ownAt; rw [e]
    ·rw [if_neg h2] at e ⊢;rw [<- ownAt_mapSt hg s r];exact ownAt_of_at (by rw [e,at_mapSt hg])
  ·rw [if_neg (by rintro rfl; exact hr hlq)];split
   ·rfl
   ·exact ownAt_nlf hr
 refine ⟨⟨N.β,fun r => if r = q then N.ν p else N.ν r⟩,rfl,h.change rfl hsh2 (fun r x y hl hx hy => ?_) (fun r => if r = q then p else r) (fun r k' ys e => ?_) (fun r1 r2 e1 e2 e => ?_),own,hsh2⟩
 ·rw [key hl] at hy;by_cases h1 : r = q
  ·rw [if_pos h1] at hy;subst h1;rw [hq] at hx;cases hx;cases hy;refine ⟨trivial,?_⟩;have hlen : (xs.take len).length = len := by rw [List.length_take]; omega
   simp only [trP,trV,ownT,if_true,hlen,Nat.zero_mul];exact Le.refl _
  ·rw [if_neg h1] at hy;by_cases h2 : r = p
   ·rw [if_pos h2] at hy;cases hy;exact ⟨trivial,Le.any _⟩
   ·rw [if_neg h2,hx] at hy;simp at hy;subst hy;have := le_trP_mapB (N := N) (N' := ⟨N.β,fun r => if r = q then N.ν p else N.ν r⟩) (o := ownAt s) (o' := ownAt (setAt (setAt (mapSt (rt p q len) s) p .any) q (.own k (xs.take len)))) (nb := s.H.length) rfl hg (fun kk r' a l => ?_) (r := r) (x := x) (fun _ _ _ => by simp [h1]) (h.ok_at hx)
    ·rw [hsh2.len]; exact this
    ·simp only [rt];refine ⟨fun ho => ?_,fun ho => ?_⟩
     ·split
      ·rename_i hrp;subst hrp;split
       ·rename_i hal;simp only [okV,hp,Option.some.injEq,Prod.mk.injEq] at ho;obtain ⟨_,⟨rfl,rfl⟩,_⟩ := ho;refine ⟨?_,?_⟩
        ·simp only [okV,own,if_true];exact ⟨_,rfl,by rw [List.length_take]; omega⟩
        ·simp only [trV,if_true]; exact Le.refl _
       ·exact ⟨trivial,Le.any _⟩
      ·rename_i hrp;simp only [okV] at ho ⊢;obtain ⟨zs,hz,hz2⟩ := ho;have hrq : r' ≠ q := by rintro rfl; rw [qn] at hz; cases hz
       refine ⟨⟨zs,by rw [own,if_neg hrq,if_neg hrp]; exact hz,hz2⟩,?_⟩;simp only [trV,if_neg hrq]; exact Le.refl _
     ·split
      ·rename_i hrp;subst hrp;split
       ·rename_i hal;simp only [okV,hp,Option.some.injEq,Prod.mk.injEq] at ho;obtain ⟨_,⟨rfl,rfl⟩,_⟩ := ho;refine ⟨?_,?_⟩
        ·simp only [okV,own,if_true];exact ⟨_,rfl,by rw [List.length_take]; omega⟩
        ·simp only [trV,if_true]; exact Le.refl _
       ·exact ⟨trivial,Le.any _⟩
      ·rename_i hrp;simp only [okV] at ho ⊢;obtain ⟨zs,hz,hz2⟩ := ho;have hrq : r' ≠ q := by rintro rfl; rw [qn] at hz; cases hz
       refine ⟨⟨zs,by rw [own,if_neg hrq,if_neg hrp]; exact hz,hz2⟩,?_⟩;simp only [trV,if_neg hrq]; exact Le.refl _
 ·rw [own] at e;by_cases h1 : r = q
  ·rw [if_pos h1] at e;simp only [Option.some.injEq,Prod.mk.injEq] at e;obtain ⟨rfl,rfl⟩ := e;exact ⟨xs,by simp [h1,hp],by simp [h1,hqp.symm],len,rfl⟩
  ·rw [if_neg h1] at e;by_cases h2 : r = p
   ·rw [if_pos h2] at e; cases e
   ·rw [if_neg h2] at e;exact ⟨ys,by simp [h1,e],by simp [h1],ys.length,by simp⟩
 ·have np : ∀ r,(ownAt (setAt (setAt (mapSt (rt p q len) s) p .any) q (.own k (xs.take len))) r).isSome -> r ≠ p := by
   intro r hr e;subst e;rw [own,if_neg (Ne.symm hqp),if_pos rfl] at hr;cases hr
  by_cases h1 : r1 = q <;> by_cases h2 : r2 = q
  ·rw [h1,h2]
  ·simp only [h1,h2,if_true,if_false] at e;exact absurd e.symm (np r2 e2)
  ·simp only [h1,h2,if_true,if_false] at e;exact absurd e (np r1 e1)
  ·simpa only [h1,h2,if_false] using e
end Go.Bm

/- What is owned becomes a value by value. -/
namespace Go.Bm
open Go.Am

theorem flat_at {k : Nat} : ∀ {xs : List AV},(∀ x ∈ xs,x.cells.length = k) -> ∀ {i j : Nat} {x c : AV},xs[i]? = some x -> x.cells[j]? = some c -> (flatCells xs)[i * k + j]? = some c
 | [],_,i,j,x,c,h,_ => by simp at h
 | y :: r,hk,i,j,x,c,h,hc => by
   have hy := hk y (by simp);cases i with
   | zero =>
     simp at h; subst h;simp only [flatCells,Nat.zero_mul,Nat.zero_add];rw [List.getElem?_append_left (lt_of_getElem? hc)];exact hc
   | succ i =>
     simp at h;have := flat_at (xs := r) (fun z hz => hk z (by simp [hz])) h hc;simp only [flatCells];rw [List.getElem?_append_right (by rw [hy,Nat.add_mul]; omega),hy,Nat.add_mul,show i * k + 1 * k + j - k = i * k + j by omega];exact this
mutual
theorem pl_plain : ∀ x : AV,pl x = true -> x.plain = true
 | .agg cs,h => by simp only [pl] at h; simp only [AV.plain]; exact plL_plain cs h
 | .tup cs,h => by simp only [pl] at h; simp only [AV.plain]; exact plL_plain cs h
 | .func _ a b,h => by simp only [pl,Bool.and_eq_true] at h; simp only [AV.plain,Bool.and_eq_true]; exact ⟨plL_plain a h.1,plL_plain b h.2⟩
 | .any,_ => rfl
 | .undef,_ => rfl
 | .nilp,_ => rfl
 | .nilf,_ => rfl
 | .nils,_ => rfl
 | .int _ _,_ => rfl
 | .bool _,_ => rfl
 | .str _,_ => rfl
 | .list _ _,_ => rfl
 | .fptr _,_ => rfl
 | .own _ _,h => by simp [pl] at h
 | .bor _ _ _ _,h => by simp [pl] at h
 | .pto _ _ _ _,h => by simp [pl] at h
 | .ptr _ _,h => by simp [pl] at h
 | .sl _ _ _ _,h => by simp [pl] at h
theorem plL_plain : ∀ cs : List AV,plL cs = true -> plainL cs = true
 | [],_ => rfl
 | x :: r,h => by simp only [plL,Bool.and_eq_true] at h; simp only [plainL,Bool.and_eq_true]; exact ⟨pl_plain x h.1,plL_plain r h.2⟩
end
theorem fz_pl {c : AV} (h : fz c = true) : pl c = true /\ c.leaf = true := by
 unfold fz at h;simp only [Bool.and_eq_true] at h;exact ⟨h.2,h.1⟩
section
variable {X : Nat -> Prop} {φ : Phi} {w : World} {Ha : Heap}
theorem own_cells (h : HRel X φ w Ha) {n k : Nat} {xs : List AV} (ho : OwnH Ha (some n) k xs) :
  ∃ g sz,φ[n]? = some (some (g,sz)) /\ ¬ X g /\ ∀ (i j : Nat) (x c : AV),xs[i]? = some x -> x.cells[j]? = some c -> ∃ u,w.cell? ⟨g,i * k + j,none⟩ = some u /\ fz c = true /\ Rep (Rd X φ w) [] c u := by
 obtain ⟨cs,h1,h2,h3,h4⟩ := ho;obtain ⟨g,sz,arr,e,g1,g2,g3,g4,g5,g6⟩ := h.at h1;refine ⟨g,sz,g1,g5,fun i j x c hx hc => ?_⟩;obtain ⟨f1,a,f2,_,f3⟩ := h4 _ c (flat_at h3 hx hc);obtain ⟨u,u1,u2⟩ := g6 _ a f2;exact ⟨u,by rw [cell_of_heap g2]; exact u1,f1,(f3 _ _ _ u2).of_plain (pl_plain _ (fz_pl f1).1) []⟩
theorem rd_set {n g sz : Nat} (h : HRel X φ w Ha) (hφ : φ[n]? = some (some (g,sz))) {o : Nat} {u : Value} (hX : ¬ X g) (hu : w.cell? ⟨g,o,none⟩ = some u) : Rd X (φ.set n none) w ⟨g,o,none⟩ u := by
 refine ⟨hX,fun ⟨b,sz',hb⟩ => ?_,hu⟩;rw [List.getElem?_set] at hb;split at hb
 ·split at hb <;> simp at hb
 ·rename_i hne;exact hne (h.inj n b g sz sz' hφ hb)
theorem rd_sub (n : Nat) : ∀ a u,Rd X φ w a u -> Rd X (φ.set n none) w a u := fun _ _ ⟨h1,h2,h3⟩ => ⟨h1,fun h => h2 (owned_set h),h3⟩
theorem block_list (h : HRel X φ w Ha) {n k : Nat} {xs : List AV} (ho : OwnH Ha (some n) k xs) {off len : Nat} (hle : off + len <= xs.length) {v : Value} (r : Rep (Rd X φ w) φ (.sl k n (off * k) len) v) (ψ : Phi) :
  Rep (Rd X (φ.set n none) w) ψ (.list k ((xs.drop off).take len)) v := by
 obtain ⟨g,sz,hφ,hX,hc⟩ := own_cells h ho;cases r with
 | sl _ _ _ _ _ a cap hb hcap hh =>
   obtain ⟨h1,h2⟩ := hh g sz hφ;by_cases h0 : len = 0
   ·subst h0;simp only [List.take_zero];exact .lst _ _ _ _ _ _ (fun _ _ => undef) rfl hcap (fun x hx => by simp at hx) (fun i j x c hx => by simp at hx) (fun i j x c hx => by simp at hx)
   ·have ha := h1 (by omega);subst ha
    have hx : ∀ (i : Nat) (x : AV),((xs.drop off).take len)[i]? = some x -> xs[off + i]? = some x /\ i < len := by
     intro i x hx;rw [List.getElem?_take] at hx;split at hx
     ·rw [List.getElem?_drop] at hx; exact ⟨hx,‹_›⟩
     ·cases hx
    obtain ⟨cs,q1,q2,hk,q4⟩ := ho;refine .lst _ _ _ _ _ _ (fun i j => (w.cell? ⟨g,(off + i) * k + j,none⟩).getD undef) (by simp; omega) hcap (fun x hm => ?_) (fun i j x c hi hj => ?_) (fun i j x c hi hj => ?_)
    ·exact hk x (List.mem_of_mem_drop (List.mem_of_mem_take hm))
    ·obtain ⟨u,u1,_,_⟩ := hc _ j x c (hx i x hi).1 hj;rw [u1,Addr.add_none,show off * k + (i * k + j) = (off + i) * k + j by rw [Nat.add_mul]; omega];exact rd_set h hφ hX u1
    ·obtain ⟨u,u1,_,u3⟩ := hc _ j x c (hx i x hi).1 hj;rw [u1];exact u3.mono (rd_sub n) (.refl _)
theorem block_ptr (h : HRel X φ w Ha) {n k : Nat} {xs : List AV} (ho : OwnH Ha (some n) k xs) {i o : Nat} {x : AV} (hx : xs[i]? = some x) {v : Value} (r : Rep (Rd X φ w) φ (.ptr n (i * k + o)) v) (ψ : Phi) :
  Rep (Rd X (φ.set n none) w) ψ (.fptr (x.cells.drop o)) v := by
 obtain ⟨g,sz,hφ,hX,hc⟩ := own_cells h ho;cases r with
 | ptr _ _ _ a hb hh =>
   have ha := hh g sz hφ;subst ha;refine .fptr _ _ _ (fun j => (w.cell? ⟨g,i * k + (o + j),none⟩).getD undef) (fun j c hj => ?_) (fun j c hj => ?_)
   ·rw [List.getElem?_drop] at hj;obtain ⟨u,u1,_,_⟩ := hc i (o + j) x c hx hj;rw [u1,Addr.add_none,show i * k + o + j = i * k + (o + j) by omega];exact rd_set h hφ hX u1
   ·rw [List.getElem?_drop] at hj;obtain ⟨u,u1,_,u3⟩ := hc i (o + j) x c hx hj;rw [u1];exact u3.mono (rd_sub n) (.refl _)
end
theorem rep_trS {R R' : Addr -> Value -> Prop} {φ φ' : Phi} {N N' : Names} {i : Nat} {x y : AV} (h1 : ∀ cs,x = .agg cs -> ∃ ds,y = .agg ds /\ ds.length = cs.length /\ ∀ (j : Nat) (c d : AV),cs[j]? = some c -> ds[j]? = some d -> ∀ u,Rep R φ (trP N (.sc i j) c) u -> Rep R' φ' (trP N' (.sc i j) d) u)
  (h2 : NAgg x -> NAgg y /\ ∀ v,Rep R φ (trP N (.s i) x) v -> Rep R' φ' (trP N' (.s i) y) v) {v : Value} (hv : Rep R φ (trS N i x) v) : Rep R' φ' (trS N' i y) v := by
 by_cases hx : ∃ cs,x = .agg cs
 ·obtain ⟨cs,rfl⟩ := hx;obtain ⟨ds,rfl,hl,h⟩ := h1 cs rfl;simp only [trS] at hv ⊢;cases hv with
  | agg _ _ vs hl2 hh =>
    rw [trC_length] at hl2;refine .agg _ _ _ (by rw [trC_length]; omega) fun j c u hc hu => ?_;rw [trC_get] at hc;simp only [Nat.zero_add] at hc;cases hd : ds[j]? with
    | none => rw [hd] at hc; cases hc
    | some d =>
      rw [hd] at hc;simp at hc;subst hc;obtain ⟨c,hc⟩ := getElem?_some_of (l := cs) (i := j) (by have := lt_of_getElem? hd; omega);exact h j c d hc hd u (hh j _ u (by rw [trC_get,hc]; simp) hu)
 ·have hn : NAgg x := fun cs e => hx ⟨cs,e⟩;obtain ⟨hy,hle⟩ := h2 hn;have e1 : trS N' i y = trP N' (.s i) y := by cases y <;> first | rfl | exact absurd rfl (hy _)
  have e2 : trS N i x = trP N (.s i) x := by cases x <;> first | rfl | exact absurd rfl (hn _)
  rw [e2] at hv;rw [e1];exact hle v hv
mutual
theorem rep_mapB {R R' : Addr -> Value -> Prop} {φ φ' : Phi} {N N' : Names} {o o' : Rt -> Option (Nat × List AV)} {nb : Nat} {g : AV -> AV} (hR : ∀ a u,R a u -> R' a u) (hφ : PhiLe φ φ') (hβ : N'.β = N.β)
  (hl : ∀ k p a l,(okV o nb (.bor k p a l) -> okV o' nb (g (.bor k p a l)) /\ ∀ v,Rep R φ (trV N (.bor k p a l)) v -> Rep R' φ' (trV N' (g (.bor k p a l))) v) /\ (okV o nb (.pto k p a l) -> okV o' nb (g (.pto k p a l)) /\ ∀ v,Rep R φ (trV N (.pto k p a l)) v -> Rep R' φ' (trV N' (g (.pto k p a l))) v)) :
  ∀ x,okV o nb x -> okV o' nb (mapB g x) /\ ∀ v,Rep R φ (trV N x) v -> Rep R' φ' (trV N' (mapB g x)) v
 | .bor k p a l,h => by simp only [mapB]; exact (hl k p a l).1 h
 | .pto k p a l,h => by simp only [mapB]; exact (hl k p a l).2 h
 | .agg cs,h => by
   simp only [okV] at h;obtain ⟨h1,h3⟩ := rep_mapBL hR hφ hβ hl cs h;simp only [mapB,okV,trV];refine ⟨h1,fun v r => ?_⟩;cases r with
   | agg _ _ vs hl2 hh2 =>
     refine .agg _ _ _ (by simp only [trL_length,mapBL_length] at hl2 ⊢; exact hl2) fun i c u hc hu => ?_;exact h3 i c u hc (fun y hy => hh2 i y u hy hu)
 | .tup cs,h => by
   simp only [okV] at h;obtain ⟨h1,h3⟩ := rep_mapBL hR hφ hβ hl cs h;simp only [mapB,okV,trV];refine ⟨h1,fun v r => ?_⟩;cases r with
   | tup _ _ vs hl2 hh2 =>
     refine .tup _ _ _ (by simp only [trL_length,mapBL_length] at hl2 ⊢; exact hl2) fun i c u hc hu => ?_;exact h3 i c u hc (fun y hy => hh2 i y u hy hu)
 | .func f a b,h => by
   simp only [okV] at h;obtain ⟨h1,h3⟩ := rep_mapBL hR hφ hβ hl a h.1;obtain ⟨k1,k3⟩ := rep_mapBL hR hφ hβ hl b h.2;simp only [mapB,okV,trV];refine ⟨⟨h1,k1⟩,fun v r => ?_⟩;cases r with
   | func _ _ _ va _ vb hla hlb ha hb =>
     refine .func _ _ _ _ _ _ (by simp only [trL_length,mapBL_length] at hla ⊢; exact hla) (by simp only [trL_length,mapBL_length] at hlb ⊢; exact hlb) (fun i c u hc hu => ?_) (fun i c u hc hu => ?_)
     ·exact h3 i c u hc (fun y hy => ha i y u hy hu)
     ·exact k3 i c u hc (fun y hy => hb i y u hy hu)
 | .any,h => ⟨h,fun v r => r.mono hR hφ⟩
 | .undef,h => ⟨h,fun v r => r.mono hR hφ⟩
 | .nilp,h => ⟨h,fun v r => r.mono hR hφ⟩
 | .nilf,h => ⟨h,fun v r => r.mono hR hφ⟩
 | .nils,h => ⟨h,fun v r => r.mono hR hφ⟩
 | .int _ _,h => ⟨h,fun v r => r.mono hR hφ⟩
 | .bool _,h => ⟨h,fun v r => r.mono hR hφ⟩
 | .str _,h => ⟨h,fun v r => r.mono hR hφ⟩
 | .list _ _,h => ⟨h,fun v r => r.mono hR hφ⟩
 | .fptr _,h => ⟨h,fun v r => r.mono hR hφ⟩
 | .own _ _,h => ⟨h,fun v r => r.mono hR hφ⟩
 | .sl _ b _ _,h => by simp only [mapB,trV,hβ]; exact ⟨h,fun v r => r.mono hR hφ⟩
 | .ptr b off,h => by simp only [mapB,trV,hβ]; exact ⟨h,fun v r => r.mono hR hφ⟩
theorem rep_mapBL {R R' : Addr -> Value -> Prop} {φ φ' : Phi} {N N' : Names} {o o' : Rt -> Option (Nat × List AV)} {nb : Nat} {g : AV -> AV} (hR : ∀ a u,R a u -> R' a u) (hφ : PhiLe φ φ') (hβ : N'.β = N.β)
  (hl : ∀ k p a l,(okV o nb (.bor k p a l) -> okV o' nb (g (.bor k p a l)) /\ ∀ v,Rep R φ (trV N (.bor k p a l)) v -> Rep R' φ' (trV N' (g (.bor k p a l))) v) /\ (okV o nb (.pto k p a l) -> okV o' nb (g (.pto k p a l)) /\ ∀ v,Rep R φ (trV N (.pto k p a l)) v -> Rep R' φ' (trV N' (g (.pto k p a l))) v)) :
  ∀ cs,okL o nb cs -> okL o' nb (mapBL g cs) /\ ∀ (i : Nat) (x : AV) (u : Value),(trL N' (mapBL g cs))[i]? = some x -> (∀ y,(trL N cs)[i]? = some y -> Rep R φ y u) -> Rep R' φ' x u
 | [],_ => ⟨trivial,fun i x u h => by simp [mapBL,trL] at h⟩
 | c :: r,h => by
   simp only [okL] at h;obtain ⟨h1,h2⟩ := rep_mapB hR hφ hβ hl c h.1;obtain ⟨k1,k3⟩ := rep_mapBL hR hφ hβ hl r h.2;refine ⟨⟨h1,k1⟩,fun i x u hx hy => ?_⟩;cases i with
   | zero => simp [mapBL,trL] at hx hy; subst hx; exact h2 u hy
   | succ i => simp [mapBL,trL] at hx hy; exact k3 i x u hx hy
end
theorem exists_heap (L : Nat) (G : Nat -> Blk) : ∃ H : Heap,H.length = L /\ ∀ m,m < L -> H[m]? = some (G m) :=
 ⟨(List.range L).map G,by simp,fun m hm => by simp [hm]⟩
theorem trP_map {N N' : Names} {g : AV -> AV} (hg : LeafG g) {r : Rt} {x : AV} (ho : NOwn x) : trP N r x = trV N x /\ trP N' r (mapB g x) = trV N' (mapB g x) := by
 constructor
 ·cases x <;> first | rfl | exact absurd rfl (ho _ _)
 ·have : ∀ k xs,mapB g x ≠ .own k xs := fun k xs e => ho k xs ((mapB_own hg x k xs).1 e);generalize mapB g x = y at this;cases y <;> first | rfl | exact absurd rfl (this _ _)
theorem Sim.frz {X : Nat -> Prop} {φ : Phi} {w : World} {N : Names} {s : St} {Ha : Heap} {t : Nat -> Value} (h : Sim X φ w N s Ha t) (p : Rt) :
  ∃ φ' Ha',Sim X φ' w N (frzP s p) Ha' t /\ Adv φ w φ' w /\ (∀ q,ownAt (frzP s p) q = if q = p then none else ownAt s q) /\ Shape s (frzP s p) := by
 unfold frzP;cases hp : ownAt s p with
 | none =>
   refine ⟨φ,Ha,h,.refl _ _,fun q => ?_,.refl _⟩;by_cases e : q = p
   ·rw [if_pos e,e]; exact hp
   ·rw [if_neg e]
 | some y =>
   obtain ⟨k,xs⟩ := y;simp only;have hat := ownAt_iff.1 hp;have hn : NAgg (.own k xs) := fun cs e => by cases e
   have hv : NAgg (.list k xs) := fun cs e => by cases e
   have hg := leafFb p k xs;have hsh := shape_map_set hg hv hat hn;generalize hs' : setAt (mapSt (fb p k xs) s) p (.list k xs) = s' at hsh ⊢;have key : ∀ {r},Lf s r -> at_ s' r = if r = p then some (.list k xs) else (at_ s r).map (mapB (fb p k xs)) := fun hr => by rw [<- hs']; exact at_map_set hg hv hat hn hr
   have own : ∀ q,ownAt s' q = if q = p then none else ownAt s q := by
    refine ownAt_key hsh (fun q hq => ?_) (fun q hq => ?_)
    ·have e := key hq;by_cases hqp : q = p
     ·subst hqp; rw [if_pos rfl] at e ⊢; unfold ownAt; rw [e]
     ·rw [if_neg hqp] at e ⊢;rw [<- ownAt_mapSt hg s q];exact ownAt_of_at (by rw [e,at_mapSt hg])
    ·split
     ·rfl
     ·exact ownAt_nlf hq
   have hown := h.own p k xs hp;cases hν : N.ν p with
   | none =>
     rw [hν] at hown;have hown : xs = [] := hown;subst hown;refine ⟨φ,Ha,h.change rfl hsh (fun r x y hl hx hy => ?_) id (fun q k' ys e => ?_) (fun q r _ _ e => e),.refl _ _,own,hsh⟩
     ·rw [key hl] at hy;by_cases hrp : r = p
      ·rw [if_pos hrp] at hy;subst hrp;rw [hat] at hx;cases hx; cases hy;refine ⟨trivial,?_⟩;simp only [trP,trV,ownT,hν];exact Le.nilL k
      ·rw [if_neg hrp,hx] at hy;simp at hy;subst hy;have := le_trP_mapB (N := N) (N' := N) (o := ownAt s) (o' := ownAt s') (nb := s.H.length) rfl hg (fun k' q a l => ?_) (r := r) (x := x) (fun _ _ _ => rfl) (h.ok_at hx)
       ·rw [hsh.len]; exact this
       ·simp only [fb];refine ⟨fun ho => ?_,fun ho => ?_⟩
        ·by_cases hqp : q = p
         ·rw [if_pos hqp];subst hqp;simp only [okV,hp,Option.some.injEq,Prod.mk.injEq] at ho;obtain ⟨_,⟨rfl,rfl⟩,hle⟩ := ho;rw [if_pos ⟨rfl,hle⟩];refine ⟨trivial,?_⟩;simp only [trV,hν,List.drop_nil,List.take_nil];exact Le.nilL k
         ·rw [if_neg hqp];simp only [okV,own,if_neg hqp] at ho ⊢;exact ⟨ho,Le.refl _⟩
        ·by_cases hqp : q = p
         ·subst hqp;simp only [okV,hp,Option.some.injEq,Prod.mk.injEq] at ho;obtain ⟨_,⟨rfl,rfl⟩,hle⟩ := ho;simp at hle
         ·rw [if_neg hqp];simp only [okV,own,if_neg hqp] at ho ⊢;exact ⟨ho,Le.refl _⟩
     ·rw [own] at e;split at e
      ·cases e
      ·exact ⟨ys,e,rfl,ys.length,by simp⟩
   | some n =>
     rw [hν] at hown;obtain ⟨_,hadv⟩ := h.heap.kill1 n;have hr2 : ∀ a u,Rd X φ w a u -> Rd X (φ.set n none) w a u := hadv.rd
     have conv : ∀ r x y,Lf s r -> at_ s r = some x -> at_ s' r = some y -> okV (ownAt s') s'.H.length y /\ ∀ v,Rep (Rd X φ w) φ (trP N r x) v -> Rep (Rd X (φ.set n none) w) (φ.set n none) (trP N r y) v := by
      intro r x y hl hx hy;rw [key hl] at hy;by_cases hrp : r = p
      ·rw [if_pos hrp] at hy;subst hrp;rw [hat] at hx;cases hx; cases hy;refine ⟨trivial,fun v hv => ?_⟩;simp only [trP,trV,ownT,hν] at hv ⊢;have := block_list h.heap hown (off := 0) (len := xs.length) (by omega) (by simpa using hv) (φ.set n none);simpa using this
      ·rw [if_neg hrp,hx] at hy;simp at hy;subst hy
       have hbl := rep_mapB (R := Rd X φ w) (R' := Rd X (φ.set n none) w) (φ := φ) (φ' := φ.set n none) (N := N) (N' := N) (o := ownAt s) (o' := ownAt s') (nb := s.H.length) (g := fb p k xs) hr2 hadv.phi rfl (fun k' q a l => by
        simp only [fb];refine ⟨fun ho => ?_,fun ho => ?_⟩
        ·by_cases hqp : q = p
         ·rw [if_pos hqp];subst hqp;simp only [okV,hp,Option.some.injEq,Prod.mk.injEq] at ho;obtain ⟨_,⟨rfl,rfl⟩,hle⟩ := ho;rw [if_pos ⟨rfl,hle⟩];refine ⟨trivial,fun v hv => ?_⟩;simp only [trV,hν] at hv ⊢;exact block_list h.heap hown hle hv _
         ·rw [if_neg hqp];simp only [okV,own,if_neg hqp] at ho ⊢;exact ⟨ho,fun v hv => hv.mono hr2 hadv.phi⟩
        ·by_cases hqp : q = p
         ·rw [if_pos hqp];subst hqp;simp only [okV,hp,Option.some.injEq,Prod.mk.injEq] at ho;obtain ⟨_,⟨rfl,rfl⟩,hle⟩ := ho;rw [if_pos rfl];obtain ⟨x,hx⟩ := getElem?_some_of hle;rw [hx];refine ⟨trivial,fun v hv => ?_⟩;simp only [trV,hν] at hv ⊢;exact block_ptr h.heap hown hx hv _
         ·rw [if_neg hqp];simp only [okV,own,if_neg hqp] at ho ⊢;exact ⟨ho,fun v hv => hv.mono hr2 hadv.phi⟩) x (h.ok_at hx)
       refine ⟨by rw [hsh.len]; exact hbl.1,fun v hv => ?_⟩;by_cases hxo : ∃ k' ys,x = .own k' ys
       ·obtain ⟨k',ys,rfl⟩ := hxo;simp only [mapB,trP,ownT] at hv ⊢;exact hv.mono hr2 hadv.phi
       ·obtain ⟨e1,e2⟩ := trP_map (N := N) (N' := N) hg (r := r) (x := x) (fun k ys e => hxo ⟨k,ys,e⟩);rw [e1] at hv;rw [e2];exact hbl.2 v hv
     obtain ⟨hk,hkc⟩ := ok_of_at (o := ownAt s') (nb := s'.H.length) (s := s') fun r y hl hy => by
      obtain ⟨hl',x,hx⟩ := hsh.back hl hy;exact (conv r x y hl' hx hy).1
     have sb : ∀ {b},(blk s'.H b).isSome -> (blk s.H b).isSome := by
      intro b hb;cases e : blk s.H b with
      | none => rw [hsh.nbox b e] at hb; cases hb
      | some _ => rfl
     have so : ∀ {q},(ownAt s' q).isSome -> (ownAt s q).isSome /\ q ≠ p := by
      intro q hq;rw [own] at hq;by_cases e : q = p
      ·rw [if_pos e] at hq; cases hq
      ·rw [if_neg e] at hq; exact ⟨hq,e⟩
     classical
     obtain ⟨Ha',hL,hG⟩ := exists_heap Ha.length (fun m => if m = n then none else if hb : ∃ z : Nat × List AV,blk s'.H z.1 = some z.2 /\ N.β z.1 = m then some (trC N (.c hb.choose.1) 0 hb.choose.2) else (Ha[m]?).getD none)
     have hbox : ∀ b cs,blk s'.H b = some cs -> blk Ha' (N.β b) = some (trC N (.c b) 0 cs) := by
      intro b cs hb;obtain ⟨cs0,hcs0⟩ := Option.isSome_iff_exists.1 (sb (by rw [hb]; rfl : (blk s'.H b).isSome));obtain ⟨as,g1,_⟩ := h.box b cs0 hcs0;rw [blk_iff,hG _ (blk_lt g1)];have hne : N.β b ≠ n := fun e => h.bx b p (by rw [hcs0]; rfl) (by rw [hp]; rfl) (by rw [hν,e]);have hex : ∃ z : Nat × List AV,blk s'.H z.1 = some z.2 /\ N.β z.1 = N.β b := ⟨(b,cs),hb,rfl⟩;rw [if_neg hne,dif_pos hex];have e1 : hex.choose.1 = b := h.bi _ _ (sb (by rw [hex.choose_spec.1]; rfl)) (by rw [hcs0]; rfl) hex.choose_spec.2
      have e2 : hex.choose.2 = cs := by
       have := hex.choose_spec.1;rw [e1,hb] at this;exact (Option.some.inj this).symm
      rw [e2,e1]
     have hother : ∀ m,m ≠ n -> (¬ ∃ z : Nat × List AV,blk s'.H z.1 = some z.2 /\ N.β z.1 = m) -> Ha'[m]? = Ha[m]? := by
      intro m hm hnb;by_cases hlt : m < Ha.length
      ·rw [hG m hlt,if_neg hm,dif_neg hnb];obtain ⟨x,hx⟩ := getElem?_some_of hlt;rw [hx]; rfl
      ·rw [List.getElem?_eq_none (by omega),List.getElem?_eq_none (by omega)]
     refine ⟨φ.set n none,Ha',⟨fun i => ?_,hk,⟨?_,h.heap.xlt,fun m cs hm => ?_,fun m hm => ?_,fun m m' g sz sz' e1 e2 => ?_⟩,fun q k' ys e => ?_,fun b cs e => ?_,fun q r m e1 e2 e3 e4 => ?_,fun b q e1 e2 e3 => ?_,fun b c e1 e2 e3 => ?_⟩,hadv,own,hsh⟩
     ·refine rep_trS (fun cs hcs => ?_) (fun hnn => ⟨hsh.nagg i hnn,?_⟩) (h.env i)
      ·obtain ⟨ds,h1,h2⟩ := hsh.agg i cs hcs;refine ⟨ds,h1,h2,fun j c d hc hd => (conv (.sc i j) c d (fun i e => by cases e) ?_ ?_).2⟩
       ·rw [at_sc hcs]; exact hc
       ·rw [at_sc h1]; exact hd
      ·exact (conv (.s i) _ _ (fun j e => by cases e; exact hnn) rfl rfl).2
     ·rw [List.length_set,h.heap.len,hL]
     ·have hlt := lt_of_getElem? hm;rw [hL] at hlt;by_cases hmn : m = n
      ·rw [hG m hlt,if_pos hmn] at hm; cases hm
      ·by_cases hnb : ∃ z : Nat × List AV,blk s'.H z.1 = some z.2 /\ N.β z.1 = m
       ·obtain ⟨⟨b,ds⟩,hb,rfl⟩ := hnb;simp only at hb hm hmn;have := hbox b ds hb;rw [blk_iff,hm] at this;cases this;obtain ⟨cs0,hcs0⟩ := Option.isSome_iff_exists.1 (sb (by rw [hb]; rfl : (blk s'.H b).isSome));obtain ⟨as,g1,g2,g3⟩ := h.box b cs0 hcs0;obtain ⟨g,sz,arr,e,f1,f2,f3,f4,f5,f6⟩ := h.heap.at g1;obtain ⟨ds',q1,q2⟩ := hsh.box b cs0 hcs0;rw [hb] at q1; cases q1;refine ⟨g,sz,arr,e,?_,f2,f3,by rw [trC_length]; omega,f5,fun i c hc => ?_⟩
        ·rw [List.getElem?_set_ne (Ne.symm hmn)]; exact f1
        ·rw [trC_get] at hc;simp only [Nat.zero_add] at hc;cases hd : ds[i]? with
         | none => rw [hd] at hc; cases hc
         | some d =>
           rw [hd] at hc;simp at hc;subst hc;obtain ⟨c0,hc0⟩ := getElem?_some_of (l := cs0) (i := i) (by have := lt_of_getElem? hd; omega);obtain ⟨_,a,a1,a2⟩ := g3 i c0 hc0;obtain ⟨u,u1,u2⟩ := f6 i a a1;exact ⟨u,u1,(conv (.c b i) c0 d (fun i e => by cases e) (by rw [at_c hcs0]; exact hc0) (by rw [at_c hb]; exact hd)).2 u (a2 _ _ _ u2)⟩
       ·rw [hother m hmn hnb] at hm;obtain ⟨g,sz,arr,e,f1,f2,f3,f4,f5,f6⟩ := h.heap.live m cs hm;refine ⟨g,sz,arr,e,?_,f2,f3,f4,f5,fun i c hc => ?_⟩
        ·rw [List.getElem?_set_ne (Ne.symm hmn)]; exact f1
        ·obtain ⟨u,u1,u2⟩ := f6 i c hc;exact ⟨u,u1,u2.mono hr2 hadv.phi⟩
     ·by_cases hmn : m = n
      ·subst hmn;have hlt := lt_of_getElem? hm;rw [List.getElem?_set_self (by rw [h.heap.len]; omega)]
      ·rw [List.getElem?_set_ne (Ne.symm hmn)];by_cases hnb : ∃ z : Nat × List AV,blk s'.H z.1 = some z.2 /\ N.β z.1 = m
       ·obtain ⟨⟨b,ds⟩,hb,rfl⟩ := hnb;simp only at hb hm hmn;have := hbox b ds hb;rw [blk_iff,hm] at this;cases this
       ·rw [hother m hmn hnb] at hm;exact h.heap.dead m hm
     ·have sub : ∀ m g sz : Nat,(φ.set n none)[m]? = some (some (g,sz)) -> φ[m]? = some (some (g,sz)) := by
       intro m g sz e;rw [List.getElem?_set] at e;split at e
       ·split at e <;> simp at e
       ·exact e
      exact h.heap.inj m m' g sz sz' (sub _ _ _ e1) (sub _ _ _ e2)
     ·have hq := own q;rw [e] at hq;by_cases hqp : q = p
      ·rw [if_pos hqp] at hq; cases hq
      ·rw [if_neg hqp] at hq;have ho := h.own q k' ys hq.symm;cases hνq : N.ν q with
       | none => rw [hνq] at ho; exact ho
       | some m =>
         rw [hνq] at ho;obtain ⟨cs,c1,c2⟩ := ho
         have hmn : m ≠ n := by
          intro e; subst e;exact hqp (h.inj q p m (by rw [<- hq]; rfl) (by rw [hp]; rfl) hνq hν)
         refine ⟨cs,?_,c2⟩;rw [blk_iff,hother m hmn ?_]
         ·exact blk_some c1
         ·rintro ⟨⟨b,ds⟩,hb,rfl⟩;exact h.bx b q (sb (by rw [hb]; rfl)) (by rw [<- hq]; rfl) hνq
     ·refine ⟨_,hbox b cs e,trC_length _ _ _ _,fun j c hc => ⟨hkc b cs e j c hc,_,by rw [trC_get,hc]; simp,Le.refl _⟩⟩
     ·exact h.inj q r m (so e1).1 (so e2).1 e3 e4
     ·exact h.bx b q (sb e1) (so e2).1 e3
     ·exact h.bi b c (sb e1) (sb e2) e3
end Go.Bm

/- Owners that go, values that go to their slots, the end of a region. -/
namespace Go.Bm
open Go.Am

def SB (X : Nat -> Prop) (φ : Phi) (w : World) (B : Nat -> Nat) (base : Nat) (s : St) (t : Nat -> Value) : Prop := ∃ N Ha,Sim X φ w N s Ha t /\ (∀ b,b < base -> N.β b = B b) /\ base <= s.H.length
section
variable {X : Nat -> Prop} {φ : Phi} {w : World} {N : Names} {s s' : St} {Ha : Heap} {t : Nat -> Value} {B : Nat -> Nat} {base : Nat}

theorem SB.frz (h : SB X φ w B base s t) (p : Rt) : ∃ φ',SB X φ' w B base (frzP s p) t /\ Adv φ w φ' w := by
 obtain ⟨N,Ha,h,hb,hl⟩ := h;obtain ⟨φ',Ha',h1,h2,_,h3⟩ := h.frz p;exact ⟨φ',⟨N,Ha',h1,hb,by rw [h3.len]; exact hl⟩,h2⟩
theorem SB.frzAll : ∀ (ps : List Rt) {φ : Phi} {s : St},SB X φ w B base s t -> ∃ φ',SB X φ' w B base (frzAll ps s) t /\ Adv φ w φ' w
 | [],φ,s,h => ⟨φ,h,.refl _ _⟩
 | p :: r,φ,s,h => by
   obtain ⟨φ1,h1,a1⟩ := h.frz p;obtain ⟨φ2,h2,a2⟩ := SB.frzAll r h1;exact ⟨φ2,h2,a1.trans a2⟩
theorem SB.rel (h : SB X φ w B base s t) (p : Rt) : ∃ φ',SB X φ' w B base (rel s p) t /\ Adv φ w φ' w := by
 unfold Go.Bm.rel;split
 ·exact ⟨φ,h,.refl _ _⟩
 ·rename_i k xs hp;split
  ·obtain ⟨N,Ha,h,hb,hl⟩ := h;exact ⟨φ,⟨N,Ha,(h.drop hp).1,hb,by rw [(h.drop hp).2.2.len]; exact hl⟩,.refl _ _⟩
  ·rename_i q hq;split
   ·rename_i k' r len hat;split
    ·rename_i hr;subst hr;obtain ⟨N,Ha,h,hb,hl⟩ := h;obtain ⟨N',e,h',_,h3⟩ := h.give hp hat;exact ⟨φ,⟨N',Ha,h',fun b hlt => by rw [e]; exact hb b hlt,by rw [h3.len]; exact hl⟩,.refl _ _⟩
    ·exact h.frz p
   ·exact h.frz p
theorem SB.relC (i : Nat) : ∀ (cs : List AV) (j : Nat) {φ : Phi} {s : St},SB X φ w B base s t -> ∃ φ',SB X φ' w B base (relC i j cs s) t /\ Adv φ w φ' w
 | [],j,φ,s,h => ⟨φ,h,.refl _ _⟩
 | x :: r,j,φ,s,h => by
   have skip : ∃ φ',SB X φ' w B base (Go.Bm.relC i (j + 1) r s) t /\ Adv φ w φ' w := SB.relC i r (j + 1) h
   cases x <;> first
    | exact skip
    | (obtain ⟨φ1, h1, a1⟩ := h.rel (.sc i j)
       obtain ⟨φ2,h2,a2⟩ := SB.relC i r (j + 1) h1;exact ⟨φ2,h2,a1.trans a2⟩)
theorem SB.dropS (h : SB X φ w B base s t) (i : Nat) : ∃ φ',SB X φ' w B base (dropS s i) t /\ Adv φ w φ' w := by
 unfold Go.Bm.dropS;split
 ·exact h.rel _
 ·exact SB.relC i _ 0 h
 ·exact ⟨φ,h,.refl _ _⟩
theorem SB.dropAll (keep : List Nat) : ∀ (e : Env) {φ : Phi} {s : St},SB X φ w B base s t -> ∃ φ',SB X φ' w B base (dropAll keep e s) t /\ Adv φ w φ' w
 | [],φ,s,h => ⟨φ,h,.refl _ _⟩
 | (i,v) :: r,φ,s,h => by
   simp only [Go.Bm.dropAll];split
   ·exact SB.dropAll keep r h
   ·obtain ⟨φ1,h1,a1⟩ := h.dropS i;obtain ⟨φ2,h2,a2⟩ := SB.dropAll keep r h1;exact ⟨φ2,h2,a1.trans a2⟩
theorem SB.relB (b : Nat) : ∀ (n j : Nat) {φ : Phi} {s : St},SB X φ w B base s t -> ∃ φ',SB X φ' w B base (relB b j n s) t /\ Adv φ w φ' w
 | 0,j,φ,s,h => ⟨φ,h,.refl _ _⟩
 | n + 1,j,φ,s,h => by
   simp only [Go.Bm.relB];split
   ·obtain ⟨φ1,h1,a1⟩ := h.rel (.c b j);obtain ⟨φ2,h2,a2⟩ := SB.relB b n (j + 1) h1;exact ⟨φ2,h2,a1.trans a2⟩
   ·exact SB.relB b n (j + 1) h

theorem at_ext (he : ∀ i,get s'.env i = get s.env i) (hH : s'.H = s.H) : at_ s' = at_ s := by
 funext p;cases p <;> simp only [at_,he,hH]
theorem ownAt_ext (he : ∀ i,get s'.env i = get s.env i) (hH : s'.H = s.H) : ownAt s' = ownAt s := by
 funext p;unfold ownAt;rw [at_ext he hH]
theorem Sim.ext (h : Sim X φ w N s Ha t) (he : ∀ i,get s'.env i = get s.env i) (hH : s'.H = s.H) : Sim X φ w N s' Ha t := by
 have ho := ownAt_ext he hH;exact ⟨fun i => by rw [he]; exact h.env i,fun i => by rw [he,ho,hH]; exact h.oke i,h.heap,by rw [ho]; exact h.own,by rw [ho,hH]; exact h.box,by rw [ho]; exact h.inj,by rw [ho,hH]; exact h.bx,by rw [hH]; exact h.bi⟩
theorem hasOwn_at {i : Nat} (h : hasOwn (get s.env i) = false) : ownAt s (.s i) = none /\ ∀ j,ownAt s (.sc i j) = none := by
 have hl : ∀ (cs : List AV),hasOwnL cs = false -> ∀ (j : Nat) (k : Nat) (xs : List AV),cs[j]? ≠ some (.own k xs) := by
  intro cs
  induction cs with
  | nil => intro _ j k xs e; simp at e
  | cons x r ih =>
    intro h j k xs e;cases j with
    | zero => simp at e; subst e; simp [hasOwnL] at h
    | succ j =>
      simp at e;refine ih ?_ j k xs e;cases x <;> simp [hasOwnL] at h <;> exact h
 refine ⟨?_,fun j => ?_⟩
 ·cases e : ownAt s (.s i) with
  | none => rfl
  | some y =>
    have e' := ownAt_iff.1 (show ownAt s (.s i) = some (y.1,y.2) from e);simp only [at_,Option.some.injEq] at e';rw [e'] at h;simp [hasOwn] at h
 ·cases e : ownAt s (.sc i j) with
  | none => rfl
  | some y =>
    have e' := ownAt_iff.1 (show ownAt s (.sc i j) = some (y.1,y.2) from e);simp only [at_] at e';split at e'
    ·rename_i cs hcs;rw [hcs] at h;simp only [hasOwn] at h;exact absurd e' (hl cs h j _ _)
    ·cases e'
theorem Sim.keep (h : Sim X φ w N s Ha t) (he : ∀ i,get s'.env i = get s.env i \/ (get s'.env i = .any /\ hasOwn (get s.env i) = false)) (hH : s'.H = s.H) : Sim X φ w N s' Ha t := by
 have ho : ownAt s' = ownAt s := by
  funext p;cases p with
  | s i =>
    rcases he i with e | ⟨e1,e2⟩
    ·unfold ownAt; simp only [at_,e]
    ·rw [(hasOwn_at e2).1]; unfold ownAt; simp only [at_,e1]
  | sc i j =>
    rcases he i with e | ⟨e1,e2⟩
    ·unfold ownAt; simp only [at_,e]
    ·rw [(hasOwn_at e2).2 j]; unfold ownAt; simp only [at_,e1]
  | c b j => unfold ownAt; simp only [at_,hH]
 refine ⟨fun i => ?_,fun i => ?_,h.heap,by rw [ho]; exact h.own,by rw [ho,hH]; exact h.box,by rw [ho]; exact h.inj,by rw [ho,hH]; exact h.bx,by rw [hH]; exact h.bi⟩
 ·rcases he i with e | ⟨e1,e2⟩
  ·rw [e]; exact h.env i
  ·rw [e1]; exact .any _ _
 ·rcases he i with e | ⟨e1,e2⟩
  ·rw [e,ho,hH]; exact h.oke i
  ·rw [e1]; trivial
mutual
theorem ok_trim {o o' : Rt -> Option (Nat × List AV)} {n : Nat} (ho : ∀ p,(∀ j,p ≠ .c n j) -> o' p = o p) : ∀ x,okV o (n + 1) x -> noPtr n x = true -> okV o' n x
 | .bor k p off len,h,hp => by
   simp only [okV] at h ⊢;rw [ho p]
   ·exact h
   ·rintro j rfl; simp [noPtr] at hp
 | .pto k p i off,h,hp => by
   simp only [okV] at h ⊢;rw [ho p]
   ·exact h
   ·rintro j rfl; simp [noPtr] at hp
 | .ptr b off,h,hp => by simp only [okV] at h ⊢; simp [noPtr] at hp; omega
 | .agg cs,h,hp => by simp only [okV,noPtr] at h hp ⊢; exact okL_trim ho cs h hp
 | .tup cs,h,hp => by simp only [okV,noPtr] at h hp ⊢; exact okL_trim ho cs h hp
 | .func f a b,h,hp => by simp only [okV,noPtr,Bool.and_eq_true] at h hp ⊢; exact ⟨okL_trim ho a h.1 hp.1,okL_trim ho b h.2 hp.2⟩
 | .any,_,_ => trivial
 | .undef,_,_ => trivial
 | .nilp,_,_ => trivial
 | .nilf,_,_ => trivial
 | .nils,_,_ => trivial
 | .int _ _,_,_ => trivial
 | .bool _,_,_ => trivial
 | .str _,_,_ => trivial
 | .list _ _,_,_ => trivial
 | .fptr _,_,_ => trivial
 | .own _ _,_,_ => trivial
 | .sl _ b _ _,h,hp => by simp only [okV] at h ⊢; simp [noPtr] at hp; omega
theorem okL_trim {o o' : Rt -> Option (Nat × List AV)} {n : Nat} (ho : ∀ p,(∀ j,p ≠ .c n j) -> o' p = o p) : ∀ cs,okL o (n + 1) cs -> noPtrL n cs = true -> okL o' n cs
 | [],_,_ => trivial
 | x :: r,h,hp => by simp only [okL,noPtrL,Bool.and_eq_true] at h hp ⊢; exact ⟨ok_trim ho x h.1 hp.1,okL_trim ho r h.2 hp.2⟩
end
theorem noPtrE_get {n : Nat} : ∀ {e : Env},noPtrE n e = true -> ∀ i,noPtr n (get e i) = true
 | [],_,i => rfl
 | (j,v) :: r,h,i => by
   simp only [noPtrE,Bool.and_eq_true] at h;simp only [Am.get];split
   ·exact h.1
   ·exact noPtrE_get h.2 i
theorem noPtrH_get {n : Nat} : ∀ {H : Heap},noPtrH n H = true -> ∀ b cs,blk H b = some cs -> noPtrL n cs = true
 | [],_,b,cs,hb => by simp [blk] at hb
 | none :: r,h,b,cs,hb => by
   simp only [noPtrH] at h;cases b with
   | zero => simp [blk] at hb
   | succ b => exact noPtrH_get h b cs (by simpa [blk] using hb)
 | some ds :: r,h,b,cs,hb => by
   simp only [noPtrH,Bool.and_eq_true] at h;cases b with
   | zero => simp [blk] at hb; subst hb; exact h.1
   | succ b => exact noPtrH_get h.2 b cs (by simpa [blk] using hb)
theorem noPtrL_get {n : Nat} : ∀ {cs : List AV},noPtrL n cs = true -> ∀ (j : Nat) (c : AV),cs[j]? = some c -> noPtr n c = true
 | [],_,j,c,h => by simp at h
 | x :: r,hp,j,c,h => by
   simp only [noPtrL,Bool.and_eq_true] at hp;cases j with
   | zero => simp at h; subst h; exact hp.1
   | succ j => exact noPtrL_get hp.2 j c (by simpa using h)
theorem blk_take {H : Heap} {n b : Nat} : blk (H.take n) b = if b < n then blk H b else none := by
 unfold blk;rw [List.getElem?_take];by_cases h : b < n <;> simp [h]
theorem Sim.trim1 {env : Env} {H : Heap} {n : Nat} (h : Sim X φ w N ⟨env,H⟩ Ha t) (hl : H.length = n + 1) (he : noPtrE n env = true) (hH : noPtrH n (H.take n) = true) : Sim X φ w N ⟨env,H.take n⟩ Ha t := by
 have ho : ∀ p,(∀ j,p ≠ .c n j) -> ownAt ⟨env,H.take n⟩ p = ownAt ⟨env,H⟩ p := by
  intro p hp;cases p with
  | s i => rfl
  | sc i j => rfl
  | c b j =>
    unfold ownAt;simp only [at_,blk_take];by_cases hb : b < n
    ·rw [if_pos hb]
    ·rw [if_neg hb]
     have : blk H b = none := by
      cases e : blk H b with
      | none => rfl
      | some cs =>
        have := blk_lt e;simp only [hl] at this;exact absurd (by rw [show b = n by omega]) (hp j)
     rw [this]
 have hs : ∀ {p},(ownAt ⟨env,H.take n⟩ p).isSome -> (ownAt ⟨env,H⟩ p).isSome := by
  intro p hp;by_cases hc : ∀ j,p ≠ .c n j
  ·rwa [ho p hc] at hp
  ·exfalso;apply hc;rintro j rfl;unfold ownAt at hp;simp [at_,blk_take] at hp
 have hlen : (H.take n).length = n := by simp; omega
 have hb1 : ∀ {b},(blk (H.take n) b).isSome -> (blk H b).isSome := by
  intro b hb;rw [blk_take] at hb;split at hb
  ·exact hb
  ·cases hb
 refine ⟨h.env,fun i => ?_,h.heap,fun p k xs e => ?_,fun b cs e => ?_,fun p q m e1 e2 => h.inj p q m (hs e1) (hs e2),fun b p e1 e2 => h.bx b p (hb1 e1) (hs e2),fun b c e1 e2 => h.bi b c (hb1 e1) (hb1 e2)⟩
 ·have := h.oke i;simp only [hl] at this;simp only [hlen];exact ok_trim ho _ this (noPtrE_get he i)
 ·refine h.own p k xs ?_;by_cases hc : ∀ j,p ≠ .c n j
  ·rwa [ho p hc] at e
  ·exfalso;apply hc;rintro j rfl;unfold ownAt at e;simp [at_,blk_take] at e
 ·simp only [blk_take] at e;split at e
  ·obtain ⟨as,g1,g2,g3⟩ := h.box b cs e;refine ⟨as,g1,g2,fun j c hc => ?_⟩;obtain ⟨k1,k2⟩ := g3 j c hc;refine ⟨?_,k2⟩;simp only [hl] at k1;simp only [hlen];refine ok_trim ho _ k1 (noPtrL_get (noPtrH_get hH b cs ?_) j c hc);rw [blk_take,if_pos ‹_›];exact e
  ·cases e
theorem Sim.trim {env : Env} {base0 : Nat} : ∀ (n : Nat) {H : Heap},Sim X φ w N ⟨env,H⟩ Ha t -> Sim X φ w N ⟨env,trim base0 env n H⟩ Ha t
 | 0,H,h => h
 | n + 1,H,h => by
   simp only [Go.Bm.trim];split
   ·rename_i hc;exact Sim.trim n (h.trim1 hc.2.1 hc.2.2.1 hc.2.2.2)
   ·exact h
end
end Go.Bm

/- From the hand to a slot. -/
namespace Go.Bm
open Go.Am

mutual
theorem tr_mv {N N' : Names} {m : Rt -> Rt} {g : AV -> AV} (hβ : N'.β = N.β) (hg : ∀ k p a l,g (.bor k p a l) = .bor k (m p) a l /\ g (.pto k p a l) = .pto k (m p) a l) :
  ∀ x,(∀ p ∈ borOf x,N'.ν (m p) = N.ν p) -> trV N' (mapB g x) = trV N x
 | .bor k p a l,h => by simp only [mapB,(hg k p a l).1,trV]; rw [h p (by simp [borOf])]
 | .pto k p a l,h => by simp only [mapB,(hg k p a l).2,trV]; rw [h p (by simp [borOf])]
 | .ptr b off,_ => by simp only [mapB,trV,hβ]
 | .agg cs,h => by simp only [mapB,trV]; rw [tr_mvL hβ hg cs (fun p hp => h p (by simpa [borOf] using hp))]
 | .tup cs,h => by simp only [mapB,trV]; rw [tr_mvL hβ hg cs (fun p hp => h p (by simpa [borOf] using hp))]
 | .func f a b,h => by
   simp only [mapB,trV];rw [tr_mvL hβ hg a (fun p hp => h p (by simp only [borOf,List.mem_append]; exact .inl hp)),tr_mvL hβ hg b (fun p hp => h p (by simp only [borOf,List.mem_append]; exact .inr hp))]
 | .any,_ => rfl
 | .undef,_ => rfl
 | .nilp,_ => rfl
 | .nilf,_ => rfl
 | .nils,_ => rfl
 | .int _ _,_ => rfl
 | .bool _,_ => rfl
 | .str _,_ => rfl
 | .list _ _,_ => rfl
 | .fptr _,_ => rfl
 | .own _ _,_ => rfl
 | .sl _ b _ _,_ => by simp only [mapB,trV,hβ]
theorem tr_mvL {N N' : Names} {m : Rt -> Rt} {g : AV -> AV} (hβ : N'.β = N.β) (hg : ∀ k p a l,g (.bor k p a l) = .bor k (m p) a l /\ g (.pto k p a l) = .pto k (m p) a l) :
  ∀ cs,(∀ p ∈ borL cs,N'.ν (m p) = N.ν p) -> trL N' (mapBL g cs) = trL N cs
 | [],_ => rfl
 | x :: r,h => by
   simp only [mapBL,trL];rw [tr_mv hβ hg x (fun p hp => h p (by simp only [borL,List.mem_append]; exact .inl hp)),tr_mvL hβ hg r (fun p hp => h p (by simp only [borL,List.mem_append]; exact .inr hp))]
end
mutual
theorem ok_mv {o o' : Rt -> Option (Nat × List AV)} {nb : Nat} {m : Rt -> Rt} {g : AV -> AV} (hg : ∀ k p a l,g (.bor k p a l) = .bor k (m p) a l /\ g (.pto k p a l) = .pto k (m p) a l) :
  ∀ x,(∀ p ∈ borOf x,o' (m p) = o p) -> okV o nb x -> okV o' nb (mapB g x)
 | .bor k p a l,h,hk => by simp only [mapB,(hg k p a l).1,okV] at hk ⊢; rw [h p (by simp [borOf])]; exact hk
 | .pto k p a l,h,hk => by simp only [mapB,(hg k p a l).2,okV] at hk ⊢; rw [h p (by simp [borOf])]; exact hk
 | .ptr b off,_,hk => hk
 | .agg cs,h,hk => by simp only [mapB,okV] at hk ⊢; exact ok_mvL hg cs (fun p hp => h p (by simpa [borOf] using hp)) hk
 | .tup cs,h,hk => by simp only [mapB,okV] at hk ⊢; exact ok_mvL hg cs (fun p hp => h p (by simpa [borOf] using hp)) hk
 | .func f a b,h,hk => by
   simp only [mapB,okV] at hk ⊢;exact ⟨ok_mvL hg a (fun p hp => h p (by simp only [borOf,List.mem_append]; exact .inl hp)) hk.1,ok_mvL hg b (fun p hp => h p (by simp only [borOf,List.mem_append]; exact .inr hp)) hk.2⟩
 | .any,_,_ => trivial
 | .undef,_,_ => trivial
 | .nilp,_,_ => trivial
 | .nilf,_,_ => trivial
 | .nils,_,_ => trivial
 | .int _ _,_,_ => trivial
 | .bool _,_,_ => trivial
 | .str _,_,_ => trivial
 | .list _ _,_,_ => trivial
 | .fptr _,_,_ => trivial
 | .own _ _,_,_ => trivial
 | .sl _ _ _ _,_,h => h
theorem ok_mvL {o o' : Rt -> Option (Nat × List AV)} {nb : Nat} {m : Rt -> Rt} {g : AV -> AV} (hg : ∀ k p a l,g (.bor k p a l) = .bor k (m p) a l /\ g (.pto k p a l) = .pto k (m p) a l) :
  ∀ cs,(∀ p ∈ borL cs,o' (m p) = o p) -> okL o nb cs -> okL o' nb (mapBL g cs)
 | [],_,_ => trivial
 | x :: r,h,hk => by
   simp only [mapBL,okL] at hk ⊢;exact ⟨ok_mv hg x (fun p hp => h p (by simp only [borL,List.mem_append]; exact .inl hp)) hk.1,ok_mvL hg r (fun p hp => h p (by simp only [borL,List.mem_append]; exact .inr hp)) hk.2⟩
end
theorem borL_mem {cs : List AV} {j : Nat} {c : AV} (h : cs[j]? = some c) {p : Rt} (hp : p ∈ borOf c) : p ∈ borL cs := by
 induction cs generalizing j with
 | nil => simp at h
 | cons x r ih =>
   simp only [borL,List.mem_append];cases j with
   | zero => simp at h; subst h; exact .inl hp
   | succ j => exact .inr (ih (by simpa using h))
theorem trP_mv {N N' : Names} {m : Rt -> Rt} {g : AV -> AV} (hβ : N'.β = N.β) (hg : ∀ k p a l,g (.bor k p a l) = .bor k (m p) a l /\ g (.pto k p a l) = .pto k (m p) a l) {r r' : Rt} {x : AV} (hr : ∀ k xs,x = .own k xs -> N'.ν r' = N.ν r) (hx : ∀ p ∈ borOf x,N'.ν (m p) = N.ν p) :
  trP N' r' (mapB g x) = trP N r x := by
 have hL : LeafG g := fun k p a l => by rw [(hg k p a l).1,(hg k p a l).2]; exact ⟨⟨(fun cs e => by cases e),(fun k xs e => by cases e)⟩,⟨(fun cs e => by cases e),(fun k xs e => by cases e)⟩⟩
 by_cases ho : ∃ k xs,x = .own k xs
 ·obtain ⟨k,xs,rfl⟩ := ho;simp only [mapB,trP,ownT,hr k xs rfl]
 ·obtain ⟨e1,e2⟩ := trP_map (N := N) (N' := N') hL (r := r) (x := x) (fun k xs e => ho ⟨k,xs,e⟩);obtain ⟨_,e3⟩ := trP_map (N := N) (N' := N') hL (r := r') (x := x) (fun k xs e => ho ⟨k,xs,e⟩);rw [e1,e3,tr_mv hβ hg x hx]
theorem trS_mv {N N' : Names} {m : Rt -> Rt} {g : AV -> AV} (hβ : N'.β = N.β) (hg : ∀ k p a l,g (.bor k p a l) = .bor k (m p) a l /\ g (.pto k p a l) = .pto k (m p) a l) {i i' : Nat} {x : AV} (h1 : N'.ν (.s i') = N.ν (.s i)) (h2 : ∀ j,N'.ν (.sc i' j) = N.ν (.sc i j)) (hx : ∀ p ∈ borOf x,N'.ν (m p) = N.ν p) :
  trS N' i' (mapB g x) = trS N i x := by
 have hL : LeafG g := fun k p a l => by rw [(hg k p a l).1,(hg k p a l).2]; exact ⟨⟨(fun cs e => by cases e),(fun k xs e => by cases e)⟩,⟨(fun cs e => by cases e),(fun k xs e => by cases e)⟩⟩
 by_cases ha : ∃ cs,x = .agg cs
 ·obtain ⟨cs,rfl⟩ := ha;simp only [mapB,trS];congr 1;apply List.ext_getElem?;intro j;rw [trC_get,trC_get,mapBL_get];simp only [Nat.zero_add];cases hc : cs[j]? with
  | none => rfl
  | some c =>
    simp only [Option.map_some];rw [trP_mv hβ hg (r := .sc i j) (fun _ _ _ => h2 j) (fun p hp => hx p (by simp only [borOf]; exact borL_mem hc hp))]
 ·have hn : NAgg x := fun cs e => ha ⟨cs,e⟩;have hn' : NAgg (mapB g x) := mapB_nagg hL hn
  have e1 : trS N' i' (mapB g x) = trP N' (.s i') (mapB g x) := by
   generalize mapB g x = y at hn';cases y <;> first | rfl | exact absurd rfl (hn' _)
  have e2 : trS N i x = trP N (.s i) x := by cases x <;> first | rfl | exact absurd rfl (hn _)
  rw [e1,e2];exact trP_mv hβ hg (fun _ _ _ => h1) hx
section
variable {X : Nat -> Prop} {φ : Phi} {w : World} {N : Names} {s s' : St} {Ha : Heap} {t t' : Nat -> Value} {B : Nat -> Nat} {base : Nat}
theorem mvB_spec (i d : Nat) : ∀ k p a l,mvB i d (.bor k p a l) = .bor k (mvRt i d p) a l /\ mvB i d (.pto k p a l) = .pto k (mvRt i d p) a l := fun _ _ _ _ => ⟨rfl,rfl⟩
theorem mvRt_back {i d : Nat} {p : Rt} (h : inSlot d p = false) : mvRt d i (mvRt i d p) = p := by
 cases p with
 | s j =>
   simp only [inSlot,decide_eq_false_iff_not] at h;simp only [mvRt];by_cases e : j = i
   ·subst e; simp [mvRt]
   ·simp [e,mvRt,h]
 | sc j l =>
   simp only [inSlot,decide_eq_false_iff_not] at h;simp only [mvRt];by_cases e : j = i
   ·subst e; simp [mvRt]
   ·simp [e,mvRt,h]
 | c b j => rfl
theorem mvRt_fwd {i d : Nat} {q : Rt} (h : inSlot i q = false) : mvRt i d (mvRt d i q) = q := mvRt_back h
theorem Sim.hand {i d : Nat} (h : Sim X φ w N s Ha t) (hid : i ≠ d) (hC : ∀ r x,at_ s r = some x -> ∀ p ∈ borOf x,inSlot d p = false)
  (he : ∀ j,get s'.env j = if j = d then mapB (mvB i d) (get s.env i) else if j = i then .any else mapB (mvB i d) (get s.env j)) (hH : s'.H = mapH (mvB i d) s.H) (ht : ∀ j,j ≠ i -> t' j = if j = d then t i else t j) :
  ∃ N',N'.β = N.β /\ Sim X φ w N' s' Ha t' := by
 have hg := mvB_spec i d;have hL := leafMv i d
 have atq : ∀ q,inSlot i q = false -> at_ s' q = (at_ s (mvRt d i q)).map (mapB (mvB i d)) := by
  intro q hq;rw [<- at_mapSt hL];cases q with
  | s j =>
    simp only [inSlot,decide_eq_false_iff_not] at hq;simp only [at_,he,mvRt,mapSt];by_cases e : j = d
    ·simp [e,get_mapE,at_]
    ·simp [e,hq,get_mapE,at_]
  | sc j l =>
    simp only [inSlot,decide_eq_false_iff_not] at hq;simp only [at_,he,mvRt,mapSt];by_cases e : j = d
    ·simp [e,get_mapE,at_]
    ·simp [e,hq,get_mapE,at_]
  | c b j => simp only [at_,hH,mvRt,mapSt]
 have atn : ∀ q,inSlot i q = true -> ownAt s' q = none := by
  intro q hq;cases q with
  | s j => simp only [inSlot,decide_eq_true_eq] at hq; subst hq; unfold ownAt; simp [at_,he,hid]
  | sc j l => simp only [inSlot,decide_eq_true_eq] at hq; subst hq; unfold ownAt; simp [at_,he,hid]
  | c b j => simp [inSlot] at hq
 have own : ∀ q,inSlot i q = false -> ownAt s' q = ownAt s (mvRt d i q) := by
  intro q hq;rw [<- ownAt_mapSt hL s (mvRt d i q)];exact ownAt_of_at' (by rw [atq q hq,at_mapSt hL])
 have own2 : ∀ p,inSlot d p = false -> ownAt s' (mvRt i d p) = ownAt s p := by
  intro p hp
  have hi : inSlot i (mvRt i d p) = false := by
   cases p with
   | s j => simp only [mvRt]; split <;> simp_all [inSlot]; exact fun e => hid e.symm
   | sc j l => simp only [mvRt]; split <;> simp_all [inSlot]; exact fun e => hid e.symm
   | c b j => rfl
  rw [own _ hi,mvRt_back hp]
 have hlen : s'.H.length = s.H.length := by rw [hH,mapH_length]
 obtain ⟨N',hβ,hN⟩ : ∃ N' : Names,N'.β = N.β /\ ∀ q,N'.ν q = N.ν (mvRt d i q) := ⟨⟨N.β,fun q => N.ν (mvRt d i q)⟩,rfl,fun _ => rfl⟩;have hν : ∀ p,inSlot d p = false -> N'.ν (mvRt i d p) = N.ν p := fun p hp => by rw [hN,mvRt_back hp]
 refine ⟨N',hβ,⟨fun j => ?_,fun j => ?_,h.heap,fun p k xs e => ?_,fun b cs e => ?_,fun p q n e1 e2 e3 e4 => ?_,fun b p e1 e2 e3 => ?_,fun b c e1 e2 e3 => ?_⟩⟩
 ·rw [he];by_cases hjd : j = d
  ·subst hjd;rw [if_pos rfl,ht j (Ne.symm hid),if_pos rfl];rw [trS_mv (N := N) (i := i) hβ hg (by simp [hN,mvRt]) (fun l => by simp [hN,mvRt]) (fun p hp => hν p (hC (.s i) _ rfl p hp))];exact h.env i
  ·rw [if_neg hjd];by_cases hji : j = i
   ·rw [if_pos hji]; exact .any _ _
   ·rw [if_neg hji,ht j hji,if_neg hjd];rw [trS_mv (N := N) (i := j) hβ hg (by simp [hN,mvRt,hjd]) (fun l => by simp [hN,mvRt,hjd]) (fun p hp => hν p (hC (.s j) _ rfl p hp))];exact h.env j
 ·rw [he,hlen];by_cases hjd : j = d
  ·rw [if_pos hjd];exact ok_mv hg _ (fun p hp => own2 p (hC (.s i) _ rfl p hp)) (h.oke i)
  ·rw [if_neg hjd];by_cases hji : j = i
   ·rw [if_pos hji]; trivial
   ·rw [if_neg hji];exact ok_mv hg _ (fun p hp => own2 p (hC (.s j) _ rfl p hp)) (h.oke j)
 ·cases hq : inSlot i p with
  | true => rw [atn p hq] at e; cases e
  | false => rw [own p hq] at e; rw [hN]; exact h.own _ k xs e
 ·rw [hH,blk_mapH] at e;cases hb : blk s.H b with
  | none => rw [hb] at e; cases e
  | some ds =>
    rw [hb] at e;simp at e;subst e;obtain ⟨as,g1,g2,g3⟩ := h.box b ds hb;refine ⟨as,by rw [hβ]; exact g1,by rw [mapBL_length]; exact g2,fun j c hc => ?_⟩;rw [mapBL_get] at hc;cases hd : ds[j]? with
    | none => rw [hd] at hc; cases hc
    | some c0 =>
      rw [hd] at hc;simp at hc;subst hc;have hcc := fun p hp => hC (.c b j) c0 (by rw [at_c hb]; exact hd) p hp;obtain ⟨k1,a,k2,k3⟩ := g3 j c0 hd;refine ⟨by rw [hlen]; exact ok_mv hg _ (fun p hp => own2 p (hcc p hp)) k1,a,k2,?_⟩;rw [trP_mv (N := N) (r := .c b j) hβ hg (fun _ _ _ => by rw [hN]; rfl) (fun p hp => hν p (hcc p hp))];exact k3
 ·have hp : inSlot i p = false := by
   cases hq : inSlot i p with
   | true => rw [atn p hq] at e1; cases e1
   | false => rfl
  have hq : inSlot i q = false := by
   cases hq : inSlot i q with
   | true => rw [atn q hq] at e2; cases e2
   | false => rfl
  rw [own p hp] at e1;rw [own q hq] at e2;rw [hN] at e3 e4;have := h.inj _ _ n e1 e2 e3 e4;rw [<- mvRt_fwd (d := d) hp,this,mvRt_fwd hq]
 ·have hp : inSlot i p = false := by
   cases hq : inSlot i p with
   | true => rw [atn p hq] at e2; cases e2
   | false => rfl
  rw [own p hp] at e2;rw [hN,hβ] at e3;refine h.bx b _ ?_ e2 e3;rw [hH,blk_mapH] at e1;cases hb : blk s.H b with
  | none => rw [hb] at e1; cases e1
  | some _ => rfl
 ·have sb : ∀ {b},(blk s'.H b).isSome -> (blk s.H b).isSome := by
   intro b hb;rw [hH,blk_mapH] at hb;cases e : blk s.H b with
   | none => rw [e] at hb; cases hb
   | some _ => rfl
  rw [hβ] at e3;exact h.bi b c (sb e1) (sb e2) e3
end
end Go.Bm

/- A value goes to its slot. -/
namespace Go.Bm
open Go.Am
mutual
theorem ok_bor {o : Rt -> Option (Nat × List AV)} {nb : Nat} : ∀ x,okV o nb x -> ∀ p ∈ borOf x,(o p).isSome
 | .bor k q a l,h,p,hp => by simp only [borOf,List.mem_singleton] at hp; subst hp; simp only [okV] at h; obtain ⟨xs,e,_⟩ := h; rw [e]; rfl
 | .pto k q a l,h,p,hp => by simp only [borOf,List.mem_singleton] at hp; subst hp; simp only [okV] at h; obtain ⟨xs,e,_⟩ := h; rw [e]; rfl
 | .agg cs,h,p,hp => by simp only [okV,borOf] at h hp; exact ok_borL cs h p hp
 | .tup cs,h,p,hp => by simp only [okV,borOf] at h hp; exact ok_borL cs h p hp
 | .func f a b,h,p,hp => by
   simp only [okV,borOf,List.mem_append] at h hp;rcases hp with hp | hp
   ·exact ok_borL a h.1 p hp
   ·exact ok_borL b h.2 p hp
 | .any,_,p,hp => by simp [borOf] at hp
 | .undef,_,p,hp => by simp [borOf] at hp
 | .nilp,_,p,hp => by simp [borOf] at hp
 | .nilf,_,p,hp => by simp [borOf] at hp
 | .nils,_,p,hp => by simp [borOf] at hp
 | .int _ _,_,p,hp => by simp [borOf] at hp
 | .bool _,_,p,hp => by simp [borOf] at hp
 | .str _,_,p,hp => by simp [borOf] at hp
 | .list _ _,_,p,hp => by simp [borOf] at hp
 | .fptr _,_,p,hp => by simp [borOf] at hp
 | .own _ _,_,p,hp => by simp [borOf] at hp
 | .ptr _ _,_,p,hp => by simp [borOf] at hp
 | .sl _ _ _ _,_,p,hp => by simp [borOf] at hp
theorem ok_borL {o : Rt -> Option (Nat × List AV)} {nb : Nat} : ∀ cs,okL o nb cs -> ∀ p ∈ borL cs,(o p).isSome
 | [],_,p,hp => by simp [borL] at hp
 | x :: r,h,p,hp => by
   simp only [okL,borL,List.mem_append] at h hp;rcases hp with hp | hp
   ·exact ok_bor x h.1 p hp
   ·exact ok_borL r h.2 p hp
end
mutual
theorem mapB_id {g : AV -> AV} {m : Rt -> Rt} (hg : ∀ k p a l,g (.bor k p a l) = .bor k (m p) a l /\ g (.pto k p a l) = .pto k (m p) a l) : ∀ x,(∀ p ∈ borOf x,m p = p) -> mapB g x = x
 | .bor k p a l,h => by simp only [mapB,(hg k p a l).1]; rw [h p (by simp [borOf])]
 | .pto k p a l,h => by simp only [mapB,(hg k p a l).2]; rw [h p (by simp [borOf])]
 | .agg cs,h => by simp only [mapB]; rw [mapBL_id hg cs (fun p hp => h p (by simpa [borOf] using hp))]
 | .tup cs,h => by simp only [mapB]; rw [mapBL_id hg cs (fun p hp => h p (by simpa [borOf] using hp))]
 | .func f a b,h => by
   simp only [mapB];rw [mapBL_id hg a (fun p hp => h p (by simp only [borOf,List.mem_append]; exact .inl hp)),mapBL_id hg b (fun p hp => h p (by simp only [borOf,List.mem_append]; exact .inr hp))]
 | .any,_ => rfl
 | .undef,_ => rfl
 | .nilp,_ => rfl
 | .nilf,_ => rfl
 | .nils,_ => rfl
 | .int _ _,_ => rfl
 | .bool _,_ => rfl
 | .str _,_ => rfl
 | .list _ _,_ => rfl
 | .fptr _,_ => rfl
 | .own _ _,_ => rfl
 | .ptr _ _,_ => rfl
 | .sl _ _ _ _,_ => rfl
theorem mapBL_id {g : AV -> AV} {m : Rt -> Rt} (hg : ∀ k p a l,g (.bor k p a l) = .bor k (m p) a l /\ g (.pto k p a l) = .pto k (m p) a l) : ∀ cs,(∀ p ∈ borL cs,m p = p) -> mapBL g cs = cs
 | [],_ => rfl
 | x :: r,h => by
   simp only [mapBL];rw [mapB_id hg x (fun p hp => h p (by simp only [borL,List.mem_append]; exact .inl hp)),mapBL_id hg r (fun p hp => h p (by simp only [borL,List.mem_append]; exact .inr hp))]
end
theorem mapH_id {g : AV -> AV} {m : Rt -> Rt} (hg : ∀ k p a l,g (.bor k p a l) = .bor k (m p) a l /\ g (.pto k p a l) = .pto k (m p) a l) : ∀ H : Heap,(∀ b cs,blk H b = some cs -> ∀ p ∈ borL cs,m p = p) -> mapH g H = H
 | [],_ => rfl
 | none :: r,h => by simp only [mapH]; rw [mapH_id hg r (fun b cs hb => h (b + 1) cs (by simpa [blk] using hb))]
 | some cs :: r,h => by simp only [mapH]; rw [mapH_id hg r (fun b ds hb => h (b + 1) ds (by simpa [blk] using hb)),mapBL_id hg cs (h 0 cs rfl)]
theorem anyR_false {f : Rt -> Bool} : ∀ {l : List Rt},anyR f l = false -> ∀ p ∈ l,f p = false
 | [],_,p,hp => by simp at hp
 | q :: r,h,p,hp => by
   simp only [anyR,Bool.or_eq_false_iff] at h;rcases List.mem_cons.1 hp with e | e
   ·subst e; exact h.1
   ·exact anyR_false h.2 p e
theorem anyE_false {f : Rt -> Bool} : ∀ {e : Env},anyE f e = false -> ∀ i,∀ p ∈ borOf (get e i),f p = false
 | [],_,i,p,hp => by simp [Am.get,borOf] at hp
 | (j,v) :: r,h,i,p,hp => by
   simp only [anyE,Bool.or_eq_false_iff] at h;simp only [Am.get] at hp;split at hp
   ·exact anyR_false h.1 p hp
   ·exact anyE_false h.2 i p hp
theorem anyH_false {f : Rt -> Bool} : ∀ {H : Heap},anyH f H = false -> ∀ b cs,blk H b = some cs -> ∀ p ∈ borL cs,f p = false
 | [],_,b,cs,hb,p,hp => by simp [blk] at hb
 | none :: r,h,b,cs,hb,p,hp => by
   simp only [anyH] at h;cases b with
   | zero => simp [blk] at hb
   | succ b => exact anyH_false h b cs (by simpa [blk] using hb) p hp
 | some ds :: r,h,b,cs,hb,p,hp => by
   simp only [anyH,Bool.or_eq_false_iff] at h;cases b with
   | zero => simp [blk] at hb; subst hb; exact anyR_false h.1 p hp
   | succ b => exact anyH_false h.2 b cs (by simpa [blk] using hb) p hp
theorem borL_ex {cs : List AV} {p : Rt} (hp : p ∈ borL cs) : ∃ (j : Nat) (c : AV),cs[j]? = some c /\ p ∈ borOf c := by
 induction cs with
 | nil => simp [borL] at hp
 | cons x r ih =>
   simp only [borL,List.mem_append] at hp;rcases hp with hp | hp
   ·exact ⟨0,x,rfl,hp⟩
   ·obtain ⟨j,c,h1,h2⟩ := ih hp;exact ⟨j + 1,c,by simpa using h1,h2⟩
theorem get_fresh : ∀ (e : Env) (l : List Nat),∃ i,Am.get e i = .any /\ i ∉ l := by
 have key : ∀ e : Env,∃ n,∀ i,n <= i -> Am.get e i = .any := by
  intro e
  induction e with
  | nil => exact ⟨0,fun i _ => rfl⟩
  | cons p r ih =>
    obtain ⟨j,v⟩ := p;obtain ⟨n,hn⟩ := ih;refine ⟨max n (j + 1),fun i hi => ?_⟩;simp only [Am.get];rw [if_neg (by omega)];exact hn i (by omega)
 intro e l;obtain ⟨n,hn⟩ := key e
 have : ∃ m,∀ x ∈ l,x < m := by
  induction l with
  | nil => exact ⟨0,fun x hx => by simp at hx⟩
  | cons y r ih =>
    obtain ⟨m,hm⟩ := ih;refine ⟨max m (y + 1),fun x hx => ?_⟩;rcases List.mem_cons.1 hx with e | e
    ·omega
    ·have := hm x e; omega
 obtain ⟨m,hm⟩ := this;exact ⟨max n m,hn _ (by omega),fun h => by have := hm _ h; omega⟩
section
variable {X : Nat -> Prop} {φ : Phi} {w : World} {s s' : St} {t t' : Nat -> Value} {B : Nat -> Nat} {base : Nat} {v : AV} {v' : Value}
structure PutOK (X : Nat -> Prop) (φ : Phi) (w : World) (B : Nat -> Nat) (base : Nat) (s : St) (v : AV) (t : Nat -> Value) (v' : Value) : Prop where
 st : SB X φ w B base s t
 ok : okV (ownAt s) s.H.length v
 put : ∀ i,get s.env i = .any -> SB X φ w B base ⟨put s.env i v,s.H⟩ (fun j => if j = i then v' else t j)
theorem at_bor {r : Rt} {x : AV} (h : SB X φ w B base s t) (hx : at_ s r = some x) : ∀ p ∈ borOf x,(ownAt s p).isSome := by
 obtain ⟨N,Ha,h,_⟩ := h;exact ok_bor x (h.ok_at hx)
theorem blk_bor {b : Nat} {cs : List AV} (h : SB X φ w B base s t) (hb : blk s.H b = some cs) : ∀ p ∈ borL cs,(ownAt s p).isSome := by
 intro p hp;obtain ⟨j,c,h1,h2⟩ := borL_ex hp;exact at_bor h (r := .c b j) (by rw [at_c hb]; exact h1) p h2
theorem mvRt_id {i d : Nat} {p : Rt} (h : inSlot i p = false) : mvRt i d p = p := by
 cases p with
 | s j => simp only [inSlot,decide_eq_false_iff_not] at h; simp [mvRt,h]
 | sc j l => simp only [inSlot,decide_eq_false_iff_not] at h; simp [mvRt,h]
 | c b j => rfl
theorem any_inSlot {i : Nat} {p : Rt} (hi : hasOwn (get s.env i) = false) (hp : (ownAt s p).isSome) : inSlot i p = false := by
 obtain ⟨h1,h2⟩ := hasOwn_at hi;cases p with
 | s j =>
   simp only [inSlot,decide_eq_false_iff_not];rintro rfl;rw [h1] at hp; cases hp
 | sc j l =>
   simp only [inSlot,decide_eq_false_iff_not];rintro rfl;rw [h2] at hp; cases hp
 | c b j => rfl
theorem SB.hand {i d : Nat} (h : SB X φ w B base s t) (hid : i ≠ d) (hC : ∀ r x,at_ s r = some x -> ∀ p ∈ borOf x,inSlot d p = false)
  (he : ∀ j,get s'.env j = if j = d then mapB (mvB i d) (get s.env i) else if j = i then .any else mapB (mvB i d) (get s.env j)) (hH : s'.H = mapH (mvB i d) s.H) (ht : ∀ j,j ≠ i -> t' j = if j = d then t i else t j) : SB X φ w B base s' t' := by
 obtain ⟨N,Ha,h,hb,hl⟩ := h;obtain ⟨N',e,h'⟩ := h.hand hid hC he hH ht;exact ⟨N',Ha,h',fun b hlt => by rw [e]; exact hb b hlt,by rw [hH,mapH_length]; exact hl⟩
theorem put_ok (h : PutOK X φ w B base s v t v') {d : Nat} (hp : putB s d v = some s') (hd : d ≠ HAND) (ht : ∀ j,t' j = if j = d then v' else t j) : ∃ φ',SB X φ' w B base s' t' /\ Adv φ w φ' w := by
 unfold putB at hp;split at hp
 ·split at hp
  case h_2 => cases hp
  rename_i hany;split at hp
  ·cases hp
  rename_i ho;simp at hp;subst hp;obtain ⟨φ1,h1,a1⟩ := (h.put HAND hany).dropS d;refine ⟨φ1,h1.hand (i := HAND) (d := d) (Ne.symm hd) (fun r x hx p hp => any_inSlot (by simpa using ho) (at_bor h1 hx p hp)) (fun j => ?_) ?_ (fun j hj => ?_),a1⟩
  ·simp only [handTo,get_put,mapSt,get_mapE]
  ·simp only [handTo,mapSt]
  ·rw [ht,if_pos rfl,if_neg hj]
 ·rename_i hs;simp at hp;subst hp;obtain ⟨i,hi,hid⟩ := get_fresh s.env [d];have hid' : i ≠ d := fun e => hid (by simp [e]);have hio : hasOwn (get s.env i) = false := by rw [hi]; rfl
  have hsb := h.put i hi;have mvid : ∀ {p},(ownAt s p).isSome -> mvRt i d p = p := fun hp => mvRt_id (any_inSlot hio hp);refine ⟨φ,hsb.hand (i := i) (d := d) hid' (fun r x hx p hp => ?_) (fun j => ?_) ?_ (fun j hj => ?_),.refl _ _⟩
  ·simp only [slowP,Bool.and_eq_true,not_and,Bool.not_eq_true] at hs;cases hod : hasOwn (get s.env d) with
   | false =>
     refine any_inSlot (s := ⟨put s.env i v,s.H⟩) (i := d) ?_ (at_bor hsb hx p hp);simp only [get_put];rw [if_neg (Ne.symm hid')];exact hod
   | true =>
     have hn := hs hod;simp only [anyB,Bool.or_eq_false_iff] at hn;cases r with
     | s j =>
       simp only [at_,get_put,Option.some.injEq] at hx;subst hx;split at hp
       ·exact anyR_false hn.1 p hp
       ·exact anyE_false hn.2.1 j p hp
     | sc j l =>
       simp only [at_,get_put] at hx;split at hx
       ·rename_i cs hcs;split at hcs
        ·subst hcs;exact anyR_false hn.1 p (by simp only [borOf]; exact borL_mem hx hp)
        ·exact anyE_false hn.2.1 j p (by rw [hcs]; simp only [borOf]; exact borL_mem hx hp)
       ·cases hx
     | c b l =>
       simp only [at_] at hx;split at hx
       ·rename_i cs hcs;exact anyH_false hn.2.2 b cs hcs p (borL_mem hx hp)
       ·cases hx
  ·simp only [get_put];by_cases hjd : j = d
   ·rw [if_pos hjd,if_pos hjd,if_pos trivial,mapB_id (mvB_spec i d) v (fun p hp => mvid (ok_bor v h.ok p hp))]
   ·rw [if_neg hjd,if_neg hjd];by_cases hji : j = i
    ·rw [if_pos hji,hji]; exact hi
    ·rw [if_neg hji,if_neg hji,mapB_id (mvB_spec i d) _ (fun p hp => mvid (at_bor h.st (r := .s j) rfl p hp))]
  ·exact (mapH_id (mvB_spec i d) s.H (fun b cs hb p hp => mvid (blk_bor h.st hb p hp))).symm
  ·rw [ht,if_pos rfl,if_neg hj]
theorem putd_ok (h : PutOK X φ w B base s v t v') {d : Option Nat} (hp : putdB s d v = some s') (hd : d ≠ some HAND) (ht : ∀ j,t' j = if some j = d then v' else t j) : ∃ φ',SB X φ' w B base s' t' /\ Adv φ w φ' w := by
 cases d with
 | none =>
   simp [putdB] at hp;subst hp;refine ⟨φ,?_,.refl _ _⟩;obtain ⟨N,Ha,h1,hb⟩ := h.st;have : t' = t := by funext j; rw [ht,if_neg (by simp)]
   rw [this];exact ⟨N,Ha,h1,hb⟩
 | some d => exact put_ok h (by simpa [putdB] using hp) (fun e => hd (by rw [e])) (fun j => by rw [ht]; simp)
end
end Go.Bm

/- Operations that change nothing, in both machines. -/
namespace Go.Bm
open Go.Am

def isC0 : AV -> Bool
 | .bool _ | .int _ _ | .nils | .nilp | .nilf | .undef => true
 | _ => false
def isC0L : List AV -> Bool
 | [] => true
 | x :: r => isC0 x && isC0L r
def isC : AV -> Bool
 | .agg cs => isC0L cs
 | .func _ [] [] => true
 | x => isC0 x
theorem chkV0_c {v : Value} {x : AV} (h : chkV0 v x = true) : isC0 x = true := by
 unfold chkV0 at h;split at h <;> first | rfl | cases h
theorem chkVs_c : ∀ {vs : List Value} {xs : List AV},chkVs vs xs = true -> isC0L xs = true
 | [],[],_ => rfl
 | [],_ :: _,h => by simp [chkVs] at h
 | _ :: _,[],h => by simp [chkVs] at h
 | v :: r,x :: s,h => by
   simp only [chkVs,Bool.and_eq_true] at h;simp only [isC0L,Bool.and_eq_true];exact ⟨chkV0_c h.1,chkVs_c h.2⟩
theorem isC0_isC {x : AV} (h : isC0 x = true) : isC x = true := by cases x <;> first | (simp [isC0] at h; done) | rfl | exact h
theorem chkE_c {o : Operand} {a : AV} (h : chkE o (.k a) = true) : isC a = true := by
 unfold chkE at h;split at h
 ·rename_i hk; cases hk
 ·rename_i v x hk;cases hk;unfold chkV at h;split at h
  ·exact chkVs_c h
  ·exact isC0_isC (chkV0_c h)
 ·rename_i f g hk; cases hk; rfl
 ·rename_i hk; cases hk
 ·cases h
theorem tr_c0 (N : Names) {x : AV} (h : isC0 x = true) : trV N x = x := by cases x <;> first | rfl | simp [isC0] at h
theorem tr_c0L (N : Names) : ∀ {xs : List AV},isC0L xs = true -> trL N xs = xs
 | [],_ => rfl
 | x :: r,h => by
   simp only [isC0L,Bool.and_eq_true] at h;simp only [trL];rw [tr_c0 N h.1,tr_c0L N h.2]
theorem tr_c (N : Names) {x : AV} (h : isC x = true) : trV N x = x := by
 unfold isC at h;split at h
 ·simp only [trV]; rw [tr_c0L N h]
 ·rfl
 ·exact tr_c0 N h
theorem dn_c {x : AV} (h : isC (dnV x) = true) : (∃ k,x = .own k [] /\ dnV x = .nils) \/ (isC x = true /\ dnV x = x) := by
 unfold dnV at h ⊢;split
 ·exact .inl ⟨_,rfl,rfl⟩
 ·rename_i hn;split at h
  ·rename_i k; exact absurd rfl (hn k)
  ·exact .inr ⟨h,rfl⟩

def trO (N : Names) : AV -> AV
 | .own _ _ => .nils
 | x => trV N x
def trOL (N : Names) : List AV -> List AV
 | [] => []
 | x :: r => trO N x :: trOL N r
def trQ (N : Names) : AV -> AV
 | .own _ _ => .nils
 | .agg cs => .agg (trOL N cs)
 | x => trV N x
def EO : AV -> Prop
 | .own _ xs => xs = []
 | .agg cs => ∀ (j k : Nat) (xs : List AV),cs[j]? = some (.own k xs) -> xs = []
 | _ => True
theorem trOL_get (N : Names) : ∀ (cs : List AV) (i : Nat),(trOL N cs)[i]? = (cs[i]?).map (trO N)
 | [],i => by simp [trOL]
 | x :: r,i => by cases i <;> simp [trOL,trOL_get N r]
theorem trOL_length (N : Names) : ∀ cs : List AV,(trOL N cs).length = cs.length
 | [] => rfl
 | x :: r => by simp [trOL,trOL_length N r]
theorem trOL_trL (N : Names) : ∀ {cs : List AV},hasOwnL cs = false -> trOL N cs = trL N cs
 | [],_ => rfl
 | x :: r,h => by
   simp only [trOL,trL];cases x <;> simp [hasOwnL] at h <;> rw [trOL_trL N h] <;> rfl
theorem trQ_trV (N : Names) {x : AV} (h : hasOwn x = false) : trQ N x = trV N x := by
 cases x <;> first | rfl | (simp [hasOwn] at h; done) | skip
 rename_i cs;simp only [hasOwn] at h;simp only [trQ,trV];rw [trOL_trL N h]
theorem trO_trQ (N : Names) {x : AV} (h : ∀ cs,x = .agg cs -> hasOwnL cs = false) : trO N x = trQ N x := by
 cases x <;> first | rfl | skip
 rename_i cs;simp only [trO,trV,trQ];rw [trOL_trL N (h cs rfl)]
theorem lendC_own (f : Nat -> Rt) : ∀ (cs : List AV) (j : Nat),hasOwnL (lendC f j cs) = false
 | [],j => rfl
 | x :: r,j => by
   have ih := lendC_own f r (j + 1);cases x <;> simp [lendC,hasOwnL,ih]
theorem lend_own (i : Nat) (v : AV) : hasOwn (lend i v) = false := by
 cases v <;> simp [lend,hasOwn]
 exact lendC_own _ _ _
theorem lendC_get (f : Nat -> Rt) : ∀ (cs : List AV) (j i : Nat),(lendC f j cs)[i]? = (cs[i]?).map (fun x => match x with
  | .own k xs => .bor k (f (j + i)) 0 xs.length
  | x => x)
 | [],j,i => by simp [lendC]
 | x :: r,j,i => by
   cases i with
   | zero => cases x <;> simp [lendC]
   | succ i =>
     have ih := lendC_get f r (j + 1) i;rw [show j + 1 + i = j + (i + 1) by omega] at ih;cases x <;> simp [lendC,ih]
theorem tr_lendC (N : Names) (f : Nat -> Rt) : ∀ (cs : List AV) (j : Nat),trL N (lendC f j cs) = trC N f j cs
 | [],j => rfl
 | x :: r,j => by
   have ih := tr_lendC N f r (j + 1);cases x <;> simp [lendC,trL,trC,trP,ih]
   simp only [trV,ownT,Nat.zero_mul]
theorem tr_lend (N : Names) (i : Nat) (v : AV) : trV N (lend i v) = trS N i v := by
 cases v <;> first | rfl | skip
 ·simp only [lend,trV,trS]; rw [tr_lendC]
 ·simp only [lend,trV,trS,trP,ownT,Nat.zero_mul]
section
variable {X : Nat -> Prop} {φ : Phi} {w : World} {N : Names} {s : St} {Ha : Heap} {t : Nat -> Value} {c : Cfg} {cA : Am.Cfg}
theorem ok_c0 {o : Rt -> Option (Nat × List AV)} {nb : Nat} {x : AV} (h : isC0 x = true) : okV o nb x := by cases x <;> first | trivial | simp [isC0] at h
theorem ok_c0L {o : Rt -> Option (Nat × List AV)} {nb : Nat} : ∀ {xs : List AV},isC0L xs = true -> okL o nb xs
 | [],_ => trivial
 | x :: r,h => by simp only [isC0L,Bool.and_eq_true] at h; exact ⟨ok_c0 h.1,ok_c0L h.2⟩
theorem ok_c {o : Rt -> Option (Nat × List AV)} {nb : Nat} {x : AV} (h : isC x = true) : okV o nb x := by
 unfold isC at h;split at h
 ·exact ok_c0L h
 ·exact ⟨trivial,trivial⟩
 ·exact ok_c0 h
theorem isC0L_own : ∀ {xs : List AV},isC0L xs = true -> hasOwnL xs = false
 | [],_ => rfl
 | x :: r,h => by
   simp only [isC0L,Bool.and_eq_true] at h;have := isC0L_own h.2;cases x <;> first | (simp [isC0] at h; done) | simpa [hasOwnL] using this
theorem isC_own {x : AV} (h : isC x = true) : hasOwn x = false := by
 unfold isC at h;split at h
 ·exact isC0L_own h
 ·rfl
 ·rename_i h1 h2;cases x <;> first | rfl | (simp [isC0] at h; done)
theorem ok_lend (h : Sim X φ w N s Ha t) (i : Nat) : okV (ownAt s) s.H.length (lend i (get s.env i)) := by
 have hk := h.oke i;have hat : at_ s (.s i) = some (get s.env i) := rfl;cases hv : get s.env i <;> rw [hv] at hk hat <;> try exact hk
 ·rename_i cs;simp only [lend,okV] at hk ⊢;refine okL_get.2 fun j c hc => ?_;rw [lendC_get] at hc;cases hd : cs[j]? with
  | none => rw [hd] at hc; cases hc
  | some d =>
    rw [hd] at hc;simp only [Option.map_some,Option.some.injEq,Nat.zero_add] at hc;subst hc;have hdk := okL_get.1 hk j d hd;split
    ·rename_i k xs;simp only [okV];exact ⟨xs,ownAt_iff.2 (by rw [at_sc hv]; exact hd),by omega⟩
    ·exact hdk
 ·rename_i k xs;simp only [lend,okV];exact ⟨xs,ownAt_iff.2 hat,by omega⟩
structure OpndOK (N : Names) (s : St) (c : Cfg) (cA : Am.Cfg) (x : E) : Prop where
 ev : Am.ev cA (trE N s.env) (dnE x) = trO N (opnd c s.env x)
 ok : okV (ownAt s) s.H.length (opnd c s.env x)
 eo : ∀ k xs,opnd c s.env x = .own k xs -> xs = []
 na : ∀ cs,opnd c s.env x = .agg cs -> hasOwnL cs = false
theorem opnd_ok (h : Sim X φ w N s Ha t) (hgl : cA.gl = c.gl) {o : Operand} {x : E} (hk : chkE o (dnE x) = true) : OpndOK N s c cA x := by
 cases x with
 | t i =>
   have hl := lend_own i (get s.env i);refine ⟨?_,ok_lend h i,fun k xs e => ?_,fun cs e => ?_⟩
   ·simp only [dnE,Am.ev,opnd,get_trE];rw [<- tr_lend];generalize lend i (get s.env i) = y at hl;cases y <;> first | rfl | simp [hasOwn] at hl
   ·simp only [opnd] at e; rw [e] at hl; simp [hasOwn] at hl
   ·simp only [opnd] at e; rw [e] at hl; exact hl
 | k a =>
   simp only [dnE] at hk;rcases dn_c (chkE_c hk) with ⟨k,rfl,e⟩ | ⟨hc,e⟩
   ·exact ⟨rfl,trivial,fun k' xs e => by simp only [opnd,AV.own.injEq] at e; exact e.2.symm,fun cs e => by simp [opnd] at e⟩
   ·refine ⟨?_,ok_c hc,fun k xs e' => ?_,fun cs e' => ?_⟩
    ·simp only [dnE,Am.ev,opnd,e];have := tr_c N hc;have hn := isC_own hc;cases a <;> first | exact this.symm | (simp [hasOwn] at hn; done)
    ·simp only [opnd] at e'; rw [e'] at hc; simp [isC,isC0] at hc
    ·simp only [opnd] at e'; rw [e'] at hc; exact isC0L_own hc
 | g i => exact ⟨by simp [dnE,Am.ev,opnd,trO,trV,hgl],trivial,fun k xs e => by simp [opnd] at e,fun cs e => by simp [opnd] at e⟩
theorem OpndOK.int {x : E} (h : OpndOK N s c cA x) {k : IntKind} {n : Int} (e : opnd c s.env x = .int k n) : Am.ev cA (trE N s.env) (dnE x) = .int k n := by rw [h.ev,e]; rfl
theorem OpndOK.bool {x : E} (h : OpndOK N s c cA x) {b : Bool} (e : opnd c s.env x = .bool b) : Am.ev cA (trE N s.env) (dnE x) = .bool b := by rw [h.ev,e]; rfl
theorem opnds_ok (h : Sim X φ w N s Ha t) (hgl : cA.gl = c.gl) : ∀ {os : List Operand} {xs : List E},chkEs os (dnEs xs) = true -> Am.evs cA (trE N s.env) (dnEs xs) = trOL N (opnds c s.env xs) /\ okL (ownAt s) s.H.length (opnds c s.env xs)
 | _,[],_ => ⟨rfl,trivial⟩
 | [],x :: r,hk => by simp [dnEs,chkEs] at hk
 | o :: os,x :: r,hk => by
   simp only [dnEs,chkEs,Bool.and_eq_true] at hk;obtain ⟨h1,h2⟩ := opnds_ok h hgl hk.2;have h3 := opnd_ok (c := c) h hgl hk.1;exact ⟨by simp only [dnEs,Am.evs,opnds,trOL,h1,h3.ev],h3.ok,h2⟩
theorem bor_tr (h : Sim X φ w N s Ha t) {k : Nat} {p : Rt} {off len : Nat} (ho : okV (ownAt s) s.H.length (.bor k p off len)) :
  (∃ n,N.ν p = some n /\ trV N (.bor k p off len) = .sl k n (off * k) len) \/ (N.ν p = none /\ off = 0 /\ len = 0 /\ trV N (.bor k p off len) = .nils) := by
 simp only [okV] at ho;obtain ⟨xs,h1,h2⟩ := ho;cases hν : N.ν p with
 | some n => exact .inl ⟨n,rfl,by simp [trV,hν]⟩
 | none =>
   have := h.own p k xs h1;rw [hν] at this;have hx : xs = [] := this;subst hx;simp at h2;exact .inr ⟨rfl,h2.1,h2.2,by simp [trV,hν]⟩
theorem pto_tr (h : Sim X φ w N s Ha t) {k : Nat} {p : Rt} {i off : Nat} (ho : okV (ownAt s) s.H.length (.pto k p i off)) : ∃ n,N.ν p = some n /\ trV N (.pto k p i off) = .ptr n (i * k + off) := by
 simp only [okV] at ho;obtain ⟨xs,h1,h2⟩ := ho;cases hν : N.ν p with
 | some n => exact ⟨n,rfl,by simp [trV,hν]⟩
 | none =>
   have := h.own p k xs h1;rw [hν] at this;have hx : xs = [] := this;subst hx;simp at h2
end
end Go.Bm

/- Operations that change nothing: the older machine does the same. -/
namespace Go.Bm
open Go.Am
section
variable {P : Program}
theorem chk_mv {op : Op} {y : E} (h : chkK P op (.mv y) = true) : ∃ x,chkE x y = true := by
 unfold chkK at h; split at h <;> simp_all <;> exact ⟨_,h⟩
theorem chk_pick {op : Op} {a b d : E} (h : chkK P op (.pick a b d) = true) : (∃ x,chkE x a = true) /\ (∃ x,chkE x b = true) /\ ∃ x,chkE x d = true := by
 unfold chkK at h; split at h <;> simp_all; exact ⟨⟨_,h.1.1⟩,⟨_,h.1.2⟩,⟨_,h.2⟩⟩
theorem chk_box {op : Op} {y : E} (h : chkK P op (.box y) = true) : ∃ x,chkE x y = true := by
 unfold chkK at h; split at h <;> simp_all; exact ⟨_,h⟩
theorem chk_nilck {op : Op} {y : E} (h : chkK P op (.nilck y) = true) : ∃ x,chkE x y = true := by
 unfold chkK at h; split at h <;> simp_all; exact ⟨_,h⟩
theorem chk_bin {op : Op} {bo : BinOp} {a b : E} (h : chkK P op (.bin bo a b) = true) : (∃ x,chkE x a = true) /\ ∃ x,chkE x b = true := by
 unfold chkK at h; split at h <;> simp_all; exact ⟨⟨_,h.1.2⟩,⟨_,h.2⟩⟩
theorem chk_eq {op : Op} {ng : Bool} {t : Et} {a b : E} (h : chkK P op (.eq ng t a b) = true) : (∃ x,chkE x a = true) /\ ∃ x,chkE x b = true := by
 unfold chkK at h; split at h <;> simp_all; exact ⟨⟨_,h.1.2⟩,⟨_,h.2⟩⟩
theorem chk_un {op : Op} {uo : UnOp} {y : E} (h : chkK P op (.un uo y) = true) : ∃ x,chkE x y = true := by
 unfold chkK at h; split at h <;> simp_all; exact ⟨_,h.2⟩
theorem chk_cvt {op : Op} {k : IntKind} {y : E} (h : chkK P op (.cvt k y) = true) : ∃ x,chkE x y = true := by
 unfold chkK at h; split at h <;> simp_all; exact ⟨_,h.2⟩
theorem chk_mkf {op : Op} {fn : Fn} {a b : List E} (h : chkK P op (.mkf fn a b) = true) : (∃ x,chkEs x a = true) /\ ∃ x,chkEs x b = true := by
 unfold chkK at h; split at h <;> simp_all; exact ⟨⟨_,h.1.2⟩,⟨_,h.2⟩⟩
theorem chk_mks {op : Op} {k : Nat} {zs : List AV} {a b : E} (h : chkK P op (.mks k zs a b) = true) : (∃ t,elemIs P t k = true /\ elemZero P t zs = true) /\ (∃ x,chkE x a = true) /\ ∃ x,chkE x b = true := by
 unfold chkK at h; split at h <;> simp_all; exact ⟨⟨_,h.1.1⟩,⟨_,h.1.2⟩,⟨_,h.2⟩⟩
theorem chk_fad {op : Op} {off : Nat} {y : E} (h : chkK P op (.fad off y) = true) : ∃ x,chkE x y = true := by
 unfold chkK at h; split at h <;> simp_all; exact ⟨_,h.2⟩
theorem chk_asl {op : Op} {n : Nat} {y : E} {hi : Option E} (h : chkK P op (.asl n y hi) = true) : (∃ x,chkE x y = true) /\ ∀ e,hi = some e -> ∃ x,chkE x e = true := by
 unfold chkK at h; split at h <;> simp_all
 refine ⟨⟨_,h.2.1⟩,fun e he => ?_⟩;subst he; have := h.2.2; unfold chkEo at this; split at this <;> simp_all; exact ⟨_,this⟩
theorem chk_fld {op : Op} {off : Nat} {ag : Option Nat} {y : E} (h : chkK P op (.fld off ag y) = true) : ∃ x,chkE x y = true := by
 unfold chkK at h; split at h <;> simp_all; exact ⟨_,h.2⟩
theorem chk_ixa {op : Op} {k : Nat} {a b : E} (h : chkK P op (.ixa k a b) = true) : (∃ x,chkE x a = true) /\ ∃ x,chkE x b = true := by
 unfold chkK at h; split at h <;> simp_all; exact ⟨⟨_,h.1.2⟩,⟨_,h.2⟩⟩
theorem chk_ixp {op : Op} {n k : Nat} {a b : E} (h : chkK P op (.ixp n k a b) = true) : (∃ x,chkE x a = true) /\ ∃ x,chkE x b = true := by
 unfold chkK at h; split at h <;> simp_all; exact ⟨⟨_,h.1.2⟩,⟨_,h.2⟩⟩
theorem chk_ix {op : Op} {n k : Nat} {ag : Option Nat} {a b : E} (h : chkK P op (.ix n k ag a b) = true) : (∃ x,chkE x a = true) /\ ∃ x,chkE x b = true := by
 unfold chkK at h; split at h <;> simp_all; exact ⟨⟨_,h.1.2⟩,⟨_,h.2⟩⟩
theorem chk_ext {op : Op} {i : Nat} {y : E} (h : chkK P op (.ext i y) = true) : ∃ x,chkE x y = true := by
 unfold chkK at h; split at h <;> simp_all; exact ⟨_,h.2⟩
theorem chk_ixs {op : Op} {tab : List Nat} {y : E} (h : chkK P op (.ixs tab y) = true) : ∃ x,chkE x y = true := by
 unfold chkK at h; split at h <;> simp_all; exact ⟨_,h.2⟩
theorem chk_len {op : Op} {y : E} (h : chkK P op (.len y) = true) : ∃ x,chkE x y = true := by
 unfold chkK at h; split at h <;> simp_all
 split at h <;> simp_all; exact ⟨_,h.2⟩
theorem chk_min {op : Op} {ys : List E} (h : chkK P op (.min ys) = true) : ∃ x,chkEs x ys = true := by
 unfold chkK at h; split at h <;> simp_all; exact ⟨_,h⟩
theorem chk_max {op : Op} {ys : List E} (h : chkK P op (.max ys) = true) : ∃ x,chkEs x ys = true := by
 unfold chkK at h; split at h <;> simp_all; exact ⟨_,h⟩
theorem chk_slc {op : Op} {k : Nat} {y : E} {lo hi : Option E} (h : chkK P op (.slc k y lo hi) = true) : (∃ x,chkE x y = true) /\ (∀ e,lo = some e -> ∃ x,chkE x e = true) /\ ∀ e,hi = some e -> ∃ x,chkE x e = true := by
 unfold chkK at h; split at h <;> simp_all
 refine ⟨⟨_,h.1.1.2⟩,fun e he => ?_,fun e he => ?_⟩
 ·subst he; have := h.1.2; unfold chkEo at this; split at this <;> simp_all; exact ⟨_,this⟩
 ·subst he; have := h.2; unfold chkEo at this; split at this <;> simp_all; exact ⟨_,this⟩
theorem chkPs_get {place : Nat -> Option (Nat × Nat)} : ∀ {ps : List (Nat × Operand)} {qs : List (Nat × Nat × E)},chkPs place ps qs = true -> ∀ q ∈ qs,∃ x,chkE x q.2.2 = true
 | [],[],_,q,hq => by simp at hq
 | [],_ :: _,h,_,_ => by simp [chkPs] at h
 | _ :: _,[],h,_,_ => by simp [chkPs] at h
 | p :: r,q :: s,h,q',hq => by
   simp only [chkPs,Bool.and_eq_true] at h;rcases List.mem_cons.1 hq with e | e
   ·subst e; exact ⟨_,h.1.2⟩
   ·exact chkPs_get h.2 q' e
theorem chk_build {op : Op} {zs : List AV} {ps : List (Nat × Nat × E)} (h : chkK P op (.build zs ps) = true) : (∃ t,zeroIs P t zs = true) /\ ∀ q ∈ ps,∃ x,chkE x q.2.2 = true := by
 unfold chkK at h; split at h <;> simp_all
 obtain ⟨h1,h2⟩ := h;refine ⟨⟨_,h1⟩,?_⟩;split at h2
 ·simp_all; exact fun a b e hq => chkPs_get h2.2 (a,b,e) hq
 ·split at h2
  ·exact fun a b e hq => chkPs_get h2 (a,b,e) hq
  ·cases h2
 ·cases h2
theorem chk_bslice {op : Op} {k n : Nat} {zs : List AV} {ps : List (Nat × Nat × E)} (h : chkK P op (.bslice k n zs ps) = true) : (∃ t,elemIs P t k = true /\ elemZero P t zs = true) /\ ∀ q ∈ ps,∃ x,chkE x q.2.2 = true := by
 unfold chkK at h; split at h <;> simp_all
 exact ⟨⟨_,h.1.1.1.2,h.1.1.2⟩,fun a b e hq => chkPs_get h.2 (a,b,e) hq⟩
theorem chk_ld {op : Op} {ag : Option Nat} {y : E} (h : chkK P op (.ld ag y) = true) : ∃ x,chkE x y = true := by
 unfold chkK at h; split at h <;> simp_all; exact ⟨_,h.2⟩
theorem chk_st {op : Op} {k : Nat} {a b : E} (h : chkK P op (.st k a b) = true) : (∃ x,chkE x a = true) /\ ∃ x,chkE x b = true := by
 unfold chkK at h; split at h <;> simp_all; exact ⟨⟨_,h.1.2⟩,⟨_,h.2⟩⟩
theorem chk_new {op : Op} {zs : List AV} (h : chkK P op (.new zs) = true) : ∃ t,zeroIs P t zs = true := by
 unfold chkK at h; split at h <;> simp_all; exact ⟨_,h⟩
theorem chk_clr {op : Op} {k : Nat} {zs : List AV} {y : E} (h : chkK P op (.clr k zs y) = true) : (∃ t,elemIs P t k = true /\ elemZero P t zs = true) /\ ∃ x,chkE x y = true := by
 unfold chkK at h; split at h <;> simp_all
 split at h <;> simp_all; exact ⟨⟨_,h.1.1,h.1.2⟩,⟨_,h.2⟩⟩
theorem chk_app {op : Op} {k : Nat} {a b : E} (h : chkK P op (.app k a b) = true) : (∃ x,chkE x a = true) /\ ∃ x,chkE x b = true := by
 unfold chkK at h; split at h <;> simp_all
 split at h <;> simp_all; exact ⟨⟨_,h.1.2⟩,⟨_,h.2⟩⟩
theorem chk_copy {op : Op} {k : Nat} {a b : E} (h : chkK P op (.copy k a b) = true) : (∃ x,chkE x a = true) /\ ∃ x,chkE x b = true := by
 unfold chkK at h; split at h <;> simp_all
 split at h <;> simp_all; exact ⟨⟨_,h.1.2⟩,⟨_,h.2⟩⟩
theorem zeroIs_c {t : TypeId} {zs : List AV} (h : zeroIs P t zs = true) : isC0L zs = true /\ allLeaf zs = true := by
 unfold zeroIs at h;split at h
 ·split at h
  ·simp only [Bool.and_eq_true] at h; exact ⟨chkVs_c h.1,h.2⟩
  ·cases h
 ·cases h
end
end Go.Bm

/- Operations that change nothing: what they give. -/
set_option linter.unusedVariables false
namespace Go.Bm
open Go.Am
section
variable {P : Program} {X : Nat -> Prop} {φ : Phi} {w : World} {N : Names} {s : St} {Ha : Heap} {t : Nat -> Value} {c : Cfg} {cA : Am.Cfg} {call : Nat -> List AV -> Heap -> Option (AV × Heap)}
theorem trOL_map (N : Names) (cs : List AV) : trOL N cs = cs.map (trO N) := by
 induction cs with
 | nil => rfl
 | cons x r ih => simp [trOL,ih]
theorem trL_map (N : Names) (cs : List AV) : trL N cs = cs.map (trV N) := by
 induction cs with
 | nil => rfl
 | cons x r ih => simp [trL,ih]
theorem OpndOK.EO {x : E} (h : OpndOK N s c cA x) : EO (opnd c s.env x) := by
 cases e : opnd c s.env x <;> simp only [Go.Bm.EO]
 ·rename_i cs;intro j k xs hj;exfalso;have := h.na cs e;clear e
  induction cs generalizing j with
  | nil => simp at hj
  | cons y r ih =>
    cases j with
    | zero => simp at hj; subst hj; simp [hasOwnL] at this
    | succ j => exact ih j (by simpa using hj) (by cases y <;> simp [hasOwnL] at this <;> exact this)
 ·exact h.eo _ _ e
theorem OpndOK.evQ {x : E} (h : OpndOK N s c cA x) : Am.ev cA (trE N s.env) (dnE x) = trQ N (opnd c s.env x) := by rw [h.ev,trO_trQ N h.na]
theorem leaf_tr (h : Sim X φ w N s Ha t) {x : AV} (hl : x.leaf = true) (hk : okV (ownAt s) s.H.length x) : (trO N x).leaf = true := by
 cases x <;> first | rfl | (simp [AV.leaf] at hl; done) | skip
 ·rename_i k p off len;simp only [trO,trV];cases N.ν p <;> rfl
 ·rename_i k p i off;obtain ⟨n,_,e⟩ := pto_tr h hk;simp only [trO,e,AV.leaf]
theorem allLeaf_tr (h : Sim X φ w N s Ha t) : ∀ {cs : List AV},allLeaf cs = true -> okL (ownAt s) s.H.length cs -> allLeaf (trOL N cs) = true
 | [],_,_ => rfl
 | x :: r,hl,hk => by
   simp only [allLeaf,Bool.and_eq_true] at hl;simp only [trOL,allLeaf,Bool.and_eq_true];exact ⟨leaf_tr h hl.1 hk.1,allLeaf_tr h hl.2 hk.2⟩
theorem cells_tr (N : Names) {x : AV} (hn : ∀ cs,x = .agg cs -> hasOwnL cs = false) : (trO N x).cells = trOL N x.cells := by
 cases x <;> first | rfl | skip
 ·rename_i cs; simp only [trO,trV,AV.cells]; rw [trOL_trL N (hn cs rfl)]
 ·rename_i k p off len;simp only [trO,trV,AV.cells,trOL];cases N.ν p <;> rfl
 ·rename_i k p i off;simp only [trO,trV,AV.cells,trOL];cases N.ν p <;> rfl
theorem ok_cells {o : Rt -> Option (Nat × List AV)} {nb : Nat} {x : AV} (h : okV o nb x) : okL o nb x.cells := by
 cases x <;> first | exact ⟨h,trivial⟩ | exact h
theorem okL_take {o : Rt -> Option (Nat × List AV)} {nb n : Nat} {cs : List AV} (h : okL o nb cs) : okL o nb (cs.take n) :=
 okL_get.2 fun i c hc => okL_get.1 h i c (by rw [List.getElem?_take] at hc; split at hc; exact hc; cases hc)
theorem okL_drop {o : Rt -> Option (Nat × List AV)} {nb n : Nat} {cs : List AV} (h : okL o nb cs) : okL o nb (cs.drop n) :=
 okL_get.2 fun i c hc => okL_get.1 h (n + i) c (by rw [List.getElem?_drop] at hc; exact hc)
theorem okL_append {o : Rt -> Option (Nat × List AV)} {nb : Nat} : ∀ {cs ds : List AV},okL o nb cs -> okL o nb ds -> okL o nb (cs ++ ds)
 | [],_,_,h => h
 | x :: r,_,h,k => ⟨h.1,okL_append h.2 k⟩
theorem okL_ovw {o : Rt -> Option (Nat × List AV)} {nb off : Nat} {cs ds : List AV} (h : okL o nb cs) (k : okL o nb ds) : okL o nb (ovw cs off ds) := okL_append (okL_append (okL_take h) k) (okL_drop h)
theorem tr_ovw (N : Names) (cs ds : List AV) (off : Nat) : trOL N (ovw cs off ds) = ovw (trOL N cs) off (trOL N ds) := by
 simp only [trOL_map,ovw,List.map_append,List.map_take,List.map_drop,List.length_map]
def EOL (cs : List AV) : Prop := ∀ (j k : Nat) (xs : List AV),cs[j]? = some (.own k xs) -> xs = []
theorem EOL.ovw {cs ds : List AV} {off : Nat} (h : EOL cs) (k : EOL ds) : EOL (Am.ovw cs off ds) := by
 intro j kk xs hj;have := List.mem_of_getElem? hj;simp only [Am.ovw,List.mem_append] at this
 have mem : ∀ {l : List AV},EOL l -> (.own kk xs) ∈ l -> xs = [] := fun hl hm => by
  obtain ⟨i,hi⟩ := List.getElem?_of_mem hm;exact hl i _ _ hi
 rcases this with (hm | hm) | hm
 ·exact mem h (List.mem_of_mem_take hm)
 ·exact mem k hm
 ·exact mem h (List.mem_of_mem_drop hm)
theorem OpndOK.EOL {x : E} (h : OpndOK N s c cA x) : EOL (opnd c s.env x).cells := by
 have he := h.EO;cases e : opnd c s.env x <;> rw [e] at he <;> simp only [AV.cells] <;> first | exact he | skip
 all_goals
  intro j k xs hj;cases j with
  | zero => simp at hj <;> exact hj.2 ▸ (by first | exact he | exact he)
  | succ j => simp at hj
theorem fill_ok (h : Sim X φ w N s Ha t) (hgl : cA.gl = c.gl) : ∀ {ps : List (Nat × Nat × E)} {zs cs : List AV},(∀ q ∈ dnPs ps,∃ x,chkE x q.2.2 = true) -> okL (ownAt s) s.H.length zs -> EOL zs -> fillB c s.env zs ps = some cs ->
  fillA cA (trE N s.env) (trOL N zs) (dnPs ps) = some (trOL N cs) /\ okL (ownAt s) s.H.length cs /\ EOL cs /\ cs.length = zs.length
 | [],zs,cs,_,hz,he,hf => by simp [fillB] at hf; subst hf; exact ⟨rfl,hz,he,rfl⟩
 | (off,sz,x) :: r,zs,cs,hq,hz,he,hf => by
   simp only [fillB] at hf;split at hf
   case isFalse => cases hf
   rename_i hc;obtain ⟨c1,c2,c3⟩ := hc;obtain ⟨o,ho⟩ := hq (off,sz,dnE x) (by simp [dnPs]);have hx := opnd_ok (c := c) (cA := cA) h hgl ho;have hcell := cells_tr N hx.na;obtain ⟨k1,k2,k3,k4⟩ := fill_ok h hgl (ps := r) (fun q hq' => hq q (by simp [dnPs,hq'])) (okL_ovw hz (ok_cells hx.ok)) (he.ovw hx.EOL) hf;refine ⟨?_,k2,k3,?_⟩
   ·simp only [dnPs,fillA,hx.ev,hcell];rw [if_pos ⟨by rw [trOL_length]; exact c1,by rw [trOL_length]; exact c2,allLeaf_tr h c3 (ok_cells hx.ok)⟩,<- tr_ovw];exact k1
   ·rw [k4]; exact ovw_length (by omega)
theorem dnVs_tr (N : Names) : ∀ {zs : List AV},isC0L (dnVs zs) = true -> dnVs zs = trOL N zs /\ EOL zs
 | [],_ => ⟨rfl,fun j k xs h => by simp at h⟩
 | x :: r,h => by
   simp only [dnVs,isC0L,Bool.and_eq_true] at h;obtain ⟨h1,h2⟩ := dnVs_tr N h.2;rcases dn_c (isC0_isC h.1) with ⟨k,rfl,e⟩ | ⟨hc,e⟩
   ·refine ⟨by simp only [dnVs,trOL,h1,e,trO],fun j k xs hj => ?_⟩;cases j with
    | zero => simp at hj; exact hj.2
    | succ j => exact h2 j k xs (by simpa using hj)
   ·rw [e] at h;refine ⟨?_,fun j k xs hj => ?_⟩
    ·simp only [dnVs,trOL,h1,e];congr 1;have := tr_c0 N h.1;cases x <;> first | exact this.symm | (simp [isC0] at h; done)
    ·cases j with
     | zero => simp at hj; subst hj; simp [isC0] at h
     | succ j => exact h2 j k xs (by simpa using hj)
theorem ok_dnVs {o : Rt -> Option (Nat × List AV)} {nb : Nat} : ∀ {zs : List AV},isC0L (dnVs zs) = true -> okL o nb zs
 | [],_ => trivial
 | x :: r,h => by
   simp only [dnVs,isC0L,Bool.and_eq_true] at h;rcases dn_c (isC0_isC h.1) with ⟨k,rfl,e⟩ | ⟨hc,e⟩
   ·exact ⟨trivial,ok_dnVs h.2⟩
   ·exact ⟨ok_c hc,ok_dnVs h.2⟩
theorem eqc_tr (N : Names) : ∀ {l : List Bool} {xs ys : List AV} {e : Bool},eqc l xs ys = some e -> eqc l (trOL N xs) (trOL N ys) = some e
 | [],[],[],e,h => h
 | true :: l,x :: r,y :: s,e,h => by
   cases x <;> try (simp [eqc] at h; done)
   cases y <;> try (simp [eqc] at h; done)
   simp only [eqc,trOL,trO,trV] at h ⊢;split at h
   ·rename_i hk;rw [if_pos hk];split at h
    ·rename_i e' he;rw [eqc_tr N he];exact h
    ·cases h
   ·cases h
 | false :: l,x :: r,y :: s,e,h => by
   cases x <;> try (simp [eqc] at h; done)
   cases y <;> try (simp [eqc] at h; done)
   simp only [eqc,trOL,trO,trV] at h ⊢;split at h
   ·rename_i e' he;rw [eqc_tr N he];exact h
   ·cases h
 | [],x :: r,ys,e,h => by simp [eqc] at h
 | [],[],y :: s,e,h => by simp [eqc] at h
 | b :: l,[],ys,e,h => by cases b <;> simp [eqc] at h
 | b :: l,x :: r,[],e,h => by cases b <;> cases x <;> simp [eqc] at h
theorem minF_tr (N : Names) (mx : Bool) : ∀ {xs : List AV} {x v : AV},minF mx x xs = some v -> (∃ k n,x = .int k n) -> minF mx x (trOL N xs) = some v /\ ∃ k n,v = .int k n
 | [],x,v,h,hx => by simp [minF] at h; subst h; exact ⟨rfl,hx⟩
 | y :: r,x,v,h,hx => by
   obtain ⟨k,n,rfl⟩ := hx;cases y <;> try (simp [minF] at h; done)
   simp only [minF,trOL,trO,trV] at h ⊢;exact minF_tr N mx h ⟨_,_,rfl⟩
theorem minA_tr (N : Names) {mx : Bool} {xs : List AV} {v : AV} (h : minA mx xs = some v) : minA mx (trOL N xs) = some v /\ ∃ k n,v = .int k n := by
 cases xs with
 | nil => simp [minA] at h
 | cons y r =>
   cases y <;> try (simp [minA] at h; done)
   simp only [minA,trOL,trO,trV] at h ⊢;exact minF_tr N mx h ⟨_,_,rfl⟩
theorem binA_sc {op : BinOp} {x y v : AV} (h : binA op x y = some v) : (∃ k n,x = .int k n) /\ (∃ k n,y = .int k n) /\ ((∃ k n,v = .int k n) \/ ∃ b,v = .bool b) := by
 unfold binA at h;split at h
 case h_2 => cases h
 refine ⟨⟨_,_,rfl⟩,⟨_,_,rfl⟩,?_⟩;split at h
 ·split at h
  ·cases h
  ·simp at h; exact .inl ⟨_,_,h.symm⟩
 ·split at h
  ·cases h
  ·simp at h; exact .inl ⟨_,_,h.symm⟩
 ·split at h
  ·unfold arith at h
   split at h <;> first
    | (simp at h; exact .inl ⟨_,_,h.symm⟩)
    | (simp at h; exact .inr ⟨_,h.symm⟩)
    | (split at h
       ·cases h
       ·simp at h; exact .inl ⟨_,_,h.symm⟩)
    | cases h
  ·cases h
theorem sc_ok {v : AV} (h : (∃ k n,v = .int k n) \/ ∃ b,v = .bool b) (o : Rt -> Option (Nat × List AV)) (nb : Nat) : trQ N v = v /\ okV o nb v /\ EO v := by
 rcases h with ⟨k,n,rfl⟩ | ⟨b,rfl⟩ <;> exact ⟨rfl,trivial,trivial⟩
theorem rdN_tr (N : Names) {ag : Option Nat} {cs : List AV} {v : AV} {o : Rt -> Option (Nat × List AV)} {nb : Nat} (h : rdN ag cs = some v) (hk : okL o nb cs) : rdc ag (trL N cs) = some (trQ N v) /\ okV o nb v /\ EO v /\ hasOwn v = false := by
 unfold rdN at h;split at h
 case h_2 => cases h
 rename_i v' hr;split at h
 ·cases h
 rename_i ho;simp at h ho;subst h
 have he : EO v' := by
  cases v' <;> simp only [EO] <;> try (simp [hasOwn] at ho; done)
  rename_i ds;intro j k xs hj;exfalso;simp only [hasOwn] at ho;clear hr
  induction ds generalizing j with
  | nil => simp at hj
  | cons y r ih =>
    cases j with
    | zero => simp at hj; subst hj; simp [hasOwnL] at ho
    | succ j => exact ih (by cases y <;> simp [hasOwnL] at ho <;> exact ho) j (by simpa using hj)
 unfold rdc at hr ⊢;cases ag with
 | some k =>
   simp only at hr ⊢;split at hr
   case isFalse => cases hr
   rename_i hle;simp at hr;subst hr;rw [if_pos (by rw [trL_length]; exact hle),trQ_trV N ho];exact ⟨by simp only [trV,trL_map,List.map_take],okL_take hk,he,ho⟩
 | none =>
   simp only at hr ⊢;cases cs with
   | nil => cases hr
   | cons x r =>
     simp at hr;subst hr;rw [trQ_trV N ho];exact ⟨by simp [trL],hk.1,he,ho⟩
theorem trL_drop (N : Names) (cs : List AV) (n : Nat) : (trL N cs).drop n = trL N (cs.drop n) := by simp only [trL_map,List.map_drop]
end
end Go.Bm

/- Operations that change nothing: the older machine does the same. -/
namespace Go.Bm
open Go.Am
section
variable {P : Program} {X : Nat -> Prop} {φ : Phi} {w : World} {N : Names} {s : St} {Ha : Heap} {t : Nat -> Value} {c : Cfg} {cA : Am.Cfg} {call : Nat -> List AV -> Heap -> Option (AV × Heap)}
theorem bnd_tr (h : Sim X φ w N s Ha t) (hgl : cA.gl = c.gl) {d m n : Nat} {x : Option E} (hk : ∀ e,dnO x = some e -> ∃ o,chkE o e = true) (hb : bndB c s.env d m x = some n) : bndO cA (trE N s.env) d m (dnO x) = some n := by
 cases x with
 | none => exact hb
 | some x =>
   obtain ⟨o,ho⟩ := hk _ rfl;simp only [bndB] at hb;simp only [dnO,bndO];cases e : opnd c s.env x <;> rw [e] at hb <;> try (simp [bnd] at hb; done)
   rw [(opnd_ok (c := c) (cA := cA) h hgl ho).int e];exact hb
theorem idx_tr {x : AV} {n m : Nat} (h : idx x n = some m) : ∃ k i,x = .int k i /\ idx (.int k i) n = some m /\ m < n := by
 unfold idx at h;split at h
 ·rename_i k i;refine ⟨k,i,rfl,h,?_⟩;split at h
  ·simp at h; omega
  ·cases h
 ·cases h
theorem lenB_tr (h : Sim X φ w N s Ha t) {x : E} (hx : OpndOK N s c cA x) {n : Nat} (hl : lenB (opnd c s.env x) = some n) : lenA (Am.ev cA (trE N s.env) (dnE x)) = some n := by
 rw [hx.ev];have hk := hx.ok;cases e : opnd c s.env x <;> rw [e] at hl hk <;> try (simp [lenB] at hl; done)
 ·exact hl
 ·exact hl
 ·exact hl
 ·rename_i k xs;have := hx.eo k xs e;subst this;exact hl
 ·rename_i k p off len;simp only [lenB] at hl;cases hl;simp only [trO];rcases bor_tr h hk with ⟨m,_,e2⟩ | ⟨_,_,rfl,e2⟩ <;> rw [e2] <;> rfl
theorem pop_ok (h : Sim X φ w N s Ha t) (hgl : cA.gl = c.gl) {op : Op} {kd : Kd} {v : AV} (hk : chkK P op (dnK kd) = true) (hs : opP c s.env kd = some v) :
  aOp cA call (trE N s.env) Ha (dnK kd) = some (trQ N v,Ha,.no) /\ okV (ownAt s) s.H.length v /\ EO v := by
 cases kd <;> simp only [opP,reduceCtorEq] at hs <;> simp only [dnK] at hk ⊢
 case mv x =>
  obtain ⟨o,ho⟩ := chk_mv hk;have hx := opnd_ok (c := c) (cA := cA) h hgl ho;simp at hs;subst hs;exact ⟨by simp only [aOp,hx.evQ],hx.ok,hx.EO⟩
 case pick x a b =>
  obtain ⟨⟨o1,h1⟩,⟨o2,h2⟩,o3,h3⟩ := chk_pick hk;have hx := opnd_ok (c := c) (cA := cA) h hgl h1;have ha := opnd_ok (c := c) (cA := cA) h hgl h2;have hb := opnd_ok (c := c) (cA := cA) h hgl h3;split at hs
  case h_2 => cases hs
  rename_i b' he;simp at hs;subst hs;simp only [aOp,hx.bool he];cases b'
  ·exact ⟨by simp [hb.evQ],by simpa using hb.ok,by simpa using hb.EO⟩
  ·exact ⟨by simp [ha.evQ],by simpa using ha.ok,by simpa using ha.EO⟩
 case build zs ps =>
  obtain ⟨⟨t,ht⟩,hq⟩ := chk_build hk;obtain ⟨e1,e2⟩ := dnVs_tr N (zeroIs_c ht).1;split at hs
  case h_2 => cases hs
  rename_i cs hf;simp at hs;subst hs;obtain ⟨k1,k2,k3,k4⟩ := fill_ok (cA := cA) h hgl hq (ok_dnVs (zeroIs_c ht).1) e2 hf;rw [e1];exact ⟨by simp only [aOp,k1,trQ],k2,k3⟩
 case nilck x =>
  obtain ⟨o,ho⟩ := chk_nilck hk;have hx := opnd_ok (c := c) (cA := cA) h hgl ho;have hok := hx.ok;simp only [aOp,hx.ev];cases e : opnd c s.env x <;> rw [e] at hs hok <;> try (simp at hs; done)
  ·simp at hs; subst hs; exact ⟨rfl,trivial,trivial⟩
  ·simp at hs; subst hs; exact ⟨rfl,hok,trivial⟩
  ·rename_i f a b;cases f <;> simp at hs
   subst hs;exact ⟨rfl,hok,trivial⟩
 case bin op' x y =>
  obtain ⟨⟨o1,h1⟩,o2,h2⟩ := chk_bin hk;have hx := opnd_ok (c := c) (cA := cA) h hgl h1;have hy := opnd_ok (c := c) (cA := cA) h hgl h2;obtain ⟨⟨k1,n1,e1⟩,⟨k2,n2,e2⟩,hv⟩ := binA_sc hs;obtain ⟨q1,q2,q3⟩ := sc_ok (N := N) hv (ownAt s) s.H.length;rw [e1,e2] at hs;simp only [aOp,hx.int e1,hy.int e2,hs,q1];exact ⟨trivial,q2,q3⟩
 case eq ng et x y =>
  obtain ⟨⟨o1,h1⟩,o2,h2⟩ := chk_eq hk;have hx := opnd_ok (c := c) (cA := cA) h hgl h1;have hy := opnd_ok (c := c) (cA := cA) h hgl h2;split at hs
  case h_2 => cases hs
  rename_i e he;simp at hs;subst hs;refine ⟨?_,trivial,trivial⟩
  have : eqA et (Am.ev cA (trE N s.env) (dnE x)) (Am.ev cA (trE N s.env) (dnE y)) = some e := by
   rw [hx.ev,hy.ev];have hxk := hx.ok;unfold eqB at he;split at he
   ·rename_i a b e1 e2; rw [e1,e2]; exact he
   ·rename_i l xs ys e1 e2;have n1 := hx.na _ e1;have n2 := hy.na _ e2;rw [e1,e2];simp only [trO,trV,eqA];rw [<- trOL_trL N n1,<- trOL_trL N n2];exact eqc_tr N he
   ·rename_i z k e2;rw [e2];simp only [trO];cases e1 : opnd c s.env x <;> rw [e1] at he hxk <;> try (simp [isNilB] at he; done)
    ·simpa [isNilB,eqA,isNil,trO,trV] using he
    ·rename_i k' xs;cases xs with
     | nil => simp [isNilB] at he
     | cons u r => simpa [isNilB,eqA,isNil,trO,trV] using he
    ·simpa [isNilB,eqA,isNil,trO,trV] using he
    ·rename_i k' p off len;simp only [isNilB] at he;split at he
     ·cases he
     ·rename_i hlen;simp at he;subst he;simp only [trO];rcases bor_tr h hxk with ⟨m,_,e3⟩ | ⟨_,_,h0,_⟩
      ·rw [e3]; rfl
      ·exact absurd h0 hlen
   ·rename_i z e2;rw [e2];simp only [trO];cases e1 : opnd c s.env x <;> rw [e1] at he hxk <;> try (simp [isNilB] at he; done)
    ·simpa [isNilB,eqA,isNil,trO,trV] using he
    ·rename_i k' xs;cases xs with
     | nil => simp [isNilB] at he
     | cons u r => simpa [isNilB,eqA,isNil,trO,trV] using he
    ·simpa [isNilB,eqA,isNil,trO,trV] using he
    ·rename_i k' p off len;simp only [isNilB] at he;split at he
     ·cases he
     ·rename_i hlen;simp at he;subst he;simp only [trO];rcases bor_tr h hxk with ⟨m,_,e3⟩ | ⟨_,_,h0,_⟩
      ·rw [e3]; rfl
      ·exact absurd h0 hlen
   ·rename_i z e2;rw [e2];cases e1 : opnd c s.env x <;> rw [e1] at he <;> try (simp [isNilB] at he; done)
    all_goals simpa [isNilB,eqA,isNil,trO,trV] using he
   ·rename_i z e2;rw [e2];cases e1 : opnd c s.env x <;> rw [e1] at he <;> try (simp [isNilB] at he; done)
    all_goals simpa [isNilB,eqA,isNil,trO,trV] using he
   ·cases he
  simp only [aOp,this,trQ,trV]
 case un uo x =>
  obtain ⟨o,ho⟩ := chk_un hk;have hx := opnd_ok (c := c) (cA := cA) h hgl ho;simp only [aOp,hx.ev];cases e : opnd c s.env x <;> rw [e] at hs <;> try (cases uo <;> simp [unA] at hs; done)
  ·have : (∃ k n,v = .int k n) \/ ∃ b,v = .bool b := by
    cases uo <;> simp [unA] at hs
    ·exact .inl ⟨_,_,hs.symm⟩
    ·exact .inl ⟨_,_,hs.symm⟩
   obtain ⟨q1,q2,q3⟩ := sc_ok (N := N) this (ownAt s) s.H.length;simp only [trO,trV,hs,q1];exact ⟨trivial,q2,q3⟩
  ·have : (∃ k n,v = .int k n) \/ ∃ b,v = .bool b := by
    cases uo <;> simp [unA] at hs
    exact .inr ⟨_,hs.symm⟩
   obtain ⟨q1,q2,q3⟩ := sc_ok (N := N) this (ownAt s) s.H.length;simp only [trO,trV,hs,q1];exact ⟨trivial,q2,q3⟩
 case cvt k x =>
  obtain ⟨o,ho⟩ := chk_cvt hk;have hx := opnd_ok (c := c) (cA := cA) h hgl ho;split at hs
  case h_2 => cases hs
  rename_i k' n e;simp at hs;subst hs;simp only [aOp,hx.int e];exact ⟨rfl,trivial,trivial⟩
 case mkf fn a b =>
  obtain ⟨⟨o1,h1⟩,o2,h2⟩ := chk_mkf hk;obtain ⟨a1,a2⟩ := opnds_ok (cA := cA) h hgl h1;obtain ⟨b1,b2⟩ := opnds_ok (cA := cA) h hgl h2;split at hs
  ·cases hs
  rename_i ho;simp at hs ho;subst hs
  have sp : ∀ {xs ys : List AV},hasOwnL (xs ++ ys) = false -> hasOwnL xs = false /\ hasOwnL ys = false := by
   intro xs
   induction xs with
   | nil => intro ys h; exact ⟨rfl,h⟩
   | cons z r ih =>
     intro ys h;cases z <;> simp [hasOwnL] at h ⊢ <;> exact ih h
  obtain ⟨p1,p2⟩ := sp ho;refine ⟨?_,⟨a2,b2⟩,trivial⟩;simp only [aOp,a1,b1,trQ,trV,trOL_trL N p1,trOL_trL N p2]
 case slc k x lo hi =>
  obtain ⟨⟨o,ho⟩,h1,h2⟩ := chk_slc hk;have hx := opnd_ok (c := c) (cA := cA) h hgl ho;have hok := hx.ok;split at hs
  case h_2 => cases hs
  rename_i n hn;split at hs
  case h_2 => cases hs
  rename_i hh hhh;split at hs
  case h_2 => cases hs
  rename_i l hl;have g1 := lenB_tr h hx hn;have g2 := bnd_tr h hgl h2 hhh;have g3 := bnd_tr h hgl h1 hl
  have bb : ∀ {d m n : Nat} {x : Option E},bndB c s.env d m x = some n -> d <= m -> n <= m := by
   intro d m n x hb hd;cases x with
   | none => simp [bndB] at hb; omega
   | some x =>
     simp only [bndB] at hb;unfold bnd at hb;split at hb
     ·split at hb
      ·simp at hb; omega
      ·cases hb
     ·cases hb
  have l1 := bb hhh (Nat.le_refl _);have l2 := bb hl (Nat.zero_le _);simp only [aOp,g1,g2,g3];rw [hx.ev];cases e : opnd c s.env x <;> rw [e] at hs hok hn <;> try (simp at hs; done)
  ·rename_i k' xs;simp only at hs;split at hs
   case isFalse => cases hs
   rename_i hkk;simp at hs;subst hs;simp only [trO,trV];rw [if_pos hkk];exact ⟨rfl,trivial,trivial⟩
  ·rename_i k' b off len;simp only at hs;split at hs
   case isFalse => cases hs
   rename_i hkk;simp at hs;subst hs;simp only [trO,trV];rw [if_pos hkk];exact ⟨rfl,hok,trivial⟩
  ·rename_i k' xs;have := hx.eo k' xs e;subst this;simp only at hs;split at hs
   case isFalse => cases hs
   simp at hs;subst hs;exact ⟨rfl,trivial,rfl⟩
  ·rename_i k' p off len;simp only at hs;split at hs
   case isFalse => cases hs
   rename_i hkk;subst hkk;simp at hs;subst hs;simp only [lenB,Option.some.injEq] at hn;subst hn
   have hok2 : okV (ownAt s) s.H.length (.bor k' p (off + l) (hh - l)) := by
    simp only [okV] at hok ⊢;obtain ⟨xs,e1,e2⟩ := hok;exact ⟨xs,e1,by omega⟩
   refine ⟨?_,hok2,trivial⟩;simp only [trO];rcases bor_tr h hok with ⟨m,hm,e3⟩ | ⟨hm,e0,e1,e3⟩
   ·rw [e3];simp only [if_true,trQ,trV,hm,Nat.add_mul]
   ·rw [e3];simp only [trQ,trV,hm]
 case fad off x =>
  obtain ⟨o,ho⟩ := chk_fad hk;have hx := opnd_ok (c := c) (cA := cA) h hgl ho;have hok := hx.ok;simp only [aOp,hx.ev];cases e : opnd c s.env x <;> rw [e] at hs hok <;> try (simp at hs; done)
  ·simp at hs; subst hs; exact ⟨rfl,trivial,trivial⟩
  ·simp at hs; subst hs; exact ⟨rfl,hok,trivial⟩
  ·rename_i k p i o';simp at hs;subst hs;have hok2 : okV (ownAt s) s.H.length (.pto k p i (o' + off)) := hok;refine ⟨?_,hok2,trivial⟩;obtain ⟨m,hm,e2⟩ := pto_tr h hok;simp only [trO,e2,trQ,trV,hm,Nat.add_assoc]
 case asl n x hi =>
  cases hi with
  | some y => simp at hs
  | none =>
  obtain ⟨⟨o,ho⟩,_⟩ := chk_asl hk;have hx := opnd_ok (c := c) (cA := cA) h hgl ho;have hok := hx.ok;simp only [aOp,hx.ev,dnO,bndO];simp only at hs;cases e : opnd c s.env x <;> rw [e] at hs hok <;> try (simp at hs; done)
  rename_i cs;simp only at hs;split at hs
  case isFalse => cases hs
  rename_i hc;simp at hs;subst hs;simp only [trO,trV];rw [if_pos ⟨hc.1,trivial,hc.2⟩];exact ⟨rfl,trivial,trivial⟩
 case fld off ag x =>
  obtain ⟨o,ho⟩ := chk_fld hk;have hx := opnd_ok (c := c) (cA := cA) h hgl ho;have hok := hx.ok;simp only [aOp,hx.ev];cases e : opnd c s.env x <;> rw [e] at hs hok <;> try (simp at hs; done)
  rename_i cs;simp only at hs;obtain ⟨r1,r2,r3,_⟩ := rdN_tr N hs (okL_drop (n := off) hok);simp only [trO,trV,trL_drop,r1];exact ⟨trivial,r2,r3⟩
 case ixa k x i =>
  obtain ⟨⟨o1,h1⟩,o2,h2⟩ := chk_ixa hk;have hx := opnd_ok (c := c) (cA := cA) h hgl h1;have hi := opnd_ok (c := c) (cA := cA) h hgl h2;have hok := hx.ok;simp only [aOp,hx.ev];cases e : opnd c s.env x <;> rw [e] at hs hok <;> try (simp at hs; done)
  ·rename_i k' xs;simp only at hs;split at hs
   case h_2 => cases hs
   rename_i j hj;obtain ⟨ki,ni,e2,hj2,_⟩ := idx_tr hj;split at hs
   case isFalse => cases hs
   rename_i hkk;split at hs
   case h_2 => cases hs
   rename_i u hu;simp at hs;subst hs;simp only [trO,trV,hi.int e2,hj2,if_pos hkk,hu];exact ⟨rfl,trivial,trivial⟩
  ·rename_i k' b off len;simp only at hs;split at hs
   case h_2 => cases hs
   rename_i j hj;obtain ⟨ki,ni,e2,hj2,_⟩ := idx_tr hj;split at hs
   case isFalse => cases hs
   rename_i hkk;simp at hs;subst hs;simp only [trO,trV,hi.int e2,hj2,if_pos hkk];exact ⟨rfl,hok,trivial⟩
  ·rename_i k' p off len;simp only at hs;split at hs
   case h_2 => cases hs
   rename_i j hj;obtain ⟨ki,ni,e2,hj2,hlt⟩ := idx_tr hj;split at hs
   case isFalse => cases hs
   rename_i hkk;subst hkk;simp at hs;subst hs;simp only [trO];rcases bor_tr h hok with ⟨m,hm,e3⟩ | ⟨_,_,h0,_⟩
   ·rw [e3];simp only [hi.int e2,hj2,if_true,trQ,trV,hm,Nat.add_mul,Nat.add_zero];refine ⟨trivial,?_,trivial⟩;simp only [okV] at hok ⊢;obtain ⟨xs,q1,q2⟩ := hok;exact ⟨xs,q1,by omega⟩
   ·omega
 case ixp n k x i =>
  obtain ⟨⟨o1,h1⟩,o2,h2⟩ := chk_ixp hk;have hx := opnd_ok (c := c) (cA := cA) h hgl h1;have hi := opnd_ok (c := c) (cA := cA) h hgl h2;have hok := hx.ok;split at hs
  case h_2 => cases hs
  rename_i j hj;obtain ⟨ki,ni,e2,hj2,_⟩ := idx_tr hj;simp only [aOp,hi.int e2,hj2,hx.ev];cases e : opnd c s.env x <;> rw [e] at hs hok <;> try (simp at hs; done)
  ·simp at hs; subst hs; exact ⟨rfl,trivial,trivial⟩
  ·simp at hs; subst hs; exact ⟨rfl,hok,trivial⟩
  ·rename_i k' p l off;simp at hs;subst hs;have hok2 : okV (ownAt s) s.H.length (.pto k' p l (off + j * k)) := hok;refine ⟨?_,hok2,trivial⟩;obtain ⟨m,hm,e3⟩ := pto_tr h hok;simp only [trO,e3,trQ,trV,hm,Nat.add_assoc]
 case ix n k ag x i =>
  obtain ⟨⟨o1,h1⟩,o2,h2⟩ := chk_ix hk;have hx := opnd_ok (c := c) (cA := cA) h hgl h1;have hi := opnd_ok (c := c) (cA := cA) h hgl h2;have hok := hx.ok;split at hs
  case h_2 => cases hs
  rename_i j hj;obtain ⟨ki,ni,e2,hj2,_⟩ := idx_tr hj;simp only [aOp,hi.int e2,hj2,hx.ev];cases e : opnd c s.env x <;> rw [e] at hs hok <;> try (simp at hs; done)
  rename_i cs;simp only at hs;obtain ⟨r1,r2,r3,_⟩ := rdN_tr N hs (okL_drop (n := j * k) hok);simp only [trO,trV,trL_drop,r1];exact ⟨trivial,r2,r3⟩
 case ext i x =>
  obtain ⟨o,ho⟩ := chk_ext hk;have hx := opnd_ok (c := c) (cA := cA) h hgl ho;have hok := hx.ok;simp only [aOp,hx.ev];cases e : opnd c s.env x <;> rw [e] at hs hok <;> try (simp at hs; done)
  rename_i vs;simp only at hs;split at hs
  case h_2 => cases hs
  rename_i u hu;split at hs
  ·cases hs
  rename_i hno;simp at hs hno;subst hs;simp only [trO,trV,trL_get,hu,Option.map_some];refine ⟨by rw [trQ_trV N hno],okL_get.1 hok i u hu,?_⟩;cases u <;> simp only [EO] <;> try (simp [hasOwn] at hno; done)
  rename_i ds;intro j k xs hj;exfalso;simp only [hasOwn] at hno;clear hu
  induction ds generalizing j with
  | nil => simp at hj
  | cons y r ih =>
    cases j with
    | zero => simp at hj; subst hj; simp [hasOwnL] at hno
    | succ j => exact ih (by cases y <;> simp [hasOwnL] at hno <;> exact hno) j (by simpa using hj)
 case ixs tab i =>
  obtain ⟨o,ho⟩ := chk_ixs hk;have hi := opnd_ok (c := c) (cA := cA) h hgl ho;split at hs
  case h_2 => cases hs
  rename_i j hj;obtain ⟨ki,ni,e2,hj2,_⟩ := idx_tr hj;split at hs
  case h_2 => cases hs
  rename_i u hu;simp at hs;subst hs;simp only [aOp,hi.int e2,hj2,hu];exact ⟨rfl,trivial,trivial⟩
 case len x =>
  obtain ⟨o,ho⟩ := chk_len hk;have hx := opnd_ok (c := c) (cA := cA) h hgl ho;split at hs
  case h_2 => cases hs
  rename_i n hn;simp at hs;subst hs;simp only [aOp,lenB_tr h hx hn];exact ⟨rfl,trivial,trivial⟩
 case min xs =>
  obtain ⟨o,ho⟩ := chk_min hk;obtain ⟨a1,a2⟩ := opnds_ok (cA := cA) h hgl ho;obtain ⟨m1,m2⟩ := minA_tr N hs;obtain ⟨q1,q2,q3⟩ := sc_ok (N := N) (.inl m2) (ownAt s) s.H.length;simp only [aOp,a1,m1,q1];exact ⟨trivial,q2,q3⟩
 case max xs =>
  obtain ⟨o,ho⟩ := chk_max hk;obtain ⟨a1,a2⟩ := opnds_ok (cA := cA) h hgl ho;obtain ⟨m1,m2⟩ := minA_tr N hs;obtain ⟨q1,q2,q3⟩ := sc_ok (N := N) (.inl m2) (ownAt s) s.H.length;simp only [aOp,a1,m1,q1];exact ⟨trivial,q2,q3⟩
end
end Go.Bm

/- A value in hand; operations that read and make. -/
namespace Go.Bm
open Go.Am
section
variable {P : Program} {X : Nat -> Prop} {φ : Phi} {w : World} {N N' : Names} {s : St} {Ha : Heap} {t t' : Nat -> Value} {B : Nat -> Nat} {base : Nat} {v : AV} {v' : Value}
theorem tr_congr (hβ : N'.β = N.β) {x : AV} (h : ∀ p ∈ borOf x,N'.ν p = N.ν p) : trV N' x = trV N x := by
 have e := tr_mv (N := N) (N' := N') (m := id) (g := fun y => y) hβ (fun _ _ _ _ => ⟨rfl,rfl⟩) x h;have : mapB (fun y => y) x = x := mapB_id (m := id) (fun _ _ _ _ => ⟨rfl,rfl⟩) x (fun _ _ => rfl)
 rwa [this] at e
theorem trP_congr (hβ : N'.β = N.β) {r : Rt} {x : AV} (hr : ∀ k xs,x = .own k xs -> N'.ν r = N.ν r) (h : ∀ p ∈ borOf x,N'.ν p = N.ν p) : trP N' r x = trP N r x := by
 have e := trP_mv (N := N) (N' := N') (m := id) (g := fun y => y) hβ (fun _ _ _ _ => ⟨rfl,rfl⟩) (r := r) (r' := r) hr h;have : mapB (fun y => y) x = x := mapB_id (m := id) (fun _ _ _ _ => ⟨rfl,rfl⟩) x (fun _ _ => rfl)
 rwa [this] at e
theorem trS_congr (hβ : N'.β = N.β) {i : Nat} {x : AV} (h1 : N'.ν (.s i) = N.ν (.s i)) (h2 : ∀ j,N'.ν (.sc i j) = N.ν (.sc i j)) (h : ∀ p ∈ borOf x,N'.ν p = N.ν p) : trS N' i x = trS N i x := by
 have e := trS_mv (N := N) (N' := N') (m := id) (g := fun y => y) hβ (fun _ _ _ _ => ⟨rfl,rfl⟩) (i := i) (i' := i) h1 h2 h;have : mapB (fun y => y) x = x := mapB_id (m := id) (fun _ _ _ _ => ⟨rfl,rfl⟩) x (fun _ _ => rfl)
 rwa [this] at e
theorem Sim.bor (h : Sim X φ w N s Ha t) {r : Rt} {x : AV} (hx : at_ s r = some x) : ∀ p ∈ borOf x,(ownAt s p).isSome := ok_bor x (h.ok_at hx)
theorem at_put {i : Nat} (hi : get s.env i = .any) {q : Rt} (hq : inSlot i q = false) : at_ ⟨put s.env i v,s.H⟩ q = at_ s q := by
 cases q with
 | s j => simp only [inSlot,decide_eq_false_iff_not] at hq; simp [at_,get_put,hq]
 | sc j l => simp only [inSlot,decide_eq_false_iff_not] at hq; simp [at_,get_put,hq]
 | c b j => rfl
theorem ownAt_put {i : Nat} (hi : get s.env i = .any) {q : Rt} (hq : inSlot i q = false) : ownAt ⟨put s.env i v,s.H⟩ q = ownAt s q := ownAt_of_at (at_put hi hq)
theorem any_own {i : Nat} (hi : get s.env i = .any) {q : Rt} (hq : inSlot i q = true) : ownAt s q = none := by
 have ho : hasOwn (get s.env i) = false := by rw [hi]; rfl
 obtain ⟨h1,h2⟩ := hasOwn_at ho;cases q with
 | s j => simp only [inSlot,decide_eq_true_eq] at hq; subst hq; exact h1
 | sc j l => simp only [inSlot,decide_eq_true_eq] at hq; subst hq; exact h2 l
 | c b j => simp [inSlot] at hq
mutual
theorem okV_mono {o o' : Rt -> Option (Nat × List AV)} {nb nb' : Nat} (ho : ∀ p,(o p).isSome -> o' p = o p) (hn : nb <= nb') : ∀ x,okV o nb x -> okV o' nb' x
 | .bor k p off len,h => by simp only [okV] at h ⊢; obtain ⟨xs,e,h2⟩ := h; exact ⟨xs,by rw [ho p (by rw [e]; rfl)]; exact e,h2⟩
 | .pto k p i off,h => by simp only [okV] at h ⊢; obtain ⟨xs,e,h2⟩ := h; exact ⟨xs,by rw [ho p (by rw [e]; rfl)]; exact e,h2⟩
 | .ptr b off,h => by simp only [okV] at h ⊢; omega
 | .agg cs,h => by simp only [okV] at h ⊢; exact okL_mono ho hn cs h
 | .tup cs,h => by simp only [okV] at h ⊢; exact okL_mono ho hn cs h
 | .func f a b,h => by simp only [okV] at h ⊢; exact ⟨okL_mono ho hn a h.1,okL_mono ho hn b h.2⟩
 | .any,_ => trivial
 | .undef,_ => trivial
 | .nilp,_ => trivial
 | .nilf,_ => trivial
 | .nils,_ => trivial
 | .int _ _,_ => trivial
 | .bool _,_ => trivial
 | .str _,_ => trivial
 | .list _ _,_ => trivial
 | .fptr _,_ => trivial
 | .own _ _,_ => trivial
 | .sl _ b _ _,h => by simp only [okV] at h ⊢; omega
theorem okL_mono {o o' : Rt -> Option (Nat × List AV)} {nb nb' : Nat} (ho : ∀ p,(o p).isSome -> o' p = o p) (hn : nb <= nb') : ∀ cs,okL o nb cs -> okL o' nb' cs
 | [],_ => trivial
 | x :: r,h => ⟨okV_mono ho hn x h.1,okL_mono ho hn r h.2⟩
end
theorem Sim.putG (h : Sim X φ w N s Ha t) {i : Nat} (hi : get s.env i = .any) (hβ : N'.β = N.β) (hN : ∀ p,inSlot i p = false -> N'.ν p = N.ν p) (hv : okV (ownAt s) s.H.length v) (rv : Rep (Rd X φ w) φ (trS N' i v) v')
  (hown : ∀ p k xs,inSlot i p = true -> ownAt ⟨put s.env i v,s.H⟩ p = some (k,xs) -> OwnH Ha (N'.ν p) k xs /\ ∀ n,N'.ν p = some n -> (∀ q,(ownAt s q).isSome -> N.ν q ≠ some n) /\ (∀ b,(blk s.H b).isSome -> N.β b ≠ n) /\ ∀ q,inSlot i q = true -> (ownAt ⟨put s.env i v,s.H⟩ q).isSome -> N'.ν q = some n -> q = p) :
  Sim X φ w N' ⟨put s.env i v,s.H⟩ Ha (fun j => if j = i then v' else t j) := by
 have old : ∀ {p},(ownAt s p).isSome -> inSlot i p = false := by
  intro p hp;cases e : inSlot i p with
  | false => rfl
  | true => rw [any_own hi e] at hp; cases hp
 have mono : ∀ p,(ownAt s p).isSome -> ownAt ⟨put s.env i v,s.H⟩ p = ownAt s p := fun p hp => ownAt_put hi (old hp);refine ⟨fun j => ?_,fun j => ?_,h.heap,fun p k xs e => ?_,fun b cs e => ?_,fun p q n e1 e2 e3 e4 => ?_,fun b p e1 e2 e3 => ?_,fun b d e1 e2 e3 => ?_⟩
 ·simp only [get_put];by_cases hj : j = i
  ·subst hj; simp only [if_true]; exact rv
  ·simp only [if_neg hj];rw [trS_congr hβ (hN _ (by simp [inSlot,hj])) (fun l => hN _ (by simp [inSlot,hj])) (fun p hp => hN p (old (h.bor (r := .s j) rfl p hp)))];exact h.env j
 ·simp only [get_put];by_cases hj : j = i
  ·rw [if_pos hj]; exact okV_mono mono (Nat.le_refl _) v hv
  ·rw [if_neg hj]; exact okV_mono mono (Nat.le_refl _) _ (h.oke j)
 ·cases hp : inSlot i p with
  | true => exact (hown p k xs hp e).1
  | false => rw [ownAt_put hi hp] at e; rw [hN p hp]; exact h.own p k xs e
 ·obtain ⟨as,g1,g2,g3⟩ := h.box b cs e;refine ⟨as,by rw [hβ]; exact g1,g2,fun j c hc => ?_⟩;obtain ⟨k1,a,k2,k3⟩ := g3 j c hc;refine ⟨okV_mono mono (Nat.le_refl _) c k1,a,k2,?_⟩;rw [trP_congr hβ (fun _ _ _ => hN _ rfl) (fun p hp => hN p (old (h.bor (r := .c b j) (by rw [at_c (s := s) e]; exact hc) p hp)))];exact k3
 ·cases hp : inSlot i p with
  | true =>
    obtain ⟨⟨k,xs⟩,e⟩ := Option.isSome_iff_exists.1 e1;obtain ⟨_,h2⟩ := hown p k xs hp e;obtain ⟨f1,f2,f3⟩ := h2 n e3;cases hq : inSlot i q with
    | true => exact (f3 q hq e2 e4).symm
    | false => rw [ownAt_put hi hq] at e2; rw [hN q hq] at e4; exact absurd e4 (f1 q e2)
  | false =>
    cases hq : inSlot i q with
    | true =>
      obtain ⟨⟨k,xs⟩,e⟩ := Option.isSome_iff_exists.1 e2;obtain ⟨_,h2⟩ := hown q k xs hq e;obtain ⟨f1,f2,f3⟩ := h2 n e4;rw [ownAt_put hi hp] at e1;rw [hN p hp] at e3;exact absurd e3 (f1 p e1)
    | false =>
      rw [ownAt_put hi hp] at e1;rw [ownAt_put hi hq] at e2;rw [hN p hp] at e3;rw [hN q hq] at e4;exact h.inj p q n e1 e2 e3 e4
 ·rw [hβ] at e3;cases hp : inSlot i p with
  | true =>
    obtain ⟨⟨k,xs⟩,e⟩ := Option.isSome_iff_exists.1 e2;obtain ⟨_,h2⟩ := hown p k xs hp e;exact (h2 _ e3).2.1 b e1 rfl
  | false => rw [ownAt_put hi hp] at e2; rw [hN p hp] at e3; exact h.bx b p e1 e2 e3
 ·rw [hβ] at e3; exact h.bi b d e1 e2 e3
theorem PutOK.quiet (h : Sim X φ w N s Ha t) (hb : (∀ b,b < base -> N.β b = B b) /\ base <= s.H.length) (hv : okV (ownAt s) s.H.length v) (he : EO v) (r : Rep (Rd X φ w) φ (trQ N v) v') : PutOK X φ w B base s v t v' := by
 refine ⟨⟨N,Ha,h,hb⟩,hv,fun i hi => ?_⟩
 have old : ∀ {p},(ownAt s p).isSome -> inSlot i p = false := by
  intro p hp;cases e : inSlot i p with
  | false => rfl
  | true => rw [any_own hi e] at hp; cases hp
 obtain ⟨N',hβ,hN1,hN2⟩ : ∃ N' : Names,N'.β = N.β /\ (∀ p,inSlot i p = false -> N'.ν p = N.ν p) /\ ∀ p,inSlot i p = true -> N'.ν p = none := ⟨⟨N.β,fun p => if inSlot i p then none else N.ν p⟩,rfl,fun p hp => by simp [hp],fun p hp => by simp [hp]⟩;have hvb : ∀ p ∈ borOf v,N'.ν p = N.ν p := fun p hp => hN1 p (old (ok_bor v hv p hp))
 have e1 : trS N' i v = trQ N v := by
  cases v <;> simp only [trS,trQ,trP] <;> try exact tr_congr hβ hvb
  ·rename_i cs;congr 1;apply List.ext_getElem?;intro j;rw [trC_get,trOL_get];simp only [Nat.zero_add];cases hc : cs[j]? with
   | none => rfl
   | some c =>
     simp only [Option.map_some];congr 1;have hcb : ∀ p ∈ borOf c,N'.ν p = N.ν p := fun p hp => hvb p (by simp only [borOf]; exact borL_mem hc hp);cases c <;> simp only [trP,trO] <;> try exact tr_congr hβ hcb
     simp only [ownT,hN2 (.sc i j) (by simp [inSlot])]
  ·simp only [ownT,hN2 (.s i) (by simp [inSlot])]
 refine ⟨N',Ha,h.putG hi hβ hN1 hv (by rw [e1]; exact r) (fun p k xs hp e => ?_),fun b hlt => by rw [hβ]; exact hb.1 b hlt,hb.2⟩;rw [hN2 p hp];refine ⟨?_,fun n e => by cases e⟩;have e' := ownAt_iff.1 e;cases p with
 | s j =>
   simp only [inSlot,decide_eq_true_eq] at hp;subst hp;simp only [at_,get_put,if_true,Option.some.injEq] at e';rw [e'] at he;exact he
 | sc j l =>
   simp only [inSlot,decide_eq_true_eq] at hp;subst hp;simp only [at_,get_put,if_true] at e';cases v <;> simp only [reduceCtorEq] at e'
   exact he l k xs e'
 | c b j => simp [inSlot] at hp
theorem PutOK.fresh (h : Sim X φ w N s Ha t) (hb : (∀ b,b < base -> N.β b = B b) /\ base <= s.H.length) {k n : Nat} {xs : List AV} (ho : OwnH Ha (some n) k xs) (hf : ∀ q,(ownAt s q).isSome -> N.ν q ≠ some n) (hx : ∀ b,(blk s.H b).isSome -> N.β b ≠ n) (r : Rep (Rd X φ w) φ (.sl k n 0 xs.length) v') :
  PutOK X φ w B base s (.own k xs) t v' := by
 refine ⟨⟨N,Ha,h,hb⟩,trivial,fun i hi => ?_⟩
 obtain ⟨N',hβ,hN1,hN2⟩ : ∃ N' : Names,N'.β = N.β /\ (∀ p,inSlot i p = false -> N'.ν p = N.ν p) /\ N'.ν (.s i) = some n := ⟨⟨N.β,fun p => if p = .s i then some n else N.ν p⟩,rfl,fun p hp => by
  have : p ≠ .s i := by rintro rfl; simp [inSlot] at hp
  simp [this],by simp⟩
 have only : ∀ p,inSlot i p = true -> (ownAt ⟨Am.put s.env i (.own k xs),s.H⟩ p).isSome -> p = .s i := by
  intro p hp e;cases p with
  | s j => simp only [inSlot,decide_eq_true_eq] at hp; rw [hp]
  | sc j l =>
    simp only [inSlot,decide_eq_true_eq] at hp;subst hp;unfold ownAt at e;simp [at_,get_put] at e
  | c b j => simp [inSlot] at hp
 refine ⟨N',Ha,h.putG hi hβ hN1 trivial (by simp only [trS,trP,ownT,hN2]; exact r) (fun p k' ys hp e => ?_),fun b hlt => by rw [hβ]; exact hb.1 b hlt,hb.2⟩;have hps := only p hp (by rw [e]; rfl);subst hps;have e' := ownAt_iff.1 e;simp only [at_,get_put,if_true,Option.some.injEq,AV.own.injEq] at e';obtain ⟨rfl,rfl⟩ := e';rw [hN2];refine ⟨ho,fun m hm => ?_⟩;cases hm;exact ⟨hf,hx,fun q hq e _ => only q hq e⟩
theorem Sim.adv {φ' : Phi} {w' : World} {Ha' : Heap} (h : Sim X φ w N s Ha t) (a : Adv φ w φ' w') (hh : HRel X φ' w' Ha') (ho : ∀ p k xs,ownAt s p = some (k,xs) -> OwnH Ha' (N.ν p) k xs) (hb : ∀ b,(blk s.H b).isSome -> blk Ha' (N.β b) = blk Ha (N.β b)) : Sim X φ' w' N s Ha' t :=
 ⟨fun i => a.rep (h.env i),h.oke,hh,ho,fun b cs e => by
  obtain ⟨as,g1,g2,g3⟩ := h.box b cs e;exact ⟨as,by rw [hb b (by rw [e]; rfl)]; exact g1,g2,g3⟩,h.inj,h.bx,h.bi⟩
theorem OwnH.same {H H' : Heap} {o : Option Nat} {k : Nat} {xs : List AV} (h : OwnH H o k xs) (hb : ∀ n,o = some n -> blk H' n = blk H n) : OwnH H' o k xs := by
 cases o with
 | none => exact h
 | some n =>
   obtain ⟨cs,h1,h2⟩ := h;exact ⟨cs,by rw [hb n rfl]; exact h1,h2⟩
theorem OwnH.lt {H : Heap} {n k : Nat} {xs : List AV} (h : OwnH H (some n) k xs) : n < H.length := by
 obtain ⟨cs,h1,_⟩ := h;exact blk_lt h1
theorem Sim.own_lt (h : Sim X φ w N s Ha t) {p : Rt} (hp : (ownAt s p).isSome) {n : Nat} (hn : N.ν p = some n) : n < Ha.length := by
 obtain ⟨⟨k,xs⟩,e⟩ := Option.isSome_iff_exists.1 hp;have := h.own p k xs e;rw [hn] at this;exact this.lt
theorem Sim.box_lt (h : Sim X φ w N s Ha t) {b : Nat} (hb : (blk s.H b).isSome) : N.β b < Ha.length := by
 obtain ⟨cs,e⟩ := Option.isSome_iff_exists.1 hb;obtain ⟨as,g1,_⟩ := h.box b cs e;exact blk_lt g1
theorem Sim.push {φ' : Phi} {w' : World} {cs : List AV} (h : Sim X φ w N s Ha t) (a : Adv φ w φ' w') (hh : HRel X φ' w' (Ha ++ [some cs])) : Sim X φ' w' N s (Ha ++ [some cs]) t := by
 refine h.adv a hh (fun p k xs e => ?_) (fun b hb => ?_)
 ·refine (h.own p k xs e).same fun n hn => ?_;rw [blk_push,if_neg];have := h.own_lt (by rw [e]; rfl) hn;omega
 ·rw [blk_push,if_neg];have := h.box_lt hb;omega
theorem blk_last (H : Heap) (cs : List AV) : blk (H ++ [some cs]) H.length = some cs := by rw [blk_push,if_pos rfl]
end
end Go.Bm

/- Operations that make blocks and boxes. -/
namespace Go.Bm
open Go.Am
mutual
theorem tr_congr2 {N N' : Names} {o : Rt -> Option (Nat × List AV)} {nb : Nat} (hβ : ∀ b,b < nb -> N'.β b = N.β b) (hν : ∀ p,(o p).isSome -> N'.ν p = N.ν p) : ∀ x,okV o nb x -> trV N' x = trV N x
 | .bor k p a l,h => by simp only [okV] at h; obtain ⟨xs,e,_⟩ := h; simp only [trV,hν p (by rw [e]; rfl)]
 | .pto k p a l,h => by simp only [okV] at h; obtain ⟨xs,e,_⟩ := h; simp only [trV,hν p (by rw [e]; rfl)]
 | .ptr b off,h => by simp only [okV] at h; simp only [trV,hβ b h]
 | .agg cs,h => by simp only [okV] at h; simp only [trV,tr_congr2L hβ hν cs h]
 | .tup cs,h => by simp only [okV] at h; simp only [trV,tr_congr2L hβ hν cs h]
 | .func f a b,h => by simp only [okV] at h; simp only [trV,tr_congr2L hβ hν a h.1,tr_congr2L hβ hν b h.2]
 | .any,_ => rfl
 | .undef,_ => rfl
 | .nilp,_ => rfl
 | .nilf,_ => rfl
 | .nils,_ => rfl
 | .int _ _,_ => rfl
 | .bool _,_ => rfl
 | .str _,_ => rfl
 | .list _ _,_ => rfl
 | .fptr _,_ => rfl
 | .own _ _,_ => rfl
 | .sl _ b _ _,h => by simp only [okV] at h; simp only [trV,hβ b h]
theorem tr_congr2L {N N' : Names} {o : Rt -> Option (Nat × List AV)} {nb : Nat} (hβ : ∀ b,b < nb -> N'.β b = N.β b) (hν : ∀ p,(o p).isSome -> N'.ν p = N.ν p) : ∀ cs,okL o nb cs -> trL N' cs = trL N cs
 | [],_ => rfl
 | x :: r,h => by simp only [trL,tr_congr2 hβ hν x h.1,tr_congr2L hβ hν r h.2]
end
theorem trP_congr2 {N N' : Names} {o : Rt -> Option (Nat × List AV)} {nb : Nat} (hβ : ∀ b,b < nb -> N'.β b = N.β b) (hν : ∀ p,(o p).isSome -> N'.ν p = N.ν p) {r : Rt} {x : AV} (hr : ∀ k xs,x = .own k xs -> N'.ν r = N.ν r) (h : okV o nb x) : trP N' r x = trP N r x := by
 cases x <;> simp only [trP] <;> first | exact tr_congr2 hβ hν _ h | skip
 rename_i k xs;simp only [ownT,hr k xs rfl]
theorem trS_congr2 {N N' : Names} {o : Rt -> Option (Nat × List AV)} {nb : Nat} (hβ : ∀ b,b < nb -> N'.β b = N.β b) (hν : ∀ p,(o p).isSome -> N'.ν p = N.ν p) {i : Nat} {x : AV} (h1 : N'.ν (.s i) = N.ν (.s i)) (h2 : ∀ j,N'.ν (.sc i j) = N.ν (.sc i j)) (h : okV o nb x) : trS N' i x = trS N i x := by
 by_cases ha : ∃ cs,x = .agg cs
 ·obtain ⟨cs,rfl⟩ := ha;simp only [trS];congr 1;apply List.ext_getElem?;intro j;rw [trC_get,trC_get];simp only [Nat.zero_add];cases hc : cs[j]? with
  | none => rfl
  | some c =>
    simp only [Option.map_some];simp only [okV] at h;rw [trP_congr2 hβ hν (fun _ _ _ => h2 j) (okL_get.1 h j c hc)]
 ·have hn : NAgg x := fun cs e => ha ⟨cs,e⟩;have e1 : trS N' i x = trP N' (.s i) x := by cases x <;> first | rfl | exact absurd rfl (hn _)
  have e2 : trS N i x = trP N (.s i) x := by cases x <;> first | rfl | exact absurd rfl (hn _)
  rw [e1,e2];exact trP_congr2 hβ hν (fun _ _ _ => h1) h
mutual
theorem tr_pl (N : Names) : ∀ x,pl x = true -> trV N x = x
 | .agg cs,h => by simp only [pl] at h; simp only [trV,tr_plL N cs h]
 | .tup cs,h => by simp only [pl] at h; simp only [trV,tr_plL N cs h]
 | .func f a b,h => by simp only [pl,Bool.and_eq_true] at h; simp only [trV,tr_plL N a h.1,tr_plL N b h.2]
 | .any,_ => rfl
 | .undef,_ => rfl
 | .nilp,_ => rfl
 | .nilf,_ => rfl
 | .nils,_ => rfl
 | .int _ _,_ => rfl
 | .bool _,_ => rfl
 | .str _,_ => rfl
 | .list _ _,_ => rfl
 | .fptr _,_ => rfl
 | .own _ _,h => by simp [pl] at h
 | .bor _ _ _ _,h => by simp [pl] at h
 | .pto _ _ _ _,h => by simp [pl] at h
 | .ptr _ _,h => by simp [pl] at h
 | .sl _ _ _ _,h => by simp [pl] at h
theorem tr_plL (N : Names) : ∀ cs,plL cs = true -> trL N cs = cs
 | [],_ => rfl
 | x :: r,h => by simp only [plL,Bool.and_eq_true] at h; simp only [trL,tr_pl N x h.1,tr_plL N r h.2]
end
theorem le_nilL (N : Names) {c : AV} (h : fz (nilL c) = true) (he : ∀ k xs,c = .own k xs -> xs = []) : Le (nilL c) (trO N c) := by
 cases c <;> simp only [nilL] at h ⊢ <;> first
  | (have := (fz_pl h).1
     simp only [trO];rw [tr_pl N _ this];exact Le.refl _)
  | skip
 rename_i k xs;have := he k xs rfl;subst this;exact Le.nilL k
section
variable {P : Program} {X : Nat -> Prop} {φ φ' : Phi} {w w' : World} {N N' : Names} {s s1 : St} {Ha : Heap} {t : Nat -> Value} {B : Nat -> Nat} {base : Nat} {v : AV} {v' : Value} {c : Cfg} {o : Oper} {a : Act}
theorem Sim.newbox {zs as : List AV} (h : Sim X φ w N s Ha t) (ad : Adv φ w φ' w') (hh : HRel X φ' w' (Ha ++ [some as])) (hz : okL (ownAt s) s.H.length zs) (he : EOL zs) (has : as = trOL N zs) :
  ∃ N',(∀ b,b < s.H.length -> N'.β b = N.β b) /\ N'.β s.H.length = Ha.length /\ Sim X φ' w' N' ⟨s.env,s.H ++ [some zs]⟩ (Ha ++ [some as]) t := by
 have h1 := h.push ad hh
 obtain ⟨N',hβ,hβ2,hN1,hN2⟩ : ∃ N' : Names,(∀ b,b < s.H.length -> N'.β b = N.β b) /\ N'.β s.H.length = Ha.length /\ (∀ p,(∀ j,p ≠ .c s.H.length j) -> N'.ν p = N.ν p) /\ ∀ j,N'.ν (.c s.H.length j) = none :=
  ⟨⟨fun b => if b = s.H.length then Ha.length else N.β b,fun p => match p with
   | .c b j => if b = s.H.length then none else N.ν (.c b j)
   | p => N.ν p⟩,fun b hb => by simp; omega,by simp,fun p hp => by
     cases p with
     | s i => rfl
     | sc i j => rfl
     | c b j =>
       have : b ≠ s.H.length := fun e => hp j (by rw [e]);simp [this],fun j => by simp⟩
 have atq : ∀ q,(∀ j,q ≠ .c s.H.length j) -> at_ ⟨s.env,s.H ++ [some zs]⟩ q = at_ s q := by
  intro q hq;cases q with
  | s i => rfl
  | sc i j => rfl
  | c b j =>
    have : b ≠ s.H.length := fun e => hq j (by rw [e]);simp only [at_,blk_push,if_neg this]
 have atn : ∀ j,at_ ⟨s.env,s.H ++ [some zs]⟩ (.c s.H.length j) = zs[j]? := fun j => by simp only [at_,blk_push,if_true]
 have old : ∀ {q},(ownAt s q).isSome -> ∀ j,q ≠ .c s.H.length j := by
  rintro q hq j rfl;unfold ownAt at hq
  have : blk s.H s.H.length = none := by
   cases e : blk s.H s.H.length with
   | none => rfl
   | some cs => have := blk_lt e; omega
  simp [at_,this] at hq
 have mono : ∀ p,(ownAt s p).isSome -> ownAt ⟨s.env,s.H ++ [some zs]⟩ p = ownAt s p := fun p hp => ownAt_of_at (atq p (old hp));have hν : ∀ p,(ownAt s p).isSome -> N'.ν p = N.ν p := fun p hp => hN1 p (old hp);have hlen : s.H.length <= (s.H ++ [some zs]).length := by simp
 have isnew : ∀ {q k xs},ownAt ⟨s.env,s.H ++ [some zs]⟩ q = some (k,xs) -> (ownAt s q = some (k,xs)) \/ ((∃ j,q = .c s.H.length j) /\ xs = []) := by
  intro q k xs e;by_cases hq : ∃ j,q = .c s.H.length j
  ·obtain ⟨j,rfl⟩ := hq;have e' := ownAt_iff.1 e;rw [atn] at e';exact .inr ⟨⟨j,rfl⟩,he j k xs e'⟩
  ·rw [ownAt_of_at (atq q fun j e => hq ⟨j,e⟩)] at e;exact .inl e
 have some_old : ∀ {q n},(ownAt ⟨s.env,s.H ++ [some zs]⟩ q).isSome -> N'.ν q = some n -> (ownAt s q).isSome /\ N.ν q = some n := by
  intro q n hq hn;obtain ⟨⟨k,xs⟩,e⟩ := Option.isSome_iff_exists.1 hq;rcases isnew e with e1 | ⟨⟨j,rfl⟩,_⟩
  ·have : (ownAt s q).isSome := by rw [e1]; rfl
   exact ⟨this,by rw [<- hν q this]; exact hn⟩
  ·rw [hN2] at hn; cases hn
 have bold : ∀ {b},(blk (s.H ++ [some zs]) b).isSome -> (b < s.H.length /\ (blk s.H b).isSome) \/ b = s.H.length := by
  intro b hb;rw [blk_push] at hb;by_cases e : b = s.H.length
  ·exact .inr e
  ·rw [if_neg e] at hb;obtain ⟨cs,e2⟩ := Option.isSome_iff_exists.1 hb;exact .inl ⟨blk_lt e2,hb⟩
 refine ⟨N',hβ,hβ2,⟨fun i => ?_,fun i => okV_mono mono hlen _ (h1.oke i),hh,fun p k xs e => ?_,fun b cs e => ?_,fun p q n e1 e2 e3 e4 => ?_,fun b p e1 e2 e3 => ?_,fun b d e1 e2 e3 => ?_⟩⟩
 ·rw [trS_congr2 hβ hν (hN1 _ (fun j e => by cases e)) (fun l => hN1 _ (fun j e => by cases e)) (h1.oke i)];exact h1.env i
 ·rcases isnew e with e1 | ⟨⟨j,rfl⟩,rfl⟩
  ·rw [hν p (by rw [e1]; rfl)]; exact h1.own p k xs e1
  ·rw [hN2]; rfl
 ·by_cases hb : b = s.H.length
  ·subst hb;simp only [blk_push,if_true,Option.some.injEq] at e;subst e;refine ⟨as,by rw [hβ2]; exact blk_last _ _,by rw [has,trOL_length],fun j x hx => ⟨okV_mono mono hlen x (okL_get.1 hz j x hx),trO N x,by rw [has,trOL_get,hx]; rfl,?_⟩⟩;have hxk := okL_get.1 hz j x hx;cases x <;> simp only [trP,trO] <;> try (rw [tr_congr2 hβ hν _ hxk]; exact Le.refl _)
   simp only [ownT,hN2];exact Le.refl _
  ·simp only [blk_push,if_neg hb] at e;obtain ⟨as',g1,g2,g3⟩ := h1.box b cs e;refine ⟨as',by rw [hβ b (blk_lt e)]; exact g1,g2,fun j x hx => ?_⟩;obtain ⟨k1,a',k2,k3⟩ := g3 j x hx;refine ⟨okV_mono mono hlen x k1,a',k2,?_⟩;rw [trP_congr2 hβ hν (fun _ _ _ => hN1 _ (fun l e => by cases e; exact hb rfl)) k1];exact k3
 ·obtain ⟨p1,p2⟩ := some_old e1 e3;obtain ⟨q1,q2⟩ := some_old e2 e4;exact h1.inj p q n p1 q1 p2 q2
 ·obtain ⟨p1,p2⟩ := some_old e2 e3;rcases bold e1 with ⟨b1,b2⟩ | b1
  ·rw [hβ b b1] at p2; exact h1.bx b p b2 p1 p2
  ·subst b1;rw [hβ2] at p2;have := h.own_lt p1 p2;omega
 ·rcases bold e1 with ⟨b1,b2⟩ | b1 <;> rcases bold e2 with ⟨d1,d2⟩ | d1
  ·rw [hβ b b1,hβ d d1] at e3; exact h1.bi b d b2 d2 e3
  ·subst d1; rw [hβ b b1,hβ2] at e3; have := h.box_lt b2; omega
  ·subst b1; rw [hβ d d1,hβ2] at e3; have := h.box_lt d2; omega
  ·rw [b1,d1]
def tm (a : Act) : Nat -> Value := fun i => a.tmps.getD i undef
def OkB (P : Program) (X : Nat -> Prop) (φ : Phi) (w : World) (B : Nat -> Nat) (base : Nat) (s1 : St) (v : AV) (o : Oper) (a : Act) : Prop :=
 ∀ (K : Act -> World -> Prop) (Q : Exit -> Act -> World -> Prop),(∀ v' w' φ',PutOK X φ' w' B base s1 v (tm a) v' -> Adv φ w φ' w' -> K (a.put o.dst v') w') -> o.wp P a w K Q
theorem OkB.ghost (ad : Adv φ w φ' w) (h : OkB P X φ' w B base s1 v o a) : OkB P X φ w B base s1 v o a := fun K Q hK => h K Q fun v' w' φ'' hp k => hK v' w' φ'' hp (ad.trans k)
theorem OkB.of {va : AV} {Ha' : Heap} (h : Ok P X φ w o a va Ha') (hp : ∀ v' w' φ',Rep (Rd X φ' w') φ' va v' -> HRel X φ' w' Ha' -> Adv φ w φ' w' -> PutOK X φ' w' B base s1 v (tm a) v') : OkB P X φ w B base s1 v o a :=
 fun K Q hK => h K Q fun v' w' φ' r hh ad => hK v' w' φ' (hp v' w' φ' r hh ad) ad
def cAm (c : Cfg) : Am.Cfg := ⟨fun _ => none,c.gl,fun _ => none⟩
theorem cAm_ok (hm : P.follows .mixedOrders = true) (c : Cfg) : Am.CfgOK P (cAm c) := ⟨hm,fun f m q h => by cases h⟩
def noC : Nat -> List AV -> Heap -> Option (AV × Heap) := fun _ _ _ => none
theorem cAm_call (c : Cfg) : Am.CallOK P (cAm c) noC := fun f m q h => by cases h
end
end Go.Bm

/- Operations that read, and that make blocks and boxes: from the model. -/
namespace Go.Bm
open Go.Am
theorem flatCells_append : ∀ (a b : List AV),flatCells (a ++ b) = flatCells a ++ flatCells b
 | [],b => rfl
 | x :: r,b => by simp [flatCells,flatCells_append r b]
theorem flat_grp (k : Nat) : ∀ (n : Nat) (ys : List AV),n * k <= ys.length -> flatCells (grp k n ys) = ys.take (n * k)
 | 0,ys,_ => by simp [grp,flatCells]
 | n + 1,ys,h => by
   have h' : n * k + k <= ys.length := by rw [Nat.add_mul] at h; omega
   simp only [grp,flatCells,el_cells];rw [flat_grp k n (ys.drop k) (by rw [List.length_drop]; omega),Nat.add_mul,Nat.one_mul,Nat.add_comm,List.take_add]
theorem flat_rep (e : AV) : ∀ n,flatCells (List.replicate n e) = rep e.cells n
 | 0 => rfl
 | n + 1 => by simp [List.replicate_succ,flatCells,rep,flat_rep e n]
theorem rep_map (f : AV -> AV) (zs : List AV) : ∀ n,rep (zs.map f) n = (rep zs n).map f
 | 0 => rfl
 | n + 1 => by simp [rep,rep_map f zs n]
theorem rep_len (zs : List AV) : ∀ n,(rep zs n).length = n * zs.length
 | 0 => by simp [rep]
 | n + 1 => by simp [rep,rep_len zs n,Nat.add_mul]; omega
theorem rep_mem {zs : List AV} {x : AV} : ∀ {n : Nat},x ∈ rep zs n -> x ∈ zs
 | 0,h => by simp [rep] at h
 | n + 1,h => by
   simp only [rep,List.mem_append] at h;rcases h with h | h
   ·exact h
   ·exact rep_mem h
theorem fzL_mem : ∀ {cs : List AV},fzL cs = true -> ∀ x ∈ cs,fz x = true
 | [],_,x,hx => by simp at hx
 | y :: r,h,x,hx => by
   simp only [fzL,Bool.and_eq_true] at h;rcases List.mem_cons.1 hx with e | e
   ·subst e; exact h.1
   ·exact fzL_mem h.2 x e
theorem okL_mem {o : Rt -> Option (Nat × List AV)} {nb : Nat} : ∀ {cs : List AV},okL o nb cs -> ∀ x ∈ cs,okV o nb x
 | [],_,x,hx => by simp at hx
 | y :: r,h,x,hx => by
   rcases List.mem_cons.1 hx with e | e
   ·subst e; exact h.1
   ·exact okL_mem h.2 x e
theorem okL_of_mem {o : Rt -> Option (Nat × List AV)} {nb : Nat} : ∀ {cs : List AV},(∀ x ∈ cs,okV o nb x) -> okL o nb cs
 | [],_ => trivial
 | y :: r,h => ⟨h y (by simp),okL_of_mem fun x hx => h x (by simp [hx])⟩
theorem chkVs_len : ∀ {vs : List Value} {xs : List AV},chkVs vs xs = true -> xs.length = vs.length
 | [],[],_ => rfl
 | [],_ :: _,h => by simp [chkVs] at h
 | _ :: _,[],h => by simp [chkVs] at h
 | v :: r,x :: s,h => by simp only [chkVs,Bool.and_eq_true] at h; simp [chkVs_len h.2]
theorem zs_fz : ∀ {zs : List AV},isC0L (dnVs zs) = true -> allLeaf (dnVs zs) = true -> ∀ z ∈ zs,fz (nilL z) = true
 | [],_,_,z,hz => by simp at hz
 | x :: r,h1,h2,z,hz => by
   simp only [dnVs,isC0L,allLeaf,Bool.and_eq_true] at h1 h2;rcases List.mem_cons.1 hz with e | e
   ·subst e;rcases dn_c (isC0_isC h1.1) with ⟨k,rfl,e⟩ | ⟨hc,e⟩
    ·rfl
    ·rw [e] at h1 h2;have h1' := h1.1;have h2' := h2.1;cases z <;> first | rfl | (simp [isC0] at h1'; done) | (simp [AV.leaf] at h2'; done)
   ·exact zs_fz h1.2 h2.2 z e
theorem rep_pl {R : Addr -> Value -> Prop} {φ : Phi} {x : AV} {v : Value} (h : Rep R φ x v) : φ = [] -> pl x = true := by
 have all : ∀ {cs : List AV} {vs : Array Value},cs.length = vs.size -> (∀ (i : Nat) (c : AV) (v : Value),cs[i]? = some c -> vs[i]? = some v -> pl c = true) -> plL cs = true := by
  intro cs
  induction cs with
  | nil => intro vs _ _; rfl
  | cons x r ih =>
    intro vs hl h;simp only [plL,Bool.and_eq_true];obtain ⟨u,hu⟩ := agetElem?_some_of (l := vs) (i := 0) (by simp at hl; omega);refine ⟨h 0 x u rfl hu,ih (vs := vs.extract 1 vs.size) (by simp at hl ⊢; omega) fun i c v hc hv => ?_⟩;refine h (i + 1) c v (by simpa using hc) ?_;rw [Array.getElem?_extract] at hv;split at hv
    ·rwa [Nat.add_comm] at hv
    ·cases hv
 induction h with
 | agg φ cs vs hl h ih => intro e; simp only [pl]; exact all hl fun i c v h1 h2 => ih i c v h1 h2 e
 | tup φ cs vs hl h ih => intro e; simp only [pl]; exact all hl fun i c v h1 h2 => ih i c v h1 h2 e
 | func φ f as va bs vb hla hlb ha hb iha ihb => intro e; simp only [pl,Bool.and_eq_true]; exact ⟨all hla fun i c v h1 h2 => iha i c v h1 h2 e,all hlb fun i c v h1 h2 => ihb i c v h1 h2 e⟩
 | ptr φ b off a hb h => intro e; subst e; simp at hb
 | sl φ k b off len a cap hb hc h => intro e; subst e; simp at hb
 | _ => intro _; rfl
mutual
theorem ok_pl {o : Rt -> Option (Nat × List AV)} {nb : Nat} : ∀ x,pl x = true -> okV o nb x
 | .agg cs,h => by simp only [pl] at h; exact ok_plL cs h
 | .tup cs,h => by simp only [pl] at h; exact ok_plL cs h
 | .func f a b,h => by simp only [pl,Bool.and_eq_true] at h; exact ⟨ok_plL a h.1,ok_plL b h.2⟩
 | .any,_ => trivial
 | .undef,_ => trivial
 | .nilp,_ => trivial
 | .nilf,_ => trivial
 | .nils,_ => trivial
 | .int _ _,_ => trivial
 | .bool _,_ => trivial
 | .str _,_ => trivial
 | .list _ _,_ => trivial
 | .fptr _,_ => trivial
 | .own _ _,h => by simp [pl] at h
 | .bor _ _ _ _,h => by simp [pl] at h
 | .pto _ _ _ _,h => by simp [pl] at h
 | .ptr _ _,h => by simp [pl] at h
 | .sl _ _ _ _,h => by simp [pl] at h
theorem ok_plL {o : Rt -> Option (Nat × List AV)} {nb : Nat} : ∀ cs,plL cs = true -> okL o nb cs
 | [],_ => trivial
 | x :: r,h => by simp only [plL,Bool.and_eq_true] at h; exact ⟨ok_pl x h.1,ok_plL r h.2⟩
end
theorem hasOwnL_eo : ∀ {ds : List AV},hasOwnL ds = false -> ∀ (j k : Nat) (xs : List AV),ds[j]? ≠ some (.own k xs)
 | [],_,j,k,xs,e => by simp at e
 | y :: r,h,j,k,xs,e => by
   cases j with
   | zero => simp at e; subst e; simp [hasOwnL] at h
   | succ j => exact hasOwnL_eo (ds := r) (by cases y <;> simp [hasOwnL] at h <;> exact h) j k xs (by simpa using e)
theorem hasOwn_eo {x : AV} (h : hasOwn x = false) : EO x := by
 cases x <;> simp only [EO] <;> try (simp [hasOwn] at h; done)
 exact fun j k xs e => absurd e (hasOwnL_eo h j k xs)
theorem rdc_le {ag : Option Nat} {xs ys : List AV} {x : AV} (h : rdc ag xs = some x) (hl : xs.length <= ys.length) (hle : ∀ (i : Nat) (a b : AV),xs[i]? = some a -> ys[i]? = some b -> Le a b) : ∃ y,rdc ag ys = some y /\ Le x y := by
 unfold rdc at h ⊢;cases ag with
 | some k =>
   simp only at h ⊢;split at h
   case isFalse => cases h
   rename_i hk;simp at h;subst h;rw [if_pos (by omega)];refine ⟨_,rfl,Le.agg (by simp; omega) fun i a b ha hb => ?_⟩;rw [List.getElem?_take] at ha hb;split at ha
   ·rename_i hi;rw [if_pos hi] at hb;exact hle i a b ha hb
   ·cases ha
 | none =>
   simp only at h ⊢;cases xs with
   | nil => cases h
   | cons a r =>
     simp at h;subst h;cases ys with
     | nil => simp at hl
     | cons b r' => exact ⟨b,rfl,hle 0 a b rfl rfl⟩
section
variable {P : Program} {X : Nat -> Prop} {φ φ' : Phi} {w w' : World} {N N' : Names} {s s1 : St} {Ha Ha' : Heap} {t : Nat -> Value} {B : Nat -> Nat} {base : Nat} {v va : AV} {v' : Value} {c : Cfg} {o : Oper} {a : Act} {kd : Kd}
theorem elem_len {t : TypeId} {k : Nat} {zs : List AV} (h1 : elemIs P t k = true) (h2 : elemZero P t zs = true) : zs.length = k /\ isC0L zs = true /\ allLeaf zs = true := by
 obtain ⟨e,i,z,hu,hi,hik,hk0,hby,hiz,hzk⟩ := elemIs_spec h1;unfold elemZero at h2;rw [hu] at h2;simp only at h2;refine ⟨?_,(zeroIs_c h2).1,(zeroIs_c h2).2⟩;unfold zeroIs at h2;rw [hi] at h2;simp only [hiz,Bool.and_eq_true] at h2;have := chkVs_len h2.1;rw [this];simpa using hzk
theorem am_op (hm : P.follows .mixedOrders = true) (h : Sim X φ w N s Ha (tm a)) (hg : Am.GlOK (cAm c) X φ w) (hk : chkK P o.op kd = true) {fl : Fp} (hs : aOp (cAm c) noC (trE N s.env) Ha kd = some (va,Ha',fl)) : Ok P X φ w o a va Ha' :=
 op_ok (cAm_ok hm c) (cAm_call c) (fun i => by rw [get_trE]; exact h.env i) hg h.heap hk hs
theorem ok_pure (hm : P.follows .mixedOrders = true) (h : SB X φ w B base s (tm a)) (hg : Am.GlOK (cAm c) X φ w) (hk : chkK P o.op (dnK kd) = true) (hs : opP c s.env kd = some v) : OkB P X φ w B base s v o a := by
 obtain ⟨N,Ha,h,hb⟩ := h;obtain ⟨h1,h2,h3⟩ := pop_ok (cA := cAm c) (call := noC) h rfl hk hs;refine OkB.of (am_op hm h hg hk h1) fun v' w' φ' r hh ad => ?_;exact PutOK.quiet (h.adv ad hh h.own (fun _ _ => rfl)) hb h2 h3 r
theorem ok_new (hm : P.follows .mixedOrders = true) (h : SB X φ w B base s (tm a)) (hg : Am.GlOK (cAm c) X φ w) {zs : List AV} (hk : chkK P o.op (dnK (.new zs)) = true) : OkB P X φ w B base ⟨s.env,s.H ++ [some zs]⟩ (.ptr s.H.length 0) o a := by
 obtain ⟨N,Ha,h,hb,hl⟩ := h;obtain ⟨t,ht⟩ := chk_new hk;obtain ⟨e1,e2⟩ := dnVs_tr N (zeroIs_c ht).1;refine OkB.of (am_op hm h hg hk (by simp only [dnK,aOp]; rfl)) fun v' w' φ' r hh ad => ?_;obtain ⟨N',n1,n2,h'⟩ := h.newbox ad hh (ok_dnVs (zeroIs_c ht).1) e2 e1;refine PutOK.quiet h' ⟨fun b hlt => by rw [n1 b (by omega)]; exact hb b hlt,by simp; omega⟩ (by simp [okV]) trivial ?_;simp only [trQ,trV,n2];exact r
theorem ok_box' (hm : P.follows .mixedOrders = true) (h : SB X φ w B base s (tm a)) (hg : Am.GlOK (cAm c) X φ w) {x : E} (hk : chkK P o.op (dnK (.box x)) = true) (hlf : allLeaf (opnd c s.env x).cells = true) : OkB P X φ w B base ⟨s.env,s.H ++ [some (opnd c s.env x).cells]⟩ (.ptr s.H.length 0) o a := by
 obtain ⟨N,Ha,h,hb,hl⟩ := h;obtain ⟨o',ho⟩ := chk_box hk;have hx := opnd_ok (c := c) (cA := cAm c) h rfl ho;have hc := cells_tr N hx.na;refine OkB.of (am_op hm h hg hk (by simp only [dnK,aOp,hx.ev,hc,allLeaf_tr h hlf (ok_cells hx.ok),if_true]; rfl)) fun v' w' φ' r hh ad => ?_;obtain ⟨N',n1,n2,h'⟩ := h.newbox ad hh (ok_cells hx.ok) hx.EOL rfl;refine PutOK.quiet h' ⟨fun b hlt => by rw [n1 b (by omega)]; exact hb b hlt,by simp; omega⟩ (by simp [okV]) trivial ?_;simp only [trQ,trV,n2];exact r
theorem fresh_ok (h : Sim X φ w N s Ha t) (hb : (∀ b,b < base -> N.β b = B b) /\ base <= s.H.length) (ad : Adv φ w φ' w') {cs : List AV} (hh : HRel X φ' w' (Ha ++ [some cs])) {k : Nat} {xs : List AV} (hlen : xs.length * k <= cs.length) (hk : ∀ x ∈ xs,x.cells.length = k)
  (hc : ∀ (i : Nat) (d : AV),(flatCells xs)[i]? = some d -> fz d = true /\ ∃ e,cs[i]? = some e /\ e.leaf = true /\ Le d e) (r : Rep (Rd X φ' w') φ' (.sl k Ha.length 0 xs.length) v') : PutOK X φ' w' B base s (.own k xs) t v' := by
 refine PutOK.fresh (h.push ad hh) hb (n := Ha.length) ⟨cs,blk_last _ _,hlen,hk,hc⟩ (fun q hq e => ?_) (fun b hb e => ?_) r
 ·have := h.own_lt hq e; omega
 ·have := h.box_lt hb; omega
theorem ok_bslice' (hm : P.follows .mixedOrders = true) (h : SB X φ w B base s (tm a)) (hg : Am.GlOK (cAm c) X φ w) {k n : Nat} {zs cs : List AV} {ps : List (Nat × Nat × E)} (hk : chkK P o.op (dnK (.bslice k n zs ps)) = true) (hf : fillB c s.env (rep zs n) ps = some cs) (hz : fzL (cs.map nilL) = true) :
  OkB P X φ w B base s (.own k (grp k n (cs.map nilL))) o a := by
 obtain ⟨N,Ha,h,hb⟩ := h;obtain ⟨⟨t,ht1,ht2⟩,hq⟩ := chk_bslice hk;obtain ⟨z1,z2,z3⟩ := elem_len ht1 ht2;obtain ⟨e1,e2⟩ := dnVs_tr N z2;have hrep : rep (dnVs zs) n = trOL N (rep zs n) := by rw [e1,trOL_map,trOL_map,rep_map]
 have hzl : zs.length = k := by rw [<- z1,e1,trOL_length]
 have hzok : okL (ownAt s) s.H.length (rep zs n) := okL_of_mem fun x hx => okL_mem (ok_dnVs z2) x (rep_mem hx)
 have hzeo : EOL (rep zs n) := fun j k' xs hj => by
  obtain ⟨i,hi⟩ := List.getElem?_of_mem (rep_mem (List.mem_of_getElem? hj));exact e2 i k' xs hi
 obtain ⟨f1,f2,f3,f4⟩ := fill_ok (cA := cAm c) h rfl hq hzok hzeo hf;have hcl : cs.length = n * k := by rw [f4,rep_len,hzl]
 have hlf : allLeaf cs = true := by
  have : ∀ {l : List AV},(∀ x ∈ l,x.leaf = true) -> allLeaf l = true := by
   intro l
   induction l with
   | nil => intro _; rfl
   | cons y r ih => intro h; simp only [allLeaf,Bool.and_eq_true]; exact ⟨h y (by simp),ih fun x hx => h x (by simp [hx])⟩
  refine this fun x hx => ?_;have := (fz_pl (fzL_mem hz (nilL x) (List.mem_map_of_mem hx))).2;cases x <;> first | exact this | rfl
 have hleaf : ∀ x ∈ cs,x.leaf = true := fun x hx => by
  have := (fz_pl (fzL_mem hz (nilL x) (List.mem_map_of_mem hx))).2;cases x <;> first | exact this | rfl
 refine OkB.of (am_op hm h hg hk (by simp only [dnK,aOp,hrep,f1,allLeaf_tr h hlf f2,if_true]; rfl)) fun v' w' φ' r hh ad => ?_;obtain ⟨g1,g2⟩ := grp_spec k n (cs.map nilL) (by simp [hcl]);refine fresh_ok h hb ad hh (by rw [g1,trOL_length,hcl]; omega) (fun x hx => ?_) (fun i d hd => ?_) (by rw [g1]; exact r)
 ·obtain ⟨i,hi⟩ := List.getElem?_of_mem hx;obtain ⟨q1,q2⟩ := g2 i x hi;rw [q1,List.length_take,List.length_drop,List.length_map,hcl];have : (i + 1) * k <= n * k := Nat.mul_le_mul_right k q2;rw [Nat.add_mul] at this;omega
 ·rw [flat_grp k n _ (by simp [hcl]),<- hcl,show (cs.map nilL).take cs.length = cs.map nilL from List.take_of_length_le (by simp),List.getElem?_map] at hd;cases hc : cs[i]? with
  | none => rw [hc] at hd; cases hd
  | some x =>
    rw [hc] at hd;simp at hd;subst hd;have hfz := fzL_mem hz (nilL x) (List.mem_map_of_mem (List.mem_of_getElem? hc));exact ⟨hfz,trO N x,by rw [trOL_get,hc]; rfl,leaf_tr h (hleaf x (List.mem_of_getElem? hc)) (okL_mem f2 x (List.mem_of_getElem? hc)),le_nilL N hfz (fun k xs e => f3 i k xs (by rw [hc,e]))⟩
theorem ok_mks' (hm : P.follows .mixedOrders = true) (h : SB X φ w B base s (tm a)) (hg : Am.GlOK (cAm c) X φ w) {k : Nat} {zs : List AV} {x y : E} {k1 k2 : IntKind} {l cp : Int} (hk : chkK P o.op (dnK (.mks k zs x y)) = true) (hx : opnd c s.env x = .int k1 l) (hy : opnd c s.env y = .int k2 cp) (hc : 0 <= l /\ l <= cp /\ cp <= (LIM : Int)) :
  OkB P X φ w B base s (.own k (List.replicate l.toNat (el (zs.map nilL)))) o a := by
 obtain ⟨N,Ha,h,hb⟩ := h;obtain ⟨⟨t,ht1,ht2⟩,⟨o1,h1⟩,o2,h2⟩ := chk_mks hk;obtain ⟨z1,z2,z3⟩ := elem_len ht1 ht2;obtain ⟨e1,e2⟩ := dnVs_tr N z2;have hzl : zs.length = k := by rw [<- z1,e1,trOL_length]
 have hx' := (opnd_ok (c := c) (cA := cAm c) h rfl h1).int hx;have hy' := (opnd_ok (c := c) (cA := cAm c) h rfl h2).int hy;refine OkB.of (am_op hm h hg hk (by simp only [dnK,aOp,hx',hy',if_pos hc]; rfl)) fun v' w' φ' r hh ad => ?_;refine fresh_ok h hb ad hh (by rw [List.length_replicate,rep_len,z1]; omega) (fun u hu => ?_) (fun i d hd => ?_) (by rw [List.length_replicate]; exact r)
 ·rw [List.eq_of_mem_replicate hu,el_cells,List.length_map,hzl]
 ·rw [flat_rep,el_cells,rep_map,List.getElem?_map] at hd;cases hc' : (rep zs l.toNat)[i]? with
  | none => rw [hc'] at hd; cases hd
  | some z =>
    rw [hc'] at hd;simp at hd;subst hd;have hmem := rep_mem (List.mem_of_getElem? hc');obtain ⟨j,hj⟩ := List.getElem?_of_mem hmem;have heo : ∀ k xs,z = .own k xs -> xs = [] := fun k xs e => e2 j k xs (by rw [hj,e]);have hfz : fz (nilL z) = true := zs_fz z2 z3 z hmem
    have hlf : (trO N z).leaf = true := by
     have hm' : trO N z ∈ dnVs zs := by rw [e1,trOL_map]; exact List.mem_map_of_mem hmem
     have : ∀ {l : List AV},allLeaf l = true -> ∀ x ∈ l,x.leaf = true := by
      intro l
      induction l with
      | nil => intro _ x hx; simp at hx
      | cons y r ih =>
        intro q x hx;simp only [allLeaf,Bool.and_eq_true] at q;rcases List.mem_cons.1 hx with e | e
        ·subst e; exact q.1
        ·exact ih q.2 x e
     exact this z3 _ hm'
    exact ⟨hfz,trO N z,by rw [e1]; rw [trOL_map,rep_map,List.getElem?_map,hc']; rfl,hlf,le_nilL N hfz heo⟩
theorem boxZ_eq {zs z : List AV} (h : boxZ zs = some z) : dnVs zs = [.nils] /\ ∃ k,z = [.own k []] := by
 unfold boxZ at h;split at h
 case h_2 => cases h
 rename_i k;split at h
 case isFalse => cases h
 simp at h;exact ⟨rfl,_,h.symm⟩
theorem ok_mksb (hm : P.follows .mixedOrders = true) (h : SB X φ w B base s (tm a)) (hg : Am.GlOK (cAm c) X φ w) {k : Nat} {zs z : List AV} {x y : E} {k1 k2 : IntKind} {l cp : Int} (hk : chkK P o.op (dnK (.mks k zs x y)) = true) (hz : boxZ zs = some z) (hx : opnd c s.env x = .int k1 l) (hy : opnd c s.env y = .int k2 cp) (hc : 0 <= l /\ l <= cp /\ cp <= (LIM : Int)) :
  OkB P X φ w B base ⟨s.env,s.H ++ [some (rep z l.toNat)]⟩ (.sl k s.H.length 0 l.toNat) o a := by
 obtain ⟨N,Ha,h,hb,hl⟩ := h;obtain ⟨_,⟨o1,h1⟩,o2,h2⟩ := chk_mks hk;obtain ⟨e1,k',rfl⟩ := boxZ_eq hz;have hx' := (opnd_ok (c := c) (cA := cAm c) h rfl h1).int hx;have hy' := (opnd_ok (c := c) (cA := cAm c) h rfl h2).int hy;refine OkB.of (am_op hm h hg hk (by simp only [dnK,aOp,hx',hy',if_pos hc]; rfl)) fun v' w' φ' r hh ad => ?_
 obtain ⟨N',n1,n2,h'⟩ := h.newbox (zs := rep [.own k' []] l.toNat) ad hh (okL_of_mem fun u hu => by
  have := rep_mem hu;simp at this;subst this;exact trivial) (fun j kk xs hj => by
  have := rep_mem (List.mem_of_getElem? hj);simp at this;exact this.2) (by rw [e1,trOL_map,<- rep_map]; rfl)
 refine PutOK.quiet h' ⟨fun b hlt => by rw [n1 b (by omega)]; exact hb b hlt,by simp; omega⟩ (by simp [okV]) trivial ?_;simp only [trQ,trV,n2];exact r
theorem ld_tr (h : Sim X φ w N s Ha (tm a)) (hg : Am.GlOK (cAm c) X φ w) {ag : Option Nat} {x : E} {ps : List Rt} {o' : Operand} (ho : chkE o' (dnE x) = true) (hs : peek s ag (opnd c s.env x) = some (v,ps)) :
  ∃ va fl,aOp (cAm c) noC (trE N s.env) Ha (dnK (.ld ag x)) = some (va,Ha,fl) /\ Le (trQ N v) va /\ okV (ownAt s) s.H.length v /\ EO v := by
 have hx := opnd_ok (c := c) (cA := cAm c) h rfl ho;have hok := hx.ok
 have fin : ∀ {va : AV} {fl : Fp},aOp (cAm c) noC (trE N s.env) Ha (dnK (.ld ag x)) = some (va,Ha,fl) -> Le (trQ N v) va -> okV (ownAt s) s.H.length v -> EO v -> ∃ va fl,aOp (cAm c) noC (trE N s.env) Ha (dnK (.ld ag x)) = some (va,Ha,fl) /\ Le (trQ N v) va /\ okV (ownAt s) s.H.length v /\ EO v :=
  fun e hle h2 h3 => ⟨_,_,e,hle,h2,h3⟩
 have rdn : ∀ {cs : List AV},rdN ag cs = some v -> rdc ag cs = some v /\ hasOwn v = false := by
  intro cs hu;unfold rdN at hu;split at hu
  case h_2 => cases hu
  rename_i u' hr;split at hu
  ·cases hu
  rename_i hno;simp at hu hno;subst hu;exact ⟨hr,hno⟩
 have plrd : ∀ {cs : List AV},rdc ag cs = some v -> (∀ x ∈ cs,pl x = true) -> pl v = true := by
  intro cs hr hp;unfold rdc at hr;cases ag with
  | some k =>
    simp only at hr;split at hr
    case isFalse => cases hr
    simp at hr;subst hr;simp only [pl]
    have : ∀ {l : List AV},(∀ x ∈ l,pl x = true) -> plL l = true := by
     intro l
     induction l with
     | nil => intro _; rfl
     | cons y r ih => intro h; simp only [plL,Bool.and_eq_true]; exact ⟨h y (by simp),ih fun x hx => h x (by simp [hx])⟩
    exact this fun x hx => hp x (List.mem_of_mem_take hx)
  | none =>
    simp only at hr;cases cs with
    | nil => cases hr
    | cons y r => simp at hr; subst hr; exact hp y (by simp)
 unfold peek at hs;cases e : opnd c s.env x <;> rw [e] at hs hok <;> try (simp at hs; done)
 ·rename_i cs;simp only at hs;split at hs
  case h_2 => cases hs
  rename_i u hu;simp at hs;obtain ⟨rfl,rfl⟩ := hs;obtain ⟨hr,hno⟩ := rdn hu;have r := eval_rep (c := cAm c) (env := trE N s.env) (a := a) (fun i => by rw [get_trE]; exact h.env i) hg ho;rw [hx.ev,e] at r;simp only [trO,trV] at r
  have hpl : ∀ y ∈ cs,pl y = true := by
   intro y hy;obtain ⟨j,hj⟩ := List.getElem?_of_mem hy;generalize a.eval o' = z at r;cases r with
   | fptr _ _ _ u hu h => exact rep_pl (h j y hj) rfl
  have hv := plrd hr hpl;refine fin (va := u) (by simp only [dnK,aOp,hx.ev,e,trO,trV,hr]; rfl) ?_ (ok_pl _ hv) (hasOwn_eo hno);rw [trQ_trV N hno,tr_pl N _ hv];exact Le.refl _
 ·rename_i b off;simp only at hs;split at hs
  case h_2 => cases hs
  rename_i cs hcs;split at hs
  case h_2 => cases hs
  rename_i u hu;simp at hs;obtain ⟨rfl,rfl⟩ := hs;obtain ⟨hr,hno⟩ := rdn hu;obtain ⟨as,g1,g2,g3⟩ := h.box b cs hcs
  have hokL : okL (ownAt s) s.H.length (lendC (.c b) 0 cs) := by
   refine okL_get.2 fun j d hd => ?_;rw [lendC_get] at hd;cases hc : cs[j]? with
   | none => rw [hc] at hd; cases hd
   | some d0 =>
     rw [hc] at hd;simp only [Option.map_some,Option.some.injEq,Nat.zero_add] at hd;subst hd;split
     ·rename_i k xs;simp only [okV];exact ⟨xs,ownAt_iff.2 (by rw [at_c hcs]; exact hc),by omega⟩
     ·exact (g3 j _ hc).1
  obtain ⟨r1,r2,r3,_⟩ := rdN_tr N hu (okL_drop (n := off) hokL);rw [<- trL_drop,tr_lendC] at r1
  obtain ⟨va,q1,q2⟩ := rdc_le (ys := as.drop off) r1 (by simp [trC_length]; omega) (fun i x y hx hy => by
   rw [List.getElem?_drop,trC_get] at hx;rw [List.getElem?_drop] at hy;simp only [Nat.zero_add] at hx;cases hc : cs[off + i]? with
   | none => rw [hc] at hx; cases hx
   | some d =>
     rw [hc] at hx;simp at hx;subst hx;obtain ⟨_,a',a1,a2⟩ := g3 _ d hc;rw [a1] at hy;cases hy;exact a2)
  exact fin (va := va) (by simp only [dnK,aOp,hx.ev,e,trO,trV,g1,q1]; rfl) q2 r2 r3
 ·rename_i k p i off;simp only at hs;split at hs
  case h_2 => cases hs
  rename_i k' xs hp;split at hs
  case isFalse => cases hs
  rename_i hkk;subst hkk;split at hs
  case h_2 => cases hs
  rename_i el' hel;split at hs
  case h_2 => cases hs
  rename_i u hu;simp at hs;obtain ⟨rfl,rfl⟩ := hs;obtain ⟨hr,hno⟩ := rdn hu;obtain ⟨n,hn,e2⟩ := pto_tr h hok;have hown := h.own p k' xs hp;rw [hn] at hown;obtain ⟨cs,c1,c2,c3,c4⟩ := hown;have hcell : ∀ (j : Nat) (d : AV),el'.cells[j]? = some d -> fz d = true /\ ∃ a,cs[i * k' + j]? = some a /\ Le d a := fun j d hd => let ⟨f1,a,f2,_,f3⟩ := c4 _ d (flat_at c3 hel hd); ⟨f1,a,f2,f3⟩
  have hpl : ∀ y ∈ el'.cells.drop off,pl y = true := by
   intro y hy;obtain ⟨j,hj⟩ := List.getElem?_of_mem (List.mem_of_mem_drop hy);exact (fz_pl (hcell j y hj).1).1
  have hv := plrd hr hpl;have hklen : el'.cells.length = k' := c3 el' (List.mem_of_getElem? hel);have hi : (i + 1) * k' <= xs.length * k' := Nat.mul_le_mul_right k' (lt_of_getElem? hel);rw [Nat.add_mul] at hi
  obtain ⟨va,q1,q2⟩ := rdc_le (ys := cs.drop (i * k' + off)) hr (by simp; omega) (fun j x y hx hy => by
   rw [List.getElem?_drop] at hx hy;obtain ⟨_,a',a1,a2⟩ := hcell _ x hx;rw [show i * k' + (off + j) = i * k' + off + j by omega] at a1;rw [a1] at hy;cases hy;exact a2)
  refine fin (va := va) (by simp only [dnK,aOp,hx.ev,e,trO,e2,c1,q1]; rfl) ?_ (ok_pl _ hv) (hasOwn_eo hno);rw [trQ_trV N hno,tr_pl N _ hv];exact q2
theorem ok_ld' (hm : P.follows .mixedOrders = true) (h : SB X φ w B base s (tm a)) (hg : Am.GlOK (cAm c) X φ w) {ag : Option Nat} {x : E} {ps : List Rt} (hk : chkK P o.op (dnK (.ld ag x)) = true) (hs : peek s ag (opnd c s.env x) = some (v,ps)) : OkB P X φ w B base s v o a := by
 obtain ⟨N,Ha,h,hb⟩ := h;obtain ⟨o',ho⟩ := chk_ld hk;obtain ⟨va,fl,e,hle,h2,h3⟩ := ld_tr h hg ho hs;refine OkB.of (am_op hm h hg hk e) fun v' w' φ' r hh ad => ?_;exact PutOK.quiet (h.adv ad hh h.own (fun _ _ => rfl)) hb h2 h3 (hle _ _ _ r)
end
end Go.Bm
