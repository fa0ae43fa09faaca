/- A plain sort of ints; the library's sort as a function that writes into the slice it is given. -/
import Derived.Test.YtmoginoicilobabGreatMe
import Derived.Lib.TrailingZeros
import Derived.Laws.BitsAllLaws
import Derived.Test.YtmoginoicilobabGreatRunX
open Bool renaming true_and → uU
open List renaming drop_succ_cons → UG, drop_zero → dN, getElem?_cons_succ → jm, getElem?_cons_zero → Ln, map_cons → dR, mem_cons → aU, nil_append → lg, pairwise_cons → bc, take_succ_cons → UE, take_zero → qa
open Option.some renaming injEq → ah
namespace Go.Am
def mX : List AV -> Option (List Int)
 | [] => some []
 | .int .i64 n :: r => match mX r with
   | some l => some (n :: l)
   | none => none
 | _ => none
theorem AB : ∀ {cs : List AV} {zs : List Int},mX cs = some zs -> cs = zs.map (AV.int .i64)
 | [],zs,h => by simp [mX] at h; subst h; rfl
 | c :: r,zs,h => by
   unfold mX at h;split at h
   ·rename_i heq; cases heq
   ·rename_i n r' heq;cases heq;split at h
    ·rename_i l hl;simp at h;subst h;rw [AB hl];rfl
    ·cases h
   ·cases h
theorem B3 (zs : List Int) : mX (zs.map (AV.int .i64)) = some zs := by
 induction zs with
 | nil => rfl
 | cons z r ih => simp [mX,ih]
end Go.Am
namespace Go.Bm
open Go.Am
def y8 (x : Int) : List Int -> List Int
 | [] => [x]
 | y :: r => if x <= y then x :: y :: r else y :: y8 x r
def gV : List Int -> List Int
 | [] => []
 | x :: r => y8 x (gV r)
theorem AD (x : Int) : ∀ l,(y8 x l).Perm (x :: l)
 | [] => .refl _
 | y :: r => by
   unfold y8;split
   ·exact .refl _
   ·exact ((AD x r).cons y).trans (List.Perm.swap x y r)
theorem lW : ∀ l,(gV l).Perm l
 | [] => .refl _
 | x :: r => (AD x (gV r)).trans ((lW r).cons x)
theorem aal {x z : Int} {l : List Int} : z ∈ y8 x l ↔ z = x \/ z ∈ l := by
 rw [(AD x l).mem_iff]; simp
theorem Ox (x : Int) : ∀ {l : List Int},l.Pairwise (· <= ·) -> (y8 x l).Pairwise (· <= ·)
 | [],_ => by simp [y8]
 | y :: r,h => by
   obtain ⟨h1,h2⟩ := bc.1 h;unfold y8;split
   ·rename_i hle;refine bc.2 ⟨fun z hz => ?_,h⟩;rcases aU.1 hz with e | e
    ·omega
    ·have := h1 z e; omega
   ·rename_i hle;refine bc.2 ⟨fun z hz => ?_,Ox x h2⟩;rcases aal.1 hz with e | e
    ·omega
    ·exact h1 z e
theorem vq : ∀ l,(gV l).Pairwise (· <= ·)
 | [] => .nil
 | x :: r => Ox x (vq r)
theorem rB (l : List Int) : (gV l).length = l.length := (lW l).length_eq
theorem Cl : ∀ {l m : List Int},l.Perm m -> l.Pairwise (· <= ·) -> m.Pairwise (· <= ·) -> l = m
 | [],m,h,_,_ => (List.Perm.nil_eq h)
 | x :: r,[],h,_,_ => by have := h.length_eq; simp at this
 | x :: r,y :: s,h,h1,h2 => by
   obtain ⟨a1,a2⟩ := bc.1 h1;obtain ⟨b1,b2⟩ := bc.1 h2;have hx : x ∈ y :: s := h.mem_iff.1 (by simp);have hy : y ∈ x :: r := h.mem_iff.2 (by simp)
   have e : x = y := by
    rcases aU.1 hx with e | e
    ·exact e
    ·rcases aU.1 hy with e2 | e2
     ·exact e2.symm
     ·have := a1 y e2; have := b1 x e; omega
   subst e;rw [Cl (List.Perm.cons_inv h) a2 b2]
def UZ (k : Nat) (xs es : List AV) : Option (List AV × Option Nat) :=
 match k,es with
 | 1,[] => if xs.length <= jQ then match mX xs with
   | some zs => some ((gV zs).map (AV.int .i64),none)
   | none => none
   else none
 | _,_ => none
/- Plain facts on strictly rising lists of ints: what sort and compact give, and what a merge gives. -/
set_option linter.unusedVariables false
set_option linter.unusedSimpArgs false
def Up (l : List Int) : Prop := l.Pairwise (· < ·)
def dd : List Int -> List Int
 | [] => []
 | [x] => [x]
 | x :: y :: r => if x = y then dd (y :: r) else x :: dd (y :: r)
theorem Q9 : ∀ (l : List Int) (z : Int),z ∈ dd l ↔ z ∈ l
 | [],z => by simp [dd]
 | [x],z => by simp [dd]
 | x :: y :: r,z => by
   have ih := Q9 (y :: r) z;unfold dd;split
   ·rename_i e; subst e; rw [ih]; simp
   ·rw [aU,ih,aU (a := z) (b := x)]
theorem aaI : ∀ l : List Int,(dd l).length <= l.length
 | [] => by simp [dd]
 | [x] => by simp [dd]
 | x :: y :: r => by
   have ih := aaI (y :: r);unfold dd;split
   ·simp at *; omega
   ·simp at *; omega
theorem aeO : ∀ {l : List Int},l.Pairwise (· <= ·) -> Up (dd l)
 | [],_ => by simp [dd,Up]
 | [x],_ => by simp [dd,Up]
 | x :: y :: r,h => by
   obtain ⟨h1,h2⟩ := bc.1 h;have ih := aeO h2;unfold dd;split
   ·exact ih
   ·rename_i sO;refine bc.2 ⟨fun z hz => ?_,ih⟩;have hz := (Q9 _ _).1 hz;have a := h1 y (by simp);have b := (bc.1 h2).1;rcases aU.1 hz with e | e
    ·subst e; omega
    ·have := b z e; omega
def m7 (zs : List Int) : List Int := dd (gV zs)
theorem ku (zs : List Int) : Up (m7 zs) /\ ∀ x,x ∈ m7 zs ↔ x ∈ zs :=
 ⟨aeO (vq zs),fun x => (Q9 _ _).trans (lW zs).mem_iff⟩
theorem U1 (zs : List Int) : (m7 zs).length <= zs.length := by
 have := aaI (gV zs);rw [rB] at this;exact this
theorem wi {a b : List Int} (ha : Up a) (hb : Up b) (h : ∀ x,x ∈ a ↔ x ∈ b) : a = b := by
 induction a generalizing b with
 | nil =>
   cases b with
   | nil => rfl
   | cons y s => exact absurd ((h y).mpr (by simp)) (by simp)
 | cons x r ih =>
   cases b with
   | nil => exact absurd ((h x).mp (by simp)) (by simp)
   | cons y s =>
     unfold Up at ha hb;rw [bc] at ha hb
     have hxy : x = y := by
      have h1 := (h x).mp (by simp);have h2 := (h y).mpr (by simp);simp only [aU] at h1 h2;rcases h1 with e | e
      ·exact e
      ·rcases h2 with e2 | e2
       ·exact e2.symm
       ·have := ha.1 _ e2;have := hb.1 _ e;omega
     subst hxy;congr 1;refine ih ha.2 hb.2 fun z => ?_;have hz := h z;simp only [aU] at hz;constructor
     ·intro hr;rcases hz.mp (.inr hr) with e | e
      ·have := ha.1 _ hr; omega
      ·exact e
     ·intro hr;rcases hz.mpr (.inr hr) with e | e
      ·have := hb.1 _ hr; omega
      ·exact e
def Zl (c : Bool) (x : Int) (m : List Int) : List Int := if c = true then x :: m else m
def GA (keep : Bool -> Bool -> Bool) : List Int -> List Int -> List Int
 | [],[] => []
 | x :: r,[] => Zl (keep true false) x (GA keep r [])
 | [],y :: s => Zl (keep false true) y (GA keep [] s)
 | x :: r,y :: s =>
   if x < y then Zl (keep true false) x (GA keep r (y :: s))
   else if y < x then Zl (keep false true) y (GA keep (x :: r) s)
   else Zl (keep true true) x (GA keep r s)
termination_by a b => a.length + b.length
theorem tY (keep : Bool -> Bool -> Bool) (z : Int) (m a' b' a b : List Int) (pa pb : Bool) (h1 : Up m) (h2 : ∀ x,x ∈ m ↔ ((x ∈ a' \/ x ∈ b') /\ keep (decide (x ∈ a')) (decide (x ∈ b')) = true)) (bO : ∀ x,x ∈ a' \/ x ∈ b' -> z < x)
  (hp : pa = true \/ pb = true) (ha : ∀ x,x ∈ a ↔ ((x = z /\ pa = true) \/ x ∈ a')) (hb : ∀ x,x ∈ b ↔ ((x = z /\ pb = true) \/ x ∈ b')) {o : List Int} (ho : o = if keep pa pb then z :: m else m) :
  Up o /\ ∀ x,x ∈ o ↔ ((x ∈ a \/ x ∈ b) /\ keep (decide (x ∈ a)) (decide (x ∈ b)) = true) := by
 subst ho;have hza : z ∉ a' := fun h => Int.lt_irrefl _ (bO z (.inl h));have hzb : z ∉ b' := fun h => Int.lt_irrefl _ (bO z (.inr h));have hzm : z ∉ m := fun h => ((h2 z).mp h).1.elim hza hzb;refine ⟨?_,fun x => ?_⟩
 ·split
  ·unfold Up;rw [bc];exact ⟨fun y hy => bO y ((h2 y).mp hy).1,h1⟩
  ·exact h1
 ·by_cases hx : x = z
  ·subst hx;have da : decide (x ∈ a) = pa := by cases pa <;> simp [ha,hza]
   have db : decide (x ∈ b) = pb := by cases pb <;> simp [hb,hzb]
   have hor : x ∈ a \/ x ∈ b := by
    rcases hp with h | h
    ·left; simp [ha,h]
    ·right; simp [hb,h]
   rw [da,db];simp only [hor,true_and];split
   ·rename_i hk;simp [hk]
   ·rename_i hk;simp [hk,hzm]
  ·have da : x ∈ a ↔ x ∈ a' := by simp [ha,hx]
   have db : x ∈ b ↔ x ∈ b' := by simp [hb,hx]
   simp only [da,db];rw [<- h2];split
   ·simp [hx]
   ·rfl
theorem Z2 (keep : Bool -> Bool -> Bool) (a b : List Int) (ha : Up a) (hb : Up b) : Up (GA keep a b) /\ ∀ x,x ∈ GA keep a b ↔ ((x ∈ a \/ x ∈ b) /\ keep (decide (x ∈ a)) (decide (x ∈ b)) = true) := by
 induction a,b using GA.induct with
 | case1 => simp [GA,Up]
 | case2 x r ih =>
   unfold Up at ha;rw [bc] at ha;obtain ⟨h1,h2⟩ := ih ha.2 hb;exact tY keep x (GA keep r []) r [] (x :: r) [] true false h1 h2 (fun y hy => hy.elim (ha.1 y) (fun h => by simp at h)) (.inl rfl) (fun y => by simp) (fun y => by simp) (by rw [GA]; rfl)
 | case3 y s ih =>
   unfold Up at hb;rw [bc] at hb;obtain ⟨h1,h2⟩ := ih ha hb.2;exact tY keep y (GA keep [] s) [] s [] (y :: s) false true h1 h2 (fun x hx => hx.elim (fun h => by simp at h) (hb.1 x)) (.inr rfl) (fun y => by simp) (fun y => by simp) (by rw [GA]; rfl)
 | case4 x r y s bO ih =>
   have Li := ha;have im := hb;unfold Up at ha hb;rw [bc] at ha hb;obtain ⟨h1,h2⟩ := ih ha.2 im
   exact tY keep x (GA keep r (y :: s)) r (y :: s) (x :: r) (y :: s) true false h1 h2 (fun z hz => by
    rcases hz with hz | hz
    ·exact ha.1 z hz
    ·rcases aU.mp hz with e | e
     ·omega
     ·have := hb.1 z e; omega) (.inl rfl) (fun z => by simp) (fun z => by simp) (by rw [GA,if_pos bO]; rfl)
 | case5 x r y s hn bO ih =>
   have Li := ha;have im := hb;unfold Up at ha hb;rw [bc] at ha hb;obtain ⟨h1,h2⟩ := ih Li hb.2
   exact tY keep y (GA keep (x :: r) s) (x :: r) s (x :: r) (y :: s) false true h1 h2 (fun z hz => by
    rcases hz with hz | hz
    ·rcases aU.mp hz with e | e
     ·omega
     ·have := ha.1 z e; omega
    ·exact hb.1 z hz) (.inr rfl) (fun z => by simp) (fun z => by simp) (by rw [GA,if_neg hn,if_pos bO]; rfl)
 | case6 x r y s hn hn2 ih =>
   obtain rfl : x = y := by omega
   unfold Up at ha hb;rw [bc] at ha hb;obtain ⟨h1,h2⟩ := ih ha.2 hb.2
   exact tY keep x (GA keep r s) r s (x :: r) (x :: s) true true h1 h2 (fun z hz => by
    rcases hz with hz | hz
    ·exact ha.1 z hz
    ·exact hb.1 z hz) (.inl rfl) (fun z => by simp) (fun z => by simp) (by rw [GA,if_neg hn,if_neg hn2]; rfl)
def uni (a b : List Int) : List Int := GA (fun _ _ => true) (m7 a) (m7 b)
def meet (a b : List Int) : List Int := GA (fun p r => p && r) (m7 a) (m7 b)
def minus (a b : List Int) : List Int := GA (fun _ r => !r) (m7 a) (m7 b)
theorem vk (a b : List Int) : Up (meet a b) /\ ∀ x,x ∈ meet a b ↔ x ∈ a /\ x ∈ b := by
 obtain ⟨a1,a2⟩ := ku a;obtain ⟨b1,b2⟩ := ku b;obtain ⟨h1,h2⟩ := Z2 (fun p r => p && r) _ _ a1 b1
 exact ⟨h1, fun x => by rw [meet, h2]; simp only [a2, b2, Bool.and_eq_true, decide_eq_true_eq]; constructor
                        ·exact fun h => h.2
                        ·exact fun h => ⟨.inl h.1,h⟩⟩
def gClo : List AV -> Heap -> Option (AV × Heap)
 | [.list 1 []],[] => some (.list 1 [],[])
 | _,_ => none
def cptG (k : Nat) (xs es : List AV) : Option (List AV × Option Nat) :=
 match k,es with
 | 1,[] => if xs.length <= jQ then match mX xs with
   | some zs => some ((dd zs ++ List.replicate (zs.length - (dd zs).length) 0).map (AV.int .i64),some (dd zs).length)
   | none => none
   else none
 | _,_ => none
/- What functions on lists of ints answer, in plain terms. -/
def cmpL : List Int -> List Int -> Int
 | [],[] => 0
 | [],_ :: _ => -1
 | _ :: _,[] => 1
 | x :: r,y :: s => if y < x then 1 else if x < y then -1 else cmpL r s
def ahG (n : Int) : Int -> List Int -> Bool
 | _,[] => true
 | p,x :: r => decide (0 <= x) && (decide (x < n) && (decide (p < x) && ahG n x r))
def prev (l : List Int) (i : Nat) : Int := if i = 0 then -1 else l.getD (i - 1) 0
def oE (x : Int) : List Int -> List Int
 | [] => [x]
 | y :: r => if y < x then y :: oE x r else if y = x then y :: r else x :: y :: r
theorem Nw (x : Int) : ∀ l,(oE x l).length <= l.length + 1
 | [] => by simp [oE]
 | y :: r => by
   have := Nw x r;unfold oE;split
   ·simp; omega
   ·split <;> simp
theorem EG (x z : Int) : ∀ l,z ∈ oE x l ↔ z = x \/ z ∈ l
 | [] => by simp [oE]
 | y :: r => by
   have ih := EG x z r;unfold oE;split
   ·simp only [aU,ih]; constructor <;> (intro h; rcases h with h | h | h <;> simp [h])
   ·split
    ·rename_i e; subst e; simp
    ·simp
theorem Th (x : Int) : ∀ {l},Up l -> Up (oE x l)
 | [],_ => by simp [oE,Up]
 | y :: r,h => by
   obtain ⟨h1,h2⟩ := bc.1 h;unfold oE;split
   ·rename_i bO;refine bc.2 ⟨fun z hz => ?_,Th x h2⟩;rcases (EG x z r).1 hz with e | e
    ·omega
    ·exact h1 z e
   ·split
    ·exact h
    ·refine bc.2 ⟨fun z hz => ?_,h⟩;rcases aU.1 hz with e | e
     ·omega
     ·have := h1 z e; omega
def pos (x : Int) : List Int -> Nat
 | [] => 0
 | y :: r => if y < x then pos x r + 1 else 0
theorem Zo (x : Int) : ∀ l,pos x l <= l.length
 | [] => by simp [pos]
 | y :: r => by have := Zo x r; unfold pos; split <;> simp <;> omega
theorem Nv (x : Int) : ∀ l,oE x l = if l[pos x l]? = some x then l else l.take (pos x l) ++ x :: l.drop (pos x l)
 | [] => by simp [oE,pos]
 | y :: r => by
   have ih := Nv x r;unfold oE pos;split
   ·rw [ih];simp only [jm,UE,UG];split <;> simp
   ·simp only [Ln,ah,qa,dN,lg]
def ofL (l : List Int) : List Int := l.foldl (fun o x => oE x o) []
theorem Ui : ∀ (l o : List Int),Up o -> Up (l.foldl (fun o x => oE x o) o) /\ ∀ z,z ∈ l.foldl (fun o x => oE x o) o ↔ z ∈ o \/ z ∈ l
 | [],o,h => ⟨h,fun z => by simp⟩
 | x :: r,o,h => by
   obtain ⟨h1,h2⟩ := Ui r (oE x o) (Th x h);refine ⟨h1,fun z => ?_⟩;rw [List.foldl_cons,h2,EG];simp only [aU];constructor
   ·rintro ((h | h) | h) <;> simp [h]
   ·rintro (h | h | h) <;> simp [h]
theorem agW (l : List Int) : ofL l = m7 l := by
 obtain ⟨h1,h2⟩ := Ui l [] (by simp [Up]);obtain ⟨h3,h4⟩ := ku l;exact wi h1 h3 fun x => by rw [h4]; exact (h2 x).trans (by simp)
/- Sets of nodes as bits: plain facts. -/
def tz (x : Nat) : Nat := Lib.ctz 64 x
def Pf (m : Nat) : List Int := ((List.range 64).filter fun j => m.testBit j).map fun j => ((j : Nat) : Int)
def mskF (l : List Int) (m : Nat) : Nat := l.foldl (fun m v => m ||| 2 ^ v.toNat) m
def msk (l : List Int) : Nat := mskF l 0
/-! Operations of uint64 -/
theorem RF {n : Nat} (h : n < 18446744073709551616) : IntKind.u64.wrap (n : Int) = (n : Int) := by rw [IntKind.wrap_u64]; omega
theorem shlU {v : Int} (h0 : 0 <= v) (h1 : v < 64) : IntKind.u64.wrap (1 * 2 ^ (min v.toNat 64)) = ((2 ^ v.toNat : Nat) : Int) := by
 have e : min v.toNat 64 = v.toNat := by omega
 have h2 : 2 ^ v.toNat < 2 ^ 64 := Nat.pow_lt_pow_right (by decide) (by omega);rw [e,Int.one_mul,show ((2 : Int) ^ v.toNat) = ((2 ^ v.toNat : Nat) : Int) by simp,RF h2]
/- Edges and graphs: plain facts. -/
abbrev Ed := Int × Int
def dj (e : Ed) : AV := .agg [.int .i64 e.1,.int .i64 e.2]
def bm (l : List Ed) : List AV := l.map dj
theorem av (l : List Ed) : (bm l).length = l.length := List.length_map _
theorem aX (l : List Ed) (i : Nat) : (bm l)[i]? = (l[i]?).map dj := List.getElem?_map
theorem bV (l : List Ed) (i : Nat) (h : i < (bm l).length) : (bm l)[i] = dj (l[i]'(by simpa [bm] using h)) := by simp [bm]
theorem pC : bm [] = [] := rfl
theorem OX (x : Ed) (l : List Ed) : bm (x :: l) = .agg [.int .i64 x.1,.int .i64 x.2] :: bm l := rfl
theorem FD (l : List Ed) (x : Ed) : bm l ++ [.agg [.int .i64 x.1,.int .i64 x.2]] = bm (l ++ [x]) := by simp [bm,dj]
theorem AZ (l : List Ed) (u v : Int) : bm l ++ [.agg [.int .i64 u,.int .i64 v]] = bm (l ++ [(u,v)]) := by simp [bm,dj]
theorem KJ (l m : List Ed) : bm l ++ bm m = bm (l ++ m) := by simp [bm]
theorem oO (l : List Ed) (n : Nat) : (bm l).take n = bm (l.take n) := by simp [bm]
theorem FE (l : List Ed) (n : Nat) : (bm l).drop n = bm (l.drop n) := by simp [bm]
theorem aD (l : List Ed) : bq (aA (bm l)) = true := by
 induction l with
 | nil => rfl
 | cons x r ih => simp only [bm,dR,aA,dj,AV.cells,List.cons_append,lg,bq,AV.leaf,uU] at ih ⊢; exact ih
theorem aI (l : List Ed) : fK (bm l) = true := by
 induction l with
 | nil => rfl
 | cons x r ih => simp only [bm,dR,dj,fK,clean,uU,Bool.and_true] at ih ⊢; exact ih
theorem aG (l : List Int) : fK (ints l) = true := by
 induction l with
 | nil => rfl
 | cons x r ih => simp only [ints,dR,fK,clean] at ih ⊢; rw [ih]; rfl
def vm (a b : Ed) : Prop := a.1 < b.1 \/ a.1 = b.1 /\ a.2 < b.2
instance (a b : Ed) : Decidable (vm a b) := by unfold vm; infer_instance
theorem qB {a b c : Ed} (h : vm a b) (k : vm b c) : vm a c := by unfold vm at *; omega
theorem vl {a : Ed} : ¬ vm a a := by unfold vm; omega
theorem acm {a b : Ed} (h : ¬ vm a b) (k : a ≠ b) : vm b a := by
 unfold vm at *
 have : a.1 ≠ b.1 \/ a.2 ≠ b.2 := by
  rcases Decidable.em (a.1 = b.1) with h1 | h1
  ·right; intro h2; exact k (Prod.ext h1 h2)
  ·left; exact h1
 omega
def CC (l : List Ed) : Prop := l.Pairwise vm
theorem IZ : ∀ {a b : List Ed},CC a -> CC b -> (∀ x,x ∈ a ↔ x ∈ b) -> a = b
 | [],[],_,_,_ => rfl
 | [],y :: s,_,_,h => absurd ((h y).2 (by simp)) (by simp)
 | x :: r,[],_,_,h => absurd ((h x).1 (by simp)) (by simp)
 | x :: r,y :: s,ha,hb,h => by
   obtain ⟨a1,a2⟩ := bc.1 ha;obtain ⟨b1,b2⟩ := bc.1 hb
   have e : x = y := by
    rcases aU.1 ((h x).1 (by simp)) with e | e
    ·exact e
    ·rcases aU.1 ((h y).2 (by simp)) with e2 | e2
     ·exact e2.symm
     ·exact absurd (qB (a1 y e2) (b1 x e)) vl
   subst e;congr 1;refine IZ a2 b2 fun z => ?_;have hz := h z;simp only [aU] at hz;constructor
   ·intro hr;rcases hz.1 (.inr hr) with e | e
    ·subst e; exact absurd (a1 z hr) vl
    ·exact e
   ·intro hr;rcases hz.2 (.inr hr) with e | e
    ·subst e; exact absurd (b1 z hr) vl
    ·exact e
def fE (x : Ed) : List Ed -> List Ed
 | [] => [x]
 | y :: r => if vm y x then y :: fE x r else if y = x then y :: r else x :: y :: r
theorem yF (x : Ed) : ∀ l,(fE x l).length <= l.length + 1
 | [] => by simp [fE]
 | y :: r => by
   have := yF x r;unfold fE;split
   ·simp; omega
   ·split <;> simp
theorem qm (x z : Ed) : ∀ l,z ∈ fE x l ↔ z = x \/ z ∈ l
 | [] => by simp [fE]
 | y :: r => by
   have ih := qm x z r;unfold fE;split
   ·simp only [aU,ih]; constructor <;> (intro h; rcases h with h | h | h <;> simp [h])
   ·split
    ·rename_i e; subst e; simp
    ·simp
theorem JY (x : Ed) : ∀ {l},CC l -> CC (fE x l)
 | [],_ => by simp [fE,CC]
 | y :: r,h => by
   obtain ⟨h1,h2⟩ := bc.1 h;unfold fE;split
   ·rename_i bO;refine bc.2 ⟨fun z hz => ?_,JY x h2⟩;rcases (qm x z r).1 hz with e | e
    ·subst e; exact bO
    ·exact h1 z e
   ·rename_i bO;split
    ·exact h
    ·rename_i sO;have := acm bO sO;refine bc.2 ⟨fun z hz => ?_,h⟩;rcases aU.1 hz with e | e
     ·subst e; exact this
     ·exact qB this (h1 z e)
def dP (x : Ed) : List Ed -> Nat
 | [] => 0
 | y :: r => if vm y x then dP x r + 1 else 0
theorem yI (x : Ed) : ∀ l,dP x l <= l.length
 | [] => by simp [dP]
 | y :: r => by have := yI x r; unfold dP; split <;> simp <;> omega
theorem EH (x : Ed) : ∀ l,fE x l = if l[dP x l]? = some x then l else l.take (dP x l) ++ x :: l.drop (dP x l)
 | [] => by simp [fE,dP]
 | y :: r => by
   have ih := EH x r;unfold fE dP;split
   ·rw [ih];simp only [jm,UE,UG];split <;> simp
   ·simp only [Ln,ah,qa,dN,lg]
def bw (u v : Int) : Ed := (if v < u then v else u,if u < v then v else u)
def ofE (l : List Ed) (o : List Ed) : List Ed := l.foldl (fun o e => fE (bw e.1 e.2) o) o
def Ge : Option Ed -> Ed -> Prop
 | none,_ => False
 | some q,e => ¬ vm q e
instance : ∀ p e,Decidable (Ge p e)
 | none,_ => instDecidableFalse
 | some q,e => inferInstanceAs (Decidable (¬ vm q e))
def fe (n : Int) : Option Ed -> List Ed -> Int
 | _,[] => 0
 | p,e :: r => if e.1 < 0 \/ e.2 <= e.1 \/ n <= e.2 then 6 else if Ge p e then 5 else fe n (some e) r
def rI (n : Int) (l : List Ed) : Int := if n < 0 \/ 64 < n then 1 else fe n none l
theorem FR (n : Int) : ∀ {l : List Ed} {p : Option Ed},fe n p l = 0 ↔ CC l /\ (∀ e ∈ l,0 <= e.1 /\ e.1 < e.2 /\ e.2 < n) /\ ∀ q,p = some q -> ∀ e ∈ l,vm q e
 | [],p => by simp [fe,CC]
 | e :: r,p => by
   have ih := FR n (l := r) (p := some e);unfold fe;by_cases h1 : e.1 < 0 \/ e.2 <= e.1 \/ n <= e.2
   ·rw [if_pos h1];constructor
    ·intro h; cases h
    ·rintro ⟨_,h,_⟩; have := h e (by simp); omega
   ·rw [if_neg h1];cases p with
    | none =>
      rw [if_neg (show ¬ Ge none e from fun h => h),ih];simp only [CC,bc,aU,forall_eq_or_imp];constructor
      ·rintro ⟨a,b,c⟩; exact ⟨⟨fun z hz => c e rfl z hz,a⟩,⟨by omega,b⟩,fun q hq => by cases hq⟩
      ·rintro ⟨⟨a,b⟩,⟨c,d⟩,f⟩; exact ⟨b,d,fun q hq => by cases hq; exact a⟩
    | some q =>
      by_cases h2 : vm q e
      ·rw [if_neg (show ¬ Ge (some q) e from fun h => h h2),ih];simp only [CC,bc,aU,forall_eq_or_imp];constructor
       ·rintro ⟨a,b,c⟩;exact ⟨⟨fun z hz => c e rfl z hz,a⟩,⟨by omega,b⟩,fun q' hq => by cases hq; exact ⟨h2,fun z hz => qB h2 (c e rfl z hz)⟩⟩
       ·rintro ⟨⟨a,b⟩,⟨c,d⟩,f⟩; exact ⟨b,d,fun q hq => by cases hq; exact a⟩
      ·rw [if_pos (show Ge (some q) e from h2)];constructor
       ·intro h; cases h
       ·rintro ⟨_,_,h⟩; exact absurd (h q rfl e (by simp)) h2
def gK (n : Int) (l : List Ed) : Prop := (0 <= n /\ n <= 64) /\ CC l /\ ∀ e ∈ l,0 <= e.1 /\ e.1 < e.2 /\ e.2 < n
theorem eK {n : Int} {l : List Ed} : rI n l = 0 ↔ gK n l := by
 unfold rI gK;by_cases h : n < 0 \/ 64 < n
 ·rw [if_pos h]; constructor
  ·intro h; cases h
  ·rintro ⟨h2,_⟩; omega
 ·rw [if_neg h,FR];constructor
  ·rintro ⟨a,b,_⟩; exact ⟨by omega,a,b⟩
  ·rintro ⟨_,a,b⟩; exact ⟨a,b,fun q hq => by cases hq⟩
end Go.Bm
