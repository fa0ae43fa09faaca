/- A plain sort of ints; the library's sort as a function that writes into the slice it is given. -/
import Derived.Test.YtppmiehidnpgbaaGreatDoorMe
import Derived.Lib.TrailingZeros
import Derived.Laws.BitsAllLaws
import Derived.Test.YtppmiehidnpgbaaGreatDoorRunX
open Bool renaming and_eq_true → ae, eq_iff_iff → rj, true_and → eh
open Int renaming lt_irrefl → Ve
open List renaming foldl_cons → ib, length_map → gF, map_cons → jE, mem_cons → aK, nil_append → yA, pairwise_cons → aX
open Nat renaming testBit_two_pow_sub_one → dm, two_pow_pos → L4
open Option.some renaming injEq → ah
namespace Go.Am
def jr : List AV -> Option (List Int)
 | [] => some []
 | .int .i64 n :: r => match jr r with
   | some l => some (n :: l)
   | none => none
 | _ => none
theorem rW : ∀ {cs : List AV} {zs : List Int},jr cs = some zs -> cs = zs.map (AV.int .i64)
 | [],zs,h => by simp [jr] at h; subst h; rfl
 | c :: r,zs,h => by
   unfold jr at h;split at h
   ·rename_i heq; cases heq
   ·rename_i n r' heq;cases heq;split at h
    ·rename_i l hl;simp at h;subst h;rw [rW hl];rfl
    ·cases h
   ·cases h
theorem k8 (zs : List Int) : jr (zs.map (AV.int .i64)) = some zs := by
 induction zs with
 | nil => rfl
 | cons z r ih => simp [jr,ih]
end Go.Am
namespace Go.Bm
open Go.Am
def NJ (x : Int) : List Int -> List Int
 | [] => [x]
 | y :: r => if x <= y then x :: y :: r else y :: NJ x r
def gY : List Int -> List Int
 | [] => []
 | x :: r => NJ x (gY r)
theorem A0 (x : Int) : ∀ l,(NJ x l).Perm (x :: l)
 | [] => .refl _
 | y :: r => by
   unfold NJ;split
   ·exact .refl _
   ·exact ((A0 x r).cons y).trans (List.Perm.swap x y r)
theorem jT : ∀ l,(gY l).Perm l
 | [] => .refl _
 | x :: r => (A0 x (gY r)).trans ((jT r).cons x)
theorem Zi {x z : Int} {l : List Int} : z ∈ NJ x l ↔ z = x \/ z ∈ l := by
 rw [(A0 x l).mem_iff]; simp
theorem NI (x : Int) : ∀ {l : List Int},l.Pairwise (· <= ·) -> (NJ x l).Pairwise (· <= ·)
 | [],_ => by simp [NJ]
 | y :: r,h => by
   obtain ⟨h1,h2⟩ := aX.1 h;unfold NJ;split
   ·rename_i hle;refine aX.2 ⟨fun z hz => ?_,h⟩;rcases aK.1 hz with e | e
    ·omega
    ·have := h1 z e; omega
   ·rename_i hle;refine aX.2 ⟨fun z hz => ?_,NI x h2⟩;rcases Zi.1 hz with e | e
    ·omega
    ·exact h1 z e
theorem rV : ∀ l,(gY l).Pairwise (· <= ·)
 | [] => .nil
 | x :: r => NI x (rV r)
theorem j9 (l : List Int) : (gY l).length = l.length := (jT l).length_eq
theorem Co : ∀ {l m : List Int},l.Perm m -> l.Pairwise (· <= ·) -> m.Pairwise (· <= ·) -> l = m
 | [],m,h,_,_ => (List.Perm.nil_eq h)
 | x :: r,[],h,_,_ => by have := h.length_eq; simp at this
 | x :: r,y :: s,h,h1,h2 => by
   obtain ⟨a1,a2⟩ := aX.1 h1;obtain ⟨b1,b2⟩ := aX.1 h2;have hx : x ∈ y :: s := h.mem_iff.1 (by simp);have hy : y ∈ x :: r := h.mem_iff.2 (by simp)
   have e : x = y := by
    rcases aK.1 hx with e | e
    ·exact e
    ·rcases aK.1 hy with e2 | e2
     ·exact e2.symm
     ·have := a1 y e2; have := b1 x e; omega
   subst e;rw [Co (List.Perm.cons_inv h) a2 b2]
def Pn (k : Nat) (xs es : List AV) : Option (List AV × Option Nat) :=
 match k,es with
 | 1,[] => if xs.length <= lj then match jr xs with
   | some zs => some ((gY zs).map (AV.int .i64),none)
   | none => none
   else none
 | _,_ => none
/- Plain facts on strictly rising lists of ints: what sort and compact give, and what a merge gives. -/
set_option linter.unusedVariables false
set_option linter.unusedSimpArgs false
def Up (l : List Int) : Prop := l.Pairwise (· < ·)
def dd : List Int -> List Int
 | [] => []
 | [x] => [x]
 | x :: y :: r => if x = y then dd (y :: r) else x :: dd (y :: r)
theorem QH : ∀ (l : List Int) (z : Int),z ∈ dd l ↔ z ∈ l
 | [],z => by simp [dd]
 | [x],z => by simp [dd]
 | x :: y :: r,z => by
   have ih := QH (y :: r) z;unfold dd;split
   ·rename_i e; subst e; rw [ih]; simp
   ·rw [aK,ih,aK (a := z) (b := x)]
theorem QI : ∀ l : List Int,(dd l).length <= l.length
 | [] => by simp [dd]
 | [x] => by simp [dd]
 | x :: y :: r => by
   have ih := QI (y :: r);unfold dd;split
   ·simp at *; omega
   ·simp at *; omega
theorem aeC : ∀ {l : List Int},l.Pairwise (· <= ·) -> Up (dd l)
 | [],_ => by simp [dd,Up]
 | [x],_ => by simp [dd,Up]
 | x :: y :: r,h => by
   obtain ⟨h1,h2⟩ := aX.1 h;have ih := aeC h2;unfold dd;split
   ·exact ih
   ·rename_i mW;refine aX.2 ⟨fun z hz => ?_,ih⟩;have hz := (QH _ _).1 hz;have a := h1 y (by simp);have b := (aX.1 h2).1;rcases aK.1 hz with e | e
    ·subst e; omega
    ·have := b z e; omega
def bZ (zs : List Int) : List Int := dd (gY zs)
theorem dC (zs : List Int) : Up (bZ zs) /\ ∀ x,x ∈ bZ zs ↔ x ∈ zs :=
 ⟨aeC (rV zs),fun x => (QH _ _).trans (jT zs).mem_iff⟩
theorem iu (zs : List Int) : (bZ zs).length <= zs.length := by
 have := QI (gY zs);rw [j9] at this;exact this
theorem qW {a b : List Int} (ha : Up a) (hb : Up b) (h : ∀ x,x ∈ a ↔ x ∈ b) : a = b := by
 induction a generalizing b with
 | nil =>
   cases b with
   | nil => rfl
   | cons y s => exact absurd ((h y).mpr (by simp)) (by simp)
 | cons x r ih =>
   cases b with
   | nil => exact absurd ((h x).mp (by simp)) (by simp)
   | cons y s =>
     unfold Up at ha hb;rw [aX] at ha hb
     have hxy : x = y := by
      have h1 := (h x).mp (by simp);have h2 := (h y).mpr (by simp);simp only [aK] at h1 h2;rcases h1 with e | e
      ·exact e
      ·rcases h2 with e2 | e2
       ·exact e2.symm
       ·have := ha.1 _ e2;have := hb.1 _ e;omega
     subst hxy;congr 1;refine ih ha.2 hb.2 fun z => ?_;have hz := h z;simp only [aK] at hz;constructor
     ·intro hr;rcases hz.mp (.inr hr) with e | e
      ·have := ha.1 _ hr; omega
      ·exact e
     ·intro hr;rcases hz.mpr (.inr hr) with e | e
      ·have := hb.1 _ hr; omega
      ·exact e
def o8 (c : Bool) (x : Int) (m : List Int) : List Int := if c = true then x :: m else m
def ug (keep : Bool -> Bool -> Bool) : List Int -> List Int -> List Int
 | [],[] => []
 | x :: r,[] => o8 (keep true false) x (ug keep r [])
 | [],y :: s => o8 (keep false true) y (ug keep [] s)
 | x :: r,y :: s =>
   if x < y then o8 (keep true false) x (ug keep r (y :: s))
   else if y < x then o8 (keep false true) y (ug keep (x :: r) s)
   else o8 (keep true true) x (ug keep r s)
termination_by a b => a.length + b.length
theorem vd (keep : Bool -> Bool -> Bool) (z : Int) (m a' b' a b : List Int) (pa pb : Bool) (h1 : Up m) (h2 : ∀ x,x ∈ m ↔ ((x ∈ a' \/ x ∈ b') /\ keep (decide (x ∈ a')) (decide (x ∈ b')) = true)) (bL : ∀ x,x ∈ a' \/ x ∈ b' -> z < x)
  (hp : pa = true \/ pb = true) (ha : ∀ x,x ∈ a ↔ ((x = z /\ pa = true) \/ x ∈ a')) (hb : ∀ x,x ∈ b ↔ ((x = z /\ pb = true) \/ x ∈ b')) {o : List Int} (ho : o = if keep pa pb then z :: m else m) :
  Up o /\ ∀ x,x ∈ o ↔ ((x ∈ a \/ x ∈ b) /\ keep (decide (x ∈ a)) (decide (x ∈ b)) = true) := by
 subst ho;have hza : z ∉ a' := fun h => Ve _ (bL z (.inl h));have hzb : z ∉ b' := fun h => Ve _ (bL z (.inr h));have hzm : z ∉ m := fun h => ((h2 z).mp h).1.elim hza hzb;refine ⟨?_,fun x => ?_⟩
 ·split
  ·unfold Up;rw [aX];exact ⟨fun y hy => bL y ((h2 y).mp hy).1,h1⟩
  ·exact h1
 ·by_cases hx : x = z
  ·subst hx;have da : decide (x ∈ a) = pa := by cases pa <;> simp [ha,hza]
   have db : decide (x ∈ b) = pb := by cases pb <;> simp [hb,hzb]
   have hor : x ∈ a \/ x ∈ b := by
    rcases hp with h | h
    ·left; simp [ha,h]
    ·right; simp [hb,h]
   rw [da,db];simp only [hor,true_and];split
   ·rename_i hk;simp [hk]
   ·rename_i hk;simp [hk,hzm]
  ·have da : x ∈ a ↔ x ∈ a' := by simp [ha,hx]
   have db : x ∈ b ↔ x ∈ b' := by simp [hb,hx]
   simp only [da,db];rw [<- h2];split
   ·simp [hx]
   ·rfl
theorem FM (keep : Bool -> Bool -> Bool) (a b : List Int) (ha : Up a) (hb : Up b) : Up (ug keep a b) /\ ∀ x,x ∈ ug keep a b ↔ ((x ∈ a \/ x ∈ b) /\ keep (decide (x ∈ a)) (decide (x ∈ b)) = true) := by
 induction a,b using ug.induct with
 | case1 => simp [ug,Up]
 | case2 x r ih =>
   unfold Up at ha;rw [aX] at ha;obtain ⟨h1,h2⟩ := ih ha.2 hb;exact vd keep x (ug keep r []) r [] (x :: r) [] true false h1 h2 (fun y hy => hy.elim (ha.1 y) (fun h => by simp at h)) (.inl rfl) (fun y => by simp) (fun y => by simp) (by rw [ug]; rfl)
 | case3 y s ih =>
   unfold Up at hb;rw [aX] at hb;obtain ⟨h1,h2⟩ := ih ha hb.2;exact vd keep y (ug keep [] s) [] s [] (y :: s) false true h1 h2 (fun x hx => hx.elim (fun h => by simp at h) (hb.1 x)) (.inr rfl) (fun y => by simp) (fun y => by simp) (by rw [ug]; rfl)
 | case4 x r y s bL ih =>
   have C7 := ha;have ia := hb;unfold Up at ha hb;rw [aX] at ha hb;obtain ⟨h1,h2⟩ := ih ha.2 ia
   exact vd keep x (ug keep r (y :: s)) r (y :: s) (x :: r) (y :: s) true false h1 h2 (fun z hz => by
    rcases hz with hz | hz
    ·exact ha.1 z hz
    ·rcases aK.mp hz with e | e
     ·omega
     ·have := hb.1 z e; omega) (.inl rfl) (fun z => by simp) (fun z => by simp) (by rw [ug,if_pos bL]; rfl)
 | case5 x r y s hn bL ih =>
   have C7 := ha;have ia := hb;unfold Up at ha hb;rw [aX] at ha hb;obtain ⟨h1,h2⟩ := ih C7 hb.2
   exact vd keep y (ug keep (x :: r) s) (x :: r) s (x :: r) (y :: s) false true h1 h2 (fun z hz => by
    rcases hz with hz | hz
    ·rcases aK.mp hz with e | e
     ·omega
     ·have := ha.1 z e; omega
    ·exact hb.1 z hz) (.inr rfl) (fun z => by simp) (fun z => by simp) (by rw [ug,if_neg hn,if_pos bL]; rfl)
 | case6 x r y s hn hn2 ih =>
   obtain rfl : x = y := by omega
   unfold Up at ha hb;rw [aX] at ha hb;obtain ⟨h1,h2⟩ := ih ha.2 hb.2
   exact vd keep x (ug keep r s) r s (x :: r) (x :: s) true true h1 h2 (fun z hz => by
    rcases hz with hz | hz
    ·exact ha.1 z hz
    ·exact hb.1 z hz) (.inl rfl) (fun z => by simp) (fun z => by simp) (by rw [ug,if_neg hn,if_neg hn2]; rfl)
def uni (a b : List Int) : List Int := ug (fun _ _ => true) (bZ a) (bZ b)
def meet (a b : List Int) : List Int := ug (fun p r => p && r) (bZ a) (bZ b)
def minus (a b : List Int) : List Int := ug (fun _ r => !r) (bZ a) (bZ b)
theorem L9 (a b : List Int) : Up (uni a b) /\ ∀ x,x ∈ uni a b ↔ x ∈ a \/ x ∈ b := by
 obtain ⟨a1,a2⟩ := dC a;obtain ⟨b1,b2⟩ := dC b;obtain ⟨h1,h2⟩ := FM (fun _ _ => true) _ _ a1 b1;exact ⟨h1,fun x => by rw [uni,h2]; simp [a2,b2]⟩
theorem AO (a b : List Int) : Up (meet a b) /\ ∀ x,x ∈ meet a b ↔ x ∈ a /\ x ∈ b := by
 obtain ⟨a1,a2⟩ := dC a;obtain ⟨b1,b2⟩ := dC b;obtain ⟨h1,h2⟩ := FM (fun p r => p && r) _ _ a1 b1
 exact ⟨h1, fun x => by rw [meet, h2]; simp only [a2, b2, ae, decide_eq_true_eq]; constructor
                        ·exact fun h => h.2
                        ·exact fun h => ⟨.inl h.1,h⟩⟩
theorem sU (a b : List Int) : Up (minus a b) /\ ∀ x,x ∈ minus a b ↔ x ∈ a /\ x ∉ b := by
 obtain ⟨a1,a2⟩ := dC a;obtain ⟨b1,b2⟩ := dC b;obtain ⟨h1,h2⟩ := FM (fun _ r => !r) _ _ a1 b1
 exact ⟨h1,fun x => by
  rw [minus,h2];simp only [a2,b2];by_cases hb : x ∈ b <;> simp [hb]⟩
def Wg : List AV -> Heap -> Option (AV × Heap)
 | [.list 1 []],[] => some (.list 1 [],[])
 | _,_ => none
def QJ (k : Nat) (xs es : List AV) : Option (List AV × Option Nat) :=
 match k,es with
 | 1,[] => if xs.length <= lj then match jr xs with
   | some zs => some ((dd zs ++ List.replicate (zs.length - (dd zs).length) 0).map (AV.int .i64),some (dd zs).length)
   | none => none
   else none
 | _,_ => none
/- What functions on lists of ints answer, in plain terms. -/
def sy : List Int -> List Int -> Int
 | [],[] => 0
 | [],_ :: _ => -1
 | _ :: _,[] => 1
 | x :: r,y :: s => if y < x then 1 else if x < y then -1 else sy r s
theorem JA : ∀ {a b : List Int},sy a b = 0 ↔ a = b
 | [],[] => by simp [sy]
 | [],_ :: _ => by simp [sy]
 | _ :: _,[] => by simp [sy]
 | x :: r,y :: s => by
   have ih := JA (a := r) (b := s);unfold sy;split
   ·rename_i h; simp; intro e; omega
   ·split
    ·rename_i h; simp; intro e; omega
    ·rw [ih]; simp; intro _; omega
def mf (n : Int) : Int -> List Int -> Bool
 | _,[] => true
 | p,x :: r => decide (0 <= x) && (decide (x < n) && (decide (p < x) && mf n x r))
theorem vT (n : Int) : ∀ {l : List Int} {p : Int},mf n p l = true ↔ Up l /\ ∀ x ∈ l,p < x /\ 0 <= x /\ x < n
 | [],p => by simp [mf,Up]
 | x :: r,p => by
   have ih := vT n (l := r) (p := x);simp only [mf,ae,decide_eq_true_eq,ih,Up,aX,aK,forall_eq_or_imp];constructor
   ·rintro ⟨h1,h2,h3,h4,h5⟩;exact ⟨⟨fun y hy => (h5 y hy).1,h4⟩,⟨h3,h1,h2⟩,fun y hy => ⟨by have := (h5 y hy).1; omega,(h5 y hy).2⟩⟩
   ·rintro ⟨⟨h1,h2⟩,⟨h3,h4,h5⟩,h6⟩;exact ⟨h4,h5,h3,h2,fun y hy => ⟨h1 y hy,(h6 y hy).2⟩⟩
def prev (l : List Int) (i : Nat) : Int := if i = 0 then -1 else l.getD (i - 1) 0
theorem prev_zero (l : List Int) : prev l 0 = -1 := rfl
theorem po (l : List Int) (i : Nat) (h : i < l.length) : prev l (i + 1) = l[i] := by simp [prev,h]
def p8 (x : Int) : List Int -> List Int
 | [] => [x]
 | y :: r => if y < x then y :: p8 x r else if y = x then y :: r else x :: y :: r
theorem My (x : Int) : ∀ l,(p8 x l).length <= l.length + 1
 | [] => by simp [p8]
 | y :: r => by
   have := My x r;unfold p8;split
   ·simp; omega
   ·split <;> simp
theorem Fg (x z : Int) : ∀ l,z ∈ p8 x l ↔ z = x \/ z ∈ l
 | [] => by simp [p8]
 | y :: r => by
   have ih := Fg x z r;unfold p8;split
   ·simp only [aK,ih]; constructor <;> (intro h; rcases h with h | h | h <;> simp [h])
   ·split
    ·rename_i e; subst e; simp
    ·simp
theorem Tj (x : Int) : ∀ {l},Up l -> Up (p8 x l)
 | [],_ => by simp [p8,Up]
 | y :: r,h => by
   obtain ⟨h1,h2⟩ := aX.1 h;unfold p8;split
   ·rename_i bL;refine aX.2 ⟨fun z hz => ?_,Tj x h2⟩;rcases (Fg x z r).1 hz with e | e
    ·omega
    ·exact h1 z e
   ·split
    ·exact h
    ·refine aX.2 ⟨fun z hz => ?_,h⟩;rcases aK.1 hz with e | e
     ·omega
     ·have := h1 z e; omega
def pos (x : Int) : List Int -> Nat
 | [] => 0
 | y :: r => if y < x then pos x r + 1 else 0
theorem Ya (x : Int) : ∀ l,pos x l <= l.length
 | [] => by simp [pos]
 | y :: r => by have := Ya x r; unfold pos; split <;> simp <;> omega
theorem Mx (x : Int) : ∀ l,p8 x l = if l[pos x l]? = some x then l else l.take (pos x l) ++ x :: l.drop (pos x l)
 | [] => by simp [p8,pos]
 | y :: r => by
   have ih := Mx x r;unfold p8 pos;split
   ·rw [ih];simp only [List.getElem?_cons_succ,List.take_succ_cons,List.drop_succ_cons];split <;> simp
   ·simp only [List.getElem?_cons_zero,ah,List.take_zero,List.drop_zero,yA]
def ofL (l : List Int) : List Int := l.foldl (fun o x => p8 x o) []
theorem UA : ∀ (l o : List Int),Up o -> Up (l.foldl (fun o x => p8 x o) o) /\ ∀ z,z ∈ l.foldl (fun o x => p8 x o) o ↔ z ∈ o \/ z ∈ l
 | [],o,h => ⟨h,fun z => by simp⟩
 | x :: r,o,h => by
   obtain ⟨h1,h2⟩ := UA r (p8 x o) (Tj x h);refine ⟨h1,fun z => ?_⟩;rw [ib,h2,Fg];simp only [aK];constructor
   ·rintro ((h | h) | h) <;> simp [h]
   ·rintro (h | h | h) <;> simp [h]
theorem ago (l : List Int) : ofL l = bZ l := by
 obtain ⟨h1,h2⟩ := UA l [] (by simp [Up]);obtain ⟨h3,h4⟩ := dC l;exact qW h1 h3 fun x => by rw [h4]; exact (h2 x).trans (by simp)
/- Sets of nodes as bits: plain facts. -/
def tz (x : Nat) : Nat := Lib.ctz 64 x
theorem jZ {x : Nat} (h0 : x ≠ 0) (h : x < 18446744073709551616) : ∃ m,x = 2 ^ tz x * (2 * m + 1) /\ tz x < 64 := by
 have := Lib.ctzFrom_spec 64 x (by omega) h;unfold tz Lib.ctz;rw [if_neg h0];exact this
theorem KR (k m j : Nat) : (2 ^ k * (2 * m + 1)).testBit j = if j < k then false else if j = k then true else m.testBit (j - k - 1) := by
 rw [Nat.mul_comm,Nat.testBit_mul_two_pow];by_cases h : j < k
 ·simp [h,show ¬ k <= j by omega]
 ·rw [if_neg h];have hk : k <= j := by omega
  by_cases e : j = k
  ·subst e; simp [Nat.testBit_zero]
  ·rw [if_neg e];obtain ⟨d,hd⟩ : ∃ d,j - k = d + 1 := ⟨j - k - 1,by omega⟩;rw [hd,Nat.testBit_succ,show (2 * m + 1) / 2 = m by omega];simp [hk]
theorem X9 (k m j : Nat) : (2 ^ k * (2 * m + 1) - 1).testBit j = if j < k then true else if j = k then false else m.testBit (j - k - 1) := by
 have e : 2 ^ k * (2 * m + 1) - 1 = 2 ^ (k + 1) * m + (2 ^ k - 1) := by
  have : 0 < 2 ^ k := L4 k;rw [Nat.pow_succ,Nat.mul_add,Nat.mul_one,<- Nat.mul_assoc];omega
 have hp : 0 < 2 ^ k := L4 k;rw [e,Nat.testBit_two_pow_mul_add _ (by rw [Nat.pow_succ]; omega)];by_cases h : j < k
 ·rw [if_pos (by omega),if_pos h,dm]; simp [h]
 ·rw [if_neg h];by_cases e2 : j = k
  ·subst e2;rw [if_pos (by omega),if_pos rfl,dm]; simp
  ·rw [if_neg (by omega),if_neg e2,show j - (k + 1) = j - k - 1 by omega]
theorem vw {x : Nat} (h0 : x ≠ 0) (h : x < 18446744073709551616) (j : Nat) : (x &&& (x - 1)).testBit j = (x.testBit j && decide (j ≠ tz x)) := by
 obtain ⟨m,hm,_⟩ := jZ h0 h;rw [Nat.testBit_and]
 conv => lhs; rw [hm]
 conv => rhs; rw [hm]
 rw [KR,X9];have hz : tz (2 ^ tz x * (2 * m + 1)) = tz x := by rw [<- hm]
 rw [hz];by_cases h : j < tz x
 ·simp [h]
 ·by_cases e : j = tz x
  ·simp [e]
  ·simp [h,e]
theorem qX {x : Nat} (h0 : x ≠ 0) (h : x < 18446744073709551616) : x.testBit (tz x) = true /\ ∀ j,j < tz x -> x.testBit j = false := by
 obtain ⟨m,hm,_⟩ := jZ h0 h;constructor
 ·conv => lhs; arg 1; rw [hm]
  rw [KR]; simp
 ·intro j hj
  conv => lhs; arg 1; rw [hm]
  rw [KR]; simp [hj]
theorem UG {x : Nat} (h0 : x ≠ 0) : x &&& (x - 1) < x := by
 have := Nat.and_le_right (n := x) (m := x - 1);omega
def eS (m : Nat) : List Int := ((List.range 64).filter fun j => m.testBit j).map fun j => ((j : Nat) : Int)
theorem eY {m : Nat} {x : Int} : x ∈ eS m ↔ ∃ j : Nat,x = j /\ j < 64 /\ m.testBit j = true := by
 unfold eS;simp only [List.mem_map,List.mem_filter,List.mem_range];constructor
 ·rintro ⟨j,⟨h1,h2⟩,rfl⟩; exact ⟨j,rfl,h1,h2⟩
 ·rintro ⟨j,rfl,h1,h2⟩; exact ⟨j,⟨h1,h2⟩,rfl⟩
theorem kJ (m : Nat) : Up (eS m) := by
 unfold eS Up;refine List.Pairwise.map _ (fun a b h => by omega) (List.Pairwise.filter _ List.pairwise_lt_range)
theorem JJ : eS 0 = [] := by simp [eS]
theorem GR (m : Nat) : (eS m).length <= 64 := by
 unfold eS;rw [gF];exact Nat.le_trans (List.length_filter_le _ _) (by simp)
theorem wJ {m : Nat} (h0 : m ≠ 0) (h : m < 18446744073709551616) : eS m = (tz m : Int) :: eS (m &&& (m - 1)) := by
 obtain ⟨b1,b2⟩ := qX h0 h;obtain ⟨_,_,bL⟩ := jZ h0 h;refine qW (kJ m) (aX.2 ⟨fun x hx => ?_,kJ _⟩) fun x => ?_
 ·obtain ⟨j,rfl,h1,h2⟩ := eY.1 hx;rw [vw h0 h,ae,decide_eq_true_eq] at h2;have : ¬ j < tz m := fun k => by rw [b2 j k] at h2; simp at h2
  omega
 ·rw [aK,eY,eY];constructor
  ·rintro ⟨j,rfl,h1,h2⟩;by_cases e : j = tz m
   ·left; rw [e]
   ·right; exact ⟨j,rfl,h1,by rw [vw h0 h,h2]; simp [e]⟩
  ·rintro (rfl | ⟨j,rfl,h1,h2⟩)
   ·exact ⟨tz m,rfl,bL,b1⟩
   ·rw [vw h0 h,ae] at h2;exact ⟨j,rfl,h1,h2.1⟩
def mskF (l : List Int) (m : Nat) : Nat := l.foldl (fun m v => m ||| 2 ^ v.toNat) m
def W5 (l : List Int) : Nat := mskF l 0
theorem MZ : ∀ (l : List Int) (m j : Nat),(∀ v ∈ l,0 <= v) -> (mskF l m).testBit j = (m.testBit j || decide ((j : Int) ∈ l))
 | [],m,j,_ => by simp [mskF]
 | v :: r,m,j,h => by
   have ih := MZ r (m ||| 2 ^ v.toNat) j (fun w hw => h w (by simp [hw]));have hv := h v (by simp);unfold mskF at ih ⊢;rw [ib,ih,Nat.testBit_or,Nat.testBit_two_pow];have e : decide (v.toNat = j) = decide ((j : Int) = v) := by rw [rj,decide_eq_true_eq,decide_eq_true_eq]; omega
   rw [e,Bool.or_assoc];congr 1;rw [rj]; simp
theorem zC {l : List Int} {j : Nat} (h : ∀ v ∈ l,0 <= v) : (W5 l).testBit j = decide ((j : Int) ∈ l) := by
 unfold W5; rw [MZ l 0 j h]; simp
/-! Operations of uint64 -/
theorem acZ {n : Nat} (h : n < 18446744073709551616) : IntKind.u64.wrap (n : Int) = (n : Int) := by rw [IntKind.wrap_u64]; omega
theorem Pr {v : Int} (h0 : 0 <= v) (h1 : v < 64) : IntKind.u64.wrap (1 * 2 ^ (min v.toNat 64)) = ((2 ^ v.toNat : Nat) : Int) := by
 have e : min v.toNat 64 = v.toNat := by omega
 have h2 : 2 ^ v.toNat < 2 ^ 64 := Nat.pow_lt_pow_right (by decide) (by omega);rw [e,Int.one_mul,show ((2 : Int) ^ v.toNat) = ((2 ^ v.toNat : Nat) : Int) by simp,acZ h2]
theorem decU {m : Nat} (h0 : m ≠ 0) (h : m < 18446744073709551616) : IntKind.u64.wrap ((m : Int) - 1) = ((m - 1 : Nat) : Int) := by
 rw [show (m : Int) - 1 = ((m - 1 : Nat) : Int) by omega,acZ (by omega)]
/- Edges and graphs: plain facts. -/
abbrev Ed := Int × Int
def bV (e : Ed) : AV := .agg [.int .i64 e.1,.int .i64 e.2]
def dO (l : List Ed) : List AV := l.map bV
theorem aq (l : List Ed) : (dO l).length = l.length := gF _
theorem aM (l : List Ed) (i : Nat) : (dO l)[i]? = (l[i]?).map bV := List.getElem?_map
theorem bp (l : List Ed) (i : Nat) (h : i < (dO l).length) : (dO l)[i] = bV (l[i]'(by simpa [dO] using h)) := by simp [dO]
theorem ab7 : dO [] = [] := rfl
theorem ZV (x : Ed) (l : List Ed) : dO (x :: l) = .agg [.int .i64 x.1,.int .i64 x.2] :: dO l := rfl
theorem Wl (l : List Ed) (u v : Int) : dO l ++ [.agg [.int .i64 u,.int .i64 v]] = dO (l ++ [(u,v)]) := by simp [dO,bV]
theorem Gx (l : List Ed) (n : Nat) : (dO l).take n = dO (l.take n) := by simp [dO]
theorem an (l : List Ed) : bz (aH (dO l)) = true := by
 induction l with
 | nil => rfl
 | cons x r ih => simp only [dO,jE,aH,bV,AV.cells,List.cons_append,yA,bz,AV.leaf,eh] at ih ⊢; exact ih
theorem ak (l : List Ed) : fU (dO l) = true := by
 induction l with
 | nil => rfl
 | cons x r ih => simp only [dO,jE,bV,fU,clean,eh,Bool.and_true] at ih ⊢; exact ih
theorem aj (l : List Int) : fU (ints l) = true := by
 induction l with
 | nil => rfl
 | cons x r ih => simp only [ints,jE,fU,clean] at ih ⊢; rw [ih]; rfl
def FU (a b : Ed) : Prop := a.1 < b.1 \/ a.1 = b.1 /\ a.2 < b.2
instance (a b : Ed) : Decidable (FU a b) := by unfold FU; infer_instance
theorem VW {a b c : Ed} (h : FU a b) (k : FU b c) : FU a c := by unfold FU at *; omega
theorem abD {a : Ed} : ¬ FU a a := by unfold FU; omega
def UpE (l : List Ed) : Prop := l.Pairwise FU
def putE (x : Ed) : List Ed -> List Ed
 | [] => [x]
 | y :: r => if FU y x then y :: putE x r else if y = x then y :: r else x :: y :: r
def posE (x : Ed) : List Ed -> Nat
 | [] => 0
 | y :: r => if FU y x then posE x r + 1 else 0
def oO (u v : Int) : Ed := (if v < u then v else u,if u < v then v else u)
def ofE (l : List Ed) (o : List Ed) : List Ed := l.foldl (fun o e => putE (oO e.1 e.2) o) o
def GS : Option Ed -> Ed -> Prop
 | none,_ => False
 | some q,e => ¬ FU q e
instance : ∀ p e,Decidable (GS p e)
 | none,_ => instDecidableFalse
 | some q,e => inferInstanceAs (Decidable (¬ FU q e))
def fj (n : Int) : Option Ed -> List Ed -> Int
 | _,[] => 0
 | p,e :: r => if e.1 < 0 \/ e.2 <= e.1 \/ n <= e.2 then 6 else if GS p e then 5 else fj n (some e) r
def Wx (n : Int) (l : List Ed) : Int := if n < 0 \/ 64 < n then 1 else fj n none l
theorem GI (n : Int) : ∀ {l : List Ed} {p : Option Ed},fj n p l = 0 ↔ UpE l /\ (∀ e ∈ l,0 <= e.1 /\ e.1 < e.2 /\ e.2 < n) /\ ∀ q,p = some q -> ∀ e ∈ l,FU q e
 | [],p => by simp [fj,UpE]
 | e :: r,p => by
   have ih := GI n (l := r) (p := some e);unfold fj;by_cases h1 : e.1 < 0 \/ e.2 <= e.1 \/ n <= e.2
   ·rw [if_pos h1];constructor
    ·intro h; cases h
    ·rintro ⟨_,h,_⟩; have := h e (by simp); omega
   ·rw [if_neg h1];cases p with
    | none =>
      rw [if_neg (show ¬ GS none e from fun h => h),ih];simp only [UpE,aX,aK,forall_eq_or_imp];constructor
      ·rintro ⟨a,b,c⟩; exact ⟨⟨fun z hz => c e rfl z hz,a⟩,⟨by omega,b⟩,fun q hq => by cases hq⟩
      ·rintro ⟨⟨a,b⟩,⟨c,d⟩,f⟩; exact ⟨b,d,fun q hq => by cases hq; exact a⟩
    | some q =>
      by_cases h2 : FU q e
      ·rw [if_neg (show ¬ GS (some q) e from fun h => h h2),ih];simp only [UpE,aX,aK,forall_eq_or_imp];constructor
       ·rintro ⟨a,b,c⟩;exact ⟨⟨fun z hz => c e rfl z hz,a⟩,⟨by omega,b⟩,fun q' hq => by cases hq; exact ⟨h2,fun z hz => VW h2 (c e rfl z hz)⟩⟩
       ·rintro ⟨⟨a,b⟩,⟨c,d⟩,f⟩; exact ⟨b,d,fun q hq => by cases hq; exact a⟩
      ·rw [if_pos (show GS (some q) e from h2)];constructor
       ·intro h; cases h
       ·rintro ⟨_,_,h⟩; exact absurd (h q rfl e (by simp)) h2
def ke (n : Int) (l : List Ed) : Prop := (0 <= n /\ n <= 64) /\ UpE l /\ ∀ e ∈ l,0 <= e.1 /\ e.1 < e.2 /\ e.2 < n
theorem iw {n : Int} {l : List Ed} : Wx n l = 0 ↔ ke n l := by
 unfold Wx ke;by_cases h : n < 0 \/ 64 < n
 ·rw [if_pos h]; constructor
  ·intro h; cases h
  ·rintro ⟨h2,_⟩; omega
 ·rw [if_neg h,GI];constructor
  ·rintro ⟨a,b,_⟩; exact ⟨by omega,a,b⟩
  ·rintro ⟨_,a,b⟩; exact ⟨a,b,fun q hq => by cases hq⟩
end Go.Bm
