/- A plain sort of ints; the library's sort as a function that writes into the slice it is given. -/
import Derived.Test.YteomjfokokneoaaDoorMe
import Derived.Lib.TrailingZeros
import Derived.Laws.BitsAllLaws
import Derived.Test.YteomjfokokneoaaDoorRunX
open Bool renaming and_eq_true → ab, eq_iff_iff → gP, true_and → eD
open List renaming drop_succ_cons → gn, drop_zero → bX, getElem?_cons_succ → jb, getElem?_cons_zero → Kv, length_map → nF, map_cons → iY, mem_cons → aJ, nil_append → jI, pairwise_cons → aN, take_succ_cons → iN, take_zero → kn
open Nat renaming pow_lt_pow_right → Tx, testBit_two_pow_sub_one → jO, two_pow_pos → Bz
open Option.some renaming injEq → aj
namespace Go.Am
def ke : List AV -> Option (List Int)
 | [] => some []
 | .int .i64 n :: r => match ke r with
   | some l => some (n :: l)
   | none => none
 | _ => none
theorem vP : ∀ {cs : List AV} {zs : List Int},ke cs = some zs -> cs = zs.map (AV.int .i64)
 | [],zs,h => by simp [ke] at h; subst h; rfl
 | c :: r,zs,h => by
   unfold ke at h;split at h
   ·rename_i heq; cases heq
   ·rename_i n r' heq;cases heq;split at h
    ·rename_i l hl;simp at h;subst h;rw [vP hl];rfl
    ·cases h
   ·cases h
theorem qe (zs : List Int) : ke (zs.map (AV.int .i64)) = some zs := by
 induction zs with
 | nil => rfl
 | cons z r ih => simp [ke,ih]
end Go.Am
namespace Go.Bm
open Go.Am
def M9 (x : Int) : List Int -> List Int
 | [] => [x]
 | y :: r => if x <= y then x :: y :: r else y :: M9 x r
def jg : List Int -> List Int
 | [] => []
 | x :: r => M9 x (jg r)
theorem A7 (x : Int) : ∀ l,(M9 x l).Perm (x :: l)
 | [] => .refl _
 | y :: r => by
   unfold M9;split
   ·exact .refl _
   ·exact ((A7 x r).cons y).trans (List.Perm.swap x y r)
theorem sW : ∀ l,(jg l).Perm l
 | [] => .refl _
 | x :: r => (A7 x (jg r)).trans ((sW r).cons x)
theorem XC {x z : Int} {l : List Int} : z ∈ M9 x l ↔ z = x \/ z ∈ l := by
 rw [(A7 x l).mem_iff]; simp
theorem M8 (x : Int) : ∀ {l : List Int},l.Pairwise (· <= ·) -> (M9 x l).Pairwise (· <= ·)
 | [],_ => by simp [M9]
 | y :: r,h => by
   obtain ⟨h1,h2⟩ := aN.1 h;unfold M9;split
   ·rename_i hle;refine aN.2 ⟨fun z hz => ?_,h⟩;rcases aJ.1 hz with e | e
    ·omega
    ·have := h1 z e; omega
   ·rename_i hle;refine aN.2 ⟨fun z hz => ?_,M8 x h2⟩;rcases XC.1 hz with e | e
    ·omega
    ·exact h1 z e
theorem A5 : ∀ l,(jg l).Pairwise (· <= ·)
 | [] => .nil
 | x :: r => M8 x (A5 r)
theorem jD (l : List Int) : (jg l).length = l.length := (sW l).length_eq
theorem Ch : ∀ {l m : List Int},l.Perm m -> l.Pairwise (· <= ·) -> m.Pairwise (· <= ·) -> l = m
 | [],m,h,_,_ => (List.Perm.nil_eq h)
 | x :: r,[],h,_,_ => by have := h.length_eq; simp at this
 | x :: r,y :: s,h,h1,h2 => by
   obtain ⟨a1,a2⟩ := aN.1 h1;obtain ⟨b1,b2⟩ := aN.1 h2;have hx : x ∈ y :: s := h.mem_iff.1 (by simp);have hy : y ∈ x :: r := h.mem_iff.2 (by simp)
   have e : x = y := by
    rcases aJ.1 hx with e | e
    ·exact e
    ·rcases aJ.1 hy with e2 | e2
     ·exact e2.symm
     ·have := a1 y e2; have := b1 x e; omega
   subst e;rw [Ch (List.Perm.cons_inv h) a2 b2]
def OI (k : Nat) (xs es : List AV) : Option (List AV × Option Nat) :=
 match k,es with
 | 1,[] => if xs.length <= lz then match ke xs with
   | some zs => some ((jg zs).map (AV.int .i64),none)
   | none => none
   else none
 | _,_ => none
/- Plain facts on strictly rising lists of ints: what sort and compact give, and what a merge gives. -/
set_option linter.unusedVariables false
set_option linter.unusedSimpArgs false
def Up (l : List Int) : Prop := l.Pairwise (· < ·)
def dd : List Int -> List Int
 | [] => []
 | [x] => [x]
 | x :: y :: r => if x = y then dd (y :: r) else x :: dd (y :: r)
theorem PV : ∀ (l : List Int) (z : Int),z ∈ dd l ↔ z ∈ l
 | [],z => by simp [dd]
 | [x],z => by simp [dd]
 | x :: y :: r,z => by
   have ih := PV (y :: r) z;unfold dd;split
   ·rename_i e; subst e; rw [ih]; simp
   ·rw [aJ,ih,aJ (a := z) (b := x)]
theorem PW : ∀ l : List Int,(dd l).length <= l.length
 | [] => by simp [dd]
 | [x] => by simp [dd]
 | x :: y :: r => by
   have ih := PW (y :: r);unfold dd;split
   ·simp at *; omega
   ·simp at *; omega
theorem acr : ∀ {l : List Int},l.Pairwise (· <= ·) -> Up (dd l)
 | [],_ => by simp [dd,Up]
 | [x],_ => by simp [dd,Up]
 | x :: y :: r,h => by
   obtain ⟨h1,h2⟩ := aN.1 h;have ih := acr h2;unfold dd;split
   ·exact ih
   ·rename_i sZ;refine aN.2 ⟨fun z hz => ?_,ih⟩;have hz := (PV _ _).1 hz;have a := h1 y (by simp);have b := (aN.1 h2).1;rcases aJ.1 hz with e | e
    ·subst e; omega
    ·have := b z e; omega
def cZ (zs : List Int) : List Int := dd (jg zs)
theorem iD (zs : List Int) : Up (cZ zs) /\ ∀ x,x ∈ cZ zs ↔ x ∈ zs :=
 ⟨acr (A5 zs),fun x => (PV _ _).trans (sW zs).mem_iff⟩
theorem kr (zs : List Int) : (cZ zs).length <= zs.length := by
 have := PW (jg zs);rw [jD] at this;exact this
theorem oR {a b : List Int} (ha : Up a) (hb : Up b) (h : ∀ x,x ∈ a ↔ x ∈ b) : a = b := by
 induction a generalizing b with
 | nil =>
   cases b with
   | nil => rfl
   | cons y s => exact absurd ((h y).mpr (by simp)) (by simp)
 | cons x r ih =>
   cases b with
   | nil => exact absurd ((h x).mp (by simp)) (by simp)
   | cons y s =>
     unfold Up at ha hb;rw [aN] at ha hb
     have hxy : x = y := by
      have h1 := (h x).mp (by simp);have h2 := (h y).mpr (by simp);simp only [aJ] at h1 h2;rcases h1 with e | e
      ·exact e
      ·rcases h2 with e2 | e2
       ·exact e2.symm
       ·have := ha.1 _ e2;have := hb.1 _ e;omega
     subst hxy;congr 1;refine ih ha.2 hb.2 fun z => ?_;have hz := h z;simp only [aJ] at hz;constructor
     ·intro hr;rcases hz.mp (.inr hr) with e | e
      ·have := ha.1 _ hr; omega
      ·exact e
     ·intro hr;rcases hz.mpr (.inr hr) with e | e
      ·have := hb.1 _ hr; omega
      ·exact e
def ob (c : Bool) (x : Int) (m : List Int) : List Int := if c = true then x :: m else m
def tR (keep : Bool -> Bool -> Bool) : List Int -> List Int -> List Int
 | [],[] => []
 | x :: r,[] => ob (keep true false) x (tR keep r [])
 | [],y :: s => ob (keep false true) y (tR keep [] s)
 | x :: r,y :: s =>
   if x < y then ob (keep true false) x (tR keep r (y :: s))
   else if y < x then ob (keep false true) y (tR keep (x :: r) s)
   else ob (keep true true) x (tR keep r s)
termination_by a b => a.length + b.length
theorem uG (keep : Bool -> Bool -> Bool) (z : Int) (m a' b' a b : List Int) (pa pb : Bool) (h1 : Up m) (h2 : ∀ x,x ∈ m ↔ ((x ∈ a' \/ x ∈ b') /\ keep (decide (x ∈ a')) (decide (x ∈ b')) = true)) (bA : ∀ x,x ∈ a' \/ x ∈ b' -> z < x)
  (hp : pa = true \/ pb = true) (ha : ∀ x,x ∈ a ↔ ((x = z /\ pa = true) \/ x ∈ a')) (hb : ∀ x,x ∈ b ↔ ((x = z /\ pb = true) \/ x ∈ b')) {o : List Int} (ho : o = if keep pa pb then z :: m else m) :
  Up o /\ ∀ x,x ∈ o ↔ ((x ∈ a \/ x ∈ b) /\ keep (decide (x ∈ a)) (decide (x ∈ b)) = true) := by
 subst ho;have hza : z ∉ a' := fun h => Int.lt_irrefl _ (bA z (.inl h));have hzb : z ∉ b' := fun h => Int.lt_irrefl _ (bA z (.inr h));have hzm : z ∉ m := fun h => ((h2 z).mp h).1.elim hza hzb;refine ⟨?_,fun x => ?_⟩
 ·split
  ·unfold Up;rw [aN];exact ⟨fun y hy => bA y ((h2 y).mp hy).1,h1⟩
  ·exact h1
 ·by_cases hx : x = z
  ·subst hx;have da : decide (x ∈ a) = pa := by cases pa <;> simp [ha,hza]
   have db : decide (x ∈ b) = pb := by cases pb <;> simp [hb,hzb]
   have hor : x ∈ a \/ x ∈ b := by
    rcases hp with h | h
    ·left; simp [ha,h]
    ·right; simp [hb,h]
   rw [da,db];simp only [hor,true_and];split
   ·rename_i hk;simp [hk]
   ·rename_i hk;simp [hk,hzm]
  ·have da : x ∈ a ↔ x ∈ a' := by simp [ha,hx]
   have db : x ∈ b ↔ x ∈ b' := by simp [hb,hx]
   simp only [da,db];rw [<- h2];split
   ·simp [hx]
   ·rfl
theorem My (keep : Bool -> Bool -> Bool) (a b : List Int) (ha : Up a) (hb : Up b) : Up (tR keep a b) /\ ∀ x,x ∈ tR keep a b ↔ ((x ∈ a \/ x ∈ b) /\ keep (decide (x ∈ a)) (decide (x ∈ b)) = true) := by
 induction a,b using tR.induct with
 | case1 => simp [tR,Up]
 | case2 x r ih =>
   unfold Up at ha;rw [aN] at ha;obtain ⟨h1,h2⟩ := ih ha.2 hb;exact uG keep x (tR keep r []) r [] (x :: r) [] true false h1 h2 (fun y hy => hy.elim (ha.1 y) (fun h => by simp at h)) (.inl rfl) (fun y => by simp) (fun y => by simp) (by rw [tR]; rfl)
 | case3 y s ih =>
   unfold Up at hb;rw [aN] at hb;obtain ⟨h1,h2⟩ := ih ha hb.2;exact uG keep y (tR keep [] s) [] s [] (y :: s) false true h1 h2 (fun x hx => hx.elim (fun h => by simp at h) (hb.1 x)) (.inr rfl) (fun y => by simp) (fun y => by simp) (by rw [tR]; rfl)
 | case4 x r y s bA ih =>
   have C4 := ha;have gr := hb;unfold Up at ha hb;rw [aN] at ha hb;obtain ⟨h1,h2⟩ := ih ha.2 gr
   exact uG keep x (tR keep r (y :: s)) r (y :: s) (x :: r) (y :: s) true false h1 h2 (fun z hz => by
    rcases hz with hz | hz
    ·exact ha.1 z hz
    ·rcases aJ.mp hz with e | e
     ·omega
     ·have := hb.1 z e; omega) (.inl rfl) (fun z => by simp) (fun z => by simp) (by rw [tR,if_pos bA]; rfl)
 | case5 x r y s hn bA ih =>
   have C4 := ha;have gr := hb;unfold Up at ha hb;rw [aN] at ha hb;obtain ⟨h1,h2⟩ := ih C4 hb.2
   exact uG keep y (tR keep (x :: r) s) (x :: r) s (x :: r) (y :: s) false true h1 h2 (fun z hz => by
    rcases hz with hz | hz
    ·rcases aJ.mp hz with e | e
     ·omega
     ·have := ha.1 z e; omega
    ·exact hb.1 z hz) (.inr rfl) (fun z => by simp) (fun z => by simp) (by rw [tR,if_neg hn,if_pos bA]; rfl)
 | case6 x r y s hn Zi ih =>
   obtain rfl : x = y := by omega
   unfold Up at ha hb;rw [aN] at ha hb;obtain ⟨h1,h2⟩ := ih ha.2 hb.2
   exact uG keep x (tR keep r s) r s (x :: r) (x :: s) true true h1 h2 (fun z hz => by
    rcases hz with hz | hz
    ·exact ha.1 z hz
    ·exact hb.1 z hz) (.inl rfl) (fun z => by simp) (fun z => by simp) (by rw [tR,if_neg hn,if_neg Zi]; rfl)
def uni (a b : List Int) : List Int := tR (fun _ _ => true) (cZ a) (cZ b)
def meet (a b : List Int) : List Int := tR (fun p r => p && r) (cZ a) (cZ b)
def minus (a b : List Int) : List Int := tR (fun _ r => !r) (cZ a) (cZ b)
theorem vJ (a b : List Int) : Up (meet a b) /\ ∀ x,x ∈ meet a b ↔ x ∈ a /\ x ∈ b := by
 obtain ⟨a1,a2⟩ := iD a;obtain ⟨b1,b2⟩ := iD b;obtain ⟨h1,h2⟩ := My (fun p r => p && r) _ _ a1 b1
 exact ⟨h1, fun x => by rw [meet, h2]; simp only [a2, b2, ab, decide_eq_true_eq]; constructor
                        ·exact fun h => h.2
                        ·exact fun h => ⟨.inl h.1,h⟩⟩
theorem kc (a b : List Int) : Up (minus a b) /\ ∀ x,x ∈ minus a b ↔ x ∈ a /\ x ∉ b := by
 obtain ⟨a1,a2⟩ := iD a;obtain ⟨b1,b2⟩ := iD b;obtain ⟨h1,h2⟩ := My (fun _ r => !r) _ _ a1 b1
 exact ⟨h1,fun x => by
  rw [minus,h2];simp only [a2,b2];by_cases hb : x ∈ b <;> simp [hb]⟩
def UT : List AV -> Heap -> Option (AV × Heap)
 | [.list 1 []],[] => some (.list 1 [],[])
 | _,_ => none
def PX (k : Nat) (xs es : List AV) : Option (List AV × Option Nat) :=
 match k,es with
 | 1,[] => if xs.length <= lz then match ke xs with
   | some zs => some ((dd zs ++ List.replicate (zs.length - (dd zs).length) 0).map (AV.int .i64),some (dd zs).length)
   | none => none
   else none
 | _,_ => none
/- What functions on lists of ints answer, in plain terms. -/
def dJ : List Int -> List Int -> Int
 | [],[] => 0
 | [],_ :: _ => -1
 | _ :: _,[] => 1
 | x :: r,y :: s => if y < x then 1 else if x < y then -1 else dJ r s
theorem rX : ∀ {a b : List Int},dJ a b = 0 ↔ a = b
 | [],[] => by simp [dJ]
 | [],_ :: _ => by simp [dJ]
 | _ :: _,[] => by simp [dJ]
 | x :: r,y :: s => by
   have ih := rX (a := r) (b := s);unfold dJ;split
   ·rename_i h; simp; intro e; omega
   ·split
    ·rename_i h; simp; intro e; omega
    ·rw [ih]; simp; intro _; omega
def hO (n : Int) : Int -> List Int -> Bool
 | _,[] => true
 | p,x :: r => decide (0 <= x) && (decide (x < n) && (decide (p < x) && hO n x r))
theorem dG (n : Int) : ∀ {l : List Int} {p : Int},hO n p l = true ↔ Up l /\ ∀ x ∈ l,p < x /\ 0 <= x /\ x < n
 | [],p => by simp [hO,Up]
 | x :: r,p => by
   have ih := dG n (l := r) (p := x);simp only [hO,ab,decide_eq_true_eq,ih,Up,aN,aJ,forall_eq_or_imp];constructor
   ·rintro ⟨h1,h2,h3,h4,h5⟩;exact ⟨⟨fun y hy => (h5 y hy).1,h4⟩,⟨h3,h1,h2⟩,fun y hy => ⟨by have := (h5 y hy).1; omega,(h5 y hy).2⟩⟩
   ·rintro ⟨⟨h1,h2⟩,⟨h3,h4,h5⟩,h6⟩;exact ⟨h4,h5,h3,h2,fun y hy => ⟨h1 y hy,(h6 y hy).2⟩⟩
def prev (l : List Int) (i : Nat) : Int := if i = 0 then -1 else l.getD (i - 1) 0
theorem prev_zero (l : List Int) : prev l 0 = -1 := rfl
theorem ot (l : List Int) (i : Nat) (h : i < l.length) : prev l (i + 1) = l[i] := by simp [prev,h]
def pe (x : Int) : List Int -> List Int
 | [] => [x]
 | y :: r => if y < x then y :: pe x r else if y = x then y :: r else x :: y :: r
theorem Me (x : Int) : ∀ l,(pe x l).length <= l.length + 1
 | [] => by simp [pe]
 | y :: r => by
   have := Me x r;unfold pe;split
   ·simp; omega
   ·split <;> simp
theorem EH (x z : Int) : ∀ l,z ∈ pe x l ↔ z = x \/ z ∈ l
 | [] => by simp [pe]
 | y :: r => by
   have ih := EH x z r;unfold pe;split
   ·simp only [aJ,ih]; constructor <;> (intro h; rcases h with h | h | h <;> simp [h])
   ·split
    ·rename_i e; subst e; simp
    ·simp
theorem RS (x : Int) : ∀ {l},Up l -> Up (pe x l)
 | [],_ => by simp [pe,Up]
 | y :: r,h => by
   obtain ⟨h1,h2⟩ := aN.1 h;unfold pe;split
   ·rename_i bA;refine aN.2 ⟨fun z hz => ?_,RS x h2⟩;rcases (EH x z r).1 hz with e | e
    ·omega
    ·exact h1 z e
   ·split
    ·exact h
    ·refine aN.2 ⟨fun z hz => ?_,h⟩;rcases aJ.1 hz with e | e
     ·omega
     ·have := h1 z e; omega
def pos (x : Int) : List Int -> Nat
 | [] => 0
 | y :: r => if y < x then pos x r + 1 else 0
theorem WH (x : Int) : ∀ l,pos x l <= l.length
 | [] => by simp [pos]
 | y :: r => by have := WH x r; unfold pos; split <;> simp <;> omega
theorem Mc (x : Int) : ∀ l,pe x l = if l[pos x l]? = some x then l else l.take (pos x l) ++ x :: l.drop (pos x l)
 | [] => by simp [pe,pos]
 | y :: r => by
   have ih := Mc x r;unfold pe pos;split
   ·rw [ih];simp only [jb,iN,gn];split <;> simp
   ·simp only [Kv,aj,kn,bX,jI]
def ofL (l : List Int) : List Int := l.foldl (fun o x => pe x o) []
theorem SY : ∀ (l o : List Int),Up o -> Up (l.foldl (fun o x => pe x o) o) /\ ∀ z,z ∈ l.foldl (fun o x => pe x o) o ↔ z ∈ o \/ z ∈ l
 | [],o,h => ⟨h,fun z => by simp⟩
 | x :: r,o,h => by
   obtain ⟨h1,h2⟩ := SY r (pe x o) (RS x h);refine ⟨h1,fun z => ?_⟩;rw [List.foldl_cons,h2,EH];simp only [aJ];constructor
   ·rintro ((h | h) | h) <;> simp [h]
   ·rintro (h | h | h) <;> simp [h]
theorem adB (l : List Int) : ofL l = cZ l := by
 obtain ⟨h1,h2⟩ := SY l [] (by simp [Up]);obtain ⟨h3,h4⟩ := iD l;exact oR h1 h3 fun x => by rw [h4]; exact (h2 x).trans (by simp)
/- Sets of nodes as bits: plain facts. -/
def tz (x : Nat) : Nat := Lib.ctz 64 x
theorem Jj {x : Nat} (h0 : x ≠ 0) (h : x < 18446744073709551616) : ∃ m,x = 2 ^ tz x * (2 * m + 1) /\ tz x < 64 := by
 have := Lib.ctzFrom_spec 64 x (by omega) h;unfold tz Lib.ctz;rw [if_neg h0];exact this
theorem JH (k m j : Nat) : (2 ^ k * (2 * m + 1)).testBit j = if j < k then false else if j = k then true else m.testBit (j - k - 1) := by
 rw [Nat.mul_comm,Nat.testBit_mul_two_pow];by_cases h : j < k
 ·simp [h,show ¬ k <= j by omega]
 ·rw [if_neg h];have hk : k <= j := by omega
  by_cases e : j = k
  ·subst e; simp [Nat.testBit_zero]
  ·rw [if_neg e];obtain ⟨d,hd⟩ : ∃ d,j - k = d + 1 := ⟨j - k - 1,by omega⟩;rw [hd,Nat.testBit_succ,show (2 * m + 1) / 2 = m by omega];simp [hk]
theorem WG (k m j : Nat) : (2 ^ k * (2 * m + 1) - 1).testBit j = if j < k then true else if j = k then false else m.testBit (j - k - 1) := by
 have e : 2 ^ k * (2 * m + 1) - 1 = 2 ^ (k + 1) * m + (2 ^ k - 1) := by
  have : 0 < 2 ^ k := Bz k;rw [Nat.pow_succ,Nat.mul_add,Nat.mul_one,<- Nat.mul_assoc];omega
 have hp : 0 < 2 ^ k := Bz k;rw [e,Nat.testBit_two_pow_mul_add _ (by rw [Nat.pow_succ]; omega)];by_cases h : j < k
 ·rw [if_pos (by omega),if_pos h,jO]; simp [h]
 ·rw [if_neg h];by_cases e2 : j = k
  ·subst e2;rw [if_pos (by omega),if_pos rfl,jO]; simp
  ·rw [if_neg (by omega),if_neg e2,show j - (k + 1) = j - k - 1 by omega]
theorem zY {x : Nat} (h0 : x ≠ 0) (h : x < 18446744073709551616) (j : Nat) : (x &&& (x - 1)).testBit j = (x.testBit j && decide (j ≠ tz x)) := by
 obtain ⟨m,hm,_⟩ := Jj h0 h;rw [Nat.testBit_and]
 conv => lhs; rw [hm]
 conv => rhs; rw [hm]
 rw [JH,WG];have hz : tz (2 ^ tz x * (2 * m + 1)) = tz x := by rw [<- hm]
 rw [hz];by_cases h : j < tz x
 ·simp [h]
 ·by_cases e : j = tz x
  ·simp [e]
  ·simp [h,e]
theorem VD {x : Nat} (h0 : x ≠ 0) (h : x < 18446744073709551616) : x.testBit (tz x) = true /\ ∀ j,j < tz x -> x.testBit j = false := by
 obtain ⟨m,hm,_⟩ := Jj h0 h;constructor
 ·conv => lhs; arg 1; rw [hm]
  rw [JH]; simp
 ·intro j hj
  conv => lhs; arg 1; rw [hm]
  rw [JH]; simp [hj]
theorem S3 {x : Nat} (h0 : x ≠ 0) : x &&& (x - 1) < x := by
 have := Nat.and_le_right (n := x) (m := x - 1);omega
def gN (m : Nat) : List Int := ((List.range 64).filter fun j => m.testBit j).map fun j => ((j : Nat) : Int)
theorem gM {m : Nat} {x : Int} : x ∈ gN m ↔ ∃ j : Nat,x = j /\ j < 64 /\ m.testBit j = true := by
 unfold gN;simp only [List.mem_map,List.mem_filter,List.mem_range];constructor
 ·rintro ⟨j,⟨h1,h2⟩,rfl⟩; exact ⟨j,rfl,h1,h2⟩
 ·rintro ⟨j,rfl,h1,h2⟩; exact ⟨j,⟨h1,h2⟩,rfl⟩
theorem wg (m : Nat) : Up (gN m) := by
 unfold gN Up;refine List.Pairwise.map _ (fun a b h => by omega) (List.Pairwise.filter _ List.pairwise_lt_range)
theorem sd : gN 0 = [] := by simp [gN]
theorem fc (m : Nat) : (gN m).length <= 64 := by
 unfold gN;rw [nF];exact Nat.le_trans (List.length_filter_le _ _) (by simp)
theorem sg {m : Nat} (h0 : m ≠ 0) (h : m < 18446744073709551616) : gN m = (tz m : Int) :: gN (m &&& (m - 1)) := by
 obtain ⟨b1,b2⟩ := VD h0 h;obtain ⟨_,_,bA⟩ := Jj h0 h;refine oR (wg m) (aN.2 ⟨fun x hx => ?_,wg _⟩) fun x => ?_
 ·obtain ⟨j,rfl,h1,h2⟩ := gM.1 hx;rw [zY h0 h,ab,decide_eq_true_eq] at h2;have : ¬ j < tz m := fun k => by rw [b2 j k] at h2; simp at h2
  omega
 ·rw [aJ,gM,gM];constructor
  ·rintro ⟨j,rfl,h1,h2⟩;by_cases e : j = tz m
   ·left; rw [e]
   ·right; exact ⟨j,rfl,h1,by rw [zY h0 h,h2]; simp [e]⟩
  ·rintro (rfl | ⟨j,rfl,h1,h2⟩)
   ·exact ⟨tz m,rfl,bA,b1⟩
   ·rw [zY h0 h,ab] at h2;exact ⟨j,rfl,h1,h2.1⟩
def GP (l : List Int) (m : Nat) : Nat := l.foldl (fun m v => m ||| 2 ^ v.toNat) m
def ei (l : List Int) : Nat := GP l 0
theorem Mx : ∀ (l : List Int) (m j : Nat),(∀ v ∈ l,0 <= v) -> (GP l m).testBit j = (m.testBit j || decide ((j : Int) ∈ l))
 | [],m,j,_ => by simp [GP]
 | v :: r,m,j,h => by
   have ih := Mx r (m ||| 2 ^ v.toNat) j (fun w hw => h w (by simp [hw]));have hv := h v (by simp);unfold GP at ih ⊢;rw [List.foldl_cons,ih,Nat.testBit_or,Nat.testBit_two_pow];have e : decide (v.toNat = j) = decide ((j : Int) = v) := by rw [gP,decide_eq_true_eq,decide_eq_true_eq]; omega
   rw [e,Bool.or_assoc];congr 1;rw [gP]; simp
theorem Sp : ∀ (l : List Int) (m : Nat),(∀ v ∈ l,v < 64) -> m < 18446744073709551616 -> GP l m < 18446744073709551616
 | [],m,_,h => h
 | v :: r,m,hv,h => by
   have h2 : 2 ^ v.toNat < 2 ^ 64 := Tx (by decide) (by have := hv v (by simp); omega);exact Sp r _ (fun w hw => hv w (by simp [hw])) (Nat.or_lt_two_pow (n := 64) h h2)
theorem fV {l : List Int} {j : Nat} (h : ∀ v ∈ l,0 <= v) : (ei l).testBit j = decide ((j : Int) ∈ l) := by
 unfold ei; rw [Mx l 0 j h]; simp
theorem fM {l : List Int} (h : ∀ v ∈ l,v < 64) : ei l < 18446744073709551616 := Sp l 0 h (by decide)
theorem jZ {l : List Int} (hu : Up l) (h : ∀ v ∈ l,0 <= v /\ v < 64) : gN (ei l) = l := by
 refine oR (wg _) hu fun x => ?_;rw [gM];constructor
 ·rintro ⟨j,rfl,_,hj⟩;rw [fV (fun v hv => (h v hv).1)] at hj;simpa using hj
 ·intro hx;obtain ⟨h0,h1⟩ := h x hx;refine ⟨x.toNat,by omega,by omega,?_⟩;rw [fV (fun v hv => (h v hv).1)];simpa [show ((x.toNat : Nat) : Int) = x by omega] using hx
/-! Operations of uint64 -/
theorem abE {n : Nat} (h : n < 18446744073709551616) : IntKind.u64.wrap (n : Int) = (n : Int) := by rw [IntKind.wrap_u64]; omega
theorem VU {v : Int} (h0 : 0 <= v) (h1 : v < 64) : IntKind.u64.wrap (1 * 2 ^ (min v.toNat 64)) = ((2 ^ v.toNat : Nat) : Int) := by
 have e : min v.toNat 64 = v.toNat := by omega
 have h2 : 2 ^ v.toNat < 2 ^ 64 := Tx (by decide) (by omega);rw [e,Int.one_mul,show ((2 : Int) ^ v.toNat) = ((2 ^ v.toNat : Nat) : Int) by simp,abE h2]
theorem decU {m : Nat} (h0 : m ≠ 0) (h : m < 18446744073709551616) : IntKind.u64.wrap ((m : Int) - 1) = ((m - 1 : Nat) : Int) := by
 rw [show (m : Int) - 1 = ((m - 1 : Nat) : Int) by omega,abE (by omega)]
/- Edges and graphs: plain facts. -/
abbrev Ed := Int × Int
def aT (e : Ed) : AV := .agg [.int .i64 e.1,.int .i64 e.2]
def dy (l : List Ed) : List AV := l.map aT
theorem ai (l : List Ed) : (dy l).length = l.length := nF _
theorem au (l : List Ed) (i : Nat) : (dy l)[i]? = (l[i]?).map aT := List.getElem?_map
theorem aG (l : List Ed) (i : Nat) (h : i < (dy l).length) : (dy l)[i] = aT (l[i]'(by simpa [dy] using h)) := by simp [dy]
theorem zX : dy [] = [] := rfl
theorem Yp (x : Ed) (l : List Ed) : dy (x :: l) = .agg [.int .i64 x.1,.int .i64 x.2] :: dy l := rfl
theorem FJ (l : List Ed) (x : Ed) : dy l ++ [.agg [.int .i64 x.1,.int .i64 x.2]] = dy (l ++ [x]) := by simp [dy,aT]
theorem IU (l : List Ed) (u v : Int) : dy l ++ [.agg [.int .i64 u,.int .i64 v]] = dy (l ++ [(u,v)]) := by simp [dy,aT]
theorem J3 (l m : List Ed) : dy l ++ dy m = dy (l ++ m) := by simp [dy]
theorem rV (l : List Ed) (n : Nat) : (dy l).take n = dy (l.take n) := by simp [dy]
theorem FK (l : List Ed) (n : Nat) : (dy l).drop n = dy (l.drop n) := by simp [dy]
theorem af (l : List Ed) : bm (aE (dy l)) = true := by
 induction l with
 | nil => rfl
 | cons x r ih => simp only [dy,iY,aE,aT,AV.cells,List.cons_append,jI,bm,AV.leaf,eD] at ih ⊢; exact ih
theorem ah (l : List Ed) : fj (dy l) = true := by
 induction l with
 | nil => rfl
 | cons x r ih => simp only [dy,iY,aT,fj,clean,eD,Bool.and_true] at ih ⊢; exact ih
theorem ae (l : List Int) : fj (ints l) = true := by
 induction l with
 | nil => rfl
 | cons x r ih => simp only [ints,iY,fj,clean] at ih ⊢; rw [ih]; rfl
def BV (a b : Ed) : Prop := a.1 < b.1 \/ a.1 = b.1 /\ a.2 < b.2
instance (a b : Ed) : Decidable (BV a b) := by unfold BV; infer_instance
theorem AU {a b c : Ed} (h : BV a b) (k : BV b c) : BV a c := by unfold BV at *; omega
theorem JL {a : Ed} : ¬ BV a a := by unfold BV; omega
theorem aax {a b : Ed} (h : ¬ BV a b) (k : a ≠ b) : BV b a := by
 unfold BV at *
 have : a.1 ≠ b.1 \/ a.2 ≠ b.2 := by
  rcases Decidable.em (a.1 = b.1) with h1 | h1
  ·right; intro h2; exact k (Prod.ext h1 h2)
  ·left; exact h1
 omega
def Kt (l : List Ed) : Prop := l.Pairwise BV
theorem Qs : ∀ {a b : List Ed},Kt a -> Kt b -> (∀ x,x ∈ a ↔ x ∈ b) -> a = b
 | [],[],_,_,_ => rfl
 | [],y :: s,_,_,h => absurd ((h y).2 (by simp)) (by simp)
 | x :: r,[],_,_,h => absurd ((h x).1 (by simp)) (by simp)
 | x :: r,y :: s,ha,hb,h => by
   obtain ⟨a1,a2⟩ := aN.1 ha;obtain ⟨b1,b2⟩ := aN.1 hb
   have e : x = y := by
    rcases aJ.1 ((h x).1 (by simp)) with e | e
    ·exact e
    ·rcases aJ.1 ((h y).2 (by simp)) with e2 | e2
     ·exact e2.symm
     ·exact absurd (AU (a1 y e2) (b1 x e)) JL
   subst e;congr 1;refine Qs a2 b2 fun z => ?_;have hz := h z;simp only [aJ] at hz;constructor
   ·intro hr;rcases hz.1 (.inr hr) with e | e
    ·subst e; exact absurd (a1 z hr) JL
    ·exact e
   ·intro hr;rcases hz.2 (.inr hr) with e | e
    ·subst e; exact absurd (b1 z hr) JL
    ·exact e
def qx (x : Ed) : List Ed -> List Ed
 | [] => [x]
 | y :: r => if BV y x then y :: qx x r else if y = x then y :: r else x :: y :: r
theorem EJ (x : Ed) : ∀ l,(qx x l).length <= l.length + 1
 | [] => by simp [qx]
 | y :: r => by
   have := EJ x r;unfold qx;split
   ·simp; omega
   ·split <;> simp
theorem EI (x z : Ed) : ∀ l,z ∈ qx x l ↔ z = x \/ z ∈ l
 | [] => by simp [qx]
 | y :: r => by
   have ih := EI x z r;unfold qx;split
   ·simp only [aJ,ih]; constructor <;> (intro h; rcases h with h | h | h <;> simp [h])
   ·split
    ·rename_i e; subst e; simp
    ·simp
theorem RT (x : Ed) : ∀ {l},Kt l -> Kt (qx x l)
 | [],_ => by simp [qx,Kt]
 | y :: r,h => by
   obtain ⟨h1,h2⟩ := aN.1 h;unfold qx;split
   ·rename_i bA;refine aN.2 ⟨fun z hz => ?_,RT x h2⟩;rcases (EI x z r).1 hz with e | e
    ·subst e; exact bA
    ·exact h1 z e
   ·rename_i bA;split
    ·exact h
    ·rename_i sZ;have := aax bA sZ;refine aN.2 ⟨fun z hz => ?_,h⟩;rcases aJ.1 hz with e | e
     ·subst e; exact this
     ·exact AU this (h1 z e)
def xw (x : Ed) : List Ed -> Nat
 | [] => 0
 | y :: r => if BV y x then xw x r + 1 else 0
theorem RW (x : Ed) : ∀ l,xw x l <= l.length
 | [] => by simp [xw]
 | y :: r => by have := RW x r; unfold xw; split <;> simp <;> omega
theorem Mf (x : Ed) : ∀ l,qx x l = if l[xw x l]? = some x then l else l.take (xw x l) ++ x :: l.drop (xw x l)
 | [] => by simp [qx,xw]
 | y :: r => by
   have ih := Mf x r;unfold qx xw;split
   ·rw [ih];simp only [jb,iN,gn];split <;> simp
   ·simp only [Kv,aj,kn,bX,jI]
def kC (u v : Int) : Ed := (if v < u then v else u,if u < v then v else u)
def ofE (l : List Ed) (o : List Ed) : List Ed := l.foldl (fun o e => qx (kC e.1 e.2) o) o
theorem Mo : ∀ (l o : List Ed),Kt o -> Kt (ofE l o) /\ ∀ z,z ∈ ofE l o ↔ z ∈ o \/ ∃ e ∈ l,z = kC e.1 e.2
 | [],o,h => ⟨h,fun z => by simp [ofE]⟩
 | x :: r,o,h => by
   obtain ⟨h1,h2⟩ := Mo r (qx (kC x.1 x.2) o) (RT _ h);refine ⟨h1,fun z => ?_⟩;have e : ofE (x :: r) o = ofE r (qx (kC x.1 x.2) o) := rfl;rw [e,h2,EI];simp only [aJ,exists_eq_or_imp];constructor
   ·rintro ((h | h) | h) <;> simp [h]
   ·rintro (h | h | h) <;> simp [h]
def Gl : Option Ed -> Ed -> Prop
 | none,_ => False
 | some q,e => ¬ BV q e
instance : ∀ p e,Decidable (Gl p e)
 | none,_ => instDecidableFalse
 | some q,e => inferInstanceAs (Decidable (¬ BV q e))
def fa (n : Int) : Option Ed -> List Ed -> Int
 | _,[] => 0
 | p,e :: r => if e.1 < 0 \/ e.2 <= e.1 \/ n <= e.2 then 6 else if Gl p e then 5 else fa n (some e) r
def F5 (n : Int) (l : List Ed) : Int := if n < 0 \/ 64 < n then 1 else fa n none l
theorem F4 (n : Int) : ∀ {l : List Ed} {p : Option Ed},fa n p l = 0 ↔ Kt l /\ (∀ e ∈ l,0 <= e.1 /\ e.1 < e.2 /\ e.2 < n) /\ ∀ q,p = some q -> ∀ e ∈ l,BV q e
 | [],p => by simp [fa,Kt]
 | e :: r,p => by
   have ih := F4 n (l := r) (p := some e);unfold fa;by_cases h1 : e.1 < 0 \/ e.2 <= e.1 \/ n <= e.2
   ·rw [if_pos h1];constructor
    ·intro h; cases h
    ·rintro ⟨_,h,_⟩; have := h e (by simp); omega
   ·rw [if_neg h1];cases p with
    | none =>
      rw [if_neg (show ¬ Gl none e from fun h => h),ih];simp only [Kt,aN,aJ,forall_eq_or_imp];constructor
      ·rintro ⟨a,b,c⟩; exact ⟨⟨fun z hz => c e rfl z hz,a⟩,⟨by omega,b⟩,fun q hq => by cases hq⟩
      ·rintro ⟨⟨a,b⟩,⟨c,d⟩,f⟩; exact ⟨b,d,fun q hq => by cases hq; exact a⟩
    | some q =>
      by_cases h2 : BV q e
      ·rw [if_neg (show ¬ Gl (some q) e from fun h => h h2),ih];simp only [Kt,aN,aJ,forall_eq_or_imp];constructor
       ·rintro ⟨a,b,c⟩;exact ⟨⟨fun z hz => c e rfl z hz,a⟩,⟨by omega,b⟩,fun q' hq => by cases hq; exact ⟨h2,fun z hz => AU h2 (c e rfl z hz)⟩⟩
       ·rintro ⟨⟨a,b⟩,⟨c,d⟩,f⟩; exact ⟨b,d,fun q hq => by cases hq; exact a⟩
      ·rw [if_pos (show Gl (some q) e from h2)];constructor
       ·intro h; cases h
       ·rintro ⟨_,_,h⟩; exact absurd (h q rfl e (by simp)) h2
def GOK (n : Int) (l : List Ed) : Prop := (0 <= n /\ n <= 64) /\ Kt l /\ ∀ e ∈ l,0 <= e.1 /\ e.1 < e.2 /\ e.2 < n
theorem rZ {n : Int} {l : List Ed} : F5 n l = 0 ↔ GOK n l := by
 unfold F5 GOK;by_cases h : n < 0 \/ 64 < n
 ·rw [if_pos h]; constructor
  ·intro h; cases h
  ·rintro ⟨h2,_⟩; omega
 ·rw [if_neg h,F4];constructor
  ·rintro ⟨a,b,_⟩; exact ⟨by omega,a,b⟩
  ·rintro ⟨_,a,b⟩; exact ⟨a,b,fun q hq => by cases hq⟩
end Go.Bm
