/- A plain sort of ints; the library's sort as a function that writes into the slice it is given. -/
import Derived.Test.YtmoginoicilobaaGreatDoorMe
import Derived.Lib.TrailingZeros
import Derived.Laws.BitsAllLaws
import Derived.Test.YtmoginoicilobaaGreatDoorRunX
open Bool renaming and_eq_true → aa, true_and → Oh
open List renaming length_map → iM, map_cons → dN, mem_cons → aX, nil_append → ei, pairwise_cons → br
open Nat renaming testBit_two_pow_sub_one → Hy
open Option.some renaming injEq → ai
namespace Go.Am
def oI : List AV -> Option (List Int)
 | [] => some []
 | .int .i64 n :: r => match oI r with
   | some l => some (n :: l)
   | none => none
 | _ => none
theorem Bh : ∀ {cs : List AV} {zs : List Int},oI cs = some zs -> cs = zs.map (AV.int .i64)
 | [],zs,h => by simp [oI] at h; subst h; rfl
 | c :: r,zs,h => by
   unfold oI at h;split at h
   ·rename_i heq; cases heq
   ·rename_i n r' heq;cases heq;split at h
    ·rename_i l hl;simp at h;subst h;rw [Bh hl];rfl
    ·cases h
   ·cases h
theorem CD (zs : List Int) : oI (zs.map (AV.int .i64)) = some zs := by
 induction zs with
 | nil => rfl
 | cons z r ih => simp [oI,ih]
end Go.Am
namespace Go.Bm
open Go.Am
def Nd (x : Int) : List Int -> List Int
 | [] => [x]
 | y :: r => if x <= y then x :: y :: r else y :: Nd x r
def fi : List Int -> List Int
 | [] => []
 | x :: r => Nd x (fi r)
theorem Bi (x : Int) : ∀ l,(Nd x l).Perm (x :: l)
 | [] => .refl _
 | y :: r => by
   unfold Nd;split
   ·exact .refl _
   ·exact ((Bi x r).cons y).trans (List.Perm.swap x y r)
theorem kW : ∀ l,(fi l).Perm l
 | [] => .refl _
 | x :: r => (Bi x (fi r)).trans ((kW r).cons x)
theorem YI {x z : Int} {l : List Int} : z ∈ Nd x l ↔ z = x \/ z ∈ l := by
 rw [(Bi x l).mem_iff]; simp
theorem Nc (x : Int) : ∀ {l : List Int},l.Pairwise (· <= ·) -> (Nd x l).Pairwise (· <= ·)
 | [],_ => by simp [Nd]
 | y :: r,h => by
   obtain ⟨h1,h2⟩ := br.1 h;unfold Nd;split
   ·rename_i hle;refine br.2 ⟨fun z hz => ?_,h⟩;rcases aX.1 hz with e | e
    ·omega
    ·have := h1 z e; omega
   ·rename_i hle;refine br.2 ⟨fun z hz => ?_,Nc x h2⟩;rcases YI.1 hz with e | e
    ·omega
    ·exact h1 z e
theorem rR : ∀ l,(fi l).Pairwise (· <= ·)
 | [] => .nil
 | x :: r => Nc x (rR r)
theorem pc (l : List Int) : (fi l).length = l.length := (kW l).length_eq
theorem CU : ∀ {l m : List Int},l.Perm m -> l.Pairwise (· <= ·) -> m.Pairwise (· <= ·) -> l = m
 | [],m,h,_,_ => (List.Perm.nil_eq h)
 | x :: r,[],h,_,_ => by have := h.length_eq; simp at this
 | x :: r,y :: s,h,h1,h2 => by
   obtain ⟨a1,a2⟩ := br.1 h1;obtain ⟨b1,b2⟩ := br.1 h2;have hx : x ∈ y :: s := h.mem_iff.1 (by simp);have hy : y ∈ x :: r := h.mem_iff.2 (by simp)
   have e : x = y := by
    rcases aX.1 hx with e | e
    ·exact e
    ·rcases aX.1 hy with e2 | e2
     ·exact e2.symm
     ·have := a1 y e2; have := b1 x e; omega
   subst e;rw [CU (List.Perm.cons_inv h) a2 b2]
def Ud (k : Nat) (xs es : List AV) : Option (List AV × Option Nat) :=
 match k,es with
 | 1,[] => if xs.length <= kR then match oI xs with
   | some zs => some ((fi zs).map (AV.int .i64),none)
   | none => none
   else none
 | _,_ => none
/- Plain facts on strictly rising lists of ints: what sort and compact give, and what a merge gives. -/
set_option linter.unusedVariables false
set_option linter.unusedSimpArgs false
def Up (l : List Int) : Prop := l.Pairwise (· < ·)
def dd : List Int -> List Int
 | [] => []
 | [x] => [x]
 | x :: y :: r => if x = y then dd (y :: r) else x :: dd (y :: r)
theorem P6 : ∀ (l : List Int) (z : Int),z ∈ dd l ↔ z ∈ l
 | [],z => by simp [dd]
 | [x],z => by simp [dd]
 | x :: y :: r,z => by
   have ih := P6 (y :: r) z;unfold dd;split
   ·rename_i e; subst e; rw [ih]; simp
   ·rw [aX,ih,aX (a := z) (b := x)]
theorem ZF : ∀ l : List Int,(dd l).length <= l.length
 | [] => by simp [dd]
 | [x] => by simp [dd]
 | x :: y :: r => by
   have ih := ZF (y :: r);unfold dd;split
   ·simp at *; omega
   ·simp at *; omega
theorem adp : ∀ {l : List Int},l.Pairwise (· <= ·) -> Up (dd l)
 | [],_ => by simp [dd,Up]
 | [x],_ => by simp [dd,Up]
 | x :: y :: r,h => by
   obtain ⟨h1,h2⟩ := br.1 h;have ih := adp h2;unfold dd;split
   ·exact ih
   ·rename_i Bq;refine br.2 ⟨fun z hz => ?_,ih⟩;have hz := (P6 _ _).1 hz;have a := h1 y (by simp);have b := (br.1 h2).1;rcases aX.1 hz with e | e
    ·subst e; omega
    ·have := b z e; omega
def oQ (zs : List Int) : List Int := dd (fi zs)
theorem kU (zs : List Int) : Up (oQ zs) /\ ∀ x,x ∈ oQ zs ↔ x ∈ zs :=
 ⟨adp (rR zs),fun x => (P6 _ _).trans (kW zs).mem_iff⟩
theorem Ug (zs : List Int) : (oQ zs).length <= zs.length := by
 have := ZF (fi zs);rw [pc] at this;exact this
theorem uf {a b : List Int} (ha : Up a) (hb : Up b) (h : ∀ x,x ∈ a ↔ x ∈ b) : a = b := by
 induction a generalizing b with
 | nil =>
   cases b with
   | nil => rfl
   | cons y s => exact absurd ((h y).mpr (by simp)) (by simp)
 | cons x r ih =>
   cases b with
   | nil => exact absurd ((h x).mp (by simp)) (by simp)
   | cons y s =>
     unfold Up at ha hb;rw [br] at ha hb
     have hxy : x = y := by
      have h1 := (h x).mp (by simp);have h2 := (h y).mpr (by simp);simp only [aX] at h1 h2;rcases h1 with e | e
      ·exact e
      ·rcases h2 with e2 | e2
       ·exact e2.symm
       ·have := ha.1 _ e2;have := hb.1 _ e;omega
     subst hxy;congr 1;refine ih ha.2 hb.2 fun z => ?_;have hz := h z;simp only [aX] at hz;constructor
     ·intro hr;rcases hz.mp (.inr hr) with e | e
      ·have := ha.1 _ hr; omega
      ·exact e
     ·intro hr;rcases hz.mpr (.inr hr) with e | e
      ·have := hb.1 _ hr; omega
      ·exact e
def XO (c : Bool) (x : Int) (m : List Int) : List Int := if c = true then x :: m else m
def G0 (keep : Bool -> Bool -> Bool) : List Int -> List Int -> List Int
 | [],[] => []
 | x :: r,[] => XO (keep true false) x (G0 keep r [])
 | [],y :: s => XO (keep false true) y (G0 keep [] s)
 | x :: r,y :: s =>
   if x < y then XO (keep true false) x (G0 keep r (y :: s))
   else if y < x then XO (keep false true) y (G0 keep (x :: r) s)
   else XO (keep true true) x (G0 keep r s)
termination_by a b => a.length + b.length
theorem vj (keep : Bool -> Bool -> Bool) (z : Int) (m a' b' a b : List Int) (pa pb : Bool) (h1 : Up m) (h2 : ∀ x,x ∈ m ↔ ((x ∈ a' \/ x ∈ b') /\ keep (decide (x ∈ a')) (decide (x ∈ b')) = true)) (bz : ∀ x,x ∈ a' \/ x ∈ b' -> z < x)
  (hp : pa = true \/ pb = true) (ha : ∀ x,x ∈ a ↔ ((x = z /\ pa = true) \/ x ∈ a')) (hb : ∀ x,x ∈ b ↔ ((x = z /\ pb = true) \/ x ∈ b')) {o : List Int} (ho : o = if keep pa pb then z :: m else m) :
  Up o /\ ∀ x,x ∈ o ↔ ((x ∈ a \/ x ∈ b) /\ keep (decide (x ∈ a)) (decide (x ∈ b)) = true) := by
 subst ho;have hza : z ∉ a' := fun h => Int.lt_irrefl _ (bz z (.inl h));have hzb : z ∉ b' := fun h => Int.lt_irrefl _ (bz z (.inr h));have hzm : z ∉ m := fun h => ((h2 z).mp h).1.elim hza hzb;refine ⟨?_,fun x => ?_⟩
 ·split
  ·unfold Up;rw [br];exact ⟨fun y hy => bz y ((h2 y).mp hy).1,h1⟩
  ·exact h1
 ·by_cases hx : x = z
  ·subst hx;have da : decide (x ∈ a) = pa := by cases pa <;> simp [ha,hza]
   have db : decide (x ∈ b) = pb := by cases pb <;> simp [hb,hzb]
   have hor : x ∈ a \/ x ∈ b := by
    rcases hp with h | h
    ·left; simp [ha,h]
    ·right; simp [hb,h]
   rw [da,db];simp only [hor,true_and];split
   ·rename_i hk;simp [hk]
   ·rename_i hk;simp [hk,hzm]
  ·have da : x ∈ a ↔ x ∈ a' := by simp [ha,hx]
   have db : x ∈ b ↔ x ∈ b' := by simp [hb,hx]
   simp only [da,db];rw [<- h2];split
   ·simp [hx]
   ·rfl
theorem Yl (keep : Bool -> Bool -> Bool) (a b : List Int) (ha : Up a) (hb : Up b) : Up (G0 keep a b) /\ ∀ x,x ∈ G0 keep a b ↔ ((x ∈ a \/ x ∈ b) /\ keep (decide (x ∈ a)) (decide (x ∈ b)) = true) := by
 induction a,b using G0.induct with
 | case1 => simp [G0,Up]
 | case2 x r ih =>
   unfold Up at ha;rw [br] at ha;obtain ⟨h1,h2⟩ := ih ha.2 hb;exact vj keep x (G0 keep r []) r [] (x :: r) [] true false h1 h2 (fun y hy => hy.elim (ha.1 y) (fun h => by simp at h)) (.inl rfl) (fun y => by simp) (fun y => by simp) (by rw [G0]; rfl)
 | case3 y s ih =>
   unfold Up at hb;rw [br] at hb;obtain ⟨h1,h2⟩ := ih ha hb.2;exact vj keep y (G0 keep [] s) [] s [] (y :: s) false true h1 h2 (fun x hx => hx.elim (fun h => by simp at h) (hb.1 x)) (.inr rfl) (fun y => by simp) (fun y => by simp) (by rw [G0]; rfl)
 | case4 x r y s bz ih =>
   have VK := ha;have je := hb;unfold Up at ha hb;rw [br] at ha hb;obtain ⟨h1,h2⟩ := ih ha.2 je
   exact vj keep x (G0 keep r (y :: s)) r (y :: s) (x :: r) (y :: s) true false h1 h2 (fun z hz => by
    rcases hz with hz | hz
    ·exact ha.1 z hz
    ·rcases aX.mp hz with e | e
     ·omega
     ·have := hb.1 z e; omega) (.inl rfl) (fun z => by simp) (fun z => by simp) (by rw [G0,if_pos bz]; rfl)
 | case5 x r y s hn bz ih =>
   have VK := ha;have je := hb;unfold Up at ha hb;rw [br] at ha hb;obtain ⟨h1,h2⟩ := ih VK hb.2
   exact vj keep y (G0 keep (x :: r) s) (x :: r) s (x :: r) (y :: s) false true h1 h2 (fun z hz => by
    rcases hz with hz | hz
    ·rcases aX.mp hz with e | e
     ·omega
     ·have := ha.1 z e; omega
    ·exact hb.1 z hz) (.inr rfl) (fun z => by simp) (fun z => by simp) (by rw [G0,if_neg hn,if_pos bz]; rfl)
 | case6 x r y s hn hn2 ih =>
   obtain rfl : x = y := by omega
   unfold Up at ha hb;rw [br] at ha hb;obtain ⟨h1,h2⟩ := ih ha.2 hb.2
   exact vj keep x (G0 keep r s) r s (x :: r) (x :: s) true true h1 h2 (fun z hz => by
    rcases hz with hz | hz
    ·exact ha.1 z hz
    ·exact hb.1 z hz) (.inl rfl) (fun z => by simp) (fun z => by simp) (by rw [G0,if_neg hn,if_neg hn2]; rfl)
def uni (a b : List Int) : List Int := G0 (fun _ _ => true) (oQ a) (oQ b)
def meet (a b : List Int) : List Int := G0 (fun p r => p && r) (oQ a) (oQ b)
def minus (a b : List Int) : List Int := G0 (fun _ r => !r) (oQ a) (oQ b)
theorem wx (a b : List Int) : Up (meet a b) /\ ∀ x,x ∈ meet a b ↔ x ∈ a /\ x ∈ b := by
 obtain ⟨a1,a2⟩ := kU a;obtain ⟨b1,b2⟩ := kU b;obtain ⟨h1,h2⟩ := Yl (fun p r => p && r) _ _ a1 b1
 exact ⟨h1, fun x => by rw [meet, h2]; simp only [a2, b2, aa, decide_eq_true_eq]; constructor
                        ·exact fun h => h.2
                        ·exact fun h => ⟨.inl h.1,h⟩⟩
def gClo : List AV -> Heap -> Option (AV × Heap)
 | [.list 1 []],[] => some (.list 1 [],[])
 | _,_ => none
def cptG (k : Nat) (xs es : List AV) : Option (List AV × Option Nat) :=
 match k,es with
 | 1,[] => if xs.length <= kR then match oI xs with
   | some zs => some ((dd zs ++ List.replicate (zs.length - (dd zs).length) 0).map (AV.int .i64),some (dd zs).length)
   | none => none
   else none
 | _,_ => none
/- What functions on lists of ints answer, in plain terms. -/
def Hr : List Int -> List Int -> Int
 | [],[] => 0
 | [],_ :: _ => -1
 | _ :: _,[] => 1
 | x :: r,y :: s => if y < x then 1 else if x < y then -1 else Hr r s
theorem Jk : ∀ {a b : List Int},Hr a b = 0 ↔ a = b
 | [],[] => by simp [Hr]
 | [],_ :: _ => by simp [Hr]
 | _ :: _,[] => by simp [Hr]
 | x :: r,y :: s => by
   have ih := Jk (a := r) (b := s);unfold Hr;split
   ·rename_i h; simp; intro e; omega
   ·split
    ·rename_i h; simp; intro e; omega
    ·rw [ih]; simp; intro _; omega
def afT (n : Int) : Int -> List Int -> Bool
 | _,[] => true
 | p,x :: r => decide (0 <= x) && (decide (x < n) && (decide (p < x) && afT n x r))
def prev (l : List Int) (i : Nat) : Int := if i = 0 then -1 else l.getD (i - 1) 0
def pz (x : Int) : List Int -> List Int
 | [] => [x]
 | y :: r => if y < x then y :: pz x r else if y = x then y :: r else x :: y :: r
theorem Ms (x : Int) : ∀ l,(pz x l).length <= l.length + 1
 | [] => by simp [pz]
 | y :: r => by
   have := Ms x r;unfold pz;split
   ·simp; omega
   ·split <;> simp
theorem Fb (x z : Int) : ∀ l,z ∈ pz x l ↔ z = x \/ z ∈ l
 | [] => by simp [pz]
 | y :: r => by
   have ih := Fb x z r;unfold pz;split
   ·simp only [aX,ih]; constructor <;> (intro h; rcases h with h | h | h <;> simp [h])
   ·split
    ·rename_i e; subst e; simp
    ·simp
theorem Sy (x : Int) : ∀ {l},Up l -> Up (pz x l)
 | [],_ => by simp [pz,Up]
 | y :: r,h => by
   obtain ⟨h1,h2⟩ := br.1 h;unfold pz;split
   ·rename_i bz;refine br.2 ⟨fun z hz => ?_,Sy x h2⟩;rcases (Fb x z r).1 hz with e | e
    ·omega
    ·exact h1 z e
   ·split
    ·exact h
    ·refine br.2 ⟨fun z hz => ?_,h⟩;rcases aX.1 hz with e | e
     ·omega
     ·have := h1 z e; omega
def pos (x : Int) : List Int -> Nat
 | [] => 0
 | y :: r => if y < x then pos x r + 1 else 0
theorem XR (x : Int) : ∀ l,pos x l <= l.length
 | [] => by simp [pos]
 | y :: r => by have := XR x r; unfold pos; split <;> simp <;> omega
theorem Mr (x : Int) : ∀ l,pz x l = if l[pos x l]? = some x then l else l.take (pos x l) ++ x :: l.drop (pos x l)
 | [] => by simp [pz,pos]
 | y :: r => by
   have ih := Mr x r;unfold pz pos;split
   ·rw [ih];simp only [List.getElem?_cons_succ,List.take_succ_cons,List.drop_succ_cons];split <;> simp
   ·simp only [List.getElem?_cons_zero,ai,List.take_zero,List.drop_zero,ei]
def ofL (l : List Int) : List Int := l.foldl (fun o x => pz x o) []
theorem TA : ∀ (l o : List Int),Up o -> Up (l.foldl (fun o x => pz x o) o) /\ ∀ z,z ∈ l.foldl (fun o x => pz x o) o ↔ z ∈ o \/ z ∈ l
 | [],o,h => ⟨h,fun z => by simp⟩
 | x :: r,o,h => by
   obtain ⟨h1,h2⟩ := TA r (pz x o) (Sy x h);refine ⟨h1,fun z => ?_⟩;rw [List.foldl_cons,h2,Fb];simp only [aX];constructor
   ·rintro ((h | h) | h) <;> simp [h]
   ·rintro (h | h | h) <;> simp [h]
theorem ae6 (l : List Int) : ofL l = oQ l := by
 obtain ⟨h1,h2⟩ := TA l [] (by simp [Up]);obtain ⟨h3,h4⟩ := kU l;exact uf h1 h3 fun x => by rw [h4]; exact (h2 x).trans (by simp)
/- Sets of nodes as bits: plain facts. -/
def tz (x : Nat) : Nat := Lib.ctz 64 x
theorem JE {x : Nat} (h0 : x ≠ 0) (h : x < 18446744073709551616) : ∃ m,x = 2 ^ tz x * (2 * m + 1) /\ tz x < 64 := by
 have := Lib.ctzFrom_spec 64 x (by omega) h;unfold tz Lib.ctz;rw [if_neg h0];exact this
theorem KA (k m j : Nat) : (2 ^ k * (2 * m + 1)).testBit j = if j < k then false else if j = k then true else m.testBit (j - k - 1) := by
 rw [Nat.mul_comm,Nat.testBit_mul_two_pow];by_cases h : j < k
 ·simp [h,show ¬ k <= j by omega]
 ·rw [if_neg h];have hk : k <= j := by omega
  by_cases e : j = k
  ·subst e; simp [Nat.testBit_zero]
  ·rw [if_neg e];obtain ⟨d,hd⟩ : ∃ d,j - k = d + 1 := ⟨j - k - 1,by omega⟩;rw [hd,Nat.testBit_succ,show (2 * m + 1) / 2 = m by omega];simp [hk]
theorem XQ (k m j : Nat) : (2 ^ k * (2 * m + 1) - 1).testBit j = if j < k then true else if j = k then false else m.testBit (j - k - 1) := by
 have e : 2 ^ k * (2 * m + 1) - 1 = 2 ^ (k + 1) * m + (2 ^ k - 1) := by
  have : 0 < 2 ^ k := Nat.two_pow_pos k;rw [Nat.pow_succ,Nat.mul_add,Nat.mul_one,<- Nat.mul_assoc];omega
 have hp : 0 < 2 ^ k := Nat.two_pow_pos k;rw [e,Nat.testBit_two_pow_mul_add _ (by rw [Nat.pow_succ]; omega)];by_cases h : j < k
 ·rw [if_pos (by omega),if_pos h,Hy]; simp [h]
 ·rw [if_neg h];by_cases e2 : j = k
  ·subst e2;rw [if_pos (by omega),if_pos rfl,Hy]; simp
  ·rw [if_neg (by omega),if_neg e2,show j - (k + 1) = j - k - 1 by omega]
theorem Gf {x : Nat} (h0 : x ≠ 0) (h : x < 18446744073709551616) (j : Nat) : (x &&& (x - 1)).testBit j = (x.testBit j && decide (j ≠ tz x)) := by
 obtain ⟨m,hm,_⟩ := JE h0 h;rw [Nat.testBit_and]
 conv => lhs; rw [hm]
 conv => rhs; rw [hm]
 rw [KA,XQ];have hz : tz (2 ^ tz x * (2 * m + 1)) = tz x := by rw [<- hm]
 rw [hz];by_cases h : j < tz x
 ·simp [h]
 ·by_cases e : j = tz x
  ·simp [e]
  ·simp [h,e]
theorem adJ {x : Nat} (h0 : x ≠ 0) (h : x < 18446744073709551616) : x.testBit (tz x) = true /\ ∀ j,j < tz x -> x.testBit j = false := by
 obtain ⟨m,hm,_⟩ := JE h0 h;constructor
 ·conv => lhs; arg 1; rw [hm]
  rw [KA]; simp
 ·intro j hj
  conv => lhs; arg 1; rw [hm]
  rw [KA]; simp [hj]
theorem abz {x : Nat} (h0 : x ≠ 0) : x &&& (x - 1) < x := by
 have := Nat.and_le_right (n := x) (m := x - 1);omega
def tY (m : Nat) : List Int := ((List.range 64).filter fun j => m.testBit j).map fun j => ((j : Nat) : Int)
theorem Ah {m : Nat} {x : Int} : x ∈ tY m ↔ ∃ j : Nat,x = j /\ j < 64 /\ m.testBit j = true := by
 unfold tY;simp only [List.mem_map,List.mem_filter,List.mem_range];constructor
 ·rintro ⟨j,⟨h1,h2⟩,rfl⟩; exact ⟨j,rfl,h1,h2⟩
 ·rintro ⟨j,rfl,h1,h2⟩; exact ⟨j,⟨h1,h2⟩,rfl⟩
theorem Lb (m : Nat) : Up (tY m) := by
 unfold tY Up;refine List.Pairwise.map _ (fun a b h => by omega) (List.Pairwise.filter _ List.pairwise_lt_range)
theorem Vu : tY 0 = [] := by simp [tY]
theorem Z4 (m : Nat) : (tY m).length <= 64 := by
 unfold tY;rw [iM];exact Nat.le_trans (List.length_filter_le _ _) (by simp)
theorem Js {m : Nat} (h0 : m ≠ 0) (h : m < 18446744073709551616) : tY m = (tz m : Int) :: tY (m &&& (m - 1)) := by
 obtain ⟨b1,b2⟩ := adJ h0 h;obtain ⟨_,_,bz⟩ := JE h0 h;refine uf (Lb m) (br.2 ⟨fun x hx => ?_,Lb _⟩) fun x => ?_
 ·obtain ⟨j,rfl,h1,h2⟩ := Ah.1 hx;rw [Gf h0 h,aa,decide_eq_true_eq] at h2;have : ¬ j < tz m := fun k => by rw [b2 j k] at h2; simp at h2
  omega
 ·rw [aX,Ah,Ah];constructor
  ·rintro ⟨j,rfl,h1,h2⟩;by_cases e : j = tz m
   ·left; rw [e]
   ·right; exact ⟨j,rfl,h1,by rw [Gf h0 h,h2]; simp [e]⟩
  ·rintro (rfl | ⟨j,rfl,h1,h2⟩)
   ·exact ⟨tz m,rfl,bz,b1⟩
   ·rw [Gf h0 h,aa] at h2;exact ⟨j,rfl,h1,h2.1⟩
def mskF (l : List Int) (m : Nat) : Nat := l.foldl (fun m v => m ||| 2 ^ v.toNat) m
def msk (l : List Int) : Nat := mskF l 0
/-! Operations of uint64 -/
theorem LA {n : Nat} (h : n < 18446744073709551616) : IntKind.u64.wrap (n : Int) = (n : Int) := by rw [IntKind.wrap_u64]; omega
theorem shlU {v : Int} (h0 : 0 <= v) (h1 : v < 64) : IntKind.u64.wrap (1 * 2 ^ (min v.toNat 64)) = ((2 ^ v.toNat : Nat) : Int) := by
 have e : min v.toNat 64 = v.toNat := by omega
 have h2 : 2 ^ v.toNat < 2 ^ 64 := Nat.pow_lt_pow_right (by decide) (by omega);rw [e,Int.one_mul,show ((2 : Int) ^ v.toNat) = ((2 ^ v.toNat : Nat) : Int) by simp,LA h2]
theorem decU {m : Nat} (h0 : m ≠ 0) (h : m < 18446744073709551616) : IntKind.u64.wrap ((m : Int) - 1) = ((m - 1 : Nat) : Int) := by
 rw [show (m : Int) - 1 = ((m - 1 : Nat) : Int) by omega,LA (by omega)]
/- Edges and graphs: plain facts. -/
abbrev Ed := Int × Int
def cB (e : Ed) : AV := .agg [.int .i64 e.1,.int .i64 e.2]
def bc (l : List Ed) : List AV := l.map cB
theorem au (l : List Ed) : (bc l).length = l.length := iM _
theorem aO (l : List Ed) (i : Nat) : (bc l)[i]? = (l[i]?).map cB := List.getElem?_map
theorem bF (l : List Ed) (i : Nat) (h : i < (bc l).length) : (bc l)[i] = cB (l[i]'(by simpa [bc] using h)) := by simp [bc]
theorem qG : bc [] = [] := rfl
theorem ZB (x : Ed) (l : List Ed) : bc (x :: l) = .agg [.int .i64 x.1,.int .i64 x.2] :: bc l := rfl
theorem pn (l : List Ed) (u v : Int) : bc l ++ [.agg [.int .i64 u,.int .i64 v]] = bc (l ++ [(u,v)]) := by simp [bc,cB]
theorem fI (l : List Ed) (n : Nat) : (bc l).take n = bc (l.take n) := by simp [bc]
theorem az (l : List Ed) : bq (aG (bc l)) = true := by
 induction l with
 | nil => rfl
 | cons x r ih => simp only [bc,dN,aG,cB,AV.cells,List.cons_append,ei,bq,AV.leaf,Oh] at ih ⊢; exact ih
theorem aC (l : List Ed) : fm (bc l) = true := by
 induction l with
 | nil => rfl
 | cons x r ih => simp only [bc,dN,cB,fm,clean,Oh,Bool.and_true] at ih ⊢; exact ih
theorem aA (l : List Int) : fm (ints l) = true := by
 induction l with
 | nil => rfl
 | cons x r ih => simp only [ints,dN,fm,clean] at ih ⊢; rw [ih]; rfl
def yj (a b : Ed) : Prop := a.1 < b.1 \/ a.1 = b.1 /\ a.2 < b.2
instance (a b : Ed) : Decidable (yj a b) := by unfold yj; infer_instance
theorem A8 {a b c : Ed} (h : yj a b) (k : yj b c) : yj a c := by unfold yj at *; omega
theorem KG {a : Ed} : ¬ yj a a := by unfold yj; omega
def Ql (l : List Ed) : Prop := l.Pairwise yj
def putE (x : Ed) : List Ed -> List Ed
 | [] => [x]
 | y :: r => if yj y x then y :: putE x r else if y = x then y :: r else x :: y :: r
def fD (x : Ed) : List Ed -> Nat
 | [] => 0
 | y :: r => if yj y x then fD x r + 1 else 0
theorem SA (x : Ed) : ∀ l,fD x l <= l.length
 | [] => by simp [fD]
 | y :: r => by have := SA x r; unfold fD; split <;> simp <;> omega
def lq (u v : Int) : Ed := (if v < u then v else u,if u < v then v else u)
def ofE (l : List Ed) (o : List Ed) : List Ed := l.foldl (fun o e => putE (lq e.1 e.2) o) o
def GF : Option Ed -> Ed -> Prop
 | none,_ => False
 | some q,e => ¬ yj q e
instance : ∀ p e,Decidable (GF p e)
 | none,_ => instDecidableFalse
 | some q,e => inferInstanceAs (Decidable (¬ yj q e))
def eJ (n : Int) : Option Ed -> List Ed -> Int
 | _,[] => 0
 | p,e :: r => if e.1 < 0 \/ e.2 <= e.1 \/ n <= e.2 then 6 else if GF p e then 5 else eJ n (some e) r
def sV (n : Int) (l : List Ed) : Int := if n < 0 \/ 64 < n then 1 else eJ n none l
theorem Gs (n : Int) : ∀ {l : List Ed} {p : Option Ed},eJ n p l = 0 ↔ Ql l /\ (∀ e ∈ l,0 <= e.1 /\ e.1 < e.2 /\ e.2 < n) /\ ∀ q,p = some q -> ∀ e ∈ l,yj q e
 | [],p => by simp [eJ,Ql]
 | e :: r,p => by
   have ih := Gs n (l := r) (p := some e);unfold eJ;by_cases h1 : e.1 < 0 \/ e.2 <= e.1 \/ n <= e.2
   ·rw [if_pos h1];constructor
    ·intro h; cases h
    ·rintro ⟨_,h,_⟩; have := h e (by simp); omega
   ·rw [if_neg h1];cases p with
    | none =>
      rw [if_neg (show ¬ GF none e from fun h => h),ih];simp only [Ql,br,aX,forall_eq_or_imp];constructor
      ·rintro ⟨a,b,c⟩; exact ⟨⟨fun z hz => c e rfl z hz,a⟩,⟨by omega,b⟩,fun q hq => by cases hq⟩
      ·rintro ⟨⟨a,b⟩,⟨c,d⟩,f⟩; exact ⟨b,d,fun q hq => by cases hq; exact a⟩
    | some q =>
      by_cases h2 : yj q e
      ·rw [if_neg (show ¬ GF (some q) e from fun h => h h2),ih];simp only [Ql,br,aX,forall_eq_or_imp];constructor
       ·rintro ⟨a,b,c⟩;exact ⟨⟨fun z hz => c e rfl z hz,a⟩,⟨by omega,b⟩,fun q' hq => by cases hq; exact ⟨h2,fun z hz => A8 h2 (c e rfl z hz)⟩⟩
       ·rintro ⟨⟨a,b⟩,⟨c,d⟩,f⟩; exact ⟨b,d,fun q hq => by cases hq; exact a⟩
      ·rw [if_pos (show GF (some q) e from h2)];constructor
       ·intro h; cases h
       ·rintro ⟨_,_,h⟩; exact absurd (h q rfl e (by simp)) h2
def kC (n : Int) (l : List Ed) : Prop := (0 <= n /\ n <= 64) /\ Ql l /\ ∀ e ∈ l,0 <= e.1 /\ e.1 < e.2 /\ e.2 < n
theorem dW {n : Int} {l : List Ed} : sV n l = 0 ↔ kC n l := by
 unfold sV kC;by_cases h : n < 0 \/ 64 < n
 ·rw [if_pos h]; constructor
  ·intro h; cases h
  ·rintro ⟨h2,_⟩; omega
 ·rw [if_neg h,Gs];constructor
  ·rintro ⟨a,b,_⟩; exact ⟨by omega,a,b⟩
  ·rintro ⟨_,a,b⟩; exact ⟨a,b,fun q hq => by cases hq⟩
end Go.Bm
