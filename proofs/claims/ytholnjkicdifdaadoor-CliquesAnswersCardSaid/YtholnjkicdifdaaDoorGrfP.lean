/- A plain sort of ints; the library's sort as a function that writes into the slice it is given. -/
import Derived.Test.YtholnjkicdifdaaDoorMe
import Derived.Lib.TrailingZeros
import Derived.Laws.BitsAllLaws
import Derived.Test.YtholnjkicdifdaaDoorRunX
namespace Go.Am
def intsOf : List AV -> Option (List Int)
 | [] => some []
 | .int .i64 n :: r => match intsOf r with
   | some l => some (n :: l)
   | none => none
 | _ => none
theorem intsOf_eq : ∀ {cs : List AV} {zs : List Int},intsOf cs = some zs -> cs = zs.map (AV.int .i64)
 | [],zs,h => by simp [intsOf] at h; subst h; rfl
 | c :: r,zs,h => by
   unfold intsOf at h;split at h
   ·rename_i heq; cases heq
   ·rename_i n r' heq;cases heq;split at h
    ·rename_i l hl;simp at h;subst h;rw [intsOf_eq hl];rfl
    ·cases h
   ·cases h
theorem intsOf_ints (zs : List Int) : intsOf (zs.map (AV.int .i64)) = some zs := by
 induction zs with
 | nil => rfl
 | cons z r ih => simp [intsOf,ih]
end Go.Am
namespace Go.Bm
open Go.Am
def insI (x : Int) : List Int -> List Int
 | [] => [x]
 | y :: r => if x <= y then x :: y :: r else y :: insI x r
def isort : List Int -> List Int
 | [] => []
 | x :: r => insI x (isort r)
theorem insI_perm (x : Int) : ∀ l,(insI x l).Perm (x :: l)
 | [] => .refl _
 | y :: r => by
   unfold insI;split
   ·exact .refl _
   ·exact ((insI_perm x r).cons y).trans (List.Perm.swap x y r)
theorem isort_perm : ∀ l,(isort l).Perm l
 | [] => .refl _
 | x :: r => (insI_perm x (isort r)).trans ((isort_perm r).cons x)
theorem insI_mem {x z : Int} {l : List Int} : z ∈ insI x l ↔ z = x \/ z ∈ l := by
 rw [(insI_perm x l).mem_iff]; simp
theorem insI_asc (x : Int) : ∀ {l : List Int},l.Pairwise (· <= ·) -> (insI x l).Pairwise (· <= ·)
 | [],_ => by simp [insI]
 | y :: r,h => by
   obtain ⟨h1,h2⟩ := List.pairwise_cons.1 h;unfold insI;split
   ·rename_i hle;refine List.pairwise_cons.2 ⟨fun z hz => ?_,h⟩;rcases List.mem_cons.1 hz with e | e
    ·omega
    ·have := h1 z e; omega
   ·rename_i hle;refine List.pairwise_cons.2 ⟨fun z hz => ?_,insI_asc x h2⟩;rcases insI_mem.1 hz with e | e
    ·omega
    ·exact h1 z e
theorem isort_asc : ∀ l,(isort l).Pairwise (· <= ·)
 | [] => .nil
 | x :: r => insI_asc x (isort_asc r)
theorem isort_length (l : List Int) : (isort l).length = l.length := (isort_perm l).length_eq
theorem asc_perm_eq : ∀ {l m : List Int},l.Perm m -> l.Pairwise (· <= ·) -> m.Pairwise (· <= ·) -> l = m
 | [],m,h,_,_ => (List.Perm.nil_eq h)
 | x :: r,[],h,_,_ => by have := h.length_eq; simp at this
 | x :: r,y :: s,h,h1,h2 => by
   obtain ⟨a1,a2⟩ := List.pairwise_cons.1 h1;obtain ⟨b1,b2⟩ := List.pairwise_cons.1 h2;have hx : x ∈ y :: s := h.mem_iff.1 (by simp);have hy : y ∈ x :: r := h.mem_iff.2 (by simp)
   have e : x = y := by
    rcases List.mem_cons.1 hx with e | e
    ·exact e
    ·rcases List.mem_cons.1 hy with e2 | e2
     ·exact e2.symm
     ·have := a1 y e2; have := b1 x e; omega
   subst e;rw [asc_perm_eq (List.Perm.cons_inv h) a2 b2]
def srtG (k : Nat) (xs es : List AV) : Option (List AV × Option Nat) :=
 match k,es with
 | 1,[] => if xs.length <= LIM then match intsOf xs with
   | some zs => some ((isort zs).map (AV.int .i64),none)
   | none => none
   else none
 | _,_ => none
/- Plain facts on strictly rising lists of ints: what sort and compact give, and what a merge gives. -/
set_option linter.unusedVariables false
set_option linter.unusedSimpArgs false
def Up (l : List Int) : Prop := l.Pairwise (· < ·)
def dd : List Int -> List Int
 | [] => []
 | [x] => [x]
 | x :: y :: r => if x = y then dd (y :: r) else x :: dd (y :: r)
theorem dd_mem : ∀ (l : List Int) (z : Int),z ∈ dd l ↔ z ∈ l
 | [],z => by simp [dd]
 | [x],z => by simp [dd]
 | x :: y :: r,z => by
   have ih := dd_mem (y :: r) z;unfold dd;split
   ·rename_i e; subst e; rw [ih]; simp
   ·rw [List.mem_cons,ih,List.mem_cons (a := z) (b := x)]
theorem dd_up : ∀ {l : List Int},l.Pairwise (· <= ·) -> Up (dd l)
 | [],_ => by simp [dd,Up]
 | [x],_ => by simp [dd,Up]
 | x :: y :: r,h => by
   obtain ⟨h1,h2⟩ := List.pairwise_cons.1 h;have ih := dd_up h2;unfold dd;split
   ·exact ih
   ·rename_i hne;refine List.pairwise_cons.2 ⟨fun z hz => ?_,ih⟩;have hz := (dd_mem _ _).1 hz;have a := h1 y (by simp);have b := (List.pairwise_cons.1 h2).1;rcases List.mem_cons.1 hz with e | e
    ·subst e; omega
    ·have := b z e; omega
def setOf (zs : List Int) : List Int := dd (isort zs)
theorem setOf_spec (zs : List Int) : Up (setOf zs) /\ ∀ x,x ∈ setOf zs ↔ x ∈ zs :=
 ⟨dd_up (isort_asc zs),fun x => (dd_mem _ _).trans (isort_perm zs).mem_iff⟩
theorem up_ext {a b : List Int} (ha : Up a) (hb : Up b) (h : ∀ x,x ∈ a ↔ x ∈ b) : a = b := by
 induction a generalizing b with
 | nil =>
   cases b with
   | nil => rfl
   | cons y s => exact absurd ((h y).mpr (by simp)) (by simp)
 | cons x r ih =>
   cases b with
   | nil => exact absurd ((h x).mp (by simp)) (by simp)
   | cons y s =>
     unfold Up at ha hb;rw [List.pairwise_cons] at ha hb
     have hxy : x = y := by
      have h1 := (h x).mp (by simp);have h2 := (h y).mpr (by simp);simp only [List.mem_cons] at h1 h2;rcases h1 with e | e
      ·exact e
      ·rcases h2 with e2 | e2
       ·exact e2.symm
       ·have := ha.1 _ e2;have := hb.1 _ e;omega
     subst hxy;congr 1;refine ih ha.2 hb.2 fun z => ?_;have hz := h z;simp only [List.mem_cons] at hz;constructor
     ·intro hr;rcases hz.mp (.inr hr) with e | e
      ·have := ha.1 _ hr; omega
      ·exact e
     ·intro hr;rcases hz.mpr (.inr hr) with e | e
      ·have := hb.1 _ hr; omega
      ·exact e
def put1 (c : Bool) (x : Int) (m : List Int) : List Int := if c = true then x :: m else m
def mrg (keep : Bool -> Bool -> Bool) : List Int -> List Int -> List Int
 | [],[] => []
 | x :: r,[] => put1 (keep true false) x (mrg keep r [])
 | [],y :: s => put1 (keep false true) y (mrg keep [] s)
 | x :: r,y :: s =>
   if x < y then put1 (keep true false) x (mrg keep r (y :: s))
   else if y < x then put1 (keep false true) y (mrg keep (x :: r) s)
   else put1 (keep true true) x (mrg keep r s)
termination_by a b => a.length + b.length
def uni (a b : List Int) : List Int := mrg (fun _ _ => true) (setOf a) (setOf b)
def meet (a b : List Int) : List Int := mrg (fun p r => p && r) (setOf a) (setOf b)
def minus (a b : List Int) : List Int := mrg (fun _ r => !r) (setOf a) (setOf b)
def gClo : List AV -> Heap -> Option (AV × Heap)
 | [.list 1 []],[] => some (.list 1 [],[])
 | _,_ => none
def cptG (k : Nat) (xs es : List AV) : Option (List AV × Option Nat) :=
 match k,es with
 | 1,[] => if xs.length <= LIM then match intsOf xs with
   | some zs => some ((dd zs ++ List.replicate (zs.length - (dd zs).length) 0).map (AV.int .i64),some (dd zs).length)
   | none => none
   else none
 | _,_ => none
/- What functions on lists of ints answer, in plain terms. -/
def cmpL : List Int -> List Int -> Int
 | [],[] => 0
 | [],_ :: _ => -1
 | _ :: _,[] => 1
 | x :: r,y :: s => if y < x then 1 else if x < y then -1 else cmpL r s
theorem cmpL_zero : ∀ {a b : List Int},cmpL a b = 0 ↔ a = b
 | [],[] => by simp [cmpL]
 | [],_ :: _ => by simp [cmpL]
 | _ :: _,[] => by simp [cmpL]
 | x :: r,y :: s => by
   have ih := cmpL_zero (a := r) (b := s);unfold cmpL;split
   ·rename_i h; simp; intro e; omega
   ·split
    ·rename_i h; simp; intro e; omega
    ·rw [ih]; simp; intro _; omega
def valGo (n : Int) : Int -> List Int -> Bool
 | _,[] => true
 | p,x :: r => decide (0 <= x) && (decide (x < n) && (decide (p < x) && valGo n x r))
theorem valGo_iff (n : Int) : ∀ {l : List Int} {p : Int},valGo n p l = true ↔ Up l /\ ∀ x ∈ l,p < x /\ 0 <= x /\ x < n
 | [],p => by simp [valGo,Up]
 | x :: r,p => by
   have ih := valGo_iff n (l := r) (p := x);simp only [valGo,Bool.and_eq_true,decide_eq_true_eq,ih,Up,List.pairwise_cons,List.mem_cons,forall_eq_or_imp];constructor
   ·rintro ⟨h1,h2,h3,h4,h5⟩;exact ⟨⟨fun y hy => (h5 y hy).1,h4⟩,⟨h3,h1,h2⟩,fun y hy => ⟨by have := (h5 y hy).1; omega,(h5 y hy).2⟩⟩
   ·rintro ⟨⟨h1,h2⟩,⟨h3,h4,h5⟩,h6⟩;exact ⟨h4,h5,h3,h2,fun y hy => ⟨h1 y hy,(h6 y hy).2⟩⟩
def prev (l : List Int) (i : Nat) : Int := if i = 0 then -1 else l.getD (i - 1) 0
theorem prev_zero (l : List Int) : prev l 0 = -1 := rfl
theorem prev_succ (l : List Int) (i : Nat) (h : i < l.length) : prev l (i + 1) = l[i] := by simp [prev,h]
def putI (x : Int) : List Int -> List Int
 | [] => [x]
 | y :: r => if y < x then y :: putI x r else if y = x then y :: r else x :: y :: r
theorem putI_len (x : Int) : ∀ l,(putI x l).length <= l.length + 1
 | [] => by simp [putI]
 | y :: r => by
   have := putI_len x r;unfold putI;split
   ·simp; omega
   ·split <;> simp
theorem putI_mem (x z : Int) : ∀ l,z ∈ putI x l ↔ z = x \/ z ∈ l
 | [] => by simp [putI]
 | y :: r => by
   have ih := putI_mem x z r;unfold putI;split
   ·simp only [List.mem_cons,ih]; constructor <;> (intro h; rcases h with h | h | h <;> simp [h])
   ·split
    ·rename_i e; subst e; simp
    ·simp
theorem putI_up (x : Int) : ∀ {l},Up l -> Up (putI x l)
 | [],_ => by simp [putI,Up]
 | y :: r,h => by
   obtain ⟨h1,h2⟩ := List.pairwise_cons.1 h;unfold putI;split
   ·rename_i hlt;refine List.pairwise_cons.2 ⟨fun z hz => ?_,putI_up x h2⟩;rcases (putI_mem x z r).1 hz with e | e
    ·omega
    ·exact h1 z e
   ·split
    ·exact h
    ·refine List.pairwise_cons.2 ⟨fun z hz => ?_,h⟩;rcases List.mem_cons.1 hz with e | e
     ·omega
     ·have := h1 z e; omega
def pos (x : Int) : List Int -> Nat
 | [] => 0
 | y :: r => if y < x then pos x r + 1 else 0
theorem pos_le (x : Int) : ∀ l,pos x l <= l.length
 | [] => by simp [pos]
 | y :: r => by have := pos_le x r; unfold pos; split <;> simp <;> omega
theorem putI_pos (x : Int) : ∀ l,putI x l = if l[pos x l]? = some x then l else l.take (pos x l) ++ x :: l.drop (pos x l)
 | [] => by simp [putI,pos]
 | y :: r => by
   have ih := putI_pos x r;unfold putI pos;split
   ·rw [ih];simp only [List.getElem?_cons_succ,List.take_succ_cons,List.drop_succ_cons];split <;> simp
   ·simp only [List.getElem?_cons_zero,Option.some.injEq,List.take_zero,List.drop_zero,List.nil_append]
def ofL (l : List Int) : List Int := l.foldl (fun o x => putI x o) []
theorem fold_up : ∀ (l o : List Int),Up o -> Up (l.foldl (fun o x => putI x o) o) /\ ∀ z,z ∈ l.foldl (fun o x => putI x o) o ↔ z ∈ o \/ z ∈ l
 | [],o,h => ⟨h,fun z => by simp⟩
 | x :: r,o,h => by
   obtain ⟨h1,h2⟩ := fold_up r (putI x o) (putI_up x h);refine ⟨h1,fun z => ?_⟩;rw [List.foldl_cons,h2,putI_mem];simp only [List.mem_cons];constructor
   ·rintro ((h | h) | h) <;> simp [h]
   ·rintro (h | h | h) <;> simp [h]
theorem ofL_eq (l : List Int) : ofL l = setOf l := by
 obtain ⟨h1,h2⟩ := fold_up l [] (by simp [Up]);obtain ⟨h3,h4⟩ := setOf_spec l;exact up_ext h1 h3 fun x => by rw [h4]; exact (h2 x).trans (by simp)
/- Sets of nodes as bits: plain facts. -/
def tz (x : Nat) : Nat := Lib.ctz 64 x
theorem tz_spec {x : Nat} (h0 : x ≠ 0) (h : x < 18446744073709551616) : ∃ m,x = 2 ^ tz x * (2 * m + 1) /\ tz x < 64 := by
 have := Lib.ctzFrom_spec 64 x (by omega) h;unfold tz Lib.ctz;rw [if_neg h0];exact this
theorem odd_bit (k m j : Nat) : (2 ^ k * (2 * m + 1)).testBit j = if j < k then false else if j = k then true else m.testBit (j - k - 1) := by
 rw [Nat.mul_comm,Nat.testBit_mul_two_pow];by_cases h : j < k
 ·simp [h,show ¬ k <= j by omega]
 ·rw [if_neg h];have hk : k <= j := by omega
  by_cases e : j = k
  ·subst e; simp [Nat.testBit_zero]
  ·rw [if_neg e];obtain ⟨d,hd⟩ : ∃ d,j - k = d + 1 := ⟨j - k - 1,by omega⟩;rw [hd,Nat.testBit_succ,show (2 * m + 1) / 2 = m by omega];simp [hk]
theorem pred_bit (k m j : Nat) : (2 ^ k * (2 * m + 1) - 1).testBit j = if j < k then true else if j = k then false else m.testBit (j - k - 1) := by
 have e : 2 ^ k * (2 * m + 1) - 1 = 2 ^ (k + 1) * m + (2 ^ k - 1) := by
  have : 0 < 2 ^ k := Nat.two_pow_pos k;rw [Nat.pow_succ,Nat.mul_add,Nat.mul_one,<- Nat.mul_assoc];omega
 have hp : 0 < 2 ^ k := Nat.two_pow_pos k;rw [e,Nat.testBit_two_pow_mul_add _ (by rw [Nat.pow_succ]; omega)];by_cases h : j < k
 ·rw [if_pos (by omega),if_pos h,Nat.testBit_two_pow_sub_one]; simp [h]
 ·rw [if_neg h];by_cases e2 : j = k
  ·subst e2;rw [if_pos (by omega),if_pos rfl,Nat.testBit_two_pow_sub_one]; simp
  ·rw [if_neg (by omega),if_neg e2,show j - (k + 1) = j - k - 1 by omega]
theorem drop_bit {x : Nat} (h0 : x ≠ 0) (h : x < 18446744073709551616) (j : Nat) : (x &&& (x - 1)).testBit j = (x.testBit j && decide (j ≠ tz x)) := by
 obtain ⟨m,hm,_⟩ := tz_spec h0 h;rw [Nat.testBit_and]
 conv => lhs; rw [hm]
 conv => rhs; rw [hm]
 rw [odd_bit,pred_bit];have hz : tz (2 ^ tz x * (2 * m + 1)) = tz x := by rw [<- hm]
 rw [hz];by_cases h : j < tz x
 ·simp [h]
 ·by_cases e : j = tz x
  ·simp [e]
  ·simp [h,e]
theorem tz_bit {x : Nat} (h0 : x ≠ 0) (h : x < 18446744073709551616) : x.testBit (tz x) = true /\ ∀ j,j < tz x -> x.testBit j = false := by
 obtain ⟨m,hm,_⟩ := tz_spec h0 h;constructor
 ·conv => lhs; arg 1; rw [hm]
  rw [odd_bit]; simp
 ·intro j hj
  conv => lhs; arg 1; rw [hm]
  rw [odd_bit]; simp [hj]
def bitL (m : Nat) : List Int := ((List.range 64).filter fun j => m.testBit j).map fun j => ((j : Nat) : Int)
theorem bitL_mem {m : Nat} {x : Int} : x ∈ bitL m ↔ ∃ j : Nat,x = j /\ j < 64 /\ m.testBit j = true := by
 unfold bitL;simp only [List.mem_map,List.mem_filter,List.mem_range];constructor
 ·rintro ⟨j,⟨h1,h2⟩,rfl⟩; exact ⟨j,rfl,h1,h2⟩
 ·rintro ⟨j,rfl,h1,h2⟩; exact ⟨j,⟨h1,h2⟩,rfl⟩
theorem bitL_up (m : Nat) : Up (bitL m) := by
 unfold bitL Up;refine List.Pairwise.map _ (fun a b h => by omega) (List.Pairwise.filter _ List.pairwise_lt_range)
theorem bitL_zero : bitL 0 = [] := by simp [bitL]
theorem bitL_len (m : Nat) : (bitL m).length <= 64 := by
 unfold bitL;rw [List.length_map];exact Nat.le_trans (List.length_filter_le _ _) (by simp)
theorem bitL_step {m : Nat} (h0 : m ≠ 0) (h : m < 18446744073709551616) : bitL m = (tz m : Int) :: bitL (m &&& (m - 1)) := by
 obtain ⟨b1,b2⟩ := tz_bit h0 h;obtain ⟨_,_,hlt⟩ := tz_spec h0 h;refine up_ext (bitL_up m) (List.pairwise_cons.2 ⟨fun x hx => ?_,bitL_up _⟩) fun x => ?_
 ·obtain ⟨j,rfl,h1,h2⟩ := bitL_mem.1 hx;rw [drop_bit h0 h,Bool.and_eq_true,decide_eq_true_eq] at h2;have : ¬ j < tz m := fun k => by rw [b2 j k] at h2; simp at h2
  omega
 ·rw [List.mem_cons,bitL_mem,bitL_mem];constructor
  ·rintro ⟨j,rfl,h1,h2⟩;by_cases e : j = tz m
   ·left; rw [e]
   ·right; exact ⟨j,rfl,h1,by rw [drop_bit h0 h,h2]; simp [e]⟩
  ·rintro (rfl | ⟨j,rfl,h1,h2⟩)
   ·exact ⟨tz m,rfl,hlt,b1⟩
   ·rw [drop_bit h0 h,Bool.and_eq_true] at h2;exact ⟨j,rfl,h1,h2.1⟩
def mskF (l : List Int) (m : Nat) : Nat := l.foldl (fun m v => m ||| 2 ^ v.toNat) m
def msk (l : List Int) : Nat := mskF l 0
theorem mskF_bit : ∀ (l : List Int) (m j : Nat),(∀ v ∈ l,0 <= v) -> (mskF l m).testBit j = (m.testBit j || decide ((j : Int) ∈ l))
 | [],m,j,_ => by simp [mskF]
 | v :: r,m,j,h => by
   have ih := mskF_bit r (m ||| 2 ^ v.toNat) j (fun w hw => h w (by simp [hw]));have hv := h v (by simp);unfold mskF at ih ⊢;rw [List.foldl_cons,ih,Nat.testBit_or,Nat.testBit_two_pow];have e : decide (v.toNat = j) = decide ((j : Int) = v) := by rw [Bool.eq_iff_iff,decide_eq_true_eq,decide_eq_true_eq]; omega
   rw [e,Bool.or_assoc];congr 1;rw [Bool.eq_iff_iff]; simp
theorem msk_bit {l : List Int} {j : Nat} (h : ∀ v ∈ l,0 <= v) : (msk l).testBit j = decide ((j : Int) ∈ l) := by
 unfold msk; rw [mskF_bit l 0 j h]; simp
theorem bitL_msk {l : List Int} (hu : Up l) (h : ∀ v ∈ l,0 <= v /\ v < 64) : bitL (msk l) = l := by
 refine up_ext (bitL_up _) hu fun x => ?_;rw [bitL_mem];constructor
 ·rintro ⟨j,rfl,_,hj⟩;rw [msk_bit (fun v hv => (h v hv).1)] at hj;simpa using hj
 ·intro hx;obtain ⟨h0,h1⟩ := h x hx;refine ⟨x.toNat,by omega,by omega,?_⟩;rw [msk_bit (fun v hv => (h v hv).1)];simpa [show ((x.toNat : Nat) : Int) = x by omega] using hx
/-! Operations of uint64 -/
theorem wrapU {n : Nat} (h : n < 18446744073709551616) : IntKind.u64.wrap (n : Int) = (n : Int) := by rw [IntKind.wrap_u64]; omega
theorem shlU {v : Int} (h0 : 0 <= v) (h1 : v < 64) : IntKind.u64.wrap (1 * 2 ^ (min v.toNat 64)) = ((2 ^ v.toNat : Nat) : Int) := by
 have e : min v.toNat 64 = v.toNat := by omega
 have h2 : 2 ^ v.toNat < 2 ^ 64 := Nat.pow_lt_pow_right (by decide) (by omega);rw [e,Int.one_mul,show ((2 : Int) ^ v.toNat) = ((2 ^ v.toNat : Nat) : Int) by simp,wrapU h2]
theorem decU {m : Nat} (h0 : m ≠ 0) (h : m < 18446744073709551616) : IntKind.u64.wrap ((m : Int) - 1) = ((m - 1 : Nat) : Int) := by
 rw [show (m : Int) - 1 = ((m - 1 : Nat) : Int) by omega,wrapU (by omega)]
/- Edges and graphs: plain facts. -/
abbrev Ed := Int × Int
def edAV (e : Ed) : AV := .agg [.int .i64 e.1,.int .i64 e.2]
def eds (l : List Ed) : List AV := l.map edAV
theorem eds_length (l : List Ed) : (eds l).length = l.length := List.length_map _
theorem eds_get (l : List Ed) (i : Nat) : (eds l)[i]? = (l[i]?).map edAV := List.getElem?_map
theorem edsAt (l : List Ed) (i : Nat) (h : i < (eds l).length) : (eds l)[i] = edAV (l[i]'(by simpa [eds] using h)) := by simp [eds]
theorem eds_nil : eds [] = [] := rfl
theorem eds_cons (x : Ed) (l : List Ed) : eds (x :: l) = .agg [.int .i64 x.1,.int .i64 x.2] :: eds l := rfl
theorem eds_snocM (l : List Ed) (u v : Int) : eds l ++ [.agg [.int .i64 u,.int .i64 v]] = eds (l ++ [(u,v)]) := by simp [eds,edAV]
theorem eds_take (l : List Ed) (n : Nat) : (eds l).take n = eds (l.take n) := by simp [eds]
theorem allLeaf_eds (l : List Ed) : allLeaf (flatCells (eds l)) = true := by
 induction l with
 | nil => rfl
 | cons x r ih => simp only [eds,List.map_cons,flatCells,edAV,AV.cells,List.cons_append,List.nil_append,allLeaf,AV.leaf,Bool.true_and] at ih ⊢; exact ih
theorem cleanL_eds (l : List Ed) : cleanL (eds l) = true := by
 induction l with
 | nil => rfl
 | cons x r ih => simp only [eds,List.map_cons,edAV,cleanL,clean,Bool.true_and,Bool.and_true] at ih ⊢; exact ih
theorem cleanL_ints (l : List Int) : cleanL (ints l) = true := by
 induction l with
 | nil => rfl
 | cons x r ih => simp only [ints,List.map_cons,cleanL,clean] at ih ⊢; rw [ih]; rfl
def ltE (a b : Ed) : Prop := a.1 < b.1 \/ a.1 = b.1 /\ a.2 < b.2
instance (a b : Ed) : Decidable (ltE a b) := by unfold ltE; infer_instance
theorem ltE_trans {a b c : Ed} (h : ltE a b) (k : ltE b c) : ltE a c := by unfold ltE at *; omega
def UpE (l : List Ed) : Prop := l.Pairwise ltE
def putE (x : Ed) : List Ed -> List Ed
 | [] => [x]
 | y :: r => if ltE y x then y :: putE x r else if y = x then y :: r else x :: y :: r
def posE (x : Ed) : List Ed -> Nat
 | [] => 0
 | y :: r => if ltE y x then posE x r + 1 else 0
def nrmE (u v : Int) : Ed := (if v < u then v else u,if u < v then v else u)
def ofE (l : List Ed) (o : List Ed) : List Ed := l.foldl (fun o e => putE (nrmE e.1 e.2) o) o
def badP : Option Ed -> Ed -> Prop
 | none,_ => False
 | some q,e => ¬ ltE q e
instance : ∀ p e,Decidable (badP p e)
 | none,_ => instDecidableFalse
 | some q,e => inferInstanceAs (Decidable (¬ ltE q e))
def chkGo (n : Int) : Option Ed -> List Ed -> Int
 | _,[] => 0
 | p,e :: r => if e.1 < 0 \/ e.2 <= e.1 \/ n <= e.2 then 6 else if badP p e then 5 else chkGo n (some e) r
def chkG (n : Int) (l : List Ed) : Int := if n < 0 \/ 64 < n then 1 else chkGo n none l
theorem chkGo_zero (n : Int) : ∀ {l : List Ed} {p : Option Ed},chkGo n p l = 0 ↔ UpE l /\ (∀ e ∈ l,0 <= e.1 /\ e.1 < e.2 /\ e.2 < n) /\ ∀ q,p = some q -> ∀ e ∈ l,ltE q e
 | [],p => by simp [chkGo,UpE]
 | e :: r,p => by
   have ih := chkGo_zero n (l := r) (p := some e);unfold chkGo;by_cases h1 : e.1 < 0 \/ e.2 <= e.1 \/ n <= e.2
   ·rw [if_pos h1];constructor
    ·intro h; cases h
    ·rintro ⟨_,h,_⟩; have := h e (by simp); omega
   ·rw [if_neg h1];cases p with
    | none =>
      rw [if_neg (show ¬ badP none e from fun h => h),ih];simp only [UpE,List.pairwise_cons,List.mem_cons,forall_eq_or_imp];constructor
      ·rintro ⟨a,b,c⟩; exact ⟨⟨fun z hz => c e rfl z hz,a⟩,⟨by omega,b⟩,fun q hq => by cases hq⟩
      ·rintro ⟨⟨a,b⟩,⟨c,d⟩,f⟩; exact ⟨b,d,fun q hq => by cases hq; exact a⟩
    | some q =>
      by_cases h2 : ltE q e
      ·rw [if_neg (show ¬ badP (some q) e from fun h => h h2),ih];simp only [UpE,List.pairwise_cons,List.mem_cons,forall_eq_or_imp];constructor
       ·rintro ⟨a,b,c⟩;exact ⟨⟨fun z hz => c e rfl z hz,a⟩,⟨by omega,b⟩,fun q' hq => by cases hq; exact ⟨h2,fun z hz => ltE_trans h2 (c e rfl z hz)⟩⟩
       ·rintro ⟨⟨a,b⟩,⟨c,d⟩,f⟩; exact ⟨b,d,fun q hq => by cases hq; exact a⟩
      ·rw [if_pos (show badP (some q) e from h2)];constructor
       ·intro h; cases h
       ·rintro ⟨_,_,h⟩; exact absurd (h q rfl e (by simp)) h2
def GOK (n : Int) (l : List Ed) : Prop := (0 <= n /\ n <= 64) /\ UpE l /\ ∀ e ∈ l,0 <= e.1 /\ e.1 < e.2 /\ e.2 < n
theorem chkG_zero {n : Int} {l : List Ed} : chkG n l = 0 ↔ GOK n l := by
 unfold chkG GOK;by_cases h : n < 0 \/ 64 < n
 ·rw [if_pos h]; constructor
  ·intro h; cases h
  ·rintro ⟨h2,_⟩; omega
 ·rw [if_neg h,chkGo_zero];constructor
  ·rintro ⟨a,b,_⟩; exact ⟨by omega,a,b⟩
  ·rintro ⟨_,a,b⟩; exact ⟨a,b,fun q hq => by cases hq⟩
end Go.Bm
