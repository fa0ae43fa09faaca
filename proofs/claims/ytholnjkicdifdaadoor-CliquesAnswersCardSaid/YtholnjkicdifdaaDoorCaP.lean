/- Bipartite graphs as bits: plain facts. -/
import Derived.Test.YtholnjkicdifdaaDoorGrfP
set_option linter.unusedVariables false
set_option linter.unusedSimpArgs false
namespace Go.Bm
open Go.Am
def us (l : List Nat) : List AV := l.map fun n => .int .u64 ((n : Nat) : Int)
theorem us_length (l : List Nat) : (us l).length = l.length := List.length_map _
theorem us_get (l : List Nat) (i : Nat) : (us l)[i]? = (l[i]?).map (fun n => .int .u64 ((n : Nat) : Int)) := List.getElem?_map
theorem us_set (l : List Nat) (i n : Nat) : (us l).set i (.int .u64 (n : Int)) = us (l.set i n) := by simp [us,List.map_set]
theorem us_rep (n : Nat) : List.replicate n (AV.int .u64 0) = us (List.replicate n 0) := by simp [us]
theorem cleanL_us (l : List Nat) : cleanL (us l) = true := by
 induction l with
 | nil => rfl
 | cons x r ih => simp only [us,List.map_cons,cleanL,clean] at ih ⊢; rw [ih]; rfl
theorem us_take (l : List Nat) (n : Nat) : (us l).take n = us (l.take n) := by simp [us]
def Small (A : List Nat) : Prop := ∀ x ∈ A,x < 18446744073709551616
theorem pow_lt64 {v : Int} (h : v < 64) (h0 : 0 <= v) : 2 ^ v.toNat < 18446744073709551616 := by
 have := Nat.pow_lt_pow_right (a := 2) (by decide) (show v.toNat < 64 by omega);exact this
def adF (A : List Nat) (e : Ed) : List Nat :=
 (A.set e.1.toNat (A.getD e.1.toNat 0 ||| 2 ^ e.2.toNat)).set e.2.toNat ((A.set e.1.toNat (A.getD e.1.toNat 0 ||| 2 ^ e.2.toNat)).getD e.2.toNat 0 ||| 2 ^ e.1.toNat)
theorem adF_length (A : List Nat) (e : Ed) : (adF A e).length = A.length := by simp [adF]
theorem getD_lt {A : List Nat} (h : Small A) (i : Nat) : A.getD i 0 < 18446744073709551616 := by
 rw [List.getD_eq_getElem?_getD];cases e : A[i]? with
 | none => simp
 | some x => exact h x (List.mem_of_getElem? e)
theorem set_small {A : List Nat} (h : Small A) {i n : Nat} (hn : n < 18446744073709551616) : Small (A.set i n) := by
 intro x hx;rcases List.mem_or_eq_of_mem_set hx with h1 | h1
 ·exact h x h1
 ·omega
theorem adF_small {A : List Nat} (h : Small A) {e : Ed} (h1 : 0 <= e.1 /\ e.1 < 64) (h2 : 0 <= e.2 /\ e.2 < 64) : Small (adF A e) := by
 have s1 : Small (A.set e.1.toNat (A.getD e.1.toNat 0 ||| 2 ^ e.2.toNat)) := set_small h (Nat.or_lt_two_pow (n := 64) (getD_lt h _) (pow_lt64 h2.2 h2.1));exact set_small s1 (Nat.or_lt_two_pow (n := 64) (getD_lt s1 _) (pow_lt64 h1.2 h1.1))
theorem adF_bit {A : List Nat} {e : Ed} (h1 : 0 <= e.1 /\ e.1.toNat < A.length) (h2 : 0 <= e.2 /\ e.2.toNat < A.length) (hne : e.1 ≠ e.2) (a b : Nat) : ((adF A e).getD a 0).testBit b = ((A.getD a 0).testBit b || (decide ((a : Int) = e.1 /\ (b : Int) = e.2) || decide ((a : Int) = e.2 /\ (b : Int) = e.1))) := by
 have hn : e.1.toNat ≠ e.2.toNat := by omega
 unfold adF;simp only [List.getD_eq_getElem?_getD,List.getElem?_set,List.length_set,if_neg hn,if_neg (Ne.symm hn)];by_cases ha : e.2.toNat = a
 ·subst ha;rw [if_pos rfl,if_pos h2.2];simp only [Option.getD_some,Nat.testBit_or,Nat.testBit_two_pow];congr 1;have e1 : ¬ ((e.2.toNat : Int) = e.1) := by omega
  have e2 : ((e.2.toNat : Int) = e.2) := by omega
  have e3 : ¬ (e.2 = e.1) := fun k => hne k.symm;simp only [e1,e2,e3,false_and,true_and,decide_false,Bool.false_or];rw [Bool.eq_iff_iff,decide_eq_true_eq,decide_eq_true_eq]; omega
 ·rw [if_neg ha];have e2 : ¬ ((a : Int) = e.2) := by omega
  by_cases hb : e.1.toNat = a
  ·subst hb;rw [if_pos rfl,if_pos h1.2];simp only [Option.getD_some,Nat.testBit_or,Nat.testBit_two_pow];congr 1;have e1 : ((e.1.toNat : Int) = e.1) := by omega
   have e3 : ¬ (e.1 = e.2) := hne;simp only [e1,e2,e3,false_and,true_and,decide_false,Bool.or_false];rw [Bool.eq_iff_iff,decide_eq_true_eq,decide_eq_true_eq];omega
  ·rw [if_neg hb];have e1 : ¬ ((a : Int) = e.1) := by omega
   simp [e1,e2]
def adjOf (l : List Ed) (A : List Nat) : List Nat := l.foldl adF A
theorem adjOf_spec (N : Nat) (hN : N <= 64) : ∀ (l : List Ed) (A : List Nat),A.length = N -> Small A -> (∀ e ∈ l,0 <= e.1 /\ e.1 < e.2 /\ e.2 < (N : Int)) -> (adjOf l A).length = N /\ Small (adjOf l A) /\ ∀ a b : Nat,((adjOf l A).getD a 0).testBit b = ((A.getD a 0).testBit b || (decide (((a : Int),(b : Int)) ∈ l) || decide (((b : Int),(a : Int)) ∈ l)))
 | [],A,hl,hs,_ => ⟨hl,hs,fun a b => by simp [adjOf]⟩
 | e :: r,A,hl,hs,h => by
   have he := h e (by simp);obtain ⟨i1,i2,i3⟩ := adjOf_spec N hN r (adF A e) (by rw [adF_length]; exact hl) (adF_small hs (by omega) (by omega)) (fun x hx => h x (by simp [hx]));refine ⟨i1,i2,fun a b => ?_⟩;show ((adjOf r (adF A e)).getD a 0).testBit b = _;rw [i3,adF_bit (by omega) (by omega) (by omega)];rw [Bool.eq_iff_iff];simp only [Bool.or_eq_true,decide_eq_true_eq,List.mem_cons,Prod.ext_iff];constructor
   ·rintro ((h | (h | h)) | (h | h))
    ·exact .inl h
    ·exact .inr (.inl (.inl h))
    ·exact .inr (.inr (.inl ⟨h.2,h.1⟩))
    ·exact .inr (.inl (.inr h))
    ·exact .inr (.inr (.inr h))
   ·rintro (h | ((h | h) | (h | h)))
    ·exact .inl (.inl h)
    ·exact .inl (.inr (.inl h))
    ·exact .inr (.inl h)
    ·exact .inl (.inr (.inr ⟨h.2,h.1⟩))
    ·exact .inr (.inr h)
def comL (A : List Nat) (side : Nat) (l : List Int) : Nat := l.foldl (fun s v => s &&& A.getD v.toNat 0) side
theorem comL_bit (A : List Nat) : ∀ (l : List Int) (side j : Nat),(comL A side l).testBit j = (side.testBit j && l.all fun v => (A.getD v.toNat 0).testBit j)
 | [],side,j => by simp [comL]
 | v :: r,side,j => by
   have ih := comL_bit A r (side &&& A.getD v.toNat 0) j;unfold comL at ih ⊢;rw [List.foldl_cons,ih,Nat.testBit_and,List.all_cons,Bool.and_assoc]
theorem comL_le (A : List Nat) : ∀ (l : List Int) (side : Nat),comL A side l <= side
 | [],side => Nat.le_refl _
 | v :: r,side => Nat.le_trans (comL_le A r _) Nat.and_le_left
structure BOK (N : Nat) (E : List Ed) (L : List Int) : Prop where
 n : N <= 64
 e : UpE E /\ ∀ e ∈ E,0 <= e.1 /\ e.1 < e.2 /\ e.2 < (N : Int)
 l : Up L /\ ∀ x ∈ L,0 <= x /\ x < (N : Int)
 s : ∀ e ∈ E,e.1 ∈ L ↔ ¬ e.2 ∈ L
def jn (E : List Ed) (a b : Int) : Prop := (a,b) ∈ E \/ (b,a) ∈ E
instance (E : List Ed) (a b : Int) : Decidable (jn E a b) := by unfold jn; infer_instance
def adjE (N : Nat) (E : List Ed) : List Nat := adjOf E (List.replicate N 0)
def rgt (N : Nat) (L : List Int) : Nat := (2 ^ N - 1) &&& (18446744073709551615 - msk L)
def cR (N : Nat) (E : List Ed) (L S : List Int) : Nat := comL (adjE N E) (rgt N L) (bitL (msk S))
def cL (N : Nat) (E : List Ed) (L : List Int) (r : Nat) : Nat := comL (adjE N E) (msk L) (bitL r)
def clR (N : Nat) (E : List Ed) (L S : List Int) : List Int := bitL (cR N E L S)
def clL (N : Nat) (E : List Ed) (L S : List Int) : List Int := bitL (cL N E L (cR N E L S))
end Go.Bm
/- Walks in order: plain facts about lists in order, bits, and what is done with each. -/
namespace Go.BmP
open Go.Am Go.Bm
def subs : List Int -> List Int -> List (List Int)
 | [],_ => []
 | v :: C,P => (P ++ [v]) :: (subs C (P ++ [v]) ++ subs C P)
theorem subs_mem : ∀ {C P S : List Int},S ∈ subs C P ↔ ∃ T,T ≠ [] /\ T.Sublist C /\ S = P ++ T
 | [],P,S => by
   simp only [subs,List.not_mem_nil,false_iff];rintro ⟨T,h1,h2,_⟩;exact h1 (List.sublist_nil.1 h2)
 | v :: C,P,S => by
   simp only [subs,List.mem_cons,List.mem_append,subs_mem (C := C)];constructor
   ·rintro (rfl | ⟨T,h1,h2,rfl⟩ | ⟨T,h1,h2,rfl⟩)
    ·exact ⟨[v],by simp,by simp,rfl⟩
    ·exact ⟨v :: T,by simp,h2.cons_cons v,by simp⟩
    ·exact ⟨T,h1,h2.cons v,rfl⟩
   ·rintro ⟨T,h1,h2,rfl⟩;cases h2 with
    | cons _ h => exact .inr (.inr ⟨T,h1,h,rfl⟩)
    | cons_cons _ h =>
      rename_i T;cases T with
      | nil => exact .inl rfl
      | cons t T => exact .inr (.inl ⟨t :: T,by simp,h,by simp⟩)
theorem sub_of_up : ∀ {L S : List Int},Up S -> Up L -> (∀ x ∈ S,x ∈ L) -> S.Sublist L
 | [],S,_,_,h => by
   cases S with
   | nil => exact List.Sublist.slnil
   | cons x S => cases h x (by simp)
 | y :: L,[],_,_,_ => List.nil_sublist _
 | y :: L,x :: S,hS,hL,h => by
   have s1 := List.pairwise_cons.1 hS;have l1 := List.pairwise_cons.1 hL;by_cases e : x = y
   ·subst e;refine (sub_of_up s1.2 l1.2 fun z hz => ?_).cons_cons x;rcases List.mem_cons.1 (h z (by simp [hz])) with k | k
    ·have := s1.1 z hz; omega
    ·exact k
   ·have hx : x ∈ L := (List.mem_cons.1 (h x (by simp))).resolve_left e;have hy := l1.1 x hx;refine (sub_of_up hS l1.2 fun z hz => ?_).cons y;rcases List.mem_cons.1 (h z hz) with k | k
    ·rcases List.mem_cons.1 hz with j | j
     ·omega
     ·have := s1.1 z j; omega
    ·exact k
theorem nodup_len : ∀ {a b : List (List Int)},a.Nodup -> (∀ x ∈ a,x ∈ b) -> a.length <= b.length
 | [],_,_,_ => Nat.zero_le _
 | x :: a,b,hn,h => by
   have h1 := List.nodup_cons.1 hn;have hx : x ∈ b := h x (by simp);have ih := nodup_len (a := a) (b := b.erase x) h1.2 fun y hy => (List.mem_erase_of_ne (by rintro rfl; exact h1.1 hy)).2 (h y (by simp [hy]));rw [List.length_erase_of_mem hx] at ih;have := List.length_pos_of_mem hx;simp only [List.length_cons];omega
theorem subs_length : ∀ (C P : List Int),(subs C P).length + 1 = 2 ^ C.length
 | [],_ => rfl
 | v :: C,P => by
   have i1 := subs_length C (P ++ [v]);have i2 := subs_length C P;simp only [subs,List.length_cons,List.length_append,Nat.pow_succ];omega
def hereL (after P : List Int) (t : Bool) : Bool := t && decide (P.length < after.length)
def skipL (after P : List Int) (t : Bool) (v : Int) : Bool := hereL after P t && decide (v < after.getD P.length 0)
def onL (after P : List Int) (t : Bool) (v : Int) : Bool := hereL after P t && decide (v = after.getD P.length 0)
theorem cmpL_app : ∀ (P A B : List Int),cmpL (P ++ A) (P ++ B) = cmpL A B
 | [],_,_ => rfl
 | x :: P,A,B => by
   have ih := cmpL_app P A B;simp only [List.cons_append,cmpL,Int.lt_irrefl,if_false];exact ih
def foldS {σ : Type} (tk : σ -> List Int -> σ × Bool) : List (List Int) -> σ -> σ × Bool
 | [],s => (s,true)
 | S :: r,s => if (tk s S).2 = true then foldS tk r (tk s S).1 else ((tk s S).1,false)
theorem foldS_app {σ : Type} {tk : σ -> List Int -> σ × Bool} : ∀ (a b : List (List Int)) (s : σ),foldS tk (a ++ b) s = if (foldS tk a s).2 = true then foldS tk b (foldS tk a s).1 else ((foldS tk a s).1,false)
 | [],_,_ => by simp [foldS]
 | S :: a,b,s => by
   have ih := foldS_app (tk := tk) a b (tk s S).1;simp only [List.cons_append,foldS];split
   ·exact ih
   ·rfl
def tkA (most : Int) (o : List (List Int)) (S : List Int) : List (List Int) × Bool := (o ++ [S],decide ((o.length : Int) + 1 <= most))
theorem tkA_t {most : Int} {o : List (List Int)} (S : List Int) (h : (o.length : Int) + 1 <= most) : tkA most o S = (o ++ [S],true) := by unfold tkA; rw [decide_eq_true h]
theorem tkA_f {most : Int} {o : List (List Int)} (S : List Int) (h : ¬ (o.length : Int) + 1 <= most) : tkA most o S = (o ++ [S],false) := by unfold tkA; rw [decide_eq_false h]
theorem foldA_t {most : Int} {o : List (List Int)} (S : List Int) (r : List (List Int)) (h : (o.length : Int) + 1 <= most) : foldS (tkA most) (S :: r) o = foldS (tkA most) r (o ++ [S]) := by
 rw [foldS,tkA_t S h]; rfl
theorem foldA_f {most : Int} {o : List (List Int)} (S : List Int) (r : List (List Int)) (h : ¬ (o.length : Int) + 1 <= most) : foldS (tkA most) (S :: r) o = (o ++ [S],false) := by
 rw [foldS,tkA_f S h]; rfl
theorem foldS_all {most : Int} : ∀ (l o : List (List Int)),(o.length : Int) + l.length <= most -> foldS (tkA most) l o = (o ++ l,true)
 | [],o,_ => by simp [foldS]
 | S :: l,o,h => by
   simp only [List.length_cons] at h;rw [foldA_t S l (by omega),foldS_all l (o ++ [S]) (by simp; omega)];simp
theorem bitL_nil {m : Nat} (h : m < 18446744073709551616) : bitL m = [] ↔ m = 0 := by
 constructor
 ·intro e;by_cases h0 : m = 0
  ·exact h0
  ·rw [bitL_step h0 h] at e; cases e
 ·rintro rfl; exact bitL_zero
theorem up_len {P : List Int} (hu : Up P) (hb : ∀ v ∈ P,0 <= v /\ v < 64) : P.length <= 64 := by
 have := bitL_len (msk P)
 rwa [bitL_msk hu hb] at this
def bh (P : List Int) : Nat := match P.getLast? with
 | none => 0
 | some v => 2 ^ (v.toNat + 1) - 1
theorem bh_nil : bh [] = 0 := rfl
theorem bh_snoc (P : List Int) (v : Int) : bh (P ++ [v]) = 2 ^ (v.toNat + 1) - 1 := by simp [bh]
theorem bh_lt {P : List Int} (h : ∀ v ∈ P,v < 64) : bh P < 18446744073709551616 := by
 unfold bh;split
 ·decide
 ·rename_i v hv;have := h v (List.mem_of_getLast? hv);have : 2 ^ (v.toNat + 1) <= 2 ^ 64 := Nat.pow_le_pow_right (by decide) (by omega);omega
theorem not_bit (b j : Nat) (h : b < 18446744073709551616) : (18446744073709551615 - b).testBit j = (decide (j < 64) && !b.testBit j) := by
 rw [show 18446744073709551615 - b = 2 ^ 64 - (b + 1) by omega,Nat.testBit_two_pow_sub_succ (by omega)]
theorem cmpL_swap : ∀ (a b : List Int),cmpL a b = - cmpL b a
 | [],[] => rfl
 | [],_ :: _ => rfl
 | _ :: _,[] => rfl
 | x :: r,y :: s => by
   have ih := cmpL_swap r s;simp only [cmpL];by_cases h1 : y < x
   ·have : ¬ x < y := by omega
    simp [h1,this]
   ·by_cases h2 : x < y
    ·simp [h1,h2]
    ·simp [h1,h2,ih]
theorem foldS_more {most : Int} : ∀ (l o : List (List Int)),(o.length : Int) <= most -> most < (o.length : Int) + l.length -> ((foldS (tkA most) l o).1.length : Int) = most + 1
 | [],o,h,k => by simp at k; omega
 | S :: l,o,h,k => by
   by_cases c : (o.length : Int) + 1 <= most
   ·rw [foldA_t S l c];exact foldS_more l (o ++ [S]) (by simp; omega) (by simp at k ⊢; omega)
   ·rw [foldA_f S l c];simp;omega
theorem beqI (a b : Int) : (a == b) = decide (a = b) := by by_cases h : a = b <;> simp [h]
theorem ints_tk (l : List Int) : (ints l).take l.length = ints l := by rw [ints_take,List.take_length]
/- Cliques as rising lists, and a walk that hands out the maximal ones in order: plain law. -/
section
variable {N : Nat} {E : List Ed} (h : GOK (N : Int) E)
include h
theorem gok_n : N <= 64 := by have := h.1; omega
theorem gadj : (adjE N E).length = N /\ Small (adjE N E) /\ ∀ a b : Nat,((adjE N E).getD a 0).testBit b = decide (jn E a b) := by
 obtain ⟨h1,h2,h3⟩ := adjOf_spec N (gok_n h) E (List.replicate N 0) (by simp) (fun x hx => by have := List.eq_of_mem_replicate hx; omega) h.2.2;refine ⟨h1,h2,fun a b => ?_⟩;unfold adjE;rw [h3]
 have e : (List.replicate N 0).getD a 0 = 0 := by
  rw [List.getD_eq_getElem?_getD,List.getElem?_replicate]; split <;> rfl
 rw [e,Nat.zero_testBit,Bool.false_or,Bool.eq_iff_iff,decide_eq_true_eq];simp [jn]
theorem jn_irr (a : Int) : ¬ jn E a a := by
 rintro (k | k) <;> exact absurd (h.2.2 _ k).2.1 (Int.lt_irrefl _)
omit h in
theorem jn_symm {a b : Int} (k : jn E a b) : jn E b a := k.symm
def cn (N : Nat) (E : List Ed) (P : List Int) : Nat := comL (adjE N E) (2 ^ N - 1) P
theorem cn_bit {P : List Int} (hP : ∀ x ∈ P,0 <= x) (j : Nat) : (cn N E P).testBit j = true ↔ j < N /\ ∀ v ∈ P,jn E v j := by
 unfold cn;rw [comL_bit,Bool.and_eq_true,Nat.testBit_two_pow_sub_one,decide_eq_true_eq,List.all_eq_true];refine and_congr_right fun _ => ?_;constructor
 ·intro k v hv;have := k v hv;rw [(gadj h).2.2,decide_eq_true_eq,show ((v.toNat : Nat) : Int) = v by have := hP v hv; omega] at this;exact this
 ·intro k v hv;rw [(gadj h).2.2,decide_eq_true_eq,show ((v.toNat : Nat) : Int) = v by have := hP v hv; omega];exact k v hv
theorem cn_lt (P : List Int) : cn N E P < 18446744073709551616 := by
 have h1 := comL_le (adjE N E) P (2 ^ N - 1);have h2 : 2 ^ N <= 2 ^ 64 := Nat.pow_le_pow_right (by decide) (gok_n h);have h3 : 0 < 2 ^ N := Nat.two_pow_pos N;unfold cn;omega
omit h in
theorem cn_snoc (P : List Int) (v : Int) : cn N E (P ++ [v]) = cn N E P &&& (adjE N E).getD v.toNat 0 := by simp [cn,comL]
def lst (P : List Int) : Int := P.getLast?.getD (-1)
omit h in
theorem lst_snoc (P : List Int) (v : Int) : lst (P ++ [v]) = v := by simp [lst]
omit h in
theorem bh_bit {P : List Int} (hP : ∀ x ∈ P,0 <= x) (j : Nat) : (bh P).testBit j = true ↔ (j : Int) <= lst P := by
 rcases List.eq_nil_or_concat P with rfl | ⟨Q,v,rfl⟩
 ·rw [bh_nil,Nat.zero_testBit];simp [lst];omega
 ·rw [List.concat_eq_append,bh_snoc,lst_snoc,Nat.testBit_two_pow_sub_one,decide_eq_true_eq];have := hP v (by simp);omega
def mo (N : Nat) (E : List Ed) (P : List Int) : Nat := cn N E P &&& (18446744073709551615 - bh P)
def le (N : Nat) (E : List Ed) (P : List Int) : Nat := cn N E P &&& bh P
theorem mo_lt (P : List Int) : mo N E P < 18446744073709551616 := Nat.lt_of_le_of_lt Nat.and_le_left (cn_lt h P)
theorem le_lt (P : List Int) : le N E P < 18446744073709551616 := Nat.lt_of_le_of_lt Nat.and_le_left (cn_lt h P)
theorem mo_bit {P : List Int} (hP : ∀ x ∈ P,0 <= x /\ x < 64) (j : Nat) : (mo N E P).testBit j = true ↔ (j < N /\ ∀ v ∈ P,jn E v j) /\ lst P < (j : Int) := by
 have hn := gok_n h;have h0 : ∀ x ∈ P,0 <= x := fun x hx => (hP x hx).1;unfold mo;rw [Nat.testBit_and,Bool.and_eq_true,cn_bit h h0,not_bit _ _ (bh_lt fun v hv => (hP v hv).2),Bool.and_eq_true,decide_eq_true_eq];have e := bh_bit h0 j;constructor
 ·rintro ⟨k1,_,k2⟩;refine ⟨k1,?_⟩;by_cases q : (j : Int) <= lst P
  ·rw [e.2 q] at k2; cases k2
  ·omega
 ·rintro ⟨k1,k2⟩;refine ⟨k1,by omega,?_⟩;cases q : (bh P).testBit j with
  | false => rfl
  | true => have := e.1 q; omega
theorem le_bit {P : List Int} (hP : ∀ x ∈ P,0 <= x /\ x < 64) (j : Nat) : (le N E P).testBit j = true ↔ (j < N /\ ∀ v ∈ P,jn E v j) /\ (j : Int) <= lst P := by
 have h0 : ∀ x ∈ P,0 <= x := fun x hx => (hP x hx).1;unfold le;rw [Nat.testBit_and,Bool.and_eq_true,cn_bit h h0,bh_bit h0]
theorem mo_nil : mo N E [] = 2 ^ N - 1 := by
 have h2 : 2 ^ N <= 2 ^ 64 := Nat.pow_le_pow_right (by decide) (gok_n h);unfold mo cn;rw [bh_nil,Nat.sub_zero,show (18446744073709551615 : Nat) = 2 ^ 64 - 1 by decide,Nat.and_two_pow_sub_one_eq_mod];exact Nat.mod_eq_of_lt (show 2 ^ N - 1 < 2 ^ 64 by have := Nat.two_pow_pos N; omega)
omit h in
theorem le_nil : le N E [] = 0 := by unfold le; rw [bh_nil,Nat.and_zero]
theorem moL_mem {P : List Int} (hP : ∀ x ∈ P,0 <= x /\ x < 64) (y : Int) : y ∈ bitL (mo N E P) ↔ (0 <= y /\ y < (N : Int)) /\ (∀ v ∈ P,jn E v y) /\ lst P < y := by
 have hn := gok_n h;rw [bitL_mem];constructor
 ·rintro ⟨j,rfl,_,k⟩;have := (mo_bit h hP j).1 k;exact ⟨by omega,this.1.2,this.2⟩
 ·rintro ⟨⟨k0,k1⟩,k2,k3⟩;have e : ((y.toNat : Nat) : Int) = y := by omega
  exact ⟨y.toNat,e.symm,by omega,(mo_bit h hP _).2 ⟨⟨by omega,by rw [e]; exact k2⟩,by rw [e]; exact k3⟩⟩
theorem leL_mem {P : List Int} (hP : ∀ x ∈ P,0 <= x /\ x < 64) (y : Int) : y ∈ bitL (le N E P) ↔ (0 <= y /\ y < (N : Int)) /\ (∀ v ∈ P,jn E v y) /\ y <= lst P := by
 have hn := gok_n h;rw [bitL_mem];constructor
 ·rintro ⟨j,rfl,_,k⟩;have := (le_bit h hP j).1 k;exact ⟨by omega,this.1.2,this.2⟩
 ·rintro ⟨⟨k0,k1⟩,k2,k3⟩;have e : ((y.toNat : Nat) : Int) = y := by omega
  exact ⟨y.toNat,e.symm,by omega,(le_bit h hP _).2 ⟨⟨by omega,by rw [e]; exact k2⟩,by rw [e]; exact k3⟩⟩
omit h in
theorem bits_ext {a b : Nat} (ha : a < 18446744073709551616) (hb : b < 18446744073709551616) (k : ∀ j,j < 64 -> (a.testBit j = true ↔ b.testBit j = true)) : a = b := by
 apply Nat.eq_of_testBit_eq;intro j;by_cases hj : j < 64
 ·exact Bool.eq_iff_iff.2 (k j hj)
 ·have p : 2 ^ 64 <= 2 ^ j := Nat.pow_le_pow_right (by decide) (by omega);rw [Nat.testBit_lt_two_pow (by omega),Nat.testBit_lt_two_pow (by omega)]
theorem adj_bit {v : Int} (hv : 0 <= v) (j : Nat) : ((adjE N E).getD v.toNat 0).testBit j = true ↔ jn E v j := by
 rw [(gadj h).2.2,decide_eq_true_eq,show ((v.toNat : Nat) : Int) = v by omega]
theorem mo_snoc {P : List Int} {v : Int} (hP : ∀ x ∈ P,0 <= x /\ x < 64) (hv : 0 <= v /\ v < 64) (hl : lst P < v) : mo N E (P ++ [v]) = (mo N E P &&& (adjE N E).getD v.toNat 0) &&& (18446744073709551615 - (2 ^ v.toNat - 1)) := by
 have hP2 : ∀ x ∈ P ++ [v],0 <= x /\ x < 64 := fun x hx => by
  rcases List.mem_append.1 hx with k | k
  ·exact hP x k
  ·simp at k; omega
 have p1 := pow_lt64 hv.2 hv.1;refine bits_ext (mo_lt h _) (Nat.lt_of_le_of_lt Nat.and_le_right (by omega)) fun j hj => ?_;rw [mo_bit h hP2,lst_snoc,Nat.testBit_and,Bool.and_eq_true,Nat.testBit_and,Bool.and_eq_true,mo_bit h hP,adj_bit h hv.1,not_bit _ _ (by omega),Bool.and_eq_true,decide_eq_true_eq,Nat.testBit_two_pow_sub_one,Bool.not_eq_true',decide_eq_false_iff_not];constructor
 ·rintro ⟨⟨k1,k2⟩,k3⟩;exact ⟨⟨⟨⟨k1,fun w hw => k2 w (by simp [hw])⟩,by omega⟩,k2 v (by simp)⟩,hj,by omega⟩
 ·rintro ⟨⟨⟨⟨k1,k2⟩,k3⟩,k4⟩,_,k5⟩;refine ⟨⟨k1,fun w hw => ?_⟩,?_⟩
  ·rcases List.mem_append.1 hw with q | q
   ·exact k2 w q
   ·simp at q; rw [q]; exact k4
  ·have : (j : Int) ≠ v := by rintro e; rw [<- e] at k4; exact jn_irr h _ k4
   omega
theorem le_snoc {P : List Int} {v : Int} (hP : ∀ x ∈ P,0 <= x /\ x < 64) (hv : 0 <= v /\ v < 64) (hl : lst P < v) : le N E (P ++ [v]) = (le N E P ||| (mo N E P &&& (2 ^ v.toNat - 1))) &&& (adjE N E).getD v.toNat 0 := by
 have hP2 : ∀ x ∈ P ++ [v],0 <= x /\ x < 64 := fun x hx => by
  rcases List.mem_append.1 hx with k | k
  ·exact hP x k
  ·simp at k; omega
 have p1 := pow_lt64 hv.2 hv.1;refine bits_ext (le_lt h _) (Nat.lt_of_le_of_lt Nat.and_le_left (Nat.or_lt_two_pow (n := 64) (le_lt h _) (Nat.lt_of_le_of_lt Nat.and_le_left (mo_lt h _)))) fun j hj => ?_;rw [le_bit h hP2,lst_snoc,Nat.testBit_and,Bool.and_eq_true,Nat.testBit_or,Bool.or_eq_true,Nat.testBit_and,Bool.and_eq_true,mo_bit h hP,le_bit h hP,adj_bit h hv.1,Nat.testBit_two_pow_sub_one,decide_eq_true_eq];constructor
 ·rintro ⟨⟨k1,k2⟩,k3⟩;have k4 := k2 v (by simp);have : (j : Int) ≠ v := by rintro e; rw [<- e] at k4; exact jn_irr h _ k4
  have k5 : ∀ w ∈ P,jn E w j := fun w hw => k2 w (by simp [hw]);refine ⟨?_,k4⟩;by_cases q : (j : Int) <= lst P
  ·exact .inl ⟨⟨k1,k5⟩,q⟩
  ·exact .inr ⟨⟨⟨k1,k5⟩,by omega⟩,by omega⟩
 ·rintro ⟨k,k4⟩
  have k6 : (j < N /\ ∀ w ∈ P,jn E w j) /\ (j : Int) <= v := by
   rcases k with ⟨k1,k2⟩ | ⟨⟨k1,k2⟩,k3⟩
   ·exact ⟨k1,by omega⟩
   ·exact ⟨k1,by omega⟩
  refine ⟨⟨k6.1.1,fun w hw => ?_⟩,k6.2⟩;rcases List.mem_append.1 hw with q | q
  ·exact k6.1.2 w q
  ·simp at q; rw [q]; exact k4
def prn (N : Nat) (E : List Ed) (P : List Int) : Bool := (bitL (le N E P)).any fun x => decide (mo N E P &&& (18446744073709551615 - (adjE N E).getD x.toNat 0) = 0)
theorem prn_iff {P : List Int} (hP : ∀ x ∈ P,0 <= x /\ x < 64) : prn N E P = true ↔ ∃ x ∈ bitL (le N E P),∀ y ∈ bitL (mo N E P),jn E x y := by
 unfold prn;rw [List.any_eq_true];refine exists_congr fun x => and_congr_right fun hx => ?_;rw [decide_eq_true_eq];have x0 := ((leL_mem h hP x).1 hx).1.1;have sm := getD_lt (gadj h).2.1 x.toNat;constructor
 ·intro k y hy;obtain ⟨j,rfl,hj,q⟩ := bitL_mem.1 hy;have e := congrArg (fun n => n.testBit j) k;simp only [Nat.testBit_and,q,Bool.true_and,Nat.zero_testBit] at e;rw [not_bit _ _ sm] at e;simp only [hj,decide_true,Bool.true_and,Bool.not_eq_false'] at e;exact (adj_bit h x0 j).1 e
 ·intro k;apply Nat.eq_of_testBit_eq;intro j;rw [Nat.testBit_and,not_bit _ _ sm,Nat.zero_testBit];cases q : (mo N E P).testBit j with
  | false => rfl
  | true =>
    have hj : j < 64 := by
     have := ((mo_bit h hP j).1 q).1.1;have := gok_n h;omega
    rw [(adj_bit h x0 j).2 (k j (bitL_mem.2 ⟨j,rfl,hj,q⟩))];simp
end
structure IsC (N : Nat) (E : List Ed) (P : List Int) : Prop where
 up : Up P
 bd : ∀ x ∈ P,0 <= x /\ x < (N : Int)
 ad : P.Pairwise (jn E)
def IsMax (N : Nat) (E : List Ed) (S : List Int) : Prop := IsC N E S /\ S ≠ [] /\ ∀ x,(0 <= x /\ x < (N : Int)) -> ¬ ∀ v ∈ S,jn E v x
def innK (N : Nat) (E : List Ed) (after : List Int) : Nat -> List Int -> Bool -> List (List Int)
 | 0,_,_ => []
 | n + 1,P,t => if mo N E P = 0 then (if le N E P ≠ 0 \/ P = [] \/ (t = true /\ P.length <= after.length) then [] else [P]) else if prn N E P = true then [] else (bitL (mo N E P)).flatMap fun v => if skipL after P t v = true then [] else innK N E after n (P ++ [v]) (onL after P t v)
section
variable {N : Nat} {E : List Ed} (h : GOK (N : Int) E)
include h
theorem isC_bd {P : List Int} (k : IsC N E P) : ∀ x ∈ P,0 <= x /\ x < 64 := fun x hx => by
 have := k.bd x hx; have := gok_n h; omega
theorem isC_snoc {P : List Int} (k : IsC N E P) {v : Int} (hv : v ∈ bitL (mo N E P)) : IsC N E (P ++ [v]) /\ lst P < v := by
 obtain ⟨k1,k2,k3⟩ := (moL_mem h (isC_bd h k) v).1 hv;refine ⟨⟨?_,fun x hx => ?_,?_⟩,k3⟩
 ·unfold Up;rw [List.pairwise_append];refine ⟨k.up,by simp,fun x hx y hy => ?_⟩;simp at hy;subst hy
  -- x is at most the last of P
  rcases List.eq_nil_or_concat P with e | ⟨Q,w,e⟩
  ·rw [e] at hx; simp at hx
  ·rw [List.concat_eq_append] at e;have l1 : lst P = w := by rw [e,lst_snoc]
   rw [e] at hx;rcases List.mem_append.1 hx with q | q
   ·have := (List.pairwise_append.1 (e ▸ k.up)).2.2 x q w (by simp);omega
   ·simp at q; omega
 ·rcases List.mem_append.1 hx with q | q
  ·exact k.bd x q
  ·simp at q; rw [q]; exact k1
 ·rw [List.pairwise_append];refine ⟨k.ad,by simp,fun x hx y hy => ?_⟩;simp at hy;subst hy;exact k2 x hx
omit h in
theorem inn_ext (after : List Int) : ∀ (n : Nat) (P : List Int) (t : Bool),∀ S ∈ innK N E after n P t,∃ T,S = P ++ T
 | 0,P,t,S,hS => by simp [innK] at hS
 | n + 1,P,t,S,hS => by
   unfold innK at hS;split at hS
   ·split at hS
    ·simp at hS
    ·simp at hS; exact ⟨[],by simp [hS]⟩
   ·split at hS
    ·simp at hS
    ·obtain ⟨v,_,hv⟩ := List.mem_flatMap.1 hS;split at hv
     ·simp at hv
     ·obtain ⟨T,rfl⟩ := inn_ext after n _ _ S hv;exact ⟨v :: T,by simp⟩
theorem inn_mem : ∀ (n : Nat) (P : List Int),IsC N E P -> (N : Int) - lst P <= n -> ∀ S,S ∈ innK N E [] n P false ↔ IsMax N E S /\ ∃ T,S = P ++ T
 | 0,P,hP,hf,S => by
   have hn := gok_n h
   have : lst P < (N : Int) := by
    rcases List.eq_nil_or_concat P with e | ⟨Q,w,e⟩
    ·rw [e]; simp [lst]; omega
    ·rw [List.concat_eq_append] at e;rw [e,lst_snoc];exact (hP.bd w (by rw [e]; simp)).2
   omega
 | n + 1,P,hP,hf,S => by
   have hn := gok_n h;have bd := isC_bd h hP;unfold innK;by_cases k1 : mo N E P = 0
   ·rw [if_pos k1];have noM : bitL (mo N E P) = [] := (bitL_nil (mo_lt h P)).2 k1;by_cases k2 : le N E P ≠ 0 \/ P = [] \/ ((false : Bool) = true /\ P.length <= ([] : List Int).length)
    ·rw [if_pos k2];simp only [List.not_mem_nil,false_iff,not_and];rintro ⟨m1,m2,m3⟩ ⟨T,rfl⟩
     -- nothing can be added
     have hT : T = [] := by
      cases T with
      | nil => rfl
      | cons v T =>
        have : v ∈ bitL (mo N E P) := (moL_mem h bd v).2 ⟨m1.bd v (by simp),fun w hw => (List.pairwise_append.1 m1.ad).2.2 w hw v (by simp),by
         rcases List.eq_nil_or_concat P with e | ⟨Q,w,e⟩
         ·rw [e]; have := m1.bd v (by simp); simp [lst]; omega
         ·rw [List.concat_eq_append] at e;rw [e,lst_snoc];exact (List.pairwise_append.1 m1.up).2.2 w (by rw [e]; simp) v (by simp)⟩
        rw [noM] at this;cases this
     subst hT;rw [List.append_nil] at m2 m3;rcases k2 with q | q | q
     ·have : bitL (le N E P) ≠ [] := fun e => q ((bitL_nil (le_lt h P)).1 e);obtain ⟨x,hx⟩ := List.exists_mem_of_ne_nil _ this;obtain ⟨x1,x2,_⟩ := (leL_mem h bd x).1 hx;exact m3 x x1 x2
     ·exact m2 q
     ·simp at q
    ·rw [if_neg k2];simp only [not_or,ne_eq,Decidable.not_not] at k2;obtain ⟨l0,p0,_⟩ := k2;rw [List.mem_singleton];constructor
     ·rintro rfl;refine ⟨⟨hP,p0,fun x hx hj => ?_⟩,[],by simp⟩;by_cases q : lst S < x
      ·have : x ∈ bitL (mo N E S) := (moL_mem h bd x).2 ⟨hx,hj,q⟩;rw [noM] at this; cases this
      ·have : x ∈ bitL (le N E S) := (leL_mem h bd x).2 ⟨hx,hj,by omega⟩;rw [(bitL_nil (le_lt h S)).2 l0] at this; cases this
     ·rintro ⟨⟨m1,m2,m3⟩,T,rfl⟩;cases T with
      | nil => simp
      | cons v T =>
        have : v ∈ bitL (mo N E P) := (moL_mem h bd v).2 ⟨m1.bd v (by simp),fun w hw => (List.pairwise_append.1 m1.ad).2.2 w hw v (by simp),by
         rcases List.eq_nil_or_concat P with e | ⟨Q,w,e⟩
         ·exact absurd e p0
         ·rw [List.concat_eq_append] at e;rw [e,lst_snoc];exact (List.pairwise_append.1 m1.up).2.2 w (by rw [e]; simp) v (by simp)⟩
        rw [noM] at this;cases this
   ·rw [if_neg k1]
    -- the tail of what begins with P is among the greater ones
    have tail : ∀ v T,IsC N E (P ++ v :: T) -> ∀ y ∈ v :: T,y ∈ bitL (mo N E P) := fun v T m1 y hy => (moL_mem h bd y).2 ⟨m1.bd y (List.mem_append.2 (.inr hy)),fun w hw => (List.pairwise_append.1 m1.ad).2.2 w hw y hy,by
     rcases List.eq_nil_or_concat P with e | ⟨Q,w,e⟩
     ·rw [e]; have := m1.bd y (List.mem_append.2 (.inr hy)); simp [lst]; omega
     ·rw [List.concat_eq_append] at e;rw [e,lst_snoc];exact (List.pairwise_append.1 m1.up).2.2 w (by rw [e]; simp) y hy⟩
    have notP : ¬ IsMax N E P := by
     rintro ⟨_,_,m3⟩;have : bitL (mo N E P) ≠ [] := fun e => k1 ((bitL_nil (mo_lt h P)).1 e);obtain ⟨x,hx⟩ := List.exists_mem_of_ne_nil _ this;obtain ⟨x1,x2,_⟩ := (moL_mem h bd x).1 hx;exact m3 x x1 x2
    by_cases k2 : prn N E P = true
    ·rw [if_pos k2];simp only [List.not_mem_nil,false_iff,not_and];rintro ⟨m1,m2,m3⟩ ⟨T,rfl⟩;cases T with
     | nil => rw [List.append_nil] at m1 m2 m3; exact notP ⟨m1,m2,m3⟩
     | cons v T =>
       obtain ⟨x,hx,hj⟩ := (prn_iff h bd).1 k2;obtain ⟨x1,x2,_⟩ := (leL_mem h bd x).1 hx;refine m3 x x1 fun w hw => ?_;rcases List.mem_append.1 hw with q | q
       ·exact x2 w q
       ·exact jn_symm (hj w (tail v T m1 w q))
    ·rw [if_neg k2,List.mem_flatMap];constructor
     ·rintro ⟨v,hv,hS⟩;obtain ⟨c1,c2⟩ := isC_snoc h hP hv;have s0 : skipL [] P false v = false := rfl;have o0 : onL [] P false v = false := rfl;rw [s0,o0,if_neg (by decide)] at hS;obtain ⟨m,T,e⟩ := (inn_mem n (P ++ [v]) c1 (by rw [lst_snoc]; omega) S).1 hS;exact ⟨m,v :: T,by rw [e]; simp⟩
     ·rintro ⟨m,T,rfl⟩;cases T with
      | nil => rw [List.append_nil] at m; exact absurd m notP
      | cons v T =>
        have hv := tail v T m.1 v (by simp);obtain ⟨c1,c2⟩ := isC_snoc h hP hv;have s0 : skipL [] P false v = false := rfl;have o0 : onL [] P false v = false := rfl;refine ⟨v,hv,?_⟩;rw [s0,o0,if_neg (by decide)];exact (inn_mem n (P ++ [v]) c1 (by rw [lst_snoc]; omega) _).2 ⟨m,T,by simp⟩
omit h in
theorem inn_sorted : ∀ (n : Nat) (P : List Int),(innK N E [] n P false).Pairwise fun a b => cmpL b a = 1
 | 0,P => List.Pairwise.nil
 | n + 1,P => by
   unfold innK;split
   ·split
    ·exact List.Pairwise.nil
    ·simp
   ·split
    ·exact List.Pairwise.nil
    ·have up := bitL_up (mo N E P);generalize bitL (mo N E P) = C at up
     induction C with
     | nil => exact List.Pairwise.nil
     | cons v C ih =>
       have up2 := List.pairwise_cons.1 up;have s0 : skipL [] P false v = false := rfl;have o0 : onL [] P false v = false := rfl;rw [List.flatMap_cons,List.pairwise_append];refine ⟨?_,ih up2.2,fun a ha b hb => ?_⟩
       ·rw [s0,o0,if_neg (by decide)];exact inn_sorted n _
       ·rw [s0,o0,if_neg (by decide)] at ha;obtain ⟨T,rfl⟩ := inn_ext [] n _ _ a ha;obtain ⟨w,hw,hb⟩ := List.mem_flatMap.1 hb;split at hb
        ·simp at hb
        ·obtain ⟨U,rfl⟩ := inn_ext [] n _ _ b hb;have := up2.1 w hw;rw [List.append_assoc,List.append_assoc,cmpL_app];simp only [List.cons_append,List.nil_append,cmpL];rw [if_pos this]
end
def mcl (N : Nat) (E : List Ed) : List (List Int) := innK N E [] (N + 1) [] false
section
variable {N : Nat} {E : List Ed} (h : GOK (N : Int) E)
include h
theorem mcl_mem {S : List Int} : S ∈ mcl N E ↔ IsMax N E S := by
 have c0 : IsC N E [] := ⟨List.Pairwise.nil,by simp,List.Pairwise.nil⟩;have := inn_mem h (N + 1) [] c0 (by show (N : Int) - (-1) <= ((N + 1 : Nat) : Int); omega) S;unfold mcl;rw [this];exact ⟨fun k => k.1,fun k => ⟨k,S,by simp⟩⟩
omit h in
theorem mcl_sorted : (mcl N E).Pairwise fun a b => cmpL b a = 1 := inn_sorted _ _
omit h in
theorem mcl_nodup : (mcl N E).Nodup := (mcl_sorted (N := N) (E := E)).imp fun {a b} k e => by
 subst e;rw [cmpL_zero.2 rfl] at k;cases k
omit h in
theorem inn_after {after : List Int} : ∀ (n : Nat) (P : List Int) (t : Bool),(t = true -> ∃ R,after = P ++ R) -> (t = false -> ∀ T,cmpL (P ++ T) after = 1) -> innK N E after n P t = (innK N E [] n P false).filter fun S => decide (cmpL S after = 1)
 | 0,_,_,_,_ => rfl
 | n + 1,P,t,h1,h0 => by
   unfold innK;by_cases k1 : mo N E P = 0
   ·rw [if_pos k1,if_pos k1];by_cases k2 : le N E P ≠ 0
    ·rw [if_pos (.inl k2),if_pos (.inl k2)]; rfl
    ·by_cases k3 : P = []
     ·rw [if_pos (.inr (.inl k3)),if_pos (.inr (.inl k3))]; rfl
     ·have e2 : (if le N E P ≠ 0 \/ P = [] \/ ((false : Bool) = true /\ P.length <= ([] : List Int).length) then [] else [P]) = [P] := if_neg (by simp only [not_or]; exact ⟨k2,k3,by simp⟩);rw [e2];cases t with
      | false =>
        rw [if_neg (by simp only [not_or]; exact ⟨k2,k3,by simp⟩)];have := h0 rfl [];rw [List.append_nil] at this;simp [this]
      | true =>
        obtain ⟨R,hR⟩ := h1 rfl;rw [if_pos (.inr (.inr ⟨rfl,by rw [hR]; simp⟩))]
        have : cmpL P after ≠ 1 := by
         have := cmpL_app P [] R;rw [List.append_nil] at this;rw [hR,this];cases R <;> simp [cmpL]
        simp [this]
   ·rw [if_neg k1,if_neg k1];by_cases k2 : prn N E P = true
    ·rw [if_pos k2,if_pos k2]; rfl
    ·rw [if_neg k2,if_neg k2,List.filter_flatMap];refine congrArg (fun f => List.flatMap f (bitL (mo N E P))) (funext fun v => ?_);have e0 : (if skipL [] P false v = true then [] else innK N E [] n (P ++ [v]) (onL [] P false v)) = innK N E [] n (P ++ [v]) false := rfl;rw [e0]
     have big : skipL after P t v = false -> onL after P t v = false -> (∀ T,cmpL (P ++ v :: T) after = 1) -> (if skipL after P t v = true then [] else innK N E after n (P ++ [v]) (onL after P t v)) = (innK N E [] n (P ++ [v]) false).filter fun S => decide (cmpL S after = 1) := by
      intro s o k;rw [s,o,if_neg (by decide)];exact inn_after n (P ++ [v]) false (fun e => by cases e) (fun _ T => by simpa using k T)
     cases t with
     | false => exact big rfl rfl fun T => h0 rfl _
     | true =>
       obtain ⟨R,hR⟩ := h1 rfl;cases R with
       | nil =>
         have e : hereL after P true = false := by rw [hR]; simp [hereL]
         refine big (by simp [skipL,e]) (by simp [onL,e]) fun T => ?_;rw [hR,cmpL_app];rfl
       | cons a R =>
         have e : hereL after P true = true := by rw [hR]; simp [hereL]
         have ea : after.getD P.length 0 = a := by rw [hR]; simp
         by_cases l : v < a
         ·have s : skipL after P true v = true := by simp only [skipL,e,ea]; simp [l]
          rw [s,if_pos rfl]
          symm
          rw [List.filter_eq_nil_iff];intro S hS;obtain ⟨T,rfl⟩ := inn_ext [] n _ _ S hS;rw [hR,List.append_assoc,cmpL_app];have : ¬ a < v := by omega
          simp [cmpL,l,this]
         ·have s : skipL after P true v = false := by simp only [skipL,e,ea]; simp [l]
          by_cases q : v = a
          ·have o : onL after P true v = true := by simp only [onL,e,ea]; simp [q]
           rw [s,o,if_neg (by decide)];exact inn_after n (P ++ [v]) true (fun _ => ⟨R,by rw [hR,q]; simp⟩) (fun e => by cases e)
          ·have o : onL after P true v = false := by simp only [onL,e,ea]; simp [q]
           refine big s o fun T => ?_;rw [hR,cmpL_app];have : a < v := by omega
           simp [cmpL,this]
theorem mcl_few : (mcl N E).length < 2 ^ N := by
 have h1 := subs_length ((List.range N).map fun i => ((i : Nat) : Int)) []
 have h2 := nodup_len (a := mcl N E) (b := subs ((List.range N).map fun i => ((i : Nat) : Int)) []) mcl_nodup fun S hS => by
  have m := (mcl_mem h).1 hS;refine subs_mem.2 ⟨S,m.2.1,sub_of_up m.1.up ?_ fun x hx => ?_,by simp⟩
  ·unfold Up;exact List.Pairwise.map _ (fun a b h => by omega) List.pairwise_lt_range
  ·have := m.1.bd x hx;rw [List.mem_map];exact ⟨x.toNat,List.mem_range.2 (by omega),by omega⟩
 simp at h1;omega
end
/- The reference's walk through the cliques of a graph: its list holds just the maximal ones. -/
def fitB (Es : List Ed) (S : List Int) (v : Int) : Bool := S.all fun u => !decide (u = v) && decide (nrmE u v ∈ Es)
def mxR (N : Nat) (Es : List Ed) (S : List Int) : Bool := (valGo (N : Int) (-1) S && decide (S.Pairwise fun a b => nrmE a b ∈ Es)) && (!decide (S = []) && (List.range N).all fun v => !fitB Es S v)
def grw (N : Nat) (Es : List Ed) : Nat -> Nat -> List Int -> List (List Int)
 | 0,_,_ => []
 | k + 1,v,S => (if fitB Es S v = true then (if mxR N Es (S ++ [(v : Int)]) = true then [S ++ [(v : Int)]] else grw N Es k (v + 1) (S ++ [(v : Int)])) else []) ++ grw N Es k (v + 1) S
theorem nrm_jn {N : Nat} {E : List Ed} (h : GOK (N : Int) E) (a b : Int) : nrmE a b ∈ E ↔ jn E a b := by
 unfold jn nrmE;constructor
 ·intro k;rcases Int.lt_trichotomy a b with c | c | c
  ·rw [if_neg (by omega),if_pos c] at k; exact .inl k
  ·subst c; simp at k; exact .inl k
  ·rw [if_pos c,if_neg (by omega)] at k; exact .inr k
 ·rintro (k | k)
  ·have := h.2.2 _ k;simp only at this;rw [if_neg (by omega),if_pos (by omega)]; exact k
  ·have := h.2.2 _ k;simp only at this;rw [if_pos (by omega),if_neg (by omega)]; exact k
section
variable {N : Nat} {E : List Ed} (h : GOK (N : Int) E)
include h
theorem fitB_iff {S : List Int} {v : Int} : fitB E S v = true ↔ ∀ u ∈ S,jn E u v := by
 unfold fitB;rw [List.all_eq_true];constructor
 ·intro k u hu;have := k u hu;simp only [Bool.and_eq_true,decide_eq_true_eq] at this;exact (nrm_jn h u v).1 this.2
 ·intro k u hu;have := k u hu;simp only [Bool.and_eq_true,Bool.not_eq_true',decide_eq_false_iff_not,decide_eq_true_eq];exact ⟨fun e => jn_irr h v (e ▸ this),(nrm_jn h u v).2 this⟩
theorem mxR_iff {S : List Int} : mxR N E S = true ↔ IsMax N E S := by
 unfold mxR IsMax;simp only [Bool.and_eq_true,decide_eq_true_eq,Bool.not_eq_true',decide_eq_false_iff_not,List.all_eq_true,List.mem_range,valGo_iff];have pw : (S.Pairwise fun a b => nrmE a b ∈ E) ↔ S.Pairwise (jn E) := ⟨fun k => k.imp fun q => (nrm_jn h _ _).1 q,fun k => k.imp fun q => (nrm_jn h _ _).2 q⟩;constructor
 ·rintro ⟨⟨⟨h1,h2⟩,h3⟩,h4,h5⟩;refine ⟨⟨h1,fun x hx => (h2 x hx).2,pw.1 h3⟩,h4,fun x hx k => ?_⟩;have e : ((x.toNat : Nat) : Int) = x := by omega
  have := h5 x.toNat (by omega);rw [e,(fitB_iff h).2 k] at this;cases this
 ·rintro ⟨⟨h1,h2,h3⟩,h4,h5⟩;refine ⟨⟨⟨h1,fun x hx => by have := h2 x hx; omega⟩,pw.2 h3⟩,h4,fun v hv => ?_⟩;rw [<- Bool.not_eq_true];exact fun k => h5 v (by omega) ((fitB_iff h).1 k)
theorem isC_add {S : List Int} (hS : IsC N E S) {v : Nat} (hv : v < N) (hl : ∀ x ∈ S,x < (v : Int)) (hf : fitB E S v = true) : IsC N E (S ++ [(v : Int)]) := by
 refine ⟨?_,fun x hx => ?_,?_⟩
 ·unfold Up;rw [List.pairwise_append];exact ⟨hS.up,by simp,fun x hx y hy => by simp at hy; subst hy; exact hl x hx⟩
 ·rcases List.mem_append.1 hx with q | q
  ·exact hS.bd x q
  ·simp at q; omega
 ·rw [List.pairwise_append];exact ⟨hS.ad,by simp,fun x hx y hy => by simp at hy; subst hy; exact (fitB_iff h).1 hf x hx⟩
theorem grw_mem : ∀ (k v : Nat) (S : List Int),v + k = N -> IsC N E S -> (∀ x ∈ S,x < (v : Int)) -> ∀ X,X ∈ grw N E k v S ↔ IsMax N E X /\ ∃ T,T ≠ [] /\ X = S ++ T /\ ∀ x ∈ T,(v : Int) <= x
 | 0,v,S,hv,hS,hl,X => by
   simp only [grw,List.not_mem_nil,false_iff,not_and,not_exists];rintro hX T h1 rfl h3;obtain ⟨t,ht⟩ := List.exists_mem_of_ne_nil T h1;have := h3 t ht;have := hX.1.bd t (List.mem_append.2 (.inr ht));omega
 | k + 1,v,S,hv,hS,hl,X => by
   have ih1 := grw_mem k (v + 1) S (by omega) hS (fun x hx => by have := hl x hx; omega) X;unfold grw;rw [List.mem_append,ih1]
   have splitT : (IsMax N E X /\ ∃ T,T ≠ [] /\ X = S ++ T /\ ∀ x ∈ T,(v : Int) <= x) ↔ (IsMax N E X /\ ∃ T,X = (S ++ [(v : Int)]) ++ T /\ ∀ x ∈ T,((v + 1 : Nat) : Int) <= x) \/ (IsMax N E X /\ ∃ T,T ≠ [] /\ X = S ++ T /\ ∀ x ∈ T,((v + 1 : Nat) : Int) <= x) := by
    constructor
    ·rintro ⟨hX,T,h1,rfl,h3⟩
     match T,h1 with
     | t :: T',_ =>
       have hup : (t :: T').Pairwise (· < ·) := (List.pairwise_append.1 hX.1.up).2.1;have ht := h3 t (by simp);by_cases e : t = (v : Int)
       ·left;subst e;refine ⟨hX,T',by simp,fun x hx => ?_⟩;have := (List.pairwise_cons.1 hup).1 x hx;omega
       ·right;refine ⟨hX,t :: T',by simp,rfl,fun x hx => ?_⟩;rcases List.mem_cons.1 hx with rfl | q
        ·omega
        ·have := (List.pairwise_cons.1 hup).1 x q;omega
    ·rintro (⟨hX,T,rfl,h3⟩ | ⟨hX,T,h1,rfl,h3⟩)
     ·refine ⟨hX,(v : Int) :: T,by simp,by simp,fun x hx => ?_⟩;rcases List.mem_cons.1 hx with rfl | q
      ·omega
      ·have := h3 x q; omega
     ·exact ⟨hX,T,h1,rfl,fun x hx => by have := h3 x hx; omega⟩
   rw [splitT];refine or_congr ?_ Iff.rfl;by_cases hf : fitB E S v = true
   ·rw [if_pos hf];have hc := isC_add h hS (by omega) hl hf;by_cases hm : mxR N E (S ++ [(v : Int)]) = true
    ·rw [if_pos hm,List.mem_singleton];have hM := (mxR_iff h).1 hm;constructor
     ·rintro rfl;exact ⟨hM,[],by simp,fun x hx => by simp at hx⟩
     ·rintro ⟨hX,T,rfl,h3⟩
      match T with
      | [] => simp
      | t :: T' =>
        exfalso;have hb := hX.1.bd t (by simp);refine hM.2.2 t hb fun u hu => ?_;exact (List.pairwise_append.1 hX.1.ad).2.2 u hu t (by simp)
    ·rw [if_neg hm]
     rw [grw_mem k (v + 1) (S ++ [(v : Int)]) (by omega) hc (fun x hx => by
      rcases List.mem_append.1 hx with q | q
      ·have := hl x q; omega
      ·simp at q; omega) X]
     constructor
     ·rintro ⟨hX,T,_,h2,h3⟩; exact ⟨hX,T,h2,h3⟩
     ·rintro ⟨hX,T,h2,h3⟩;refine ⟨hX,T,?_,h2,h3⟩;rintro rfl;rw [List.append_nil] at h2;subst h2;exact hm ((mxR_iff h).2 hX)
   ·rw [if_neg hf];simp only [List.not_mem_nil,false_iff,not_and,not_exists];rintro hX T rfl h3;refine hf ((fitB_iff h).2 fun u hu => ?_);exact (List.pairwise_append.1 (List.pairwise_append.1 hX.1.ad).1).2.2 u hu v (by simp)
theorem grw_all (X : List Int) : X ∈ grw N E N 0 [] ↔ IsMax N E X := by
 rw [grw_mem h N 0 [] (by omega) ⟨List.Pairwise.nil,by simp,List.Pairwise.nil⟩ (by simp) X];constructor
 ·exact fun k => k.1
 ·exact fun k => ⟨k,X,k.2.1,rfl,fun x hx => by have := k.1.bd x hx; omega⟩
end
/- A clique that is extended node by node: plain law. -/
def gr (A : List Nat) : Nat -> Nat -> List Int
 | 0,_ => []
 | n + 1,m => if m = 0 then [] else ((tz m : Nat) : Int) :: gr A n (m &&& A.getD (tz m) 0)
structure IsQ (N : Nat) (E : List Ed) (P : List Int) : Prop where
 bd : ∀ x ∈ P,0 <= x /\ x < (N : Int)
 ad : P.Pairwise (jn E)
theorem IsC.q {N : Nat} {E : List Ed} {P : List Int} (h : IsC N E P) : IsQ N E P := ⟨h.bd,h.ad⟩
section
variable {N : Nat} {E : List Ed} (h : GOK (N : Int) E)
include h
theorem cnL_mem {P : List Int} (hP : ∀ x ∈ P,0 <= x) (y : Int) : y ∈ bitL (cn N E P) ↔ (0 <= y /\ y < (N : Int)) /\ ∀ v ∈ P,jn E v y := by
 have hn := gok_n h;rw [bitL_mem];constructor
 ·rintro ⟨j,rfl,_,k⟩;have := (cn_bit h hP j).1 k;exact ⟨by omega,this.2⟩
 ·rintro ⟨⟨k0,k1⟩,k2⟩;have e : ((y.toNat : Nat) : Int) = y := by omega
  exact ⟨y.toNat,e.symm,by omega,(cn_bit h hP _).2 ⟨by omega,by rw [e]; exact k2⟩⟩
theorem cn_congr {P Q : List Int} (hP : ∀ x ∈ P,0 <= x) (hQ : ∀ x ∈ Q,0 <= x) (e : ∀ x,x ∈ P ↔ x ∈ Q) : cn N E P = cn N E Q := by
 refine bits_ext (cn_lt h P) (cn_lt h Q) fun j _ => ?_;rw [cn_bit h hP,cn_bit h hQ];refine and_congr_right fun _ => ⟨fun k v hv => k v ((e v).2 hv),fun k v hv => k v ((e v).1 hv)⟩
theorem gr_step {P : List Int} (hP : IsQ N E P) (h0 : cn N E P ≠ 0) : ∃ v : Int,v = ((tz (cn N E P) : Nat) : Int) /\ v ∈ bitL (cn N E P) /\ IsQ N E (P ++ [v]) /\ cn N E P &&& (adjE N E).getD (tz (cn N E P)) 0 = cn N E (P ++ [v]) /\ (∀ x ∈ bitL (cn N E (P ++ [v])),x ∈ bitL (cn N E P) /\ v < x) /\ (bitL (cn N E (P ++ [v]))).length < (bitL (cn N E P)).length := by
 have nn : ∀ x ∈ P,0 <= x := fun x hx => (hP.bd x hx).1;have st := bitL_step h0 (cn_lt h P);have hv : ((tz (cn N E P) : Nat) : Int) ∈ bitL (cn N E P) := by rw [st]; simp
 obtain ⟨b1,b2⟩ := (cnL_mem h nn _).1 hv
 have q : IsQ N E (P ++ [((tz (cn N E P) : Nat) : Int)]) := ⟨fun x hx => by
  rcases List.mem_append.1 hx with k | k
  ·exact hP.bd x k
  ·simp at k; rw [k]; exact b1,by
  rw [List.pairwise_append];exact ⟨hP.ad,by simp,fun x hx y hy => by simp at hy; rw [hy]; exact b2 x hx⟩⟩
 have nq : ∀ x ∈ P ++ [((tz (cn N E P) : Nat) : Int)],0 <= x := fun x hx => (q.bd x hx).1
 have sub : ∀ x ∈ bitL (cn N E (P ++ [((tz (cn N E P) : Nat) : Int)])),x ∈ bitL (cn N E P) /\ ((tz (cn N E P) : Nat) : Int) < x := fun x hx => by
  obtain ⟨c1,c2⟩ := (cnL_mem h nq x).1 hx;have hxP : x ∈ bitL (cn N E P) := (cnL_mem h nn x).2 ⟨c1,fun w hw => c2 w (by simp [hw])⟩;refine ⟨hxP,?_⟩
  have hne : x ≠ ((tz (cn N E P) : Nat) : Int) := by
   rintro rfl;exact jn_irr h _ (c2 _ (by simp))
  have up := bitL_up (cn N E P);rw [st] at hxP up;rcases List.mem_cons.1 hxP with k | k
  ·exact absurd k hne
  ·exact (List.pairwise_cons.1 up).1 x k
 refine ⟨_,rfl,hv,q,?_,sub,?_⟩
 ·rw [cn_snoc,show (((tz (cn N E P) : Nat) : Int)).toNat = tz (cn N E P) by omega]
 ·have hs := sub_of_up (L := bitL (cn N E P &&& (cn N E P - 1))) (bitL_up (cn N E (P ++ [((tz (cn N E P) : Nat) : Int)]))) (bitL_up _) fun x hx => by
   obtain ⟨k1,k2⟩ := sub x hx;rw [st] at k1;rcases List.mem_cons.1 k1 with k | k
   ·omega
   ·exact k
  have := hs.length_le;rw [st];simp only [List.length_cons];omega
theorem gr_spec : ∀ (n : Nat) (P : List Int),IsQ N E P -> (bitL (cn N E P)).length <= n -> Up (gr (adjE N E) n (cn N E P)) /\ (∀ x ∈ gr (adjE N E) n (cn N E P),x ∈ bitL (cn N E P)) /\ IsQ N E (P ++ gr (adjE N E) n (cn N E P)) /\ cn N E (P ++ gr (adjE N E) n (cn N E P)) = 0
 | 0,P,hP,hl => by
   have : cn N E P = 0 := (bitL_nil (cn_lt h P)).1 (List.length_eq_zero_iff.1 (by omega));simp only [gr,List.append_nil];exact ⟨List.Pairwise.nil,by simp,hP,this⟩
 | n + 1,P,hP,hl => by
   by_cases h0 : cn N E P = 0
   ·unfold gr;rw [if_pos h0,List.append_nil];exact ⟨List.Pairwise.nil,by simp,hP,h0⟩
   ·obtain ⟨v,ev,hv,hq,he,hs,hlt⟩ := gr_step h hP h0;obtain ⟨i1,i2,i3,i4⟩ := gr_spec n (P ++ [v]) hq (by omega);unfold gr;rw [if_neg h0,he,<- ev];refine ⟨List.pairwise_cons.2 ⟨fun x hx => (hs x (i2 x hx)).2,i1⟩,fun x hx => ?_,by simpa using i3,by simpa using i4⟩;rcases List.mem_cons.1 hx with k | k
    ·rw [k]; exact hv
    ·exact (hs x (i2 x k)).1
theorem gr_fuel : ∀ (n n' : Nat) (P : List Int),IsQ N E P -> (bitL (cn N E P)).length <= n -> (bitL (cn N E P)).length <= n' -> gr (adjE N E) n (cn N E P) = gr (adjE N E) n' (cn N E P)
 | 0,n',P,hP,hl,hl' => by
   have : cn N E P = 0 := (bitL_nil (cn_lt h P)).1 (List.length_eq_zero_iff.1 (by omega));cases n' with
   | zero => rfl
   | succ n' => simp [gr,this]
 | n + 1,n',P,hP,hl,hl' => by
   by_cases h0 : cn N E P = 0
   ·cases n' with
    | zero => simp [gr,h0]
    | succ n' => simp [gr,h0]
   ·obtain ⟨v,ev,hv,hq,he,hs,hlt⟩ := gr_step h hP h0;cases n' with
    | zero => omega
    | succ n' =>
      unfold gr;rw [if_neg h0,if_neg h0,he,gr_fuel n n' (P ++ [v]) hq (by omega) (by omega)]
end
def grd (N : Nat) (E : List Ed) (P : List Int) : List Int := gr (adjE N E) 64 (cn N E P)
def extK (N : Nat) (E : List Ed) (P : List Int) : List Int := isort (P ++ grd N E P)
section
variable {N : Nat} {E : List Ed} (h : GOK (N : Int) E)
include h
theorem grd_step {P : List Int} (hP : IsQ N E P) (h0 : cn N E P ≠ 0) : ∃ v : Int,v ∈ bitL (cn N E P) /\ IsQ N E (P ++ [v]) /\ grd N E P = v :: grd N E (P ++ [v]) := by
 obtain ⟨v,ev,hv,hq,he,hs,hlt⟩ := gr_step h hP h0;refine ⟨v,hv,hq,?_⟩;have l1 := bitL_len (cn N E P);unfold grd
 conv => lhs; unfold gr
 rw [if_neg h0,he,<- ev,gr_fuel h 63 64 (P ++ [v]) hq (by omega) (by omega)]
omit h in
theorem grd_zero {P : List Int} (h0 : cn N E P = 0) : grd N E P = [] := by unfold grd; rw [h0]; rfl
theorem grd_spec {P : List Int} (hP : IsQ N E P) : Up (grd N E P) /\ (∀ x ∈ grd N E P,x ∈ bitL (cn N E P)) /\ IsQ N E (P ++ grd N E P) /\ cn N E (P ++ grd N E P) = 0 := gr_spec h 64 P hP (bitL_len _)
theorem isQ_nodup {P : List Int} (hP : IsQ N E P) : P.Nodup := hP.ad.imp fun {a b} k e => by subst e; exact jn_irr h _ k
omit h in
theorem isort_up {l : List Int} (hn : l.Nodup) : Up (isort l) /\ ∀ x,x ∈ isort l ↔ x ∈ l := by
 have hp := isort_perm l;refine ⟨?_,fun x => hp.mem_iff⟩;have h1 := isort_asc l;have h2 : (isort l).Nodup := hp.nodup_iff.2 hn
 exact (List.pairwise_and_iff.2 ⟨h1,h2⟩).imp fun {a b} k => by
  have := k.1; have := k.2; omega
theorem extK_spec {P : List Int} (hP : IsQ N E P) : Up (extK N E P) /\ (∀ x,x ∈ extK N E P ↔ x ∈ P \/ x ∈ grd N E P) /\ IsC N E (extK N E P) /\ cn N E (extK N E P) = 0 := by
 obtain ⟨g1,g2,g3,g4⟩ := grd_spec h hP;obtain ⟨s1,s2⟩ := isort_up (isQ_nodup h g3)
 have mem : ∀ x,x ∈ extK N E P ↔ x ∈ P \/ x ∈ grd N E P := fun x => by
  unfold extK;rw [s2,List.mem_append]
 have bd : ∀ x ∈ extK N E P,0 <= x /\ x < (N : Int) := fun x hx => g3.bd x (List.mem_append.2 ((mem x).1 hx));refine ⟨s1,mem,⟨s1,bd,?_⟩,?_⟩
 ·have hp := isort_perm (P ++ grd N E P);exact (hp.pairwise_iff fun {a b} k => jn_symm k).2 g3.ad
 ·rw [<- g4];exact cn_congr h (fun x hx => (bd x hx).1) (fun x hx => (g3.bd x hx).1) fun x => by rw [mem,List.mem_append]
end
/- The reference's walk hands out the maximal cliques in order; how many they are. -/
section
variable {N : Nat} {E : List Ed} (h : GOK (N : Int) E)
include h
theorem grw_sorted : ∀ (k v : Nat) (S : List Int),v + k = N -> IsC N E S -> (∀ x ∈ S,x < (v : Int)) -> (grw N E k v S).Pairwise fun a b => cmpL b a = 1
 | 0,_,_,_,_,_ => List.Pairwise.nil
 | k + 1,v,S,hv,hS,hl => by
   have hl1 : ∀ x ∈ S,x < ((v + 1 : Nat) : Int) := fun x hx => by have := hl x hx; omega
   have i1 := grw_sorted k (v + 1) S (by omega) hS hl1;have m1 := grw_mem h k (v + 1) S (by omega) hS hl1;unfold grw;cases f : fitB E S v with
   | false => rw [if_neg (by decide),List.nil_append]; exact i1
   | true =>
     rw [if_pos rfl];have hA := isC_add h hS (show v < N by omega) hl f
     have later : ∀ (T : List Int) (b : List Int),b ∈ grw N E k (v + 1) S -> cmpL b (S ++ (v : Int) :: T) = 1 := fun T b hb => by
      obtain ⟨_,T',hne,rfl,ht⟩ := (m1 b).1 hb;rw [cmpL_app];cases T' with
      | nil => exact absurd rfl hne
      | cons y r =>
        have := ht y List.mem_cons_self;unfold cmpL;have h1 : (v : Int) < y := by omega
        simp [h1]
     rw [List.pairwise_append];refine ⟨?_,i1,fun a ha b hb => ?_⟩
     ·split
      ·exact List.pairwise_singleton _ _
      ·exact grw_sorted k (v + 1) _ (by omega) hA fun x hx => by
        rcases List.mem_append.1 hx with q | q
        ·have := hl x q; omega
        ·simp at q; omega
     ·split at ha
      ·rw [List.mem_singleton.1 ha];exact later [] b hb
      ·obtain ⟨_,T,_,rfl,_⟩ := (grw_mem h k (v + 1) (S ++ [(v : Int)]) (by omega) hA (fun x hx => by
        rcases List.mem_append.1 hx with q | q
        ·have := hl x q; omega
        ·simp at q; omega) a).1 ha
       rw [List.append_assoc];exact later T b hb
omit h in
theorem sorted_eq : ∀ {a b : List (List Int)},(a.Pairwise fun x y => cmpL y x = 1) -> (b.Pairwise fun x y => cmpL y x = 1) -> (∀ x,x ∈ a ↔ x ∈ b) -> a = b
 | [],[],_,_,_ => rfl
 | [],y :: b,_,_,h => absurd ((h y).2 List.mem_cons_self) List.not_mem_nil
 | x :: a,[],_,_,h => absurd ((h x).1 List.mem_cons_self) List.not_mem_nil
 | x :: a,y :: b,ha,hb,h => by
   obtain ⟨a1,a2⟩ := List.pairwise_cons.1 ha;obtain ⟨b1,b2⟩ := List.pairwise_cons.1 hb;have self : ∀ z : List Int,cmpL z z ≠ 1 := fun z q => by have := cmpL_swap z z; omega
   have e : x = y := by
    rcases List.mem_cons.1 ((h x).1 List.mem_cons_self) with q | q
    ·exact q
    ·rcases List.mem_cons.1 ((h y).2 List.mem_cons_self) with q2 | q2
     ·exact q2.symm
     ·have := a1 y q2;have := b1 x q;have := cmpL_swap x y;omega
   subst e
   rw [sorted_eq a2 b2 fun z => by
    constructor
    ·intro hz;rcases List.mem_cons.1 ((h z).1 (List.mem_cons_of_mem _ hz)) with q | q
     ·subst q; exact absurd (a1 z hz) (self z)
     ·exact q
    ·intro hz;rcases List.mem_cons.1 ((h z).2 (List.mem_cons_of_mem _ hz)) with q | q
     ·subst q; exact absurd (b1 z hz) (self z)
     ·exact q]
theorem grw_mcl : grw N E N 0 [] = mcl N E := sorted_eq (grw_sorted h N 0 [] (by omega) ⟨List.Pairwise.nil,by simp,List.Pairwise.nil⟩ (by simp)) mcl_sorted fun x => by rw [grw_all h,mcl_mem h]
theorem mcl_low (m : Nat) (hm : ∀ e ∈ E,e.1 < (m : Int) /\ e.2 < (m : Int)) : (mcl N E).length <= N + 2 ^ m := by
 let R : List Int := (List.range m).map fun i => ((i : Nat) : Int)
 let Q : List (List Int) := ((List.range N).map fun i => [((i : Nat) : Int)]) ++ subs R []
 have lQ : Q.length <= N + 2 ^ m := by
  have := subs_length R [];have lr : R.length = m := by simp [R]
  rw [lr] at this;simp only [Q,List.length_append,List.length_map,List.length_range];omega
 refine Nat.le_trans (nodup_len mcl_nodup fun S hS => ?_) lQ;obtain ⟨hC,hne,hx⟩ := (mcl_mem h).1 hS
 have up : Up R := by
  show ((List.range m).map fun i => ((i : Nat) : Int)).Pairwise _;rw [List.pairwise_map];exact List.pairwise_lt_range.imp fun h => by omega
 by_cases q : ∃ x,S = [x]
 ·obtain ⟨x,rfl⟩ := q;have b := hC.bd x (by simp);refine List.mem_append.2 (.inl (List.mem_map.2 ⟨x.toNat,List.mem_range.2 (by omega),?_⟩));rw [show ((x.toNat : Nat) : Int) = x by omega]
 ·refine List.mem_append.2 (.inr (subs_mem.2 ⟨S,hne,sub_of_up hC.up up fun x hxS => ?_,rfl⟩));have b := hC.bd x hxS
  have two : ∃ y ∈ S,y ≠ x := by
   apply Classical.byContradiction;intro k;apply q;have all : ∀ y ∈ S,y = x := fun y hy => Classical.byContradiction fun z => k ⟨y,hy,z⟩;cases S with
   | nil => exact absurd rfl hne
   | cons a r =>
     cases r with
     | nil => exact ⟨a,rfl⟩
     | cons c r =>
       have u := hC.up;unfold Up at u;have := (List.pairwise_cons.1 u).1 c List.mem_cons_self;have := all a (by simp);have := all c (by simp);omega
  obtain ⟨y,hy,hyx⟩ := two
  have j : jn E x y \/ jn E y x := by
   have ad := hC.ad;rcases List.mem_iff_getElem.1 hxS with ⟨i,hi,ei⟩;rcases List.mem_iff_getElem.1 hy with ⟨k,hk,ek⟩;rw [List.pairwise_iff_getElem] at ad;by_cases z : i < k
   ·left; have := ad i k hi hk z; rwa [ei,ek] at this
   ·right
    have zk : k < i := by
     have : i ≠ k := fun e => hyx (by subst e; exact ek.symm.trans ei);omega
    have := ad k i hk hi zk
    rwa [ei,ek] at this
  have lt : x < (m : Int) := by
   rcases j with (j | j) | (j | j)
   ·exact (hm _ j).1
   ·exact (hm _ j).2
   ·exact (hm _ j).2
   ·exact (hm _ j).1
  refine List.mem_map.2 ⟨x.toNat,List.mem_range.2 (by omega),by omega⟩
end
end Go.BmP
