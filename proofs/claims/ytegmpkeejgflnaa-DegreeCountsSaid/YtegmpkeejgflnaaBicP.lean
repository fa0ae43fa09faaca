/- Bipartite graphs as bits: plain facts. -/
import Derived.Test.YtegmpkeejgflnaaGrfP
set_option linter.unusedVariables false
set_option linter.unusedSimpArgs false
namespace Go.Bm
open Go.Am
def us (l : List Nat) : List AV := l.map fun n => .int .u64 ((n : Nat) : Int)
theorem us_length (l : List Nat) : (us l).length = l.length := List.length_map _
theorem us_get (l : List Nat) (i : Nat) : (us l)[i]? = (l[i]?).map (fun n => .int .u64 ((n : Nat) : Int)) := List.getElem?_map
theorem us_set (l : List Nat) (i n : Nat) : (us l).set i (.int .u64 (n : Int)) = us (l.set i n) := by simp [us, List.map_set]
theorem us_rep (n : Nat) : List.replicate n (AV.int .u64 0) = us (List.replicate n 0) := by simp [us]
theorem us_take (l : List Nat) (n : Nat) : (us l).take n = us (l.take n) := by simp [us]
def Small (A : List Nat) : Prop := ∀ x ∈ A, x < 18446744073709551616
theorem pow_lt64 {v : Int} (h : v < 64) (h0 : 0 <= v) : 2 ^ v.toNat < 18446744073709551616 := by
 have := Nat.pow_lt_pow_right (a := 2) (by decide) (show v.toNat < 64 by omega)
 exact this
def adF (A : List Nat) (e : Ed) : List Nat :=
 (A.set e.1.toNat (A.getD e.1.toNat 0 ||| 2 ^ e.2.toNat)).set e.2.toNat ((A.set e.1.toNat (A.getD e.1.toNat 0 ||| 2 ^ e.2.toNat)).getD e.2.toNat 0 ||| 2 ^ e.1.toNat)
theorem adF_length (A : List Nat) (e : Ed) : (adF A e).length = A.length := by simp [adF]
theorem getD_lt {A : List Nat} (h : Small A) (i : Nat) : A.getD i 0 < 18446744073709551616 := by
 rw [List.getD_eq_getElem?_getD]
 cases e : A[i]? with
 | none => simp
 | some x => exact h x (List.mem_of_getElem? e)
theorem set_small {A : List Nat} (h : Small A) {i n : Nat} (hn : n < 18446744073709551616) : Small (A.set i n) := by
 intro x hx
 rcases List.mem_or_eq_of_mem_set hx with h1 | h1
 ·exact h x h1
 ·omega
theorem adF_small {A : List Nat} (h : Small A) {e : Ed} (h1 : 0 <= e.1 /\ e.1 < 64) (h2 : 0 <= e.2 /\ e.2 < 64) : Small (adF A e) := by
 have s1 : Small (A.set e.1.toNat (A.getD e.1.toNat 0 ||| 2 ^ e.2.toNat)) := set_small h (Nat.or_lt_two_pow (n := 64) (getD_lt h _) (pow_lt64 h2.2 h2.1))
 exact set_small s1 (Nat.or_lt_two_pow (n := 64) (getD_lt s1 _) (pow_lt64 h1.2 h1.1))
theorem adF_bit {A : List Nat} {e : Ed} (h1 : 0 <= e.1 /\ e.1.toNat < A.length) (h2 : 0 <= e.2 /\ e.2.toNat < A.length) (hne : e.1 ≠ e.2) (a b : Nat) : ((adF A e).getD a 0).testBit b = ((A.getD a 0).testBit b || (decide ((a : Int) = e.1 /\ (b : Int) = e.2) || decide ((a : Int) = e.2 /\ (b : Int) = e.1))) := by
 have hn : e.1.toNat ≠ e.2.toNat := by omega
 unfold adF
 simp only [List.getD_eq_getElem?_getD, List.getElem?_set, List.length_set, if_neg hn, if_neg (Ne.symm hn)]
 by_cases ha : e.2.toNat = a
 ·subst ha
  rw [if_pos rfl, if_pos h2.2]
  simp only [Option.getD_some, Nat.testBit_or, Nat.testBit_two_pow]
  congr 1
  have e1 : ¬ ((e.2.toNat : Int) = e.1) := by omega
  have e2 : ((e.2.toNat : Int) = e.2) := by omega
  have e3 : ¬ (e.2 = e.1) := fun k => hne k.symm
  simp only [e1, e2, e3, false_and, true_and, decide_false, Bool.false_or]
  rw [Bool.eq_iff_iff, decide_eq_true_eq, decide_eq_true_eq]; omega
 ·rw [if_neg ha]
  have e2 : ¬ ((a : Int) = e.2) := by omega
  by_cases hb : e.1.toNat = a
  ·subst hb
   rw [if_pos rfl, if_pos h1.2]
   simp only [Option.getD_some, Nat.testBit_or, Nat.testBit_two_pow]
   congr 1
   have e1 : ((e.1.toNat : Int) = e.1) := by omega
   have e3 : ¬ (e.1 = e.2) := hne
   simp only [e1, e2, e3, false_and, true_and, decide_false, Bool.or_false]
   rw [Bool.eq_iff_iff, decide_eq_true_eq, decide_eq_true_eq]
   omega
  ·rw [if_neg hb]
   have e1 : ¬ ((a : Int) = e.1) := by omega
   simp [e1, e2]
def adjOf (l : List Ed) (A : List Nat) : List Nat := l.foldl adF A
theorem adjOf_spec (N : Nat) (hN : N <= 64) : ∀ (l : List Ed) (A : List Nat), A.length = N -> Small A -> (∀ e ∈ l, 0 <= e.1 /\ e.1 < e.2 /\ e.2 < (N : Int)) -> (adjOf l A).length = N /\ Small (adjOf l A) /\ ∀ a b : Nat, ((adjOf l A).getD a 0).testBit b = ((A.getD a 0).testBit b || (decide (((a : Int), (b : Int)) ∈ l) || decide (((b : Int), (a : Int)) ∈ l)))
 | [], A, hl, hs, _ => ⟨hl, hs, fun a b => by simp [adjOf]⟩
 | e :: r, A, hl, hs, h => by
   have he := h e (by simp)
   obtain ⟨i1, i2, i3⟩ := adjOf_spec N hN r (adF A e) (by rw [adF_length]; exact hl) (adF_small hs (by omega) (by omega)) (fun x hx => h x (by simp [hx]))
   refine ⟨i1, i2, fun a b => ?_⟩
   show ((adjOf r (adF A e)).getD a 0).testBit b = _
   rw [i3, adF_bit (by omega) (by omega) (by omega)]
   rw [Bool.eq_iff_iff]
   simp only [Bool.or_eq_true, decide_eq_true_eq, List.mem_cons, Prod.ext_iff]
   constructor
   ·rintro ((h | (h | h)) | (h | h))
    ·exact .inl h
    ·exact .inr (.inl (.inl h))
    ·exact .inr (.inr (.inl ⟨h.2, h.1⟩))
    ·exact .inr (.inl (.inr h))
    ·exact .inr (.inr (.inr h))
   ·rintro (h | ((h | h) | (h | h)))
    ·exact .inl (.inl h)
    ·exact .inl (.inr (.inl h))
    ·exact .inr (.inl h)
    ·exact .inl (.inr (.inr ⟨h.2, h.1⟩))
    ·exact .inr (.inr h)
def comL (A : List Nat) (side : Nat) (l : List Int) : Nat := l.foldl (fun s v => s &&& A.getD v.toNat 0) side
structure BOK (N : Nat) (E : List Ed) (L : List Int) : Prop where
 n : N <= 64
 e : UpE E /\ ∀ e ∈ E, 0 <= e.1 /\ e.1 < e.2 /\ e.2 < (N : Int)
 l : Up L /\ ∀ x ∈ L, 0 <= x /\ x < (N : Int)
 s : ∀ e ∈ E, e.1 ∈ L ↔ ¬ e.2 ∈ L
def jn (E : List Ed) (a b : Int) : Prop := (a, b) ∈ E \/ (b, a) ∈ E
instance (E : List Ed) (a b : Int) : Decidable (jn E a b) := by unfold jn; infer_instance
def adjE (N : Nat) (E : List Ed) : List Nat := adjOf E (List.replicate N 0)
def rgt (N : Nat) (L : List Int) : Nat := (2 ^ N - 1) &&& (18446744073709551615 - msk L)
def cR (N : Nat) (E : List Ed) (L S : List Int) : Nat := comL (adjE N E) (rgt N L) (bitL (msk S))
def cL (N : Nat) (E : List Ed) (L : List Int) (r : Nat) : Nat := comL (adjE N E) (msk L) (bitL r)
def clR (N : Nat) (E : List Ed) (L S : List Int) : List Int := bitL (cR N E L S)
def clL (N : Nat) (E : List Ed) (L S : List Int) : List Int := bitL (cL N E L (cR N E L S))
end Go.Bm
