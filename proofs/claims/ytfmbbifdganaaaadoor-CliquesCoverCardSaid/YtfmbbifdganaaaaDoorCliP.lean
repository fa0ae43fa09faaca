/- Cliques as rising lists, and a walk that hands out the maximal ones in order: plain law. -/
import Derived.Test.YtfmbbifdganaaaaDoorWlkP
set_option linter.unusedVariables false
set_option linter.unusedSimpArgs false
namespace Go.BmP
open Go.Am Go.Bm
section
variable {N : Nat} {E : List Ed} (h : GOK (N : Int) E)
include h
theorem gok_n : N <= 64 := by have := h.1; omega
theorem gadj : (adjE N E).length = N /\ Small (adjE N E) /\ ∀ a b : Nat, ((adjE N E).getD a 0).testBit b = decide (jn E a b) := by
 obtain ⟨h1, h2, h3⟩ := adjOf_spec N (gok_n h) E (List.replicate N 0) (by simp) (fun x hx => by have := List.eq_of_mem_replicate hx; omega) h.2.2
 refine ⟨h1, h2, fun a b => ?_⟩
 unfold adjE
 rw [h3]
 have e : (List.replicate N 0).getD a 0 = 0 := by
  rw [List.getD_eq_getElem?_getD, List.getElem?_replicate]; split <;> rfl
 rw [e, Nat.zero_testBit, Bool.false_or, Bool.eq_iff_iff, decide_eq_true_eq]
 simp [jn]
theorem jn_irr (a : Int) : ¬ jn E a a := by
 rintro (k | k) <;> exact absurd (h.2.2 _ k).2.1 (Int.lt_irrefl _)
omit h in
theorem jn_symm {a b : Int} (k : jn E a b) : jn E b a := k.symm
def cn (N : Nat) (E : List Ed) (P : List Int) : Nat := comL (adjE N E) (2 ^ N - 1) P
theorem cn_bit {P : List Int} (hP : ∀ x ∈ P, 0 <= x) (j : Nat) : (cn N E P).testBit j = true ↔ j < N /\ ∀ v ∈ P, jn E v j := by
 unfold cn
 rw [comL_bit, Bool.and_eq_true, Nat.testBit_two_pow_sub_one, decide_eq_true_eq, List.all_eq_true]
 refine and_congr_right fun _ => ?_
 constructor
 ·intro k v hv
  have := k v hv
  rw [(gadj h).2.2, decide_eq_true_eq, show ((v.toNat : Nat) : Int) = v by have := hP v hv; omega] at this
  exact this
 ·intro k v hv
  rw [(gadj h).2.2, decide_eq_true_eq, show ((v.toNat : Nat) : Int) = v by have := hP v hv; omega]
  exact k v hv
theorem cn_lt (P : List Int) : cn N E P < 18446744073709551616 := by
 have h1 := comL_le (adjE N E) P (2 ^ N - 1)
 have h2 : 2 ^ N <= 2 ^ 64 := Nat.pow_le_pow_right (by decide) (gok_n h)
 have h3 : 0 < 2 ^ N := Nat.two_pow_pos N
 unfold cn
 omega
omit h in
theorem cn_snoc (P : List Int) (v : Int) : cn N E (P ++ [v]) = cn N E P &&& (adjE N E).getD v.toNat 0 := by simp [cn, comL]
def lst (P : List Int) : Int := P.getLast?.getD (-1)
omit h in
theorem lst_snoc (P : List Int) (v : Int) : lst (P ++ [v]) = v := by simp [lst]
omit h in
theorem bh_bit {P : List Int} (hP : ∀ x ∈ P, 0 <= x) (j : Nat) : (bh P).testBit j = true ↔ (j : Int) <= lst P := by
 rcases List.eq_nil_or_concat P with rfl | ⟨Q, v, rfl⟩
 ·rw [bh_nil, Nat.zero_testBit]
  simp [lst]
  omega
 ·rw [List.concat_eq_append, bh_snoc, lst_snoc, Nat.testBit_two_pow_sub_one, decide_eq_true_eq]
  have := hP v (by simp)
  omega
def mo (N : Nat) (E : List Ed) (P : List Int) : Nat := cn N E P &&& (18446744073709551615 - bh P)
def le (N : Nat) (E : List Ed) (P : List Int) : Nat := cn N E P &&& bh P
theorem mo_lt (P : List Int) : mo N E P < 18446744073709551616 := Nat.lt_of_le_of_lt Nat.and_le_left (cn_lt h P)
theorem le_lt (P : List Int) : le N E P < 18446744073709551616 := Nat.lt_of_le_of_lt Nat.and_le_left (cn_lt h P)
theorem mo_bit {P : List Int} (hP : ∀ x ∈ P, 0 <= x /\ x < 64) (j : Nat) : (mo N E P).testBit j = true ↔ (j < N /\ ∀ v ∈ P, jn E v j) /\ lst P < (j : Int) := by
 have hn := gok_n h
 have h0 : ∀ x ∈ P, 0 <= x := fun x hx => (hP x hx).1
 unfold mo
 rw [Nat.testBit_and, Bool.and_eq_true, cn_bit h h0, not_bit _ _ (bh_lt fun v hv => (hP v hv).2), Bool.and_eq_true, decide_eq_true_eq]
 have e := bh_bit h0 j
 constructor
 ·rintro ⟨k1, _, k2⟩
  refine ⟨k1, ?_⟩
  by_cases q : (j : Int) <= lst P
  ·rw [e.2 q] at k2; cases k2
  ·omega
 ·rintro ⟨k1, k2⟩
  refine ⟨k1, by omega, ?_⟩
  cases q : (bh P).testBit j with
  | false => rfl
  | true => have := e.1 q; omega
theorem le_bit {P : List Int} (hP : ∀ x ∈ P, 0 <= x /\ x < 64) (j : Nat) : (le N E P).testBit j = true ↔ (j < N /\ ∀ v ∈ P, jn E v j) /\ (j : Int) <= lst P := by
 have h0 : ∀ x ∈ P, 0 <= x := fun x hx => (hP x hx).1
 unfold le
 rw [Nat.testBit_and, Bool.and_eq_true, cn_bit h h0, bh_bit h0]
theorem mo_nil : mo N E [] = 2 ^ N - 1 := by
 have h2 : 2 ^ N <= 2 ^ 64 := Nat.pow_le_pow_right (by decide) (gok_n h)
 unfold mo cn
 rw [bh_nil, Nat.sub_zero, show (18446744073709551615 : Nat) = 2 ^ 64 - 1 by decide, Nat.and_two_pow_sub_one_eq_mod]
 exact Nat.mod_eq_of_lt (show 2 ^ N - 1 < 2 ^ 64 by have := Nat.two_pow_pos N; omega)
omit h in
theorem le_nil : le N E [] = 0 := by unfold le; rw [bh_nil, Nat.and_zero]
theorem moL_mem {P : List Int} (hP : ∀ x ∈ P, 0 <= x /\ x < 64) (y : Int) : y ∈ bitL (mo N E P) ↔ (0 <= y /\ y < (N : Int)) /\ (∀ v ∈ P, jn E v y) /\ lst P < y := by
 have hn := gok_n h
 rw [bitL_mem]
 constructor
 ·rintro ⟨j, rfl, _, k⟩
  have := (mo_bit h hP j).1 k
  exact ⟨by omega, this.1.2, this.2⟩
 ·rintro ⟨⟨k0, k1⟩, k2, k3⟩
  have e : ((y.toNat : Nat) : Int) = y := by omega
  exact ⟨y.toNat, e.symm, by omega, (mo_bit h hP _).2 ⟨⟨by omega, by rw [e]; exact k2⟩, by rw [e]; exact k3⟩⟩
theorem leL_mem {P : List Int} (hP : ∀ x ∈ P, 0 <= x /\ x < 64) (y : Int) : y ∈ bitL (le N E P) ↔ (0 <= y /\ y < (N : Int)) /\ (∀ v ∈ P, jn E v y) /\ y <= lst P := by
 have hn := gok_n h
 rw [bitL_mem]
 constructor
 ·rintro ⟨j, rfl, _, k⟩
  have := (le_bit h hP j).1 k
  exact ⟨by omega, this.1.2, this.2⟩
 ·rintro ⟨⟨k0, k1⟩, k2, k3⟩
  have e : ((y.toNat : Nat) : Int) = y := by omega
  exact ⟨y.toNat, e.symm, by omega, (le_bit h hP _).2 ⟨⟨by omega, by rw [e]; exact k2⟩, by rw [e]; exact k3⟩⟩
omit h in
theorem bits_ext {a b : Nat} (ha : a < 18446744073709551616) (hb : b < 18446744073709551616) (k : ∀ j, j < 64 -> (a.testBit j = true ↔ b.testBit j = true)) : a = b := by
 apply Nat.eq_of_testBit_eq
 intro j
 by_cases hj : j < 64
 ·exact Bool.eq_iff_iff.2 (k j hj)
 ·have p : 2 ^ 64 <= 2 ^ j := Nat.pow_le_pow_right (by decide) (by omega)
  rw [Nat.testBit_lt_two_pow (by omega), Nat.testBit_lt_two_pow (by omega)]
theorem adj_bit {v : Int} (hv : 0 <= v) (j : Nat) : ((adjE N E).getD v.toNat 0).testBit j = true ↔ jn E v j := by
 rw [(gadj h).2.2, decide_eq_true_eq, show ((v.toNat : Nat) : Int) = v by omega]
theorem mo_snoc {P : List Int} {v : Int} (hP : ∀ x ∈ P, 0 <= x /\ x < 64) (hv : 0 <= v /\ v < 64) (hl : lst P < v) : mo N E (P ++ [v]) = (mo N E P &&& (adjE N E).getD v.toNat 0) &&& (18446744073709551615 - (2 ^ v.toNat - 1)) := by
 have hP2 : ∀ x ∈ P ++ [v], 0 <= x /\ x < 64 := fun x hx => by
  rcases List.mem_append.1 hx with k | k
  ·exact hP x k
  ·simp at k; omega
 have p1 := pow_lt64 hv.2 hv.1
 refine bits_ext (mo_lt h _) (Nat.lt_of_le_of_lt Nat.and_le_right (by omega)) fun j hj => ?_
 rw [mo_bit h hP2, lst_snoc, Nat.testBit_and, Bool.and_eq_true, Nat.testBit_and, Bool.and_eq_true, mo_bit h hP, adj_bit h hv.1, not_bit _ _ (by omega), Bool.and_eq_true, decide_eq_true_eq, Nat.testBit_two_pow_sub_one, Bool.not_eq_true', decide_eq_false_iff_not]
 constructor
 ·rintro ⟨⟨k1, k2⟩, k3⟩
  exact ⟨⟨⟨⟨k1, fun w hw => k2 w (by simp [hw])⟩, by omega⟩, k2 v (by simp)⟩, hj, by omega⟩
 ·rintro ⟨⟨⟨⟨k1, k2⟩, k3⟩, k4⟩, _, k5⟩
  refine ⟨⟨k1, fun w hw => ?_⟩, ?_⟩
  ·rcases List.mem_append.1 hw with q | q
   ·exact k2 w q
   ·simp at q; rw [q]; exact k4
  ·have : (j : Int) ≠ v := by rintro e; rw [<- e] at k4; exact jn_irr h _ k4
   omega
theorem le_snoc {P : List Int} {v : Int} (hP : ∀ x ∈ P, 0 <= x /\ x < 64) (hv : 0 <= v /\ v < 64) (hl : lst P < v) : le N E (P ++ [v]) = (le N E P ||| (mo N E P &&& (2 ^ v.toNat - 1))) &&& (adjE N E).getD v.toNat 0 := by
 have hP2 : ∀ x ∈ P ++ [v], 0 <= x /\ x < 64 := fun x hx => by
  rcases List.mem_append.1 hx with k | k
  ·exact hP x k
  ·simp at k; omega
 have p1 := pow_lt64 hv.2 hv.1
 refine bits_ext (le_lt h _) (Nat.lt_of_le_of_lt Nat.and_le_left (Nat.or_lt_two_pow (n := 64) (le_lt h _) (Nat.lt_of_le_of_lt Nat.and_le_left (mo_lt h _)))) fun j hj => ?_
 rw [le_bit h hP2, lst_snoc, Nat.testBit_and, Bool.and_eq_true, Nat.testBit_or, Bool.or_eq_true, Nat.testBit_and, Bool.and_eq_true, mo_bit h hP, le_bit h hP, adj_bit h hv.1, Nat.testBit_two_pow_sub_one, decide_eq_true_eq]
 constructor
 ·rintro ⟨⟨k1, k2⟩, k3⟩
  have k4 := k2 v (by simp)
  have : (j : Int) ≠ v := by rintro e; rw [<- e] at k4; exact jn_irr h _ k4
  have k5 : ∀ w ∈ P, jn E w j := fun w hw => k2 w (by simp [hw])
  refine ⟨?_, k4⟩
  by_cases q : (j : Int) <= lst P
  ·exact .inl ⟨⟨k1, k5⟩, q⟩
  ·exact .inr ⟨⟨⟨k1, k5⟩, by omega⟩, by omega⟩
 ·rintro ⟨k, k4⟩
  have k6 : (j < N /\ ∀ w ∈ P, jn E w j) /\ (j : Int) <= v := by
   rcases k with ⟨k1, k2⟩ | ⟨⟨k1, k2⟩, k3⟩
   ·exact ⟨k1, by omega⟩
   ·exact ⟨k1, by omega⟩
  refine ⟨⟨k6.1.1, fun w hw => ?_⟩, k6.2⟩
  rcases List.mem_append.1 hw with q | q
  ·exact k6.1.2 w q
  ·simp at q; rw [q]; exact k4
def prn (N : Nat) (E : List Ed) (P : List Int) : Bool := (bitL (le N E P)).any fun x => decide (mo N E P &&& (18446744073709551615 - (adjE N E).getD x.toNat 0) = 0)
theorem prn_iff {P : List Int} (hP : ∀ x ∈ P, 0 <= x /\ x < 64) : prn N E P = true ↔ ∃ x ∈ bitL (le N E P), ∀ y ∈ bitL (mo N E P), jn E x y := by
 unfold prn
 rw [List.any_eq_true]
 refine exists_congr fun x => and_congr_right fun hx => ?_
 rw [decide_eq_true_eq]
 have x0 := ((leL_mem h hP x).1 hx).1.1
 have sm := getD_lt (gadj h).2.1 x.toNat
 constructor
 ·intro k y hy
  obtain ⟨j, rfl, hj, q⟩ := bitL_mem.1 hy
  have e := congrArg (fun n => n.testBit j) k
  simp only [Nat.testBit_and, q, Bool.true_and, Nat.zero_testBit] at e
  rw [not_bit _ _ sm] at e
  simp only [hj, decide_true, Bool.true_and, Bool.not_eq_false'] at e
  exact (adj_bit h x0 j).1 e
 ·intro k
  apply Nat.eq_of_testBit_eq
  intro j
  rw [Nat.testBit_and, not_bit _ _ sm, Nat.zero_testBit]
  cases q : (mo N E P).testBit j with
  | false => rfl
  | true =>
    have hj : j < 64 := by
     have := ((mo_bit h hP j).1 q).1.1
     have := gok_n h
     omega
    rw [(adj_bit h x0 j).2 (k j (bitL_mem.2 ⟨j, rfl, hj, q⟩))]
    simp
end
structure IsC (N : Nat) (E : List Ed) (P : List Int) : Prop where
 up : Up P
 bd : ∀ x ∈ P, 0 <= x /\ x < (N : Int)
 ad : P.Pairwise (jn E)
def IsMax (N : Nat) (E : List Ed) (S : List Int) : Prop := IsC N E S /\ S ≠ [] /\ ∀ x, (0 <= x /\ x < (N : Int)) -> ¬ ∀ v ∈ S, jn E v x
def innK (N : Nat) (E : List Ed) (after : List Int) : Nat -> List Int -> Bool -> List (List Int)
 | 0, _, _ => []
 | n + 1, P, t => if mo N E P = 0 then (if le N E P ≠ 0 \/ P = [] \/ (t = true /\ P.length <= after.length) then [] else [P]) else if prn N E P = true then [] else (bitL (mo N E P)).flatMap fun v => if skipL after P t v = true then [] else innK N E after n (P ++ [v]) (onL after P t v)
section
variable {N : Nat} {E : List Ed} (h : GOK (N : Int) E)
include h
theorem isC_bd {P : List Int} (k : IsC N E P) : ∀ x ∈ P, 0 <= x /\ x < 64 := fun x hx => by
 have := k.bd x hx; have := gok_n h; omega
theorem isC_snoc {P : List Int} (k : IsC N E P) {v : Int} (hv : v ∈ bitL (mo N E P)) : IsC N E (P ++ [v]) /\ lst P < v := by
 obtain ⟨k1, k2, k3⟩ := (moL_mem h (isC_bd h k) v).1 hv
 refine ⟨⟨?_, fun x hx => ?_, ?_⟩, k3⟩
 ·unfold Up
  rw [List.pairwise_append]
  refine ⟨k.up, by simp, fun x hx y hy => ?_⟩
  simp at hy
  subst hy
  -- x is at most the last of P
  rcases List.eq_nil_or_concat P with e | ⟨Q, w, e⟩
  ·rw [e] at hx; simp at hx
  ·rw [List.concat_eq_append] at e
   have l1 : lst P = w := by rw [e, lst_snoc]
   rw [e] at hx
   rcases List.mem_append.1 hx with q | q
   ·have := (List.pairwise_append.1 (e ▸ k.up)).2.2 x q w (by simp)
    omega
   ·simp at q; omega
 ·rcases List.mem_append.1 hx with q | q
  ·exact k.bd x q
  ·simp at q; rw [q]; exact k1
 ·rw [List.pairwise_append]
  refine ⟨k.ad, by simp, fun x hx y hy => ?_⟩
  simp at hy
  subst hy
  exact k2 x hx
omit h in
theorem inn_ext (after : List Int) : ∀ (n : Nat) (P : List Int) (t : Bool), ∀ S ∈ innK N E after n P t, ∃ T, S = P ++ T
 | 0, P, t, S, hS => by simp [innK] at hS
 | n + 1, P, t, S, hS => by
   unfold innK at hS
   split at hS
   ·split at hS
    ·simp at hS
    ·simp at hS; exact ⟨[], by simp [hS]⟩
   ·split at hS
    ·simp at hS
    ·obtain ⟨v, _, hv⟩ := List.mem_flatMap.1 hS
     split at hv
     ·simp at hv
     ·obtain ⟨T, rfl⟩ := inn_ext after n _ _ S hv
      exact ⟨v :: T, by simp⟩
theorem inn_mem : ∀ (n : Nat) (P : List Int), IsC N E P -> (N : Int) - lst P <= n -> ∀ S, S ∈ innK N E [] n P false ↔ IsMax N E S /\ ∃ T, S = P ++ T
 | 0, P, hP, hf, S => by
   have hn := gok_n h
   have : lst P < (N : Int) := by
    rcases List.eq_nil_or_concat P with e | ⟨Q, w, e⟩
    ·rw [e]; simp [lst]; omega
    ·rw [List.concat_eq_append] at e
     rw [e, lst_snoc]
     exact (hP.bd w (by rw [e]; simp)).2
   omega
 | n + 1, P, hP, hf, S => by
   have hn := gok_n h
   have bd := isC_bd h hP
   unfold innK
   by_cases k1 : mo N E P = 0
   ·rw [if_pos k1]
    have noM : bitL (mo N E P) = [] := (bitL_nil (mo_lt h P)).2 k1
    by_cases k2 : le N E P ≠ 0 \/ P = [] \/ ((false : Bool) = true /\ P.length <= ([] : List Int).length)
    ·rw [if_pos k2]
     simp only [List.not_mem_nil, false_iff, not_and]
     rintro ⟨m1, m2, m3⟩ ⟨T, rfl⟩
     -- nothing can be added
     have hT : T = [] := by
      cases T with
      | nil => rfl
      | cons v T =>
        have : v ∈ bitL (mo N E P) := (moL_mem h bd v).2 ⟨m1.bd v (by simp), fun w hw => (List.pairwise_append.1 m1.ad).2.2 w hw v (by simp), by
         rcases List.eq_nil_or_concat P with e | ⟨Q, w, e⟩
         ·rw [e]; have := m1.bd v (by simp); simp [lst]; omega
         ·rw [List.concat_eq_append] at e
          rw [e, lst_snoc]
          exact (List.pairwise_append.1 m1.up).2.2 w (by rw [e]; simp) v (by simp)⟩
        rw [noM] at this
        cases this
     subst hT
     rw [List.append_nil] at m2 m3
     rcases k2 with q | q | q
     ·have : bitL (le N E P) ≠ [] := fun e => q ((bitL_nil (le_lt h P)).1 e)
      obtain ⟨x, hx⟩ := List.exists_mem_of_ne_nil _ this
      obtain ⟨x1, x2, _⟩ := (leL_mem h bd x).1 hx
      exact m3 x x1 x2
     ·exact m2 q
     ·simp at q
    ·rw [if_neg k2]
     simp only [not_or, ne_eq, Decidable.not_not] at k2
     obtain ⟨l0, p0, _⟩ := k2
     rw [List.mem_singleton]
     constructor
     ·rintro rfl
      refine ⟨⟨hP, p0, fun x hx hj => ?_⟩, [], by simp⟩
      by_cases q : lst S < x
      ·have : x ∈ bitL (mo N E S) := (moL_mem h bd x).2 ⟨hx, hj, q⟩
       rw [noM] at this; cases this
      ·have : x ∈ bitL (le N E S) := (leL_mem h bd x).2 ⟨hx, hj, by omega⟩
       rw [(bitL_nil (le_lt h S)).2 l0] at this; cases this
     ·rintro ⟨⟨m1, m2, m3⟩, T, rfl⟩
      cases T with
      | nil => simp
      | cons v T =>
        have : v ∈ bitL (mo N E P) := (moL_mem h bd v).2 ⟨m1.bd v (by simp), fun w hw => (List.pairwise_append.1 m1.ad).2.2 w hw v (by simp), by
         rcases List.eq_nil_or_concat P with e | ⟨Q, w, e⟩
         ·exact absurd e p0
         ·rw [List.concat_eq_append] at e
          rw [e, lst_snoc]
          exact (List.pairwise_append.1 m1.up).2.2 w (by rw [e]; simp) v (by simp)⟩
        rw [noM] at this
        cases this
   ·rw [if_neg k1]
    -- the tail of what begins with P is among the greater ones
    have tail : ∀ v T, IsC N E (P ++ v :: T) -> ∀ y ∈ v :: T, y ∈ bitL (mo N E P) := fun v T m1 y hy => (moL_mem h bd y).2 ⟨m1.bd y (List.mem_append.2 (.inr hy)), fun w hw => (List.pairwise_append.1 m1.ad).2.2 w hw y hy, by
     rcases List.eq_nil_or_concat P with e | ⟨Q, w, e⟩
     ·rw [e]; have := m1.bd y (List.mem_append.2 (.inr hy)); simp [lst]; omega
     ·rw [List.concat_eq_append] at e
      rw [e, lst_snoc]
      exact (List.pairwise_append.1 m1.up).2.2 w (by rw [e]; simp) y hy⟩
    have notP : ¬ IsMax N E P := by
     rintro ⟨_, _, m3⟩
     have : bitL (mo N E P) ≠ [] := fun e => k1 ((bitL_nil (mo_lt h P)).1 e)
     obtain ⟨x, hx⟩ := List.exists_mem_of_ne_nil _ this
     obtain ⟨x1, x2, _⟩ := (moL_mem h bd x).1 hx
     exact m3 x x1 x2
    by_cases k2 : prn N E P = true
    ·rw [if_pos k2]
     simp only [List.not_mem_nil, false_iff, not_and]
     rintro ⟨m1, m2, m3⟩ ⟨T, rfl⟩
     cases T with
     | nil => rw [List.append_nil] at m1 m2 m3; exact notP ⟨m1, m2, m3⟩
     | cons v T =>
       obtain ⟨x, hx, hj⟩ := (prn_iff h bd).1 k2
       obtain ⟨x1, x2, _⟩ := (leL_mem h bd x).1 hx
       refine m3 x x1 fun w hw => ?_
       rcases List.mem_append.1 hw with q | q
       ·exact x2 w q
       ·exact jn_symm (hj w (tail v T m1 w q))
    ·rw [if_neg k2, List.mem_flatMap]
     constructor
     ·rintro ⟨v, hv, hS⟩
      obtain ⟨c1, c2⟩ := isC_snoc h hP hv
      have s0 : skipL [] P false v = false := rfl
      have o0 : onL [] P false v = false := rfl
      rw [s0, o0, if_neg (by decide)] at hS
      obtain ⟨m, T, e⟩ := (inn_mem n (P ++ [v]) c1 (by rw [lst_snoc]; omega) S).1 hS
      exact ⟨m, v :: T, by rw [e]; simp⟩
     ·rintro ⟨m, T, rfl⟩
      cases T with
      | nil => rw [List.append_nil] at m; exact absurd m notP
      | cons v T =>
        have hv := tail v T m.1 v (by simp)
        obtain ⟨c1, c2⟩ := isC_snoc h hP hv
        have s0 : skipL [] P false v = false := rfl
        have o0 : onL [] P false v = false := rfl
        refine ⟨v, hv, ?_⟩
        rw [s0, o0, if_neg (by decide)]
        exact (inn_mem n (P ++ [v]) c1 (by rw [lst_snoc]; omega) _).2 ⟨m, T, by simp⟩
omit h in
theorem inn_sorted : ∀ (n : Nat) (P : List Int), (innK N E [] n P false).Pairwise fun a b => cmpL b a = 1
 | 0, P => List.Pairwise.nil
 | n + 1, P => by
   unfold innK
   split
   ·split
    ·exact List.Pairwise.nil
    ·simp
   ·split
    ·exact List.Pairwise.nil
    ·have up := bitL_up (mo N E P)
     generalize bitL (mo N E P) = C at up
     induction C with
     | nil => exact List.Pairwise.nil
     | cons v C ih =>
       have up2 := List.pairwise_cons.1 up
       have s0 : skipL [] P false v = false := rfl
       have o0 : onL [] P false v = false := rfl
       rw [List.flatMap_cons, List.pairwise_append]
       refine ⟨?_, ih up2.2, fun a ha b hb => ?_⟩
       ·rw [s0, o0, if_neg (by decide)]
        exact inn_sorted n _
       ·rw [s0, o0, if_neg (by decide)] at ha
        obtain ⟨T, rfl⟩ := inn_ext [] n _ _ a ha
        obtain ⟨w, hw, hb⟩ := List.mem_flatMap.1 hb
        split at hb
        ·simp at hb
        ·obtain ⟨U, rfl⟩ := inn_ext [] n _ _ b hb
         have := up2.1 w hw
         rw [List.append_assoc, List.append_assoc, cmpL_app]
         simp only [List.cons_append, List.nil_append, cmpL]
         rw [if_pos this]
end
def mcl (N : Nat) (E : List Ed) : List (List Int) := innK N E [] (N + 1) [] false
section
variable {N : Nat} {E : List Ed} (h : GOK (N : Int) E)
include h
theorem mcl_mem {S : List Int} : S ∈ mcl N E ↔ IsMax N E S := by
 have c0 : IsC N E [] := ⟨List.Pairwise.nil, by simp, List.Pairwise.nil⟩
 have := inn_mem h (N + 1) [] c0 (by show (N : Int) - (-1) <= ((N + 1 : Nat) : Int); omega) S
 unfold mcl
 rw [this]
 exact ⟨fun k => k.1, fun k => ⟨k, S, by simp⟩⟩
omit h in
theorem mcl_sorted : (mcl N E).Pairwise fun a b => cmpL b a = 1 := inn_sorted _ _
omit h in
theorem mcl_nodup : (mcl N E).Nodup := (mcl_sorted (N := N) (E := E)).imp fun {a b} k e => by
 subst e
 rw [cmpL_zero.2 rfl] at k
 cases k
omit h in
theorem inn_after {after : List Int} : ∀ (n : Nat) (P : List Int) (t : Bool), (t = true -> ∃ R, after = P ++ R) -> (t = false -> ∀ T, cmpL (P ++ T) after = 1) -> innK N E after n P t = (innK N E [] n P false).filter fun S => decide (cmpL S after = 1)
 | 0, _, _, _, _ => rfl
 | n + 1, P, t, h1, h0 => by
   unfold innK
   by_cases k1 : mo N E P = 0
   ·rw [if_pos k1, if_pos k1]
    by_cases k2 : le N E P ≠ 0
    ·rw [if_pos (.inl k2), if_pos (.inl k2)]; rfl
    ·by_cases k3 : P = []
     ·rw [if_pos (.inr (.inl k3)), if_pos (.inr (.inl k3))]; rfl
     ·have e2 : (if le N E P ≠ 0 \/ P = [] \/ ((false : Bool) = true /\ P.length <= ([] : List Int).length) then [] else [P]) = [P] := if_neg (by simp only [not_or]; exact ⟨k2, k3, by simp⟩)
      rw [e2]
      cases t with
      | false =>
        rw [if_neg (by simp only [not_or]; exact ⟨k2, k3, by simp⟩)]
        have := h0 rfl []
        rw [List.append_nil] at this
        simp [this]
      | true =>
        obtain ⟨R, hR⟩ := h1 rfl
        rw [if_pos (.inr (.inr ⟨rfl, by rw [hR]; simp⟩))]
        have : cmpL P after ≠ 1 := by
         have := cmpL_app P [] R
         rw [List.append_nil] at this
         rw [hR, this]
         cases R <;> simp [cmpL]
        simp [this]
   ·rw [if_neg k1, if_neg k1]
    by_cases k2 : prn N E P = true
    ·rw [if_pos k2, if_pos k2]; rfl
    ·rw [if_neg k2, if_neg k2, List.filter_flatMap]
     refine congrArg (fun f => List.flatMap f (bitL (mo N E P))) (funext fun v => ?_)
     have e0 : (if skipL [] P false v = true then [] else innK N E [] n (P ++ [v]) (onL [] P false v)) = innK N E [] n (P ++ [v]) false := rfl
     rw [e0]
     have big : skipL after P t v = false -> onL after P t v = false -> (∀ T, cmpL (P ++ v :: T) after = 1) -> (if skipL after P t v = true then [] else innK N E after n (P ++ [v]) (onL after P t v)) = (innK N E [] n (P ++ [v]) false).filter fun S => decide (cmpL S after = 1) := by
      intro s o k
      rw [s, o, if_neg (by decide)]
      exact inn_after n (P ++ [v]) false (fun e => by cases e) (fun _ T => by simpa using k T)
     cases t with
     | false => exact big rfl rfl fun T => h0 rfl _
     | true =>
       obtain ⟨R, hR⟩ := h1 rfl
       cases R with
       | nil =>
         have e : hereL after P true = false := by rw [hR]; simp [hereL]
         refine big (by simp [skipL, e]) (by simp [onL, e]) fun T => ?_
         rw [hR, cmpL_app]
         rfl
       | cons a R =>
         have e : hereL after P true = true := by rw [hR]; simp [hereL]
         have ea : after.getD P.length 0 = a := by rw [hR]; simp
         by_cases l : v < a
         ·have s : skipL after P true v = true := by simp only [skipL, e, ea]; simp [l]
          rw [s, if_pos rfl]
          symm
          rw [List.filter_eq_nil_iff]
          intro S hS
          obtain ⟨T, rfl⟩ := inn_ext [] n _ _ S hS
          rw [hR, List.append_assoc, cmpL_app]
          have : ¬ a < v := by omega
          simp [cmpL, l, this]
         ·have s : skipL after P true v = false := by simp only [skipL, e, ea]; simp [l]
          by_cases q : v = a
          ·have o : onL after P true v = true := by simp only [onL, e, ea]; simp [q]
           rw [s, o, if_neg (by decide)]
           exact inn_after n (P ++ [v]) true (fun _ => ⟨R, by rw [hR, q]; simp⟩) (fun e => by cases e)
          ·have o : onL after P true v = false := by simp only [onL, e, ea]; simp [q]
           refine big s o fun T => ?_
           rw [hR, cmpL_app]
           have : a < v := by omega
           simp [cmpL, this]
theorem mcl_few : (mcl N E).length < 2 ^ N := by
 have h1 := subs_length ((List.range N).map fun i => ((i : Nat) : Int)) []
 have h2 := nodup_len (a := mcl N E) (b := subs ((List.range N).map fun i => ((i : Nat) : Int)) []) mcl_nodup fun S hS => by
  have m := (mcl_mem h).1 hS
  refine subs_mem.2 ⟨S, m.2.1, sub_of_up m.1.up ?_ fun x hx => ?_, by simp⟩
  ·unfold Up
   exact List.Pairwise.map _ (fun a b h => by omega) List.pairwise_lt_range
  ·have := m.1.bd x hx
   rw [List.mem_map]
   exact ⟨x.toNat, List.mem_range.2 (by omega), by omega⟩
 simp at h1
 omega
end
end Go.BmP
