/- Cliques within a set of bits: what the search for a largest one keeps. -/
import Derived.Test.YtldlafnfkiiflaaDoorBitP
set_option linter.unusedSimpArgs false
set_option linter.unusedVariables false
namespace Go.BmP
open Go.Am Go.Bm
def Kq (A : List Nat) (S : List Nat) : Prop := S.Pairwise fun a b => a < b /\ (A.getD a 0).testBit b = true
def Inb (m : Nat) (S : List Nat) : Prop := ∀ x ∈ S, m.testBit x = true
def Sym (A : List Nat) : Prop := ∀ a b : Nat, (A.getD a 0).testBit b = (A.getD b 0).testBit a
def wo (m v : Nat) : Nat := m &&& (18446744073709551615 - 2 ^ v)
theorem wo_bit {m v : Nat} (hm : m < 18446744073709551616) (hv : v < 64) (j : Nat) : (wo m v).testBit j = (m.testBit j && decide (j ≠ v)) := by
 unfold wo
 rw [Nat.testBit_and]
 have h2 : (2 : Nat) ^ v < 2 ^ 64 := Nat.pow_lt_pow_right (by decide) hv
 have e : 18446744073709551615 - 2 ^ v = 2 ^ 64 - (2 ^ v + 1) := by omega
 rw [e, Nat.testBit_two_pow_sub_succ h2, Nat.testBit_two_pow]
 by_cases hj : j < 64
 ·by_cases k : v = j
  ·subst k; simp
  ·have k' : ¬ j = v := fun h => k h.symm
   simp [hj, k, k']
 ·have : m.testBit j = false := Nat.testBit_lt_two_pow (Nat.lt_of_lt_of_le hm (by
   rw [show (18446744073709551616 : Nat) = 2 ^ 64 from rfl]
   exact Nat.pow_le_pow_right (by decide) (by omega)))
  simp [this]
theorem wo_lt {m v : Nat} (hm : m < 18446744073709551616) (hv : v < 64) (hb : m.testBit v = true) : wo m v < m := by
 have hle : wo m v <= m := Nat.and_le_left
 rcases Nat.lt_or_eq_of_le hle with h | h
 ·exact h
 ·exfalso
  have := wo_bit hm hv v
  rw [h, hb] at this
  simp at this
theorem inb_zero {S : List Nat} (h : Inb 0 S) : S = [] := by
 cases S with
 | nil => rfl
 | cons x r => have := h x List.mem_cons_self; simp at this
theorem kq_least {A : List Nat} {m : Nat} (h0 : m ≠ 0) (hm : m < 18446744073709551616) {S : List Nat} (hK : Kq A S) (hI : Inb m S) :
  Inb (wo m (tz m)) S \/ ∃ T, S = tz m :: T /\ Kq A T /\ Inb (wo m (tz m) &&& A.getD (tz m) 0) T := by
 obtain ⟨_, _, hv⟩ := tz_spec h0 hm
 obtain ⟨b1, b2⟩ := tz_bit h0 hm
 cases S with
 | nil => exact .inl fun x hx => by simp at hx
 | cons x r =>
   obtain ⟨p1, p2⟩ := List.pairwise_cons.1 hK
   have hx := hI x List.mem_cons_self
   have hge : tz m <= x := by
    apply Classical.byContradiction
    intro h
    have := b2 x (by omega)
    rw [hx] at this; cases this
   by_cases e : x = tz m
   ·right
    subst e
    refine ⟨r, rfl, p2, fun y hy => ?_⟩
    obtain ⟨q1, q2⟩ := p1 y hy
    rw [Nat.testBit_and, wo_bit hm hv, q2, hI y (List.mem_cons_of_mem _ hy)]
    simp; omega
   ·left
    intro y hy
    have hy1 := hI y hy
    rw [wo_bit hm hv, hy1]
    have : tz m < y := by
     rcases List.mem_cons.1 hy with rfl | hy
     ·omega
     ·have := (p1 y hy).1; omega
    simp; omega
def Rg (A : List Nat) (size m : Nat) (best best' : Int) : Prop := best <= best' /\ (∀ S, Kq A S -> Inb m S -> (size : Int) + S.length <= best') /\ (best' = best \/ ∃ S, Kq A S /\ Inb m S /\ best' = (size : Int) + S.length)
theorem rg_stop {A : List Nat} {size m : Nat} {best : Int} (h : ∀ S, Kq A S -> Inb m S -> (size : Int) + S.length <= best) : Rg A size m best best := ⟨Int.le_refl _, h, .inl rfl⟩
theorem rg_zero {A : List Nat} {size : Nat} {best : Int} (h : (size : Int) <= best) : Rg A size 0 best best := rg_stop fun S _ hI => by rw [inb_zero hI]; simpa using h
theorem kq_cons {A : List Nat} {m : Nat} (h0 : m ≠ 0) (hm : m < 18446744073709551616) {T : List Nat} (hK : Kq A T) (hI : Inb (wo m (tz m) &&& A.getD (tz m) 0) T) : Kq A (tz m :: T) /\ Inb m (tz m :: T) := by
 obtain ⟨_, _, hv⟩ := tz_spec h0 hm
 obtain ⟨b1, b2⟩ := tz_bit h0 hm
 have hT : ∀ x ∈ T, m.testBit x = true /\ x ≠ tz m /\ (A.getD (tz m) 0).testBit x = true := by
  intro x hx
  have := hI x hx
  rw [Nat.testBit_and, wo_bit hm hv] at this
  simpa [and_assoc] using this
 refine ⟨List.pairwise_cons.2 ⟨fun x hx => ?_, hK⟩, fun x hx => ?_⟩
 ·obtain ⟨h1, h2, h3⟩ := hT x hx
  refine ⟨?_, h3⟩
  apply Classical.byContradiction
  intro h
  have := b2 x (by omega)
  rw [h1] at this; cases this
 ·rcases List.mem_cons.1 hx with rfl | hx
  ·exact b1
  ·exact (hT x hx).1
theorem rg_step {A : List Nat} {size m : Nat} {best b2 b3 : Int} (h0 : m ≠ 0) (hm : m < 18446744073709551616) (h2 : Rg A (size + 1) (wo m (tz m) &&& A.getD (tz m) 0) best b2) (h3 : Rg A size (wo m (tz m)) b2 b3) : Rg A size m best b3 := by
 obtain ⟨_, _, hv⟩ := tz_spec h0 hm
 obtain ⟨a1, a2, a3⟩ := h2
 obtain ⟨c1, c2, c3⟩ := h3
 have sub : ∀ S, Inb (wo m (tz m)) S -> Inb m S := fun S h x hx => by
  have := h x hx
  rw [wo_bit hm hv] at this
  simp at this
  exact this.1
 refine ⟨Int.le_trans a1 c1, fun S hK hI => ?_, ?_⟩
 ·rcases kq_least h0 hm hK hI with h | ⟨T, rfl, hT, hTI⟩
  ·exact c2 S hK h
  ·have := a2 T hT hTI
   simp only [List.length_cons]
   omega
 ·rcases c3 with rfl | ⟨S, h1, h2, h3⟩
  ·rcases a3 with rfl | ⟨T, h1, h2, h3⟩
   ·exact .inl rfl
   ·obtain ⟨k1, k2⟩ := kq_cons h0 hm h1 h2
    exact .inr ⟨_, k1, k2, by simp only [List.length_cons]; omega⟩
  ·exact .inr ⟨S, h1, sub S h2, h3⟩
def mxI (a b : Int) : Int := if a < b then b else a
theorem rg_max {A : List Nat} {size m : Nat} {best b' : Int} (h : Rg A size m (mxI best size) b') : Rg A size m best b' := by
 have hm : best <= mxI best size /\ (mxI best size = best \/ mxI best size = size) := by unfold mxI; split <;> omega
 obtain ⟨a1, a2, a3⟩ := h
 refine ⟨by omega, a2, ?_⟩
 rcases a3 with rfl | h
 ·rcases hm.2 with k | k
  ·left; exact k
  ·right
   exact ⟨[], .nil, fun x hx => by simp at hx, by simp [k]⟩
 ·exact .inr h
theorem asc_sub : ∀ {S T : List Nat}, S.Pairwise (· < ·) -> T.Pairwise (· < ·) -> (∀ x ∈ S, x ∈ T) -> S.length <= T.length
 | [], T, _, _, _ => Nat.zero_le _
 | x :: r, [], _, _, h => absurd (h x List.mem_cons_self) (by simp)
 | x :: r, y :: s, hS, hT, h => by
   obtain ⟨s1, s2⟩ := List.pairwise_cons.1 hS
   obtain ⟨t1, t2⟩ := List.pairwise_cons.1 hT
   by_cases e : x = y
   ·subst e
    have := asc_sub s2 t2 fun z hz => by
     rcases List.mem_cons.1 (h z (List.mem_cons_of_mem _ hz)) with rfl | k
     ·exact absurd (s1 z hz) (by omega)
     ·exact k
    simp only [List.length_cons]; omega
   ·have hx : x ∈ s := (List.mem_cons.1 (h x List.mem_cons_self)).resolve_left e
    have hyx := t1 x hx
    have := asc_sub hS t2 fun z hz => by
     rcases List.mem_cons.1 (h z hz) with rfl | k
     ·rcases List.mem_cons.1 hz with rfl | k
      ·exact absurd rfl e
      ·have := s1 z k; omega
     ·exact k
    simp only [List.length_cons] at this ⊢; omega
theorem kq_bits {A : List Nat} {m : Nat} {S : List Nat} (hm : m < 18446744073709551616) (hK : Kq A S) (hI : Inb m S) : S.length <= ((List.range 64).filter fun j => m.testBit j).length := by
 refine asc_sub (hK.imp fun h => h.1) ((List.pairwise_lt_range).filter _) fun x hx => ?_
 refine List.mem_filter.2 ⟨List.mem_range.2 ?_, hI x hx⟩
 apply Classical.byContradiction
 intro k
 have : m.testBit x = false := Nat.testBit_lt_two_pow (Nat.lt_of_lt_of_le hm (by
  rw [show (18446744073709551616 : Nat) = 2 ^ 64 from rfl]
  exact Nat.pow_le_pow_right (by decide) (by omega)))
 rw [hI x hx] at this; cases this
def cnm (m : Nat) (S : List Nat) : Nat := (S.filter fun x => m.testBit x).length
def ClsI (A : List Nat) (m among free : Nat) : Prop := (∀ x, free.testBit x = true -> among.testBit x = true) /\ ∀ S, Kq A S -> cnm m S = cnm among S \/ (cnm m S = cnm among S + 1 /\ ∀ x ∈ S, free.testBit x = false)
theorem cls_start (A : List Nat) (m : Nat) : ClsI A m m m := ⟨fun _ h => h, fun _ _ => .inl rfl⟩
theorem cnm_wo {m v : Nat} (hm : m < 18446744073709551616) (hv : v < 64) : ∀ {S : List Nat}, S.Pairwise (· < ·) -> cnm m S = cnm (wo m v) S + (if v ∈ S /\ m.testBit v = true then 1 else 0)
 | [], _ => by simp [cnm]
 | x :: r, h => by
   obtain ⟨h1, h2⟩ := List.pairwise_cons.1 h
   have ih := cnm_wo hm hv h2
   unfold cnm at ih ⊢
   have hb := wo_bit hm hv x
   by_cases e : x = v
   ·subst e
    have hr : x ∉ r := fun k => absurd (h1 x k) (by omega)
    simp only [List.filter_cons, hb, hr, List.mem_cons, true_or, true_and, false_and, if_false, Nat.add_zero] at ih ⊢
    by_cases q : m.testBit x = true
    ·simp [q, ih]
    ·simp [q, ih]
   ·have e' : ¬ v = x := fun k => e k.symm
    simp only [List.filter_cons, hb, List.mem_cons, e', false_or] at ih ⊢
    by_cases q : m.testBit x = true
    ·simp [q, e, ih]; omega
    ·simp [q, e, ih]
theorem cls_step {A : List Nat} (hA : Sym A) {m among free : Nat} (ha : among < 18446744073709551616) (hf : free < 18446744073709551616) (h0 : free ≠ 0) (h : ClsI A m among free) {free' : Nat} (hfr : ∀ x, free'.testBit x = (free.testBit x && (decide (x ≠ tz free) && !(A.getD (tz free) 0).testBit x))) : ClsI A m (wo among (tz free)) free' := by
 obtain ⟨_, _, hv⟩ := tz_spec h0 hf
 obtain ⟨b1, _⟩ := tz_bit h0 hf
 obtain ⟨i1, i2⟩ := h
 refine ⟨fun x hx => ?_, fun S hK => ?_⟩
 ·rw [hfr] at hx
  simp at hx
  rw [wo_bit ha hv, i1 x hx.1]
  simp [hx.2.1]
 ·have hc := cnm_wo ha hv (S := S) (hK.imp fun h => h.1)
  by_cases hin : tz free ∈ S
  ·rw [if_pos ⟨hin, i1 _ b1⟩] at hc
   rcases i2 S hK with k | ⟨_, k⟩
   ·right
    refine ⟨by omega, fun x hx => ?_⟩
    rw [hfr]
    by_cases e : x = tz free
    ·simp [e]
    ·have : (A.getD (tz free) 0).testBit x = true := by
      have hp := List.pairwise_iff_getElem.1 hK
      obtain ⟨i, hi, ei⟩ := List.getElem_of_mem hin
      obtain ⟨j, hj, ej⟩ := List.getElem_of_mem hx
      rcases Nat.lt_trichotomy i j with q | q | q
      ·have := (hp i j hi hj q).2; rw [ei, ej] at this; exact this
      ·subst q; exact absurd (ej.symm.trans ei) e
      ·have := (hp j i hj hi q).2; rw [ei, ej] at this; rw [hA]; exact this
     simp only [this, Bool.not_true, Bool.and_false]
   ·have := k _ hin
    rw [b1] at this; cases this
  ·rw [if_neg (fun k => hin k.1)] at hc
   rcases i2 S hK with k | ⟨k1, k2⟩
   ·left; omega
   ·right
    refine ⟨by omega, fun x hx => ?_⟩
    rw [hfr, k2 x hx]; rfl
def BdI (A : List Nat) (m0 n m : Nat) : Prop := ∀ S, Kq A S -> Inb m0 S -> S.length <= n + cnm m S
theorem bd_start (A : List Nat) (m : Nat) : BdI A m 0 m := fun S _ hI => by
 unfold cnm
 rw [List.filter_eq_self.2 fun x hx => hI x hx]
 omega
theorem bd_next {A : List Nat} {m0 n m among : Nat} (h : BdI A m0 n m) (hc : ClsI A m among 0) : BdI A m0 (n + 1) among := fun S hK hI => by
 have h1 := h S hK hI
 rcases hc.2 S hK with k | ⟨k, _⟩ <;> omega
theorem bd_end {A : List Nat} {m0 n : Nat} (h : BdI A m0 n 0) {S : List Nat} (hK : Kq A S) (hI : Inb m0 S) : S.length <= n := by
 have := h S hK hI
 have e : cnm 0 S = 0 := by unfold cnm; rw [List.filter_eq_nil_iff.2 fun x _ => by simp]; rfl
 omega
end Go.BmP
