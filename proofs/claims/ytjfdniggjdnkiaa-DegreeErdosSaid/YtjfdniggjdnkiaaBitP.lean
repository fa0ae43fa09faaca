/- Sets of nodes as bits: plain facts. -/
import Derived.Test.YtjfdniggjdnkiaaSpc
import Derived.Lib.TrailingZeros
import Derived.Laws.BitsAllLaws
set_option linter.unusedVariables false
set_option linter.unusedSimpArgs false
namespace Go.Bm
open Go.Am
/-- The lowest bit. -/
def tz (x : Nat) : Nat := Lib.ctz 64 x
theorem tz_spec {x : Nat} (h0 : x ≠ 0) (h : x < 18446744073709551616) : ∃ m, x = 2 ^ tz x * (2 * m + 1) ∧ tz x < 64 := by
  have := Lib.ctzFrom_spec 64 x (by omega) h
  unfold tz Lib.ctz
  rw [if_neg h0]
  exact this
theorem odd_bit (k m j : Nat) : (2 ^ k * (2 * m + 1)).testBit j = if j < k then false else if j = k then true else m.testBit (j - k - 1) := by
  rw [Nat.mul_comm, Nat.testBit_mul_two_pow]
  by_cases h : j < k
  · simp [h, show ¬ k ≤ j by omega]
  · rw [if_neg h]
    have hk : k ≤ j := by omega
    by_cases e : j = k
    · subst e; simp [Nat.testBit_zero]
    · rw [if_neg e]
      obtain ⟨d, hd⟩ : ∃ d, j - k = d + 1 := ⟨j - k - 1, by omega⟩
      rw [hd, Nat.testBit_succ, show (2 * m + 1) / 2 = m by omega]
      simp [hk]
theorem pred_bit (k m j : Nat) : (2 ^ k * (2 * m + 1) - 1).testBit j = if j < k then true else if j = k then false else m.testBit (j - k - 1) := by
  have e : 2 ^ k * (2 * m + 1) - 1 = 2 ^ (k + 1) * m + (2 ^ k - 1) := by
    have : 0 < 2 ^ k := Nat.two_pow_pos k
    rw [Nat.pow_succ, Nat.mul_add, Nat.mul_one, ← Nat.mul_assoc]
    omega
  have hp : 0 < 2 ^ k := Nat.two_pow_pos k
  rw [e, Nat.testBit_two_pow_mul_add _ (by rw [Nat.pow_succ]; omega)]
  by_cases h : j < k
  · rw [if_pos (by omega), if_pos h, Nat.testBit_two_pow_sub_one]; simp [h]
  · rw [if_neg h]
    by_cases e2 : j = k
    · subst e2
      rw [if_pos (by omega), if_pos rfl, Nat.testBit_two_pow_sub_one]; simp
    · rw [if_neg (by omega), if_neg e2, show j - (k + 1) = j - k - 1 by omega]
theorem drop_bit {x : Nat} (h0 : x ≠ 0) (h : x < 18446744073709551616) (j : Nat) : (x &&& (x - 1)).testBit j = (x.testBit j && decide (j ≠ tz x)) := by
  obtain ⟨m, hm, _⟩ := tz_spec h0 h
  rw [Nat.testBit_and]
  conv => lhs; rw [hm]
  conv => rhs; rw [hm]
  rw [odd_bit, pred_bit]
  have hz : tz (2 ^ tz x * (2 * m + 1)) = tz x := by rw [← hm]
  rw [hz]
  by_cases h : j < tz x
  · simp [h]
  · by_cases e : j = tz x
    · simp [e]
    · simp [h, e]
theorem tz_bit {x : Nat} (h0 : x ≠ 0) (h : x < 18446744073709551616) : x.testBit (tz x) = true ∧ ∀ j, j < tz x → x.testBit j = false := by
  obtain ⟨m, hm, _⟩ := tz_spec h0 h
  constructor
  · conv => lhs; arg 1; rw [hm]
    rw [odd_bit]; simp
  · intro j hj
    conv => lhs; arg 1; rw [hm]
    rw [odd_bit]; simp [hj]
theorem drop_lt {x : Nat} (h0 : x ≠ 0) : x &&& (x - 1) < x := by
  have := Nat.and_le_right (n := x) (m := x - 1)
  omega
/-- The numbers of the bits of a number, rising. -/
def bitL (m : Nat) : List Int := ((List.range 64).filter fun j => m.testBit j).map fun j => ((j : Nat) : Int)
theorem bitL_mem {m : Nat} {x : Int} : x ∈ bitL m ↔ ∃ j : Nat, x = j ∧ j < 64 ∧ m.testBit j = true := by
  unfold bitL
  simp only [List.mem_map, List.mem_filter, List.mem_range]
  constructor
  · rintro ⟨j, ⟨h1, h2⟩, rfl⟩; exact ⟨j, rfl, h1, h2⟩
  · rintro ⟨j, rfl, h1, h2⟩; exact ⟨j, ⟨h1, h2⟩, rfl⟩
theorem bitL_up (m : Nat) : Up (bitL m) := by
  unfold bitL Up
  refine List.Pairwise.map _ (fun a b h => by omega) (List.Pairwise.filter _ List.pairwise_lt_range)
theorem bitL_zero : bitL 0 = [] := by simp [bitL]
theorem bitL_len (m : Nat) : (bitL m).length ≤ 64 := by
  unfold bitL
  rw [List.length_map]
  exact Nat.le_trans (List.length_filter_le _ _) (by simp)
theorem bitL_step {m : Nat} (h0 : m ≠ 0) (h : m < 18446744073709551616) : bitL m = (tz m : Int) :: bitL (m &&& (m - 1)) := by
  obtain ⟨b1, b2⟩ := tz_bit h0 h
  obtain ⟨_, _, hlt⟩ := tz_spec h0 h
  refine up_ext (bitL_up m) (List.pairwise_cons.2 ⟨fun x hx => ?_, bitL_up _⟩) fun x => ?_
  · obtain ⟨j, rfl, h1, h2⟩ := bitL_mem.1 hx
    rw [drop_bit h0 h, Bool.and_eq_true, decide_eq_true_eq] at h2
    have : ¬ j < tz m := fun k => by rw [b2 j k] at h2; simp at h2
    omega
  · rw [List.mem_cons, bitL_mem, bitL_mem]
    constructor
    · rintro ⟨j, rfl, h1, h2⟩
      by_cases e : j = tz m
      · left; rw [e]
      · right; exact ⟨j, rfl, h1, by rw [drop_bit h0 h, h2]; simp [e]⟩
    · rintro (rfl | ⟨j, rfl, h1, h2⟩)
      · exact ⟨tz m, rfl, hlt, b1⟩
      · rw [drop_bit h0 h, Bool.and_eq_true] at h2
        exact ⟨j, rfl, h1, h2.1⟩
/-- Numbers as bits, put into m. -/
def mskF (l : List Int) (m : Nat) : Nat := l.foldl (fun m v => m ||| 2 ^ v.toNat) m
def msk (l : List Int) : Nat := mskF l 0
theorem mskF_bit : ∀ (l : List Int) (m j : Nat), (∀ v ∈ l, 0 ≤ v) → (mskF l m).testBit j = (m.testBit j || decide ((j : Int) ∈ l))
  | [], m, j, _ => by simp [mskF]
  | v :: r, m, j, h => by
    have ih := mskF_bit r (m ||| 2 ^ v.toNat) j (fun w hw => h w (by simp [hw]))
    have hv := h v (by simp)
    unfold mskF at ih ⊢
    rw [List.foldl_cons, ih, Nat.testBit_or, Nat.testBit_two_pow]
    have e : decide (v.toNat = j) = decide ((j : Int) = v) := by rw [Bool.eq_iff_iff, decide_eq_true_eq, decide_eq_true_eq]; omega
    rw [e, Bool.or_assoc]
    congr 1
    rw [Bool.eq_iff_iff]; simp
theorem mskF_lt : ∀ (l : List Int) (m : Nat), (∀ v ∈ l, v < 64) → m < 18446744073709551616 → mskF l m < 18446744073709551616
  | [], m, _, h => h
  | v :: r, m, hv, h => by
    have h2 : 2 ^ v.toNat < 2 ^ 64 := Nat.pow_lt_pow_right (by decide) (by have := hv v (by simp); omega)
    exact mskF_lt r _ (fun w hw => hv w (by simp [hw])) (Nat.or_lt_two_pow (n := 64) h h2)
theorem msk_bit {l : List Int} {j : Nat} (h : ∀ v ∈ l, 0 ≤ v) : (msk l).testBit j = decide ((j : Int) ∈ l) := by
  unfold msk; rw [mskF_bit l 0 j h]; simp
theorem msk_lt {l : List Int} (h : ∀ v ∈ l, v < 64) : msk l < 18446744073709551616 := mskF_lt l 0 h (by decide)
theorem bitL_msk {l : List Int} (hu : Up l) (h : ∀ v ∈ l, 0 ≤ v ∧ v < 64) : bitL (msk l) = l := by
  refine up_ext (bitL_up _) hu fun x => ?_
  rw [bitL_mem]
  constructor
  · rintro ⟨j, rfl, _, hj⟩
    rw [msk_bit (fun v hv => (h v hv).1)] at hj
    simpa using hj
  · intro hx
    obtain ⟨h0, h1⟩ := h x hx
    refine ⟨x.toNat, by omega, by omega, ?_⟩
    rw [msk_bit (fun v hv => (h v hv).1)]
    simpa [show ((x.toNat : Nat) : Int) = x by omega] using hx
/-! Operations of uint64 -/
theorem wrapU {n : Nat} (h : n < 18446744073709551616) : IntKind.u64.wrap (n : Int) = (n : Int) := by rw [IntKind.wrap_u64]; omega
theorem shlU {v : Int} (h0 : 0 ≤ v) (h1 : v < 64) : IntKind.u64.wrap (1 * 2 ^ (min v.toNat 64)) = ((2 ^ v.toNat : Nat) : Int) := by
  have e : min v.toNat 64 = v.toNat := by omega
  have h2 : 2 ^ v.toNat < 2 ^ 64 := Nat.pow_lt_pow_right (by decide) (by omega)
  rw [e, Int.one_mul, show ((2 : Int) ^ v.toNat) = ((2 ^ v.toNat : Nat) : Int) by simp, wrapU h2]
theorem decU {m : Nat} (h0 : m ≠ 0) (h : m < 18446744073709551616) : IntKind.u64.wrap ((m : Int) - 1) = ((m - 1 : Nat) : Int) := by
  rw [show (m : Int) - 1 = ((m - 1 : Nat) : Int) by omega, wrapU (by omega)]
end Go.Bm
