/- Sets of nodes as bits: plain facts. -/
import Derived.Test.YtldlafnfkiiflaaDoorSpc
import Derived.Lib.TrailingZeros
import Derived.Laws.BitsAllLaws
set_option linter.unusedVariables false
set_option linter.unusedSimpArgs false
namespace Go.Bm
open Go.Am
def tz (x : Nat) : Nat := Lib.ctz 64 x
theorem tz_spec {x : Nat} (h0 : x ≠ 0) (h : x < 18446744073709551616) : ∃ m, x = 2 ^ tz x * (2 * m + 1) /\ tz x < 64 := by
 have := Lib.ctzFrom_spec 64 x (by omega) h
 unfold tz Lib.ctz
 rw [if_neg h0]
 exact this
theorem odd_bit (k m j : Nat) : (2 ^ k * (2 * m + 1)).testBit j = if j < k then false else if j = k then true else m.testBit (j - k - 1) := by
 rw [Nat.mul_comm, Nat.testBit_mul_two_pow]
 by_cases h : j < k
 ·simp [h, show ¬ k <= j by omega]
 ·rw [if_neg h]
  have hk : k <= j := by omega
  by_cases e : j = k
  ·subst e; simp [Nat.testBit_zero]
  ·rw [if_neg e]
   obtain ⟨d, hd⟩ : ∃ d, j - k = d + 1 := ⟨j - k - 1, by omega⟩
   rw [hd, Nat.testBit_succ, show (2 * m + 1) / 2 = m by omega]
   simp [hk]
theorem pred_bit (k m j : Nat) : (2 ^ k * (2 * m + 1) - 1).testBit j = if j < k then true else if j = k then false else m.testBit (j - k - 1) := by
 have e : 2 ^ k * (2 * m + 1) - 1 = 2 ^ (k + 1) * m + (2 ^ k - 1) := by
  have : 0 < 2 ^ k := Nat.two_pow_pos k
  rw [Nat.pow_succ, Nat.mul_add, Nat.mul_one, <- Nat.mul_assoc]
  omega
 have hp : 0 < 2 ^ k := Nat.two_pow_pos k
 rw [e, Nat.testBit_two_pow_mul_add _ (by rw [Nat.pow_succ]; omega)]
 by_cases h : j < k
 ·rw [if_pos (by omega), if_pos h, Nat.testBit_two_pow_sub_one]; simp [h]
 ·rw [if_neg h]
  by_cases e2 : j = k
  ·subst e2
   rw [if_pos (by omega), if_pos rfl, Nat.testBit_two_pow_sub_one]; simp
  ·rw [if_neg (by omega), if_neg e2, show j - (k + 1) = j - k - 1 by omega]
theorem drop_bit {x : Nat} (h0 : x ≠ 0) (h : x < 18446744073709551616) (j : Nat) : (x &&& (x - 1)).testBit j = (x.testBit j && decide (j ≠ tz x)) := by
 obtain ⟨m, hm, _⟩ := tz_spec h0 h
 rw [Nat.testBit_and]
 conv => lhs; rw [hm]
 conv => rhs; rw [hm]
 rw [odd_bit, pred_bit]
 have hz : tz (2 ^ tz x * (2 * m + 1)) = tz x := by rw [<- hm]
 rw [hz]
 by_cases h : j < tz x
 ·simp [h]
 ·by_cases e : j = tz x
  ·simp [e]
  ·simp [h, e]
theorem tz_bit {x : Nat} (h0 : x ≠ 0) (h : x < 18446744073709551616) : x.testBit (tz x) = true /\ ∀ j, j < tz x -> x.testBit j = false := by
 obtain ⟨m, hm, _⟩ := tz_spec h0 h
 constructor
 ·conv => lhs; arg 1; rw [hm]
  rw [odd_bit]; simp
 ·intro j hj
  conv => lhs; arg 1; rw [hm]
  rw [odd_bit]; simp [hj]
theorem drop_lt {x : Nat} (h0 : x ≠ 0) : x &&& (x - 1) < x := by
 have := Nat.and_le_right (n := x) (m := x - 1)
 omega
def bitL (m : Nat) : List Int := ((List.range 64).filter fun j => m.testBit j).map fun j => ((j : Nat) : Int)
def mskF (l : List Int) (m : Nat) : Nat := l.foldl (fun m v => m ||| 2 ^ v.toNat) m
def msk (l : List Int) : Nat := mskF l 0
/-! Operations of uint64 -/
theorem wrapU {n : Nat} (h : n < 18446744073709551616) : IntKind.u64.wrap (n : Int) = (n : Int) := by rw [IntKind.wrap_u64]; omega
theorem shlU {v : Int} (h0 : 0 <= v) (h1 : v < 64) : IntKind.u64.wrap (1 * 2 ^ (min v.toNat 64)) = ((2 ^ v.toNat : Nat) : Int) := by
 have e : min v.toNat 64 = v.toNat := by omega
 have h2 : 2 ^ v.toNat < 2 ^ 64 := Nat.pow_lt_pow_right (by decide) (by omega)
 rw [e, Int.one_mul, show ((2 : Int) ^ v.toNat) = ((2 ^ v.toNat : Nat) : Int) by simp, wrapU h2]
theorem decU {m : Nat} (h0 : m ≠ 0) (h : m < 18446744073709551616) : IntKind.u64.wrap ((m : Int) - 1) = ((m - 1 : Nat) : Int) := by
 rw [show (m : Int) - 1 = ((m - 1 : Nat) : Int) by omega, wrapU (by omega)]
end Go.Bm
