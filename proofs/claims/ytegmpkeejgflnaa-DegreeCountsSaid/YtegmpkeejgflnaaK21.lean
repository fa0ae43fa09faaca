/- What functions of cohesionmake return: Few, New, Mod, Next, Set. -/
import Derived.Test.YtegmpkeejgflnaaUseM
import Derived.Test.YtegmpkeejgflnaaCfS
import Derived.Test.YtegmpkeejgflnaaGrfP
set_option linter.unusedSimpArgs false
set_option linter.unusedVariables false
set_option maxRecDepth 100000
set_option maxHeartbeats 4000000
namespace Go.BmP
open Go.Am Go.Bm
theorem nle1 (n : Nat) : (n + 1 <= n) ↔ False := ⟨fun h => by omega, False.elim⟩
def dk (l : List Int) (at_ : Nat) : Blk := some [.list 1 (ints l), .int .i64 at_]
theorem modI_eq (x k : Int) (h0 : 0 < k) (h1 : k < 4611686018427387904) : (IntKind.i64.wrap (x.tmod k + k)).tmod k = x % k := by
 have e : x % k = (x.tmod k) % k := by
  have := Int.mul_tdiv_add_tmod x k
  conv => lhs; rw [<- this]
  rw [Int.add_comm, Int.add_mul_emod_self_left]
 have h2 := Int.tmod_lt_of_pos x h0
 have h3 : -k < x.tmod k := by
  have := Int.tmod_lt_of_pos (-x) h0
  rw [Int.neg_tmod] at this
  omega
 rw [wrap_id (by omega) (by omega), Int.tmod_eq_emod_of_nonneg (by omega), e, Int.add_emod_right]
theorem modk_run (x k : Int) (h0 : 0 < k) (h1 : k < 4611686018427387904) : callL cfgS nQA [.int .i64 x, .int .i64 k] [] = some (.int .i64 (x % k), []) := by
 rw [callL_end oQA sQA (Nat.le_of_ble_eq_true rfl), <- modI_eq x k h0 h1]
 have hk : ¬ k = 0 := by omega
 unfold qQA cQA
 simp [rQAX0, rQAX1, hk, blk, eds_length, eds_get, edsAt, edAV, allLeaf_eds, cleanL_eds, cleanL_ints, ints_length, ints_get, intsAt, endL, finB]
def nxV (l : List Int) (a : Nat) (n : Int) : Int := if n < 1 then 0 else if l.length <= a then 0 else l.getD a 0 % n
def nxA (l : List Int) (a : Nat) (n : Int) : Nat := if n < 1 then a else if l.length <= a then a else a + 1
theorem nxV_bd (l : List Int) (a : Nat) {n : Int} (h : 1 <= n) : 0 <= nxV l a n /\ nxV l a n < n := by
 unfold nxV
 rw [if_neg (by omega)]
 split
 ·omega
 ·exact ⟨Int.emod_nonneg _ (by omega), Int.emod_lt_of_pos _ (by omega)⟩
def Rest (R : Heap) : Prop := (∀ g, mapH g R = R) /\ allB R = true /\ (∀ p b, borH p b R = none) /\ (∀ f, anyH f R = false) /\ ∀ p b, seesB p b R = []
theorem next_run0 (l : List Int) (hl : l.length <= 9223372036854775807) (a : Nat) (n : Int) (hn : n < 4611686018427387904) (R : Heap) (hR : Rest R) : callL cfgS nQo [.ptr 0 0, .int .i64 n] (dk l a :: R) = some (.int .i64 (nxV l a n), dk l (nxA l a n) :: R) := by
 obtain ⟨r1, r2, r3, r4, r5⟩ := hR
 rw [callL_end oQo sQo (Nat.le_of_ble_eq_true rfl)]
 unfold qQo cQo nxV nxA dk
 by_cases h0 : n < 1
 ·simp [rQoX0, rQoX1, rQoX2, rQoX3, rQoX4, rQoX5, h0, finS, plp, swS, r1, r2, r3, r4, r5, nle1, blk, eds_length, eds_get, edsAt, edAV, allLeaf_eds, cleanL_eds, cleanL_ints, ints_length, ints_get, intsAt, endL, finB]
 ·have h0' : ¬ n < 1 := h0
  by_cases h1 : l.length <= a
  ·have h1' : (l.length : Int) <= a := by omega
   simp [rQoX0, rQoX1, rQoX2, rQoX3, rQoX4, rQoX5, h0, h1, h1', finS, plp, swS, r1, r2, r3, r4, r5, nle1, blk, eds_length, eds_get, edsAt, edAV, allLeaf_eds, cleanL_eds, cleanL_ints, ints_length, ints_get, intsAt, endL, finB]
  ·have h1' : ¬ (l.length : Int) <= a := by omega
   have h2 : a < l.length := by omega
   have h2' : (a : Int) < l.length := by omega
   have hw := wrapS (i := a) (by omega)
   have hm := modk_run l[a] n (by omega) hn
   simp [rQoX0, rQoX1, rQoX2, rQoX3, rQoX4, rQoX5, h0, h1, h1', h2, h2', hw, hm, idx, sQA, iQA, lQA, finS, plp, swS, r1, r2, r3, r4, r5, nle1, blk, eds_length, eds_get, edsAt, edAV, allLeaf_eds, cleanL_eds, cleanL_ints, ints_length, ints_get, intsAt, endL, finB]
theorem next_run (l : List Int) (hl : l.length <= 9223372036854775807) (a : Nat) (n : Int) (hn : n < 4611686018427387904) (R : Heap) (hR : Rest R) : callL cfgS nQo [.ptr 0 0, .int .i64 n] (dk l a :: R) = some (.int .i64 (nxV l a n), dk l (nxA l a n) :: R) := next_run0 l hl a n hn R hR
end Go.BmP
