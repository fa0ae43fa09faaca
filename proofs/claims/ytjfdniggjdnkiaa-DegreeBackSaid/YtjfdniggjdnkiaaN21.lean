/- What mk.Order returns: an order of all nodes. -/
import Derived.Test.YtjfdniggjdnkiaaUseM
import Derived.Test.YtjfdniggjdnkiaaK21
set_option linter.unusedSimpArgs false
set_option linter.unusedVariables false
set_option maxRecDepth 100000
set_option maxHeartbeats 4000000
namespace Go.BmP
open Go.Am Go.Bm
def allN (n : Nat) : List Int := (List.range n).map fun i => ((i : Nat) : Int)
theorem allN_succ (n : Nat) : allN (n + 1) = allN n ++ [(n : Int)] := by simp [allN, List.range_succ]
theorem allN_mem {n : Nat} {x : Int} : x ∈ allN n ↔ 0 <= x /\ x < n := by
 unfold allN
 rw [List.mem_map]
 constructor
 ·rintro ⟨i, h, rfl⟩
  have := List.mem_range.1 h
  omega
 ·intro h
  exact ⟨x.toNat, List.mem_range.2 (by omega), by omega⟩
theorem ins_perm {o : List Int} {v : Nat} (h : o.Perm (allN v)) (i : Nat) : (o.take i ++ (v : Int) :: o.drop i).Perm (allN (v + 1)) := by
 rw [allN_succ]
 refine List.perm_middle.trans ?_
 rw [List.take_append_drop]
 exact (h.cons _).trans (List.perm_append_singleton _ _).symm
theorem ord_round (l : List Int) (hl : l.length <= 9223372036854775807) (N : Nat) (hN : N <= 64) (R : Heap) (hR : Rest R) (v a : Nat) (o : List Int) (hv : v < N) (ho : o.length = v) : ∃ i a', codeL cfgS (R.length + 1) lQqX0 ⟨[(0, .ptr 0 0), (1, .int .i64 N), (5, .own 1 (ints o)), (6, .int .i64 v)], dk l a :: R⟩ = some (.normal, ⟨[(0, .ptr 0 0), (1, .int .i64 N), (5, .own 1 (ints (o.take i ++ (v : Int) :: o.drop i))), (6, .int .i64 ((v + 1 : Nat) : Int))], dk l a' :: R⟩) := by
 have h1 : (v : Int) < N := by omega
 have hw := wrapS (i := v) (by omega)
 have hx := next_run l hl a ((v : Int) + 1) (by omega) R hR
 obtain ⟨b0, b1⟩ := nxV_bd l a (n := (v : Int) + 1) (by omega)
 obtain ⟨i, hi⟩ : ∃ i : Nat, nxV l a ((v : Int) + 1) = (i : Int) := ⟨(nxV l a ((v : Int) + 1)).toNat, by omega⟩
 rw [hi] at hx b1
 refine ⟨i, nxA l a ((v : Int) + 1), ?_⟩
 generalize nxA l a ((v : Int) + 1) = a1 at *
 obtain ⟨r1, r2, r3, r4, r5⟩ := hR
 have h2 : (i : Int) <= v := by omega
 have h3 : i <= v := by omega
 have h4 : i <= 4294967296 := by omega
 have h5 : v - i + 1 <= 4294967296 := by omega
 have h6 : 1 + (v - i) <= 4294967296 := by omega
 have h7 : i + (v - i + 1) <= 4294967296 := by omega
 have h8 : i + (1 + (v - i)) <= 4294967296 := by omega
 have h9 : min i v = i := by omega
 have cons : ∀ x : List Int, AV.int .i64 (v : Int) :: ints x = ints ((v : Int) :: x) := fun _ => rfl
 unfold dk at hx ⊢
 unfold lQqX0
 simp [rQqX0, rQqX1, rQqX2, rQqX3, rQqX4, rQqX5, rQqX6, rQqX7, h1, hw, hx, ho, h2, h3, h4, h5, h6, h7, h8, h9, LIM, ints_take, ints_drop, ints_app, cons, List.length_take, List.length_drop, sQl, iQl, r1, r2, r3, r4, r5, plp, plpL, allB, notBox, swC, swS, seesC, inBox, nle1, blk, eds_length, eds_get, edsAt, edAV, allLeaf_eds, cleanL_eds, cleanL_ints, ints_length, ints_get, intsAt, endL, finB]
 have l1 : (o.drop i).length = v - i := by rw [List.length_drop, ho]
 rw [List.take_take, Nat.min_self, List.take_of_length_le (by omega : (o.drop i).length <= v - i), List.take_of_length_le (by simp; omega)]
theorem ord_loop (l : List Int) (hl : l.length <= 9223372036854775807) (N : Nat) (hN : N <= 64) (R : Heap) (hR : Rest R) : ∀ (k v a : Nat) (o : List Int), v + k = N -> o.Perm (allN v) -> ∃ o' a', codeL cfgS (R.length + 1) (.loop lQqX0) ⟨[(0, .ptr 0 0), (1, .int .i64 N), (5, .own 1 (ints o)), (6, .int .i64 v)], dk l a :: R⟩ = some (.exit 0, ⟨[(0, .ptr 0 0), (1, .int .i64 N), (5, .own 1 (ints o')), (6, .int .i64 N), (10, .bool false)], dk l a' :: R⟩) /\ o'.Perm (allN N)
 | 0, v, a, o, hi, hp => by
   obtain rfl : v = N := by omega
   refine ⟨o, a, loop_exit ?_, hp⟩
   obtain ⟨r1, r2, r3, r4, r5⟩ := hR
   unfold lQqX0 dk
   simp [rQqX0, rQqX1, rQqX2, rQqX3, rQqX4, rQqX5, rQqX6, rQqX7, r1, r2, r3, r4, r5, nle1, blk, eds_length, eds_get, edsAt, edAV, allLeaf_eds, cleanL_eds, cleanL_ints, ints_length, ints_get, intsAt, endL, finB]
 | k + 1, v, a, o, hi, hp => by
   have ho : o.length = v := by rw [hp.length_eq]; simp [allN]
   obtain ⟨i, a1, e1⟩ := ord_round l hl N hN R hR v a o (by omega) ho
   obtain ⟨o', a', e2, hp2⟩ := ord_loop l hl N hN R hR k (v + 1) a1 _ (by omega) (ins_perm hp i)
   exact ⟨o', a', (loop_next e1).trans e2, hp2⟩
theorem mkord_run (l : List Int) (hl : l.length <= 9223372036854775807) (N : Nat) (hN : N <= 64) (R : Heap) (hR : Rest R) (a : Nat) : ∃ o a', callL cfgS nQq [.ptr 0 0, .int .i64 N] (dk l a :: R) = some (.list 1 (ints o), dk l a' :: R) /\ o.Perm (allN N) := by
 obtain ⟨o, a', e, hp⟩ := ord_loop l hl N hN R hR N 0 a [] (by omega) (by simp [allN])
 refine ⟨o, a', ?_, hp⟩
 have ho : o.length = N := by rw [hp.length_eq]; simp [allN]
 rw [nat0, ints_nil] at e
 obtain ⟨r1, r2, r3, r4, r5⟩ := hR
 rw [callL_end oQq sQq (Nat.le_of_ble_eq_true rfl)]
 unfold dk at e ⊢
 unfold qQq cQq
 simp [rQqX0, rQqX1, rQqX2, rQqX3, rQqX4, rQqX5, rQqX6, rQqX7, e, ints_take, finS, plp, swS, r1, r2, r3, r4, r5, nle1, blk, eds_length, eds_get, edsAt, edAV, allLeaf_eds, cleanL_eds, cleanL_ints, ints_length, ints_get, intsAt, endL, finB]
end Go.BmP
