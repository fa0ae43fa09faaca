/- ref09.H is the same number as degree.H. -/
import Derived.Test.YtegmpkeejgflnaaUseM
import Derived.Test.YtegmpkeejgflnaaDgT
set_option linter.unusedSimpArgs false
set_option linter.unusedVariables false
set_option maxRecDepth 100000
set_option maxHeartbeats 8000000
namespace Go.BmP
open Go.Am Go.Bm
theorem hI_iff (L : List Int) (j : Nat) : j + 1 <= cntG L ((j : Int) + 1) ↔ j < hI L := by
 obtain ⟨a, b⟩ := hI_spec L
 constructor
 ·intro h
  by_cases q : j < hI L
  ·exact q
  ·have := cntG_anti (L := L) (t := (hI L : Int) + 1) (u := (j : Int) + 1) (by omega)
   omega
 ·exact a j
theorem desc_iff (L : List Int) (j : Nat) (h : j < ((isort L).reverse).length) : (j : Int) < ((isort L).reverse)[j] ↔ j < hI L := by
 have hl : j < (isort L).length := by rwa [List.length_reverse] at h
 have t := top_iff (isort_asc L) j ((isort L).length - 1 - j) (by omega) (by omega)
 rw [List.getElem_reverse, t, cntG_perm (isort_perm L), hI_iff]
theorem rh9_loop (L : List Int) (hL : L.length < 1000000) : ∀ n i : Nat, i + n = L.length -> codeL cfgS 0 (.loop lQmX0) ⟨[(3, .int .i64 ((min i (hI L) : Nat) : Int)), (7, .list 1 (ints (isort L).reverse)), (8, .int .i64 L.length), (9, .int .i64 i)], []⟩ = some (.exit 0, ⟨[(3, .int .i64 (hI L : Nat)), (7, .list 1 (ints (isort L).reverse)), (8, .int .i64 L.length), (9, .int .i64 L.length), (10, .bool false)], []⟩)
 | 0, i, h => by
   have e : i = L.length := by omega
   have := hI_le L
   rw [e, show min L.length (hI L) = hI L by omega]
   refine loop_exit ?_
   unfold lQmX0
   generalize ints (isort L).reverse = F
   simp [rQmX0, rQmX1, rQmX2, rQmX3, rQmX4, rQmX5, rQmX6, rQmX7, rQmX8, blk, eds_length, eds_get, edsAt, edAV, allLeaf_eds, cleanL_eds, cleanL_ints, ints_length, ints_get, intsAt, endL, finB]
 | n + 1, i, h => by
   refine (loop_next ?_).trans (rh9_loop L hL n (i + 1) (by omega))
   have hr : ((isort L).reverse).length = L.length := by rw [List.length_reverse, isort_length]
   have d := desc_iff L i (by omega)
   have hle := hI_le L
   have i1 : (i : Int) < L.length := by omega
   have w := wrapS (i := i) (by omega)
   have hi : i < ((isort L).reverse).length := by omega
   have g : ∀ h, (ints (isort L).reverse)[i]'h = .int .i64 ((isort L).reverse)[i] := fun h => intsAt _ _ _
   have g1 : (ints (isort L).reverse)[i]? = some (.int .i64 ((isort L).reverse)[i]) := by rw [ints_get, List.getElem?_eq_getElem hi]; rfl
   have l1 : (ints (isort L).reverse).length = L.length := by rw [ints_length, hr]
   generalize ((isort L).reverse)[i] = x at *
   generalize ints (isort L).reverse = F at *
   have hi2 : i < L.length := by omega
   unfold lQmX0
   by_cases q : (i : Int) < x
   ·have e : min (i + 1) (hI L) = i + 1 := by have := d.1 q; omega
    have q1 : ((i + 1 : Nat) : Int) <= x := by omega
    have q2 : (i : Int) + 1 <= x := by omega
    rw [e]
    simp [rQmX0, rQmX1, rQmX2, rQmX3, rQmX4, rQmX5, rQmX6, rQmX7, rQmX8, i1, hi2, w, q1, q2, g, g1, l1, idx, blk, eds_length, eds_get, edsAt, edAV, allLeaf_eds, cleanL_eds, cleanL_ints, ints_length, ints_get, intsAt, endL, finB]
   ·have e : min (i + 1) (hI L) = min i (hI L) := by
     have : ¬ i < hI L := fun y => q (d.2 y)
     omega
    have q1 : ¬ ((i + 1 : Nat) : Int) <= x := by omega
    have q2 : ¬ (i : Int) + 1 <= x := by omega
    rw [e]
    generalize min i (hI L) = m
    simp [rQmX0, rQmX1, rQmX2, rQmX3, rQmX4, rQmX5, rQmX6, rQmX7, rQmX8, i1, hi2, w, q1, q2, g, g1, l1, idx, blk, eds_length, eds_get, edsAt, edAV, allLeaf_eds, cleanL_eds, cleanL_ints, ints_length, ints_get, intsAt, endL, finB]
theorem rh9_run (L : List Int) (hL : L.length < 1000000) : callL cfgS nQm [.list 1 (ints L)] [] = some (.int .i64 (hI L : Nat), []) := by
 rw [callL_end oQm sQm (Nat.le_of_ble_eq_true rfl)]
 have f := fall_run L hL
 have lp := rh9_loop L hL L.length 0 (by omega)
 rw [nat0, show min 0 (hI L) = 0 by omega, nat0] at lp
 have l1 : (ints (isort L).reverse).length = L.length := by rw [ints_length, List.length_reverse, isort_length]
 have pr := plL_ints (isort L).reverse
 generalize ints (isort L).reverse = F at *
 unfold qQm cQm
 simp [rQmX0, rQmX1, rQmX2, rQmX3, rQmX4, rQmX5, rQmX6, rQmX7, rQmX8, f, lp, l1, pr, ints_length, plL, pl, sQw, iQw, lQw, blk, eds_length, eds_get, edsAt, edAV, allLeaf_eds, cleanL_eds, cleanL_ints, ints_length, ints_get, intsAt, endL, finB]
end Go.BmP
