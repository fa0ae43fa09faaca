/- What Mod, slices.Clone and degree.H return. -/
import Derived.Test.YtegmpkeejgflnaaUseM
import Derived.Test.YtegmpkeejgflnaaCfS
import Derived.Test.YtegmpkeejgflnaaDgP1
import Derived.Test.YtegmpkeejgflnaaRunX
import Derived.Test.YtegmpkeejgflnaaGrfP
set_option linter.unusedSimpArgs false
set_option linter.unusedVariables false
set_option maxRecDepth 100000
set_option maxHeartbeats 4000000
namespace Go.BmP
open Go.Am Go.Bm
theorem modI_eq (x k : Int) (h0 : 0 < k) (h1 : k < 4611686018427387904) : (IntKind.i64.wrap (x.tmod k + k)).tmod k = x % k := by
 have e : x % k = (x.tmod k) % k := by
  have := Int.mul_tdiv_add_tmod x k
  conv => lhs; rw [<- this]
  rw [Int.add_comm, Int.add_mul_emod_self_left]
 have h2 := Int.tmod_lt_of_pos x h0
 have h3 : -k < x.tmod k := by
  have := Int.tmod_lt_of_pos (-x) h0
  rw [Int.neg_tmod] at this
  omega
 rw [wrap_id (by omega) (by omega), Int.tmod_eq_emod_of_nonneg (by omega), e, Int.add_emod_right]
theorem modk_run (x k : Int) (h0 : 0 < k) (h1 : k < 4611686018427387904) : callL cfgS nQA [.int .i64 x, .int .i64 k] [] = some (.int .i64 (x % k), []) := by
 rw [callL_end oQA sQA (Nat.le_of_ble_eq_true rfl), <- modI_eq x k h0 h1]
 have hk : ¬ k = 0 := by omega
 unfold qQA cQA
 simp [rQAX0, rQAX1, hk, blk, eds_length, eds_get, edsAt, edAV, allLeaf_eds, cleanL_eds, cleanL_ints, ints_length, ints_get, intsAt, endL, finB]
theorem cloneI_run (L : List Int) (hl : L.length < 1000000) : callL cfgS nQx [.list 1 (ints L)] [] = some (.own 1 (ints L), []) := by
 cases L with
 | nil => exact callL_orc (by unfold orcA; rw [oQx]; rfl)
 | cons x r =>
   have hl' : r.length + 1 <= 4294967296 := by simp at hl; omega
   rw [callL_ofA (by unfold orcA; rw [oQx]; rfl) sQx (Nat.le_of_ble_eq_true rfl)]
   unfold qQx cQx
   simp [rQxX0, rQxX1, rQxX2, rQxX3, ints_cons, ints_length, hl', LIM, endL, finB, allLocal, local_, takeR, takeV, ints_take, List.take_take, Nat.min_self, List.take_length, AV.cells, AV.leaf]
theorem srtG_ints (l : List Int) (h : l.length <= 4294967296) : srtG 1 (ints l) [] = some (ints (isort l), none) := by
 unfold srtG
 rw [if_pos (by rw [ints_length]; exact h)]
 show (match intsOf (l.map (AV.int .i64)) with | some zs => some ((isort zs).map (AV.int .i64), none) | none => none) = _
 rw [intsOf_ints]
 rfl
theorem h_loop (L S : List Int) (len : S.length = L.length) (asc : S.Pairwise (· <= ·)) (cp : ∀ t, cntG S t = cntG L t) (hl : L.length < 1000000) : ∀ k h : Nat, h + k = L.length + 1 -> codeL cfgS 0 (.loop lQlX0) ⟨[(0, .own 1 (ints S)), (3, .int .i64 h)], []⟩ = some (.exit 0, ⟨[(0, .own 1 (ints S)), (3, .int .i64 (hUp L k h : Nat)), (23, .bool false)], []⟩)
 | 0, h, e => by
   have q1 : ¬ (h : Int) < S.length := by omega
   exact loop_exit (by unfold lQlX0 hUp; simp [rQlX0, rQlX1, rQlX2, rQlX3, rQlX4, rQlX5, rQlX6, q1, idx, blk, eds_length, eds_get, edsAt, edAV, allLeaf_eds, cleanL_eds, cleanL_ints, ints_length, ints_get, intsAt, endL, finB])
 | k + 1, h, e => by
   unfold hUp
   by_cases q : h < L.length
   ·obtain ⟨i, hi⟩ : ∃ i, i + h + 1 = S.length := ⟨S.length - h - 1, by omega⟩
    have hiS : i < S.length := by omega
    have ti := top_iff asc h i hiS hi
    rw [cp] at ti
    have q1 : (h : Int) < S.length := by omega
    have w1 : IntKind.i64.wrap ((S.length : Int) - 1) = (S.length : Int) - 1 := wrap_id (by omega) (by omega)
    have w2 : IntKind.i64.wrap ((S.length : Int) - 1 - h) = (i : Int) := by rw [wrap_id (by omega) (by omega)]; omega
    have w3 := wrapS (i := h) (by omega)
    have i1 : (i : Int) < S.length := by omega
    by_cases r : (h : Int) < S[i]
    ·rw [if_pos (ti.1 r)]
     exact (loop_next (by unfold lQlX0; simp [rQlX0, rQlX1, rQlX2, rQlX3, rQlX4, rQlX5, rQlX6, q1, w1, w2, w3, i1, r, hiS, idx, blk, eds_length, eds_get, edsAt, edAV, allLeaf_eds, cleanL_eds, cleanL_ints, ints_length, ints_get, intsAt, endL, finB])).trans (h_loop L S len asc cp hl k (h + 1) (by omega))
    ·rw [if_neg (fun x => r (ti.2 x))]
     exact loop_exit (by unfold lQlX0; simp [rQlX0, rQlX1, rQlX2, rQlX3, rQlX4, rQlX5, rQlX6, q1, w1, w2, w3, i1, r, hiS, idx, blk, eds_length, eds_get, edsAt, edAV, allLeaf_eds, cleanL_eds, cleanL_ints, ints_length, ints_get, intsAt, endL, finB])
   ·have q1 : ¬ (h : Int) < S.length := by omega
    have := cntG_le L ((h : Int) + 1)
    rw [if_neg (by omega)]
    exact loop_exit (by unfold lQlX0; simp [rQlX0, rQlX1, rQlX2, rQlX3, rQlX4, rQlX5, rQlX6, q1, idx, blk, eds_length, eds_get, edsAt, edAV, allLeaf_eds, cleanL_eds, cleanL_ints, ints_length, ints_get, intsAt, endL, finB])
theorem h_run (L : List Int) (hl : L.length < 1000000) : callL cfgS nQl [.list 1 (ints L)] [] = some (.int .i64 (hI L : Nat), []) := by
 rw [callL_end oQl sQl (Nat.le_of_ble_eq_true rfl)]
 have c := cloneI_run L hl
 have s := srtG_ints L (by omega)
 have len := isort_length L
 have e := h_loop L (isort L) len (isort_asc L) (fun t => cntG_perm (isort_perm L) t) hl (L.length + 1) 0 (by omega)
 rw [nat0] at e
 change _ = some (Ex.exit 0, (⟨[(0, .own 1 (ints (isort L))), (3, .int .i64 (hI L : Nat)), (23, .bool false)], []⟩ : St)) at e
 have tk : (ints L).take L.length = ints L := by rw [ints_take, List.take_length]
 have dp : (ints L).drop L.length = [] := by rw [List.drop_of_length_le (by rw [ints_length]; exact Nat.le_refl _)]
 generalize isort L = S at *
 generalize hI L = h at *
 unfold qQl cQl
 simp [rQlX0, rQlX1, rQlX2, rQlX3, rQlX4, rQlX5, rQlX6, c, s, e, tk, dp, ints_length, cleanL_ints, sQx, iQx, lQx, iQu, lQu, blk, eds_length, eds_get, edsAt, edAV, allLeaf_eds, cleanL_eds, cleanL_ints, ints_length, ints_get, intsAt, endL, finB]
end Go.BmP
