/- What maxclique.longest returns: the greater one of what it is given and the size of a largest clique. -/
import Derived.Test.YtldlafnfkiiflaaDoorUseM
import Derived.Test.YtldlafnfkiiflaaDoorMxC
set_option linter.unusedSimpArgs false
set_option linter.unusedVariables false
set_option maxRecDepth 100000
set_option maxHeartbeats 8000000
namespace Go.BmP
open Go.Am Go.Bm
def lgF : AV := .func (.func nQB) [] [.ptr 1 0, .ptr 0 0, .ptr 2 0]
def lH (A : List Nat) (b : Int) : Heap := [some [.list 1 (us A)], some [.int .i64 b], some [lgF]]
def lE (m : Nat) (s : Int) (x : Env) : Env := (0, .int .u64 (m : Nat)) :: (1, .int .i64 s) :: (2, .ptr 1 0) :: (3, .ptr 0 0) :: (4, .ptr 2 0) :: x
theorem lg_max (A : List Nat) (m : Nat) (s b : Int) : codeL cfgS 3 (.reg rQBX0 false [] [0, 1, 2, 3, 4]) ⟨lE m s [], lH A b⟩ = some (.normal, ⟨lE m s [], lH A (mxI b s)⟩) := by
 unfold lE lH lgF mxI
 generalize us A = AA
 generalize (m : Int) = X
 by_cases k : b < s
 ·simp [rQBX0, rQBX1, rQBX2, rQBX3, rQBX4, rQBX5, k, blk, eds_length, eds_get, edsAt, edAV, allLeaf_eds, cleanL_eds, cleanL_ints, ints_length, ints_get, intsAt, endL, finB]
 ·simp [rQBX0, rQBX1, rQBX2, rQBX3, rQBX4, rQBX5, k, blk, eds_length, eds_get, edsAt, edAV, allLeaf_eds, cleanL_eds, cleanL_ints, ints_length, ints_get, intsAt, endL, finB]
theorem lg_z (A : List Nat) (s b : Int) : codeL cfgS 3 (.reg rQBX1 false [] [0, 1, 2, 3, 4, 12]) ⟨lE 0 s [], lH A b⟩ = some (.normal, ⟨lE 0 s [(12, .bool false)], lH A b⟩) := by
 unfold lE lH lgF
 generalize us A = AA
 simp [rQBX0, rQBX1, rQBX2, rQBX3, rQBX4, rQBX5, nat0, blk, eds_length, eds_get, edsAt, edAV, allLeaf_eds, cleanL_eds, cleanL_ints, ints_length, ints_get, intsAt, endL, finB]
theorem lg_nz (A : List Nat) {m : Nat} (s b : Int) (h : m ≠ 0) : codeL cfgS 3 (.reg rQBX1 false [] [0, 1, 2, 3, 4, 12]) ⟨lE m s [], lH A b⟩ = some (.normal, ⟨lE m s [(12, .bool true)], lH A b⟩) := by
 have n0 : ¬ ((m : Int) = 0) := by omega
 unfold lE lH lgF
 generalize us A = AA
 generalize (m : Int) = X at *
 simp [rQBX0, rQBX1, rQBX2, rQBX3, rQBX4, rQBX5, n0, blk, eds_length, eds_get, edsAt, edAV, allLeaf_eds, cleanL_eds, cleanL_ints, ints_length, ints_get, intsAt, endL, finB]
theorem lg_cnt (A : List Nat) {m : Nat} (hm : m < 18446744073709551616) (s b : Int) (hs : 0 <= s /\ s <= 1000) (h : s + pcn m <= b) : codeL cfgS 3 (.reg rQBX2 true [(5, 5), (6, 6), (13, 13), (14, 14), (0, 2), (0, 4), (1, 4), (2, 4), (3, 4), (7, 8), (8, 9), (7, 10), (7, 12), (8, 12), (9, 12), (10, 12), (11, 12)] [0, 1, 2, 3, 4, 27]) ⟨lE m s [(12, .bool true)], lH A b⟩ = some (.normal, ⟨lE m s [(27, .bool true)], lH A b⟩) := by
 have on := ones64_run m hm
 have hp := pcn_le m
 have w : IntKind.i64.wrap (s + (pcn m : Int)) = s + pcn m := wrap_id (by omega) (by omega)
 unfold lE lH lgF
 generalize us A = AA
 generalize (m : Int) = X at *
 generalize (pcn m : Int) = c at *
 simp [rQBX0, rQBX1, rQBX2, rQBX3, rQBX4, rQBX5, on, w, h, sQC, iQC, sQD, iQD, blk, eds_length, eds_get, edsAt, edAV, allLeaf_eds, cleanL_eds, cleanL_ints, ints_length, ints_get, intsAt, endL, finB]
theorem lg_bnd (A : List Nat) {m : Nat} (hm : m < 18446744073709551616) (s b : Int) (hs : 0 <= s /\ s <= 1000) (h : ¬ s + pcn m <= b) {k : Nat} (hk : k <= 64) (hb : callL cfgS nQD [.list 1 (us A), .int .u64 m] [] = some (.int .i64 k, [])) : codeL cfgS 3 (.reg rQBX2 true [(5, 5), (6, 6), (13, 13), (14, 14), (0, 2), (0, 4), (1, 4), (2, 4), (3, 4), (7, 8), (8, 9), (7, 10), (7, 12), (8, 12), (9, 12), (10, 12), (11, 12)] [0, 1, 2, 3, 4, 27]) ⟨lE m s [(12, .bool true)], lH A b⟩ = some (.normal, ⟨lE m s [(27, .bool (decide (s + k <= b)))], lH A b⟩) := by
 have on := ones64_run m hm
 have hp := pcn_le m
 have w : IntKind.i64.wrap (s + (pcn m : Int)) = s + pcn m := wrap_id (by omega) (by omega)
 have w2 : IntKind.i64.wrap (s + (k : Int)) = s + k := wrap_id (by omega) (by omega)
 unfold lE lH lgF
 have lA := us_length A
 generalize us A = AA at *
 generalize (m : Int) = X at *
 generalize (pcn m : Int) = c at *
 generalize (k : Int) = kk at *
 simp [rQBX0, rQBX1, rQBX2, rQBX3, rQBX4, rQBX5, on, w, w2, h, hb, sQC, iQC, sQD, iQD, blk, eds_length, eds_get, edsAt, edAV, allLeaf_eds, cleanL_eds, cleanL_ints, ints_length, ints_get, intsAt, endL, finB]
theorem lg_tz (A : List Nat) {m : Nat} (h0 : m ≠ 0) (hm : m < 18446744073709551616) (s b : Int) : codeL cfgS 3 (.reg rQBX3 false [] [0, 1, 2, 3, 4, 7]) ⟨lE m s [(27, .bool false)], lH A b⟩ = some (.normal, ⟨lE m s [(7, .int .i64 (tz m : Nat))], lH A b⟩) := by
 have ht := tz_run m h0 hm
 unfold lE lH lgF
 generalize us A = AA
 generalize (m : Int) = X at *
 simp [rQBX0, rQBX1, rQBX2, rQBX3, rQBX4, rQBX5, ht, sQx, iQx, blk, eds_length, eds_get, edsAt, edAV, allLeaf_eds, cleanL_eds, cleanL_ints, ints_length, ints_get, intsAt, endL, finB]
theorem lg_wo (A : List Nat) {m : Nat} (h0 : m ≠ 0) (hm : m < 18446744073709551616) (s b : Int) : codeL cfgS 3 (.reg rQBX4 false [] [0, 1, 2, 3, 4, 7]) ⟨lE m s [(7, .int .i64 (tz m : Nat))], lH A b⟩ = some (.normal, ⟨lE (wo m (tz m)) s [(7, .int .i64 (tz m : Nat))], lH A b⟩) := by
 obtain ⟨_, _, ht⟩ := tz_spec h0 hm
 obtain ⟨s1, s2⟩ := shl_n ht
 have w1 := u64_andNot_nat m (2 ^ tz m) hm (pow_n ht)
 unfold lE lH lgF wo
 generalize us A = AA
 generalize (m &&& (18446744073709551615 - 2 ^ tz m) : Nat) = W at *
 generalize (2 ^ tz m : Nat) = p at *
 generalize tz m = t at *
 generalize (m : Int) = X at *
 have t0 : (0 : Int) <= t := by omega
 have t1 : (t : Int) < 64 := by omega
 have t2 : ¬ ((t : Int) < 0) := by omega
 simp [rQBX0, rQBX1, rQBX2, rQBX3, rQBX4, rQBX5, s1, s2, w1, t0, t1, t2, IntKind.bits, Int.toNat_natCast, blk, eds_length, eds_get, edsAt, edAV, allLeaf_eds, cleanL_eds, cleanL_ints, ints_length, ints_get, intsAt, endL, finB]
theorem lg_call {A : List Nat} (hS : Small A) {w t : Nat} (hw : w < 18446744073709551616) (ht : t < A.length) {s b b2 : Int} (hs : 0 <= s /\ s <= 1000) (hc : callL cfgS nQB [.int .u64 (w &&& A.getD t 0 : Nat), .int .i64 (s + 1), .ptr 1 0, .ptr 0 0, .ptr 2 0] (lH A b) = some (.tup [], lH A b2)) : codeL cfgS 3 (.reg rQBX5 true [(9, 9), (0, 1), (0, 2), (1, 2), (0, 3), (2, 3), (0, 4), (0, 5), (1, 5), (0, 6), (0, 7), (2, 7), (5, 7), (0, 8), (2, 8), (5, 8)] [0, 1, 2, 3, 4]) ⟨lE w s [(7, .int .i64 (t : Nat))], lH A b⟩ = some (.normal, ⟨lE w s [], lH A b2⟩) := by
 obtain ⟨r1, r2, r3⟩ := row_n ht
 have w1 := u64_and_nat w (A.getD t 0) hw (getD_lt hS t)
 have w2 : IntKind.i64.wrap (s + 1) = s + 1 := wrap_id (by omega) (by omega)
 have lA := us_length A
 unfold lH lgF at *
 unfold lE
 generalize (w &&& A.getD t 0 : Nat) = W at *
 generalize A.getD t 0 = r at *
 generalize (w : Int) = X at *
 have t0 : (0 : Int) <= t := by omega
 have t2 : ¬ ((t : Int) < 0) := by omega
 have t3 : (t : Int) < A.length := by omega
 generalize us A = AA at *
 simp [rQBX0, rQBX1, rQBX2, rQBX3, rQBX4, rQBX5, r1, r2, r3, w1, w2, lA, hc, t0, t2, t3, ht, plp, plpL, allB, notBox, swC, seesC, inBox, offBoxes, offLab, calmB, sQB, iQB, Int.toNat_natCast, blk, eds_length, eds_get, edsAt, edAV, allLeaf_eds, cleanL_eds, cleanL_ints, ints_length, ints_get, intsAt, endL, finB]
end Go.BmP
