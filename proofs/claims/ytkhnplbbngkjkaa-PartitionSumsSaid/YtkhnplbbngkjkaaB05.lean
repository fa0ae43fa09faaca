/- The law of sums returns true. -/
import Derived.Test.YtkhnplbbngkjkaaUseM
import Derived.Test.YtkhnplbbngkjkaaB04
import Derived.Test.YtkhnplbbngkjkaaQ05
import Derived.Test.YtkhnplbbngkjkaaL01
import Derived.Test.YtkhnplbbngkjkaaR02d
set_option linter.unusedSimpArgs false
set_option linter.unusedVariables false
set_option maxRecDepth 100000
set_option maxHeartbeats 4000000
namespace Go.BmP
open Go.Am Go.Bm
theorem awake37s : callL cfgS nQd [] [] = some (.bool true, []) := callL_iff.2 ⟨3000, by kernel_rfl⟩
theorem avLE_ints (l : List Int) : avLE (ints l) (ints l) = true := by
 induction l with
 | nil => rfl
 | cons x r ih => simp only [ints] at ih; simp [ints, avLE, avE, ih]
theorem avLE_eds (l : List Ed) : avLE (eds l) (eds l) = true := by
 induction l with
 | nil => rfl
 | cons x r ih => simp only [eds] at ih; simp [eds, edAV, avLE, avE, ih]
def sqSt (H : Heap) (S : List Int) (n : Int) (i : Nat) (J : Env) : St := ⟨(3, .ptr 0 0) :: (4, .ptr 1 0) :: (6, .int .i64 0) :: (7, .int .i64 n) :: (35, .list 1 (ints S)) :: (36, .int .i64 S.length) :: (37, .int .i64 i) :: J, H⟩
theorem sq_loop (l : List Int) (a N : Nat) (Es : List Ed) (S : List Int) (hS : S.length <= 64) (hb : ∀ x ∈ S, 0 <= x /\ x <= 10000) : ∀ (k i : Nat) (n : Int), i + k = S.length -> 0 <= n /\ n <= 10000 * i ->
  codeL cfgS 0 (.loop lQbX0) (sqSt [dk l a, gb N Es] S n i []) = some (.exit 0, sqSt [dk l a, gb N Es] S (n + (S.drop i).sum) S.length [(38, .bool false)])
 | 0, i, n, hi, hn => by
   obtain rfl : i = S.length := by omega
   rw [List.drop_length, List.sum_nil, Int.add_zero]
   refine loop_exit ?_
   unfold sqSt lQbX0 dk gb
   have g5 := ints_length S
   generalize ints S = Q at *
   generalize eds Es = Y at *
   simp [rQbX0, rQbX1, rQbX2, rQbX3, rQbX4, rQbX5, rQbX6, rQbX7, rQbX8, rQbX9, rQbX10, rQbX11, rQbX12, rQbX13, rQbX14, rQbX15, rQbX16, g5, blk, eds_length, eds_get, edsAt, edAV, allLeaf_eds, cleanL_eds, cleanL_ints, ints_length, ints_get, intsAt, endL, finB]
 | k + 1, i, n, hi, hn => by
   have hlt : i < S.length := by omega
   have h1 : (i : Int) < S.length := by omega
   have hx := hb _ (List.getElem_mem hlt)
   have hw := wrapS (i := i) (by omega)
   have wn : IntKind.i64.wrap (n + S[i]) = n + S[i] := wrap_id (by omega) (by omega)
   refine (loop_next ?_).trans ((sq_loop l a N Es S hS hb k (i + 1) (n + S[i]) (by omega) (by omega)).trans ?_)
   ·have g3 : (ints S)[i]? = some (.int .i64 S[i]) := by rw [ints_get, List.getElem?_eq_getElem hlt]; rfl
    have g4 : ∀ h, (ints S)[i]'h = .int .i64 S[i] := fun h => intsAt ..
    have g5 := ints_length S
    have hj1 : ((i + 1 : Nat) : Int) = (i : Int) + 1 := rfl
    unfold sqSt lQbX0 dk gb
    rw [hj1] at hw ⊢
    generalize S[i] = x at *
    generalize ints S = Q at *
    generalize eds Es = Y at *
    simp [rQbX0, rQbX1, rQbX2, rQbX3, rQbX4, rQbX5, rQbX6, rQbX7, rQbX8, rQbX9, rQbX10, rQbX11, rQbX12, rQbX13, rQbX14, rQbX15, rQbX16, h1, hlt, hw, wn, g3, g4, g5, idx, blk, eds_length, eds_get, edsAt, edAV, allLeaf_eds, cleanL_eds, cleanL_ints, ints_length, ints_get, intsAt, endL, finB]
   ·rw [List.drop_eq_getElem_cons hlt, List.sum_cons, <- Int.add_assoc]
theorem sums_run (l : List Int) : callL cfgS nQb [.list 1 (ints l)] [] = some (.bool true, []) := by
 rw [callL_end oQb sQb (Nat.le_of_ble_eq_true rfl)]
 have aw := awake37s
 have few := few_run l
 by_cases hl : (l.length : Int) <= 500
 case neg =>
  unfold qQb cQb
  simp [rQbX0, rQbX1, rQbX2, rQbX3, rQbX4, rQbX5, rQbX6, rQbX7, rQbX8, rQbX9, rQbX10, rQbX11, rQbX12, rQbX13, rQbX14, rQbX15, rQbX16, few, hl, aw, sQc, iQc, yQc, lQc, eQc, sQd, iQd, yQd, lQd, eQd, blk, eds_length, eds_get, edsAt, edAV, allLeaf_eds, cleanL_eds, cleanL_ints, ints_length, ints_get, intsAt, endL, finB]
 have hl5 : l.length <= 500 := by omega
 have n1 := new_run l
 obtain ⟨N, Es, a1, n2, hG, hN, hEl⟩ := graph_run l hl5 9 (by omega) 0
 rw [show ((9 : Nat) : Int) = 9 from rfl] at n2
 obtain ⟨w, o, hv, a2, n3, ⟨w1, w4⟩, ⟨o1, o2⟩, v1, v2⟩ := plan_run l hl5 N (by omega) Es a1
 have ld := loads_run w1 (by omega) hG (by omega) o hv o1 (by omega) v2 o2
 have lb := ldV_bd (w := w) o hv Es
 have ll := ldV_len w o hv Es
 have lp := sq_loop l a2 N Es (ldV w o hv Es) (by omega) (fun x hx => by have := lb x hx; omega) (ldV w o hv Es).length 0 0 (by omega) (by omega)
 rw [List.drop_zero, ldV_sum w1 hG o1 o2, Int.zero_add] at lp
 obtain ⟨q1, q2⟩ := mkR_bd (D := dgL (adjE N Es)) (N := N) (w := 1) (Nat.le_refl _)
 have q3 : ∀ x ∈ (mkR (dgL (adjE N Es)) N 1).1, 0 <= x /\ x < 1 := by simpa using q2
 have m1 := pmake_run hN hG (by omega) (w := 1) (Nat.le_refl _) (by omega) (h := 3) (by omega)
 have h1 := hvL_val (dgL (adjE N Es)) 3 N
 have h2 := hvL_length (dgL (adjE N Es)) 3 N
 have lc := local_run (w := 1) (Nat.le_refl _) (by omega) hG (by omega) _ _ q1 (by omega) h1 q2 0 (by omega)
 have gh := ghosts_run (w := 1) (Nat.le_refl _) (by omega) hG (by omega) _ _ q1 (by omega) h1 q2 0 (by omega)
 rw [ghL_one hG q1 q3, ints_nil] at gh
 have e0 := lcE_one (hv := hvL (dgL (adjE N Es)) 3 N) hG q1 q3
 rw [show (((0 : Nat) : Int)) = 0 from rfl, e0] at lc
 rw [show (((0 : Nat) : Int)) = 0 from rfl] at gh
 have d1 := next_run l hl5 a2 8 (by omega) [gb N Es, some [.int .i64 1, .list 1 (ints (mkR (dgL (adjE N Es)) N 1).1), .list 1 (ints (hvL (dgL (adjE N Es)) 3 N))], gb N Es] ⟨fun _ => rfl, rfl, fun _ _ => rfl, fun _ => rfl, fun _ _ => rfl⟩
 have bd := nxV_bd l a2 (n := 8) (by omega)
 obtain ⟨k, hk⟩ : ∃ k : Nat, 1 + nxV l a2 8 = k := ⟨(1 + nxV l a2 8).toNat, by omega⟩
 have wk : IntKind.i64.wrap (1 + nxV l a2 8) = (k : Int) := by rw [<- hk]; exact wrap_id (by omega) (by omega)
 have hG0 : GOK (N : Int) [] := ⟨hG.1, List.Pairwise.nil, by simp⟩
 have m2 := pmake_run hN hG0 (by simp) (w := k) (by omega) (by omega) (h := 1) (by omega)
 rw [mkR_zero (by omega) (dg_zero N), hvL_zero (dg_zero N), eds_nil, ints_nil] at m2
 have c2 := cmp_run (List.replicate N 0) (List.replicate N 0) (by simp; omega) (by simp; omega)
 rw [cmpL_zero.2 rfl] at c2
 have rp : List.replicate N (AV.int .i64 0) = ints (List.replicate N 0) := by simp [ints]
 have rl : (ints (List.replicate N 0)).length = N := by rw [ints_length, List.length_replicate]
 have tr : (ints (List.replicate N 0)).take N = ints (List.replicate N 0) := List.take_of_length_le (by omega)
 have kN : (N : Int) <= 4294967296 := by omega
 have kN2 : N <= 4294967296 := by omega
 have sm := same3_run N Es (by omega)
 have gE := eds_length Es
 have gL := ints_length (ldV w o hv Es)
 have cE := cleanL_eds Es
 unfold sqSt at lp
 unfold dk gb at *
 rw [nat0] at n1 n2 lp
 rw [show (((1 : Nat) : Int)) = 1 from rfl] at m1 lc gh
 clear q1 q2 q3 lb h1 h2 e0 hG0 o2 v2 hG
 generalize nxV l a2 8 = v at *
 generalize nxA l a2 8 = a3 at *
 unfold qQb cQb
 generalize (mkR (dgL (adjE N Es)) N 1).1 = o' at *
 generalize hvL (dgL (adjE N Es)) 3 N = hv' at *
 generalize ldV w o hv Es = S at *
 have rY := avLE_eds Es
 have rO' := avLE_ints o'
 have rH' := avLE_ints hv'
 generalize ints (List.replicate N 0) = RP at *
 generalize ints o' = O' at *
 generalize ints hv' = Hv' at *
 generalize ints S = Q at *
 generalize ints o = O at *
 generalize ints hv = Hv at *
 generalize eds Es = Y at *
 simp [rQbX0, rQbX1, rQbX2, rQbX3, rQbX4, rQbX5, rQbX6, rQbX7, rQbX8, rQbX9, rQbX10, rQbX11, rQbX12, rQbX13, rQbX14, rQbX15, rQbX16, rY, rO', rH', few, hl, n1, n2, n3, ld, lp, m1, lc, gh, d1, wk, m2, c2, rp, rl, tr, kN, kN2, sm, gE, gL, cE, avLE_eds, avLE_ints, LIM, aw, sQc, iQc, yQc, lQc, eQc, sQe, iQe, yQe, lQe, eQe, sQf, iQf, yQf, lQf, eQf, sQg, iQg, yQg, lQg, eQg, sQl, iQl, yQl, lQl, eQl, sQm, iQm, yQm, lQm, eQm, sQh, iQh, yQh, lQh, eQh, sQi, iQi, yQi, lQi, eQi, sQn, iQn, yQn, lQn, eQn, sQo, iQo, yQo, lQo, eQo, sQj, iQj, yQj, lQj, eQj, sQd, iQd, yQd, lQd, eQd, plp, plpL, allB, notBox, swC, swS, seesC, inBox, relB, handBox, mvBB, mvRtB, offBoxes, offLab, calmB, ptrs, ptrsL, blkE, avE, avLE, blk, eds_length, eds_get, edsAt, edAV, allLeaf_eds, cleanL_eds, cleanL_ints, ints_length, ints_get, intsAt, endL, finB]
end Go.BmP
