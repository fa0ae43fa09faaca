/- cohesionlaw09.DegreeCounts returns true. -/
import Derived.Test.YtegmpkeejgflnaaUseM
import Derived.Test.YtegmpkeejgflnaaDgV
import Derived.Test.YtegmpkeejgflnaaL21
import Derived.KernelRfl
set_option linter.unusedSimpArgs false
set_option linter.unusedVariables false
set_option maxRecDepth 100000
set_option maxHeartbeats 16000000
namespace Go.BmP
open Go.Am Go.Bm
theorem awake09 : callL cfgS nQb [] [] = some (.bool true, []) := callL_iff.2 ⟨3000, by kernel_rfl⟩
theorem new1_run (l : List Int) (n : Int) (F : List Ed) : callL cfgS nQd [.list 1 (ints l)] [some [.int .i64 n, .list 2 (eds F)]] = some (.ptr 1 0, [some [.int .i64 n, .list 2 (eds F)], dk l 0]) := by
 rw [callL_end oQd sQd (Nat.le_of_ble_eq_true rfl)]
 unfold qQd cQd dk
 simp [rQdX0, rQdX1, finS, plp, mapH, mapBL, mapB, swS, blk, eds_length, eds_get, edsAt, edAV, allLeaf_eds, cleanL_eds, cleanL_ints, ints_length, ints_get, intsAt, endL, finB]
theorem cr_round0 (l : List Int) (n m : Int) (F G : List Ed) (hE : F.length < 1000000) : codeL cfgS 0 lQaX0 ⟨[(1, .list 1 (ints l)), (37, .own 2 [.agg [.int .i64 n, .list 2 (eds F)], .agg [.int .i64 m, .list 2 (eds G)]]), (38, .int .i64 2), (39, .int .i64 0)], []⟩ = some (.normal, ⟨[(1, .list 1 (ints l)), (37, .own 2 [.agg [.int .i64 n, .list 2 (eds F)], .agg [.int .i64 m, .list 2 (eds G)]]), (38, .int .i64 2), (39, .int .i64 1)], []⟩) := by
 obtain ⟨e, D, S, K, V, H, hV, ⟨h1, h2, h3⟩, pd, rd, ps, rs, ph, rh⟩ := cntG_all n F hE
 have s1 := same_run D D (by omega) (by omega)
 have s2 := same_run S S (by omega) (by omega)
 have s3 := same_run K K (by omega) (by omega)
 rw [decide_eq_true rfl] at s1 s2 s3
 have pS := plL_ints S
 have pK := plL_ints K
 have pD := plL_ints D
 have t1 : (ints D).take D.length = ints D := List.take_of_length_le (by rw [ints_length]; omega)
 have k1 : (ints D).length = D.length := ints_length D
 obtain ⟨a1, a2, a3, a4, a5, a6, a7, a8, a9, aa, ab⟩ := lf_ints D
 obtain ⟨z, he⟩ : ∃ z, ints D = z /\ (D = [] -> z = []) := ⟨_, rfl, fun h => by rw [h]; rfl⟩
 generalize eds F = Y at *
 generalize eds G = Z at *
 generalize ints S = S1 at *
 generalize ints K = K1 at *
 generalize ints D = D1 at *
 generalize D.length = q at *
 rcases hV with ⟨rfl, e1, rfl⟩ | ⟨rfl, rfl⟩
 ·obtain ⟨rfl, e2⟩ := he
  have := e2 e1
  subst this
  unfold lQaX0
  simp [rQaX0, rQaX1, rQaX2, rQaX3, rQaX4, rQaX5, rQaX6, rQaX7, rQaX8, rQaX9, rQaX10, rQaX11, rQaX12, rQaX13, rQaX14, rQaX15, rQaX16, pd, rd, ps, rs, ph, rh, s1, s2, s3, pS, pK, pD, idx, blk, endL, finB, plp, plpL, plL, pl, sQe, iQe, lQe, sQf, iQf, lQf, sQg, iQg, lQg, sQh, iQh, lQh, sQi, iQi, lQi, sQj, iQj, lQj, sQk, iQk, lQk, allB, notBox, swC, swS, seesC, inBox, offBoxes, offLab, calmB, ptrs, ptrsL, blkE, avE, avLE]
 ·unfold lQaX0
  simp [rQaX0, rQaX1, rQaX2, rQaX3, rQaX4, rQaX5, rQaX6, rQaX7, rQaX8, rQaX9, rQaX10, rQaX11, rQaX12, rQaX13, rQaX14, rQaX15, rQaX16, pd, rd, ps, rs, ph, rh, s1, s2, s3, pS, pK, pD, t1, k1, a1, a2, a3, a4, a5, a6, a7, a8, a9, aa, ab, idx, blk, endL, finB, plp, plpL, plL, pl, sQe, iQe, lQe, sQf, iQf, lQf, sQg, iQg, lQg, sQh, iQh, lQh, sQi, iQi, lQi, sQj, iQj, lQj, sQk, iQk, lQk, allB, notBox, swC, swS, seesC, inBox, offBoxes, offLab, calmB, ptrs, ptrsL, blkE, avE, avLE]
theorem cr_round1 (l : List Int) (n m : Int) (F G : List Ed) (hE : G.length < 1000000) : codeL cfgS 0 lQaX0 ⟨[(1, .list 1 (ints l)), (37, .own 2 [.agg [.int .i64 n, .list 2 (eds F)], .agg [.int .i64 m, .list 2 (eds G)]]), (38, .int .i64 2), (39, .int .i64 1)], []⟩ = some (.normal, ⟨[(1, .list 1 (ints l)), (37, .own 2 [.agg [.int .i64 n, .list 2 (eds F)], .agg [.int .i64 m, .list 2 (eds G)]]), (38, .int .i64 2), (39, .int .i64 2)], []⟩) := by
 have w2 : IntKind.i64.wrap 2 = 2 := wrap_id (by omega) (by omega)
 obtain ⟨e, D, S, K, V, H, hV, ⟨h1, h2, h3⟩, pd, rd, ps, rs, ph, rh⟩ := cntG_all m G hE
 have s1 := same_run D D (by omega) (by omega)
 have s2 := same_run S S (by omega) (by omega)
 have s3 := same_run K K (by omega) (by omega)
 rw [decide_eq_true rfl] at s1 s2 s3
 have pS := plL_ints S
 have pK := plL_ints K
 have pD := plL_ints D
 have t1 : (ints D).take D.length = ints D := List.take_of_length_le (by rw [ints_length]; omega)
 have k1 : (ints D).length = D.length := ints_length D
 obtain ⟨a1, a2, a3, a4, a5, a6, a7, a8, a9, aa, ab⟩ := lf_ints D
 obtain ⟨z, he⟩ : ∃ z, ints D = z /\ (D = [] -> z = []) := ⟨_, rfl, fun h => by rw [h]; rfl⟩
 generalize eds F = Y at *
 generalize eds G = Z at *
 generalize ints S = S1 at *
 generalize ints K = K1 at *
 generalize ints D = D1 at *
 generalize D.length = q at *
 rcases hV with ⟨rfl, e1, rfl⟩ | ⟨rfl, rfl⟩
 ·obtain ⟨rfl, e2⟩ := he
  have := e2 e1
  subst this
  unfold lQaX0
  simp [rQaX0, rQaX1, rQaX2, rQaX3, rQaX4, rQaX5, rQaX6, rQaX7, rQaX8, rQaX9, rQaX10, rQaX11, rQaX12, rQaX13, rQaX14, rQaX15, rQaX16, w2, pd, rd, ps, rs, ph, rh, s1, s2, s3, pS, pK, pD, idx, blk, endL, finB, plp, plpL, plL, pl, sQe, iQe, lQe, sQf, iQf, lQf, sQg, iQg, lQg, sQh, iQh, lQh, sQi, iQi, lQi, sQj, iQj, lQj, sQk, iQk, lQk, allB, notBox, swC, swS, seesC, inBox, offBoxes, offLab, calmB, ptrs, ptrsL, blkE, avE, avLE]
 ·unfold lQaX0
  simp [rQaX0, rQaX1, rQaX2, rQaX3, rQaX4, rQaX5, rQaX6, rQaX7, rQaX8, rQaX9, rQaX10, rQaX11, rQaX12, rQaX13, rQaX14, rQaX15, rQaX16, w2, pd, rd, ps, rs, ph, rh, s1, s2, s3, pS, pK, pD, t1, k1, a1, a2, a3, a4, a5, a6, a7, a8, a9, aa, ab, idx, blk, endL, finB, plp, plpL, plL, pl, sQe, iQe, lQe, sQf, iQf, lQf, sQg, iQg, lQg, sQh, iQh, lQh, sQi, iQi, lQi, sQj, iQj, lQj, sQk, iQk, lQk, allB, notBox, swC, swS, seesC, inBox, offBoxes, offLab, calmB, ptrs, ptrsL, blkE, avE, avLE]
theorem cr_loop (l : List Int) (n m : Int) (F G : List Ed) (hF : F.length < 1000000) (hG : G.length < 1000000) : codeL cfgS 0 (.loop lQaX0) ⟨[(1, .list 1 (ints l)), (37, .own 2 [.agg [.int .i64 n, .list 2 (eds F)], .agg [.int .i64 m, .list 2 (eds G)]]), (38, .int .i64 2), (39, .int .i64 0)], []⟩ = some (.exit 0, ⟨[(1, .list 1 (ints l)), (37, .own 2 [.agg [.int .i64 n, .list 2 (eds F)], .agg [.int .i64 m, .list 2 (eds G)]]), (38, .int .i64 2), (39, .int .i64 2), (40, .bool false)], []⟩) := by
 refine (loop_next (cr_round0 l n m F G hF)).trans ((loop_next (cr_round1 l n m F G hG)).trans (loop_exit ?_))
 generalize eds F = Y
 generalize eds G = Z
 unfold lQaX0
 simp [rQaX0, rQaX1, rQaX2, rQaX3, rQaX4, rQaX5, rQaX6, rQaX7, rQaX8, rQaX9, rQaX10, rQaX11, rQaX12, rQaX13, rQaX14, rQaX15, rQaX16, blk]
theorem plL_eds (l : List Ed) : plL (eds l) = true := by
 induction l with
 | nil => rfl
 | cons x r ih => exact ih
theorem counts_run (n : Int) (F : List Ed) (l s : List Int) (hs : s.length <= 9223372036854775807) : callL cfgS nQa [.agg [.int .i64 n, .list 2 (eds F)], .list 1 (ints l), .list 1 (ints s)] [] = some (.bool true, []) := by
 rw [callL_end oQa sQa (Nat.le_of_ble_eq_true rfl)]
 have aw := awake09
 have eF : (eds F).length = F.length := eds_length F
 have eL : (ints l).length = l.length := ints_length l
 by_cases h1 : (100 : Int) < F.length
 case pos =>
  unfold qQa cQa
  generalize eds F = Y at *
  generalize ints l = L1 at *
  simp [rQaX0, rQaX1, rQaX2, rQaX3, rQaX4, rQaX5, rQaX6, rQaX7, rQaX8, rQaX9, rQaX10, rQaX11, rQaX12, rQaX13, rQaX14, rQaX15, rQaX16, aw, eF, eL, h1, sQb, iQb, lQb, blk, endL, finB]
 by_cases h2 : (200 : Int) < l.length
 case pos =>
  unfold qQa cQa
  generalize eds F = Y at *
  generalize ints l = L1 at *
  simp [rQaX0, rQaX1, rQaX2, rQaX3, rQaX4, rQaX5, rQaX6, rQaX7, rQaX8, rQaX9, rQaX10, rQaX11, rQaX12, rQaX13, rQaX14, rQaX15, rQaX16, aw, eF, eL, h1, h2, sQb, iQb, lQb, blk, endL, finB]
 have n1 := new1_run s n F
 obtain ⟨N, Es, a, n2, hG, hN, hE⟩ := graph_run s hs 9 (by omega) 0
 rw [show ((9 : Nat) : Int) = 9 from rfl] at n2
 have lp := cr_loop l N n Es F (by omega) (by omega)
 have hh := h_run l (by omega)
 have rh := rh9_run l (by omega)
 have p1 := plL_eds Es
 have p2 := plL_eds F
 have p3 := plL_ints s
 unfold dk at n1 n2
 rw [nat0] at n1 n2
 generalize eds F = Y at *
 generalize eds Es = Z at *
 generalize ints l = L1 at *
 generalize ints s = S1 at *
 unfold qQa cQa
 simp [rQaX0, rQaX1, rQaX2, rQaX3, rQaX4, rQaX5, rQaX6, rQaX7, rQaX8, rQaX9, rQaX10, rQaX11, rQaX12, rQaX13, rQaX14, rQaX15, rQaX16, aw, eF, eL, h1, h2, n1, n2, lp, hh, rh, p1, p2, p3, sQb, iQb, lQb, sQd, iQd, lQd, sQc, iQc, lQc, sQl, iQl, lQl, sQm, iQm, lQm, blk, endL, finB, plp, plpL, plL, pl, allB, notBox, swC, swS, seesC, inBox, offBoxes, offLab, calmB, ptrs, ptrsL, blkE, avE, avLE, relB, handBox, mvBB, mvRtB]
theorem row_len {k : IntKind} {w : World} {a : Option Addr} {len cap : Nat} {zs : List Int} (h : IsRow k w a len cap zs) : (zs.take len).length <= 9223372036854775807 := by
 rcases h with ⟨_, rfl, _, rfl⟩ | ⟨_, _, h1, h2, _⟩
 ·simp
 ·rw [List.length_take]
  have : cap <= 9223372036854775807 := h2
  omega
end Go.BmP
