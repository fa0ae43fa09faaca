/- The law of largest cliques: beside another graph, and with an edge more. -/
import Derived.Test.YtldlafnfkiiflaaDoorUseM
import Derived.Test.YtldlafnfkiiflaaDoorMxF
import Derived.Test.YtldlafnfkiiflaaDoorMxH
import Derived.Test.YtldlafnfkiiflaaDoorMxW
import Derived.Test.YtldlafnfkiiflaaDoorT29
import Derived.Test.YtldlafnfkiiflaaDoorL01
set_option linter.unusedSimpArgs false
set_option linter.unusedVariables false
set_option maxRecDepth 100000
set_option maxHeartbeats 8000000
namespace Go.BmP
open Go.Am Go.Bm
def gM (N : Nat) (Es : List Ed) : Blk := some [.int .i64 N, .list 2 (eds Es)]
theorem rest_gM (N : Nat) (E : List Ed) : Rest [gM N E] := ⟨fun _ => rfl, rfl, fun _ _ => rfl, fun _ => rfl, fun _ _ => rfl⟩
theorem nz_mem {x : Int} (h0 : 0 <= x) {O : List Nat} (h : x.toNat ∈ O) : x ∈ nz O := by
 unfold nz
 exact List.mem_map.2 ⟨x.toNat, h, by omega⟩
theorem lg_len {N : Nat} {Es : List Ed} {O : List Nat} (h : Lgst N Es O) : O.length <= N := by
 have : O.length <= (List.range N).length := asc_sub (h.1.1.imp fun k => k.1) List.pairwise_lt_range fun x hx => List.mem_range.2 (h.1.2 x hx)
 simpa using this
theorem maxedge_run (l : List Int) : callL cfgS nQa [.list 1 (ints l)] [] = some (.bool true, []) := by
 rw [callL_end oQa sQa (Nat.le_of_ble_eq_true rfl)]
 have aw := awake26
 have few := few_run l
 by_cases hl : (l.length : Int) <= 500
 case neg =>
  unfold qQa cQa
  simp [rQaX0, rQaX1, rQaX2, rQaX3, rQaX4, rQaX5, rQaX6, rQaX7, rQaX8, rQaX9, rQaX10, rQaX11, rQaX12, rQaX13, rQaX14, rQaX15, few, hl, aw, sQb, iQb, sQc, iQc, blk, eds_length, eds_get, edsAt, edAV, allLeaf_eds, cleanL_eds, cleanL_ints, ints_length, ints_get, intsAt, endL, finB]
 have hl5 : l.length <= 500 := by omega
 have n1 := new_run l
 obtain ⟨N, Es, a1, n2, hG, hN, hEl⟩ := graph_run l hl5 7 (by omega) 0
 obtain ⟨M, Fs, a2, n3, hF, hM, hFl⟩ := graph_run l hl5 5 (by omega) a1
 obtain ⟨A, lgA, bA⟩ := best_run hG (by omega) (by omega)
 obtain ⟨B, lgB, bB⟩ := best_run hF (by omega) (by omega)
 have bs := beside_run hG hF (by omega) (by omega) (by omega)
 have hB := bsE_ok hG hF (by omega)
 have rl : (bsE N Es Fs).length < 1000000 := by
  have := ofE_len (Es ++ Fs.map (shE N)) []
  unfold bsE
  simp at this
  omega
 obtain ⟨C, lgC, bC⟩ := best_run hB (by omega) rl
 have n4 := next_run l hl5 a2 7 (by omega) [gM N Es] (rest_gM N Es)
 obtain ⟨u0, u1⟩ := nxV_bd l a2 (n := 7) (by omega)
 have n5 := next_run l hl5 (nxA l a2 7) 7 (by omega) [gM N Es] (rest_gM N Es)
 obtain ⟨v0, v1⟩ := nxV_bd l (nxA l a2 7) (n := 7) (by omega)
 generalize nxA l (nxA l a2 7) 7 = a4 at *
 generalize nxV l (nxA l a2 7) 7 = v at *
 generalize nxA l a2 7 = a3 at *
 generalize nxV l a2 7 = u at *
 obtain ⟨g1, g2, g3⟩ := lg_beside hG hF lgA lgB lgC
 have lA := lg_len lgA
 have hmx : ((nz C).length : Int) = mxI ((nz A).length : Int) ((nz B).length : Int) := by
  unfold mxI
  rw [nz_length, nz_length, nz_length]
  split <;> omega
 have add : (∃ e : Int, e ≠ 0 /\ callL cfgS nQl [.agg [.int .i64 N, .list 2 (eds Es)], .int .i64 u, .int .i64 v] [] = some (.tup [.agg [.int .i64 0, .list 2 []], .int .i64 e], [])) \/
   ∃ (Gs : List Ed) (Y : List Int), callL cfgS nQl [.agg [.int .i64 N, .list 2 (eds Es)], .int .i64 u, .int .i64 v] [] = some (.tup [.agg [.int .i64 N, .list 2 (eds Gs)], .int .i64 0], []) /\ callL cfgS nQj [.agg [.int .i64 N, .list 2 (eds Gs)]] [] = some (.tup [.list 1 (ints Y), .int .i64 0], []) /\ Y.length <= 64 /\ ((Y.length : Int) = (nz A).length \/ ((Y.length : Int) = (nz A).length + 1 /\ u ∈ Y /\ v ∈ Y)) := by
  by_cases hv : 0 <= u /\ 0 <= v /\ u < (N : Int) /\ v < (N : Int) /\ u ≠ v
  ·by_cases hn : nrmE u v ∈ Es
   ·exact .inl ⟨15, by decide, add3_there N Es hG (by omega) u v hv hn⟩
   ·right
    have hP : GOK (N : Int) (putE (nrmE u v) Es) := by
     refine ⟨hG.1, putE_up _ hG.2.1, fun z hz => ?_⟩
     rcases (putE_mem _ _ _).1 hz with rfl | k
     ·unfold nrmE; simp only; split <;> split <;> omega
     ·exact hG.2.2 z k
    have lp := putE_len (nrmE u v) Es
    obtain ⟨Y, lgY, bY⟩ := best_run hP (by omega) (by omega)
    obtain ⟨j1, j2, j3⟩ := lg_add hv.2.2.2.2 u0 v0 lgA lgY
    have lY := lg_len lgY
    refine ⟨_, nz Y, add3_run N Es hG (by omega) u v hv hn, bY, by rw [nz_length]; omega, ?_⟩
    rw [nz_length, nz_length]
    rcases j3 with k | ⟨k1, k2⟩
    ·left; omega
    ·by_cases k : Y.length = A.length
     ·left; omega
     ·right
      exact ⟨by omega, nz_mem u0 k1, nz_mem v0 k2⟩
  ·exact .inl ⟨6, by decide, add3_node N Es hG (by omega) u v hv⟩
 have hA64 : (nz A).length <= 64 := by rw [nz_length]; omega
 clear g1 g2 g3 lgA lgB lgC hG hF hB rl lA hl5 u0 u1 v0 v1
 unfold dk gM at n4 n5
 unfold dk at n1 n2 n3
 simp only [nat0, show ((7 : Nat) : Int) = 7 from rfl, show ((5 : Nat) : Int) = 5 from rfl] at n1 n2 n3
 have lA := ints_length (nz A)
 have lB := ints_length (nz B)
 have lC := ints_length (nz C)
 generalize ((N + M : Nat) : Int) = NM at *
 generalize eds (bsE N Es Fs) = YB at *
 generalize eds Es = YE at *
 generalize eds Fs = YF at *
 generalize nz A = PA at *
 generalize nz B = PB at *
 generalize nz C = PC at *
 generalize ints PA = QA at *
 generalize ints PB = QB at *
 generalize ints PC = QC at *
 generalize hcA : (PA.length : Int) = cA at *
 generalize hcB : (PB.length : Int) = cB at *
 generalize hcC : (PC.length : Int) = cC at *
 unfold qQa cQa
 rcases add with ⟨e, e0, ad⟩ | ⟨Gs, Y, ad, bY, lY, hY⟩
 ·by_cases k : cA < cB
  ·obtain rfl : cC = cB := by rw [hmx]; unfold mxI; rw [if_pos k]
   simp [rQaX0, rQaX1, rQaX2, rQaX3, rQaX4, rQaX5, rQaX6, rQaX7, rQaX8, rQaX9, rQaX10, rQaX11, rQaX12, rQaX13, rQaX14, rQaX15, few, hl, n1, n2, n3, n4, n5, bA, bB, bC, bs, ad, e0, k, aw, lA, lB, lC, hcA, hcB, hcC, sQb, iQb, sQd, iQd, sQg, iQg, sQe, iQe, sQj, iQj, sQk, iQk, sQl, iQl, sQf, iQf, sQc, iQc, plp, plpL, allB, notBox, swC, swS, seesC, inBox, relB, handBox, mvBB, mvRtB, offBoxes, offLab, calmB, ptrs, ptrsL, blkE, avE, avLE, blk, eds_length, eds_get, edsAt, edAV, allLeaf_eds, cleanL_eds, cleanL_ints, ints_length, ints_get, intsAt, endL, finB]
  ·obtain rfl : cC = cA := by rw [hmx]; unfold mxI; rw [if_neg k]
   simp [rQaX0, rQaX1, rQaX2, rQaX3, rQaX4, rQaX5, rQaX6, rQaX7, rQaX8, rQaX9, rQaX10, rQaX11, rQaX12, rQaX13, rQaX14, rQaX15, few, hl, n1, n2, n3, n4, n5, bA, bB, bC, bs, ad, e0, k, aw, lA, lB, lC, hcA, hcB, hcC, sQb, iQb, sQd, iQd, sQg, iQg, sQe, iQe, sQj, iQj, sQk, iQk, sQl, iQl, sQf, iQf, sQc, iQc, plp, plpL, allB, notBox, swC, swS, seesC, inBox, relB, handBox, mvBB, mvRtB, offBoxes, offLab, calmB, ptrs, ptrsL, blkE, avE, avLE, blk, eds_length, eds_get, edsAt, edAV, allLeaf_eds, cleanL_eds, cleanL_ints, ints_length, ints_get, intsAt, endL, finB]
 ·have hu := has_run u Y (by omega)
  have hv := has_run v Y (by omega)
  have lYY := ints_length Y
  have q4 : IntKind.i64.wrap (cA + 1) = cA + 1 := wrap_id (by omega) (by omega)
  generalize eds Gs = YG at *
  generalize ints Y = QY at *
  generalize hcY : (Y.length : Int) = cY at *
  rcases hY with hY | ⟨hY, m1, m2⟩
  ·obtain rfl : cY = cA := hY
   have q1 : cY <= cY + 1 := by omega
   by_cases k : cY < cB
   ·obtain rfl : cC = cB := by rw [hmx]; unfold mxI; rw [if_pos k]
    simp [rQaX0, rQaX1, rQaX2, rQaX3, rQaX4, rQaX5, rQaX6, rQaX7, rQaX8, rQaX9, rQaX10, rQaX11, rQaX12, rQaX13, rQaX14, rQaX15, few, hl, n1, n2, n3, n4, n5, bA, bB, bC, bs, ad, bY, k, aw, lA, lB, lC, lYY, hcA, hcB, hcC, hcY, hu, hv, q1, q4, LIM, sQb, iQb, sQd, iQd, sQg, iQg, sQe, iQe, sQj, iQj, sQk, iQk, sQl, iQl, sQf, iQf, sQc, iQc, plp, plpL, allB, notBox, swC, swS, seesC, inBox, relB, handBox, mvBB, mvRtB, offBoxes, offLab, calmB, ptrs, ptrsL, blkE, avE, avLE, blk, eds_length, eds_get, edsAt, edAV, allLeaf_eds, cleanL_eds, cleanL_ints, ints_length, ints_get, intsAt, endL, finB]
   ·obtain rfl : cC = cY := by rw [hmx]; unfold mxI; rw [if_neg k]
    simp [rQaX0, rQaX1, rQaX2, rQaX3, rQaX4, rQaX5, rQaX6, rQaX7, rQaX8, rQaX9, rQaX10, rQaX11, rQaX12, rQaX13, rQaX14, rQaX15, few, hl, n1, n2, n3, n4, n5, bA, bB, bC, bs, ad, bY, k, aw, lA, lB, lC, lYY, hcA, hcB, hcC, hcY, hu, hv, q1, q4, LIM, sQb, iQb, sQd, iQd, sQg, iQg, sQe, iQe, sQj, iQj, sQk, iQk, sQl, iQl, sQf, iQf, sQc, iQc, plp, plpL, allB, notBox, swC, swS, seesC, inBox, relB, handBox, mvBB, mvRtB, offBoxes, offLab, calmB, ptrs, ptrsL, blkE, avE, avLE, blk, eds_length, eds_get, edsAt, edAV, allLeaf_eds, cleanL_eds, cleanL_ints, ints_length, ints_get, intsAt, endL, finB]
  ·rw [decide_eq_true m1] at hu
   rw [decide_eq_true m2] at hv
   have q1 : cA <= cY := by omega
   have q2 : cY <= cA + 1 := by omega
   have q3 : ¬ cY = cA := by omega
   by_cases k : cA < cB
   ·obtain rfl : cC = cB := by rw [hmx]; unfold mxI; rw [if_pos k]
    simp [rQaX0, rQaX1, rQaX2, rQaX3, rQaX4, rQaX5, rQaX6, rQaX7, rQaX8, rQaX9, rQaX10, rQaX11, rQaX12, rQaX13, rQaX14, rQaX15, few, hl, n1, n2, n3, n4, n5, bA, bB, bC, bs, ad, bY, k, aw, lA, lB, lC, lYY, hcA, hcB, hcC, hcY, hu, hv, q1, q2, q3, q4, LIM, sQb, iQb, sQd, iQd, sQg, iQg, sQe, iQe, sQj, iQj, sQk, iQk, sQl, iQl, sQf, iQf, sQc, iQc, plp, plpL, allB, notBox, swC, swS, seesC, inBox, relB, handBox, mvBB, mvRtB, offBoxes, offLab, calmB, ptrs, ptrsL, blkE, avE, avLE, blk, eds_length, eds_get, edsAt, edAV, allLeaf_eds, cleanL_eds, cleanL_ints, ints_length, ints_get, intsAt, endL, finB]
   ·obtain rfl : cC = cA := by rw [hmx]; unfold mxI; rw [if_neg k]
    simp [rQaX0, rQaX1, rQaX2, rQaX3, rQaX4, rQaX5, rQaX6, rQaX7, rQaX8, rQaX9, rQaX10, rQaX11, rQaX12, rQaX13, rQaX14, rQaX15, few, hl, n1, n2, n3, n4, n5, bA, bB, bC, bs, ad, bY, k, aw, lA, lB, lC, lYY, hcA, hcB, hcC, hcY, hu, hv, q1, q2, q3, q4, LIM, sQb, iQb, sQd, iQd, sQg, iQg, sQe, iQe, sQj, iQj, sQk, iQk, sQl, iQl, sQf, iQf, sQc, iQc, plp, plpL, allB, notBox, swC, swS, seesC, inBox, relB, handBox, mvBB, mvRtB, offBoxes, offLab, calmB, ptrs, ptrsL, blkE, avE, avLE, blk, eds_length, eds_get, edsAt, edAV, allLeaf_eds, cleanL_eds, cleanL_ints, ints_length, ints_get, intsAt, endL, finB]
end Go.BmP
