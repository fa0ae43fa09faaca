/- The law of what is kept returns true. -/
import Derived.Test.YtcjfhegnnjnmgaaUseM
import Derived.Test.YtcjfhegnnjnmgaaW03
set_option linter.unusedSimpArgs false
set_option linter.unusedVariables false
set_option maxRecDepth 100000
set_option maxHeartbeats 4000000
namespace Go.BmP
open Go.Am Go.Bm
theorem awake29k : callL cfgS nLaw29Awake [] [] = some (.bool true, []) := callL_iff.2 ⟨3000, by kernel_rfl⟩
theorem kp_loop (l : List Int) (hl : l.length <= 500) {N : Nat} : ∀ (k i a : Nat) (Es : List Ed), i + k = 12 -> GOK (N : Int) Es -> Es.length < 800000 + i -> ∃ a' Es', codeL cfgS 0 (.loop lLaw29TrianglesKeptX0) (kpSt l a N Es i []) = some (.exit 0, kpSt l a' N Es' 12 [(31, .bool false)]) /\ GOK (N : Int) Es' /\ Es'.length < 900000
 | 0, i, a, Es, hi, hG, hE => by
   obtain rfl : i = 12 := by omega
   refine ⟨a, Es, loop_exit ?_, hG, by omega⟩
   unfold lLaw29TrianglesKeptX0 kpSt dk tbK
   simp [rLaw29TrianglesKeptX0, rLaw29TrianglesKeptX1, rLaw29TrianglesKeptX2, rLaw29TrianglesKeptX3, rLaw29TrianglesKeptX4, rLaw29TrianglesKeptX5, rLaw29TrianglesKeptX6, rLaw29TrianglesKeptX7, rLaw29TrianglesKeptX8, rLaw29TrianglesKeptX9, rLaw29TrianglesKeptX10, rLaw29TrianglesKeptX11, rLaw29TrianglesKeptX12, rLaw29TrianglesKeptX13, rLaw29TrianglesKeptX14, rLaw29TrianglesKeptX15, rLaw29TrianglesKeptX16, rLaw29TrianglesKeptX17, rLaw29TrianglesKeptX18, rLaw29TrianglesKeptX19, rLaw29TrianglesKeptX20, blk, plp, plpL, allB, notBox, swC, swS, seesC, inBox, endL, finB]
 | k + 1, i, a, Es, hi, hG, hE => by
   obtain ⟨a1, Es1, e1, hG1, hl1⟩ := kp_round l hl hG (by omega) a i (by omega)
   obtain ⟨a2, Es2, e2, hG2, hl2⟩ := kp_loop l hl k (i + 1) a1 Es1 (by omega) hG1 (by omega)
   exact ⟨a2, Es2, (loop_next e1).trans e2, hG2, hl2⟩
theorem trikept_run (l : List Int) : callL cfgS nLaw29TrianglesKept [.list 1 (ints l)] [] = some (.bool true, []) := by
 rw [callL_end oLaw29TrianglesKept sLaw29TrianglesKept (Nat.le_of_ble_eq_true rfl)]
 have aw := awake29k
 have few := few_run l
 by_cases hl : (l.length : Int) <= 500
 case neg =>
  unfold qLaw29TrianglesKept cLaw29TrianglesKept
  simp [rLaw29TrianglesKeptX0, rLaw29TrianglesKeptX1, rLaw29TrianglesKeptX2, rLaw29TrianglesKeptX3, rLaw29TrianglesKeptX4, rLaw29TrianglesKeptX5, rLaw29TrianglesKeptX6, rLaw29TrianglesKeptX7, rLaw29TrianglesKeptX8, rLaw29TrianglesKeptX9, rLaw29TrianglesKeptX10, rLaw29TrianglesKeptX11, rLaw29TrianglesKeptX12, rLaw29TrianglesKeptX13, rLaw29TrianglesKeptX14, rLaw29TrianglesKeptX15, rLaw29TrianglesKeptX16, rLaw29TrianglesKeptX17, rLaw29TrianglesKeptX18, rLaw29TrianglesKeptX19, rLaw29TrianglesKeptX20, few, hl, aw, sMakeFew, iMakeFew, lMakeFew, eMakeFew, sLaw29Awake, iLaw29Awake, lLaw29Awake, eLaw29Awake, blk, endL, finB]
 have hl5 : l.length <= 500 := by omega
 have n1 := new_run l
 obtain ⟨N, Es, a1, n2, hG, hN, hEl⟩ := graph_run l hl5 8 (by omega) 0
 rw [show ((8 : Nat) : Int) = 8 from rfl] at n2
 have op := topen_run hG (by omega)
 rw [tri_quo hG] at op
 obtain ⟨a2, Es2, lp, hG2, hE2⟩ := kp_loop l hl5 12 0 a1 Es (by omega) hG (by omega)
 have va := tvalid_run hG2 (by omega) ((triS N Es2 : Int) / 3) (triN N Es2) (by rw [triN_length]; omega)
 rw [decide_eq_true rfl, decide_eq_true rfl, tri_quo hG2] at va
 unfold kpSt at lp
 rw [nat0] at lp
 unfold dk tbK at *
 rw [nat0] at n1 n2
 unfold triAV at *
 clear hG hG2
 generalize ints (triN N Es2) = tM at *
 generalize eds Es2 = Y2 at *
 generalize tri N Es2 = C2 at *
 generalize ints (triN N Es) = tN at *
 generalize eds Es = Y at *
 generalize tri N Es = C at *
 unfold qLaw29TrianglesKept cLaw29TrianglesKept
 simp [rLaw29TrianglesKeptX0, rLaw29TrianglesKeptX1, rLaw29TrianglesKeptX2, rLaw29TrianglesKeptX3, rLaw29TrianglesKeptX4, rLaw29TrianglesKeptX5, rLaw29TrianglesKeptX6, rLaw29TrianglesKeptX7, rLaw29TrianglesKeptX8, rLaw29TrianglesKeptX9, rLaw29TrianglesKeptX10, rLaw29TrianglesKeptX11, rLaw29TrianglesKeptX12, rLaw29TrianglesKeptX13, rLaw29TrianglesKeptX14, rLaw29TrianglesKeptX15, rLaw29TrianglesKeptX16, rLaw29TrianglesKeptX17, rLaw29TrianglesKeptX18, rLaw29TrianglesKeptX19, rLaw29TrianglesKeptX20, few, hl, n1, n2, op, lp, va, aw, sMakeFew, iMakeFew, lMakeFew, eMakeFew, sMakeNew, iMakeNew, lMakeNew, eMakeNew, sMakeGraph, iMakeGraph, lMakeGraph, eMakeGraph, sTrianglesOpen, iTrianglesOpen, lTrianglesOpen, eTrianglesOpen, sTrianglesValid, iTrianglesValid, lTrianglesValid, eTrianglesValid, sLaw29Awake, iLaw29Awake, lLaw29Awake, eLaw29Awake, blk, plp, plpL, allB, notBox, swC, swS, seesC, inBox, relB, handBox, mvBB, mvRtB, offBoxes, offLab, calmB, ptrs, ptrsL, blkE, avE, avLE, endL, finB]
end Go.BmP
