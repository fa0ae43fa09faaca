/- What partition.Make returns. -/
import Derived.Test.YtkhnplbbngkjkaaUseM
import Derived.Test.YtkhnplbbngkjkaaBalP
import Derived.Test.YtkhnplbbngkjkaaDgP
import Derived.Test.YtkhnplbbngkjkaaP03
set_option linter.unusedSimpArgs false
set_option linter.unusedVariables false
set_option maxRecDepth 100000
set_option maxHeartbeats 4000000
namespace Go.BmP
open Go.Am Go.Bm
theorem upS_bd {x m : Int × Int} {s : List (Int × Int)} {B : Int} (hx : 0 <= x.1 /\ x.1 <= 64) (h : ∀ y ∈ s, 0 <= y.1 /\ y.1 <= B) : ∀ y ∈ upS x m s, 0 <= y.1 /\ y.1 <= B + 64 := by
 intro y hy
 unfold upS at hy
 obtain ⟨a, ha, rfl⟩ := List.mem_map.1 hy
 have := h a ha
 split <;> (try simp only) <;> omega
theorem m3_loop (N : Nat) (Y : List AV) (w : Nat) (Hv : List AV) (ns : List (Int × Int)) (hn : ns.length < 1000000) (hx : ∀ x ∈ ns, (0 <= x.1 /\ x.1 <= 64) /\ 0 <= x.2 /\ x.2 < (N : Int)) : ∀ (k j : Nat) (p : List Int × List (Int × Int)), j + k = ns.length -> p.1.length = N -> p.2 ≠ [] -> p.2.length < 9999 -> (∀ y ∈ p.2, 0 <= y.1 /\ y.1 <= (64 * j : Nat)) ->
  codeL cfgS 0 (.loop lQmX3) (m3St N Y w p.1 Hv ns p.2 j []) = some (.exit 4, m3St N Y w ((ns.drop j).foldl mkS p).1 Hv ns ((ns.drop j).foldl mkS p).2 ns.length [(81, .bool false)])
 | 0, j, p, hj, ho, hs, hl, hb => by
   obtain rfl : j = ns.length := by omega
   rw [List.drop_length, List.foldl_nil]
   have g5 : (prs2 ns).length = ns.length := List.length_map _
   refine loop_exit ?_
   unfold m3St lQmX3 mkH
   generalize prs2 ns = NS at *
   generalize prs2 p.2 = L at *
   generalize ints p.1 = O at *
   simp [rQmX0, rQmX1, rQmX2, rQmX3, rQmX4, rQmX5, rQmX6, rQmX7, rQmX8, rQmX9, rQmX10, rQmX11, rQmX12, rQmX13, rQmX14, rQmX15, rQmX16, rQmX17, rQmX18, rQmX19, rQmX20, rQmX21, rQmX22, rQmX23, rQmX24, rQmX25, rQmX26, rQmX27, rQmX28, rQmX29, rQmX30, rQmX31, rQmX32, rQmX33, g5]
 | k + 1, j, p, hj, ho, hs, hl, hb => by
   have hlt : j < ns.length := by omega
   rw [List.drop_eq_getElem_cons hlt, List.foldl_cons]
   obtain ⟨x1, x2⟩ := hx _ (List.getElem_mem hlt)
   obtain ⟨lm, ll⟩ := lst_spec hs
   have bm := hb _ lm
   obtain ⟨v, hv⟩ : ∃ v : Nat, ns[j].2 = v := ⟨ns[j].2.toNat, by omega⟩
   have ih := m3_loop N Y w Hv ns hn hx k (j + 1) (mkS p ns[j]) (by omega) (by rw [mkS, List.length_set]; exact ho) (by
    intro e
    have := congrArg List.length e
    rw [mkS, upS_length] at this
    exact hs (List.length_eq_zero_iff.1 this)) (by rw [mkS, upS_length]; exact hl) (by
    have := upS_bd (m := lst p.2) x1 hb
    intro y hy
    have := this y hy
    omega)
   refine Eq.trans ?_ ih
   obtain ⟨o, s⟩ := p
   cases s with
   | nil => exact absurd rfl hs
   | cons z r =>
     have e1 : mkS (o, z :: r) ns[j] = (o.set v (r.foldl minStep z).2, upS ns[j] (r.foldl minStep z) (z :: r)) := by
      unfold mkS
      rw [show ns[j].2.toNat = v by omega]
      rfl
     rw [e1]
     have bm' : 0 <= (r.foldl minStep z).1 /\ (r.foldl minStep z).1 <= (64 * j : Nat) := bm
     exact loop_next (m3_round N Y w o Hv ns hn z r (by simp at hl; omega) j hlt ns[j] (r.foldl minStep z) rfl rfl (by omega) (by omega) v hv (by simp only at ho; omega))
theorem srf_eq (zs : List (Int × Int)) (h : zs.length <= 4294967296) : srfG cfP nQB 2 (prs2 zs) [.func (.func nQB) [] []] = some (prs2 (isortC cfP zs), none) := by
 unfold srfG
 simp only [prs2, List.length_map, LIM, h, and_self, if_true, prsOf_map]
def mkR (D : List Int) (N w : Nat) : List Int × List (Int × Int) := (isortC cfP (nd D N)).foldl mkS (List.replicate N 0, sum0 w)
theorem pmake_run {N : Nat} (hN : N <= 9) {Es : List Ed} (hG : GOK (N : Int) Es) (hE : Es.length < 1000000) {w : Nat} (w1 : 1 <= w) (w8 : w <= 8) {h : Int} (h1 : 1 <= h) :
  callL cfgS nQm [.agg [.int .i64 N, .list 2 (eds Es)], .int .i64 w, .int .i64 h] [] = some (.tup [.agg [.int .i64 w, .list 1 (ints (mkR (dgL (adjE N Es)) N w).1), .list 1 (ints (hvL (dgL (adjE N Es)) h N))], .int .i64 0], []) := by
 have dr := degrees_run hN hG hE
 have wk := workers_run w1 w8
 have lD : (dgL (adjE N Es)).length = N := by rw [dgL, List.length_map]; exact (adj_spec hG).1
 have bD : ∀ x ∈ dgL (adjE N Es), 0 <= x /\ x <= 64 := by
  intro x hx
  obtain ⟨m, hm, rfl⟩ := List.mem_map.1 hx
  have : pc9 m <= 9 := by
   have := List.length_filter_le (fun j => m.testBit j) (List.range 9)
   simpa [pc9] using this
  omega
 unfold mkR
 generalize dgL (adjE N Es) = D at *
 have l0 := m0_loop N (eds Es) w h (List.replicate N (.int .i64 0)) D (by omega) D.length 0 (by omega)
 have lm1 := m1_loop N (eds Es) w (by omega) (List.replicate N (.int .i64 0)) (ints (hvL D h N)) (prs2 (nd D N)) w 0 (by omega)
 have sr := srf_eq (nd D N) (by rw [nd_length]; omega)
 have pm := isortC_perm cfP (nd D N)
 have ln : (isortC cfP (nd D N)).length = N := by rw [isortC_length, nd_length]
 have l3 := m3_loop N (eds Es) w (ints (hvL D h N)) (isortC cfP (nd D N)) (by omega) (fun x hx => by
  have := pm.mem_iff.1 hx
  unfold nd at this
  obtain ⟨i, hi, rfl⟩ := List.mem_map.1 this
  have hi := List.mem_range.1 hi
  refine ⟨?_, by simp only; omega, by simp only; omega⟩
  simp only
  rw [List.getD_eq_getElem?_getD, List.getElem?_eq_getElem (by omega)]
  exact bD _ (List.getElem_mem _)) N 0 (List.replicate N 0, sum0 w) (by omega) (by simp) (by
   intro e
   have := congrArg List.length e
   simp [sum0] at this
   omega) (by simp [sum0]; omega) (by
   intro y hy
   simp only [sum0] at hy
   obtain ⟨i, hi, rfl⟩ := List.mem_map.1 hy
   simp)
 rw [List.drop_zero] at l3
 have ri : List.replicate N (AV.int .i64 0) = ints (List.replicate N 0) := by simp [ints]
 rw [ri] at l0 lm1
 have lo : ((isortC cfP (nd D N)).foldl mkS (List.replicate N 0, sum0 w)).1.length = N := by
  have : ∀ (l : List (Int × Int)) (p : List Int × List (Int × Int)), (l.foldl mkS p).1.length = p.1.length := by
   intro l
   induction l with
   | nil => intro p; rfl
   | cons x r ih => intro p; rw [List.foldl_cons, ih, mkS, List.length_set]
  rw [this]; simp
 generalize (isortC cfP (nd D N)).foldl mkS (List.replicate N 0, sum0 w) = R at *
 unfold m0St at l0
 unfold m1St at lm1
 unfold m3St at l3
 unfold mkH at l0 lm1 l3
 rw [show hvL D h 0 = [] from rfl, show prs2 (nd D 0) = [] from rfl, nat0, ints_nil] at l0
 rw [show prs2 (sum0 0) = [] from rfl, nat0] at lm1
 rw [nat0, ln] at l3
 rw [lD] at l0
 have g5 : (ints D).length = N := by rw [ints_length, lD]
 have g6 : (prs2 (nd D N)).length = N := by rw [prs2, List.length_map, nd_length]
 have g7 : (prs2 (isortC cfP (nd D N))).length = N := by rw [prs2, List.length_map, ln]
 have hn : ¬ h < 1 := by omega
 have nL : (N : Int) <= 4294967296 := by omega
 have nL' : N <= 4294967296 := by omega
 have n0 : ¬ (N : Int) < 0 := by omega
 have tk1 : (prs2 (nd D N)).take N = prs2 (nd D N) := List.take_of_length_le (by omega)
 have tk2 : (ints R.1).take N = ints R.1 := List.take_of_length_le (by rw [ints_length]; omega)
 have tk2' : (ints R.1).take R.1.length = ints R.1 := List.take_of_length_le (by rw [ints_length]; omega)
 have tk3 : (ints (hvL D h N)).take (hvL D h N).length = ints (hvL D h N) := List.take_of_length_le (by rw [ints_length]; omega)
 have tk4 : (prs2 (isortC cfP (nd D N))).take N = prs2 (isortC cfP (nd D N)) := List.take_of_length_le (by omega)
 have tk5 : (ints (List.replicate N 0)).take N = ints (List.replicate N 0) := List.take_of_length_le (by rw [ints_length, List.length_replicate]; omega)
 have gR : (ints R.1).length = N := by rw [ints_length, lo]
 have gH := ints_length (hvL D h N)
 have g0 : (ints (List.replicate N 0)).length = N := by rw [ints_length, List.length_replicate]
 have dp : (prs2 (nd D N)).drop N = [] := List.drop_eq_nil_of_le (by omega)
 rw [callL_end oQm sQm (Nat.le_of_ble_eq_true rfl)]
 unfold qQm cQm
 generalize ints R.1 = OO at *
 generalize ints (hvL D h N) = HV at *
 generalize prs2 R.2 = RS at *
 generalize prs2 (isortC cfP (nd D N)) = NS at *
 generalize prs2 (nd D N) = ND at *
 generalize ints (List.replicate N 0) = O0 at *
 generalize ints D = DD at *
 generalize prs2 (sum0 w) = SW at *
 generalize eds Es = Y at *
 simp [rQmX0, rQmX1, rQmX2, rQmX3, rQmX4, rQmX5, rQmX6, rQmX7, rQmX8, rQmX9, rQmX10, rQmX11, rQmX12, rQmX13, rQmX14, rQmX15, rQmX16, rQmX17, rQmX18, rQmX19, rQmX20, rQmX21, rQmX22, rQmX23, rQmX24, rQmX25, rQmX26, rQmX27, rQmX28, rQmX29, rQmX30, rQmX31, rQmX32, rQmX33, dr, wk, l0, lm1, sr, l3, ri, g0, g5, g6, g7, hn, nL, nL', n0, tk1, tk2, tk2', tk3, tk4, tk5, gR, gH, dp, LIM, blk, sQy, iQy, yQy, lQy, eQy, sQz, iQz, yQz, lQz, eQz, iQA, yQA, lQA, eQA, sQA, plp, plpL, allB, notBox, swC, swS, seesC, inBox, plL, pl, endL, finB, finS]
end Go.BmP
