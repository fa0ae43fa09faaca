/- What cohesionlaw33.SampleWedges returns. -/
import Derived.Test.YtmjjimilhllnoaaGreatDoorUseM
import Derived.Test.YtmjjimilhllnoaaGreatDoorX05
import Derived.Test.YtmjjimilhllnoaaGreatDoorL01
import Derived.KernelRfl
set_option linter.unusedSimpArgs false
set_option linter.unusedVariables false
set_option maxRecDepth 100000
set_option maxHeartbeats 8000000
namespace Go.BmP
open Go.Am Go.Bm
theorem awake33w : callL cfgS nQc [] [] = some (.bool true, []) := callL_iff.2 ⟨3000, by kernel_rfl⟩
theorem nrm_jn {N : Nat} {Es : List Ed} (hG : GOK (N : Int) Es) (u v : Int) : nrmE u v ∈ Es ↔ jn Es u v := by
 unfold jn nrmE
 by_cases q : u <= v
 ·rw [show (if v < u then v else u) = u from if_neg (by omega), show (if u < v then v else u) = v by split <;> omega]
  constructor
  ·exact .inl
  ·rintro (h | h)
   ·exact h
   ·have := (hG.2.2 _ h).2.1; simp at this; omega
 ·rw [show (if v < u then v else u) = v from if_pos (by omega), show (if u < v then v else u) = u from if_neg (by omega)]
  constructor
  ·exact .inr
  ·rintro (h | h)
   ·have := (hG.2.2 _ h).2.1; simp at this; omega
   ·exact h
theorem find_pos {N : Nat} {Es : List Ed} (hG : GOK (N : Int) Es) (hE : Es.length < 1000000) {u v : Int} (h : jn Es u v) : ∃ p : Nat, callL cfgS nQh [.agg [.int .i64 N, .list 2 (eds Es)], .int .i64 u, .int .i64 v] [] = some (.int .i64 p, []) := by
 have f := find_run (N : Int) Es (by omega) hG u v
 rw [if_pos ((nrm_jn hG u v).2 h)] at f
 exact ⟨_, f⟩
theorem find_neg {N : Nat} {Es : List Ed} (hG : GOK (N : Int) Es) (hE : Es.length < 1000000) {u v : Int} (h : ¬ jn Es u v) : callL cfgS nQh [.agg [.int .i64 N, .list 2 (eds Es)], .int .i64 u, .int .i64 v] [] = some (.int .i64 (-1), []) := by
 have f := find_run (N : Int) Es (by omega) hG u v
 rw [if_neg fun q => h ((nrm_jn hG u v).1 q)] at f
 exact f
def nowL (w : Wd) : List Int := [w.2.1, w.1, w.2.2]
theorem cmp_now {x y : Wd} (h : ltW x y) : cmpL (nowL x) (nowL y) = -1 := by
 unfold nowL
 simp only [cmpL]
 rcases h with h | ⟨e, h | ⟨e2, h⟩⟩
 ·rw [if_neg (by omega), if_pos h]
 ·rw [if_neg (by omega), if_neg (by omega), if_neg (by omega), if_pos h]
 ·rw [if_neg (by omega), if_neg (by omega), if_neg (by omega), if_neg (by omega), if_neg (by omega), if_pos h]
def lastL (W : List Wd) : Nat -> List Int
 | 0 => []
 | i + 1 => match W[i]? with
   | some w => nowL w
   | none => []
def pkL (i : Nat) : List Int := (List.range i).map fun k => ((k : Nat) : Int)
theorem pkL_length (i : Nat) : (pkL i).length = i := by simp [pkL]
theorem pkL_succ (i : Nat) : pkL (i + 1) = pkL i ++ [(i : Int)] := by simp [pkL, List.range_succ]
theorem pkL_get (n : Nat) : ∀ i (h : i < (pkL n).length), (pkL n)[i] = (i : Int) := fun i h => by simp [pkL]
def wsSt (l : List Int) (a N : Nat) (Y : List AV) (n : Nat) (P L : List Int) (i : Nat) (J : Env) : St := ⟨(3, .ptr 1 0) :: (4, .int .i64 n) :: (6, .own 1 (ints P)) :: (7, .own 1 (ints L)) :: (8, .int .i64 i) :: J, [dk l a, some [.int .i64 N, .list 2 Y]]⟩
theorem ws_round (l : List Int) (a : Nat) {N : Nat} {Es : List Ed} (hG : GOK (N : Int) Es) (hE : Es.length < 1000000) (i : Nat) (hi : i < (wdgs N Es N).length) :
  codeL cfgS 0 lQaX0 (wsSt l a N (eds Es) (wdgs N Es N).length (pkL i) (lastL (wdgs N Es N) i) i []) = some (.normal, wsSt l a N (eds Es) (wdgs N Es N).length (pkL (i + 1)) (lastL (wdgs N Es N) (i + 1)) (i + 1) []) := by
 have wb := wl_bd hG
 have h2 : (i : Int) < (wdgs N Es N).length := by omega
 have hw := wrapS (i := i) (by omega)
 have wr := wedge_run hG hE i hi
 obtain ⟨m1, m2, m3, m4, m5⟩ := wdgs_mid hG (Nat.le_refl _) (List.getElem_mem hi)
 have nb := nbr_mem hG m1 m2
 obtain ⟨p1, f1⟩ := find_pos hG hE (u := (wdgs N Es N)[i].1) (v := (wdgs N Es N)[i].2.1) (by have := (nb _).1 m3; unfold jn at *; exact this.symm)
 obtain ⟨p2, f2⟩ := find_pos hG hE (u := (wdgs N Es N)[i].2.1) (v := (wdgs N Es N)[i].2.2) ((nb _).1 m4)
 have f3 : ∃ z : Int, callL cfgS nQh [.agg [.int .i64 N, .list 2 (eds Es)], .int .i64 (wdgs N Es N)[i].1, .int .i64 (wdgs N Es N)[i].2.2] [] = some (.int .i64 z, []) /\ decide (0 <= z) = cls Es (wdgs N Es N)[i] := by
  by_cases q : jn Es (wdgs N Es N)[i].1 (wdgs N Es N)[i].2.2
  ·obtain ⟨p, f⟩ := find_pos hG hE q
   exact ⟨p, f, by unfold cls; rw [decide_eq_true q]; exact decide_eq_true (by omega)⟩
  ·exact ⟨-1, find_neg hG hE q, by unfold cls; rw [decide_eq_false q]; rfl⟩
 obtain ⟨z, f3, hz⟩ := f3
 have el : lastL (wdgs N Es N) (i + 1) = nowL (wdgs N Es N)[i] := by simp only [lastL]; rw [List.getElem?_eq_getElem hi]
 have hc : 0 < i -> cmpL (lastL (wdgs N Es N) i) (nowL (wdgs N Es N)[i]) = -1 := by
  intro h0
  obtain ⟨j, rfl⟩ : ∃ j, i = j + 1 := ⟨i - 1, by omega⟩
  simp only [lastL]
  rw [List.getElem?_eq_getElem (by omega)]
  exact cmp_now (List.pairwise_iff_getElem.1 (wdgs_lt hG (Nat.le_refl _)) j (j + 1) (by omega) hi (by omega))
 have ll : (lastL (wdgs N Es N) i).length <= 3 := by
  cases i with
  | zero => simp [lastL]
  | succ j => simp only [lastL]; rw [List.getElem?_eq_getElem (by omega)]; simp [nowL]
 have cr := cmp_run (lastL (wdgs N Es N) i) (nowL (wdgs N Es N)[i]) (by omega) (by simp [nowL])
 rw [el, pkL_succ]
 have lp := pkL_length i
 have hL : i + 1 <= 4294967296 := by omega
 have tk : (ints (pkL i) ++ [AV.int .i64 (i : Int)]).take (i + 1) = ints (pkL i) ++ [AV.int .i64 (i : Int)] := List.take_of_length_le (by rw [List.length_append, ints_length, lp]; exact Nat.le_refl _)
 unfold nowL at *
 generalize lastL (wdgs N Es N) i = La at *
 generalize (wdgs N Es N)[i] = w at *
 generalize cls Es w = q at *
 generalize (wdgs N Es N).length = n at *
 generalize pkL i = P at *
 obtain ⟨w0, w1, w2⟩ := w
 simp only at *
 have tp : (ints P).take i = ints P := List.take_of_length_le (by rw [ints_length, lp]; exact Nat.le_refl _)
 have tl : (ints La).take La.length = ints La := by rw [ints_take, List.take_length]
 have z1 : ¬ (p1 : Int) < 0 := by omega
 have z2 : ¬ (p2 : Int) < 0 := by omega
 have z3 : ¬ w2 <= w0 := by omega
 clear m1 m2 m3 m4 nb hG hi wb
 generalize eds Es = Y at *
 unfold lQaX0 wsSt dk
 rw [<- ints_snoc]
 rw [show ints [w0, w1, w2] = [.int .i64 w0, .int .i64 w1, .int .i64 w2] from rfl] at wr
 rw [show ints [w1, w0, w2] = [.int .i64 w1, .int .i64 w0, .int .i64 w2] from rfl] at cr ⊢
 by_cases y : 0 <= z
 ·rw [decide_eq_true y] at hz
  subst hz
  by_cases h0 : 0 < i
  ·have h0' : (0 : Int) < i := by omega
   rw [hc h0] at cr
   simp [rQaX0, rQaX1, rQaX2, rQaX3, rQaX4, rQaX5, rQaX6, rQaX7, rQaX8, rQaX9, rQaX10, rQaX11, rQaX12, rQaX13, rQaX14, rQaX15, rQaX16, rQaX17, rQaX18, rQaX19, rQaX20, y, h0, h0', cr, h2, hw, wr, f1, f2, f3, z1, z2, z3, hL, tk, tp, tl, lp, LIM, idx, eqA, eqc, ints_length, sQg, iQg, sQh, iQh, sQi, iQi, plp, plpL, allB, notBox, swC, swS, seesC, inBox, relB, handBox, mvBB, mvRtB, blk, eds_length, eds_get, edsAt, edAV, allLeaf_eds, cleanL_eds, cleanL_ints, ints_length, ints_get, intsAt, endL, finB]
  ·have h0' : ¬ (0 : Int) < i := by omega
   simp [rQaX0, rQaX1, rQaX2, rQaX3, rQaX4, rQaX5, rQaX6, rQaX7, rQaX8, rQaX9, rQaX10, rQaX11, rQaX12, rQaX13, rQaX14, rQaX15, rQaX16, rQaX17, rQaX18, rQaX19, rQaX20, y, h0, h0', h2, hw, wr, f1, f2, f3, z1, z2, z3, hL, tk, tp, tl, lp, LIM, idx, eqA, eqc, ints_length, sQg, iQg, sQh, iQh, sQi, iQi, plp, plpL, allB, notBox, swC, swS, seesC, inBox, relB, handBox, mvBB, mvRtB, blk, eds_length, eds_get, edsAt, edAV, allLeaf_eds, cleanL_eds, cleanL_ints, ints_length, ints_get, intsAt, endL, finB]
 ·rw [decide_eq_false y] at hz
  subst hz
  by_cases h0 : 0 < i
  ·have h0' : (0 : Int) < i := by omega
   rw [hc h0] at cr
   simp [rQaX0, rQaX1, rQaX2, rQaX3, rQaX4, rQaX5, rQaX6, rQaX7, rQaX8, rQaX9, rQaX10, rQaX11, rQaX12, rQaX13, rQaX14, rQaX15, rQaX16, rQaX17, rQaX18, rQaX19, rQaX20, y, h0, h0', cr, h2, hw, wr, f1, f2, f3, z1, z2, z3, hL, tk, tp, tl, lp, LIM, idx, eqA, eqc, ints_length, sQg, iQg, sQh, iQh, sQi, iQi, plp, plpL, allB, notBox, swC, swS, seesC, inBox, relB, handBox, mvBB, mvRtB, blk, eds_length, eds_get, edsAt, edAV, allLeaf_eds, cleanL_eds, cleanL_ints, ints_length, ints_get, intsAt, endL, finB]
  ·have h0' : ¬ (0 : Int) < i := by omega
   simp [rQaX0, rQaX1, rQaX2, rQaX3, rQaX4, rQaX5, rQaX6, rQaX7, rQaX8, rQaX9, rQaX10, rQaX11, rQaX12, rQaX13, rQaX14, rQaX15, rQaX16, rQaX17, rQaX18, rQaX19, rQaX20, y, h0, h0', h2, hw, wr, f1, f2, f3, z1, z2, z3, hL, tk, tp, tl, lp, LIM, idx, eqA, eqc, ints_length, sQg, iQg, sQh, iQh, sQi, iQi, plp, plpL, allB, notBox, swC, swS, seesC, inBox, relB, handBox, mvBB, mvRtB, blk, eds_length, eds_get, edsAt, edAV, allLeaf_eds, cleanL_eds, cleanL_ints, ints_length, ints_get, intsAt, endL, finB]
theorem ws_loop (l : List Int) (a : Nat) {N : Nat} {Es : List Ed} (hG : GOK (N : Int) Es) (hE : Es.length < 1000000) : ∀ n i : Nat, i + n = (wdgs N Es N).length ->
  codeL cfgS 0 (.loop lQaX0) (wsSt l a N (eds Es) (wdgs N Es N).length (pkL i) (lastL (wdgs N Es N) i) i []) = some (.exit 0, wsSt l a N (eds Es) (wdgs N Es N).length (pkL (wdgs N Es N).length) (lastL (wdgs N Es N) (wdgs N Es N).length) (wdgs N Es N).length [(34, .bool false)])
 | 0, i, e => by
   obtain rfl : i = (wdgs N Es N).length := by omega
   generalize (wdgs N Es N).length = n at *
   exact loop_exit (by unfold lQaX0 wsSt dk; simp [rQaX0, rQaX1, rQaX2, rQaX3, rQaX4, rQaX5, rQaX6, rQaX7, rQaX8, rQaX9, rQaX10, rQaX11, rQaX12, rQaX13, rQaX14, rQaX15, rQaX16, rQaX17, rQaX18, rQaX19, rQaX20, blk, eds_length, eds_get, edsAt, edAV, allLeaf_eds, cleanL_eds, cleanL_ints, ints_length, ints_get, intsAt, endL, finB])
 | n + 1, i, e => (loop_next (ws_round l a hG hE i (by omega))).trans (ws_loop l a hG hE n (i + 1) (by omega))
theorem wedgelaw_run (l : List Int) : callL cfgS nQa [.list 1 (ints l)] [] = some (.bool true, []) := by
 rw [callL_end oQa sQa (Nat.le_of_ble_eq_true rfl)]
 have aw := awake33w
 have few := few_run l
 by_cases hl : (l.length : Int) <= 500
 case neg =>
  unfold qQa cQa
  simp [rQaX0, rQaX1, rQaX2, rQaX3, rQaX4, rQaX5, rQaX6, rQaX7, rQaX8, rQaX9, rQaX10, rQaX11, rQaX12, rQaX13, rQaX14, rQaX15, rQaX16, rQaX17, rQaX18, rQaX19, rQaX20, few, hl, aw, sQb, iQb, sQc, iQc, blk, eds_length, eds_get, edsAt, edAV, allLeaf_eds, cleanL_eds, cleanL_ints, ints_length, ints_get, intsAt, endL, finB]
 have hl5 : l.length <= 500 := by omega
 have n1 := new_run l
 obtain ⟨N, Es, a1, n2, hG, hN, hEl⟩ := graph_run l hl5 8 (by omega) 0
 have hE : Es.length < 1000000 := by omega
 have wl := rwedges_run hG hE
 obtain ⟨_, _, wbad, _, _⟩ := wedge_bad hG hE
 have bw := byw_run hG hE (pkL (wdgs N Es N).length) (pkL_length _) (pkL_get _)
 have wh := whole29_run hG hE
 have lp := ws_loop l a1 hG hE (wdgs N Es N).length 0 (by omega)
 have lk := pkL_length (wdgs N Es N).length
 have tk : (ints (pkL (wdgs N Es N).length)).take (wdgs N Es N).length = ints (pkL (wdgs N Es N).length) := List.take_of_length_le (by rw [ints_length, lk]; exact Nat.le_refl _)
 unfold FX fr at bw wh
 generalize max (wdgs N Es N).length 1 = m3 at *
 generalize 3 * tri N Es = t3 at *
 generalize t3 / Nat.gcd t3 m3 = x at *
 generalize m3 / Nat.gcd t3 m3 = y at *
 unfold wsSt at lp
 rw [show pkL 0 = [] from rfl, show lastL (wdgs N Es N) 0 = [] from rfl] at lp
 generalize lastL (wdgs N Es N) (wdgs N Es N).length = La at *
 generalize pkL (wdgs N Es N).length = P at *
 generalize (wdgs N Es N).length = n at *
 unfold dk at n1 n2 lp
 simp only [nat0, ints_nil, show ((8 : Nat) : Int) = 8 from rfl] at n1 n2 lp
 unfold qQa cQa
 generalize eds Es = Y at *
 clear hG
 simp [rQaX0, rQaX1, rQaX2, rQaX3, rQaX4, rQaX5, rQaX6, rQaX7, rQaX8, rQaX9, rQaX10, rQaX11, rQaX12, rQaX13, rQaX14, rQaX15, rQaX16, rQaX17, rQaX18, rQaX19, rQaX20, few, hl, n1, n2, wl, wbad, bw, wh, lp, lk, tk, aw, ints_length, eqA, eqc, sQb, iQb, sQe, iQe, sQd, iQd, sQf, iQf, sQg, iQg, sQj, iQj, sQk, iQk, sQc, iQc, plp, plpL, allB, notBox, swC, swS, seesC, inBox, relB, handBox, mvBB, mvRtB, blk, eds_length, eds_get, edsAt, edAV, allLeaf_eds, cleanL_eds, cleanL_ints, ints_length, ints_get, intsAt, endL, finB]
end Go.BmP
