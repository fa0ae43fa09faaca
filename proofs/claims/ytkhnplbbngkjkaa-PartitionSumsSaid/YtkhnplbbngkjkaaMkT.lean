/- partition.Make: the loop that lays the workers' sums. -/
import Derived.Test.YtkhnplbbngkjkaaUseM
import Derived.Test.YtkhnplbbngkjkaaMnP
set_option linter.unusedSimpArgs false
set_option linter.unusedVariables false
set_option maxRecDepth 100000
set_option maxHeartbeats 4000000
namespace Go.BmP
open Go.Am Go.Bm
def mkH (N : Nat) (Y : List AV) (w : Nat) (O Hv : List AV) : Heap := [some [.int .i64 N, .list 2 Y], some [.int .i64 0, .own 1 [], .own 1 []], some [.int .i64 w, .own 1 O, .own 1 Hv]]
def sum0 (i : Nat) : List (Int × Int) := (List.range i).map fun j => ((0 : Int), ((j : Nat) : Int))
theorem sum0_length (i : Nat) : (sum0 i).length = i := by simp [sum0]
theorem sum0_succ (i : Nat) : sum0 (i + 1) = sum0 i ++ [((0 : Int), ((i : Nat) : Int))] := by simp [sum0, List.range_succ]
def m1St (N : Nat) (Y : List AV) (w : Nat) (O Hv ns : List AV) (i : Nat) (J : Env) : St := ⟨(6, .ptr 1 0) :: (10, .ptr 2 0) :: (11, .own 2 ns) :: (12, .own 2 (prs2 (sum0 i))) :: (66, .int .i64 w) :: (67, .int .i64 i) :: J, mkH N Y w O Hv⟩
theorem m1_loop (N : Nat) (Y : List AV) (w : Nat) (hw8 : w <= 64) (O Hv ns : List AV) : ∀ (k i : Nat), i + k = w -> codeL cfgS 0 (.loop lQmX1) (m1St N Y w O Hv ns i []) = some (.exit 2, m1St N Y w O Hv ns w [(68, .bool false)])
 | 0, i, hi => by
   obtain rfl : i = w := by omega
   refine loop_exit ?_
   unfold m1St lQmX1 mkH
   generalize prs2 (sum0 i) = L at *
   simp [rQmX0, rQmX1, rQmX2, rQmX3, rQmX4, rQmX5, rQmX6, rQmX7, rQmX8, rQmX9, rQmX10, rQmX11, rQmX12, rQmX13, rQmX14, rQmX15, rQmX16, rQmX17, rQmX18, rQmX19, rQmX20, rQmX21, rQmX22, rQmX23, rQmX24, rQmX25, rQmX26, rQmX27, rQmX28, rQmX29, rQmX30, rQmX31, rQmX32, rQmX33]
 | k + 1, i, hi => by
   have hlt : i < w := by omega
   refine (loop_next ?_).trans (m1_loop N Y w hw8 O Hv ns k (i + 1) (by omega))
   have k1 : (i : Int) < w := by omega
   have hw := wrapS (i := i) (by omega)
   have hL : i + 1 <= 4294967296 := by omega
   have g5 : (prs2 (sum0 i)).length = i := by rw [prs2, List.length_map, sum0_length]
   have sn : prs2 (sum0 i) ++ [.agg [.int .i64 0, .int .i64 i]] = prs2 (sum0 (i + 1)) := by rw [sum0_succ]; simp [prs2, pr2]
   have tk : (prs2 (sum0 (i + 1))).take (i + 1) = prs2 (sum0 (i + 1)) := List.take_of_length_le (by rw [prs2, List.length_map, sum0_length]; omega)
   have tko : (prs2 (sum0 i)).take i = prs2 (sum0 i) := List.take_of_length_le (by omega)
   unfold m1St lQmX1 mkH
   generalize prs2 (sum0 (i + 1)) = L2 at *
   generalize prs2 (sum0 i) = L at *
   simp [rQmX0, rQmX1, rQmX2, rQmX3, rQmX4, rQmX5, rQmX6, rQmX7, rQmX8, rQmX9, rQmX10, rQmX11, rQmX12, rQmX13, rQmX14, rQmX15, rQmX16, rQmX17, rQmX18, rQmX19, rQmX20, rQmX21, rQmX22, rQmX23, rQmX24, rQmX25, rQmX26, rQmX27, rQmX28, rQmX29, rQmX30, rQmX31, rQmX32, rQmX33, k1, hlt, hw, hL, g5, sn, tk, tko, LIM, blk, plp, plpL, allB, notBox, swC, swS, seesC, inBox]
end Go.BmP
/- partition.Make: the loop that lays the nodes and the heavy ones. -/
set_option linter.unusedSimpArgs false
set_option linter.unusedVariables false
set_option maxRecDepth 100000
set_option maxHeartbeats 4000000
namespace Go.BmP
open Go.Am Go.Bm
def nd (D : List Int) (i : Nat) : List (Int × Int) := (List.range i).map fun v => (D.getD v 0, ((v : Nat) : Int))
theorem nd_length (D : List Int) (i : Nat) : (nd D i).length = i := by simp [nd]
theorem nd_succ (D : List Int) (i : Nat) : nd D (i + 1) = nd D i ++ [(D.getD i 0, ((i : Nat) : Int))] := by simp [nd, List.range_succ]
def hvL (D : List Int) (h : Int) (i : Nat) : List Int := ((List.range i).filter fun v => decide (h <= D.getD v 0)).map fun v => ((v : Nat) : Int)
theorem hvL_length (D : List Int) (h : Int) (i : Nat) : (hvL D h i).length <= i := by
 unfold hvL
 rw [List.length_map]
 exact Nat.le_trans (List.length_filter_le _ _) (by simp)
theorem hvL_succ (D : List Int) (h : Int) (i : Nat) : hvL D h (i + 1) = if h <= D.getD i 0 then hvL D h i ++ [((i : Nat) : Int)] else hvL D h i := by
 unfold hvL
 rw [List.range_succ, List.filter_append, List.map_append]
 by_cases k : h <= D.getD i 0
 ·have e : List.filter (fun v => decide (h <= D.getD v 0)) [i] = [i] := List.filter_cons_of_pos (decide_eq_true k)
  rw [if_pos k, e]; rfl
 ·have e : List.filter (fun v => decide (h <= D.getD v 0)) [i] = [] := List.filter_cons_of_neg (by rw [decide_eq_false k]; exact Bool.false_ne_true)
  rw [if_neg k, e]; simp
def m0St (N : Nat) (Y : List AV) (w : Nat) (h : Int) (O : List AV) (D : List Int) (i : Nat) (J : Env) : St := ⟨(1, .int .i64 w) :: (2, .int .i64 h) :: (6, .ptr 1 0) :: (10, .ptr 2 0) :: (11, .own 2 (prs2 (nd D i))) :: (12, .own 2 []) :: (43, .list 1 (ints D)) :: (44, .int .i64 D.length) :: (45, .int .i64 i) :: J, mkH N Y w O (ints (hvL D h i))⟩
theorem m0_round (N : Nat) (Y : List AV) (w : Nat) (h : Int) (O : List AV) (D : List Int) (hD : D.length < 1000000) (i : Nat) (hlt : i < D.length) : codeL cfgS 0 lQmX0 (m0St N Y w h O D i []) = some (.normal, m0St N Y w h O D (i + 1) []) := by
 have k1 : (i : Int) < D.length := by omega
 have hw := wrapS (i := i) (by omega)
 have hL : i + 1 <= 4294967296 := by omega
 have g3 : (ints D)[i]? = some (.int .i64 (D.getD i 0)) := by rw [ints_get, List.getElem?_eq_getElem hlt]; simp [List.getD_eq_getElem?_getD, List.getElem?_eq_getElem hlt]
 have g4 : ∀ h, (ints D)[i]'h = .int .i64 (D.getD i 0) := fun h => by
  have := List.getElem?_eq_getElem (l := ints D) h
  rw [g3] at this
  exact (Option.some.inj this).symm
 have gD := ints_length D
 have g5 : (prs2 (nd D i)).length = i := by rw [prs2, List.length_map, nd_length]
 have sn : prs2 (nd D i) ++ [.agg [.int .i64 (D.getD i 0), .int .i64 i]] = prs2 (nd D (i + 1)) := by rw [nd_succ]; simp [prs2, pr2]
 have tk : (prs2 (nd D (i + 1))).take (i + 1) = prs2 (nd D (i + 1)) := List.take_of_length_le (by rw [prs2, List.length_map, nd_length]; omega)
 have tko : (prs2 (nd D i)).take i = prs2 (nd D i) := List.take_of_length_le (by omega)
 have lh := hvL_length D h i
 have g6 : (ints (hvL D h i)).length = (hvL D h i).length := ints_length _
 have hL2 : (hvL D h i).length + 1 <= 4294967296 := by omega
 have es := hvL_succ D h i
 have sh : ints (hvL D h i) ++ [.int .i64 i] = ints (hvL D h i ++ [((i : Nat) : Int)]) := by simp [ints]
 have th : (ints (hvL D h i ++ [((i : Nat) : Int)])).take ((hvL D h i).length + 1) = ints (hvL D h i ++ [((i : Nat) : Int)]) := List.take_of_length_le (by rw [ints_length]; simp)
 have tho : (ints (hvL D h i)).take (hvL D h i).length = ints (hvL D h i) := List.take_of_length_le (by rw [ints_length]; omega)
 unfold m0St
 rw [es]
 clear es
 generalize D.getD i 0 = d at *
 unfold lQmX0 mkH
 by_cases c : h <= d
 ·rw [if_pos c]
  generalize ints (hvL D h i ++ [((i : Nat) : Int)]) = H2 at *
  generalize ints (hvL D h i) = Hv at *
  generalize prs2 (nd D (i + 1)) = L2 at *
  generalize prs2 (nd D i) = L at *
  generalize ints D = DD at *
  simp [rQmX0, rQmX1, rQmX2, rQmX3, rQmX4, rQmX5, rQmX6, rQmX7, rQmX8, rQmX9, rQmX10, rQmX11, rQmX12, rQmX13, rQmX14, rQmX15, rQmX16, rQmX17, rQmX18, rQmX19, rQmX20, rQmX21, rQmX22, rQmX23, rQmX24, rQmX25, rQmX26, rQmX27, rQmX28, rQmX29, rQmX30, rQmX31, rQmX32, rQmX33, k1, hlt, hw, hL, g3, g4, gD, g5, sn, tk, tko, g6, hL2, sh, th, tho, c, LIM, idx, blk, plp, plpL, allB, notBox, swC, swS, seesC, inBox]
 ·rw [if_neg c]
  generalize ints (hvL D h i) = Hv at *
  generalize prs2 (nd D (i + 1)) = L2 at *
  generalize prs2 (nd D i) = L at *
  generalize ints D = DD at *
  simp [rQmX0, rQmX1, rQmX2, rQmX3, rQmX4, rQmX5, rQmX6, rQmX7, rQmX8, rQmX9, rQmX10, rQmX11, rQmX12, rQmX13, rQmX14, rQmX15, rQmX16, rQmX17, rQmX18, rQmX19, rQmX20, rQmX21, rQmX22, rQmX23, rQmX24, rQmX25, rQmX26, rQmX27, rQmX28, rQmX29, rQmX30, rQmX31, rQmX32, rQmX33, k1, hlt, hw, hL, g3, g4, gD, g5, sn, tk, tko, g6, hL2, tho, c, LIM, idx, blk, plp, plpL, allB, notBox, swC, swS, seesC, inBox]
theorem m0_loop (N : Nat) (Y : List AV) (w : Nat) (h : Int) (O : List AV) (D : List Int) (hD : D.length < 1000000) : ∀ (k i : Nat), i + k = D.length -> codeL cfgS 0 (.loop lQmX0) (m0St N Y w h O D i []) = some (.exit 0, m0St N Y w h O D D.length [(46, .bool false)])
 | 0, i, hi => by
   obtain rfl : i = D.length := by omega
   refine loop_exit ?_
   unfold m0St lQmX0 mkH
   generalize prs2 (nd D D.length) = L at *
   generalize ints (hvL D h D.length) = Hv at *
   generalize ints D = DD at *
   simp [rQmX0, rQmX1, rQmX2, rQmX3, rQmX4, rQmX5, rQmX6, rQmX7, rQmX8, rQmX9, rQmX10, rQmX11, rQmX12, rQmX13, rQmX14, rQmX15, rQmX16, rQmX17, rQmX18, rQmX19, rQmX20, rQmX21, rQmX22, rQmX23, rQmX24, rQmX25, rQmX26, rQmX27, rQmX28, rQmX29, rQmX30, rQmX31, rQmX32, rQmX33]
 | k + 1, i, hi => (loop_next (m0_round N Y w h O D hD i (by omega))).trans (m0_loop N Y w h O D hD k (i + 1) (by omega))
end Go.BmP
/- partition.Make: the sum of the least worker grows. -/
set_option linter.unusedSimpArgs false
set_option linter.unusedVariables false
set_option maxRecDepth 100000
set_option maxHeartbeats 4000000
namespace Go.BmP
open Go.Am Go.Bm
def m2St (N : Nat) (Y : List AV) (w : Nat) (O Hv ns : List AV) (j : Nat) (x m : Int × Int) (s : List (Int × Int)) (i : Nat) (J : Env) : St := ⟨(6, .ptr 1 0) :: (10, .ptr 2 0) :: (12, .own 2 (prs2 s)) :: (17, .ptr 3 0) :: (18, .ptr 4 0) :: (78, .own 2 ns) :: (79, .int .i64 ns.length) :: (80, .int .i64 j) :: (86, .bor 2 (.s 12) 0 s.length) :: (87, .int .i64 s.length) :: (88, .int .i64 i) :: J, mkH N Y w O Hv ++ [some [.int .i64 x.1, .int .i64 x.2], some [.int .i64 m.1, .int .i64 m.2]]⟩
def grw (x m : Int × Int) (s : List (Int × Int)) (i : Nat) (y : Int × Int) : List (Int × Int) := if y = m then s.set i (y.1 + x.1, y.2) else s
theorem m2_round (N : Nat) (Y : List AV) (w : Nat) (O Hv ns : List AV) (j : Nat) (x m : Int × Int) (s : List (Int × Int)) (hs : s.length < 1000000) (i : Nat) (hlt : i < s.length) (hx : 0 <= x.1 /\ x.1 < 1000000000) (hm : 0 <= m.1 /\ m.1 < 1000000000) : codeL cfgS 0 lQmX2 (m2St N Y w O Hv ns j x m s i []) = some (.normal, m2St N Y w O Hv ns j x m (grw x m s i s[i]) (i + 1) []) := by
 have k1 : (i : Int) < s.length := by omega
 have hw := wrapS (i := i) (by omega)
 have g5 : (prs2 s).length = s.length := List.length_map _
 have g3 : (prs2 s)[i]? = some (pr2 s[i]) := by unfold prs2; rw [List.getElem?_map, List.getElem?_eq_getElem hlt]; rfl
 have g4 : ∀ h, (prs2 s)[i]'h = pr2 s[i] := fun h => by
  have := List.getElem?_eq_getElem (l := prs2 s) h
  rw [g3] at this
  exact (Option.some.inj this).symm
 have tk : (prs2 s).take s.length = prs2 s := List.take_of_length_le (by omega)
 generalize s[i] = y at *
 have b1 : (prs2 s).set i (pr2 (y.1 + x.1, y.2)) = prs2 (s.set i (y.1 + x.1, y.2)) := by simp [prs2, List.map_set]
 have ls : (s.set i (y.1 + x.1, y.2)).length = s.length := List.length_set
 unfold grw
 by_cases e : y = m
 ·rw [if_pos e]
  subst e
  have q1 : IntKind.i64.wrap (y.1 + x.1) = y.1 + x.1 := wrap_id (by omega) (by omega)
  unfold m2St lQmX2 mkH
  rw [ls]
  obtain ⟨a, b⟩ := y
  obtain ⟨u, v⟩ := x
  unfold pr2 at g3 g4 b1
  simp only at g3 g4 b1 q1 ⊢
  generalize prs2 (s.set i (a + u, b)) = L2 at *
  generalize prs2 s = L at *
  generalize s.length = n at *
  simp [rQmX0, rQmX1, rQmX2, rQmX3, rQmX4, rQmX5, rQmX6, rQmX7, rQmX8, rQmX9, rQmX10, rQmX11, rQmX12, rQmX13, rQmX14, rQmX15, rQmX16, rQmX17, rQmX18, rQmX19, rQmX20, rQmX21, rQmX22, rQmX23, rQmX24, rQmX25, rQmX26, rQmX27, rQmX28, rQmX29, rQmX30, rQmX31, rQmX32, rQmX33, k1, hlt, hw, g3, g4, g5, tk, b1, q1, eqA, eqc, idx, blk, plp, plpL, allB, notBox, swC, swS, seesC, inBox]
 ·rw [if_neg e]
  obtain ⟨a, b⟩ := y
  obtain ⟨p, q⟩ := m
  obtain ⟨u, v⟩ := x
  unfold pr2 at g3 g4
  try simp only at g3 g4
  have be : ¬ (a = p /\ b = q) := fun h => e (Prod.ext h.1 h.2)
  have be2 : a = p -> ¬ b = q := fun h h2 => e (Prod.ext h h2)
  unfold m2St lQmX2 mkH
  clear b1 ls e
  generalize prs2 s = L at *
  generalize s.length = n at *
  simp [rQmX0, rQmX1, rQmX2, rQmX3, rQmX4, rQmX5, rQmX6, rQmX7, rQmX8, rQmX9, rQmX10, rQmX11, rQmX12, rQmX13, rQmX14, rQmX15, rQmX16, rQmX17, rQmX18, rQmX19, rQmX20, rQmX21, rQmX22, rQmX23, rQmX24, rQmX25, rQmX26, rQmX27, rQmX28, rQmX29, rQmX30, rQmX31, rQmX32, rQmX33, k1, hlt, hw, g3, g4, g5, tk, be, be2, eqA, eqc, idx, blk, plp, plpL, allB, notBox, swC, swS, seesC, inBox]
end Go.BmP
/- partition.Make: all sums that equal the least one grow. -/
set_option linter.unusedSimpArgs false
set_option linter.unusedVariables false
set_option maxRecDepth 100000
set_option maxHeartbeats 4000000
namespace Go.BmP
open Go.Am Go.Bm
def upS (x m : Int × Int) (s : List (Int × Int)) : List (Int × Int) := s.map fun y => if y = m then (y.1 + x.1, y.2) else y
theorem upS_length (x m : Int × Int) (s : List (Int × Int)) : (upS x m s).length = s.length := List.length_map _
theorem grw_mid (x m : Int × Int) (A : List (Int × Int)) (y : Int × Int) (R : List (Int × Int)) : grw x m (A ++ y :: R) A.length y = A ++ (if y = m then (y.1 + x.1, y.2) else y) :: R := by
 unfold grw
 split
 ·rw [List.set_append_right _ _ (Nat.le_refl _), Nat.sub_self]; rfl
 ·rfl
theorem m2_loop (N : Nat) (Y : List AV) (w : Nat) (O Hv ns : List AV) (j : Nat) (x m : Int × Int) (hx : 0 <= x.1 /\ x.1 < 1000000000) (hm : 0 <= m.1 /\ m.1 < 1000000000) : ∀ (R A : List (Int × Int)), (A ++ R).length < 1000000 ->
  codeL cfgS 0 (.loop lQmX2) (m2St N Y w O Hv ns j x m (A ++ R) A.length []) = some (.exit 6, m2St N Y w O Hv ns j x m (A ++ upS x m R) (A ++ R).length [(89, .bool false)])
 | [], A, hl => by
   rw [show upS x m [] = [] from rfl, List.append_nil]
   have g5 : (prs2 A).length = A.length := List.length_map _
   refine loop_exit ?_
   unfold m2St lQmX2 mkH
   generalize prs2 A = L at *
   simp [rQmX0, rQmX1, rQmX2, rQmX3, rQmX4, rQmX5, rQmX6, rQmX7, rQmX8, rQmX9, rQmX10, rQmX11, rQmX12, rQmX13, rQmX14, rQmX15, rQmX16, rQmX17, rQmX18, rQmX19, rQmX20, rQmX21, rQmX22, rQmX23, rQmX24, rQmX25, rQmX26, rQmX27, rQmX28, rQmX29, rQmX30, rQmX31, rQmX32, rQmX33, g5]
 | y :: R, A, hl => by
   have hlt : A.length < (A ++ y :: R).length := by simp
   have r := m2_round N Y w O Hv ns j x m (A ++ y :: R) hl A.length hlt hx hm
   have e : (A ++ y :: R)[A.length] = y := by simp
   rw [e, grw_mid] at r
   have ih := m2_loop N Y w O Hv ns j x m hx hm R (A ++ [if y = m then (y.1 + x.1, y.2) else y]) (by simp at hl ⊢; omega)
   have e2 : (A ++ [if y = m then (y.1 + x.1, y.2) else y]).length = A.length + 1 := by simp
   have e3 : (A ++ [if y = m then (y.1 + x.1, y.2) else y] ++ R).length = (A ++ y :: R).length := by simp
   have e4 : A ++ [if y = m then (y.1 + x.1, y.2) else y] ++ upS x m R = A ++ upS x m (y :: R) := by simp [upS]
   have e5 : A ++ [if y = m then (y.1 + x.1, y.2) else y] ++ R = A ++ (if y = m then (y.1 + x.1, y.2) else y) :: R := by simp
   rw [e3, e4, e2, e5] at ih
   exact (loop_next r).trans ih
end Go.BmP
/- partition.Make: one node goes to the least worker. -/
set_option linter.unusedSimpArgs false
set_option linter.unusedVariables false
set_option maxRecDepth 100000
set_option maxHeartbeats 4000000
namespace Go.BmP
open Go.Am Go.Bm
def m3St (N : Nat) (Y : List AV) (w : Nat) (o : List Int) (Hv : List AV) (ns : List (Int × Int)) (s : List (Int × Int)) (j : Nat) (J : Env) : St := ⟨(6, .ptr 1 0) :: (10, .ptr 2 0) :: (12, .own 2 (prs2 s)) :: (78, .own 2 (prs2 ns)) :: (79, .int .i64 ns.length) :: (80, .int .i64 j) :: J, mkH N Y w (ints o) Hv⟩
theorem m3_round (N : Nat) (Y : List AV) (w : Nat) (o : List Int) (Hv : List AV) (ns : List (Int × Int)) (hn : ns.length < 1000000) (z : Int × Int) (r : List (Int × Int)) (hr : r.length < 99999) (j : Nat) (hlt : j < ns.length) (x m : Int × Int) (ex : ns[j] = x) (em : r.foldl minStep z = m) (hx : 0 <= x.1 /\ x.1 < 1000000000) (hm : 0 <= m.1 /\ m.1 < 1000000000) (v : Nat) (ev : x.2 = v) (hv : v < o.length) :
  codeL cfgS 0 lQmX3 (m3St N Y w o Hv ns (z :: r) j []) = some (.normal, m3St N Y w (o.set v m.2) Hv ns (upS x m (z :: r)) (j + 1) []) := by
 have k1 : (j : Int) < ns.length := by omega
 have kv : (v : Int) < o.length := by omega
 have hw := wrapS (i := j) (by omega)
 have g5 : (prs2 ns).length = ns.length := List.length_map _
 have g3 : (prs2 ns)[j]? = some (pr2 x) := by unfold prs2; rw [List.getElem?_map, List.getElem?_eq_getElem hlt, ex]; rfl
 have g4 : ∀ h, (prs2 ns)[j]'h = pr2 x := fun h => by
  have := List.getElem?_eq_getElem (l := prs2 ns) h
  rw [g3] at this
  exact (Option.some.inj this).symm
 have mn := min_run z r (by omega)
 rw [em] at mn
 have lp := m2_loop N Y w (ints o) Hv (prs2 ns) j x m hx hm (z :: r) [] (by simp; omega)
 rw [List.nil_append, List.nil_append, show ([] : List (Int × Int)).length = 0 from rfl] at lp
 have gs : (prs2 (z :: r)).length = (z :: r).length := List.length_map _
 have gu : (prs2 (upS x m (z :: r))).length = (z :: r).length := by rw [prs2, List.length_map, upS_length]
 have tkL : (prs2 (z :: r)).take (z :: r).length = prs2 (z :: r) := List.take_of_length_le (by omega)
 have go := ints_length o
 have so : (ints o).set v (.int .i64 m.2) = ints (o.set v m.2) := by simp [ints, List.map_set]
 unfold m2St mkH at lp
 rw [nat0, upS_length, g5] at lp
 obtain ⟨u, t⟩ := x
 simp only at ev
 subst ev
 obtain ⟨p, q⟩ := m
 unfold pr2 at g3 g4 mn
 simp only [List.cons_append, List.nil_append] at g3 g4 mn lp so
 unfold m3St lQmX3 mkH
 generalize upS (u, (v : Int)) (p, q) (z :: r) = s2 at *
 generalize z :: r = s at *
 generalize prs2 s2 = L2 at *
 generalize prs2 s = L at *
 generalize prs2 ns = NS at *
 generalize ints (o.set v q) = O2 at *
 generalize ints o = O at *
 simp [rQmX0, rQmX1, rQmX2, rQmX3, rQmX4, rQmX5, rQmX6, rQmX7, rQmX8, rQmX9, rQmX10, rQmX11, rQmX12, rQmX13, rQmX14, rQmX15, rQmX16, rQmX17, rQmX18, rQmX19, rQmX20, rQmX21, rQmX22, rQmX23, rQmX24, rQmX25, rQmX26, rQmX27, rQmX28, rQmX29, rQmX30, rQmX31, rQmX32, rQmX33, k1, hlt, hw, kv, hv, g3, g4, g5, gs, gu, go, so, tkL, mn, lp, idx, blk, sQE, iQE, yQE, lQE, eQE, plp, plpL, allB, notBox, swC, swS, seesC, inBox]
end Go.BmP
