/- The comparison Make$2 and slices.MinFunc of partition.Make. -/
import Derived.Test.YtkhnplbbngkjkaaUseM
import Derived.Test.YtkhnplbbngkjkaaK04
import Derived.Test.YtkhnplbbngkjkaaCfP
set_option linter.unusedSimpArgs false
set_option linter.unusedVariables false
set_option maxRecDepth 100000
set_option maxHeartbeats 4000000
namespace Go.BmP
open Go.Am Go.Bm
def cfM (x y : Int × Int) : Int := if cmpI x.1 y.1 = 0 then cmpI x.2 y.2 else cmpI x.1 y.1
theorem make2_run (x y : Int × Int) : callL cfgS nQF [pr2 x, pr2 y] [] = some (.int .i64 (cfM x y), []) := by
 obtain ⟨a, b⟩ := x
 obtain ⟨c, d⟩ := y
 have h1 := cmpI_run a c
 have h2 := cmpI_run b d
 have h3 := or_run (cmpI a c) (cmpI b d)
 have e : cfM (a, b) (c, d) = if cmpI a c = 0 then cmpI b d else cmpI a c := rfl
 rw [e]
 generalize (if cmpI a c = 0 then cmpI b d else cmpI a c) = z at *
 generalize cmpI a c = u at *
 generalize cmpI b d = v at *
 rw [callL_end oQF sQF (Nat.le_of_ble_eq_true rfl)]
 unfold qQF cQF pr2
 simp [rQFX0, rQFX1, h1, h2, h3, blk, sQD, iQD, yQD, lQD, eQD, sQC, iQC, yQC, lQC, eQC, plL, pl, endL, finB]
def minStep (m x : Int × Int) : Int × Int := if cfM x m < 0 then x else m
def prs2 (l : List (Int × Int)) : List AV := l.map pr2
def mnSt (l : List (Int × Int)) (m : Int × Int) (i : Nat) (J : Env) : St := ⟨(0, .list 2 (prs2 l)) :: (1, .func (.func nQF) [] []) :: (4, .ptr 0 0) :: (5, .ptr 1 0) :: (6, .int .i64 i) :: J, [some [.int .i64 0, .int .i64 0], some [.int .i64 m.1, .int .i64 m.2]]⟩
theorem mn_loop (l : List (Int × Int)) (hl : l.length < 1000000) : ∀ (k i : Nat) (m : Int × Int), i + k = l.length -> codeL cfgS 0 (.loop lQEX0) (mnSt l m i []) = some (.exit 0, mnSt l ((l.drop i).foldl minStep m) l.length [(17, .bool false)])
 | 0, i, m, hi => by
   obtain rfl : i = l.length := by omega
   rw [List.drop_length, List.foldl_nil]
   have g5 : (prs2 l).length = l.length := List.length_map _
   refine loop_exit ?_
   unfold mnSt lQEX0
   generalize prs2 l = L at *
   simp [rQEX0, rQEX1, rQEX2, rQEX3, rQEX4, rQEX5, rQEX6, rQEX7, rQEX8, rQEX9, g5]
 | k + 1, i, m, hi => by
   have hlt : i < l.length := by omega
   rw [List.drop_eq_getElem_cons hlt, List.foldl_cons]
   refine (loop_next ?_).trans (mn_loop l hl k (i + 1) (minStep m l[i]) (by omega))
   have k1 : (i : Int) < l.length := by omega
   have hw := wrapS (i := i) (by omega)
   have c := make2_run l[i] m
   have g5 : (prs2 l).length = l.length := List.length_map _
   have g3 : (prs2 l)[i]? = some (pr2 l[i]) := by unfold prs2; rw [List.getElem?_map, List.getElem?_eq_getElem hlt]; rfl
   have g4 : ∀ h, (prs2 l)[i]'h = pr2 l[i] := fun h => by
    have := List.getElem?_eq_getElem (l := prs2 l) h
    rw [g3] at this
    exact (Option.some.inj this).symm
   unfold minStep
   generalize l[i] = x at *
   obtain ⟨a, b⟩ := x
   obtain ⟨p, q⟩ := m
   unfold pr2 at c g3 g4
   simp only at c g3 g4
   by_cases n : cfM (a, b) (p, q) < 0
   ·rw [if_pos n]
    generalize cfM (a, b) (p, q) = z at *
    unfold mnSt lQEX0
    generalize prs2 l = L at *
    simp [rQEX0, rQEX1, rQEX2, rQEX3, rQEX4, rQEX5, rQEX6, rQEX7, rQEX8, rQEX9, k1, hlt, hw, c, n, g3, g4, g5, idx, blk, sQF, iQF, yQF, lQF, eQF, plp, plpL, allB, notBox, swC, swS, seesC, inBox]
   ·rw [if_neg n]
    generalize cfM (a, b) (p, q) = z at *
    unfold mnSt lQEX0
    generalize prs2 l = L at *
    simp [rQEX0, rQEX1, rQEX2, rQEX3, rQEX4, rQEX5, rQEX6, rQEX7, rQEX8, rQEX9, k1, hlt, hw, c, n, g3, g4, g5, idx, blk, sQF, iQF, yQF, lQF, eQF, plp, plpL, allB, notBox, swC, swS, seesC, inBox]
theorem min_run (x : Int × Int) (r : List (Int × Int)) (hl : r.length < 999999) : callL cfgS nQE [.list 2 (prs2 (x :: r)), .func (.func nQF) [] []] [] = some (pr2 (r.foldl minStep x), []) := by
 have lp := mn_loop (x :: r) (by simp; omega) r.length 1 x (by simp; omega)
 rw [show (x :: r).drop 1 = r from rfl] at lp
 have g5 : (prs2 (x :: r)).length = r.length + 1 := by simp [prs2]
 have g3 : (prs2 (x :: r))[0]? = some (pr2 x) := rfl
 have g4 : ∀ h, (prs2 (x :: r))[0]'h = pr2 x := fun h => rfl
 have ll : (x :: r).length = r.length + 1 := rfl
 have n1 : ¬ ((r.length + 1 : Nat) : Int) < 1 := by omega
 have n2 : 0 < r.length + 1 := by omega
 rw [ll] at lp
 unfold mnSt at lp
 generalize r.foldl minStep x = m at *
 generalize prs2 (x :: r) = L at *
 generalize r.length + 1 = n at *
 have n3 : (0 : Int) < (n : Int) := by omega
 obtain ⟨a, b⟩ := x
 unfold pr2 at g3 g4
 try simp only at g3 g4
 try simp only at lp
 rw [show ((1 : Nat) : Int) = 1 from rfl] at lp
 rw [callL_end oQE sQE (Nat.le_of_ble_eq_true rfl)]
 unfold qQE cQE pr2
 simp [rQEX0, rQEX1, rQEX2, rQEX3, rQEX4, rQEX5, rQEX6, rQEX7, rQEX8, rQEX9, lp, g3, g4, g5, n1, n2, n3, idx, blk, plp, plpL, allB, notBox, swC, swS, seesC, inBox, plL, pl, endL, finB]
end Go.BmP
