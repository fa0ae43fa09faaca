/- What triangles.changed returns. -/
import Derived.Test.YtcjfhegnnjnmgaaUseM
import Derived.Test.YtcjfhegnnjnmgaaV01
set_option linter.unusedSimpArgs false
set_option linter.unusedVariables false
set_option maxRecDepth 100000
set_option maxHeartbeats 4000000
namespace Go.BmP
open Go.Am Go.Bm
theorem cloneI_run (L : List Int) (hl : L.length < 1000000) : callL cfgS nSlicesCloneIntInt [.list 1 (ints L)] [] = some (.own 1 (ints L), []) := by
 cases L with
 | nil => exact callL_orc (by unfold orcA; rw [oSlicesCloneIntInt]; rfl)
 | cons x r =>
   have hl' : r.length + 1 <= 4294967296 := by simp at hl; omega
   rw [callL_ofA (by unfold orcA; rw [oSlicesCloneIntInt]; rfl) sSlicesCloneIntInt (Nat.le_of_ble_eq_true rfl)]
   unfold qSlicesCloneIntInt cSlicesCloneIntInt
   simp [rSlicesCloneIntIntX0, rSlicesCloneIntIntX1, rSlicesCloneIntIntX2, rSlicesCloneIntIntX3, ints_cons, ints_length, hl', LIM, endL, finB, allLocal, local_, takeR, takeV, ints_take, List.take_take, Nat.min_self, List.take_length, AV.cells, AV.leaf]
def addAt (n : List Int) (w b : Int) : List Int := n.set w.toNat (n.getD w.toNat 0 + b)
theorem addAt_length (n : List Int) (w b : Int) : (addAt n w b).length = n.length := by simp [addAt]
theorem getD_bd {n : List Int} {B : Int} (h : ∀ x ∈ n, -B <= x /\ x <= B) (hB : 0 <= B) (i : Nat) : -B <= n.getD i 0 /\ n.getD i 0 <= B := by
 rw [List.getD_eq_getElem?_getD]
 cases e : n[i]? with
 | none => simp; omega
 | some y => exact h y (List.mem_of_getElem? e)
theorem addAt_bd {n : List Int} {B w b c : Int} (h : ∀ x ∈ n, -B <= x /\ x <= B) (hB : 0 <= B) (hb : -c <= b /\ b <= c) : ∀ x ∈ addAt n w b, -(B + c) <= x /\ x <= B + c := by
 intro x hx
 have g := getD_bd h hB w.toNat
 rcases List.mem_or_eq_of_mem_set hx with e | e
 ·have := h x e; omega
 ·subst e; omega
theorem addAts_length (b : Int) : ∀ (T n : List Int), (T.foldl (fun n w => addAt n w b) n).length = n.length
 | [], n => rfl
 | w :: r, n => by rw [List.foldl_cons, addAts_length b r, addAt_length]
def chSt (N : Nat) (Y1 Y2 : List AV) (C C2 : Int) (N1 : List AV) (u v : Nat) (b : Int) (T n : List Int) (j : Nat) (J : Env) : St := ⟨(2, .int .i64 u) :: (3, .int .i64 v) :: (4, .int .i64 b) :: (10, .ptr 2 0) :: (14, .list 1 (ints T)) :: (15, .ptr 3 0) :: (42, .list 1 (ints T)) :: (43, .int .i64 T.length) :: (44, .int .i64 j) :: J, [some [.int .i64 N, .list 2 Y1, .int .i64 C, .list 1 N1], some [.int .i64 N, .list 2 Y2], some [.int .i64 0, .own 2 [], .int .i64 0, .own 1 []], some [.int .i64 N, .list 2 Y2, .int .i64 C2, .own 1 (ints n)]]⟩
theorem ch_loop (N : Nat) (Y1 Y2 : List AV) (C C2 : Int) (N1 : List AV) (u v : Nat) (b : Int) (hb : -1 <= b /\ b <= 1) (T : List Int) (hT : T.length < 1000) (hw : ∀ w ∈ T, 0 <= w /\ w < (N : Int)) : ∀ (k j : Nat) (n : List Int) (B : Int), j + k = T.length -> n.length = N -> (∀ x ∈ n, -B <= x /\ x <= B) -> 0 <= B -> B + k < 1000000000 ->
  codeL cfgS 0 (.loop lTrianglesChangedX0) (chSt N Y1 Y2 C C2 N1 u v b T n j []) = some (.exit 0, chSt N Y1 Y2 C C2 N1 u v b T ((T.drop j).foldl (fun n w => addAt n w b) n) T.length [(45, .bool false)])
 | 0, j, n, B, hj, hn, hx, hB, hk => by
   obtain rfl : j = T.length := by omega
   rw [List.drop_length, List.foldl_nil]
   refine loop_exit ?_
   unfold chSt lTrianglesChangedX0
   generalize ints n = NN at *
   generalize ints T = TT at *
   simp [rTrianglesChangedX0, rTrianglesChangedX1, rTrianglesChangedX2, rTrianglesChangedX3, rTrianglesChangedX4, rTrianglesChangedX5, rTrianglesChangedX6, rTrianglesChangedX7, rTrianglesChangedX8, rTrianglesChangedX9, rTrianglesChangedX10, rTrianglesChangedX11, blk, plp, plpL, allB, notBox, swC, swS, seesC, inBox]
 | k + 1, j, n, B, hj, hn, hx, hB, hk => by
   have hlt : j < T.length := by omega
   have k1 : (j : Int) < T.length := by omega
   have hw1 := wrapS (i := j) (by omega)
   obtain ⟨w0, w1⟩ := hw _ (List.getElem_mem hlt)
   have ih := ch_loop N Y1 Y2 C C2 N1 u v b hb T hT hw k (j + 1) (addAt n T[j] b) (B + 1) (by omega) (by rw [addAt_length]; exact hn) (addAt_bd (c := 1) hx hB hb) (by omega) (by omega)
   rw [List.drop_eq_getElem_cons hlt, List.foldl_cons]
   refine (loop_next ?_).trans ih
   clear ih
   have g3 : (ints T)[j]? = some (.int .i64 T[j]) := by rw [ints_get, List.getElem?_eq_getElem hlt]; rfl
   have g4 : ∀ h, (ints T)[j]'h = .int .i64 T[j] := fun h => intsAt ..
   have g5 := ints_length T
   obtain ⟨w, ew⟩ : ∃ w : Nat, T[j] = w := ⟨T[j].toNat, by omega⟩
   rw [ew] at w0 w1 g3 g4 ⊢
   have wn : w < n.length := by omega
   have gb := getD_bd hx hB w
   have g6 : (ints n)[w]? = some (.int .i64 (n.getD w 0)) := by rw [ints_get, List.getElem?_eq_getElem wn]; simp [List.getD_eq_getElem?_getD, List.getElem?_eq_getElem wn]
   have g7 : ∀ h, (ints n)[w]'h = .int .i64 (n.getD w 0) := fun h => by
    have := List.getElem?_eq_getElem (l := ints n) h
    rw [g6] at this
    exact (Option.some.inj this).symm
   have g8 : (ints n).length = N := by rw [ints_length, hn]
   have q1 : IntKind.i64.wrap (n.getD w 0 + b) = n.getD w 0 + b := wrap_id (by omega) (by omega)
   have b1 : (ints n).set w (.int .i64 (n.getD w 0 + b)) = ints (addAt n w b) := by
    unfold addAt
    rw [show ((w : Nat) : Int).toNat = w by omega]
    simp [ints, List.map_set]
   have tk : (ints n).take N = ints n := List.take_of_length_le (by omega)
   have wN : w < N := by omega
   unfold chSt lTrianglesChangedX0
   generalize addAt n (w : Int) b = n2 at *
   generalize n.getD w 0 = z at *
   generalize ints n2 = N2 at *
   generalize ints n = NN at *
   generalize ints T = TT at *
   clear ew
   simp [rTrianglesChangedX0, rTrianglesChangedX1, rTrianglesChangedX2, rTrianglesChangedX3, rTrianglesChangedX4, rTrianglesChangedX5, rTrianglesChangedX6, rTrianglesChangedX7, rTrianglesChangedX8, rTrianglesChangedX9, rTrianglesChangedX10, rTrianglesChangedX11, k1, hlt, hw1, w0, w1, wN, g3, g4, g5, g6, g7, g8, q1, b1, tk, idx, blk, plp, plpL, allB, notBox, swC, swS, seesC, inBox, relB, handBox, mvBB, mvRtB]
end Go.BmP
