/- The law of covers: its first loops. -/
import Derived.Test.YtfmbbifdganaaaaDoorUseM
import Derived.Test.YtfmbbifdganaaaaDoorQ01
import Derived.Test.YtfmbbifdganaaaaDoorL04
import Derived.Test.YtfmbbifdganaaaaDoorL01
import Derived.Test.YtfmbbifdganaaaaDoorH18
import Derived.Test.YtfmbbifdganaaaaDoorR02d
set_option linter.unusedSimpArgs false
set_option linter.unusedVariables false
set_option maxRecDepth 100000
set_option maxHeartbeats 4000000
namespace Go.BmP
open Go.Am Go.Bm
theorem awake24 : callL cfgS nQc [] [] = some (.bool true, []) := callL_iff.2 ⟨3000, by kernel_rfl⟩
def gb (N : Nat) (Es : List Ed) : Blk := some [.int .i64 N, .list 2 (eds Es)]
theorem rest_gb (N : Nat) (Es : List Ed) : Rest [gb N Es] := ⟨fun _ => rfl, rfl, fun _ _ => rfl, fun _ => rfl, fun _ _ => rfl⟩
def cov0 (l : List Int) (a N : Nat) (Es : List Ed) (T : List Int) (A : List (List Int)) (p : List Ed) (nd S : List Int) (i k m : Nat) (J : Env) : St := ⟨(1, .list 1 (ints T)) :: (5, .ptr 0 0) :: (6, .ptr 1 0) :: (7, .list 1 (lls A)) :: (8, .int .i64 0) :: (9, .own 2 (eds p)) :: (10, .own 1 (ints nd)) :: (12, .list 1 (ints S)) :: (13, .int .i64 i) :: (14, .int .i64 k) :: (42, .list 1 (lls A)) :: (43, .int .i64 A.length) :: (44, .int .i64 m) :: (56, .int .i64 S.length) :: (57, .int .i64 i) :: J, [dk l a, gb N Es]⟩
section
attribute [local simp] frzLab
theorem cov0_round (l : List Int) (a N : Nat) (Es : List Ed) (T : List Int) (A : List (List Int)) (p : List Ed) (nd S : List Int) (i k m : Nat) (hp : p.length < 1000000) (hS : S.length <= 64) (hi : i < S.length) (hk : k < S.length) : codeL cfgS 0 lQaX0 (cov0 l a N Es T A p nd S i k m []) = some (.normal, cov0 l a N Es T A (p ++ [(S[i], S[k])]) nd S i (k + 1) m []) := by
 have h1 : (k : Int) < S.length := by omega
 have h2 : (i : Int) < S.length := by omega
 have hw := wrapS (i := k) (by omega)
 have hL : p.length + 1 <= 4294967296 := by omega
 have g3 : (ints S)[i]? = some (.int .i64 S[i]) := by rw [ints_get, List.getElem?_eq_getElem hi]; rfl
 have g4 : (ints S)[k]? = some (.int .i64 S[k]) := by rw [ints_get, List.getElem?_eq_getElem hk]; rfl
 have g3' : ∀ h, (ints S)[i]'h = .int .i64 S[i] := fun h => intsAt ..
 have g4' : ∀ h, (ints S)[k]'h = .int .i64 S[k] := fun h => intsAt ..
 have g5 := ints_length S
 have g6 := eds_length p
 unfold cov0 lQaX0 dk gb
 have sn : eds p ++ [.agg [.int .i64 S[i], .int .i64 S[k]]] = eds (p ++ [(S[i], S[k])]) := eds_snocM p _ _
 have tk : (eds (p ++ [(S[i], S[k])])).take (p.length + 1) = eds (p ++ [(S[i], S[k])]) := List.take_of_length_le (by rw [eds_length]; simp)
 have tko : (eds p).take p.length = eds p := List.take_of_length_le (by omega)
 have cl := cleanL_eds p
 have al := allLeaf_eds p
 generalize eds (p ++ [(S[i], S[k])]) = Z at *
 generalize S[i] = x at *
 generalize S[k] = y at *
 generalize eds p = V at *
 generalize ints S = Y at *
 generalize ints T = YT at *
 generalize ints nd = YN at *
 generalize lls A = XA at *
 simp [rQaX0, rQaX1, rQaX2, rQaX3, rQaX4, rQaX5, rQaX6, rQaX7, rQaX8, rQaX9, rQaX10, rQaX11, rQaX12, rQaX13, rQaX14, rQaX15, rQaX16, rQaX17, rQaX18, rQaX19, rQaX20, rQaX21, rQaX22, rQaX23, rQaX24, rQaX25, rQaX26, rQaX27, rQaX28, rQaX29, rQaX30, rQaX31, rQaX32, rQaX33, rQaX34, rQaX35, rQaX36, rQaX37, rQaX38, rQaX39, rQaX40, h1, h2, hi, hk, hw, hL, g3, g4, g3', g4', g5, g6, sn, tk, tko, cl, al, LIM, idx, blk, eds_length, eds_get, edsAt, edAV, allLeaf_eds, cleanL_eds, cleanL_ints, ints_length, ints_get, intsAt, endL, finB]
theorem cov0_loop (l : List Int) (a N : Nat) (Es : List Ed) (T : List Int) (A : List (List Int)) (nd S : List Int) (i m : Nat) (hS : S.length <= 64) (hi : i < S.length) : ∀ (n k : Nat) (p : List Ed), k + n = S.length -> p.length + S.length < 1000000 + k -> codeL cfgS 0 (.loop lQaX0) (cov0 l a N Es T A p nd S i k m []) = some (.exit 4, cov0 l a N Es T A (p ++ (S.drop k).map fun y => (S[i], y)) nd S i S.length m [(65, .bool false)])
 | 0, k, p, hk, hp => by
   obtain rfl : k = S.length := by omega
   rw [List.drop_length, List.map_nil, List.append_nil]
   refine loop_exit ?_
   unfold cov0 lQaX0 dk gb
   have g5 := ints_length S
   generalize ints S = Y at *
   generalize ints T = YT at *
   generalize ints nd = YN at *
   generalize lls A = XA at *
   simp [rQaX0, rQaX1, rQaX2, rQaX3, rQaX4, rQaX5, rQaX6, rQaX7, rQaX8, rQaX9, rQaX10, rQaX11, rQaX12, rQaX13, rQaX14, rQaX15, rQaX16, rQaX17, rQaX18, rQaX19, rQaX20, rQaX21, rQaX22, rQaX23, rQaX24, rQaX25, rQaX26, rQaX27, rQaX28, rQaX29, rQaX30, rQaX31, rQaX32, rQaX33, rQaX34, rQaX35, rQaX36, rQaX37, rQaX38, rQaX39, rQaX40, g5, blk, eds_length, eds_get, edsAt, edAV, allLeaf_eds, cleanL_eds, cleanL_ints, ints_length, ints_get, intsAt, endL, finB]
 | n + 1, k, p, hk, hp => by
   have hlt : k < S.length := by omega
   refine (loop_next (cov0_round l a N Es T A p nd S i k m (by omega) hS hi hlt)).trans ((cov0_loop l a N Es T A nd S i m hS hi n (k + 1) _ (by omega) (by simp; omega)).trans ?_)
   rw [List.drop_eq_getElem_cons hlt, List.map_cons, List.append_assoc]
   rfl
end
def cov1 (l : List Int) (a N : Nat) (Es : List Ed) (T : List Int) (A : List (List Int)) (p : List Ed) (nd S : List Int) (i m : Nat) (J : Env) : St := ⟨(1, .list 1 (ints T)) :: (5, .ptr 0 0) :: (6, .ptr 1 0) :: (7, .list 1 (lls A)) :: (8, .int .i64 0) :: (9, .own 2 (eds p)) :: (10, .own 1 (ints nd)) :: (12, .list 1 (ints S)) :: (42, .list 1 (lls A)) :: (43, .int .i64 A.length) :: (44, .int .i64 m) :: (56, .int .i64 S.length) :: (57, .int .i64 i) :: J, [dk l a, gb N Es]⟩
section
attribute [local simp] frzLab
theorem cov1_round (l : List Int) (a N : Nat) (Es : List Ed) (T : List Int) (A : List (List Int)) (p : List Ed) (nd S : List Int) (i m : Nat) (hp : p.length < 900000) (hS : S.length <= 64) (hi : i < S.length) : codeL cfgS 0 lQaX1 (cov1 l a N Es T A p nd S i m []) = some (.normal, cov1 l a N Es T A (p ++ (S.drop (i + 1)).map fun y => (S[i], y)) nd S (i + 1) m []) := by
 have h1 : (i : Int) < S.length := by omega
 have hw := wrapS (i := i) (by omega)
 have lp := cov0_loop l a N Es T A nd S i m hS hi (S.length - (i + 1)) (i + 1) p (by omega) (by omega)
 unfold cov0 dk gb at lp
 have hj : ((i + 1 : Nat) : Int) = (i : Int) + 1 := rfl
 rw [hj] at lp hw
 unfold cov1 lQaX1 dk gb
 rw [hj]
 generalize eds (p ++ (S.drop (i + 1)).map fun y => (S[i], y)) = Z at *
 generalize eds p = V at *
 generalize ints S = Y at *
 generalize ints T = YT at *
 generalize ints nd = YN at *
 generalize lls A = XA at *
 simp [rQaX0, rQaX1, rQaX2, rQaX3, rQaX4, rQaX5, rQaX6, rQaX7, rQaX8, rQaX9, rQaX10, rQaX11, rQaX12, rQaX13, rQaX14, rQaX15, rQaX16, rQaX17, rQaX18, rQaX19, rQaX20, rQaX21, rQaX22, rQaX23, rQaX24, rQaX25, rQaX26, rQaX27, rQaX28, rQaX29, rQaX30, rQaX31, rQaX32, rQaX33, rQaX34, rQaX35, rQaX36, rQaX37, rQaX38, rQaX39, rQaX40, h1, hi, hw, lp, blk, eds_length, eds_get, edsAt, edAV, allLeaf_eds, cleanL_eds, cleanL_ints, ints_length, ints_get, intsAt, endL, finB]
end
theorem prsL_drop (S : List Int) (i : Nat) (hi : i < S.length) : prsL (S.drop i) = ((S.drop (i + 1)).map fun y => (S[i], y)) ++ prsL (S.drop (i + 1)) := by
 rw [List.drop_eq_getElem_cons hi]
 rfl
section
attribute [local simp] frzLab
theorem cov1_loop (l : List Int) (a N : Nat) (Es : List Ed) (T : List Int) (A : List (List Int)) (nd S : List Int) (m : Nat) (hS : S.length <= 64) : ∀ (n i : Nat) (p : List Ed), i + n = S.length -> p.length + 64 * n < 800000 -> codeL cfgS 0 (.loop lQaX1) (cov1 l a N Es T A p nd S i m []) = some (.exit 2, cov1 l a N Es T A (p ++ prsL (S.drop i)) nd S S.length m [(58, .bool false)])
 | 0, i, p, hi, hp => by
   obtain rfl : i = S.length := by omega
   rw [List.drop_length]
   unfold prsL
   rw [List.append_nil]
   refine loop_exit ?_
   unfold cov1 lQaX1 dk gb
   generalize ints S = Y at *
   generalize ints T = YT at *
   generalize ints nd = YN at *
   generalize lls A = XA at *
   simp [rQaX0, rQaX1, rQaX2, rQaX3, rQaX4, rQaX5, rQaX6, rQaX7, rQaX8, rQaX9, rQaX10, rQaX11, rQaX12, rQaX13, rQaX14, rQaX15, rQaX16, rQaX17, rQaX18, rQaX19, rQaX20, rQaX21, rQaX22, rQaX23, rQaX24, rQaX25, rQaX26, rQaX27, rQaX28, rQaX29, rQaX30, rQaX31, rQaX32, rQaX33, rQaX34, rQaX35, rQaX36, rQaX37, rQaX38, rQaX39, rQaX40, blk, eds_length, eds_get, edsAt, edAV, allLeaf_eds, cleanL_eds, cleanL_ints, ints_length, ints_get, intsAt, endL, finB]
 | n + 1, i, p, hi, hp => by
   have hlt : i < S.length := by omega
   refine (loop_next (cov1_round l a N Es T A p nd S i m (by omega) hS hlt)).trans ((cov1_loop l a N Es T A nd S m hS n (i + 1) _ (by omega) (by simp; omega)).trans ?_)
   rw [prsL_drop S i hlt, List.append_assoc]
end
def cov2 (l : List Int) (a N : Nat) (Es : List Ed) (T : List Int) (A : List (List Int)) (p : List Ed) (nd : List Int) (m : Nat) (J : Env) : St := ⟨(1, .list 1 (ints T)) :: (5, .ptr 0 0) :: (6, .ptr 1 0) :: (7, .list 1 (lls A)) :: (8, .int .i64 0) :: (9, .own 2 (eds p)) :: (10, .own 1 (ints nd)) :: (42, .list 1 (lls A)) :: (43, .int .i64 A.length) :: (44, .int .i64 m) :: J, [dk l a, gb N Es]⟩
section
attribute [local simp] frzLab
theorem cov2_round (l : List Int) (a : Nat) {N : Nat} {Es : List Ed} (hG : GOK (N : Int) Es) (hE : Es.length <= 10000) (T : List Int) (A : List (List Int)) (p : List Ed) (nd : List Int) (m : Nat) (hp : p.length < 700000) (hn : nd.length < 1000000) (hA : A.length <= 4096) (hm : m < A.length) (hS : A[m].length <= 64) (hx : maxB N Es A[m] = true) : codeL cfgS 0 lQaX2 (cov2 l a N Es T A p nd m []) = some (.normal, cov2 l a N Es T A (p ++ prsL A[m]) (nd ++ A[m]) (m + 1) []) := by
 have h1 : (m : Int) < A.length := by omega
 have hw := wrapS (i := m) (by omega)
 have i1 := idx_lt (k := .i64) (i := (m : Int)) (n := A.length) (by omega) h1
 have g1 : ∀ h, (lls A)[m]'h = AV.list 1 (ints A[m]) := fun h => llsAt ..
 have g2 := lls_length A
 have g3 : (lls A)[m]? = some (.list 1 (ints A[m])) := by rw [lls_get, List.getElem?_eq_getElem hm]; rfl
 have mx := max_run hG (by omega) A[m] (by omega)
 rw [hx] at mx
 unfold cov2
 generalize A[m] = S at *
 have lp := cov1_loop l a N Es T A (nd ++ S) S m hS S.length 0 p (by omega) (by omega)
 rw [List.drop_zero] at lp
 unfold cov1 dk gb at lp
 rw [nat0] at lp
 have g4 := ints_length nd
 have g5 := ints_length S
 have sn : ints nd ++ ints S = ints (nd ++ S) := ints_app nd S
 have g6 : (ints (nd ++ S)).length = nd.length + S.length := by rw [ints_length, List.length_append]
 have tk : (ints (nd ++ S)).take (nd.length + S.length) = ints (nd ++ S) := List.take_of_length_le (by omega)
 have hL : nd.length + S.length <= 4294967296 := by omega
 have tkN : (ints nd).take nd.length = ints nd := List.take_of_length_le (by omega)
 have cl := cleanL_ints nd
 have al := allLeaf_ints nd
 have fS := flatCells_ints S
 have aS := allLeaf_ints S
 have cS := cleanL_ints S
 have tkS : (ints S).take S.length = ints S := List.take_of_length_le (by omega)
 have hj : ((m + 1 : Nat) : Int) = (m : Int) + 1 := rfl
 rw [hj] at hw ⊢
 unfold lQaX2 dk gb
 generalize eds (p ++ prsL S) = Z at *
 generalize eds p = V at *
 generalize ints (nd ++ S) = YZ at *
 generalize ints S = Y at *
 generalize ints T = YT at *
 generalize ints nd = YN at *
 generalize lls A = XA at *
 generalize eds Es = YE at *
 simp [rQaX0, rQaX1, rQaX2, rQaX3, rQaX4, rQaX5, rQaX6, rQaX7, rQaX8, rQaX9, rQaX10, rQaX11, rQaX12, rQaX13, rQaX14, rQaX15, rQaX16, rQaX17, rQaX18, rQaX19, rQaX20, rQaX21, rQaX22, rQaX23, rQaX24, rQaX25, rQaX26, rQaX27, rQaX28, rQaX29, rQaX30, rQaX31, rQaX32, rQaX33, rQaX34, rQaX35, rQaX36, rQaX37, rQaX38, rQaX39, rQaX40, h1, hm, hw, i1, g1, g2, g3, g4, g5, g6, sn, tk, tkS, tkN, hL, cl, al, fS, aS, cS, mx, lp, LIM, sQg, iQg, blk, eds_length, eds_get, edsAt, edAV, allLeaf_eds, cleanL_eds, cleanL_ints, ints_length, ints_get, intsAt, endL, finB]
theorem cov2_loop (l : List Int) (a : Nat) {N : Nat} {Es : List Ed} (hG : GOK (N : Int) Es) (hE : Es.length <= 10000) (T : List Int) (A : List (List Int)) (hA : A.length <= 1000) (hS : ∀ S ∈ A, S.length <= 16) (hx : ∀ S ∈ A, maxB N Es S = true) : ∀ (n m : Nat) (p : List Ed) (nd : List Int), m + n = A.length -> p.length <= 256 * m -> nd.length <= 16 * m -> codeL cfgS 0 (.loop lQaX2) (cov2 l a N Es T A p nd m []) = some (.exit 0, cov2 l a N Es T A (p ++ (A.drop m).flatMap prsL) (nd ++ (A.drop m).flatten) A.length [(45, .bool false)])
 | 0, m, p, nd, hi, hp, hn => by
   obtain rfl : m = A.length := by omega
   rw [List.drop_length]
   simp only [List.flatMap_nil, List.flatten_nil, List.append_nil]
   refine loop_exit ?_
   unfold cov2 lQaX2 dk gb
   have g2 := lls_length A
   generalize ints T = YT at *
   generalize ints nd = YN at *
   generalize lls A = XA at *
   simp [rQaX0, rQaX1, rQaX2, rQaX3, rQaX4, rQaX5, rQaX6, rQaX7, rQaX8, rQaX9, rQaX10, rQaX11, rQaX12, rQaX13, rQaX14, rQaX15, rQaX16, rQaX17, rQaX18, rQaX19, rQaX20, rQaX21, rQaX22, rQaX23, rQaX24, rQaX25, rQaX26, rQaX27, rQaX28, rQaX29, rQaX30, rQaX31, rQaX32, rQaX33, rQaX34, rQaX35, rQaX36, rQaX37, rQaX38, rQaX39, rQaX40, g2, blk, eds_length, eds_get, edsAt, edAV, allLeaf_eds, cleanL_eds, cleanL_ints, ints_length, ints_get, intsAt, endL, finB]
 | n + 1, m, p, nd, hi, hp, hn => by
   have hlt : m < A.length := by omega
   have l1 := hS _ (List.getElem_mem hlt)
   have l2 := prsL_len A[m]
   have l3 : A[m].length * A[m].length <= 16 * 16 := Nat.mul_le_mul l1 l1
   refine (loop_next (cov2_round l a hG hE T A p nd m (by omega) (by omega) (by omega) hlt (by omega) (hx _ (List.getElem_mem hlt)))).trans ((cov2_loop l a hG hE T A hA hS hx n (m + 1) _ _ (by omega) (by rw [List.length_append]; omega) (by rw [List.length_append]; omega)).trans ?_)
   rw [List.drop_eq_getElem_cons hlt, List.flatMap_cons, List.flatten_cons, List.append_assoc, List.append_assoc]
end
end Go.BmP
