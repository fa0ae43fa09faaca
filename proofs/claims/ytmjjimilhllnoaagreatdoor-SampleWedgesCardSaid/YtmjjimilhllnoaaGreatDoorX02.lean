/- What sample.wedges returns. -/
import Derived.Test.YtmjjimilhllnoaaGreatDoorUseM
import Derived.Test.YtmjjimilhllnoaaGreatDoorX01
import Derived.Test.YtmjjimilhllnoaaGreatDoorWdgP
set_option linter.unusedSimpArgs false
set_option linter.unusedVariables false
set_option maxRecDepth 100000
set_option maxHeartbeats 4000000
namespace Go.BmP
open Go.Am Go.Bm
def wdAV (w : Wd) : AV := .agg [.int .i64 w.1, .int .i64 w.2.1, .int .i64 w.2.2]
def wds (l : List Wd) : List AV := l.map wdAV
theorem wds_length (l : List Wd) : (wds l).length = l.length := List.length_map _
theorem wds_take (l : List Wd) (n : Nat) : (wds l).take n = wds (l.take n) := List.map_take.symm
theorem wds_snoc (l : List Wd) (a b c : Int) : wds l ++ [.agg [.int .i64 a, .int .i64 b, .int .i64 c]] = wds (l ++ [(a, b, c)]) := by simp [wds, wdAV]
theorem cleanL_wds (l : List Wd) : cleanL (wds l) = true := by
 induction l with
 | nil => rfl
 | cons x r ih => simp only [wds, List.map_cons] at ih ⊢; simp [cleanL, clean, wdAV, ih]
theorem wds_nil : wds [] = [] := rfl
def w0St (N : Nat) (Y : List AV) (v : Nat) (nb : List Int) (i : Nat) (a : Int) (R : List Int) (W : List Wd) (k : Nat) (J : Env) : St := ⟨(1, .ptr 0 0) :: (3, .own 3 (wds W)) :: (4, .int .i64 v) :: (5, .list 1 (ints nb)) :: (7, .int .i64 a) :: (11, .int .i64 N) :: (12, .int .i64 v) :: (18, .list 1 (ints nb)) :: (19, .int .i64 nb.length) :: (20, .int .i64 i) :: (28, .list 1 (ints R)) :: (29, .int .i64 R.length) :: (30, .int .i64 k) :: J, [some [.int .i64 N, .list 2 Y]]⟩
theorem w0_loop (N : Nat) (Y : List AV) (v : Nat) (nb : List Int) (i : Nat) (a : Int) (R : List Int) (hR : R.length < 1000000) : ∀ (n k : Nat) (W : List Wd), k + n = R.length -> W.length + n < 1000000 ->
  codeL cfgS 0 (.loop lQrX0) (w0St N Y v nb i a R W k []) = some (.exit 4, w0St N Y v nb i a R (W ++ (R.drop k).map fun b => (a, (v : Int), b)) R.length [(31, .bool false)])
 | 0, k, W, e, hW => by
   obtain rfl : k = R.length := by omega
   rw [List.drop_length, List.map_nil, List.append_nil]
   exact loop_exit (by unfold lQrX0 w0St; simp [rQrX0, rQrX1, rQrX2, rQrX3, rQrX4, rQrX5, rQrX6, rQrX7, rQrX8, rQrX9, rQrX10, rQrX11, rQrX12, rQrX13, rQrX14, rQrX15, rQrX16, blk, eds_length, eds_get, edsAt, edAV, allLeaf_eds, cleanL_eds, cleanL_ints, ints_length, ints_get, intsAt, endL, finB])
 | n + 1, k, W, e, hW => by
   have h1 : k < R.length := by omega
   have h2 : (k : Int) < R.length := by omega
   have hw := wrapS (i := k) (by omega)
   have hL : W.length + 1 <= 4294967296 := by omega
   have ih := w0_loop N Y v nb i a R hR n (k + 1) (W ++ [(a, (v : Int), R[k])]) (by omega) (by simp; omega)
   rw [List.drop_eq_getElem_cons h1, List.map_cons]
   rw [List.append_assoc] at ih
   have tk : (W ++ [(a, (v : Int), R[k])]).take (W.length + 1) = W ++ [(a, (v : Int), R[k])] := List.take_of_length_le (by simp)
   refine (loop_next (s' := w0St N Y v nb i a R (W ++ [(a, (v : Int), R[k])]) (k + 1) []) ?_).trans ih
   unfold lQrX0 w0St
   simp [rQrX0, rQrX1, rQrX2, rQrX3, rQrX4, rQrX5, rQrX6, rQrX7, rQrX8, rQrX9, rQrX10, rQrX11, rQrX12, rQrX13, rQrX14, rQrX15, rQrX16, h1, h2, hw, hL, tk, LIM, wds_length, wds_take, wds_snoc, List.take_length, cleanL_wds, idx, blk, eds_length, eds_get, edsAt, edAV, allLeaf_eds, cleanL_eds, cleanL_ints, ints_length, ints_get, intsAt, endL, finB]
def w1St (N : Nat) (Y : List AV) (v : Nat) (nb : List Int) (W : List Wd) (i : Nat) (J : Env) : St := ⟨(1, .ptr 0 0) :: (3, .own 3 (wds W)) :: (4, .int .i64 v) :: (5, .list 1 (ints nb)) :: (11, .int .i64 N) :: (12, .int .i64 v) :: (18, .list 1 (ints nb)) :: (19, .int .i64 nb.length) :: (20, .int .i64 i) :: J, [some [.int .i64 N, .list 2 Y]]⟩
theorem w1_loop (N : Nat) (Y : List AV) (v : Nat) (nb : List Int) (hb : nb.length <= 64) : ∀ (n i : Nat) (W : List Wd), i + n = nb.length -> W.length + n * 64 < 1000000 ->
  codeL cfgS 0 (.loop lQrX1) (w1St N Y v nb W i []) = some (.exit 2, w1St N Y v nb (W ++ prsL v (nb.drop i)) nb.length [(21, .bool false)])
 | 0, i, W, e, hW => by
   obtain rfl : i = nb.length := by omega
   rw [List.drop_length, prsL, List.append_nil]
   exact loop_exit (by unfold lQrX1 w1St; simp [rQrX0, rQrX1, rQrX2, rQrX3, rQrX4, rQrX5, rQrX6, rQrX7, rQrX8, rQrX9, rQrX10, rQrX11, rQrX12, rQrX13, rQrX14, rQrX15, rQrX16, blk, eds_length, eds_get, edsAt, edAV, allLeaf_eds, cleanL_eds, cleanL_ints, ints_length, ints_get, intsAt, endL, finB])
 | n + 1, i, W, e, hW => by
   have h1 : i < nb.length := by omega
   have h2 : (i : Int) < nb.length := by omega
   have h3 : (i : Int) + 1 <= nb.length := by omega
   have h4 : i + 1 <= nb.length := by omega
   have h5 : (0 : Int) <= (i : Int) + 1 := by omega
   have hw := wrapS (i := i) (by omega)
   have ld : (nb.drop (i + 1)).length = nb.length - (i + 1) := List.length_drop
   have lp := w0_loop N Y v nb i nb[i] (nb.drop (i + 1)) (by omega) (nb.drop (i + 1)).length 0 W (by omega) (by omega)
   have ih := w1_loop N Y v nb hb n (i + 1) (W ++ (nb.drop (i + 1)).map fun b => (nb[i], (v : Int), b)) (by omega) (by simp; omega)
   rw [List.drop_zero] at lp
   rw [List.drop_eq_getElem_cons h1, prsL]
   rw [List.append_assoc] at ih
   refine (loop_next (s' := w1St N Y v nb (W ++ (nb.drop (i + 1)).map fun b => (nb[i], (v : Int), b)) (i + 1) []) ?_).trans ih
   generalize (W ++ (nb.drop (i + 1)).map fun b => (nb[i], (v : Int), b)) = W2 at *
   unfold w0St at lp
   rw [nat0, ld] at lp
   unfold lQrX1 w1St
   have dl : ((nb.length : Int) - ((i : Int) + 1)) = ((nb.length - (i + 1) : Nat) : Int) := by omega
   simp [rQrX0, rQrX1, rQrX2, rQrX3, rQrX4, rQrX5, rQrX6, rQrX7, rQrX8, rQrX9, rQrX10, rQrX11, rQrX12, rQrX13, rQrX14, rQrX15, rQrX16, h1, h2, h3, h4, h5, hw, lp, ld, dl, ints_drop, ints_take, List.take_length, idx, blk, eds_length, eds_get, edsAt, edAV, allLeaf_eds, cleanL_eds, cleanL_ints, ints_length, ints_get, intsAt, endL, finB]
theorem wdgs_bd {N : Nat} {Es : List Ed} (hG : GOK (N : Int) Es) : ∀ n, n <= N -> (wdgs N Es n).length <= n * 4096
 | 0, _ => Nat.le_refl _
 | n + 1, hn => by
   have ih := wdgs_bd hG n (by omega)
   have hN := hG.1
   have hl := nbr_len hG (u := (n : Int)) (by omega) (by omega)
   have hp := pr_bd (n := (nbr N Es n).length) (by omega)
   rw [wdgs, List.length_append, prsL_length]
   omega
def w2St (N : Nat) (Y : List AV) (W : List Wd) (v : Nat) (J : Env) : St := ⟨(1, .ptr 0 0) :: (3, .own 3 (wds W)) :: (11, .int .i64 N) :: (12, .int .i64 v) :: J, [some [.int .i64 N, .list 2 Y]]⟩
theorem w2_loop {N : Nat} {Es : List Ed} (hG : GOK (N : Int) Es) (hE : Es.length < 1000000) : ∀ n v : Nat, v + n = N ->
  codeL cfgS 0 (.loop lQrX2) (w2St N (eds Es) (wdgs N Es v) v []) = some (.exit 0, w2St N (eds Es) (wdgs N Es N) N [(13, .bool false)])
 | 0, v, e => by
   obtain rfl : v = N := by omega
   exact loop_exit (by unfold lQrX2 w2St; simp [rQrX0, rQrX1, rQrX2, rQrX3, rQrX4, rQrX5, rQrX6, rQrX7, rQrX8, rQrX9, rQrX10, rQrX11, rQrX12, rQrX13, rQrX14, rQrX15, rQrX16, blk, eds_length, eds_get, edsAt, edAV, allLeaf_eds, cleanL_eds, cleanL_ints, ints_length, ints_get, intsAt, endL, finB])
 | n + 1, v, e => by
   have hN := hG.1
   have h2 : (v : Int) < N := by omega
   have hw := wrapS (i := v) (by omega)
   have gn := gnb_run hG hE (v := v) (by omega)
   have hl := nbr_len hG (u := (v : Int)) (by omega) (by omega)
   have wb := wdgs_bd hG v (by omega)
   have lp := w1_loop N (eds Es) v (nbr N Es v) (by omega) (nbr N Es v).length 0 (wdgs N Es v) (by omega) (by omega)
   have ih := w2_loop hG hE n (v + 1) (by omega)
   rw [List.drop_zero] at lp
   change _ = some (Ex.exit 2, w1St N (eds Es) v (nbr N Es v) (wdgs N Es (v + 1)) (nbr N Es v).length [(21, .bool false)]) at lp
   refine (loop_next (s' := w2St N (eds Es) (wdgs N Es (v + 1)) (v + 1) []) ?_).trans ih
   generalize wdgs N Es (v + 1) = W2 at *
   generalize wdgs N Es v = W1 at *
   generalize nbr N Es v = nb at *
   generalize eds Es = Y at *
   unfold w1St at lp
   rw [nat0] at lp
   unfold lQrX2 w2St
   simp [rQrX0, rQrX1, rQrX2, rQrX3, rQrX4, rQrX5, rQrX6, rQrX7, rQrX8, rQrX9, rQrX10, rQrX11, rQrX12, rQrX13, rQrX14, rQrX15, rQrX16, h2, hw, gn, lp, sQG, iQG, blk, eds_length, eds_get, edsAt, edAV, allLeaf_eds, cleanL_eds, cleanL_ints, ints_length, ints_get, intsAt, endL, finB]
theorem wedges_run {N : Nat} {Es : List Ed} (hG : GOK (N : Int) Es) (hE : Es.length < 1000000) : callL cfgS nQr [.agg [.int .i64 N, .list 2 (eds Es)]] [] = some (.list 3 (wds (wdgs N Es N)), []) := by
 have lp := w2_loop hG hE N 0 (by omega)
 unfold w2St at lp
 rw [wdgs, wds_nil, nat0] at lp
 have tk : (wds (wdgs N Es N)).take (wdgs N Es N).length = wds (wdgs N Es N) := by rw [wds_take, List.take_length]
 rw [callL_end oQr sQr (Nat.le_of_ble_eq_true rfl)]
 unfold qQr cQr
 generalize wdgs N Es N = W at *
 generalize eds Es = Y at *
 simp [rQrX0, rQrX1, rQrX2, rQrX3, rQrX4, rQrX5, rQrX6, rQrX7, rQrX8, rQrX9, rQrX10, rQrX11, rQrX12, rQrX13, rQrX14, rQrX15, rQrX16, lp, tk, wds_length, cleanL_wds, blk, eds_length, eds_get, edsAt, edAV, allLeaf_eds, cleanL_eds, cleanL_ints, ints_length, ints_get, intsAt, endL, finB]
end Go.BmP
