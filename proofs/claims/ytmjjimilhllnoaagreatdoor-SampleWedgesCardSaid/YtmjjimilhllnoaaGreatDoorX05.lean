/- What sample.ByWedges and ref29.Whole return: the same share. -/
import Derived.Test.YtmjjimilhllnoaaGreatDoorUseM
import Derived.Test.YtmjjimilhllnoaaGreatDoorX04
import Derived.Test.YtmjjimilhllnoaaGreatDoorU03
set_option linter.unusedSimpArgs false
set_option linter.unusedVariables false
set_option maxRecDepth 100000
set_option maxHeartbeats 4000000
namespace Go.BmP
open Go.Am Go.Bm
def FX (N : Nat) (Es : List Ed) : AV := fr (3 * tri N Es) (max (wdgs N Es N).length 1)
theorem cls_three {N : Nat} {Es : List Ed} (hG : GOK (N : Int) Es) : (wdgs N Es N).countP (cls Es) = 3 * tri N Es := by rw [wdgs_cls hG (Nat.le_refl _), tn_sum hG]
theorem wl_bd {N : Nat} {Es : List Ed} (hG : GOK (N : Int) Es) : (wdgs N Es N).length <= 262144 := by
 have := wdgs_bd hG N (Nat.le_refl _)
 have := hG.1
 have : N * 4096 <= 64 * 4096 := Nat.mul_le_mul_right _ (by omega)
 omega
theorem three_le {N : Nat} {Es : List Ed} (hG : GOK (N : Int) Es) : 3 * tri N Es <= (wdgs N Es N).length := by
 rw [<- cls_three hG]; exact List.countP_le_length
theorem byw_run {N : Nat} {Es : List Ed} (hG : GOK (N : Int) Es) (hE : Es.length < 1000000) (P : List Int) (hP : P.length = (wdgs N Es N).length) (hp : ∀ i (h : i < P.length), P[i] = (i : Int)) : callL cfgS nQj [.agg [.int .i64 N, .list 2 (eds Es)], .list 1 (ints P)] [] = some (.tup [FX N Es, .int .i64 0], []) := by
 have wb := wl_bd hG
 have tl := three_le hG
 have lp := bw_loop hG hE P hP hp (by omega) P.length 0 (by omega)
 have ww := wedges_run hG hE
 have cc := gchk_run (N : Int) Es (by omega)
 rw [chkG_zero.2 hG] at cc
 rw [cls_three hG, List.take_zero, List.countP_nil] at lp
 have c := ratm_run (a := 3 * tri N Es) (b := max (wdgs N Es N).length 1) (by omega) (by omega) (by omega)
 rw [<- hP] at c
 have mx : (if (P.length : Int) < 1 then 1 else (P.length : Int)) = ((max P.length 1 : Nat) : Int) := by split <;> omega
 unfold FX fr
 rw [<- hP]
 unfold bwSt at lp
 rw [nat0] at lp
 generalize max P.length 1 = m at *
 generalize 3 * tri N Es = t at *
 generalize t / Nat.gcd t m = x at *
 generalize m / Nat.gcd t m = y at *
 clear hp hP
 generalize wds (wdgs N Es N) = Z at *
 generalize eds Es = Y at *
 rw [callL_end oQj sQj (Nat.le_of_ble_eq_true rfl)]
 unfold qQj cQj
 simp [rQjX0, rQjX1, rQjX2, rQjX3, rQjX4, rQjX5, rQjX6, rQjX7, rQjX8, rQjX9, rQjX10, rQjX11, rQjX12, rQjX13, rQjX14, lp, ww, cc, c, mx, ints_length, blk, sQq, iQq, sQr, iQr, sQv, iQv, plL, pl, endL, finB]
theorem pairs29_run {N : Nat} {Es : List Ed} (hG : GOK (N : Int) Es) (hE : Es.length < 1000000) {v : Nat} (hv : v < N) : callL cfgS nQx [.agg [.int .i64 N, .list 2 (eds Es)], .int .i64 v] [] = some (.int .i64 (pr (nbr N Es v).length : Nat), []) := by
 have hN := hG.1
 have dg := degree_run hG hE (v := (v : Int)) (by omega) (by omega)
 have hl := nbr_len hG (u := (v : Int)) (by omega) (by omega)
 have pe := pr_eq (nbr N Es v).length
 have pb := pr_bd (n := (nbr N Es v).length) (by omega)
 have mb := mul_bd (n := (nbr N Es v).length) (by omega)
 generalize (nbr N Es v).length = d at *
 have s1 : IntKind.i64.wrap ((d : Int) - 1) = (d : Int) - 1 := wrap_id (by omega) (by omega)
 have s2 : IntKind.i64.wrap ((d : Int) * ((d : Int) - 1)) = (d : Int) * ((d : Int) - 1) := wrap_id (by omega) (by omega)
 have s3 : IntKind.i64.wrap (pr d : Int) = (pr d : Int) := wrap_id (by omega) (by omega)
 rw [callL_end oQx sQx (Nat.le_of_ble_eq_true rfl)]
 unfold qQx cQx
 generalize eds Es = Y at *
 simp [rQxX0, rQxX1, rQxX2, dg, s1, s2, s3, pe, sQp, iQp, blk, eds_length, eds_get, edsAt, edAV, allLeaf_eds, cleanL_eds, cleanL_ints, ints_length, ints_get, intsAt, endL, finB]
theorem share29_run {a b : Nat} (ha : a < 1000000000) (hb : b < 1000000000) (h : a <= b) : callL cfgS nQy [.int .i64 a, .int .i64 b] [] = some (fr a (max b 1), []) := by
 rw [callL_end oQy sQy (Nat.le_of_ble_eq_true rfl)]
 unfold qQy cQy
 by_cases b0 : b = 0
 ·subst b0
  obtain rfl : a = 0 := by omega
  rw [fr_zero (by omega)]
  simp [rQyX0, rQyX1, rQyX2, rQyX3, blk, plL, pl, endL, finB]
 ·have o := frof_run (a := a) (b := b) (by omega) (by omega) (by omega)
  rw [show max b 1 = b by omega]
  have n0 : ¬ (b : Int) = 0 := by omega
  have n1 : ((b : Int) == 0) = false := by simpa using b0
  unfold fr at *
  generalize a / Nat.gcd a b = x at *
  generalize b / Nat.gcd a b = y at *
  simp [rQyX0, rQyX1, rQyX2, rQyX3, o, n0, n1, b0, blk, sQN, iQN, plL, pl, endL, finB]
def whS9 (N : Nat) (Y : List AV) (t : Int) (n : Nat) (v : Nat) (J : Env) : St := ⟨(1, .ptr 0 0) :: (2, .ptr 1 0) :: (4, .int .i64 t) :: (6, .int .i64 n) :: (7, .int .i64 v) :: J, [some [.int .i64 N, .list 2 Y], some [.int .i64 0, .int .i64 0]]⟩
theorem wh9_loop {N : Nat} {Es : List Ed} (hG : GOK (N : Int) Es) (hE : Es.length < 1000000) (t : Int) : ∀ n v : Nat, v + n = N ->
  codeL cfgS 0 (.loop lQkX0) (whS9 N (eds Es) t (wdgs N Es v).length v []) = some (.exit 0, whS9 N (eds Es) t (wdgs N Es N).length N [(20, .bool false)])
 | 0, v, e => by
   obtain rfl : v = N := by omega
   exact loop_exit (by unfold lQkX0 whS9; simp [rQkX0, rQkX1, rQkX2, rQkX3, rQkX4, rQkX5, rQkX6, rQkX7, rQkX8, rQkX9, blk, eds_length, eds_get, edsAt, edAV, allLeaf_eds, cleanL_eds, cleanL_ints, ints_length, ints_get, intsAt, endL, finB])
 | n + 1, v, e => by
   have hN := hG.1
   have h2 : (v : Int) < N := by omega
   have hw := wrapS (i := v) (by omega)
   have pp := pairs29_run hG hE (v := v) (by omega)
   have hl := nbr_len hG (u := (v : Int)) (by omega) (by omega)
   have wb := wdgs_bd hG v (by omega)
   have ih := wh9_loop hG hE t n (v + 1) (by omega)
   have el : (wdgs N Es (v + 1)).length = (wdgs N Es v).length + pr (nbr N Es v).length := by rw [wdgs, List.length_append, prsL_length]
   have pb := pr_bd (n := (nbr N Es v).length) (by omega)
   rw [el] at ih
   refine (loop_next (s' := whS9 N (eds Es) t ((wdgs N Es v).length + pr (nbr N Es v).length) (v + 1) []) ?_).trans ih
   generalize (wdgs N Es v).length = W1 at *
   generalize pr (nbr N Es v).length = d at *
   have s4 : IntKind.i64.wrap ((W1 : Int) + (d : Int)) = ((W1 + d : Nat) : Int) := by rw [wrap_id (by omega) (by omega)]; omega
   generalize eds Es = Y at *
   unfold lQkX0 whS9
   simp [rQkX0, rQkX1, rQkX2, rQkX3, rQkX4, rQkX5, rQkX6, rQkX7, rQkX8, rQkX9, h2, hw, pp, s4, sQx, iQx, blk, eds_length, eds_get, edsAt, edAV, allLeaf_eds, cleanL_eds, cleanL_ints, ints_length, ints_get, intsAt, endL, finB]
theorem whole29_run {N : Nat} {Es : List Ed} (hG : GOK (N : Int) Es) (hE : Es.length < 1000000) : callL cfgS nQk [.agg [.int .i64 N, .list 2 (eds Es)]] [] = some (.tup [FX N Es, .int .i64 0], []) := by
 have wb := wl_bd hG
 have tl := three_le hG
 have lp := wh9_loop hG hE (tri N Es) N 0 (by omega)
 have cr := count29_run hG hE
 have sh := share29_run (a := 3 * tri N Es) (b := (wdgs N Es N).length) (by omega) (by omega) tl
 have w : IntKind.i64.wrap (3 * (tri N Es : Int)) = ((3 * tri N Es : Nat) : Int) := by
  rw [Int.natCast_mul]; exact wrap_id (by omega) (by omega)
 unfold whS9 at lp
 rw [wdgs, List.length_nil, nat0] at lp
 unfold FX
 unfold fr at *
 generalize (wdgs N Es N).length = P at *
 generalize 3 * tri N Es = t3 at *
 generalize t3 / Nat.gcd t3 (max P 1) = x at *
 generalize max P 1 / Nat.gcd t3 (max P 1) = y at *
 generalize (tri N Es : Int) = t at *
 generalize eds Es = Y at *
 rw [callL_end oQk sQk (Nat.le_of_ble_eq_true rfl)]
 unfold qQk cQk
 simp [rQkX0, rQkX1, rQkX2, rQkX3, rQkX4, rQkX5, rQkX6, rQkX7, rQkX8, rQkX9, lp, cr, sh, w, blk, sQw, iQw, sQy, iQy, plL, pl, endL, finB]
end Go.BmP
