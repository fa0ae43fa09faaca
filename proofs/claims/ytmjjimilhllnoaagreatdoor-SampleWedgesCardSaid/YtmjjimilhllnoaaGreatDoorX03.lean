/- What ref30.Wedges and sample.closed, Wedge and ByWedges return. -/
import Derived.Test.YtmjjimilhllnoaaGreatDoorUseM
import Derived.Test.YtmjjimilhllnoaaGreatDoorX02
import Derived.Test.YtmjjimilhllnoaaGreatDoorU11
import Derived.Test.YtmjjimilhllnoaaGreatDoorS11
set_option linter.unusedSimpArgs false
set_option linter.unusedVariables false
set_option maxRecDepth 100000
set_option maxHeartbeats 4000000
namespace Go.BmP
open Go.Am Go.Bm
theorem pr_eq (n : Nat) : ((n : Int) * ((n : Int) - 1)).tdiv 2 = (pr n : Nat) := by
 have h := pr_two n
 cases n with
 | zero => rfl
 | succ m =>
   rw [show ((m + 1 : Nat) : Int) - 1 = (m : Int) by omega, <- Int.natCast_mul, show (2 : Int) = ((2 : Nat) : Int) from rfl, <- Int.ofNat_tdiv]
   rw [Nat.add_sub_cancel] at h
   omega
theorem mul_bd {n : Nat} (h : n <= 64) : 0 <= (n : Int) * ((n : Int) - 1) /\ (n : Int) * ((n : Int) - 1) <= 8192 := by
 have h2 := pr_two n
 have hb := pr_bd h
 cases n with
 | zero => simp
 | succ m =>
   rw [show ((m + 1 : Nat) : Int) - 1 = (m : Int) by omega, <- Int.natCast_mul]
   rw [Nat.add_sub_cancel] at h2
   omega
def r3St (N : Nat) (Y : List AV) (n : Nat) (v : Nat) (J : Env) : St := ⟨(1, .ptr 0 0) :: (5, .int .i64 n) :: (6, .int .i64 v) :: J, [some [.int .i64 N, .list 2 Y]]⟩
theorem r3_loop {N : Nat} {Es : List Ed} (hG : GOK (N : Int) Es) (hE : Es.length < 1000000) : ∀ n v : Nat, v + n = N ->
  codeL cfgS 0 (.loop lQfX0) (r3St N (eds Es) (wdgs N Es v).length v []) = some (.exit 0, r3St N (eds Es) (wdgs N Es N).length N [(16, .bool false)])
 | 0, v, e => by
   obtain rfl : v = N := by omega
   exact loop_exit (by unfold lQfX0 r3St; simp [rQfX0, rQfX1, rQfX2, rQfX3, rQfX4, rQfX5, rQfX6, rQfX7, rQfX8, rQfX9, rQfX10, blk, eds_length, eds_get, edsAt, edAV, allLeaf_eds, cleanL_eds, cleanL_ints, ints_length, ints_get, intsAt, endL, finB])
 | n + 1, v, e => by
   have hN := hG.1
   have h2 : (v : Int) < N := by omega
   have hw := wrapS (i := v) (by omega)
   have dg := degree_run hG hE (v := (v : Int)) (by omega) (by omega)
   have hl := nbr_len hG (u := (v : Int)) (by omega) (by omega)
   have wb := wdgs_bd hG v (by omega)
   have ih := r3_loop hG hE n (v + 1) (by omega)
   have el : (wdgs N Es (v + 1)).length = (wdgs N Es v).length + pr (nbr N Es v).length := by rw [wdgs, List.length_append, prsL_length]
   have pe := pr_eq (nbr N Es v).length
   have pb := pr_bd (n := (nbr N Es v).length) (by omega)
   have mb := mul_bd (n := (nbr N Es v).length) (by omega)
   rw [el] at ih
   refine (loop_next (s' := r3St N (eds Es) ((wdgs N Es v).length + pr (nbr N Es v).length) (v + 1) []) ?_).trans ih
   generalize (wdgs N Es v).length = W1 at *
   generalize (nbr N Es v).length = d at *
   have s1 : IntKind.i64.wrap ((d : Int) - 1) = (d : Int) - 1 := wrap_id (by omega) (by omega)
   have s2 : IntKind.i64.wrap ((d : Int) * ((d : Int) - 1)) = (d : Int) * ((d : Int) - 1) := wrap_id (by omega) (by omega)
   have s3 : IntKind.i64.wrap (pr d : Int) = (pr d : Int) := wrap_id (by omega) (by omega)
   have s4 : IntKind.i64.wrap ((W1 : Int) + (pr d : Int)) = ((W1 + pr d : Nat) : Int) := by rw [wrap_id (by omega) (by omega)]; omega
   generalize eds Es = Y at *
   unfold lQfX0 r3St
   simp [rQfX0, rQfX1, rQfX2, rQfX3, rQfX4, rQfX5, rQfX6, rQfX7, rQfX8, rQfX9, rQfX10, h2, hw, dg, s1, s2, s3, s4, pe, sQp, iQp, blk, eds_length, eds_get, edsAt, edAV, allLeaf_eds, cleanL_eds, cleanL_ints, ints_length, ints_get, intsAt, endL, finB]
theorem rwedges_run {N : Nat} {Es : List Ed} (hG : GOK (N : Int) Es) (hE : Es.length < 1000000) : callL cfgS nQf [.agg [.int .i64 N, .list 2 (eds Es)]] [] = some (.tup [.int .i64 (wdgs N Es N).length, .int .i64 0], []) := by
 have lp := r3_loop hG hE N 0 (by omega)
 have cc := rchk_run (N : Int) Es (by omega)
 rw [chkG_zero.2 hG] at cc
 unfold r3St at lp
 rw [wdgs, List.length_nil, nat0] at lp
 rw [callL_end oQf sQf (Nat.le_of_ble_eq_true rfl)]
 unfold qQf cQf
 generalize (wdgs N Es N).length = W at *
 generalize eds Es = Y at *
 simp [rQfX0, rQfX1, rQfX2, rQfX3, rQfX4, rQfX5, rQfX6, rQfX7, rQfX8, rQfX9, rQfX10, lp, cc, sQo, iQo, blk, eds_length, eds_get, edsAt, edAV, allLeaf_eds, cleanL_eds, cleanL_ints, ints_length, ints_get, intsAt, endL, finB]
theorem closed_run {N : Nat} {Es : List Ed} (hG : GOK (N : Int) Es) (hE : Es.length < 1000000) (w : Wd) : callL cfgS nQt [.agg [.int .i64 N, .list 2 (eds Es)], .agg [.int .i64 w.1, .int .i64 w.2.1, .int .i64 w.2.2]] [] = some (.bool (cls Es w), []) := by
 have ff := gfind_run hG hE w.1 w.2.2
 have hc : (decide (nrmE w.1 w.2.2 ∈ Es)) = cls Es w := by
  unfold cls
  refine decide_eq_decide.2 ?_
  unfold jn nrmE
  by_cases q : w.1 <= w.2.2
  ·rw [show (if w.2.2 < w.1 then w.2.2 else w.1) = w.1 from if_neg (by omega), show (if w.1 < w.2.2 then w.2.2 else w.1) = w.2.2 by split <;> omega]
   constructor
   ·exact .inl
   ·rintro (h | h)
    ·exact h
    ·have := (hG.2.2 _ h).2.1; simp at this; omega
  ·rw [show (if w.2.2 < w.1 then w.2.2 else w.1) = w.2.2 from if_pos (by omega), show (if w.1 < w.2.2 then w.2.2 else w.1) = w.1 from if_neg (by omega)]
   constructor
   ·exact .inr
   ·rintro (h | h)
    ·have := (hG.2.2 _ h).2.1; simp at this; omega
    ·exact h
 rw [<- hc]
 rw [callL_end oQt sQt (Nat.le_of_ble_eq_true rfl)]
 unfold qQt cQt
 generalize eds Es = Y at *
 generalize posE (nrmE w.1 w.2.2) Es = p at *
 by_cases h : nrmE w.1 w.2.2 ∈ Es
 ·rw [if_pos h] at ff
  rw [decide_eq_true h]
  have p0 : (0 : Int) <= p := by omega
  simp [rQtX0, rQtX1, ff, p0, idx, sQH, iQH, blk, eds_length, eds_get, edsAt, edAV, allLeaf_eds, cleanL_eds, cleanL_ints, ints_length, ints_get, intsAt, endL, finB]
 ·rw [if_neg h] at ff
  rw [decide_eq_false h]
  simp [rQtX0, rQtX1, ff, idx, sQH, iQH, blk, eds_length, eds_get, edsAt, edAV, allLeaf_eds, cleanL_eds, cleanL_ints, ints_length, ints_get, intsAt, endL, finB]
end Go.BmP
