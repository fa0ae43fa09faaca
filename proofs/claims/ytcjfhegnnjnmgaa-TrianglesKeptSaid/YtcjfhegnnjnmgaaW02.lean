/- What ref03.Common and the law's own comparison of lists return. -/
import Derived.Test.YtcjfhegnnjnmgaaUseM
import Derived.Test.YtcjfhegnnjnmgaaV04
import Derived.Test.YtcjfhegnnjnmgaaT06
import Derived.Test.YtcjfhegnnjnmgaaR02c
set_option linter.unusedSimpArgs false
set_option linter.unusedVariables false
set_option maxRecDepth 100000
set_option maxHeartbeats 4000000
namespace Go.BmP
open Go.Am Go.Bm
theorem lints_loop (a b : List Int) (hl : a.length = b.length) (ha : a.length < 4294967295) : ∀ (k i : Nat), i + k = a.length -> codeL cfgS 0 (.loop lLaw29IntsX0) ⟨[(0, .list 1 (ints a)), (1, .list 1 (ints b)), (12, .int .i64 a.length), (13, .int .i64 i)], []⟩ =
  if a.drop i = b.drop i then some (.exit 0, ⟨[(0, .list 1 (ints a)), (1, .list 1 (ints b)), (12, .int .i64 a.length), (13, .int .i64 a.length), (14, .bool false)], []⟩) else some (.ret, ⟨[(4, .bool false)], []⟩)
 | 0, i, hi => by
   obtain rfl : i = a.length := by omega
   rw [List.drop_length, hl, List.drop_length, if_pos rfl]
   exact loop_exit (by unfold lLaw29IntsX0; simp [rLaw29IntsX0, rLaw29IntsX1, rLaw29IntsX2, rLaw29IntsX3, rLaw29IntsX4, rLaw29IntsX5, rLaw29IntsX6, rLaw29IntsX7, rLaw29IntsX8, rLaw29IntsX9, blk, eds_length, eds_get, edsAt, edAV, allLeaf_eds, cleanL_eds, cleanL_ints, ints_length, ints_get, intsAt, endL, finB])
 | k + 1, i, hi => by
   have hlt : i < a.length := by omega
   have hltb : i < b.length := by omega
   have h1 : (i : Int) < a.length := by omega
   have h1b : (i : Int) < b.length := by omega
   have hw := wrapS (i := i) (by omega)
   have ih := lints_loop a b hl ha k (i + 1) (by omega)
   have i1 := idx_lt (k := .i64) (i := (i : Int)) (n := a.length) (by omega) h1
   have i2 := idx_lt (k := .i64) (i := (i : Int)) (n := b.length) (by omega) h1b
   rw [List.drop_eq_getElem_cons hlt, List.drop_eq_getElem_cons hltb]
   simp only [List.cons.injEq]
   by_cases e : a[i] = b[i]
   ·have : (a[i] = b[i] /\ a.drop (i + 1) = b.drop (i + 1)) = (a.drop (i + 1) = b.drop (i + 1)) := by simp [e]
    simp only [this]
    rw [<- ih]
    exact loop_next (by unfold lLaw29IntsX0; simp [rLaw29IntsX0, rLaw29IntsX1, rLaw29IntsX2, rLaw29IntsX3, rLaw29IntsX4, rLaw29IntsX5, rLaw29IntsX6, rLaw29IntsX7, rLaw29IntsX8, rLaw29IntsX9, h1, h1b, hlt, hltb, hw, i1, i2, e, blk, eds_length, eds_get, edsAt, edAV, allLeaf_eds, cleanL_eds, cleanL_ints, ints_length, ints_get, intsAt, endL, finB])
   ·rw [if_neg (fun k => e k.1)]
    exact loop_ret (by unfold lLaw29IntsX0; simp [rLaw29IntsX0, rLaw29IntsX1, rLaw29IntsX2, rLaw29IntsX3, rLaw29IntsX4, rLaw29IntsX5, rLaw29IntsX6, rLaw29IntsX7, rLaw29IntsX8, rLaw29IntsX9, h1, h1b, hlt, hltb, hw, i1, i2, e, blk, eds_length, eds_get, edsAt, edAV, allLeaf_eds, cleanL_eds, cleanL_ints, ints_length, ints_get, intsAt, endL, finB])
theorem lints_run (a b : List Int) (ha : a.length < 4294967295) : callL cfgS nLaw29Ints [.list 1 (ints a), .list 1 (ints b)] [] = some (.bool (decide (a = b)), []) := by
 rw [callL_end oLaw29Ints sLaw29Ints (Nat.le_of_ble_eq_true rfl)]
 unfold qLaw29Ints cLaw29Ints
 by_cases hl : a.length = b.length
 ·have lp := lints_loop a b hl ha a.length 0 (by omega)
  rw [List.drop_zero, List.drop_zero, nat0] at lp
  have hl' : (a.length : Int) = b.length := by omega
  by_cases e : a = b
  ·rw [if_pos e] at lp
   subst e
   simp [rLaw29IntsX0, rLaw29IntsX1, rLaw29IntsX2, rLaw29IntsX3, rLaw29IntsX4, rLaw29IntsX5, rLaw29IntsX6, rLaw29IntsX7, rLaw29IntsX8, rLaw29IntsX9, lp, blk, eds_length, eds_get, edsAt, edAV, allLeaf_eds, cleanL_eds, cleanL_ints, ints_length, ints_get, intsAt, endL, finB]
  ·rw [if_neg e] at lp
   rw [decide_eq_false e]
   rw [hl'] at lp
   simp [rLaw29IntsX0, rLaw29IntsX1, rLaw29IntsX2, rLaw29IntsX3, rLaw29IntsX4, rLaw29IntsX5, rLaw29IntsX6, rLaw29IntsX7, rLaw29IntsX8, rLaw29IntsX9, lp, hl', blk, eds_length, eds_get, edsAt, edAV, allLeaf_eds, cleanL_eds, cleanL_ints, ints_length, ints_get, intsAt, endL, finB]
 ·have hl' : ¬ (a.length : Int) = b.length := by omega
  have e : ¬ a = b := fun k => hl (by rw [k])
  rw [decide_eq_false e]
  simp [rLaw29IntsX0, rLaw29IntsX1, rLaw29IntsX2, rLaw29IntsX3, rLaw29IntsX4, rLaw29IntsX5, rLaw29IntsX6, rLaw29IntsX7, rLaw29IntsX8, rLaw29IntsX9, hl', blk, eds_length, eds_get, edsAt, edAV, allLeaf_eds, cleanL_eds, cleanL_ints, ints_length, ints_get, intsAt, endL, finB]
theorem meet_com {N : Nat} {Es : List Ed} (hG : GOK (N : Int) Es) {u v : Int} (hu : 0 <= u /\ u < N) (hv : 0 <= v /\ v < N) : meet (nbr N Es u) (nbr N Es v) = com N Es (u, v) := by
 obtain ⟨m1, m2⟩ := meet_spec (nbr N Es u) (nbr N Es v)
 have hb : 0 <= (u, v).1 /\ (u, v).1 < (N : Int) /\ 0 <= (u, v).2 /\ (u, v).2 < (N : Int) := ⟨hu.1, hu.2, hv.1, hv.2⟩
 refine up_ext m1 (com_up hG hb) fun x => ?_
 rw [m2, com_mem hG hb, nbr_mem hG hu.1 hu.2, nbr_mem hG hv.1 hv.2]
theorem common_run {N : Nat} {Es : List Ed} (hG : GOK (N : Int) Es) (hE : Es.length < 1000000) {u v : Int} (hu : 0 <= u /\ u < N) (hv : 0 <= v /\ v < N) (huv : u ≠ v) : callL cfgS nRef03Common [.agg [.int .i64 N, .list 2 (eds Es)], .int .i64 u, .int .i64 v] [] = some (.list 1 (ints (com N Es (u, v))), []) := by
 have n1 := neighbours_run hG hE hu.1 hu.2
 have n2 := neighbours_run hG hE hv.1 hv.2
 have hN := hG.1
 have l1 := nbr_len hG hu.1 hu.2
 have l2 := nbr_len hG hv.1 hv.2
 have mt := meet_run (nbr N Es u) (nbr N Es v) (by omega) (by omega)
 rw [meet_com hG hu hv] at mt
 rw [callL_end oRef03Common sRef03Common (Nat.le_of_ble_eq_true rfl)]
 unfold qRef03Common cRef03Common
 generalize ints (com N Es (u, v)) = T at *
 generalize ints (nbr N Es u) = A1 at *
 generalize ints (nbr N Es v) = A2 at *
 generalize eds Es = Y at *
 simp [rRef03CommonX0, rRef03CommonX1, rRef03CommonX2, rRef03CommonX3, n1, n2, mt, huv, sRef03Neighbours, iRef03Neighbours, lRef03Neighbours, eRef03Neighbours, sRef02Meet, iRef02Meet, lRef02Meet, eRef02Meet, blk, plp, plpL, allB, notBox, swC, swS, seesC, inBox, plL, pl, relB, handBox, mvBB, mvRtB, endL, finB, finS]
end Go.BmP
