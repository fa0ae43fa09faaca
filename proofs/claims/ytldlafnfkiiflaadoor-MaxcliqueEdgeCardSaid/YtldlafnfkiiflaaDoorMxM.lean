/- maxclique.longest, by its regions. -/
import Derived.Test.YtldlafnfkiiflaaDoorUseM
import Derived.Test.YtldlafnfkiiflaaDoorMxL
set_option linter.unusedSimpArgs false
set_option linter.unusedVariables false
set_option maxRecDepth 100000
set_option maxHeartbeats 8000000
namespace Go.BmP
open Go.Am Go.Bm
theorem get_lE (m : Nat) (s : Int) (x : Env) (i : Nat) (h : 4 < i) : opnd cfgS (lE m s x) (.t i) = lend i (Am.get x i) := by
 unfold lE opnd
 simp only [get_cons', if_neg (show i ≠ 0 by omega), if_neg (show i ≠ 1 by omega), if_neg (show i ≠ 2 by omega), if_neg (show i ≠ 3 by omega), if_neg (show i ≠ 4 by omega)]
def lArgs (m : Nat) (s : Int) : List AV := [.int .u64 (m : Nat), .int .i64 s, .ptr 1 0, .ptr 0 0, .ptr 2 0]
def LgEnd (A : List Nat) (m : Nat) (s b b' : Int) : Prop := (∃ m', codeL cfgS 3 (.loop lQBX0) ⟨lE m s [], lH A b⟩ = some (.exit 0, ⟨lE m' s [(27, .bool true)], lH A b'⟩)) \/ codeL cfgS 3 (.loop lQBX0) ⟨lE m s [], lH A b⟩ = some (.exit 0, ⟨lE 0 s [(12, .bool false)], lH A b'⟩)
theorem lg_fn {A : List Nat} {m : Nat} {s b b' : Int} (h : LgEnd A m s (mxI b s) b') : callL cfgS nQB (lArgs m s) (lH A b) = some (.tup [], lH A b') := by
 have h0 := lg_max A m s b
 rw [callL_end oQB sQB (Nat.le_of_ble_eq_true rfl)]
 unfold qQB cQB
 show endL cfgS _ _ 3 (codeL cfgS 3 _ ⟨lE m s [], lH A b⟩) = _
 rw [codeL_seq, codeL_skip, thenL_n, codeL_seq, h0, thenL_n, codeL_seq, codeL_skip, thenL_n, codeL_blk]
 rcases h with ⟨m', h⟩ | h
 ·rw [h, blkL_e, if_pos rfl]
  unfold lE lH lgF
  generalize us A = AA
  simp [rQBX0, rQBX1, rQBX2, rQBX3, rQBX4, rQBX5, endL, finB, finS, allB, notBox, plp, plpL, inBox, seesC, swC]
 ·rw [h, blkL_e, if_pos rfl]
  unfold lE lH lgF
  generalize us A = AA
  simp [rQBX0, rQBX1, rQBX2, rQBX3, rQBX4, rQBX5, endL, finB, finS, allB, notBox, plp, plpL, inBox, seesC, swC]
theorem lg_loop {A : List Nat} (hS : Small A) (hA : Sym A) : ∀ (m : Nat), m < 18446744073709551616 -> (∀ j, m.testBit j = true -> j < A.length) -> ∀ (s : Nat) (b : Int), (s : Int) <= b -> s + pcn m <= 1000 -> ∃ b', Rg A s m b b' /\ LgEnd A m s b b' := by
 intro m
 induction m using Nat.strongRecOn with
 | ind m ih =>
   intro hm hr s b hsb hsm
   by_cases h0 : m = 0
   ·subst h0
    refine ⟨b, rg_zero hsb, .inr (loop_exit ?_)⟩
    unfold lQBX0
    rw [codeL_seq, codeL_seq, lg_z, thenL_n, codeL_cnd, get_lE _ _ _ _ (by decide)]
    show thenL cfgS 3 _ (codeL cfgS 3 (.exit 0) _) = _
    rw [codeL_exit, thenL_e]
   ·have hs : (0 : Int) <= s /\ (s : Int) <= 1000 := by omega
    have stop : codeL cfgS 3 (.reg rQBX2 true [(5, 5), (6, 6), (13, 13), (14, 14), (0, 2), (0, 4), (1, 4), (2, 4), (3, 4), (7, 8), (8, 9), (7, 10), (7, 12), (8, 12), (9, 12), (10, 12), (11, 12)] [0, 1, 2, 3, 4, 27]) ⟨lE m s [(12, .bool true)], lH A b⟩ = some (.normal, ⟨lE m s [(27, .bool true)], lH A b⟩) -> LgEnd A m s b b := by
     intro e
     refine .inl ⟨m, loop_exit ?_⟩
     unfold lQBX0
     rw [codeL_seq, codeL_seq, lg_nz A s b h0, thenL_n, codeL_cnd, get_lE _ _ _ _ (by decide)]
     show thenL cfgS 3 _ (codeL cfgS 3 .skip _) = _
     rw [codeL_skip, thenL_n, codeL_blk, codeL_seq, codeL_seq, e, thenL_n, codeL_cnd, get_lE _ _ _ _ (by decide)]
     show blkL 1 (thenL cfgS 3 _ (codeL cfgS 3 (.exit 0) _)) = _
     rw [codeL_exit, thenL_e, blkL_e, if_neg (by decide)]
    by_cases k1 : (s : Int) + pcn m <= b
    ·refine ⟨b, rg_stop fun S hK hI => ?_, stop (lg_cnt A hm s b hs k1)⟩
     have := kq_bits hm hK hI
     have e : ((List.range 64).filter fun j => m.testBit j).length = pcn m := rfl
     omega
    ·obtain ⟨k, q1, q2, q3⟩ := bound_run hS hA m hm hr
     have e2 := lg_bnd A hm s b hs k1 q1 q3
     by_cases k2 : (s : Int) + k <= b
     ·rw [decide_eq_true k2] at e2
      refine ⟨b, rg_stop fun S hK hI => ?_, stop e2⟩
      have := q2 S hK hI
      omega
     ·rw [decide_eq_false k2] at e2
      obtain ⟨_, _, ht⟩ := tz_spec h0 hm
      obtain ⟨tb, _⟩ := tz_bit h0 hm
      have hwl := wo_lt hm ht tb
      have hw : wo m (tz m) < 18446744073709551616 := by omega
      have wb : ∀ j, (wo m (tz m)).testBit j = true -> m.testBit j = true := fun j hj => by
       rw [wo_bit hm ht] at hj
       simp only [Bool.and_eq_true] at hj
       exact hj.1
      have rb : ∀ j, (wo m (tz m) &&& A.getD (tz m) 0).testBit j = true -> (wo m (tz m)).testBit j = true := fun j hj => by
       rw [Nat.testBit_and] at hj
       simp only [Bool.and_eq_true] at hj
       exact hj.1
      have rl : wo m (tz m) &&& A.getD (tz m) 0 <= wo m (tz m) := Nat.and_le_left
      have p1 : pcn (wo m (tz m)) < pcn m := pcn_lt' hm wb hwl
      have p2 : pcn (wo m (tz m) &&& A.getD (tz m) 0) < pcn m := pcn_lt' hm (fun j hj => wb j (rb j hj)) (by omega)
      obtain ⟨b2, g1, g2⟩ := ih (wo m (tz m) &&& A.getD (tz m) 0) (by omega) (by omega) (fun j hj => hr j (wb j (rb j hj))) (s + 1) (mxI b ((s + 1 : Nat) : Int)) (by unfold mxI; split <;> omega) (by omega)
      have g1 := rg_max g1
      have hb2 : (s : Int) <= b2 := by have := g1.1; omega
      have hc := lg_fn g2
      have es : ((s + 1 : Nat) : Int) = (s : Int) + 1 := by omega
      rw [es] at hc
      obtain ⟨b3, f1, f2⟩ := ih (wo m (tz m)) hwl hw (fun j hj => hr j (wb j hj)) s b2 hb2 (by omega)
      have step : codeL cfgS 3 lQBX0 ⟨lE m s [], lH A b⟩ = some (.normal, ⟨lE (wo m (tz m)) s [], lH A b2⟩) := by
       unfold lQBX0
       rw [codeL_seq, codeL_seq, lg_nz A s b h0, thenL_n, codeL_cnd, get_lE _ _ _ _ (by decide)]
       show thenL cfgS 3 _ (codeL cfgS 3 .skip _) = _
       rw [codeL_skip, thenL_n, codeL_blk, codeL_seq, codeL_seq, e2, thenL_n, codeL_cnd, get_lE _ _ _ _ (by decide)]
       show blkL 1 (thenL cfgS 3 _ (codeL cfgS 3 .skip _)) = _
       rw [codeL_skip, thenL_n, codeL_seq, lg_tz A h0 hm, thenL_n, codeL_seq, lg_wo A h0 hm, thenL_n, lg_call hS hw (hr _ tb) hs hc, blkL_n]
      refine ⟨b3, rg_step h0 hm g1 f1, ?_⟩
      unfold LgEnd at f2 ⊢
      rw [loop_next step]
      exact f2
theorem longest_run {A : List Nat} (hS : Small A) (hA : Sym A) (m : Nat) (hm : m < 18446744073709551616) (hr : ∀ j, m.testBit j = true -> j < A.length) (least : Int) : ∃ r, Rg A 0 m least r /\ callL cfgS nQw [.list 1 (us A), .int .u64 m, .int .i64 least] [] = some (.int .i64 r, []) := by
 obtain ⟨r, g1, g2⟩ := lg_loop hS hA m hm hr 0 (mxI least ((0 : Nat) : Int)) (by unfold mxI; split <;> omega) (by have := pcn_le m; omega)
 refine ⟨r, rg_max g1, ?_⟩
 have hc := lg_fn g2
 rw [callL_end oQw sQw (Nat.le_of_ble_eq_true rfl)]
 unfold qQw cQw
 unfold lArgs lH lgF at hc
 rw [nat0] at hc
 generalize us A = AA at *
 generalize (m : Int) = X at *
 simp [rQwX0, rQwX1, rQwX2, rQwX3, rQwX4, rQwX5, hc, plp, plpL, allB, notBox, swC, seesC, inBox, offBoxes, offLab, calmB, sQB, iQB, endL, finB, blk]
end Go.BmP
