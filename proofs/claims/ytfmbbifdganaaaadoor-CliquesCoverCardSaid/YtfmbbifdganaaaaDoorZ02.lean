/- The comparison of graph.Order, over a configuration without in-place functions: what is asked of a comparison. -/
import Derived.Test.YtfmbbifdganaaaaDoorUseM
import Derived.Test.YtfmbbifdganaaaaDoorCfZ
import Derived.Test.YtfmbbifdganaaaaDoorRunX
import Derived.Test.YtfmbbifdganaaaaDoorGrfP
import Derived.Test.YtfmbbifdganaaaaDoorCfO
import Derived.Test.YtfmbbifdganaaaaDoorSrfO
set_option linter.unusedSimpArgs false
set_option linter.unusedVariables false
set_option maxRecDepth 100000
set_option maxHeartbeats 4000000
namespace Go.BmZ
open Go.Am Go.Bm Go.BmP
section
attribute [local simp] frzLab
theorem nan_run (x : Int) : callL cfgS nQW [.int .i64 x] [] = some (.bool false, []) := by
 rw [callL_end oQW sQW (Nat.le_of_ble_eq_true rfl)]
 unfold qQW cQW
 simp [Go.BmZ.locN, Go.BmZ.eatN, rQWX0, rQWX1, endL, finB]
theorem cmpJ_run (x y : Int) : callL cfgS nQU [.int .i64 x, .int .i64 y] [] = some (.int .i64 (cmpJ x y), []) := by
 rw [callL_end oQU sQU (Nat.le_of_ble_eq_true rfl)]
 have hx := nan_run x
 have hy := nan_run y
 unfold qQU cQU cmpJ
 by_cases h1 : x < y
 ·simp [Go.BmZ.locN, Go.BmZ.eatN, rQUX0, rQUX1, rQUX2, rQUX3, rQUX4, rQUX5, rQUX6, rQUX7, rQUX8, rQUX9, rQUX10, rQUX11, rQUX12, rQUX13, hx, hy, h1, sQW, iQW, endL, finB]
 ·by_cases h2 : y < x
  ·simp [Go.BmZ.locN, Go.BmZ.eatN, rQUX0, rQUX1, rQUX2, rQUX3, rQUX4, rQUX5, rQUX6, rQUX7, rQUX8, rQUX9, rQUX10, rQUX11, rQUX12, rQUX13, hx, hy, h1, h2, sQW, iQW, endL, finB]
  ·simp [Go.BmZ.locN, Go.BmZ.eatN, rQUX0, rQUX1, rQUX2, rQUX3, rQUX4, rQUX5, rQUX6, rQUX7, rQUX8, rQUX9, rQUX10, rQUX11, rQUX12, rQUX13, hx, hy, h1, h2, sQW, iQW, endL, finB]
theorem or_run (a b : Int) : callL cfgS nQT [.list 1 [.int .i64 a, .int .i64 b]] [] = some (.int .i64 (if a = 0 then b else a), []) := by
 rw [callL_end oQT sQT (Nat.le_of_ble_eq_true rfl)]
 have t2 : IntKind.i64.wrap 2 = 2 := by decide
 have l3 : codeL cfgS 0 (.loop lQTX0) ⟨[(3, .int .i64 0), (6, .list 1 [.int .i64 a, .int .i64 b]), (7, .int .i64 2), (8, .int .i64 2)], []⟩ = some (.exit 0, ⟨[(3, .int .i64 0), (6, .list 1 [.int .i64 a, .int .i64 b]), (7, .int .i64 2), (8, .int .i64 2), (9, .bool false)], []⟩) :=
  loop_exit (by unfold lQTX0; simp [Go.BmZ.locN, Go.BmZ.eatN, rQTX0, rQTX1, rQTX2, rQTX3, rQTX4, rQTX5, rQTX6, rQTX7, rQTX8, blk, eds_length, eds_get, edsAt, edAV, allLeaf_eds, cleanL_eds, cleanL_ints, ints_length, ints_get, intsAt, endL, finB])
 have l2 : codeL cfgS 0 (.loop lQTX0) ⟨[(3, .int .i64 0), (6, .list 1 [.int .i64 a, .int .i64 b]), (7, .int .i64 2), (8, .int .i64 1)], []⟩ = if b = 0 then some (.exit 0, ⟨[(3, .int .i64 0), (6, .list 1 [.int .i64 a, .int .i64 b]), (7, .int .i64 2), (8, .int .i64 2), (9, .bool false)], []⟩) else some (.ret, ⟨[(2, .int .i64 b)], []⟩) := by
  by_cases hb : b = 0
  ·subst hb
   rw [if_pos rfl]
   exact (loop_next (by unfold lQTX0; simp [Go.BmZ.locN, Go.BmZ.eatN, rQTX0, rQTX1, rQTX2, rQTX3, rQTX4, rQTX5, rQTX6, rQTX7, rQTX8, idx, t2, blk, eds_length, eds_get, edsAt, edAV, allLeaf_eds, cleanL_eds, cleanL_ints, ints_length, ints_get, intsAt, endL, finB])).trans l3
  ·rw [if_neg hb]
   exact loop_ret (by unfold lQTX0; simp [Go.BmZ.locN, Go.BmZ.eatN, rQTX0, rQTX1, rQTX2, rQTX3, rQTX4, rQTX5, rQTX6, rQTX7, rQTX8, hb, idx, blk, eds_length, eds_get, edsAt, edAV, allLeaf_eds, cleanL_eds, cleanL_ints, ints_length, ints_get, intsAt, endL, finB])
 have l1 : codeL cfgS 0 (.loop lQTX0) ⟨[(3, .int .i64 0), (6, .list 1 [.int .i64 a, .int .i64 b]), (7, .int .i64 2), (8, .int .i64 0)], []⟩ = if a = 0 then (if b = 0 then some (.exit 0, ⟨[(3, .int .i64 0), (6, .list 1 [.int .i64 a, .int .i64 b]), (7, .int .i64 2), (8, .int .i64 2), (9, .bool false)], []⟩) else some (.ret, ⟨[(2, .int .i64 b)], []⟩)) else some (.ret, ⟨[(2, .int .i64 a)], []⟩) := by
  by_cases ha : a = 0
  ·subst ha
   rw [if_pos rfl]
   exact (loop_next (by unfold lQTX0; simp [Go.BmZ.locN, Go.BmZ.eatN, rQTX0, rQTX1, rQTX2, rQTX3, rQTX4, rQTX5, rQTX6, rQTX7, rQTX8, idx, blk, eds_length, eds_get, edsAt, edAV, allLeaf_eds, cleanL_eds, cleanL_ints, ints_length, ints_get, intsAt, endL, finB])).trans l2
  ·rw [if_neg ha]
   exact loop_ret (by unfold lQTX0; simp [Go.BmZ.locN, Go.BmZ.eatN, rQTX0, rQTX1, rQTX2, rQTX3, rQTX4, rQTX5, rQTX6, rQTX7, rQTX8, ha, idx, blk, eds_length, eds_get, edsAt, edAV, allLeaf_eds, cleanL_eds, cleanL_ints, ints_length, ints_get, intsAt, endL, finB])
 clear l2 l3
 unfold qQT cQT
 by_cases ha : a = 0
 ·subst ha
  rw [if_pos rfl] at l1
  by_cases hb : b = 0
  ·subst hb
   rw [if_pos rfl] at l1
   simp [Go.BmZ.locN, Go.BmZ.eatN, rQTX0, rQTX1, rQTX2, rQTX3, rQTX4, rQTX5, rQTX6, rQTX7, rQTX8, l1, blk, eds_length, eds_get, edsAt, edAV, allLeaf_eds, cleanL_eds, cleanL_ints, ints_length, ints_get, intsAt, endL, finB]
  ·rw [if_neg hb] at l1
   simp [Go.BmZ.locN, Go.BmZ.eatN, rQTX0, rQTX1, rQTX2, rQTX3, rQTX4, rQTX5, rQTX6, rQTX7, rQTX8, l1, hb, blk, eds_length, eds_get, edsAt, edAV, allLeaf_eds, cleanL_eds, cleanL_ints, ints_length, ints_get, intsAt, endL, finB]
 ·rw [if_neg ha] at l1
  simp [Go.BmZ.locN, Go.BmZ.eatN, rQTX0, rQTX1, rQTX2, rQTX3, rQTX4, rQTX5, rQTX6, rQTX7, rQTX8, l1, ha, blk, eds_length, eds_get, edsAt, edAV, allLeaf_eds, cleanL_eds, cleanL_ints, ints_length, ints_get, intsAt, endL, finB]
theorem order_run (x y : Int × Int) : callL cfgS nQB [pr2 x, pr2 y] [] = some (.int .i64 (cfO x y), []) := by
 obtain ⟨a, b⟩ := x
 obtain ⟨c, d⟩ := y
 have h1 := cmpJ_run a c
 have h2 := cmpJ_run b d
 have h3 := or_run (cmpJ a c) (cmpJ b d)
 have e : cfO (a, b) (c, d) = if cmpJ a c = 0 then cmpJ b d else cmpJ a c := rfl
 rw [e]
 generalize (if cmpJ a c = 0 then cmpJ b d else cmpJ a c) = z at *
 generalize cmpJ a c = u at *
 generalize cmpJ b d = v at *
 rw [callL_end oQB sQB (Nat.le_of_ble_eq_true rfl)]
 unfold qQB cQB pr2
 simp [Go.BmZ.locN, Go.BmZ.eatN, rQBX0, rQBX1, h1, h2, h3, blk, sQU, iQU, sQT, iQT, plL, pl, endL, finB]
end
theorem rep2 {R : Addr -> Value -> Prop} {φ : Phi} (x : Int × Int) : Rep R φ (pr2 x) (.agg (enc2 x).toArray) := by
 refine .agg _ _ _ rfl fun i c v hc hv => ?_
 match i with
 | 0 => simp [enc2] at hc hv; subst hc; subst hv; exact .int _ _ _
 | 1 => simp [enc2] at hc hv; subst hc; subst hv; exact .int _ _ _
 | i + 2 => simp at hc
theorem order_ok : CmpOK Go.Proofs.Tryd.prog nQB cfO := by
 intro x y W
 obtain ⟨n, hn⟩ := callL_iff.1 (order_run x y)
 refine (calls_ofG cfgSOK (InpOK.none fun _ => rfl) (fun f g md q hf => by cases hf) (show cfgS.fn nQB = _ from sQB) rfl rfl hn rfl ⟨rfl, fun i c v hc hv => ?_⟩ (glOK_none (fun _ => rfl))).mono ?_
 ·match i with
  | 0 => simp at hc hv; subst hc; subst hv; exact rep2 x
  | 1 => simp at hc hv; subst hc; subst hv; exact rep2 y
  | i + 2 => simp at hc
 ·rintro e w' ⟨v, rfl, hr, hg⟩
  cases hr
  exact ⟨rfl, hg⟩
end Go.BmZ
