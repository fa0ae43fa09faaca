/- The comparison of graph.Order, over a configuration without in-place functions: what is asked of a comparison. -/
import Derived.Test.YtjfdniggjdnkiaaUseM
import Derived.Test.YtjfdniggjdnkiaaCfZ
import Derived.Test.YtjfdniggjdnkiaaGrfP
import Derived.Test.YtjfdniggjdnkiaaCpcG
import Derived.Test.YtjfdniggjdnkiaaSrfO
set_option linter.unusedSimpArgs false
set_option linter.unusedVariables false
set_option maxRecDepth 100000
set_option maxHeartbeats 4000000
namespace Go.BmZ
open Go.Am Go.Bm Go.BmP
theorem nan_run (x : Int) : callL cfgS nQR [.int .i64 x] [] = some (.bool false, []) := by
 rw [callL_end oQR sQR (Nat.le_of_ble_eq_true rfl)]
 unfold qQR cQR
 simp [rQRX0, rQRX1, Go.BmZ.locN, Go.BmZ.eatN, endL, finB]
theorem cmpJ_run (x y : Int) : callL cfgS nQP [.int .i64 x, .int .i64 y] [] = some (.int .i64 (cmpJ x y), []) := by
 rw [callL_end oQP sQP (Nat.le_of_ble_eq_true rfl)]
 have hx := nan_run x
 have hy := nan_run y
 unfold qQP cQP cmpJ
 by_cases h1 : x < y
 ·simp [rQPX0, rQPX1, rQPX2, rQPX3, rQPX4, rQPX5, rQPX6, rQPX7, rQPX8, rQPX9, rQPX10, rQPX11, rQPX12, rQPX13, Go.BmZ.locN, Go.BmZ.eatN, hx, hy, h1, sQR, iQR, endL, finB]
 ·by_cases h2 : y < x
  ·simp [rQPX0, rQPX1, rQPX2, rQPX3, rQPX4, rQPX5, rQPX6, rQPX7, rQPX8, rQPX9, rQPX10, rQPX11, rQPX12, rQPX13, Go.BmZ.locN, Go.BmZ.eatN, hx, hy, h1, h2, sQR, iQR, endL, finB]
  ·simp [rQPX0, rQPX1, rQPX2, rQPX3, rQPX4, rQPX5, rQPX6, rQPX7, rQPX8, rQPX9, rQPX10, rQPX11, rQPX12, rQPX13, Go.BmZ.locN, Go.BmZ.eatN, hx, hy, h1, h2, sQR, iQR, endL, finB]
theorem or_run (a b : Int) : callL cfgS nQO [.list 1 [.int .i64 a, .int .i64 b]] [] = some (.int .i64 (if a = 0 then b else a), []) := by
 rw [callL_end oQO sQO (Nat.le_of_ble_eq_true rfl)]
 have t2 : IntKind.i64.wrap 2 = 2 := by decide
 have l3 : codeL cfgS 0 (.loop lQOX0) ⟨[(3, .int .i64 0), (6, .list 1 [.int .i64 a, .int .i64 b]), (7, .int .i64 2), (8, .int .i64 2)], []⟩ = some (.exit 0, ⟨[(3, .int .i64 0), (6, .list 1 [.int .i64 a, .int .i64 b]), (7, .int .i64 2), (8, .int .i64 2), (9, .bool false)], []⟩) :=
  loop_exit (by unfold lQOX0; simp [rQOX0, rQOX1, rQOX2, rQOX3, rQOX4, rQOX5, rQOX6, rQOX7, rQOX8, Go.BmZ.locN, Go.BmZ.eatN, blk, eds_length, eds_get, edsAt, edAV, allLeaf_eds, cleanL_eds, cleanL_ints, ints_length, ints_get, intsAt, endL, finB])
 have l2 : codeL cfgS 0 (.loop lQOX0) ⟨[(3, .int .i64 0), (6, .list 1 [.int .i64 a, .int .i64 b]), (7, .int .i64 2), (8, .int .i64 1)], []⟩ = if b = 0 then some (.exit 0, ⟨[(3, .int .i64 0), (6, .list 1 [.int .i64 a, .int .i64 b]), (7, .int .i64 2), (8, .int .i64 2), (9, .bool false)], []⟩) else some (.ret, ⟨[(2, .int .i64 b)], []⟩) := by
  by_cases hb : b = 0
  ·subst hb
   rw [if_pos rfl]
   exact (loop_next (by unfold lQOX0; simp [rQOX0, rQOX1, rQOX2, rQOX3, rQOX4, rQOX5, rQOX6, rQOX7, rQOX8, Go.BmZ.locN, Go.BmZ.eatN, idx, t2, blk, eds_length, eds_get, edsAt, edAV, allLeaf_eds, cleanL_eds, cleanL_ints, ints_length, ints_get, intsAt, endL, finB])).trans l3
  ·rw [if_neg hb]
   exact loop_ret (by unfold lQOX0; simp [rQOX0, rQOX1, rQOX2, rQOX3, rQOX4, rQOX5, rQOX6, rQOX7, rQOX8, Go.BmZ.locN, Go.BmZ.eatN, hb, idx, blk, eds_length, eds_get, edsAt, edAV, allLeaf_eds, cleanL_eds, cleanL_ints, ints_length, ints_get, intsAt, endL, finB])
 have l1 : codeL cfgS 0 (.loop lQOX0) ⟨[(3, .int .i64 0), (6, .list 1 [.int .i64 a, .int .i64 b]), (7, .int .i64 2), (8, .int .i64 0)], []⟩ = if a = 0 then (if b = 0 then some (.exit 0, ⟨[(3, .int .i64 0), (6, .list 1 [.int .i64 a, .int .i64 b]), (7, .int .i64 2), (8, .int .i64 2), (9, .bool false)], []⟩) else some (.ret, ⟨[(2, .int .i64 b)], []⟩)) else some (.ret, ⟨[(2, .int .i64 a)], []⟩) := by
  by_cases ha : a = 0
  ·subst ha
   rw [if_pos rfl]
   exact (loop_next (by unfold lQOX0; simp [rQOX0, rQOX1, rQOX2, rQOX3, rQOX4, rQOX5, rQOX6, rQOX7, rQOX8, Go.BmZ.locN, Go.BmZ.eatN, idx, blk, eds_length, eds_get, edsAt, edAV, allLeaf_eds, cleanL_eds, cleanL_ints, ints_length, ints_get, intsAt, endL, finB])).trans l2
  ·rw [if_neg ha]
   exact loop_ret (by unfold lQOX0; simp [rQOX0, rQOX1, rQOX2, rQOX3, rQOX4, rQOX5, rQOX6, rQOX7, rQOX8, Go.BmZ.locN, Go.BmZ.eatN, ha, idx, blk, eds_length, eds_get, edsAt, edAV, allLeaf_eds, cleanL_eds, cleanL_ints, ints_length, ints_get, intsAt, endL, finB])
 clear l2 l3
 unfold qQO cQO
 by_cases ha : a = 0
 ·subst ha
  rw [if_pos rfl] at l1
  by_cases hb : b = 0
  ·subst hb
   rw [if_pos rfl] at l1
   simp [rQOX0, rQOX1, rQOX2, rQOX3, rQOX4, rQOX5, rQOX6, rQOX7, rQOX8, Go.BmZ.locN, Go.BmZ.eatN, l1, blk, eds_length, eds_get, edsAt, edAV, allLeaf_eds, cleanL_eds, cleanL_ints, ints_length, ints_get, intsAt, endL, finB]
  ·rw [if_neg hb] at l1
   simp [rQOX0, rQOX1, rQOX2, rQOX3, rQOX4, rQOX5, rQOX6, rQOX7, rQOX8, Go.BmZ.locN, Go.BmZ.eatN, l1, hb, blk, eds_length, eds_get, edsAt, edAV, allLeaf_eds, cleanL_eds, cleanL_ints, ints_length, ints_get, intsAt, endL, finB]
 ·rw [if_neg ha] at l1
  simp [rQOX0, rQOX1, rQOX2, rQOX3, rQOX4, rQOX5, rQOX6, rQOX7, rQOX8, Go.BmZ.locN, Go.BmZ.eatN, l1, ha, blk, eds_length, eds_get, edsAt, edAV, allLeaf_eds, cleanL_eds, cleanL_ints, ints_length, ints_get, intsAt, endL, finB]
theorem order_run (x y : Int × Int) : callL cfgS nQD [pr2 x, pr2 y] [] = some (.int .i64 (cfO x y), []) := by
 obtain ⟨a, b⟩ := x
 obtain ⟨c, d⟩ := y
 have h1 := cmpJ_run a c
 have h2 := cmpJ_run b d
 have h3 := or_run (cmpJ a c) (cmpJ b d)
 have e : cfO (a, b) (c, d) = if cmpJ a c = 0 then cmpJ b d else cmpJ a c := rfl
 rw [e]
 generalize (if cmpJ a c = 0 then cmpJ b d else cmpJ a c) = z at *
 generalize cmpJ a c = u at *
 generalize cmpJ b d = v at *
 rw [callL_end oQD sQD (Nat.le_of_ble_eq_true rfl)]
 unfold qQD cQD pr2
 simp [rQDX0, rQDX1, Go.BmZ.locN, Go.BmZ.eatN, h1, h2, h3, blk, sQP, iQP, sQO, iQO, plL, pl, endL, finB]
theorem rep2 {R : Addr -> Value -> Prop} {φ : Phi} (x : Int × Int) : Rep R φ (pr2 x) (.agg (enc2 x).toArray) := by
 refine .agg _ _ _ rfl fun i c v hc hv => ?_
 match i with
 | 0 => simp [enc2] at hc hv; subst hc; subst hv; exact .int _ _ _
 | 1 => simp [enc2] at hc hv; subst hc; subst hv; exact .int _ _ _
 | i + 2 => simp at hc
theorem order_ok : CmpOK Go.Proofs.Try.prog nQD cfO := by
 intro x y W
 obtain ⟨n, hn⟩ := callL_iff.1 (order_run x y)
 refine (calls_ofG cfgSOK (InpOK.none fun _ => rfl) (fun f g md q hf => by cases hf) (show cfgS.fn nQD = _ from sQD) rfl rfl hn rfl ⟨rfl, fun i c v hc hv => ?_⟩ (glOK_none (fun _ => rfl))).mono ?_
 ·match i with
  | 0 => simp at hc hv; subst hc; subst hv; exact rep2 x
  | 1 => simp at hc hv; subst hc; subst hv; exact rep2 y
  | i + 2 => simp at hc
 ·rintro e w' ⟨v, rfl, hr, hg⟩
  cases hr
  exact ⟨rfl, hg⟩
end Go.BmZ
