/- The library's Compact at a list of pairs: what its function does. -/
import Derived.Test.YtjfdniggjdnkiaaBmP
import Derived.Test.YtjfdniggjdnkiaaSrfO
import Derived.Test.YtjfdniggjdnkiaaGrfP
import Derived.Shelf.SlicesQ.Reverse
import Derived.Laws.StructEq
import Derived.Lib.SlicesCompact
import Derived.Shelf.RegionOpenPlain
import Derived.WalkKit
import Derived.Deep.LoopGhost
import Derived.Deep.Draws
import Derived.Test.YtjfdniggjdnkiaaCpcG
set_option linter.unusedVariables false
set_option linter.unusedSimpArgs false
namespace Go.Proofs
open Go.Shelf Go.RowKit Go.Lib Go.Sort Go.Bm
theorem cpcM : Try.prog.follows .mixedOrders = true := by kernel_rfl
theorem flatK2_get (d : Array (Int × Int)) (t : Nat) (h : t < d.size * 2) : (flatK enc2 2 d)[t]! = (enc2 d[t / 2]!)[t % 2]! := get_flatK enc2 2 d t h
theorem setMany_one (dk : Array (Int × Int)) (i : Nat) (u : Int × Int) (hi : i < dk.size) : setMany (flatK enc2 2 dk) (i * 2) (enc2 u) = flatK enc2 2 (dk.setIfInBounds i u) := by
 refine ext_get! (by simp) fun t ht => ?_
 have ht' : t < dk.size * 2 := by simpa using ht
 rw [get_setMany _ _ _ _ (by simpa using ht'), flatK2_get dk t ht', flatK2_get (dk.setIfInBounds i u) t (by simpa using ht')]
 have hl : (enc2 u).length = 2 := rfl
 rw [hl]
 by_cases c : i * 2 <= t /\ t < i * 2 + 2
 ·have e1 : t / 2 = i := by omega
  have e2 : t - i * 2 = t % 2 := by omega
  rw [if_pos c, e1, e2, getElem!_set_same dk i u hi]
 ·have e1 : t / 2 ≠ i := by omega
  rw [if_neg c, getElem!_set_other dk i (t / 2) u e1]
theorem putRow2_set (W : World) (blk off : Nat) (dk : Array (Int × Int)) (i : Nat) (u : Int × Int) (hi : i < dk.size) : (putRowK enc2 2 W blk off dk).setCells blk (off + i * 2) (enc2 u) = putRowK enc2 2 W blk off (dk.setIfInBounds i u) := by
 unfold putRowK
 rw [setCells_putRow _ _ _ _ _ _ (by simp [enc2]; omega), setMany_one dk i u hi]
def flatV2 : List (Int × Int) -> List Value
 | [] => []
 | x :: r => enc2 x ++ flatV2 r
theorem flatV2_length : ∀ l, (flatV2 l).length = l.length * 2
 | [] => rfl
 | x :: r => by simp [flatV2, flatV2_length r, enc2]; omega
theorem flatV2_one : ∀ l, ∀ v ∈ flatV2 l, v.oneCell' = true
 | [], v, h => by simp [flatV2] at h
 | x :: r, v, h => by
   rcases List.mem_append.1 h with h | h
   ·simp [enc2] at h
    rcases h with rfl | rfl <;> rfl
   ·exact flatV2_one r v h
theorem putRow2_setCells (W : World) (blk off : Nat) : ∀ (xs : List (Int × Int)) (dk : Array (Int × Int)) (i : Nat), i + xs.length <= dk.size -> (putRowK enc2 2 W blk off dk).setCells blk (off + i * 2) (flatV2 xs) = putRowK enc2 2 W blk off (lay dk i xs)
 | [], dk, i, h => rfl
 | x :: r, dk, i, h => by
   have hl : i + (r.length + 1) <= dk.size := by simpa using h
   have e : (putRowK enc2 2 W blk off dk).setCells blk (off + i * 2) (flatV2 (x :: r)) = ((putRowK enc2 2 W blk off dk).setCells blk (off + i * 2) (enc2 x)).setCells blk (off + i * 2 + 2) (flatV2 r) := rfl
   rw [e, putRow2_set _ _ _ _ _ _ (by omega), show off + i * 2 + 2 = off + (i + 1) * 2 by omega]
   exact putRow2_setCells W blk off r _ (i + 1) (by simp; omega)
theorem zeros2 (n : Nat) : (Builtin.zeroCells (Value.agg #[.int .i64 0, .int .i64 0]).cells n).toList = flatV2 (List.replicate n (0, 0)) := by
 apply List.ext_getElem
 ·rw [flatV2_length]; simp [Builtin.zeroCells, Value.cells]
 ·intro i h1 h2
  have a1 : ∀ v ∈ (Builtin.zeroCells (Value.agg #[.int .i64 0, .int .i64 0]).cells n).toList, v = .int .i64 0 := by
   intro v hv
   simp [Builtin.zeroCells, Value.cells] at hv
   obtain ⟨a, _, h⟩ := hv
   rcases Nat.mod_two_eq_zero_or_one a with e | e
   ·rw [e] at h; exact h.symm
   ·rw [e] at h; exact h.symm
  have a2 : ∀ m, ∀ v ∈ flatV2 (List.replicate m (0, 0)), v = .int .i64 0 := by
   intro m
   induction m with
   | zero => intro v hv; simp [flatV2] at hv
   | succ m ih =>
     intro v hv
     rw [List.replicate_succ] at hv
     rcases List.mem_append.1 hv with h | h
     ·simp [enc2] at h; exact h
     ·exact ih v h
  rw [a1 _ (List.getElem_mem h1), a2 n _ (List.getElem_mem h2)]
def eqv2 (x y : Int × Int) : Bool := decide (x = y)
theorem eq2 : (∀ (x y : Int × Int) (w : World), (binOp .eql 50 (.agg (enc2 x).toArray) (.agg (enc2 y).toArray)).run Try.prog w = .ok (.bool (eqv2 x y)) w) /\
  (∀ (x y : Int × Int) (w : World), (binOp .neq 50 (.agg (enc2 x).toArray) (.agg (enc2 y).toArray)).run Try.prog w = .ok (.bool (!eqv2 x y)) w) /\
  (∀ (op : BinOp) (a b : Operand) (x y : Int × Int) (w : World), (eqGuard op 50 a b (.agg (enc2 x).toArray) (.agg (enc2 y).toArray)).run Try.prog w = .ok () w) := by
 have u3 := Try.underlying3
 have a3 := Try.isAgg3
 have z3 := Try.sizeOf3
 have hS : Try.prog.underlying 50 = some (.struct (Try.prog.fieldsOf 50)) := by kernel_rfl
 have hp : Try.prog.stoodInHeld 50 = false := by kernel_rfl
 refine ⟨fun x y w => ?_, fun x y w => ?_, GuardAt.agg (fun x => (enc2 x).toArray) (by kernel_rfl)⟩
 ·simp only [enc2]
  rw [run_eql_struct, show (10000 : Nat) = 9999 + 1 from rfl, run_equalIn_agg w 9999 50 _ _ hS hp]
  simp only [Program.fieldsOf, Try.underlying50]
  go_simp
  obtain ⟨x1, x2⟩ := x
  obtain ⟨y1, y2⟩ := y
  by_cases h1 : x1 = y1 <;> by_cases h2 : x2 = y2 <;> simp [h1, h2, eqv2]
 ·simp only [enc2]
  rw [run_neq_struct, show (10000 : Nat) = 9999 + 1 from rfl, run_equalIn_agg w 9999 50 _ _ hS hp]
  simp only [Program.fieldsOf, Try.underlying50]
  go_simp
  obtain ⟨x1, x2⟩ := x
  obtain ⟨y1, y2⟩ := y
  by_cases h1 : x1 = y1 <;> by_cases h2 : x2 = y2 <;> simp [h1, h2, eqv2]
set_option maxHeartbeats 4000000 in
set_option maxRecDepth 1000000 in
theorem cpc_walkK (k : Nat) (aE : ∀ w, (isAgg 50).run Try.prog w = .ok true w) (zE : ∀ w, (Go.sizeOf 50).run Try.prog w = .ok k w) (enc : Int × Int -> List Value) (hk : ∀ x, (enc x).length = k) (h1 : ∀ x, ∀ v ∈ enc x, v.oneCell' = true)
  (eqv : Int × Int -> Int × Int -> Bool) (hqv : ∀ x y, eqv x y = true ↔ x = y)
  (heq' : ∀ (x y : Int × Int) (w : World), (binOp .eql 50 (.agg (enc x).toArray) (.agg (enc y).toArray)).run Try.prog w = .ok (.bool (eqv x y)) w)
  (hne' : ∀ (x y : Int × Int) (w : World), (binOp .neq 50 (.agg (enc x).toArray) (.agg (enc y).toArray)).run Try.prog w = .ok (.bool (!eqv x y)) w)
  (hgd' : ∀ (op : BinOp) (a b : Operand) (x y : Int × Int) (w : World), (eqGuard op 50 a b (.agg (enc x).toArray) (.agg (enc y).toArray)).run Try.prog w = .ok () w)
  (hst : ∀ (W : World) (blk off : Nat) (dk : Array (Int × Int)) (i : Nat) (u : Int × Int), i < dk.size -> (putRowK enc k W blk off dk).setCells blk (off + i * k) (enc u) = putRowK enc k W blk off (dk.setIfInBounds i u))
  (blk off cap : Nat) (d : Array (Int × Int)) (w : World) (hH : HoldsK enc k w blk off d) (hsz : d.size <= 9223372036854775807) (hcap : d.size <= cap)
  (hcl : ∀ (W0 W : World) (dk : Array (Int × Int)) (i cc : Nat) (ty : TypeId), HoldsK enc k W blk off dk -> i < dk.size -> dk.size = d.size -> W = putRowK enc k W0 blk off dk -> (Builtin.clear_ #[28] ty #[.slice (some ⟨blk, off + i * k, none⟩) (d.size - i) cc]).run Try.prog W = .ok (.tuple #[]) (putRowK enc k W0 blk off (lay dk i (List.replicate (d.size - i) (0, 0))))) :
  Calls Try.prog 55 #[.slice (some ⟨blk, off, none⟩) d.size cap] w fun e w' => e = .returned (.slice (some ⟨blk, off, none⟩) (compactUpTo d d.size).length cap) /\ ∃ q, w' = putRowK enc k (Sort.ahead w q) blk off (compactUpTo d d.size ++ List.replicate (d.size - (compactUpTo d d.size).length) (0, 0)).toArray := by
 have t0 := Try.underlying0; have a0 := Try.isAgg0; have z0 := Try.sizeOf0; have v0 := Try.zeroValue0; have t3 := Try.underlying3; have a3 := Try.isAgg3; have z3 := Try.sizeOf3; have v3 := Try.zeroValue3; have t4 := Try.underlying4; have a4 := Try.isAgg4; have z4 := Try.sizeOf4; have v4 := Try.zeroValue4; have t27 := Try.underlying28; have a27 := Try.isAgg28; have z27 := Try.sizeOf28; have v27 := Try.zeroValue28
 have u0 := run_underlying t0; have u3 := run_underlying t3; have u4 := run_underlying t4; have u27 := run_underlying t27
 have mixed := cpcM
 have same : ∀ q, (∀ j, j < d.size -> keeps d j = true) -> (compactUpTo d d.size).length = d.size /\ w.drewN q = putRowK enc k (Sort.ahead w q) blk off (compactUpTo d d.size ++ List.replicate (d.size - (compactUpTo d d.size).length) (0, 0)).toArray := by
  intro q hall
  have e : compactUpTo d d.size = d.toList := by rw [compactUpTo_all d _ hall, range_map_get]
  rw [e]
  refine ⟨by simp, ?_⟩
  simp only [Array.length_toList, Nat.sub_self, List.replicate_zero, List.append_nil, Array.toArray_toList]
  exact (putRowK_self enc k (Sort.ahead w q) blk off d (holdsK_ahead enc k w q blk off d hH)).symm
 have HS : Aside (∀ q, (∀ j, j < d.size -> keeps d j = true) -> (compactUpTo d d.size).length = d.size /\ w.drewN q = putRowK enc k (Sort.ahead w q) blk off (compactUpTo d d.size ++ List.replicate (d.size - (compactUpTo d d.size).length) (0, 0)).toArray) := same
 have HST : Hid (∀ (W : World) (blk off : Nat) (dk : Array (Int × Int)) (i : Nat) (u : Int × Int), i < dk.size -> (putRowK enc k W blk off dk).setCells blk (off + i * k) (enc u) = putRowK enc k W blk off (dk.setIfInBounds i u)) := hst
 have HCL : Hid (∀ (W0 W : World) (dk : Array (Int × Int)) (i cc : Nat) (ty : TypeId), HoldsK enc k W blk off dk -> i < dk.size -> dk.size = d.size -> W = putRowK enc k W0 blk off dk -> (Builtin.clear_ #[28] ty #[.slice (some ⟨blk, off + i * k, none⟩) (d.size - i) cc]).run Try.prog W = .ok (.tuple #[]) (putRowK enc k W0 blk off (lay dk i (List.replicate (d.size - i) (0, 0))))) := hcl
 have HQV : Hid (∀ x y, eqv x y = true ↔ x = y) := hqv
 have HKK : Hid (∀ x, (enc x).length = k) := hk
 have H1 : Hid (∀ x, ∀ v ∈ enc x, v.oneCell' = true) := h1
 have HH : Hid (HoldsK enc k w blk off d) := hH
 have bnd : ∀ x, x < d.size -> x * k + k <= d.size * k := fun x hx => by
  have := Nat.mul_le_mul_right k (show x + 1 <= d.size from hx); rwa [Nat.add_mul, Nat.one_mul] at this
 have BND : Hid (∀ x, x < d.size -> x * k + k <= d.size * k) := bnd
 clear same hst hcl hqv hk h1 hH bnd
 by_cases h2 : d.size < 2
 ·go_enter Try.func55, Try.ntmps55
  go_wp2
  go_ret
  obtain ⟨e1, e2⟩ := HS.out 0 (fun j hj => keeps_lt_one d j (by omega))
  exact ⟨by rw [e1]; rfl, 0, e2⟩
 ·go_enter Try.func55, Try.ntmps55
  go_wp2
  go_loopg [3] d.size (fun g s3 wr => ∃ j q : Nat, 1 <= j /\ j <= d.size /\ d.size - j <= g /\ s3 = .int .i64 j /\ wr = w.drewN q /\ Aside (∀ i, i < j -> keeps d i = true))
  case atStart => exact ⟨1, 0, Nat.le_refl _, by omega, by omega, rfl, rfl, keeps_lt_one d⟩
  case round =>
   obtain ⟨j, q, hj1, hj, hg, rfl, rfl, A⟩ := hrel
   by_cases hlt : j < d.size
   ·have hltz : (j : Int) < (d.size : Int) := by omega
    have hw1 : IntKind.i64.wrap ((j : Int) - 1) = ((j - 1 : Nat) : Int) := by rw [Go.Bm.wrap_id (by omega) (by omega)]; omega
    have hw2 : ((j - 1 : Nat) : Int) < (d.size : Int) := by omega
    have hw3 : j - 1 < d.size := by omega
    have l1 : ∀ m, Sem.run Try.prog (loadCellsFrom ⟨blk, off + j * k, none⟩ 0 k #[]) ((w.drewN q).drewN m) = .ok (enc d[j]!).toArray ((w.drewN q).drewN m) := fun m => run_loadCellsFrom_list Try.prog _ _ _ k (HKK.out _) (HoldsK.cells (W := (w.drewN q).drewN m) (by rw [World.drewN_drewN]; exact holdsK_ahead enc k w _ blk off d HH.out) HKK.out hlt)
    have l2 : ∀ m, Sem.run Try.prog (loadCellsFrom ⟨blk, off + (j - 1) * k, none⟩ 0 k #[]) ((w.drewN q).drewN m) = .ok (enc d[j - 1]!).toArray ((w.drewN q).drewN m) := fun m => run_loadCellsFrom_list Try.prog _ _ _ k (HKK.out _) (HoldsK.cells (W := (w.drewN q).drewN m) (by rw [World.drewN_drewN]; exact holdsK_ahead enc k w _ blk off d HH.out) HKK.out (by omega))
    generalize hx : d[j]! = x at l1
    generalize hy : d[j - 1]! = y at l2
    have B : Aside (d[j]! = x /\ d[j - 1]! = y) := ⟨hx, hy⟩
    clear hx hy
    generalize hwq : w.drewN q = wq at l1 l2 ⊢
    have WQ : Aside (w.drewN q = wq) := hwq
    clear hwq
    cases hq : eqv x y with
    | true =>
      go_wp2_with fail
      go_quiet_o (fail)
      go_wp2
      go_loopg [3, 5] d.size (fun g s3 s5 wr => ∃ (kk k2 q2 : Nat) (dk : Array (Int × Int)), s3 = .int .i64 kk /\ s5 = .int .i64 k2 /\ 1 <= k2 /\ j + k2 <= d.size /\ d.size - (j + k2) <= g /\ wr = putRowK enc k (Sort.ahead w q2) blk off dk /\ Aside (CompInv d (j + k2) kk dk))
      case atStart => exact ⟨j, 1, q + nq, d, rfl, rfl, Nat.le_refl _, by omega, by omega, by rw [<- WQ.out, World.drewN_drewN]; exact (putRowK_self enc k (Sort.ahead w (q + nq)) blk off d (holdsK_ahead enc k w (q + nq) blk off d HH.out)).symm, CompInv.start A.out (keeps_neg (by omega) (by rw [B.out.1, B.out.2]; exact (HQV.out x y).1 hq))⟩
      case round =>
       obtain ⟨kk, k2, q2, dk, rfl, rfl, p1, p2, hg2, hwr, I⟩ := hrel
       have hkk : kk < j + k2 := I.out.lt
       have hds : Aside (dk.size = d.size) := I.out.size
       have W2 : Aside (wr = putRowK enc k (Sort.ahead w q2) blk off dk) := hwr
       clear hwr
       have hHk : Aside (∀ m, HoldsK enc k (wr.drewN m) blk off dk) := fun m => by rw [W2.out, putRowK_drewN]; exact holdsK_putRowK enc k _ blk off d dk (holdsK_ahead enc k w _ blk off d HH.out) hds.out
       by_cases hlt2 : j + k2 < d.size
       ·have hltz2 : (k2 : Int) < ((d.size - j : Nat) : Int) := by omega
        have hn2 : k2 < d.size - j := by omega
        have hw5 : IntKind.i64.wrap ((k2 : Int) - 1) = ((k2 - 1 : Nat) : Int) := by rw [Go.Bm.wrap_id (by omega) (by omega)]; omega
        have hw6 : ((k2 - 1 : Nat) : Int) < ((d.size - j : Nat) : Int) := by omega
        have hw7 : k2 - 1 < d.size - j := by omega
        have hw8 : (kk : Int) < (d.size : Int) := by omega
        have hw9 : kk < d.size := by omega
        have e1 : off + j * k + k2 * k = off + (j + k2) * k := by rw [Nat.add_mul, Nat.add_assoc]
        have e2 : off + j * k + (k2 - 1) * k = off + (j + k2 - 1) * k := by rw [show j + k2 - 1 = j + (k2 - 1) by omega, Nat.add_mul, Nat.add_assoc]
        have l3 : ∀ m, Sem.run Try.prog (loadCellsFrom ⟨blk, off + j * k + k2 * k, none⟩ 0 k #[]) (wr.drewN m) = .ok (enc d[j + k2]!).toArray (wr.drewN m) := fun m => by
         rw [e1, <- I.out.high (j + k2) (by omega)]
         exact run_loadCellsFrom_list Try.prog _ _ _ k (HKK.out _) (HoldsK.cells (hHk.out m) HKK.out (by have := hds.out; omega))
        have l4 : ∀ m, Sem.run Try.prog (loadCellsFrom ⟨blk, off + j * k + (k2 - 1) * k, none⟩ 0 k #[]) (wr.drewN m) = .ok (enc d[j + k2 - 1]!).toArray (wr.drewN m) := fun m => by
         rw [e2, <- I.out.high (j + k2 - 1) (by omega)]
         exact run_loadCellsFrom_list Try.prog _ _ _ k (HKK.out _) (HoldsK.cells (hHk.out m) HKK.out (by have := hds.out; omega))
        clear e1 e2
        have s1 : ∀ m, Sem.run Try.prog (storeCells ⟨blk, off + kk * k, none⟩ (enc d[j + k2]!) 0) (wr.drewN m) = .ok () ((wr.drewN m).setCells blk (off + kk * k) (enc d[j + k2]!)) := fun m =>
         stores_of_holds Try.prog (hHk.out m) (kk * k) _ (by rw [HKK.out, size_flatK]; have := BND.out kk hw9; rw [hds.out]; exact this) (H1.out _)
        generalize hu : d[j + k2]! = u at l3 s1
        generalize hv : d[j + k2 - 1]! = v at l4
        have C : Aside (d[j + k2]! = u /\ d[j + k2 - 1]! = v) := ⟨hu, hv⟩
        clear hu hv
        have hsU : (enc u).length = k := HKK.out u
        cases hq2 : eqv u v with
        | true =>
          go_wp2_with fail
          go_quiet_o (fail)
          go_wp2
          go_roundg (d.size - (j + (k2 + 1)))
          case measure => omega
          case rel => exact ⟨kk, k2 + 1, q2 + nq, dk, rfl, by go_num, by omega, by omega, Nat.le_refl _, by rw [W2.out, putRowK_drewN], I.out.skip (keeps_neg (by omega) (by rw [C.out.1, C.out.2]; exact (HQV.out u v).1 hq2))⟩
        | false =>
          go_wp2_with fail
          go_quiet_o (fail)
          go_wp2
          go_roundg (d.size - (j + (k2 + 1)))
          case measure => omega
          case rel => exact ⟨kk + 1, k2 + 1, q2 + nq, dk.setIfInBounds kk u, by go_num, by go_num, by omega, by omega, Nat.le_refl _, by rw [W2.out, putRowK_drewN]; exact HST.out _ _ _ _ _ _ (by rw [hds.out]; exact hw9), by have := I.out.keep hlt2 (keeps_pos (by rw [C.out.1, C.out.2]; intro e; have := (HQV.out u v).2 e; rw [hq2] at this; cases this)); rwa [C.out.1] at this⟩
       ·have hend : j + k2 = d.size := by omega
        have hn2 : ¬ k2 < d.size - j := by omega
        have hltz2 : ¬ (k2 : Int) < ((d.size - j : Nat) : Int) := by omega
        have hw9 : kk < d.size := by omega
        have hw8 : (kk : Int) <= (d.size : Int) := by omega
        have hcl2 : ∀ ty cc, (Builtin.clear_ #[28] ty #[.slice (some ⟨blk, off + kk * k, none⟩) (d.size - kk) cc]).run Try.prog wr = .ok (.tuple #[]) (putRowK enc k (Sort.ahead w q2) blk off (lay dk kk (List.replicate (d.size - kk) (0, 0)))) := fun ty cc => HCL.out _ wr dk kk cc ty (hHk.out 0) (by rw [hds.out]; exact hw9) hds.out W2.out
        go_wp2
        go_ret
        have hI := I.out
        rw [hend] at hI
        refine ⟨by rw [hI.len]; rfl, q2, ?_⟩
        rw [hI.len, <- hI.done (0, 0)]
    | false =>
      go_wp2_with fail
      go_quiet_o (fail)
      go_wp2
      go_roundg (d.size - (j + 1))
      case measure => omega
      case rel =>
       refine ⟨j + 1, q + nq, by omega, by omega, Nat.le_refl _, by go_num, by rw [<- WQ.out, World.drewN_drewN], fun i hi => ?_⟩
       by_cases e : i = j
       ·subst e
        exact keeps_pos (by rw [B.out.1, B.out.2]; intro e2; have := (HQV.out x y).2 e2; rw [hq] at this; cases this)
       ·exact A.out i (by omega)
   ·have : j = d.size := by omega
    subst this
    go_wp2
    go_ret
    obtain ⟨e1, e2⟩ := HS.out q A.out
    exact ⟨by rw [e1]; rfl, q, e2⟩
theorem cpc_walk (blk off cap : Nat) (d : Array (Int × Int)) (w : World) (hH : HoldsK enc2 2 w blk off d) (hsz : d.size <= 9223372036854775807) (hcap : d.size <= cap) :
  Calls Try.prog 55 #[.slice (some ⟨blk, off, none⟩) d.size cap] w fun e w' => e = .returned (.slice (some ⟨blk, off, none⟩) (compactUpTo d d.size).length cap) /\ ∃ q, w' = putRowK enc2 2 (Sort.ahead w q) blk off (compactUpTo d d.size ++ List.replicate (d.size - (compactUpTo d d.size).length) (0, 0)).toArray := by
 refine cpc_walkK 2 Try.isAgg50 Try.sizeOf50 enc2 (fun _ => rfl) (fun x v hv => by simp [enc2] at hv; rcases hv with rfl | rfl <;> rfl) eqv2 (fun x y => by simp [eqv2]) eq2.1 eq2.2.1 eq2.2.2 putRow2_set blk off cap d w hH hsz hcap ?_
 intro W0 W dk i cc ty hHold hi hds hW
 have ht := Try.underlying28
 have hv := Try.zeroValue50
 have hst := stores_of_holds Try.prog hHold (i * 2) (flatV2 (List.replicate (d.size - i) (0, 0))) (by rw [flatV2_length, size_flatK, List.length_replicate]; omega) (flatV2_one _)
 rw [<- putRow2_setCells W0 blk off _ dk i (by simp; omega), <- hW]
 obtain ⟨m, hm⟩ : ∃ m, d.size - i = m + 1 := ⟨d.size - i - 1, by omega⟩
 rw [hm, <- zeros2] at hst ⊢
 simp [Builtin.clear_, run_underlying ht, hv] at hst ⊢
 simp [hst]
end Go.Proofs
/- The library's Compact at pairs of numbers writes into the slice that it is given and returns its head. -/
namespace Go.Bm
open Go.Am Go.Sort Go.Shelf Go.Proofs Go.RowKit Go.Lib
theorem ddp_last : ∀ (l : List (Int × Int)) (z : Int × Int), ddp (l ++ [z]) = ddp l ++ (if l.getLast? = some z then [] else [z])
 | [], z => by simp [ddp]
 | [x], z => by
   by_cases h : x = z
   ·subst h; simp [ddp]
   ·simp [ddp, h]
 | x :: y :: r, z => by
   have ih := ddp_last (y :: r) z
   simp only [List.cons_append] at ih ⊢
   unfold ddp
   rw [ih]
   have e : (x :: y :: r).getLast? = (y :: r).getLast? := by simp [List.getLast?_cons]
   rw [e]
   split <;> rfl
theorem cut_appP (l : List (Int × Int)) (z : Int × Int) : ∀ m, m <= l.length -> Lib.compactUpTo (l ++ [z]).toArray m = Lib.compactUpTo l.toArray m
 | 0, _ => rfl
 | m + 1, hm => by
   rw [Lib.compactUpTo_succ, Lib.compactUpTo_succ, cut_appP l z m (by omega)]
   have g : ∀ j, j < l.length -> (l ++ [z]).toArray[j]! = l.toArray[j]! := fun j hj => by
    simp [hj, show j < l.length + 1 by omega]
   have k : Lib.keeps (l ++ [z]).toArray m = Lib.keeps l.toArray m := by
    simp only [Lib.keeps, g m (by omega), g (m - 1) (by omega)]
   rw [k, g m (by omega)]
theorem compact_ddp (l : List (Int × Int)) : Lib.compact l = ddp l := by
 have key : ∀ n (l : List (Int × Int)), l.length = n -> Lib.compact l = ddp l := by
  intro n
  induction n with
  | zero => intro l h; obtain rfl := List.length_eq_zero_iff.1 h; rfl
  | succ n ih =>
    intro l h
    obtain ⟨r, z, rfl⟩ : ∃ r z, l = r ++ [z] := ⟨l.dropLast, l.getLast (by intro e; subst e; simp at h), (List.dropLast_concat_getLast _).symm⟩
    have hr : r.length = n := by simpa using h
    have ih := ih r hr
    unfold Lib.compact at ih ⊢
    rw [List.length_append, List.length_singleton, Lib.compactUpTo_succ, cut_appP r z r.length (Nat.le_refl _), ih, ddp_last]
    congr 1
    have g : (r ++ [z]).toArray[r.length]! = z := by simp
    rw [g]
    by_cases h0 : r = []
    ·subst h0; rfl
    ·have hp : 0 < r.length := List.length_pos_iff.2 h0
     have g2 : (r ++ [z]).toArray[r.length - 1]! = r.getLast h0 := by
      rw [List.getLast_eq_getElem]
      simp [show r.length - 1 < r.length by omega, show r.length - 1 < r.length + 1 by omega]
     rw [List.getLast?_eq_some_getLast h0]
     by_cases he : r.getLast h0 = z
     ·have : Lib.keeps (r ++ [z]).toArray r.length = false := Lib.keeps_neg hp (by rw [g, g2, he])
      rw [this, he]; simp
     ·have : Lib.keeps (r ++ [z]).toArray r.length = true := Lib.keeps_pos (by rw [g, g2]; exact fun e => he e.symm)
      rw [this, if_pos rfl, if_neg]
      intro e; exact he (Option.some.inj e)
 exact key _ l rfl
set_option maxHeartbeats 1000000 in
theorem cpc_none (p : Option Addr) (cap : Nat) (w : World) : Calls Go.Proofs.Try.prog 55 #[.slice p 0 cap] w fun e w' => e = .returned (.slice p 0 cap) /\ w' = w := by
 have t0 := Try.underlying0; have a0 := Try.isAgg0; have z0 := Try.sizeOf0; have v0 := Try.zeroValue0; have t3 := Try.underlying3; have a3 := Try.isAgg3; have z3 := Try.sizeOf3; have v3 := Try.zeroValue3; have t4 := Try.underlying4; have a4 := Try.isAgg4; have z4 := Try.sizeOf4; have v4 := Try.zeroValue4; have t27 := Try.underlying28; have a27 := Try.isAgg28; have z27 := Try.sizeOf28; have v27 := Try.zeroValue28
 have mixed := cpcM
 go_enter Go.Proofs.Try.func55, Go.Proofs.Try.ntmps55
 go_wp2
 go_ret
 exact ⟨rfl, rfl⟩
theorem ddp_len : ∀ l : List (Int × Int), (ddp l).length <= l.length
 | [] => Nat.le_refl _
 | [x] => Nat.le_refl _
 | x :: y :: r => by
   have ih := ddp_len (y :: r)
   unfold ddp
   split
   ·simp only [List.length_cons] at ih ⊢; omega
   ·simp only [List.length_cons] at ih ⊢; omega
theorem cpe_inp {k : Nat} {xs es ys : List AV} {res : Option Nat} (hg : cpeG k xs es = some (ys, res)) :
  ((ys.length = xs.length /\ (∀ y ∈ ys, y.cells.length = k)) /\ ((∀ y ∈ ys, ∀ d ∈ y.cells, fz d = true) /\ ∀ m, res = some m -> m <= xs.length)) /\
 (xs = [] -> ∀ (X : Nat -> Prop) (φ : Phi) (w : World) (vargs : Array Value) v0 y, (y = .nils \/ y = .list k []) -> es.length + 1 = vargs.size -> vargs[0]? = some v0 -> Rep (Rd X φ w) φ y v0 -> (∀ (i : Nat) (e : AV) (v : Value), es[i]? = some e -> vargs[i + 1]? = some v -> Rep (Rd X φ w) [] e v) ->
  Calls Go.Proofs.Try.prog 55 vargs w (fun e w' => ∃ v', e = .returned v' /\ Rep (Rd X φ w') φ (match (generalizing := false) res with
   | none => .tup []
   | some _ => y) v' /\ Adv [] w [] w')) /\
 ∀ (X : Nat -> Prop) (φ : Phi) (w : World) Ha n rest (vargs : Array Value) v0, HRel X φ w Ha -> blk Ha n = some (flatCells (xs ++ rest)) -> es.length + 1 = vargs.size -> vargs[0]? = some v0 -> Rep (Rd X φ w) φ (.sl k n 0 xs.length) v0 -> (∀ (i : Nat) (e : AV) (v : Value), es[i]? = some e -> vargs[i + 1]? = some v -> Rep (Rd X φ w) [] e v) ->
  Calls Go.Proofs.Try.prog 55 vargs w (fun e w' => ∃ v' φ', e = .returned v' /\ Rep (Rd X φ' w') φ' (match (generalizing := false) res with
   | none => .tup []
   | some m => .sl k n 0 m) v' /\ HRel X φ' w' (Ha.set n (some (flatCells (ys ++ rest)))) /\ Adv φ w φ' w') := by
 unfold cpeG at hg
 split at hg
 case h_2 => cases hg
 split at hg
 case isFalse => cases hg
 rename_i hcond
 obtain ⟨rfl, hlim⟩ := hcond
 cases hzs : prsOf xs with
 | none => rw [hzs] at hg; cases hg
 | some zs =>
 rw [hzs] at hg
 simp only [Option.some.injEq, Prod.mk.injEq] at hg
 obtain ⟨rfl, rfl⟩ := hg
 have hx := prsOf_eq hzs
 subst hx
 have hdl := ddp_len zs
 refine ⟨⟨⟨by simp; omega, fun y hy => (prs_cells hy).1⟩, fun y hy => (prs_cells hy).2, fun m hm => by cases hm; simpa using hdl⟩, fun hnil X φ w vargs v0 y hy hs h0 hr _ => ?_, fun X φ w Ha n rest vargs v0 hh hb hs h0 hr _ => ?_⟩
 ·obtain ⟨p, cap, rfl⟩ := nil_slice hy hr
  obtain rfl := one_arg hs h0
  refine (cpc_none p cap w).mono ?_
  rintro e w' ⟨rfl, rfl⟩
  exact ⟨_, rfl, hr, .refl _ _⟩
 ·obtain rfl := one_arg hs h0
  by_cases hz : zs = []
  ·subst hz
   have e : Ha.set n (some (flatCells ((ddp [] ++ List.replicate (([] : List (Int × Int)).length - (ddp []).length) (0, 0)).map pr2 ++ rest))) = Ha := by
    apply List.ext_getElem?
    intro j
    rw [List.getElem?_set]
    split
    ·rename_i e; subst e
     rw [if_pos (blk_lt hb), blk_iff.1 hb]; rfl
    ·rfl
   rw [e]
   cases hr with
   | sl _ _ _ _ _ a cap h1 hc h =>
   refine (cpc_none (some a) cap w).mono ?_
   rintro e w' ⟨rfl, rfl⟩
   exact ⟨_, φ, rfl, .sl _ _ _ _ _ a cap h1 hc h, hh, .refl _ _⟩
  ·have hzl : zs.length ≠ 0 := fun h => hz (List.eq_nil_of_length_eq_zero h)
   cases hr with
   | sl _ _ _ _ _ a cap h1 hc h =>
   have hcz : zs.length <= cap := by simpa using hc
   have hr2 : Rep (Rd X φ w) φ (.sl 1 n 0 (zs.length * 2)) (.slice (some a) (zs.length * 2) (cap * 2)) := .sl _ _ _ _ _ _ _ h1 (by omega) fun g sz hg => by
    obtain ⟨k1, k2⟩ := h g sz hg
    exact ⟨fun hc => k1 (by omega), by omega⟩
   have hfl : flatCells (zs.map pr2 ++ rest) = (flat2 zs).map (AV.int .i64) ++ flatCells rest := by rw [flatCells_app, flat2_cells]
   rw [hfl] at hb
   have hl2 := flat2_length zs
   obtain ⟨g, cap', hv, _, _, hH, hlt, _, hput⟩ := own_row hh hr2 (by omega) hb (by simp [hl2]) (zs := flat2 zs) (by
    rw [List.drop_zero, List.take_append_of_le_length (by simp [hl2]), List.take_of_length_le (by simp [hl2])]
    exact intsOf_ints _)
   simp only [Value.slice.injEq, Option.some.injEq] at hv
   obtain ⟨rfl, _, _⟩ := hv
   have hlen : (zs.map pr2).length = zs.toArray.size := by simp
   rw [hlen]
   have hcall := cpc_walk g 0 cap zs.toArray w (holds2 hH) (by simp at hlim ⊢; unfold LIM at hlim; omega) (by simpa using hcz)
   have e0 : compactUpTo zs.toArray zs.toArray.size = ddp zs := compact_ddp zs
   rw [e0] at hcall
   refine hcall.mono ?_
   rintro e w' ⟨rfl, q, rfl⟩
   have ln : (flat2 (ddp zs ++ List.replicate (zs.length - (ddp zs).length) (0, 0))).length = zs.length * 2 := by rw [flat2_length]; simp; omega
   obtain ⟨p1, p2⟩ := hput (flat2 (ddp zs ++ List.replicate (zs.length - (ddp zs).length) (0, 0))) ln q #[]
   rw [grow_empty] at p1 p2
   have e3 : putRowK enc2 2 (Sort.ahead w q) g 0 (ddp zs ++ List.replicate (zs.toArray.size - (ddp zs).length) (0, 0)).toArray = putRow (Value.int .i64) (Sort.ahead w q) g 0 (flat2 (ddp zs ++ List.replicate (zs.length - (ddp zs).length) (0, 0))).toArray := by
    rw [putRow2]; simp
   rw [e3]
   refine ⟨_, φ, rfl, .sl _ _ _ _ _ _ cap h1 (by omega) h, ?_, p2⟩
   have e4 : ovw ((flat2 zs).map (AV.int .i64) ++ flatCells rest) 0 ((flat2 (ddp zs ++ List.replicate (zs.length - (ddp zs).length) (0, 0))).map (AV.int .i64)) = flatCells ((ddp zs ++ List.replicate (zs.length - (ddp zs).length) (0, 0)).map pr2 ++ rest) := by
    rw [flatCells_app, flat2_cells]
    unfold ovw
    simp [hl2, ln]
   rw [e4] at p1
   exact p1
end Go.Bm
