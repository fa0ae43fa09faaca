/- The reference's way of serving nodes: always the first one of those that need most. -/
import Derived.Test.YtjfdniggjdnkiaaBkA
import Derived.Test.YtjfdniggjdnkiaaUseM
import Derived.Test.YtjfdniggjdnkiaaK05
set_option linter.unusedSimpArgs false
set_option linter.unusedVariables false
namespace Go.BmP
open Go.Am Go.Bm
def mst (D B : List Int) : Nat -> Int
 | 0 => -1
 | i + 1 => if ((i : Nat) : Int) ∉ B /\ 0 < D.getD i 0 /\ (mst D B i < 0 \/ D.getD (mst D B i).toNat 0 < D.getD i 0) then (i : Int) else mst D B i
theorem mst_spec (D B : List Int) : ∀ n, -1 <= mst D B n /\ mst D B n < n /\ (mst D B n < 0 -> ∀ i, i < n -> ((i : Nat) : Int) ∉ B -> D.getD i 0 <= 0) /\
  (0 <= mst D B n -> mst D B n ∉ B /\ 0 < D.getD (mst D B n).toNat 0 /\ ∀ i, i < n -> ((i : Nat) : Int) ∉ B -> D.getD i 0 < D.getD (mst D B n).toNat 0 \/ D.getD i 0 = D.getD (mst D B n).toNat 0 /\ mst D B n <= i)
 | 0 => by
   refine ⟨by simp [mst], by simp [mst], fun _ i h => by omega, fun h => by simp [mst] at h⟩
 | n + 1 => by
   obtain ⟨h1, h2, h3, h4⟩ := mst_spec D B n
   unfold mst
   by_cases c : ((n : Nat) : Int) ∉ B /\ 0 < D.getD n 0 /\ (mst D B n < 0 \/ D.getD (mst D B n).toNat 0 < D.getD n 0)
   ·rw [if_pos c]
    obtain ⟨c1, c2, c3⟩ := c
    refine ⟨by omega, by omega, fun h => by omega, fun _ => ⟨c1, by simpa using c2, fun i hi hb => ?_⟩⟩
    rw [Int.toNat_natCast]
    by_cases e : i = n
    ·subst e; right; exact ⟨rfl, Int.le_refl _⟩
    ·left
     by_cases q : mst D B n < 0
     ·have := h3 q i (by omega) hb; omega
     ·have c4 := c3.resolve_left q
      obtain ⟨_, _, h5⟩ := h4 (by omega)
      rcases h5 i (by omega) hb with k | k <;> omega
   ·rw [if_neg c]
    refine ⟨h1, by omega, fun h i hi hb => ?_, fun h => ?_⟩
    ·by_cases e : i = n
     ·subst e
      apply Classical.byContradiction
      intro k
      exact c ⟨hb, by omega, .inl h⟩
     ·exact h3 h i (by omega) hb
    ·obtain ⟨h5, h6, h7⟩ := h4 h
     refine ⟨h5, h6, fun i hi hb => ?_⟩
     by_cases e : i = n
     ·subst e
      by_cases q : D.getD i 0 < D.getD (mst D B i).toNat 0
      ·exact .inl q
      ·right
       have : ¬ D.getD (mst D B i).toNat 0 < D.getD i 0 := fun k => c ⟨hb, by omega, .inr k⟩
       omega
     ·exact h7 i (by omega) hb
structure Lst (D B : List Int) (N : Nat) (R : List (Int × Int)) : Prop where
 at_ : ∀ x ∈ R, (0 <= x.1 /\ x.1 < (N : Int)) /\ 0 <= x.2 /\ D.getD x.1.toNat 0 = x.2
 out : ∀ i : Nat, i < N -> (i : Int) ∉ B -> (i : Int) ∉ R.map Prod.fst -> D.getD i 0 = 0
 no : ∀ x ∈ R, x.1 ∉ B
 asc : R.Pairwise fun a b => leC cfM a b = true
theorem mst_none {D B : List Int} {N : Nat} (h : Lst D B N []) : mst D B N = -1 := by
 obtain ⟨h1, h2, h3, h4⟩ := mst_spec D B N
 by_cases q : mst D B N < 0
 ·omega
 ·obtain ⟨a, b, _⟩ := h4 (by omega)
  have := h.out (mst D B N).toNat (by omega) (by rw [Int.toNat_of_nonneg (by omega)]; exact a) (by simp)
  omega
theorem mst_head {D B : List Int} {N : Nat} {w e : Int} {R : List (Int × Int)} (h : Lst D B N ((w, e) :: R)) : mst D B N = if 0 < e then w else -1 := by
 obtain ⟨h1, h2, h3, h4⟩ := mst_spec D B N
 obtain ⟨w1, w2, w3⟩ := h.at_ (w, e) List.mem_cons_self
 simp only at w1 w2 w3
 have hwB := h.no (w, e) List.mem_cons_self
 obtain ⟨p1, _⟩ := List.pairwise_cons.1 h.asc
 have hle : ∀ x ∈ (w, e) :: R, x.2 < e \/ x.2 = e /\ w <= x.1 := by
  intro x hx
  rcases List.mem_cons.1 hx with rfl | hx
  ·exact .inr ⟨rfl, Int.le_refl _⟩
  ·have := (leM _ _).1 (p1 x hx)
   simpa using this
 have hnat : ((w.toNat : Nat) : Int) = w := Int.toNat_of_nonneg w1.1
 by_cases q : mst D B N < 0
 ·have := h3 q w.toNat (by omega) (by rw [hnat]; exact hwB)
  rw [if_neg (by omega)]; omega
 ·obtain ⟨a, b, c⟩ := h4 (by omega)
  have hb : ((mst D B N).toNat : Int) = mst D B N := Int.toNat_of_nonneg (by omega)
  have hin : mst D B N ∈ ((w, e) :: R).map Prod.fst := by
   apply Classical.byContradiction
   intro k
   have := h.out (mst D B N).toNat (by omega) (by rw [hb]; exact a) (by rw [hb]; exact k)
   omega
  obtain ⟨x, hx, ex⟩ := List.mem_map.1 hin
  have hxv := (h.at_ x hx).2.2
  rw [ex] at hxv
  have hx2 := hle x hx
  rw [ex] at hx2
  have hw := c w.toNat (by omega) (by rw [hnat]; exact hwB)
  rw [hnat] at hw
  rw [if_pos (by omega)]
  omega
theorem Lst.next {D B : List Int} {N : Nat} {w e : Int} {R : List (Int × Int)} (h : Lst D B N ((w, e) :: R)) (hn : w ∉ R.map Prod.fst) (hD : D.length = N) (f : Int) : Lst (D.set w.toNat f) (B ++ [w]) N R := by
 obtain ⟨w1, w2, w3⟩ := h.at_ (w, e) List.mem_cons_self
 simp only at w1
 refine ⟨fun x hx => ?_, fun i hi hb hr => ?_, fun x hx hb => ?_, (List.pairwise_cons.1 h.asc).2⟩
 ·obtain ⟨a, b, c⟩ := h.at_ x (List.mem_cons_of_mem _ hx)
  refine ⟨a, b, ?_⟩
  have : x.1 ≠ w := fun k => hn (by rw [<- k]; exact List.mem_map_of_mem hx)
  rw [List.getD_eq_getElem?_getD, List.getElem?_set_ne (by omega), <- List.getD_eq_getElem?_getD]
  exact c
 ·have hiw : (i : Int) ≠ w := fun k => hb (by simp [k])
  rw [List.getD_eq_getElem?_getD, List.getElem?_set_ne (by omega), <- List.getD_eq_getElem?_getD]
  exact h.out i hi (fun k => hb (by simp [k])) (by
   rw [List.map_cons, List.mem_cons]
   rintro (k | k)
   ·exact hiw k
   ·exact hr k)
 ·rcases List.mem_append.1 hb with hb | hb
  ·exact h.no x (List.mem_cons_of_mem _ hx) hb
  ·simp only [List.mem_singleton] at hb
   exact hn (by rw [<- hb]; exact List.mem_map_of_mem hx)
def decD (D : List Int) (S : List (Int × Int)) : List Int := S.foldl (fun D x => D.set x.1.toNat (x.2 - 1)) D
theorem decD_len (S : List (Int × Int)) : ∀ D : List Int, (decD D S).length = D.length := by
 induction S with
 | nil => intro D; rfl
 | cons x r ih => intro D; show (decD (D.set _ _) r).length = _; rw [ih, List.length_set]
theorem decD_at {S : List (Int × Int)} : ∀ {D : List Int}, (S.map Prod.fst).Nodup -> (∀ x ∈ S, 0 <= x.1 /\ x.1 < (D.length : Int)) -> (∀ x ∈ S, (decD D S).getD x.1.toNat 0 = x.2 - 1) /\ ∀ i : Nat, (i : Int) ∉ S.map Prod.fst -> (decD D S).getD i 0 = D.getD i 0 := by
 induction S with
 | nil => intro D _ _; exact ⟨fun x hx => by simp at hx, fun i _ => rfl⟩
 | cons y r ih =>
   intro D hn hb
   obtain ⟨n1, n2⟩ := List.nodup_cons.1 (show (y.1 :: r.map Prod.fst).Nodup from hn)
   have hy := hb y List.mem_cons_self
   obtain ⟨i1, i2⟩ := ih (D := D.set y.1.toNat (y.2 - 1)) n2 (fun x hx => by rw [List.length_set]; exact hb x (List.mem_cons_of_mem _ hx))
   refine ⟨fun x hx => ?_, fun i hi => ?_⟩
   ·rcases List.mem_cons.1 hx with rfl | hx
    ·have h2 := i2 x.1.toNat (by rw [Int.toNat_of_nonneg hy.1]; exact n1)
     show (decD (D.set _ _) r).getD _ 0 = _
     rw [h2, List.getD_eq_getElem?_getD, List.getElem?_set_self (by omega)]
     rfl
    ·exact i1 x hx
   ·rw [List.map_cons, List.mem_cons, not_or] at hi
    show (decD (D.set _ _) r).getD _ 0 = _
    rw [i2 i hi.2, List.getD_eq_getElem?_getD, List.getElem?_set_ne (by omega), <- List.getD_eq_getElem?_getD]
theorem ofE_gof (out : List Ed) : ofE out [] = gofL out := by
 obtain ⟨h1, h2⟩ := ofE_spec out [] (by simp [UpE])
 refine upE_ext h1 (gofL_up out) fun z => ?_
 rw [h2, gofL_mem]
 simp
theorem ofE_snoc (A B : List Ed) (o : List Ed) : ofE (A ++ B) o = ofE B (ofE A o) := by unfold ofE; rw [List.foldl_append]
/- What cohesionref09.most and cohesionref03.Add return. -/
set_option maxRecDepth 100000
set_option maxHeartbeats 4000000
theorem mq_in (D B : List Int) (best x n : Int) (i : Nat) (hB : B.length < 1000000) : ∀ k j : Nat, j + k = B.length -> codeL cfgS 0 (.loop lQzX0) ⟨[(0, .list 1 (ints D)), (1, .list 1 (ints B)), (5, .int .i64 best), (6, .int .i64 x), (7, .int .i64 n), (8, .bool (decide (x ∈ B.take j))), (11, .list 1 (ints D)), (12, .int .i64 D.length), (13, .int .i64 i), (18, .list 1 (ints B)), (19, .int .i64 B.length), (20, .int .i64 j)], []⟩ =
  some (.exit 2, ⟨[(0, .list 1 (ints D)), (1, .list 1 (ints B)), (5, .int .i64 best), (6, .int .i64 x), (7, .int .i64 n), (8, .bool (decide (x ∈ B))), (11, .list 1 (ints D)), (12, .int .i64 D.length), (13, .int .i64 i), (18, .list 1 (ints B)), (19, .int .i64 B.length), (20, .int .i64 B.length), (21, .bool false)], []⟩)
 | 0, j, e => by
   obtain rfl : j = B.length := by omega
   rw [List.take_length]
   exact loop_exit (by unfold lQzX0; simp [rQzX0, rQzX1, rQzX2, rQzX3, rQzX4, rQzX5, rQzX6, rQzX7, rQzX8, rQzX9, rQzX10, rQzX11, rQzX12, rQzX13, rQzX14, blk, eds_length, eds_get, edsAt, edAV, allLeaf_eds, cleanL_eds, cleanL_ints, ints_length, ints_get, intsAt, endL, finB])
 | k + 1, j, e => by
   have h1 : j < B.length := by omega
   have h2 : (j : Int) < B.length := by omega
   have hw := wrapS (i := j) (by omega)
   have ih := mq_in D B best x n i hB k (j + 1) (by omega)
   have et : decide (x ∈ B.take (j + 1)) = (decide (x ∈ B.take j) || decide (B[j] = x)) := by
    rw [List.take_succ_eq_append_getElem h1, Bool.eq_iff_iff]
    simp only [decide_eq_true_eq, Bool.or_eq_true, List.mem_append, List.mem_singleton]
    exact ⟨fun h => h.elim .inl fun h => .inr h.symm, fun h => h.elim .inl fun h => .inr h.symm⟩
   rw [et] at ih
   generalize ints D = DD at *
   generalize decide (x ∈ B.take j) = o at *
   cases o
   ·rw [Bool.false_or] at ih
    by_cases q : B[j] = x
    ·rw [decide_eq_true q] at ih
     exact (loop_next (by unfold lQzX0; simp [rQzX0, rQzX1, rQzX2, rQzX3, rQzX4, rQzX5, rQzX6, rQzX7, rQzX8, rQzX9, rQzX10, rQzX11, rQzX12, rQzX13, rQzX14, h1, h2, hw, q, idx, ints_length, blk, eds_length, eds_get, edsAt, edAV, allLeaf_eds, cleanL_eds, cleanL_ints, ints_length, ints_get, intsAt, endL, finB])).trans ih
    ·rw [decide_eq_false q] at ih
     exact (loop_next (by unfold lQzX0; simp [rQzX0, rQzX1, rQzX2, rQzX3, rQzX4, rQzX5, rQzX6, rQzX7, rQzX8, rQzX9, rQzX10, rQzX11, rQzX12, rQzX13, rQzX14, h1, h2, hw, q, idx, ints_length, blk, eds_length, eds_get, edsAt, edAV, allLeaf_eds, cleanL_eds, cleanL_ints, ints_length, ints_get, intsAt, endL, finB])).trans ih
   ·rw [Bool.true_or] at ih
    exact (loop_next (by unfold lQzX0; simp [rQzX0, rQzX1, rQzX2, rQzX3, rQzX4, rQzX5, rQzX6, rQzX7, rQzX8, rQzX9, rQzX10, rQzX11, rQzX12, rQzX13, rQzX14, h1, h2, hw, idx, ints_length, blk, eds_length, eds_get, edsAt, edAV, allLeaf_eds, cleanL_eds, cleanL_ints, ints_length, ints_get, intsAt, endL, finB])).trans ih
theorem mq_out (D B : List Int) (hD : D.length <= 64) (hB : B.length < 1000000) : ∀ k i : Nat, i + k = D.length -> codeL cfgS 0 (.loop lQzX1) ⟨[(0, .list 1 (ints D)), (1, .list 1 (ints B)), (5, .int .i64 (mst D B i)), (11, .list 1 (ints D)), (12, .int .i64 D.length), (13, .int .i64 i)], []⟩ =
  some (.exit 0, ⟨[(0, .list 1 (ints D)), (1, .list 1 (ints B)), (5, .int .i64 (mst D B D.length)), (11, .list 1 (ints D)), (12, .int .i64 D.length), (13, .int .i64 D.length), (14, .bool false)], []⟩)
 | 0, i, e => by
   obtain rfl : i = D.length := by omega
   exact loop_exit (by unfold lQzX1; simp [rQzX0, rQzX1, rQzX2, rQzX3, rQzX4, rQzX5, rQzX6, rQzX7, rQzX8, rQzX9, rQzX10, rQzX11, rQzX12, rQzX13, rQzX14, blk, eds_length, eds_get, edsAt, edAV, allLeaf_eds, cleanL_eds, cleanL_ints, ints_length, ints_get, intsAt, endL, finB])
 | k + 1, i, e => by
   have h1 : i < D.length := by omega
   have h2 : (i : Int) < D.length := by omega
   have hw := wrapS (i := i) (by omega)
   have ih := mq_out D B hD hB k (i + 1) (by omega)
   obtain ⟨m1, m2, _, _⟩ := mst_spec D B i
   have lp := mq_in D B (mst D B i) i D[i] i hB B.length 0 (by omega)
   rw [List.take_zero, nat0, show decide ((i : Int) ∈ ([] : List Int)) = false by simp] at lp
   have gd : D.getD i 0 = D[i] := by simp [h1]
   have em : mst D B (i + 1) = if ((i : Nat) : Int) ∉ B /\ 0 < D[i] /\ (mst D B i < 0 \/ D.getD (mst D B i).toNat 0 < D[i]) then (i : Int) else mst D B i := by rw [mst, gd]
   rw [em] at ih
   have L := ints_length D
   generalize mst D B i = b at *
   generalize hz : D[i] = z at *
   by_cases q1 : (i : Int) ∈ B
   ·rw [decide_eq_true q1] at lp
    rw [if_neg (fun h => h.1 q1)] at ih
    exact (loop_next (by unfold lQzX1; simp [rQzX0, rQzX1, rQzX2, rQzX3, rQzX4, rQzX5, rQzX6, rQzX7, rQzX8, rQzX9, rQzX10, rQzX11, rQzX12, rQzX13, rQzX14, h1, h2, hw, lp, hz, idx, ints_length, blk, eds_length, eds_get, edsAt, edAV, allLeaf_eds, cleanL_eds, cleanL_ints, ints_length, ints_get, intsAt, endL, finB])).trans ih
   ·rw [decide_eq_false q1] at lp
    by_cases q2 : 0 < z
    ·by_cases q3 : b < 0
     ·rw [if_pos ⟨q1, q2, .inl q3⟩] at ih
      exact (loop_next (by unfold lQzX1; simp [rQzX0, rQzX1, rQzX2, rQzX3, rQzX4, rQzX5, rQzX6, rQzX7, rQzX8, rQzX9, rQzX10, rQzX11, rQzX12, rQzX13, rQzX14, h1, h2, hw, lp, hz, q2, q3, idx, ints_length, blk, eds_length, eds_get, edsAt, edAV, allLeaf_eds, cleanL_eds, cleanL_ints, ints_length, ints_get, intsAt, endL, finB])).trans ih
     ·have b1 : b < (D.length : Int) := by omega
      have b2 : b.toNat < D.length := by omega
      have b3 : (0 : Int) <= b := by omega
      have gb : D.getD b.toNat 0 = D[b.toNat] := by simp [b2]
      rw [gb] at ih
      by_cases q4 : D[b.toNat] < z
      ·rw [if_pos ⟨q1, q2, .inr q4⟩] at ih
       exact (loop_next (by unfold lQzX1; simp [rQzX0, rQzX1, rQzX2, rQzX3, rQzX4, rQzX5, rQzX6, rQzX7, rQzX8, rQzX9, rQzX10, rQzX11, rQzX12, rQzX13, rQzX14, h1, h2, hw, lp, hz, q2, q3, q4, b1, b2, b3, idx, ints_length, blk, eds_length, eds_get, edsAt, edAV, allLeaf_eds, cleanL_eds, cleanL_ints, ints_length, ints_get, intsAt, endL, finB])).trans ih
      ·rw [if_neg (fun h => h.2.2.elim q3 q4)] at ih
       exact (loop_next (by unfold lQzX1; simp [rQzX0, rQzX1, rQzX2, rQzX3, rQzX4, rQzX5, rQzX6, rQzX7, rQzX8, rQzX9, rQzX10, rQzX11, rQzX12, rQzX13, rQzX14, h1, h2, hw, lp, hz, q2, q3, q4, b1, b2, b3, idx, ints_length, blk, eds_length, eds_get, edsAt, edAV, allLeaf_eds, cleanL_eds, cleanL_ints, ints_length, ints_get, intsAt, endL, finB])).trans ih
    ·rw [if_neg (fun h => q2 h.2.1)] at ih
     exact (loop_next (by unfold lQzX1; simp [rQzX0, rQzX1, rQzX2, rQzX3, rQzX4, rQzX5, rQzX6, rQzX7, rQzX8, rQzX9, rQzX10, rQzX11, rQzX12, rQzX13, rQzX14, h1, h2, hw, lp, hz, q2, idx, ints_length, blk, eds_length, eds_get, edsAt, edAV, allLeaf_eds, cleanL_eds, cleanL_ints, ints_length, ints_get, intsAt, endL, finB])).trans ih
theorem most_run (D B : List Int) (hD : D.length <= 64) (hB : B.length < 1000000) : callL cfgS nQz [.list 1 (ints D), .list 1 (ints B)] [] = some (.int .i64 (mst D B D.length), []) := by
 rw [callL_end oQz sQz (Nat.le_of_ble_eq_true rfl)]
 have lp := mq_out D B hD hB D.length 0 (by omega)
 rw [nat0, show mst D B 0 = -1 from rfl] at lp
 unfold qQz cQz
 generalize ints B = BB at *
 simp [rQzX0, rQzX1, rQzX2, rQzX3, rQzX4, rQzX5, rQzX6, rQzX7, rQzX8, rQzX9, rQzX10, rQzX11, rQzX12, rQzX13, rQzX14, lp, ints_length, endL, finB]
theorem add3_run (N : Nat) (Es : List Ed) (hG : GOK (N : Int) Es) (hE : Es.length < 1000000) (u v : Int) (hv : 0 <= u /\ 0 <= v /\ u < (N : Int) /\ v < (N : Int) /\ u ≠ v) (hn : nrmE u v ∉ Es) : callL cfgS nQA [.agg [.int .i64 N, .list 2 (eds Es)], .int .i64 u, .int .i64 v] [] = some (.tup [.agg [.int .i64 N, .list 2 (eds (putE (nrmE u v) Es))], .int .i64 0], []) := by
 rw [callL_end oQA sQA (Nat.le_of_ble_eq_true rfl)]
 have ck := rchk_run (N : Int) Es (by omega)
 rw [chkG_zero.2 hG] at ck
 have en := ends_run (N : Int) u v
 rw [decide_eq_true hv] at en
 have fd := find_run (N : Int) Es (by omega) hG u v
 rw [if_neg hn] at fd
 have ge := edge_run u v
 have wr := with_run (nrmE u v) Es (by omega)
 have lE := eds_length (putE (nrmE u v) Es)
 have ll : (putE (nrmE u v) Es).length <= 4294967296 := by
  have := putE_len (nrmE u v) Es
  omega
 have tk : (eds (putE (nrmE u v) Es)).take (putE (nrmE u v) Es).length = eds (putE (nrmE u v) Es) := List.take_of_length_le (by omega)
 have lf := allLeaf_eds (putE (nrmE u v) Es)
 have cE := cleanL_eds (putE (nrmE u v) Es)
 generalize putE (nrmE u v) Es = G at *
 generalize eds G = GG at *
 generalize eds Es = E at *
 generalize nrmE u v = z at *
 unfold qQA cQA
 simp [rQAX0, rQAX1, rQAX2, rQAX3, rQAX4, rQAX5, rQAX6, rQAX7, rQAX8, ck, en, fd, ge, wr, lE, ll, tk, lf, cE, LIM, blk, sQp, iQp, sQK, iQK, sQL, iQL, sQN, iQN, sQM, iQM, endL, finB]
/- What cohesionref09.Realise does: one node is served. -/
def GA (Es : List Ed) (G : AV) : Prop := G = .list 2 (eds Es) \/ Es = [] /\ G = .own 2 []
def rb0 : Blk := some [.int .i64 0, .own 2 []]
def riSt (N : Nat) (v : Int) (D U : List Int) (G : AV) (n j : Nat) (J : Env) : St := ⟨(2, .ptr 0 0) :: (6, .own 1 (ints D)) :: (7, .ptr 1 0) :: (8, .int .i64 v) :: (10, .own 1 (ints U)) :: (54, .int .i64 n) :: (55, .int .i64 j) :: J, [rb0, some [.int .i64 N, G]]⟩
def rfBad : Option (Ex × St) := some (.ret, ⟨[(2, .ptr 0 0), (3, .int .i64 13)], [rb0]⟩)
theorem ri_bad {N : Nat} {v : Int} {D U : List Int} {G : AV} {n j : Nat} (hD : D.length <= 64) (hU : U.length < 1000000) (hG : G = .own 2 [] \/ ∃ Es, G = .list 2 (eds Es)) (hj : j < n) (hm : mst D U D.length = -1) : codeL cfgS 0 (.loop lQmX1) (riSt N v D U G n j []) = rfBad := by
 have h1 : (j : Int) < n := by omega
 have mr := most_run D U hD hU
 rw [hm] at mr
 have tD : (ints D).take D.length = ints D := by rw [ints_take, List.take_length]
 have tU : (ints U).take U.length = ints U := by rw [ints_take, List.take_length]
 have lD := ints_length D
 have lU := ints_length U
 refine loop_ret ?_
 unfold riSt rb0 lQmX1
 rcases hG with rfl | ⟨Es, rfl⟩
 ·simp [rQmX0, rQmX1, rQmX2, rQmX3, rQmX4, rQmX5, rQmX6, rQmX7, rQmX8, rQmX9, rQmX10, rQmX11, rQmX12, rQmX13, rQmX14, rQmX15, rQmX16, rQmX17, rQmX18, rQmX19, rQmX20, rQmX21, rQmX22, rQmX23, rQmX24, rQmX25, rQmX26, rQmX27, rQmX28, rQmX29, rQmX30, rQmX31, rQmX32, rQmX33, rQmX34, h1, mr, tD, tU, blk, sQz, iQz, relB, handBox, mvBB, mvRtB, blk, eds_length, eds_get, edsAt, edAV, allLeaf_eds, cleanL_eds, cleanL_ints, ints_length, ints_get, intsAt, endL, finB]
 ·generalize eds Es = E at *
  simp [rQmX0, rQmX1, rQmX2, rQmX3, rQmX4, rQmX5, rQmX6, rQmX7, rQmX8, rQmX9, rQmX10, rQmX11, rQmX12, rQmX13, rQmX14, rQmX15, rQmX16, rQmX17, rQmX18, rQmX19, rQmX20, rQmX21, rQmX22, rQmX23, rQmX24, rQmX25, rQmX26, rQmX27, rQmX28, rQmX29, rQmX30, rQmX31, rQmX32, rQmX33, rQmX34, h1, mr, tD, tU, blk, sQz, iQz, relB, handBox, mvBB, mvRtB, blk, eds_length, eds_get, edsAt, edAV, allLeaf_eds, cleanL_eds, cleanL_ints, ints_length, ints_get, intsAt, endL, finB]
theorem ri_good {N : Nat} {v w : Int} {D U : List Int} {Es : List Ed} {G : AV} {n j : Nat} (hDl : D.length = N) (hN : N <= 64) (hU : U.length < 1000000) (hG : GA Es G) (hE : GOK (N : Int) Es) (hEl : Es.length < 100000) (hj : j < n) (hn : n < 1000000) (hm : mst D U D.length = w) (hv : 0 <= v /\ v < (N : Int)) (hw : 0 <= w /\ w < (N : Int)) (hvw : v ≠ w) (hne : nrmE v w ∉ Es) (hd : 0 < D.getD w.toNat 0 /\ D.getD w.toNat 0 < 1000) :
  codeL cfgS 0 lQmX1 (riSt N v D U G n j []) = some (.normal, riSt N v (D.set w.toNat (D.getD w.toNat 0 - 1)) (U ++ [w]) (.list 2 (eds (putE (nrmE v w) Es))) n (j + 1) []) := by
 have h1 : (j : Int) < n := by omega
 have hwr := wrapS (i := j) (by omega)
 have mr := most_run D U (by omega) hU
 rw [hm] at mr
 have ar := add3_run N Es hE (by omega) v w ⟨hv.1, hw.1, hv.2, hw.2, hvw⟩ hne
 have tD : (ints D).take D.length = ints D := by rw [ints_take, List.take_length]
 have tU : (ints U).take U.length = ints U := by rw [ints_take, List.take_length]
 have lD := ints_length D
 have lU := ints_length U
 have w0 : ¬ w < 0 := by omega
 have w1 : w.toNat < D.length := by omega
 have w2 : w < (D.length : Int) := by omega
 have gd : D.getD w.toNat 0 = D[w.toNat] := by simp [w1]
 rw [gd] at hd ⊢
 have wd : IntKind.i64.wrap (D[w.toNat] - 1) = D[w.toNat] - 1 := wrap_id (by omega) (by omega)
 have sD : (ints D).set w.toNat (.int .i64 (D[w.toNat] - 1)) = ints (D.set w.toNat (D[w.toNat] - 1)) := by simp [ints]
 have LU : U.length + 1 <= 4294967296 := by omega
 unfold riSt rb0 lQmX1
 generalize eds (putE (nrmE v w) Es) = E2 at *
 rcases hG with rfl | ⟨rfl, rfl⟩
 ·generalize eds Es = E at *
  simp [rQmX0, rQmX1, rQmX2, rQmX3, rQmX4, rQmX5, rQmX6, rQmX7, rQmX8, rQmX9, rQmX10, rQmX11, rQmX12, rQmX13, rQmX14, rQmX15, rQmX16, rQmX17, rQmX18, rQmX19, rQmX20, rQmX21, rQmX22, rQmX23, rQmX24, rQmX25, rQmX26, rQmX27, rQmX28, rQmX29, rQmX30, rQmX31, rQmX32, rQmX33, rQmX34, h1, hwr, mr, ar, tD, tU, w0, w1, w2, hw.1, wd, sD, LU, LIM, ints_snoc, ints_take, List.take_length, ints_length, idx, blk, sQz, iQz, sQA, iQA, relB, handBox, mvBB, mvRtB, blk, eds_length, eds_get, edsAt, edAV, allLeaf_eds, cleanL_eds, cleanL_ints, ints_length, ints_get, intsAt, endL, finB]
 ·rw [show eds [] = [] from rfl] at ar
  simp [rQmX0, rQmX1, rQmX2, rQmX3, rQmX4, rQmX5, rQmX6, rQmX7, rQmX8, rQmX9, rQmX10, rQmX11, rQmX12, rQmX13, rQmX14, rQmX15, rQmX16, rQmX17, rQmX18, rQmX19, rQmX20, rQmX21, rQmX22, rQmX23, rQmX24, rQmX25, rQmX26, rQmX27, rQmX28, rQmX29, rQmX30, rQmX31, rQmX32, rQmX33, rQmX34, h1, hwr, mr, ar, tD, tU, w0, w1, w2, hw.1, wd, sD, LU, LIM, ints_snoc, ints_take, List.take_length, ints_length, idx, blk, sQz, iQz, sQA, iQA, relB, handBox, mvBB, mvRtB, blk, eds_length, eds_get, edsAt, edAV, allLeaf_eds, cleanL_eds, cleanL_ints, ints_length, ints_get, intsAt, endL, finB]
/- What cohesionref09.Realise returns. -/
theorem ofE_len (l : List Ed) : ∀ o : List Ed, (ofE l o).length <= o.length + l.length := by
 induction l with
 | nil => intro o; exact Nat.le_refl _
 | cons x r ih =>
   intro o
   have h1 := ih (putE (nrmE x.1 x.2) o)
   have h2 := putE_len (nrmE x.1 x.2) o
   show (ofE r (putE _ o)).length <= _
   rw [List.length_cons]; omega
theorem put_ok {N : Nat} {Es : List Ed} (hG : GOK (N : Int) Es) {u v : Int} (hn : u ≠ v) (hu : 0 <= u /\ u < (N : Int)) (hv : 0 <= v /\ v < (N : Int)) : GOK (N : Int) (putE (nrmE u v) Es) := by
 refine ⟨hG.1, putE_up _ hG.2.1, fun e he => ?_⟩
 rcases (putE_mem _ _ _).1 he with rfl | he
 ·unfold nrmE
  simp only
  by_cases k1 : v < u
  ·rw [if_pos k1, if_neg (by omega)]; omega
  ·rw [if_neg k1, if_pos (by omega)]; omega
 ·exact hG.2.2 e he
theorem nrm_ne {v a b : Int} (hab : a ≠ b) : nrmE v a ≠ nrmE v b := by
 unfold nrmE
 intro h
 simp only [Prod.mk.injEq] at h
 obtain ⟨h1, h2⟩ := h
 by_cases p : a < v <;> by_cases q : b < v <;> by_cases r : v < a <;> by_cases s : v < b <;> simp only [p, q, r, s, if_true, if_false] at h1 h2 <;> omega
theorem ri_loop {N : Nat} {v : Int} (hN : N <= 64) (hv : 0 <= v /\ v < (N : Int)) (n : Nat) (hn : n < 1000) : ∀ (k j : Nat) (B : List (Int × Int)) (D U : List Int) (Es : List Ed) (G : AV), D.length = N -> Lst D U N B -> (B.map Prod.fst).Nodup -> v ∈ U -> (∀ x ∈ B, x.2 < 1000) -> U.length + k < 1000000 -> GA Es G -> GOK (N : Int) Es -> Es.length + k < 100000 -> (∀ x ∈ B, nrmE v x.1 ∉ Es) -> j + k = n ->
  ∃ G', GA (ofE ((B.take k).map fun x => (v, x.1)) Es) G' /\ codeL cfgS 0 (.loop lQmX1) (riSt N v D U G n j []) =
   if k <= B.length /\ ∀ x ∈ B.take k, x.2 ≠ 0 then some (.exit 4, riSt N v (decD D (B.take k)) (U ++ (B.take k).map Prod.fst) G' n n [(56, .bool false)]) else rfBad
 | 0, j, B, D, U, Es, G, hD, hL, hnd, hvU, hb, hU, hG, hE, hEl, hne, hj => by
   obtain rfl : j = n := by omega
   refine ⟨G, by simpa [ofE] using hG, ?_⟩
   rw [if_pos ⟨Nat.zero_le _, by simp⟩]
   simp only [List.take_zero, List.map_nil, List.append_nil]
   show _ = some (Ex.exit 4, riSt N v D U G j j [(56, .bool false)])
   refine loop_exit ?_
   unfold riSt rb0 lQmX1
   simp [rQmX0, rQmX1, rQmX2, rQmX3, rQmX4, rQmX5, rQmX6, rQmX7, rQmX8, rQmX9, rQmX10, rQmX11, rQmX12, rQmX13, rQmX14, rQmX15, rQmX16, rQmX17, rQmX18, rQmX19, rQmX20, rQmX21, rQmX22, rQmX23, rQmX24, rQmX25, rQmX26, rQmX27, rQmX28, rQmX29, rQmX30, rQmX31, rQmX32, rQmX33, rQmX34, blk, eds_length, eds_get, edsAt, edAV, allLeaf_eds, cleanL_eds, cleanL_ints, ints_length, ints_get, intsAt, endL, finB]
 | k + 1, j, [], D, U, Es, G, hD, hL, hnd, hvU, hb, hU, hG, hE, hEl, hne, hj => by
   refine ⟨G, by simpa [ofE] using hG, ?_⟩
   rw [if_neg (by simp)]
   refine ri_bad (by omega) (by omega) ?_ (by omega) (by rw [hD]; exact mst_none hL)
   rcases hG with h | ⟨_, h⟩
   ·exact .inr ⟨_, h⟩
   ·exact .inl h
 | k + 1, j, (w, e) :: B, D, U, Es, G, hD, hL, hnd, hvU, hb, hU, hG, hE, hEl, hne, hj => by
   have hmh := mst_head hL
   obtain ⟨w1, w2, w3⟩ := hL.at_ (w, e) List.mem_cons_self
   simp only at w1 w2 w3
   have he := hb (w, e) List.mem_cons_self
   simp only at he
   by_cases h0 : e = 0
   ·subst h0
    rw [if_neg (by omega)] at hmh
    have hb0 := ri_bad (N := N) (v := v) (D := D) (U := U) (G := G) (n := n) (j := j) (by omega) (by omega) (by
     rcases hG with h | ⟨_, h⟩
     ·exact .inr ⟨_, h⟩
     ·exact .inl h) (by omega) (by rw [hD]; exact hmh)
    refine ⟨.list 2 (eds _), .inl rfl, ?_⟩
    rw [if_neg (fun h => h.2 (w, 0) (by simp) rfl)]
    exact hb0
   ·rw [if_pos (by omega)] at hmh
    obtain ⟨n1, n2⟩ := List.nodup_cons.1 (show (w :: B.map Prod.fst).Nodup from hnd)
    have hwU := hL.no (w, e) List.mem_cons_self
    have hvw : v ≠ w := fun h => hwU (by rw [<- h]; exact hvU)
    have hne1 := hne (w, e) List.mem_cons_self
    have g := ri_good (U := U) (D := D) (Es := Es) (G := G) (n := n) (j := j) hD hN (by omega) hG hE (by omega) (by omega) (by omega) (by rw [hD]; exact hmh) hv w1 hvw hne1 (by rw [w3]; omega)
    rw [w3] at g
    obtain ⟨G', g1, g2⟩ := ri_loop hN hv n hn k (j + 1) B (D.set w.toNat (e - 1)) (U ++ [w]) (putE (nrmE v w) Es) (.list 2 (eds (putE (nrmE v w) Es))) (by rw [List.length_set]; exact hD) (hL.next n1 hD (e - 1)) n2 (List.mem_append_left _ hvU) (fun x hx => hb x (List.mem_cons_of_mem _ hx)) (by simp; omega) (.inl rfl) (put_ok hE hvw hv w1) (by have := putE_len (nrmE v w) Es; omega) (fun x hx hin => by
     rcases (putE_mem _ _ _).1 hin with h | h
     ·exact nrm_ne (fun h : x.1 = w => n1 (by rw [<- h]; exact List.mem_map_of_mem hx)) h
     ·exact hne x (List.mem_cons_of_mem _ hx) h) (by omega)
    refine ⟨G', by simpa [ofE] using g1, ?_⟩
    refine (loop_next g).trans ?_
    rw [g2]
    by_cases hc : k <= B.length /\ ∀ x ∈ B.take k, x.2 ≠ 0
    ·rw [if_pos hc, if_pos ⟨by simp; exact hc.1, fun x hx => by
      rw [List.take_succ_cons] at hx
      rcases List.mem_cons.1 hx with rfl | hx
      ·exact h0
      ·exact hc.2 x hx⟩]
     simp [decD]
    ·rw [if_neg hc, if_neg (fun h => hc ⟨by simpa using h.1, fun x hx => h.2 x (by rw [List.take_succ_cons]; exact List.mem_cons_of_mem _ hx)⟩)]
theorem otr_zero : ∀ (n : Nat) (L out : List (Int × Int)), L.length = n -> (∀ x ∈ L, x.2 = 0) -> otr n L out = some out
 | 0, L, out, _, _ => rfl
 | n + 1, L, out, hL, h => by
   have sp := isortC_perm cfM L
   have sl := isortC_length cfM L
   obtain ⟨⟨v, d⟩, r, hs⟩ : ∃ y r, isortC cfM L = y :: r := by
    cases h : isortC cfM L with
    | nil => rw [h] at sl; simp at sl; omega
    | cons y r => exact ⟨y, r, rfl⟩
   rw [hs] at sp sl
   have hd : d = 0 := h (v, d) (sp.mem_iff.1 List.mem_cons_self)
   subst hd
   rw [otr, hs]
   simp only
   rw [if_neg (by omega)]
   have : inn v (0 : Int).toNat 0 r out = some (r, out) := rfl
   rw [this]
   exact otr_zero n r out (by simp at sl; omega) fun x hx => h x (sp.mem_iff.1 (List.mem_cons_of_mem _ hx))
def roSt (N : Nat) (D : List Int) (G : AV) (J : Env) : St := ⟨(2, .ptr 0 0) :: (6, .own 1 (ints D)) :: (7, .ptr 1 0) :: J, [rb0, some [.int .i64 N, G]]⟩
def RoJ (J : Env) : Prop := J = [] \/ ∃ (v : Int) (U : List Int) (n j : Int), J = [(8, .int .i64 v), (10, .own 1 (ints U)), (54, .int .i64 n), (55, .int .i64 j), (56, .bool false)]
def GB (G : AV) : Prop := G = .own 2 [] \/ ∃ Es, G = .list 2 (eds Es)
theorem GA.gb {Es : List Ed} {G : AV} (h : GA Es G) : GB G := h.elim (fun h => .inr ⟨_, h⟩) fun h => .inl h.2
/- What cohesionref09.Realise returns. -/
theorem ro_exit {N : Nat} {D : List Int} {G : AV} {J : Env} (hGB : GB G) (hJ : RoJ J) (hD : D.length <= 64) (hm : mst D [] D.length = -1) : codeL cfgS 0 (.loop lQmX2) (roSt N D G J) = some (.exit 2, ⟨[(2, .ptr 0 0), (6, .own 1 (ints D)), (7, .ptr 1 0), (8, .int .i64 (-1)), (44, .bool true)], [rb0, some [.int .i64 N, G]]⟩) := by
 have mr := most_run D [] hD (by simp)
 rw [hm, ints_nil] at mr
 have tD : (ints D).take D.length = ints D := by rw [ints_take, List.take_length]
 have lD := ints_length D
 refine loop_exit ?_
 unfold roSt rb0 lQmX2
 rcases hGB with rfl | ⟨Es, rfl⟩
 ·rcases hJ with rfl | ⟨v, U, n, j, rfl⟩
  ·simp [rQmX0, rQmX1, rQmX2, rQmX3, rQmX4, rQmX5, rQmX6, rQmX7, rQmX8, rQmX9, rQmX10, rQmX11, rQmX12, rQmX13, rQmX14, rQmX15, rQmX16, rQmX17, rQmX18, rQmX19, rQmX20, rQmX21, rQmX22, rQmX23, rQmX24, rQmX25, rQmX26, rQmX27, rQmX28, rQmX29, rQmX30, rQmX31, rQmX32, rQmX33, rQmX34, mr, tD, blk, sQz, iQz, blk, eds_length, eds_get, edsAt, edAV, allLeaf_eds, cleanL_eds, cleanL_ints, ints_length, ints_get, intsAt, endL, finB]
  ·simp [rQmX0, rQmX1, rQmX2, rQmX3, rQmX4, rQmX5, rQmX6, rQmX7, rQmX8, rQmX9, rQmX10, rQmX11, rQmX12, rQmX13, rQmX14, rQmX15, rQmX16, rQmX17, rQmX18, rQmX19, rQmX20, rQmX21, rQmX22, rQmX23, rQmX24, rQmX25, rQmX26, rQmX27, rQmX28, rQmX29, rQmX30, rQmX31, rQmX32, rQmX33, rQmX34, mr, tD, blk, sQz, iQz, blk, eds_length, eds_get, edsAt, edAV, allLeaf_eds, cleanL_eds, cleanL_ints, ints_length, ints_get, intsAt, endL, finB]
 ·generalize eds Es = E at *
  rcases hJ with rfl | ⟨v, U, n, j, rfl⟩
  ·simp [rQmX0, rQmX1, rQmX2, rQmX3, rQmX4, rQmX5, rQmX6, rQmX7, rQmX8, rQmX9, rQmX10, rQmX11, rQmX12, rQmX13, rQmX14, rQmX15, rQmX16, rQmX17, rQmX18, rQmX19, rQmX20, rQmX21, rQmX22, rQmX23, rQmX24, rQmX25, rQmX26, rQmX27, rQmX28, rQmX29, rQmX30, rQmX31, rQmX32, rQmX33, rQmX34, mr, tD, blk, sQz, iQz, blk, eds_length, eds_get, edsAt, edAV, allLeaf_eds, cleanL_eds, cleanL_ints, ints_length, ints_get, intsAt, endL, finB]
  ·simp [rQmX0, rQmX1, rQmX2, rQmX3, rQmX4, rQmX5, rQmX6, rQmX7, rQmX8, rQmX9, rQmX10, rQmX11, rQmX12, rQmX13, rQmX14, rQmX15, rQmX16, rQmX17, rQmX18, rQmX19, rQmX20, rQmX21, rQmX22, rQmX23, rQmX24, rQmX25, rQmX26, rQmX27, rQmX28, rQmX29, rQmX30, rQmX31, rQmX32, rQmX33, rQmX34, mr, tD, blk, sQz, iQz, blk, eds_length, eds_get, edsAt, edAV, allLeaf_eds, cleanL_eds, cleanL_ints, ints_length, ints_get, intsAt, endL, finB]
theorem ro_round {N : Nat} {D : List Int} {G : AV} {J : Env} {v : Int} {k : Nat} {x : Option (Ex × St)} (hGB : GB G) (hJ : RoJ J) (hD : D.length <= 64) (hv : 0 <= v /\ v < (D.length : Int)) (hm : mst D [] D.length = v) (hk : D.getD v.toNat 0 = (k : Int)) (hlp : codeL cfgS 0 (.loop lQmX1) (riSt N v (D.set v.toNat 0) [v] G k 0 []) = x) (hx : x = rfBad \/ ∃ D' U' G', x = some (.exit 4, riSt N v D' U' G' k k [(56, .bool false)])) :
  (x = rfBad /\ codeL cfgS 0 lQmX2 (roSt N D G J) = rfBad) \/ ∃ D' U' G', x = some (.exit 4, riSt N v D' U' G' k k [(56, .bool false)]) /\ codeL cfgS 0 lQmX2 (roSt N D G J) = some (.normal, roSt N D' G' [(8, .int .i64 v), (10, .own 1 (ints U')), (54, .int .i64 k), (55, .int .i64 k), (56, .bool false)]) := by
 have mr := most_run D [] hD (by simp)
 rw [hm, ints_nil] at mr
 have tD : (ints D).take D.length = ints D := by rw [ints_take, List.take_length]
 have lD := ints_length D
 have v0 : ¬ v < 0 := by omega
 have v1 : v.toNat < D.length := by omega
 have gd : D.getD v.toNat 0 = D[v.toNat] := by simp [v1]
 rw [gd] at hk
 have sD : (ints D).set v.toNat (.int .i64 0) = ints (D.set v.toNat 0) := by simp [ints]
 have hv2 := hv.2
 have hv1 := hv.1
 have e1 : ints [v] = [.int .i64 v] := rfl
 rcases hx with rfl | ⟨D', U', G', rfl⟩
 ·left
  refine ⟨rfl, ?_⟩
  unfold riSt rfBad rb0 at hlp
  rw [nat0, e1] at hlp
  unfold roSt rfBad rb0 lQmX2
  rcases hGB with rfl | ⟨Es, rfl⟩
  ·rcases hJ with rfl | ⟨a, U, n, j, rfl⟩
   ·simp [rQmX0, rQmX1, rQmX2, rQmX3, rQmX4, rQmX5, rQmX6, rQmX7, rQmX8, rQmX9, rQmX10, rQmX11, rQmX12, rQmX13, rQmX14, rQmX15, rQmX16, rQmX17, rQmX18, rQmX19, rQmX20, rQmX21, rQmX22, rQmX23, rQmX24, rQmX25, rQmX26, rQmX27, rQmX28, rQmX29, rQmX30, rQmX31, rQmX32, rQmX33, rQmX34, mr, tD, v0, v1, hv1, hv2, hk, sD, hlp, idx, blk, ints_length, sQz, iQz, blk, eds_length, eds_get, edsAt, edAV, allLeaf_eds, cleanL_eds, cleanL_ints, ints_length, ints_get, intsAt, endL, finB]
   ·simp [rQmX0, rQmX1, rQmX2, rQmX3, rQmX4, rQmX5, rQmX6, rQmX7, rQmX8, rQmX9, rQmX10, rQmX11, rQmX12, rQmX13, rQmX14, rQmX15, rQmX16, rQmX17, rQmX18, rQmX19, rQmX20, rQmX21, rQmX22, rQmX23, rQmX24, rQmX25, rQmX26, rQmX27, rQmX28, rQmX29, rQmX30, rQmX31, rQmX32, rQmX33, rQmX34, mr, tD, v0, v1, hv1, hv2, hk, sD, hlp, idx, blk, ints_length, sQz, iQz, blk, eds_length, eds_get, edsAt, edAV, allLeaf_eds, cleanL_eds, cleanL_ints, ints_length, ints_get, intsAt, endL, finB]
  ·generalize eds Es = E at *
   rcases hJ with rfl | ⟨a, U, n, j, rfl⟩
   ·simp [rQmX0, rQmX1, rQmX2, rQmX3, rQmX4, rQmX5, rQmX6, rQmX7, rQmX8, rQmX9, rQmX10, rQmX11, rQmX12, rQmX13, rQmX14, rQmX15, rQmX16, rQmX17, rQmX18, rQmX19, rQmX20, rQmX21, rQmX22, rQmX23, rQmX24, rQmX25, rQmX26, rQmX27, rQmX28, rQmX29, rQmX30, rQmX31, rQmX32, rQmX33, rQmX34, mr, tD, v0, v1, hv1, hv2, hk, sD, hlp, idx, blk, ints_length, sQz, iQz, blk, eds_length, eds_get, edsAt, edAV, allLeaf_eds, cleanL_eds, cleanL_ints, ints_length, ints_get, intsAt, endL, finB]
   ·simp [rQmX0, rQmX1, rQmX2, rQmX3, rQmX4, rQmX5, rQmX6, rQmX7, rQmX8, rQmX9, rQmX10, rQmX11, rQmX12, rQmX13, rQmX14, rQmX15, rQmX16, rQmX17, rQmX18, rQmX19, rQmX20, rQmX21, rQmX22, rQmX23, rQmX24, rQmX25, rQmX26, rQmX27, rQmX28, rQmX29, rQmX30, rQmX31, rQmX32, rQmX33, rQmX34, mr, tD, v0, v1, hv1, hv2, hk, sD, hlp, idx, blk, ints_length, sQz, iQz, blk, eds_length, eds_get, edsAt, edAV, allLeaf_eds, cleanL_eds, cleanL_ints, ints_length, ints_get, intsAt, endL, finB]
 ·right
  refine ⟨D', U', G', rfl, ?_⟩
  unfold riSt rb0 at hlp
  rw [nat0, e1] at hlp
  unfold roSt rb0 lQmX2
  rcases hGB with rfl | ⟨Es, rfl⟩
  ·rcases hJ with rfl | ⟨a, U, n, j, rfl⟩
   ·simp [rQmX0, rQmX1, rQmX2, rQmX3, rQmX4, rQmX5, rQmX6, rQmX7, rQmX8, rQmX9, rQmX10, rQmX11, rQmX12, rQmX13, rQmX14, rQmX15, rQmX16, rQmX17, rQmX18, rQmX19, rQmX20, rQmX21, rQmX22, rQmX23, rQmX24, rQmX25, rQmX26, rQmX27, rQmX28, rQmX29, rQmX30, rQmX31, rQmX32, rQmX33, rQmX34, mr, tD, v0, v1, hv1, hv2, hk, sD, hlp, idx, blk, ints_length, sQz, iQz, blk, eds_length, eds_get, edsAt, edAV, allLeaf_eds, cleanL_eds, cleanL_ints, ints_length, ints_get, intsAt, endL, finB]
   ·simp [rQmX0, rQmX1, rQmX2, rQmX3, rQmX4, rQmX5, rQmX6, rQmX7, rQmX8, rQmX9, rQmX10, rQmX11, rQmX12, rQmX13, rQmX14, rQmX15, rQmX16, rQmX17, rQmX18, rQmX19, rQmX20, rQmX21, rQmX22, rQmX23, rQmX24, rQmX25, rQmX26, rQmX27, rQmX28, rQmX29, rQmX30, rQmX31, rQmX32, rQmX33, rQmX34, mr, tD, v0, v1, hv1, hv2, hk, sD, hlp, idx, blk, ints_length, sQz, iQz, blk, eds_length, eds_get, edsAt, edAV, allLeaf_eds, cleanL_eds, cleanL_ints, ints_length, ints_get, intsAt, endL, finB]
  ·generalize eds Es = E at *
   rcases hJ with rfl | ⟨a, U, n, j, rfl⟩
   ·simp [rQmX0, rQmX1, rQmX2, rQmX3, rQmX4, rQmX5, rQmX6, rQmX7, rQmX8, rQmX9, rQmX10, rQmX11, rQmX12, rQmX13, rQmX14, rQmX15, rQmX16, rQmX17, rQmX18, rQmX19, rQmX20, rQmX21, rQmX22, rQmX23, rQmX24, rQmX25, rQmX26, rQmX27, rQmX28, rQmX29, rQmX30, rQmX31, rQmX32, rQmX33, rQmX34, mr, tD, v0, v1, hv1, hv2, hk, sD, hlp, idx, blk, ints_length, sQz, iQz, blk, eds_length, eds_get, edsAt, edAV, allLeaf_eds, cleanL_eds, cleanL_ints, ints_length, ints_get, intsAt, endL, finB]
   ·simp [rQmX0, rQmX1, rQmX2, rQmX3, rQmX4, rQmX5, rQmX6, rQmX7, rQmX8, rQmX9, rQmX10, rQmX11, rQmX12, rQmX13, rQmX14, rQmX15, rQmX16, rQmX17, rQmX18, rQmX19, rQmX20, rQmX21, rQmX22, rQmX23, rQmX24, rQmX25, rQmX26, rQmX27, rQmX28, rQmX29, rQmX30, rQmX31, rQmX32, rQmX33, rQmX34, mr, tD, v0, v1, hv1, hv2, hk, sD, hlp, idx, blk, ints_length, sQz, iQz, blk, eds_length, eds_get, edsAt, edAV, allLeaf_eds, cleanL_eds, cleanL_ints, ints_length, ints_get, intsAt, endL, finB]
/- What cohesionref09.Realise returns: the loop through the nodes. -/
theorem ofE_ok {N : Nat} : ∀ (l : List Ed) (o : List Ed), GOK (N : Int) o -> (∀ e ∈ l, e.1 ≠ e.2 /\ (0 <= e.1 /\ e.1 < (N : Int)) /\ 0 <= e.2 /\ e.2 < (N : Int)) -> GOK (N : Int) (ofE l o)
 | [], o, h, _ => h
 | x :: r, o, h, hb => by
   have hx := hb x List.mem_cons_self
   exact ofE_ok r (putE (nrmE x.1 x.2) o) (put_ok h hx.1 hx.2.1 hx.2.2) fun e he => hb e (List.mem_cons_of_mem _ he)
theorem nrm_in {v w x y : Int} (h : nrmE x y = nrmE v w) : v = x \/ v = y := by
 unfold nrmE at h
 simp only [Prod.mk.injEq] at h
 obtain ⟨h1, h2⟩ := h
 by_cases p : y < x <;> by_cases q : x < y <;> by_cases r : w < v <;> by_cases s : v < w <;> simp only [p, q, r, s, if_true, if_false] at h1 h2 <;> omega
def roGoal (N n : Nat) (R out : List (Int × Int)) (D : List Int) (G : AV) (J : Env) : Prop :=
 match otr n R out with
 | none => codeL cfgS 0 (.loop lQmX2) (roSt N D G J) = rfBad
 | some out' => ∃ D' G', GA (ofE out' []) G' /\ GOK (N : Int) (ofE out' []) /\ D'.length = N /\ (∀ i, i < N -> D'.getD i 0 = 0) /\
   codeL cfgS 0 (.loop lQmX2) (roSt N D G J) = some (.exit 2, ⟨[(2, .ptr 0 0), (6, .own 1 (ints D')), (7, .ptr 1 0), (8, .int .i64 (-1)), (44, .bool true)], [rb0, some [.int .i64 N, G']]⟩)
theorem ro_loop {N : Nat} (hN : N <= 64) : ∀ (n : Nat) (R out : List (Int × Int)) (D : List Int) (G : AV) (J : Env), R.length = n -> RoJ J -> D.length = N -> Lst D [] N (isortC cfM R) -> (R.map Prod.fst).Nodup -> (∀ x ∈ R, x.2 < 900) -> GA (ofE out []) G -> GOK (N : Int) (ofE out []) -> out.length + 64 * n <= 50000 -> n <= 64 -> (∀ x ∈ R, ∀ y ∈ R, nrmE x.1 y.1 ∉ ofE out []) -> roGoal N n R out D G J
 | 0, R, out, D, G, J, hR, hJ, hD, hL, hnd, hb, hG, hE, hl, hn, hne => by
   obtain rfl := List.eq_nil_of_length_eq_zero hR
   have hm := mst_none (D := D) (B := []) (N := N) hL
   refine ⟨D, G, hG, hE, hD, fun i hi => hL.out i hi (by simp) (by simp [isortC]), ro_exit hG.gb hJ (by omega) (by rw [hD]; exact hm)⟩
 | n + 1, R, out, D, G, J, hR, hJ, hD, hL, hnd, hb, hG, hE, hl, hn, hne => by
   have sp := isortC_perm cfM R
   have sl := isortC_length cfM R
   obtain ⟨⟨v, d⟩, r, hs⟩ : ∃ y r, isortC cfM R = y :: r := by
    cases h : isortC cfM R with
    | nil => rw [h] at sl; simp at sl; omega
    | cons y r => exact ⟨y, r, rfl⟩
   have hotr : otr (n + 1) R out = if (r.length : Int) < d then none else match inn v d.toNat 0 r out with
    | none => none
    | some (r', out') => otr n r' out' := by rw [otr, hs]; rfl
   rw [hs] at sp sl hL
   have hrl : r.length = n := by simp at sl; omega
   have hm := mst_head hL
   obtain ⟨hv, hd0, hDv⟩ := hL.at_ (v, d) List.mem_cons_self
   simp only at hv hd0 hDv
   have hdb := hb (v, d) (sp.mem_iff.1 List.mem_cons_self)
   simp only at hdb
   by_cases hz : d = 0
   ·subst hz
    rw [if_neg (by omega)] at hm
    have h0 : ∀ x ∈ R, x.2 = 0 := by
     intro x hx
     have hx' := sp.mem_iff.2 hx
     have h1 := (hL.at_ x hx').2.1
     rcases List.mem_cons.1 hx' with rfl | hx'
     ·rfl
     ·have := (leM _ _).1 ((List.pairwise_cons.1 hL.asc).1 x hx')
      simp only at this; omega
    unfold roGoal
    rw [otr_zero (n + 1) R out hR h0]
    refine ⟨D, G, hG, hE, hD, fun i hi => ?_, ro_exit hG.gb hJ (by omega) (by rw [hD]; exact hm)⟩
    by_cases hin : (i : Int) ∈ ((v, 0) :: r).map Prod.fst
    ·obtain ⟨x, hx, ex⟩ := List.mem_map.1 hin
     have := (hL.at_ x hx).2.2
     rw [ex, Int.toNat_natCast, h0 x (sp.mem_iff.1 hx)] at this
     exact this
    ·exact hL.out i hi (by simp) hin
   ·rw [if_pos (by omega)] at hm
    have pf : (((v, d) :: r).map Prod.fst).Perm (R.map Prod.fst) := sp.map Prod.fst
    obtain ⟨hvr, hrn⟩ := List.nodup_cons.1 (show (v :: r.map Prod.fst).Nodup from (pf.nodup_iff).2 hnd)
    have hL1 : Lst (D.set v.toNat 0) [v] N r := hL.next hvr hD 0
    have hkd : ((d.toNat : Nat) : Int) = d := by omega
    have hrR : ∀ x ∈ r, x ∈ R := fun x hx => sp.mem_iff.1 (List.mem_cons_of_mem _ hx)
    have hEl := ofE_len out []
    rw [List.length_nil] at hEl
    obtain ⟨G', g1, g2⟩ := ri_loop hN hv d.toNat (by omega) d.toNat 0 r (D.set v.toNat 0) [v] (ofE out []) G (by rw [List.length_set]; exact hD) hL1 hrn (by simp) (fun x hx => by have := hb x (hrR x hx); omega) (by simp; omega) hG hE (by omega) (fun x hx => hne (v, d) (sp.mem_iff.1 List.mem_cons_self) x (hrR x hx)) (by omega)
    have isp := inn_spec v d.toNat [] r out
    simp only [List.length_nil, List.nil_append] at isp
    by_cases hc : d.toNat <= r.length /\ ∀ x ∈ r.take d.toNat, x.2 ≠ 0
    ·rw [if_pos hc] at g2 isp
     rcases ro_round (J := J) hG.gb hJ (by omega) (by rw [hD]; exact hv) (by rw [hD]; exact hm) (by rw [hDv, hkd]) g2 (.inr ⟨_, _, _, rfl⟩) with ⟨h, _⟩ | ⟨D', U', G'', h, e⟩
     ·simp [rfBad] at h
     ·have hD'' : decD (D.set v.toNat 0) (r.take d.toNat) = D' /\ G' = G'' := by
       have h2 := Option.some.inj h
       have h3 := congrArg (fun p : Ex × St => p.2) h2
       simp only [riSt, St.mk.injEq, List.cons.injEq, Prod.mk.injEq, AV.own.injEq, true_and, Option.some.injEq] at h3
       obtain ⟨⟨h4, _⟩, h5, _⟩ := h3
       refine ⟨?_, h5.1⟩
       have : ∀ a b : List Int, ints a = ints b -> a = b := fun a b h => by
        have := congrArg intsOf h
        rw [show intsOf (ints a) = some a from intsOf_ints a, show intsOf (ints b) = some b from intsOf_ints b] at this
        exact Option.some.inj this
       exact this _ _ h4
      obtain ⟨rfl, rfl⟩ := hD''
      have hfst : ((r.take d.toNat).map dec1 ++ r.drop d.toNat).map Prod.fst = r.map Prod.fst := by
       rw [List.map_append, List.map_map]
       have : (Prod.fst ∘ dec1) = Prod.fst := rfl
       rw [this, <- List.map_append, List.take_append_drop]
      have hnew : ofE (out ++ (r.take d.toNat).map fun x => (v, x.1)) [] = ofE ((r.take d.toNat).map fun x => (v, x.1)) (ofE out []) := ofE_snoc _ _ _
      have hsub : ∀ x ∈ r.take d.toNat, x ∈ r := fun x hx => List.mem_of_mem_take hx
      have hok : ∀ e ∈ (r.take d.toNat).map (fun x => ((v, x.1) : Ed)), e.1 ≠ e.2 /\ (0 <= e.1 /\ e.1 < (N : Int)) /\ 0 <= e.2 /\ e.2 < (N : Int) := by
       intro e he
       obtain ⟨x, hx, rfl⟩ := List.mem_map.1 he
       exact ⟨fun h => hvr (by simp only at h; rw [h]; exact List.mem_map_of_mem (hsub x hx)), hv, (hL1.at_ x (hsub x hx)).1⟩
      have hnt : ((r.take d.toNat).map Prod.fst).Nodup := hrn.sublist ((List.take_sublist _ _).map _)
      obtain ⟨a1, a2⟩ := decD_at (S := r.take d.toNat) (D := D.set v.toNat 0) hnt (fun x hx => by rw [List.length_set, hD]; exact (hL1.at_ x (hsub x hx)).1)
      have hlt : ∀ x ∈ (r.take d.toNat).map dec1 ++ r.drop d.toNat, (0 <= x.1 /\ x.1 < (N : Int)) /\ (0 <= x.2 /\ x.2 < 900) /\ (decD (D.set v.toNat 0) (r.take d.toNat)).getD x.1.toNat 0 = x.2 := by
       intro x hx
       rcases List.mem_append.1 hx with hx | hx
       ·obtain ⟨y, hy, rfl⟩ := List.mem_map.1 hx
        obtain ⟨b1, b2, b3⟩ := hL1.at_ y (hsub y hy)
        have b4 := hc.2 y hy
        have b5 := hb y (hrR y (hsub y hy))
        refine ⟨b1, ?_, a1 y hy⟩
        simp only [dec1]; omega
       ·have hxr := List.mem_of_mem_drop hx
        obtain ⟨b1, b2, b3⟩ := hL1.at_ x hxr
        have b5 := hb x (hrR x hxr)
        refine ⟨b1, ⟨b2, b5⟩, ?_⟩
        rw [a2 x.1.toNat ?_]
        ·exact b3
        ·rw [Int.toNat_of_nonneg b1.1]
         intro hin
         rw [<- List.take_append_drop d.toNat r, List.map_append] at hrn
         exact (List.nodup_append.1 hrn).2.2 _ hin _ (List.mem_map_of_mem hx) rfl
      have ih := ro_loop hN n ((r.take d.toNat).map dec1 ++ r.drop d.toNat) (out ++ (r.take d.toNat).map fun x => (v, x.1)) (decD (D.set v.toNat 0) (r.take d.toNat)) G' [(8, .int .i64 v), (10, .own 1 (ints U')), (54, .int .i64 d.toNat), (55, .int .i64 d.toNat), (56, .bool false)] (by simp; omega) (.inr ⟨_, _, _, _, rfl⟩) (by rw [decD_len, List.length_set]; exact hD)
       ⟨fun x hx => by
        have := hlt x ((isortC_perm cfM _).mem_iff.1 hx)
        exact ⟨this.1, this.2.1.1, this.2.2⟩, fun i hi _ hni => by
        have hni' : (i : Int) ∉ r.map Prod.fst := fun h => hni ((((isortC_perm cfM _).map Prod.fst).mem_iff).2 (by rw [hfst]; exact h))
        rw [a2 i fun h => hni' (((List.take_sublist _ _).map _).subset h)]
        by_cases hiv : (i : Int) = v
        ·rw [List.getD_eq_getElem?_getD, <- hiv, Int.toNat_natCast, List.getElem?_set_self (by omega)]; rfl
        ·exact hL1.out i hi (by simp; exact hiv) hni', fun x _ => by simp, isortC_asc totM _⟩ (by rw [hfst]; exact hrn) (fun x hx => (hlt x hx).2.1.2) (by rw [hnew]; exact g1) (by rw [hnew]; exact ofE_ok _ _ hE hok) (by simp; omega) (by omega) (fun x hx y hy hin => by
        have hxr : x.1 ∈ r.map Prod.fst := by rw [<- hfst]; exact List.mem_map_of_mem hx
        have hyr : y.1 ∈ r.map Prod.fst := by rw [<- hfst]; exact List.mem_map_of_mem hy
        rw [hnew] at hin
        rcases ((ofE_spec _ (ofE out []) hE.2.1).2 _).1 hin with h | ⟨e, he, h⟩
        ·obtain ⟨x', hx', ex⟩ := List.mem_map.1 hxr
         obtain ⟨y', hy', ey⟩ := List.mem_map.1 hyr
         exact hne x' (hrR x' hx') y' (hrR y' hy') (by rw [ex, ey]; exact h)
        ·obtain ⟨z, hz, rfl⟩ := List.mem_map.1 he
         rcases nrm_in h with k | k
         ·exact hvr (by have k2 : v = x.1 := k; rw [k2]; exact hxr)
         ·exact hvr (by have k2 : v = y.1 := k; rw [k2]; exact hyr))
      unfold roGoal at ih ⊢
      rw [hotr, isp, if_neg (by omega)]
      simp only
      cases ho : otr n ((r.take d.toNat).map dec1 ++ r.drop d.toNat) (out ++ (r.take d.toNat).map fun x => (v, x.1)) with
      | none =>
        rw [ho] at ih
        simp only at ih ⊢
        exact (loop_next e).trans ih
      | some out' =>
        rw [ho] at ih
        simp only at ih ⊢
        obtain ⟨D2, G2, i1, i2, i3, i4, i5⟩ := ih
        exact ⟨D2, G2, i1, i2, i3, i4, (loop_next e).trans i5⟩
    ·rw [if_neg hc] at g2 isp
     unfold roGoal
     have : otr (n + 1) R out = none := by
      rw [hotr, isp]
      split <;> rfl
     rw [this]
     rcases ro_round (J := J) hG.gb hJ (by omega) (by rw [hD]; exact hv) (by rw [hD]; exact hm) (by rw [hDv, hkd]) g2 (.inl rfl) with ⟨_, e⟩ | ⟨_, _, _, h, _⟩
     ·exact loop_ret e
     ·simp [rfBad] at h
/- What cohesionref09.Realise and Graphic, degree.Realise and Graphic return. -/
def rlV (l : List Int) : AV := if 64 < l.length then .tup [.agg [.int .i64 0, .list 2 []], .int .i64 3] else match rz l with
 | none => .tup [.agg [.int .i64 0, .list 2 []], .int .i64 13]
 | some out => .tup [.agg [.int .i64 l.length, .list 2 (eds (gofL out))], .int .i64 0]
theorem rf0_loop (l : List Int) (hl : l.length <= 64) : ∀ (R P : List Int), l = P ++ R -> codeL cfgS 0 (.loop lQmX0) ⟨[(0, .list 1 (ints l)), (2, .ptr 0 0), (20, .list 1 (ints l)), (21, .int .i64 l.length), (22, .int .i64 P.length)], [rb0]⟩ = if R.all (fun d => decide (0 <= d /\ d < (l.length : Int))) = true then some (.exit 0, ⟨[(0, .list 1 (ints l)), (2, .ptr 0 0), (20, .list 1 (ints l)), (21, .int .i64 l.length), (22, .int .i64 l.length), (23, .bool false)], [rb0]⟩) else rfBad
 | [], P, e => by
   obtain rfl : l = P := by simpa using e
   simp only [List.all_nil, if_true]
   exact loop_exit (by unfold lQmX0 rb0; simp [rQmX0, rQmX1, rQmX2, rQmX3, rQmX4, rQmX5, rQmX6, rQmX7, rQmX8, rQmX9, rQmX10, rQmX11, rQmX12, rQmX13, rQmX14, rQmX15, rQmX16, rQmX17, rQmX18, rQmX19, rQmX20, rQmX21, rQmX22, rQmX23, rQmX24, rQmX25, rQmX26, rQmX27, rQmX28, rQmX29, rQmX30, rQmX31, rQmX32, rQmX33, rQmX34, blk, blk, eds_length, eds_get, edsAt, edAV, allLeaf_eds, cleanL_eds, cleanL_ints, ints_length, ints_get, intsAt, endL, finB])
 | d :: R, P, e => by
   have hlen : l.length = P.length + (R.length + 1) := by rw [e]; simp
   have h1 : P.length < l.length := by omega
   have h2 : (P.length : Int) < l.length := by omega
   have hw := wrapS (i := P.length) (by omega)
   have hat : l[P.length] = d := by simp [e]
   have ih := rf0_loop l hl R (P ++ [d]) (by rw [e]; simp)
   rw [show (((P ++ [d]).length : Nat) : Int) = ((P.length + 1 : Nat) : Int) by simp] at ih
   generalize P.length = i at *
   by_cases c1 : d < 0
   ·rw [if_neg (by simp; omega)]
    exact loop_ret (by unfold lQmX0 rb0; simp [rQmX0, rQmX1, rQmX2, rQmX3, rQmX4, rQmX5, rQmX6, rQmX7, rQmX8, rQmX9, rQmX10, rQmX11, rQmX12, rQmX13, rQmX14, rQmX15, rQmX16, rQmX17, rQmX18, rQmX19, rQmX20, rQmX21, rQmX22, rQmX23, rQmX24, rQmX25, rQmX26, rQmX27, rQmX28, rQmX29, rQmX30, rQmX31, rQmX32, rQmX33, rQmX34, h1, h2, hat, c1, idx, blk, ints_length, relB, handBox, mvBB, mvRtB, blk, eds_length, eds_get, edsAt, edAV, allLeaf_eds, cleanL_eds, cleanL_ints, ints_length, ints_get, intsAt, endL, finB])
   ·by_cases c2 : (l.length : Int) <= d
    ·rw [if_neg (by simp; omega)]
     exact loop_ret (by unfold lQmX0 rb0; simp [rQmX0, rQmX1, rQmX2, rQmX3, rQmX4, rQmX5, rQmX6, rQmX7, rQmX8, rQmX9, rQmX10, rQmX11, rQmX12, rQmX13, rQmX14, rQmX15, rQmX16, rQmX17, rQmX18, rQmX19, rQmX20, rQmX21, rQmX22, rQmX23, rQmX24, rQmX25, rQmX26, rQmX27, rQmX28, rQmX29, rQmX30, rQmX31, rQmX32, rQmX33, rQmX34, h1, h2, hat, c1, c2, idx, blk, ints_length, relB, handBox, mvBB, mvRtB, blk, eds_length, eds_get, edsAt, edAV, allLeaf_eds, cleanL_eds, cleanL_ints, ints_length, ints_get, intsAt, endL, finB])
    ·have e2 : (d :: R).all (fun d => decide (0 <= d /\ d < (l.length : Int))) = R.all (fun d => decide (0 <= d /\ d < (l.length : Int))) := by
      rw [List.all_cons, decide_eq_true (by omega), Bool.true_and]
     rw [e2]
     refine (loop_next ?_).trans ih
     unfold lQmX0 rb0
     simp [rQmX0, rQmX1, rQmX2, rQmX3, rQmX4, rQmX5, rQmX6, rQmX7, rQmX8, rQmX9, rQmX10, rQmX11, rQmX12, rQmX13, rQmX14, rQmX15, rQmX16, rQmX17, rQmX18, rQmX19, rQmX20, rQmX21, rQmX22, rQmX23, rQmX24, rQmX25, rQmX26, rQmX27, rQmX28, rQmX29, rQmX30, rQmX31, rQmX32, rQmX33, rQmX34, h1, h2, hw, hat, c1, c2, idx, blk, ints_length, blk, eds_length, eds_get, edsAt, edAV, allLeaf_eds, cleanL_eds, cleanL_ints, ints_length, ints_get, intsAt, endL, finB]
theorem rf3_loop {N : Nat} (D : List Int) (G : AV) (hG : GB G) (hD : D.length = N) (hN : N <= 64) (h0 : ∀ i, i < N -> D.getD i 0 = 0) : ∀ k i : Nat, i + k = N -> codeL cfgS 0 (.loop lQmX3) ⟨[(2, .ptr 0 0), (7, .ptr 1 0), (85, .own 1 (ints D)), (86, .int .i64 N), (87, .int .i64 i)], [rb0, some [.int .i64 N, G]]⟩ = some (.exit 6, ⟨[(2, .ptr 0 0), (7, .ptr 1 0), (85, .own 1 (ints D)), (86, .int .i64 N), (87, .int .i64 N), (88, .bool false)], [rb0, some [.int .i64 N, G]]⟩)
 | 0, i, e => by
   obtain rfl : i = N := by omega
   refine loop_exit ?_
   unfold lQmX3 rb0
   rcases hG with rfl | ⟨Es, rfl⟩
   ·simp [rQmX0, rQmX1, rQmX2, rQmX3, rQmX4, rQmX5, rQmX6, rQmX7, rQmX8, rQmX9, rQmX10, rQmX11, rQmX12, rQmX13, rQmX14, rQmX15, rQmX16, rQmX17, rQmX18, rQmX19, rQmX20, rQmX21, rQmX22, rQmX23, rQmX24, rQmX25, rQmX26, rQmX27, rQmX28, rQmX29, rQmX30, rQmX31, rQmX32, rQmX33, rQmX34, blk, blk, eds_length, eds_get, edsAt, edAV, allLeaf_eds, cleanL_eds, cleanL_ints, ints_length, ints_get, intsAt, endL, finB]
   ·generalize eds Es = E at *
    simp [rQmX0, rQmX1, rQmX2, rQmX3, rQmX4, rQmX5, rQmX6, rQmX7, rQmX8, rQmX9, rQmX10, rQmX11, rQmX12, rQmX13, rQmX14, rQmX15, rQmX16, rQmX17, rQmX18, rQmX19, rQmX20, rQmX21, rQmX22, rQmX23, rQmX24, rQmX25, rQmX26, rQmX27, rQmX28, rQmX29, rQmX30, rQmX31, rQmX32, rQmX33, rQmX34, blk, blk, eds_length, eds_get, edsAt, edAV, allLeaf_eds, cleanL_eds, cleanL_ints, ints_length, ints_get, intsAt, endL, finB]
 | k + 1, i, e => by
   have h1 : i < D.length := by omega
   have h2 : (i : Int) < N := by omega
   have h3 : (i : Int) < D.length := by omega
   have hw := wrapS (i := i) (by omega)
   have hz : D[i] = 0 := by
    have := h0 i (by omega)
    simpa [h1] using this
   refine (loop_next ?_).trans (rf3_loop D G hG hD hN h0 k (i + 1) (by omega))
   unfold lQmX3 rb0
   rcases hG with rfl | ⟨Es, rfl⟩
   ·simp [rQmX0, rQmX1, rQmX2, rQmX3, rQmX4, rQmX5, rQmX6, rQmX7, rQmX8, rQmX9, rQmX10, rQmX11, rQmX12, rQmX13, rQmX14, rQmX15, rQmX16, rQmX17, rQmX18, rQmX19, rQmX20, rQmX21, rQmX22, rQmX23, rQmX24, rQmX25, rQmX26, rQmX27, rQmX28, rQmX29, rQmX30, rQmX31, rQmX32, rQmX33, rQmX34, h1, h2, h3, hw, hz, idx, blk, ints_length, blk, eds_length, eds_get, edsAt, edAV, allLeaf_eds, cleanL_eds, cleanL_ints, ints_length, ints_get, intsAt, endL, finB]
   ·generalize eds Es = E at *
    simp [rQmX0, rQmX1, rQmX2, rQmX3, rQmX4, rQmX5, rQmX6, rQmX7, rQmX8, rQmX9, rQmX10, rQmX11, rQmX12, rQmX13, rQmX14, rQmX15, rQmX16, rQmX17, rQmX18, rQmX19, rQmX20, rQmX21, rQmX22, rQmX23, rQmX24, rQmX25, rQmX26, rQmX27, rQmX28, rQmX29, rQmX30, rQmX31, rQmX32, rQmX33, rQmX34, h1, h2, h3, hw, hz, idx, blk, ints_length, blk, eds_length, eds_get, edsAt, edAV, allLeaf_eds, cleanL_eds, cleanL_ints, ints_length, ints_get, intsAt, endL, finB]
theorem ref_run (l : List Int) : callL cfgS nQm [.list 1 (ints l)] [] = some (rlV l, []) := by
 rw [callL_end oQm sQm (Nat.le_of_ble_eq_true rfl)]
 unfold rlV
 by_cases hl : 64 < l.length
 ·rw [if_pos hl]
  have c1 : 64 < (l.length : Int) := by omega
  unfold qQm cQm
  simp [rQmX0, rQmX1, rQmX2, rQmX3, rQmX4, rQmX5, rQmX6, rQmX7, rQmX8, rQmX9, rQmX10, rQmX11, rQmX12, rQmX13, rQmX14, rQmX15, rQmX16, rQmX17, rQmX18, rQmX19, rQmX20, rQmX21, rQmX22, rQmX23, rQmX24, rQmX25, rQmX26, rQmX27, rQmX28, rQmX29, rQmX30, rQmX31, rQmX32, rQmX33, rQmX34, c1, blk, ints_length, endL, finB, relB, handBox, mvBB, mvRtB]
 ·rw [if_neg hl]
  have c1 : ¬ 64 < (l.length : Int) := by omega
  have lp0 := rf0_loop l (by omega) l [] rfl
  rw [List.length_nil, nat0] at lp0
  unfold rfBad at lp0
  unfold rb0 at lp0
  by_cases ha : l.all (fun d => decide (0 <= d /\ d < (l.length : Int))) = true
  ·rw [if_pos ha] at lp0
   have hrz : rz l = otr l.length (needs l) [] := by unfold rz; rw [if_pos ha]
   have hrange : ∀ d ∈ l, 0 <= d /\ d < (l.length : Int) := fun d hd => of_decide_eq_true (List.all_eq_true.1 ha d hd)
   have hmem : ∀ x ∈ needs l, ∃ i : Nat, ∃ h : i < l.length, x = ((i : Int), l[i]) := by
    intro x hx
    unfold needs at hx
    obtain ⟨⟨d, i⟩, hy, rfl⟩ := List.mem_map.1 hx
    have := List.mem_zipIdx_iff_getElem?.1 hy
    obtain ⟨h, e⟩ := List.getElem?_eq_some_iff.1 this
    exact ⟨i, h, by simp at e; rw [e]⟩
   have hn : ((needs l).map Prod.fst).Nodup := by
    rw [needs_fst]
    exact List.Pairwise.map _ (fun a b h e => h (by omega)) (List.nodup_range (n := l.length))
   have hL : Lst l [] l.length (isortC cfM (needs l)) := by
    refine ⟨fun x hx => ?_, fun i hi _ hni => ?_, fun x _ => by simp, isortC_asc totM _⟩
    ·obtain ⟨i, h, rfl⟩ := hmem x ((isortC_perm cfM _).mem_iff.1 hx)
     have := hrange l[i] (List.getElem_mem h)
     refine ⟨by simp only; omega, this.1, ?_⟩
     simp [h]
    ·exfalso
     apply hni
     refine (((isortC_perm cfM _).map Prod.fst).mem_iff).2 ?_
     rw [needs_fst]
     exact List.mem_map.2 ⟨i, List.mem_range.2 hi, rfl⟩
   have go := ro_loop (N := l.length) (by omega) l.length (needs l) [] l (.own 2 []) [] (by simp [needs]) (.inl rfl) rfl hL hn (fun x hx => by
    obtain ⟨i, h, rfl⟩ := hmem x hx
    have := hrange l[i] (List.getElem_mem h)
    simp only; omega) (.inr ⟨rfl, rfl⟩) ⟨by omega, by simp [ofE, UpE], by simp [ofE]⟩ (by simp; omega) (by omega) (fun x _ y _ => by simp [ofE])
   unfold roGoal at go
   rw [<- hrz] at go
   have tl : (ints l).take l.length = ints l := by rw [ints_take, List.take_length]
   have L1 : l.length <= 4294967296 := by omega
   cases hr : rz l with
   | none =>
     rw [hr] at go
     simp only at go ⊢
     unfold roSt rfBad at go
     unfold rb0 at go
     unfold qQm cQm
     simp [rQmX0, rQmX1, rQmX2, rQmX3, rQmX4, rQmX5, rQmX6, rQmX7, rQmX8, rQmX9, rQmX10, rQmX11, rQmX12, rQmX13, rQmX14, rQmX15, rQmX16, rQmX17, rQmX18, rQmX19, rQmX20, rQmX21, rQmX22, rQmX23, rQmX24, rQmX25, rQmX26, rQmX27, rQmX28, rQmX29, rQmX30, rQmX31, rQmX32, rQmX33, rQmX34, c1, lp0, go, tl, L1, LIM, blk, ints_length, endL, finB, relB, handBox, mvBB, mvRtB]
   | some out =>
     rw [hr] at go
     simp only at go ⊢
     obtain ⟨D', G', g1, g2, g3, g4, g5⟩ := go
     have lp3 := rf3_loop D' G' g1.gb g3 (by omega) g4 l.length 0 (by omega)
     rw [nat0] at lp3
     unfold roSt rb0 at g5
     unfold rb0 at lp3
     rw [<- ofE_gof]
     have tD : (ints D').take l.length = ints D' := by rw [ints_take, List.take_of_length_le (by omega)]
     unfold qQm cQm
     rcases g1 with rfl | ⟨e0, rfl⟩
     ·generalize eds (ofE out []) = E at *
      simp [rQmX0, rQmX1, rQmX2, rQmX3, rQmX4, rQmX5, rQmX6, rQmX7, rQmX8, rQmX9, rQmX10, rQmX11, rQmX12, rQmX13, rQmX14, rQmX15, rQmX16, rQmX17, rQmX18, rQmX19, rQmX20, rQmX21, rQmX22, rQmX23, rQmX24, rQmX25, rQmX26, rQmX27, rQmX28, rQmX29, rQmX30, rQmX31, rQmX32, rQmX33, rQmX34, c1, lp0, g5, lp3, g3, tl, tD, L1, LIM, blk, ints_length, endL, finB, relB, handBox, mvBB, mvRtB]
     ·rw [e0, show eds [] = [] from rfl]
      simp [rQmX0, rQmX1, rQmX2, rQmX3, rQmX4, rQmX5, rQmX6, rQmX7, rQmX8, rQmX9, rQmX10, rQmX11, rQmX12, rQmX13, rQmX14, rQmX15, rQmX16, rQmX17, rQmX18, rQmX19, rQmX20, rQmX21, rQmX22, rQmX23, rQmX24, rQmX25, rQmX26, rQmX27, rQmX28, rQmX29, rQmX30, rQmX31, rQmX32, rQmX33, rQmX34, c1, lp0, g5, lp3, g3, tl, tD, L1, LIM, blk, ints_length, endL, finB, relB, handBox, mvBB, mvRtB]
  ·rw [if_neg ha] at lp0
   have hrz : rz l = none := by unfold rz; rw [if_neg ha]
   rw [hrz]
   simp only
   unfold qQm cQm
   simp [rQmX0, rQmX1, rQmX2, rQmX3, rQmX4, rQmX5, rQmX6, rQmX7, rQmX8, rQmX9, rQmX10, rQmX11, rQmX12, rQmX13, rQmX14, rQmX15, rQmX16, rQmX17, rQmX18, rQmX19, rQmX20, rQmX21, rQmX22, rQmX23, rQmX24, rQmX25, rQmX26, rQmX27, rQmX28, rQmX29, rQmX30, rQmX31, rQmX32, rQmX33, rQmX34, c1, lp0, blk, ints_length, endL, finB, relB, handBox, mvBB, mvRtB]
theorem real_run (l : List Int) : callL cfgS nQl [.list 1 (ints l)] [] = some (rlV l, []) := by
 unfold rlV
 by_cases hl : 64 < l.length
 ·rw [if_pos hl]
  rw [callL_end oQl sQl (Nat.le_of_ble_eq_true rfl)]
  have c1 : 64 < (l.length : Int) := by omega
  unfold qQl cQl
  simp [rQlX0, rQlX1, rQlX2, rQlX3, rQlX4, rQlX5, rQlX6, c1, blk, ints_length, endL, finB, relB, handBox, mvBB, mvRtB]
 ·rw [if_neg hl]
  cases hr : rz l with
  | some out => exact real_some l (by omega) hr (rz_len (by omega) hr)
  | none =>
    rw [callL_end oQl sQl (Nat.le_of_ble_eq_true rfl)]
    have h := realise_run l (by omega)
    rw [hr] at h
    simp only [Option.getD_none, Option.isSome_none, List.map_nil] at h
    have c1 : ¬ 64 < (l.length : Int) := by omega
    unfold qQl cQl
    simp [rQlX0, rQlX1, rQlX2, rQlX3, rQlX4, rQlX5, rQlX6, h, c1, blk, ints_length, sQq, iQq, endL, finB, relB, handBox, mvBB, mvRtB]
def grV (l : List Int) : Bool := decide (l.length <= 64) && (rz l).isSome
theorem graphic_run (l : List Int) : callL cfgS nQc [.list 1 (ints l)] [] = some (.bool (grV l), []) := by
 rw [callL_end oQc sQc (Nat.le_of_ble_eq_true rfl)]
 unfold grV
 by_cases hl : 64 < l.length
 ·have c1 : 64 < (l.length : Int) := by omega
  rw [decide_eq_false (by omega), Bool.false_and]
  unfold qQc cQc
  simp [rQcX0, rQcX1, rQcX2, rQcX3, rQcX4, c1, ints_length, blk, eds_length, eds_get, edsAt, edAV, allLeaf_eds, cleanL_eds, cleanL_ints, ints_length, ints_get, intsAt, endL, finB]
 ·have h := realise_run l (by omega)
  have c1 : ¬ 64 < (l.length : Int) := by omega
  rw [decide_eq_true (by omega), Bool.true_and]
  unfold qQc cQc
  simp [rQcX0, rQcX1, rQcX2, rQcX3, rQcX4, h, c1, ints_length, sQq, iQq, blk, eds_length, eds_get, edsAt, edAV, allLeaf_eds, cleanL_eds, cleanL_ints, ints_length, ints_get, intsAt, endL, finB]
theorem rgraphic_run (l : List Int) : callL cfgS nQo [.list 1 (ints l)] [] = some (.bool (grV l), []) := by
 rw [callL_end oQo sQo (Nat.le_of_ble_eq_true rfl)]
 have h := ref_run l
 unfold rlV at h
 unfold grV
 unfold qQo cQo
 by_cases hl : 64 < l.length
 ·rw [if_pos hl] at h
  rw [decide_eq_false (by omega), Bool.false_and]
  simp [rQoX0, rQoX1, rQoX2, h, blk, sQm, iQm, endL, finB, relB, handBox, mvBB, mvRtB]
 ·rw [if_neg hl] at h
  rw [decide_eq_true (by omega), Bool.true_and]
  cases hr : rz l with
  | none =>
    rw [hr] at h
    simp only at h
    simp [rQoX0, rQoX1, rQoX2, h, blk, sQm, iQm, endL, finB, relB, handBox, mvBB, mvRtB]
  | some out =>
    rw [hr] at h
    simp only at h
    generalize eds (gofL out) = E at *
    simp [rQoX0, rQoX1, rQoX2, h, blk, sQm, iQm, endL, finB, relB, handBox, mvBB, mvRtB]
/- What cohesionlaw09.DegreeRealises returns. -/
theorem restN : Rest [] := ⟨fun _ => rfl, rfl, fun _ _ => rfl, fun _ => rfl, fun _ _ => rfl⟩
def s0St (l : List Int) (a : Nat) (raw X Y S : List Int) (i : Nat) (J : Env) : St := ⟨(0, .list 1 (ints raw)) :: (5, .ptr 0 0) :: (6, .list 1 (ints X)) :: (8, .own 1 (ints Y)) :: (9, .own 1 (ints S)) :: (10, .int .i64 i) :: J, [dk l a]⟩
theorem s0_loop (l : List Int) (hl : l.length <= 9223372036854775807) (raw X Y : List Int) : ∀ (i : Nat) (a : Nat) (S : List Int), i <= 10 -> S.length + i <= 20 -> ∃ S' a', S'.length <= 20 /\ codeL cfgS 0 (.loop lQaX0) (s0St l a raw X Y S i []) = some (.exit 0, s0St l a' raw X Y S' 0 [(49, .bool false)])
 | 0, a, S, hi, hS => by
   refine ⟨S, a, by omega, loop_exit ?_⟩
   unfold s0St dk lQaX0
   simp [rQaX0, rQaX1, rQaX2, rQaX3, rQaX4, rQaX5, rQaX6, rQaX7, rQaX8, rQaX9, rQaX10, rQaX11, rQaX12, rQaX13, rQaX14, rQaX15, rQaX16, rQaX17, rQaX18, rQaX19, rQaX20, rQaX21, blk, eds_length, eds_get, edsAt, edAV, allLeaf_eds, cleanL_eds, cleanL_ints, ints_length, ints_get, intsAt, endL, finB]
 | i + 1, a, S, hi, hS => by
   have nx := next_run l hl a 6 (by omega) [] restN
   obtain ⟨S', a', e1, e2⟩ := s0_loop l hl raw X Y i (nxA l a 6) (S ++ [nxV l a 6]) (by omega) (by simp; omega)
   refine ⟨S', a', e1, (loop_next ?_).trans e2⟩
   have p1 : (0 : Int) < ((i + 1 : Nat) : Int) := by omega
   have w1 : IntKind.i64.wrap (((i + 1 : Nat) : Int) - 1) = (i : Int) := by rw [show ((i + 1 : Nat) : Int) - 1 = (i : Int) by omega, wrap_id (by omega) (by omega)]
   have L : S.length + 1 <= 4294967296 := by omega
   have w0 : IntKind.i64.wrap (i : Int) = i := wrap_id (by omega) (by omega)
   generalize nxV l a 6 = z at *
   generalize nxA l a 6 = a1 at *
   generalize hI : ((i + 1 : Nat) : Int) = I at *
   unfold dk at nx
   unfold s0St dk lQaX0
   simp [rQaX0, rQaX1, rQaX2, rQaX3, rQaX4, rQaX5, rQaX6, rQaX7, rQaX8, rQaX9, rQaX10, rQaX11, rQaX12, rQaX13, rQaX14, rQaX15, rQaX16, rQaX17, rQaX18, rQaX19, rQaX20, rQaX21, p1, w1, w0, nx, L, LIM, ints_snoc, ints_take, List.take_length, ints_length, sQk, iQk, plp, plpL, allB, notBox, swC, swS, seesC, inBox, nle1, blk, eds_length, eds_get, edsAt, edAV, allLeaf_eds, cleanL_eds, cleanL_ints, ints_length, ints_get, intsAt, endL, finB]
def lz (Z : List (List Int)) : List AV := Z.map fun z => .list 1 (ints z)
def x1St (X : List Int) (Z : List (List Int)) (i : Nat) (J : Env) : St := ⟨(6, .list 1 (ints X)) :: (61, .own 1 (lz Z)) :: (62, .int .i64 4) :: (63, .int .i64 i) :: J, []⟩
theorem lz_len (Z : List (List Int)) : (lz Z).length = Z.length := List.length_map _
theorem x1_round (X : List Int) (Z : List (List Int)) (hZ : Z.length = 4) (i : Nat) (hi : i < 4) : codeL cfgS 0 lQaX1 (x1St X Z i []) = some (.normal, x1St X Z (i + 1) []) := by
 have h1 : (i : Int) < 4 := by omega
 have h2 : i < Z.length := by omega
 have h3 : i < (lz Z).length := by rw [lz_len]; omega
 have h4 : (i : Int) < ((lz Z).length : Int) := by omega
 have hw := wrapS (i := i) (by omega)
 have re := real_run Z[i]
 have rf := ref_run Z[i]
 have g1 := graphic_run Z[i]
 have g2 := rgraphic_run Z[i]
 have at1 : (lz Z)[i] = .list 1 (ints Z[i]) := by simp [lz]
 have ll : (lz Z).length = 4 := by rw [lz_len, hZ]
 generalize grV Z[i] = g at *
 generalize ints X = XX at *
 unfold rlV at re rf
 unfold x1St lQaX1
 by_cases hl : 64 < Z[i].length
 ·rw [if_pos hl] at re rf
  have sm := same3_run 0 [] (by simp)
  rw [show eds [] = [] from rfl] at sm
  generalize ints Z[i] = w at *
  simp [rQaX0, rQaX1, rQaX2, rQaX3, rQaX4, rQaX5, rQaX6, rQaX7, rQaX8, rQaX9, rQaX10, rQaX11, rQaX12, rQaX13, rQaX14, rQaX15, rQaX16, rQaX17, rQaX18, rQaX19, rQaX20, rQaX21, h1, h3, hi, ll, hw, re, rf, g1, g2, at1, sm, idx, blk, sQl, iQl, sQm, iQm, sQn, iQn, sQc, iQc, sQo, iQo, blk, eds_length, eds_get, edsAt, edAV, allLeaf_eds, cleanL_eds, cleanL_ints, ints_length, ints_get, intsAt, endL, finB]
 ·rw [if_neg hl] at re rf
  cases hr : rz Z[i] with
  | none =>
    rw [hr] at re rf
    have sm := same3_run 0 [] (by simp)
    rw [show eds [] = [] from rfl] at sm
    generalize ints Z[i] = w at *
    simp [rQaX0, rQaX1, rQaX2, rQaX3, rQaX4, rQaX5, rQaX6, rQaX7, rQaX8, rQaX9, rQaX10, rQaX11, rQaX12, rQaX13, rQaX14, rQaX15, rQaX16, rQaX17, rQaX18, rQaX19, rQaX20, rQaX21, h1, h3, hi, ll, hw, re, rf, g1, g2, at1, sm, idx, blk, sQl, iQl, sQm, iQm, sQn, iQn, sQc, iQc, sQo, iQo, blk, eds_length, eds_get, edsAt, edAV, allLeaf_eds, cleanL_eds, cleanL_ints, ints_length, ints_get, intsAt, endL, finB]
  | some out =>
    rw [hr] at re rf
    simp only at re rf
    have hol := rz_len (by omega) hr
    have hgl : (gofL out).length < 1000000 := by
     have h1 := ddp_le (isortC cfO (out.map fun e => nrmE e.1 e.2))
     rw [isortC_length, List.length_map] at h1
     exact Nat.lt_of_le_of_lt h1 hol
    have sm := same3_run (Z[i].length : Int) (gofL out) hgl
    generalize eds (gofL out) = G at *
    generalize ints Z[i] = w at *
    simp [rQaX0, rQaX1, rQaX2, rQaX3, rQaX4, rQaX5, rQaX6, rQaX7, rQaX8, rQaX9, rQaX10, rQaX11, rQaX12, rQaX13, rQaX14, rQaX15, rQaX16, rQaX17, rQaX18, rQaX19, rQaX20, rQaX21, h1, h3, hi, ll, hw, re, rf, g1, g2, at1, sm, idx, blk, sQl, iQl, sQm, iQm, sQn, iQn, sQc, iQc, sQo, iQo, blk, eds_length, eds_get, edsAt, edAV, allLeaf_eds, cleanL_eds, cleanL_ints, ints_length, ints_get, intsAt, endL, finB]
theorem x1_loop (X : List Int) (Z : List (List Int)) (hZ : Z.length = 4) : codeL cfgS 0 (.loop lQaX1) (x1St X Z 0 []) = some (.exit 2, x1St X Z 4 [(64, .bool false)]) := by
 refine (loop_next (x1_round X Z hZ 0 (by omega))).trans ((loop_next (x1_round X Z hZ 1 (by omega))).trans ((loop_next (x1_round X Z hZ 2 (by omega))).trans ((loop_next (x1_round X Z hZ 3 (by omega))).trans (loop_exit ?_))))
 unfold x1St lQaX1
 simp [rQaX0, rQaX1, rQaX2, rQaX3, rQaX4, rQaX5, rQaX6, rQaX7, rQaX8, rQaX9, rQaX10, rQaX11, rQaX12, rQaX13, rQaX14, rQaX15, rQaX16, rQaX17, rQaX18, rQaX19, rQaX20, rQaX21, blk, eds_length, eds_get, edsAt, edAV, allLeaf_eds, cleanL_eds, cleanL_ints, ints_length, ints_get, intsAt, endL, finB]
theorem dgr_le {N : Nat} {Es : List Ed} : ∀ d ∈ dgs N Es, 0 <= d /\ d <= (N : Int) := by
 intro d hd
 unfold dgs at hd
 obtain ⟨u, _, rfl⟩ := List.mem_map.1 hd
 have : dgr N Es u <= sm N fun _ => 1 := sm_le fun w _ => by unfold ad; split <;> omega
 rw [sm_one] at this
 omega
theorem realises_run (raw l : List Int) (hl : l.length <= 9223372036854775807) : callL cfgS nQa [.list 1 (ints raw), .list 1 (ints l)] [] = some (.bool true, []) := by
 rw [callL_end oQa sQa (Nat.le_of_ble_eq_true rfl)]
 have aw := awake09
 by_cases hr : 70 < raw.length
 ·have c1 : 70 < (raw.length : Int) := by omega
  unfold qQa cQa
  simp [rQaX0, rQaX1, rQaX2, rQaX3, rQaX4, rQaX5, rQaX6, rQaX7, rQaX8, rQaX9, rQaX10, rQaX11, rQaX12, rQaX13, rQaX14, rQaX15, rQaX16, rQaX17, rQaX18, rQaX19, rQaX20, rQaX21, c1, aw, ints_length, sQd, iQd, endL, finB]
 have c1 : ¬ 70 < (raw.length : Int) := by omega
 have nw := new_run l
 obtain ⟨N, Es, a, gr, hG, hN, hE⟩ := graph_run l hl 9 (by omega) 0
 have rd := refdeg_run hG (by omega)
 have hXl := dgs_len N Es
 have nx0 := next_run l hl a (N : Int) (by omega) [] restN
 have hXb := dgr_le (N := N) (Es := Es)
 obtain ⟨ro, hro⟩ := rz_graph hG (y := dgs N Es) (.refl _)
 have gx := graphic_run (dgs N Es)
 unfold grV at gx
 rw [hro, decide_eq_true (by rw [hXl]; omega)] at gx
 simp only [Option.isSome_some, Bool.and_self] at gx
 generalize dgs N Es = X at *
 generalize eds Es = E at *
 unfold dk at *
 rw [nat0] at nw gr
 rw [show ((9 : Nat) : Int) = 9 from rfl] at gr
 have tk : (ints X).take N = ints X := by rw [ints_take, List.take_of_length_le (by omega)]
 have L1 : N <= 4294967296 := by omega
 by_cases h0 : N = 0
 ·subst h0
  obtain rfl := List.eq_nil_of_length_eq_zero hXl
  have nx1 := next_run l hl a 9 (by omega) [] restN
  obtain ⟨b0, b1⟩ := nxV_bd l a (n := 9) (by omega)
  obtain ⟨n, hn⟩ : ∃ n : Nat, nxV l a 9 = (n : Int) := ⟨(nxV l a 9).toNat, by omega⟩
  rw [hn] at nx1 b1
  obtain ⟨S, a2, hS, lp⟩ := s0_loop l hl raw [] [] n (nxA l a 9) [] (by omega) (by simp; omega)
  unfold s0St dk at lp
  unfold dk at nx1
  rw [ints_nil] at lp rd tk
  rw [nat0] at rd lp
  have lp2 := x1_loop [] [[], [], S, raw] rfl
  unfold x1St lz at lp2
  simp only [List.map_cons, List.map_nil, ints_nil] at lp2
  rw [nat0] at lp2
  rw [ints_nil] at gx
  have tS : (ints S).take S.length = ints S := by rw [ints_take, List.take_length]
  unfold qQa cQa
  simp [rQaX0, rQaX1, rQaX2, rQaX3, rQaX4, rQaX5, rQaX6, rQaX7, rQaX8, rQaX9, rQaX10, rQaX11, rQaX12, rQaX13, rQaX14, rQaX15, rQaX16, rQaX17, rQaX18, rQaX19, rQaX20, rQaX21, c1, nw, gr, rd, nx1, lp, lp2, gx, aw, tk, tS, L1, nat0, LIM, blk, ints_nil, ints_length, ints_take, endL, finB, plL, pl, plp, plpL, allB, notBox, swC, swS, seesC, inBox, nle1, sQg, iQg, sQf, iQf, sQi, iQi, sQk, iQk, sQc, iQc, sQd, iQd]
 ·have p0 : 0 < N := by omega
  have p0' : (1 : Int) <= N := by omega
  obtain ⟨i0, i1⟩ := nxV_bd l a (n := (N : Int)) p0'
  obtain ⟨i, hi⟩ : ∃ i : Nat, nxV l a (N : Int) = (i : Int) := ⟨(nxV l a (N : Int)).toNat, by omega⟩
  rw [hi] at nx0 i1
  generalize nxA l a (N : Int) = a1 at *
  have nx1 := next_run l hl a1 5 (by omega) [] restN
  obtain ⟨z0, z1⟩ := nxV_bd l a1 (n := 5) (by omega)
  generalize nxV l a1 5 = z at *
  generalize nxA l a1 5 = a2 at *
  have nx2 := next_run l hl a2 9 (by omega) [] restN
  obtain ⟨b0, b1⟩ := nxV_bd l a2 (n := 9) (by omega)
  obtain ⟨n, hn⟩ : ∃ n : Nat, nxV l a2 9 = (n : Int) := ⟨(nxV l a2 9).toNat, by omega⟩
  rw [hn] at nx2 b1
  have j1 : i < X.length := by omega
  have j2 : (i : Int) < X.length := by omega
  have jN : i < N := by omega
  have gI : ∀ h, (ints X)[i]'h = .int .i64 X[i] := fun h => by simp [ints]
  have hx := hXb X[i] (List.getElem_mem j1)
  have w1 : IntKind.i64.wrap (z - 2) = z - 2 := wrap_id (by omega) (by omega)
  have w2 : IntKind.i64.wrap (X[i] + (z - 2)) = X[i] + (z - 2) := wrap_id (by omega) (by omega)
  have sx : (ints X).set i (.int .i64 (X[i] + (z - 2))) = ints (X.set i (X[i] + (z - 2))) := by simp [ints]
  obtain ⟨S, a3, hS, lp⟩ := s0_loop l hl raw X (X.set i (X[i] + (z - 2))) n (nxA l a2 9) [] (by omega) (by simp; omega)
  have lp2 := x1_loop X [X, X.set i (X[i] + (z - 2)), S, raw] rfl
  have ly : (X.set i (X[i] + (z - 2))).length = N := by rw [List.length_set, hXl]
  generalize X.set i (X[i] + (z - 2)) = Y at *
  unfold s0St dk at lp
  unfold dk at nx1 nx2
  unfold x1St lz at lp2
  simp only [List.map_cons, List.map_nil] at lp2
  rw [ints_nil] at lp
  rw [nat0] at lp lp2
  have tY : (ints Y).take N = ints Y := by rw [ints_take, List.take_of_length_le (by omega)]
  have tS : (ints S).take S.length = ints S := by rw [ints_take, List.take_length]
  unfold qQa cQa
  simp [rQaX0, rQaX1, rQaX2, rQaX3, rQaX4, rQaX5, rQaX6, rQaX7, rQaX8, rQaX9, rQaX10, rQaX11, rQaX12, rQaX13, rQaX14, rQaX15, rQaX16, rQaX17, rQaX18, rQaX19, rQaX20, rQaX21, c1, p0, nw, gr, rd, nx0, nx1, nx2, i1, j1, j2, jN, gI, w1, w2, sx, hi, hn, lp, lp2, gx, aw, hXl, ly, tk, tY, tS, L1, LIM, idx, blk, ints_nil, ints_length, ints_take, endL, finB, plL, pl, plp, plpL, allB, notBox, swC, swS, seesC, inBox, nle1, sQg, iQg, sQf, iQf, sQi, iQi, sQk, iQk, sQc, iQc, sQd, iQd]
theorem row_len {k : IntKind} {w : World} {a : Option Addr} {len cap : Nat} {zs : List Int} (h : IsRow k w a len cap zs) : (zs.take len).length <= 9223372036854775807 := by
 rcases h with ⟨_, rfl, _, rfl⟩ | ⟨_, _, h1, h2, _⟩
 ·simp
 ·rw [List.length_take]
  have : cap <= 9223372036854775807 := h2
  omega
end Go.BmP
