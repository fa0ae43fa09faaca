/- The histograms of degrees: slices.Max, and how often a degree is met. -/
import Derived.Test.YtegmpkeejgflnaaUseM
import Derived.Test.YtegmpkeejgflnaaDgR
set_option linter.unusedSimpArgs false
set_option linter.unusedVariables false
set_option maxRecDepth 100000
set_option maxHeartbeats 8000000
namespace Go.BmP
open Go.Am Go.Bm
theorem lend_ints (f : Nat -> Rt) : ∀ (l : List Int) (n : Nat), lendC f n (ints l) = ints l
 | [], _ => rfl
 | x :: r, n => by
   show AV.int .i64 x :: lendC f (n + 1) (ints r) = _
   rw [lend_ints f r]; rfl
def hs (k : Nat) (D : List Int) : List Int := (List.range k).map fun (j : Nat) => ((D.count (j : Int) : Nat) : Int)
theorem hs_len (k : Nat) (D : List Int) : (hs k D).length = k := by unfold hs; rw [List.length_map, List.length_range]
theorem hs_get (k : Nat) (D : List Int) (j : Nat) (h : j < (hs k D).length) : (hs k D)[j] = ((D.count (j : Int) : Nat) : Int) := by
 simp only [hs, List.getElem_map, List.getElem_range]
theorem hs_snoc (k : Nat) (D : List Int) (x : Nat) (hx : x < (hs k D).length) : hs k (D ++ [(x : Int)]) = (hs k D).set x ((hs k D)[x] + 1) := by
 refine List.ext_getElem (by rw [List.length_set, hs_len, hs_len]) fun j h1 h2 => ?_
 rw [hs_get, List.getElem_set, List.count_append]
 by_cases e : x = j
 ·subst e
  rw [if_pos rfl, List.count_singleton_self, hs_get]
  omega
 ·rw [if_neg e, List.count_singleton, hs_get]
  have : ((x : Int) == (j : Int)) = false := by rw [beq_eq_false_iff_ne]; omega
  rw [this]
  simp
theorem hs_take {a b : Nat} (h : a <= b) (D : List Int) : (hs b D).take a = hs a D := by
 unfold hs
 rw [<- List.map_take, List.take_range, Nat.min_eq_left h]
theorem hs_zero (k : Nat) : hs k [] = List.replicate k 0 := by
 refine List.ext_getElem (by rw [hs_len, List.length_replicate]) fun j h1 h2 => ?_
 rw [hs_get, List.getElem_replicate]; rfl
theorem ints_set (L : List Int) (i : Nat) (x : Int) : ints (L.set i x) = (ints L).set i (.int .i64 x) := by unfold ints; rw [List.map_set]
def mxL (m : Int) (L : List Int) : Int := L.foldl (fun a b => max a b) m
theorem mxL_ge : ∀ (L : List Int) (m : Int), m <= mxL m L /\ (∀ x ∈ L, x <= mxL m L) /\ (mxL m L = m \/ mxL m L ∈ L)
 | [], m => ⟨Int.le_refl _, fun x h => absurd h List.not_mem_nil, .inl rfl⟩
 | y :: L, m => by
   obtain ⟨a, b, c⟩ := mxL_ge L (max m y)
   change m <= mxL (max m y) L /\ (∀ x ∈ y :: L, x <= mxL (max m y) L) /\ (mxL (max m y) L = m \/ mxL (max m y) L ∈ y :: L)
   refine ⟨by omega, fun x h => ?_, ?_⟩
   ·rcases List.mem_cons.1 h with rfl | h
    ·omega
    ·exact b x h
   ·rcases c with c | c
    ·by_cases q : m <= y
     ·right; rw [c]; rw [Int.max_eq_right q]; exact List.mem_cons_self
     ·left; rw [c]; omega
    ·right; exact List.mem_cons_of_mem _ c
theorem mx_loop (L : List Int) (hL : L.length < 1000000) : ∀ (n i : Nat) (m : Int), i + n = L.length -> codeL cfgS 0 (.loop lQyX0) ⟨[(0, .list 1 (ints L)), (3, .int .i64 m), (4, .int .i64 i)], []⟩ = some (.exit 0, ⟨[(0, .list 1 (ints L)), (3, .int .i64 (mxL m (L.drop i))), (4, .int .i64 L.length), (15, .bool false)], []⟩)
 | 0, i, m, h => by
   have e : i = L.length := by omega
   rw [e, List.drop_length]
   refine loop_exit ?_
   show _ = some (Ex.exit 0, (⟨[(0, .list 1 (ints L)), (3, .int .i64 m), (4, .int .i64 L.length), (15, .bool false)], []⟩ : St))
   unfold lQyX0
   simp [rQyX0, rQyX1, rQyX2, rQyX3, rQyX4, rQyX5, rQyX6, rQyX7, rQyX8, ints_length, blk, eds_length, eds_get, edsAt, edAV, allLeaf_eds, cleanL_eds, cleanL_ints, ints_length, ints_get, intsAt, endL, finB]
 | n + 1, i, m, h => by
   have hi : i < L.length := by omega
   have i1 : (i : Int) < L.length := by omega
   have w := wrapS (i := i) (by omega)
   rw [List.drop_eq_getElem_cons hi]
   have qm : (if m < L[i] then L[i] else m) = max m L[i] := by split <;> omega
   have e : mxL m (L[i] :: L.drop (i + 1)) = mxL (max m L[i]) (L.drop (i + 1)) := rfl
   rw [e]
   refine (loop_next ?_).trans (mx_loop L hL n (i + 1) (max m L[i]) (by omega))
   unfold lQyX0
   simp [rQyX0, rQyX1, rQyX2, rQyX3, rQyX4, rQyX5, rQyX6, rQyX7, rQyX8, ints_length, i1, hi, w, qm, intsAt, idx, blk, eds_length, eds_get, edsAt, edAV, allLeaf_eds, cleanL_eds, cleanL_ints, ints_length, ints_get, intsAt, endL, finB]
theorem max_run (d : Int) (L : List Int) (hL : L.length < 900000) : callL cfgS nQy [.list 1 (ints (d :: L))] [] = some (.int .i64 (mxL d L), []) := by
 rw [callL_end oQy sQy (Nat.le_of_ble_eq_true rfl)]
 have lp := mx_loop (d :: L) (by simp; omega) L.length 1 d (by simp; omega)
 rw [nat1] at lp
 change _ = some (Ex.exit 0, (⟨[(0, .list 1 (ints (d :: L))), (3, .int .i64 (mxL d L)), (4, .int .i64 ((d :: L).length : Nat)), (15, .bool false)], []⟩ : St)) at lp
 have q1 : ¬ (L.length : Int) + 1 < 1 := by omega
 rw [ints_cons] at lp ⊢
 unfold qQy cQy
 simp [rQyX0, rQyX1, rQyX2, rQyX3, rQyX4, rQyX5, rQyX6, rQyX7, rQyX8, lp, q1, ints_length, idx, blk, eds_length, eds_get, edsAt, edAV, allLeaf_eds, cleanL_eds, cleanL_ints, ints_length, ints_get, intsAt, endL, finB]
theorem ph_round (D : List Int) (hD : D.length < 1000000) (hb : ∀ x ∈ D, 0 <= x /\ x < 64) (B : List AV) (i : Nat) (hi : i < D.length) : codeL cfgS 0 lQiX0 ⟨[(4, .sl 1 1 0 D.length), (6, .ptr 2 0), (22, .sl 1 1 0 D.length), (23, .int .i64 D.length), (24, .int .i64 i)], [some B, some (ints D), some (ints (hs 64 (D.take i)))]⟩ = some (.normal, ⟨[(4, .sl 1 1 0 D.length), (6, .ptr 2 0), (22, .sl 1 1 0 D.length), (23, .int .i64 D.length), (24, .int .i64 ((i + 1 : Nat) : Int))], [some B, some (ints D), some (ints (hs 64 (D.take (i + 1))))]⟩) := by
 have i1 : (i : Int) < D.length := by omega
 have w := wrapS (i := i) (by omega)
 obtain ⟨h0, h1⟩ := hb D[i] (List.getElem_mem hi)
 obtain ⟨x, hx⟩ : ∃ x : Nat, D[i] = (x : Int) := ⟨D[i].toNat, by omega⟩
 have lc := hs_len 64 (D.take i)
 have g3 : (hs 64 (D.take i))[x]? = some (((D.take i).count (x : Int) : Nat) : Int) := by
  rw [List.getElem?_eq_getElem (by omega), hs_get]
 have e : hs 64 (D.take (i + 1)) = (hs 64 (D.take i)).set x ((((D.take i).count (x : Int) : Nat) : Int) + 1) := by
  rw [List.take_succ_eq_append_getElem hi, hx]
  have h := hs_snoc 64 (D.take i) x (by omega)
  rw [hs_get] at h
  exact h
 have cl : ((D.take i).count (x : Int)) <= (D.take i).length := List.count_le_length
 rw [List.length_take] at cl
 rw [e, ints_set]
 have x1 : (x : Int) < 64 := by omega
 have x2 : x < 64 := by omega
 have w2 : IntKind.i64.wrap ((((D.take i).count (x : Int) : Nat) : Int) + 1) = (((D.take i).count (x : Int) : Nat) : Int) + 1 := wrap_id (by omega) (by omega)
 generalize (((D.take i).count (x : Int) : Nat) : Int) = c at *
 generalize hs 64 (D.take i) = C at *
 have g : (ints C)[x]? = some (.int .i64 c) := by rw [ints_get, g3]; rfl
 have g2 : (ints D)[i]? = some (.int .i64 x) := by rw [ints_get, List.getElem?_eq_getElem hi, hx]; rfl
 have l2 : (ints C).length = 64 := by rw [ints_length, lc]
 have l1 : (ints D).length = D.length := ints_length D
 have ga : ∀ h : x < (ints C).length, (ints C)[x]'h = .int .i64 c := fun h => by rw [List.getElem?_eq_getElem h] at g; exact Option.some.inj g
 have gb : ∀ h : i < (ints D).length, (ints D)[i]'h = .int .i64 x := fun h => by rw [List.getElem?_eq_getElem h] at g2; exact Option.some.inj g2
 have x4 : x <= 63 := by omega
 have x5 : x < (ints C).length := by omega
 have dx : (ints C).drop x = .int .i64 c :: (ints C).drop (x + 1) := by rw [List.drop_eq_getElem_cons x5, ga]
 have sx : (ints C).take x ++ .int .i64 (c + 1) :: (ints C).drop (x + 1) = (ints C).set x (.int .i64 (c + 1)) := by
  rw [List.set_eq_take_append_cons_drop, if_pos x5]
 have n1 : ∀ f n, lendC f n (ints D) = ints D := fun f n => lend_ints f D n
 have n2 : ∀ f n, lendC f n (ints C) = ints C := fun f n => lend_ints f C n
 clear e hb
 generalize ints C = C1 at *
 generalize ints D = D1 at *
 unfold lQiX0
 simp [rQiX0, rQiX1, rQiX2, rQiX3, rQiX4, rQiX5, rQiX6, rQiX7, rQiX8, rQiX9, rQiX10, i1, hi, w, w2, x1, x2, x4, dx, sx, n1, n2, ga, gb, g, g2, l1, l2, idx, blk]
theorem ph_loop (D : List Int) (hD : D.length < 1000000) (hb : ∀ x ∈ D, 0 <= x /\ x < 64) (B : List AV) : ∀ n i : Nat, i + n = D.length -> codeL cfgS 0 (.loop lQiX0) ⟨[(4, .sl 1 1 0 D.length), (6, .ptr 2 0), (22, .sl 1 1 0 D.length), (23, .int .i64 D.length), (24, .int .i64 i)], [some B, some (ints D), some (ints (hs 64 (D.take i)))]⟩ = some (.exit 0, ⟨[(4, .sl 1 1 0 D.length), (6, .ptr 2 0), (22, .sl 1 1 0 D.length), (23, .int .i64 D.length), (24, .int .i64 D.length), (25, .bool false)], [some B, some (ints D), some (ints (hs 64 D))]⟩)
 | 0, i, h => by
   have e : i = D.length := by omega
   rw [e, List.take_length]
   refine loop_exit ?_
   unfold lQiX0
   generalize ints D = D1
   generalize ints (hs 64 D) = C1
   simp [rQiX0, rQiX1, rQiX2, rQiX3, rQiX4, rQiX5, rQiX6, rQiX7, rQiX8, rQiX9, rQiX10, blk]
 | n + 1, i, h => (loop_next (ph_round D hD hb B i (by omega))).trans (ph_loop D hD hb B n (i + 1) (by omega))
def hist (D : List Int) : List Int := match D with
 | [] => []
 | d :: L => hs ((mxL d L).toNat + 1) D
theorem hist_run {N : Nat} {Es : List Ed} (hG : GOK (N : Int) Es) (hE : Es.length < 1000000) : callL cfgS nQi [.agg [.int .i64 N, .list 2 (eds Es)]] [] = some (.tup [.list 1 (ints (hist (dgA N Es))), .int .i64 0], []) := by
 rw [callL_end oQi sQi (Nat.le_of_ble_eq_true rfl)]
 have hN := hG.1.2
 have d := pdeg_run hG hE [gBl N Es] (.inr rfl)
 have ld := dgA_len hG
 have bd := dgA_bd hG
 unfold dRs dHp gBl at d
 simp only [List.length_nil, List.length_cons, Nat.zero_add, List.cons_append, List.nil_append] at d
 by_cases h0 : N = 0
 ·subst h0
  have hd : dgA 0 Es = [] := List.eq_nil_of_length_eq_zero ld
  rw [if_pos rfl, if_pos rfl] at d
  rw [nat0] at d
  rw [nat0, hd]
  show _ = some (AV.tup [.list 1 [], .int .i64 0], [])
  unfold qQi cQi
  simp [rQiX0, rQiX1, rQiX2, rQiX3, rQiX4, rQiX5, rQiX6, rQiX7, rQiX8, rQiX9, rQiX10, d, blk, endL, finB, plp, plpL, plL, pl, sQe, iQe, lQe, allB, notBox, swC, swS, seesC, inBox, offBoxes, offLab, calmB, ptrs, ptrsL, blkE, avE, avLE]
 ·rw [if_neg h0, if_neg h0] at d
  generalize dgA (N : Nat) Es = D at *
  have lp := ph_loop D (by omega) bd [.int .i64 N, .list 2 (eds Es)] D.length 0 (by omega)
  rw [List.take_zero, nat0, ld] at lp
  have z : ints (hs 64 []) = [.int .i64 0, .int .i64 0, .int .i64 0, .int .i64 0, .int .i64 0, .int .i64 0, .int .i64 0, .int .i64 0, .int .i64 0, .int .i64 0, .int .i64 0, .int .i64 0, .int .i64 0, .int .i64 0, .int .i64 0, .int .i64 0, .int .i64 0, .int .i64 0, .int .i64 0, .int .i64 0, .int .i64 0, .int .i64 0, .int .i64 0, .int .i64 0, .int .i64 0, .int .i64 0, .int .i64 0, .int .i64 0, .int .i64 0, .int .i64 0, .int .i64 0, .int .i64 0, .int .i64 0, .int .i64 0, .int .i64 0, .int .i64 0, .int .i64 0, .int .i64 0, .int .i64 0, .int .i64 0, .int .i64 0, .int .i64 0, .int .i64 0, .int .i64 0, .int .i64 0, .int .i64 0, .int .i64 0, .int .i64 0, .int .i64 0, .int .i64 0, .int .i64 0, .int .i64 0, .int .i64 0, .int .i64 0, .int .i64 0, .int .i64 0, .int .i64 0, .int .i64 0, .int .i64 0, .int .i64 0, .int .i64 0, .int .i64 0, .int .i64 0, .int .i64 0] := by rw [hs_zero]; rfl
  rw [z] at lp
  have ne : ¬ (N : Int) = 0 := by omega
  have mr : callL cfgS nQy [.list 1 (ints D)] [] = some (.int .i64 (((hist D).length : Int) - 1), []) := by
   cases D with
   | nil => exact absurd ld.symm h0
   | cons x L =>
     rw [max_run x L (by simp at ld; omega)]
     have := mxL_ge L x
     have b0 := bd x List.mem_cons_self
     have e : (((hist (x :: L)).length : Int) - 1) = mxL x L := by
      show (((hs ((mxL x L).toNat + 1) (x :: L)).length : Int) - 1) = _
      rw [hs_len]; omega
     rw [e]
  have hl : 0 < (hist D).length /\ (hist D).length <= 64 /\ (hs 64 D).take (hist D).length = hist D := by
   cases D with
   | nil => exact absurd ld.symm h0
   | cons x L =>
     have m3 := (mxL_ge L x).2.2
     have b0 := bd x List.mem_cons_self
     have b1 : mxL x L < 64 /\ 0 <= mxL x L := by
      rcases m3 with q | q
      ·rw [q]; omega
      ·have := bd _ (List.mem_cons_of_mem _ q); omega
     have e : (hist (x :: L)).length = (mxL x L).toNat + 1 := hs_len _ _
     rw [e]
     exact ⟨by omega, by omega, hs_take (by omega) _⟩
  obtain ⟨l1, l2, l3⟩ := hl
  have cl := cloneI_run (hist D) (by omega)
  have tk : (ints (hs 64 D)).take (hist D).length = ints (hist D) := by unfold ints; rw [<- List.map_take, l3]
  obtain ⟨a1, a2, a3, a4, a5, a6, a7, a8, a9, aa, ab⟩ := lf_ints D
  obtain ⟨b1, b2, b3, b4, b5, b6, b7, b8, b9, ba, bb⟩ := lf_ints (hs 64 D)
  obtain ⟨c1, c2, c3, c4, c5, c6, c7, c8, c9, ca, cb⟩ := lf_ints (hist D)
  have t1 : (ints D).take N = ints D := List.take_of_length_le (by rw [ints_length]; omega)
  have k1 : (ints D).length = N := by rw [ints_length, ld]
  have k2 : (ints (hs 64 D)).length = 64 := by rw [ints_length, hs_len]
  have k3 : (ints (hist D)).length = (hist D).length := ints_length _
  have t3 : (ints (hist D)).take (hist D).length = ints (hist D) := List.take_of_length_le (by rw [ints_length]; omega)
  have cc := cleanL_ints (hist D)
  generalize ints (hist D) = H3 at *
  generalize (hist D).length = m at *
  have w : IntKind.i64.wrap (m : Int) = (m : Int) := wrap_id (by omega) (by omega)
  have m1 : (m : Int) <= 64 := by omega
  generalize ints (hs 64 D) = H2 at *
  generalize ints D = H1 at *
  clear bd l3 z
  unfold qQi cQi
  simp [rQiX0, rQiX1, rQiX2, rQiX3, rQiX4, rQiX5, rQiX6, rQiX7, rQiX8, rQiX9, rQiX10, d, h0, ne, lp, mr, cl, tk, t1, t3, k1, k2, k3, w, m1, l1, l2, a1, a2, a3, a4, a5, a6, a7, a8, a9, aa, ab, b1, b2, b3, b4, b5, b6, b7, b8, b9, ba, bb, c1, c2, c3, c4, c5, c6, c7, c8, c9, ca, cb, cc, idx, blk, endL, finB, plp, plpL, plL, pl, sQe, iQe, lQe, sQy, iQy, lQy, sQx, iQx, lQx, allB, notBox, swC, swS, seesC, inBox, offBoxes, offLab, calmB, ptrs, ptrsL, blkE, avE, avLE]
end Go.BmP
