/- The histogram that ref09 counts, and both where the graph is refused. -/
import Derived.Test.YtegmpkeejgflnaaUseM
import Derived.Test.YtegmpkeejgflnaaDgS
set_option linter.unusedSimpArgs false
set_option linter.unusedVariables false
set_option maxRecDepth 100000
set_option maxHeartbeats 8000000
namespace Go.BmP
open Go.Am Go.Bm
theorem histE_run (n : Int) (Fs : List Ed) (hE : Fs.length < 1000000) (e : Int) (he : chkG n Fs = e) (h0 : e ≠ 0) : callL cfgS nQi [.agg [.int .i64 n, .list 2 (eds Fs)]] [] = some (.tup [.list 1 [], .int .i64 e], []) := by
 rw [callL_end oQi sQi (Nat.le_of_ble_eq_true rfl)]
 have d := pdegE_run n Fs hE e he h0 [gBl n Fs] (.inr rfl)
 unfold gBl at d
 unfold qQi cQi
 simp [rQiX0, rQiX1, rQiX2, rQiX3, rQiX4, rQiX5, rQiX6, rQiX7, rQiX8, rQiX9, rQiX10, d, h0, blk, endL, finB, plp, plpL, plL, pl, sQe, iQe, lQe, allB, notBox, swC, swS, seesC, inBox, offBoxes, offLab, calmB, ptrs, ptrsL, blkE, avE, avLE]
theorem rhistE_run (n : Int) (Fs : List Ed) (hE : Fs.length < 1000000) (e : Int) (he : chkG n Fs = e) (h0 : e ≠ 0) : callL cfgS nQj [.agg [.int .i64 n, .list 2 (eds Fs)]] [] = some (.tup [.list 1 [], .int .i64 e], []) := by
 rw [callL_end oQj sQj (Nat.le_of_ble_eq_true rfl)]
 have d := rdegE_run n Fs hE e he h0
 unfold qQj cQj
 simp [rQjX0, rQjX1, rQjX2, rQjX3, rQjX4, rQjX5, rQjX6, rQjX7, rQjX8, rQjX9, rQjX10, d, h0, blk, endL, finB, plp, plpL, plL, pl, sQf, iQf, lQf]
theorem rh_round (K : Nat) (hK : K < 1000) (D : List Int) (hD : D.length < 1000000) (hb : ∀ x ∈ D, 0 <= x /\ x < (K : Int)) (i : Nat) (hi : i < D.length) : codeL cfgS 0 lQjX0 ⟨[(6, .own 1 (ints (hs K (D.take i)))), (28, .list 1 (ints D)), (29, .int .i64 D.length), (30, .int .i64 i)], []⟩ = some (.normal, ⟨[(6, .own 1 (ints (hs K (D.take (i + 1))))), (28, .list 1 (ints D)), (29, .int .i64 D.length), (30, .int .i64 ((i + 1 : Nat) : Int))], []⟩) := by
 have i1 : (i : Int) < D.length := by omega
 have w := wrapS (i := i) (by omega)
 obtain ⟨h0, h1⟩ := hb D[i] (List.getElem_mem hi)
 obtain ⟨x, hx⟩ : ∃ x : Nat, D[i] = (x : Int) := ⟨D[i].toNat, by omega⟩
 have lc := hs_len K (D.take i)
 have x2 : x < K := by omega
 have x1 : (x : Int) < K := by omega
 have g3 : (hs K (D.take i))[x]? = some (((D.take i).count (x : Int) : Nat) : Int) := by
  rw [List.getElem?_eq_getElem (by omega), hs_get]
 have e : hs K (D.take (i + 1)) = (hs K (D.take i)).set x ((((D.take i).count (x : Int) : Nat) : Int) + 1) := by
  rw [List.take_succ_eq_append_getElem hi, hx]
  have h := hs_snoc K (D.take i) x (by omega)
  rw [hs_get] at h
  exact h
 have cl : ((D.take i).count (x : Int)) <= (D.take i).length := List.count_le_length
 rw [List.length_take] at cl
 rw [e, ints_set]
 have w2 : IntKind.i64.wrap ((((D.take i).count (x : Int) : Nat) : Int) + 1) = (((D.take i).count (x : Int) : Nat) : Int) + 1 := wrap_id (by omega) (by omega)
 generalize (((D.take i).count (x : Int) : Nat) : Int) = c at *
 generalize hs K (D.take i) = C at *
 have g : (ints C)[x]? = some (.int .i64 c) := by rw [ints_get, g3]; rfl
 have g2 : (ints D)[i]? = some (.int .i64 x) := by rw [ints_get, List.getElem?_eq_getElem hi, hx]; rfl
 have l2 : (ints C).length = K := by rw [ints_length, lc]
 have l1 : (ints D).length = D.length := ints_length D
 have ga : ∀ h : x < (ints C).length, (ints C)[x]'h = .int .i64 c := fun h => by rw [List.getElem?_eq_getElem h] at g; exact Option.some.inj g
 have gb : ∀ h : i < (ints D).length, (ints D)[i]'h = .int .i64 x := fun h => by rw [List.getElem?_eq_getElem h] at g2; exact Option.some.inj g2
 have x5 : x < (ints C).length := by omega
 have dx : (ints C).drop x = .int .i64 c :: (ints C).drop (x + 1) := by rw [List.drop_eq_getElem_cons x5, ga]
 have sx : (ints C).take x ++ .int .i64 (c + 1) :: (ints C).drop (x + 1) = (ints C).set x (.int .i64 (c + 1)) := by
  rw [List.set_eq_take_append_cons_drop, if_pos x5]
 clear e hb
 generalize ints C = C1 at *
 generalize ints D = D1 at *
 unfold lQjX0
 simp [rQjX0, rQjX1, rQjX2, rQjX3, rQjX4, rQjX5, rQjX6, rQjX7, rQjX8, rQjX9, rQjX10, i1, hi, w, w2, x1, x2, dx, sx, ga, gb, g, g2, l1, l2, idx, blk]
theorem rh_loop (K : Nat) (hK : K < 1000) (D : List Int) (hD : D.length < 1000000) (hb : ∀ x ∈ D, 0 <= x /\ x < (K : Int)) : ∀ n i : Nat, i + n = D.length -> codeL cfgS 0 (.loop lQjX0) ⟨[(6, .own 1 (ints (hs K (D.take i)))), (28, .list 1 (ints D)), (29, .int .i64 D.length), (30, .int .i64 i)], []⟩ = some (.exit 0, ⟨[(6, .own 1 (ints (hs K D))), (28, .list 1 (ints D)), (29, .int .i64 D.length), (30, .int .i64 D.length), (31, .bool false)], []⟩)
 | 0, i, h => by
   have e : i = D.length := by omega
   rw [e, List.take_length]
   refine loop_exit ?_
   unfold lQjX0
   generalize ints D = D1
   generalize ints (hs K D) = C1
   simp [rQjX0, rQjX1, rQjX2, rQjX3, rQjX4, rQjX5, rQjX6, rQjX7, rQjX8, rQjX9, rQjX10, blk]
 | n + 1, i, h => (loop_next (rh_round K hK D hD hb i (by omega))).trans (rh_loop K hK D hD hb n (i + 1) (by omega))
theorem isort_top (x : Int) (L : List Int) : ∃ R, (isort (x :: L)).reverse = mxL x L :: R := by
 have p : ((isort (x :: L)).reverse).Perm (x :: L) := (isort (x :: L)).reverse_perm.trans (isort_perm _)
 have d : ((isort (x :: L)).reverse).Pairwise (· ≥ ·) := List.pairwise_reverse.2 (isort_asc _)
 generalize (isort (x :: L)).reverse = S at *
 cases S with
 | nil => have := p.length_eq; simp at this
 | cons y R =>
   obtain ⟨a, b, c⟩ := mxL_ge L x
   rw [List.pairwise_cons] at d
   have h1 : y ∈ x :: L := p.mem_iff.1 List.mem_cons_self
   have h2 : mxL x L ∈ y :: R := p.mem_iff.2 (c.elim (fun c => by rw [c]; exact List.mem_cons_self) (fun c => List.mem_cons_of_mem _ c))
   have h3 : y <= mxL x L := by
    rcases List.mem_cons.1 h1 with rfl | q
    ·exact a
    ·exact b y q
   have h4 : mxL x L <= y := by
    rcases List.mem_cons.1 h2 with q | q
    ·omega
    ·have := d.1 _ q; omega
   exact ⟨R, by rw [show y = mxL x L by omega]⟩
theorem rhist_run {N : Nat} {Es : List Ed} (hG : GOK (N : Int) Es) (hE : Es.length < 1000000) : callL cfgS nQj [.agg [.int .i64 N, .list 2 (eds Es)]] [] = some (.tup [.list 1 (ints (hist (dgA N Es))), .int .i64 0], []) := by
 rw [callL_end oQj sQj (Nat.le_of_ble_eq_true rfl)]
 have hN := hG.1.2
 have d := rdegN_run hG hE
 have ld := dgA_len hG
 have bd := dgA_bd hG
 have f := fall_run (dgA N Es) (by omega)
 have lg : (ints (dgA N Es)).length = N := by rw [ints_length, ld]
 generalize dgA N Es = D at *
 cases D with
 | nil =>
   unfold qQj cQj
   rw [ints_nil] at *
   show _ = some (AV.tup [.list 1 [], .int .i64 0], [])
   simp [rQjX0, rQjX1, rQjX2, rQjX3, rQjX4, rQjX5, rQjX6, rQjX7, rQjX8, rQjX9, rQjX10, d, blk, endL, finB, plp, plpL, plL, pl, sQf, iQf, lQf]
 | cons x L =>
   obtain ⟨R, hR⟩ := isort_top x L
   rw [hR, show ints (mxL x L :: R) = .int .i64 (mxL x L) :: ints R from rfl] at f
   have pr := plL_ints R
   have m3 := mxL_ge L x
   have b0 := bd x List.mem_cons_self
   have b1 : mxL x L < 64 /\ 0 <= mxL x L := by
    rcases m3.2.2 with q | q
    ·rw [q]; omega
    ·have := bd _ (List.mem_cons_of_mem _ q); omega
   obtain ⟨m, hm⟩ : ∃ m : Nat, mxL x L = (m : Int) := ⟨(mxL x L).toNat, by omega⟩
   have hh : hist (x :: L) = hs (m + 1) (x :: L) := by show hs ((mxL x L).toNat + 1) (x :: L) = _; rw [hm]; rfl
   have lp := rh_loop (m + 1) (by omega) (x :: L) (by omega) (fun y hy => by
    have := bd y hy
    rcases List.mem_cons.1 hy with rfl | q
    ·omega
    ·have := m3.2.1 y q; omega) (x :: L).length 0 (by omega)
   rw [List.take_zero, nat0, ld, hs_zero] at lp
   rw [hh]
   rw [hm] at f
   have w : IntKind.i64.wrap ((m : Int) + 1) = ((m + 1 : Nat) : Int) := by rw [wrap_id (by omega) (by omega)]; omega
   have rp : ints (List.replicate (m + 1) 0) = List.replicate (m + 1) (.int .i64 0) := by unfold ints; rw [List.map_replicate]
   rw [rp] at lp
   have h0 : ¬ N = 0 := by simp at ld; omega
   have k3 : (ints (hs (m + 1) (x :: L))).length = m + 1 := by rw [ints_length, hs_len]
   obtain ⟨c1, c2, c3, c4, c5, c6, c7, c8, c9, ca, cb⟩ := lf_ints (hs (m + 1) (x :: L))
   have t3 : (ints (hs (m + 1) (x :: L))).take (m + 1) = ints (hs (m + 1) (x :: L)) := List.take_of_length_le (by omega)
   generalize ints (hs (m + 1) (x :: L)) = H3 at *
   generalize ints (x :: L) = H1 at *
   have m1 : m + 1 <= LIM := by unfold LIM; omega
   clear bd m3 hR hm hh b0 b1 rp ld
   generalize m + 1 = K at *
   unfold qQj cQj
   simp [rQjX0, rQjX1, rQjX2, rQjX3, rQjX4, rQjX5, rQjX6, rQjX7, rQjX8, rQjX9, rQjX10, d, f, pr, h0, lg, lp, t3, k3, w, m1, c1, c2, c3, c4, c5, c6, c7, c8, c9, ca, cb, idx, blk, endL, finB, plp, plpL, plL, pl, sQf, iQf, lQf, sQw, iQw, lQw]
end Go.BmP
