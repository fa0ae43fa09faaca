/- ref09's falling order is the sorted list from behind; ref09.Sequence. -/
import Derived.Test.YtegmpkeejgflnaaUseM
import Derived.Test.YtegmpkeejgflnaaDgM
set_option linter.unusedSimpArgs false
set_option linter.unusedVariables false
set_option maxRecDepth 100000
set_option maxHeartbeats 8000000
namespace Go.BmP
open Go.Am Go.Bm
def posF (x : Int) (out : List Int) : Nat -> Nat
 | 0 => 0
 | k + 1 => if out.getD k 0 < x then posF x out k else k + 1
def insF (out : List Int) (x : Int) : List Int := out.take (posF x out out.length) ++ x :: out.drop (posF x out out.length)
def fall (D : List Int) : List Int := D.foldl insF []
theorem posF_le (x : Int) (out : List Int) : ∀ k, posF x out k <= k
 | 0 => Nat.le_refl 0
 | k + 1 => by
   unfold posF
   have := posF_le x out k
   split <;> omega
theorem posF_hi (x : Int) (out : List Int) : ∀ k j, posF x out k <= j -> j < k -> out.getD j 0 < x
 | 0, j, _, h => by omega
 | k + 1, j, h1, h2 => by
   unfold posF at h1
   split at h1
   ·rename_i q
    by_cases e : j = k
    ·rw [e]; exact q
    ·exact posF_hi x out k j h1 (by omega)
   ·omega
theorem posF_lo (x : Int) (out : List Int) : ∀ k, 0 < posF x out k -> x <= out.getD (posF x out k - 1) 0
 | 0, h => by unfold posF at h; omega
 | k + 1, h => by
   unfold posF at h ⊢
   split
   ·rename_i q
    rw [if_pos q] at h
    exact posF_lo x out k h
   ·rename_i q
    show x <= out.getD k 0
    omega
theorem insF_perm (out : List Int) (x : Int) : (insF out x).Perm (x :: out) := by
 unfold insF
 refine List.perm_middle.trans ?_
 rw [List.take_append_drop]
theorem insF_des {out : List Int} (h : out.Pairwise (· ≥ ·)) (x : Int) : (insF out x).Pairwise (· ≥ ·) := by
 unfold insF
 have hi := posF_hi x out out.length
 have lo := posF_lo x out out.length
 have le := posF_le x out out.length
 generalize posF x out out.length = p at *
 have hp := List.pairwise_iff_getElem.1 h
 have g : ∀ j (hj : j < out.length), out.getD j 0 = out[j] := fun j hj => by rw [List.getD_eq_getElem?_getD, List.getElem?_eq_getElem hj]; rfl
 have A : ∀ a ∈ out.take p, a ≥ x := by
  intro a ha
  obtain ⟨j, hj, rfl⟩ := List.getElem_of_mem ha
  rw [List.length_take] at hj
  rw [List.getElem_take]
  have l0 := lo (by omega)
  rw [g _ (by omega)] at l0
  by_cases e : j = p - 1
  ·subst e; exact l0
  ·have := hp j (p - 1) (by omega) (by omega) (by omega)
   omega
 have B : ∀ b ∈ out.drop p, x ≥ b := by
  intro b hb
  obtain ⟨j, hj, rfl⟩ := List.getElem_of_mem hb
  rw [List.length_drop] at hj
  rw [List.getElem_drop]
  have := hi (p + j) (by omega) (by omega)
  rw [g _ (by omega)] at this
  omega
 rw [List.pairwise_append, List.pairwise_cons]
 refine ⟨h.sublist (List.take_sublist _ _), ⟨B, h.sublist (List.drop_sublist _ _)⟩, ?_⟩
 intro a ha b hb
 rcases List.mem_cons.1 hb with rfl | hb
 ·exact A a ha
 ·have := A a ha; have := B b hb; omega
theorem fallF (D : List Int) : ∀ o : List Int, o.Pairwise (· ≥ ·) -> (D.foldl insF o).Perm (D ++ o) /\ (D.foldl insF o).Pairwise (· ≥ ·) := by
 induction D with
 | nil => exact fun o h => ⟨List.Perm.refl _, h⟩
 | cons x D ih =>
   intro o h
   obtain ⟨a, b⟩ := ih (insF o x) (insF_des h x)
   refine ⟨a.trans (((insF_perm o x).append_left D).trans ?_), b⟩
   exact List.perm_middle
theorem des_uniq : ∀ {a b : List Int}, a.Perm b -> a.Pairwise (· ≥ ·) -> b.Pairwise (· ≥ ·) -> a = b
 | [], b, h, _, _ => (h.nil_eq)
 | x :: a, [], h, _, _ => by have := h.length_eq; simp at this
 | x :: a, y :: b, h, ha, hb => by
   rw [List.pairwise_cons] at ha hb
   have e : x = y := by
    have h1 : y ∈ x :: a := h.mem_iff.2 List.mem_cons_self
    have h2 : x ∈ y :: b := h.mem_iff.1 List.mem_cons_self
    rcases List.mem_cons.1 h1 with q | q
    ·exact q.symm
    ·rcases List.mem_cons.1 h2 with r | r
     ·exact r
     ·have := ha.1 y q; have := hb.1 x r; omega
   subst e
   rw [des_uniq h.cons_inv ha.2 hb.2]
theorem fall_eq (D : List Int) : fall D = (isort D).reverse := by
 obtain ⟨a, b⟩ := fallF D [] List.Pairwise.nil
 rw [List.append_nil] at a
 exact des_uniq (a.trans ((isort_perm D).symm.trans (isort D).reverse_perm.symm)) b (List.pairwise_reverse.2 (isort_asc D))
theorem insF_length (out : List Int) (x : Int) : (insF out x).length = out.length + 1 := (insF_perm out x).length_eq
theorem fa_in (x : Int) (out : List Int) (A B C : AV) (hl : out.length < 1000000) : ∀ k : Nat, k <= out.length -> codeL cfgS 0 (.loop lQwX0) ⟨[(3, .own 1 (ints out)), (5, .int .i64 x), (6, .int .i64 k), (7, A), (8, B), (9, C)], []⟩ = some (.exit 2, ⟨[(3, .own 1 (ints out)), (5, .int .i64 x), (6, .int .i64 (posF x out k : Nat)), (7, A), (8, B), (9, C), (25, .bool false)], []⟩)
 | 0, _ => by
   unfold posF
   exact loop_exit (by unfold lQwX0; simp [rQwX0, rQwX1, rQwX2, rQwX3, rQwX4, rQwX5, rQwX6, rQwX7, rQwX8, rQwX9, rQwX10, nat0, blk, eds_length, eds_get, edsAt, edAV, allLeaf_eds, cleanL_eds, cleanL_ints, ints_length, ints_get, intsAt, endL, finB])
 | k + 1, h => by
   have hk : k < out.length := by omega
   have g : out.getD k 0 = out[k] := by rw [List.getD_eq_getElem?_getD, List.getElem?_eq_getElem hk]; rfl
   have w : IntKind.i64.wrap (((k + 1 : Nat) : Int) - 1) = (k : Int) := by rw [wrap_id (by omega) (by omega)]; omega
   have i1 : (k : Int) < out.length := by omega
   have p1 : (0 : Int) < ((k + 1 : Nat) : Int) := by omega
   have p2 : 0 < k + 1 := by omega
   unfold posF
   rw [g]
   generalize k + 1 = k1 at w p1 p2 ⊢
   by_cases q : out[k] < x
   ·rw [if_pos q]
    refine (loop_next (by unfold lQwX0; simp [rQwX0, rQwX1, rQwX2, rQwX3, rQwX4, rQwX5, rQwX6, rQwX7, rQwX8, rQwX9, rQwX10, w, i1, p1, p2, hk, q, idx, blk, eds_length, eds_get, edsAt, edAV, allLeaf_eds, cleanL_eds, cleanL_ints, ints_length, ints_get, intsAt, endL, finB])).trans (fa_in x out A B C hl k (by omega))
   ·rw [if_neg q]
    exact loop_exit (by unfold lQwX0; simp [rQwX0, rQwX1, rQwX2, rQwX3, rQwX4, rQwX5, rQwX6, rQwX7, rQwX8, rQwX9, rQwX10, w, i1, p1, p2, hk, q, idx, blk, eds_length, eds_get, edsAt, edAV, allLeaf_eds, cleanL_eds, cleanL_ints, ints_length, ints_get, intsAt, endL, finB])
theorem fa_round (D : List Int) (hD : D.length < 1000000) (out : List Int) (hl : out.length < 1000000) (i : Nat) (hi : i < D.length) : codeL cfgS 0 lQwX1 ⟨[(3, .own 1 (ints out)), (7, .list 1 (ints D)), (8, .int .i64 D.length), (9, .int .i64 i)], []⟩ = some (.normal, ⟨[(3, .own 1 (ints (insF out D[i]))), (7, .list 1 (ints D)), (8, .int .i64 D.length), (9, .int .i64 ((i + 1 : Nat) : Int))], []⟩) := by
 have lp := fa_in D[i] out (.list 1 (ints D)) (.int .i64 D.length) (.int .i64 i) hl out.length (Nat.le_refl _)
 have le := posF_le D[i] out out.length
 have i1 : (i : Int) < D.length := by omega
 have w := wrapS (i := i) (by omega)
 have ei : ints (insF out D[i]) = (ints out).take (posF D[i] out out.length) ++ .int .i64 D[i] :: (ints out).drop (posF D[i] out out.length) := by
  unfold insF ints
  rw [List.map_append, List.map_cons, List.map_take, List.map_drop]
 rw [ei]
 generalize posF D[i] out out.length = p at *
 have hp : (p : Int) <= out.length := by omega
 have lo : (ints out).length = out.length := ints_length _
 have l3 : ((ints out).take p).length = p := by rw [List.length_take, lo]; omega
 have l4 : ((ints out).drop p).length = out.length - p := by rw [List.length_drop, lo]
 have t3 : (ints out).take (p + (out.length - p)) = ints out := List.take_of_length_le (by omega)
 have q1 : p + (out.length - p) = out.length := by omega
 have e4 : (ints out).drop p = ints (out.drop p) := by unfold ints; rw [List.map_drop]
 have e3 : (ints out).take p = ints (out.take p) := by unfold ints; rw [List.map_take]
 have t4 : ((ints out).drop p).take (out.length - p) = (ints out).drop p := List.take_of_length_le (by omega)
 have t5 : ((ints out).take p ++ .int .i64 D[i] :: (ints out).drop p).take (p + (out.length - p + 1)) = (ints out).take p ++ .int .i64 D[i] :: (ints out).drop p := List.take_of_length_le (by simp only [List.length_append, List.length_cons]; omega)
 have f4 : flatCells ((ints out).drop p) = (ints out).drop p := by rw [e4]; exact flatCells_ints _
 have f3 : flatCells ((ints out).take p) = (ints out).take p := by rw [e3]; exact flatCells_ints _
 have f5 : flatCells (.int .i64 D[i] :: (ints out).drop p) = .int .i64 D[i] :: (ints out).drop p := by rw [e4]; exact flatCells_ints (D[i] :: out.drop p)
 have a4 : allLeaf ((ints out).drop p) = true := by rw [e4]; exact allLeaf_ints _
 have a3 : allLeaf ((ints out).take p) = true := by rw [e3]; exact allLeaf_ints _
 have b4 : 1 + (out.length - p) <= LIM := by unfold LIM; omega
 have b5 : out.length - p + 1 <= LIM := by unfold LIM; omega
 have b6 : p + (out.length - p + 1) <= LIM := by unfold LIM; omega
 clear e3 e4
 generalize ints out = O at *
 unfold lQwX1
 simp [rQwX0, rQwX1, rQwX2, rQwX3, rQwX4, rQwX5, rQwX6, rQwX7, rQwX8, rQwX9, rQwX10, lp, i1, hi, w, hp, le, lo, l3, l4, t3, q1, t4, t5, f3, f4, f5, a3, a4, b4, b5, b6, allLeaf, AV.leaf, idx, intsAt, ints_length, blk]
theorem fa_loop (D : List Int) (hD : D.length < 1000000) : ∀ (n i : Nat) (out : List Int), i + n = D.length -> out.length = i -> codeL cfgS 0 (.loop lQwX1) ⟨[(3, .own 1 (ints out)), (7, .list 1 (ints D)), (8, .int .i64 D.length), (9, .int .i64 i)], []⟩ = some (.exit 0, ⟨[(3, .own 1 (ints ((D.drop i).foldl insF out))), (7, .list 1 (ints D)), (8, .int .i64 D.length), (9, .int .i64 D.length), (10, .bool false)], []⟩)
 | 0, i, out, h, ho => by
   have e : i = D.length := by omega
   rw [e, List.drop_length]
   refine loop_exit ?_
   show _ = some (Ex.exit 0, (⟨[(3, .own 1 (ints out)), (7, .list 1 (ints D)), (8, .int .i64 D.length), (9, .int .i64 D.length), (10, .bool false)], []⟩ : St))
   unfold lQwX1
   simp [rQwX0, rQwX1, rQwX2, rQwX3, rQwX4, rQwX5, rQwX6, rQwX7, rQwX8, rQwX9, rQwX10, blk, eds_length, eds_get, edsAt, edAV, allLeaf_eds, cleanL_eds, cleanL_ints, ints_length, ints_get, intsAt, endL, finB]
 | n + 1, i, out, h, ho => by
   have hi : i < D.length := by omega
   rw [List.drop_eq_getElem_cons hi, List.foldl_cons]
   exact (loop_next (fa_round D hD out (by omega) i hi)).trans (fa_loop D hD n (i + 1) (insF out D[i]) (by omega) (by rw [insF_length, ho]))
theorem fall_run (D : List Int) (hD : D.length < 1000000) : callL cfgS nQw [.list 1 (ints D)] [] = some (.list 1 (ints (isort D).reverse), []) := by
 rw [callL_end oQw sQw (Nat.le_of_ble_eq_true rfl), <- fall_eq]
 have lp := fa_loop D hD D.length 0 [] (by omega) rfl
 rw [nat0, ints_nil] at lp
 change _ = some (Ex.exit 0, (⟨[(3, .own 1 (ints (fall D))), (7, .list 1 (ints D)), (8, .int .i64 D.length), (9, .int .i64 D.length), (10, .bool false)], []⟩ : St)) at lp
 have hf : (fall D).length = D.length := by rw [fall_eq, List.length_reverse, isort_length]
 obtain ⟨a1, a2, a3, a4, a5, a6, a7, a8, a9, aa, ab⟩ := lf_ints (fall D)
 have tk : (ints (fall D)).take D.length = ints (fall D) := List.take_of_length_le (by rw [ints_length]; omega)
 have ln : (ints (fall D)).length = D.length := by rw [ints_length, hf]
 generalize ints (fall D) = F at *
 unfold qQw cQw
 simp [rQwX0, rQwX1, rQwX2, rQwX3, rQwX4, rQwX5, rQwX6, rQwX7, rQwX8, rQwX9, rQwX10, lp, hf, tk, ln, a1, a2, a3, a4, a5, a8, a9, aa, ab, ints_length, blk, endL, finB, plp, plpL, plL, pl]
theorem rseq_run {N : Nat} {Es : List Ed} (hG : GOK (N : Int) Es) (hE : Es.length < 1000000) : callL cfgS nQh [.agg [.int .i64 N, .list 2 (eds Es)]] [] = some (.tup [.list 1 (ints (isort (dgA N Es)).reverse), .int .i64 0], []) := by
 rw [callL_end oQh sQh (Nat.le_of_ble_eq_true rfl)]
 have hN := hG.1.2
 have ld := dgA_len hG
 have d := rdegN_run hG hE
 have f := fall_run (dgA N Es) (by omega)
 obtain ⟨c1, c2, c3, c4, c5, c6, c7, c8, c9, ca, cb⟩ := lf_ints (isort (dgA N Es)).reverse
 generalize ints (dgA N Es) = D at *
 generalize ints (isort (dgA N Es)).reverse = F at *
 unfold qQh cQh
 simp [rQhX0, rQhX1, rQhX2, d, f, c1, c2, c3, c4, c5, c8, c9, ca, cb, blk, endL, finB, plp, plpL, plL, pl, sQf, iQf, lQf, sQw, iQw, lQw]
theorem rseqE_run (n : Int) (Fs : List Ed) (hE : Fs.length < 1000000) (e : Int) (he : chkG n Fs = e) (h0 : e ≠ 0) : callL cfgS nQh [.agg [.int .i64 n, .list 2 (eds Fs)]] [] = some (.tup [.list 1 [], .int .i64 e], []) := by
 rw [callL_end oQh sQh (Nat.le_of_ble_eq_true rfl)]
 have d := rdegE_run n Fs hE e he h0
 have f := fall_run [] (by simp)
 change callL cfgS nQw [.list 1 []] [] = some (.list 1 [], []) at f
 unfold qQh cQh
 simp [rQhX0, rQhX1, rQhX2, d, f, blk, endL, finB, plp, plpL, plL, pl, sQf, iQf, lQf, sQw, iQw, lQw]
theorem seqE_run (n : Int) (Fs : List Ed) (hE : Fs.length < 1000000) (e : Int) (he : chkG n Fs = e) (h0 : e ≠ 0) : callL cfgS nQg [.agg [.int .i64 n, .list 2 (eds Fs)]] [] = some (.tup [.list 1 [], .int .i64 e], []) := by
 rw [callL_end oQg sQg (Nat.le_of_ble_eq_true rfl)]
 have d := pdegE_run n Fs hE e he h0 [gBl n Fs] (.inr rfl)
 unfold gBl at d
 have s0 : srtG 1 [] [] = some ([], none) := srtG_ints [] (by simp)
 have r0 : rvG 1 [] [] = some ([], none) := rvG_ints [] (by simp)
 unfold qQg cQg
 simp [rQgX0, rQgX1, rQgX2, rQgX3, rQgX4, d, s0, r0, blk, endL, finB, plp, plpL, plL, pl, Bm.inpS, sQe, iQe, lQe, iQu, lQu, iQv, lQv, allB, notBox, swC, swS, seesC, inBox, offBoxes, offLab, calmB, ptrs, ptrsL, blkE, avE, avLE]
end Go.BmP
