/- The bits that the walk of biclique compares: plain facts. -/
import Derived.Test.YtikffbngaolphaaDoorEachL
set_option linter.unusedVariables false
set_option linter.unusedSimpArgs false
namespace Go.BmP
open Go.Am Go.Bm
theorem bitL_nil {m : Nat} (h : m < 18446744073709551616) : bitL m = [] ↔ m = 0 := by
  constructor
  · intro e
    by_cases h0 : m = 0
    · exact h0
    · rw [bitL_step h0 h] at e; cases e
  · rintro rfl; exact bitL_zero
theorem bitL_inj {m n : Nat} (h : m < 18446744073709551616) (k : n < 18446744073709551616) (e : bitL m = bitL n) : m = n := by
  apply Nat.eq_of_testBit_eq
  intro j
  by_cases hj : j < 64
  · have a : ∀ m : Nat, m.testBit j = decide ((j : Int) ∈ bitL m) := fun m => by
      rw [Bool.eq_iff_iff, decide_eq_true_eq, bitL_mem]
      constructor
      · intro h; exact ⟨j, rfl, hj, h⟩
      · rintro ⟨i, e, _, h⟩
        rwa [show j = i by omega]
    rw [a, a, e]
  · have p : 2 ^ 64 ≤ 2 ^ j := Nat.pow_le_pow_right (by decide) (by omega)
    rw [Nat.testBit_lt_two_pow (by omega), Nat.testBit_lt_two_pow (by omega)]
theorem bOK_bd {N : Nat} {Es : List Ed} {L : List Int} (h : BOK N Es L) {S : List Int} (hS : ∀ x ∈ S, x ∈ L) : ∀ v ∈ S, 0 ≤ v ∧ v < 64 := fun v hv => by
  have := h.l.2 v (hS v hv); have := h.n; omega
theorem up_len {P : List Int} (hu : Up P) (hb : ∀ v ∈ P, 0 ≤ v ∧ v < 64) : P.length ≤ 64 := by
  have := bitL_len (msk P)
  rwa [bitL_msk hu hb] at this
theorem msk_snoc (P : List Int) (v : Int) : msk (P ++ [v]) = msk P ||| 2 ^ v.toNat := by simp [msk, mskF]
theorem cR_snoc {N : Nat} {Es : List Ed} {L P : List Int} {v : Int} (h : BOK N Es L) (hu : Up (P ++ [v])) (hS : ∀ x ∈ P ++ [v], x ∈ L) : cR N Es L (P ++ [v]) = cR N Es L P &&& (adjE N Es).getD v.toNat 0 := by
  have hP : Up P := (List.pairwise_append.1 hu).1
  unfold cR
  rw [bitL_msk hu (bOK_bd h hS), bitL_msk hP (bOK_bd h fun x hx => hS x (by simp [hx]))]
  simp [comL]
theorem cR_nil (N : Nat) (Es : List Ed) (L : List Int) : cR N Es L [] = rgt N L := by
  unfold cR
  rw [show msk [] = 0 from rfl, bitL_zero]
  rfl
theorem nonE_iff {N : Nat} {Es : List Ed} {L S : List Int} : nonE N Es L S = true ↔ cR N Es L S ≠ 0 := by
  have := bitL_nil (cR_lt N Es L S)
  simp only [nonE, Bool.not_eq_true', List.isEmpty_eq_false_iff, clR, ne_eq, this]
theorem sub_clL {N : Nat} {Es : List Ed} {L S : List Int} (h : BOK N Es L) (hu : Up S) (hS : ∀ x ∈ S, x ∈ L) : ∀ x ∈ S, x ∈ clL N Es L S := fun x hx => cl_sub h hu hS x hx
theorem low_iff {w : Nat} {P : List Int} {v : Int} (hv : 0 ≤ v ∧ v < 64) (hP : ∀ x ∈ P, 0 ≤ x ∧ x < 64) (hs : ∀ x ∈ P, x ∈ bitL w) : w &&& (2 ^ v.toNat - 1) = msk (P ++ [v]) &&& (2 ^ v.toNat - 1) ↔ ((bitL w).all fun x => decide (v ≤ x) || decide (x ∈ P)) = true := by
  have hb : ∀ x ∈ P ++ [v], 0 ≤ x := fun x hx => by
    rcases List.mem_append.1 hx with k | k
    · exact (hP x k).1
    · simp at k; omega
  rw [List.all_eq_true]
  constructor
  · intro e x hx
    obtain ⟨j, rfl, h1, h2⟩ := bitL_mem.1 hx
    rw [Bool.or_eq_true, decide_eq_true_eq, decide_eq_true_eq]
    by_cases k : v ≤ (j : Int)
    · exact .inl k
    · right
      have e2 := congrArg (fun n => n.testBit j) e
      simp only [Nat.testBit_and, h2, Nat.testBit_two_pow_sub_one, show j < v.toNat by omega, decide_true, Bool.and_true] at e2
      rw [msk_bit hb] at e2
      have e3 := of_decide_eq_true e2.symm
      rcases List.mem_append.1 e3 with q | q
      · exact q
      · simp at q; omega
  · intro k
    apply Nat.eq_of_testBit_eq
    intro j
    simp only [Nat.testBit_and, Nat.testBit_two_pow_sub_one]
    by_cases hj : j < v.toNat
    · simp only [hj, decide_true, Bool.and_true]
      rw [msk_bit hb, Bool.eq_iff_iff, decide_eq_true_eq]
      constructor
      · intro h2
        have := k j (bitL_mem.2 ⟨j, rfl, by omega, h2⟩)
        rw [Bool.or_eq_true, decide_eq_true_eq, decide_eq_true_eq] at this
        rcases this with q | q
        · omega
        · simp [q]
      · intro h2
        rcases List.mem_append.1 h2 with q | q
        · obtain ⟨i, e, _, h3⟩ := bitL_mem.1 (hs _ q)
          rwa [show j = i by omega]
        · simp at q; omega
    · simp [hj]
/-- Whether the walk goes on, by bits. -/
theorem goes_bits {N : Nat} {Es : List Ed} {L P : List Int} {v : Int} (h : BOK N Es L) (hu : Up (P ++ [v])) (hS : ∀ x ∈ P ++ [v], x ∈ L) : goesE (clL N Es L) (nonE N Es L) P v = (decide (cR N Es L (P ++ [v]) ≠ 0) && decide (cL N Es L (cR N Es L (P ++ [v])) &&& (2 ^ v.toNat - 1) = msk (P ++ [v]) &&& (2 ^ v.toNat - 1))) := by
  have hb := bOK_bd h hS
  have l := low_iff (w := cL N Es L (cR N Es L (P ++ [v]))) (P := P) (v := v) (hb v (by simp)) (fun x hx => hb x (by simp [hx])) (fun x hx => sub_clL h hu hS x (by simp [hx]))
  unfold goesE
  rw [Bool.eq_iff_iff, Bool.and_eq_true, Bool.and_eq_true, decide_eq_true_eq, decide_eq_true_eq, l, nonE_iff]
  rfl
theorem closed_bits {N : Nat} {Es : List Ed} {L P : List Int} (h : BOK N Es L) (hu : Up P) (hS : ∀ x ∈ P, x ∈ L) : clL N Es L P = P ↔ cL N Es L (cR N Es L P) = msk P := by
  have hb := bOK_bd h hS
  constructor
  · intro e
    refine bitL_inj (cL_lt h _) (msk_lt fun v hv => (hb v hv).2) ?_
    rw [bitL_msk hu hb]
    exact e
  · intro e
    unfold clL
    rw [e, bitL_msk hu hb]
/-- The bits up to the last of a list. -/
def bh (P : List Int) : Nat := match P.getLast? with
  | none => 0
  | some v => 2 ^ (v.toNat + 1) - 1
theorem bh_nil : bh [] = 0 := rfl
theorem bh_snoc (P : List Int) (v : Int) : bh (P ++ [v]) = 2 ^ (v.toNat + 1) - 1 := by simp [bh]
theorem bh_lt {P : List Int} (h : ∀ v ∈ P, v < 64) : bh P < 18446744073709551616 := by
  unfold bh
  split
  · decide
  · rename_i v hv
    have := h v (List.mem_of_getLast? hv)
    have : 2 ^ (v.toNat + 1) ≤ 2 ^ 64 := Nat.pow_le_pow_right (by decide) (by omega)
    omega
/-- The nodes of L behind P. -/
def cand (L P : List Int) : List Int := bitL (msk L &&& (18446744073709551615 - bh P))
theorem not_bit (b j : Nat) (h : b < 18446744073709551616) : (18446744073709551615 - b).testBit j = (decide (j < 64) && !b.testBit j) := by
  rw [show 18446744073709551615 - b = 2 ^ 64 - (b + 1) by omega, Nat.testBit_two_pow_sub_succ (by omega)]
theorem cand_nil {L : List Int} (hu : Up L) (hb : ∀ v ∈ L, 0 ≤ v ∧ v < 64) : cand L [] = L := by
  have : msk L &&& 18446744073709551615 = msk L := by
    have h := msk_lt fun v hv => (hb v hv).2
    rw [show (18446744073709551615 : Nat) = 2 ^ 64 - 1 by decide, Nat.and_two_pow_sub_one_eq_mod]
    exact Nat.mod_eq_of_lt h
  unfold cand
  rw [bh_nil, Nat.sub_zero, this, bitL_msk hu hb]
theorem cand_snoc {L pre C P : List Int} {v : Int} (hu : Up L) (hb : ∀ v ∈ L, 0 ≤ v ∧ v < 64) (e : L = pre ++ v :: C) : cand L (P ++ [v]) = C := by
  have hv := hb v (by simp [e])
  have hu' : Up (pre ++ v :: C) := e ▸ hu
  have hC : Up C := (List.pairwise_cons.1 (List.pairwise_append.1 hu').2.1).2
  have hlt : 2 ^ (v.toNat + 1) - 1 < 18446744073709551616 := by
    have : 2 ^ (v.toNat + 1) ≤ 2 ^ 64 := Nat.pow_le_pow_right (by decide) (by omega)
    omega
  unfold cand
  rw [bh_snoc]
  refine up_ext (bitL_up _) hC fun x => ?_
  rw [bitL_mem]
  simp only [Nat.testBit_and, not_bit _ _ hlt, Nat.testBit_two_pow_sub_one, msk_bit (fun x hx => (hb x hx).1), Bool.and_eq_true, decide_eq_true_eq, Bool.not_eq_true', decide_eq_false_iff_not]
  constructor
  · rintro ⟨j, rfl, h1, h2, _, h3⟩
    rw [e] at h2
    rcases List.mem_append.1 h2 with k | k
    · have := (List.pairwise_append.1 hu').2.2 _ k v (by simp)
      omega
    · rcases List.mem_cons.1 k with k | k
      · omega
      · exact k
  · intro hx
    have hxL : x ∈ L := by rw [e]; simp [hx]
    have b := hb x hxL
    have := (List.pairwise_cons.1 (List.pairwise_append.1 hu').2.1).1 x hx
    refine ⟨x.toNat, by omega, by omega, ?_, by omega, by omega⟩
    rwa [show ((x.toNat : Nat) : Int) = x by omega]
#print axioms goes_bits
#print axioms cand_snoc
end Go.BmP
