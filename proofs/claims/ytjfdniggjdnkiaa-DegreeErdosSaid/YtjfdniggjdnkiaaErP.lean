/- Sorting by exchanges, and the theorem of Erdos and Gallai over sorted numbers. -/
import Derived.Test.YtjfdniggjdnkiaaHhQ
set_option linter.unusedSimpArgs false
set_option linter.unusedVariables false
namespace Go.BmP
open Go.Am Go.Bm
def swD : Nat → List Int → List Int
  | 0, y => y
  | j + 1, y => if h : j + 1 < y.length then (if y[j] < y[j + 1] then swD j ((y.set j y[j + 1]).set (j + 1) y[j]) else y) else y
def srtD : Nat → List Int → List Int
  | 0, x => x
  | i + 1, x => swD i (srtD i x)
theorem swD_spec : ∀ (n : Nat) (A : List Int) (z : Int) (C : List Int), A.length = n → A.Pairwise (fun a b => b ≤ a) → ∃ B, swD n (A ++ z :: C) = B ++ C ∧ B.Perm (A ++ [z]) ∧ B.Pairwise (fun a b => b ≤ a)
  | 0, A, z, C, hA, _ => by
    obtain rfl := List.eq_nil_of_length_eq_zero hA
    exact ⟨[z], rfl, .refl _, by simp⟩
  | n + 1, A, z, C, hA, hp => by
    obtain ⟨A', a, rfl⟩ : ∃ A' a, A = A' ++ [a] := ⟨A.dropLast, A.getLast (by intro e; subst e; simp at hA), (List.dropLast_concat_getLast _).symm⟩
    have hl : A'.length = n := by simpa using hA
    subst hl
    rw [List.pairwise_append] at hp
    obtain ⟨p1, _, p3⟩ := hp
    unfold swD
    have hlt : A'.length + 1 < (A' ++ [a] ++ z :: C).length := by simp
    rw [dif_pos hlt]
    have g1 : (A' ++ [a] ++ z :: C)[A'.length] = a := by simp
    have g2 : (A' ++ [a] ++ z :: C)[A'.length + 1] = z := by
      rw [List.getElem_append_right (by simp)]; simp
    rw [g1, g2]
    by_cases h : a < z
    · rw [if_pos h]
      have e : ((A' ++ [a] ++ z :: C).set A'.length z).set (A'.length + 1) a = A' ++ z :: (a :: C) := by
        rw [List.append_assoc]
        rw [List.set_append_right _ _ (Nat.le_refl _)]
        rw [List.set_append_right _ _ (by omega)]
        simp
      rw [e]
      obtain ⟨B, e1, e2, e3⟩ := swD_spec A'.length A' z (a :: C) rfl p1
      refine ⟨B ++ [a], by rw [e1]; simp, ?_, ?_⟩
      · refine (e2.append_right [a]).trans ?_
        rw [List.append_assoc, List.append_assoc]
        exact .append_left _ (.swap _ _ _)
      · rw [List.pairwise_append]
        refine ⟨e3, by simp, fun b hb c hc => ?_⟩
        simp only [List.mem_singleton] at hc
        subst hc
        rcases List.mem_append.1 (e2.mem_iff.1 hb) with hb | hb
        · exact p3 b hb c (by simp)
        · simp only [List.mem_singleton] at hb; omega
    · rw [if_neg h]
      refine ⟨A' ++ [a] ++ [z], by simp, .refl _, ?_⟩
      rw [List.pairwise_append]
      refine ⟨?_, by simp, fun b hb c hc => ?_⟩
      · rw [List.pairwise_append]
        exact ⟨p1, by simp, p3⟩
      · simp only [List.mem_singleton] at hc
        subst hc
        rcases List.mem_append.1 hb with hb | hb
        · have := p3 b hb a (by simp); omega
        · simp only [List.mem_singleton] at hb; omega
theorem srtD_spec (x : List Int) : ∀ i, i ≤ x.length → ∃ B, srtD i x = B ++ x.drop i ∧ B.Perm (x.take i) ∧ B.Pairwise (fun a b => b ≤ a)
  | 0, _ => ⟨[], rfl, by simp, .nil⟩
  | i + 1, h => by
    obtain ⟨B, e1, e2, e3⟩ := srtD_spec x i (by omega)
    have hlt : i < x.length := by omega
    have ed : x.drop i = x[i] :: x.drop (i + 1) := (List.getElem_cons_drop hlt).symm
    have hB : B.length = i := by rw [e2.length_eq, List.length_take]; omega
    obtain ⟨B', f1, f2, f3⟩ := swD_spec i B x[i] (x.drop (i + 1)) hB e3
    refine ⟨B', by rw [srtD, e1, ed, f1], f2.trans ?_, f3⟩
    rw [List.take_succ_eq_append_getElem hlt]
    exact e2.append_right _
theorem srtD_at (x : List Int) (i : Nat) (h : i < x.length) : (srtD i x)[i]? = some x[i] ∧ (srtD i x).length = x.length := by
  obtain ⟨B, e1, e2, _⟩ := srtD_spec x i (by omega)
  have hB : B.length = i := by rw [e2.length_eq, List.length_take]; omega
  constructor
  · rw [e1, List.getElem?_append_right (by omega), hB, Nat.sub_self, List.getElem?_drop]
    simp [h]
  · rw [e1]; simp; omega
theorem srtD_end (x : List Int) : (srtD x.length x).Perm x ∧ (srtD x.length x).Pairwise (fun a b => b ≤ a) := by
  obtain ⟨B, e1, e2, e3⟩ := srtD_spec x x.length (Nat.le_refl _)
  rw [List.drop_length, List.append_nil] at e1
  rw [List.take_length] at e2
  rw [e1]; exact ⟨e2, e3⟩
/-- What a node with a number can have among k others. -/
def mnk (k d : Int) : Int := if k < d then k else d
def egK (y : List Int) (k : Nat) : Bool := decide (sumI (y.take k) ≤ (k : Int) * ((k : Int) - 1) + sumI ((y.drop k).map (mnk k)))
/-- The first of k rounds. -/
def egs (y : List Int) : Nat → Bool
  | 0 => true
  | k + 1 => egs y k && egK y (k + 1)
theorem egs_all (y : List Int) : ∀ n, egs y n = true ↔ ∀ k, 1 ≤ k → k ≤ n → egK y k = true
  | 0 => ⟨fun _ k h1 h2 => by omega, fun _ => rfl⟩
  | n + 1 => by
    rw [egs, Bool.and_eq_true, egs_all y n]
    constructor
    · rintro ⟨h1, h2⟩ k hk1 hk2
      by_cases e : k = n + 1
      · subst e; exact h2
      · exact h1 k hk1 (by omega)
    · intro h
      exact ⟨fun k h1 h2 => h k h1 (by omega), h _ (by omega) (Nat.le_refl _)⟩
/-- The labels of the condition for the first k. -/
theorem lab2 (k : Int) : ∀ Q : List Int, sL 1 (Q.map fun d => (d, if d < k then 2 else 0)) = 0 ∧ cL' 1 (Q.map fun d => (d, if d < k then 2 else 0)) = 0 ∧
    k * (Q.length - cL' 2 (Q.map fun d => (d, if d < k then 2 else 0))) + sL 2 (Q.map fun d => (d, if d < k then 2 else 0)) = sumI (Q.map (mnk k))
  | [] => by simp [sL, cL', sumI]
  | d :: r => by
    obtain ⟨h1, h2, h3⟩ := lab2 k r
    simp only [List.map_cons, sL, cL', h1, h2, List.length_cons]
    have hs : sumI (mnk k d :: r.map (mnk k)) = mnk k d + sumI (r.map (mnk k)) := rfl
    rw [hs, ← h3]
    by_cases q : d < k
    · have hm : mnk k d = d := by unfold mnk; rw [if_neg (by omega)]
      simp only [q, if_true, hm]
      refine ⟨rfl, rfl, ?_⟩
      rw [show (((r.length + 1 : Nat) : Int) - (1 + cL' 2 (r.map fun d => (d, if d < k then 2 else 0)))) = (r.length : Int) - cL' 2 (r.map fun d => (d, if d < k then 2 else 0)) by omega]
      omega
    · have hm : mnk k d = k := by
        unfold mnk
        by_cases e : k < d
        · rw [if_pos e]
        · rw [if_neg e]; omega
      simp only [q, if_false, hm]
      refine ⟨rfl, rfl, ?_⟩
      simp only [show ¬ (0 : Nat) = 2 by omega, if_false]
      rw [show (((r.length + 1 : Nat) : Int) - (0 + cL' 2 (r.map fun d => (d, if d < k then 2 else 0)))) = ((r.length : Int) - cL' 2 (r.map fun d => (d, if d < k then 2 else 0))) + 1 by omega, Int.mul_add, Int.mul_one]
      omega
theorem eg_of_ff {y : List Int} (hF : FF y) (k : Nat) (h1 : 1 ≤ k) (h2 : k ≤ y.length) : egK y k = true := by
  have h := hF ((y.take k).map (fun d => (d, 1)) ++ (y.drop k).map fun d => (d, if d < (k : Int) then 2 else 0)) (fun x hx => by
    rcases List.mem_append.1 hx with hx | hx
    · exact lab_lt (by omega) _ x hx
    · obtain ⟨d, _, rfl⟩ := List.mem_map.1 hx
      simp only
      split <;> omega) (by
    rw [List.map_append, lab_fst, List.map_map]
    have : (Prod.fst ∘ fun d : Int => (d, if d < (k : Int) then 2 else 0)) = id := rfl
    rw [this, List.map_id, List.take_append_drop])
  obtain ⟨a1, a2, a3⟩ := lab2 k (y.drop k)
  unfold fv at h
  simp only [sL_app, cL_app, (lab_s _ _ _).1, (lab_s _ _ _).2, a1, a2, List.length_append, List.length_map] at h
  simp only [if_true, show ¬ (1 : Nat) = 2 by omega, if_false, Int.zero_add, Int.add_zero] at h
  have el : ((y.take k).length : Int) = k := by rw [List.length_take]; omega
  have ed : ((y.drop k).length : Int) = y.length - k := by rw [List.length_drop]; omega
  unfold egK
  refine decide_eq_true ?_
  rw [← a3]
  generalize hT : cL' 2 ((y.drop k).map fun d => (d, if d < (k : Int) then 2 else 0)) = T at *
  rw [el] at h
  have e3 : (((y.take k).length + (y.drop k).length : Nat) : Int) - 1 - T = ((k : Int) - 1) + (((y.drop k).length : Int) - T) := by omega
  rw [e3, Int.mul_add] at h
  omega
/-- A sum over chosen ones of numbers that fall is at most the sum over the first ones. -/
theorem sum_first {h : Int → Int} (hm : ∀ a b, a ≤ b → h a ≤ h b) : ∀ (L : List (Int × Nat)), (L.map Prod.fst).Pairwise (fun a b => b ≤ a) → ∃ k : Nat, cL' 1 L = k ∧ k ≤ L.length ∧ sumI ((L.filter fun x => x.2 = 1).map fun x => h x.1) ≤ sumI (((L.map Prod.fst).take k).map h)
  | [], _ => ⟨0, rfl, Nat.le_refl _, by simp [sumI]⟩
  | x :: r, hp => by
    obtain ⟨p1, p2⟩ := List.pairwise_cons.1 (show (x.1 :: r.map Prod.fst).Pairwise _ from hp)
    obtain ⟨k, k1, k2, k3⟩ := sum_first hm r p2
    by_cases q : x.2 = 1
    · refine ⟨k + 1, by simp only [cL', q, if_true, k1]; omega, by simpa using k2, ?_⟩
      have e : (x :: r).filter (fun x => x.2 = 1) = x :: r.filter fun x => x.2 = 1 := List.filter_cons_of_pos (by simpa using q)
      rw [e]
      simp only [List.map_cons, List.take_succ_cons, sumI, List.foldr_cons] at k3 ⊢
      omega
    · refine ⟨k, by simp only [cL', q, if_false, k1]; omega, by simp; omega, ?_⟩
      have e : (x :: r).filter (fun x => x.2 = 1) = r.filter fun x => x.2 = 1 := List.filter_cons_of_neg (by simpa using q)
      rw [e]
      refine Int.le_trans k3 ?_
      cases k with
      | zero => simp [sumI]
      | succ k =>
        have hk : k < (r.map Prod.fst).length := by simp; omega
        rw [List.map_cons, List.take_succ_cons, List.take_succ_eq_append_getElem hk, List.map_append, sumI_app]
        have h1 : h (r.map Prod.fst)[k] ≤ h x.1 := hm _ _ (p1 _ (List.getElem_mem hk))
        have e2 : sumI (List.map h [(r.map Prod.fst)[k]]) = h (r.map Prod.fst)[k] + 0 := rfl
        have e3 : sumI (List.map h (x.1 :: (r.map Prod.fst).take k)) = h x.1 + sumI (List.map h ((r.map Prod.fst).take k)) := rfl
        rw [e2, e3]
        omega
theorem parts_le (k : Int) : ∀ (L : List (Int × Nat)), (∀ x ∈ L, 0 ≤ x.1) → sL 1 L - sL 2 L + k * cL' 2 L ≤ sumI ((L.filter fun x => x.2 = 1).map fun x => x.1 + mnk k x.1 - k) + (k * L.length - sumI ((L.map Prod.fst).map (mnk k)))
  | [], _ => by simp [sL, cL', sumI]
  | x :: r, h0 => by
    have ih := parts_le k r fun y hy => h0 y (List.mem_cons_of_mem _ hy)
    have hx := h0 x List.mem_cons_self
    have m1 : mnk k x.1 ≤ k ∧ mnk k x.1 ≤ x.1 := by unfold mnk; split <;> omega
    have e1 : k * ((r.length + 1 : Nat) : Int) = k * r.length + k := by rw [show ((r.length + 1 : Nat) : Int) = (r.length : Int) + 1 by omega, Int.mul_add, Int.mul_one]
    have e2 : ∀ c : Int, k * (1 + c) = k + k * c := fun c => by rw [Int.mul_add, Int.mul_one]
    have e3 : ∀ (a : Int) (l : List Int), sumI (a :: l) = a + sumI l := fun _ _ => rfl
    simp only [List.map_cons, List.length_cons, sL, cL', e3, e1] at ih ⊢
    by_cases q1 : x.2 = 1
    · have e : (x :: r).filter (fun x => x.2 = 1) = x :: r.filter fun x => x.2 = 1 := List.filter_cons_of_pos (by simpa using q1)
      rw [e]
      simp only [q1, if_true, List.map_cons, e3, show ¬ (1 : Nat) = 2 by omega, if_false]
      simp only [Int.zero_add]
      omega
    · have e : (x :: r).filter (fun x => x.2 = 1) = r.filter fun x => x.2 = 1 := List.filter_cons_of_neg (by simpa using q1)
      rw [e]
      by_cases q2 : x.2 = 2
      · simp only [q2, if_true, show ¬ (2 : Nat) = 1 by omega, if_false, e2]
        omega
      · simp only [q1, q2, if_false, Int.zero_add]
        omega
theorem mnk_mono {k a b : Int} (h : a ≤ b) : a + mnk k a - k ≤ b + mnk k b - k := by
  unfold mnk; split <;> split <;> omega
theorem sum_h (k : Int) : ∀ l : List Int, sumI (l.map fun d => d + mnk k d - k) = sumI l + sumI (l.map (mnk k)) - k * l.length
  | [] => by simp [sumI]
  | x :: r => by
    have ih := sum_h k r
    have e3 : ∀ (a : Int) (l : List Int), sumI (a :: l) = a + sumI l := fun _ _ => rfl
    rw [List.map_cons, List.map_cons, e3, e3, e3, ih, List.length_cons, show ((r.length + 1 : Nat) : Int) = (r.length : Int) + 1 by omega, Int.mul_add, Int.mul_one]
    omega
/-- Erdos and Gallai: over numbers that fall, the first ones are enough. -/
theorem ff_of_eg {y : List Int} (hp : y.Pairwise fun a b => b ≤ a) (h0 : ∀ d ∈ y, 0 ≤ d) (hE : ∀ k, 1 ≤ k → k ≤ y.length → egK y k = true) : FF y := by
  refine .of fun L hl hm => ?_
  subst hm
  obtain ⟨k, k1, k2, k3⟩ := sum_first (h := fun d => d + mnk (cL' 1 L) d - cL' 1 L) (fun a b h => mnk_mono h) L hp
  have hL0 : ∀ x ∈ L, 0 ≤ x.1 := fun x hx => h0 _ (List.mem_map_of_mem hx)
  have k4 := parts_le (cL' 1 L) L hL0
  rw [k1] at k3 k4
  rw [sum_h] at k3
  by_cases hk : k = 0
  · subst hk
    have c1 : cL' 1 L = 0 := k1
    have s2 : ∀ M : List (Int × Nat), (∀ x ∈ M, 0 ≤ x.1) → 0 ≤ sL 2 M := by
      intro M
      induction M with
      | nil => intro _; exact Int.le_refl _
      | cons x r ih =>
        intro h
        have h1 := h x List.mem_cons_self
        have h2 := ih fun y hy => h y (List.mem_cons_of_mem _ hy)
        simp only [sL]
        split <;> omega
    have := s2 L hL0
    unfold fv
    rw [sL_none c1, c1, Int.zero_mul]
    omega
  · have hE1 := of_decide_eq_true (hE k (by omega) (by simpa using k2))
    have ha : sumI ((L.map Prod.fst).map (mnk k)) = sumI (((L.map Prod.fst).take k).map (mnk k)) + sumI (((L.map Prod.fst).drop k).map (mnk k)) := by
      rw [← sumI_app, ← List.map_append, List.take_append_drop]
    have hlen : (((L.map Prod.fst).take k).length : Int) = k := by rw [List.length_take, List.length_map]; omega
    rw [hlen] at k3
    unfold fv
    rw [k1]
    rw [ha] at k4
    have e1 : (k : Int) * ((L.length : Int) - 1 - cL' 2 L) = (k : Int) * L.length - k - k * cL' 2 L := by rw [Int.mul_sub, Int.mul_sub, Int.mul_one]
    have e2 : (k : Int) * ((k : Int) - 1) = (k : Int) * k - k := by rw [Int.mul_sub, Int.mul_one]
    rw [e1]
    rw [e2] at hE1
    omega
/-- What the law says of numbers. -/
theorem erdos_rz {x : List Int} (h0 : ∀ d ∈ x, 0 ≤ d) : (rz x).isSome = (decide (sumI x % 2 = 0) && egs (srtD x.length x) x.length) := by
  obtain ⟨hp, hd⟩ := srtD_end x
  rw [Bool.eq_iff_iff, rz_some h0, Bool.and_eq_true, decide_eq_true_iff, egs_all]
  constructor
  · rintro ⟨h1, k, hk⟩
    exact ⟨by omega, fun k h2 h3 => eg_of_ff (h1.perm hp.symm) k h2 (by rw [hp.length_eq]; exact h3)⟩
  · rintro ⟨h1, h2⟩
    exact ⟨(ff_of_eg hd (fun d hd => h0 d (hp.mem_iff.1 hd)) fun k h3 h4 => h2 k h3 (by rw [← hp.length_eq]; exact h4)).perm hp, sumI x / 2, by omega⟩
end Go.BmP
