/- Numbers of which a graph can be made: the condition over two sets of nodes, and that it stays when the node that needs most is served. -/
import Derived.Test.YtjfdniggjdnkiaaSrfG
set_option linter.unusedSimpArgs false
set_option linter.unusedVariables false
namespace Go.BmP
open Go.Am Go.Bm
def sL (b : Nat) : List (Int × Nat) → Int
  | [] => 0
  | x :: r => (if x.2 = b then x.1 else 0) + sL b r
def cL' (b : Nat) : List (Int × Nat) → Int
  | [] => 0
  | x :: r => (if x.2 = b then 1 else 0) + cL' b r
/-- The numbers of S, less those of T, less what S can have within itself and with the others. -/
def fv (L : List (Int × Nat)) : Int := sL 1 L - sL 2 L - cL' 1 L * (L.length - 1 - cL' 2 L)
def FF (d : List Int) : Prop := ∀ L : List (Int × Nat), (∀ x ∈ L, x.2 < 3) → (L.map Prod.fst).Perm d → fv L ≤ 0
theorem FF.perm {d e : List Int} (h : FF d) (p : d.Perm e) : FF e := fun L hl hp => h L hl (hp.trans p.symm)
theorem sL_app (b : Nat) (l m : List (Int × Nat)) : sL b (l ++ m) = sL b l + sL b m := by
  induction l with
  | nil => simp [sL]
  | cons x r ih => simp only [List.cons_append, sL, ih]; omega
theorem cL_app (b : Nat) (l m : List (Int × Nat)) : cL' b (l ++ m) = cL' b l + cL' b m := by
  induction l with
  | nil => simp [cL']
  | cons x r ih => simp only [List.cons_append, cL', ih]; omega
theorem cL_nn (b : Nat) (l : List (Int × Nat)) : 0 ≤ cL' b l := by
  induction l with
  | nil => simp [cL']
  | cons x r ih => simp only [cL']; split <;> omega
theorem cL_len : ∀ (l : List (Int × Nat)), (∀ x ∈ l, x.2 < 3) → (l.length : Int) = cL' 0 l + cL' 1 l + cL' 2 l
  | [], _ => rfl
  | x :: r, h => by
    have ih := cL_len r fun y hy => h y (List.mem_cons_of_mem _ hy)
    have hx := h x List.mem_cons_self
    simp only [cL', List.length_cons]
    have : x.2 = 0 ∨ x.2 = 1 ∨ x.2 = 2 := by omega
    rcases this with k | k | k <;> simp only [k] <;> simp <;> omega
theorem cL_pos {b : Nat} {l : List (Int × Nat)} (h : cL' b l ≠ 0) : ∃ d, (d, b) ∈ l := by
  induction l with
  | nil => exact absurd rfl h
  | cons x r ih =>
    by_cases k : x.2 = b
    · exact ⟨x.1, by rw [← k]; exact List.mem_cons_self⟩
    · simp only [cL', k, if_false, Int.zero_add] at h
      obtain ⟨d, hd⟩ := ih h
      exact ⟨d, List.mem_cons_of_mem _ hd⟩
/-- An element with another label. -/
theorem sL_swap {l1 l2 : List (Int × Nat)} {d : Int} {a b : Nat} (c : Nat) : sL c (l1 ++ (d, b) :: l2) = sL c (l1 ++ (d, a) :: l2) + (if b = c then d else 0) - (if a = c then d else 0) := by
  simp only [sL_app, sL]; omega
theorem cL_swap {l1 l2 : List (Int × Nat)} {d : Int} {a b : Nat} (c : Nat) : cL' c (l1 ++ (d, b) :: l2) = cL' c (l1 ++ (d, a) :: l2) + (if b = c then 1 else 0) - (if a = c then 1 else 0) := by
  simp only [cL_app, cL']; omega
/-- All of one label get another one. -/
def rlb (a b : Nat) (x : Int × Nat) : Int × Nat := if x.2 = a then (x.1, b) else x
theorem rlb_fst (a b : Nat) (l : List (Int × Nat)) : (l.map (rlb a b)).map Prod.fst = l.map Prod.fst := by
  rw [List.map_map]
  refine List.map_congr_left fun x _ => ?_
  simp only [Function.comp, rlb]; split <;> rfl
theorem rlb_lt {a b : Nat} (hb : b < 3) {l : List (Int × Nat)} (h : ∀ x ∈ l, x.2 < 3) : ∀ x ∈ l.map (rlb a b), x.2 < 3 := by
  intro x hx
  obtain ⟨y, hy, rfl⟩ := List.mem_map.1 hx
  unfold rlb; split
  · exact hb
  · exact h y hy
theorem rlb_c {a b : Nat} (hab : a ≠ b) (l : List (Int × Nat)) : cL' b (l.map (rlb a b)) = cL' b l + cL' a l ∧ cL' a (l.map (rlb a b)) = 0 ∧ ∀ c, c ≠ a → c ≠ b → cL' c (l.map (rlb a b)) = cL' c l ∧ sL c (l.map (rlb a b)) = sL c l := by
  induction l with
  | nil => exact ⟨rfl, rfl, fun _ _ _ => ⟨rfl, rfl⟩⟩
  | cons x r ih =>
    obtain ⟨i1, i2, i3⟩ := ih
    simp only [List.map_cons, cL', sL, rlb]
    by_cases k : x.2 = a
    · rw [if_pos k]
      refine ⟨?_, ?_, fun c h1 h2 => ?_⟩
      · simp only [k, if_true, hab, if_false]; omega
      · simp only [Ne.symm hab, if_false]; omega
      · obtain ⟨j1, j2⟩ := i3 c h1 h2
        simp only [k, Ne.symm h1, Ne.symm h2, if_false, j1, j2]; exact ⟨trivial, trivial⟩
    · rw [if_neg k]
      refine ⟨?_, ?_, fun c h1 h2 => ?_⟩
      · simp only [k, if_false]; omega
      · simp only [k, if_false]; omega
      · obtain ⟨j1, j2⟩ := i3 c h1 h2
        simp only [j1, j2]; exact ⟨trivial, trivial⟩
/-- .. and the sums, where all of them are one number. -/
theorem rlb_s {a b : Nat} (hab : a ≠ b) (k : Int) (l : List (Int × Nat)) (h : ∀ d, (d, a) ∈ l → d = k) : sL b (l.map (rlb a b)) = sL b l + k * cL' a l ∧ sL a l = k * cL' a l ∧ sL a (l.map (rlb a b)) = 0 := by
  induction l with
  | nil => simp [sL, cL']
  | cons x r ih =>
    obtain ⟨i1, i2, i3⟩ := ih fun d hd => h d (List.mem_cons_of_mem _ hd)
    simp only [List.map_cons, cL', sL, rlb]
    by_cases q : x.2 = a
    · have hx : x.1 = k := h x.1 (by rw [← q]; exact List.mem_cons_self)
      rw [if_pos q]
      simp only [q, if_true, hab, Ne.symm hab, if_false]
      rw [Int.mul_add]
      refine ⟨?_, ?_, ?_⟩ <;> omega
    · rw [if_neg q]
      simp only [q, if_false, Int.zero_add]
      refine ⟨by omega, i2, by omega⟩
/-- What the condition says of the numbers when those of lp have each lost one. -/
def fp (lp lq : List (Int × Nat)) : Int := (sL 1 lp - cL' 1 lp + sL 1 lq) - (sL 2 lp - cL' 2 lp + sL 2 lq) - (cL' 1 lp + cL' 1 lq) * (lp.length + lq.length - 1 - (cL' 2 lp + cL' 2 lq))
def sumI (l : List Int) : Int := l.foldr (· + ·) 0
theorem sumI_app (l m : List Int) : sumI (l ++ m) = sumI l + sumI m := by
  induction l with
  | nil => simp [sumI]
  | cons x r ih => simp only [sumI, List.cons_append, List.foldr_cons] at ih ⊢; omega
theorem sumI_perm {l m : List Int} (h : l.Perm m) : sumI l = sumI m := by
  induction h with
  | nil => rfl
  | cons x _ ih => simp only [sumI, List.foldr_cons] at ih ⊢; omega
  | swap x y l => simp only [sumI, List.foldr_cons]; omega
  | trans _ _ h1 h2 => omega
theorem sL_sum : ∀ (l : List (Int × Nat)), (∀ x ∈ l, x.2 < 3) → sumI (l.map Prod.fst) = sL 0 l + sL 1 l + sL 2 l
  | [], _ => rfl
  | x :: r, h => by
    have ih := sL_sum r fun y hy => h y (List.mem_cons_of_mem _ hy)
    have hx := h x List.mem_cons_self
    have : x.2 = 0 ∨ x.2 = 1 ∨ x.2 = 2 := by omega
    simp only [sumI, List.map_cons, List.foldr_cons, sL] at ih ⊢
    rcases this with k | k | k <;> simp only [k] <;> simp <;> omega
theorem sL_none {b : Nat} : ∀ {l : List (Int × Nat)}, cL' b l = 0 → sL b l = 0
  | [], _ => rfl
  | x :: r, h => by
    have := cL_nn b r
    simp only [cL', sL] at h ⊢
    by_cases k : x.2 = b
    · rw [if_pos k] at h; omega
    · rw [if_neg k] at h ⊢
      rw [sL_none (by omega)]; rfl
theorem even_mul_pred (s : Int) : ∃ k, s * (s - 1) = 2 * k := by
  have h : s % 2 = 0 ∨ s % 2 = 1 := by omega
  rcases h with h | h
  · obtain ⟨k, rfl⟩ : ∃ k, s = 2 * k := ⟨s / 2, by omega⟩
    exact ⟨k * (2 * k - 1), by rw [Int.mul_assoc]⟩
  · obtain ⟨k, rfl⟩ : ∃ k, s = 2 * k + 1 := ⟨s / 2, by omega⟩
    exact ⟨(2 * k + 1) * k, by rw [show (2 * k + 1 - 1 : Int) = 2 * k by omega, Int.mul_left_comm]⟩
theorem ff_core {D : Int} {lp lq : List (Int × Nat)} (hF : FF (D :: (lp.map Prod.fst ++ lq.map Prod.fst))) (hD : (lp.length : Int) = D) (hpq : ∀ x ∈ lp, ∀ y ∈ lq, y.1 ≤ x.1) (hq : ∀ y ∈ lq, y.1 ≤ D) (hev : ∃ k, D + sumI (lp.map Prod.fst ++ lq.map Prod.fst) = 2 * k)
    (hlp : ∀ x ∈ lp, x.2 < 3) (hlq : ∀ x ∈ lq, x.2 < 3)
    (l1 : ∀ d, (d, 1) ∈ lq → (lp.length + lq.length : Int) - (cL' 2 lp + cL' 2 lq) ≤ d) (l2 : ∀ d, (d, 2) ∈ lp → d ≤ cL' 1 lp + cL' 1 lq) (l3 : ∀ d, (d, 0) ∈ lq → cL' 1 lp + cL' 1 lq ≤ d) : fp lp lq ≤ 0 := by
  have np := cL_len lp hlp
  have nq := cL_len lq hlq
  have p0 := cL_nn 0 lp
  have p1 := cL_nn 1 lp
  have p2 := cL_nn 2 lp
  have q0 := cL_nn 0 lq
  have q1 := cL_nn 1 lq
  have q2 := cL_nn 2 lq
  have key : ∀ (v : Nat) (lp' lq' : List (Int × Nat)), v < 3 → (∀ x ∈ lp', x.2 < 3) → (∀ x ∈ lq', x.2 < 3) → lp'.map Prod.fst = lp.map Prod.fst → lq'.map Prod.fst = lq.map Prod.fst → fv ((D, v) :: (lp' ++ lq')) ≤ 0 := by
    intro v lp' lq' hv h1 h2 h3 h4
    refine hF _ ?_ ?_
    · intro x hx
      rcases List.mem_cons.1 hx with rfl | hx
      · exact hv
      · rcases List.mem_append.1 hx with hx | hx
        · exact h1 x hx
        · exact h2 x hx
    · simp only [List.map_cons, List.map_append, h3, h4]
      exact .refl _
  by_cases ha : cL' 1 lq = 0
  · by_cases hb : cL' 2 lp = 0
    · -- nothing to change
      have h := key 0 lp lq (by omega) hlp hlq rfl rfl
      unfold fv at h
      simp only [sL, cL', sL_app, cL_app, List.length_cons, List.length_append] at h
      unfold fp
      simp at h
      have e : ((lp.length : Int) + (lq.length : Int) - (cL' 2 lp + cL' 2 lq)) = (lp.length + lq.length - 1 - (cL' 2 lp + cL' 2 lq)) + 1 := by omega
      rw [e, Int.mul_add, Int.mul_one] at h
      omega
    · -- S within lp, T meets lp: the node and S against T and the middle of lq
      obtain ⟨dy, hy⟩ := cL_pos hb
      have hdy := l2 dy hy
      have hz : ∀ d, (d, 0) ∈ lq → d = cL' 1 lp + cL' 1 lq := fun d hd => by
        have h1 := l3 d hd
        have h2 := hpq _ hy _ hd
        simp at h2
        omega
      have h := key 1 lp (lq.map (rlb 0 2)) (by omega) hlp (rlb_lt (by omega) hlq) rfl (rlb_fst 0 2 lq)
      obtain ⟨c1, c2, c3⟩ := rlb_c (a := 0) (b := 2) (by omega) lq
      obtain ⟨c4, c5⟩ := c3 1 (by omega) (by omega)
      obtain ⟨d1, d2, d3⟩ := rlb_s (a := 0) (b := 2) (by omega) _ lq hz
      unfold fv at h
      simp only [sL, cL', sL_app, cL_app, List.length_cons, List.length_append, List.length_map, c1, c4, c5, d1] at h
      unfold fp
      simp at h
      rw [ha] at h ⊢
      have s1 : sL 1 lq = 0 := sL_none ha
      rw [s1] at h ⊢
      have e1 : ((lp.length : Int) + (lq.length : Int) - (cL' 2 lp + (cL' 2 lq + cL' 0 lq))) = cL' 1 lp + cL' 0 lp := by omega
      have e2 : ((lp.length : Int) + (lq.length : Int) - 1 - (cL' 2 lp + cL' 2 lq)) = cL' 1 lp + cL' 0 lp + cL' 0 lq - 1 := by omega
      rw [e2]
      rw [e1] at h
      simp only [Int.add_zero, Int.zero_add] at h ⊢
      rw [Int.add_mul, Int.one_mul] at h
      rw [Int.mul_sub, Int.mul_one, Int.mul_add]
      omega
  · obtain ⟨dx, hx⟩ := cL_pos ha
    have hdx := l1 dx hx
    have hxD := hq _ hx
    simp at hxD
    by_cases hb : cL' 2 lp = 0
    · omega
    · obtain ⟨dy, hy⟩ := cL_pos hb
      have hdy := l2 dy hy
      have hxy := hpq _ hy _ hx
      simp at hxy
      have m0 : cL' 0 lp = 0 := by omega
      have m1 : cL' 0 lq = 0 := by omega
      have hX : ∀ d, (d, 1) ∈ lq → d = cL' 1 lp + cL' 1 lq := fun d hd => by
        have h1 := l1 d hd
        have h2 := hpq _ hy _ hd
        simp at h2
        omega
      have hY : ∀ d, (d, 2) ∈ lp → d = cL' 1 lp + cL' 1 lq := fun d hd => by
        have h1 := l2 d hd
        have h2 := hpq _ hd _ hx
        simp at h2
        omega
      have h := key 0 (lp.map (rlb 2 0)) (lq.map (rlb 1 0)) (by omega) (rlb_lt (by omega) hlp) (rlb_lt (by omega) hlq) (rlb_fst 2 0 lp) (rlb_fst 1 0 lq)
      obtain ⟨_, c2, c3⟩ := rlb_c (a := 2) (b := 0) (by omega) lp
      obtain ⟨c4, c5⟩ := c3 1 (by omega) (by omega)
      obtain ⟨_, b2, b3⟩ := rlb_c (a := 1) (b := 0) (by omega) lq
      obtain ⟨b4, b5⟩ := b3 2 (by omega) (by omega)
      obtain ⟨_, y2, y3⟩ := rlb_s (a := 2) (b := 0) (by omega) _ lp hY
      obtain ⟨_, x2, x3⟩ := rlb_s (a := 1) (b := 0) (by omega) _ lq hX
      unfold fv at h
      simp only [sL, cL', sL_app, cL_app, List.length_cons, List.length_append, List.length_map, c2, c4, c5, b2, b4, b5, y3, x3] at h
      simp at h
      obtain ⟨k, hk⟩ := hev
      rw [sumI_app, sL_sum lp hlp, sL_sum lq hlq, sL_none m0, sL_none m1] at hk
      unfold fp
      have e2 : ((lp.length : Int) + (lq.length : Int) - 1 - (cL' 2 lp + cL' 2 lq)) = cL' 1 lp + cL' 1 lq - 1 := by omega
      rw [e2]
      have e1 : ((lp.length : Int) + (lq.length : Int) - cL' 2 lq) = cL' 1 lp + cL' 1 lq + cL' 2 lp := by omega
      rw [e1] at h
      rw [x2, y2] at hk ⊢
      obtain ⟨j, hj⟩ := even_mul_pred (cL' 1 lp + cL' 1 lq)
      rw [hj]
      generalize hA : cL' 1 lp = A at *
      generalize hB : cL' 1 lq = B at *
      generalize hC : cL' 2 lp = C at *
      have hBC : 0 ≤ (B - 1) * (C - 1) := Int.mul_nonneg (by omega) (by omega)
      have ex1 : (B - 1) * (C - 1) = B * C - B - C + 1 := by rw [Int.sub_mul, Int.mul_sub]; omega
      have ex2 : A * (A + B + C) = A * A + A * B + A * C := by rw [Int.mul_add, Int.mul_add]
      have ex3 : (A + B) * (A + B - 1) = A * A + A * B + (A * B + B * B) - A - B := by rw [Int.mul_sub, Int.mul_add, Int.add_mul, Int.add_mul, Int.mul_comm B A]; omega
      have ex4 : (A + B) * B = A * B + B * B := Int.add_mul _ _ _
      have ex5 : (A + B) * C = A * C + B * C := Int.add_mul _ _ _
      rw [ex2] at h
      rw [ex3] at hj
      rw [ex4, ex5] at hk ⊢
      omega
theorem ff_move {D : Int} : ∀ (n : Nat) (lp lq : List (Int × Nat)), FF (D :: (lp.map Prod.fst ++ lq.map Prod.fst)) → (lp.length : Int) = D → (∀ x ∈ lp, ∀ y ∈ lq, y.1 ≤ x.1) → (∀ y ∈ lq, y.1 ≤ D) → (∃ k, D + sumI (lp.map Prod.fst ++ lq.map Prod.fst) = 2 * k) →
    (∀ x ∈ lp, x.2 < 3) → (∀ x ∈ lq, x.2 < 3) → 2 * cL' 1 lq + 2 * cL' 2 lp + cL' 0 lq < n → fp lp lq ≤ 0
  | 0, lp, lq, _, _, _, _, _, _, _, hm => by
    have := cL_nn 1 lq
    have := cL_nn 2 lp
    have := cL_nn 0 lq
    omega
  | n + 1, lp, lq, hF, hD, hpq, hq, hev, hlp, hlq, hm => by
    by_cases h1 : ∃ d, (d, 1) ∈ lq ∧ d < (lp.length + lq.length : Int) - (cL' 2 lp + cL' 2 lq)
    · obtain ⟨d, hd, hlt⟩ := h1
      obtain ⟨l1, l2, rfl⟩ := List.append_of_mem hd
      have hf : (l1 ++ (d, 0) :: l2).map Prod.fst = (l1 ++ (d, 1) :: l2).map Prod.fst := by simp
      have mem : ∀ y ∈ l1 ++ (d, 0) :: l2, ∃ b, (y.1, b) ∈ l1 ++ (d, 1) :: l2 := by
        intro y hy
        rcases List.mem_append.1 hy with h | h
        · exact ⟨y.2, List.mem_append_left _ h⟩
        · rcases List.mem_cons.1 h with rfl | h
          · exact ⟨1, by simp⟩
          · exact ⟨y.2, List.mem_append_right _ (List.mem_cons_of_mem _ h)⟩
      have c1 := cL_swap (l1 := l1) (l2 := l2) (d := d) (a := 1) (b := 0) 1
      have c0 := cL_swap (l1 := l1) (l2 := l2) (d := d) (a := 1) (b := 0) 0
      have c2 := cL_swap (l1 := l1) (l2 := l2) (d := d) (a := 1) (b := 0) 2
      have s1 := sL_swap (l1 := l1) (l2 := l2) (d := d) (a := 1) (b := 0) 1
      have s2 := sL_swap (l1 := l1) (l2 := l2) (d := d) (a := 1) (b := 0) 2
      simp at c1 c0 c2 s1 s2
      have ih := ff_move n lp (l1 ++ (d, 0) :: l2) (by rw [hf]; exact hF) hD (fun x hx y hy => by obtain ⟨b, hb⟩ := mem y hy; exact hpq x hx (y.1, b) hb) (fun y hy => by obtain ⟨b, hb⟩ := mem y hy; exact hq (y.1, b) hb) (by rw [hf]; exact hev) hlp
        (fun x hx => by
          rcases List.mem_append.1 hx with h | h
          · exact hlq x (List.mem_append_left _ h)
          · rcases List.mem_cons.1 h with rfl | h
            · show 0 < 3; omega
            · exact hlq x (List.mem_append_right _ (List.mem_cons_of_mem _ h))) (by omega)
      unfold fp at ih ⊢
      have el : ((l1 ++ (d, 0) :: l2).length : Int) = ((l1 ++ (d, 1) :: l2).length : Int) := by simp
      rw [el, c1, c2, s1, s2] at ih
      generalize hX : ((lp.length : Int) + ((l1 ++ (d, 1) :: l2).length : Int) - 1 - (cL' 2 lp + cL' 2 (l1 ++ (d, 1) :: l2))) = X at *
      have e : (cL' 1 lp + (cL' 1 (l1 ++ (d, 1) :: l2) - 1)) * X = (cL' 1 lp + cL' 1 (l1 ++ (d, 1) :: l2)) * X - X := by
        rw [show cL' 1 lp + (cL' 1 (l1 ++ (d, 1) :: l2) - 1) = (cL' 1 lp + cL' 1 (l1 ++ (d, 1) :: l2)) - 1 by omega, Int.sub_mul, Int.one_mul]
      rw [e] at ih
      omega
    · by_cases h2 : ∃ d, (d, 2) ∈ lp ∧ cL' 1 lp + cL' 1 lq < d
      · obtain ⟨d, hd, hlt⟩ := h2
        obtain ⟨l1, l2, rfl⟩ := List.append_of_mem hd
        have hf : (l1 ++ (d, 0) :: l2).map Prod.fst = (l1 ++ (d, 2) :: l2).map Prod.fst := by simp
        have mem : ∀ y ∈ l1 ++ (d, 0) :: l2, ∃ b, (y.1, b) ∈ l1 ++ (d, 2) :: l2 := by
          intro y hy
          rcases List.mem_append.1 hy with h | h
          · exact ⟨y.2, List.mem_append_left _ h⟩
          · rcases List.mem_cons.1 h with rfl | h
            · exact ⟨2, by simp⟩
            · exact ⟨y.2, List.mem_append_right _ (List.mem_cons_of_mem _ h)⟩
        have c1 := cL_swap (l1 := l1) (l2 := l2) (d := d) (a := 2) (b := 0) 1
        have c2 := cL_swap (l1 := l1) (l2 := l2) (d := d) (a := 2) (b := 0) 2
        have s1 := sL_swap (l1 := l1) (l2 := l2) (d := d) (a := 2) (b := 0) 1
        have s2 := sL_swap (l1 := l1) (l2 := l2) (d := d) (a := 2) (b := 0) 2
        simp at c1 c2 s1 s2
        have el : ((l1 ++ (d, 0) :: l2).length : Int) = ((l1 ++ (d, 2) :: l2).length : Int) := by simp
        have ih := ff_move n (l1 ++ (d, 0) :: l2) lq (by rw [hf]; exact hF) (by rw [el]; exact hD) (fun x hx y hy => by obtain ⟨b, hb⟩ := mem x hx; exact hpq (x.1, b) hb y hy) hq (by rw [hf]; exact hev)
          (fun x hx => by
            rcases List.mem_append.1 hx with h | h
            · exact hlp x (List.mem_append_left _ h)
            · rcases List.mem_cons.1 h with rfl | h
              · show 0 < 3; omega
              · exact hlp x (List.mem_append_right _ (List.mem_cons_of_mem _ h))) hlq (by omega)
        unfold fp at ih ⊢
        rw [el, c1, c2, s1, s2] at ih
        generalize hX : (cL' 1 (l1 ++ (d, 2) :: l2) + cL' 1 lq) = X at *
        have e : X * (((l1 ++ (d, 2) :: l2).length : Int) + (lq.length : Int) - 1 - (cL' 2 (l1 ++ (d, 2) :: l2) - 1 + cL' 2 lq)) = X * (((l1 ++ (d, 2) :: l2).length : Int) + (lq.length : Int) - 1 - (cL' 2 (l1 ++ (d, 2) :: l2) + cL' 2 lq)) + X := by
          rw [show ((l1 ++ (d, 2) :: l2).length : Int) + (lq.length : Int) - 1 - (cL' 2 (l1 ++ (d, 2) :: l2) - 1 + cL' 2 lq) = (((l1 ++ (d, 2) :: l2).length : Int) + (lq.length : Int) - 1 - (cL' 2 (l1 ++ (d, 2) :: l2) + cL' 2 lq)) + 1 by omega, Int.mul_add, Int.mul_one]
        rw [e] at ih
        omega
      · by_cases h3 : ∃ d, (d, 0) ∈ lq ∧ d < cL' 1 lp + cL' 1 lq
        · obtain ⟨d, hd, hlt⟩ := h3
          obtain ⟨l1, l2, rfl⟩ := List.append_of_mem hd
          have hf : (l1 ++ (d, 2) :: l2).map Prod.fst = (l1 ++ (d, 0) :: l2).map Prod.fst := by simp
          have mem : ∀ y ∈ l1 ++ (d, 2) :: l2, ∃ b, (y.1, b) ∈ l1 ++ (d, 0) :: l2 := by
            intro y hy
            rcases List.mem_append.1 hy with h | h
            · exact ⟨y.2, List.mem_append_left _ h⟩
            · rcases List.mem_cons.1 h with rfl | h
              · exact ⟨0, by simp⟩
              · exact ⟨y.2, List.mem_append_right _ (List.mem_cons_of_mem _ h)⟩
          have c1 := cL_swap (l1 := l1) (l2 := l2) (d := d) (a := 0) (b := 2) 1
          have c0 := cL_swap (l1 := l1) (l2 := l2) (d := d) (a := 0) (b := 2) 0
          have c2 := cL_swap (l1 := l1) (l2 := l2) (d := d) (a := 0) (b := 2) 2
          have s1 := sL_swap (l1 := l1) (l2 := l2) (d := d) (a := 0) (b := 2) 1
          have s2 := sL_swap (l1 := l1) (l2 := l2) (d := d) (a := 0) (b := 2) 2
          simp at c1 c0 c2 s1 s2
          have el : ((l1 ++ (d, 2) :: l2).length : Int) = ((l1 ++ (d, 0) :: l2).length : Int) := by simp
          have ih := ff_move n lp (l1 ++ (d, 2) :: l2) (by rw [hf]; exact hF) hD (fun x hx y hy => by obtain ⟨b, hb⟩ := mem y hy; exact hpq x hx (y.1, b) hb) (fun y hy => by obtain ⟨b, hb⟩ := mem y hy; exact hq (y.1, b) hb) (by rw [hf]; exact hev) hlp
            (fun x hx => by
              rcases List.mem_append.1 hx with h | h
              · exact hlq x (List.mem_append_left _ h)
              · rcases List.mem_cons.1 h with rfl | h
                · show 2 < 3; omega
                · exact hlq x (List.mem_append_right _ (List.mem_cons_of_mem _ h))) (by omega)
          unfold fp at ih ⊢
          rw [el, c1, c2, s1, s2] at ih
          generalize hX : (cL' 1 lp + cL' 1 (l1 ++ (d, 0) :: l2)) = X at *
          have e : X * ((lp.length : Int) + ((l1 ++ (d, 0) :: l2).length : Int) - 1 - (cL' 2 lp + (cL' 2 (l1 ++ (d, 0) :: l2) + 1))) = X * ((lp.length : Int) + ((l1 ++ (d, 0) :: l2).length : Int) - 1 - (cL' 2 lp + cL' 2 (l1 ++ (d, 0) :: l2))) - X := by
            rw [show (lp.length : Int) + ((l1 ++ (d, 0) :: l2).length : Int) - 1 - (cL' 2 lp + (cL' 2 (l1 ++ (d, 0) :: l2) + 1)) = ((lp.length : Int) + ((l1 ++ (d, 0) :: l2).length : Int) - 1 - (cL' 2 lp + cL' 2 (l1 ++ (d, 0) :: l2))) - 1 by omega, Int.mul_sub, Int.mul_one]
          rw [e] at ih
          omega
        · exact ff_core hF hD hpq hq hev hlp hlq (fun d hd => by
            have : ¬ _ := fun k => h1 ⟨d, hd, k⟩
            omega) (fun d hd => by
            have : ¬ _ := fun k => h2 ⟨d, hd, k⟩
            omega) (fun d hd => by
            have : ¬ _ := fun k => h3 ⟨d, hd, k⟩
            omega)
#print axioms ff_move
end Go.BmP
