/- Numbers of which a graph can be made: the condition over two sets of nodes, and that it stays when the node that needs most is served. -/
import Derived.Test.YtjfdniggjdnkiaaCpcG
import Derived.Test.YtjfdniggjdnkiaaRzP
set_option linter.unusedSimpArgs false
set_option linter.unusedVariables false
namespace Go.BmP
open Go.Am Go.Bm
def sL (b : Nat) : List (Int × Nat) -> Int
 | [] => 0
 | x :: r => (if x.2 = b then x.1 else 0) + sL b r
def cL' (b : Nat) : List (Int × Nat) -> Int
 | [] => 0
 | x :: r => (if x.2 = b then 1 else 0) + cL' b r
def fv (L : List (Int × Nat)) : Int := sL 1 L - sL 2 L - cL' 1 L * (L.length - 1 - cL' 2 L)
def FF (d : List Int) : Prop := ∀ L : List (Int × Nat), (∀ x ∈ L, x.2 < 3) -> (L.map Prod.fst).Perm d -> fv L <= 0
theorem FF.perm {d e : List Int} (h : FF d) (p : d.Perm e) : FF e := fun L hl hp => h L hl (hp.trans p.symm)
theorem sL_app (b : Nat) (l m : List (Int × Nat)) : sL b (l ++ m) = sL b l + sL b m := by
 induction l with
 | nil => simp [sL]
 | cons x r ih => simp only [List.cons_append, sL, ih]; omega
theorem cL_app (b : Nat) (l m : List (Int × Nat)) : cL' b (l ++ m) = cL' b l + cL' b m := by
 induction l with
 | nil => simp [cL']
 | cons x r ih => simp only [List.cons_append, cL', ih]; omega
theorem cL_nn (b : Nat) (l : List (Int × Nat)) : 0 <= cL' b l := by
 induction l with
 | nil => simp [cL']
 | cons x r ih => simp only [cL']; split <;> omega
theorem cL_len : ∀ (l : List (Int × Nat)), (∀ x ∈ l, x.2 < 3) -> (l.length : Int) = cL' 0 l + cL' 1 l + cL' 2 l
 | [], _ => rfl
 | x :: r, h => by
   have ih := cL_len r fun y hy => h y (List.mem_cons_of_mem _ hy)
   have hx := h x List.mem_cons_self
   simp only [cL', List.length_cons]
   have : x.2 = 0 \/ x.2 = 1 \/ x.2 = 2 := by omega
   rcases this with k | k | k <;> simp only [k] <;> simp <;> omega
theorem cL_pos {b : Nat} {l : List (Int × Nat)} (h : cL' b l ≠ 0) : ∃ d, (d, b) ∈ l := by
 induction l with
 | nil => exact absurd rfl h
 | cons x r ih =>
   by_cases k : x.2 = b
   ·exact ⟨x.1, by rw [<- k]; exact List.mem_cons_self⟩
   ·simp only [cL', k, if_false, Int.zero_add] at h
    obtain ⟨d, hd⟩ := ih h
    exact ⟨d, List.mem_cons_of_mem _ hd⟩
theorem sL_swap {l1 l2 : List (Int × Nat)} {d : Int} {a b : Nat} (c : Nat) : sL c (l1 ++ (d, b) :: l2) = sL c (l1 ++ (d, a) :: l2) + (if b = c then d else 0) - (if a = c then d else 0) := by
 simp only [sL_app, sL]; omega
theorem cL_swap {l1 l2 : List (Int × Nat)} {d : Int} {a b : Nat} (c : Nat) : cL' c (l1 ++ (d, b) :: l2) = cL' c (l1 ++ (d, a) :: l2) + (if b = c then 1 else 0) - (if a = c then 1 else 0) := by
 simp only [cL_app, cL']; omega
def rlb (a b : Nat) (x : Int × Nat) : Int × Nat := if x.2 = a then (x.1, b) else x
theorem rlb_fst (a b : Nat) (l : List (Int × Nat)) : (l.map (rlb a b)).map Prod.fst = l.map Prod.fst := by
 rw [List.map_map]
 refine List.map_congr_left fun x _ => ?_
 simp only [Function.comp, rlb]; split <;> rfl
theorem rlb_lt {a b : Nat} (hb : b < 3) {l : List (Int × Nat)} (h : ∀ x ∈ l, x.2 < 3) : ∀ x ∈ l.map (rlb a b), x.2 < 3 := by
 intro x hx
 obtain ⟨y, hy, rfl⟩ := List.mem_map.1 hx
 unfold rlb; split
 ·exact hb
 ·exact h y hy
theorem rlb_c {a b : Nat} (hab : a ≠ b) (l : List (Int × Nat)) : cL' b (l.map (rlb a b)) = cL' b l + cL' a l /\ cL' a (l.map (rlb a b)) = 0 /\ ∀ c, c ≠ a -> c ≠ b -> cL' c (l.map (rlb a b)) = cL' c l /\ sL c (l.map (rlb a b)) = sL c l := by
 induction l with
 | nil => exact ⟨rfl, rfl, fun _ _ _ => ⟨rfl, rfl⟩⟩
 | cons x r ih =>
   obtain ⟨i1, i2, i3⟩ := ih
   simp only [List.map_cons, cL', sL, rlb]
   by_cases k : x.2 = a
   ·rw [if_pos k]
    refine ⟨?_, ?_, fun c h1 h2 => ?_⟩
    ·simp only [k, if_true, hab, if_false]; omega
    ·simp only [Ne.symm hab, if_false]; omega
    ·obtain ⟨j1, j2⟩ := i3 c h1 h2
     simp only [k, Ne.symm h1, Ne.symm h2, if_false, j1, j2]; exact ⟨trivial, trivial⟩
   ·rw [if_neg k]
    refine ⟨?_, ?_, fun c h1 h2 => ?_⟩
    ·simp only [k, if_false]; omega
    ·simp only [k, if_false]; omega
    ·obtain ⟨j1, j2⟩ := i3 c h1 h2
     simp only [j1, j2]; exact ⟨trivial, trivial⟩
theorem rlb_s {a b : Nat} (hab : a ≠ b) (k : Int) (l : List (Int × Nat)) (h : ∀ d, (d, a) ∈ l -> d = k) : sL b (l.map (rlb a b)) = sL b l + k * cL' a l /\ sL a l = k * cL' a l /\ sL a (l.map (rlb a b)) = 0 := by
 induction l with
 | nil => simp [sL, cL']
 | cons x r ih =>
   obtain ⟨i1, i2, i3⟩ := ih fun d hd => h d (List.mem_cons_of_mem _ hd)
   simp only [List.map_cons, cL', sL, rlb]
   by_cases q : x.2 = a
   ·have hx : x.1 = k := h x.1 (by rw [<- q]; exact List.mem_cons_self)
    rw [if_pos q]
    simp only [q, if_true, hab, Ne.symm hab, if_false]
    rw [Int.mul_add]
    refine ⟨?_, ?_, ?_⟩ <;> omega
   ·rw [if_neg q]
    simp only [q, if_false, Int.zero_add]
    refine ⟨by omega, i2, by omega⟩
def fp (lp lq : List (Int × Nat)) : Int := (sL 1 lp - cL' 1 lp + sL 1 lq) - (sL 2 lp - cL' 2 lp + sL 2 lq) - (cL' 1 lp + cL' 1 lq) * (lp.length + lq.length - 1 - (cL' 2 lp + cL' 2 lq))
def sumI (l : List Int) : Int := l.foldr (· + ·) 0
theorem sumI_app (l m : List Int) : sumI (l ++ m) = sumI l + sumI m := by
 induction l with
 | nil => simp [sumI]
 | cons x r ih => simp only [sumI, List.cons_append, List.foldr_cons] at ih ⊢; omega
theorem sumI_perm {l m : List Int} (h : l.Perm m) : sumI l = sumI m := by
 induction h with
 | nil => rfl
 | cons x _ ih => simp only [sumI, List.foldr_cons] at ih ⊢; omega
 | swap x y l => simp only [sumI, List.foldr_cons]; omega
 | trans _ _ h1 h2 => omega
theorem sL_sum : ∀ (l : List (Int × Nat)), (∀ x ∈ l, x.2 < 3) -> sumI (l.map Prod.fst) = sL 0 l + sL 1 l + sL 2 l
 | [], _ => rfl
 | x :: r, h => by
   have ih := sL_sum r fun y hy => h y (List.mem_cons_of_mem _ hy)
   have hx := h x List.mem_cons_self
   have : x.2 = 0 \/ x.2 = 1 \/ x.2 = 2 := by omega
   simp only [sumI, List.map_cons, List.foldr_cons, sL] at ih ⊢
   rcases this with k | k | k <;> simp only [k] <;> simp <;> omega
theorem sL_none {b : Nat} : ∀ {l : List (Int × Nat)}, cL' b l = 0 -> sL b l = 0
 | [], _ => rfl
 | x :: r, h => by
   have := cL_nn b r
   simp only [cL', sL] at h ⊢
   by_cases k : x.2 = b
   ·rw [if_pos k] at h; omega
   ·rw [if_neg k] at h ⊢
    rw [sL_none (by omega)]; rfl
theorem even_mul_pred (s : Int) : ∃ k, s * (s - 1) = 2 * k := by
 have h : s % 2 = 0 \/ s % 2 = 1 := by omega
 rcases h with h | h
 ·obtain ⟨k, rfl⟩ : ∃ k, s = 2 * k := ⟨s / 2, by omega⟩
  exact ⟨k * (2 * k - 1), by rw [Int.mul_assoc]⟩
 ·obtain ⟨k, rfl⟩ : ∃ k, s = 2 * k + 1 := ⟨s / 2, by omega⟩
  exact ⟨(2 * k + 1) * k, by rw [show (2 * k + 1 - 1 : Int) = 2 * k by omega, Int.mul_left_comm]⟩
theorem ff_core {D : Int} {lp lq : List (Int × Nat)} (hF : FF (D :: (lp.map Prod.fst ++ lq.map Prod.fst))) (hD : (lp.length : Int) = D) (hpq : ∀ x ∈ lp, ∀ y ∈ lq, y.1 <= x.1) (hq : ∀ y ∈ lq, y.1 <= D) (hev : ∃ k, D + sumI (lp.map Prod.fst ++ lq.map Prod.fst) = 2 * k)
  (hlp : ∀ x ∈ lp, x.2 < 3) (hlq : ∀ x ∈ lq, x.2 < 3)
  (l1 : ∀ d, (d, 1) ∈ lq -> (lp.length + lq.length : Int) - (cL' 2 lp + cL' 2 lq) <= d) (l2 : ∀ d, (d, 2) ∈ lp -> d <= cL' 1 lp + cL' 1 lq) (l3 : ∀ d, (d, 0) ∈ lq -> cL' 1 lp + cL' 1 lq <= d) : fp lp lq <= 0 := by
 have np := cL_len lp hlp
 have nq := cL_len lq hlq
 have p0 := cL_nn 0 lp
 have p1 := cL_nn 1 lp
 have p2 := cL_nn 2 lp
 have q0 := cL_nn 0 lq
 have q1 := cL_nn 1 lq
 have q2 := cL_nn 2 lq
 have key : ∀ (v : Nat) (lp' lq' : List (Int × Nat)), v < 3 -> (∀ x ∈ lp', x.2 < 3) -> (∀ x ∈ lq', x.2 < 3) -> lp'.map Prod.fst = lp.map Prod.fst -> lq'.map Prod.fst = lq.map Prod.fst -> fv ((D, v) :: (lp' ++ lq')) <= 0 := by
  intro v lp' lq' hv h1 h2 h3 h4
  refine hF _ ?_ ?_
  ·intro x hx
   rcases List.mem_cons.1 hx with rfl | hx
   ·exact hv
   ·rcases List.mem_append.1 hx with hx | hx
    ·exact h1 x hx
    ·exact h2 x hx
  ·simp only [List.map_cons, List.map_append, h3, h4]
   exact .refl _
 by_cases ha : cL' 1 lq = 0
 ·by_cases hb : cL' 2 lp = 0
  ·-- nothing to change
   have h := key 0 lp lq (by omega) hlp hlq rfl rfl
   unfold fv at h
   simp only [sL, cL', sL_app, cL_app, List.length_cons, List.length_append] at h
   unfold fp
   simp at h
   have e : ((lp.length : Int) + (lq.length : Int) - (cL' 2 lp + cL' 2 lq)) = (lp.length + lq.length - 1 - (cL' 2 lp + cL' 2 lq)) + 1 := by omega
   rw [e, Int.mul_add, Int.mul_one] at h
   omega
  ·-- S within lp, T meets lp: the node and S against T and the middle of lq
   obtain ⟨dy, hy⟩ := cL_pos hb
   have hdy := l2 dy hy
   have hz : ∀ d, (d, 0) ∈ lq -> d = cL' 1 lp + cL' 1 lq := fun d hd => by
    have h1 := l3 d hd
    have h2 := hpq _ hy _ hd
    simp at h2
    omega
   have h := key 1 lp (lq.map (rlb 0 2)) (by omega) hlp (rlb_lt (by omega) hlq) rfl (rlb_fst 0 2 lq)
   obtain ⟨c1, c2, c3⟩ := rlb_c (a := 0) (b := 2) (by omega) lq
   obtain ⟨c4, c5⟩ := c3 1 (by omega) (by omega)
   obtain ⟨d1, d2, d3⟩ := rlb_s (a := 0) (b := 2) (by omega) _ lq hz
   unfold fv at h
   simp only [sL, cL', sL_app, cL_app, List.length_cons, List.length_append, List.length_map, c1, c4, c5, d1] at h
   unfold fp
   simp at h
   rw [ha] at h ⊢
   have s1 : sL 1 lq = 0 := sL_none ha
   rw [s1] at h ⊢
   have e1 : ((lp.length : Int) + (lq.length : Int) - (cL' 2 lp + (cL' 2 lq + cL' 0 lq))) = cL' 1 lp + cL' 0 lp := by omega
   have e2 : ((lp.length : Int) + (lq.length : Int) - 1 - (cL' 2 lp + cL' 2 lq)) = cL' 1 lp + cL' 0 lp + cL' 0 lq - 1 := by omega
   rw [e2]
   rw [e1] at h
   simp only [Int.add_zero, Int.zero_add] at h ⊢
   rw [Int.add_mul, Int.one_mul] at h
   rw [Int.mul_sub, Int.mul_one, Int.mul_add]
   omega
 ·obtain ⟨dx, hx⟩ := cL_pos ha
  have hdx := l1 dx hx
  have hxD := hq _ hx
  simp at hxD
  by_cases hb : cL' 2 lp = 0
  ·omega
  ·obtain ⟨dy, hy⟩ := cL_pos hb
   have hdy := l2 dy hy
   have hxy := hpq _ hy _ hx
   simp at hxy
   have m0 : cL' 0 lp = 0 := by omega
   have m1 : cL' 0 lq = 0 := by omega
   have hX : ∀ d, (d, 1) ∈ lq -> d = cL' 1 lp + cL' 1 lq := fun d hd => by
    have h1 := l1 d hd
    have h2 := hpq _ hy _ hd
    simp at h2
    omega
   have hY : ∀ d, (d, 2) ∈ lp -> d = cL' 1 lp + cL' 1 lq := fun d hd => by
    have h1 := l2 d hd
    have h2 := hpq _ hd _ hx
    simp at h2
    omega
   have h := key 0 (lp.map (rlb 2 0)) (lq.map (rlb 1 0)) (by omega) (rlb_lt (by omega) hlp) (rlb_lt (by omega) hlq) (rlb_fst 2 0 lp) (rlb_fst 1 0 lq)
   obtain ⟨_, c2, c3⟩ := rlb_c (a := 2) (b := 0) (by omega) lp
   obtain ⟨c4, c5⟩ := c3 1 (by omega) (by omega)
   obtain ⟨_, b2, b3⟩ := rlb_c (a := 1) (b := 0) (by omega) lq
   obtain ⟨b4, b5⟩ := b3 2 (by omega) (by omega)
   obtain ⟨_, y2, y3⟩ := rlb_s (a := 2) (b := 0) (by omega) _ lp hY
   obtain ⟨_, x2, x3⟩ := rlb_s (a := 1) (b := 0) (by omega) _ lq hX
   unfold fv at h
   simp only [sL, cL', sL_app, cL_app, List.length_cons, List.length_append, List.length_map, c2, c4, c5, b2, b4, b5, y3, x3] at h
   simp at h
   obtain ⟨k, hk⟩ := hev
   rw [sumI_app, sL_sum lp hlp, sL_sum lq hlq, sL_none m0, sL_none m1] at hk
   unfold fp
   have e2 : ((lp.length : Int) + (lq.length : Int) - 1 - (cL' 2 lp + cL' 2 lq)) = cL' 1 lp + cL' 1 lq - 1 := by omega
   rw [e2]
   have e1 : ((lp.length : Int) + (lq.length : Int) - cL' 2 lq) = cL' 1 lp + cL' 1 lq + cL' 2 lp := by omega
   rw [e1] at h
   rw [x2, y2] at hk ⊢
   obtain ⟨j, hj⟩ := even_mul_pred (cL' 1 lp + cL' 1 lq)
   rw [hj]
   generalize hA : cL' 1 lp = A at *
   generalize hB : cL' 1 lq = B at *
   generalize hC : cL' 2 lp = C at *
   have hBC : 0 <= (B - 1) * (C - 1) := Int.mul_nonneg (by omega) (by omega)
   have ex1 : (B - 1) * (C - 1) = B * C - B - C + 1 := by rw [Int.sub_mul, Int.mul_sub]; omega
   have ex2 : A * (A + B + C) = A * A + A * B + A * C := by rw [Int.mul_add, Int.mul_add]
   have ex3 : (A + B) * (A + B - 1) = A * A + A * B + (A * B + B * B) - A - B := by rw [Int.mul_sub, Int.mul_add, Int.add_mul, Int.add_mul, Int.mul_comm B A]; omega
   have ex4 : (A + B) * B = A * B + B * B := Int.add_mul _ _ _
   have ex5 : (A + B) * C = A * C + B * C := Int.add_mul _ _ _
   rw [ex2] at h
   rw [ex3] at hj
   rw [ex4, ex5] at hk ⊢
   omega
theorem sw_mem {l1 l2 : List (Int × Nat)} {d : Int} {a b : Nat} : ∀ y ∈ l1 ++ (d, b) :: l2, ∃ c, (y.1, c) ∈ l1 ++ (d, a) :: l2 := by
 intro y hy
 rcases List.mem_append.1 hy with h | h
 ·exact ⟨y.2, List.mem_append_left _ h⟩
 ·rcases List.mem_cons.1 h with rfl | h
  ·exact ⟨a, by simp⟩
  ·exact ⟨y.2, List.mem_append_right _ (List.mem_cons_of_mem _ h)⟩
theorem sw_lt {l1 l2 : List (Int × Nat)} {d : Int} {a b : Nat} (hb : b < 3) (h : ∀ x ∈ l1 ++ (d, a) :: l2, x.2 < 3) : ∀ x ∈ l1 ++ (d, b) :: l2, x.2 < 3 := by
 intro x hx
 rcases List.mem_append.1 hx with k | k
 ·exact h x (List.mem_append_left _ k)
 ·rcases List.mem_cons.1 k with rfl | k
  ·exact hb
  ·exact h x (List.mem_append_right _ (List.mem_cons_of_mem _ k))
theorem ff_move {D : Int} : ∀ (n : Nat) (lp lq : List (Int × Nat)), FF (D :: (lp.map Prod.fst ++ lq.map Prod.fst)) -> (lp.length : Int) = D -> (∀ x ∈ lp, ∀ y ∈ lq, y.1 <= x.1) -> (∀ y ∈ lq, y.1 <= D) -> (∃ k, D + sumI (lp.map Prod.fst ++ lq.map Prod.fst) = 2 * k) ->
  (∀ x ∈ lp, x.2 < 3) -> (∀ x ∈ lq, x.2 < 3) -> 2 * cL' 1 lq + 2 * cL' 2 lp + cL' 0 lq < n -> fp lp lq <= 0
 | 0, lp, lq, _, _, _, _, _, _, _, hm => by
   have := cL_nn 1 lq
   have := cL_nn 2 lp
   have := cL_nn 0 lq
   omega
 | n + 1, lp, lq, hF, hD, hpq, hq, hev, hlp, hlq, hm => by
   by_cases h1 : ∃ d, (d, 1) ∈ lq /\ d < (lp.length + lq.length : Int) - (cL' 2 lp + cL' 2 lq)
   ·obtain ⟨d, hd, hlt⟩ := h1
    obtain ⟨l1, l2, rfl⟩ := List.append_of_mem hd
    have hf : (l1 ++ (d, 0) :: l2).map Prod.fst = (l1 ++ (d, 1) :: l2).map Prod.fst := by simp
    have mem := sw_mem (l1 := l1) (l2 := l2) (d := d) (a := 1) (b := 0)
    have c1 := cL_swap (l1 := l1) (l2 := l2) (d := d) (a := 1) (b := 0) 1
    have c0 := cL_swap (l1 := l1) (l2 := l2) (d := d) (a := 1) (b := 0) 0
    have c2 := cL_swap (l1 := l1) (l2 := l2) (d := d) (a := 1) (b := 0) 2
    have s1 := sL_swap (l1 := l1) (l2 := l2) (d := d) (a := 1) (b := 0) 1
    have s2 := sL_swap (l1 := l1) (l2 := l2) (d := d) (a := 1) (b := 0) 2
    simp at c1 c0 c2 s1 s2
    have ih := ff_move n lp (l1 ++ (d, 0) :: l2) (by rw [hf]; exact hF) hD (fun x hx y hy => by obtain ⟨b, hb⟩ := mem y hy; exact hpq x hx (y.1, b) hb) (fun y hy => by obtain ⟨b, hb⟩ := mem y hy; exact hq (y.1, b) hb) (by rw [hf]; exact hev) hlp
     (sw_lt (by omega) hlq) (by omega)
    unfold fp at ih ⊢
    have el : ((l1 ++ (d, 0) :: l2).length : Int) = ((l1 ++ (d, 1) :: l2).length : Int) := by simp
    rw [el, c1, c2, s1, s2] at ih
    generalize hX : ((lp.length : Int) + ((l1 ++ (d, 1) :: l2).length : Int) - 1 - (cL' 2 lp + cL' 2 (l1 ++ (d, 1) :: l2))) = X at *
    have e : (cL' 1 lp + (cL' 1 (l1 ++ (d, 1) :: l2) - 1)) * X = (cL' 1 lp + cL' 1 (l1 ++ (d, 1) :: l2)) * X - X := by
     rw [show cL' 1 lp + (cL' 1 (l1 ++ (d, 1) :: l2) - 1) = (cL' 1 lp + cL' 1 (l1 ++ (d, 1) :: l2)) - 1 by omega, Int.sub_mul, Int.one_mul]
    rw [e] at ih
    omega
   ·by_cases h2 : ∃ d, (d, 2) ∈ lp /\ cL' 1 lp + cL' 1 lq < d
    ·obtain ⟨d, hd, hlt⟩ := h2
     obtain ⟨l1, l2, rfl⟩ := List.append_of_mem hd
     have hf : (l1 ++ (d, 0) :: l2).map Prod.fst = (l1 ++ (d, 2) :: l2).map Prod.fst := by simp
     have mem := sw_mem (l1 := l1) (l2 := l2) (d := d) (a := 2) (b := 0)
     have c1 := cL_swap (l1 := l1) (l2 := l2) (d := d) (a := 2) (b := 0) 1
     have c2 := cL_swap (l1 := l1) (l2 := l2) (d := d) (a := 2) (b := 0) 2
     have s1 := sL_swap (l1 := l1) (l2 := l2) (d := d) (a := 2) (b := 0) 1
     have s2 := sL_swap (l1 := l1) (l2 := l2) (d := d) (a := 2) (b := 0) 2
     simp at c1 c2 s1 s2
     have el : ((l1 ++ (d, 0) :: l2).length : Int) = ((l1 ++ (d, 2) :: l2).length : Int) := by simp
     have ih := ff_move n (l1 ++ (d, 0) :: l2) lq (by rw [hf]; exact hF) (by rw [el]; exact hD) (fun x hx y hy => by obtain ⟨b, hb⟩ := mem x hx; exact hpq (x.1, b) hb y hy) hq (by rw [hf]; exact hev)
      (sw_lt (by omega) hlp) hlq (by omega)
     unfold fp at ih ⊢
     rw [el, c1, c2, s1, s2] at ih
     generalize hX : (cL' 1 (l1 ++ (d, 2) :: l2) + cL' 1 lq) = X at *
     have e : X * (((l1 ++ (d, 2) :: l2).length : Int) + (lq.length : Int) - 1 - (cL' 2 (l1 ++ (d, 2) :: l2) - 1 + cL' 2 lq)) = X * (((l1 ++ (d, 2) :: l2).length : Int) + (lq.length : Int) - 1 - (cL' 2 (l1 ++ (d, 2) :: l2) + cL' 2 lq)) + X := by
      rw [show ((l1 ++ (d, 2) :: l2).length : Int) + (lq.length : Int) - 1 - (cL' 2 (l1 ++ (d, 2) :: l2) - 1 + cL' 2 lq) = (((l1 ++ (d, 2) :: l2).length : Int) + (lq.length : Int) - 1 - (cL' 2 (l1 ++ (d, 2) :: l2) + cL' 2 lq)) + 1 by omega, Int.mul_add, Int.mul_one]
     rw [e] at ih
     omega
    ·by_cases h3 : ∃ d, (d, 0) ∈ lq /\ d < cL' 1 lp + cL' 1 lq
     ·obtain ⟨d, hd, hlt⟩ := h3
      obtain ⟨l1, l2, rfl⟩ := List.append_of_mem hd
      have hf : (l1 ++ (d, 2) :: l2).map Prod.fst = (l1 ++ (d, 0) :: l2).map Prod.fst := by simp
      have mem := sw_mem (l1 := l1) (l2 := l2) (d := d) (a := 0) (b := 2)
      have c1 := cL_swap (l1 := l1) (l2 := l2) (d := d) (a := 0) (b := 2) 1
      have c0 := cL_swap (l1 := l1) (l2 := l2) (d := d) (a := 0) (b := 2) 0
      have c2 := cL_swap (l1 := l1) (l2 := l2) (d := d) (a := 0) (b := 2) 2
      have s1 := sL_swap (l1 := l1) (l2 := l2) (d := d) (a := 0) (b := 2) 1
      have s2 := sL_swap (l1 := l1) (l2 := l2) (d := d) (a := 0) (b := 2) 2
      simp at c1 c0 c2 s1 s2
      have el : ((l1 ++ (d, 2) :: l2).length : Int) = ((l1 ++ (d, 0) :: l2).length : Int) := by simp
      have ih := ff_move n lp (l1 ++ (d, 2) :: l2) (by rw [hf]; exact hF) hD (fun x hx y hy => by obtain ⟨b, hb⟩ := mem y hy; exact hpq x hx (y.1, b) hb) (fun y hy => by obtain ⟨b, hb⟩ := mem y hy; exact hq (y.1, b) hb) (by rw [hf]; exact hev) hlp
       (sw_lt (by omega) hlq) (by omega)
      unfold fp at ih ⊢
      rw [el, c1, c2, s1, s2] at ih
      generalize hX : (cL' 1 lp + cL' 1 (l1 ++ (d, 0) :: l2)) = X at *
      have e : X * ((lp.length : Int) + ((l1 ++ (d, 0) :: l2).length : Int) - 1 - (cL' 2 lp + (cL' 2 (l1 ++ (d, 0) :: l2) + 1))) = X * ((lp.length : Int) + ((l1 ++ (d, 0) :: l2).length : Int) - 1 - (cL' 2 lp + cL' 2 (l1 ++ (d, 0) :: l2))) - X := by
       rw [show (lp.length : Int) + ((l1 ++ (d, 0) :: l2).length : Int) - 1 - (cL' 2 lp + (cL' 2 (l1 ++ (d, 0) :: l2) + 1)) = ((lp.length : Int) + ((l1 ++ (d, 0) :: l2).length : Int) - 1 - (cL' 2 lp + cL' 2 (l1 ++ (d, 0) :: l2))) - 1 by omega, Int.mul_sub, Int.mul_one]
      rw [e] at ih
      omega
     ·exact ff_core hF hD hpq hq hev hlp hlq (fun d hd => by
       have : ¬ _ := fun k => h1 ⟨d, hd, k⟩
       omega) (fun d hd => by
       have : ¬ _ := fun k => h2 ⟨d, hd, k⟩
       omega) (fun d hd => by
       have : ¬ _ := fun k => h3 ⟨d, hd, k⟩
       omega)
/- Serving the nodes one after another succeeds exactly where the condition holds and the sum is even. -/
def dec1 (x : Int × Int) : Int × Int := (x.1, x.2 - 1)
theorem inn_spec (v : Int) : ∀ (k : Nat) (A B out : List (Int × Int)), inn v k A.length (A ++ B) out = if k <= B.length /\ ∀ x ∈ B.take k, x.2 ≠ 0 then some (A ++ (B.take k).map dec1 ++ B.drop k, out ++ (B.take k).map fun x => (v, x.1)) else none
 | 0, A, B, out => by simp [inn]
 | k + 1, A, [], out => by simp [inn]
 | k + 1, A, (w, d) :: B, out => by
   unfold inn
   have e : (A ++ (w, d) :: B)[A.length]? = some (w, d) := by simp
   rw [e]
   have e2 : (A ++ (w, d) :: B).set A.length (w, d - 1) = (A ++ [(w, d - 1)]) ++ B := by simp
   simp only [e2]
   have ih := inn_spec v k (A ++ [(w, d - 1)]) B (out ++ [(v, w)])
   rw [List.length_append, List.length_singleton] at ih
   rw [ih]
   by_cases hd : d = 0
   ·subst hd
    rw [if_pos rfl, if_neg (fun h => h.2 (w, 0) (by simp) rfl)]
   ·rw [if_neg hd]
    by_cases hc : k <= B.length /\ ∀ x ∈ B.take k, x.2 ≠ 0
    ·rw [if_pos hc, if_pos ⟨by simp; exact hc.1, fun x hx => by
      rw [List.take_succ_cons] at hx
      rcases List.mem_cons.1 hx with rfl | hx
      ·exact hd
      ·exact hc.2 x hx⟩]
     simp [dec1]
    ·rw [if_neg hc, if_neg (fun h => hc ⟨by simpa using h.1, fun x hx => h.2 x (by rw [List.take_succ_cons]; exact List.mem_cons_of_mem _ hx)⟩)]
theorem perm_lift {α β : Type} {f : α -> β} {A B : List β} (h : A.Perm B) : ∀ L : List α, L.map f = A -> ∃ L', L'.map f = B /\ L.Perm L' := by
 induction h with
 | nil => intro L hL; exact ⟨L, hL, .refl _⟩
 | cons x _ ih =>
   intro L hL
   cases L with
   | nil => cases hL
   | cons y r =>
     simp only [List.map_cons, List.cons.injEq] at hL
     obtain ⟨L', h1, h2⟩ := ih r hL.2
     exact ⟨y :: L', by rw [List.map_cons, h1, hL.1], h2.cons y⟩
 | swap x y l =>
   intro L hL
   match L, hL with
   | a :: b :: r, hL =>
     simp only [List.map_cons, List.cons.injEq] at hL
     exact ⟨b :: a :: r, by simp only [List.map_cons, hL.1, hL.2.1, hL.2.2], .swap b a r⟩
 | trans _ _ h1 h2 =>
   intro L hL
   obtain ⟨L1, e1, p1⟩ := h1 L hL
   obtain ⟨L2, e2, p2⟩ := h2 L1 e1
   exact ⟨L2, e2, p1.trans p2⟩
theorem sL_perm {b : Nat} {l m : List (Int × Nat)} (h : l.Perm m) : sL b l = sL b m := by
 induction h with
 | nil => rfl
 | cons x _ ih => simp only [sL, ih]
 | swap x y l => simp only [sL]; omega
 | trans _ _ h1 h2 => omega
theorem cL_perm {b : Nat} {l m : List (Int × Nat)} (h : l.Perm m) : cL' b l = cL' b m := by
 induction h with
 | nil => rfl
 | cons x _ ih => simp only [cL', ih]
 | swap x y l => simp only [cL']; omega
 | trans _ _ h1 h2 => omega
theorem fv_perm {l m : List (Int × Nat)} (h : l.Perm m) : fv l = fv m := by
 unfold fv; rw [sL_perm h, sL_perm h, cL_perm h, cL_perm h, h.length_eq]
theorem FF.of {d : List Int} (h : ∀ L : List (Int × Nat), (∀ x ∈ L, x.2 < 3) -> L.map Prod.fst = d -> fv L <= 0) : FF d := by
 intro L hl hp
 obtain ⟨L', e, p⟩ := perm_lift hp L rfl
 rw [fv_perm p]
 exact h L' (fun x hx => hl x (p.mem_iff.2 hx)) e
theorem map_split {α β : Type} {f : α -> β} : ∀ {A B : List β} {L : List α}, L.map f = A ++ B -> ∃ l m, L = l ++ m /\ l.map f = A /\ m.map f = B
 | [], B, L, h => ⟨[], L, rfl, rfl, h⟩
 | a :: A, B, [], h => by cases h
 | a :: A, B, x :: L, h => by
   simp only [List.map_cons, List.cons_append, List.cons.injEq] at h
   obtain ⟨l, m, rfl, h1, h2⟩ := map_split h.2
   exact ⟨x :: l, m, rfl, by rw [List.map_cons, h.1, h1], h2⟩
def up1 (x : Int × Nat) : Int × Nat := (x.1 + 1, x.2)
theorem up_s (b : Nat) : ∀ l, sL b (l.map up1) = sL b l + cL' b l /\ cL' b (l.map up1) = cL' b l
 | [] => ⟨rfl, rfl⟩
 | x :: r => by
   obtain ⟨h1, h2⟩ := up_s b r
   simp only [List.map_cons, sL, cL', up1, h1, h2]
   constructor
   ·split <;> omega
   ·trivial
theorem fv_up (lp lq : List (Int × Nat)) : fv (lp ++ lq) = fp (lp.map up1) lq := by
 unfold fv fp
 obtain ⟨h1, h2⟩ := up_s 1 lp
 obtain ⟨h3, h4⟩ := up_s 2 lp
 rw [sL_app, sL_app, cL_app, cL_app, h1, h2, h3, h4, List.length_append, List.length_map]
 rw [show ((lp.length + lq.length : Nat) : Int) = (lp.length : Int) + lq.length by omega]
 omega
theorem ff_step {D : Int} {P Q : List Int} (hF : FF (D :: (P ++ Q))) (hD : (P.length : Int) = D) (hpq : ∀ x ∈ P, ∀ y ∈ Q, y <= x) (hq : ∀ y ∈ Q, y <= D) (hev : ∃ k, D + sumI (P ++ Q) = 2 * k) : FF (P.map (· - 1) ++ Q) := by
 refine .of fun L hl hm => ?_
 obtain ⟨l, m, rfl, h1, h2⟩ := map_split hm
 have e1 : (l.map up1).map Prod.fst = P := by
  have : (l.map up1).map Prod.fst = (l.map Prod.fst).map (· + 1) := by simp [List.map_map, Function.comp_def, up1]
  rw [this, h1, List.map_map]
  have : ((· + 1) ∘ (· - 1) : Int -> Int) = id := by funext x; simp
  rw [this, List.map_id]
 rw [fv_up]
 have hlp : (((l.map up1).length : Nat) : Int) = D := by
  have : (l.map up1).length = P.length := by rw [<- e1]; simp
  rw [this]; exact hD
 refine ff_move ((2 * cL' 1 m + 2 * cL' 2 (l.map up1) + cL' 0 m).toNat + 1) (l.map up1) m (by rw [e1, h2]; exact hF) hlp (fun x hx y hy => ?_) (fun y hy => hq _ (by rw [<- h2]; exact List.mem_map_of_mem hy)) (by rw [e1, h2]; exact hev) ?_ (fun x hx => hl x (List.mem_append_right _ hx)) (by omega)
 ·exact hpq _ (by rw [<- e1]; exact List.mem_map_of_mem hx) _ (by rw [<- h2]; exact List.mem_map_of_mem hy)
 ·intro x hx
  obtain ⟨y, hy, rfl⟩ := List.mem_map.1 hx
  exact hl y (List.mem_append_left _ hy)
theorem sumI_dec : ∀ P : List Int, sumI (P.map (· - 1)) = sumI P - P.length
 | [] => rfl
 | x :: r => by
   have ih := sumI_dec r
   simp only [sumI, List.map_cons, List.foldr_cons, List.length_cons] at ih ⊢
   omega
theorem lab_s (a b : Nat) : ∀ l : List Int, sL b (l.map fun x => (x, a)) = (if a = b then sumI l else 0) /\ cL' b (l.map fun x => (x, a)) = if a = b then (l.length : Int) else 0
 | [] => by simp [sL, cL', sumI]
 | x :: r => by
   obtain ⟨h1, h2⟩ := lab_s a b r
   simp only [List.map_cons, sL, cL', h1, h2, sumI, List.foldr_cons, List.length_cons]
   by_cases h : a = b
   ·subst h; simp only [if_true]; exact ⟨trivial, by omega⟩
   ·simp only [h, if_false]; exact ⟨rfl, rfl⟩
theorem lab_fst (a : Nat) (l : List Int) : (l.map fun x => (x, a)).map Prod.fst = l := by
 rw [List.map_map]; exact List.map_id l
theorem lab_lt {a : Nat} (ha : a < 3) (l : List Int) : ∀ x ∈ l.map (fun x => (x, a)), x.2 < 3 := by
 intro x hx
 obtain ⟨y, _, rfl⟩ := List.mem_map.1 hx
 exact ha
theorem ff_head {D : Int} {a z : List Int} (hF : FF (D :: (a ++ z))) (hz : ∀ x ∈ z, x = 0) : D <= a.length := by
 have h := hF ((D, 1) :: (a.map (fun x => (x, 0)) ++ z.map fun x => (x, 2))) (fun x hx => by
  rcases List.mem_cons.1 hx with rfl | hx
  ·show 1 < 3; omega
  ·rcases List.mem_append.1 hx with hx | hx
   ·exact lab_lt (by omega) a x hx
   ·exact lab_lt (by omega) z x hx) (by
  rw [List.map_cons, List.map_append, lab_fst, lab_fst])
 have hs : sumI z = 0 := by
  clear h hF
  induction z with
  | nil => rfl
  | cons x r ih =>
    have h1 := hz x List.mem_cons_self
    have h2 := ih fun y hy => hz y (List.mem_cons_of_mem _ hy)
    simp only [sumI, List.foldr_cons] at h2 ⊢
    omega
 unfold fv at h
 simp only [sL, cL', sL_app, cL_app, (lab_s _ _ _).1, (lab_s _ _ _).2, List.length_cons, List.length_append, List.length_map, hs] at h
 simp at h
 omega
theorem ff_back {D : Int} {P Q : List Int} (hF : FF (P.map (· - 1) ++ Q)) (hD : (P.length : Int) = D) : FF (D :: (P ++ Q)) := by
 refine .of fun L hl hm => ?_
 cases L with
 | nil => cases hm
 | cons x L =>
   obtain ⟨xd, xv⟩ := x
   simp only [List.map_cons, List.cons.injEq] at hm
   obtain ⟨rfl, hm⟩ := hm
   obtain ⟨l, m, rfl, h1, h2⟩ := map_split hm
   have hx := hl _ List.mem_cons_self
   simp only at hx
   have hl1 : ∀ x ∈ l, x.2 < 3 := fun x hx => hl x (List.mem_cons_of_mem _ (List.mem_append_left _ hx))
   have hl2 : ∀ x ∈ m, x.2 < 3 := fun x hx => hl x (List.mem_cons_of_mem _ (List.mem_append_right _ hx))
   let dn : Int × Nat -> Int × Nat := fun x => (x.1 - 1, x.2)
   have eu : (l.map dn).map up1 = l := by
    rw [List.map_map]
    have : up1 ∘ dn = id := by funext x; simp [up1, dn]
    rw [this, List.map_id]
   have h := hF (l.map dn ++ m) (fun x hx => by
    rcases List.mem_append.1 hx with hx | hx
    ·obtain ⟨y, hy, rfl⟩ := List.mem_map.1 hx
     exact hl1 y hy
    ·exact hl2 x hx) (by
    rw [List.map_append, h2, <- h1, List.map_map, List.map_map]
    exact .refl _)
   rw [fv_up, eu] at h
   have nl := cL_len l hl1
   have nm := cL_len m hl2
   have a0 := cL_nn 0 l
   have a1 := cL_nn 1 l
   have a2 := cL_nn 2 l
   have b0 := cL_nn 0 m
   have b1 := cL_nn 1 m
   have b2 := cL_nn 2 m
   have hlen : (l.length : Int) = xd := by rw [<- hD, <- h1, List.length_map]
   unfold fp at h
   unfold fv
   simp only [sL, cL', sL_app, cL_app, List.length_cons, List.length_append]
   have e1 : (((l.length + m.length + 1 : Nat) : Int) - 1) = (l.length : Int) + m.length := by omega
   have hv : xv = 0 \/ xv = 1 \/ xv = 2 := by omega
   rw [e1]
   generalize hA : cL' 1 l + cL' 1 m = A at *
   generalize hB : cL' 2 l + cL' 2 m = B at *
   have e2 : A * ((l.length : Int) + m.length - 1 - B) = A * ((l.length : Int) + m.length - B) - A := by
    rw [show (l.length : Int) + m.length - 1 - B = ((l.length : Int) + m.length - B) - 1 by omega, Int.mul_sub, Int.mul_one]
   rw [e2] at h
   rcases hv with rfl | rfl | rfl
   ·simp
    omega
   ·simp
    rw [Int.add_mul, Int.one_mul]
    omega
   ·simp
    rw [show (l.length : Int) + m.length - (1 + B) = ((l.length : Int) + m.length - B) - 1 by omega, Int.mul_sub, Int.mul_one]
    omega
/- The numbers of which a graph can be made; the theorem of Erdos and Gallai. -/
def EvenS (l : List Int) : Prop := ∃ k, sumI l = 2 * k
theorem dec_snd (P : List (Int × Int)) : (P.map dec1).map Prod.snd = (P.map Prod.snd).map (· - 1) := by
 simp [List.map_map, Function.comp_def, dec1]
theorem pw_le {v d : Int} {r : List (Int × Int)} (h : ((v, d) :: r).Pairwise fun a b => leC cfM a b = true) : (∀ x ∈ r, x.2 <= d) /\ r.Pairwise (fun a b => b.2 <= a.2) := by
 obtain ⟨h1, h2⟩ := List.pairwise_cons.1 h
 refine ⟨fun x hx => ?_, h2.imp fun {a b} h => ?_⟩
 ·have := (leM _ _).1 (h1 x hx)
  simp only at this; omega
 ·have := (leM _ _).1 h
  omega
theorem otr_some : ∀ (n : Nat) (L out : List (Int × Int)), L.length = n -> (∀ x ∈ L, 0 <= x.2) -> ((otr n L out).isSome = true ↔ FF (L.map Prod.snd) /\ EvenS (L.map Prod.snd))
 | 0, L, out, hL, _ => by
   obtain rfl := List.eq_nil_of_length_eq_zero hL
   refine ⟨fun _ => ⟨.of fun L hl hm => ?_, 0, rfl⟩, fun _ => rfl⟩
   have : L = [] := by simpa using hm
   subst this
   simp [fv, sL, cL']
 | n + 1, L, out, hL, h0 => by
   have sp := isortC_perm cfM L
   have sl := isortC_length cfM L
   have sa := isortC_asc totM L
   obtain ⟨⟨v, d⟩, r, hs⟩ : ∃ y r, isortC cfM L = y :: r := by
    cases h : isortC cfM L with
    | nil => rw [h] at sl; simp at sl; omega
    | cons y r => exact ⟨y, r, rfl⟩
   have hotr : otr (n + 1) L out = if (r.length : Int) < d then none else match inn v d.toNat 0 r out with
    | none => none
    | some (r', out') => otr n r' out' := by rw [otr, hs]; rfl
   rw [hs] at sp sl sa
   have hrl : r.length = n := by simp at sl; omega
   obtain ⟨hle, hpw⟩ := pw_le sa
   have hd0 : 0 <= d := h0 (v, d) (sp.mem_iff.1 List.mem_cons_self)
   have hr0 : ∀ x ∈ r, 0 <= x.2 := fun x hx => h0 x (sp.mem_iff.1 (List.mem_cons_of_mem _ hx))
   have pm : (d :: r.map Prod.snd).Perm (L.map Prod.snd) := sp.map Prod.snd
   have hFF : FF (L.map Prod.snd) ↔ FF (d :: r.map Prod.snd) := ⟨fun h => h.perm pm.symm, fun h => h.perm pm⟩
   have hEv : EvenS (L.map Prod.snd) ↔ EvenS (d :: r.map Prod.snd) := by unfold EvenS; rw [sumI_perm pm]
   rw [hotr, hFF, hEv]
   have isp := inn_spec v d.toNat [] r out
   simp only [List.length_nil, List.nil_append] at isp
   rw [isp]
   by_cases hdr : (r.length : Int) < d
   ·rw [if_pos hdr]
    simp only [Option.isSome_none, Bool.false_eq_true, false_iff, not_and]
    intro hF
    have := ff_head (a := r.map Prod.snd) (z := []) (by simpa using hF) (by simp)
    simp at this
    omega
   ·rw [if_neg hdr]
    have hk : d.toNat <= r.length := by omega
    by_cases hz : ∀ x ∈ r.take d.toNat, x.2 ≠ 0
    ·rw [if_pos ⟨hk, hz⟩]
     simp only
     have ep : (r.map Prod.snd) = (r.take d.toNat).map Prod.snd ++ (r.drop d.toNat).map Prod.snd := by rw [<- List.map_append, List.take_append_drop]
     have er : ((r.take d.toNat).map dec1 ++ r.drop d.toNat).map Prod.snd = ((r.take d.toNat).map Prod.snd).map (· - 1) ++ (r.drop d.toNat).map Prod.snd := by rw [List.map_append, dec_snd]
     have hlenP : (((r.take d.toNat).map Prod.snd).length : Int) = d := by simp; omega
     have ih := otr_some n ((r.take d.toNat).map dec1 ++ r.drop d.toNat) (out ++ (r.take d.toNat).map fun x => (v, x.1)) (by simp; omega) (fun x hx => by
      rcases List.mem_append.1 hx with hx | hx
      ·obtain ⟨y, hy, rfl⟩ := List.mem_map.1 hx
       have h1 := hz y hy
       have h2 := hr0 y (List.mem_of_mem_take hy)
       simp only [dec1]; omega
      ·exact hr0 x (List.mem_of_mem_drop hx))
     rw [ih, er, ep]
     have hpq : ∀ x ∈ (r.take d.toNat).map Prod.snd, ∀ y ∈ (r.drop d.toNat).map Prod.snd, y <= x := by
      intro x hx y hy
      obtain ⟨a, ha, rfl⟩ := List.mem_map.1 hx
      obtain ⟨b, hb, rfl⟩ := List.mem_map.1 hy
      have := hpw
      rw [<- List.take_append_drop d.toNat r, List.pairwise_append] at this
      exact this.2.2 a ha b hb
     have hq : ∀ y ∈ (r.drop d.toNat).map Prod.snd, y <= d := by
      intro y hy
      obtain ⟨b, hb, rfl⟩ := List.mem_map.1 hy
      exact hle b (List.mem_of_mem_drop hb)
     have hev : EvenS (d :: ((r.take d.toNat).map Prod.snd ++ (r.drop d.toNat).map Prod.snd)) ↔ EvenS (((r.take d.toNat).map Prod.snd).map (· - 1) ++ (r.drop d.toNat).map Prod.snd) := by
      unfold EvenS
      rw [sumI_app _ ((r.drop d.toNat).map Prod.snd), sumI_dec, hlenP]
      have : sumI (d :: ((r.take d.toNat).map Prod.snd ++ (r.drop d.toNat).map Prod.snd)) = d + (sumI ((r.take d.toNat).map Prod.snd) + sumI ((r.drop d.toNat).map Prod.snd)) := by
       rw [<- sumI_app]; rfl
      rw [this]
      constructor
      ·rintro ⟨k, hk⟩; exact ⟨k - d, by omega⟩
      ·rintro ⟨k, hk⟩; exact ⟨k + d, by omega⟩
     constructor
     ·rintro ⟨h1, h2⟩
      exact ⟨ff_back h1 hlenP, hev.2 h2⟩
     ·rintro ⟨h1, h2⟩
      exact ⟨ff_step h1 hlenP hpq hq h2, hev.1 h2⟩
    ·rw [if_neg (fun h => hz h.2)]
     simp only [Option.isSome_none, Bool.false_eq_true, false_iff, not_and]
     intro hF
     exfalso
     apply hz
     intro x hx e
     obtain ⟨a, b, hab⟩ := List.append_of_mem hx
     have hlen : a.length < d.toNat := by
      have := congrArg List.length hab
      simp at this; omega
     have hr : r = a ++ (x :: (b ++ r.drop d.toNat)) := by
      have := (List.take_append_drop d.toNat r).symm
      rw [hab] at this
      simpa using this
     have hp2 := hpw
     rw [hr, List.pairwise_append] at hp2
     obtain ⟨_, hp3, _⟩ := hp2
     obtain ⟨hp4, _⟩ := List.pairwise_cons.1 hp3
     have hF' : FF (d :: (a.map Prod.snd ++ (x :: (b ++ r.drop d.toNat)).map Prod.snd)) := by
      rw [<- List.map_append, <- hr]; exact hF
     have := ff_head hF' (fun y hy => by
      obtain ⟨z, hzm, rfl⟩ := List.mem_map.1 hy
      have hz0 : 0 <= z.2 := hr0 z (by rw [hr]; exact List.mem_append_right _ hzm)
      rcases List.mem_cons.1 hzm with rfl | hzm
      ·exact e
      ·have := hp4 z hzm
       omega)
     simp at this
     omega
theorem needs_snd (l : List Int) : (needs l).map Prod.snd = l := by
 unfold needs
 rw [List.map_map]
 apply List.ext_getElem?
 intro i
 simp [List.getElem?_zipIdx]
 cases l[i]? <;> rfl
theorem rz_some {l : List Int} (h0 : ∀ d ∈ l, 0 <= d) : (rz l).isSome = true ↔ FF l /\ EvenS l := by
 have hn : ∀ x ∈ needs l, 0 <= x.2 := fun x hx => h0 _ (by rw [<- needs_snd l]; exact List.mem_map_of_mem hx)
 have hl : (needs l).length = l.length := by simp [needs]
 unfold rz
 have ho := otr_some l.length (needs l) [] hl hn
 rw [needs_snd] at ho
 split
 ·exact ho
 ·rename_i ha
  simp only [Option.isSome_none, Bool.false_eq_true, false_iff, not_and]
  intro hF
  exfalso
  apply ha
  refine List.all_eq_true.2 fun d hd => decide_eq_true ⟨h0 d hd, ?_⟩
  obtain ⟨a, b, rfl⟩ := List.append_of_mem hd
  have := ff_head (a := a ++ b) (z := []) (by
   refine hF.perm ?_
   simp only [List.append_nil]
   exact List.perm_middle) (by simp)
  simp at this ⊢
  omega
end Go.BmP
