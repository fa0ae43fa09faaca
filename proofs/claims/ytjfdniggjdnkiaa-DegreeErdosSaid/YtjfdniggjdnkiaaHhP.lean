/- Serving the nodes one after another succeeds exactly where the condition holds and the sum is even. -/
import Derived.Test.YtjfdniggjdnkiaaRzP
import Derived.Test.YtjfdniggjdnkiaaEgP
set_option linter.unusedSimpArgs false
set_option linter.unusedVariables false
namespace Go.BmP
open Go.Am Go.Bm
def dec1 (x : Int × Int) : Int × Int := (x.1, x.2 - 1)
theorem inn_spec (v : Int) : ∀ (k : Nat) (A B out : List (Int × Int)), inn v k A.length (A ++ B) out = if k ≤ B.length ∧ ∀ x ∈ B.take k, x.2 ≠ 0 then some (A ++ (B.take k).map dec1 ++ B.drop k, out ++ (B.take k).map fun x => (v, x.1)) else none
  | 0, A, B, out => by simp [inn]
  | k + 1, A, [], out => by simp [inn]
  | k + 1, A, (w, d) :: B, out => by
    unfold inn
    have e : (A ++ (w, d) :: B)[A.length]? = some (w, d) := by simp
    rw [e]
    have e2 : (A ++ (w, d) :: B).set A.length (w, d - 1) = (A ++ [(w, d - 1)]) ++ B := by simp
    simp only [e2]
    have ih := inn_spec v k (A ++ [(w, d - 1)]) B (out ++ [(v, w)])
    rw [List.length_append, List.length_singleton] at ih
    rw [ih]
    by_cases hd : d = 0
    · subst hd
      rw [if_pos rfl, if_neg (fun h => h.2 (w, 0) (by simp) rfl)]
    · rw [if_neg hd]
      by_cases hc : k ≤ B.length ∧ ∀ x ∈ B.take k, x.2 ≠ 0
      · rw [if_pos hc, if_pos ⟨by simp; exact hc.1, fun x hx => by
          rw [List.take_succ_cons] at hx
          rcases List.mem_cons.1 hx with rfl | hx
          · exact hd
          · exact hc.2 x hx⟩]
        simp [dec1]
      · rw [if_neg hc, if_neg (fun h => hc ⟨by simpa using h.1, fun x hx => h.2 x (by rw [List.take_succ_cons]; exact List.mem_cons_of_mem _ hx)⟩)]
theorem perm_lift {α β : Type} {f : α → β} {A B : List β} (h : A.Perm B) : ∀ L : List α, L.map f = A → ∃ L', L'.map f = B ∧ L.Perm L' := by
  induction h with
  | nil => intro L hL; exact ⟨L, hL, .refl _⟩
  | cons x _ ih =>
    intro L hL
    cases L with
    | nil => cases hL
    | cons y r =>
      simp only [List.map_cons, List.cons.injEq] at hL
      obtain ⟨L', h1, h2⟩ := ih r hL.2
      exact ⟨y :: L', by rw [List.map_cons, h1, hL.1], h2.cons y⟩
  | swap x y l =>
    intro L hL
    match L, hL with
    | a :: b :: r, hL =>
      simp only [List.map_cons, List.cons.injEq] at hL
      exact ⟨b :: a :: r, by simp only [List.map_cons, hL.1, hL.2.1, hL.2.2], .swap b a r⟩
  | trans _ _ h1 h2 =>
    intro L hL
    obtain ⟨L1, e1, p1⟩ := h1 L hL
    obtain ⟨L2, e2, p2⟩ := h2 L1 e1
    exact ⟨L2, e2, p1.trans p2⟩
theorem sL_perm {b : Nat} {l m : List (Int × Nat)} (h : l.Perm m) : sL b l = sL b m := by
  induction h with
  | nil => rfl
  | cons x _ ih => simp only [sL, ih]
  | swap x y l => simp only [sL]; omega
  | trans _ _ h1 h2 => omega
theorem cL_perm {b : Nat} {l m : List (Int × Nat)} (h : l.Perm m) : cL' b l = cL' b m := by
  induction h with
  | nil => rfl
  | cons x _ ih => simp only [cL', ih]
  | swap x y l => simp only [cL']; omega
  | trans _ _ h1 h2 => omega
theorem fv_perm {l m : List (Int × Nat)} (h : l.Perm m) : fv l = fv m := by
  unfold fv; rw [sL_perm h, sL_perm h, cL_perm h, cL_perm h, h.length_eq]
/-- It is enough to look at the numbers in one order. -/
theorem FF.of {d : List Int} (h : ∀ L : List (Int × Nat), (∀ x ∈ L, x.2 < 3) → L.map Prod.fst = d → fv L ≤ 0) : FF d := by
  intro L hl hp
  obtain ⟨L', e, p⟩ := perm_lift hp L rfl
  rw [fv_perm p]
  exact h L' (fun x hx => hl x (p.mem_iff.2 hx)) e
theorem map_split {α β : Type} {f : α → β} : ∀ {A B : List β} {L : List α}, L.map f = A ++ B → ∃ l m, L = l ++ m ∧ l.map f = A ∧ m.map f = B
  | [], B, L, h => ⟨[], L, rfl, rfl, h⟩
  | a :: A, B, [], h => by cases h
  | a :: A, B, x :: L, h => by
    simp only [List.map_cons, List.cons_append, List.cons.injEq] at h
    obtain ⟨l, m, rfl, h1, h2⟩ := map_split h.2
    exact ⟨x :: l, m, rfl, by rw [List.map_cons, h.1, h1], h2⟩
def up1 (x : Int × Nat) : Int × Nat := (x.1 + 1, x.2)
theorem up_s (b : Nat) : ∀ l, sL b (l.map up1) = sL b l + cL' b l ∧ cL' b (l.map up1) = cL' b l
  | [] => ⟨rfl, rfl⟩
  | x :: r => by
    obtain ⟨h1, h2⟩ := up_s b r
    simp only [List.map_cons, sL, cL', up1, h1, h2]
    constructor
    · split <;> omega
    · trivial
theorem fv_up (lp lq : List (Int × Nat)) : fv (lp ++ lq) = fp (lp.map up1) lq := by
  unfold fv fp
  obtain ⟨h1, h2⟩ := up_s 1 lp
  obtain ⟨h3, h4⟩ := up_s 2 lp
  rw [sL_app, sL_app, cL_app, cL_app, h1, h2, h3, h4, List.length_append, List.length_map]
  rw [show ((lp.length + lq.length : Nat) : Int) = (lp.length : Int) + lq.length by omega]
  omega
/-- The condition stays. -/
theorem ff_step {D : Int} {P Q : List Int} (hF : FF (D :: (P ++ Q))) (hD : (P.length : Int) = D) (hpq : ∀ x ∈ P, ∀ y ∈ Q, y ≤ x) (hq : ∀ y ∈ Q, y ≤ D) (hev : ∃ k, D + sumI (P ++ Q) = 2 * k) : FF (P.map (· - 1) ++ Q) := by
  refine .of fun L hl hm => ?_
  obtain ⟨l, m, rfl, h1, h2⟩ := map_split hm
  have e1 : (l.map up1).map Prod.fst = P := by
    have : (l.map up1).map Prod.fst = (l.map Prod.fst).map (· + 1) := by simp [List.map_map, Function.comp_def, up1]
    rw [this, h1, List.map_map]
    have : ((· + 1) ∘ (· - 1) : Int → Int) = id := by funext x; simp
    rw [this, List.map_id]
  rw [fv_up]
  have hlp : (((l.map up1).length : Nat) : Int) = D := by
    have : (l.map up1).length = P.length := by rw [← e1]; simp
    rw [this]; exact hD
  refine ff_move ((2 * cL' 1 m + 2 * cL' 2 (l.map up1) + cL' 0 m).toNat + 1) (l.map up1) m (by rw [e1, h2]; exact hF) hlp (fun x hx y hy => ?_) (fun y hy => hq _ (by rw [← h2]; exact List.mem_map_of_mem hy)) (by rw [e1, h2]; exact hev) ?_ (fun x hx => hl x (List.mem_append_right _ hx)) (by omega)
  · exact hpq _ (by rw [← e1]; exact List.mem_map_of_mem hx) _ (by rw [← h2]; exact List.mem_map_of_mem hy)
  · intro x hx
    obtain ⟨y, hy, rfl⟩ := List.mem_map.1 hx
    exact hl y (List.mem_append_left _ hy)
theorem sumI_dec : ∀ P : List Int, sumI (P.map (· - 1)) = sumI P - P.length
  | [] => rfl
  | x :: r => by
    have ih := sumI_dec r
    simp only [sumI, List.map_cons, List.foldr_cons, List.length_cons] at ih ⊢
    omega
/-- All get one label. -/
theorem lab_s (a b : Nat) : ∀ l : List Int, sL b (l.map fun x => (x, a)) = (if a = b then sumI l else 0) ∧ cL' b (l.map fun x => (x, a)) = if a = b then (l.length : Int) else 0
  | [] => by simp [sL, cL', sumI]
  | x :: r => by
    obtain ⟨h1, h2⟩ := lab_s a b r
    simp only [List.map_cons, sL, cL', h1, h2, sumI, List.foldr_cons, List.length_cons]
    by_cases h : a = b
    · subst h; simp only [if_true]; exact ⟨trivial, by omega⟩
    · simp only [h, if_false]; exact ⟨rfl, rfl⟩
theorem lab_fst (a : Nat) (l : List Int) : (l.map fun x => (x, a)).map Prod.fst = l := by
  rw [List.map_map]; exact List.map_id l
theorem lab_lt {a : Nat} (ha : a < 3) (l : List Int) : ∀ x ∈ l.map (fun x => (x, a)), x.2 < 3 := by
  intro x hx
  obtain ⟨y, _, rfl⟩ := List.mem_map.1 hx
  exact ha
/-- The first number is at most the number of those behind it that are left when a tail of zeros is taken away. -/
theorem ff_head {D : Int} {a z : List Int} (hF : FF (D :: (a ++ z))) (hz : ∀ x ∈ z, x = 0) : D ≤ a.length := by
  have h := hF ((D, 1) :: (a.map (fun x => (x, 0)) ++ z.map fun x => (x, 2))) (fun x hx => by
    rcases List.mem_cons.1 hx with rfl | hx
    · show 1 < 3; omega
    · rcases List.mem_append.1 hx with hx | hx
      · exact lab_lt (by omega) a x hx
      · exact lab_lt (by omega) z x hx) (by
    rw [List.map_cons, List.map_append, lab_fst, lab_fst])
  have hs : sumI z = 0 := by
    clear h hF
    induction z with
    | nil => rfl
    | cons x r ih =>
      have h1 := hz x List.mem_cons_self
      have h2 := ih fun y hy => hz y (List.mem_cons_of_mem _ hy)
      simp only [sumI, List.foldr_cons] at h2 ⊢
      omega
  unfold fv at h
  simp only [sL, cL', sL_app, cL_app, (lab_s _ _ _).1, (lab_s _ _ _).2, List.length_cons, List.length_append, List.length_map, hs] at h
  simp at h
  omega
theorem ff_back {D : Int} {P Q : List Int} (hF : FF (P.map (· - 1) ++ Q)) (hD : (P.length : Int) = D) : FF (D :: (P ++ Q)) := by
  refine .of fun L hl hm => ?_
  cases L with
  | nil => cases hm
  | cons x L =>
    obtain ⟨xd, xv⟩ := x
    simp only [List.map_cons, List.cons.injEq] at hm
    obtain ⟨rfl, hm⟩ := hm
    obtain ⟨l, m, rfl, h1, h2⟩ := map_split hm
    have hx := hl _ List.mem_cons_self
    simp only at hx
    have hl1 : ∀ x ∈ l, x.2 < 3 := fun x hx => hl x (List.mem_cons_of_mem _ (List.mem_append_left _ hx))
    have hl2 : ∀ x ∈ m, x.2 < 3 := fun x hx => hl x (List.mem_cons_of_mem _ (List.mem_append_right _ hx))
    let dn : Int × Nat → Int × Nat := fun x => (x.1 - 1, x.2)
    have eu : (l.map dn).map up1 = l := by
      rw [List.map_map]
      have : up1 ∘ dn = id := by funext x; simp [up1, dn]
      rw [this, List.map_id]
    have h := hF (l.map dn ++ m) (fun x hx => by
      rcases List.mem_append.1 hx with hx | hx
      · obtain ⟨y, hy, rfl⟩ := List.mem_map.1 hx
        exact hl1 y hy
      · exact hl2 x hx) (by
      rw [List.map_append, h2, ← h1, List.map_map, List.map_map]
      exact .refl _)
    rw [fv_up, eu] at h
    have nl := cL_len l hl1
    have nm := cL_len m hl2
    have a0 := cL_nn 0 l
    have a1 := cL_nn 1 l
    have a2 := cL_nn 2 l
    have b0 := cL_nn 0 m
    have b1 := cL_nn 1 m
    have b2 := cL_nn 2 m
    have hlen : (l.length : Int) = xd := by rw [← hD, ← h1, List.length_map]
    unfold fp at h
    unfold fv
    simp only [sL, cL', sL_app, cL_app, List.length_cons, List.length_append]
    have e1 : (((l.length + m.length + 1 : Nat) : Int) - 1) = (l.length : Int) + m.length := by omega
    have hv : xv = 0 ∨ xv = 1 ∨ xv = 2 := by omega
    rw [e1]
    generalize hA : cL' 1 l + cL' 1 m = A at *
    generalize hB : cL' 2 l + cL' 2 m = B at *
    have e2 : A * ((l.length : Int) + m.length - 1 - B) = A * ((l.length : Int) + m.length - B) - A := by
      rw [show (l.length : Int) + m.length - 1 - B = ((l.length : Int) + m.length - B) - 1 by omega, Int.mul_sub, Int.mul_one]
    rw [e2] at h
    rcases hv with rfl | rfl | rfl
    · simp
      omega
    · simp
      rw [Int.add_mul, Int.one_mul]
      omega
    · simp
      rw [show (l.length : Int) + m.length - (1 + B) = ((l.length : Int) + m.length - B) - 1 by omega, Int.mul_sub, Int.mul_one]
      omega
end Go.BmP
