/- Plain facts on strictly rising lists of ints: what sort and compact give, and what a merge gives. -/
import Derived.Test.YtnffadblmhadbaaAmS
namespace Go.Am
def Up (l : List Int) : Prop := l.Pairwise (· < ·)
theorem cut_inv (d : Array Int) (hs : ∀ i j, i ≤ j → j < d.size → d[i]! ≤ d[j]!) : ∀ m, m ≤ d.size → Up (Lib.compactUpTo d m) ∧ ∀ x, x ∈ Lib.compactUpTo d m ↔ ∃ j, j < m ∧ d[j]! = x
  | 0, _ => ⟨by simp [Lib.compactUpTo, Up], by simp [Lib.compactUpTo]⟩
  | m + 1, hm => by
    obtain ⟨h1, h2⟩ := cut_inv d hs m (by omega)
    rw [Lib.compactUpTo_succ]
    by_cases hk : Lib.keeps d m = true
    · rw [if_pos hk]
      refine ⟨?_, fun x => ?_⟩
      · unfold Up
        rw [List.pairwise_append]
        refine ⟨h1, by simp, fun x hx y hy => ?_⟩
        simp at hy
        subst hy
        obtain ⟨j, hj, rfl⟩ := (h2 x).mp hx
        have a := hs j (m - 1) (by omega) (by omega)
        have b := hs (m - 1) m (by omega) (by omega)
        simp [Lib.keeps] at hk
        rcases hk with hk | hk
        · omega
        · omega
      · simp only [List.mem_append, h2, List.mem_singleton]
        constructor
        · rintro (⟨j, hj, e⟩ | e)
          · exact ⟨j, by omega, e⟩
          · exact ⟨m, by omega, e.symm⟩
        · rintro ⟨j, hj, e⟩
          by_cases hjm : j = m
          · subst hjm; exact .inr e.symm
          · exact .inl ⟨j, by omega, e⟩
    · rw [if_neg hk]
      simp only [List.append_nil]
      refine ⟨h1, fun x => ?_⟩
      rw [h2]
      constructor
      · rintro ⟨j, hj, e⟩
        exact ⟨j, by omega, e⟩
      · rintro ⟨j, hj, e⟩
        by_cases hjm : j = m
        · subst hjm
          simp [Lib.keeps] at hk
          exact ⟨j - 1, by omega, by rw [← e, hk.2]⟩
        · exact ⟨j, by omega, e⟩
theorem sorted_le (zs : List Int) : (sorted zs).Pairwise (· ≤ ·) := by
  have := List.pairwise_mergeSort (le := fun x y : Int => decide (x ≤ y)) (fun a b c h1 h2 => by simp at *; omega) (fun a b => by simp; omega) zs
  simpa [sorted] using this
/-- The set of a list: its numbers, each once, rising. -/
def setOf (zs : List Int) : List Int := cpt (sorted zs)
theorem setOf_spec (zs : List Int) : Up (setOf zs) ∧ ∀ x, x ∈ setOf zs ↔ x ∈ zs := by
  have hs := sorted_le zs
  have hs' : ∀ i j, i ≤ j → j < (sorted zs).toArray.size → (sorted zs).toArray[i]! ≤ (sorted zs).toArray[j]! := by
    intro i j hij hj
    simp at hj
    by_cases e : i = j
    · subst e; exact Int.le_refl _
    · have := List.pairwise_iff_getElem.mp hs i j (by omega) hj (by omega)
      simpa [hj, show i < (sorted zs).length by omega] using this
  obtain ⟨h1, h2⟩ := cut_inv (sorted zs).toArray hs' (sorted zs).length (by simp)
  refine ⟨h1, fun x => ?_⟩
  have hm : x ∈ zs ↔ x ∈ sorted zs := (List.mergeSort_perm zs _).mem_iff.symm
  rw [hm]
  refine (h2 x).trans ?_
  constructor
  · rintro ⟨j, hj, rfl⟩
    simp [hj]
  · intro hx
    obtain ⟨j, hj, rfl⟩ := List.getElem_of_mem hx
    exact ⟨j, hj, by simp [hj]⟩
theorem up_ext {a b : List Int} (ha : Up a) (hb : Up b) (h : ∀ x, x ∈ a ↔ x ∈ b) : a = b := by
  induction a generalizing b with
  | nil =>
    cases b with
    | nil => rfl
    | cons y s => exact absurd ((h y).mpr (by simp)) (by simp)
  | cons x r ih =>
    cases b with
    | nil => exact absurd ((h x).mp (by simp)) (by simp)
    | cons y s =>
      unfold Up at ha hb
      rw [List.pairwise_cons] at ha hb
      have hxy : x = y := by
        have h1 := (h x).mp (by simp)
        have h2 := (h y).mpr (by simp)
        simp only [List.mem_cons] at h1 h2
        rcases h1 with e | e
        · exact e
        · rcases h2 with e2 | e2
          · exact e2.symm
          · have := ha.1 _ e2
            have := hb.1 _ e
            omega
      subst hxy
      congr 1
      refine ih ha.2 hb.2 fun z => ?_
      have hz := h z
      simp only [List.mem_cons] at hz
      constructor
      · intro hr
        rcases hz.mp (.inr hr) with e | e
        · have := ha.1 _ hr; omega
        · exact e
      · intro hr
        rcases hz.mpr (.inr hr) with e | e
        · have := hb.1 _ hr; omega
        · exact e
def put1 (c : Bool) (x : Int) (m : List Int) : List Int := if c = true then x :: m else m
/-- The merge of two rising lists, with the numbers that 'keep' wants. -/
def mrg (keep : Bool → Bool → Bool) : List Int → List Int → List Int
  | [], [] => []
  | x :: r, [] => put1 (keep true false) x (mrg keep r [])
  | [], y :: s => put1 (keep false true) y (mrg keep [] s)
  | x :: r, y :: s =>
    if x < y then put1 (keep true false) x (mrg keep r (y :: s))
    else if y < x then put1 (keep false true) y (mrg keep (x :: r) s)
    else put1 (keep true true) x (mrg keep r s)
termination_by a b => a.length + b.length
theorem mrg_step (keep : Bool → Bool → Bool) (z : Int) (m a' b' a b : List Int) (pa pb : Bool) (h1 : Up m) (h2 : ∀ x, x ∈ m ↔ ((x ∈ a' ∨ x ∈ b') ∧ keep (decide (x ∈ a')) (decide (x ∈ b')) = true)) (hlt : ∀ x, x ∈ a' ∨ x ∈ b' → z < x)
    (hp : pa = true ∨ pb = true) (ha : ∀ x, x ∈ a ↔ ((x = z ∧ pa = true) ∨ x ∈ a')) (hb : ∀ x, x ∈ b ↔ ((x = z ∧ pb = true) ∨ x ∈ b')) {o : List Int} (ho : o = if keep pa pb then z :: m else m) :
    Up o ∧ ∀ x, x ∈ o ↔ ((x ∈ a ∨ x ∈ b) ∧ keep (decide (x ∈ a)) (decide (x ∈ b)) = true) := by
  subst ho
  have hza : z ∉ a' := fun h => Int.lt_irrefl _ (hlt z (.inl h))
  have hzb : z ∉ b' := fun h => Int.lt_irrefl _ (hlt z (.inr h))
  have hzm : z ∉ m := fun h => ((h2 z).mp h).1.elim hza hzb
  refine ⟨?_, fun x => ?_⟩
  · split
    · unfold Up
      rw [List.pairwise_cons]
      exact ⟨fun y hy => hlt y ((h2 y).mp hy).1, h1⟩
    · exact h1
  · by_cases hx : x = z
    · subst hx
      have da : decide (x ∈ a) = pa := by cases pa <;> simp [ha, hza]
      have db : decide (x ∈ b) = pb := by cases pb <;> simp [hb, hzb]
      have hor : x ∈ a ∨ x ∈ b := by
        rcases hp with h | h
        · left; simp [ha, h]
        · right; simp [hb, h]
      rw [da, db]
      simp only [hor, true_and]
      split
      · rename_i hk
        simp [hk]
      · rename_i hk
        simp [hk, hzm]
    · have da : x ∈ a ↔ x ∈ a' := by simp [ha, hx]
      have db : x ∈ b ↔ x ∈ b' := by simp [hb, hx]
      simp only [da, db]
      rw [← h2]
      split
      · simp [hx]
      · rfl
theorem mrg_spec (keep : Bool → Bool → Bool) (a b : List Int) (ha : Up a) (hb : Up b) : Up (mrg keep a b) ∧ ∀ x, x ∈ mrg keep a b ↔ ((x ∈ a ∨ x ∈ b) ∧ keep (decide (x ∈ a)) (decide (x ∈ b)) = true) := by
  induction a, b using mrg.induct with
  | case1 => simp [mrg, Up]
  | case2 x r ih =>
    unfold Up at ha
    rw [List.pairwise_cons] at ha
    obtain ⟨h1, h2⟩ := ih ha.2 hb
    exact mrg_step keep x (mrg keep r []) r [] (x :: r) [] true false h1 h2 (fun y hy => hy.elim (ha.1 y) (fun h => by simp at h)) (.inl rfl) (fun y => by simp) (fun y => by simp) (by rw [mrg]; rfl)
  | case3 y s ih =>
    unfold Up at hb
    rw [List.pairwise_cons] at hb
    obtain ⟨h1, h2⟩ := ih ha hb.2
    exact mrg_step keep y (mrg keep [] s) [] s [] (y :: s) false true h1 h2 (fun x hx => hx.elim (fun h => by simp at h) (hb.1 x)) (.inr rfl) (fun y => by simp) (fun y => by simp) (by rw [mrg]; rfl)
  | case4 x r y s hlt ih =>
    have ha' := ha
    have hb' := hb
    unfold Up at ha hb
    rw [List.pairwise_cons] at ha hb
    obtain ⟨h1, h2⟩ := ih ha.2 hb'
    exact mrg_step keep x (mrg keep r (y :: s)) r (y :: s) (x :: r) (y :: s) true false h1 h2 (fun z hz => by
      rcases hz with hz | hz
      · exact ha.1 z hz
      · rcases List.mem_cons.mp hz with e | e
        · omega
        · have := hb.1 z e; omega) (.inl rfl) (fun z => by simp) (fun z => by simp) (by rw [mrg, if_pos hlt]; rfl)
  | case5 x r y s hn hlt ih =>
    have ha' := ha
    have hb' := hb
    unfold Up at ha hb
    rw [List.pairwise_cons] at ha hb
    obtain ⟨h1, h2⟩ := ih ha' hb.2
    exact mrg_step keep y (mrg keep (x :: r) s) (x :: r) s (x :: r) (y :: s) false true h1 h2 (fun z hz => by
      rcases hz with hz | hz
      · rcases List.mem_cons.mp hz with e | e
        · omega
        · have := ha.1 z e; omega
      · exact hb.1 z hz) (.inr rfl) (fun z => by simp) (fun z => by simp) (by rw [mrg, if_neg hn, if_pos hlt]; rfl)
  | case6 x r y s hn hn2 ih =>
    obtain rfl : x = y := by omega
    unfold Up at ha hb
    rw [List.pairwise_cons] at ha hb
    obtain ⟨h1, h2⟩ := ih ha.2 hb.2
    exact mrg_step keep x (mrg keep r s) r s (x :: r) (x :: s) true true h1 h2 (fun z hz => by
      rcases hz with hz | hz
      · exact ha.1 z hz
      · exact hb.1 z hz) (.inl rfl) (fun z => by simp) (fun z => by simp) (by rw [mrg, if_neg hn, if_neg hn2]; rfl)
end Go.Am
