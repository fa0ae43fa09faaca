/- Plain facts on strictly rising lists of ints: what sort and compact give, and what a merge gives. -/
import Derived.Test.YtjfdniggjdnkiaaSrtG
set_option linter.unusedVariables false
set_option linter.unusedSimpArgs false
namespace Go.Bm
open Go.Am
def Up (l : List Int) : Prop := l.Pairwise (· < ·)
/-- Each run of equal numbers once. -/
def dd : List Int → List Int
  | [] => []
  | [x] => [x]
  | x :: y :: r => if x = y then dd (y :: r) else x :: dd (y :: r)
theorem dd_mem : ∀ (l : List Int) (z : Int), z ∈ dd l ↔ z ∈ l
  | [], z => by simp [dd]
  | [x], z => by simp [dd]
  | x :: y :: r, z => by
    have ih := dd_mem (y :: r) z
    unfold dd
    split
    · rename_i e; subst e; rw [ih]; simp
    · rw [List.mem_cons, ih, List.mem_cons (a := z) (b := x)]
theorem dd_len : ∀ l : List Int, (dd l).length ≤ l.length
  | [] => by simp [dd]
  | [x] => by simp [dd]
  | x :: y :: r => by
    have ih := dd_len (y :: r)
    unfold dd
    split
    · simp at *; omega
    · simp at *; omega
theorem dd_up : ∀ {l : List Int}, l.Pairwise (· ≤ ·) → Up (dd l)
  | [], _ => by simp [dd, Up]
  | [x], _ => by simp [dd, Up]
  | x :: y :: r, h => by
    obtain ⟨h1, h2⟩ := List.pairwise_cons.1 h
    have ih := dd_up h2
    unfold dd
    split
    · exact ih
    · rename_i hne
      refine List.pairwise_cons.2 ⟨fun z hz => ?_, ih⟩
      have hz := (dd_mem _ _).1 hz
      have a := h1 y (by simp)
      have b := (List.pairwise_cons.1 h2).1
      rcases List.mem_cons.1 hz with e | e
      · subst e; omega
      · have := b z e; omega
/-- The set of a list: its numbers, each once, rising. -/
def setOf (zs : List Int) : List Int := dd (isort zs)
theorem setOf_spec (zs : List Int) : Up (setOf zs) ∧ ∀ x, x ∈ setOf zs ↔ x ∈ zs :=
  ⟨dd_up (isort_asc zs), fun x => (dd_mem _ _).trans (isort_perm zs).mem_iff⟩
theorem setOf_len (zs : List Int) : (setOf zs).length ≤ zs.length := by
  have := dd_len (isort zs)
  rw [isort_length] at this
  exact this
theorem up_ext {a b : List Int} (ha : Up a) (hb : Up b) (h : ∀ x, x ∈ a ↔ x ∈ b) : a = b := by
  induction a generalizing b with
  | nil =>
    cases b with
    | nil => rfl
    | cons y s => exact absurd ((h y).mpr (by simp)) (by simp)
  | cons x r ih =>
    cases b with
    | nil => exact absurd ((h x).mp (by simp)) (by simp)
    | cons y s =>
      unfold Up at ha hb
      rw [List.pairwise_cons] at ha hb
      have hxy : x = y := by
        have h1 := (h x).mp (by simp)
        have h2 := (h y).mpr (by simp)
        simp only [List.mem_cons] at h1 h2
        rcases h1 with e | e
        · exact e
        · rcases h2 with e2 | e2
          · exact e2.symm
          · have := ha.1 _ e2
            have := hb.1 _ e
            omega
      subst hxy
      congr 1
      refine ih ha.2 hb.2 fun z => ?_
      have hz := h z
      simp only [List.mem_cons] at hz
      constructor
      · intro hr
        rcases hz.mp (.inr hr) with e | e
        · have := ha.1 _ hr; omega
        · exact e
      · intro hr
        rcases hz.mpr (.inr hr) with e | e
        · have := hb.1 _ hr; omega
        · exact e
def put1 (c : Bool) (x : Int) (m : List Int) : List Int := if c = true then x :: m else m
/-- The merge of two rising lists, with the numbers that 'keep' wants. -/
def mrg (keep : Bool → Bool → Bool) : List Int → List Int → List Int
  | [], [] => []
  | x :: r, [] => put1 (keep true false) x (mrg keep r [])
  | [], y :: s => put1 (keep false true) y (mrg keep [] s)
  | x :: r, y :: s =>
    if x < y then put1 (keep true false) x (mrg keep r (y :: s))
    else if y < x then put1 (keep false true) y (mrg keep (x :: r) s)
    else put1 (keep true true) x (mrg keep r s)
termination_by a b => a.length + b.length
theorem mrg_step (keep : Bool → Bool → Bool) (z : Int) (m a' b' a b : List Int) (pa pb : Bool) (h1 : Up m) (h2 : ∀ x, x ∈ m ↔ ((x ∈ a' ∨ x ∈ b') ∧ keep (decide (x ∈ a')) (decide (x ∈ b')) = true)) (hlt : ∀ x, x ∈ a' ∨ x ∈ b' → z < x)
    (hp : pa = true ∨ pb = true) (ha : ∀ x, x ∈ a ↔ ((x = z ∧ pa = true) ∨ x ∈ a')) (hb : ∀ x, x ∈ b ↔ ((x = z ∧ pb = true) ∨ x ∈ b')) {o : List Int} (ho : o = if keep pa pb then z :: m else m) :
    Up o ∧ ∀ x, x ∈ o ↔ ((x ∈ a ∨ x ∈ b) ∧ keep (decide (x ∈ a)) (decide (x ∈ b)) = true) := by
  subst ho
  have hza : z ∉ a' := fun h => Int.lt_irrefl _ (hlt z (.inl h))
  have hzb : z ∉ b' := fun h => Int.lt_irrefl _ (hlt z (.inr h))
  have hzm : z ∉ m := fun h => ((h2 z).mp h).1.elim hza hzb
  refine ⟨?_, fun x => ?_⟩
  · split
    · unfold Up
      rw [List.pairwise_cons]
      exact ⟨fun y hy => hlt y ((h2 y).mp hy).1, h1⟩
    · exact h1
  · by_cases hx : x = z
    · subst hx
      have da : decide (x ∈ a) = pa := by cases pa <;> simp [ha, hza]
      have db : decide (x ∈ b) = pb := by cases pb <;> simp [hb, hzb]
      have hor : x ∈ a ∨ x ∈ b := by
        rcases hp with h | h
        · left; simp [ha, h]
        · right; simp [hb, h]
      rw [da, db]
      simp only [hor, true_and]
      split
      · rename_i hk
        simp [hk]
      · rename_i hk
        simp [hk, hzm]
    · have da : x ∈ a ↔ x ∈ a' := by simp [ha, hx]
      have db : x ∈ b ↔ x ∈ b' := by simp [hb, hx]
      simp only [da, db]
      rw [← h2]
      split
      · simp [hx]
      · rfl
theorem mrg_spec (keep : Bool → Bool → Bool) (a b : List Int) (ha : Up a) (hb : Up b) : Up (mrg keep a b) ∧ ∀ x, x ∈ mrg keep a b ↔ ((x ∈ a ∨ x ∈ b) ∧ keep (decide (x ∈ a)) (decide (x ∈ b)) = true) := by
  induction a, b using mrg.induct with
  | case1 => simp [mrg, Up]
  | case2 x r ih =>
    unfold Up at ha
    rw [List.pairwise_cons] at ha
    obtain ⟨h1, h2⟩ := ih ha.2 hb
    exact mrg_step keep x (mrg keep r []) r [] (x :: r) [] true false h1 h2 (fun y hy => hy.elim (ha.1 y) (fun h => by simp at h)) (.inl rfl) (fun y => by simp) (fun y => by simp) (by rw [mrg]; rfl)
  | case3 y s ih =>
    unfold Up at hb
    rw [List.pairwise_cons] at hb
    obtain ⟨h1, h2⟩ := ih ha hb.2
    exact mrg_step keep y (mrg keep [] s) [] s [] (y :: s) false true h1 h2 (fun x hx => hx.elim (fun h => by simp at h) (hb.1 x)) (.inr rfl) (fun y => by simp) (fun y => by simp) (by rw [mrg]; rfl)
  | case4 x r y s hlt ih =>
    have ha' := ha
    have hb' := hb
    unfold Up at ha hb
    rw [List.pairwise_cons] at ha hb
    obtain ⟨h1, h2⟩ := ih ha.2 hb'
    exact mrg_step keep x (mrg keep r (y :: s)) r (y :: s) (x :: r) (y :: s) true false h1 h2 (fun z hz => by
      rcases hz with hz | hz
      · exact ha.1 z hz
      · rcases List.mem_cons.mp hz with e | e
        · omega
        · have := hb.1 z e; omega) (.inl rfl) (fun z => by simp) (fun z => by simp) (by rw [mrg, if_pos hlt]; rfl)
  | case5 x r y s hn hlt ih =>
    have ha' := ha
    have hb' := hb
    unfold Up at ha hb
    rw [List.pairwise_cons] at ha hb
    obtain ⟨h1, h2⟩ := ih ha' hb.2
    exact mrg_step keep y (mrg keep (x :: r) s) (x :: r) s (x :: r) (y :: s) false true h1 h2 (fun z hz => by
      rcases hz with hz | hz
      · rcases List.mem_cons.mp hz with e | e
        · omega
        · have := ha.1 z e; omega
      · exact hb.1 z hz) (.inr rfl) (fun z => by simp) (fun z => by simp) (by rw [mrg, if_neg hn, if_pos hlt]; rfl)
  | case6 x r y s hn hn2 ih =>
    obtain rfl : x = y := by omega
    unfold Up at ha hb
    rw [List.pairwise_cons] at ha hb
    obtain ⟨h1, h2⟩ := ih ha.2 hb.2
    exact mrg_step keep x (mrg keep r s) r s (x :: r) (x :: s) true true h1 h2 (fun z hz => by
      rcases hz with hz | hz
      · exact ha.1 z hz
      · exact hb.1 z hz) (.inl rfl) (fun z => by simp) (fun z => by simp) (by rw [mrg, if_neg hn, if_neg hn2]; rfl)
def uni (a b : List Int) : List Int := mrg (fun _ _ => true) (setOf a) (setOf b)
def meet (a b : List Int) : List Int := mrg (fun p r => p && r) (setOf a) (setOf b)
def minus (a b : List Int) : List Int := mrg (fun _ r => !r) (setOf a) (setOf b)
theorem put1_len (c : Bool) (x : Int) (m : List Int) : (put1 c x m).length ≤ m.length + 1 := by
  unfold put1; split <;> simp
theorem mrg_len (keep : Bool → Bool → Bool) (a b : List Int) : (mrg keep a b).length ≤ a.length + b.length := by
  induction a, b using mrg.induct with
  | case1 => simp [mrg]
  | case2 x r ih => rw [mrg]; have := put1_len (keep true false) x (mrg keep r []); simp at *; omega
  | case3 y s ih => rw [mrg]; have := put1_len (keep false true) y (mrg keep [] s); simp at *; omega
  | case4 x r y s h ih => rw [mrg, if_pos h]; have := put1_len (keep true false) x (mrg keep r (y :: s)); simp at *; omega
  | case5 x r y s h1 h ih => rw [mrg, if_neg h1, if_pos h]; have := put1_len (keep false true) y (mrg keep (x :: r) s); simp at *; omega
  | case6 x r y s h1 h ih => rw [mrg, if_neg h1, if_neg h]; have := put1_len (keep true true) x (mrg keep r s); simp at *; omega
theorem uni_len (a b : List Int) : (uni a b).length ≤ a.length + b.length := by
  have := mrg_len (fun _ _ => true) (setOf a) (setOf b); have := setOf_len a; have := setOf_len b; unfold uni; omega
theorem meet_len (a b : List Int) : (meet a b).length ≤ a.length + b.length := by
  have := mrg_len (fun p r => p && r) (setOf a) (setOf b); have := setOf_len a; have := setOf_len b; unfold meet; omega
theorem minus_len (a b : List Int) : (minus a b).length ≤ a.length + b.length := by
  have := mrg_len (fun _ r => !r) (setOf a) (setOf b); have := setOf_len a; have := setOf_len b; unfold minus; omega
theorem uni_spec (a b : List Int) : Up (uni a b) ∧ ∀ x, x ∈ uni a b ↔ x ∈ a ∨ x ∈ b := by
  obtain ⟨a1, a2⟩ := setOf_spec a
  obtain ⟨b1, b2⟩ := setOf_spec b
  obtain ⟨h1, h2⟩ := mrg_spec (fun _ _ => true) _ _ a1 b1
  exact ⟨h1, fun x => by rw [uni, h2]; simp [a2, b2]⟩
theorem meet_spec (a b : List Int) : Up (meet a b) ∧ ∀ x, x ∈ meet a b ↔ x ∈ a ∧ x ∈ b := by
  obtain ⟨a1, a2⟩ := setOf_spec a
  obtain ⟨b1, b2⟩ := setOf_spec b
  obtain ⟨h1, h2⟩ := mrg_spec (fun p r => p && r) _ _ a1 b1
  exact ⟨h1, fun x => by rw [meet, h2]; simp only [a2, b2, Bool.and_eq_true, decide_eq_true_eq]; constructor
                         · exact fun h => h.2
                         · exact fun h => ⟨.inl h.1, h⟩⟩
theorem minus_spec (a b : List Int) : Up (minus a b) ∧ ∀ x, x ∈ minus a b ↔ x ∈ a ∧ x ∉ b := by
  obtain ⟨a1, a2⟩ := setOf_spec a
  obtain ⟨b1, b2⟩ := setOf_spec b
  obtain ⟨h1, h2⟩ := mrg_spec (fun _ r => !r) _ _ a1 b1
  exact ⟨h1, fun x => by
    rw [minus, h2]
    simp only [a2, b2]
    by_cases hb : x ∈ b <;> simp [hb]⟩
/-- The library's clone of an empty slice of ints. -/
def gClo : List AV → Heap → Option (AV × Heap)
  | [.list 1 []], [] => some (.list 1 [], [])
  | _, _ => none
/-- The library's compact of ints, as a function that writes into the slice it is given. -/
def cptG (k : Nat) (xs es : List AV) : Option (List AV × Option Nat) :=
  match k, es with
  | 1, [] => if xs.length ≤ LIM then match intsOf xs with
      | some zs => some ((dd zs ++ List.replicate (zs.length - (dd zs).length) 0).map (AV.int .i64), some (dd zs).length)
      | none => none
    else none
  | _, _ => none
end Go.Bm
