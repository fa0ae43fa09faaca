/- What uni, meet and minus are. -/
import Derived.Test.YtnffadblmhadbaaSetB
set_option linter.unusedSimpArgs false
namespace Go.AmP
open Go.Am
theorem put1_len (c : Bool) (x : Int) (m : List Int) : (put1 c x m).length ≤ m.length + 1 := by
  unfold put1; split <;> simp
theorem mrg_len (keep : Bool → Bool → Bool) (a b : List Int) : (mrg keep a b).length ≤ a.length + b.length := by
  induction a, b using mrg.induct with
  | case1 => simp [mrg]
  | case2 x r ih => rw [mrg]; have := put1_len (keep true false) x (mrg keep r []); simp at *; omega
  | case3 y s ih => rw [mrg]; have := put1_len (keep false true) y (mrg keep [] s); simp at *; omega
  | case4 x r y s h ih => rw [mrg, if_pos h]; have := put1_len (keep true false) x (mrg keep r (y :: s)); simp at *; omega
  | case5 x r y s h1 h ih => rw [mrg, if_neg h1, if_pos h]; have := put1_len (keep false true) y (mrg keep (x :: r) s); simp at *; omega
  | case6 x r y s h1 h ih => rw [mrg, if_neg h1, if_neg h]; have := put1_len (keep true true) x (mrg keep r s); simp at *; omega
theorem setOf_len (a : List Int) : (setOf a).length ≤ a.length := by
  unfold setOf
  have := cpt_len (sorted a)
  have := sorted_length a
  omega
theorem uni_len (a b : List Int) : (uni a b).length ≤ a.length + b.length := by
  have := mrg_len (fun _ _ => true) (setOf a) (setOf b); have := setOf_len a; have := setOf_len b; unfold uni; omega
theorem meet_len (a b : List Int) : (meet a b).length ≤ a.length + b.length := by
  have := mrg_len (fun p r => p && r) (setOf a) (setOf b); have := setOf_len a; have := setOf_len b; unfold meet; omega
theorem minus_len (a b : List Int) : (minus a b).length ≤ a.length + b.length := by
  have := mrg_len (fun _ r => !r) (setOf a) (setOf b); have := setOf_len a; have := setOf_len b; unfold minus; omega
theorem uni_spec (a b : List Int) : Up (uni a b) ∧ ∀ x, x ∈ uni a b ↔ x ∈ a ∨ x ∈ b := by
  obtain ⟨a1, a2⟩ := setOf_spec a
  obtain ⟨b1, b2⟩ := setOf_spec b
  obtain ⟨h1, h2⟩ := mrg_spec (fun _ _ => true) _ _ a1 b1
  exact ⟨h1, fun x => by rw [uni, h2]; simp [a2, b2]⟩
theorem meet_spec (a b : List Int) : Up (meet a b) ∧ ∀ x, x ∈ meet a b ↔ x ∈ a ∧ x ∈ b := by
  obtain ⟨a1, a2⟩ := setOf_spec a
  obtain ⟨b1, b2⟩ := setOf_spec b
  obtain ⟨h1, h2⟩ := mrg_spec (fun p r => p && r) _ _ a1 b1
  exact ⟨h1, fun x => by rw [meet, h2]; simp only [a2, b2, Bool.and_eq_true, decide_eq_true_eq]; constructor
                         · exact fun h => h.2
                         · exact fun h => ⟨.inl h.1, h⟩⟩
theorem minus_spec (a b : List Int) : Up (minus a b) ∧ ∀ x, x ∈ minus a b ↔ x ∈ a ∧ x ∉ b := by
  obtain ⟨a1, a2⟩ := setOf_spec a
  obtain ⟨b1, b2⟩ := setOf_spec b
  obtain ⟨h1, h2⟩ := mrg_spec (fun _ r => !r) _ _ a1 b1
  exact ⟨h1, fun x => by
    rw [minus, h2]
    simp only [a2, b2]
    by_cases hb : x ∈ b <;> simp [hb]⟩
end Go.AmP
