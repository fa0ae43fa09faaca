/- The walk behind a list, and what is done with each set: plain law. -/
import Derived.Test.YtikffbngaolphaaDoorEachT
set_option linter.unusedSimpArgs false
namespace Go.BmP
open Go.Am Go.Bm
def hereL (after P : List Int) (t : Bool) : Bool := t && decide (P.length < after.length)
def skipL (after P : List Int) (t : Bool) (v : Int) : Bool := hereL after P t && decide (v < after.getD P.length 0)
def onL (after P : List Int) (t : Bool) (v : Int) : Bool := hereL after P t && decide (v = after.getD P.length 0)
def walkA (cl : List Int → List Int) (ne : List Int → Bool) (after : List Int) : List Int → List Int → Bool → List (List Int)
  | [], _, _ => []
  | v :: C, P, t => (if skipL after P t v = false ∧ goesE cl ne P v = true then (if cl (P ++ [v]) = P ++ [v] ∧ onL after P t v = false then [P ++ [v]] else []) ++ walkA cl ne after C (P ++ [v]) (onL after P t v) else []) ++ walkA cl ne after C P t
theorem cmpL_app : ∀ (P A B : List Int), cmpL (P ++ A) (P ++ B) = cmpL A B
  | [], _, _ => rfl
  | x :: P, A, B => by
    have ih := cmpL_app P A B
    simp only [List.cons_append, cmpL, Int.lt_irrefl, if_false]
    exact ih
theorem walkE_ext {cl : List Int → List Int} {ne : List Int → Bool} : ∀ {C P S : List Int}, S ∈ walkE cl ne C P → ∃ T, S = P ++ T
  | [], P, S, h => by simp [walkE] at h
  | v :: C, P, S, h => by
    simp only [walkE, List.mem_append] at h
    rcases h with h | h
    · split at h
      · rcases List.mem_append.1 h with h | h
        · split at h
          · simp at h; exact ⟨[v], h⟩
          · simp at h
        · obtain ⟨T, rfl⟩ := walkE_ext h
          exact ⟨v :: T, by simp⟩
      · simp at h
    · exact walkE_ext h
theorem walkA_eq {cl : List Int → List Int} {ne : List Int → Bool} {after : List Int} : ∀ (C P : List Int) (t : Bool), (t = true → ∃ R, after = P ++ R) → (t = false → ∀ T, cmpL (P ++ T) after = 1) → walkA cl ne after C P t = (walkE cl ne C P).filter (fun S => decide (cmpL S after = 1))
  | [], _, _, _, _ => rfl
  | v :: C, P, t, h1, h0 => by
    have i2 := walkA_eq (cl := cl) (ne := ne) C P t h1 h0
    simp only [walkA, walkE, List.filter_append, i2]
    congr 1
    by_cases g : goesE cl ne P v = true
    case neg => simp [g]
    -- all sets that begin with P and v come behind
    have big : skipL after P t v = false → onL after P t v = false → (∀ T, cmpL (P ++ v :: T) after = 1) → (if skipL after P t v = false ∧ goesE cl ne P v = true then (if cl (P ++ [v]) = P ++ [v] ∧ onL after P t v = false then [P ++ [v]] else []) ++ walkA cl ne after C (P ++ [v]) (onL after P t v) else []) = (if goesE cl ne P v = true then (if cl (P ++ [v]) = P ++ [v] then [P ++ [v]] else []) ++ walkE cl ne C (P ++ [v]) else []).filter (fun S => decide (cmpL S after = 1)) := by
      intro s o k
      have i1 := walkA_eq (cl := cl) (ne := ne) (after := after) C (P ++ [v]) false (fun e => by cases e) (fun _ T => by have := k T; simpa using this)
      rw [s, o, i1, if_pos ⟨rfl, g⟩, if_pos g, List.filter_append]
      congr 1
      by_cases e : cl (P ++ [v]) = P ++ [v]
      · simp [e, k []]
      · simp [e]
    cases t with
    | false =>
      exact big rfl rfl fun T => h0 rfl _
    | true =>
      obtain ⟨R, hR⟩ := h1 rfl
      cases R with
      | nil =>
        have e : hereL after P true = false := by rw [hR]; simp [hereL]
        refine big (by simp [skipL, e]) (by simp [onL, e]) fun T => ?_
        rw [hR, cmpL_app]
        rfl
      | cons a R =>
        have e : hereL after P true = true := by rw [hR]; simp [hereL]
        have ea : after.getD P.length 0 = a := by rw [hR]; simp
        by_cases l : v < a
        · have s : skipL after P true v = true := by simp only [skipL, e, ea]; simp [l]
          rw [if_neg (by rw [s]; simp), if_pos g]
          symm
          rw [List.filter_eq_nil_iff]
          intro S hS
          have : ∃ T, S = P ++ v :: T := by
            rcases List.mem_append.1 hS with h | h
            · split at h
              · simp at h; exact ⟨[], h⟩
              · simp at h
            · obtain ⟨T, rfl⟩ := walkE_ext h
              exact ⟨T, by simp⟩
          obtain ⟨T, rfl⟩ := this
          rw [hR, cmpL_app]
          have : ¬ a < v := by omega
          simp [cmpL, l, this]
        · have s : skipL after P true v = false := by simp only [skipL, e, ea]; simp [l]
          by_cases q : v = a
          · have o : onL after P true v = true := by simp only [onL, e, ea]; simp [q]
            have i1 := walkA_eq (cl := cl) (ne := ne) (after := after) C (P ++ [v]) true (fun _ => ⟨R, by rw [hR, q]; simp⟩) (fun e => by cases e)
            rw [s, o, i1, if_pos ⟨rfl, g⟩, if_pos g, List.filter_append]
            congr 1
            rw [if_neg (by simp)]
            symm
            rw [List.filter_eq_nil_iff]
            intro S hS
            split at hS
            · simp at hS
              subst hS
              rw [hR, cmpL_app, q]
              cases R <;> simp [cmpL]
            · simp at hS
          · have o : onL after P true v = false := by simp only [onL, e, ea]; simp [q]
            refine big s o fun T => ?_
            rw [hR, cmpL_app]
            have : a < v := by omega
            simp [cmpL, this]
/-- What is done with a list of sets, one behind the other, until take says stop. -/
def foldS {σ : Type} (tk : σ → List Int → σ × Bool) : List (List Int) → σ → σ × Bool
  | [], s => (s, true)
  | S :: r, s => if (tk s S).2 = true then foldS tk r (tk s S).1 else ((tk s S).1, false)
theorem foldS_app {σ : Type} {tk : σ → List Int → σ × Bool} : ∀ (a b : List (List Int)) (s : σ), foldS tk (a ++ b) s = if (foldS tk a s).2 = true then foldS tk b (foldS tk a s).1 else ((foldS tk a s).1, false)
  | [], _, _ => by simp [foldS]
  | S :: a, b, s => by
    have ih := foldS_app (tk := tk) a b (tk s S).1
    simp only [List.cons_append, foldS]
    split
    · exact ih
    · rfl
/-- Appending, as long as there are at most so many. -/
def tkA (most : Int) (o : List (List Int)) (S : List Int) : List (List Int) × Bool := (o ++ [S], decide ((o.length : Int) + 1 ≤ most))
theorem tkA_t {most : Int} {o : List (List Int)} (S : List Int) (h : (o.length : Int) + 1 ≤ most) : tkA most o S = (o ++ [S], true) := by unfold tkA; rw [decide_eq_true h]
theorem tkA_f {most : Int} {o : List (List Int)} (S : List Int) (h : ¬ (o.length : Int) + 1 ≤ most) : tkA most o S = (o ++ [S], false) := by unfold tkA; rw [decide_eq_false h]
theorem foldA_t {most : Int} {o : List (List Int)} (S : List Int) (r : List (List Int)) (h : (o.length : Int) + 1 ≤ most) : foldS (tkA most) (S :: r) o = foldS (tkA most) r (o ++ [S]) := by
  rw [foldS, tkA_t S h]; rfl
theorem foldA_f {most : Int} {o : List (List Int)} (S : List Int) (r : List (List Int)) (h : ¬ (o.length : Int) + 1 ≤ most) : foldS (tkA most) (S :: r) o = (o ++ [S], false) := by
  rw [foldS, tkA_f S h]; rfl
theorem foldS_all {most : Int} : ∀ (l o : List (List Int)), (o.length : Int) + l.length ≤ most → foldS (tkA most) l o = (o ++ l, true)
  | [], o, _ => by simp [foldS]
  | S :: l, o, h => by
    simp only [List.length_cons] at h
    rw [foldA_t S l (by omega), foldS_all l (o ++ [S]) (by simp; omega)]
    simp
theorem foldS_len {most : Int} : ∀ (l o : List (List Int)), (o.length : Int) ≤ most → (foldS (tkA most) l o).2 = true → ((foldS (tkA most) l o).1.length : Int) ≤ most
  | [], o, h, _ => h
  | S :: l, o, h, e => by
    by_cases k : (o.length : Int) + 1 ≤ most
    · rw [foldA_t S l k] at e ⊢
      exact foldS_len l (o ++ [S]) (by simp; omega) e
    · rw [foldA_f S l k] at e
      cases e
#print axioms walkA_eq
#print axioms foldS_app
end Go.BmP
