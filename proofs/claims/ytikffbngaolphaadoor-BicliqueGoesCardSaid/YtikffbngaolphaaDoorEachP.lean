/- The order in which a walk over the paths of a rising list hands out the closed ones: plain law. -/
import Derived.Test.YtikffbngaolphaaDoorSetP
namespace Go.BmP
open Go.Am Go.Bm Go.Bm
/-- All lists that begin with P and go on within C, in order. -/
def subs : List Int → List Int → List (List Int)
  | [], _ => []
  | v :: C, P => (P ++ [v]) :: (subs C (P ++ [v]) ++ subs C P)
/-- Whether the walk goes on to P and v: something is joined to all of them, and what they lead to holds no lesser node but P's. -/
def goesE (cl : List Int → List Int) (ne : List Int → Bool) (P : List Int) (v : Int) : Bool := ne (P ++ [v]) && (cl (P ++ [v])).all (fun x => decide (v ≤ x) || decide (x ∈ P))
def walkE (cl : List Int → List Int) (ne : List Int → Bool) : List Int → List Int → List (List Int)
  | [], _ => []
  | v :: C, P => (if goesE cl ne P v = true then (if cl (P ++ [v]) = P ++ [v] then [P ++ [v]] else []) ++ walkE cl ne C (P ++ [v]) else []) ++ walkE cl ne C P
theorem subs_mem : ∀ {C P S : List Int}, S ∈ subs C P ↔ ∃ T, T ≠ [] ∧ T.Sublist C ∧ S = P ++ T
  | [], P, S => by
    simp only [subs, List.not_mem_nil, false_iff]
    rintro ⟨T, h1, h2, _⟩
    exact h1 (List.sublist_nil.1 h2)
  | v :: C, P, S => by
    simp only [subs, List.mem_cons, List.mem_append, subs_mem (C := C)]
    constructor
    · rintro (rfl | ⟨T, h1, h2, rfl⟩ | ⟨T, h1, h2, rfl⟩)
      · exact ⟨[v], by simp, by simp, rfl⟩
      · exact ⟨v :: T, by simp, h2.cons_cons v, by simp⟩
      · exact ⟨T, h1, h2.cons v, rfl⟩
    · rintro ⟨T, h1, h2, rfl⟩
      cases h2 with
      | cons _ h => exact .inr (.inr ⟨T, h1, h, rfl⟩)
      | cons_cons _ h =>
        rename_i T
        cases T with
        | nil => exact .inl rfl
        | cons t T => exact .inr (.inl ⟨t :: T, by simp, h, by simp⟩)
def Mono (L : List Int) (cl : List Int → List Int) (ne : List Int → Bool) : Prop := ∀ A B, Up A → Up B → (∀ x ∈ B, x ∈ L) → (∀ x ∈ A, x ∈ B) → (∀ x ∈ cl A, x ∈ cl B) ∧ (ne B = true → ne A = true)
theorem goes_of {L : List Int} {cl : List Int → List Int} {ne : List Int → Bool} (h : Mono L cl ne) {P T : List Int} {v : Int} (hu : Up (P ++ v :: T)) (hL : ∀ x ∈ P ++ v :: T, x ∈ L) (h1 : ne (P ++ v :: T) = true) (h2 : cl (P ++ v :: T) = P ++ v :: T) : goesE cl ne P v = true := by
  have hs : (P ++ [v]).Sublist (P ++ v :: T) := List.Sublist.append_left ((List.nil_sublist T).cons_cons v) P
  have hm := h (P ++ [v]) (P ++ v :: T) (List.Pairwise.sublist hs hu) hu hL (fun x hx => hs.subset hx)
  simp only [goesE, Bool.and_eq_true, List.all_eq_true, Bool.or_eq_true, decide_eq_true_eq]
  refine ⟨hm.2 h1, fun x hx => ?_⟩
  have := hm.1 x hx
  rw [h2] at this
  rcases List.mem_append.1 this with k | k
  · exact .inr k
  · rcases List.mem_cons.1 k with k | k
    · exact .inl (by omega)
    · have := (List.pairwise_cons.1 (List.pairwise_append.1 hu).2.1).1 x k
      exact .inl (by omega)
theorem walkE_eq {L : List Int} {cl : List Int → List Int} {ne : List Int → Bool} (h : Mono L cl ne) : ∀ (C P : List Int), Up (P ++ C) → (∀ x ∈ P ++ C, x ∈ L) → walkE cl ne C P = (subs C P).filter (fun S => ne S && decide (cl S = S))
  | [], P, _, _ => rfl
  | v :: C, P, hu, hL => by
    have i1 := walkE_eq h C (P ++ [v]) (by simpa using hu) (by simpa using hL)
    have hs : (P ++ C).Sublist (P ++ v :: C) := List.Sublist.append_left (List.sublist_cons_self v C) P
    have i2 := walkE_eq h C P (List.Pairwise.sublist hs hu) (fun x hx => hL x (hs.subset hx))
    simp only [walkE, subs, List.filter_cons, List.filter_append, i1, i2]
    by_cases g : goesE cl ne P v = true
    · have hn : ne (P ++ [v]) = true := by
        simp only [goesE, Bool.and_eq_true] at g
        exact g.1
      by_cases e : cl (P ++ [v]) = P ++ [v] <;> simp [g, hn, e]
    · have none : ∀ T : List Int, T.Sublist C → (ne (P ++ v :: T) && decide (cl (P ++ v :: T) = P ++ v :: T)) = false := by
        intro T hT
        have ht : (P ++ v :: T).Sublist (P ++ v :: C) := List.Sublist.append_left (hT.cons_cons v) P
        cases hh : (ne (P ++ v :: T) && decide (cl (P ++ v :: T) = P ++ v :: T)) with
        | false => rfl
        | true =>
          simp only [Bool.and_eq_true, decide_eq_true_eq] at hh
          exact absurd (goes_of h (List.Pairwise.sublist ht hu) (fun x hx => hL x (ht.subset hx)) hh.1 hh.2) g
      have e1 := none [] (List.nil_sublist C)
      have e2 : (subs C (P ++ [v])).filter (fun S => ne S && decide (cl S = S)) = [] := by
        rw [List.filter_eq_nil_iff]
        intro S hS
        obtain ⟨T, _, hT, rfl⟩ := subs_mem.1 hS
        have := none T hT
        simpa using this
      rw [e1, e2]
      simp [g]
theorem subs_nodup : ∀ {C P : List Int}, Up (P ++ C) → (subs C P).Nodup
  | [], P, _ => List.nodup_nil
  | v :: C, P, hu => by
    have hs : (P ++ C).Sublist (P ++ v :: C) := List.Sublist.append_left (List.sublist_cons_self v C) P
    have i1 := subs_nodup (C := C) (P := P ++ [v]) (by simpa using hu)
    have i2 := subs_nodup (C := C) (P := P) (List.Pairwise.sublist hs hu)
    have hv : ∀ T : List Int, T.Sublist C → v ∉ T := fun T hT hm => by
      have := (List.pairwise_cons.1 (List.pairwise_append.1 hu).2.1).1 v (hT.subset hm)
      omega
    simp only [subs, List.nodup_cons, List.mem_append, not_or]
    refine ⟨⟨fun hm => ?_, fun hm => ?_⟩, List.nodup_append.2 ⟨i1, i2, fun a ha b hb e => ?_⟩⟩
    · obtain ⟨T, h1, _, e⟩ := subs_mem.1 hm
      exact h1 (by simpa using e)
    · obtain ⟨T, _, h2, e⟩ := subs_mem.1 hm
      have : [v] = T := by simpa using e
      exact hv T h2 (by rw [← this]; simp)
    · subst e
      obtain ⟨T, _, _, e1⟩ := subs_mem.1 ha
      obtain ⟨U, _, h2, e2⟩ := subs_mem.1 hb
      rw [e1] at e2
      have : v :: T = U := by simpa using e2
      exact hv U h2 (by rw [← this]; simp)
#print axioms walkE_eq
#print axioms subs_nodup
end Go.BmP
