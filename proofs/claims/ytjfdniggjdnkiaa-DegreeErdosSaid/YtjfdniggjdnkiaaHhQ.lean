/- The numbers of which a graph can be made; the theorem of Erdos and Gallai. -/
import Derived.Test.YtjfdniggjdnkiaaHhP
set_option linter.unusedSimpArgs false
set_option linter.unusedVariables false
namespace Go.BmP
open Go.Am Go.Bm
def EvenS (l : List Int) : Prop := ∃ k, sumI l = 2 * k
theorem dec_snd (P : List (Int × Int)) : (P.map dec1).map Prod.snd = (P.map Prod.snd).map (· - 1) := by
  simp [List.map_map, Function.comp_def, dec1]
theorem pw_le {v d : Int} {r : List (Int × Int)} (h : ((v, d) :: r).Pairwise fun a b => leC cfM a b = true) : (∀ x ∈ r, x.2 ≤ d) ∧ r.Pairwise (fun a b => b.2 ≤ a.2) := by
  obtain ⟨h1, h2⟩ := List.pairwise_cons.1 h
  refine ⟨fun x hx => ?_, h2.imp fun {a b} h => ?_⟩
  · have := (leM _ _).1 (h1 x hx)
    simp only at this; omega
  · have := (leM _ _).1 h
    omega
theorem otr_some : ∀ (n : Nat) (L out : List (Int × Int)), L.length = n → (∀ x ∈ L, 0 ≤ x.2) → ((otr n L out).isSome = true ↔ FF (L.map Prod.snd) ∧ EvenS (L.map Prod.snd))
  | 0, L, out, hL, _ => by
    obtain rfl := List.eq_nil_of_length_eq_zero hL
    refine ⟨fun _ => ⟨.of fun L hl hm => ?_, 0, rfl⟩, fun _ => rfl⟩
    have : L = [] := by simpa using hm
    subst this
    simp [fv, sL, cL']
  | n + 1, L, out, hL, h0 => by
    have sp := isortC_perm cfM L
    have sl := isortC_length cfM L
    have sa := isortC_asc totM L
    obtain ⟨⟨v, d⟩, r, hs⟩ : ∃ y r, isortC cfM L = y :: r := by
      cases h : isortC cfM L with
      | nil => rw [h] at sl; simp at sl; omega
      | cons y r => exact ⟨y, r, rfl⟩
    have hotr : otr (n + 1) L out = if (r.length : Int) < d then none else match inn v d.toNat 0 r out with
      | none => none
      | some (r', out') => otr n r' out' := by rw [otr, hs]; rfl
    rw [hs] at sp sl sa
    have hrl : r.length = n := by simp at sl; omega
    obtain ⟨hle, hpw⟩ := pw_le sa
    have hd0 : 0 ≤ d := h0 (v, d) (sp.mem_iff.1 List.mem_cons_self)
    have hr0 : ∀ x ∈ r, 0 ≤ x.2 := fun x hx => h0 x (sp.mem_iff.1 (List.mem_cons_of_mem _ hx))
    have pm : (d :: r.map Prod.snd).Perm (L.map Prod.snd) := sp.map Prod.snd
    have hFF : FF (L.map Prod.snd) ↔ FF (d :: r.map Prod.snd) := ⟨fun h => h.perm pm.symm, fun h => h.perm pm⟩
    have hEv : EvenS (L.map Prod.snd) ↔ EvenS (d :: r.map Prod.snd) := by unfold EvenS; rw [sumI_perm pm]
    rw [hotr, hFF, hEv]
    have isp := inn_spec v d.toNat [] r out
    simp only [List.length_nil, List.nil_append] at isp
    rw [isp]
    by_cases hdr : (r.length : Int) < d
    · rw [if_pos hdr]
      simp only [Option.isSome_none, Bool.false_eq_true, false_iff, not_and]
      intro hF
      have := ff_head (a := r.map Prod.snd) (z := []) (by simpa using hF) (by simp)
      simp at this
      omega
    · rw [if_neg hdr]
      have hk : d.toNat ≤ r.length := by omega
      by_cases hz : ∀ x ∈ r.take d.toNat, x.2 ≠ 0
      · rw [if_pos ⟨hk, hz⟩]
        simp only
        have ep : (r.map Prod.snd) = (r.take d.toNat).map Prod.snd ++ (r.drop d.toNat).map Prod.snd := by rw [← List.map_append, List.take_append_drop]
        have er : ((r.take d.toNat).map dec1 ++ r.drop d.toNat).map Prod.snd = ((r.take d.toNat).map Prod.snd).map (· - 1) ++ (r.drop d.toNat).map Prod.snd := by rw [List.map_append, dec_snd]
        have hlenP : (((r.take d.toNat).map Prod.snd).length : Int) = d := by simp; omega
        have ih := otr_some n ((r.take d.toNat).map dec1 ++ r.drop d.toNat) (out ++ (r.take d.toNat).map fun x => (v, x.1)) (by simp; omega) (fun x hx => by
          rcases List.mem_append.1 hx with hx | hx
          · obtain ⟨y, hy, rfl⟩ := List.mem_map.1 hx
            have h1 := hz y hy
            have h2 := hr0 y (List.mem_of_mem_take hy)
            simp only [dec1]; omega
          · exact hr0 x (List.mem_of_mem_drop hx))
        rw [ih, er, ep]
        have hpq : ∀ x ∈ (r.take d.toNat).map Prod.snd, ∀ y ∈ (r.drop d.toNat).map Prod.snd, y ≤ x := by
          intro x hx y hy
          obtain ⟨a, ha, rfl⟩ := List.mem_map.1 hx
          obtain ⟨b, hb, rfl⟩ := List.mem_map.1 hy
          have := hpw
          rw [← List.take_append_drop d.toNat r, List.pairwise_append] at this
          exact this.2.2 a ha b hb
        have hq : ∀ y ∈ (r.drop d.toNat).map Prod.snd, y ≤ d := by
          intro y hy
          obtain ⟨b, hb, rfl⟩ := List.mem_map.1 hy
          exact hle b (List.mem_of_mem_drop hb)
        have hev : EvenS (d :: ((r.take d.toNat).map Prod.snd ++ (r.drop d.toNat).map Prod.snd)) ↔ EvenS (((r.take d.toNat).map Prod.snd).map (· - 1) ++ (r.drop d.toNat).map Prod.snd) := by
          unfold EvenS
          rw [sumI_app _ ((r.drop d.toNat).map Prod.snd), sumI_dec, hlenP]
          have : sumI (d :: ((r.take d.toNat).map Prod.snd ++ (r.drop d.toNat).map Prod.snd)) = d + (sumI ((r.take d.toNat).map Prod.snd) + sumI ((r.drop d.toNat).map Prod.snd)) := by
            rw [← sumI_app]; rfl
          rw [this]
          constructor
          · rintro ⟨k, hk⟩; exact ⟨k - d, by omega⟩
          · rintro ⟨k, hk⟩; exact ⟨k + d, by omega⟩
        constructor
        · rintro ⟨h1, h2⟩
          exact ⟨ff_back h1 hlenP, hev.2 h2⟩
        · rintro ⟨h1, h2⟩
          exact ⟨ff_step h1 hlenP hpq hq h2, hev.1 h2⟩
      · rw [if_neg (fun h => hz h.2)]
        simp only [Option.isSome_none, Bool.false_eq_true, false_iff, not_and]
        intro hF
        exfalso
        apply hz
        intro x hx e
        obtain ⟨a, b, hab⟩ := List.append_of_mem hx
        have hlen : a.length < d.toNat := by
          have := congrArg List.length hab
          simp at this; omega
        have hr : r = a ++ (x :: (b ++ r.drop d.toNat)) := by
          have := (List.take_append_drop d.toNat r).symm
          rw [hab] at this
          simpa using this
        have hp2 := hpw
        rw [hr, List.pairwise_append] at hp2
        obtain ⟨_, hp3, _⟩ := hp2
        obtain ⟨hp4, _⟩ := List.pairwise_cons.1 hp3
        have hF' : FF (d :: (a.map Prod.snd ++ (x :: (b ++ r.drop d.toNat)).map Prod.snd)) := by
          rw [← List.map_append, ← hr]; exact hF
        have := ff_head hF' (fun y hy => by
          obtain ⟨z, hzm, rfl⟩ := List.mem_map.1 hy
          have hz0 : 0 ≤ z.2 := hr0 z (by rw [hr]; exact List.mem_append_right _ hzm)
          rcases List.mem_cons.1 hzm with rfl | hzm
          · exact e
          · have := hp4 z hzm
            omega)
        simp at this
        omega
theorem needs_snd (l : List Int) : (needs l).map Prod.snd = l := by
  unfold needs
  rw [List.map_map]
  apply List.ext_getElem?
  intro i
  simp [List.getElem?_zipIdx]
  cases l[i]? <;> rfl
/-- Which numbers are graphic. -/
theorem rz_some {l : List Int} (h0 : ∀ d ∈ l, 0 ≤ d) : (rz l).isSome = true ↔ FF l ∧ EvenS l := by
  have hn : ∀ x ∈ needs l, 0 ≤ x.2 := fun x hx => h0 _ (by rw [← needs_snd l]; exact List.mem_map_of_mem hx)
  have hl : (needs l).length = l.length := by simp [needs]
  unfold rz
  have ho := otr_some l.length (needs l) [] hl hn
  rw [needs_snd] at ho
  split
  · exact ho
  · rename_i ha
    simp only [Option.isSome_none, Bool.false_eq_true, false_iff, not_and]
    intro hF
    exfalso
    apply ha
    refine List.all_eq_true.2 fun d hd => decide_eq_true ⟨h0 d hd, ?_⟩
    obtain ⟨a, b, rfl⟩ := List.append_of_mem hd
    have := ff_head (a := a ++ b) (z := []) (by
      refine hF.perm ?_
      simp only [List.append_nil]
      exact List.perm_middle) (by simp)
    simp at this ⊢
    omega
end Go.BmP
