/- Slices that own each other's cells: the rows of triangles.lists, one step of it. -/
import Derived.Test.YtekfnljglfbmhaaR02d
import Derived.Test.YtekfnljglfbmhaaBicP
set_option linter.unusedSimpArgs false
set_option linter.unusedVariables false
set_option maxRecDepth 100000
set_option maxHeartbeats 4000000
namespace Go.BmP
open Go.Am Go.Bm
theorem cellN_ne {b j k : Nat} (h : k < 1000000) : (cellN b j = k) = False := by
  unfold cellN CELLM; exact eq_false (by omega)
theorem cellN_ne' {b j k : Nat} (h : k < 1000000) : (k = cellN b j) = False := by
  unfold cellN CELLM; exact eq_false (by omega)
theorem cellN_inj {b j i : Nat} : (cellN b j = cellN b i) = (j = i) := by
  unfold cellN CELLM; exact propext ⟨fun h => by omega, fun h => by omega⟩
theorem isCell_cellN {b d j : Nat} (h : b < 1000000) (k : d < 1000000) : isCell b (cellN d j) = decide (b = d) := by
  unfold isCell cellN CELLM
  by_cases e : b = d
  · subst e
    have h1 : 1000000 ≤ b + (j + 1) * 1000000 := by omega
    have h2 : b ≤ b + (j + 1) * 1000000 := by omega
    simp only [h1, h2, decide_true, Bool.true_and, Nat.add_sub_cancel_left, Nat.mul_mod_left]
  · have : ¬ (d + (j + 1) * 1000000 - b) % 1000000 = 0 := by omega
    simp only [this, e, decide_false, Bool.and_false]
/-- Cells that own, or are empty. -/
def Cels (C : List AV) : Prop := ∀ c ∈ C, (∃ xs, c = .own 1 xs) ∨ c = .any
theorem cels_bor : ∀ {C : List AV}, Cels C → borL C = []
  | [], _ => rfl
  | c :: r, h => by
    simp only [borL, cels_bor (fun x hx => h x (List.mem_cons_of_mem _ hx)), List.append_nil]
    rcases h c (by simp) with ⟨xs, rfl⟩ | rfl <;> rfl
theorem cels_map {g : AV → AV} : ∀ {C : List AV}, Cels C → mapBL g C = C
  | [], _ => rfl
  | c :: r, h => by
    simp only [mapBL, cels_map (fun x hx => h x (List.mem_cons_of_mem _ hx))]
    rcases h c (by simp) with ⟨xs, rfl⟩ | rfl <;> rfl
theorem cels_ptr {b : Nat} : ∀ {C : List AV}, Cels C → noPtrL b C = true
  | [], _ => rfl
  | c :: r, h => by
    simp only [noPtrL, cels_ptr (fun x hx => h x (List.mem_cons_of_mem _ hx)), Bool.and_true]
    rcases h c (by simp) with ⟨xs, rfl⟩ | rfl <;> rfl
theorem cels_set {C : List AV} (h : Cels C) (u : Nat) {x : AV} (hx : (∃ xs, x = .own 1 xs) ∨ x = .any) : Cels (C.set u x) := by
  intro c hc
  rcases List.mem_or_eq_of_mem_set hc with e | e
  · exact h c e
  · subst e; exact hx
theorem lend_at {b : Nat} : ∀ {C : List AV} {j u k : Nat} {xs : List AV}, C[u]? = some (.own k xs) → (lendC (.c b) j C)[u]? = some (.bor k (.c b (j + u)) 0 xs.length)
  | [], j, u, k, xs, h => by simp at h
  | c :: r, j, 0, k, xs, h => by simp at h; subst h; simp [lendC]
  | c :: r, j, u + 1, k, xs, h => by
    have := lend_at (b := b) (C := r) (j := j + 1) (u := u) (by simpa using h)
    rw [show j + 1 + u = j + (u + 1) by omega] at this
    cases c <;> simpa [lendC] using this
theorem rd_at {b u k : Nat} {C xs : List AV} (h : C[u]? = some (.own k xs)) : rdN none ((lendC (.c b) 0 C).drop u) = some (.bor k (.c b u) 0 xs.length) := by
  have h1 := lend_at (b := b) (j := 0) h
  rw [Nat.zero_add] at h1
  have h2 : ((lendC (.c b) 0 C).drop u).head? = some (.bor k (.c b u) 0 xs.length) := by
    rw [List.head?_eq_getElem?, List.getElem?_drop]; exact h1
  simp [rdN, rdc, h2, hasOwn]
theorem ovw_one {C : List AV} {u : Nat} {x : AV} (h : u < C.length) : ovw C u [x] = C.set u x := by
  unfold ovw
  rw [List.set_eq_take_append_cons_drop, if_pos h]
  simp
theorem own_one {C : List AV} {u : Nat} {x : AV} (h : C[u]? = some x) (n : ∀ k xs, x ≠ .own k xs) : hasOwnL ((C.drop u).take 1) = false := by
  have : (C.drop u).take 1 = [x] := by
    have hl : u < C.length := lt_of_getElem? h
    rw [List.drop_eq_getElem_cons hl]
    rw [List.getElem?_eq_getElem hl] at h
    simp at h
    simp [h]
  rw [this]
  cases x <;> first | rfl | exact absurd rfl (n _ _)
theorem borC_at {p : Rt} {b : Nat} : ∀ {C : List AV} {j u k o l : Nat}, C[u]? = some (.bor k p o l) → (∀ (i : Nat) (c : AV), C[i]? = some c → i ≠ u → p ∉ borOf c) → borC p (.c b) j C = some (.c b (j + u))
  | [], j, u, k, o, l, h, _ => by simp at h
  | c :: r, j, 0, k, o, l, h, _ => by simp at h; subst h; simp [borC, borIn]
  | c :: r, j, u + 1, k, o, l, h, hn => by
    have ih := borC_at (p := p) (b := b) (C := r) (j := j + 1) (u := u) (by simpa using h) fun i c hc hi => hn (i + 1) c (by simpa using hc) (by omega)
    have hb : borIn p (.c b j) c = none := by
      have := hn 0 c rfl (by omega)
      cases c <;> simp only [borIn]
      rename_i k' q o' l'
      simp only [borOf, List.mem_singleton] at this
      rw [if_neg fun e => this e.symm]
    simp only [borC, hb]
    rw [ih, show j + 1 + u = j + (u + 1) by omega]
theorem set_get_ne {C : List AV} {u v : Nat} {x y : AV} (h : C[v]? = some y) (n : u ≠ v) : (C.set u x)[v]? = some y := by
  rw [List.getElem?_set_ne n]; exact h
theorem set_get_eq {C : List AV} {u : Nat} {x y : AV} (h : C[u]? = some y) : (C.set u x)[u]? = some x := by
  rw [List.getElem?_set_self (lt_of_getElem? h)]
theorem borC_no {p : Rt} {f : Nat → Rt} : ∀ {C : List AV} {j : Nat}, p ∉ borL C → borC p f j C = none
  | [], _, _ => rfl
  | c :: r, j, h => by
    simp only [borL, List.mem_append, not_or] at h
    have hb : borIn p (f j) c = none := by
      have := h.1
      cases c <;> simp only [borIn]
      rename_i k' q o' l'
      simp only [borOf, List.mem_singleton] at this
      rw [if_neg fun e => this e.symm]
    simp only [borC, hb, borC_no h.2]
end Go.BmP
