/- How partition.Make hands out nodes: plain law. -/
import Derived.Test.YtekfnljglfbmhaaMkT
set_option linter.unusedSimpArgs false
set_option linter.unusedVariables false
namespace Go.BmP
open Go.Am Go.Bm
theorem cmpI_lt (x y : Int) : (cmpI x y < 0 ↔ x < y) ∧ (cmpI x y = 0 ↔ x = y) := by
  unfold cmpI; split
  · constructor <;> constructor <;> intro h <;> omega
  · split <;> constructor <;> constructor <;> intro h <;> omega
/-- The first part of the least one is at most that of all others. -/
theorem least_le : ∀ (r : List (Int × Int)) (z : Int × Int), (r.foldl minStep z) ∈ z :: r ∧ ∀ y ∈ z :: r, (r.foldl minStep z).1 ≤ y.1
  | [], z => by simp
  | y :: r, z => by
    rw [List.foldl_cons]
    obtain ⟨h1, h2⟩ := least_le r (minStep z y)
    have m : (minStep z y = y ∨ minStep z y = z) ∧ (minStep z y).1 ≤ y.1 ∧ (minStep z y).1 ≤ z.1 := by
      have c1 := cmpI_lt y.1 z.1
      have c2 := cmpI_lt y.2 z.2
      unfold minStep cfM
      by_cases k : cmpI y.1 z.1 = 0
      · rw [if_pos k]
        split <;> refine ⟨by simp, ?_⟩ <;> omega
      · rw [if_neg k]
        split <;> refine ⟨by simp, ?_⟩ <;> omega
    constructor
    · rcases List.mem_cons.1 h1 with e | e
      · rcases m.1 with q | q
        · rw [e, q]; simp
        · rw [e, q]; simp
      · exact List.mem_cons_of_mem _ (List.mem_cons_of_mem _ e)
    · intro x hx
      have h3 := h2 _ (List.mem_cons_self ..)
      rcases List.mem_cons.1 hx with rfl | hx
      · omega
      · rcases List.mem_cons.1 hx with rfl | hx
        · omega
        · exact h2 x (List.mem_cons_of_mem _ hx)
/-- The least worker. -/
def lst : List (Int × Int) → Int × Int
  | [] => (0, 0)
  | z :: r => r.foldl minStep z
theorem lst_spec {s : List (Int × Int)} (h : s ≠ []) : lst s ∈ s ∧ ∀ y ∈ s, (lst s).1 ≤ y.1 := by
  cases s with
  | nil => exact absurd rfl h
  | cons z r => exact least_le r z
/-- One node goes to the least worker. -/
def mkS (p : List Int × List (Int × Int)) (x : Int × Int) : List Int × List (Int × Int) := (p.1.set x.2.toNat (lst p.2).2, upS x (lst p.2) p.2)
/-- What worker k has of the nodes in P, by owners o. -/
def sumW (P : List (Int × Int)) (o : List Int) (k : Nat) : Int := (P.map fun x => if o.getD x.2.toNat 0 = (k : Int) then x.1 else 0).sum
theorem sumW_snoc (P : List (Int × Int)) (x : Int × Int) (o : List Int) (k : Nat) : sumW (P ++ [x]) o k = sumW P o k + (if o.getD x.2.toNat 0 = (k : Int) then x.1 else 0) := by
  simp [sumW]
theorem sumW_set {P : List (Int × Int)} {o : List Int} {v : Nat} (h : ∀ x ∈ P, x.2.toNat ≠ v) (c : Int) (k : Nat) : sumW P (o.set v c) k = sumW P o k := by
  unfold sumW
  congr 1
  refine List.map_congr_left fun x hx => ?_
  have := h x hx
  rw [List.getD_eq_getElem?_getD, List.getD_eq_getElem?_getD, List.getElem?_set_ne (Ne.symm this)]
structure BInv (N w : Nat) (M : Int) (P : List (Int × Int)) (p : List Int × List (Int × Int)) : Prop where
  len : p.1.length = N
  sums : p.2 = (List.range w).map fun k => (sumW P p.1 k, ((k : Nat) : Int))
  own : ∀ x ∈ p.1, 0 ≤ x ∧ x < (w : Int)
  bal : ∀ a ∈ p.2, ∀ b ∈ p.2, a.1 - b.1 ≤ M
theorem binv_step {N w : Nat} (hw : 1 ≤ w) {M : Int} {P : List (Int × Int)} {p : List Int × List (Int × Int)} (h : BInv N w M P p) (x : Int × Int) (hx : 0 ≤ x.1 ∧ x.1 ≤ M) (hv : 0 ≤ x.2 ∧ x.2 < (N : Int)) (hd : ∀ y ∈ P, y.2 ≠ x.2) (h0 : ∀ y ∈ P, 0 ≤ y.2) : BInv N w M (P ++ [x]) (mkS p x) := by
  obtain ⟨len, sums, own, bal⟩ := h
  have ne : p.2 ≠ [] := by
    rw [sums]; intro e
    have := congrArg List.length e
    simp at this; omega
  obtain ⟨lm, ll⟩ := lst_spec ne
  have lm' := lm
  rw [sums] at lm'
  obtain ⟨k0, hk0, e0⟩ := List.mem_map.1 lm'
  have hk0 := List.mem_range.1 hk0
  rw [← sums] at e0
  have es : (mkS p x).2 = (List.range w).map fun k => (sumW (P ++ [x]) (mkS p x).1 k, ((k : Nat) : Int)) := by
    show upS x (lst p.2) p.2 = _
    unfold upS
    conv => lhs; arg 2; rw [sums]
    rw [List.map_map]
    refine List.map_congr_left fun k hk => ?_
    have q : (p.1.set x.2.toNat (lst p.2).2).getD x.2.toNat 0 = (lst p.2).2 := by
      rw [List.getD_eq_getElem?_getD, List.getElem?_set_self (by omega)]; rfl
    rw [sumW_snoc]
    show _ = (sumW P (p.1.set x.2.toNat (lst p.2).2) k + (if (p.1.set x.2.toNat (lst p.2).2).getD x.2.toNat 0 = (k : Int) then x.1 else 0), ((k : Nat) : Int))
    rw [q, sumW_set (fun y hy => by have := hd y hy; have := h0 y hy; omega)]
    show (if (sumW P p.1 k, ((k : Nat) : Int)) = lst p.2 then (sumW P p.1 k + x.1, ((k : Nat) : Int)) else (sumW P p.1 k, ((k : Nat) : Int))) = _
    rw [← e0]
    by_cases c : k = k0
    · subst c; rw [if_pos rfl, if_pos rfl]
    · rw [if_neg (fun q => c (by have := (Prod.ext_iff.1 q).2; simp only at this; omega)), if_neg (by simp only; omega), Int.add_zero]
  refine ⟨by rw [mkS, List.length_set]; exact len, es, fun y hy => ?_, fun a ha b hb => ?_⟩
  · rcases List.mem_or_eq_of_mem_set hy with e | e
    · exact own y e
    · subst e; rw [← e0]; simp only; omega
  · have ha' : a ∈ upS x (lst p.2) p.2 := ha
    have hb' : b ∈ upS x (lst p.2) p.2 := hb
    unfold upS at ha' hb'
    obtain ⟨a', ma, ea⟩ := List.mem_map.1 ha'
    obtain ⟨b', mb, eb⟩ := List.mem_map.1 hb'
    have b1 := ll a' ma
    have b2 := ll b' mb
    have b3 := bal a' ma b' mb
    by_cases ca : a' = lst p.2
    · rw [if_pos ca] at ea
      by_cases cb : b' = lst p.2
      · rw [if_pos cb] at eb
        rw [← ea, ← eb]; simp only; subst ca; subst cb; omega
      · rw [if_neg cb] at eb
        rw [← ea, ← eb]; simp only; rw [ca]; omega
    · rw [if_neg ca] at ea
      by_cases cb : b' = lst p.2
      · rw [if_pos cb] at eb
        rw [← ea, ← eb]; simp only; omega
      · rw [if_neg cb] at eb
        rw [← ea, ← eb]; exact b3
theorem binv_fold {N w : Nat} (hw : 1 ≤ w) {M : Int} : ∀ (R P : List (Int × Int)) (p : List Int × List (Int × Int)), BInv N w M P p → (∀ x ∈ R, (0 ≤ x.1 ∧ x.1 ≤ M) ∧ 0 ≤ x.2 ∧ x.2 < (N : Int)) → (∀ x ∈ P, 0 ≤ x.2) → ((P ++ R).map Prod.snd).Nodup → BInv N w M (P ++ R) (R.foldl mkS p)
  | [], P, p, h, _, _, _ => by rw [List.append_nil]; exact h
  | x :: R, P, p, h, hx, h0, nd => by
    obtain ⟨x1, x2⟩ := hx x (List.mem_cons_self ..)
    have e : P ++ x :: R = (P ++ [x]) ++ R := by simp
    rw [e] at nd ⊢
    refine binv_fold hw R (P ++ [x]) (mkS p x) (binv_step hw h x x1 x2 (fun y hy q => ?_) h0) (fun y hy => hx y (List.mem_cons_of_mem _ hy)) (fun y hy => ?_) nd
    · rw [List.map_append, List.map_append, List.append_assoc] at nd
      have := (List.nodup_append.1 nd).2.2
      exact this y.2 (List.mem_map_of_mem hy) x.2 (by simp) q
    · rcases List.mem_append.1 hy with hy | hy
      · exact h0 y hy
      · simp at hy; subst hy; exact x2.1
theorem perm_sum {l m : List Int} (h : l.Perm m) : l.sum = m.sum := by
  induction h with
  | nil => rfl
  | cons x _ ih => simp only [List.sum_cons, ih]
  | swap x y l => simp only [List.sum_cons]; omega
  | trans _ _ h1 h2 => rw [h1, h2]
theorem sumW_perm {P Q : List (Int × Int)} (h : P.Perm Q) (o : List Int) (k : Nat) : sumW P o k = sumW Q o k := perm_sum (h.map _)
end Go.BmP
