/- Counting triangles: plain sums. -/
import Derived.Test.YtjfdniggjdnkiaaT04
set_option linter.unusedSimpArgs false
set_option linter.unusedVariables false
namespace Go.BmP
open Go.Am Go.Bm
def sm : Nat -> (Nat -> Nat) -> Nat
 | 0, _ => 0
 | n + 1, f => sm n f + f n
theorem sm_congr {f g : Nat -> Nat} : ∀ {n : Nat}, (∀ i, i < n -> f i = g i) -> sm n f = sm n g
 | 0, _ => rfl
 | n + 1, h => by rw [sm, sm, sm_congr fun i hi => h i (by omega), h n (by omega)]
theorem sm_add (f g : Nat -> Nat) : ∀ n, sm n (fun i => f i + g i) = sm n f + sm n g
 | 0 => rfl
 | n + 1 => by simp only [sm, sm_add f g n]; omega
theorem sm_mul (c : Nat) (f : Nat -> Nat) : ∀ n, sm n (fun i => c * f i) = c * sm n f
 | 0 => rfl
 | n + 1 => by simp only [sm, sm_mul c f n, Nat.mul_add]
theorem sm_zero : ∀ n, sm n (fun _ => 0) = 0
 | 0 => rfl
 | n + 1 => by simp [sm, sm_zero n]
theorem sm_one : ∀ n, sm n (fun _ => 1) = n
 | 0 => rfl
 | n + 1 => by simp [sm, sm_one n]
theorem sm_sq (g : Nat -> Nat -> Nat) (h : ∀ u, g u u = 0) : ∀ n, sm n (fun u => sm n fun v => g u v) = sm n fun v => sm v fun u => g u v + g v u
 | 0 => rfl
 | n + 1 => by
   have e : sm (n + 1) (fun u => sm (n + 1) fun v => g u v) = (sm n (fun u => sm n fun v => g u v) + sm n fun u => g u n) + (sm n (fun v => g n v) + g n n) := by
    simp only [sm]
    rw [sm_add (fun u => sm n fun v => g u v) (fun u => g u n) n]
   rw [e, sm_sq g h n, h n]
   simp only [sm]
   rw [sm_add (fun u => g u n) (fun u => g n u) n]
   omega
def sm3 (n : Nat) (f : Nat -> Nat -> Nat -> Nat) : Nat := sm n fun u => sm n fun v => sm n fun w => f u v w
def trip (n : Nat) (f : Nat -> Nat -> Nat -> Nat) : Nat := sm n fun w => sm w fun v => sm v fun u => f u v w
end Go.BmP
/- The numbers of triangles as sums over nodes: plain law. -/
set_option linter.unusedSimpArgs false
set_option linter.unusedVariables false
namespace Go.BmP
open Go.Am Go.Bm
instance jnD (E : List Ed) (a b : Int) : Decidable (jn E a b) := by unfold jn; infer_instance
def ad (Es : List Ed) (u v : Nat) : Nat := if jn Es u v then 1 else 0
theorem ad_symm (Es : List Ed) (u v : Nat) : ad Es u v = ad Es v u := by
 unfold ad
 have : jn Es u v ↔ jn Es v u := by unfold jn; exact Or.comm
 by_cases h : jn Es u v
 ·rw [if_pos h, if_pos (this.1 h)]
 ·rw [if_neg h, if_neg fun k => h (this.2 k)]
theorem ad_irr {N : Nat} {Es : List Ed} (hG : GOK (N : Int) Es) (u : Nat) : ad Es u u = 0 := by
 unfold ad
 rw [if_neg fun h => (jn_bd hG h).2.2 rfl]
theorem filter_sm (p : Nat -> Bool) : ∀ n, ((List.range n).filter p).length = sm n fun i => if p i = true then 1 else 0
 | 0 => rfl
 | n + 1 => by
   rw [List.range_succ, List.filter_append, List.length_append, filter_sm p n, sm]
   congr 1
   by_cases h : p n = true <;> simp [h]
theorem up_count {N : Nat} {l : List Int} (p : Nat -> Bool) (hu : Up l) (h : ∀ x, x ∈ l ↔ (0 <= x /\ x < (N : Int)) /\ p x.toNat = true) : l.length = sm N fun i => if p i = true then 1 else 0 := by
 have e : l = ((List.range N).filter p).map fun i => ((i : Nat) : Int) := by
  refine up_ext hu ?_ fun x => ?_
  ·refine List.Pairwise.map _ (fun a b h => ?_) ((List.pairwise_lt_range (n := N)).filter p)
   show (a : Int) < b
   omega
  ·rw [h, List.mem_map]
   constructor
   ·rintro ⟨h1, h2⟩
    exact ⟨x.toNat, List.mem_filter.2 ⟨List.mem_range.2 (by omega), h2⟩, by omega⟩
   ·rintro ⟨i, hi, rfl⟩
    obtain ⟨a, b⟩ := List.mem_filter.1 hi
    have := List.mem_range.1 a
    exact ⟨by omega, by rw [show ((i : Nat) : Int).toNat = i by omega]; exact b⟩
 rw [e, List.length_map, filter_sm]
theorem nbr_count {N : Nat} {Es : List Ed} (hG : GOK (N : Int) Es) {u : Nat} (hu : u < N) : (nbr N Es u).length = sm N fun w => ad Es u w := by
 rw [up_count (N := N) (fun w => decide (jn Es u w)) (nbr_up hG (u := u) (by omega) (by omega)) fun x => ?_]
 ·refine sm_congr fun w _ => ?_
  unfold ad
  by_cases h : jn Es u w <;> simp [h]
 ·rw [nbr_mem hG (by omega) (by omega)]
  constructor
  ·intro h
   have := (jn_bd hG h).2.1
   refine ⟨this, ?_⟩
   rw [show ((x.toNat : Nat) : Int) = x by omega]
   exact decide_eq_true h
  ·rintro ⟨h1, h2⟩
   rw [show ((x.toNat : Nat) : Int) = x by omega] at h2
   exact of_decide_eq_true h2
theorem sm_ind (c : Nat -> Nat) (k : Nat) : ∀ n, sm n (fun i => if i = k then c i else 0) = if k < n then c k else 0
 | 0 => by simp [sm]
 | n + 1 => by
   rw [sm, sm_ind c k n]
   by_cases h : n = k
   ·subst h; simp
   ·rw [if_neg h]
    by_cases h2 : k < n
    ·rw [if_pos h2, if_pos (by omega)]; rfl
    ·rw [if_neg h2, if_neg (by omega)]
def inE (Es : List Ed) (u v : Nat) : Nat := if ((u : Int), (v : Int)) ∈ Es then 1 else 0
def tri (N : Nat) (Es : List Ed) : Nat := trip N fun u v w => ad Es u v * ad Es u w * ad Es v w
end Go.BmP
