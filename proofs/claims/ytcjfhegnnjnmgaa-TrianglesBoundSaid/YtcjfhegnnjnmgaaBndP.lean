/- How many triangles a graph has at most: plain law. -/
import Derived.Test.YtcjfhegnnjnmgaaTnP
set_option linter.unusedSimpArgs false
set_option linter.unusedVariables false
namespace Go.BmP
open Go.Am Go.Bm
theorem sm_le {f g : Nat → Nat} : ∀ {n : Nat}, (∀ i, i < n → f i ≤ g i) → sm n f ≤ sm n g
  | 0, _ => Nat.le_refl _
  | n + 1, h => by
    rw [sm, sm]
    have := sm_le (n := n) fun i hi => h i (by omega)
    have := h n (by omega)
    omega
theorem ad_le (Es : List Ed) (u v : Nat) : ad Es u v ≤ 1 := by unfold ad; split <;> omega
theorem sm_square (f : Nat → Nat) : ∀ n, sm n f * sm n f = sm n (fun i => f i * f i) + 2 * sm n fun w => sm w fun u => f w * f u
  | 0 => rfl
  | n + 1 => by
    have ih := sm_square f n
    have e : (sm n fun u => f n * f u) = f n * sm n f := sm_mul _ _ _
    simp only [sm, e]
    rw [Nat.add_mul, Nat.mul_add, Nat.mul_add, ih, Nat.mul_comm (sm n f) (f n)]
    omega
theorem edges_sm {N : Nat} {Es : List Ed} (hG : GOK (N : Int) Es) : (sm N fun v => sm v fun u => ad Es u v) = Es.length := by
  have h := sum_edges N (fun _ _ => 1) Es (upE_nodup hG.2.1) hG.2.2
  have e : ∀ l : List Ed, (l.map fun _ => 1).sum = l.length := by
    intro l
    induction l with
    | nil => rfl
    | cons x r ih => simp only [List.map_cons, List.sum_cons, ih, List.length_cons]; omega
  rw [e] at h
  rw [h]
  exact sm_congr fun v _ => sm_congr fun u hu => by rw [inE_ad hG hu, Nat.mul_one]
theorem degs_sm {N : Nat} {Es : List Ed} (hG : GOK (N : Int) Es) : (sm N fun v => (nbr N Es v).length) = 2 * Es.length := by
  rw [sm_congr fun v hv => nbr_count hG hv, sm_sq (fun u v => ad Es u v) (fun u => ad_irr hG u) N, ← edges_sm hG, ← sm_mul]
  refine sm_congr fun v _ => ?_
  rw [← sm_mul]
  refine sm_congr fun u _ => ?_
  rw [ad_symm Es v u]; omega
theorem tn_le_m {N : Nat} {Es : List Ed} (hG : GOK (N : Int) Es) (v : Nat) : tn N Es v ≤ Es.length := by
  rw [← edges_sm hG]
  unfold tn
  refine sm_le fun w _ => sm_le fun u _ => ?_
  have h1 := ad_le Es u v
  have h2 := ad_le Es w v
  have h3 : ad Es u v * ad Es w v ≤ 1 * 1 := Nat.mul_le_mul h1 h2
  have := Nat.mul_le_mul_left (ad Es u w) h3
  omega
theorem tn_le_d {N : Nat} {Es : List Ed} (hG : GOK (N : Int) Es) {v : Nat} (hv : v < N) : 2 * tn N Es v ≤ (nbr N Es v).length * (nbr N Es v).length := by
  rw [nbr_count hG hv, sm_square (fun w => ad Es v w) N]
  have : tn N Es v ≤ sm N fun w => sm w fun u => ad Es v w * ad Es v u := by
    unfold tn
    refine sm_le fun w _ => sm_le fun u _ => ?_
    rw [ad_symm Es u v, ad_symm Es w v]
    have := Nat.mul_le_mul_right (ad Es v u * ad Es v w) (ad_le Es u w)
    rw [Nat.one_mul, Nat.mul_comm (ad Es v u)] at this
    rw [Nat.mul_comm (ad Es v u)]
    exact this
  omega
theorem sq_le {a b : Nat} (h : a * a ≤ b * b) : a ≤ b := Nat.le_of_not_lt fun k => by
  have := Nat.mul_lt_mul'' k k
  omega
theorem sq_sums (m : Nat) (a d : Nat → Nat) : ∀ n, (∀ i, i < n → 2 * (a i * a i) ≤ m * (d i * d i)) → 2 * (sm n a * sm n a) ≤ m * (sm n d * sm n d)
  | 0, _ => by simp [sm]
  | n + 1, h => by
    have ih := sq_sums m a d n fun i hi => h i (by omega)
    have hn := h n (by omega)
    simp only [sm]
    generalize sm n a = S at *
    generalize sm n d = D at *
    generalize a n = x at *
    generalize d n = y at *
    have key : 2 * (S * x) ≤ m * (D * y) := by
      apply sq_le
      have := Nat.mul_le_mul ih hn
      have e1 : 2 * (S * S) * (2 * (x * x)) = 2 * (S * x) * (2 * (S * x)) := by ac_rfl
      have e2 : m * (D * D) * (m * (y * y)) = m * (D * y) * (m * (D * y)) := by ac_rfl
      omega
    have e3 : (S + x) * (S + x) = S * S + 2 * (S * x) + x * x := by
      rw [Nat.add_mul, Nat.mul_add, Nat.mul_add, Nat.mul_comm x S]; omega
    have e4 : (D + y) * (D + y) = D * D + 2 * (D * y) + y * y := by
      rw [Nat.add_mul, Nat.mul_add, Nat.mul_add, Nat.mul_comm y D]; omega
    rw [e3, e4, Nat.mul_add, Nat.mul_add, Nat.mul_add m, Nat.mul_add m]
    have e5 : m * (2 * (D * y)) = 2 * (m * (D * y)) := by ac_rfl
    omega
theorem tri_bound {N : Nat} {Es : List Ed} (hG : GOK (N : Int) Es) : 9 * tri N Es * tri N Es ≤ 2 * Es.length * Es.length * Es.length := by
  have h := sq_sums Es.length (tn N Es) (fun v => (nbr N Es v).length) N fun v hv => by
    have h1 := tn_le_m hG v
    have h2 := tn_le_d hG hv
    have := Nat.mul_le_mul h1 h2
    have e : tn N Es v * (2 * tn N Es v) = 2 * (tn N Es v * tn N Es v) := by ac_rfl
    omega
  rw [tn_sum hG, degs_sm hG] at h
  generalize tri N Es = t at *
  generalize Es.length = m at *
  have e1 : 2 * (3 * t * (3 * t)) = 2 * (9 * t * t) := by
    have : 3 * t * (3 * t) = 9 * t * t := by
      rw [Nat.mul_mul_mul_comm, Nat.mul_assoc 9]
    rw [this]
  have e2 : m * (2 * m * (2 * m)) = 2 * (2 * m * m * m) := by ac_rfl
  omega
end Go.BmP
