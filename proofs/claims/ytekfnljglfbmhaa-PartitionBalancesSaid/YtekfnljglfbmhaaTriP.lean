/- Counting triangles: plain sums. -/
import Derived.Test.YtekfnljglfbmhaaT04
set_option linter.unusedSimpArgs false
set_option linter.unusedVariables false
namespace Go.BmP
open Go.Am Go.Bm
def sm : Nat → (Nat → Nat) → Nat
  | 0, _ => 0
  | n + 1, f => sm n f + f n
theorem sm_congr {f g : Nat → Nat} : ∀ {n : Nat}, (∀ i, i < n → f i = g i) → sm n f = sm n g
  | 0, _ => rfl
  | n + 1, h => by rw [sm, sm, sm_congr fun i hi => h i (by omega), h n (by omega)]
theorem sm_add (f g : Nat → Nat) : ∀ n, sm n (fun i => f i + g i) = sm n f + sm n g
  | 0 => rfl
  | n + 1 => by simp only [sm, sm_add f g n]; omega
theorem sm_mul (c : Nat) (f : Nat → Nat) : ∀ n, sm n (fun i => c * f i) = c * sm n f
  | 0 => rfl
  | n + 1 => by simp only [sm, sm_mul c f n, Nat.mul_add]
theorem sm_zero : ∀ n, sm n (fun _ => 0) = 0
  | 0 => rfl
  | n + 1 => by simp [sm, sm_zero n]
theorem sm_one : ∀ n, sm n (fun _ => 1) = n
  | 0 => rfl
  | n + 1 => by simp [sm, sm_one n]
theorem sm_sq (g : Nat → Nat → Nat) (h : ∀ u, g u u = 0) : ∀ n, sm n (fun u => sm n fun v => g u v) = sm n fun v => sm v fun u => g u v + g v u
  | 0 => rfl
  | n + 1 => by
    have e : sm (n + 1) (fun u => sm (n + 1) fun v => g u v) = (sm n (fun u => sm n fun v => g u v) + sm n fun u => g u n) + (sm n (fun v => g n v) + g n n) := by
      simp only [sm]
      rw [sm_add (fun u => sm n fun v => g u v) (fun u => g u n) n]
    rw [e, sm_sq g h n, h n]
    simp only [sm]
    rw [sm_add (fun u => g u n) (fun u => g n u) n]
    omega
def sm3 (n : Nat) (f : Nat → Nat → Nat → Nat) : Nat := sm n fun u => sm n fun v => sm n fun w => f u v w
def trip (n : Nat) (f : Nat → Nat → Nat → Nat) : Nat := sm n fun w => sm w fun v => sm v fun u => f u v w
theorem trip_add (n : Nat) (f g : Nat → Nat → Nat → Nat) : trip n (fun u v w => f u v w + g u v w) = trip n f + trip n g := by
  unfold trip
  rw [← sm_add]
  refine sm_congr fun w _ => ?_
  rw [← sm_add]
  exact sm_congr fun v _ => sm_add _ _ _
theorem trip_mul (c n : Nat) (f : Nat → Nat → Nat → Nat) : trip n (fun u v w => c * f u v w) = c * trip n f := by
  unfold trip
  rw [← sm_mul]
  refine sm_congr fun w _ => ?_
  rw [← sm_mul]
  exact sm_congr fun v _ => sm_mul _ _ _
theorem trip_congr {n : Nat} {f g : Nat → Nat → Nat → Nat} (h : ∀ u v w, u < v → v < w → w < n → f u v w = g u v w) : trip n f = trip n g :=
  sm_congr fun w hw => sm_congr fun v hv => sm_congr fun u hu => h u v w hu hv hw
theorem sm3_trip (f : Nat → Nat → Nat → Nat) (h1 : ∀ u w, f u u w = 0) (h2 : ∀ u v, f u v u = 0) (h3 : ∀ u v, f u v v = 0) : ∀ n, sm3 n f = trip n fun u v w => f u v w + f u w v + f v u w + f v w u + f w u v + f w v u
  | 0 => rfl
  | n + 1 => by
    have ih := sm3_trip f h1 h2 h3 n
    have e : sm3 (n + 1) f = sm3 n f + (sm n (fun u => sm n fun v => f u v n) + sm n (fun u => sm n fun w => f u n w) + sm n (fun v => sm n fun w => f n v w)) := by
      unfold sm3
      have a1 : ∀ u v, sm (n + 1) (fun w => f u v w) = sm n (fun w => f u v w) + f u v n := fun u v => rfl
      simp only [a1]
      have a2 : ∀ u, sm (n + 1) (fun v => sm n (fun w => f u v w) + f u v n) = (sm n (fun v => sm n fun w => f u v w) + sm n (fun v => f u v n)) + (sm n (fun w => f u n w) + f u n n) := fun u => by
        rw [show sm (n + 1) (fun v => sm n (fun w => f u v w) + f u v n) = sm n (fun v => sm n (fun w => f u v w) + f u v n) + (sm n (fun w => f u n w) + f u n n) from rfl, sm_add]
      simp only [a2, h3, Nat.add_zero]
      rw [show sm (n + 1) (fun u => sm n (fun v => sm n fun w => f u v w) + sm n (fun v => f u v n) + sm n (fun w => f u n w)) = sm n (fun u => sm n (fun v => sm n fun w => f u v w) + sm n (fun v => f u v n) + sm n (fun w => f u n w)) + (sm n (fun v => sm n fun w => f n v w) + sm n (fun v => f n v n) + sm n (fun w => f n n w)) from rfl, sm_add, sm_add]
      have z1 : sm n (fun v => f n v n) = 0 := by rw [sm_congr fun i _ => h2 n i, sm_zero]
      have z2 : sm n (fun w => f n n w) = 0 := by rw [sm_congr fun i _ => h1 n i, sm_zero]
      rw [z1, z2]
      omega
    rw [e, ih, sm_sq (fun u v => f u v n) (fun u => h1 u n), sm_sq (fun u v => f u n v) (fun u => h2 u n), sm_sq (fun u v => f n u v) (fun u => h3 n u)]
    show _ = trip n _ + sm n fun v => sm v fun u => f u v n + f u n v + f v u n + f v n u + f n u v + f n v u
    rw [← sm_add, ← sm_add]
    congr 1
    refine sm_congr fun v _ => ?_
    rw [← sm_add, ← sm_add]
    exact sm_congr fun u _ => by omega
theorem trip_one : ∀ n, 6 * trip n (fun _ _ _ => 1) = n * (n - 1) * (n - 2)
  | 0 => rfl
  | n + 1 => by
    have ih := trip_one n
    have e : trip (n + 1) (fun _ _ _ => 1) = trip n (fun _ _ _ => 1) + sm n fun v => v := by
      show trip n _ + sm n (fun v => sm v fun _ => 1) = _
      congr 1
      exact sm_congr fun v _ => sm_one v
    have g : ∀ m, 2 * sm m (fun v => v) = m * (m - 1) := by
      intro m
      induction m with
      | zero => rfl
      | succ k ihk =>
        simp only [sm, Nat.mul_add, ihk]
        cases k with
        | zero => rfl
        | succ j => simp only [Nat.add_sub_cancel]; rw [Nat.mul_comm 2, ← Nat.mul_add, Nat.mul_comm]
    have g1 := g n
    rw [e, Nat.mul_add, ih]
    cases n with
    | zero => rfl
    | succ k =>
      cases k with
      | zero => simp [sm]
      | succ j =>
        simp only [Nat.add_sub_cancel] at g1 ⊢
        have : 6 * sm (j + 1 + 1) (fun v => v) = 3 * ((j + 1 + 1) * (j + 1)) := by omega
        rw [this]
        rw [show j + 1 + 1 - 2 = j by omega, show j + 1 + 1 + 1 - 2 = j + 1 by omega]
        rw [show (j + 1 + 1 + 1) * (j + 1 + 1) * (j + 1) = (j + (1 + 1 + 1)) * ((j + 1 + 1) * (j + 1)) by rw [Nat.mul_assoc], Nat.add_mul j, Nat.mul_comm j, show (1 + 1 + 1) = 3 from rfl]
/-- Triangles, by a symmetric relation. -/
theorem tri_three (A : Nat → Nat → Nat) (sy : ∀ u v, A u v = A v u) (ir : ∀ u, A u u = 0) (n : Nat) : (sm n fun v => sm v fun u => A u v * sm n fun w => A u w * A v w) = 3 * trip n fun u v w => A u v * A u w * A v w := by
  have h1 := sm_sq (fun u v => A u v * sm n fun w => A u w * A v w) (fun u => by simp [ir]) n
  have h2 : (sm n fun v => sm v fun u => A u v * (sm n fun w => A u w * A v w) + A v u * sm n fun w => A v w * A u w) = 2 * sm n fun v => sm v fun u => A u v * sm n fun w => A u w * A v w := by
    rw [← sm_mul]
    refine sm_congr fun v _ => ?_
    rw [← sm_mul]
    refine sm_congr fun u _ => ?_
    rw [sy v u, sm_congr (f := fun w => A v w * A u w) (g := fun w => A u w * A v w) fun w _ => Nat.mul_comm _ _]
    omega
  have h3 : (sm n fun u => sm n fun v => A u v * sm n fun w => A u w * A v w) = sm3 n fun u v w => A u v * A u w * A v w := by
    unfold sm3
    refine sm_congr fun u _ => sm_congr fun v _ => ?_
    rw [← sm_mul]
    exact sm_congr fun w _ => (Nat.mul_assoc _ _ _).symm
  have h4 := sm3_trip (fun u v w => A u v * A u w * A v w) (fun u w => by simp [ir]) (fun u v => by simp [ir]) (fun u v => by simp [ir]) n
  have h5 : (trip n fun u v w => A u v * A u w * A v w + A u w * A u v * A w v + A v u * A v w * A u w + A v w * A v u * A w u + A w u * A w v * A u v + A w v * A w u * A v u) = 6 * trip n fun u v w => A u v * A u w * A v w := by
    rw [← trip_mul]
    refine trip_congr fun u v w _ _ _ => ?_
    rw [sy v u, sy w u, sy w v]
    generalize A u v = a
    generalize A u w = b
    generalize A v w = c
    have e1 : b * a * c = a * b * c := by rw [Nat.mul_comm b a]
    have e2 : a * c * b = a * b * c := by rw [Nat.mul_assoc, Nat.mul_comm c b, Nat.mul_assoc]
    have e3 : c * a * b = a * b * c := by rw [Nat.mul_comm c a, e2]
    have e4 : b * c * a = a * b * c := by rw [Nat.mul_comm (b * c), Nat.mul_assoc]
    have e5 : c * b * a = a * b * c := by rw [Nat.mul_comm c b, e4]
    rw [e1, e2, e3, e4, e5]
    omega
  omega
/-- Pairs of an edge and of what is no edge, at one node. -/
theorem mixed_two (A B : Nat → Nat → Nat) (sa : ∀ u v, A u v = A v u) (sb : ∀ u v, B u v = B v u) (ia : ∀ u, A u u = 0) (ib : ∀ u, B u u = 0) (n : Nat) (h : ∀ u v, u < n → v < n → u ≠ v → A u v + B u v = 1) (hab : ∀ u v, A u v * B u v = 0) :
    (trip n fun u v w => A u v * A u w * A v w) + (trip n fun u v w => B u v * B u w * B v w) + trip n (fun u v w => 1 - A u v * A u w * A v w - B u v * B u w * B v w) = trip n (fun _ _ _ => 1) ∧
    (sm n fun u => (sm n fun v => A u v) * (sm n fun w => B u w)) = 2 * trip n (fun u v w => 1 - A u v * A u w * A v w - B u v * B u w * B v w) := by
  have cases3 : ∀ u v w, u < v → v < w → w < n → (A u v = 1 ∧ B u v = 0 ∨ A u v = 0 ∧ B u v = 1) ∧ (A u w = 1 ∧ B u w = 0 ∨ A u w = 0 ∧ B u w = 1) ∧ (A v w = 1 ∧ B v w = 0 ∨ A v w = 0 ∧ B v w = 1) := fun u v w h1 h2 h3 => by
    have a := h u v (by omega) (by omega) (by omega)
    have b := h u w (by omega) (by omega) (by omega)
    have c := h v w (by omega) (by omega) (by omega)
    omega
  constructor
  · rw [← trip_add, ← trip_add]
    refine trip_congr fun u v w h1 h2 h3 => ?_
    obtain ⟨⟨a, b⟩ | ⟨a, b⟩, ⟨c, d⟩ | ⟨c, d⟩, ⟨e, f⟩ | ⟨e, f⟩⟩ := cases3 u v w h1 h2 h3 <;> simp [a, b, c, d, e, f]
  · have e1 : (sm n fun u => (sm n fun v => A u v) * (sm n fun w => B u w)) = sm3 n fun u v w => A u v * B u w := by
      unfold sm3
      refine sm_congr fun u _ => ?_
      rw [Nat.mul_comm, ← sm_mul]
      refine sm_congr fun v _ => ?_
      rw [Nat.mul_comm, ← sm_mul]
    rw [e1, sm3_trip (fun u v w => A u v * B u w) (fun u w => by simp [ia]) (fun u v => by simp [ib]) (fun u v => hab u v) n, ← trip_mul]
    refine trip_congr fun u v w h1 h2 h3 => ?_
    rw [sa v u, sa w u, sa w v, sb v u, sb w u, sb w v]
    obtain ⟨⟨a, b⟩ | ⟨a, b⟩, ⟨c, d⟩ | ⟨c, d⟩, ⟨e, f⟩ | ⟨e, f⟩⟩ := cases3 u v w h1 h2 h3 <;> simp [a, b, c, d, e, f]
end Go.BmP
