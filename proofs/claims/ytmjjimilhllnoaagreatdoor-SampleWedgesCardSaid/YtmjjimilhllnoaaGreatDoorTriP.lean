/- Counting triangles: plain sums. -/
import Derived.Test.YtmjjimilhllnoaaGreatDoorT04
set_option linter.unusedSimpArgs false
set_option linter.unusedVariables false
namespace Go.BmP
open Go.Am Go.Bm
def sm : Nat -> (Nat -> Nat) -> Nat
 | 0, _ => 0
 | n + 1, f => sm n f + f n
theorem sm_congr {f g : Nat -> Nat} : ∀ {n : Nat}, (∀ i, i < n -> f i = g i) -> sm n f = sm n g
 | 0, _ => rfl
 | n + 1, h => by rw [sm, sm, sm_congr fun i hi => h i (by omega), h n (by omega)]
theorem sm_add (f g : Nat -> Nat) : ∀ n, sm n (fun i => f i + g i) = sm n f + sm n g
 | 0 => rfl
 | n + 1 => by simp only [sm, sm_add f g n]; omega
theorem sm_mul (c : Nat) (f : Nat -> Nat) : ∀ n, sm n (fun i => c * f i) = c * sm n f
 | 0 => rfl
 | n + 1 => by simp only [sm, sm_mul c f n, Nat.mul_add]
theorem sm_zero : ∀ n, sm n (fun _ => 0) = 0
 | 0 => rfl
 | n + 1 => by simp [sm, sm_zero n]
theorem sm_sq (g : Nat -> Nat -> Nat) (h : ∀ u, g u u = 0) : ∀ n, sm n (fun u => sm n fun v => g u v) = sm n fun v => sm v fun u => g u v + g v u
 | 0 => rfl
 | n + 1 => by
   have e : sm (n + 1) (fun u => sm (n + 1) fun v => g u v) = (sm n (fun u => sm n fun v => g u v) + sm n fun u => g u n) + (sm n (fun v => g n v) + g n n) := by
    simp only [sm]
    rw [sm_add (fun u => sm n fun v => g u v) (fun u => g u n) n]
   rw [e, sm_sq g h n, h n]
   simp only [sm]
   rw [sm_add (fun u => g u n) (fun u => g n u) n]
   omega
def sm3 (n : Nat) (f : Nat -> Nat -> Nat -> Nat) : Nat := sm n fun u => sm n fun v => sm n fun w => f u v w
def trip (n : Nat) (f : Nat -> Nat -> Nat -> Nat) : Nat := sm n fun w => sm w fun v => sm v fun u => f u v w
theorem trip_mul (c n : Nat) (f : Nat -> Nat -> Nat -> Nat) : trip n (fun u v w => c * f u v w) = c * trip n f := by
 unfold trip
 rw [<- sm_mul]
 refine sm_congr fun w _ => ?_
 rw [<- sm_mul]
 exact sm_congr fun v _ => sm_mul _ _ _
theorem trip_congr {n : Nat} {f g : Nat -> Nat -> Nat -> Nat} (h : ∀ u v w, u < v -> v < w -> w < n -> f u v w = g u v w) : trip n f = trip n g :=
 sm_congr fun w hw => sm_congr fun v hv => sm_congr fun u hu => h u v w hu hv hw
theorem sm3_trip (f : Nat -> Nat -> Nat -> Nat) (h1 : ∀ u w, f u u w = 0) (h2 : ∀ u v, f u v u = 0) (h3 : ∀ u v, f u v v = 0) : ∀ n, sm3 n f = trip n fun u v w => f u v w + f u w v + f v u w + f v w u + f w u v + f w v u
 | 0 => rfl
 | n + 1 => by
   have ih := sm3_trip f h1 h2 h3 n
   have e : sm3 (n + 1) f = sm3 n f + (sm n (fun u => sm n fun v => f u v n) + sm n (fun u => sm n fun w => f u n w) + sm n (fun v => sm n fun w => f n v w)) := by
    unfold sm3
    have a1 : ∀ u v, sm (n + 1) (fun w => f u v w) = sm n (fun w => f u v w) + f u v n := fun u v => rfl
    simp only [a1]
    have a2 : ∀ u, sm (n + 1) (fun v => sm n (fun w => f u v w) + f u v n) = (sm n (fun v => sm n fun w => f u v w) + sm n (fun v => f u v n)) + (sm n (fun w => f u n w) + f u n n) := fun u => by
     rw [show sm (n + 1) (fun v => sm n (fun w => f u v w) + f u v n) = sm n (fun v => sm n (fun w => f u v w) + f u v n) + (sm n (fun w => f u n w) + f u n n) from rfl, sm_add]
    simp only [a2, h3, Nat.add_zero]
    rw [show sm (n + 1) (fun u => sm n (fun v => sm n fun w => f u v w) + sm n (fun v => f u v n) + sm n (fun w => f u n w)) = sm n (fun u => sm n (fun v => sm n fun w => f u v w) + sm n (fun v => f u v n) + sm n (fun w => f u n w)) + (sm n (fun v => sm n fun w => f n v w) + sm n (fun v => f n v n) + sm n (fun w => f n n w)) from rfl, sm_add, sm_add]
    have z1 : sm n (fun v => f n v n) = 0 := by rw [sm_congr fun i _ => h2 n i, sm_zero]
    have z2 : sm n (fun w => f n n w) = 0 := by rw [sm_congr fun i _ => h1 n i, sm_zero]
    rw [z1, z2]
    omega
   rw [e, ih, sm_sq (fun u v => f u v n) (fun u => h1 u n), sm_sq (fun u v => f u n v) (fun u => h2 u n), sm_sq (fun u v => f n u v) (fun u => h3 n u)]
   show _ = trip n _ + sm n fun v => sm v fun u => f u v n + f u n v + f v u n + f v n u + f n u v + f n v u
   rw [<- sm_add, <- sm_add]
   congr 1
   refine sm_congr fun v _ => ?_
   rw [<- sm_add, <- sm_add]
   exact sm_congr fun u _ => by omega
theorem tri_three (A : Nat -> Nat -> Nat) (sy : ∀ u v, A u v = A v u) (ir : ∀ u, A u u = 0) (n : Nat) : (sm n fun v => sm v fun u => A u v * sm n fun w => A u w * A v w) = 3 * trip n fun u v w => A u v * A u w * A v w := by
 have h1 := sm_sq (fun u v => A u v * sm n fun w => A u w * A v w) (fun u => by simp [ir]) n
 have h2 : (sm n fun v => sm v fun u => A u v * (sm n fun w => A u w * A v w) + A v u * sm n fun w => A v w * A u w) = 2 * sm n fun v => sm v fun u => A u v * sm n fun w => A u w * A v w := by
  rw [<- sm_mul]
  refine sm_congr fun v _ => ?_
  rw [<- sm_mul]
  refine sm_congr fun u _ => ?_
  rw [sy v u, sm_congr (f := fun w => A v w * A u w) (g := fun w => A u w * A v w) fun w _ => Nat.mul_comm _ _]
  omega
 have h3 : (sm n fun u => sm n fun v => A u v * sm n fun w => A u w * A v w) = sm3 n fun u v w => A u v * A u w * A v w := by
  unfold sm3
  refine sm_congr fun u _ => sm_congr fun v _ => ?_
  rw [<- sm_mul]
  exact sm_congr fun w _ => (Nat.mul_assoc _ _ _).symm
 have h4 := sm3_trip (fun u v w => A u v * A u w * A v w) (fun u w => by simp [ir]) (fun u v => by simp [ir]) (fun u v => by simp [ir]) n
 have h5 : (trip n fun u v w => A u v * A u w * A v w + A u w * A u v * A w v + A v u * A v w * A u w + A v w * A v u * A w u + A w u * A w v * A u v + A w v * A w u * A v u) = 6 * trip n fun u v w => A u v * A u w * A v w := by
  rw [<- trip_mul]
  refine trip_congr fun u v w _ _ _ => ?_
  rw [sy v u, sy w u, sy w v]
  generalize A u v = a
  generalize A u w = b
  generalize A v w = c
  have e1 : b * a * c = a * b * c := by rw [Nat.mul_comm b a]
  have e2 : a * c * b = a * b * c := by rw [Nat.mul_assoc, Nat.mul_comm c b, Nat.mul_assoc]
  have e3 : c * a * b = a * b * c := by rw [Nat.mul_comm c a, e2]
  have e4 : b * c * a = a * b * c := by rw [Nat.mul_comm (b * c), Nat.mul_assoc]
  have e5 : c * b * a = a * b * c := by rw [Nat.mul_comm c b, e4]
  rw [e1, e2, e3, e4, e5]
  omega
 omega
end Go.BmP
