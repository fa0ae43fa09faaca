/- What an edge more does to the numbers of triangles: plain law. -/
import Derived.Test.YtcjfhegnnjnmgaaTnP
import Derived.Test.YtcjfhegnnjnmgaaW01
set_option linter.unusedSimpArgs false
set_option linter.unusedVariables false
namespace Go.BmP
open Go.Am Go.Bm
theorem nrm_two {x y : Int} (n : x ≠ y) : (x < y /\ nrmE x y = (x, y)) \/ (y < x /\ nrmE x y = (y, x)) := by
 unfold nrmE
 by_cases h : x < y
 ·left; refine ⟨h, ?_⟩; rw [if_neg (by omega), if_pos h]
 ·right; refine ⟨by omega, ?_⟩; rw [if_pos (by omega), if_neg h]
theorem put_ok {N : Nat} {Es : List Ed} (hG : GOK (N : Int) Es) {u v : Int} (q : EndsOK N u v) : GOK (N : Int) (putE (nrmE u v) Es) := by
 obtain ⟨hn, hu, hv⟩ := q
 refine ⟨hG.1, putE_up _ hG.2.1, fun e he => ?_⟩
 rcases (putE_mem _ _ _).1 he with rfl | he
 ·rcases nrm_two hn with ⟨h, e⟩ | ⟨h, e⟩ <;> rw [e] <;> simp only <;> omega
 ·exact hG.2.2 e he
theorem jn_put {Es : List Ed} {u v x y : Int} (hn : u ≠ v) : jn (putE (nrmE u v) Es) x y ↔ jn Es x y \/ (x = u /\ y = v) \/ (x = v /\ y = u) := by
 unfold jn
 rw [putE_mem, putE_mem]
 rcases nrm_two hn with ⟨h, e⟩ | ⟨h, e⟩ <;> rw [e] <;> simp only [Prod.mk.injEq] <;> constructor
 ·rintro ((⟨rfl, rfl⟩ | k) | (⟨rfl, rfl⟩ | k)) <;> simp_all
 ·rintro ((k | k) | ⟨rfl, rfl⟩ | ⟨rfl, rfl⟩) <;> simp_all
 ·rintro ((⟨rfl, rfl⟩ | k) | (⟨rfl, rfl⟩ | k)) <;> simp_all
 ·rintro ((k | k) | ⟨rfl, rfl⟩ | ⟨rfl, rfl⟩) <;> simp_all
theorem nrm_jn {N : Nat} {Es : List Ed} (hG : GOK (N : Int) Es) {u v : Int} (hn : u ≠ v) : nrmE u v ∈ Es ↔ jn Es u v := by
 unfold jn
 rcases nrm_two hn with ⟨h, e⟩ | ⟨h, e⟩ <;> rw [e]
 ·exact ⟨.inl, fun k => k.elim id fun k => by have := hG.2.2 _ k; simp only at this; omega⟩
 ·exact ⟨.inr, fun k => k.elim (fun k => by have := hG.2.2 _ k; simp only at this; omega) id⟩
def dl (a b u w : Nat) : Nat := (if u = a then (if w = b then 1 else 0) else 0) + if u = b then (if w = a then 1 else 0) else 0
theorem dl_zero {a b u w : Nat} (h1 : ¬ (u = a /\ w = b)) (h2 : ¬ (u = b /\ w = a)) : dl a b u w = 0 := by
 unfold dl
 by_cases p : u = a
 ·have : ¬ w = b := fun q => h1 ⟨p, q⟩
  rw [if_pos p, if_neg this]
  by_cases p2 : u = b
  ·have : ¬ w = a := fun q => h2 ⟨p2, q⟩
   rw [if_pos p2, if_neg this]
  ·rw [if_neg p2]
 ·rw [if_neg p]
  by_cases p2 : u = b
  ·have : ¬ w = a := fun q => h2 ⟨p2, q⟩
   rw [if_pos p2, if_neg this]
  ·rw [if_neg p2]
theorem dl_one {a b : Nat} (n : a ≠ b) : dl a b a b = 1 /\ dl a b b a = 1 := by
 unfold dl
 have n2 : ¬ b = a := fun e => n e.symm
 constructor <;> simp [n, n2]
theorem ad_put {N : Nat} {Es : List Ed} (hG : GOK (N : Int) Es) {a b : Nat} (n : a ≠ b) (m : ¬ nrmE a b ∈ Es) (u w : Nat) : ad (putE (nrmE (a : Int) (b : Int)) Es) u w = ad Es u w + dl a b u w := by
 have nI : (a : Int) ≠ b := by omega
 have j := jn_put (Es := Es) (x := (u : Int)) (y := (w : Int)) nI
 have z := nrm_jn hG nI
 unfold ad
 by_cases h1 : u = a /\ w = b
 ·obtain ⟨rfl, rfl⟩ := h1
  have k0 : ¬ jn Es (u : Int) (w : Int) := fun k => m (z.2 k)
  rw [if_pos (j.2 (.inr (.inl ⟨rfl, rfl⟩))), if_neg k0, (dl_one n).1]
 ·by_cases h2 : u = b /\ w = a
  ·obtain ⟨rfl, rfl⟩ := h2
   have k0 : ¬ jn Es (u : Int) (w : Int) := fun k => m (z.2 (Or.symm k))
   rw [if_pos (j.2 (.inr (.inr ⟨rfl, rfl⟩))), if_neg k0, (dl_one n).2]
  ·rw [dl_zero h1 h2]
   have : jn (putE (nrmE (a : Int) (b : Int)) Es) u w ↔ jn Es u w := ⟨fun k => (j.1 k).elim id fun k => (k.elim (fun k => absurd ⟨by omega, by omega⟩ h1) fun k => absurd ⟨by omega, by omega⟩ h2), fun k => j.2 (.inl k)⟩
   by_cases k : jn Es u w
   ·rw [if_pos k, if_pos (this.2 k)]
   ·rw [if_neg k, if_neg fun q => k (this.1 q)]
theorem dl_sum {a b : Nat} (g : Nat -> Nat) {N : Nat} (ha : a < N) (hb : b < N) (z : Nat) : sm N (fun u => dl a b u z * g u) = (if z = b then g a else 0) + if z = a then g b else 0 := by
 have e : ∀ u, dl a b u z * g u = (if u = a then (if z = b then g u else 0) else 0) + if u = b then (if z = a then g u else 0) else 0 := fun u => by
  unfold dl
  rw [Nat.add_mul]
  congr 1
  ·by_cases p : u = a
   ·rw [if_pos p, if_pos p]; split <;> omega
   ·rw [if_neg p, if_neg p]; omega
  ·by_cases p : u = b
   ·rw [if_pos p, if_pos p]; split <;> omega
   ·rw [if_neg p, if_neg p]; omega
 rw [sm_congr fun u _ => e u, sm_add, sm_ind (fun u => if z = b then g u else 0), sm_ind (fun u => if z = a then g u else 0), if_pos ha, if_pos hb]
theorem dl_symm (a b u w : Nat) : dl a b u w = dl a b w u := by
 have h : ∀ (p q : Prop) [Decidable p] [Decidable q], (if p then (if q then 1 else 0) else 0) = if q then (if p then 1 else 0) else (0 : Nat) := fun p q _ _ => by
  by_cases hp : p <;> by_cases hq : q <;> simp [hp, hq]
 unfold dl
 rw [h (w = a) (u = b), h (w = b) (u = a), Nat.add_comm]
theorem tn_two {N : Nat} {Es : List Ed} (hG : GOK (N : Int) Es) (z : Nat) : 2 * tn N Es z = sm N fun u => sm N fun w => ad Es u w * (ad Es u z * ad Es w z) := by
 have h := sm_sq (fun u w => ad Es u w * (ad Es u z * ad Es w z)) (fun u => by simp [ad_irr hG u]) N
 rw [h]
 unfold tn
 rw [<- sm_mul]
 refine sm_congr fun w _ => ?_
 rw [<- sm_mul]
 refine sm_congr fun u _ => ?_
 rw [ad_symm Es w u, Nat.mul_comm (ad Es w z)]
 omega
theorem dl_fun {a b u w z : Nat} (n : a ≠ b) (h1 : dl a b u w ≠ 0) (h2 : dl a b u z ≠ 0) : w = z := by
 rcases Classical.em (u = a /\ w = b) with p | p
 ·rcases Classical.em (u = a /\ z = b) with q | q
  ·omega
  ·rcases Classical.em (u = b /\ z = a) with r | r
   ·omega
   ·exact absurd (dl_zero q r) h2
 ·rcases Classical.em (u = b /\ w = a) with p2 | p2
  ·rcases Classical.em (u = a /\ z = b) with q | q
   ·omega
   ·rcases Classical.em (u = b /\ z = a) with r | r
    ·omega
    ·exact absurd (dl_zero q r) h2
  ·exact absurd (dl_zero p p2) h1
theorem dl_irr {a b : Nat} (n : a ≠ b) (w : Nat) : dl a b w w = 0 := dl_zero (fun h => n (by omega)) (fun h => n (by omega))
theorem sm_if (c : Prop) [Decidable c] (f : Nat -> Nat) (n : Nat) : sm n (fun i => if c then f i else 0) = if c then sm n f else 0 := by
 by_cases h : c
 ·simp only [h, if_true]
 ·simp only [h, if_false, sm_zero]
theorem eight (x y s p q r : Nat) (h1 : p * q * s = 0) (h2 : p * r * y = 0) (h3 : q * r * x = 0) (h4 : p * q * r = 0) : (x + p) * ((y + q) * (s + r)) = x * (y * s) + p * (y * s) + q * (x * s) + r * (x * y) := by
 have e1 : p * (q * s) = 0 := by rw [<- Nat.mul_assoc]; exact h1
 have e2 : p * (y * r) = 0 := by rw [Nat.mul_comm y, <- Nat.mul_assoc]; exact h2
 have e3 : x * (q * r) = 0 := by rw [Nat.mul_comm]; exact h3
 have e4 : p * (q * r) = 0 := by rw [<- Nat.mul_assoc]; exact h4
 have e5 : x * (y * r) = r * (x * y) := by rw [<- Nat.mul_assoc, Nat.mul_comm]
 have e6 : x * (q * s) = q * (x * s) := by rw [<- Nat.mul_assoc, Nat.mul_comm x q, Nat.mul_assoc]
 simp only [Nat.add_mul, Nat.mul_add, e1, e2, e3, e4, e5, e6]
 omega
theorem tn_put {N : Nat} {Es : List Ed} (hG : GOK (N : Int) Es) {a b : Nat} (ha : a < N) (hb : b < N) (n : a ≠ b) (m : ¬ nrmE (a : Int) (b : Int) ∈ Es) (z : Nat) :
  tn N (putE (nrmE (a : Int) (b : Int)) Es) z = tn N Es z + ad Es a z * ad Es b z + ((if z = b then sm N (fun w => ad Es a w * ad Es b w) else 0) + if z = a then sm N (fun w => ad Es a w * ad Es b w) else 0) := by
 have hG' : GOK (N : Int) (putE (nrmE (a : Int) (b : Int)) Es) := put_ok hG ⟨by omega, by omega, by omega⟩
 have t1 := tn_two hG z
 have t2 := tn_two hG' z
 have pw : ∀ u w, ad (putE (nrmE (a : Int) (b : Int)) Es) u w * (ad (putE (nrmE (a : Int) (b : Int)) Es) u z * ad (putE (nrmE (a : Int) (b : Int)) Es) w z) = ad Es u w * (ad Es u z * ad Es w z) + dl a b w u * (ad Es u z * ad Es w z) + dl a b u z * (ad Es u w * ad Es w z) + dl a b w z * (ad Es u w * ad Es u z) := fun u w => by
  rw [ad_put hG n m, ad_put hG n m, ad_put hG n m, dl_symm a b w u]
  have nz : ∀ {p q : Nat}, (p ≠ 0 -> q = 0) -> p * q = 0 := fun {p q} h => by
   by_cases k : p = 0
   ·rw [k, Nat.zero_mul]
   ·rw [h k, Nat.mul_zero]
  refine eight _ _ _ _ _ _ (nz fun h => ?_) (nz fun h => ?_) (nz fun h => ?_) (nz fun h => ?_)
  ·have := dl_fun n (u := u) (w := w) (z := z) (fun e => h (by rw [e, Nat.zero_mul])) (fun e => h (by rw [e, Nat.mul_zero]))
   rw [this]; exact ad_irr hG z
  ·have := dl_fun n (u := w) (w := u) (z := z) (fun e => h (by rw [dl_symm, e, Nat.zero_mul])) (fun e => h (by rw [e, Nat.mul_zero]))
   rw [this]; exact ad_irr hG z
  ·have := dl_fun n (u := z) (w := u) (z := w) (fun e => h (by rw [dl_symm, e, Nat.zero_mul])) (fun e => h (by rw [dl_symm a b w z, e, Nat.mul_zero]))
   rw [this]; exact ad_irr hG w
  ·have := dl_fun n (u := u) (w := w) (z := z) (fun e => h (by rw [e, Nat.zero_mul])) (fun e => h (by rw [e, Nat.mul_zero]))
   rw [this]; exact dl_irr n z
 have s2 : (sm N fun u => sm N fun w => dl a b w u * (ad Es u z * ad Es w z)) = 2 * (ad Es a z * ad Es b z) := by
  rw [sm_congr fun u _ => dl_sum (fun w => ad Es u z * ad Es w z) ha hb u, sm_add, sm_ind (fun u => ad Es u z * ad Es a z), sm_ind (fun u => ad Es u z * ad Es b z), if_pos ha, if_pos hb, Nat.mul_comm (ad Es b z)]
  omega
 have g1 : (sm N fun w => ad Es a w * ad Es w b) = sm N fun w => ad Es a w * ad Es b w := sm_congr fun w _ => by rw [ad_symm Es w b]
 have g2 : (sm N fun w => ad Es b w * ad Es w a) = sm N fun w => ad Es a w * ad Es b w := sm_congr fun w _ => by rw [ad_symm Es w a, Nat.mul_comm]
 have g3 : (sm N fun u => ad Es u a * ad Es u b) = sm N fun w => ad Es a w * ad Es b w := sm_congr fun w _ => by rw [ad_symm Es w a, ad_symm Es w b]
 have g4 : (sm N fun u => ad Es u b * ad Es u a) = sm N fun w => ad Es a w * ad Es b w := sm_congr fun w _ => by rw [ad_symm Es w a, ad_symm Es w b, Nat.mul_comm]
 have s3 : (sm N fun u => sm N fun w => dl a b u z * (ad Es u w * ad Es w z)) = (if z = b then sm N (fun w => ad Es a w * ad Es b w) else 0) + if z = a then sm N (fun w => ad Es a w * ad Es b w) else 0 := by
  rw [sm_congr fun u _ => sm_mul (dl a b u z) (fun w => ad Es u w * ad Es w z) N, dl_sum (fun u => sm N fun w => ad Es u w * ad Es w z) ha hb z]
  congr 1
  ·split
   ·rename_i e; subst e; exact g1
   ·rfl
  ·split
   ·rename_i e; subst e; exact g2
   ·rfl
 have s4 : (sm N fun u => sm N fun w => dl a b w z * (ad Es u w * ad Es u z)) = (if z = b then sm N (fun w => ad Es a w * ad Es b w) else 0) + if z = a then sm N (fun w => ad Es a w * ad Es b w) else 0 := by
  rw [sm_congr fun u _ => dl_sum (fun w => ad Es u w * ad Es u z) ha hb z, sm_add, sm_if (z = b) (fun u => ad Es u a * ad Es u z), sm_if (z = a) (fun u => ad Es u b * ad Es u z)]
  congr 1
  ·split
   ·rename_i e; subst e; exact g3
   ·rfl
  ·split
   ·rename_i e; subst e; exact g4
   ·rfl
 rw [sm_congr fun u _ => (sm_congr fun w _ => pw u w), sm_congr fun u _ => by rw [sm_add, sm_add, sm_add], sm_add, sm_add, sm_add, s2, s3, s4, <- t1] at t2
 omega
end Go.BmP
