/- The numbers of triangles as sums over nodes: plain law. -/
import Derived.Test.YtmjjimilhllnoaaGreatDoorTriP
set_option linter.unusedSimpArgs false
set_option linter.unusedVariables false
namespace Go.BmP
open Go.Am Go.Bm
instance jnD (E : List Ed) (a b : Int) : Decidable (jn E a b) := by unfold jn; infer_instance
def ad (Es : List Ed) (u v : Nat) : Nat := if jn Es u v then 1 else 0
theorem ad_symm (Es : List Ed) (u v : Nat) : ad Es u v = ad Es v u := by
 unfold ad
 have : jn Es u v ↔ jn Es v u := by unfold jn; exact Or.comm
 by_cases h : jn Es u v
 ·rw [if_pos h, if_pos (this.1 h)]
 ·rw [if_neg h, if_neg fun k => h (this.2 k)]
theorem ad_irr {N : Nat} {Es : List Ed} (hG : GOK (N : Int) Es) (u : Nat) : ad Es u u = 0 := by
 unfold ad
 rw [if_neg fun h => (jn_bd hG h).2.2 rfl]
theorem filter_sm (p : Nat -> Bool) : ∀ n, ((List.range n).filter p).length = sm n fun i => if p i = true then 1 else 0
 | 0 => rfl
 | n + 1 => by
   rw [List.range_succ, List.filter_append, List.length_append, filter_sm p n, sm]
   congr 1
   by_cases h : p n = true <;> simp [h]
theorem up_count {N : Nat} {l : List Int} (p : Nat -> Bool) (hu : Up l) (h : ∀ x, x ∈ l ↔ (0 <= x /\ x < (N : Int)) /\ p x.toNat = true) : l.length = sm N fun i => if p i = true then 1 else 0 := by
 have e : l = ((List.range N).filter p).map fun i => ((i : Nat) : Int) := by
  refine up_ext hu ?_ fun x => ?_
  ·refine List.Pairwise.map _ (fun a b h => ?_) ((List.pairwise_lt_range (n := N)).filter p)
   show (a : Int) < b
   omega
  ·rw [h, List.mem_map]
   constructor
   ·rintro ⟨h1, h2⟩
    exact ⟨x.toNat, List.mem_filter.2 ⟨List.mem_range.2 (by omega), h2⟩, by omega⟩
   ·rintro ⟨i, hi, rfl⟩
    obtain ⟨a, b⟩ := List.mem_filter.1 hi
    have := List.mem_range.1 a
    exact ⟨by omega, by rw [show ((i : Nat) : Int).toNat = i by omega]; exact b⟩
 rw [e, List.length_map, filter_sm]
theorem com_count {N : Nat} {Es : List Ed} (hG : GOK (N : Int) Es) {u v : Nat} (hu : u < N) (hv : v < N) : (com N Es ((u : Int), (v : Int))).length = sm N fun w => ad Es u w * ad Es v w := by
 rw [up_count (N := N) (fun w => decide (jn Es u w) && decide (jn Es v w)) (com_up hG (e := ((u : Int), (v : Int))) (by simp only; omega)) fun x => ?_]
 ·refine sm_congr fun w _ => ?_
  unfold ad
  by_cases h : jn Es u w <;> by_cases k : jn Es v w <;> simp [h, k]
 ·rw [com_mem hG (by simp only; omega)]
  simp only [Bool.and_eq_true, decide_eq_true_eq]
  constructor
  ·rintro ⟨h, k⟩
   have := (jn_bd hG h).2.1
   refine ⟨this, ?_⟩
   rw [show ((x.toNat : Nat) : Int) = x by omega]
   exact ⟨h, k⟩
  ·rintro ⟨h1, h2⟩
   rw [show ((x.toNat : Nat) : Int) = x by omega] at h2
   exact h2
theorem sm_ind (c : Nat -> Nat) (k : Nat) : ∀ n, sm n (fun i => if i = k then c i else 0) = if k < n then c k else 0
 | 0 => by simp [sm]
 | n + 1 => by
   rw [sm, sm_ind c k n]
   by_cases h : n = k
   ·subst h; simp
   ·rw [if_neg h]
    by_cases h2 : k < n
    ·rw [if_pos h2, if_pos (by omega)]; rfl
    ·rw [if_neg h2, if_neg (by omega)]
def inE (Es : List Ed) (u v : Nat) : Nat := if ((u : Int), (v : Int)) ∈ Es then 1 else 0
theorem sum_edges (N : Nat) (F : Nat -> Nat -> Nat) : ∀ Es : List Ed, Es.Nodup -> (∀ e ∈ Es, 0 <= e.1 /\ e.1 < e.2 /\ e.2 < (N : Int)) -> (Es.map fun e => F e.1.toNat e.2.toNat).sum = sm N fun v => sm v fun u => inE Es u v * F u v
 | [], _, _ => by
   rw [sm_congr (g := fun _ => 0) fun v _ => by rw [sm_congr (g := fun _ => 0) fun u _ => by simp [inE], sm_zero], sm_zero]
   rfl
 | e :: r, hn, h => by
   obtain ⟨n1, n2⟩ := List.nodup_cons.1 hn
   obtain ⟨a, b, c⟩ := h e (by simp)
   rw [List.map_cons, List.sum_cons, sum_edges N F r n2 fun x hx => h x (by simp [hx])]
   have e1 : ∀ u v : Nat, inE (e :: r) u v * F u v = (if v = e.2.toNat then (if u = e.1.toNat then F u v else 0) else 0) + inE r u v * F u v := fun u v => by
    unfold inE
    by_cases k : ((u : Int), (v : Int)) = e
    ·have k2 : ((u : Int), (v : Int)) ∉ r := by rw [k]; exact n1
     have k3 : u = e.1.toNat := by rw [<- k]; simp
     have k4 : v = e.2.toNat := by rw [<- k]; simp
     rw [if_pos (by rw [k]; simp), if_neg k2, if_pos k4, if_pos k3]
     omega
    ·have k3 : ¬ (v = e.2.toNat /\ u = e.1.toNat) := fun ⟨q1, q2⟩ => k (Prod.ext (by simp; omega) (by simp; omega))
     have k4 : (if v = e.2.toNat then (if u = e.1.toNat then F u v else 0) else 0) = 0 := by
      by_cases q1 : v = e.2.toNat
      ·rw [if_pos q1, if_neg fun q2 => k3 ⟨q1, q2⟩]
      ·rw [if_neg q1]
     rw [k4, Nat.zero_add]
     by_cases q : ((u : Int), (v : Int)) ∈ r
     ·rw [if_pos (by simp [q]), if_pos q]
     ·rw [if_neg (by simp [q, k]), if_neg q]
   have e2 : (sm N fun v => sm v fun u => inE (e :: r) u v * F u v) = (sm N fun v => if v = e.2.toNat then F e.1.toNat v else 0) + sm N fun v => sm v fun u => inE r u v * F u v := by
    rw [<- sm_add]
    refine sm_congr fun v _ => ?_
    rw [sm_congr fun u _ => e1 u v, sm_add]
    congr 1
    by_cases q : v = e.2.toNat
    ·simp only [q, if_true]
     rw [sm_ind (fun u => F u e.2.toNat) e.1.toNat, if_pos (by omega)]
    ·simp only [q, if_false, sm_zero]
   rw [e2, sm_ind (fun v => F e.1.toNat v) e.2.toNat, if_pos (by omega)]
theorem inE_ad {N : Nat} {Es : List Ed} (hG : GOK (N : Int) Es) {u v : Nat} (h : u < v) : inE Es u v = ad Es u v := by
 unfold inE ad jn
 have : ((v : Int), (u : Int)) ∉ Es := fun k => by have := (hG.2.2 _ k).2.1; simp only at this; omega
 by_cases k : ((u : Int), (v : Int)) ∈ Es <;> simp [k, this]
theorem upE_nodup {Es : List Ed} (h : UpE Es) : Es.Nodup := List.Pairwise.imp (fun {a b} h e => by subst e; exact ltE_irr h) h
def tri (N : Nat) (Es : List Ed) : Nat := trip N fun u v w => ad Es u v * ad Es u w * ad Es v w
theorem triS_three {N : Nat} {Es : List Ed} (hG : GOK (N : Int) Es) : triS N Es = 3 * tri N Es := by
 have h1 : triS N Es = (Es.map fun e => sm N fun w => ad Es e.1.toNat w * ad Es e.2.toNat w).sum := by
  unfold triS
  congr 1
  refine List.map_congr_left fun e he => ?_
  have := hG.2.2 e he
  have h2 := com_count hG (u := e.1.toNat) (v := e.2.toNat) (by omega) (by omega)
  rw [<- h2]
  congr 2
  exact Prod.ext (by simp; omega) (by simp; omega)
 have h3 := sum_edges N (fun u v => sm N fun w => ad Es u w * ad Es v w) Es (upE_nodup hG.2.1) hG.2.2
 rw [h1]
 refine h3.trans ?_
 rw [tri, <- tri_three (ad Es) (ad_symm Es) (ad_irr hG) N]
 exact sm_congr fun v _ => sm_congr fun u hu => by rw [inE_ad hG hu]
theorem tri_quo {N : Nat} {Es : List Ed} (hG : GOK (N : Int) Es) : (triS N Es : Int) / 3 = tri N Es := by
 rw [triS_three hG]; omega
end Go.BmP
