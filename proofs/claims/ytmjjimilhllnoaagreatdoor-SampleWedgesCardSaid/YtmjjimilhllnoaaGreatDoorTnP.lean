/- In how many triangles a node is: plain law. -/
import Derived.Test.YtmjjimilhllnoaaGreatDoorTriQ
import Derived.Test.YtmjjimilhllnoaaGreatDoorT05
set_option linter.unusedSimpArgs false
set_option linter.unusedVariables false
namespace Go.BmP
open Go.Am Go.Bm
def tn (N : Nat) (Es : List Ed) (v : Nat) : Nat := sm N fun w => sm w fun u => ad Es u w * (ad Es u v * ad Es w v)
theorem bump_get {n : List Int} {w v : Nat} (hv : v < n.length) : (bump n w).getD v 0 = n.getD v 0 + if v = w then 1 else 0 := by
 unfold bump
 simp only [List.getD_eq_getElem?_getD, show ((w : Int)).toNat = w by omega]
 by_cases e : v = w
 ·subst e; rw [List.getElem?_set_self hv, if_pos rfl]; rfl
 ·rw [List.getElem?_set_ne (Ne.symm e), if_neg e]; omega
theorem bumps_get {v : Nat} : ∀ {S n : List Int}, v < n.length -> (∀ x ∈ S, 0 <= x) -> S.Nodup -> (S.foldl bump n).getD v 0 = n.getD v 0 + if (v : Int) ∈ S then 1 else 0
 | [], n, _, _, _ => by simp
 | x :: r, n, hv, h0, hn => by
   obtain ⟨n1, n2⟩ := List.nodup_cons.1 hn
   have hx := h0 x (by simp)
   obtain ⟨w, rfl⟩ : ∃ w : Nat, x = w := ⟨x.toNat, by omega⟩
   rw [List.foldl_cons, bumps_get (by rw [bump_length]; exact hv) (fun y hy => h0 y (by simp [hy])) n2, bump_get hv]
   by_cases e : v = w
   ·subst e; rw [if_pos rfl, if_neg n1, if_pos (by simp)]; omega
   ·have e2 : ¬ (v : Int) = (w : Int) := by omega
    rw [if_neg e]
    by_cases q : (v : Int) ∈ r
    ·rw [if_pos q, if_pos (by simp [q])]; omega
    ·rw [if_neg q, if_neg (by simp [q, e2])]; omega
theorem tris_get {N : Nat} {Es : List Ed} (hG : GOK (N : Int) Es) {v : Nat} : ∀ (l : List Ed) (n : List Int), (∀ e ∈ l, e ∈ Es) -> v < n.length -> (l.foldl (fun n e => (com N Es e).foldl bump n) n).getD v 0 = n.getD v 0 + ((l.map fun e => if (v : Int) ∈ com N Es e then 1 else 0).sum : Nat)
 | [], n, _, _ => by simp
 | e :: r, n, h, hv => by
   have he := hG.2.2 e (h e (by simp))
   have cu := com_up hG (e := e) (by omega)
   have cm := com_mem hG (e := e) (by omega)
   rw [List.foldl_cons, tris_get hG r _ (fun x hx => h x (by simp [hx])) (by rw [bumps_length]; exact hv), bumps_get hv (fun x hx => by have := (jn_bd hG ((cm x).1 hx).1).2.1; omega) (List.Pairwise.imp (fun {a b} h => by omega) cu), List.map_cons, List.sum_cons]
   split <;> omega
theorem triN_get {N : Nat} {Es : List Ed} (hG : GOK (N : Int) Es) {v : Nat} (hv : v < N) : (triN N Es).getD v 0 = (tn N Es v : Nat) := by
 have h := tris_get hG (v := v) Es (List.replicate N 0) (fun _ h => h) (by simpa using hv)
 have z : (List.replicate N (0 : Int)).getD v 0 = 0 := by rw [List.getD_eq_getElem?_getD, List.getElem?_replicate, if_pos hv]; rfl
 rw [z, Int.zero_add] at h
 unfold triN
 rw [h]
 congr 1
 have h1 : (Es.map fun e => if (v : Int) ∈ com N Es e then 1 else 0).sum = (Es.map fun e => ad Es e.1.toNat v * ad Es e.2.toNat v).sum := by
  congr 1
  refine List.map_congr_left fun e he => ?_
  have hb := hG.2.2 e he
  have cm := com_mem hG (e := e) (by omega) (v : Int)
  unfold ad
  rw [show ((e.1.toNat : Nat) : Int) = e.1 by omega, show ((e.2.toNat : Nat) : Int) = e.2 by omega]
  by_cases k1 : jn Es e.1 v
  ·by_cases k2 : jn Es e.2 v
   ·rw [if_pos (cm.2 ⟨k1, k2⟩), if_pos k1, if_pos k2]
   ·rw [if_neg fun q => k2 (cm.1 q).2, if_neg k2]; simp
  ·rw [if_neg fun q => k1 (cm.1 q).1, if_neg k1]; simp
 rw [h1]
 refine (sum_edges N (fun u w => ad Es u v * ad Es w v) Es (upE_nodup hG.2.1) hG.2.2).trans ?_
 exact sm_congr fun w _ => sm_congr fun u hu => by rw [inE_ad hG hu]
theorem bump_sum {n : List Int} {w : Int} (h0 : 0 <= w) (h1 : w < n.length) : (bump n w).sum = n.sum + 1 := by
 obtain ⟨k, rfl⟩ : ∃ k : Nat, w = k := ⟨w.toNat, by omega⟩
 unfold bump
 rw [show ((k : Int)).toNat = k by omega]
 have : ∀ (n : List Int) (k : Nat), k < n.length -> (n.set k (n.getD k 0 + 1)).sum = n.sum + 1 := by
  intro n
  induction n with
  | nil => intro k h; simp at h
  | cons a r ih =>
    intro k h
    cases k with
    | zero => simp; omega
    | succ k => have := ih k (by simpa using h); simp at this ⊢; omega
 exact this n k (by omega)
theorem bumps_sum : ∀ {S n : List Int}, (∀ x ∈ S, 0 <= x /\ x < (n.length : Int)) -> (S.foldl bump n).sum = n.sum + S.length
 | [], n, _ => by simp
 | w :: r, n, h => by
   have hw := h w (by simp)
   rw [List.foldl_cons, bumps_sum (fun x hx => by rw [bump_length]; exact h x (by simp [hx])), bump_sum hw.1 hw.2]
   simp only [List.length_cons]; omega
theorem triN_sum {N : Nat} {Es : List Ed} (hG : GOK (N : Int) Es) : (triN N Es).sum = (triS N Es : Int) := by
 have : ∀ (l : List Ed) (n : List Int), (∀ e ∈ l, e ∈ Es) -> n.length = N -> (l.foldl (fun n e => (com N Es e).foldl bump n) n).sum = n.sum + ((l.map fun e => (com N Es e).length).sum : Nat) := by
  intro l
  induction l with
  | nil => intro n _ _; simp
  | cons e r ih =>
    intro n h hn
    have he := hG.2.2 e (h e (by simp))
    have cm := com_mem hG (e := e) (by omega)
    rw [List.foldl_cons, ih _ (fun x hx => h x (by simp [hx])) (by rw [bumps_length]; exact hn), bumps_sum fun x hx => ?_, List.map_cons, List.sum_cons]
    ·omega
    ·have := (jn_bd hG ((cm x).1 hx).1).2.1; omega
 have h := this Es (List.replicate N 0) (fun _ h => h) (by simp)
 have z : ∀ k, (List.replicate k (0 : Int)).sum = 0 := by
  intro k
  induction k with
  | zero => rfl
  | succ j ihj => rw [List.replicate_succ, List.sum_cons, ihj]; rfl
 rw [z N, Int.zero_add] at h
 exact h
def pr (n : Nat) : Nat := n * (n - 1) / 2
theorem pr_two (n : Nat) : 2 * pr n = n * (n - 1) := by
 have h : n * (n - 1) % 2 = 0 := by
  rw [Nat.mul_mod]
  rcases (show n % 2 = 0 \/ (n - 1) % 2 = 0 \/ n = 0 by omega) with e | e | e
  ·rw [e, Nat.zero_mul]
  ·rw [e, Nat.mul_zero]
  ·subst e; rfl
 unfold pr; omega
theorem pr_bd {n : Nat} (h : n <= 64) : pr n <= 4096 := by
 have h1 := pr_two n
 have : n * (n - 1) <= 64 * 64 := Nat.mul_le_mul h (by omega)
 omega
theorem take_sum (f : Nat -> Nat) : ∀ (i : Nat) (l : List Int), i <= l.length -> (∀ j, j < i -> l.getD j 0 = (f j : Int)) -> (l.take i).sum = (sm i f : Nat)
 | 0, l, _, _ => by simp [sm]
 | i + 1, l, h, hf => by
   have ih := take_sum f i l (by omega) fun j hj => hf j (by omega)
   have e := hf i (by omega)
   rw [List.getD_eq_getElem?_getD, List.getElem?_eq_getElem (by omega)] at e
   simp only [Option.getD_some] at e
   rw [List.take_succ_eq_append_getElem (by omega), List.sum_append, ih, e]
   simp [sm]
theorem tn_sum {N : Nat} {Es : List Ed} (hG : GOK (N : Int) Es) : sm N (tn N Es) = 3 * tri N Es := by
 have h1 := triN_sum hG
 have h2 := take_sum (tn N Es) N (triN N Es) (by rw [triN_length]; omega) fun j hj => triN_get hG hj
 rw [List.take_of_length_le (by rw [triN_length]; omega), h1, triS_three hG] at h2
 omega
end Go.BmP
