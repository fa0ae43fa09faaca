/- The wedges of a graph, plainly: how many there are, their order, and how many are closed. -/
import Derived.Test.YtmjjimilhllnoaaGreatDoorTnP
set_option linter.unusedSimpArgs false
set_option linter.unusedVariables false
namespace Go.BmP
open Go.Am Go.Bm
abbrev Wd := Int × Int × Int
def prsL (v : Int) : List Int -> List Wd
 | [] => []
 | a :: r => r.map (fun b => (a, v, b)) ++ prsL v r
def wdgs (N : Nat) (Es : List Ed) : Nat -> List Wd
 | 0 => []
 | n + 1 => wdgs N Es n ++ prsL n (nbr N Es n)
theorem prsL_length (v : Int) : ∀ l : List Int, (prsL v l).length = pr l.length
 | [] => rfl
 | a :: r => by
   have ih := prsL_length v r
   have h1 := pr_two r.length
   have h2 := pr_two (a :: r).length
   simp only [prsL, List.length_append, List.length_map, ih]
   rw [List.length_cons] at h2 ⊢
   generalize r.length = m at *
   cases m with
   | zero => exact (show 0 + pr 0 = pr 1 from rfl)
   | succ m =>
     simp only [Nat.add_sub_cancel] at h1 h2
     have : (m + 1 + 1) * (m + 1) = (m + 1) * m + 2 * (m + 1) := by
      rw [show m + 1 + 1 = m + 2 from rfl, Nat.add_mul, Nat.mul_comm m (m + 1)]
     omega
theorem prsL_mem {v : Int} {w : Wd} : ∀ {l : List Int}, Up l -> w ∈ prsL v l -> w.2.1 = v /\ w.1 ∈ l /\ w.2.2 ∈ l /\ w.1 < w.2.2
 | [], _, h => by simp [prsL] at h
 | a :: r, hu, h => by
   obtain ⟨u1, u2⟩ := List.pairwise_cons.1 hu
   rcases List.mem_append.1 h with h | h
   ·obtain ⟨b, hb, rfl⟩ := List.mem_map.1 h
    exact ⟨rfl, by simp, by simp [hb], u1 b hb⟩
   ·obtain ⟨i1, i2, i3, i4⟩ := prsL_mem u2 h
    exact ⟨i1, by simp [i2], by simp [i3], i4⟩
def ltW (x y : Wd) : Prop := x.2.1 < y.2.1 \/ x.2.1 = y.2.1 /\ (x.1 < y.1 \/ x.1 = y.1 /\ x.2.2 < y.2.2)
theorem prsL_lt {v : Int} : ∀ {l : List Int}, Up l -> (prsL v l).Pairwise ltW
 | [], _ => .nil
 | a :: r, hu => by
   obtain ⟨u1, u2⟩ := List.pairwise_cons.1 hu
   refine List.pairwise_append.2 ⟨?_, prsL_lt u2, ?_⟩
   ·rw [List.pairwise_map]
    exact u2.imp fun {x y} h => .inr ⟨rfl, .inr ⟨rfl, h⟩⟩
   ·intro x hx y hy
    obtain ⟨b, hb, rfl⟩ := List.mem_map.1 hx
    obtain ⟨i1, i2, _, _⟩ := prsL_mem u2 hy
    exact .inr ⟨i1.symm, .inl (u1 _ i2)⟩
theorem wdgs_mid {N : Nat} {Es : List Ed} (hG : GOK (N : Int) Es) {w : Wd} : ∀ {n : Nat}, n <= N -> w ∈ wdgs N Es n -> 0 <= w.2.1 /\ w.2.1 < n /\ w.1 ∈ nbr N Es w.2.1 /\ w.2.2 ∈ nbr N Es w.2.1 /\ w.1 < w.2.2
 | 0, _, h => by simp [wdgs] at h
 | n + 1, hn, h => by
   rcases List.mem_append.1 h with h | h
   ·obtain ⟨a, b, c⟩ := wdgs_mid hG (by omega) h
    exact ⟨a, by omega, c⟩
   ·obtain ⟨i1, i2, i3, i4⟩ := prsL_mem (nbr_up hG (by omega) (by omega)) h
    rw [i1]
    exact ⟨by omega, by omega, i2, i3, i4⟩
theorem wdgs_lt {N : Nat} {Es : List Ed} (hG : GOK (N : Int) Es) : ∀ {n : Nat}, n <= N -> (wdgs N Es n).Pairwise ltW
 | 0, _ => .nil
 | n + 1, hn => by
   refine List.pairwise_append.2 ⟨wdgs_lt hG (by omega), prsL_lt (nbr_up hG (by omega) (by omega)), ?_⟩
   intro x hx y hy
   obtain ⟨_, b, _⟩ := wdgs_mid hG (by omega) hx
   obtain ⟨i1, _⟩ := prsL_mem (nbr_up hG (by omega) (by omega)) hy
   exact .inl (by omega)
def cls (Es : List Ed) (w : Wd) : Bool := decide (jn Es w.1 w.2.2)
theorem prsL_cls {N : Nat} {Es : List Ed} (v : Int) : ∀ {l : List Int}, Up l -> (∀ x ∈ l, 0 <= x /\ x < (N : Int)) ->
  (prsL v l).countP (cls Es) = sm N fun w => sm w fun u => if (u : Int) ∈ l /\ (w : Int) ∈ l then ad Es u w else 0
 | [], _, _ => by
   simp only [prsL, List.countP_nil, List.not_mem_nil, false_and, if_false, sm_zero]
 | a :: r, hu, hb => by
   obtain ⟨u1, u2⟩ := List.pairwise_cons.1 hu
   have ih := prsL_cls (N := N) (Es := Es) v u2 fun x hx => hb x (by simp [hx])
   obtain ⟨a0, a1⟩ := hb a (by simp)
   obtain ⟨k, rfl⟩ : ∃ k : Nat, a = k := ⟨a.toNat, by omega⟩
   have split : (sm N fun w => sm w fun u => if (u : Int) ∈ (k : Int) :: r /\ (w : Int) ∈ (k : Int) :: r then ad Es u w else 0) = (sm N fun w => (if (w : Int) ∈ r then ad Es k w else 0)) + sm N fun w => sm w fun u => if (u : Int) ∈ r /\ (w : Int) ∈ r then ad Es u w else 0 := by
    rw [<- sm_add]
    refine sm_congr fun w _ => ?_
    have e1 : (sm w fun u => if (u : Int) ∈ (k : Int) :: r /\ (w : Int) ∈ (k : Int) :: r then ad Es u w else 0) = sm w fun u => (if u = k then (if (w : Int) ∈ r then ad Es k w else 0) else 0) + (if (u : Int) ∈ r /\ (w : Int) ∈ r then ad Es u w else 0) := by
     refine sm_congr fun u hu => ?_
     by_cases q : u = k
     ·subst q
      have nr : ¬ (u : Int) ∈ r := fun h => by have := u1 _ h; omega
      by_cases hw : (w : Int) ∈ r
      ·simp [hw, nr]
      ·have : ¬ (w : Int) = (u : Int) := by omega
       simp [hw, nr, this]
     ·have nq : ¬ (u : Int) = (k : Int) := by omega
      by_cases hr : (u : Int) ∈ r
      ·have := u1 _ hr
       have : ¬ (w : Int) = (k : Int) := by omega
       simp [q, nq, hr, this]
      ·simp [q, nq, hr]
    rw [e1, sm_add, sm_ind]
    congr 1
    by_cases hw : (w : Int) ∈ r
    ·have := u1 _ hw
     rw [if_pos (by omega)]
    ·simp [hw]
   rw [split, prsL, List.countP_append, ih]
   congr 1
   rw [List.countP_map, List.countP_eq_length_filter]
   have uf : Up (r.filter ((cls Es) ∘ fun b => ((k : Int), v, b))) := List.Pairwise.sublist List.filter_sublist u2
   rw [up_count (N := N) (fun w => decide ((w : Int) ∈ r) && decide (jn Es k w)) uf fun x => by
    rw [List.mem_filter]
    constructor
    ·rintro ⟨h1, h2⟩
     have := hb x (by simp [h1])
     have e : ((x.toNat : Nat) : Int) = x := by omega
     refine ⟨this, ?_⟩
     simp only [e, h1, decide_true, Bool.true_and]
     exact h2
    ·rintro ⟨h1, h2⟩
     have e : ((x.toNat : Nat) : Int) = x := by omega
     simp only [e, Bool.and_eq_true, decide_eq_true_eq] at h2
     exact ⟨h2.1, by simpa [cls] using h2.2⟩]
   refine sm_congr fun w _ => ?_
   unfold ad
   by_cases hw : (w : Int) ∈ r <;> by_cases hj : jn Es k w <;> simp [hw, hj]
theorem wdgs_cls {N : Nat} {Es : List Ed} (hG : GOK (N : Int) Es) : ∀ {n : Nat}, n <= N -> (wdgs N Es n).countP (cls Es) = sm n (tn N Es)
 | 0, _ => rfl
 | n + 1, hn => by
   have nb := nbr_mem hG (u := (n : Int)) (by omega) (by omega)
   rw [wdgs, List.countP_append, wdgs_cls hG (by omega), prsL_cls (N := N) _ (nbr_up hG (by omega) (by omega)) fun x hx => by have := jn_bd hG ((nb x).1 hx); omega]
   show sm n (tn N Es) + _ = sm n (tn N Es) + tn N Es n
   congr 1
   refine sm_congr fun w _ => sm_congr fun u _ => ?_
   simp only [nb]
   rw [ad_symm Es u n, ad_symm Es w n]
   unfold ad
   by_cases h1 : jn Es n u <;> by_cases h2 : jn Es n w <;> simp [h1, h2]
end Go.BmP
