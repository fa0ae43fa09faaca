/- Over all colourings, the estimates by colours add up: plain law. -/
import Derived.Test.YtdkdlkajcjbakaaS02
set_option linter.unusedSimpArgs false
set_option linter.unusedVariables false
set_option maxRecDepth 100000
set_option maxHeartbeats 4000000
namespace Go.BmP
open Go.Am Go.Bm
theorem sm_swap (f : Nat → Nat → Nat) (m : Nat) : ∀ n, sm m (fun i => sm n fun j => f i j) = sm n fun j => sm m fun i => f i j
  | 0 => sm_zero m
  | n + 1 => by
    simp only [sm]
    rw [sm_add, sm_swap f m n]
theorem sm_trip (f : Nat → Nat → Nat → Nat → Nat) (m n : Nat) : sm m (fun i => trip n fun u v w => f i u v w) = trip n fun u v w => sm m fun i => f i u v w := by
  unfold trip
  rw [sm_swap]
  refine sm_congr fun w _ => ?_
  rw [sm_swap]
  exact sm_congr fun v _ => sm_swap _ _ _
theorem sm_mulr (c : Nat) (f : Nat → Nat) (n : Nat) : sm n (fun i => f i * c) = sm n f * c := by
  rw [Nat.mul_comm, ← sm_mul]
  exact sm_congr fun i _ => Nat.mul_comm _ _
/-- The digits of a number. -/
def dig (k i v : Nat) : Nat := i / k ^ v % k
def same3 (k u v w i : Nat) : Nat := if dig k i u = dig k i v ∧ dig k i u = dig k i w then 1 else 0
def chkD (k n u v w : Nat) : Bool := sm (k ^ n) (same3 k u v w) == k ^ (n - 2)
def chkAll : Bool := [1, 2, 3].all fun k => [3, 4, 5].all fun n => (List.range n).all fun w => (List.range w).all fun v => (List.range v).all fun u => chkD k n u v w
theorem chk_all : chkAll = true := by decide +kernel
theorem same3_sum {k n u v w : Nat} (hk : 1 ≤ k ∧ k ≤ 3) (hn : n ≤ 5) (h1 : u < v) (h2 : v < w) (h3 : w < n) : sm (k ^ n) (same3 k u v w) = k ^ (n - 2) := by
  have h := chk_all
  unfold chkAll at h
  have a := List.all_eq_true.1 h k (by simp; omega)
  have b := List.all_eq_true.1 a n (by simp; omega)
  have c := List.all_eq_true.1 b w (List.mem_range.2 h3)
  have d := List.all_eq_true.1 c v (List.mem_range.2 h2)
  have e := List.all_eq_true.1 d u (List.mem_range.2 h1)
  exact eq_of_beq e
/-- The colouring with a number. -/
def cols (k n i : Nat) : List Int := (List.range n).map fun v => ((dig k i v : Nat) : Int)
theorem cols_length (k n i : Nat) : (cols k n i).length = n := by simp [cols]
theorem cols_at {k n i v : Nat} (h : v < n) : col (cols k n i) v = (dig k i v : Nat) := by
  unfold col cols
  rw [List.getD_eq_getElem?_getD, List.getElem?_map, show ((v : Int)).toNat = v by omega, List.getElem?_range h]
  rfl
theorem jn_mono {N : Nat} {Es : List Ed} (cs : List Int) (a b : Int) : jn (monoE cs Es) a b ↔ jn Es a b ∧ col cs a = col cs b := by
  unfold jn monoE
  simp only [List.mem_filter, decide_eq_true_eq]
  constructor
  · rintro (⟨h, k⟩ | ⟨h, k⟩)
    · exact ⟨.inl h, k⟩
    · exact ⟨.inr h, k.symm⟩
  · rintro ⟨h | h, k⟩
    · exact .inl ⟨h, k⟩
    · exact .inr ⟨h, k.symm⟩
theorem ad_mono {N : Nat} {Es : List Ed} (cs : List Int) (u v : Nat) : ad (monoE cs Es) u v = ad Es u v * if col cs u = col cs v then 1 else 0 := by
  unfold ad
  have := jn_mono (N := N) (Es := Es) cs (u : Int) (v : Int)
  by_cases h : jn Es u v
  · by_cases k : col cs u = col cs v
    · rw [if_pos (this.2 ⟨h, k⟩), if_pos h, if_pos k]
    · rw [if_neg fun q => k (this.1 q).2, if_pos h, if_neg k]
  · rw [if_neg fun q => h (this.1 q).1, if_neg h]; simp
theorem tri_cols {N : Nat} (Es : List Ed) {k i : Nat} : tri N (monoE (cols k N i) Es) = trip N fun u v w => ad Es u v * ad Es u w * ad Es v w * same3 k u v w i := by
  unfold tri
  refine trip_congr fun u v w h1 h2 h3 => ?_
  rw [ad_mono (N := N), ad_mono (N := N), ad_mono (N := N), cols_at (by omega), cols_at (by omega), cols_at h3]
  unfold same3
  have e : ∀ a b : Nat, (((a : Nat) : Int) = (b : Int)) ↔ a = b := fun a b => by omega
  simp only [e]
  generalize dig k i u = a
  generalize dig k i v = b
  generalize dig k i w = c
  by_cases x : a = b
  · by_cases y : a = c
    · subst x y; simp
    · have : ¬ b = c := by omega
      rw [if_pos x, if_neg y, if_neg this, if_neg (by omega)]; simp
  · simp [x]
theorem colours_law {N : Nat} (hN : N ≤ 5) (Es : List Ed) {k : Nat} (hk : 1 ≤ k ∧ k ≤ 3) : sm (k ^ N) (fun i => k * k * tri N (monoE (cols k N i) Es)) = k ^ N * tri N Es := by
  rw [sm_mul, sm_congr fun i _ => tri_cols Es, sm_trip, ← trip_mul, tri, ← trip_mul]
  refine trip_congr fun u v w h1 h2 h3 => ?_
  rw [sm_mul, same3_sum hk hN h1 h2 h3]
  have e : k * k * k ^ (N - 2) = k ^ N := by
    have : k ^ N = k ^ (N - 2 + 2) := by rw [Nat.sub_add_cancel (by omega)]
    rw [this, Nat.pow_add, Nat.mul_comm]
    simp [Nat.pow_succ]
  rw [← e, Nat.mul_comm _ (k ^ (N - 2)), ← Nat.mul_assoc]
end Go.BmP
