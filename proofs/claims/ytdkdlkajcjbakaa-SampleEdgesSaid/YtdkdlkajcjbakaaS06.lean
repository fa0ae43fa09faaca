/- Over all lists of bits, the estimates by edges add up: plain law. -/
import Derived.Test.YtdkdlkajcjbakaaS03
import Derived.Test.YtdkdlkajcjbakaaS05
set_option linter.unusedSimpArgs false
set_option linter.unusedVariables false
set_option maxRecDepth 100000
set_option maxHeartbeats 4000000
namespace Go.BmP
open Go.Am Go.Bm
def bt (i k : Nat) : Bool := decide (i / 2 ^ k % 2 = 1)
def bts (m i : Nat) : List Bool := (List.range m).map (bt i)
theorem bts_length (m i : Nat) : (bts m i).length = m := by simp [bts]
theorem bts_at {m i k : Nat} (h : k < m) : (bts m i)[k]? = some (bt i k) := by unfold bts; rw [List.getElem?_map, List.getElem?_range h]; rfl
theorem keepE_mem : ∀ {bs : List Bool} {l : List Ed} {e : Ed}, l.Nodup → (e ∈ keepE bs l ↔ e ∈ l ∧ bs[l.idxOf e]? = some true)
  | [], l, e, _ => by cases l <;> simp [keepE]
  | b :: bs, [], e, _ => by rw [keepE_nil]; simp
  | b :: bs, x :: r, e, hn => by
    obtain ⟨n1, n2⟩ := List.nodup_cons.1 hn
    rw [keepE_cons, List.mem_append, keepE_mem (bs := bs) n2]
    by_cases q : x = e
    · subst q
      have i0 : (x :: r).idxOf x = 0 := by simp
      rw [i0]
      cases b <;> simp [n1]
    · have i1 : (x :: r).idxOf e = r.idxOf e + 1 := by
        rw [List.idxOf_cons]
        have : (x == e) = false := by simpa using q
        rw [this]; rfl
      have q2 : ¬ e = x := fun h => q h.symm
      rw [i1]
      cases b <;> simp [q2]
/-- Where an edge stands. -/
def pos (Es : List Ed) (u v : Nat) : Nat := Es.idxOf ((u : Int), (v : Int))
theorem ad_keep {N : Nat} {Es : List Ed} (hG : GOK (N : Int) Es) (bs : List Bool) {u v : Nat} (h : u < v) : ad (keepE bs Es) u v = ad Es u v * if bs[pos Es u v]? = some true then 1 else 0 := by
  have hK := gok_sub hG (keepE_sub bs Es)
  rw [← inE_ad hG h, ← inE_ad hK h]
  unfold inE pos
  have := keepE_mem (bs := bs) (l := Es) (e := ((u : Int), (v : Int))) (upE_nodup hG.2.1)
  by_cases k : ((u : Int), (v : Int)) ∈ Es
  · by_cases q : bs[Es.idxOf ((u : Int), (v : Int))]? = some true
    · rw [if_pos (this.2 ⟨k, q⟩), if_pos k, if_pos q]
    · rw [if_neg fun z => q (this.1 z).2, if_pos k, if_neg q]
  · rw [if_neg fun z => k (this.1 z).1, if_neg k]; simp
def b3 (p q r i : Nat) : Nat := if bt i p = true ∧ bt i q = true ∧ bt i r = true then 1 else 0
def chkB3 (m p q r : Nat) : Bool := 8 * sm (2 ^ m) (b3 p q r) == 2 ^ m
def chkB3all : Bool := [3, 4, 5, 6, 7, 8].all fun m => (List.range m).all fun p => (List.range m).all fun q => (List.range m).all fun r => (p == q || (p == r || q == r)) || chkB3 m p q r
theorem chk_b3 : chkB3all = true := by decide +kernel
theorem b3_sum {m p q r : Nat} (hm : m ≤ 8) (hp : p < m) (hq : q < m) (hr : r < m) (h1 : p ≠ q) (h2 : p ≠ r) (h3 : q ≠ r) : 8 * sm (2 ^ m) (b3 p q r) = 2 ^ m := by
  have h := chk_b3
  unfold chkB3all at h
  have a := List.all_eq_true.1 h m (by simp; omega)
  have b := List.all_eq_true.1 a p (List.mem_range.2 hp)
  have c := List.all_eq_true.1 b q (List.mem_range.2 hq)
  have d := List.all_eq_true.1 c r (List.mem_range.2 hr)
  simp only [Bool.or_eq_true, beq_iff_eq, h1, h2, h3, false_or] at d
  exact eq_of_beq d
theorem edges_law {N : Nat} {Es : List Ed} (hG : GOK (N : Int) Es) (hm : Es.length ≤ 8) : sm (2 ^ Es.length) (fun i => 8 * tri N (keepE (bts Es.length i) Es)) = 2 ^ Es.length * tri N Es := by
  have e1 : ∀ i, tri N (keepE (bts Es.length i) Es) = trip N fun u v w => ad Es u v * ad Es u w * ad Es v w * b3 (pos Es u v) (pos Es u w) (pos Es v w) i := fun i => by
    unfold tri
    refine trip_congr fun u v w h1 h2 h3 => ?_
    rw [ad_keep hG _ h1, ad_keep hG _ (by omega : u < w), ad_keep hG _ h2]
    have pl : ∀ u v : Nat, u < v → ad Es u v = 0 ∨ pos Es u v < Es.length := fun u v h => by
      rw [← inE_ad hG h]
      unfold inE pos
      by_cases k : ((u : Int), (v : Int)) ∈ Es
      · right; exact List.idxOf_lt_length_iff.2 k
      · left; rw [if_neg k]
    rcases pl u v h1 with z | a
    · rw [z]; simp
    rcases pl u w (by omega) with z | b
    · rw [z]; simp
    rcases pl v w h2 with z | c
    · rw [z]; simp
    rw [bts_at a, bts_at b, bts_at c]
    unfold b3
    cases bt i (pos Es u v) <;> cases bt i (pos Es u w) <;> cases bt i (pos Es v w) <;> simp
  rw [sm_mul, sm_congr fun i _ => e1 i, sm_trip, ← trip_mul, tri, ← trip_mul]
  refine trip_congr fun u v w h1 h2 h3 => ?_
  have pl : ∀ u v : Nat, u < v → ad Es u v = 0 ∨ (ad Es u v = 1 ∧ ((u : Int), (v : Int)) ∈ Es) := fun u v h => by
    rw [← inE_ad hG h]
    unfold inE
    by_cases k : ((u : Int), (v : Int)) ∈ Es
    · right; rw [if_pos k]; exact ⟨rfl, k⟩
    · left; rw [if_neg k]
  rcases pl u v h1 with z | ⟨z1, a⟩
  · rw [sm_congr (g := fun _ => 0) fun i _ => by rw [z]; simp, sm_zero, z]; simp
  rcases pl u w (by omega) with z | ⟨z2, b⟩
  · rw [sm_congr (g := fun _ => 0) fun i _ => by rw [z]; simp, sm_zero, z]; simp
  rcases pl v w h2 with z | ⟨z3, c⟩
  · rw [sm_congr (g := fun _ => 0) fun i _ => by rw [z]; simp, sm_zero, z]; simp
  have ne : ∀ e f : Ed, e ∈ Es → f ∈ Es → e ≠ f → Es.idxOf e ≠ Es.idxOf f := fun e f he hf n q => by
    have h1 := List.getElem_idxOf (List.idxOf_lt_length_iff.2 he)
    have h2 := List.getElem_idxOf (List.idxOf_lt_length_iff.2 hf)
    apply n
    rw [← h1, ← h2]
    congr 1
  have s := b3_sum hm (List.idxOf_lt_length_iff.2 a) (List.idxOf_lt_length_iff.2 b) (List.idxOf_lt_length_iff.2 c) (ne _ _ a b fun h => by have := (Prod.mk.inj h).2; omega) (ne _ _ a c fun h => by have := (Prod.mk.inj h).1; omega) (ne _ _ b c fun h => by have := (Prod.mk.inj h).1; omega)
  rw [z1, z2, z3, sm_congr (g := b3 (pos Es u v) (pos Es u w) (pos Es v w)) fun i _ => by simp]
  simp only [Nat.mul_one, Nat.one_mul]
  exact s
end Go.BmP
