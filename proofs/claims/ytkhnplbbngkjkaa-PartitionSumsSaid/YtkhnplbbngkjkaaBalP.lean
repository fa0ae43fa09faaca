/- How partition.Make hands out nodes: plain law. -/
import Derived.Test.YtkhnplbbngkjkaaMkT
set_option linter.unusedSimpArgs false
set_option linter.unusedVariables false
namespace Go.BmP
open Go.Am Go.Bm
theorem cmpI_lt (x y : Int) : (cmpI x y < 0 ↔ x < y) /\ (cmpI x y = 0 ↔ x = y) := by
 unfold cmpI; split
 ·constructor <;> constructor <;> intro h <;> omega
 ·split <;> constructor <;> constructor <;> intro h <;> omega
theorem least_le : ∀ (r : List (Int × Int)) (z : Int × Int), (r.foldl minStep z) ∈ z :: r /\ ∀ y ∈ z :: r, (r.foldl minStep z).1 <= y.1
 | [], z => by simp
 | y :: r, z => by
   rw [List.foldl_cons]
   obtain ⟨h1, h2⟩ := least_le r (minStep z y)
   have m : (minStep z y = y \/ minStep z y = z) /\ (minStep z y).1 <= y.1 /\ (minStep z y).1 <= z.1 := by
    have c1 := cmpI_lt y.1 z.1
    have c2 := cmpI_lt y.2 z.2
    unfold minStep cfM
    by_cases k : cmpI y.1 z.1 = 0
    ·rw [if_pos k]
     split <;> refine ⟨by simp, ?_⟩ <;> omega
    ·rw [if_neg k]
     split <;> refine ⟨by simp, ?_⟩ <;> omega
   constructor
   ·rcases List.mem_cons.1 h1 with e | e
    ·rcases m.1 with q | q
     ·rw [e, q]; simp
     ·rw [e, q]; simp
    ·exact List.mem_cons_of_mem _ (List.mem_cons_of_mem _ e)
   ·intro x hx
    have h3 := h2 _ (List.mem_cons_self ..)
    rcases List.mem_cons.1 hx with rfl | hx
    ·omega
    ·rcases List.mem_cons.1 hx with rfl | hx
     ·omega
     ·exact h2 x (List.mem_cons_of_mem _ hx)
def lst : List (Int × Int) -> Int × Int
 | [] => (0, 0)
 | z :: r => r.foldl minStep z
theorem lst_spec {s : List (Int × Int)} (h : s ≠ []) : lst s ∈ s /\ ∀ y ∈ s, (lst s).1 <= y.1 := by
 cases s with
 | nil => exact absurd rfl h
 | cons z r => exact least_le r z
def mkS (p : List Int × List (Int × Int)) (x : Int × Int) : List Int × List (Int × Int) := (p.1.set x.2.toNat (lst p.2).2, upS x (lst p.2) p.2)
def sumW (P : List (Int × Int)) (o : List Int) (k : Nat) : Int := (P.map fun x => if o.getD x.2.toNat 0 = (k : Int) then x.1 else 0).sum
structure BInv (N w : Nat) (M : Int) (P : List (Int × Int)) (p : List Int × List (Int × Int)) : Prop where
 len : p.1.length = N
 sums : p.2 = (List.range w).map fun k => (sumW P p.1 k, ((k : Nat) : Int))
 own : ∀ x ∈ p.1, 0 <= x /\ x < (w : Int)
 bal : ∀ a ∈ p.2, ∀ b ∈ p.2, a.1 - b.1 <= M
end Go.BmP
