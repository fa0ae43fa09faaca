/- A clique that is extended node by node: plain law. -/
import Derived.Test.YtfmbbifdganaaaaDoorCliP
set_option linter.unusedVariables false
set_option linter.unusedSimpArgs false
namespace Go.BmP
open Go.Am Go.Bm
def gr (A : List Nat) : Nat -> Nat -> List Int
 | 0, _ => []
 | n + 1, m => if m = 0 then [] else ((tz m : Nat) : Int) :: gr A n (m &&& A.getD (tz m) 0)
structure IsQ (N : Nat) (E : List Ed) (P : List Int) : Prop where
 bd : ∀ x ∈ P, 0 <= x /\ x < (N : Int)
 ad : P.Pairwise (jn E)
theorem IsC.q {N : Nat} {E : List Ed} {P : List Int} (h : IsC N E P) : IsQ N E P := ⟨h.bd, h.ad⟩
section
variable {N : Nat} {E : List Ed} (h : GOK (N : Int) E)
include h
theorem cnL_mem {P : List Int} (hP : ∀ x ∈ P, 0 <= x) (y : Int) : y ∈ bitL (cn N E P) ↔ (0 <= y /\ y < (N : Int)) /\ ∀ v ∈ P, jn E v y := by
 have hn := gok_n h
 rw [bitL_mem]
 constructor
 ·rintro ⟨j, rfl, _, k⟩
  have := (cn_bit h hP j).1 k
  exact ⟨by omega, this.2⟩
 ·rintro ⟨⟨k0, k1⟩, k2⟩
  have e : ((y.toNat : Nat) : Int) = y := by omega
  exact ⟨y.toNat, e.symm, by omega, (cn_bit h hP _).2 ⟨by omega, by rw [e]; exact k2⟩⟩
theorem cn_congr {P Q : List Int} (hP : ∀ x ∈ P, 0 <= x) (hQ : ∀ x ∈ Q, 0 <= x) (e : ∀ x, x ∈ P ↔ x ∈ Q) : cn N E P = cn N E Q := by
 refine bits_ext (cn_lt h P) (cn_lt h Q) fun j _ => ?_
 rw [cn_bit h hP, cn_bit h hQ]
 refine and_congr_right fun _ => ⟨fun k v hv => k v ((e v).2 hv), fun k v hv => k v ((e v).1 hv)⟩
theorem gr_step {P : List Int} (hP : IsQ N E P) (h0 : cn N E P ≠ 0) : ∃ v : Int, v = ((tz (cn N E P) : Nat) : Int) /\ v ∈ bitL (cn N E P) /\ IsQ N E (P ++ [v]) /\ cn N E P &&& (adjE N E).getD (tz (cn N E P)) 0 = cn N E (P ++ [v]) /\ (∀ x ∈ bitL (cn N E (P ++ [v])), x ∈ bitL (cn N E P) /\ v < x) /\ (bitL (cn N E (P ++ [v]))).length < (bitL (cn N E P)).length := by
 have nn : ∀ x ∈ P, 0 <= x := fun x hx => (hP.bd x hx).1
 have st := bitL_step h0 (cn_lt h P)
 have hv : ((tz (cn N E P) : Nat) : Int) ∈ bitL (cn N E P) := by rw [st]; simp
 obtain ⟨b1, b2⟩ := (cnL_mem h nn _).1 hv
 have q : IsQ N E (P ++ [((tz (cn N E P) : Nat) : Int)]) := ⟨fun x hx => by
  rcases List.mem_append.1 hx with k | k
  ·exact hP.bd x k
  ·simp at k; rw [k]; exact b1, by
  rw [List.pairwise_append]
  exact ⟨hP.ad, by simp, fun x hx y hy => by simp at hy; rw [hy]; exact b2 x hx⟩⟩
 have nq : ∀ x ∈ P ++ [((tz (cn N E P) : Nat) : Int)], 0 <= x := fun x hx => (q.bd x hx).1
 have sub : ∀ x ∈ bitL (cn N E (P ++ [((tz (cn N E P) : Nat) : Int)])), x ∈ bitL (cn N E P) /\ ((tz (cn N E P) : Nat) : Int) < x := fun x hx => by
  obtain ⟨c1, c2⟩ := (cnL_mem h nq x).1 hx
  have hxP : x ∈ bitL (cn N E P) := (cnL_mem h nn x).2 ⟨c1, fun w hw => c2 w (by simp [hw])⟩
  refine ⟨hxP, ?_⟩
  have hne : x ≠ ((tz (cn N E P) : Nat) : Int) := by
   rintro rfl
   exact jn_irr h _ (c2 _ (by simp))
  have up := bitL_up (cn N E P)
  rw [st] at hxP up
  rcases List.mem_cons.1 hxP with k | k
  ·exact absurd k hne
  ·exact (List.pairwise_cons.1 up).1 x k
 refine ⟨_, rfl, hv, q, ?_, sub, ?_⟩
 ·rw [cn_snoc, show (((tz (cn N E P) : Nat) : Int)).toNat = tz (cn N E P) by omega]
 ·have hs := sub_of_up (L := bitL (cn N E P &&& (cn N E P - 1))) (bitL_up (cn N E (P ++ [((tz (cn N E P) : Nat) : Int)]))) (bitL_up _) fun x hx => by
   obtain ⟨k1, k2⟩ := sub x hx
   rw [st] at k1
   rcases List.mem_cons.1 k1 with k | k
   ·omega
   ·exact k
  have := hs.length_le
  rw [st]
  simp only [List.length_cons]
  omega
theorem gr_spec : ∀ (n : Nat) (P : List Int), IsQ N E P -> (bitL (cn N E P)).length <= n -> Up (gr (adjE N E) n (cn N E P)) /\ (∀ x ∈ gr (adjE N E) n (cn N E P), x ∈ bitL (cn N E P)) /\ IsQ N E (P ++ gr (adjE N E) n (cn N E P)) /\ cn N E (P ++ gr (adjE N E) n (cn N E P)) = 0
 | 0, P, hP, hl => by
   have : cn N E P = 0 := (bitL_nil (cn_lt h P)).1 (List.length_eq_zero_iff.1 (by omega))
   simp only [gr, List.append_nil]
   exact ⟨List.Pairwise.nil, by simp, hP, this⟩
 | n + 1, P, hP, hl => by
   by_cases h0 : cn N E P = 0
   ·unfold gr
    rw [if_pos h0, List.append_nil]
    exact ⟨List.Pairwise.nil, by simp, hP, h0⟩
   ·obtain ⟨v, ev, hv, hq, he, hs, hlt⟩ := gr_step h hP h0
    obtain ⟨i1, i2, i3, i4⟩ := gr_spec n (P ++ [v]) hq (by omega)
    unfold gr
    rw [if_neg h0, he, <- ev]
    refine ⟨List.pairwise_cons.2 ⟨fun x hx => (hs x (i2 x hx)).2, i1⟩, fun x hx => ?_, by simpa using i3, by simpa using i4⟩
    rcases List.mem_cons.1 hx with k | k
    ·rw [k]; exact hv
    ·exact (hs x (i2 x k)).1
theorem gr_fuel : ∀ (n n' : Nat) (P : List Int), IsQ N E P -> (bitL (cn N E P)).length <= n -> (bitL (cn N E P)).length <= n' -> gr (adjE N E) n (cn N E P) = gr (adjE N E) n' (cn N E P)
 | 0, n', P, hP, hl, hl' => by
   have : cn N E P = 0 := (bitL_nil (cn_lt h P)).1 (List.length_eq_zero_iff.1 (by omega))
   cases n' with
   | zero => rfl
   | succ n' => simp [gr, this]
 | n + 1, n', P, hP, hl, hl' => by
   by_cases h0 : cn N E P = 0
   ·cases n' with
    | zero => simp [gr, h0]
    | succ n' => simp [gr, h0]
   ·obtain ⟨v, ev, hv, hq, he, hs, hlt⟩ := gr_step h hP h0
    cases n' with
    | zero => omega
    | succ n' =>
      unfold gr
      rw [if_neg h0, if_neg h0, he, gr_fuel n n' (P ++ [v]) hq (by omega) (by omega)]
end
def grd (N : Nat) (E : List Ed) (P : List Int) : List Int := gr (adjE N E) 64 (cn N E P)
def extK (N : Nat) (E : List Ed) (P : List Int) : List Int := isort (P ++ grd N E P)
section
variable {N : Nat} {E : List Ed} (h : GOK (N : Int) E)
include h
theorem grd_step {P : List Int} (hP : IsQ N E P) (h0 : cn N E P ≠ 0) : ∃ v : Int, v ∈ bitL (cn N E P) /\ IsQ N E (P ++ [v]) /\ grd N E P = v :: grd N E (P ++ [v]) := by
 obtain ⟨v, ev, hv, hq, he, hs, hlt⟩ := gr_step h hP h0
 refine ⟨v, hv, hq, ?_⟩
 have l1 := bitL_len (cn N E P)
 unfold grd
 conv => lhs; unfold gr
 rw [if_neg h0, he, <- ev, gr_fuel h 63 64 (P ++ [v]) hq (by omega) (by omega)]
theorem grd_spec {P : List Int} (hP : IsQ N E P) : Up (grd N E P) /\ (∀ x ∈ grd N E P, x ∈ bitL (cn N E P)) /\ IsQ N E (P ++ grd N E P) /\ cn N E (P ++ grd N E P) = 0 := gr_spec h 64 P hP (bitL_len _)
theorem isQ_nodup {P : List Int} (hP : IsQ N E P) : P.Nodup := hP.ad.imp fun {a b} k e => by subst e; exact jn_irr h _ k
omit h in
theorem isort_up {l : List Int} (hn : l.Nodup) : Up (isort l) /\ ∀ x, x ∈ isort l ↔ x ∈ l := by
 have hp := isort_perm l
 refine ⟨?_, fun x => hp.mem_iff⟩
 have h1 := isort_asc l
 have h2 : (isort l).Nodup := hp.nodup_iff.2 hn
 exact (List.pairwise_and_iff.2 ⟨h1, h2⟩).imp fun {a b} k => by
  have := k.1; have := k.2; omega
theorem extK_spec {P : List Int} (hP : IsQ N E P) : Up (extK N E P) /\ (∀ x, x ∈ extK N E P ↔ x ∈ P \/ x ∈ grd N E P) /\ IsC N E (extK N E P) /\ cn N E (extK N E P) = 0 := by
 obtain ⟨g1, g2, g3, g4⟩ := grd_spec h hP
 obtain ⟨s1, s2⟩ := isort_up (isQ_nodup h g3)
 have mem : ∀ x, x ∈ extK N E P ↔ x ∈ P \/ x ∈ grd N E P := fun x => by
  unfold extK
  rw [s2, List.mem_append]
 have bd : ∀ x ∈ extK N E P, 0 <= x /\ x < (N : Int) := fun x hx => g3.bd x (List.mem_append.2 ((mem x).1 hx))
 refine ⟨s1, mem, ⟨s1, bd, ?_⟩, ?_⟩
 ·have hp := isort_perm (P ++ grd N E P)
  exact (hp.pairwise_iff fun {a b} k => jn_symm k).2 g3.ad
 ·rw [<- g4]
  exact cn_congr h (fun x hx => (bd x hx).1) (fun x hx => (g3.bd x hx).1) fun x => by rw [mem, List.mem_append]
end
end Go.BmP
