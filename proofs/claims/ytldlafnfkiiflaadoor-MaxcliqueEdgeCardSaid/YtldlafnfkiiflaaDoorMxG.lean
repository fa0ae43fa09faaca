/- Largest cliques of a graph beside another one, and of a graph with an edge more. -/
import Derived.Test.YtldlafnfkiiflaaDoorMxN
set_option linter.unusedSimpArgs false
set_option linter.unusedVariables false
namespace Go.BmP
open Go.Am Go.Bm
def QS (N : Nat) (Es : List Ed) (S : List Nat) : Prop := S.Pairwise (fun (a b : Nat) => a < b /\ jn Es (a : Int) (b : Int)) /\ ∀ x ∈ S, x < N
def Lgst (N : Nat) (Es : List Ed) (S : List Nat) : Prop := QS N Es S /\ ∀ T, QS N Es T -> T.length <= S.length
theorem lg_beside {a b : Nat} {E F : List Ed} (hE : GOK (a : Int) E) (hF : GOK (b : Int) F) {S T U : List Nat} (hS : Lgst a E S) (hT : Lgst b F T) (hU : Lgst (a + b) (bsE a E F) U) : S.length <= U.length /\ T.length <= U.length /\ (U.length <= S.length \/ U.length <= T.length) := by
 refine ⟨hU.2 S ⟨hS.1.1.imp fun h => ⟨h.1, (bsE_jn hE hF _ _).2 (.inl h.2)⟩, fun x hx => by have := hS.1.2 x hx; omega⟩, ?_, ?_⟩
 ·have := hU.2 (T.map (a + ·)) ⟨?_, ?_⟩
  ·simpa using this
  ·rw [List.pairwise_map]
   refine hT.1.1.imp fun {x y} h => ⟨by omega, (bsE_jn hE hF _ _).2 (.inr ?_)⟩
   rw [show ((a + x : Nat) : Int) - a = x by omega, show ((a + y : Nat) : Int) - a = y by omega]
   exact h.2
  ·intro x hx
   obtain ⟨y, hy, rfl⟩ := List.mem_map.1 hx
   have := hT.1.2 y hy
   omega
 ·obtain ⟨⟨hp, hb⟩, _⟩ := hU
  cases U with
  | nil => left; simp
  | cons x r =>
    obtain ⟨p1, p2⟩ := List.pairwise_cons.1 hp
    by_cases hx : x < a
    ·left
     have hr : ∀ y ∈ r, y < a /\ jn E (x : Int) (y : Int) := by
      intro y hy
      rcases (bsE_jn hE hF _ _).1 (p1 y hy).2 with k | k
      ·have := jn_bd hE k
       exact ⟨by omega, k⟩
      ·have := jn_bd hF k
       omega
     refine hS.2 (x :: r) ⟨List.pairwise_cons.2 ⟨fun y hy => ⟨(p1 y hy).1, (hr y hy).2⟩, ?_⟩, fun y hy => ?_⟩
     ·refine p2.imp_of_mem fun {y z} hy hz h => ⟨h.1, ?_⟩
      rcases (bsE_jn hE hF _ _).1 h.2 with k | k
      ·exact k
      ·have := jn_bd hF k
       have := (hr y hy).1
       omega
     ·rcases List.mem_cons.1 hy with rfl | hy
      ·exact hx
      ·exact (hr y hy).1
    ·right
     have hge : ∀ y ∈ x :: r, a <= y := by
      intro y hy
      rcases List.mem_cons.1 hy with rfl | hy
      ·omega
      ·have := (p1 y hy).1; omega
     have := hT.2 ((x :: r).map (· - a)) ⟨?_, ?_⟩
     ·simpa using this
     ·rw [List.pairwise_map]
      refine hp.imp_of_mem fun {y z} hy hz h => ?_
      have h1 := hge y hy
      have h2 := hge z hz
      refine ⟨by omega, ?_⟩
      rcases (bsE_jn hE hF _ _).1 h.2 with k | k
      ·have := jn_bd hE k
       omega
      ·rw [show ((y - a : Nat) : Int) = (y : Int) - a by omega, show ((z - a : Nat) : Int) = (z : Int) - a by omega]
       exact k
     ·intro y hy
      obtain ⟨z, hz, rfl⟩ := List.mem_map.1 hy
      have h1 := hge z hz
      have h2 := hb z hz
      omega
theorem jn_put {Es : List Ed} {u v : Int} (hn : u ≠ v) {x y : Int} : jn (putE (nrmE u v) Es) x y ↔ jn Es x y \/ (x = u /\ y = v) \/ (x = v /\ y = u) := by
 unfold jn
 rw [putE_mem, putE_mem]
 unfold nrmE
 by_cases h : v < u
 ·rw [if_pos h, if_neg (by omega)]
  simp only [Prod.mk.injEq]
  constructor
  ·rintro ((⟨rfl, rfl⟩ | k) | (⟨rfl, rfl⟩ | k))
   ·exact .inr (.inr ⟨rfl, rfl⟩)
   ·exact .inl (.inl k)
   ·exact .inr (.inl ⟨rfl, rfl⟩)
   ·exact .inl (.inr k)
  ·rintro ((k | k) | ⟨rfl, rfl⟩ | ⟨rfl, rfl⟩)
   ·exact .inl (.inr k)
   ·exact .inr (.inr k)
   ·exact .inr (.inl ⟨rfl, rfl⟩)
   ·exact .inl (.inl ⟨rfl, rfl⟩)
 ·rw [if_neg h, if_pos (by omega)]
  simp only [Prod.mk.injEq]
  constructor
  ·rintro ((⟨rfl, rfl⟩ | k) | (⟨rfl, rfl⟩ | k))
   ·exact .inr (.inl ⟨rfl, rfl⟩)
   ·exact .inl (.inl k)
   ·exact .inr (.inr ⟨rfl, rfl⟩)
   ·exact .inl (.inr k)
  ·rintro ((k | k) | ⟨rfl, rfl⟩ | ⟨rfl, rfl⟩)
   ·exact .inl (.inr k)
   ·exact .inr (.inr k)
   ·exact .inl (.inl ⟨rfl, rfl⟩)
   ·exact .inr (.inl ⟨rfl, rfl⟩)
theorem lg_add {N : Nat} {Es : List Ed} {u v : Int} (hn : u ≠ v) (hu : 0 <= u) (hv : 0 <= v) {S U : List Nat} (hS : Lgst N Es S) (hU : Lgst N (putE (nrmE u v) Es) U) : S.length <= U.length /\ U.length <= S.length + 1 /\ (U.length = S.length \/ u.toNat ∈ U /\ v.toNat ∈ U) := by
 have h1 : S.length <= U.length := hU.2 S ⟨hS.1.1.imp fun h => ⟨h.1, (jn_put hn).2 (.inl h.2)⟩, hS.1.2⟩
 have drop : ∀ W : List Nat, W.Sublist U -> (u.toNat ∉ W \/ v.toNat ∉ W) -> W.length <= S.length := by
  intro W hW hnot
  refine hS.2 W ⟨(hU.1.1.sublist hW).imp_of_mem fun {x y} hx hy h => ⟨h.1, ?_⟩, fun x hx => hU.1.2 x (hW.subset hx)⟩
  rcases (jn_put hn).1 h.2 with k | ⟨k1, k2⟩ | ⟨k1, k2⟩
  ·exact k
  ·exfalso
   rcases hnot with q | q
   ·exact q (by rw [<- k1]; simpa using hx)
   ·exact q (by rw [<- k2]; simpa using hy)
  ·exfalso
   rcases hnot with q | q
   ·exact q (by rw [<- k2]; simpa using hy)
   ·exact q (by rw [<- k1]; simpa using hx)
 by_cases hb : u.toNat ∈ U /\ v.toNat ∈ U
 ·refine ⟨h1, ?_, .inr hb⟩
  have h2 := drop (U.erase u.toNat) List.erase_sublist (.inl fun h => by
   have hnd : U.Nodup := hU.1.1.imp fun h => by omega
   exact (List.Nodup.mem_erase_iff hnd).1 h |>.1 rfl)
  rw [List.length_erase_of_mem hb.1] at h2
  omega
 ·have h2 := drop U (List.Sublist.refl _) (by
   by_cases q : u.toNat ∈ U
   ·exact .inr fun k => hb ⟨q, k⟩
   ·exact .inl q)
  exact ⟨h1, by omega, .inl (by omega)⟩
end Go.BmP
