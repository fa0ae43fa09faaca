/- Plain law: the pairs in the maximal cliques are the edges, their nodes are all nodes; sorted edges without repetitions. -/
import Derived.Test.YtfmbbifdganaaaaDoorExtP
import Derived.Test.YtfmbbifdganaaaaDoorCfO
import Derived.Test.YtfmbbifdganaaaaDoorCpcG
import Derived.Test.YtfmbbifdganaaaaDoorSetP
import Derived.Test.YtfmbbifdganaaaaDoorSpc
set_option linter.unusedSimpArgs false
set_option linter.unusedVariables false
namespace Go.BmP
open Go.Am Go.Bm
theorem ddp_mem : ∀ (l : List Ed) (z : Ed), z ∈ ddp l ↔ z ∈ l
 | [], z => by simp [ddp]
 | [x], z => by simp [ddp]
 | x :: y :: r, z => by
   have ih := ddp_mem (y :: r) z
   unfold ddp
   split
   ·rename_i e; subst e; rw [ih]; simp
   ·simp only [List.mem_cons] at ih ⊢; rw [ih]
theorem ddp_up : ∀ {l : List Ed}, l.Pairwise (fun a b => leC cfO a b = true) -> UpE (ddp l)
 | [], _ => List.Pairwise.nil
 | [x], _ => by simp [ddp, UpE]
 | x :: y :: r, h => by
   obtain ⟨h1, h2⟩ := List.pairwise_cons.1 h
   have ih := ddp_up h2
   unfold ddp
   split
   ·exact ih
   ·rename_i hne
    refine List.pairwise_cons.2 ⟨fun z hz => ?_, ih⟩
    have hz' := (ddp_mem _ z).1 hz
    have hxz := (leO x z).1 (h1 z hz')
    have hxy := (leO x y).1 (h1 y (by simp))
    have hyz : z = y \/ leC cfO y z = true := by
     rcases List.mem_cons.1 hz' with e | e
     ·exact .inl e
     ·exact .inr ((List.pairwise_cons.1 h2).1 z e)
    have nxy : ¬ (x.1 = y.1 /\ x.2 = y.2) := fun e => hne (Prod.ext e.1 e.2)
    unfold ltE
    rcases hyz with e | e
    ·subst e; omega
    ·have e2 := (leO y z).1 e; omega
def gofL (l : List Ed) : List Ed := ddp (isortC cfO (l.map fun e => nrmE e.1 e.2))
theorem gofL_up (l : List Ed) : UpE (gofL l) := ddp_up (isortC_asc totO _)
theorem gofL_mem (l : List Ed) (z : Ed) : z ∈ gofL l ↔ ∃ e ∈ l, z = nrmE e.1 e.2 := by
 unfold gofL
 rw [ddp_mem, (isortC_perm cfO _).mem_iff, List.mem_map]
 constructor
 ·rintro ⟨a, b, c⟩; exact ⟨a, b, c.symm⟩
 ·rintro ⟨a, b, c⟩; exact ⟨a, b, c.symm⟩
def prsL : List Int -> List Ed
 | [] => []
 | x :: r => r.map (fun y => (x, y)) ++ prsL r
theorem prsL_mem : ∀ {S : List Int}, Up S -> ∀ (a b : Int), (a, b) ∈ prsL S ↔ a ∈ S /\ b ∈ S /\ a < b
 | [], _, a, b => by simp [prsL]
 | x :: r, h, a, b => by
   obtain ⟨h1, h2⟩ := List.pairwise_cons.1 h
   have ih := prsL_mem h2 a b
   unfold prsL
   simp only [List.mem_append, List.mem_map, Prod.mk.injEq, ih, List.mem_cons]
   constructor
   ·rintro (⟨y, hy, rfl, rfl⟩ | ⟨p, q, s⟩)
    ·exact ⟨.inl rfl, .inr hy, h1 _ hy⟩
    ·exact ⟨.inr p, .inr q, s⟩
   ·rintro ⟨p | p, q | q, s⟩
    ·omega
    ·exact .inl ⟨b, q, p.symm, rfl⟩
    ·have := h1 a p; omega
    ·exact .inr ⟨p, q, s⟩
theorem prsL_len : ∀ S : List Int, (prsL S).length <= S.length * S.length
 | [] => by simp [prsL]
 | x :: r => by
   have := prsL_len r
   unfold prsL
   simp only [List.length_append, List.length_map, List.length_cons]
   have e : (r.length + 1) * (r.length + 1) = r.length * r.length + r.length + r.length + 1 := by rw [Nat.add_mul, Nat.mul_add]; omega
   omega
section
variable {N : Nat} {E : List Ed} (h : GOK (N : Int) E)
include h
theorem ext_mcl (hN : 0 < N) {P : List Int} (hP : IsC N E P) : extK N E P ∈ mcl N E /\ ∀ x ∈ P, x ∈ extK N E P := by
 obtain ⟨s1, s2, s3, s4⟩ := extK_spec h hP.q
 refine ⟨(mcl_mem h).2 ⟨s3, ?_, fun x hx k => ?_⟩, fun x hx => (s2 x).2 (.inl hx)⟩
 ·by_cases k : P = []
  ·have h0 : cn N E P ≠ 0 := by
    subst k
    intro e
    have := (cn_bit h (P := []) (by simp) 0).2 ⟨hN, by simp⟩
    rw [e] at this
    simp at this
   obtain ⟨v, _, _, e⟩ := grd_step h hP.q h0
   exact List.ne_nil_of_mem ((s2 v).2 (.inr (by rw [e]; simp)))
  ·obtain ⟨x, hx⟩ := List.exists_mem_of_ne_nil _ k
   exact List.ne_nil_of_mem ((s2 x).2 (.inl hx))
 ·have m := (cnL_mem h (P := extK N E P) (fun y hy => (s3.bd y hy).1) x).2 ⟨hx, k⟩
  rw [s4] at m
  simp [bitL_mem] at m
theorem cov_nodes (v : Int) : v ∈ (mcl N E).flatten ↔ 0 <= v /\ v < (N : Int) := by
 rw [List.mem_flatten]
 constructor
 ·rintro ⟨S, hS, hv⟩
  exact ((mcl_mem h).1 hS).1.bd v hv
 ·intro hv
  have c : IsC N E [v] := ⟨by simp [Up], by simpa using hv, by simp⟩
  obtain ⟨e1, e2⟩ := ext_mcl h (by omega) c
  exact ⟨_, e1, e2 v (by simp)⟩
theorem cov_pairs (z : Ed) : z ∈ (mcl N E).flatMap prsL ↔ z ∈ E := by
 obtain ⟨a, b⟩ := z
 rw [List.mem_flatMap]
 constructor
 ·rintro ⟨S, hS, hm⟩
  have c := ((mcl_mem h).1 hS).1
  obtain ⟨ha, hb, hab⟩ := (prsL_mem c.up a b).1 hm
  obtain ⟨i, hi, rfl⟩ := List.getElem_of_mem ha
  obtain ⟨j, hj, rfl⟩ := List.getElem_of_mem hb
  have hij : i < j := by
   rcases Nat.lt_trichotomy i j with k | k | k
   ·exact k
   ·subst k; omega
   ·have := List.pairwise_iff_getElem.1 c.up j i hj hi k; omega
  rcases List.pairwise_iff_getElem.1 c.ad i j hi hj hij with k | k
  ·exact k
  ·have := h.2.2 _ k; omega
 ·intro hm
  have bd := h.2.2 _ hm
  simp only at bd
  have c : IsC N E [a, b] := ⟨by simp [Up]; omega, by simp; omega, by simp [jn, hm]⟩
  obtain ⟨e1, e2⟩ := ext_mcl h (by omega) c
  refine ⟨_, e1, (prsL_mem ((mcl_mem h).1 e1).1.up a b).2 ⟨e2 a (by simp), e2 b (by simp), by omega⟩⟩
theorem cov_graph : gofL ((mcl N E).flatMap prsL) = E := by
 refine upE_ext (gofL_up _) h.2.1 fun x => ?_
 rw [gofL_mem]
 have nr : ∀ e ∈ E, nrmE e.1 e.2 = e := fun e he => by
  have := h.2.2 e he
  unfold nrmE
  rw [if_neg (by omega), if_pos (by omega)]
 constructor
 ·rintro ⟨e, he, rfl⟩
  have he' := (cov_pairs h e).1 he
  rw [nr e he']; exact he'
 ·intro hx
  exact ⟨x, (cov_pairs h x).2 hx, (nr x hx).symm⟩
end
end Go.BmP
