/- The neighbours that triangles.lists computes: plain law. -/
import Derived.Test.YtegmpkeejgflnaaT01
import Derived.Test.YtegmpkeejgflnaaT03
set_option linter.unusedSimpArgs false
set_option linter.unusedVariables false
namespace Go.BmP
open Go.Am Go.Bm
def nbF (u : Int) (e : Ed) : Option Int := if e.1 = u then some e.2 else if e.2 = u then some e.1 else none
theorem lsF_get {R : List (List Int)} {e : Ed} {u : Nat} (hu : u < R.length) (h0 : 0 <= e.1) (h1 : e.1 < e.2) : (lsF R e).getD u [] = R.getD u [] ++ (nbF u e).toList := by
 unfold lsF nbF
 simp only [List.getD_eq_getElem?_getD]
 by_cases k1 : e.1 = (u : Int)
 ·have k2 : ¬ e.2 = (u : Int) := by omega
  rw [if_pos k1, List.getElem?_set_ne (by omega), show e.1.toNat = u by omega, List.getElem?_set_self hu]
  rfl
 ·rw [if_neg k1]
  by_cases k2 : e.2 = (u : Int)
  ·rw [if_pos k2, show e.2.toNat = u by omega, List.getElem?_set_self (by simpa using hu)]
   rfl
  ·rw [if_neg k2, List.getElem?_set_ne (by omega), List.getElem?_set_ne (by omega)]
   simp
theorem foldl_get {N : Nat} {u : Nat} (hu : u < N) : ∀ (Es : List Ed) (R : List (List Int)), R.length = N -> (∀ e ∈ Es, 0 <= e.1 /\ e.1 < e.2) -> (Es.foldl lsF R).getD u [] = R.getD u [] ++ Es.filterMap (nbF u)
 | [], R, _, _ => by simp
 | e :: r, R, hR, h => by
   have he := h e (by simp)
   rw [List.foldl_cons, foldl_get hu r (lsF R e) (by rw [lsF_length]; exact hR) (fun x hx => h x (by simp [hx])), lsF_get (by omega) he.1 he.2, List.filterMap_cons, List.append_assoc]
   congr 1
   cases nbF u e <;> simp
def nbr (N : Nat) (Es : List Ed) (u : Int) : List Int := (lstE N Es).getD u.toNat []
theorem nbr_eq {N : Nat} {Es : List Ed} {u : Nat} (hu : u < N) (h : ∀ e ∈ Es, 0 <= e.1 /\ e.1 < e.2) : nbr N Es u = isort (Es.filterMap (nbF u)) := by
 have := foldl_get hu Es (List.replicate N []) (by simp) h
 have e0 : (List.replicate N ([] : List Int)).getD u [] = [] := by rw [List.getD_eq_getElem?_getD, List.getElem?_replicate, if_pos hu]; rfl
 rw [e0, List.nil_append] at this
 unfold nbr lstE
 have hl : u < (Es.foldl lsF (List.replicate N [])).length := by rw [foldl_len, List.length_replicate]; exact hu
 rw [show ((u : Int)).toNat = u by omega, List.getD_eq_getElem?_getD, List.getElem?_map]
 rw [List.getD_eq_getElem?_getD] at this
 rw [List.getElem?_eq_getElem hl] at this ⊢
 simp at this ⊢
 rw [this]
theorem nbF_some {u x : Int} {e : Ed} : nbF u e = some x ↔ (e.1 = u /\ e.2 = x) \/ (e.1 ≠ u /\ e.2 = u /\ e.1 = x) := by
 unfold nbF
 split
 ·rename_i h; simp [h]
 ·rename_i h
  split
  ·rename_i h2; simp [h, h2]
  ·rename_i h2; simp [h, h2]
theorem nbr_mem {N : Nat} {Es : List Ed} (hG : GOK (N : Int) Es) {u : Int} (h0 : 0 <= u) (h1 : u < N) (x : Int) : x ∈ nbr N Es u ↔ jn Es u x := by
 obtain ⟨w, rfl⟩ : ∃ w : Nat, u = w := ⟨u.toNat, by omega⟩
 rw [nbr_eq (by omega) fun e he => ⟨(hG.2.2 e he).1, (hG.2.2 e he).2.1⟩, (isort_perm _).mem_iff, List.mem_filterMap]
 unfold jn
 constructor
 ·rintro ⟨e, he, h⟩
  rcases nbF_some.1 h with ⟨a, b⟩ | ⟨a, b, c⟩
  ·left; rw [<- a, <- b]; exact he
  ·right; rw [<- b, <- c]; exact he
 ·rintro (h | h)
  ·exact ⟨_, h, nbF_some.2 (.inl ⟨rfl, rfl⟩)⟩
  ·have := (hG.2.2 _ h).2.1
   exact ⟨_, h, nbF_some.2 (.inr ⟨by simp only at this ⊢; omega, rfl, rfl⟩)⟩
theorem nbr_up {N : Nat} {Es : List Ed} (hG : GOK (N : Int) Es) {u : Int} (h0 : 0 <= u) (h1 : u < N) : Up (nbr N Es u) := by
 obtain ⟨w, rfl⟩ : ∃ w : Nat, u = w := ⟨u.toNat, by omega⟩
 rw [nbr_eq (by omega) fun e he => ⟨(hG.2.2 e he).1, (hG.2.2 e he).2.1⟩]
 have nd : (Es.filterMap (nbF w)).Nodup := by
  have hp : Es.Pairwise (fun a b => ltE a b /\ (a.1 < a.2 /\ b.1 < b.2)) := by
   refine List.Pairwise.imp_of_mem (fun {a b} ha hb h => ⟨h, (hG.2.2 a ha).2.1, (hG.2.2 b hb).2.1⟩) hG.2.1
  refine List.Pairwise.filterMap _ (fun a b h x hx y hy e => ?_) hp
  subst e
  obtain ⟨h1, h2, h3⟩ := h
  have : a = b := by
   rcases nbF_some.1 hx with ⟨p, q⟩ | ⟨p, q, r⟩ <;> rcases nbF_some.1 hy with ⟨p', q'⟩ | ⟨p', q', r'⟩
   ·exact Prod.ext (by omega) (by omega)
   ·exfalso; omega
   ·exfalso; omega
   ·exact Prod.ext (by omega) (by omega)
  subst this
  exact ltE_irr h1
 have nd2 : (isort (Es.filterMap (nbF w))).Nodup := (isort_perm _).nodup_iff.2 nd
 refine List.Pairwise.imp₂ (fun {a b} h1 h2 => ?_) (isort_asc _) nd2
 omega
theorem jn_bd {N : Nat} {Es : List Ed} (hG : GOK (N : Int) Es) {u x : Int} (h : jn Es u x) : (0 <= u /\ u < N) /\ (0 <= x /\ x < N) /\ u ≠ x := by
 rcases h with h | h <;> (have := hG.2.2 _ h; simp only at this; omega)
theorem up_len {N : Nat} : ∀ {l : List Int} {a : Nat}, Up l -> (∀ x ∈ l, (a : Int) <= x /\ x < N) -> l.length <= N - a
 | [], a, _, _ => by simp
 | x :: r, a, hu, h => by
   obtain ⟨h1, h2⟩ := List.pairwise_cons.1 hu
   have hx := h x (by simp)
   have ih := up_len (l := r) (a := a + 1) h2 fun y hy => ⟨by have := h1 y hy; omega, (h y (by simp [hy])).2⟩
   simp only [List.length_cons]
   omega
theorem nbr_len {N : Nat} {Es : List Ed} (hG : GOK (N : Int) Es) {u : Int} (h0 : 0 <= u) (h1 : u < N) : (nbr N Es u).length <= N := by
 have := up_len (a := 0) (N := N) (nbr_up hG h0 h1) fun x hx => ⟨by have := (jn_bd hG ((nbr_mem hG h0 h1 x).1 hx)).2.1; omega, (jn_bd hG ((nbr_mem hG h0 h1 x).1 hx)).2.1.2⟩
 omega
def com (N : Nat) (Es : List Ed) (e : Ed) : List Int := shr (nbr N Es e.1) (nbr N Es e.2)
def bump (n : List Int) (w : Int) : List Int := n.set w.toNat (n.getD w.toNat 0 + 1)
def triN (N : Nat) (Es : List Ed) : List Int := Es.foldl (fun n e => (com N Es e).foldl bump n) (List.replicate N 0)
def triS (N : Nat) (Es : List Ed) : Nat := (Es.map fun e => (com N Es e).length).sum
end Go.BmP
