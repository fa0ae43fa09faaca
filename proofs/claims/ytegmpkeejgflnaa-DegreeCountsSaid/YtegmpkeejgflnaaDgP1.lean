/- The h-index of numbers, plainly. -/
import Derived.Test.YtegmpkeejgflnaaSrtG
namespace Go.BmP
open Go.Am Go.Bm
def cntG (L : List Int) (t : Int) : Nat := L.countP fun x => decide (t <= x)
def hUp (L : List Int) : Nat -> Nat -> Nat
 | 0, h => h
 | k + 1, h => if h + 1 <= cntG L ((h : Int) + 1) then hUp L k (h + 1) else h
def hI (L : List Int) : Nat := hUp L (L.length + 1) 0
theorem cntG_cons (x : Int) (L : List Int) (t : Int) : cntG (x :: L) t = cntG L t + (if t <= x then 1 else 0) := by
 unfold cntG
 rw [List.countP_cons]
 simp
theorem cntG_le (L : List Int) (t : Int) : cntG L t <= L.length := List.countP_le_length
theorem cntG_app (L M : List Int) (t : Int) : cntG (L ++ M) t = cntG L t + cntG M t := List.countP_append
theorem cntG_anti {L : List Int} {t u : Int} (h : t <= u) : cntG L u <= cntG L t := by
 induction L with
 | nil => exact Nat.le_refl _
 | cons x r ih =>
   rw [cntG_cons, cntG_cons]
   by_cases q : u <= x
   ·rw [if_pos q, if_pos (by omega)]; omega
   ·rw [if_neg q]; split <;> omega
theorem cntG_perm {L M : List Int} (h : L.Perm M) (t : Int) : cntG L t = cntG M t := h.countP_eq _
theorem hUp_spec (L : List Int) : ∀ k h, L.length + 1 <= h + k -> (∀ j : Nat, j < h -> j + 1 <= cntG L ((j : Int) + 1)) ->
  (∀ j : Nat, j < hUp L k h -> j + 1 <= cntG L ((j : Int) + 1)) /\ ¬ hUp L k h + 1 <= cntG L ((hUp L k h : Int) + 1)
 | 0, h, hk, hj => ⟨hj, by
   have := cntG_le L ((h : Int) + 1)
   show ¬ h + 1 <= cntG L ((h : Int) + 1)
   omega⟩
 | k + 1, h, hk, hj => by
   unfold hUp
   split
   ·rename_i q
    exact hUp_spec L k (h + 1) (by omega) fun j hlt => by
     by_cases e : j = h
     ·subst e; exact q
     ·exact hj j (by omega)
   ·rename_i q
    exact ⟨hj, q⟩
theorem hI_spec (L : List Int) : (∀ j : Nat, j < hI L -> j + 1 <= cntG L ((j : Int) + 1)) /\ ¬ hI L + 1 <= cntG L ((hI L : Int) + 1) :=
 hUp_spec L (L.length + 1) 0 (by omega) (fun j h => by omega)
theorem hI_le (L : List Int) : hI L <= L.length := by
 obtain ⟨h1, h2⟩ := hI_spec L
 by_cases q : hI L = 0
 ·omega
 ·have := h1 (hI L - 1) (by omega)
  have := cntG_le L (((hI L - 1 : Nat) : Int) + 1)
  omega
theorem top_iff {S : List Int} (hs : S.Pairwise (· <= ·)) (h i : Nat) (hi : i < S.length) (e : i + h + 1 = S.length) : (h : Int) < S[i] ↔ h + 1 <= cntG S ((h : Int) + 1) := by
 have es : S.take i ++ S[i] :: S.drop (i + 1) = S := by rw [<- List.drop_eq_getElem_cons hi, List.take_append_drop]
 have hs' : (S.take i ++ S[i] :: S.drop (i + 1)).Pairwise (· <= ·) := by rw [es]; exact hs
 obtain ⟨_, p2, p3⟩ := List.pairwise_append.1 hs'
 have p4 := (List.pairwise_cons.1 p2).1
 have hc : cntG S ((h : Int) + 1) = cntG (S.take i) ((h : Int) + 1) + cntG (S[i] :: S.drop (i + 1)) ((h : Int) + 1) := by rw [<- cntG_app, es]
 have ld : (S.drop (i + 1)).length = h := by rw [List.length_drop]; omega
 constructor
 ·intro q
  have : cntG (S[i] :: S.drop (i + 1)) ((h : Int) + 1) = (S[i] :: S.drop (i + 1)).length := List.countP_eq_length.2 fun x hx => by
   rcases List.mem_cons.1 hx with rfl | hx
   ·simp; omega
   ·have := p4 x hx
    simp; omega
  rw [List.length_cons, ld] at this
  omega
 ·intro q
  by_cases r : (h : Int) < S[i]
  ·exact r
  ·have c0 : cntG (S.take i) ((h : Int) + 1) = 0 := List.countP_eq_zero.2 fun x hx => by
    have := p3 x hx S[i] (List.mem_cons_self)
    simp; omega
   have c1 := cntG_le (S.drop (i + 1)) ((h : Int) + 1)
   rw [hc, c0, cntG_cons, if_neg (by omega)] at q
   omega
end Go.BmP
