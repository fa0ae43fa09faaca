/- The library's Delete at a list of pairs, for one pair: what is asked of a function that takes over a slice. -/
import Derived.Test.YtcjfhegnnjnmgaaDelP
import Derived.Test.YtcjfhegnnjnmgaaInsO
set_option linter.unusedSimpArgs false
set_option linter.unusedVariables false
namespace Go.Bm
open Go.Am Go.Shelf Go.Proofs Go.RowKit Go.Lib
def delG (k : Nat) (xs es : List AV) : Option (List AV) :=
 match es with
 | [.int .i64 i, .int .i64 m] => if k = 2 /\ 0 <= i /\ i.toNat < xs.length /\ m = i + 1 /\ xs.length <= LIM then some (xs.take i.toNat ++ xs.drop (i.toNat + 1)) else none
 | _ => none
theorem reps_del {fl : List AV} {A B rest : List Value} {j2 m2 : Nat} (hA : ∀ (i : Nat) (d : AV), (fl.take j2)[i]? = some d -> ∃ u, A[i]? = some u /\ Rep (fun _ _ => False) [] d u) (hB : ∀ (i : Nat) (d : AV), (fl.drop m2)[i]? = some d -> ∃ u, B[i]? = some u /\ Rep (fun _ _ => False) [] d u)
  (lA : A.length = (fl.take j2).length) : ∀ (i : Nat) (d : AV), (fl.take j2 ++ fl.drop m2)[i]? = some d -> ∃ u, (A ++ B ++ rest)[i]? = some u /\ Rep (fun _ _ => False) [] d u := by
 intro i d hd
 rw [List.getElem?_append] at hd
 rw [List.append_assoc, List.getElem?_append, lA]
 by_cases h1 : i < (fl.take j2).length
 ·rw [if_pos h1] at hd ⊢; exact hA i d hd
 ·rw [if_neg h1] at hd ⊢
  obtain ⟨u, u1, u2⟩ := hB _ d hd
  exact ⟨u, by rw [List.getElem?_append_left (lt_of_getElem? u1)]; exact u1, u2⟩
theorem delRow_eq {j n : Nat} {cur : Array Value} {D : List Value} (hj : j < n) (h : n * 2 <= cur.size) (hD : D.length = 2 * (n - (j + 1))) : delRow j n cur D = cur.toList.take (j * 2) ++ D ++ ((insZ 1).toList ++ (cur.toList.drop (j * 2 + D.length)).drop 2) := by
 unfold delRow
 have l1 : (cur.toList.take (j * 2) ++ D).length = (n - 1) * 2 := by simp; omega
 rw [List.take_left' l1, List.drop_append, l1, List.drop_of_length_le (by omega), List.nil_append, show (n - 1) * 2 + 2 - (n - 1) * 2 = 2 by omega, List.append_assoc]
theorem delOK : ∀ k xs es ys, delG k xs es = some ys -> (∀ x ∈ xs, x.cells.length = k) -> (∀ x ∈ xs, ∀ d ∈ x.cells, fz d = true) ->
 ((∀ y ∈ ys, y.cells.length = k) /\ ∀ y ∈ ys, ∀ d ∈ y.cells, fz d = true) /\
 (xs = [] -> ∀ w (vargs : Array Value), es.length + 1 = vargs.size -> vargs[0]? = some (.slice none 0 0) -> (∀ (i : Nat) (e : AV) (v : Value), es[i]? = some e -> vargs[i + 1]? = some v -> Rep (Beside w none) [] e v) -> Calls Go.Proofs.Try.prog 43 vargs w (EatPost w none k ys)) /\
 ∀ w (vargs : Array Value) g0 arr te a cap, w.heap[g0]? = some (.cells arr te (0, 0)) -> (∀ (i : Nat) (d : AV), (flatCells xs)[i]? = some d -> ∃ u, arr[i]? = some u /\ Rep (fun _ _ => False) [] d u) -> es.length + 1 = vargs.size -> vargs[0]? = some (.slice (some a) xs.length cap) -> (0 < cap -> a = ⟨g0, 0, none⟩) -> xs.length <= cap -> cap * k <= arr.size ->
  (∀ (i : Nat) (e : AV) (v : Value), es[i]? = some e -> vargs[i + 1]? = some v -> Rep (Beside w (some g0)) [] e v) -> Calls Go.Proofs.Try.prog 43 vargs w (EatPost w (some g0) k ys) := by
 intro k xs es ys hg hk hf
 have hL : LIM = 4294967296 := rfl
 unfold delG at hg
 split at hg
 case h_2 => cases hg
 rename_i i m
 split at hg
 case isFalse => cases hg
 rename_i hc
 obtain ⟨rfl, h0, hin, rfl, hlim⟩ := hc
 simp only [Option.some.injEq] at hg
 obtain ⟨j, rfl⟩ : ∃ j : Nat, i = j := ⟨i.toNat, by omega⟩
 rw [show ((j : Nat) : Int).toNat = j by omega] at hg hin
 subst hg
 have hlen : (xs.take j ++ xs.drop (j + 1)).length = xs.length - 1 := by simp; omega
 have hfl := flat_len hk
 have hfi : flatCells (xs.take j ++ xs.drop (j + 1)) = (flatCells xs).take (j * 2) ++ (flatCells xs).drop ((j + 1) * 2) := by
  rw [flatCells_append, flat_take hk, flat_drop hk]
 refine ⟨⟨fun y hy => ?_, fun y hy => ?_⟩, fun hx => ?_, fun w vargs g0 arr te a cap hgh hcell hl hv0 ha hcap hsz hes => ?_⟩
 ·rcases List.mem_append.1 hy with h | h
  ·exact hk y (List.mem_of_mem_take h)
  ·exact hk y (List.mem_of_mem_drop h)
 ·rcases List.mem_append.1 hy with h | h
  ·exact hf y (List.mem_of_mem_take h)
  ·exact hf y (List.mem_of_mem_drop h)
 ·subst hx; simp at hin
 ·have hargs : vargs = #[.slice (some a) xs.length cap, .int .i64 j, .int .i64 ((j : Int) + 1)] := by
   obtain ⟨v1, h1⟩ := agetElem?_some_of (l := vargs) (i := 1) (by rw [<- hl]; simp)
   obtain ⟨v2, h2⟩ := agetElem?_some_of (l := vargs) (i := 2) (by rw [<- hl]; simp)
   have r1 := hes 0 _ v1 rfl h1
   have r2 := hes 1 _ v2 rfl h2
   cases r1
   cases r2
   apply Array.ext
   ·rw [<- hl]; rfl
   ·intro t p1 p2
    have p3 : t < 3 := by simpa using p2
    match t, p3 with
    | 0, _ => rw [Array.getElem?_eq_getElem p1] at hv0; exact Option.some.inj hv0
    | 1, _ => rw [Array.getElem?_eq_getElem p1] at h1; exact Option.some.inj h1
    | 2, _ => rw [Array.getElem?_eq_getElem p1] at h2; exact Option.some.inj h2
  subst hargs
  have ha' := ha (by omega)
  subst ha'
  have hsz' : xs.length * 2 <= arr.size := Nat.le_trans (Nat.mul_le_mul_right 2 hcap) hsz
  have one : ∀ (t : Nat) (u : Value), t < xs.length * 2 -> arr[t]? = some u -> u.oneCell' = true := by
   intro t u ht hu
   obtain ⟨d, hd⟩ := getElem?_some_of (l := flatCells xs) (i := t) (by omega)
   obtain ⟨u', u1, u2⟩ := hcell t d hd
   rw [hu] at u1
   cases u1
   obtain ⟨y, hy, hdy⟩ := flatCells_mem (List.mem_of_getElem? hd)
   exact u2.oneCell (fz_pl (hf y hy d hdy)).2
  have cellg : ∀ t, w.cell? ⟨g0, t, none⟩ = arr[t]? := fun t => cellRow2 hgh
  obtain ⟨A, hA⟩ : ∃ A, A = arr.toList.take (j * 2) := ⟨_, rfl⟩
  obtain ⟨D, hD⟩ : ∃ D, D = (arr.toList.take (xs.length * 2)).drop ((j + 1) * 2) := ⟨_, rfl⟩
  have lA : A.length = j * 2 := by rw [hA]; simp; omega
  have lD : D.length = 2 * (xs.length - (j + 1)) := by rw [hD]; simp; omega
  have gD : ∀ t u, D[t]? = some u -> (j + 1) * 2 + t < xs.length * 2 /\ arr[(j + 1) * 2 + t]? = some u := fun t u h => by
   rw [hD, List.getElem?_drop, List.getElem?_take] at h
   split at h
   ·rename_i q; exact ⟨q, by simpa using h⟩
   ·cases h
  have rA : ∀ (t : Nat) (d : AV), ((flatCells xs).take (j * 2))[t]? = some d -> ∃ u, A[t]? = some u /\ Rep (fun _ _ => False) [] d u := fun t d hd => by
   rw [List.getElem?_take] at hd
   split at hd
   ·rename_i q
    obtain ⟨u, u1, u2⟩ := hcell t d hd
    exact ⟨u, by rw [hA, List.getElem?_take, if_pos q]; simpa using u1, u2⟩
   ·cases hd
  have rD : ∀ (t : Nat) (d : AV), ((flatCells xs).drop ((j + 1) * 2))[t]? = some d -> ∃ u, D[t]? = some u /\ Rep (fun _ _ => False) [] d u := fun t d hd => by
   rw [List.getElem?_drop] at hd
   obtain ⟨u, u1, u2⟩ := hcell _ d hd
   have := lt_of_getElem? hd
   exact ⟨u, by rw [hD, List.getElem?_drop, List.getElem?_take, if_pos (by omega)]; simpa using u1, u2⟩
  have lAf : A.length = ((flatCells xs).take (j * 2)).length := by rw [lA]; simp; omega
  refine (del_walk g0 xs.length cap j arr te D w hin hcap (by omega) hgh hsz lD (fun t u h => by rw [cellg]; exact (gD t u h).2) (fun u hu => by
   obtain ⟨t, ht⟩ := List.getElem?_of_mem hu
   obtain ⟨q1, q2⟩ := gD t u ht
   exact one _ u q1 q2)).mono ?_
  rintro e' w' ⟨rfl, rfl⟩
  have hrow := delRow_eq (j := j) (n := xs.length) (cur := arr) (D := D) hin hsz' lD
  rw [<- hA] at hrow
  have hz : (insZ 1).toList.length = 2 := by simp [insZ, Builtin.zeroCells, Value.cells]
  have hrl : (delRow j xs.length arr D).length = arr.size := by
   rw [hrow]; simp only [List.length_append, lA, lD, hz, List.length_drop, Array.length_toList]; omega
  rw [<- hlen]
  refine post_same (te := te) hgh rfl rfl rfl rfl (Nat.le_succ _) (by rw [hlen]; omega) (by simp [hrl]; omega) fun i d hd => ?_
  rw [hfi] at hd
  rw [hrow]
  obtain ⟨u, u1, u2⟩ := reps_del (rest := (insZ 1).toList ++ (arr.toList.drop (j * 2 + D.length)).drop 2) rA rD lAf i d hd
  exact ⟨u, by simpa using u1, u2⟩
end Go.Bm
