/- The library's Insert at a list of pairs, for one pair: what is asked of a function that takes over a slice. -/
import Derived.Test.YtcjfhegnnjnmgaaInsP
import Derived.Test.YtcjfhegnnjnmgaaMe
set_option linter.unusedSimpArgs false
set_option linter.unusedVariables false
namespace Go.Bm
open Go.Am Go.Shelf Go.Proofs Go.RowKit Go.Lib
def insG (k : Nat) (xs es : List AV) : Option (List AV) :=
 match es with
 | [.int .i64 i, .list 2 [e]] => if k = 2 /\ 0 <= i /\ i.toNat <= xs.length /\ xs.length + 1 <= LIM /\ e.cells.length = 2 /\ fzL e.cells = true /\ cleanL e.cells = true then some (xs.take i.toNat ++ e :: xs.drop i.toNat) else none
 | _ => none
theorem post_new {w W : World} {og : Option Nat} {k : Nat} {ys : List AV} {cap : Nat} {arr : Array Value} {te : TypeId} (hH : W.heap = w.heap.push (.cells arr te (0, 0))) (h1 : W.os = w.os) (h2 : W.tape = w.tape) (h3 : W.output = w.output) (h4 : w.drawn <= W.drawn) (hcap : ys.length <= cap) (hs : cap * k <= arr.size)
  (hc : ∀ (i : Nat) (d : AV), (flatCells ys)[i]? = some d -> ∃ u, arr[i]? = some u /\ Rep (fun _ _ => False) [] d u) : EatPost w og k ys (.returned (.slice (some ⟨w.heap.size, 0, none⟩) ys.length cap)) W := by
 refine ⟨w.heap.size, cap, arr, te, rfl, hcap, hs, by rw [hH]; simp, hc, .inr (Nat.le_refl _), fun h hh _ => ?_, h1, h2, h3, h4, by rw [hH]; simp⟩
 rw [hH, Array.getElem?_push_lt hh, Array.getElem?_eq_getElem hh]
theorem post_same {w W : World} {g k : Nat} {ys : List AV} {cap : Nat} {cur arr : Array Value} {te : TypeId} (hg : w.heap[g]? = some (.cells cur te (0, 0))) (hH : W.heap = (w.setRow g arr).heap) (h1 : W.os = w.os) (h2 : W.tape = w.tape) (h3 : W.output = w.output) (h4 : w.drawn <= W.drawn) (hcap : ys.length <= cap) (hs : cap * k <= arr.size)
  (hc : ∀ (i : Nat) (d : AV), (flatCells ys)[i]? = some d -> ∃ u, arr[i]? = some u /\ Rep (fun _ _ => False) [] d u) : EatPost w (some g) k ys (.returned (.slice (some ⟨g, 0, none⟩) ys.length cap)) W := by
 refine ⟨g, cap, arr, te, rfl, hcap, hs, by rw [hH]; exact setRow_heap w g cur _ te _ hg, hc, .inl rfl, fun h hh hne => ?_, h1, h2, h3, h4, by rw [hH]; simp [World.setRow]⟩
 have hgh : g ≠ h := fun e => hne (by rw [e])
 rw [hH]
 simp [World.setRow, Array.getElem?_modify, hgh]
theorem flat_ins {xs : List AV} {j : Nat} {e : AV} {k : Nat} (hk : ∀ x ∈ xs, x.cells.length = k) : flatCells (xs.take j ++ e :: xs.drop j) = (flatCells xs).take (j * k) ++ e.cells ++ (flatCells xs).drop (j * k) := by
 rw [flatCells_append]
 simp only [flatCells]
 rw [flat_take hk, flat_drop hk, List.append_assoc]
theorem reps_ins {fl ec : List AV} {A V B rest : List Value} {j2 : Nat} (hA : ∀ (i : Nat) (d : AV), (fl.take j2)[i]? = some d -> ∃ u, A[i]? = some u /\ Rep (fun _ _ => False) [] d u) (hV : ∀ (i : Nat) (d : AV), ec[i]? = some d -> ∃ u, V[i]? = some u /\ Rep (fun _ _ => False) [] d u) (hB : ∀ (i : Nat) (d : AV), (fl.drop j2)[i]? = some d -> ∃ u, B[i]? = some u /\ Rep (fun _ _ => False) [] d u)
  (lA : A.length = (fl.take j2).length) (lV : V.length = ec.length) : ∀ (i : Nat) (d : AV), (fl.take j2 ++ ec ++ fl.drop j2)[i]? = some d -> ∃ u, (A ++ V ++ B ++ rest)[i]? = some u /\ Rep (fun _ _ => False) [] d u := by
 intro i d hd
 rw [List.getElem?_append] at hd
 rw [List.append_assoc (A ++ V), List.getElem?_append, List.length_append, lA, lV, <- List.length_append]
 by_cases h1 : i < (fl.take j2 ++ ec).length
 ·rw [if_pos h1] at hd ⊢
  rw [List.getElem?_append] at hd ⊢
  rw [lA]
  by_cases h2 : i < (fl.take j2).length
  ·rw [if_pos h2] at hd ⊢; exact hA i d hd
  ·rw [if_neg h2] at hd ⊢; exact hV _ d hd
 ·rw [if_neg h1] at hd ⊢
  obtain ⟨u, u1, u2⟩ := hB _ d hd
  exact ⟨u, by rw [List.getElem?_append_left (lt_of_getElem? u1)]; exact u1, u2⟩
theorem arg_pair {w : World} {og : Option Nat} {e : AV} {v : Value} (he : e.cells.length = 2) (hz : fzL e.cells = true) (hcl : cleanL e.cells = true) (r : Rep (Beside w og) [] (.list 2 [e]) v) :
  ∃ (vb voff vc : Nat) (va : Array Value) (vt : TypeId) (vs : List Value), v = .slice (some ⟨vb, voff, none⟩) 1 vc /\ og ≠ some vb /\ w.heap[vb]? = some (.cells va vt (0, 0)) /\ vs.length = 2 /\ (∀ (t : Nat) (u : Value), vs[t]? = some u -> w.cell? ⟨vb, voff + t, none⟩ = some u) /\ (∀ u ∈ vs, u.oneCell' = true) /\ ∀ (t : Nat) (d : AV), e.cells[t]? = some d -> ∃ u, vs[t]? = some u /\ Rep (fun _ _ => False) [] d u := by
 cases r with
 | lst _ _ _ a n cap u hn hcap hk hu hh =>
   simp only [List.length_cons, List.length_nil] at hn
   subst hn
   obtain ⟨d0, d1, hd⟩ : ∃ d0 d1, e.cells = [d0, d1] := by
    match h : e.cells with
    | [] => rw [h] at he; cases he
    | [_] => rw [h] at he; cases he
    | [a, b] => exact ⟨a, b, rfl⟩
    | _ :: _ :: _ :: _ => rw [h] at he; simp at he
   have e0 : e.cells[0]? = some d0 := by rw [hd]; rfl
   have e1 : e.cells[1]? = some d1 := by rw [hd]; rfl
   have q0 := hu 0 0 e d0 rfl e0
   have q1 := hu 0 1 e d1 rfl e1
   have p0 := hh 0 0 e d0 rfl e0
   have p1 := hh 0 1 e d1 rfl e1
   have z0 := fzL_mem hz d0 (by rw [hd]; simp)
   have z1 := fzL_mem hz d1 (by rw [hd]; simp)
   have k0 := cleanL_mem hcl d0 (by rw [hd]; simp)
   have k1 := cleanL_mem hcl d1 (by rw [hd]; simp)
   obtain ⟨ab, ao, asp⟩ := a
   obtain ⟨b1, b2, arr, te, b3⟩ := q0
   obtain ⟨_, c2, _⟩ := q1
   have ea : (⟨ab, ao, asp⟩ : Addr).add (0 * 2 + 0) = ⟨ab, ao, asp⟩ := rfl
   have eb : (⟨ab, ao, asp⟩ : Addr).add (0 * 2 + 1) = ⟨ab, ao + 1, none⟩ := rfl
   rw [ea] at b1 b2 b3
   rw [eb] at c2
   have hsp : asp = none := by
    simp only [World.cell?, b3] at b2
    cases asp with
    | none => rfl
    | some z => simp at b2
   subst hsp
   refine ⟨ab, ao, cap, arr, te, [u 0 0, u 0 1], rfl, b1, b3, rfl, fun t x ht => ?_, fun x hx => ?_, fun t d ht => ?_⟩
   ·match t with
    | 0 => simp at ht; subst ht; exact b2
    | 1 => simp at ht; subst ht; exact c2
    | t + 2 => simp at ht
   ·simp only [List.mem_cons, List.not_mem_nil, or_false] at hx
    rcases hx with rfl | rfl
    ·exact p0.oneCell (fz_pl z0).2
    ·exact p1.oneCell (fz_pl z1).2
   ·rw [hd] at ht
    match t with
    | 0 => simp at ht; subst ht; exact ⟨_, rfl, clean_cell (N := ⟨fun _ => 0, fun _ => none⟩) k0 (fz_pl z0).1 p0⟩
    | 1 => simp at ht; subst ht; exact ⟨_, rfl, clean_cell (N := ⟨fun _ => 0, fun _ => none⟩) k1 (fz_pl z1).1 p1⟩
    | t + 2 => simp at ht
theorem insRow_eq {j : Nat} {cur : Array Value} {D vs : List Value} (h : (j + 1) * 2 <= cur.size) : insRow j cur D vs = cur.toList.take (j * 2) ++ vs ++ D ++ cur.toList.drop ((j + 1) * 2 + D.length) := by
 unfold insRow
 have l1 : (cur.toList.take ((j + 1) * 2)).length = (j + 1) * 2 := by simp; omega
 rw [List.append_assoc (cur.toList.take ((j + 1) * 2)) D, List.take_append_of_le_length (by omega), List.take_take, show min (j * 2) ((j + 1) * 2) = j * 2 by omega, List.drop_left' (by omega)]
 simp only [List.append_assoc]
theorem insNew_eq {j : Nat} {A Z vs ds : List Value} (hA : A.length = j * 2) (hv : vs.length = 2) : insNew j (A ++ Z) vs ds = A ++ vs ++ ds ++ (A ++ vs ++ (A ++ Z).drop (j * 2 + 2)).drop ((j + 1) * 2 + ds.length) := by
 unfold insNew
 rw [List.take_left' hA, List.append_assoc A vs, <- List.append_assoc A vs, List.take_left' (by simp; omega)]
theorem push_modify {α : Type} (a : Array α) (x : α) (f : α -> α) : (a.push x).modify a.size f = a.push (f x) := by
 apply Array.ext_getElem?
 intro t
 rw [Array.getElem?_modify, Array.getElem?_push, Array.getElem?_push]
 by_cases h : a.size = t
 ·subst h; simp
 ·rw [if_neg h, if_neg (Ne.symm h), if_neg (Ne.symm h)]
theorem insOK : ∀ k xs es ys, insG k xs es = some ys -> (∀ x ∈ xs, x.cells.length = k) -> (∀ x ∈ xs, ∀ d ∈ x.cells, fz d = true) ->
 ((∀ y ∈ ys, y.cells.length = k) /\ ∀ y ∈ ys, ∀ d ∈ y.cells, fz d = true) /\
 (xs = [] -> ∀ w (vargs : Array Value), es.length + 1 = vargs.size -> vargs[0]? = some (.slice none 0 0) -> (∀ (i : Nat) (e : AV) (v : Value), es[i]? = some e -> vargs[i + 1]? = some v -> Rep (Beside w none) [] e v) -> Calls Go.Proofs.Try.prog 40 vargs w (EatPost w none k ys)) /\
 ∀ w (vargs : Array Value) g0 arr te a cap, w.heap[g0]? = some (.cells arr te (0, 0)) -> (∀ (i : Nat) (d : AV), (flatCells xs)[i]? = some d -> ∃ u, arr[i]? = some u /\ Rep (fun _ _ => False) [] d u) -> es.length + 1 = vargs.size -> vargs[0]? = some (.slice (some a) xs.length cap) -> (0 < cap -> a = ⟨g0, 0, none⟩) -> xs.length <= cap -> cap * k <= arr.size ->
  (∀ (i : Nat) (e : AV) (v : Value), es[i]? = some e -> vargs[i + 1]? = some v -> Rep (Beside w (some g0)) [] e v) -> Calls Go.Proofs.Try.prog 40 vargs w (EatPost w (some g0) k ys) := by
 intro k xs es ys hg hk hf
 have hL : LIM = 4294967296 := rfl
 unfold insG at hg
 split at hg
 case h_2 => cases hg
 rename_i i e
 split at hg
 case isFalse => cases hg
 rename_i hc
 obtain ⟨rfl, h0, hin, hlim, he2, hez, hec⟩ := hc
 simp only [Option.some.injEq] at hg
 obtain ⟨j, rfl⟩ : ∃ j : Nat, i = j := ⟨i.toNat, by omega⟩
 rw [show ((j : Nat) : Int).toNat = j by omega] at hg hin
 subst hg
 have hlen : (xs.take j ++ e :: xs.drop j).length = xs.length + 1 := by simp; omega
 have hfl := flat_len hk
 have hfi := flat_ins (e := e) (j := j) hk
 have three : ∀ {vargs : Array Value} {v0 : Value}, [AV.int .i64 j, .list 2 [e]].length + 1 = vargs.size -> vargs[0]? = some v0 -> ∃ v1 v2, vargs = #[v0, v1, v2] /\ vargs[1]? = some v1 /\ vargs[2]? = some v2 := by
  intro vargs v0 hs h0
  obtain ⟨v1, h1⟩ := agetElem?_some_of (l := vargs) (i := 1) (by rw [<- hs]; simp)
  obtain ⟨v2, h2⟩ := agetElem?_some_of (l := vargs) (i := 2) (by rw [<- hs]; simp)
  refine ⟨v1, v2, ?_, h1, h2⟩
  apply Array.ext
  ·rw [<- hs]; rfl
  ·intro t p1 p2
   have p3 : t < 3 := by simpa using p2
   match t, p3 with
   | 0, _ => rw [Array.getElem?_eq_getElem p1] at h0; exact Option.some.inj h0
   | 1, _ => rw [Array.getElem?_eq_getElem p1] at h1; exact Option.some.inj h1
   | 2, _ => rw [Array.getElem?_eq_getElem p1] at h2; exact Option.some.inj h2
 refine ⟨⟨fun y hy => ?_, fun y hy => ?_⟩, fun hx w vargs hl hv0 hes => ?_, fun w vargs g0 arr te a cap hgh hcell hl hv0 ha hcap hsz hes => ?_⟩
 ·rcases List.mem_append.1 hy with h | h
  ·exact hk y (List.mem_of_mem_take h)
  ·rcases List.mem_cons.1 h with h | h
   ·subst h; exact he2
   ·exact hk y (List.mem_of_mem_drop h)
 ·rcases List.mem_append.1 hy with h | h
  ·exact hf y (List.mem_of_mem_take h)
  ·rcases List.mem_cons.1 h with h | h
   ·subst h; exact fzL_mem hez
   ·exact hf y (List.mem_of_mem_drop h)
 ·subst hx
  have hj : j = 0 := by simpa using hin
  subst hj
  obtain ⟨v1, v2, rfl, h1, h2⟩ := three hl hv0
  have r1 := hes 0 _ v1 rfl h1
  have r2 := hes 1 _ v2 rfl h2
  cases r1
  obtain ⟨vb, voff, vc, va, vt, vs, rfl, _, _, hvl, hvs, h1v, hvr⟩ := arg_pair he2 hez hec r2
  refine (ins_end_grow none 0 vb voff vc [] vs w (by omega) rfl hvl (fun _ => rfl) (fun a h => by cases h) hvs h1v).mono ?_
  rintro e' w' ⟨rfl, rfl⟩
  refine post_new (w := w) (k := 2) (ys := List.take 0 [] ++ e :: List.drop 0 []) (te := 47) rfl rfl rfl rfl (Nat.le_succ _) (grownCap_ge w _ _ _) ?_ fun i d hd => ?_
  ·have := grownCap_ge w (0 + 1) 0 47
   simp [insZ, Builtin.zeroCells, Value.cells, hvl]; omega
  ·have hd' : e.cells[i]? = some d := by simpa [flatCells] using hd
   obtain ⟨u, u1, u2⟩ := hvr i d hd'
   refine ⟨u, ?_, u2⟩
   have := lt_of_getElem? u1
   rw [Array.getElem?_append_left (by simpa using this)]
   simpa using u1
 ·obtain ⟨v1, v2, rfl, h1, h2⟩ := three hl hv0
  have r1 := hes 0 _ v1 rfl h1
  have r2 := hes 1 _ v2 rfl h2
  cases r1
  obtain ⟨vb, voff, vc, va, vt, vs, rfl, hvb, hvh, hvl, hvs, h1v, hvr⟩ := arg_pair he2 hez hec r2
  have hvb' : vb ≠ g0 := fun e => hvb (by rw [e])
  have hvw : vb < w.heap.size := (Array.getElem?_eq_some_iff.1 hvh).1
  have hgw : g0 < w.heap.size := (Array.getElem?_eq_some_iff.1 hgh).1
  have hsz' : xs.length * 2 <= arr.size := Nat.le_trans (Nat.mul_le_mul_right 2 hcap) hsz
  -- the cells as values
  have one : ∀ (t : Nat) (u : Value), t < xs.length * 2 -> arr[t]? = some u -> u.oneCell' = true := by
   intro t u ht hu
   obtain ⟨d, hd⟩ := getElem?_some_of (l := flatCells xs) (i := t) (by omega)
   obtain ⟨u', u1, u2⟩ := hcell t d hd
   rw [hu] at u1
   cases u1
   obtain ⟨y, hy, hdy⟩ := flatCells_mem (List.mem_of_getElem? hd)
   exact u2.oneCell (fz_pl (hf y hy d hdy)).2
  have cellg : ∀ t, w.cell? ⟨g0, t, none⟩ = arr[t]? := fun t => cellRow2 hgh
  obtain ⟨A, hA⟩ : ∃ A, A = arr.toList.take (j * 2) := ⟨_, rfl⟩
  obtain ⟨D, hD⟩ : ∃ D, D = (arr.toList.take (xs.length * 2)).drop (j * 2) := ⟨_, rfl⟩
  have lA : A.length = j * 2 := by rw [hA]; simp; omega
  have lD : D.length = 2 * (xs.length - j) := by rw [hD]; simp; omega
  have gA : ∀ t u, A[t]? = some u -> t < j * 2 /\ arr[t]? = some u := fun t u h => by
   rw [hA, List.getElem?_take] at h
   split at h
   ·rename_i q; exact ⟨q, by simpa using h⟩
   ·cases h
  have gD : ∀ t u, D[t]? = some u -> j * 2 + t < xs.length * 2 /\ arr[j * 2 + t]? = some u := fun t u h => by
   rw [hD, List.getElem?_drop, List.getElem?_take] at h
   split at h
   ·rename_i q; exact ⟨q, by simpa using h⟩
   ·cases h
  have rA : ∀ (t : Nat) (d : AV), ((flatCells xs).take (j * 2))[t]? = some d -> ∃ u, A[t]? = some u /\ Rep (fun _ _ => False) [] d u := fun t d hd => by
   rw [List.getElem?_take] at hd
   split at hd
   ·rename_i q
    obtain ⟨u, u1, u2⟩ := hcell t d hd
    exact ⟨u, by rw [hA, List.getElem?_take, if_pos q]; simpa using u1, u2⟩
   ·cases hd
  have rD : ∀ (t : Nat) (d : AV), ((flatCells xs).drop (j * 2))[t]? = some d -> ∃ u, D[t]? = some u /\ Rep (fun _ _ => False) [] d u := fun t d hd => by
   rw [List.getElem?_drop] at hd
   obtain ⟨u, u1, u2⟩ := hcell _ d hd
   have := lt_of_getElem? hd
   exact ⟨u, by rw [hD, List.getElem?_drop, List.getElem?_take, if_pos (by omega)]; simpa using u1, u2⟩
  have lAf : A.length = ((flatCells xs).take (j * 2)).length := by rw [lA]; simp; omega
  have lVf : vs.length = e.cells.length := by rw [hvl, he2]
  have fin : ∀ (rest : List Value) (i : Nat) (d : AV), (flatCells (xs.take j ++ e :: xs.drop j))[i]? = some d -> ∃ u, (A ++ vs ++ D ++ rest).toArray[i]? = some u /\ Rep (fun _ _ => False) [] d u := by
   intro rest i d hd
   rw [hfi] at hd
   obtain ⟨u, u1, u2⟩ := reps_ins (rest := rest) rA hvr rD lAf lVf i d hd
   exact ⟨u, by simpa using u1, u2⟩
  by_cases hroom : xs.length + 1 <= cap
  ·have ha' := ha (by omega)
   subst ha'
   by_cases hj : j = xs.length
   ·-- at the end, with room
    subst hj
    refine (ins_end g0 xs.length cap vb voff vc arr te vs w hroom hgh hsz hvl hvs h1v).mono ?_
    rintro e' w' ⟨rfl, rfl⟩
    rw [<- hlen]
    refine post_same (te := te) hgh rfl rfl rfl rfl (Nat.le_refl _) (by rw [hlen]; exact hroom) (by simp [hvl]; omega) fun i d hd => ?_
    have hD0 : D = [] := List.length_eq_zero_iff.1 (by rw [lD]; omega)
    have := fin (arr.toList.drop (xs.length * 2 + 2)) i d hd
    rw [hD0, hA, List.append_nil] at this
    exact this
   ·-- ahead of the end, with room
    have hjl : j < xs.length := by omega
    refine (ins_shift g0 xs.length cap j vb voff vc arr va te vt D vs w hjl (by omega) hroom hvb' hgh hsz lD hvl (fun t u h => by rw [cellg]; exact (gD t u h).2) hvs (fun u hu => by
     obtain ⟨t, ht⟩ := List.getElem?_of_mem hu
     obtain ⟨q1, q2⟩ := gD t u ht
     exact one _ u q1 q2) h1v hvh).mono ?_
    rintro e' w' ⟨rfl, rfl⟩
    rw [<- hlen]
    have hrow := insRow_eq (j := j) (cur := arr) (D := D) (vs := vs) (by omega)
    rw [<- hA] at hrow
    have hrl : (insRow j arr D vs).length = arr.size := by
     rw [hrow]; simp only [List.length_append, lA, lD, hvl, List.length_drop, Array.length_toList]; omega
    refine post_same (te := te) hgh rfl rfl rfl rfl (Nat.le_succ _) (by rw [hlen]; exact hroom) (by simp [hrl]; omega) fun i d hd => ?_
    rw [hrow]
    exact fin _ i d hd
  ·have hce : cap = xs.length := by omega
   subst hce
   by_cases hj : j = xs.length
   ·-- at the end, without room
    subst hj
    have hD0 : D = [] := List.length_eq_zero_iff.1 (by rw [lD]; omega)
    refine (ins_end_grow (some a) xs.length vb voff vc A vs w (by omega) (by rw [lA]) hvl (fun h => by cases h) (fun a' h t u hu => by
     cases h
     obtain ⟨q1, q2⟩ := gA t u hu
     rw [ha (by omega), Addr.add_lit, Nat.zero_add, cellg]
     exact q2) hvs h1v).mono ?_
    rintro e' w' ⟨rfl, rfl⟩
    have hgc := grownCap_ge w (xs.length + 1) xs.length 47
    have hz : ∀ m, (insZ m).size = m * 2 := fun m => by simp [insZ, Builtin.zeroCells, Value.cells]
    have P := post_new (w := w) (W := w.drew.alloc (.cells ((A ++ vs).toArray ++ insZ (grownCap w (xs.length + 1) xs.length 47 - (xs.length + 1))) 47)) (og := some g0) (k := 2) (ys := xs.take xs.length ++ e :: xs.drop xs.length) (cap := grownCap w (xs.length + 1) xs.length 47) (te := 47) (arr := (A ++ vs).toArray ++ insZ (grownCap w (xs.length + 1) xs.length 47 - (xs.length + 1))) rfl rfl rfl rfl (Nat.le_succ _) (by rw [hlen]; exact hgc) (by simp only [Array.size_append, List.size_toArray, List.length_append, hz, hvl, lA]; omega) fun i d hd => by
     have h := fin (insZ (grownCap w (xs.length + 1) xs.length 47 - (xs.length + 1))).toList i d hd
     rw [hD0, List.append_nil] at h
     have e2 : (A ++ vs).toArray ++ insZ (grownCap w (xs.length + 1) xs.length 47 - (xs.length + 1)) = (A ++ vs ++ (insZ (grownCap w (xs.length + 1) xs.length 47 - (xs.length + 1))).toList).toArray := by simp
     rw [e2]
     exact h
    rw [hlen] at P
    exact P
   ·-- ahead of the end, without room
    have hjl : j < xs.length := by omega
    have ha' := ha (by omega)
    subst ha'
    refine (ins_grow g0 xs.length j vb voff vc A D vs w hjl (by omega) lA lD hvl hgw hvw (fun t u h => by rw [cellg]; exact (gA t u h).2) (fun t u h => by rw [cellg]; exact (gD t u h).2) hvs (fun u hu => by
     obtain ⟨t, ht⟩ := List.getElem?_of_mem hu
     obtain ⟨q1, q2⟩ := gD t u ht
     exact one _ u q1 q2) h1v).mono ?_
    rintro e' w' ⟨rfl, rfl⟩
    have hgc := grownCap_ge w (xs.length + 1) xs.length 47
    obtain ⟨G, hG⟩ : ∃ G, G = grownCap w (xs.length + 1) xs.length 47 := ⟨_, rfl⟩
    rw [<- hG] at hgc ⊢
    have hz : ∀ m, (insZ m).size = m * 2 := fun m => by simp [insZ, Builtin.zeroCells, Value.cells]
    obtain ⟨R0, hR0⟩ : ∃ R0, R0 = A ++ (insZ (xs.length + 1 - j)).toList ++ (insZ (G - (xs.length + 1))).toList := ⟨_, rfl⟩
    have hnew := insNew_eq (j := j) (A := A) (Z := (insZ (xs.length + 1 - j)).toList ++ (insZ (G - (xs.length + 1))).toList) (vs := vs) (ds := D) lA hvl
    rw [<- List.append_assoc, <- hR0] at hnew
    have hR0l : R0.length = G * 2 := by
     rw [hR0]; simp only [List.length_append, lA, Array.length_toList, hz]; omega
    rw [<- hR0]
    have hnl : (insNew j R0 vs D).length = G * 2 := by
     rw [hnew]
     simp only [List.length_append, List.length_drop, lA, lD, hvl, hR0l]
     omega
    have P := post_new (w := w) (W := ((w.alloc (.cells R0.toArray 47)).drew.drew).setRow w.heap.size (insNew j R0 vs D).toArray) (og := some g0) (k := 2) (ys := xs.take j ++ e :: xs.drop j) (cap := G) (te := 47) (arr := (insNew j R0 vs D).toArray) ((push_modify w.heap (.cells R0.toArray 47) fun x => match x with
     | Obj.cells c elem frozen => Obj.cells (insNew j R0 vs D).toArray elem frozen
     | o => o).trans rfl) rfl rfl rfl (by show w.drawn <= w.drawn + 1 + 1; omega) (by rw [hlen]; exact hgc) (by rw [List.size_toArray, hnl]; omega) fun i d hd => by
     rw [hnew]
     exact fin _ i d hd
    rw [hlen] at P
    exact P
end Go.Bm
