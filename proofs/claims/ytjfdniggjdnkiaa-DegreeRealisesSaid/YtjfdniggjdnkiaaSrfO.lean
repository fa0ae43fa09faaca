/- The library's sort by a comparison, at pairs of numbers, writes into the slice that it is given. -/
import Derived.Test.YtjfdniggjdnkiaaSrtO
import Derived.Test.YtjfdniggjdnkiaaCpcG
import Derived.Shelf.SlSortCmp.NoneTotal
set_option linter.unusedSimpArgs false
set_option linter.unusedVariables false
namespace Go.Bm
open Go.Am Go.Sort Go.Shelf Go.Proofs Go.RowKit Go.Lib
def enc2 (x : Int × Int) : List Value := [.int .i64 x.1, .int .i64 x.2]
def flat2 : List (Int × Int) -> List Int
 | [] => []
 | x :: r => x.1 :: x.2 :: flat2 r
theorem flat2_length : ∀ zs, (flat2 zs).length = zs.length * 2
 | [] => rfl
 | x :: r => by simp only [flat2, List.length_cons, flat2_length r]; omega
theorem flat2_cells : ∀ zs, flatCells (zs.map pr2) = (flat2 zs).map (AV.int .i64)
 | [] => rfl
 | x :: r => by simp only [List.map_cons, flatCells, flat2, flat2_cells r, pr2, AV.cells]; rfl
theorem flat2_get : ∀ (zs : List (Int × Int)) (t : Nat), t < zs.length * 2 -> (enc2 (zs.toArray[t / 2]!))[t % 2]! = Value.int .i64 ((flat2 zs)[t]!)
 | [], t, h => by simp at h
 | x :: r, 0, h => by simp [enc2, flat2]
 | x :: r, 1, h => by simp [enc2, flat2]
 | x :: r, t + 2, h => by
   have ih := flat2_get r t (by simp at h; omega)
   have e1 : (t + 2) / 2 = t / 2 + 1 := by omega
   have e2 : (t + 2) % 2 = t % 2 := by omega
   rw [e1, e2]
   have e3 : (x :: r).toArray[t / 2 + 1]! = r.toArray[t / 2]! := by simp
   have e4 : (flat2 (x :: r))[t + 2]! = (flat2 r)[t]! := by simp [flat2]
   rw [e3, e4]; exact ih
theorem flatK_eq (zs : List (Int × Int)) : flatK enc2 2 zs.toArray = ((flat2 zs).toArray.map (Value.int .i64)) := by
 apply Array.ext
 ·simp [flat2_length]
 ·intro t h1 h2
  have ht : t < zs.length * 2 := by simpa using h1
  have g := get_flatK enc2 2 zs.toArray t (by simpa using ht)
  rw [getElem!_pos _ t h1] at g
  rw [g, flat2_get zs t ht]
  have hl : t < (flat2 zs).length := by rw [flat2_length]; exact ht
  simp [getElem!_pos, hl]
theorem holds2 {w : World} {g : Nat} {zs : List (Int × Int)} (h : Holds (Value.int .i64) w g 0 (flat2 zs).toArray) : HoldsK enc2 2 w g 0 zs.toArray := by
 unfold HoldsK
 rw [flatK_eq]
 intro j hj
 have hj' : j < (flat2 zs).toArray.size := by simpa using hj
 obtain ⟨a, b⟩ := h j hj'
 refine ⟨?_, b⟩
 rw [a]
 simp at hj'
 simp [getElem!_pos, hj']
theorem putRow2 (w : World) (g : Nat) (zs : List (Int × Int)) : putRowK enc2 2 w g 0 zs.toArray = putRow (Value.int .i64) w g 0 (flat2 zs).toArray := by
 unfold putRowK putRow
 rw [flatK_eq]
 congr 1
 funext c
 unfold putCells
 apply Array.ext
 ·simp
 ·intro k h1 h2
  simp only [Array.getElem_mapIdx, Array.size_map]
  split
  ·rename_i h
   have hk : k - 0 < (flat2 zs).toArray.size := by omega
   simp at hk
   simp [getElem!_pos, hk]
  ·rfl
theorem isortC_eq {cf : Int × Int -> Int × Int -> Int} (h : TotC cf) (l : List (Int × Int)) : l.mergeSort (fun x y => !(ltOf cf) y x) = isortC cf l := by
 have e : (fun x y => !(ltOf cf) y x) = leC cf := rfl
 rw [e]
 refine List.Perm.eq_of_pairwise (le := fun a b => leC cf a b = true) (fun a b _ _ h1 h2 => h.anti a b h1 h2) ?_ (isortC_asc h l) ((List.mergeSort_perm l _).trans (isortC_perm cf l).symm)
 exact List.pairwise_mergeSort (le := leC cf) (fun a b c h1 h2 => h.tr a b c h1 h2) (fun a b => by rcases h.tot a b with k | k <;> simp [k]) l
theorem swoC {cf : Int × Int -> Int × Int -> Int} (h : TotC cf) : SWO (ltOf cf) where
 irrefl x := by
  have : leC cf x x = true := (h.tot x x).elim id id
  have e : leC cf x x = !(ltOf cf) x x := rfl
  rw [e] at this; simpa using this
 trans x y z h1 h2 := by
  have e1 : leC cf y x = false := by show (!(ltOf cf) x y) = false; rw [h1]; rfl
  have e2 : leC cf z y = false := by show (!(ltOf cf) y z) = false; rw [h2]; rfl
  have a1 : leC cf x y = true := (h.tot x y).resolve_right (by rw [e1]; simp)
  cases hc : ltOf cf x z with
  | true => rfl
  | false =>
    have e3 : leC cf z x = true := by show (!(ltOf cf) x z) = true; rw [hc]; rfl
    have := h.tr z x y e3 a1
    rw [e2] at this; cases this
 ntrans x y z h1 h2 := by
  have a1 : leC cf y x = true := by show (!(ltOf cf) x y) = true; rw [h1]; rfl
  have a2 : leC cf z y = true := by show (!(ltOf cf) y z) = true; rw [h2]; rfl
  have a3 : (!(ltOf cf) x z) = true := h.tr z y x a2 a1
  simpa using a3
theorem totC {cf : Int × Int -> Int × Int -> Int} (h : TotC cf) (x y : Int × Int) (h1 : (ltOf cf) x y = false) (h2 : (ltOf cf) y x = false) : x = y := by
 have a1 : leC cf y x = true := by show (!(ltOf cf) x y) = true; rw [h1]; rfl
 have a2 : leC cf x y = true := by show (!(ltOf cf) y x) = true; rw [h2]; rfl
 exact h.anti x y a2 a1
theorem prs_cells {zs : List (Int × Int)} {x : AV} (h : x ∈ zs.map pr2) : x.cells.length = 2 /\ ∀ d ∈ x.cells, fz d = true := by
 obtain ⟨z, _, rfl⟩ := List.mem_map.1 h
 exact ⟨rfl, fun d hd => by simp [pr2, AV.cells] at hd; rcases hd with rfl | rfl <;> rfl⟩
theorem two_args {m : Nat} {vargs : Array Value} {v0 : Value} {R : Addr -> Value -> Prop} (hs : ([.func (.func m) [] []] : List AV).length + 1 = vargs.size) (h0 : vargs[0]? = some v0) (hr : ∀ (i : Nat) (e : AV) (v : Value), ([.func (.func m) [] []] : List AV)[i]? = some e -> vargs[i + 1]? = some v -> Rep R [] e v) : vargs = #[v0, .func (.func m) #[] #[]] := by
 have hsz : vargs.size = 2 := by simpa using hs.symm
 obtain ⟨v1, h1⟩ : ∃ v, vargs[1]? = some v := ⟨vargs[1], by simp [hsz]⟩
 have r1 := hr 0 _ v1 rfl h1
 have e1 : v1 = .func (.func m) #[] #[] := by
  cases r1 with
  | func _ _ _ va _ vb hla hlb _ _ =>
    obtain rfl : va = #[] := Array.eq_empty_of_size_eq_zero (by simpa using hla.symm)
    obtain rfl : vb = #[] := Array.eq_empty_of_size_eq_zero (by simpa using hlb.symm)
    rfl
 subst e1
 apply Array.ext_getElem?
 intro i
 match i with
 | 0 => simpa using h0
 | 1 => simpa using h1
 | i + 2 => rw [Array.getElem?_eq_none (by omega)]; simp
def CmpOK (P : Program) (nC : Nat) (cf : Int × Int -> Int × Int -> Int) : Prop := ∀ (x y : Int × Int) (W : World), Calls P nC #[.agg (enc2 x).toArray, .agg (enc2 y).toArray] W fun e w' => e = .returned (.int .i64 (cf x y)) /\ ∃ q os', w' = grow (W.drewN q) os'
theorem srf_inp {P : Program} {ρ : Go.Shelf.Ren} (L : SlLaysF0.n6 P ρ) (aE : ∀ w, (isAgg (ρ.t 24)).run P w = .ok true w) (zE : ∀ w, (Go.sizeOf (ρ.t 24)).run P w = .ok 2 w) {cf : Int × Int -> Int × Int -> Int} (hT : TotC cf) {nC : Nat} (eg : ∀ args w, (callFunc nC args).run P w = .ok (.enter nC args) w) (hC : CmpOK P nC cf) {k : Nat} {xs es ys : List AV} {res : Option Nat} (hg : srfG cf nC k xs es = some (ys, res)) :
  ((ys.length = xs.length /\ (∀ y ∈ ys, y.cells.length = k)) /\ ((∀ y ∈ ys, ∀ d ∈ y.cells, fz d = true) /\ ∀ m, res = some m -> m <= xs.length)) /\
 (xs = [] -> ∀ (X : Nat -> Prop) (φ : Phi) (w : World) (vargs : Array Value) v0 y, (y = .nils \/ y = .list k []) -> es.length + 1 = vargs.size -> vargs[0]? = some v0 -> Rep (Rd X φ w) φ y v0 -> (∀ (i : Nat) (e : AV) (v : Value), es[i]? = some e -> vargs[i + 1]? = some v -> Rep (Rd X φ w) [] e v) ->
  Calls P (ρ.f 6) vargs w (fun e w' => ∃ v', e = .returned v' /\ Rep (Rd X φ w') φ (match (generalizing := false) res with
   | none => .tup []
   | some _ => y) v' /\ Adv [] w [] w')) /\
 ∀ (X : Nat -> Prop) (φ : Phi) (w : World) Ha n rest (vargs : Array Value) v0, HRel X φ w Ha -> blk Ha n = some (flatCells (xs ++ rest)) -> es.length + 1 = vargs.size -> vargs[0]? = some v0 -> Rep (Rd X φ w) φ (.sl k n 0 xs.length) v0 -> (∀ (i : Nat) (e : AV) (v : Value), es[i]? = some e -> vargs[i + 1]? = some v -> Rep (Rd X φ w) [] e v) ->
  Calls P (ρ.f 6) vargs w (fun e w' => ∃ v' φ', e = .returned v' /\ Rep (Rd X φ' w') φ' (match (generalizing := false) res with
   | none => .tup []
   | some m => .sl k n 0 m) v' /\ HRel X φ' w' (Ha.set n (some (flatCells (ys ++ rest)))) /\ Adv φ w φ' w') := by
 unfold srfG at hg
 split at hg
 case h_2 => cases hg
 rename_i m
 split at hg
 case isFalse => cases hg
 rename_i hcond
 obtain ⟨rfl, rfl, hlim⟩ := hcond
 cases hzs : prsOf xs with
 | none => rw [hzs] at hg; cases hg
 | some zs =>
 rw [hzs] at hg
 simp only [Option.some.injEq, Prod.mk.injEq] at hg
 obtain ⟨rfl, rfl⟩ := hg
 have hx := prsOf_eq hzs
 subst hx
 refine ⟨⟨⟨by simp [isortC_length], fun y hy => (prs_cells hy).1⟩, fun y hy => (prs_cells hy).2, fun m hm => by cases hm⟩, fun hnil X φ w vargs v0 y hy hs h0 hr he => ?_, fun X φ w Ha n rest vargs v0 hh hb hs h0 hr he => ?_⟩
 ·obtain ⟨p, cap, rfl⟩ := nil_slice hy hr
  obtain rfl := two_args hs h0 he
  refine (AnyF.slices_SortFunc_none L p cap _ w).mono ?_
  rintro e w' ⟨rfl, rfl⟩
  exact ⟨_, rfl, .tup _ _ _ rfl (fun i c v hc => by simp at hc), .refl _ _⟩
 ·obtain rfl := two_args hs h0 he
  by_cases hz : zs = []
  ·subst hz
   have e : Ha.set n (some (flatCells ((isortC cf []).map pr2 ++ rest))) = Ha := by
    apply List.ext_getElem?
    intro j
    rw [List.getElem?_set]
    split
    ·rename_i e; subst e
     rw [if_pos (blk_lt hb), blk_iff.1 hb]; rfl
    ·rfl
   rw [e]
   cases hr with
   | sl _ _ _ _ _ a cap h1 hc h =>
   refine (AnyF.slices_SortFunc_none L (some a) cap _ w).mono ?_
   rintro e w' ⟨rfl, rfl⟩
   exact ⟨_, φ, rfl, .tup _ _ _ rfl (fun i c v hc => by simp at hc), hh, .refl _ _⟩
  ·have hzl : zs.length ≠ 0 := fun h => hz (List.eq_nil_of_length_eq_zero h)
   cases hr with
   | sl _ _ _ _ _ a cap h1 hc h =>
   have hr2 : Rep (Rd X φ w) φ (.sl 1 n 0 (zs.length * 2)) (.slice (some a) (zs.length * 2) (cap * 2)) := .sl _ _ _ _ _ _ _ h1 (by simp at hc; omega) fun g sz hg => by
    obtain ⟨k1, k2⟩ := h g sz hg
    exact ⟨fun hc => k1 (by omega), by omega⟩
   have hfl : flatCells (zs.map pr2 ++ rest) = (flat2 zs).map (AV.int .i64) ++ flatCells rest := by rw [flatCells_app, flat2_cells]
   rw [hfl] at hb
   have hl2 := flat2_length zs
   obtain ⟨g, cap', hv, _, _, hH, hlt, _, hput⟩ := own_row hh hr2 (by omega) hb (by simp [hl2]) (zs := flat2 zs) (by
    rw [List.drop_zero, List.take_append_of_le_length (by simp [hl2]), List.take_of_length_le (by simp [hl2])]
    exact intsOf_ints _)
   simp only [Value.slice.injEq, Option.some.injEq] at hv
   obtain ⟨rfl, _, _⟩ := hv
   have hlen : (zs.map pr2).length = zs.toArray.size := by simp
   rw [hlen]
   have hcall := AnyQ.slices_SortFunc_total L 2 aE zE enc2 (fun _ => rfl) (fun x v hv => by simp [enc2] at hv; rcases hv with rfl | rfl <;> rfl) cf (swoC hT) m #[] g 0 cap zs.toArray w eg (fun _ _ _ _ x y => hC x y _) (holds2 hH) hlt (by simp at hlim ⊢; unfold LIM at hlim; omega) (totC hT)
   refine hcall.mono ?_
   rintro e w' ⟨rfl, q, os, rfl⟩
   have e2 : (zs.toArray.toList.mergeSort fun x y => !(ltOf cf) y x) = isortC cf zs := isortC_eq hT zs
   rw [e2]
   have ln : (flat2 (isortC cf zs)).length = zs.length * 2 := by rw [flat2_length, isortC_length]
   obtain ⟨p1, p2⟩ := hput (flat2 (isortC cf zs)) ln q os
   have e3 : sortWorldK enc2 2 w g 0 q (isortC cf zs).toArray os = grow (putRow (Value.int .i64) (Sort.ahead w q) g 0 (flat2 (isortC cf zs)).toArray) os := by
    unfold sortWorldK; rw [putRow2]
   rw [e3]
   refine ⟨_, φ, rfl, .tup _ _ _ rfl (fun i c v hc => by simp at hc), ?_, p2⟩
   have e4 : ovw ((flat2 zs).map (AV.int .i64) ++ flatCells rest) 0 ((flat2 (isortC cf zs)).map (AV.int .i64)) = flatCells ((isortC cf zs).map pr2 ++ rest) := by
    rw [flatCells_app, flat2_cells]
    unfold ovw
    simp [hl2, ln]
   rw [e4] at p1
   exact p1
end Go.Bm
