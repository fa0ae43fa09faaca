/- The library's Compact at pairs of numbers writes into the slice that it is given and returns its head. -/
import Derived.Test.YtjfdniggjdnkiaaCpcP
import Derived.Test.YtjfdniggjdnkiaaCpcG
set_option linter.unusedSimpArgs false
set_option linter.unusedVariables false
namespace Go.Bm
open Go.Am Go.Sort Go.Shelf Go.Proofs Go.RowKit Go.Lib
theorem ddp_last : ∀ (l : List (Int × Int)) (z : Int × Int), ddp (l ++ [z]) = ddp l ++ (if l.getLast? = some z then [] else [z])
 | [], z => by simp [ddp]
 | [x], z => by
   by_cases h : x = z
   ·subst h; simp [ddp]
   ·simp [ddp, h]
 | x :: y :: r, z => by
   have ih := ddp_last (y :: r) z
   simp only [List.cons_append] at ih ⊢
   unfold ddp
   rw [ih]
   have e : (x :: y :: r).getLast? = (y :: r).getLast? := by simp [List.getLast?_cons]
   rw [e]
   split <;> rfl
theorem cut_appP (l : List (Int × Int)) (z : Int × Int) : ∀ m, m <= l.length -> Lib.compactUpTo (l ++ [z]).toArray m = Lib.compactUpTo l.toArray m
 | 0, _ => rfl
 | m + 1, hm => by
   rw [Lib.compactUpTo_succ, Lib.compactUpTo_succ, cut_appP l z m (by omega)]
   have g : ∀ j, j < l.length -> (l ++ [z]).toArray[j]! = l.toArray[j]! := fun j hj => by
    simp [hj, show j < l.length + 1 by omega]
   have k : Lib.keeps (l ++ [z]).toArray m = Lib.keeps l.toArray m := by
    simp only [Lib.keeps, g m (by omega), g (m - 1) (by omega)]
   rw [k, g m (by omega)]
theorem compact_ddp (l : List (Int × Int)) : Lib.compact l = ddp l := by
 have key : ∀ n (l : List (Int × Int)), l.length = n -> Lib.compact l = ddp l := by
  intro n
  induction n with
  | zero => intro l h; obtain rfl := List.length_eq_zero_iff.1 h; rfl
  | succ n ih =>
    intro l h
    obtain ⟨r, z, rfl⟩ : ∃ r z, l = r ++ [z] := ⟨l.dropLast, l.getLast (by intro e; subst e; simp at h), (List.dropLast_concat_getLast _).symm⟩
    have hr : r.length = n := by simpa using h
    have ih := ih r hr
    unfold Lib.compact at ih ⊢
    rw [List.length_append, List.length_singleton, Lib.compactUpTo_succ, cut_appP r z r.length (Nat.le_refl _), ih, ddp_last]
    congr 1
    have g : (r ++ [z]).toArray[r.length]! = z := by simp
    rw [g]
    by_cases h0 : r = []
    ·subst h0; rfl
    ·have hp : 0 < r.length := List.length_pos_iff.2 h0
     have g2 : (r ++ [z]).toArray[r.length - 1]! = r.getLast h0 := by
      rw [List.getLast_eq_getElem]
      simp [show r.length - 1 < r.length by omega, show r.length - 1 < r.length + 1 by omega]
     rw [List.getLast?_eq_some_getLast h0]
     by_cases he : r.getLast h0 = z
     ·have : Lib.keeps (r ++ [z]).toArray r.length = false := Lib.keeps_neg hp (by rw [g, g2, he])
      rw [this, he]; simp
     ·have : Lib.keeps (r ++ [z]).toArray r.length = true := Lib.keeps_pos (by rw [g, g2]; exact fun e => he e.symm)
      rw [this, if_pos rfl, if_neg]
      intro e; exact he (Option.some.inj e)
 exact key _ l rfl
set_option maxHeartbeats 1000000 in
theorem cpc_none (p : Option Addr) (cap : Nat) (w : World) : Calls Go.Proofs.Try.prog 55 #[.slice p 0 cap] w fun e w' => e = .returned (.slice p 0 cap) /\ w' = w := by
 have t0 := Try.underlying0; have a0 := Try.isAgg0; have z0 := Try.sizeOf0; have v0 := Try.zeroValue0; have t3 := Try.underlying3; have a3 := Try.isAgg3; have z3 := Try.sizeOf3; have v3 := Try.zeroValue3; have t4 := Try.underlying4; have a4 := Try.isAgg4; have z4 := Try.sizeOf4; have v4 := Try.zeroValue4; have t27 := Try.underlying28; have a27 := Try.isAgg28; have z27 := Try.sizeOf28; have v27 := Try.zeroValue28
 have mixed := cpcM
 go_enter Go.Proofs.Try.func55, Go.Proofs.Try.ntmps55
 go_wp2
 go_ret
 exact ⟨rfl, rfl⟩
theorem ddp_len : ∀ l : List (Int × Int), (ddp l).length <= l.length
 | [] => Nat.le_refl _
 | [x] => Nat.le_refl _
 | x :: y :: r => by
   have ih := ddp_len (y :: r)
   unfold ddp
   split
   ·simp only [List.length_cons] at ih ⊢; omega
   ·simp only [List.length_cons] at ih ⊢; omega
theorem cpe_inp {k : Nat} {xs es ys : List AV} {res : Option Nat} (hg : cpeG k xs es = some (ys, res)) :
  ((ys.length = xs.length /\ (∀ y ∈ ys, y.cells.length = k)) /\ ((∀ y ∈ ys, ∀ d ∈ y.cells, fz d = true) /\ ∀ m, res = some m -> m <= xs.length)) /\
 (xs = [] -> ∀ (X : Nat -> Prop) (φ : Phi) (w : World) (vargs : Array Value) v0 y, (y = .nils \/ y = .list k []) -> es.length + 1 = vargs.size -> vargs[0]? = some v0 -> Rep (Rd X φ w) φ y v0 -> (∀ (i : Nat) (e : AV) (v : Value), es[i]? = some e -> vargs[i + 1]? = some v -> Rep (Rd X φ w) [] e v) ->
  Calls Go.Proofs.Try.prog 55 vargs w (fun e w' => ∃ v', e = .returned v' /\ Rep (Rd X φ w') φ (match (generalizing := false) res with
   | none => .tup []
   | some _ => y) v' /\ Adv [] w [] w')) /\
 ∀ (X : Nat -> Prop) (φ : Phi) (w : World) Ha n rest (vargs : Array Value) v0, HRel X φ w Ha -> blk Ha n = some (flatCells (xs ++ rest)) -> es.length + 1 = vargs.size -> vargs[0]? = some v0 -> Rep (Rd X φ w) φ (.sl k n 0 xs.length) v0 -> (∀ (i : Nat) (e : AV) (v : Value), es[i]? = some e -> vargs[i + 1]? = some v -> Rep (Rd X φ w) [] e v) ->
  Calls Go.Proofs.Try.prog 55 vargs w (fun e w' => ∃ v' φ', e = .returned v' /\ Rep (Rd X φ' w') φ' (match (generalizing := false) res with
   | none => .tup []
   | some m => .sl k n 0 m) v' /\ HRel X φ' w' (Ha.set n (some (flatCells (ys ++ rest)))) /\ Adv φ w φ' w') := by
 unfold cpeG at hg
 split at hg
 case h_2 => cases hg
 split at hg
 case isFalse => cases hg
 rename_i hcond
 obtain ⟨rfl, hlim⟩ := hcond
 cases hzs : prsOf xs with
 | none => rw [hzs] at hg; cases hg
 | some zs =>
 rw [hzs] at hg
 simp only [Option.some.injEq, Prod.mk.injEq] at hg
 obtain ⟨rfl, rfl⟩ := hg
 have hx := prsOf_eq hzs
 subst hx
 have hdl := ddp_len zs
 refine ⟨⟨⟨by simp; omega, fun y hy => (prs_cells hy).1⟩, fun y hy => (prs_cells hy).2, fun m hm => by cases hm; simpa using hdl⟩, fun hnil X φ w vargs v0 y hy hs h0 hr _ => ?_, fun X φ w Ha n rest vargs v0 hh hb hs h0 hr _ => ?_⟩
 ·obtain ⟨p, cap, rfl⟩ := nil_slice hy hr
  obtain rfl := one_arg hs h0
  refine (cpc_none p cap w).mono ?_
  rintro e w' ⟨rfl, rfl⟩
  exact ⟨_, rfl, hr, .refl _ _⟩
 ·obtain rfl := one_arg hs h0
  by_cases hz : zs = []
  ·subst hz
   have e : Ha.set n (some (flatCells ((ddp [] ++ List.replicate (([] : List (Int × Int)).length - (ddp []).length) (0, 0)).map pr2 ++ rest))) = Ha := by
    apply List.ext_getElem?
    intro j
    rw [List.getElem?_set]
    split
    ·rename_i e; subst e
     rw [if_pos (blk_lt hb), blk_iff.1 hb]; rfl
    ·rfl
   rw [e]
   cases hr with
   | sl _ _ _ _ _ a cap h1 hc h =>
   refine (cpc_none (some a) cap w).mono ?_
   rintro e w' ⟨rfl, rfl⟩
   exact ⟨_, φ, rfl, .sl _ _ _ _ _ a cap h1 hc h, hh, .refl _ _⟩
  ·have hzl : zs.length ≠ 0 := fun h => hz (List.eq_nil_of_length_eq_zero h)
   cases hr with
   | sl _ _ _ _ _ a cap h1 hc h =>
   have hcz : zs.length <= cap := by simpa using hc
   have hr2 : Rep (Rd X φ w) φ (.sl 1 n 0 (zs.length * 2)) (.slice (some a) (zs.length * 2) (cap * 2)) := .sl _ _ _ _ _ _ _ h1 (by omega) fun g sz hg => by
    obtain ⟨k1, k2⟩ := h g sz hg
    exact ⟨fun hc => k1 (by omega), by omega⟩
   have hfl : flatCells (zs.map pr2 ++ rest) = (flat2 zs).map (AV.int .i64) ++ flatCells rest := by rw [flatCells_app, flat2_cells]
   rw [hfl] at hb
   have hl2 := flat2_length zs
   obtain ⟨g, cap', hv, _, _, hH, hlt, _, hput⟩ := own_row hh hr2 (by omega) hb (by simp [hl2]) (zs := flat2 zs) (by
    rw [List.drop_zero, List.take_append_of_le_length (by simp [hl2]), List.take_of_length_le (by simp [hl2])]
    exact intsOf_ints _)
   simp only [Value.slice.injEq, Option.some.injEq] at hv
   obtain ⟨rfl, _, _⟩ := hv
   have hlen : (zs.map pr2).length = zs.toArray.size := by simp
   rw [hlen]
   have hcall := cpc_walk g 0 cap zs.toArray w (holds2 hH) (by simp at hlim ⊢; unfold LIM at hlim; omega) (by simpa using hcz)
   have e0 : compactUpTo zs.toArray zs.toArray.size = ddp zs := compact_ddp zs
   rw [e0] at hcall
   refine hcall.mono ?_
   rintro e w' ⟨rfl, q, rfl⟩
   have ln : (flat2 (ddp zs ++ List.replicate (zs.length - (ddp zs).length) (0, 0))).length = zs.length * 2 := by rw [flat2_length]; simp; omega
   obtain ⟨p1, p2⟩ := hput (flat2 (ddp zs ++ List.replicate (zs.length - (ddp zs).length) (0, 0))) ln q #[]
   rw [grow_empty] at p1 p2
   have e3 : putRowK enc2 2 (Sort.ahead w q) g 0 (ddp zs ++ List.replicate (zs.toArray.size - (ddp zs).length) (0, 0)).toArray = putRow (Value.int .i64) (Sort.ahead w q) g 0 (flat2 (ddp zs ++ List.replicate (zs.length - (ddp zs).length) (0, 0))).toArray := by
    rw [putRow2]; simp
   rw [e3]
   refine ⟨_, φ, rfl, .sl _ _ _ _ _ _ cap h1 (by omega) h, ?_, p2⟩
   have e4 : ovw ((flat2 zs).map (AV.int .i64) ++ flatCells rest) 0 ((flat2 (ddp zs ++ List.replicate (zs.length - (ddp zs).length) (0, 0))).map (AV.int .i64)) = flatCells ((ddp zs ++ List.replicate (zs.length - (ddp zs).length) (0, 0)).map pr2 ++ rest) := by
    rw [flatCells_app, flat2_cells]
    unfold ovw
    simp [hl2, ln]
   rw [e4] at p1
   exact p1
end Go.Bm
