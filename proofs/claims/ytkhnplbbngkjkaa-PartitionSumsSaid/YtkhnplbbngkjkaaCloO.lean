/- The library's clone of an empty slice and compact of ints, as the machine by value knows them. -/
import Derived.Test.YtkhnplbbngkjkaaSetP
import Derived.Test.YtkhnplbbngkjkaaSrtO
import Derived.Test.YtkhnplbbngkjkaaCloI
import Derived.Shelf.Slices.CompactI
namespace Go.Bm
open Go.Am Go.Sort Go.Shelf Go.Proofs
theorem ret_nil {X : Nat -> Prop} {φ : Phi} {w w' : World} {N : Names} {s : St} {Ha : Heap} {t : Nat -> Value} {B : Nat -> Nat} {v' : Value} {k : Nat} (h : Sim X φ w N s Ha t) (a1 : Adv [] w [] w') (hr : Rep (Rd X φ w') φ (.list k []) v') : RetB X φ w B 0 (.list k []) [] (.returned v') w' := by
 have hgi : ∀ i, Am.get [(0, AV.list k [])] i = if i = 0 then .list k [] else .any := fun i => by simp only [Am.get]
 have hno : ∀ p, ownAt ⟨[(0, AV.list k [])], []⟩ p = none := by
  intro p
  cases p with
  | s i =>
    simp only [ownAt, at_, hgi]
    by_cases hi : i = 0
    ·rw [if_pos hi]
    ·rw [if_neg hi]
  | sc i j =>
    simp only [ownAt, at_, hgi]
    by_cases hi : i = 0
    ·rw [if_pos hi]
    ·rw [if_neg hi]
  | c b j => simp [ownAt, at_, blk]
 refine ⟨v', φ, rfl, ⟨⟨N.β, fun _ => none⟩, Ha, ⟨fun i => ?_, fun i => ?_, h.heap.of_same a1, fun p k' xs e => ?_, fun b cs e => by simp [blk] at e, fun p q n e => ?_, fun b p e => by simp [blk] at e, fun b c e => by simp [blk] at e⟩, fun b hb => by omega, Nat.zero_le _⟩, .of_same a1⟩
 ·show Rep _ _ (trS _ i (Am.get [(0, AV.list k [])] i)) (if i = 0 then v' else undef)
  rw [hgi]
  by_cases e : i = 0
  ·rw [if_pos e, if_pos e]; exact hr
  ·rw [if_neg e, if_neg e]; exact .any _ _
 ·show okV _ _ (Am.get [(0, AV.list k [])] i)
  rw [hgi]
  split <;> trivial
 ·rw [hno] at e; cases e
 ·rw [hno] at e; cases e
theorem clo_orc {args : List AV} {H : Heap} {r : AV} {H' : Heap} (hg : gClo args H = some (r, H')) {X : Nat -> Prop} {φ : Phi} {w : World} {B : Nat -> Nat} {vargs : Array Value} (hl : args.length = vargs.size) (hs : SB X φ w B H.length ⟨mkEnv 0 args, H⟩ (fun i => vargs.getD i undef)) :
  Calls Go.Proofs.Try.prog 66 vargs w (RetB X φ w B H.length r H') := by
 unfold gClo at hg
 split at hg
 case h_2 => cases hg
 simp only [Option.some.injEq, Prod.mk.injEq] at hg
 obtain ⟨rfl, rfl⟩ := hg
 obtain ⟨N, Ha, h, hb⟩ := hs
 have hsz : vargs.size = 1 := by simpa using hl.symm
 obtain ⟨v, rfl⟩ : ∃ v, vargs = #[v] := ⟨vargs[0], by apply Array.ext <;> simp [hsz]; intro i hi; simp [show i = 0 by omega]⟩
 have r0 : Rep (Rd X φ w) φ (.list 1 []) v := h.env 0
 cases r0 with
 | lst _ _ _ a n cap u hn hcap hk hu h' =>
   simp at hn
   subst hn
   refine (cloI_zero a cap w).mono ?_
   rintro e w' ⟨rfl, rfl⟩
   have a1 : Adv [] w [] (w.alloc (.cells #[] 3)) := ⟨rfl, rfl, rfl, Nat.le_refl _, by show w.heap.size <= (w.heap.push _).size; simp, fun g hg h => ⟨by show (w.heap.push _)[g]? = _; rw [Array.getElem?_push_lt hg, Array.getElem?_eq_getElem hg], h⟩, .refl _⟩
   exact ret_nil h a1 (.lst _ _ _ _ _ _ (fun _ _ => undef) (by simp) (by omega) (fun x hx => by simp at hx) (fun i j x c hx => by simp at hx) (fun i j x c hx => by simp at hx))
 | lst0 =>
   refine (cloI_nil 0 0 w).mono ?_
   rintro e w' ⟨rfl, rfl⟩
   exact ret_nil h (.refl _ _) (.lst0 _ _)
theorem dd_last : ∀ (l : List Int) (z : Int), dd (l ++ [z]) = dd l ++ (if l.getLast? = some z then [] else [z])
 | [], z => by simp [dd]
 | [x], z => by
   by_cases h : x = z
   ·subst h; simp [dd]
   ·simp [dd, h]
 | x :: y :: r, z => by
   have ih := dd_last (y :: r) z
   simp only [List.cons_append] at ih ⊢
   unfold dd
   rw [ih]
   have e : (x :: y :: r).getLast? = (y :: r).getLast? := by simp [List.getLast?_cons]
   rw [e]
   split <;> rfl
theorem cut_app (l : List Int) (z : Int) : ∀ m, m <= l.length -> Lib.compactUpTo (l ++ [z]).toArray m = Lib.compactUpTo l.toArray m
 | 0, _ => rfl
 | m + 1, hm => by
   rw [Lib.compactUpTo_succ, Lib.compactUpTo_succ, cut_app l z m (by omega)]
   have g : ∀ j, j < l.length -> (l ++ [z]).toArray[j]! = l.toArray[j]! := fun j hj => by
    simp [hj, show j < l.length + 1 by omega]
   have k : Lib.keeps (l ++ [z]).toArray m = Lib.keeps l.toArray m := by
    simp only [Lib.keeps, g m (by omega), g (m - 1) (by omega)]
   rw [k, g m (by omega)]
theorem compact_dd (l : List Int) : Lib.compact l = dd l := by
 have key : ∀ n (l : List Int), l.length = n -> Lib.compact l = dd l := by
  intro n
  induction n with
  | zero => intro l h; obtain rfl := List.length_eq_zero_iff.1 h; rfl
  | succ n ih =>
    intro l h
    obtain ⟨r, z, rfl⟩ : ∃ r z, l = r ++ [z] := ⟨l.dropLast, l.getLast (by intro e; subst e; simp at h), (List.dropLast_concat_getLast _).symm⟩
    have hr : r.length = n := by simpa using h
    have ih := ih r hr
    unfold Lib.compact at ih ⊢
    rw [List.length_append, List.length_singleton, Lib.compactUpTo_succ, cut_app r z r.length (Nat.le_refl _), ih, dd_last]
    congr 1
    have g : (r ++ [z]).toArray[r.length]! = z := by simp
    rw [g]
    by_cases h0 : r = []
    ·subst h0; rfl
    ·have hp : 0 < r.length := List.length_pos_iff.2 h0
     have g2 : (r ++ [z]).toArray[r.length - 1]! = r.getLast h0 := by
      rw [List.getLast_eq_getElem]
      simp [show r.length - 1 < r.length by omega, show r.length - 1 < r.length + 1 by omega]
     rw [List.getLast?_eq_some_getLast h0]
     by_cases he : r.getLast h0 = z
     ·have : Lib.keeps (r ++ [z]).toArray r.length = false := Lib.keeps_neg hp (by rw [g, g2, he])
      rw [this, he]; simp
     ·have : Lib.keeps (r ++ [z]).toArray r.length = true := Lib.keeps_pos (by rw [g, g2]; exact fun e => he e.symm)
      rw [this, if_pos rfl, if_neg]
      intro e; exact he (Option.some.inj e)
 exact key _ l rfl
theorem compact_inp {P : Program} {ρ : Go.Shelf.Ren} (Ly : Lays2.n20 P ρ) {k : Nat} {xs es ys : List AV} {res : Option Nat} (hg : cptG k xs es = some (ys, res)) :
  ((ys.length = xs.length /\ (∀ y ∈ ys, y.cells.length = k)) /\ ((∀ y ∈ ys, ∀ d ∈ y.cells, fz d = true) /\ ∀ m, res = some m -> m <= xs.length)) /\
 (xs = [] -> ∀ (X : Nat -> Prop) (φ : Phi) (w : World) (vargs : Array Value) v0 y, (y = .nils \/ y = .list k []) -> es.length + 1 = vargs.size -> vargs[0]? = some v0 -> Rep (Rd X φ w) φ y v0 -> (∀ (i : Nat) (e : AV) (v : Value), es[i]? = some e -> vargs[i + 1]? = some v -> Rep (Rd X φ w) [] e v) ->
  Calls P (ρ.f 20) vargs w (fun e w' => ∃ v', e = .returned v' /\ Rep (Rd X φ w') φ (match (generalizing := false) res with
   | none => .tup []
   | some _ => y) v' /\ Adv [] w [] w')) /\
 ∀ (X : Nat -> Prop) (φ : Phi) (w : World) Ha n rest (vargs : Array Value) v0, HRel X φ w Ha -> blk Ha n = some (flatCells (xs ++ rest)) -> es.length + 1 = vargs.size -> vargs[0]? = some v0 -> Rep (Rd X φ w) φ (.sl k n 0 xs.length) v0 -> (∀ (i : Nat) (e : AV) (v : Value), es[i]? = some e -> vargs[i + 1]? = some v -> Rep (Rd X φ w) [] e v) ->
  Calls P (ρ.f 20) vargs w (fun e w' => ∃ v' φ', e = .returned v' /\ Rep (Rd X φ' w') φ' (match (generalizing := false) res with
   | none => .tup []
   | some m => .sl k n 0 m) v' /\ HRel X φ' w' (Ha.set n (some (flatCells (ys ++ rest)))) /\ Adv φ w φ' w') := by
 unfold cptG at hg
 split at hg
 case h_2 => cases hg
 split at hg
 case isFalse => cases hg
 rename_i hlim
 cases hzs : intsOf xs with
 | none => rw [hzs] at hg; cases hg
 | some zs =>
 rw [hzs] at hg
 simp only [Option.some.injEq, Prod.mk.injEq] at hg
 obtain ⟨rfl, rfl⟩ := hg
 have hx := intsOf_eq hzs
 subst hx
 have hdl := dd_len zs
 refine ⟨⟨⟨by simp; omega, fun y hy => (ints_cells hy).1⟩, fun y hy => (ints_cells hy).2, fun m hm => by cases hm; simpa using hdl⟩, fun hnil X φ w vargs v0 y hy hs h0 hr _ => ?_, fun X φ w Ha n rest vargs v0 hh hb hs h0 hr _ => ?_⟩
 ·obtain ⟨p, cap, rfl⟩ := nil_slice hy hr
  obtain rfl := one_arg hs h0
  refine (Any.slices_Compact_int_empty Ly p cap w).mono ?_
  rintro e w' ⟨rfl, rfl⟩
  exact ⟨_, rfl, hr, .refl _ _⟩
 ·have ha := arel_one (by simpa using hs.symm) h0 hr
  by_cases hz : zs = []
  ·subst hz
   have e : Ha.set n (some (flatCells ((dd [] ++ List.replicate (([] : List Int).length - (dd []).length) 0).map (AV.int .i64) ++ rest))) = Ha := by
    apply List.ext_getElem?
    intro j
    rw [List.getElem?_set]
    split
    ·rename_i e; subst e
     rw [if_pos (blk_lt hb), blk_iff.1 hb]; rfl
    ·rfl
   rw [e]
   exact compact_ret Ly (args := [.sl 1 n 0 0]) (H := Ha) (r := .sl 1 n 0 0) (H' := Ha) rfl ha hh
  ·have hzl : zs.length ≠ 0 := fun h => hz (List.eq_nil_of_length_eq_zero h)
   have hfl : flatCells (zs.map (AV.int .i64) ++ rest) = zs.map (AV.int .i64) ++ flatCells rest := by rw [flatCells_app, flat_ints]
   have e : gCompact [.sl 1 n 0 zs.length] Ha = some (.sl 1 n 0 (dd zs).length, Ha.set n (some (flatCells ((dd zs ++ List.replicate (zs.length - (dd zs).length) 0).map (AV.int .i64) ++ rest)))) := by
    unfold gCompact
    simp only [if_neg hzl, hb, hfl]
    rw [if_pos ⟨by simp, by simpa using hlim⟩]
    have ht : ((zs.map (AV.int .i64) ++ flatCells rest).drop 0).take zs.length = zs.map (AV.int .i64) := by simp
    rw [ht, intsOf_ints]
    simp only [cpt, compact_dd]
    rw [if_pos hdl, flatCells_app, flat_ints]
    unfold ovw
    have hl2 : (List.map (AV.int .i64) (dd zs ++ List.replicate (zs.length - (dd zs).length) 0)).length = zs.length := by simp; omega
    rw [hl2]
    simp
   have hl : (zs.map (AV.int .i64)).length = zs.length := by simp
   rw [hl] at ha
   exact compact_ret Ly e ha hh
end Go.Bm
