/- The library's Reverse of ints as a function that writes into the slice it is given: out of the shelf's contract. -/
import Derived.Test.YtegmpkeejgflnaaSrtO
import Derived.Test.YtegmpkeejgflnaaRvG
import Derived.Shelf.Slices.Reverse
namespace Go.Bm
open Go.Am Go.Sort Go.Shelf Go.Proofs
theorem rev_ret {P : Program} {ρ : Ren} (Ly : Lays.n112 P ρ) {X : Nat -> Prop} {φ : Phi} {w : World} {H : Heap} {n len : Nat} {cs : List AV} {zs : List Int} {vargs : Array Value} (ha : ARel X φ w [.sl 1 n 0 len] vargs) (hh : HRel X φ w H) (h0 : len ≠ 0) (hcs : blk H n = some cs) (hlen : 0 + len <= cs.length) (hlim : len <= LIM) (hzs : intsOf ((cs.drop 0).take len) = some zs) :
  Calls P (ρ.f 112) vargs w (Ret X φ w (.tup []) (H.set n (some (ovw cs 0 (zs.reverse.map (AV.int .i64)))))) := by
 obtain ⟨v, rfl, hv⟩ := ha.one
 obtain ⟨g, cap, rfl, hc, hzl, hH, hlt, _, hput⟩ := own_row hh hv h0 hcs hlen hzs
 have hcall := Any.slices_Reverse_int Ly g _ cap zs w hH (by unfold LIM at hlim; omega)
 rw [hzl] at hcall
 refine hcall.mono ?_
 rintro ee w' ⟨rfl, m, rfl⟩
 obtain ⟨h1, h2⟩ := hput zs.reverse (by rw [List.length_reverse, hzl]) m #[]
 have e : ∀ W : World, grow W #[] = W := fun W => by unfold grow; simp
 rw [e] at h1 h2
 exact ⟨_, φ, rfl, .tup _ _ _ rfl (fun i c v hc => by simp at hc), h1, h2⟩
theorem rev_inp {P : Program} {ρ : Go.Shelf.Ren} (Ly : Lays.n112 P ρ) {k : Nat} {xs es ys : List AV} {res : Option Nat} (hg : rvG k xs es = some (ys, res)) :
  ((ys.length = xs.length /\ (∀ y ∈ ys, y.cells.length = k)) /\ ((∀ y ∈ ys, ∀ d ∈ y.cells, fz d = true) /\ ∀ m, res = some m -> m <= xs.length)) /\
 (xs = [] -> ∀ (X : Nat -> Prop) (φ : Phi) (w : World) (vargs : Array Value) v0 y, (y = .nils \/ y = .list k []) -> es.length + 1 = vargs.size -> vargs[0]? = some v0 -> Rep (Rd X φ w) φ y v0 -> (∀ (i : Nat) (e : AV) (v : Value), es[i]? = some e -> vargs[i + 1]? = some v -> Rep (Rd X φ w) [] e v) ->
  Calls P (ρ.f 112) vargs w (fun e w' => ∃ v', e = .returned v' /\ Rep (Rd X φ w') φ (match (generalizing := false) res with
   | none => .tup []
   | some _ => y) v' /\ Adv [] w [] w')) /\
 ∀ (X : Nat -> Prop) (φ : Phi) (w : World) Ha n rest (vargs : Array Value) v0, HRel X φ w Ha -> blk Ha n = some (flatCells (xs ++ rest)) -> es.length + 1 = vargs.size -> vargs[0]? = some v0 -> Rep (Rd X φ w) φ (.sl k n 0 xs.length) v0 -> (∀ (i : Nat) (e : AV) (v : Value), es[i]? = some e -> vargs[i + 1]? = some v -> Rep (Rd X φ w) [] e v) ->
  Calls P (ρ.f 112) vargs w (fun e w' => ∃ v' φ', e = .returned v' /\ Rep (Rd X φ' w') φ' (match (generalizing := false) res with
   | none => .tup []
   | some m => .sl k n 0 m) v' /\ HRel X φ' w' (Ha.set n (some (flatCells (ys ++ rest)))) /\ Adv φ w φ' w') := by
 unfold rvG at hg
 split at hg
 case isFalse => cases hg
 rename_i hc
 obtain ⟨rfl, he, hlim⟩ := hc
 have he0 : es = [] := List.isEmpty_iff.1 he
 subst he0
 cases hzs : intsOf xs with
 | none => rw [hzs] at hg; cases hg
 | some zs =>
 rw [hzs] at hg
 simp only [Option.some.injEq, Prod.mk.injEq] at hg
 obtain ⟨rfl, rfl⟩ := hg
 have hx := intsOf_eq hzs
 subst hx
 refine ⟨⟨⟨by simp, fun y hy => (ints_cells hy).1⟩, fun y hy => (ints_cells hy).2, fun m hm => by cases hm⟩, fun hnil X φ w vargs v0 y hy hs h0 hr _ => ?_, fun X φ w Ha n rest vargs v0 hh hb hs h0 hr _ => ?_⟩
 ·obtain ⟨p, cap, rfl⟩ := nil_slice hy hr
  obtain rfl := one_arg hs h0
  refine (Any.slices_Reverse_int_empty Ly p cap w).mono ?_
  rintro e w' ⟨rfl, rfl⟩
  exact ⟨_, rfl, .tup _ _ _ rfl (fun i c v hc => by simp at hc), .refl _ _⟩
 ·have ha := arel_one (by simpa using hs.symm) h0 hr
  by_cases hz : zs = []
  ·subst hz
   have e : Ha.set n (some (flatCells (([] : List Int).reverse.map (AV.int .i64) ++ rest))) = Ha := by
    apply List.ext_getElem?
    intro j
    rw [List.getElem?_set]
    split
    ·rename_i e; subst e
     rw [if_pos (blk_lt hb), blk_iff.1 hb]; rfl
    ·rfl
   rw [e]
   obtain ⟨p, cap, rfl⟩ : ∃ p cap, v0 = .slice p 0 cap := by
    cases hr
    exact ⟨_, _, rfl⟩
   obtain rfl := one_arg hs h0
   refine (Any.slices_Reverse_int_empty Ly p cap w).mono ?_
   rintro e w' ⟨rfl, rfl⟩
   exact ⟨_, φ, rfl, .tup _ _ _ rfl (fun i c v hc => by simp at hc), hh, .refl _ _⟩
  ·have hzl : zs.length ≠ 0 := fun h => hz (List.eq_nil_of_length_eq_zero h)
   have hfl : flatCells (zs.map (AV.int .i64) ++ rest) = zs.map (AV.int .i64) ++ flatCells rest := by rw [flatCells_app, flat_ints]
   have hl : (zs.map (AV.int .i64)).length = zs.length := by simp
   rw [hl] at ha hlim
   have c := rev_ret Ly (H := Ha) (zs := zs) ha hh hzl hb (by rw [hfl]; simp) (by unfold LIM; omega) (by rw [hfl]; simp [intsOf_ints])
   have e : ovw (flatCells (zs.map (AV.int .i64) ++ rest)) 0 (zs.reverse.map (AV.int .i64)) = flatCells (zs.reverse.map (AV.int .i64) ++ rest) := by
    rw [flatCells_app, flatCells_app, flat_ints, flat_ints]
    unfold ovw
    simp
   rw [e] at c
   exact c
end Go.Bm
