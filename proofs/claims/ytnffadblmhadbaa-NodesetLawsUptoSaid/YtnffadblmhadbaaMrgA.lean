/- nodeset.merged: the merge of two sets. -/
import Derived.Test.YtnffadblmhadbaaSrtP
import Derived.Test.YtnffadblmhadbaaSetL
set_option linter.unusedSimpArgs false
set_option maxRecDepth 100000
namespace Go.Am
theorem WO_callvP {c : Cfg} {d : Option Nat} {f : Nat} {q : AFn} {x : E} {a b : List AV} {xs : List E} {os : List O} {s : St} {acc : List Fp} {K : St → List Fp → Prop} {v : AV} (hx : ev c s.env x = .func (.func f) a b) (hf : c.fn f = some (.P, q)) (hp : plainL (a ++ evs c s.env xs ++ b) = true) (h : Pu c f (a ++ evs c s.env xs ++ b) v)
    (hk : WO c os ⟨putd s.env d v, s.H⟩ (acc ++ [.no]) K) : WO c (⟨d, none, .callv x xs⟩ :: os) s acc K := by
  obtain ⟨n, h⟩ := h
  refine WO_of ⟨n, fun m hm => ?_⟩ hk
  obtain ⟨r, H1, bs, h1, h2⟩ := h m hm
  simp only [stepO, aOp, hx, doCall, hf, hp, if_true, h1, h2]
/-- x reads as l, over blocks below N. -/
def Seq (N : Nat) (H : Heap) (x : AV) (l : List Int) : Prop :=
  (l = [] ∧ lenA x = some 0) ∨ ∃ b off cs more, x = .sl 1 b off l.length ∧ b < N ∧ blk H b = some cs ∧ cs.drop off = l.map (AV.int .i64) ++ more
theorem Seq.len {N : Nat} {H : Heap} {x : AV} {l : List Int} (h : Seq N H x l) : lenA x = some l.length := by
  rcases h with ⟨rfl, h⟩ | ⟨b, off, cs, more, rfl, _⟩
  · exact h
  · rfl
theorem Seq.cons {N : Nat} {H : Heap} {x : AV} {z : Int} {r : List Int} (h : Seq N H x (z :: r)) : ∃ b off cs more, x = .sl 1 b off (r.length + 1) ∧ b < N ∧ blk H b = some cs ∧ cs.drop off = AV.int .i64 z :: more ∧ ∀ H', blk H' b = blk H b → Seq N H' (.sl 1 b (off + 1) r.length) r := by
  rcases h with ⟨h, _⟩ | ⟨b, off, cs, more, rfl, hb, hc, hd⟩
  · cases h
  · refine ⟨b, off, cs, r.map (AV.int .i64) ++ more, rfl, hb, hc, by simpa using hd, fun H' hH => .inr ⟨b, off + 1, cs, more, rfl, hb, by rw [hH]; exact hc, ?_⟩⟩
    rw [← List.drop_drop, hd]
    simp
theorem Seq.heap {N : Nat} {H H' : Heap} {x : AV} {l : List Int} (h : Seq N H x l) (hH : ∀ b, b < N → blk H' b = blk H b) : Seq N H' x l := by
  rcases h with h | ⟨b, off, cs, more, rfl, hb, hc, hd⟩
  · exact .inl h
  · exact .inr ⟨b, off, cs, more, rfl, hb, by rw [hH b hb]; exact hc, hd⟩
/-- The list that a call builds. -/
def Out (N : Nat) (H : Heap) (o : AV) (l : List Int) : Prop := (l = [] ∧ o = .nils) ∨ l ≠ [] ∧ ∃ b, o = .sl 1 b 0 l.length ∧ N ≤ b ∧ blk H b = some (l.map (AV.int .i64))
end Go.Am
namespace Go.AmP
open Go.Am
def fv (f : Nat) : AV := .func (.func f) [] []
def Junk (j : Env) : Prop := j = [] ∨ ∃ v w, j = [(10, v), (80, w)]
theorem mrg6 {x y o fu : AV} {H : Heap} {j : Env} (hj : Junk j) {a b : Nat} (hx : lenA x = some a) (hy : lenA y = some b) {Q : Ex → St → Prop} (h : Q .normal ⟨[(0, x), (1, y), (2, fu), (7, o), (30, .bool (decide (0 < a) || decide (0 < b)))], H⟩) :
    W cfgS (.reg rNodesetMergedIntX6 false [] [0, 1, 2, 7, 30]) ⟨[(0, x), (1, y), (2, fu), (7, o)] ++ j, H⟩ Q := by
  have ha : (0 < (a : Int)) ↔ 0 < a := by omega
  have hb : (0 < (b : Int)) ↔ 0 < b := by omega
  rcases hj with rfl | ⟨v, w, rfl⟩
  · by_cases h0 : 0 < a
    · refine W_reg ?_; simp [rNodesetMergedIntX6, hx, hy, ha, hb, h0, ints, WO_nil_iff, WO_grd, flatCells_ints, allLeaf_ints, WO_mv, WO_pick, WO_new, WO_box, WO_build, WO_bslice, WO_ld, WO_st, WO_nilck, WO_bin, WO_eq, WO_un, WO_cvt, WO_mkf, WO_mks, WO_slc, WO_fad, WO_fld, WO_ixa, WO_ixp, WO_ix, WO_ext, WO_ixs, WO_clr, WO_len, WO_app, WO_min, WO_max, aOp, ev, evs, Am.get, Am.put, putd, keepIn, mem, binA, arith, unA, eqA, eqc, isNil, idx, bnd, bndO, rdc, AV.cells, AV.leaf, allLeaf, ovw, blk, sliceCells, flatCells, rep, fillA, okDraw, Fp.ok, List.getD, minA, minF, Ex.thn, Ex.blk]
      simpa [h0] using h
    · refine W_reg ?_; simp [rNodesetMergedIntX6, hx, hy, ha, hb, h0, ints, WO_nil_iff, WO_grd, flatCells_ints, allLeaf_ints, WO_mv, WO_pick, WO_new, WO_box, WO_build, WO_bslice, WO_ld, WO_st, WO_nilck, WO_bin, WO_eq, WO_un, WO_cvt, WO_mkf, WO_mks, WO_slc, WO_fad, WO_fld, WO_ixa, WO_ixp, WO_ix, WO_ext, WO_ixs, WO_clr, WO_len, WO_app, WO_min, WO_max, aOp, ev, evs, Am.get, Am.put, putd, keepIn, mem, binA, arith, unA, eqA, eqc, isNil, idx, bnd, bndO, rdc, AV.cells, AV.leaf, allLeaf, ovw, blk, sliceCells, flatCells, rep, fillA, okDraw, Fp.ok, List.getD, minA, minF, Ex.thn, Ex.blk]
      simpa [h0] using h
  · by_cases h0 : 0 < a
    · refine W_reg ?_; simp [rNodesetMergedIntX6, hx, hy, ha, hb, h0, ints, WO_nil_iff, WO_grd, flatCells_ints, allLeaf_ints, WO_mv, WO_pick, WO_new, WO_box, WO_build, WO_bslice, WO_ld, WO_st, WO_nilck, WO_bin, WO_eq, WO_un, WO_cvt, WO_mkf, WO_mks, WO_slc, WO_fad, WO_fld, WO_ixa, WO_ixp, WO_ix, WO_ext, WO_ixs, WO_clr, WO_len, WO_app, WO_min, WO_max, aOp, ev, evs, Am.get, Am.put, putd, keepIn, mem, binA, arith, unA, eqA, eqc, isNil, idx, bnd, bndO, rdc, AV.cells, AV.leaf, allLeaf, ovw, blk, sliceCells, flatCells, rep, fillA, okDraw, Fp.ok, List.getD, minA, minF, Ex.thn, Ex.blk]
      simpa [h0] using h
    · refine W_reg ?_; simp [rNodesetMergedIntX6, hx, hy, ha, hb, h0, ints, WO_nil_iff, WO_grd, flatCells_ints, allLeaf_ints, WO_mv, WO_pick, WO_new, WO_box, WO_build, WO_bslice, WO_ld, WO_st, WO_nilck, WO_bin, WO_eq, WO_un, WO_cvt, WO_mkf, WO_mks, WO_slc, WO_fad, WO_fld, WO_ixa, WO_ixp, WO_ix, WO_ext, WO_ixs, WO_clr, WO_len, WO_app, WO_min, WO_max, aOp, ev, evs, Am.get, Am.put, putd, keepIn, mem, binA, arith, unA, eqA, eqc, isNil, idx, bnd, bndO, rdc, AV.cells, AV.leaf, allLeaf, ovw, blk, sliceCells, flatCells, rep, fillA, okDraw, Fp.ok, List.getD, minA, minF, Ex.thn, Ex.blk]
      simpa [h0] using h
theorem mrg14 {keep : Bool → Bool → Bool} {f : Nat} {q : AFn} (hf : cfgS.fn f = some (.P, q)) (hk : ∀ p r, Pu cfgS f [.bool p, .bool r] (.bool (keep p r))) {x y o : AV} {H : Heap} {z : Int} {p r : Bool} {j : Env} (hj : j = [] ∨ j = [(71, .bool false)]) {Q : Ex → St → Prop}
    (h : Q .normal ⟨[(0, x), (1, y), (2, fv f), (7, o), (10, .int .i64 z), (80, .bool (keep p r))], H⟩) :
    W cfgS (.reg rNodesetMergedIntX14 false [] [0, 1, 2, 7, 10, 80]) ⟨[(0, x), (1, y), (2, fv f), (7, o), (8, .bool p), (9, .bool r), (10, .int .i64 z)] ++ j, H⟩ Q := by
  rcases hj with rfl | rfl
  · refine W_reg ?_; simp [rNodesetMergedIntX14, ints, WO_nil_iff, WO_grd, flatCells_ints, allLeaf_ints, WO_mv, WO_pick, WO_new, WO_box, WO_build, WO_bslice, WO_ld, WO_st, WO_nilck, WO_bin, WO_eq, WO_un, WO_cvt, WO_mkf, WO_mks, WO_slc, WO_fad, WO_fld, WO_ixa, WO_ixp, WO_ix, WO_ext, WO_ixs, WO_clr, WO_len, WO_app, WO_min, WO_max, aOp, ev, evs, Am.get, Am.put, putd, keepIn, mem, binA, arith, unA, eqA, eqc, isNil, lenA, idx, bnd, bndO, rdc, AV.cells, AV.leaf, allLeaf, ovw, blk, sliceCells, flatCells, rep, fillA, okDraw, Fp.ok, List.getD, minA, minF, Ex.thn, Ex.blk]
    refine WO_callvP (v := .bool (keep p r)) (a := []) (b := []) (x := .t 77) (f := f) rfl hf rfl (hk p r) ?_
    simp [ints, WO_nil_iff, WO_grd, flatCells_ints, allLeaf_ints, WO_mv, WO_pick, WO_new, WO_box, WO_build, WO_bslice, WO_ld, WO_st, WO_nilck, WO_bin, WO_eq, WO_un, WO_cvt, WO_mkf, WO_mks, WO_slc, WO_fad, WO_fld, WO_ixa, WO_ixp, WO_ix, WO_ext, WO_ixs, WO_clr, WO_len, WO_app, WO_min, WO_max, aOp, ev, evs, Am.get, Am.put, putd, keepIn, mem, binA, arith, unA, eqA, eqc, isNil, lenA, idx, bnd, bndO, rdc, AV.cells, AV.leaf, allLeaf, ovw, blk, sliceCells, flatCells, rep, fillA, okDraw, Fp.ok, List.getD, minA, minF, Ex.thn, Ex.blk]
    exact h
  · refine W_reg ?_; simp [rNodesetMergedIntX14, ints, WO_nil_iff, WO_grd, flatCells_ints, allLeaf_ints, WO_mv, WO_pick, WO_new, WO_box, WO_build, WO_bslice, WO_ld, WO_st, WO_nilck, WO_bin, WO_eq, WO_un, WO_cvt, WO_mkf, WO_mks, WO_slc, WO_fad, WO_fld, WO_ixa, WO_ixp, WO_ix, WO_ext, WO_ixs, WO_clr, WO_len, WO_app, WO_min, WO_max, aOp, ev, evs, Am.get, Am.put, putd, keepIn, mem, binA, arith, unA, eqA, eqc, isNil, lenA, idx, bnd, bndO, rdc, AV.cells, AV.leaf, allLeaf, ovw, blk, sliceCells, flatCells, rep, fillA, okDraw, Fp.ok, List.getD, minA, minF, Ex.thn, Ex.blk]
    refine WO_callvP (v := .bool (keep p r)) (a := []) (b := []) (x := .t 77) (f := f) rfl hf rfl (hk p r) ?_
    simp [ints, WO_nil_iff, WO_grd, flatCells_ints, allLeaf_ints, WO_mv, WO_pick, WO_new, WO_box, WO_build, WO_bslice, WO_ld, WO_st, WO_nilck, WO_bin, WO_eq, WO_un, WO_cvt, WO_mkf, WO_mks, WO_slc, WO_fad, WO_fld, WO_ixa, WO_ixp, WO_ix, WO_ext, WO_ixs, WO_clr, WO_len, WO_app, WO_min, WO_max, aOp, ev, evs, Am.get, Am.put, putd, keepIn, mem, binA, arith, unA, eqA, eqc, isNil, lenA, idx, bnd, bndO, rdc, AV.cells, AV.leaf, allLeaf, ovw, blk, sliceCells, flatCells, rep, fillA, okDraw, Fp.ok, List.getD, minA, minF, Ex.thn, Ex.blk]
    exact h
/-- The round's end: the number is put behind the list, or not. -/
theorem mrgKeep {keep : Bool → Bool → Bool} {f : Nat} {q : AFn} (hf : cfgS.fn f = some (.P, q)) (hk : ∀ p r, Pu cfgS f [.bool p, .bool r] (.bool (keep p r))) {N : Nat} {out : List Int} {x y o : AV} {H : Heap} {z : Int} {p r : Bool} {j : Env} (hj : j = [] ∨ j = [(71, .bool false)]) (hN : N ≤ H.length) (ho : Out N H o out) (hl : out.length + 1 ≤ LIM) {Q : Ex → St → Prop}
    (hQ : ∀ o' H' j, Junk j → N ≤ H'.length → (∀ b, b < N → blk H' b = blk H b) → Out N H' o' (if keep p r = true then out ++ [z] else out) → Q .normal ⟨[(0, x), (1, y), (2, fv f), (7, o')] ++ j, H'⟩) :
    W cfgS (.seq (.reg rNodesetMergedIntX14 false [] [0, 1, 2, 7, 10, 80]) (.cond (.t 80) (.reg rNodesetMergedIntX15 false [] [0, 1, 2, 7]) .skip)) ⟨[(0, x), (1, y), (2, fv f), (7, o), (8, .bool p), (9, .bool r), (10, .int .i64 z)] ++ j, H⟩ Q := by
  refine W_seq fun K hK => mrg14 hf hk hj ?_
  refine hK _ ?_; clear hK
  cases hkp : keep p r with
  | false =>
    refine W_condF (by simp [ev, Am.get]) ?_
    refine W_skip ?_
    refine hQ o H [(10, .int .i64 z), (80, .bool false)] (.inr ⟨_, _, rfl⟩) hN (fun _ _ => rfl) ?_
    simpa [hkp] using ho
  | true =>
    refine W_condT (by simp [ev, Am.get]) ?_
    rcases ho with ⟨rfl, rfl⟩ | ⟨hne0, b, rfl, hb, hcs⟩
    · refine W_reg ?_; simp [rNodesetMergedIntX15, ints, WO_nil_iff, WO_grd, flatCells_ints, allLeaf_ints, WO_mv, WO_pick, WO_new, WO_box, WO_build, WO_bslice, WO_ld, WO_st, WO_nilck, WO_bin, WO_eq, WO_un, WO_cvt, WO_mkf, WO_mks, WO_slc, WO_fad, WO_fld, WO_ixa, WO_ixp, WO_ix, WO_ext, WO_ixs, WO_clr, WO_len, WO_app, WO_min, WO_max, aOp, ev, evs, Am.get, Am.put, putd, keepIn, mem, binA, arith, unA, eqA, eqc, isNil, lenA, idx, bnd, bndO, rdc, AV.cells, AV.leaf, allLeaf, ovw, blk, sliceCells, flatCells, rep, fillA, okDraw, Fp.ok, List.getD, minA, minF, Ex.thn, Ex.blk]
      refine hQ (.sl 1 (H.length + 1) 0 1) _ [] (.inl rfl) ?_ ?_ ?_
      · simp; omega
      · intro c hc
        unfold blk
        rw [List.getElem?_append_left (by omega)]
      · rw [hkp]
        refine .inr ⟨by simp, H.length + 1, rfl, by omega, ?_⟩
        simp [blk]
    · have hbl : b < H.length := by
        have := blk_some hcs
        exact (List.getElem?_eq_some_iff.mp this).1
      have hb1 : blk (H ++ [some [AV.int .i64 z]]) b = some (out.map (AV.int .i64)) := by
        rw [← hcs]; unfold blk; rw [List.getElem?_append_left hbl]
      have hb2 : blk (H ++ [some [AV.int .i64 z]]) H.length = some [AV.int .i64 z] := by simp [blk]
      have ht : List.take out.length (out.map (AV.int .i64)) = out.map (AV.int .i64) := List.take_of_length_le (by simp)
      refine W_reg ?_; simp [rNodesetMergedIntX15, hb1, hb2, hl, ht, ints, WO_nil_iff, WO_grd, flatCells_ints, allLeaf_ints, WO_mv, WO_pick, WO_new, WO_box, WO_build, WO_bslice, WO_ld, WO_st, WO_nilck, WO_bin, WO_eq, WO_un, WO_cvt, WO_mkf, WO_mks, WO_slc, WO_fad, WO_fld, WO_ixa, WO_ixp, WO_ix, WO_ext, WO_ixs, WO_clr, WO_len, WO_app, WO_min, WO_max, aOp, ev, evs, Am.get, Am.put, putd, keepIn, mem, binA, arith, unA, eqA, eqc, isNil, lenA, idx, bnd, bndO, rdc, AV.cells, AV.leaf, allLeaf, ovw, sliceCells, flatCells, rep, fillA, okDraw, Fp.ok, List.getD, minA, minF, Ex.thn, Ex.blk]
      refine hQ (.sl 1 (H.length + 1) 0 (out.length + 1)) _ [] (.inl rfl) ?_ ?_ ?_
      · simp; omega
      · intro c hc
        unfold blk
        rw [List.getElem?_append_left (by simp; omega), List.getElem?_set_ne (by omega), List.getElem?_append_left (by omega)]
      · rw [hkp]
        refine .inr ⟨by simp, H.length + 1, by simp, by omega, ?_⟩
        simp [blk]
theorem mrgLoop (keep : Bool → Bool → Bool) (f : Nat) (q : AFn) (hf : cfgS.fn f = some (.P, q)) (hk : ∀ p r, Pu cfgS f [.bool p, .bool r] (.bool (keep p r))) (N : Nat) (Q : Ex → St → Prop) (res : List Int)
    (hQ : ∀ x y o H, Out N H o res → Q (.exit 0) ⟨[(0, x), (1, y), (2, fv f), (7, o), (30, .bool false)], H⟩) :
    ∀ (A B out : List Int) (x y o : AV) (H : Heap) (j : Env), Junk j → N ≤ H.length → Seq N H x A → Seq N H y B → Out N H o out → out.length + A.length + B.length ≤ LIM → out ++ mrg keep A B = res →
      W cfgS (.loop lNodesetMergedIntX0) ⟨[(0, x), (1, y), (2, fv f), (7, o)] ++ j, H⟩ Q := by
  intro A B
  induction A, B using mrg.induct with
  | case1 =>
    intro out x y o H j hj hN hx hy ho hL hr
    refine W_loop ?_
    simp only [lNodesetMergedIntX0]
    refine W_seq fun K hK => ?_
    refine W_seq fun K hK => mrg6 hj hx.len hy.len ?_
    refine hK _ ?_; clear hK
    refine W_condF (by simp [ev, Am.get]) ?_
    refine W_exit ?_
    simp [mrg] at hr
    subst hr
    exact hQ _ _ _ _ ho
  | case2 z r ih =>
    intro out x y o H j hj hN hx hy ho hL hr
    have ly := hy.len
    obtain ⟨b, off, cs, more, rfl, hb, hcs, hd, hnext⟩ := hx.cons
    have lx0 : lenA (.sl 1 b off (r.length + 1)) = some (r.length + 1) := rfl
    have h01 : (0 : Int) < (r.length : Int) + 1 := by omega
    have h0 : (0 : Int) ≤ (r.length : Int) := by omega
    have h1 : (1 : Int) ≤ (r.length : Int) + 1 := by omega
    have hne : ¬ ((r.length : Int) + 1 = 0) := by omega
    refine W_loop ?_
    simp only [lNodesetMergedIntX0]
    refine W_seq fun K hK => ?_
    refine W_seq fun K hK => mrg6 hj hx.len hy.len ?_
    refine hK _ ?_; clear hK
    refine W_condT (by simp [ev, Am.get]) ?_
    refine W_skip ?_
    refine hK _ ?_; clear hK
    refine W_blk ?_
    refine W_seq fun K hK => W_reg ?_; simp [rNodesetMergedIntX7, ly, lx0, h01, ints, WO_nil_iff, WO_grd, flatCells_ints, allLeaf_ints, WO_mv, WO_pick, WO_new, WO_box, WO_build, WO_bslice, WO_ld, WO_st, WO_nilck, WO_bin, WO_eq, WO_un, WO_cvt, WO_mkf, WO_mks, WO_slc, WO_fad, WO_fld, WO_ixa, WO_ixp, WO_ix, WO_ext, WO_ixs, WO_clr, WO_len, WO_app, WO_min, WO_max, aOp, ev, evs, Am.get, Am.put, putd, keepIn, mem, binA, arith, unA, eqA, eqc, isNil, idx, bnd, bndO, rdc, AV.cells, AV.leaf, allLeaf, ovw, blk, sliceCells, flatCells, rep, fillA, okDraw, Fp.ok, List.getD, minA, minF, Ex.thn, Ex.blk]; refine hK _ ?_; clear hK
    refine W_seq fun K hK => W_reg ?_; simp [rNodesetMergedIntX8, ly, lx0, h01, hne, ints, WO_nil_iff, WO_grd, flatCells_ints, allLeaf_ints, WO_mv, WO_pick, WO_new, WO_box, WO_build, WO_bslice, WO_ld, WO_st, WO_nilck, WO_bin, WO_eq, WO_un, WO_cvt, WO_mkf, WO_mks, WO_slc, WO_fad, WO_fld, WO_ixa, WO_ixp, WO_ix, WO_ext, WO_ixs, WO_clr, WO_len, WO_app, WO_min, WO_max, aOp, ev, evs, Am.get, Am.put, putd, keepIn, mem, binA, arith, unA, eqA, eqc, isNil, idx, bnd, bndO, rdc, AV.cells, AV.leaf, allLeaf, ovw, blk, sliceCells, flatCells, rep, fillA, okDraw, Fp.ok, List.getD, minA, minF, Ex.thn, Ex.blk]; refine hK _ ?_; clear hK
    refine W_seq fun K hK => W_reg ?_; simp [rNodesetMergedIntX9, ints, WO_nil_iff, WO_grd, flatCells_ints, allLeaf_ints, WO_mv, WO_pick, WO_new, WO_box, WO_build, WO_bslice, WO_ld, WO_st, WO_nilck, WO_bin, WO_eq, WO_un, WO_cvt, WO_mkf, WO_mks, WO_slc, WO_fad, WO_fld, WO_ixa, WO_ixp, WO_ix, WO_ext, WO_ixs, WO_clr, WO_len, WO_app, WO_min, WO_max, aOp, ev, evs, Am.get, Am.put, putd, keepIn, mem, binA, arith, unA, eqA, eqc, isNil, lenA, idx, bnd, bndO, rdc, AV.cells, AV.leaf, allLeaf, ovw, blk, sliceCells, flatCells, rep, fillA, okDraw, Fp.ok, List.getD, minA, minF, Ex.thn, Ex.blk]; refine hK _ ?_; clear hK
    refine W_seq fun K hK => ?_
    refine W_seq fun K hK => W_reg ?_; simp [rNodesetMergedIntX10, ints, WO_nil_iff, WO_grd, flatCells_ints, allLeaf_ints, WO_mv, WO_pick, WO_new, WO_box, WO_build, WO_bslice, WO_ld, WO_st, WO_nilck, WO_bin, WO_eq, WO_un, WO_cvt, WO_mkf, WO_mks, WO_slc, WO_fad, WO_fld, WO_ixa, WO_ixp, WO_ix, WO_ext, WO_ixs, WO_clr, WO_len, WO_app, WO_min, WO_max, aOp, ev, evs, Am.get, Am.put, putd, keepIn, mem, binA, arith, unA, eqA, eqc, isNil, lenA, idx, bnd, bndO, rdc, AV.cells, AV.leaf, allLeaf, ovw, blk, sliceCells, flatCells, rep, fillA, okDraw, Fp.ok, List.getD, minA, minF, Ex.thn, Ex.blk]; refine hK _ ?_; clear hK
    refine W_condT (by simp [ev, Am.get]) ?_
    have hat : cs[off]? = some (.int .i64 z) := by
      have := congrArg List.head? hd
      simpa using this
    refine W_reg ?_; simp [rNodesetMergedIntX11, h01, h0, h1, hcs, hd, hat, ints, WO_nil_iff, WO_grd, flatCells_ints, allLeaf_ints, WO_mv, WO_pick, WO_new, WO_box, WO_build, WO_bslice, WO_ld, WO_st, WO_nilck, WO_bin, WO_eq, WO_un, WO_cvt, WO_mkf, WO_mks, WO_slc, WO_fad, WO_fld, WO_ixa, WO_ixp, WO_ix, WO_ext, WO_ixs, WO_clr, WO_len, WO_app, WO_min, WO_max, aOp, ev, evs, Am.get, Am.put, putd, keepIn, mem, binA, arith, unA, eqA, eqc, isNil, lenA, idx, bnd, bndO, rdc, AV.cells, AV.leaf, allLeaf, ovw, sliceCells, flatCells, rep, fillA, okDraw, Fp.ok, List.getD, minA, minF, Ex.thn, Ex.blk]
    refine hK _ ?_; clear hK
    refine W_seq fun K hK => ?_
    refine W_seq fun K hK => W_reg ?_; simp [rNodesetMergedIntX12, ints, WO_nil_iff, WO_grd, flatCells_ints, allLeaf_ints, WO_mv, WO_pick, WO_new, WO_box, WO_build, WO_bslice, WO_ld, WO_st, WO_nilck, WO_bin, WO_eq, WO_un, WO_cvt, WO_mkf, WO_mks, WO_slc, WO_fad, WO_fld, WO_ixa, WO_ixp, WO_ix, WO_ext, WO_ixs, WO_clr, WO_len, WO_app, WO_min, WO_max, aOp, ev, evs, Am.get, Am.put, putd, keepIn, mem, binA, arith, unA, eqA, eqc, isNil, lenA, idx, bnd, bndO, rdc, AV.cells, AV.leaf, allLeaf, ovw, blk, sliceCells, flatCells, rep, fillA, okDraw, Fp.ok, List.getD, minA, minF, Ex.thn, Ex.blk]; refine hK _ ?_; clear hK
    refine W_condF (by simp [ev, Am.get]) ?_
    refine W_skip ?_
    refine hK _ ?_; clear hK
    simp only [List.length_cons] at hL
    refine mrgKeep (j := [(71, .bool false)]) (out := out) (N := N) hf hk (.inr rfl) hN ho (by omega) ?_
    intro o' H' j' hj' hN' hbl ho'
    simp only [Ex.blk, Ex.thn]
    refine ih _ _ _ _ H' j' hj' hN' (hnext H' (hbl b hb)) (hy.heap hbl) ho' (by split <;> (try simp) <;> omega) ?_
    rw [mrg] at hr
    rw [← hr]
    unfold put1
    split <;> simp
  | case3 z s ih =>
    intro out x y o H j hj hN hx hy ho hL hr
    have lx := hx.len
    obtain ⟨bly, offy, csy, morey, rfl, hby, hcsy, hdy, hnexty⟩ := hy.cons
    have ly : lenA (.sl 1 bly offy (s.length + 1)) = some (s.length + 1) := rfl
    have gy1 : (0 : Int) < (s.length : Int) + 1 := by omega
    have gy2 : (0 : Int) ≤ (s.length : Int) := by omega
    have gy3 : (1 : Int) ≤ (s.length : Int) + 1 := by omega
    have gy4 : ¬ ((s.length : Int) + 1 = 0) := by omega
    have haty : csy[offy]? = some (.int .i64 z) := by
      have := congrArg List.head? hdy
      simpa using this
    refine W_loop ?_
    simp only [lNodesetMergedIntX0]
    refine W_seq fun K hK => ?_
    refine W_seq fun K hK => mrg6 hj hx.len hy.len ?_
    refine hK _ ?_; clear hK
    refine W_condT (by simp [ev, Am.get]) ?_
    refine W_skip ?_
    refine hK _ ?_; clear hK
    refine W_blk ?_
    refine W_seq fun K hK => W_reg ?_; simp [rNodesetMergedIntX7, lx, ly, gy1, gy2, gy3, gy4, hcsy, hdy, haty, ints, WO_nil_iff, WO_grd, flatCells_ints, allLeaf_ints, WO_mv, WO_pick, WO_new, WO_box, WO_build, WO_bslice, WO_ld, WO_st, WO_nilck, WO_bin, WO_eq, WO_un, WO_cvt, WO_mkf, WO_mks, WO_slc, WO_fad, WO_fld, WO_ixa, WO_ixp, WO_ix, WO_ext, WO_ixs, WO_clr, WO_len, WO_app, WO_min, WO_max, aOp, ev, evs, Am.get, Am.put, putd, keepIn, mem, binA, arith, unA, eqA, eqc, isNil, idx, bnd, bndO, rdc, AV.cells, AV.leaf, allLeaf, ovw, sliceCells, flatCells, rep, fillA, okDraw, Fp.ok, List.getD, minA, minF, Ex.thn, Ex.blk]; refine hK _ ?_; clear hK
    refine W_seq fun K hK => W_reg ?_; simp [rNodesetMergedIntX8, lx, ly, gy1, gy2, gy3, gy4, hcsy, hdy, haty, ints, WO_nil_iff, WO_grd, flatCells_ints, allLeaf_ints, WO_mv, WO_pick, WO_new, WO_box, WO_build, WO_bslice, WO_ld, WO_st, WO_nilck, WO_bin, WO_eq, WO_un, WO_cvt, WO_mkf, WO_mks, WO_slc, WO_fad, WO_fld, WO_ixa, WO_ixp, WO_ix, WO_ext, WO_ixs, WO_clr, WO_len, WO_app, WO_min, WO_max, aOp, ev, evs, Am.get, Am.put, putd, keepIn, mem, binA, arith, unA, eqA, eqc, isNil, idx, bnd, bndO, rdc, AV.cells, AV.leaf, allLeaf, ovw, sliceCells, flatCells, rep, fillA, okDraw, Fp.ok, List.getD, minA, minF, Ex.thn, Ex.blk]; refine hK _ ?_; clear hK
    refine W_seq fun K hK => W_reg ?_; simp [rNodesetMergedIntX9, ints, WO_nil_iff, WO_grd, flatCells_ints, allLeaf_ints, WO_mv, WO_pick, WO_new, WO_box, WO_build, WO_bslice, WO_ld, WO_st, WO_nilck, WO_bin, WO_eq, WO_un, WO_cvt, WO_mkf, WO_mks, WO_slc, WO_fad, WO_fld, WO_ixa, WO_ixp, WO_ix, WO_ext, WO_ixs, WO_clr, WO_len, WO_app, WO_min, WO_max, aOp, ev, evs, Am.get, Am.put, putd, keepIn, mem, binA, arith, unA, eqA, eqc, isNil, lenA, idx, bnd, bndO, rdc, AV.cells, AV.leaf, allLeaf, ovw, blk, sliceCells, flatCells, rep, fillA, okDraw, Fp.ok, List.getD, minA, minF, Ex.thn, Ex.blk]; refine hK _ ?_; clear hK
    refine W_seq fun K hK => ?_
    refine W_seq fun K hK => W_reg ?_; simp [rNodesetMergedIntX10, ints, WO_nil_iff, WO_grd, flatCells_ints, allLeaf_ints, WO_mv, WO_pick, WO_new, WO_box, WO_build, WO_bslice, WO_ld, WO_st, WO_nilck, WO_bin, WO_eq, WO_un, WO_cvt, WO_mkf, WO_mks, WO_slc, WO_fad, WO_fld, WO_ixa, WO_ixp, WO_ix, WO_ext, WO_ixs, WO_clr, WO_len, WO_app, WO_min, WO_max, aOp, ev, evs, Am.get, Am.put, putd, keepIn, mem, binA, arith, unA, eqA, eqc, isNil, lenA, idx, bnd, bndO, rdc, AV.cells, AV.leaf, allLeaf, ovw, blk, sliceCells, flatCells, rep, fillA, okDraw, Fp.ok, List.getD, minA, minF, Ex.thn, Ex.blk]; refine hK _ ?_; clear hK
    refine W_condF (by simp [ev, Am.get]) ?_
    refine W_skip ?_
    refine hK _ ?_; clear hK
    refine W_seq fun K hK => ?_
    refine W_seq fun K hK => W_reg ?_; simp [rNodesetMergedIntX12, ints, WO_nil_iff, WO_grd, flatCells_ints, allLeaf_ints, WO_mv, WO_pick, WO_new, WO_box, WO_build, WO_bslice, WO_ld, WO_st, WO_nilck, WO_bin, WO_eq, WO_un, WO_cvt, WO_mkf, WO_mks, WO_slc, WO_fad, WO_fld, WO_ixa, WO_ixp, WO_ix, WO_ext, WO_ixs, WO_clr, WO_len, WO_app, WO_min, WO_max, aOp, ev, evs, Am.get, Am.put, putd, keepIn, mem, binA, arith, unA, eqA, eqc, isNil, lenA, idx, bnd, bndO, rdc, AV.cells, AV.leaf, allLeaf, ovw, blk, sliceCells, flatCells, rep, fillA, okDraw, Fp.ok, List.getD, minA, minF, Ex.thn, Ex.blk]; refine hK _ ?_; clear hK
    refine W_condT (by simp [ev, Am.get]) ?_
    refine W_reg ?_; simp [rNodesetMergedIntX13, ly, gy1, gy2, gy3, gy4, hcsy, hdy, haty, ints, WO_nil_iff, WO_grd, flatCells_ints, allLeaf_ints, WO_mv, WO_pick, WO_new, WO_box, WO_build, WO_bslice, WO_ld, WO_st, WO_nilck, WO_bin, WO_eq, WO_un, WO_cvt, WO_mkf, WO_mks, WO_slc, WO_fad, WO_fld, WO_ixa, WO_ixp, WO_ix, WO_ext, WO_ixs, WO_clr, WO_len, WO_app, WO_min, WO_max, aOp, ev, evs, Am.get, Am.put, putd, keepIn, mem, binA, arith, unA, eqA, eqc, isNil, lenA, idx, bnd, bndO, rdc, AV.cells, AV.leaf, allLeaf, ovw, sliceCells, flatCells, rep, fillA, okDraw, Fp.ok, List.getD, minA, minF, Ex.thn, Ex.blk]
    refine hK _ ?_; clear hK
    simp only [List.length_cons] at hL
    refine mrgKeep (j := []) (out := out) (N := N) hf hk (.inl rfl) hN ho (by omega) ?_
    intro o' H' j' hj' hN' hbl ho'
    simp only [Ex.blk, Ex.thn]
    refine ih _ _ _ _ H' j' hj' hN' (hx.heap hbl) (hnexty H' (hbl _ hby)) ho' (by split <;> (try simp) <;> omega) ?_
    rw [mrg] at hr
    rw [← hr]
    unfold put1
    split <;> simp
  | case4 z r u s hlt ih =>
    intro out x y o H j hj hN hx hy ho hL hr
    have k1 : z ≤ u := by omega
    have k2 : ¬ u ≤ z := by omega
    obtain ⟨blx, offx, csx, morex, rfl, hbx, hcsx, hdx, hnextx⟩ := hx.cons
    have lx : lenA (.sl 1 blx offx (r.length + 1)) = some (r.length + 1) := rfl
    have gx1 : (0 : Int) < (r.length : Int) + 1 := by omega
    have gx2 : (0 : Int) ≤ (r.length : Int) := by omega
    have gx3 : (1 : Int) ≤ (r.length : Int) + 1 := by omega
    have gx4 : ¬ ((r.length : Int) + 1 = 0) := by omega
    have hatx : csx[offx]? = some (.int .i64 z) := by
      have := congrArg List.head? hdx
      simpa using this
    obtain ⟨bly, offy, csy, morey, rfl, hby, hcsy, hdy, hnexty⟩ := hy.cons
    have ly : lenA (.sl 1 bly offy (s.length + 1)) = some (s.length + 1) := rfl
    have gy1 : (0 : Int) < (s.length : Int) + 1 := by omega
    have gy2 : (0 : Int) ≤ (s.length : Int) := by omega
    have gy3 : (1 : Int) ≤ (s.length : Int) + 1 := by omega
    have gy4 : ¬ ((s.length : Int) + 1 = 0) := by omega
    have haty : csy[offy]? = some (.int .i64 u) := by
      have := congrArg List.head? hdy
      simpa using this
    refine W_loop ?_
    simp only [lNodesetMergedIntX0]
    refine W_seq fun K hK => ?_
    refine W_seq fun K hK => mrg6 hj hx.len hy.len ?_
    refine hK _ ?_; clear hK
    refine W_condT (by simp [ev, Am.get]) ?_
    refine W_skip ?_
    refine hK _ ?_; clear hK
    refine W_blk ?_
    refine W_seq fun K hK => W_reg ?_; simp [rNodesetMergedIntX7, k1, k2, lx, gx1, gx2, gx3, gx4, hcsx, hdx, hatx, ly, gy1, gy2, gy3, gy4, hcsy, hdy, haty, ints, WO_nil_iff, WO_grd, flatCells_ints, allLeaf_ints, WO_mv, WO_pick, WO_new, WO_box, WO_build, WO_bslice, WO_ld, WO_st, WO_nilck, WO_bin, WO_eq, WO_un, WO_cvt, WO_mkf, WO_mks, WO_slc, WO_fad, WO_fld, WO_ixa, WO_ixp, WO_ix, WO_ext, WO_ixs, WO_clr, WO_len, WO_app, WO_min, WO_max, aOp, ev, evs, Am.get, Am.put, putd, keepIn, mem, binA, arith, unA, eqA, eqc, isNil, idx, bnd, bndO, rdc, AV.cells, AV.leaf, allLeaf, ovw, sliceCells, flatCells, rep, fillA, okDraw, Fp.ok, List.getD, minA, minF, Ex.thn, Ex.blk]; refine hK _ ?_; clear hK
    refine W_seq fun K hK => W_reg ?_; simp [rNodesetMergedIntX8, k1, k2, lx, gx1, gx2, gx3, gx4, hcsx, hdx, hatx, ly, gy1, gy2, gy3, gy4, hcsy, hdy, haty, ints, WO_nil_iff, WO_grd, flatCells_ints, allLeaf_ints, WO_mv, WO_pick, WO_new, WO_box, WO_build, WO_bslice, WO_ld, WO_st, WO_nilck, WO_bin, WO_eq, WO_un, WO_cvt, WO_mkf, WO_mks, WO_slc, WO_fad, WO_fld, WO_ixa, WO_ixp, WO_ix, WO_ext, WO_ixs, WO_clr, WO_len, WO_app, WO_min, WO_max, aOp, ev, evs, Am.get, Am.put, putd, keepIn, mem, binA, arith, unA, eqA, eqc, isNil, idx, bnd, bndO, rdc, AV.cells, AV.leaf, allLeaf, ovw, sliceCells, flatCells, rep, fillA, okDraw, Fp.ok, List.getD, minA, minF, Ex.thn, Ex.blk]; refine hK _ ?_; clear hK
    refine W_seq fun K hK => W_reg ?_; simp [rNodesetMergedIntX9, ints, WO_nil_iff, WO_grd, flatCells_ints, allLeaf_ints, WO_mv, WO_pick, WO_new, WO_box, WO_build, WO_bslice, WO_ld, WO_st, WO_nilck, WO_bin, WO_eq, WO_un, WO_cvt, WO_mkf, WO_mks, WO_slc, WO_fad, WO_fld, WO_ixa, WO_ixp, WO_ix, WO_ext, WO_ixs, WO_clr, WO_len, WO_app, WO_min, WO_max, aOp, ev, evs, Am.get, Am.put, putd, keepIn, mem, binA, arith, unA, eqA, eqc, isNil, lenA, idx, bnd, bndO, rdc, AV.cells, AV.leaf, allLeaf, ovw, blk, sliceCells, flatCells, rep, fillA, okDraw, Fp.ok, List.getD, minA, minF, Ex.thn, Ex.blk]; refine hK _ ?_; clear hK
    refine W_seq fun K hK => ?_
    refine W_seq fun K hK => W_reg ?_; simp [rNodesetMergedIntX10, ints, WO_nil_iff, WO_grd, flatCells_ints, allLeaf_ints, WO_mv, WO_pick, WO_new, WO_box, WO_build, WO_bslice, WO_ld, WO_st, WO_nilck, WO_bin, WO_eq, WO_un, WO_cvt, WO_mkf, WO_mks, WO_slc, WO_fad, WO_fld, WO_ixa, WO_ixp, WO_ix, WO_ext, WO_ixs, WO_clr, WO_len, WO_app, WO_min, WO_max, aOp, ev, evs, Am.get, Am.put, putd, keepIn, mem, binA, arith, unA, eqA, eqc, isNil, lenA, idx, bnd, bndO, rdc, AV.cells, AV.leaf, allLeaf, ovw, blk, sliceCells, flatCells, rep, fillA, okDraw, Fp.ok, List.getD, minA, minF, Ex.thn, Ex.blk]; refine hK _ ?_; clear hK
    refine W_condT (by simp [ev, Am.get]) ?_
    refine W_reg ?_; simp [rNodesetMergedIntX11, lx, gx1, gx2, gx3, gx4, hcsx, hdx, hatx, ints, WO_nil_iff, WO_grd, flatCells_ints, allLeaf_ints, WO_mv, WO_pick, WO_new, WO_box, WO_build, WO_bslice, WO_ld, WO_st, WO_nilck, WO_bin, WO_eq, WO_un, WO_cvt, WO_mkf, WO_mks, WO_slc, WO_fad, WO_fld, WO_ixa, WO_ixp, WO_ix, WO_ext, WO_ixs, WO_clr, WO_len, WO_app, WO_min, WO_max, aOp, ev, evs, Am.get, Am.put, putd, keepIn, mem, binA, arith, unA, eqA, eqc, isNil, lenA, idx, bnd, bndO, rdc, AV.cells, AV.leaf, allLeaf, ovw, sliceCells, flatCells, rep, fillA, okDraw, Fp.ok, List.getD, minA, minF, Ex.thn, Ex.blk]
    refine hK _ ?_; clear hK
    refine W_seq fun K hK => ?_
    refine W_seq fun K hK => W_reg ?_; simp [rNodesetMergedIntX12, ints, WO_nil_iff, WO_grd, flatCells_ints, allLeaf_ints, WO_mv, WO_pick, WO_new, WO_box, WO_build, WO_bslice, WO_ld, WO_st, WO_nilck, WO_bin, WO_eq, WO_un, WO_cvt, WO_mkf, WO_mks, WO_slc, WO_fad, WO_fld, WO_ixa, WO_ixp, WO_ix, WO_ext, WO_ixs, WO_clr, WO_len, WO_app, WO_min, WO_max, aOp, ev, evs, Am.get, Am.put, putd, keepIn, mem, binA, arith, unA, eqA, eqc, isNil, lenA, idx, bnd, bndO, rdc, AV.cells, AV.leaf, allLeaf, ovw, blk, sliceCells, flatCells, rep, fillA, okDraw, Fp.ok, List.getD, minA, minF, Ex.thn, Ex.blk]; refine hK _ ?_; clear hK
    refine W_condF (by simp [ev, Am.get]) ?_
    refine W_skip ?_
    refine hK _ ?_; clear hK
    simp only [List.length_cons] at hL
    refine mrgKeep (j := [(71, .bool false)]) (out := out) (N := N) hf hk (.inr rfl) hN ho (by omega) ?_
    intro o' H' j' hj' hN' hbl ho'
    simp only [Ex.blk, Ex.thn]
    refine ih _ _ _ _ H' j' hj' hN' (hnextx H' (hbl _ hbx)) (hy.heap hbl) ho' (by split <;> (try simp) <;> omega) ?_
    rw [mrg, if_pos hlt] at hr
    rw [← hr]
    unfold put1
    split <;> simp
  | case5 z r u s hn hlt ih =>
    intro out x y o H j hj hN hx hy ho hL hr
    have k1 : ¬ z ≤ u := by omega
    have k2 : u ≤ z := by omega
    obtain ⟨blx, offx, csx, morex, rfl, hbx, hcsx, hdx, hnextx⟩ := hx.cons
    have lx : lenA (.sl 1 blx offx (r.length + 1)) = some (r.length + 1) := rfl
    have gx1 : (0 : Int) < (r.length : Int) + 1 := by omega
    have gx2 : (0 : Int) ≤ (r.length : Int) := by omega
    have gx3 : (1 : Int) ≤ (r.length : Int) + 1 := by omega
    have gx4 : ¬ ((r.length : Int) + 1 = 0) := by omega
    have hatx : csx[offx]? = some (.int .i64 z) := by
      have := congrArg List.head? hdx
      simpa using this
    obtain ⟨bly, offy, csy, morey, rfl, hby, hcsy, hdy, hnexty⟩ := hy.cons
    have ly : lenA (.sl 1 bly offy (s.length + 1)) = some (s.length + 1) := rfl
    have gy1 : (0 : Int) < (s.length : Int) + 1 := by omega
    have gy2 : (0 : Int) ≤ (s.length : Int) := by omega
    have gy3 : (1 : Int) ≤ (s.length : Int) + 1 := by omega
    have gy4 : ¬ ((s.length : Int) + 1 = 0) := by omega
    have haty : csy[offy]? = some (.int .i64 u) := by
      have := congrArg List.head? hdy
      simpa using this
    refine W_loop ?_
    simp only [lNodesetMergedIntX0]
    refine W_seq fun K hK => ?_
    refine W_seq fun K hK => mrg6 hj hx.len hy.len ?_
    refine hK _ ?_; clear hK
    refine W_condT (by simp [ev, Am.get]) ?_
    refine W_skip ?_
    refine hK _ ?_; clear hK
    refine W_blk ?_
    refine W_seq fun K hK => W_reg ?_; simp [rNodesetMergedIntX7, k1, k2, lx, gx1, gx2, gx3, gx4, hcsx, hdx, hatx, ly, gy1, gy2, gy3, gy4, hcsy, hdy, haty, ints, WO_nil_iff, WO_grd, flatCells_ints, allLeaf_ints, WO_mv, WO_pick, WO_new, WO_box, WO_build, WO_bslice, WO_ld, WO_st, WO_nilck, WO_bin, WO_eq, WO_un, WO_cvt, WO_mkf, WO_mks, WO_slc, WO_fad, WO_fld, WO_ixa, WO_ixp, WO_ix, WO_ext, WO_ixs, WO_clr, WO_len, WO_app, WO_min, WO_max, aOp, ev, evs, Am.get, Am.put, putd, keepIn, mem, binA, arith, unA, eqA, eqc, isNil, idx, bnd, bndO, rdc, AV.cells, AV.leaf, allLeaf, ovw, sliceCells, flatCells, rep, fillA, okDraw, Fp.ok, List.getD, minA, minF, Ex.thn, Ex.blk]; refine hK _ ?_; clear hK
    refine W_seq fun K hK => W_reg ?_; simp [rNodesetMergedIntX8, k1, k2, lx, gx1, gx2, gx3, gx4, hcsx, hdx, hatx, ly, gy1, gy2, gy3, gy4, hcsy, hdy, haty, ints, WO_nil_iff, WO_grd, flatCells_ints, allLeaf_ints, WO_mv, WO_pick, WO_new, WO_box, WO_build, WO_bslice, WO_ld, WO_st, WO_nilck, WO_bin, WO_eq, WO_un, WO_cvt, WO_mkf, WO_mks, WO_slc, WO_fad, WO_fld, WO_ixa, WO_ixp, WO_ix, WO_ext, WO_ixs, WO_clr, WO_len, WO_app, WO_min, WO_max, aOp, ev, evs, Am.get, Am.put, putd, keepIn, mem, binA, arith, unA, eqA, eqc, isNil, idx, bnd, bndO, rdc, AV.cells, AV.leaf, allLeaf, ovw, sliceCells, flatCells, rep, fillA, okDraw, Fp.ok, List.getD, minA, minF, Ex.thn, Ex.blk]; refine hK _ ?_; clear hK
    refine W_seq fun K hK => W_reg ?_; simp [rNodesetMergedIntX9, ints, WO_nil_iff, WO_grd, flatCells_ints, allLeaf_ints, WO_mv, WO_pick, WO_new, WO_box, WO_build, WO_bslice, WO_ld, WO_st, WO_nilck, WO_bin, WO_eq, WO_un, WO_cvt, WO_mkf, WO_mks, WO_slc, WO_fad, WO_fld, WO_ixa, WO_ixp, WO_ix, WO_ext, WO_ixs, WO_clr, WO_len, WO_app, WO_min, WO_max, aOp, ev, evs, Am.get, Am.put, putd, keepIn, mem, binA, arith, unA, eqA, eqc, isNil, lenA, idx, bnd, bndO, rdc, AV.cells, AV.leaf, allLeaf, ovw, blk, sliceCells, flatCells, rep, fillA, okDraw, Fp.ok, List.getD, minA, minF, Ex.thn, Ex.blk]; refine hK _ ?_; clear hK
    refine W_seq fun K hK => ?_
    refine W_seq fun K hK => W_reg ?_; simp [rNodesetMergedIntX10, ints, WO_nil_iff, WO_grd, flatCells_ints, allLeaf_ints, WO_mv, WO_pick, WO_new, WO_box, WO_build, WO_bslice, WO_ld, WO_st, WO_nilck, WO_bin, WO_eq, WO_un, WO_cvt, WO_mkf, WO_mks, WO_slc, WO_fad, WO_fld, WO_ixa, WO_ixp, WO_ix, WO_ext, WO_ixs, WO_clr, WO_len, WO_app, WO_min, WO_max, aOp, ev, evs, Am.get, Am.put, putd, keepIn, mem, binA, arith, unA, eqA, eqc, isNil, lenA, idx, bnd, bndO, rdc, AV.cells, AV.leaf, allLeaf, ovw, blk, sliceCells, flatCells, rep, fillA, okDraw, Fp.ok, List.getD, minA, minF, Ex.thn, Ex.blk]; refine hK _ ?_; clear hK
    refine W_condF (by simp [ev, Am.get]) ?_
    refine W_skip ?_
    refine hK _ ?_; clear hK
    refine W_seq fun K hK => ?_
    refine W_seq fun K hK => W_reg ?_; simp [rNodesetMergedIntX12, ints, WO_nil_iff, WO_grd, flatCells_ints, allLeaf_ints, WO_mv, WO_pick, WO_new, WO_box, WO_build, WO_bslice, WO_ld, WO_st, WO_nilck, WO_bin, WO_eq, WO_un, WO_cvt, WO_mkf, WO_mks, WO_slc, WO_fad, WO_fld, WO_ixa, WO_ixp, WO_ix, WO_ext, WO_ixs, WO_clr, WO_len, WO_app, WO_min, WO_max, aOp, ev, evs, Am.get, Am.put, putd, keepIn, mem, binA, arith, unA, eqA, eqc, isNil, lenA, idx, bnd, bndO, rdc, AV.cells, AV.leaf, allLeaf, ovw, blk, sliceCells, flatCells, rep, fillA, okDraw, Fp.ok, List.getD, minA, minF, Ex.thn, Ex.blk]; refine hK _ ?_; clear hK
    refine W_condT (by simp [ev, Am.get]) ?_
    refine W_reg ?_; simp [rNodesetMergedIntX13, ly, gy1, gy2, gy3, gy4, hcsy, hdy, haty, ints, WO_nil_iff, WO_grd, flatCells_ints, allLeaf_ints, WO_mv, WO_pick, WO_new, WO_box, WO_build, WO_bslice, WO_ld, WO_st, WO_nilck, WO_bin, WO_eq, WO_un, WO_cvt, WO_mkf, WO_mks, WO_slc, WO_fad, WO_fld, WO_ixa, WO_ixp, WO_ix, WO_ext, WO_ixs, WO_clr, WO_len, WO_app, WO_min, WO_max, aOp, ev, evs, Am.get, Am.put, putd, keepIn, mem, binA, arith, unA, eqA, eqc, isNil, lenA, idx, bnd, bndO, rdc, AV.cells, AV.leaf, allLeaf, ovw, sliceCells, flatCells, rep, fillA, okDraw, Fp.ok, List.getD, minA, minF, Ex.thn, Ex.blk]
    refine hK _ ?_; clear hK
    simp only [List.length_cons] at hL
    refine mrgKeep (j := []) (out := out) (N := N) hf hk (.inl rfl) hN ho (by omega) ?_
    intro o' H' j' hj' hN' hbl ho'
    simp only [Ex.blk, Ex.thn]
    refine ih _ _ _ _ H' j' hj' hN' (hx.heap hbl) (hnexty H' (hbl _ hby)) ho' (by split <;> (try simp) <;> omega) ?_
    rw [mrg, if_neg hn, if_pos hlt] at hr
    rw [← hr]
    unfold put1
    split <;> simp
  | case6 z r u s hn hn2 ih =>
    intro out x y o H j hj hN hx hy ho hL hr
    obtain rfl : z = u := by omega
    obtain ⟨blx, offx, csx, morex, rfl, hbx, hcsx, hdx, hnextx⟩ := hx.cons
    have lx : lenA (.sl 1 blx offx (r.length + 1)) = some (r.length + 1) := rfl
    have gx1 : (0 : Int) < (r.length : Int) + 1 := by omega
    have gx2 : (0 : Int) ≤ (r.length : Int) := by omega
    have gx3 : (1 : Int) ≤ (r.length : Int) + 1 := by omega
    have gx4 : ¬ ((r.length : Int) + 1 = 0) := by omega
    have hatx : csx[offx]? = some (.int .i64 z) := by
      have := congrArg List.head? hdx
      simpa using this
    obtain ⟨bly, offy, csy, morey, rfl, hby, hcsy, hdy, hnexty⟩ := hy.cons
    have ly : lenA (.sl 1 bly offy (s.length + 1)) = some (s.length + 1) := rfl
    have gy1 : (0 : Int) < (s.length : Int) + 1 := by omega
    have gy2 : (0 : Int) ≤ (s.length : Int) := by omega
    have gy3 : (1 : Int) ≤ (s.length : Int) + 1 := by omega
    have gy4 : ¬ ((s.length : Int) + 1 = 0) := by omega
    have haty : csy[offy]? = some (.int .i64 z) := by
      have := congrArg List.head? hdy
      simpa using this
    refine W_loop ?_
    simp only [lNodesetMergedIntX0]
    refine W_seq fun K hK => ?_
    refine W_seq fun K hK => mrg6 hj hx.len hy.len ?_
    refine hK _ ?_; clear hK
    refine W_condT (by simp [ev, Am.get]) ?_
    refine W_skip ?_
    refine hK _ ?_; clear hK
    refine W_blk ?_
    refine W_seq fun K hK => W_reg ?_; simp [rNodesetMergedIntX7, lx, gx1, gx2, gx3, gx4, hcsx, hdx, hatx, ly, gy1, gy2, gy3, gy4, hcsy, hdy, haty, ints, WO_nil_iff, WO_grd, flatCells_ints, allLeaf_ints, WO_mv, WO_pick, WO_new, WO_box, WO_build, WO_bslice, WO_ld, WO_st, WO_nilck, WO_bin, WO_eq, WO_un, WO_cvt, WO_mkf, WO_mks, WO_slc, WO_fad, WO_fld, WO_ixa, WO_ixp, WO_ix, WO_ext, WO_ixs, WO_clr, WO_len, WO_app, WO_min, WO_max, aOp, ev, evs, Am.get, Am.put, putd, keepIn, mem, binA, arith, unA, eqA, eqc, isNil, idx, bnd, bndO, rdc, AV.cells, AV.leaf, allLeaf, ovw, sliceCells, flatCells, rep, fillA, okDraw, Fp.ok, List.getD, minA, minF, Ex.thn, Ex.blk]; refine hK _ ?_; clear hK
    refine W_seq fun K hK => W_reg ?_; simp [rNodesetMergedIntX8, lx, gx1, gx2, gx3, gx4, hcsx, hdx, hatx, ly, gy1, gy2, gy3, gy4, hcsy, hdy, haty, ints, WO_nil_iff, WO_grd, flatCells_ints, allLeaf_ints, WO_mv, WO_pick, WO_new, WO_box, WO_build, WO_bslice, WO_ld, WO_st, WO_nilck, WO_bin, WO_eq, WO_un, WO_cvt, WO_mkf, WO_mks, WO_slc, WO_fad, WO_fld, WO_ixa, WO_ixp, WO_ix, WO_ext, WO_ixs, WO_clr, WO_len, WO_app, WO_min, WO_max, aOp, ev, evs, Am.get, Am.put, putd, keepIn, mem, binA, arith, unA, eqA, eqc, isNil, idx, bnd, bndO, rdc, AV.cells, AV.leaf, allLeaf, ovw, sliceCells, flatCells, rep, fillA, okDraw, Fp.ok, List.getD, minA, minF, Ex.thn, Ex.blk]; refine hK _ ?_; clear hK
    refine W_seq fun K hK => W_reg ?_; simp [rNodesetMergedIntX9, ints, WO_nil_iff, WO_grd, flatCells_ints, allLeaf_ints, WO_mv, WO_pick, WO_new, WO_box, WO_build, WO_bslice, WO_ld, WO_st, WO_nilck, WO_bin, WO_eq, WO_un, WO_cvt, WO_mkf, WO_mks, WO_slc, WO_fad, WO_fld, WO_ixa, WO_ixp, WO_ix, WO_ext, WO_ixs, WO_clr, WO_len, WO_app, WO_min, WO_max, aOp, ev, evs, Am.get, Am.put, putd, keepIn, mem, binA, arith, unA, eqA, eqc, isNil, lenA, idx, bnd, bndO, rdc, AV.cells, AV.leaf, allLeaf, ovw, blk, sliceCells, flatCells, rep, fillA, okDraw, Fp.ok, List.getD, minA, minF, Ex.thn, Ex.blk]; refine hK _ ?_; clear hK
    refine W_seq fun K hK => ?_
    refine W_seq fun K hK => W_reg ?_; simp [rNodesetMergedIntX10, ints, WO_nil_iff, WO_grd, flatCells_ints, allLeaf_ints, WO_mv, WO_pick, WO_new, WO_box, WO_build, WO_bslice, WO_ld, WO_st, WO_nilck, WO_bin, WO_eq, WO_un, WO_cvt, WO_mkf, WO_mks, WO_slc, WO_fad, WO_fld, WO_ixa, WO_ixp, WO_ix, WO_ext, WO_ixs, WO_clr, WO_len, WO_app, WO_min, WO_max, aOp, ev, evs, Am.get, Am.put, putd, keepIn, mem, binA, arith, unA, eqA, eqc, isNil, lenA, idx, bnd, bndO, rdc, AV.cells, AV.leaf, allLeaf, ovw, blk, sliceCells, flatCells, rep, fillA, okDraw, Fp.ok, List.getD, minA, minF, Ex.thn, Ex.blk]; refine hK _ ?_; clear hK
    refine W_condT (by simp [ev, Am.get]) ?_
    refine W_reg ?_; simp [rNodesetMergedIntX11, lx, gx1, gx2, gx3, gx4, hcsx, hdx, hatx, ints, WO_nil_iff, WO_grd, flatCells_ints, allLeaf_ints, WO_mv, WO_pick, WO_new, WO_box, WO_build, WO_bslice, WO_ld, WO_st, WO_nilck, WO_bin, WO_eq, WO_un, WO_cvt, WO_mkf, WO_mks, WO_slc, WO_fad, WO_fld, WO_ixa, WO_ixp, WO_ix, WO_ext, WO_ixs, WO_clr, WO_len, WO_app, WO_min, WO_max, aOp, ev, evs, Am.get, Am.put, putd, keepIn, mem, binA, arith, unA, eqA, eqc, isNil, lenA, idx, bnd, bndO, rdc, AV.cells, AV.leaf, allLeaf, ovw, sliceCells, flatCells, rep, fillA, okDraw, Fp.ok, List.getD, minA, minF, Ex.thn, Ex.blk]
    refine hK _ ?_; clear hK
    refine W_seq fun K hK => ?_
    refine W_seq fun K hK => W_reg ?_; simp [rNodesetMergedIntX12, ints, WO_nil_iff, WO_grd, flatCells_ints, allLeaf_ints, WO_mv, WO_pick, WO_new, WO_box, WO_build, WO_bslice, WO_ld, WO_st, WO_nilck, WO_bin, WO_eq, WO_un, WO_cvt, WO_mkf, WO_mks, WO_slc, WO_fad, WO_fld, WO_ixa, WO_ixp, WO_ix, WO_ext, WO_ixs, WO_clr, WO_len, WO_app, WO_min, WO_max, aOp, ev, evs, Am.get, Am.put, putd, keepIn, mem, binA, arith, unA, eqA, eqc, isNil, lenA, idx, bnd, bndO, rdc, AV.cells, AV.leaf, allLeaf, ovw, blk, sliceCells, flatCells, rep, fillA, okDraw, Fp.ok, List.getD, minA, minF, Ex.thn, Ex.blk]; refine hK _ ?_; clear hK
    refine W_condT (by simp [ev, Am.get]) ?_
    refine W_reg ?_; simp [rNodesetMergedIntX13, ly, gy1, gy2, gy3, gy4, hcsy, hdy, haty, ints, WO_nil_iff, WO_grd, flatCells_ints, allLeaf_ints, WO_mv, WO_pick, WO_new, WO_box, WO_build, WO_bslice, WO_ld, WO_st, WO_nilck, WO_bin, WO_eq, WO_un, WO_cvt, WO_mkf, WO_mks, WO_slc, WO_fad, WO_fld, WO_ixa, WO_ixp, WO_ix, WO_ext, WO_ixs, WO_clr, WO_len, WO_app, WO_min, WO_max, aOp, ev, evs, Am.get, Am.put, putd, keepIn, mem, binA, arith, unA, eqA, eqc, isNil, lenA, idx, bnd, bndO, rdc, AV.cells, AV.leaf, allLeaf, ovw, sliceCells, flatCells, rep, fillA, okDraw, Fp.ok, List.getD, minA, minF, Ex.thn, Ex.blk]
    refine hK _ ?_; clear hK
    simp only [List.length_cons] at hL
    refine mrgKeep (j := []) (out := out) (N := N) hf hk (.inl rfl) hN ho (by omega) ?_
    intro o' H' j' hj' hN' hbl ho'
    simp only [Ex.blk, Ex.thn]
    refine ih _ _ _ _ H' j' hj' hN' (hnextx H' (hbl _ hbx)) (hnexty H' (hbl _ hby)) ho' (by split <;> (try simp) <;> omega) ?_
    rw [mrg, if_neg hn, if_neg hn2] at hr
    rw [← hr]
    unfold put1
    split <;> simp
end Go.AmP
