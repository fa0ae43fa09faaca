/- degree.realise in the older machine: the first loop, the whole. -/
import Derived.Test.YtjfdniggjdnkiaaRzB
set_option linter.unusedSimpArgs false
set_option linter.unusedVariables false
set_option maxRecDepth 100000
namespace Go.AmP
open Go.Am
open Go.Bm (pr2 cfM isortC isortC_perm isortC_length inn otr needs rz fl fl_len fl_app fl_drop fl_set Cel)
theorem needs_snoc (P : List Int) (d : Int) : needs (P ++ [d]) = needs P ++ [((P.length : Int), d)] := by
  simp [needs, List.zipIdx_append]
theorem needs_len (P : List Int) : (needs P).length = P.length := by simp [needs]
theorem need_loop (l : List Int) (hl : l.length ≤ 64) (Q : Ex → St → Prop) : ∀ (R P : List Int) (x : AV) (H : Heap), l = P ++ R → Ot H x (needs P) →
    (if R.all (fun d => decide (0 ≤ d ∧ d < (l.length : Int))) = true then ∀ H' x', Ot H' x' (needs l) → Q (.exit 0) ⟨[(0, ints l), (4, x'), (10, ints l), (11, .int .i64 l.length), (12, .int .i64 l.length), (13, .bool false)], H'⟩
      else ∀ H', Q .ret ⟨[(2, .nils), (3, .bool false)], H'⟩) →
    W cfgR (.loop lDegreeRealiseX0) ⟨[(0, ints l), (4, x), (10, ints l), (11, .int .i64 l.length), (12, .int .i64 P.length)], H⟩ Q
  | [], P, x, H, hP, hx, hQ => by
    obtain rfl : l = P := by simpa using hP
    simp only [List.all_nil, if_true] at hQ
    refine W_loop ?_
    simp only [lDegreeRealiseX0]
    refine W_seq fun K hK => W_reg ?_; simp [rDegreeRealiseX3, WO_nil_iff, WO_grd, flatCells_ints, allLeaf_ints, WO_mv, WO_pick, WO_new, WO_box, WO_build, WO_bslice, WO_ld, WO_st, WO_nilck, WO_bin, WO_eq, WO_un, WO_cvt, WO_mkf, WO_mks, WO_slc, WO_fad, WO_fld, WO_ixa, WO_ixp, WO_ix, WO_ext, WO_ixs, WO_clr, WO_len, WO_app, WO_min, WO_max, aOp, ev, evs, Am.get, Am.put, putd, keepIn, mem, binA, arith, unA, eqA, eqc, isNil, lenA, idx, bnd, bndO, rdc, AV.cells, AV.leaf, allLeaf, ovw, blk, sliceCells, flatCells, rep, fillA, okDraw, Fp.ok, List.getD, minA, minF, Ex.thn, Ex.blk]; refine hK _ ?_; clear hK
    refine W_seq fun K hK => ?_
    refine W_condF (by simp [ev, Am.get]) ?_
    refine W_exit ?_
    have := hQ H x hx
    simpa [Ex.thn] using this
  | d :: R, P, x, H, hP, hx, hQ => by
    have hlen : l.length = P.length + (R.length + 1) := by rw [hP]; simp
    have g1 : (P.length : Int) < (l.length : Int) := by omega
    have g0 : (0 : Int) ≤ (P.length : Int) := by omega
    have gl : P.length < l.length := by omega
    have wi : IntKind.i64.wrap ((P.length : Int) + 1) = (P.length : Int) + 1 := wrap_i64 (by omega) (by omega)
    have hat : l[P.length]? = some d := by rw [hP]; simp
    have hll : lenA (ints l) = some l.length := by simp [ints, lenA]
    refine W_loop ?_
    simp only [lDegreeRealiseX0]
    refine W_seq fun K hK => W_reg ?_; simp [rDegreeRealiseX3, g1, WO_nil_iff, WO_grd, flatCells_ints, allLeaf_ints, WO_mv, WO_pick, WO_new, WO_box, WO_build, WO_bslice, WO_ld, WO_st, WO_nilck, WO_bin, WO_eq, WO_un, WO_cvt, WO_mkf, WO_mks, WO_slc, WO_fad, WO_fld, WO_ixa, WO_ixp, WO_ix, WO_ext, WO_ixs, WO_clr, WO_len, WO_app, WO_min, WO_max, aOp, ev, evs, Am.get, Am.put, putd, keepIn, mem, binA, arith, unA, eqA, eqc, isNil, lenA, idx, bnd, bndO, rdc, AV.cells, AV.leaf, allLeaf, ovw, blk, sliceCells, flatCells, rep, fillA, okDraw, Fp.ok, List.getD, minA, minF, Ex.thn, Ex.blk]; refine hK _ ?_; clear hK
    refine W_seq fun K hK => ?_
    refine W_condT (by simp [ev, Am.get]) ?_
    refine W_skip ?_
    refine hK _ ?_; clear hK
    refine W_seq fun K hK => ?_
    refine W_blk ?_
    refine W_seq fun K hK => W_reg ?_; simp [rDegreeRealiseX4, g0, g1, hat, List.length_map, List.getElem?_map, Option.map_some, ints, WO_nil_iff, WO_grd, flatCells_ints, allLeaf_ints, WO_mv, WO_pick, WO_new, WO_box, WO_build, WO_bslice, WO_ld, WO_st, WO_nilck, WO_bin, WO_eq, WO_un, WO_cvt, WO_mkf, WO_mks, WO_slc, WO_fad, WO_fld, WO_ixa, WO_ixp, WO_ix, WO_ext, WO_ixs, WO_clr, WO_len, WO_app, WO_min, WO_max, aOp, ev, evs, Am.get, Am.put, putd, keepIn, mem, binA, arith, unA, eqA, eqc, isNil, lenA, idx, bnd, bndO, rdc, AV.cells, AV.leaf, allLeaf, ovw, blk, sliceCells, flatCells, rep, fillA, okDraw, Fp.ok, List.getD, minA, minF, Ex.thn, Ex.blk]; refine hK _ ?_; clear hK
    refine W_seq fun K hK => ?_
    by_cases h1 : d < 0
    · have hd : ¬ (0 ≤ d ∧ d < (l.length : Int)) := by omega
      simp only [List.all_cons, hd, decide_false, Bool.false_and, Bool.false_eq_true, if_false] at hQ
      refine W_seq fun K hK => W_reg ?_; simp [rDegreeRealiseX5, h1, List.length_map, ints, WO_nil_iff, WO_grd, flatCells_ints, allLeaf_ints, WO_mv, WO_pick, WO_new, WO_box, WO_build, WO_bslice, WO_ld, WO_st, WO_nilck, WO_bin, WO_eq, WO_un, WO_cvt, WO_mkf, WO_mks, WO_slc, WO_fad, WO_fld, WO_ixa, WO_ixp, WO_ix, WO_ext, WO_ixs, WO_clr, WO_len, WO_app, WO_min, WO_max, aOp, ev, evs, Am.get, Am.put, putd, keepIn, mem, binA, arith, unA, eqA, eqc, isNil, lenA, idx, bnd, bndO, rdc, AV.cells, AV.leaf, allLeaf, ovw, blk, sliceCells, flatCells, rep, fillA, okDraw, Fp.ok, List.getD, minA, minF, Ex.thn, Ex.blk]; refine hK _ ?_; clear hK
      refine W_condT (by simp [ev, Am.get]) ?_
      refine W_seq fun K hK => W_reg ?_; simp [rDegreeRealiseX6, ints, WO_nil_iff, WO_grd, flatCells_ints, allLeaf_ints, WO_mv, WO_pick, WO_new, WO_box, WO_build, WO_bslice, WO_ld, WO_st, WO_nilck, WO_bin, WO_eq, WO_un, WO_cvt, WO_mkf, WO_mks, WO_slc, WO_fad, WO_fld, WO_ixa, WO_ixp, WO_ix, WO_ext, WO_ixs, WO_clr, WO_len, WO_app, WO_min, WO_max, aOp, ev, evs, Am.get, Am.put, putd, keepIn, mem, binA, arith, unA, eqA, eqc, isNil, lenA, idx, bnd, bndO, rdc, AV.cells, AV.leaf, allLeaf, ovw, blk, sliceCells, flatCells, rep, fillA, okDraw, Fp.ok, List.getD, minA, minF, Ex.thn, Ex.blk]; refine hK _ ?_; clear hK
      refine W_ret ?_
      simpa [Ex.thn, Ex.blk] using hQ H
    · by_cases h2 : (l.length : Int) ≤ d
      · have hd : ¬ (0 ≤ d ∧ d < (l.length : Int)) := by omega
        simp only [List.all_cons, hd, decide_false, Bool.false_and, Bool.false_eq_true, if_false] at hQ
        refine W_seq fun K hK => W_reg ?_; simp [rDegreeRealiseX5, h1, h2, List.length_map, ints, WO_nil_iff, WO_grd, flatCells_ints, allLeaf_ints, WO_mv, WO_pick, WO_new, WO_box, WO_build, WO_bslice, WO_ld, WO_st, WO_nilck, WO_bin, WO_eq, WO_un, WO_cvt, WO_mkf, WO_mks, WO_slc, WO_fad, WO_fld, WO_ixa, WO_ixp, WO_ix, WO_ext, WO_ixs, WO_clr, WO_len, WO_app, WO_min, WO_max, aOp, ev, evs, Am.get, Am.put, putd, keepIn, mem, binA, arith, unA, eqA, eqc, isNil, lenA, idx, bnd, bndO, rdc, AV.cells, AV.leaf, allLeaf, ovw, blk, sliceCells, flatCells, rep, fillA, okDraw, Fp.ok, List.getD, minA, minF, Ex.thn, Ex.blk]; refine hK _ ?_; clear hK
        refine W_condT (by simp [ev, Am.get]) ?_
        refine W_seq fun K hK => W_reg ?_; simp [rDegreeRealiseX6, ints, WO_nil_iff, WO_grd, flatCells_ints, allLeaf_ints, WO_mv, WO_pick, WO_new, WO_box, WO_build, WO_bslice, WO_ld, WO_st, WO_nilck, WO_bin, WO_eq, WO_un, WO_cvt, WO_mkf, WO_mks, WO_slc, WO_fad, WO_fld, WO_ixa, WO_ixp, WO_ix, WO_ext, WO_ixs, WO_clr, WO_len, WO_app, WO_min, WO_max, aOp, ev, evs, Am.get, Am.put, putd, keepIn, mem, binA, arith, unA, eqA, eqc, isNil, lenA, idx, bnd, bndO, rdc, AV.cells, AV.leaf, allLeaf, ovw, blk, sliceCells, flatCells, rep, fillA, okDraw, Fp.ok, List.getD, minA, minF, Ex.thn, Ex.blk]; refine hK _ ?_; clear hK
        refine W_ret ?_
        simpa [Ex.thn, Ex.blk] using hQ H
      · have hd : 0 ≤ d ∧ d < (l.length : Int) := by omega
        simp only [List.all_cons, hd, and_self, decide_true, Bool.true_and] at hQ
        refine W_seq fun K hK => W_reg ?_; simp [rDegreeRealiseX5, h1, h2, List.length_map, ints, WO_nil_iff, WO_grd, flatCells_ints, allLeaf_ints, WO_mv, WO_pick, WO_new, WO_box, WO_build, WO_bslice, WO_ld, WO_st, WO_nilck, WO_bin, WO_eq, WO_un, WO_cvt, WO_mkf, WO_mks, WO_slc, WO_fad, WO_fld, WO_ixa, WO_ixp, WO_ix, WO_ext, WO_ixs, WO_clr, WO_len, WO_app, WO_min, WO_max, aOp, ev, evs, Am.get, Am.put, putd, keepIn, mem, binA, arith, unA, eqA, eqc, isNil, lenA, idx, bnd, bndO, rdc, AV.cells, AV.leaf, allLeaf, ovw, blk, sliceCells, flatCells, rep, fillA, okDraw, Fp.ok, List.getD, minA, minF, Ex.thn, Ex.blk]; refine hK _ ?_; clear hK
        refine W_condF (by simp [ev, Am.get]) ?_
        refine W_skip ?_
        refine hK _ ?_; clear hK
        have fin : ∀ (x' : AV) (H' : Heap), Ot H' x' (needs (P ++ [d])) → W cfgR (.loop lDegreeRealiseX0) ⟨[(0, ints l), (4, x'), (10, ints l), (11, .int .i64 l.length), (12, .int .i64 ((P.length : Int) + 1))], H'⟩ Q := by
          intro x' H' h'
          have ih := need_loop l hl Q R (P ++ [d]) x' H' (by rw [hP]; simp) h' hQ
          rw [show (((P ++ [d]).length : Nat) : Int) = (P.length : Int) + 1 by simp] at ih
          exact ih
        have hlast : blk (H ++ [some [AV.int .i64 (P.length : Int), AV.int .i64 d]]) H.length = some [AV.int .i64 (P.length : Int), AV.int .i64 d] := blk_last []
        rcases hx with ⟨e, rfl⟩ | ⟨bo, rfl, hbo, hbol⟩
        · refine W_reg ?_; simp [rDegreeRealiseX7, hlast, LIM, ints, WO_nil_iff, WO_grd, flatCells_ints, allLeaf_ints, WO_mv, WO_pick, WO_new, WO_box, WO_build, WO_bslice, WO_ld, WO_st, WO_nilck, WO_bin, WO_eq, WO_un, WO_cvt, WO_mkf, WO_mks, WO_slc, WO_fad, WO_fld, WO_ixa, WO_ixp, WO_ix, WO_ext, WO_ixs, WO_clr, WO_len, WO_app, WO_min, WO_max, aOp, ev, evs, Am.get, Am.put, putd, keepIn, mem, binA, arith, unA, eqA, eqc, isNil, lenA, idx, bnd, bndO, rdc, AV.cells, AV.leaf, allLeaf, ovw, sliceCells, flatCells, rep, fillA, okDraw, Fp.ok, List.getD, minA, minF, Ex.thn, Ex.blk]
          refine hK _ ?_; clear hK
          refine W_reg ?_; simp [rDegreeRealiseX8, wi, ints, WO_nil_iff, WO_grd, flatCells_ints, allLeaf_ints, WO_mv, WO_pick, WO_new, WO_box, WO_build, WO_bslice, WO_ld, WO_st, WO_nilck, WO_bin, WO_eq, WO_un, WO_cvt, WO_mkf, WO_mks, WO_slc, WO_fad, WO_fld, WO_ixa, WO_ixp, WO_ix, WO_ext, WO_ixs, WO_clr, WO_len, WO_app, WO_min, WO_max, aOp, ev, evs, Am.get, Am.put, putd, keepIn, mem, binA, arith, unA, eqA, eqc, isNil, lenA, idx, bnd, bndO, rdc, AV.cells, AV.leaf, allLeaf, ovw, blk, sliceCells, flatCells, rep, fillA, okDraw, Fp.ok, List.getD, minA, minF, Ex.thn, Ex.blk]
          refine fin _ _ (.inr ⟨H.length + 1, ?_, ?_, by simp⟩)
          · rw [needs_snoc, e]; rfl
          · rw [needs_snoc, e]; unfold blk; simp [fl]
        · have hbo2 := blk_ap hbo [some [AV.int .i64 (P.length : Int), AV.int .i64 d]]
          have hlim : (needs P).length + 1 ≤ 4294967296 := by rw [needs_len]; omega
          have ht : List.take ((needs P).length * 2) (fl (needs P)) = fl (needs P) := List.take_of_length_le (by rw [fl_len]; omega)
          refine W_reg ?_; simp [rDegreeRealiseX7, hlast, hbo2, fl_len, hlim, ht, LIM, ints, WO_nil_iff, WO_grd, flatCells_ints, allLeaf_ints, WO_mv, WO_pick, WO_new, WO_box, WO_build, WO_bslice, WO_ld, WO_st, WO_nilck, WO_bin, WO_eq, WO_un, WO_cvt, WO_mkf, WO_mks, WO_slc, WO_fad, WO_fld, WO_ixa, WO_ixp, WO_ix, WO_ext, WO_ixs, WO_clr, WO_len, WO_app, WO_min, WO_max, aOp, ev, evs, Am.get, Am.put, putd, keepIn, mem, binA, arith, unA, eqA, eqc, isNil, lenA, idx, bnd, bndO, rdc, AV.cells, AV.leaf, allLeaf, ovw, sliceCells, flatCells, rep, fillA, okDraw, Fp.ok, List.getD, minA, minF, Ex.thn, Ex.blk]
          refine hK _ ?_; clear hK
          refine W_reg ?_; simp [rDegreeRealiseX8, wi, ints, WO_nil_iff, WO_grd, flatCells_ints, allLeaf_ints, WO_mv, WO_pick, WO_new, WO_box, WO_build, WO_bslice, WO_ld, WO_st, WO_nilck, WO_bin, WO_eq, WO_un, WO_cvt, WO_mkf, WO_mks, WO_slc, WO_fad, WO_fld, WO_ixa, WO_ixp, WO_ix, WO_ext, WO_ixs, WO_clr, WO_len, WO_app, WO_min, WO_max, aOp, ev, evs, Am.get, Am.put, putd, keepIn, mem, binA, arith, unA, eqA, eqc, isNil, lenA, idx, bnd, bndO, rdc, AV.cells, AV.leaf, allLeaf, ovw, blk, sliceCells, flatCells, rep, fillA, okDraw, Fp.ok, List.getD, minA, minF, Ex.thn, Ex.blk]
          refine fin _ _ (.inr ⟨H.length + 1, ?_, ?_, by simp⟩)
          · rw [needs_snoc]; simp
          · rw [needs_snoc]; unfold blk; simp [fl, fl_app]
theorem r64_needs {l : List Int} (hl : l.length ≤ 64) (h : l.all (fun d => decide (0 ≤ d ∧ d < (l.length : Int))) = true) : R64 (needs l) := by
  intro x hx
  unfold needs at hx
  obtain ⟨⟨d, i⟩, hy, rfl⟩ := List.mem_map.1 hx
  obtain ⟨_, h2, e⟩ := List.mem_zipIdx hy
  have hm : d ∈ l := by rw [e]; exact List.getElem_mem _
  have hd := of_decide_eq_true (List.all_eq_true.1 h _ hm)
  simp at hd h2 ⊢
  omega
theorem realise_cl (l : List Int) (hl : l.length ≤ 64) : ∃ H' o, Cl cfgR nDegreeRealise [ints l] [] (.tup [o, .bool (rz l).isSome]) H' ∧ Ot H' o ((rz l).getD []) := by
  have key : W cfgR cDegreeRealise ⟨mkEnv 0 [ints l], []⟩ (fun e s => e = .ret ∧ ∃ o, s.env = [(2, o), (3, .bool (rz l).isSome)] ∧ Ot s.H o ((rz l).getD [])) := by
    simp only [cDegreeRealise, mkEnv]
    have hll : lenA (ints l) = some l.length := by simp [ints, lenA]
    refine W_seq fun K hK => W_reg ?_; simp [rDegreeRealiseX0, WO_nil_iff, WO_grd, flatCells_ints, allLeaf_ints, WO_mv, WO_pick, WO_new, WO_box, WO_build, WO_bslice, WO_ld, WO_st, WO_nilck, WO_bin, WO_eq, WO_un, WO_cvt, WO_mkf, WO_mks, WO_slc, WO_fad, WO_fld, WO_ixa, WO_ixp, WO_ix, WO_ext, WO_ixs, WO_clr, WO_len, WO_app, WO_min, WO_max, aOp, ev, evs, Am.get, Am.put, putd, keepIn, mem, binA, arith, unA, eqA, eqc, isNil, lenA, idx, bnd, bndO, rdc, AV.cells, AV.leaf, allLeaf, ovw, blk, sliceCells, flatCells, rep, fillA, okDraw, Fp.ok, List.getD, minA, minF, Ex.thn, Ex.blk]; refine hK _ ?_; clear hK
    refine W_seq fun K hK => W_reg ?_; simp [rDegreeRealiseX1, WO_nil_iff, WO_grd, flatCells_ints, allLeaf_ints, WO_mv, WO_pick, WO_new, WO_box, WO_build, WO_bslice, WO_ld, WO_st, WO_nilck, WO_bin, WO_eq, WO_un, WO_cvt, WO_mkf, WO_mks, WO_slc, WO_fad, WO_fld, WO_ixa, WO_ixp, WO_ix, WO_ext, WO_ixs, WO_clr, WO_len, WO_app, WO_min, WO_max, aOp, ev, evs, Am.get, Am.put, putd, keepIn, mem, binA, arith, unA, eqA, eqc, isNil, lenA, idx, bnd, bndO, rdc, AV.cells, AV.leaf, allLeaf, ovw, blk, sliceCells, flatCells, rep, fillA, okDraw, Fp.ok, List.getD, minA, minF, Ex.thn, Ex.blk]; refine hK _ ?_; clear hK
    refine W_seq fun K hK => ?_
    refine W_seq fun K hK => W_reg ?_; simp [rDegreeRealiseX2, hll, WO_nil_iff, WO_grd, flatCells_ints, allLeaf_ints, WO_mv, WO_pick, WO_new, WO_box, WO_build, WO_bslice, WO_ld, WO_st, WO_nilck, WO_bin, WO_eq, WO_un, WO_cvt, WO_mkf, WO_mks, WO_slc, WO_fad, WO_fld, WO_ixa, WO_ixp, WO_ix, WO_ext, WO_ixs, WO_clr, WO_len, WO_app, WO_min, WO_max, aOp, ev, evs, Am.get, Am.put, putd, keepIn, mem, binA, arith, unA, eqA, eqc, isNil, idx, bnd, bndO, rdc, AV.cells, AV.leaf, allLeaf, ovw, blk, sliceCells, flatCells, rep, fillA, okDraw, Fp.ok, List.getD, minA, minF, Ex.thn, Ex.blk]; refine hK _ ?_; clear hK
    refine W_blk ?_
    refine need_loop l hl _ l [] .nils [] rfl (.inl ⟨rfl, rfl⟩) ?_
    by_cases ha : l.all (fun d => decide (0 ≤ d ∧ d < (l.length : Int))) = true
    · rw [if_pos ha]
      have hrz : rz l = otr l.length (needs l) [] := by unfold rz; rw [if_pos ha]
      intro H' x' hx'
      simp only [Ex.thn, Ex.blk, if_true]
      refine hK _ ?_; clear hK
      refine W_seq fun K hK => W_reg ?_; simp [rDegreeRealiseX9, WO_nil_iff, WO_grd, flatCells_ints, allLeaf_ints, WO_mv, WO_pick, WO_new, WO_box, WO_build, WO_bslice, WO_ld, WO_st, WO_nilck, WO_bin, WO_eq, WO_un, WO_cvt, WO_mkf, WO_mks, WO_slc, WO_fad, WO_fld, WO_ixa, WO_ixp, WO_ix, WO_ext, WO_ixs, WO_clr, WO_len, WO_app, WO_min, WO_max, aOp, ev, evs, Am.get, Am.put, putd, keepIn, mem, binA, arith, unA, eqA, eqc, isNil, lenA, idx, bnd, bndO, rdc, AV.cells, AV.leaf, allLeaf, ovw, blk, sliceCells, flatCells, rep, fillA, okDraw, Fp.ok, List.getD, minA, minF, Ex.thn, Ex.blk]; refine hK _ ?_; clear hK
      refine W_seq fun K hK => ?_
      refine W_blk ?_
      have hlf : Lf H' x' .nils (needs l) := by
        rcases hx' with ⟨e, rfl⟩ | ⟨b, rfl, hb, _⟩
        · exact .inl ⟨e, rfl⟩
        · exact .inr ⟨b, 0, _, rfl, hb, Cel.whole _, fun c n e => by cases e⟩
      refine otr_loop _ l.length (needs l) [] x' .nils H' [] (.inl rfl) (needs_len l) hl (by simp; omega) (r64_needs hl ha) hlf (.inl ⟨rfl, rfl⟩) ?_
      rw [← hrz]
      cases hr : rz l with
      | none =>
        intro H2
        simp only [Ex.thn, Ex.blk]
        exact ⟨trivial, .nils, rfl, .inl ⟨rfl, rfl⟩⟩
      | some out =>
        intro H2 x2 o2 ho2
        simp only [Ex.thn, Ex.blk, if_true]
        refine hK _ ?_; clear hK
        refine W_seq fun K hK => W_reg ?_; simp [rDegreeRealiseX24, ints, WO_nil_iff, WO_grd, flatCells_ints, allLeaf_ints, WO_mv, WO_pick, WO_new, WO_box, WO_build, WO_bslice, WO_ld, WO_st, WO_nilck, WO_bin, WO_eq, WO_un, WO_cvt, WO_mkf, WO_mks, WO_slc, WO_fad, WO_fld, WO_ixa, WO_ixp, WO_ix, WO_ext, WO_ixs, WO_clr, WO_len, WO_app, WO_min, WO_max, aOp, ev, evs, Am.get, Am.put, putd, keepIn, mem, binA, arith, unA, eqA, eqc, isNil, lenA, idx, bnd, bndO, rdc, AV.cells, AV.leaf, allLeaf, ovw, blk, sliceCells, flatCells, rep, fillA, okDraw, Fp.ok, List.getD, minA, minF, Ex.thn, Ex.blk]; refine hK _ ?_; clear hK
        refine W_ret ?_
        exact ⟨rfl, o2, by rw [hr]; rfl, by rw [hr]; exact ho2⟩
    · rw [if_neg ha]
      have hrz : rz l = none := by unfold rz; rw [if_neg ha]
      rw [hrz]
      intro H'
      simp only [Ex.thn, Ex.blk]
      exact ⟨trivial, .nils, rfl, .inl ⟨rfl, rfl⟩⟩
  obtain ⟨n, e, s, h1, rfl, o, h2, h3⟩ := key
  refine ⟨s.H, o, ⟨n, fun m hm => ?_⟩, h3⟩
  unfold aCall callW
  have g1 : cfgR.orc nDegreeRealise = none := rfl
  have g2 : cfgR.fn nDegreeRealise = some (.P, qDegreeRealise) := rfl
  have g3 : [ints l].length ≤ qDegreeRealise.n := by simp [qDegreeRealise]
  have g4 : qDegreeRealise.body = cDegreeRealise := rfl
  have g5 : qDegreeRealise.res = [.t 2, .t 3] := rfl
  simp only [g1, g2, g3, if_true, g4, h1 m hm, g5, resL, resA, h2, tupOf]
  rfl
end Go.AmP
