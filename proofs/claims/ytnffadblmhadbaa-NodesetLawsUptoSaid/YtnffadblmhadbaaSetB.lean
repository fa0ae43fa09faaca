/- Same, over lists that may be nil. -/
import Derived.Test.YtnffadblmhadbaaSetA
import Derived.Test.YtnffadblmhadbaaCmpS
set_option linter.unusedSimpArgs false
set_option maxRecDepth 100000
namespace Go.AmP
open Go.Am
theorem refCmp_ee {x y : AV} (hx : Emp x) (hy : Emp y) : Pu cfgS nRef02Cmp [x, y] (.int .i64 0) := by
  have lx := (hx.ops []).2.2.2
  have ly := (hy.ops []).2.2.2
  refine Pu.ofW rfl gRef02Cmp (by simp [qRef02Cmp]) ?_; simp only [qRef02Cmp, cRef02Cmp, mkEnv]
  refine W_seq fun K hK => W_reg ?_; simp [rRef02CmpX0, ints, WO_nil_iff, WO_grd, flatCells_ints, allLeaf_ints, WO_mv, WO_pick, WO_new, WO_box, WO_build, WO_bslice, WO_ld, WO_st, WO_nilck, WO_bin, WO_eq, WO_un, WO_cvt, WO_mkf, WO_mks, WO_slc, WO_fad, WO_fld, WO_ixa, WO_ixp, WO_ix, WO_ext, WO_ixs, WO_clr, WO_len, WO_app, WO_min, WO_max, aOp, ev, evs, Am.get, Am.put, putd, keepIn, mem, binA, arith, unA, eqA, eqc, isNil, lenA, idx, bnd, bndO, rdc, AV.cells, AV.leaf, allLeaf, ovw, blk, sliceCells, flatCells, rep, fillA, okDraw, Fp.ok, List.getD, minA, minF, Ex.thn, Ex.blk]; refine hK _ ?_; clear hK
  refine W_seq fun K hK => ?_; refine W_seq fun K hK => W_reg ?_; simp [rRef02CmpX1, lx, ints, WO_nil_iff, WO_grd, flatCells_ints, allLeaf_ints, WO_mv, WO_pick, WO_new, WO_box, WO_build, WO_bslice, WO_ld, WO_st, WO_nilck, WO_bin, WO_eq, WO_un, WO_cvt, WO_mkf, WO_mks, WO_slc, WO_fad, WO_fld, WO_ixa, WO_ixp, WO_ix, WO_ext, WO_ixs, WO_clr, WO_len, WO_app, WO_min, WO_max, aOp, ev, evs, Am.get, Am.put, putd, keepIn, mem, binA, arith, unA, eqA, eqc, isNil, idx, bnd, bndO, rdc, AV.cells, AV.leaf, allLeaf, ovw, blk, sliceCells, flatCells, rep, fillA, okDraw, Fp.ok, List.getD, minA, minF, Ex.thn, Ex.blk]; refine hK _ ?_; clear hK
  refine W_blk ?_
  refine W_loop ?_
  simp only [lRef02CmpX0]
  refine W_seq fun K hK => W_reg ?_; simp [rRef02CmpX2, ints, WO_nil_iff, WO_grd, flatCells_ints, allLeaf_ints, WO_mv, WO_pick, WO_new, WO_box, WO_build, WO_bslice, WO_ld, WO_st, WO_nilck, WO_bin, WO_eq, WO_un, WO_cvt, WO_mkf, WO_mks, WO_slc, WO_fad, WO_fld, WO_ixa, WO_ixp, WO_ix, WO_ext, WO_ixs, WO_clr, WO_len, WO_app, WO_min, WO_max, aOp, ev, evs, Am.get, Am.put, putd, keepIn, mem, binA, arith, unA, eqA, eqc, isNil, lenA, idx, bnd, bndO, rdc, AV.cells, AV.leaf, allLeaf, ovw, blk, sliceCells, flatCells, rep, fillA, okDraw, Fp.ok, List.getD, minA, minF, Ex.thn, Ex.blk]; refine hK _ ?_; clear hK
  refine W_seq fun K hK => ?_; clear hK; refine W_condF (by simp [ev, Am.get]) ?_; refine W_exit ?_
  simp only [Ex.blk, if_true, Ex.thn]
  refine hK _ ?_; clear hK
  refine W_seq fun K hK => ?_; refine W_seq fun K hK => W_reg ?_; simp [rRef02CmpX9, lx, ly, ints, WO_nil_iff, WO_grd, flatCells_ints, allLeaf_ints, WO_mv, WO_pick, WO_new, WO_box, WO_build, WO_bslice, WO_ld, WO_st, WO_nilck, WO_bin, WO_eq, WO_un, WO_cvt, WO_mkf, WO_mks, WO_slc, WO_fad, WO_fld, WO_ixa, WO_ixp, WO_ix, WO_ext, WO_ixs, WO_clr, WO_len, WO_app, WO_min, WO_max, aOp, ev, evs, Am.get, Am.put, putd, keepIn, mem, binA, arith, unA, eqA, eqc, isNil, idx, bnd, bndO, rdc, AV.cells, AV.leaf, allLeaf, ovw, blk, sliceCells, flatCells, rep, fillA, okDraw, Fp.ok, List.getD, minA, minF, Ex.thn, Ex.blk]; refine hK _ ?_; clear hK; refine W_condF (by simp [ev, Am.get]) ?_; refine W_skip ?_; refine hK _ ?_; clear hK
  refine W_seq fun K hK => W_reg ?_; simp [rRef02CmpX11, ints, WO_nil_iff, WO_grd, flatCells_ints, allLeaf_ints, WO_mv, WO_pick, WO_new, WO_box, WO_build, WO_bslice, WO_ld, WO_st, WO_nilck, WO_bin, WO_eq, WO_un, WO_cvt, WO_mkf, WO_mks, WO_slc, WO_fad, WO_fld, WO_ixa, WO_ixp, WO_ix, WO_ext, WO_ixs, WO_clr, WO_len, WO_app, WO_min, WO_max, aOp, ev, evs, Am.get, Am.put, putd, keepIn, mem, binA, arith, unA, eqA, eqc, isNil, lenA, idx, bnd, bndO, rdc, AV.cells, AV.leaf, allLeaf, ovw, blk, sliceCells, flatCells, rep, fillA, okDraw, Fp.ok, List.getD, minA, minF, Ex.thn, Ex.blk]; refine hK _ ?_; clear hK
  refine W_ret ?_; simp [Ex.thn, Ex.blk, resL, resA, Am.get, tupOf, frz, DEEP]
theorem IsInts.lenA {x : AV} {a : List Int} (h : IsInts x a) : Am.lenA x = some a.length := by
  rcases h with rfl | ⟨rfl, rfl⟩
  · simp [ints, Am.lenA]
  · rfl
theorem same_pu {x y : AV} {a b : List Int} (hx : IsInts x a) (hy : IsInts y b) (hl : a.length ≤ 9223372036854775807) : Pu cfgS nRef02Same [x, y] (.bool (decide (a = b))) := by
  have lx := hx.lenA
  have ly := hy.lenA
  refine Pu.ofW rfl gRef02Same (by simp [qRef02Same]) ?_; simp only [qRef02Same, cRef02Same, mkEnv]
  refine W_seq fun K hK => W_reg ?_; simp [rRef02SameX0, ints, WO_nil_iff, WO_grd, flatCells_ints, allLeaf_ints, WO_mv, WO_pick, WO_new, WO_box, WO_build, WO_bslice, WO_ld, WO_st, WO_nilck, WO_bin, WO_eq, WO_un, WO_cvt, WO_mkf, WO_mks, WO_slc, WO_fad, WO_fld, WO_ixa, WO_ixp, WO_ix, WO_ext, WO_ixs, WO_clr, WO_len, WO_app, WO_min, WO_max, aOp, ev, evs, Am.get, Am.put, putd, keepIn, mem, binA, arith, unA, eqA, eqc, isNil, lenA, idx, bnd, bndO, rdc, AV.cells, AV.leaf, allLeaf, ovw, blk, sliceCells, flatCells, rep, fillA, okDraw, Fp.ok, List.getD, minA, minF, Ex.thn, Ex.blk]; refine hK _ ?_; clear hK
  by_cases h : a.length = b.length
  · by_cases ha : a = []
    · subst ha
      have hb : b = [] := List.length_eq_zero_iff.mp h.symm
      subst hb
      refine W_seq fun K hK => W_reg ?_; simp [rRef02SameX1, lx, ly, ints, WO_nil_iff, WO_grd, flatCells_ints, allLeaf_ints, WO_mv, WO_pick, WO_new, WO_box, WO_build, WO_bslice, WO_ld, WO_st, WO_nilck, WO_bin, WO_eq, WO_un, WO_cvt, WO_mkf, WO_mks, WO_slc, WO_fad, WO_fld, WO_ixa, WO_ixp, WO_ix, WO_ext, WO_ixs, WO_clr, WO_len, WO_app, WO_min, WO_max, aOp, ev, evs, Am.get, Am.put, putd, keepIn, mem, binA, arith, unA, eqA, eqc, isNil, idx, bnd, bndO, rdc, AV.cells, AV.leaf, allLeaf, ovw, blk, sliceCells, flatCells, rep, fillA, okDraw, Fp.ok, List.getD, minA, minF, Ex.thn, Ex.blk]
      refine WO_callP gRef02Cmp (by simp [evs, ev, Am.get, plainL, hx.plain, hy.plain]) (refCmp_ee hx.emp hy.emp) ?_
      simp [ints, WO_nil_iff, WO_grd, flatCells_ints, allLeaf_ints, WO_mv, WO_pick, WO_new, WO_box, WO_build, WO_bslice, WO_ld, WO_st, WO_nilck, WO_bin, WO_eq, WO_un, WO_cvt, WO_mkf, WO_mks, WO_slc, WO_fad, WO_fld, WO_ixa, WO_ixp, WO_ix, WO_ext, WO_ixs, WO_clr, WO_len, WO_app, WO_min, WO_max, aOp, ev, evs, Am.get, Am.put, putd, keepIn, mem, binA, arith, unA, eqA, eqc, isNil, lenA, idx, bnd, bndO, rdc, AV.cells, AV.leaf, allLeaf, ovw, blk, sliceCells, flatCells, rep, fillA, okDraw, Fp.ok, List.getD, minA, minF, Ex.thn, Ex.blk]; refine hK _ ?_; clear hK
      refine W_ret ?_; simp [Ex.thn, Ex.blk, resL, resA, Am.get, tupOf, frz, DEEP]
    · have hb : b ≠ [] := fun e => ha (List.length_eq_zero_iff.mp (by rw [h, e]; rfl))
      have e1 := hx.ne ha
      have e2 := hy.ne hb
      subst e1 e2
      refine W_seq fun K hK => W_reg ?_; simp [rRef02SameX1, h, ints, WO_nil_iff, WO_grd, flatCells_ints, allLeaf_ints, WO_mv, WO_pick, WO_new, WO_box, WO_build, WO_bslice, WO_ld, WO_st, WO_nilck, WO_bin, WO_eq, WO_un, WO_cvt, WO_mkf, WO_mks, WO_slc, WO_fad, WO_fld, WO_ixa, WO_ixp, WO_ix, WO_ext, WO_ixs, WO_clr, WO_len, WO_app, WO_min, WO_max, aOp, ev, evs, Am.get, Am.put, putd, keepIn, mem, binA, arith, unA, eqA, eqc, isNil, lenA, idx, bnd, bndO, rdc, AV.cells, AV.leaf, allLeaf, ovw, blk, sliceCells, flatCells, rep, fillA, okDraw, Fp.ok, List.getD, minA, minF, Ex.thn, Ex.blk]
      refine WO_callP gRef02Cmp rfl (refCmp_pu a b hl) ?_
      simp [h, ints, WO_nil_iff, WO_grd, flatCells_ints, allLeaf_ints, WO_mv, WO_pick, WO_new, WO_box, WO_build, WO_bslice, WO_ld, WO_st, WO_nilck, WO_bin, WO_eq, WO_un, WO_cvt, WO_mkf, WO_mks, WO_slc, WO_fad, WO_fld, WO_ixa, WO_ixp, WO_ix, WO_ext, WO_ixs, WO_clr, WO_len, WO_app, WO_min, WO_max, aOp, ev, evs, Am.get, Am.put, putd, keepIn, mem, binA, arith, unA, eqA, eqc, isNil, lenA, idx, bnd, bndO, rdc, AV.cells, AV.leaf, allLeaf, ovw, blk, sliceCells, flatCells, rep, fillA, okDraw, Fp.ok, List.getD, minA, minF, Ex.thn, Ex.blk]; refine hK _ ?_; clear hK
      have hz : (cmpL a b == 0) = decide (a = b) := by rw [Bool.eq_iff_iff]; simp [cmpL_zero]
      refine W_ret ?_; simp [hz, Ex.thn, Ex.blk, resL, resA, Am.get, tupOf, frz, DEEP]
  · have h' : ¬ ((a.length : Int) = (b.length : Int)) := by omega
    have h2 : ((a.length : Int) == (b.length : Int)) = false := by simp; omega
    refine W_seq fun K hK => W_reg ?_; simp [rRef02SameX1, lx, ly, h', h2, ints, WO_nil_iff, WO_grd, flatCells_ints, allLeaf_ints, WO_mv, WO_pick, WO_new, WO_box, WO_build, WO_bslice, WO_ld, WO_st, WO_nilck, WO_bin, WO_eq, WO_un, WO_cvt, WO_mkf, WO_mks, WO_slc, WO_fad, WO_fld, WO_ixa, WO_ixp, WO_ix, WO_ext, WO_ixs, WO_clr, WO_len, WO_app, WO_min, WO_max, aOp, ev, evs, Am.get, Am.put, putd, keepIn, mem, binA, arith, unA, eqA, eqc, isNil, idx, bnd, bndO, rdc, AV.cells, AV.leaf, allLeaf, ovw, blk, sliceCells, flatCells, rep, fillA, okDraw, Fp.ok, List.getD, minA, minF, Ex.thn, Ex.blk]; refine hK _ ?_; clear hK
    have hab : ¬ a = b := fun e => h (e ▸ rfl)
    refine W_ret ?_; simp [hab, Ex.thn, Ex.blk, resL, resA, Am.get, tupOf, frz, DEEP]
end Go.AmP
