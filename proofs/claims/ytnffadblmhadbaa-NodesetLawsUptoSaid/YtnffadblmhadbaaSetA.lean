/- Union, Meet, Minus, Of, Within. -/
import Derived.Test.YtnffadblmhadbaaMrgB
set_option linter.unusedSimpArgs false
set_option maxRecDepth 100000
namespace Go.AmP
open Go.Am
theorem IsInts.plain {x : AV} {a : List Int} (h : IsInts x a) : x.plain = true := by rcases h with rfl | ⟨_, rfl⟩ <;> rfl
theorem IsInts.out (l : List Int) : IsInts (outV l) l := by
  unfold outV
  split
  · rename_i h; exact .inr ⟨h, rfl⟩
  · exact .inl rfl
theorem frz_outV (H : Heap) (l : List Int) : frz H DEEP (outV l) = some (outV l, []) := by
  unfold outV
  split <;> rfl
def uni (a b : List Int) : List Int := mrg (fun _ _ => true) (setOf a) (setOf b)
def meet (a b : List Int) : List Int := mrg (fun p r => p && r) (setOf a) (setOf b)
def minus (a b : List Int) : List Int := mrg (fun _ r => !r) (setOf a) (setOf b)
theorem union_pu {x y : AV} {a b : List Int} (hx : IsInts x a) (hy : IsInts y b) (hl : a.length + b.length ≤ LIM) : Pu cfgS nNodesetUnion [x, y] (outV (uni a b)) := by
  refine Pu.ofW rfl gNodesetUnion (by simp [qNodesetUnion]) ?_; simp only [qNodesetUnion, cNodesetUnion, mkEnv]
  refine W_seq fun K hK => W_reg ?_; simp [rNodesetUnionX0, ints, WO_nil_iff, WO_grd, flatCells_ints, allLeaf_ints, WO_mv, WO_pick, WO_new, WO_box, WO_build, WO_bslice, WO_ld, WO_st, WO_nilck, WO_bin, WO_eq, WO_un, WO_cvt, WO_mkf, WO_mks, WO_slc, WO_fad, WO_fld, WO_ixa, WO_ixp, WO_ix, WO_ext, WO_ixs, WO_clr, WO_len, WO_app, WO_min, WO_max, aOp, ev, evs, Am.get, Am.put, putd, keepIn, mem, binA, arith, unA, eqA, eqc, isNil, lenA, idx, bnd, bndO, rdc, AV.cells, AV.leaf, allLeaf, ovw, blk, sliceCells, flatCells, rep, fillA, okDraw, Fp.ok, List.getD, minA, minF, Ex.thn, Ex.blk]; refine hK _ ?_; clear hK
  refine W_seq fun K hK => W_reg ?_; simp [rNodesetUnionX1, ints, WO_nil_iff, WO_grd, flatCells_ints, allLeaf_ints, WO_mv, WO_pick, WO_new, WO_box, WO_build, WO_bslice, WO_ld, WO_st, WO_nilck, WO_bin, WO_eq, WO_un, WO_cvt, WO_mkf, WO_mks, WO_slc, WO_fad, WO_fld, WO_ixa, WO_ixp, WO_ix, WO_ext, WO_ixs, WO_clr, WO_len, WO_app, WO_min, WO_max, aOp, ev, evs, Am.get, Am.put, putd, keepIn, mem, binA, arith, unA, eqA, eqc, isNil, lenA, idx, bnd, bndO, rdc, AV.cells, AV.leaf, allLeaf, ovw, blk, sliceCells, flatCells, rep, fillA, okDraw, Fp.ok, List.getD, minA, minF, Ex.thn, Ex.blk]
  refine WO_callP gNodesetMergedInt (by simp [evs, ev, Am.get, plainL, hx.plain, hy.plain, AV.plain]) (merged_pu (f := nNodesetUnion1) (q := qNodesetUnion1) gNodesetUnion1 union1_pu hx hy hl) ?_
  simp [ints, WO_nil_iff, WO_grd, flatCells_ints, allLeaf_ints, WO_mv, WO_pick, WO_new, WO_box, WO_build, WO_bslice, WO_ld, WO_st, WO_nilck, WO_bin, WO_eq, WO_un, WO_cvt, WO_mkf, WO_mks, WO_slc, WO_fad, WO_fld, WO_ixa, WO_ixp, WO_ix, WO_ext, WO_ixs, WO_clr, WO_len, WO_app, WO_min, WO_max, aOp, ev, evs, Am.get, Am.put, putd, keepIn, mem, binA, arith, unA, eqA, eqc, isNil, lenA, idx, bnd, bndO, rdc, AV.cells, AV.leaf, allLeaf, ovw, blk, sliceCells, flatCells, rep, fillA, okDraw, Fp.ok, List.getD, minA, minF, Ex.thn, Ex.blk]; refine hK _ ?_; clear hK
  refine W_ret ?_
  simp [Ex.thn, resL, resA, Am.get, tupOf, frz_outV, uni]
theorem meet_pu {x y : AV} {a b : List Int} (hx : IsInts x a) (hy : IsInts y b) (hl : a.length + b.length ≤ LIM) : Pu cfgS nNodesetMeet [x, y] (outV (meet a b)) := by
  refine Pu.ofW rfl gNodesetMeet (by simp [qNodesetMeet]) ?_; simp only [qNodesetMeet, cNodesetMeet, mkEnv]
  refine W_seq fun K hK => W_reg ?_; simp [rNodesetMeetX0, ints, WO_nil_iff, WO_grd, flatCells_ints, allLeaf_ints, WO_mv, WO_pick, WO_new, WO_box, WO_build, WO_bslice, WO_ld, WO_st, WO_nilck, WO_bin, WO_eq, WO_un, WO_cvt, WO_mkf, WO_mks, WO_slc, WO_fad, WO_fld, WO_ixa, WO_ixp, WO_ix, WO_ext, WO_ixs, WO_clr, WO_len, WO_app, WO_min, WO_max, aOp, ev, evs, Am.get, Am.put, putd, keepIn, mem, binA, arith, unA, eqA, eqc, isNil, lenA, idx, bnd, bndO, rdc, AV.cells, AV.leaf, allLeaf, ovw, blk, sliceCells, flatCells, rep, fillA, okDraw, Fp.ok, List.getD, minA, minF, Ex.thn, Ex.blk]; refine hK _ ?_; clear hK
  refine W_seq fun K hK => W_reg ?_; simp [rNodesetMeetX1, ints, WO_nil_iff, WO_grd, flatCells_ints, allLeaf_ints, WO_mv, WO_pick, WO_new, WO_box, WO_build, WO_bslice, WO_ld, WO_st, WO_nilck, WO_bin, WO_eq, WO_un, WO_cvt, WO_mkf, WO_mks, WO_slc, WO_fad, WO_fld, WO_ixa, WO_ixp, WO_ix, WO_ext, WO_ixs, WO_clr, WO_len, WO_app, WO_min, WO_max, aOp, ev, evs, Am.get, Am.put, putd, keepIn, mem, binA, arith, unA, eqA, eqc, isNil, lenA, idx, bnd, bndO, rdc, AV.cells, AV.leaf, allLeaf, ovw, blk, sliceCells, flatCells, rep, fillA, okDraw, Fp.ok, List.getD, minA, minF, Ex.thn, Ex.blk]
  refine WO_callP gNodesetMergedInt (by simp [evs, ev, Am.get, plainL, hx.plain, hy.plain, AV.plain]) (merged_pu (f := nNodesetMeet1) (q := qNodesetMeet1) gNodesetMeet1 meet1_pu hx hy hl) ?_
  simp [ints, WO_nil_iff, WO_grd, flatCells_ints, allLeaf_ints, WO_mv, WO_pick, WO_new, WO_box, WO_build, WO_bslice, WO_ld, WO_st, WO_nilck, WO_bin, WO_eq, WO_un, WO_cvt, WO_mkf, WO_mks, WO_slc, WO_fad, WO_fld, WO_ixa, WO_ixp, WO_ix, WO_ext, WO_ixs, WO_clr, WO_len, WO_app, WO_min, WO_max, aOp, ev, evs, Am.get, Am.put, putd, keepIn, mem, binA, arith, unA, eqA, eqc, isNil, lenA, idx, bnd, bndO, rdc, AV.cells, AV.leaf, allLeaf, ovw, blk, sliceCells, flatCells, rep, fillA, okDraw, Fp.ok, List.getD, minA, minF, Ex.thn, Ex.blk]; refine hK _ ?_; clear hK
  refine W_ret ?_
  simp [Ex.thn, resL, resA, Am.get, tupOf, frz_outV, meet]
theorem minus_pu {x y : AV} {a b : List Int} (hx : IsInts x a) (hy : IsInts y b) (hl : a.length + b.length ≤ LIM) : Pu cfgS nNodesetMinus [x, y] (outV (minus a b)) := by
  refine Pu.ofW rfl gNodesetMinus (by simp [qNodesetMinus]) ?_; simp only [qNodesetMinus, cNodesetMinus, mkEnv]
  refine W_seq fun K hK => W_reg ?_; simp [rNodesetMinusX0, ints, WO_nil_iff, WO_grd, flatCells_ints, allLeaf_ints, WO_mv, WO_pick, WO_new, WO_box, WO_build, WO_bslice, WO_ld, WO_st, WO_nilck, WO_bin, WO_eq, WO_un, WO_cvt, WO_mkf, WO_mks, WO_slc, WO_fad, WO_fld, WO_ixa, WO_ixp, WO_ix, WO_ext, WO_ixs, WO_clr, WO_len, WO_app, WO_min, WO_max, aOp, ev, evs, Am.get, Am.put, putd, keepIn, mem, binA, arith, unA, eqA, eqc, isNil, lenA, idx, bnd, bndO, rdc, AV.cells, AV.leaf, allLeaf, ovw, blk, sliceCells, flatCells, rep, fillA, okDraw, Fp.ok, List.getD, minA, minF, Ex.thn, Ex.blk]; refine hK _ ?_; clear hK
  refine W_seq fun K hK => W_reg ?_; simp [rNodesetMinusX1, ints, WO_nil_iff, WO_grd, flatCells_ints, allLeaf_ints, WO_mv, WO_pick, WO_new, WO_box, WO_build, WO_bslice, WO_ld, WO_st, WO_nilck, WO_bin, WO_eq, WO_un, WO_cvt, WO_mkf, WO_mks, WO_slc, WO_fad, WO_fld, WO_ixa, WO_ixp, WO_ix, WO_ext, WO_ixs, WO_clr, WO_len, WO_app, WO_min, WO_max, aOp, ev, evs, Am.get, Am.put, putd, keepIn, mem, binA, arith, unA, eqA, eqc, isNil, lenA, idx, bnd, bndO, rdc, AV.cells, AV.leaf, allLeaf, ovw, blk, sliceCells, flatCells, rep, fillA, okDraw, Fp.ok, List.getD, minA, minF, Ex.thn, Ex.blk]
  refine WO_callP gNodesetMergedInt (by simp [evs, ev, Am.get, plainL, hx.plain, hy.plain, AV.plain]) (merged_pu (f := nNodesetMinus1) (q := qNodesetMinus1) gNodesetMinus1 minus1_pu hx hy hl) ?_
  simp [ints, WO_nil_iff, WO_grd, flatCells_ints, allLeaf_ints, WO_mv, WO_pick, WO_new, WO_box, WO_build, WO_bslice, WO_ld, WO_st, WO_nilck, WO_bin, WO_eq, WO_un, WO_cvt, WO_mkf, WO_mks, WO_slc, WO_fad, WO_fld, WO_ixa, WO_ixp, WO_ix, WO_ext, WO_ixs, WO_clr, WO_len, WO_app, WO_min, WO_max, aOp, ev, evs, Am.get, Am.put, putd, keepIn, mem, binA, arith, unA, eqA, eqc, isNil, lenA, idx, bnd, bndO, rdc, AV.cells, AV.leaf, allLeaf, ovw, blk, sliceCells, flatCells, rep, fillA, okDraw, Fp.ok, List.getD, minA, minF, Ex.thn, Ex.blk]; refine hK _ ?_; clear hK
  refine W_ret ?_
  simp [Ex.thn, resL, resA, Am.get, tupOf, frz_outV, minus]
theorem len_outV (l : List Int) : lenA (outV l) = some l.length := by
  unfold outV
  split
  · rename_i h; subst h; rfl
  · simp [ints, lenA]
theorem of_pu {x : AV} {a : List Int} (hx : IsInts x a) (hl : a.length ≤ LIM) : Pu cfgS nNodesetOf [x] (outV (uni a [])) := by
  refine Pu.ofW rfl gNodesetOf (by simp [qNodesetOf]) ?_; simp only [qNodesetOf, cNodesetOf, mkEnv]
  refine W_seq fun K hK => W_reg ?_; simp [rNodesetOfX0, ints, WO_nil_iff, WO_grd, flatCells_ints, allLeaf_ints, WO_mv, WO_pick, WO_new, WO_box, WO_build, WO_bslice, WO_ld, WO_st, WO_nilck, WO_bin, WO_eq, WO_un, WO_cvt, WO_mkf, WO_mks, WO_slc, WO_fad, WO_fld, WO_ixa, WO_ixp, WO_ix, WO_ext, WO_ixs, WO_clr, WO_len, WO_app, WO_min, WO_max, aOp, ev, evs, Am.get, Am.put, putd, keepIn, mem, binA, arith, unA, eqA, eqc, isNil, lenA, idx, bnd, bndO, rdc, AV.cells, AV.leaf, allLeaf, ovw, blk, sliceCells, flatCells, rep, fillA, okDraw, Fp.ok, List.getD, minA, minF, Ex.thn, Ex.blk]; refine hK _ ?_; clear hK
  refine W_seq fun K hK => W_reg ?_; simp [rNodesetOfX1, ints, WO_nil_iff, WO_grd, flatCells_ints, allLeaf_ints, WO_mv, WO_pick, WO_new, WO_box, WO_build, WO_bslice, WO_ld, WO_st, WO_nilck, WO_bin, WO_eq, WO_un, WO_cvt, WO_mkf, WO_mks, WO_slc, WO_fad, WO_fld, WO_ixa, WO_ixp, WO_ix, WO_ext, WO_ixs, WO_clr, WO_len, WO_app, WO_min, WO_max, aOp, ev, evs, Am.get, Am.put, putd, keepIn, mem, binA, arith, unA, eqA, eqc, isNil, lenA, idx, bnd, bndO, rdc, AV.cells, AV.leaf, allLeaf, ovw, blk, sliceCells, flatCells, rep, fillA, okDraw, Fp.ok, List.getD, minA, minF, Ex.thn, Ex.blk]
  refine WO_callP gNodesetUnion (by simp [evs, ev, Am.get, plainL, hx.plain, AV.plain]) (union_pu hx (.inr ⟨rfl, rfl⟩) (by simpa using hl)) ?_
  simp [ints, WO_nil_iff, WO_grd, flatCells_ints, allLeaf_ints, WO_mv, WO_pick, WO_new, WO_box, WO_build, WO_bslice, WO_ld, WO_st, WO_nilck, WO_bin, WO_eq, WO_un, WO_cvt, WO_mkf, WO_mks, WO_slc, WO_fad, WO_fld, WO_ixa, WO_ixp, WO_ix, WO_ext, WO_ixs, WO_clr, WO_len, WO_app, WO_min, WO_max, aOp, ev, evs, Am.get, Am.put, putd, keepIn, mem, binA, arith, unA, eqA, eqc, isNil, lenA, idx, bnd, bndO, rdc, AV.cells, AV.leaf, allLeaf, ovw, blk, sliceCells, flatCells, rep, fillA, okDraw, Fp.ok, List.getD, minA, minF, Ex.thn, Ex.blk]; refine hK _ ?_; clear hK
  refine W_ret ?_
  simp [Ex.thn, resL, resA, Am.get, tupOf, frz_outV]
theorem within_pu {x y : AV} {a b : List Int} (hx : IsInts x a) (hy : IsInts y b) (hl : a.length + b.length ≤ LIM) : Pu cfgS nNodesetWithin [x, y] (.bool (((minus a b).length : Int) == 0)) := by
  refine Pu.ofW rfl gNodesetWithin (by simp [qNodesetWithin]) ?_; simp only [qNodesetWithin, cNodesetWithin, mkEnv]
  refine W_seq fun K hK => W_reg ?_; simp [rNodesetWithinX0, ints, WO_nil_iff, WO_grd, flatCells_ints, allLeaf_ints, WO_mv, WO_pick, WO_new, WO_box, WO_build, WO_bslice, WO_ld, WO_st, WO_nilck, WO_bin, WO_eq, WO_un, WO_cvt, WO_mkf, WO_mks, WO_slc, WO_fad, WO_fld, WO_ixa, WO_ixp, WO_ix, WO_ext, WO_ixs, WO_clr, WO_len, WO_app, WO_min, WO_max, aOp, ev, evs, Am.get, Am.put, putd, keepIn, mem, binA, arith, unA, eqA, eqc, isNil, lenA, idx, bnd, bndO, rdc, AV.cells, AV.leaf, allLeaf, ovw, blk, sliceCells, flatCells, rep, fillA, okDraw, Fp.ok, List.getD, minA, minF, Ex.thn, Ex.blk]; refine hK _ ?_; clear hK
  refine W_seq fun K hK => W_reg ?_; simp [rNodesetWithinX1, ints, WO_nil_iff, WO_grd, flatCells_ints, allLeaf_ints, WO_mv, WO_pick, WO_new, WO_box, WO_build, WO_bslice, WO_ld, WO_st, WO_nilck, WO_bin, WO_eq, WO_un, WO_cvt, WO_mkf, WO_mks, WO_slc, WO_fad, WO_fld, WO_ixa, WO_ixp, WO_ix, WO_ext, WO_ixs, WO_clr, WO_len, WO_app, WO_min, WO_max, aOp, ev, evs, Am.get, Am.put, putd, keepIn, mem, binA, arith, unA, eqA, eqc, isNil, lenA, idx, bnd, bndO, rdc, AV.cells, AV.leaf, allLeaf, ovw, blk, sliceCells, flatCells, rep, fillA, okDraw, Fp.ok, List.getD, minA, minF, Ex.thn, Ex.blk]
  refine WO_callP gNodesetMinus (by simp [evs, ev, Am.get, plainL, hx.plain, hy.plain, AV.plain]) (minus_pu hx hy hl) ?_
  simp [len_outV, ints, WO_nil_iff, WO_grd, flatCells_ints, allLeaf_ints, WO_mv, WO_pick, WO_new, WO_box, WO_build, WO_bslice, WO_ld, WO_st, WO_nilck, WO_bin, WO_eq, WO_un, WO_cvt, WO_mkf, WO_mks, WO_slc, WO_fad, WO_fld, WO_ixa, WO_ixp, WO_ix, WO_ext, WO_ixs, WO_clr, WO_len, WO_app, WO_min, WO_max, aOp, ev, evs, Am.get, Am.put, putd, keepIn, mem, binA, arith, unA, eqA, eqc, isNil, idx, bnd, bndO, rdc, AV.cells, AV.leaf, allLeaf, ovw, blk, sliceCells, flatCells, rep, fillA, okDraw, Fp.ok, List.getD, minA, minF, Ex.thn, Ex.blk]; refine hK _ ?_; clear hK
  refine W_ret ?_; simp [Ex.thn, Ex.blk, resL, resA, Am.get, tupOf, frz, DEEP]
end Go.AmP
