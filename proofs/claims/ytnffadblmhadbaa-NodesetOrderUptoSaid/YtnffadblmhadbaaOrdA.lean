/- cohesionlaw02.NodesetOrder returns true. -/
import Derived.Test.YtnffadblmhadbaaCmpA
set_option linter.unusedSimpArgs false
set_option maxRecDepth 100000
namespace Go.AmP
open Go.Am
theorem awake02_pu : Pu cfg nLaw02Awake [] (.bool true) := Pu.run (n := 3000) (by kernel_rfl)
theorem ints_snoc (a : List Int) (x : Int) : a.map (AV.int .i64) ++ [AV.int .i64 x] = (a ++ [x]).map (AV.int .i64) := by simp
theorem ord4 (A B : AV) (x y z : Int) (e1 : x = -1 ∨ x = 0 ∨ x = 1) (e2 : y = -1 ∨ y = 0 ∨ y = 1) (e3 : z = -1 ∨ z = 0 ∨ z = 1) (t1 : x ≤ 0 → y ≤ 0 → z ≤ 0) (t2 : -y ≤ 0 → -x ≤ 0 → -z ≤ 0) {Q : Ex → St → Prop} (h : Q .normal ⟨[(0, A), (1, B), (7, .int .i64 x), (50, .bool false)], []⟩) :
    W cfg (.reg rLaw02NodesetOrderX4 false [] [0, 1, 7, 50]) ⟨[(0, A), (1, B), (7, .int .i64 x), (8, .int .i64 y), (9, .int .i64 z)], []⟩ Q := by
  rcases e1 with rfl | rfl | rfl <;> rcases e2 with rfl | rfl | rfl <;> rcases e3 with rfl | rfl | rfl <;> first | (exfalso; omega) | (refine W_reg ?_; simp [rLaw02NodesetOrderX4, ints, WO_nil_iff, WO_grd, flatCells_ints, allLeaf_ints, WO_mv, WO_pick, WO_new, WO_box, WO_build, WO_bslice, WO_ld, WO_st, WO_nilck, WO_bin, WO_eq, WO_un, WO_cvt, WO_mkf, WO_mks, WO_slc, WO_fad, WO_fld, WO_ixa, WO_ixp, WO_ix, WO_ext, WO_ixs, WO_clr, WO_len, WO_app, WO_min, WO_max, aOp, ev, evs, Am.get, Am.put, putd, keepIn, mem, binA, arith, unA, eqA, eqc, isNil, lenA, idx, bnd, bndO, rdc, AV.cells, AV.leaf, allLeaf, ovw, blk, sliceCells, flatCells, rep, fillA, okDraw, Fp.ok, List.getD, minA, minF, Ex.thn, Ex.blk]; exact h)
theorem order_pu (a b c : List Int) (hl : a.length + b.length + c.length ≤ 1048576) : Pu cfg nLaw02NodesetOrder [ints a, ints b, ints c] (.bool true) := by
  refine Pu.ofW rfl gLaw02NodesetOrder (by simp [qLaw02NodesetOrder]) ?_; simp only [qLaw02NodesetOrder, cLaw02NodesetOrder, mkEnv]
  have w1 : IntKind.i64.wrap ((a.length : Int) + b.length) = (a.length : Int) + b.length := wrap_i64 (by omega) (by omega)
  have w2 : IntKind.i64.wrap ((a.length : Int) + b.length + c.length) = (a.length : Int) + b.length + c.length := wrap_i64 (by omega) (by omega)
  refine W_seq fun K hK => W_reg ?_; simp [rLaw02NodesetOrderX0, ints, WO_nil_iff, WO_grd, flatCells_ints, allLeaf_ints, WO_mv, WO_pick, WO_new, WO_box, WO_build, WO_bslice, WO_ld, WO_st, WO_nilck, WO_bin, WO_eq, WO_un, WO_cvt, WO_mkf, WO_mks, WO_slc, WO_fad, WO_fld, WO_ixa, WO_ixp, WO_ix, WO_ext, WO_ixs, WO_clr, WO_len, WO_app, WO_min, WO_max, aOp, ev, evs, Am.get, Am.put, putd, keepIn, mem, binA, arith, unA, eqA, eqc, isNil, lenA, idx, bnd, bndO, rdc, AV.cells, AV.leaf, allLeaf, ovw, blk, sliceCells, flatCells, rep, fillA, okDraw, Fp.ok, List.getD, minA, minF, Ex.thn, Ex.blk]; refine hK _ ?_; clear hK
  by_cases hb : (300 : Int) < (a.length : Int) + b.length + c.length
  · refine W_seq fun K hK => ?_; refine W_seq fun K hK => W_reg ?_; simp [rLaw02NodesetOrderX1, w1, w2, hb, ints, WO_nil_iff, WO_grd, flatCells_ints, allLeaf_ints, WO_mv, WO_pick, WO_new, WO_box, WO_build, WO_bslice, WO_ld, WO_st, WO_nilck, WO_bin, WO_eq, WO_un, WO_cvt, WO_mkf, WO_mks, WO_slc, WO_fad, WO_fld, WO_ixa, WO_ixp, WO_ix, WO_ext, WO_ixs, WO_clr, WO_len, WO_app, WO_min, WO_max, aOp, ev, evs, Am.get, Am.put, putd, keepIn, mem, binA, arith, unA, eqA, eqc, isNil, lenA, idx, bnd, bndO, rdc, AV.cells, AV.leaf, allLeaf, ovw, blk, sliceCells, flatCells, rep, fillA, okDraw, Fp.ok, List.getD, minA, minF, Ex.thn, Ex.blk]; refine hK _ ?_; clear hK; refine W_condT (by simp [ev, Am.get]) ?_
    refine W_seq fun K hK => W_reg ?_; simp [rLaw02NodesetOrderX2, ints, WO_nil_iff, WO_grd, flatCells_ints, allLeaf_ints, WO_mv, WO_pick, WO_new, WO_box, WO_build, WO_bslice, WO_ld, WO_st, WO_nilck, WO_bin, WO_eq, WO_un, WO_cvt, WO_mkf, WO_mks, WO_slc, WO_fad, WO_fld, WO_ixa, WO_ixp, WO_ix, WO_ext, WO_ixs, WO_clr, WO_len, WO_app, WO_min, WO_max, aOp, ev, evs, Am.get, Am.put, putd, keepIn, mem, binA, arith, unA, eqA, eqc, isNil, lenA, idx, bnd, bndO, rdc, AV.cells, AV.leaf, allLeaf, ovw, blk, sliceCells, flatCells, rep, fillA, okDraw, Fp.ok, List.getD, minA, minF, Ex.thn, Ex.blk]
    refine WO_callP gLaw02Awake rfl awake02_pu ?_
    simp [ints, WO_nil_iff, WO_grd, flatCells_ints, allLeaf_ints, WO_mv, WO_pick, WO_new, WO_box, WO_build, WO_bslice, WO_ld, WO_st, WO_nilck, WO_bin, WO_eq, WO_un, WO_cvt, WO_mkf, WO_mks, WO_slc, WO_fad, WO_fld, WO_ixa, WO_ixp, WO_ix, WO_ext, WO_ixs, WO_clr, WO_len, WO_app, WO_min, WO_max, aOp, ev, evs, Am.get, Am.put, putd, keepIn, mem, binA, arith, unA, eqA, eqc, isNil, lenA, idx, bnd, bndO, rdc, AV.cells, AV.leaf, allLeaf, ovw, blk, sliceCells, flatCells, rep, fillA, okDraw, Fp.ok, List.getD, minA, minF, Ex.thn, Ex.blk]; refine hK _ ?_; clear hK
    refine W_ret ?_; simp [Ex.thn, Ex.blk, resL, resA, Am.get, tupOf, frz, DEEP]
  · refine W_seq fun K hK => ?_; refine W_seq fun K hK => W_reg ?_; simp [rLaw02NodesetOrderX1, w1, w2, hb, ints, WO_nil_iff, WO_grd, flatCells_ints, allLeaf_ints, WO_mv, WO_pick, WO_new, WO_box, WO_build, WO_bslice, WO_ld, WO_st, WO_nilck, WO_bin, WO_eq, WO_un, WO_cvt, WO_mkf, WO_mks, WO_slc, WO_fad, WO_fld, WO_ixa, WO_ixp, WO_ix, WO_ext, WO_ixs, WO_clr, WO_len, WO_app, WO_min, WO_max, aOp, ev, evs, Am.get, Am.put, putd, keepIn, mem, binA, arith, unA, eqA, eqc, isNil, lenA, idx, bnd, bndO, rdc, AV.cells, AV.leaf, allLeaf, ovw, blk, sliceCells, flatCells, rep, fillA, okDraw, Fp.ok, List.getD, minA, minF, Ex.thn, Ex.blk]; refine hK _ ?_; clear hK; refine W_condF (by simp [ev, Am.get]) ?_; refine W_skip ?_; refine hK _ ?_; clear hK
    refine W_seq fun K hK => W_reg ?_; simp [rLaw02NodesetOrderX3, ints, WO_nil_iff, WO_grd, flatCells_ints, allLeaf_ints, WO_mv, WO_pick, WO_new, WO_box, WO_build, WO_bslice, WO_ld, WO_st, WO_nilck, WO_bin, WO_eq, WO_un, WO_cvt, WO_mkf, WO_mks, WO_slc, WO_fad, WO_fld, WO_ixa, WO_ixp, WO_ix, WO_ext, WO_ixs, WO_clr, WO_len, WO_app, WO_min, WO_max, aOp, ev, evs, Am.get, Am.put, putd, keepIn, mem, binA, arith, unA, eqA, eqc, isNil, lenA, idx, bnd, bndO, rdc, AV.cells, AV.leaf, allLeaf, ovw, blk, sliceCells, flatCells, rep, fillA, okDraw, Fp.ok, List.getD, minA, minF, Ex.thn, Ex.blk]
    refine WO_callP gNodesetCmp rfl (nodesetCmp_pu a b (by omega)) ?_
    simp [ints, WO_nil_iff, WO_grd, flatCells_ints, allLeaf_ints, WO_mv, WO_pick, WO_new, WO_box, WO_build, WO_bslice, WO_ld, WO_st, WO_nilck, WO_bin, WO_eq, WO_un, WO_cvt, WO_mkf, WO_mks, WO_slc, WO_fad, WO_fld, WO_ixa, WO_ixp, WO_ix, WO_ext, WO_ixs, WO_clr, WO_len, WO_app, WO_min, WO_max, aOp, ev, evs, Am.get, Am.put, putd, keepIn, mem, binA, arith, unA, eqA, eqc, isNil, lenA, idx, bnd, bndO, rdc, AV.cells, AV.leaf, allLeaf, ovw, blk, sliceCells, flatCells, rep, fillA, okDraw, Fp.ok, List.getD, minA, minF, Ex.thn, Ex.blk]
    refine WO_callP gNodesetCmp rfl (nodesetCmp_pu b c (by omega)) ?_
    simp [ints, WO_nil_iff, WO_grd, flatCells_ints, allLeaf_ints, WO_mv, WO_pick, WO_new, WO_box, WO_build, WO_bslice, WO_ld, WO_st, WO_nilck, WO_bin, WO_eq, WO_un, WO_cvt, WO_mkf, WO_mks, WO_slc, WO_fad, WO_fld, WO_ixa, WO_ixp, WO_ix, WO_ext, WO_ixs, WO_clr, WO_len, WO_app, WO_min, WO_max, aOp, ev, evs, Am.get, Am.put, putd, keepIn, mem, binA, arith, unA, eqA, eqc, isNil, lenA, idx, bnd, bndO, rdc, AV.cells, AV.leaf, allLeaf, ovw, blk, sliceCells, flatCells, rep, fillA, okDraw, Fp.ok, List.getD, minA, minF, Ex.thn, Ex.blk]
    refine WO_callP gNodesetCmp rfl (nodesetCmp_pu a c (by omega)) ?_
    simp [ints, WO_nil_iff, WO_grd, flatCells_ints, allLeaf_ints, WO_mv, WO_pick, WO_new, WO_box, WO_build, WO_bslice, WO_ld, WO_st, WO_nilck, WO_bin, WO_eq, WO_un, WO_cvt, WO_mkf, WO_mks, WO_slc, WO_fad, WO_fld, WO_ixa, WO_ixp, WO_ix, WO_ext, WO_ixs, WO_clr, WO_len, WO_app, WO_min, WO_max, aOp, ev, evs, Am.get, Am.put, putd, keepIn, mem, binA, arith, unA, eqA, eqc, isNil, lenA, idx, bnd, bndO, rdc, AV.cells, AV.leaf, allLeaf, ovw, blk, sliceCells, flatCells, rep, fillA, okDraw, Fp.ok, List.getD, minA, minF, Ex.thn, Ex.blk]; refine hK _ ?_; clear hK
    have t1 := cmpL_trans a b c
    have t2 := cmpL_trans c b a
    rw [cmpL_anti b c, cmpL_anti a b, cmpL_anti a c] at t2
    have e1 := cmpL_rng a b
    have e2 := cmpL_rng b c
    have e3 := cmpL_rng a c
    have hz : cmpL a b = 0 ↔ a = b := cmpL_zero
    have han := cmpL_anti a b
    generalize hx : cmpL a b = x at *
    generalize hy : cmpL b c = y at *
    generalize hzz : cmpL a c = z at *
    have hneg : IntKind.i64.wrap (0 - -x) = x := by rw [show 0 - -x = x by omega]; exact wrap_i64 (by omega) (by omega)
    have hneg2 : IntKind.i64.wrap x = x := wrap_i64 (by omega) (by omega)
    have hzb : (x == 0) = decide (a = b) := by rw [Bool.eq_iff_iff]; simp [hz]
    refine W_seq fun K hK => ?_; refine W_seq fun K hK => ?_
    refine ord4 _ _ x y z e1 e2 e3 t1 t2 ?_
    refine hK _ ?_; clear hK
    refine W_condF (by simp [ev, Am.get]) ?_; refine W_skip ?_; refine hK _ ?_; clear hK
    have hba : cmpL b a = -x := han
    refine W_seq fun K hK => W_reg ?_; simp [rLaw02NodesetOrderX6, ints, WO_nil_iff, WO_grd, flatCells_ints, allLeaf_ints, WO_mv, WO_pick, WO_new, WO_box, WO_build, WO_bslice, WO_ld, WO_st, WO_nilck, WO_bin, WO_eq, WO_un, WO_cvt, WO_mkf, WO_mks, WO_slc, WO_fad, WO_fld, WO_ixa, WO_ixp, WO_ix, WO_ext, WO_ixs, WO_clr, WO_len, WO_app, WO_min, WO_max, aOp, ev, evs, Am.get, Am.put, putd, keepIn, mem, binA, arith, unA, eqA, eqc, isNil, lenA, idx, bnd, bndO, rdc, AV.cells, AV.leaf, allLeaf, ovw, blk, sliceCells, flatCells, rep, fillA, okDraw, Fp.ok, List.getD, minA, minF, Ex.thn, Ex.blk]
    refine WO_callP gNodesetCmp rfl (nodesetCmp_pu b a (by omega)) ?_
    simp [hba, hneg, hneg2, ints, WO_nil_iff, WO_grd, flatCells_ints, allLeaf_ints, WO_mv, WO_pick, WO_new, WO_box, WO_build, WO_bslice, WO_ld, WO_st, WO_nilck, WO_bin, WO_eq, WO_un, WO_cvt, WO_mkf, WO_mks, WO_slc, WO_fad, WO_fld, WO_ixa, WO_ixp, WO_ix, WO_ext, WO_ixs, WO_clr, WO_len, WO_app, WO_min, WO_max, aOp, ev, evs, Am.get, Am.put, putd, keepIn, mem, binA, arith, unA, eqA, eqc, isNil, lenA, idx, bnd, bndO, rdc, AV.cells, AV.leaf, allLeaf, ovw, blk, sliceCells, flatCells, rep, fillA, okDraw, Fp.ok, List.getD, minA, minF, Ex.thn, Ex.blk]
    refine WO_callP gRef02Same rfl (refSame_pu a b (by omega)) ?_
    by_cases ha : a = []
    · subst ha
      simp [hzb, ints, WO_nil_iff, WO_grd, flatCells_ints, allLeaf_ints, WO_mv, WO_pick, WO_new, WO_box, WO_build, WO_bslice, WO_ld, WO_st, WO_nilck, WO_bin, WO_eq, WO_un, WO_cvt, WO_mkf, WO_mks, WO_slc, WO_fad, WO_fld, WO_ixa, WO_ixp, WO_ix, WO_ext, WO_ixs, WO_clr, WO_len, WO_app, WO_min, WO_max, aOp, ev, evs, Am.get, Am.put, putd, keepIn, mem, binA, arith, unA, eqA, eqc, isNil, lenA, idx, bnd, bndO, rdc, AV.cells, AV.leaf, allLeaf, ovw, blk, sliceCells, flatCells, rep, fillA, okDraw, Fp.ok, List.getD, minA, minF, Ex.thn, Ex.blk]
      refine WO_callF (bs0 := [1]) (args := [ints [], ints [0]]) gNodesetCmp rfl rfl (nodesetCmp_pu [] [0] (by simp)) rfl ?_
      simp [cmpL, ints, WO_nil_iff, WO_grd, flatCells_ints, allLeaf_ints, WO_mv, WO_pick, WO_new, WO_box, WO_build, WO_bslice, WO_ld, WO_st, WO_nilck, WO_bin, WO_eq, WO_un, WO_cvt, WO_mkf, WO_mks, WO_slc, WO_fad, WO_fld, WO_ixa, WO_ixp, WO_ix, WO_ext, WO_ixs, WO_clr, WO_len, WO_app, WO_min, WO_max, aOp, ev, evs, Am.get, Am.put, putd, keepIn, mem, binA, arith, unA, eqA, eqc, isNil, lenA, idx, bnd, bndO, rdc, AV.cells, AV.leaf, allLeaf, ovw, blk, sliceCells, flatCells, rep, fillA, okDraw, Fp.ok, List.getD, minA, minF, Ex.thn, Ex.blk]
      refine WO_callP gLaw02Awake rfl awake02_pu ?_
      simp [ints, WO_nil_iff, WO_grd, flatCells_ints, allLeaf_ints, WO_mv, WO_pick, WO_new, WO_box, WO_build, WO_bslice, WO_ld, WO_st, WO_nilck, WO_bin, WO_eq, WO_un, WO_cvt, WO_mkf, WO_mks, WO_slc, WO_fad, WO_fld, WO_ixa, WO_ixp, WO_ix, WO_ext, WO_ixs, WO_clr, WO_len, WO_app, WO_min, WO_max, aOp, ev, evs, Am.get, Am.put, putd, keepIn, mem, binA, arith, unA, eqA, eqc, isNil, lenA, idx, bnd, bndO, rdc, AV.cells, AV.leaf, allLeaf, ovw, blk, sliceCells, flatCells, rep, fillA, okDraw, Fp.ok, List.getD, minA, minF, Ex.thn, Ex.blk]; refine hK _ ?_; clear hK
      refine W_ret ?_; simp [Ex.thn, Ex.blk, resL, resA, Am.get, tupOf, frz, DEEP]
    · have ha0 : a.length ≠ 0 := fun e => ha (List.length_eq_zero_iff.mp e)
      have ha1 : ((a.length : Int) == 0) = false := by simp; omega
      have hw3 : IntKind.i64.wrap ((a.length : Int) - 1) = (a.length : Int) - 1 := wrap_i64 (by omega) (by omega)
      have h01 : (0 : Int) ≤ (a.length : Int) - 1 := by omega
      have hle : (a.length : Int) - 1 ≤ (a.length : Int) := by omega
      have hto : ((a.length : Int) - 1).toNat = a.length - 1 := by omega
      have hLIM : a.length ≤ LIM := by unfold LIM; omega
      have hLIM1 : a.length + 1 ≤ LIM := by unfold LIM; omega
      have hbt : (if (0 : Int) ≤ (a.length : Int) - 1 ∧ (a.length : Int) - 1 ≤ (a.length : Int) then some ((a.length : Int) - 1).toNat else none) = some (a.length - 1) := by rw [if_pos ⟨h01, hle⟩, hto]
      simp [hzb, ha, ha0, ha1, hw3, h01, hle, hto, hbt, -Int.sub_nonneg, ints, WO_nil_iff, WO_grd, flatCells_ints, allLeaf_ints, WO_mv, WO_pick, WO_new, WO_box, WO_build, WO_bslice, WO_ld, WO_st, WO_nilck, WO_bin, WO_eq, WO_un, WO_cvt, WO_mkf, WO_mks, WO_slc, WO_fad, WO_fld, WO_ixa, WO_ixp, WO_ix, WO_ext, WO_ixs, WO_clr, WO_len, WO_app, WO_min, WO_max, aOp, ev, evs, Am.get, Am.put, putd, keepIn, mem, binA, arith, unA, eqA, eqc, isNil, lenA, idx, bnd, bndO, rdc, AV.cells, AV.leaf, allLeaf, ovw, blk, sliceCells, flatCells, rep, fillA, okDraw, Fp.ok, List.getD, minA, minF, Ex.thn, Ex.blk]
      have hp := nodesetCmp_pu (a.take (a.length - 1)) a (by simp; omega)
      rw [cmpL_take a ha] at hp
      simp only [ints, List.map_take] at hp
      refine WO_callP (v := .int .i64 (-1)) gNodesetCmp rfl hp ?_
      simp [ha, ha0, hLIM, hLIM1, ints, WO_nil_iff, WO_grd, flatCells_ints, allLeaf_ints, WO_mv, WO_pick, WO_new, WO_box, WO_build, WO_bslice, WO_ld, WO_st, WO_nilck, WO_bin, WO_eq, WO_un, WO_cvt, WO_mkf, WO_mks, WO_slc, WO_fad, WO_fld, WO_ixa, WO_ixp, WO_ix, WO_ext, WO_ixs, WO_clr, WO_len, WO_app, WO_min, WO_max, aOp, ev, evs, Am.get, Am.put, putd, keepIn, mem, binA, arith, unA, eqA, eqc, isNil, lenA, idx, bnd, bndO, rdc, AV.cells, AV.leaf, allLeaf, ovw, blk, sliceCells, flatCells, rep, fillA, okDraw, Fp.ok, List.getD, minA, minF, Ex.thn, Ex.blk]
      have ht : List.take a.length (a.map (AV.int .i64)) ++ [AV.int .i64 0] = (a ++ [0]).map (AV.int .i64) := by rw [List.take_of_length_le (by simp)]; simp
      rw [ht]
      have hp := nodesetCmp_pu a (a ++ [0]) (by omega)
      rw [cmpL_snoc] at hp
      refine WO_callF (v := .int .i64 (-1)) (bs0 := [2]) (args := [ints a, ints (a ++ [0])]) gNodesetCmp rfl ?_ hp rfl ?_
      · have hf := frz_ints .i64 (a ++ [0]) (b := 2) (n := a.length + 1) (by simp) (H := [none, some [AV.int .i64 0], some ((a ++ [0]).map (AV.int .i64))]) rfl
        simp at hf
        simp [evs, ev, Am.get, mapF, frz_list, hf, ints]
      simp [ints, WO_nil_iff, WO_grd, flatCells_ints, allLeaf_ints, WO_mv, WO_pick, WO_new, WO_box, WO_build, WO_bslice, WO_ld, WO_st, WO_nilck, WO_bin, WO_eq, WO_un, WO_cvt, WO_mkf, WO_mks, WO_slc, WO_fad, WO_fld, WO_ixa, WO_ixp, WO_ix, WO_ext, WO_ixs, WO_clr, WO_len, WO_app, WO_min, WO_max, aOp, ev, evs, Am.get, Am.put, putd, keepIn, mem, binA, arith, unA, eqA, eqc, isNil, lenA, idx, bnd, bndO, rdc, AV.cells, AV.leaf, allLeaf, ovw, blk, sliceCells, flatCells, rep, fillA, okDraw, Fp.ok, List.getD, minA, minF, Ex.thn, Ex.blk]
      refine WO_callP gLaw02Awake rfl awake02_pu ?_
      simp [ints, WO_nil_iff, WO_grd, flatCells_ints, allLeaf_ints, WO_mv, WO_pick, WO_new, WO_box, WO_build, WO_bslice, WO_ld, WO_st, WO_nilck, WO_bin, WO_eq, WO_un, WO_cvt, WO_mkf, WO_mks, WO_slc, WO_fad, WO_fld, WO_ixa, WO_ixp, WO_ix, WO_ext, WO_ixs, WO_clr, WO_len, WO_app, WO_min, WO_max, aOp, ev, evs, Am.get, Am.put, putd, keepIn, mem, binA, arith, unA, eqA, eqc, isNil, lenA, idx, bnd, bndO, rdc, AV.cells, AV.leaf, allLeaf, ovw, blk, sliceCells, flatCells, rep, fillA, okDraw, Fp.ok, List.getD, minA, minF, Ex.thn, Ex.blk]; refine hK _ ?_; clear hK
      refine W_ret ?_; simp [Ex.thn, Ex.blk, resL, resA, Am.get, tupOf, frz, DEEP]
end Go.AmP
