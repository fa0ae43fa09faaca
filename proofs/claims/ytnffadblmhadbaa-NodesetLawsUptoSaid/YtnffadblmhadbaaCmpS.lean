/- What cmp.Compare, slices.Compare, cohesionref02.Cmp and their callers return. -/
import Derived.Test.YtnffadblmhadbaaSrtP
import Derived.Test.YtnffadblmhadbaaAmN
set_option linter.unusedSimpArgs false
set_option maxRecDepth 100000
namespace Go.AmP
open Go.Am

def cmp3 (x y : Int) : Int := if x < y then -1 else if y < x then 1 else 0
theorem isNaN_pu (x : Int) : Pu cfgS nCmpIsNaNInt [.int .i64 x] (.bool false) := by
  refine Pu.of0 (H1 := []) (Cl.of rfl gCmpIsNaNInt (by simp [qCmpIsNaNInt]) ?_) rfl
  simp only [qCmpIsNaNInt, cCmpIsNaNInt, mkEnv]
  refine W_seq fun K hK => W_reg ?_; simp [rCmpIsNaNIntX0, ints, WO_nil_iff, WO_grd, flatCells_ints, allLeaf_ints, WO_mv, WO_pick, WO_new, WO_box, WO_build, WO_bslice, WO_ld, WO_st, WO_nilck, WO_bin, WO_eq, WO_un, WO_cvt, WO_mkf, WO_mks, WO_slc, WO_fad, WO_fld, WO_ixa, WO_ixp, WO_ix, WO_ext, WO_ixs, WO_clr, WO_len, WO_app, WO_min, WO_max, aOp, ev, evs, Am.get, Am.put, putd, keepIn, mem, binA, arith, unA, eqA, eqc, isNil, lenA, idx, bnd, bndO, rdc, AV.cells, AV.leaf, allLeaf, ovw, blk, sliceCells, flatCells, rep, fillA, okDraw, Fp.ok, List.getD, minA, minF, Ex.thn, Ex.blk]; refine hK _ ?_; clear hK
  refine W_seq fun K hK => W_reg ?_; simp [rCmpIsNaNIntX1, ints, WO_nil_iff, WO_grd, flatCells_ints, allLeaf_ints, WO_mv, WO_pick, WO_new, WO_box, WO_build, WO_bslice, WO_ld, WO_st, WO_nilck, WO_bin, WO_eq, WO_un, WO_cvt, WO_mkf, WO_mks, WO_slc, WO_fad, WO_fld, WO_ixa, WO_ixp, WO_ix, WO_ext, WO_ixs, WO_clr, WO_len, WO_app, WO_min, WO_max, aOp, ev, evs, Am.get, Am.put, putd, keepIn, mem, binA, arith, unA, eqA, eqc, isNil, lenA, idx, bnd, bndO, rdc, AV.cells, AV.leaf, allLeaf, ovw, blk, sliceCells, flatCells, rep, fillA, okDraw, Fp.ok, List.getD, minA, minF, Ex.thn, Ex.blk]; refine hK _ ?_; clear hK
  refine W_ret ?_
  simp [resL, resA, Am.get, tupOf]
theorem compare_pu (x y : Int) : Pu cfgS nCmpCompareInt [.int .i64 x, .int .i64 y] (.int .i64 (cmp3 x y)) := by
  refine Pu.of0 (H1 := []) (Cl.of rfl gCmpCompareInt (by simp [qCmpCompareInt]) ?_) rfl
  simp only [qCmpCompareInt, cCmpCompareInt, mkEnv]
  refine W_seq fun K hK => W_reg ?_; simp [rCmpCompareIntX0, ints, WO_nil_iff, WO_grd, flatCells_ints, allLeaf_ints, WO_mv, WO_pick, WO_new, WO_box, WO_build, WO_bslice, WO_ld, WO_st, WO_nilck, WO_bin, WO_eq, WO_un, WO_cvt, WO_mkf, WO_mks, WO_slc, WO_fad, WO_fld, WO_ixa, WO_ixp, WO_ix, WO_ext, WO_ixs, WO_clr, WO_len, WO_app, WO_min, WO_max, aOp, ev, evs, Am.get, Am.put, putd, keepIn, mem, binA, arith, unA, eqA, eqc, isNil, lenA, idx, bnd, bndO, rdc, AV.cells, AV.leaf, allLeaf, ovw, blk, sliceCells, flatCells, rep, fillA, okDraw, Fp.ok, List.getD, minA, minF, Ex.thn, Ex.blk]; refine hK _ ?_; clear hK
  refine W_seq fun K hK => W_reg ?_; simp [rCmpCompareIntX1, ints, WO_nil_iff, WO_grd, flatCells_ints, allLeaf_ints, WO_mv, WO_pick, WO_new, WO_box, WO_build, WO_bslice, WO_ld, WO_st, WO_nilck, WO_bin, WO_eq, WO_un, WO_cvt, WO_mkf, WO_mks, WO_slc, WO_fad, WO_fld, WO_ixa, WO_ixp, WO_ix, WO_ext, WO_ixs, WO_clr, WO_len, WO_app, WO_min, WO_max, aOp, ev, evs, Am.get, Am.put, putd, keepIn, mem, binA, arith, unA, eqA, eqc, isNil, lenA, idx, bnd, bndO, rdc, AV.cells, AV.leaf, allLeaf, ovw, blk, sliceCells, flatCells, rep, fillA, okDraw, Fp.ok, List.getD, minA, minF, Ex.thn, Ex.blk]
  refine WO_callP gCmpIsNaNInt rfl (isNaN_pu x) ?_
  simp [ints, WO_nil_iff, WO_grd, flatCells_ints, allLeaf_ints, WO_mv, WO_pick, WO_new, WO_box, WO_build, WO_bslice, WO_ld, WO_st, WO_nilck, WO_bin, WO_eq, WO_un, WO_cvt, WO_mkf, WO_mks, WO_slc, WO_fad, WO_fld, WO_ixa, WO_ixp, WO_ix, WO_ext, WO_ixs, WO_clr, WO_len, WO_app, WO_min, WO_max, aOp, ev, evs, Am.get, Am.put, putd, keepIn, mem, binA, arith, unA, eqA, eqc, isNil, lenA, idx, bnd, bndO, rdc, AV.cells, AV.leaf, allLeaf, ovw, blk, sliceCells, flatCells, rep, fillA, okDraw, Fp.ok, List.getD, minA, minF, Ex.thn, Ex.blk]; refine hK _ ?_; clear hK
  refine W_seq fun K hK => W_reg ?_; simp [rCmpCompareIntX2, ints, WO_nil_iff, WO_grd, flatCells_ints, allLeaf_ints, WO_mv, WO_pick, WO_new, WO_box, WO_build, WO_bslice, WO_ld, WO_st, WO_nilck, WO_bin, WO_eq, WO_un, WO_cvt, WO_mkf, WO_mks, WO_slc, WO_fad, WO_fld, WO_ixa, WO_ixp, WO_ix, WO_ext, WO_ixs, WO_clr, WO_len, WO_app, WO_min, WO_max, aOp, ev, evs, Am.get, Am.put, putd, keepIn, mem, binA, arith, unA, eqA, eqc, isNil, lenA, idx, bnd, bndO, rdc, AV.cells, AV.leaf, allLeaf, ovw, blk, sliceCells, flatCells, rep, fillA, okDraw, Fp.ok, List.getD, minA, minF, Ex.thn, Ex.blk]
  refine WO_callP gCmpIsNaNInt rfl (isNaN_pu y) ?_
  simp [ints, WO_nil_iff, WO_grd, flatCells_ints, allLeaf_ints, WO_mv, WO_pick, WO_new, WO_box, WO_build, WO_bslice, WO_ld, WO_st, WO_nilck, WO_bin, WO_eq, WO_un, WO_cvt, WO_mkf, WO_mks, WO_slc, WO_fad, WO_fld, WO_ixa, WO_ixp, WO_ix, WO_ext, WO_ixs, WO_clr, WO_len, WO_app, WO_min, WO_max, aOp, ev, evs, Am.get, Am.put, putd, keepIn, mem, binA, arith, unA, eqA, eqc, isNil, lenA, idx, bnd, bndO, rdc, AV.cells, AV.leaf, allLeaf, ovw, blk, sliceCells, flatCells, rep, fillA, okDraw, Fp.ok, List.getD, minA, minF, Ex.thn, Ex.blk]; refine hK _ ?_; clear hK
  refine W_seq fun K hK => ?_; refine W_seq fun K hK => W_reg ?_; simp [rCmpCompareIntX3, ints, WO_nil_iff, WO_grd, flatCells_ints, allLeaf_ints, WO_mv, WO_pick, WO_new, WO_box, WO_build, WO_bslice, WO_ld, WO_st, WO_nilck, WO_bin, WO_eq, WO_un, WO_cvt, WO_mkf, WO_mks, WO_slc, WO_fad, WO_fld, WO_ixa, WO_ixp, WO_ix, WO_ext, WO_ixs, WO_clr, WO_len, WO_app, WO_min, WO_max, aOp, ev, evs, Am.get, Am.put, putd, keepIn, mem, binA, arith, unA, eqA, eqc, isNil, lenA, idx, bnd, bndO, rdc, AV.cells, AV.leaf, allLeaf, ovw, blk, sliceCells, flatCells, rep, fillA, okDraw, Fp.ok, List.getD, minA, minF, Ex.thn, Ex.blk]; refine hK _ ?_; clear hK; refine W_condF (by simp [ev, Am.get]) ?_; refine W_skip ?_; refine hK _ ?_; clear hK
  refine W_seq fun K hK => ?_; refine W_seq fun K hK => W_reg ?_; simp [rCmpCompareIntX7, ints, WO_nil_iff, WO_grd, flatCells_ints, allLeaf_ints, WO_mv, WO_pick, WO_new, WO_box, WO_build, WO_bslice, WO_ld, WO_st, WO_nilck, WO_bin, WO_eq, WO_un, WO_cvt, WO_mkf, WO_mks, WO_slc, WO_fad, WO_fld, WO_ixa, WO_ixp, WO_ix, WO_ext, WO_ixs, WO_clr, WO_len, WO_app, WO_min, WO_max, aOp, ev, evs, Am.get, Am.put, putd, keepIn, mem, binA, arith, unA, eqA, eqc, isNil, lenA, idx, bnd, bndO, rdc, AV.cells, AV.leaf, allLeaf, ovw, blk, sliceCells, flatCells, rep, fillA, okDraw, Fp.ok, List.getD, minA, minF, Ex.thn, Ex.blk]; refine hK _ ?_; clear hK; refine W_condF (by simp [ev, Am.get]) ?_; refine W_skip ?_; refine hK _ ?_; clear hK
  by_cases h1 : x < y
  · refine W_seq fun K hK => ?_; refine W_seq fun K hK => W_reg ?_; simp [rCmpCompareIntX9, ints, WO_nil_iff, WO_grd, flatCells_ints, allLeaf_ints, WO_mv, WO_pick, WO_new, WO_box, WO_build, WO_bslice, WO_ld, WO_st, WO_nilck, WO_bin, WO_eq, WO_un, WO_cvt, WO_mkf, WO_mks, WO_slc, WO_fad, WO_fld, WO_ixa, WO_ixp, WO_ix, WO_ext, WO_ixs, WO_clr, WO_len, WO_app, WO_min, WO_max, aOp, ev, evs, Am.get, Am.put, putd, keepIn, mem, binA, arith, unA, eqA, eqc, isNil, lenA, idx, bnd, bndO, rdc, AV.cells, AV.leaf, allLeaf, ovw, blk, sliceCells, flatCells, rep, fillA, okDraw, Fp.ok, List.getD, minA, minF, Ex.thn, Ex.blk]; refine hK _ ?_; clear hK; refine W_condT (by simp [h1, ev, Am.get]) ?_
    refine W_seq fun K hK => W_reg ?_; simp [rCmpCompareIntX10, ints, WO_nil_iff, WO_grd, flatCells_ints, allLeaf_ints, WO_mv, WO_pick, WO_new, WO_box, WO_build, WO_bslice, WO_ld, WO_st, WO_nilck, WO_bin, WO_eq, WO_un, WO_cvt, WO_mkf, WO_mks, WO_slc, WO_fad, WO_fld, WO_ixa, WO_ixp, WO_ix, WO_ext, WO_ixs, WO_clr, WO_len, WO_app, WO_min, WO_max, aOp, ev, evs, Am.get, Am.put, putd, keepIn, mem, binA, arith, unA, eqA, eqc, isNil, lenA, idx, bnd, bndO, rdc, AV.cells, AV.leaf, allLeaf, ovw, blk, sliceCells, flatCells, rep, fillA, okDraw, Fp.ok, List.getD, minA, minF, Ex.thn, Ex.blk]; refine hK _ ?_; clear hK
    refine W_ret ?_
    simp [resL, resA, Am.get, tupOf, Ex.thn, cmp3, h1]
  · refine W_seq fun K hK => ?_; refine W_seq fun K hK => W_reg ?_; simp [rCmpCompareIntX9, ints, WO_nil_iff, WO_grd, flatCells_ints, allLeaf_ints, WO_mv, WO_pick, WO_new, WO_box, WO_build, WO_bslice, WO_ld, WO_st, WO_nilck, WO_bin, WO_eq, WO_un, WO_cvt, WO_mkf, WO_mks, WO_slc, WO_fad, WO_fld, WO_ixa, WO_ixp, WO_ix, WO_ext, WO_ixs, WO_clr, WO_len, WO_app, WO_min, WO_max, aOp, ev, evs, Am.get, Am.put, putd, keepIn, mem, binA, arith, unA, eqA, eqc, isNil, lenA, idx, bnd, bndO, rdc, AV.cells, AV.leaf, allLeaf, ovw, blk, sliceCells, flatCells, rep, fillA, okDraw, Fp.ok, List.getD, minA, minF, Ex.thn, Ex.blk]; refine hK _ ?_; clear hK; refine W_condF (by simp [h1, ev, Am.get]) ?_; refine W_skip ?_; refine hK _ ?_; clear hK
    by_cases h2 : y < x
    · refine W_seq fun K hK => ?_; refine W_seq fun K hK => W_reg ?_; simp [rCmpCompareIntX11, ints, WO_nil_iff, WO_grd, flatCells_ints, allLeaf_ints, WO_mv, WO_pick, WO_new, WO_box, WO_build, WO_bslice, WO_ld, WO_st, WO_nilck, WO_bin, WO_eq, WO_un, WO_cvt, WO_mkf, WO_mks, WO_slc, WO_fad, WO_fld, WO_ixa, WO_ixp, WO_ix, WO_ext, WO_ixs, WO_clr, WO_len, WO_app, WO_min, WO_max, aOp, ev, evs, Am.get, Am.put, putd, keepIn, mem, binA, arith, unA, eqA, eqc, isNil, lenA, idx, bnd, bndO, rdc, AV.cells, AV.leaf, allLeaf, ovw, blk, sliceCells, flatCells, rep, fillA, okDraw, Fp.ok, List.getD, minA, minF, Ex.thn, Ex.blk]; refine hK _ ?_; clear hK; refine W_condT (by simp [h2, ev, Am.get]) ?_
      refine W_seq fun K hK => W_reg ?_; simp [rCmpCompareIntX12, ints, WO_nil_iff, WO_grd, flatCells_ints, allLeaf_ints, WO_mv, WO_pick, WO_new, WO_box, WO_build, WO_bslice, WO_ld, WO_st, WO_nilck, WO_bin, WO_eq, WO_un, WO_cvt, WO_mkf, WO_mks, WO_slc, WO_fad, WO_fld, WO_ixa, WO_ixp, WO_ix, WO_ext, WO_ixs, WO_clr, WO_len, WO_app, WO_min, WO_max, aOp, ev, evs, Am.get, Am.put, putd, keepIn, mem, binA, arith, unA, eqA, eqc, isNil, lenA, idx, bnd, bndO, rdc, AV.cells, AV.leaf, allLeaf, ovw, blk, sliceCells, flatCells, rep, fillA, okDraw, Fp.ok, List.getD, minA, minF, Ex.thn, Ex.blk]; refine hK _ ?_; clear hK
      refine W_ret ?_
      simp [resL, resA, Am.get, tupOf, Ex.thn, cmp3, h1, h2]
    · refine W_seq fun K hK => ?_; refine W_seq fun K hK => W_reg ?_; simp [rCmpCompareIntX11, ints, WO_nil_iff, WO_grd, flatCells_ints, allLeaf_ints, WO_mv, WO_pick, WO_new, WO_box, WO_build, WO_bslice, WO_ld, WO_st, WO_nilck, WO_bin, WO_eq, WO_un, WO_cvt, WO_mkf, WO_mks, WO_slc, WO_fad, WO_fld, WO_ixa, WO_ixp, WO_ix, WO_ext, WO_ixs, WO_clr, WO_len, WO_app, WO_min, WO_max, aOp, ev, evs, Am.get, Am.put, putd, keepIn, mem, binA, arith, unA, eqA, eqc, isNil, lenA, idx, bnd, bndO, rdc, AV.cells, AV.leaf, allLeaf, ovw, blk, sliceCells, flatCells, rep, fillA, okDraw, Fp.ok, List.getD, minA, minF, Ex.thn, Ex.blk]; refine hK _ ?_; clear hK; refine W_condF (by simp [h2, ev, Am.get]) ?_; refine W_skip ?_; refine hK _ ?_; clear hK
      refine W_seq fun K hK => W_reg ?_; simp [rCmpCompareIntX13, ints, WO_nil_iff, WO_grd, flatCells_ints, allLeaf_ints, WO_mv, WO_pick, WO_new, WO_box, WO_build, WO_bslice, WO_ld, WO_st, WO_nilck, WO_bin, WO_eq, WO_un, WO_cvt, WO_mkf, WO_mks, WO_slc, WO_fad, WO_fld, WO_ixa, WO_ixp, WO_ix, WO_ext, WO_ixs, WO_clr, WO_len, WO_app, WO_min, WO_max, aOp, ev, evs, Am.get, Am.put, putd, keepIn, mem, binA, arith, unA, eqA, eqc, isNil, lenA, idx, bnd, bndO, rdc, AV.cells, AV.leaf, allLeaf, ovw, blk, sliceCells, flatCells, rep, fillA, okDraw, Fp.ok, List.getD, minA, minF, Ex.thn, Ex.blk]; refine hK _ ?_; clear hK
      refine W_ret ?_
      simp [resL, resA, Am.get, tupOf, Ex.thn, cmp3, h1, h2]

def cmpL : List Int → List Int → Int
  | [], [] => 0
  | [], _ :: _ => -1
  | _ :: _, [] => 1
  | x :: r, y :: s => if x < y then -1 else if y < x then 1 else cmpL r s
theorem cmpL_self : ∀ a, cmpL a a = 0
  | [] => rfl
  | x :: r => by simp [cmpL, cmpL_self r]
theorem cmpL_zero {a b : List Int} : cmpL a b = 0 ↔ a = b := by
  constructor
  · induction a generalizing b with
    | nil => cases b <;> simp [cmpL]
    | cons x r ih =>
      cases b with
      | nil => simp [cmpL]
      | cons y s =>
        unfold cmpL
        split
        · simp
        · split
          · simp
          · intro h
            rw [ih h, show x = y by omega]
  · rintro rfl; exact cmpL_self a
theorem cmpL_anti : ∀ a b, cmpL b a = - cmpL a b
  | [], [] => rfl
  | [], _ :: _ => rfl
  | _ :: _, [] => rfl
  | x :: r, y :: s => by
    unfold cmpL
    by_cases h1 : x < y
    · have : ¬ y < x := by omega
      simp [h1, this]
    · by_cases h2 : y < x
      · simp [h1, h2]
      · simp [h1, h2, cmpL_anti r s]
theorem cmpL_rng : ∀ a b, cmpL a b = -1 ∨ cmpL a b = 0 ∨ cmpL a b = 1
  | [], [] => by simp [cmpL]
  | [], _ :: _ => by simp [cmpL]
  | _ :: _, [] => by simp [cmpL]
  | x :: r, y :: s => by
    unfold cmpL
    split
    · simp
    · split
      · simp
      · exact cmpL_rng r s
theorem cmpL_trans : ∀ a b c, cmpL a b ≤ 0 → cmpL b c ≤ 0 → cmpL a c ≤ 0
  | [], _, [], _, _ => by simp [cmpL]
  | [], _, _ :: _, _, _ => by simp [cmpL]
  | _ :: _, [], _, h, _ => by simp [cmpL] at h
  | _ :: _, _ :: _, [], _, h => by simp [cmpL] at h
  | x :: r, y :: s, z :: t, h1, h2 => by
    unfold cmpL at h1 h2 ⊢
    by_cases hxz : x < z
    · simp [hxz]
    · by_cases hxy : x < y
      · by_cases hyz : y < z
        · omega
        · rw [if_neg hyz] at h2
          by_cases hzy : z < y
          · simp [hzy] at h2
          · omega
      · rw [if_neg hxy] at h1
        by_cases hyx : y < x
        · simp [hyx] at h1
        · rw [if_neg hyx] at h1
          obtain rfl : x = y := by omega
          rw [if_neg hxz] at h2
          rw [if_neg hxz]
          by_cases hzx : z < x
          · simp [hzx] at h2
          · rw [if_neg hzx] at h2
            rw [if_neg hzx]
            exact cmpL_trans r s t h1 h2
theorem cmpL_snoc : ∀ (a : List Int) (x : Int) (r : List Int), cmpL a (a ++ x :: r) = -1
  | [], _, _ => rfl
  | y :: s, x, r => by simp [cmpL, cmpL_snoc s x r]
theorem cmpL_take (a : List Int) (h : a ≠ []) : cmpL (a.take (a.length - 1)) a = -1 := by
  have h0 : 0 < a.length := List.length_pos_iff.mpr h
  have e : a = a.take (a.length - 1) ++ a.drop (a.length - 1) := (List.take_append_drop _ _).symm
  have e2 : a.drop (a.length - 1) = a[a.length - 1]'(by omega) :: a.drop (a.length - 1 + 1) := List.drop_eq_getElem_cons (by omega)
  rw [e2] at e
  generalize a.take (a.length - 1) = u at e ⊢
  rw [e]
  exact cmpL_snoc _ _ _
theorem wrap_i64 {x : Int} (h0 : -9223372036854775808 ≤ x) (h1 : x ≤ 9223372036854775807) : IntKind.i64.wrap x = x := by rw [IntKind.wrap_i64]; omega
theorem cmpLoop (a b : List Int) (hl : a.length ≤ 9223372036854775807) (Q : Ex → St → Prop) (hr : Q .ret ⟨[(4, .int .i64 (cmpL a b))], []⟩)
    (he : cmpL a b = (if a.length < b.length then -1 else 0) → Q (.exit 0) ⟨[(0, ints a), (1, ints b), (9, ints a), (10, .int .i64 a.length), (11, .int .i64 a.length), (12, .bool false)], []⟩) :
    ∀ m k, a.length = k + m → k ≤ b.length → cmpL (a.drop k) (b.drop k) = cmpL a b → W cfgS (.loop lSlicesCompareIntIntX0) ⟨[(0, ints a), (1, ints b), (9, ints a), (10, .int .i64 a.length), (11, .int .i64 k)], []⟩ Q := by
  intro m
  induction m with
  | zero =>
    intro k hk hkb hc
    have hk' : k = a.length := by omega
    subst hk'
    have hP : cmpL a b = (if a.length < b.length then -1 else 0) := by
      rw [← hc, List.drop_length]
      cases hd : b.drop a.length with
      | nil => have := congrArg List.length hd; simp at this; rw [if_neg (by omega)]; rfl
      | cons y s => have := congrArg List.length hd; simp at this; rw [if_pos (by omega)]; rfl
    refine W_loop ?_
    simp only [lSlicesCompareIntIntX0]
    refine W_seq fun K hK => W_reg ?_; simp [rSlicesCompareIntIntX2, ints, WO_nil_iff, WO_grd, flatCells_ints, allLeaf_ints, WO_mv, WO_pick, WO_new, WO_box, WO_build, WO_bslice, WO_ld, WO_st, WO_nilck, WO_bin, WO_eq, WO_un, WO_cvt, WO_mkf, WO_mks, WO_slc, WO_fad, WO_fld, WO_ixa, WO_ixp, WO_ix, WO_ext, WO_ixs, WO_clr, WO_len, WO_app, WO_min, WO_max, aOp, ev, evs, Am.get, Am.put, putd, keepIn, mem, binA, arith, unA, eqA, eqc, isNil, lenA, idx, bnd, bndO, rdc, AV.cells, AV.leaf, allLeaf, ovw, blk, sliceCells, flatCells, rep, fillA, okDraw, Fp.ok, List.getD, minA, minF, Ex.thn, Ex.blk]; refine hK _ ?_; clear hK
    refine W_seq fun K hK => ?_; refine W_condF (by simp [ev, Am.get]) ?_; refine W_exit ?_
    exact he hP
  | succ m ih =>
    intro k hk hkb hc
    have hka : k < a.length := by omega
    have hda : a.drop k = a[k] :: a.drop (k + 1) := List.drop_eq_getElem_cons hka
    have hw : IntKind.i64.wrap ((k : Int) + 1) = (k : Int) + 1 := wrap_i64 (by omega) (by omega)
    refine W_loop ?_
    simp only [lSlicesCompareIntIntX0]
    refine W_seq fun K hK => W_reg ?_; simp [rSlicesCompareIntIntX2, ints, WO_nil_iff, WO_grd, flatCells_ints, allLeaf_ints, WO_mv, WO_pick, WO_new, WO_box, WO_build, WO_bslice, WO_ld, WO_st, WO_nilck, WO_bin, WO_eq, WO_un, WO_cvt, WO_mkf, WO_mks, WO_slc, WO_fad, WO_fld, WO_ixa, WO_ixp, WO_ix, WO_ext, WO_ixs, WO_clr, WO_len, WO_app, WO_min, WO_max, aOp, ev, evs, Am.get, Am.put, putd, keepIn, mem, binA, arith, unA, eqA, eqc, isNil, lenA, idx, bnd, bndO, rdc, AV.cells, AV.leaf, allLeaf, ovw, blk, sliceCells, flatCells, rep, fillA, okDraw, Fp.ok, List.getD, minA, minF, Ex.thn, Ex.blk]; refine hK _ ?_; clear hK
    refine W_seq fun K hK => ?_; refine W_condT (by simp [hka, ev, Am.get]) ?_; refine W_skip ?_; refine hK _ ?_; clear hK
    refine W_seq fun K hK => ?_; refine W_blk ?_
    refine W_seq fun K hK => W_reg ?_; simp [rSlicesCompareIntIntX3, hka, ints, WO_nil_iff, WO_grd, flatCells_ints, allLeaf_ints, WO_mv, WO_pick, WO_new, WO_box, WO_build, WO_bslice, WO_ld, WO_st, WO_nilck, WO_bin, WO_eq, WO_un, WO_cvt, WO_mkf, WO_mks, WO_slc, WO_fad, WO_fld, WO_ixa, WO_ixp, WO_ix, WO_ext, WO_ixs, WO_clr, WO_len, WO_app, WO_min, WO_max, aOp, ev, evs, Am.get, Am.put, putd, keepIn, mem, binA, arith, unA, eqA, eqc, isNil, lenA, idx, bnd, bndO, rdc, AV.cells, AV.leaf, allLeaf, ovw, blk, sliceCells, flatCells, rep, fillA, okDraw, Fp.ok, List.getD, minA, minF, Ex.thn, Ex.blk]; refine hK _ ?_; clear hK
    by_cases hkl : k < b.length
    · have hdb : b.drop k = b[k] :: b.drop (k + 1) := List.drop_eq_getElem_cons hkl
      have hkl' : ¬ b.length ≤ k := by omega
      rw [hda, hdb, cmpL] at hc
      refine W_seq fun K hK => ?_; refine W_seq fun K hK => W_reg ?_; simp [rSlicesCompareIntIntX4, ints, WO_nil_iff, WO_grd, flatCells_ints, allLeaf_ints, WO_mv, WO_pick, WO_new, WO_box, WO_build, WO_bslice, WO_ld, WO_st, WO_nilck, WO_bin, WO_eq, WO_un, WO_cvt, WO_mkf, WO_mks, WO_slc, WO_fad, WO_fld, WO_ixa, WO_ixp, WO_ix, WO_ext, WO_ixs, WO_clr, WO_len, WO_app, WO_min, WO_max, aOp, ev, evs, Am.get, Am.put, putd, keepIn, mem, binA, arith, unA, eqA, eqc, isNil, lenA, idx, bnd, bndO, rdc, AV.cells, AV.leaf, allLeaf, ovw, blk, sliceCells, flatCells, rep, fillA, okDraw, Fp.ok, List.getD, minA, minF, Ex.thn, Ex.blk]; refine hK _ ?_; clear hK; refine W_condF (by simp [hkl, ev, Am.get]) ?_; refine W_skip ?_; refine hK _ ?_; clear hK
      refine W_seq fun K hK => W_reg ?_; simp [rSlicesCompareIntIntX6, hkl, ints, WO_nil_iff, WO_grd, flatCells_ints, allLeaf_ints, WO_mv, WO_pick, WO_new, WO_box, WO_build, WO_bslice, WO_ld, WO_st, WO_nilck, WO_bin, WO_eq, WO_un, WO_cvt, WO_mkf, WO_mks, WO_slc, WO_fad, WO_fld, WO_ixa, WO_ixp, WO_ix, WO_ext, WO_ixs, WO_clr, WO_len, WO_app, WO_min, WO_max, aOp, ev, evs, Am.get, Am.put, putd, keepIn, mem, binA, arith, unA, eqA, eqc, isNil, lenA, idx, bnd, bndO, rdc, AV.cells, AV.leaf, allLeaf, ovw, blk, sliceCells, flatCells, rep, fillA, okDraw, Fp.ok, List.getD, minA, minF, Ex.thn, Ex.blk]; refine hK _ ?_; clear hK
      refine W_seq fun K hK => W_reg ?_; simp [rSlicesCompareIntIntX7, ints, WO_nil_iff, WO_grd, flatCells_ints, allLeaf_ints, WO_mv, WO_pick, WO_new, WO_box, WO_build, WO_bslice, WO_ld, WO_st, WO_nilck, WO_bin, WO_eq, WO_un, WO_cvt, WO_mkf, WO_mks, WO_slc, WO_fad, WO_fld, WO_ixa, WO_ixp, WO_ix, WO_ext, WO_ixs, WO_clr, WO_len, WO_app, WO_min, WO_max, aOp, ev, evs, Am.get, Am.put, putd, keepIn, mem, binA, arith, unA, eqA, eqc, isNil, lenA, idx, bnd, bndO, rdc, AV.cells, AV.leaf, allLeaf, ovw, blk, sliceCells, flatCells, rep, fillA, okDraw, Fp.ok, List.getD, minA, minF, Ex.thn, Ex.blk]
      refine WO_callP gCmpCompareInt rfl (compare_pu a[k] b[k]) ?_
      simp [ints, WO_nil_iff, WO_grd, flatCells_ints, allLeaf_ints, WO_mv, WO_pick, WO_new, WO_box, WO_build, WO_bslice, WO_ld, WO_st, WO_nilck, WO_bin, WO_eq, WO_un, WO_cvt, WO_mkf, WO_mks, WO_slc, WO_fad, WO_fld, WO_ixa, WO_ixp, WO_ix, WO_ext, WO_ixs, WO_clr, WO_len, WO_app, WO_min, WO_max, aOp, ev, evs, Am.get, Am.put, putd, keepIn, mem, binA, arith, unA, eqA, eqc, isNil, lenA, idx, bnd, bndO, rdc, AV.cells, AV.leaf, allLeaf, ovw, blk, sliceCells, flatCells, rep, fillA, okDraw, Fp.ok, List.getD, minA, minF, Ex.thn, Ex.blk]; refine hK _ ?_; clear hK
      by_cases h1 : a[k] < b[k]
      · have hc3 : cmp3 a[k] b[k] = -1 := by simp [cmp3, h1]
        rw [if_pos h1] at hc
        refine W_seq fun K hK => W_reg ?_; simp [rSlicesCompareIntIntX8, hc3, ints, WO_nil_iff, WO_grd, flatCells_ints, allLeaf_ints, WO_mv, WO_pick, WO_new, WO_box, WO_build, WO_bslice, WO_ld, WO_st, WO_nilck, WO_bin, WO_eq, WO_un, WO_cvt, WO_mkf, WO_mks, WO_slc, WO_fad, WO_fld, WO_ixa, WO_ixp, WO_ix, WO_ext, WO_ixs, WO_clr, WO_len, WO_app, WO_min, WO_max, aOp, ev, evs, Am.get, Am.put, putd, keepIn, mem, binA, arith, unA, eqA, eqc, isNil, lenA, idx, bnd, bndO, rdc, AV.cells, AV.leaf, allLeaf, ovw, blk, sliceCells, flatCells, rep, fillA, okDraw, Fp.ok, List.getD, minA, minF, Ex.thn, Ex.blk]; refine hK _ ?_; clear hK; refine W_condT (by simp [ev, Am.get]) ?_
        refine W_seq fun K hK => W_reg ?_; simp [rSlicesCompareIntIntX9, ints, WO_nil_iff, WO_grd, flatCells_ints, allLeaf_ints, WO_mv, WO_pick, WO_new, WO_box, WO_build, WO_bslice, WO_ld, WO_st, WO_nilck, WO_bin, WO_eq, WO_un, WO_cvt, WO_mkf, WO_mks, WO_slc, WO_fad, WO_fld, WO_ixa, WO_ixp, WO_ix, WO_ext, WO_ixs, WO_clr, WO_len, WO_app, WO_min, WO_max, aOp, ev, evs, Am.get, Am.put, putd, keepIn, mem, binA, arith, unA, eqA, eqc, isNil, lenA, idx, bnd, bndO, rdc, AV.cells, AV.leaf, allLeaf, ovw, blk, sliceCells, flatCells, rep, fillA, okDraw, Fp.ok, List.getD, minA, minF, Ex.thn, Ex.blk]; refine hK _ ?_; clear hK
        refine W_ret ?_
        rw [← hc] at hr
        exact hr
      · rw [if_neg h1] at hc
        by_cases h2 : b[k] < a[k]
        · have hc3 : cmp3 a[k] b[k] = 1 := by simp [cmp3, h1, h2]
          rw [if_pos h2] at hc
          refine W_seq fun K hK => W_reg ?_; simp [rSlicesCompareIntIntX8, hc3, ints, WO_nil_iff, WO_grd, flatCells_ints, allLeaf_ints, WO_mv, WO_pick, WO_new, WO_box, WO_build, WO_bslice, WO_ld, WO_st, WO_nilck, WO_bin, WO_eq, WO_un, WO_cvt, WO_mkf, WO_mks, WO_slc, WO_fad, WO_fld, WO_ixa, WO_ixp, WO_ix, WO_ext, WO_ixs, WO_clr, WO_len, WO_app, WO_min, WO_max, aOp, ev, evs, Am.get, Am.put, putd, keepIn, mem, binA, arith, unA, eqA, eqc, isNil, lenA, idx, bnd, bndO, rdc, AV.cells, AV.leaf, allLeaf, ovw, blk, sliceCells, flatCells, rep, fillA, okDraw, Fp.ok, List.getD, minA, minF, Ex.thn, Ex.blk]; refine hK _ ?_; clear hK; refine W_condT (by simp [ev, Am.get]) ?_
          refine W_seq fun K hK => W_reg ?_; simp [rSlicesCompareIntIntX9, ints, WO_nil_iff, WO_grd, flatCells_ints, allLeaf_ints, WO_mv, WO_pick, WO_new, WO_box, WO_build, WO_bslice, WO_ld, WO_st, WO_nilck, WO_bin, WO_eq, WO_un, WO_cvt, WO_mkf, WO_mks, WO_slc, WO_fad, WO_fld, WO_ixa, WO_ixp, WO_ix, WO_ext, WO_ixs, WO_clr, WO_len, WO_app, WO_min, WO_max, aOp, ev, evs, Am.get, Am.put, putd, keepIn, mem, binA, arith, unA, eqA, eqc, isNil, lenA, idx, bnd, bndO, rdc, AV.cells, AV.leaf, allLeaf, ovw, blk, sliceCells, flatCells, rep, fillA, okDraw, Fp.ok, List.getD, minA, minF, Ex.thn, Ex.blk]; refine hK _ ?_; clear hK
          refine W_ret ?_
          rw [← hc] at hr
          exact hr
        · rw [if_neg h2] at hc
          have hc3 : cmp3 a[k] b[k] = 0 := by simp [cmp3, h1, h2]
          refine W_seq fun K hK => W_reg ?_; simp [rSlicesCompareIntIntX8, hc3, ints, WO_nil_iff, WO_grd, flatCells_ints, allLeaf_ints, WO_mv, WO_pick, WO_new, WO_box, WO_build, WO_bslice, WO_ld, WO_st, WO_nilck, WO_bin, WO_eq, WO_un, WO_cvt, WO_mkf, WO_mks, WO_slc, WO_fad, WO_fld, WO_ixa, WO_ixp, WO_ix, WO_ext, WO_ixs, WO_clr, WO_len, WO_app, WO_min, WO_max, aOp, ev, evs, Am.get, Am.put, putd, keepIn, mem, binA, arith, unA, eqA, eqc, isNil, lenA, idx, bnd, bndO, rdc, AV.cells, AV.leaf, allLeaf, ovw, blk, sliceCells, flatCells, rep, fillA, okDraw, Fp.ok, List.getD, minA, minF, Ex.thn, Ex.blk]; refine hK _ ?_; clear hK; refine W_condF (by simp [ev, Am.get]) ?_
          refine W_skip ?_
          refine hK _ ?_; clear hK
          refine W_reg ?_; simp [rSlicesCompareIntIntX10, hw, ints, WO_nil_iff, WO_grd, flatCells_ints, allLeaf_ints, WO_mv, WO_pick, WO_new, WO_box, WO_build, WO_bslice, WO_ld, WO_st, WO_nilck, WO_bin, WO_eq, WO_un, WO_cvt, WO_mkf, WO_mks, WO_slc, WO_fad, WO_fld, WO_ixa, WO_ixp, WO_ix, WO_ext, WO_ixs, WO_clr, WO_len, WO_app, WO_min, WO_max, aOp, ev, evs, Am.get, Am.put, putd, keepIn, mem, binA, arith, unA, eqA, eqc, isNil, lenA, idx, bnd, bndO, rdc, AV.cells, AV.leaf, allLeaf, ovw, blk, sliceCells, flatCells, rep, fillA, okDraw, Fp.ok, List.getD, minA, minF, Ex.thn, Ex.blk]
          exact ih (k + 1) (by omega) (by omega) hc
    · have hkl' : b.length ≤ k := by omega
      have hdb : b.drop k = [] := List.drop_eq_nil_of_le hkl'
      rw [hda, hdb, cmpL] at hc
      refine W_seq fun K hK => ?_; refine W_seq fun K hK => W_reg ?_; simp [rSlicesCompareIntIntX4, ints, WO_nil_iff, WO_grd, flatCells_ints, allLeaf_ints, WO_mv, WO_pick, WO_new, WO_box, WO_build, WO_bslice, WO_ld, WO_st, WO_nilck, WO_bin, WO_eq, WO_un, WO_cvt, WO_mkf, WO_mks, WO_slc, WO_fad, WO_fld, WO_ixa, WO_ixp, WO_ix, WO_ext, WO_ixs, WO_clr, WO_len, WO_app, WO_min, WO_max, aOp, ev, evs, Am.get, Am.put, putd, keepIn, mem, binA, arith, unA, eqA, eqc, isNil, lenA, idx, bnd, bndO, rdc, AV.cells, AV.leaf, allLeaf, ovw, blk, sliceCells, flatCells, rep, fillA, okDraw, Fp.ok, List.getD, minA, minF, Ex.thn, Ex.blk]; refine hK _ ?_; clear hK; refine W_condT (by simp [hkl', ev, Am.get]) ?_
      refine W_seq fun K hK => W_reg ?_; simp [rSlicesCompareIntIntX5, ints, WO_nil_iff, WO_grd, flatCells_ints, allLeaf_ints, WO_mv, WO_pick, WO_new, WO_box, WO_build, WO_bslice, WO_ld, WO_st, WO_nilck, WO_bin, WO_eq, WO_un, WO_cvt, WO_mkf, WO_mks, WO_slc, WO_fad, WO_fld, WO_ixa, WO_ixp, WO_ix, WO_ext, WO_ixs, WO_clr, WO_len, WO_app, WO_min, WO_max, aOp, ev, evs, Am.get, Am.put, putd, keepIn, mem, binA, arith, unA, eqA, eqc, isNil, lenA, idx, bnd, bndO, rdc, AV.cells, AV.leaf, allLeaf, ovw, blk, sliceCells, flatCells, rep, fillA, okDraw, Fp.ok, List.getD, minA, minF, Ex.thn, Ex.blk]; refine hK _ ?_; clear hK
      refine W_ret ?_
      rw [← hc] at hr
      exact hr
theorem slicesCompare_pu (a b : List Int) (hl : a.length ≤ 9223372036854775807) : Pu cfgS nSlicesCompareIntInt [ints a, ints b] (.int .i64 (cmpL a b)) := by
  refine Pu.of0 (H1 := []) (Cl.of rfl gSlicesCompareIntInt (by simp [qSlicesCompareIntInt]) ?_) rfl
  simp only [qSlicesCompareIntInt, cSlicesCompareIntInt, mkEnv]
  refine W_seq fun K hK => W_reg ?_; simp [rSlicesCompareIntIntX0, ints, WO_nil_iff, WO_grd, flatCells_ints, allLeaf_ints, WO_mv, WO_pick, WO_new, WO_box, WO_build, WO_bslice, WO_ld, WO_st, WO_nilck, WO_bin, WO_eq, WO_un, WO_cvt, WO_mkf, WO_mks, WO_slc, WO_fad, WO_fld, WO_ixa, WO_ixp, WO_ix, WO_ext, WO_ixs, WO_clr, WO_len, WO_app, WO_min, WO_max, aOp, ev, evs, Am.get, Am.put, putd, keepIn, mem, binA, arith, unA, eqA, eqc, isNil, lenA, idx, bnd, bndO, rdc, AV.cells, AV.leaf, allLeaf, ovw, blk, sliceCells, flatCells, rep, fillA, okDraw, Fp.ok, List.getD, minA, minF, Ex.thn, Ex.blk]; refine hK _ ?_; clear hK
  refine W_seq fun K hK => ?_; refine W_seq fun K hK => W_reg ?_; simp [rSlicesCompareIntIntX1, ints, WO_nil_iff, WO_grd, flatCells_ints, allLeaf_ints, WO_mv, WO_pick, WO_new, WO_box, WO_build, WO_bslice, WO_ld, WO_st, WO_nilck, WO_bin, WO_eq, WO_un, WO_cvt, WO_mkf, WO_mks, WO_slc, WO_fad, WO_fld, WO_ixa, WO_ixp, WO_ix, WO_ext, WO_ixs, WO_clr, WO_len, WO_app, WO_min, WO_max, aOp, ev, evs, Am.get, Am.put, putd, keepIn, mem, binA, arith, unA, eqA, eqc, isNil, lenA, idx, bnd, bndO, rdc, AV.cells, AV.leaf, allLeaf, ovw, blk, sliceCells, flatCells, rep, fillA, okDraw, Fp.ok, List.getD, minA, minF, Ex.thn, Ex.blk]; refine hK _ ?_; clear hK
  refine W_blk ?_
  refine cmpLoop a b hl _ ?_ ?_ a.length 0 (by omega) (by omega) rfl
  · simp [Ex.blk, Ex.thn, resL, resA, Am.get, tupOf]
  · intro hP
    simp only [Ex.blk, if_true, Ex.thn]
    refine hK _ ?_; clear hK
    by_cases h : a.length < b.length
    · refine W_seq fun K hK => ?_; refine W_seq fun K hK => W_reg ?_; simp [rSlicesCompareIntIntX11, ints, WO_nil_iff, WO_grd, flatCells_ints, allLeaf_ints, WO_mv, WO_pick, WO_new, WO_box, WO_build, WO_bslice, WO_ld, WO_st, WO_nilck, WO_bin, WO_eq, WO_un, WO_cvt, WO_mkf, WO_mks, WO_slc, WO_fad, WO_fld, WO_ixa, WO_ixp, WO_ix, WO_ext, WO_ixs, WO_clr, WO_len, WO_app, WO_min, WO_max, aOp, ev, evs, Am.get, Am.put, putd, keepIn, mem, binA, arith, unA, eqA, eqc, isNil, lenA, idx, bnd, bndO, rdc, AV.cells, AV.leaf, allLeaf, ovw, blk, sliceCells, flatCells, rep, fillA, okDraw, Fp.ok, List.getD, minA, minF, Ex.thn, Ex.blk]; refine hK _ ?_; clear hK; refine W_condT (by simp [h, ev, Am.get]) ?_
      refine W_seq fun K hK => W_reg ?_; simp [rSlicesCompareIntIntX12, ints, WO_nil_iff, WO_grd, flatCells_ints, allLeaf_ints, WO_mv, WO_pick, WO_new, WO_box, WO_build, WO_bslice, WO_ld, WO_st, WO_nilck, WO_bin, WO_eq, WO_un, WO_cvt, WO_mkf, WO_mks, WO_slc, WO_fad, WO_fld, WO_ixa, WO_ixp, WO_ix, WO_ext, WO_ixs, WO_clr, WO_len, WO_app, WO_min, WO_max, aOp, ev, evs, Am.get, Am.put, putd, keepIn, mem, binA, arith, unA, eqA, eqc, isNil, lenA, idx, bnd, bndO, rdc, AV.cells, AV.leaf, allLeaf, ovw, blk, sliceCells, flatCells, rep, fillA, okDraw, Fp.ok, List.getD, minA, minF, Ex.thn, Ex.blk]; refine hK _ ?_; clear hK
      refine W_ret ?_
      simp [Ex.thn, resL, resA, Am.get, tupOf, hP, h]
    · refine W_seq fun K hK => ?_; refine W_seq fun K hK => W_reg ?_; simp [rSlicesCompareIntIntX11, ints, WO_nil_iff, WO_grd, flatCells_ints, allLeaf_ints, WO_mv, WO_pick, WO_new, WO_box, WO_build, WO_bslice, WO_ld, WO_st, WO_nilck, WO_bin, WO_eq, WO_un, WO_cvt, WO_mkf, WO_mks, WO_slc, WO_fad, WO_fld, WO_ixa, WO_ixp, WO_ix, WO_ext, WO_ixs, WO_clr, WO_len, WO_app, WO_min, WO_max, aOp, ev, evs, Am.get, Am.put, putd, keepIn, mem, binA, arith, unA, eqA, eqc, isNil, lenA, idx, bnd, bndO, rdc, AV.cells, AV.leaf, allLeaf, ovw, blk, sliceCells, flatCells, rep, fillA, okDraw, Fp.ok, List.getD, minA, minF, Ex.thn, Ex.blk]; refine hK _ ?_; clear hK; refine W_condF (by simp [h, ev, Am.get]) ?_; refine W_skip ?_; refine hK _ ?_; clear hK
      refine W_seq fun K hK => W_reg ?_; simp [rSlicesCompareIntIntX13, ints, WO_nil_iff, WO_grd, flatCells_ints, allLeaf_ints, WO_mv, WO_pick, WO_new, WO_box, WO_build, WO_bslice, WO_ld, WO_st, WO_nilck, WO_bin, WO_eq, WO_un, WO_cvt, WO_mkf, WO_mks, WO_slc, WO_fad, WO_fld, WO_ixa, WO_ixp, WO_ix, WO_ext, WO_ixs, WO_clr, WO_len, WO_app, WO_min, WO_max, aOp, ev, evs, Am.get, Am.put, putd, keepIn, mem, binA, arith, unA, eqA, eqc, isNil, lenA, idx, bnd, bndO, rdc, AV.cells, AV.leaf, allLeaf, ovw, blk, sliceCells, flatCells, rep, fillA, okDraw, Fp.ok, List.getD, minA, minF, Ex.thn, Ex.blk]; refine hK _ ?_; clear hK
      refine W_ret ?_
      simp [Ex.thn, resL, resA, Am.get, tupOf, hP, h]
theorem nodesetCmp_pu (a b : List Int) (hl : a.length ≤ 9223372036854775807) : Pu cfgS nNodesetCmp [ints a, ints b] (.int .i64 (cmpL a b)) := by
  refine Pu.of0 (H1 := []) (Cl.of rfl gNodesetCmp (by simp [qNodesetCmp]) ?_) rfl
  simp only [qNodesetCmp, cNodesetCmp, mkEnv]
  refine W_seq fun K hK => W_reg ?_; simp [rNodesetCmpX0, ints, WO_nil_iff, WO_grd, flatCells_ints, allLeaf_ints, WO_mv, WO_pick, WO_new, WO_box, WO_build, WO_bslice, WO_ld, WO_st, WO_nilck, WO_bin, WO_eq, WO_un, WO_cvt, WO_mkf, WO_mks, WO_slc, WO_fad, WO_fld, WO_ixa, WO_ixp, WO_ix, WO_ext, WO_ixs, WO_clr, WO_len, WO_app, WO_min, WO_max, aOp, ev, evs, Am.get, Am.put, putd, keepIn, mem, binA, arith, unA, eqA, eqc, isNil, lenA, idx, bnd, bndO, rdc, AV.cells, AV.leaf, allLeaf, ovw, blk, sliceCells, flatCells, rep, fillA, okDraw, Fp.ok, List.getD, minA, minF, Ex.thn, Ex.blk]; refine hK _ ?_; clear hK
  refine W_seq fun K hK => W_reg ?_; simp [rNodesetCmpX1, ints, WO_nil_iff, WO_grd, flatCells_ints, allLeaf_ints, WO_mv, WO_pick, WO_new, WO_box, WO_build, WO_bslice, WO_ld, WO_st, WO_nilck, WO_bin, WO_eq, WO_un, WO_cvt, WO_mkf, WO_mks, WO_slc, WO_fad, WO_fld, WO_ixa, WO_ixp, WO_ix, WO_ext, WO_ixs, WO_clr, WO_len, WO_app, WO_min, WO_max, aOp, ev, evs, Am.get, Am.put, putd, keepIn, mem, binA, arith, unA, eqA, eqc, isNil, lenA, idx, bnd, bndO, rdc, AV.cells, AV.leaf, allLeaf, ovw, blk, sliceCells, flatCells, rep, fillA, okDraw, Fp.ok, List.getD, minA, minF, Ex.thn, Ex.blk]
  refine WO_callP gSlicesCompareIntInt rfl (slicesCompare_pu a b hl) ?_
  simp [ints, WO_nil_iff, WO_grd, flatCells_ints, allLeaf_ints, WO_mv, WO_pick, WO_new, WO_box, WO_build, WO_bslice, WO_ld, WO_st, WO_nilck, WO_bin, WO_eq, WO_un, WO_cvt, WO_mkf, WO_mks, WO_slc, WO_fad, WO_fld, WO_ixa, WO_ixp, WO_ix, WO_ext, WO_ixs, WO_clr, WO_len, WO_app, WO_min, WO_max, aOp, ev, evs, Am.get, Am.put, putd, keepIn, mem, binA, arith, unA, eqA, eqc, isNil, lenA, idx, bnd, bndO, rdc, AV.cells, AV.leaf, allLeaf, ovw, blk, sliceCells, flatCells, rep, fillA, okDraw, Fp.ok, List.getD, minA, minF, Ex.thn, Ex.blk]; refine hK _ ?_; clear hK
  refine W_ret ?_
  simp [resL, resA, Am.get, tupOf]
theorem refCmpLoop (a b : List Int) (hl : a.length ≤ 9223372036854775807) (Q : Ex → St → Prop) (hr : ∀ s, Am.get s.env 4 = .int .i64 (cmpL a b) → s.H = [] → Q .ret s)
    (he : cmpL a b = (if a.length < b.length then -1 else 0) → Q (.exit 0) ⟨[(0, ints a), (1, ints b), (7, .int .i64 a.length), (8, .int .i64 a.length), (9, .bool false)], []⟩) :
    ∀ m k, a.length = k + m → k ≤ b.length → cmpL (a.drop k) (b.drop k) = cmpL a b → W cfgS (.loop lRef02CmpX0) ⟨[(0, ints a), (1, ints b), (7, .int .i64 a.length), (8, .int .i64 k)], []⟩ Q := by
  intro m
  induction m with
  | zero =>
    intro k hk hkb hc
    have hk' : k = a.length := by omega
    subst hk'
    have hP : cmpL a b = (if a.length < b.length then -1 else 0) := by
      rw [← hc, List.drop_length]
      cases hd : b.drop a.length with
      | nil => have := congrArg List.length hd; simp at this; rw [if_neg (by omega)]; rfl
      | cons y s => have := congrArg List.length hd; simp at this; rw [if_pos (by omega)]; rfl
    refine W_loop ?_
    simp only [lRef02CmpX0]
    refine W_seq fun K hK => W_reg ?_; simp [rRef02CmpX2, ints, WO_nil_iff, WO_grd, flatCells_ints, allLeaf_ints, WO_mv, WO_pick, WO_new, WO_box, WO_build, WO_bslice, WO_ld, WO_st, WO_nilck, WO_bin, WO_eq, WO_un, WO_cvt, WO_mkf, WO_mks, WO_slc, WO_fad, WO_fld, WO_ixa, WO_ixp, WO_ix, WO_ext, WO_ixs, WO_clr, WO_len, WO_app, WO_min, WO_max, aOp, ev, evs, Am.get, Am.put, putd, keepIn, mem, binA, arith, unA, eqA, eqc, isNil, lenA, idx, bnd, bndO, rdc, AV.cells, AV.leaf, allLeaf, ovw, blk, sliceCells, flatCells, rep, fillA, okDraw, Fp.ok, List.getD, minA, minF, Ex.thn, Ex.blk]; refine hK _ ?_; clear hK
    refine W_seq fun K hK => ?_; refine W_condF (by simp [ev, Am.get]) ?_; refine W_exit ?_
    exact he hP
  | succ m ih =>
    intro k hk hkb hc
    have hka : k < a.length := by omega
    have hda : a.drop k = a[k] :: a.drop (k + 1) := List.drop_eq_getElem_cons hka
    have hw : IntKind.i64.wrap ((k : Int) + 1) = (k : Int) + 1 := wrap_i64 (by omega) (by omega)
    refine W_loop ?_
    simp only [lRef02CmpX0]
    refine W_seq fun K hK => W_reg ?_; simp [rRef02CmpX2, ints, WO_nil_iff, WO_grd, flatCells_ints, allLeaf_ints, WO_mv, WO_pick, WO_new, WO_box, WO_build, WO_bslice, WO_ld, WO_st, WO_nilck, WO_bin, WO_eq, WO_un, WO_cvt, WO_mkf, WO_mks, WO_slc, WO_fad, WO_fld, WO_ixa, WO_ixp, WO_ix, WO_ext, WO_ixs, WO_clr, WO_len, WO_app, WO_min, WO_max, aOp, ev, evs, Am.get, Am.put, putd, keepIn, mem, binA, arith, unA, eqA, eqc, isNil, lenA, idx, bnd, bndO, rdc, AV.cells, AV.leaf, allLeaf, ovw, blk, sliceCells, flatCells, rep, fillA, okDraw, Fp.ok, List.getD, minA, minF, Ex.thn, Ex.blk]; refine hK _ ?_; clear hK
    refine W_seq fun K hK => ?_; refine W_condT (by simp [hka, ev, Am.get]) ?_; refine W_skip ?_; refine hK _ ?_; clear hK
    refine W_seq fun K hK => ?_; refine W_blk ?_
    refine W_seq fun K hK => W_reg ?_; simp [rRef02CmpX3, hka, ints, WO_nil_iff, WO_grd, flatCells_ints, allLeaf_ints, WO_mv, WO_pick, WO_new, WO_box, WO_build, WO_bslice, WO_ld, WO_st, WO_nilck, WO_bin, WO_eq, WO_un, WO_cvt, WO_mkf, WO_mks, WO_slc, WO_fad, WO_fld, WO_ixa, WO_ixp, WO_ix, WO_ext, WO_ixs, WO_clr, WO_len, WO_app, WO_min, WO_max, aOp, ev, evs, Am.get, Am.put, putd, keepIn, mem, binA, arith, unA, eqA, eqc, isNil, lenA, idx, bnd, bndO, rdc, AV.cells, AV.leaf, allLeaf, ovw, blk, sliceCells, flatCells, rep, fillA, okDraw, Fp.ok, List.getD, minA, minF, Ex.thn, Ex.blk]; refine hK _ ?_; clear hK
    refine W_blk ?_
    by_cases hkl : k < b.length
    · have hdb : b.drop k = b[k] :: b.drop (k + 1) := List.drop_eq_getElem_cons hkl
      have hkl' : ¬ b.length ≤ k := by omega
      rw [hda, hdb, cmpL] at hc
      by_cases h2 : b[k] < a[k]
      · have h1 : ¬ a[k] < b[k] := by omega
        rw [if_neg h1, if_pos h2] at hc
        refine W_seq fun K hK => W_reg ?_; simp [rRef02CmpX4, hka, hkl, hkl', h2, ints, WO_nil_iff, WO_grd, flatCells_ints, allLeaf_ints, WO_mv, WO_pick, WO_new, WO_box, WO_build, WO_bslice, WO_ld, WO_st, WO_nilck, WO_bin, WO_eq, WO_un, WO_cvt, WO_mkf, WO_mks, WO_slc, WO_fad, WO_fld, WO_ixa, WO_ixp, WO_ix, WO_ext, WO_ixs, WO_clr, WO_len, WO_app, WO_min, WO_max, aOp, ev, evs, Am.get, Am.put, putd, keepIn, mem, binA, arith, unA, eqA, eqc, isNil, lenA, idx, bnd, bndO, rdc, AV.cells, AV.leaf, allLeaf, ovw, blk, sliceCells, flatCells, rep, fillA, okDraw, Fp.ok, List.getD, minA, minF, Ex.thn, Ex.blk]; refine hK _ ?_; clear hK; refine W_condT (by simp [ev, Am.get]) ?_
        refine W_seq fun K hK => W_reg ?_; simp [rRef02CmpX5, ints, WO_nil_iff, WO_grd, flatCells_ints, allLeaf_ints, WO_mv, WO_pick, WO_new, WO_box, WO_build, WO_bslice, WO_ld, WO_st, WO_nilck, WO_bin, WO_eq, WO_un, WO_cvt, WO_mkf, WO_mks, WO_slc, WO_fad, WO_fld, WO_ixa, WO_ixp, WO_ix, WO_ext, WO_ixs, WO_clr, WO_len, WO_app, WO_min, WO_max, aOp, ev, evs, Am.get, Am.put, putd, keepIn, mem, binA, arith, unA, eqA, eqc, isNil, lenA, idx, bnd, bndO, rdc, AV.cells, AV.leaf, allLeaf, ovw, blk, sliceCells, flatCells, rep, fillA, okDraw, Fp.ok, List.getD, minA, minF, Ex.thn, Ex.blk]; refine hK _ ?_; clear hK
        refine W_ret ?_
        exact hr _ (by simp [Am.get, hc]) rfl
      · refine W_seq fun K hK => W_reg ?_; simp [rRef02CmpX4, hka, hkl, hkl', h2, ints, WO_nil_iff, WO_grd, flatCells_ints, allLeaf_ints, WO_mv, WO_pick, WO_new, WO_box, WO_build, WO_bslice, WO_ld, WO_st, WO_nilck, WO_bin, WO_eq, WO_un, WO_cvt, WO_mkf, WO_mks, WO_slc, WO_fad, WO_fld, WO_ixa, WO_ixp, WO_ix, WO_ext, WO_ixs, WO_clr, WO_len, WO_app, WO_min, WO_max, aOp, ev, evs, Am.get, Am.put, putd, keepIn, mem, binA, arith, unA, eqA, eqc, isNil, lenA, idx, bnd, bndO, rdc, AV.cells, AV.leaf, allLeaf, ovw, blk, sliceCells, flatCells, rep, fillA, okDraw, Fp.ok, List.getD, minA, minF, Ex.thn, Ex.blk]; refine hK _ ?_; clear hK; refine W_condF (by simp [ev, Am.get]) ?_
        by_cases h1 : a[k] < b[k]
        · rw [if_pos h1] at hc
          refine W_seq fun K hK => W_reg ?_; simp [rRef02CmpX6, hka, hkl, h1, ints, WO_nil_iff, WO_grd, flatCells_ints, allLeaf_ints, WO_mv, WO_pick, WO_new, WO_box, WO_build, WO_bslice, WO_ld, WO_st, WO_nilck, WO_bin, WO_eq, WO_un, WO_cvt, WO_mkf, WO_mks, WO_slc, WO_fad, WO_fld, WO_ixa, WO_ixp, WO_ix, WO_ext, WO_ixs, WO_clr, WO_len, WO_app, WO_min, WO_max, aOp, ev, evs, Am.get, Am.put, putd, keepIn, mem, binA, arith, unA, eqA, eqc, isNil, lenA, idx, bnd, bndO, rdc, AV.cells, AV.leaf, allLeaf, ovw, blk, sliceCells, flatCells, rep, fillA, okDraw, Fp.ok, List.getD, minA, minF, Ex.thn, Ex.blk]; refine hK _ ?_; clear hK; refine W_condT (by simp [ev, Am.get]) ?_
          refine W_seq fun K hK => W_reg ?_; simp [rRef02CmpX7, ints, WO_nil_iff, WO_grd, flatCells_ints, allLeaf_ints, WO_mv, WO_pick, WO_new, WO_box, WO_build, WO_bslice, WO_ld, WO_st, WO_nilck, WO_bin, WO_eq, WO_un, WO_cvt, WO_mkf, WO_mks, WO_slc, WO_fad, WO_fld, WO_ixa, WO_ixp, WO_ix, WO_ext, WO_ixs, WO_clr, WO_len, WO_app, WO_min, WO_max, aOp, ev, evs, Am.get, Am.put, putd, keepIn, mem, binA, arith, unA, eqA, eqc, isNil, lenA, idx, bnd, bndO, rdc, AV.cells, AV.leaf, allLeaf, ovw, blk, sliceCells, flatCells, rep, fillA, okDraw, Fp.ok, List.getD, minA, minF, Ex.thn, Ex.blk]; refine hK _ ?_; clear hK
          refine W_ret ?_
          exact hr _ (by simp [Am.get, hc]) rfl
        · rw [if_neg h1, if_neg h2] at hc
          refine W_seq fun K hK => W_reg ?_; simp [rRef02CmpX6, hka, hkl, h1, ints, WO_nil_iff, WO_grd, flatCells_ints, allLeaf_ints, WO_mv, WO_pick, WO_new, WO_box, WO_build, WO_bslice, WO_ld, WO_st, WO_nilck, WO_bin, WO_eq, WO_un, WO_cvt, WO_mkf, WO_mks, WO_slc, WO_fad, WO_fld, WO_ixa, WO_ixp, WO_ix, WO_ext, WO_ixs, WO_clr, WO_len, WO_app, WO_min, WO_max, aOp, ev, evs, Am.get, Am.put, putd, keepIn, mem, binA, arith, unA, eqA, eqc, isNil, lenA, idx, bnd, bndO, rdc, AV.cells, AV.leaf, allLeaf, ovw, blk, sliceCells, flatCells, rep, fillA, okDraw, Fp.ok, List.getD, minA, minF, Ex.thn, Ex.blk]; refine hK _ ?_; clear hK; refine W_condF (by simp [ev, Am.get]) ?_
          refine W_skip ?_
          refine hK _ ?_; clear hK
          refine W_reg ?_; simp [rRef02CmpX8, hw, ints, WO_nil_iff, WO_grd, flatCells_ints, allLeaf_ints, WO_mv, WO_pick, WO_new, WO_box, WO_build, WO_bslice, WO_ld, WO_st, WO_nilck, WO_bin, WO_eq, WO_un, WO_cvt, WO_mkf, WO_mks, WO_slc, WO_fad, WO_fld, WO_ixa, WO_ixp, WO_ix, WO_ext, WO_ixs, WO_clr, WO_len, WO_app, WO_min, WO_max, aOp, ev, evs, Am.get, Am.put, putd, keepIn, mem, binA, arith, unA, eqA, eqc, isNil, lenA, idx, bnd, bndO, rdc, AV.cells, AV.leaf, allLeaf, ovw, blk, sliceCells, flatCells, rep, fillA, okDraw, Fp.ok, List.getD, minA, minF, Ex.thn, Ex.blk]
          exact ih (k + 1) (by omega) (by omega) hc
    · have hkl' : b.length ≤ k := by omega
      have hdb : b.drop k = [] := List.drop_eq_nil_of_le hkl'
      rw [hda, hdb, cmpL] at hc
      refine W_seq fun K hK => W_reg ?_; simp [rRef02CmpX4, hkl', ints, WO_nil_iff, WO_grd, flatCells_ints, allLeaf_ints, WO_mv, WO_pick, WO_new, WO_box, WO_build, WO_bslice, WO_ld, WO_st, WO_nilck, WO_bin, WO_eq, WO_un, WO_cvt, WO_mkf, WO_mks, WO_slc, WO_fad, WO_fld, WO_ixa, WO_ixp, WO_ix, WO_ext, WO_ixs, WO_clr, WO_len, WO_app, WO_min, WO_max, aOp, ev, evs, Am.get, Am.put, putd, keepIn, mem, binA, arith, unA, eqA, eqc, isNil, lenA, idx, bnd, bndO, rdc, AV.cells, AV.leaf, allLeaf, ovw, blk, sliceCells, flatCells, rep, fillA, okDraw, Fp.ok, List.getD, minA, minF, Ex.thn, Ex.blk]; refine hK _ ?_; clear hK; refine W_condT (by simp [ev, Am.get]) ?_
      refine W_seq fun K hK => W_reg ?_; simp [rRef02CmpX5, ints, WO_nil_iff, WO_grd, flatCells_ints, allLeaf_ints, WO_mv, WO_pick, WO_new, WO_box, WO_build, WO_bslice, WO_ld, WO_st, WO_nilck, WO_bin, WO_eq, WO_un, WO_cvt, WO_mkf, WO_mks, WO_slc, WO_fad, WO_fld, WO_ixa, WO_ixp, WO_ix, WO_ext, WO_ixs, WO_clr, WO_len, WO_app, WO_min, WO_max, aOp, ev, evs, Am.get, Am.put, putd, keepIn, mem, binA, arith, unA, eqA, eqc, isNil, lenA, idx, bnd, bndO, rdc, AV.cells, AV.leaf, allLeaf, ovw, blk, sliceCells, flatCells, rep, fillA, okDraw, Fp.ok, List.getD, minA, minF, Ex.thn, Ex.blk]; refine hK _ ?_; clear hK
      refine W_ret ?_
      exact hr _ (by simp [Am.get, hc]) rfl
theorem refCmp_pu (a b : List Int) (hl : a.length ≤ 9223372036854775807) : Pu cfgS nRef02Cmp [ints a, ints b] (.int .i64 (cmpL a b)) := by
  refine Pu.of0 (H1 := []) (Cl.of rfl gRef02Cmp (by simp [qRef02Cmp]) ?_) rfl
  simp only [qRef02Cmp, cRef02Cmp, mkEnv]
  refine W_seq fun K hK => W_reg ?_; simp [rRef02CmpX0, ints, WO_nil_iff, WO_grd, flatCells_ints, allLeaf_ints, WO_mv, WO_pick, WO_new, WO_box, WO_build, WO_bslice, WO_ld, WO_st, WO_nilck, WO_bin, WO_eq, WO_un, WO_cvt, WO_mkf, WO_mks, WO_slc, WO_fad, WO_fld, WO_ixa, WO_ixp, WO_ix, WO_ext, WO_ixs, WO_clr, WO_len, WO_app, WO_min, WO_max, aOp, ev, evs, Am.get, Am.put, putd, keepIn, mem, binA, arith, unA, eqA, eqc, isNil, lenA, idx, bnd, bndO, rdc, AV.cells, AV.leaf, allLeaf, ovw, blk, sliceCells, flatCells, rep, fillA, okDraw, Fp.ok, List.getD, minA, minF, Ex.thn, Ex.blk]; refine hK _ ?_; clear hK
  refine W_seq fun K hK => ?_; refine W_seq fun K hK => W_reg ?_; simp [rRef02CmpX1, ints, WO_nil_iff, WO_grd, flatCells_ints, allLeaf_ints, WO_mv, WO_pick, WO_new, WO_box, WO_build, WO_bslice, WO_ld, WO_st, WO_nilck, WO_bin, WO_eq, WO_un, WO_cvt, WO_mkf, WO_mks, WO_slc, WO_fad, WO_fld, WO_ixa, WO_ixp, WO_ix, WO_ext, WO_ixs, WO_clr, WO_len, WO_app, WO_min, WO_max, aOp, ev, evs, Am.get, Am.put, putd, keepIn, mem, binA, arith, unA, eqA, eqc, isNil, lenA, idx, bnd, bndO, rdc, AV.cells, AV.leaf, allLeaf, ovw, blk, sliceCells, flatCells, rep, fillA, okDraw, Fp.ok, List.getD, minA, minF, Ex.thn, Ex.blk]; refine hK _ ?_; clear hK
  refine W_blk ?_
  refine refCmpLoop a b hl _ ?_ ?_ a.length 0 (by omega) (by omega) rfl
  · intro s h4 hH
    simp [Ex.blk, Ex.thn, resL, resA, h4, hH, tupOf]
  · intro hP
    simp only [Ex.blk, if_true, Ex.thn]
    refine hK _ ?_; clear hK
    by_cases h : a.length < b.length
    · refine W_seq fun K hK => ?_; refine W_seq fun K hK => W_reg ?_; simp [rRef02CmpX9, ints, WO_nil_iff, WO_grd, flatCells_ints, allLeaf_ints, WO_mv, WO_pick, WO_new, WO_box, WO_build, WO_bslice, WO_ld, WO_st, WO_nilck, WO_bin, WO_eq, WO_un, WO_cvt, WO_mkf, WO_mks, WO_slc, WO_fad, WO_fld, WO_ixa, WO_ixp, WO_ix, WO_ext, WO_ixs, WO_clr, WO_len, WO_app, WO_min, WO_max, aOp, ev, evs, Am.get, Am.put, putd, keepIn, mem, binA, arith, unA, eqA, eqc, isNil, lenA, idx, bnd, bndO, rdc, AV.cells, AV.leaf, allLeaf, ovw, blk, sliceCells, flatCells, rep, fillA, okDraw, Fp.ok, List.getD, minA, minF, Ex.thn, Ex.blk]; refine hK _ ?_; clear hK; refine W_condT (by simp [h, ev, Am.get]) ?_
      refine W_seq fun K hK => W_reg ?_; simp [rRef02CmpX10, ints, WO_nil_iff, WO_grd, flatCells_ints, allLeaf_ints, WO_mv, WO_pick, WO_new, WO_box, WO_build, WO_bslice, WO_ld, WO_st, WO_nilck, WO_bin, WO_eq, WO_un, WO_cvt, WO_mkf, WO_mks, WO_slc, WO_fad, WO_fld, WO_ixa, WO_ixp, WO_ix, WO_ext, WO_ixs, WO_clr, WO_len, WO_app, WO_min, WO_max, aOp, ev, evs, Am.get, Am.put, putd, keepIn, mem, binA, arith, unA, eqA, eqc, isNil, lenA, idx, bnd, bndO, rdc, AV.cells, AV.leaf, allLeaf, ovw, blk, sliceCells, flatCells, rep, fillA, okDraw, Fp.ok, List.getD, minA, minF, Ex.thn, Ex.blk]; refine hK _ ?_; clear hK
      refine W_ret ?_
      simp [Ex.thn, resL, resA, Am.get, tupOf, hP, h]
    · refine W_seq fun K hK => ?_; refine W_seq fun K hK => W_reg ?_; simp [rRef02CmpX9, ints, WO_nil_iff, WO_grd, flatCells_ints, allLeaf_ints, WO_mv, WO_pick, WO_new, WO_box, WO_build, WO_bslice, WO_ld, WO_st, WO_nilck, WO_bin, WO_eq, WO_un, WO_cvt, WO_mkf, WO_mks, WO_slc, WO_fad, WO_fld, WO_ixa, WO_ixp, WO_ix, WO_ext, WO_ixs, WO_clr, WO_len, WO_app, WO_min, WO_max, aOp, ev, evs, Am.get, Am.put, putd, keepIn, mem, binA, arith, unA, eqA, eqc, isNil, lenA, idx, bnd, bndO, rdc, AV.cells, AV.leaf, allLeaf, ovw, blk, sliceCells, flatCells, rep, fillA, okDraw, Fp.ok, List.getD, minA, minF, Ex.thn, Ex.blk]; refine hK _ ?_; clear hK; refine W_condF (by simp [h, ev, Am.get]) ?_; refine W_skip ?_; refine hK _ ?_; clear hK
      refine W_seq fun K hK => W_reg ?_; simp [rRef02CmpX11, ints, WO_nil_iff, WO_grd, flatCells_ints, allLeaf_ints, WO_mv, WO_pick, WO_new, WO_box, WO_build, WO_bslice, WO_ld, WO_st, WO_nilck, WO_bin, WO_eq, WO_un, WO_cvt, WO_mkf, WO_mks, WO_slc, WO_fad, WO_fld, WO_ixa, WO_ixp, WO_ix, WO_ext, WO_ixs, WO_clr, WO_len, WO_app, WO_min, WO_max, aOp, ev, evs, Am.get, Am.put, putd, keepIn, mem, binA, arith, unA, eqA, eqc, isNil, lenA, idx, bnd, bndO, rdc, AV.cells, AV.leaf, allLeaf, ovw, blk, sliceCells, flatCells, rep, fillA, okDraw, Fp.ok, List.getD, minA, minF, Ex.thn, Ex.blk]; refine hK _ ?_; clear hK
      refine W_ret ?_
      simp [Ex.thn, resL, resA, Am.get, tupOf, hP, h]
theorem refSame_pu (a b : List Int) (hl : a.length ≤ 9223372036854775807) : Pu cfgS nRef02Same [ints a, ints b] (.bool (decide (a = b))) := by
  refine Pu.of0 (H1 := []) (Cl.of rfl gRef02Same (by simp [qRef02Same]) ?_) rfl
  simp only [qRef02Same, cRef02Same, mkEnv]
  refine W_seq fun K hK => W_reg ?_; simp [rRef02SameX0, ints, WO_nil_iff, WO_grd, flatCells_ints, allLeaf_ints, WO_mv, WO_pick, WO_new, WO_box, WO_build, WO_bslice, WO_ld, WO_st, WO_nilck, WO_bin, WO_eq, WO_un, WO_cvt, WO_mkf, WO_mks, WO_slc, WO_fad, WO_fld, WO_ixa, WO_ixp, WO_ix, WO_ext, WO_ixs, WO_clr, WO_len, WO_app, WO_min, WO_max, aOp, ev, evs, Am.get, Am.put, putd, keepIn, mem, binA, arith, unA, eqA, eqc, isNil, lenA, idx, bnd, bndO, rdc, AV.cells, AV.leaf, allLeaf, ovw, blk, sliceCells, flatCells, rep, fillA, okDraw, Fp.ok, List.getD, minA, minF, Ex.thn, Ex.blk]; refine hK _ ?_; clear hK
  by_cases h : a.length = b.length
  · refine W_seq fun K hK => W_reg ?_; simp [rRef02SameX1, h, ints, WO_nil_iff, WO_grd, flatCells_ints, allLeaf_ints, WO_mv, WO_pick, WO_new, WO_box, WO_build, WO_bslice, WO_ld, WO_st, WO_nilck, WO_bin, WO_eq, WO_un, WO_cvt, WO_mkf, WO_mks, WO_slc, WO_fad, WO_fld, WO_ixa, WO_ixp, WO_ix, WO_ext, WO_ixs, WO_clr, WO_len, WO_app, WO_min, WO_max, aOp, ev, evs, Am.get, Am.put, putd, keepIn, mem, binA, arith, unA, eqA, eqc, isNil, lenA, idx, bnd, bndO, rdc, AV.cells, AV.leaf, allLeaf, ovw, blk, sliceCells, flatCells, rep, fillA, okDraw, Fp.ok, List.getD, minA, minF, Ex.thn, Ex.blk]
    refine WO_callP gRef02Cmp rfl (refCmp_pu a b hl) ?_
    simp [h, ints, WO_nil_iff, WO_grd, flatCells_ints, allLeaf_ints, WO_mv, WO_pick, WO_new, WO_box, WO_build, WO_bslice, WO_ld, WO_st, WO_nilck, WO_bin, WO_eq, WO_un, WO_cvt, WO_mkf, WO_mks, WO_slc, WO_fad, WO_fld, WO_ixa, WO_ixp, WO_ix, WO_ext, WO_ixs, WO_clr, WO_len, WO_app, WO_min, WO_max, aOp, ev, evs, Am.get, Am.put, putd, keepIn, mem, binA, arith, unA, eqA, eqc, isNil, lenA, idx, bnd, bndO, rdc, AV.cells, AV.leaf, allLeaf, ovw, blk, sliceCells, flatCells, rep, fillA, okDraw, Fp.ok, List.getD, minA, minF, Ex.thn, Ex.blk]; refine hK _ ?_; clear hK
    refine W_ret ?_
    have hz : (cmpL a b == 0) = decide (a = b) := by rw [Bool.eq_iff_iff]; simp [cmpL_zero]
    simp [resL, resA, Am.get, tupOf, hz]
  · have h' : ¬ ((a.length : Int) = (b.length : Int)) := by omega
    have h2 : ((a.length : Int) == (b.length : Int)) = false := by simp; omega
    refine W_seq fun K hK => W_reg ?_; simp [rRef02SameX1, h', h2, ints, WO_nil_iff, WO_grd, flatCells_ints, allLeaf_ints, WO_mv, WO_pick, WO_new, WO_box, WO_build, WO_bslice, WO_ld, WO_st, WO_nilck, WO_bin, WO_eq, WO_un, WO_cvt, WO_mkf, WO_mks, WO_slc, WO_fad, WO_fld, WO_ixa, WO_ixp, WO_ix, WO_ext, WO_ixs, WO_clr, WO_len, WO_app, WO_min, WO_max, aOp, ev, evs, Am.get, Am.put, putd, keepIn, mem, binA, arith, unA, eqA, eqc, isNil, lenA, idx, bnd, bndO, rdc, AV.cells, AV.leaf, allLeaf, ovw, blk, sliceCells, flatCells, rep, fillA, okDraw, Fp.ok, List.getD, minA, minF, Ex.thn, Ex.blk]; refine hK _ ?_; clear hK
    refine W_ret ?_
    have hab : ¬ a = b := fun e => h (e ▸ rfl)
    simp [resL, resA, Am.get, tupOf, hab]
end Go.AmP
