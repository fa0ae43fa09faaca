/- degree.realise in the older machine: what it returns, for any numbers. -/
import Derived.Test.YtjfdniggjdnkiaaLgL
import Derived.Test.YtjfdniggjdnkiaaAmP
import Derived.Test.YtjfdniggjdnkiaaRzP
set_option linter.unusedSimpArgs false
set_option linter.unusedVariables false
set_option maxRecDepth 100000
namespace Go.AmP
open Go.Am
open Go.Bm (pr2 cfM isortC isortC_perm isortC_length inn otr needs rz fl fl_len fl_app fl_drop fl_set Cel)
def prOf : List AV → Option (List (Int × Int))
  | [] => some []
  | .int .i64 a :: .int .i64 b :: r => match prOf r with
    | some l => some ((a, b) :: l)
    | none => none
  | _ => none
theorem prOf_fl : ∀ L, prOf (fl L) = some L
  | [] => rfl
  | x :: r => by simp only [fl, prOf, prOf_fl r]
def in64 (L : List (Int × Int)) : Bool := L.all fun x => decide (0 ≤ x.1 ∧ x.1 < 64 ∧ 0 ≤ x.2 ∧ x.2 < 64)
/-- The library's sort by `most`. -/
def gSrt : List AV → Heap → Option (AV × Heap)
  | [.sl 2 b off len, .func (.func m) [] []], H => if m = nDegreeMost then match blk H b with
    | some cs => if off + len * 2 ≤ cs.length ∧ 0 < len ∧ len ≤ 64 then match prOf ((cs.drop off).take (len * 2)) with
      | some zs => if in64 zs = true then some (.tup [], H.set b (some (ovw cs off (fl (isortC cfM zs))))) else none
      | none => none
      else none
    | none => none
    else none
  | _, _ => none
def cfgR : Cfg := { cfg with orc := fun f => if f = nSlicesSortFuncDegreeNeedDegreeNeed then some gSrt else none }
theorem wrap_i64 {x : Int} (h0 : -9223372036854775808 ≤ x) (h1 : x ≤ 9223372036854775807) : IntKind.i64.wrap x = x := by rw [IntKind.wrap_i64]; omega
theorem most_cl (x y : Int × Int) (h1 : 0 ≤ x.1 ∧ x.1 < 64 ∧ 0 ≤ x.2 ∧ x.2 < 64) (h2 : 0 ≤ y.1 ∧ y.1 < 64 ∧ 0 ≤ y.2 ∧ y.2 < 64) : Cl cfg nDegreeMost [pr2 x, pr2 y] [] (.int .i64 (cfM x y)) [some [.int .i64 x.1, .int .i64 x.2], some [.int .i64 y.1, .int .i64 y.2]] := by
  obtain ⟨a, b⟩ := x
  obtain ⟨c, d⟩ := y
  simp only at h1 h2
  have w1 : IntKind.i64.wrap (a - c) = a - c := wrap_i64 (by omega) (by omega)
  have w2 : IntKind.i64.wrap (d - b) = d - b := wrap_i64 (by omega) (by omega)
  refine (Cl.of rfl gDegreeMost (by simp [qDegreeMost]) ?_)
  simp only [qDegreeMost, cDegreeMost, mkEnv]
  simp only [pr2]
  refine W_seq fun K hK => W_reg ?_; simp [rDegreeMostX0, ints, WO_nil_iff, WO_grd, flatCells_ints, allLeaf_ints, WO_mv, WO_pick, WO_new, WO_box, WO_build, WO_bslice, WO_ld, WO_st, WO_nilck, WO_bin, WO_eq, WO_un, WO_cvt, WO_mkf, WO_mks, WO_slc, WO_fad, WO_fld, WO_ixa, WO_ixp, WO_ix, WO_ext, WO_ixs, WO_clr, WO_len, WO_app, WO_min, WO_max, aOp, ev, evs, Am.get, Am.put, putd, keepIn, mem, binA, arith, unA, eqA, eqc, isNil, lenA, idx, bnd, bndO, rdc, AV.cells, AV.leaf, allLeaf, ovw, blk, sliceCells, flatCells, rep, fillA, okDraw, Fp.ok, List.getD, minA, minF, Ex.thn, Ex.blk]; refine hK _ ?_; clear hK
  refine W_seq fun K hK => ?_
  refine W_seq fun K hK => W_reg ?_; simp [rDegreeMostX1, ints, WO_nil_iff, WO_grd, flatCells_ints, allLeaf_ints, WO_mv, WO_pick, WO_new, WO_box, WO_build, WO_bslice, WO_ld, WO_st, WO_nilck, WO_bin, WO_eq, WO_un, WO_cvt, WO_mkf, WO_mks, WO_slc, WO_fad, WO_fld, WO_ixa, WO_ixp, WO_ix, WO_ext, WO_ixs, WO_clr, WO_len, WO_app, WO_min, WO_max, aOp, ev, evs, Am.get, Am.put, putd, keepIn, mem, binA, arith, unA, eqA, eqc, isNil, lenA, idx, bnd, bndO, rdc, AV.cells, AV.leaf, allLeaf, ovw, blk, sliceCells, flatCells, rep, fillA, okDraw, Fp.ok, List.getD, minA, minF, Ex.thn, Ex.blk]; refine hK _ ?_; clear hK
  by_cases e : b = d
  · refine W_condF (by simp [e, ev, Am.get]) ?_; refine W_skip ?_; refine hK _ ?_; clear hK
    refine W_seq fun K hK => W_reg ?_; simp [rDegreeMostX3, w1, ints, WO_nil_iff, WO_grd, flatCells_ints, allLeaf_ints, WO_mv, WO_pick, WO_new, WO_box, WO_build, WO_bslice, WO_ld, WO_st, WO_nilck, WO_bin, WO_eq, WO_un, WO_cvt, WO_mkf, WO_mks, WO_slc, WO_fad, WO_fld, WO_ixa, WO_ixp, WO_ix, WO_ext, WO_ixs, WO_clr, WO_len, WO_app, WO_min, WO_max, aOp, ev, evs, Am.get, Am.put, putd, keepIn, mem, binA, arith, unA, eqA, eqc, isNil, lenA, idx, bnd, bndO, rdc, AV.cells, AV.leaf, allLeaf, ovw, blk, sliceCells, flatCells, rep, fillA, okDraw, Fp.ok, List.getD, minA, minF, Ex.thn, Ex.blk]; refine hK _ ?_; clear hK
    refine W_ret ?_
    simp [resL, resA, Am.get, tupOf, Ex.thn, cfM, e]
  · refine W_condT (by simp [e, ev, Am.get]) ?_
    refine W_seq fun K hK => W_reg ?_; simp [rDegreeMostX2, w2, ints, WO_nil_iff, WO_grd, flatCells_ints, allLeaf_ints, WO_mv, WO_pick, WO_new, WO_box, WO_build, WO_bslice, WO_ld, WO_st, WO_nilck, WO_bin, WO_eq, WO_un, WO_cvt, WO_mkf, WO_mks, WO_slc, WO_fad, WO_fld, WO_ixa, WO_ixp, WO_ix, WO_ext, WO_ixs, WO_clr, WO_len, WO_app, WO_min, WO_max, aOp, ev, evs, Am.get, Am.put, putd, keepIn, mem, binA, arith, unA, eqA, eqc, isNil, lenA, idx, bnd, bndO, rdc, AV.cells, AV.leaf, allLeaf, ovw, blk, sliceCells, flatCells, rep, fillA, okDraw, Fp.ok, List.getD, minA, minF, Ex.thn, Ex.blk]; refine hK _ ?_; clear hK
    refine W_ret ?_
    simp [resL, resA, Am.get, tupOf, Ex.thn, cfM, e]
/-- The list that is built. -/
def Ot (H : Heap) (o : AV) (l : List (Int × Int)) : Prop := (l = [] ∧ o = .nils) ∨ ∃ b, o = .sl 2 b 0 l.length ∧ blk H b = some (fl l) ∧ b < H.length
theorem blk_ap {H : Heap} {b : Nat} {cs : List AV} (h : blk H b = some cs) (T : Heap) : blk (H ++ T) b = some cs := by
  unfold blk at h ⊢
  by_cases k : b < H.length
  · rw [List.getElem?_append_left k]; exact h
  · rw [List.getElem?_eq_none (by omega)] at h; cases h
theorem blk_lt' {H : Heap} {b : Nat} {cs : List AV} (h : blk H b = some cs) : b < H.length := by
  unfold blk at h
  by_cases k : b < H.length
  · exact k
  · rw [List.getElem?_eq_none (by omega)] at h; cases h
theorem blk_set_ne {H : Heap} {b c : Nat} {v : Blk} (h : b ≠ c) : blk (H.set b v) c = blk H c := by
  unfold blk; rw [List.getElem?_set_ne h]
theorem blk_set_eq {H : Heap} {b : Nat} {cs : List AV} (h : b < H.length) : blk (H.set b (some cs)) b = some cs := by
  unfold blk; rw [List.getElem?_set_self h]
theorem blk_last {H : Heap} {cs : List AV} (T : Heap) : blk (H ++ some cs :: T) H.length = some cs := by
  unfold blk; simp
theorem Ot.mono {H H' : Heap} {o : AV} {l : List (Int × Int)} (h : Ot H o l) (hb : ∀ b, o = .sl 2 b 0 l.length → blk H b = some (fl l) → blk H' b = some (fl l)) : Ot H' o l := by
  rcases h with h | ⟨b, h1, h2, h3⟩
  · exact .inl h
  · exact .inr ⟨b, h1, hb b h1 h2, blk_lt' (hb b h1 h2)⟩
def NotB (o : AV) (b : Nat) : Prop := ∀ c n, o = .sl 2 c 0 n → c ≠ b
theorem inn_loop (v d0 : Int) (p b off : Nat) (hpb : p ≠ b) (Q : Ex → St → Prop) : ∀ (k i : Nat) (L out : List (Int × Int)) (o : AV) (H : Heap) (cs : List AV), i + k ≤ L.length → L.length < 64 → out.length + k ≤ 4096 → (∀ x ∈ L, 0 ≤ x.2 ∧ x.2 < 64) → blk H p = some [.int .i64 v, .int .i64 d0] → blk H b = some cs → Cel cs off L → Ot H o out → NotB o b → NotB o p →
    (match inn v k i L out with
      | none => ∀ H', Q .ret ⟨[(2, .nils), (3, .bool false)], H'⟩
      | some (L', out') => ∀ H' o' cs', blk H' b = some cs' → Cel cs' off L' → Ot H' o' out' → NotB o' b → Q (.exit 4) ⟨[(4, .sl 2 b off L.length), (7, o'), (8, .ptr p 0), (48, .int .i64 ((i : Int) + k)), (49, .int .i64 ((i : Int) + k)), (50, .bool false)], H'⟩) →
    W cfgR (.loop lDegreeRealiseX1) ⟨[(4, .sl 2 b off L.length), (7, o), (8, .ptr p 0), (48, .int .i64 ((i : Int) + k)), (49, .int .i64 i)], H⟩ Q
  | 0, i, L, out, o, H, cs, hik, hL, hout, hr, hp, hb, hc, ho, n1, n2, hQ => by
    refine W_loop ?_
    simp only [lDegreeRealiseX1]
    refine W_seq fun K hK => W_reg ?_; simp [rDegreeRealiseX17, ints, WO_nil_iff, WO_grd, flatCells_ints, allLeaf_ints, WO_mv, WO_pick, WO_new, WO_box, WO_build, WO_bslice, WO_ld, WO_st, WO_nilck, WO_bin, WO_eq, WO_un, WO_cvt, WO_mkf, WO_mks, WO_slc, WO_fad, WO_fld, WO_ixa, WO_ixp, WO_ix, WO_ext, WO_ixs, WO_clr, WO_len, WO_app, WO_min, WO_max, aOp, ev, evs, Am.get, Am.put, putd, keepIn, mem, binA, arith, unA, eqA, eqc, isNil, lenA, idx, bnd, bndO, rdc, AV.cells, AV.leaf, allLeaf, ovw, blk, sliceCells, flatCells, rep, fillA, okDraw, Fp.ok, List.getD, minA, minF, Ex.thn, Ex.blk]; refine hK _ ?_; clear hK
    refine W_seq fun K hK => ?_
    refine W_condF (by simp [ev, Am.get]) ?_
    refine W_exit ?_
    have := hQ H o cs hb hc ho n1
    simpa [Ex.thn] using this
  | k + 1, i, L, out, o, H, cs, hik, hL, hout, hr, hp, hb, hc, ho, n1, n2, hQ => by
    have hlt : i < L.length := by omega
    obtain ⟨⟨w, d⟩, hi⟩ : ∃ x, L[i]? = some x := ⟨L[i], List.getElem?_eq_getElem hlt⟩
    have hd := hr (w, d) (List.mem_of_getElem? hi)
    simp only at hd
    obtain ⟨r1, d1, d2⟩ := hc.at hi
    have g1 : (i : Int) < (i : Int) + ((k : Int) + 1) := by omega
    have g2 : (0 : Int) ≤ i := by omega
    have g3 : (i : Int) < (L.length : Int) := by omega
    have wd : IntKind.i64.wrap (d - 1) = d - 1 := wrap_i64 (by omega) (by omega)
    have wi : IntKind.i64.wrap ((i : Int) + 1) = (i : Int) + 1 := wrap_i64 (by omega) (by omega)
    have cl := hc.len
    have e1 : off + i * 2 + 1 + 1 ≤ cs.length := by omega
    have hbl := blk_lt' hb
    have hpl := blk_lt' hp
    have hinn : inn v (k + 1) i L out = if d = 0 then none else inn v k (i + 1) (L.set i (w, d - 1)) (out ++ [(v, w)]) := by rw [inn, hi]
    rw [hinn] at hQ
    refine W_loop ?_
    simp only [lDegreeRealiseX1]
    refine W_seq fun K hK => W_reg ?_; simp [rDegreeRealiseX17, g1, ints, WO_nil_iff, WO_grd, flatCells_ints, allLeaf_ints, WO_mv, WO_pick, WO_new, WO_box, WO_build, WO_bslice, WO_ld, WO_st, WO_nilck, WO_bin, WO_eq, WO_un, WO_cvt, WO_mkf, WO_mks, WO_slc, WO_fad, WO_fld, WO_ixa, WO_ixp, WO_ix, WO_ext, WO_ixs, WO_clr, WO_len, WO_app, WO_min, WO_max, aOp, ev, evs, Am.get, Am.put, putd, keepIn, mem, binA, arith, unA, eqA, eqc, isNil, lenA, idx, bnd, bndO, rdc, AV.cells, AV.leaf, allLeaf, ovw, blk, sliceCells, flatCells, rep, fillA, okDraw, Fp.ok, List.getD, minA, minF, Ex.thn, Ex.blk]; refine hK _ ?_; clear hK
    refine W_seq fun K hK => ?_
    refine W_condT (by simp [ev, Am.get]) ?_
    refine W_skip ?_
    refine hK _ ?_; clear hK
    refine W_seq fun K hK => ?_
    refine W_blk ?_
    refine W_seq fun K hK => W_reg ?_; simp [rDegreeRealiseX18, ints, WO_nil_iff, WO_grd, flatCells_ints, allLeaf_ints, WO_mv, WO_pick, WO_new, WO_box, WO_build, WO_bslice, WO_ld, WO_st, WO_nilck, WO_bin, WO_eq, WO_un, WO_cvt, WO_mkf, WO_mks, WO_slc, WO_fad, WO_fld, WO_ixa, WO_ixp, WO_ix, WO_ext, WO_ixs, WO_clr, WO_len, WO_app, WO_min, WO_max, aOp, ev, evs, Am.get, Am.put, putd, keepIn, mem, binA, arith, unA, eqA, eqc, isNil, lenA, idx, bnd, bndO, rdc, AV.cells, AV.leaf, allLeaf, ovw, blk, sliceCells, flatCells, rep, fillA, okDraw, Fp.ok, List.getD, minA, minF, Ex.thn, Ex.blk]; refine hK _ ?_; clear hK
    refine W_seq fun K hK => ?_
    refine W_seq fun K hK => W_reg ?_; simp [rDegreeRealiseX19, g2, g3, hb, d1, d2, ints, WO_nil_iff, WO_grd, flatCells_ints, allLeaf_ints, WO_mv, WO_pick, WO_new, WO_box, WO_build, WO_bslice, WO_ld, WO_st, WO_nilck, WO_bin, WO_eq, WO_un, WO_cvt, WO_mkf, WO_mks, WO_slc, WO_fad, WO_fld, WO_ixa, WO_ixp, WO_ix, WO_ext, WO_ixs, WO_clr, WO_len, WO_app, WO_min, WO_max, aOp, ev, evs, Am.get, Am.put, putd, keepIn, mem, binA, arith, unA, eqA, eqc, isNil, lenA, idx, bnd, bndO, rdc, AV.cells, AV.leaf, allLeaf, ovw, sliceCells, flatCells, rep, fillA, okDraw, Fp.ok, List.getD, minA, minF, Ex.thn, Ex.blk]; refine hK _ ?_; clear hK
    by_cases hz : d = 0
    · subst hz
      rw [if_pos rfl] at hQ
      refine W_condT (by simp [ev, Am.get]) ?_
      refine W_seq fun K hK => W_reg ?_; simp [rDegreeRealiseX20, ints, WO_nil_iff, WO_grd, flatCells_ints, allLeaf_ints, WO_mv, WO_pick, WO_new, WO_box, WO_build, WO_bslice, WO_ld, WO_st, WO_nilck, WO_bin, WO_eq, WO_un, WO_cvt, WO_mkf, WO_mks, WO_slc, WO_fad, WO_fld, WO_ixa, WO_ixp, WO_ix, WO_ext, WO_ixs, WO_clr, WO_len, WO_app, WO_min, WO_max, aOp, ev, evs, Am.get, Am.put, putd, keepIn, mem, binA, arith, unA, eqA, eqc, isNil, lenA, idx, bnd, bndO, rdc, AV.cells, AV.leaf, allLeaf, ovw, blk, sliceCells, flatCells, rep, fillA, okDraw, Fp.ok, List.getD, minA, minF, Ex.thn, Ex.blk]; refine hK _ ?_; clear hK
      refine W_ret ?_
      simpa [Ex.thn, Ex.blk] using hQ H
    · rw [if_neg hz] at hQ
      refine W_condF (by simp [hz, ev, Am.get]) ?_
      refine W_skip ?_
      refine hK _ ?_; clear hK
      refine W_seq fun K hK => W_reg ?_; simp [rDegreeRealiseX21, g2, g3, hb, d1, d2, wd, e1, ints, WO_nil_iff, WO_grd, flatCells_ints, allLeaf_ints, WO_mv, WO_pick, WO_new, WO_box, WO_build, WO_bslice, WO_ld, WO_st, WO_nilck, WO_bin, WO_eq, WO_un, WO_cvt, WO_mkf, WO_mks, WO_slc, WO_fad, WO_fld, WO_ixa, WO_ixp, WO_ix, WO_ext, WO_ixs, WO_clr, WO_len, WO_app, WO_min, WO_max, aOp, ev, evs, Am.get, Am.put, putd, keepIn, mem, binA, arith, unA, eqA, eqc, isNil, lenA, idx, bnd, bndO, rdc, AV.cells, AV.leaf, allLeaf, sliceCells, flatCells, rep, fillA, okDraw, Fp.ok, List.getD, minA, minF, Ex.thn, Ex.blk]; refine hK _ ?_; clear hK
      have hc1 := hc.set (d - 1) hi
      obtain ⟨r2, d3, d4⟩ := hc1.at (i := i) (w := w) (d := d - 1) (by rw [List.getElem?_set_self hlt])
      have hb1 : blk (H.set b (some (ovw cs (off + i * 2 + 1) [AV.int .i64 (d - 1)]))) b = some (ovw cs (off + i * 2 + 1) [AV.int .i64 (d - 1)]) := blk_set_eq hbl
      have hp1 : blk (H.set b (some (ovw cs (off + i * 2 + 1) [AV.int .i64 (d - 1)]))) p = some [.int .i64 v, .int .i64 d0] := by rw [blk_set_ne (Ne.symm hpb)]; exact hp
      generalize hH1 : H.set b (some (ovw cs (off + i * 2 + 1) [AV.int .i64 (d - 1)])) = H1 at *
      generalize ovw cs (off + i * 2 + 1) [AV.int .i64 (d - 1)] = cs1 at *
      have hbl1 := blk_lt' hb1
      have hpl1 := blk_lt' hp1
      have hlen : (L.set i (w, d - 1)).length = L.length := List.length_set
      have fin : ∀ (o' : AV) (H' : Heap), blk H' p = some [.int .i64 v, .int .i64 d0] → blk H' b = some cs1 → Ot H' o' (out ++ [(v, w)]) → NotB o' b → NotB o' p → W cfgR (.loop lDegreeRealiseX1) ⟨[(4, .sl 2 b off L.length), (7, o'), (8, .ptr p 0), (48, .int .i64 ((i : Int) + ((k : Int) + 1))), (49, .int .i64 ((i : Int) + 1))], H'⟩ Q := by
        intro o' H' hp' hb' ho' m1 m2
        have ih := inn_loop v d0 p b off hpb Q k (i + 1) (L.set i (w, d - 1)) (out ++ [(v, w)]) o' H' cs1 (by rw [hlen]; omega) (by rw [hlen]; exact hL) (by simp; omega) (fun x hx => by
          rcases List.mem_or_eq_of_mem_set hx with h | h
          · exact hr x h
          · subst h; simp only; omega) hp' hb' hc1 ho' m1 m2 (by
          rw [hlen, show ((i + 1 : Nat) : Int) + (k : Int) = (i : Int) + ((k + 1 : Nat) : Int) by omega]; exact hQ)
        rw [hlen, show ((i + 1 : Nat) : Int) + (k : Int) = (i : Int) + ((k : Int) + 1) by omega, show ((i + 1 : Nat) : Int) = (i : Int) + 1 by omega] at ih
        exact ih
      have hlast : blk (H1 ++ [some [AV.int .i64 v, AV.int .i64 w]]) H1.length = some [AV.int .i64 v, AV.int .i64 w] := blk_last []
      rcases ho with ⟨rfl, rfl⟩ | ⟨bo, rfl, hbo, hbol⟩
      · refine W_reg ?_; simp [rDegreeRealiseX22, g2, g3, hb1, hp1, d3, d4, hlast, LIM, ints, WO_nil_iff, WO_grd, flatCells_ints, allLeaf_ints, WO_mv, WO_pick, WO_new, WO_box, WO_build, WO_bslice, WO_ld, WO_st, WO_nilck, WO_bin, WO_eq, WO_un, WO_cvt, WO_mkf, WO_mks, WO_slc, WO_fad, WO_fld, WO_ixa, WO_ixp, WO_ix, WO_ext, WO_ixs, WO_clr, WO_len, WO_app, WO_min, WO_max, aOp, ev, evs, Am.get, Am.put, putd, keepIn, mem, binA, arith, unA, eqA, eqc, isNil, lenA, idx, bnd, bndO, rdc, AV.cells, AV.leaf, allLeaf, ovw, sliceCells, flatCells, rep, fillA, okDraw, Fp.ok, List.getD, minA, minF, Ex.thn, Ex.blk]
        refine hK _ ?_; clear hK
        refine W_reg ?_; simp [rDegreeRealiseX23, wi, ints, WO_nil_iff, WO_grd, flatCells_ints, allLeaf_ints, WO_mv, WO_pick, WO_new, WO_box, WO_build, WO_bslice, WO_ld, WO_st, WO_nilck, WO_bin, WO_eq, WO_un, WO_cvt, WO_mkf, WO_mks, WO_slc, WO_fad, WO_fld, WO_ixa, WO_ixp, WO_ix, WO_ext, WO_ixs, WO_clr, WO_len, WO_app, WO_min, WO_max, aOp, ev, evs, Am.get, Am.put, putd, keepIn, mem, binA, arith, unA, eqA, eqc, isNil, lenA, idx, bnd, bndO, rdc, AV.cells, AV.leaf, allLeaf, ovw, blk, sliceCells, flatCells, rep, fillA, okDraw, Fp.ok, List.getD, minA, minF, Ex.thn, Ex.blk]
        refine fin _ _ (blk_ap hp1 _) (blk_ap hb1 _) (.inr ⟨H1.length + 1, rfl, ?_, by simp⟩) ?_ ?_
        · unfold blk; simp [fl]
        · intro c n e; simp only [AV.sl.injEq] at e; omega
        · intro c n e; simp only [AV.sl.injEq] at e; omega
      · have hbo1 : blk H1 bo = some (fl out) := by rw [← hH1, blk_set_ne (fun e => n1 bo _ rfl e.symm)]; exact hbo
        have hlim : out.length + 1 ≤ 4294967296 := by omega
        have ht : List.take (out.length * 2) (fl out) = fl out := List.take_of_length_le (by rw [fl_len]; omega)
        have hbo2 := blk_ap hbo1 [some [AV.int .i64 v, AV.int .i64 w]]
        have hbl2 := blk_lt' hbo1
        refine W_reg ?_; simp [rDegreeRealiseX22, g2, g3, hb1, hp1, hbo1, d3, d4, fl_len, hlim, ht, LIM, hlast, hbo2, ints, WO_nil_iff, WO_grd, flatCells_ints, allLeaf_ints, WO_mv, WO_pick, WO_new, WO_box, WO_build, WO_bslice, WO_ld, WO_st, WO_nilck, WO_bin, WO_eq, WO_un, WO_cvt, WO_mkf, WO_mks, WO_slc, WO_fad, WO_fld, WO_ixa, WO_ixp, WO_ix, WO_ext, WO_ixs, WO_clr, WO_len, WO_app, WO_min, WO_max, aOp, ev, evs, Am.get, Am.put, putd, keepIn, mem, binA, arith, unA, eqA, eqc, isNil, lenA, idx, bnd, bndO, rdc, AV.cells, AV.leaf, allLeaf, ovw, sliceCells, flatCells, rep, fillA, okDraw, Fp.ok, List.getD, minA, minF, Ex.thn, Ex.blk]
        refine hK _ ?_; clear hK
        refine W_reg ?_; simp [rDegreeRealiseX23, wi, ints, WO_nil_iff, WO_grd, flatCells_ints, allLeaf_ints, WO_mv, WO_pick, WO_new, WO_box, WO_build, WO_bslice, WO_ld, WO_st, WO_nilck, WO_bin, WO_eq, WO_un, WO_cvt, WO_mkf, WO_mks, WO_slc, WO_fad, WO_fld, WO_ixa, WO_ixp, WO_ix, WO_ext, WO_ixs, WO_clr, WO_len, WO_app, WO_min, WO_max, aOp, ev, evs, Am.get, Am.put, putd, keepIn, mem, binA, arith, unA, eqA, eqc, isNil, lenA, idx, bnd, bndO, rdc, AV.cells, AV.leaf, allLeaf, ovw, blk, sliceCells, flatCells, rep, fillA, okDraw, Fp.ok, List.getD, minA, minF, Ex.thn, Ex.blk]
        refine fin _ _ ?_ ?_ (.inr ⟨H1.length + 1, by simp, ?_, by simp⟩) ?_ ?_
        · refine blk_ap ?_ _
          rw [blk_set_ne (n2 bo _ rfl)]; exact blk_ap hp1 _
        · refine blk_ap ?_ _
          rw [blk_set_ne (n1 bo _ rfl)]; exact blk_ap hb1 _
        · unfold blk; simp [fl, fl_app]
        · intro c n e; simp only [AV.sl.injEq] at e; omega
        · intro c n e; simp only [AV.sl.injEq] at e; omega
end Go.AmP
