/- degree.realise in the older machine: the loop through the nodes, and the whole. -/
import Derived.Test.YtjfdniggjdnkiaaRzA
set_option linter.unusedSimpArgs false
set_option linter.unusedVariables false
set_option maxRecDepth 100000
namespace Go.AmP
open Go.Am
open Go.Bm (pr2 cfM isortC isortC_perm isortC_length inn otr needs rz fl fl_len fl_app fl_drop fl_set Cel)
theorem Cl.orcl {c : Cfg} {f : Nat} {g : List AV → Heap → Option (AV × Heap)} (ho : c.orc f = some g) {args : List AV} {H : Heap} {r : AV} {H' : Heap} (h : g args H = some (r, H')) : Cl c f args H r H' :=
  ⟨0, fun m _ => by unfold aCall callW; simp only [ho]; exact h⟩
def R64 (L : List (Int × Int)) : Prop := ∀ x ∈ L, 0 ≤ x.1 ∧ x.1 < 64 ∧ 0 ≤ x.2 ∧ x.2 < 64
theorem in64_of {L : List (Int × Int)} (h : R64 L) : in64 L = true := by
  unfold in64
  exact List.all_eq_true.2 fun x hx => decide_eq_true (h x hx)
theorem inn_ok (v : Int) : ∀ (k i : Nat) (L out L' out' : List (Int × Int)), R64 L → inn v k i L out = some (L', out') → R64 L' ∧ L'.length = L.length ∧ out'.length = out.length + k
  | 0, i, L, out, L', out', hr, h => by
    simp only [inn, Option.some.injEq, Prod.mk.injEq] at h
    obtain ⟨rfl, rfl⟩ := h
    exact ⟨hr, rfl, rfl⟩
  | k + 1, i, L, out, L', out', hr, h => by
    unfold inn at h
    split at h
    · cases h
    · rename_i w d hi
      split at h
      · cases h
      · rename_i hd
        have h0 := hr _ (List.mem_of_getElem? hi)
        simp only at h0
        obtain ⟨a, b, c⟩ := inn_ok v k (i + 1) _ _ _ _ (fun x hx => by
          rcases List.mem_or_eq_of_mem_set hx with e | e
          · exact hr x e
          · subst e; simp only; omega) h
        refine ⟨a, by rw [b, List.length_set], ?_⟩
        rw [c]; simp; omega
/-- What is left, in a variable. -/
def Lf (H : Heap) (x o : AV) (L : List (Int × Int)) : Prop := (L = [] ∧ lenA x = some 0) ∨ ∃ b off cs, x = .sl 2 b off L.length ∧ blk H b = some cs ∧ Cel cs off L ∧ NotB o b
def Jk (j : Env) : Prop := j = [] ∨ ∃ a b c d, j = [(8, a), (48, b), (49, c), (50, d)]
theorem otr10 {x o : AV} {H : Heap} {j : Env} (hj : Jk j) {a : Nat} (hx : lenA x = some a) {Q : Ex → St → Prop} (h : Q .normal ⟨[(4, x), (7, o), (34, .bool (decide (0 < a)))], H⟩) :
    W cfgR (.reg rDegreeRealiseX10 false [] [4, 7, 34]) ⟨[(4, x), (7, o)] ++ j, H⟩ Q := by
  have ha : (0 < (a : Int)) ↔ 0 < a := by omega
  rcases hj with rfl | ⟨b, c, d, e, rfl⟩
  · refine W_reg ?_; simp [rDegreeRealiseX10, hx, ha, ints, WO_nil_iff, WO_grd, flatCells_ints, allLeaf_ints, WO_mv, WO_pick, WO_new, WO_box, WO_build, WO_bslice, WO_ld, WO_st, WO_nilck, WO_bin, WO_eq, WO_un, WO_cvt, WO_mkf, WO_mks, WO_slc, WO_fad, WO_fld, WO_ixa, WO_ixp, WO_ix, WO_ext, WO_ixs, WO_clr, WO_len, WO_app, WO_min, WO_max, aOp, ev, evs, Am.get, Am.put, putd, keepIn, mem, binA, arith, unA, eqA, eqc, isNil, idx, bnd, bndO, rdc, AV.cells, AV.leaf, allLeaf, ovw, blk, sliceCells, flatCells, rep, fillA, okDraw, Fp.ok, List.getD, minA, minF, Ex.thn, Ex.blk]
    simpa using h
  · refine W_reg ?_; simp [rDegreeRealiseX10, hx, ha, ints, WO_nil_iff, WO_grd, flatCells_ints, allLeaf_ints, WO_mv, WO_pick, WO_new, WO_box, WO_build, WO_bslice, WO_ld, WO_st, WO_nilck, WO_bin, WO_eq, WO_un, WO_cvt, WO_mkf, WO_mks, WO_slc, WO_fad, WO_fld, WO_ixa, WO_ixp, WO_ix, WO_ext, WO_ixs, WO_clr, WO_len, WO_app, WO_min, WO_max, aOp, ev, evs, Am.get, Am.put, putd, keepIn, mem, binA, arith, unA, eqA, eqc, isNil, idx, bnd, bndO, rdc, AV.cells, AV.leaf, allLeaf, ovw, blk, sliceCells, flatCells, rep, fillA, okDraw, Fp.ok, List.getD, minA, minF, Ex.thn, Ex.blk]
    simpa using h
theorem otr_loop (Q : Ex → St → Prop) : ∀ (n : Nat) (L out : List (Int × Int)) (x o : AV) (H : Heap) (j : Env), Jk j → L.length = n → n ≤ 64 → out.length + 64 * n ≤ 4096 → R64 L → Lf H x o L → Ot H o out →
    (match otr n L out with
      | none => ∀ H', Q .ret ⟨[(2, .nils), (3, .bool false)], H'⟩
      | some out' => ∀ H' x' o', Ot H' o' out' → Q (.exit 2) ⟨[(4, x'), (7, o'), (34, .bool false)], H'⟩) →
    W cfgR (.loop lDegreeRealiseX2) ⟨[(4, x), (7, o)] ++ j, H⟩ Q
  | 0, L, out, x, o, H, j, hj, hL, hn, hout, hr, hx, ho, hQ => by
    have hl : L = [] := List.eq_nil_of_length_eq_zero hL
    subst hl
    have lx : lenA x = some 0 := by
      rcases hx with ⟨_, h⟩ | ⟨b, off, cs, rfl, _⟩
      · exact h
      · rfl
    refine W_loop ?_
    simp only [lDegreeRealiseX2]
    refine W_seq fun K hK => ?_
    refine W_seq fun K hK => otr10 hj lx ?_
    refine hK _ ?_; clear hK
    refine W_condF (by simp [ev, Am.get]) ?_
    refine W_exit ?_
    have := hQ H x o ho
    simpa [Ex.thn] using this
  | n + 1, L, out, x, o, H, j, hj, hL, hn, hout, hr, hx, ho, hQ => by
    obtain ⟨b, off, cs, rfl, hb, hc, nb⟩ : ∃ b off cs, x = .sl 2 b off L.length ∧ blk H b = some cs ∧ Cel cs off L ∧ NotB o b := by
      rcases hx with ⟨rfl, _⟩ | h
      · simp at hL
      · exact h
    have sp := isortC_perm cfM L
    have sl := isortC_length cfM L
    obtain ⟨⟨v, d⟩, r, hs⟩ : ∃ y r, isortC cfM L = y :: r := by
      cases h : isortC cfM L with
      | nil => rw [h] at sl; simp at sl; omega
      | cons y r => exact ⟨y, r, rfl⟩
    have hrs : R64 ((v, d) :: r) := fun z hz => hr z (by rw [← hs] at hz; exact sp.mem_iff.1 hz)
    have hvd := hrs (v, d) List.mem_cons_self
    simp only at hvd
    have hrl : r.length = n := by rw [hs] at sl; simp at sl; omega
    have hotr : otr (n + 1) L out = if (r.length : Int) < d then none else match inn v d.toNat 0 r out with
      | none => none
      | some (r', out') => otr n r' out' := by rw [otr, hs]; rfl
    rw [hotr] at hQ
    have cl := hc.len
    have hbl := blk_lt' hb
    have lx : lenA (.sl 2 b off L.length) = some (n + 1) := by rw [← hL]; rfl
    have hcs := hc.sort (M := isortC cfM L) sl
    have hg : gSrt [.sl 2 b off L.length, .func (.func nDegreeMost) [] []] H = some (.tup [], H.set b (some (ovw cs off (fl (isortC cfM L))))) := by
      simp only [gSrt, if_true, hb]
      rw [if_pos ⟨cl, by omega, by omega⟩, hc.take, prOf_fl]
      simp only
      rw [if_pos (in64_of hr)]
    rw [hs] at hcs
    obtain ⟨r1, d1, d2⟩ := hcs.at (i := 0) (w := v) (d := d) rfl
    simp only [Nat.zero_mul, Nat.add_zero] at d1 d2
    have hb1 : blk (H.set b (some (ovw cs off (fl (isortC cfM L))))) b = some (ovw cs off (fl (isortC cfM L))) := blk_set_eq hbl
    rw [hs] at hb1 hg
    have ho1 : Ot (H.set b (some (ovw cs off (fl ((v, d) :: r))))) o out := ho.mono fun c e h => by
      rw [blk_set_ne (fun k => nb c _ e k.symm)]; exact h
    generalize H.set b (some (ovw cs off (fl ((v, d) :: r)))) = H1 at *
    generalize ovw cs off (fl ((v, d) :: r)) = cs1 at *
    have hcr := hcs.tail
    have hbl1 := blk_lt' hb1
    have h1n : (1 : Int) ≤ (n : Int) + 1 := by omega
    have hLI : (L.length : Int) = (n : Int) + 1 := by omega
    refine W_loop ?_
    simp only [lDegreeRealiseX2]
    refine W_seq fun K hK => ?_
    refine W_seq fun K hK => otr10 hj lx ?_
    refine hK _ ?_; clear hK
    refine W_condT (by simp [ev, Am.get]) ?_
    refine W_skip ?_
    refine hK _ ?_; clear hK
    refine W_blk ?_
    refine W_seq fun K hK => W_reg ?_; simp [rDegreeRealiseX11, ints, WO_nil_iff, WO_grd, flatCells_ints, allLeaf_ints, WO_mv, WO_pick, WO_new, WO_box, WO_build, WO_bslice, WO_ld, WO_st, WO_nilck, WO_bin, WO_eq, WO_un, WO_cvt, WO_mkf, WO_mks, WO_slc, WO_fad, WO_fld, WO_ixa, WO_ixp, WO_ix, WO_ext, WO_ixs, WO_clr, WO_len, WO_app, WO_min, WO_max, aOp, ev, evs, Am.get, Am.put, putd, keepIn, mem, binA, arith, unA, eqA, eqc, isNil, lenA, idx, bnd, bndO, rdc, AV.cells, AV.leaf, allLeaf, ovw, blk, sliceCells, flatCells, rep, fillA, okDraw, Fp.ok, List.getD, minA, minF, Ex.thn, Ex.blk]
    refine WO_callK gSlicesSortFuncDegreeNeedDegreeNeed (Cl.orcl rfl (by simpa [evs, ev, Am.get] using hg)) ?_
    simp [ints, WO_nil_iff, WO_grd, flatCells_ints, allLeaf_ints, WO_mv, WO_pick, WO_new, WO_box, WO_build, WO_bslice, WO_ld, WO_st, WO_nilck, WO_bin, WO_eq, WO_un, WO_cvt, WO_mkf, WO_mks, WO_slc, WO_fad, WO_fld, WO_ixa, WO_ixp, WO_ix, WO_ext, WO_ixs, WO_clr, WO_len, WO_app, WO_min, WO_max, aOp, ev, evs, Am.get, Am.put, putd, keepIn, mem, binA, arith, unA, eqA, eqc, isNil, lenA, idx, bnd, bndO, rdc, AV.cells, AV.leaf, allLeaf, ovw, blk, sliceCells, flatCells, rep, fillA, okDraw, Fp.ok, List.getD, minA, minF, Ex.thn, Ex.blk]
    refine hK _ ?_; clear hK
    have hl0 : blk (H1 ++ [some [AV.int .i64 0, AV.int .i64 0]]) H1.length = some [AV.int .i64 0, AV.int .i64 0] := blk_last []
    have hst : (H1 ++ [some [AV.int .i64 0, AV.int .i64 0]]).set H1.length (some [AV.int .i64 v, AV.int .i64 d]) = H1 ++ [some [AV.int .i64 v, AV.int .i64 d]] := by simp
    have hpos : 0 < L.length := by omega
    refine W_seq fun K hK => W_reg ?_; simp [rDegreeRealiseX12, hb1, d1, hpos, hl0, hst, ints, WO_nil_iff, WO_grd, flatCells_ints, allLeaf_ints, WO_mv, WO_pick, WO_new, WO_box, WO_build, WO_bslice, WO_ld, WO_st, WO_nilck, WO_bin, WO_eq, WO_un, WO_cvt, WO_mkf, WO_mks, WO_slc, WO_fad, WO_fld, WO_ixa, WO_ixp, WO_ix, WO_ext, WO_ixs, WO_clr, WO_len, WO_app, WO_min, WO_max, aOp, ev, evs, Am.get, Am.put, putd, keepIn, mem, binA, arith, unA, eqA, eqc, isNil, lenA, idx, bnd, bndO, rdc, AV.cells, AV.leaf, allLeaf, ovw, sliceCells, flatCells, rep, fillA, okDraw, Fp.ok, List.getD, minA, minF, Ex.thn, Ex.blk]; refine hK _ ?_; clear hK
    have hp2 : blk (H1 ++ [some [AV.int .i64 v, AV.int .i64 d]]) H1.length = some [.int .i64 v, .int .i64 d] := blk_last []
    have hb2 := blk_ap hb1 [some [AV.int .i64 v, AV.int .i64 d]]
    have ho2 : Ot (H1 ++ [some [AV.int .i64 v, AV.int .i64 d]]) o out := ho1.mono fun c e h => blk_ap h _
    have nb2 : NotB o H1.length := by
      rintro c m rfl
      rcases ho1 with ⟨_, e⟩ | ⟨c', e, _, hlt⟩
      · cases e
      · simp only [AV.sl.injEq] at e; omega
    generalize H1 ++ [some [AV.int .i64 v, AV.int .i64 d]] = H2 at *
    generalize hpe : H1.length = p at *
    have hpb : p ≠ b := by omega
    have hsub : L.length - 1 = r.length := by omega
    have h1L : (1 : Int) ≤ (L.length : Int) := by omega
    refine W_seq fun K hK => W_reg ?_; simp [rDegreeRealiseX13, hsub, h1L, ints, WO_nil_iff, WO_grd, flatCells_ints, allLeaf_ints, WO_mv, WO_pick, WO_new, WO_box, WO_build, WO_bslice, WO_ld, WO_st, WO_nilck, WO_bin, WO_eq, WO_un, WO_cvt, WO_mkf, WO_mks, WO_slc, WO_fad, WO_fld, WO_ixa, WO_ixp, WO_ix, WO_ext, WO_ixs, WO_clr, WO_len, WO_app, WO_min, WO_max, aOp, ev, evs, Am.get, Am.put, putd, keepIn, mem, binA, arith, unA, eqA, eqc, isNil, lenA, idx, bnd, bndO, rdc, AV.cells, AV.leaf, allLeaf, ovw, sliceCells, flatCells, rep, fillA, okDraw, Fp.ok, List.getD, minA, minF, Ex.thn, Ex.blk]; refine hK _ ?_; clear hK
    refine W_seq fun K hK => ?_
    refine W_seq fun K hK => W_reg ?_; simp [rDegreeRealiseX14, hp2, ints, WO_nil_iff, WO_grd, flatCells_ints, allLeaf_ints, WO_mv, WO_pick, WO_new, WO_box, WO_build, WO_bslice, WO_ld, WO_st, WO_nilck, WO_bin, WO_eq, WO_un, WO_cvt, WO_mkf, WO_mks, WO_slc, WO_fad, WO_fld, WO_ixa, WO_ixp, WO_ix, WO_ext, WO_ixs, WO_clr, WO_len, WO_app, WO_min, WO_max, aOp, ev, evs, Am.get, Am.put, putd, keepIn, mem, binA, arith, unA, eqA, eqc, isNil, lenA, idx, bnd, bndO, rdc, AV.cells, AV.leaf, allLeaf, ovw, sliceCells, flatCells, rep, fillA, okDraw, Fp.ok, List.getD, minA, minF, Ex.thn, Ex.blk]; refine hK _ ?_; clear hK
    by_cases hdr : (r.length : Int) < d
    · rw [if_pos hdr] at hQ
      refine W_condT (by simp [hdr, ev, Am.get]) ?_
      refine W_seq fun K hK => W_reg ?_; simp [rDegreeRealiseX15, ints, WO_nil_iff, WO_grd, flatCells_ints, allLeaf_ints, WO_mv, WO_pick, WO_new, WO_box, WO_build, WO_bslice, WO_ld, WO_st, WO_nilck, WO_bin, WO_eq, WO_un, WO_cvt, WO_mkf, WO_mks, WO_slc, WO_fad, WO_fld, WO_ixa, WO_ixp, WO_ix, WO_ext, WO_ixs, WO_clr, WO_len, WO_app, WO_min, WO_max, aOp, ev, evs, Am.get, Am.put, putd, keepIn, mem, binA, arith, unA, eqA, eqc, isNil, lenA, idx, bnd, bndO, rdc, AV.cells, AV.leaf, allLeaf, ovw, blk, sliceCells, flatCells, rep, fillA, okDraw, Fp.ok, List.getD, minA, minF, Ex.thn, Ex.blk]; refine hK _ ?_; clear hK
      refine W_ret ?_
      simpa [Ex.thn, Ex.blk] using hQ H2
    · rw [if_neg hdr] at hQ
      refine W_condF (by simp [hdr, ev, Am.get]) ?_
      refine W_skip ?_
      refine hK _ ?_; clear hK
      refine W_seq fun K hK => W_reg ?_; simp [rDegreeRealiseX16, hp2, ints, WO_nil_iff, WO_grd, flatCells_ints, allLeaf_ints, WO_mv, WO_pick, WO_new, WO_box, WO_build, WO_bslice, WO_ld, WO_st, WO_nilck, WO_bin, WO_eq, WO_un, WO_cvt, WO_mkf, WO_mks, WO_slc, WO_fad, WO_fld, WO_ixa, WO_ixp, WO_ix, WO_ext, WO_ixs, WO_clr, WO_len, WO_app, WO_min, WO_max, aOp, ev, evs, Am.get, Am.put, putd, keepIn, mem, binA, arith, unA, eqA, eqc, isNil, lenA, idx, bnd, bndO, rdc, AV.cells, AV.leaf, allLeaf, ovw, sliceCells, flatCells, rep, fillA, okDraw, Fp.ok, List.getD, minA, minF, Ex.thn, Ex.blk]; refine hK _ ?_; clear hK
      refine W_blk ?_
      have hdn : ((0 : Nat) : Int) + (d.toNat : Int) = d := by omega
      have hrr : R64 r := fun z hz => hrs z (List.mem_cons_of_mem _ hz)
      have hin := inn_loop v d p b (off + 2) hpb (Ex.blk 4 (Ex.blk 3 (Ex.thn (fun s' => W cfgR (.loop lDegreeRealiseX2) s' Q) Q))) d.toNat 0 r out o H2 cs1 (by omega) (by omega) (by omega) (fun z hz => by have := hrr z hz; omega) hp2 hb2 hcr ho2 nb nb2 (by
        cases hi : inn v d.toNat 0 r out with
        | none =>
          rw [hi] at hQ
          intro H'
          simpa [Ex.blk, Ex.thn] using hQ H'
        | some w =>
          obtain ⟨r', out'⟩ := w
          rw [hi] at hQ
          obtain ⟨k1, k2, k3⟩ := inn_ok v _ _ _ _ _ _ hrr hi
          intro H' o' cs' q1 q2 q3 q4
          simp only [Ex.blk, Ex.thn, if_true]
          refine otr_loop Q n r' out' _ o' H' [(8, _), (48, _), (49, _), (50, _)] (.inr ⟨_, _, _, _, rfl⟩) (by omega) (by omega) (by omega) k1 (.inr ⟨b, off + 2, cs', by rw [k2], q1, q2, q4⟩) q3 hQ)
      rw [hdn] at hin
      simpa [lDegreeRealiseX2] using hin
end Go.AmP
