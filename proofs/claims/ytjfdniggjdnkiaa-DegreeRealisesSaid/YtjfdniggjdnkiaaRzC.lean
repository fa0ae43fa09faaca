/- degree.realise in the older machine: what it returns, for any numbers. -/
import Derived.Test.YtjfdniggjdnkiaaLgL
import Derived.Test.YtjfdniggjdnkiaaAmP
import Derived.Test.YtjfdniggjdnkiaaRzP
set_option linter.unusedSimpArgs false
set_option linter.unusedVariables false
set_option maxRecDepth 100000
namespace Go.AmP
open Go.Am
open Go.Bm (pr2 cfM isortC isortC_perm isortC_length inn otr needs rz fl fl_len fl_app fl_drop fl_set Cel)
def prOf : List AV -> Option (List (Int × Int))
 | [] => some []
 | .int .i64 a :: .int .i64 b :: r => match prOf r with
   | some l => some ((a, b) :: l)
   | none => none
 | _ => none
theorem prOf_fl : ∀ L, prOf (fl L) = some L
 | [] => rfl
 | x :: r => by simp only [fl, prOf, prOf_fl r]
def in64 (L : List (Int × Int)) : Bool := L.all fun x => decide (0 <= x.1 /\ x.1 < 64 /\ 0 <= x.2 /\ x.2 < 64)
def gSrt : List AV -> Heap -> Option (AV × Heap)
 | [.sl 2 b off len, .func (.func m) [] []], H => if m = nDegreeMost then match blk H b with
   | some cs => if off + len * 2 <= cs.length /\ 0 < len /\ len <= 64 then match prOf ((cs.drop off).take (len * 2)) with
     | some zs => if in64 zs = true then some (.tup [], H.set b (some (ovw cs off (fl (isortC cfM zs))))) else none
     | none => none
     else none
   | none => none
   else none
 | _, _ => none
def cfgR : Cfg := { cfg with orc := fun f => if f = nSlicesSortFuncDegreeNeedDegreeNeed then some gSrt else none }
theorem wrap_i64 {x : Int} (h0 : -9223372036854775808 <= x) (h1 : x <= 9223372036854775807) : IntKind.i64.wrap x = x := by rw [IntKind.wrap_i64]; omega
section
attribute [local simp] ints WO_nil_iff WO_grd flatCells_ints allLeaf_ints WO_mv WO_pick WO_new WO_box WO_build WO_bslice WO_ld WO_st WO_bin WO_slc WO_fad WO_ixa WO_len WO_app aOp ev evs Am.get Am.put putd keepIn mem binA arith lenA idx bnd bndO rdc AV.cells AV.leaf allLeaf ovw blk sliceCells flatCells rep fillA okDraw Fp.ok List.getD Ex.thn Ex.blk
theorem most_cl (x y : Int × Int) (h1 : 0 <= x.1 /\ x.1 < 64 /\ 0 <= x.2 /\ x.2 < 64) (h2 : 0 <= y.1 /\ y.1 < 64 /\ 0 <= y.2 /\ y.2 < 64) : Cl cfg nDegreeMost [pr2 x, pr2 y] [] (.int .i64 (cfM x y)) [some [.int .i64 x.1, .int .i64 x.2], some [.int .i64 y.1, .int .i64 y.2]] := by
 obtain ⟨a, b⟩ := x
 obtain ⟨c, d⟩ := y
 simp only at h1 h2
 have w1 : IntKind.i64.wrap (a - c) = a - c := wrap_i64 (by omega) (by omega)
 have w2 : IntKind.i64.wrap (d - b) = d - b := wrap_i64 (by omega) (by omega)
 refine (Cl.of rfl gDegreeMost (by simp [qDegreeMost]) ?_)
 simp only [qDegreeMost, cDegreeMost, mkEnv]
 simp only [pr2]
 refine W_seq fun K hK => W_reg ?_; simp [rDegreeMostX0]; refine hK _ ?_; clear hK
 refine W_seq fun K hK => ?_
 refine W_seq fun K hK => W_reg ?_; simp [rDegreeMostX1]; refine hK _ ?_; clear hK
 by_cases e : b = d
 ·refine W_condF (by simp [e, ev, Am.get]) ?_; refine W_skip ?_; refine hK _ ?_; clear hK
  refine W_seq fun K hK => W_reg ?_; simp [rDegreeMostX3, w1]; refine hK _ ?_; clear hK
  refine W_ret ?_
  simp [resL, resA, Am.get, tupOf, Ex.thn, cfM, e]
 ·refine W_condT (by simp [e, ev, Am.get]) ?_
  refine W_seq fun K hK => W_reg ?_; simp [rDegreeMostX2, w2]; refine hK _ ?_; clear hK
  refine W_ret ?_
  simp [resL, resA, Am.get, tupOf, Ex.thn, cfM, e]
end
def Ot (H : Heap) (o : AV) (l : List (Int × Int)) : Prop := (l = [] /\ o = .nils) \/ ∃ b, o = .sl 2 b 0 l.length /\ blk H b = some (fl l) /\ b < H.length
theorem blk_ap {H : Heap} {b : Nat} {cs : List AV} (h : blk H b = some cs) (T : Heap) : blk (H ++ T) b = some cs := by
 unfold blk at h ⊢
 by_cases k : b < H.length
 ·rw [List.getElem?_append_left k]; exact h
 ·rw [List.getElem?_eq_none (by omega)] at h; cases h
theorem blk_lt' {H : Heap} {b : Nat} {cs : List AV} (h : blk H b = some cs) : b < H.length := by
 unfold blk at h
 by_cases k : b < H.length
 ·exact k
 ·rw [List.getElem?_eq_none (by omega)] at h; cases h
theorem blk_set_ne {H : Heap} {b c : Nat} {v : Blk} (h : b ≠ c) : blk (H.set b v) c = blk H c := by
 unfold blk; rw [List.getElem?_set_ne h]
theorem blk_set_eq {H : Heap} {b : Nat} {cs : List AV} (h : b < H.length) : blk (H.set b (some cs)) b = some cs := by
 unfold blk; rw [List.getElem?_set_self h]
theorem blk_last {H : Heap} {cs : List AV} (T : Heap) : blk (H ++ some cs :: T) H.length = some cs := by
 unfold blk; simp
theorem Ot.mono {H H' : Heap} {o : AV} {l : List (Int × Int)} (h : Ot H o l) (hb : ∀ b, o = .sl 2 b 0 l.length -> blk H b = some (fl l) -> blk H' b = some (fl l)) : Ot H' o l := by
 rcases h with h | ⟨b, h1, h2, h3⟩
 ·exact .inl h
 ·exact .inr ⟨b, h1, hb b h1 h2, blk_lt' (hb b h1 h2)⟩
def NotB (o : AV) (b : Nat) : Prop := ∀ c n, o = .sl 2 c 0 n -> c ≠ b
section
attribute [local simp] ints WO_nil_iff WO_grd flatCells_ints allLeaf_ints WO_mv WO_pick WO_new WO_box WO_build WO_bslice WO_ld WO_st WO_bin WO_slc WO_fad WO_ixa WO_len WO_app aOp ev evs Am.get Am.put putd keepIn mem binA arith lenA idx bnd bndO rdc AV.cells AV.leaf allLeaf ovw blk sliceCells flatCells rep fillA okDraw Fp.ok List.getD Ex.thn Ex.blk
theorem inn_loop (v d0 : Int) (p b off : Nat) (hpb : p ≠ b) (Q : Ex -> St -> Prop) : ∀ (k i : Nat) (L out : List (Int × Int)) (o : AV) (H : Heap) (cs : List AV), i + k <= L.length -> L.length < 64 -> out.length + k <= 4096 -> (∀ x ∈ L, 0 <= x.2 /\ x.2 < 64) -> blk H p = some [.int .i64 v, .int .i64 d0] -> blk H b = some cs -> Cel cs off L -> Ot H o out -> NotB o b -> NotB o p ->
  (match inn v k i L out with
   | none => ∀ H', Q .ret ⟨[(2, .nils), (3, .bool false)], H'⟩
   | some (L', out') => ∀ H' o' cs', blk H' b = some cs' -> Cel cs' off L' -> Ot H' o' out' -> NotB o' b -> Q (.exit 4) ⟨[(4, .sl 2 b off L.length), (7, o'), (8, .ptr p 0), (48, .int .i64 ((i : Int) + k)), (49, .int .i64 ((i : Int) + k)), (50, .bool false)], H'⟩) ->
  W cfgR (.loop lQlX1) ⟨[(4, .sl 2 b off L.length), (7, o), (8, .ptr p 0), (48, .int .i64 ((i : Int) + k)), (49, .int .i64 i)], H⟩ Q
 | 0, i, L, out, o, H, cs, hik, hL, hout, hr, hp, hb, hc, ho, n1, n2, hQ => by
   refine W_loop ?_
   simp only [lQlX1]
   refine W_seq fun K hK => W_reg ?_; simp [rQlX17]; refine hK _ ?_; clear hK
   refine W_seq fun K hK => ?_
   refine W_condF (by simp [ev, Am.get]) ?_
   refine W_exit ?_
   have := hQ H o cs hb hc ho n1
   simpa [Ex.thn] using this
 | k + 1, i, L, out, o, H, cs, hik, hL, hout, hr, hp, hb, hc, ho, n1, n2, hQ => by
   have hlt : i < L.length := by omega
   obtain ⟨⟨w, d⟩, hi⟩ : ∃ x, L[i]? = some x := ⟨L[i], List.getElem?_eq_getElem hlt⟩
   have hd := hr (w, d) (List.mem_of_getElem? hi)
   simp only at hd
   obtain ⟨r1, d1, d2⟩ := hc.at hi
   have g1 : (i : Int) < (i : Int) + ((k : Int) + 1) := by omega
   have g2 : (0 : Int) <= i := by omega
   have g3 : (i : Int) < (L.length : Int) := by omega
   have wd : IntKind.i64.wrap (d - 1) = d - 1 := wrap_i64 (by omega) (by omega)
   have wi : IntKind.i64.wrap ((i : Int) + 1) = (i : Int) + 1 := wrap_i64 (by omega) (by omega)
   have cl := hc.len
   have e1 : off + i * 2 + 1 + 1 <= cs.length := by omega
   have hbl := blk_lt' hb
   have hpl := blk_lt' hp
   have hinn : inn v (k + 1) i L out = if d = 0 then none else inn v k (i + 1) (L.set i (w, d - 1)) (out ++ [(v, w)]) := by rw [inn, hi]
   rw [hinn] at hQ
   refine W_loop ?_
   simp only [lQlX1]
   refine W_seq fun K hK => W_reg ?_; simp [rQlX17, g1]; refine hK _ ?_; clear hK
   refine W_seq fun K hK => ?_
   refine W_condT (by simp [ev, Am.get]) ?_
   refine W_skip ?_
   refine hK _ ?_; clear hK
   refine W_seq fun K hK => ?_
   refine W_blk ?_
   refine W_seq fun K hK => W_reg ?_; simp [rQlX18]; refine hK _ ?_; clear hK
   refine W_seq fun K hK => ?_
   refine W_seq fun K hK => W_reg ?_; simp [rQlX19, g2, g3, hb, d1, d2, -blk]; refine hK _ ?_; clear hK
   by_cases hz : d = 0
   ·subst hz
    rw [if_pos rfl] at hQ
    refine W_condT (by simp [ev, Am.get]) ?_
    refine W_seq fun K hK => W_reg ?_; simp [rQlX20]; refine hK _ ?_; clear hK
    refine W_ret ?_
    simpa [Ex.thn, Ex.blk] using hQ H
   ·rw [if_neg hz] at hQ
    refine W_condF (by simp [hz, ev, Am.get]) ?_
    refine W_skip ?_
    refine hK _ ?_; clear hK
    refine W_seq fun K hK => W_reg ?_; simp [rQlX21, g2, g3, hb, d1, d2, wd, e1, -blk, -ovw]; refine hK _ ?_; clear hK
    have hc1 := hc.set (d - 1) hi
    obtain ⟨r2, d3, d4⟩ := hc1.at (i := i) (w := w) (d := d - 1) (by rw [List.getElem?_set_self hlt])
    have hb1 : blk (H.set b (some (ovw cs (off + i * 2 + 1) [AV.int .i64 (d - 1)]))) b = some (ovw cs (off + i * 2 + 1) [AV.int .i64 (d - 1)]) := blk_set_eq hbl
    have hp1 : blk (H.set b (some (ovw cs (off + i * 2 + 1) [AV.int .i64 (d - 1)]))) p = some [.int .i64 v, .int .i64 d0] := by rw [blk_set_ne (Ne.symm hpb)]; exact hp
    generalize hH1 : H.set b (some (ovw cs (off + i * 2 + 1) [AV.int .i64 (d - 1)])) = H1 at *
    generalize ovw cs (off + i * 2 + 1) [AV.int .i64 (d - 1)] = cs1 at *
    have hbl1 := blk_lt' hb1
    have hpl1 := blk_lt' hp1
    have hlen : (L.set i (w, d - 1)).length = L.length := List.length_set
    have fin : ∀ (o' : AV) (H' : Heap), blk H' p = some [.int .i64 v, .int .i64 d0] -> blk H' b = some cs1 -> Ot H' o' (out ++ [(v, w)]) -> NotB o' b -> NotB o' p -> W cfgR (.loop lQlX1) ⟨[(4, .sl 2 b off L.length), (7, o'), (8, .ptr p 0), (48, .int .i64 ((i : Int) + ((k : Int) + 1))), (49, .int .i64 ((i : Int) + 1))], H'⟩ Q := by
     intro o' H' hp' hb' ho' m1 m2
     have ih := inn_loop v d0 p b off hpb Q k (i + 1) (L.set i (w, d - 1)) (out ++ [(v, w)]) o' H' cs1 (by rw [hlen]; omega) (by rw [hlen]; exact hL) (by simp; omega) (fun x hx => by
      rcases List.mem_or_eq_of_mem_set hx with h | h
      ·exact hr x h
      ·subst h; simp only; omega) hp' hb' hc1 ho' m1 m2 (by
      rw [hlen, show ((i + 1 : Nat) : Int) + (k : Int) = (i : Int) + ((k + 1 : Nat) : Int) by omega]; exact hQ)
     rw [hlen, show ((i + 1 : Nat) : Int) + (k : Int) = (i : Int) + ((k : Int) + 1) by omega, show ((i + 1 : Nat) : Int) = (i : Int) + 1 by omega] at ih
     exact ih
    have hlast : blk (H1 ++ [some [AV.int .i64 v, AV.int .i64 w]]) H1.length = some [AV.int .i64 v, AV.int .i64 w] := blk_last []
    rcases ho with ⟨rfl, rfl⟩ | ⟨bo, rfl, hbo, hbol⟩
    ·refine W_reg ?_; simp [rQlX22, g2, g3, hb1, hp1, d3, d4, hlast, LIM, -blk]
     refine hK _ ?_; clear hK
     refine W_reg ?_; simp [rQlX23, wi]
     refine fin _ _ (blk_ap hp1 _) (blk_ap hb1 _) (.inr ⟨H1.length + 1, rfl, ?_, by simp⟩) ?_ ?_
     ·unfold blk; simp [fl]
     ·intro c n e; simp only [AV.sl.injEq] at e; omega
     ·intro c n e; simp only [AV.sl.injEq] at e; omega
    ·have hbo1 : blk H1 bo = some (fl out) := by rw [<- hH1, blk_set_ne (fun e => n1 bo _ rfl e.symm)]; exact hbo
     have hlim : out.length + 1 <= 4294967296 := by omega
     have ht : List.take (out.length * 2) (fl out) = fl out := List.take_of_length_le (by rw [fl_len]; omega)
     have hbo2 := blk_ap hbo1 [some [AV.int .i64 v, AV.int .i64 w]]
     have hbl2 := blk_lt' hbo1
     refine W_reg ?_; simp [rQlX22, g2, g3, hb1, hp1, hbo1, d3, d4, fl_len, hlim, ht, LIM, hlast, hbo2, -blk]
     refine hK _ ?_; clear hK
     refine W_reg ?_; simp [rQlX23, wi]
     refine fin _ _ ?_ ?_ (.inr ⟨H1.length + 1, by simp, ?_, by simp⟩) ?_ ?_
     ·refine blk_ap ?_ _
      rw [blk_set_ne (n2 bo _ rfl)]; exact blk_ap hp1 _
     ·refine blk_ap ?_ _
      rw [blk_set_ne (n1 bo _ rfl)]; exact blk_ap hb1 _
     ·unfold blk; simp [fl, fl_app]
     ·intro c n e; simp only [AV.sl.injEq] at e; omega
     ·intro c n e; simp only [AV.sl.injEq] at e; omega
end
/- degree.realise in the older machine: the loop through the nodes, and the whole. -/
open Go.Bm (pr2 cfM isortC isortC_perm isortC_length inn otr needs rz fl fl_len fl_app fl_drop fl_set Cel)
theorem Cl.orcl {c : Cfg} {f : Nat} {g : List AV -> Heap -> Option (AV × Heap)} (ho : c.orc f = some g) {args : List AV} {H : Heap} {r : AV} {H' : Heap} (h : g args H = some (r, H')) : Cl c f args H r H' :=
 ⟨0, fun m _ => by unfold aCall callW; simp only [ho]; exact h⟩
def R64 (L : List (Int × Int)) : Prop := ∀ x ∈ L, 0 <= x.1 /\ x.1 < 64 /\ 0 <= x.2 /\ x.2 < 64
theorem in64_of {L : List (Int × Int)} (h : R64 L) : in64 L = true := by
 unfold in64
 exact List.all_eq_true.2 fun x hx => decide_eq_true (h x hx)
theorem inn_ok (v : Int) : ∀ (k i : Nat) (L out L' out' : List (Int × Int)), R64 L -> inn v k i L out = some (L', out') -> R64 L' /\ L'.length = L.length /\ out'.length = out.length + k
 | 0, i, L, out, L', out', hr, h => by
   simp only [inn, Option.some.injEq, Prod.mk.injEq] at h
   obtain ⟨rfl, rfl⟩ := h
   exact ⟨hr, rfl, rfl⟩
 | k + 1, i, L, out, L', out', hr, h => by
   unfold inn at h
   split at h
   ·cases h
   ·rename_i w d hi
    split at h
    ·cases h
    ·rename_i hd
     have h0 := hr _ (List.mem_of_getElem? hi)
     simp only at h0
     obtain ⟨a, b, c⟩ := inn_ok v k (i + 1) _ _ _ _ (fun x hx => by
      rcases List.mem_or_eq_of_mem_set hx with e | e
      ·exact hr x e
      ·subst e; simp only; omega) h
     refine ⟨a, by rw [b, List.length_set], ?_⟩
     rw [c]; simp; omega
def Lf (H : Heap) (x o : AV) (L : List (Int × Int)) : Prop := (L = [] /\ lenA x = some 0) \/ ∃ b off cs, x = .sl 2 b off L.length /\ blk H b = some cs /\ Cel cs off L /\ NotB o b
def Jk (j : Env) : Prop := j = [] \/ ∃ a b c d, j = [(8, a), (48, b), (49, c), (50, d)]
section
attribute [local simp] ints WO_nil_iff WO_grd flatCells_ints allLeaf_ints WO_mv WO_pick WO_new WO_box WO_build WO_bslice WO_ld WO_st WO_bin WO_slc WO_fad WO_ixa WO_len WO_app aOp ev evs Am.get Am.put putd keepIn mem binA arith lenA idx bnd bndO rdc AV.cells AV.leaf allLeaf ovw blk sliceCells flatCells rep fillA okDraw Fp.ok List.getD Ex.thn Ex.blk
theorem otr10 {x o : AV} {H : Heap} {j : Env} (hj : Jk j) {a : Nat} (hx : lenA x = some a) {Q : Ex -> St -> Prop} (h : Q .normal ⟨[(4, x), (7, o), (34, .bool (decide (0 < a)))], H⟩) :
  W cfgR (.reg rQlX10 false [] [4, 7, 34]) ⟨[(4, x), (7, o)] ++ j, H⟩ Q := by
 have ha : (0 < (a : Int)) ↔ 0 < a := by omega
 rcases hj with rfl | ⟨b, c, d, e, rfl⟩
 ·refine W_reg ?_; simp [rQlX10, hx, ha, -lenA]
  simpa using h
 ·refine W_reg ?_; simp [rQlX10, hx, ha, -lenA]
  simpa using h
theorem otr_loop (Q : Ex -> St -> Prop) : ∀ (n : Nat) (L out : List (Int × Int)) (x o : AV) (H : Heap) (j : Env), Jk j -> L.length = n -> n <= 64 -> out.length + 64 * n <= 4096 -> R64 L -> Lf H x o L -> Ot H o out ->
  (match otr n L out with
   | none => ∀ H', Q .ret ⟨[(2, .nils), (3, .bool false)], H'⟩
   | some out' => ∀ H' x' o', Ot H' o' out' -> Q (.exit 2) ⟨[(4, x'), (7, o'), (34, .bool false)], H'⟩) ->
  W cfgR (.loop lQlX2) ⟨[(4, x), (7, o)] ++ j, H⟩ Q
 | 0, L, out, x, o, H, j, hj, hL, hn, hout, hr, hx, ho, hQ => by
   have hl : L = [] := List.eq_nil_of_length_eq_zero hL
   subst hl
   have lx : lenA x = some 0 := by
    rcases hx with ⟨_, h⟩ | ⟨b, off, cs, rfl, _⟩
    ·exact h
    ·rfl
   refine W_loop ?_
   simp only [lQlX2]
   refine W_seq fun K hK => ?_
   refine W_seq fun K hK => otr10 hj lx ?_
   refine hK _ ?_; clear hK
   refine W_condF (by simp [ev, Am.get]) ?_
   refine W_exit ?_
   have := hQ H x o ho
   simpa [Ex.thn] using this
 | n + 1, L, out, x, o, H, j, hj, hL, hn, hout, hr, hx, ho, hQ => by
   obtain ⟨b, off, cs, rfl, hb, hc, nb⟩ : ∃ b off cs, x = .sl 2 b off L.length /\ blk H b = some cs /\ Cel cs off L /\ NotB o b := by
    rcases hx with ⟨rfl, _⟩ | h
    ·simp at hL
    ·exact h
   have sp := isortC_perm cfM L
   have sl := isortC_length cfM L
   obtain ⟨⟨v, d⟩, r, hs⟩ : ∃ y r, isortC cfM L = y :: r := by
    cases h : isortC cfM L with
    | nil => rw [h] at sl; simp at sl; omega
    | cons y r => exact ⟨y, r, rfl⟩
   have hrs : R64 ((v, d) :: r) := fun z hz => hr z (by rw [<- hs] at hz; exact sp.mem_iff.1 hz)
   have hvd := hrs (v, d) List.mem_cons_self
   simp only at hvd
   have hrl : r.length = n := by rw [hs] at sl; simp at sl; omega
   have hotr : otr (n + 1) L out = if (r.length : Int) < d then none else match inn v d.toNat 0 r out with
    | none => none
    | some (r', out') => otr n r' out' := by rw [otr, hs]; rfl
   rw [hotr] at hQ
   have cl := hc.len
   have hbl := blk_lt' hb
   have lx : lenA (.sl 2 b off L.length) = some (n + 1) := by rw [<- hL]; rfl
   have hcs := hc.sort (M := isortC cfM L) sl
   have hg : gSrt [.sl 2 b off L.length, .func (.func nDegreeMost) [] []] H = some (.tup [], H.set b (some (ovw cs off (fl (isortC cfM L))))) := by
    simp only [gSrt, if_true, hb]
    rw [if_pos ⟨cl, by omega, by omega⟩, hc.take, prOf_fl]
    simp only
    rw [if_pos (in64_of hr)]
   rw [hs] at hcs
   obtain ⟨r1, d1, d2⟩ := hcs.at (i := 0) (w := v) (d := d) rfl
   simp only [Nat.zero_mul, Nat.add_zero] at d1 d2
   have hb1 : blk (H.set b (some (ovw cs off (fl (isortC cfM L))))) b = some (ovw cs off (fl (isortC cfM L))) := blk_set_eq hbl
   rw [hs] at hb1 hg
   have ho1 : Ot (H.set b (some (ovw cs off (fl ((v, d) :: r))))) o out := ho.mono fun c e h => by
    rw [blk_set_ne (fun k => nb c _ e k.symm)]; exact h
   generalize H.set b (some (ovw cs off (fl ((v, d) :: r)))) = H1 at *
   generalize ovw cs off (fl ((v, d) :: r)) = cs1 at *
   have hcr := hcs.tail
   have hbl1 := blk_lt' hb1
   have h1n : (1 : Int) <= (n : Int) + 1 := by omega
   have hLI : (L.length : Int) = (n : Int) + 1 := by omega
   refine W_loop ?_
   simp only [lQlX2]
   refine W_seq fun K hK => ?_
   refine W_seq fun K hK => otr10 hj lx ?_
   refine hK _ ?_; clear hK
   refine W_condT (by simp [ev, Am.get]) ?_
   refine W_skip ?_
   refine hK _ ?_; clear hK
   refine W_blk ?_
   refine W_seq fun K hK => W_reg ?_; simp [rQlX11]
   refine WO_callK gSlicesSortFuncDegreeNeedDegreeNeed (Cl.orcl rfl (by simpa [evs, ev, Am.get] using hg)) ?_
   simp 
   refine hK _ ?_; clear hK
   have hl0 : blk (H1 ++ [some [AV.int .i64 0, AV.int .i64 0]]) H1.length = some [AV.int .i64 0, AV.int .i64 0] := blk_last []
   have hst : (H1 ++ [some [AV.int .i64 0, AV.int .i64 0]]).set H1.length (some [AV.int .i64 v, AV.int .i64 d]) = H1 ++ [some [AV.int .i64 v, AV.int .i64 d]] := by simp
   have hpos : 0 < L.length := by omega
   refine W_seq fun K hK => W_reg ?_; simp [rQlX12, hb1, d1, hpos, hl0, hst, -blk]; refine hK _ ?_; clear hK
   have hp2 : blk (H1 ++ [some [AV.int .i64 v, AV.int .i64 d]]) H1.length = some [.int .i64 v, .int .i64 d] := blk_last []
   have hb2 := blk_ap hb1 [some [AV.int .i64 v, AV.int .i64 d]]
   have ho2 : Ot (H1 ++ [some [AV.int .i64 v, AV.int .i64 d]]) o out := ho1.mono fun c e h => blk_ap h _
   have nb2 : NotB o H1.length := by
    rintro c m rfl
    rcases ho1 with ⟨_, e⟩ | ⟨c', e, _, hlt⟩
    ·cases e
    ·simp only [AV.sl.injEq] at e; omega
   generalize H1 ++ [some [AV.int .i64 v, AV.int .i64 d]] = H2 at *
   generalize hpe : H1.length = p at *
   have hpb : p ≠ b := by omega
   have hsub : L.length - 1 = r.length := by omega
   have h1L : (1 : Int) <= (L.length : Int) := by omega
   refine W_seq fun K hK => W_reg ?_; simp [rQlX13, hsub, h1L, -blk]; refine hK _ ?_; clear hK
   refine W_seq fun K hK => ?_
   refine W_seq fun K hK => W_reg ?_; simp [rQlX14, hp2, -blk]; refine hK _ ?_; clear hK
   by_cases hdr : (r.length : Int) < d
   ·rw [if_pos hdr] at hQ
    refine W_condT (by simp [hdr, ev, Am.get]) ?_
    refine W_seq fun K hK => W_reg ?_; simp [rQlX15]; refine hK _ ?_; clear hK
    refine W_ret ?_
    simpa [Ex.thn, Ex.blk] using hQ H2
   ·rw [if_neg hdr] at hQ
    refine W_condF (by simp [hdr, ev, Am.get]) ?_
    refine W_skip ?_
    refine hK _ ?_; clear hK
    refine W_seq fun K hK => W_reg ?_; simp [rQlX16, hp2, -blk]; refine hK _ ?_; clear hK
    refine W_blk ?_
    have hdn : ((0 : Nat) : Int) + (d.toNat : Int) = d := by omega
    have hrr : R64 r := fun z hz => hrs z (List.mem_cons_of_mem _ hz)
    have hin := inn_loop v d p b (off + 2) hpb (Ex.blk 4 (Ex.blk 3 (Ex.thn (fun s' => W cfgR (.loop lQlX2) s' Q) Q))) d.toNat 0 r out o H2 cs1 (by omega) (by omega) (by omega) (fun z hz => by have := hrr z hz; omega) hp2 hb2 hcr ho2 nb nb2 (by
     cases hi : inn v d.toNat 0 r out with
     | none =>
       rw [hi] at hQ
       intro H'
       simpa [Ex.blk, Ex.thn] using hQ H'
     | some w =>
       obtain ⟨r', out'⟩ := w
       rw [hi] at hQ
       obtain ⟨k1, k2, k3⟩ := inn_ok v _ _ _ _ _ _ hrr hi
       intro H' o' cs' q1 q2 q3 q4
       simp only [Ex.blk, Ex.thn, if_true]
       refine otr_loop Q n r' out' _ o' H' [(8, _), (48, _), (49, _), (50, _)] (.inr ⟨_, _, _, _, rfl⟩) (by omega) (by omega) (by omega) k1 (.inr ⟨b, off + 2, cs', by rw [k2], q1, q2, q4⟩) q3 hQ)
    rw [hdn] at hin
    simpa [lQlX2] using hin
end
/- degree.realise in the older machine: the first loop, the whole. -/
open Go.Bm (pr2 cfM isortC isortC_perm isortC_length inn otr needs rz fl fl_len fl_app fl_drop fl_set Cel)
theorem needs_snoc (P : List Int) (d : Int) : needs (P ++ [d]) = needs P ++ [((P.length : Int), d)] := by
 simp [needs, List.zipIdx_append]
theorem needs_len (P : List Int) : (needs P).length = P.length := by simp [needs]
section
attribute [local simp] ints WO_nil_iff WO_grd flatCells_ints allLeaf_ints WO_mv WO_pick WO_new WO_box WO_build WO_bslice WO_ld WO_st WO_bin WO_slc WO_fad WO_ixa WO_len WO_app aOp ev evs Am.get Am.put putd keepIn mem binA arith lenA idx bnd bndO rdc AV.cells AV.leaf allLeaf ovw blk sliceCells flatCells rep fillA okDraw Fp.ok List.getD Ex.thn Ex.blk
theorem need_loop (l : List Int) (hl : l.length <= 64) (Q : Ex -> St -> Prop) : ∀ (R P : List Int) (x : AV) (H : Heap), l = P ++ R -> Ot H x (needs P) ->
  (if R.all (fun d => decide (0 <= d /\ d < (l.length : Int))) = true then ∀ H' x', Ot H' x' (needs l) -> Q (.exit 0) ⟨[(0, ints l), (4, x'), (10, ints l), (11, .int .i64 l.length), (12, .int .i64 l.length), (13, .bool false)], H'⟩
   else ∀ H', Q .ret ⟨[(2, .nils), (3, .bool false)], H'⟩) ->
  W cfgR (.loop lQlX0) ⟨[(0, ints l), (4, x), (10, ints l), (11, .int .i64 l.length), (12, .int .i64 P.length)], H⟩ Q
 | [], P, x, H, hP, hx, hQ => by
   obtain rfl : l = P := by simpa using hP
   simp only [List.all_nil, if_true] at hQ
   refine W_loop ?_
   simp only [lQlX0]
   refine W_seq fun K hK => W_reg ?_; simp [rQlX3, -ints]; refine hK _ ?_; clear hK
   refine W_seq fun K hK => ?_
   refine W_condF (by simp [ev, Am.get]) ?_
   refine W_exit ?_
   have := hQ H x hx
   simpa [Ex.thn] using this
 | d :: R, P, x, H, hP, hx, hQ => by
   have hlen : l.length = P.length + (R.length + 1) := by rw [hP]; simp
   have g1 : (P.length : Int) < (l.length : Int) := by omega
   have g0 : (0 : Int) <= (P.length : Int) := by omega
   have gl : P.length < l.length := by omega
   have wi : IntKind.i64.wrap ((P.length : Int) + 1) = (P.length : Int) + 1 := wrap_i64 (by omega) (by omega)
   have hat : l[P.length]? = some d := by rw [hP]; simp
   have hll : lenA (ints l) = some l.length := by simp [ints, lenA]
   refine W_loop ?_
   simp only [lQlX0]
   refine W_seq fun K hK => W_reg ?_; simp [rQlX3, g1, -ints]; refine hK _ ?_; clear hK
   refine W_seq fun K hK => ?_
   refine W_condT (by simp [ev, Am.get]) ?_
   refine W_skip ?_
   refine hK _ ?_; clear hK
   refine W_seq fun K hK => ?_
   refine W_blk ?_
   refine W_seq fun K hK => W_reg ?_; simp [rQlX4, g0, g1, hat, List.length_map, List.getElem?_map, Option.map_some]; refine hK _ ?_; clear hK
   refine W_seq fun K hK => ?_
   by_cases h1 : d < 0
   ·have hd : ¬ (0 <= d /\ d < (l.length : Int)) := by omega
    simp only [List.all_cons, hd, decide_false, Bool.false_and, Bool.false_eq_true, if_false] at hQ
    refine W_seq fun K hK => W_reg ?_; simp [rQlX5, h1, List.length_map]; refine hK _ ?_; clear hK
    refine W_condT (by simp [ev, Am.get]) ?_
    refine W_seq fun K hK => W_reg ?_; simp [rQlX6]; refine hK _ ?_; clear hK
    refine W_ret ?_
    simpa [Ex.thn, Ex.blk] using hQ H
   ·by_cases h2 : (l.length : Int) <= d
    ·have hd : ¬ (0 <= d /\ d < (l.length : Int)) := by omega
     simp only [List.all_cons, hd, decide_false, Bool.false_and, Bool.false_eq_true, if_false] at hQ
     refine W_seq fun K hK => W_reg ?_; simp [rQlX5, h1, h2, List.length_map]; refine hK _ ?_; clear hK
     refine W_condT (by simp [ev, Am.get]) ?_
     refine W_seq fun K hK => W_reg ?_; simp [rQlX6]; refine hK _ ?_; clear hK
     refine W_ret ?_
     simpa [Ex.thn, Ex.blk] using hQ H
    ·have hd : 0 <= d /\ d < (l.length : Int) := by omega
     simp only [List.all_cons, hd, and_self, decide_true, Bool.true_and] at hQ
     refine W_seq fun K hK => W_reg ?_; simp [rQlX5, h1, h2, List.length_map]; refine hK _ ?_; clear hK
     refine W_condF (by simp [ev, Am.get]) ?_
     refine W_skip ?_
     refine hK _ ?_; clear hK
     have fin : ∀ (x' : AV) (H' : Heap), Ot H' x' (needs (P ++ [d])) -> W cfgR (.loop lQlX0) ⟨[(0, ints l), (4, x'), (10, ints l), (11, .int .i64 l.length), (12, .int .i64 ((P.length : Int) + 1))], H'⟩ Q := by
      intro x' H' h'
      have ih := need_loop l hl Q R (P ++ [d]) x' H' (by rw [hP]; simp) h' hQ
      rw [show (((P ++ [d]).length : Nat) : Int) = (P.length : Int) + 1 by simp] at ih
      exact ih
     have hlast : blk (H ++ [some [AV.int .i64 (P.length : Int), AV.int .i64 d]]) H.length = some [AV.int .i64 (P.length : Int), AV.int .i64 d] := blk_last []
     rcases hx with ⟨e, rfl⟩ | ⟨bo, rfl, hbo, hbol⟩
     ·refine W_reg ?_; simp [rQlX7, hlast, LIM, -blk]
      refine hK _ ?_; clear hK
      refine W_reg ?_; simp [rQlX8, wi]
      refine fin _ _ (.inr ⟨H.length + 1, ?_, ?_, by simp⟩)
      ·rw [needs_snoc, e]; rfl
      ·rw [needs_snoc, e]; unfold blk; simp [fl]
     ·have hbo2 := blk_ap hbo [some [AV.int .i64 (P.length : Int), AV.int .i64 d]]
      have hlim : (needs P).length + 1 <= 4294967296 := by rw [needs_len]; omega
      have ht : List.take ((needs P).length * 2) (fl (needs P)) = fl (needs P) := List.take_of_length_le (by rw [fl_len]; omega)
      refine W_reg ?_; simp [rQlX7, hlast, hbo2, fl_len, hlim, ht, LIM, -blk]
      refine hK _ ?_; clear hK
      refine W_reg ?_; simp [rQlX8, wi]
      refine fin _ _ (.inr ⟨H.length + 1, ?_, ?_, by simp⟩)
      ·rw [needs_snoc]; simp
      ·rw [needs_snoc]; unfold blk; simp [fl, fl_app]
end
theorem r64_needs {l : List Int} (hl : l.length <= 64) (h : l.all (fun d => decide (0 <= d /\ d < (l.length : Int))) = true) : R64 (needs l) := by
 intro x hx
 unfold needs at hx
 obtain ⟨⟨d, i⟩, hy, rfl⟩ := List.mem_map.1 hx
 obtain ⟨_, h2, e⟩ := List.mem_zipIdx hy
 have hm : d ∈ l := by rw [e]; exact List.getElem_mem _
 have hd := of_decide_eq_true (List.all_eq_true.1 h _ hm)
 simp at hd h2 ⊢
 omega
section
attribute [local simp] ints WO_nil_iff WO_grd flatCells_ints allLeaf_ints WO_mv WO_pick WO_new WO_box WO_build WO_bslice WO_ld WO_st WO_bin WO_slc WO_fad WO_ixa WO_len WO_app aOp ev evs Am.get Am.put putd keepIn mem binA arith lenA idx bnd bndO rdc AV.cells AV.leaf allLeaf ovw blk sliceCells flatCells rep fillA okDraw Fp.ok List.getD Ex.thn Ex.blk
theorem realise_cl (l : List Int) (hl : l.length <= 64) : ∃ H' o, Cl cfgR nQl [ints l] [] (.tup [o, .bool (rz l).isSome]) H' /\ Ot H' o ((rz l).getD []) := by
 have key : W cfgR cQl ⟨mkEnv 0 [ints l], []⟩ (fun e s => e = .ret /\ ∃ o, s.env = [(2, o), (3, .bool (rz l).isSome)] /\ Ot s.H o ((rz l).getD [])) := by
  simp only [cQl, mkEnv]
  have hll : lenA (ints l) = some l.length := by simp [ints, lenA]
  refine W_seq fun K hK => W_reg ?_; simp [rQlX0, -ints]; refine hK _ ?_; clear hK
  refine W_seq fun K hK => W_reg ?_; simp [rQlX1, -ints]; refine hK _ ?_; clear hK
  refine W_seq fun K hK => ?_
  refine W_seq fun K hK => W_reg ?_; simp [rQlX2, hll, -ints, -lenA]; refine hK _ ?_; clear hK
  refine W_blk ?_
  refine need_loop l hl _ l [] .nils [] rfl (.inl ⟨rfl, rfl⟩) ?_
  by_cases ha : l.all (fun d => decide (0 <= d /\ d < (l.length : Int))) = true
  ·rw [if_pos ha]
   have hrz : rz l = otr l.length (needs l) [] := by unfold rz; rw [if_pos ha]
   intro H' x' hx'
   simp only [Ex.thn, Ex.blk, if_true]
   refine hK _ ?_; clear hK
   refine W_seq fun K hK => W_reg ?_; simp [rQlX9, -ints]; refine hK _ ?_; clear hK
   refine W_seq fun K hK => ?_
   refine W_blk ?_
   have hlf : Lf H' x' .nils (needs l) := by
    rcases hx' with ⟨e, rfl⟩ | ⟨b, rfl, hb, _⟩
    ·exact .inl ⟨e, rfl⟩
    ·exact .inr ⟨b, 0, _, rfl, hb, Cel.whole _, fun c n e => by cases e⟩
   refine otr_loop _ l.length (needs l) [] x' .nils H' [] (.inl rfl) (needs_len l) hl (by simp; omega) (r64_needs hl ha) hlf (.inl ⟨rfl, rfl⟩) ?_
   rw [<- hrz]
   cases hr : rz l with
   | none =>
     intro H2
     simp only [Ex.thn, Ex.blk]
     exact ⟨trivial, .nils, rfl, .inl ⟨rfl, rfl⟩⟩
   | some out =>
     intro H2 x2 o2 ho2
     simp only [Ex.thn, Ex.blk, if_true]
     refine hK _ ?_; clear hK
     refine W_seq fun K hK => W_reg ?_; simp [rQlX24]; refine hK _ ?_; clear hK
     refine W_ret ?_
     exact ⟨rfl, o2, by rw [hr]; rfl, by rw [hr]; exact ho2⟩
  ·rw [if_neg ha]
   have hrz : rz l = none := by unfold rz; rw [if_neg ha]
   rw [hrz]
   intro H'
   simp only [Ex.thn, Ex.blk]
   exact ⟨trivial, .nils, rfl, .inl ⟨rfl, rfl⟩⟩
 obtain ⟨n, e, s, h1, rfl, o, h2, h3⟩ := key
 refine ⟨s.H, o, ⟨n, fun m hm => ?_⟩, h3⟩
 unfold aCall callW
 have g1 : cfgR.orc nQl = none := rfl
 have g2 : cfgR.fn nQl = some (.P, qQl) := rfl
 have g3 : [ints l].length <= qQl.n := by simp [qQl]
 have g4 : qQl.body = cQl := rfl
 have g5 : qQl.res = [.t 2, .t 3] := rfl
 simp only [g1, g2, g3, if_true, g4, h1 m hm, g5, resL, resA, h2, tupOf]
 rfl
end
end Go.AmP
