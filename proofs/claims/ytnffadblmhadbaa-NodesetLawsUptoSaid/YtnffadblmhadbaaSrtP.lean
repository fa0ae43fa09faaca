/- The configuration with the library's sort and clone as oracles. -/
import Derived.Test.YtnffadblmhadbaaLayP
import Derived.Test.YtnffadblmhadbaaAmR
set_option linter.unusedSimpArgs false
set_option maxRecDepth 100000
namespace Go.AmP
open Go.Am
def gClone : List AV → Heap → Option (AV × Heap)
  | [.nils], H => some (.nils, H)
  | [.list 1 []], H => some (.list 1 [], H)
  | [.list 1 (x :: xs)], H => match intsOf (x :: xs) with
    | some zs => if zs.length ≤ LIM then some (.sl 1 (H.length + 1) 0 zs.length, H ++ [none, some (zs.map (AV.int .i64))]) else none
    | none => none
  | _, _ => none
theorem clone_cl (z : Int) (zs : List Int) (hl : zs.length + 1 ≤ LIM) (H : Heap) :
    Cl cfg nSlicesCloneIntInt [.list 1 ((z :: zs).map (AV.int .i64))] H (.sl 1 (H.length + 1) 0 (zs.length + 1)) (H ++ [none, some ((z :: zs).map (AV.int .i64))]) := by
  refine (Cl.of rfl gSlicesCloneIntInt (by simp [qSlicesCloneIntInt]) ?_)
  simp only [qSlicesCloneIntInt, cSlicesCloneIntInt, mkEnv]
  refine W_seq fun K hK => W_reg ?_; simp [rSlicesCloneIntIntX0, ints, WO_nil_iff, WO_grd, flatCells_ints, allLeaf_ints, WO_mv, WO_pick, WO_new, WO_box, WO_build, WO_bslice, WO_ld, WO_st, WO_nilck, WO_bin, WO_eq, WO_un, WO_cvt, WO_mkf, WO_mks, WO_slc, WO_fad, WO_fld, WO_ixa, WO_ixp, WO_ix, WO_ext, WO_ixs, WO_clr, WO_len, WO_app, WO_min, WO_max, aOp, ev, evs, Am.get, Am.put, putd, keepIn, mem, binA, arith, unA, eqA, eqc, isNil, lenA, idx, bnd, bndO, rdc, AV.cells, AV.leaf, allLeaf, ovw, blk, sliceCells, flatCells, rep, fillA, okDraw, Fp.ok, List.getD, minA, minF, Ex.thn, Ex.blk]; refine hK _ ?_; clear hK
  refine W_seq fun K hK => ?_
  refine W_seq fun K hK => W_reg ?_; simp [rSlicesCloneIntIntX1, ints, WO_nil_iff, WO_grd, flatCells_ints, allLeaf_ints, WO_mv, WO_pick, WO_new, WO_box, WO_build, WO_bslice, WO_ld, WO_st, WO_nilck, WO_bin, WO_eq, WO_un, WO_cvt, WO_mkf, WO_mks, WO_slc, WO_fad, WO_fld, WO_ixa, WO_ixp, WO_ix, WO_ext, WO_ixs, WO_clr, WO_len, WO_app, WO_min, WO_max, aOp, ev, evs, Am.get, Am.put, putd, keepIn, mem, binA, arith, unA, eqA, eqc, isNil, lenA, idx, bnd, bndO, rdc, AV.cells, AV.leaf, allLeaf, ovw, blk, sliceCells, flatCells, rep, fillA, okDraw, Fp.ok, List.getD, minA, minF, Ex.thn, Ex.blk]; refine hK _ ?_; clear hK
  refine W_condF (by simp [ev, Am.get]) ?_; refine W_skip ?_; refine hK _ ?_; clear hK
  have hf := flatCells_ints .i64 (z :: zs)
  have ha := allLeaf_ints .i64 (z :: zs)
  simp only [List.map_cons] at hf ha
  refine W_seq fun K hK => W_reg ?_; simp [rSlicesCloneIntIntX3, hf, ha, hl, ints, WO_nil_iff, WO_grd, flatCells_ints, allLeaf_ints, WO_mv, WO_pick, WO_new, WO_box, WO_build, WO_bslice, WO_ld, WO_st, WO_nilck, WO_bin, WO_eq, WO_un, WO_cvt, WO_mkf, WO_mks, WO_slc, WO_fad, WO_fld, WO_ixa, WO_ixp, WO_ix, WO_ext, WO_ixs, WO_clr, WO_len, WO_app, WO_min, WO_max, aOp, ev, evs, Am.get, Am.put, putd, keepIn, mem, binA, arith, unA, eqA, eqc, isNil, lenA, idx, bnd, bndO, rdc, AV.cells, AV.leaf, allLeaf, ovw, blk, sliceCells, flatCells, rep, fillA, okDraw, Fp.ok, List.getD, minA, minF, Ex.thn, Ex.blk]
  refine hK _ ?_; clear hK
  refine W_ret ?_
  simp [Ex.thn, resL, resA, Am.get, tupOf]
/-- A function without arguments that returns true. -/
def gTrue : List AV → Heap → Option (AV × Heap)
  | [], H => some (.bool true, H)
  | _, _ => none
theorem awake0_pu : Pu cfg nLaw02Awake [] (.bool true) := Pu.run (n := 3000) (by kernel_rfl)
theorem awake_ret {args : List AV} {H : Heap} {r : AV} {H' : Heap} (hs : gTrue args H = some (r, H')) {X : Nat → Prop} {φ : Phi} {w : World} {vargs : Array Value} (ha : ARel X φ w args vargs) (hh : HRel X φ w H) :
    Calls Go.Proofs.Try.prog nLaw02Awake vargs w (Ret X φ w r H') := by
  unfold gTrue at hs
  split at hs
  · simp at hs
    obtain ⟨rfl, rfl⟩ := hs
    obtain rfl : vargs = #[] := Array.eq_empty_of_size_eq_zero ha.1.symm
    refine (calls_bool cfgOK orcOK (fun _ => rfl) gLaw02Awake awake0_pu (ARel.nil (w := w))).mono ?_
    rintro e w' ⟨rfl, hb⟩
    have a1 : Adv [] w [] w' := ⟨hb.os, hb.tape, hb.output, hb.size, fun g hg h => ⟨hb.block g hg, h⟩, .refl _⟩
    exact ⟨_, φ, rfl, .bool _ _, hh.of_same a1, Adv.of_same a1⟩
  · cases hs
def orcS (f : Nat) : Option (List AV → Heap → Option (AV × Heap)) := if f = nSlicesSortIntInt then some gSort else if f = nSlicesCloneIntInt then some gClone else if f = nSlicesCompactIntInt then some gCompact else if f = nLaw02Awake then some gTrue else none
def cfgS : Cfg := { cfg with orc := orcS }
theorem cfgSOK : CfgOK Go.Proofs.Try.prog cfgS := ⟨cfgOK.mixed, cfgOK.fn⟩
theorem clone_ret {args : List AV} {H : Heap} {r : AV} {H' : Heap} (hs : gClone args H = some (r, H')) {X : Nat → Prop} {φ : Phi} {w : World} {vargs : Array Value} (ha : ARel X φ w args vargs) (hh : HRel X φ w H) (hg : GlOK cfg X φ w) :
    Calls Go.Proofs.Try.prog nSlicesCloneIntInt vargs w (Ret X φ w r H') := by
  have one : ∀ x, args = [x] → ∃ v, vargs = #[v] ∧ Rep (Rd X φ w) φ x v := by
    intro x hx
    subst hx
    obtain ⟨h1, h2⟩ := ha
    have hsz : vargs.size = 1 := by simpa using h1.symm
    obtain ⟨v, rfl⟩ : ∃ v, vargs = #[v] := ⟨vargs[0], by apply Array.ext <;> simp [hsz]; intro i hi; simp [show i = 0 by omega]⟩
    exact ⟨v, rfl, h2 0 x v rfl rfl⟩
  unfold gClone at hs
  split at hs
  · obtain ⟨v, rfl, hv⟩ := one _ rfl
    cases hv
    simp at hs
    obtain ⟨rfl, rfl⟩ := hs
    refine (Go.Proofs.Any.slices_Clone_int_nil laysClone 0 0 w).mono ?_
    rintro e w' ⟨rfl, rfl⟩
    exact ⟨_, φ, rfl, .nils _, hh, .refl _ _⟩
  · obtain ⟨v, rfl, hv⟩ := one _ rfl
    simp at hs
    obtain ⟨rfl, rfl⟩ := hs
    cases hv with
    | lst _ _ _ a n cap u hn hcap hk hu h =>
      simp at hn
      subst hn
      refine (Go.Proofs.Any.slices_Clone_int_zero laysClone a cap w).mono ?_
      rintro e w' ⟨v', rfl, ⟨_, hv'⟩, hne, hb⟩
      have a1 : Adv [] w [] w' := ⟨hb.os, hb.tape, hb.output, hb.size, fun g hg h => ⟨hb.block g hg, h⟩, .refl _⟩
      rcases hv' with ⟨e1, _⟩ | ⟨g, cap', cur, rfl, _⟩
      · exact absurd e1 hne
      · exact ⟨_, φ, rfl, .lst _ _ _ _ _ _ (fun _ _ => undef) (by simp) (by omega) (fun x hx => by simp at hx) (fun i j x c hx => by simp at hx) (fun i j x c hx => by simp at hx), hh.of_same a1, Adv.of_same a1⟩
    | lst0 =>
      refine (Go.Proofs.Any.slices_Clone_int_nil laysClone 0 0 w).mono ?_
      rintro e w' ⟨rfl, rfl⟩
      exact ⟨_, φ, rfl, .lst0 _ _, hh, .refl _ _⟩
  · split at hs
    · rename_i zs hzs
      split at hs
      · rename_i hlen
        simp at hs
        obtain ⟨rfl, rfl⟩ := hs
        have hz := intsOf_eq hzs
        cases zs with
        | nil => simp at hz
        | cons z zs =>
          rw [hz] at ha
          obtain ⟨n, hn⟩ := clone_cl z zs (by simpa using hlen) H
          exact callW_ok cfgOK orcOK (snd_all cfgOK orcOK n) _ _ _ gSlicesCloneIntInt _ _ _ _ (hn n (Nat.le_refl _)) X φ w vargs ha hh hg
      · cases hs
    · cases hs
  · cases hs
theorem orcSOK : OrcOK Go.Proofs.Try.prog cfgS := by
  intro f g hf args H r H' hs X φ w vargs ha hh hg
  have hf : orcS f = some g := hf
  unfold orcS at hf
  split at hf
  · rename_i h1
    subst h1
    cases hf
    exact sort_ret laysSort hs ha hh
  · split at hf
    · rename_i h1
      subst h1
      cases hf
      exact clone_ret hs ha hh hg
    · split at hf
      · rename_i h1
        subst h1
        cases hf
        exact compact_ret laysCompact hs ha hh
      · split at hf
        · rename_i h1
          subst h1
          cases hf
          exact awake_ret hs ha hh
        · cases hf
theorem Cl.orcl {c : Cfg} {f : Nat} {g : List AV → Heap → Option (AV × Heap)} (ho : c.orc f = some g) {args : List AV} {H : Heap} {r : AV} {H' : Heap} (h : g args H = some (r, H')) : Cl c f args H r H' :=
  ⟨0, fun m _ => by unfold aCall callW; simp only [ho]; exact h⟩
end Go.AmP
