/- What slices.Equal, cliques.Next return. -/
import Derived.Test.YtiohfglnoneanaaDoorW18
set_option linter.unusedSimpArgs false
set_option linter.unusedVariables false
set_option maxRecDepth 100000
set_option maxHeartbeats 4000000
namespace Go.BmP
open Go.Am Go.Bm
section
attribute [local simp] codeL_seq codeL_reg codeL_blk codeL_skip codeL_ret codeL_exit codeL_cnd condL_b thenL_n thenL_e thenL_r blkL_n blkL_e blkL_r regL_s opsB stepB opB opP opnd opnds lend lendC get_nil' get_cons' put_nil' put_cons' mem_nil' mem_cons' putdB putB slowP hasOwn hasOwnL finO relab anyB anyE anyH anyR borOf borL inSlot HAND endR hasOwnE endK keepIn trim noPtr noPtrL noPtrE noPtrH binA arith unA eqB isNilB eqc lenB bndB bnd rdN rdc AV.cells fillB peek ldOK AV.leaf allLeaf fz pl plL drawB allCW cwF okDrawB okPair Fq.ok dstOff wrOff notSlot noneIn apartR oldBoxes O.reads Kd.reads E.slot slots slotO slotsP List.getD pairIn nilL okRes clean cleanL resV resVs tupOf mkEnv partsBor doCallB inpB getArgs doCallO frzA frzV frzL minA minF cont ownAt at_ setAt rel dropS relC dropAll frzP frzAll firstBor borIn borC borS borE borH handTo mapSt mapE mapH mapB mapBL sw rt fb mvB mvRt seesP inRt isRoot rootOf boxOf seesB rootsL Am.rep ovw flatCells_ints allLeaf_ints flatCells el grp updE isNilB inpV inpL stB okL unA orcA bndB plL_ints fzL stBox inCells wrap0 wrap1 wrapm1 take_snoc BIGB marks
theorem eql_loop (a b : List Int) (hl : a.length = b.length) (ha : a.length < 4294967295) : ∀ (k i : Nat), i + k = a.length → codeL cfgS 0 (.loop lSlicesEqualIntIntX0) ⟨[(0, .list 1 (ints a)), (1, .list 1 (ints b)), (12, .int .i64 a.length), (13, .int .i64 i)], []⟩ =
    if a.drop i = b.drop i then some (.exit 0, ⟨[(0, .list 1 (ints a)), (1, .list 1 (ints b)), (12, .int .i64 a.length), (13, .int .i64 a.length), (14, .bool false)], []⟩) else some (.ret, ⟨[(4, .bool false)], []⟩)
  | 0, i, hi => by
    obtain rfl : i = a.length := by omega
    rw [List.drop_length, hl, List.drop_length, if_pos rfl]
    exact loop_exit (by unfold lSlicesEqualIntIntX0; simp [rSlicesEqualIntIntX0, rSlicesEqualIntIntX1, rSlicesEqualIntIntX2, rSlicesEqualIntIntX3, rSlicesEqualIntIntX4, rSlicesEqualIntIntX5, rSlicesEqualIntIntX6, rSlicesEqualIntIntX7, rSlicesEqualIntIntX8, rSlicesEqualIntIntX9, blk, eds_length, eds_get, edsAt, edAV, allLeaf_eds, cleanL_eds, cleanL_ints, ints_length, ints_get, intsAt, endL, finB])
  | k + 1, i, hi => by
    have hlt : i < a.length := by omega
    have hltb : i < b.length := by omega
    have h1 : (i : Int) < a.length := by omega
    have h1b : (i : Int) < b.length := by omega
    have hw := wrapS (i := i) (by omega)
    have ih := eql_loop a b hl ha k (i + 1) (by omega)
    have i1 := idx_lt (k := .i64) (i := (i : Int)) (n := a.length) (by omega) h1
    have i2 := idx_lt (k := .i64) (i := (i : Int)) (n := b.length) (by omega) h1b
    rw [List.drop_eq_getElem_cons hlt, List.drop_eq_getElem_cons hltb]
    simp only [List.cons.injEq]
    by_cases e : a[i] = b[i]
    · have : (a[i] = b[i] ∧ a.drop (i + 1) = b.drop (i + 1)) = (a.drop (i + 1) = b.drop (i + 1)) := by simp [e]
      simp only [this]
      rw [← ih]
      exact loop_next (by unfold lSlicesEqualIntIntX0; simp [rSlicesEqualIntIntX0, rSlicesEqualIntIntX1, rSlicesEqualIntIntX2, rSlicesEqualIntIntX3, rSlicesEqualIntIntX4, rSlicesEqualIntIntX5, rSlicesEqualIntIntX6, rSlicesEqualIntIntX7, rSlicesEqualIntIntX8, rSlicesEqualIntIntX9, h1, h1b, hlt, hltb, hw, i1, i2, e, blk, eds_length, eds_get, edsAt, edAV, allLeaf_eds, cleanL_eds, cleanL_ints, ints_length, ints_get, intsAt, endL, finB])
    · rw [if_neg (fun k => e k.1)]
      exact loop_ret (by unfold lSlicesEqualIntIntX0; simp [rSlicesEqualIntIntX0, rSlicesEqualIntIntX1, rSlicesEqualIntIntX2, rSlicesEqualIntIntX3, rSlicesEqualIntIntX4, rSlicesEqualIntIntX5, rSlicesEqualIntIntX6, rSlicesEqualIntIntX7, rSlicesEqualIntIntX8, rSlicesEqualIntIntX9, h1, h1b, hlt, hltb, hw, i1, i2, e, blk, eds_length, eds_get, edsAt, edAV, allLeaf_eds, cleanL_eds, cleanL_ints, ints_length, ints_get, intsAt, endL, finB])
theorem eql_run (a b : List Int) (ha : a.length < 4294967295) : callL cfgS nSlicesEqualIntInt [.list 1 (ints a), .list 1 (ints b)] [] = some (.bool (decide (a = b)), []) := by
  rw [callL_end oSlicesEqualIntInt sSlicesEqualIntInt (Nat.le_of_ble_eq_true rfl)]
  unfold qSlicesEqualIntInt cSlicesEqualIntInt
  by_cases hl : a.length = b.length
  · have lp := eql_loop a b hl ha a.length 0 (by omega)
    rw [List.drop_zero, List.drop_zero, nat0] at lp
    have hl' : (a.length : Int) = b.length := by omega
    by_cases e : a = b
    · rw [if_pos e] at lp
      subst e
      simp [rSlicesEqualIntIntX0, rSlicesEqualIntIntX1, rSlicesEqualIntIntX2, rSlicesEqualIntIntX3, rSlicesEqualIntIntX4, rSlicesEqualIntIntX5, rSlicesEqualIntIntX6, rSlicesEqualIntIntX7, rSlicesEqualIntIntX8, rSlicesEqualIntIntX9, lp, blk, eds_length, eds_get, edsAt, edAV, allLeaf_eds, cleanL_eds, cleanL_ints, ints_length, ints_get, intsAt, endL, finB]
    · rw [if_neg e] at lp
      rw [decide_eq_false e]
      rw [hl'] at lp
      simp [rSlicesEqualIntIntX0, rSlicesEqualIntIntX1, rSlicesEqualIntIntX2, rSlicesEqualIntIntX3, rSlicesEqualIntIntX4, rSlicesEqualIntIntX5, rSlicesEqualIntIntX6, rSlicesEqualIntIntX7, rSlicesEqualIntIntX8, rSlicesEqualIntIntX9, lp, hl', blk, eds_length, eds_get, edsAt, edAV, allLeaf_eds, cleanL_eds, cleanL_ints, ints_length, ints_get, intsAt, endL, finB]
  · have hl' : ¬ (a.length : Int) = b.length := by omega
    have e : ¬ a = b := fun k => hl (by rw [k])
    rw [decide_eq_false e]
    simp [rSlicesEqualIntIntX0, rSlicesEqualIntIntX1, rSlicesEqualIntIntX2, rSlicesEqualIntIntX3, rSlicesEqualIntIntX4, rSlicesEqualIntIntX5, rSlicesEqualIntIntX6, rSlicesEqualIntIntX7, rSlicesEqualIntIntX8, rSlicesEqualIntIntX9, hl', blk, eds_length, eds_get, edsAt, edAV, allLeaf_eds, cleanL_eds, cleanL_ints, ints_length, ints_get, intsAt, endL, finB]
end
/-- What Next keeps: nothing, or the first. -/
def nxB : Option (List Int) → AV
  | none => .nils
  | some S => .list 1 (ints S)
def nxH (N : Nat) (Es : List Ed) (o : Option (List Int)) : Heap := [some [.int .i64 N, .list 2 (eds Es)], some [nxB o]]
theorem lead_nx (N : Nat) (Es : List Ed) (o : Option (List Int)) : Lead 2 (nxH N Es o) := by
  have q : Plain [nxB o] := by cases o <;> exact ⟨fun _ => rfl, rfl, fun _ => rfl, fun _ _ _ => rfl⟩
  exact lead_snoc (lead_snoc lead_nil (plain_g N Es)) q
def tkX (_ : Option (List Int)) (S : List Int) : Option (List Int) × Bool := (some S, false)
theorem foldX (l : List (List Int)) : (foldS tkX l none).1 = l.head? := by cases l <;> rfl
section
attribute [local simp] codeL_seq codeL_reg codeL_blk codeL_skip codeL_ret codeL_exit codeL_cnd condL_b thenL_n thenL_e thenL_r blkL_n blkL_e blkL_r regL_s opsB stepB opB opP opnd opnds lend lendC get_nil' get_cons' put_nil' put_cons' mem_nil' mem_cons' putdB putB slowP hasOwn hasOwnL finO relab anyB anyE anyH anyR borOf borL inSlot HAND endR hasOwnE endK keepIn trim noPtr noPtrL noPtrE noPtrH binA arith unA eqB isNilB eqc lenB bndB bnd rdN rdc AV.cells fillB peek ldOK AV.leaf allLeaf fz pl plL drawB allCW cwF okDrawB okPair Fq.ok dstOff wrOff notSlot noneIn apartR oldBoxes O.reads Kd.reads E.slot slots slotO slotsP List.getD pairIn nilL okRes clean cleanL resV resVs tupOf mkEnv partsBor doCallB inpB getArgs doCallO frzA frzV frzL minA minF cont ownAt at_ setAt rel dropS relC dropAll frzP frzAll firstBor borIn borC borS borE borH handTo mapSt mapE mapH mapB mapBL sw rt fb mvB mvRt seesP inRt isRoot rootOf boxOf seesB rootsL Am.rep ovw flatCells_ints allLeaf_ints flatCells el grp updE isNilB inpV inpL stB okL unA orcA bndB plL_ints fzL stBox inCells wrap0 wrap1 wrapm1 take_snoc BIGB marks
theorem takeX_run (N : Nat) (Es : List Ed) (after P S : List Int) : callL cfgS nCliquesNext1 [.list 1 (ints S), .ptr 1 0] (kH 2 (nxH N Es none) N Es nCliquesNext1 [.ptr 1 0] after P) = some (.bool false, kH 2 (nxH N Es (some S)) N Es nCliquesNext1 [.ptr 1 0] after P) := by
  rw [callL_end oCliquesNext1 sCliquesNext1 (Nat.le_of_ble_eq_true rfl)]
  unfold kH nxH nxB
  unfold qCliquesNext1 cCliquesNext1
  simp [rCliquesNext1X0, rCliquesNext1X1, rCliquesNext1X2, finS, plp, plpL, swS, mapH, mapBL, mapB, blk, eds_length, eds_get, edsAt, edAV, allLeaf_eds, cleanL_eds, cleanL_ints, ints_length, ints_get, intsAt, endL, finB]
end
theorem take_nx (N : Nat) (Es : List Ed) (after : List Int) : TakeK N Es after 2 nCliquesNext1 [.ptr 1 0] (nxH N Es) tkX (fun o => o = none) :=
  ⟨⟨_, sCliquesNext1⟩, lead_nx N Es, ⟨fun _ => rfl, rfl, rfl, rfl, rfl, fun b hb => by simp [noPtrL, noPtr]; omega⟩, fun s S P hs _ _ => by subst hs; exact takeX_run N Es after P S, fun s S hs _ _ k => by cases k⟩
/-- What Next returns. -/
def nxtV : List (List Int) → AV
  | [] => .tup [.nils, .bool false, .int .i64 0]
  | S :: _ => .tup [.list 1 (ints S), .bool true, .int .i64 0]
section
attribute [local simp] codeL_seq codeL_reg codeL_blk codeL_skip codeL_ret codeL_exit codeL_cnd condL_b thenL_n thenL_e thenL_r blkL_n blkL_e blkL_r regL_s opsB stepB opB opP opnd opnds lend lendC get_nil' get_cons' put_nil' put_cons' mem_nil' mem_cons' putdB putB slowP hasOwn hasOwnL finO relab anyB anyE anyH anyR borOf borL inSlot HAND endR hasOwnE endK keepIn trim noPtr noPtrL noPtrE noPtrH binA arith unA eqB isNilB eqc lenB bndB bnd rdN rdc AV.cells fillB peek ldOK AV.leaf allLeaf fz pl plL drawB allCW cwF okDrawB okPair Fq.ok dstOff wrOff notSlot noneIn apartR oldBoxes O.reads Kd.reads E.slot slots slotO slotsP List.getD pairIn nilL okRes clean cleanL resV resVs tupOf mkEnv partsBor doCallB inpB getArgs doCallO frzA frzV frzL minA minF cont ownAt at_ setAt rel dropS relC dropAll frzP frzAll firstBor borIn borC borS borE borH handTo mapSt mapE mapH mapB mapBL sw rt fb mvB mvRt seesP inRt isRoot rootOf boxOf seesB rootsL Am.rep ovw flatCells_ints allLeaf_ints flatCells el grp updE isNilB inpV inpL stB okL unA orcA bndB plL_ints fzL stBox inCells wrap0 wrap1 wrapm1 take_snoc BIGB marks
theorem nextK_run {N : Nat} {Es : List Ed} (h : GOK (N : Int) Es) (hE : Es.length < 4294967295) (after : List Int) (ha : after.length < 9223372036854775808) : callL cfgS nCliquesNext [.agg [.int .i64 N, .list 2 (eds Es)], .list 1 (ints after)] [] = some (nxtV (behK N Es after), []) := by
  have c1 := gchk_run (N : Int) Es (by omega)
  rw [chkG_zero.2 h] at c1
  have c3 := each_run h hE ha (take_nx N Es after) none rfl
  rw [foldX] at c3
  have ne : ∀ S ∈ behK N Es after, S ≠ [] := fun S hS => ((mcl_mem h).1 (List.mem_filter.1 hS).1).2.1
  rw [callL_end oCliquesNext sCliquesNext (Nat.le_of_ble_eq_true rfl)]
  unfold nxH at c3
  generalize behK N Es after = l at *
  unfold qCliquesNext cCliquesNext
  cases l with
  | nil =>
    unfold nxtV
    simp only [List.head?_nil, nxB] at c3
    simp [rCliquesNextX0, rCliquesNextX1, rCliquesNextX2, rCliquesNextX3, rCliquesNextX4, rCliquesNextX5, rCliquesNextX6, c1, c3, sGraphCheck, iGraphCheck, sCliquesEach, iCliquesEach, plp, plpL, allB, notBox, swC, seesC, inBox, blk, eds_length, eds_get, edsAt, edAV, allLeaf_eds, cleanL_eds, cleanL_ints, ints_length, ints_get, intsAt, endL, finB]
  | cons S r =>
    unfold nxtV
    simp only [List.head?_cons, nxB] at c3
    cases S with
    | nil => exact absurd rfl (ne [] (by simp))
    | cons x t =>
      simp only [ints_cons] at c3 ⊢
      simp [rCliquesNextX0, rCliquesNextX1, rCliquesNextX2, rCliquesNextX3, rCliquesNextX4, rCliquesNextX5, rCliquesNextX6, c1, c3, sGraphCheck, iGraphCheck, sCliquesEach, iCliquesEach, plp, plpL, allB, notBox, swC, seesC, inBox, blk, eds_length, eds_get, edsAt, edAV, allLeaf_eds, cleanL_eds, cleanL_ints, ints_length, ints_get, intsAt, endL, finB]
end
end Go.BmP
