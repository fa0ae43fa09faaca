/- What cliques.Check returns. -/
import Derived.Test.YtiohfglnoneanaaDoorE01
set_option linter.unusedSimpArgs false
set_option linter.unusedVariables false
set_option maxRecDepth 100000
set_option maxHeartbeats 4000000
namespace Go.BmP
open Go.Am Go.Bm
def tkC (o : List (List Int)) (s : Nat × Bool) (S : List Int) : (Nat × Bool) × Bool := ((s.1 + 1, decide (o[s.1]? = some S)), decide (o[s.1]? = some S))
theorem foldC (o : List (List Int)) : ∀ (l : List (List Int)) (i : Nat), i ≤ o.length → (((foldS (tkC o) l (i, true)).1.2 = true ∧ (foldS (tkC o) l (i, true)).1.1 = o.length) ↔ l = o.drop i)
  | [], i, h => by
    simp only [foldS, true_and]
    constructor
    · intro e; rw [e, List.drop_length]
    · intro e
      have := congrArg List.length e
      simp at this
      omega
  | S :: r, i, h => by
    by_cases k : o[i]? = some S
    · obtain ⟨hi, e⟩ := List.getElem?_eq_some_iff.1 k
      have ih := foldC o r (i + 1) (by omega)
      have e1 : foldS (tkC o) (S :: r) (i, true) = foldS (tkC o) r (i + 1, true) := by
        rw [foldS]; simp only [tkC, k, decide_true, if_pos]
      rw [e1, ih, List.drop_eq_getElem_cons hi, e]
      simp
    · have e1 : foldS (tkC o) (S :: r) (i, true) = ((i + 1, false), false) := by
        rw [foldS]; simp only [tkC, k, decide_false]; rfl
      rw [e1]
      constructor
      · rintro ⟨k, _⟩; cases k
      · intro e
        exfalso
        apply k
        have hi : i < o.length := by
          have := congrArg List.length e
          simp at this
          omega
        rw [List.drop_eq_getElem_cons hi] at e
        rw [List.getElem?_eq_getElem hi, (List.cons.inj e).1]
def ckH (N : Nat) (Es : List Ed) (o : List (List Int)) (s : Nat × Bool) : Heap := [some [.int .i64 N, .list 2 (eds Es)], some [.list 1 (lls o)], some [.int .i64 s.1], some [.bool s.2]]
theorem lead_ck (N : Nat) (Es : List Ed) (o : List (List Int)) (s : Nat × Bool) : Lead 4 (ckH N Es o s) :=
  lead_snoc (lead_snoc (lead_snoc (lead_snoc lead_nil (plain_g N Es)) ⟨fun _ => rfl, rfl, fun _ => rfl, fun _ _ _ => rfl⟩) ⟨fun _ => rfl, rfl, fun _ => rfl, fun _ _ _ => rfl⟩) ⟨fun _ => rfl, rfl, fun _ => rfl, fun _ _ _ => rfl⟩
section
attribute [local simp] codeL_seq codeL_reg codeL_blk codeL_skip codeL_ret codeL_exit codeL_cnd condL_b thenL_n thenL_e thenL_r blkL_n blkL_e blkL_r regL_s opsB stepB opB opP opnd opnds lend lendC get_nil' get_cons' put_nil' put_cons' mem_nil' mem_cons' putdB putB slowP hasOwn hasOwnL finO relab anyB anyE anyH anyR borOf borL inSlot HAND endR hasOwnE endK keepIn trim noPtr noPtrL noPtrE noPtrH binA arith unA eqB isNilB eqc lenB bndB bnd rdN rdc AV.cells fillB peek ldOK AV.leaf allLeaf fz pl plL drawB allCW cwF okDrawB okPair Fq.ok dstOff wrOff notSlot noneIn apartR oldBoxes O.reads Kd.reads E.slot slots slotO slotsP List.getD pairIn nilL okRes clean cleanL resV resVs tupOf mkEnv partsBor doCallB inpB getArgs doCallO frzA frzV frzL minA minF cont ownAt at_ setAt rel dropS relC dropAll frzP frzAll firstBor borIn borC borS borE borH handTo mapSt mapE mapH mapB mapBL sw rt fb mvB mvRt seesP inRt isRoot rootOf boxOf seesB rootsL Am.rep ovw flatCells_ints allLeaf_ints flatCells el grp updE isNilB inpV inpL stB okL unA orcA bndB plL_ints fzL stBox inCells wrap0 wrap1 wrapm1 take_snoc BIGB marks
theorem takeC_run (N : Nat) (Es : List Ed) (o : List (List Int)) (ho : o.length < 4294967295) (after P S : List Int) (hS : S.length ≤ 64) (i : Nat) (hi : i ≤ o.length) (g : Bool) : callL cfgS nCliquesCheck1 [.list 1 (ints S), .ptr 2 0, .ptr 1 0, .ptr 3 0] (kH 4 (ckH N Es o (i, g)) N Es nCliquesCheck1 [.ptr 2 0, .ptr 1 0, .ptr 3 0] after P) = some (.bool (decide (o[i]? = some S)), kH 4 (ckH N Es o (i + 1, decide (o[i]? = some S))) N Es nCliquesCheck1 [.ptr 2 0, .ptr 1 0, .ptr 3 0] after P) := by
  rw [callL_end oCliquesCheck1 sCliquesCheck1 (Nat.le_of_ble_eq_true rfl)]
  have hw := wrapS (i := i) (by omega)
  have g2 := lls_length o
  by_cases hlt : i < o.length
  · have h1 : (i : Int) < o.length := by omega
    have i1 := idx_lt (k := .i64) (i := (i : Int)) (n := o.length) (by omega) h1
    have g1 : ∀ h, (lls o)[i]'h = AV.list 1 (ints o[i]) := fun h => llsAt ..
    have g3 : (lls o)[i]? = some (.list 1 (ints o[i])) := by rw [lls_get, List.getElem?_eq_getElem hlt]; rfl
    have er := eql_run S o[i] (by omega)
    have ed : (o[i]? = some S) = (S = o[i]) := by rw [List.getElem?_eq_getElem hlt]; exact propext ⟨fun k => (Option.some.inj k).symm, fun k => by rw [k]⟩
    simp only [ed]
    generalize decide (S = o[i]) = d at *
    unfold kH ckH
    generalize lls o = X at *
    generalize o[i] = T at *
    unfold qCliquesCheck1 cCliquesCheck1
    cases d <;> simp [rCliquesCheck1X0, rCliquesCheck1X1, rCliquesCheck1X2, rCliquesCheck1X3, h1, hlt, hw, i1, g1, g2, g3, er, sSlicesEqualIntInt, iSlicesEqualIntInt, finS, plp, plpL, swS, mapH, mapBL, mapB, blk, eds_length, eds_get, edsAt, edAV, allLeaf_eds, cleanL_eds, cleanL_ints, ints_length, ints_get, intsAt, endL, finB]
  · have h1 : ¬ (i : Int) < o.length := by omega
    have ed : (o[i]? = some S) = False := by rw [List.getElem?_eq_none (by omega)]; simp
    simp only [ed, decide_false]
    unfold kH ckH
    generalize lls o = X at *
    unfold qCliquesCheck1 cCliquesCheck1
    simp [rCliquesCheck1X0, rCliquesCheck1X1, rCliquesCheck1X2, rCliquesCheck1X3, h1, hlt, hw, g2, finS, plp, plpL, swS, mapH, mapBL, mapB, blk, eds_length, eds_get, edsAt, edAV, allLeaf_eds, cleanL_eds, cleanL_ints, ints_length, ints_get, intsAt, endL, finB]
end
theorem take_ck (N : Nat) (Es : List Ed) (o : List (List Int)) (ho : o.length < 4294967295) (after : List Int) : TakeK N Es after 4 nCliquesCheck1 [.ptr 2 0, .ptr 1 0, .ptr 3 0] (ckH N Es o) (tkC o) (fun s => s.1 ≤ o.length) :=
  ⟨⟨_, sCliquesCheck1⟩, lead_ck N Es o, ⟨fun _ => rfl, rfl, rfl, rfl, rfl, fun b hb => by simp [noPtrL, noPtr]; omega⟩, fun s S P hs _ l => takeC_run N Es o ho after P S l s.1 hs s.2, fun s S hs _ _ k => by
    have k : o[s.1]? = some S := of_decide_eq_true k
    obtain ⟨hi, _⟩ := List.getElem?_eq_some_iff.1 k
    exact hi⟩
section
attribute [local simp] codeL_seq codeL_reg codeL_blk codeL_skip codeL_ret codeL_exit codeL_cnd condL_b thenL_n thenL_e thenL_r blkL_n blkL_e blkL_r regL_s opsB stepB opB opP opnd opnds lend lendC get_nil' get_cons' put_nil' put_cons' mem_nil' mem_cons' putdB putB slowP hasOwn hasOwnL finO relab anyB anyE anyH anyR borOf borL inSlot HAND endR hasOwnE endK keepIn trim noPtr noPtrL noPtrE noPtrH binA arith unA eqB isNilB eqc lenB bndB bnd rdN rdc AV.cells fillB peek ldOK AV.leaf allLeaf fz pl plL drawB allCW cwF okDrawB okPair Fq.ok dstOff wrOff notSlot noneIn apartR oldBoxes O.reads Kd.reads E.slot slots slotO slotsP List.getD pairIn nilL okRes clean cleanL resV resVs tupOf mkEnv partsBor doCallB inpB getArgs doCallO frzA frzV frzL minA minF cont ownAt at_ setAt rel dropS relC dropAll frzP frzAll firstBor borIn borC borS borE borH handTo mapSt mapE mapH mapB mapBL sw rt fb mvB mvRt seesP inRt isRoot rootOf boxOf seesB rootsL Am.rep ovw flatCells_ints allLeaf_ints flatCells el grp updE isNilB inpV inpL stB okL unA orcA bndB plL_ints fzL stBox inCells wrap0 wrap1 wrapm1 take_snoc BIGB marks
theorem checkK_run {N : Nat} {Es : List Ed} (h : GOK (N : Int) Es) (hE : Es.length < 4294967295) (o : List (List Int)) (ho : o.length < 4294967295) : callL cfgS nCliquesCheck [.agg [.int .i64 N, .list 2 (eds Es)], .list 1 (lls o)] [] = some (.bool (decide (mcl N Es = o)), []) := by
  have c1 := gchk_run (N : Int) Es (by omega)
  rw [chkG_zero.2 h] at c1
  have c3 := each_run h hE (after := []) (by decide) (take_ck N Es o ho []) (0, true) (Nat.zero_le _)
  rw [behK_nil h] at c3
  have fc := foldC o (mcl N Es) 0 (Nat.zero_le _)
  rw [List.drop_zero] at fc
  generalize (foldS (tkC o) (mcl N Es) (0, true)).1 = R at *
  obtain ⟨j, g⟩ := R
  have g2 := lls_length o
  have ed : (mcl N Es = o) = (g = true ∧ j = o.length) := propext fc.symm
  simp only [ed]
  rw [callL_end oCliquesCheck sCliquesCheck (Nat.le_of_ble_eq_true rfl)]
  unfold ckH at c3
  simp only [nat0, ints_nil] at c3
  have ej : ((j : Int) = o.length) = (j = o.length) := propext ⟨fun k => by omega, fun k => by omega⟩
  generalize lls o = X at *
  unfold qCliquesCheck cCliquesCheck
  cases g <;> simp [rCliquesCheckX0, rCliquesCheckX1, rCliquesCheckX2, rCliquesCheckX3, rCliquesCheckX4, rCliquesCheckX5, c1, c3, g2, ej, beqI, sGraphCheck, iGraphCheck, sCliquesEach, iCliquesEach, plp, plpL, allB, notBox, swC, seesC, inBox, blk, eds_length, eds_get, edsAt, edAV, allLeaf_eds, cleanL_eds, cleanL_ints, ints_length, ints_get, intsAt, endL, finB]
end
end Go.BmP
