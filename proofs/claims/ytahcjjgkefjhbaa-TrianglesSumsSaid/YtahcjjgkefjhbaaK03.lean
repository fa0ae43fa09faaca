/- What functions of cohesionref03 return: Before, edge, ends, with, Of, Check. -/
import Derived.Test.YtahcjjgkefjhbaaCfS
import Derived.Test.YtahcjjgkefjhbaaGrfP
set_option linter.unusedSimpArgs false
set_option linter.unusedVariables false
set_option maxRecDepth 100000
set_option maxHeartbeats 4000000
namespace Go.BmP
open Go.Am Go.Bm
section
attribute [local simp] codeL_seq codeL_reg codeL_blk codeL_skip codeL_ret codeL_exit codeL_cnd condL_b thenL_n thenL_e thenL_r blkL_n blkL_e blkL_r regL_s opsB stepB opB opP opnd opnds lend lendC get_nil' get_cons' put_nil' put_cons' mem_nil' mem_cons' putdB putB slowP hasOwn hasOwnL finO relab anyB anyE anyH anyR borOf borL inSlot HAND endR hasOwnE endK keepIn trim noPtr noPtrL noPtrE noPtrH binA arith unA eqB isNilB eqc lenB bndB bnd rdN rdc AV.cells fillB peek ldOK AV.leaf allLeaf fz pl plL drawB allCW cwF okDrawB okPair Fq.ok dstOff wrOff notSlot noneIn apartR oldBoxes O.reads Kd.reads E.slot slots slotO slotsP List.getD pairIn nilL okRes clean cleanL resV resVs tupOf mkEnv partsBor doCallB inpB getArgs doCallO frzA frzV frzL minA minF cont ownAt at_ setAt rel dropS relC dropAll frzP frzAll firstBor borIn borC borS borE borH handTo mapSt mapE mapH mapB mapBL sw rt fb mvB mvRt seesP inRt isRoot rootOf boxOf seesB rootsL Am.rep ovw flatCells_ints allLeaf_ints flatCells el grp updE isNilB inpV inpL stB okL unA orcA bndB plL_ints fzL stBox inCells wrap0 wrap1 wrapm1 take_snoc BIGB marks boxZ ldLab cellOf cellN CELLM boxIn isCell apartC frzR frzRL frzS frzC frzCL
theorem before_run (a b : Ed) : callL cfgS nRef03Before [.agg [.int .i64 a.1, .int .i64 a.2], .agg [.int .i64 b.1, .int .i64 b.2]] [] = some (.bool (decide (ltE a b)), []) := by
  rw [callL_end oRef03Before sRef03Before (Nat.le_of_ble_eq_true rfl)]
  unfold qRef03Before cRef03Before ltE
  by_cases h1 : a.1 < b.1
  · simp [rRef03BeforeX0, rRef03BeforeX1, h1, blk, eds_length, eds_get, edsAt, edAV, allLeaf_eds, cleanL_eds, cleanL_ints, ints_length, ints_get, intsAt, endL, finB]
  · by_cases h2 : a.1 = b.1
    · by_cases h3 : a.2 < b.2
      · simp [rRef03BeforeX0, rRef03BeforeX1, h1, h2, h3, blk, eds_length, eds_get, edsAt, edAV, allLeaf_eds, cleanL_eds, cleanL_ints, ints_length, ints_get, intsAt, endL, finB]
      · simp [rRef03BeforeX0, rRef03BeforeX1, h1, h2, h3, blk, eds_length, eds_get, edsAt, edAV, allLeaf_eds, cleanL_eds, cleanL_ints, ints_length, ints_get, intsAt, endL, finB]
    · simp [rRef03BeforeX0, rRef03BeforeX1, h1, h2, blk, eds_length, eds_get, edsAt, edAV, allLeaf_eds, cleanL_eds, cleanL_ints, ints_length, ints_get, intsAt, endL, finB]
theorem edge_run (u v : Int) : callL cfgS nRef03Edge [.int .i64 u, .int .i64 v] [] = some (.agg [.int .i64 (nrmE u v).1, .int .i64 (nrmE u v).2], []) := by
  rw [callL_end oRef03Edge sRef03Edge (Nat.le_of_ble_eq_true rfl)]
  unfold qRef03Edge cRef03Edge nrmE
  simp [rRef03EdgeX0, rRef03EdgeX1, blk, eds_length, eds_get, edsAt, edAV, allLeaf_eds, cleanL_eds, cleanL_ints, ints_length, ints_get, intsAt, endL, finB]
theorem ends_run (n u v : Int) : callL cfgS nRef03Ends [.int .i64 n, .int .i64 u, .int .i64 v] [] = some (.bool (decide (0 ≤ u ∧ 0 ≤ v ∧ u < n ∧ v < n ∧ u ≠ v)), []) := by
  rw [callL_end oRef03Ends sRef03Ends (Nat.le_of_ble_eq_true rfl)]
  unfold qRef03Ends cRef03Ends
  by_cases h1 : 0 ≤ u
  · by_cases h2 : 0 ≤ v
    · by_cases h3 : u < n
      · by_cases h4 : v < n
        · by_cases h5 : u = v
          · subst h5
            simp [rRef03EndsX0, rRef03EndsX1, h1, h3, blk, eds_length, eds_get, edsAt, edAV, allLeaf_eds, cleanL_eds, cleanL_ints, ints_length, ints_get, intsAt, endL, finB]
          · simp [rRef03EndsX0, rRef03EndsX1, h1, h2, h3, h4, h5, blk, eds_length, eds_get, edsAt, edAV, allLeaf_eds, cleanL_eds, cleanL_ints, ints_length, ints_get, intsAt, endL, finB]
        · simp [rRef03EndsX0, rRef03EndsX1, h1, h2, h3, h4, blk, eds_length, eds_get, edsAt, edAV, allLeaf_eds, cleanL_eds, cleanL_ints, ints_length, ints_get, intsAt, endL, finB]
      · simp [rRef03EndsX0, rRef03EndsX1, h1, h2, h3, blk, eds_length, eds_get, edsAt, edAV, allLeaf_eds, cleanL_eds, cleanL_ints, ints_length, ints_get, intsAt, endL, finB]
    · simp [rRef03EndsX0, rRef03EndsX1, h1, h2, blk, eds_length, eds_get, edsAt, edAV, allLeaf_eds, cleanL_eds, cleanL_ints, ints_length, ints_get, intsAt, endL, finB]
  · simp [rRef03EndsX0, rRef03EndsX1, h1, blk, eds_length, eds_get, edsAt, edAV, allLeaf_eds, cleanL_eds, cleanL_ints, ints_length, ints_get, intsAt, endL, finB]
theorem with_loop (x : Ed) (l : List Ed) (hl : l.length < 4294967296) : ∀ n i : Nat, i + n = l.length → codeL cfgS 0 (.loop lRef03WithX0) ⟨[(0, .list 2 (eds l)), (3, .ptr 0 0), (5, .int .i64 i)], [some [.int .i64 x.1, .int .i64 x.2]]⟩ =
    some (.exit 0, ⟨[(0, .list 2 (eds l)), (3, .ptr 0 0), (5, .int .i64 (i + posE x (l.drop i) : Nat)), (18, .bool false)], [some [.int .i64 x.1, .int .i64 x.2]]⟩)
  | 0, i, hi => by
    have e : i = l.length := by omega
    subst e
    rw [List.drop_length]
    exact loop_exit (by unfold lRef03WithX0; simp [rRef03WithX0, rRef03WithX1, rRef03WithX2, rRef03WithX3, rRef03WithX4, rRef03WithX5, rRef03WithX6, rRef03WithX7, posE, idx, blk, eds_length, eds_get, edsAt, edAV, allLeaf_eds, cleanL_eds, cleanL_ints, ints_length, ints_get, intsAt, endL, finB])
  | n + 1, i, hi => by
    have hlt : i < l.length := by omega
    have h1 : (i : Int) < l.length := by omega
    have ih := with_loop x l hl n (i + 1) (by omega)
    have hw := wrapS (i := i) (by omega)
    have hb := before_run l[i] x
    rw [List.drop_eq_getElem_cons hlt]
    unfold posE
    by_cases hx : ltE l[i] x
    · have e : i + (posE x (l.drop (i + 1)) + 1) = i + 1 + posE x (l.drop (i + 1)) := by omega
      rw [if_pos hx, e]
      exact (loop_next (by unfold lRef03WithX0; simp [rRef03WithX0, rRef03WithX1, rRef03WithX2, rRef03WithX3, rRef03WithX4, rRef03WithX5, rRef03WithX6, rRef03WithX7, h1, hlt, hb, hx, hw, idx, sRef03Before, iRef03Before, blk, eds_length, eds_get, edsAt, edAV, allLeaf_eds, cleanL_eds, cleanL_ints, ints_length, ints_get, intsAt, endL, finB])).trans ih
    · rw [if_neg hx]
      exact loop_exit (by unfold lRef03WithX0; simp [rRef03WithX0, rRef03WithX1, rRef03WithX2, rRef03WithX3, rRef03WithX4, rRef03WithX5, rRef03WithX6, rRef03WithX7, h1, hlt, hb, hx, idx, sRef03Before, iRef03Before, blk, eds_length, eds_get, edsAt, edAV, allLeaf_eds, cleanL_eds, cleanL_ints, ints_length, ints_get, intsAt, endL, finB])
theorem with_run (x : Ed) (l : List Ed) (hl : l.length < 4294967295) : callL cfgS nRef03With [.list 2 (eds l), .agg [.int .i64 x.1, .int .i64 x.2]] [] = some (.list 2 (eds (putE x l)), []) := by
  rw [callL_end oRef03With sRef03With (Nat.le_of_ble_eq_true rfl), putE_pos]
  have h := with_loop x l (by omega) l.length 0 (by omega)
  rw [nat0, List.drop_zero, Nat.zero_add] at h
  have hp := posE_le x l
  generalize posE x l = p at h hp ⊢
  have hq : (p : Int) ≤ l.length := by omega
  have hm : min p l.length = p := by omega
  have hL1 : p ≤ 4294967296 := by omega
  have hL2 : p + 1 ≤ 4294967296 := by omega
  have hL3 : p + 1 + (l.length - p) ≤ 4294967296 := by omega
  unfold qRef03With cRef03With
  by_cases hlt : p < l.length
  · have h1 : (p : Int) < l.length := by omega
    by_cases hx : l[p] = x
    · have hx1 : l[p].1 = x.1 := by rw [hx]
      have hx2 : l[p].2 = x.2 := by rw [hx]
      rw [if_pos (by rw [List.getElem?_eq_getElem hlt, hx])]
      simp [rRef03WithX0, rRef03WithX1, rRef03WithX2, rRef03WithX3, rRef03WithX4, rRef03WithX5, rRef03WithX6, rRef03WithX7, h, h1, hlt, hx1, hx2, idx, blk, eds_length, eds_get, edsAt, edAV, allLeaf_eds, cleanL_eds, cleanL_ints, ints_length, ints_get, intsAt, endL, finB]
    · rw [if_neg (by rw [List.getElem?_eq_getElem hlt]; simpa using hx)]
      by_cases hx1 : l[p].1 = x.1
      · have hx2 : ¬ l[p].2 = x.2 := fun e => hx (Prod.ext hx1 e)
        simp [rRef03WithX0, rRef03WithX1, rRef03WithX2, rRef03WithX3, rRef03WithX4, rRef03WithX5, rRef03WithX6, rRef03WithX7, h, h1, hlt, hx1, hx2, hp, hq, hm, hL1, hL2, hL3, idx, eds_take, eds_drop, eds_snoc, eds_app, LIM, List.length_take, List.length_drop, blk, eds_length, eds_get, edsAt, edAV, allLeaf_eds, cleanL_eds, cleanL_ints, ints_length, ints_get, intsAt, endL, finB]
        simp (disch := (simp only [List.length_take, List.length_append, List.length_drop, List.length_singleton, List.length_cons, List.length_nil] <;> omega)) only [List.take_of_length_le, List.take_take, Nat.min_self, List.append_assoc, List.singleton_append]
      · simp [rRef03WithX0, rRef03WithX1, rRef03WithX2, rRef03WithX3, rRef03WithX4, rRef03WithX5, rRef03WithX6, rRef03WithX7, h, h1, hlt, hx1, hp, hq, hm, hL1, hL2, hL3, idx, eds_take, eds_drop, eds_snoc, eds_app, LIM, List.length_take, List.length_drop, blk, eds_length, eds_get, edsAt, edAV, allLeaf_eds, cleanL_eds, cleanL_ints, ints_length, ints_get, intsAt, endL, finB]
        simp (disch := (simp only [List.length_take, List.length_append, List.length_drop, List.length_singleton, List.length_cons, List.length_nil] <;> omega)) only [List.take_of_length_le, List.take_take, Nat.min_self, List.append_assoc, List.singleton_append]
  · have h1 : ¬ (p : Int) < l.length := by omega
    rw [if_neg (by rw [List.getElem?_eq_none (by omega)]; simp)]
    simp [rRef03WithX0, rRef03WithX1, rRef03WithX2, rRef03WithX3, rRef03WithX4, rRef03WithX5, rRef03WithX6, rRef03WithX7, h, h1, hlt, hp, hq, hm, hL1, hL2, hL3, idx, eds_take, eds_drop, eds_snoc, eds_app, LIM, List.length_take, List.length_drop, blk, eds_length, eds_get, edsAt, edAV, allLeaf_eds, cleanL_eds, cleanL_ints, ints_length, ints_get, intsAt, endL, finB]
    simp (disch := (simp only [List.length_take, List.length_append, List.length_drop, List.length_singleton, List.length_cons, List.length_nil] <;> omega)) only [List.take_of_length_le, List.take_take, Nat.min_self, List.append_assoc, List.singleton_append]
end
end Go.BmP
