/- What functions of cohesionref02 return: Has, Valid, put, Of. -/
import Derived.Test.YtkhnplbbngkjkaaCfS
import Derived.Test.YtkhnplbbngkjkaaRunX
import Derived.Test.YtkhnplbbngkjkaaSpc
set_option linter.unusedSimpArgs false
set_option linter.unusedVariables false
set_option maxRecDepth 100000
namespace Go.BmP
open Go.Am Go.Bm
section
attribute [local simp] codeL_seq codeL_reg codeL_blk codeL_skip codeL_ret codeL_exit codeL_cnd condL_b thenL_n thenL_e thenL_r blkL_n blkL_e blkL_r regL_s opsB stepB opB opP opnd opnds lend lendC get_nil' get_cons' put_nil' put_cons' mem_nil' mem_cons' putdB putB slowP hasOwn hasOwnL finO relab anyB anyE anyH anyR borOf borL inSlot HAND endR hasOwnE endK keepIn trim noPtr noPtrL noPtrE noPtrH binA arith unA eqB isNilB eqc lenB bndB bnd rdN rdc AV.cells fillB peek ldOK AV.leaf allLeaf fz pl plL drawB allCW cwF okDrawB okPair Fq.ok dstOff wrOff notSlot noneIn apartR oldBoxes O.reads Kd.reads E.slot slots slotO slotsP List.getD pairIn nilL okRes clean cleanL resV resVs tupOf mkEnv partsBor doCallB inpB getArgs doCallO frzA frzV frzL minA minF cont ownAt at_ setAt rel dropS relC dropAll frzP frzAll firstBor borIn borC borS borE borH handTo mapSt mapE mapH mapB mapBL sw rt fb mvB mvRt seesP inRt isRoot rootOf boxOf seesB rootsL Am.rep ovw flatCells_ints allLeaf_ints flatCells el grp updE isNilB inpV inpL stB okL unA orcA bndB plL_ints fzL stBox inCells wrap0 wrap1 wrapm1 take_snoc BIGB marks boxZ ldLab cellOf cellN CELLM boxIn isCell apartC frzR frzRL frzS frzC frzCL locN notBox frzLab eatE0 isFn anyFn locB
theorem put_loop (x : Int) (l : List Int) (hl : l.length < 4294967296) : ∀ n i : Nat, i + n = l.length → codeL cfgS 0 (.loop lQxX0) ⟨[(0, .list 1 (ints l)), (1, .int .i64 x), (5, .int .i64 i)], []⟩ =
    some (.exit 0, ⟨[(0, .list 1 (ints l)), (1, .int .i64 x), (5, .int .i64 (i + pos x (l.drop i) : Nat)), (18, .bool false)], []⟩)
  | 0, i, hi => by
    have e : i = l.length := by omega
    subst e
    rw [List.drop_length]
    exact loop_exit (by unfold lQxX0; simp [rQxX0, rQxX1, rQxX2, rQxX3, rQxX4, rQxX5, rQxX6, rQxX7, pos, ints_length, idx])
  | n + 1, i, hi => by
    have hlt : i < l.length := by omega
    have h1 : (i : Int) < l.length := by omega
    have ih := put_loop x l hl n (i + 1) (by omega)
    have hw := wrapS (i := i) (by omega)
    rw [List.drop_eq_getElem_cons hlt]
    unfold pos
    by_cases hx : l[i] < x
    · have e : i + (pos x (l.drop (i + 1)) + 1) = i + 1 + pos x (l.drop (i + 1)) := by omega
      rw [if_pos hx, e]
      exact (loop_next (by unfold lQxX0; simp [rQxX0, rQxX1, rQxX2, rQxX3, rQxX4, rQxX5, rQxX6, rQxX7, h1, hlt, hx, hw, ints_length, ints_get, intsAt, idx])).trans ih
    · rw [if_neg hx]
      exact loop_exit (by unfold lQxX0; simp [rQxX0, rQxX1, rQxX2, rQxX3, rQxX4, rQxX5, rQxX6, rQxX7, h1, hlt, hx, ints_length, ints_get, intsAt, idx])
end
end Go.BmP
