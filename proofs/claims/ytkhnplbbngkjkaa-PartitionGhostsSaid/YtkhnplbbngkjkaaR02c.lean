/- What functions of cohesionref02 return: put, Of, Range, Union, Meet, Minus, Within, Cmp, Same. -/
import Derived.Test.YtkhnplbbngkjkaaR02b
set_option linter.unusedSimpArgs false
set_option linter.unusedVariables false
set_option maxRecDepth 100000
namespace Go.BmP
open Go.Am Go.Bm
section
attribute [local simp] codeL_seq codeL_reg codeL_blk codeL_skip codeL_ret codeL_exit codeL_cnd condL_b thenL_n thenL_e thenL_r blkL_n blkL_e blkL_r regL_s opsB stepB opB opP opnd opnds lend lendC get_nil' get_cons' put_nil' put_cons' mem_nil' mem_cons' putdB putB slowP hasOwn hasOwnL finO relab anyB anyE anyH anyR borOf borL inSlot HAND endR hasOwnE endK keepIn trim noPtr noPtrL noPtrE noPtrH binA arith unA eqB isNilB eqc lenB bndB bnd rdN rdc AV.cells fillB peek ldOK AV.leaf allLeaf fz pl plL drawB allCW cwF okDrawB okPair Fq.ok dstOff wrOff notSlot noneIn apartR oldBoxes O.reads Kd.reads E.slot slots slotO slotsP List.getD pairIn nilL okRes clean cleanL resV resVs tupOf mkEnv partsBor doCallB inpB getArgs doCallO frzA frzV frzL minA minF cont ownAt at_ setAt rel dropS relC dropAll frzP frzAll firstBor borIn borC borS borE borH handTo mapSt mapE mapH mapB mapBL sw rt fb mvB mvRt seesP inRt isRoot rootOf boxOf seesB rootsL Am.rep ovw flatCells_ints allLeaf_ints flatCells el grp updE isNilB inpV inpL stB okL unA orcA bndB plL_ints fzL stBox inCells wrap0 wrap1 wrapm1 take_snoc BIGB marks boxZ ldLab cellOf cellN CELLM boxIn isCell apartC frzR frzRL frzS frzC frzCL locN notBox frzLab eatE0 isFn anyFn locB
theorem put_run (x : Int) (l : List Int) (hl : l.length < 4294967295) : callL cfgS nQx [.list 1 (ints l), .int .i64 x] [] = some (.list 1 (ints (putI x l)), []) := by
  rw [callL_end oQx sQx (Nat.le_of_ble_eq_true rfl), putI_pos]
  have h := put_loop x l (by omega) l.length 0 (by omega)
  rw [nat0, List.drop_zero, Nat.zero_add] at h
  have hp := pos_le x l
  generalize pos x l = p at h hp ⊢
  have hq : (p : Int) ≤ l.length := by omega
  have hm : min p l.length = p := by omega
  have hL1 : p ≤ 4294967296 := by omega
  have hL2 : p + 1 ≤ 4294967296 := by omega
  have hL3 : p + 1 + (l.length - p) ≤ 4294967296 := by omega
  unfold qQx cQx
  by_cases hlt : p < l.length
  · have h1 : (p : Int) < l.length := by omega
    by_cases hx : l[p] = x
    · rw [if_pos (by rw [List.getElem?_eq_getElem hlt, hx])]
      simp [rQxX0, rQxX1, rQxX2, rQxX3, rQxX4, rQxX5, rQxX6, rQxX7, h, h1, hlt, hx, ints_length, ints_get, intsAt, idx, endL, finB]
    · rw [if_neg (by rw [List.getElem?_eq_getElem hlt]; simpa using hx)]
      simp [rQxX0, rQxX1, rQxX2, rQxX3, rQxX4, rQxX5, rQxX6, rQxX7, h, h1, hlt, hx, hp, hq, hm, hL1, hL2, hL3, ints_length, ints_get, intsAt, idx, endL, finB, ints_take, ints_drop, ints_snoc, ints_app, LIM, List.length_take, List.length_drop]
      simp (disch := (simp only [List.length_take, List.length_append, List.length_drop, List.length_singleton, List.length_cons, List.length_nil] <;> omega)) only [List.take_of_length_le, List.take_take, Nat.min_self, List.append_assoc, List.singleton_append]
  · have h1 : ¬ (p : Int) < l.length := by omega
    rw [if_neg (by rw [List.getElem?_eq_none (by omega)]; simp)]
    simp [rQxX0, rQxX1, rQxX2, rQxX3, rQxX4, rQxX5, rQxX6, rQxX7, h, h1, hlt, hp, hq, hm, hL1, hL2, hL3, ints_length, ints_get, intsAt, idx, endL, finB, ints_take, ints_drop, ints_snoc, ints_app, LIM, List.length_take, List.length_drop]
    simp (disch := (simp only [List.length_take, List.length_append, List.length_drop, List.length_singleton, List.length_cons, List.length_nil] <;> omega)) only [List.take_of_length_le, List.take_take, Nat.min_self, List.append_assoc, List.singleton_append]
theorem of_loop (l : List Int) (hl : l.length < 4294967295) : ∀ (n i : Nat) (o : List Int), i + n = l.length → o.length ≤ i → codeL cfgS 0 (.loop lQkX0) ⟨[(3, .list 1 (ints o)), (6, .list 1 (ints l)), (7, .int .i64 l.length), (8, .int .i64 i)], []⟩ =
    some (.exit 0, ⟨[(3, .list 1 (ints ((l.drop i).foldl (fun o x => putI x o) o))), (6, .list 1 (ints l)), (7, .int .i64 l.length), (8, .int .i64 l.length), (9, .bool false)], []⟩)
  | 0, i, o, hi, ho => by
    have e : i = l.length := by omega
    subst e
    rw [List.drop_length]
    exact loop_exit (by unfold lQkX0; simp [rQkX0, rQkX1, rQkX2, rQkX3, rQkX4, rQkX5, rQkX6, rQkX7])
  | n + 1, i, o, hi, ho => by
    have hlt : i < l.length := by omega
    have h1 : (i : Int) < l.length := by omega
    have hw := wrapS (i := i) (by omega)
    have hp := put_run l[i] o (by omega)
    have hpl := putI_len l[i] o
    have ih := of_loop l hl n (i + 1) (putI l[i] o) (by omega) (by omega)
    rw [List.drop_eq_getElem_cons hlt, List.foldl_cons]
    exact (loop_next (by unfold lQkX0; simp [rQkX0, rQkX1, rQkX2, rQkX3, rQkX4, rQkX5, rQkX6, rQkX7, h1, hlt, hw, hp, sQx, iQx, eQx, ints_length, ints_get, intsAt, idx])).trans ih
theorem of_loop0 (l : List Int) (hl : l.length < 4294967295) : codeL cfgS 0 (.loop lQkX0) ⟨[(3, .own 1 []), (6, .list 1 (ints l)), (7, .int .i64 l.length), (8, .int .i64 0)], []⟩ =
    some (.exit 0, ⟨[(3, if l = [] then .own 1 [] else .list 1 (ints (setOf l))), (6, .list 1 (ints l)), (7, .int .i64 l.length), (8, .int .i64 l.length), (9, .bool false)], []⟩) := by
  cases l with
  | nil => exact loop_exit (by unfold lQkX0; simp [rQkX0, rQkX1, rQkX2, rQkX3, rQkX4, rQkX5, rQkX6, rQkX7, ints_nil])
  | cons a r =>
    have hp := put_run a [] (by simp)
    have ih := of_loop (a :: r) hl r.length 1 (putI a []) (by simp; omega) (by simp [putI])
    rw [← ofL_eq, if_neg (by simp)]
    rw [ints_nil] at hp
    refine (loop_next (s' := ⟨[(3, .list 1 (ints (putI a []))), (6, .list 1 (ints (a :: r))), (7, .int .i64 (a :: r).length), (8, .int .i64 ((1 : Nat) : Int))], []⟩) ?_).trans (ih.trans ?_)
    · have h1 : (0 : Int) < (r.length : Int) + 1 := by omega
      unfold lQkX0
      simp [rQkX0, rQkX1, rQkX2, rQkX3, rQkX4, rQkX5, rQkX6, rQkX7, h1, hp, sQx, iQx, eQx, ints_length, ints_cons, idx]
    · rfl
theorem of_run (l : List Int) (hl : l.length < 4294967295) : callL cfgS nQk [.list 1 (ints l)] [] = some (.list 1 (ints (setOf l)), []) := by
  rw [callL_end oQk sQk (Nat.le_of_ble_eq_true rfl)]
  have h := of_loop0 l hl
  unfold qQk cQk
  by_cases hx : l = []
  · subst hx
    rw [if_pos rfl] at h
    simp only [ints_nil, List.length_nil, nat0] at h
    simp [rQkX0, rQkX1, rQkX2, rQkX3, rQkX4, rQkX5, rQkX6, rQkX7, h, ints_nil, endL, finB]
    rfl
  · rw [if_neg hx] at h
    simp [rQkX0, rQkX1, rQkX2, rQkX3, rQkX4, rQkX5, rQkX6, rQkX7, h, ints_length, endL, finB]
end
def rangeI (n : Int) : List Int := (List.range (min n.toNat 64)).map fun i => ((i : Nat) : Int)
end Go.BmP
