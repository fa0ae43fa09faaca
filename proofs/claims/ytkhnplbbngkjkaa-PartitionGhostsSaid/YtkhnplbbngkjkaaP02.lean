/- What field.Numbers, partition.home and Loads return. -/
import Derived.Test.YtkhnplbbngkjkaaP01
set_option linter.unusedSimpArgs false
set_option linter.unusedVariables false
set_option maxRecDepth 100000
set_option maxHeartbeats 4000000
namespace Go.BmP
open Go.Am Go.Bm
section
attribute [local simp] codeL_seq codeL_reg codeL_blk codeL_skip codeL_ret codeL_exit codeL_cnd condL_b thenL_n thenL_e thenL_r blkL_n blkL_e blkL_r regL_s opsB stepB opB opP opnd opnds lend lendC get_nil' get_cons' put_nil' put_cons' mem_nil' mem_cons' putdB putB slowP hasOwn hasOwnL finO relab anyB anyE anyH anyR borOf borL inSlot HAND endR hasOwnE endK keepIn trim noPtr noPtrL noPtrE noPtrH binA arith unA eqB isNilB eqc lenB bndB bnd rdN rdc AV.cells fillB peek ldOK AV.leaf allLeaf fz pl plL drawB allCW cwF okDrawB okPair Fq.ok dstOff wrOff notSlot noneIn apartR oldBoxes O.reads Kd.reads E.slot slots slotO slotsP List.getD pairIn nilL okRes clean cleanL resV resVs tupOf mkEnv partsBor doCallB inpB getArgs doCallO frzA frzV frzL minA minF cont ownAt at_ setAt rel dropS relC dropAll frzP frzAll firstBor borIn borC borS borE borH handTo mapSt mapE mapH mapB mapBL sw rt fb mvB mvRt seesP inRt isRoot rootOf boxOf seesB rootsL Am.rep ovw flatCells_ints allLeaf_ints flatCells el grp updE isNilB inpV inpL stB okL unA orcA bndB plL_ints fzL stBox inCells wrap0 wrap1 wrapm1 take_snoc BIGB marks boxZ ldLab cellOf cellN CELLM boxIn isCell apartC frzR frzRL frzS frzC frzCL locN notBox frzLab eatE0 isFn anyFn locB
theorem num_loop (l : List Int) (hl : l.length ≤ 500) (N : Nat) (hN : N ≤ 64) (k : Int) (hk : 1 ≤ k ∧ k < 1000) (R : Heap) (hR : Rest R) : ∀ (m v a : Nat) (o : List Int), v + m = N → o.length = v → (∀ x ∈ o, 0 ≤ x ∧ x < k) → ∃ o' a', codeL cfgS (R.length + 1) (.loop lQqX0) ⟨[(0, .ptr 0 0), (1, .int .i64 N), (2, .int .i64 k), (7, .own 1 (ints o)), (8, .int .i64 v)], dk l a :: R⟩ = some (.exit 0, ⟨[(0, .ptr 0 0), (1, .int .i64 N), (2, .int .i64 k), (7, .own 1 (ints o')), (8, .int .i64 N), (11, .bool false)], dk l a' :: R⟩) ∧ (o'.length = N ∧ ∀ x ∈ o', 0 ≤ x ∧ x < k)
  | 0, v, a, o, hi, ho, hb => by
    obtain rfl : v = N := by omega
    exact ⟨o, a, loop_exit (by unfold lQqX0 dk; simp [rQqX0, rQqX1, rQqX2, rQqX3, rQqX4, rQqX5, rQqX6, nle1, blk, eds_length, eds_get, edsAt, edAV, allLeaf_eds, cleanL_eds, cleanL_ints, ints_length, ints_get, intsAt, endL, finB]), ho, hb⟩
  | m + 1, v, a, o, hi, ho, hb => by
    have h1 : (v : Int) < N := by omega
    have hw := wrapS (i := v) (by omega)
    have hL : o.length + 1 ≤ 4294967296 := by omega
    have hx := next_run l hl a k (by omega) R hR
    have bd := nxV_bd l a (n := k) (by omega)
    obtain ⟨r1, r2, r3, r4, r5⟩ := hR
    unfold dk at hx
    obtain ⟨o', a', e, p⟩ := num_loop l hl N hN k hk R ⟨r1, r2, r3, r4, r5⟩ m (v + 1) (nxA l a k) (o ++ [nxV l a k]) (by omega) (by simp; omega) (fun x hx => by
      rcases List.mem_append.1 hx with hx | hx
      · exact hb x hx
      · simp at hx; subst hx; exact bd)
    exact ⟨o', a', (loop_next (by unfold lQqX0 dk; simp [rQqX0, rQqX1, rQqX2, rQqX3, rQqX4, rQqX5, rQqX6, h1, hw, hL, hx, LIM, ints_snoc, ints_take, sQn, iQn, eQn, r1, r2, r3, r4, r5, plp, plpL, allB, notBox, swC, seesC, inBox, nle1, blk, eds_length, eds_get, edsAt, edAV, allLeaf_eds, cleanL_eds, cleanL_ints, ints_length, ints_get, intsAt, endL, finB])).trans e, p⟩
theorem numbers_run (l : List Int) (hl : l.length ≤ 500) (N : Nat) (hN : N ≤ 64) (k : Int) (hk : 1 ≤ k ∧ k < 1000) (R : Heap) (hR : Rest R) (a : Nat) : ∃ o a', callL cfgS nQq [.ptr 0 0, .int .i64 N, .int .i64 k] (dk l a :: R) = some (.list 1 (ints o), dk l a' :: R) ∧ (o.length = N ∧ ∀ x ∈ o, 0 ≤ x ∧ x < k) := by
  obtain ⟨o, a', e, p⟩ := num_loop l hl N hN k hk R hR N 0 a [] (by omega) rfl (by simp)
  refine ⟨o, a', ?_, p⟩
  rw [nat0, ints_nil] at e
  obtain ⟨r1, r2, r3, r4, r5⟩ := hR
  rw [callL_end oQq sQq (Nat.le_of_ble_eq_true rfl)]
  unfold dk at e ⊢
  have tk : (ints o).take o.length = ints o := by rw [ints_take, List.take_length]
  unfold qQq cQq
  simp [rQqX0, rQqX1, rQqX2, rQqX3, rQqX4, rQqX5, rQqX6, e, tk, r1, r2, r3, r4, r5, plp, plpL, allB, notBox, swC, swS, seesC, inBox, finS, nle1, blk, eds_length, eds_get, edsAt, edAV, allLeaf_eds, cleanL_eds, cleanL_ints, ints_length, ints_get, intsAt, endL, finB]
end
def bump (n : List Int) (w : Int) : List Int := n.set w.toNat (n.getD w.toNat 0 + 1)
def hmV (w : Nat) (o hv : List Int) (u v : Nat) : Int := if (u : Int) ∈ hv then (if (v : Int) ∈ hv then (((u + v) % w : Nat) : Int) else o.getD v 0) else o.getD u 0
section
attribute [local simp] codeL_seq codeL_reg codeL_blk codeL_skip codeL_ret codeL_exit codeL_cnd condL_b thenL_n thenL_e thenL_r blkL_n blkL_e blkL_r regL_s opsB stepB opB opP opnd opnds lend lendC get_nil' get_cons' put_nil' put_cons' mem_nil' mem_cons' putdB putB slowP hasOwn hasOwnL finO relab anyB anyE anyH anyR borOf borL inSlot HAND endR hasOwnE endK keepIn trim noPtr noPtrL noPtrE noPtrH binA arith unA eqB isNilB eqc lenB bndB bnd rdN rdc AV.cells fillB peek ldOK AV.leaf allLeaf fz pl plL drawB allCW cwF okDrawB okPair Fq.ok dstOff wrOff notSlot noneIn apartR oldBoxes O.reads Kd.reads E.slot slots slotO slotsP List.getD pairIn nilL okRes clean cleanL resV resVs tupOf mkEnv partsBor doCallB inpB getArgs doCallO frzA frzV frzL minA minF cont ownAt at_ setAt rel dropS relC dropAll frzP frzAll firstBor borIn borC borS borE borH handTo mapSt mapE mapH mapB mapBL sw rt fb mvB mvRt seesP inRt isRoot rootOf boxOf seesB rootsL Am.rep ovw flatCells_ints allLeaf_ints flatCells el grp updE isNilB inpV inpL stB okL unA orcA bndB plL_ints fzL stBox inCells wrap0 wrap1 wrapm1 take_snoc BIGB marks boxZ ldLab cellOf cellN CELLM boxIn isCell apartC frzR frzRL frzS frzC frzCL locN notBox frzLab eatE0 isFn anyFn locB
theorem home_run {w : Nat} (h0 : 1 ≤ w) (o hv : List Int) (hh : hv.length < 1000000) {u v : Nat} (hu : u < o.length) (hv' : v < o.length) (ho : o.length < 1000000) : callL cfgS nQt [.agg [.int .i64 w, .list 1 (ints o), .list 1 (ints hv)], .int .i64 u, .int .i64 v] [] = some (.int .i64 (hmV w o hv u v), []) := by
  have a1 := nhas_run (u : Int) hv (by omega)
  have a2 := nhas_run (v : Int) hv (by omega)
  have at_ : ∀ j : Nat, j < o.length → (ints o)[j]? = some (.int .i64 (o.getD j 0)) := fun j hj => by
    rw [ints_get, List.getElem?_eq_getElem hj]; simp [List.getD_eq_getElem?_getD, List.getElem?_eq_getElem hj]
  have g1 := at_ u hu
  have g2 := at_ v hv'
  have gg : ∀ (j : Nat) (x : AV), (ints o)[j]? = some x → ∀ h, (ints o)[j]'h = x := fun j x e h => by
    have := List.getElem?_eq_getElem (l := ints o) h
    rw [e] at this
    exact (Option.some.inj this).symm
  have g1' := gg _ _ g1
  have g2' := gg _ _ g2
  have g5 := ints_length o
  have k1 : (u : Int) < o.length := by omega
  have k2 : (v : Int) < o.length := by omega
  have w1 : IntKind.i64.wrap ((u : Int) + (v : Int)) = ((u + v : Nat) : Int) := by rw [← Int.natCast_add]; exact wrap_id (by omega) (by omega)
  have w2 : ((u + v : Nat) : Int).tmod w = (((u + v) % w : Nat) : Int) := (Int.ofNat_tmod _ _).symm
  have w3 : ¬ (w : Int) = 0 := by omega
  have w4 : ¬ w = 0 := by omega
  clear at_ gg
  unfold hmV
  generalize ((u + v : Nat) : Int) = uv at *
  generalize (((u + v) % w : Nat) : Int) = md at *
  generalize o.getD u 0 = x at *
  generalize o.getD v 0 = y at *
  rw [callL_end oQt sQt (Nat.le_of_ble_eq_true rfl)]
  unfold qQt cQt
  by_cases b1 : (u : Int) ∈ hv
  · rw [if_pos b1]
    rw [decide_eq_true b1] at a1
    by_cases b2 : (v : Int) ∈ hv
    · rw [if_pos b2]
      rw [decide_eq_true b2] at a2
      generalize ints o = O at *
      generalize ints hv = Hv at *
      simp [rQtX0, rQtX1, rQtX2, rQtX3, rQtX4, rQtX5, rQtX6, a1, a2, w1, w2, w3, w4, hu, hv', k1, k2, g1, g2, g1', g2', g5, idx, blk, sQK, iQK, eQK, plL, pl, endL, finB]
    · rw [if_neg b2]
      rw [decide_eq_false b2] at a2
      generalize ints o = O at *
      generalize ints hv = Hv at *
      simp [rQtX0, rQtX1, rQtX2, rQtX3, rQtX4, rQtX5, rQtX6, a1, a2, w1, w2, w3, w4, hu, hv', k1, k2, g1, g2, g1', g2', g5, idx, blk, sQK, iQK, eQK, plL, pl, endL, finB]
  · rw [if_neg b1]
    rw [decide_eq_false b1] at a1
    generalize hq : decide ((v : Int) ∈ hv) = bb at *
    generalize ints o = O at *
    generalize ints hv = Hv at *
    cases bb
    · simp [rQtX0, rQtX1, rQtX2, rQtX3, rQtX4, rQtX5, rQtX6, a1, a2, w1, w2, w3, w4, hu, hv', k1, k2, g1, g2, g1', g2', g5, idx, blk, sQK, iQK, eQK, plL, pl, endL, finB]
    · simp [rQtX0, rQtX1, rQtX2, rQtX3, rQtX4, rQtX5, rQtX6, a1, a2, w1, w2, w3, w4, hu, hv', k1, k2, g1, g2, g1', g2', g5, idx, blk, sQK, iQK, eQK, plL, pl, endL, finB]
end
def ldSt (N w : Nat) (Es : List Ed) (o hv n : List Int) (i : Nat) (J : Env) : St := ⟨(3, .ptr 1 0) :: (7, .own 1 (ints n)) :: (20, .list 2 (eds Es)) :: (21, .int .i64 Es.length) :: (22, .int .i64 i) :: J, [some [.int .i64 N, .list 2 (eds Es)], some [.int .i64 w, .list 1 (ints o), .list 1 (ints hv)]]⟩
section
attribute [local simp] codeL_seq codeL_reg codeL_blk codeL_skip codeL_ret codeL_exit codeL_cnd condL_b thenL_n thenL_e thenL_r blkL_n blkL_e blkL_r regL_s opsB stepB opB opP opnd opnds lend lendC get_nil' get_cons' put_nil' put_cons' mem_nil' mem_cons' putdB putB slowP hasOwn hasOwnL finO relab anyB anyE anyH anyR borOf borL inSlot HAND endR hasOwnE endK keepIn trim noPtr noPtrL noPtrE noPtrH binA arith unA eqB isNilB eqc lenB bndB bnd rdN rdc AV.cells fillB peek ldOK AV.leaf allLeaf fz pl plL drawB allCW cwF okDrawB okPair Fq.ok dstOff wrOff notSlot noneIn apartR oldBoxes O.reads Kd.reads E.slot slots slotO slotsP List.getD pairIn nilL okRes clean cleanL resV resVs tupOf mkEnv partsBor doCallB inpB getArgs doCallO frzA frzV frzL minA minF cont ownAt at_ setAt rel dropS relC dropAll frzP frzAll firstBor borIn borC borS borE borH handTo mapSt mapE mapH mapB mapBL sw rt fb mvB mvRt seesP inRt isRoot rootOf boxOf seesB rootsL Am.rep ovw flatCells_ints allLeaf_ints flatCells el grp updE isNilB inpV inpL stB okL unA orcA bndB plL_ints fzL stBox inCells wrap0 wrap1 wrapm1 take_snoc BIGB marks boxZ ldLab cellOf cellN CELLM boxIn isCell apartC frzR frzRL frzS frzC frzCL locN notBox frzLab eatE0 isFn anyFn locB
end
end Go.BmP
