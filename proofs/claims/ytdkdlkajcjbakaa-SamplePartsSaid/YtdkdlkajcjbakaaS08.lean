/- The law of parts returns true. -/
import Derived.Test.YtdkdlkajcjbakaaS01
import Derived.Test.YtdkdlkajcjbakaaS02
import Derived.Test.YtdkdlkajcjbakaaS05
import Derived.Test.YtdkdlkajcjbakaaL01
import Derived.Test.YtdkdlkajcjbakaaK05
set_option linter.unusedSimpArgs false
set_option linter.unusedVariables false
set_option maxRecDepth 100000
set_option maxHeartbeats 4000000
namespace Go.BmP
open Go.Am Go.Bm
theorem awake33p : callL cfgS nLaw33Awake [] [] = some (.bool true, []) := callL_iff.2 ⟨3000, by kernel_rfl⟩
section
attribute [local simp] codeL_seq codeL_reg codeL_blk codeL_skip codeL_ret codeL_exit codeL_cnd condL_b thenL_n thenL_e thenL_r blkL_n blkL_e blkL_r regL_s opsB stepB opB opP opnd opnds lend lendC get_nil' get_cons' put_nil' put_cons' mem_nil' mem_cons' putdB putB slowP hasOwn hasOwnL finO relab anyB anyE anyH anyR borOf borL inSlot HAND endR hasOwnE endK keepIn trim noPtr noPtrL noPtrE noPtrH binA arith unA eqB isNilB eqc lenB bndB bnd rdN rdc AV.cells fillB peek ldOK AV.leaf allLeaf fz pl plL drawB allCW cwF okDrawB okPair Fq.ok dstOff wrOff notSlot noneIn apartR oldBoxes O.reads Kd.reads E.slot slots slotO slotsP List.getD pairIn nilL okRes clean cleanL resV resVs tupOf mkEnv partsBor doCallB inpB getArgs doCallO frzA frzV frzL minA minF cont ownAt at_ setAt rel dropS relC dropAll frzP frzAll firstBor borIn borC borS borE borH handTo mapSt mapE mapH mapB mapBL sw rt fb mvB mvRt seesP inRt isRoot rootOf boxOf seesB rootsL Am.rep ovw flatCells_ints allLeaf_ints flatCells el grp updE isNilB inpV inpL stB okL unA orcA bndB plL_ints fzL stBox inCells wrap0 wrap1 wrapm1 take_snoc BIGB marks boxZ ldLab cellOf cellN CELLM boxIn isCell apartC frzR frzRL frzS frzC frzCL
theorem num_loop (l : List Int) (hl : l.length ≤ 500) (N : Nat) (hN : N ≤ 64) (k : Int) (hk : 1 ≤ k ∧ k < 1000) (R : Heap) (hR : Rest R) : ∀ (m v a : Nat) (o : List Int), v + m = N → o.length = v → (∀ x ∈ o, 0 ≤ x ∧ x < k) → ∃ o' a', codeL cfgS (R.length + 1) (.loop lFieldNumbersX0) ⟨[(0, .ptr 0 0), (1, .int .i64 N), (2, .int .i64 k), (7, .own 1 (ints o)), (8, .int .i64 v)], dk l a :: R⟩ = some (.exit 0, ⟨[(0, .ptr 0 0), (1, .int .i64 N), (2, .int .i64 k), (7, .own 1 (ints o')), (8, .int .i64 N), (11, .bool false)], dk l a' :: R⟩) ∧ (o'.length = N ∧ ∀ x ∈ o', 0 ≤ x ∧ x < k)
  | 0, v, a, o, hi, ho, hb => by
    obtain rfl : v = N := by omega
    exact ⟨o, a, loop_exit (by unfold lFieldNumbersX0 dk; simp [rFieldNumbersX0, rFieldNumbersX1, rFieldNumbersX2, rFieldNumbersX3, rFieldNumbersX4, rFieldNumbersX5, rFieldNumbersX6, nle1, blk, eds_length, eds_get, edsAt, edAV, allLeaf_eds, cleanL_eds, cleanL_ints, ints_length, ints_get, intsAt, endL, finB]), ho, hb⟩
  | m + 1, v, a, o, hi, ho, hb => by
    have h1 : (v : Int) < N := by omega
    have hw := wrapS (i := v) (by omega)
    have hL : o.length + 1 ≤ 4294967296 := by omega
    have hx := next_run l hl a k (by omega) R hR
    have bd := nxV_bd l a (n := k) (by omega)
    obtain ⟨r1, r2, r3, r4, r5⟩ := hR
    unfold dk at hx
    obtain ⟨o', a', e, p⟩ := num_loop l hl N hN k hk R ⟨r1, r2, r3, r4, r5⟩ m (v + 1) (nxA l a k) (o ++ [nxV l a k]) (by omega) (by simp; omega) (fun x hx => by
      rcases List.mem_append.1 hx with hx | hx
      · exact hb x hx
      · simp at hx; subst hx; exact bd)
    exact ⟨o', a', (loop_next (by unfold lFieldNumbersX0 dk; simp [rFieldNumbersX0, rFieldNumbersX1, rFieldNumbersX2, rFieldNumbersX3, rFieldNumbersX4, rFieldNumbersX5, rFieldNumbersX6, h1, hw, hL, hx, LIM, ints_snoc, ints_take, sMakeDeckNext, iMakeDeckNext, r1, r2, r3, r4, r5, plp, plpL, allB, notBox, swC, seesC, inBox, nle1, blk, eds_length, eds_get, edsAt, edAV, allLeaf_eds, cleanL_eds, cleanL_ints, ints_length, ints_get, intsAt, endL, finB])).trans e, p⟩
theorem numbers_run (l : List Int) (hl : l.length ≤ 500) (N : Nat) (hN : N ≤ 64) (k : Int) (hk : 1 ≤ k ∧ k < 1000) (R : Heap) (hR : Rest R) (a : Nat) : ∃ o a', callL cfgS nFieldNumbers [.ptr 0 0, .int .i64 N, .int .i64 k] (dk l a :: R) = some (.list 1 (ints o), dk l a' :: R) ∧ (o.length = N ∧ ∀ x ∈ o, 0 ≤ x ∧ x < k) := by
  obtain ⟨o, a', e, p⟩ := num_loop l hl N hN k hk R hR N 0 a [] (by omega) rfl (by simp)
  refine ⟨o, a', ?_, p⟩
  rw [nat0, ints_nil] at e
  obtain ⟨r1, r2, r3, r4, r5⟩ := hR
  rw [callL_end oFieldNumbers sFieldNumbers (Nat.le_of_ble_eq_true rfl)]
  unfold dk at e ⊢
  have tk : (ints o).take o.length = ints o := by rw [ints_take, List.take_length]
  unfold qFieldNumbers cFieldNumbers
  simp [rFieldNumbersX0, rFieldNumbersX1, rFieldNumbersX2, rFieldNumbersX3, rFieldNumbersX4, rFieldNumbersX5, rFieldNumbersX6, e, tk, r1, r2, r3, r4, r5, plp, plpL, allB, notBox, swC, swS, seesC, inBox, finS, nle1, blk, eds_length, eds_get, edsAt, edAV, allLeaf_eds, cleanL_eds, cleanL_ints, ints_length, ints_get, intsAt, endL, finB]
end
def gP (N : Nat) (Es : List Ed) : Blk := some [.int .i64 N, .list 2 (eds Es)]
theorem rest_gP (N : Nat) (E : List Ed) : Rest [gP N E] := ⟨fun _ => rfl, rfl, fun _ _ => rfl, fun _ => rfl, fun _ _ => rfl⟩
def p0St (l : List Int) (a N : Nat) (Es : List Ed) (t : Int) (c : List Int) (bs : List Bool) (i : Nat) (J : Env) : St := ⟨(4, .ptr 1 0) :: (5, .int .i64 t) :: (7, .list 1 (ints c)) :: (8, .own 1 []) :: (9, .own 1 (bls bs)) :: (45, .int .i64 bs.length) :: (46, .int .i64 i) :: J, [dk l a, gP N Es]⟩
def tru (m i : Nat) : List Bool := List.replicate i true ++ List.replicate (m - i) false
theorem tru_length {m i : Nat} (h : i ≤ m) : (tru m i).length = m := by simp [tru]; omega
theorem tru_set {m i : Nat} (h : i < m) : (tru m i).set i true = tru m (i + 1) := by
  unfold tru
  rw [show m - i = (m - (i + 1)) + 1 by omega, List.replicate_succ, List.set_append_right _ _ (by simp)]
  simp only [List.length_replicate, Nat.sub_self, List.set_cons_zero]
  rw [List.replicate_succ' (n := i), List.append_assoc]; rfl
section
attribute [local simp] codeL_seq codeL_reg codeL_blk codeL_skip codeL_ret codeL_exit codeL_cnd condL_b thenL_n thenL_e thenL_r blkL_n blkL_e blkL_r regL_s opsB stepB opB opP opnd opnds lend lendC get_nil' get_cons' put_nil' put_cons' mem_nil' mem_cons' putdB putB slowP hasOwn hasOwnL finO relab anyB anyE anyH anyR borOf borL inSlot HAND endR hasOwnE endK keepIn trim noPtr noPtrL noPtrE noPtrH binA arith unA eqB isNilB eqc lenB bndB bnd rdN rdc AV.cells fillB peek ldOK AV.leaf allLeaf fz pl plL drawB allCW cwF okDrawB okPair Fq.ok dstOff wrOff notSlot noneIn apartR oldBoxes O.reads Kd.reads E.slot slots slotO slotsP List.getD pairIn nilL okRes clean cleanL resV resVs tupOf mkEnv partsBor doCallB inpB getArgs doCallO frzA frzV frzL minA minF cont ownAt at_ setAt rel dropS relC dropAll frzP frzAll firstBor borIn borC borS borE borH handTo mapSt mapE mapH mapB mapBL sw rt fb mvB mvRt seesP inRt isRoot rootOf boxOf seesB rootsL Am.rep ovw flatCells_ints allLeaf_ints flatCells el grp updE isNilB inpV inpL stB okL unA orcA bndB plL_ints fzL stBox inCells wrap0 wrap1 wrapm1 take_snoc BIGB marks boxZ ldLab cellOf cellN CELLM boxIn isCell apartC frzR frzRL frzS frzC frzCL
theorem p0_loop (l : List Int) (a N : Nat) (Es : List Ed) (t : Int) (c : List Int) (m : Nat) (hm : m < 1000000) : ∀ (k i : Nat), i + k = m → codeL cfgS 0 (.loop lLaw33SamplePartsX0) (p0St l a N Es t c (tru m i) i []) = some (.exit 0, p0St l a N Es t c (tru m m) m [(47, .bool false)])
  | 0, i, hi => by
    obtain rfl : i = m := by omega
    have ln := tru_length (m := i) (i := i) (by omega)
    refine loop_exit ?_
    unfold p0St lLaw33SamplePartsX0 dk gP
    rw [ln]
    generalize bls (tru i i) = B at *
    generalize ints c = C at *
    generalize eds Es = Y at *
    simp [rLaw33SamplePartsX0, rLaw33SamplePartsX1, rLaw33SamplePartsX2, rLaw33SamplePartsX3, rLaw33SamplePartsX4, rLaw33SamplePartsX5, rLaw33SamplePartsX6, rLaw33SamplePartsX7, rLaw33SamplePartsX8, rLaw33SamplePartsX9, rLaw33SamplePartsX10, rLaw33SamplePartsX11, rLaw33SamplePartsX12, rLaw33SamplePartsX13, rLaw33SamplePartsX14, rLaw33SamplePartsX15, rLaw33SamplePartsX16, rLaw33SamplePartsX17, rLaw33SamplePartsX18, rLaw33SamplePartsX19, rLaw33SamplePartsX20, rLaw33SamplePartsX21, rLaw33SamplePartsX22, rLaw33SamplePartsX23, rLaw33SamplePartsX24, rLaw33SamplePartsX25, rLaw33SamplePartsX26, rLaw33SamplePartsX27, rLaw33SamplePartsX28, rLaw33SamplePartsX29, blk, eds_length, eds_get, edsAt, edAV, allLeaf_eds, cleanL_eds, cleanL_ints, ints_length, ints_get, intsAt, endL, finB]
  | k + 1, i, hi => by
    refine (loop_next ?_).trans (p0_loop l a N Es t c m hm k (i + 1) (by omega))
    have hlt : i < m := by omega
    have ln := tru_length (m := m) (i := i) (by omega)
    have ln2 := tru_length (m := m) (i := i + 1) (by omega)
    have h1 : (i : Int) < m := by omega
    have hw := wrapS (i := i) (by omega)
    have g5 : (bls (tru m i)).length = m := by rw [bls_length, ln]
    have b1 : (bls (tru m i)).set i (.bool true) = bls (tru m (i + 1)) := by rw [← tru_set hlt]; simp [bls, List.map_set]
    have g6 : ∃ b, (bls (tru m i))[i]? = some (.bool b) := by
      rw [bls_get, List.getElem?_eq_getElem (by omega)]; exact ⟨_, rfl⟩
    obtain ⟨b, g6⟩ := g6
    unfold p0St lLaw33SamplePartsX0 dk gP
    rw [ln, ln2]
    generalize bls (tru m (i + 1)) = B2 at *
    generalize bls (tru m i) = B at *
    have g7 : ∀ h, B[i]'h = .bool b := fun h => by
      have := List.getElem?_eq_getElem (l := B) h
      rw [g6] at this
      exact (Option.some.inj this).symm
    generalize ints c = C at *
    generalize eds Es = Y at *
    simp [rLaw33SamplePartsX0, rLaw33SamplePartsX1, rLaw33SamplePartsX2, rLaw33SamplePartsX3, rLaw33SamplePartsX4, rLaw33SamplePartsX5, rLaw33SamplePartsX6, rLaw33SamplePartsX7, rLaw33SamplePartsX8, rLaw33SamplePartsX9, rLaw33SamplePartsX10, rLaw33SamplePartsX11, rLaw33SamplePartsX12, rLaw33SamplePartsX13, rLaw33SamplePartsX14, rLaw33SamplePartsX15, rLaw33SamplePartsX16, rLaw33SamplePartsX17, rLaw33SamplePartsX18, rLaw33SamplePartsX19, rLaw33SamplePartsX20, rLaw33SamplePartsX21, rLaw33SamplePartsX22, rLaw33SamplePartsX23, rLaw33SamplePartsX24, rLaw33SamplePartsX25, rLaw33SamplePartsX26, rLaw33SamplePartsX27, rLaw33SamplePartsX28, rLaw33SamplePartsX29, h1, hlt, hw, g5, b1, g6, g7, idx, blk, eds_length, eds_get, edsAt, edAV, allLeaf_eds, cleanL_eds, cleanL_ints, ints_length, ints_get, intsAt, endL, finB]
end
def p1St (l : List Int) (a N : Nat) (Es : List Ed) (t : Int) (c : List Int) (B : List AV) (o : List Int) (i : Nat) (J : Env) : St := ⟨(4, .ptr 1 0) :: (5, .int .i64 t) :: (7, .list 1 (ints c)) :: (8, .own 1 (ints o)) :: (9, .own 1 B) :: (53, .list 1 (ints c)) :: (54, .int .i64 c.length) :: (55, .int .i64 i) :: J, [dk l a, gP N Es]⟩
section
attribute [local simp] codeL_seq codeL_reg codeL_blk codeL_skip codeL_ret codeL_exit codeL_cnd condL_b thenL_n thenL_e thenL_r blkL_n blkL_e blkL_r regL_s opsB stepB opB opP opnd opnds lend lendC get_nil' get_cons' put_nil' put_cons' mem_nil' mem_cons' putdB putB slowP hasOwn hasOwnL finO relab anyB anyE anyH anyR borOf borL inSlot HAND endR hasOwnE endK keepIn trim noPtr noPtrL noPtrE noPtrH binA arith unA eqB isNilB eqc lenB bndB bnd rdN rdc AV.cells fillB peek ldOK AV.leaf allLeaf fz pl plL drawB allCW cwF okDrawB okPair Fq.ok dstOff wrOff notSlot noneIn apartR oldBoxes O.reads Kd.reads E.slot slots slotO slotsP List.getD pairIn nilL okRes clean cleanL resV resVs tupOf mkEnv partsBor doCallB inpB getArgs doCallO frzA frzV frzL minA minF cont ownAt at_ setAt rel dropS relC dropAll frzP frzAll firstBor borIn borC borS borE borH handTo mapSt mapE mapH mapB mapBL sw rt fb mvB mvRt seesP inRt isRoot rootOf boxOf seesB rootsL Am.rep ovw flatCells_ints allLeaf_ints flatCells el grp updE isNilB inpV inpL stB okL unA orcA bndB plL_ints fzL stBox inCells wrap0 wrap1 wrapm1 take_snoc BIGB marks boxZ ldLab cellOf cellN CELLM boxIn isCell apartC frzR frzRL frzS frzC frzCL
theorem p1_loop (l : List Int) (a N : Nat) (Es : List Ed) (t : Int) (c : List Int) (hc : c.length ≤ 64) (hb : ∀ x ∈ c, 0 ≤ x ∧ x < 4) (B : List AV) : ∀ (k i : Nat) (o : List Int), i + k = c.length → o.length ≤ i → codeL cfgS 0 (.loop lLaw33SamplePartsX1) (p1St l a N Es t c B o i []) = some (.exit 2, p1St l a N Es t c B (o ++ (c.drop i).map (· / 2)) c.length [(56, .bool false)])
  | 0, i, o, hi, ho => by
    obtain rfl : i = c.length := by omega
    rw [List.drop_length, List.map_nil, List.append_nil]
    refine loop_exit ?_
    unfold p1St lLaw33SamplePartsX1 dk gP
    generalize ints c = C at *
    generalize ints o = O at *
    generalize eds Es = Y at *
    simp [rLaw33SamplePartsX0, rLaw33SamplePartsX1, rLaw33SamplePartsX2, rLaw33SamplePartsX3, rLaw33SamplePartsX4, rLaw33SamplePartsX5, rLaw33SamplePartsX6, rLaw33SamplePartsX7, rLaw33SamplePartsX8, rLaw33SamplePartsX9, rLaw33SamplePartsX10, rLaw33SamplePartsX11, rLaw33SamplePartsX12, rLaw33SamplePartsX13, rLaw33SamplePartsX14, rLaw33SamplePartsX15, rLaw33SamplePartsX16, rLaw33SamplePartsX17, rLaw33SamplePartsX18, rLaw33SamplePartsX19, rLaw33SamplePartsX20, rLaw33SamplePartsX21, rLaw33SamplePartsX22, rLaw33SamplePartsX23, rLaw33SamplePartsX24, rLaw33SamplePartsX25, rLaw33SamplePartsX26, rLaw33SamplePartsX27, rLaw33SamplePartsX28, rLaw33SamplePartsX29, blk, eds_length, eds_get, edsAt, edAV, allLeaf_eds, cleanL_eds, cleanL_ints, ints_length, ints_get, intsAt, endL, finB]
  | k + 1, i, o, hi, ho => by
    have hlt : i < c.length := by omega
    rw [List.drop_eq_getElem_cons hlt, List.map_cons]
    have ih := p1_loop l a N Es t c hc hb B k (i + 1) (o ++ [c[i] / 2]) (by omega) (by simp; omega)
    rw [List.append_assoc] at ih
    refine (loop_next ?_).trans ih
    clear ih
    have hx := hb _ (List.getElem_mem hlt)
    have h1 : (i : Int) < c.length := by omega
    have hw := wrapS (i := i) (by omega)
    have g3 : (ints c)[i]? = some (.int .i64 c[i]) := by rw [ints_get, List.getElem?_eq_getElem hlt]; rfl
    have g4 : ∀ h, (ints c)[i]'h = .int .i64 c[i] := fun h => intsAt ..
    have g5 := ints_length c
    have q1 : IntKind.i64.wrap (c[i].tdiv 2) = c[i] / 2 := by rw [Int.tdiv_eq_ediv_of_nonneg (by omega), wrap_id (by omega) (by omega)]
    have hL : o.length + 1 ≤ 4294967296 := by omega
    have sn := ints_snoc o (c[i] / 2)
    have tk : (ints (o ++ [c[i] / 2])).take (o.length + 1) = ints (o ++ [c[i] / 2]) := List.take_of_length_le (by rw [ints_length]; simp)
    have tko : (ints o).take o.length = ints o := List.take_of_length_le (by rw [ints_length]; omega)
    have g6 := ints_length o
    unfold p1St lLaw33SamplePartsX1 dk gP
    generalize ints (o ++ [c[i] / 2]) = O2 at *
    generalize c[i] / 2 = y at *
    generalize c[i] = x at *
    generalize ints c = C at *
    generalize ints o = O at *
    generalize eds Es = Y at *
    simp [rLaw33SamplePartsX0, rLaw33SamplePartsX1, rLaw33SamplePartsX2, rLaw33SamplePartsX3, rLaw33SamplePartsX4, rLaw33SamplePartsX5, rLaw33SamplePartsX6, rLaw33SamplePartsX7, rLaw33SamplePartsX8, rLaw33SamplePartsX9, rLaw33SamplePartsX10, rLaw33SamplePartsX11, rLaw33SamplePartsX12, rLaw33SamplePartsX13, rLaw33SamplePartsX14, rLaw33SamplePartsX15, rLaw33SamplePartsX16, rLaw33SamplePartsX17, rLaw33SamplePartsX18, rLaw33SamplePartsX19, rLaw33SamplePartsX20, rLaw33SamplePartsX21, rLaw33SamplePartsX22, rLaw33SamplePartsX23, rLaw33SamplePartsX24, rLaw33SamplePartsX25, rLaw33SamplePartsX26, rLaw33SamplePartsX27, rLaw33SamplePartsX28, rLaw33SamplePartsX29, h1, hlt, hw, g3, g4, g5, q1, hL, sn, tk, tko, g6, LIM, idx, blk, eds_length, eds_get, edsAt, edAV, allLeaf_eds, cleanL_eds, cleanL_ints, ints_length, ints_get, intsAt, endL, finB]
end
def p2St (l : List Int) (a N : Nat) (Es A D : List Ed) (t x14 x16 x17 x18 x19 x20 : Int) (i : Nat) (J : Env) : St := ⟨(5, .int .i64 t) :: (14, .int .i64 x14) :: (15, .ptr 3 0) :: (16, .int .i64 x16) :: (17, .int .i64 x17) :: (18, .int .i64 x18) :: (19, .int .i64 x19) :: (20, .int .i64 x20) :: (92, .list 2 (eds A)) :: (93, .int .i64 A.length) :: (94, .int .i64 i) :: J, [dk l a, gP N Es, gP N A, gP N D]⟩
section
attribute [local simp] codeL_seq codeL_reg codeL_blk codeL_skip codeL_ret codeL_exit codeL_cnd condL_b thenL_n thenL_e thenL_r blkL_n blkL_e blkL_r regL_s opsB stepB opB opP opnd opnds lend lendC get_nil' get_cons' put_nil' put_cons' mem_nil' mem_cons' putdB putB slowP hasOwn hasOwnL finO relab anyB anyE anyH anyR borOf borL inSlot HAND endR hasOwnE endK keepIn trim noPtr noPtrL noPtrE noPtrH binA arith unA eqB isNilB eqc lenB bndB bnd rdN rdc AV.cells fillB peek ldOK AV.leaf allLeaf fz pl plL drawB allCW cwF okDrawB okPair Fq.ok dstOff wrOff notSlot noneIn apartR oldBoxes O.reads Kd.reads E.slot slots slotO slotsP List.getD pairIn nilL okRes clean cleanL resV resVs tupOf mkEnv partsBor doCallB inpB getArgs doCallO frzA frzV frzL minA minF cont ownAt at_ setAt rel dropS relC dropAll frzP frzAll firstBor borIn borC borS borE borH handTo mapSt mapE mapH mapB mapBL sw rt fb mvB mvRt seesP inRt isRoot rootOf boxOf seesB rootsL Am.rep ovw flatCells_ints allLeaf_ints flatCells el grp updE isNilB inpV inpL stB okL unA orcA bndB plL_ints fzL stBox inCells wrap0 wrap1 wrapm1 take_snoc BIGB marks boxZ ldLab cellOf cellN CELLM boxIn isCell apartC frzR frzRL frzS frzC frzCL
theorem p2_loop (l : List Int) (a N : Nat) (Es A D : List Ed) (hD : GOK (N : Int) D) (lA : A.length < 1000000) (lD : D.length < 1000000) (h : ∀ e ∈ A, e ∈ D) (t x14 x16 x17 x18 x19 x20 : Int) : ∀ (k i : Nat), i + k = A.length → codeL cfgS 0 (.loop lLaw33SamplePartsX2) (p2St l a N Es A D t x14 x16 x17 x18 x19 x20 i []) = some (.exit 4, p2St l a N Es A D t x14 x16 x17 x18 x19 x20 A.length [(95, .bool false)])
  | 0, i, hi => by
    obtain rfl : i = A.length := by omega
    refine loop_exit ?_
    unfold p2St lLaw33SamplePartsX2 dk gP
    generalize eds Es = Y at *
    generalize eds A = YA at *
    generalize eds D = YD at *
    simp [rLaw33SamplePartsX0, rLaw33SamplePartsX1, rLaw33SamplePartsX2, rLaw33SamplePartsX3, rLaw33SamplePartsX4, rLaw33SamplePartsX5, rLaw33SamplePartsX6, rLaw33SamplePartsX7, rLaw33SamplePartsX8, rLaw33SamplePartsX9, rLaw33SamplePartsX10, rLaw33SamplePartsX11, rLaw33SamplePartsX12, rLaw33SamplePartsX13, rLaw33SamplePartsX14, rLaw33SamplePartsX15, rLaw33SamplePartsX16, rLaw33SamplePartsX17, rLaw33SamplePartsX18, rLaw33SamplePartsX19, rLaw33SamplePartsX20, rLaw33SamplePartsX21, rLaw33SamplePartsX22, rLaw33SamplePartsX23, rLaw33SamplePartsX24, rLaw33SamplePartsX25, rLaw33SamplePartsX26, rLaw33SamplePartsX27, rLaw33SamplePartsX28, rLaw33SamplePartsX29, blk, eds_length, eds_get, edsAt, edAV, allLeaf_eds, cleanL_eds, cleanL_ints, ints_length, ints_get, intsAt, endL, finB]
  | k + 1, i, hi => by
    refine (loop_next ?_).trans (p2_loop l a N Es A D hD lA lD h t x14 x16 x17 x18 x19 x20 k (i + 1) (by omega))
    have hlt : i < A.length := by omega
    have h1 : (i : Int) < A.length := by omega
    have hw := wrapS (i := i) (by omega)
    have hm := h _ (List.getElem_mem hlt)
    have hb := hD.2.2 _ hm
    have g3 : (eds A)[i]? = some (.agg [.int .i64 A[i].1, .int .i64 A[i].2]) := by rw [eds_get, List.getElem?_eq_getElem hlt]; simp [edAV]
    have g4 : ∀ h, (eds A)[i]'h = .agg [.int .i64 A[i].1, .int .i64 A[i].2] := fun h => by
      have := List.getElem?_eq_getElem (l := eds A) h
      rw [g3] at this
      exact (Option.some.inj this).symm
    have g5 := eds_length A
    have fd := find_run (N : Int) D (by omega) hD A[i].1 A[i].2
    have nr : nrmE A[i].1 A[i].2 = A[i] := by unfold nrmE; rw [if_neg (by omega), if_pos hb.2.1]
    rw [nr, if_pos hm] at fd
    have n0 : ¬ ((D.idxOf A[i] : Nat) : Int) < 0 := by omega
    generalize D.idxOf A[i] = x at *
    generalize A[i].1 = u at *
    generalize A[i].2 = v at *
    unfold p2St lLaw33SamplePartsX2 dk gP
    generalize eds Es = Y at *
    generalize eds A = YA at *
    generalize eds D = YD at *
    simp [rLaw33SamplePartsX0, rLaw33SamplePartsX1, rLaw33SamplePartsX2, rLaw33SamplePartsX3, rLaw33SamplePartsX4, rLaw33SamplePartsX5, rLaw33SamplePartsX6, rLaw33SamplePartsX7, rLaw33SamplePartsX8, rLaw33SamplePartsX9, rLaw33SamplePartsX10, rLaw33SamplePartsX11, rLaw33SamplePartsX12, rLaw33SamplePartsX13, rLaw33SamplePartsX14, rLaw33SamplePartsX15, rLaw33SamplePartsX16, rLaw33SamplePartsX17, rLaw33SamplePartsX18, rLaw33SamplePartsX19, rLaw33SamplePartsX20, rLaw33SamplePartsX21, rLaw33SamplePartsX22, rLaw33SamplePartsX23, rLaw33SamplePartsX24, rLaw33SamplePartsX25, rLaw33SamplePartsX26, rLaw33SamplePartsX27, rLaw33SamplePartsX28, rLaw33SamplePartsX29, h1, hlt, hw, g3, g4, g5, fd, n0, idx, sRef03Find, iRef03Find, blk, eds_length, eds_get, edsAt, edAV, allLeaf_eds, cleanL_eds, cleanL_ints, ints_length, ints_get, intsAt, endL, finB]
end
theorem keep_all : ∀ (Es : List Ed), keepE (tru Es.length Es.length) Es = Es
  | [] => keepE_nil _
  | e :: r => by
    have ih := keep_all r
    unfold tru at ih ⊢
    simp only [List.length_cons, Nat.sub_self, List.replicate_zero, List.append_nil, List.replicate_succ] at ih ⊢
    rw [keepE_cons, ih]; rfl
theorem mono_zero {N : Nat} {Es : List Ed} (h : ∀ e ∈ Es, 0 ≤ e.1 ∧ e.1 < e.2 ∧ e.2 < (N : Int)) : monoE (List.replicate N 0) Es = Es := by
  unfold monoE
  rw [List.filter_eq_self]
  intro e he
  have := h e he
  have z : ∀ v : Int, 0 ≤ v → v < N → col (List.replicate N 0) v = 0 := fun v h0 h1 => by
    unfold col; rw [List.getD_eq_getElem?_getD, List.getElem?_replicate, if_pos (by omega)]; rfl
  rw [z _ (by omega) (by omega), z _ (by omega) (by omega)]
  rfl
theorem mono_half {N : Nat} {Es : List Ed} {c : List Int} (hc : c.length = N) (h : ∀ e ∈ Es, 0 ≤ e.1 ∧ e.1 < e.2 ∧ e.2 < (N : Int)) : ∀ e ∈ monoE c Es, e ∈ monoE (c.map (· / 2)) Es := by
  intro e he
  unfold monoE at he ⊢
  obtain ⟨h1, h2⟩ := List.mem_filter.1 he
  refine List.mem_filter.2 ⟨h1, ?_⟩
  have hb := h e h1
  have z : ∀ v : Int, 0 ≤ v → v < N → col (c.map (· / 2)) v = col c v / 2 := fun v h0 h1 => by
    unfold col
    rw [List.getD_eq_getElem?_getD, List.getD_eq_getElem?_getD, List.getElem?_map, List.getElem?_eq_getElem (by omega)]; rfl
  rw [z _ (by omega) (by omega), z _ (by omega) (by omega), of_decide_eq_true h2]
  simp
section
attribute [local simp] codeL_seq codeL_reg codeL_blk codeL_skip codeL_ret codeL_exit codeL_cnd condL_b thenL_n thenL_e thenL_r blkL_n blkL_e blkL_r regL_s opsB stepB opB opP opnd opnds lend lendC get_nil' get_cons' put_nil' put_cons' mem_nil' mem_cons' putdB putB slowP hasOwn hasOwnL finO relab anyB anyE anyH anyR borOf borL inSlot HAND endR hasOwnE endK keepIn trim noPtr noPtrL noPtrE noPtrH binA arith unA eqB isNilB eqc lenB bndB bnd rdN rdc AV.cells fillB peek ldOK AV.leaf allLeaf fz pl plL drawB allCW cwF okDrawB okPair Fq.ok dstOff wrOff notSlot noneIn apartR oldBoxes O.reads Kd.reads E.slot slots slotO slotsP List.getD pairIn nilL okRes clean cleanL resV resVs tupOf mkEnv partsBor doCallB inpB getArgs doCallO frzA frzV frzL minA minF cont ownAt at_ setAt rel dropS relC dropAll frzP frzAll firstBor borIn borC borS borE borH handTo mapSt mapE mapH mapB mapBL sw rt fb mvB mvRt seesP inRt isRoot rootOf boxOf seesB rootsL Am.rep ovw flatCells_ints allLeaf_ints flatCells el grp updE isNilB inpV inpL stB okL unA orcA bndB plL_ints fzL stBox inCells wrap0 wrap1 wrapm1 take_snoc BIGB marks boxZ ldLab cellOf cellN CELLM boxIn isCell apartC frzR frzRL frzS frzC frzCL
theorem parts_run (l : List Int) : callL cfgS nLaw33SampleParts [.list 1 (ints l)] [] = some (.bool true, []) := by
  rw [callL_end oLaw33SampleParts sLaw33SampleParts (Nat.le_of_ble_eq_true rfl)]
  have aw := awake33p
  have few := few_run l
  by_cases hl : (l.length : Int) ≤ 500
  case neg =>
    unfold qLaw33SampleParts cLaw33SampleParts
    simp [rLaw33SamplePartsX0, rLaw33SamplePartsX1, rLaw33SamplePartsX2, rLaw33SamplePartsX3, rLaw33SamplePartsX4, rLaw33SamplePartsX5, rLaw33SamplePartsX6, rLaw33SamplePartsX7, rLaw33SamplePartsX8, rLaw33SamplePartsX9, rLaw33SamplePartsX10, rLaw33SamplePartsX11, rLaw33SamplePartsX12, rLaw33SamplePartsX13, rLaw33SamplePartsX14, rLaw33SamplePartsX15, rLaw33SamplePartsX16, rLaw33SamplePartsX17, rLaw33SamplePartsX18, rLaw33SamplePartsX19, rLaw33SamplePartsX20, rLaw33SamplePartsX21, rLaw33SamplePartsX22, rLaw33SamplePartsX23, rLaw33SamplePartsX24, rLaw33SamplePartsX25, rLaw33SamplePartsX26, rLaw33SamplePartsX27, rLaw33SamplePartsX28, rLaw33SamplePartsX29, few, hl, aw, sMakeFew, iMakeFew, sLaw33Awake, iLaw33Awake, blk, eds_length, eds_get, edsAt, edAV, allLeaf_eds, cleanL_eds, cleanL_ints, ints_length, ints_get, intsAt, endL, finB]
  have hl5 : l.length ≤ 500 := by omega
  have n1 := new_run l
  obtain ⟨N, Es, a1, n2, hG, hN, hEl⟩ := graph_run l hl5 8 (by omega) 0
  have ct := count29_run hG (by omega)
  obtain ⟨c, a2, n3, hc, cb⟩ := numbers_run l hl5 N (by omega) 4 (by omega) [gP N Es] (rest_gP N Es) a1
  have l0 := p0_loop l a2 N Es (tri N Es) c Es.length (by omega) Es.length 0 (by omega)
  have l1 := p1_loop l a2 N Es (tri N Es) c (by omega) cb (bls (tru Es.length Es.length)) c.length 0 [] (by omega) (by simp)
  rw [List.drop_zero, List.nil_append] at l1
  have hh : (c.map (· / 2)).length = N := by rw [List.length_map]; exact hc
  have hA := gok_filter (fun e => decide (col c e.1 = col c e.2)) hG
  have hD := gok_filter (fun e => decide (col (c.map (· / 2)) e.1 = col (c.map (· / 2)) e.2)) hG
  have m1 := monoS_run hG (by omega) c hc 4 (by omega) cb
  have m2 := monoS_run hG (by omega) (c.map (· / 2)) hh 2 (by omega) (fun x hx => by
    obtain ⟨y, hy, rfl⟩ := List.mem_map.1 hx
    have := cb y hy
    omega)
  have m3 := byColours_run hG (by omega) (List.replicate N 0) (by simp) 1 (by omega) (fun x hx => by rw [List.eq_of_mem_replicate hx]; omega)
  rw [mono_zero hG.2.2, show (1 : Int) * 1 * (tri N Es : Int) = (tri N Es : Int) by omega] at m3
  have tb : tri N Es ≤ 100000000 := by
    have := triS_three hG
    have := triS_bd hG
    omega
  rw [wrapN (by omega)] at m3
  have m4 := byEdges_run hG (by omega) (tru Es.length Es.length) (tru_length (Nat.le_refl _))
  rw [keep_all] at m4
  have w8 : IntKind.i64.wrap (8 * (tri N Es : Int)) = 8 * (tri N Es : Int) := wrap_id (by omega) (by omega)
  rw [w8] at m4
  have l2 := p2_loop l a2 N Es (monoE c Es) (monoE (c.map (· / 2)) Es) hD (Nat.lt_of_le_of_lt (List.length_filter_le _ _) (by omega)) (Nat.lt_of_le_of_lt (List.length_filter_le _ _) (by omega)) (mono_half hc hG.2.2) (tri N Es) 0 0 (tri N Es) 0 (8 * (tri N Es : Int)) 0 (monoE c Es).length 0 (by omega)
  have rp : List.replicate N (AV.int .i64 0) = ints (List.replicate N 0) := by simp [ints]
  have rb : List.replicate Es.length (AV.bool false) = bls (tru Es.length 0) := by simp [bls, tru]
  have tkb : (bls (tru Es.length Es.length)).take Es.length = bls (tru Es.length Es.length) := List.take_of_length_le (by rw [bls_length, tru_length (Nat.le_refl _)]; omega)
  have tkb0 : (bls (tru Es.length 0)).take Es.length = bls (tru Es.length 0) := List.take_of_length_le (by rw [bls_length, tru_length (by omega)]; omega)
  have tkz : (ints (List.replicate N 0)).take N = ints (List.replicate N 0) := List.take_of_length_le (by rw [ints_length, List.length_replicate]; omega)
  have tkh : (ints (c.map (· / 2))).take c.length = ints (c.map (· / 2)) := List.take_of_length_le (by rw [ints_length, List.length_map]; omega)
  have tkh2 : (ints (c.map (· / 2))).take N = ints (c.map (· / 2)) := List.take_of_length_le (by rw [ints_length, List.length_map]; omega)
  have g1 := eds_length Es
  have g2 : (bls (tru Es.length Es.length)).length = Es.length := by rw [bls_length, tru_length (Nat.le_refl _)]
  have g3 : (bls (tru Es.length 0)).length = Es.length := by rw [bls_length, tru_length (by omega)]
  have g4 := ints_length c
  have g5 : (ints (c.map (· / 2))).length = N := by rw [ints_length, hh]
  have g6 : (ints (List.replicate N 0)).length = N := by rw [ints_length, List.length_replicate]
  have g7 := eds_length (monoE c Es)
  have q1 : (N : Int) ≤ 4294967296 := by omega
  have q2 : N ≤ 4294967296 := by omega
  have q3 : (Es.length : Int) ≤ 4294967296 := by omega
  have q4 : Es.length ≤ 4294967296 := by omega
  unfold p0St dk gP at l0
  rw [tru_length (Nat.zero_le _), tru_length (Nat.le_refl _)] at l0
  unfold p1St dk gP at l1
  unfold p2St dk gP at l2
  unfold dk gP at n3
  unfold dk at n1 n2
  rw [ints_nil] at l1
  simp only [nat0, show ((8 : Nat) : Int) = 8 from rfl] at n1 n2 l0 l1 l2
  rw [hc] at *
  unfold qLaw33SampleParts cLaw33SampleParts
  generalize monoE (c.map (· / 2)) Es = D at *
  generalize monoE c Es = A at *
  generalize (tri N Es : Int) = t at *
  generalize ints (c.map (· / 2)) = H2 at *
  generalize ints (List.replicate N 0) = Z0 at *
  generalize bls (tru Es.length Es.length) = B1 at *
  generalize bls (tru Es.length 0) = B0 at *
  generalize ints c = C at *
  generalize eds Es = Y at *
  generalize eds A = YA at *
  generalize eds D = YD at *
  clear hG hA hD
  simp [rLaw33SamplePartsX0, rLaw33SamplePartsX1, rLaw33SamplePartsX2, rLaw33SamplePartsX3, rLaw33SamplePartsX4, rLaw33SamplePartsX5, rLaw33SamplePartsX6, rLaw33SamplePartsX7, rLaw33SamplePartsX8, rLaw33SamplePartsX9, rLaw33SamplePartsX10, rLaw33SamplePartsX11, rLaw33SamplePartsX12, rLaw33SamplePartsX13, rLaw33SamplePartsX14, rLaw33SamplePartsX15, rLaw33SamplePartsX16, rLaw33SamplePartsX17, rLaw33SamplePartsX18, rLaw33SamplePartsX19, rLaw33SamplePartsX20, rLaw33SamplePartsX21, rLaw33SamplePartsX22, rLaw33SamplePartsX23, rLaw33SamplePartsX24, rLaw33SamplePartsX25, rLaw33SamplePartsX26, rLaw33SamplePartsX27, rLaw33SamplePartsX28, rLaw33SamplePartsX29, few, hl, n1, n2, n3, ct, l0, l1, l2, m1, m2, m3, m4, w8, rp, rb, tkb, tkb0, tkz, tkh, tkh2, g1, g2, g3, g4, g5, g6, g7, q1, q2, q3, q4, aw, LIM, sMakeFew, iMakeFew, sMakeNew, iMakeNew, sMakeGraph, iMakeGraph, sFieldNumbers, iFieldNumbers, sRef29Count, iRef29Count, sSampleMono, iSampleMono, sSampleByColours, iSampleByColours, sSampleByEdges, iSampleByEdges, sLaw33Awake, iLaw33Awake, plp, plpL, allB, notBox, swC, swS, seesC, inBox, relB, handBox, mvBB, mvRtB, offBoxes, offLab, calmB, ptrs, ptrsL, blkE, avE, avLE, blk, eds_length, eds_get, edsAt, edAV, allLeaf_eds, cleanL_eds, cleanL_ints, ints_length, ints_get, intsAt, endL, finB]
end
end Go.BmP
