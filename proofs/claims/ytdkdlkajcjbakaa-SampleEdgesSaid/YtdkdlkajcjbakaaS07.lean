/- The law of edges returns true. -/
import Derived.Test.YtdkdlkajcjbakaaS01
import Derived.Test.YtdkdlkajcjbakaaS06
import Derived.Test.YtdkdlkajcjbakaaL01
set_option linter.unusedSimpArgs false
set_option linter.unusedVariables false
set_option maxRecDepth 100000
set_option maxHeartbeats 4000000
namespace Go.BmP
open Go.Am Go.Bm
theorem awake33e : callL cfgS nLaw33Awake [] [] = some (.bool true, []) := callL_iff.2 ⟨3000, by kernel_rfl⟩
theorem and1 : ∀ x : Nat, x < 256 → bits .and .i64 ((x : Nat) : Int) 1 = ((x % 2 : Nat) : Int) := by decide +kernel
def gE (N : Nat) (Es : List Ed) : Blk := some [.int .i64 N, .list 2 (eds Es)]
def e0St (l : List Int) (a N : Nat) (Es : List Ed) (s : Int) (i : Nat) (bs : List Bool) (j : Nat) (J : Env) : St := ⟨(3, .ptr 1 0) :: (4, .int .i64 s) :: (5, .int .i64 i) :: (6, .own 1 (bls bs)) :: (38, .int .i64 Es.length) :: (39, .int .i64 j) :: J, [dk l a, gE N Es]⟩
theorem bts_succ (j i : Nat) : bts (j + 1) i = bts j i ++ [bt i j] := by simp [bts, List.range_succ]
theorem allLeaf_bls (l : List Bool) : allLeaf (flatCells (bls l)) = true := by
  induction l with
  | nil => rfl
  | cons x r ih => simp only [bls, List.map_cons, flatCells, AV.cells, List.cons_append, List.nil_append, allLeaf, AV.leaf, Bool.true_and] at ih ⊢; exact ih
section
attribute [local simp] codeL_seq codeL_reg codeL_blk codeL_skip codeL_ret codeL_exit codeL_cnd condL_b thenL_n thenL_e thenL_r blkL_n blkL_e blkL_r regL_s opsB stepB opB opP opnd opnds lend lendC get_nil' get_cons' put_nil' put_cons' mem_nil' mem_cons' putdB putB slowP hasOwn hasOwnL finO relab anyB anyE anyH anyR borOf borL inSlot HAND endR hasOwnE endK keepIn trim noPtr noPtrL noPtrE noPtrH binA arith unA eqB isNilB eqc lenB bndB bnd rdN rdc AV.cells fillB peek ldOK AV.leaf allLeaf fz pl plL drawB allCW cwF okDrawB okPair Fq.ok dstOff wrOff notSlot noneIn apartR oldBoxes O.reads Kd.reads E.slot slots slotO slotsP List.getD pairIn nilL okRes clean cleanL resV resVs tupOf mkEnv partsBor doCallB inpB getArgs doCallO frzA frzV frzL minA minF cont ownAt at_ setAt rel dropS relC dropAll frzP frzAll firstBor borIn borC borS borE borH handTo mapSt mapE mapH mapB mapBL sw rt fb mvB mvRt seesP inRt isRoot rootOf boxOf seesB rootsL Am.rep ovw flatCells_ints allLeaf_ints flatCells el grp updE isNilB inpV inpL stB okL unA orcA bndB plL_ints fzL stBox inCells wrap0 wrap1 wrapm1 take_snoc BIGB marks boxZ ldLab cellOf cellN CELLM boxIn isCell apartC frzR frzRL frzS frzC frzCL
theorem e0_loop (l : List Int) (a N : Nat) (Es : List Ed) (hm : Es.length ≤ 8) (s : Int) (i : Nat) (hi4 : i < 256) : ∀ (m j : Nat), j + m = Es.length → codeL cfgS 0 (.loop lLaw33SampleEdgesX0) (e0St l a N Es s i (bts j i) j []) = some (.exit 2, e0St l a N Es s i (bts Es.length i) Es.length [(40, .bool false)])
  | 0, j, hi => by
    obtain rfl : j = Es.length := by omega
    refine loop_exit ?_
    unfold lLaw33SampleEdgesX0 e0St dk gE
    generalize bls (bts Es.length i) = B at *
    generalize eds Es = Y at *
    simp [rLaw33SampleEdgesX0, rLaw33SampleEdgesX1, rLaw33SampleEdgesX2, rLaw33SampleEdgesX3, rLaw33SampleEdgesX4, rLaw33SampleEdgesX5, rLaw33SampleEdgesX6, rLaw33SampleEdgesX7, rLaw33SampleEdgesX8, rLaw33SampleEdgesX9, rLaw33SampleEdgesX10, rLaw33SampleEdgesX11, rLaw33SampleEdgesX12, rLaw33SampleEdgesX13, rLaw33SampleEdgesX14, rLaw33SampleEdgesX15, rLaw33SampleEdgesX16, rLaw33SampleEdgesX17, rLaw33SampleEdgesX18, rLaw33SampleEdgesX19, rLaw33SampleEdgesX20, rLaw33SampleEdgesX21, blk, eds_length, eds_get, edsAt, edAV, allLeaf_eds, cleanL_eds, cleanL_ints, ints_length, ints_get, intsAt, endL, finB]
  | m + 1, j, hi => by
    refine (loop_next ?_).trans (e0_loop l a N Es hm s i hi4 m (j + 1) (by omega))
    have h1 : (j : Int) < Es.length := by omega
    have hw := wrapS (i := j) (by omega)
    have w1 : IntKind.u64.wrap (j : Int) = (j : Int) := by simp [IntKind.wrap, IntKind.bits, IntKind.signed]; omega
    have hmin : min j IntKind.i64.bits = j := by show min j 64 = j; omega
    have j0 : ¬ (j : Int) < 0 := by omega
    have e1 : ((i : Nat) : Int).fdiv (2 ^ j) = ((i / 2 ^ j : Nat) : Int) := by
      rw [Int.fdiv_eq_ediv_of_nonneg _ (Int.pow_nonneg (by decide)), Int.natCast_ediv, Int.natCast_pow]; rfl
    have e2 := and1 (i / 2 ^ j) (Nat.lt_of_le_of_lt (Nat.div_le_self _ _) hi4)
    have e3 : (((i / 2 ^ j % 2 : Nat) : Int) == 1) = bt i j := by
      unfold bt
      by_cases q : i / 2 ^ j % 2 = 1
      · rw [q]; rfl
      · have : ¬ ((i / 2 ^ j % 2 : Nat) : Int) = 1 := by omega
        rw [decide_eq_false q]
        simpa using this
    have hL : j + 1 ≤ 4294967296 := by omega
    have g5 : (bls (bts j i)).length = j := by rw [bls_length, bts_length]
    have sn : bls (bts j i) ++ [.bool (bt i j)] = bls (bts (j + 1) i) := by rw [bts_succ]; simp [bls]
    have tk : (bls (bts (j + 1) i)).take (j + 1) = bls (bts (j + 1) i) := List.take_of_length_le (by rw [bls_length, bts_length]; omega)
    have tko : (bls (bts j i)).take j = bls (bts j i) := List.take_of_length_le (by rw [g5]; omega)
    generalize i / 2 ^ j % 2 = r at *
    generalize i / 2 ^ j = q at *
    generalize bt i j = b at *
    unfold lLaw33SampleEdgesX0 e0St dk gE
    generalize bls (bts (j + 1) i) = B2 at *
    generalize bls (bts j i) = B at *
    generalize eds Es = Y at *
    simp [rLaw33SampleEdgesX0, rLaw33SampleEdgesX1, rLaw33SampleEdgesX2, rLaw33SampleEdgesX3, rLaw33SampleEdgesX4, rLaw33SampleEdgesX5, rLaw33SampleEdgesX6, rLaw33SampleEdgesX7, rLaw33SampleEdgesX8, rLaw33SampleEdgesX9, rLaw33SampleEdgesX10, rLaw33SampleEdgesX11, rLaw33SampleEdgesX12, rLaw33SampleEdgesX13, rLaw33SampleEdgesX14, rLaw33SampleEdgesX15, rLaw33SampleEdgesX16, rLaw33SampleEdgesX17, rLaw33SampleEdgesX18, rLaw33SampleEdgesX19, rLaw33SampleEdgesX20, rLaw33SampleEdgesX21, h1, hw, w1, hmin, j0, e1, e2, e3, hL, g5, sn, tk, tko, LIM, blk, eds_length, eds_get, edsAt, edAV, allLeaf_eds, cleanL_eds, cleanL_ints, ints_length, ints_get, intsAt, endL, finB]
end
def e1St (l : List Int) (a N : Nat) (Es : List Ed) (s : Int) (i : Nat) (J : Env) : St := ⟨(3, .ptr 1 0) :: (4, .int .i64 s) :: (5, .int .i64 i) :: J, [dk l a, gE N Es]⟩
theorem tri_bdE {n : Nat} (E : List Ed) (hn : n ≤ 9) : tri n E ≤ 729 := by
  unfold tri trip
  have z : ∀ u v w, ad E u v * ad E u w * ad E v w ≤ 1 := fun u v w => by
    unfold ad; split <;> split <;> split <;> omega
  have s1 : ∀ (f : Nat → Nat) (c n : Nat), (∀ i, i < n → f i ≤ c) → sm n f ≤ n * c := fun f c n => by
    induction n with
    | zero => intro _; simp [sm]
    | succ k ih =>
      intro h
      have := ih fun i hi => h i (by omega)
      have := h k (by omega)
      rw [sm, Nat.add_mul]; omega
  refine Nat.le_trans (s1 _ 81 n fun w hw => Nat.le_trans (s1 _ 9 w fun v hv => Nat.le_trans (s1 _ 1 v fun u hu => z u v w) (by omega)) (by omega)) (by omega)
/-- One list's estimate. -/
def es8 (N : Nat) (Es : List Ed) (i : Nat) : Nat := 8 * tri N (keepE (bts Es.length i) Es)
theorem shl_facts (m : Nat) (hm : m ≤ 8) : (min m IntKind.i64.bits = m ∧ ¬ (m : Int) < 0) ∧ IntKind.u64.wrap (m : Int) = (m : Int) ∧ (2 : Int) ^ m = ((2 ^ m : Nat) : Int) ∧ 2 ^ m ≤ 256 := by
  refine ⟨⟨by show min m 64 = m; omega, by omega⟩, by simp [IntKind.wrap, IntKind.bits, IntKind.signed]; omega, by rw [Int.natCast_pow]; rfl, ?_⟩
  exact Nat.le_trans (Nat.pow_le_pow_right (by omega) hm) (by decide)
section
attribute [local simp] codeL_seq codeL_reg codeL_blk codeL_skip codeL_ret codeL_exit codeL_cnd condL_b thenL_n thenL_e thenL_r blkL_n blkL_e blkL_r regL_s opsB stepB opB opP opnd opnds lend lendC get_nil' get_cons' put_nil' put_cons' mem_nil' mem_cons' putdB putB slowP hasOwn hasOwnL finO relab anyB anyE anyH anyR borOf borL inSlot HAND endR hasOwnE endK keepIn trim noPtr noPtrL noPtrE noPtrH binA arith unA eqB isNilB eqc lenB bndB bnd rdN rdc AV.cells fillB peek ldOK AV.leaf allLeaf fz pl plL drawB allCW cwF okDrawB okPair Fq.ok dstOff wrOff notSlot noneIn apartR oldBoxes O.reads Kd.reads E.slot slots slotO slotsP List.getD pairIn nilL okRes clean cleanL resV resVs tupOf mkEnv partsBor doCallB inpB getArgs doCallO frzA frzV frzL minA minF cont ownAt at_ setAt rel dropS relC dropAll frzP frzAll firstBor borIn borC borS borE borH handTo mapSt mapE mapH mapB mapBL sw rt fb mvB mvRt seesP inRt isRoot rootOf boxOf seesB rootsL Am.rep ovw flatCells_ints allLeaf_ints flatCells el grp updE isNilB inpV inpL stB okL unA orcA bndB plL_ints fzL stBox inCells wrap0 wrap1 wrapm1 take_snoc BIGB marks boxZ ldLab cellOf cellN CELLM boxIn isCell apartC frzR frzRL frzS frzC frzCL
theorem e1_loop (l : List Int) (a N : Nat) (hN : N ≤ 5) (Es : List Ed) (hG : GOK (N : Int) Es) (hm : Es.length ≤ 8) : ∀ (m i : Nat), i + m = 2 ^ Es.length → codeL cfgS 0 (.loop lLaw33SampleEdgesX1) (e1St l a N Es (sm i (es8 N Es) : Nat) i []) = some (.exit 0, e1St l a N Es (sm (2 ^ Es.length) (es8 N Es) : Nat) (2 ^ Es.length) [(33, .bool false)])
  | 0, i, hi => by
    obtain ⟨⟨m1, m0⟩, m2, m3, m4⟩ := shl_facts Es.length hm
    obtain rfl : i = 2 ^ Es.length := by omega
    have w2 : IntKind.i64.wrap ((2 ^ Es.length : Nat) : Int) = ((2 ^ Es.length : Nat) : Int) := wrapN (Nat.lt_of_le_of_lt m4 (by decide))
    have g5 := eds_length Es
    refine loop_exit ?_
    unfold lLaw33SampleEdgesX1 e1St dk gE
    generalize 2 ^ Es.length = p at *
    generalize sm p (es8 N Es) = s at *
    generalize eds Es = Y at *
    simp [rLaw33SampleEdgesX0, rLaw33SampleEdgesX1, rLaw33SampleEdgesX2, rLaw33SampleEdgesX3, rLaw33SampleEdgesX4, rLaw33SampleEdgesX5, rLaw33SampleEdgesX6, rLaw33SampleEdgesX7, rLaw33SampleEdgesX8, rLaw33SampleEdgesX9, rLaw33SampleEdgesX10, rLaw33SampleEdgesX11, rLaw33SampleEdgesX12, rLaw33SampleEdgesX13, rLaw33SampleEdgesX14, rLaw33SampleEdgesX15, rLaw33SampleEdgesX16, rLaw33SampleEdgesX17, rLaw33SampleEdgesX18, rLaw33SampleEdgesX19, rLaw33SampleEdgesX20, rLaw33SampleEdgesX21, m0, m1, m2, m3, w2, g5, blk, eds_length, eds_get, edsAt, edAV, allLeaf_eds, cleanL_eds, cleanL_ints, ints_length, ints_get, intsAt, endL, finB]
  | m + 1, i, hi => by
    refine (loop_next ?_).trans (e1_loop l a N hN Es hG hm m (i + 1) (by omega))
    obtain ⟨⟨m1, m0⟩, m2, m3, m4⟩ := shl_facts Es.length hm
    have h1 : (i : Int) < ((2 ^ Es.length : Nat) : Int) := by omega
    have hw := wrapS (i := i) (by omega)
    have w2 : IntKind.i64.wrap ((2 ^ Es.length : Nat) : Int) = ((2 ^ Es.length : Nat) : Int) := wrapN (Nat.lt_of_le_of_lt m4 (by decide))
    have lp := e0_loop l a N Es hm (sm i (es8 N Es) : Nat) i (by omega) Es.length 0 (by omega)
    rw [show bts 0 i = [] from rfl] at lp
    have bc := byEdges_run hG (by omega) (bts Es.length i) (bts_length _ _)
    have tb := tri_bdE (n := N) (keepE (bts Es.length i) Es) (by omega)
    have we : IntKind.i64.wrap (8 * ((tri N (keepE (bts Es.length i) Es) : Nat) : Int)) = (es8 N Es i : Nat) := by
      rw [show 8 * ((tri N (keepE (bts Es.length i) Es) : Nat) : Int) = ((es8 N Es i : Nat) : Int) by unfold es8; omega]
      exact wrapN (by unfold es8; omega)
    rw [we] at bc
    have eb : ∀ j, es8 N Es j ≤ 5832 := fun j => by
      have := tri_bdE (n := N) (keepE (bts Es.length j) Es) (by omega)
      unfold es8; omega
    have sb : ∀ n, sm n (es8 N Es) ≤ n * 5832 := fun n => by
      induction n with
      | zero => simp [sm]
      | succ j ih => have := eb j; rw [sm]; omega
    have sb1 := sb (i + 1)
    rw [sm] at sb1
    have ws : IntKind.i64.wrap (((sm i (es8 N Es) : Nat) : Int) + (es8 N Es i : Nat)) = (sm (i + 1) (es8 N Es) : Nat) := by rw [wrap_id (by omega) (by omega), sm]; omega
    have tk : (bls (bts Es.length i)).take Es.length = bls (bts Es.length i) := List.take_of_length_le (by rw [bls_length, bts_length]; omega)
    have g5 := eds_length Es
    have g6 : (bls (bts Es.length i)).length = Es.length := by rw [bls_length, bts_length]
    unfold e0St dk gE at lp
    rw [nat0, show bls [] = [] from rfl] at lp
    unfold lLaw33SampleEdgesX1 e1St dk gE
    generalize 2 ^ Es.length = p at *
    generalize sm (i + 1) (es8 N Es) = s2 at *
    generalize sm i (es8 N Es) = s at *
    generalize es8 N Es i = e at *
    generalize bls (bts Es.length i) = B at *
    generalize eds Es = Y at *
    simp [rLaw33SampleEdgesX0, rLaw33SampleEdgesX1, rLaw33SampleEdgesX2, rLaw33SampleEdgesX3, rLaw33SampleEdgesX4, rLaw33SampleEdgesX5, rLaw33SampleEdgesX6, rLaw33SampleEdgesX7, rLaw33SampleEdgesX8, rLaw33SampleEdgesX9, rLaw33SampleEdgesX10, rLaw33SampleEdgesX11, rLaw33SampleEdgesX12, rLaw33SampleEdgesX13, rLaw33SampleEdgesX14, rLaw33SampleEdgesX15, rLaw33SampleEdgesX16, rLaw33SampleEdgesX17, rLaw33SampleEdgesX18, rLaw33SampleEdgesX19, rLaw33SampleEdgesX20, rLaw33SampleEdgesX21, h1, hw, m0, m1, m2, m3, w2, lp, bc, ws, tk, g5, g6, sSampleByEdges, iSampleByEdges, plp, plpL, allB, notBox, swC, seesC, inBox, blk, eds_length, eds_get, edsAt, edAV, allLeaf_eds, cleanL_eds, cleanL_ints, ints_length, ints_get, intsAt, endL, finB]
end
theorem edges_tail (l : List Int) (a N : Nat) (hN : N ≤ 5) (Es : List Ed) (hG : GOK (N : Int) Es) (hm : Es.length ≤ 8) : ∃ p : Nat, codeL cfgS 0 (.loop lLaw33SampleEdgesX1) (e1St l a N Es 0 0 []) = some (.exit 0, e1St l a N Es ((p * tri N Es : Nat) : Int) p [(33, .bool false)]) ∧ (2 : Int) ^ Es.length = (p : Int) ∧ p ≤ 256 := by
  have h := e1_loop l a N hN Es hG hm (2 ^ Es.length) 0 (by omega)
  have law : sm (2 ^ Es.length) (es8 N Es) = 2 ^ Es.length * tri N Es := edges_law hG hm
  rw [law] at h
  obtain ⟨⟨m1, m0⟩, m2, m3, m4⟩ := shl_facts Es.length hm
  exact ⟨2 ^ Es.length, h, m3, m4⟩
section
attribute [local simp] codeL_seq codeL_reg codeL_blk codeL_skip codeL_ret codeL_exit codeL_cnd condL_b thenL_n thenL_e thenL_r blkL_n blkL_e blkL_r regL_s opsB stepB opB opP opnd opnds lend lendC get_nil' get_cons' put_nil' put_cons' mem_nil' mem_cons' putdB putB slowP hasOwn hasOwnL finO relab anyB anyE anyH anyR borOf borL inSlot HAND endR hasOwnE endK keepIn trim noPtr noPtrL noPtrE noPtrH binA arith unA eqB isNilB eqc lenB bndB bnd rdN rdc AV.cells fillB peek ldOK AV.leaf allLeaf fz pl plL drawB allCW cwF okDrawB okPair Fq.ok dstOff wrOff notSlot noneIn apartR oldBoxes O.reads Kd.reads E.slot slots slotO slotsP List.getD pairIn nilL okRes clean cleanL resV resVs tupOf mkEnv partsBor doCallB inpB getArgs doCallO frzA frzV frzL minA minF cont ownAt at_ setAt rel dropS relC dropAll frzP frzAll firstBor borIn borC borS borE borH handTo mapSt mapE mapH mapB mapBL sw rt fb mvB mvRt seesP inRt isRoot rootOf boxOf seesB rootsL Am.rep ovw flatCells_ints allLeaf_ints flatCells el grp updE isNilB inpV inpL stB okL unA orcA bndB plL_ints fzL stBox inCells wrap0 wrap1 wrapm1 take_snoc BIGB marks boxZ ldLab cellOf cellN CELLM boxIn isCell apartC frzR frzRL frzS frzC frzCL
theorem edges_run (l : List Int) : callL cfgS nLaw33SampleEdges [.list 1 (ints l)] [] = some (.bool true, []) := by
  rw [callL_end oLaw33SampleEdges sLaw33SampleEdges (Nat.le_of_ble_eq_true rfl)]
  have aw := awake33e
  have few := few_run l
  by_cases hl : (l.length : Int) ≤ 500
  case neg =>
    unfold qLaw33SampleEdges cLaw33SampleEdges
    simp [rLaw33SampleEdgesX0, rLaw33SampleEdgesX1, rLaw33SampleEdgesX2, rLaw33SampleEdgesX3, rLaw33SampleEdgesX4, rLaw33SampleEdgesX5, rLaw33SampleEdgesX6, rLaw33SampleEdgesX7, rLaw33SampleEdgesX8, rLaw33SampleEdgesX9, rLaw33SampleEdgesX10, rLaw33SampleEdgesX11, rLaw33SampleEdgesX12, rLaw33SampleEdgesX13, rLaw33SampleEdgesX14, rLaw33SampleEdgesX15, rLaw33SampleEdgesX16, rLaw33SampleEdgesX17, rLaw33SampleEdgesX18, rLaw33SampleEdgesX19, rLaw33SampleEdgesX20, rLaw33SampleEdgesX21, few, hl, aw, sMakeFew, iMakeFew, sLaw33Awake, iLaw33Awake, blk, eds_length, eds_get, edsAt, edAV, allLeaf_eds, cleanL_eds, cleanL_ints, ints_length, ints_get, intsAt, endL, finB]
  have hl5 : l.length ≤ 500 := by omega
  have n1 := new_run l
  obtain ⟨N, Es, a1, n2, hG, hN, hEl⟩ := graph_run l hl5 5 (by omega) 0
  have fin : ∀ F : List Ed, F = Es.take 8 → GOK (N : Int) F ∧ F.length ≤ 8 := fun F e => by
    subst e
    exact ⟨gok_sub hG (List.take_sublist _ _), by simp; omega⟩
  have g5 := eds_length Es
  unfold dk at n1 n2
  simp only [nat0, show ((5 : Nat) : Int) = 5 from rfl] at n1 n2
  by_cases h8 : (8 : Int) < Es.length
  · obtain ⟨hF, lF⟩ := fin (Es.take 8) rfl
    obtain ⟨p, lp, pw, pb⟩ := edges_tail l a1 N hN (Es.take 8) hF lF
    have ct := count29_run hF (by omega)
    have tb := tri_bdE (n := N) (Es.take 8) (by omega)
    have fl : (Es.take 8).length = 8 := by rw [List.length_take]; omega
    have tk : (eds Es).take 8 = eds (Es.take 8) := eds_take Es 8
    rw [fl] at pw
    have mb : p * tri N (Es.take 8) ≤ 256 * 729 := Nat.mul_le_mul pb tb
    have w1 : IntKind.i64.wrap (((tri N (Es.take 8) : Nat) : Int) * (p : Int)) = ((p * tri N (Es.take 8) : Nat) : Int) := by
      rw [← Int.natCast_mul, Nat.mul_comm]; exact wrapN (Nat.lt_of_le_of_lt mb (by decide))
    have p256 : (p : Int) = 256 := by rw [← pw]; rfl
    have s8 : IntKind.u64.wrap 8 = 8 := by decide
    have b8 : min 8 IntKind.i64.bits = 8 := by decide
    rw [p256] at w1
    have g6 : (eds (Es.take 8)).length = 8 := by rw [eds_length, fl]
    have l8 : (8 : Int) ≤ Es.length := by omega
    unfold e1St dk gE at lp
    rw [nat0] at lp
    unfold qLaw33SampleEdges cLaw33SampleEdges
    generalize p * tri N (Es.take 8) = t3 at *
    generalize tri N (Es.take 8) = t at *
    generalize eds (Es.take 8) = YF at *
    generalize eds Es = Y at *
    clear fin hG hF
    simp [rLaw33SampleEdgesX0, rLaw33SampleEdgesX1, rLaw33SampleEdgesX2, rLaw33SampleEdgesX3, rLaw33SampleEdgesX4, rLaw33SampleEdgesX5, rLaw33SampleEdgesX6, rLaw33SampleEdgesX7, rLaw33SampleEdgesX8, rLaw33SampleEdgesX9, rLaw33SampleEdgesX10, rLaw33SampleEdgesX11, rLaw33SampleEdgesX12, rLaw33SampleEdgesX13, rLaw33SampleEdgesX14, rLaw33SampleEdgesX15, rLaw33SampleEdgesX16, rLaw33SampleEdgesX17, rLaw33SampleEdgesX18, rLaw33SampleEdgesX19, rLaw33SampleEdgesX20, rLaw33SampleEdgesX21, few, hl, n1, n2, h8, l8, s8, b8, lp, ct, w1, tk, g5, g6, aw, sMakeFew, iMakeFew, sMakeNew, iMakeNew, sMakeGraph, iMakeGraph, sRef29Count, iRef29Count, sLaw33Awake, iLaw33Awake, plp, plpL, allB, notBox, swC, swS, seesC, inBox, relB, handBox, mvBB, mvRtB, blk, eds_length, eds_get, edsAt, edAV, allLeaf_eds, cleanL_eds, cleanL_ints, ints_length, ints_get, intsAt, endL, finB]
  · have hm : Es.length ≤ 8 := by omega
    obtain ⟨p, lp, pw, pb⟩ := edges_tail l a1 N hN Es hG hm
    have ct := count29_run hG (by omega)
    have tb := tri_bdE (n := N) Es (by omega)
    obtain ⟨⟨m1, m0⟩, m2, m3, m4⟩ := shl_facts Es.length hm
    have mb : p * tri N Es ≤ 256 * 729 := Nat.mul_le_mul pb tb
    have w1 : IntKind.i64.wrap (((tri N Es : Nat) : Int) * (p : Int)) = ((p * tri N Es : Nat) : Int) := by
      rw [← Int.natCast_mul, Nat.mul_comm]; exact wrapN (Nat.lt_of_le_of_lt mb (by decide))
    unfold e1St dk gE at lp
    rw [nat0] at lp
    clear m3 m4
    unfold qLaw33SampleEdges cLaw33SampleEdges
    generalize p * tri N Es = t3 at *
    generalize tri N Es = t at *
    generalize eds Es = Y at *
    clear fin hG
    simp [rLaw33SampleEdgesX0, rLaw33SampleEdgesX1, rLaw33SampleEdgesX2, rLaw33SampleEdgesX3, rLaw33SampleEdgesX4, rLaw33SampleEdgesX5, rLaw33SampleEdgesX6, rLaw33SampleEdgesX7, rLaw33SampleEdgesX8, rLaw33SampleEdgesX9, rLaw33SampleEdgesX10, rLaw33SampleEdgesX11, rLaw33SampleEdgesX12, rLaw33SampleEdgesX13, rLaw33SampleEdgesX14, rLaw33SampleEdgesX15, rLaw33SampleEdgesX16, rLaw33SampleEdgesX17, rLaw33SampleEdgesX18, rLaw33SampleEdgesX19, rLaw33SampleEdgesX20, rLaw33SampleEdgesX21, few, hl, n1, n2, h8, lp, ct, m0, m1, m2, pw, w1, g5, aw, sMakeFew, iMakeFew, sMakeNew, iMakeNew, sMakeGraph, iMakeGraph, sRef29Count, iRef29Count, sLaw33Awake, iLaw33Awake, plp, plpL, allB, notBox, swC, swS, seesC, inBox, relB, handBox, mvBB, mvRtB, blk, eds_length, eds_get, edsAt, edAV, allLeaf_eds, cleanL_eds, cleanL_ints, ints_length, ints_get, intsAt, endL, finB]
end
end Go.BmP
