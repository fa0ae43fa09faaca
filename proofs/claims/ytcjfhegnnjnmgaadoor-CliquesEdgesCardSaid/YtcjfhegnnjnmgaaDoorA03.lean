/- The law of an edge more: its loops. -/
import Derived.Test.YtcjfhegnnjnmgaaDoorAddP
import Derived.Test.YtcjfhegnnjnmgaaDoorA02
import Derived.Test.YtcjfhegnnjnmgaaDoorL01
import Derived.Test.YtcjfhegnnjnmgaaDoorH18
import Derived.Test.YtcjfhegnnjnmgaaDoorR02d
set_option linter.unusedSimpArgs false
set_option linter.unusedVariables false
set_option maxRecDepth 100000
set_option maxHeartbeats 4000000
namespace Go.BmP
open Go.Am Go.Bm
theorem awake24 : callL cfgS nLaw24Awake [] [] = some (.bool true, []) := callL_iff.2 ⟨3000, by kernel_rfl⟩
def c0St (u v : Int) (A B : List (List Int)) (i : Nat) (S : List Int) (f : Bool) (j : Nat) (J : Env) : St := ⟨(5, .int .i64 u) :: (6, .int .i64 v) :: (9, .list 1 (lls A)) :: (10, .int .i64 0) :: (11, .list 1 (lls B)) :: (12, .int .i64 0) :: (14, .list 1 (ints S)) :: (15, .bool f) :: (55, .list 1 (lls B)) :: (56, .int .i64 B.length) :: (57, .int .i64 i) :: (61, .list 1 (lls A)) :: (62, .int .i64 A.length) :: (63, .int .i64 j) :: J, []⟩
section
attribute [local simp] codeL_seq codeL_reg codeL_blk codeL_skip codeL_ret codeL_exit codeL_cnd condL_b thenL_n thenL_e thenL_r blkL_n blkL_e blkL_r regL_s opsB stepB opB opP opnd opnds lend lendC get_nil' get_cons' put_nil' put_cons' mem_nil' mem_cons' putdB putB slowP hasOwn hasOwnL finO relab anyB anyE anyH anyR borOf borL inSlot HAND endR hasOwnE endK keepIn trim noPtr noPtrL noPtrE noPtrH binA arith unA eqB isNilB eqc lenB bndB bnd rdN rdc AV.cells fillB peek ldOK AV.leaf allLeaf fz pl plL drawB allCW cwF okDrawB okPair Fq.ok dstOff wrOff notSlot noneIn apartR oldBoxes O.reads Kd.reads E.slot slots slotO slotsP List.getD pairIn nilL okRes clean cleanL resV resVs tupOf mkEnv partsBor doCallB inpB getArgs doCallO frzA frzV frzL minA minF cont ownAt at_ setAt rel dropS relC dropAll frzP frzAll firstBor borIn borC borS borE borH handTo mapSt mapE mapH mapB mapBL sw rt fb mvB mvRt seesP inRt isRoot rootOf boxOf seesB rootsL Am.rep ovw flatCells_ints allLeaf_ints flatCells el grp updE isNilB inpV inpL stB okL unA orcA bndB plL_ints fzL stBox inCells wrap0 wrap1 wrapm1 take_snoc BIGB marks boxZ ldLab cellOf cellN CELLM boxIn isCell apartC frzR frzRL frzS frzC frzCL
theorem c0_round (u v : Int) (A B : List (List Int)) (i : Nat) (S : List Int) (hS : S.length ≤ 64) (hA : A.length ≤ 4096) (j : Nat) (hlt : j < A.length) (hb : A[j].length ≤ 64) (f : Bool) : codeL cfgS 0 lLaw24CliquesEdgesX0 (c0St u v A B i S f j []) = some (.normal, c0St u v A B i S (f || decide (S = A[j])) (j + 1) []) := by
  have h1 : (j : Int) < A.length := by omega
  have hw := wrapS (i := j) (by omega)
  have i1 := idx_lt (k := .i64) (i := (j : Int)) (n := A.length) (by omega) h1
  have g1 : ∀ h, (lls A)[j]'h = AV.list 1 (ints A[j]) := fun h => llsAt ..
  have g2 := lls_length A
  have g3 : (lls A)[j]? = some (.list 1 (ints A[j])) := by rw [lls_get, List.getElem?_eq_getElem hlt]; rfl
  have cm := cmp_run S A[j] (by omega) (by omega)
  have cz : (cmpL S A[j] = 0) = (S = A[j]) := propext cmpL_zero
  unfold c0St lLaw24CliquesEdgesX0
  cases f with
  | true =>
    generalize lls B = XB at *
    generalize lls A = XA at *
    simp [rLaw24CliquesEdgesX0, rLaw24CliquesEdgesX1, rLaw24CliquesEdgesX2, rLaw24CliquesEdgesX3, rLaw24CliquesEdgesX4, rLaw24CliquesEdgesX5, rLaw24CliquesEdgesX6, rLaw24CliquesEdgesX7, rLaw24CliquesEdgesX8, rLaw24CliquesEdgesX9, rLaw24CliquesEdgesX10, rLaw24CliquesEdgesX11, rLaw24CliquesEdgesX12, rLaw24CliquesEdgesX13, rLaw24CliquesEdgesX14, rLaw24CliquesEdgesX15, rLaw24CliquesEdgesX16, rLaw24CliquesEdgesX17, rLaw24CliquesEdgesX18, rLaw24CliquesEdgesX19, rLaw24CliquesEdgesX20, rLaw24CliquesEdgesX21, rLaw24CliquesEdgesX22, rLaw24CliquesEdgesX23, rLaw24CliquesEdgesX24, rLaw24CliquesEdgesX25, rLaw24CliquesEdgesX26, rLaw24CliquesEdgesX27, rLaw24CliquesEdgesX28, rLaw24CliquesEdgesX29, rLaw24CliquesEdgesX30, rLaw24CliquesEdgesX31, rLaw24CliquesEdgesX32, rLaw24CliquesEdgesX33, rLaw24CliquesEdgesX34, rLaw24CliquesEdgesX35, h1, hlt, hw, i1, g1, g2, g3, blk, eds_length, eds_get, edsAt, edAV, allLeaf_eds, cleanL_eds, cleanL_ints, ints_length, ints_get, intsAt, endL, finB]
  | false =>
    generalize lls B = XB at *
    generalize lls A = XA at *
    generalize A[j] = U at *
    have cl := cleanL_ints S
    simp [rLaw24CliquesEdgesX0, rLaw24CliquesEdgesX1, rLaw24CliquesEdgesX2, rLaw24CliquesEdgesX3, rLaw24CliquesEdgesX4, rLaw24CliquesEdgesX5, rLaw24CliquesEdgesX6, rLaw24CliquesEdgesX7, rLaw24CliquesEdgesX8, rLaw24CliquesEdgesX9, rLaw24CliquesEdgesX10, rLaw24CliquesEdgesX11, rLaw24CliquesEdgesX12, rLaw24CliquesEdgesX13, rLaw24CliquesEdgesX14, rLaw24CliquesEdgesX15, rLaw24CliquesEdgesX16, rLaw24CliquesEdgesX17, rLaw24CliquesEdgesX18, rLaw24CliquesEdgesX19, rLaw24CliquesEdgesX20, rLaw24CliquesEdgesX21, rLaw24CliquesEdgesX22, rLaw24CliquesEdgesX23, rLaw24CliquesEdgesX24, rLaw24CliquesEdgesX25, rLaw24CliquesEdgesX26, rLaw24CliquesEdgesX27, rLaw24CliquesEdgesX28, rLaw24CliquesEdgesX29, rLaw24CliquesEdgesX30, rLaw24CliquesEdgesX31, rLaw24CliquesEdgesX32, rLaw24CliquesEdgesX33, rLaw24CliquesEdgesX34, rLaw24CliquesEdgesX35, h1, hlt, hw, i1, g1, g2, g3, cm, cz, beqI, sRef02Cmp, iRef02Cmp, eRef02Cmp, blk, eds_length, eds_get, edsAt, edAV, allLeaf_eds, cleanL_eds, cleanL_ints, ints_length, ints_get, intsAt, endL, finB]
theorem c0_loop (u v : Int) (A B : List (List Int)) (i : Nat) (S : List Int) (hS : S.length ≤ 64) (hA : A.length ≤ 4096) (hb : ∀ T ∈ A, T.length ≤ 64) : ∀ (k j : Nat) (f : Bool), j + k = A.length → codeL cfgS 0 (.loop lLaw24CliquesEdgesX0) (c0St u v A B i S f j []) = some (.exit 2, c0St u v A B i S (f || decide (S ∈ A.drop j)) A.length [(64, .bool false)])
  | 0, j, f, hi => by
    obtain rfl : j = A.length := by omega
    have e : (f || decide (S ∈ A.drop A.length)) = f := by simp
    rw [e]
    refine loop_exit ?_
    unfold c0St lLaw24CliquesEdgesX0
    generalize lls B = XB at *
    generalize lls A = XA at *
    simp [rLaw24CliquesEdgesX0, rLaw24CliquesEdgesX1, rLaw24CliquesEdgesX2, rLaw24CliquesEdgesX3, rLaw24CliquesEdgesX4, rLaw24CliquesEdgesX5, rLaw24CliquesEdgesX6, rLaw24CliquesEdgesX7, rLaw24CliquesEdgesX8, rLaw24CliquesEdgesX9, rLaw24CliquesEdgesX10, rLaw24CliquesEdgesX11, rLaw24CliquesEdgesX12, rLaw24CliquesEdgesX13, rLaw24CliquesEdgesX14, rLaw24CliquesEdgesX15, rLaw24CliquesEdgesX16, rLaw24CliquesEdgesX17, rLaw24CliquesEdgesX18, rLaw24CliquesEdgesX19, rLaw24CliquesEdgesX20, rLaw24CliquesEdgesX21, rLaw24CliquesEdgesX22, rLaw24CliquesEdgesX23, rLaw24CliquesEdgesX24, rLaw24CliquesEdgesX25, rLaw24CliquesEdgesX26, rLaw24CliquesEdgesX27, rLaw24CliquesEdgesX28, rLaw24CliquesEdgesX29, rLaw24CliquesEdgesX30, rLaw24CliquesEdgesX31, rLaw24CliquesEdgesX32, rLaw24CliquesEdgesX33, rLaw24CliquesEdgesX34, rLaw24CliquesEdgesX35, blk, eds_length, eds_get, edsAt, edAV, allLeaf_eds, cleanL_eds, cleanL_ints, ints_length, ints_get, intsAt, endL, finB]
  | k + 1, j, f, hi => by
    have hlt : j < A.length := by omega
    refine (loop_next (c0_round u v A B i S hS hA j hlt (hb _ (List.getElem_mem hlt)) f)).trans ((c0_loop u v A B i S hS hA hb k (j + 1) _ (by omega)).trans ?_)
    have e : (f || decide (S = A[j]) || decide (S ∈ A.drop (j + 1))) = (f || decide (S ∈ A.drop j)) := by
      rw [List.drop_eq_getElem_cons hlt, Bool.or_assoc, ← Bool.decide_or]
      congr 1
      rw [decide_eq_decide, List.mem_cons]
    rw [e]
end
def c1St (u v : Int) (A B : List (List Int)) (i : Nat) (J : Env) : St := ⟨(5, .int .i64 u) :: (6, .int .i64 v) :: (9, .list 1 (lls A)) :: (10, .int .i64 0) :: (11, .list 1 (lls B)) :: (12, .int .i64 0) :: (55, .list 1 (lls B)) :: (56, .int .i64 B.length) :: (57, .int .i64 i) :: J, []⟩
section
attribute [local simp] codeL_seq codeL_reg codeL_blk codeL_skip codeL_ret codeL_exit codeL_cnd condL_b thenL_n thenL_e thenL_r blkL_n blkL_e blkL_r regL_s opsB stepB opB opP opnd opnds lend lendC get_nil' get_cons' put_nil' put_cons' mem_nil' mem_cons' putdB putB slowP hasOwn hasOwnL finO relab anyB anyE anyH anyR borOf borL inSlot HAND endR hasOwnE endK keepIn trim noPtr noPtrL noPtrE noPtrH binA arith unA eqB isNilB eqc lenB bndB bnd rdN rdc AV.cells fillB peek ldOK AV.leaf allLeaf fz pl plL drawB allCW cwF okDrawB okPair Fq.ok dstOff wrOff notSlot noneIn apartR oldBoxes O.reads Kd.reads E.slot slots slotO slotsP List.getD pairIn nilL okRes clean cleanL resV resVs tupOf mkEnv partsBor doCallB inpB getArgs doCallO frzA frzV frzL minA minF cont ownAt at_ setAt rel dropS relC dropAll frzP frzAll firstBor borIn borC borS borE borH handTo mapSt mapE mapH mapB mapBL sw rt fb mvB mvRt seesP inRt isRoot rootOf boxOf seesB rootsL Am.rep ovw flatCells_ints allLeaf_ints flatCells el grp updE isNilB inpV inpL stB okL unA orcA bndB plL_ints fzL stBox inCells wrap0 wrap1 wrapm1 take_snoc BIGB marks boxZ ldLab cellOf cellN CELLM boxIn isCell apartC frzR frzRL frzS frzC frzCL
theorem c1_loop (u v : Int) (A B : List (List Int)) (hA : A.length ≤ 4096) (hB : B.length ≤ 4096) (ha : ∀ T ∈ A, T.length ≤ 64) (hb : ∀ T ∈ B, T.length ≤ 64) (hno : ∀ S ∈ B, S ∈ A ↔ ¬ (u ∈ S ∧ v ∈ S)) : ∀ (k i : Nat), i + k = B.length → codeL cfgS 0 (.loop lLaw24CliquesEdgesX1) (c1St u v A B i []) = some (.exit 0, c1St u v A B B.length [(58, .bool false)])
  | 0, i, hi => by
    obtain rfl : i = B.length := by omega
    refine loop_exit ?_
    unfold c1St lLaw24CliquesEdgesX1
    generalize lls B = XB at *
    generalize lls A = XA at *
    simp [rLaw24CliquesEdgesX0, rLaw24CliquesEdgesX1, rLaw24CliquesEdgesX2, rLaw24CliquesEdgesX3, rLaw24CliquesEdgesX4, rLaw24CliquesEdgesX5, rLaw24CliquesEdgesX6, rLaw24CliquesEdgesX7, rLaw24CliquesEdgesX8, rLaw24CliquesEdgesX9, rLaw24CliquesEdgesX10, rLaw24CliquesEdgesX11, rLaw24CliquesEdgesX12, rLaw24CliquesEdgesX13, rLaw24CliquesEdgesX14, rLaw24CliquesEdgesX15, rLaw24CliquesEdgesX16, rLaw24CliquesEdgesX17, rLaw24CliquesEdgesX18, rLaw24CliquesEdgesX19, rLaw24CliquesEdgesX20, rLaw24CliquesEdgesX21, rLaw24CliquesEdgesX22, rLaw24CliquesEdgesX23, rLaw24CliquesEdgesX24, rLaw24CliquesEdgesX25, rLaw24CliquesEdgesX26, rLaw24CliquesEdgesX27, rLaw24CliquesEdgesX28, rLaw24CliquesEdgesX29, rLaw24CliquesEdgesX30, rLaw24CliquesEdgesX31, rLaw24CliquesEdgesX32, rLaw24CliquesEdgesX33, rLaw24CliquesEdgesX34, rLaw24CliquesEdgesX35, blk, eds_length, eds_get, edsAt, edAV, allLeaf_eds, cleanL_eds, cleanL_ints, ints_length, ints_get, intsAt, endL, finB]
  | k + 1, i, hi => by
    have hlt : i < B.length := by omega
    have h1 : (i : Int) < B.length := by omega
    have hw := wrapS (i := i) (by omega)
    refine (loop_next ?_).trans (c1_loop u v A B hA hB ha hb hno k (i + 1) (by omega))
    have i1 := idx_lt (k := .i64) (i := (i : Int)) (n := B.length) (by omega) h1
    have g1 : ∀ h, (lls B)[i]'h = AV.list 1 (ints B[i]) := fun h => llsAt ..
    have g2 := lls_length B
    have g3 : (lls B)[i]? = some (.list 1 (ints B[i])) := by rw [lls_get, List.getElem?_eq_getElem hlt]; rfl
    have lS := hb _ (List.getElem_mem hlt)
    have no := hno _ (List.getElem_mem hlt)
    have lp := c0_loop u v A B i B[i] lS hA ha A.length 0 false (by omega)
    rw [List.drop_zero, Bool.false_or] at lp
    have hu := has_run u B[i] (by omega)
    have hv := has_run v B[i] (by omega)
    have gA := lls_length A
    unfold c0St at lp
    rw [nat0] at lp
    unfold c1St lLaw24CliquesEdgesX1
    generalize lls B = XB at *
    generalize lls A = XA at *
    generalize B[i] = S at *
    by_cases ku : u ∈ S
    · by_cases kv : v ∈ S
      · have nA : ¬ S ∈ A := fun h => no.1 h ⟨ku, kv⟩
        rw [decide_eq_true ku] at hu
        rw [decide_eq_true kv] at hv
        rw [decide_eq_false nA] at lp
        clear no
        generalize ints S = SS at *
        simp [rLaw24CliquesEdgesX0, rLaw24CliquesEdgesX1, rLaw24CliquesEdgesX2, rLaw24CliquesEdgesX3, rLaw24CliquesEdgesX4, rLaw24CliquesEdgesX5, rLaw24CliquesEdgesX6, rLaw24CliquesEdgesX7, rLaw24CliquesEdgesX8, rLaw24CliquesEdgesX9, rLaw24CliquesEdgesX10, rLaw24CliquesEdgesX11, rLaw24CliquesEdgesX12, rLaw24CliquesEdgesX13, rLaw24CliquesEdgesX14, rLaw24CliquesEdgesX15, rLaw24CliquesEdgesX16, rLaw24CliquesEdgesX17, rLaw24CliquesEdgesX18, rLaw24CliquesEdgesX19, rLaw24CliquesEdgesX20, rLaw24CliquesEdgesX21, rLaw24CliquesEdgesX22, rLaw24CliquesEdgesX23, rLaw24CliquesEdgesX24, rLaw24CliquesEdgesX25, rLaw24CliquesEdgesX26, rLaw24CliquesEdgesX27, rLaw24CliquesEdgesX28, rLaw24CliquesEdgesX29, rLaw24CliquesEdgesX30, rLaw24CliquesEdgesX31, rLaw24CliquesEdgesX32, rLaw24CliquesEdgesX33, rLaw24CliquesEdgesX34, rLaw24CliquesEdgesX35, h1, hlt, hw, i1, g1, g2, g3, gA, lp, hu, hv, sRef02Has, iRef02Has, eRef02Has, blk, eds_length, eds_get, edsAt, edAV, allLeaf_eds, cleanL_eds, cleanL_ints, ints_length, ints_get, intsAt, endL, finB]
      · have nA : S ∈ A := no.2 fun h => kv h.2
        rw [decide_eq_true ku] at hu
        rw [decide_eq_false kv] at hv
        rw [decide_eq_true nA] at lp
        clear no
        generalize ints S = SS at *
        simp [rLaw24CliquesEdgesX0, rLaw24CliquesEdgesX1, rLaw24CliquesEdgesX2, rLaw24CliquesEdgesX3, rLaw24CliquesEdgesX4, rLaw24CliquesEdgesX5, rLaw24CliquesEdgesX6, rLaw24CliquesEdgesX7, rLaw24CliquesEdgesX8, rLaw24CliquesEdgesX9, rLaw24CliquesEdgesX10, rLaw24CliquesEdgesX11, rLaw24CliquesEdgesX12, rLaw24CliquesEdgesX13, rLaw24CliquesEdgesX14, rLaw24CliquesEdgesX15, rLaw24CliquesEdgesX16, rLaw24CliquesEdgesX17, rLaw24CliquesEdgesX18, rLaw24CliquesEdgesX19, rLaw24CliquesEdgesX20, rLaw24CliquesEdgesX21, rLaw24CliquesEdgesX22, rLaw24CliquesEdgesX23, rLaw24CliquesEdgesX24, rLaw24CliquesEdgesX25, rLaw24CliquesEdgesX26, rLaw24CliquesEdgesX27, rLaw24CliquesEdgesX28, rLaw24CliquesEdgesX29, rLaw24CliquesEdgesX30, rLaw24CliquesEdgesX31, rLaw24CliquesEdgesX32, rLaw24CliquesEdgesX33, rLaw24CliquesEdgesX34, rLaw24CliquesEdgesX35, h1, hlt, hw, i1, g1, g2, g3, gA, lp, hu, hv, sRef02Has, iRef02Has, eRef02Has, blk, eds_length, eds_get, edsAt, edAV, allLeaf_eds, cleanL_eds, cleanL_ints, ints_length, ints_get, intsAt, endL, finB]
    · have nA : S ∈ A := no.2 fun h => ku h.1
      rw [decide_eq_false ku] at hu
      rw [decide_eq_true nA] at lp
      clear no
      generalize ints S = SS at *
      simp [rLaw24CliquesEdgesX0, rLaw24CliquesEdgesX1, rLaw24CliquesEdgesX2, rLaw24CliquesEdgesX3, rLaw24CliquesEdgesX4, rLaw24CliquesEdgesX5, rLaw24CliquesEdgesX6, rLaw24CliquesEdgesX7, rLaw24CliquesEdgesX8, rLaw24CliquesEdgesX9, rLaw24CliquesEdgesX10, rLaw24CliquesEdgesX11, rLaw24CliquesEdgesX12, rLaw24CliquesEdgesX13, rLaw24CliquesEdgesX14, rLaw24CliquesEdgesX15, rLaw24CliquesEdgesX16, rLaw24CliquesEdgesX17, rLaw24CliquesEdgesX18, rLaw24CliquesEdgesX19, rLaw24CliquesEdgesX20, rLaw24CliquesEdgesX21, rLaw24CliquesEdgesX22, rLaw24CliquesEdgesX23, rLaw24CliquesEdgesX24, rLaw24CliquesEdgesX25, rLaw24CliquesEdgesX26, rLaw24CliquesEdgesX27, rLaw24CliquesEdgesX28, rLaw24CliquesEdgesX29, rLaw24CliquesEdgesX30, rLaw24CliquesEdgesX31, rLaw24CliquesEdgesX32, rLaw24CliquesEdgesX33, rLaw24CliquesEdgesX34, rLaw24CliquesEdgesX35, h1, hlt, hw, i1, g1, g2, g3, gA, lp, hu, hv, sRef02Has, iRef02Has, eRef02Has, blk, eds_length, eds_get, edsAt, edAV, allLeaf_eds, cleanL_eds, cleanL_ints, ints_length, ints_get, intsAt, endL, finB]
end
def c2St (A B : List (List Int)) (i : Nat) (S : List Int) (f : Bool) (j : Nat) (J : Env) : St := ⟨(10, .int .i64 0) :: (11, .list 1 (lls B)) :: (12, .int .i64 0) :: (19, .list 1 (ints S)) :: (20, .bool f) :: (86, .list 1 (lls A)) :: (87, .int .i64 A.length) :: (88, .int .i64 i) :: (92, .list 1 (lls B)) :: (93, .int .i64 B.length) :: (94, .int .i64 j) :: J, []⟩
def inAny (S : List Int) (B : List (List Int)) : Bool := B.any fun T => S.all fun x => decide (x ∈ T)
section
attribute [local simp] codeL_seq codeL_reg codeL_blk codeL_skip codeL_ret codeL_exit codeL_cnd condL_b thenL_n thenL_e thenL_r blkL_n blkL_e blkL_r regL_s opsB stepB opB opP opnd opnds lend lendC get_nil' get_cons' put_nil' put_cons' mem_nil' mem_cons' putdB putB slowP hasOwn hasOwnL finO relab anyB anyE anyH anyR borOf borL inSlot HAND endR hasOwnE endK keepIn trim noPtr noPtrL noPtrE noPtrH binA arith unA eqB isNilB eqc lenB bndB bnd rdN rdc AV.cells fillB peek ldOK AV.leaf allLeaf fz pl plL drawB allCW cwF okDrawB okPair Fq.ok dstOff wrOff notSlot noneIn apartR oldBoxes O.reads Kd.reads E.slot slots slotO slotsP List.getD pairIn nilL okRes clean cleanL resV resVs tupOf mkEnv partsBor doCallB inpB getArgs doCallO frzA frzV frzL minA minF cont ownAt at_ setAt rel dropS relC dropAll frzP frzAll firstBor borIn borC borS borE borH handTo mapSt mapE mapH mapB mapBL sw rt fb mvB mvRt seesP inRt isRoot rootOf boxOf seesB rootsL Am.rep ovw flatCells_ints allLeaf_ints flatCells el grp updE isNilB inpV inpL stB okL unA orcA bndB plL_ints fzL stBox inCells wrap0 wrap1 wrapm1 take_snoc BIGB marks boxZ ldLab cellOf cellN CELLM boxIn isCell apartC frzR frzRL frzS frzC frzCL
theorem c2_loop (A B : List (List Int)) (i : Nat) (S : List Int) (hS : S.length ≤ 64) (hB : B.length ≤ 4096) (hb : ∀ T ∈ B, T.length ≤ 64) : ∀ (k j : Nat) (f : Bool), j + k = B.length → codeL cfgS 0 (.loop lLaw24CliquesEdgesX2) (c2St A B i S f j []) = some (.exit 6, c2St A B i S (f || inAny S (B.drop j)) B.length [(95, .bool false)])
  | 0, j, f, hi => by
    obtain rfl : j = B.length := by omega
    have e : (f || inAny S (B.drop B.length)) = f := by simp [inAny]
    rw [e]
    refine loop_exit ?_
    unfold c2St lLaw24CliquesEdgesX2
    generalize lls B = XB at *
    generalize lls A = XA at *
    simp [rLaw24CliquesEdgesX0, rLaw24CliquesEdgesX1, rLaw24CliquesEdgesX2, rLaw24CliquesEdgesX3, rLaw24CliquesEdgesX4, rLaw24CliquesEdgesX5, rLaw24CliquesEdgesX6, rLaw24CliquesEdgesX7, rLaw24CliquesEdgesX8, rLaw24CliquesEdgesX9, rLaw24CliquesEdgesX10, rLaw24CliquesEdgesX11, rLaw24CliquesEdgesX12, rLaw24CliquesEdgesX13, rLaw24CliquesEdgesX14, rLaw24CliquesEdgesX15, rLaw24CliquesEdgesX16, rLaw24CliquesEdgesX17, rLaw24CliquesEdgesX18, rLaw24CliquesEdgesX19, rLaw24CliquesEdgesX20, rLaw24CliquesEdgesX21, rLaw24CliquesEdgesX22, rLaw24CliquesEdgesX23, rLaw24CliquesEdgesX24, rLaw24CliquesEdgesX25, rLaw24CliquesEdgesX26, rLaw24CliquesEdgesX27, rLaw24CliquesEdgesX28, rLaw24CliquesEdgesX29, rLaw24CliquesEdgesX30, rLaw24CliquesEdgesX31, rLaw24CliquesEdgesX32, rLaw24CliquesEdgesX33, rLaw24CliquesEdgesX34, rLaw24CliquesEdgesX35, blk, eds_length, eds_get, edsAt, edAV, allLeaf_eds, cleanL_eds, cleanL_ints, ints_length, ints_get, intsAt, endL, finB]
  | k + 1, j, f, hi => by
    have hlt : j < B.length := by omega
    have h1 : (j : Int) < B.length := by omega
    have hw := wrapS (i := j) (by omega)
    have ih := c2_loop A B i S hS hB hb k (j + 1) (f || S.all fun x => decide (x ∈ B[j])) (by omega)
    have e : (f || (S.all fun x => decide (x ∈ B[j])) || inAny S (B.drop (j + 1))) = (f || inAny S (B.drop j)) := by
      rw [List.drop_eq_getElem_cons hlt, Bool.or_assoc]; rfl
    rw [e] at ih
    refine (loop_next ?_).trans ih
    clear ih e
    have i1 := idx_lt (k := .i64) (i := (j : Int)) (n := B.length) (by omega) h1
    have g1 : ∀ h, (lls B)[j]'h = AV.list 1 (ints B[j]) := fun h => llsAt ..
    have g2 := lls_length B
    have g3 : (lls B)[j]? = some (.list 1 (ints B[j])) := by rw [lls_get, List.getElem?_eq_getElem hlt]; rfl
    have lT := hb _ (List.getElem_mem hlt)
    have wt := within_run S B[j] (by omega) (by omega)
    generalize (S.all fun x => decide (x ∈ B[j])) = q at *
    generalize B[j] = T at *
    unfold c2St lLaw24CliquesEdgesX2
    cases f with
    | true =>
      generalize lls B = XB at *
      generalize lls A = XA at *
      simp [rLaw24CliquesEdgesX0, rLaw24CliquesEdgesX1, rLaw24CliquesEdgesX2, rLaw24CliquesEdgesX3, rLaw24CliquesEdgesX4, rLaw24CliquesEdgesX5, rLaw24CliquesEdgesX6, rLaw24CliquesEdgesX7, rLaw24CliquesEdgesX8, rLaw24CliquesEdgesX9, rLaw24CliquesEdgesX10, rLaw24CliquesEdgesX11, rLaw24CliquesEdgesX12, rLaw24CliquesEdgesX13, rLaw24CliquesEdgesX14, rLaw24CliquesEdgesX15, rLaw24CliquesEdgesX16, rLaw24CliquesEdgesX17, rLaw24CliquesEdgesX18, rLaw24CliquesEdgesX19, rLaw24CliquesEdgesX20, rLaw24CliquesEdgesX21, rLaw24CliquesEdgesX22, rLaw24CliquesEdgesX23, rLaw24CliquesEdgesX24, rLaw24CliquesEdgesX25, rLaw24CliquesEdgesX26, rLaw24CliquesEdgesX27, rLaw24CliquesEdgesX28, rLaw24CliquesEdgesX29, rLaw24CliquesEdgesX30, rLaw24CliquesEdgesX31, rLaw24CliquesEdgesX32, rLaw24CliquesEdgesX33, rLaw24CliquesEdgesX34, rLaw24CliquesEdgesX35, h1, hlt, hw, i1, g1, g2, g3, blk, eds_length, eds_get, edsAt, edAV, allLeaf_eds, cleanL_eds, cleanL_ints, ints_length, ints_get, intsAt, endL, finB]
    | false =>
      generalize lls B = XB at *
      generalize lls A = XA at *
      generalize ints T = TT at *
      generalize ints S = SS at *
      simp [rLaw24CliquesEdgesX0, rLaw24CliquesEdgesX1, rLaw24CliquesEdgesX2, rLaw24CliquesEdgesX3, rLaw24CliquesEdgesX4, rLaw24CliquesEdgesX5, rLaw24CliquesEdgesX6, rLaw24CliquesEdgesX7, rLaw24CliquesEdgesX8, rLaw24CliquesEdgesX9, rLaw24CliquesEdgesX10, rLaw24CliquesEdgesX11, rLaw24CliquesEdgesX12, rLaw24CliquesEdgesX13, rLaw24CliquesEdgesX14, rLaw24CliquesEdgesX15, rLaw24CliquesEdgesX16, rLaw24CliquesEdgesX17, rLaw24CliquesEdgesX18, rLaw24CliquesEdgesX19, rLaw24CliquesEdgesX20, rLaw24CliquesEdgesX21, rLaw24CliquesEdgesX22, rLaw24CliquesEdgesX23, rLaw24CliquesEdgesX24, rLaw24CliquesEdgesX25, rLaw24CliquesEdgesX26, rLaw24CliquesEdgesX27, rLaw24CliquesEdgesX28, rLaw24CliquesEdgesX29, rLaw24CliquesEdgesX30, rLaw24CliquesEdgesX31, rLaw24CliquesEdgesX32, rLaw24CliquesEdgesX33, rLaw24CliquesEdgesX34, rLaw24CliquesEdgesX35, h1, hlt, hw, i1, g1, g2, g3, wt, sRef02Within, iRef02Within, eRef02Within, blk, eds_length, eds_get, edsAt, edAV, allLeaf_eds, cleanL_eds, cleanL_ints, ints_length, ints_get, intsAt, endL, finB]
end
def c3St (A B : List (List Int)) (i : Nat) (J : Env) : St := ⟨(10, .int .i64 0) :: (11, .list 1 (lls B)) :: (12, .int .i64 0) :: (86, .list 1 (lls A)) :: (87, .int .i64 A.length) :: (88, .int .i64 i) :: J, []⟩
section
attribute [local simp] codeL_seq codeL_reg codeL_blk codeL_skip codeL_ret codeL_exit codeL_cnd condL_b thenL_n thenL_e thenL_r blkL_n blkL_e blkL_r regL_s opsB stepB opB opP opnd opnds lend lendC get_nil' get_cons' put_nil' put_cons' mem_nil' mem_cons' putdB putB slowP hasOwn hasOwnL finO relab anyB anyE anyH anyR borOf borL inSlot HAND endR hasOwnE endK keepIn trim noPtr noPtrL noPtrE noPtrH binA arith unA eqB isNilB eqc lenB bndB bnd rdN rdc AV.cells fillB peek ldOK AV.leaf allLeaf fz pl plL drawB allCW cwF okDrawB okPair Fq.ok dstOff wrOff notSlot noneIn apartR oldBoxes O.reads Kd.reads E.slot slots slotO slotsP List.getD pairIn nilL okRes clean cleanL resV resVs tupOf mkEnv partsBor doCallB inpB getArgs doCallO frzA frzV frzL minA minF cont ownAt at_ setAt rel dropS relC dropAll frzP frzAll firstBor borIn borC borS borE borH handTo mapSt mapE mapH mapB mapBL sw rt fb mvB mvRt seesP inRt isRoot rootOf boxOf seesB rootsL Am.rep ovw flatCells_ints allLeaf_ints flatCells el grp updE isNilB inpV inpL stB okL unA orcA bndB plL_ints fzL stBox inCells wrap0 wrap1 wrapm1 take_snoc BIGB marks boxZ ldLab cellOf cellN CELLM boxIn isCell apartC frzR frzRL frzS frzC frzCL
theorem c3_loop (A B : List (List Int)) (hA : A.length ≤ 4096) (hB : B.length ≤ 4096) (ha : ∀ T ∈ A, T.length ≤ 64) (hb : ∀ T ∈ B, T.length ≤ 64) (hk : ∀ S ∈ A, inAny S B = true) : ∀ (k i : Nat), i + k = A.length → codeL cfgS 0 (.loop lLaw24CliquesEdgesX3) (c3St A B i []) = some (.exit 4, c3St A B A.length [(89, .bool false)])
  | 0, i, hi => by
    obtain rfl : i = A.length := by omega
    refine loop_exit ?_
    unfold c3St lLaw24CliquesEdgesX3
    generalize lls B = XB at *
    generalize lls A = XA at *
    simp [rLaw24CliquesEdgesX0, rLaw24CliquesEdgesX1, rLaw24CliquesEdgesX2, rLaw24CliquesEdgesX3, rLaw24CliquesEdgesX4, rLaw24CliquesEdgesX5, rLaw24CliquesEdgesX6, rLaw24CliquesEdgesX7, rLaw24CliquesEdgesX8, rLaw24CliquesEdgesX9, rLaw24CliquesEdgesX10, rLaw24CliquesEdgesX11, rLaw24CliquesEdgesX12, rLaw24CliquesEdgesX13, rLaw24CliquesEdgesX14, rLaw24CliquesEdgesX15, rLaw24CliquesEdgesX16, rLaw24CliquesEdgesX17, rLaw24CliquesEdgesX18, rLaw24CliquesEdgesX19, rLaw24CliquesEdgesX20, rLaw24CliquesEdgesX21, rLaw24CliquesEdgesX22, rLaw24CliquesEdgesX23, rLaw24CliquesEdgesX24, rLaw24CliquesEdgesX25, rLaw24CliquesEdgesX26, rLaw24CliquesEdgesX27, rLaw24CliquesEdgesX28, rLaw24CliquesEdgesX29, rLaw24CliquesEdgesX30, rLaw24CliquesEdgesX31, rLaw24CliquesEdgesX32, rLaw24CliquesEdgesX33, rLaw24CliquesEdgesX34, rLaw24CliquesEdgesX35, blk, eds_length, eds_get, edsAt, edAV, allLeaf_eds, cleanL_eds, cleanL_ints, ints_length, ints_get, intsAt, endL, finB]
  | k + 1, i, hi => by
    have hlt : i < A.length := by omega
    have h1 : (i : Int) < A.length := by omega
    have hw := wrapS (i := i) (by omega)
    refine (loop_next ?_).trans (c3_loop A B hA hB ha hb hk k (i + 1) (by omega))
    have i1 := idx_lt (k := .i64) (i := (i : Int)) (n := A.length) (by omega) h1
    have g1 : ∀ h, (lls A)[i]'h = AV.list 1 (ints A[i]) := fun h => llsAt ..
    have g2 := lls_length A
    have g3 : (lls A)[i]? = some (.list 1 (ints A[i])) := by rw [lls_get, List.getElem?_eq_getElem hlt]; rfl
    have lS := ha _ (List.getElem_mem hlt)
    have lp := c2_loop A B i A[i] lS hB hb B.length 0 false (by omega)
    rw [List.drop_zero, Bool.false_or, hk _ (List.getElem_mem hlt)] at lp
    unfold c2St at lp
    rw [nat0] at lp
    have gB := lls_length B
    unfold c3St lLaw24CliquesEdgesX3
    generalize lls B = XB at *
    generalize lls A = XA at *
    generalize A[i] = S at *
    generalize ints S = SS at *
    simp [rLaw24CliquesEdgesX0, rLaw24CliquesEdgesX1, rLaw24CliquesEdgesX2, rLaw24CliquesEdgesX3, rLaw24CliquesEdgesX4, rLaw24CliquesEdgesX5, rLaw24CliquesEdgesX6, rLaw24CliquesEdgesX7, rLaw24CliquesEdgesX8, rLaw24CliquesEdgesX9, rLaw24CliquesEdgesX10, rLaw24CliquesEdgesX11, rLaw24CliquesEdgesX12, rLaw24CliquesEdgesX13, rLaw24CliquesEdgesX14, rLaw24CliquesEdgesX15, rLaw24CliquesEdgesX16, rLaw24CliquesEdgesX17, rLaw24CliquesEdgesX18, rLaw24CliquesEdgesX19, rLaw24CliquesEdgesX20, rLaw24CliquesEdgesX21, rLaw24CliquesEdgesX22, rLaw24CliquesEdgesX23, rLaw24CliquesEdgesX24, rLaw24CliquesEdgesX25, rLaw24CliquesEdgesX26, rLaw24CliquesEdgesX27, rLaw24CliquesEdgesX28, rLaw24CliquesEdgesX29, rLaw24CliquesEdgesX30, rLaw24CliquesEdgesX31, rLaw24CliquesEdgesX32, rLaw24CliquesEdgesX33, rLaw24CliquesEdgesX34, rLaw24CliquesEdgesX35, h1, hlt, hw, i1, g1, g2, g3, gB, lp, blk, eds_length, eds_get, edsAt, edAV, allLeaf_eds, cleanL_eds, cleanL_ints, ints_length, ints_get, intsAt, endL, finB]
end
end Go.BmP
