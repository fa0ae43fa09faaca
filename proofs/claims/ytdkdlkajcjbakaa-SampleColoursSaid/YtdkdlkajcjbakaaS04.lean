/- The law of colours returns true. -/
import Derived.Test.YtdkdlkajcjbakaaS01
import Derived.Test.YtdkdlkajcjbakaaS03
import Derived.Test.YtdkdlkajcjbakaaL01
set_option linter.unusedSimpArgs false
set_option linter.unusedVariables false
set_option maxRecDepth 100000
set_option maxHeartbeats 4000000
namespace Go.BmP
open Go.Am Go.Bm
theorem awake33 : callL cfgS nLaw33Awake [] [] = some (.bool true, []) := callL_iff.2 ⟨3000, by kernel_rfl⟩
def gC (N : Nat) (Es : List Ed) : Blk := some [.int .i64 N, .list 2 (eds Es)]
def c0St (l : List Int) (a N : Nat) (Es : List Ed) (k p v : Nat) (J : Env) : St := ⟨(5, .ptr 1 0) :: (6, .int .i64 k) :: (7, .int .i64 p) :: (8, .int .i64 v) :: J, [dk l a, gC N Es]⟩
section
attribute [local simp] codeL_seq codeL_reg codeL_blk codeL_skip codeL_ret codeL_exit codeL_cnd condL_b thenL_n thenL_e thenL_r blkL_n blkL_e blkL_r regL_s opsB stepB opB opP opnd opnds lend lendC get_nil' get_cons' put_nil' put_cons' mem_nil' mem_cons' putdB putB slowP hasOwn hasOwnL finO relab anyB anyE anyH anyR borOf borL inSlot HAND endR hasOwnE endK keepIn trim noPtr noPtrL noPtrE noPtrH binA arith unA eqB isNilB eqc lenB bndB bnd rdN rdc AV.cells fillB peek ldOK AV.leaf allLeaf fz pl plL drawB allCW cwF okDrawB okPair Fq.ok dstOff wrOff notSlot noneIn apartR oldBoxes O.reads Kd.reads E.slot slots slotO slotsP List.getD pairIn nilL okRes clean cleanL resV resVs tupOf mkEnv partsBor doCallB inpB getArgs doCallO frzA frzV frzL minA minF cont ownAt at_ setAt rel dropS relC dropAll frzP frzAll firstBor borIn borC borS borE borH handTo mapSt mapE mapH mapB mapBL sw rt fb mvB mvRt seesP inRt isRoot rootOf boxOf seesB rootsL Am.rep ovw flatCells_ints allLeaf_ints flatCells el grp updE isNilB inpV inpL stB okL unA orcA bndB plL_ints fzL stBox inCells wrap0 wrap1 wrapm1 take_snoc BIGB marks boxZ ldLab cellOf cellN CELLM boxIn isCell apartC frzR frzRL frzS frzC frzCL
theorem c0_loop (l : List Int) (a N : Nat) (hN : N ≤ 5) (Es : List Ed) (k : Nat) (hk : 1 ≤ k ∧ k ≤ 3) : ∀ (m v : Nat), v + m = N → codeL cfgS 0 (.loop lLaw33SampleColoursX0) (c0St l a N Es k (k ^ v) v []) = some (.exit 0, c0St l a N Es k (k ^ N) N [(32, .bool false)])
  | 0, v, hi => by
    obtain rfl : v = N := by omega
    refine loop_exit ?_
    unfold lLaw33SampleColoursX0 c0St dk gC
    generalize k ^ v = p at *
    simp [rLaw33SampleColoursX0, rLaw33SampleColoursX1, rLaw33SampleColoursX2, rLaw33SampleColoursX3, rLaw33SampleColoursX4, rLaw33SampleColoursX5, rLaw33SampleColoursX6, rLaw33SampleColoursX7, rLaw33SampleColoursX8, rLaw33SampleColoursX9, rLaw33SampleColoursX10, rLaw33SampleColoursX11, rLaw33SampleColoursX12, rLaw33SampleColoursX13, rLaw33SampleColoursX14, rLaw33SampleColoursX15, rLaw33SampleColoursX16, rLaw33SampleColoursX17, rLaw33SampleColoursX18, rLaw33SampleColoursX19, rLaw33SampleColoursX20, rLaw33SampleColoursX21, rLaw33SampleColoursX22, rLaw33SampleColoursX23, rLaw33SampleColoursX24, rLaw33SampleColoursX25, rLaw33SampleColoursX26, blk, eds_length, eds_get, edsAt, edAV, allLeaf_eds, cleanL_eds, cleanL_ints, ints_length, ints_get, intsAt, endL, finB]
  | m + 1, v, hi => by
    refine (loop_next ?_).trans (c0_loop l a N hN Es k hk m (v + 1) (by omega))
    have h1 : (v : Int) < N := by omega
    have hw := wrapS (i := v) (by omega)
    have pb : k ^ (v + 1) ≤ 3 ^ 5 := Nat.le_trans (Nat.pow_le_pow_left hk.2 _) (Nat.pow_le_pow_right (by omega) (by omega))
    have w1 : IntKind.i64.wrap (((k ^ v : Nat) : Int) * (k : Int)) = ((k ^ (v + 1) : Nat) : Int) := by
      rw [← Int.natCast_mul, ← Nat.pow_succ]; exact wrapN (Nat.lt_of_le_of_lt pb (by decide))
    unfold lLaw33SampleColoursX0 c0St dk gC
    generalize k ^ (v + 1) = p2 at *
    generalize k ^ v = p at *
    simp [rLaw33SampleColoursX0, rLaw33SampleColoursX1, rLaw33SampleColoursX2, rLaw33SampleColoursX3, rLaw33SampleColoursX4, rLaw33SampleColoursX5, rLaw33SampleColoursX6, rLaw33SampleColoursX7, rLaw33SampleColoursX8, rLaw33SampleColoursX9, rLaw33SampleColoursX10, rLaw33SampleColoursX11, rLaw33SampleColoursX12, rLaw33SampleColoursX13, rLaw33SampleColoursX14, rLaw33SampleColoursX15, rLaw33SampleColoursX16, rLaw33SampleColoursX17, rLaw33SampleColoursX18, rLaw33SampleColoursX19, rLaw33SampleColoursX20, rLaw33SampleColoursX21, rLaw33SampleColoursX22, rLaw33SampleColoursX23, rLaw33SampleColoursX24, rLaw33SampleColoursX25, rLaw33SampleColoursX26, h1, hw, w1, blk, eds_length, eds_get, edsAt, edAV, allLeaf_eds, cleanL_eds, cleanL_ints, ints_length, ints_get, intsAt, endL, finB]
end
def c1St (l : List Int) (a N : Nat) (Es : List Ed) (k p : Nat) (s : Int) (i : Nat) (o : List Int) (x v : Nat) (J : Env) : St := ⟨(5, .ptr 1 0) :: (6, .int .i64 k) :: (7, .int .i64 p) :: (9, .int .i64 s) :: (10, .int .i64 i) :: (11, .own 1 (ints o)) :: (12, .int .i64 x) :: (13, .int .i64 v) :: J, [dk l a, gC N Es]⟩
theorem cols_succ (k v i : Nat) : cols k (v + 1) i = cols k v i ++ [((dig k i v : Nat) : Int)] := by simp [cols, List.range_succ]
section
attribute [local simp] codeL_seq codeL_reg codeL_blk codeL_skip codeL_ret codeL_exit codeL_cnd condL_b thenL_n thenL_e thenL_r blkL_n blkL_e blkL_r regL_s opsB stepB opB opP opnd opnds lend lendC get_nil' get_cons' put_nil' put_cons' mem_nil' mem_cons' putdB putB slowP hasOwn hasOwnL finO relab anyB anyE anyH anyR borOf borL inSlot HAND endR hasOwnE endK keepIn trim noPtr noPtrL noPtrE noPtrH binA arith unA eqB isNilB eqc lenB bndB bnd rdN rdc AV.cells fillB peek ldOK AV.leaf allLeaf fz pl plL drawB allCW cwF okDrawB okPair Fq.ok dstOff wrOff notSlot noneIn apartR oldBoxes O.reads Kd.reads E.slot slots slotO slotsP List.getD pairIn nilL okRes clean cleanL resV resVs tupOf mkEnv partsBor doCallB inpB getArgs doCallO frzA frzV frzL minA minF cont ownAt at_ setAt rel dropS relC dropAll frzP frzAll firstBor borIn borC borS borE borH handTo mapSt mapE mapH mapB mapBL sw rt fb mvB mvRt seesP inRt isRoot rootOf boxOf seesB rootsL Am.rep ovw flatCells_ints allLeaf_ints flatCells el grp updE isNilB inpV inpL stB okL unA orcA bndB plL_ints fzL stBox inCells wrap0 wrap1 wrapm1 take_snoc BIGB marks boxZ ldLab cellOf cellN CELLM boxIn isCell apartC frzR frzRL frzS frzC frzCL
theorem c1_loop (l : List Int) (a N : Nat) (hN : N ≤ 5) (Es : List Ed) (k : Nat) (hk : 1 ≤ k ∧ k ≤ 3) (p : Nat) (s : Int) (i : Nat) (hi4 : i < 1000000) : ∀ (m v : Nat), v + m = N → codeL cfgS 0 (.loop lLaw33SampleColoursX1) (c1St l a N Es k p s i (cols k v i) (i / k ^ v) v []) = some (.exit 4, c1St l a N Es k p s i (cols k N i) (i / k ^ N) N [(47, .bool false)])
  | 0, v, hi => by
    obtain rfl : v = N := by omega
    refine loop_exit ?_
    unfold lLaw33SampleColoursX1 c1St dk gC
    generalize i / k ^ v = x at *
    simp [rLaw33SampleColoursX0, rLaw33SampleColoursX1, rLaw33SampleColoursX2, rLaw33SampleColoursX3, rLaw33SampleColoursX4, rLaw33SampleColoursX5, rLaw33SampleColoursX6, rLaw33SampleColoursX7, rLaw33SampleColoursX8, rLaw33SampleColoursX9, rLaw33SampleColoursX10, rLaw33SampleColoursX11, rLaw33SampleColoursX12, rLaw33SampleColoursX13, rLaw33SampleColoursX14, rLaw33SampleColoursX15, rLaw33SampleColoursX16, rLaw33SampleColoursX17, rLaw33SampleColoursX18, rLaw33SampleColoursX19, rLaw33SampleColoursX20, rLaw33SampleColoursX21, rLaw33SampleColoursX22, rLaw33SampleColoursX23, rLaw33SampleColoursX24, rLaw33SampleColoursX25, rLaw33SampleColoursX26, blk, eds_length, eds_get, edsAt, edAV, allLeaf_eds, cleanL_eds, cleanL_ints, ints_length, ints_get, intsAt, endL, finB]
  | m + 1, v, hi => by
    refine (loop_next ?_).trans (c1_loop l a N hN Es k hk p s i hi4 m (v + 1) (by omega))
    have h1 : (v : Int) < N := by omega
    have hw := wrapS (i := v) (by omega)
    have hk0 : ¬ k = 0 := by omega
    have hki : ¬ (k : Int) = 0 := by omega
    have xb : i / k ^ v ≤ i := Nat.div_le_self _ _
    have e1 : ((i / k ^ v : Nat) : Int).tmod (k : Int) = ((dig k i v : Nat) : Int) := by
      rw [Int.tmod_eq_emod_of_nonneg (Int.natCast_nonneg _), ← Int.natCast_emod]; rfl
    have e2 : i / k ^ (v + 1) = i / k ^ v / k := by rw [Nat.pow_succ, Nat.div_div_eq_div_mul]
    have xb2 : i / k ^ v / k < 9223372036854775808 := Nat.lt_of_le_of_lt (Nat.div_le_self _ _) (Nat.lt_of_le_of_lt xb (by omega))
    have e3 : IntKind.i64.wrap (((i / k ^ v : Nat) : Int).tdiv (k : Int)) = ((i / k ^ (v + 1) : Nat) : Int) := by
      rw [Int.tdiv_eq_ediv_of_nonneg (Int.natCast_nonneg _), ← Int.natCast_ediv, e2]; exact wrapN xb2
    have e4 : IntKind.i64.wrap (((i / k ^ v : Nat) : Int) / (k : Int)) = ((i / k ^ (v + 1) : Nat) : Int) := by
      rw [← Int.natCast_ediv, e2]; exact wrapN xb2
    have e5 : ((i / k ^ v : Nat) : Int) % (k : Int) = ((dig k i v : Nat) : Int) := by rw [← Int.natCast_emod]; rfl
    have lc := cols_length k v i
    have hL : v + 1 ≤ 4294967296 := by omega
    have sn := ints_snoc (cols k v i) ((dig k i v : Nat) : Int)
    rw [← cols_succ] at sn
    have tk : (ints (cols k (v + 1) i)).take (v + 1) = ints (cols k (v + 1) i) := List.take_of_length_le (by rw [ints_length, cols_length]; omega)
    have tko : (ints (cols k v i)).take v = ints (cols k v i) := List.take_of_length_le (by rw [ints_length, lc]; omega)
    have g5 : (ints (cols k v i)).length = v := by rw [ints_length, lc]
    unfold lLaw33SampleColoursX1 c1St dk gC
    generalize i / k ^ (v + 1) = x2 at *
    generalize i / k ^ v = x at *
    generalize ((dig k i v : Nat) : Int) = d at *
    generalize ints (cols k (v + 1) i) = C2 at *
    generalize ints (cols k v i) = C at *
    simp [rLaw33SampleColoursX0, rLaw33SampleColoursX1, rLaw33SampleColoursX2, rLaw33SampleColoursX3, rLaw33SampleColoursX4, rLaw33SampleColoursX5, rLaw33SampleColoursX6, rLaw33SampleColoursX7, rLaw33SampleColoursX8, rLaw33SampleColoursX9, rLaw33SampleColoursX10, rLaw33SampleColoursX11, rLaw33SampleColoursX12, rLaw33SampleColoursX13, rLaw33SampleColoursX14, rLaw33SampleColoursX15, rLaw33SampleColoursX16, rLaw33SampleColoursX17, rLaw33SampleColoursX18, rLaw33SampleColoursX19, rLaw33SampleColoursX20, rLaw33SampleColoursX21, rLaw33SampleColoursX22, rLaw33SampleColoursX23, rLaw33SampleColoursX24, rLaw33SampleColoursX25, rLaw33SampleColoursX26, h1, hw, hk0, hki, e1, e3, e4, e5, hL, sn, tk, tko, g5, LIM, blk, eds_length, eds_get, edsAt, edAV, allLeaf_eds, cleanL_eds, cleanL_ints, ints_length, ints_get, intsAt, endL, finB]
end
def c2St (l : List Int) (a N : Nat) (Es : List Ed) (k p : Nat) (s : Int) (i : Nat) (J : Env) : St := ⟨(5, .ptr 1 0) :: (6, .int .i64 k) :: (7, .int .i64 p) :: (9, .int .i64 s) :: (10, .int .i64 i) :: J, [dk l a, gC N Es]⟩
theorem tri_bd {n : Nat} (E : List Ed) (hn : n ≤ 9) : tri n E ≤ 729 := by
  unfold tri trip
  have z : ∀ u v w, ad E u v * ad E u w * ad E v w ≤ 1 := fun u v w => by
    unfold ad; split <;> split <;> split <;> omega
  have s1 : ∀ (f : Nat → Nat) (c n : Nat), (∀ i, i < n → f i ≤ c) → sm n f ≤ n * c := fun f c n => by
    induction n with
    | zero => intro _; simp [sm]
    | succ k ih =>
      intro h
      have := ih fun i hi => h i (by omega)
      have := h k (by omega)
      rw [sm, Nat.add_mul]; omega
  refine Nat.le_trans (s1 _ 81 n fun w hw => Nat.le_trans (s1 _ 9 w fun v hv => Nat.le_trans (s1 _ 1 v fun u hu => z u v w) (by omega)) (by omega)) (by omega)
/-- One colouring's estimate. -/
def est (k N : Nat) (Es : List Ed) (i : Nat) : Nat := k * k * tri N (monoE (cols k N i) Es)
theorem est_bd {k N : Nat} (hk : 1 ≤ k ∧ k ≤ 3) (hN : N ≤ 5) (Es : List Ed) (i : Nat) : est k N Es i ≤ 6561 := by
  unfold est
  have h1 := tri_bd (n := N) (monoE (cols k N i) Es) (by omega)
  have h2 : k * k ≤ 3 * 3 := Nat.mul_le_mul hk.2 hk.2
  exact Nat.le_trans (Nat.mul_le_mul h2 h1) (by omega)
section
attribute [local simp] codeL_seq codeL_reg codeL_blk codeL_skip codeL_ret codeL_exit codeL_cnd condL_b thenL_n thenL_e thenL_r blkL_n blkL_e blkL_r regL_s opsB stepB opB opP opnd opnds lend lendC get_nil' get_cons' put_nil' put_cons' mem_nil' mem_cons' putdB putB slowP hasOwn hasOwnL finO relab anyB anyE anyH anyR borOf borL inSlot HAND endR hasOwnE endK keepIn trim noPtr noPtrL noPtrE noPtrH binA arith unA eqB isNilB eqc lenB bndB bnd rdN rdc AV.cells fillB peek ldOK AV.leaf allLeaf fz pl plL drawB allCW cwF okDrawB okPair Fq.ok dstOff wrOff notSlot noneIn apartR oldBoxes O.reads Kd.reads E.slot slots slotO slotsP List.getD pairIn nilL okRes clean cleanL resV resVs tupOf mkEnv partsBor doCallB inpB getArgs doCallO frzA frzV frzL minA minF cont ownAt at_ setAt rel dropS relC dropAll frzP frzAll firstBor borIn borC borS borE borH handTo mapSt mapE mapH mapB mapBL sw rt fb mvB mvRt seesP inRt isRoot rootOf boxOf seesB rootsL Am.rep ovw flatCells_ints allLeaf_ints flatCells el grp updE isNilB inpV inpL stB okL unA orcA bndB plL_ints fzL stBox inCells wrap0 wrap1 wrapm1 take_snoc BIGB marks boxZ ldLab cellOf cellN CELLM boxIn isCell apartC frzR frzRL frzS frzC frzCL
theorem c2_loop (l : List Int) (a N : Nat) (hN : N ≤ 5) (Es : List Ed) (hG : GOK (N : Int) Es) (hE : Es.length < 1000000) (k : Nat) (hk : 1 ≤ k ∧ k ≤ 3) (p : Nat) (hp : p ≤ 243) : ∀ (m i : Nat), i + m = p → codeL cfgS 0 (.loop lLaw33SampleColoursX2) (c2St l a N Es k p (sm i (est k N Es) : Nat) i []) = some (.exit 2, c2St l a N Es k p (sm p (est k N Es) : Nat) p [(40, .bool false)])
  | 0, i, hi => by
    obtain rfl : i = p := by omega
    refine loop_exit ?_
    unfold lLaw33SampleColoursX2 c2St dk gC
    generalize sm i (est k N Es) = s at *
    simp [rLaw33SampleColoursX0, rLaw33SampleColoursX1, rLaw33SampleColoursX2, rLaw33SampleColoursX3, rLaw33SampleColoursX4, rLaw33SampleColoursX5, rLaw33SampleColoursX6, rLaw33SampleColoursX7, rLaw33SampleColoursX8, rLaw33SampleColoursX9, rLaw33SampleColoursX10, rLaw33SampleColoursX11, rLaw33SampleColoursX12, rLaw33SampleColoursX13, rLaw33SampleColoursX14, rLaw33SampleColoursX15, rLaw33SampleColoursX16, rLaw33SampleColoursX17, rLaw33SampleColoursX18, rLaw33SampleColoursX19, rLaw33SampleColoursX20, rLaw33SampleColoursX21, rLaw33SampleColoursX22, rLaw33SampleColoursX23, rLaw33SampleColoursX24, rLaw33SampleColoursX25, rLaw33SampleColoursX26, blk, eds_length, eds_get, edsAt, edAV, allLeaf_eds, cleanL_eds, cleanL_ints, ints_length, ints_get, intsAt, endL, finB]
  | m + 1, i, hi => by
    refine (loop_next ?_).trans (c2_loop l a N hN Es hG hE k hk p hp m (i + 1) (by omega))
    have h1 : (i : Int) < p := by omega
    have hw := wrapS (i := i) (by omega)
    have lp := c1_loop l a N hN Es k hk p (sm i (est k N Es) : Nat) i (by omega) N 0 (by omega)
    rw [show cols k 0 i = [] from rfl, Nat.pow_zero, Nat.div_one] at lp
    have dl : ∀ v, dig k i v < k := fun v => Nat.mod_lt _ (by omega)
    have bc := byColours_run hG hE (cols k N i) (cols_length k N i) (k : Int) (by omega) (fun x hx => by
      obtain ⟨v, _, rfl⟩ := List.mem_map.1 hx
      have := dl v; omega)
    have eb := est_bd hk hN Es i
    have we : IntKind.i64.wrap ((k : Int) * (k : Int) * (tri N (monoE (cols k N i) Es) : Nat)) = (est k N Es i : Nat) := by
      rw [← Int.natCast_mul, ← Int.natCast_mul]
      exact wrap_id (by unfold est at eb; omega) (by unfold est at eb; omega)
    rw [we] at bc
    have sb : ∀ n, sm n (est k N Es) ≤ n * 6561 := fun n => by
      induction n with
      | zero => simp [sm]
      | succ j ih => have := est_bd hk hN Es j; rw [sm]; omega
    have sb1 := sb (i + 1)
    rw [sm] at sb1
    have ws : IntKind.i64.wrap (((sm i (est k N Es) : Nat) : Int) + (est k N Es i : Nat)) = (sm (i + 1) (est k N Es) : Nat) := by rw [wrap_id (by omega) (by omega), sm]; omega
    have tk : (ints (cols k N i)).take N = ints (cols k N i) := List.take_of_length_le (by rw [ints_length, cols_length]; omega)
    have g5 : (ints (cols k N i)).length = N := by rw [ints_length, cols_length]
    unfold c1St dk gC at lp
    rw [nat0, ints_nil] at lp
    unfold lLaw33SampleColoursX2 c2St dk gC
    generalize sm (i + 1) (est k N Es) = s2 at *
    generalize sm i (est k N Es) = s at *
    generalize est k N Es i = e at *
    generalize ints (cols k N i) = C at *
    generalize eds Es = Y at *
    simp [rLaw33SampleColoursX0, rLaw33SampleColoursX1, rLaw33SampleColoursX2, rLaw33SampleColoursX3, rLaw33SampleColoursX4, rLaw33SampleColoursX5, rLaw33SampleColoursX6, rLaw33SampleColoursX7, rLaw33SampleColoursX8, rLaw33SampleColoursX9, rLaw33SampleColoursX10, rLaw33SampleColoursX11, rLaw33SampleColoursX12, rLaw33SampleColoursX13, rLaw33SampleColoursX14, rLaw33SampleColoursX15, rLaw33SampleColoursX16, rLaw33SampleColoursX17, rLaw33SampleColoursX18, rLaw33SampleColoursX19, rLaw33SampleColoursX20, rLaw33SampleColoursX21, rLaw33SampleColoursX22, rLaw33SampleColoursX23, rLaw33SampleColoursX24, rLaw33SampleColoursX25, rLaw33SampleColoursX26, h1, hw, lp, bc, ws, tk, g5, sSampleByColours, iSampleByColours, plp, plpL, allB, notBox, swC, seesC, inBox, blk, eds_length, eds_get, edsAt, edAV, allLeaf_eds, cleanL_eds, cleanL_ints, ints_length, ints_get, intsAt, endL, finB]
theorem colours_run (l : List Int) (c : Int) (hc : 0 ≤ c ∧ c < 256) : callL cfgS nLaw33SampleColours [.list 1 (ints l), .int .u8 c] [] = some (.bool true, []) := by
  rw [callL_end oLaw33SampleColours sLaw33SampleColours (Nat.le_of_ble_eq_true rfl)]
  have aw := awake33
  have few := few_run l
  by_cases hl : (l.length : Int) ≤ 500
  case neg =>
    unfold qLaw33SampleColours cLaw33SampleColours
    simp [rLaw33SampleColoursX0, rLaw33SampleColoursX1, rLaw33SampleColoursX2, rLaw33SampleColoursX3, rLaw33SampleColoursX4, rLaw33SampleColoursX5, rLaw33SampleColoursX6, rLaw33SampleColoursX7, rLaw33SampleColoursX8, rLaw33SampleColoursX9, rLaw33SampleColoursX10, rLaw33SampleColoursX11, rLaw33SampleColoursX12, rLaw33SampleColoursX13, rLaw33SampleColoursX14, rLaw33SampleColoursX15, rLaw33SampleColoursX16, rLaw33SampleColoursX17, rLaw33SampleColoursX18, rLaw33SampleColoursX19, rLaw33SampleColoursX20, rLaw33SampleColoursX21, rLaw33SampleColoursX22, rLaw33SampleColoursX23, rLaw33SampleColoursX24, rLaw33SampleColoursX25, rLaw33SampleColoursX26, few, hl, aw, sMakeFew, iMakeFew, sLaw33Awake, iLaw33Awake, blk, eds_length, eds_get, edsAt, edAV, allLeaf_eds, cleanL_eds, cleanL_ints, ints_length, ints_get, intsAt, endL, finB]
  have hl5 : l.length ≤ 500 := by omega
  have n1 := new_run l
  obtain ⟨N, Es, a1, n2, hG, hN, hEl⟩ := graph_run l hl5 5 (by omega) 0
  obtain ⟨k, hk⟩ : ∃ k : Nat, 1 + c % 3 = k := ⟨(1 + c % 3).toNat, by omega⟩
  have k3 : 1 ≤ k ∧ k ≤ 3 := by omega
  have m1 : c.tmod 3 = c % 3 := Int.tmod_eq_emod_of_nonneg (by omega)
  have m2 : IntKind.i64.wrap (c % 3) = c % 3 := wrap_id (by omega) (by omega)
  have m3 : IntKind.i64.wrap (1 + c % 3) = (k : Int) := by rw [wrap_id (by omega) (by omega)]; exact hk
  have pb : k ^ N ≤ 3 ^ 5 := Nat.le_trans (Nat.pow_le_pow_left k3.2 _) (Nat.pow_le_pow_right (by omega) hN)
  have l0 := c0_loop l a1 N hN Es k k3 N 0 (by omega)
  rw [Nat.pow_zero] at l0
  have l2 := c2_loop l a1 N hN Es hG (by omega) k k3 (k ^ N) (by omega) (k ^ N) 0 (by omega)
  have law : sm (k ^ N) (est k N Es) = k ^ N * tri N Es := colours_law hN Es k3
  rw [law] at l2
  have ct := count29_run hG (by omega)
  have tb := tri_bd (n := N) Es (by omega)
  have mb : k ^ N * tri N Es ≤ 243 * 729 := Nat.mul_le_mul pb tb
  have w1 : IntKind.i64.wrap (((k ^ N : Nat) : Int) * (tri N Es : Nat)) = ((k ^ N * tri N Es : Nat) : Int) := by
    rw [← Int.natCast_mul]; exact wrap_id (by omega) (by omega)
  unfold c0St dk gC at l0
  unfold c2St dk gC at l2
  unfold dk at n1 n2
  simp only [nat0, show ((5 : Nat) : Int) = 5 from rfl, show sm 0 (est k N Es) = 0 from rfl, show ((1 : Nat) : Int) = 1 from rfl] at n1 n2 l0 l2
  unfold qLaw33SampleColours cLaw33SampleColours
  generalize k ^ N * tri N Es = t3 at *
  generalize k ^ N = p at *
  generalize tri N Es = t at *
  generalize eds Es = Y at *
  clear law hG
  simp [rLaw33SampleColoursX0, rLaw33SampleColoursX1, rLaw33SampleColoursX2, rLaw33SampleColoursX3, rLaw33SampleColoursX4, rLaw33SampleColoursX5, rLaw33SampleColoursX6, rLaw33SampleColoursX7, rLaw33SampleColoursX8, rLaw33SampleColoursX9, rLaw33SampleColoursX10, rLaw33SampleColoursX11, rLaw33SampleColoursX12, rLaw33SampleColoursX13, rLaw33SampleColoursX14, rLaw33SampleColoursX15, rLaw33SampleColoursX16, rLaw33SampleColoursX17, rLaw33SampleColoursX18, rLaw33SampleColoursX19, rLaw33SampleColoursX20, rLaw33SampleColoursX21, rLaw33SampleColoursX22, rLaw33SampleColoursX23, rLaw33SampleColoursX24, rLaw33SampleColoursX25, rLaw33SampleColoursX26, few, hl, n1, n2, m1, m2, m3, l0, l2, ct, w1, aw, sMakeFew, iMakeFew, sMakeNew, iMakeNew, sMakeGraph, iMakeGraph, sRef29Count, iRef29Count, sLaw33Awake, iLaw33Awake, plp, plpL, allB, notBox, swC, swS, seesC, inBox, relB, handBox, mvBB, mvRtB, blk, eds_length, eds_get, edsAt, edAV, allLeaf_eds, cleanL_eds, cleanL_ints, ints_length, ints_get, intsAt, endL, finB]
end
end Go.BmP
