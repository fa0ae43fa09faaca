/- What cohesionlaw09.DegreeIndex returns. -/
import Derived.Test.YtjfdniggjdnkiaaDgH
import Derived.KernelRfl
set_option linter.unusedSimpArgs false
set_option linter.unusedVariables false
set_option maxRecDepth 100000
set_option maxHeartbeats 4000000
namespace Go.BmP
open Go.Am Go.Bm
theorem awake09 : callL cfgS nLaw09Awake [] [] = some (.bool true, []) := callL_iff.2 ⟨3000, by kernel_rfl⟩
def xI (l : List Int) : List Int := l.map fun n => n % 20 - 2
theorem xI_length (l : List Int) : (xI l).length = l.length := List.length_map _
theorem xI_bd (l : List Int) : ∀ x ∈ xI l, -2 ≤ x ∧ x ≤ 17 := by
  intro x hx
  obtain ⟨n, _, rfl⟩ := List.mem_map.1 hx
  omega
section
attribute [local simp] codeL_seq codeL_reg codeL_blk codeL_skip codeL_ret codeL_exit codeL_cnd condL_b thenL_n thenL_e thenL_r blkL_n blkL_e blkL_r regL_s opsB stepB opB opP opnd opnds lend lendC get_nil' get_cons' put_nil' put_cons' mem_nil' mem_cons' putdB putB slowP hasOwn hasOwnL finO relab anyB anyE anyH anyR borOf borL inSlot HAND endR hasOwnE endK keepIn trim noPtr noPtrL noPtrE noPtrH binA arith unA eqB isNilB eqc lenB bndB bnd rdN rdc AV.cells fillB peek ldOK AV.leaf allLeaf fz pl plL drawB allCW cwF okDrawB okPair Fq.ok dstOff wrOff notSlot noneIn apartR oldBoxes O.reads Kd.reads E.slot slots slotO slotsP List.getD pairIn nilL okRes clean cleanL resV resVs tupOf mkEnv partsBor doCallB inpB getArgs doCallO frzA frzV frzL minA minF cont ownAt at_ setAt rel dropS relC dropAll frzP frzAll firstBor borIn borC borS borE borH handTo mapSt mapE mapH mapB mapBL sw rt fb mvB mvRt seesP inRt isRoot rootOf boxOf seesB rootsL Am.rep ovw flatCells_ints allLeaf_ints flatCells el grp updE isNilB inpV inpL stB okL unA orcA bndB plL_ints fzL stBox inCells wrap0 wrap1 wrapm1 take_snoc BIGB marks boxZ ldLab cellOf cellN CELLM boxIn isCell apartC frzR frzRL frzS frzC frzCL eatN locN empN getArgs0 nob nobL notBox frzLab eatE0 isFn anyFn locB
theorem ix_loop (l : List Int) (hl : l.length ≤ 60) (a m : Int) : ∀ n i : Nat, i + n = l.length → codeL cfgS 0 (.loop lLaw09DegreeIndexX0) ⟨[(1, .int .i64 a), (2, .int .i64 m), (7, .own 1 (ints (xI (l.take i)))), (18, .list 1 (ints l)), (19, .int .i64 l.length), (20, .int .i64 i)], []⟩ = some (.exit 0, ⟨[(1, .int .i64 a), (2, .int .i64 m), (7, .own 1 (ints (xI l))), (18, .list 1 (ints l)), (19, .int .i64 l.length), (20, .int .i64 l.length), (21, .bool false)], []⟩)
  | 0, i, e => by
    obtain rfl : i = l.length := by omega
    rw [List.take_length]
    exact loop_exit (by unfold lLaw09DegreeIndexX0; simp [rLaw09DegreeIndexX0, rLaw09DegreeIndexX1, rLaw09DegreeIndexX2, rLaw09DegreeIndexX3, rLaw09DegreeIndexX4, rLaw09DegreeIndexX5, rLaw09DegreeIndexX6, rLaw09DegreeIndexX7, rLaw09DegreeIndexX8, rLaw09DegreeIndexX9, rLaw09DegreeIndexX10, rLaw09DegreeIndexX11, rLaw09DegreeIndexX12, rLaw09DegreeIndexX13, rLaw09DegreeIndexX14, rLaw09DegreeIndexX15, rLaw09DegreeIndexX16, rLaw09DegreeIndexX17, rLaw09DegreeIndexX18, blk, eds_length, eds_get, edsAt, edAV, allLeaf_eds, cleanL_eds, cleanL_ints, ints_length, ints_get, intsAt, endL, finB])
  | n + 1, i, e => by
    have h1 : i < l.length := by omega
    have h2 : (i : Int) < l.length := by omega
    have hw := wrapS (i := i) (by omega)
    have md := modk_run l[i] 20 (by omega) (by omega)
    have w1 : IntKind.i64.wrap (l[i] % 20 - 2) = l[i] % 20 - 2 := wrap_id (by omega) (by omega)
    have et : xI (l.take (i + 1)) = xI (l.take i) ++ [l[i] % 20 - 2] := by
      unfold xI
      rw [List.take_succ_eq_append_getElem h1, List.map_append]
      rfl
    have ih := ix_loop l hl a m n (i + 1) (by omega)
    rw [et] at ih
    have lx : (xI (l.take i)).length + 1 ≤ 4294967296 := by rw [xI_length, List.length_take]; omega
    generalize xI (l.take i) = X at *
    exact (loop_next (by unfold lLaw09DegreeIndexX0; simp [rLaw09DegreeIndexX0, rLaw09DegreeIndexX1, rLaw09DegreeIndexX2, rLaw09DegreeIndexX3, rLaw09DegreeIndexX4, rLaw09DegreeIndexX5, rLaw09DegreeIndexX6, rLaw09DegreeIndexX7, rLaw09DegreeIndexX8, rLaw09DegreeIndexX9, rLaw09DegreeIndexX10, rLaw09DegreeIndexX11, rLaw09DegreeIndexX12, rLaw09DegreeIndexX13, rLaw09DegreeIndexX14, rLaw09DegreeIndexX15, rLaw09DegreeIndexX16, rLaw09DegreeIndexX17, rLaw09DegreeIndexX18, h1, h2, hw, md, w1, lx, LIM, ints_snoc, ints_take, List.take_length, ints_length, idx, sMakeMod, iMakeMod, blk, eds_length, eds_get, edsAt, edAV, allLeaf_eds, cleanL_eds, cleanL_ints, ints_length, ints_get, intsAt, endL, finB])).trans ih
theorem index_run (l : List Int) (a m : Int) : callL cfgS nLaw09DegreeIndex [.list 1 (ints l), .int .i64 a, .int .i64 m] [] = some (.bool true, []) := by
  rw [callL_end oLaw09DegreeIndex sLaw09DegreeIndex (Nat.le_of_ble_eq_true rfl)]
  have aw := awake09
  unfold qLaw09DegreeIndex cLaw09DegreeIndex
  by_cases hl : 60 < (l.length : Int)
  · simp [rLaw09DegreeIndexX0, rLaw09DegreeIndexX1, rLaw09DegreeIndexX2, rLaw09DegreeIndexX3, rLaw09DegreeIndexX4, rLaw09DegreeIndexX5, rLaw09DegreeIndexX6, rLaw09DegreeIndexX7, rLaw09DegreeIndexX8, rLaw09DegreeIndexX9, rLaw09DegreeIndexX10, rLaw09DegreeIndexX11, rLaw09DegreeIndexX12, rLaw09DegreeIndexX13, rLaw09DegreeIndexX14, rLaw09DegreeIndexX15, rLaw09DegreeIndexX16, rLaw09DegreeIndexX17, rLaw09DegreeIndexX18, hl, aw, sLaw09Awake, iLaw09Awake, blk, eds_length, eds_get, edsAt, edAV, allLeaf_eds, cleanL_eds, cleanL_ints, ints_length, ints_get, intsAt, endL, finB]
  · have lp := ix_loop l (by omega) a m l.length 0 (by omega)
    rw [nat0, List.take_zero] at lp
    change codeL cfgS 0 lLaw09DegreeIndexX0.loop ⟨[(1, .int .i64 a), (2, .int .i64 m), (7, .own 1 []), (18, .list 1 (ints l)), (19, .int .i64 l.length), (20, .int .i64 0)], []⟩ = _ at lp
    have lx := xI_length l
    have hxb := xI_bd l
    generalize xI l = x at *
    have hx := h_run x (by omega)
    have hx2 := hI_le x
    have md := modk_run m 30 (by omega) (by omega)
    obtain ⟨k1, k2⟩ := hI_snoc x (m % 30)
    have hk := h_run (x ++ [m % 30]) (by simp; omega)
    have L1 : x.length ≤ 4294967296 := by omega
    have L2 : x.length + 1 ≤ 4294967296 := by omega
    have tk : (ints x).take x.length = ints x := by rw [ints_take, List.take_length]
    have w1 : IntKind.i64.wrap ((hI x : Int) + 1) = (hI x : Int) + 1 := wrap_id (by omega) (by omega)
    have c1 : ¬ (hI (x ++ [m % 30]) : Int) < (hI x : Int) := by omega
    have c2 : ¬ ((hI x : Int) + 1 < (hI (x ++ [m % 30]) : Int)) := by omega
    have c3 : ¬ (x.length : Int) < (hI x : Int) := by omega
    rw [← ints_snoc] at hk
    have tk1 : (ints x ++ [AV.int .i64 (m % 30)]).take (x.length + 1) = ints x ++ [AV.int .i64 (m % 30)] := List.take_of_length_le (by rw [List.length_append, ints_length]; exact Nat.le_refl _)
    by_cases hz : x.length = 0
    · have c4 : (hI x : Int) = 0 := by omega
      have x0 : x = [] := List.eq_nil_of_length_eq_zero hz
      subst x0
      simp only [ints_nil, List.nil_append] at hx hk k1 k2 c1 c2 c3
      generalize hI [m % 30] = k at *
      generalize hI [] = h at *
      have c1' : ¬ (k : Int) < 0 := by omega
      have c2' : ¬ (1 : Int) < (k : Int) := by omega
      simp [rLaw09DegreeIndexX0, rLaw09DegreeIndexX1, rLaw09DegreeIndexX2, rLaw09DegreeIndexX3, rLaw09DegreeIndexX4, rLaw09DegreeIndexX5, rLaw09DegreeIndexX6, rLaw09DegreeIndexX7, rLaw09DegreeIndexX8, rLaw09DegreeIndexX9, rLaw09DegreeIndexX10, rLaw09DegreeIndexX11, rLaw09DegreeIndexX12, rLaw09DegreeIndexX13, rLaw09DegreeIndexX14, rLaw09DegreeIndexX15, rLaw09DegreeIndexX16, rLaw09DegreeIndexX17, rLaw09DegreeIndexX18, hl, lp, hx, hk, md, L1, L2, tk, tk1, w1, c1, c2, c3, c4, c1', c2', aw, LIM, ints_nil, ints_length, sLaw09Awake, iLaw09Awake, sDegreeH, iDegreeH, sMakeMod, iMakeMod, cleanL_ints, blk, eds_length, eds_get, edsAt, edAV, allLeaf_eds, cleanL_eds, cleanL_ints, ints_length, ints_get, intsAt, endL, finB]
    · have c4 : ¬ (x.length : Int) = 0 := by omega
      have c4' : ((x.length : Int) == 0) = false := by simpa using hz
      have p0 : (0 : Int) < x.length := by omega
      have ma := modk_run a x.length p0 (by omega)
      have m5 := modk_run m 5 (by omega) (by omega)
      obtain ⟨j, hj⟩ : ∃ j : Nat, a % (x.length : Int) = j := ⟨(a % (x.length : Int)).toNat, by have := Int.emod_nonneg a (show (x.length : Int) ≠ 0 by omega); omega⟩
      have hj2 : (j : Int) < x.length := by rw [← hj]; exact Int.emod_lt_of_pos _ p0
      have hj3 : j < x.length := by omega
      rw [hj] at ma
      have xb : -2 ≤ x[j] ∧ x[j] ≤ 17 := hxb _ (List.getElem_mem hj3)
      have m50 : 0 ≤ m % 5 ∧ m % 5 < 5 := by omega
      have w2 : IntKind.i64.wrap (x[j] + m % 5) = x[j] + m % 5 := wrap_id (by omega) (by omega)
      obtain ⟨k3, k4⟩ := hI_set x j hj3 (m % 5) m50.1
      have hs : (ints x).set j (.int .i64 (x[j] + m % 5)) = ints (x.set j (x[j] + m % 5)) := by simp [ints]
      have hy := h_run (x.set j (x[j] + m % 5)) (by simp; omega)
      have ly : (x.set j (x[j] + m % 5)).length = x.length := List.length_set
      have tk2 : (ints (x.set j (x[j] + m % 5))).take x.length = ints (x.set j (x[j] + m % 5)) := by rw [ints_take, List.take_of_length_le (by rw [ly]; exact Nat.le_refl _)]
      have ne : x ≠ [] := fun e => hz (by rw [e]; rfl)
      obtain ⟨x1, x2, e12⟩ : ∃ x1 x2, x = x1 :: x2 := by cases x with
        | nil => exact absurd rfl ne
        | cons p q => exact ⟨p, q, rfl⟩
      have c5 : (hI x : Int) ≤ (hI (x.set j (x[j] + m % 5)) : Int) := by omega
      have c6 : (hI (x.set j (x[j] + m % 5)) : Int) ≤ (hI x : Int) + 1 := by omega
      generalize hI (x ++ [m % 30]) = k at *
      generalize hI (x.set j (x[j] + m % 5)) = u at *
      generalize hI x = h at *
      simp [rLaw09DegreeIndexX0, rLaw09DegreeIndexX1, rLaw09DegreeIndexX2, rLaw09DegreeIndexX3, rLaw09DegreeIndexX4, rLaw09DegreeIndexX5, rLaw09DegreeIndexX6, rLaw09DegreeIndexX7, rLaw09DegreeIndexX8, rLaw09DegreeIndexX9, rLaw09DegreeIndexX10, rLaw09DegreeIndexX11, rLaw09DegreeIndexX12, rLaw09DegreeIndexX13, rLaw09DegreeIndexX14, rLaw09DegreeIndexX15, rLaw09DegreeIndexX16, rLaw09DegreeIndexX17, rLaw09DegreeIndexX18, hl, lp, hx, hk, hy, hs, md, ma, m5, hj2, hj3, L1, L2, tk, tk1, tk2, w1, w2, c1, c2, c3, c4', c5, c6, aw, LIM, idx, ly, ints_length, sLaw09Awake, iLaw09Awake, sDegreeH, iDegreeH, sMakeMod, iMakeMod, cleanL_ints, blk, eds_length, eds_get, edsAt, edAV, allLeaf_eds, cleanL_eds, cleanL_ints, ints_length, ints_get, intsAt, endL, finB]
end
end Go.BmP
