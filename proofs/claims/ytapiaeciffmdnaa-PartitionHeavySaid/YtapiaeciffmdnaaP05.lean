/- The law of a heavy node returns true. -/
import Derived.Test.YtapiaeciffmdnaaP04
set_option linter.unusedSimpArgs false
set_option linter.unusedVariables false
set_option maxRecDepth 100000
set_option maxHeartbeats 4000000
namespace Go.BmP
open Go.Am Go.Bm
theorem cmpL_self : ∀ a : List Int, cmpL a a = 0
  | [] => rfl
  | x :: r => by simp [cmpL, cmpL_self r]
section
attribute [local simp] codeL_seq codeL_reg codeL_blk codeL_skip codeL_ret codeL_exit codeL_cnd condL_b thenL_n thenL_e thenL_r blkL_n blkL_e blkL_r regL_s opsB stepB opB opP opnd opnds lend lendC get_nil' get_cons' put_nil' put_cons' mem_nil' mem_cons' putdB putB slowP hasOwn hasOwnL finO relab anyB anyE anyH anyR borOf borL inSlot HAND endR hasOwnE endK keepIn trim noPtr noPtrL noPtrE noPtrH binA arith unA eqB isNilB eqc lenB bndB bnd rdN rdc AV.cells fillB peek ldOK AV.leaf allLeaf fz pl plL drawB allCW cwF okDrawB okPair Fq.ok dstOff wrOff notSlot noneIn apartR oldBoxes O.reads Kd.reads E.slot slots slotO slotsP List.getD pairIn nilL okRes clean cleanL resV resVs tupOf mkEnv partsBor doCallB inpB getArgs doCallO frzA frzV frzL minA minF cont ownAt at_ setAt rel dropS relC dropAll frzP frzAll firstBor borIn borC borS borE borH handTo mapSt mapE mapH mapB mapBL sw rt fb mvB mvRt seesP inRt isRoot rootOf boxOf seesB rootsL Am.rep ovw flatCells_ints allLeaf_ints flatCells el grp updE isNilB inpV inpL stB okL unA orcA bndB plL_ints fzL stBox inCells wrap0 wrap1 wrapm1 take_snoc BIGB marks boxZ ldLab cellOf cellN CELLM boxIn isCell apartC frzR frzRL frzS frzC frzCL
theorem heavyN_run (nn ww : Nat) (hn : nn < 256) (hw : ww < 256) (l : List Int) : callL cfgS nLaw37PartitionHeavy [.int .u8 nn, .int .u8 ww, .list 1 (ints l)] [] = some (.bool true, []) := by
  rw [callL_end oLaw37PartitionHeavy sLaw37PartitionHeavy (Nat.le_of_ble_eq_true rfl)]
  have aw := awake37
  have few := few_run l
  by_cases hl : (l.length : Int) ≤ 500
  case neg =>
    unfold qLaw37PartitionHeavy cLaw37PartitionHeavy
    simp [rLaw37PartitionHeavyX0, rLaw37PartitionHeavyX1, rLaw37PartitionHeavyX2, rLaw37PartitionHeavyX3, rLaw37PartitionHeavyX4, rLaw37PartitionHeavyX5, rLaw37PartitionHeavyX6, rLaw37PartitionHeavyX7, rLaw37PartitionHeavyX8, rLaw37PartitionHeavyX9, rLaw37PartitionHeavyX10, rLaw37PartitionHeavyX11, rLaw37PartitionHeavyX12, rLaw37PartitionHeavyX13, rLaw37PartitionHeavyX14, rLaw37PartitionHeavyX15, rLaw37PartitionHeavyX16, few, hl, aw, sMakeFew, iMakeFew, sLaw37Awake, iLaw37Awake, blk, endL, finB]
  have hl5 : l.length ≤ 500 := by omega
  have n1 := new_run l
  have t1 : (nn : Int).tmod 30 = ((nn % 30 : Nat) : Int) := (Int.ofNat_tmod _ _).symm
  have t2 : (ww : Int).tmod 8 = ((ww % 8 : Nat) : Int) := (Int.ofNat_tmod _ _).symm
  have u1 : IntKind.i64.wrap ((nn % 30 : Nat) : Int) = ((nn % 30 : Nat) : Int) := wrap_id (by omega) (by omega)
  have u2 : IntKind.i64.wrap ((ww % 8 : Nat) : Int) = ((ww % 8 : Nat) : Int) := wrap_id (by omega) (by omega)
  have u3 : IntKind.i64.wrap (2 + ((nn % 30 : Nat) : Int)) = ((2 + nn % 30 : Nat) : Int) := by rw [show (2 + ((nn % 30 : Nat) : Int)) = ((2 + nn % 30 : Nat) : Int) by omega]; exact wrap_id (by omega) (by omega)
  have u4 : IntKind.i64.wrap (1 + ((ww % 8 : Nat) : Int)) = ((1 + ww % 8 : Nat) : Int) := by rw [show (1 + ((ww % 8 : Nat) : Int)) = ((1 + ww % 8 : Nat) : Int) by omega]; exact wrap_id (by omega) (by omega)
  obtain ⟨k, hk⟩ : ∃ k, 2 + nn % 30 = k := ⟨_, rfl⟩
  obtain ⟨w, hw2⟩ : ∃ w, 1 + ww % 8 = w := ⟨_, rfl⟩
  rw [hk] at u3
  rw [hw2] at u4
  have k2 : 2 ≤ k := by omega
  have k32 : k ≤ 64 := by omega
  have w1 : 1 ≤ w := by omega
  have w8 : w ≤ 8 := by omega
  generalize ((nn % 30 : Nat) : Int) = n30 at *
  generalize ((ww % 8 : Nat) : Int) = w30 at *
  obtain ⟨o, a1, nr, ho, hb⟩ := numbers_run l hl5 k k32 (w : Int) (by omega) [] ⟨fun _ => rfl, rfl, fun _ _ => rfl, fun _ => rfl, fun _ _ => rfl⟩ 0
  have hG := stE_ok (k := k) (by omega) (by omega)
  have lE : (stE (k - 1)).length < 1000000 := by rw [stE_length]; omega
  have lo1 := loads_run w1 w8 hG lE o [0] ho (by simp) (by simp [valGo]; omega) hb
  have lo2 := loads_run w1 w8 hG lE o [] ho (by simp) rfl hb
  have eq1 : ldV w o [0] (stE (k - 1)) = nH w o (k - 1) := by unfold ldV nH; rw [star_heavy]
  rw [eq1] at lo1
  have i0 : ints [0] = [.int .i64 0] := rfl
  have i1 : ints [] = [] := rfl
  rw [i0] at lo1
  rw [i1] at lo2
  have lp := hv_loop l a1 k w k32 (by omega) o ho hb (k - 1) 0 (by omega)
  have ln := nH_length w o (k - 1)
  have cm := cmp_run (nH w o (k - 1)) (nH w o (k - 1)) (by omega) (by omega)
  rw [cmpL_self] at cm
  have l0 : 0 < o.length := by omega
  have hx := hb (o.getD 0 0) (by rw [List.getD_eq_getElem?_getD, List.getElem?_eq_getElem l0]; exact List.getElem_mem l0)
  have g0 : (ints o)[0]? = some (.int .i64 (o.getD 0 0)) := by
    rw [ints_get, List.getElem?_eq_getElem l0]; simp [List.getD_eq_getElem?_getD, List.getElem?_eq_getElem l0]
  have g0' : ∀ h, (ints o)[0]'h = .int .i64 (o.getD 0 0) := fun h => by
    have := List.getElem?_eq_getElem (l := ints o) h
    rw [g0] at this
    exact (Option.some.inj this).symm
  have sl := star_light w o (k - 1) (List.replicate w 0) hx.1 (by rw [List.length_replicate]; exact hx.2)
  have ly : (ldV w o [] (stE (k - 1))).length = w := by rw [ldV, bumps_length, List.length_replicate]
  obtain ⟨x, hxx⟩ : ∃ x : Nat, o.getD 0 0 = x := ⟨(o.getD 0 0).toNat, by omega⟩
  rw [hxx] at hx g0 g0' sl
  have xw : x < w := by omega
  have xy : x < (ldV w o [] (stE (k - 1))).length := by omega
  have sl2 : (ldV w o [] (stE (k - 1)))[x] = (k : Int) - 1 := by
    have e : ((stE (k - 1)).map (hmE w o [])).foldl bump (List.replicate w 0) = ldV w o [] (stE (k - 1)) := rfl
    rw [e, show ((x : Int)).toNat = x by omega, List.getD_eq_getElem?_getD, List.getElem?_eq_getElem xy, Option.getD_some, List.getD_eq_getElem?_getD, List.getElem?_replicate, if_pos xw, Option.getD_some] at sl
    omega
  have gy : (ints (ldV w o [] (stE (k - 1))))[x]? = some (.int .i64 ((k : Int) - 1)) := by rw [ints_get, List.getElem?_eq_getElem xy, ← sl2]; rfl
  have gy' : ∀ h, (ints (ldV w o [] (stE (k - 1))))[x]'h = .int .i64 ((k : Int) - 1) := fun h => by rw [intsAt]; rw [sl2]
  have xi : (x : Int) < (w : Int) := by omega
  have q1 : IntKind.i64.wrap ((k : Int) - 1) = (k : Int) - 1 := wrap_id (by omega) (by omega)
  have h0i : (w : Int) ≤ 4294967296 := by omega
  have h0n : w ≤ 4294967296 := by omega
  have rp : List.replicate w (AV.int .i64 0) = ints (nH w o 0) := by simp [ints, nH, stE]
  have tk0 : List.take w (ints (nH w o 0)) = ints (nH w o 0) := List.take_of_length_le (by rw [ints_length, nH_length]; omega)
  have tk1 : List.take w (ints (nH w o (k - 1))) = ints (nH w o (k - 1)) := List.take_of_length_le (by rw [ints_length, nH_length]; omega)
  have tk2 : List.take (k - 1) (eds (stE (k - 1))) = eds (stE (k - 1)) := List.take_of_length_le (by rw [eds_length, stE_length]; omega)
  have z1 : (ints (nH w o 0)).length = w := by rw [ints_length, nH_length]
  have z2 : (ints (nH w o (k - 1))).length = w := by rw [ints_length, nH_length]
  have z3 : (eds (stE (k - 1))).length = k - 1 := by rw [eds_length, stE_length]
  have z4 : (ints (ldV w o [] (stE (k - 1)))).length = w := by rw [ints_length, ly]
  have z5 : (ints o).length = k := by rw [ints_length, ho]
  have kp : 0 < k := by omega
  have kpi : (0 : Int) < (k : Int) := by omega
  unfold hvSt dk at lp
  unfold dk at n1 nr
  rw [show eds (stE 0) = [] from rfl, show ((0 + 1 : Nat) : Int) = 1 from rfl] at lp
  rw [nat0] at n1 nr
  rw [show k - 1 + 1 = k by omega] at lp
  unfold qLaw37PartitionHeavy cLaw37PartitionHeavy
  clear sl sl2 eq1 hxx
  generalize ints (ldV w o [] (stE (k - 1))) = LY at *
  generalize ints (nH w o (k - 1)) = N2 at *
  generalize ints (nH w o 0) = N0 at *
  generalize eds (stE (k - 1)) = Y at *
  generalize ints o = O at *
  simp [rLaw37PartitionHeavyX0, rLaw37PartitionHeavyX1, rLaw37PartitionHeavyX2, rLaw37PartitionHeavyX3, rLaw37PartitionHeavyX4, rLaw37PartitionHeavyX5, rLaw37PartitionHeavyX6, rLaw37PartitionHeavyX7, rLaw37PartitionHeavyX8, rLaw37PartitionHeavyX9, rLaw37PartitionHeavyX10, rLaw37PartitionHeavyX11, rLaw37PartitionHeavyX12, rLaw37PartitionHeavyX13, rLaw37PartitionHeavyX14, rLaw37PartitionHeavyX15, rLaw37PartitionHeavyX16, few, hl, n1, t1, t2, u1, u2, u3, u4, nr, lp, lo1, lo2, cm, g0, g0', gy, gy', xi, xw, q1, h0i, h0n, rp, tk0, tk1, tk2, z1, z2, z3, z4, z5, kp, kpi, LIM, aw, idx, blk, sMakeFew, iMakeFew, sMakeNew, iMakeNew, sFieldNumbers, iFieldNumbers, sPartitionLoads, iPartitionLoads, sRef02Cmp, iRef02Cmp, sLaw37Awake, iLaw37Awake, plp, plpL, allB, notBox, swC, swS, seesC, inBox, relB, handBox, mvBB, mvRtB, endL, finB]
end
end Go.BmP
