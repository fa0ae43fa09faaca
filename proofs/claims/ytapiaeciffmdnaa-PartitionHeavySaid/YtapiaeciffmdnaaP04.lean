/- The law of a heavy node returns true. -/
import Derived.Test.YtapiaeciffmdnaaP03
set_option linter.unusedSimpArgs false
set_option linter.unusedVariables false
set_option maxRecDepth 100000
set_option maxHeartbeats 4000000
namespace Go.BmP
open Go.Am Go.Bm
theorem awake37 : callL cfgS nLaw37Awake [] [] = some (.bool true, []) := callL_iff.2 ⟨3000, by kernel_rfl⟩
def nH (w : Nat) (o : List Int) (m : Nat) : List Int := ((stE m).map fun e => o.getD e.2.toNat 0).foldl bump (List.replicate w 0)
theorem nH_length (w : Nat) (o : List Int) (m : Nat) : (nH w o m).length = w := by rw [nH, bumps_length, List.length_replicate]
theorem nH_succ (w : Nat) (o : List Int) (m : Nat) : nH w o (m + 1) = bump (nH w o m) (o.getD (m + 1) 0) := by
  unfold nH
  rw [stE_succ, List.map_append, List.foldl_append, List.map_singleton, List.foldl_cons, List.foldl_nil]
  rfl
theorem nH_bd (w : Nat) (o : List Int) (m : Nat) : ∀ x ∈ nH w o m, 0 ≤ x ∧ x ≤ (m : Int) := by
  have h := bumps_bd ((stE m).map fun e => o.getD e.2.toNat 0) (List.replicate w 0) 0 (by omega) (fun x hx => by rw [List.eq_of_mem_replicate hx]; omega)
  intro x hx
  have := h x hx
  rw [List.length_map, stE_length] at this
  omega
def hvSt (l : List Int) (a k w : Nat) (o : List Int) (m : Nat) (J : Env) : St := ⟨(7, .int .i64 k) :: (8, .int .i64 w) :: (10, .ptr 1 0) :: (11, .own 1 (ints (nH w o m))) :: (12, .ptr 2 0) :: (13, .int .i64 ((m + 1 : Nat) : Int)) :: J, [dk l a, some [.int .i64 w, .list 1 (ints o), .own 1 [.int .i64 0]], some [.int .i64 k, .own 2 (eds (stE m))]]⟩
section
attribute [local simp] codeL_seq codeL_reg codeL_blk codeL_skip codeL_ret codeL_exit codeL_cnd condL_b thenL_n thenL_e thenL_r blkL_n blkL_e blkL_r regL_s opsB stepB opB opP opnd opnds lend lendC get_nil' get_cons' put_nil' put_cons' mem_nil' mem_cons' putdB putB slowP hasOwn hasOwnL finO relab anyB anyE anyH anyR borOf borL inSlot HAND endR hasOwnE endK keepIn trim noPtr noPtrL noPtrE noPtrH binA arith unA eqB isNilB eqc lenB bndB bnd rdN rdc AV.cells fillB peek ldOK AV.leaf allLeaf fz pl plL drawB allCW cwF okDrawB okPair Fq.ok dstOff wrOff notSlot noneIn apartR oldBoxes O.reads Kd.reads E.slot slots slotO slotsP List.getD pairIn nilL okRes clean cleanL resV resVs tupOf mkEnv partsBor doCallB inpB getArgs doCallO frzA frzV frzL minA minF cont ownAt at_ setAt rel dropS relC dropAll frzP frzAll firstBor borIn borC borS borE borH handTo mapSt mapE mapH mapB mapBL sw rt fb mvB mvRt seesP inRt isRoot rootOf boxOf seesB rootsL Am.rep ovw flatCells_ints allLeaf_ints flatCells el grp updE isNilB inpV inpL stB okL unA orcA bndB plL_ints fzL stBox inCells wrap0 wrap1 wrapm1 take_snoc BIGB marks boxZ ldLab cellOf cellN CELLM boxIn isCell apartC frzR frzRL frzS frzC frzCL
theorem hv_round (l : List Int) (a k w : Nat) (hk : k ≤ 64) (o : List Int) (ho : o.length = k) (hb : ∀ x ∈ o, 0 ≤ x ∧ x < (w : Int)) (m : Nat) (hm : m + 1 < k) : codeL cfgS 0 lLaw37PartitionHeavyX0 (hvSt l a k w o m []) = some (.normal, hvSt l a k w o (m + 1) []) := by
  have k1 : ((m + 1 : Nat) : Int) < k := by omega
  have hw := wrapS (i := m + 1) (by omega)
  have lm : m + 1 < o.length := by omega
  have km : ((m + 1 : Nat) : Int) < o.length := by omega
  have gm : (ints o)[m + 1]? = some (.int .i64 (o.getD (m + 1) 0)) := by
    rw [ints_get, List.getElem?_eq_getElem lm]; simp [List.getD_eq_getElem?_getD, List.getElem?_eq_getElem lm]
  have gm' : ∀ h, (ints o)[m + 1]'h = .int .i64 (o.getD (m + 1) 0) := fun h => by
    have := List.getElem?_eq_getElem (l := ints o) h
    rw [gm] at this
    exact (Option.some.inj this).symm
  have hx := hb (o.getD (m + 1) 0) (by rw [List.getD_eq_getElem?_getD, List.getElem?_eq_getElem lm]; exact List.getElem_mem lm)
  obtain ⟨x, hxx⟩ : ∃ x : Nat, o.getD (m + 1) 0 = x := ⟨(o.getD (m + 1) 0).toNat, by omega⟩
  have ln := nH_length w o m
  have lb := nH_bd w o m
  have es := nH_succ w o m
  have lE := stE_length m
  have sn : eds (stE m) ++ [.agg [.int .i64 0, .int .i64 ((m + 1 : Nat) : Int)]] = eds (stE (m + 1)) := by rw [stE_succ, eds_snocM]
  have tk : (eds (stE (m + 1))).take (m + 1) = eds (stE (m + 1)) := List.take_of_length_le (by rw [eds_length, stE_length]; omega)
  have tko : (eds (stE m)).take m = eds (stE m) := List.take_of_length_le (by rw [eds_length, stE_length]; omega)
  have gE : (eds (stE m)).length = m := by rw [eds_length, stE_length]
  have hL : m + 1 ≤ 4294967296 := by omega
  have g5 := ints_length o
  unfold hvSt
  rw [es, hxx]
  rw [hxx] at hx gm gm'
  have lx : x < (nH w o m).length := by omega
  have k2 : (x : Int) < (nH w o m).length := by omega
  have hq := lb (nH w o m)[x] (List.getElem_mem lx)
  have hn1 : IntKind.i64.wrap ((nH w o m)[x] + 1) = (nH w o m)[x] + 1 := wrap_id (by omega) (by omega)
  have b1 : (ints (nH w o m)).set x (.int .i64 ((nH w o m)[x] + 1)) = ints (bump (nH w o m) x) := by
    unfold bump
    rw [show ((x : Int)).toNat = x by omega, List.getD_eq_getElem?_getD, List.getElem?_eq_getElem lx]
    simp [ints, List.map_set]
  have g6 : (ints (nH w o m))[x]? = some (.int .i64 (nH w o m)[x]) := by rw [ints_get, List.getElem?_eq_getElem lx]; rfl
  have g7 : ∀ h, (ints (nH w o m))[x]'h = .int .i64 (nH w o m)[x] := fun h => intsAt ..
  have g8 := ints_length (nH w o m)
  generalize bump (nH w o m) x = n2 at *
  generalize (nH w o m)[x] = z at *
  generalize nH w o m = n at *
  generalize eds (stE (m + 1)) = Y2 at *
  generalize eds (stE m) = Y at *
  unfold lLaw37PartitionHeavyX0 dk
  generalize ints n = NN at *
  generalize ints n2 = N2 at *
  generalize ints o = O at *
  clear es hxx
  generalize hqq : m + 1 = q at *
  have hw' : IntKind.i64.wrap ((q : Int) + 1) = (q : Int) + 1 := by rw [hw]; omega
  simp [rLaw37PartitionHeavyX0, rLaw37PartitionHeavyX1, rLaw37PartitionHeavyX2, rLaw37PartitionHeavyX3, rLaw37PartitionHeavyX4, rLaw37PartitionHeavyX5, rLaw37PartitionHeavyX6, rLaw37PartitionHeavyX7, rLaw37PartitionHeavyX8, rLaw37PartitionHeavyX9, rLaw37PartitionHeavyX10, rLaw37PartitionHeavyX11, rLaw37PartitionHeavyX12, rLaw37PartitionHeavyX13, rLaw37PartitionHeavyX14, rLaw37PartitionHeavyX15, rLaw37PartitionHeavyX16, hqq, hw', k1, k2, km, lm, hw, gm, gm', g5, sn, tk, tko, gE, hL, LIM, hn1, b1, g6, g7, g8, lx, idx, blk, plp, plpL, allB, notBox, swC, swS, seesC, inBox, relB, handBox, mvBB, mvRtB]
theorem hv_loop (l : List Int) (a k w : Nat) (hk : k ≤ 64) (h1 : 1 ≤ k) (o : List Int) (ho : o.length = k) (hb : ∀ x ∈ o, 0 ≤ x ∧ x < (w : Int)) : ∀ (j m : Nat), m + 1 + j = k → codeL cfgS 0 (.loop lLaw37PartitionHeavyX0) (hvSt l a k w o m []) = some (.exit 0, hvSt l a k w o (k - 1) [(45, .bool false)])
  | 0, m, hi => by
    obtain rfl : k = m + 1 := by omega
    rw [Nat.add_sub_cancel]
    refine loop_exit ?_
    unfold hvSt lLaw37PartitionHeavyX0 dk
    generalize ints (nH w o m) = NN at *
    generalize eds (stE m) = Y at *
    generalize ints o = O at *
    simp [rLaw37PartitionHeavyX0, rLaw37PartitionHeavyX1, rLaw37PartitionHeavyX2, rLaw37PartitionHeavyX3, rLaw37PartitionHeavyX4, rLaw37PartitionHeavyX5, rLaw37PartitionHeavyX6, rLaw37PartitionHeavyX7, rLaw37PartitionHeavyX8, rLaw37PartitionHeavyX9, rLaw37PartitionHeavyX10, rLaw37PartitionHeavyX11, rLaw37PartitionHeavyX12, rLaw37PartitionHeavyX13, rLaw37PartitionHeavyX14, rLaw37PartitionHeavyX15, rLaw37PartitionHeavyX16]
  | j + 1, m, hi => (loop_next (hv_round l a k w hk o ho hb m (by omega))).trans (hv_loop l a k w hk h1 o ho hb j (m + 1) (by omega))
end
end Go.BmP
