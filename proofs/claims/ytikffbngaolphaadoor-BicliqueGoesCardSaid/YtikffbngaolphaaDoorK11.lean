/- The law BicliqueCloses over the machine by value. -/
import Derived.Test.YtikffbngaolphaaDoorK10
import Derived.Test.YtikffbngaolphaaDoorK09
set_option linter.unusedSimpArgs false
set_option linter.unusedVariables false
set_option maxRecDepth 100000
set_option maxHeartbeats 8000000
namespace Go.BmP
open Go.Am Go.Bm
theorem awake27 : callL cfgS nLaw27Awake [] [] = some (.bool true, []) := callL_iff.2 ⟨3000, by kernel_rfl⟩
section
attribute [local simp] codeL_seq codeL_reg codeL_blk codeL_skip codeL_ret codeL_exit codeL_cnd condL_b thenL_n thenL_e thenL_r blkL_n blkL_e blkL_r regL_s opsB stepB opB opP opnd opnds lend lendC get_nil' get_cons' put_nil' put_cons' mem_nil' mem_cons' putdB putB slowP hasOwn hasOwnL finO relab anyB anyE anyH anyR borOf borL inSlot HAND endR hasOwnE endK keepIn trim noPtr noPtrL noPtrE noPtrH binA arith unA eqB isNilB eqc lenB bndB bnd rdN rdc AV.cells fillB peek ldOK AV.leaf allLeaf fz pl plL drawB allCW cwF okDrawB okPair Fq.ok dstOff wrOff notSlot noneIn apartR oldBoxes O.reads Kd.reads E.slot slots slotO slotsP List.getD pairIn nilL okRes clean cleanL resV resVs tupOf mkEnv partsBor doCallB inpB getArgs doCallO frzA frzV frzL minA minF cont ownAt at_ setAt rel dropS relC dropAll frzP frzAll firstBor borIn borC borS borE borH handTo mapSt mapE mapH mapB mapBL sw rt fb mvB mvRt seesP inRt isRoot rootOf boxOf seesB rootsL Am.rep ovw flatCells_ints allLeaf_ints flatCells el grp updE isNilB inpV inpL stB okL unA orcA bndB plL_ints fzL stBox inCells wrap0 wrap1 wrapm1 take_snoc
theorem same27_run (a1 a2 b1 b2 : List Int) (h1 : a1.length < 4294967295) (h2 : a2.length < 4294967295) (h3 : b1.length < 4294967295) (h4 : b2.length < 4294967295) : callL cfgS nRef27Same [.agg [.list 1 (ints a1), .list 1 (ints a2)], .agg [.list 1 (ints b1), .list 1 (ints b2)]] [] = some (.bool (decide (a1 = b1 ∧ a2 = b2)), []) := by
  rw [callL_end oRef27Same sRef27Same (Nat.le_of_ble_eq_true rfl)]
  have c1 := cmp_run a1 b1 h1 h3
  have c2 := cmp_run a2 b2 h2 h4
  have e1 : cmpL a1 b1 = 0 ↔ a1 = b1 := cmpL_zero
  have e2 : cmpL a2 b2 = 0 ↔ a2 = b2 := cmpL_zero
  unfold qRef27Same cRef27Same
  by_cases k1 : cmpL a1 b1 = 0
  · by_cases k2 : cmpL a2 b2 = 0
    · have d : decide (a1 = b1 ∧ a2 = b2) = true := by simp [e1.1 k1, e2.1 k2]
      rw [d]
      simp [rRef27SameX0, rRef27SameX1, c1, c2, k1, k2, sRef02Cmp, iRef02Cmp, blk, eds_length, eds_get, edsAt, edAV, allLeaf_eds, cleanL_eds, cleanL_ints, ints_length, ints_get, intsAt, endL, finB]
    · have d : decide (a1 = b1 ∧ a2 = b2) = false := by simp; intro _ h; exact k2 (e2.2 h)
      rw [d]
      simp [rRef27SameX0, rRef27SameX1, c1, c2, k1, k2, sRef02Cmp, iRef02Cmp, blk, eds_length, eds_get, edsAt, edAV, allLeaf_eds, cleanL_eds, cleanL_ints, ints_length, ints_get, intsAt, endL, finB]
  · have d : decide (a1 = b1 ∧ a2 = b2) = false := by simp; intro h; exact absurd (e1.2 h) k1
    rw [d]
    simp [rRef27SameX0, rRef27SameX1, c1, c2, k1, sRef02Cmp, iRef02Cmp, blk, eds_length, eds_get, edsAt, edAV, allLeaf_eds, cleanL_eds, cleanL_ints, ints_length, ints_get, intsAt, endL, finB]
end
theorem rest_b (N : Nat) (Es : List Ed) (L : List Int) : Rest [b0 N Es L] := ⟨fun _ => rfl, rfl, fun _ _ => rfl, fun _ => rfl, fun _ _ => rfl⟩
def clH (l : List Int) (a N : Nat) (Es : List Ed) (L x1 x2 y1 y2 z1 z2 : List Int) : Heap := [dk l a, b0 N Es L, some [.list 1 (ints x1), .list 1 (ints x2)], some [.list 1 (ints y1), .list 1 (ints y2)], some [.list 1 (ints z1), .list 1 (ints z2)]]
theorem clR_up (N : Nat) (Es : List Ed) (L S : List Int) : Up (clR N Es L S) := bitL_up _
theorem clL_up (N : Nat) (Es : List Ed) (L S : List Int) : Up (clL N Es L S) := bitL_up _
theorem cl_sub {N : Nat} {Es : List Ed} {L S : List Int} (h : BOK N Es L) (hu : Up S) (hS : ∀ x ∈ S, x ∈ L) : ∀ x ∈ S, x ∈ clL N Es L S := fun x hx => (clL_mem h x).2 ⟨hS x hx, fun r hr => by
  have := ((clR_mem h hu hS r).1 hr).2.2 x hx
  unfold jn at *
  exact this.symm⟩
theorem clR_anti {N : Nat} {Es : List Ed} {L S T : List Int} (h : BOK N Es L) (hu : Up S) (hS : ∀ x ∈ S, x ∈ L) (hv : Up T) (hT : ∀ x ∈ T, x ∈ L) (hST : ∀ x ∈ S, x ∈ T) : ∀ x ∈ clR N Es L T, x ∈ clR N Es L S := fun x hx => by
  obtain ⟨k1, k2, k3⟩ := (clR_mem h hv hT x).1 hx
  exact (clR_mem h hu hS x).2 ⟨k1, k2, fun s hs => k3 s (hST s hs)⟩
theorem clL_L {N : Nat} {Es : List Ed} {L S : List Int} (h : BOK N Es L) : ∀ x ∈ clL N Es L S, x ∈ L := fun x hx => ((clL_mem h x).1 hx).1
theorem clR_idem {N : Nat} {Es : List Ed} {L S : List Int} (h : BOK N Es L) (hu : Up S) (hS : ∀ x ∈ S, x ∈ L) : clR N Es L (clL N Es L S) = clR N Es L S := by
  refine up_ext (clR_up _ _ _ _) (clR_up _ _ _ _) fun x => ⟨clR_anti h hu hS (clL_up _ _ _ _) (clL_L h) (cl_sub h hu hS) x, fun hx => ?_⟩
  obtain ⟨k1, k2, k3⟩ := (clR_mem h hu hS x).1 hx
  exact (clR_mem h (clL_up _ _ _ _) (clL_L h) x).2 ⟨k1, k2, fun s hs => by
    have := ((clL_mem h s).1 hs).2 x hx
    unfold jn at *
    exact this.symm⟩
theorem clL_idem {N : Nat} {Es : List Ed} {L S : List Int} (h : BOK N Es L) (hu : Up S) (hS : ∀ x ∈ S, x ∈ L) : clL N Es L (clL N Es L S) = clL N Es L S := by
  refine up_ext (clL_up _ _ _ _) (clL_up _ _ _ _) fun x => ?_
  rw [clL_mem h, clL_mem h, clR_idem h hu hS]
theorem clL_mono {N : Nat} {Es : List Ed} {L S T : List Int} (h : BOK N Es L) (hu : Up S) (hS : ∀ x ∈ S, x ∈ L) (hv : Up T) (hT : ∀ x ∈ T, x ∈ L) (hST : ∀ x ∈ S, x ∈ T) : ∀ x ∈ clL N Es L S, x ∈ clL N Es L T := fun x hx => by
  obtain ⟨k1, k2⟩ := (clL_mem h x).1 hx
  exact (clL_mem h x).2 ⟨k1, fun r hr => k2 r (clR_anti h hu hS hv hT hST r hr)⟩
theorem avLE_ints (l : List Int) : avLE (ints l) (ints l) = true := by
  induction l with
  | nil => rfl
  | cons x r ih => simp only [ints] at ih; simp [ints, avLE, avE, ih]
theorem avLE_eds (l : List Ed) : avLE (eds l) (eds l) = true := by
  induction l with
  | nil => rfl
  | cons x r ih => simp only [eds] at ih; simp [eds, edAV, avLE, avE, ih]
end Go.BmP
