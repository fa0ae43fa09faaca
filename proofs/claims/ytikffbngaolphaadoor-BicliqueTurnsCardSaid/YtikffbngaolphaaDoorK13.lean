/- What behind of biclique returns, and what All does with a pair that it is handed. -/
import Derived.Test.YtikffbngaolphaaDoorK12
import Derived.Test.YtikffbngaolphaaDoorK09
set_option linter.unusedSimpArgs false
set_option linter.unusedVariables false
set_option maxRecDepth 100000
set_option maxHeartbeats 4000000
namespace Go.BmP
open Go.Am Go.Bm
section
attribute [local simp] codeL_seq codeL_reg codeL_blk codeL_skip codeL_ret codeL_exit codeL_cnd condL_b thenL_n thenL_e thenL_r blkL_n blkL_e blkL_r regL_s opsB stepB opB opP opnd opnds lend lendC get_nil' get_cons' put_nil' put_cons' mem_nil' mem_cons' putdB putB slowP hasOwn hasOwnL finO relab anyB anyE anyH anyR borOf borL inSlot HAND endR hasOwnE endK keepIn trim noPtr noPtrL noPtrE noPtrH binA arith unA eqB isNilB eqc lenB bndB bnd rdN rdc AV.cells fillB peek ldOK AV.leaf allLeaf fz pl plL drawB allCW cwF okDrawB okPair Fq.ok dstOff wrOff notSlot noneIn apartR oldBoxes O.reads Kd.reads E.slot slots slotO slotsP List.getD pairIn nilL okRes clean cleanL resV resVs tupOf mkEnv partsBor doCallB inpB getArgs doCallO frzA frzV frzL minA minF cont ownAt at_ setAt rel dropS relC dropAll frzP frzAll firstBor borIn borC borS borE borH handTo mapSt mapE mapH mapB mapBL sw rt fb mvB mvRt seesP inRt isRoot rootOf boxOf seesB rootsL Am.rep ovw flatCells_ints allLeaf_ints flatCells el grp updE isNilB inpV inpL stB okL unA orcA bndB plL_ints fzL stBox inCells wrap0 wrap1 wrapm1 take_snoc
theorem behind_run (P : List Int) (hb : ∀ v ∈ P, 0 ≤ v ∧ v < 64) (hl : P.length < 4294967295) : callL cfgS nBicliqueBehind [.list 1 (ints P)] [] = some (.int .u64 (bh P : Nat), []) := by
  rw [callL_end oBicliqueBehind sBicliqueBehind (Nat.le_of_ble_eq_true rfl)]
  by_cases h0 : P = []
  · subst h0
    rw [bh_nil]
    unfold qBicliqueBehind cBicliqueBehind
    simp [rBicliqueBehindX0, rBicliqueBehindX1, rBicliqueBehindX2, rBicliqueBehindX3, ints_nil, blk, eds_length, eds_get, edsAt, edAV, allLeaf_eds, cleanL_eds, cleanL_ints, ints_length, ints_get, intsAt, endL, finB]
  · obtain ⟨n, hn⟩ : ∃ n, P.length = n + 1 := by
      cases P with
      | nil => exact absurd rfl h0
      | cons x r => exact ⟨r.length, rfl⟩
    obtain ⟨v, hv⟩ : ∃ v, P[n]? = some v := ⟨_, List.getElem?_eq_getElem (by omega)⟩
    have hv' : ∀ h : n < P.length, P[n] = v := fun h => by rw [List.getElem?_eq_getElem h] at hv; exact Option.some.inj hv
    have hl2 : P.getLast? = some v := by rw [List.getLast?_eq_getElem?, hn]; exact hv
    have eb : bh P = 2 ^ (v.toNat + 1) - 1 := by unfold bh; rw [hl2]
    obtain ⟨v0, v1⟩ := hb v (List.mem_of_getLast? hl2)
    have v0' : ¬ v < 0 := by omega
    have p0 : 0 < 2 ^ v.toNat := Nat.two_pow_pos _
    have p1 : 2 ^ (v.toNat + 1) ≤ 2 ^ 64 := Nat.pow_le_pow_right (by decide) (by omega)
    have p2 : 2 ^ (v.toNat + 1) = 2 ^ v.toNat * 2 := Nat.pow_succ 2 v.toNat
    have s1 : IntKind.u64.wrap (2 * 2 ^ (min v.toNat 64)) = IntKind.u64.wrap ((2 ^ (v.toNat + 1) : Nat) : Int) := by
      congr 1
      rw [show min v.toNat 64 = v.toNat by omega, p2]
      simp only [Int.natCast_mul, Int.natCast_pow]
      exact Int.mul_comm _ _
    have s2 : IntKind.u64.wrap (IntKind.u64.wrap ((2 ^ (v.toNat + 1) : Nat) : Int) - 1) = ((2 ^ (v.toNat + 1) - 1 : Nat) : Int) := by
      rw [IntKind.wrap_u64, IntKind.wrap_u64]; omega
    have w1 := wrapN (i := n) (by omega)
    have n1 : ¬ ((n : Int) + 1 = 0) := by omega
    have n2 : (n : Int) < (n : Int) + 1 := by omega
    have e3 : (n : Int) + 1 - 1 = n := by omega
    have i1 := idx_lt (k := .i64) (i := (n : Int)) (n := n + 1) (by omega) (by omega)
    rw [eb]
    generalize IntKind.u64.wrap ((2 ^ (v.toNat + 1) : Nat) : Int) = W at *
    generalize 2 ^ (v.toNat + 1) - 1 = W1 at *
    clear p0 p1 p2 eb
    unfold qBicliqueBehind cBicliqueBehind
    simp [rBicliqueBehindX0, rBicliqueBehindX1, rBicliqueBehindX2, rBicliqueBehindX3, hn, n1, n2, e3, w1, i1, hv, hv', s1, s2, v0', h0, IntKind.bits, blk, eds_length, eds_get, edsAt, edAV, allLeaf_eds, cleanL_eds, cleanL_ints, ints_length, ints_get, intsAt, endL, finB]
end
/-- A pair as the machine holds it. -/
def pr (S T : List Int) : AV := .agg [.list 1 (ints S), .list 1 (ints T)]
def prs (N : Nat) (Es : List Ed) (L : List Int) (o : List (List Int)) : List AV := o.map fun S => pr S (clR N Es L S)
theorem prs_length (N : Nat) (Es : List Ed) (L : List Int) (o : List (List Int)) : (prs N Es L o).length = o.length := List.length_map _
theorem prs_snoc (N : Nat) (Es : List Ed) (L : List Int) (o : List (List Int)) (S : List Int) : prs N Es L o ++ [.agg [.list 1 (ints S), .list 1 (ints (clR N Es L S))]] = prs N Es L (o ++ [S]) := by simp [prs, pr]
/-- The boxes of All while it walks. -/
def eH (N : Nat) (Es : List Ed) (L : List Int) (most : Int) (after : List Int) (o : List (List Int)) (P : List Int) : Heap := [some [.int .i64 N, .list 2 (eds Es), .list 1 (ints L)], some [.int .i64 most], some [.own 2 (prs N Es L o)], some (sdAV (adjE N Es) (msk L) (rgt N L)), some [.list 1 (ints after)], some [.func (.func nBicliqueAll1) [] [.ptr 2 0, .ptr 1 0]], some [.own 1 (ints P)], some [.func (.func nBicliqueSidesEach1) [] [.ptr 3 0, .ptr 6 0, .ptr 4 0, .ptr 5 0, .ptr 7 0]]]
section
attribute [local simp] codeL_seq codeL_reg codeL_blk codeL_skip codeL_ret codeL_exit codeL_cnd condL_b thenL_n thenL_e thenL_r blkL_n blkL_e blkL_r regL_s opsB stepB opB opP opnd opnds lend lendC get_nil' get_cons' put_nil' put_cons' mem_nil' mem_cons' putdB putB slowP hasOwn hasOwnL finO relab anyB anyE anyH anyR borOf borL inSlot HAND endR hasOwnE endK keepIn trim noPtr noPtrL noPtrE noPtrH binA arith unA eqB isNilB eqc lenB bndB bnd rdN rdc AV.cells fillB peek ldOK AV.leaf allLeaf fz pl plL drawB allCW cwF okDrawB okPair Fq.ok dstOff wrOff notSlot noneIn apartR oldBoxes O.reads Kd.reads E.slot slots slotO slotsP List.getD pairIn nilL okRes clean cleanL resV resVs tupOf mkEnv partsBor doCallB inpB getArgs doCallO frzA frzV frzL minA minF cont ownAt at_ setAt rel dropS relC dropAll frzP frzAll firstBor borIn borC borS borE borH handTo mapSt mapE mapH mapB mapBL sw rt fb mvB mvRt seesP inRt isRoot rootOf boxOf seesB rootsL Am.rep ovw flatCells_ints allLeaf_ints flatCells el grp updE isNilB inpV inpL stB okL unA orcA bndB plL_ints fzL stBox inCells wrap0 wrap1 wrapm1 take_snoc
theorem take_run (N : Nat) (Es : List Ed) (L : List Int) (most : Int) (after : List Int) (o : List (List Int)) (P S : List Int) (ho : o.length < 4294967295) : callL cfgS nBicliqueAll1 [.agg [.list 1 (ints S), .list 1 (ints (clR N Es L S))], .ptr 2 0, .ptr 1 0] (eH N Es L most after o P) = some (.bool (decide ((o.length : Int) + 1 ≤ most)), eH N Es L most after (o ++ [S]) P) := by
  rw [callL_end oBicliqueAll1 sBicliqueAll1 (Nat.le_of_ble_eq_true rfl)]
  have h1 : o.length + 1 ≤ 4294967296 := by omega
  have h2 := prs_snoc N Es L o S
  have h3 := prs_length N Es L o
  have ht : (prs N Es L o).take o.length = prs N Es L o := by rw [← h3, List.take_length]
  have h4 := prs_length N Es L (o ++ [S])
  have h5 : (prs N Es L (o ++ [S])).take (o.length + 1) = prs N Es L (o ++ [S]) := by
    have := List.take_length (l := prs N Es L (o ++ [S]))
    rwa [h4, List.length_append] at this
  unfold eH sdAV
  generalize hX : prs N Es L (o ++ [S]) = X at *
  generalize hY : prs N Es L o = Y at *
  unfold qBicliqueAll1 cBicliqueAll1
  simp [rBicliqueAll1X0, rBicliqueAll1X1, rBicliqueAll1X2, h1, h2, h3, ht, h4, h5, LIM, finS, plp, plpL, swS, mapH, mapBL, mapB, blk, eds_length, eds_get, edsAt, edAV, allLeaf_eds, cleanL_eds, cleanL_ints, ints_length, ints_get, intsAt, endL, finB]
end
end Go.BmP
