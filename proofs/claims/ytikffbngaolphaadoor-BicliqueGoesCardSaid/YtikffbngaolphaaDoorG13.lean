/- What behind of biclique returns; the boxes of a walk. -/
import Derived.Test.YtikffbngaolphaaDoorK12
import Derived.Test.YtikffbngaolphaaDoorK09
set_option linter.unusedSimpArgs false
set_option linter.unusedVariables false
set_option maxRecDepth 100000
set_option maxHeartbeats 4000000
namespace Go.BmP
open Go.Am Go.Bm
section
attribute [local simp] codeL_seq codeL_reg codeL_blk codeL_skip codeL_ret codeL_exit codeL_cnd condL_b thenL_n thenL_e thenL_r blkL_n blkL_e blkL_r regL_s opsB stepB opB opP opnd opnds lend lendC get_nil' get_cons' put_nil' put_cons' mem_nil' mem_cons' putdB putB slowP hasOwn hasOwnL finO relab anyB anyE anyH anyR borOf borL inSlot HAND endR hasOwnE endK keepIn trim noPtr noPtrL noPtrE noPtrH binA arith unA eqB isNilB eqc lenB bndB bnd rdN rdc AV.cells fillB peek ldOK AV.leaf allLeaf fz pl plL drawB allCW cwF okDrawB okPair Fq.ok dstOff wrOff notSlot noneIn apartR oldBoxes O.reads Kd.reads E.slot slots slotO slotsP List.getD pairIn nilL okRes clean cleanL resV resVs tupOf mkEnv partsBor doCallB inpB getArgs doCallO frzA frzV frzL minA minF cont ownAt at_ setAt rel dropS relC dropAll frzP frzAll firstBor borIn borC borS borE borH handTo mapSt mapE mapH mapB mapBL sw rt fb mvB mvRt seesP inRt isRoot rootOf boxOf seesB rootsL Am.rep ovw flatCells_ints allLeaf_ints flatCells el grp updE isNilB inpV inpL stB okL unA orcA bndB plL_ints fzL stBox inCells wrap0 wrap1 wrapm1 take_snoc
theorem behind_run (P : List Int) (hb : ∀ v ∈ P, 0 ≤ v ∧ v < 64) (hl : P.length < 4294967295) : callL cfgS nBicliqueBehind [.list 1 (ints P)] [] = some (.int .u64 (bh P : Nat), []) := by
  rw [callL_end oBicliqueBehind sBicliqueBehind (Nat.le_of_ble_eq_true rfl)]
  by_cases h0 : P = []
  · subst h0
    rw [bh_nil]
    unfold qBicliqueBehind cBicliqueBehind
    simp [rBicliqueBehindX0, rBicliqueBehindX1, rBicliqueBehindX2, rBicliqueBehindX3, ints_nil, blk, eds_length, eds_get, edsAt, edAV, allLeaf_eds, cleanL_eds, cleanL_ints, ints_length, ints_get, intsAt, endL, finB]
  · obtain ⟨n, hn⟩ : ∃ n, P.length = n + 1 := by
      cases P with
      | nil => exact absurd rfl h0
      | cons x r => exact ⟨r.length, rfl⟩
    obtain ⟨v, hv⟩ : ∃ v, P[n]? = some v := ⟨_, List.getElem?_eq_getElem (by omega)⟩
    have hv' : ∀ h : n < P.length, P[n] = v := fun h => by rw [List.getElem?_eq_getElem h] at hv; exact Option.some.inj hv
    have hl2 : P.getLast? = some v := by rw [List.getLast?_eq_getElem?, hn]; exact hv
    have eb : bh P = 2 ^ (v.toNat + 1) - 1 := by unfold bh; rw [hl2]
    obtain ⟨v0, v1⟩ := hb v (List.mem_of_getLast? hl2)
    have v0' : ¬ v < 0 := by omega
    have p0 : 0 < 2 ^ v.toNat := Nat.two_pow_pos _
    have p1 : 2 ^ (v.toNat + 1) ≤ 2 ^ 64 := Nat.pow_le_pow_right (by decide) (by omega)
    have p2 : 2 ^ (v.toNat + 1) = 2 ^ v.toNat * 2 := Nat.pow_succ 2 v.toNat
    have s1 : IntKind.u64.wrap (2 * 2 ^ (min v.toNat 64)) = IntKind.u64.wrap ((2 ^ (v.toNat + 1) : Nat) : Int) := by
      congr 1
      rw [show min v.toNat 64 = v.toNat by omega, p2]
      simp only [Int.natCast_mul, Int.natCast_pow]
      exact Int.mul_comm _ _
    have s2 : IntKind.u64.wrap (IntKind.u64.wrap ((2 ^ (v.toNat + 1) : Nat) : Int) - 1) = ((2 ^ (v.toNat + 1) - 1 : Nat) : Int) := by
      rw [IntKind.wrap_u64, IntKind.wrap_u64]; omega
    have w1 := wrapN (i := n) (by omega)
    have n1 : ¬ ((n : Int) + 1 = 0) := by omega
    have n2 : (n : Int) < (n : Int) + 1 := by omega
    have e3 : (n : Int) + 1 - 1 = n := by omega
    have i1 := idx_lt (k := .i64) (i := (n : Int)) (n := n + 1) (by omega) (by omega)
    rw [eb]
    generalize IntKind.u64.wrap ((2 ^ (v.toNat + 1) : Nat) : Int) = W at *
    generalize 2 ^ (v.toNat + 1) - 1 = W1 at *
    clear p0 p1 p2 eb
    unfold qBicliqueBehind cBicliqueBehind
    simp [rBicliqueBehindX0, rBicliqueBehindX1, rBicliqueBehindX2, rBicliqueBehindX3, hn, n1, n2, e3, w1, i1, hv, hv', s1, s2, v0', h0, IntKind.bits, blk, eds_length, eds_get, edsAt, edAV, allLeaf_eds, cleanL_eds, cleanL_ints, ints_length, ints_get, intsAt, endL, finB]
end
/-- A pair as the machine holds it. -/
def pr (S T : List Int) : AV := .agg [.list 1 (ints S), .list 1 (ints T)]
def prs (N : Nat) (Es : List Ed) (L : List Int) (o : List (List Int)) : List AV := o.map fun S => pr S (clR N Es L S)
theorem prs_length (N : Nat) (Es : List Ed) (L : List Int) (o : List (List Int)) : (prs N Es L o).length = o.length := List.length_map _
theorem prs_snoc (N : Nat) (Es : List Ed) (L : List Int) (o : List (List Int)) (S : List Int) : prs N Es L o ++ [.agg [.list 1 (ints S), .list 1 (ints (clR N Es L S))]] = prs N Es L (o ++ [S]) := by simp [prs, pr]
/-- Cells that refer to nothing. -/
structure Plain (x : List AV) : Prop where
  m : ∀ g, mapBL g x = x
  b : borL x = []
  n : ∀ b, noPtrL b x = true
  c : ∀ p f j, borC p f j x = none
/-- What a function value holds: pointers to the first boxes. -/
structure PlainC (x : List AV) : Prop where
  m : ∀ g, mapBL g x = x
  b : borL x = []
  o : hasOwnL x = false
  p : plpL x = true
  l : x.map nilL = x
  n : ∀ b, 3 ≤ b → noPtrL b x = true
/-- The boxes of a function that walks. -/
def eH (N : Nat) (Es : List Ed) (L : List Int) (x1 x2 : List AV) (nT : Nat) (caps : List AV) (after : List Int) (P : List Int) : Heap := [some [.int .i64 N, .list 2 (eds Es), .list 1 (ints L)], some x1, some x2, some (sdAV (adjE N Es) (msk L) (rgt N L)), some [.list 1 (ints after)], some [.func (.func nT) [] caps], some [.own 1 (ints P)], some [.func (.func nBicliqueSidesEach1) [] [.ptr 3 0, .ptr 6 0, .ptr 4 0, .ptr 5 0, .ptr 7 0]]]
/-- What the walk wants of a function that it hands the pairs to. -/
structure TakeOK {σ : Type} (N : Nat) (Es : List Ed) (L : List Int) (after : List Int) (x1 : List AV) (nT : Nat) (caps : List AV) (X2 : σ → List AV) (tk : σ → List Int → σ × Bool) (Inv : σ → Prop) : Prop where
  fn : ∃ q, cfgS.fn nT = some (⟨true, false, false⟩, q)
  px1 : Plain x1
  px2 : ∀ s, Plain (X2 s)
  cp : PlainC caps
  run : ∀ s S P, Inv s → S ≠ [] → S.length ≤ 64 → callL cfgS nT (.agg [.list 1 (ints S), .list 1 (ints (clR N Es L S))] :: caps) (eH N Es L x1 (X2 s) nT caps after P) = some (.bool (tk s S).2, eH N Es L x1 (X2 (tk s S).1) nT caps after P)
  inv : ∀ s S, Inv s → S ≠ [] → S.length ≤ 64 → (tk s S).2 = true → Inv (tk s S).1
end Go.BmP
