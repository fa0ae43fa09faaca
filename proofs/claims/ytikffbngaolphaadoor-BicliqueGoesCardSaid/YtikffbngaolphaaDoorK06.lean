/- What field.Sided returns: a bipartite graph. -/
import Derived.Test.YtikffbngaolphaaDoorK01
import Derived.Test.YtikffbngaolphaaDoorK05
import Derived.Test.YtikffbngaolphaaDoorBicP
set_option linter.unusedSimpArgs false
set_option linter.unusedVariables false
set_option maxRecDepth 100000
set_option maxHeartbeats 4000000
namespace Go.BmP
open Go.Am Go.Bm
/-- For each node, whether it is in a set. -/
def bls (N : Nat) (T : List Int) : List AV := (List.range N).map fun j => .bool (decide (((j : Nat) : Int) ∈ T))
theorem bls_length (N : Nat) (T : List Int) : (bls N T).length = N := by simp [bls]
theorem bls_get (N : Nat) (T : List Int) (i : Nat) (h : i < N) : (bls N T)[i]? = some (.bool (decide ((i : Int) ∈ T))) := by
  simp [bls, h]
theorem bls_at (N : Nat) (T : List Int) (i : Nat) (h : i < (bls N T).length) : (bls N T)[i] = .bool (decide ((i : Int) ∈ T)) := by simp [bls]
theorem bls_nil (N : Nat) : List.replicate N (AV.bool false) = bls N [] := by
  apply List.ext_getElem?
  intro i
  simp only [bls, List.getElem?_replicate, List.getElem?_map, List.not_mem_nil, decide_false]
  by_cases h : i < N
  · simp [h]
  · simp [h]
theorem bls_set (N : Nat) (T : List Int) (x : Int) (h : 0 ≤ x ∧ x < (N : Int)) : (bls N T).set x.toNat (.bool true) = bls N (T ++ [x]) := by
  apply List.ext_getElem?
  intro i
  simp only [List.getElem?_set, bls_length]
  by_cases hi : x.toNat = i
  · subst hi
    rw [if_pos rfl, if_pos (by omega), bls_get N _ _ (by omega)]
    simp [show ((x.toNat : Nat) : Int) = x by omega]
  · rw [if_neg hi]
    by_cases hN : i < N
    · rw [bls_get N _ _ hN, bls_get N _ _ hN]
      have : ¬ (i : Int) = x := by omega
      simp [this]
    · rw [List.getElem?_eq_none (by rw [bls_length]; omega), List.getElem?_eq_none (by rw [bls_length]; omega)]
theorem cleanL_bls (N : Nat) (T : List Int) : cleanL (bls N T) = true := by
  unfold bls
  induction List.range N with
  | nil => rfl
  | cons x r ih => simp only [List.map_cons, cleanL, clean, Bool.true_and]; exact ih
def bx0 : Blk := some [.int .i64 0, .own 2 [], .own 1 []]
def bxS (S : List Int) : Blk := some [.int .i64 0, .own 2 [], .list 1 (ints S)]
theorem rest_nil : Rest [] := ⟨fun _ => rfl, rfl, fun _ _ => rfl, fun _ => rfl, fun _ _ => rfl⟩
theorem rest_1 : Rest [bx0] := ⟨fun _ => rfl, rfl, fun _ _ => rfl, fun _ => rfl, fun _ _ => rfl⟩
theorem rest_2 (S : List Int) : Rest [bx0, bxS S] := ⟨fun _ => rfl, rfl, fun _ _ => rfl, fun _ => rfl, fun _ _ => rfl⟩
section
attribute [local simp] codeL_seq codeL_reg codeL_blk codeL_skip codeL_ret codeL_exit codeL_cnd condL_b thenL_n thenL_e thenL_r blkL_n blkL_e blkL_r regL_s opsB stepB opB opP opnd opnds lend lendC get_nil' get_cons' put_nil' put_cons' mem_nil' mem_cons' putdB putB slowP hasOwn hasOwnL finO relab anyB anyE anyH anyR borOf borL inSlot HAND endR hasOwnE endK keepIn trim noPtr noPtrL noPtrE noPtrH binA arith unA eqB isNilB eqc lenB bndB bnd rdN rdc AV.cells fillB peek ldOK AV.leaf allLeaf fz pl plL drawB allCW cwF okDrawB okPair Fq.ok dstOff wrOff notSlot noneIn apartR oldBoxes O.reads Kd.reads E.slot slots slotO slotsP List.getD pairIn nilL okRes clean cleanL resV resVs tupOf mkEnv partsBor doCallB inpB getArgs doCallO frzA frzV frzL minA minF cont ownAt at_ setAt rel dropS relC dropAll frzP frzAll firstBor borIn borC borS borE borH handTo mapSt mapE mapH mapB mapBL sw rt fb mvB mvRt seesP inRt isRoot rootOf boxOf seesB rootsL Am.rep ovw flatCells_ints allLeaf_ints flatCells el grp updE isNilB inpV inpL stB okL unA orcA bndB plL_ints fzL stBox inCells wrap0 wrap1 wrapm1 take_snoc
theorem left_loop (l : List Int) (a N : Nat) (hN : N ≤ 64) (S : List Int) (hS : ∀ x ∈ S, 0 ≤ x ∧ x < (N : Int)) (hSl : S.length ≤ 64) : ∀ (k i : Nat), i + k = S.length → codeL cfgS 1 (.loop lFieldSidedX0) ⟨[(0, .ptr 0 0), (4, .ptr 1 0), (5, .int .i64 N), (6, .ptr 2 0), (7, .own 2 []), (8, .own 1 (bls N (S.take i))), (9, .int .i64 i)], [dk l a, bx0, bxS S]⟩ =
    some (.exit 0, ⟨[(0, .ptr 0 0), (4, .ptr 1 0), (5, .int .i64 N), (6, .ptr 2 0), (7, .own 2 []), (8, .own 1 (bls N S)), (9, .int .i64 S.length), (27, .bool false)], [dk l a, bx0, bxS S]⟩)
  | 0, i, hi => by
    obtain rfl : i = S.length := by omega
    rw [List.take_length]
    exact loop_exit (by unfold lFieldSidedX0 dk bx0 bxS; simp [rFieldSidedX0, rFieldSidedX1, rFieldSidedX2, rFieldSidedX3, rFieldSidedX4, rFieldSidedX5, rFieldSidedX6, rFieldSidedX7, rFieldSidedX8, rFieldSidedX9, rFieldSidedX10, rFieldSidedX11, rFieldSidedX12, rFieldSidedX13, rFieldSidedX14, rFieldSidedX15, rFieldSidedX16, rFieldSidedX17, rFieldSidedX18, rFieldSidedX19, bls_length, blk, eds_length, eds_get, edsAt, edAV, allLeaf_eds, cleanL_eds, cleanL_ints, ints_length, ints_get, intsAt, endL, finB])
  | k + 1, i, hi => by
    have hlt : i < S.length := by omega
    have h1 : (i : Int) < S.length := by omega
    have hw := wrapS (i := i) (by omega)
    have ih := left_loop l a N hN S hS hSl k (i + 1) (by omega)
    have hx := hS S[i] (List.getElem_mem hlt)
    have hx0 : 0 ≤ S[i] := hx.1
    have hx1 : S[i] < (N : Int) := hx.2
    have hx2 : S[i].toNat < N := by omega
    have hb := bls_set N (S.take i) S[i] hx
    have hg := bls_get N (S.take i) S[i].toNat hx2
    rw [show S.take (i + 1) = S.take i ++ [S[i]] by rw [List.take_add_one, List.getElem?_eq_getElem hlt]; rfl] at ih
    exact (loop_next (by unfold lFieldSidedX0 dk bx0 bxS; simp [rFieldSidedX0, rFieldSidedX1, rFieldSidedX2, rFieldSidedX3, rFieldSidedX4, rFieldSidedX5, rFieldSidedX6, rFieldSidedX7, rFieldSidedX8, rFieldSidedX9, rFieldSidedX10, rFieldSidedX11, rFieldSidedX12, rFieldSidedX13, rFieldSidedX14, rFieldSidedX15, rFieldSidedX16, rFieldSidedX17, rFieldSidedX18, rFieldSidedX19, h1, hlt, hw, hx0, hx1, hx2, hb, hg, bls_length, idx, fz, pl, AV.leaf, blk, eds_length, eds_get, edsAt, edAV, allLeaf_eds, cleanL_eds, cleanL_ints, ints_length, ints_get, intsAt, endL, finB])).trans ih
end
end Go.BmP
