/- The regions of the law of going through that copy lists. -/
import Derived.Test.YtiohfglnoneanaaDoorE03
set_option linter.unusedSimpArgs false
set_option linter.unusedVariables false
set_option maxRecDepth 100000
set_option maxHeartbeats 8000000
namespace Go.BmP
open Go.Am Go.Bm
theorem flatCells_lls (o : List (List Int)) : flatCells (lls o) = lls o := by
  induction o with
  | nil => rfl
  | cons S r ih =>
    have e : lls (S :: r) = .list 1 (ints S) :: lls r := rfl
    rw [e]
    simp only [flatCells, AV.cells, ih, List.singleton_append]
theorem allLeaf_lls (o : List (List Int)) : allLeaf (lls o) = true := by
  induction o with
  | nil => rfl
  | cons S r ih =>
    have e : lls (S :: r) = .list 1 (ints S) :: lls r := rfl
    rw [e]
    simp [allLeaf, AV.leaf] at ih ⊢
    exact ih
theorem lls_tk (o : List (List Int)) (n : Nat) : (lls o).take n = lls (o.take n) := by simp [lls]
theorem lls_dr (o : List (List Int)) (n : Nat) : (lls o).drop n = lls (o.drop n) := by simp [lls]
theorem lls_ap (o p : List (List Int)) : lls o ++ lls p = lls (o ++ p) := by simp [lls]
section
attribute [local simp] codeL_seq codeL_reg codeL_blk codeL_skip codeL_ret codeL_exit codeL_cnd condL_b thenL_n thenL_e thenL_r blkL_n blkL_e blkL_r regL_s opsB stepB opB opP opnd opnds lend lendC get_nil' get_cons' put_nil' put_cons' mem_nil' mem_cons' putdB putB slowP hasOwn hasOwnL finO relab anyB anyE anyH anyR borOf borL inSlot HAND endR hasOwnE endK keepIn trim noPtr noPtrL noPtrE noPtrH binA arith unA eqB isNilB eqc lenB bndB bnd rdN rdc AV.cells fillB peek ldOK AV.leaf allLeaf fz pl plL drawB allCW cwF okDrawB okPair Fq.ok dstOff wrOff notSlot noneIn apartR oldBoxes O.reads Kd.reads E.slot slots slotO slotsP List.getD pairIn nilL okRes clean cleanL resV resVs tupOf mkEnv partsBor doCallB inpB getArgs doCallO frzA frzV frzL minA minF cont ownAt at_ setAt rel dropS relC dropAll frzP frzAll firstBor borIn borC borS borE borH handTo mapSt mapE mapH mapB mapBL sw rt fb mvB mvRt seesP inRt isRoot rootOf boxOf seesB rootsL Am.rep ovw flatCells_ints allLeaf_ints flatCells el grp updE isNilB inpV inpL stB okL unA orcA bndB plL_ints fzL stBox inCells wrap0 wrap1 wrapm1 take_snoc BIGB marks
theorem gX19 (l : List Int) (a N : Nat) (Es : List Ed) (o : List (List Int)) (n K : Nat) (hX : o.length = n) (kn : K < n) (hn : n ≤ 4096) : codeL cfgS 0 (.reg rLaw24CliquesGoesX19 true [(8, 8), (9, 9), (3, 4), (3, 5), (3, 6), (3, 7)] [4, 5, 12, 13, 14]) ⟨[(4, .ptr 1 0), (5, .list 1 (lls o)), (12, .int .i64 n), (13, .int .i64 K)], [dk l a, gb N Es]⟩ = some (.normal, ⟨[(4, .ptr 1 0), (5, .list 1 (lls o)), (12, .int .i64 n), (13, .int .i64 K), (14, .own 1 (lls (o.take K ++ o.drop (K + 1))))], [dk l a, gb N Es]⟩) := by
  have wK := wrapS (i := K) (by omega)
  have kI : (K : Int) ≤ n := by omega
  have kI1 : (K : Int) + 1 ≤ n := by omega
  have kI2 : ((K + 1 : Nat) : Int) ≤ n := by omega
  have kN1 : K + 1 ≤ n := by omega
  have kN : K ≤ n := by omega
  have m1 : min K n = K := by omega
  have k0 : (0 : Int) ≤ (K : Int) + 1 := by omega
  have tn : o.take n = o := List.take_of_length_le (by omega)
  have L1 : K ≤ 4294967296 := by omega
  have L2 : K + (n - (K + 1)) ≤ 4294967296 := by omega
  have t1 : ∀ m, (o.take m).take m = o.take m := fun m => by rw [List.take_take, Nat.min_self]
  have t2 : (o.drop (K + 1)).take (n - (K + 1)) = o.drop (K + 1) := List.take_of_length_le (by simp; omega)
  have t3 : (o.take K ++ o.drop (K + 1)).take (K + (n - (K + 1))) = o.take K ++ o.drop (K + 1) := List.take_of_length_le (by simp; omega)
  unfold dk gb
  simp [rLaw24CliquesGoesX0, rLaw24CliquesGoesX1, rLaw24CliquesGoesX2, rLaw24CliquesGoesX3, rLaw24CliquesGoesX4, rLaw24CliquesGoesX5, rLaw24CliquesGoesX6, rLaw24CliquesGoesX7, rLaw24CliquesGoesX8, rLaw24CliquesGoesX9, rLaw24CliquesGoesX10, rLaw24CliquesGoesX11, rLaw24CliquesGoesX12, rLaw24CliquesGoesX13, rLaw24CliquesGoesX14, rLaw24CliquesGoesX15, rLaw24CliquesGoesX16, rLaw24CliquesGoesX17, rLaw24CliquesGoesX18, rLaw24CliquesGoesX19, rLaw24CliquesGoesX20, rLaw24CliquesGoesX21, rLaw24CliquesGoesX22, rLaw24CliquesGoesX23, rLaw24CliquesGoesX24, rLaw24CliquesGoesX25, hX, wK, k0, tn, kI, kI1, kI2, kN1, kN, m1, L1, L2, t1, t2, t3, LIM, lls_length, lls_tk, lls_dr, lls_ap, flatCells_lls, allLeaf_lls, List.length_take, List.length_drop, blk, eds_length, eds_get, edsAt, edAV, allLeaf_eds, cleanL_eds, cleanL_ints, ints_length, ints_get, intsAt, endL, finB]
theorem gX20 (l : List Int) (a N : Nat) (Es : List Ed) (o p : List (List Int)) (n K : Nat) (hX : o.length = n) (kn : K < n) (hn : n ≤ 4096) : codeL cfgS 0 (.reg rLaw24CliquesGoesX20 true [(8, 8), (9, 9), (4, 5), (4, 6), (4, 7)] [4, 5, 12, 14, 15]) ⟨[(4, .ptr 1 0), (5, .list 1 (lls o)), (12, .int .i64 n), (13, .int .i64 K), (14, .own 1 (lls p))], [dk l a, gb N Es]⟩ = some (.normal, ⟨[(4, .ptr 1 0), (5, .list 1 (lls o)), (12, .int .i64 n), (14, .own 1 (lls p)), (15, .own 1 (lls (o.take (K + 1) ++ o.drop K)))], [dk l a, gb N Es]⟩) := by
  have wK := wrapS (i := K) (by omega)
  have kI : (K : Int) ≤ n := by omega
  have kI1 : (K : Int) + 1 ≤ n := by omega
  have kI2 : ((K + 1 : Nat) : Int) ≤ n := by omega
  have kN1 : K + 1 ≤ n := by omega
  have kN : K ≤ n := by omega
  have m1 : min (K + 1) n = K + 1 := by omega
  have k0 : (0 : Int) ≤ (K : Int) + 1 := by omega
  have tn : o.take n = o := List.take_of_length_le (by omega)
  have L1 : K + 1 ≤ 4294967296 := by omega
  have L2 : K + 1 + (n - K) ≤ 4294967296 := by omega
  have t1 : ∀ m, (o.take m).take m = o.take m := fun m => by rw [List.take_take, Nat.min_self]
  have t2 : (o.drop K).take (n - K) = o.drop K := List.take_of_length_le (by simp; omega)
  have t3 : (o.take (K + 1) ++ o.drop K).take (K + 1 + (n - K)) = o.take (K + 1) ++ o.drop K := List.take_of_length_le (by simp; omega)
  unfold dk gb
  simp [rLaw24CliquesGoesX0, rLaw24CliquesGoesX1, rLaw24CliquesGoesX2, rLaw24CliquesGoesX3, rLaw24CliquesGoesX4, rLaw24CliquesGoesX5, rLaw24CliquesGoesX6, rLaw24CliquesGoesX7, rLaw24CliquesGoesX8, rLaw24CliquesGoesX9, rLaw24CliquesGoesX10, rLaw24CliquesGoesX11, rLaw24CliquesGoesX12, rLaw24CliquesGoesX13, rLaw24CliquesGoesX14, rLaw24CliquesGoesX15, rLaw24CliquesGoesX16, rLaw24CliquesGoesX17, rLaw24CliquesGoesX18, rLaw24CliquesGoesX19, rLaw24CliquesGoesX20, rLaw24CliquesGoesX21, rLaw24CliquesGoesX22, rLaw24CliquesGoesX23, rLaw24CliquesGoesX24, rLaw24CliquesGoesX25, hX, wK, k0, tn, kI, kI1, kI2, kN1, kN, m1, L1, L2, t1, t2, t3, LIM, lls_length, lls_tk, lls_dr, lls_ap, flatCells_lls, allLeaf_lls, List.length_take, List.length_drop, blk, eds_length, eds_get, edsAt, edAV, allLeaf_eds, cleanL_eds, cleanL_ints, ints_length, ints_get, intsAt, endL, finB]
theorem gX21 (l : List Int) (a N : Nat) (Es : List Ed) (o p q : List (List Int)) (n : Nat) (hX : o.length = n) (hn : n ≤ 4096) : codeL cfgS 0 (.reg rLaw24CliquesGoesX21 false [] [4, 12, 14, 15, 16]) ⟨[(4, .ptr 1 0), (5, .list 1 (lls o)), (12, .int .i64 n), (14, .own 1 (lls p)), (15, .own 1 (lls q))], [dk l a, gb N Es]⟩ = some (.normal, ⟨[(4, .ptr 1 0), (12, .int .i64 n), (14, .own 1 (lls p)), (15, .own 1 (lls q)), (16, .own 1 (lls o))], [dk l a, gb N Es]⟩) := by
  have tn : o.take n = o := List.take_of_length_le (by omega)
  have L1 : n ≤ 4294967296 := by omega
  unfold dk gb
  simp [rLaw24CliquesGoesX0, rLaw24CliquesGoesX1, rLaw24CliquesGoesX2, rLaw24CliquesGoesX3, rLaw24CliquesGoesX4, rLaw24CliquesGoesX5, rLaw24CliquesGoesX6, rLaw24CliquesGoesX7, rLaw24CliquesGoesX8, rLaw24CliquesGoesX9, rLaw24CliquesGoesX10, rLaw24CliquesGoesX11, rLaw24CliquesGoesX12, rLaw24CliquesGoesX13, rLaw24CliquesGoesX14, rLaw24CliquesGoesX15, rLaw24CliquesGoesX16, rLaw24CliquesGoesX17, rLaw24CliquesGoesX18, rLaw24CliquesGoesX19, rLaw24CliquesGoesX20, rLaw24CliquesGoesX21, rLaw24CliquesGoesX22, rLaw24CliquesGoesX23, rLaw24CliquesGoesX24, rLaw24CliquesGoesX25, hX, tn, L1, LIM, lls_length, lls_tk, flatCells_lls, allLeaf_lls, blk, eds_length, eds_get, edsAt, edAV, allLeaf_eds, cleanL_eds, cleanL_ints, ints_length, ints_get, intsAt, endL, finB]
end
end Go.BmP
