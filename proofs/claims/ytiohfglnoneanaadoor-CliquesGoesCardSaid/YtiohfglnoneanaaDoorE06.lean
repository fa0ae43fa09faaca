/- The region of the law of going through that exchanges two. -/
import Derived.Test.YtiohfglnoneanaaDoorE05
set_option linter.unusedSimpArgs false
set_option linter.unusedVariables false
set_option maxRecDepth 100000
set_option maxHeartbeats 8000000
namespace Go.BmP
open Go.Am Go.Bm
theorem lls_st (o : List (List Int)) (i : Nat) (S : List Int) : (lls o).set i (.list 1 (ints S)) = lls (o.set i S) := by simp [lls]
section
attribute [local simp] codeL_seq codeL_reg codeL_blk codeL_skip codeL_ret codeL_exit codeL_cnd condL_b thenL_n thenL_e thenL_r blkL_n blkL_e blkL_r regL_s opsB stepB opB opP opnd opnds lend lendC get_nil' get_cons' put_nil' put_cons' mem_nil' mem_cons' putdB putB slowP hasOwn hasOwnL finO relab anyB anyE anyH anyR borOf borL inSlot HAND endR hasOwnE endK keepIn trim noPtr noPtrL noPtrE noPtrH binA arith unA eqB isNilB eqc lenB bndB bnd rdN rdc AV.cells fillB peek ldOK AV.leaf allLeaf fz pl plL drawB allCW cwF okDrawB okPair Fq.ok dstOff wrOff notSlot noneIn apartR oldBoxes O.reads Kd.reads E.slot slots slotO slotsP List.getD pairIn nilL okRes clean cleanL resV resVs tupOf mkEnv partsBor doCallB inpB getArgs doCallO frzA frzV frzL minA minF cont ownAt at_ setAt rel dropS relC dropAll frzP frzAll firstBor borIn borC borS borE borH handTo mapSt mapE mapH mapB mapBL sw rt fb mvB mvRt seesP inRt isRoot rootOf boxOf seesB rootsL Am.rep ovw flatCells_ints allLeaf_ints flatCells el grp updE isNilB inpV inpL stB okL unA orcA bndB plL_ints fzL stBox inCells wrap0 wrap1 wrapm1 take_snoc BIGB marks
theorem gX22 (l : List Int) (a N : Nat) (Es : List Ed) (o p q : List (List Int)) (n : Nat) (hX : o.length = n) (h0 : 0 < n) (hn : n ≤ 4096) (S0 SN : List Int) (e0 : o[0]? = some S0) (eN : o[n - 1]? = some SN) : codeL cfgS 0 (.reg rLaw24CliquesGoesX22 true [(14, 14), (15, 15), (0, 8), (1, 8), (2, 8), (3, 8), (8, 9), (8, 10), (0, 11), (1, 11), (2, 11), (3, 11), (4, 11), (5, 11), (6, 11), (7, 11), (8, 11), (1, 13), (2, 13), (3, 13)] [4, 12, 14, 15, 16]) ⟨[(4, .ptr 1 0), (12, .int .i64 n), (14, .own 1 (lls p)), (15, .own 1 (lls q)), (16, .own 1 (lls o))], [dk l a, gb N Es]⟩ = some (.normal, ⟨[(4, .ptr 1 0), (12, .int .i64 n), (14, .own 1 (lls p)), (15, .own 1 (lls q)), (16, .own 1 (lls ((o.set 0 SN).set (n - 1) S0)))], [dk l a, gb N Es]⟩) := by
  have w1 : IntKind.i64.wrap ((n : Int) - 1) = ((n - 1 : Nat) : Int) := by rw [wrap_id (by omega) (by omega)]; omega
  have p0 : (0 : Int) < n := by omega
  have i0 := idx_lt (k := .i64) (i := (0 : Int)) (n := n) (by omega) p0
  have iN := idx_lt (k := .i64) (i := ((n - 1 : Nat) : Int)) (n := n) (by omega) (by omega)
  have g0 : (lls o)[0]? = some (.list 1 (ints S0)) := by rw [lls_get, e0]; rfl
  have gN : (lls o)[n - 1]? = some (.list 1 (ints SN)) := by rw [lls_get, eN]; rfl
  have g0' : ∀ h, (lls o)[0]'h = .list 1 (ints S0) := fun h => by rw [List.getElem?_eq_getElem h] at g0; exact Option.some.inj g0
  have gN' : ∀ h, (lls o)[n - 1]'h = .list 1 (ints SN) := fun h => by rw [List.getElem?_eq_getElem h] at gN; exact Option.some.inj gN
  have L1 : n - 1 < n := by omega
  unfold dk gb
  simp [rLaw24CliquesGoesX0, rLaw24CliquesGoesX1, rLaw24CliquesGoesX2, rLaw24CliquesGoesX3, rLaw24CliquesGoesX4, rLaw24CliquesGoesX5, rLaw24CliquesGoesX6, rLaw24CliquesGoesX7, rLaw24CliquesGoesX8, rLaw24CliquesGoesX9, rLaw24CliquesGoesX10, rLaw24CliquesGoesX11, rLaw24CliquesGoesX12, rLaw24CliquesGoesX13, rLaw24CliquesGoesX14, rLaw24CliquesGoesX15, rLaw24CliquesGoesX16, rLaw24CliquesGoesX17, rLaw24CliquesGoesX18, rLaw24CliquesGoesX19, rLaw24CliquesGoesX20, rLaw24CliquesGoesX21, rLaw24CliquesGoesX22, rLaw24CliquesGoesX23, rLaw24CliquesGoesX24, rLaw24CliquesGoesX25, hX, h0, w1, p0, i0, iN, g0, gN, g0', gN', L1, lls_length, lls_st, blk, eds_length, eds_get, edsAt, edAV, allLeaf_eds, cleanL_eds, cleanL_ints, ints_length, ints_get, intsAt, endL, finB]
end
end Go.BmP
