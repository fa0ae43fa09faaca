/- The law of going through: Next goes through All, and Check accepts this list. -/
import Derived.Test.YtiohfglnoneanaaDoorL01
import Derived.Test.YtiohfglnoneanaaDoorE02
import Derived.Test.YtiohfglnoneanaaDoorR02d
set_option linter.unusedSimpArgs false
set_option linter.unusedVariables false
set_option maxRecDepth 100000
set_option maxHeartbeats 4000000
namespace Go.BmP
open Go.Am Go.Bm
theorem awake24 : callL cfgS nLaw24Awake [] [] = some (.bool true, []) := callL_iff.2 ⟨3000, by kernel_rfl⟩
def gb (N : Nat) (Es : List Ed) : Blk := some [.int .i64 N, .list 2 (eds Es)]
theorem rest_gb (N : Nat) (Es : List Ed) : Rest [gb N Es] := ⟨fun _ => rfl, rfl, fun _ _ => rfl, fun _ => rfl, fun _ _ => rfl⟩
/-- The list so far. -/
def CurV (A : AV) (c : List Int) : Prop := (A = .own 1 [] ∧ c = []) ∨ A = .list 1 (ints c)
def goSt (l : List Int) (a N : Nat) (Es : List Ed) (O : List (List Int)) (A : AV) (i : Nat) (J : Env) : St := ⟨(3, .ptr 0 0) :: (4, .ptr 1 0) :: (5, .list 1 (lls O)) :: (6, .int .i64 0) :: (7, A) :: (8, .int .i64 i) :: J, [dk l a, gb N Es]⟩
section
attribute [local simp] codeL_seq codeL_reg codeL_blk codeL_skip codeL_ret codeL_exit codeL_cnd condL_b thenL_n thenL_e thenL_r blkL_n blkL_e blkL_r regL_s opsB stepB opB opP opnd opnds lend lendC get_nil' get_cons' put_nil' put_cons' mem_nil' mem_cons' putdB putB slowP hasOwn hasOwnL finO relab anyB anyE anyH anyR borOf borL inSlot HAND endR hasOwnE endK keepIn trim noPtr noPtrL noPtrE noPtrH binA arith unA eqB isNilB eqc lenB bndB bnd rdN rdc AV.cells fillB peek ldOK AV.leaf allLeaf fz pl plL drawB allCW cwF okDrawB okPair Fq.ok dstOff wrOff notSlot noneIn apartR oldBoxes O.reads Kd.reads E.slot slots slotO slotsP List.getD pairIn nilL okRes clean cleanL resV resVs tupOf mkEnv partsBor doCallB inpB getArgs doCallO frzA frzV frzL minA minF cont ownAt at_ setAt rel dropS relC dropAll frzP frzAll firstBor borIn borC borS borE borH handTo mapSt mapE mapH mapB mapBL sw rt fb mvB mvRt seesP inRt isRoot rootOf boxOf seesB rootsL Am.rep ovw flatCells_ints allLeaf_ints flatCells el grp updE isNilB inpV inpL stB okL unA orcA bndB plL_ints fzL stBox inCells wrap0 wrap1 wrapm1 take_snoc BIGB marks
theorem go_loop {N : Nat} {Es : List Ed} (h : GOK (N : Int) Es) (hE : Es.length ≤ 10000) (l : List Int) (a : Nat) (hO : (mcl N Es).length ≤ 4096) (hb : ∀ S ∈ mcl N Es, S.length ≤ 64) : ∀ (k i : Nat) (A : AV) (c : List Int), i + k = (mcl N Es).length → CurV A c → c.length ≤ 64 → behK N Es c = (mcl N Es).drop i → codeL cfgS 0 (.loop lLaw24CliquesGoesX0) (goSt l a N Es (mcl N Es) A i []) = some (.exit 0, goSt l a N Es (mcl N Es) .nils ((mcl N Es).length + 1) [(33, .bool false)])
  | 0, i, A, c, hi, hA, hc, hk => by
    obtain rfl : i = (mcl N Es).length := by omega
    have nx := nextK_run h (by omega) c (by omega)
    rw [hk, List.drop_length] at nx
    unfold nxtV at nx
    have hw := wrapS (i := (mcl N Es).length) (by omega)
    have g2 := lls_length (mcl N Es)
    have s1 : codeL cfgS 0 lLaw24CliquesGoesX0 (goSt l a N Es (mcl N Es) A (mcl N Es).length []) = some (.normal, goSt l a N Es (mcl N Es) .nils ((mcl N Es).length + 1) []) := by
      unfold lLaw24CliquesGoesX0 goSt dk gb
      generalize lls (mcl N Es) = X at *
      generalize (mcl N Es).length = n at *
      rcases hA with ⟨rfl, rfl⟩ | rfl
      · rw [ints_nil] at nx
        simp [rLaw24CliquesGoesX0, rLaw24CliquesGoesX1, rLaw24CliquesGoesX2, rLaw24CliquesGoesX3, rLaw24CliquesGoesX4, rLaw24CliquesGoesX5, rLaw24CliquesGoesX6, rLaw24CliquesGoesX7, rLaw24CliquesGoesX8, rLaw24CliquesGoesX9, rLaw24CliquesGoesX10, rLaw24CliquesGoesX11, rLaw24CliquesGoesX12, rLaw24CliquesGoesX13, rLaw24CliquesGoesX14, rLaw24CliquesGoesX15, rLaw24CliquesGoesX16, rLaw24CliquesGoesX17, rLaw24CliquesGoesX18, rLaw24CliquesGoesX19, rLaw24CliquesGoesX20, rLaw24CliquesGoesX21, rLaw24CliquesGoesX22, rLaw24CliquesGoesX23, rLaw24CliquesGoesX24, rLaw24CliquesGoesX25, hw, nx, g2, sCliquesNext, iCliquesNext, blk, eds_length, eds_get, edsAt, edAV, allLeaf_eds, cleanL_eds, cleanL_ints, ints_length, ints_get, intsAt, endL, finB]
      · simp [rLaw24CliquesGoesX0, rLaw24CliquesGoesX1, rLaw24CliquesGoesX2, rLaw24CliquesGoesX3, rLaw24CliquesGoesX4, rLaw24CliquesGoesX5, rLaw24CliquesGoesX6, rLaw24CliquesGoesX7, rLaw24CliquesGoesX8, rLaw24CliquesGoesX9, rLaw24CliquesGoesX10, rLaw24CliquesGoesX11, rLaw24CliquesGoesX12, rLaw24CliquesGoesX13, rLaw24CliquesGoesX14, rLaw24CliquesGoesX15, rLaw24CliquesGoesX16, rLaw24CliquesGoesX17, rLaw24CliquesGoesX18, rLaw24CliquesGoesX19, rLaw24CliquesGoesX20, rLaw24CliquesGoesX21, rLaw24CliquesGoesX22, rLaw24CliquesGoesX23, rLaw24CliquesGoesX24, rLaw24CliquesGoesX25, hw, nx, g2, sCliquesNext, iCliquesNext, blk, eds_length, eds_get, edsAt, edAV, allLeaf_eds, cleanL_eds, cleanL_ints, ints_length, ints_get, intsAt, endL, finB]
    rw [loop_next s1]
    refine loop_exit ?_
    have n1 : ¬ ((mcl N Es).length : Int) + 1 ≤ (mcl N Es).length := by omega
    unfold lLaw24CliquesGoesX0 goSt dk gb
    generalize lls (mcl N Es) = X at *
    generalize (mcl N Es).length = n at *
    simp [rLaw24CliquesGoesX0, rLaw24CliquesGoesX1, rLaw24CliquesGoesX2, rLaw24CliquesGoesX3, rLaw24CliquesGoesX4, rLaw24CliquesGoesX5, rLaw24CliquesGoesX6, rLaw24CliquesGoesX7, rLaw24CliquesGoesX8, rLaw24CliquesGoesX9, rLaw24CliquesGoesX10, rLaw24CliquesGoesX11, rLaw24CliquesGoesX12, rLaw24CliquesGoesX13, rLaw24CliquesGoesX14, rLaw24CliquesGoesX15, rLaw24CliquesGoesX16, rLaw24CliquesGoesX17, rLaw24CliquesGoesX18, rLaw24CliquesGoesX19, rLaw24CliquesGoesX20, rLaw24CliquesGoesX21, rLaw24CliquesGoesX22, rLaw24CliquesGoesX23, rLaw24CliquesGoesX24, rLaw24CliquesGoesX25, g2, n1, blk, eds_length, eds_get, edsAt, edAV, allLeaf_eds, cleanL_eds, cleanL_ints, ints_length, ints_get, intsAt, endL, finB]
  | k + 1, i, A, c, hi, hA, hc, hk => by
    have hlt : i < (mcl N Es).length := by omega
    have h1 : (i : Int) < (mcl N Es).length := by omega
    have h1' : (i : Int) ≤ (mcl N Es).length := by omega
    have hw := wrapS (i := i) (by omega)
    have i1 := idx_lt (k := .i64) (i := (i : Int)) (n := (mcl N Es).length) (by omega) h1
    have g1 : ∀ h, (lls (mcl N Es))[i]'h = AV.list 1 (ints (mcl N Es)[i]) := fun h => llsAt ..
    have g2 := lls_length (mcl N Es)
    have g3 : (lls (mcl N Es))[i]? = some (.list 1 (ints (mcl N Es)[i])) := by rw [lls_get, List.getElem?_eq_getElem hlt]; rfl
    have lS := hb _ (List.getElem_mem hlt)
    have cm := cmp_run (mcl N Es)[i] (mcl N Es)[i] (by omega) (by omega)
    rw [cmpL_zero.2 rfl] at cm
    have nx := nextK_run h (by omega) c (by omega)
    rw [hk, List.drop_eq_getElem_cons hlt] at nx
    unfold nxtV at nx
    have nk : behK N Es (mcl N Es)[i] = (mcl N Es).drop (i + 1) := filter_sorted (mcl N Es) mcl_sorted i hlt
    have ih := go_loop h hE l a hO hb k (i + 1) (.list 1 (ints (mcl N Es)[i])) _ (by omega) (.inr rfl) lS nk
    refine (loop_next ?_).trans ih
    clear ih nk
    unfold lLaw24CliquesGoesX0 goSt dk gb
    generalize lls (mcl N Es) = X at *
    generalize (mcl N Es)[i] = S at *
    generalize (mcl N Es).length = n at *
    rcases hA with ⟨rfl, rfl⟩ | rfl
    · rw [ints_nil] at nx
      simp [rLaw24CliquesGoesX0, rLaw24CliquesGoesX1, rLaw24CliquesGoesX2, rLaw24CliquesGoesX3, rLaw24CliquesGoesX4, rLaw24CliquesGoesX5, rLaw24CliquesGoesX6, rLaw24CliquesGoesX7, rLaw24CliquesGoesX8, rLaw24CliquesGoesX9, rLaw24CliquesGoesX10, rLaw24CliquesGoesX11, rLaw24CliquesGoesX12, rLaw24CliquesGoesX13, rLaw24CliquesGoesX14, rLaw24CliquesGoesX15, rLaw24CliquesGoesX16, rLaw24CliquesGoesX17, rLaw24CliquesGoesX18, rLaw24CliquesGoesX19, rLaw24CliquesGoesX20, rLaw24CliquesGoesX21, rLaw24CliquesGoesX22, rLaw24CliquesGoesX23, rLaw24CliquesGoesX24, rLaw24CliquesGoesX25, h1, h1', hlt, hw, nx, i1, g1, g2, g3, cm, sCliquesNext, iCliquesNext, sRef02Cmp, iRef02Cmp, blk, eds_length, eds_get, edsAt, edAV, allLeaf_eds, cleanL_eds, cleanL_ints, ints_length, ints_get, intsAt, endL, finB]
    · simp [rLaw24CliquesGoesX0, rLaw24CliquesGoesX1, rLaw24CliquesGoesX2, rLaw24CliquesGoesX3, rLaw24CliquesGoesX4, rLaw24CliquesGoesX5, rLaw24CliquesGoesX6, rLaw24CliquesGoesX7, rLaw24CliquesGoesX8, rLaw24CliquesGoesX9, rLaw24CliquesGoesX10, rLaw24CliquesGoesX11, rLaw24CliquesGoesX12, rLaw24CliquesGoesX13, rLaw24CliquesGoesX14, rLaw24CliquesGoesX15, rLaw24CliquesGoesX16, rLaw24CliquesGoesX17, rLaw24CliquesGoesX18, rLaw24CliquesGoesX19, rLaw24CliquesGoesX20, rLaw24CliquesGoesX21, rLaw24CliquesGoesX22, rLaw24CliquesGoesX23, rLaw24CliquesGoesX24, rLaw24CliquesGoesX25, h1, h1', hlt, hw, nx, i1, g1, g2, g3, cm, sCliquesNext, iCliquesNext, sRef02Cmp, iRef02Cmp, blk, eds_length, eds_get, edsAt, edAV, allLeaf_eds, cleanL_eds, cleanL_ints, ints_length, ints_get, intsAt, endL, finB]
end
end Go.BmP
