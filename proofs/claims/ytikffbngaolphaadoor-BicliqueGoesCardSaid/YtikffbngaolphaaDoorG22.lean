/- The law: Next goes through All, all are maximal, every edge lies in one, and Best has the greatest product. -/
import Derived.Test.YtikffbngaolphaaDoorG21
import Derived.Test.YtikffbngaolphaaDoorK11
set_option linter.unusedSimpArgs false
set_option linter.unusedVariables false
set_option maxRecDepth 100000
set_option maxHeartbeats 4000000
namespace Go.BmP
open Go.Am Go.Bm
section
variable {N : Nat} {Es : List Ed} {L : List Int} (h : BOK N Es L) (hE : Es.length ≤ 10000) (hL : L.length ≤ 64) (l : List Int) (a : Nat)
/-- The boxes of the law. -/
def gH (l : List Int) (a : Nat) (N : Nat) (Es : List Ed) (L : List Int) : Heap := [dk l a, b0 N Es L]
theorem clR_len (N : Nat) (Es : List Ed) (L S : List Int) : (clR N Es L S).length ≤ 64 := bitL_len _
theorem allC_bd {N : Nat} {Es : List Ed} {L : List Int} (h : BOK N Es L) : ∀ S ∈ allC N Es L, S.length ≤ 64 := fun S hS => by
  obtain ⟨⟨k1, k2, k3⟩, _⟩ := (allC_mem h).1 hS
  exact up_len k1 (bOK_bd h k3)
theorem max_cast (m p : Nat) : (if (m : Int) < (p : Int) then (p : Int) else (m : Int)) = ((max m p : Nat) : Int) := by
  by_cases k : m < p
  · rw [if_pos (by omega)]; omega
  · rw [if_neg (by omega)]; omega
theorem nextV_cons (N : Nat) (Es : List Ed) (L S : List Int) (r : List (List Int)) : nextV N Es L (S :: r) = .tup [.agg [.list 1 (ints S), .list 1 (ints (clR N Es L S))], .bool true, .int .i64 0] := rfl
/-- What Next begins behind. -/
def AftV (A : AV) (after : List Int) : Prop := (A = .own 1 [] ∧ after = []) ∨ A = .list 1 (ints after)
section
attribute [local simp] codeL_seq codeL_reg codeL_blk codeL_skip codeL_ret codeL_exit codeL_cnd condL_b thenL_n thenL_e thenL_r blkL_n blkL_e blkL_r regL_s opsB stepB opB opP opnd opnds lend lendC get_nil' get_cons' put_nil' put_cons' mem_nil' mem_cons' putdB putB slowP hasOwn hasOwnL finO relab anyB anyE anyH anyR borOf borL inSlot HAND endR hasOwnE endK keepIn trim noPtr noPtrL noPtrE noPtrH binA arith unA eqB isNilB eqc lenB bndB bnd rdN rdc AV.cells fillB peek ldOK AV.leaf allLeaf fz pl plL drawB allCW cwF okDrawB okPair Fq.ok dstOff wrOff notSlot noneIn apartR oldBoxes O.reads Kd.reads E.slot slots slotO slotsP List.getD pairIn nilL okRes clean cleanL resV resVs tupOf mkEnv partsBor doCallB inpB getArgs doCallO frzA frzV frzL minA minF cont ownAt at_ setAt rel dropS relC dropAll frzP frzAll firstBor borIn borC borS borE borH handTo mapSt mapE mapH mapB mapBL sw rt fb mvB mvRt seesP inRt isRoot rootOf boxOf seesB rootsL Am.rep ovw flatCells_ints allLeaf_ints flatCells el grp updE isNilB inpV inpL stB okL unA orcA bndB plL_ints fzL stBox inCells wrap0 wrap1 wrapm1 take_snoc
include h hE hL in
theorem go_round (i m : Nat) (hi : i < (allC N Es L).length) (hl : (allC N Es L).length ≤ 4096) (hm : m ≤ 4096) (A : AV) (after : List Int) (la : after.length ≤ 64) (hA : AftV A after) (hb : behC N Es L after = (allC N Es L).drop i) : codeL cfgS 0 lLaw27BicliqueGoesX0 ⟨[(3, .ptr 1 0), (4, .list 2 (prs N Es L (allC N Es L))), (6, A), (7, .int .i64 m), (8, .int .i64 i)], gH l a N Es L⟩ =
    some (.normal, ⟨[(3, .ptr 1 0), (4, .list 2 (prs N Es L (allC N Es L))), (6, .list 1 (ints (allC N Es L)[i])), (7, .int .i64 (max m (prodC N Es L (allC N Es L)[i]) : Nat)), (8, .int .i64 (i + 1 : Nat))], gH l a N Es L⟩) := by
  have hS := List.getElem_mem hi
  have nx := next_run27 h (by omega) (by omega) after (by omega)
  rw [hb, List.drop_eq_getElem_cons hi] at nx
  have sb := allC_bd h _ hS
  have tb := clR_len N Es L (allC N Es L)[i]
  have mv := maximal_run h (by omega) (by omega) (allC N Es L)[i] (clR N Es L (allC N Es L)[i]) (by omega) (by omega)
  rw [maxV_all h hS] at mv
  have sm := same27_run (allC N Es L)[i] (clR N Es L (allC N Es L)[i]) (allC N Es L)[i] (clR N Es L (allC N Es L)[i]) (by omega) (by omega) (by omega) (by omega)
  simp only [and_self, decide_true] at sm
  have pb : prodC N Es L (allC N Es L)[i] ≤ 64 * 64 := Nat.mul_le_mul sb tb
  have w1 : IntKind.i64.wrap (((allC N Es L)[i].length : Int) * ((clR N Es L (allC N Es L)[i]).length : Int)) = ((prodC N Es L (allC N Es L)[i] : Nat) : Int) := by
    rw [← Int.natCast_mul]
    exact wrapN (by unfold prodC at pb; omega)
  have mx := max_cast m (prodC N Es L (allC N Es L)[i])
  have h1 : (i : Int) < (allC N Es L).length := by omega
  have h1' : (i : Int) ≤ (allC N Es L).length := by omega
  have hw := wrapS (i := i) (by omega)
  have i1 := idx_lt (k := .i64) (i := (i : Int)) (n := (allC N Es L).length) (by omega) h1
  have g1 : ∀ h, (prs N Es L (allC N Es L))[i]'h = AV.agg [.list 1 (ints (allC N Es L)[i]), .list 1 (ints (clR N Es L (allC N Es L)[i]))] := fun h => prsAt ..
  have g2 := prs_length N Es L (allC N Es L)
  have g3 : (prs N Es L (allC N Es L))[i]? = some (.agg [.list 1 (ints (allC N Es L)[i]), .list 1 (ints (clR N Es L (allC N Es L)[i]))]) := by rw [prs_get, List.getElem?_eq_getElem hi]; rfl
  rw [nextV_cons] at nx
  unfold gH dk b0
  clear hb hm pb sb tb
  generalize ((max m (prodC N Es L (allC N Es L)[i]) : Nat) : Int) = M at *
  generalize ((prodC N Es L (allC N Es L)[i] : Nat) : Int) = q at *
  generalize prs N Es L (allC N Es L) = X at *
  generalize clR N Es L (allC N Es L)[i] = T at *
  generalize (allC N Es L)[i] = S at *
  generalize (allC N Es L).length = n at *
  generalize (m : Int) = mm at *
  unfold lLaw27BicliqueGoesX0
  rcases hA with ⟨rfl, rfl⟩ | rfl
  · rw [ints_nil] at nx
    simp [rLaw27BicliqueGoesX0, rLaw27BicliqueGoesX1, rLaw27BicliqueGoesX2, rLaw27BicliqueGoesX3, rLaw27BicliqueGoesX4, rLaw27BicliqueGoesX5, rLaw27BicliqueGoesX6, rLaw27BicliqueGoesX7, rLaw27BicliqueGoesX8, rLaw27BicliqueGoesX9, rLaw27BicliqueGoesX10, rLaw27BicliqueGoesX11, rLaw27BicliqueGoesX12, rLaw27BicliqueGoesX13, rLaw27BicliqueGoesX14, rLaw27BicliqueGoesX15, rLaw27BicliqueGoesX16, rLaw27BicliqueGoesX17, rLaw27BicliqueGoesX18, rLaw27BicliqueGoesX19, rLaw27BicliqueGoesX20, rLaw27BicliqueGoesX21, rLaw27BicliqueGoesX22, rLaw27BicliqueGoesX23, rLaw27BicliqueGoesX24, rLaw27BicliqueGoesX25, rLaw27BicliqueGoesX26, rLaw27BicliqueGoesX27, rLaw27BicliqueGoesX28, rLaw27BicliqueGoesX29, rLaw27BicliqueGoesX30, rLaw27BicliqueGoesX31, rLaw27BicliqueGoesX32, rLaw27BicliqueGoesX33, nx, mv, sm, w1, mx, h1, h1', hi, hw, i1, g1, g2, g3, sBicliqueNext, iBicliqueNext, sBicliqueMaximal, iBicliqueMaximal, sRef27Same, iRef27Same, blk, eds_length, eds_get, edsAt, edAV, allLeaf_eds, cleanL_eds, cleanL_ints, ints_length, ints_get, intsAt, endL, finB]
  · simp [rLaw27BicliqueGoesX0, rLaw27BicliqueGoesX1, rLaw27BicliqueGoesX2, rLaw27BicliqueGoesX3, rLaw27BicliqueGoesX4, rLaw27BicliqueGoesX5, rLaw27BicliqueGoesX6, rLaw27BicliqueGoesX7, rLaw27BicliqueGoesX8, rLaw27BicliqueGoesX9, rLaw27BicliqueGoesX10, rLaw27BicliqueGoesX11, rLaw27BicliqueGoesX12, rLaw27BicliqueGoesX13, rLaw27BicliqueGoesX14, rLaw27BicliqueGoesX15, rLaw27BicliqueGoesX16, rLaw27BicliqueGoesX17, rLaw27BicliqueGoesX18, rLaw27BicliqueGoesX19, rLaw27BicliqueGoesX20, rLaw27BicliqueGoesX21, rLaw27BicliqueGoesX22, rLaw27BicliqueGoesX23, rLaw27BicliqueGoesX24, rLaw27BicliqueGoesX25, rLaw27BicliqueGoesX26, rLaw27BicliqueGoesX27, rLaw27BicliqueGoesX28, rLaw27BicliqueGoesX29, rLaw27BicliqueGoesX30, rLaw27BicliqueGoesX31, rLaw27BicliqueGoesX32, rLaw27BicliqueGoesX33, nx, mv, sm, w1, mx, h1, h1', hi, hw, i1, g1, g2, g3, sBicliqueNext, iBicliqueNext, sBicliqueMaximal, iBicliqueMaximal, sRef27Same, iRef27Same, blk, eds_length, eds_get, edsAt, edAV, allLeaf_eds, cleanL_eds, cleanL_ints, ints_length, ints_get, intsAt, endL, finB]
include h hE hL in
theorem go_last (m : Nat) (hl : (allC N Es L).length ≤ 4096) (A : AV) (after : List Int) (la : after.length ≤ 64) (hA : AftV A after) (hb : behC N Es L after = []) : codeL cfgS 0 lLaw27BicliqueGoesX0 ⟨[(3, .ptr 1 0), (4, .list 2 (prs N Es L (allC N Es L))), (6, A), (7, .int .i64 m), (8, .int .i64 (allC N Es L).length)], gH l a N Es L⟩ =
    some (.normal, ⟨[(3, .ptr 1 0), (4, .list 2 (prs N Es L (allC N Es L))), (6, .list 1 []), (7, .int .i64 m), (8, .int .i64 ((allC N Es L).length + 1 : Nat))], gH l a N Es L⟩) := by
  have nx := next_run27 h (by omega) (by omega) after (by omega)
  rw [hb] at nx
  have hw := wrapS (i := (allC N Es L).length) (by omega)
  have g2 := prs_length N Es L (allC N Es L)
  have m0 : ¬ (m : Int) < 0 := by omega
  unfold nextV at nx
  unfold gH dk b0
  clear hb
  generalize prs N Es L (allC N Es L) = X at *
  generalize (allC N Es L).length = n at *
  generalize (m : Int) = mm at *
  unfold lLaw27BicliqueGoesX0
  rcases hA with ⟨rfl, rfl⟩ | rfl
  · rw [ints_nil] at nx
    simp [rLaw27BicliqueGoesX0, rLaw27BicliqueGoesX1, rLaw27BicliqueGoesX2, rLaw27BicliqueGoesX3, rLaw27BicliqueGoesX4, rLaw27BicliqueGoesX5, rLaw27BicliqueGoesX6, rLaw27BicliqueGoesX7, rLaw27BicliqueGoesX8, rLaw27BicliqueGoesX9, rLaw27BicliqueGoesX10, rLaw27BicliqueGoesX11, rLaw27BicliqueGoesX12, rLaw27BicliqueGoesX13, rLaw27BicliqueGoesX14, rLaw27BicliqueGoesX15, rLaw27BicliqueGoesX16, rLaw27BicliqueGoesX17, rLaw27BicliqueGoesX18, rLaw27BicliqueGoesX19, rLaw27BicliqueGoesX20, rLaw27BicliqueGoesX21, rLaw27BicliqueGoesX22, rLaw27BicliqueGoesX23, rLaw27BicliqueGoesX24, rLaw27BicliqueGoesX25, rLaw27BicliqueGoesX26, rLaw27BicliqueGoesX27, rLaw27BicliqueGoesX28, rLaw27BicliqueGoesX29, rLaw27BicliqueGoesX30, rLaw27BicliqueGoesX31, rLaw27BicliqueGoesX32, rLaw27BicliqueGoesX33, nx, hw, g2, m0, sBicliqueNext, iBicliqueNext, blk, eds_length, eds_get, edsAt, edAV, allLeaf_eds, cleanL_eds, cleanL_ints, ints_length, ints_get, intsAt, endL, finB]
  · simp [rLaw27BicliqueGoesX0, rLaw27BicliqueGoesX1, rLaw27BicliqueGoesX2, rLaw27BicliqueGoesX3, rLaw27BicliqueGoesX4, rLaw27BicliqueGoesX5, rLaw27BicliqueGoesX6, rLaw27BicliqueGoesX7, rLaw27BicliqueGoesX8, rLaw27BicliqueGoesX9, rLaw27BicliqueGoesX10, rLaw27BicliqueGoesX11, rLaw27BicliqueGoesX12, rLaw27BicliqueGoesX13, rLaw27BicliqueGoesX14, rLaw27BicliqueGoesX15, rLaw27BicliqueGoesX16, rLaw27BicliqueGoesX17, rLaw27BicliqueGoesX18, rLaw27BicliqueGoesX19, rLaw27BicliqueGoesX20, rLaw27BicliqueGoesX21, rLaw27BicliqueGoesX22, rLaw27BicliqueGoesX23, rLaw27BicliqueGoesX24, rLaw27BicliqueGoesX25, rLaw27BicliqueGoesX26, rLaw27BicliqueGoesX27, rLaw27BicliqueGoesX28, rLaw27BicliqueGoesX29, rLaw27BicliqueGoesX30, rLaw27BicliqueGoesX31, rLaw27BicliqueGoesX32, rLaw27BicliqueGoesX33, nx, hw, g2, m0, sBicliqueNext, iBicliqueNext, blk, eds_length, eds_get, edsAt, edAV, allLeaf_eds, cleanL_eds, cleanL_ints, ints_length, ints_get, intsAt, endL, finB]
include h hE hL in
theorem go_loop (hl : (allC N Es L).length ≤ 4096) : ∀ (k i m : Nat) (A : AV) (after : List Int), i + k = (allC N Es L).length → m ≤ 4096 → after.length ≤ 64 → AftV A after → behC N Es L after = (allC N Es L).drop i → ∃ A', codeL cfgS 0 (.loop lLaw27BicliqueGoesX0) ⟨[(3, .ptr 1 0), (4, .list 2 (prs N Es L (allC N Es L))), (6, A), (7, .int .i64 m), (8, .int .i64 i)], gH l a N Es L⟩ =
    some (.exit 0, ⟨[(3, .ptr 1 0), (4, .list 2 (prs N Es L (allC N Es L))), (6, .list 1 A'), (7, .int .i64 (mostC N Es L ((allC N Es L).drop i) m : Nat)), (8, .int .i64 ((allC N Es L).length + 1 : Nat)), (37, .bool false)], gH l a N Es L⟩)
  | 0, i, m, A, after, hi, hm, la, hA, hb => by
    obtain rfl : i = (allC N Es L).length := by omega
    rw [List.drop_length] at hb ⊢
    refine ⟨[], ?_⟩
    rw [loop_next (go_last h hE hL l a m hl A after la hA hb)]
    have g2 := prs_length N Es L (allC N Es L)
    have h1 : ¬ (((allC N Es L).length + 1 : Nat) : Int) ≤ (allC N Es L).length := by omega
    have e : mostC N Es L [] m = m := rfl
    rw [e]
    generalize prs N Es L (allC N Es L) = X at *
    generalize (((allC N Es L).length + 1 : Nat) : Int) = n1 at *
    generalize (allC N Es L).length = n at *
    exact loop_exit (by unfold lLaw27BicliqueGoesX0 gH dk b0; simp [rLaw27BicliqueGoesX0, rLaw27BicliqueGoesX1, rLaw27BicliqueGoesX2, rLaw27BicliqueGoesX3, rLaw27BicliqueGoesX4, rLaw27BicliqueGoesX5, rLaw27BicliqueGoesX6, rLaw27BicliqueGoesX7, rLaw27BicliqueGoesX8, rLaw27BicliqueGoesX9, rLaw27BicliqueGoesX10, rLaw27BicliqueGoesX11, rLaw27BicliqueGoesX12, rLaw27BicliqueGoesX13, rLaw27BicliqueGoesX14, rLaw27BicliqueGoesX15, rLaw27BicliqueGoesX16, rLaw27BicliqueGoesX17, rLaw27BicliqueGoesX18, rLaw27BicliqueGoesX19, rLaw27BicliqueGoesX20, rLaw27BicliqueGoesX21, rLaw27BicliqueGoesX22, rLaw27BicliqueGoesX23, rLaw27BicliqueGoesX24, rLaw27BicliqueGoesX25, rLaw27BicliqueGoesX26, rLaw27BicliqueGoesX27, rLaw27BicliqueGoesX28, rLaw27BicliqueGoesX29, rLaw27BicliqueGoesX30, rLaw27BicliqueGoesX31, rLaw27BicliqueGoesX32, rLaw27BicliqueGoesX33, g2, h1, blk, eds_length, eds_get, edsAt, edAV, allLeaf_eds, cleanL_eds, cleanL_ints, ints_length, ints_get, intsAt, endL, finB])
  | k + 1, i, m, A, after, hi, hm, la, hA, hb => by
    have hlt : i < (allC N Es L).length := by omega
    have sb := allC_bd h _ (List.getElem_mem hlt)
    have tb := clR_len N Es L (allC N Es L)[i]
    have pb : prodC N Es L (allC N Es L)[i] ≤ 64 * 64 := Nat.mul_le_mul sb tb
    obtain ⟨A', e⟩ := go_loop hl k (i + 1) (max m (prodC N Es L (allC N Es L)[i])) (.list 1 (ints (allC N Es L)[i])) (allC N Es L)[i] (by omega) (by omega) sb (.inr rfl) (behC_at h i hlt)
    refine ⟨A', ?_⟩
    rw [loop_next (go_round h hE hL l a i m hlt hl hm A after la hA hb), e, List.drop_eq_getElem_cons hlt]
    rfl
end
/-- Whether a pair of the list holds both ends. -/
def inC (N : Nat) (Es : List Ed) (L : List Int) (e : Ed) (S : List Int) : Bool := decide (e.1 ∈ uni S (clR N Es L S)) && decide (e.2 ∈ uni S (clR N Es L S))
section
attribute [local simp] codeL_seq codeL_reg codeL_blk codeL_skip codeL_ret codeL_exit codeL_cnd condL_b thenL_n thenL_e thenL_r blkL_n blkL_e blkL_r regL_s opsB stepB opB opP opnd opnds lend lendC get_nil' get_cons' put_nil' put_cons' mem_nil' mem_cons' putdB putB slowP hasOwn hasOwnL finO relab anyB anyE anyH anyR borOf borL inSlot HAND endR hasOwnE endK keepIn trim noPtr noPtrL noPtrE noPtrH binA arith unA eqB isNilB eqc lenB bndB bnd rdN rdc AV.cells fillB peek ldOK AV.leaf allLeaf fz pl plL drawB allCW cwF okDrawB okPair Fq.ok dstOff wrOff notSlot noneIn apartR oldBoxes O.reads Kd.reads E.slot slots slotO slotsP List.getD pairIn nilL okRes clean cleanL resV resVs tupOf mkEnv partsBor doCallB inpB getArgs doCallO frzA frzV frzL minA minF cont ownAt at_ setAt rel dropS relC dropAll frzP frzAll firstBor borIn borC borS borE borH handTo mapSt mapE mapH mapB mapBL sw rt fb mvB mvRt seesP inRt isRoot rootOf boxOf seesB rootsL Am.rep ovw flatCells_ints allLeaf_ints flatCells el grp updE isNilB inpV inpL stB okL unA orcA bndB plL_ints fzL stBox inCells wrap0 wrap1 wrapm1 take_snoc
theorem ed_in (o : List (List Int)) (ho : ∀ S ∈ o, S.length ≤ 64) (hl : o.length ≤ 4096) (e : Ed) (i : Int) (m : Int) : ∀ (k j : Nat) (f : Bool), j + k = o.length → codeL cfgS 0 (.loop lLaw27BicliqueGoesX1) ⟨[(3, .ptr 1 0), (4, .list 2 (prs N Es L o)), (7, .int .i64 m), (13, .ptr 2 0), (14, .bool f), (88, .list 2 (eds Es)), (89, .int .i64 Es.length), (90, .int .i64 i), (94, .list 2 (prs N Es L o)), (95, .int .i64 o.length), (96, .int .i64 j)], gH l a N Es L ++ [some [.int .i64 e.1, .int .i64 e.2]]⟩ =
    some (.exit 4, ⟨[(3, .ptr 1 0), (4, .list 2 (prs N Es L o)), (7, .int .i64 m), (13, .ptr 2 0), (14, .bool (f || (o.drop j).any (inC N Es L e))), (88, .list 2 (eds Es)), (89, .int .i64 Es.length), (90, .int .i64 i), (94, .list 2 (prs N Es L o)), (95, .int .i64 o.length), (96, .int .i64 o.length), (97, .bool false)], gH l a N Es L ++ [some [.int .i64 e.1, .int .i64 e.2]]⟩)
  | 0, j, f, hj => by
    obtain rfl : j = o.length := by omega
    rw [List.drop_length]
    exact loop_exit (by unfold lLaw27BicliqueGoesX1 gH dk b0; simp [rLaw27BicliqueGoesX0, rLaw27BicliqueGoesX1, rLaw27BicliqueGoesX2, rLaw27BicliqueGoesX3, rLaw27BicliqueGoesX4, rLaw27BicliqueGoesX5, rLaw27BicliqueGoesX6, rLaw27BicliqueGoesX7, rLaw27BicliqueGoesX8, rLaw27BicliqueGoesX9, rLaw27BicliqueGoesX10, rLaw27BicliqueGoesX11, rLaw27BicliqueGoesX12, rLaw27BicliqueGoesX13, rLaw27BicliqueGoesX14, rLaw27BicliqueGoesX15, rLaw27BicliqueGoesX16, rLaw27BicliqueGoesX17, rLaw27BicliqueGoesX18, rLaw27BicliqueGoesX19, rLaw27BicliqueGoesX20, rLaw27BicliqueGoesX21, rLaw27BicliqueGoesX22, rLaw27BicliqueGoesX23, rLaw27BicliqueGoesX24, rLaw27BicliqueGoesX25, rLaw27BicliqueGoesX26, rLaw27BicliqueGoesX27, rLaw27BicliqueGoesX28, rLaw27BicliqueGoesX29, rLaw27BicliqueGoesX30, rLaw27BicliqueGoesX31, rLaw27BicliqueGoesX32, rLaw27BicliqueGoesX33, List.any_nil, blk, eds_length, eds_get, edsAt, edAV, allLeaf_eds, cleanL_eds, cleanL_ints, ints_length, ints_get, intsAt, endL, finB])
  | k + 1, j, f, hj => by
    have hlt : j < o.length := by omega
    have h1 : (j : Int) < o.length := by omega
    have hw := wrapS (i := j) (by omega)
    have ih := ed_in o ho hl e i m k (j + 1) (f || inC N Es L e o[j]) (by omega)
    have hx := ho o[j] (List.getElem_mem hlt)
    have hy := clR_len N Es L o[j]
    have un := union_run o[j] (clR N Es L o[j]) (by omega)
    have ul := uni_len o[j] (clR N Es L o[j])
    have a1 := has_run e.1 (uni o[j] (clR N Es L o[j])) (by omega)
    have a2 := has_run e.2 (uni o[j] (clR N Es L o[j])) (by omega)
    have es : (o.drop j).any (inC N Es L e) = (inC N Es L e o[j] || (o.drop (j + 1)).any (inC N Es L e)) := by
      rw [List.drop_eq_getElem_cons hlt]
      rfl
    rw [es, ← Bool.or_assoc]
    have i1 := idx_lt (k := .i64) (i := (j : Int)) (n := o.length) (by omega) h1
    have g1 : ∀ h, (prs N Es L o)[j]'h = AV.agg [.list 1 (ints o[j]), .list 1 (ints (clR N Es L o[j]))] := fun h => prsAt ..
    have g2 := prs_length N Es L o
    have g3 : (prs N Es L o)[j]? = some (.agg [.list 1 (ints o[j]), .list 1 (ints (clR N Es L o[j]))]) := by rw [prs_get, List.getElem?_eq_getElem hlt]; rfl
    refine (loop_next ?_).trans ih
    have ei : inC N Es L e o[j] = (decide (e.1 ∈ uni o[j] (clR N Es L o[j])) && decide (e.2 ∈ uni o[j] (clR N Es L o[j]))) := rfl
    rw [ei]
    clear ih ei es
    generalize decide (e.1 ∈ uni o[j] (clR N Es L o[j])) = d1 at *
    generalize decide (e.2 ∈ uni o[j] (clR N Es L o[j])) = d2 at *
    generalize uni o[j] (clR N Es L o[j]) = U at *
    generalize prs N Es L o = X at *
    generalize clR N Es L o[j] = Q at *
    generalize o[j] = R at *
    unfold lLaw27BicliqueGoesX1 gH dk b0
    cases f <;> cases d1 <;> simp [rLaw27BicliqueGoesX0, rLaw27BicliqueGoesX1, rLaw27BicliqueGoesX2, rLaw27BicliqueGoesX3, rLaw27BicliqueGoesX4, rLaw27BicliqueGoesX5, rLaw27BicliqueGoesX6, rLaw27BicliqueGoesX7, rLaw27BicliqueGoesX8, rLaw27BicliqueGoesX9, rLaw27BicliqueGoesX10, rLaw27BicliqueGoesX11, rLaw27BicliqueGoesX12, rLaw27BicliqueGoesX13, rLaw27BicliqueGoesX14, rLaw27BicliqueGoesX15, rLaw27BicliqueGoesX16, rLaw27BicliqueGoesX17, rLaw27BicliqueGoesX18, rLaw27BicliqueGoesX19, rLaw27BicliqueGoesX20, rLaw27BicliqueGoesX21, rLaw27BicliqueGoesX22, rLaw27BicliqueGoesX23, rLaw27BicliqueGoesX24, rLaw27BicliqueGoesX25, rLaw27BicliqueGoesX26, rLaw27BicliqueGoesX27, rLaw27BicliqueGoesX28, rLaw27BicliqueGoesX29, rLaw27BicliqueGoesX30, rLaw27BicliqueGoesX31, rLaw27BicliqueGoesX32, rLaw27BicliqueGoesX33, h1, hw, hlt, i1, g1, g2, g3, un, a1, a2, sRef02Union, iRef02Union, sRef02Has, iRef02Has, blk, eds_length, eds_get, edsAt, edAV, allLeaf_eds, cleanL_eds, cleanL_ints, ints_length, ints_get, intsAt, endL, finB]
end
end
end Go.BmP
