/- field.Sided makes a bipartite graph. -/
import Derived.Test.YtikffbngaolphaaDoorK06
set_option linter.unusedSimpArgs false
set_option linter.unusedVariables false
set_option maxRecDepth 100000
set_option maxHeartbeats 8000000
namespace Go.BmP
open Go.Am Go.Bm
theorem take_snocE (l : List Ed) (x : Ed) : (l ++ [x]).take (l.length + 1) = l ++ [x] := List.take_of_length_le (by simp)
theorem bls_take (N : Nat) (T : List Int) : (bls N T).take N = bls N T := List.take_of_length_le (by rw [bls_length]; exact Nat.le_refl _)
def IVE (N : Nat) (S : List Int) (o : List Ed) (u v : Nat) : Prop := UpE o ∧ (∀ e ∈ o, 0 ≤ e.1 ∧ e.1 < e.2 ∧ e.2 < (N : Int) ∧ (e.1 ∈ S ↔ ¬ e.2 ∈ S)) ∧ (∀ e ∈ o, e.1 < (u : Int) ∨ e.1 = (u : Int) ∧ e.2 < (v : Int)) ∧ o.length ≤ u * 64 + v
theorem ive_skip {N : Nat} {S : List Int} {o : List Ed} {u v : Nat} (h : IVE N S o u v) : IVE N S o u (v + 1) :=
  ⟨h.1, h.2.1, fun e he => by have := h.2.2.1 e he; omega, by have := h.2.2.2; omega⟩
theorem ive_add {N : Nat} {S : List Int} {o : List Ed} {u v : Nat} (h : IVE N S o u v) (huv : u < v) (hv : v < N) (hs : (u : Int) ∈ S ↔ ¬ (v : Int) ∈ S) : IVE N S (o ++ [((u : Int), (v : Int))]) u (v + 1) := by
  obtain ⟨h1, h2, h3, h4⟩ := h
  refine ⟨?_, fun e he => ?_, fun e he => ?_, by simp; omega⟩
  · unfold UpE
    rw [List.pairwise_append]
    refine ⟨h1, by simp, fun x hx y hy => ?_⟩
    simp at hy
    subst hy
    have := h3 x hx
    unfold ltE
    simp only
    omega
  · rcases List.mem_append.1 he with he | he
    · exact h2 e he
    · simp at he; subst he; exact ⟨by simp, by simpa using huv, by simpa using hv, hs⟩
  · rcases List.mem_append.1 he with he | he
    · have := h3 e he; omega
    · simp at he; subst he; simp; omega
def sH (l : List Int) (a : Nat) (S : List Int) : Heap := [dk l a, bx0, bxS S]
def s1St (l : List Int) (a N : Nat) (S : List Int) (D : Int) (u v : Nat) (o : List Ed) : St := ⟨[(0, .ptr 0 0), (4, .ptr 1 0), (5, .int .i64 N), (6, .ptr 2 0), (7, .own 2 (eds o)), (8, .own 1 (bls N S)), (10, .int .i64 D), (11, .int .i64 u), (12, .int .i64 v)], sH l a S⟩
def s1End (l : List Int) (a N : Nat) (S : List Int) (D : Int) (u : Nat) (o : List Ed) : St := ⟨[(0, .ptr 0 0), (4, .ptr 1 0), (5, .int .i64 N), (6, .ptr 2 0), (7, .own 2 (eds o)), (8, .own 1 (bls N S)), (10, .int .i64 D), (11, .int .i64 u), (12, .int .i64 N), (49, .bool false)], sH l a S⟩
section
attribute [local simp] codeL_seq codeL_reg codeL_blk codeL_skip codeL_ret codeL_exit codeL_cnd condL_b thenL_n thenL_e thenL_r blkL_n blkL_e blkL_r regL_s opsB stepB opB opP opnd opnds lend lendC get_nil' get_cons' put_nil' put_cons' mem_nil' mem_cons' putdB putB slowP hasOwn hasOwnL finO relab anyB anyE anyH anyR borOf borL inSlot HAND endR hasOwnE endK keepIn trim noPtr noPtrL noPtrE noPtrH binA arith unA eqB isNilB eqc lenB bndB bnd rdN rdc AV.cells fillB peek ldOK AV.leaf allLeaf fz pl plL drawB allCW cwF okDrawB okPair Fq.ok dstOff wrOff notSlot noneIn apartR oldBoxes O.reads Kd.reads E.slot slots slotO slotsP List.getD pairIn nilL okRes clean cleanL resV resVs tupOf mkEnv partsBor doCallB inpB getArgs doCallO frzA frzV frzL minA minF cont ownAt at_ setAt rel dropS relC dropAll frzP frzAll firstBor borIn borC borS borE borH handTo mapSt mapE mapH mapB mapBL sw rt fb mvB mvRt seesP inRt isRoot rootOf boxOf seesB rootsL Am.rep ovw flatCells_ints allLeaf_ints flatCells el grp updE isNilB inpV inpL stB okL unA orcA bndB plL_ints fzL stBox inCells wrap0 wrap1 wrapm1 take_snoc
theorem in_round (l : List Int) (hl : l.length ≤ 500) (N : Nat) (hN : N ≤ 64) (S : List Int) (D : Int) (u v a : Nat) (o : List Ed) (huv : u < v) (hv : v < N) (ho : o.length ≤ 100000) : ∃ a', codeL cfgS 1 lFieldSidedX1 (s1St l a N S D u v o) = some (.normal, s1St l a' N S D u (v + 1) o) ∨ (codeL cfgS 1 lFieldSidedX1 (s1St l a N S D u v o) = some (.normal, s1St l a' N S D u (v + 1) (o ++ [((u : Int), (v : Int))])) ∧ ((u : Int) ∈ S ↔ ¬ (v : Int) ∈ S)) := by
  have h1 : (v : Int) < N := by omega
  have h2 : (u : Int) < N := by omega
  have h3 : u < N := by omega
  have hw := wrapS (i := v) (by omega)
  have hL : o.length + 1 ≤ 4294967296 := by omega
  have hx := next_run l hl a 5 (by omega) [bx0, bxS S] (rest_2 S)
  by_cases hu : (u : Int) ∈ S
  · by_cases hv2 : (v : Int) ∈ S
    · refine ⟨a, .inl ?_⟩
      unfold lFieldSidedX1 s1St sH dk bx0 bxS
      simp [rFieldSidedX0, rFieldSidedX1, rFieldSidedX2, rFieldSidedX3, rFieldSidedX4, rFieldSidedX5, rFieldSidedX6, rFieldSidedX7, rFieldSidedX8, rFieldSidedX9, rFieldSidedX10, rFieldSidedX11, rFieldSidedX12, rFieldSidedX13, rFieldSidedX14, rFieldSidedX15, rFieldSidedX16, rFieldSidedX17, rFieldSidedX18, rFieldSidedX19, h1, h2, h3, hv, hw, hu, hv2, bls_length, bls_at, idx, blk, eds_length, eds_get, edsAt, edAV, allLeaf_eds, cleanL_eds, cleanL_ints, ints_length, ints_get, intsAt, endL, finB]
    · by_cases hd : nxV l a 5 < D
      · refine ⟨nxA l a 5, .inr ⟨?_, by simp [hu, hv2]⟩⟩
        unfold dk bx0 bxS at hx
        unfold lFieldSidedX1 s1St sH dk bx0 bxS
        simp [rFieldSidedX0, rFieldSidedX1, rFieldSidedX2, rFieldSidedX3, rFieldSidedX4, rFieldSidedX5, rFieldSidedX6, rFieldSidedX7, rFieldSidedX8, rFieldSidedX9, rFieldSidedX10, rFieldSidedX11, rFieldSidedX12, rFieldSidedX13, rFieldSidedX14, rFieldSidedX15, rFieldSidedX16, rFieldSidedX17, rFieldSidedX18, rFieldSidedX19, h1, h2, h3, hv, hw, hu, hv2, hd, hL, hx, LIM, eds_snocM, eds_take, take_snocE, cleanL_bls, bls_length, bls_at, idx, sMakeDeckNext, iMakeDeckNext, plp, plpL, allB, notBox, swC, seesC, inBox, blk, eds_length, eds_get, edsAt, edAV, allLeaf_eds, cleanL_eds, cleanL_ints, ints_length, ints_get, intsAt, endL, finB]
      · refine ⟨nxA l a 5, .inl ?_⟩
        unfold dk bx0 bxS at hx
        unfold lFieldSidedX1 s1St sH dk bx0 bxS
        simp [rFieldSidedX0, rFieldSidedX1, rFieldSidedX2, rFieldSidedX3, rFieldSidedX4, rFieldSidedX5, rFieldSidedX6, rFieldSidedX7, rFieldSidedX8, rFieldSidedX9, rFieldSidedX10, rFieldSidedX11, rFieldSidedX12, rFieldSidedX13, rFieldSidedX14, rFieldSidedX15, rFieldSidedX16, rFieldSidedX17, rFieldSidedX18, rFieldSidedX19, h1, h2, h3, hv, hw, hu, hv2, hd, hx, bls_length, bls_at, idx, sMakeDeckNext, iMakeDeckNext, plp, plpL, allB, notBox, swC, seesC, inBox, blk, eds_length, eds_get, edsAt, edAV, allLeaf_eds, cleanL_eds, cleanL_ints, ints_length, ints_get, intsAt, endL, finB]
  · by_cases hv2 : (v : Int) ∈ S
    · by_cases hd : nxV l a 5 < D
      · refine ⟨nxA l a 5, .inr ⟨?_, by simp [hu, hv2]⟩⟩
        unfold dk bx0 bxS at hx
        unfold lFieldSidedX1 s1St sH dk bx0 bxS
        simp [rFieldSidedX0, rFieldSidedX1, rFieldSidedX2, rFieldSidedX3, rFieldSidedX4, rFieldSidedX5, rFieldSidedX6, rFieldSidedX7, rFieldSidedX8, rFieldSidedX9, rFieldSidedX10, rFieldSidedX11, rFieldSidedX12, rFieldSidedX13, rFieldSidedX14, rFieldSidedX15, rFieldSidedX16, rFieldSidedX17, rFieldSidedX18, rFieldSidedX19, h1, h2, h3, hv, hw, hu, hv2, hd, hL, hx, LIM, eds_snocM, eds_take, take_snocE, cleanL_bls, bls_length, bls_at, idx, sMakeDeckNext, iMakeDeckNext, plp, plpL, allB, notBox, swC, seesC, inBox, blk, eds_length, eds_get, edsAt, edAV, allLeaf_eds, cleanL_eds, cleanL_ints, ints_length, ints_get, intsAt, endL, finB]
      · refine ⟨nxA l a 5, .inl ?_⟩
        unfold dk bx0 bxS at hx
        unfold lFieldSidedX1 s1St sH dk bx0 bxS
        simp [rFieldSidedX0, rFieldSidedX1, rFieldSidedX2, rFieldSidedX3, rFieldSidedX4, rFieldSidedX5, rFieldSidedX6, rFieldSidedX7, rFieldSidedX8, rFieldSidedX9, rFieldSidedX10, rFieldSidedX11, rFieldSidedX12, rFieldSidedX13, rFieldSidedX14, rFieldSidedX15, rFieldSidedX16, rFieldSidedX17, rFieldSidedX18, rFieldSidedX19, h1, h2, h3, hv, hw, hu, hv2, hd, hx, bls_length, bls_at, idx, sMakeDeckNext, iMakeDeckNext, plp, plpL, allB, notBox, swC, seesC, inBox, blk, eds_length, eds_get, edsAt, edAV, allLeaf_eds, cleanL_eds, cleanL_ints, ints_length, ints_get, intsAt, endL, finB]
    · refine ⟨a, .inl ?_⟩
      unfold lFieldSidedX1 s1St sH dk bx0 bxS
      simp [rFieldSidedX0, rFieldSidedX1, rFieldSidedX2, rFieldSidedX3, rFieldSidedX4, rFieldSidedX5, rFieldSidedX6, rFieldSidedX7, rFieldSidedX8, rFieldSidedX9, rFieldSidedX10, rFieldSidedX11, rFieldSidedX12, rFieldSidedX13, rFieldSidedX14, rFieldSidedX15, rFieldSidedX16, rFieldSidedX17, rFieldSidedX18, rFieldSidedX19, h1, h2, h3, hv, hw, hu, hv2, bls_length, bls_at, idx, blk, eds_length, eds_get, edsAt, edAV, allLeaf_eds, cleanL_eds, cleanL_ints, ints_length, ints_get, intsAt, endL, finB]
theorem in_loop (l : List Int) (hl : l.length ≤ 500) (N : Nat) (hN : N ≤ 64) (S : List Int) (D : Int) (u : Nat) : ∀ (k v a : Nat) (o : List Ed), v + k = N → u < v → IVE N S o u v → ∃ a' o', codeL cfgS 1 (.loop lFieldSidedX1) (s1St l a N S D u v o) = some (.exit 4, s1End l a' N S D u o') ∧ IVE N S o' u N
  | 0, v, a, o, hi, huv, hI => by
    obtain rfl : v = N := by omega
    refine ⟨a, o, loop_exit ?_, hI⟩
    unfold lFieldSidedX1 s1St s1End sH dk bx0 bxS
    simp [rFieldSidedX0, rFieldSidedX1, rFieldSidedX2, rFieldSidedX3, rFieldSidedX4, rFieldSidedX5, rFieldSidedX6, rFieldSidedX7, rFieldSidedX8, rFieldSidedX9, rFieldSidedX10, rFieldSidedX11, rFieldSidedX12, rFieldSidedX13, rFieldSidedX14, rFieldSidedX15, rFieldSidedX16, rFieldSidedX17, rFieldSidedX18, rFieldSidedX19, bls_length, blk, eds_length, eds_get, edsAt, edAV, allLeaf_eds, cleanL_eds, cleanL_ints, ints_length, ints_get, intsAt, endL, finB]
  | k + 1, v, a, o, hi, huv, hI => by
    have hlen := hI.2.2.2
    obtain ⟨a1, e | ⟨e, hs⟩⟩ := in_round l hl N hN S D u v a o huv (by omega) (by omega)
    · obtain ⟨a', o', e2, hI2⟩ := in_loop l hl N hN S D u k (v + 1) a1 o (by omega) (by omega) (ive_skip hI)
      exact ⟨a', o', (loop_next e).trans e2, hI2⟩
    · obtain ⟨a', o', e2, hI2⟩ := in_loop l hl N hN S D u k (v + 1) a1 _ (by omega) (by omega) (ive_add hI huv (by omega) hs)
      exact ⟨a', o', (loop_next e).trans e2, hI2⟩
end
def s2St (l : List Int) (a N : Nat) (S : List Int) (D : Int) (u : Nat) (o : List Ed) (J : Env) : St := ⟨(0, .ptr 0 0) :: (4, .ptr 1 0) :: (5, .int .i64 N) :: (6, .ptr 2 0) :: (7, .own 2 (eds o)) :: (8, .own 1 (bls N S)) :: (10, .int .i64 D) :: (11, .int .i64 u) :: J, sH l a S⟩
section
attribute [local simp] codeL_seq codeL_reg codeL_blk codeL_skip codeL_ret codeL_exit codeL_cnd condL_b thenL_n thenL_e thenL_r blkL_n blkL_e blkL_r regL_s opsB stepB opB opP opnd opnds lend lendC get_nil' get_cons' put_nil' put_cons' mem_nil' mem_cons' putdB putB slowP hasOwn hasOwnL finO relab anyB anyE anyH anyR borOf borL inSlot HAND endR hasOwnE endK keepIn trim noPtr noPtrL noPtrE noPtrH binA arith unA eqB isNilB eqc lenB bndB bnd rdN rdc AV.cells fillB peek ldOK AV.leaf allLeaf fz pl plL drawB allCW cwF okDrawB okPair Fq.ok dstOff wrOff notSlot noneIn apartR oldBoxes O.reads Kd.reads E.slot slots slotO slotsP List.getD pairIn nilL okRes clean cleanL resV resVs tupOf mkEnv partsBor doCallB inpB getArgs doCallO frzA frzV frzL minA minF cont ownAt at_ setAt rel dropS relC dropAll frzP frzAll firstBor borIn borC borS borE borH handTo mapSt mapE mapH mapB mapBL sw rt fb mvB mvRt seesP inRt isRoot rootOf boxOf seesB rootsL Am.rep ovw flatCells_ints allLeaf_ints flatCells el grp updE isNilB inpV inpL stB okL unA orcA bndB plL_ints fzL stBox inCells wrap0 wrap1 wrapm1 take_snoc
theorem out_loop (l : List Int) (hl : l.length ≤ 500) (N : Nat) (hN : N ≤ 64) (S : List Int) (D : Int) : ∀ (k u a : Nat) (o : List Ed), u + k = N → IVE N S o u 0 → ∃ a' o', codeL cfgS 1 (.loop lFieldSidedX2) (s2St l a N S D u o []) = some (.exit 2, s2St l a' N S D N o' [(42, .bool false)]) ∧ IVE N S o' N 0
  | 0, u, a, o, hi, hI => by
    obtain rfl : u = N := by omega
    refine ⟨a, o, loop_exit ?_, hI⟩
    unfold lFieldSidedX2 s2St sH dk bx0 bxS
    simp [rFieldSidedX0, rFieldSidedX1, rFieldSidedX2, rFieldSidedX3, rFieldSidedX4, rFieldSidedX5, rFieldSidedX6, rFieldSidedX7, rFieldSidedX8, rFieldSidedX9, rFieldSidedX10, rFieldSidedX11, rFieldSidedX12, rFieldSidedX13, rFieldSidedX14, rFieldSidedX15, rFieldSidedX16, rFieldSidedX17, rFieldSidedX18, rFieldSidedX19, bls_length, blk, eds_length, eds_get, edsAt, edAV, allLeaf_eds, cleanL_eds, cleanL_ints, ints_length, ints_get, intsAt, endL, finB]
  | k + 1, u, a, o, hi, hI => by
    have h1 : (u : Int) < N := by omega
    have hw := wrapS (i := u) (by omega)
    have hI1 : IVE N S o u (u + 1) := ⟨hI.1, hI.2.1, fun e he => by have := hI.2.2.1 e he; have := (hI.2.1 e he).1; omega, by have := hI.2.2.2; omega⟩
    obtain ⟨a1, o1, e1, hI2⟩ := in_loop l hl N hN S D u (N - (u + 1)) (u + 1) a o (by omega) (by omega) hI1
    have hI3 : IVE N S o1 (u + 1) 0 := ⟨hI2.1, hI2.2.1, fun e he => by have := hI2.2.2.1 e he; omega, by have := hI2.2.2.2; omega⟩
    obtain ⟨a', o', e2, hI4⟩ := out_loop l hl N hN S D k (u + 1) a1 o1 (by omega) hI3
    refine ⟨a', o', (loop_next ?_).trans e2, hI4⟩
    unfold s1St s1End sH dk bx0 bxS at e1
    rw [show ((u + 1 : Nat) : Int) = (u : Int) + 1 from rfl] at e1
    unfold lFieldSidedX2 s2St sH dk bx0 bxS
    simp [rFieldSidedX0, rFieldSidedX1, rFieldSidedX2, rFieldSidedX3, rFieldSidedX4, rFieldSidedX5, rFieldSidedX6, rFieldSidedX7, rFieldSidedX8, rFieldSidedX9, rFieldSidedX10, rFieldSidedX11, rFieldSidedX12, rFieldSidedX13, rFieldSidedX14, rFieldSidedX15, rFieldSidedX16, rFieldSidedX17, rFieldSidedX18, rFieldSidedX19, h1, hw, e1, bls_length, blk, eds_length, eds_get, edsAt, edAV, allLeaf_eds, cleanL_eds, cleanL_ints, ints_length, ints_get, intsAt, endL, finB]
end
theorem ofE_id {o : List Ed} (h : UpE o) (hv : ∀ e ∈ o, e.1 < e.2) : ofE o [] = o := by
  obtain ⟨h1, h2⟩ := ofE_spec o [] (by simp [UpE])
  refine upE_ext h1 h fun x => ?_
  rw [h2]
  have hn : ∀ e ∈ o, nrmE e.1 e.2 = e := fun e he => by
    have := hv e he
    unfold nrmE
    rw [if_neg (by omega), if_pos this]
  constructor
  · rintro (k | ⟨e, he, rfl⟩)
    · simp at k
    · rw [hn e he]; exact he
  · intro k; exact .inr ⟨x, k, (hn x k).symm⟩
section
attribute [local simp] codeL_seq codeL_reg codeL_blk codeL_skip codeL_ret codeL_exit codeL_cnd condL_b thenL_n thenL_e thenL_r blkL_n blkL_e blkL_r regL_s opsB stepB opB opP opnd opnds lend lendC get_nil' get_cons' put_nil' put_cons' mem_nil' mem_cons' putdB putB slowP hasOwn hasOwnL finO relab anyB anyE anyH anyR borOf borL inSlot HAND endR hasOwnE endK keepIn trim noPtr noPtrL noPtrE noPtrH binA arith unA eqB isNilB eqc lenB bndB bnd rdN rdc AV.cells fillB peek ldOK AV.leaf allLeaf fz pl plL drawB allCW cwF okDrawB okPair Fq.ok dstOff wrOff notSlot noneIn apartR oldBoxes O.reads Kd.reads E.slot slots slotO slotsP List.getD pairIn nilL okRes clean cleanL resV resVs tupOf mkEnv partsBor doCallB inpB getArgs doCallO frzA frzV frzL minA minF cont ownAt at_ setAt rel dropS relC dropAll frzP frzAll firstBor borIn borC borS borE borH handTo mapSt mapE mapH mapB mapBL sw rt fb mvB mvRt seesP inRt isRoot rootOf boxOf seesB rootsL Am.rep ovw flatCells_ints allLeaf_ints flatCells el grp updE isNilB inpV inpL stB okL unA orcA bndB plL_ints fzL stBox inCells wrap0 wrap1 wrapm1 take_snoc
theorem sided_run (l : List Int) (hl : l.length ≤ 500) (most : Nat) (hm : most ≤ 60) (a : Nat) : ∃ N Es L a', callL cfgS nFieldSided [.ptr 0 0, .int .i64 most] [dk l a] = some (.agg [.int .i64 (N : Nat), .list 2 (eds Es), .list 1 (ints L)], [dk l a']) ∧ BOK N Es L ∧ N ≤ most ∧ Es.length ≤ 10000 ∧ L.length ≤ 64 := by
  have hw : IntKind.i64.wrap ((most : Int) + 1) = (most : Int) + 1 := wrapZ (j := most + 1) rfl (by omega)
  have n1 := next_run l hl a ((most : Int) + 1) (by omega) [bx0] rest_1
  obtain ⟨b1, b2⟩ := nxV_bd l a (n := (most : Int) + 1) (by omega)
  obtain ⟨N, hN⟩ : ∃ N : Nat, nxV l a ((most : Int) + 1) = N := ⟨(nxV l a ((most : Int) + 1)).toNat, by omega⟩
  rw [hN] at n1 b1 b2
  have hN64 : N ≤ 64 := by omega
  obtain ⟨S, a2, n2, hSl, hSu, hSb⟩ := set_run l hl N hN64 [bx0] rest_1 (nxA l a ((most : Int) + 1))
  have n3 := left_loop l a2 N hN64 S hSb (by omega) S.length 0 (by omega)
  rw [nat0, List.take_zero] at n3
  have hr := bls_nil N
  have n4 := next_run l hl a2 4 (by omega) [bx0, bxS S] (rest_2 S)
  obtain ⟨a', o, n5, hI⟩ := out_loop l hl N hN64 S (IntKind.i64.wrap (1 + nxV l a2 4)) N 0 (nxA l a2 4) [] (by omega) ⟨by simp [UpE], by simp, by simp, by simp⟩
  have ho := hI.2.2.2
  have hlt : N * 64 ≤ 4096 := by omega
  have n6 := of3_run N o (by omega) (by omega) (fun e he => by have := hI.2.1 e he; omega)
  rw [ofE_id hI.1 (fun e he => (hI.2.1 e he).2.1)] at n6
  refine ⟨N, o, S, a', ?_, ⟨hN64, ⟨hI.1, fun e he => ⟨(hI.2.1 e he).1, (hI.2.1 e he).2.1, (hI.2.1 e he).2.2.1⟩⟩, ⟨hSu, hSb⟩, fun e he => (hI.2.1 e he).2.2.2⟩, by omega, by omega, by omega⟩
  rw [callL_end oFieldSided sFieldSided (Nat.le_of_ble_eq_true rfl)]
  unfold s2St sH at n5
  unfold dk bx0 bxS at *
  rw [nat0, eds_nil] at n5
  have nL : (N : Int) ≤ 4294967296 := by omega
  have nN : (0 : Int) ≤ N := by omega
  clear hI ho hlt b1 b2 hN hSu hSb
  unfold qFieldSided cFieldSided
  simp [rFieldSidedX0, rFieldSidedX1, rFieldSidedX2, rFieldSidedX3, rFieldSidedX4, rFieldSidedX5, rFieldSidedX6, rFieldSidedX7, rFieldSidedX8, rFieldSidedX9, rFieldSidedX10, rFieldSidedX11, rFieldSidedX12, rFieldSidedX13, rFieldSidedX14, rFieldSidedX15, rFieldSidedX16, rFieldSidedX17, rFieldSidedX18, rFieldSidedX19, hw, n1, n2, n3, hr, n4, n5, n6, nL, nN, bls_length, bls_take, LIM, eds_take, sMakeDeckNext, iMakeDeckNext, sMakeSet, iMakeSet, sRef03Of, iRef03Of, plp, plpL, allB, notBox, swC, swS, seesC, inBox, finS, blk, eds_length, eds_get, edsAt, edAV, allLeaf_eds, cleanL_eds, cleanL_ints, ints_length, ints_get, intsAt, endL, finB]
end
end Go.BmP
