/- What the bits of cliques return: masks, all; the boxes of a walk, behind any boxes that lead. -/
import Derived.Test.YtiohfglnoneanaaDoorCliP
import Derived.Test.YtiohfglnoneanaaDoorK07
set_option linter.unusedSimpArgs false
set_option linter.unusedVariables false
set_option maxRecDepth 100000
set_option maxHeartbeats 4000000
namespace Go.BmP
open Go.Am Go.Bm
section
attribute [local simp] codeL_seq codeL_reg codeL_blk codeL_skip codeL_ret codeL_exit codeL_cnd condL_b thenL_n thenL_e thenL_r blkL_n blkL_e blkL_r regL_s opsB stepB opB opP opnd opnds lend lendC get_nil' get_cons' put_nil' put_cons' mem_nil' mem_cons' putdB putB slowP hasOwn hasOwnL finO relab anyB anyE anyH anyR borOf borL inSlot HAND endR hasOwnE endK keepIn trim noPtr noPtrL noPtrE noPtrH binA arith unA eqB isNilB eqc lenB bndB bnd rdN rdc AV.cells fillB peek ldOK AV.leaf allLeaf fz pl plL drawB allCW cwF okDrawB okPair Fq.ok dstOff wrOff notSlot noneIn apartR oldBoxes O.reads Kd.reads E.slot slots slotO slotsP List.getD pairIn nilL okRes clean cleanL resV resVs tupOf mkEnv partsBor doCallB inpB getArgs doCallO frzA frzV frzL minA minF cont ownAt at_ setAt rel dropS relC dropAll frzP frzAll firstBor borIn borC borS borE borH handTo mapSt mapE mapH mapB mapBL sw rt fb mvB mvRt seesP inRt isRoot rootOf boxOf seesB rootsL Am.rep ovw flatCells_ints allLeaf_ints flatCells el grp updE isNilB inpV inpL stB okL unA orcA bndB plL_ints fzL stBox inCells wrap0 wrap1 wrapm1 take_snoc BIGB marks
theorem msks_loop (N : Nat) (hN : N ≤ 64) (Es : List Ed) (hE : Es.length < 4294967295) (hv : ∀ e ∈ Es, 0 ≤ e.1 ∧ e.1 < e.2 ∧ e.2 < (N : Int)) : ∀ (k i : Nat) (A : List Nat), i + k = Es.length → A.length = N → Small A → codeL cfgS 0 (.loop lCliquesMasksX0) ⟨[(3, .own 1 (us A)), (10, .list 2 (eds Es)), (11, .int .i64 Es.length), (12, .int .i64 i)], []⟩ =
    some (.exit 0, ⟨[(3, .own 1 (us (adjOf (Es.drop i) A))), (10, .list 2 (eds Es)), (11, .int .i64 Es.length), (12, .int .i64 Es.length), (13, .bool false)], []⟩)
  | 0, i, A, hi, hA, hS => by
    obtain rfl : i = Es.length := by omega
    rw [List.drop_length]
    exact loop_exit (by unfold lCliquesMasksX0; simp [rCliquesMasksX0, rCliquesMasksX1, rCliquesMasksX2, rCliquesMasksX3, rCliquesMasksX4, rCliquesMasksX5, rCliquesMasksX6, rCliquesMasksX7, rCliquesMasksX8, adjOf, List.foldl_nil, blk, eds_length, eds_get, edsAt, edAV, allLeaf_eds, cleanL_eds, cleanL_ints, ints_length, ints_get, intsAt, endL, finB])
  | k + 1, i, A, hi, hA, hS => by
    have hlt : i < Es.length := by omega
    have h1 : (i : Int) < Es.length := by omega
    have hw := wrapS (i := i) (by omega)
    obtain ⟨u0, uv, vn⟩ := hv Es[i] (List.getElem_mem hlt)
    have ih := msks_loop N hN Es hE hv k (i + 1) (adF A Es[i]) (by omega) (by rw [adF_length]; exact hA) (adF_small hS (by omega) (by omega))
    rw [List.drop_eq_getElem_cons hlt]
    have v0 : 0 ≤ Es[i].2 := by omega
    have un : Es[i].1 < (N : Int) := by omega
    have u0' : ¬ Es[i].1 < 0 := by omega
    have v0' : ¬ Es[i].2 < 0 := by omega
    have uN : Es[i].1.toNat < N := by omega
    have vN : Es[i].2.toNat < N := by omega
    have pu := pow_lt64 (v := Es[i].1) (by omega) u0
    have pv := pow_lt64 (v := Es[i].2) (by omega) v0
    have su := shlU (v := Es[i].1) u0 (by omega)
    have sv := shlU (v := Es[i].2) v0 (by omega)
    have su' : IntKind.u64.wrap (2 ^ (min Es[i].1.toNat 64)) = ((2 ^ Es[i].1.toNat : Nat) : Int) := by rw [← su, Int.one_mul]
    have sv' : IntKind.u64.wrap (2 ^ (min Es[i].2.toNat 64)) = ((2 ^ Es[i].2.toNat : Nat) : Int) := by rw [← sv, Int.one_mul]
    have gu : (us A)[Es[i].1.toNat]? = some (.int .u64 (A.getD Es[i].1.toNat 0 : Nat)) := by
      rw [us_get, List.getD_eq_getElem?_getD, List.getElem?_eq_getElem (by omega)]; rfl
    have xu := getD_lt hS Es[i].1.toNat
    have ou := u64_or_nat (A.getD Es[i].1.toNat 0) (2 ^ Es[i].2.toNat) xu pv
    have eu := us_set A Es[i].1.toNat (A.getD Es[i].1.toNat 0 ||| 2 ^ Es[i].2.toNat)
    have sm : Small (A.set Es[i].1.toNat (A.getD Es[i].1.toNat 0 ||| 2 ^ Es[i].2.toNat)) := set_small hS (Nat.or_lt_two_pow (n := 64) xu pv)
    have eln : (A.set Es[i].1.toNat (A.getD Es[i].1.toNat 0 ||| 2 ^ Es[i].2.toNat)).length = N := by rw [List.length_set]; exact hA
    have ead : adjOf (Es[i] :: Es.drop (i + 1)) A = adjOf (Es.drop (i + 1)) (adF A Es[i]) := rfl
    rw [ead]
    have eA : adF A Es[i] = (A.set Es[i].1.toNat (A.getD Es[i].1.toNat 0 ||| 2 ^ Es[i].2.toNat)).set Es[i].2.toNat ((A.set Es[i].1.toNat (A.getD Es[i].1.toNat 0 ||| 2 ^ Es[i].2.toNat)).getD Es[i].2.toNat 0 ||| 2 ^ Es[i].1.toNat) := rfl
    rw [eA] at ih ⊢
    generalize hA1 : A.set Es[i].1.toNat (A.getD Es[i].1.toNat 0 ||| 2 ^ Es[i].2.toNat) = A1 at *
    have gv : (us A1)[Es[i].2.toNat]? = some (.int .u64 (A1.getD Es[i].2.toNat 0 : Nat)) := by
      rw [us_get, List.getD_eq_getElem?_getD, List.getElem?_eq_getElem (by omega)]; rfl
    have ov := u64_or_nat (A1.getD Es[i].2.toNat 0) (2 ^ Es[i].1.toNat) (getD_lt sm _) pu
    have ev := us_set A1 Es[i].2.toNat (A1.getD Es[i].2.toNat 0 ||| 2 ^ Es[i].1.toNat)
    generalize A1.getD Es[i].2.toNat 0 ||| 2 ^ Es[i].1.toNat = q at *
    generalize A.getD Es[i].1.toNat 0 ||| 2 ^ Es[i].2.toNat = p at *
    generalize A1.getD Es[i].2.toNat 0 = y at *
    generalize A.getD Es[i].1.toNat 0 = x at *
    generalize 2 ^ Es[i].1.toNat = pU at *
    generalize 2 ^ Es[i].2.toNat = pV at *
    clear pu pv xu sm eA ead hA1
    have gu' : ∀ h : Es[i].1.toNat < (us A).length, (us A)[Es[i].1.toNat] = .int .u64 (x : Int) := fun h => by rw [List.getElem?_eq_getElem h] at gu; exact Option.some.inj gu
    have gv' : ∀ h : Es[i].2.toNat < (us A1).length, (us A1)[Es[i].2.toNat] = .int .u64 (y : Int) := fun h => by rw [List.getElem?_eq_getElem h] at gv; exact Option.some.inj gv
    refine (loop_next (s' := ⟨[(3, .own 1 (us (A1.set Es[i].2.toNat q))), (10, .list 2 (eds Es)), (11, .int .i64 Es.length), (12, .int .i64 ((i + 1 : Nat) : Int))], []⟩) ?_).trans ih
    unfold lCliquesMasksX0
    simp [rCliquesMasksX0, rCliquesMasksX1, rCliquesMasksX2, rCliquesMasksX3, rCliquesMasksX4, rCliquesMasksX5, rCliquesMasksX6, rCliquesMasksX7, rCliquesMasksX8, h1, hlt, hw, u0, v0, u0', v0', un, vn, uN, vN, su, sv, su', sv', gu, gv, gu', gv', ou, ov, eu, ev, hA, eln, us_length, idx, IntKind.bits, fz, pl, AV.leaf, blk, eds_length, eds_get, edsAt, edAV, allLeaf_eds, cleanL_eds, cleanL_ints, ints_length, ints_get, intsAt, endL, finB]
theorem msks_run {N : Nat} {Es : List Ed} (h : GOK (N : Int) Es) (hE : Es.length < 4294967295) : callL cfgS nCliquesMasks [.agg [.int .i64 N, .list 2 (eds Es)]] [] = some (.list 1 (us (adjE N Es)), []) := by
  rw [callL_end oCliquesMasks sCliquesMasks (Nat.le_of_ble_eq_true rfl)]
  have hn := gok_n h
  have hl := msks_loop N hn Es hE h.2.2 Es.length 0 (List.replicate N 0) (by omega) (by simp) (fun x hx => by have := List.eq_of_mem_replicate hx; omega)
  rw [nat0, List.drop_zero] at hl
  have r1 : List.replicate N (AV.int .u64 0) = us (List.replicate N 0) := us_rep N
  have n0 : ¬ (N : Int) < 0 := by omega
  have nL : (N : Int) ≤ 4294967296 := by omega
  have ea : adjOf Es (List.replicate N 0) = adjE N Es := rfl
  rw [ea] at hl
  have tk : (us (adjE N Es)).take (adjE N Es).length = us (adjE N Es) := by rw [us_take, List.take_length]
  have e := (gadj h).1
  have tkr : (us (List.replicate N 0)).take N = us (List.replicate N 0) := by
    have := List.take_length (l := us (List.replicate N 0))
    rwa [us_length, List.length_replicate] at this
  rw [e] at tk
  unfold qCliquesMasks cCliquesMasks
  simp [rCliquesMasksX0, rCliquesMasksX1, rCliquesMasksX2, rCliquesMasksX3, rCliquesMasksX4, rCliquesMasksX5, rCliquesMasksX6, rCliquesMasksX7, rCliquesMasksX8, hl, r1, tkr, e, List.length_replicate, n0, nL, us_length, tk, LIM, blk, eds_length, eds_get, edsAt, edAV, allLeaf_eds, cleanL_eds, cleanL_ints, ints_length, ints_get, intsAt, endL, finB]
theorem alln_run (N : Nat) (hn : N ≤ 64) : callL cfgS nCliquesAllN77 [.int .i64 N] [] = some (.int .u64 ((2 ^ N - 1 : Nat) : Int), []) := by
  rw [callL_end oCliquesAllN77 sCliquesAllN77 (Nat.le_of_ble_eq_true rfl)]
  have n0 : ¬ (N : Int) < 0 := by omega
  have e1 : IntKind.u64.wrap (1 * 2 ^ (min N 64)) = IntKind.u64.wrap ((2 ^ N : Nat) : Int) := by rw [show min N 64 = N by omega, Int.one_mul]; simp
  have e1' : IntKind.u64.wrap (2 ^ (min N 64)) = IntKind.u64.wrap ((2 ^ N : Nat) : Int) := by rw [show min N 64 = N by omega]; simp
  have hp : 0 < 2 ^ N := Nat.two_pow_pos N
  have hq : 2 ^ N ≤ 2 ^ 64 := Nat.pow_le_pow_right (by decide) hn
  have e2 : IntKind.u64.wrap (IntKind.u64.wrap ((2 ^ N : Nat) : Int) - 1) = ((2 ^ N - 1 : Nat) : Int) := by
    rw [IntKind.wrap_u64, IntKind.wrap_u64]; omega
  generalize IntKind.u64.wrap ((2 ^ N : Nat) : Int) = W at *
  generalize 2 ^ N - 1 = W1 at *
  unfold qCliquesAllN77 cCliquesAllN77
  simp [rCliquesAllN77X0, rCliquesAllN77X1, n0, e1, e1', e2, IntKind.bits, blk, eds_length, eds_get, edsAt, edAV, allLeaf_eds, cleanL_eds, cleanL_ints, ints_length, ints_get, intsAt, endL, finB]
end
/-- Cells that refer to nothing. -/
structure Plain (x : List AV) : Prop where
  m : ∀ g, mapBL g x = x
  b : borL x = []
  n : ∀ b, noPtrL b x = true
  c : ∀ p f j, borC p f j x = none
/-- What a function value holds: pointers to the first boxes. -/
structure PlainC (nb : Nat) (x : List AV) : Prop where
  m : ∀ g, mapBL g x = x
  b : borL x = []
  o : hasOwnL x = false
  p : plpL x = true
  l : x.map nilL = x
  n : ∀ b, nb ≤ b → noPtrL b x = true
/-- Boxes that lead, and refer to nothing. -/
structure Lead (nb : Nat) (L : Heap) : Prop where
  m : ∀ g R, mapH g (L ++ R) = L ++ mapH g R
  a : ∀ R, allB (L ++ R) = allB R
  b : ∀ p i R, borH p i (L ++ R) = borH p (i + nb) R
  f : ∀ f R, anyH f (L ++ R) = anyH f R
  s : ∀ p i R, seesB p i (L ++ R) = seesB p (i + nb) R
  n : ∀ b R, noPtrH b (L ++ R) = noPtrH b R
  k : ∀ i R, blk (L ++ R) (nb + i) = blk R i
  kz : ∀ R, blk (L ++ R) nb = blk R 0
  w : ∀ i x (R : Heap), (L ++ R).set (nb + i) x = L ++ R.set i x
  wz : ∀ x (R : Heap), (L ++ R).set nb x = L ++ R.set 0 x
  l : L.length = nb
  t : ∀ i (R : Heap), (L ++ R).take (nb + i) = L ++ R.take i
theorem lead_nil : Lead 0 [] := ⟨fun _ _ => rfl, fun _ => rfl, fun _ _ _ => rfl, fun _ _ => rfl, fun _ _ _ => rfl, fun _ _ => rfl, fun i R => by simp, fun _ => rfl, fun i x R => by simp, fun _ _ => rfl, rfl, fun i R => by simp⟩
theorem lead_snoc {nb : Nat} {L : Heap} (h : Lead nb L) {x : List AV} (q : Plain x) : Lead (nb + 1) (L ++ [some x]) := by
  obtain ⟨f1, f2, f3, f4, f5, f6, f7, f7z, f8, f8z, f9, f10⟩ := h
  obtain ⟨p1, p2, p3, p4⟩ := q
  refine ⟨fun g R => ?_, fun R => ?_, fun p i R => ?_, fun f R => ?_, fun p i R => ?_, fun b R => ?_, fun i R => ?_, fun R => ?_, fun i y R => ?_, fun y R => ?_, ?_, fun i R => ?_⟩
  · rw [List.append_assoc, f1]; simp [mapH, p1]
  · rw [List.append_assoc, f2]; simp [allB, p2, anyR]
  · rw [List.append_assoc, f3]; simp [borH, p4, Nat.add_assoc]
  · rw [List.append_assoc, f4]; simp [anyH, p2, anyR]
  · rw [List.append_assoc, f5]; simp [seesB, p2, inRt, Nat.add_assoc]
  · rw [List.append_assoc, f6]; simp [noPtrH, p3]
  · rw [List.append_assoc, show nb + 1 + i = nb + (i + 1) by omega, f7]; rfl
  · rw [List.append_assoc, f7]; rfl
  · rw [List.append_assoc, show nb + 1 + i = nb + (i + 1) by omega, f8]; simp
  · rw [List.append_assoc, f8]; simp
  · simp [f9]
  · rw [List.append_assoc, show nb + 1 + i = nb + (i + 1) by omega, f10]; simp
/-- The boxes of a function that walks. -/
def kH (nb : Nat) (L : Heap) (N : Nat) (Es : List Ed) (nT : Nat) (caps : List AV) (after : List Int) (P : List Int) : Heap := L ++ [some [.int .i64 N, .list 2 (eds Es)], some [.list 1 (ints after)], some [.func (.func nT) [] caps], some [.list 1 (us (adjE N Es))], some [.own 1 (ints P)], some [.func (.func nCliquesEach1) [] [.ptr (nb + 4) 0, .ptr (nb + 1) 0, .ptr (nb + 2) 0, .ptr (nb + 3) 0, .ptr (nb + 5) 0]]]
section
attribute [local simp] codeL_seq codeL_reg codeL_blk codeL_skip codeL_ret codeL_exit codeL_cnd condL_b thenL_n thenL_e thenL_r blkL_n blkL_e blkL_r regL_s opsB stepB opB opP opnd opnds lend lendC get_nil' get_cons' put_nil' put_cons' mem_nil' mem_cons' putdB putB slowP hasOwn hasOwnL finO relab anyB anyE anyH anyR borOf borL inSlot HAND endR hasOwnE endK keepIn trim noPtr noPtrL noPtrE noPtrH binA arith unA eqB isNilB eqc lenB bndB bnd rdN rdc AV.cells fillB peek ldOK AV.leaf allLeaf fz pl plL drawB allCW cwF okDrawB okPair Fq.ok dstOff wrOff notSlot noneIn apartR oldBoxes O.reads Kd.reads E.slot slots slotO slotsP List.getD pairIn nilL okRes clean cleanL resV resVs tupOf mkEnv partsBor doCallB inpB getArgs doCallO frzA frzV frzL minA minF cont ownAt at_ setAt rel dropS relC dropAll frzP frzAll firstBor borIn borC borS borE borH handTo mapSt mapE mapH mapB mapBL sw rt fb mvB mvRt seesP inRt isRoot rootOf boxOf seesB rootsL Am.rep ovw flatCells_ints allLeaf_ints flatCells el grp updE isNilB inpV inpL stB okL unA orcA bndB plL_ints fzL stBox inCells wrap0 wrap1 wrapm1 take_snoc BIGB marks
/-- What the walk wants of a function that it hands the cliques to. -/
structure TakeK {σ : Type} (N : Nat) (Es : List Ed) (after : List Int) (nb : Nat) (nT : Nat) (caps : List AV) (X2 : σ → Heap) (tk : σ → List Int → σ × Bool) (Inv : σ → Prop) : Prop where
  fn : ∃ q, cfgS.fn nT = some (⟨true, false, false⟩, q)
  px : ∀ s, Lead nb (X2 s)
  cp : PlainC nb caps
  run : ∀ s S P, Inv s → S ≠ [] → S.length ≤ 64 → callL cfgS nT (.list 1 (ints S) :: caps) (kH nb (X2 s) N Es nT caps after P) = some (.bool (tk s S).2, kH nb (X2 (tk s S).1) N Es nT caps after P)
  inv : ∀ s S, Inv s → S ≠ [] → S.length ≤ 64 → (tk s S).2 = true → Inv (tk s S).1
theorem clone_ne {Q : List Int} (h0 : Q ≠ []) (hl : Q.length < 4294967295) : callL cfgS nSlicesCloneIntInt [.list 1 (ints Q)] [] = some (.own 1 (ints Q), []) := by
  cases Q with
  | nil => exact absurd rfl h0
  | cons x r =>
    have hl' : r.length + 1 ≤ 4294967296 := by simp at hl; omega
    rw [callL_ofA (by unfold orcA; rw [oSlicesCloneIntInt]; rfl) sSlicesCloneIntInt (Nat.le_of_ble_eq_true rfl)]
    unfold qSlicesCloneIntInt cSlicesCloneIntInt
    simp [rSlicesCloneIntIntX0, rSlicesCloneIntIntX1, rSlicesCloneIntIntX2, rSlicesCloneIntIntX3, ints_cons, ints_length, hl', LIM, endL, finB, allLocal, local_, takeR, takeV, ints_take, List.take_take, Nat.min_self, List.take_length, AV.cells, AV.leaf]
end
end Go.BmP
