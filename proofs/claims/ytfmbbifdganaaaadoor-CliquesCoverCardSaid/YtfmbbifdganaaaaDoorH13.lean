/- What the bits of cliques return: masks, all; the boxes of a walk. -/
import Derived.Test.YtfmbbifdganaaaaDoorUseM
import Derived.Test.YtfmbbifdganaaaaDoorCliP
import Derived.Test.YtfmbbifdganaaaaDoorK07
set_option linter.unusedSimpArgs false
set_option linter.unusedVariables false
set_option maxRecDepth 100000
set_option maxHeartbeats 4000000
namespace Go.BmP
open Go.Am Go.Bm
theorem msks_loop (N : Nat) (hN : N <= 64) (Es : List Ed) (hE : Es.length < 4294967295) (hv : ∀ e ∈ Es, 0 <= e.1 /\ e.1 < e.2 /\ e.2 < (N : Int)) : ∀ (k i : Nat) (A : List Nat), i + k = Es.length -> A.length = N -> Small A -> codeL cfgS 0 (.loop lQxX0) ⟨[(3, .own 1 (us A)), (10, .list 2 (eds Es)), (11, .int .i64 Es.length), (12, .int .i64 i)], []⟩ =
  some (.exit 0, ⟨[(3, .own 1 (us (adjOf (Es.drop i) A))), (10, .list 2 (eds Es)), (11, .int .i64 Es.length), (12, .int .i64 Es.length), (13, .bool false)], []⟩)
 | 0, i, A, hi, hA, hS => by
   obtain rfl : i = Es.length := by omega
   rw [List.drop_length]
   exact loop_exit (by unfold lQxX0; simp [rQxX0, rQxX1, rQxX2, rQxX3, rQxX4, rQxX5, rQxX6, rQxX7, rQxX8, adjOf, List.foldl_nil, blk, eds_length, eds_get, edsAt, edAV, allLeaf_eds, cleanL_eds, cleanL_ints, ints_length, ints_get, intsAt, endL, finB])
 | k + 1, i, A, hi, hA, hS => by
   have hlt : i < Es.length := by omega
   have h1 : (i : Int) < Es.length := by omega
   have hw := wrapS (i := i) (by omega)
   obtain ⟨u0, uv, vn⟩ := hv Es[i] (List.getElem_mem hlt)
   have ih := msks_loop N hN Es hE hv k (i + 1) (adF A Es[i]) (by omega) (by rw [adF_length]; exact hA) (adF_small hS (by omega) (by omega))
   rw [List.drop_eq_getElem_cons hlt]
   have v0 : 0 <= Es[i].2 := by omega
   have un : Es[i].1 < (N : Int) := by omega
   have u0' : ¬ Es[i].1 < 0 := by omega
   have v0' : ¬ Es[i].2 < 0 := by omega
   have uN : Es[i].1.toNat < N := by omega
   have vN : Es[i].2.toNat < N := by omega
   have pu := pow_lt64 (v := Es[i].1) (by omega) u0
   have pv := pow_lt64 (v := Es[i].2) (by omega) v0
   have su := shlU (v := Es[i].1) u0 (by omega)
   have sv := shlU (v := Es[i].2) v0 (by omega)
   have su' : IntKind.u64.wrap (2 ^ (min Es[i].1.toNat 64)) = ((2 ^ Es[i].1.toNat : Nat) : Int) := by rw [<- su, Int.one_mul]
   have sv' : IntKind.u64.wrap (2 ^ (min Es[i].2.toNat 64)) = ((2 ^ Es[i].2.toNat : Nat) : Int) := by rw [<- sv, Int.one_mul]
   have gu : (us A)[Es[i].1.toNat]? = some (.int .u64 (A.getD Es[i].1.toNat 0 : Nat)) := by
    rw [us_get, List.getD_eq_getElem?_getD, List.getElem?_eq_getElem (by omega)]; rfl
   have xu := getD_lt hS Es[i].1.toNat
   have ou := u64_or_nat (A.getD Es[i].1.toNat 0) (2 ^ Es[i].2.toNat) xu pv
   have eu := us_set A Es[i].1.toNat (A.getD Es[i].1.toNat 0 ||| 2 ^ Es[i].2.toNat)
   have sm : Small (A.set Es[i].1.toNat (A.getD Es[i].1.toNat 0 ||| 2 ^ Es[i].2.toNat)) := set_small hS (Nat.or_lt_two_pow (n := 64) xu pv)
   have eln : (A.set Es[i].1.toNat (A.getD Es[i].1.toNat 0 ||| 2 ^ Es[i].2.toNat)).length = N := by rw [List.length_set]; exact hA
   have ead : adjOf (Es[i] :: Es.drop (i + 1)) A = adjOf (Es.drop (i + 1)) (adF A Es[i]) := rfl
   rw [ead]
   have eA : adF A Es[i] = (A.set Es[i].1.toNat (A.getD Es[i].1.toNat 0 ||| 2 ^ Es[i].2.toNat)).set Es[i].2.toNat ((A.set Es[i].1.toNat (A.getD Es[i].1.toNat 0 ||| 2 ^ Es[i].2.toNat)).getD Es[i].2.toNat 0 ||| 2 ^ Es[i].1.toNat) := rfl
   rw [eA] at ih ⊢
   generalize hA1 : A.set Es[i].1.toNat (A.getD Es[i].1.toNat 0 ||| 2 ^ Es[i].2.toNat) = A1 at *
   have gv : (us A1)[Es[i].2.toNat]? = some (.int .u64 (A1.getD Es[i].2.toNat 0 : Nat)) := by
    rw [us_get, List.getD_eq_getElem?_getD, List.getElem?_eq_getElem (by omega)]; rfl
   have ov := u64_or_nat (A1.getD Es[i].2.toNat 0) (2 ^ Es[i].1.toNat) (getD_lt sm _) pu
   have ev := us_set A1 Es[i].2.toNat (A1.getD Es[i].2.toNat 0 ||| 2 ^ Es[i].1.toNat)
   generalize A1.getD Es[i].2.toNat 0 ||| 2 ^ Es[i].1.toNat = q at *
   generalize A.getD Es[i].1.toNat 0 ||| 2 ^ Es[i].2.toNat = p at *
   generalize A1.getD Es[i].2.toNat 0 = y at *
   generalize A.getD Es[i].1.toNat 0 = x at *
   generalize 2 ^ Es[i].1.toNat = pU at *
   generalize 2 ^ Es[i].2.toNat = pV at *
   clear pu pv xu sm eA ead hA1
   have gu' : ∀ h : Es[i].1.toNat < (us A).length, (us A)[Es[i].1.toNat] = .int .u64 (x : Int) := fun h => by rw [List.getElem?_eq_getElem h] at gu; exact Option.some.inj gu
   have gv' : ∀ h : Es[i].2.toNat < (us A1).length, (us A1)[Es[i].2.toNat] = .int .u64 (y : Int) := fun h => by rw [List.getElem?_eq_getElem h] at gv; exact Option.some.inj gv
   refine (loop_next (s' := ⟨[(3, .own 1 (us (A1.set Es[i].2.toNat q))), (10, .list 2 (eds Es)), (11, .int .i64 Es.length), (12, .int .i64 ((i + 1 : Nat) : Int))], []⟩) ?_).trans ih
   unfold lQxX0
   simp [rQxX0, rQxX1, rQxX2, rQxX3, rQxX4, rQxX5, rQxX6, rQxX7, rQxX8, h1, hlt, hw, u0, v0, u0', v0', un, vn, uN, vN, su, sv, su', sv', gu, gv, gu', gv', ou, ov, eu, ev, hA, eln, us_length, idx, IntKind.bits, fz, pl, AV.leaf, blk, eds_length, eds_get, edsAt, edAV, allLeaf_eds, cleanL_eds, cleanL_ints, ints_length, ints_get, intsAt, endL, finB]
theorem msks_run {N : Nat} {Es : List Ed} (h : GOK (N : Int) Es) (hE : Es.length < 4294967295) : callL cfgS nQx [.agg [.int .i64 N, .list 2 (eds Es)]] [] = some (.list 1 (us (adjE N Es)), []) := by
 rw [callL_end oQx sQx (Nat.le_of_ble_eq_true rfl)]
 have hn := gok_n h
 have hl := msks_loop N hn Es hE h.2.2 Es.length 0 (List.replicate N 0) (by omega) (by simp) (fun x hx => by have := List.eq_of_mem_replicate hx; omega)
 rw [nat0, List.drop_zero] at hl
 have r1 : List.replicate N (AV.int .u64 0) = us (List.replicate N 0) := us_rep N
 have n0 : ¬ (N : Int) < 0 := by omega
 have nL : (N : Int) <= 4294967296 := by omega
 have ea : adjOf Es (List.replicate N 0) = adjE N Es := rfl
 rw [ea] at hl
 have tk : (us (adjE N Es)).take (adjE N Es).length = us (adjE N Es) := by rw [us_take, List.take_length]
 have e := (gadj h).1
 have tkr : (us (List.replicate N 0)).take N = us (List.replicate N 0) := by
  have := List.take_length (l := us (List.replicate N 0))
  rwa [us_length, List.length_replicate] at this
 rw [e] at tk
 unfold qQx cQx
 simp [rQxX0, rQxX1, rQxX2, rQxX3, rQxX4, rQxX5, rQxX6, rQxX7, rQxX8, hl, r1, tkr, e, List.length_replicate, n0, nL, us_length, tk, LIM, blk, eds_length, eds_get, edsAt, edAV, allLeaf_eds, cleanL_eds, cleanL_ints, ints_length, ints_get, intsAt, endL, finB]
theorem alln_run (N : Nat) (hn : N <= 64) : callL cfgS nQS [.int .i64 N] [] = some (.int .u64 ((2 ^ N - 1 : Nat) : Int), []) := by
 rw [callL_end oQS sQS (Nat.le_of_ble_eq_true rfl)]
 have n0 : ¬ (N : Int) < 0 := by omega
 have e1 : IntKind.u64.wrap (1 * 2 ^ (min N 64)) = IntKind.u64.wrap ((2 ^ N : Nat) : Int) := by rw [show min N 64 = N by omega, Int.one_mul]; simp
 have e1' : IntKind.u64.wrap (2 ^ (min N 64)) = IntKind.u64.wrap ((2 ^ N : Nat) : Int) := by rw [show min N 64 = N by omega]; simp
 have hp : 0 < 2 ^ N := Nat.two_pow_pos N
 have hq : 2 ^ N <= 2 ^ 64 := Nat.pow_le_pow_right (by decide) hn
 have e2 : IntKind.u64.wrap (IntKind.u64.wrap ((2 ^ N : Nat) : Int) - 1) = ((2 ^ N - 1 : Nat) : Int) := by
  rw [IntKind.wrap_u64, IntKind.wrap_u64]; omega
 generalize IntKind.u64.wrap ((2 ^ N : Nat) : Int) = W at *
 generalize 2 ^ N - 1 = W1 at *
 unfold qQS cQS
 simp [rQSX0, rQSX1, n0, e1, e1', e2, IntKind.bits, blk, eds_length, eds_get, edsAt, edAV, allLeaf_eds, cleanL_eds, cleanL_ints, ints_length, ints_get, intsAt, endL, finB]
structure Plain (x : List AV) : Prop where
 m : ∀ g, mapBL g x = x
 b : borL x = []
 n : ∀ b, noPtrL b x = true
 c : ∀ p f j, borC p f j x = none
structure PlainC (x : List AV) : Prop where
 m : ∀ g, mapBL g x = x
 b : borL x = []
 o : hasOwnL x = false
 p : plpL x = true
 l : x.map nilL = x
 n : ∀ b, 3 <= b -> noPtrL b x = true
def kH (N : Nat) (Es : List Ed) (x1 x2 : List AV) (nT : Nat) (caps : List AV) (after : List Int) (P : List Int) : Heap := [some [.int .i64 N, .list 2 (eds Es)], some x1, some x2, some [.int .i64 N, .list 2 (eds Es)], some [.list 1 (ints after)], some [.func (.func nT) [] caps], some [.list 1 (us (adjE N Es))], some [.own 1 (ints P)], some [.func (.func nQR) [] [.ptr 7 0, .ptr 4 0, .ptr 5 0, .ptr 6 0, .ptr 8 0]]]
structure TakeK {σ : Type} (N : Nat) (Es : List Ed) (after : List Int) (x1 : List AV) (nT : Nat) (caps : List AV) (X2 : σ -> List AV) (tk : σ -> List Int -> σ × Bool) (Inv : σ -> Prop) : Prop where
 fn : ∃ q, cfgS.fn nT = some (⟨true, false, false⟩, q)
 px1 : Plain x1
 px2 : ∀ s, Plain (X2 s)
 cp : PlainC caps
 run : ∀ s S P, Inv s -> S ≠ [] -> S.length <= 64 -> callL cfgS nT (.list 1 (ints S) :: caps) (kH N Es x1 (X2 s) nT caps after P) = some (.bool (tk s S).2, kH N Es x1 (X2 (tk s S).1) nT caps after P)
 inv : ∀ s S, Inv s -> S ≠ [] -> S.length <= 64 -> (tk s S).2 = true -> Inv (tk s S).1
theorem clone_ne {Q : List Int} (h0 : Q ≠ []) (hl : Q.length < 4294967295) : callL cfgS nQH [.list 1 (ints Q)] [] = some (.own 1 (ints Q), []) := by
 cases Q with
 | nil => exact absurd rfl h0
 | cons x r =>
   have hl' : r.length + 1 <= 4294967296 := by simp at hl; omega
   rw [callL_ofA (by unfold orcA; rw [oQH]; rfl) sQH (Nat.le_of_ble_eq_true rfl)]
   unfold qQH cQH
   simp [rQHX0, rQHX1, rQHX2, rQHX3, ints_cons, ints_length, hl', LIM, endL, finB, allLocal, local_, takeR, takeV, ints_take, List.take_take, Nat.min_self, List.take_length, AV.cells, AV.leaf]
end Go.BmP
