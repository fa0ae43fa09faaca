/- What degree.Degrees and Sequence return of any graph. -/
import Derived.Test.YtegmpkeejgflnaaUseM
import Derived.Test.YtegmpkeejgflnaaDgN
import Derived.Test.YtegmpkeejgflnaaDgH
set_option linter.unusedSimpArgs false
set_option linter.unusedVariables false
set_option maxRecDepth 100000
set_option maxHeartbeats 8000000
namespace Go.BmP
open Go.Am Go.Bm
def gBl (n : Int) (Fs : List Ed) : Blk := some [.int .i64 n, .list 2 (eds Fs)]
def dRs (N : Nat) (b : Nat) : AV := if N = 0 then .list 1 [] else .sl 1 b 0 N
def dHp (N : Nat) (D : List Int) (R : Heap) : Heap := if N = 0 then R else R ++ [some (ints D)]
theorem rest_gBl (n : Int) (Fs : List Ed) : Rest [gBl n Fs] := ⟨fun _ => rfl, rfl, fun _ _ => rfl, fun _ => rfl, fun _ _ => rfl⟩
theorem rest_nil : Rest [] := ⟨fun _ => rfl, rfl, fun _ _ => rfl, fun _ => rfl, fun _ _ => rfl⟩
theorem pdeg_run {N : Nat} {Es : List Ed} (hG : GOK (N : Int) Es) (hE : Es.length < 1000000) (R : Heap) (hR : R = [] \/ R = [gBl N Es]) : callL cfgS nQe [.agg [.int .i64 N, .list 2 (eds Es)]] R = some (.tup [dRs N R.length, .int .i64 0], dHp N (dgA N Es) R) := by
 rw [callL_end oQe sQe (Nat.le_of_ble_eq_true rfl)]
 have g := gchk_run N Es (by omega)
 rw [chkG_zero.2 hG] at g
 have rr := rows_run hG (by omega)
 have sp := adj_spec hG
 have hN := hG.1.2
 have hs : ∀ m ∈ adjE N Es, m < 18446744073709551616 := sp.2.1
 have hr : Rest R := by rcases hR with rfl | rfl; exact rest_nil; exact rest_gBl _ _
 have lp := pdg_loop (adjE N Es) (by rw [sp.1]; omega) hs R hr (adjE N Es).length 0 (by omega)
 rw [List.take_zero, ints_nil, nat0] at lp
 have e1 : (adjE N Es).map (fun m => ((pcn m : Nat) : Int)) = dgA N Es := rfl
 rw [e1, sp.1] at lp
 have lu := us_length (adjE N Es)
 rw [sp.1] at lu
 have ld := dgA_len hG
 have tk : (ints (dgA N Es)).take N = ints (dgA N Es) := List.take_of_length_le (by rw [ints_length, ld]; omega)
 have li : (ints (dgA N Es)).length = N := by rw [ints_length, ld]
 clear hs sp e1 hG
 by_cases h0 : N = 0
 ·subst h0
  have hd : dgA 0 Es = [] := List.eq_nil_of_length_eq_zero ld
  rw [hd, ints_nil] at lp
  rw [nat0] at lp g rr
  rw [nat0]
  unfold dRs dHp
  rw [if_pos rfl, if_pos rfl]
  generalize us (adjE 0 Es) = U at *
  unfold gBl at hR
  rcases hR with rfl | rfl <;> simp only [List.length_nil, List.length_cons, Nat.zero_add, nat0] at lp ⊢
  ·unfold qQe cQe
   simp [rQeX0, rQeX1, rQeX2, rQeX3, rQeX4, rQeX5, rQeX6, rQeX7, rQeX8, rQeX9, rQeX10, g, rr, lp, lu, blk, endL, finB, plp, plpL, inRt, mapH, mapBL, mapB, swS, noPtr, noPtrL, noPtrE, noPtrH, sQp, iQp, lQp, sQq, iQq, lQq]
  ·unfold qQe cQe
   simp [rQeX0, rQeX1, rQeX2, rQeX3, rQeX4, rQeX5, rQeX6, rQeX7, rQeX8, rQeX9, rQeX10, g, rr, lp, lu, blk, endL, finB, plp, plpL, inRt, mapH, mapBL, mapB, swS, noPtr, noPtrL, noPtrE, noPtrH, sQp, iQp, lQp, sQq, iQq, lQq]
 ·unfold dRs dHp
  rw [if_neg h0, if_neg h0]
  have fl := flatCells_ints (dgA N Es)
  generalize us (adjE N Es) = U at *
  generalize ints (dgA N Es) = D at *
  unfold gBl at hR
  rcases hR with rfl | rfl <;> simp only [List.length_nil, List.length_cons, Nat.zero_add] at lp ⊢
  ·unfold qQe cQe
   simp [rQeX0, rQeX1, rQeX2, rQeX3, rQeX4, rQeX5, rQeX6, rQeX7, rQeX8, rQeX9, rQeX10, g, rr, lp, lu, tk, li, h0, fl, blk, endL, finB, plp, plpL, inRt, mapH, mapBL, mapB, swS, noPtr, noPtrL, noPtrE, noPtrH, sQp, iQp, lQp, sQq, iQq, lQq]
  ·unfold qQe cQe
   simp [rQeX0, rQeX1, rQeX2, rQeX3, rQeX4, rQeX5, rQeX6, rQeX7, rQeX8, rQeX9, rQeX10, g, rr, lp, lu, tk, li, h0, fl, blk, endL, finB, plp, plpL, inRt, mapH, mapBL, mapB, swS, noPtr, noPtrL, noPtrE, noPtrH, sQp, iQp, lQp, sQq, iQq, lQq]
theorem pdegE_run (n : Int) (Fs : List Ed) (hE : Fs.length < 1000000) (e : Int) (he : chkG n Fs = e) (h0 : e ≠ 0) (R : Heap) (hR : R = [] \/ R = [gBl n Fs]) : callL cfgS nQe [.agg [.int .i64 n, .list 2 (eds Fs)]] R = some (.tup [.list 1 [], .int .i64 e], R) := by
 rw [callL_end oQe sQe (Nat.le_of_ble_eq_true rfl)]
 have g := gchk_run n Fs (by omega)
 rw [he] at g
 unfold gBl at hR
 unfold qQe cQe
 rcases hR with rfl | rfl
 ·simp [rQeX0, rQeX1, rQeX2, rQeX3, rQeX4, rQeX5, rQeX6, rQeX7, rQeX8, rQeX9, rQeX10, g, h0, blk, endL, finB, plp, plpL, inRt, mapH, mapBL, mapB, swS, noPtr, noPtrL, noPtrE, noPtrH, sQp, iQp, lQp]
 ·simp [rQeX0, rQeX1, rQeX2, rQeX3, rQeX4, rQeX5, rQeX6, rQeX7, rQeX8, rQeX9, rQeX10, g, h0, blk, endL, finB, plp, plpL, inRt, mapH, mapBL, mapB, swS, noPtr, noPtrL, noPtrE, noPtrH, sQp, iQp, lQp]
theorem rvG_ints (l : List Int) (h : l.length <= 4294967296) : rvG 1 (ints l) [] = some (ints l.reverse, none) := by
 unfold rvG
 rw [if_pos ⟨rfl, rfl, by rw [ints_length]; exact h⟩, show intsOf (ints l) = some l from intsOf_ints l]
 rfl
theorem nat1 : ((1 : Nat) : Int) = 1 := rfl
structure Lf (D : List AV) : Prop where
 bo : borL D = []
 ow : hasOwnL D = false
 mp : ∀ g, mapBL g D = D
 pl : plL D = true
 pt : ptrsL D = []
 np : ∀ b, noPtrL b D = true
 av : avLE D D = true
 pp : plpL D = true
 fz : fzL D = true
 fl : flatCells D = D
 fr : frzCL D = some D
theorem lf_ints (l : List Int) : Lf (ints l) := by
 induction l with
 | nil => exact ⟨rfl, rfl, fun _ => rfl, rfl, rfl, fun _ => rfl, rfl, rfl, rfl, rfl, rfl⟩
 | cons x r ih =>
   refine ⟨?_, ?_, fun g => ?_, ?_, ?_, fun b => ?_, ?_, ?_, ?_, flatCells_ints _, ?_⟩
   ·exact ih.bo
   ·exact ih.ow
   ·show AV.int .i64 x :: mapBL g (ints r) = _
    rw [ih.mp]; rfl
   ·exact ih.pl
   ·exact ih.pt
   ·exact ih.np b
   ·show (decide _ && avLE (ints r) (ints r)) = true
    rw [ih.av]; simp
   ·exact ih.pp
   ·exact ih.fz
   ·show (match frzC (.int .i64 x), frzCL (ints r) with | some y, some ys => some (y :: ys) | _, _ => none) = _
    rw [ih.fr]; rfl
theorem seq_run {N : Nat} {Es : List Ed} (hG : GOK (N : Int) Es) (hE : Es.length < 1000000) : callL cfgS nQg [.agg [.int .i64 N, .list 2 (eds Es)]] [] = some (.tup [.list 1 (ints (isort (dgA N Es)).reverse), .int .i64 0], []) := by
 rw [callL_end oQg sQg (Nat.le_of_ble_eq_true rfl)]
 have hN := hG.1.2
 have d := pdeg_run hG hE [gBl N Es] (.inr rfl)
 have ld := dgA_len hG
 unfold dRs dHp gBl at d
 simp only [List.length_nil, List.length_cons, Nat.zero_add, List.cons_append, List.nil_append] at d
 by_cases h0 : N = 0
 ·subst h0
  have hd : dgA 0 Es = [] := List.eq_nil_of_length_eq_zero ld
  rw [if_pos rfl, if_pos rfl] at d
  rw [nat0] at d
  rw [nat0, hd]
  have s0 : srtG 1 [] [] = some ([], none) := srtG_ints [] (by simp)
  have r0 : rvG 1 [] [] = some ([], none) := rvG_ints [] (by simp)
  show _ = some (AV.tup [.list 1 [], .int .i64 0], [])
  unfold qQg cQg
  simp [rQgX0, rQgX1, rQgX2, rQgX3, rQgX4, d, s0, r0, blk, endL, finB, plp, plpL, plL, pl, Bm.inpS, sQe, iQe, lQe, iQu, lQu, iQv, lQv, allB, notBox, swC, swS, seesC, inBox, offBoxes, offLab, calmB, ptrs, ptrsL, blkE, avE, avLE]
 ·rw [if_neg h0, if_neg h0] at d
  have s1 := srtG_ints (dgA N Es) (by omega)
  have r1 := rvG_ints (isort (dgA N Es)) (by rw [isort_length]; omega)
  have l1 : (ints (dgA N Es)).length = N := by rw [ints_length, ld]
  have l2 : (ints (isort (dgA N Es))).length = N := by rw [ints_length, isort_length, ld]
  have l3 : (ints (isort (dgA N Es)).reverse).length = N := by rw [ints_length, List.length_reverse, isort_length, ld]
  have t1 : (ints (dgA N Es)).take N = ints (dgA N Es) := List.take_of_length_le (by omega)
  have t2 : (ints (isort (dgA N Es))).take N = ints (isort (dgA N Es)) := List.take_of_length_le (by omega)
  have t3 : (ints (isort (dgA N Es)).reverse).take N = ints (isort (dgA N Es)).reverse := List.take_of_length_le (by omega)
  have k1 : (ints (dgA N Es)).drop N = [] := List.drop_eq_nil_of_le (by omega)
  have k2 : (ints (isort (dgA N Es))).drop N = [] := List.drop_eq_nil_of_le (by omega)
  obtain ⟨a1, a2, a3, a4, a5, a6, a7, a8, a9, aa, ab⟩ := lf_ints (dgA N Es)
  obtain ⟨b1, b2, b3, b4, b5, b6, b7, b8, b9, ba, bb⟩ := lf_ints (isort (dgA N Es))
  obtain ⟨c1, c2, c3, c4, c5, c6, c7, c8, c9, ca, cb⟩ := lf_ints (isort (dgA N Es)).reverse
  generalize ints (dgA N Es) = D at *
  generalize ints (isort (dgA N Es)).reverse = D3 at *
  generalize ints (isort (dgA N Es)) = D2 at *
  unfold qQg cQg
  simp [rQgX0, rQgX1, rQgX2, rQgX3, rQgX4, d, h0, s1, r1, l1, l2, l3, t1, t2, t3, k1, k2, a1, a2, a3, a4, a5, a6, a7, a8, a9, aa, ab, b1, b2, b3, b4, b5, b6, b7, b8, b9, ba, bb, c1, c2, c3, c4, c5, c6, c7, c8, c9, ca, cb, blk, endL, finB, plp, plpL, plL, pl, Bm.inpS, sQe, iQe, lQe, iQu, lQu, iQv, lQv, allB, notBox, swC, swS, seesC, inBox, offBoxes, offLab, calmB, ptrs, ptrsL, blkE, avE, avLE]
end Go.BmP
