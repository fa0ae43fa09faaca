/- maxclique.Best: its outer loop, and the whole. -/
import Derived.Test.YtldlafnfkiiflaaDoorUseM
import Derived.Test.YtldlafnfkiiflaaDoorMxE
set_option linter.unusedSimpArgs false
set_option linter.unusedVariables false
set_option maxRecDepth 100000
set_option maxHeartbeats 8000000
namespace Go.BmP
open Go.Am Go.Bm
theorem bst_out {A : List Nat} (hS : Small A) (hA : Sym A) {m0 w : Nat} : ∀ (left : Nat) (O : List Nat) (m : Nat), Bst A m0 O m left w -> InR A m -> O.length + left <= 1000 ->
  ∃ O' m', Bst A m0 O' m' 0 w /\ codeL cfgS 0 (.loop lQjX1) ⟨[(5, .list 1 (us A)), (6, .int .u64 m), (7, .own 1 (ints (nz O))), (8, .int .i64 left)], []⟩ = some (.exit 0, ⟨[(5, .list 1 (us A)), (6, .int .u64 m'), (7, .own 1 (ints (nz O'))), (8, .int .i64 (0 : Nat)), (27, .bool false)], []⟩)
 | 0, O, m, hb, hm, hl => by
   refine ⟨O, m, hb, loop_exit ?_⟩
   generalize us A = AA at *
   unfold lQjX1
   simp [rQjX0, rQjX1, rQjX2, rQjX3, rQjX4, rQjX5, rQjX6, rQjX7, rQjX8, rQjX9, rQjX10, rQjX11, rQjX12, rQjX13, rQjX14, rQjX15, rQjX16, rQjX17, nat0, blk, eds_length, eds_get, edsAt, edAV, allLeaf_eds, cleanL_eds, cleanL_ints, ints_length, ints_get, intsAt, endL, finB]
 | left + 1, O, m, hb, hm, hl => by
   obtain ⟨v, rest, a1, a2, a3⟩ := bst_in hS hA (by omega) hb (Nat.succ_pos left) (by omega) m hm hb.fnd
   obtain ⟨O', m', b1, b2⟩ := bst_out hS hA left (O ++ [v]) rest a1 a2 (by simp; omega)
   refine ⟨O', m', b1, (loop_next ?_).trans b2⟩
   have p0 : (0 : Int) < ((left + 1 : Nat) : Int) := by omega
   have w1 : IntKind.i64.wrap (((left + 1 : Nat) : Int) - 1) = left := by rw [wrap_id (by omega) (by omega)]; omega
   clear b2 a1 hb a2
   generalize ((left + 1 : Nat) : Int) = L at *
   generalize nz (O ++ [v]) = P2 at *
   generalize nz O = P at *
   generalize us A = AA at *
   unfold lQjX1
   simp [rQjX0, rQjX1, rQjX2, rQjX3, rQjX4, rQjX5, rQjX6, rQjX7, rQjX8, rQjX9, rQjX10, rQjX11, rQjX12, rQjX13, rQjX14, rQjX15, rQjX16, rQjX17, p0, w1, a3, blk, eds_length, eds_get, edsAt, edAV, allLeaf_eds, cleanL_eds, cleanL_ints, ints_length, ints_get, intsAt, endL, finB]
theorem ones_pow (n : Nat) (j : Nat) : (2 ^ n - 1).testBit j = decide (j < n) := Nat.testBit_two_pow_sub_one n j
theorem adj_sym {N : Nat} {Es : List Ed} (h : GOK (N : Int) Es) : Sym (adjE N Es) := fun a b => by
 rw [(adj_spec h).2.2, (adj_spec h).2.2, Bool.or_comm]
theorem kq_qs {N : Nat} {Es : List Ed} (h : GOK (N : Int) Es) (S : List Nat) : (Kq (adjE N Es) S /\ Inb (2 ^ N - 1) S) ↔ QS N Es S := by
 have e : ∀ a b : Nat, ((adjE N Es).getD a 0).testBit b = true ↔ jn Es (a : Int) (b : Int) := fun a b => by
  rw [(adj_spec h).2.2, Bool.or_eq_true, decide_eq_true_eq, decide_eq_true_eq]
  rfl
 unfold Kq Inb QS
 constructor
 ·rintro ⟨h1, h2⟩
  exact ⟨h1.imp fun {a b} k => ⟨k.1, (e a b).1 k.2⟩, fun x hx => by have := h2 x hx; rw [ones_pow] at this; simpa using this⟩
 ·rintro ⟨h1, h2⟩
  exact ⟨h1.imp fun {a b} k => ⟨k.1, (e a b).2 k.2⟩, fun x hx => by rw [ones_pow]; simpa using h2 x hx⟩
theorem best_run {N : Nat} {Es : List Ed} (h : GOK (N : Int) Es) (hN : N <= 63) (hE : Es.length < 1000000) : ∃ O, Lgst N Es O /\ callL cfgS nQj [.agg [.int .i64 N, .list 2 (eds Es)]] [] = some (.tup [.list 1 (ints (nz O)), .int .i64 0], []) := by
 have ck := gchk_run (N : Int) Es (by omega)
 rw [chkG_zero.2 h] at ck
 have mk := masks_run h (by omega)
 obtain ⟨eN, hS, _⟩ := adj_spec h
 have hA := adj_sym h
 have hp := pow_n (v := N) (by omega)
 have hp0 : 0 < 2 ^ N := Nat.two_pow_pos N
 have ir : InR (adjE N Es) (2 ^ N - 1) := ⟨by omega, fun j hj => by rw [ones_pow] at hj; rw [eN]; simpa using hj⟩
 obtain ⟨r, g1, g2⟩ := longest_run hS hA (2 ^ N - 1) ir.1 ir.2 0
 obtain ⟨w, rfl, hb, hmax⟩ := bst_start g1
 have hw : w <= 64 := by
  obtain ⟨S, k1, k2, k3⟩ := hb.ex
  have := kq_bits ir.1 k1 k2
  have e2 : ((List.range 64).filter fun j => (2 ^ N - 1).testBit j).length = pcn (2 ^ N - 1) := rfl
  have := pcn_le (2 ^ N - 1)
  omega
 obtain ⟨O, m', c1, c2⟩ := bst_out hS hA w [] (2 ^ N - 1) hb ir (by simp; omega)
 refine ⟨O, ⟨(kq_qs h O).1 ⟨c1.kq, c1.inb⟩, fun T hT => ?_⟩, ?_⟩
 ·obtain ⟨t1, t2⟩ := (kq_qs h T).2 hT
  have := hmax T t1 t2
  have := c1.len
  omega
 ·obtain ⟨s1, s2⟩ := shl_n (v := N) (by omega)
  have s3 := s1
  rw [Nat.min_eq_left (show N <= 64 by omega)] at s3
  have d1 : IntKind.u64.wrap (((2 ^ N : Nat) : Int) - 1) = ((2 ^ N - 1 : Nat) : Int) := decU (by omega) hp
  have tk := List.take_length (l := ints (nz O))
  rw [ints_length] at tk
  have nn : ¬ (N : Int) < 0 := by omega
  have n0 : (0 : Int) <= N := by omega
  have n6 : N <= 64 := by omega
  have nL : (nz O).length <= 4294967296 := by
   have := c1.len
   rw [nz_length]; omega
  rw [callL_end oQj sQj (Nat.le_of_ble_eq_true rfl)]
  unfold qQj cQj
  rw [show nz [] = [] from rfl, ints_nil, nat0] at c2
  clear hb hmax g1 c1 hS hA eN ir hp0 h
  generalize nz O = P at *
  generalize (2 ^ N - 1 : Nat) = M at *
  generalize (2 ^ N : Nat) = M2 at *
  generalize us (adjE N Es) = AA at *
  simp [rQjX0, rQjX1, rQjX2, rQjX3, rQjX4, rQjX5, rQjX6, rQjX7, rQjX8, rQjX9, rQjX10, rQjX11, rQjX12, rQjX13, rQjX14, rQjX15, rQjX16, rQjX17, ck, mk, g2, c2, s1, s2, s3, d1, tk, nn, n0, n6, nL, LIM, IntKind.bits, nat0, plL, pl, sQq, iQq, sQv, iQv, sQw, iQw, Int.toNat_natCast, blk, eds_length, eds_get, edsAt, edAV, allLeaf_eds, cleanL_eds, cleanL_ints, ints_length, ints_get, intsAt, endL, finB]
end Go.BmP
