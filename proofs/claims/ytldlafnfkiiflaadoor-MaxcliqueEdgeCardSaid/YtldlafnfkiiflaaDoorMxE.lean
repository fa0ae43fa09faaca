/- What maxclique.Best returns: a largest clique. -/
import Derived.Test.YtldlafnfkiiflaaDoorUseM
import Derived.Test.YtldlafnfkiiflaaDoorMxK
import Derived.Test.YtldlafnfkiiflaaDoorMxB
import Derived.Test.YtldlafnfkiiflaaDoorMxG
set_option linter.unusedSimpArgs false
set_option linter.unusedVariables false
set_option maxRecDepth 100000
set_option maxHeartbeats 8000000
namespace Go.BmP
open Go.Am Go.Bm
def nz (l : List Nat) : List Int := l.map fun (n : Nat) => (n : Int)
theorem nz_length (l : List Nat) : (nz l).length = l.length := List.length_map _
theorem nz_snoc (l : List Nat) (v : Nat) : nz (l ++ [v]) = nz l ++ [(v : Int)] := by simp [nz]
def InR (A : List Nat) (m : Nat) : Prop := m < 18446744073709551616 /\ ∀ j, m.testBit j = true -> j < A.length
theorem bst_in {A : List Nat} (hS : Small A) (hA : Sym A) {m0 w : Nat} {O : List Nat} {m left : Nat} (hO : O.length <= 1000) (hb : Bst A m0 O m left w) (hl : 0 < left) (hl2 : left <= 1000) : ∀ mm, InR A mm -> Fnd A m left mm ->
  ∃ v rest, Bst A m0 (O ++ [v]) rest (left - 1) w /\ InR A rest /\ codeL cfgS 0 (.loop lQjX0) ⟨[(5, .list 1 (us A)), (6, .int .u64 m), (7, .own 1 (ints (nz O))), (8, .int .i64 left), (9, .int .u64 mm)], []⟩ = some (.exit 2, ⟨[(5, .list 1 (us A)), (6, .int .u64 rest), (7, .own 1 (ints (nz (O ++ [v])))), (8, .int .i64 left)], []⟩) := by
 intro mm
 induction mm using Nat.strongRecOn with
 | ind mm ih =>
   intro hm hf
   have h0 := hf.ne hl
   have n0 : ¬ ((mm : Int) = 0) := by omega
   obtain ⟨hm, hr⟩ := hm
   obtain ⟨_, _, ht⟩ := tz_spec h0 hm
   obtain ⟨tb, _⟩ := tz_bit h0 hm
   have htz := tz_run mm h0 hm
   obtain ⟨r1, r2, r3⟩ := row_n (hr _ tb)
   obtain ⟨s1, s2⟩ := shl_n ht
   have hp := pow_n ht
   have hg := getD_lt hS (tz mm)
   have w1 := u64_andNot_nat mm (2 ^ tz mm) hm hp
   have hwl := wo_lt hm ht tb
   have hw : wo mm (tz mm) < 18446744073709551616 := by omega
   have w2 := u64_and_nat (wo mm (tz mm)) (A.getD (tz mm) 0) hw hg
   have wb : ∀ j, (wo mm (tz mm) &&& A.getD (tz mm) 0).testBit j = true -> mm.testBit j = true := fun j hj => by
    rw [Nat.testBit_and, wo_bit hm ht] at hj
    simp only [Bool.and_eq_true] at hj
    exact hj.1.1
   have rl : wo mm (tz mm) &&& A.getD (tz mm) 0 <= wo mm (tz mm) := Nat.and_le_left
   obtain ⟨r, g1, g2⟩ := longest_run hS hA (wo mm (tz mm) &&& A.getD (tz mm) 0) (by omega) (fun j hj => hr j (wb j hj)) ((left : Int) - 2)
   have w3 : IntKind.i64.wrap ((left : Int) - 2) = left - 2 := wrap_id (by omega) (by omega)
   have w4 : IntKind.i64.wrap ((left : Int) - 1) = left - 1 := wrap_id (by omega) (by omega)
   have t0 : (0 : Int) <= (tz mm : Nat) := by omega
   have t1 : ((tz mm : Nat) : Int) < 64 := by omega
   have t2 : ¬ (((tz mm : Nat) : Int) < 0) := by omega
   have lA := us_length A
   unfold wo at w2
   by_cases k : (left : Int) - 1 <= r
   ·refine ⟨tz mm, _, hf.take hb hl hm g1 k, ⟨by omega, fun j hj => hr j (wb j hj)⟩, loop_exit ?_⟩
    have hL : (nz O).length + 1 <= 4294967296 := by rw [nz_length]; omega
    rw [nz_snoc]
    unfold wo at g2 ⊢
    clear ih g1 hf hb wb rl hw hwl hr tb hg hp hm hS hA
    generalize nz O = P at *
    generalize (mm &&& (18446744073709551615 - 2 ^ tz mm)) &&& A.getD (tz mm) 0 = W at *
    generalize (mm &&& (18446744073709551615 - 2 ^ tz mm)) = W2 at *
    generalize A.getD (tz mm) 0 = q at *
    generalize (2 ^ tz mm : Nat) = p at *
    generalize tz mm = t at *
    generalize us A = AA at *
    unfold lQjX0
    simp [rQjX0, rQjX1, rQjX2, rQjX3, rQjX4, rQjX5, rQjX6, rQjX7, rQjX8, rQjX9, rQjX10, rQjX11, rQjX12, rQjX13, rQjX14, rQjX15, rQjX16, rQjX17, n0, h0, htz, r1, r2, r3, s1, s2, w1, w2, w3, w4, g2, k, t0, t1, t2, lA, hL, LIM, ints_snoc, ints_take, IntKind.bits, sQx, iQx, sQw, iQw, Int.toNat_natCast, blk, eds_length, eds_get, edsAt, edAV, allLeaf_eds, cleanL_eds, cleanL_ints, ints_length, ints_get, intsAt, endL, finB]
   ·have hd := drop_lt h0
    have hmiss := hf.miss hl hm g1 (by omega)
    have dr : InR A (mm &&& (mm - 1)) := ⟨by omega, fun j hj => by
     rw [drop_bit h0 hm] at hj
     simp only [Bool.and_eq_true] at hj
     exact hr j hj.1⟩
    obtain ⟨v, rest, a1, a2, a3⟩ := ih _ hd dr hmiss
    refine ⟨v, rest, a1, a2, (loop_next ?_).trans a3⟩
    have d1 := decU h0 hm
    have d2 := u64_and_nat mm (mm - 1) hm (by omega)
    unfold wo at g2
    clear ih g1 hf hb wb rl hw hwl hr tb hg hp hS hA a1 a2 a3 hmiss dr hm hd
    generalize nz O = P at *
    generalize mm &&& (mm - 1) = D at *
    generalize mm - 1 = D1 at *
    generalize (mm &&& (18446744073709551615 - 2 ^ tz mm)) &&& A.getD (tz mm) 0 = W at *
    generalize (mm &&& (18446744073709551615 - 2 ^ tz mm)) = W2 at *
    generalize A.getD (tz mm) 0 = q at *
    generalize (2 ^ tz mm : Nat) = p at *
    generalize tz mm = t at *
    generalize us A = AA at *
    unfold lQjX0
    simp [rQjX0, rQjX1, rQjX2, rQjX3, rQjX4, rQjX5, rQjX6, rQjX7, rQjX8, rQjX9, rQjX10, rQjX11, rQjX12, rQjX13, rQjX14, rQjX15, rQjX16, rQjX17, n0, h0, htz, r1, r2, r3, s1, s2, w1, w2, w3, w4, g2, k, t0, t1, t2, lA, d1, d2, IntKind.bits, sQx, iQx, sQw, iQw, Int.toNat_natCast, blk, eds_length, eds_get, edsAt, edAV, allLeaf_eds, cleanL_eds, cleanL_ints, ints_length, ints_get, intsAt, endL, finB]
end Go.BmP
