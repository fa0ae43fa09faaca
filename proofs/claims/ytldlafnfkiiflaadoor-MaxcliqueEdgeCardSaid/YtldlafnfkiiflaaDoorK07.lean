/- What the bits of biclique return: TrailingZeros64, list, mask. -/
import Derived.Test.YtldlafnfkiiflaaDoorUseM
import Derived.Test.YtldlafnfkiiflaaDoorR02d
import Derived.Test.YtldlafnfkiiflaaDoorBicP
set_option linter.unusedSimpArgs false
set_option linter.unusedVariables false
set_option maxRecDepth 100000
set_option maxHeartbeats 4000000
namespace Go.BmP
open Go.Am Go.Bm
theorem gl_tab : cfgS.gl 0 = tabZ.map (AV.int .u8) := rfl
theorem tab_at : ∀ k, k < 64 -> 2 ^ k * 285870213051353865 % 18446744073709551616 / 288230376151711744 < 64 /\ (tabZ.map (AV.int .u8)).drop (2 ^ k * 285870213051353865 % 18446744073709551616 / 288230376151711744) = .int .u8 (k : Nat) :: (tabZ.map (AV.int .u8)).drop (2 ^ k * 285870213051353865 % 18446744073709551616 / 288230376151711744 + 1) := by
 intro k hk
 have h1 : ∀ k, k < 64 -> 2 ^ k * 285870213051353865 % 18446744073709551616 / 288230376151711744 < 64 /\ tabZ[2 ^ k * 285870213051353865 % 18446744073709551616 / 288230376151711744]? = some ((k : Nat) : Int) := by decide +kernel
 obtain ⟨a, b⟩ := h1 k hk
 refine ⟨a, ?_⟩
 generalize 2 ^ k * 285870213051353865 % 18446744073709551616 / 288230376151711744 = j at a b
 obtain ⟨hj, e⟩ := List.getElem?_eq_some_iff.1 b
 rw [List.drop_eq_getElem_cons (by simpa using hj), List.getElem_map, e]
theorem powc (n : Nat) : (2 : Int) ^ n = ((2 ^ n : Nat) : Int) := by simp
theorem bin_shr (q s : Nat) (hs : s < 64) : binA .shr (.int .u64 (q : Int)) (.int .u64 (s : Int)) = some (.int .u64 ((q / 2 ^ s : Nat) : Int)) := by
 unfold binA
 simp only
 have hp : 0 < 2 ^ s := Nat.two_pow_pos s
 rw [if_neg (by omega), show min (s : Int).toNat IntKind.u64.bits = s by (show min (s : Int).toNat 64 = s); omega, powc, Int.fdiv_eq_ediv_of_nonneg _ (Int.natCast_nonneg _)]
 rfl
theorem bin_and (a b : Nat) (ha : a < 18446744073709551616) (hb : b < 18446744073709551616) : binA .and (.int .u64 (a : Int)) (.int .u64 (b : Int)) = some (.int .u64 ((a &&& b : Nat) : Int)) := by
 unfold binA
 simp only [if_true, arith, u64_and_nat a b ha hb]
theorem bin_mul (a b : Nat) : binA .mul (.int .u64 (a : Int)) (.int .u64 (b : Int)) = some (.int .u64 ((a * b % 18446744073709551616 : Nat) : Int)) := by
 unfold binA
 simp only [if_true, arith, IntKind.wrap_u64]
 rw [<- Int.natCast_mul]
 rfl
theorem opsB_app {c : Cfg} {call : Nat -> List AV -> Heap -> Option (AV × Heap)} : ∀ (a b : List O) (s : St) {s' s'' : St} {f g : List Fq}, opsB c call a s = some (s', f) -> opsB c call b s' = some (s'', g) -> opsB c call (a ++ b) s = some (s'', f ++ g)
 | [], b, s, s', s'', f, g, h, k => by
   simp only [opsB, Option.some.injEq, Prod.mk.injEq] at h
   obtain ⟨rfl, rfl⟩ := h
   exact k
 | o :: r, b, s, s', s'', f, g, h, k => by
   simp only [opsB, List.cons_append] at h ⊢
   split at h
   case h_2 => cases h
   rename_i s1 fl h1
   split at h
   case h_2 => cases h
   rename_i s2 fls h2
   simp only [Option.some.injEq, Prod.mk.injEq] at h
   obtain ⟨rfl, rfl⟩ := h
   rw [opsB_app r b s1 h2 k]
   rfl
theorem tz_a (x : Nat) (h0 : x ≠ 0) (hx : x < 18446744073709551616) : ∃ (y p q j : Int) (T : List AV), opsB cfgS (callL cfgS) (rQxX3.take 6) ⟨[(0, .int .u64 x), (4, .bool false)], []⟩ = some (⟨[(0, .int .u64 x), (4, .bool false), (5, .int .u64 x), (6, .int .u64 x), (7, .int .u64 y), (8, .int .u64 p), (9, .int .u64 q), (10, .int .u64 j)], []⟩, [.no, .no, .no, .no, .no, .no]) /\ (0 <= j /\ j < 64) /\ (cfgS.gl 0).drop j.toNat = .int .u8 (tz x : Nat) :: T /\ tz x < 64 := by
 obtain ⟨e1, e2⟩ := Lib.lowest_bit 64 x h0 hx
 have e2 : tz x < 64 := e2
 have e1 : x &&& (18446744073709551616 - x) = 2 ^ tz x := e1
 obtain ⟨e3, e4⟩ := tab_at (tz x) e2
 have b1 : binA .eql (.int .u64 (x : Int)) (.int .u64 0) = some (.bool false) := by
  have : ((x : Int) == 0) = false := by rw [beq_eq_false_iff_ne]; omega
  unfold binA
  simp only [if_true, arith, this]
 have u1 : unA .neg (.int .u64 (x : Int)) = some (.int .u64 ((18446744073709551616 - x : Nat) : Int)) := by
  unfold unA
  simp only [IntKind.wrap_u64]
  rw [show (0 - (x : Int)) % 18446744073709551616 = ((18446744073709551616 - x : Nat) : Int) by omega]
 have b2 := bin_and x (18446744073709551616 - x) hx (by omega)
 rw [e1] at b2
 have b3 := bin_mul (2 ^ tz x) 285870213051353865
 have b4 := bin_shr (2 ^ tz x * 285870213051353865 % 18446744073709551616) 58 (by omega)
 rw [show (2 ^ 58 : Nat) = 288230376151711744 from rfl] at b4
 generalize 2 ^ tz x * 285870213051353865 % 18446744073709551616 / 288230376151711744 = j at *
 generalize 2 ^ tz x * 285870213051353865 % 18446744073709551616 = q at *
 generalize 2 ^ tz x = p at *
 have b3 : binA .mul (.int .u64 (p : Int)) (.int .u64 285870213051353865) = some (.int .u64 (q : Int)) := b3
 have b4 : binA .shr (.int .u64 (q : Int)) (.int .u64 58) = some (.int .u64 (j : Int)) := b4
 have f5 : (j : Int) < 64 := by omega
 have f6 : IntKind.i64.wrap ((tz x : Nat) : Int) = ((tz x : Nat) : Int) := wrapN (by omega)
 clear e1
 generalize tz x = z at *
 generalize 18446744073709551616 - x = y at *
 generalize (x : Int) = X at *
 generalize hC : (285870213051353865 : Int) = C at *
 rw [<- gl_tab] at e4
 refine ⟨y, p, q, j, _, ?_, ⟨by omega, f5⟩, by rw [show (j : Int).toNat = j by omega]; exact e4, e2⟩
 clear e4 e3 e2 f6
 generalize (j : Int) = J at *
 generalize (q : Int) = Q at *
 generalize (p : Int) = Pp at *
 generalize (y : Int) = Y at *
 unfold rQxX3
 simp [rQxX0, rQxX1, rQxX2, rQxX3, List.take_succ_cons, List.take_zero, b1, u1, b2, hC, b3, b4, blk, eds_length, eds_get, edsAt, edAV, allLeaf_eds, cleanL_eds, cleanL_ints, ints_length, ints_get, intsAt, endL, finB, -binA, -unA, -unA]
theorem tz_b (X Y Pp Q J : Int) (z : Nat) (T : List AV) (h0 : 0 <= J) (h1 : J < 64) (hz : z < 64) (h : (cfgS.gl 0).drop J.toNat = .int .u8 (z : Nat) :: T) : ∃ T', opsB cfgS (callL cfgS) (rQxX3.drop 6) ⟨[(0, .int .u64 X), (4, .bool false), (5, .int .u64 X), (6, .int .u64 X), (7, .int .u64 Y), (8, .int .u64 Pp), (9, .int .u64 Q), (10, .int .u64 J)], []⟩ = some (⟨[(0, .int .u64 X), (2, .int .i64 (z : Nat)), (4, .bool false), (5, .int .u64 X), (6, .int .u64 X), (7, .int .u64 Y), (8, .int .u64 Pp), (9, .int .u64 Q), (10, .int .u64 J), (11, .fptr T'), (12, .int .u8 (z : Nat)), (13, .int .i64 (z : Nat))], []⟩, [.no, .rd [], .no, .no]) := by
 refine ⟨.int .u8 (z : Nat) :: T, ?_⟩
 have hw := wrapN (i := z) (by omega)
 generalize hG : cfgS.gl 0 = G at *
 unfold rQxX3
 simp [rQxX0, rQxX1, rQxX2, rQxX3, List.drop_succ_cons, List.drop_zero, h0, h1, hG, h, hw, idx, blk, eds_length, eds_get, edsAt, edAV, allLeaf_eds, cleanL_eds, cleanL_ints, ints_length, ints_get, intsAt, endL, finB]
theorem tz_run (x : Nat) (h0 : x ≠ 0) (hx : x < 18446744073709551616) : callL cfgS nQx [.int .u64 x] [] = some (.int .i64 (tz x : Nat), []) := by
 rw [callL_end oQx sQx (Nat.le_of_ble_eq_true rfl)]
 obtain ⟨y, p, q, j, T, r1, ⟨j0, j1⟩, r2, r3⟩ := tz_a x h0 hx
 obtain ⟨T', r4⟩ := tz_b x y p q j (tz x) T j0 j1 r3 r2
 have r5 := opsB_app _ _ _ r1 r4
 rw [List.take_append_drop] at r5
 have r6 : codeL cfgS 0 (.reg rQxX3 false [] [2]) ⟨[(0, .int .u64 x), (4, .bool false)], []⟩ = some (.normal, ⟨[(2, .int .i64 (tz x : Nat))], []⟩) := by
  rw [codeL_reg, r5]
  clear r1 r2 r3 r4 r5
  simp [regL_s, endR, hasOwnE, hasOwn, endK, keepIn, trim, mem_nil', mem_cons']
 have b1 : binA .eql (.int .u64 (x : Int)) (.int .u64 0) = some (.bool false) := by
  have : ((x : Int) == 0) = false := by rw [beq_eq_false_iff_ne]; omega
  unfold binA
  simp only [if_true, arith, this]
 clear r1 r2 r3 r4 r5 h0 hx
 generalize ((tz x : Nat) : Int) = z at *
 generalize (x : Int) = X at *
 have r7 : codeL cfgS 0 (.reg rQxX1 false [] [0, 4]) ⟨[(0, .int .u64 X)], []⟩ = some (.normal, ⟨[(0, .int .u64 X), (4, .bool false)], []⟩) := by
  unfold rQxX1
  simp [rQEX0, rQEX1, rQEX2, rQEX3, rQEX4, rQEX5, rQEX6, rQEX7, rQEX8, b1, blk, eds_length, eds_get, edsAt, edAV, allLeaf_eds, cleanL_eds, cleanL_ints, ints_length, ints_get, intsAt, endL, finB, -binA]
 have r8 : codeL cfgS 0 (.reg rQxX0 false [] [0]) ⟨[(0, .int .u64 X)], []⟩ = some (.normal, ⟨[(0, .int .u64 X)], []⟩) := by
  unfold rQxX0
  simp [rQEX0, rQEX1, rQEX2, rQEX3, rQEX4, rQEX5, rQEX6, rQEX7, rQEX8, blk, eds_length, eds_get, edsAt, edAV, allLeaf_eds, cleanL_eds, cleanL_ints, ints_length, ints_get, intsAt, endL, finB]
 show endL cfgS _ _ 0 (codeL cfgS 0 cQx ⟨[(0, .int .u64 X)], []⟩) = _
 unfold cQx
 rw [codeL_seq, r8, thenL_n, codeL_seq, codeL_seq, r7, thenL_n, codeL_cnd]
 show endL cfgS _ _ 0 (thenL cfgS 0 _ (codeL cfgS 0 .skip ⟨[(0, .int .u64 X), (4, .bool false)], []⟩)) = _
 rw [codeL_skip, thenL_n, codeL_seq, r6, thenL_n, codeL_ret]
 simp [endL, finB, qQx, resVs, resV, opnd, lend, get_cons', tupOf, frzV, frzR]
end Go.BmP
