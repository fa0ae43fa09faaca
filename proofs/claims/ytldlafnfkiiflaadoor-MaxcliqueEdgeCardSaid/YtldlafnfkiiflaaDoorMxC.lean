/- What maxclique.bound returns: no less than the greatest clique. -/
import Derived.Test.YtldlafnfkiiflaaDoorUseM
import Derived.Test.YtldlafnfkiiflaaDoorMxP
import Derived.Test.YtldlafnfkiiflaaDoorK07
import Derived.Test.YtldlafnfkiiflaaDoorRwP
import Derived.Test.YtldlafnfkiiflaaDoorPcP
set_option linter.unusedSimpArgs false
set_option linter.unusedVariables false
set_option maxRecDepth 100000
set_option maxHeartbeats 4000000
namespace Go.BmP
open Go.Am Go.Bm
theorem ones64_run (m : Nat) (h : m < 18446744073709551616) : callL cfgS nQC [.int .u64 m] [] = some (.int .i64 (pcn m : Nat), []) := by
 rw [ones_run]
 have := pxE_all m h
 rw [show pcE (m : Int) = pxE (m : Int) from rfl, this]
theorem andNot_bit {m b : Nat} (hm : m < 18446744073709551616) (hb : b < 18446744073709551616) (j : Nat) : (m &&& (18446744073709551615 - b)).testBit j = (m.testBit j && !b.testBit j) := by
 rw [Nat.testBit_and]
 have e : 18446744073709551615 - b = 2 ^ 64 - (b + 1) := by omega
 rw [e, Nat.testBit_two_pow_sub_succ (by omega)]
 by_cases hj : j < 64
 ·simp [hj]
 ·have : m.testBit j = false := Nat.testBit_lt_two_pow (Nat.lt_of_lt_of_le hm (by
   rw [show (18446744073709551616 : Nat) = 2 ^ 64 from rfl]
   exact Nat.pow_le_pow_right (by decide) (by omega)))
  simp [this]
theorem row_n {A : List Nat} {v : Nat} (hv : v < A.length) : idx (.int .i64 (v : Int)) A.length = some v /\ (us A)[v]? = some (.int .u64 (A.getD v 0 : Nat)) /\ ∀ h : v < (us A).length, (us A)[v] = .int .u64 (A.getD v 0 : Nat) := by
 have e : (us A)[v]? = some (.int .u64 (A.getD v 0 : Nat)) := by
  rw [us_get, List.getD_eq_getElem?_getD, List.getElem?_eq_getElem hv]; rfl
 refine ⟨by have := idx_lt (k := .i64) (i := (v : Int)) (n := A.length) (by omega) (by omega); simpa using this, e, fun h => ?_⟩
 rw [List.getElem?_eq_getElem h] at e
 exact Option.some.inj e
theorem pow_n {v : Nat} (h : v < 64) : 2 ^ v < 18446744073709551616 := by
 have := Nat.pow_lt_pow_right (a := 2) (by decide) h
 rw [show (18446744073709551616 : Nat) = 2 ^ 64 from rfl]; exact this
theorem shl_n {v : Nat} (h : v < 64) : IntKind.u64.wrap (2 ^ (min v 64)) = ((2 ^ v : Nat) : Int) /\ IntKind.u64.wrap (1 * 2 ^ (min v 64)) = ((2 ^ v : Nat) : Int) := by
 have := shlU (v := (v : Int)) (by omega) (by omega)
 simp only [Int.toNat_natCast] at this
 exact ⟨by rw [<- this, Int.one_mul], this⟩
theorem bnd_in {A : List Nat} (hS : Small A) (hA : Sym A) (m n : Nat) : ∀ (free among : Nat), among < 18446744073709551616 -> free < 18446744073709551616 -> (∀ j, free.testBit j = true -> j < A.length) -> ClsI A m among free ->
  ∃ among', among' <= among /\ (free ≠ 0 -> among' < among) /\ (∀ j, among'.testBit j = true -> among.testBit j = true) /\ ClsI A m among' 0 /\
   codeL cfgS 0 (.loop lQDX0) ⟨[(0, .list 1 (us A)), (1, .int .u64 among), (5, .int .i64 n), (6, .int .u64 free)], []⟩ = some (.exit 2, ⟨[(0, .list 1 (us A)), (1, .int .u64 among'), (5, .int .i64 n), (6, .int .u64 (0 : Nat)), (14, .bool false)], []⟩) := by
 intro free
 induction free using Nat.strongRecOn with
 | ind free ih =>
   intro among ha hf hr hc
   by_cases h0 : free = 0
   ·subst h0
    refine ⟨among, Nat.le_refl _, fun h => absurd rfl h, fun _ h => h, hc, ?_⟩
    exact loop_exit (by unfold lQDX0; simp [rQDX0, rQDX1, rQDX2, rQDX3, rQDX4, rQDX5, rQDX6, rQDX7, rQDX8, rQDX9, nat0, blk, eds_length, eds_get, edsAt, edAV, allLeaf_eds, cleanL_eds, cleanL_ints, ints_length, ints_get, intsAt, endL, finB])
   ·have n0 : ¬ ((free : Int) = 0) := by omega
    obtain ⟨_, _, ht⟩ := tz_spec h0 hf
    obtain ⟨tb, _⟩ := tz_bit h0 hf
    have htz := tz_run free h0 hf
    obtain ⟨r1, r2, r3⟩ := row_n (hr _ tb)
    obtain ⟨s1, s2⟩ := shl_n ht
    have hp := pow_n ht
    have hg := getD_lt hS (tz free)
    have w1 := u64_andNot_nat among (2 ^ tz free) ha hp
    have w2 := u64_or_nat (2 ^ tz free) (A.getD (tz free) 0) hp hg
    have ho : 2 ^ tz free ||| A.getD (tz free) 0 < 18446744073709551616 := Nat.or_lt_two_pow (n := 64) hp hg
    have w3 := u64_andNot_nat free (2 ^ tz free ||| A.getD (tz free) 0) hf ho
    have hfr : ∀ x, (free &&& (18446744073709551615 - (2 ^ tz free ||| A.getD (tz free) 0))).testBit x = (free.testBit x && (decide (x ≠ tz free) && !(A.getD (tz free) 0).testBit x)) := fun x => by
     rw [andNot_bit hf ho, Nat.testBit_or, Nat.testBit_two_pow, Bool.not_or]
     by_cases k : tz free = x
     ·subst k; simp
     ·have k' : ¬ x = tz free := fun h => k h.symm
      simp [k, k']
    have hc' := cls_step hA ha hf h0 hc hfr
    have hwo : wo among (tz free) < among := wo_lt ha ht (hc.1 _ tb)
    have hlt : free &&& (18446744073709551615 - (2 ^ tz free ||| A.getD (tz free) 0)) < free := by
     rcases Nat.lt_or_eq_of_le (Nat.and_le_left : free &&& (18446744073709551615 - (2 ^ tz free ||| A.getD (tz free) 0)) <= free) with h | h
     ·exact h
     ·have := hfr (tz free)
      rw [h, tb] at this
      simp at this
    have hr' : ∀ j, (free &&& (18446744073709551615 - (2 ^ tz free ||| A.getD (tz free) 0))).testBit j = true -> j < A.length := fun j hj => by
     rw [hfr] at hj
     simp only [Bool.and_eq_true] at hj
     exact hr j hj.1
    obtain ⟨am, a1, a2, a3, a4, a5⟩ := ih _ hlt (wo among (tz free)) (by omega) (by omega) hr' hc'
    refine ⟨am, by omega, fun _ => by omega, fun j hj => ?_, a4, ?_⟩
    ·have := a3 j hj
     rw [wo_bit ha ht] at this
     simp only [Bool.and_eq_true] at this
     exact this.1
    ·refine (loop_next (s' := ⟨[(0, .list 1 (us A)), (1, .int .u64 ((wo among (tz free) : Nat) : Int)), (5, .int .i64 n), (6, .int .u64 ((free &&& (18446744073709551615 - (2 ^ tz free ||| A.getD (tz free) 0)) : Nat) : Int))], []⟩) ?_).trans a5
     have lA := us_length A
     clear hfr hc' hwo hlt hr' a1 a2 a3 a4 a5 ih hc hr tb hg ho hp ha hf
     unfold wo
     generalize (among &&& (18446744073709551615 - 2 ^ tz free) : Nat) = W at *
     generalize (free &&& (18446744073709551615 - (2 ^ tz free ||| A.getD (tz free) 0)) : Nat) = F at *
     generalize (2 ^ tz free ||| A.getD (tz free) 0 : Nat) = Q at *
     generalize A.getD (tz free) 0 = r at *
     generalize (2 ^ tz free : Nat) = p at *
     generalize tz free = t at *
     have t0 : (0 : Int) <= t := by omega
     have t1 : (t : Int) < 64 := by omega
     have t2 : ¬ ((t : Int) < 0) := by omega
     generalize us A = AA at *
     unfold lQDX0
     simp [rQDX0, rQDX1, rQDX2, rQDX3, rQDX4, rQDX5, rQDX6, rQDX7, rQDX8, rQDX9, n0, h0, htz, r1, r2, r3, s1, s2, w1, w2, w3, t0, t1, t2, lA, IntKind.bits, sQx, iQx, Int.toNat_natCast, blk, eds_length, eds_get, edsAt, edAV, allLeaf_eds, cleanL_eds, cleanL_ints, ints_length, ints_get, intsAt, endL, finB]
theorem filt_le {p q : Nat -> Bool} : ∀ {L : List Nat}, (∀ x, p x = true -> q x = true) -> (L.filter p).length <= (L.filter q).length
 | [], _ => Nat.le_refl _
 | x :: r, h => by
   have ih := filt_le (L := r) h
   rw [List.filter_cons, List.filter_cons]
   by_cases k : p x = true
   ·rw [if_pos k, if_pos (h x k)]; simp; exact ih
   ·rw [if_neg k]
    split
    ·simp; omega
    ·exact ih
theorem filt_lt {p q : Nat -> Bool} : ∀ {L : List Nat}, (∀ x, p x = true -> q x = true) -> ∀ {y : Nat}, y ∈ L -> q y = true -> p y = false -> (L.filter p).length < (L.filter q).length
 | [], _, y, hy, _, _ => by simp at hy
 | x :: r, h, y, hy, h1, h2 => by
   rw [List.filter_cons, List.filter_cons]
   by_cases k : p x = true
   ·rw [if_pos k, if_pos (h x k)]
    have hy' : y ∈ r := (List.mem_cons.1 hy).resolve_left fun e => by rw [e, k] at h2; cases h2
    have ih := filt_lt h hy' h1 h2
    simp; exact ih
   ·rw [if_neg k]
    rcases List.mem_cons.1 hy with rfl | hy'
    ·rw [if_pos h1]
     have := filt_le (L := r) h
     simp; omega
    ·have ih := filt_lt h hy' h1 h2
     split
     ·simp; omega
     ·exact ih
theorem tb_lt {m : Nat} (hm : m < 18446744073709551616) {j : Nat} (h : m.testBit j = true) : j < 64 := by
 apply Classical.byContradiction
 intro k
 have : m.testBit j = false := Nat.testBit_lt_two_pow (Nat.lt_of_lt_of_le hm (by
  rw [show (18446744073709551616 : Nat) = 2 ^ 64 from rfl]
  exact Nat.pow_le_pow_right (by decide) (by omega)))
 rw [h] at this; cases this
theorem pcn_lt {a m : Nat} (hm : m < 18446744073709551616) (h : ∀ j, a.testBit j = true -> m.testBit j = true) {j : Nat} (h1 : m.testBit j = true) (h2 : a.testBit j = false) : pcn a < pcn m :=
 filt_lt h (List.mem_range.2 (tb_lt hm h1)) h1 h2
theorem pcn_lt' {a m : Nat} (hm : m < 18446744073709551616) (h : ∀ j, a.testBit j = true -> m.testBit j = true) (hl : a < m) : pcn a < pcn m := by
 apply Classical.byContradiction
 intro k
 have : a = m := Nat.eq_of_testBit_eq fun j => by
  cases e : m.testBit j with
  | false =>
    cases e2 : a.testBit j with
    | false => rfl
    | true => rw [h j e2] at e; cases e
  | true =>
    cases e2 : a.testBit j with
    | true => rfl
    | false => exact absurd (pcn_lt hm h e e2) k
 omega
theorem pcn_le (m : Nat) : pcn m <= 64 := by
 unfold pcn
 have := List.length_filter_le (fun j => m.testBit j) (List.range 64)
 rw [List.length_range] at this
 exact this
theorem bnd_out {A : List Nat} (hS : Small A) (hA : Sym A) (m0 : Nat) : ∀ (m n : Nat), m < 18446744073709551616 -> n + pcn m <= 64 -> (∀ j, m.testBit j = true -> j < A.length) -> BdI A m0 n m ->
  ∃ k, BdI A m0 k 0 /\ k <= 64 /\ codeL cfgS 0 (.loop lQDX1) ⟨[(0, .list 1 (us A)), (1, .int .u64 m), (5, .int .i64 n)], []⟩ = some (.exit 0, ⟨[(0, .list 1 (us A)), (1, .int .u64 (0 : Nat)), (5, .int .i64 k), (9, .bool false)], []⟩) := by
 intro m
 induction m using Nat.strongRecOn with
 | ind m ih =>
   intro n hm hn hr hb
   by_cases h0 : m = 0
   ·subst h0
    refine ⟨n, hb, by omega, ?_⟩
    exact loop_exit (by unfold lQDX1; simp [rQDX0, rQDX1, rQDX2, rQDX3, rQDX4, rQDX5, rQDX6, rQDX7, rQDX8, rQDX9, nat0, blk, eds_length, eds_get, edsAt, edAV, allLeaf_eds, cleanL_eds, cleanL_ints, ints_length, ints_get, intsAt, endL, finB])
   ·have n0 : ¬ ((m : Int) = 0) := by omega
    obtain ⟨am, a1, a2, a3, a4, a5⟩ := bnd_in hS hA m n m m hm hm hr (cls_start A m)
    have a2 := a2 h0
    have hpc := pcn_lt' hm a3 a2
    obtain ⟨k, b1, b2, b3⟩ := ih am a2 (n + 1) (by omega) (by omega) (fun j hj => hr j (a3 j hj)) (bd_next hb a4)
    refine ⟨k, b1, b2, (loop_next (s' := ⟨[(0, .list 1 (us A)), (1, .int .u64 am), (5, .int .i64 ((n + 1 : Nat) : Int))], []⟩) ?_).trans b3⟩
    have hw := wrapS (i := n) (by omega)
    clear ih hr hb a3 a4 b1 b2 b3 hS hA
    generalize us A = AA at *
    unfold lQDX1
    simp [rQDX0, rQDX1, rQDX2, rQDX3, rQDX4, rQDX5, rQDX6, rQDX7, rQDX8, rQDX9, n0, h0, a5, hw, blk, eds_length, eds_get, edsAt, edAV, allLeaf_eds, cleanL_eds, cleanL_ints, ints_length, ints_get, intsAt, endL, finB]
theorem bound_run {A : List Nat} (hS : Small A) (hA : Sym A) (m : Nat) (hm : m < 18446744073709551616) (hr : ∀ j, m.testBit j = true -> j < A.length) :
  ∃ k : Nat, k <= 64 /\ (∀ S, Kq A S -> Inb m S -> S.length <= k) /\ callL cfgS nQD [.list 1 (us A), .int .u64 m] [] = some (.int .i64 k, []) := by
 obtain ⟨k, h1, h2, h3⟩ := bnd_out hS hA m m 0 hm (by have := pcn_le m; omega) hr (bd_start A m)
 refine ⟨k, h2, fun S a b => bd_end h1 a b, ?_⟩
 rw [callL_end oQD sQD (Nat.le_of_ble_eq_true rfl)]
 unfold qQD cQD
 rw [nat0] at h3
 generalize us A = AA at *
 simp [rQDX0, rQDX1, rQDX2, rQDX3, rQDX4, rQDX5, rQDX6, rQDX7, rQDX8, rQDX9, h3, endL, finB]
end Go.BmP
