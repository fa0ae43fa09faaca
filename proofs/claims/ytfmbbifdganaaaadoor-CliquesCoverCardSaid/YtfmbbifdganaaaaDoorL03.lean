/- What cliques.Is, Maximal and Extend return of a graph. -/
import Derived.Test.YtfmbbifdganaaaaDoorUseM
import Derived.Test.YtfmbbifdganaaaaDoorH13
import Derived.Test.YtfmbbifdganaaaaDoorExtP
import Derived.Test.YtfmbbifdganaaaaDoorK04
import Derived.Test.YtfmbbifdganaaaaDoorR02d
set_option linter.unusedSimpArgs false
set_option linter.unusedVariables false
set_option maxRecDepth 100000
set_option maxHeartbeats 4000000
namespace Go.BmP
open Go.Am Go.Bm
theorem comm_loop (A : List Nat) (hA : Small A) (l : List Int) (hl : l.length < 4294967295) (hb : ∀ v ∈ l, 0 <= v /\ v < (A.length : Int)) : ∀ (n i m : Nat), i + n = l.length -> m < 18446744073709551616 -> codeL cfgS 0 (.loop lQwX0) ⟨[(0, .list 1 (us A)), (5, .int .u64 m), (11, .list 1 (ints l)), (12, .int .i64 l.length), (13, .int .i64 i)], []⟩ =
  some (.exit 0, ⟨[(0, .list 1 (us A)), (5, .int .u64 (comL A m (l.drop i) : Nat)), (11, .list 1 (ints l)), (12, .int .i64 l.length), (13, .int .i64 l.length), (14, .bool false)], []⟩)
 | 0, i, m, hi, hm => by
   obtain rfl : i = l.length := by omega
   rw [List.drop_length]
   exact loop_exit (by unfold lQwX0; simp [rQwX0, rQwX1, rQwX2, rQwX3, rQwX4, rQwX5, rQwX6, rQwX7, comL, List.foldl_nil, blk, eds_length, eds_get, edsAt, edAV, allLeaf_eds, cleanL_eds, cleanL_ints, ints_length, ints_get, intsAt, endL, finB])
 | n + 1, i, m, hi, hm => by
   have hlt : i < l.length := by omega
   have h1 : (i : Int) < l.length := by omega
   have hw := wrapS (i := i) (by omega)
   obtain ⟨b0, b1⟩ := hb l[i] (List.getElem_mem hlt)
   have ra := getD_lt hA l[i].toNat
   have w2 := u64_and_nat m (A.getD l[i].toNat 0) hm ra
   have ih := comm_loop A hA l hl hb n (i + 1) (m &&& A.getD l[i].toNat 0) (by omega) (Nat.lt_of_le_of_lt Nat.and_le_left hm)
   rw [List.drop_eq_getElem_cons hlt]
   have e : comL A m (l[i] :: l.drop (i + 1)) = comL A (m &&& A.getD l[i].toNat 0) (l.drop (i + 1)) := rfl
   rw [e]
   refine (loop_next ?_).trans ih
   clear ih e
   have i1 := idx_lt (k := .i64) (i := (i : Int)) (n := l.length) (by omega) h1
   have i2 := idx_lt (k := .i64) (i := l[i]) (n := A.length) b0 b1
   have g2 : (us A)[l[i].toNat]? = some (.int .u64 (A.getD l[i].toNat 0 : Nat)) := by
    rw [us_get, List.getD_eq_getElem?_getD, List.getElem?_eq_getElem (by omega)]; rfl
   have g2' : ∀ h : l[i].toNat < (us A).length, (us A)[l[i].toNat] = .int .u64 (A.getD l[i].toNat 0 : Nat) := fun h => by rw [List.getElem?_eq_getElem h] at g2; exact Option.some.inj g2
   have elA := us_length A
   generalize ((m &&& A.getD l[i].toNat 0 : Nat) : Int) = q at *
   generalize ((A.getD l[i].toNat 0 : Nat) : Int) = p at *
   generalize us A = Z at *
   generalize (m : Int) = X at *
   unfold lQwX0
   simp [rQwX0, rQwX1, rQwX2, rQwX3, rQwX4, rQwX5, rQwX6, rQwX7, h1, hlt, hw, i1, i2, g2, g2', elA, w2, blk, eds_length, eds_get, edsAt, edAV, allLeaf_eds, cleanL_eds, cleanL_ints, ints_length, ints_get, intsAt, endL, finB]
theorem comm_run {N : Nat} {Es : List Ed} (h : GOK (N : Int) Es) (S : List Int) (hS : S.length < 4294967295) (hb : ∀ v ∈ S, 0 <= v /\ v < (N : Int)) : callL cfgS nQw [.list 1 (us (adjE N Es)), .list 1 (ints S)] [] = some (.int .u64 (cn N Es S : Nat), []) := by
 rw [callL_end oQw sQw (Nat.le_of_ble_eq_true rfl)]
 have hn := gok_n h
 have ga := gadj h
 have p : 2 ^ N <= 2 ^ 64 := Nat.pow_le_pow_right (by decide) hn
 have p0 : 0 < 2 ^ N := Nat.two_pow_pos N
 have hl := comm_loop (adjE N Es) ga.2.1 S hS (by rw [ga.1]; exact hb) S.length 0 (2 ^ N - 1) (by omega) (by omega)
 rw [nat0, List.drop_zero] at hl
 have al := alln_run N hn
 have e : comL (adjE N Es) (2 ^ N - 1) S = cn N Es S := rfl
 rw [e] at hl
 have elA := us_length (adjE N Es)
 rw [ga.1] at elA
 generalize ((cn N Es S : Nat) : Int) = q at *
 generalize ((2 ^ N - 1 : Nat) : Int) = W at *
 generalize us (adjE N Es) = Z at *
 unfold qQw cQw
 simp [rQwX0, rQwX1, rQwX2, rQwX3, rQwX4, rQwX5, rQwX6, rQwX7, hl, al, elA, sQS, iQS, blk, eds_length, eds_get, edsAt, edAV, allLeaf_eds, cleanL_eds, cleanL_ints, ints_length, ints_get, intsAt, endL, finB]
def okAt (A : List Nat) (S : List Int) (i : Nat) : Bool := (S.take i).all fun w => (A.getD (S.getD i 0).toNat 0).testBit w.toNat
theorem shrb (M : Nat) (u : Int) (h0 : 0 <= u) (h1 : u < 64) : binA .shr (.int .u64 (M : Int)) (.int .i64 u) = some (.int .u64 ((M / 2 ^ u.toNat : Nat) : Int)) := by
 unfold binA
 simp only
 rw [if_neg (by omega), show min u.toNat IntKind.u64.bits = u.toNat by (show min u.toNat 64 = u.toNat); omega, powc, Int.fdiv_eq_ediv_of_nonneg _ (Int.natCast_nonneg _)]
 rfl
theorem oneb (M : Nat) (u : Int) (h0 : 0 <= u) (hM : M < 18446744073709551616) : binA .and (.int .u64 ((M / 2 ^ u.toNat : Nat) : Int)) (.int .u64 1) = some (.int .u64 (if M.testBit u.toNat = true then 1 else 0)) := by
 have hd : M / 2 ^ u.toNat <= M := Nat.div_le_self _ _
 have h := bin_and (M / 2 ^ u.toNat) 1 (by omega) (by decide)
 have e : (((M / 2 ^ u.toNat) &&& 1 : Nat) : Int) = if M.testBit u.toNat = true then 1 else 0 := by
  rw [Nat.and_one_is_mod, Nat.testBit_eq_decide_div_mod_eq]
  by_cases k : M / 2 ^ u.toNat % 2 = 1
  ·simp [k]
  ·simp only [k, decide_false, Bool.false_eq_true, if_false]; omega
 rw [e] at h
 exact h
theorem clq_in (A : List Nat) (hA : Small A) (S : List Int) (hS : S.length < 4294967295) (hb : ∀ v ∈ S, 0 <= v /\ v < (A.length : Int)) (hA64 : A.length <= 64) (i : Nat) (hi : i < S.length) : ∀ (k j : Nat), j + k = i -> codeL cfgS 0 (.loop lQGX0) ⟨[(0, .list 1 (us A)), (1, .list 1 (ints S)), (6, .int .i64 (S.getD i 0)), (9, .list 1 (ints S)), (10, .int .i64 S.length), (11, .int .i64 i), (18, .list 1 (ints (S.take i))), (19, .int .i64 i), (20, .int .i64 j)], []⟩ =
  if ((S.take i).drop j).all (fun w => (A.getD (S.getD i 0).toNat 0).testBit w.toNat) = true then some (.exit 2, ⟨[(0, .list 1 (us A)), (1, .list 1 (ints S)), (6, .int .i64 (S.getD i 0)), (9, .list 1 (ints S)), (10, .int .i64 S.length), (11, .int .i64 i), (18, .list 1 (ints (S.take i))), (19, .int .i64 i), (20, .int .i64 i), (21, .bool false)], []⟩) else some (.ret, ⟨[(4, .bool false)], []⟩)
 | 0, j, hj => by
   obtain rfl : j = i := by omega
   have : (S.take j).drop j = [] := List.drop_eq_nil_of_le (by simp; omega)
   rw [this, List.all_nil, if_pos rfl]
   exact loop_exit (by unfold lQGX0; simp [rQGX0, rQGX1, rQGX2, rQGX3, rQGX4, rQGX5, rQGX6, rQGX7, rQGX8, rQGX9, rQGX10, rQGX11, blk, eds_length, eds_get, edsAt, edAV, allLeaf_eds, cleanL_eds, cleanL_ints, ints_length, ints_get, intsAt, endL, finB])
 | k + 1, j, hj => by
   have hlt : j < i := by omega
   have hlS : j < S.length := by omega
   have h1 : (j : Int) < i := by omega
   have hw := wrapS (i := j) (by omega)
   have lt : (S.take i).length = i := by simp; omega
   have ih := clq_in A hA S hS hb hA64 i hi k (j + 1) (by omega)
   have gj : (S.take i)[j]'(by omega) = S[j] := by simp
   rw [List.drop_eq_getElem_cons (by omega), List.all_cons, gj]
   obtain ⟨b0, b1⟩ := hb S[j] (List.getElem_mem hlS)
   have hSi : S.getD i 0 ∈ S := by
    rw [List.getD_eq_getElem?_getD, List.getElem?_eq_getElem hi]
    exact List.getElem_mem hi
   obtain ⟨c0, c1⟩ := hb _ hSi
   have i1 := idx_lt (k := .i64) (i := (j : Int)) (n := i) (by omega) h1
   have i2 := idx_lt (k := .i64) (i := S.getD i 0) (n := A.length) c0 c1
   have g2 : (us A)[(S.getD i 0).toNat]? = some (.int .u64 (A.getD (S.getD i 0).toNat 0 : Nat)) := by
    rw [us_get, List.getD_eq_getElem?_getD (l := A), List.getElem?_eq_getElem (by omega)]; rfl
   have g2' : ∀ h : (S.getD i 0).toNat < (us A).length, (us A)[(S.getD i 0).toNat] = .int .u64 (A.getD (S.getD i 0).toNat 0 : Nat) := fun h => by rw [List.getElem?_eq_getElem h] at g2; exact Option.some.inj g2
   have elA := us_length A
   have ra := getD_lt hA (S.getD i 0).toNat
   have s1 := shrb (A.getD (S.getD i 0).toNat 0) S[j] b0 (by omega)
   have s2 := oneb (A.getD (S.getD i 0).toNat 0) S[j] b0 ra
   have gt : (ints (S.take i))[j]? = some (.int .i64 S[j]) := by rw [ints_get, List.getElem?_eq_getElem (by omega), gj]; rfl
   have gt' : ∀ h : j < (ints (S.take i)).length, (ints (S.take i))[j] = .int .i64 S[j] := fun h => by rw [List.getElem?_eq_getElem h] at gt; exact Option.some.inj gt
   have elt : (ints (S.take i)).length = i := by rw [ints_length]; exact lt
   generalize ((A.getD (S.getD i 0).toNat 0 / 2 ^ S[j].toNat : Nat) : Int) = q1 at *
   cases tb : (A.getD (S.getD i 0).toNat 0).testBit S[j].toNat with
   | true =>
     rw [tb, if_pos rfl] at s2
     rw [Bool.true_and]
     refine (loop_next ?_).trans ih
     clear ih tb
     generalize ((A.getD (S.getD i 0).toNat 0 : Nat) : Int) = p at *
     generalize S.getD i 0 = sv at *
     generalize us A = Z at *
     generalize hT : ints (S.take i) = TT at *
     have q2 : binA .eql (.int .u64 1) (.int .u64 0) = some (.bool false) := rfl
     unfold lQGX0
     simp [-binA, rQGX0, rQGX1, rQGX2, rQGX3, rQGX4, rQGX5, rQGX6, rQGX7, rQGX8, rQGX9, rQGX10, rQGX11, h1, hlt, i1, i2, g2, g2', elA, gt, gt', elt, s1, s2, q2, show binA .lss (.int .i64 (j : Int)) (.int .i64 (i : Int)) = some (.bool true) from (by simp [binA, arith, h1]), show binA .add (.int .i64 (j : Int)) (.int .i64 1) = some (.int .i64 ((j + 1 : Nat) : Int)) from (by simp [binA, arith, hw]), blk, eds_length, eds_get, edsAt, edAV, allLeaf_eds, cleanL_eds, cleanL_ints, ints_length, ints_get, intsAt, endL, finB, -binA]
   | false =>
     rw [tb, if_neg (by decide)] at s2
     rw [Bool.false_and, if_neg (by decide)]
     refine loop_ret ?_
     clear ih tb
     generalize ((A.getD (S.getD i 0).toNat 0 : Nat) : Int) = p at *
     generalize S.getD i 0 = sv at *
     generalize us A = Z at *
     generalize hT : ints (S.take i) = TT at *
     have q2 : binA .eql (.int .u64 0) (.int .u64 0) = some (.bool true) := rfl
     unfold lQGX0
     simp [-binA, rQGX0, rQGX1, rQGX2, rQGX3, rQGX4, rQGX5, rQGX6, rQGX7, rQGX8, rQGX9, rQGX10, rQGX11, h1, hlt, i1, i2, g2, g2', elA, gt, gt', elt, s1, s2, q2, show binA .lss (.int .i64 (j : Int)) (.int .i64 (i : Int)) = some (.bool true) from (by simp [binA, arith, h1]), blk, eds_length, eds_get, edsAt, edAV, allLeaf_eds, cleanL_eds, cleanL_ints, ints_length, ints_get, intsAt, endL, finB, -binA]
end Go.BmP
