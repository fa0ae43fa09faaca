/- What degree.Degrees and the document's Degrees return of a valid graph of any number of nodes, or the error. -/
import Derived.Test.YtegmpkeejgflnaaUseM
import Derived.Test.YtegmpkeejgflnaaT06
import Derived.Test.YtegmpkeejgflnaaRwP
import Derived.Test.YtegmpkeejgflnaaPcP
import Derived.Test.YtegmpkeejgflnaaK21
set_option linter.unusedSimpArgs false
set_option linter.unusedVariables false
set_option maxRecDepth 100000
set_option maxHeartbeats 8000000
namespace Go.BmP
open Go.Am Go.Bm
theorem ones6_run (m : Nat) (h : m < 18446744073709551616) : callL cfgS nQC [.int .u64 m] [] = some (.int .i64 (pcn m : Nat), []) := by
 rw [ones_run]
 have := pxE_all m h
 rw [show pcE (m : Int) = pxE (m : Int) from rfl, this]
theorem mcntN_run (m : Nat) (h : m < 18446744073709551616) : callL cfgS nQr [.int .u64 m] [] = some (.int .i64 (pcn m : Nat), []) := by
 have o := ones6_run m h
 rw [callL_end oQr sQr (Nat.le_of_ble_eq_true rfl)]
 generalize ((pcn m : Nat) : Int) = p at *
 generalize (m : Int) = x at *
 unfold qQr cQr
 simp [rQrX0, rQrX1, o, blk, endL, finB, sQC, iQC, lQC]
def dgA (N : Nat) (Es : List Ed) : List Int := (adjE N Es).map fun m => ((pcn m : Nat) : Int)
theorem dgA_len {N : Nat} {Es : List Ed} (h : GOK (N : Int) Es) : (dgA N Es).length = N := by rw [dgA, List.length_map]; exact (adj_spec h).1
theorem nbr_bits {N : Nat} {Es : List Ed} (h : GOK (N : Int) Es) {u : Nat} (hu : u < N) : nbr N Es u = bitL ((adjE N Es).getD u 0) := by
 refine up_ext (nbr_up h (by omega) (by omega)) ?_ fun x => ?_
 ·unfold bitL Up
  rw [List.pairwise_map]
  exact (List.pairwise_lt_range.filter _).imp fun k => by omega
 ·rw [nbr_mem h (by omega) (by omega)]
  unfold bitL
  rw [List.mem_map]
  have ab := (adj_spec h).2.2 u
  constructor
  ·intro k
   have hx : 0 <= x /\ x < (N : Int) := by
    have hN := h.1.2
    rcases k with k | k <;> (have := h.2.2 _ k; simp only at this; omega)
   have hN := h.1.2
   refine ⟨x.toNat, List.mem_filter.2 ⟨List.mem_range.2 (by omega), ?_⟩, by omega⟩
   rw [ab, show ((x.toNat : Nat) : Int) = x by omega, Bool.or_eq_true, decide_eq_true_eq, decide_eq_true_eq]
   exact k
  ·rintro ⟨j, hj, rfl⟩
   have := (List.mem_filter.1 hj).2
   rw [ab, Bool.or_eq_true, decide_eq_true_eq, decide_eq_true_eq] at this
   exact this
theorem dgA_get {N : Nat} {Es : List Ed} (h : GOK (N : Int) Es) {u : Nat} (hu : u < N) : ((nbr N Es u).length : Int) = (dgA N Es)[u]'(by rw [dgA_len h]; exact hu) := by
 rw [nbr_bits h hu]
 simp only [dgA, List.getElem_map]
 have hl := (adj_spec h).1
 rw [List.getD_eq_getElem?_getD, List.getElem?_eq_getElem (by rw [hl]; exact hu)]
 simp [bitL, pcn]
theorem dgA_bd {N : Nat} {Es : List Ed} (h : GOK (N : Int) Es) : ∀ x ∈ dgA N Es, 0 <= x /\ x < 64 := by
 intro x hx
 obtain ⟨i, hi, rfl⟩ := List.getElem_of_mem hx
 rw [dgA_len h] at hi
 rw [<- dgA_get h hi]
 have := nbr_len h (u := (i : Int)) (by omega) (by omega)
 have hN := h.1.2
 have nd : (i : Int) ∉ nbr N Es i := fun k => by
  have := (nbr_mem h (by omega) (by omega) _).1 k
  rcases this with k | k <;> (have := h.2.2 _ k; simp only at this; omega)
 have l2 : (nbr N Es i).length <= 63 := by
  have hup := nbr_up h (u := (i : Int)) (by omega) (by omega)
  have hc : ((i : Int) :: nbr N Es i).Nodup := List.nodup_cons.2 ⟨nd, hup.imp fun {a b} k e => by omega⟩
  have hs : ∀ x ∈ ((i : Int) :: nbr N Es i), x ∈ ((List.range 64).map fun j => ((j : Nat) : Int)) := by
   intro x hx
   rw [List.mem_map]
   rcases List.mem_cons.1 hx with rfl | hx
   ·exact ⟨i, List.mem_range.2 (by omega), rfl⟩
   ·have k := (nbr_mem h (by omega) (by omega) _).1 hx
    have hxb : 0 <= x /\ x < (N : Int) := by rcases k with k | k <;> (have := h.2.2 _ k; simp only at this; omega)
    exact ⟨x.toNat, List.mem_range.2 (by omega), by omega⟩
  have hle : ∀ {A B : List Int}, A.Nodup -> (∀ x ∈ A, x ∈ B) -> A.length <= B.length := by
   intro A
   induction A with
   | nil => intro B _ _; simp
   | cons a r ih =>
     intro B hA hs
     have hc := List.nodup_cons.1 hA
     have hm := hs a (by simp)
     have := ih (B := B.erase a) hc.2 fun x hx => (List.mem_erase_of_ne (fun e => hc.1 (by rw [<- e]; exact hx))).2 (hs x (by simp [hx]))
     rw [List.length_erase_of_mem hm] at this
     have := List.length_pos_of_mem hm
     simp only [List.length_cons]; omega
  have := hle hc hs
  simp at this
  omega
 omega
/-! The document's -/
def rdNs (D : List Int) (i : Nat) (H : Heap) (N : Int) (J : Env) : St := ⟨(1, .ptr 0 0) :: (5, .own 1 (ints (D.take i))) :: (13, .int .i64 N) :: (14, .int .i64 i) :: J, H⟩
theorem rdN_loop {N : Nat} {Es : List Ed} (hG : GOK (N : Int) Es) (hE : Es.length < 1000000) : ∀ n i : Nat, i + n = N -> codeL cfgS 0 (.loop lQfX0) (rdNs (dgA N Es) i [some [.int .i64 N, .list 2 (eds Es)]] N []) = some (.exit 0, rdNs (dgA N Es) N [some [.int .i64 N, .list 2 (eds Es)]] N [(15, .bool false)])
 | 0, i, e => by
   obtain rfl : i = N := by omega
   refine loop_exit ?_
   unfold rdNs lQfX0
   simp [rQfX0, rQfX1, rQfX2, rQfX3, rQfX4, rQfX5, rQfX6, rQfX7, rQfX8, rQfX9, rQfX10, blk, eds_length, eds_get, edsAt, edAV, allLeaf_eds, cleanL_eds, cleanL_ints, ints_length, ints_get, intsAt, endL, finB]
 | n + 1, i, e => by
   have hN := hG.1.2
   have h1 : (i : Int) < N := by omega
   have hi : i < N := by omega
   have hw := wrapS (i := i) (by omega)
   have dr := degree_run hG hE (v := (i : Int)) (by omega) (by omega)
   rw [dgA_get hG hi] at dr
   have hlt : i < (dgA N Es).length := by rw [dgA_len hG]; omega
   have et : (dgA N Es).take (i + 1) = (dgA N Es).take i ++ [(dgA N Es)[i]] := List.take_succ_eq_append_getElem hlt
   have ih := rdN_loop hG hE n (i + 1) (by omega)
   refine (loop_next ?_).trans ih
   unfold rdNs lQfX0
   rw [et]
   have lx : ((dgA N Es).take i).length + 1 <= 4294967296 := by rw [List.length_take]; omega
   generalize (dgA N Es)[i] = z at *
   generalize (dgA N Es).take i = X at *
   simp [rQfX0, rQfX1, rQfX2, rQfX3, rQfX4, rQfX5, rQfX6, rQfX7, rQfX8, rQfX9, rQfX10, h1, hw, dr, lx, LIM, ints_snoc, ints_take, List.take_length, ints_length, blk, sQt, iQt, lQt, blk, eds_length, eds_get, edsAt, edAV, allLeaf_eds, cleanL_eds, cleanL_ints, ints_length, ints_get, intsAt, endL, finB]
theorem rdegN_run {N : Nat} {Es : List Ed} (hG : GOK (N : Int) Es) (hE : Es.length < 1000000) : callL cfgS nQf [.agg [.int .i64 N, .list 2 (eds Es)]] [] = some (.tup [.list 1 (ints (dgA N Es)), .int .i64 0], []) := by
 rw [callL_end oQf sQf (Nat.le_of_ble_eq_true rfl)]
 have ck := rchk_run (N : Int) Es (by omega)
 rw [chkG_zero.2 hG] at ck
 have lp := rdN_loop hG hE N 0 (by omega)
 unfold rdNs at lp
 rw [List.take_zero, nat0, ints_nil, List.take_of_length_le (by rw [dgA_len hG]; omega)] at lp
 have tk : (ints (dgA N Es)).take (dgA N Es).length = ints (dgA N Es) := List.take_of_length_le (by rw [ints_length]; omega)
 generalize dgA N Es = X at *
 unfold qQf cQf
 simp [rQfX0, rQfX1, rQfX2, rQfX3, rQfX4, rQfX5, rQfX6, rQfX7, rQfX8, rQfX9, rQfX10, ck, lp, tk, blk, ints_nil, ints_length, sQs, iQs, lQs, endL, finB, plL, pl]
theorem rdegE_run (n : Int) (Fs : List Ed) (hE : Fs.length < 1000000) (e : Int) (he : chkG n Fs = e) (h0 : e ≠ 0) : callL cfgS nQf [.agg [.int .i64 n, .list 2 (eds Fs)]] [] = some (.tup [.list 1 [], .int .i64 e], []) := by
 rw [callL_end oQf sQf (Nat.le_of_ble_eq_true rfl)]
 have ck := rchk_run n Fs (by omega)
 rw [he] at ck
 unfold qQf cQf
 simp [rQfX0, rQfX1, rQfX2, rQfX3, rQfX4, rQfX5, rQfX6, rQfX7, rQfX8, rQfX9, rQfX10, ck, h0, blk, sQs, iQs, lQs, endL, finB, plL, pl]
/-! The program's -/
theorem trim_self (env : Env) (H : Heap) : trim H.length env H.length H = H := by
 cases h : H.length with
 | zero => rfl
 | succ n => unfold trim; rw [if_neg (by omega)]
theorem pdg_loop (A : List Nat) (hA : A.length < 1000000) (h : ∀ m ∈ A, m < 18446744073709551616) (R : Heap) (hR : Rest R) : ∀ (k i : Nat), i + k = A.length -> codeL cfgS R.length (.loop lQeX0) ⟨[(5, .own 1 (ints ((A.map fun m => ((pcn m : Nat) : Int)).take i))), (14, .list 1 (us A)), (15, .int .i64 A.length), (16, .int .i64 i)], R⟩ = some (.exit 0, ⟨[(5, .own 1 (ints (A.map fun m => ((pcn m : Nat) : Int)))), (14, .list 1 (us A)), (15, .int .i64 A.length), (16, .int .i64 A.length), (17, .bool false)], R⟩)
 | 0, i, hi => by
   obtain rfl : i = A.length := by omega
   obtain ⟨r1, r2, r3, r4, r5⟩ := hR
   rw [List.take_of_length_le (by rw [List.length_map]; omega)]
   refine loop_exit ?_
   have ts := fun env => trim_self env R
   unfold lQeX0
   generalize ints (A.map fun m => ((pcn m : Nat) : Int)) = D at *
   generalize us A = U at *
   simp [rQeX0, rQeX1, rQeX2, rQeX3, rQeX4, rQeX5, rQeX6, rQeX7, rQeX8, rQeX9, rQeX10, r1, r2, r3, r4, r5, ts, -trim]
 | k + 1, i, hi => by
   have hlt : i < A.length := by omega
   have ih := pdg_loop A hA h R hR k (i + 1) (by omega)
   obtain ⟨r1, r2, r3, r4, r5⟩ := hR
   refine (loop_next ?_).trans ih
   clear ih
   have ts := fun env => trim_self env R
   have k1 : (i : Int) < A.length := by omega
   have hw := wrapS (i := i) (by omega)
   have c := mcntN_run A[i] (h _ (List.getElem_mem hlt))
   have g3 : (us A)[i]? = some (.int .u64 (A[i] : Nat)) := by rw [us_get, List.getElem?_eq_getElem hlt]; rfl
   have g4 : ∀ h, (us A)[i]'h = .int .u64 (A[i] : Nat) := fun h => by
    have := List.getElem?_eq_getElem (l := us A) h
    rw [g3] at this
    exact (Option.some.inj this).symm
   have g5 := us_length A
   have hl2 : i < (A.map fun m => ((pcn m : Nat) : Int)).length := by rw [List.length_map]; exact hlt
   have et : (A.map fun m => ((pcn m : Nat) : Int)).take (i + 1) = (A.map fun m => ((pcn m : Nat) : Int)).take i ++ [((pcn A[i] : Nat) : Int)] := by
    rw [List.take_succ_eq_append_getElem hl2, List.getElem_map]
   rw [et]
   have lx : ((A.map fun m => ((pcn m : Nat) : Int)).take i).length + 1 <= 4294967296 := by rw [List.length_take]; omega
   generalize (A.map fun m => ((pcn m : Nat) : Int)).take i = X at *
   generalize A[i] = m at *
   unfold lQeX0
   generalize us A = U at *
   generalize ((pcn m : Nat) : Int) = p at *
   simp [rQeX0, rQeX1, rQeX2, rQeX3, rQeX4, rQeX5, rQeX6, rQeX7, rQeX8, rQeX9, rQeX10, k1, hlt, hw, c, g3, g4, g5, lx, LIM, idx, blk, ints_snoc, ints_take, List.take_length, ints_length, r1, r2, r3, r4, r5, ts, sQr, iQr, lQr, -trim]
end Go.BmP
