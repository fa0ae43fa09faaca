/- What masks.Rows and masks.Count return; degree.Degrees. -/
import Derived.Test.YtegmpkeejgflnaaUseM
import Derived.Test.YtegmpkeejgflnaaK04
import Derived.Test.YtegmpkeejgflnaaBicP
set_option linter.unusedSimpArgs false
set_option linter.unusedVariables false
set_option maxRecDepth 100000
set_option maxHeartbeats 4000000
namespace Go.BmP
open Go.Am Go.Bm
theorem rows_loop (N : Nat) (hN : N <= 64) (Es : List Ed) (hE : Es.length < 4294967295) (hv : ∀ e ∈ Es, 0 <= e.1 /\ e.1 < e.2 /\ e.2 < (N : Int)) : ∀ (k i : Nat) (A : List Nat), i + k = Es.length -> A.length = N -> Small A -> codeL cfgS 0 (.loop lQqX0) ⟨[(3, .own 1 (us A)), (12, .list 2 (eds Es)), (13, .int .i64 Es.length), (14, .int .i64 i)], []⟩ =
  some (.exit 0, ⟨[(3, .own 1 (us (adjOf (Es.drop i) A))), (12, .list 2 (eds Es)), (13, .int .i64 Es.length), (14, .int .i64 Es.length), (15, .bool false)], []⟩)
 | 0, i, A, hi, hA, hS => by
   obtain rfl : i = Es.length := by omega
   rw [List.drop_length]
   exact loop_exit (by unfold lQqX0; simp [rQqX0, rQqX1, rQqX2, rQqX3, rQqX4, rQqX5, rQqX6, rQqX7, rQqX8, rQqX9, adjOf, List.foldl_nil])
 | k + 1, i, A, hi, hA, hS => by
   have hlt : i < Es.length := by omega
   have h1 : (i : Int) < Es.length := by omega
   have hw := wrapS (i := i) (by omega)
   obtain ⟨u0, uv, vn⟩ := hv Es[i] (List.getElem_mem hlt)
   have ih := rows_loop N hN Es hE hv k (i + 1) (adF A Es[i]) (by omega) (by rw [adF_length]; exact hA) (adF_small hS (by omega) (by omega))
   rw [List.drop_eq_getElem_cons hlt]
   have v0 : 0 <= Es[i].2 := by omega
   have un : Es[i].1 < (N : Int) := by omega
   have u0' : ¬ Es[i].1 < 0 := by omega
   have v0' : ¬ Es[i].2 < 0 := by omega
   have uN : Es[i].1.toNat < N := by omega
   have vN : Es[i].2.toNat < N := by omega
   have pu := pow_lt64 (v := Es[i].1) (by omega) u0
   have pv := pow_lt64 (v := Es[i].2) (by omega) v0
   have su := shlU (v := Es[i].1) u0 (by omega)
   have sv := shlU (v := Es[i].2) v0 (by omega)
   have su' : IntKind.u64.wrap (2 ^ (min Es[i].1.toNat 64)) = ((2 ^ Es[i].1.toNat : Nat) : Int) := by rw [<- su, Int.one_mul]
   have sv' : IntKind.u64.wrap (2 ^ (min Es[i].2.toNat 64)) = ((2 ^ Es[i].2.toNat : Nat) : Int) := by rw [<- sv, Int.one_mul]
   have gu : (us A)[Es[i].1.toNat]? = some (.int .u64 (A.getD Es[i].1.toNat 0 : Nat)) := by
    rw [us_get, List.getD_eq_getElem?_getD, List.getElem?_eq_getElem (by omega)]; rfl
   have xu := getD_lt hS Es[i].1.toNat
   have ou := u64_or_nat (A.getD Es[i].1.toNat 0) (2 ^ Es[i].2.toNat) xu pv
   have eu := us_set A Es[i].1.toNat (A.getD Es[i].1.toNat 0 ||| 2 ^ Es[i].2.toNat)
   have sm : Small (A.set Es[i].1.toNat (A.getD Es[i].1.toNat 0 ||| 2 ^ Es[i].2.toNat)) := set_small hS (Nat.or_lt_two_pow (n := 64) xu pv)
   have eln : (A.set Es[i].1.toNat (A.getD Es[i].1.toNat 0 ||| 2 ^ Es[i].2.toNat)).length = N := by rw [List.length_set]; exact hA
   have ead : adjOf (Es[i] :: Es.drop (i + 1)) A = adjOf (Es.drop (i + 1)) (adF A Es[i]) := rfl
   rw [ead]
   have eA : adF A Es[i] = (A.set Es[i].1.toNat (A.getD Es[i].1.toNat 0 ||| 2 ^ Es[i].2.toNat)).set Es[i].2.toNat ((A.set Es[i].1.toNat (A.getD Es[i].1.toNat 0 ||| 2 ^ Es[i].2.toNat)).getD Es[i].2.toNat 0 ||| 2 ^ Es[i].1.toNat) := rfl
   rw [eA] at ih ⊢
   generalize hA1 : A.set Es[i].1.toNat (A.getD Es[i].1.toNat 0 ||| 2 ^ Es[i].2.toNat) = A1 at *
   have gv : (us A1)[Es[i].2.toNat]? = some (.int .u64 (A1.getD Es[i].2.toNat 0 : Nat)) := by
    rw [us_get, List.getD_eq_getElem?_getD, List.getElem?_eq_getElem (by omega)]; rfl
   have ov := u64_or_nat (A1.getD Es[i].2.toNat 0) (2 ^ Es[i].1.toNat) (getD_lt sm _) pu
   have ev := us_set A1 Es[i].2.toNat (A1.getD Es[i].2.toNat 0 ||| 2 ^ Es[i].1.toNat)
   generalize A1.getD Es[i].2.toNat 0 ||| 2 ^ Es[i].1.toNat = q at *
   generalize A.getD Es[i].1.toNat 0 ||| 2 ^ Es[i].2.toNat = p at *
   generalize A1.getD Es[i].2.toNat 0 = y at *
   generalize A.getD Es[i].1.toNat 0 = x at *
   generalize 2 ^ Es[i].1.toNat = pU at *
   generalize 2 ^ Es[i].2.toNat = pV at *
   clear pu pv xu sm eA ead hA1
   have gu' : ∀ h : Es[i].1.toNat < (us A).length, (us A)[Es[i].1.toNat] = .int .u64 (x : Int) := fun h => by rw [List.getElem?_eq_getElem h] at gu; exact Option.some.inj gu
   have gv' : ∀ h : Es[i].2.toNat < (us A1).length, (us A1)[Es[i].2.toNat] = .int .u64 (y : Int) := fun h => by rw [List.getElem?_eq_getElem h] at gv; exact Option.some.inj gv
   refine (loop_next (s' := ⟨[(3, .own 1 (us (A1.set Es[i].2.toNat q))), (12, .list 2 (eds Es)), (13, .int .i64 Es.length), (14, .int .i64 ((i + 1 : Nat) : Int))], []⟩) ?_).trans ih
   have g1 : (eds Es)[i]? = some (.agg [.int .i64 Es[i].1, .int .i64 Es[i].2]) := by rw [eds_get, List.getElem?_eq_getElem hlt]; rfl
   have g2 : ∀ h, (eds Es)[i]'h = .agg [.int .i64 Es[i].1, .int .i64 Es[i].2] := fun h => edsAt ..
   have g5 := eds_length Es
   have vN' : Es[i].2 < (N : Int) := vn
   unfold lQqX0
   simp [rQqX0, rQqX1, rQqX2, rQqX3, rQqX4, rQqX5, rQqX6, rQqX7, rQqX8, rQqX9, h1, hlt, hw, u0, v0, u0', v0', un, vn, uv, uN, vN, su, sv, su', sv', gu, gv, gu', gv', g1, g2, g5, ou, ov, eu, ev, hA, eln, us_length, idx, IntKind.bits, fz, pl, AV.leaf, blk]
theorem adj_spec {N : Nat} {Es : List Ed} (h : GOK (N : Int) Es) : (adjE N Es).length = N /\ Small (adjE N Es) /\ ∀ a b : Nat, ((adjE N Es).getD a 0).testBit b = (decide (((a : Int), (b : Int)) ∈ Es) || decide (((b : Int), (a : Int)) ∈ Es)) := by
 have hn := h.1
 obtain ⟨i1, i2, i3⟩ := adjOf_spec N (by omega) Es (List.replicate N 0) (by simp) (fun x hx => by have := List.eq_of_mem_replicate hx; omega) h.2.2
 refine ⟨i1, i2, fun a b => ?_⟩
 unfold adjE
 rw [i3]
 have : ((List.replicate N 0).getD a 0) = 0 := by rw [List.getD_eq_getElem?_getD, List.getElem?_replicate]; split <;> rfl
 rw [this, Nat.zero_testBit, Bool.false_or]
theorem rows_run {N : Nat} {Es : List Ed} (h : GOK (N : Int) Es) (hE : Es.length < 4294967295) : callL cfgS nQq [.agg [.int .i64 N, .list 2 (eds Es)]] [] = some (.list 1 (us (adjE N Es)), []) := by
 have hn : N <= 64 := by have := h.1; omega
 have hl := rows_loop N hn Es hE h.2.2 Es.length 0 (List.replicate N 0) (by omega) (by simp) (fun x hx => by have := List.eq_of_mem_replicate hx; omega)
 rw [nat0, List.drop_zero] at hl
 have r1 : List.replicate N (AV.int .u64 0) = us (List.replicate N 0) := us_rep N
 have n0 : ¬ (N : Int) < 0 := by omega
 have nL : (N : Int) <= 4294967296 := by omega
 have m1 : max (N : Int) 0 = (N : Int) := by omega
 have m2 : ¬ (64 : Int) < N := by omega
 have ea : adjOf Es (List.replicate N 0) = adjE N Es := rfl
 rw [ea] at hl
 have tk : (us (adjE N Es)).take (adjE N Es).length = us (adjE N Es) := by rw [us_take, List.take_length]
 have e := (adj_spec h).1
 have tkr : (us (List.replicate N 0)).take N = us (List.replicate N 0) := by
  have := List.take_length (l := us (List.replicate N 0))
  rwa [us_length, List.length_replicate] at this
 rw [e] at tk
 have g5 := eds_length Es
 rw [callL_end oQq sQq (Nat.le_of_ble_eq_true rfl)]
 unfold qQq cQq
 generalize eds Es = Y at *
 simp [rQqX0, rQqX1, rQqX2, rQqX3, rQqX4, rQqX5, rQqX6, rQqX7, rQqX8, rQqX9, hl, r1, tkr, e, List.length_replicate, n0, nL, m1, m2, us_length, tk, g5, LIM, blk, plL, pl, endL, finB]
def pc9 (m : Nat) : Nat := ((List.range 9).filter fun j => m.testBit j).length
def pcA (x : Int) : Int := IntKind.u64.wrap (bits .and .u64 (x.fdiv 2) 6148914691236517205 + bits .and .u64 x 6148914691236517205)
def pcB (x : Int) : Int := IntKind.u64.wrap (bits .and .u64 (x.fdiv 4) 3689348814741910323 + bits .and .u64 x 3689348814741910323)
def pcC (x : Int) : Int := bits .and .u64 (IntKind.u64.wrap (x.fdiv 16 + x)) 1085102592571150095
def pcD (n : Int) (x : Int) : Int := IntKind.u64.wrap (x + x.fdiv n)
def pcE (x : Int) : Int := bits .and .i64 (IntKind.i64.wrap (pcD 4294967296 (pcD 65536 (pcD 256 (pcC (pcB (pcA x))))))) 127
theorem ones_run (x : Int) : callL cfgS nQC [.int .u64 x] [] = some (.int .i64 (pcE x), []) := by
 obtain ⟨a, ea⟩ : ∃ a, IntKind.u64.wrap (bits .and .u64 (x.fdiv 2) 6148914691236517205 + bits .and .u64 x 6148914691236517205) = a := ⟨_, rfl⟩
 obtain ⟨b, eb⟩ : ∃ b, IntKind.u64.wrap (bits .and .u64 (a.fdiv 4) 3689348814741910323 + bits .and .u64 a 3689348814741910323) = b := ⟨_, rfl⟩
 obtain ⟨c, ec⟩ : ∃ c, bits .and .u64 (IntKind.u64.wrap (b.fdiv 16 + b)) 1085102592571150095 = c := ⟨_, rfl⟩
 obtain ⟨d, ed⟩ : ∃ d, IntKind.u64.wrap (c + c.fdiv 256) = d := ⟨_, rfl⟩
 obtain ⟨e, ee⟩ : ∃ e, IntKind.u64.wrap (d + d.fdiv 65536) = e := ⟨_, rfl⟩
 obtain ⟨f, ef⟩ : ∃ f, IntKind.u64.wrap (e + e.fdiv 4294967296) = f := ⟨_, rfl⟩
 have hp : pcE x = bits .and .i64 (IntKind.i64.wrap f) 127 := by unfold pcE pcD pcC pcB pcA; rw [ea, eb, ec, ed, ee, ef]
 rw [hp]
 rw [callL_end oQC sQC (Nat.le_of_ble_eq_true rfl)]
 unfold qQC cQC
 simp [rQCX0, rQCX1, rQCX2, rQCX3, rQCX4, rQCX5, rQCX6, rQCX7, ea, eb, ec, ed, ee, ef, IntKind.bits, blk, endL, finB]
end Go.BmP
