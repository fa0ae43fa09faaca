/- What cliques' each does with the maximal cliques behind a list, and what All returns. -/
import Derived.Test.YtfmbbifdganaaaaDoorUseM
import Derived.Test.YtfmbbifdganaaaaDoorH17
import Derived.Test.YtfmbbifdganaaaaDoorK04
set_option linter.unusedSimpArgs false
set_option linter.unusedVariables false
set_option maxRecDepth 100000
set_option maxHeartbeats 4000000
namespace Go.BmP
open Go.Am Go.Bm
def tkH (N : Nat) (Es : List Ed) (x1 x2 : List AV) : Heap := [some [.int .i64 N, .list 2 (eds Es)], some x1, some x2]
def behK (N : Nat) (Es : List Ed) (after : List Int) : List (List Int) := (mcl N Es).filter fun S => decide (cmpL S after = 1)
theorem each_run {N : Nat} {Es : List Ed} (h : GOK (N : Int) Es) (hE : Es.length < 4294967295) {x1 caps : List AV} {nT : Nat} {after : List Int} (ha : after.length < 9223372036854775808) {σ : Type} {X2 : σ -> List AV} {tk : σ -> List Int -> σ × Bool} {Inv : σ -> Prop} (hT : TakeK N Es after x1 nT caps X2 tk Inv) (s : σ) (hs : Inv s) : callL cfgS nQu [.agg [.int .i64 N, .list 2 (eds Es)], .list 1 (ints after), .func (.func nT) [] caps] (tkH N Es x1 (X2 s)) = some (.tup [], tkH N Es x1 (X2 (foldS tk (behK N Es after) s).1)) := by
 have hn := gok_n h
 have c0 : IsC N Es [] := ⟨List.Pairwise.nil, by simp, List.Pairwise.nil⟩
 have e := inner_run h hT ha (N + 1) [] true s c0 (by show (N : Int) - (-1) <= ((N + 1 : Nat) : Int); omega) hs
 unfold CallK at e
 have we := inn_after (N := N) (E := Es) (after := after) (N + 1) [] true (fun _ => ⟨after, rfl⟩) (fun k => by cases k)
 have eb : ((innK N Es [] (N + 1) [] false).filter fun S => decide (cmpL S after = 1)) = behK N Es after := rfl
 rw [eb] at we
 rw [we] at e
 have e := e.1
 generalize foldS tk (behK N Es after) s = R at *
 rw [mo_nil h, le_nil] at e
 have m1 := msks_run h hE
 have m2 := alln_run N hn
 clear we eb
 rw [callL_end oQu sQu (Nat.le_of_ble_eq_true rfl)]
 obtain ⟨pm1, pb1, pn1, pc1⟩ := hT.px1
 obtain ⟨pm2, pb2, pn2, pc2⟩ := hT.px2 s
 obtain ⟨pm4, pb4, pn4, pc4⟩ := hT.px2 R.1
 obtain ⟨pm3, pb3, po3, pp3, pl3, pn3⟩ := hT.cp
 have n3 := pn3 3 (by omega)
 have n4 := pn3 4 (by omega)
 have n5 := pn3 5 (by omega)
 have n6 := pn3 6 (by omega)
 have n7 := pn3 7 (by omega)
 have n8 := pn3 8 (by omega)
 clear pn3
 unfold kA kH at e
 unfold tkH
 rw [ints_nil, nat0] at e
 generalize X2 R.1 = Y at *
 generalize X2 s = Y0 at *
 generalize ((2 ^ N - 1 : Nat) : Int) = W at *
 generalize R.2 = g at *
 unfold qQu cQu
 simp [rQuX0, rQuX1, rQuX2, rQuX3, rQuX4, rQuX5, e, m1, m2, plp, plpL, allB, notBox, swC, seesC, inBox, finS, swS, mapH, sQR, iQR, sQx, iQx, sQS, iQS, relB, handBox, cleanL_eds, cleanL_us, pm1, pb1, pn1, pc1, pm2, pb2, pn2, pc2, pm3, pb3, po3, pp3, pl3, pm4, pb4, pn4, pc4, n3, n4, n5, n6, n7, n8, blk, eds_length, eds_get, edsAt, edAV, allLeaf_eds, cleanL_eds, cleanL_ints, ints_length, ints_get, intsAt, endL, finB]
def lls (o : List (List Int)) : List AV := o.map fun S => .list 1 (ints S)
theorem lls_length (o : List (List Int)) : (lls o).length = o.length := List.length_map _
theorem lls_snoc (o : List (List Int)) (S : List Int) : lls o ++ [.list 1 (ints S)] = lls (o ++ [S]) := by simp [lls]
theorem lls_get (o : List (List Int)) (i : Nat) : (lls o)[i]? = (o[i]?).map fun S => .list 1 (ints S) := List.getElem?_map
theorem llsAt (o : List (List Int)) (i : Nat) (h : i < (lls o).length) : (lls o)[i] = .list 1 (ints (o[i]'(by simpa [lls] using h))) := by simp [lls]
theorem plain_own (k : Nat) (x : List AV) : Plain [.own k x] := ⟨fun _ => rfl, rfl, fun _ => rfl, fun _ _ _ => rfl⟩
theorem plain_int (k : IntKind) (x : Int) : Plain [.int k x] := ⟨fun _ => rfl, rfl, fun _ => rfl, fun _ _ _ => rfl⟩
theorem plainC_21 : PlainC [.ptr 2 0, .ptr 1 0] := ⟨fun _ => rfl, rfl, rfl, rfl, rfl, fun b hb => by simp [noPtrL, noPtr]; omega⟩
theorem takeK_run (N : Nat) (Es : List Ed) (most : Int) (after : List Int) (o : List (List Int)) (P S : List Int) (ho : o.length < 4294967295) : callL cfgS nQv [.list 1 (ints S), .ptr 2 0, .ptr 1 0] (kH N Es [.int .i64 most] [.own 1 (lls o)] nQv [.ptr 2 0, .ptr 1 0] after P) = some (.bool (decide ((o.length : Int) + 1 <= most)), kH N Es [.int .i64 most] [.own 1 (lls (o ++ [S]))] nQv [.ptr 2 0, .ptr 1 0] after P) := by
 rw [callL_end oQv sQv (Nat.le_of_ble_eq_true rfl)]
 have h1 : o.length + 1 <= 4294967296 := by omega
 have h2 := lls_snoc o S
 have h3 := lls_length o
 have ht : (lls o).take o.length = lls o := by rw [<- h3, List.take_length]
 have h4 := lls_length (o ++ [S])
 have h5 : (lls (o ++ [S])).take (o.length + 1) = lls (o ++ [S]) := by
  have := List.take_length (l := lls (o ++ [S]))
  rwa [h4, List.length_append] at this
 unfold kH
 generalize hX : lls (o ++ [S]) = X at *
 generalize hY : lls o = Y at *
 unfold qQv cQv
 simp [rQvX0, rQvX1, rQvX2, h1, h2, h3, ht, h4, h5, LIM, finS, plp, plpL, swS, mapH, mapBL, mapB, blk, eds_length, eds_get, edsAt, edAV, allLeaf_eds, cleanL_eds, cleanL_ints, ints_length, ints_get, intsAt, endL, finB]
theorem take_allK (N : Nat) (Es : List Ed) {most : Int} (hm : most <= 4096) (after : List Int) : TakeK N Es after [.int .i64 most] nQv [.ptr 2 0, .ptr 1 0] (fun o => [.own 1 (lls o)]) (tkA most) (fun o => (o.length : Int) <= most) :=
 ⟨⟨_, sQv⟩, plain_int _ _, fun _ => plain_own _ _, plainC_21, fun s S P hs _ _ => takeK_run N Es most after s P S (by omega), fun s S hs _ _ k => by
  have : (s.length : Int) + 1 <= most := of_decide_eq_true k
  show ((s ++ [S]).length : Int) <= most
  simp
  omega⟩
theorem behK_nil {N : Nat} {Es : List Ed} (h : GOK (N : Int) Es) : behK N Es [] = mcl N Es := by
 unfold behK
 rw [List.filter_eq_self]
 intro S hS
 have := ((mcl_mem h).1 hS).2.1
 cases S with
 | nil => exact absurd rfl this
 | cons x r => rfl
def allK (N : Nat) (Es : List Ed) (most : Int) : AV := if most < 0 \/ 4096 < most then .tup [.list 1 [], .int .i64 1] else if ((mcl N Es).length : Int) <= most then .tup [.list 1 (lls (mcl N Es)), .int .i64 0] else .tup [.list 1 [], .int .i64 3]
theorem allK_run {N : Nat} {Es : List Ed} (h : GOK (N : Int) Es) (hE : Es.length < 4294967295) (most : Int) : callL cfgS nQf [.agg [.int .i64 N, .list 2 (eds Es)], .int .i64 most] [] = some (allK N Es most, []) := by
 have c1 := gchk_run (N : Int) Es (by omega)
 rw [chkG_zero.2 h] at c1
 rw [callL_end oQf sQf (Nat.le_of_ble_eq_true rfl)]
 by_cases k1 : most < 0
 ·have e : allK N Es most = AV.tup [.list 1 [], .int .i64 1] := if_pos (.inl k1)
  rw [e]
  unfold qQf cQf
  simp [rQfX0, rQfX1, rQfX2, rQfX3, rQfX4, rQfX5, rQfX6, rQfX7, rQfX8, rQfX9, rQfX10, c1, k1, sQt, iQt, cleanL_eds, cleanL_ints, blk, eds_length, eds_get, edsAt, edAV, allLeaf_eds, cleanL_eds, cleanL_ints, ints_length, ints_get, intsAt, endL, finB]
 by_cases k2 : 4096 < most
 ·have e : allK N Es most = AV.tup [.list 1 [], .int .i64 1] := if_pos (.inr k2)
  rw [e]
  unfold qQf cQf
  simp [rQfX0, rQfX1, rQfX2, rQfX3, rQfX4, rQfX5, rQfX6, rQfX7, rQfX8, rQfX9, rQfX10, c1, k1, k2, sQt, iQt, cleanL_eds, cleanL_ints, blk, eds_length, eds_get, edsAt, edAV, allLeaf_eds, cleanL_eds, cleanL_ints, ints_length, ints_get, intsAt, endL, finB]
 unfold allK
 rw [if_neg (by omega)]
 have c3 := each_run h hE (after := []) (by decide) (take_allK N Es (most := most) (by omega) []) [] (by simp; omega)
 rw [behK_nil h] at c3
 by_cases k3 : ((mcl N Es).length : Int) <= most
 ·have f := foldS_all (most := most) (mcl N Es) [] (by simpa using k3)
  rw [List.nil_append] at f
  rw [f] at c3
  rw [if_pos k3]
  have l1 : ¬ most < ((mcl N Es).length : Int) := by omega
  have hpl := lls_length (mcl N Es)
  have tk : (lls (mcl N Es)).take (mcl N Es).length = lls (mcl N Es) := by rw [<- hpl, List.take_length]
  unfold tkH at c3
  rw [show lls [] = [] from rfl, ints_nil] at c3
  generalize lls (mcl N Es) = Y at *
  unfold qQf cQf
  simp [rQfX0, rQfX1, rQfX2, rQfX3, rQfX4, rQfX5, rQfX6, rQfX7, rQfX8, rQfX9, rQfX10, c1, c3, k1, k2, l1, hpl, tk, sQt, iQt, sQu, iQu, cleanL_eds, cleanL_ints, cleanL_us, plp, plpL, allB, notBox, swC, seesC, inBox, blk, eds_length, eds_get, edsAt, edAV, allLeaf_eds, cleanL_eds, cleanL_ints, ints_length, ints_get, intsAt, endL, finB]
 ·have f := foldS_more (most := most) (mcl N Es) [] (by simp; omega) (by simp; omega)
  rw [if_neg k3]
  generalize (foldS (tkA most) (mcl N Es) []).1 = o at *
  have l1 : most < (o.length : Int) := by omega
  have hpl := lls_length o
  unfold tkH at c3
  rw [show lls [] = [] from rfl, ints_nil] at c3
  generalize lls o = Y at *
  unfold qQf cQf
  simp [rQfX0, rQfX1, rQfX2, rQfX3, rQfX4, rQfX5, rQfX6, rQfX7, rQfX8, rQfX9, rQfX10, c1, c3, k1, k2, l1, hpl, sQt, iQt, sQu, iQu, cleanL_eds, cleanL_ints, cleanL_us, plp, plpL, allB, notBox, swC, seesC, inBox, blk, eds_length, eds_get, edsAt, edAV, allLeaf_eds, cleanL_eds, cleanL_ints, ints_length, ints_get, intsAt, endL, finB]
end Go.BmP
