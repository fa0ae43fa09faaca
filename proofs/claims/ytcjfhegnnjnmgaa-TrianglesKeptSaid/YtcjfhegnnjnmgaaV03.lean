/- What triangles.changed returns: the whole. -/
import Derived.Test.YtcjfhegnnjnmgaaUseM
import Derived.Test.YtcjfhegnnjnmgaaV02
set_option linter.unusedSimpArgs false
set_option linter.unusedVariables false
set_option maxRecDepth 100000
set_option maxHeartbeats 4000000
namespace Go.BmP
open Go.Am Go.Bm
def chN (Ns T : List Int) (u v : Nat) (b : Int) : List Int := addAt (addAt (T.foldl (fun n w => addAt n w b) Ns) u (b * T.length)) v (b * T.length)
theorem chN_length (Ns T : List Int) (u v : Nat) (b : Int) : (chN Ns T u v b).length = Ns.length := by rw [chN, addAt_length, addAt_length, addAts_length]
theorem addAts_bd {b : Int} (hb : -1 <= b /\ b <= 1) : ∀ (T n : List Int) (B : Int), 0 <= B -> (∀ x ∈ n, -B <= x /\ x <= B) -> ∀ x ∈ T.foldl (fun n w => addAt n w b) n, -(B + T.length) <= x /\ x <= B + T.length
 | [], n, B, hB, h => by simpa using h
 | w :: r, n, B, hB, h => by
   intro x hx
   rw [List.foldl_cons] at hx
   have := addAts_bd hb r (addAt n w b) (B + 1) (by omega) (addAt_bd (c := 1) h hB hb) x hx
   simp only [List.length_cons]
   omega
theorem changed_run {N : Nat} {Es : List Ed} (hG : GOK (N : Int) Es) (hE : Es.length < 1000000) (Fs : List Ed) (C : Int) (hC : -1000000000 < C /\ C < 1000000000) (Ns : List Int) (hN : Ns.length = N) (hb : ∀ x ∈ Ns, -100000000 <= x /\ x <= 100000000) (u v : Nat) (hu : u < N) (hv : v < N) (b : Int) (hb1 : b = 1 \/ b = -1) :
  callL cfgS nTrianglesChanged [triAV N Es C Ns, .agg [.int .i64 N, .list 2 (eds Fs)], .int .i64 u, .int .i64 v, .int .i64 b] [] = some (.tup [triAV N Fs (C + b * (com N Es ((u : Int), (v : Int))).length) (chN Ns (com N Es ((u : Int), (v : Int))) u v b), .int .i64 ((com N Es ((u : Int), (v : Int))).length : Nat), .int .i64 0], []) := by
 have hN64 := hG.1
 have lr := lists_run N Es (by omega) (by omega) hG.2.2
 have a1 := lls_at (N := N) (Es := Es) hu
 have a2 := lls_at (N := N) (Es := Es) hv
 have at' : ∀ {i : Nat} {x : AV}, (llT (lstE N Es))[i]? = some x -> ∀ h, (llT (lstE N Es))[i]'h = x := fun {i x} e h => by
  have := List.getElem?_eq_getElem (l := llT (lstE N Es)) h
  rw [e] at this
  exact (Option.some.inj this).symm
 have a1' := at' a1
 have a2' := at' a2
 have ll : (llT (lstE N Es)).length = N := by rw [llT, List.length_map, lstE_length]
 have n1 := nbr_len hG (u := u) (by omega) (by omega)
 have n2 := nbr_len hG (u := v) (by omega) (by omega)
 have sh := shared_run (nbr N Es u) (nbr N Es v) (by omega) (by omega)
 have cl := cloneI_run Ns (by omega)
 have cN := cleanL_ints Ns
 have eC : shr (nbr N Es u) (nbr N Es v) = com N Es ((u : Int), (v : Int)) := rfl
 rw [eC] at sh
 have cm := com_mem hG (e := ((u : Int), (v : Int))) (by simp only; omega)
 have cln := com_len hG (e := ((u : Int), (v : Int))) (by simp only; omega)
 have cw : ∀ w ∈ com N Es ((u : Int), (v : Int)), 0 <= w /\ w < (N : Int) := fun w hw => (jn_bd hG ((cm w).1 hw).1).2.1
 generalize com N Es ((u : Int), (v : Int)) = T at *
 clear eC cm
 obtain ⟨p, hp⟩ : ∃ p, b * (T.length : Int) = p := ⟨_, rfl⟩
 have pb : -64 <= p /\ p <= 64 := by rcases hb1 with rfl | rfl <;> omega
 have q0 : IntKind.i64.wrap p = p := wrap_id (by omega) (by omega)
 have q1 : IntKind.i64.wrap (C + p) = C + p := wrap_id (by omega) (by omega)
 have lp := ch_loop N (eds Es) (eds Fs) C (C + p) (ints Ns) u v b (by rcases hb1 with rfl | rfl <;> omega) T (by omega) cw T.length 0 Ns 100000000 (by omega) hN hb (by omega) (by omega)
 rw [List.drop_zero] at lp
 have fb := addAts_bd (b := b) (by rcases hb1 with rfl | rfl <;> omega) T Ns 100000000 (by omega) hb
 have fl := addAts_length b T Ns
 unfold chN
 rw [hp]
 generalize T.foldl (fun n w => addAt n w b) Ns = F at *
 have fb' : ∀ x ∈ F, -100000064 <= x /\ x <= 100000064 := fun x hx => by have := fb x hx; omega
 have sb := addAt_bd (w := (u : Int)) (b := p) (c := 64) fb' (by omega) pb
 have sl := addAt_length F (u : Int) p
 have stp : ∀ (n : List Int) (w : Nat), n.length = N -> w < N -> (∀ x ∈ n, -100000200 <= x /\ x <= 100000200) -> (ints n)[w]? = some (.int .i64 (n.getD w 0)) /\ (∀ h, (ints n)[w]'h = .int .i64 (n.getD w 0)) /\ IntKind.i64.wrap (n.getD w 0 + p) = n.getD w 0 + p /\ (ints n).set w (.int .i64 (n.getD w 0 + p)) = ints (addAt n w p) /\ (ints n).length = N /\ (ints n).take N = ints n := by
  intro n w hl hw hx
  have g6 : (ints n)[w]? = some (.int .i64 (n.getD w 0)) := by rw [ints_get, List.getElem?_eq_getElem (by omega)]; simp [List.getD_eq_getElem?_getD, List.getElem?_eq_getElem (show w < n.length by omega)]
  have gb := getD_bd hx (by omega) w
  refine ⟨g6, fun h => ?_, wrap_id (by omega) (by omega), ?_, by rw [ints_length, hl], List.take_of_length_le (by rw [ints_length]; omega)⟩
  ·have := List.getElem?_eq_getElem (l := ints n) h
   rw [g6] at this
   exact (Option.some.inj this).symm
  ·unfold addAt
   rw [show ((w : Nat) : Int).toNat = w by omega]
   simp [ints, List.map_set]
 obtain ⟨s1, s2, s3, s4, s5, s6⟩ := stp F u (by omega) hu fun x hx => by have := fb' x hx; omega
 obtain ⟨r1, r2, r3, r4, r5, r6⟩ := stp (addAt F (u : Int) p) v (by omega) hv fun x hx => by have := sb x hx; omega
 have z5 : (ints (addAt (addAt F (u : Int) p) (v : Int) p)).length = N := by rw [ints_length, addAt_length, addAt_length]; omega
 have z6 : (ints (addAt (addAt F (u : Int) p) (v : Int) p)).take N = ints (addAt (addAt F (u : Int) p) (v : Int) p) := List.take_of_length_le (by omega)
 have gT := ints_length T
 have gN : (ints Ns).length = N := by rw [ints_length, hN]
 have tkN : (ints Ns).take N = ints Ns := List.take_of_length_le (by omega)
 have ui : (u : Int) < N := by omega
 have vi : (v : Int) < N := by omega
 unfold chSt at lp
 rw [nat0] at lp
 rw [callL_end oTrianglesChanged sTrianglesChanged (Nat.le_of_ble_eq_true rfl)]
 unfold qTrianglesChanged cTrianglesChanged triAV
 clear fb fb' sb stp at' cw hb hb1
 generalize addAt (addAt F (u : Int) p) (v : Int) p = F3 at *
 generalize (addAt F (u : Int) p).getD v 0 = zv at *
 generalize addAt F (u : Int) p = F2 at *
 generalize F.getD u 0 = zu at *
 generalize ints F3 = I3 at *
 generalize ints F2 = I2 at *
 generalize ints F = I1 at *
 generalize ints Ns = I0 at *
 generalize ints T = TT at *
 generalize ints (nbr N Es u) = NU at *
 generalize ints (nbr N Es v) = NV at *
 generalize llT (lstE N Es) = LL at *
 generalize eds Fs = Y2 at *
 generalize eds Es = Y at *
 simp [rTrianglesChangedX0, rTrianglesChangedX1, rTrianglesChangedX2, rTrianglesChangedX3, rTrianglesChangedX4, rTrianglesChangedX5, rTrianglesChangedX6, rTrianglesChangedX7, rTrianglesChangedX8, rTrianglesChangedX9, rTrianglesChangedX10, rTrianglesChangedX11, lr, a1, a2, a1', a2', ll, sh, cl, cN, hp, q0, q1, lp, s1, s2, s3, s4, s5, s6, r1, r2, r3, r4, r5, r6, z5, z6, gT, gN, tkN, ui, vi, hu, hv, idx, sTrianglesLists, iTrianglesLists, lTrianglesLists, eTrianglesLists, sTrianglesSharedInt, iTrianglesSharedInt, lTrianglesSharedInt, eTrianglesSharedInt, sSlicesCloneIntInt, iSlicesCloneIntInt, lSlicesCloneIntInt, eSlicesCloneIntInt, blk, plp, plpL, allB, notBox, swC, swS, seesC, inBox, plL, pl, relB, handBox, mvBB, mvRtB, endL, finB, finS]
end Go.BmP
