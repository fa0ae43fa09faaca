/- What partition.Check, check and home return for a plan that is in order. -/
import Derived.Test.YtkhnplbbngkjkaaUseM
import Derived.Test.YtkhnplbbngkjkaaK01
import Derived.Test.YtkhnplbbngkjkaaK04
set_option linter.unusedSimpArgs false
set_option linter.unusedVariables false
set_option maxRecDepth 100000
set_option maxHeartbeats 4000000
namespace Go.BmP
open Go.Am Go.Bm
def hP (N : Nat) (Y : List AV) (w : Nat) (O Hv : List AV) : Heap := [some [.int .i64 N, .list 2 Y], some [.int .i64 w, .list 1 O, .list 1 Hv], some [.int .i64 w, .list 1 O, .list 1 Hv]]
theorem check1_run (N : Nat) (Y : List AV) (w : Nat) (O Hv : List AV) (x : Int) (h : 0 <= x /\ x < (w : Int)) : callL cfgS nQS [.int .i64 x, .ptr 2 0] (hP N Y w O Hv) = some (.bool false, hP N Y w O Hv) := by
 have h1 : ¬ x < 0 := by omega
 have h2 : ¬ (w : Int) <= x := by omega
 rw [callL_end oQS sQS (Nat.le_of_ble_eq_true rfl)]
 unfold qQS cQS hP
 simp [rQSX0, rQSX1, h1, h2, blk, plp, plpL, allB, notBox, swC, swS, seesC, inBox, finS, endL, finB]
def ifSt (N : Nat) (Y : List AV) (w : Nat) (o : List Int) (Hv : List AV) (i : Nat) (J : Env) : St := ⟨(0, .list 1 (ints o)) :: (1, .func (.func nQS) [] [.ptr 2 0]) :: (7, .int .i64 o.length) :: (8, .int .i64 i) :: J, hP N Y w (ints o) Hv⟩
theorem if_loop (N : Nat) (Y : List AV) (w : Nat) (o : List Int) (Hv : List AV) (hl : o.length < 4294967295) (h : ∀ x ∈ o, 0 <= x /\ x < (w : Int)) : ∀ (k i : Nat), i + k = o.length -> codeL cfgS 3 (.loop lQMX0) (ifSt N Y w o Hv i []) = some (.exit 0, ifSt N Y w o Hv o.length [(9, .bool false)])
 | 0, i, hi => by
   obtain rfl : i = o.length := by omega
   refine loop_exit ?_
   unfold ifSt lQMX0 hP
   generalize ints o = C at *
   simp [rQMX0, rQMX1, rQMX2, rQMX3, rQMX4, rQMX5, rQMX6, rQMX7]
 | k + 1, i, hi => by
   have hlt : i < o.length := by omega
   refine (loop_next ?_).trans (if_loop N Y w o Hv hl h k (i + 1) (by omega))
   have k1 : (i : Int) < o.length := by omega
   have hw := wrapS (i := i) (by omega)
   have m := check1_run N Y w (ints o) Hv o[i] (h _ (List.getElem_mem hlt))
   have g3 : (ints o)[i]? = some (.int .i64 o[i]) := by rw [ints_get, List.getElem?_eq_getElem hlt]; rfl
   have g4 : ∀ h, (ints o)[i]'h = .int .i64 o[i] := fun h => intsAt ..
   have g5 := ints_length o
   generalize o[i] = x at *
   unfold hP at m
   unfold ifSt lQMX0 hP
   generalize ints o = C at *
   simp [rQMX0, rQMX1, rQMX2, rQMX3, rQMX4, rQMX5, rQMX6, rQMX7, k1, hlt, hw, m, g3, g4, g5, idx, sQS, iQS, yQS, lQS, eQS, plp, plpL, allB, notBox, swC, swS, seesC, inBox, blk]
theorem containsP_run (N : Nat) (Y : List AV) (w : Nat) (o : List Int) (Hv : List AV) (hl : o.length < 4294967295) (h : ∀ x ∈ o, 0 <= x /\ x < (w : Int)) : callL cfgS nQR [.list 1 (ints o), .func (.func nQS) [] [.ptr 2 0]] (hP N Y w (ints o) Hv) = some (.bool false, hP N Y w (ints o) Hv) := by
 have ix : callL cfgS nQM [.list 1 (ints o), .func (.func nQS) [] [.ptr 2 0]] (hP N Y w (ints o) Hv) = some (.int .i64 (-1), hP N Y w (ints o) Hv) := by
  have lp := if_loop N Y w o Hv hl h o.length 0 (by omega)
  rw [callL_end oQM sQM (Nat.le_of_ble_eq_true rfl)]
  unfold ifSt hP at lp
  rw [nat0] at lp
  unfold qQM cQM hP
  have g5 := ints_length o
  generalize ints o = C at *
  simp [rQMX0, rQMX1, rQMX2, rQMX3, rQMX4, rQMX5, rQMX6, rQMX7, lp, g5, blk, plp, plpL, allB, notBox, swC, swS, seesC, inBox, finS, endL, finB]
 rw [callL_end oQR sQR (Nat.le_of_ble_eq_true rfl)]
 unfold hP at ix
 unfold qQR cQR hP
 generalize ints o = C at *
 simp [rQRX0, rQRX1, ix, blk, sQM, iQM, yQM, lQM, eQM, plp, plpL, allB, notBox, swC, swS, seesC, inBox, finS, endL, finB]
theorem workers_run {w : Nat} (h0 : 1 <= w) (h1 : w <= 8) : callL cfgS nQz [.int .i64 w] [] = some (.bool true, []) := by
 have k1 : (1 : Int) <= (w : Int) := by omega
 have k2 : (w : Int) <= 8 := by omega
 rw [callL_end oQz sQz (Nat.le_of_ble_eq_true rfl)]
 unfold qQz cQz
 simp [rQzX0, rQzX1, k1, k2, h0, h1, blk, endL, finB]
theorem chkN34_run (N : Nat) (Y : List AV) (w : Nat) (h0 : 1 <= w) (h1 : w <= 8) (o hv : List Int) (ho : o.length = N) (hN : N < 1000000) (h : ∀ x ∈ o, 0 <= x /\ x < (w : Int)) (hh : hv.length < 1000000) (hV : valGo N (-1) hv = true) : callL cfgS nQI [.agg [.int .i64 w, .list 1 (ints o), .list 1 (ints hv)], .int .i64 N] [some [.int .i64 N, .list 2 Y], some [.int .i64 w, .list 1 (ints o), .list 1 (ints hv)]] = some (.int .i64 0, [some [.int .i64 N, .list 2 Y], some [.int .i64 w, .list 1 (ints o), .list 1 (ints hv)]]) := by
 have c := containsP_run N Y w o (ints hv) (by omega) h
 have v := nvalid_run N hv (by omega)
 rw [hV] at v
 have wk := workers_run h0 h1
 have g5 : (ints o).length = N := by rw [ints_length, ho]
 unfold hP at c
 generalize ints o = O at *
 generalize ints hv = Hv at *
 rw [callL_end oQI sQI (Nat.le_of_ble_eq_true rfl)]
 unfold qQI cQI
 simp [rQIX0, rQIX1, rQIX2, rQIX3, rQIX4, rQIX5, rQIX6, rQIX7, c, v, wk, g5, blk, sQR, iQR, yQR, lQR, eQR, sQQ, iQQ, yQQ, lQQ, eQQ, sQz, iQz, yQz, lQz, eQz, plp, plpL, allB, notBox, swC, swS, seesC, inBox, finS, endL, finB]
theorem pcheck_run (N : Nat) (Es : List Ed) (hG : GOK (N : Int) Es) (hE : Es.length < 1000000) (w : Nat) (h0 : 1 <= w) (h1 : w <= 8) (o hv : List Int) (ho : o.length = N) (h : ∀ x ∈ o, 0 <= x /\ x < (w : Int)) (hh : hv.length < 1000000) (hV : valGo N (-1) hv = true) : callL cfgS nQs [.agg [.int .i64 N, .list 2 (eds Es)], .agg [.int .i64 w, .list 1 (ints o), .list 1 (ints hv)]] [] = some (.int .i64 0, []) := by
 have hN := hG.1
 have g := gchk_run N Es (by omega)
 rw [chkG_zero.2 hG] at g
 have c := chkN34_run N (eds Es) w h0 h1 o hv ho (by omega) h hh hV
 generalize ints o = O at *
 generalize ints hv = Hv at *
 generalize eds Es = Y at *
 rw [callL_end oQs sQs (Nat.le_of_ble_eq_true rfl)]
 unfold qQs cQs
 simp [rQsX0, rQsX1, rQsX2, rQsX3, rQsX4, g, c, blk, sQJ, iQJ, yQJ, lQJ, eQJ, sQI, iQI, yQI, lQI, eQI, plp, plpL, allB, notBox, swC, swS, seesC, inBox, plL, pl, finS, endL, finB]
end Go.BmP
/- What field.Numbers, partition.home and Loads return. -/
set_option linter.unusedSimpArgs false
set_option linter.unusedVariables false
set_option maxRecDepth 100000
set_option maxHeartbeats 4000000
namespace Go.BmP
open Go.Am Go.Bm
theorem num_loop (l : List Int) (hl : l.length <= 500) (N : Nat) (hN : N <= 64) (k : Int) (hk : 1 <= k /\ k < 1000) (R : Heap) (hR : Rest R) : ∀ (m v a : Nat) (o : List Int), v + m = N -> o.length = v -> (∀ x ∈ o, 0 <= x /\ x < k) -> ∃ o' a', codeL cfgS (R.length + 1) (.loop lQqX0) ⟨[(0, .ptr 0 0), (1, .int .i64 N), (2, .int .i64 k), (7, .own 1 (ints o)), (8, .int .i64 v)], dk l a :: R⟩ = some (.exit 0, ⟨[(0, .ptr 0 0), (1, .int .i64 N), (2, .int .i64 k), (7, .own 1 (ints o')), (8, .int .i64 N), (11, .bool false)], dk l a' :: R⟩) /\ (o'.length = N /\ ∀ x ∈ o', 0 <= x /\ x < k)
 | 0, v, a, o, hi, ho, hb => by
   obtain rfl : v = N := by omega
   exact ⟨o, a, loop_exit (by unfold lQqX0 dk; simp [rQqX0, rQqX1, rQqX2, rQqX3, rQqX4, rQqX5, rQqX6, nle1, blk, eds_length, eds_get, edsAt, edAV, allLeaf_eds, cleanL_eds, cleanL_ints, ints_length, ints_get, intsAt, endL, finB]), ho, hb⟩
 | m + 1, v, a, o, hi, ho, hb => by
   have h1 : (v : Int) < N := by omega
   have hw := wrapS (i := v) (by omega)
   have hL : o.length + 1 <= 4294967296 := by omega
   have hx := next_run l hl a k (by omega) R hR
   have bd := nxV_bd l a (n := k) (by omega)
   obtain ⟨r1, r2, r3, r4, r5⟩ := hR
   unfold dk at hx
   obtain ⟨o', a', e, p⟩ := num_loop l hl N hN k hk R ⟨r1, r2, r3, r4, r5⟩ m (v + 1) (nxA l a k) (o ++ [nxV l a k]) (by omega) (by simp; omega) (fun x hx => by
    rcases List.mem_append.1 hx with hx | hx
    ·exact hb x hx
    ·simp at hx; subst hx; exact bd)
   exact ⟨o', a', (loop_next (by unfold lQqX0 dk; simp [rQqX0, rQqX1, rQqX2, rQqX3, rQqX4, rQqX5, rQqX6, h1, hw, hL, hx, LIM, ints_snoc, ints_take, sQn, iQn, yQn, lQn, eQn, r1, r2, r3, r4, r5, plp, plpL, allB, notBox, swC, seesC, inBox, nle1, blk, eds_length, eds_get, edsAt, edAV, allLeaf_eds, cleanL_eds, cleanL_ints, ints_length, ints_get, intsAt, endL, finB])).trans e, p⟩
theorem numbers_run (l : List Int) (hl : l.length <= 500) (N : Nat) (hN : N <= 64) (k : Int) (hk : 1 <= k /\ k < 1000) (R : Heap) (hR : Rest R) (a : Nat) : ∃ o a', callL cfgS nQq [.ptr 0 0, .int .i64 N, .int .i64 k] (dk l a :: R) = some (.list 1 (ints o), dk l a' :: R) /\ (o.length = N /\ ∀ x ∈ o, 0 <= x /\ x < k) := by
 obtain ⟨o, a', e, p⟩ := num_loop l hl N hN k hk R hR N 0 a [] (by omega) rfl (by simp)
 refine ⟨o, a', ?_, p⟩
 rw [nat0, ints_nil] at e
 obtain ⟨r1, r2, r3, r4, r5⟩ := hR
 rw [callL_end oQq sQq (Nat.le_of_ble_eq_true rfl)]
 unfold dk at e ⊢
 have tk : (ints o).take o.length = ints o := by rw [ints_take, List.take_length]
 unfold qQq cQq
 simp [rQqX0, rQqX1, rQqX2, rQqX3, rQqX4, rQqX5, rQqX6, e, tk, r1, r2, r3, r4, r5, plp, plpL, allB, notBox, swC, swS, seesC, inBox, finS, nle1, blk, eds_length, eds_get, edsAt, edAV, allLeaf_eds, cleanL_eds, cleanL_ints, ints_length, ints_get, intsAt, endL, finB]
def bump (n : List Int) (w : Int) : List Int := n.set w.toNat (n.getD w.toNat 0 + 1)
theorem bump_length (n : List Int) (w : Int) : (bump n w).length = n.length := by simp [bump]
theorem bump_bd {n : List Int} {w : Int} {k : Int} (hk : 0 <= k) (h : ∀ x ∈ n, 0 <= x /\ x <= k) : ∀ x ∈ bump n w, 0 <= x /\ x <= k + 1 := by
 intro x hx
 rcases List.mem_or_eq_of_mem_set hx with e | e
 ·have := h x e; omega
 ·subst e
  rw [List.getD_eq_getElem?_getD]
  cases hn : n[w.toNat]? with
  | none => simp; omega
  | some y => have := h y (List.mem_of_getElem? hn); simp; omega
theorem bumps_length : ∀ (S n : List Int), (S.foldl bump n).length = n.length
 | [], n => rfl
 | w :: r, n => by rw [List.foldl_cons, bumps_length r, bump_length]
theorem bumps_bd : ∀ (S n : List Int) (k : Int), 0 <= k -> (∀ x ∈ n, 0 <= x /\ x <= k) -> ∀ x ∈ S.foldl bump n, 0 <= x /\ x <= k + S.length
 | [], n, k, hk, h => by simpa using h
 | w :: r, n, k, hk, h => by
   intro x hx
   rw [List.foldl_cons] at hx
   have := bumps_bd r (bump n w) (k + 1) (by omega) (bump_bd hk h) x hx
   simp only [List.length_cons]
   omega
def hmV (w : Nat) (o hv : List Int) (u v : Nat) : Int := if (u : Int) ∈ hv then (if (v : Int) ∈ hv then (((u + v) % w : Nat) : Int) else o.getD v 0) else o.getD u 0
theorem home_run {w : Nat} (h0 : 1 <= w) (o hv : List Int) (hh : hv.length < 1000000) {u v : Nat} (hu : u < o.length) (hv' : v < o.length) (ho : o.length < 1000000) : callL cfgS nQt [.agg [.int .i64 w, .list 1 (ints o), .list 1 (ints hv)], .int .i64 u, .int .i64 v] [] = some (.int .i64 (hmV w o hv u v), []) := by
 have a1 := nhas_run (u : Int) hv (by omega)
 have a2 := nhas_run (v : Int) hv (by omega)
 have at_ : ∀ j : Nat, j < o.length -> (ints o)[j]? = some (.int .i64 (o.getD j 0)) := fun j hj => by
  rw [ints_get, List.getElem?_eq_getElem hj]; simp [List.getD_eq_getElem?_getD, List.getElem?_eq_getElem hj]
 have g1 := at_ u hu
 have g2 := at_ v hv'
 have gg : ∀ (j : Nat) (x : AV), (ints o)[j]? = some x -> ∀ h, (ints o)[j]'h = x := fun j x e h => by
  have := List.getElem?_eq_getElem (l := ints o) h
  rw [e] at this
  exact (Option.some.inj this).symm
 have g1' := gg _ _ g1
 have g2' := gg _ _ g2
 have g5 := ints_length o
 have k1 : (u : Int) < o.length := by omega
 have k2 : (v : Int) < o.length := by omega
 have w1 : IntKind.i64.wrap ((u : Int) + (v : Int)) = ((u + v : Nat) : Int) := by rw [<- Int.natCast_add]; exact wrap_id (by omega) (by omega)
 have w2 : ((u + v : Nat) : Int).tmod w = (((u + v) % w : Nat) : Int) := (Int.ofNat_tmod _ _).symm
 have w3 : ¬ (w : Int) = 0 := by omega
 have w4 : ¬ w = 0 := by omega
 clear at_ gg
 unfold hmV
 generalize ((u + v : Nat) : Int) = uv at *
 generalize (((u + v) % w : Nat) : Int) = md at *
 generalize o.getD u 0 = x at *
 generalize o.getD v 0 = y at *
 rw [callL_end oQt sQt (Nat.le_of_ble_eq_true rfl)]
 unfold qQt cQt
 by_cases b1 : (u : Int) ∈ hv
 ·rw [if_pos b1]
  rw [decide_eq_true b1] at a1
  by_cases b2 : (v : Int) ∈ hv
  ·rw [if_pos b2]
   rw [decide_eq_true b2] at a2
   generalize ints o = O at *
   generalize ints hv = Hv at *
   simp [rQtX0, rQtX1, rQtX2, rQtX3, rQtX4, rQtX5, rQtX6, a1, a2, w1, w2, w3, w4, hu, hv', k1, k2, g1, g2, g1', g2', g5, idx, blk, sQK, iQK, yQK, lQK, eQK, plL, pl, endL, finB]
  ·rw [if_neg b2]
   rw [decide_eq_false b2] at a2
   generalize ints o = O at *
   generalize ints hv = Hv at *
   simp [rQtX0, rQtX1, rQtX2, rQtX3, rQtX4, rQtX5, rQtX6, a1, a2, w1, w2, w3, w4, hu, hv', k1, k2, g1, g2, g1', g2', g5, idx, blk, sQK, iQK, yQK, lQK, eQK, plL, pl, endL, finB]
 ·rw [if_neg b1]
  rw [decide_eq_false b1] at a1
  generalize hq : decide ((v : Int) ∈ hv) = bb at *
  generalize ints o = O at *
  generalize ints hv = Hv at *
  cases bb
  ·simp [rQtX0, rQtX1, rQtX2, rQtX3, rQtX4, rQtX5, rQtX6, a1, a2, w1, w2, w3, w4, hu, hv', k1, k2, g1, g2, g1', g2', g5, idx, blk, sQK, iQK, yQK, lQK, eQK, plL, pl, endL, finB]
  ·simp [rQtX0, rQtX1, rQtX2, rQtX3, rQtX4, rQtX5, rQtX6, a1, a2, w1, w2, w3, w4, hu, hv', k1, k2, g1, g2, g1', g2', g5, idx, blk, sQK, iQK, yQK, lQK, eQK, plL, pl, endL, finB]
def ldSt (N w : Nat) (Es : List Ed) (o hv n : List Int) (i : Nat) (J : Env) : St := ⟨(3, .ptr 1 0) :: (7, .own 1 (ints n)) :: (20, .list 2 (eds Es)) :: (21, .int .i64 Es.length) :: (22, .int .i64 i) :: J, [some [.int .i64 N, .list 2 (eds Es)], some [.int .i64 w, .list 1 (ints o), .list 1 (ints hv)]]⟩
theorem hmV_bd {w : Nat} (h0 : 1 <= w) {o hv : List Int} (h : ∀ x ∈ o, 0 <= x /\ x < (w : Int)) {u v : Nat} (hu : u < o.length) (hv' : v < o.length) : 0 <= hmV w o hv u v /\ hmV w o hv u v < (w : Int) := by
 have at_ : ∀ j : Nat, j < o.length -> o.getD j 0 ∈ o := fun j hj => by rw [List.getD_eq_getElem?_getD, List.getElem?_eq_getElem hj]; exact List.getElem_mem hj
 unfold hmV
 split
 ·split
  ·have := Nat.mod_lt (u + v) (show w > 0 by omega); omega
  ·exact h _ (at_ v hv')
 ·exact h _ (at_ u hu)
theorem ld_round {N w : Nat} (h0 : 1 <= w) (Es : List Ed) (hE : Es.length < 1000000) (o hv n : List Int) (ho : o.length = N) (hN : N <= 64) (hh : hv.length < 1000000) (hb : ∀ x ∈ o, 0 <= x /\ x < (w : Int)) (hn : n.length = w) (hx : ∀ x ∈ n, 0 <= x /\ x < 4294967295) (i : Nat) (hi : i < Es.length) (he : 0 <= Es[i].1 /\ Es[i].1 < Es[i].2 /\ Es[i].2 < (N : Int)) :
  codeL cfgS 0 lQlX0 (ldSt N w Es o hv n i []) = some (.normal, ldSt N w Es o hv (bump n (hmV w o hv Es[i].1.toNat Es[i].2.toNat)) (i + 1) []) := by
 obtain ⟨u, hu⟩ : ∃ u : Nat, Es[i].1 = u := ⟨Es[i].1.toNat, by omega⟩
 obtain ⟨v, hv2⟩ : ∃ v : Nat, Es[i].2 = v := ⟨Es[i].2.toNat, by omega⟩
 rw [hu, hv2, show ((u : Int)).toNat = u by omega, show ((v : Int)).toNat = v by omega]
 have hm := home_run h0 o hv hh (u := u) (v := v) (by omega) (by omega) (by omega)
 have hd := hmV_bd h0 (hv := hv) hb (u := u) (v := v) (by omega) (by omega)
 have k1 : (i : Int) < Es.length := by omega
 have hw := wrapS (i := i) (by omega)
 have g3 : (eds Es)[i]? = some (.agg [.int .i64 u, .int .i64 v]) := by rw [eds_get, List.getElem?_eq_getElem hi]; simp [edAV, hu, hv2]
 have g4 : ∀ h, (eds Es)[i]'h = .agg [.int .i64 u, .int .i64 v] := fun h => by
  have := List.getElem?_eq_getElem (l := eds Es) h
  rw [g3] at this
  exact (Option.some.inj this).symm
 have g5 := eds_length Es
 obtain ⟨x, hxx⟩ : ∃ x : Nat, hmV w o hv u v = x := ⟨(hmV w o hv u v).toNat, by omega⟩
 rw [hxx] at hm hd ⊢
 have lx : x < n.length := by omega
 have k2 : (x : Int) < n.length := by omega
 have hq := hx n[x] (List.getElem_mem lx)
 have hn1 : IntKind.i64.wrap (n[x] + 1) = n[x] + 1 := wrap_id (by omega) (by omega)
 have b1 : (ints n).set x (.int .i64 (n[x] + 1)) = ints (bump n x) := by
  unfold bump
  rw [show ((x : Int)).toNat = x by omega, List.getD_eq_getElem?_getD, List.getElem?_eq_getElem lx]
  simp [ints, List.map_set]
 have g6 : (ints n)[x]? = some (.int .i64 n[x]) := by rw [ints_get, List.getElem?_eq_getElem lx]; rfl
 have g7 : ∀ h, (ints n)[x]'h = .int .i64 n[x] := fun h => intsAt ..
 have g8 := ints_length n
 generalize bump n x = n2 at *
 generalize n[x] = z at *
 unfold ldSt lQlX0
 generalize ints n = NN at *
 generalize ints n2 = N2 at *
 generalize ints o = O at *
 generalize ints hv = Hv at *
 generalize eds Es = Y at *
 simp [rQlX0, rQlX1, rQlX2, rQlX3, rQlX4, rQlX5, rQlX6, rQlX7, rQlX8, rQlX9, rQlX10, k1, k2, hi, hw, hm, g3, g4, g5, hn1, b1, g6, g7, g8, lx, idx, blk, sQt, iQt, yQt, lQt, eQt]
end Go.BmP
/- What partition.Loads returns; a star. -/
set_option linter.unusedSimpArgs false
set_option linter.unusedVariables false
set_option maxRecDepth 100000
set_option maxHeartbeats 4000000
namespace Go.BmP
open Go.Am Go.Bm
def hmE (w : Nat) (o hv : List Int) (e : Ed) : Int := hmV w o hv e.1.toNat e.2.toNat
theorem ld_loop {N w : Nat} (h0 : 1 <= w) (Es : List Ed) (hE : Es.length < 1000000) (o hv : List Int) (ho : o.length = N) (hN : N <= 64) (hh : hv.length < 1000000) (hb : ∀ x ∈ o, 0 <= x /\ x < (w : Int)) (he : ∀ e ∈ Es, 0 <= e.1 /\ e.1 < e.2 /\ e.2 < (N : Int)) : ∀ (k i : Nat) (n : List Int), i + k = Es.length -> n.length = w -> (∀ x ∈ n, 0 <= x /\ x <= (i : Int)) ->
  codeL cfgS 0 (.loop lQlX0) (ldSt N w Es o hv n i []) = some (.exit 0, ldSt N w Es o hv (((Es.drop i).map (hmE w o hv)).foldl bump n) Es.length [(23, .bool false)])
 | 0, i, n, hi, hn, hx => by
   obtain rfl : i = Es.length := by omega
   rw [List.drop_length, List.map_nil, List.foldl_nil]
   refine loop_exit ?_
   unfold ldSt lQlX0
   generalize ints n = NN at *
   generalize ints o = O at *
   generalize ints hv = Hv at *
   generalize eds Es = Y at *
   simp [rQlX0, rQlX1, rQlX2, rQlX3, rQlX4, rQlX5, rQlX6, rQlX7, rQlX8, rQlX9, rQlX10]
 | k + 1, i, n, hi, hn, hx => by
   have hlt : i < Es.length := by omega
   rw [List.drop_eq_getElem_cons hlt, List.map_cons, List.foldl_cons]
   have ih := ld_loop h0 Es hE o hv ho hN hh hb he k (i + 1) (bump n (hmE w o hv Es[i])) (by omega) (by rw [bump_length]; exact hn) (fun x hx' => by have := bump_bd (k := (i : Int)) (by omega) hx x hx'; omega)
   exact (loop_next (ld_round h0 Es hE o hv n ho hN hh hb hn (fun x hx' => by have := hx x hx'; omega) i hlt (he _ (List.getElem_mem hlt)))).trans ih
def ldV (w : Nat) (o hv : List Int) (Es : List Ed) : List Int := (Es.map (hmE w o hv)).foldl bump (List.replicate w 0)
theorem loads_run {N w : Nat} (h0 : 1 <= w) (h1 : w <= 8) {Es : List Ed} (hG : GOK (N : Int) Es) (hE : Es.length < 1000000) (o hv : List Int) (ho : o.length = N) (hh : hv.length < 1000000) (hV : valGo N (-1) hv = true) (hb : ∀ x ∈ o, 0 <= x /\ x < (w : Int)) : callL cfgS nQl [.agg [.int .i64 N, .list 2 (eds Es)], .agg [.int .i64 w, .list 1 (ints o), .list 1 (ints hv)]] [] = some (.tup [.list 1 (ints (ldV w o hv Es)), .int .i64 0], []) := by
 have hN := hG.1
 have ck := pcheck_run N Es hG hE w h0 h1 o hv ho hb hh hV
 have lp := ld_loop h0 Es hE o hv ho (by omega) hh hb hG.2.2 Es.length 0 (List.replicate w 0) (by omega) (by simp) (fun x hx => by rw [List.eq_of_mem_replicate hx]; omega)
 rw [List.drop_zero] at lp
 have eL : (Es.map (hmE w o hv)).foldl bump (List.replicate w 0) = ldV w o hv Es := rfl
 rw [eL] at lp
 have ln : (ldV w o hv Es).length = w := by rw [ldV, bumps_length, List.length_replicate]
 have h0i : (w : Int) <= 4294967296 := by omega
 have h0n : w <= 4294967296 := by omega
 have h00 : (0 : Int) <= (w : Int) := by omega
 have rp : List.replicate w (AV.int .i64 0) = ints (List.replicate w 0) := by simp [ints]
 have tk : List.take w (ints (ldV w o hv Es)) = ints (ldV w o hv Es) := List.take_of_length_le (by rw [ints_length, ln]; omega)
 have tk0 : List.take w (ints (List.replicate w 0)) = ints (List.replicate w 0) := List.take_of_length_le (by rw [ints_length, List.length_replicate]; omega)
 have g5 := eds_length Es
 have g6 : (ints (ldV w o hv Es)).length = w := by rw [ints_length, ln]
 have g7 : (ints (List.replicate w 0)).length = w := by rw [ints_length, List.length_replicate]
 unfold ldSt at lp
 rw [nat0] at lp
 rw [callL_end oQl sQl (Nat.le_of_ble_eq_true rfl)]
 unfold qQl cQl
 generalize ints (ldV w o hv Es) = tN at *
 generalize ints (List.replicate w 0) = t0 at *
 generalize ints o = O at *
 generalize ints hv = Hv at *
 generalize eds Es = Y at *
 simp [rQlX0, rQlX1, rQlX2, rQlX3, rQlX4, rQlX5, rQlX6, rQlX7, rQlX8, rQlX9, rQlX10, ck, lp, h0i, h0n, h00, rp, tk, tk0, g5, g6, g7, LIM, blk, sQs, iQs, yQs, lQs, eQs, plL, pl, endL, finB]
def stE (m : Nat) : List Ed := (List.range m).map fun i => ((0 : Int), ((i + 1 : Nat) : Int))
end Go.BmP
