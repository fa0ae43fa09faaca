/- What the reference counts: ref03 Common, ref29 Nodes, Count. -/
import Derived.Test.YtmjjimilhllnoaaGreatDoorUseM
import Derived.Test.YtmjjimilhllnoaaGreatDoorTriQ
import Derived.Test.YtmjjimilhllnoaaGreatDoorT05
import Derived.Test.YtmjjimilhllnoaaGreatDoorT06
set_option linter.unusedSimpArgs false
set_option linter.unusedVariables false
set_option maxRecDepth 100000
set_option maxHeartbeats 4000000
namespace Go.BmP
open Go.Am Go.Bm
theorem meet_com {N : Nat} {Es : List Ed} (hG : GOK (N : Int) Es) {u v : Int} (h : 0 <= u /\ u < N /\ 0 <= v /\ v < N) : meet (nbr N Es u) (nbr N Es v) = com N Es (u, v) := by
 refine up_ext (meet_spec _ _).1 (com_up hG (e := (u, v)) h) fun x => ?_
 rw [(meet_spec _ _).2, com_mem hG (e := (u, v)) h, nbr_mem hG h.1 h.2.1, nbr_mem hG h.2.2.1 h.2.2.2]
theorem common_run {N : Nat} {Es : List Ed} (hG : GOK (N : Int) Es) (hE : Es.length < 1000000) {u v : Int} (h : 0 <= u /\ u < N /\ 0 <= v /\ v < N) (n : u ≠ v) : callL cfgS nQ5 [.agg [.int .i64 N, .list 2 (eds Es)], .int .i64 u, .int .i64 v] [] = some (.list 1 (ints (com N Es (u, v))), []) := by
 have hN := hG.1
 have nu := neighbours_run hG hE h.1 h.2.1
 have nv := neighbours_run hG hE h.2.2.1 h.2.2.2
 have l1 := nbr_len hG h.1 h.2.1
 have l2 := nbr_len hG h.2.2.1 h.2.2.2
 have mt := meet_run (nbr N Es u) (nbr N Es v) (by omega) (by omega)
 rw [meet_com hG h] at mt
 rw [callL_end oQ5 sQ5 (Nat.le_of_ble_eq_true rfl)]
 unfold qQ5 cQ5
 generalize eds Es = Y at *
 generalize ints (nbr N Es u) = a at *
 generalize ints (nbr N Es v) = b at *
 generalize ints (com N Es (u, v)) = c at *
 simp [rQ5X0, rQ5X1, rQ5X2, rQ5X3, nu, nv, mt, n, blk, sQE, iQE, sQb2, iQb2, plL, pl, endL, finB]
def ri29 (N : Nat) (Y : List AV) (n : List Int) (i : Nat) (S : List Int) (j : Nat) (J : Env) : St := ⟨(1, .ptr 0 0) :: (5, .own 1 (ints n)) :: (6, .int .i64 i) :: (7, .list 1 (ints S)) :: (8, .int .i64 j) :: J, [some [.int .i64 N, .list 2 Y]]⟩
theorem ri_round (N : Nat) (Y : List AV) (n : List Int) (i : Nat) (S : List Int) (j : Nat) (hj : j < S.length) (hS : S.length < 4294967295) (hw : 0 <= S[j] /\ S[j] < (n.length : Int)) (hn : ∀ x ∈ n, 0 <= x /\ x < 4294967295) :
  codeL cfgS 0 lQMX0 (ri29 N Y n i S j []) = some (.normal, ri29 N Y (bump n S[j]) i S (j + 1) []) := by
 obtain ⟨w, ew⟩ : ∃ w : Nat, S[j] = w := ⟨S[j].toNat, by omega⟩
 have lw : w < n.length := by omega
 have k1 : (j : Int) < S.length := by omega
 have k2 : (w : Int) < n.length := by omega
 have hj1 := wrapS (i := j) (by omega)
 have hb := hn n[w] (List.getElem_mem lw)
 have hn1 : IntKind.i64.wrap (n[w] + 1) = n[w] + 1 := wrap_id (by omega) (by omega)
 have g3 : (ints S)[j]? = some (.int .i64 w) := by rw [ints_get, List.getElem?_eq_getElem hj]; simp [ew]
 have g4 : ∀ h, (ints S)[j]'h = .int .i64 w := fun h => by rw [intsAt]; rw [ew]
 have g5 := ints_length S
 have b1 : (ints n).set w (.int .i64 (n[w] + 1)) = ints (bump n S[j]) := by
  unfold bump
  rw [ew, show ((w : Int)).toNat = w by omega, List.getD_eq_getElem?_getD, List.getElem?_eq_getElem lw]
  simp [ints, List.map_set]
 have g6 : (ints n)[w]? = some (.int .i64 n[w]) := by rw [ints_get, List.getElem?_eq_getElem lw]; rfl
 have g7 : ∀ h, (ints n)[w]'h = .int .i64 n[w] := fun h => intsAt ..
 have g8 := ints_length n
 generalize bump n S[j] = n2 at *
 generalize n[w] = x at *
 unfold ri29 lQMX0
 generalize ints n = NN at *
 generalize ints S = SS at *
 generalize ints n2 = N2 at *
 simp [rQMX0, rQMX1, rQMX2, rQMX3, rQMX4, rQMX5, rQMX6, rQMX7, rQMX8, rQMX9, rQMX10, rQMX11, rQMX12, rQMX13, k1, k2, hj, hj1, hn1, g3, g4, g5, b1, g6, g7, g8, lw, idx, blk]
theorem ri_loop (M : Nat) (Y : List AV) (i : Nat) (S : List Int) (hS : S.length < 1000) (N : Nat) (hw : ∀ x ∈ S, 0 <= x /\ x < (N : Int)) (K : Int) (hK : 0 <= K /\ K < 1000000000) : ∀ (k j : Nat) (n : List Int), j + k = S.length -> n.length = N -> (∀ x ∈ n, 0 <= x /\ x <= K + j) ->
  codeL cfgS 0 (.loop lQMX0) (ri29 M Y n i S j []) = some (.exit 2, ri29 M Y ((S.drop j).foldl bump n) i S S.length [(41, .bool false)])
 | 0, j, n, hi, hn, hb => by
   obtain rfl : j = S.length := by omega
   rw [List.drop_length, List.foldl_nil]
   refine loop_exit ?_
   unfold ri29 lQMX0
   have g5 := ints_length S
   generalize ints n = NN at *
   generalize ints S = SS at *
   simp [rQMX0, rQMX1, rQMX2, rQMX3, rQMX4, rQMX5, rQMX6, rQMX7, rQMX8, rQMX9, rQMX10, rQMX11, rQMX12, rQMX13, g5, blk]
 | k + 1, j, n, hi, hn, hb => by
   have hlt : j < S.length := by omega
   rw [List.drop_eq_getElem_cons hlt, List.foldl_cons]
   have hx := hw _ (List.getElem_mem hlt)
   have ih := ri_loop M Y i S hS N hw K hK k (j + 1) (bump n S[j]) (by omega) (by rw [bump_length]; exact hn) (fun x hx => by have := bump_bd (k := K + j) (by omega) hb x hx; omega)
   exact (loop_next (ri_round M Y n i S j hlt (by omega) (by omega) (fun x hx => by have := hb x hx; omega))).trans ih
def ro29 (N : Nat) (Es : List Ed) (n : List Int) (i : Nat) (J : Env) : St := ⟨(1, .ptr 0 0) :: (5, .own 1 (ints n)) :: (6, .int .i64 i) :: J, [some [.int .i64 N, .list 2 (eds Es)]]⟩
theorem ro_loop {N : Nat} {Es : List Ed} (hG : GOK (N : Int) Es) (hE : Es.length < 1000000) : ∀ (k i : Nat) (n : List Int), i + k = Es.length -> n.length = N -> (∀ x ∈ n, 0 <= x /\ x <= (64 * i : Nat)) ->
  codeL cfgS 0 (.loop lQMX1) (ro29 N Es n i []) = some (.exit 0, ro29 N Es ((Es.drop i).foldl (fun n e => (com N Es e).foldl bump n) n) Es.length [(21, .bool false)])
 | 0, i, n, hi, hn, hb => by
   obtain rfl : i = Es.length := by omega
   rw [List.drop_length, List.foldl_nil]
   refine loop_exit ?_
   unfold ro29 lQMX1
   have g5 := eds_length Es
   generalize ints n = NN at *
   generalize eds Es = Y at *
   simp [rQMX0, rQMX1, rQMX2, rQMX3, rQMX4, rQMX5, rQMX6, rQMX7, rQMX8, rQMX9, rQMX10, rQMX11, rQMX12, rQMX13, g5, blk]
 | k + 1, i, n, hi, hn, hb => by
   have hlt : i < Es.length := by omega
   have he := hG.2.2 _ (List.getElem_mem hlt)
   have hN := hG.1
   have cl := com_len hG (e := Es[i]) (by omega)
   have cm := com_mem hG (e := Es[i]) (by omega)
   have cw : ∀ x ∈ com N Es Es[i], 0 <= x /\ x < (N : Int) := fun x hx => by
    have := (jn_bd hG ((cm x).1 hx).1).2.1; omega
   rw [List.drop_eq_getElem_cons hlt, List.foldl_cons]
   have ih := ro_loop hG hE k (i + 1) ((com N Es Es[i]).foldl bump n) (by omega) (by rw [bumps_length]; exact hn) (fun x hx => by have := bumps_bd _ _ (64 * i : Nat) (by omega) hb x hx; omega)
   refine (loop_next ?_).trans ih
   clear ih
   have lp := ri_loop N (eds Es) i (com N Es Es[i]) (by omega) N cw (64 * i : Nat) (by omega) (com N Es Es[i]).length 0 n (by omega) hn (fun x hx => by have := hb x hx; omega)
   rw [List.drop_zero] at lp
   have cr := common_run hG hE (u := Es[i].1) (v := Es[i].2) (by omega) (by omega)
   have k1 : (i : Int) < Es.length := by omega
   have hw := wrapS (i := i) (by omega)
   have g3 : (eds Es)[i]? = some (.agg [.int .i64 Es[i].1, .int .i64 Es[i].2]) := by rw [eds_get, List.getElem?_eq_getElem hlt]; simp [edAV]
   have g4 : ∀ h, (eds Es)[i]'h = .agg [.int .i64 Es[i].1, .int .i64 Es[i].2] := fun h => by
    have := List.getElem?_eq_getElem (l := eds Es) h
    rw [g3] at this
    exact (Option.some.inj this).symm
   have g5 := eds_length Es
   unfold ri29 at lp
   rw [nat0] at lp
   unfold ro29 lQMX1
   rw [show (Es[i].1, Es[i].2) = Es[i] from rfl] at cr
   generalize ints ((com N Es Es[i]).foldl bump n) = N2 at *
   generalize com N Es Es[i] = S at *
   generalize eds Es = Y at *
   generalize ints n = NN at *
   generalize ints S = SS at *
   generalize Es[i].1 = eu at *
   generalize Es[i].2 = ev at *
   simp [rQMX0, rQMX1, rQMX2, rQMX3, rQMX4, rQMX5, rQMX6, rQMX7, rQMX8, rQMX9, rQMX10, rQMX11, rQMX12, rQMX13, k1, hlt, hw, g3, g4, g5, cr, lp, idx, blk, sQ5, iQ5, plL, pl]
theorem nodes29_run {N : Nat} {Es : List Ed} (hG : GOK (N : Int) Es) (hE : Es.length < 1000000) : callL cfgS nQM [.agg [.int .i64 N, .list 2 (eds Es)]] [] = some (.tup [.list 1 (ints (triN N Es)), .int .i64 0], []) := by
 have hN := hG.1
 have g := rchk_run N Es (by omega)
 rw [chkG_zero.2 hG] at g
 have lp := ro_loop hG hE Es.length 0 (List.replicate N 0) (by omega) (by simp) (fun x hx => by rw [List.eq_of_mem_replicate hx]; omega)
 rw [List.drop_zero] at lp
 have eN : Es.foldl (fun n e => (com N Es e).foldl bump n) (List.replicate N 0) = triN N Es := rfl
 rw [eN] at lp
 have lnN := triN_length N Es
 have h0i : (N : Int) <= 4294967296 := by omega
 have h0 : N <= 4294967296 := by omega
 have rp : List.replicate N (AV.int .i64 0) = ints (List.replicate N 0) := by simp [ints]
 have tk : List.take N (ints (triN N Es)) = ints (triN N Es) := List.take_of_length_le (by rw [ints_length, lnN]; omega)
 have tk0 : List.take N (ints (List.replicate N 0)) = ints (List.replicate N 0) := List.take_of_length_le (by rw [ints_length, List.length_replicate]; omega)
 have g6 : (ints (triN N Es)).length = N := by rw [ints_length, lnN]
 have g7 : (ints (List.replicate N 0)).length = N := by rw [ints_length, List.length_replicate]
 unfold ro29 at lp
 rw [nat0] at lp
 rw [callL_end oQM sQM (Nat.le_of_ble_eq_true rfl)]
 unfold qQM cQM
 generalize ints (triN N Es) = tN at *
 generalize ints (List.replicate N 0) = t0 at *
 generalize eds Es = Y at *
 simp [rQMX0, rQMX1, rQMX2, rQMX3, rQMX4, rQMX5, rQMX6, rQMX7, rQMX8, rQMX9, rQMX10, rQMX11, rQMX12, rQMX13, g, lp, h0i, h0, rp, tk, tk0, g6, g7, LIM, blk, sQo, iQo, plL, pl, endL, finB]
theorem sbump_sum {n : List Int} {w : Int} (h0 : 0 <= w) (h1 : w < n.length) : (bump n w).sum = n.sum + 1 := by
 obtain ⟨k, rfl⟩ : ∃ k : Nat, w = k := ⟨w.toNat, by omega⟩
 unfold bump
 rw [show ((k : Int)).toNat = k by omega]
 have : ∀ (n : List Int) (k : Nat), k < n.length -> (n.set k (n.getD k 0 + 1)).sum = n.sum + 1 := by
  intro n
  induction n with
  | nil => intro k h; simp at h
  | cons a r ih =>
    intro k h
    cases k with
    | zero => simp; omega
    | succ k => have := ih k (by simpa using h); simp at this ⊢; omega
 exact this n k (by omega)
theorem sbumps_sum : ∀ {S n : List Int}, (∀ x ∈ S, 0 <= x /\ x < (n.length : Int)) -> (S.foldl bump n).sum = n.sum + S.length
 | [], n, _ => by simp
 | w :: r, n, h => by
   have hw := h w (by simp)
   rw [List.foldl_cons, sbumps_sum (fun x hx => by rw [bump_length]; exact h x (by simp [hx])), sbump_sum hw.1 hw.2]
   simp only [List.length_cons]; omega
theorem striN_sum {N : Nat} {Es : List Ed} (hG : GOK (N : Int) Es) : (triN N Es).sum = (triS N Es : Int) := by
 have : ∀ (l : List Ed) (n : List Int), (∀ e ∈ l, e ∈ Es) -> n.length = N -> (l.foldl (fun n e => (com N Es e).foldl bump n) n).sum = n.sum + ((l.map fun e => (com N Es e).length).sum : Nat) := by
  intro l
  induction l with
  | nil => intro n _ _; simp
  | cons e r ih =>
    intro n h hn
    have he := hG.2.2 e (h e (by simp))
    have cm := com_mem hG (e := e) (by omega)
    rw [List.foldl_cons, ih _ (fun x hx => h x (by simp [hx])) (by rw [bumps_length]; exact hn), sbumps_sum fun x hx => ?_, List.map_cons, List.sum_cons]
    ·omega
    ·have := (jn_bd hG ((cm x).1 hx).1).2.1; omega
 have h := this Es (List.replicate N 0) (fun _ h => h) (by simp)
 have z : ∀ k, (List.replicate k (0 : Int)).sum = 0 := by
  intro k
  induction k with
  | zero => rfl
  | succ j ihj => rw [List.replicate_succ, List.sum_cons, ihj]; rfl
 rw [z N, Int.zero_add] at h
 exact h
def rcSt (l : List Int) (e s : Int) (i : Nat) (J : Env) : St := ⟨(4, .list 1 (ints l)) :: (5, .int .i64 e) :: (6, .int .i64 s) :: (7, .int .i64 i) :: J, []⟩
theorem rc_loop (l : List Int) (hl : l.length < 1000) (e : Int) (hb : ∀ x ∈ l, 0 <= x /\ x <= 100000000) : ∀ (k i : Nat) (s : Int), i + k = l.length -> 0 <= s /\ s <= 100000000 * i -> codeL cfgS 0 (.loop lQwX0) (rcSt l e s i []) = some (.exit 0, rcSt l e (s + (l.drop i).sum) l.length [(16, .bool false)])
 | 0, i, s, hi, hs => by
   obtain rfl : i = l.length := by omega
   rw [List.drop_length, List.sum_nil, Int.add_zero]
   refine loop_exit ?_
   unfold rcSt lQwX0
   have g5 := ints_length l
   generalize ints l = L at *
   simp [rQwX0, rQwX1, rQwX2, rQwX3, rQwX4, rQwX5, rQwX6, rQwX7, g5]
 | k + 1, i, s, hi, hs => by
   have hlt : i < l.length := by omega
   have hx := hb _ (List.getElem_mem hlt)
   have ih := rc_loop l hl e hb k (i + 1) (s + l[i]) (by omega) (by omega)
   rw [List.drop_eq_getElem_cons hlt, List.sum_cons, <- Int.add_assoc]
   refine (loop_next ?_).trans ih
   clear ih
   have k1 : (i : Int) < l.length := by omega
   have hw := wrapS (i := i) (by omega)
   have w1 : IntKind.i64.wrap (s + l[i]) = s + l[i] := wrap_id (by omega) (by omega)
   have g3 : (ints l)[i]? = some (.int .i64 l[i]) := by rw [ints_get, List.getElem?_eq_getElem hlt]; rfl
   have g4 : ∀ h, (ints l)[i]'h = .int .i64 l[i] := fun h => intsAt ..
   have g5 := ints_length l
   unfold rcSt lQwX0
   generalize l[i] = x at *
   generalize ints l = L at *
   simp [rQwX0, rQwX1, rQwX2, rQwX3, rQwX4, rQwX5, rQwX6, rQwX7, k1, hlt, hw, w1, g3, g4, g5, idx]
theorem striS_bd {N : Nat} {Es : List Ed} (hG : GOK (N : Int) Es) : triS N Es <= 64 * Es.length := by
 unfold triS
 have hN := hG.1
 have : ∀ l : List Ed, (∀ e ∈ l, e ∈ Es) -> (l.map fun e => (com N Es e).length).sum <= 64 * l.length := by
  intro l
  induction l with
  | nil => intro _; simp
  | cons e r ih =>
    intro h
    have he := hG.2.2 e (h e (by simp))
    have := com_len hG (e := e) (by omega)
    have := ih fun x hx => h x (by simp [hx])
    simp only [List.map_cons, List.sum_cons, List.length_cons]
    omega
 exact this Es fun e h => h
theorem striN_bd {N : Nat} {Es : List Ed} (hG : GOK (N : Int) Es) : ∀ x ∈ triN N Es, 0 <= x /\ x <= (64 * Es.length : Nat) := by
 have hN := hG.1
 have : ∀ (l : List Ed) (n : List Int) (k : Nat), (∀ e ∈ l, e ∈ Es) -> (∀ x ∈ n, 0 <= x /\ x <= (k : Int)) -> ∀ x ∈ l.foldl (fun n e => (com N Es e).foldl bump n) n, 0 <= x /\ x <= ((k + 64 * l.length : Nat) : Int) := by
  intro l
  induction l with
  | nil => intro n k _ h; simpa using h
  | cons e r ih =>
    intro n k h hn x hx
    have he := hG.2.2 e (h e (by simp))
    have cl := com_len hG (e := e) (by omega)
    rw [List.foldl_cons] at hx
    have := ih _ (k + 64) (fun y hy => h y (by simp [hy])) (fun y hy => by have := bumps_bd _ _ (k : Int) (by omega) hn y hy; omega) x hx
    simp only [List.length_cons]
    omega
 intro x hx
 have := this Es (List.replicate N 0) 0 (fun _ h => h) (fun y hy => by rw [List.eq_of_mem_replicate hy]; omega) x hx
 omega
theorem count29_run {N : Nat} {Es : List Ed} (hG : GOK (N : Int) Es) (hE : Es.length < 1000000) : callL cfgS nQw [.agg [.int .i64 N, .list 2 (eds Es)]] [] = some (.tup [.int .i64 (tri N Es), .int .i64 0], []) := by
 have hN := hG.1
 have nr := nodes29_run hG hE
 have lp := rc_loop (triN N Es) (by rw [triN_length]; omega) 0 (fun x hx => by have := striN_bd hG x hx; omega) (triN N Es).length 0 0 (by omega) (by omega)
 rw [List.drop_zero, Int.zero_add, striN_sum hG] at lp
 have bd := striS_bd hG
 have q := tri_quo hG
 have q3 : IntKind.i64.wrap ((triS N Es : Int).tdiv 3) = (tri N Es : Int) := by
  rw [Int.tdiv_eq_ediv_of_nonneg (by omega), q, wrap_id (by omega) (by omega)]
 have q4 : IntKind.i64.wrap ((triS N Es : Int) / 3) = (tri N Es : Int) := by
  rw [q, wrap_id (by omega) (by omega)]
 unfold rcSt at lp
 rw [nat0] at lp
 rw [callL_end oQw sQw (Nat.le_of_ble_eq_true rfl)]
 unfold qQw cQw
 generalize (triS N Es : Int) = ts at *
 generalize (tri N Es : Int) = t3 at *
 generalize ints (triN N Es) = tN at *
 generalize eds Es = Y at *
 simp [rQwX0, rQwX1, rQwX2, rQwX3, rQwX4, rQwX5, rQwX6, rQwX7, nr, lp, q3, q4, blk, sQM, iQM, plL, pl, endL, finB]
end Go.BmP
