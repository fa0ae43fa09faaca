/- What triangles counts: Count and Nodes. -/
import Derived.Test.YtcjfhegnnjnmgaaUseM
import Derived.Test.YtcjfhegnnjnmgaaT04
import Derived.Test.YtcjfhegnnjnmgaaK04
set_option linter.unusedSimpArgs false
set_option linter.unusedVariables false
set_option maxRecDepth 100000
set_option maxHeartbeats 4000000
namespace Go.BmP
open Go.Am Go.Bm
def ciSt (Z Y : List AV) (len i : Int) (S : List Int) (s : Int) (n : List Int) (j : Nat) (J : Env) : St := ⟨(4, .list 1 Z) :: (5, .int .i64 s) :: (6, .own 1 (ints n)) :: (17, .list 2 Y) :: (18, .int .i64 len) :: (19, .int .i64 i) :: (33, .list 1 (ints S)) :: (34, .int .i64 S.length) :: (35, .int .i64 j) :: J, []⟩
theorem ci_round (Z Y : List AV) (len i : Int) (S : List Int) (s : Int) (n : List Int) (j : Nat) (hj : j < S.length) (hS : S.length < 4294967295) (hw : 0 <= S[j] /\ S[j] < (n.length : Int)) (hn : ∀ x ∈ n, 0 <= x /\ x < 4294967295) (hs : 0 <= s /\ s < 4294967295) :
  codeL cfgS 0 lTrianglesCountsX0 (ciSt Z Y len i S s n j []) = some (.normal, ciSt Z Y len i S (s + 1) (bump n S[j]) (j + 1) []) := by
 obtain ⟨w, ew⟩ : ∃ w : Nat, S[j] = w := ⟨S[j].toNat, by omega⟩
 have lw : w < n.length := by omega
 have k1 : (j : Int) < S.length := by omega
 have k2 : (w : Int) < n.length := by omega
 have hj1 := wrapS (i := j) (by omega)
 have hs1 : IntKind.i64.wrap (s + 1) = s + 1 := wrap_id (by omega) (by omega)
 have hb := hn n[w] (List.getElem_mem lw)
 have hn1 : IntKind.i64.wrap (n[w] + 1) = n[w] + 1 := wrap_id (by omega) (by omega)
 have g3 : (ints S)[j]? = some (.int .i64 w) := by rw [ints_get, List.getElem?_eq_getElem hj]; simp [ew]
 have g4 : ∀ h, (ints S)[j]'h = .int .i64 w := fun h => by rw [intsAt]; rw [ew]
 have g5 := ints_length S
 have b1 : (ints n).set w (.int .i64 (n[w] + 1)) = ints (bump n S[j]) := by
  unfold bump
  rw [ew, show ((w : Int)).toNat = w by omega, List.getD_eq_getElem?_getD, List.getElem?_eq_getElem lw]
  simp [ints, List.map_set]
 have g6 : (ints n)[w]? = some (.int .i64 n[w]) := by rw [ints_get, List.getElem?_eq_getElem lw]; rfl
 have g7 : ∀ h, (ints n)[w]'h = .int .i64 n[w] := fun h => intsAt ..
 have g8 := ints_length n
 generalize bump n S[j] = n2 at *
 generalize n[w] = x at *
 unfold ciSt lTrianglesCountsX0
 generalize ints n = NN at *
 generalize ints S = SS at *
 generalize ints n2 = N2 at *
 simp [rTrianglesCountsX0, rTrianglesCountsX1, rTrianglesCountsX2, rTrianglesCountsX3, rTrianglesCountsX4, rTrianglesCountsX5, rTrianglesCountsX6, rTrianglesCountsX7, rTrianglesCountsX8, rTrianglesCountsX9, rTrianglesCountsX10, rTrianglesCountsX11, rTrianglesCountsX12, rTrianglesCountsX13, k1, k2, hj, hj1, hs1, hn1, g3, g4, g5, b1, g6, g7, g8, lw, idx]
theorem ci_loop (Z Y : List AV) (len i : Int) (S : List Int) (hS : S.length < 1000) (N : Nat) (hw : ∀ x ∈ S, 0 <= x /\ x < (N : Int)) (K : Int) (hK : K < 1000000000) : ∀ (k j : Nat) (s : Int) (n : List Int), j + k = S.length -> n.length = N -> (∀ x ∈ n, 0 <= x /\ x <= K + j) -> 0 <= s /\ s <= K + j -> 0 <= K ->
  codeL cfgS 0 (.loop lTrianglesCountsX0) (ciSt Z Y len i S s n j []) = some (.exit 2, ciSt Z Y len i S (s + k) ((S.drop j).foldl bump n) S.length [(36, .bool false)])
 | 0, j, s, n, hi, hn, hb, hs, h0 => by
   obtain rfl : j = S.length := by omega
   rw [List.drop_length, List.foldl_nil]
   refine loop_exit ?_
   rw [show s + ((0 : Nat) : Int) = s by omega]
   unfold ciSt lTrianglesCountsX0
   generalize ints n = NN at *
   generalize ints S = SS at *
   simp [rTrianglesCountsX0, rTrianglesCountsX1, rTrianglesCountsX2, rTrianglesCountsX3, rTrianglesCountsX4, rTrianglesCountsX5, rTrianglesCountsX6, rTrianglesCountsX7, rTrianglesCountsX8, rTrianglesCountsX9, rTrianglesCountsX10, rTrianglesCountsX11, rTrianglesCountsX12, rTrianglesCountsX13]
 | k + 1, j, s, n, hi, hn, hb, hs, h0 => by
   have hlt : j < S.length := by omega
   rw [List.drop_eq_getElem_cons hlt, List.foldl_cons]
   have hx := hw _ (List.getElem_mem hlt)
   have ih := ci_loop Z Y len i S hS N hw K hK k (j + 1) (s + 1) (bump n S[j]) (by omega) (by rw [bump_length]; exact hn) (fun x hx => by have := bump_bd (k := K + j) (by omega) hb x hx; omega) (by omega) h0
   rw [show s + 1 + (k : Int) = s + ((k + 1 : Nat) : Int) by omega] at ih
   exact (loop_next (ci_round Z Y len i S s n j hlt (by omega) (by omega) (fun x hx => by have := hb x hx; omega) (by omega))).trans ih
def coSt (Z : List AV) (Es : List Ed) (s : Int) (n : List Int) (i : Nat) (J : Env) : St := ⟨(4, .list 1 Z) :: (5, .int .i64 s) :: (6, .own 1 (ints n)) :: (17, .list 2 (eds Es)) :: (18, .int .i64 Es.length) :: (19, .int .i64 i) :: J, []⟩
theorem co_round {N : Nat} {Es : List Ed} (hG : GOK (N : Int) Es) (hE : Es.length < 1000000) (i : Nat) (hi : i < Es.length) (K : Int) (hK : 0 <= K /\ K < 1000000000) (s : Int) (n : List Int) (hn : n.length = N) (hb : ∀ x ∈ n, 0 <= x /\ x <= K) (hs : 0 <= s /\ s <= K) :
  codeL cfgS 0 lTrianglesCountsX1 (coSt (llT (lstE N Es)) Es s n i []) = some (.normal, coSt (llT (lstE N Es)) Es (s + (com N Es Es[i]).length) ((com N Es Es[i]).foldl bump n) (i + 1) []) := by
 have he := hG.2.2 _ (List.getElem_mem hi)
 have hN := hG.1
 obtain ⟨u, hu⟩ : ∃ u : Nat, Es[i].1 = u := ⟨Es[i].1.toNat, by omega⟩
 obtain ⟨v, hv⟩ : ∃ v : Nat, Es[i].2 = v := ⟨Es[i].2.toNat, by omega⟩
 have cm := com_mem hG (e := Es[i]) (by omega)
 have cl := com_len hG (e := Es[i]) (by omega)
 have cw : ∀ x ∈ com N Es Es[i], 0 <= x /\ x < (N : Int) := fun x hx => by
  have := (jn_bd hG ((cm x).1 hx).1).2.1; omega
 have lp := ci_loop (llT (lstE N Es)) (eds Es) Es.length i (com N Es Es[i]) (by omega) N cw K (by omega) (com N Es Es[i]).length 0 s n (by omega) hn (fun x hx => by have := hb x hx; omega) (by omega) (by omega)
 rw [List.drop_zero] at lp
 have sr := shared_run (nbr N Es u) (nbr N Es v) (by have := nbr_len hG (u := (u : Int)) (by omega) (by omega); omega) (by have := nbr_len hG (u := (v : Int)) (by omega) (by omega); omega)
 have e1 : shr (nbr N Es u) (nbr N Es v) = com N Es Es[i] := by unfold com; rw [hu, hv]
 rw [e1] at sr
 have a1 := lls_at (N := N) (Es := Es) (u := u) (by omega)
 have a2 := lls_at (N := N) (Es := Es) (u := v) (by omega)
 have a5 : (llT (lstE N Es)).length = N := by rw [llT_length, lstE_length]
 have a3 : ∀ h, (llT (lstE N Es))[u]'h = .list 1 (ints (nbr N Es u)) := fun h => by
  have := List.getElem?_eq_getElem (l := llT (lstE N Es)) h
  rw [a1] at this
  exact (Option.some.inj this).symm
 have a4 : ∀ h, (llT (lstE N Es))[v]'h = .list 1 (ints (nbr N Es v)) := fun h => by
  have := List.getElem?_eq_getElem (l := llT (lstE N Es)) h
  rw [a2] at this
  exact (Option.some.inj this).symm
 have k1 : (i : Int) < Es.length := by omega
 have k2 : (u : Int) < N := by omega
 have k3 : (v : Int) < N := by omega
 have k4 : u < N := by omega
 have k5 : v < N := by omega
 have hw := wrapS (i := i) (by omega)
 have g3 : (eds Es)[i]? = some (.agg [.int .i64 u, .int .i64 v]) := by rw [eds_get, List.getElem?_eq_getElem hi]; simp [edAV, hu, hv]
 have g4 : ∀ h, (eds Es)[i]'h = .agg [.int .i64 u, .int .i64 v] := fun h => by
  have := List.getElem?_eq_getElem (l := eds Es) h
  rw [g3] at this
  exact (Option.some.inj this).symm
 have g5 := eds_length Es
 have g6 := ints_length (com N Es Es[i])
 unfold ciSt at lp
 rw [nat0] at lp
 unfold coSt lTrianglesCountsX1
 generalize com N Es Es[i] = S at *
 generalize llT (lstE N Es) = Z at *
 generalize eds Es = Y at *
 generalize ints (S.foldl bump n) = N2 at *
 generalize ints n = NN at *
 generalize ints S = SS at *
 generalize ints (nbr N Es u) = nu at *
 generalize ints (nbr N Es v) = nv at *
 simp [rTrianglesCountsX0, rTrianglesCountsX1, rTrianglesCountsX2, rTrianglesCountsX3, rTrianglesCountsX4, rTrianglesCountsX5, rTrianglesCountsX6, rTrianglesCountsX7, rTrianglesCountsX8, rTrianglesCountsX9, rTrianglesCountsX10, rTrianglesCountsX11, rTrianglesCountsX12, rTrianglesCountsX13, k1, k2, k3, k4, k5, hi, hw, g3, g4, g5, g6, a1, a2, a3, a4, a5, sr, lp, idx, blk, sTrianglesSharedInt, iTrianglesSharedInt, lTrianglesSharedInt, eTrianglesSharedInt, plL, pl]
theorem co_loop {N : Nat} {Es : List Ed} (hG : GOK (N : Int) Es) (hE : Es.length < 1000000) : ∀ (k i : Nat) (s : Int) (n : List Int), i + k = Es.length -> n.length = N -> (∀ x ∈ n, 0 <= x /\ x <= (64 * i : Nat)) -> 0 <= s /\ s <= (64 * i : Nat) ->
  codeL cfgS 0 (.loop lTrianglesCountsX1) (coSt (llT (lstE N Es)) Es s n i []) = some (.exit 0, coSt (llT (lstE N Es)) Es (s + (((Es.drop i).map fun e => (com N Es e).length).sum : Nat)) ((Es.drop i).foldl (fun n e => (com N Es e).foldl bump n) n) Es.length [(20, .bool false)])
 | 0, i, s, n, hi, hn, hb, hs => by
   obtain rfl : i = Es.length := by omega
   rw [List.drop_length, List.foldl_nil, List.map_nil, List.sum_nil]
   refine loop_exit ?_
   rw [show s + ((0 : Nat) : Int) = s by omega]
   unfold coSt lTrianglesCountsX1
   generalize ints n = NN at *
   generalize llT (lstE N Es) = Z at *
   generalize eds Es = Y at *
   simp [rTrianglesCountsX0, rTrianglesCountsX1, rTrianglesCountsX2, rTrianglesCountsX3, rTrianglesCountsX4, rTrianglesCountsX5, rTrianglesCountsX6, rTrianglesCountsX7, rTrianglesCountsX8, rTrianglesCountsX9, rTrianglesCountsX10, rTrianglesCountsX11, rTrianglesCountsX12, rTrianglesCountsX13]
 | k + 1, i, s, n, hi, hn, hb, hs => by
   have hlt : i < Es.length := by omega
   have he := hG.2.2 _ (List.getElem_mem hlt)
   have hN := hG.1
   have cl := com_len hG (e := Es[i]) (by omega)
   rw [List.drop_eq_getElem_cons hlt, List.foldl_cons, List.map_cons, List.sum_cons]
   have ih := co_loop hG hE k (i + 1) (s + (com N Es Es[i]).length) ((com N Es Es[i]).foldl bump n) (by omega) (by rw [bumps_length]; exact hn) (fun x hx => by have := bumps_bd _ _ (64 * i : Nat) (by omega) hb x hx; omega) (by omega)
   rw [show s + ((com N Es Es[i]).length : Int) + ((((Es.drop (i + 1)).map fun e => (com N Es e).length).sum : Nat) : Int) = s + (((com N Es Es[i]).length + ((Es.drop (i + 1)).map fun e => (com N Es e).length).sum : Nat) : Int) by omega] at ih
   exact (loop_next (co_round hG hE i hlt (64 * i : Nat) (by omega) s n hn hb hs)).trans ih
theorem triN_length (N : Nat) (Es : List Ed) : (triN N Es).length = N := by
 have : ∀ (l : List Ed) (n : List Int), (l.foldl (fun n e => (com N Es e).foldl bump n) n).length = n.length := by
  intro l
  induction l with
  | nil => intro n; rfl
  | cons e r ih => intro n; rw [List.foldl_cons, ih, bumps_length]
 rw [triN, this, List.length_replicate]
theorem counts_run {N : Nat} {Es : List Ed} (hG : GOK (N : Int) Es) (hE : Es.length < 1000000) : callL cfgS nTrianglesCounts [.agg [.int .i64 N, .list 2 (eds Es)]] [] = some (.tup [.int .i64 ((triS N Es : Int) / 3), .list 1 (ints (triN N Es))], []) := by
 have hN := hG.1
 have lr := lists_run N Es (by omega) (by omega) hG.2.2
 have lp := co_loop hG hE Es.length 0 0 (List.replicate N 0) (by omega) (by simp) (fun x hx => by rw [List.eq_of_mem_replicate hx]; omega) (by omega)
 rw [List.drop_zero, Int.zero_add] at lp
 have eS : ((Es.map fun e => (com N Es e).length).sum : Nat) = triS N Es := rfl
 have eN : Es.foldl (fun n e => (com N Es e).foldl bump n) (List.replicate N 0) = triN N Es := rfl
 have bS : triS N Es <= 64 * Es.length := by
  unfold triS
  have : ∀ l : List Ed, (∀ e ∈ l, e ∈ Es) -> (l.map fun e => (com N Es e).length).sum <= 64 * l.length := by
   intro l
   induction l with
   | nil => intro _; simp
   | cons e r ih =>
     intro h
     have he := hG.2.2 e (h e (by simp))
     have := com_len hG (e := e) (by omega)
     have := ih fun x hx => h x (by simp [hx])
     simp only [List.map_cons, List.sum_cons, List.length_cons]
     omega
  exact this Es fun e h => h
 rw [eS, eN] at lp
 have lnN := triN_length N Es
 have q3 : IntKind.i64.wrap ((triS N Es : Int).tdiv 3) = (triS N Es : Int) / 3 := by
  rw [Int.tdiv_eq_ediv_of_nonneg (by omega), wrap_id (by omega) (by omega)]
 have q4 : IntKind.i64.wrap ((triS N Es : Int) / 3) = (triS N Es : Int) / 3 := wrap_id (by omega) (by omega)
 have h0i : (N : Int) <= 4294967296 := by omega
 have h0 : N <= 4294967296 := by omega
 have rp : List.replicate N (AV.int .i64 0) = ints (List.replicate N 0) := by simp [ints]
 have tk : List.take N (ints (triN N Es)) = ints (triN N Es) := List.take_of_length_le (by rw [ints_length, lnN]; omega)
 have tk0 : List.take N (ints (List.replicate N 0)) = ints (List.replicate N 0) := List.take_of_length_le (by rw [ints_length, List.length_replicate]; omega)
 have g5 := eds_length Es
 have g6 : (ints (triN N Es)).length = N := by rw [ints_length, lnN]
 have g7 : (ints (List.replicate N 0)).length = N := by rw [ints_length, List.length_replicate]
 unfold coSt at lp
 rw [nat0] at lp
 rw [callL_end oTrianglesCounts sTrianglesCounts (Nat.le_of_ble_eq_true rfl)]
 unfold qTrianglesCounts cTrianglesCounts
 generalize triS N Es = tS at *
 generalize ints (triN N Es) = tN at *
 generalize ints (List.replicate N 0) = t0 at *
 generalize llT (lstE N Es) = Z at *
 generalize eds Es = Y at *
 simp [rTrianglesCountsX0, rTrianglesCountsX1, rTrianglesCountsX2, rTrianglesCountsX3, rTrianglesCountsX4, rTrianglesCountsX5, rTrianglesCountsX6, rTrianglesCountsX7, rTrianglesCountsX8, rTrianglesCountsX9, rTrianglesCountsX10, rTrianglesCountsX11, rTrianglesCountsX12, rTrianglesCountsX13, lr, lp, q3, q4, h0i, h0, rp, tk, tk0, g5, g6, g7, LIM, blk, sTrianglesLists, iTrianglesLists, lTrianglesLists, eTrianglesLists, plL, pl, endL, finB]
end Go.BmP
