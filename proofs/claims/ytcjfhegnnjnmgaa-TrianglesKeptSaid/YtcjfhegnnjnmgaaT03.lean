/- What triangles.lists returns: the neighbours of each node, ascending. -/
import Derived.Test.YtcjfhegnnjnmgaaUseM
import Derived.Test.YtcjfhegnnjnmgaaT02
set_option linter.unusedSimpArgs false
set_option linter.unusedVariables false
set_option maxRecDepth 100000
set_option maxHeartbeats 4000000
namespace Go.BmP
open Go.Am Go.Bm
def llT (o : List (List Int)) : List AV := o.map fun S => .list 1 (ints S)
theorem llT_get (o : List (List Int)) (i : Nat) : (llT o)[i]? = (o[i]?).map fun S => .list 1 (ints S) := List.getElem?_map
theorem llT_length (o : List (List Int)) : (llT o).length = o.length := List.length_map _
def rws (R : List (List Int)) : List AV := R.map fun r => .own 1 (ints r)
theorem rws_get (R : List (List Int)) (i : Nat) : (rws R)[i]? = (R[i]?).map fun S => .own 1 (ints S) := List.getElem?_map
theorem rws_length (R : List (List Int)) : (rws R).length = R.length := List.length_map _
theorem rws_set (R : List (List Int)) (i : Nat) (S : List Int) : (rws R).set i (.own 1 (ints S)) = rws (R.set i S) := by simp [rws, List.map_set]
theorem rws_cels (R : List (List Int)) : Cels (rws R) := fun c hc => by
 obtain ⟨r, _, rfl⟩ := List.mem_map.1 hc
 exact .inl ⟨_, rfl⟩
theorem rws_frz : ∀ R : List (List Int), frzCL (rws R) = some (llT R)
 | [] => rfl
 | r :: R => by
   have := rws_frz R
   simp only [rws, llT, List.map_cons, frzCL, frzC] at this ⊢
   rw [this]
theorem rws_zero (N : Nat) : rep [.own 1 []] N = rws (List.replicate N []) := by
 induction N with
 | zero => rfl
 | succ n ih => rw [rep, ih]; rfl
def lsF (R : List (List Int)) (e : Ed) : List (List Int) := (R.set e.1.toNat (R.getD e.1.toNat [] ++ [e.2])).set e.2.toNat (R.getD e.2.toNat [] ++ [e.1])
theorem lsF_length (R : List (List Int)) (e : Ed) : (lsF R e).length = R.length := by simp [lsF]
def liSt (N : Nat) (Es : List Ed) (R : List (List Int)) (i : Nat) (J : Env) : St := ⟨(3, .sl 1 1 0 N) :: (12, .list 2 (eds Es)) :: (13, .int .i64 Es.length) :: (14, .int .i64 i) :: J, [some [.int .i64 N, .list 2 (eds Es)], some (rws R)]⟩
theorem li_round (N : Nat) (Es : List Ed) (hE : Es.length < 4294967295) (R : List (List Int)) (hR : R.length = N) (i : Nat) (hi : i < Es.length) (h : 0 <= Es[i].1 /\ Es[i].1 < Es[i].2 /\ Es[i].2 < (N : Int)) (hl : ∀ r ∈ R, r.length < 4294967295) :
  codeL cfgS 0 lTrianglesListsX0 (liSt N Es R i []) = some (.normal, liSt N Es (lsF R Es[i]) (i + 1) []) := by
 obtain ⟨u, hu⟩ : ∃ u : Nat, Es[i].1 = u := ⟨Es[i].1.toNat, by omega⟩
 obtain ⟨v, hv⟩ : ∃ v : Nat, Es[i].2 = v := ⟨Es[i].2.toNat, by omega⟩
 have lu : u < R.length := by omega
 have lv : v < R.length := by omega
 have k1 : (i : Int) < Es.length := by omega
 have hw := wrapS (i := i) (by omega)
 have g3 : (eds Es)[i]? = some (.agg [.int .i64 u, .int .i64 v]) := by rw [eds_get, List.getElem?_eq_getElem hi]; simp [edAV, hu, hv]
 have g4 : ∀ h, (eds Es)[i]'h = .agg [.int .i64 u, .int .i64 v] := fun h => by
  have := List.getElem?_eq_getElem (l := eds Es) h
  rw [g3] at this
  exact (Option.some.inj this).symm
 have g5 := eds_length Es
 have e1 : (rws R)[u]? = some (.own 1 (ints R[u])) := by rw [rws_get, List.getElem?_eq_getElem lu]; rfl
 have e2 : (rws R)[v]? = some (.own 1 (ints R[v])) := by rw [rws_get, List.getElem?_eq_getElem lv]; rfl
 have x5 := li_x5 (rws R) N u v R[u] R[v] Es Es.length i e1 e2 (by omega) (rws_cels R) (by rw [rws_length]; exact hR) (hl _ (List.getElem_mem lu)) (hl _ (List.getElem_mem lv))
 have e3 : ((rws R).set u (.own 1 (ints (R[u] ++ [(v : Int)])))).set v (.own 1 (ints (R[v] ++ [(u : Int)]))) = rws (lsF R Es[i]) := by
  rw [rws_set, rws_set]
  unfold lsF
  rw [hu, hv]
  simp [List.getD_eq_getElem?_getD, List.getElem?_eq_getElem lu, List.getElem?_eq_getElem lv]
 rw [e3] at x5
 generalize lsF R Es[i] = R2 at *
 have x3 : codeL cfgS 0 (.reg rTrianglesListsX3 false [] [3, 12, 13, 14, 15]) (liSt N Es R i []) = some (.normal, liSt N Es R i [(15, .bool true)]) := by
  unfold liSt
  generalize rws R = C
  generalize eds Es = Z at *
  unfold rTrianglesListsX3
  simp [k1]
 have xc : codeL cfgS 0 (.cond (.t 15) .skip (.exit 0)) (liSt N Es R i [(15, .bool true)]) = some (.normal, liSt N Es R i [(15, .bool true)]) := by
  unfold liSt
  generalize rws R = C
  generalize eds Es = Z at *
  simp 
 have x4 : codeL cfgS 0 (.reg rTrianglesListsX4 false [] [3, 5, 12, 13, 14]) (liSt N Es R i [(15, .bool true)]) = some (.normal, ⟨[(3, .sl 1 1 0 N), (5, .ptr 2 0), (12, .list 2 (eds Es)), (13, .int .i64 Es.length), (14, .int .i64 i)], [some [.int .i64 N, .list 2 (eds Es)], some (rws R), some [.int .i64 u, .int .i64 v]]⟩) := by
  unfold liSt
  generalize rws R = C at *
  generalize eds Es = Z at *
  unfold rTrianglesListsX4
  simp [k1, g3, g4, g5, hi, idx, blk]
 have x6 : codeL cfgS 0 (.reg rTrianglesListsX6 false [] [3, 12, 13, 14]) ⟨[(3, .sl 1 1 0 N), (12, .list 2 (eds Es)), (13, .int .i64 Es.length), (14, .int .i64 i)], [some [.int .i64 N, .list 2 (eds Es)], some (rws R2)]⟩ = some (.normal, liSt N Es R2 (i + 1) []) := by
  unfold liSt
  have hp : noPtrL 1 (rws R2) = true := cels_ptr (rws_cels R2)
  generalize rws R2 = C at *
  generalize eds Es = Z at *
  unfold rTrianglesListsX6
  simp [hw]
 unfold lTrianglesListsX0
 rw [codeL_seq, x3, thenL_n, codeL_seq, xc, thenL_n, codeL_seq, codeL_blk, codeL_seq, x4, thenL_n, x5, blkL_n, thenL_n, x6]
theorem lsF_bd {R : List (List Int)} {e : Ed} {n : Nat} (h : ∀ r ∈ R, r.length <= n) : ∀ r ∈ lsF R e, r.length <= n + 1 := by
 have gd : ∀ k, (R.getD k []).length <= n := fun k => by
  rw [List.getD_eq_getElem?_getD]
  cases hk : R[k]? with
  | none => simp
  | some r => exact h r (List.mem_of_getElem? hk)
 intro r hr
 unfold lsF at hr
 rcases List.mem_or_eq_of_mem_set hr with e1 | e1
 ·rcases List.mem_or_eq_of_mem_set e1 with e2 | e2
  ·have := h r e2; omega
  ·subst e2; have := gd e.1.toNat; simp; exact this
 ·subst e1; have := gd e.2.toNat; simp; exact this
theorem li_loop (N : Nat) (Es : List Ed) (hE : Es.length < 4294967295) (hG : ∀ e ∈ Es, 0 <= e.1 /\ e.1 < e.2 /\ e.2 < (N : Int)) : ∀ (k i : Nat) (R : List (List Int)), i + k = Es.length -> R.length = N -> (∀ r ∈ R, r.length <= i) -> codeL cfgS 0 (.loop lTrianglesListsX0) (liSt N Es R i []) = some (.exit 0, liSt N Es ((Es.drop i).foldl lsF R) Es.length [(15, .bool false)])
 | 0, i, R, hi, hR, hl => by
   obtain rfl : i = Es.length := by omega
   rw [List.drop_length, List.foldl_nil]
   refine loop_exit ?_
   unfold liSt
   generalize rws R = C at *
   generalize eds Es = Z at *
   unfold lTrianglesListsX0
   simp [rTrianglesListsX0, rTrianglesListsX1, rTrianglesListsX2, rTrianglesListsX3, rTrianglesListsX4, rTrianglesListsX5, rTrianglesListsX6, rTrianglesListsX7, rTrianglesListsX8, rTrianglesListsX9, rTrianglesListsX10, rTrianglesListsX11, rTrianglesListsX12]
 | k + 1, i, R, hi, hR, hl => by
   have hlt : i < Es.length := by omega
   rw [List.drop_eq_getElem_cons hlt, List.foldl_cons]
   have ih := li_loop N Es hE hG k (i + 1) (lsF R Es[i]) (by omega) (by rw [lsF_length]; exact hR) (lsF_bd hl)
   exact (loop_next (li_round N Es hE R hR i hlt (hG _ (List.getElem_mem hlt)) fun r hr => by have := hl r hr; omega)).trans ih
theorem srt_ints (l : List Int) (h : l.length <= 4294967296) : srtG 1 (ints l) [] = some (ints (isort l), none) := by
 unfold srtG
 rw [if_pos (by rw [ints_length]; exact h), ints, intsOf_ints]
 rfl
def lsSt (N : Nat) (Es : List Ed) (R : List (List Int)) (i : Nat) (J : Env) : St := ⟨(3, .sl 1 1 0 N) :: (45, .sl 1 1 0 N) :: (46, .int .i64 N) :: (47, .int .i64 i) :: J, [some [.int .i64 N, .list 2 (eds Es)], some (rws R)]⟩
theorem ls_round (N : Nat) (Es : List Ed) (R : List (List Int)) (hR : R.length = N) (i : Nat) (hi : i < R.length) (hN : N < 4294967295) (hl : R[i].length <= 4294967296) :
  codeL cfgS 0 lTrianglesListsX1 (lsSt N Es R i []) = some (.normal, lsSt N Es (R.set i (isort R[i])) (i + 1) []) := by
 have k1 : (i : Int) < N := by omega
 have hw := wrapS (i := i) (by omega)
 have e1 : (rws R)[i]? = some (.own 1 (ints R[i])) := by rw [rws_get, List.getElem?_eq_getElem hi]; rfl
 have l1 : (lendC (.c 1) 0 (rws R))[i]? = some (.bor 1 (.c 1 i) 0 R[i].length) := by have := lend_at (b := 1) (j := 0) e1; rwa [Nat.zero_add, ints_length] at this
 have so := srt_ints R[i] hl
 have d1 : List.drop R[i].length (ints R[i]) = [] := List.drop_of_length_le (by rw [ints_length]; omega)
 have d2 : List.take R[i].length (ints R[i]) = ints R[i] := List.take_of_length_le (by rw [ints_length]; omega)
 have st : (rws R).set i (.own 1 (ints (isort R[i]))) = rws (R.set i (isort R[i])) := rws_set ..
 have hp : noPtrL 1 (rws (R.set i (isort R[i]))) = true := cels_ptr (rws_cels _)
 unfold lsSt lTrianglesListsX1
 generalize rws (R.set i (isort R[i])) = C2 at *
 generalize rws R = C at *
 generalize eds Es = Z at *
 generalize R[i] = r at *
 simp [rTrianglesListsX0, rTrianglesListsX1, rTrianglesListsX2, rTrianglesListsX3, rTrianglesListsX4, rTrianglesListsX5, rTrianglesListsX6, rTrianglesListsX7, rTrianglesListsX8, rTrianglesListsX9, rTrianglesListsX10, rTrianglesListsX11, rTrianglesListsX12, k1, hw, e1, l1, so, d1, d2, st, hp, idx, blk, ints_length, iSlicesSortIntInt, lSlicesSortIntInt, eSlicesSortIntInt]
theorem ls_loop (N : Nat) (Es : List Ed) (hN : N < 4294967295) : ∀ (k i : Nat) (R : List (List Int)), i + k = N -> R.length = N -> (∀ r ∈ R, r.length <= 4294967296) -> codeL cfgS 0 (.loop lTrianglesListsX1) (lsSt N Es R i []) = some (.exit 2, lsSt N Es (R.take i ++ (R.drop i).map isort) N [(48, .bool false)])
 | 0, i, R, hi, hR, hl => by
   obtain rfl : i = N := by omega
   rw [List.take_of_length_le (by omega), List.drop_of_length_le (by omega), List.map_nil, List.append_nil]
   refine loop_exit ?_
   unfold lsSt lTrianglesListsX1
   generalize rws R = C at *
   generalize eds Es = Z at *
   simp [rTrianglesListsX0, rTrianglesListsX1, rTrianglesListsX2, rTrianglesListsX3, rTrianglesListsX4, rTrianglesListsX5, rTrianglesListsX6, rTrianglesListsX7, rTrianglesListsX8, rTrianglesListsX9, rTrianglesListsX10, rTrianglesListsX11, rTrianglesListsX12]
 | k + 1, i, R, hi, hR, hl => by
   have hlt : i < R.length := by omega
   have ih := ls_loop N Es hN k (i + 1) (R.set i (isort R[i])) (by omega) (by simpa using hR) (fun r hr => by
    rcases List.mem_or_eq_of_mem_set hr with e | e
    ·exact hl r e
    ·subst e; rw [isort_length]; exact hl _ (List.getElem_mem hlt))
   have e : (R.set i (isort R[i])).take (i + 1) ++ ((R.set i (isort R[i])).drop (i + 1)).map isort = R.take i ++ (R.drop i).map isort := by
    rw [List.drop_eq_getElem_cons hlt, List.map_cons, List.take_succ_eq_append_getElem (by simpa using hlt), List.drop_set_of_lt (by omega), List.take_set_of_le (Nat.le_refl _)]
    simp
   rw [e] at ih
   exact (loop_next (ls_round N Es R hR i hlt hN (hl _ (List.getElem_mem hlt)))).trans ih
def lstE (N : Nat) (Es : List Ed) : List (List Int) := (Es.foldl lsF (List.replicate N [])).map isort
theorem foldl_len (Es : List Ed) : ∀ R : List (List Int), (Es.foldl lsF R).length = R.length := by
 induction Es with
 | nil => intro R; rfl
 | cons e r ih => intro R; rw [List.foldl_cons, ih, lsF_length]
theorem foldl_bd (Es : List Ed) : ∀ (R : List (List Int)) (n : Nat), (∀ r ∈ R, r.length <= n) -> ∀ r ∈ Es.foldl lsF R, r.length <= n + Es.length := by
 induction Es with
 | nil => intro R n h; simpa using h
 | cons e r ih =>
   intro R n h x hx
   rw [List.foldl_cons] at hx
   have := ih (lsF R e) (n + 1) (lsF_bd h) x hx
   simp; omega
theorem lists_run (N : Nat) (Es : List Ed) (hN : N <= 64) (hE : Es.length < 4294967295) (hG : ∀ e ∈ Es, 0 <= e.1 /\ e.1 < e.2 /\ e.2 < (N : Int)) : callL cfgS nTrianglesLists [.agg [.int .i64 N, .list 2 (eds Es)]] [] = some (.list 1 (llT (lstE N Es)), []) := by
 have hrep : ∀ r ∈ List.replicate N ([] : List Int), r.length <= 0 := fun r hr => by rw [List.eq_of_mem_replicate hr]; simp
 have e1 := li_loop N Es hE hG Es.length 0 (List.replicate N []) (by omega) (by simp) hrep
 rw [List.drop_zero] at e1
 have bd := foldl_bd Es _ 0 hrep
 have ln := foldl_len Es (List.replicate N [])
 rw [List.length_replicate] at ln
 have e2 := ls_loop N Es (by omega) N 0 (Es.foldl lsF (List.replicate N [])) (by omega) ln (fun r hr => by have := bd r hr; omega)
 rw [List.take_zero, List.nil_append, List.drop_zero] at e2
 have fz := rws_frz ((Es.foldl lsF (List.replicate N [])).map isort)
 have fl : (rws ((Es.foldl lsF (List.replicate N [])).map isort)).length = N := by rw [rws_length, List.length_map, ln]
 have hr : lstE N Es = (Es.foldl lsF (List.replicate N [])).map isort := rfl
 rw [callL_end oTrianglesLists sTrianglesLists (Nat.le_of_ble_eq_true rfl)]
 have h0 : N <= 4294967296 := by omega
 have h0i : (N : Int) <= 4294967296 := by omega
 have z0 := rws_zero N
 have tk : ∀ C : List AV, C.length = N -> List.take N C = C := fun C h => List.take_of_length_le (by omega)
 rw [<- hr] at e2 fz fl
 have t1 := tk _ fl
 unfold liSt at e1
 unfold lsSt at e2
 rw [nat0] at e1 e2
 generalize lstE N Es = Rz at *
 generalize Es.foldl lsF (List.replicate N []) = Ry at *
 have p1 : noPtrL 1 (rws (List.replicate N [])) = true := cels_ptr (rws_cels _)
 generalize rws (List.replicate N []) = C0 at *
 generalize rws Ry = C1 at *
 generalize rws Rz = C2 at *
 have g5 := eds_length Es
 generalize eds Es = Z at *
 unfold qTrianglesLists cTrianglesLists
 simp [rTrianglesListsX0, rTrianglesListsX1, rTrianglesListsX2, rTrianglesListsX3, rTrianglesListsX4, rTrianglesListsX5, rTrianglesListsX6, rTrianglesListsX7, rTrianglesListsX8, rTrianglesListsX9, rTrianglesListsX10, rTrianglesListsX11, rTrianglesListsX12, e1, e2, h0, h0i, LIM, z0, fz, fl, t1, g5, blk, endL, finB]
end Go.BmP
