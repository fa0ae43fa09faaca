/- The neighbours and the degree of a node, by the reference. -/
import Derived.Test.YtegmpkeejgflnaaUseM
import Derived.Test.YtegmpkeejgflnaaT04
import Derived.Test.YtegmpkeejgflnaaR02c
import Derived.Test.YtegmpkeejgflnaaK05
set_option linter.unusedSimpArgs false
set_option linter.unusedVariables false
set_option maxRecDepth 100000
set_option maxHeartbeats 4000000
namespace Go.BmP
open Go.Am Go.Bm
def nbG (v : Int) (e : Ed) : List Int := (if e.1 = v then [e.2] else []) ++ (if e.2 = v then [e.1] else [])
def nbSt (v : Int) (Es : List Ed) (o : List Int) (i : Nat) (J : Env) : St := ⟨(1, .int .i64 v) :: (5, .own 1 (ints o)) :: (12, .list 2 (eds Es)) :: (13, .int .i64 Es.length) :: (14, .int .i64 i) :: J, []⟩
theorem nb_round (v : Int) (Es : List Ed) (hE : Es.length < 1000000) (i : Nat) (hi : i < Es.length) (o : List Int) (ho : o.length < 4294967290) : codeL cfgS 0 lQEX0 (nbSt v Es o i []) = some (.normal, nbSt v Es (o ++ nbG v Es[i]) (i + 1) []) := by
 have k1 : (i : Int) < Es.length := by omega
 have hw := wrapS (i := i) (by omega)
 have g3 : (eds Es)[i]? = some (.agg [.int .i64 Es[i].1, .int .i64 Es[i].2]) := by rw [eds_get, List.getElem?_eq_getElem hi]; simp [edAV]
 have g4 : ∀ h, (eds Es)[i]'h = .agg [.int .i64 Es[i].1, .int .i64 Es[i].2] := fun h => by
  have := List.getElem?_eq_getElem (l := eds Es) h
  rw [g3] at this
  exact (Option.some.inj this).symm
 have g5 := eds_length Es
 have l1 : o.length + 1 <= 4294967296 := by omega
 have l2 : (o ++ [Es[i].2]).length + 1 <= 4294967296 := by simp; omega
 have l3 : o.length + 1 + 1 <= 4294967296 := by omega
 generalize Es[i] = e at *
 obtain ⟨a, b⟩ := e
 unfold nbSt lQEX0 nbG
 generalize eds Es = Y at *
 have t2 : List.take (o.length + 1) (ints (o ++ [b])) = ints (o ++ [b]) := List.take_of_length_le (by simp [ints])
 have t3 : List.take (o.length + 2) (o ++ [v, v]) = o ++ [v, v] := List.take_of_length_le (by simp)
 by_cases h1 : a = v
 ·by_cases h2 : b = v
  ·simp [rQEX0, rQEX1, rQEX2, rQEX3, rQEX4, rQEX5, rQEX6, rQEX7, rQEX8, rQEX9, rQEX10, rQEX11, rQEX12, k1, hi, hw, g3, g4, g5, l1, l2, l3, t2, t3, h1, h2, LIM, idx, blk, ints_length, ints_snoc, ints_take]
  ·simp [rQEX0, rQEX1, rQEX2, rQEX3, rQEX4, rQEX5, rQEX6, rQEX7, rQEX8, rQEX9, rQEX10, rQEX11, rQEX12, k1, hi, hw, g3, g4, g5, l1, l2, h1, h2, LIM, idx, blk, ints_length, ints_snoc, ints_take]
 ·by_cases h2 : b = v
  ·simp [rQEX0, rQEX1, rQEX2, rQEX3, rQEX4, rQEX5, rQEX6, rQEX7, rQEX8, rQEX9, rQEX10, rQEX11, rQEX12, k1, hi, hw, g3, g4, g5, l1, l2, h1, h2, LIM, idx, blk, ints_length, ints_snoc, ints_take]
  ·simp [rQEX0, rQEX1, rQEX2, rQEX3, rQEX4, rQEX5, rQEX6, rQEX7, rQEX8, rQEX9, rQEX10, rQEX11, rQEX12, k1, hi, hw, g3, g4, g5, l1, l2, h1, h2, LIM, idx, blk, ints_length, ints_snoc, ints_take]
theorem nbG_len (v : Int) (e : Ed) : (nbG v e).length <= 2 := by
 unfold nbG; split <;> split <;> simp
theorem nb_loop (v : Int) (Es : List Ed) (hE : Es.length < 1000000) : ∀ (k i : Nat) (o : List Int), i + k = Es.length -> o.length <= 2 * i -> codeL cfgS 0 (.loop lQEX0) (nbSt v Es o i []) = some (.exit 0, nbSt v Es (o ++ ((Es.drop i).map (nbG v)).flatten) Es.length [(15, .bool false)])
 | 0, i, o, hi, ho => by
   obtain rfl : i = Es.length := by omega
   rw [List.drop_length, List.map_nil, List.flatten_nil, List.append_nil]
   refine loop_exit ?_
   unfold nbSt lQEX0
   generalize eds Es = Y at *
   simp [rQEX0, rQEX1, rQEX2, rQEX3, rQEX4, rQEX5, rQEX6, rQEX7, rQEX8, rQEX9, rQEX10, rQEX11, rQEX12]
 | k + 1, i, o, hi, ho => by
   have hlt : i < Es.length := by omega
   have := nbG_len v Es[i]
   have ih := nb_loop v Es hE k (i + 1) (o ++ nbG v Es[i]) (by omega) (by simp; omega)
   rw [List.append_assoc] at ih
   rw [List.drop_eq_getElem_cons hlt, List.map_cons, List.flatten_cons]
   exact (loop_next (nb_round v Es hE i hlt o (by omega))).trans ih
theorem nb_set {N : Nat} {Es : List Ed} (hG : GOK (N : Int) Es) {v : Int} (h0 : 0 <= v) (h1 : v < N) : setOf (Es.map (nbG v)).flatten = nbr N Es v := by
 refine up_ext (setOf_spec _).1 (nbr_up hG h0 h1) fun x => ?_
 rw [(setOf_spec _).2, nbr_mem hG h0 h1, List.mem_flatten]
 unfold jn
 constructor
 ·rintro ⟨l, hl, hx⟩
  obtain ⟨e, he, rfl⟩ := List.mem_map.1 hl
  unfold nbG at hx
  rcases List.mem_append.1 hx with h | h
  ·split at h
   ·rename_i k; simp at h; subst h; left; rw [<- k]; exact he
   ·cases h
  ·split at h
   ·rename_i k; simp at h; subst h; right; rw [<- k]; exact he
   ·cases h
 ·rintro (h | h)
  ·exact ⟨_, List.mem_map.2 ⟨_, h, rfl⟩, by simp [nbG]⟩
  ·exact ⟨_, List.mem_map.2 ⟨_, h, rfl⟩, by simp [nbG]⟩
theorem neighbours_run {N : Nat} {Es : List Ed} (hG : GOK (N : Int) Es) (hE : Es.length < 1000000) {v : Int} (h0 : 0 <= v) (h1 : v < N) : callL cfgS nQE [.agg [.int .i64 N, .list 2 (eds Es)], .int .i64 v] [] = some (.list 1 (ints (nbr N Es v)), []) := by
 have g := rchk_run N Es (by omega)
 rw [chkG_zero.2 hG] at g
 have lp := nb_loop v Es hE Es.length 0 [] (by omega) (by simp)
 rw [List.drop_zero, List.nil_append] at lp
 have bl : (Es.map (nbG v)).flatten.length <= 2 * Es.length := by
  have : ∀ l : List Ed, (l.map (nbG v)).flatten.length <= 2 * l.length := by
   intro l
   induction l with
   | nil => simp
   | cons e r ih =>
     have := nbG_len v e
     simp only [List.map_cons, List.flatten_cons, List.length_append, List.length_cons]
     omega
  exact this Es
 have of := of_run (Es.map (nbG v)).flatten (by omega)
 rw [nb_set hG h0 h1] at of
 have tk : List.take (Es.map (nbG v)).flatten.length (ints (Es.map (nbG v)).flatten) = ints (Es.map (nbG v)).flatten := List.take_of_length_le (by rw [ints_length]; omega)
 have g5 := eds_length Es
 have g6 := ints_length (Es.map (nbG v)).flatten
 unfold nbSt at lp
 rw [nat0, ints_nil] at lp
 rw [callL_end oQE sQE (Nat.le_of_ble_eq_true rfl)]
 unfold qQE cQE
 generalize (Es.map (nbG v)).flatten = fl at *
 cases fl with
 | nil =>
   rw [ints_nil] at *
   generalize eds Es = Y at *
   generalize ints (nbr N Es v) = nv at *
   simp [rQEX0, rQEX1, rQEX2, rQEX3, rQEX4, rQEX5, rQEX6, rQEX7, rQEX8, rQEX9, rQEX10, rQEX11, rQEX12, g, lp, of, tk, g5, g6, blk, sQs, iQs, lQs, sQH, iQH, lQH, plL, pl, endL, finB]
 | cons x r =>
   rw [ints_cons] at *
   rw [List.length_cons] at *
   generalize eds Es = Y at *
   generalize ints (nbr N Es v) = nv at *
   generalize ints r = rr at *
   simp [rQEX0, rQEX1, rQEX2, rQEX3, rQEX4, rQEX5, rQEX6, rQEX7, rQEX8, rQEX9, rQEX10, rQEX11, rQEX12, g, lp, of, tk, g5, g6, blk, sQs, iQs, lQs, sQH, iQH, lQH, plL, pl, endL, finB]
theorem degree_run {N : Nat} {Es : List Ed} (hG : GOK (N : Int) Es) (hE : Es.length < 1000000) {v : Int} (h0 : 0 <= v) (h1 : v < N) : callL cfgS nQt [.agg [.int .i64 N, .list 2 (eds Es)], .int .i64 v] [] = some (.int .i64 (nbr N Es v).length, []) := by
 have nr := neighbours_run hG hE h0 h1
 have g6 := ints_length (nbr N Es v)
 rw [callL_end oQt sQt (Nat.le_of_ble_eq_true rfl)]
 unfold qQt cQt
 generalize eds Es = Y at *
 generalize ints (nbr N Es v) = nv at *
 simp [rQtX0, rQtX1, nr, g6, blk, sQE, iQE, lQE, plL, pl, endL, finB]
end Go.BmP
