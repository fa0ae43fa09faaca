/- What two ascending lists have in common, as triangles.shared finds it. -/
import Derived.Test.YtjfdniggjdnkiaaK05
import Derived.Test.YtjfdniggjdnkiaaBicP
import Derived.Test.YtjfdniggjdnkiaaUseM
set_option linter.unusedSimpArgs false
set_option linter.unusedVariables false
set_option maxRecDepth 100000
set_option maxHeartbeats 4000000
namespace Go.BmP
open Go.Am Go.Bm
def shr : List Int -> List Int -> List Int
 | [], _ => []
 | _ :: _, [] => []
 | x :: r, y :: s => if x < y then shr r (y :: s) else if y < x then shr (x :: r) s else x :: shr r s
termination_by a b => a.length + b.length
def sSt (a b o : List Int) (J : Env) : St := ⟨(0, .list 1 (ints a)) :: (1, .list 1 (ints b)) :: (5, .own 1 (ints o)) :: J, []⟩
/- Slices that own each other's cells: the rows of triangles.lists, one step of it. -/
def Cels (C : List AV) : Prop := ∀ c ∈ C, (∃ xs, c = .own 1 xs) \/ c = .any
/- What triangles.lists returns: the neighbours of each node, ascending. -/
def llT (o : List (List Int)) : List AV := o.map fun S => .list 1 (ints S)
def rws (R : List (List Int)) : List AV := R.map fun r => .own 1 (ints r)
def lsF (R : List (List Int)) (e : Ed) : List (List Int) := (R.set e.1.toNat (R.getD e.1.toNat [] ++ [e.2])).set e.2.toNat (R.getD e.2.toNat [] ++ [e.1])
theorem lsF_length (R : List (List Int)) (e : Ed) : (lsF R e).length = R.length := by simp [lsF]
def liSt (N : Nat) (Es : List Ed) (R : List (List Int)) (i : Nat) (J : Env) : St := ⟨(3, .sl 1 1 0 N) :: (12, .list 2 (eds Es)) :: (13, .int .i64 Es.length) :: (14, .int .i64 i) :: J, [some [.int .i64 N, .list 2 (eds Es)], some (rws R)]⟩
def lsSt (N : Nat) (Es : List Ed) (R : List (List Int)) (i : Nat) (J : Env) : St := ⟨(3, .sl 1 1 0 N) :: (45, .sl 1 1 0 N) :: (46, .int .i64 N) :: (47, .int .i64 i) :: J, [some [.int .i64 N, .list 2 (eds Es)], some (rws R)]⟩
def lstE (N : Nat) (Es : List Ed) : List (List Int) := (Es.foldl lsF (List.replicate N [])).map isort
theorem foldl_len (Es : List Ed) : ∀ R : List (List Int), (Es.foldl lsF R).length = R.length := by
 induction Es with
 | nil => intro R; rfl
 | cons e r ih => intro R; rw [List.foldl_cons, ih, lsF_length]
/- The neighbours that triangles.lists computes: plain law. -/
def nbF (u : Int) (e : Ed) : Option Int := if e.1 = u then some e.2 else if e.2 = u then some e.1 else none
theorem lsF_get {R : List (List Int)} {e : Ed} {u : Nat} (hu : u < R.length) (h0 : 0 <= e.1) (h1 : e.1 < e.2) : (lsF R e).getD u [] = R.getD u [] ++ (nbF u e).toList := by
 unfold lsF nbF
 simp only [List.getD_eq_getElem?_getD]
 by_cases k1 : e.1 = (u : Int)
 ·have k2 : ¬ e.2 = (u : Int) := by omega
  rw [if_pos k1, List.getElem?_set_ne (by omega), show e.1.toNat = u by omega, List.getElem?_set_self hu]
  rfl
 ·rw [if_neg k1]
  by_cases k2 : e.2 = (u : Int)
  ·rw [if_pos k2, show e.2.toNat = u by omega, List.getElem?_set_self (by simpa using hu)]
   rfl
  ·rw [if_neg k2, List.getElem?_set_ne (by omega), List.getElem?_set_ne (by omega)]
   simp
theorem foldl_get {N : Nat} {u : Nat} (hu : u < N) : ∀ (Es : List Ed) (R : List (List Int)), R.length = N -> (∀ e ∈ Es, 0 <= e.1 /\ e.1 < e.2) -> (Es.foldl lsF R).getD u [] = R.getD u [] ++ Es.filterMap (nbF u)
 | [], R, _, _ => by simp
 | e :: r, R, hR, h => by
   have he := h e (by simp)
   rw [List.foldl_cons, foldl_get hu r (lsF R e) (by rw [lsF_length]; exact hR) (fun x hx => h x (by simp [hx])), lsF_get (by omega) he.1 he.2, List.filterMap_cons, List.append_assoc]
   congr 1
   cases nbF u e <;> simp
def nbr (N : Nat) (Es : List Ed) (u : Int) : List Int := (lstE N Es).getD u.toNat []
theorem nbr_eq {N : Nat} {Es : List Ed} {u : Nat} (hu : u < N) (h : ∀ e ∈ Es, 0 <= e.1 /\ e.1 < e.2) : nbr N Es u = isort (Es.filterMap (nbF u)) := by
 have := foldl_get hu Es (List.replicate N []) (by simp) h
 have e0 : (List.replicate N ([] : List Int)).getD u [] = [] := by rw [List.getD_eq_getElem?_getD, List.getElem?_replicate, if_pos hu]; rfl
 rw [e0, List.nil_append] at this
 unfold nbr lstE
 have hl : u < (Es.foldl lsF (List.replicate N [])).length := by rw [foldl_len, List.length_replicate]; exact hu
 rw [show ((u : Int)).toNat = u by omega, List.getD_eq_getElem?_getD, List.getElem?_map]
 rw [List.getD_eq_getElem?_getD] at this
 rw [List.getElem?_eq_getElem hl] at this ⊢
 simp at this ⊢
 rw [this]
theorem nbF_some {u x : Int} {e : Ed} : nbF u e = some x ↔ (e.1 = u /\ e.2 = x) \/ (e.1 ≠ u /\ e.2 = u /\ e.1 = x) := by
 unfold nbF
 split
 ·rename_i h; simp [h]
 ·rename_i h
  split
  ·rename_i h2; simp [h, h2]
  ·rename_i h2; simp [h, h2]
theorem nbr_mem {N : Nat} {Es : List Ed} (hG : GOK (N : Int) Es) {u : Int} (h0 : 0 <= u) (h1 : u < N) (x : Int) : x ∈ nbr N Es u ↔ jn Es u x := by
 obtain ⟨w, rfl⟩ : ∃ w : Nat, u = w := ⟨u.toNat, by omega⟩
 rw [nbr_eq (by omega) fun e he => ⟨(hG.2.2 e he).1, (hG.2.2 e he).2.1⟩, (isort_perm _).mem_iff, List.mem_filterMap]
 unfold jn
 constructor
 ·rintro ⟨e, he, h⟩
  rcases nbF_some.1 h with ⟨a, b⟩ | ⟨a, b, c⟩
  ·left; rw [<- a, <- b]; exact he
  ·right; rw [<- b, <- c]; exact he
 ·rintro (h | h)
  ·exact ⟨_, h, nbF_some.2 (.inl ⟨rfl, rfl⟩)⟩
  ·have := (hG.2.2 _ h).2.1
   exact ⟨_, h, nbF_some.2 (.inr ⟨by simp only at this ⊢; omega, rfl, rfl⟩)⟩
theorem nbr_up {N : Nat} {Es : List Ed} (hG : GOK (N : Int) Es) {u : Int} (h0 : 0 <= u) (h1 : u < N) : Up (nbr N Es u) := by
 obtain ⟨w, rfl⟩ : ∃ w : Nat, u = w := ⟨u.toNat, by omega⟩
 rw [nbr_eq (by omega) fun e he => ⟨(hG.2.2 e he).1, (hG.2.2 e he).2.1⟩]
 have nd : (Es.filterMap (nbF w)).Nodup := by
  have hp : Es.Pairwise (fun a b => ltE a b /\ (a.1 < a.2 /\ b.1 < b.2)) := by
   refine List.Pairwise.imp_of_mem (fun {a b} ha hb h => ⟨h, (hG.2.2 a ha).2.1, (hG.2.2 b hb).2.1⟩) hG.2.1
  refine List.Pairwise.filterMap _ (fun a b h x hx y hy e => ?_) hp
  subst e
  obtain ⟨h1, h2, h3⟩ := h
  have : a = b := by
   rcases nbF_some.1 hx with ⟨p, q⟩ | ⟨p, q, r⟩ <;> rcases nbF_some.1 hy with ⟨p', q'⟩ | ⟨p', q', r'⟩
   ·exact Prod.ext (by omega) (by omega)
   ·exfalso; omega
   ·exfalso; omega
   ·exact Prod.ext (by omega) (by omega)
  subst this
  exact ltE_irr h1
 have nd2 : (isort (Es.filterMap (nbF w))).Nodup := (isort_perm _).nodup_iff.2 nd
 refine List.Pairwise.imp₂ (fun {a b} h1 h2 => ?_) (isort_asc _) nd2
 omega
theorem jn_bd {N : Nat} {Es : List Ed} (hG : GOK (N : Int) Es) {u x : Int} (h : jn Es u x) : (0 <= u /\ u < N) /\ (0 <= x /\ x < N) /\ u ≠ x := by
 rcases h with h | h <;> (have := hG.2.2 _ h; simp only at this; omega)
def com (N : Nat) (Es : List Ed) (e : Ed) : List Int := shr (nbr N Es e.1) (nbr N Es e.2)
def bump (n : List Int) (w : Int) : List Int := n.set w.toNat (n.getD w.toNat 0 + 1)
def triN (N : Nat) (Es : List Ed) : List Int := Es.foldl (fun n e => (com N Es e).foldl bump n) (List.replicate N 0)
def triS (N : Nat) (Es : List Ed) : Nat := (Es.map fun e => (com N Es e).length).sum
/- The neighbours and the degree of a node, by the reference. -/
def nbG (v : Int) (e : Ed) : List Int := (if e.1 = v then [e.2] else []) ++ (if e.2 = v then [e.1] else [])
def nbSt (v : Int) (Es : List Ed) (o : List Int) (i : Nat) (J : Env) : St := ⟨(1, .int .i64 v) :: (5, .own 1 (ints o)) :: (12, .list 2 (eds Es)) :: (13, .int .i64 Es.length) :: (14, .int .i64 i) :: J, []⟩
theorem nb_round (v : Int) (Es : List Ed) (hE : Es.length < 1000000) (i : Nat) (hi : i < Es.length) (o : List Int) (ho : o.length < 4294967290) : codeL cfgS 0 lQFX0 (nbSt v Es o i []) = some (.normal, nbSt v Es (o ++ nbG v Es[i]) (i + 1) []) := by
 have k1 : (i : Int) < Es.length := by omega
 have hw := wrapS (i := i) (by omega)
 have g3 : (eds Es)[i]? = some (.agg [.int .i64 Es[i].1, .int .i64 Es[i].2]) := by rw [eds_get, List.getElem?_eq_getElem hi]; simp [edAV]
 have g4 : ∀ h, (eds Es)[i]'h = .agg [.int .i64 Es[i].1, .int .i64 Es[i].2] := fun h => by
  have := List.getElem?_eq_getElem (l := eds Es) h
  rw [g3] at this
  exact (Option.some.inj this).symm
 have g5 := eds_length Es
 have l1 : o.length + 1 <= 4294967296 := by omega
 have l2 : (o ++ [Es[i].2]).length + 1 <= 4294967296 := by simp; omega
 have l3 : o.length + 1 + 1 <= 4294967296 := by omega
 generalize Es[i] = e at *
 obtain ⟨a, b⟩ := e
 unfold nbSt lQFX0 nbG
 generalize eds Es = Y at *
 have t2 : List.take (o.length + 1) (ints (o ++ [b])) = ints (o ++ [b]) := List.take_of_length_le (by simp [ints])
 have t3 : List.take (o.length + 2) (o ++ [v, v]) = o ++ [v, v] := List.take_of_length_le (by simp)
 by_cases h1 : a = v
 ·by_cases h2 : b = v
  ·simp [rQFX0, rQFX1, rQFX2, rQFX3, rQFX4, rQFX5, rQFX6, rQFX7, rQFX8, rQFX9, rQFX10, rQFX11, rQFX12, k1, hi, hw, g3, g4, g5, l1, l2, l3, t2, t3, h1, h2, LIM, idx, blk, ints_length, ints_snoc, ints_take]
  ·simp [rQFX0, rQFX1, rQFX2, rQFX3, rQFX4, rQFX5, rQFX6, rQFX7, rQFX8, rQFX9, rQFX10, rQFX11, rQFX12, k1, hi, hw, g3, g4, g5, l1, l2, h1, h2, LIM, idx, blk, ints_length, ints_snoc, ints_take]
 ·by_cases h2 : b = v
  ·simp [rQFX0, rQFX1, rQFX2, rQFX3, rQFX4, rQFX5, rQFX6, rQFX7, rQFX8, rQFX9, rQFX10, rQFX11, rQFX12, k1, hi, hw, g3, g4, g5, l1, l2, h1, h2, LIM, idx, blk, ints_length, ints_snoc, ints_take]
  ·simp [rQFX0, rQFX1, rQFX2, rQFX3, rQFX4, rQFX5, rQFX6, rQFX7, rQFX8, rQFX9, rQFX10, rQFX11, rQFX12, k1, hi, hw, g3, g4, g5, l1, l2, h1, h2, LIM, idx, blk, ints_length, ints_snoc, ints_take]
theorem nbG_len (v : Int) (e : Ed) : (nbG v e).length <= 2 := by
 unfold nbG; split <;> split <;> simp
theorem nb_loop (v : Int) (Es : List Ed) (hE : Es.length < 1000000) : ∀ (k i : Nat) (o : List Int), i + k = Es.length -> o.length <= 2 * i -> codeL cfgS 0 (.loop lQFX0) (nbSt v Es o i []) = some (.exit 0, nbSt v Es (o ++ ((Es.drop i).map (nbG v)).flatten) Es.length [(15, .bool false)])
 | 0, i, o, hi, ho => by
   obtain rfl : i = Es.length := by omega
   rw [List.drop_length, List.map_nil, List.flatten_nil, List.append_nil]
   refine loop_exit ?_
   unfold nbSt lQFX0
   generalize eds Es = Y at *
   simp [rQFX0, rQFX1, rQFX2, rQFX3, rQFX4, rQFX5, rQFX6, rQFX7, rQFX8, rQFX9, rQFX10, rQFX11, rQFX12]
 | k + 1, i, o, hi, ho => by
   have hlt : i < Es.length := by omega
   have := nbG_len v Es[i]
   have ih := nb_loop v Es hE k (i + 1) (o ++ nbG v Es[i]) (by omega) (by simp; omega)
   rw [List.append_assoc] at ih
   rw [List.drop_eq_getElem_cons hlt, List.map_cons, List.flatten_cons]
   exact (loop_next (nb_round v Es hE i hlt o (by omega))).trans ih
theorem nb_set {N : Nat} {Es : List Ed} (hG : GOK (N : Int) Es) {v : Int} (h0 : 0 <= v) (h1 : v < N) : setOf (Es.map (nbG v)).flatten = nbr N Es v := by
 refine up_ext (setOf_spec _).1 (nbr_up hG h0 h1) fun x => ?_
 rw [(setOf_spec _).2, nbr_mem hG h0 h1, List.mem_flatten]
 unfold jn
 constructor
 ·rintro ⟨l, hl, hx⟩
  obtain ⟨e, he, rfl⟩ := List.mem_map.1 hl
  unfold nbG at hx
  rcases List.mem_append.1 hx with h | h
  ·split at h
   ·rename_i k; simp at h; subst h; left; rw [<- k]; exact he
   ·cases h
  ·split at h
   ·rename_i k; simp at h; subst h; right; rw [<- k]; exact he
   ·cases h
 ·rintro (h | h)
  ·exact ⟨_, List.mem_map.2 ⟨_, h, rfl⟩, by simp [nbG]⟩
  ·exact ⟨_, List.mem_map.2 ⟨_, h, rfl⟩, by simp [nbG]⟩
theorem neighbours_run {N : Nat} {Es : List Ed} (hG : GOK (N : Int) Es) (hE : Es.length < 1000000) {v : Int} (h0 : 0 <= v) (h1 : v < N) : callL cfgS nQF [.agg [.int .i64 N, .list 2 (eds Es)], .int .i64 v] [] = some (.list 1 (ints (nbr N Es v)), []) := by
 have g := rchk_run N Es (by omega)
 rw [chkG_zero.2 hG] at g
 have lp := nb_loop v Es hE Es.length 0 [] (by omega) (by simp)
 rw [List.drop_zero, List.nil_append] at lp
 have bl : (Es.map (nbG v)).flatten.length <= 2 * Es.length := by
  have : ∀ l : List Ed, (l.map (nbG v)).flatten.length <= 2 * l.length := by
   intro l
   induction l with
   | nil => simp
   | cons e r ih =>
     have := nbG_len v e
     simp only [List.map_cons, List.flatten_cons, List.length_append, List.length_cons]
     omega
  exact this Es
 have of := of_run (Es.map (nbG v)).flatten (by omega)
 rw [nb_set hG h0 h1] at of
 have tk : List.take (Es.map (nbG v)).flatten.length (ints (Es.map (nbG v)).flatten) = ints (Es.map (nbG v)).flatten := List.take_of_length_le (by rw [ints_length]; omega)
 have g5 := eds_length Es
 have g6 := ints_length (Es.map (nbG v)).flatten
 unfold nbSt at lp
 rw [nat0, ints_nil] at lp
 rw [callL_end oQF sQF (Nat.le_of_ble_eq_true rfl)]
 unfold qQF cQF
 generalize (Es.map (nbG v)).flatten = fl at *
 cases fl with
 | nil =>
   rw [ints_nil] at *
   generalize eds Es = Y at *
   generalize ints (nbr N Es v) = nv at *
   simp [rQFX0, rQFX1, rQFX2, rQFX3, rQFX4, rQFX5, rQFX6, rQFX7, rQFX8, rQFX9, rQFX10, rQFX11, rQFX12, g, lp, of, tk, g5, g6, blk, sQp, iQp, sQQ, iQQ, plL, pl, endL, finB]
 | cons x r =>
   rw [ints_cons] at *
   rw [List.length_cons] at *
   generalize eds Es = Y at *
   generalize ints (nbr N Es v) = nv at *
   generalize ints r = rr at *
   simp [rQFX0, rQFX1, rQFX2, rQFX3, rQFX4, rQFX5, rQFX6, rQFX7, rQFX8, rQFX9, rQFX10, rQFX11, rQFX12, g, lp, of, tk, g5, g6, blk, sQp, iQp, sQQ, iQQ, plL, pl, endL, finB]
theorem degree_run {N : Nat} {Es : List Ed} (hG : GOK (N : Int) Es) (hE : Es.length < 1000000) {v : Int} (h0 : 0 <= v) (h1 : v < N) : callL cfgS nQw [.agg [.int .i64 N, .list 2 (eds Es)], .int .i64 v] [] = some (.int .i64 (nbr N Es v).length, []) := by
 have nr := neighbours_run hG hE h0 h1
 have g6 := ints_length (nbr N Es v)
 rw [callL_end oQw sQw (Nat.le_of_ble_eq_true rfl)]
 unfold qQw cQw
 generalize eds Es = Y at *
 generalize ints (nbr N Es v) = nv at *
 simp [rQwX0, rQwX1, nr, g6, blk, sQF, iQF, plL, pl, endL, finB]
/- Counting triangles: plain sums. -/
def sm : Nat -> (Nat -> Nat) -> Nat
 | 0, _ => 0
 | n + 1, f => sm n f + f n
theorem sm_congr {f g : Nat -> Nat} : ∀ {n : Nat}, (∀ i, i < n -> f i = g i) -> sm n f = sm n g
 | 0, _ => rfl
 | n + 1, h => by rw [sm, sm, sm_congr fun i hi => h i (by omega), h n (by omega)]
theorem sm_add (f g : Nat -> Nat) : ∀ n, sm n (fun i => f i + g i) = sm n f + sm n g
 | 0 => rfl
 | n + 1 => by simp only [sm, sm_add f g n]; omega
theorem sm_mul (c : Nat) (f : Nat -> Nat) : ∀ n, sm n (fun i => c * f i) = c * sm n f
 | 0 => rfl
 | n + 1 => by simp only [sm, sm_mul c f n, Nat.mul_add]
theorem sm_zero : ∀ n, sm n (fun _ => 0) = 0
 | 0 => rfl
 | n + 1 => by simp [sm, sm_zero n]
theorem sm_one : ∀ n, sm n (fun _ => 1) = n
 | 0 => rfl
 | n + 1 => by simp [sm, sm_one n]
theorem sm_sq (g : Nat -> Nat -> Nat) (h : ∀ u, g u u = 0) : ∀ n, sm n (fun u => sm n fun v => g u v) = sm n fun v => sm v fun u => g u v + g v u
 | 0 => rfl
 | n + 1 => by
   have e : sm (n + 1) (fun u => sm (n + 1) fun v => g u v) = (sm n (fun u => sm n fun v => g u v) + sm n fun u => g u n) + (sm n (fun v => g n v) + g n n) := by
    simp only [sm]
    rw [sm_add (fun u => sm n fun v => g u v) (fun u => g u n) n]
   rw [e, sm_sq g h n, h n]
   simp only [sm]
   rw [sm_add (fun u => g u n) (fun u => g n u) n]
   omega
def sm3 (n : Nat) (f : Nat -> Nat -> Nat -> Nat) : Nat := sm n fun u => sm n fun v => sm n fun w => f u v w
def trip (n : Nat) (f : Nat -> Nat -> Nat -> Nat) : Nat := sm n fun w => sm w fun v => sm v fun u => f u v w
/- The numbers of triangles as sums over nodes: plain law. -/
instance jnD (E : List Ed) (a b : Int) : Decidable (jn E a b) := by unfold jn; infer_instance
def ad (Es : List Ed) (u v : Nat) : Nat := if jn Es u v then 1 else 0
theorem ad_symm (Es : List Ed) (u v : Nat) : ad Es u v = ad Es v u := by
 unfold ad
 have : jn Es u v ↔ jn Es v u := by unfold jn; exact Or.comm
 by_cases h : jn Es u v
 ·rw [if_pos h, if_pos (this.1 h)]
 ·rw [if_neg h, if_neg fun k => h (this.2 k)]
theorem ad_irr {N : Nat} {Es : List Ed} (hG : GOK (N : Int) Es) (u : Nat) : ad Es u u = 0 := by
 unfold ad
 rw [if_neg fun h => (jn_bd hG h).2.2 rfl]
theorem filter_sm (p : Nat -> Bool) : ∀ n, ((List.range n).filter p).length = sm n fun i => if p i = true then 1 else 0
 | 0 => rfl
 | n + 1 => by
   rw [List.range_succ, List.filter_append, List.length_append, filter_sm p n, sm]
   congr 1
   by_cases h : p n = true <;> simp [h]
theorem up_count {N : Nat} {l : List Int} (p : Nat -> Bool) (hu : Up l) (h : ∀ x, x ∈ l ↔ (0 <= x /\ x < (N : Int)) /\ p x.toNat = true) : l.length = sm N fun i => if p i = true then 1 else 0 := by
 have e : l = ((List.range N).filter p).map fun i => ((i : Nat) : Int) := by
  refine up_ext hu ?_ fun x => ?_
  ·refine List.Pairwise.map _ (fun a b h => ?_) ((List.pairwise_lt_range (n := N)).filter p)
   show (a : Int) < b
   omega
  ·rw [h, List.mem_map]
   constructor
   ·rintro ⟨h1, h2⟩
    exact ⟨x.toNat, List.mem_filter.2 ⟨List.mem_range.2 (by omega), h2⟩, by omega⟩
   ·rintro ⟨i, hi, rfl⟩
    obtain ⟨a, b⟩ := List.mem_filter.1 hi
    have := List.mem_range.1 a
    exact ⟨by omega, by rw [show ((i : Nat) : Int).toNat = i by omega]; exact b⟩
 rw [e, List.length_map, filter_sm]
theorem nbr_count {N : Nat} {Es : List Ed} (hG : GOK (N : Int) Es) {u : Nat} (hu : u < N) : (nbr N Es u).length = sm N fun w => ad Es u w := by
 rw [up_count (N := N) (fun w => decide (jn Es u w)) (nbr_up hG (u := u) (by omega) (by omega)) fun x => ?_]
 ·refine sm_congr fun w _ => ?_
  unfold ad
  by_cases h : jn Es u w <;> simp [h]
 ·rw [nbr_mem hG (by omega) (by omega)]
  constructor
  ·intro h
   have := (jn_bd hG h).2.1
   refine ⟨this, ?_⟩
   rw [show ((x.toNat : Nat) : Int) = x by omega]
   exact decide_eq_true h
  ·rintro ⟨h1, h2⟩
   rw [show ((x.toNat : Nat) : Int) = x by omega] at h2
   exact of_decide_eq_true h2
theorem sm_ind (c : Nat -> Nat) (k : Nat) : ∀ n, sm n (fun i => if i = k then c i else 0) = if k < n then c k else 0
 | 0 => by simp [sm]
 | n + 1 => by
   rw [sm, sm_ind c k n]
   by_cases h : n = k
   ·subst h; simp
   ·rw [if_neg h]
    by_cases h2 : k < n
    ·rw [if_pos h2, if_pos (by omega)]; rfl
    ·rw [if_neg h2, if_neg (by omega)]
def inE (Es : List Ed) (u v : Nat) : Nat := if ((u : Int), (v : Int)) ∈ Es then 1 else 0
def tri (N : Nat) (Es : List Ed) : Nat := trip N fun u v w => ad Es u v * ad Es u w * ad Es v w
end Go.BmP
