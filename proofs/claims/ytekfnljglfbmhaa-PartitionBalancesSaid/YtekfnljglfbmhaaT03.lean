/- What triangles.lists returns: the neighbours of each node, ascending. -/
import Derived.Test.YtekfnljglfbmhaaT02
set_option linter.unusedSimpArgs false
set_option linter.unusedVariables false
set_option maxRecDepth 100000
set_option maxHeartbeats 4000000
namespace Go.BmP
open Go.Am Go.Bm
def llT (o : List (List Int)) : List AV := o.map fun S => .list 1 (ints S)
theorem llT_get (o : List (List Int)) (i : Nat) : (llT o)[i]? = (o[i]?).map fun S => .list 1 (ints S) := List.getElem?_map
theorem llT_length (o : List (List Int)) : (llT o).length = o.length := List.length_map _
def rws (R : List (List Int)) : List AV := R.map fun r => .own 1 (ints r)
theorem rws_get (R : List (List Int)) (i : Nat) : (rws R)[i]? = (R[i]?).map fun S => .own 1 (ints S) := List.getElem?_map
theorem rws_length (R : List (List Int)) : (rws R).length = R.length := List.length_map _
theorem rws_set (R : List (List Int)) (i : Nat) (S : List Int) : (rws R).set i (.own 1 (ints S)) = rws (R.set i S) := by simp [rws, List.map_set]
theorem rws_cels (R : List (List Int)) : Cels (rws R) := fun c hc => by
  obtain ⟨r, _, rfl⟩ := List.mem_map.1 hc
  exact .inl ⟨_, rfl⟩
theorem rws_frz : ∀ R : List (List Int), frzCL (rws R) = some (llT R)
  | [] => rfl
  | r :: R => by
    have := rws_frz R
    simp only [rws, llT, List.map_cons, frzCL, frzC] at this ⊢
    rw [this]
theorem rws_zero (N : Nat) : rep [.own 1 []] N = rws (List.replicate N []) := by
  induction N with
  | zero => rfl
  | succ n ih => rw [rep, ih]; rfl
/-- An edge's ends are put into each other's lists. -/
def lsF (R : List (List Int)) (e : Ed) : List (List Int) := (R.set e.1.toNat (R.getD e.1.toNat [] ++ [e.2])).set e.2.toNat (R.getD e.2.toNat [] ++ [e.1])
theorem lsF_length (R : List (List Int)) (e : Ed) : (lsF R e).length = R.length := by simp [lsF]
def liSt (N : Nat) (Es : List Ed) (R : List (List Int)) (i : Nat) (J : Env) : St := ⟨(3, .sl 1 1 0 N) :: (12, .list 2 (eds Es)) :: (13, .int .i64 Es.length) :: (14, .int .i64 i) :: J, [some [.int .i64 N, .list 2 (eds Es)], some (rws R)]⟩
theorem lsF_bd {R : List (List Int)} {e : Ed} {n : Nat} (h : ∀ r ∈ R, r.length ≤ n) : ∀ r ∈ lsF R e, r.length ≤ n + 1 := by
  have gd : ∀ k, (R.getD k []).length ≤ n := fun k => by
    rw [List.getD_eq_getElem?_getD]
    cases hk : R[k]? with
    | none => simp
    | some r => exact h r (List.mem_of_getElem? hk)
  intro r hr
  unfold lsF at hr
  rcases List.mem_or_eq_of_mem_set hr with e1 | e1
  · rcases List.mem_or_eq_of_mem_set e1 with e2 | e2
    · have := h r e2; omega
    · subst e2; have := gd e.1.toNat; simp; exact this
  · subst e1; have := gd e.2.toNat; simp; exact this
theorem srt_ints (l : List Int) (h : l.length ≤ 4294967296) : srtG 1 (ints l) [] = some (ints (isort l), none) := by
  unfold srtG
  rw [if_pos (by rw [ints_length]; exact h), ints, intsOf_ints]
  rfl
def lsSt (N : Nat) (Es : List Ed) (R : List (List Int)) (i : Nat) (J : Env) : St := ⟨(3, .sl 1 1 0 N) :: (45, .sl 1 1 0 N) :: (46, .int .i64 N) :: (47, .int .i64 i) :: J, [some [.int .i64 N, .list 2 (eds Es)], some (rws R)]⟩
/-- The neighbours of each node. -/
def lstE (N : Nat) (Es : List Ed) : List (List Int) := (Es.foldl lsF (List.replicate N [])).map isort
theorem foldl_len (Es : List Ed) : ∀ R : List (List Int), (Es.foldl lsF R).length = R.length := by
  induction Es with
  | nil => intro R; rfl
  | cons e r ih => intro R; rw [List.foldl_cons, ih, lsF_length]
theorem foldl_bd (Es : List Ed) : ∀ (R : List (List Int)) (n : Nat), (∀ r ∈ R, r.length ≤ n) → ∀ r ∈ Es.foldl lsF R, r.length ≤ n + Es.length := by
  induction Es with
  | nil => intro R n h; simpa using h
  | cons e r ih =>
    intro R n h x hx
    rw [List.foldl_cons] at hx
    have := ih (lsF R e) (n + 1) (lsF_bd h) x hx
    simp; omega
end Go.BmP
