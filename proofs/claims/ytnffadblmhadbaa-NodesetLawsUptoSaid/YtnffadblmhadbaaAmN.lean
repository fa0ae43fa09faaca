/- Rows of ints by value. -/
import Derived.Test.YtnffadblmhadbaaAmM
namespace Go.Am
/-- A row of ints by value. -/
def ints (l : List Int) : AV := .list 1 (l.map (AV.int .i64))
theorem flatCells_ints (k : IntKind) (xs : List Int) : flatCells (xs.map (AV.int k)) = xs.map (AV.int k) := by
  induction xs with
  | nil => rfl
  | cons x r ih => simp [flatCells, AV.cells, ih]
theorem allLeaf_ints (k : IntKind) (xs : List Int) : allLeaf (xs.map (AV.int k)) = true := by
  induction xs with
  | nil => rfl
  | cons x r ih => simp [allLeaf, AV.leaf, ih]
theorem mapF_ints {f : AV → Option (AV × List Nat)} (k : IntKind) (h : ∀ n, f (.int k n) = some (.int k n, [])) (xs : List Int) : mapF f (xs.map (AV.int k)) = some (xs.map (AV.int k), []) := by
  induction xs with
  | nil => rfl
  | cons x r ih => simp [mapF, h, ih]
theorem grp_ints (k : IntKind) (xs : List Int) : grp 1 xs.length (xs.map (AV.int k)) = xs.map (AV.int k) := by
  induction xs with
  | nil => rfl
  | cons x r ih => simp [grp, el, ih]
theorem frz_ints {H : Heap} {b : Nat} (k : IntKind) (xs : List Int) {n : Nat} (hn : n = xs.length) (h : blk H b = some (xs.map (AV.int k))) : frz H DEEP (.sl 1 b 0 n) = some (.list 1 (xs.map (AV.int k)), [b]) := by
  subst hn
  unfold DEEP frz
  simp only [h]
  rw [if_pos (by simp)]
  have e : (List.drop 0 (xs.map (AV.int k))).take (xs.length * 1) = xs.map (AV.int k) := by rw [Nat.mul_one, List.drop_zero]; exact List.take_of_length_le (by simp)
  rw [e, mapF_ints k (fun n => rfl) xs]
  simp only [grp_ints]
theorem frz_list {H : Heap} (k : Nat) (xs : List AV) : frz H DEEP (.list k xs) = some (.list k xs, []) := rfl
/-- A call by its body, on a heap of its own. -/
theorem Pu.ofW {c : Cfg} {f : Nat} {md : Md} {q : AFn} {args : List AV} {d : AV} (ho : c.orc f = none) (hf : c.fn f = some (md, q)) (hl : args.length ≤ q.n)
    (h : W c q.body ⟨mkEnv 0 args, []⟩ (fun e s => (e = .ret ∨ e = .normal) ∧ ∃ vs, resL s.H s.env q.res = some vs ∧ ∃ bs, frz s.H DEEP (tupOf vs) = some (d, bs))) : Pu c f args d := by
  obtain ⟨n, e, s, h1, he, vs, h2, bs, h3⟩ := h
  refine ⟨n, fun m hm => ?_⟩
  refine ⟨tupOf vs, s.H, bs, ?_, h3⟩
  unfold callW
  rcases he with rfl | rfl <;> simp only [ho, hf, hl, if_true, h1 m hm, h2]
end Go.Am
