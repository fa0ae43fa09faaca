/- Rows of ints that came in, by value. -/
import Derived.Test.YtnffadblmhadbaaAmN
import Derived.ProofKit
import Derived.WalkKit
import Derived.OpenShut
namespace Go.Am
open Go.ChangeShapes Go.WideShapes
/-- A slice of integers that came in: nil, or a row of 'cap' cells of which the first 'len' are its elements. -/
def IsRow (k : IntKind) (w : World) (a : Option Addr) (len cap : Nat) (zs : List Int) : Prop :=
  (a = none ∧ len = 0 ∧ cap = 0 ∧ zs = []) ∨
  ∃ x, a = some x ∧ len ≤ cap ∧ cap ≤ maxLen ∧ zs.length = cap ∧ (∀ i, i < zs.length → w.cell? (x.add i) = some (.int k (zs.getD i 0))) ∧ ∀ n ∈ zs, (Lit.int k n).wf = true
theorem rowRep {k : IntKind} {w : World} {a : Option Addr} {len cap : Nat} {zs : List Int} (h : IsRow k w a len cap zs) : Rep (Rd (fun _ => False) [] w) [] (.list 1 ((zs.take len).map (AV.int k))) (.slice a len cap) := by
  rcases h with ⟨rfl, rfl, rfl, rfl⟩ | ⟨x, rfl, hl, hm, hz, hcell, hwz⟩
  · exact .lst0 _ _
  · refine .lst _ 1 _ x len cap (fun i _ => .int k (zs.getD i 0)) (by simp; omega) hl ?_ ?_ ?_
    · intro y hy
      obtain ⟨n, _, rfl⟩ := List.mem_map.mp hy
      rfl
    · intro i j y c hy hc
      have hi : i < ((zs.take len).map (AV.int k)).length := (List.getElem?_eq_some_iff.mp hy).1
      simp at hi
      rw [List.getElem?_map] at hy
      cases hz' : (zs.take len)[i]? with
      | none => rw [hz'] at hy; cases hy
      | some n =>
        rw [hz'] at hy
        cases hy
        cases j with
        | succ j => simp [AV.cells] at hc
        | zero => exact ⟨id, Owned.nil _, by simpa using hcell i (by omega)⟩
    · intro i j y c hy hc
      rw [List.getElem?_map] at hy
      cases hz' : (zs.take len)[i]? with
      | none => rw [hz'] at hy; cases hy
      | some n =>
        rw [hz'] at hy
        cases hy
        cases j with
        | succ j => simp [AV.cells] at hc
        | zero =>
          simp [AV.cells] at hc
          subst hc
          have e : zs.getD i 0 = n := by
            rw [List.getElem?_take] at hz'
            split at hz'
            · simp [List.getD, hz']
            · cases hz'
          rw [e]
          exact .int _ _ _
theorem ARel.nil {X : Nat → Prop} {φ : Phi} {w : World} : ARel X φ w [] #[] := ⟨rfl, fun i x v h => by simp at h⟩
theorem ARel.cons {X : Nat → Prop} {φ : Phi} {w : World} {x : AV} {v : Value} {xs : List AV} {vs : List Value} (h : Rep (Rd X φ w) φ x v) (r : ARel X φ w xs vs.toArray) : ARel X φ w (x :: xs) (v :: vs).toArray := by
  obtain ⟨r1, r2⟩ := r
  refine ⟨by simpa using r1, fun i y u hy hu => ?_⟩
  cases i with
  | zero =>
    simp at hy hu
    subst hy hu
    exact h
  | succ i =>
    refine r2 i y u (by simpa using hy) (by simpa using hu)
/-- An answer that is a bool. -/
theorem rep_bool_eq {R : Addr → Value → Prop} {φ : Phi} {b : Bool} {v : Value} (h : Rep R φ (.bool b) v) : v = .bool b := by cases h; rfl
theorem calls_bool {P : Program} {c : Cfg} (hok : CfgOK P c) (horc : OrcOK P c) (hgl : ∀ g, c.gl g = []) {f : Nat} {m : Md} {q : AFn} (hf : c.fn f = some (m, q)) {args : List AV} {b : Bool} (h : Pu c f args (.bool b)) {w : World} {vargs : Array Value}
    (ha : ARel (fun _ => False) [] w args vargs) : Calls P f vargs w (fun e w' => e = .returned (.bool b) ∧ RowKit.Below w.heap.size w w') := by
  obtain ⟨n, h⟩ := h
  obtain ⟨r, H1, bs, h1, h2⟩ := h n (Nat.le_refl _)
  have hr : r = .bool b := by
    unfold DEEP frz at h2
    split at h2 <;> (try split at h2) <;> (try split at h2) <;> (try split at h2) <;> simp at h2
    exact h2.1
  subst hr
  refine (calls_of hok horc hf h1 ha (fun g => ?_)).mono ?_
  · rw [hgl g]
    exact .fptr _ _ _ (fun _ => undef) (fun j c hj => by simp at hj) (fun j c hj => by simp at hj)
  · rintro e w' ⟨v, φ', rfl, hr, hb⟩
    rw [rep_bool_eq hr]
    exact ⟨rfl, hb⟩
end Go.Am
