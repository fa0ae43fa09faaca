/- Edges and graphs: plain facts. -/
import Derived.Test.YtegmpkeejgflnaaBitP
import Derived.Test.YtegmpkeejgflnaaRunX
set_option linter.unusedVariables false
set_option linter.unusedSimpArgs false
namespace Go.Bm
open Go.Am
abbrev Ed := Int × Int
def edAV (e : Ed) : AV := .agg [.int .i64 e.1, .int .i64 e.2]
def eds (l : List Ed) : List AV := l.map edAV
theorem eds_length (l : List Ed) : (eds l).length = l.length := List.length_map _
theorem eds_get (l : List Ed) (i : Nat) : (eds l)[i]? = (l[i]?).map edAV := List.getElem?_map
theorem edsAt (l : List Ed) (i : Nat) (h : i < (eds l).length) : (eds l)[i] = edAV (l[i]'(by simpa [eds] using h)) := by simp [eds]
theorem eds_snocM (l : List Ed) (u v : Int) : eds l ++ [.agg [.int .i64 u, .int .i64 v]] = eds (l ++ [(u, v)]) := by simp [eds, edAV]
theorem eds_take (l : List Ed) (n : Nat) : (eds l).take n = eds (l.take n) := by simp [eds]
theorem allLeaf_eds (l : List Ed) : allLeaf (flatCells (eds l)) = true := by
 induction l with
 | nil => rfl
 | cons x r ih => simp only [eds, List.map_cons, flatCells, edAV, AV.cells, List.cons_append, List.nil_append, allLeaf, AV.leaf, Bool.true_and] at ih ⊢; exact ih
theorem cleanL_eds (l : List Ed) : cleanL (eds l) = true := by
 induction l with
 | nil => rfl
 | cons x r ih => simp only [eds, List.map_cons, edAV, cleanL, clean, Bool.true_and, Bool.and_true] at ih ⊢; exact ih
theorem cleanL_ints (l : List Int) : cleanL (ints l) = true := by
 induction l with
 | nil => rfl
 | cons x r ih => simp only [ints, List.map_cons, cleanL, clean] at ih ⊢; rw [ih]; rfl
def ltE (a b : Ed) : Prop := a.1 < b.1 \/ a.1 = b.1 /\ a.2 < b.2
instance (a b : Ed) : Decidable (ltE a b) := by unfold ltE; infer_instance
theorem ltE_trans {a b c : Ed} (h : ltE a b) (k : ltE b c) : ltE a c := by unfold ltE at *; omega
theorem ltE_irr {a : Ed} : ¬ ltE a a := by unfold ltE; omega
def UpE (l : List Ed) : Prop := l.Pairwise ltE
def putE (x : Ed) : List Ed -> List Ed
 | [] => [x]
 | y :: r => if ltE y x then y :: putE x r else if y = x then y :: r else x :: y :: r
def posE (x : Ed) : List Ed -> Nat
 | [] => 0
 | y :: r => if ltE y x then posE x r + 1 else 0
def nrmE (u v : Int) : Ed := (if v < u then v else u, if u < v then v else u)
def ofE (l : List Ed) (o : List Ed) : List Ed := l.foldl (fun o e => putE (nrmE e.1 e.2) o) o
def badP : Option Ed -> Ed -> Prop
 | none, _ => False
 | some q, e => ¬ ltE q e
instance : ∀ p e, Decidable (badP p e)
 | none, _ => instDecidableFalse
 | some q, e => inferInstanceAs (Decidable (¬ ltE q e))
def chkGo (n : Int) : Option Ed -> List Ed -> Int
 | _, [] => 0
 | p, e :: r => if e.1 < 0 \/ e.2 <= e.1 \/ n <= e.2 then 6 else if badP p e then 5 else chkGo n (some e) r
def chkG (n : Int) (l : List Ed) : Int := if n < 0 \/ 64 < n then 1 else chkGo n none l
theorem chkGo_zero (n : Int) : ∀ {l : List Ed} {p : Option Ed}, chkGo n p l = 0 ↔ UpE l /\ (∀ e ∈ l, 0 <= e.1 /\ e.1 < e.2 /\ e.2 < n) /\ ∀ q, p = some q -> ∀ e ∈ l, ltE q e
 | [], p => by simp [chkGo, UpE]
 | e :: r, p => by
   have ih := chkGo_zero n (l := r) (p := some e)
   unfold chkGo
   by_cases h1 : e.1 < 0 \/ e.2 <= e.1 \/ n <= e.2
   ·rw [if_pos h1]
    constructor
    ·intro h; cases h
    ·rintro ⟨_, h, _⟩; have := h e (by simp); omega
   ·rw [if_neg h1]
    cases p with
    | none =>
      rw [if_neg (show ¬ badP none e from fun h => h), ih]
      simp only [UpE, List.pairwise_cons, List.mem_cons, forall_eq_or_imp]
      constructor
      ·rintro ⟨a, b, c⟩; exact ⟨⟨fun z hz => c e rfl z hz, a⟩, ⟨by omega, b⟩, fun q hq => by cases hq⟩
      ·rintro ⟨⟨a, b⟩, ⟨c, d⟩, f⟩; exact ⟨b, d, fun q hq => by cases hq; exact a⟩
    | some q =>
      by_cases h2 : ltE q e
      ·rw [if_neg (show ¬ badP (some q) e from fun h => h h2), ih]
       simp only [UpE, List.pairwise_cons, List.mem_cons, forall_eq_or_imp]
       constructor
       ·rintro ⟨a, b, c⟩
        exact ⟨⟨fun z hz => c e rfl z hz, a⟩, ⟨by omega, b⟩, fun q' hq => by cases hq; exact ⟨h2, fun z hz => ltE_trans h2 (c e rfl z hz)⟩⟩
       ·rintro ⟨⟨a, b⟩, ⟨c, d⟩, f⟩; exact ⟨b, d, fun q hq => by cases hq; exact a⟩
      ·rw [if_pos (show badP (some q) e from h2)]
       constructor
       ·intro h; cases h
       ·rintro ⟨_, _, h⟩; exact absurd (h q rfl e (by simp)) h2
def GOK (n : Int) (l : List Ed) : Prop := (0 <= n /\ n <= 64) /\ UpE l /\ ∀ e ∈ l, 0 <= e.1 /\ e.1 < e.2 /\ e.2 < n
theorem chkG_zero {n : Int} {l : List Ed} : chkG n l = 0 ↔ GOK n l := by
 unfold chkG GOK
 by_cases h : n < 0 \/ 64 < n
 ·rw [if_pos h]; constructor
  ·intro h; cases h
  ·rintro ⟨h2, _⟩; omega
 ·rw [if_neg h, chkGo_zero]
  constructor
  ·rintro ⟨a, b, _⟩; exact ⟨by omega, a, b⟩
  ·rintro ⟨_, a, b⟩; exact ⟨a, b, fun q hq => by cases hq⟩
end Go.Bm
