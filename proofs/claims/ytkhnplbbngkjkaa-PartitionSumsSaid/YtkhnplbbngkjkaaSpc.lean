/- What functions on lists of ints answer, in plain terms. -/
import Derived.Test.YtkhnplbbngkjkaaSetP
set_option linter.unusedVariables false
set_option linter.unusedSimpArgs false
namespace Go.Bm
open Go.Am
def cmpL : List Int -> List Int -> Int
 | [], [] => 0
 | [], _ :: _ => -1
 | _ :: _, [] => 1
 | x :: r, y :: s => if y < x then 1 else if x < y then -1 else cmpL r s
theorem cmpL_zero : ∀ {a b : List Int}, cmpL a b = 0 ↔ a = b
 | [], [] => by simp [cmpL]
 | [], _ :: _ => by simp [cmpL]
 | _ :: _, [] => by simp [cmpL]
 | x :: r, y :: s => by
   have ih := cmpL_zero (a := r) (b := s)
   unfold cmpL
   split
   ·rename_i h; simp; intro e; omega
   ·split
    ·rename_i h; simp; intro e; omega
    ·rw [ih]; simp; intro _; omega
def valGo (n : Int) : Int -> List Int -> Bool
 | _, [] => true
 | p, x :: r => decide (0 <= x) && (decide (x < n) && (decide (p < x) && valGo n x r))
theorem valGo_iff (n : Int) : ∀ {l : List Int} {p : Int}, valGo n p l = true ↔ Up l /\ ∀ x ∈ l, p < x /\ 0 <= x /\ x < n
 | [], p => by simp [valGo, Up]
 | x :: r, p => by
   have ih := valGo_iff n (l := r) (p := x)
   simp only [valGo, Bool.and_eq_true, decide_eq_true_eq, ih, Up, List.pairwise_cons, List.mem_cons, forall_eq_or_imp]
   constructor
   ·rintro ⟨h1, h2, h3, h4, h5⟩
    exact ⟨⟨fun y hy => (h5 y hy).1, h4⟩, ⟨h3, h1, h2⟩, fun y hy => ⟨by have := (h5 y hy).1; omega, (h5 y hy).2⟩⟩
   ·rintro ⟨⟨h1, h2⟩, ⟨h3, h4, h5⟩, h6⟩
    exact ⟨h4, h5, h3, h2, fun y hy => ⟨h1 y hy, (h6 y hy).2⟩⟩
def prev (l : List Int) (i : Nat) : Int := if i = 0 then -1 else l.getD (i - 1) 0
theorem prev_zero (l : List Int) : prev l 0 = -1 := rfl
theorem prev_succ (l : List Int) (i : Nat) (h : i < l.length) : prev l (i + 1) = l[i] := by simp [prev, h]
def putI (x : Int) : List Int -> List Int
 | [] => [x]
 | y :: r => if y < x then y :: putI x r else if y = x then y :: r else x :: y :: r
def pos (x : Int) : List Int -> Nat
 | [] => 0
 | y :: r => if y < x then pos x r + 1 else 0
def ofL (l : List Int) : List Int := l.foldl (fun o x => putI x o) []
end Go.Bm
