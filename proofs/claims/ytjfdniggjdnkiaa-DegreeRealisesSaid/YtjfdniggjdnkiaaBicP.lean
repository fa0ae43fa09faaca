/- Bipartite graphs as bits: plain facts. -/
import Derived.Test.YtjfdniggjdnkiaaGrfP
set_option linter.unusedVariables false
set_option linter.unusedSimpArgs false
namespace Go.Bm
open Go.Am
def us (l : List Nat) : List AV := l.map fun n => .int .u64 ((n : Nat) : Int)
def Small (A : List Nat) : Prop := ∀ x ∈ A, x < 18446744073709551616
def adF (A : List Nat) (e : Ed) : List Nat :=
 (A.set e.1.toNat (A.getD e.1.toNat 0 ||| 2 ^ e.2.toNat)).set e.2.toNat ((A.set e.1.toNat (A.getD e.1.toNat 0 ||| 2 ^ e.2.toNat)).getD e.2.toNat 0 ||| 2 ^ e.1.toNat)
def adjOf (l : List Ed) (A : List Nat) : List Nat := l.foldl adF A
def comL (A : List Nat) (side : Nat) (l : List Int) : Nat := l.foldl (fun s v => s &&& A.getD v.toNat 0) side
structure BOK (N : Nat) (E : List Ed) (L : List Int) : Prop where
 n : N <= 64
 e : UpE E /\ ∀ e ∈ E, 0 <= e.1 /\ e.1 < e.2 /\ e.2 < (N : Int)
 l : Up L /\ ∀ x ∈ L, 0 <= x /\ x < (N : Int)
 s : ∀ e ∈ E, e.1 ∈ L ↔ ¬ e.2 ∈ L
def jn (E : List Ed) (a b : Int) : Prop := (a, b) ∈ E \/ (b, a) ∈ E
instance (E : List Ed) (a b : Int) : Decidable (jn E a b) := by unfold jn; infer_instance
def adjE (N : Nat) (E : List Ed) : List Nat := adjOf E (List.replicate N 0)
def rgt (N : Nat) (L : List Int) : Nat := (2 ^ N - 1) &&& (18446744073709551615 - msk L)
def cR (N : Nat) (E : List Ed) (L S : List Int) : Nat := comL (adjE N E) (rgt N L) (bitL (msk S))
def cL (N : Nat) (E : List Ed) (L : List Int) (r : Nat) : Nat := comL (adjE N E) (msk L) (bitL r)
def clR (N : Nat) (E : List Ed) (L S : List Int) : List Int := bitL (cR N E L S)
def clL (N : Nat) (E : List Ed) (L S : List Int) : List Int := bitL (cL N E L (cR N E L S))
end Go.Bm
