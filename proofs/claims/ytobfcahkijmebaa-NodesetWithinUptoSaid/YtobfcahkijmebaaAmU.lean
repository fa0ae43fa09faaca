/- How many ints a slice of small bulk holds. -/
import Derived.Test.YtobfcahkijmebaaRows
import Derived.ProofKit
import Derived.OpenShut
namespace Go.Proofs.Ytobfcahkijmebaa
open Go.ChangeShapes
theorem bulkLits {H : Type} (k : IntKind) (zs : List Int) : Rows.uptoBulkAll (lits (H := H) k zs) = zs.length := by
  induction zs with
  | nil => rfl
  | cons z r ih =>
    simp only [lits, List.map_cons] at ih ⊢
    simp only [Rows.uptoBulkAll, Rows.uptoBulk, List.length_cons, ih]
    omega
theorem bulkRow {H : Type} (k : IntKind) (xs ys : List Int) : xs.length ≤ Rows.uptoBulk (.slice (lits (H := H) k xs) (lits k ys)) := by
  simp only [Rows.uptoBulk, bulkLits]
  omega
theorem bulkIs {H : Type} {l : List (DataW H)} (hk : Rows.uptoSmall H l = true) : Rows.uptoBulkAll l ≤ 1048576 := of_decide_eq_true hk
end Go.Proofs.Ytobfcahkijmebaa
