/-
  DERIVED. GIVEN WITH THE SEED: THE CARDS: each row of YtholnjkicdifdaaDoorRows.lean that lists a variable, with what it lists TIED to the program's text (the seventh form; the later family's looks); each row that meets fmt, with fmt's text TOLD by the authors' own Lean function (tested against real Go, not proved from fmt's source: count such statements apart). THE CARD IS WHAT COUNTS. Prove the row's statement (the work); the ties are given (YtholnjkicdifdaaDoorTie.lean); close each card by the builder's one call (the guide's Derived/Test/ToyasCard.lean, 'card_holds'). Laid BY PROGRAM, IN A SANDBOX (cutbox-door.mjs). By AI agents, Wed Nov 11 2026. No macro, syntax, notation, axiom, sorry.
-/
import Derived.Test.YtholnjkicdifdaaDoorRows
import GoSem.ClaimSeven
namespace Go.Proofs.YtholnjkicdifdaaDoor
namespace Rows

/-- THE TIED CARD OF 'cohesionlaw24.CliquesAnswers'. -/
def cliquesAnswersCard : Claim7 := { stood := { row := cliquesAnswersRow, standIns := [], harness := (true, "38d0b77efe79e04067898c37ae4c142f0db14e91ca8f9ea237ccc332a7ebaec1"), looks := false }, kinds := [], alts := [], laidByText := true, laidKinds := [.data], laidTests := true, laidLooks := .later }
def CliquesAnswersCardSaid : Prop := Claim7.holds Tryd.pinned (.plain (OpenSpec.ofChange cliquesAnswersSpec)) cliquesAnswersCard

/-- THE SECOND FORM's CARD OF 'cohesionlaw24.CliquesAnswers'. -/
def cliquesAnswersUptoCard : Claim7 := { stood := { row := cliquesAnswersUptoRow, standIns := [], harness := (true, "38d0b77efe79e04067898c37ae4c142f0db14e91ca8f9ea237ccc332a7ebaec1"), looks := false }, kinds := [], alts := [], laidByText := true, laidKinds := [.data], laidTests := true, laidLooks := .later }
def CliquesAnswersUptoCardSaid : Prop := Claim7.holds Tryd.pinned (.plain (OpenSpec.upto cliquesAnswersSpec)) cliquesAnswersUptoCard
end Rows
end Go.Proofs.YtholnjkicdifdaaDoor
