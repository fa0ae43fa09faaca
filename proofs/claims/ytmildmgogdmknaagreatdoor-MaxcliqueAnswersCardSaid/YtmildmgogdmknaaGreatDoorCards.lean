/-
  DERIVED. GIVEN WITH THE SEED: THE CARDS: each row of YtmildmgogdmknaaGreatDoorRows.lean that lists a variable, with what it lists TIED to the program's text (the seventh form; the later family's looks); each row that meets fmt, with fmt's text TOLD by the authors' own Lean function (tested against real Go, not proved from fmt's source: count such statements apart). THE CARD IS WHAT COUNTS. Prove the row's statement (the work); the ties are given (YtmildmgogdmknaaGreatDoorTie.lean); close each card by the builder's one call (the guide's Derived/Test/ToyasCard.lean, 'card_holds'). Laid BY PROGRAM, IN A SANDBOX (cutbox-door.mjs). By AI agents, Wed Nov 11 2026. No macro, syntax, notation, axiom, sorry.
-/
import Derived.Test.YtmildmgogdmknaaGreatDoorRows
import GoSem.ClaimSeven
namespace Go.Proofs.YtmildmgogdmknaaGreatDoor
namespace Rows

/-- THE TIED CARD OF 'cohesionlaw26.MaxcliqueAnswers'. -/
def maxcliqueAnswersCard : Claim7 := { stood := { row := maxcliqueAnswersRow, standIns := [], harness := (true, "46d29538a59b0b7ecb31d675a02fb15ef4ab3413bbf16e488be747bd5c0e1eae"), looks := false }, kinds := [], alts := [], laidByText := true, laidKinds := [.data], laidTests := true, laidLooks := .later }
def MaxcliqueAnswersCardSaid : Prop := Claim7.holds Tryz.pinned (.plain (OpenSpec.ofChange maxcliqueAnswersSpec)) maxcliqueAnswersCard

/-- THE SECOND FORM's CARD OF 'cohesionlaw26.MaxcliqueAnswers'. -/
def maxcliqueAnswersUptoCard : Claim7 := { stood := { row := maxcliqueAnswersUptoRow, standIns := [], harness := (true, "46d29538a59b0b7ecb31d675a02fb15ef4ab3413bbf16e488be747bd5c0e1eae"), looks := false }, kinds := [], alts := [], laidByText := true, laidKinds := [.data], laidTests := true, laidLooks := .later }
def MaxcliqueAnswersUptoCardSaid : Prop := Claim7.holds Tryz.pinned (.plain (OpenSpec.upto maxcliqueAnswersSpec)) maxcliqueAnswersUptoCard
end Rows
end Go.Proofs.YtmildmgogdmknaaGreatDoor
