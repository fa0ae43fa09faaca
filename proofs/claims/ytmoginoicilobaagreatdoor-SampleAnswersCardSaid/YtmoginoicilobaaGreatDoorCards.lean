/-
  DERIVED. GIVEN WITH THE SEED: THE CARDS: each row of YtmoginoicilobaaGreatDoorRows.lean that lists a variable, with what it lists TIED to the program's text (the seventh form; the later family's looks); each row that meets fmt, with fmt's text TOLD by the authors' own Lean function (tested against real Go, not proved from fmt's source: count such statements apart). THE CARD IS WHAT COUNTS. Prove the row's statement (the work); the ties are given (YtmoginoicilobaaGreatDoorTie.lean); close each card by the builder's one call (the guide's Derived/Test/ToyasCard.lean, 'card_holds'). Laid BY PROGRAM, IN A SANDBOX (cutbox-door.mjs). By AI agents, Wed Nov 11 2026. No macro, syntax, notation, axiom, sorry.
-/
import Derived.Test.YtmoginoicilobaaGreatDoorRows
import GoSem.ClaimSeven
namespace Go.Proofs.YtmoginoicilobaaGreatDoor
namespace Rows

/-- THE TIED CARD OF 'cohesionlaw33.SampleAnswers'. -/
def sampleAnswersCard : Claim7 := { stood := { row := sampleAnswersRow, standIns := [], harness := (true, "b08a2b728899e9dc76586843f5409366735b207dea86c1ff4791b730c3049424"), looks := false }, kinds := [], alts := [], laidByText := true, laidKinds := [.data], laidTests := true, laidLooks := .later }
def SampleAnswersCardSaid : Prop := Claim7.holds Tryz.pinned (.plain (OpenSpec.ofChange sampleAnswersSpec)) sampleAnswersCard

/-- THE SECOND FORM's CARD OF 'cohesionlaw33.SampleAnswers'. -/
def sampleAnswersUptoCard : Claim7 := { stood := { row := sampleAnswersUptoRow, standIns := [], harness := (true, "b08a2b728899e9dc76586843f5409366735b207dea86c1ff4791b730c3049424"), looks := false }, kinds := [], alts := [], laidByText := true, laidKinds := [.data], laidTests := true, laidLooks := .later }
def SampleAnswersUptoCardSaid : Prop := Claim7.holds Tryz.pinned (.plain (OpenSpec.upto sampleAnswersSpec)) sampleAnswersUptoCard
end Rows
end Go.Proofs.YtmoginoicilobaaGreatDoor
