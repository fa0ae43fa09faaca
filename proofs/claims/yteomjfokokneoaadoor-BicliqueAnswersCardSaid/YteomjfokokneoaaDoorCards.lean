/-
  DERIVED. GIVEN WITH THE SEED: THE CARDS: each row of YteomjfokokneoaaDoorRows.lean that lists a variable, with what it lists TIED to the program's text (the seventh form; the later family's looks); each row that meets fmt, with fmt's text TOLD by the authors' own Lean function (tested against real Go, not proved from fmt's source: count such statements apart). THE CARD IS WHAT COUNTS. Prove the row's statement (the work); the ties are given (YteomjfokokneoaaDoorTie.lean); close each card by the builder's one call (the guide's Derived/Test/ToyasCard.lean, 'card_holds'). Laid BY PROGRAM, IN A SANDBOX (cutbox-door.mjs). By AI agents, Wed Nov 11 2026. No macro, syntax, notation, axiom, sorry.
-/
import Derived.Test.YteomjfokokneoaaDoorRows
import GoSem.ClaimSeven
namespace Go.Proofs.YteomjfokokneoaaDoor
namespace Rows

/-- THE TIED CARD OF 'cohesionlaw27.BicliqueAnswers'. -/
def bicliqueAnswersCard : Claim7 := { stood := { row := bicliqueAnswersRow, standIns := [], harness := (true, "d20a1356d1f86c965e85daa06d1b55e42ba06db3f0b6c660b4be075df10c62e5"), looks := false }, kinds := [], alts := [], laidByText := true, laidKinds := [.data], laidTests := true, laidLooks := .later }
def BicliqueAnswersCardSaid : Prop := Claim7.holds Tryd.pinned (.plain (OpenSpec.ofChange bicliqueAnswersSpec)) bicliqueAnswersCard

/-- THE SECOND FORM's CARD OF 'cohesionlaw27.BicliqueAnswers'. -/
def bicliqueAnswersUptoCard : Claim7 := { stood := { row := bicliqueAnswersUptoRow, standIns := [], harness := (true, "d20a1356d1f86c965e85daa06d1b55e42ba06db3f0b6c660b4be075df10c62e5"), looks := false }, kinds := [], alts := [], laidByText := true, laidKinds := [.data], laidTests := true, laidLooks := .later }
def BicliqueAnswersUptoCardSaid : Prop := Claim7.holds Tryd.pinned (.plain (OpenSpec.upto bicliqueAnswersSpec)) bicliqueAnswersUptoCard
end Rows
end Go.Proofs.YteomjfokokneoaaDoor
