/-
  DERIVED. GIVEN WITH THE SEED: THE CARDS: each row of YtfmbbifdganaaaaDoorRows.lean that lists a variable, with what it lists TIED to the program's text (the seventh form; the later family's looks); each row that meets fmt, with fmt's text TOLD by the authors' own Lean function (tested against real Go, not proved from fmt's source: count such statements apart). THE CARD IS WHAT COUNTS. Prove the row's statement (the work); the ties are given (YtfmbbifdganaaaaDoorTie.lean); close each card by the builder's one call (the guide's Derived/Test/ToyasCard.lean, 'card_holds'). Laid BY PROGRAM, IN A SANDBOX (cutbox-door.mjs). By AI agents, Wed Nov 11 2026. No macro, syntax, notation, axiom, sorry.
-/
import Derived.Test.YtfmbbifdganaaaaDoorRows
import GoSem.ClaimSeven
namespace Go.Proofs.YtfmbbifdganaaaaDoor
namespace Rows

/-- THE TIED CARD OF 'cohesionlaw24.CliquesCover'. -/
def cliquesCoverCard : Claim7 := { stood := { row := cliquesCoverRow, standIns := [], harness := (true, "5922dd6ab1f27c0793d04d5b745bf7040094b6ee408c51b0294ee68a1ff96412"), looks := false }, kinds := [], alts := [], laidByText := true, laidKinds := [.data], laidTests := true, laidLooks := .later }
def CliquesCoverCardSaid : Prop := Claim7.holds Tryd.pinned (.plain (OpenSpec.ofChange cliquesCoverSpec)) cliquesCoverCard

/-- THE SECOND FORM's CARD OF 'cohesionlaw24.CliquesCover'. -/
def cliquesCoverUptoCard : Claim7 := { stood := { row := cliquesCoverUptoRow, standIns := [], harness := (true, "5922dd6ab1f27c0793d04d5b745bf7040094b6ee408c51b0294ee68a1ff96412"), looks := false }, kinds := [], alts := [], laidByText := true, laidKinds := [.data], laidTests := true, laidLooks := .later }
def CliquesCoverUptoCardSaid : Prop := Claim7.holds Tryd.pinned (.plain (OpenSpec.upto cliquesCoverSpec)) cliquesCoverUptoCard
end Rows
end Go.Proofs.YtfmbbifdganaaaaDoor
