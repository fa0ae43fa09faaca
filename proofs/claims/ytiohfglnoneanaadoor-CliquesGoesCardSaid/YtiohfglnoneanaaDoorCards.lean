/-
  DERIVED. GIVEN WITH THE SEED: THE CARDS: each row of YtiohfglnoneanaaDoorRows.lean that lists a variable, with what it lists TIED to the program's text (the seventh form; the later family's looks); each row that meets fmt, with fmt's text TOLD by the authors' own Lean function (tested against real Go, not proved from fmt's source: count such statements apart). THE CARD IS WHAT COUNTS. Prove the row's statement (the work); the ties are given (YtiohfglnoneanaaDoorTie.lean); close each card by the builder's one call (the guide's Derived/Test/ToyasCard.lean, 'card_holds'). Laid BY PROGRAM, IN A SANDBOX (cutbox-door.mjs). By AI agents, Wed Nov 11 2026. No macro, syntax, notation, axiom, sorry.
-/
import Derived.Test.YtiohfglnoneanaaDoorRows
import GoSem.ClaimSeven
namespace Go.Proofs.YtiohfglnoneanaaDoor
namespace Rows

/-- THE TIED CARD OF 'cohesionlaw24.CliquesTurns'. -/
def cliquesTurnsCard : Claim7 := { stood := { row := cliquesTurnsRow, standIns := [], harness := (true, "12530c87a9458a563d4e4a6d61d846a249b89233b6a2d0871b73bc95330ae50b"), looks := false }, kinds := [], alts := [], laidByText := true, laidKinds := [.data], laidTests := true, laidLooks := .later }
def CliquesTurnsCardSaid : Prop := Claim7.holds Tryd.pinned (.plain (OpenSpec.ofChange cliquesTurnsSpec)) cliquesTurnsCard

/-- THE TIED CARD OF 'cohesionlaw24.CliquesNames'. -/
def cliquesNamesCard : Claim7 := { stood := { row := cliquesNamesRow, standIns := [], harness := (true, "12530c87a9458a563d4e4a6d61d846a249b89233b6a2d0871b73bc95330ae50b"), looks := false }, kinds := [], alts := [], laidByText := true, laidKinds := [.data], laidTests := true, laidLooks := .later }
def CliquesNamesCardSaid : Prop := Claim7.holds Tryd.pinned (.plain (OpenSpec.ofChange cliquesNamesSpec)) cliquesNamesCard

/-- THE TIED CARD OF 'cohesionlaw24.CliquesGoes'. -/
def cliquesGoesCard : Claim7 := { stood := { row := cliquesGoesRow, standIns := [], harness := (true, "12530c87a9458a563d4e4a6d61d846a249b89233b6a2d0871b73bc95330ae50b"), looks := false }, kinds := [], alts := [], laidByText := true, laidKinds := [.data], laidTests := true, laidLooks := .later }
def CliquesGoesCardSaid : Prop := Claim7.holds Tryd.pinned (.plain (OpenSpec.ofChange cliquesGoesSpec)) cliquesGoesCard

/-- THE TIED CARD OF 'cohesionlaw24.CliquesAnswers'. -/
def cliquesAnswersCard : Claim7 := { stood := { row := cliquesAnswersRow, standIns := [], harness := (true, "12530c87a9458a563d4e4a6d61d846a249b89233b6a2d0871b73bc95330ae50b"), looks := false }, kinds := [], alts := [], laidByText := true, laidKinds := [.data], laidTests := true, laidLooks := .later }
def CliquesAnswersCardSaid : Prop := Claim7.holds Tryd.pinned (.plain (OpenSpec.ofChange cliquesAnswersSpec)) cliquesAnswersCard

/-- THE TIED CARD OF 'cohesionlaw24.CliquesParts'. -/
def cliquesPartsCard : Claim7 := { stood := { row := cliquesPartsRow, standIns := [], harness := (true, "12530c87a9458a563d4e4a6d61d846a249b89233b6a2d0871b73bc95330ae50b"), looks := false }, kinds := [], alts := [], laidByText := true, laidKinds := [.data], laidTests := true, laidLooks := .later }
def CliquesPartsCardSaid : Prop := Claim7.holds Tryd.pinned (.plain (OpenSpec.ofChange cliquesPartsSpec)) cliquesPartsCard

/-- THE TIED CARD OF 'cohesionlaw24.CliquesEdges'. -/
def cliquesEdgesCard : Claim7 := { stood := { row := cliquesEdgesRow, standIns := [], harness := (true, "12530c87a9458a563d4e4a6d61d846a249b89233b6a2d0871b73bc95330ae50b"), looks := false }, kinds := [], alts := [], laidByText := true, laidKinds := [.data], laidTests := true, laidLooks := .later }
def CliquesEdgesCardSaid : Prop := Claim7.holds Tryd.pinned (.plain (OpenSpec.ofChange cliquesEdgesSpec)) cliquesEdgesCard

/-- THE TIED CARD OF 'cohesionlaw24.CliquesCover'. -/
def cliquesCoverCard : Claim7 := { stood := { row := cliquesCoverRow, standIns := [], harness := (true, "12530c87a9458a563d4e4a6d61d846a249b89233b6a2d0871b73bc95330ae50b"), looks := false }, kinds := [], alts := [], laidByText := true, laidKinds := [.data], laidTests := true, laidLooks := .later }
def CliquesCoverCardSaid : Prop := Claim7.holds Tryd.pinned (.plain (OpenSpec.ofChange cliquesCoverSpec)) cliquesCoverCard

/-- THE SECOND FORM's CARD OF 'cohesionlaw24.CliquesTurns'. -/
def cliquesTurnsUptoCard : Claim7 := { stood := { row := cliquesTurnsUptoRow, standIns := [], harness := (true, "12530c87a9458a563d4e4a6d61d846a249b89233b6a2d0871b73bc95330ae50b"), looks := false }, kinds := [], alts := [], laidByText := true, laidKinds := [.data], laidTests := true, laidLooks := .later }
def CliquesTurnsUptoCardSaid : Prop := Claim7.holds Tryd.pinned (.plain (OpenSpec.upto cliquesTurnsSpec)) cliquesTurnsUptoCard

/-- THE SECOND FORM's CARD OF 'cohesionlaw24.CliquesNames'. -/
def cliquesNamesUptoCard : Claim7 := { stood := { row := cliquesNamesUptoRow, standIns := [], harness := (true, "12530c87a9458a563d4e4a6d61d846a249b89233b6a2d0871b73bc95330ae50b"), looks := false }, kinds := [], alts := [], laidByText := true, laidKinds := [.data], laidTests := true, laidLooks := .later }
def CliquesNamesUptoCardSaid : Prop := Claim7.holds Tryd.pinned (.plain (OpenSpec.upto cliquesNamesSpec)) cliquesNamesUptoCard

/-- THE SECOND FORM's CARD OF 'cohesionlaw24.CliquesGoes'. -/
def cliquesGoesUptoCard : Claim7 := { stood := { row := cliquesGoesUptoRow, standIns := [], harness := (true, "12530c87a9458a563d4e4a6d61d846a249b89233b6a2d0871b73bc95330ae50b"), looks := false }, kinds := [], alts := [], laidByText := true, laidKinds := [.data], laidTests := true, laidLooks := .later }
def CliquesGoesUptoCardSaid : Prop := Claim7.holds Tryd.pinned (.plain (OpenSpec.upto cliquesGoesSpec)) cliquesGoesUptoCard

/-- THE SECOND FORM's CARD OF 'cohesionlaw24.CliquesAnswers'. -/
def cliquesAnswersUptoCard : Claim7 := { stood := { row := cliquesAnswersUptoRow, standIns := [], harness := (true, "12530c87a9458a563d4e4a6d61d846a249b89233b6a2d0871b73bc95330ae50b"), looks := false }, kinds := [], alts := [], laidByText := true, laidKinds := [.data], laidTests := true, laidLooks := .later }
def CliquesAnswersUptoCardSaid : Prop := Claim7.holds Tryd.pinned (.plain (OpenSpec.upto cliquesAnswersSpec)) cliquesAnswersUptoCard

/-- THE SECOND FORM's CARD OF 'cohesionlaw24.CliquesParts'. -/
def cliquesPartsUptoCard : Claim7 := { stood := { row := cliquesPartsUptoRow, standIns := [], harness := (true, "12530c87a9458a563d4e4a6d61d846a249b89233b6a2d0871b73bc95330ae50b"), looks := false }, kinds := [], alts := [], laidByText := true, laidKinds := [.data], laidTests := true, laidLooks := .later }
def CliquesPartsUptoCardSaid : Prop := Claim7.holds Tryd.pinned (.plain (OpenSpec.upto cliquesPartsSpec)) cliquesPartsUptoCard

/-- THE SECOND FORM's CARD OF 'cohesionlaw24.CliquesEdges'. -/
def cliquesEdgesUptoCard : Claim7 := { stood := { row := cliquesEdgesUptoRow, standIns := [], harness := (true, "12530c87a9458a563d4e4a6d61d846a249b89233b6a2d0871b73bc95330ae50b"), looks := false }, kinds := [], alts := [], laidByText := true, laidKinds := [.data], laidTests := true, laidLooks := .later }
def CliquesEdgesUptoCardSaid : Prop := Claim7.holds Tryd.pinned (.plain (OpenSpec.upto cliquesEdgesSpec)) cliquesEdgesUptoCard

/-- THE SECOND FORM's CARD OF 'cohesionlaw24.CliquesCover'. -/
def cliquesCoverUptoCard : Claim7 := { stood := { row := cliquesCoverUptoRow, standIns := [], harness := (true, "12530c87a9458a563d4e4a6d61d846a249b89233b6a2d0871b73bc95330ae50b"), looks := false }, kinds := [], alts := [], laidByText := true, laidKinds := [.data], laidTests := true, laidLooks := .later }
def CliquesCoverUptoCardSaid : Prop := Claim7.holds Tryd.pinned (.plain (OpenSpec.upto cliquesCoverSpec)) cliquesCoverUptoCard
end Rows
end Go.Proofs.YtiohfglnoneanaaDoor
