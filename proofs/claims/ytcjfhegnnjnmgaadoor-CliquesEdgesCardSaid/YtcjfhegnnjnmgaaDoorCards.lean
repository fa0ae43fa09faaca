/-
  DERIVED. GIVEN WITH THE SEED: THE CARDS: each row of YtcjfhegnnjnmgaaDoorRows.lean that lists a variable, with what it lists TIED to the program's text (the seventh form; the later family's looks); each row that meets fmt, with fmt's text TOLD by the authors' own Lean function (tested against real Go, not proved from fmt's source: count such statements apart). THE CARD IS WHAT COUNTS. Prove the row's statement (the work); the ties are given (YtcjfhegnnjnmgaaDoorTie.lean); close each card by the builder's one call (the guide's Derived/Test/ToyasCard.lean, 'card_holds'). Laid BY PROGRAM, IN A SANDBOX (cutbox-door.mjs). By AI agents, Wed Nov 11 2026. No macro, syntax, notation, axiom, sorry.
-/
import Derived.Test.YtcjfhegnnjnmgaaDoorRows
import GoSem.ClaimSeven
namespace Go.Proofs.YtcjfhegnnjnmgaaDoor
namespace Rows

/-- THE TIED CARD OF 'cohesionlaw24.CliquesEdges'. -/
def cliquesEdgesCard : Claim7 := { stood := { row := cliquesEdgesRow, standIns := [], harness := (true, "2a61bb7204bf75853b52232377a008660823961addee35373aad877f8da955ec"), looks := false }, kinds := [], alts := [], laidByText := true, laidKinds := [.data], laidTests := true, laidLooks := .later }
def CliquesEdgesCardSaid : Prop := Claim7.holds Tryd.pinned (.plain (OpenSpec.ofChange cliquesEdgesSpec)) cliquesEdgesCard

/-- THE TIED CARD OF 'cohesionlaw24.CliquesCover'. -/
def cliquesCoverCard : Claim7 := { stood := { row := cliquesCoverRow, standIns := [], harness := (true, "2a61bb7204bf75853b52232377a008660823961addee35373aad877f8da955ec"), looks := false }, kinds := [], alts := [], laidByText := true, laidKinds := [.data], laidTests := true, laidLooks := .later }
def CliquesCoverCardSaid : Prop := Claim7.holds Tryd.pinned (.plain (OpenSpec.ofChange cliquesCoverSpec)) cliquesCoverCard

/-- THE SECOND FORM's CARD OF 'cohesionlaw24.CliquesEdges'. -/
def cliquesEdgesUptoCard : Claim7 := { stood := { row := cliquesEdgesUptoRow, standIns := [], harness := (true, "2a61bb7204bf75853b52232377a008660823961addee35373aad877f8da955ec"), looks := false }, kinds := [], alts := [], laidByText := true, laidKinds := [.data], laidTests := true, laidLooks := .later }
def CliquesEdgesUptoCardSaid : Prop := Claim7.holds Tryd.pinned (.plain (OpenSpec.upto cliquesEdgesSpec)) cliquesEdgesUptoCard

/-- THE SECOND FORM's CARD OF 'cohesionlaw24.CliquesCover'. -/
def cliquesCoverUptoCard : Claim7 := { stood := { row := cliquesCoverUptoRow, standIns := [], harness := (true, "2a61bb7204bf75853b52232377a008660823961addee35373aad877f8da955ec"), looks := false }, kinds := [], alts := [], laidByText := true, laidKinds := [.data], laidTests := true, laidLooks := .later }
def CliquesCoverUptoCardSaid : Prop := Claim7.holds Tryd.pinned (.plain (OpenSpec.upto cliquesCoverSpec)) cliquesCoverUptoCard
end Rows
end Go.Proofs.YtcjfhegnnjnmgaaDoor
