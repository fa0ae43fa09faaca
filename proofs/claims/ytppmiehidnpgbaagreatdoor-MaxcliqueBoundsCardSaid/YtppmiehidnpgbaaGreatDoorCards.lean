/-
  DERIVED. GIVEN WITH THE SEED: THE CARDS: each row of YtppmiehidnpgbaaGreatDoorRows.lean that lists a variable, with what it lists TIED to the program's text (the seventh form; the later family's looks); each row that meets fmt, with fmt's text TOLD by the authors' own Lean function (tested against real Go, not proved from fmt's source: count such statements apart). THE CARD IS WHAT COUNTS. Prove the row's statement (the work); the ties are given (YtppmiehidnpgbaaGreatDoorTie.lean); close each card by the builder's one call (the guide's Derived/Test/ToyasCard.lean, 'card_holds'). Laid BY PROGRAM, IN A SANDBOX (cutbox-door.mjs). By AI agents, Wed Nov 11 2026. No macro, syntax, notation, axiom, sorry.
-/
import Derived.Test.YtppmiehidnpgbaaGreatDoorRows
import GoSem.ClaimSeven
namespace Go.Proofs.YtppmiehidnpgbaaGreatDoor
namespace Rows

/-- THE TIED CARD OF 'cohesionlaw26.MaxcliqueBounds'. -/
def maxcliqueBoundsCard : Claim7 := { stood := { row := maxcliqueBoundsRow, standIns := [], harness := (true, "c47d8d54802624429656f21cb329462dca138641c1cc664113b109a77e0dad63"), looks := false }, kinds := [], alts := [], laidByText := true, laidKinds := [.data], laidTests := true, laidLooks := .later }
def MaxcliqueBoundsCardSaid : Prop := Claim7.holds Tryz.pinned (.plain (OpenSpec.ofChange maxcliqueBoundsSpec)) maxcliqueBoundsCard

/-- THE SECOND FORM's CARD OF 'cohesionlaw26.MaxcliqueBounds'. -/
def maxcliqueBoundsUptoCard : Claim7 := { stood := { row := maxcliqueBoundsUptoRow, standIns := [], harness := (true, "c47d8d54802624429656f21cb329462dca138641c1cc664113b109a77e0dad63"), looks := false }, kinds := [], alts := [], laidByText := true, laidKinds := [.data], laidTests := true, laidLooks := .later }
def MaxcliqueBoundsUptoCardSaid : Prop := Claim7.holds Tryz.pinned (.plain (OpenSpec.upto maxcliqueBoundsSpec)) maxcliqueBoundsUptoCard
end Rows
end Go.Proofs.YtppmiehidnpgbaaGreatDoor
