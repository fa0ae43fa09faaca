/-
  DERIVED. GIVEN WITH THE SEED: THE CARDS: each row of YtbnheahpdodmjaaGreatDoorRows.lean that lists a variable, with what it lists TIED to the program's text (the seventh form; the later family's looks); each row that meets fmt, with fmt's text TOLD by the authors' own Lean function (tested against real Go, not proved from fmt's source: count such statements apart). THE CARD IS WHAT COUNTS. Prove the row's statement (the work); the ties are given (YtbnheahpdodmjaaGreatDoorTie.lean); close each card by the builder's one call (the guide's Derived/Test/ToyasCard.lean, 'card_holds'). Laid BY PROGRAM, IN A SANDBOX (cutbox-door.mjs). By AI agents, Wed Nov 11 2026. No macro, syntax, notation, axiom, sorry.
-/
import Derived.Test.YtbnheahpdodmjaaGreatDoorRows
import GoSem.ClaimSeven
namespace Go.Proofs.YtbnheahpdodmjaaGreatDoor
namespace Rows

/-- THE TIED CARD OF 'cohesionlaw18.HierarchyChecks'. -/
def hierarchyChecksCard : Claim7 := { stood := { row := hierarchyChecksRow, standIns := [], harness := (true, "33f209a2a80ead810fc0674cdedce8d01b4842eaec3b0168e5bff6837c34257c"), looks := false }, kinds := [], alts := [], laidByText := true, laidKinds := [.data, .data, .data], laidTests := true, laidLooks := .later }
def HierarchyChecksCardSaid : Prop := Claim7.holds Tryz.pinned (.plain (OpenSpec.ofChange hierarchyChecksSpec)) hierarchyChecksCard

/-- THE SECOND FORM's CARD OF 'cohesionlaw18.HierarchyChecks'. -/
def hierarchyChecksUptoCard : Claim7 := { stood := { row := hierarchyChecksUptoRow, standIns := [], harness := (true, "33f209a2a80ead810fc0674cdedce8d01b4842eaec3b0168e5bff6837c34257c"), looks := false }, kinds := [], alts := [], laidByText := true, laidKinds := [.data, .data, .data], laidTests := true, laidLooks := .later }
def HierarchyChecksUptoCardSaid : Prop := Claim7.holds Tryz.pinned (.plain (OpenSpec.upto hierarchyChecksSpec)) hierarchyChecksUptoCard
end Rows
end Go.Proofs.YtbnheahpdodmjaaGreatDoor
