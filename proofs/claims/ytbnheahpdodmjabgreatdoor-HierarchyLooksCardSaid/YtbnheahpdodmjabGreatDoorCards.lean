/-
  DERIVED. GIVEN WITH THE SEED: THE CARDS: each row of YtbnheahpdodmjabGreatDoorRows.lean that lists a variable, with what it lists TIED to the program's text (the seventh form; the later family's looks); each row that meets fmt, with fmt's text TOLD by the authors' own Lean function (tested against real Go, not proved from fmt's source: count such statements apart). THE CARD IS WHAT COUNTS. Prove the row's statement (the work); the ties are given (YtbnheahpdodmjabGreatDoorTie.lean); close each card by the builder's one call (the guide's Derived/Test/ToyasCard.lean, 'card_holds'). Laid BY PROGRAM, IN A SANDBOX (cutbox-door.mjs). By AI agents, Wed Nov 11 2026. No macro, syntax, notation, axiom, sorry.
-/
import Derived.Test.YtbnheahpdodmjabGreatDoorRows
import GoSem.ClaimSeven
namespace Go.Proofs.YtbnheahpdodmjabGreatDoor
namespace Rows

/-- THE TIED CARD OF 'cohesionlaw18.HierarchyLooks'. -/
def hierarchyLooksCard : Claim7 := { stood := { row := hierarchyLooksRow, standIns := [], harness := (true, "67c48877e1d8101a0fc9f3ad683c84cf78fe4c0eae7aaae004e3c69e4dbd8a3e"), looks := false }, kinds := [], alts := [], laidByText := true, laidKinds := [.data, .data, .data], laidTests := true, laidLooks := .later }
def HierarchyLooksCardSaid : Prop := Claim7.holds Tryz.pinned (.plain (OpenSpec.ofChange hierarchyLooksSpec)) hierarchyLooksCard

/-- THE SECOND FORM's CARD OF 'cohesionlaw18.HierarchyLooks'. -/
def hierarchyLooksUptoCard : Claim7 := { stood := { row := hierarchyLooksUptoRow, standIns := [], harness := (true, "67c48877e1d8101a0fc9f3ad683c84cf78fe4c0eae7aaae004e3c69e4dbd8a3e"), looks := false }, kinds := [], alts := [], laidByText := true, laidKinds := [.data, .data, .data], laidTests := true, laidLooks := .later }
def HierarchyLooksUptoCardSaid : Prop := Claim7.holds Tryz.pinned (.plain (OpenSpec.upto hierarchyLooksSpec)) hierarchyLooksUptoCard
end Rows
end Go.Proofs.YtbnheahpdodmjabGreatDoor
