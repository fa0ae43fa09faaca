/-
  DERIVED. GIVEN WITH THE SEED: THE CARDS: each row of YtpimmjklbakckaaGreatDoorRows.lean that lists a variable, with what it lists TIED to the program's text (the seventh form; the later family's looks); each row that meets fmt, with fmt's text TOLD by the authors' own Lean function (tested against real Go, not proved from fmt's source: count such statements apart). THE CARD IS WHAT COUNTS. Prove the row's statement (the work); the ties are given (YtpimmjklbakckaaGreatDoorTie.lean); close each card by the builder's one call (the guide's Derived/Test/ToyasCard.lean, 'card_holds'). Laid BY PROGRAM, IN A SANDBOX (cutbox-door.mjs). By AI agents, Wed Nov 11 2026. No macro, syntax, notation, axiom, sorry.
-/
import Derived.Test.YtpimmjklbakckaaGreatDoorRows
import GoSem.ClaimSeven
namespace Go.Proofs.YtpimmjklbakckaaGreatDoor
namespace Rows

/-- THE TIED CARD OF 'cohesionlaw18.HierarchyNests'. -/
def hierarchyNestsCard : Claim7 := { stood := { row := hierarchyNestsRow, standIns := [], harness := (true, "23237d889d25951c366607e632ad6a27d0fdc261c5634aa1e59cbf29bb9c4dd8"), looks := false }, kinds := [], alts := [], laidByText := true, laidKinds := [.data, .data, .data], laidTests := true, laidLooks := .later }
def HierarchyNestsCardSaid : Prop := Claim7.holds Tryz.pinned (.plain (OpenSpec.ofChange hierarchyNestsSpec)) hierarchyNestsCard

/-- THE SECOND FORM's CARD OF 'cohesionlaw18.HierarchyNests'. -/
def hierarchyNestsUptoCard : Claim7 := { stood := { row := hierarchyNestsUptoRow, standIns := [], harness := (true, "23237d889d25951c366607e632ad6a27d0fdc261c5634aa1e59cbf29bb9c4dd8"), looks := false }, kinds := [], alts := [], laidByText := true, laidKinds := [.data, .data, .data], laidTests := true, laidLooks := .later }
def HierarchyNestsUptoCardSaid : Prop := Claim7.holds Tryz.pinned (.plain (OpenSpec.upto hierarchyNestsSpec)) hierarchyNestsUptoCard
end Rows
end Go.Proofs.YtpimmjklbakckaaGreatDoor
