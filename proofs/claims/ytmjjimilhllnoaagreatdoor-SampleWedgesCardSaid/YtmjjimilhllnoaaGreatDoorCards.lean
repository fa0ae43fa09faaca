/-
  DERIVED. GIVEN WITH THE SEED: THE CARDS: each row of YtmjjimilhllnoaaGreatDoorRows.lean that lists a variable, with what it lists TIED to the program's text (the seventh form; the later family's looks); each row that meets fmt, with fmt's text TOLD by the authors' own Lean function (tested against real Go, not proved from fmt's source: count such statements apart). THE CARD IS WHAT COUNTS. Prove the row's statement (the work); the ties are given (YtmjjimilhllnoaaGreatDoorTie.lean); close each card by the builder's one call (the guide's Derived/Test/ToyasCard.lean, 'card_holds'). Laid BY PROGRAM, IN A SANDBOX (cutbox-door.mjs). By AI agents, Wed Nov 11 2026. No macro, syntax, notation, axiom, sorry.
-/
import Derived.Test.YtmjjimilhllnoaaGreatDoorRows
import GoSem.ClaimSeven
namespace Go.Proofs.YtmjjimilhllnoaaGreatDoor
namespace Rows

/-- THE TIED CARD OF 'cohesionlaw33.SampleWedges'. -/
def sampleWedgesCard : Claim7 := { stood := { row := sampleWedgesRow, standIns := [], harness := (true, "208683309672fe79cf9045d3fdbcf3745c6d6a2dc1d63701bb2e2f3b9df3f4f4"), looks := false }, kinds := [], alts := [], laidByText := true, laidKinds := [.data], laidTests := true, laidLooks := .later }
def SampleWedgesCardSaid : Prop := Claim7.holds Tryz.pinned (.plain (OpenSpec.ofChange sampleWedgesSpec)) sampleWedgesCard

/-- THE SECOND FORM's CARD OF 'cohesionlaw33.SampleWedges'. -/
def sampleWedgesUptoCard : Claim7 := { stood := { row := sampleWedgesUptoRow, standIns := [], harness := (true, "208683309672fe79cf9045d3fdbcf3745c6d6a2dc1d63701bb2e2f3b9df3f4f4"), looks := false }, kinds := [], alts := [], laidByText := true, laidKinds := [.data], laidTests := true, laidLooks := .later }
def SampleWedgesUptoCardSaid : Prop := Claim7.holds Tryz.pinned (.plain (OpenSpec.upto sampleWedgesSpec)) sampleWedgesUptoCard
end Rows
end Go.Proofs.YtmjjimilhllnoaaGreatDoor
