/-
  DERIVED. GIVEN WITH THE SEED: THE CARDS: each row of YtoobjomjclombaaDoorRows.lean that lists a variable, with what it lists TIED to the program's text (the seventh form; the later family's looks); each row that meets fmt, with fmt's text TOLD by the authors' own Lean function (tested against real Go, not proved from fmt's source: count such statements apart). THE CARD IS WHAT COUNTS. Prove the row's statement (the work); the ties are given (YtoobjomjclombaaDoorTie.lean); close each card by the builder's one call (the guide's Derived/Test/ToyasCard.lean, 'card_holds'). Laid BY PROGRAM, IN A SANDBOX (cutbox-door.mjs). By AI agents, Wed Nov 11 2026. No macro, syntax, notation, axiom, sorry.
-/
import Derived.Test.YtoobjomjclombaaDoorRows
import GoSem.ClaimSeven
namespace Go.Proofs.YtoobjomjclombaaDoor
namespace Rows

/-- THE TIED CARD OF 'cohesionlaw26.MaxcliqueSides'. -/
def maxcliqueSidesCard : Claim7 := { stood := { row := maxcliqueSidesRow, standIns := [], harness := (true, "c53e92a832bcd2d044c679fc888cb803a065b301c30ef0d61aa199ca7a9dc8b9"), looks := false }, kinds := [], alts := [], laidByText := true, laidKinds := [.data], laidTests := true, laidLooks := .later }
def MaxcliqueSidesCardSaid : Prop := Claim7.holds Tryd.pinned (.plain (OpenSpec.ofChange maxcliqueSidesSpec)) maxcliqueSidesCard

/-- THE TIED CARD OF 'cohesionlaw26.MaxcliqueEdge'. -/
def maxcliqueEdgeCard : Claim7 := { stood := { row := maxcliqueEdgeRow, standIns := [], harness := (true, "c53e92a832bcd2d044c679fc888cb803a065b301c30ef0d61aa199ca7a9dc8b9"), looks := false }, kinds := [], alts := [], laidByText := true, laidKinds := [.data], laidTests := true, laidLooks := .later }
def MaxcliqueEdgeCardSaid : Prop := Claim7.holds Tryd.pinned (.plain (OpenSpec.ofChange maxcliqueEdgeSpec)) maxcliqueEdgeCard

/-- THE TIED CARD OF 'cohesionlaw26.MaxcliqueAll'. -/
def maxcliqueAllCard : Claim7 := { stood := { row := maxcliqueAllRow, standIns := [], harness := (true, "c53e92a832bcd2d044c679fc888cb803a065b301c30ef0d61aa199ca7a9dc8b9"), looks := false }, kinds := [], alts := [], laidByText := true, laidKinds := [.data], laidTests := true, laidLooks := .later }
def MaxcliqueAllCardSaid : Prop := Claim7.holds Tryd.pinned (.plain (OpenSpec.ofChange maxcliqueAllSpec)) maxcliqueAllCard

/-- THE SECOND FORM's CARD OF 'cohesionlaw26.MaxcliqueSides'. -/
def maxcliqueSidesUptoCard : Claim7 := { stood := { row := maxcliqueSidesUptoRow, standIns := [], harness := (true, "c53e92a832bcd2d044c679fc888cb803a065b301c30ef0d61aa199ca7a9dc8b9"), looks := false }, kinds := [], alts := [], laidByText := true, laidKinds := [.data], laidTests := true, laidLooks := .later }
def MaxcliqueSidesUptoCardSaid : Prop := Claim7.holds Tryd.pinned (.plain (OpenSpec.upto maxcliqueSidesSpec)) maxcliqueSidesUptoCard

/-- THE SECOND FORM's CARD OF 'cohesionlaw26.MaxcliqueEdge'. -/
def maxcliqueEdgeUptoCard : Claim7 := { stood := { row := maxcliqueEdgeUptoRow, standIns := [], harness := (true, "c53e92a832bcd2d044c679fc888cb803a065b301c30ef0d61aa199ca7a9dc8b9"), looks := false }, kinds := [], alts := [], laidByText := true, laidKinds := [.data], laidTests := true, laidLooks := .later }
def MaxcliqueEdgeUptoCardSaid : Prop := Claim7.holds Tryd.pinned (.plain (OpenSpec.upto maxcliqueEdgeSpec)) maxcliqueEdgeUptoCard

/-- THE SECOND FORM's CARD OF 'cohesionlaw26.MaxcliqueAll'. -/
def maxcliqueAllUptoCard : Claim7 := { stood := { row := maxcliqueAllUptoRow, standIns := [], harness := (true, "c53e92a832bcd2d044c679fc888cb803a065b301c30ef0d61aa199ca7a9dc8b9"), looks := false }, kinds := [], alts := [], laidByText := true, laidKinds := [.data], laidTests := true, laidLooks := .later }
def MaxcliqueAllUptoCardSaid : Prop := Claim7.holds Tryd.pinned (.plain (OpenSpec.upto maxcliqueAllSpec)) maxcliqueAllUptoCard
end Rows
end Go.Proofs.YtoobjomjclombaaDoor
