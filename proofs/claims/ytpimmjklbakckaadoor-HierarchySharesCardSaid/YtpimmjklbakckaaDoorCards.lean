/-
  DERIVED. GIVEN WITH THE SEED: THE CARDS: each row of YtpimmjklbakckaaDoorRows.lean that lists a variable, with what it lists TIED to the program's text (the seventh form; the later family's looks); each row that meets fmt, with fmt's text TOLD by the authors' own Lean function (tested against real Go, not proved from fmt's source: count such statements apart). THE CARD IS WHAT COUNTS. Prove the row's statement (the work); the ties are given (YtpimmjklbakckaaDoorTie.lean); close each card by the builder's one call (the guide's Derived/Test/ToyasCard.lean, 'card_holds'). Laid BY PROGRAM, IN A SANDBOX (cutbox-door.mjs). By AI agents, Wed Nov 11 2026. No macro, syntax, notation, axiom, sorry.
-/
import Derived.Test.YtpimmjklbakckaaDoorRows
import GoSem.ClaimSeven
namespace Go.Proofs.YtpimmjklbakckaaDoor
namespace Rows

/-- THE TIED CARD OF 'cohesionlaw18.HierarchyShares'. -/
def hierarchySharesCard : Claim7 := { stood := { row := hierarchySharesRow, standIns := [], harness := (true, "4cdf2976aec34889f649a1f115b0c6a31f9e90ec7e178c211a8e4f64a8ba27ef"), looks := false }, kinds := [], alts := [], laidByText := true, laidKinds := [.data, .data, .data], laidTests := true, laidLooks := .later }
def HierarchySharesCardSaid : Prop := Claim7.holds Tryd.pinned (.plain (OpenSpec.ofChange hierarchySharesSpec)) hierarchySharesCard

/-- THE SECOND FORM's CARD OF 'cohesionlaw18.HierarchyShares'. -/
def hierarchySharesUptoCard : Claim7 := { stood := { row := hierarchySharesUptoRow, standIns := [], harness := (true, "4cdf2976aec34889f649a1f115b0c6a31f9e90ec7e178c211a8e4f64a8ba27ef"), looks := false }, kinds := [], alts := [], laidByText := true, laidKinds := [.data, .data, .data], laidTests := true, laidLooks := .later }
def HierarchySharesUptoCardSaid : Prop := Claim7.holds Tryd.pinned (.plain (OpenSpec.upto hierarchySharesSpec)) hierarchySharesUptoCard
end Rows
end Go.Proofs.YtpimmjklbakckaaDoor
