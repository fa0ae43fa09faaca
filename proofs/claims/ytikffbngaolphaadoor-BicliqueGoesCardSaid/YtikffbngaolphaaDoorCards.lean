/-
  DERIVED. GIVEN WITH THE SEED: THE CARDS: each row of YtikffbngaolphaaDoorRows.lean that lists a variable, with what it lists TIED to the program's text (the seventh form; the later family's looks); each row that meets fmt, with fmt's text TOLD by the authors' own Lean function (tested against real Go, not proved from fmt's source: count such statements apart). THE CARD IS WHAT COUNTS. Prove the row's statement (the work); the ties are given (YtikffbngaolphaaDoorTie.lean); close each card by the builder's one call (the guide's Derived/Test/ToyasCard.lean, 'card_holds'). Laid BY PROGRAM, IN A SANDBOX (cutbox-door.mjs). By AI agents, Wed Nov 11 2026. No macro, syntax, notation, axiom, sorry.
-/
import Derived.Test.YtikffbngaolphaaDoorRows
import GoSem.ClaimSeven
namespace Go.Proofs.YtikffbngaolphaaDoor
namespace Rows

/-- THE TIED CARD OF 'cohesionlaw27.BicliqueTurns'. -/
def bicliqueTurnsCard : Claim7 := { stood := { row := bicliqueTurnsRow, standIns := [], harness := (true, "869ba6f00ce7e76473f2a11917ddb01654a95e097bc90b141ca6dde094043479"), looks := false }, kinds := [], alts := [], laidByText := true, laidKinds := [.data], laidTests := true, laidLooks := .later }
def BicliqueTurnsCardSaid : Prop := Claim7.holds Tryd.pinned (.plain (OpenSpec.ofChange bicliqueTurnsSpec)) bicliqueTurnsCard

/-- THE TIED CARD OF 'cohesionlaw27.BicliqueCrowns'. -/
def bicliqueCrownsCard : Claim7 := { stood := { row := bicliqueCrownsRow, standIns := [], harness := (true, "869ba6f00ce7e76473f2a11917ddb01654a95e097bc90b141ca6dde094043479"), looks := false }, kinds := [], alts := [], laidByText := true, laidKinds := [.data], laidTests := true, laidLooks := .later }
def BicliqueCrownsCardSaid : Prop := Claim7.holds Tryd.pinned (.plain (OpenSpec.ofChange bicliqueCrownsSpec)) bicliqueCrownsCard

/-- THE TIED CARD OF 'cohesionlaw27.BicliqueGoes'. -/
def bicliqueGoesCard : Claim7 := { stood := { row := bicliqueGoesRow, standIns := [], harness := (true, "869ba6f00ce7e76473f2a11917ddb01654a95e097bc90b141ca6dde094043479"), looks := false }, kinds := [], alts := [], laidByText := true, laidKinds := [.data], laidTests := true, laidLooks := .later }
def BicliqueGoesCardSaid : Prop := Claim7.holds Tryd.pinned (.plain (OpenSpec.ofChange bicliqueGoesSpec)) bicliqueGoesCard

/-- THE TIED CARD OF 'cohesionlaw27.BicliqueCloses'. -/
def bicliqueClosesCard : Claim7 := { stood := { row := bicliqueClosesRow, standIns := [], harness := (true, "869ba6f00ce7e76473f2a11917ddb01654a95e097bc90b141ca6dde094043479"), looks := false }, kinds := [], alts := [], laidByText := true, laidKinds := [.data], laidTests := true, laidLooks := .later }
def BicliqueClosesCardSaid : Prop := Claim7.holds Tryd.pinned (.plain (OpenSpec.ofChange bicliqueClosesSpec)) bicliqueClosesCard

/-- THE TIED CARD OF 'cohesionlaw27.BicliqueAnswers'. -/
def bicliqueAnswersCard : Claim7 := { stood := { row := bicliqueAnswersRow, standIns := [], harness := (true, "869ba6f00ce7e76473f2a11917ddb01654a95e097bc90b141ca6dde094043479"), looks := false }, kinds := [], alts := [], laidByText := true, laidKinds := [.data], laidTests := true, laidLooks := .later }
def BicliqueAnswersCardSaid : Prop := Claim7.holds Tryd.pinned (.plain (OpenSpec.ofChange bicliqueAnswersSpec)) bicliqueAnswersCard

/-- THE SECOND FORM's CARD OF 'cohesionlaw27.BicliqueTurns'. -/
def bicliqueTurnsUptoCard : Claim7 := { stood := { row := bicliqueTurnsUptoRow, standIns := [], harness := (true, "869ba6f00ce7e76473f2a11917ddb01654a95e097bc90b141ca6dde094043479"), looks := false }, kinds := [], alts := [], laidByText := true, laidKinds := [.data], laidTests := true, laidLooks := .later }
def BicliqueTurnsUptoCardSaid : Prop := Claim7.holds Tryd.pinned (.plain (OpenSpec.upto bicliqueTurnsSpec)) bicliqueTurnsUptoCard

/-- THE SECOND FORM's CARD OF 'cohesionlaw27.BicliqueCrowns'. -/
def bicliqueCrownsUptoCard : Claim7 := { stood := { row := bicliqueCrownsUptoRow, standIns := [], harness := (true, "869ba6f00ce7e76473f2a11917ddb01654a95e097bc90b141ca6dde094043479"), looks := false }, kinds := [], alts := [], laidByText := true, laidKinds := [.data], laidTests := true, laidLooks := .later }
def BicliqueCrownsUptoCardSaid : Prop := Claim7.holds Tryd.pinned (.plain (OpenSpec.upto bicliqueCrownsSpec)) bicliqueCrownsUptoCard

/-- THE SECOND FORM's CARD OF 'cohesionlaw27.BicliqueGoes'. -/
def bicliqueGoesUptoCard : Claim7 := { stood := { row := bicliqueGoesUptoRow, standIns := [], harness := (true, "869ba6f00ce7e76473f2a11917ddb01654a95e097bc90b141ca6dde094043479"), looks := false }, kinds := [], alts := [], laidByText := true, laidKinds := [.data], laidTests := true, laidLooks := .later }
def BicliqueGoesUptoCardSaid : Prop := Claim7.holds Tryd.pinned (.plain (OpenSpec.upto bicliqueGoesSpec)) bicliqueGoesUptoCard

/-- THE SECOND FORM's CARD OF 'cohesionlaw27.BicliqueCloses'. -/
def bicliqueClosesUptoCard : Claim7 := { stood := { row := bicliqueClosesUptoRow, standIns := [], harness := (true, "869ba6f00ce7e76473f2a11917ddb01654a95e097bc90b141ca6dde094043479"), looks := false }, kinds := [], alts := [], laidByText := true, laidKinds := [.data], laidTests := true, laidLooks := .later }
def BicliqueClosesUptoCardSaid : Prop := Claim7.holds Tryd.pinned (.plain (OpenSpec.upto bicliqueClosesSpec)) bicliqueClosesUptoCard

/-- THE SECOND FORM's CARD OF 'cohesionlaw27.BicliqueAnswers'. -/
def bicliqueAnswersUptoCard : Claim7 := { stood := { row := bicliqueAnswersUptoRow, standIns := [], harness := (true, "869ba6f00ce7e76473f2a11917ddb01654a95e097bc90b141ca6dde094043479"), looks := false }, kinds := [], alts := [], laidByText := true, laidKinds := [.data], laidTests := true, laidLooks := .later }
def BicliqueAnswersUptoCardSaid : Prop := Claim7.holds Tryd.pinned (.plain (OpenSpec.upto bicliqueAnswersSpec)) bicliqueAnswersUptoCard
end Rows
end Go.Proofs.YtikffbngaolphaaDoor
