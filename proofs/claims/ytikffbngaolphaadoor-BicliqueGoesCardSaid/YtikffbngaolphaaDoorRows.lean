/-
  NARROWER THAN 'FOR EVERY INPUT', by the rows' own cells (each row's printed sentence says how): BicliqueTurns: laid · BicliqueCrowns: laid · BicliqueGoes: laid · BicliqueCloses: laid · BicliqueAnswers: laid.
  DERIVED. THE GIVEN ROWS OF THIS SEAT. 5 by the template 'for every input the law returns true; each argument reads behind the call as it read before'; 0 by the template 'total and deterministic' (their statements: YtikffbngaolphaaDoorTotals.lean).
  GIVEN WITH THE SEED: the statements are not yours to turn. If you find one false, say at which input.
  Laid BY PROGRAM, IN A SANDBOX (cutbox-rows.mjs): the forced cells as the released guide's own fill.sh prints them over the translation 6976b58177063c76… (all of the seat's roots in one cut). By AI agents, Wed Nov 11 2026. No macro, syntax, notation, axiom, sorry.
-/
import Derived.Test.YtikffbngaolphaaDoorChecked
import GoSem.Claim
import GoSem.ClaimJoined
import GoSem.ClaimMapViews
import Derived.JoinedTies
import Derived.KernelRfl
namespace Go.Proofs.YtikffbngaolphaaDoor
/- THE CELL 'sum', in the pinned program and in every row, IS THE sha256 OF THE DUMP (.gsa) THAT YtikffbngaolphaaDoorProg.lean LOADS. Nothing in Lean hashes anything: it is a label: what it is worth is what the hold of that sum in a sandbox is worth. -/
noncomputable def Tryd.pinned : Pinned := { name := "ytikffbngaolphaadoor", sum := "6976b58177063c76f20b2ca121de286f26d1a4be18d1c60cc1461797bf7ca55a", checked := Tryd.checked }
namespace Rows
def none {H : Type} : Left H := { results := [], args := [] }

/- WHAT THE LISTED PACKAGE-LEVEL VARIABLES READ AS WHEN THE CALL BEGINS. Each datum BY PROGRAM (the guide's laid-datum.mjs) off the statement by which the dump's own 'gosem.cut.vars' lays the variable. In a bare row this is a premise. The card (YtikffbngaolphaaDoorCards.lean) ties it to the program's text. -/
def laid_math_bits_deBruijn64tab {H : Type} : DataW H := .agg [.lit (.int .u8 0), .lit (.int .u8 1), .lit (.int .u8 56), .lit (.int .u8 2), .lit (.int .u8 57), .lit (.int .u8 49), .lit (.int .u8 28), .lit (.int .u8 3), .lit (.int .u8 61), .lit (.int .u8 58), .lit (.int .u8 42), .lit (.int .u8 50), .lit (.int .u8 38), .lit (.int .u8 29), .lit (.int .u8 17), .lit (.int .u8 4), .lit (.int .u8 62), .lit (.int .u8 47), .lit (.int .u8 59), .lit (.int .u8 36), .lit (.int .u8 45), .lit (.int .u8 43), .lit (.int .u8 51), .lit (.int .u8 22), .lit (.int .u8 53), .lit (.int .u8 39), .lit (.int .u8 33), .lit (.int .u8 30), .lit (.int .u8 24), .lit (.int .u8 18), .lit (.int .u8 12), .lit (.int .u8 5), .lit (.int .u8 63), .lit (.int .u8 55), .lit (.int .u8 48), .lit (.int .u8 27), .lit (.int .u8 60), .lit (.int .u8 41), .lit (.int .u8 37), .lit (.int .u8 16), .lit (.int .u8 46), .lit (.int .u8 35), .lit (.int .u8 44), .lit (.int .u8 21), .lit (.int .u8 52), .lit (.int .u8 32), .lit (.int .u8 23), .lit (.int .u8 11), .lit (.int .u8 54), .lit (.int .u8 26), .lit (.int .u8 40), .lit (.int .u8 15), .lit (.int .u8 34), .lit (.int .u8 20), .lit (.int .u8 31), .lit (.int .u8 10), .lit (.int .u8 25), .lit (.int .u8 14), .lit (.int .u8 19), .lit (.int .u8 9), .lit (.int .u8 13), .lit (.int .u8 8), .lit (.int .u8 7), .lit (.int .u8 6)]

/-- 'cohesionlaw27.BicliqueTurns': WHATEVER THE INPUT: true; the input reads as it did. -/
def bicliqueTurnsSpec : ChangeSpec := { name := "bicliqueTurns", fn := fun _ => fun
  | [d] => { results := [.lit (.bool true)], args := [d] }
  | _ => none }
def bicliqueTurnsRow : OpenClaim := { program := "ytikffbngaolphaadoor", sum := "6976b58177063c76f20b2ca121de286f26d1a4be18d1c60cc1461797bf7ca55a", func := "cohesion/cohesionlaw27.BicliqueTurns", spec := "bicliqueTurns", unfollowed := true, recurses := true, named := ["math/bits.deBruijn64tab"], apart := false, laid := [("math/bits.deBruijn64tab", laid_math_bits_deBruijn64tab)] }
def BicliqueTurnsSaid : Prop := bicliqueTurnsRow.holds Tryd.pinned (OpenSpec.ofChange bicliqueTurnsSpec)

/-- ITS FALSE NEIGHBOUR: 'it returns false'. Refute it at one input. -/
def bicliqueTurnsWrong : ChangeSpec := { name := "bicliqueTurns", fn := fun _ => fun
  | [d] => { results := [.lit (.bool false)], args := [d] }
  | _ => none }
def BicliqueTurnsWrongFalsely : Prop := bicliqueTurnsRow.holds Tryd.pinned (OpenSpec.ofChange bicliqueTurnsWrong)

/-- 'cohesionlaw27.BicliqueCrowns': WHATEVER THE INPUT: true; the input reads as it did. -/
def bicliqueCrownsSpec : ChangeSpec := { name := "bicliqueCrowns", fn := fun _ => fun
  | [d1, d2] => { results := [.lit (.bool true)], args := [d1, d2] }
  | _ => none }
def bicliqueCrownsRow : OpenClaim := { program := "ytikffbngaolphaadoor", sum := "6976b58177063c76f20b2ca121de286f26d1a4be18d1c60cc1461797bf7ca55a", func := "cohesion/cohesionlaw27.BicliqueCrowns", spec := "bicliqueCrowns", unfollowed := true, recurses := true, named := ["math/bits.deBruijn64tab"], apart := false, laid := [("math/bits.deBruijn64tab", laid_math_bits_deBruijn64tab)] }
def BicliqueCrownsSaid : Prop := bicliqueCrownsRow.holds Tryd.pinned (OpenSpec.ofChange bicliqueCrownsSpec)

/-- ITS FALSE NEIGHBOUR: 'it returns false'. Refute it at one input. -/
def bicliqueCrownsWrong : ChangeSpec := { name := "bicliqueCrowns", fn := fun _ => fun
  | [d1, d2] => { results := [.lit (.bool false)], args := [d1, d2] }
  | _ => none }
def BicliqueCrownsWrongFalsely : Prop := bicliqueCrownsRow.holds Tryd.pinned (OpenSpec.ofChange bicliqueCrownsWrong)

/-- 'cohesionlaw27.BicliqueGoes': WHATEVER THE INPUT: true; the input reads as it did. -/
def bicliqueGoesSpec : ChangeSpec := { name := "bicliqueGoes", fn := fun _ => fun
  | [d] => { results := [.lit (.bool true)], args := [d] }
  | _ => none }
def bicliqueGoesRow : OpenClaim := { program := "ytikffbngaolphaadoor", sum := "6976b58177063c76f20b2ca121de286f26d1a4be18d1c60cc1461797bf7ca55a", func := "cohesion/cohesionlaw27.BicliqueGoes", spec := "bicliqueGoes", unfollowed := true, recurses := true, named := ["math/bits.deBruijn64tab"], apart := false, laid := [("math/bits.deBruijn64tab", laid_math_bits_deBruijn64tab)] }
def BicliqueGoesSaid : Prop := bicliqueGoesRow.holds Tryd.pinned (OpenSpec.ofChange bicliqueGoesSpec)

/-- ITS FALSE NEIGHBOUR: 'it returns false'. Refute it at one input. -/
def bicliqueGoesWrong : ChangeSpec := { name := "bicliqueGoes", fn := fun _ => fun
  | [d] => { results := [.lit (.bool false)], args := [d] }
  | _ => none }
def BicliqueGoesWrongFalsely : Prop := bicliqueGoesRow.holds Tryd.pinned (OpenSpec.ofChange bicliqueGoesWrong)

/-- 'cohesionlaw27.BicliqueCloses': WHATEVER THE INPUT: true; the input reads as it did. -/
def bicliqueClosesSpec : ChangeSpec := { name := "bicliqueCloses", fn := fun _ => fun
  | [d] => { results := [.lit (.bool true)], args := [d] }
  | _ => none }
def bicliqueClosesRow : OpenClaim := { program := "ytikffbngaolphaadoor", sum := "6976b58177063c76f20b2ca121de286f26d1a4be18d1c60cc1461797bf7ca55a", func := "cohesion/cohesionlaw27.BicliqueCloses", spec := "bicliqueCloses", unfollowed := true, recurses := true, named := ["math/bits.deBruijn64tab"], apart := false, laid := [("math/bits.deBruijn64tab", laid_math_bits_deBruijn64tab)] }
def BicliqueClosesSaid : Prop := bicliqueClosesRow.holds Tryd.pinned (OpenSpec.ofChange bicliqueClosesSpec)

/-- ITS FALSE NEIGHBOUR: 'it returns false'. Refute it at one input. -/
def bicliqueClosesWrong : ChangeSpec := { name := "bicliqueCloses", fn := fun _ => fun
  | [d] => { results := [.lit (.bool false)], args := [d] }
  | _ => none }
def BicliqueClosesWrongFalsely : Prop := bicliqueClosesRow.holds Tryd.pinned (OpenSpec.ofChange bicliqueClosesWrong)

/-- 'cohesionlaw27.BicliqueAnswers': WHATEVER THE INPUT: true; the input reads as it did. -/
def bicliqueAnswersSpec : ChangeSpec := { name := "bicliqueAnswers", fn := fun _ => fun
  | [d1, d2, d3, d4, d5] => { results := [.lit (.bool true)], args := [d1, d2, d3, d4, d5] }
  | _ => none }
def bicliqueAnswersRow : OpenClaim := { program := "ytikffbngaolphaadoor", sum := "6976b58177063c76f20b2ca121de286f26d1a4be18d1c60cc1461797bf7ca55a", func := "cohesion/cohesionlaw27.BicliqueAnswers", spec := "bicliqueAnswers", unfollowed := true, recurses := true, named := ["math/bits.deBruijn64tab"], apart := false, laid := [("math/bits.deBruijn64tab", laid_math_bits_deBruijn64tab)] }
def BicliqueAnswersSaid : Prop := bicliqueAnswersRow.holds Tryd.pinned (OpenSpec.ofChange bicliqueAnswersSpec)

/-- ITS FALSE NEIGHBOUR: 'it returns false'. Refute it at one input. -/
def bicliqueAnswersWrong : ChangeSpec := { name := "bicliqueAnswers", fn := fun _ => fun
  | [d1, d2, d3, d4, d5] => { results := [.lit (.bool false)], args := [d1, d2, d3, d4, d5] }
  | _ => none }
def BicliqueAnswersWrongFalsely : Prop := bicliqueAnswersRow.holds Tryd.pinned (OpenSpec.ofChange bicliqueAnswersWrong)

/- THE SECOND FORM. 'bulk': how many values and letters a reading holds, each counted each time it is reached (what is shared counts as often as it is met; a slice's spare places count too). A statement '..UptoSaid' is the law's where the arguments, and the package variables that the reading takes, are together of bulk at most 1048576: NARROWER than '..Said'. Prove '..Said' where nothing that the law and all that it calls make is longer than what came in: it says more and counts as full. Else prove '..UptoSaid'. A law counts once. -/
mutual
def uptoBulk {H : Type} : DataW H → Nat
  | .lit (.string bytes) => bytes.length + 1
  | .lit _ => 1
  | .nil => 1
  | .ptr d => uptoBulk d + 1
  | .slice elems spare => uptoBulkAll elems + uptoBulkAll spare + 1
  | .agg parts => uptoBulkAll parts + 1
  | .iface _ d => uptoBulk d + 1
  | .map entries => uptoBulkEntries entries + 1
  | .held _ => 1
def uptoBulkAll {H : Type} : List (DataW H) → Nat
  | [] => 0
  | d :: r => uptoBulk d + uptoBulkAll r
def uptoBulkEntries {H : Type} : List (Lit × DataW H) → Nat
  | [] => 0
  | x :: r => uptoBulkEntry x + uptoBulkEntries r
def uptoBulkEntry {H : Type} : Lit × DataW H → Nat
  | (.string bytes, d) => bytes.length + uptoBulk d + 1
  | (_, d) => uptoBulk d + 1
 end
def uptoSmall : (H : Type) → List (DataW H) → Bool := fun _ ds => decide (uptoBulkAll ds ≤ 1048576)
def OpenSpec.upto (s : _root_.Go.ChangeSpec) : _root_.Go.OpenSpec := { _root_.Go.OpenSpec.ofChange s with cond := some uptoSmall }

/-- 'cohesionlaw27.BicliqueTurns', WHERE WHAT IT READS IS OF BULK AT MOST 1048576: true; the input reads as it did. -/
def bicliqueTurnsUptoRow : OpenClaim := { program := "ytikffbngaolphaadoor", sum := "6976b58177063c76f20b2ca121de286f26d1a4be18d1c60cc1461797bf7ca55a", func := "cohesion/cohesionlaw27.BicliqueTurns", spec := "bicliqueTurns", unfollowed := true, recurses := true, named := ["math/bits.deBruijn64tab"], apart := false, laid := [("math/bits.deBruijn64tab", laid_math_bits_deBruijn64tab)], narrowed := true }
def BicliqueTurnsUptoSaid : Prop := bicliqueTurnsUptoRow.holds Tryd.pinned (OpenSpec.upto bicliqueTurnsSpec)

/-- 'cohesionlaw27.BicliqueCrowns', WHERE WHAT IT READS IS OF BULK AT MOST 1048576: true; the input reads as it did. -/
def bicliqueCrownsUptoRow : OpenClaim := { program := "ytikffbngaolphaadoor", sum := "6976b58177063c76f20b2ca121de286f26d1a4be18d1c60cc1461797bf7ca55a", func := "cohesion/cohesionlaw27.BicliqueCrowns", spec := "bicliqueCrowns", unfollowed := true, recurses := true, named := ["math/bits.deBruijn64tab"], apart := false, laid := [("math/bits.deBruijn64tab", laid_math_bits_deBruijn64tab)], narrowed := true }
def BicliqueCrownsUptoSaid : Prop := bicliqueCrownsUptoRow.holds Tryd.pinned (OpenSpec.upto bicliqueCrownsSpec)

/-- 'cohesionlaw27.BicliqueGoes', WHERE WHAT IT READS IS OF BULK AT MOST 1048576: true; the input reads as it did. -/
def bicliqueGoesUptoRow : OpenClaim := { program := "ytikffbngaolphaadoor", sum := "6976b58177063c76f20b2ca121de286f26d1a4be18d1c60cc1461797bf7ca55a", func := "cohesion/cohesionlaw27.BicliqueGoes", spec := "bicliqueGoes", unfollowed := true, recurses := true, named := ["math/bits.deBruijn64tab"], apart := false, laid := [("math/bits.deBruijn64tab", laid_math_bits_deBruijn64tab)], narrowed := true }
def BicliqueGoesUptoSaid : Prop := bicliqueGoesUptoRow.holds Tryd.pinned (OpenSpec.upto bicliqueGoesSpec)

/-- 'cohesionlaw27.BicliqueCloses', WHERE WHAT IT READS IS OF BULK AT MOST 1048576: true; the input reads as it did. -/
def bicliqueClosesUptoRow : OpenClaim := { program := "ytikffbngaolphaadoor", sum := "6976b58177063c76f20b2ca121de286f26d1a4be18d1c60cc1461797bf7ca55a", func := "cohesion/cohesionlaw27.BicliqueCloses", spec := "bicliqueCloses", unfollowed := true, recurses := true, named := ["math/bits.deBruijn64tab"], apart := false, laid := [("math/bits.deBruijn64tab", laid_math_bits_deBruijn64tab)], narrowed := true }
def BicliqueClosesUptoSaid : Prop := bicliqueClosesUptoRow.holds Tryd.pinned (OpenSpec.upto bicliqueClosesSpec)

/-- 'cohesionlaw27.BicliqueAnswers', WHERE WHAT IT READS IS OF BULK AT MOST 1048576: true; the input reads as it did. -/
def bicliqueAnswersUptoRow : OpenClaim := { program := "ytikffbngaolphaadoor", sum := "6976b58177063c76f20b2ca121de286f26d1a4be18d1c60cc1461797bf7ca55a", func := "cohesion/cohesionlaw27.BicliqueAnswers", spec := "bicliqueAnswers", unfollowed := true, recurses := true, named := ["math/bits.deBruijn64tab"], apart := false, laid := [("math/bits.deBruijn64tab", laid_math_bits_deBruijn64tab)], narrowed := true }
def BicliqueAnswersUptoSaid : Prop := bicliqueAnswersUptoRow.holds Tryd.pinned (OpenSpec.upto bicliqueAnswersSpec)

end Rows
end Go.Proofs.YtikffbngaolphaaDoor
