/-
  No cell of these rows narrows 'for every input' (looked for: loops, veiled, ifaces, maps, wideKeys, modest, calm, conditions, laid).
  DERIVED. THE GIVEN ROWS OF THIS SEAT. 4 by the template 'for every input the law returns true; each argument reads behind the call as it read before'; 0 by the template 'total and deterministic' (their statements: YtobfcahkijmebaaTotals.lean).
  GIVEN WITH THE SEED: the statements are not yours to turn. If you find one false, say at which input.
  Laid BY PROGRAM, IN A SANDBOX (cutbox-rows.mjs): the forced cells as the released guide's own fill.sh prints them over the translation 88a21dd29ecb3104… (all of the seat's roots in one cut). By AI agents, Wed Nov 11 2026. No macro, syntax, notation, axiom, sorry.
-/
import Derived.Test.YtobfcahkijmebaaChecked
import GoSem.Claim
import GoSem.ClaimJoined
import GoSem.ClaimMapViews
import Derived.JoinedTies
import Derived.KernelRfl
namespace Go.Proofs.Ytobfcahkijmebaa
/- THE CELL 'sum', in the pinned program and in every row, IS THE sha256 OF THE DUMP (.gsa) THAT YtobfcahkijmebaaProg.lean LOADS. Nothing in Lean hashes anything: it is a label: what it is worth is what the hold of that sum in a sandbox is worth. -/
noncomputable def Try.pinned : Pinned := { name := "ytobfcahkijmebaa", sum := "88a21dd29ecb31048f299aed8ec58b422e85c0f8161fb2702d1b369924316710", checked := Try.checked }
namespace Rows
def none {H : Type} : Left H := { results := [], args := [] }

/-- 'cohesionlaw02.NodesetOrder': WHATEVER THE INPUT: true; the input reads as it did. -/
def nodesetOrderSpec : ChangeSpec := { name := "nodesetOrder", fn := fun _ => fun
  | [d1, d2, d3] => { results := [.lit (.bool true)], args := [d1, d2, d3] }
  | _ => none }
def nodesetOrderRow : OpenClaim := { program := "ytobfcahkijmebaa", sum := "88a21dd29ecb31048f299aed8ec58b422e85c0f8161fb2702d1b369924316710", func := "cohesion/cohesionlaw02.NodesetOrder", spec := "nodesetOrder", unfollowed := true, recurses := true, apart := false }
def NodesetOrderSaid : Prop := nodesetOrderRow.holds Try.pinned (OpenSpec.ofChange nodesetOrderSpec)

/-- ITS FALSE NEIGHBOUR: 'it returns false'. Refute it at one input. -/
def nodesetOrderWrong : ChangeSpec := { name := "nodesetOrder", fn := fun _ => fun
  | [d1, d2, d3] => { results := [.lit (.bool false)], args := [d1, d2, d3] }
  | _ => none }
def NodesetOrderWrongFalsely : Prop := nodesetOrderRow.holds Try.pinned (OpenSpec.ofChange nodesetOrderWrong)

/-- 'cohesionlaw02.NodesetLaws': WHATEVER THE INPUT: true; the input reads as it did. -/
def nodesetLawsSpec : ChangeSpec := { name := "nodesetLaws", fn := fun _ => fun
  | [d1, d2, d3] => { results := [.lit (.bool true)], args := [d1, d2, d3] }
  | _ => none }
def nodesetLawsRow : OpenClaim := { program := "ytobfcahkijmebaa", sum := "88a21dd29ecb31048f299aed8ec58b422e85c0f8161fb2702d1b369924316710", func := "cohesion/cohesionlaw02.NodesetLaws", spec := "nodesetLaws", unfollowed := true, recurses := true, apart := false }
def NodesetLawsSaid : Prop := nodesetLawsRow.holds Try.pinned (OpenSpec.ofChange nodesetLawsSpec)

/-- ITS FALSE NEIGHBOUR: 'it returns false'. Refute it at one input. -/
def nodesetLawsWrong : ChangeSpec := { name := "nodesetLaws", fn := fun _ => fun
  | [d1, d2, d3] => { results := [.lit (.bool false)], args := [d1, d2, d3] }
  | _ => none }
def NodesetLawsWrongFalsely : Prop := nodesetLawsRow.holds Try.pinned (OpenSpec.ofChange nodesetLawsWrong)

/-- 'cohesionlaw02.NodesetWithin': WHATEVER THE INPUT: true; the input reads as it did. -/
def nodesetWithinSpec : ChangeSpec := { name := "nodesetWithin", fn := fun _ => fun
  | [d1, d2, d3] => { results := [.lit (.bool true)], args := [d1, d2, d3] }
  | _ => none }
def nodesetWithinRow : OpenClaim := { program := "ytobfcahkijmebaa", sum := "88a21dd29ecb31048f299aed8ec58b422e85c0f8161fb2702d1b369924316710", func := "cohesion/cohesionlaw02.NodesetWithin", spec := "nodesetWithin", unfollowed := true, recurses := true, apart := false }
def NodesetWithinSaid : Prop := nodesetWithinRow.holds Try.pinned (OpenSpec.ofChange nodesetWithinSpec)

/-- ITS FALSE NEIGHBOUR: 'it returns false'. Refute it at one input. -/
def nodesetWithinWrong : ChangeSpec := { name := "nodesetWithin", fn := fun _ => fun
  | [d1, d2, d3] => { results := [.lit (.bool false)], args := [d1, d2, d3] }
  | _ => none }
def NodesetWithinWrongFalsely : Prop := nodesetWithinRow.holds Try.pinned (OpenSpec.ofChange nodesetWithinWrong)

/-- 'cohesionlaw02.NodesetAll': WHATEVER THE INPUT: true; the input reads as it did. -/
def nodesetAllSpec : ChangeSpec := { name := "nodesetAll", fn := fun _ => fun
  | [d1, d2, d3, d4] => { results := [.lit (.bool true)], args := [d1, d2, d3, d4] }
  | _ => none }
def nodesetAllRow : OpenClaim := { program := "ytobfcahkijmebaa", sum := "88a21dd29ecb31048f299aed8ec58b422e85c0f8161fb2702d1b369924316710", func := "cohesion/cohesionlaw02.NodesetAll", spec := "nodesetAll", unfollowed := true, recurses := true, apart := false }
def NodesetAllSaid : Prop := nodesetAllRow.holds Try.pinned (OpenSpec.ofChange nodesetAllSpec)

/-- ITS FALSE NEIGHBOUR: 'it returns false'. Refute it at one input. -/
def nodesetAllWrong : ChangeSpec := { name := "nodesetAll", fn := fun _ => fun
  | [d1, d2, d3, d4] => { results := [.lit (.bool false)], args := [d1, d2, d3, d4] }
  | _ => none }
def NodesetAllWrongFalsely : Prop := nodesetAllRow.holds Try.pinned (OpenSpec.ofChange nodesetAllWrong)

/- THE SECOND FORM. 'bulk': how many values and letters a reading holds, each counted each time it is reached (what is shared counts as often as it is met; a slice's spare places count too). A statement '..UptoSaid' is the law's where the arguments, and the package variables that the reading takes, are together of bulk at most 1048576: NARROWER than '..Said'. Prove '..Said' where nothing that the law and all that it calls make is longer than what came in: it says more and counts as full. Else prove '..UptoSaid'. A law counts once. -/
mutual
def uptoBulk {H : Type} : DataW H → Nat
  | .lit (.string bytes) => bytes.length + 1
  | .lit _ => 1
  | .nil => 1
  | .ptr d => uptoBulk d + 1
  | .slice elems spare => uptoBulkAll elems + uptoBulkAll spare + 1
  | .agg parts => uptoBulkAll parts + 1
  | .iface _ d => uptoBulk d + 1
  | .map entries => uptoBulkEntries entries + 1
  | .held _ => 1
def uptoBulkAll {H : Type} : List (DataW H) → Nat
  | [] => 0
  | d :: r => uptoBulk d + uptoBulkAll r
def uptoBulkEntries {H : Type} : List (Lit × DataW H) → Nat
  | [] => 0
  | x :: r => uptoBulkEntry x + uptoBulkEntries r
def uptoBulkEntry {H : Type} : Lit × DataW H → Nat
  | (.string bytes, d) => bytes.length + uptoBulk d + 1
  | (_, d) => uptoBulk d + 1
 end
def uptoSmall : (H : Type) → List (DataW H) → Bool := fun _ ds => decide (uptoBulkAll ds ≤ 1048576)
def OpenSpec.upto (s : _root_.Go.ChangeSpec) : _root_.Go.OpenSpec := { _root_.Go.OpenSpec.ofChange s with cond := some uptoSmall }

/-- 'cohesionlaw02.NodesetOrder', WHERE WHAT IT READS IS OF BULK AT MOST 1048576: true; the input reads as it did. -/
def nodesetOrderUptoRow : OpenClaim := { program := "ytobfcahkijmebaa", sum := "88a21dd29ecb31048f299aed8ec58b422e85c0f8161fb2702d1b369924316710", func := "cohesion/cohesionlaw02.NodesetOrder", spec := "nodesetOrder", unfollowed := true, recurses := true, apart := false, narrowed := true }
def NodesetOrderUptoSaid : Prop := nodesetOrderUptoRow.holds Try.pinned (OpenSpec.upto nodesetOrderSpec)

/-- 'cohesionlaw02.NodesetLaws', WHERE WHAT IT READS IS OF BULK AT MOST 1048576: true; the input reads as it did. -/
def nodesetLawsUptoRow : OpenClaim := { program := "ytobfcahkijmebaa", sum := "88a21dd29ecb31048f299aed8ec58b422e85c0f8161fb2702d1b369924316710", func := "cohesion/cohesionlaw02.NodesetLaws", spec := "nodesetLaws", unfollowed := true, recurses := true, apart := false, narrowed := true }
def NodesetLawsUptoSaid : Prop := nodesetLawsUptoRow.holds Try.pinned (OpenSpec.upto nodesetLawsSpec)

/-- 'cohesionlaw02.NodesetWithin', WHERE WHAT IT READS IS OF BULK AT MOST 1048576: true; the input reads as it did. -/
def nodesetWithinUptoRow : OpenClaim := { program := "ytobfcahkijmebaa", sum := "88a21dd29ecb31048f299aed8ec58b422e85c0f8161fb2702d1b369924316710", func := "cohesion/cohesionlaw02.NodesetWithin", spec := "nodesetWithin", unfollowed := true, recurses := true, apart := false, narrowed := true }
def NodesetWithinUptoSaid : Prop := nodesetWithinUptoRow.holds Try.pinned (OpenSpec.upto nodesetWithinSpec)

/-- 'cohesionlaw02.NodesetAll', WHERE WHAT IT READS IS OF BULK AT MOST 1048576: true; the input reads as it did. -/
def nodesetAllUptoRow : OpenClaim := { program := "ytobfcahkijmebaa", sum := "88a21dd29ecb31048f299aed8ec58b422e85c0f8161fb2702d1b369924316710", func := "cohesion/cohesionlaw02.NodesetAll", spec := "nodesetAll", unfollowed := true, recurses := true, apart := false, narrowed := true }
def NodesetAllUptoSaid : Prop := nodesetAllUptoRow.holds Try.pinned (OpenSpec.upto nodesetAllSpec)

end Rows
end Go.Proofs.Ytobfcahkijmebaa
