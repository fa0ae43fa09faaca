/-
  No cell of these rows narrows 'for every input' (looked for: loops, veiled, ifaces, maps, wideKeys, modest, calm, conditions, laid).
  DERIVED. THE GIVEN ROWS OF THIS SEAT. 4 by the template 'for every input the law returns true; each argument reads behind the call as it read before'; 0 by the template 'total and deterministic' (their statements: YtdkdlkajcjbakaaTotals.lean).
  GIVEN WITH THE SEED: the statements are not yours to turn. If you find one false, say at which input.
  Laid BY PROGRAM, IN A SANDBOX (cutbox-rows.mjs): the forced cells as the released guide's own fill.sh prints them over the translation 6be47c88d1ac96ab… (all of the seat's roots in one cut). By AI agents, Wed Nov 11 2026. No macro, syntax, notation, axiom, sorry.
-/
import Derived.Test.YtdkdlkajcjbakaaChecked
import GoSem.Claim
import GoSem.ClaimJoined
import GoSem.ClaimMapViews
import Derived.JoinedTies
import Derived.KernelRfl
namespace Go.Proofs.Ytdkdlkajcjbakaa
/- THE CELL 'sum', in the pinned program and in every row, IS THE sha256 OF THE DUMP (.gsa) THAT YtdkdlkajcjbakaaProg.lean LOADS. Nothing in Lean hashes anything: it is a label: what it is worth is what the hold of that sum in a sandbox is worth. -/
noncomputable def Try.pinned : Pinned := { name := "ytdkdlkajcjbakaa", sum := "6be47c88d1ac96ab81e4d1f8599c9a1f6be21c5a8442acfbe94f2128b3853a88", checked := Try.checked }
namespace Rows
def none {H : Type} : Left H := { results := [], args := [] }

/-- 'cohesionlaw33.SampleColours': WHATEVER THE INPUT: true; the input reads as it did. -/
def sampleColoursSpec : ChangeSpec := { name := "sampleColours", fn := fun _ => fun
  | [d1, d2] => { results := [.lit (.bool true)], args := [d1, d2] }
  | _ => none }
def sampleColoursRow : OpenClaim := { program := "ytdkdlkajcjbakaa", sum := "6be47c88d1ac96ab81e4d1f8599c9a1f6be21c5a8442acfbe94f2128b3853a88", func := "cohesion/cohesionlaw33.SampleColours", spec := "sampleColours", unfollowed := true, recurses := true, apart := false }
def SampleColoursSaid : Prop := sampleColoursRow.holds Try.pinned (OpenSpec.ofChange sampleColoursSpec)

/-- ITS FALSE NEIGHBOUR: 'it returns false'. Refute it at one input. -/
def sampleColoursWrong : ChangeSpec := { name := "sampleColours", fn := fun _ => fun
  | [d1, d2] => { results := [.lit (.bool false)], args := [d1, d2] }
  | _ => none }
def SampleColoursWrongFalsely : Prop := sampleColoursRow.holds Try.pinned (OpenSpec.ofChange sampleColoursWrong)

/-- 'cohesionlaw33.SampleFair': WHATEVER THE INPUT: true; the input reads as it did. -/
def sampleFairSpec : ChangeSpec := { name := "sampleFair", fn := fun _ => fun
  | [d1, d2] => { results := [.lit (.bool true)], args := [d1, d2] }
  | _ => none }
def sampleFairRow : OpenClaim := { program := "ytdkdlkajcjbakaa", sum := "6be47c88d1ac96ab81e4d1f8599c9a1f6be21c5a8442acfbe94f2128b3853a88", func := "cohesion/cohesionlaw33.SampleFair", spec := "sampleFair", unfollowed := true, recurses := true, apart := false }
def SampleFairSaid : Prop := sampleFairRow.holds Try.pinned (OpenSpec.ofChange sampleFairSpec)

/-- ITS FALSE NEIGHBOUR: 'it returns false'. Refute it at one input. -/
def sampleFairWrong : ChangeSpec := { name := "sampleFair", fn := fun _ => fun
  | [d1, d2] => { results := [.lit (.bool false)], args := [d1, d2] }
  | _ => none }
def SampleFairWrongFalsely : Prop := sampleFairRow.holds Try.pinned (OpenSpec.ofChange sampleFairWrong)

/-- 'cohesionlaw33.SampleEdges': WHATEVER THE INPUT: true; the input reads as it did. -/
def sampleEdgesSpec : ChangeSpec := { name := "sampleEdges", fn := fun _ => fun
  | [d] => { results := [.lit (.bool true)], args := [d] }
  | _ => none }
def sampleEdgesRow : OpenClaim := { program := "ytdkdlkajcjbakaa", sum := "6be47c88d1ac96ab81e4d1f8599c9a1f6be21c5a8442acfbe94f2128b3853a88", func := "cohesion/cohesionlaw33.SampleEdges", spec := "sampleEdges", unfollowed := true, recurses := true, apart := false }
def SampleEdgesSaid : Prop := sampleEdgesRow.holds Try.pinned (OpenSpec.ofChange sampleEdgesSpec)

/-- ITS FALSE NEIGHBOUR: 'it returns false'. Refute it at one input. -/
def sampleEdgesWrong : ChangeSpec := { name := "sampleEdges", fn := fun _ => fun
  | [d] => { results := [.lit (.bool false)], args := [d] }
  | _ => none }
def SampleEdgesWrongFalsely : Prop := sampleEdgesRow.holds Try.pinned (OpenSpec.ofChange sampleEdgesWrong)

/-- 'cohesionlaw33.SampleParts': WHATEVER THE INPUT: true; the input reads as it did. -/
def samplePartsSpec : ChangeSpec := { name := "sampleParts", fn := fun _ => fun
  | [d] => { results := [.lit (.bool true)], args := [d] }
  | _ => none }
def samplePartsRow : OpenClaim := { program := "ytdkdlkajcjbakaa", sum := "6be47c88d1ac96ab81e4d1f8599c9a1f6be21c5a8442acfbe94f2128b3853a88", func := "cohesion/cohesionlaw33.SampleParts", spec := "sampleParts", unfollowed := true, recurses := true, apart := false }
def SamplePartsSaid : Prop := samplePartsRow.holds Try.pinned (OpenSpec.ofChange samplePartsSpec)

/-- ITS FALSE NEIGHBOUR: 'it returns false'. Refute it at one input. -/
def samplePartsWrong : ChangeSpec := { name := "sampleParts", fn := fun _ => fun
  | [d] => { results := [.lit (.bool false)], args := [d] }
  | _ => none }
def SamplePartsWrongFalsely : Prop := samplePartsRow.holds Try.pinned (OpenSpec.ofChange samplePartsWrong)

/- THE SECOND FORM. 'bulk': how many values and letters a reading holds, each counted each time it is reached (what is shared counts as often as it is met; a slice's spare places count too). A statement '..UptoSaid' is the law's where the arguments, and the package variables that the reading takes, are together of bulk at most 1048576: NARROWER than '..Said'. Prove '..Said' where nothing that the law and all that it calls make is longer than what came in: it says more and counts as full. Else prove '..UptoSaid'. A law counts once. -/
mutual
def uptoBulk {H : Type} : DataW H → Nat
  | .lit (.string bytes) => bytes.length + 1
  | .lit _ => 1
  | .nil => 1
  | .ptr d => uptoBulk d + 1
  | .slice elems spare => uptoBulkAll elems + uptoBulkAll spare + 1
  | .agg parts => uptoBulkAll parts + 1
  | .iface _ d => uptoBulk d + 1
  | .map entries => uptoBulkEntries entries + 1
  | .held _ => 1
def uptoBulkAll {H : Type} : List (DataW H) → Nat
  | [] => 0
  | d :: r => uptoBulk d + uptoBulkAll r
def uptoBulkEntries {H : Type} : List (Lit × DataW H) → Nat
  | [] => 0
  | x :: r => uptoBulkEntry x + uptoBulkEntries r
def uptoBulkEntry {H : Type} : Lit × DataW H → Nat
  | (.string bytes, d) => bytes.length + uptoBulk d + 1
  | (_, d) => uptoBulk d + 1
 end
def uptoSmall : (H : Type) → List (DataW H) → Bool := fun _ ds => decide (uptoBulkAll ds ≤ 1048576)
def OpenSpec.upto (s : _root_.Go.ChangeSpec) : _root_.Go.OpenSpec := { _root_.Go.OpenSpec.ofChange s with cond := some uptoSmall }

/-- 'cohesionlaw33.SampleColours', WHERE WHAT IT READS IS OF BULK AT MOST 1048576: true; the input reads as it did. -/
def sampleColoursUptoRow : OpenClaim := { program := "ytdkdlkajcjbakaa", sum := "6be47c88d1ac96ab81e4d1f8599c9a1f6be21c5a8442acfbe94f2128b3853a88", func := "cohesion/cohesionlaw33.SampleColours", spec := "sampleColours", unfollowed := true, recurses := true, apart := false, narrowed := true }
def SampleColoursUptoSaid : Prop := sampleColoursUptoRow.holds Try.pinned (OpenSpec.upto sampleColoursSpec)

/-- 'cohesionlaw33.SampleFair', WHERE WHAT IT READS IS OF BULK AT MOST 1048576: true; the input reads as it did. -/
def sampleFairUptoRow : OpenClaim := { program := "ytdkdlkajcjbakaa", sum := "6be47c88d1ac96ab81e4d1f8599c9a1f6be21c5a8442acfbe94f2128b3853a88", func := "cohesion/cohesionlaw33.SampleFair", spec := "sampleFair", unfollowed := true, recurses := true, apart := false, narrowed := true }
def SampleFairUptoSaid : Prop := sampleFairUptoRow.holds Try.pinned (OpenSpec.upto sampleFairSpec)

/-- 'cohesionlaw33.SampleEdges', WHERE WHAT IT READS IS OF BULK AT MOST 1048576: true; the input reads as it did. -/
def sampleEdgesUptoRow : OpenClaim := { program := "ytdkdlkajcjbakaa", sum := "6be47c88d1ac96ab81e4d1f8599c9a1f6be21c5a8442acfbe94f2128b3853a88", func := "cohesion/cohesionlaw33.SampleEdges", spec := "sampleEdges", unfollowed := true, recurses := true, apart := false, narrowed := true }
def SampleEdgesUptoSaid : Prop := sampleEdgesUptoRow.holds Try.pinned (OpenSpec.upto sampleEdgesSpec)

/-- 'cohesionlaw33.SampleParts', WHERE WHAT IT READS IS OF BULK AT MOST 1048576: true; the input reads as it did. -/
def samplePartsUptoRow : OpenClaim := { program := "ytdkdlkajcjbakaa", sum := "6be47c88d1ac96ab81e4d1f8599c9a1f6be21c5a8442acfbe94f2128b3853a88", func := "cohesion/cohesionlaw33.SampleParts", spec := "sampleParts", unfollowed := true, recurses := true, apart := false, narrowed := true }
def SamplePartsUptoSaid : Prop := samplePartsUptoRow.holds Try.pinned (OpenSpec.upto samplePartsSpec)

end Rows
end Go.Proofs.Ytdkdlkajcjbakaa
