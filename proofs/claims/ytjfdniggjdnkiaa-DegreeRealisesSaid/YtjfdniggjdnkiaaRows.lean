/-
  No cell of these rows narrows 'for every input' (looked for: loops, veiled, ifaces, maps, wideKeys, modest, calm, conditions, laid).
  DERIVED. THE GIVEN ROWS OF THIS SEAT. 5 by the template 'for every input the law returns true; each argument reads behind the call as it read before'; 0 by the template 'total and deterministic' (their statements: YtjfdniggjdnkiaaTotals.lean).
  GIVEN WITH THE SEED: the statements are not yours to turn. If you find one false, say at which input.
  Laid BY PROGRAM, IN A SANDBOX (cutbox-rows.mjs): the forced cells as the released guide's own fill.sh prints them over the translation c4e98fb5dd418357… (all of the seat's roots in one cut). By AI agents, Wed Nov 11 2026. No macro, syntax, notation, axiom, sorry.
-/
import Derived.Test.YtjfdniggjdnkiaaChecked
import GoSem.Claim
import GoSem.ClaimJoined
import GoSem.ClaimMapViews
import Derived.JoinedTies
import Derived.KernelRfl
namespace Go.Proofs.Ytjfdniggjdnkiaa
/- THE CELL 'sum', in the pinned program and in every row, IS THE sha256 OF THE DUMP (.gsa) THAT YtjfdniggjdnkiaaProg.lean LOADS. Nothing in Lean hashes anything: it is a label: what it is worth is what the hold of that sum in a sandbox is worth. -/
noncomputable def Try.pinned : Pinned := { name := "ytjfdniggjdnkiaa", sum := "c4e98fb5dd418357d611490bd59de87ecf8cfb3bab1f177b060ab9a333dad29b", checked := Try.checked }
namespace Rows
def none {H : Type} : Left H := { results := [], args := [] }

/-- 'cohesionlaw09.DegreeErdos': WHATEVER THE INPUT: true; the input reads as it did. -/
def degreeErdosSpec : ChangeSpec := { name := "degreeErdos", fn := fun _ => fun
  | [d] => { results := [.lit (.bool true)], args := [d] }
  | _ => none }
def degreeErdosRow : OpenClaim := { program := "ytjfdniggjdnkiaa", sum := "c4e98fb5dd418357d611490bd59de87ecf8cfb3bab1f177b060ab9a333dad29b", func := "cohesion/cohesionlaw09.DegreeErdos", spec := "degreeErdos", unfollowed := true, recurses := true, apart := false }
def DegreeErdosSaid : Prop := degreeErdosRow.holds Try.pinned (OpenSpec.ofChange degreeErdosSpec)

/-- ITS FALSE NEIGHBOUR: 'it returns false'. Refute it at one input. -/
def degreeErdosWrong : ChangeSpec := { name := "degreeErdos", fn := fun _ => fun
  | [d] => { results := [.lit (.bool false)], args := [d] }
  | _ => none }
def DegreeErdosWrongFalsely : Prop := degreeErdosRow.holds Try.pinned (OpenSpec.ofChange degreeErdosWrong)

/-- 'cohesionlaw09.DegreeIndex': WHATEVER THE INPUT: true; the input reads as it did. -/
def degreeIndexSpec : ChangeSpec := { name := "degreeIndex", fn := fun _ => fun
  | [d1, d2, d3] => { results := [.lit (.bool true)], args := [d1, d2, d3] }
  | _ => none }
def degreeIndexRow : OpenClaim := { program := "ytjfdniggjdnkiaa", sum := "c4e98fb5dd418357d611490bd59de87ecf8cfb3bab1f177b060ab9a333dad29b", func := "cohesion/cohesionlaw09.DegreeIndex", spec := "degreeIndex", unfollowed := true, recurses := true, apart := false }
def DegreeIndexSaid : Prop := degreeIndexRow.holds Try.pinned (OpenSpec.ofChange degreeIndexSpec)

/-- ITS FALSE NEIGHBOUR: 'it returns false'. Refute it at one input. -/
def degreeIndexWrong : ChangeSpec := { name := "degreeIndex", fn := fun _ => fun
  | [d1, d2, d3] => { results := [.lit (.bool false)], args := [d1, d2, d3] }
  | _ => none }
def DegreeIndexWrongFalsely : Prop := degreeIndexRow.holds Try.pinned (OpenSpec.ofChange degreeIndexWrong)

/-- 'cohesionlaw09.DegreeCounts': WHATEVER THE INPUT: true; the input reads as it did. -/
def degreeCountsSpec : ChangeSpec := { name := "degreeCounts", fn := fun _ => fun
  | [d1, d2, d3] => { results := [.lit (.bool true)], args := [d1, d2, d3] }
  | _ => none }
def degreeCountsRow : OpenClaim := { program := "ytjfdniggjdnkiaa", sum := "c4e98fb5dd418357d611490bd59de87ecf8cfb3bab1f177b060ab9a333dad29b", func := "cohesion/cohesionlaw09.DegreeCounts", spec := "degreeCounts", unfollowed := true, recurses := true, apart := false }
def DegreeCountsSaid : Prop := degreeCountsRow.holds Try.pinned (OpenSpec.ofChange degreeCountsSpec)

/-- ITS FALSE NEIGHBOUR: 'it returns false'. Refute it at one input. -/
def degreeCountsWrong : ChangeSpec := { name := "degreeCounts", fn := fun _ => fun
  | [d1, d2, d3] => { results := [.lit (.bool false)], args := [d1, d2, d3] }
  | _ => none }
def DegreeCountsWrongFalsely : Prop := degreeCountsRow.holds Try.pinned (OpenSpec.ofChange degreeCountsWrong)

/-- 'cohesionlaw09.DegreeRealises': WHATEVER THE INPUT: true; the input reads as it did. -/
def degreeRealisesSpec : ChangeSpec := { name := "degreeRealises", fn := fun _ => fun
  | [d1, d2] => { results := [.lit (.bool true)], args := [d1, d2] }
  | _ => none }
def degreeRealisesRow : OpenClaim := { program := "ytjfdniggjdnkiaa", sum := "c4e98fb5dd418357d611490bd59de87ecf8cfb3bab1f177b060ab9a333dad29b", func := "cohesion/cohesionlaw09.DegreeRealises", spec := "degreeRealises", unfollowed := true, recurses := true, apart := false }
def DegreeRealisesSaid : Prop := degreeRealisesRow.holds Try.pinned (OpenSpec.ofChange degreeRealisesSpec)

/-- ITS FALSE NEIGHBOUR: 'it returns false'. Refute it at one input. -/
def degreeRealisesWrong : ChangeSpec := { name := "degreeRealises", fn := fun _ => fun
  | [d1, d2] => { results := [.lit (.bool false)], args := [d1, d2] }
  | _ => none }
def DegreeRealisesWrongFalsely : Prop := degreeRealisesRow.holds Try.pinned (OpenSpec.ofChange degreeRealisesWrong)

/-- 'cohesionlaw09.DegreeBack': WHATEVER THE INPUT: true; the input reads as it did. -/
def degreeBackSpec : ChangeSpec := { name := "degreeBack", fn := fun _ => fun
  | [d] => { results := [.lit (.bool true)], args := [d] }
  | _ => none }
def degreeBackRow : OpenClaim := { program := "ytjfdniggjdnkiaa", sum := "c4e98fb5dd418357d611490bd59de87ecf8cfb3bab1f177b060ab9a333dad29b", func := "cohesion/cohesionlaw09.DegreeBack", spec := "degreeBack", unfollowed := true, recurses := true, apart := false }
def DegreeBackSaid : Prop := degreeBackRow.holds Try.pinned (OpenSpec.ofChange degreeBackSpec)

/-- ITS FALSE NEIGHBOUR: 'it returns false'. Refute it at one input. -/
def degreeBackWrong : ChangeSpec := { name := "degreeBack", fn := fun _ => fun
  | [d] => { results := [.lit (.bool false)], args := [d] }
  | _ => none }
def DegreeBackWrongFalsely : Prop := degreeBackRow.holds Try.pinned (OpenSpec.ofChange degreeBackWrong)

/- THE SECOND FORM. 'bulk': how many values and letters a reading holds, each counted each time it is reached (what is shared counts as often as it is met; a slice's spare places count too). A statement '..UptoSaid' is the law's where the arguments, and the package variables that the reading takes, are together of bulk at most 1048576: NARROWER than '..Said'. Prove '..Said' where nothing that the law and all that it calls make is longer than what came in: it says more and counts as full. Else prove '..UptoSaid'. A law counts once. -/
mutual
def uptoBulk {H : Type} : DataW H → Nat
  | .lit (.string bytes) => bytes.length + 1
  | .lit _ => 1
  | .nil => 1
  | .ptr d => uptoBulk d + 1
  | .slice elems spare => uptoBulkAll elems + uptoBulkAll spare + 1
  | .agg parts => uptoBulkAll parts + 1
  | .iface _ d => uptoBulk d + 1
  | .map entries => uptoBulkEntries entries + 1
  | .held _ => 1
def uptoBulkAll {H : Type} : List (DataW H) → Nat
  | [] => 0
  | d :: r => uptoBulk d + uptoBulkAll r
def uptoBulkEntries {H : Type} : List (Lit × DataW H) → Nat
  | [] => 0
  | x :: r => uptoBulkEntry x + uptoBulkEntries r
def uptoBulkEntry {H : Type} : Lit × DataW H → Nat
  | (.string bytes, d) => bytes.length + uptoBulk d + 1
  | (_, d) => uptoBulk d + 1
 end
def uptoSmall : (H : Type) → List (DataW H) → Bool := fun _ ds => decide (uptoBulkAll ds ≤ 1048576)
def OpenSpec.upto (s : _root_.Go.ChangeSpec) : _root_.Go.OpenSpec := { _root_.Go.OpenSpec.ofChange s with cond := some uptoSmall }

/-- 'cohesionlaw09.DegreeErdos', WHERE WHAT IT READS IS OF BULK AT MOST 1048576: true; the input reads as it did. -/
def degreeErdosUptoRow : OpenClaim := { program := "ytjfdniggjdnkiaa", sum := "c4e98fb5dd418357d611490bd59de87ecf8cfb3bab1f177b060ab9a333dad29b", func := "cohesion/cohesionlaw09.DegreeErdos", spec := "degreeErdos", unfollowed := true, recurses := true, apart := false, narrowed := true }
def DegreeErdosUptoSaid : Prop := degreeErdosUptoRow.holds Try.pinned (OpenSpec.upto degreeErdosSpec)

/-- 'cohesionlaw09.DegreeIndex', WHERE WHAT IT READS IS OF BULK AT MOST 1048576: true; the input reads as it did. -/
def degreeIndexUptoRow : OpenClaim := { program := "ytjfdniggjdnkiaa", sum := "c4e98fb5dd418357d611490bd59de87ecf8cfb3bab1f177b060ab9a333dad29b", func := "cohesion/cohesionlaw09.DegreeIndex", spec := "degreeIndex", unfollowed := true, recurses := true, apart := false, narrowed := true }
def DegreeIndexUptoSaid : Prop := degreeIndexUptoRow.holds Try.pinned (OpenSpec.upto degreeIndexSpec)

/-- 'cohesionlaw09.DegreeCounts', WHERE WHAT IT READS IS OF BULK AT MOST 1048576: true; the input reads as it did. -/
def degreeCountsUptoRow : OpenClaim := { program := "ytjfdniggjdnkiaa", sum := "c4e98fb5dd418357d611490bd59de87ecf8cfb3bab1f177b060ab9a333dad29b", func := "cohesion/cohesionlaw09.DegreeCounts", spec := "degreeCounts", unfollowed := true, recurses := true, apart := false, narrowed := true }
def DegreeCountsUptoSaid : Prop := degreeCountsUptoRow.holds Try.pinned (OpenSpec.upto degreeCountsSpec)

/-- 'cohesionlaw09.DegreeRealises', WHERE WHAT IT READS IS OF BULK AT MOST 1048576: true; the input reads as it did. -/
def degreeRealisesUptoRow : OpenClaim := { program := "ytjfdniggjdnkiaa", sum := "c4e98fb5dd418357d611490bd59de87ecf8cfb3bab1f177b060ab9a333dad29b", func := "cohesion/cohesionlaw09.DegreeRealises", spec := "degreeRealises", unfollowed := true, recurses := true, apart := false, narrowed := true }
def DegreeRealisesUptoSaid : Prop := degreeRealisesUptoRow.holds Try.pinned (OpenSpec.upto degreeRealisesSpec)

/-- 'cohesionlaw09.DegreeBack', WHERE WHAT IT READS IS OF BULK AT MOST 1048576: true; the input reads as it did. -/
def degreeBackUptoRow : OpenClaim := { program := "ytjfdniggjdnkiaa", sum := "c4e98fb5dd418357d611490bd59de87ecf8cfb3bab1f177b060ab9a333dad29b", func := "cohesion/cohesionlaw09.DegreeBack", spec := "degreeBack", unfollowed := true, recurses := true, apart := false, narrowed := true }
def DegreeBackUptoSaid : Prop := degreeBackUptoRow.holds Try.pinned (OpenSpec.upto degreeBackSpec)

end Rows
end Go.Proofs.Ytjfdniggjdnkiaa
