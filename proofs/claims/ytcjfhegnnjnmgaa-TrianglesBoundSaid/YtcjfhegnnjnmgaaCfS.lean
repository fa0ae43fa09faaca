/- The configuration with the library's functions that write into the slice they are given, and what it says of each function. -/
import Derived.Test.YtcjfhegnnjnmgaaBmP
import Derived.Test.YtcjfhegnnjnmgaaRunL
import Derived.Test.YtcjfhegnnjnmgaaSetP
import Derived.Test.YtcjfhegnnjnmgaaCloE
import Derived.Test.YtcjfhegnnjnmgaaInsO
set_option maxRecDepth 100000
namespace Go.BmP
open Go.Am Go.Bm
def inpS (f : Nat) : Option (Nat → List AV → List AV → Option (List AV × Option Nat)) := if f = nSlicesSortIntInt then some srtG else none
def orcF (f : Nat) : Option (List AV → Heap → Option (AV × Heap)) := if f = nSlicesCloneIntInt then some gCloW else if f = nSlicesCloneApiEdgeApiEdge then some gCloE else none
def eatS (f : Nat) : Option (Nat → List AV → List AV → Option (List AV)) := if f = nSlicesInsertApiEdgeApiEdge then some insG else none
def locS (f : Nat) : Bool := if f = nMakeDeckNext then true else false
def cfgS : Go.Bm.Cfg := { cfg with inp := inpS, orc := orcF, eat := eatS, loc := locS }
theorem cfgSOK : CfgOKB Go.Proofs.Try.prog cfgS := ⟨cfgOK.mixed, cfgOK.fn⟩
theorem sLaw29TrianglesBound : cfgS.fn nLaw29TrianglesBound = some (⟨false, false, true⟩, qLaw29TrianglesBound) := gLaw29TrianglesBound
theorem oLaw29TrianglesBound : cfgS.orc nLaw29TrianglesBound = none := show orcF nLaw29TrianglesBound = none from by unfold orcF; rw [if_neg (show ¬ nLaw29TrianglesBound = nSlicesCloneIntInt by decide), if_neg (show ¬ nLaw29TrianglesBound = nSlicesCloneApiEdgeApiEdge by decide)]
theorem sMakeFew : cfgS.fn nMakeFew = some (⟨false, false, true⟩, qMakeFew) := gMakeFew
theorem iMakeFew : cfgS.inp nMakeFew = none := show inpS nMakeFew = none from by unfold inpS; rw [if_neg (show ¬ nMakeFew = nSlicesSortIntInt by decide)]
theorem eMakeFew : cfgS.eat nMakeFew = none := show eatS nMakeFew = none from by unfold eatS; rw [if_neg (show ¬ nMakeFew = nSlicesInsertApiEdgeApiEdge by decide)]
theorem lMakeFew : cfgS.loc nMakeFew = false := show locS nMakeFew = false from by unfold locS; rw [if_neg (show ¬ nMakeFew = nMakeDeckNext by decide)]
theorem oMakeFew : cfgS.orc nMakeFew = none := show orcF nMakeFew = none from by unfold orcF; rw [if_neg (show ¬ nMakeFew = nSlicesCloneIntInt by decide), if_neg (show ¬ nMakeFew = nSlicesCloneApiEdgeApiEdge by decide)]
theorem sLaw29Awake : cfgS.fn nLaw29Awake = some (⟨false, false, true⟩, qLaw29Awake) := gLaw29Awake
theorem iLaw29Awake : cfgS.inp nLaw29Awake = none := show inpS nLaw29Awake = none from by unfold inpS; rw [if_neg (show ¬ nLaw29Awake = nSlicesSortIntInt by decide)]
theorem eLaw29Awake : cfgS.eat nLaw29Awake = none := show eatS nLaw29Awake = none from by unfold eatS; rw [if_neg (show ¬ nLaw29Awake = nSlicesInsertApiEdgeApiEdge by decide)]
theorem lLaw29Awake : cfgS.loc nLaw29Awake = false := show locS nLaw29Awake = false from by unfold locS; rw [if_neg (show ¬ nLaw29Awake = nMakeDeckNext by decide)]
theorem sMakeNew : cfgS.fn nMakeNew = some (⟨true, false, false⟩, qMakeNew) := gMakeNew
theorem iMakeNew : cfgS.inp nMakeNew = none := show inpS nMakeNew = none from by unfold inpS; rw [if_neg (show ¬ nMakeNew = nSlicesSortIntInt by decide)]
theorem eMakeNew : cfgS.eat nMakeNew = none := show eatS nMakeNew = none from by unfold eatS; rw [if_neg (show ¬ nMakeNew = nSlicesInsertApiEdgeApiEdge by decide)]
theorem lMakeNew : cfgS.loc nMakeNew = false := show locS nMakeNew = false from by unfold locS; rw [if_neg (show ¬ nMakeNew = nMakeDeckNext by decide)]
theorem oMakeNew : cfgS.orc nMakeNew = none := show orcF nMakeNew = none from by unfold orcF; rw [if_neg (show ¬ nMakeNew = nSlicesCloneIntInt by decide), if_neg (show ¬ nMakeNew = nSlicesCloneApiEdgeApiEdge by decide)]
theorem sMakeGraph : cfgS.fn nMakeGraph = some (⟨true, false, false⟩, qMakeGraph) := gMakeGraph
theorem iMakeGraph : cfgS.inp nMakeGraph = none := show inpS nMakeGraph = none from by unfold inpS; rw [if_neg (show ¬ nMakeGraph = nSlicesSortIntInt by decide)]
theorem eMakeGraph : cfgS.eat nMakeGraph = none := show eatS nMakeGraph = none from by unfold eatS; rw [if_neg (show ¬ nMakeGraph = nSlicesInsertApiEdgeApiEdge by decide)]
theorem lMakeGraph : cfgS.loc nMakeGraph = false := show locS nMakeGraph = false from by unfold locS; rw [if_neg (show ¬ nMakeGraph = nMakeDeckNext by decide)]
theorem oMakeGraph : cfgS.orc nMakeGraph = none := show orcF nMakeGraph = none from by unfold orcF; rw [if_neg (show ¬ nMakeGraph = nSlicesCloneIntInt by decide), if_neg (show ¬ nMakeGraph = nSlicesCloneApiEdgeApiEdge by decide)]
theorem sTrianglesCount : cfgS.fn nTrianglesCount = some (⟨false, false, true⟩, qTrianglesCount) := gTrianglesCount
theorem iTrianglesCount : cfgS.inp nTrianglesCount = none := show inpS nTrianglesCount = none from by unfold inpS; rw [if_neg (show ¬ nTrianglesCount = nSlicesSortIntInt by decide)]
theorem eTrianglesCount : cfgS.eat nTrianglesCount = none := show eatS nTrianglesCount = none from by unfold eatS; rw [if_neg (show ¬ nTrianglesCount = nSlicesInsertApiEdgeApiEdge by decide)]
theorem lTrianglesCount : cfgS.loc nTrianglesCount = false := show locS nTrianglesCount = false from by unfold locS; rw [if_neg (show ¬ nTrianglesCount = nMakeDeckNext by decide)]
theorem oTrianglesCount : cfgS.orc nTrianglesCount = none := show orcF nTrianglesCount = none from by unfold orcF; rw [if_neg (show ¬ nTrianglesCount = nSlicesCloneIntInt by decide), if_neg (show ¬ nTrianglesCount = nSlicesCloneApiEdgeApiEdge by decide)]
theorem sTrianglesOpen : cfgS.fn nTrianglesOpen = some (⟨false, false, false⟩, qTrianglesOpen) := gTrianglesOpen
theorem iTrianglesOpen : cfgS.inp nTrianglesOpen = none := show inpS nTrianglesOpen = none from by unfold inpS; rw [if_neg (show ¬ nTrianglesOpen = nSlicesSortIntInt by decide)]
theorem eTrianglesOpen : cfgS.eat nTrianglesOpen = none := show eatS nTrianglesOpen = none from by unfold eatS; rw [if_neg (show ¬ nTrianglesOpen = nSlicesInsertApiEdgeApiEdge by decide)]
theorem lTrianglesOpen : cfgS.loc nTrianglesOpen = false := show locS nTrianglesOpen = false from by unfold locS; rw [if_neg (show ¬ nTrianglesOpen = nMakeDeckNext by decide)]
theorem oTrianglesOpen : cfgS.orc nTrianglesOpen = none := show orcF nTrianglesOpen = none from by unfold orcF; rw [if_neg (show ¬ nTrianglesOpen = nSlicesCloneIntInt by decide), if_neg (show ¬ nTrianglesOpen = nSlicesCloneApiEdgeApiEdge by decide)]
theorem sTrianglesInsert : cfgS.fn nTrianglesInsert = some (⟨false, false, false⟩, qTrianglesInsert) := gTrianglesInsert
theorem iTrianglesInsert : cfgS.inp nTrianglesInsert = none := show inpS nTrianglesInsert = none from by unfold inpS; rw [if_neg (show ¬ nTrianglesInsert = nSlicesSortIntInt by decide)]
theorem eTrianglesInsert : cfgS.eat nTrianglesInsert = none := show eatS nTrianglesInsert = none from by unfold eatS; rw [if_neg (show ¬ nTrianglesInsert = nSlicesInsertApiEdgeApiEdge by decide)]
theorem lTrianglesInsert : cfgS.loc nTrianglesInsert = false := show locS nTrianglesInsert = false from by unfold locS; rw [if_neg (show ¬ nTrianglesInsert = nMakeDeckNext by decide)]
theorem oTrianglesInsert : cfgS.orc nTrianglesInsert = none := show orcF nTrianglesInsert = none from by unfold orcF; rw [if_neg (show ¬ nTrianglesInsert = nSlicesCloneIntInt by decide), if_neg (show ¬ nTrianglesInsert = nSlicesCloneApiEdgeApiEdge by decide)]
theorem sMakeDeckNext : cfgS.fn nMakeDeckNext = some (⟨true, false, false⟩, qMakeDeckNext) := gMakeDeckNext
theorem iMakeDeckNext : cfgS.inp nMakeDeckNext = none := show inpS nMakeDeckNext = none from by unfold inpS; rw [if_neg (show ¬ nMakeDeckNext = nSlicesSortIntInt by decide)]
theorem eMakeDeckNext : cfgS.eat nMakeDeckNext = none := show eatS nMakeDeckNext = none from by unfold eatS; rw [if_neg (show ¬ nMakeDeckNext = nSlicesInsertApiEdgeApiEdge by decide)]
theorem lMakeDeckNext : cfgS.loc nMakeDeckNext = true := show locS nMakeDeckNext = true from by unfold locS; rw [if_pos rfl]
theorem oMakeDeckNext : cfgS.orc nMakeDeckNext = none := show orcF nMakeDeckNext = none from by unfold orcF; rw [if_neg (show ¬ nMakeDeckNext = nSlicesCloneIntInt by decide), if_neg (show ¬ nMakeDeckNext = nSlicesCloneApiEdgeApiEdge by decide)]
theorem sTrianglesValid : cfgS.fn nTrianglesValid = some (⟨false, false, true⟩, qTrianglesValid) := gTrianglesValid
theorem iTrianglesValid : cfgS.inp nTrianglesValid = none := show inpS nTrianglesValid = none from by unfold inpS; rw [if_neg (show ¬ nTrianglesValid = nSlicesSortIntInt by decide)]
theorem eTrianglesValid : cfgS.eat nTrianglesValid = none := show eatS nTrianglesValid = none from by unfold eatS; rw [if_neg (show ¬ nTrianglesValid = nSlicesInsertApiEdgeApiEdge by decide)]
theorem lTrianglesValid : cfgS.loc nTrianglesValid = false := show locS nTrianglesValid = false from by unfold locS; rw [if_neg (show ¬ nTrianglesValid = nMakeDeckNext by decide)]
theorem oTrianglesValid : cfgS.orc nTrianglesValid = none := show orcF nTrianglesValid = none from by unfold orcF; rw [if_neg (show ¬ nTrianglesValid = nSlicesCloneIntInt by decide), if_neg (show ¬ nTrianglesValid = nSlicesCloneApiEdgeApiEdge by decide)]
theorem sGraphCheck : cfgS.fn nGraphCheck = some (⟨false, false, true⟩, qGraphCheck) := gGraphCheck
theorem iGraphCheck : cfgS.inp nGraphCheck = none := show inpS nGraphCheck = none from by unfold inpS; rw [if_neg (show ¬ nGraphCheck = nSlicesSortIntInt by decide)]
theorem eGraphCheck : cfgS.eat nGraphCheck = none := show eatS nGraphCheck = none from by unfold eatS; rw [if_neg (show ¬ nGraphCheck = nSlicesInsertApiEdgeApiEdge by decide)]
theorem lGraphCheck : cfgS.loc nGraphCheck = false := show locS nGraphCheck = false from by unfold locS; rw [if_neg (show ¬ nGraphCheck = nMakeDeckNext by decide)]
theorem oGraphCheck : cfgS.orc nGraphCheck = none := show orcF nGraphCheck = none from by unfold orcF; rw [if_neg (show ¬ nGraphCheck = nSlicesCloneIntInt by decide), if_neg (show ¬ nGraphCheck = nSlicesCloneApiEdgeApiEdge by decide)]
theorem sTrianglesCounts : cfgS.fn nTrianglesCounts = some (⟨false, false, false⟩, qTrianglesCounts) := gTrianglesCounts
theorem iTrianglesCounts : cfgS.inp nTrianglesCounts = none := show inpS nTrianglesCounts = none from by unfold inpS; rw [if_neg (show ¬ nTrianglesCounts = nSlicesSortIntInt by decide)]
theorem eTrianglesCounts : cfgS.eat nTrianglesCounts = none := show eatS nTrianglesCounts = none from by unfold eatS; rw [if_neg (show ¬ nTrianglesCounts = nSlicesInsertApiEdgeApiEdge by decide)]
theorem lTrianglesCounts : cfgS.loc nTrianglesCounts = false := show locS nTrianglesCounts = false from by unfold locS; rw [if_neg (show ¬ nTrianglesCounts = nMakeDeckNext by decide)]
theorem oTrianglesCounts : cfgS.orc nTrianglesCounts = none := show orcF nTrianglesCounts = none from by unfold orcF; rw [if_neg (show ¬ nTrianglesCounts = nSlicesCloneIntInt by decide), if_neg (show ¬ nTrianglesCounts = nSlicesCloneApiEdgeApiEdge by decide)]
theorem sTrianglesCopied : cfgS.fn nTrianglesCopied = some (⟨false, false, false⟩, qTrianglesCopied) := gTrianglesCopied
theorem iTrianglesCopied : cfgS.inp nTrianglesCopied = none := show inpS nTrianglesCopied = none from by unfold inpS; rw [if_neg (show ¬ nTrianglesCopied = nSlicesSortIntInt by decide)]
theorem eTrianglesCopied : cfgS.eat nTrianglesCopied = none := show eatS nTrianglesCopied = none from by unfold eatS; rw [if_neg (show ¬ nTrianglesCopied = nSlicesInsertApiEdgeApiEdge by decide)]
theorem lTrianglesCopied : cfgS.loc nTrianglesCopied = false := show locS nTrianglesCopied = false from by unfold locS; rw [if_neg (show ¬ nTrianglesCopied = nMakeDeckNext by decide)]
theorem oTrianglesCopied : cfgS.orc nTrianglesCopied = none := show orcF nTrianglesCopied = none from by unfold orcF; rw [if_neg (show ¬ nTrianglesCopied = nSlicesCloneIntInt by decide), if_neg (show ¬ nTrianglesCopied = nSlicesCloneApiEdgeApiEdge by decide)]
theorem sGraphAdd : cfgS.fn nGraphAdd = some (⟨false, false, false⟩, qGraphAdd) := gGraphAdd
theorem iGraphAdd : cfgS.inp nGraphAdd = none := show inpS nGraphAdd = none from by unfold inpS; rw [if_neg (show ¬ nGraphAdd = nSlicesSortIntInt by decide)]
theorem eGraphAdd : cfgS.eat nGraphAdd = none := show eatS nGraphAdd = none from by unfold eatS; rw [if_neg (show ¬ nGraphAdd = nSlicesInsertApiEdgeApiEdge by decide)]
theorem lGraphAdd : cfgS.loc nGraphAdd = false := show locS nGraphAdd = false from by unfold locS; rw [if_neg (show ¬ nGraphAdd = nMakeDeckNext by decide)]
theorem oGraphAdd : cfgS.orc nGraphAdd = none := show orcF nGraphAdd = none from by unfold orcF; rw [if_neg (show ¬ nGraphAdd = nSlicesCloneIntInt by decide), if_neg (show ¬ nGraphAdd = nSlicesCloneApiEdgeApiEdge by decide)]
theorem sTrianglesChanged : cfgS.fn nTrianglesChanged = some (⟨false, false, false⟩, qTrianglesChanged) := gTrianglesChanged
theorem iTrianglesChanged : cfgS.inp nTrianglesChanged = none := show inpS nTrianglesChanged = none from by unfold inpS; rw [if_neg (show ¬ nTrianglesChanged = nSlicesSortIntInt by decide)]
theorem eTrianglesChanged : cfgS.eat nTrianglesChanged = none := show eatS nTrianglesChanged = none from by unfold eatS; rw [if_neg (show ¬ nTrianglesChanged = nSlicesInsertApiEdgeApiEdge by decide)]
theorem lTrianglesChanged : cfgS.loc nTrianglesChanged = false := show locS nTrianglesChanged = false from by unfold locS; rw [if_neg (show ¬ nTrianglesChanged = nMakeDeckNext by decide)]
theorem oTrianglesChanged : cfgS.orc nTrianglesChanged = none := show orcF nTrianglesChanged = none from by unfold orcF; rw [if_neg (show ¬ nTrianglesChanged = nSlicesCloneIntInt by decide), if_neg (show ¬ nTrianglesChanged = nSlicesCloneApiEdgeApiEdge by decide)]
theorem sMakeMod : cfgS.fn nMakeMod = some (⟨false, false, true⟩, qMakeMod) := gMakeMod
theorem iMakeMod : cfgS.inp nMakeMod = none := show inpS nMakeMod = none from by unfold inpS; rw [if_neg (show ¬ nMakeMod = nSlicesSortIntInt by decide)]
theorem eMakeMod : cfgS.eat nMakeMod = none := show eatS nMakeMod = none from by unfold eatS; rw [if_neg (show ¬ nMakeMod = nSlicesInsertApiEdgeApiEdge by decide)]
theorem lMakeMod : cfgS.loc nMakeMod = false := show locS nMakeMod = false from by unfold locS; rw [if_neg (show ¬ nMakeMod = nMakeDeckNext by decide)]
theorem oMakeMod : cfgS.orc nMakeMod = none := show orcF nMakeMod = none from by unfold orcF; rw [if_neg (show ¬ nMakeMod = nSlicesCloneIntInt by decide), if_neg (show ¬ nMakeMod = nSlicesCloneApiEdgeApiEdge by decide)]
theorem sSlicesEqualIntInt : cfgS.fn nSlicesEqualIntInt = some (⟨false, false, true⟩, qSlicesEqualIntInt) := gSlicesEqualIntInt
theorem iSlicesEqualIntInt : cfgS.inp nSlicesEqualIntInt = none := show inpS nSlicesEqualIntInt = none from by unfold inpS; rw [if_neg (show ¬ nSlicesEqualIntInt = nSlicesSortIntInt by decide)]
theorem eSlicesEqualIntInt : cfgS.eat nSlicesEqualIntInt = none := show eatS nSlicesEqualIntInt = none from by unfold eatS; rw [if_neg (show ¬ nSlicesEqualIntInt = nSlicesInsertApiEdgeApiEdge by decide)]
theorem lSlicesEqualIntInt : cfgS.loc nSlicesEqualIntInt = false := show locS nSlicesEqualIntInt = false from by unfold locS; rw [if_neg (show ¬ nSlicesEqualIntInt = nMakeDeckNext by decide)]
theorem oSlicesEqualIntInt : cfgS.orc nSlicesEqualIntInt = none := show orcF nSlicesEqualIntInt = none from by unfold orcF; rw [if_neg (show ¬ nSlicesEqualIntInt = nSlicesCloneIntInt by decide), if_neg (show ¬ nSlicesEqualIntInt = nSlicesCloneApiEdgeApiEdge by decide)]
theorem sTrianglesLists : cfgS.fn nTrianglesLists = some (⟨false, false, false⟩, qTrianglesLists) := gTrianglesLists
theorem iTrianglesLists : cfgS.inp nTrianglesLists = none := show inpS nTrianglesLists = none from by unfold inpS; rw [if_neg (show ¬ nTrianglesLists = nSlicesSortIntInt by decide)]
theorem eTrianglesLists : cfgS.eat nTrianglesLists = none := show eatS nTrianglesLists = none from by unfold eatS; rw [if_neg (show ¬ nTrianglesLists = nSlicesInsertApiEdgeApiEdge by decide)]
theorem lTrianglesLists : cfgS.loc nTrianglesLists = false := show locS nTrianglesLists = false from by unfold locS; rw [if_neg (show ¬ nTrianglesLists = nMakeDeckNext by decide)]
theorem oTrianglesLists : cfgS.orc nTrianglesLists = none := show orcF nTrianglesLists = none from by unfold orcF; rw [if_neg (show ¬ nTrianglesLists = nSlicesCloneIntInt by decide), if_neg (show ¬ nTrianglesLists = nSlicesCloneApiEdgeApiEdge by decide)]
theorem sGraphOrder : cfgS.fn nGraphOrder = some (⟨false, false, true⟩, qGraphOrder) := gGraphOrder
theorem iGraphOrder : cfgS.inp nGraphOrder = none := show inpS nGraphOrder = none from by unfold inpS; rw [if_neg (show ¬ nGraphOrder = nSlicesSortIntInt by decide)]
theorem eGraphOrder : cfgS.eat nGraphOrder = none := show eatS nGraphOrder = none from by unfold eatS; rw [if_neg (show ¬ nGraphOrder = nSlicesInsertApiEdgeApiEdge by decide)]
theorem lGraphOrder : cfgS.loc nGraphOrder = false := show locS nGraphOrder = false from by unfold locS; rw [if_neg (show ¬ nGraphOrder = nMakeDeckNext by decide)]
theorem oGraphOrder : cfgS.orc nGraphOrder = none := show orcF nGraphOrder = none from by unfold orcF; rw [if_neg (show ¬ nGraphOrder = nSlicesCloneIntInt by decide), if_neg (show ¬ nGraphOrder = nSlicesCloneApiEdgeApiEdge by decide)]
theorem sTrianglesSharedInt : cfgS.fn nTrianglesSharedInt = some (⟨false, false, false⟩, qTrianglesSharedInt) := gTrianglesSharedInt
theorem iTrianglesSharedInt : cfgS.inp nTrianglesSharedInt = none := show inpS nTrianglesSharedInt = none from by unfold inpS; rw [if_neg (show ¬ nTrianglesSharedInt = nSlicesSortIntInt by decide)]
theorem eTrianglesSharedInt : cfgS.eat nTrianglesSharedInt = none := show eatS nTrianglesSharedInt = none from by unfold eatS; rw [if_neg (show ¬ nTrianglesSharedInt = nSlicesInsertApiEdgeApiEdge by decide)]
theorem lTrianglesSharedInt : cfgS.loc nTrianglesSharedInt = false := show locS nTrianglesSharedInt = false from by unfold locS; rw [if_neg (show ¬ nTrianglesSharedInt = nMakeDeckNext by decide)]
theorem oTrianglesSharedInt : cfgS.orc nTrianglesSharedInt = none := show orcF nTrianglesSharedInt = none from by unfold orcF; rw [if_neg (show ¬ nTrianglesSharedInt = nSlicesCloneIntInt by decide), if_neg (show ¬ nTrianglesSharedInt = nSlicesCloneApiEdgeApiEdge by decide)]
theorem sSlicesCloneApiEdgeApiEdge : cfgS.fn nSlicesCloneApiEdgeApiEdge = some (⟨false, true, true⟩, qSlicesCloneApiEdgeApiEdge) := gSlicesCloneApiEdgeApiEdge
theorem iSlicesCloneApiEdgeApiEdge : cfgS.inp nSlicesCloneApiEdgeApiEdge = none := show inpS nSlicesCloneApiEdgeApiEdge = none from by unfold inpS; rw [if_neg (show ¬ nSlicesCloneApiEdgeApiEdge = nSlicesSortIntInt by decide)]
theorem eSlicesCloneApiEdgeApiEdge : cfgS.eat nSlicesCloneApiEdgeApiEdge = none := show eatS nSlicesCloneApiEdgeApiEdge = none from by unfold eatS; rw [if_neg (show ¬ nSlicesCloneApiEdgeApiEdge = nSlicesInsertApiEdgeApiEdge by decide)]
theorem lSlicesCloneApiEdgeApiEdge : cfgS.loc nSlicesCloneApiEdgeApiEdge = false := show locS nSlicesCloneApiEdgeApiEdge = false from by unfold locS; rw [if_neg (show ¬ nSlicesCloneApiEdgeApiEdge = nMakeDeckNext by decide)]
theorem oSlicesCloneApiEdgeApiEdge : cfgS.orc nSlicesCloneApiEdgeApiEdge = some gCloE := show orcF nSlicesCloneApiEdgeApiEdge = some gCloE from by unfold orcF; rw [if_neg (show ¬ nSlicesCloneApiEdgeApiEdge = nSlicesCloneIntInt by decide), if_pos rfl]
theorem sGraphChange : cfgS.fn nGraphChange = some (⟨false, false, true⟩, qGraphChange) := gGraphChange
theorem iGraphChange : cfgS.inp nGraphChange = none := show inpS nGraphChange = none from by unfold inpS; rw [if_neg (show ¬ nGraphChange = nSlicesSortIntInt by decide)]
theorem eGraphChange : cfgS.eat nGraphChange = none := show eatS nGraphChange = none from by unfold eatS; rw [if_neg (show ¬ nGraphChange = nSlicesInsertApiEdgeApiEdge by decide)]
theorem lGraphChange : cfgS.loc nGraphChange = false := show locS nGraphChange = false from by unfold locS; rw [if_neg (show ¬ nGraphChange = nMakeDeckNext by decide)]
theorem oGraphChange : cfgS.orc nGraphChange = none := show orcF nGraphChange = none from by unfold orcF; rw [if_neg (show ¬ nGraphChange = nSlicesCloneIntInt by decide), if_neg (show ¬ nGraphChange = nSlicesCloneApiEdgeApiEdge by decide)]
theorem sGraphPlace : cfgS.fn nGraphPlace = some (⟨false, false, true⟩, qGraphPlace) := gGraphPlace
theorem iGraphPlace : cfgS.inp nGraphPlace = none := show inpS nGraphPlace = none from by unfold inpS; rw [if_neg (show ¬ nGraphPlace = nSlicesSortIntInt by decide)]
theorem eGraphPlace : cfgS.eat nGraphPlace = none := show eatS nGraphPlace = none from by unfold eatS; rw [if_neg (show ¬ nGraphPlace = nSlicesInsertApiEdgeApiEdge by decide)]
theorem lGraphPlace : cfgS.loc nGraphPlace = false := show locS nGraphPlace = false from by unfold locS; rw [if_neg (show ¬ nGraphPlace = nMakeDeckNext by decide)]
theorem oGraphPlace : cfgS.orc nGraphPlace = none := show orcF nGraphPlace = none from by unfold orcF; rw [if_neg (show ¬ nGraphPlace = nSlicesCloneIntInt by decide), if_neg (show ¬ nGraphPlace = nSlicesCloneApiEdgeApiEdge by decide)]
theorem sSlicesInsertApiEdgeApiEdge : cfgS.fn nSlicesInsertApiEdgeApiEdge = some (⟨false, true, true⟩, qSlicesInsertApiEdgeApiEdge) := gSlicesInsertApiEdgeApiEdge
theorem iSlicesInsertApiEdgeApiEdge : cfgS.inp nSlicesInsertApiEdgeApiEdge = none := show inpS nSlicesInsertApiEdgeApiEdge = none from by unfold inpS; rw [if_neg (show ¬ nSlicesInsertApiEdgeApiEdge = nSlicesSortIntInt by decide)]
theorem eSlicesInsertApiEdgeApiEdge : cfgS.eat nSlicesInsertApiEdgeApiEdge = some insG := show eatS nSlicesInsertApiEdgeApiEdge = some insG from by unfold eatS; rw [if_pos rfl]
theorem lSlicesInsertApiEdgeApiEdge : cfgS.loc nSlicesInsertApiEdgeApiEdge = false := show locS nSlicesInsertApiEdgeApiEdge = false from by unfold locS; rw [if_neg (show ¬ nSlicesInsertApiEdgeApiEdge = nMakeDeckNext by decide)]
theorem sGraphEdge : cfgS.fn nGraphEdge = some (⟨false, false, false⟩, qGraphEdge) := gGraphEdge
theorem iGraphEdge : cfgS.inp nGraphEdge = none := show inpS nGraphEdge = none from by unfold inpS; rw [if_neg (show ¬ nGraphEdge = nSlicesSortIntInt by decide)]
theorem eGraphEdge : cfgS.eat nGraphEdge = none := show eatS nGraphEdge = none from by unfold eatS; rw [if_neg (show ¬ nGraphEdge = nSlicesInsertApiEdgeApiEdge by decide)]
theorem lGraphEdge : cfgS.loc nGraphEdge = false := show locS nGraphEdge = false from by unfold locS; rw [if_neg (show ¬ nGraphEdge = nMakeDeckNext by decide)]
theorem oGraphEdge : cfgS.orc nGraphEdge = none := show orcF nGraphEdge = none from by unfold orcF; rw [if_neg (show ¬ nGraphEdge = nSlicesCloneIntInt by decide), if_neg (show ¬ nGraphEdge = nSlicesCloneApiEdgeApiEdge by decide)]
theorem sSlicesCloneIntInt : cfgS.fn nSlicesCloneIntInt = some (⟨false, true, true⟩, qSlicesCloneIntInt) := gSlicesCloneIntInt
theorem iSlicesCloneIntInt : cfgS.inp nSlicesCloneIntInt = none := show inpS nSlicesCloneIntInt = none from by unfold inpS; rw [if_neg (show ¬ nSlicesCloneIntInt = nSlicesSortIntInt by decide)]
theorem eSlicesCloneIntInt : cfgS.eat nSlicesCloneIntInt = none := show eatS nSlicesCloneIntInt = none from by unfold eatS; rw [if_neg (show ¬ nSlicesCloneIntInt = nSlicesInsertApiEdgeApiEdge by decide)]
theorem lSlicesCloneIntInt : cfgS.loc nSlicesCloneIntInt = false := show locS nSlicesCloneIntInt = false from by unfold locS; rw [if_neg (show ¬ nSlicesCloneIntInt = nMakeDeckNext by decide)]
theorem oSlicesCloneIntInt : cfgS.orc nSlicesCloneIntInt = some gCloW := show orcF nSlicesCloneIntInt = some gCloW from by unfold orcF; rw [if_pos rfl]
theorem sSlicesSortIntInt : cfgS.fn nSlicesSortIntInt = some (⟨false, false, true⟩, qSlicesSortIntInt) := gSlicesSortIntInt
theorem iSlicesSortIntInt : cfgS.inp nSlicesSortIntInt = some srtG := show inpS nSlicesSortIntInt = some srtG from by unfold inpS; rw [if_pos rfl]
theorem eSlicesSortIntInt : cfgS.eat nSlicesSortIntInt = none := show eatS nSlicesSortIntInt = none from by unfold eatS; rw [if_neg (show ¬ nSlicesSortIntInt = nSlicesInsertApiEdgeApiEdge by decide)]
theorem lSlicesSortIntInt : cfgS.loc nSlicesSortIntInt = false := show locS nSlicesSortIntInt = false from by unfold locS; rw [if_neg (show ¬ nSlicesSortIntInt = nMakeDeckNext by decide)]
theorem sCmpOrInt : cfgS.fn nCmpOrInt = some (⟨false, false, true⟩, qCmpOrInt) := gCmpOrInt
theorem iCmpOrInt : cfgS.inp nCmpOrInt = none := show inpS nCmpOrInt = none from by unfold inpS; rw [if_neg (show ¬ nCmpOrInt = nSlicesSortIntInt by decide)]
theorem eCmpOrInt : cfgS.eat nCmpOrInt = none := show eatS nCmpOrInt = none from by unfold eatS; rw [if_neg (show ¬ nCmpOrInt = nSlicesInsertApiEdgeApiEdge by decide)]
theorem lCmpOrInt : cfgS.loc nCmpOrInt = false := show locS nCmpOrInt = false from by unfold locS; rw [if_neg (show ¬ nCmpOrInt = nMakeDeckNext by decide)]
theorem oCmpOrInt : cfgS.orc nCmpOrInt = none := show orcF nCmpOrInt = none from by unfold orcF; rw [if_neg (show ¬ nCmpOrInt = nSlicesCloneIntInt by decide), if_neg (show ¬ nCmpOrInt = nSlicesCloneApiEdgeApiEdge by decide)]
theorem sCmpCompareInt : cfgS.fn nCmpCompareInt = some (⟨false, false, true⟩, qCmpCompareInt) := gCmpCompareInt
theorem iCmpCompareInt : cfgS.inp nCmpCompareInt = none := show inpS nCmpCompareInt = none from by unfold inpS; rw [if_neg (show ¬ nCmpCompareInt = nSlicesSortIntInt by decide)]
theorem eCmpCompareInt : cfgS.eat nCmpCompareInt = none := show eatS nCmpCompareInt = none from by unfold eatS; rw [if_neg (show ¬ nCmpCompareInt = nSlicesInsertApiEdgeApiEdge by decide)]
theorem lCmpCompareInt : cfgS.loc nCmpCompareInt = false := show locS nCmpCompareInt = false from by unfold locS; rw [if_neg (show ¬ nCmpCompareInt = nMakeDeckNext by decide)]
theorem oCmpCompareInt : cfgS.orc nCmpCompareInt = none := show orcF nCmpCompareInt = none from by unfold orcF; rw [if_neg (show ¬ nCmpCompareInt = nSlicesCloneIntInt by decide), if_neg (show ¬ nCmpCompareInt = nSlicesCloneApiEdgeApiEdge by decide)]
theorem sGraphEnds : cfgS.fn nGraphEnds = some (⟨false, false, true⟩, qGraphEnds) := gGraphEnds
theorem iGraphEnds : cfgS.inp nGraphEnds = none := show inpS nGraphEnds = none from by unfold inpS; rw [if_neg (show ¬ nGraphEnds = nSlicesSortIntInt by decide)]
theorem eGraphEnds : cfgS.eat nGraphEnds = none := show eatS nGraphEnds = none from by unfold eatS; rw [if_neg (show ¬ nGraphEnds = nSlicesInsertApiEdgeApiEdge by decide)]
theorem lGraphEnds : cfgS.loc nGraphEnds = false := show locS nGraphEnds = false from by unfold locS; rw [if_neg (show ¬ nGraphEnds = nMakeDeckNext by decide)]
theorem oGraphEnds : cfgS.orc nGraphEnds = none := show orcF nGraphEnds = none from by unfold orcF; rw [if_neg (show ¬ nGraphEnds = nSlicesCloneIntInt by decide), if_neg (show ¬ nGraphEnds = nSlicesCloneApiEdgeApiEdge by decide)]
theorem sSlicesBinarySearchFuncApiEdgeApiEdgeApiEdge : cfgS.fn nSlicesBinarySearchFuncApiEdgeApiEdgeApiEdge = some (⟨false, false, true⟩, qSlicesBinarySearchFuncApiEdgeApiEdgeApiEdge) := gSlicesBinarySearchFuncApiEdgeApiEdgeApiEdge
theorem iSlicesBinarySearchFuncApiEdgeApiEdgeApiEdge : cfgS.inp nSlicesBinarySearchFuncApiEdgeApiEdgeApiEdge = none := show inpS nSlicesBinarySearchFuncApiEdgeApiEdgeApiEdge = none from by unfold inpS; rw [if_neg (show ¬ nSlicesBinarySearchFuncApiEdgeApiEdgeApiEdge = nSlicesSortIntInt by decide)]
theorem eSlicesBinarySearchFuncApiEdgeApiEdgeApiEdge : cfgS.eat nSlicesBinarySearchFuncApiEdgeApiEdgeApiEdge = none := show eatS nSlicesBinarySearchFuncApiEdgeApiEdgeApiEdge = none from by unfold eatS; rw [if_neg (show ¬ nSlicesBinarySearchFuncApiEdgeApiEdgeApiEdge = nSlicesInsertApiEdgeApiEdge by decide)]
theorem lSlicesBinarySearchFuncApiEdgeApiEdgeApiEdge : cfgS.loc nSlicesBinarySearchFuncApiEdgeApiEdgeApiEdge = false := show locS nSlicesBinarySearchFuncApiEdgeApiEdgeApiEdge = false from by unfold locS; rw [if_neg (show ¬ nSlicesBinarySearchFuncApiEdgeApiEdgeApiEdge = nMakeDeckNext by decide)]
theorem oSlicesBinarySearchFuncApiEdgeApiEdgeApiEdge : cfgS.orc nSlicesBinarySearchFuncApiEdgeApiEdgeApiEdge = none := show orcF nSlicesBinarySearchFuncApiEdgeApiEdgeApiEdge = none from by unfold orcF; rw [if_neg (show ¬ nSlicesBinarySearchFuncApiEdgeApiEdgeApiEdge = nSlicesCloneIntInt by decide), if_neg (show ¬ nSlicesBinarySearchFuncApiEdgeApiEdgeApiEdge = nSlicesCloneApiEdgeApiEdge by decide)]
theorem sCmpIsNaNInt : cfgS.fn nCmpIsNaNInt = some (⟨false, false, true⟩, qCmpIsNaNInt) := gCmpIsNaNInt
theorem iCmpIsNaNInt : cfgS.inp nCmpIsNaNInt = none := show inpS nCmpIsNaNInt = none from by unfold inpS; rw [if_neg (show ¬ nCmpIsNaNInt = nSlicesSortIntInt by decide)]
theorem eCmpIsNaNInt : cfgS.eat nCmpIsNaNInt = none := show eatS nCmpIsNaNInt = none from by unfold eatS; rw [if_neg (show ¬ nCmpIsNaNInt = nSlicesInsertApiEdgeApiEdge by decide)]
theorem lCmpIsNaNInt : cfgS.loc nCmpIsNaNInt = false := show locS nCmpIsNaNInt = false from by unfold locS; rw [if_neg (show ¬ nCmpIsNaNInt = nMakeDeckNext by decide)]
theorem oCmpIsNaNInt : cfgS.orc nCmpIsNaNInt = none := show orcF nCmpIsNaNInt = none from by unfold orcF; rw [if_neg (show ¬ nCmpIsNaNInt = nSlicesCloneIntInt by decide), if_neg (show ¬ nCmpIsNaNInt = nSlicesCloneApiEdgeApiEdge by decide)]
end Go.BmP
