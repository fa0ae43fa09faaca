/- The configuration with the library's functions that write into the slice they are given, and what it says of each function. -/
import Derived.Test.YtcjfhegnnjnmgaaBmP
import Derived.Test.YtcjfhegnnjnmgaaRunL
import Derived.Test.YtcjfhegnnjnmgaaSetP
import Derived.Test.YtcjfhegnnjnmgaaCloE
import Derived.Test.YtcjfhegnnjnmgaaInsO
import Derived.Test.YtcjfhegnnjnmgaaDelO
set_option maxRecDepth 100000
namespace Go.BmP
open Go.Am Go.Bm
def inpS (f : Nat) : Option (Nat -> List AV -> List AV -> Option (List AV × Option Nat)) := if f = nSlicesSortIntInt then some srtG else none
def orcF (f : Nat) : Option (List AV -> Heap -> Option (AV × Heap)) := if f = nSlicesCloneIntInt then some gCloW else if f = nSlicesCloneApiEdgeApiEdge then some gCloE else none
def eatS (f : Nat) : Option (Nat -> List AV -> List AV -> Option (List AV)) := if f = nSlicesInsertApiEdgeApiEdge then some insG else if f = nSlicesDeleteApiEdgeApiEdge then some delG else none
def locS (f : Nat) : Bool := if f = nMakeDeckNext then true else false
def cfgS : Go.Bm.Cfg := { cfg with inp := inpS, orc := orcF, eat := eatS, loc := locS }
theorem cfgSOK : CfgOKB Go.Proofs.Try.prog cfgS := ⟨cfgOK.mixed, cfgOK.fn⟩
theorem sLaw29TrianglesKept : cfgS.fn nLaw29TrianglesKept = some (⟨false, false, true⟩, qLaw29TrianglesKept) := gLaw29TrianglesKept
theorem oLaw29TrianglesKept : cfgS.orc nLaw29TrianglesKept = none := rfl
theorem sMakeFew : cfgS.fn nMakeFew = some (⟨false, false, true⟩, qMakeFew) := gMakeFew
theorem iMakeFew : cfgS.inp nMakeFew = none := rfl
theorem eMakeFew : cfgS.eat nMakeFew = none := rfl
theorem lMakeFew : cfgS.loc nMakeFew = false := rfl
theorem oMakeFew : cfgS.orc nMakeFew = none := rfl
theorem sLaw29Awake : cfgS.fn nLaw29Awake = some (⟨false, false, true⟩, qLaw29Awake) := gLaw29Awake
theorem iLaw29Awake : cfgS.inp nLaw29Awake = none := rfl
theorem eLaw29Awake : cfgS.eat nLaw29Awake = none := rfl
theorem lLaw29Awake : cfgS.loc nLaw29Awake = false := rfl
theorem sMakeNew : cfgS.fn nMakeNew = some (⟨true, false, false⟩, qMakeNew) := gMakeNew
theorem iMakeNew : cfgS.inp nMakeNew = none := rfl
theorem eMakeNew : cfgS.eat nMakeNew = none := rfl
theorem lMakeNew : cfgS.loc nMakeNew = false := rfl
theorem oMakeNew : cfgS.orc nMakeNew = none := rfl
theorem sMakeGraph : cfgS.fn nMakeGraph = some (⟨true, false, false⟩, qMakeGraph) := gMakeGraph
theorem iMakeGraph : cfgS.inp nMakeGraph = none := rfl
theorem eMakeGraph : cfgS.eat nMakeGraph = none := rfl
theorem lMakeGraph : cfgS.loc nMakeGraph = false := rfl
theorem oMakeGraph : cfgS.orc nMakeGraph = none := rfl
theorem sTrianglesOpen : cfgS.fn nTrianglesOpen = some (⟨false, false, false⟩, qTrianglesOpen) := gTrianglesOpen
theorem iTrianglesOpen : cfgS.inp nTrianglesOpen = none := rfl
theorem eTrianglesOpen : cfgS.eat nTrianglesOpen = none := rfl
theorem lTrianglesOpen : cfgS.loc nTrianglesOpen = false := rfl
theorem oTrianglesOpen : cfgS.orc nTrianglesOpen = none := rfl
theorem sTrianglesInsert : cfgS.fn nTrianglesInsert = some (⟨false, false, false⟩, qTrianglesInsert) := gTrianglesInsert
theorem iTrianglesInsert : cfgS.inp nTrianglesInsert = none := rfl
theorem eTrianglesInsert : cfgS.eat nTrianglesInsert = none := rfl
theorem lTrianglesInsert : cfgS.loc nTrianglesInsert = false := rfl
theorem oTrianglesInsert : cfgS.orc nTrianglesInsert = none := rfl
theorem sMakeDeckNext : cfgS.fn nMakeDeckNext = some (⟨true, false, false⟩, qMakeDeckNext) := gMakeDeckNext
theorem iMakeDeckNext : cfgS.inp nMakeDeckNext = none := rfl
theorem eMakeDeckNext : cfgS.eat nMakeDeckNext = none := rfl
theorem lMakeDeckNext : cfgS.loc nMakeDeckNext = true := rfl
theorem oMakeDeckNext : cfgS.orc nMakeDeckNext = none := rfl
theorem sTrianglesDelete : cfgS.fn nTrianglesDelete = some (⟨false, false, false⟩, qTrianglesDelete) := gTrianglesDelete
theorem iTrianglesDelete : cfgS.inp nTrianglesDelete = none := rfl
theorem eTrianglesDelete : cfgS.eat nTrianglesDelete = none := rfl
theorem lTrianglesDelete : cfgS.loc nTrianglesDelete = false := rfl
theorem oTrianglesDelete : cfgS.orc nTrianglesDelete = none := rfl
theorem sRef03Common : cfgS.fn nRef03Common = some (⟨false, false, false⟩, qRef03Common) := gRef03Common
theorem iRef03Common : cfgS.inp nRef03Common = none := rfl
theorem eRef03Common : cfgS.eat nRef03Common = none := rfl
theorem lRef03Common : cfgS.loc nRef03Common = false := rfl
theorem oRef03Common : cfgS.orc nRef03Common = none := rfl
theorem sTrianglesValid : cfgS.fn nTrianglesValid = some (⟨false, false, true⟩, qTrianglesValid) := gTrianglesValid
theorem iTrianglesValid : cfgS.inp nTrianglesValid = none := rfl
theorem eTrianglesValid : cfgS.eat nTrianglesValid = none := rfl
theorem lTrianglesValid : cfgS.loc nTrianglesValid = false := rfl
theorem oTrianglesValid : cfgS.orc nTrianglesValid = none := rfl
theorem sLaw29Ints : cfgS.fn nLaw29Ints = some (⟨false, false, true⟩, qLaw29Ints) := gLaw29Ints
theorem iLaw29Ints : cfgS.inp nLaw29Ints = none := rfl
theorem eLaw29Ints : cfgS.eat nLaw29Ints = none := rfl
theorem lLaw29Ints : cfgS.loc nLaw29Ints = false := rfl
theorem oLaw29Ints : cfgS.orc nLaw29Ints = none := rfl
theorem sGraphCheck : cfgS.fn nGraphCheck = some (⟨false, false, true⟩, qGraphCheck) := gGraphCheck
theorem iGraphCheck : cfgS.inp nGraphCheck = none := rfl
theorem eGraphCheck : cfgS.eat nGraphCheck = none := rfl
theorem lGraphCheck : cfgS.loc nGraphCheck = false := rfl
theorem oGraphCheck : cfgS.orc nGraphCheck = none := rfl
theorem sTrianglesCounts : cfgS.fn nTrianglesCounts = some (⟨false, false, false⟩, qTrianglesCounts) := gTrianglesCounts
theorem iTrianglesCounts : cfgS.inp nTrianglesCounts = none := rfl
theorem eTrianglesCounts : cfgS.eat nTrianglesCounts = none := rfl
theorem lTrianglesCounts : cfgS.loc nTrianglesCounts = false := rfl
theorem oTrianglesCounts : cfgS.orc nTrianglesCounts = none := rfl
theorem sTrianglesCopied : cfgS.fn nTrianglesCopied = some (⟨false, false, false⟩, qTrianglesCopied) := gTrianglesCopied
theorem iTrianglesCopied : cfgS.inp nTrianglesCopied = none := rfl
theorem eTrianglesCopied : cfgS.eat nTrianglesCopied = none := rfl
theorem lTrianglesCopied : cfgS.loc nTrianglesCopied = false := rfl
theorem oTrianglesCopied : cfgS.orc nTrianglesCopied = none := rfl
theorem sGraphAdd : cfgS.fn nGraphAdd = some (⟨false, false, false⟩, qGraphAdd) := gGraphAdd
theorem iGraphAdd : cfgS.inp nGraphAdd = none := rfl
theorem eGraphAdd : cfgS.eat nGraphAdd = none := rfl
theorem lGraphAdd : cfgS.loc nGraphAdd = false := rfl
theorem oGraphAdd : cfgS.orc nGraphAdd = none := rfl
theorem sTrianglesChanged : cfgS.fn nTrianglesChanged = some (⟨false, false, false⟩, qTrianglesChanged) := gTrianglesChanged
theorem iTrianglesChanged : cfgS.inp nTrianglesChanged = none := rfl
theorem eTrianglesChanged : cfgS.eat nTrianglesChanged = none := rfl
theorem lTrianglesChanged : cfgS.loc nTrianglesChanged = false := rfl
theorem oTrianglesChanged : cfgS.orc nTrianglesChanged = none := rfl
theorem sMakeMod : cfgS.fn nMakeMod = some (⟨false, false, true⟩, qMakeMod) := gMakeMod
theorem iMakeMod : cfgS.inp nMakeMod = none := rfl
theorem eMakeMod : cfgS.eat nMakeMod = none := rfl
theorem lMakeMod : cfgS.loc nMakeMod = false := rfl
theorem oMakeMod : cfgS.orc nMakeMod = none := rfl
theorem sGraphRemove : cfgS.fn nGraphRemove = some (⟨false, false, false⟩, qGraphRemove) := gGraphRemove
theorem iGraphRemove : cfgS.inp nGraphRemove = none := rfl
theorem eGraphRemove : cfgS.eat nGraphRemove = none := rfl
theorem lGraphRemove : cfgS.loc nGraphRemove = false := rfl
theorem oGraphRemove : cfgS.orc nGraphRemove = none := rfl
theorem sRef02Meet : cfgS.fn nRef02Meet = some (⟨false, false, false⟩, qRef02Meet) := gRef02Meet
theorem iRef02Meet : cfgS.inp nRef02Meet = none := rfl
theorem eRef02Meet : cfgS.eat nRef02Meet = none := rfl
theorem lRef02Meet : cfgS.loc nRef02Meet = false := rfl
theorem oRef02Meet : cfgS.orc nRef02Meet = none := rfl
theorem sRef03Neighbours : cfgS.fn nRef03Neighbours = some (⟨false, false, false⟩, qRef03Neighbours) := gRef03Neighbours
theorem iRef03Neighbours : cfgS.inp nRef03Neighbours = none := rfl
theorem eRef03Neighbours : cfgS.eat nRef03Neighbours = none := rfl
theorem lRef03Neighbours : cfgS.loc nRef03Neighbours = false := rfl
theorem oRef03Neighbours : cfgS.orc nRef03Neighbours = none := rfl
theorem sSlicesEqualIntInt : cfgS.fn nSlicesEqualIntInt = some (⟨false, false, true⟩, qSlicesEqualIntInt) := gSlicesEqualIntInt
theorem iSlicesEqualIntInt : cfgS.inp nSlicesEqualIntInt = none := rfl
theorem eSlicesEqualIntInt : cfgS.eat nSlicesEqualIntInt = none := rfl
theorem lSlicesEqualIntInt : cfgS.loc nSlicesEqualIntInt = false := rfl
theorem oSlicesEqualIntInt : cfgS.orc nSlicesEqualIntInt = none := rfl
theorem sTrianglesLists : cfgS.fn nTrianglesLists = some (⟨false, false, false⟩, qTrianglesLists) := gTrianglesLists
theorem iTrianglesLists : cfgS.inp nTrianglesLists = none := rfl
theorem eTrianglesLists : cfgS.eat nTrianglesLists = none := rfl
theorem lTrianglesLists : cfgS.loc nTrianglesLists = false := rfl
theorem oTrianglesLists : cfgS.orc nTrianglesLists = none := rfl
theorem sGraphOrder : cfgS.fn nGraphOrder = some (⟨false, false, true⟩, qGraphOrder) := gGraphOrder
theorem iGraphOrder : cfgS.inp nGraphOrder = none := rfl
theorem eGraphOrder : cfgS.eat nGraphOrder = none := rfl
theorem lGraphOrder : cfgS.loc nGraphOrder = false := rfl
theorem oGraphOrder : cfgS.orc nGraphOrder = none := rfl
theorem sTrianglesSharedInt : cfgS.fn nTrianglesSharedInt = some (⟨false, false, false⟩, qTrianglesSharedInt) := gTrianglesSharedInt
theorem iTrianglesSharedInt : cfgS.inp nTrianglesSharedInt = none := rfl
theorem eTrianglesSharedInt : cfgS.eat nTrianglesSharedInt = none := rfl
theorem lTrianglesSharedInt : cfgS.loc nTrianglesSharedInt = false := rfl
theorem oTrianglesSharedInt : cfgS.orc nTrianglesSharedInt = none := rfl
theorem sSlicesCloneApiEdgeApiEdge : cfgS.fn nSlicesCloneApiEdgeApiEdge = some (⟨false, true, true⟩, qSlicesCloneApiEdgeApiEdge) := gSlicesCloneApiEdgeApiEdge
theorem iSlicesCloneApiEdgeApiEdge : cfgS.inp nSlicesCloneApiEdgeApiEdge = none := rfl
theorem eSlicesCloneApiEdgeApiEdge : cfgS.eat nSlicesCloneApiEdgeApiEdge = none := rfl
theorem lSlicesCloneApiEdgeApiEdge : cfgS.loc nSlicesCloneApiEdgeApiEdge = false := rfl
theorem oSlicesCloneApiEdgeApiEdge : cfgS.orc nSlicesCloneApiEdgeApiEdge = some gCloE := rfl
theorem sGraphChange : cfgS.fn nGraphChange = some (⟨false, false, true⟩, qGraphChange) := gGraphChange
theorem iGraphChange : cfgS.inp nGraphChange = none := rfl
theorem eGraphChange : cfgS.eat nGraphChange = none := rfl
theorem lGraphChange : cfgS.loc nGraphChange = false := rfl
theorem oGraphChange : cfgS.orc nGraphChange = none := rfl
theorem sGraphPlace : cfgS.fn nGraphPlace = some (⟨false, false, true⟩, qGraphPlace) := gGraphPlace
theorem iGraphPlace : cfgS.inp nGraphPlace = none := rfl
theorem eGraphPlace : cfgS.eat nGraphPlace = none := rfl
theorem lGraphPlace : cfgS.loc nGraphPlace = false := rfl
theorem oGraphPlace : cfgS.orc nGraphPlace = none := rfl
theorem sSlicesInsertApiEdgeApiEdge : cfgS.fn nSlicesInsertApiEdgeApiEdge = some (⟨false, true, true⟩, qSlicesInsertApiEdgeApiEdge) := gSlicesInsertApiEdgeApiEdge
theorem iSlicesInsertApiEdgeApiEdge : cfgS.inp nSlicesInsertApiEdgeApiEdge = none := rfl
theorem eSlicesInsertApiEdgeApiEdge : cfgS.eat nSlicesInsertApiEdgeApiEdge = some insG := rfl
theorem lSlicesInsertApiEdgeApiEdge : cfgS.loc nSlicesInsertApiEdgeApiEdge = false := rfl
theorem sGraphEdge : cfgS.fn nGraphEdge = some (⟨false, false, false⟩, qGraphEdge) := gGraphEdge
theorem iGraphEdge : cfgS.inp nGraphEdge = none := rfl
theorem eGraphEdge : cfgS.eat nGraphEdge = none := rfl
theorem lGraphEdge : cfgS.loc nGraphEdge = false := rfl
theorem oGraphEdge : cfgS.orc nGraphEdge = none := rfl
theorem sSlicesCloneIntInt : cfgS.fn nSlicesCloneIntInt = some (⟨false, true, true⟩, qSlicesCloneIntInt) := gSlicesCloneIntInt
theorem iSlicesCloneIntInt : cfgS.inp nSlicesCloneIntInt = none := rfl
theorem eSlicesCloneIntInt : cfgS.eat nSlicesCloneIntInt = none := rfl
theorem lSlicesCloneIntInt : cfgS.loc nSlicesCloneIntInt = false := rfl
theorem oSlicesCloneIntInt : cfgS.orc nSlicesCloneIntInt = some gCloW := rfl
theorem sSlicesDeleteApiEdgeApiEdge : cfgS.fn nSlicesDeleteApiEdgeApiEdge = some (⟨false, true, true⟩, qSlicesDeleteApiEdgeApiEdge) := gSlicesDeleteApiEdgeApiEdge
theorem iSlicesDeleteApiEdgeApiEdge : cfgS.inp nSlicesDeleteApiEdgeApiEdge = none := rfl
theorem eSlicesDeleteApiEdgeApiEdge : cfgS.eat nSlicesDeleteApiEdgeApiEdge = some delG := rfl
theorem lSlicesDeleteApiEdgeApiEdge : cfgS.loc nSlicesDeleteApiEdgeApiEdge = false := rfl
theorem sRef02Of : cfgS.fn nRef02Of = some (⟨false, false, false⟩, qRef02Of) := gRef02Of
theorem iRef02Of : cfgS.inp nRef02Of = none := rfl
theorem eRef02Of : cfgS.eat nRef02Of = none := rfl
theorem lRef02Of : cfgS.loc nRef02Of = false := rfl
theorem oRef02Of : cfgS.orc nRef02Of = none := rfl
theorem sRef02Has : cfgS.fn nRef02Has = some (⟨false, false, true⟩, qRef02Has) := gRef02Has
theorem iRef02Has : cfgS.inp nRef02Has = none := rfl
theorem eRef02Has : cfgS.eat nRef02Has = none := rfl
theorem lRef02Has : cfgS.loc nRef02Has = false := rfl
theorem oRef02Has : cfgS.orc nRef02Has = none := rfl
theorem sRef03Check : cfgS.fn nRef03Check = some (⟨false, false, true⟩, qRef03Check) := gRef03Check
theorem iRef03Check : cfgS.inp nRef03Check = none := rfl
theorem eRef03Check : cfgS.eat nRef03Check = none := rfl
theorem lRef03Check : cfgS.loc nRef03Check = false := rfl
theorem oRef03Check : cfgS.orc nRef03Check = none := rfl
theorem sRef03Before : cfgS.fn nRef03Before = some (⟨false, false, true⟩, qRef03Before) := gRef03Before
theorem iRef03Before : cfgS.inp nRef03Before = none := rfl
theorem eRef03Before : cfgS.eat nRef03Before = none := rfl
theorem lRef03Before : cfgS.loc nRef03Before = false := rfl
theorem oRef03Before : cfgS.orc nRef03Before = none := rfl
theorem sSlicesSortIntInt : cfgS.fn nSlicesSortIntInt = some (⟨false, false, true⟩, qSlicesSortIntInt) := gSlicesSortIntInt
theorem iSlicesSortIntInt : cfgS.inp nSlicesSortIntInt = some srtG := rfl
theorem eSlicesSortIntInt : cfgS.eat nSlicesSortIntInt = none := rfl
theorem lSlicesSortIntInt : cfgS.loc nSlicesSortIntInt = false := rfl
theorem sCmpOrInt : cfgS.fn nCmpOrInt = some (⟨false, false, true⟩, qCmpOrInt) := gCmpOrInt
theorem iCmpOrInt : cfgS.inp nCmpOrInt = none := rfl
theorem eCmpOrInt : cfgS.eat nCmpOrInt = none := rfl
theorem lCmpOrInt : cfgS.loc nCmpOrInt = false := rfl
theorem oCmpOrInt : cfgS.orc nCmpOrInt = none := rfl
theorem sCmpCompareInt : cfgS.fn nCmpCompareInt = some (⟨false, false, true⟩, qCmpCompareInt) := gCmpCompareInt
theorem iCmpCompareInt : cfgS.inp nCmpCompareInt = none := rfl
theorem eCmpCompareInt : cfgS.eat nCmpCompareInt = none := rfl
theorem lCmpCompareInt : cfgS.loc nCmpCompareInt = false := rfl
theorem oCmpCompareInt : cfgS.orc nCmpCompareInt = none := rfl
theorem sGraphEnds : cfgS.fn nGraphEnds = some (⟨false, false, true⟩, qGraphEnds) := gGraphEnds
theorem iGraphEnds : cfgS.inp nGraphEnds = none := rfl
theorem eGraphEnds : cfgS.eat nGraphEnds = none := rfl
theorem lGraphEnds : cfgS.loc nGraphEnds = false := rfl
theorem oGraphEnds : cfgS.orc nGraphEnds = none := rfl
theorem sSlicesBinarySearchFuncApiEdgeApiEdgeApiEdge : cfgS.fn nSlicesBinarySearchFuncApiEdgeApiEdgeApiEdge = some (⟨false, false, true⟩, qSlicesBinarySearchFuncApiEdgeApiEdgeApiEdge) := gSlicesBinarySearchFuncApiEdgeApiEdgeApiEdge
theorem iSlicesBinarySearchFuncApiEdgeApiEdgeApiEdge : cfgS.inp nSlicesBinarySearchFuncApiEdgeApiEdgeApiEdge = none := rfl
theorem eSlicesBinarySearchFuncApiEdgeApiEdgeApiEdge : cfgS.eat nSlicesBinarySearchFuncApiEdgeApiEdgeApiEdge = none := rfl
theorem lSlicesBinarySearchFuncApiEdgeApiEdgeApiEdge : cfgS.loc nSlicesBinarySearchFuncApiEdgeApiEdgeApiEdge = false := rfl
theorem oSlicesBinarySearchFuncApiEdgeApiEdgeApiEdge : cfgS.orc nSlicesBinarySearchFuncApiEdgeApiEdgeApiEdge = none := rfl
theorem sRef02Put : cfgS.fn nRef02Put = some (⟨false, false, false⟩, qRef02Put) := gRef02Put
theorem iRef02Put : cfgS.inp nRef02Put = none := rfl
theorem eRef02Put : cfgS.eat nRef02Put = none := rfl
theorem lRef02Put : cfgS.loc nRef02Put = false := rfl
theorem oRef02Put : cfgS.orc nRef02Put = none := rfl
theorem sCmpIsNaNInt : cfgS.fn nCmpIsNaNInt = some (⟨false, false, true⟩, qCmpIsNaNInt) := gCmpIsNaNInt
theorem iCmpIsNaNInt : cfgS.inp nCmpIsNaNInt = none := rfl
theorem eCmpIsNaNInt : cfgS.eat nCmpIsNaNInt = none := rfl
theorem lCmpIsNaNInt : cfgS.loc nCmpIsNaNInt = false := rfl
theorem oCmpIsNaNInt : cfgS.orc nCmpIsNaNInt = none := rfl
end Go.BmP
