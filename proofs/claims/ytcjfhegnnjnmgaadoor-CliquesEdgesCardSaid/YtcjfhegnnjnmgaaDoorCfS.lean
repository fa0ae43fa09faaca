/- The configuration with the library's functions that write into the slice they are given, and what it says of each function. -/
import Derived.Test.YtcjfhegnnjnmgaaDoorBmP
import Derived.Test.YtcjfhegnnjnmgaaDoorRunL
import Derived.Test.YtcjfhegnnjnmgaaDoorSetP
import Derived.Test.YtcjfhegnnjnmgaaDoorCloE
import Derived.Test.YtcjfhegnnjnmgaaDoorInsO
set_option maxRecDepth 100000
namespace Go.BmP
open Go.Am Go.Bm
def inpS (f : Nat) : Option (Nat → List AV → List AV → Option (List AV × Option Nat)) := if f = nSlicesSortIntInt then some srtG else none
def orcF (f : Nat) : Option (List AV → Heap → Option (AV × Heap)) := if f = nSlicesCloneIntInt then some gCloW else if f = nSlicesCloneApiEdgeApiEdge then some gCloE else none
def eatS (f : Nat) : Option (Nat → List AV → List AV → Option (List AV)) := if f = nSlicesInsertApiEdgeApiEdge then some insG else none
def cfgS : Go.Bm.Cfg := { cfg with inp := inpS, orc := orcF, eat := eatS }
theorem cfgSOK : CfgOKB Go.Proofs.Tryd.prog cfgS := ⟨cfgOK.mixed, cfgOK.fn⟩
theorem sLaw24CliquesEdges : cfgS.fn nLaw24CliquesEdges = some (⟨false, false, true⟩, qLaw24CliquesEdges) := gLaw24CliquesEdges
theorem oLaw24CliquesEdges : cfgS.orc nLaw24CliquesEdges = none := show orcF nLaw24CliquesEdges = none from by unfold orcF; rw [if_neg (show ¬ nLaw24CliquesEdges = nSlicesCloneIntInt by decide), if_neg (show ¬ nLaw24CliquesEdges = nSlicesCloneApiEdgeApiEdge by decide)]
theorem sMakeFew : cfgS.fn nMakeFew = some (⟨false, false, true⟩, qMakeFew) := gMakeFew
theorem iMakeFew : cfgS.inp nMakeFew = none := show inpS nMakeFew = none from by unfold inpS; rw [if_neg (show ¬ nMakeFew = nSlicesSortIntInt by decide)]
theorem eMakeFew : cfgS.eat nMakeFew = none := show eatS nMakeFew = none from by unfold eatS; rw [if_neg (show ¬ nMakeFew = nSlicesInsertApiEdgeApiEdge by decide)]
theorem oMakeFew : cfgS.orc nMakeFew = none := show orcF nMakeFew = none from by unfold orcF; rw [if_neg (show ¬ nMakeFew = nSlicesCloneIntInt by decide), if_neg (show ¬ nMakeFew = nSlicesCloneApiEdgeApiEdge by decide)]
theorem sLaw24Awake : cfgS.fn nLaw24Awake = some (⟨false, false, true⟩, qLaw24Awake) := gLaw24Awake
theorem iLaw24Awake : cfgS.inp nLaw24Awake = none := show inpS nLaw24Awake = none from by unfold inpS; rw [if_neg (show ¬ nLaw24Awake = nSlicesSortIntInt by decide)]
theorem eLaw24Awake : cfgS.eat nLaw24Awake = none := show eatS nLaw24Awake = none from by unfold eatS; rw [if_neg (show ¬ nLaw24Awake = nSlicesInsertApiEdgeApiEdge by decide)]
theorem sMakeNew : cfgS.fn nMakeNew = some (⟨true, false, false⟩, qMakeNew) := gMakeNew
theorem iMakeNew : cfgS.inp nMakeNew = none := show inpS nMakeNew = none from by unfold inpS; rw [if_neg (show ¬ nMakeNew = nSlicesSortIntInt by decide)]
theorem eMakeNew : cfgS.eat nMakeNew = none := show eatS nMakeNew = none from by unfold eatS; rw [if_neg (show ¬ nMakeNew = nSlicesInsertApiEdgeApiEdge by decide)]
theorem oMakeNew : cfgS.orc nMakeNew = none := show orcF nMakeNew = none from by unfold orcF; rw [if_neg (show ¬ nMakeNew = nSlicesCloneIntInt by decide), if_neg (show ¬ nMakeNew = nSlicesCloneApiEdgeApiEdge by decide)]
theorem sMakeGraph : cfgS.fn nMakeGraph = some (⟨true, false, false⟩, qMakeGraph) := gMakeGraph
theorem iMakeGraph : cfgS.inp nMakeGraph = none := show inpS nMakeGraph = none from by unfold inpS; rw [if_neg (show ¬ nMakeGraph = nSlicesSortIntInt by decide)]
theorem eMakeGraph : cfgS.eat nMakeGraph = none := show eatS nMakeGraph = none from by unfold eatS; rw [if_neg (show ¬ nMakeGraph = nSlicesInsertApiEdgeApiEdge by decide)]
theorem oMakeGraph : cfgS.orc nMakeGraph = none := show orcF nMakeGraph = none from by unfold orcF; rw [if_neg (show ¬ nMakeGraph = nSlicesCloneIntInt by decide), if_neg (show ¬ nMakeGraph = nSlicesCloneApiEdgeApiEdge by decide)]
theorem sMakeDeckNext : cfgS.fn nMakeDeckNext = some (⟨true, false, false⟩, qMakeDeckNext) := gMakeDeckNext
theorem iMakeDeckNext : cfgS.inp nMakeDeckNext = none := show inpS nMakeDeckNext = none from by unfold inpS; rw [if_neg (show ¬ nMakeDeckNext = nSlicesSortIntInt by decide)]
theorem eMakeDeckNext : cfgS.eat nMakeDeckNext = none := show eatS nMakeDeckNext = none from by unfold eatS; rw [if_neg (show ¬ nMakeDeckNext = nSlicesInsertApiEdgeApiEdge by decide)]
theorem oMakeDeckNext : cfgS.orc nMakeDeckNext = none := show orcF nMakeDeckNext = none from by unfold orcF; rw [if_neg (show ¬ nMakeDeckNext = nSlicesCloneIntInt by decide), if_neg (show ¬ nMakeDeckNext = nSlicesCloneApiEdgeApiEdge by decide)]
theorem sGraphAdd : cfgS.fn nGraphAdd = some (⟨false, false, false⟩, qGraphAdd) := gGraphAdd
theorem iGraphAdd : cfgS.inp nGraphAdd = none := show inpS nGraphAdd = none from by unfold inpS; rw [if_neg (show ¬ nGraphAdd = nSlicesSortIntInt by decide)]
theorem eGraphAdd : cfgS.eat nGraphAdd = none := show eatS nGraphAdd = none from by unfold eatS; rw [if_neg (show ¬ nGraphAdd = nSlicesInsertApiEdgeApiEdge by decide)]
theorem oGraphAdd : cfgS.orc nGraphAdd = none := show orcF nGraphAdd = none from by unfold orcF; rw [if_neg (show ¬ nGraphAdd = nSlicesCloneIntInt by decide), if_neg (show ¬ nGraphAdd = nSlicesCloneApiEdgeApiEdge by decide)]
theorem sCliquesAll : cfgS.fn nCliquesAll = some (⟨false, false, false⟩, qCliquesAll) := gCliquesAll
theorem iCliquesAll : cfgS.inp nCliquesAll = none := show inpS nCliquesAll = none from by unfold inpS; rw [if_neg (show ¬ nCliquesAll = nSlicesSortIntInt by decide)]
theorem eCliquesAll : cfgS.eat nCliquesAll = none := show eatS nCliquesAll = none from by unfold eatS; rw [if_neg (show ¬ nCliquesAll = nSlicesInsertApiEdgeApiEdge by decide)]
theorem oCliquesAll : cfgS.orc nCliquesAll = none := show orcF nCliquesAll = none from by unfold orcF; rw [if_neg (show ¬ nCliquesAll = nSlicesCloneIntInt by decide), if_neg (show ¬ nCliquesAll = nSlicesCloneApiEdgeApiEdge by decide)]
theorem sRef02Cmp : cfgS.fn nRef02Cmp = some (⟨false, false, true⟩, qRef02Cmp) := gRef02Cmp
theorem iRef02Cmp : cfgS.inp nRef02Cmp = none := show inpS nRef02Cmp = none from by unfold inpS; rw [if_neg (show ¬ nRef02Cmp = nSlicesSortIntInt by decide)]
theorem eRef02Cmp : cfgS.eat nRef02Cmp = none := show eatS nRef02Cmp = none from by unfold eatS; rw [if_neg (show ¬ nRef02Cmp = nSlicesInsertApiEdgeApiEdge by decide)]
theorem oRef02Cmp : cfgS.orc nRef02Cmp = none := show orcF nRef02Cmp = none from by unfold orcF; rw [if_neg (show ¬ nRef02Cmp = nSlicesCloneIntInt by decide), if_neg (show ¬ nRef02Cmp = nSlicesCloneApiEdgeApiEdge by decide)]
theorem sRef02Has : cfgS.fn nRef02Has = some (⟨false, false, true⟩, qRef02Has) := gRef02Has
theorem iRef02Has : cfgS.inp nRef02Has = none := show inpS nRef02Has = none from by unfold inpS; rw [if_neg (show ¬ nRef02Has = nSlicesSortIntInt by decide)]
theorem eRef02Has : cfgS.eat nRef02Has = none := show eatS nRef02Has = none from by unfold eatS; rw [if_neg (show ¬ nRef02Has = nSlicesInsertApiEdgeApiEdge by decide)]
theorem oRef02Has : cfgS.orc nRef02Has = none := show orcF nRef02Has = none from by unfold orcF; rw [if_neg (show ¬ nRef02Has = nSlicesCloneIntInt by decide), if_neg (show ¬ nRef02Has = nSlicesCloneApiEdgeApiEdge by decide)]
theorem sRef02Within : cfgS.fn nRef02Within = some (⟨false, false, true⟩, qRef02Within) := gRef02Within
theorem iRef02Within : cfgS.inp nRef02Within = none := show inpS nRef02Within = none from by unfold inpS; rw [if_neg (show ¬ nRef02Within = nSlicesSortIntInt by decide)]
theorem eRef02Within : cfgS.eat nRef02Within = none := show eatS nRef02Within = none from by unfold eatS; rw [if_neg (show ¬ nRef02Within = nSlicesInsertApiEdgeApiEdge by decide)]
theorem oRef02Within : cfgS.orc nRef02Within = none := show orcF nRef02Within = none from by unfold orcF; rw [if_neg (show ¬ nRef02Within = nSlicesCloneIntInt by decide), if_neg (show ¬ nRef02Within = nSlicesCloneApiEdgeApiEdge by decide)]
theorem sMakeMod : cfgS.fn nMakeMod = some (⟨false, false, true⟩, qMakeMod) := gMakeMod
theorem iMakeMod : cfgS.inp nMakeMod = none := show inpS nMakeMod = none from by unfold inpS; rw [if_neg (show ¬ nMakeMod = nSlicesSortIntInt by decide)]
theorem eMakeMod : cfgS.eat nMakeMod = none := show eatS nMakeMod = none from by unfold eatS; rw [if_neg (show ¬ nMakeMod = nSlicesInsertApiEdgeApiEdge by decide)]
theorem oMakeMod : cfgS.orc nMakeMod = none := show orcF nMakeMod = none from by unfold orcF; rw [if_neg (show ¬ nMakeMod = nSlicesCloneIntInt by decide), if_neg (show ¬ nMakeMod = nSlicesCloneApiEdgeApiEdge by decide)]
theorem sGraphChange : cfgS.fn nGraphChange = some (⟨false, false, true⟩, qGraphChange) := gGraphChange
theorem iGraphChange : cfgS.inp nGraphChange = none := show inpS nGraphChange = none from by unfold inpS; rw [if_neg (show ¬ nGraphChange = nSlicesSortIntInt by decide)]
theorem eGraphChange : cfgS.eat nGraphChange = none := show eatS nGraphChange = none from by unfold eatS; rw [if_neg (show ¬ nGraphChange = nSlicesInsertApiEdgeApiEdge by decide)]
theorem oGraphChange : cfgS.orc nGraphChange = none := show orcF nGraphChange = none from by unfold orcF; rw [if_neg (show ¬ nGraphChange = nSlicesCloneIntInt by decide), if_neg (show ¬ nGraphChange = nSlicesCloneApiEdgeApiEdge by decide)]
theorem sGraphPlace : cfgS.fn nGraphPlace = some (⟨false, false, true⟩, qGraphPlace) := gGraphPlace
theorem iGraphPlace : cfgS.inp nGraphPlace = none := show inpS nGraphPlace = none from by unfold inpS; rw [if_neg (show ¬ nGraphPlace = nSlicesSortIntInt by decide)]
theorem eGraphPlace : cfgS.eat nGraphPlace = none := show eatS nGraphPlace = none from by unfold eatS; rw [if_neg (show ¬ nGraphPlace = nSlicesInsertApiEdgeApiEdge by decide)]
theorem oGraphPlace : cfgS.orc nGraphPlace = none := show orcF nGraphPlace = none from by unfold orcF; rw [if_neg (show ¬ nGraphPlace = nSlicesCloneIntInt by decide), if_neg (show ¬ nGraphPlace = nSlicesCloneApiEdgeApiEdge by decide)]
theorem sSlicesInsertApiEdgeApiEdge : cfgS.fn nSlicesInsertApiEdgeApiEdge = some (⟨false, true, true⟩, qSlicesInsertApiEdgeApiEdge) := gSlicesInsertApiEdgeApiEdge
theorem iSlicesInsertApiEdgeApiEdge : cfgS.inp nSlicesInsertApiEdgeApiEdge = none := show inpS nSlicesInsertApiEdgeApiEdge = none from by unfold inpS; rw [if_neg (show ¬ nSlicesInsertApiEdgeApiEdge = nSlicesSortIntInt by decide)]
theorem eSlicesInsertApiEdgeApiEdge : cfgS.eat nSlicesInsertApiEdgeApiEdge = some insG := show eatS nSlicesInsertApiEdgeApiEdge = some insG from by unfold eatS; rw [if_pos rfl]
theorem sSlicesCloneApiEdgeApiEdge : cfgS.fn nSlicesCloneApiEdgeApiEdge = some (⟨false, true, true⟩, qSlicesCloneApiEdgeApiEdge) := gSlicesCloneApiEdgeApiEdge
theorem iSlicesCloneApiEdgeApiEdge : cfgS.inp nSlicesCloneApiEdgeApiEdge = none := show inpS nSlicesCloneApiEdgeApiEdge = none from by unfold inpS; rw [if_neg (show ¬ nSlicesCloneApiEdgeApiEdge = nSlicesSortIntInt by decide)]
theorem eSlicesCloneApiEdgeApiEdge : cfgS.eat nSlicesCloneApiEdgeApiEdge = none := show eatS nSlicesCloneApiEdgeApiEdge = none from by unfold eatS; rw [if_neg (show ¬ nSlicesCloneApiEdgeApiEdge = nSlicesInsertApiEdgeApiEdge by decide)]
theorem oSlicesCloneApiEdgeApiEdge : cfgS.orc nSlicesCloneApiEdgeApiEdge = some gCloE := show orcF nSlicesCloneApiEdgeApiEdge = some gCloE from by unfold orcF; rw [if_neg (show ¬ nSlicesCloneApiEdgeApiEdge = nSlicesCloneIntInt by decide), if_pos rfl]
theorem sGraphEdge : cfgS.fn nGraphEdge = some (⟨false, false, false⟩, qGraphEdge) := gGraphEdge
theorem iGraphEdge : cfgS.inp nGraphEdge = none := show inpS nGraphEdge = none from by unfold inpS; rw [if_neg (show ¬ nGraphEdge = nSlicesSortIntInt by decide)]
theorem eGraphEdge : cfgS.eat nGraphEdge = none := show eatS nGraphEdge = none from by unfold eatS; rw [if_neg (show ¬ nGraphEdge = nSlicesInsertApiEdgeApiEdge by decide)]
theorem oGraphEdge : cfgS.orc nGraphEdge = none := show orcF nGraphEdge = none from by unfold orcF; rw [if_neg (show ¬ nGraphEdge = nSlicesCloneIntInt by decide), if_neg (show ¬ nGraphEdge = nSlicesCloneApiEdgeApiEdge by decide)]
theorem sGraphCheck : cfgS.fn nGraphCheck = some (⟨false, false, true⟩, qGraphCheck) := gGraphCheck
theorem iGraphCheck : cfgS.inp nGraphCheck = none := show inpS nGraphCheck = none from by unfold inpS; rw [if_neg (show ¬ nGraphCheck = nSlicesSortIntInt by decide)]
theorem eGraphCheck : cfgS.eat nGraphCheck = none := show eatS nGraphCheck = none from by unfold eatS; rw [if_neg (show ¬ nGraphCheck = nSlicesInsertApiEdgeApiEdge by decide)]
theorem oGraphCheck : cfgS.orc nGraphCheck = none := show orcF nGraphCheck = none from by unfold orcF; rw [if_neg (show ¬ nGraphCheck = nSlicesCloneIntInt by decide), if_neg (show ¬ nGraphCheck = nSlicesCloneApiEdgeApiEdge by decide)]
theorem sCliquesEach : cfgS.fn nCliquesEach = some (⟨true, false, false⟩, qCliquesEach) := gCliquesEach
theorem iCliquesEach : cfgS.inp nCliquesEach = none := show inpS nCliquesEach = none from by unfold inpS; rw [if_neg (show ¬ nCliquesEach = nSlicesSortIntInt by decide)]
theorem eCliquesEach : cfgS.eat nCliquesEach = none := show eatS nCliquesEach = none from by unfold eatS; rw [if_neg (show ¬ nCliquesEach = nSlicesInsertApiEdgeApiEdge by decide)]
theorem oCliquesEach : cfgS.orc nCliquesEach = none := show orcF nCliquesEach = none from by unfold orcF; rw [if_neg (show ¬ nCliquesEach = nSlicesCloneIntInt by decide), if_neg (show ¬ nCliquesEach = nSlicesCloneApiEdgeApiEdge by decide)]
theorem sCliquesAll1 : cfgS.fn nCliquesAll1 = some (⟨true, false, false⟩, qCliquesAll1) := gCliquesAll1
theorem oCliquesAll1 : cfgS.orc nCliquesAll1 = none := show orcF nCliquesAll1 = none from by unfold orcF; rw [if_neg (show ¬ nCliquesAll1 = nSlicesCloneIntInt by decide), if_neg (show ¬ nCliquesAll1 = nSlicesCloneApiEdgeApiEdge by decide)]
theorem sCliquesMasks : cfgS.fn nCliquesMasks = some (⟨false, false, false⟩, qCliquesMasks) := gCliquesMasks
theorem iCliquesMasks : cfgS.inp nCliquesMasks = none := show inpS nCliquesMasks = none from by unfold inpS; rw [if_neg (show ¬ nCliquesMasks = nSlicesSortIntInt by decide)]
theorem eCliquesMasks : cfgS.eat nCliquesMasks = none := show eatS nCliquesMasks = none from by unfold eatS; rw [if_neg (show ¬ nCliquesMasks = nSlicesInsertApiEdgeApiEdge by decide)]
theorem oCliquesMasks : cfgS.orc nCliquesMasks = none := show orcF nCliquesMasks = none from by unfold orcF; rw [if_neg (show ¬ nCliquesMasks = nSlicesCloneIntInt by decide), if_neg (show ¬ nCliquesMasks = nSlicesCloneApiEdgeApiEdge by decide)]
theorem sGraphEnds : cfgS.fn nGraphEnds = some (⟨false, false, true⟩, qGraphEnds) := gGraphEnds
theorem iGraphEnds : cfgS.inp nGraphEnds = none := show inpS nGraphEnds = none from by unfold inpS; rw [if_neg (show ¬ nGraphEnds = nSlicesSortIntInt by decide)]
theorem eGraphEnds : cfgS.eat nGraphEnds = none := show eatS nGraphEnds = none from by unfold eatS; rw [if_neg (show ¬ nGraphEnds = nSlicesInsertApiEdgeApiEdge by decide)]
theorem oGraphEnds : cfgS.orc nGraphEnds = none := show orcF nGraphEnds = none from by unfold orcF; rw [if_neg (show ¬ nGraphEnds = nSlicesCloneIntInt by decide), if_neg (show ¬ nGraphEnds = nSlicesCloneApiEdgeApiEdge by decide)]
theorem sGraphOrder : cfgS.fn nGraphOrder = some (⟨false, false, true⟩, qGraphOrder) := gGraphOrder
theorem iGraphOrder : cfgS.inp nGraphOrder = none := show inpS nGraphOrder = none from by unfold inpS; rw [if_neg (show ¬ nGraphOrder = nSlicesSortIntInt by decide)]
theorem eGraphOrder : cfgS.eat nGraphOrder = none := show eatS nGraphOrder = none from by unfold eatS; rw [if_neg (show ¬ nGraphOrder = nSlicesInsertApiEdgeApiEdge by decide)]
theorem oGraphOrder : cfgS.orc nGraphOrder = none := show orcF nGraphOrder = none from by unfold orcF; rw [if_neg (show ¬ nGraphOrder = nSlicesCloneIntInt by decide), if_neg (show ¬ nGraphOrder = nSlicesCloneApiEdgeApiEdge by decide)]
theorem sSlicesCloneIntInt : cfgS.fn nSlicesCloneIntInt = some (⟨false, true, true⟩, qSlicesCloneIntInt) := gSlicesCloneIntInt
theorem iSlicesCloneIntInt : cfgS.inp nSlicesCloneIntInt = none := show inpS nSlicesCloneIntInt = none from by unfold inpS; rw [if_neg (show ¬ nSlicesCloneIntInt = nSlicesSortIntInt by decide)]
theorem eSlicesCloneIntInt : cfgS.eat nSlicesCloneIntInt = none := show eatS nSlicesCloneIntInt = none from by unfold eatS; rw [if_neg (show ¬ nSlicesCloneIntInt = nSlicesInsertApiEdgeApiEdge by decide)]
theorem oSlicesCloneIntInt : cfgS.orc nSlicesCloneIntInt = some gCloW := show orcF nSlicesCloneIntInt = some gCloW from by unfold orcF; rw [if_pos rfl]
theorem sMathBitsTrailingZeros64 : cfgS.fn nMathBitsTrailingZeros64 = some (⟨false, false, true⟩, qMathBitsTrailingZeros64) := gMathBitsTrailingZeros64
theorem iMathBitsTrailingZeros64 : cfgS.inp nMathBitsTrailingZeros64 = none := show inpS nMathBitsTrailingZeros64 = none from by unfold inpS; rw [if_neg (show ¬ nMathBitsTrailingZeros64 = nSlicesSortIntInt by decide)]
theorem eMathBitsTrailingZeros64 : cfgS.eat nMathBitsTrailingZeros64 = none := show eatS nMathBitsTrailingZeros64 = none from by unfold eatS; rw [if_neg (show ¬ nMathBitsTrailingZeros64 = nSlicesInsertApiEdgeApiEdge by decide)]
theorem oMathBitsTrailingZeros64 : cfgS.orc nMathBitsTrailingZeros64 = none := show orcF nMathBitsTrailingZeros64 = none from by unfold orcF; rw [if_neg (show ¬ nMathBitsTrailingZeros64 = nSlicesCloneIntInt by decide), if_neg (show ¬ nMathBitsTrailingZeros64 = nSlicesCloneApiEdgeApiEdge by decide)]
theorem sSlicesSortIntInt : cfgS.fn nSlicesSortIntInt = some (⟨false, false, true⟩, qSlicesSortIntInt) := gSlicesSortIntInt
theorem sSlicesBinarySearchFuncApiEdgeApiEdgeApiEdge : cfgS.fn nSlicesBinarySearchFuncApiEdgeApiEdgeApiEdge = some (⟨false, false, true⟩, qSlicesBinarySearchFuncApiEdgeApiEdgeApiEdge) := gSlicesBinarySearchFuncApiEdgeApiEdgeApiEdge
theorem iSlicesBinarySearchFuncApiEdgeApiEdgeApiEdge : cfgS.inp nSlicesBinarySearchFuncApiEdgeApiEdgeApiEdge = none := show inpS nSlicesBinarySearchFuncApiEdgeApiEdgeApiEdge = none from by unfold inpS; rw [if_neg (show ¬ nSlicesBinarySearchFuncApiEdgeApiEdgeApiEdge = nSlicesSortIntInt by decide)]
theorem eSlicesBinarySearchFuncApiEdgeApiEdgeApiEdge : cfgS.eat nSlicesBinarySearchFuncApiEdgeApiEdgeApiEdge = none := show eatS nSlicesBinarySearchFuncApiEdgeApiEdgeApiEdge = none from by unfold eatS; rw [if_neg (show ¬ nSlicesBinarySearchFuncApiEdgeApiEdgeApiEdge = nSlicesInsertApiEdgeApiEdge by decide)]
theorem oSlicesBinarySearchFuncApiEdgeApiEdgeApiEdge : cfgS.orc nSlicesBinarySearchFuncApiEdgeApiEdgeApiEdge = none := show orcF nSlicesBinarySearchFuncApiEdgeApiEdgeApiEdge = none from by unfold orcF; rw [if_neg (show ¬ nSlicesBinarySearchFuncApiEdgeApiEdgeApiEdge = nSlicesCloneIntInt by decide), if_neg (show ¬ nSlicesBinarySearchFuncApiEdgeApiEdgeApiEdge = nSlicesCloneApiEdgeApiEdge by decide)]
theorem sCliquesEach1 : cfgS.fn nCliquesEach1 = some (⟨true, false, false⟩, qCliquesEach1) := gCliquesEach1
theorem iCliquesEach1 : cfgS.inp nCliquesEach1 = none := show inpS nCliquesEach1 = none from by unfold inpS; rw [if_neg (show ¬ nCliquesEach1 = nSlicesSortIntInt by decide)]
theorem eCliquesEach1 : cfgS.eat nCliquesEach1 = none := show eatS nCliquesEach1 = none from by unfold eatS; rw [if_neg (show ¬ nCliquesEach1 = nSlicesInsertApiEdgeApiEdge by decide)]
theorem oCliquesEach1 : cfgS.orc nCliquesEach1 = none := show orcF nCliquesEach1 = none from by unfold orcF; rw [if_neg (show ¬ nCliquesEach1 = nSlicesCloneIntInt by decide), if_neg (show ¬ nCliquesEach1 = nSlicesCloneApiEdgeApiEdge by decide)]
theorem sCliquesAllN56 : cfgS.fn nCliquesAllN56 = some (⟨false, false, true⟩, qCliquesAllN56) := gCliquesAllN56
theorem iCliquesAllN56 : cfgS.inp nCliquesAllN56 = none := show inpS nCliquesAllN56 = none from by unfold inpS; rw [if_neg (show ¬ nCliquesAllN56 = nSlicesSortIntInt by decide)]
theorem eCliquesAllN56 : cfgS.eat nCliquesAllN56 = none := show eatS nCliquesAllN56 = none from by unfold eatS; rw [if_neg (show ¬ nCliquesAllN56 = nSlicesInsertApiEdgeApiEdge by decide)]
theorem oCliquesAllN56 : cfgS.orc nCliquesAllN56 = none := show orcF nCliquesAllN56 = none from by unfold orcF; rw [if_neg (show ¬ nCliquesAllN56 = nSlicesCloneIntInt by decide), if_neg (show ¬ nCliquesAllN56 = nSlicesCloneApiEdgeApiEdge by decide)]
theorem sCmpOrInt : cfgS.fn nCmpOrInt = some (⟨false, false, true⟩, qCmpOrInt) := gCmpOrInt
theorem iCmpOrInt : cfgS.inp nCmpOrInt = none := show inpS nCmpOrInt = none from by unfold inpS; rw [if_neg (show ¬ nCmpOrInt = nSlicesSortIntInt by decide)]
theorem eCmpOrInt : cfgS.eat nCmpOrInt = none := show eatS nCmpOrInt = none from by unfold eatS; rw [if_neg (show ¬ nCmpOrInt = nSlicesInsertApiEdgeApiEdge by decide)]
theorem oCmpOrInt : cfgS.orc nCmpOrInt = none := show orcF nCmpOrInt = none from by unfold orcF; rw [if_neg (show ¬ nCmpOrInt = nSlicesCloneIntInt by decide), if_neg (show ¬ nCmpOrInt = nSlicesCloneApiEdgeApiEdge by decide)]
theorem sCmpCompareInt : cfgS.fn nCmpCompareInt = some (⟨false, false, true⟩, qCmpCompareInt) := gCmpCompareInt
theorem iCmpCompareInt : cfgS.inp nCmpCompareInt = none := show inpS nCmpCompareInt = none from by unfold inpS; rw [if_neg (show ¬ nCmpCompareInt = nSlicesSortIntInt by decide)]
theorem eCmpCompareInt : cfgS.eat nCmpCompareInt = none := show eatS nCmpCompareInt = none from by unfold eatS; rw [if_neg (show ¬ nCmpCompareInt = nSlicesInsertApiEdgeApiEdge by decide)]
theorem oCmpCompareInt : cfgS.orc nCmpCompareInt = none := show orcF nCmpCompareInt = none from by unfold orcF; rw [if_neg (show ¬ nCmpCompareInt = nSlicesCloneIntInt by decide), if_neg (show ¬ nCmpCompareInt = nSlicesCloneApiEdgeApiEdge by decide)]
theorem sCmpIsNaNInt : cfgS.fn nCmpIsNaNInt = some (⟨false, false, true⟩, qCmpIsNaNInt) := gCmpIsNaNInt
theorem iCmpIsNaNInt : cfgS.inp nCmpIsNaNInt = none := show inpS nCmpIsNaNInt = none from by unfold inpS; rw [if_neg (show ¬ nCmpIsNaNInt = nSlicesSortIntInt by decide)]
theorem eCmpIsNaNInt : cfgS.eat nCmpIsNaNInt = none := show eatS nCmpIsNaNInt = none from by unfold eatS; rw [if_neg (show ¬ nCmpIsNaNInt = nSlicesInsertApiEdgeApiEdge by decide)]
theorem oCmpIsNaNInt : cfgS.orc nCmpIsNaNInt = none := show orcF nCmpIsNaNInt = none from by unfold orcF; rw [if_neg (show ¬ nCmpIsNaNInt = nSlicesCloneIntInt by decide), if_neg (show ¬ nCmpIsNaNInt = nSlicesCloneApiEdgeApiEdge by decide)]
end Go.BmP
