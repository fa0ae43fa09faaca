/- The configuration with the library's functions that write into the slice they are given, and what it says of each function. -/
import Derived.Test.YtiohfglnoneanaaDoorBmP
import Derived.Test.YtiohfglnoneanaaDoorRunL
import Derived.Test.YtiohfglnoneanaaDoorSrtG
set_option maxRecDepth 100000
namespace Go.BmP
open Go.Am Go.Bm
def inpS (f : Nat) : Option (Nat → List AV → List AV → Option (List AV × Option Nat)) := if f = nSlicesSortIntInt then some srtG else none
def cfgS : Go.Bm.Cfg := { cfg with inp := inpS }
theorem cfgSOK : CfgOKB Go.Proofs.Tryd.prog cfgS := ⟨cfgOK.mixed, cfgOK.fn⟩
theorem orcS (f : Nat) : cfgS.orc f = none := rfl
theorem sLaw24CliquesTurns : cfgS.fn nLaw24CliquesTurns = some (⟨false, false, true⟩, qLaw24CliquesTurns) := gLaw24CliquesTurns
theorem iLaw24CliquesTurns : cfgS.inp nLaw24CliquesTurns = none := show inpS nLaw24CliquesTurns = none from if_neg (show ¬ nLaw24CliquesTurns = nSlicesSortIntInt by decide)
theorem sLaw24CliquesNames : cfgS.fn nLaw24CliquesNames = some (⟨false, false, true⟩, qLaw24CliquesNames) := gLaw24CliquesNames
theorem iLaw24CliquesNames : cfgS.inp nLaw24CliquesNames = none := show inpS nLaw24CliquesNames = none from if_neg (show ¬ nLaw24CliquesNames = nSlicesSortIntInt by decide)
theorem sLaw24CliquesGoes : cfgS.fn nLaw24CliquesGoes = some (⟨false, false, true⟩, qLaw24CliquesGoes) := gLaw24CliquesGoes
theorem iLaw24CliquesGoes : cfgS.inp nLaw24CliquesGoes = none := show inpS nLaw24CliquesGoes = none from if_neg (show ¬ nLaw24CliquesGoes = nSlicesSortIntInt by decide)
theorem sLaw24CliquesAnswers : cfgS.fn nLaw24CliquesAnswers = some (⟨false, false, true⟩, qLaw24CliquesAnswers) := gLaw24CliquesAnswers
theorem iLaw24CliquesAnswers : cfgS.inp nLaw24CliquesAnswers = none := show inpS nLaw24CliquesAnswers = none from if_neg (show ¬ nLaw24CliquesAnswers = nSlicesSortIntInt by decide)
theorem sLaw24CliquesParts : cfgS.fn nLaw24CliquesParts = some (⟨false, false, true⟩, qLaw24CliquesParts) := gLaw24CliquesParts
theorem iLaw24CliquesParts : cfgS.inp nLaw24CliquesParts = none := show inpS nLaw24CliquesParts = none from if_neg (show ¬ nLaw24CliquesParts = nSlicesSortIntInt by decide)
theorem sLaw24CliquesEdges : cfgS.fn nLaw24CliquesEdges = some (⟨false, false, true⟩, qLaw24CliquesEdges) := gLaw24CliquesEdges
theorem iLaw24CliquesEdges : cfgS.inp nLaw24CliquesEdges = none := show inpS nLaw24CliquesEdges = none from if_neg (show ¬ nLaw24CliquesEdges = nSlicesSortIntInt by decide)
theorem sLaw24CliquesCover : cfgS.fn nLaw24CliquesCover = some (⟨false, false, true⟩, qLaw24CliquesCover) := gLaw24CliquesCover
theorem iLaw24CliquesCover : cfgS.inp nLaw24CliquesCover = none := show inpS nLaw24CliquesCover = none from if_neg (show ¬ nLaw24CliquesCover = nSlicesSortIntInt by decide)
theorem sCliquesAll : cfgS.fn nCliquesAll = some (⟨false, false, false⟩, qCliquesAll) := gCliquesAll
theorem iCliquesAll : cfgS.inp nCliquesAll = none := show inpS nCliquesAll = none from if_neg (show ¬ nCliquesAll = nSlicesSortIntInt by decide)
theorem sLaw24Awake : cfgS.fn nLaw24Awake = some (⟨false, false, true⟩, qLaw24Awake) := gLaw24Awake
theorem iLaw24Awake : cfgS.inp nLaw24Awake = none := show inpS nLaw24Awake = none from if_neg (show ¬ nLaw24Awake = nSlicesSortIntInt by decide)
theorem sMakeFew : cfgS.fn nMakeFew = some (⟨false, false, true⟩, qMakeFew) := gMakeFew
theorem iMakeFew : cfgS.inp nMakeFew = none := show inpS nMakeFew = none from if_neg (show ¬ nMakeFew = nSlicesSortIntInt by decide)
theorem sMakeNew : cfgS.fn nMakeNew = some (⟨true, false, false⟩, qMakeNew) := gMakeNew
theorem iMakeNew : cfgS.inp nMakeNew = none := show inpS nMakeNew = none from if_neg (show ¬ nMakeNew = nSlicesSortIntInt by decide)
theorem sMakeGraph : cfgS.fn nMakeGraph = some (⟨true, false, false⟩, qMakeGraph) := gMakeGraph
theorem iMakeGraph : cfgS.inp nMakeGraph = none := show inpS nMakeGraph = none from if_neg (show ¬ nMakeGraph = nSlicesSortIntInt by decide)
theorem sMakeOrder : cfgS.fn nMakeOrder = some (⟨true, false, false⟩, qMakeOrder) := gMakeOrder
theorem iMakeOrder : cfgS.inp nMakeOrder = none := show inpS nMakeOrder = none from if_neg (show ¬ nMakeOrder = nSlicesSortIntInt by decide)
theorem sFieldRenamed : cfgS.fn nFieldRenamed = some (⟨false, false, false⟩, qFieldRenamed) := gFieldRenamed
theorem iFieldRenamed : cfgS.inp nFieldRenamed = none := show inpS nFieldRenamed = none from if_neg (show ¬ nFieldRenamed = nSlicesSortIntInt by decide)
theorem sRef02Cmp : cfgS.fn nRef02Cmp = some (⟨false, false, true⟩, qRef02Cmp) := gRef02Cmp
theorem iRef02Cmp : cfgS.inp nRef02Cmp = none := show inpS nRef02Cmp = none from if_neg (show ¬ nRef02Cmp = nSlicesSortIntInt by decide)
theorem sRef02Of : cfgS.fn nRef02Of = some (⟨false, false, false⟩, qRef02Of) := gRef02Of
theorem iRef02Of : cfgS.inp nRef02Of = none := show inpS nRef02Of = none from if_neg (show ¬ nRef02Of = nSlicesSortIntInt by decide)
theorem sCliquesNext : cfgS.fn nCliquesNext = some (⟨false, false, false⟩, qCliquesNext) := gCliquesNext
theorem iCliquesNext : cfgS.inp nCliquesNext = none := show inpS nCliquesNext = none from if_neg (show ¬ nCliquesNext = nSlicesSortIntInt by decide)
theorem sCliquesCheck : cfgS.fn nCliquesCheck = some (⟨false, false, true⟩, qCliquesCheck) := gCliquesCheck
theorem iCliquesCheck : cfgS.inp nCliquesCheck = none := show inpS nCliquesCheck = none from if_neg (show ¬ nCliquesCheck = nSlicesSortIntInt by decide)
theorem sMakeDeckNext : cfgS.fn nMakeDeckNext = some (⟨true, false, false⟩, qMakeDeckNext) := gMakeDeckNext
theorem iMakeDeckNext : cfgS.inp nMakeDeckNext = none := show inpS nMakeDeckNext = none from if_neg (show ¬ nMakeDeckNext = nSlicesSortIntInt by decide)
theorem sMakeLight : cfgS.fn nMakeLight = some (⟨false, false, true⟩, qMakeLight) := gMakeLight
theorem iMakeLight : cfgS.inp nMakeLight = none := show inpS nMakeLight = none from if_neg (show ¬ nMakeLight = nSlicesSortIntInt by decide)
theorem sMakeSpoilt : cfgS.fn nMakeSpoilt = some (⟨true, false, false⟩, qMakeSpoilt) := gMakeSpoilt
theorem iMakeSpoilt : cfgS.inp nMakeSpoilt = none := show inpS nMakeSpoilt = none from if_neg (show ¬ nMakeSpoilt = nSlicesSortIntInt by decide)
theorem sMakeSet : cfgS.fn nMakeSet = some (⟨true, false, false⟩, qMakeSet) := gMakeSet
theorem iMakeSet : cfgS.inp nMakeSet = none := show inpS nMakeSet = none from if_neg (show ¬ nMakeSet = nSlicesSortIntInt by decide)
theorem sCliquesExtend : cfgS.fn nCliquesExtend = some (⟨false, false, false⟩, qCliquesExtend) := gCliquesExtend
theorem iCliquesExtend : cfgS.inp nCliquesExtend = none := show inpS nCliquesExtend = none from if_neg (show ¬ nCliquesExtend = nSlicesSortIntInt by decide)
theorem sRef24Extend : cfgS.fn nRef24Extend = some (⟨false, false, false⟩, qRef24Extend) := gRef24Extend
theorem iRef24Extend : cfgS.inp nRef24Extend = none := show inpS nRef24Extend = none from if_neg (show ¬ nRef24Extend = nSlicesSortIntInt by decide)
theorem sRef24Next : cfgS.fn nRef24Next = some (⟨false, false, false⟩, qRef24Next) := gRef24Next
theorem iRef24Next : cfgS.inp nRef24Next = none := show inpS nRef24Next = none from if_neg (show ¬ nRef24Next = nSlicesSortIntInt by decide)
theorem sCliquesIs : cfgS.fn nCliquesIs = some (⟨false, false, true⟩, qCliquesIs) := gCliquesIs
theorem iCliquesIs : cfgS.inp nCliquesIs = none := show inpS nCliquesIs = none from if_neg (show ¬ nCliquesIs = nSlicesSortIntInt by decide)
theorem sRef24Is : cfgS.fn nRef24Is = some (⟨false, false, true⟩, qRef24Is) := gRef24Is
theorem iRef24Is : cfgS.inp nRef24Is = none := show inpS nRef24Is = none from if_neg (show ¬ nRef24Is = nSlicesSortIntInt by decide)
theorem sCliquesMaximal : cfgS.fn nCliquesMaximal = some (⟨false, false, true⟩, qCliquesMaximal) := gCliquesMaximal
theorem iCliquesMaximal : cfgS.inp nCliquesMaximal = none := show inpS nCliquesMaximal = none from if_neg (show ¬ nCliquesMaximal = nSlicesSortIntInt by decide)
theorem sRef24Maximal : cfgS.fn nRef24Maximal = some (⟨false, false, true⟩, qRef24Maximal) := gRef24Maximal
theorem iRef24Maximal : cfgS.inp nRef24Maximal = none := show inpS nRef24Maximal = none from if_neg (show ¬ nRef24Maximal = nSlicesSortIntInt by decide)
theorem sRef24All : cfgS.fn nRef24All = some (⟨false, false, false⟩, qRef24All) := gRef24All
theorem iRef24All : cfgS.inp nRef24All = none := show inpS nRef24All = none from if_neg (show ¬ nRef24All = nSlicesSortIntInt by decide)
theorem sRef24Same : cfgS.fn nRef24Same = some (⟨false, false, true⟩, qRef24Same) := gRef24Same
theorem iRef24Same : cfgS.inp nRef24Same = none := show inpS nRef24Same = none from if_neg (show ¬ nRef24Same = nSlicesSortIntInt by decide)
theorem sRef24Check : cfgS.fn nRef24Check = some (⟨false, false, true⟩, qRef24Check) := gRef24Check
theorem iRef24Check : cfgS.inp nRef24Check = none := show inpS nRef24Check = none from if_neg (show ¬ nRef24Check = nSlicesSortIntInt by decide)
theorem sGraphInduced : cfgS.fn nGraphInduced = some (⟨false, false, false⟩, qGraphInduced) := gGraphInduced
theorem iGraphInduced : cfgS.inp nGraphInduced = none := show inpS nGraphInduced = none from if_neg (show ¬ nGraphInduced = nSlicesSortIntInt by decide)
theorem sRef02Within : cfgS.fn nRef02Within = some (⟨false, false, true⟩, qRef02Within) := gRef02Within
theorem iRef02Within : cfgS.inp nRef02Within = none := show inpS nRef02Within = none from if_neg (show ¬ nRef02Within = nSlicesSortIntInt by decide)
theorem sRef02Minus : cfgS.fn nRef02Minus = some (⟨false, false, false⟩, qRef02Minus) := gRef02Minus
theorem iRef02Minus : cfgS.inp nRef02Minus = none := show inpS nRef02Minus = none from if_neg (show ¬ nRef02Minus = nSlicesSortIntInt by decide)
theorem sRef02Union : cfgS.fn nRef02Union = some (⟨false, false, false⟩, qRef02Union) := gRef02Union
theorem iRef02Union : cfgS.inp nRef02Union = none := show inpS nRef02Union = none from if_neg (show ¬ nRef02Union = nSlicesSortIntInt by decide)
theorem sGraphAdd : cfgS.fn nGraphAdd = some (⟨false, false, false⟩, qGraphAdd) := gGraphAdd
theorem iGraphAdd : cfgS.inp nGraphAdd = none := show inpS nGraphAdd = none from if_neg (show ¬ nGraphAdd = nSlicesSortIntInt by decide)
theorem sRef02Has : cfgS.fn nRef02Has = some (⟨false, false, true⟩, qRef02Has) := gRef02Has
theorem iRef02Has : cfgS.inp nRef02Has = none := show inpS nRef02Has = none from if_neg (show ¬ nRef02Has = nSlicesSortIntInt by decide)
theorem sGraphOf : cfgS.fn nGraphOf = some (⟨false, false, false⟩, qGraphOf) := gGraphOf
theorem iGraphOf : cfgS.inp nGraphOf = none := show inpS nGraphOf = none from if_neg (show ¬ nGraphOf = nSlicesSortIntInt by decide)
theorem sRef03Same : cfgS.fn nRef03Same = some (⟨false, false, true⟩, qRef03Same) := gRef03Same
theorem iRef03Same : cfgS.inp nRef03Same = none := show inpS nRef03Same = none from if_neg (show ¬ nRef03Same = nSlicesSortIntInt by decide)
theorem sRef02Range : cfgS.fn nRef02Range = some (⟨false, false, false⟩, qRef02Range) := gRef02Range
theorem iRef02Range : cfgS.inp nRef02Range = none := show inpS nRef02Range = none from if_neg (show ¬ nRef02Range = nSlicesSortIntInt by decide)
theorem sGraphCheck : cfgS.fn nGraphCheck = some (⟨false, false, true⟩, qGraphCheck) := gGraphCheck
theorem iGraphCheck : cfgS.inp nGraphCheck = none := show inpS nGraphCheck = none from if_neg (show ¬ nGraphCheck = nSlicesSortIntInt by decide)
theorem sCliquesEach : cfgS.fn nCliquesEach = some (⟨true, false, false⟩, qCliquesEach) := gCliquesEach
theorem iCliquesEach : cfgS.inp nCliquesEach = none := show inpS nCliquesEach = none from if_neg (show ¬ nCliquesEach = nSlicesSortIntInt by decide)
theorem sCliquesAll1 : cfgS.fn nCliquesAll1 = some (⟨true, false, false⟩, qCliquesAll1) := gCliquesAll1
theorem iCliquesAll1 : cfgS.inp nCliquesAll1 = none := show inpS nCliquesAll1 = none from if_neg (show ¬ nCliquesAll1 = nSlicesSortIntInt by decide)
theorem sRef03Of : cfgS.fn nRef03Of = some (⟨false, false, false⟩, qRef03Of) := gRef03Of
theorem iRef03Of : cfgS.inp nRef03Of = none := show inpS nRef03Of = none from if_neg (show ¬ nRef03Of = nSlicesSortIntInt by decide)
theorem sRef02Put : cfgS.fn nRef02Put = some (⟨false, false, false⟩, qRef02Put) := gRef02Put
theorem iRef02Put : cfgS.inp nRef02Put = none := show inpS nRef02Put = none from if_neg (show ¬ nRef02Put = nSlicesSortIntInt by decide)
theorem sCliquesNext1 : cfgS.fn nCliquesNext1 = some (⟨true, false, false⟩, qCliquesNext1) := gCliquesNext1
theorem iCliquesNext1 : cfgS.inp nCliquesNext1 = none := show inpS nCliquesNext1 = none from if_neg (show ¬ nCliquesNext1 = nSlicesSortIntInt by decide)
theorem sCliquesCheck1 : cfgS.fn nCliquesCheck1 = some (⟨true, false, false⟩, qCliquesCheck1) := gCliquesCheck1
theorem iCliquesCheck1 : cfgS.inp nCliquesCheck1 = none := show inpS nCliquesCheck1 = none from if_neg (show ¬ nCliquesCheck1 = nSlicesSortIntInt by decide)
theorem sSlicesEqualIntInt : cfgS.fn nSlicesEqualIntInt = some (⟨false, false, true⟩, qSlicesEqualIntInt) := gSlicesEqualIntInt
theorem iSlicesEqualIntInt : cfgS.inp nSlicesEqualIntInt = none := show inpS nSlicesEqualIntInt = none from if_neg (show ¬ nSlicesEqualIntInt = nSlicesSortIntInt by decide)
theorem sMakeMod : cfgS.fn nMakeMod = some (⟨false, false, true⟩, qMakeMod) := gMakeMod
theorem iMakeMod : cfgS.inp nMakeMod = none := show inpS nMakeMod = none from if_neg (show ¬ nMakeMod = nSlicesSortIntInt by decide)
theorem sCliquesMasks : cfgS.fn nCliquesMasks = some (⟨false, false, false⟩, qCliquesMasks) := gCliquesMasks
theorem iCliquesMasks : cfgS.inp nCliquesMasks = none := show inpS nCliquesMasks = none from if_neg (show ¬ nCliquesMasks = nSlicesSortIntInt by decide)
theorem sSlicesCloneIntInt : cfgS.fn nSlicesCloneIntInt = some (⟨false, true, true⟩, qSlicesCloneIntInt) := gSlicesCloneIntInt
theorem iSlicesCloneIntInt : cfgS.inp nSlicesCloneIntInt = none := show inpS nSlicesCloneIntInt = none from if_neg (show ¬ nSlicesCloneIntInt = nSlicesSortIntInt by decide)
theorem sCliquesCommon : cfgS.fn nCliquesCommon = some (⟨false, false, true⟩, qCliquesCommon) := gCliquesCommon
theorem iCliquesCommon : cfgS.inp nCliquesCommon = none := show inpS nCliquesCommon = none from if_neg (show ¬ nCliquesCommon = nSlicesSortIntInt by decide)
theorem sMathBitsTrailingZeros64 : cfgS.fn nMathBitsTrailingZeros64 = some (⟨false, false, true⟩, qMathBitsTrailingZeros64) := gMathBitsTrailingZeros64
theorem iMathBitsTrailingZeros64 : cfgS.inp nMathBitsTrailingZeros64 = none := show inpS nMathBitsTrailingZeros64 = none from if_neg (show ¬ nMathBitsTrailingZeros64 = nSlicesSortIntInt by decide)
theorem sSlicesSortIntInt : cfgS.fn nSlicesSortIntInt = some (⟨false, false, true⟩, qSlicesSortIntInt) := gSlicesSortIntInt
theorem iSlicesSortIntInt : cfgS.inp nSlicesSortIntInt = some srtG := rfl
theorem sRef03Check : cfgS.fn nRef03Check = some (⟨false, false, true⟩, qRef03Check) := gRef03Check
theorem iRef03Check : cfgS.inp nRef03Check = none := show inpS nRef03Check = none from if_neg (show ¬ nRef03Check = nSlicesSortIntInt by decide)
theorem sRef24Fits : cfgS.fn nRef24Fits = some (⟨false, false, true⟩, qRef24Fits) := gRef24Fits
theorem iRef24Fits : cfgS.inp nRef24Fits = none := show inpS nRef24Fits = none from if_neg (show ¬ nRef24Fits = nSlicesSortIntInt by decide)
theorem sRef24List : cfgS.fn nRef24List = some (⟨false, false, false⟩, qRef24List) := gRef24List
theorem iRef24List : cfgS.inp nRef24List = none := show inpS nRef24List = none from if_neg (show ¬ nRef24List = nSlicesSortIntInt by decide)
theorem sNodesetValid : cfgS.fn nNodesetValid = some (⟨false, false, true⟩, qNodesetValid) := gNodesetValid
theorem iNodesetValid : cfgS.inp nNodesetValid = none := show inpS nNodesetValid = none from if_neg (show ¬ nNodesetValid = nSlicesSortIntInt by decide)
theorem sCliquesClique : cfgS.fn nCliquesClique = some (⟨false, false, true⟩, qCliquesClique) := gCliquesClique
theorem iCliquesClique : cfgS.inp nCliquesClique = none := show inpS nCliquesClique = none from if_neg (show ¬ nCliquesClique = nSlicesSortIntInt by decide)
theorem sRef02Valid : cfgS.fn nRef02Valid = some (⟨false, false, true⟩, qRef02Valid) := gRef02Valid
theorem iRef02Valid : cfgS.inp nRef02Valid = none := show inpS nRef02Valid = none from if_neg (show ¬ nRef02Valid = nSlicesSortIntInt by decide)
theorem sRef03Find : cfgS.fn nRef03Find = some (⟨false, false, true⟩, qRef03Find) := gRef03Find
theorem iRef03Find : cfgS.inp nRef03Find = none := show inpS nRef03Find = none from if_neg (show ¬ nRef03Find = nSlicesSortIntInt by decide)
theorem sGraphWithin : cfgS.fn nGraphWithin = some (⟨false, false, false⟩, qGraphWithin) := gGraphWithin
theorem iGraphWithin : cfgS.inp nGraphWithin = none := show inpS nGraphWithin = none from if_neg (show ¬ nGraphWithin = nSlicesSortIntInt by decide)
theorem sGraphChange : cfgS.fn nGraphChange = some (⟨false, false, true⟩, qGraphChange) := gGraphChange
theorem iGraphChange : cfgS.inp nGraphChange = none := show inpS nGraphChange = none from if_neg (show ¬ nGraphChange = nSlicesSortIntInt by decide)
theorem sGraphPlace : cfgS.fn nGraphPlace = some (⟨false, false, true⟩, qGraphPlace) := gGraphPlace
theorem iGraphPlace : cfgS.inp nGraphPlace = none := show inpS nGraphPlace = none from if_neg (show ¬ nGraphPlace = nSlicesSortIntInt by decide)
theorem sSlicesInsertApiEdgeApiEdge : cfgS.fn nSlicesInsertApiEdgeApiEdge = some (⟨false, false, false⟩, qSlicesInsertApiEdgeApiEdge) := gSlicesInsertApiEdgeApiEdge
theorem iSlicesInsertApiEdgeApiEdge : cfgS.inp nSlicesInsertApiEdgeApiEdge = none := show inpS nSlicesInsertApiEdgeApiEdge = none from if_neg (show ¬ nSlicesInsertApiEdgeApiEdge = nSlicesSortIntInt by decide)
theorem sSlicesCloneApiEdgeApiEdge : cfgS.fn nSlicesCloneApiEdgeApiEdge = some (⟨false, false, false⟩, qSlicesCloneApiEdgeApiEdge) := gSlicesCloneApiEdgeApiEdge
theorem iSlicesCloneApiEdgeApiEdge : cfgS.inp nSlicesCloneApiEdgeApiEdge = none := show inpS nSlicesCloneApiEdgeApiEdge = none from if_neg (show ¬ nSlicesCloneApiEdgeApiEdge = nSlicesSortIntInt by decide)
theorem sGraphEdge : cfgS.fn nGraphEdge = some (⟨false, false, false⟩, qGraphEdge) := gGraphEdge
theorem iGraphEdge : cfgS.inp nGraphEdge = none := show inpS nGraphEdge = none from if_neg (show ¬ nGraphEdge = nSlicesSortIntInt by decide)
theorem sGraphEnds : cfgS.fn nGraphEnds = some (⟨false, false, true⟩, qGraphEnds) := gGraphEnds
theorem iGraphEnds : cfgS.inp nGraphEnds = none := show inpS nGraphEnds = none from if_neg (show ¬ nGraphEnds = nSlicesSortIntInt by decide)
theorem sSlicesSortFuncApiEdgeApiEdge : cfgS.fn nSlicesSortFuncApiEdgeApiEdge = some (⟨false, false, true⟩, qSlicesSortFuncApiEdgeApiEdge) := gSlicesSortFuncApiEdgeApiEdge
theorem iSlicesSortFuncApiEdgeApiEdge : cfgS.inp nSlicesSortFuncApiEdgeApiEdge = none := show inpS nSlicesSortFuncApiEdgeApiEdge = none from if_neg (show ¬ nSlicesSortFuncApiEdgeApiEdge = nSlicesSortIntInt by decide)
theorem sGraphOrder : cfgS.fn nGraphOrder = some (⟨false, false, true⟩, qGraphOrder) := gGraphOrder
theorem iGraphOrder : cfgS.inp nGraphOrder = none := show inpS nGraphOrder = none from if_neg (show ¬ nGraphOrder = nSlicesSortIntInt by decide)
theorem sSlicesCompactApiEdgeApiEdge : cfgS.fn nSlicesCompactApiEdgeApiEdge = some (⟨false, false, false⟩, qSlicesCompactApiEdgeApiEdge) := gSlicesCompactApiEdgeApiEdge
theorem iSlicesCompactApiEdgeApiEdge : cfgS.inp nSlicesCompactApiEdgeApiEdge = none := show inpS nSlicesCompactApiEdgeApiEdge = none from if_neg (show ¬ nSlicesCompactApiEdgeApiEdge = nSlicesSortIntInt by decide)
theorem sRef03SameEdges : cfgS.fn nRef03SameEdges = some (⟨false, false, true⟩, qRef03SameEdges) := gRef03SameEdges
theorem iRef03SameEdges : cfgS.inp nRef03SameEdges = none := show inpS nRef03SameEdges = none from if_neg (show ¬ nRef03SameEdges = nSlicesSortIntInt by decide)
theorem sCliquesEach1 : cfgS.fn nCliquesEach1 = some (⟨true, false, false⟩, qCliquesEach1) := gCliquesEach1
theorem iCliquesEach1 : cfgS.inp nCliquesEach1 = none := show inpS nCliquesEach1 = none from if_neg (show ¬ nCliquesEach1 = nSlicesSortIntInt by decide)
theorem sCliquesAllN77 : cfgS.fn nCliquesAllN77 = some (⟨false, false, true⟩, qCliquesAllN77) := gCliquesAllN77
theorem iCliquesAllN77 : cfgS.inp nCliquesAllN77 = none := show inpS nCliquesAllN77 = none from if_neg (show ¬ nCliquesAllN77 = nSlicesSortIntInt by decide)
theorem sRef03Ends : cfgS.fn nRef03Ends = some (⟨false, false, true⟩, qRef03Ends) := gRef03Ends
theorem iRef03Ends : cfgS.inp nRef03Ends = none := show inpS nRef03Ends = none from if_neg (show ¬ nRef03Ends = nSlicesSortIntInt by decide)
theorem sRef03With : cfgS.fn nRef03With = some (⟨false, false, false⟩, qRef03With) := gRef03With
theorem iRef03With : cfgS.inp nRef03With = none := show inpS nRef03With = none from if_neg (show ¬ nRef03With = nSlicesSortIntInt by decide)
theorem sRef03Edge : cfgS.fn nRef03Edge = some (⟨false, false, false⟩, qRef03Edge) := gRef03Edge
theorem iRef03Edge : cfgS.inp nRef03Edge = none := show inpS nRef03Edge = none from if_neg (show ¬ nRef03Edge = nSlicesSortIntInt by decide)
theorem sRef03Before : cfgS.fn nRef03Before = some (⟨false, false, true⟩, qRef03Before) := gRef03Before
theorem iRef03Before : cfgS.inp nRef03Before = none := show inpS nRef03Before = none from if_neg (show ¬ nRef03Before = nSlicesSortIntInt by decide)
theorem sRef24Grow : cfgS.fn nRef24Grow = some (⟨false, false, false⟩, qRef24Grow) := gRef24Grow
theorem iRef24Grow : cfgS.inp nRef24Grow = none := show inpS nRef24Grow = none from if_neg (show ¬ nRef24Grow = nSlicesSortIntInt by decide)
theorem sMasksOf : cfgS.fn nMasksOf = some (⟨false, false, true⟩, qMasksOf) := gMasksOf
theorem iMasksOf : cfgS.inp nMasksOf = none := show inpS nMasksOf = none from if_neg (show ¬ nMasksOf = nSlicesSortIntInt by decide)
theorem sMasksBit : cfgS.fn nMasksBit = some (⟨false, false, true⟩, qMasksBit) := gMasksBit
theorem iMasksBit : cfgS.inp nMasksBit = none := show inpS nMasksBit = none from if_neg (show ¬ nMasksBit = nSlicesSortIntInt by decide)
theorem sSlicesBinarySearchFuncApiEdgeApiEdgeApiEdge : cfgS.fn nSlicesBinarySearchFuncApiEdgeApiEdgeApiEdge = some (⟨false, false, true⟩, qSlicesBinarySearchFuncApiEdgeApiEdgeApiEdge) := gSlicesBinarySearchFuncApiEdgeApiEdgeApiEdge
theorem iSlicesBinarySearchFuncApiEdgeApiEdgeApiEdge : cfgS.inp nSlicesBinarySearchFuncApiEdgeApiEdgeApiEdge = none := show inpS nSlicesBinarySearchFuncApiEdgeApiEdgeApiEdge = none from if_neg (show ¬ nSlicesBinarySearchFuncApiEdgeApiEdgeApiEdge = nSlicesSortIntInt by decide)
theorem sCmpOrInt : cfgS.fn nCmpOrInt = some (⟨false, false, true⟩, qCmpOrInt) := gCmpOrInt
theorem iCmpOrInt : cfgS.inp nCmpOrInt = none := show inpS nCmpOrInt = none from if_neg (show ¬ nCmpOrInt = nSlicesSortIntInt by decide)
theorem sCmpCompareInt : cfgS.fn nCmpCompareInt = some (⟨false, false, true⟩, qCmpCompareInt) := gCmpCompareInt
theorem iCmpCompareInt : cfgS.inp nCmpCompareInt = none := show inpS nCmpCompareInt = none from if_neg (show ¬ nCmpCompareInt = nSlicesSortIntInt by decide)
theorem sCmpIsNaNInt : cfgS.fn nCmpIsNaNInt = some (⟨false, false, true⟩, qCmpIsNaNInt) := gCmpIsNaNInt
theorem iCmpIsNaNInt : cfgS.inp nCmpIsNaNInt = none := show inpS nCmpIsNaNInt = none from if_neg (show ¬ nCmpIsNaNInt = nSlicesSortIntInt by decide)
end Go.BmP
