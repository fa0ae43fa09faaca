/- The configuration with the library's functions that write into the slice they are given, and what it says of each function. -/
import Derived.Test.YtikffbngaolphaaDoorBmP
import Derived.Test.YtikffbngaolphaaDoorRunL
import Derived.Test.YtikffbngaolphaaDoorSetP
set_option maxRecDepth 100000
namespace Go.BmP
open Go.Am Go.Bm
def inpS (_ : Nat) : Option (Nat → List AV → List AV → Option (List AV × Option Nat)) := none
def orcF (_ : Nat) : Option (List AV → Heap → Option (AV × Heap)) := none
def cfgS : Go.Bm.Cfg := { cfg with inp := inpS, orc := orcF }
theorem cfgSOK : CfgOKB Go.Proofs.Tryd.prog cfgS := ⟨cfgOK.mixed, cfgOK.fn⟩
theorem sLaw27BicliqueTurns : cfgS.fn nLaw27BicliqueTurns = some (⟨false, false, true⟩, qLaw27BicliqueTurns) := gLaw27BicliqueTurns
theorem iLaw27BicliqueTurns : cfgS.inp nLaw27BicliqueTurns = none := rfl
theorem oLaw27BicliqueTurns : cfgS.orc nLaw27BicliqueTurns = none := rfl
theorem sLaw27BicliqueGoes : cfgS.fn nLaw27BicliqueGoes = some (⟨false, false, true⟩, qLaw27BicliqueGoes) := gLaw27BicliqueGoes
theorem iLaw27BicliqueGoes : cfgS.inp nLaw27BicliqueGoes = none := rfl
theorem oLaw27BicliqueGoes : cfgS.orc nLaw27BicliqueGoes = none := rfl
theorem sMakeFew : cfgS.fn nMakeFew = some (⟨false, false, true⟩, qMakeFew) := gMakeFew
theorem iMakeFew : cfgS.inp nMakeFew = none := rfl
theorem oMakeFew : cfgS.orc nMakeFew = none := rfl
theorem sLaw27Awake : cfgS.fn nLaw27Awake = some (⟨false, false, true⟩, qLaw27Awake) := gLaw27Awake
theorem iLaw27Awake : cfgS.inp nLaw27Awake = none := rfl
theorem oLaw27Awake : cfgS.orc nLaw27Awake = none := rfl
theorem sFieldSided : cfgS.fn nFieldSided = some (⟨true, false, false⟩, qFieldSided) := gFieldSided
theorem iFieldSided : cfgS.inp nFieldSided = none := rfl
theorem oFieldSided : cfgS.orc nFieldSided = none := rfl
theorem sMakeNew : cfgS.fn nMakeNew = some (⟨true, false, false⟩, qMakeNew) := gMakeNew
theorem iMakeNew : cfgS.inp nMakeNew = none := rfl
theorem oMakeNew : cfgS.orc nMakeNew = none := rfl
theorem sRef02Minus : cfgS.fn nRef02Minus = some (⟨false, false, false⟩, qRef02Minus) := gRef02Minus
theorem iRef02Minus : cfgS.inp nRef02Minus = none := rfl
theorem oRef02Minus : cfgS.orc nRef02Minus = none := rfl
theorem sRef02Range : cfgS.fn nRef02Range = some (⟨false, false, false⟩, qRef02Range) := gRef02Range
theorem iRef02Range : cfgS.inp nRef02Range = none := rfl
theorem oRef02Range : cfgS.orc nRef02Range = none := rfl
theorem sBicliqueAll : cfgS.fn nBicliqueAll = some (⟨false, false, false⟩, qBicliqueAll) := gBicliqueAll
theorem iBicliqueAll : cfgS.inp nBicliqueAll = none := rfl
theorem oBicliqueAll : cfgS.orc nBicliqueAll = none := rfl
theorem sRef27Same : cfgS.fn nRef27Same = some (⟨false, false, true⟩, qRef27Same) := gRef27Same
theorem iRef27Same : cfgS.inp nRef27Same = none := rfl
theorem oRef27Same : cfgS.orc nRef27Same = none := rfl
theorem sBicliqueBest : cfgS.fn nBicliqueBest = some (⟨false, false, false⟩, qBicliqueBest) := gBicliqueBest
theorem iBicliqueBest : cfgS.inp nBicliqueBest = none := rfl
theorem oBicliqueBest : cfgS.orc nBicliqueBest = none := rfl
theorem sBicliqueNext : cfgS.fn nBicliqueNext = some (⟨false, false, false⟩, qBicliqueNext) := gBicliqueNext
theorem iBicliqueNext : cfgS.inp nBicliqueNext = none := rfl
theorem oBicliqueNext : cfgS.orc nBicliqueNext = none := rfl
theorem sBicliqueMaximal : cfgS.fn nBicliqueMaximal = some (⟨false, false, true⟩, qBicliqueMaximal) := gBicliqueMaximal
theorem iBicliqueMaximal : cfgS.inp nBicliqueMaximal = none := rfl
theorem oBicliqueMaximal : cfgS.orc nBicliqueMaximal = none := rfl
theorem sRef02Union : cfgS.fn nRef02Union = some (⟨false, false, false⟩, qRef02Union) := gRef02Union
theorem iRef02Union : cfgS.inp nRef02Union = none := rfl
theorem oRef02Union : cfgS.orc nRef02Union = none := rfl
theorem sRef02Has : cfgS.fn nRef02Has = some (⟨false, false, true⟩, qRef02Has) := gRef02Has
theorem iRef02Has : cfgS.inp nRef02Has = none := rfl
theorem oRef02Has : cfgS.orc nRef02Has = none := rfl
theorem sMakeSet : cfgS.fn nMakeSet = some (⟨true, false, false⟩, qMakeSet) := gMakeSet
theorem iMakeSet : cfgS.inp nMakeSet = none := rfl
theorem oMakeSet : cfgS.orc nMakeSet = none := rfl
theorem sBicliqueCheck : cfgS.fn nBicliqueCheck = some (⟨false, false, true⟩, qBicliqueCheck) := gBicliqueCheck
theorem iBicliqueCheck : cfgS.inp nBicliqueCheck = none := rfl
theorem oBicliqueCheck : cfgS.orc nBicliqueCheck = none := rfl
theorem sMakeDeckNext : cfgS.fn nMakeDeckNext = some (⟨true, false, false⟩, qMakeDeckNext) := gMakeDeckNext
theorem iMakeDeckNext : cfgS.inp nMakeDeckNext = none := rfl
theorem oMakeDeckNext : cfgS.orc nMakeDeckNext = none := rfl
theorem sRef03Of : cfgS.fn nRef03Of = some (⟨false, false, false⟩, qRef03Of) := gRef03Of
theorem iRef03Of : cfgS.inp nRef03Of = none := rfl
theorem oRef03Of : cfgS.orc nRef03Of = none := rfl
theorem sRef02Cmp : cfgS.fn nRef02Cmp = some (⟨false, false, true⟩, qRef02Cmp) := gRef02Cmp
theorem iRef02Cmp : cfgS.inp nRef02Cmp = none := rfl
theorem oRef02Cmp : cfgS.orc nRef02Cmp = none := rfl
theorem sRef02Of : cfgS.fn nRef02Of = some (⟨false, false, false⟩, qRef02Of) := gRef02Of
theorem iRef02Of : cfgS.inp nRef02Of = none := rfl
theorem oRef02Of : cfgS.orc nRef02Of = none := rfl
theorem sBicliqueOf : cfgS.fn nBicliqueOf = some (⟨false, false, false⟩, qBicliqueOf) := gBicliqueOf
theorem iBicliqueOf : cfgS.inp nBicliqueOf = none := rfl
theorem oBicliqueOf : cfgS.orc nBicliqueOf = none := rfl
theorem sBicliqueSidesEach : cfgS.fn nBicliqueSidesEach = some (⟨true, false, false⟩, qBicliqueSidesEach) := gBicliqueSidesEach
theorem iBicliqueSidesEach : cfgS.inp nBicliqueSidesEach = none := rfl
theorem oBicliqueSidesEach : cfgS.orc nBicliqueSidesEach = none := rfl
theorem sBicliqueAll1 : cfgS.fn nBicliqueAll1 = some (⟨true, false, false⟩, qBicliqueAll1) := gBicliqueAll1
theorem iBicliqueAll1 : cfgS.inp nBicliqueAll1 = none := rfl
theorem oBicliqueAll1 : cfgS.orc nBicliqueAll1 = none := rfl
theorem sBicliqueBest1 : cfgS.fn nBicliqueBest1 = some (⟨true, false, false⟩, qBicliqueBest1) := gBicliqueBest1
theorem iBicliqueBest1 : cfgS.inp nBicliqueBest1 = none := rfl
theorem oBicliqueBest1 : cfgS.orc nBicliqueBest1 = none := rfl
theorem sBicliqueNext1 : cfgS.fn nBicliqueNext1 = some (⟨true, false, false⟩, qBicliqueNext1) := gBicliqueNext1
theorem iBicliqueNext1 : cfgS.inp nBicliqueNext1 = none := rfl
theorem oBicliqueNext1 : cfgS.orc nBicliqueNext1 = none := rfl
theorem sBicliqueMaximal1 : cfgS.fn nBicliqueMaximal1 = some (⟨true, false, false⟩, qBicliqueMaximal1) := gBicliqueMaximal1
theorem iBicliqueMaximal1 : cfgS.inp nBicliqueMaximal1 = none := rfl
theorem oBicliqueMaximal1 : cfgS.orc nBicliqueMaximal1 = none := rfl
theorem sNodesetValid : cfgS.fn nNodesetValid = some (⟨false, false, true⟩, qNodesetValid) := gNodesetValid
theorem iNodesetValid : cfgS.inp nNodesetValid = none := rfl
theorem oNodesetValid : cfgS.orc nNodesetValid = none := rfl
theorem sBicliqueMask : cfgS.fn nBicliqueMask = some (⟨false, false, true⟩, qBicliqueMask) := gBicliqueMask
theorem iBicliqueMask : cfgS.inp nBicliqueMask = none := rfl
theorem oBicliqueMask : cfgS.orc nBicliqueMask = none := rfl
theorem sBicliqueSidesOnRight : cfgS.fn nBicliqueSidesOnRight = some (⟨false, false, true⟩, qBicliqueSidesOnRight) := gBicliqueSidesOnRight
theorem iBicliqueSidesOnRight : cfgS.inp nBicliqueSidesOnRight = none := rfl
theorem oBicliqueSidesOnRight : cfgS.orc nBicliqueSidesOnRight = none := rfl
theorem sBicliqueSidesOnLeft : cfgS.fn nBicliqueSidesOnLeft = some (⟨false, false, true⟩, qBicliqueSidesOnLeft) := gBicliqueSidesOnLeft
theorem iBicliqueSidesOnLeft : cfgS.inp nBicliqueSidesOnLeft = none := rfl
theorem oBicliqueSidesOnLeft : cfgS.orc nBicliqueSidesOnLeft = none := rfl
theorem sBicliqueList : cfgS.fn nBicliqueList = some (⟨false, false, false⟩, qBicliqueList) := gBicliqueList
theorem iBicliqueList : cfgS.inp nBicliqueList = none := rfl
theorem oBicliqueList : cfgS.orc nBicliqueList = none := rfl
theorem sRef03Edge : cfgS.fn nRef03Edge = some (⟨false, false, false⟩, qRef03Edge) := gRef03Edge
theorem iRef03Edge : cfgS.inp nRef03Edge = none := rfl
theorem oRef03Edge : cfgS.orc nRef03Edge = none := rfl
theorem sGraphCheck : cfgS.fn nGraphCheck = some (⟨false, false, true⟩, qGraphCheck) := gGraphCheck
theorem iGraphCheck : cfgS.inp nGraphCheck = none := rfl
theorem oGraphCheck : cfgS.orc nGraphCheck = none := rfl
theorem sSlicesContainsFuncApiEdgeApiEdge : cfgS.fn nSlicesContainsFuncApiEdgeApiEdge = some (⟨true, false, false⟩, qSlicesContainsFuncApiEdgeApiEdge) := gSlicesContainsFuncApiEdgeApiEdge
theorem iSlicesContainsFuncApiEdgeApiEdge : cfgS.inp nSlicesContainsFuncApiEdgeApiEdge = none := rfl
theorem oSlicesContainsFuncApiEdgeApiEdge : cfgS.orc nSlicesContainsFuncApiEdgeApiEdge = none := rfl
theorem sBicliqueCheck1 : cfgS.fn nBicliqueCheck1 = some (⟨true, false, false⟩, qBicliqueCheck1) := gBicliqueCheck1
theorem iBicliqueCheck1 : cfgS.inp nBicliqueCheck1 = none := rfl
theorem oBicliqueCheck1 : cfgS.orc nBicliqueCheck1 = none := rfl
theorem sMakeMod : cfgS.fn nMakeMod = some (⟨false, false, true⟩, qMakeMod) := gMakeMod
theorem iMakeMod : cfgS.inp nMakeMod = none := rfl
theorem oMakeMod : cfgS.orc nMakeMod = none := rfl
theorem sRef03Ends : cfgS.fn nRef03Ends = some (⟨false, false, true⟩, qRef03Ends) := gRef03Ends
theorem iRef03Ends : cfgS.inp nRef03Ends = none := rfl
theorem oRef03Ends : cfgS.orc nRef03Ends = none := rfl
theorem sRef03With : cfgS.fn nRef03With = some (⟨false, false, false⟩, qRef03With) := gRef03With
theorem iRef03With : cfgS.inp nRef03With = none := rfl
theorem oRef03With : cfgS.orc nRef03With = none := rfl
theorem sRef02Put : cfgS.fn nRef02Put = some (⟨false, false, false⟩, qRef02Put) := gRef02Put
theorem iRef02Put : cfgS.inp nRef02Put = none := rfl
theorem oRef02Put : cfgS.orc nRef02Put = none := rfl
theorem sBicliqueSidesEach1 : cfgS.fn nBicliqueSidesEach1 = some (⟨true, false, false⟩, qBicliqueSidesEach1) := gBicliqueSidesEach1
theorem iBicliqueSidesEach1 : cfgS.inp nBicliqueSidesEach1 = none := rfl
theorem oBicliqueSidesEach1 : cfgS.orc nBicliqueSidesEach1 = none := rfl
theorem sBicliqueBehind : cfgS.fn nBicliqueBehind = some (⟨false, false, true⟩, qBicliqueBehind) := gBicliqueBehind
theorem iBicliqueBehind : cfgS.inp nBicliqueBehind = none := rfl
theorem oBicliqueBehind : cfgS.orc nBicliqueBehind = none := rfl
theorem sMathBitsTrailingZeros64 : cfgS.fn nMathBitsTrailingZeros64 = some (⟨false, false, true⟩, qMathBitsTrailingZeros64) := gMathBitsTrailingZeros64
theorem iMathBitsTrailingZeros64 : cfgS.inp nMathBitsTrailingZeros64 = none := rfl
theorem oMathBitsTrailingZeros64 : cfgS.orc nMathBitsTrailingZeros64 = none := rfl
theorem sSlicesCloneIntInt : cfgS.fn nSlicesCloneIntInt = some (⟨false, true, true⟩, qSlicesCloneIntInt) := gSlicesCloneIntInt
theorem iSlicesCloneIntInt : cfgS.inp nSlicesCloneIntInt = none := rfl
theorem oSlicesCloneIntInt : cfgS.orc nSlicesCloneIntInt = none := rfl
theorem sBicliqueSidesCommon : cfgS.fn nBicliqueSidesCommon = some (⟨false, false, true⟩, qBicliqueSidesCommon) := gBicliqueSidesCommon
theorem iBicliqueSidesCommon : cfgS.inp nBicliqueSidesCommon = none := rfl
theorem oBicliqueSidesCommon : cfgS.orc nBicliqueSidesCommon = none := rfl
theorem sRef03Before : cfgS.fn nRef03Before = some (⟨false, false, true⟩, qRef03Before) := gRef03Before
theorem iRef03Before : cfgS.inp nRef03Before = none := rfl
theorem oRef03Before : cfgS.orc nRef03Before = none := rfl
theorem sGraphOrder : cfgS.fn nGraphOrder = some (⟨false, false, true⟩, qGraphOrder) := gGraphOrder
theorem iGraphOrder : cfgS.inp nGraphOrder = none := rfl
theorem oGraphOrder : cfgS.orc nGraphOrder = none := rfl
theorem sSlicesIndexFuncApiEdgeApiEdge : cfgS.fn nSlicesIndexFuncApiEdgeApiEdge = some (⟨true, false, false⟩, qSlicesIndexFuncApiEdgeApiEdge) := gSlicesIndexFuncApiEdgeApiEdge
theorem iSlicesIndexFuncApiEdgeApiEdge : cfgS.inp nSlicesIndexFuncApiEdgeApiEdge = none := rfl
theorem oSlicesIndexFuncApiEdgeApiEdge : cfgS.orc nSlicesIndexFuncApiEdgeApiEdge = none := rfl
theorem sCmpOrInt : cfgS.fn nCmpOrInt = some (⟨false, false, true⟩, qCmpOrInt) := gCmpOrInt
theorem iCmpOrInt : cfgS.inp nCmpOrInt = none := rfl
theorem oCmpOrInt : cfgS.orc nCmpOrInt = none := rfl
theorem sCmpCompareInt : cfgS.fn nCmpCompareInt = some (⟨false, false, true⟩, qCmpCompareInt) := gCmpCompareInt
theorem iCmpCompareInt : cfgS.inp nCmpCompareInt = none := rfl
theorem oCmpCompareInt : cfgS.orc nCmpCompareInt = none := rfl
theorem sCmpIsNaNInt : cfgS.fn nCmpIsNaNInt = some (⟨false, false, true⟩, qCmpIsNaNInt) := gCmpIsNaNInt
theorem iCmpIsNaNInt : cfgS.inp nCmpIsNaNInt = none := rfl
theorem oCmpIsNaNInt : cfgS.orc nCmpIsNaNInt = none := rfl
end Go.BmP
