/- The configuration with the library's functions that write into the slice they are given, and what it says of each function. -/
import Derived.Test.YtikffbngaolphaaDoorBmP
import Derived.Test.YtikffbngaolphaaDoorRunL
set_option maxRecDepth 100000
namespace Go.BmP
open Go.Am Go.Bm
def inpS (_ : Nat) : Option (Nat → List AV → List AV → Option (List AV × Option Nat)) := none
def cfgS : Go.Bm.Cfg := { cfg with inp := inpS }
theorem cfgSOK : CfgOKB Go.Proofs.Tryd.prog cfgS := ⟨cfgOK.mixed, cfgOK.fn⟩
theorem orcS (f : Nat) : cfgS.orc f = none := rfl
theorem sLaw27BicliqueCrowns : cfgS.fn nLaw27BicliqueCrowns = some (⟨false, false, true⟩, qLaw27BicliqueCrowns) := gLaw27BicliqueCrowns
theorem iLaw27BicliqueCrowns : cfgS.inp nLaw27BicliqueCrowns = none := rfl
theorem sLaw27Awake : cfgS.fn nLaw27Awake = some (⟨false, false, true⟩, qLaw27Awake) := gLaw27Awake
theorem iLaw27Awake : cfgS.inp nLaw27Awake = none := rfl
theorem sRef02Range : cfgS.fn nRef02Range = some (⟨false, false, false⟩, qRef02Range) := gRef02Range
theorem iRef02Range : cfgS.inp nRef02Range = none := rfl
theorem sBicliqueAll : cfgS.fn nBicliqueAll = some (⟨false, false, false⟩, qBicliqueAll) := gBicliqueAll
theorem iBicliqueAll : cfgS.inp nBicliqueAll = none := rfl
theorem sBicliqueBest : cfgS.fn nBicliqueBest = some (⟨false, false, false⟩, qBicliqueBest) := gBicliqueBest
theorem iBicliqueBest : cfgS.inp nBicliqueBest = none := rfl
theorem sBicliqueCheck : cfgS.fn nBicliqueCheck = some (⟨false, false, true⟩, qBicliqueCheck) := gBicliqueCheck
theorem iBicliqueCheck : cfgS.inp nBicliqueCheck = none := rfl
theorem sRef03Of : cfgS.fn nRef03Of = some (⟨false, false, false⟩, qRef03Of) := gRef03Of
theorem iRef03Of : cfgS.inp nRef03Of = none := rfl
theorem sRef02Cmp : cfgS.fn nRef02Cmp = some (⟨false, false, true⟩, qRef02Cmp) := gRef02Cmp
theorem iRef02Cmp : cfgS.inp nRef02Cmp = none := rfl
theorem sBicliqueOf : cfgS.fn nBicliqueOf = some (⟨false, false, false⟩, qBicliqueOf) := gBicliqueOf
theorem iBicliqueOf : cfgS.inp nBicliqueOf = none := rfl
theorem sBicliqueSidesEach : cfgS.fn nBicliqueSidesEach = some (⟨true, false, false⟩, qBicliqueSidesEach) := gBicliqueSidesEach
theorem iBicliqueSidesEach : cfgS.inp nBicliqueSidesEach = none := rfl
theorem sBicliqueAll1 : cfgS.fn nBicliqueAll1 = some (⟨true, false, false⟩, qBicliqueAll1) := gBicliqueAll1
theorem iBicliqueAll1 : cfgS.inp nBicliqueAll1 = none := rfl
theorem sBicliqueBest1 : cfgS.fn nBicliqueBest1 = some (⟨true, false, false⟩, qBicliqueBest1) := gBicliqueBest1
theorem iBicliqueBest1 : cfgS.inp nBicliqueBest1 = none := rfl
theorem sNodesetValid : cfgS.fn nNodesetValid = some (⟨false, false, true⟩, qNodesetValid) := gNodesetValid
theorem iNodesetValid : cfgS.inp nNodesetValid = none := rfl
theorem sBicliqueMask : cfgS.fn nBicliqueMask = some (⟨false, false, true⟩, qBicliqueMask) := gBicliqueMask
theorem iBicliqueMask : cfgS.inp nBicliqueMask = none := rfl
theorem sBicliqueSidesOnLeft : cfgS.fn nBicliqueSidesOnLeft = some (⟨false, false, true⟩, qBicliqueSidesOnLeft) := gBicliqueSidesOnLeft
theorem iBicliqueSidesOnLeft : cfgS.inp nBicliqueSidesOnLeft = none := rfl
theorem sBicliqueList : cfgS.fn nBicliqueList = some (⟨false, false, false⟩, qBicliqueList) := gBicliqueList
theorem iBicliqueList : cfgS.inp nBicliqueList = none := rfl
theorem sRef03Edge : cfgS.fn nRef03Edge = some (⟨false, false, false⟩, qRef03Edge) := gRef03Edge
theorem iRef03Edge : cfgS.inp nRef03Edge = none := rfl
theorem sGraphCheck : cfgS.fn nGraphCheck = some (⟨false, false, true⟩, qGraphCheck) := gGraphCheck
theorem iGraphCheck : cfgS.inp nGraphCheck = none := rfl
theorem sSlicesContainsFuncApiEdgeApiEdge : cfgS.fn nSlicesContainsFuncApiEdgeApiEdge = some (⟨true, false, false⟩, qSlicesContainsFuncApiEdgeApiEdge) := gSlicesContainsFuncApiEdgeApiEdge
theorem iSlicesContainsFuncApiEdgeApiEdge : cfgS.inp nSlicesContainsFuncApiEdgeApiEdge = none := rfl
theorem sBicliqueCheck1 : cfgS.fn nBicliqueCheck1 = some (⟨true, false, false⟩, qBicliqueCheck1) := gBicliqueCheck1
theorem iBicliqueCheck1 : cfgS.inp nBicliqueCheck1 = none := rfl
theorem sRef03Ends : cfgS.fn nRef03Ends = some (⟨false, false, true⟩, qRef03Ends) := gRef03Ends
theorem iRef03Ends : cfgS.inp nRef03Ends = none := rfl
theorem sRef03With : cfgS.fn nRef03With = some (⟨false, false, false⟩, qRef03With) := gRef03With
theorem iRef03With : cfgS.inp nRef03With = none := rfl
theorem sBicliqueSidesEach1 : cfgS.fn nBicliqueSidesEach1 = some (⟨true, false, false⟩, qBicliqueSidesEach1) := gBicliqueSidesEach1
theorem iBicliqueSidesEach1 : cfgS.inp nBicliqueSidesEach1 = none := rfl
theorem sBicliqueBehind : cfgS.fn nBicliqueBehind = some (⟨false, false, true⟩, qBicliqueBehind) := gBicliqueBehind
theorem iBicliqueBehind : cfgS.inp nBicliqueBehind = none := rfl
theorem sMathBitsTrailingZeros64 : cfgS.fn nMathBitsTrailingZeros64 = some (⟨false, false, true⟩, qMathBitsTrailingZeros64) := gMathBitsTrailingZeros64
theorem iMathBitsTrailingZeros64 : cfgS.inp nMathBitsTrailingZeros64 = none := rfl
theorem sSlicesCloneIntInt : cfgS.fn nSlicesCloneIntInt = some (⟨false, true, true⟩, qSlicesCloneIntInt) := gSlicesCloneIntInt
theorem iSlicesCloneIntInt : cfgS.inp nSlicesCloneIntInt = none := rfl
theorem sBicliqueSidesCommon : cfgS.fn nBicliqueSidesCommon = some (⟨false, false, true⟩, qBicliqueSidesCommon) := gBicliqueSidesCommon
theorem iBicliqueSidesCommon : cfgS.inp nBicliqueSidesCommon = none := rfl
theorem sRef03Before : cfgS.fn nRef03Before = some (⟨false, false, true⟩, qRef03Before) := gRef03Before
theorem iRef03Before : cfgS.inp nRef03Before = none := rfl
theorem sGraphOrder : cfgS.fn nGraphOrder = some (⟨false, false, true⟩, qGraphOrder) := gGraphOrder
theorem iGraphOrder : cfgS.inp nGraphOrder = none := rfl
theorem sSlicesIndexFuncApiEdgeApiEdge : cfgS.fn nSlicesIndexFuncApiEdgeApiEdge = some (⟨true, false, false⟩, qSlicesIndexFuncApiEdgeApiEdge) := gSlicesIndexFuncApiEdgeApiEdge
theorem iSlicesIndexFuncApiEdgeApiEdge : cfgS.inp nSlicesIndexFuncApiEdgeApiEdge = none := rfl
theorem sCmpOrInt : cfgS.fn nCmpOrInt = some (⟨false, false, true⟩, qCmpOrInt) := gCmpOrInt
theorem iCmpOrInt : cfgS.inp nCmpOrInt = none := rfl
theorem sCmpCompareInt : cfgS.fn nCmpCompareInt = some (⟨false, false, true⟩, qCmpCompareInt) := gCmpCompareInt
theorem iCmpCompareInt : cfgS.inp nCmpCompareInt = none := rfl
theorem sCmpIsNaNInt : cfgS.fn nCmpIsNaNInt = some (⟨false, false, true⟩, qCmpIsNaNInt) := gCmpIsNaNInt
theorem iCmpIsNaNInt : cfgS.inp nCmpIsNaNInt = none := rfl
theorem cfgSInp : InpOK Go.Proofs.Tryd.prog cfgS := fun f g h => by cases h
end Go.BmP
