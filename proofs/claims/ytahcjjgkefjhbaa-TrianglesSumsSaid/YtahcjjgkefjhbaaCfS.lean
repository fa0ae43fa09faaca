/- The configuration with the library's functions that write into the slice they are given, and what it says of each function. -/
import Derived.Test.YtahcjjgkefjhbaaBmP
import Derived.Test.YtahcjjgkefjhbaaRunL
import Derived.Test.YtahcjjgkefjhbaaSetP
set_option maxRecDepth 100000
namespace Go.BmP
open Go.Am Go.Bm
def inpS (f : Nat) : Option (Nat → List AV → List AV → Option (List AV × Option Nat)) := if f = nSlicesSortIntInt then some srtG else none
def orcF (_ : Nat) : Option (List AV → Heap → Option (AV × Heap)) := none
def cfgS : Go.Bm.Cfg := { cfg with inp := inpS, orc := orcF }
theorem cfgSOK : CfgOKB Go.Proofs.Try.prog cfgS := ⟨cfgOK.mixed, cfgOK.fn⟩
theorem sLaw29TrianglesSums : cfgS.fn nLaw29TrianglesSums = some (⟨false, false, true⟩, qLaw29TrianglesSums) := gLaw29TrianglesSums
theorem iLaw29TrianglesSums : cfgS.inp nLaw29TrianglesSums = none := show inpS nLaw29TrianglesSums = none from by unfold inpS; rw [if_neg (show ¬ nLaw29TrianglesSums = nSlicesSortIntInt by decide)]
theorem oLaw29TrianglesSums : cfgS.orc nLaw29TrianglesSums = none := rfl
theorem sMakeFew : cfgS.fn nMakeFew = some (⟨false, false, true⟩, qMakeFew) := gMakeFew
theorem iMakeFew : cfgS.inp nMakeFew = none := show inpS nMakeFew = none from by unfold inpS; rw [if_neg (show ¬ nMakeFew = nSlicesSortIntInt by decide)]
theorem oMakeFew : cfgS.orc nMakeFew = none := rfl
theorem sLaw29Awake : cfgS.fn nLaw29Awake = some (⟨false, false, true⟩, qLaw29Awake) := gLaw29Awake
theorem iLaw29Awake : cfgS.inp nLaw29Awake = none := show inpS nLaw29Awake = none from by unfold inpS; rw [if_neg (show ¬ nLaw29Awake = nSlicesSortIntInt by decide)]
theorem oLaw29Awake : cfgS.orc nLaw29Awake = none := rfl
theorem sMakeGraph : cfgS.fn nMakeGraph = some (⟨true, false, false⟩, qMakeGraph) := gMakeGraph
theorem iMakeGraph : cfgS.inp nMakeGraph = none := show inpS nMakeGraph = none from by unfold inpS; rw [if_neg (show ¬ nMakeGraph = nSlicesSortIntInt by decide)]
theorem oMakeGraph : cfgS.orc nMakeGraph = none := rfl
theorem sMakeNew : cfgS.fn nMakeNew = some (⟨true, false, false⟩, qMakeNew) := gMakeNew
theorem iMakeNew : cfgS.inp nMakeNew = none := show inpS nMakeNew = none from by unfold inpS; rw [if_neg (show ¬ nMakeNew = nSlicesSortIntInt by decide)]
theorem oMakeNew : cfgS.orc nMakeNew = none := rfl
theorem sRef03Degree : cfgS.fn nRef03Degree = some (⟨false, false, true⟩, qRef03Degree) := gRef03Degree
theorem iRef03Degree : cfgS.inp nRef03Degree = none := show inpS nRef03Degree = none from by unfold inpS; rw [if_neg (show ¬ nRef03Degree = nSlicesSortIntInt by decide)]
theorem oRef03Degree : cfgS.orc nRef03Degree = none := rfl
theorem sTrianglesCount : cfgS.fn nTrianglesCount = some (⟨false, false, true⟩, qTrianglesCount) := gTrianglesCount
theorem iTrianglesCount : cfgS.inp nTrianglesCount = none := show inpS nTrianglesCount = none from by unfold inpS; rw [if_neg (show ¬ nTrianglesCount = nSlicesSortIntInt by decide)]
theorem oTrianglesCount : cfgS.orc nTrianglesCount = none := rfl
theorem sTrianglesNodes : cfgS.fn nTrianglesNodes = some (⟨false, false, false⟩, qTrianglesNodes) := gTrianglesNodes
theorem iTrianglesNodes : cfgS.inp nTrianglesNodes = none := show inpS nTrianglesNodes = none from by unfold inpS; rw [if_neg (show ¬ nTrianglesNodes = nSlicesSortIntInt by decide)]
theorem oTrianglesNodes : cfgS.orc nTrianglesNodes = none := rfl
theorem sTrianglesWhole : cfgS.fn nTrianglesWhole = some (⟨false, false, false⟩, qTrianglesWhole) := gTrianglesWhole
theorem iTrianglesWhole : cfgS.inp nTrianglesWhole = none := show inpS nTrianglesWhole = none from by unfold inpS; rw [if_neg (show ¬ nTrianglesWhole = nSlicesSortIntInt by decide)]
theorem oTrianglesWhole : cfgS.orc nTrianglesWhole = none := rfl
theorem sTrianglesLocal : cfgS.fn nTrianglesLocal = some (⟨false, false, false⟩, qTrianglesLocal) := gTrianglesLocal
theorem iTrianglesLocal : cfgS.inp nTrianglesLocal = none := show inpS nTrianglesLocal = none from by unfold inpS; rw [if_neg (show ¬ nTrianglesLocal = nSlicesSortIntInt by decide)]
theorem oTrianglesLocal : cfgS.orc nTrianglesLocal = none := rfl
theorem sRef01Of : cfgS.fn nRef01Of = some (⟨false, false, false⟩, qRef01Of) := gRef01Of
theorem iRef01Of : cfgS.inp nRef01Of = none := show inpS nRef01Of = none from by unfold inpS; rw [if_neg (show ¬ nRef01Of = nSlicesSortIntInt by decide)]
theorem oRef01Of : cfgS.orc nRef01Of = none := rfl
theorem sMakeDeckNext : cfgS.fn nMakeDeckNext = some (⟨true, false, false⟩, qMakeDeckNext) := gMakeDeckNext
theorem iMakeDeckNext : cfgS.inp nMakeDeckNext = none := show inpS nMakeDeckNext = none from by unfold inpS; rw [if_neg (show ¬ nMakeDeckNext = nSlicesSortIntInt by decide)]
theorem oMakeDeckNext : cfgS.orc nMakeDeckNext = none := rfl
theorem sRef03Of : cfgS.fn nRef03Of = some (⟨false, false, false⟩, qRef03Of) := gRef03Of
theorem iRef03Of : cfgS.inp nRef03Of = none := show inpS nRef03Of = none from by unfold inpS; rw [if_neg (show ¬ nRef03Of = nSlicesSortIntInt by decide)]
theorem oRef03Of : cfgS.orc nRef03Of = none := rfl
theorem sRef03Check : cfgS.fn nRef03Check = some (⟨false, false, true⟩, qRef03Check) := gRef03Check
theorem iRef03Check : cfgS.inp nRef03Check = none := show inpS nRef03Check = none from by unfold inpS; rw [if_neg (show ¬ nRef03Check = nSlicesSortIntInt by decide)]
theorem oRef03Check : cfgS.orc nRef03Check = none := rfl
theorem sRef03Edge : cfgS.fn nRef03Edge = some (⟨false, false, false⟩, qRef03Edge) := gRef03Edge
theorem iRef03Edge : cfgS.inp nRef03Edge = none := show inpS nRef03Edge = none from by unfold inpS; rw [if_neg (show ¬ nRef03Edge = nSlicesSortIntInt by decide)]
theorem oRef03Edge : cfgS.orc nRef03Edge = none := rfl
theorem sRef03Neighbours : cfgS.fn nRef03Neighbours = some (⟨false, false, false⟩, qRef03Neighbours) := gRef03Neighbours
theorem iRef03Neighbours : cfgS.inp nRef03Neighbours = none := show inpS nRef03Neighbours = none from by unfold inpS; rw [if_neg (show ¬ nRef03Neighbours = nSlicesSortIntInt by decide)]
theorem oRef03Neighbours : cfgS.orc nRef03Neighbours = none := rfl
theorem sGraphCheck : cfgS.fn nGraphCheck = some (⟨false, false, true⟩, qGraphCheck) := gGraphCheck
theorem iGraphCheck : cfgS.inp nGraphCheck = none := show inpS nGraphCheck = none from by unfold inpS; rw [if_neg (show ¬ nGraphCheck = nSlicesSortIntInt by decide)]
theorem oGraphCheck : cfgS.orc nGraphCheck = none := rfl
theorem sTrianglesCounts : cfgS.fn nTrianglesCounts = some (⟨false, false, false⟩, qTrianglesCounts) := gTrianglesCounts
theorem iTrianglesCounts : cfgS.inp nTrianglesCounts = none := show inpS nTrianglesCounts = none from by unfold inpS; rw [if_neg (show ¬ nTrianglesCounts = nSlicesSortIntInt by decide)]
theorem oTrianglesCounts : cfgS.orc nTrianglesCounts = none := rfl
theorem sTrianglesLists : cfgS.fn nTrianglesLists = some (⟨false, false, false⟩, qTrianglesLists) := gTrianglesLists
theorem iTrianglesLists : cfgS.inp nTrianglesLists = none := show inpS nTrianglesLists = none from by unfold inpS; rw [if_neg (show ¬ nTrianglesLists = nSlicesSortIntInt by decide)]
theorem oTrianglesLists : cfgS.orc nTrianglesLists = none := rfl
theorem sTrianglesPairs : cfgS.fn nTrianglesPairs = some (⟨false, false, true⟩, qTrianglesPairs) := gTrianglesPairs
theorem iTrianglesPairs : cfgS.inp nTrianglesPairs = none := show inpS nTrianglesPairs = none from by unfold inpS; rw [if_neg (show ¬ nTrianglesPairs = nSlicesSortIntInt by decide)]
theorem oTrianglesPairs : cfgS.orc nTrianglesPairs = none := rfl
theorem sTrianglesShare : cfgS.fn nTrianglesShare = some (⟨false, false, false⟩, qTrianglesShare) := gTrianglesShare
theorem iTrianglesShare : cfgS.inp nTrianglesShare = none := show inpS nTrianglesShare = none from by unfold inpS; rw [if_neg (show ¬ nTrianglesShare = nSlicesSortIntInt by decide)]
theorem oTrianglesShare : cfgS.orc nTrianglesShare = none := rfl
theorem sGraphDegree : cfgS.fn nGraphDegree = some (⟨false, false, true⟩, qGraphDegree) := gGraphDegree
theorem iGraphDegree : cfgS.inp nGraphDegree = none := show inpS nGraphDegree = none from by unfold inpS; rw [if_neg (show ¬ nGraphDegree = nSlicesSortIntInt by decide)]
theorem oGraphDegree : cfgS.orc nGraphDegree = none := rfl
theorem sRef01Make : cfgS.fn nRef01Make = some (⟨false, false, false⟩, qRef01Make) := gRef01Make
theorem iRef01Make : cfgS.inp nRef01Make = none := show inpS nRef01Make = none from by unfold inpS; rw [if_neg (show ¬ nRef01Make = nSlicesSortIntInt by decide)]
theorem oRef01Make : cfgS.orc nRef01Make = none := rfl
theorem sMakeMod : cfgS.fn nMakeMod = some (⟨false, false, true⟩, qMakeMod) := gMakeMod
theorem iMakeMod : cfgS.inp nMakeMod = none := show inpS nMakeMod = none from by unfold inpS; rw [if_neg (show ¬ nMakeMod = nSlicesSortIntInt by decide)]
theorem oMakeMod : cfgS.orc nMakeMod = none := rfl
theorem sRef03Ends : cfgS.fn nRef03Ends = some (⟨false, false, true⟩, qRef03Ends) := gRef03Ends
theorem iRef03Ends : cfgS.inp nRef03Ends = none := show inpS nRef03Ends = none from by unfold inpS; rw [if_neg (show ¬ nRef03Ends = nSlicesSortIntInt by decide)]
theorem oRef03Ends : cfgS.orc nRef03Ends = none := rfl
theorem sRef03With : cfgS.fn nRef03With = some (⟨false, false, false⟩, qRef03With) := gRef03With
theorem iRef03With : cfgS.inp nRef03With = none := show inpS nRef03With = none from by unfold inpS; rw [if_neg (show ¬ nRef03With = nSlicesSortIntInt by decide)]
theorem oRef03With : cfgS.orc nRef03With = none := rfl
theorem sRef03Before : cfgS.fn nRef03Before = some (⟨false, false, true⟩, qRef03Before) := gRef03Before
theorem iRef03Before : cfgS.inp nRef03Before = none := show inpS nRef03Before = none from by unfold inpS; rw [if_neg (show ¬ nRef03Before = nSlicesSortIntInt by decide)]
theorem oRef03Before : cfgS.orc nRef03Before = none := rfl
theorem sRef02Of : cfgS.fn nRef02Of = some (⟨false, false, false⟩, qRef02Of) := gRef02Of
theorem iRef02Of : cfgS.inp nRef02Of = none := show inpS nRef02Of = none from by unfold inpS; rw [if_neg (show ¬ nRef02Of = nSlicesSortIntInt by decide)]
theorem oRef02Of : cfgS.orc nRef02Of = none := rfl
theorem sGraphOrder : cfgS.fn nGraphOrder = some (⟨false, false, true⟩, qGraphOrder) := gGraphOrder
theorem iGraphOrder : cfgS.inp nGraphOrder = none := show inpS nGraphOrder = none from by unfold inpS; rw [if_neg (show ¬ nGraphOrder = nSlicesSortIntInt by decide)]
theorem oGraphOrder : cfgS.orc nGraphOrder = none := rfl
theorem sTrianglesSharedInt : cfgS.fn nTrianglesSharedInt = some (⟨false, false, false⟩, qTrianglesSharedInt) := gTrianglesSharedInt
theorem iTrianglesSharedInt : cfgS.inp nTrianglesSharedInt = none := show inpS nTrianglesSharedInt = none from by unfold inpS; rw [if_neg (show ¬ nTrianglesSharedInt = nSlicesSortIntInt by decide)]
theorem oTrianglesSharedInt : cfgS.orc nTrianglesSharedInt = none := rfl
theorem sSlicesSortIntInt : cfgS.fn nSlicesSortIntInt = some (⟨false, false, true⟩, qSlicesSortIntInt) := gSlicesSortIntInt
theorem iSlicesSortIntInt : cfgS.inp nSlicesSortIntInt = some srtG := show inpS nSlicesSortIntInt = some srtG from by unfold inpS; rw [if_pos rfl]
theorem oSlicesSortIntInt : cfgS.orc nSlicesSortIntInt = none := rfl
theorem sRatioMake : cfgS.fn nRatioMake = some (⟨false, false, false⟩, qRatioMake) := gRatioMake
theorem iRatioMake : cfgS.inp nRatioMake = none := show inpS nRatioMake = none from by unfold inpS; rw [if_neg (show ¬ nRatioMake = nSlicesSortIntInt by decide)]
theorem oRatioMake : cfgS.orc nRatioMake = none := rfl
theorem sMasksCount : cfgS.fn nMasksCount = some (⟨false, false, true⟩, qMasksCount) := gMasksCount
theorem iMasksCount : cfgS.inp nMasksCount = none := show inpS nMasksCount = none from by unfold inpS; rw [if_neg (show ¬ nMasksCount = nSlicesSortIntInt by decide)]
theorem oMasksCount : cfgS.orc nMasksCount = none := rfl
theorem sGraphRow : cfgS.fn nGraphRow = some (⟨false, false, true⟩, qGraphRow) := gGraphRow
theorem iGraphRow : cfgS.inp nGraphRow = none := show inpS nGraphRow = none from by unfold inpS; rw [if_neg (show ¬ nGraphRow = nSlicesSortIntInt by decide)]
theorem oGraphRow : cfgS.orc nGraphRow = none := rfl
theorem sRef01Reduce : cfgS.fn nRef01Reduce = some (⟨false, false, false⟩, qRef01Reduce) := gRef01Reduce
theorem iRef01Reduce : cfgS.inp nRef01Reduce = none := show inpS nRef01Reduce = none from by unfold inpS; rw [if_neg (show ¬ nRef01Reduce = nSlicesSortIntInt by decide)]
theorem oRef01Reduce : cfgS.orc nRef01Reduce = none := rfl
theorem sRef01Size : cfgS.fn nRef01Size = some (⟨false, false, true⟩, qRef01Size) := gRef01Size
theorem iRef01Size : cfgS.inp nRef01Size = none := show inpS nRef01Size = none from by unfold inpS; rw [if_neg (show ¬ nRef01Size = nSlicesSortIntInt by decide)]
theorem oRef01Size : cfgS.orc nRef01Size = none := rfl
theorem sRef02Put : cfgS.fn nRef02Put = some (⟨false, false, false⟩, qRef02Put) := gRef02Put
theorem iRef02Put : cfgS.inp nRef02Put = none := show inpS nRef02Put = none from by unfold inpS; rw [if_neg (show ¬ nRef02Put = nSlicesSortIntInt by decide)]
theorem oRef02Put : cfgS.orc nRef02Put = none := rfl
theorem sCmpOrInt : cfgS.fn nCmpOrInt = some (⟨false, false, true⟩, qCmpOrInt) := gCmpOrInt
theorem iCmpOrInt : cfgS.inp nCmpOrInt = none := show inpS nCmpOrInt = none from by unfold inpS; rw [if_neg (show ¬ nCmpOrInt = nSlicesSortIntInt by decide)]
theorem oCmpOrInt : cfgS.orc nCmpOrInt = none := rfl
theorem sCmpCompareInt : cfgS.fn nCmpCompareInt = some (⟨false, false, true⟩, qCmpCompareInt) := gCmpCompareInt
theorem iCmpCompareInt : cfgS.inp nCmpCompareInt = none := show inpS nCmpCompareInt = none from by unfold inpS; rw [if_neg (show ¬ nCmpCompareInt = nSlicesSortIntInt by decide)]
theorem oCmpCompareInt : cfgS.orc nCmpCompareInt = none := rfl
theorem sRatioWithin : cfgS.fn nRatioWithin = some (⟨false, false, true⟩, qRatioWithin) := gRatioWithin
theorem iRatioWithin : cfgS.inp nRatioWithin = none := show inpS nRatioWithin = none from by unfold inpS; rw [if_neg (show ¬ nRatioWithin = nSlicesSortIntInt by decide)]
theorem oRatioWithin : cfgS.orc nRatioWithin = none := rfl
theorem sRatioLowest : cfgS.fn nRatioLowest = some (⟨false, false, false⟩, qRatioLowest) := gRatioLowest
theorem iRatioLowest : cfgS.inp nRatioLowest = none := show inpS nRatioLowest = none from by unfold inpS; rw [if_neg (show ¬ nRatioLowest = nSlicesSortIntInt by decide)]
theorem oRatioLowest : cfgS.orc nRatioLowest = none := rfl
theorem sRatioExact : cfgS.fn nRatioExact = some (⟨false, false, false⟩, qRatioExact) := gRatioExact
theorem iRatioExact : cfgS.inp nRatioExact = none := show inpS nRatioExact = none from by unfold inpS; rw [if_neg (show ¬ nRatioExact = nSlicesSortIntInt by decide)]
theorem oRatioExact : cfgS.orc nRatioExact = none := rfl
theorem sWideOf : cfgS.fn nWideOf = some (⟨false, false, false⟩, qWideOf) := gWideOf
theorem iWideOf : cfgS.inp nWideOf = none := show inpS nWideOf = none from by unfold inpS; rw [if_neg (show ¬ nWideOf = nSlicesSortIntInt by decide)]
theorem oWideOf : cfgS.orc nWideOf = none := rfl
theorem sMathBitsOnesCount64 : cfgS.fn nMathBitsOnesCount64 = some (⟨false, false, true⟩, qMathBitsOnesCount64) := gMathBitsOnesCount64
theorem iMathBitsOnesCount64 : cfgS.inp nMathBitsOnesCount64 = none := show inpS nMathBitsOnesCount64 = none from by unfold inpS; rw [if_neg (show ¬ nMathBitsOnesCount64 = nSlicesSortIntInt by decide)]
theorem oMathBitsOnesCount64 : cfgS.orc nMathBitsOnesCount64 = none := rfl
theorem sMasksRows : cfgS.fn nMasksRows = some (⟨false, false, false⟩, qMasksRows) := gMasksRows
theorem iMasksRows : cfgS.inp nMasksRows = none := show inpS nMasksRows = none from by unfold inpS; rw [if_neg (show ¬ nMasksRows = nSlicesSortIntInt by decide)]
theorem oMasksRows : cfgS.orc nMasksRows = none := rfl
theorem sRef01Gcd : cfgS.fn nRef01Gcd = some (⟨false, false, false⟩, qRef01Gcd) := gRef01Gcd
theorem iRef01Gcd : cfgS.inp nRef01Gcd = none := show inpS nRef01Gcd = none from by unfold inpS; rw [if_neg (show ¬ nRef01Gcd = nSlicesSortIntInt by decide)]
theorem oRef01Gcd : cfgS.orc nRef01Gcd = none := rfl
theorem sRef01Divide : cfgS.fn nRef01Divide = some (⟨false, false, false⟩, qRef01Divide) := gRef01Divide
theorem iRef01Divide : cfgS.inp nRef01Divide = none := show inpS nRef01Divide = none from by unfold inpS; rw [if_neg (show ¬ nRef01Divide = nSlicesSortIntInt by decide)]
theorem oRef01Divide : cfgS.orc nRef01Divide = none := rfl
theorem sCmpIsNaNInt : cfgS.fn nCmpIsNaNInt = some (⟨false, false, true⟩, qCmpIsNaNInt) := gCmpIsNaNInt
theorem iCmpIsNaNInt : cfgS.inp nCmpIsNaNInt = none := show inpS nCmpIsNaNInt = none from by unfold inpS; rw [if_neg (show ¬ nCmpIsNaNInt = nSlicesSortIntInt by decide)]
theorem oCmpIsNaNInt : cfgS.orc nCmpIsNaNInt = none := rfl
theorem sRatioCommon : cfgS.fn nRatioCommon = some (⟨false, false, true⟩, qRatioCommon) := gRatioCommon
theorem iRatioCommon : cfgS.inp nRatioCommon = none := show inpS nRatioCommon = none from by unfold inpS; rw [if_neg (show ¬ nRatioCommon = nSlicesSortIntInt by decide)]
theorem oRatioCommon : cfgS.orc nRatioCommon = none := rfl
theorem sRatioChecked : cfgS.fn nRatioChecked = some (⟨false, false, false⟩, qRatioChecked) := gRatioChecked
theorem iRatioChecked : cfgS.inp nRatioChecked = none := show inpS nRatioChecked = none from by unfold inpS; rw [if_neg (show ¬ nRatioChecked = nSlicesSortIntInt by decide)]
theorem oRatioChecked : cfgS.orc nRatioChecked = none := rfl
theorem sWideCommon : cfgS.fn nWideCommon = some (⟨false, false, false⟩, qWideCommon) := gWideCommon
theorem iWideCommon : cfgS.inp nWideCommon = none := show inpS nWideCommon = none from by unfold inpS; rw [if_neg (show ¬ nWideCommon = nSlicesSortIntInt by decide)]
theorem oWideCommon : cfgS.orc nWideCommon = none := rfl
theorem sWideNumberOver : cfgS.fn nWideNumberOver = some (⟨false, false, true⟩, qWideNumberOver) := gWideNumberOver
theorem iWideNumberOver : cfgS.inp nWideNumberOver = none := show inpS nWideNumberOver = none from by unfold inpS; rw [if_neg (show ¬ nWideNumberOver = nSlicesSortIntInt by decide)]
theorem oWideNumberOver : cfgS.orc nWideNumberOver = none := rfl
theorem sWideNumberNegative : cfgS.fn nWideNumberNegative = some (⟨false, false, true⟩, qWideNumberNegative) := gWideNumberNegative
theorem iWideNumberNegative : cfgS.inp nWideNumberNegative = none := show inpS nWideNumberNegative = none from by unfold inpS; rw [if_neg (show ¬ nWideNumberNegative = nSlicesSortIntInt by decide)]
theorem oWideNumberNegative : cfgS.orc nWideNumberNegative = none := rfl
theorem sWideSize : cfgS.fn nWideSize = some (⟨false, false, true⟩, qWideSize) := gWideSize
theorem iWideSize : cfgS.inp nWideSize = none := show inpS nWideSize = none from by unfold inpS; rw [if_neg (show ¬ nWideSize = nSlicesSortIntInt by decide)]
theorem oWideSize : cfgS.orc nWideSize = none := rfl
theorem sRef01Double : cfgS.fn nRef01Double = some (⟨false, false, false⟩, qRef01Double) := gRef01Double
theorem iRef01Double : cfgS.inp nRef01Double = none := show inpS nRef01Double = none from by unfold inpS; rw [if_neg (show ¬ nRef01Double = nSlicesSortIntInt by decide)]
theorem oRef01Double : cfgS.orc nRef01Double = none := rfl
theorem sRef01Less : cfgS.fn nRef01Less = some (⟨false, false, true⟩, qRef01Less) := gRef01Less
theorem iRef01Less : cfgS.inp nRef01Less = none := show inpS nRef01Less = none from by unfold inpS; rw [if_neg (show ¬ nRef01Less = nSlicesSortIntInt by decide)]
theorem oRef01Less : cfgS.orc nRef01Less = none := rfl
theorem sRef01Sub : cfgS.fn nRef01Sub = some (⟨false, false, false⟩, qRef01Sub) := gRef01Sub
theorem iRef01Sub : cfgS.inp nRef01Sub = none := show inpS nRef01Sub = none from by unfold inpS; rw [if_neg (show ¬ nRef01Sub = nSlicesSortIntInt by decide)]
theorem oRef01Sub : cfgS.orc nRef01Sub = none := rfl
theorem sWideNumberZero : cfgS.fn nWideNumberZero = some (⟨false, false, true⟩, qWideNumberZero) := gWideNumberZero
theorem iWideNumberZero : cfgS.inp nWideNumberZero = none := show inpS nWideNumberZero = none from by unfold inpS; rw [if_neg (show ¬ nWideNumberZero = nSlicesSortIntInt by decide)]
theorem oWideNumberZero : cfgS.orc nWideNumberZero = none := rfl
theorem sWideNumberEven : cfgS.fn nWideNumberEven = some (⟨false, false, true⟩, qWideNumberEven) := gWideNumberEven
theorem iWideNumberEven : cfgS.inp nWideNumberEven = none := show inpS nWideNumberEven = none from by unfold inpS; rw [if_neg (show ¬ nWideNumberEven = nSlicesSortIntInt by decide)]
theorem oWideNumberEven : cfgS.orc nWideNumberEven = none := rfl
theorem sWideNumberHalf : cfgS.fn nWideNumberHalf = some (⟨false, false, false⟩, qWideNumberHalf) := gWideNumberHalf
theorem iWideNumberHalf : cfgS.inp nWideNumberHalf = none := show inpS nWideNumberHalf = none from by unfold inpS; rw [if_neg (show ¬ nWideNumberHalf = nSlicesSortIntInt by decide)]
theorem oWideNumberHalf : cfgS.orc nWideNumberHalf = none := rfl
theorem sWideNumberBelow : cfgS.fn nWideNumberBelow = some (⟨false, false, true⟩, qWideNumberBelow) := gWideNumberBelow
theorem iWideNumberBelow : cfgS.inp nWideNumberBelow = none := show inpS nWideNumberBelow = none from by unfold inpS; rw [if_neg (show ¬ nWideNumberBelow = nSlicesSortIntInt by decide)]
theorem oWideNumberBelow : cfgS.orc nWideNumberBelow = none := rfl
theorem sWideNumberLess : cfgS.fn nWideNumberLess = some (⟨false, false, false⟩, qWideNumberLess) := gWideNumberLess
theorem iWideNumberLess : cfgS.inp nWideNumberLess = none := show inpS nWideNumberLess = none from by unfold inpS; rw [if_neg (show ¬ nWideNumberLess = nSlicesSortIntInt by decide)]
theorem oWideNumberLess : cfgS.orc nWideNumberLess = none := rfl
theorem sWideNumberTwice : cfgS.fn nWideNumberTwice = some (⟨false, false, false⟩, qWideNumberTwice) := gWideNumberTwice
theorem iWideNumberTwice : cfgS.inp nWideNumberTwice = none := show inpS nWideNumberTwice = none from by unfold inpS; rw [if_neg (show ¬ nWideNumberTwice = nSlicesSortIntInt by decide)]
theorem oWideNumberTwice : cfgS.orc nWideNumberTwice = none := rfl
end Go.BmP
