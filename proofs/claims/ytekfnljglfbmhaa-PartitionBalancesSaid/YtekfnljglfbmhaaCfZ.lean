/- The configuration with the library's functions that write into the slice they are given, and what it says of each function. -/
import Derived.Test.YtekfnljglfbmhaaBmP
import Derived.Test.YtekfnljglfbmhaaRunL
import Derived.Test.YtekfnljglfbmhaaSetP
set_option maxRecDepth 100000
namespace Go.BmZ
open Go.Am Go.Bm Go.BmP
def inpS (_ : Nat) : Option (Nat → List AV → List AV → Option (List AV × Option Nat)) := none
def orcF (_ : Nat) : Option (List AV → Heap → Option (AV × Heap)) := none
def cfgS : Go.Bm.Cfg := { cfg with inp := inpS, orc := orcF }
theorem cfgSOK : CfgOKB Go.Proofs.Try.prog cfgS := ⟨cfgOK.mixed, cfgOK.fn⟩
theorem sLaw37PartitionBalances : cfgS.fn nLaw37PartitionBalances = some (⟨false, false, true⟩, qLaw37PartitionBalances) := gLaw37PartitionBalances
theorem iLaw37PartitionBalances : cfgS.inp nLaw37PartitionBalances = none := rfl
theorem oLaw37PartitionBalances : cfgS.orc nLaw37PartitionBalances = none := rfl
theorem sMakeFew : cfgS.fn nMakeFew = some (⟨false, false, true⟩, qMakeFew) := gMakeFew
theorem iMakeFew : cfgS.inp nMakeFew = none := rfl
theorem oMakeFew : cfgS.orc nMakeFew = none := rfl
theorem sLaw37Awake : cfgS.fn nLaw37Awake = some (⟨false, false, true⟩, qLaw37Awake) := gLaw37Awake
theorem iLaw37Awake : cfgS.inp nLaw37Awake = none := rfl
theorem oLaw37Awake : cfgS.orc nLaw37Awake = none := rfl
theorem sMakeGraph : cfgS.fn nMakeGraph = some (⟨true, false, false⟩, qMakeGraph) := gMakeGraph
theorem iMakeGraph : cfgS.inp nMakeGraph = none := rfl
theorem oMakeGraph : cfgS.orc nMakeGraph = none := rfl
theorem sMakeNew : cfgS.fn nMakeNew = some (⟨true, false, false⟩, qMakeNew) := gMakeNew
theorem iMakeNew : cfgS.inp nMakeNew = none := rfl
theorem oMakeNew : cfgS.orc nMakeNew = none := rfl
theorem sPartitionMake : cfgS.fn nPartitionMake = some (⟨false, false, false⟩, qPartitionMake) := gPartitionMake
theorem iPartitionMake : cfgS.inp nPartitionMake = none := rfl
theorem oPartitionMake : cfgS.orc nPartitionMake = none := rfl
theorem sRef37Check : cfgS.fn nRef37Check = some (⟨false, false, true⟩, qRef37Check) := gRef37Check
theorem iRef37Check : cfgS.inp nRef37Check = none := rfl
theorem oRef37Check : cfgS.orc nRef37Check = none := rfl
theorem sPartitionCheck : cfgS.fn nPartitionCheck = some (⟨false, false, true⟩, qPartitionCheck) := gPartitionCheck
theorem iPartitionCheck : cfgS.inp nPartitionCheck = none := rfl
theorem oPartitionCheck : cfgS.orc nPartitionCheck = none := rfl
theorem sRef03Degree : cfgS.fn nRef03Degree = some (⟨false, false, true⟩, qRef03Degree) := gRef03Degree
theorem iRef03Degree : cfgS.inp nRef03Degree = none := rfl
theorem oRef03Degree : cfgS.orc nRef03Degree = none := rfl
theorem sRef02Has : cfgS.fn nRef02Has = some (⟨false, false, true⟩, qRef02Has) := gRef02Has
theorem iRef02Has : cfgS.inp nRef02Has = none := rfl
theorem oRef02Has : cfgS.orc nRef02Has = none := rfl
theorem sRef02Cmp : cfgS.fn nRef02Cmp = some (⟨false, false, true⟩, qRef02Cmp) := gRef02Cmp
theorem iRef02Cmp : cfgS.inp nRef02Cmp = none := rfl
theorem oRef02Cmp : cfgS.orc nRef02Cmp = none := rfl
theorem sRef02Of : cfgS.fn nRef02Of = some (⟨false, false, false⟩, qRef02Of) := gRef02Of
theorem iRef02Of : cfgS.inp nRef02Of = none := rfl
theorem oRef02Of : cfgS.orc nRef02Of = none := rfl
theorem sMakeDeckNext : cfgS.fn nMakeDeckNext = some (⟨true, false, false⟩, qMakeDeckNext) := gMakeDeckNext
theorem iMakeDeckNext : cfgS.inp nMakeDeckNext = none := rfl
theorem oMakeDeckNext : cfgS.orc nMakeDeckNext = none := rfl
theorem sPartitionHome : cfgS.fn nPartitionHome = some (⟨false, false, true⟩, qPartitionHome) := gPartitionHome
theorem iPartitionHome : cfgS.inp nPartitionHome = none := rfl
theorem oPartitionHome : cfgS.orc nPartitionHome = none := rfl
theorem sDegreeDegrees : cfgS.fn nDegreeDegrees = some (⟨false, false, false⟩, qDegreeDegrees) := gDegreeDegrees
theorem iDegreeDegrees : cfgS.inp nDegreeDegrees = none := rfl
theorem oDegreeDegrees : cfgS.orc nDegreeDegrees = none := rfl
theorem sPartitionWorkers : cfgS.fn nPartitionWorkers = some (⟨false, false, true⟩, qPartitionWorkers) := gPartitionWorkers
theorem iPartitionWorkers : cfgS.inp nPartitionWorkers = none := rfl
theorem oPartitionWorkers : cfgS.orc nPartitionWorkers = none := rfl
theorem sSlicesSortFuncPartitionPartPartitionPart : cfgS.fn nSlicesSortFuncPartitionPartPartitionPart = some (⟨false, false, true⟩, qSlicesSortFuncPartitionPartPartitionPart) := gSlicesSortFuncPartitionPartPartitionPart
theorem iSlicesSortFuncPartitionPartPartitionPart : cfgS.inp nSlicesSortFuncPartitionPartPartitionPart = none := rfl
theorem oSlicesSortFuncPartitionPartPartitionPart : cfgS.orc nSlicesSortFuncPartitionPartPartitionPart = none := rfl
theorem sPartitionMake1 : cfgS.fn nPartitionMake1 = some (⟨false, false, true⟩, qPartitionMake1) := gPartitionMake1
theorem iPartitionMake1 : cfgS.inp nPartitionMake1 = none := rfl
theorem oPartitionMake1 : cfgS.orc nPartitionMake1 = none := rfl
theorem sCmpOrInt : cfgS.fn nCmpOrInt = some (⟨false, false, true⟩, qCmpOrInt) := gCmpOrInt
theorem iCmpOrInt : cfgS.inp nCmpOrInt = none := rfl
theorem oCmpOrInt : cfgS.orc nCmpOrInt = none := rfl
theorem sCmpCompareInt : cfgS.fn nCmpCompareInt = some (⟨false, false, true⟩, qCmpCompareInt) := gCmpCompareInt
theorem iCmpCompareInt : cfgS.inp nCmpCompareInt = none := rfl
theorem oCmpCompareInt : cfgS.orc nCmpCompareInt = none := rfl
theorem sSlicesMinFuncPartitionPartPartitionPart : cfgS.fn nSlicesMinFuncPartitionPartPartitionPart = some (⟨false, false, true⟩, qSlicesMinFuncPartitionPartPartitionPart) := gSlicesMinFuncPartitionPartPartitionPart
theorem iSlicesMinFuncPartitionPartPartitionPart : cfgS.inp nSlicesMinFuncPartitionPartPartitionPart = none := rfl
theorem oSlicesMinFuncPartitionPartPartitionPart : cfgS.orc nSlicesMinFuncPartitionPartPartitionPart = none := rfl
theorem sPartitionMake2 : cfgS.fn nPartitionMake2 = some (⟨false, false, true⟩, qPartitionMake2) := gPartitionMake2
theorem iPartitionMake2 : cfgS.inp nPartitionMake2 = none := rfl
theorem oPartitionMake2 : cfgS.orc nPartitionMake2 = none := rfl
theorem sRef02Valid : cfgS.fn nRef02Valid = some (⟨false, false, true⟩, qRef02Valid) := gRef02Valid
theorem iRef02Valid : cfgS.inp nRef02Valid = none := rfl
theorem oRef02Valid : cfgS.orc nRef02Valid = none := rfl
theorem sNodesetValid : cfgS.fn nNodesetValid = some (⟨false, false, true⟩, qNodesetValid) := gNodesetValid
theorem iNodesetValid : cfgS.inp nNodesetValid = none := rfl
theorem oNodesetValid : cfgS.orc nNodesetValid = none := rfl
theorem sSlicesContainsFuncIntInt : cfgS.fn nSlicesContainsFuncIntInt = some (⟨true, false, false⟩, qSlicesContainsFuncIntInt) := gSlicesContainsFuncIntInt
theorem iSlicesContainsFuncIntInt : cfgS.inp nSlicesContainsFuncIntInt = none := rfl
theorem oSlicesContainsFuncIntInt : cfgS.orc nSlicesContainsFuncIntInt = none := rfl
theorem sPartitionCheck1 : cfgS.fn nPartitionCheck1 = some (⟨true, false, false⟩, qPartitionCheck1) := gPartitionCheck1
theorem iPartitionCheck1 : cfgS.inp nPartitionCheck1 = none := rfl
theorem oPartitionCheck1 : cfgS.orc nPartitionCheck1 = none := rfl
theorem sRef03Neighbours : cfgS.fn nRef03Neighbours = some (⟨false, false, false⟩, qRef03Neighbours) := gRef03Neighbours
theorem iRef03Neighbours : cfgS.inp nRef03Neighbours = none := rfl
theorem oRef03Neighbours : cfgS.orc nRef03Neighbours = none := rfl
theorem sPartitionHomeN40 : cfgS.fn nPartitionHomeN40 = some (⟨false, false, true⟩, qPartitionHomeN40) := gPartitionHomeN40
theorem iPartitionHomeN40 : cfgS.inp nPartitionHomeN40 = none := rfl
theorem oPartitionHomeN40 : cfgS.orc nPartitionHomeN40 = none := rfl
theorem sRef02Put : cfgS.fn nRef02Put = some (⟨false, false, false⟩, qRef02Put) := gRef02Put
theorem iRef02Put : cfgS.inp nRef02Put = none := rfl
theorem oRef02Put : cfgS.orc nRef02Put = none := rfl
theorem sMakeMod : cfgS.fn nMakeMod = some (⟨false, false, true⟩, qMakeMod) := gMakeMod
theorem iMakeMod : cfgS.inp nMakeMod = none := rfl
theorem oMakeMod : cfgS.orc nMakeMod = none := rfl
theorem sGraphCheck : cfgS.fn nGraphCheck = some (⟨false, false, true⟩, qGraphCheck) := gGraphCheck
theorem iGraphCheck : cfgS.inp nGraphCheck = none := rfl
theorem oGraphCheck : cfgS.orc nGraphCheck = none := rfl
theorem sMasksRows : cfgS.fn nMasksRows = some (⟨false, false, false⟩, qMasksRows) := gMasksRows
theorem iMasksRows : cfgS.inp nMasksRows = none := rfl
theorem oMasksRows : cfgS.orc nMasksRows = none := rfl
theorem sMasksCount : cfgS.fn nMasksCount = some (⟨false, false, true⟩, qMasksCount) := gMasksCount
theorem iMasksCount : cfgS.inp nMasksCount = none := rfl
theorem oMasksCount : cfgS.orc nMasksCount = none := rfl
theorem sCmpIsNaNInt : cfgS.fn nCmpIsNaNInt = some (⟨false, false, true⟩, qCmpIsNaNInt) := gCmpIsNaNInt
theorem iCmpIsNaNInt : cfgS.inp nCmpIsNaNInt = none := rfl
theorem oCmpIsNaNInt : cfgS.orc nCmpIsNaNInt = none := rfl
theorem sSlicesIndexFuncIntInt : cfgS.fn nSlicesIndexFuncIntInt = some (⟨true, false, false⟩, qSlicesIndexFuncIntInt) := gSlicesIndexFuncIntInt
theorem iSlicesIndexFuncIntInt : cfgS.inp nSlicesIndexFuncIntInt = none := rfl
theorem oSlicesIndexFuncIntInt : cfgS.orc nSlicesIndexFuncIntInt = none := rfl
theorem sRef03Check : cfgS.fn nRef03Check = some (⟨false, false, true⟩, qRef03Check) := gRef03Check
theorem iRef03Check : cfgS.inp nRef03Check = none := rfl
theorem oRef03Check : cfgS.orc nRef03Check = none := rfl
theorem sNodesetHas : cfgS.fn nNodesetHas = some (⟨false, false, true⟩, qNodesetHas) := gNodesetHas
theorem iNodesetHas : cfgS.inp nNodesetHas = none := rfl
theorem oNodesetHas : cfgS.orc nNodesetHas = none := rfl
theorem sGraphOrder : cfgS.fn nGraphOrder = some (⟨false, false, true⟩, qGraphOrder) := gGraphOrder
theorem iGraphOrder : cfgS.inp nGraphOrder = none := rfl
theorem oGraphOrder : cfgS.orc nGraphOrder = none := rfl
theorem sMathBitsOnesCount64 : cfgS.fn nMathBitsOnesCount64 = some (⟨false, false, true⟩, qMathBitsOnesCount64) := gMathBitsOnesCount64
theorem iMathBitsOnesCount64 : cfgS.inp nMathBitsOnesCount64 = none := rfl
theorem oMathBitsOnesCount64 : cfgS.orc nMathBitsOnesCount64 = none := rfl
theorem sRef03Before : cfgS.fn nRef03Before = some (⟨false, false, true⟩, qRef03Before) := gRef03Before
theorem iRef03Before : cfgS.inp nRef03Before = none := rfl
theorem oRef03Before : cfgS.orc nRef03Before = none := rfl
theorem sSlicesContainsIntInt : cfgS.fn nSlicesContainsIntInt = some (⟨false, false, true⟩, qSlicesContainsIntInt) := gSlicesContainsIntInt
theorem iSlicesContainsIntInt : cfgS.inp nSlicesContainsIntInt = none := rfl
theorem oSlicesContainsIntInt : cfgS.orc nSlicesContainsIntInt = none := rfl
theorem sSlicesIndexIntInt : cfgS.fn nSlicesIndexIntInt = some (⟨false, false, true⟩, qSlicesIndexIntInt) := gSlicesIndexIntInt
theorem iSlicesIndexIntInt : cfgS.inp nSlicesIndexIntInt = none := rfl
theorem oSlicesIndexIntInt : cfgS.orc nSlicesIndexIntInt = none := rfl
end Go.BmZ
