/- The configuration with the library's functions that write into the slice they are given, and what it says of each function. -/
import Derived.Test.YtdkdlkajcjbakaaBmP
import Derived.Test.YtdkdlkajcjbakaaRunL
import Derived.Test.YtdkdlkajcjbakaaSetP
set_option maxRecDepth 100000
namespace Go.BmP
open Go.Am Go.Bm
def inpS (f : Nat) : Option (Nat → List AV → List AV → Option (List AV × Option Nat)) := if f = nSlicesSortIntInt then some srtG else none
def orcF (_ : Nat) : Option (List AV → Heap → Option (AV × Heap)) := none
def cfgS : Go.Bm.Cfg := { cfg with inp := inpS, orc := orcF }
theorem cfgSOK : CfgOKB Go.Proofs.Try.prog cfgS := ⟨cfgOK.mixed, cfgOK.fn⟩
theorem sLaw33SampleColours : cfgS.fn nLaw33SampleColours = some (⟨false, false, true⟩, qLaw33SampleColours) := gLaw33SampleColours
theorem iLaw33SampleColours : cfgS.inp nLaw33SampleColours = none := show inpS nLaw33SampleColours = none from by unfold inpS; rw [if_neg (show ¬ nLaw33SampleColours = nSlicesSortIntInt by decide)]
theorem oLaw33SampleColours : cfgS.orc nLaw33SampleColours = none := rfl
theorem sLaw33SampleEdges : cfgS.fn nLaw33SampleEdges = some (⟨false, false, true⟩, qLaw33SampleEdges) := gLaw33SampleEdges
theorem iLaw33SampleEdges : cfgS.inp nLaw33SampleEdges = none := show inpS nLaw33SampleEdges = none from by unfold inpS; rw [if_neg (show ¬ nLaw33SampleEdges = nSlicesSortIntInt by decide)]
theorem oLaw33SampleEdges : cfgS.orc nLaw33SampleEdges = none := rfl
theorem sLaw33SampleParts : cfgS.fn nLaw33SampleParts = some (⟨false, false, true⟩, qLaw33SampleParts) := gLaw33SampleParts
theorem iLaw33SampleParts : cfgS.inp nLaw33SampleParts = none := show inpS nLaw33SampleParts = none from by unfold inpS; rw [if_neg (show ¬ nLaw33SampleParts = nSlicesSortIntInt by decide)]
theorem oLaw33SampleParts : cfgS.orc nLaw33SampleParts = none := rfl
theorem sMakeFew : cfgS.fn nMakeFew = some (⟨false, false, true⟩, qMakeFew) := gMakeFew
theorem iMakeFew : cfgS.inp nMakeFew = none := show inpS nMakeFew = none from by unfold inpS; rw [if_neg (show ¬ nMakeFew = nSlicesSortIntInt by decide)]
theorem oMakeFew : cfgS.orc nMakeFew = none := rfl
theorem sLaw33Awake : cfgS.fn nLaw33Awake = some (⟨false, false, true⟩, qLaw33Awake) := gLaw33Awake
theorem iLaw33Awake : cfgS.inp nLaw33Awake = none := show inpS nLaw33Awake = none from by unfold inpS; rw [if_neg (show ¬ nLaw33Awake = nSlicesSortIntInt by decide)]
theorem oLaw33Awake : cfgS.orc nLaw33Awake = none := rfl
theorem sMakeGraph : cfgS.fn nMakeGraph = some (⟨true, false, false⟩, qMakeGraph) := gMakeGraph
theorem iMakeGraph : cfgS.inp nMakeGraph = none := show inpS nMakeGraph = none from by unfold inpS; rw [if_neg (show ¬ nMakeGraph = nSlicesSortIntInt by decide)]
theorem oMakeGraph : cfgS.orc nMakeGraph = none := rfl
theorem sMakeNew : cfgS.fn nMakeNew = some (⟨true, false, false⟩, qMakeNew) := gMakeNew
theorem iMakeNew : cfgS.inp nMakeNew = none := show inpS nMakeNew = none from by unfold inpS; rw [if_neg (show ¬ nMakeNew = nSlicesSortIntInt by decide)]
theorem oMakeNew : cfgS.orc nMakeNew = none := rfl
theorem sSampleByColours : cfgS.fn nSampleByColours = some (⟨false, false, true⟩, qSampleByColours) := gSampleByColours
theorem iSampleByColours : cfgS.inp nSampleByColours = none := show inpS nSampleByColours = none from by unfold inpS; rw [if_neg (show ¬ nSampleByColours = nSlicesSortIntInt by decide)]
theorem oSampleByColours : cfgS.orc nSampleByColours = none := rfl
theorem sRef29Count : cfgS.fn nRef29Count = some (⟨false, false, true⟩, qRef29Count) := gRef29Count
theorem iRef29Count : cfgS.inp nRef29Count = none := show inpS nRef29Count = none from by unfold inpS; rw [if_neg (show ¬ nRef29Count = nSlicesSortIntInt by decide)]
theorem oRef29Count : cfgS.orc nRef29Count = none := rfl
theorem sSampleReservoir : cfgS.fn nSampleReservoir = some (⟨false, false, false⟩, qSampleReservoir) := gSampleReservoir
theorem iSampleReservoir : cfgS.inp nSampleReservoir = none := show inpS nSampleReservoir = none from by unfold inpS; rw [if_neg (show ¬ nSampleReservoir = nSlicesSortIntInt by decide)]
theorem oSampleReservoir : cfgS.orc nSampleReservoir = none := rfl
theorem sSampleByEdges : cfgS.fn nSampleByEdges = some (⟨false, false, true⟩, qSampleByEdges) := gSampleByEdges
theorem iSampleByEdges : cfgS.inp nSampleByEdges = none := show inpS nSampleByEdges = none from by unfold inpS; rw [if_neg (show ¬ nSampleByEdges = nSlicesSortIntInt by decide)]
theorem oSampleByEdges : cfgS.orc nSampleByEdges = none := rfl
theorem sFieldNumbers : cfgS.fn nFieldNumbers = some (⟨true, false, false⟩, qFieldNumbers) := gFieldNumbers
theorem iFieldNumbers : cfgS.inp nFieldNumbers = none := show inpS nFieldNumbers = none from by unfold inpS; rw [if_neg (show ¬ nFieldNumbers = nSlicesSortIntInt by decide)]
theorem oFieldNumbers : cfgS.orc nFieldNumbers = none := rfl
theorem sSampleMono : cfgS.fn nSampleMono = some (⟨false, false, false⟩, qSampleMono) := gSampleMono
theorem iSampleMono : cfgS.inp nSampleMono = none := show inpS nSampleMono = none from by unfold inpS; rw [if_neg (show ¬ nSampleMono = nSlicesSortIntInt by decide)]
theorem oSampleMono : cfgS.orc nSampleMono = none := rfl
theorem sRef03Find : cfgS.fn nRef03Find = some (⟨false, false, true⟩, qRef03Find) := gRef03Find
theorem iRef03Find : cfgS.inp nRef03Find = none := show inpS nRef03Find = none from by unfold inpS; rw [if_neg (show ¬ nRef03Find = nSlicesSortIntInt by decide)]
theorem oRef03Find : cfgS.orc nRef03Find = none := rfl
theorem sRef02Cmp : cfgS.fn nRef02Cmp = some (⟨false, false, true⟩, qRef02Cmp) := gRef02Cmp
theorem iRef02Cmp : cfgS.inp nRef02Cmp = none := show inpS nRef02Cmp = none from by unfold inpS; rw [if_neg (show ¬ nRef02Cmp = nSlicesSortIntInt by decide)]
theorem oRef02Cmp : cfgS.orc nRef02Cmp = none := rfl
theorem sMakeDeckNext : cfgS.fn nMakeDeckNext = some (⟨true, false, false⟩, qMakeDeckNext) := gMakeDeckNext
theorem iMakeDeckNext : cfgS.inp nMakeDeckNext = none := show inpS nMakeDeckNext = none from by unfold inpS; rw [if_neg (show ¬ nMakeDeckNext = nSlicesSortIntInt by decide)]
theorem oMakeDeckNext : cfgS.orc nMakeDeckNext = none := rfl
theorem sTrianglesCount : cfgS.fn nTrianglesCount = some (⟨false, false, true⟩, qTrianglesCount) := gTrianglesCount
theorem iTrianglesCount : cfgS.inp nTrianglesCount = none := show inpS nTrianglesCount = none from by unfold inpS; rw [if_neg (show ¬ nTrianglesCount = nSlicesSortIntInt by decide)]
theorem oTrianglesCount : cfgS.orc nTrianglesCount = none := rfl
theorem sRef29Nodes : cfgS.fn nRef29Nodes = some (⟨false, false, false⟩, qRef29Nodes) := gRef29Nodes
theorem iRef29Nodes : cfgS.inp nRef29Nodes = none := show inpS nRef29Nodes = none from by unfold inpS; rw [if_neg (show ¬ nRef29Nodes = nSlicesSortIntInt by decide)]
theorem oRef29Nodes : cfgS.orc nRef29Nodes = none := rfl
theorem sSlicesSortIntInt : cfgS.fn nSlicesSortIntInt = some (⟨false, false, true⟩, qSlicesSortIntInt) := gSlicesSortIntInt
theorem iSlicesSortIntInt : cfgS.inp nSlicesSortIntInt = some srtG := show inpS nSlicesSortIntInt = some srtG from by unfold inpS; rw [if_pos rfl]
theorem oSlicesSortIntInt : cfgS.orc nSlicesSortIntInt = none := rfl
theorem sSampleKeep : cfgS.fn nSampleKeep = some (⟨false, false, false⟩, qSampleKeep) := gSampleKeep
theorem iSampleKeep : cfgS.inp nSampleKeep = none := show inpS nSampleKeep = none from by unfold inpS; rw [if_neg (show ¬ nSampleKeep = nSlicesSortIntInt by decide)]
theorem oSampleKeep : cfgS.orc nSampleKeep = none := rfl
theorem sGraphCheck : cfgS.fn nGraphCheck = some (⟨false, false, true⟩, qGraphCheck) := gGraphCheck
theorem iGraphCheck : cfgS.inp nGraphCheck = none := show inpS nGraphCheck = none from by unfold inpS; rw [if_neg (show ¬ nGraphCheck = nSlicesSortIntInt by decide)]
theorem oGraphCheck : cfgS.orc nGraphCheck = none := rfl
theorem sSlicesContainsFuncIntInt : cfgS.fn nSlicesContainsFuncIntInt = some (⟨true, false, false⟩, qSlicesContainsFuncIntInt) := gSlicesContainsFuncIntInt
theorem iSlicesContainsFuncIntInt : cfgS.inp nSlicesContainsFuncIntInt = none := show inpS nSlicesContainsFuncIntInt = none from by unfold inpS; rw [if_neg (show ¬ nSlicesContainsFuncIntInt = nSlicesSortIntInt by decide)]
theorem oSlicesContainsFuncIntInt : cfgS.orc nSlicesContainsFuncIntInt = none := rfl
theorem sSampleMono1 : cfgS.fn nSampleMono1 = some (⟨true, false, false⟩, qSampleMono1) := gSampleMono1
theorem iSampleMono1 : cfgS.inp nSampleMono1 = none := show inpS nSampleMono1 = none from by unfold inpS; rw [if_neg (show ¬ nSampleMono1 = nSlicesSortIntInt by decide)]
theorem oSampleMono1 : cfgS.orc nSampleMono1 = none := rfl
theorem sSampleSome : cfgS.fn nSampleSome = some (⟨true, false, false⟩, qSampleSome) := gSampleSome
theorem iSampleSome : cfgS.inp nSampleSome = none := show inpS nSampleSome = none from by unfold inpS; rw [if_neg (show ¬ nSampleSome = nSlicesSortIntInt by decide)]
theorem oSampleSome : cfgS.orc nSampleSome = none := rfl
theorem sSampleMono2 : cfgS.fn nSampleMono2 = some (⟨true, false, false⟩, qSampleMono2) := gSampleMono2
theorem iSampleMono2 : cfgS.inp nSampleMono2 = none := show inpS nSampleMono2 = none from by unfold inpS; rw [if_neg (show ¬ nSampleMono2 = nSlicesSortIntInt by decide)]
theorem oSampleMono2 : cfgS.orc nSampleMono2 = none := rfl
theorem sRef03Check : cfgS.fn nRef03Check = some (⟨false, false, true⟩, qRef03Check) := gRef03Check
theorem iRef03Check : cfgS.inp nRef03Check = none := show inpS nRef03Check = none from by unfold inpS; rw [if_neg (show ¬ nRef03Check = nSlicesSortIntInt by decide)]
theorem oRef03Check : cfgS.orc nRef03Check = none := rfl
theorem sRef03Edge : cfgS.fn nRef03Edge = some (⟨false, false, false⟩, qRef03Edge) := gRef03Edge
theorem iRef03Edge : cfgS.inp nRef03Edge = none := show inpS nRef03Edge = none from by unfold inpS; rw [if_neg (show ¬ nRef03Edge = nSlicesSortIntInt by decide)]
theorem oRef03Edge : cfgS.orc nRef03Edge = none := rfl
theorem sMakeMod : cfgS.fn nMakeMod = some (⟨false, false, true⟩, qMakeMod) := gMakeMod
theorem iMakeMod : cfgS.inp nMakeMod = none := show inpS nMakeMod = none from by unfold inpS; rw [if_neg (show ¬ nMakeMod = nSlicesSortIntInt by decide)]
theorem oMakeMod : cfgS.orc nMakeMod = none := rfl
theorem sTrianglesCounts : cfgS.fn nTrianglesCounts = some (⟨false, false, false⟩, qTrianglesCounts) := gTrianglesCounts
theorem iTrianglesCounts : cfgS.inp nTrianglesCounts = none := show inpS nTrianglesCounts = none from by unfold inpS; rw [if_neg (show ¬ nTrianglesCounts = nSlicesSortIntInt by decide)]
theorem oTrianglesCounts : cfgS.orc nTrianglesCounts = none := rfl
theorem sRef03Common : cfgS.fn nRef03Common = some (⟨false, false, false⟩, qRef03Common) := gRef03Common
theorem iRef03Common : cfgS.inp nRef03Common = none := show inpS nRef03Common = none from by unfold inpS; rw [if_neg (show ¬ nRef03Common = nSlicesSortIntInt by decide)]
theorem oRef03Common : cfgS.orc nRef03Common = none := rfl
theorem sSampleKeep1 : cfgS.fn nSampleKeep1 = some (⟨true, false, false⟩, qSampleKeep1) := gSampleKeep1
theorem iSampleKeep1 : cfgS.inp nSampleKeep1 = none := show inpS nSampleKeep1 = none from by unfold inpS; rw [if_neg (show ¬ nSampleKeep1 = nSlicesSortIntInt by decide)]
theorem oSampleKeep1 : cfgS.orc nSampleKeep1 = none := rfl
theorem sGraphOrder : cfgS.fn nGraphOrder = some (⟨false, false, true⟩, qGraphOrder) := gGraphOrder
theorem iGraphOrder : cfgS.inp nGraphOrder = none := show inpS nGraphOrder = none from by unfold inpS; rw [if_neg (show ¬ nGraphOrder = nSlicesSortIntInt by decide)]
theorem oGraphOrder : cfgS.orc nGraphOrder = none := rfl
theorem sSlicesIndexFuncIntInt : cfgS.fn nSlicesIndexFuncIntInt = some (⟨true, false, false⟩, qSlicesIndexFuncIntInt) := gSlicesIndexFuncIntInt
theorem iSlicesIndexFuncIntInt : cfgS.inp nSlicesIndexFuncIntInt = none := show inpS nSlicesIndexFuncIntInt = none from by unfold inpS; rw [if_neg (show ¬ nSlicesIndexFuncIntInt = nSlicesSortIntInt by decide)]
theorem oSlicesIndexFuncIntInt : cfgS.orc nSlicesIndexFuncIntInt = none := rfl
theorem sRef03Before : cfgS.fn nRef03Before = some (⟨false, false, true⟩, qRef03Before) := gRef03Before
theorem iRef03Before : cfgS.inp nRef03Before = none := show inpS nRef03Before = none from by unfold inpS; rw [if_neg (show ¬ nRef03Before = nSlicesSortIntInt by decide)]
theorem oRef03Before : cfgS.orc nRef03Before = none := rfl
theorem sTrianglesLists : cfgS.fn nTrianglesLists = some (⟨false, false, false⟩, qTrianglesLists) := gTrianglesLists
theorem iTrianglesLists : cfgS.inp nTrianglesLists = none := show inpS nTrianglesLists = none from by unfold inpS; rw [if_neg (show ¬ nTrianglesLists = nSlicesSortIntInt by decide)]
theorem oTrianglesLists : cfgS.orc nTrianglesLists = none := rfl
theorem sTrianglesSharedInt : cfgS.fn nTrianglesSharedInt = some (⟨false, false, false⟩, qTrianglesSharedInt) := gTrianglesSharedInt
theorem iTrianglesSharedInt : cfgS.inp nTrianglesSharedInt = none := show inpS nTrianglesSharedInt = none from by unfold inpS; rw [if_neg (show ¬ nTrianglesSharedInt = nSlicesSortIntInt by decide)]
theorem oTrianglesSharedInt : cfgS.orc nTrianglesSharedInt = none := rfl
theorem sRef02Meet : cfgS.fn nRef02Meet = some (⟨false, false, false⟩, qRef02Meet) := gRef02Meet
theorem iRef02Meet : cfgS.inp nRef02Meet = none := show inpS nRef02Meet = none from by unfold inpS; rw [if_neg (show ¬ nRef02Meet = nSlicesSortIntInt by decide)]
theorem oRef02Meet : cfgS.orc nRef02Meet = none := rfl
theorem sRef03Neighbours : cfgS.fn nRef03Neighbours = some (⟨false, false, false⟩, qRef03Neighbours) := gRef03Neighbours
theorem iRef03Neighbours : cfgS.inp nRef03Neighbours = none := show inpS nRef03Neighbours = none from by unfold inpS; rw [if_neg (show ¬ nRef03Neighbours = nSlicesSortIntInt by decide)]
theorem oRef03Neighbours : cfgS.orc nRef03Neighbours = none := rfl
theorem sCmpOrInt : cfgS.fn nCmpOrInt = some (⟨false, false, true⟩, qCmpOrInt) := gCmpOrInt
theorem iCmpOrInt : cfgS.inp nCmpOrInt = none := show inpS nCmpOrInt = none from by unfold inpS; rw [if_neg (show ¬ nCmpOrInt = nSlicesSortIntInt by decide)]
theorem oCmpOrInt : cfgS.orc nCmpOrInt = none := rfl
theorem sCmpCompareInt : cfgS.fn nCmpCompareInt = some (⟨false, false, true⟩, qCmpCompareInt) := gCmpCompareInt
theorem iCmpCompareInt : cfgS.inp nCmpCompareInt = none := show inpS nCmpCompareInt = none from by unfold inpS; rw [if_neg (show ¬ nCmpCompareInt = nSlicesSortIntInt by decide)]
theorem oCmpCompareInt : cfgS.orc nCmpCompareInt = none := rfl
theorem sRef02Of : cfgS.fn nRef02Of = some (⟨false, false, false⟩, qRef02Of) := gRef02Of
theorem iRef02Of : cfgS.inp nRef02Of = none := show inpS nRef02Of = none from by unfold inpS; rw [if_neg (show ¬ nRef02Of = nSlicesSortIntInt by decide)]
theorem oRef02Of : cfgS.orc nRef02Of = none := rfl
theorem sRef02Has : cfgS.fn nRef02Has = some (⟨false, false, true⟩, qRef02Has) := gRef02Has
theorem iRef02Has : cfgS.inp nRef02Has = none := show inpS nRef02Has = none from by unfold inpS; rw [if_neg (show ¬ nRef02Has = nSlicesSortIntInt by decide)]
theorem oRef02Has : cfgS.orc nRef02Has = none := rfl
theorem sCmpIsNaNInt : cfgS.fn nCmpIsNaNInt = some (⟨false, false, true⟩, qCmpIsNaNInt) := gCmpIsNaNInt
theorem iCmpIsNaNInt : cfgS.inp nCmpIsNaNInt = none := show inpS nCmpIsNaNInt = none from by unfold inpS; rw [if_neg (show ¬ nCmpIsNaNInt = nSlicesSortIntInt by decide)]
theorem oCmpIsNaNInt : cfgS.orc nCmpIsNaNInt = none := rfl
theorem sRef02Put : cfgS.fn nRef02Put = some (⟨false, false, false⟩, qRef02Put) := gRef02Put
theorem iRef02Put : cfgS.inp nRef02Put = none := show inpS nRef02Put = none from by unfold inpS; rw [if_neg (show ¬ nRef02Put = nSlicesSortIntInt by decide)]
theorem oRef02Put : cfgS.orc nRef02Put = none := rfl
end Go.BmP
