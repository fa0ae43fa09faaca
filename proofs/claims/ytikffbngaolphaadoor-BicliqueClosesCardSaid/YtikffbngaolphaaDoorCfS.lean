/- The configuration with the library's functions that write into the slice they are given, and what it says of each function. -/
import Derived.Test.YtikffbngaolphaaDoorBmP
import Derived.Test.YtikffbngaolphaaDoorRunL
import Derived.Test.YtikffbngaolphaaDoorSetP
set_option maxRecDepth 100000
namespace Go.BmP
open Go.Am Go.Bm
def inpS (f : Nat) : Option (Nat → List AV → List AV → Option (List AV × Option Nat)) := if f = nSlicesSortIntInt then some srtG else if f = nSlicesCompactIntInt then some cptG else none
def orcF (f : Nat) : Option (List AV → Heap → Option (AV × Heap)) := if f = nSlicesCloneIntInt then some gClo else none
def cfgS : Go.Bm.Cfg := { cfg with inp := inpS, orc := orcF }
theorem cfgSOK : CfgOKB Go.Proofs.Tryd.prog cfgS := ⟨cfgOK.mixed, cfgOK.fn⟩
theorem sLaw27BicliqueCloses : cfgS.fn nLaw27BicliqueCloses = some (⟨false, false, true⟩, qLaw27BicliqueCloses) := gLaw27BicliqueCloses
theorem iLaw27BicliqueCloses : cfgS.inp nLaw27BicliqueCloses = none := show inpS nLaw27BicliqueCloses = none from by unfold inpS; rw [if_neg (show ¬ nLaw27BicliqueCloses = nSlicesSortIntInt by decide), if_neg (show ¬ nLaw27BicliqueCloses = nSlicesCompactIntInt by decide)]
theorem oLaw27BicliqueCloses : cfgS.orc nLaw27BicliqueCloses = none := show orcF nLaw27BicliqueCloses = none from by unfold orcF; rw [if_neg (show ¬ nLaw27BicliqueCloses = nSlicesCloneIntInt by decide)]
theorem sMakeFew : cfgS.fn nMakeFew = some (⟨false, false, true⟩, qMakeFew) := gMakeFew
theorem iMakeFew : cfgS.inp nMakeFew = none := show inpS nMakeFew = none from by unfold inpS; rw [if_neg (show ¬ nMakeFew = nSlicesSortIntInt by decide), if_neg (show ¬ nMakeFew = nSlicesCompactIntInt by decide)]
theorem oMakeFew : cfgS.orc nMakeFew = none := show orcF nMakeFew = none from by unfold orcF; rw [if_neg (show ¬ nMakeFew = nSlicesCloneIntInt by decide)]
theorem sLaw27Awake : cfgS.fn nLaw27Awake = some (⟨false, false, true⟩, qLaw27Awake) := gLaw27Awake
theorem iLaw27Awake : cfgS.inp nLaw27Awake = none := show inpS nLaw27Awake = none from by unfold inpS; rw [if_neg (show ¬ nLaw27Awake = nSlicesSortIntInt by decide), if_neg (show ¬ nLaw27Awake = nSlicesCompactIntInt by decide)]
theorem oLaw27Awake : cfgS.orc nLaw27Awake = none := show orcF nLaw27Awake = none from by unfold orcF; rw [if_neg (show ¬ nLaw27Awake = nSlicesCloneIntInt by decide)]
theorem sFieldSided : cfgS.fn nFieldSided = some (⟨true, false, false⟩, qFieldSided) := gFieldSided
theorem iFieldSided : cfgS.inp nFieldSided = none := show inpS nFieldSided = none from by unfold inpS; rw [if_neg (show ¬ nFieldSided = nSlicesSortIntInt by decide), if_neg (show ¬ nFieldSided = nSlicesCompactIntInt by decide)]
theorem oFieldSided : cfgS.orc nFieldSided = none := show orcF nFieldSided = none from by unfold orcF; rw [if_neg (show ¬ nFieldSided = nSlicesCloneIntInt by decide)]
theorem sMakeNew : cfgS.fn nMakeNew = some (⟨true, false, false⟩, qMakeNew) := gMakeNew
theorem iMakeNew : cfgS.inp nMakeNew = none := show inpS nMakeNew = none from by unfold inpS; rw [if_neg (show ¬ nMakeNew = nSlicesSortIntInt by decide), if_neg (show ¬ nMakeNew = nSlicesCompactIntInt by decide)]
theorem oMakeNew : cfgS.orc nMakeNew = none := show orcF nMakeNew = none from by unfold orcF; rw [if_neg (show ¬ nMakeNew = nSlicesCloneIntInt by decide)]
theorem sBicliqueAll : cfgS.fn nBicliqueAll = some (⟨false, false, false⟩, qBicliqueAll) := gBicliqueAll
theorem iBicliqueAll : cfgS.inp nBicliqueAll = none := show inpS nBicliqueAll = none from by unfold inpS; rw [if_neg (show ¬ nBicliqueAll = nSlicesSortIntInt by decide), if_neg (show ¬ nBicliqueAll = nSlicesCompactIntInt by decide)]
theorem oBicliqueAll : cfgS.orc nBicliqueAll = none := show orcF nBicliqueAll = none from by unfold orcF; rw [if_neg (show ¬ nBicliqueAll = nSlicesCloneIntInt by decide)]
theorem sRef27Same : cfgS.fn nRef27Same = some (⟨false, false, true⟩, qRef27Same) := gRef27Same
theorem iRef27Same : cfgS.inp nRef27Same = none := show inpS nRef27Same = none from by unfold inpS; rw [if_neg (show ¬ nRef27Same = nSlicesSortIntInt by decide), if_neg (show ¬ nRef27Same = nSlicesCompactIntInt by decide)]
theorem oRef27Same : cfgS.orc nRef27Same = none := show orcF nRef27Same = none from by unfold orcF; rw [if_neg (show ¬ nRef27Same = nSlicesCloneIntInt by decide)]
theorem sRef02Union : cfgS.fn nRef02Union = some (⟨false, false, false⟩, qRef02Union) := gRef02Union
theorem iRef02Union : cfgS.inp nRef02Union = none := show inpS nRef02Union = none from by unfold inpS; rw [if_neg (show ¬ nRef02Union = nSlicesSortIntInt by decide), if_neg (show ¬ nRef02Union = nSlicesCompactIntInt by decide)]
theorem oRef02Union : cfgS.orc nRef02Union = none := show orcF nRef02Union = none from by unfold orcF; rw [if_neg (show ¬ nRef02Union = nSlicesCloneIntInt by decide)]
theorem sRef02Has : cfgS.fn nRef02Has = some (⟨false, false, true⟩, qRef02Has) := gRef02Has
theorem iRef02Has : cfgS.inp nRef02Has = none := show inpS nRef02Has = none from by unfold inpS; rw [if_neg (show ¬ nRef02Has = nSlicesSortIntInt by decide), if_neg (show ¬ nRef02Has = nSlicesCompactIntInt by decide)]
theorem oRef02Has : cfgS.orc nRef02Has = none := show orcF nRef02Has = none from by unfold orcF; rw [if_neg (show ¬ nRef02Has = nSlicesCloneIntInt by decide)]
theorem sRef02Meet : cfgS.fn nRef02Meet = some (⟨false, false, false⟩, qRef02Meet) := gRef02Meet
theorem iRef02Meet : cfgS.inp nRef02Meet = none := show inpS nRef02Meet = none from by unfold inpS; rw [if_neg (show ¬ nRef02Meet = nSlicesSortIntInt by decide), if_neg (show ¬ nRef02Meet = nSlicesCompactIntInt by decide)]
theorem oRef02Meet : cfgS.orc nRef02Meet = none := show orcF nRef02Meet = none from by unfold orcF; rw [if_neg (show ¬ nRef02Meet = nSlicesCloneIntInt by decide)]
theorem sMakeSet : cfgS.fn nMakeSet = some (⟨true, false, false⟩, qMakeSet) := gMakeSet
theorem iMakeSet : cfgS.inp nMakeSet = none := show inpS nMakeSet = none from by unfold inpS; rw [if_neg (show ¬ nMakeSet = nSlicesSortIntInt by decide), if_neg (show ¬ nMakeSet = nSlicesCompactIntInt by decide)]
theorem oMakeSet : cfgS.orc nMakeSet = none := show orcF nMakeSet = none from by unfold orcF; rw [if_neg (show ¬ nMakeSet = nSlicesCloneIntInt by decide)]
theorem sBicliqueClose : cfgS.fn nBicliqueClose = some (⟨false, false, false⟩, qBicliqueClose) := gBicliqueClose
theorem iBicliqueClose : cfgS.inp nBicliqueClose = none := show inpS nBicliqueClose = none from by unfold inpS; rw [if_neg (show ¬ nBicliqueClose = nSlicesSortIntInt by decide), if_neg (show ¬ nBicliqueClose = nSlicesCompactIntInt by decide)]
theorem oBicliqueClose : cfgS.orc nBicliqueClose = none := show orcF nBicliqueClose = none from by unfold orcF; rw [if_neg (show ¬ nBicliqueClose = nSlicesCloneIntInt by decide)]
theorem sRef03Find : cfgS.fn nRef03Find = some (⟨false, false, true⟩, qRef03Find) := gRef03Find
theorem iRef03Find : cfgS.inp nRef03Find = none := show inpS nRef03Find = none from by unfold inpS; rw [if_neg (show ¬ nRef03Find = nSlicesSortIntInt by decide), if_neg (show ¬ nRef03Find = nSlicesCompactIntInt by decide)]
theorem oRef03Find : cfgS.orc nRef03Find = none := show orcF nRef03Find = none from by unfold orcF; rw [if_neg (show ¬ nRef03Find = nSlicesCloneIntInt by decide)]
theorem sRef02Within : cfgS.fn nRef02Within = some (⟨false, false, true⟩, qRef02Within) := gRef02Within
theorem iRef02Within : cfgS.inp nRef02Within = none := show inpS nRef02Within = none from by unfold inpS; rw [if_neg (show ¬ nRef02Within = nSlicesSortIntInt by decide), if_neg (show ¬ nRef02Within = nSlicesCompactIntInt by decide)]
theorem oRef02Within : cfgS.orc nRef02Within = none := show orcF nRef02Within = none from by unfold orcF; rw [if_neg (show ¬ nRef02Within = nSlicesCloneIntInt by decide)]
theorem sBicliqueCheck : cfgS.fn nBicliqueCheck = some (⟨false, false, true⟩, qBicliqueCheck) := gBicliqueCheck
theorem iBicliqueCheck : cfgS.inp nBicliqueCheck = none := show inpS nBicliqueCheck = none from by unfold inpS; rw [if_neg (show ¬ nBicliqueCheck = nSlicesSortIntInt by decide), if_neg (show ¬ nBicliqueCheck = nSlicesCompactIntInt by decide)]
theorem oBicliqueCheck : cfgS.orc nBicliqueCheck = none := show orcF nBicliqueCheck = none from by unfold orcF; rw [if_neg (show ¬ nBicliqueCheck = nSlicesCloneIntInt by decide)]
theorem sMakeDeckNext : cfgS.fn nMakeDeckNext = some (⟨true, false, false⟩, qMakeDeckNext) := gMakeDeckNext
theorem iMakeDeckNext : cfgS.inp nMakeDeckNext = none := show inpS nMakeDeckNext = none from by unfold inpS; rw [if_neg (show ¬ nMakeDeckNext = nSlicesSortIntInt by decide), if_neg (show ¬ nMakeDeckNext = nSlicesCompactIntInt by decide)]
theorem oMakeDeckNext : cfgS.orc nMakeDeckNext = none := show orcF nMakeDeckNext = none from by unfold orcF; rw [if_neg (show ¬ nMakeDeckNext = nSlicesCloneIntInt by decide)]
theorem sRef03Of : cfgS.fn nRef03Of = some (⟨false, false, false⟩, qRef03Of) := gRef03Of
theorem iRef03Of : cfgS.inp nRef03Of = none := show inpS nRef03Of = none from by unfold inpS; rw [if_neg (show ¬ nRef03Of = nSlicesSortIntInt by decide), if_neg (show ¬ nRef03Of = nSlicesCompactIntInt by decide)]
theorem oRef03Of : cfgS.orc nRef03Of = none := show orcF nRef03Of = none from by unfold orcF; rw [if_neg (show ¬ nRef03Of = nSlicesCloneIntInt by decide)]
theorem sRef02Cmp : cfgS.fn nRef02Cmp = some (⟨false, false, true⟩, qRef02Cmp) := gRef02Cmp
theorem iRef02Cmp : cfgS.inp nRef02Cmp = none := show inpS nRef02Cmp = none from by unfold inpS; rw [if_neg (show ¬ nRef02Cmp = nSlicesSortIntInt by decide), if_neg (show ¬ nRef02Cmp = nSlicesCompactIntInt by decide)]
theorem oRef02Cmp : cfgS.orc nRef02Cmp = none := show orcF nRef02Cmp = none from by unfold orcF; rw [if_neg (show ¬ nRef02Cmp = nSlicesCloneIntInt by decide)]
theorem sRef02Of : cfgS.fn nRef02Of = some (⟨false, false, false⟩, qRef02Of) := gRef02Of
theorem iRef02Of : cfgS.inp nRef02Of = none := show inpS nRef02Of = none from by unfold inpS; rw [if_neg (show ¬ nRef02Of = nSlicesSortIntInt by decide), if_neg (show ¬ nRef02Of = nSlicesCompactIntInt by decide)]
theorem oRef02Of : cfgS.orc nRef02Of = none := show orcF nRef02Of = none from by unfold orcF; rw [if_neg (show ¬ nRef02Of = nSlicesCloneIntInt by decide)]
theorem sBicliqueOf : cfgS.fn nBicliqueOf = some (⟨false, false, false⟩, qBicliqueOf) := gBicliqueOf
theorem iBicliqueOf : cfgS.inp nBicliqueOf = none := show inpS nBicliqueOf = none from by unfold inpS; rw [if_neg (show ¬ nBicliqueOf = nSlicesSortIntInt by decide), if_neg (show ¬ nBicliqueOf = nSlicesCompactIntInt by decide)]
theorem oBicliqueOf : cfgS.orc nBicliqueOf = none := show orcF nBicliqueOf = none from by unfold orcF; rw [if_neg (show ¬ nBicliqueOf = nSlicesCloneIntInt by decide)]
theorem sBicliqueSidesEach : cfgS.fn nBicliqueSidesEach = some (⟨true, false, false⟩, qBicliqueSidesEach) := gBicliqueSidesEach
theorem iBicliqueSidesEach : cfgS.inp nBicliqueSidesEach = none := show inpS nBicliqueSidesEach = none from by unfold inpS; rw [if_neg (show ¬ nBicliqueSidesEach = nSlicesSortIntInt by decide), if_neg (show ¬ nBicliqueSidesEach = nSlicesCompactIntInt by decide)]
theorem oBicliqueSidesEach : cfgS.orc nBicliqueSidesEach = none := show orcF nBicliqueSidesEach = none from by unfold orcF; rw [if_neg (show ¬ nBicliqueSidesEach = nSlicesCloneIntInt by decide)]
theorem sBicliqueAll1 : cfgS.fn nBicliqueAll1 = some (⟨true, false, false⟩, qBicliqueAll1) := gBicliqueAll1
theorem iBicliqueAll1 : cfgS.inp nBicliqueAll1 = none := show inpS nBicliqueAll1 = none from by unfold inpS; rw [if_neg (show ¬ nBicliqueAll1 = nSlicesSortIntInt by decide), if_neg (show ¬ nBicliqueAll1 = nSlicesCompactIntInt by decide)]
theorem oBicliqueAll1 : cfgS.orc nBicliqueAll1 = none := show orcF nBicliqueAll1 = none from by unfold orcF; rw [if_neg (show ¬ nBicliqueAll1 = nSlicesCloneIntInt by decide)]
theorem sNodesetValid : cfgS.fn nNodesetValid = some (⟨false, false, true⟩, qNodesetValid) := gNodesetValid
theorem iNodesetValid : cfgS.inp nNodesetValid = none := show inpS nNodesetValid = none from by unfold inpS; rw [if_neg (show ¬ nNodesetValid = nSlicesSortIntInt by decide), if_neg (show ¬ nNodesetValid = nSlicesCompactIntInt by decide)]
theorem oNodesetValid : cfgS.orc nNodesetValid = none := show orcF nNodesetValid = none from by unfold orcF; rw [if_neg (show ¬ nNodesetValid = nSlicesCloneIntInt by decide)]
theorem sBicliqueMask : cfgS.fn nBicliqueMask = some (⟨false, false, true⟩, qBicliqueMask) := gBicliqueMask
theorem iBicliqueMask : cfgS.inp nBicliqueMask = none := show inpS nBicliqueMask = none from by unfold inpS; rw [if_neg (show ¬ nBicliqueMask = nSlicesSortIntInt by decide), if_neg (show ¬ nBicliqueMask = nSlicesCompactIntInt by decide)]
theorem oBicliqueMask : cfgS.orc nBicliqueMask = none := show orcF nBicliqueMask = none from by unfold orcF; rw [if_neg (show ¬ nBicliqueMask = nSlicesCloneIntInt by decide)]
theorem sBicliqueSidesOnRight : cfgS.fn nBicliqueSidesOnRight = some (⟨false, false, true⟩, qBicliqueSidesOnRight) := gBicliqueSidesOnRight
theorem iBicliqueSidesOnRight : cfgS.inp nBicliqueSidesOnRight = none := show inpS nBicliqueSidesOnRight = none from by unfold inpS; rw [if_neg (show ¬ nBicliqueSidesOnRight = nSlicesSortIntInt by decide), if_neg (show ¬ nBicliqueSidesOnRight = nSlicesCompactIntInt by decide)]
theorem oBicliqueSidesOnRight : cfgS.orc nBicliqueSidesOnRight = none := show orcF nBicliqueSidesOnRight = none from by unfold orcF; rw [if_neg (show ¬ nBicliqueSidesOnRight = nSlicesCloneIntInt by decide)]
theorem sBicliqueSidesOnLeft : cfgS.fn nBicliqueSidesOnLeft = some (⟨false, false, true⟩, qBicliqueSidesOnLeft) := gBicliqueSidesOnLeft
theorem iBicliqueSidesOnLeft : cfgS.inp nBicliqueSidesOnLeft = none := show inpS nBicliqueSidesOnLeft = none from by unfold inpS; rw [if_neg (show ¬ nBicliqueSidesOnLeft = nSlicesSortIntInt by decide), if_neg (show ¬ nBicliqueSidesOnLeft = nSlicesCompactIntInt by decide)]
theorem oBicliqueSidesOnLeft : cfgS.orc nBicliqueSidesOnLeft = none := show orcF nBicliqueSidesOnLeft = none from by unfold orcF; rw [if_neg (show ¬ nBicliqueSidesOnLeft = nSlicesCloneIntInt by decide)]
theorem sNodesetWithin : cfgS.fn nNodesetWithin = some (⟨false, false, true⟩, qNodesetWithin) := gNodesetWithin
theorem iNodesetWithin : cfgS.inp nNodesetWithin = none := show inpS nNodesetWithin = none from by unfold inpS; rw [if_neg (show ¬ nNodesetWithin = nSlicesSortIntInt by decide), if_neg (show ¬ nNodesetWithin = nSlicesCompactIntInt by decide)]
theorem oNodesetWithin : cfgS.orc nNodesetWithin = none := show orcF nNodesetWithin = none from by unfold orcF; rw [if_neg (show ¬ nNodesetWithin = nSlicesCloneIntInt by decide)]
theorem sBicliqueList : cfgS.fn nBicliqueList = some (⟨false, false, false⟩, qBicliqueList) := gBicliqueList
theorem iBicliqueList : cfgS.inp nBicliqueList = none := show inpS nBicliqueList = none from by unfold inpS; rw [if_neg (show ¬ nBicliqueList = nSlicesSortIntInt by decide), if_neg (show ¬ nBicliqueList = nSlicesCompactIntInt by decide)]
theorem oBicliqueList : cfgS.orc nBicliqueList = none := show orcF nBicliqueList = none from by unfold orcF; rw [if_neg (show ¬ nBicliqueList = nSlicesCloneIntInt by decide)]
theorem sRef03Check : cfgS.fn nRef03Check = some (⟨false, false, true⟩, qRef03Check) := gRef03Check
theorem iRef03Check : cfgS.inp nRef03Check = none := show inpS nRef03Check = none from by unfold inpS; rw [if_neg (show ¬ nRef03Check = nSlicesSortIntInt by decide), if_neg (show ¬ nRef03Check = nSlicesCompactIntInt by decide)]
theorem oRef03Check : cfgS.orc nRef03Check = none := show orcF nRef03Check = none from by unfold orcF; rw [if_neg (show ¬ nRef03Check = nSlicesCloneIntInt by decide)]
theorem sRef03Edge : cfgS.fn nRef03Edge = some (⟨false, false, false⟩, qRef03Edge) := gRef03Edge
theorem iRef03Edge : cfgS.inp nRef03Edge = none := show inpS nRef03Edge = none from by unfold inpS; rw [if_neg (show ¬ nRef03Edge = nSlicesSortIntInt by decide), if_neg (show ¬ nRef03Edge = nSlicesCompactIntInt by decide)]
theorem oRef03Edge : cfgS.orc nRef03Edge = none := show orcF nRef03Edge = none from by unfold orcF; rw [if_neg (show ¬ nRef03Edge = nSlicesCloneIntInt by decide)]
theorem sGraphCheck : cfgS.fn nGraphCheck = some (⟨false, false, true⟩, qGraphCheck) := gGraphCheck
theorem iGraphCheck : cfgS.inp nGraphCheck = none := show inpS nGraphCheck = none from by unfold inpS; rw [if_neg (show ¬ nGraphCheck = nSlicesSortIntInt by decide), if_neg (show ¬ nGraphCheck = nSlicesCompactIntInt by decide)]
theorem oGraphCheck : cfgS.orc nGraphCheck = none := show orcF nGraphCheck = none from by unfold orcF; rw [if_neg (show ¬ nGraphCheck = nSlicesCloneIntInt by decide)]
theorem sSlicesContainsFuncApiEdgeApiEdge : cfgS.fn nSlicesContainsFuncApiEdgeApiEdge = some (⟨true, false, false⟩, qSlicesContainsFuncApiEdgeApiEdge) := gSlicesContainsFuncApiEdgeApiEdge
theorem iSlicesContainsFuncApiEdgeApiEdge : cfgS.inp nSlicesContainsFuncApiEdgeApiEdge = none := show inpS nSlicesContainsFuncApiEdgeApiEdge = none from by unfold inpS; rw [if_neg (show ¬ nSlicesContainsFuncApiEdgeApiEdge = nSlicesSortIntInt by decide), if_neg (show ¬ nSlicesContainsFuncApiEdgeApiEdge = nSlicesCompactIntInt by decide)]
theorem oSlicesContainsFuncApiEdgeApiEdge : cfgS.orc nSlicesContainsFuncApiEdgeApiEdge = none := show orcF nSlicesContainsFuncApiEdgeApiEdge = none from by unfold orcF; rw [if_neg (show ¬ nSlicesContainsFuncApiEdgeApiEdge = nSlicesCloneIntInt by decide)]
theorem sBicliqueCheck1 : cfgS.fn nBicliqueCheck1 = some (⟨true, false, false⟩, qBicliqueCheck1) := gBicliqueCheck1
theorem iBicliqueCheck1 : cfgS.inp nBicliqueCheck1 = none := show inpS nBicliqueCheck1 = none from by unfold inpS; rw [if_neg (show ¬ nBicliqueCheck1 = nSlicesSortIntInt by decide), if_neg (show ¬ nBicliqueCheck1 = nSlicesCompactIntInt by decide)]
theorem oBicliqueCheck1 : cfgS.orc nBicliqueCheck1 = none := show orcF nBicliqueCheck1 = none from by unfold orcF; rw [if_neg (show ¬ nBicliqueCheck1 = nSlicesCloneIntInt by decide)]
theorem sMakeMod : cfgS.fn nMakeMod = some (⟨false, false, true⟩, qMakeMod) := gMakeMod
theorem iMakeMod : cfgS.inp nMakeMod = none := show inpS nMakeMod = none from by unfold inpS; rw [if_neg (show ¬ nMakeMod = nSlicesSortIntInt by decide), if_neg (show ¬ nMakeMod = nSlicesCompactIntInt by decide)]
theorem oMakeMod : cfgS.orc nMakeMod = none := show orcF nMakeMod = none from by unfold orcF; rw [if_neg (show ¬ nMakeMod = nSlicesCloneIntInt by decide)]
theorem sRef03Ends : cfgS.fn nRef03Ends = some (⟨false, false, true⟩, qRef03Ends) := gRef03Ends
theorem iRef03Ends : cfgS.inp nRef03Ends = none := show inpS nRef03Ends = none from by unfold inpS; rw [if_neg (show ¬ nRef03Ends = nSlicesSortIntInt by decide), if_neg (show ¬ nRef03Ends = nSlicesCompactIntInt by decide)]
theorem oRef03Ends : cfgS.orc nRef03Ends = none := show orcF nRef03Ends = none from by unfold orcF; rw [if_neg (show ¬ nRef03Ends = nSlicesCloneIntInt by decide)]
theorem sRef03With : cfgS.fn nRef03With = some (⟨false, false, false⟩, qRef03With) := gRef03With
theorem iRef03With : cfgS.inp nRef03With = none := show inpS nRef03With = none from by unfold inpS; rw [if_neg (show ¬ nRef03With = nSlicesSortIntInt by decide), if_neg (show ¬ nRef03With = nSlicesCompactIntInt by decide)]
theorem oRef03With : cfgS.orc nRef03With = none := show orcF nRef03With = none from by unfold orcF; rw [if_neg (show ¬ nRef03With = nSlicesCloneIntInt by decide)]
theorem sRef02Put : cfgS.fn nRef02Put = some (⟨false, false, false⟩, qRef02Put) := gRef02Put
theorem iRef02Put : cfgS.inp nRef02Put = none := show inpS nRef02Put = none from by unfold inpS; rw [if_neg (show ¬ nRef02Put = nSlicesSortIntInt by decide), if_neg (show ¬ nRef02Put = nSlicesCompactIntInt by decide)]
theorem oRef02Put : cfgS.orc nRef02Put = none := show orcF nRef02Put = none from by unfold orcF; rw [if_neg (show ¬ nRef02Put = nSlicesCloneIntInt by decide)]
theorem sBicliqueSidesEach1 : cfgS.fn nBicliqueSidesEach1 = some (⟨true, false, false⟩, qBicliqueSidesEach1) := gBicliqueSidesEach1
theorem iBicliqueSidesEach1 : cfgS.inp nBicliqueSidesEach1 = none := show inpS nBicliqueSidesEach1 = none from by unfold inpS; rw [if_neg (show ¬ nBicliqueSidesEach1 = nSlicesSortIntInt by decide), if_neg (show ¬ nBicliqueSidesEach1 = nSlicesCompactIntInt by decide)]
theorem oBicliqueSidesEach1 : cfgS.orc nBicliqueSidesEach1 = none := show orcF nBicliqueSidesEach1 = none from by unfold orcF; rw [if_neg (show ¬ nBicliqueSidesEach1 = nSlicesCloneIntInt by decide)]
theorem sBicliqueBehind : cfgS.fn nBicliqueBehind = some (⟨false, false, true⟩, qBicliqueBehind) := gBicliqueBehind
theorem iBicliqueBehind : cfgS.inp nBicliqueBehind = none := show inpS nBicliqueBehind = none from by unfold inpS; rw [if_neg (show ¬ nBicliqueBehind = nSlicesSortIntInt by decide), if_neg (show ¬ nBicliqueBehind = nSlicesCompactIntInt by decide)]
theorem oBicliqueBehind : cfgS.orc nBicliqueBehind = none := show orcF nBicliqueBehind = none from by unfold orcF; rw [if_neg (show ¬ nBicliqueBehind = nSlicesCloneIntInt by decide)]
theorem sMathBitsTrailingZeros64 : cfgS.fn nMathBitsTrailingZeros64 = some (⟨false, false, true⟩, qMathBitsTrailingZeros64) := gMathBitsTrailingZeros64
theorem iMathBitsTrailingZeros64 : cfgS.inp nMathBitsTrailingZeros64 = none := show inpS nMathBitsTrailingZeros64 = none from by unfold inpS; rw [if_neg (show ¬ nMathBitsTrailingZeros64 = nSlicesSortIntInt by decide), if_neg (show ¬ nMathBitsTrailingZeros64 = nSlicesCompactIntInt by decide)]
theorem oMathBitsTrailingZeros64 : cfgS.orc nMathBitsTrailingZeros64 = none := show orcF nMathBitsTrailingZeros64 = none from by unfold orcF; rw [if_neg (show ¬ nMathBitsTrailingZeros64 = nSlicesCloneIntInt by decide)]
theorem sSlicesCloneIntInt : cfgS.fn nSlicesCloneIntInt = some (⟨false, true, true⟩, qSlicesCloneIntInt) := gSlicesCloneIntInt
theorem iSlicesCloneIntInt : cfgS.inp nSlicesCloneIntInt = none := show inpS nSlicesCloneIntInt = none from by unfold inpS; rw [if_neg (show ¬ nSlicesCloneIntInt = nSlicesSortIntInt by decide), if_neg (show ¬ nSlicesCloneIntInt = nSlicesCompactIntInt by decide)]
theorem oSlicesCloneIntInt : cfgS.orc nSlicesCloneIntInt = some gClo := show orcF nSlicesCloneIntInt = some gClo from by unfold orcF; rw [if_pos rfl]
theorem sBicliqueSidesCommon : cfgS.fn nBicliqueSidesCommon = some (⟨false, false, true⟩, qBicliqueSidesCommon) := gBicliqueSidesCommon
theorem iBicliqueSidesCommon : cfgS.inp nBicliqueSidesCommon = none := show inpS nBicliqueSidesCommon = none from by unfold inpS; rw [if_neg (show ¬ nBicliqueSidesCommon = nSlicesSortIntInt by decide), if_neg (show ¬ nBicliqueSidesCommon = nSlicesCompactIntInt by decide)]
theorem oBicliqueSidesCommon : cfgS.orc nBicliqueSidesCommon = none := show orcF nBicliqueSidesCommon = none from by unfold orcF; rw [if_neg (show ¬ nBicliqueSidesCommon = nSlicesCloneIntInt by decide)]
theorem sNodesetMinus : cfgS.fn nNodesetMinus = some (⟨false, false, false⟩, qNodesetMinus) := gNodesetMinus
theorem iNodesetMinus : cfgS.inp nNodesetMinus = none := show inpS nNodesetMinus = none from by unfold inpS; rw [if_neg (show ¬ nNodesetMinus = nSlicesSortIntInt by decide), if_neg (show ¬ nNodesetMinus = nSlicesCompactIntInt by decide)]
theorem oNodesetMinus : cfgS.orc nNodesetMinus = none := show orcF nNodesetMinus = none from by unfold orcF; rw [if_neg (show ¬ nNodesetMinus = nSlicesCloneIntInt by decide)]
theorem sRef03Before : cfgS.fn nRef03Before = some (⟨false, false, true⟩, qRef03Before) := gRef03Before
theorem iRef03Before : cfgS.inp nRef03Before = none := show inpS nRef03Before = none from by unfold inpS; rw [if_neg (show ¬ nRef03Before = nSlicesSortIntInt by decide), if_neg (show ¬ nRef03Before = nSlicesCompactIntInt by decide)]
theorem oRef03Before : cfgS.orc nRef03Before = none := show orcF nRef03Before = none from by unfold orcF; rw [if_neg (show ¬ nRef03Before = nSlicesCloneIntInt by decide)]
theorem sGraphOrder : cfgS.fn nGraphOrder = some (⟨false, false, true⟩, qGraphOrder) := gGraphOrder
theorem iGraphOrder : cfgS.inp nGraphOrder = none := show inpS nGraphOrder = none from by unfold inpS; rw [if_neg (show ¬ nGraphOrder = nSlicesSortIntInt by decide), if_neg (show ¬ nGraphOrder = nSlicesCompactIntInt by decide)]
theorem oGraphOrder : cfgS.orc nGraphOrder = none := show orcF nGraphOrder = none from by unfold orcF; rw [if_neg (show ¬ nGraphOrder = nSlicesCloneIntInt by decide)]
theorem sSlicesIndexFuncApiEdgeApiEdge : cfgS.fn nSlicesIndexFuncApiEdgeApiEdge = some (⟨true, false, false⟩, qSlicesIndexFuncApiEdgeApiEdge) := gSlicesIndexFuncApiEdgeApiEdge
theorem iSlicesIndexFuncApiEdgeApiEdge : cfgS.inp nSlicesIndexFuncApiEdgeApiEdge = none := show inpS nSlicesIndexFuncApiEdgeApiEdge = none from by unfold inpS; rw [if_neg (show ¬ nSlicesIndexFuncApiEdgeApiEdge = nSlicesSortIntInt by decide), if_neg (show ¬ nSlicesIndexFuncApiEdgeApiEdge = nSlicesCompactIntInt by decide)]
theorem oSlicesIndexFuncApiEdgeApiEdge : cfgS.orc nSlicesIndexFuncApiEdgeApiEdge = none := show orcF nSlicesIndexFuncApiEdgeApiEdge = none from by unfold orcF; rw [if_neg (show ¬ nSlicesIndexFuncApiEdgeApiEdge = nSlicesCloneIntInt by decide)]
theorem sNodesetMergedInt : cfgS.fn nNodesetMergedInt = some (⟨false, false, false⟩, qNodesetMergedInt) := gNodesetMergedInt
theorem iNodesetMergedInt : cfgS.inp nNodesetMergedInt = none := show inpS nNodesetMergedInt = none from by unfold inpS; rw [if_neg (show ¬ nNodesetMergedInt = nSlicesSortIntInt by decide), if_neg (show ¬ nNodesetMergedInt = nSlicesCompactIntInt by decide)]
theorem oNodesetMergedInt : cfgS.orc nNodesetMergedInt = none := show orcF nNodesetMergedInt = none from by unfold orcF; rw [if_neg (show ¬ nNodesetMergedInt = nSlicesCloneIntInt by decide)]
theorem sNodesetMinus1 : cfgS.fn nNodesetMinus1 = some (⟨false, false, true⟩, qNodesetMinus1) := gNodesetMinus1
theorem iNodesetMinus1 : cfgS.inp nNodesetMinus1 = none := show inpS nNodesetMinus1 = none from by unfold inpS; rw [if_neg (show ¬ nNodesetMinus1 = nSlicesSortIntInt by decide), if_neg (show ¬ nNodesetMinus1 = nSlicesCompactIntInt by decide)]
theorem oNodesetMinus1 : cfgS.orc nNodesetMinus1 = none := show orcF nNodesetMinus1 = none from by unfold orcF; rw [if_neg (show ¬ nNodesetMinus1 = nSlicesCloneIntInt by decide)]
theorem sCmpOrInt : cfgS.fn nCmpOrInt = some (⟨false, false, true⟩, qCmpOrInt) := gCmpOrInt
theorem iCmpOrInt : cfgS.inp nCmpOrInt = none := show inpS nCmpOrInt = none from by unfold inpS; rw [if_neg (show ¬ nCmpOrInt = nSlicesSortIntInt by decide), if_neg (show ¬ nCmpOrInt = nSlicesCompactIntInt by decide)]
theorem oCmpOrInt : cfgS.orc nCmpOrInt = none := show orcF nCmpOrInt = none from by unfold orcF; rw [if_neg (show ¬ nCmpOrInt = nSlicesCloneIntInt by decide)]
theorem sCmpCompareInt : cfgS.fn nCmpCompareInt = some (⟨false, false, true⟩, qCmpCompareInt) := gCmpCompareInt
theorem iCmpCompareInt : cfgS.inp nCmpCompareInt = none := show inpS nCmpCompareInt = none from by unfold inpS; rw [if_neg (show ¬ nCmpCompareInt = nSlicesSortIntInt by decide), if_neg (show ¬ nCmpCompareInt = nSlicesCompactIntInt by decide)]
theorem oCmpCompareInt : cfgS.orc nCmpCompareInt = none := show orcF nCmpCompareInt = none from by unfold orcF; rw [if_neg (show ¬ nCmpCompareInt = nSlicesCloneIntInt by decide)]
theorem sSlicesSortIntInt : cfgS.fn nSlicesSortIntInt = some (⟨false, false, true⟩, qSlicesSortIntInt) := gSlicesSortIntInt
theorem iSlicesSortIntInt : cfgS.inp nSlicesSortIntInt = some srtG := show inpS nSlicesSortIntInt = some srtG from by unfold inpS; rw [if_pos rfl]
theorem oSlicesSortIntInt : cfgS.orc nSlicesSortIntInt = none := show orcF nSlicesSortIntInt = none from by unfold orcF; rw [if_neg (show ¬ nSlicesSortIntInt = nSlicesCloneIntInt by decide)]
theorem sSlicesCompactIntInt : cfgS.fn nSlicesCompactIntInt = some (⟨false, false, false⟩, qSlicesCompactIntInt) := gSlicesCompactIntInt
theorem iSlicesCompactIntInt : cfgS.inp nSlicesCompactIntInt = some cptG := show inpS nSlicesCompactIntInt = some cptG from by unfold inpS; rw [if_neg (show ¬ nSlicesCompactIntInt = nSlicesSortIntInt by decide), if_pos rfl]
theorem oSlicesCompactIntInt : cfgS.orc nSlicesCompactIntInt = none := show orcF nSlicesCompactIntInt = none from by unfold orcF; rw [if_neg (show ¬ nSlicesCompactIntInt = nSlicesCloneIntInt by decide)]
theorem sCmpIsNaNInt : cfgS.fn nCmpIsNaNInt = some (⟨false, false, true⟩, qCmpIsNaNInt) := gCmpIsNaNInt
theorem iCmpIsNaNInt : cfgS.inp nCmpIsNaNInt = none := show inpS nCmpIsNaNInt = none from by unfold inpS; rw [if_neg (show ¬ nCmpIsNaNInt = nSlicesSortIntInt by decide), if_neg (show ¬ nCmpIsNaNInt = nSlicesCompactIntInt by decide)]
theorem oCmpIsNaNInt : cfgS.orc nCmpIsNaNInt = none := show orcF nCmpIsNaNInt = none from by unfold orcF; rw [if_neg (show ¬ nCmpIsNaNInt = nSlicesCloneIntInt by decide)]
end Go.BmP
