/- The configuration with the library's functions that write into the slice they are given, and what it says of each function. -/
import Derived.Test.YtiohfglnoneanaaDoorBmP
import Derived.Test.YtiohfglnoneanaaDoorRunL
import Derived.Test.YtiohfglnoneanaaDoorSetP
import Derived.Test.YtiohfglnoneanaaDoorCloW
set_option maxRecDepth 100000
namespace Go.BmP
open Go.Am Go.Bm
def inpS (f : Nat) : Option (Nat → List AV → List AV → Option (List AV × Option Nat)) := if f = nSlicesSortIntInt then some srtG else none
def orcF (f : Nat) : Option (List AV → Heap → Option (AV × Heap)) := if f = nSlicesCloneIntInt then some gCloW else none
def cfgS : Go.Bm.Cfg := { cfg with inp := inpS, orc := orcF }
theorem cfgSOK : CfgOKB Go.Proofs.Tryd.prog cfgS := ⟨cfgOK.mixed, cfgOK.fn⟩
theorem sLaw24CliquesGoes : cfgS.fn nLaw24CliquesGoes = some (⟨false, false, true⟩, qLaw24CliquesGoes) := gLaw24CliquesGoes
theorem iLaw24CliquesGoes : cfgS.inp nLaw24CliquesGoes = none := show inpS nLaw24CliquesGoes = none from by unfold inpS; rw [if_neg (show ¬ nLaw24CliquesGoes = nSlicesSortIntInt by decide)]
theorem oLaw24CliquesGoes : cfgS.orc nLaw24CliquesGoes = none := show orcF nLaw24CliquesGoes = none from by unfold orcF; rw [if_neg (show ¬ nLaw24CliquesGoes = nSlicesCloneIntInt by decide)]
theorem sCliquesAll : cfgS.fn nCliquesAll = some (⟨false, false, false⟩, qCliquesAll) := gCliquesAll
theorem iCliquesAll : cfgS.inp nCliquesAll = none := show inpS nCliquesAll = none from by unfold inpS; rw [if_neg (show ¬ nCliquesAll = nSlicesSortIntInt by decide)]
theorem oCliquesAll : cfgS.orc nCliquesAll = none := show orcF nCliquesAll = none from by unfold orcF; rw [if_neg (show ¬ nCliquesAll = nSlicesCloneIntInt by decide)]
theorem sLaw24Awake : cfgS.fn nLaw24Awake = some (⟨false, false, true⟩, qLaw24Awake) := gLaw24Awake
theorem iLaw24Awake : cfgS.inp nLaw24Awake = none := show inpS nLaw24Awake = none from by unfold inpS; rw [if_neg (show ¬ nLaw24Awake = nSlicesSortIntInt by decide)]
theorem oLaw24Awake : cfgS.orc nLaw24Awake = none := show orcF nLaw24Awake = none from by unfold orcF; rw [if_neg (show ¬ nLaw24Awake = nSlicesCloneIntInt by decide)]
theorem sMakeFew : cfgS.fn nMakeFew = some (⟨false, false, true⟩, qMakeFew) := gMakeFew
theorem iMakeFew : cfgS.inp nMakeFew = none := show inpS nMakeFew = none from by unfold inpS; rw [if_neg (show ¬ nMakeFew = nSlicesSortIntInt by decide)]
theorem oMakeFew : cfgS.orc nMakeFew = none := show orcF nMakeFew = none from by unfold orcF; rw [if_neg (show ¬ nMakeFew = nSlicesCloneIntInt by decide)]
theorem sMakeNew : cfgS.fn nMakeNew = some (⟨true, false, false⟩, qMakeNew) := gMakeNew
theorem iMakeNew : cfgS.inp nMakeNew = none := show inpS nMakeNew = none from by unfold inpS; rw [if_neg (show ¬ nMakeNew = nSlicesSortIntInt by decide)]
theorem oMakeNew : cfgS.orc nMakeNew = none := show orcF nMakeNew = none from by unfold orcF; rw [if_neg (show ¬ nMakeNew = nSlicesCloneIntInt by decide)]
theorem sMakeGraph : cfgS.fn nMakeGraph = some (⟨true, false, false⟩, qMakeGraph) := gMakeGraph
theorem iMakeGraph : cfgS.inp nMakeGraph = none := show inpS nMakeGraph = none from by unfold inpS; rw [if_neg (show ¬ nMakeGraph = nSlicesSortIntInt by decide)]
theorem oMakeGraph : cfgS.orc nMakeGraph = none := show orcF nMakeGraph = none from by unfold orcF; rw [if_neg (show ¬ nMakeGraph = nSlicesCloneIntInt by decide)]
theorem sRef02Cmp : cfgS.fn nRef02Cmp = some (⟨false, false, true⟩, qRef02Cmp) := gRef02Cmp
theorem iRef02Cmp : cfgS.inp nRef02Cmp = none := show inpS nRef02Cmp = none from by unfold inpS; rw [if_neg (show ¬ nRef02Cmp = nSlicesSortIntInt by decide)]
theorem oRef02Cmp : cfgS.orc nRef02Cmp = none := show orcF nRef02Cmp = none from by unfold orcF; rw [if_neg (show ¬ nRef02Cmp = nSlicesCloneIntInt by decide)]
theorem sCliquesNext : cfgS.fn nCliquesNext = some (⟨false, false, false⟩, qCliquesNext) := gCliquesNext
theorem iCliquesNext : cfgS.inp nCliquesNext = none := show inpS nCliquesNext = none from by unfold inpS; rw [if_neg (show ¬ nCliquesNext = nSlicesSortIntInt by decide)]
theorem oCliquesNext : cfgS.orc nCliquesNext = none := show orcF nCliquesNext = none from by unfold orcF; rw [if_neg (show ¬ nCliquesNext = nSlicesCloneIntInt by decide)]
theorem sCliquesCheck : cfgS.fn nCliquesCheck = some (⟨false, false, true⟩, qCliquesCheck) := gCliquesCheck
theorem iCliquesCheck : cfgS.inp nCliquesCheck = none := show inpS nCliquesCheck = none from by unfold inpS; rw [if_neg (show ¬ nCliquesCheck = nSlicesSortIntInt by decide)]
theorem oCliquesCheck : cfgS.orc nCliquesCheck = none := show orcF nCliquesCheck = none from by unfold orcF; rw [if_neg (show ¬ nCliquesCheck = nSlicesCloneIntInt by decide)]
theorem sMakeDeckNext : cfgS.fn nMakeDeckNext = some (⟨true, false, false⟩, qMakeDeckNext) := gMakeDeckNext
theorem iMakeDeckNext : cfgS.inp nMakeDeckNext = none := show inpS nMakeDeckNext = none from by unfold inpS; rw [if_neg (show ¬ nMakeDeckNext = nSlicesSortIntInt by decide)]
theorem oMakeDeckNext : cfgS.orc nMakeDeckNext = none := show orcF nMakeDeckNext = none from by unfold orcF; rw [if_neg (show ¬ nMakeDeckNext = nSlicesCloneIntInt by decide)]
theorem sCliquesExtend : cfgS.fn nCliquesExtend = some (⟨false, false, false⟩, qCliquesExtend) := gCliquesExtend
theorem iCliquesExtend : cfgS.inp nCliquesExtend = none := show inpS nCliquesExtend = none from by unfold inpS; rw [if_neg (show ¬ nCliquesExtend = nSlicesSortIntInt by decide)]
theorem oCliquesExtend : cfgS.orc nCliquesExtend = none := show orcF nCliquesExtend = none from by unfold orcF; rw [if_neg (show ¬ nCliquesExtend = nSlicesCloneIntInt by decide)]
theorem sCliquesIs : cfgS.fn nCliquesIs = some (⟨false, false, true⟩, qCliquesIs) := gCliquesIs
theorem iCliquesIs : cfgS.inp nCliquesIs = none := show inpS nCliquesIs = none from by unfold inpS; rw [if_neg (show ¬ nCliquesIs = nSlicesSortIntInt by decide)]
theorem oCliquesIs : cfgS.orc nCliquesIs = none := show orcF nCliquesIs = none from by unfold orcF; rw [if_neg (show ¬ nCliquesIs = nSlicesCloneIntInt by decide)]
theorem sGraphCheck : cfgS.fn nGraphCheck = some (⟨false, false, true⟩, qGraphCheck) := gGraphCheck
theorem iGraphCheck : cfgS.inp nGraphCheck = none := show inpS nGraphCheck = none from by unfold inpS; rw [if_neg (show ¬ nGraphCheck = nSlicesSortIntInt by decide)]
theorem oGraphCheck : cfgS.orc nGraphCheck = none := show orcF nGraphCheck = none from by unfold orcF; rw [if_neg (show ¬ nGraphCheck = nSlicesCloneIntInt by decide)]
theorem sCliquesEach : cfgS.fn nCliquesEach = some (⟨true, false, false⟩, qCliquesEach) := gCliquesEach
theorem iCliquesEach : cfgS.inp nCliquesEach = none := show inpS nCliquesEach = none from by unfold inpS; rw [if_neg (show ¬ nCliquesEach = nSlicesSortIntInt by decide)]
theorem oCliquesEach : cfgS.orc nCliquesEach = none := show orcF nCliquesEach = none from by unfold orcF; rw [if_neg (show ¬ nCliquesEach = nSlicesCloneIntInt by decide)]
theorem sCliquesAll1 : cfgS.fn nCliquesAll1 = some (⟨true, false, false⟩, qCliquesAll1) := gCliquesAll1
theorem iCliquesAll1 : cfgS.inp nCliquesAll1 = none := show inpS nCliquesAll1 = none from by unfold inpS; rw [if_neg (show ¬ nCliquesAll1 = nSlicesSortIntInt by decide)]
theorem oCliquesAll1 : cfgS.orc nCliquesAll1 = none := show orcF nCliquesAll1 = none from by unfold orcF; rw [if_neg (show ¬ nCliquesAll1 = nSlicesCloneIntInt by decide)]
theorem sRef03Of : cfgS.fn nRef03Of = some (⟨false, false, false⟩, qRef03Of) := gRef03Of
theorem iRef03Of : cfgS.inp nRef03Of = none := show inpS nRef03Of = none from by unfold inpS; rw [if_neg (show ¬ nRef03Of = nSlicesSortIntInt by decide)]
theorem oRef03Of : cfgS.orc nRef03Of = none := show orcF nRef03Of = none from by unfold orcF; rw [if_neg (show ¬ nRef03Of = nSlicesCloneIntInt by decide)]
theorem sCliquesNext1 : cfgS.fn nCliquesNext1 = some (⟨true, false, false⟩, qCliquesNext1) := gCliquesNext1
theorem iCliquesNext1 : cfgS.inp nCliquesNext1 = none := show inpS nCliquesNext1 = none from by unfold inpS; rw [if_neg (show ¬ nCliquesNext1 = nSlicesSortIntInt by decide)]
theorem oCliquesNext1 : cfgS.orc nCliquesNext1 = none := show orcF nCliquesNext1 = none from by unfold orcF; rw [if_neg (show ¬ nCliquesNext1 = nSlicesCloneIntInt by decide)]
theorem sCliquesCheck1 : cfgS.fn nCliquesCheck1 = some (⟨true, false, false⟩, qCliquesCheck1) := gCliquesCheck1
theorem iCliquesCheck1 : cfgS.inp nCliquesCheck1 = none := show inpS nCliquesCheck1 = none from by unfold inpS; rw [if_neg (show ¬ nCliquesCheck1 = nSlicesSortIntInt by decide)]
theorem oCliquesCheck1 : cfgS.orc nCliquesCheck1 = none := show orcF nCliquesCheck1 = none from by unfold orcF; rw [if_neg (show ¬ nCliquesCheck1 = nSlicesCloneIntInt by decide)]
theorem sSlicesEqualIntInt : cfgS.fn nSlicesEqualIntInt = some (⟨false, false, true⟩, qSlicesEqualIntInt) := gSlicesEqualIntInt
theorem iSlicesEqualIntInt : cfgS.inp nSlicesEqualIntInt = none := show inpS nSlicesEqualIntInt = none from by unfold inpS; rw [if_neg (show ¬ nSlicesEqualIntInt = nSlicesSortIntInt by decide)]
theorem oSlicesEqualIntInt : cfgS.orc nSlicesEqualIntInt = none := show orcF nSlicesEqualIntInt = none from by unfold orcF; rw [if_neg (show ¬ nSlicesEqualIntInt = nSlicesCloneIntInt by decide)]
theorem sMakeMod : cfgS.fn nMakeMod = some (⟨false, false, true⟩, qMakeMod) := gMakeMod
theorem iMakeMod : cfgS.inp nMakeMod = none := show inpS nMakeMod = none from by unfold inpS; rw [if_neg (show ¬ nMakeMod = nSlicesSortIntInt by decide)]
theorem oMakeMod : cfgS.orc nMakeMod = none := show orcF nMakeMod = none from by unfold orcF; rw [if_neg (show ¬ nMakeMod = nSlicesCloneIntInt by decide)]
theorem sCliquesMasks : cfgS.fn nCliquesMasks = some (⟨false, false, false⟩, qCliquesMasks) := gCliquesMasks
theorem iCliquesMasks : cfgS.inp nCliquesMasks = none := show inpS nCliquesMasks = none from by unfold inpS; rw [if_neg (show ¬ nCliquesMasks = nSlicesSortIntInt by decide)]
theorem oCliquesMasks : cfgS.orc nCliquesMasks = none := show orcF nCliquesMasks = none from by unfold orcF; rw [if_neg (show ¬ nCliquesMasks = nSlicesCloneIntInt by decide)]
theorem sSlicesCloneIntInt : cfgS.fn nSlicesCloneIntInt = some (⟨false, true, true⟩, qSlicesCloneIntInt) := gSlicesCloneIntInt
theorem iSlicesCloneIntInt : cfgS.inp nSlicesCloneIntInt = none := show inpS nSlicesCloneIntInt = none from by unfold inpS; rw [if_neg (show ¬ nSlicesCloneIntInt = nSlicesSortIntInt by decide)]
theorem oSlicesCloneIntInt : cfgS.orc nSlicesCloneIntInt = some gCloW := show orcF nSlicesCloneIntInt = some gCloW from by unfold orcF; rw [if_pos rfl]
theorem sCliquesCommon : cfgS.fn nCliquesCommon = some (⟨false, false, true⟩, qCliquesCommon) := gCliquesCommon
theorem iCliquesCommon : cfgS.inp nCliquesCommon = none := show inpS nCliquesCommon = none from by unfold inpS; rw [if_neg (show ¬ nCliquesCommon = nSlicesSortIntInt by decide)]
theorem oCliquesCommon : cfgS.orc nCliquesCommon = none := show orcF nCliquesCommon = none from by unfold orcF; rw [if_neg (show ¬ nCliquesCommon = nSlicesCloneIntInt by decide)]
theorem sMathBitsTrailingZeros64 : cfgS.fn nMathBitsTrailingZeros64 = some (⟨false, false, true⟩, qMathBitsTrailingZeros64) := gMathBitsTrailingZeros64
theorem iMathBitsTrailingZeros64 : cfgS.inp nMathBitsTrailingZeros64 = none := show inpS nMathBitsTrailingZeros64 = none from by unfold inpS; rw [if_neg (show ¬ nMathBitsTrailingZeros64 = nSlicesSortIntInt by decide)]
theorem oMathBitsTrailingZeros64 : cfgS.orc nMathBitsTrailingZeros64 = none := show orcF nMathBitsTrailingZeros64 = none from by unfold orcF; rw [if_neg (show ¬ nMathBitsTrailingZeros64 = nSlicesCloneIntInt by decide)]
theorem sSlicesSortIntInt : cfgS.fn nSlicesSortIntInt = some (⟨false, false, true⟩, qSlicesSortIntInt) := gSlicesSortIntInt
theorem iSlicesSortIntInt : cfgS.inp nSlicesSortIntInt = some srtG := show inpS nSlicesSortIntInt = some srtG from by unfold inpS; rw [if_pos rfl]
theorem oSlicesSortIntInt : cfgS.orc nSlicesSortIntInt = none := show orcF nSlicesSortIntInt = none from by unfold orcF; rw [if_neg (show ¬ nSlicesSortIntInt = nSlicesCloneIntInt by decide)]
theorem sNodesetValid : cfgS.fn nNodesetValid = some (⟨false, false, true⟩, qNodesetValid) := gNodesetValid
theorem iNodesetValid : cfgS.inp nNodesetValid = none := show inpS nNodesetValid = none from by unfold inpS; rw [if_neg (show ¬ nNodesetValid = nSlicesSortIntInt by decide)]
theorem oNodesetValid : cfgS.orc nNodesetValid = none := show orcF nNodesetValid = none from by unfold orcF; rw [if_neg (show ¬ nNodesetValid = nSlicesCloneIntInt by decide)]
theorem sCliquesClique : cfgS.fn nCliquesClique = some (⟨false, false, true⟩, qCliquesClique) := gCliquesClique
theorem iCliquesClique : cfgS.inp nCliquesClique = none := show inpS nCliquesClique = none from by unfold inpS; rw [if_neg (show ¬ nCliquesClique = nSlicesSortIntInt by decide)]
theorem oCliquesClique : cfgS.orc nCliquesClique = none := show orcF nCliquesClique = none from by unfold orcF; rw [if_neg (show ¬ nCliquesClique = nSlicesCloneIntInt by decide)]
theorem sGraphOrder : cfgS.fn nGraphOrder = some (⟨false, false, true⟩, qGraphOrder) := gGraphOrder
theorem iGraphOrder : cfgS.inp nGraphOrder = none := show inpS nGraphOrder = none from by unfold inpS; rw [if_neg (show ¬ nGraphOrder = nSlicesSortIntInt by decide)]
theorem oGraphOrder : cfgS.orc nGraphOrder = none := show orcF nGraphOrder = none from by unfold orcF; rw [if_neg (show ¬ nGraphOrder = nSlicesCloneIntInt by decide)]
theorem sCliquesEach1 : cfgS.fn nCliquesEach1 = some (⟨true, false, false⟩, qCliquesEach1) := gCliquesEach1
theorem iCliquesEach1 : cfgS.inp nCliquesEach1 = none := show inpS nCliquesEach1 = none from by unfold inpS; rw [if_neg (show ¬ nCliquesEach1 = nSlicesSortIntInt by decide)]
theorem oCliquesEach1 : cfgS.orc nCliquesEach1 = none := show orcF nCliquesEach1 = none from by unfold orcF; rw [if_neg (show ¬ nCliquesEach1 = nSlicesCloneIntInt by decide)]
theorem sCliquesAllN77 : cfgS.fn nCliquesAllN77 = some (⟨false, false, true⟩, qCliquesAllN77) := gCliquesAllN77
theorem iCliquesAllN77 : cfgS.inp nCliquesAllN77 = none := show inpS nCliquesAllN77 = none from by unfold inpS; rw [if_neg (show ¬ nCliquesAllN77 = nSlicesSortIntInt by decide)]
theorem oCliquesAllN77 : cfgS.orc nCliquesAllN77 = none := show orcF nCliquesAllN77 = none from by unfold orcF; rw [if_neg (show ¬ nCliquesAllN77 = nSlicesCloneIntInt by decide)]
theorem sRef03Ends : cfgS.fn nRef03Ends = some (⟨false, false, true⟩, qRef03Ends) := gRef03Ends
theorem iRef03Ends : cfgS.inp nRef03Ends = none := show inpS nRef03Ends = none from by unfold inpS; rw [if_neg (show ¬ nRef03Ends = nSlicesSortIntInt by decide)]
theorem oRef03Ends : cfgS.orc nRef03Ends = none := show orcF nRef03Ends = none from by unfold orcF; rw [if_neg (show ¬ nRef03Ends = nSlicesCloneIntInt by decide)]
theorem sRef03With : cfgS.fn nRef03With = some (⟨false, false, false⟩, qRef03With) := gRef03With
theorem iRef03With : cfgS.inp nRef03With = none := show inpS nRef03With = none from by unfold inpS; rw [if_neg (show ¬ nRef03With = nSlicesSortIntInt by decide)]
theorem oRef03With : cfgS.orc nRef03With = none := show orcF nRef03With = none from by unfold orcF; rw [if_neg (show ¬ nRef03With = nSlicesCloneIntInt by decide)]
theorem sRef03Edge : cfgS.fn nRef03Edge = some (⟨false, false, false⟩, qRef03Edge) := gRef03Edge
theorem iRef03Edge : cfgS.inp nRef03Edge = none := show inpS nRef03Edge = none from by unfold inpS; rw [if_neg (show ¬ nRef03Edge = nSlicesSortIntInt by decide)]
theorem oRef03Edge : cfgS.orc nRef03Edge = none := show orcF nRef03Edge = none from by unfold orcF; rw [if_neg (show ¬ nRef03Edge = nSlicesCloneIntInt by decide)]
theorem sRef03Before : cfgS.fn nRef03Before = some (⟨false, false, true⟩, qRef03Before) := gRef03Before
theorem iRef03Before : cfgS.inp nRef03Before = none := show inpS nRef03Before = none from by unfold inpS; rw [if_neg (show ¬ nRef03Before = nSlicesSortIntInt by decide)]
theorem oRef03Before : cfgS.orc nRef03Before = none := show orcF nRef03Before = none from by unfold orcF; rw [if_neg (show ¬ nRef03Before = nSlicesCloneIntInt by decide)]
theorem sCmpOrInt : cfgS.fn nCmpOrInt = some (⟨false, false, true⟩, qCmpOrInt) := gCmpOrInt
theorem iCmpOrInt : cfgS.inp nCmpOrInt = none := show inpS nCmpOrInt = none from by unfold inpS; rw [if_neg (show ¬ nCmpOrInt = nSlicesSortIntInt by decide)]
theorem oCmpOrInt : cfgS.orc nCmpOrInt = none := show orcF nCmpOrInt = none from by unfold orcF; rw [if_neg (show ¬ nCmpOrInt = nSlicesCloneIntInt by decide)]
theorem sCmpCompareInt : cfgS.fn nCmpCompareInt = some (⟨false, false, true⟩, qCmpCompareInt) := gCmpCompareInt
theorem iCmpCompareInt : cfgS.inp nCmpCompareInt = none := show inpS nCmpCompareInt = none from by unfold inpS; rw [if_neg (show ¬ nCmpCompareInt = nSlicesSortIntInt by decide)]
theorem oCmpCompareInt : cfgS.orc nCmpCompareInt = none := show orcF nCmpCompareInt = none from by unfold orcF; rw [if_neg (show ¬ nCmpCompareInt = nSlicesCloneIntInt by decide)]
theorem sCmpIsNaNInt : cfgS.fn nCmpIsNaNInt = some (⟨false, false, true⟩, qCmpIsNaNInt) := gCmpIsNaNInt
theorem iCmpIsNaNInt : cfgS.inp nCmpIsNaNInt = none := show inpS nCmpIsNaNInt = none from by unfold inpS; rw [if_neg (show ¬ nCmpIsNaNInt = nSlicesSortIntInt by decide)]
theorem oCmpIsNaNInt : cfgS.orc nCmpIsNaNInt = none := show orcF nCmpIsNaNInt = none from by unfold orcF; rw [if_neg (show ¬ nCmpIsNaNInt = nSlicesCloneIntInt by decide)]
end Go.BmP
