/- The configuration with the library's functions that write into the slice they are given, and what it says of each function. -/
import Derived.Test.YtjfdniggjdnkiaaBmP
import Derived.Test.YtjfdniggjdnkiaaRunL
import Derived.Test.YtjfdniggjdnkiaaSetP
import Derived.Test.YtjfdniggjdnkiaaCloI
import Derived.Test.YtjfdniggjdnkiaaDgR
set_option maxRecDepth 100000
namespace Go.BmP
open Go.Am Go.Bm
def inpS (f : Nat) : Option (Nat → List AV → List AV → Option (List AV × Option Nat)) := if f = nSlicesSortIntInt then some srtG else none
def orcF (f : Nat) : Option (List AV → Heap → Option (AV × Heap)) := if f = nSlicesCloneIntInt then some gCloW else if f = nDegreeRealiseN29 then some gRz else none
def cfgS : Go.Bm.Cfg := { cfg with inp := inpS, orc := orcF }
theorem cfgSOK : CfgOKB Go.Proofs.Try.prog cfgS := ⟨cfgOK.mixed, cfgOK.fn⟩
theorem locN (f : Nat) : cfgS.loc f = false := rfl
theorem empN (f : Nat) : cfgS.emp f = false := rfl
theorem eatN (f : Nat) : cfgS.eat f = none := rfl
theorem sLaw09DegreeErdos : cfgS.fn nLaw09DegreeErdos = some (⟨false, false, true⟩, qLaw09DegreeErdos) := gLaw09DegreeErdos
theorem iLaw09DegreeErdos : cfgS.inp nLaw09DegreeErdos = none := show inpS nLaw09DegreeErdos = none from by unfold inpS; rw [if_neg (show ¬ nLaw09DegreeErdos = nSlicesSortIntInt by decide)]
theorem oLaw09DegreeErdos : cfgS.orc nLaw09DegreeErdos = none := show orcF nLaw09DegreeErdos = none from by unfold orcF; rw [if_neg (show ¬ nLaw09DegreeErdos = nSlicesCloneIntInt by decide), if_neg (show ¬ nLaw09DegreeErdos = nDegreeRealiseN29 by decide)]
theorem sMakeMod : cfgS.fn nMakeMod = some (⟨false, false, true⟩, qMakeMod) := gMakeMod
theorem iMakeMod : cfgS.inp nMakeMod = none := show inpS nMakeMod = none from by unfold inpS; rw [if_neg (show ¬ nMakeMod = nSlicesSortIntInt by decide)]
theorem oMakeMod : cfgS.orc nMakeMod = none := show orcF nMakeMod = none from by unfold orcF; rw [if_neg (show ¬ nMakeMod = nSlicesCloneIntInt by decide), if_neg (show ¬ nMakeMod = nDegreeRealiseN29 by decide)]
theorem sDegreeGraphic : cfgS.fn nDegreeGraphic = some (⟨false, false, true⟩, qDegreeGraphic) := gDegreeGraphic
theorem iDegreeGraphic : cfgS.inp nDegreeGraphic = none := show inpS nDegreeGraphic = none from by unfold inpS; rw [if_neg (show ¬ nDegreeGraphic = nSlicesSortIntInt by decide)]
theorem oDegreeGraphic : cfgS.orc nDegreeGraphic = none := show orcF nDegreeGraphic = none from by unfold orcF; rw [if_neg (show ¬ nDegreeGraphic = nSlicesCloneIntInt by decide), if_neg (show ¬ nDegreeGraphic = nDegreeRealiseN29 by decide)]
theorem sLaw09Awake : cfgS.fn nLaw09Awake = some (⟨false, false, true⟩, qLaw09Awake) := gLaw09Awake
theorem iLaw09Awake : cfgS.inp nLaw09Awake = none := show inpS nLaw09Awake = none from by unfold inpS; rw [if_neg (show ¬ nLaw09Awake = nSlicesSortIntInt by decide)]
theorem oLaw09Awake : cfgS.orc nLaw09Awake = none := show orcF nLaw09Awake = none from by unfold orcF; rw [if_neg (show ¬ nLaw09Awake = nSlicesCloneIntInt by decide), if_neg (show ¬ nLaw09Awake = nDegreeRealiseN29 by decide)]
theorem sDegreeH : cfgS.fn nDegreeH = some (⟨false, false, true⟩, qDegreeH) := gDegreeH
theorem iDegreeH : cfgS.inp nDegreeH = none := show inpS nDegreeH = none from by unfold inpS; rw [if_neg (show ¬ nDegreeH = nSlicesSortIntInt by decide)]
theorem oDegreeH : cfgS.orc nDegreeH = none := show orcF nDegreeH = none from by unfold orcF; rw [if_neg (show ¬ nDegreeH = nSlicesCloneIntInt by decide), if_neg (show ¬ nDegreeH = nDegreeRealiseN29 by decide)]
theorem sDegreeDegrees : cfgS.fn nDegreeDegrees = some (⟨false, false, false⟩, qDegreeDegrees) := gDegreeDegrees
theorem iDegreeDegrees : cfgS.inp nDegreeDegrees = none := show inpS nDegreeDegrees = none from by unfold inpS; rw [if_neg (show ¬ nDegreeDegrees = nSlicesSortIntInt by decide)]
theorem oDegreeDegrees : cfgS.orc nDegreeDegrees = none := show orcF nDegreeDegrees = none from by unfold orcF; rw [if_neg (show ¬ nDegreeDegrees = nSlicesCloneIntInt by decide), if_neg (show ¬ nDegreeDegrees = nDegreeRealiseN29 by decide)]
theorem sRef02Same : cfgS.fn nRef02Same = some (⟨false, false, true⟩, qRef02Same) := gRef02Same
theorem iRef02Same : cfgS.inp nRef02Same = none := show inpS nRef02Same = none from by unfold inpS; rw [if_neg (show ¬ nRef02Same = nSlicesSortIntInt by decide)]
theorem oRef02Same : cfgS.orc nRef02Same = none := show orcF nRef02Same = none from by unfold orcF; rw [if_neg (show ¬ nRef02Same = nSlicesCloneIntInt by decide), if_neg (show ¬ nRef02Same = nDegreeRealiseN29 by decide)]
theorem sDegreeRealiseN29 : cfgS.fn nDegreeRealiseN29 = some (⟨false, false, false⟩, qDegreeRealiseN29) := gDegreeRealiseN29
theorem iDegreeRealiseN29 : cfgS.inp nDegreeRealiseN29 = none := show inpS nDegreeRealiseN29 = none from by unfold inpS; rw [if_neg (show ¬ nDegreeRealiseN29 = nSlicesSortIntInt by decide)]
theorem oDegreeRealiseN29 : cfgS.orc nDegreeRealiseN29 = some gRz := show orcF nDegreeRealiseN29 = some gRz from by unfold orcF; rw [if_neg (show ¬ nDegreeRealiseN29 = nSlicesCloneIntInt by decide), if_pos rfl]
theorem sSlicesCloneIntInt : cfgS.fn nSlicesCloneIntInt = some (⟨false, true, true⟩, qSlicesCloneIntInt) := gSlicesCloneIntInt
theorem iSlicesCloneIntInt : cfgS.inp nSlicesCloneIntInt = none := show inpS nSlicesCloneIntInt = none from by unfold inpS; rw [if_neg (show ¬ nSlicesCloneIntInt = nSlicesSortIntInt by decide)]
theorem oSlicesCloneIntInt : cfgS.orc nSlicesCloneIntInt = some gCloW := show orcF nSlicesCloneIntInt = some gCloW from by unfold orcF; rw [if_pos rfl]
theorem sSlicesSortIntInt : cfgS.fn nSlicesSortIntInt = some (⟨false, false, true⟩, qSlicesSortIntInt) := gSlicesSortIntInt
theorem iSlicesSortIntInt : cfgS.inp nSlicesSortIntInt = some srtG := show inpS nSlicesSortIntInt = some srtG from by unfold inpS; rw [if_pos rfl]
theorem oSlicesSortIntInt : cfgS.orc nSlicesSortIntInt = none := show orcF nSlicesSortIntInt = none from by unfold orcF; rw [if_neg (show ¬ nSlicesSortIntInt = nSlicesCloneIntInt by decide), if_neg (show ¬ nSlicesSortIntInt = nDegreeRealiseN29 by decide)]
theorem sGraphCheck : cfgS.fn nGraphCheck = some (⟨false, false, true⟩, qGraphCheck) := gGraphCheck
theorem iGraphCheck : cfgS.inp nGraphCheck = none := show inpS nGraphCheck = none from by unfold inpS; rw [if_neg (show ¬ nGraphCheck = nSlicesSortIntInt by decide)]
theorem oGraphCheck : cfgS.orc nGraphCheck = none := show orcF nGraphCheck = none from by unfold orcF; rw [if_neg (show ¬ nGraphCheck = nSlicesCloneIntInt by decide), if_neg (show ¬ nGraphCheck = nDegreeRealiseN29 by decide)]
theorem sMasksRows : cfgS.fn nMasksRows = some (⟨false, false, false⟩, qMasksRows) := gMasksRows
theorem iMasksRows : cfgS.inp nMasksRows = none := show inpS nMasksRows = none from by unfold inpS; rw [if_neg (show ¬ nMasksRows = nSlicesSortIntInt by decide)]
theorem oMasksRows : cfgS.orc nMasksRows = none := show orcF nMasksRows = none from by unfold orcF; rw [if_neg (show ¬ nMasksRows = nSlicesCloneIntInt by decide), if_neg (show ¬ nMasksRows = nDegreeRealiseN29 by decide)]
theorem sMasksCount : cfgS.fn nMasksCount = some (⟨false, false, true⟩, qMasksCount) := gMasksCount
theorem iMasksCount : cfgS.inp nMasksCount = none := show inpS nMasksCount = none from by unfold inpS; rw [if_neg (show ¬ nMasksCount = nSlicesSortIntInt by decide)]
theorem oMasksCount : cfgS.orc nMasksCount = none := show orcF nMasksCount = none from by unfold orcF; rw [if_neg (show ¬ nMasksCount = nSlicesCloneIntInt by decide), if_neg (show ¬ nMasksCount = nDegreeRealiseN29 by decide)]
theorem sRef02Cmp : cfgS.fn nRef02Cmp = some (⟨false, false, true⟩, qRef02Cmp) := gRef02Cmp
theorem iRef02Cmp : cfgS.inp nRef02Cmp = none := show inpS nRef02Cmp = none from by unfold inpS; rw [if_neg (show ¬ nRef02Cmp = nSlicesSortIntInt by decide)]
theorem oRef02Cmp : cfgS.orc nRef02Cmp = none := show orcF nRef02Cmp = none from by unfold orcF; rw [if_neg (show ¬ nRef02Cmp = nSlicesCloneIntInt by decide), if_neg (show ¬ nRef02Cmp = nDegreeRealiseN29 by decide)]
theorem sGraphOrder : cfgS.fn nGraphOrder = some (⟨false, false, true⟩, qGraphOrder) := gGraphOrder
theorem iGraphOrder : cfgS.inp nGraphOrder = none := show inpS nGraphOrder = none from by unfold inpS; rw [if_neg (show ¬ nGraphOrder = nSlicesSortIntInt by decide)]
theorem oGraphOrder : cfgS.orc nGraphOrder = none := show orcF nGraphOrder = none from by unfold orcF; rw [if_neg (show ¬ nGraphOrder = nSlicesCloneIntInt by decide), if_neg (show ¬ nGraphOrder = nDegreeRealiseN29 by decide)]
theorem sMathBitsOnesCount64 : cfgS.fn nMathBitsOnesCount64 = some (⟨false, false, true⟩, qMathBitsOnesCount64) := gMathBitsOnesCount64
theorem iMathBitsOnesCount64 : cfgS.inp nMathBitsOnesCount64 = none := show inpS nMathBitsOnesCount64 = none from by unfold inpS; rw [if_neg (show ¬ nMathBitsOnesCount64 = nSlicesSortIntInt by decide)]
theorem oMathBitsOnesCount64 : cfgS.orc nMathBitsOnesCount64 = none := show orcF nMathBitsOnesCount64 = none from by unfold orcF; rw [if_neg (show ¬ nMathBitsOnesCount64 = nSlicesCloneIntInt by decide), if_neg (show ¬ nMathBitsOnesCount64 = nDegreeRealiseN29 by decide)]
theorem sCmpOrInt : cfgS.fn nCmpOrInt = some (⟨false, false, true⟩, qCmpOrInt) := gCmpOrInt
theorem iCmpOrInt : cfgS.inp nCmpOrInt = none := show inpS nCmpOrInt = none from by unfold inpS; rw [if_neg (show ¬ nCmpOrInt = nSlicesSortIntInt by decide)]
theorem oCmpOrInt : cfgS.orc nCmpOrInt = none := show orcF nCmpOrInt = none from by unfold orcF; rw [if_neg (show ¬ nCmpOrInt = nSlicesCloneIntInt by decide), if_neg (show ¬ nCmpOrInt = nDegreeRealiseN29 by decide)]
theorem sCmpCompareInt : cfgS.fn nCmpCompareInt = some (⟨false, false, true⟩, qCmpCompareInt) := gCmpCompareInt
theorem iCmpCompareInt : cfgS.inp nCmpCompareInt = none := show inpS nCmpCompareInt = none from by unfold inpS; rw [if_neg (show ¬ nCmpCompareInt = nSlicesSortIntInt by decide)]
theorem oCmpCompareInt : cfgS.orc nCmpCompareInt = none := show orcF nCmpCompareInt = none from by unfold orcF; rw [if_neg (show ¬ nCmpCompareInt = nSlicesCloneIntInt by decide), if_neg (show ¬ nCmpCompareInt = nDegreeRealiseN29 by decide)]
theorem sCmpIsNaNInt : cfgS.fn nCmpIsNaNInt = some (⟨false, false, true⟩, qCmpIsNaNInt) := gCmpIsNaNInt
theorem iCmpIsNaNInt : cfgS.inp nCmpIsNaNInt = none := show inpS nCmpIsNaNInt = none from by unfold inpS; rw [if_neg (show ¬ nCmpIsNaNInt = nSlicesSortIntInt by decide)]
theorem oCmpIsNaNInt : cfgS.orc nCmpIsNaNInt = none := show orcF nCmpIsNaNInt = none from by unfold orcF; rw [if_neg (show ¬ nCmpIsNaNInt = nSlicesCloneIntInt by decide), if_neg (show ¬ nCmpIsNaNInt = nDegreeRealiseN29 by decide)]
end Go.BmP
