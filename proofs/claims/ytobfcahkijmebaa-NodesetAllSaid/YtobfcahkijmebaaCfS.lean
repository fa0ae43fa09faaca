/- The configuration with the library's functions that write into the slice they are given, and what it says of each function. -/
import Derived.Test.YtobfcahkijmebaaBmP
import Derived.Test.YtobfcahkijmebaaRunL
import Derived.Test.YtobfcahkijmebaaSetP
set_option maxRecDepth 100000
namespace Go.BmP
open Go.Am Go.Bm
def inpS (f : Nat) : Option (Nat → List AV → List AV → Option (List AV × Option Nat)) := if f = nSlicesSortIntInt then some srtG else if f = nSlicesCompactIntInt then some cptG else none
def orcF (f : Nat) : Option (List AV → Heap → Option (AV × Heap)) := if f = nSlicesCloneIntInt then some gClo else none
def cfgS : Go.Bm.Cfg := { cfg with inp := inpS, orc := orcF }
theorem cfgSOK : CfgOKB Go.Proofs.Try.prog cfgS := ⟨cfgOK.mixed, cfgOK.fn⟩
theorem sLaw02NodesetWithin : cfgS.fn nLaw02NodesetWithin = some (⟨false, false, true⟩, qLaw02NodesetWithin) := gLaw02NodesetWithin
theorem iLaw02NodesetWithin : cfgS.inp nLaw02NodesetWithin = none := show inpS nLaw02NodesetWithin = none from by unfold inpS; rw [if_neg (show ¬ nLaw02NodesetWithin = nSlicesSortIntInt by decide), if_neg (show ¬ nLaw02NodesetWithin = nSlicesCompactIntInt by decide)]
theorem oLaw02NodesetWithin : cfgS.orc nLaw02NodesetWithin = none := show orcF nLaw02NodesetWithin = none from by unfold orcF; rw [if_neg (show ¬ nLaw02NodesetWithin = nSlicesCloneIntInt by decide)]
theorem sLaw02NodesetAll : cfgS.fn nLaw02NodesetAll = some (⟨false, false, true⟩, qLaw02NodesetAll) := gLaw02NodesetAll
theorem iLaw02NodesetAll : cfgS.inp nLaw02NodesetAll = none := show inpS nLaw02NodesetAll = none from by unfold inpS; rw [if_neg (show ¬ nLaw02NodesetAll = nSlicesSortIntInt by decide), if_neg (show ¬ nLaw02NodesetAll = nSlicesCompactIntInt by decide)]
theorem oLaw02NodesetAll : cfgS.orc nLaw02NodesetAll = none := show orcF nLaw02NodesetAll = none from by unfold orcF; rw [if_neg (show ¬ nLaw02NodesetAll = nSlicesCloneIntInt by decide)]
theorem sLaw02Awake : cfgS.fn nLaw02Awake = some (⟨false, false, true⟩, qLaw02Awake) := gLaw02Awake
theorem iLaw02Awake : cfgS.inp nLaw02Awake = none := show inpS nLaw02Awake = none from by unfold inpS; rw [if_neg (show ¬ nLaw02Awake = nSlicesSortIntInt by decide), if_neg (show ¬ nLaw02Awake = nSlicesCompactIntInt by decide)]
theorem oLaw02Awake : cfgS.orc nLaw02Awake = none := show orcF nLaw02Awake = none from by unfold orcF; rw [if_neg (show ¬ nLaw02Awake = nSlicesCloneIntInt by decide)]
theorem sNodesetCmp : cfgS.fn nNodesetCmp = some (⟨false, false, true⟩, qNodesetCmp) := gNodesetCmp
theorem iNodesetCmp : cfgS.inp nNodesetCmp = none := show inpS nNodesetCmp = none from by unfold inpS; rw [if_neg (show ¬ nNodesetCmp = nSlicesSortIntInt by decide), if_neg (show ¬ nNodesetCmp = nSlicesCompactIntInt by decide)]
theorem oNodesetCmp : cfgS.orc nNodesetCmp = none := show orcF nNodesetCmp = none from by unfold orcF; rw [if_neg (show ¬ nNodesetCmp = nSlicesCloneIntInt by decide)]
theorem sRef02Same : cfgS.fn nRef02Same = some (⟨false, false, true⟩, qRef02Same) := gRef02Same
theorem iRef02Same : cfgS.inp nRef02Same = none := show inpS nRef02Same = none from by unfold inpS; rw [if_neg (show ¬ nRef02Same = nSlicesSortIntInt by decide), if_neg (show ¬ nRef02Same = nSlicesCompactIntInt by decide)]
theorem oRef02Same : cfgS.orc nRef02Same = none := show orcF nRef02Same = none from by unfold orcF; rw [if_neg (show ¬ nRef02Same = nSlicesCloneIntInt by decide)]
theorem sNodesetUnion : cfgS.fn nNodesetUnion = some (⟨false, false, false⟩, qNodesetUnion) := gNodesetUnion
theorem iNodesetUnion : cfgS.inp nNodesetUnion = none := show inpS nNodesetUnion = none from by unfold inpS; rw [if_neg (show ¬ nNodesetUnion = nSlicesSortIntInt by decide), if_neg (show ¬ nNodesetUnion = nSlicesCompactIntInt by decide)]
theorem oNodesetUnion : cfgS.orc nNodesetUnion = none := show orcF nNodesetUnion = none from by unfold orcF; rw [if_neg (show ¬ nNodesetUnion = nSlicesCloneIntInt by decide)]
theorem sNodesetMeet : cfgS.fn nNodesetMeet = some (⟨false, false, false⟩, qNodesetMeet) := gNodesetMeet
theorem iNodesetMeet : cfgS.inp nNodesetMeet = none := show inpS nNodesetMeet = none from by unfold inpS; rw [if_neg (show ¬ nNodesetMeet = nSlicesSortIntInt by decide), if_neg (show ¬ nNodesetMeet = nSlicesCompactIntInt by decide)]
theorem oNodesetMeet : cfgS.orc nNodesetMeet = none := show orcF nNodesetMeet = none from by unfold orcF; rw [if_neg (show ¬ nNodesetMeet = nSlicesCloneIntInt by decide)]
theorem sNodesetMinus : cfgS.fn nNodesetMinus = some (⟨false, false, false⟩, qNodesetMinus) := gNodesetMinus
theorem iNodesetMinus : cfgS.inp nNodesetMinus = none := show inpS nNodesetMinus = none from by unfold inpS; rw [if_neg (show ¬ nNodesetMinus = nSlicesSortIntInt by decide), if_neg (show ¬ nNodesetMinus = nSlicesCompactIntInt by decide)]
theorem oNodesetMinus : cfgS.orc nNodesetMinus = none := show orcF nNodesetMinus = none from by unfold orcF; rw [if_neg (show ¬ nNodesetMinus = nSlicesCloneIntInt by decide)]
theorem sNodesetOf : cfgS.fn nNodesetOf = some (⟨false, false, false⟩, qNodesetOf) := gNodesetOf
theorem iNodesetOf : cfgS.inp nNodesetOf = none := show inpS nNodesetOf = none from by unfold inpS; rw [if_neg (show ¬ nNodesetOf = nSlicesSortIntInt by decide), if_neg (show ¬ nNodesetOf = nSlicesCompactIntInt by decide)]
theorem oNodesetOf : cfgS.orc nNodesetOf = none := show orcF nNodesetOf = none from by unfold orcF; rw [if_neg (show ¬ nNodesetOf = nSlicesCloneIntInt by decide)]
theorem sNodesetWithin : cfgS.fn nNodesetWithin = some (⟨false, false, true⟩, qNodesetWithin) := gNodesetWithin
theorem iNodesetWithin : cfgS.inp nNodesetWithin = none := show inpS nNodesetWithin = none from by unfold inpS; rw [if_neg (show ¬ nNodesetWithin = nSlicesSortIntInt by decide), if_neg (show ¬ nNodesetWithin = nSlicesCompactIntInt by decide)]
theorem oNodesetWithin : cfgS.orc nNodesetWithin = none := show orcF nNodesetWithin = none from by unfold orcF; rw [if_neg (show ¬ nNodesetWithin = nSlicesCloneIntInt by decide)]
theorem sNodesetHas : cfgS.fn nNodesetHas = some (⟨false, false, true⟩, qNodesetHas) := gNodesetHas
theorem iNodesetHas : cfgS.inp nNodesetHas = none := show inpS nNodesetHas = none from by unfold inpS; rw [if_neg (show ¬ nNodesetHas = nSlicesSortIntInt by decide), if_neg (show ¬ nNodesetHas = nSlicesCompactIntInt by decide)]
theorem oNodesetHas : cfgS.orc nNodesetHas = none := show orcF nNodesetHas = none from by unfold orcF; rw [if_neg (show ¬ nNodesetHas = nSlicesCloneIntInt by decide)]
theorem sNodesetValid : cfgS.fn nNodesetValid = some (⟨false, false, true⟩, qNodesetValid) := gNodesetValid
theorem iNodesetValid : cfgS.inp nNodesetValid = none := show inpS nNodesetValid = none from by unfold inpS; rw [if_neg (show ¬ nNodesetValid = nSlicesSortIntInt by decide), if_neg (show ¬ nNodesetValid = nSlicesCompactIntInt by decide)]
theorem oNodesetValid : cfgS.orc nNodesetValid = none := show orcF nNodesetValid = none from by unfold orcF; rw [if_neg (show ¬ nNodesetValid = nSlicesCloneIntInt by decide)]
theorem sNodesetRange : cfgS.fn nNodesetRange = some (⟨false, false, false⟩, qNodesetRange) := gNodesetRange
theorem iNodesetRange : cfgS.inp nNodesetRange = none := show inpS nNodesetRange = none from by unfold inpS; rw [if_neg (show ¬ nNodesetRange = nSlicesSortIntInt by decide), if_neg (show ¬ nNodesetRange = nSlicesCompactIntInt by decide)]
theorem oNodesetRange : cfgS.orc nNodesetRange = none := show orcF nNodesetRange = none from by unfold orcF; rw [if_neg (show ¬ nNodesetRange = nSlicesCloneIntInt by decide)]
theorem sRef02Of : cfgS.fn nRef02Of = some (⟨false, false, false⟩, qRef02Of) := gRef02Of
theorem iRef02Of : cfgS.inp nRef02Of = none := show inpS nRef02Of = none from by unfold inpS; rw [if_neg (show ¬ nRef02Of = nSlicesSortIntInt by decide), if_neg (show ¬ nRef02Of = nSlicesCompactIntInt by decide)]
theorem oRef02Of : cfgS.orc nRef02Of = none := show orcF nRef02Of = none from by unfold orcF; rw [if_neg (show ¬ nRef02Of = nSlicesCloneIntInt by decide)]
theorem sRef02Valid : cfgS.fn nRef02Valid = some (⟨false, false, true⟩, qRef02Valid) := gRef02Valid
theorem iRef02Valid : cfgS.inp nRef02Valid = none := show inpS nRef02Valid = none from by unfold inpS; rw [if_neg (show ¬ nRef02Valid = nSlicesSortIntInt by decide), if_neg (show ¬ nRef02Valid = nSlicesCompactIntInt by decide)]
theorem oRef02Valid : cfgS.orc nRef02Valid = none := show orcF nRef02Valid = none from by unfold orcF; rw [if_neg (show ¬ nRef02Valid = nSlicesCloneIntInt by decide)]
theorem sRef02Has : cfgS.fn nRef02Has = some (⟨false, false, true⟩, qRef02Has) := gRef02Has
theorem iRef02Has : cfgS.inp nRef02Has = none := show inpS nRef02Has = none from by unfold inpS; rw [if_neg (show ¬ nRef02Has = nSlicesSortIntInt by decide), if_neg (show ¬ nRef02Has = nSlicesCompactIntInt by decide)]
theorem oRef02Has : cfgS.orc nRef02Has = none := show orcF nRef02Has = none from by unfold orcF; rw [if_neg (show ¬ nRef02Has = nSlicesCloneIntInt by decide)]
theorem sRef02Union : cfgS.fn nRef02Union = some (⟨false, false, false⟩, qRef02Union) := gRef02Union
theorem iRef02Union : cfgS.inp nRef02Union = none := show inpS nRef02Union = none from by unfold inpS; rw [if_neg (show ¬ nRef02Union = nSlicesSortIntInt by decide), if_neg (show ¬ nRef02Union = nSlicesCompactIntInt by decide)]
theorem oRef02Union : cfgS.orc nRef02Union = none := show orcF nRef02Union = none from by unfold orcF; rw [if_neg (show ¬ nRef02Union = nSlicesCloneIntInt by decide)]
theorem sRef02Meet : cfgS.fn nRef02Meet = some (⟨false, false, false⟩, qRef02Meet) := gRef02Meet
theorem iRef02Meet : cfgS.inp nRef02Meet = none := show inpS nRef02Meet = none from by unfold inpS; rw [if_neg (show ¬ nRef02Meet = nSlicesSortIntInt by decide), if_neg (show ¬ nRef02Meet = nSlicesCompactIntInt by decide)]
theorem oRef02Meet : cfgS.orc nRef02Meet = none := show orcF nRef02Meet = none from by unfold orcF; rw [if_neg (show ¬ nRef02Meet = nSlicesCloneIntInt by decide)]
theorem sRef02Minus : cfgS.fn nRef02Minus = some (⟨false, false, false⟩, qRef02Minus) := gRef02Minus
theorem iRef02Minus : cfgS.inp nRef02Minus = none := show inpS nRef02Minus = none from by unfold inpS; rw [if_neg (show ¬ nRef02Minus = nSlicesSortIntInt by decide), if_neg (show ¬ nRef02Minus = nSlicesCompactIntInt by decide)]
theorem oRef02Minus : cfgS.orc nRef02Minus = none := show orcF nRef02Minus = none from by unfold orcF; rw [if_neg (show ¬ nRef02Minus = nSlicesCloneIntInt by decide)]
theorem sRef02Within : cfgS.fn nRef02Within = some (⟨false, false, true⟩, qRef02Within) := gRef02Within
theorem iRef02Within : cfgS.inp nRef02Within = none := show inpS nRef02Within = none from by unfold inpS; rw [if_neg (show ¬ nRef02Within = nSlicesSortIntInt by decide), if_neg (show ¬ nRef02Within = nSlicesCompactIntInt by decide)]
theorem oRef02Within : cfgS.orc nRef02Within = none := show orcF nRef02Within = none from by unfold orcF; rw [if_neg (show ¬ nRef02Within = nSlicesCloneIntInt by decide)]
theorem sRef02Cmp : cfgS.fn nRef02Cmp = some (⟨false, false, true⟩, qRef02Cmp) := gRef02Cmp
theorem iRef02Cmp : cfgS.inp nRef02Cmp = none := show inpS nRef02Cmp = none from by unfold inpS; rw [if_neg (show ¬ nRef02Cmp = nSlicesSortIntInt by decide), if_neg (show ¬ nRef02Cmp = nSlicesCompactIntInt by decide)]
theorem oRef02Cmp : cfgS.orc nRef02Cmp = none := show orcF nRef02Cmp = none from by unfold orcF; rw [if_neg (show ¬ nRef02Cmp = nSlicesCloneIntInt by decide)]
theorem sMakeMod : cfgS.fn nMakeMod = some (⟨false, false, true⟩, qMakeMod) := gMakeMod
theorem iMakeMod : cfgS.inp nMakeMod = none := show inpS nMakeMod = none from by unfold inpS; rw [if_neg (show ¬ nMakeMod = nSlicesSortIntInt by decide), if_neg (show ¬ nMakeMod = nSlicesCompactIntInt by decide)]
theorem oMakeMod : cfgS.orc nMakeMod = none := show orcF nMakeMod = none from by unfold orcF; rw [if_neg (show ¬ nMakeMod = nSlicesCloneIntInt by decide)]
theorem sRef02Range : cfgS.fn nRef02Range = some (⟨false, false, false⟩, qRef02Range) := gRef02Range
theorem iRef02Range : cfgS.inp nRef02Range = none := show inpS nRef02Range = none from by unfold inpS; rw [if_neg (show ¬ nRef02Range = nSlicesSortIntInt by decide), if_neg (show ¬ nRef02Range = nSlicesCompactIntInt by decide)]
theorem oRef02Range : cfgS.orc nRef02Range = none := show orcF nRef02Range = none from by unfold orcF; rw [if_neg (show ¬ nRef02Range = nSlicesCloneIntInt by decide)]
theorem sSlicesCompareIntInt : cfgS.fn nSlicesCompareIntInt = some (⟨false, false, true⟩, qSlicesCompareIntInt) := gSlicesCompareIntInt
theorem iSlicesCompareIntInt : cfgS.inp nSlicesCompareIntInt = none := show inpS nSlicesCompareIntInt = none from by unfold inpS; rw [if_neg (show ¬ nSlicesCompareIntInt = nSlicesSortIntInt by decide), if_neg (show ¬ nSlicesCompareIntInt = nSlicesCompactIntInt by decide)]
theorem oSlicesCompareIntInt : cfgS.orc nSlicesCompareIntInt = none := show orcF nSlicesCompareIntInt = none from by unfold orcF; rw [if_neg (show ¬ nSlicesCompareIntInt = nSlicesCloneIntInt by decide)]
theorem sNodesetMergedInt : cfgS.fn nNodesetMergedInt = some (⟨false, false, false⟩, qNodesetMergedInt) := gNodesetMergedInt
theorem iNodesetMergedInt : cfgS.inp nNodesetMergedInt = none := show inpS nNodesetMergedInt = none from by unfold inpS; rw [if_neg (show ¬ nNodesetMergedInt = nSlicesSortIntInt by decide), if_neg (show ¬ nNodesetMergedInt = nSlicesCompactIntInt by decide)]
theorem oNodesetMergedInt : cfgS.orc nNodesetMergedInt = none := show orcF nNodesetMergedInt = none from by unfold orcF; rw [if_neg (show ¬ nNodesetMergedInt = nSlicesCloneIntInt by decide)]
theorem sNodesetUnion1 : cfgS.fn nNodesetUnion1 = some (⟨false, false, true⟩, qNodesetUnion1) := gNodesetUnion1
theorem iNodesetUnion1 : cfgS.inp nNodesetUnion1 = none := show inpS nNodesetUnion1 = none from by unfold inpS; rw [if_neg (show ¬ nNodesetUnion1 = nSlicesSortIntInt by decide), if_neg (show ¬ nNodesetUnion1 = nSlicesCompactIntInt by decide)]
theorem oNodesetUnion1 : cfgS.orc nNodesetUnion1 = none := show orcF nNodesetUnion1 = none from by unfold orcF; rw [if_neg (show ¬ nNodesetUnion1 = nSlicesCloneIntInt by decide)]
theorem sNodesetMeet1 : cfgS.fn nNodesetMeet1 = some (⟨false, false, true⟩, qNodesetMeet1) := gNodesetMeet1
theorem iNodesetMeet1 : cfgS.inp nNodesetMeet1 = none := show inpS nNodesetMeet1 = none from by unfold inpS; rw [if_neg (show ¬ nNodesetMeet1 = nSlicesSortIntInt by decide), if_neg (show ¬ nNodesetMeet1 = nSlicesCompactIntInt by decide)]
theorem oNodesetMeet1 : cfgS.orc nNodesetMeet1 = none := show orcF nNodesetMeet1 = none from by unfold orcF; rw [if_neg (show ¬ nNodesetMeet1 = nSlicesCloneIntInt by decide)]
theorem sNodesetMinus1 : cfgS.fn nNodesetMinus1 = some (⟨false, false, true⟩, qNodesetMinus1) := gNodesetMinus1
theorem iNodesetMinus1 : cfgS.inp nNodesetMinus1 = none := show inpS nNodesetMinus1 = none from by unfold inpS; rw [if_neg (show ¬ nNodesetMinus1 = nSlicesSortIntInt by decide), if_neg (show ¬ nNodesetMinus1 = nSlicesCompactIntInt by decide)]
theorem oNodesetMinus1 : cfgS.orc nNodesetMinus1 = none := show orcF nNodesetMinus1 = none from by unfold orcF; rw [if_neg (show ¬ nNodesetMinus1 = nSlicesCloneIntInt by decide)]
theorem sSlicesContainsIntInt : cfgS.fn nSlicesContainsIntInt = some (⟨false, false, true⟩, qSlicesContainsIntInt) := gSlicesContainsIntInt
theorem iSlicesContainsIntInt : cfgS.inp nSlicesContainsIntInt = none := show inpS nSlicesContainsIntInt = none from by unfold inpS; rw [if_neg (show ¬ nSlicesContainsIntInt = nSlicesSortIntInt by decide), if_neg (show ¬ nSlicesContainsIntInt = nSlicesCompactIntInt by decide)]
theorem oSlicesContainsIntInt : cfgS.orc nSlicesContainsIntInt = none := show orcF nSlicesContainsIntInt = none from by unfold orcF; rw [if_neg (show ¬ nSlicesContainsIntInt = nSlicesCloneIntInt by decide)]
theorem sRef02Put : cfgS.fn nRef02Put = some (⟨false, false, false⟩, qRef02Put) := gRef02Put
theorem iRef02Put : cfgS.inp nRef02Put = none := show inpS nRef02Put = none from by unfold inpS; rw [if_neg (show ¬ nRef02Put = nSlicesSortIntInt by decide), if_neg (show ¬ nRef02Put = nSlicesCompactIntInt by decide)]
theorem oRef02Put : cfgS.orc nRef02Put = none := show orcF nRef02Put = none from by unfold orcF; rw [if_neg (show ¬ nRef02Put = nSlicesCloneIntInt by decide)]
theorem sCmpCompareInt : cfgS.fn nCmpCompareInt = some (⟨false, false, true⟩, qCmpCompareInt) := gCmpCompareInt
theorem iCmpCompareInt : cfgS.inp nCmpCompareInt = none := show inpS nCmpCompareInt = none from by unfold inpS; rw [if_neg (show ¬ nCmpCompareInt = nSlicesSortIntInt by decide), if_neg (show ¬ nCmpCompareInt = nSlicesCompactIntInt by decide)]
theorem oCmpCompareInt : cfgS.orc nCmpCompareInt = none := show orcF nCmpCompareInt = none from by unfold orcF; rw [if_neg (show ¬ nCmpCompareInt = nSlicesCloneIntInt by decide)]
theorem sSlicesCloneIntInt : cfgS.fn nSlicesCloneIntInt = some (⟨false, true, true⟩, qSlicesCloneIntInt) := gSlicesCloneIntInt
theorem iSlicesCloneIntInt : cfgS.inp nSlicesCloneIntInt = none := show inpS nSlicesCloneIntInt = none from by unfold inpS; rw [if_neg (show ¬ nSlicesCloneIntInt = nSlicesSortIntInt by decide), if_neg (show ¬ nSlicesCloneIntInt = nSlicesCompactIntInt by decide)]
theorem oSlicesCloneIntInt : cfgS.orc nSlicesCloneIntInt = some gClo := show orcF nSlicesCloneIntInt = some gClo from by unfold orcF; rw [if_pos rfl]
theorem sSlicesSortIntInt : cfgS.fn nSlicesSortIntInt = some (⟨false, false, true⟩, qSlicesSortIntInt) := gSlicesSortIntInt
theorem iSlicesSortIntInt : cfgS.inp nSlicesSortIntInt = some srtG := show inpS nSlicesSortIntInt = some srtG from by unfold inpS; rw [if_pos rfl]
theorem oSlicesSortIntInt : cfgS.orc nSlicesSortIntInt = none := show orcF nSlicesSortIntInt = none from by unfold orcF; rw [if_neg (show ¬ nSlicesSortIntInt = nSlicesCloneIntInt by decide)]
theorem sSlicesCompactIntInt : cfgS.fn nSlicesCompactIntInt = some (⟨false, false, false⟩, qSlicesCompactIntInt) := gSlicesCompactIntInt
theorem iSlicesCompactIntInt : cfgS.inp nSlicesCompactIntInt = some cptG := show inpS nSlicesCompactIntInt = some cptG from by unfold inpS; rw [if_neg (show ¬ nSlicesCompactIntInt = nSlicesSortIntInt by decide), if_pos rfl]
theorem oSlicesCompactIntInt : cfgS.orc nSlicesCompactIntInt = none := show orcF nSlicesCompactIntInt = none from by unfold orcF; rw [if_neg (show ¬ nSlicesCompactIntInt = nSlicesCloneIntInt by decide)]
theorem sSlicesIndexIntInt : cfgS.fn nSlicesIndexIntInt = some (⟨false, false, true⟩, qSlicesIndexIntInt) := gSlicesIndexIntInt
theorem iSlicesIndexIntInt : cfgS.inp nSlicesIndexIntInt = none := show inpS nSlicesIndexIntInt = none from by unfold inpS; rw [if_neg (show ¬ nSlicesIndexIntInt = nSlicesSortIntInt by decide), if_neg (show ¬ nSlicesIndexIntInt = nSlicesCompactIntInt by decide)]
theorem oSlicesIndexIntInt : cfgS.orc nSlicesIndexIntInt = none := show orcF nSlicesIndexIntInt = none from by unfold orcF; rw [if_neg (show ¬ nSlicesIndexIntInt = nSlicesCloneIntInt by decide)]
theorem sCmpIsNaNInt : cfgS.fn nCmpIsNaNInt = some (⟨false, false, true⟩, qCmpIsNaNInt) := gCmpIsNaNInt
theorem iCmpIsNaNInt : cfgS.inp nCmpIsNaNInt = none := show inpS nCmpIsNaNInt = none from by unfold inpS; rw [if_neg (show ¬ nCmpIsNaNInt = nSlicesSortIntInt by decide), if_neg (show ¬ nCmpIsNaNInt = nSlicesCompactIntInt by decide)]
theorem oCmpIsNaNInt : cfgS.orc nCmpIsNaNInt = none := show orcF nCmpIsNaNInt = none from by unfold orcF; rw [if_neg (show ¬ nCmpIsNaNInt = nSlicesCloneIntInt by decide)]
end Go.BmP
