/- The compact code of the functions, printed by program off the translation. -/
import Derived.Test.YtnffadblmhadbaaChecked
import Derived.Test.YtnffadblmhadbaaAmK
import Derived.KernelRfl
set_option maxRecDepth 100000
namespace Go.AmP
open Go.Am
def nLaw02NodesetOrder : Nat := 3
def nLaw02NodesetLaws : Nat := 4
def nLaw02NodesetWithin : Nat := 5
def nLaw02Awake : Nat := 6
def nNodesetCmp : Nat := 7
def nRef02Same : Nat := 8
def nNodesetUnion : Nat := 9
def nNodesetMeet : Nat := 10
def nNodesetMinus : Nat := 11
def nNodesetOf : Nat := 12
def nNodesetWithin : Nat := 13
def nNodesetHas : Nat := 14
def nNodesetValid : Nat := 15
def nNodesetRange : Nat := 16
def nSlicesCompareIntInt : Nat := 17
def nRef02Cmp : Nat := 18
def nNodesetMergedInt : Nat := 19
def nNodesetUnion1 : Nat := 20
def nNodesetMeet1 : Nat := 21
def nNodesetMinus1 : Nat := 22
def nSlicesContainsIntInt : Nat := 23
def nCmpCompareInt : Nat := 24
def nSlicesCloneIntInt : Nat := 25
def nSlicesSortIntInt : Nat := 26
def nSlicesCompactIntInt : Nat := 27
def nSlicesIndexIntInt : Nat := 28
def nCmpIsNaNInt : Nat := 29
def nSlicesPdqsortOrderedInt : Nat := 30
def nMathBitsLen : Nat := 31
def nSlicesInsertionSortOrderedInt : Nat := 32
def nSlicesHeapSortOrderedInt : Nat := 33
def nSlicesBreakPatternsOrderedInt : Nat := 34
def nSlicesChoosePivotOrderedInt : Nat := 35
def nSlicesReverseRangeOrderedInt : Nat := 36
def nSlicesPartialInsertionSortOrderedInt : Nat := 37
def nCmpLessInt : Nat := 38
def nSlicesPartitionEqualOrderedInt : Nat := 39
def nSlicesPartitionOrderedInt : Nat := 40
def nMathBitsLen32 : Nat := 41
def nMathBitsLen64 : Nat := 42
def nSlicesSiftDownOrderedInt : Nat := 43
def nSlicesNextPowerOfTwo : Nat := 44
def nSlicesXorshiftNext : Nat := 45
def nSlicesMedianAdjacentOrderedInt : Nat := 46
def nSlicesMedianOrderedInt : Nat := 47
def nSlicesOrder2OrderedInt : Nat := 48
/- cohesion/cohesionlaw02.NodesetOrder -/
def rLaw02NodesetOrderX0 : List O := [
  ⟨(some 6), none, .mv (.k (.bool false))⟩]
def rLaw02NodesetOrderX1 : List O := [
  ⟨(some 10), none, .mv (.t 0)⟩,
  ⟨(some 11), none, .len (.t 10)⟩,
  ⟨(some 12), none, .mv (.t 1)⟩,
  ⟨(some 13), none, .len (.t 12)⟩,
  ⟨(some 14), none, .bin .add (.t 11) (.t 13)⟩,
  ⟨(some 15), none, .mv (.t 2)⟩,
  ⟨(some 16), none, .len (.t 15)⟩,
  ⟨(some 17), none, .bin .add (.t 14) (.t 16)⟩,
  ⟨(some 18), none, .bin .gtr (.t 17) (.k (.int .i64 300))⟩]
def rLaw02NodesetOrderX2 : List O := [
  ⟨(some 19), none, .call nLaw02Awake []⟩,
  ⟨(some 6), none, .mv (.t 19)⟩]
def rLaw02NodesetOrderX3 : List O := [
  ⟨(some 20), none, .mv (.t 0)⟩,
  ⟨(some 21), none, .mv (.t 1)⟩,
  ⟨(some 22), none, .call nNodesetCmp [(.t 20), (.t 21)]⟩,
  ⟨(some 23), none, .mv (.t 1)⟩,
  ⟨(some 24), none, .mv (.t 2)⟩,
  ⟨(some 25), none, .call nNodesetCmp [(.t 23), (.t 24)]⟩,
  ⟨(some 26), none, .mv (.t 0)⟩,
  ⟨(some 27), none, .mv (.t 2)⟩,
  ⟨(some 28), none, .call nNodesetCmp [(.t 26), (.t 27)]⟩,
  ⟨(some 7), none, .mv (.t 22)⟩,
  ⟨(some 8), none, .mv (.t 25)⟩,
  ⟨(some 9), none, .mv (.t 28)⟩]
def rLaw02NodesetOrderX4 : List O := [
  ⟨(some 29), none, .mv (.t 7)⟩,
  ⟨(some 30), none, .bin .leq (.t 29) (.k (.int .i64 0))⟩,
  ⟨(some 31), none, .mv (.t 30)⟩,
  ⟨(some 32), (some (31, true)), .mv (.t 8)⟩,
  ⟨(some 33), (some (31, true)), .bin .leq (.t 32) (.k (.int .i64 0))⟩,
  ⟨(some 34), none, .pick (.t 31) (.t 33) (.k (.bool false))⟩,
  ⟨(some 35), none, .mv (.t 34)⟩,
  ⟨(some 36), (some (35, true)), .mv (.t 9)⟩,
  ⟨(some 37), (some (35, true)), .bin .gtr (.t 36) (.k (.int .i64 0))⟩,
  ⟨(some 38), none, .pick (.t 35) (.t 37) (.k (.bool false))⟩,
  ⟨(some 39), none, .mv (.t 38)⟩,
  ⟨(some 40), (some (39, false)), .mv (.t 7)⟩,
  ⟨(some 41), (some (39, false)), .bin .geq (.t 40) (.k (.int .i64 0))⟩,
  ⟨(some 42), (some (39, false)), .mv (.t 41)⟩,
  ⟨(some 43), (some (42, true)), .mv (.t 8)⟩,
  ⟨(some 44), (some (42, true)), .bin .geq (.t 43) (.k (.int .i64 0))⟩,
  ⟨(some 45), (some (39, false)), .pick (.t 42) (.t 44) (.k (.bool false))⟩,
  ⟨(some 46), (some (39, false)), .mv (.t 45)⟩,
  ⟨(some 47), (some (46, true)), .mv (.t 9)⟩,
  ⟨(some 48), (some (46, true)), .bin .lss (.t 47) (.k (.int .i64 0))⟩,
  ⟨(some 49), (some (39, false)), .pick (.t 46) (.t 48) (.k (.bool false))⟩,
  ⟨(some 50), none, .pick (.t 39) (.k (.bool true)) (.t 49)⟩]
def rLaw02NodesetOrderX5 : List O := [
  ⟨(some 6), none, .mv (.k (.bool false))⟩]
def rLaw02NodesetOrderX6 : List O := [
  ⟨(some 51), none, .mv (.t 7)⟩,
  ⟨(some 52), none, .mv (.t 1)⟩,
  ⟨(some 53), none, .mv (.t 0)⟩,
  ⟨(some 54), none, .call nNodesetCmp [(.t 52), (.t 53)]⟩,
  ⟨(some 55), none, .un .neg (.t 54)⟩,
  ⟨(some 56), none, .bin .eql (.t 51) (.t 55)⟩,
  ⟨(some 57), none, .mv (.t 56)⟩,
  ⟨(some 58), (some (57, true)), .mv (.t 7)⟩,
  ⟨(some 59), (some (57, true)), .bin .eql (.t 58) (.k (.int .i64 0))⟩,
  ⟨(some 60), (some (57, true)), .mv (.t 0)⟩,
  ⟨(some 61), (some (57, true)), .mv (.t 1)⟩,
  ⟨(some 62), (some (57, true)), .call nRef02Same [(.t 60), (.t 61)]⟩,
  ⟨(some 63), (some (57, true)), .eq false .bool (.t 59) (.t 62)⟩,
  ⟨(some 64), none, .pick (.t 57) (.t 63) (.k (.bool false))⟩,
  ⟨(some 65), none, .mv (.t 64)⟩,
  ⟨(some 66), (some (65, true)), .mv (.t 0)⟩,
  ⟨(some 67), (some (65, true)), .len (.t 66)⟩,
  ⟨(some 68), (some (65, true)), .bin .eql (.t 67) (.k (.int .i64 0))⟩,
  ⟨(some 69), (some (65, true)), .mv (.t 68)⟩,
  ⟨(some 70), (some (69, false)), .mv (.t 0)⟩,
  ⟨(some 71), (some (69, false)), .mv (.t 0)⟩,
  ⟨(some 72), (some (69, false)), .len (.t 71)⟩,
  ⟨(some 73), (some (69, false)), .bin .sub (.t 72) (.k (.int .i64 1))⟩,
  ⟨(some 74), (some (69, false)), .slc 1 (.t 70) none (some (.t 73))⟩,
  ⟨(some 75), (some (69, false)), .mv (.t 0)⟩,
  ⟨(some 76), (some (69, false)), .call nNodesetCmp [(.t 74), (.t 75)]⟩,
  ⟨(some 77), (some (69, false)), .bin .eql (.t 76) (.k (.int .i64 (-1)))⟩,
  ⟨(some 78), (some (65, true)), .pick (.t 69) (.k (.bool true)) (.t 77)⟩,
  ⟨(some 79), none, .pick (.t 65) (.t 78) (.k (.bool false))⟩,
  ⟨(some 80), none, .mv (.t 79)⟩,
  ⟨(some 81), (some (80, true)), .mv (.t 0)⟩,
  ⟨(some 82), (some (80, true)), .mv (.t 0)⟩,
  ⟨(some 83), (some (80, true)), .app 1 (.k .nils) (.t 82)⟩,
  ⟨(some 84), (some (80, true)), .bslice 1 1 [(.int .i64 0)] [(0, 1, (.k (.int .i64 0)))]⟩,
  ⟨(some 85), (some (80, true)), .app 1 (.t 83) (.t 84)⟩,
  ⟨(some 86), (some (80, true)), .call nNodesetCmp [(.t 81), (.t 85)]⟩,
  ⟨(some 87), (some (80, true)), .bin .eql (.t 86) (.k (.int .i64 (-1)))⟩,
  ⟨(some 88), none, .pick (.t 80) (.t 87) (.k (.bool false))⟩,
  ⟨(some 89), none, .mv (.t 88)⟩,
  ⟨(some 90), (some (89, true)), .call nLaw02Awake []⟩,
  ⟨(some 91), none, .pick (.t 89) (.t 90) (.k (.bool false))⟩,
  ⟨(some 6), none, .mv (.t 91)⟩]
def cLaw02NodesetOrder : C := (.seq (.reg rLaw02NodesetOrderX0 false [] [0, 1, 2]) (.seq (.seq (.reg rLaw02NodesetOrderX1 false [] [0, 1, 2, 18]) (.cond (.t 18) (.seq (.reg rLaw02NodesetOrderX2 false [] [6]) .ret) .skip)) (.seq (.reg rLaw02NodesetOrderX3 false [] [0, 1, 7, 8, 9]) (.seq (.seq (.reg rLaw02NodesetOrderX4 false [] [0, 1, 7, 50]) (.cond (.t 50) (.seq (.reg rLaw02NodesetOrderX5 false [] [6]) .ret) .skip)) (.seq (.reg rLaw02NodesetOrderX6 false [] [6]) .ret)))))
def qLaw02NodesetOrder : AFn := ⟨92, 3, [.t 6], cLaw02NodesetOrder⟩
/- cohesion/cohesionlaw02.NodesetLaws -/
def rLaw02NodesetLawsX0 : List O := [
  ⟨(some 6), none, .mv (.k (.bool false))⟩]
def rLaw02NodesetLawsX1 : List O := [
  ⟨(some 10), none, .mv (.t 0)⟩,
  ⟨(some 11), none, .len (.t 10)⟩,
  ⟨(some 12), none, .mv (.t 1)⟩,
  ⟨(some 13), none, .len (.t 12)⟩,
  ⟨(some 14), none, .bin .add (.t 11) (.t 13)⟩,
  ⟨(some 15), none, .mv (.t 2)⟩,
  ⟨(some 16), none, .len (.t 15)⟩,
  ⟨(some 17), none, .bin .add (.t 14) (.t 16)⟩,
  ⟨(some 18), none, .bin .gtr (.t 17) (.k (.int .i64 150))⟩]
def rLaw02NodesetLawsX2 : List O := [
  ⟨(some 19), none, .call nLaw02Awake []⟩,
  ⟨(some 6), none, .mv (.t 19)⟩]
def rLaw02NodesetLawsX3 : List O := [
  ⟨(some 20), none, .mv (.t 0)⟩,
  ⟨(some 21), none, .mv (.t 1)⟩,
  ⟨(some 22), none, .mv (.t 2)⟩,
  ⟨(some 23), none, .call nNodesetMeet [(.t 21), (.t 22)]⟩,
  ⟨(some 24), none, .call nNodesetUnion [(.t 20), (.t 23)]⟩,
  ⟨(some 7), none, .mv (.t 24)⟩]
def rLaw02NodesetLawsX4 : List O := [
  ⟨(some 25), none, .mv (.t 0)⟩,
  ⟨(some 26), none, .mv (.t 1)⟩,
  ⟨(some 27), none, .call nNodesetUnion [(.t 25), (.t 26)]⟩,
  ⟨(some 28), none, .mv (.t 0)⟩,
  ⟨(some 29), none, .mv (.t 2)⟩,
  ⟨(some 30), none, .call nNodesetUnion [(.t 28), (.t 29)]⟩,
  ⟨(some 31), none, .call nNodesetMeet [(.t 27), (.t 30)]⟩,
  ⟨(some 8), none, .mv (.t 31)⟩]
def rLaw02NodesetLawsX5 : List O := [
  ⟨(some 32), none, .mv (.t 0)⟩,
  ⟨(some 33), none, .mv (.t 1)⟩,
  ⟨(some 34), none, .call nNodesetMinus [(.t 32), (.t 33)]⟩,
  ⟨(some 35), none, .mv (.t 0)⟩,
  ⟨(some 36), none, .mv (.t 1)⟩,
  ⟨(some 37), none, .call nNodesetMeet [(.t 35), (.t 36)]⟩,
  ⟨(some 38), none, .call nNodesetUnion [(.t 34), (.t 37)]⟩,
  ⟨(some 9), none, .mv (.t 38)⟩]
def rLaw02NodesetLawsX6 : List O := [
  ⟨(some 39), none, .mv (.t 7)⟩,
  ⟨(some 40), none, .mv (.t 8)⟩,
  ⟨(some 41), none, .call nRef02Same [(.t 39), (.t 40)]⟩,
  ⟨(some 42), none, .mv (.t 41)⟩,
  ⟨(some 43), (some (42, true)), .mv (.t 9)⟩,
  ⟨(some 44), (some (42, true)), .mv (.t 0)⟩,
  ⟨(some 45), (some (42, true)), .call nNodesetOf [(.t 44)]⟩,
  ⟨(some 46), (some (42, true)), .call nRef02Same [(.t 43), (.t 45)]⟩,
  ⟨(some 47), none, .pick (.t 42) (.t 46) (.k (.bool false))⟩,
  ⟨(some 48), none, .mv (.t 47)⟩,
  ⟨(some 49), (some (48, true)), .mv (.t 0)⟩,
  ⟨(some 50), (some (48, true)), .mv (.t 1)⟩,
  ⟨(some 51), (some (48, true)), .call nNodesetUnion [(.t 49), (.t 50)]⟩,
  ⟨(some 52), (some (48, true)), .mv (.t 1)⟩,
  ⟨(some 53), (some (48, true)), .mv (.t 0)⟩,
  ⟨(some 54), (some (48, true)), .call nNodesetUnion [(.t 52), (.t 53)]⟩,
  ⟨(some 55), (some (48, true)), .call nRef02Same [(.t 51), (.t 54)]⟩,
  ⟨(some 56), none, .pick (.t 48) (.t 55) (.k (.bool false))⟩,
  ⟨(some 57), none, .mv (.t 56)⟩,
  ⟨(some 58), (some (57, true)), .mv (.t 0)⟩,
  ⟨(some 59), (some (57, true)), .mv (.t 1)⟩,
  ⟨(some 60), (some (57, true)), .call nNodesetMeet [(.t 58), (.t 59)]⟩,
  ⟨(some 61), (some (57, true)), .mv (.t 1)⟩,
  ⟨(some 62), (some (57, true)), .mv (.t 0)⟩,
  ⟨(some 63), (some (57, true)), .call nNodesetMeet [(.t 61), (.t 62)]⟩,
  ⟨(some 64), (some (57, true)), .call nRef02Same [(.t 60), (.t 63)]⟩,
  ⟨(some 65), none, .pick (.t 57) (.t 64) (.k (.bool false))⟩,
  ⟨(some 66), none, .mv (.t 65)⟩,
  ⟨(some 67), (some (66, true)), .mv (.t 0)⟩,
  ⟨(some 68), (some (66, true)), .mv (.t 1)⟩,
  ⟨(some 69), (some (66, true)), .call nNodesetMinus [(.t 67), (.t 68)]⟩,
  ⟨(some 70), (some (66, true)), .mv (.t 1)⟩,
  ⟨(some 71), (some (66, true)), .call nNodesetMeet [(.t 69), (.t 70)]⟩,
  ⟨(some 72), (some (66, true)), .len (.t 71)⟩,
  ⟨(some 73), (some (66, true)), .bin .eql (.t 72) (.k (.int .i64 0))⟩,
  ⟨(some 74), none, .pick (.t 66) (.t 73) (.k (.bool false))⟩,
  ⟨(some 75), none, .mv (.t 74)⟩,
  ⟨(some 76), (some (75, true)), .mv (.t 0)⟩,
  ⟨(some 77), (some (75, true)), .mv (.t 1)⟩,
  ⟨(some 78), (some (75, true)), .call nNodesetMeet [(.t 76), (.t 77)]⟩,
  ⟨(some 79), (some (75, true)), .mv (.t 0)⟩,
  ⟨(some 80), (some (75, true)), .call nNodesetWithin [(.t 78), (.t 79)]⟩,
  ⟨(some 81), none, .pick (.t 75) (.t 80) (.k (.bool false))⟩,
  ⟨(some 82), none, .mv (.t 81)⟩,
  ⟨(some 83), (some (82, true)), .call nLaw02Awake []⟩,
  ⟨(some 84), none, .pick (.t 82) (.t 83) (.k (.bool false))⟩,
  ⟨(some 6), none, .mv (.t 84)⟩]
def cLaw02NodesetLaws : C := (.seq (.reg rLaw02NodesetLawsX0 false [] [0, 1, 2]) (.seq (.seq (.reg rLaw02NodesetLawsX1 false [] [0, 1, 2, 18]) (.cond (.t 18) (.seq (.reg rLaw02NodesetLawsX2 false [] [6]) .ret) .skip)) (.seq (.reg rLaw02NodesetLawsX3 false [] [0, 1, 2, 7]) (.seq (.reg rLaw02NodesetLawsX4 false [] [0, 1, 7, 8]) (.seq (.reg rLaw02NodesetLawsX5 false [] [0, 1, 7, 8, 9]) (.seq (.reg rLaw02NodesetLawsX6 false [] [6]) .ret))))))
def qLaw02NodesetLaws : AFn := ⟨85, 3, [.t 6], cLaw02NodesetLaws⟩
/- cohesion/cohesionlaw02.NodesetWithin -/
def rLaw02NodesetWithinX0 : List O := [
  ⟨(some 6), none, .mv (.k (.bool false))⟩]
def rLaw02NodesetWithinX1 : List O := [
  ⟨(some 9), none, .mv (.t 0)⟩,
  ⟨(some 10), none, .len (.t 9)⟩,
  ⟨(some 11), none, .mv (.t 1)⟩,
  ⟨(some 12), none, .len (.t 11)⟩,
  ⟨(some 13), none, .bin .add (.t 10) (.t 12)⟩,
  ⟨(some 14), none, .bin .gtr (.t 13) (.k (.int .i64 200))⟩]
def rLaw02NodesetWithinX2 : List O := [
  ⟨(some 15), none, .call nLaw02Awake []⟩,
  ⟨(some 6), none, .mv (.t 15)⟩]
def rLaw02NodesetWithinX3 : List O := [
  ⟨(some 16), none, .mv (.t 0)⟩,
  ⟨(some 17), none, .mv (.t 1)⟩,
  ⟨(some 18), none, .call nNodesetWithin [(.t 16), (.t 17)]⟩,
  ⟨(some 19), none, .mv (.t 18)⟩,
  ⟨(some 20), (some (19, true)), .mv (.t 1)⟩,
  ⟨(some 21), (some (19, true)), .mv (.t 0)⟩,
  ⟨(some 22), (some (19, true)), .call nNodesetWithin [(.t 20), (.t 21)]⟩,
  ⟨(some 23), none, .pick (.t 19) (.t 22) (.k (.bool false))⟩,
  ⟨(some 7), none, .mv (.t 23)⟩]
def rLaw02NodesetWithinX4 : List O := [
  ⟨(some 24), none, .mv (.t 0)⟩,
  ⟨(some 25), none, .mv (.t 1)⟩,
  ⟨(some 26), none, .call nNodesetUnion [(.t 24), (.t 25)]⟩,
  ⟨(some 8), none, .mv (.t 26)⟩]
def rLaw02NodesetWithinX5 : List O := [
  ⟨(some 27), none, .mv (.t 7)⟩,
  ⟨(some 28), none, .mv (.t 0)⟩,
  ⟨(some 29), none, .call nNodesetOf [(.t 28)]⟩,
  ⟨(some 30), none, .mv (.t 1)⟩,
  ⟨(some 31), none, .call nNodesetOf [(.t 30)]⟩,
  ⟨(some 32), none, .call nRef02Same [(.t 29), (.t 31)]⟩,
  ⟨(some 33), none, .eq false .bool (.t 27) (.t 32)⟩,
  ⟨(some 34), none, .mv (.t 33)⟩,
  ⟨(some 35), (some (34, true)), .mv (.t 8)⟩,
  ⟨(some 36), (some (34, true)), .mv (.t 2)⟩,
  ⟨(some 37), (some (34, true)), .call nNodesetHas [(.t 35), (.t 36)]⟩,
  ⟨(some 38), (some (34, true)), .mv (.t 0)⟩,
  ⟨(some 39), (some (34, true)), .mv (.t 2)⟩,
  ⟨(some 40), (some (34, true)), .call nNodesetHas [(.t 38), (.t 39)]⟩,
  ⟨(some 41), (some (34, true)), .mv (.t 40)⟩,
  ⟨(some 42), (some (41, false)), .mv (.t 1)⟩,
  ⟨(some 43), (some (41, false)), .mv (.t 2)⟩,
  ⟨(some 44), (some (41, false)), .call nNodesetHas [(.t 42), (.t 43)]⟩,
  ⟨(some 45), (some (34, true)), .pick (.t 41) (.k (.bool true)) (.t 44)⟩,
  ⟨(some 46), (some (34, true)), .eq false .bool (.t 37) (.t 45)⟩,
  ⟨(some 47), none, .pick (.t 34) (.t 46) (.k (.bool false))⟩,
  ⟨(some 48), none, .mv (.t 47)⟩,
  ⟨(some 49), (some (48, true)), .mv (.t 0)⟩,
  ⟨(some 50), (some (48, true)), .mv (.t 1)⟩,
  ⟨(some 51), (some (48, true)), .call nNodesetMinus [(.t 49), (.t 50)]⟩,
  ⟨(some 52), (some (48, true)), .mv (.t 2)⟩,
  ⟨(some 53), (some (48, true)), .call nNodesetHas [(.t 51), (.t 52)]⟩,
  ⟨(some 54), (some (48, true)), .mv (.t 0)⟩,
  ⟨(some 55), (some (48, true)), .mv (.t 2)⟩,
  ⟨(some 56), (some (48, true)), .call nNodesetHas [(.t 54), (.t 55)]⟩,
  ⟨(some 57), (some (48, true)), .mv (.t 56)⟩,
  ⟨(some 58), (some (57, true)), .mv (.t 1)⟩,
  ⟨(some 59), (some (57, true)), .mv (.t 2)⟩,
  ⟨(some 60), (some (57, true)), .call nNodesetHas [(.t 58), (.t 59)]⟩,
  ⟨(some 61), (some (57, true)), .un .not (.t 60)⟩,
  ⟨(some 62), (some (48, true)), .pick (.t 57) (.t 61) (.k (.bool false))⟩,
  ⟨(some 63), (some (48, true)), .eq false .bool (.t 53) (.t 62)⟩,
  ⟨(some 64), none, .pick (.t 48) (.t 63) (.k (.bool false))⟩,
  ⟨(some 65), none, .mv (.t 64)⟩,
  ⟨(some 66), (some (65, true)), .call nNodesetRange [(.k (.int .i64 64))]⟩,
  ⟨(some 67), (some (65, true)), .call nNodesetValid [(.t 66), (.k (.int .i64 64))]⟩,
  ⟨(some 68), none, .pick (.t 65) (.t 67) (.k (.bool false))⟩,
  ⟨(some 69), none, .mv (.t 68)⟩,
  ⟨(some 70), (some (69, true)), .call nLaw02Awake []⟩,
  ⟨(some 71), none, .pick (.t 69) (.t 70) (.k (.bool false))⟩,
  ⟨(some 6), none, .mv (.t 71)⟩]
def cLaw02NodesetWithin : C := (.seq (.reg rLaw02NodesetWithinX0 false [] [0, 1, 2]) (.seq (.seq (.reg rLaw02NodesetWithinX1 false [] [0, 1, 2, 14]) (.cond (.t 14) (.seq (.reg rLaw02NodesetWithinX2 false [] [6]) .ret) .skip)) (.seq (.reg rLaw02NodesetWithinX3 false [] [0, 1, 2, 7]) (.seq (.reg rLaw02NodesetWithinX4 false [] [0, 1, 2, 7, 8]) (.seq (.reg rLaw02NodesetWithinX5 false [] [6]) .ret)))))
def qLaw02NodesetWithin : AFn := ⟨72, 3, [.t 6], cLaw02NodesetWithin⟩
/- cohesion/cohesionlaw02.awake -/
def rLaw02AwakeX0 : List O := [
  ⟨(some 0), none, .mv (.k (.bool false))⟩]
def rLaw02AwakeX1 : List O := [
  ⟨(some 2), none, .bslice 1 3 [(.int .i64 0)] [(0, 1, (.k (.int .i64 3))), (1, 1, (.k (.int .i64 1))), (2, 1, (.k (.int .i64 3)))]⟩,
  ⟨(some 3), none, .call nNodesetOf [(.t 2)]⟩,
  ⟨(some 1), none, .mv (.t 3)⟩]
def rLaw02AwakeX2 : List O := [
  ⟨(some 4), none, .mv (.t 1)⟩,
  ⟨(some 5), none, .bslice 1 2 [(.int .i64 0)] [(0, 1, (.k (.int .i64 1))), (1, 1, (.k (.int .i64 3)))]⟩,
  ⟨(some 6), none, .call nRef02Same [(.t 4), (.t 5)]⟩,
  ⟨(some 7), none, .mv (.t 6)⟩,
  ⟨(some 8), (some (7, true)), .bslice 1 2 [(.int .i64 0)] [(0, 1, (.k (.int .i64 0))), (1, 1, (.k (.int .i64 5)))]⟩,
  ⟨(some 9), (some (7, true)), .bslice 1 3 [(.int .i64 0)] [(0, 1, (.k (.int .i64 0))), (1, 1, (.k (.int .i64 5))), (2, 1, (.k (.int .i64 6)))]⟩,
  ⟨(some 10), (some (7, true)), .call nNodesetCmp [(.t 8), (.t 9)]⟩,
  ⟨(some 11), (some (7, true)), .bin .eql (.t 10) (.k (.int .i64 (-1)))⟩,
  ⟨(some 12), none, .pick (.t 7) (.t 11) (.k (.bool false))⟩,
  ⟨(some 13), none, .mv (.t 12)⟩,
  ⟨(some 14), (some (13, true)), .mv (.t 1)⟩,
  ⟨(some 15), (some (13, true)), .call nNodesetValid [(.t 14), (.k (.int .i64 4))]⟩,
  ⟨(some 16), none, .pick (.t 13) (.t 15) (.k (.bool false))⟩,
  ⟨(some 17), none, .mv (.t 16)⟩,
  ⟨(some 18), (some (17, true)), .mv (.t 1)⟩,
  ⟨(some 19), (some (17, true)), .call nNodesetHas [(.t 18), (.k (.int .i64 3))]⟩,
  ⟨(some 20), none, .pick (.t 17) (.t 19) (.k (.bool false))⟩,
  ⟨(some 0), none, .mv (.t 20)⟩]
def cLaw02Awake : C := (.seq (.reg rLaw02AwakeX0 false [] []) (.seq (.reg rLaw02AwakeX1 false [] [1]) (.seq (.reg rLaw02AwakeX2 false [] [0]) .ret)))
def qLaw02Awake : AFn := ⟨21, 0, [.t 0], cLaw02Awake⟩
/- cohesion/nodeset.Cmp -/
def rNodesetCmpX0 : List O := [
  ⟨(some 4), none, .mv (.k (.int .i64 0))⟩]
def rNodesetCmpX1 : List O := [
  ⟨(some 5), none, .mv (.t 0)⟩,
  ⟨(some 6), none, .mv (.t 1)⟩,
  ⟨(some 7), none, .call nSlicesCompareIntInt [(.t 5), (.t 6)]⟩,
  ⟨(some 4), none, .mv (.t 7)⟩]
def cNodesetCmp : C := (.seq (.reg rNodesetCmpX0 false [] [0, 1]) (.seq (.reg rNodesetCmpX1 false [] [4]) .ret))
def qNodesetCmp : AFn := ⟨8, 2, [.t 4], cNodesetCmp⟩
/- cohesion/cohesionref02.Same -/
def rRef02SameX0 : List O := [
  ⟨(some 4), none, .mv (.k (.bool false))⟩]
def rRef02SameX1 : List O := [
  ⟨(some 5), none, .mv (.t 0)⟩,
  ⟨(some 6), none, .len (.t 5)⟩,
  ⟨(some 7), none, .mv (.t 1)⟩,
  ⟨(some 8), none, .len (.t 7)⟩,
  ⟨(some 9), none, .bin .eql (.t 6) (.t 8)⟩,
  ⟨(some 10), none, .mv (.t 9)⟩,
  ⟨(some 11), (some (10, true)), .mv (.t 0)⟩,
  ⟨(some 12), (some (10, true)), .mv (.t 1)⟩,
  ⟨(some 13), (some (10, true)), .call nRef02Cmp [(.t 11), (.t 12)]⟩,
  ⟨(some 14), (some (10, true)), .bin .eql (.t 13) (.k (.int .i64 0))⟩,
  ⟨(some 15), none, .pick (.t 10) (.t 14) (.k (.bool false))⟩,
  ⟨(some 4), none, .mv (.t 15)⟩]
def cRef02Same : C := (.seq (.reg rRef02SameX0 false [] [0, 1]) (.seq (.reg rRef02SameX1 false [] [4]) .ret))
def qRef02Same : AFn := ⟨16, 2, [.t 4], cRef02Same⟩
/- cohesion/nodeset.Union -/
def rNodesetUnionX0 : List O := [
  ⟨(some 4), none, .mv (.k .nils)⟩]
def rNodesetUnionX1 : List O := [
  ⟨(some 5), none, .mv (.t 0)⟩,
  ⟨(some 6), none, .mv (.t 1)⟩,
  ⟨(some 7), none, .call nNodesetMergedInt [(.t 5), (.t 6), (.k (.func (.func nNodesetUnion1) [] []))]⟩,
  ⟨(some 4), none, .mv (.t 7)⟩]
def cNodesetUnion : C := (.seq (.reg rNodesetUnionX0 false [] [0, 1]) (.seq (.reg rNodesetUnionX1 false [] [4]) .ret))
def qNodesetUnion : AFn := ⟨8, 2, [.t 4], cNodesetUnion⟩
/- cohesion/nodeset.Meet -/
def rNodesetMeetX0 : List O := [
  ⟨(some 4), none, .mv (.k .nils)⟩]
def rNodesetMeetX1 : List O := [
  ⟨(some 5), none, .mv (.t 0)⟩,
  ⟨(some 6), none, .mv (.t 1)⟩,
  ⟨(some 7), none, .call nNodesetMergedInt [(.t 5), (.t 6), (.k (.func (.func nNodesetMeet1) [] []))]⟩,
  ⟨(some 4), none, .mv (.t 7)⟩]
def cNodesetMeet : C := (.seq (.reg rNodesetMeetX0 false [] [0, 1]) (.seq (.reg rNodesetMeetX1 false [] [4]) .ret))
def qNodesetMeet : AFn := ⟨8, 2, [.t 4], cNodesetMeet⟩
/- cohesion/nodeset.Minus -/
def rNodesetMinusX0 : List O := [
  ⟨(some 4), none, .mv (.k .nils)⟩]
def rNodesetMinusX1 : List O := [
  ⟨(some 5), none, .mv (.t 0)⟩,
  ⟨(some 6), none, .mv (.t 1)⟩,
  ⟨(some 7), none, .call nNodesetMergedInt [(.t 5), (.t 6), (.k (.func (.func nNodesetMinus1) [] []))]⟩,
  ⟨(some 4), none, .mv (.t 7)⟩]
def cNodesetMinus : C := (.seq (.reg rNodesetMinusX0 false [] [0, 1]) (.seq (.reg rNodesetMinusX1 false [] [4]) .ret))
def qNodesetMinus : AFn := ⟨8, 2, [.t 4], cNodesetMinus⟩
/- cohesion/nodeset.Of -/
def rNodesetOfX0 : List O := [
  ⟨(some 2), none, .mv (.k .nils)⟩]
def rNodesetOfX1 : List O := [
  ⟨(some 3), none, .mv (.t 0)⟩,
  ⟨(some 4), none, .call nNodesetUnion [(.t 3), (.k .nils)]⟩,
  ⟨(some 2), none, .mv (.t 4)⟩]
def cNodesetOf : C := (.seq (.reg rNodesetOfX0 false [] [0]) (.seq (.reg rNodesetOfX1 false [] [2]) .ret))
def qNodesetOf : AFn := ⟨5, 1, [.t 2], cNodesetOf⟩
/- cohesion/nodeset.Within -/
def rNodesetWithinX0 : List O := [
  ⟨(some 4), none, .mv (.k (.bool false))⟩]
def rNodesetWithinX1 : List O := [
  ⟨(some 5), none, .mv (.t 0)⟩,
  ⟨(some 6), none, .mv (.t 1)⟩,
  ⟨(some 7), none, .call nNodesetMinus [(.t 5), (.t 6)]⟩,
  ⟨(some 8), none, .len (.t 7)⟩,
  ⟨(some 9), none, .bin .eql (.t 8) (.k (.int .i64 0))⟩,
  ⟨(some 4), none, .mv (.t 9)⟩]
def cNodesetWithin : C := (.seq (.reg rNodesetWithinX0 false [] [0, 1]) (.seq (.reg rNodesetWithinX1 false [] [4]) .ret))
def qNodesetWithin : AFn := ⟨10, 2, [.t 4], cNodesetWithin⟩
/- cohesion/nodeset.Has -/
def rNodesetHasX0 : List O := [
  ⟨(some 4), none, .mv (.k (.bool false))⟩]
def rNodesetHasX1 : List O := [
  ⟨(some 5), none, .mv (.t 0)⟩,
  ⟨(some 6), none, .mv (.t 1)⟩,
  ⟨(some 7), none, .call nSlicesContainsIntInt [(.t 5), (.t 6)]⟩,
  ⟨(some 4), none, .mv (.t 7)⟩]
def cNodesetHas : C := (.seq (.reg rNodesetHasX0 false [] [0, 1]) (.seq (.reg rNodesetHasX1 false [] [4]) .ret))
def qNodesetHas : AFn := ⟨8, 2, [.t 4], cNodesetHas⟩
/- cohesion/nodeset.Valid -/
def rNodesetValidX0 : List O := [
  ⟨(some 4), none, .mv (.k (.bool false))⟩]
def rNodesetValidX1 : List O := [
  ⟨(some 7), none, .mv (.t 0)⟩,
  ⟨(some 8), none, .len (.t 7)⟩,
  ⟨(some 9), none, .mv (.k (.int .i64 0))⟩]
def rNodesetValidX2 : List O := [
  ⟨(some 10), none, .bin .lss (.t 9) (.t 8)⟩]
def rNodesetValidX3 : List O := [
  ⟨(some 11), none, .mv (.t 9)⟩,
  ⟨(some 12), none, .ixa 1 (.t 7) (.t 9)⟩,
  ⟨(some 13), none, .ld none (.t 12)⟩,
  ⟨(some 5), none, .mv (.t 11)⟩,
  ⟨(some 6), none, .mv (.t 13)⟩]
def rNodesetValidX4 : List O := [
  ⟨(some 14), none, .mv (.t 6)⟩,
  ⟨(some 15), none, .bin .lss (.t 14) (.k (.int .i64 0))⟩,
  ⟨(some 16), none, .mv (.t 15)⟩,
  ⟨(some 17), (some (16, false)), .mv (.t 6)⟩,
  ⟨(some 18), (some (16, false)), .mv (.t 1)⟩,
  ⟨(some 19), (some (16, false)), .bin .geq (.t 17) (.t 18)⟩,
  ⟨(some 20), none, .pick (.t 16) (.k (.bool true)) (.t 19)⟩,
  ⟨(some 21), none, .mv (.t 20)⟩,
  ⟨(some 22), (some (21, false)), .mv (.t 5)⟩,
  ⟨(some 23), (some (21, false)), .bin .gtr (.t 22) (.k (.int .i64 0))⟩,
  ⟨(some 24), (some (21, false)), .mv (.t 23)⟩,
  ⟨(some 25), (some (24, true)), .mv (.t 0)⟩,
  ⟨(some 26), (some (24, true)), .mv (.t 5)⟩,
  ⟨(some 27), (some (24, true)), .bin .sub (.t 26) (.k (.int .i64 1))⟩,
  ⟨(some 28), (some (24, true)), .ixa 1 (.t 25) (.t 27)⟩,
  ⟨(some 29), (some (24, true)), .ld none (.t 28)⟩,
  ⟨(some 30), (some (24, true)), .mv (.t 6)⟩,
  ⟨(some 31), (some (24, true)), .bin .geq (.t 29) (.t 30)⟩,
  ⟨(some 32), (some (21, false)), .pick (.t 24) (.t 31) (.k (.bool false))⟩,
  ⟨(some 33), none, .pick (.t 21) (.k (.bool true)) (.t 32)⟩]
def rNodesetValidX5 : List O := [
  ⟨(some 4), none, .mv (.k (.bool false))⟩]
def rNodesetValidX6 : List O := [
  ⟨(some 34), none, .bin .add (.t 9) (.k (.int .i64 1))⟩,
  ⟨(some 9), none, .mv (.t 34)⟩]
def lNodesetValidX0 : C := (.seq (.reg rNodesetValidX2 false [] [0, 1, 7, 8, 9, 10]) (.seq (.cond (.t 10) .skip (.exit 0)) (.seq (.blk 1 (.seq (.reg rNodesetValidX3 false [] [0, 1, 5, 6, 7, 8, 9]) (.seq (.reg rNodesetValidX4 false [] [0, 1, 7, 8, 9, 33]) (.cond (.t 33) (.seq (.reg rNodesetValidX5 false [] [4]) .ret) .skip)))) (.reg rNodesetValidX6 false [] [0, 1, 7, 8, 9]))))
def rNodesetValidX7 : List O := [
  ⟨(some 4), none, .mv (.k (.bool true))⟩]
def cNodesetValid : C := (.seq (.reg rNodesetValidX0 false [] [0, 1]) (.seq (.seq (.reg rNodesetValidX1 false [] [0, 1, 7, 8, 9]) (.blk 0 (.loop lNodesetValidX0))) (.seq (.reg rNodesetValidX7 false [] [4]) .ret)))
def qNodesetValid : AFn := ⟨35, 2, [.t 4], cNodesetValid⟩
/- cohesion/nodeset.Range -/
def rNodesetRangeX0 : List O := [
  ⟨(some 2), none, .mv (.k .nils)⟩]
def rNodesetRangeX1 : List O := [
  ⟨(some 3), none, .mv (.k .nils)⟩]
def rNodesetRangeX2 : List O := [
  ⟨(some 5), none, .mv (.t 0)⟩,
  ⟨(some 6), none, .max [(.t 5), (.k (.int .i64 0))]⟩,
  ⟨(some 7), none, .min [(.t 6), (.k (.int .i64 64))]⟩,
  ⟨(some 8), none, .mv (.k (.int .i64 0))⟩]
def rNodesetRangeX3 : List O := [
  ⟨(some 9), none, .bin .lss (.t 8) (.t 7)⟩]
def rNodesetRangeX4 : List O := [
  ⟨(some 10), none, .mv (.t 8)⟩,
  ⟨(some 4), none, .mv (.t 10)⟩]
def rNodesetRangeX5 : List O := [
  ⟨(some 11), none, .mv (.t 3)⟩,
  ⟨(some 12), none, .mv (.t 4)⟩,
  ⟨(some 13), none, .bslice 1 1 [(.int .i64 0)] [(0, 1, (.t 12))]⟩,
  ⟨(some 14), none, .app 1 (.t 11) (.t 13)⟩,
  ⟨(some 3), none, .mv (.t 14)⟩]
def rNodesetRangeX6 : List O := [
  ⟨(some 15), none, .bin .add (.t 8) (.k (.int .i64 1))⟩,
  ⟨(some 8), none, .mv (.t 15)⟩]
def lNodesetRangeX0 : C := (.seq (.reg rNodesetRangeX3 false [] [3, 7, 8, 9]) (.seq (.cond (.t 9) .skip (.exit 0)) (.seq (.blk 1 (.seq (.reg rNodesetRangeX4 false [] [3, 4, 7, 8]) (.reg rNodesetRangeX5 false [] [3, 7, 8]))) (.reg rNodesetRangeX6 false [] [3, 7, 8]))))
def rNodesetRangeX7 : List O := [
  ⟨(some 16), none, .mv (.t 3)⟩,
  ⟨(some 2), none, .mv (.t 16)⟩]
def cNodesetRange : C := (.seq (.reg rNodesetRangeX0 false [] [0]) (.seq (.reg rNodesetRangeX1 false [] [0, 3]) (.seq (.seq (.reg rNodesetRangeX2 false [] [3, 7, 8]) (.blk 0 (.loop lNodesetRangeX0))) (.seq (.reg rNodesetRangeX7 false [] [2]) .ret))))
def qNodesetRange : AFn := ⟨17, 1, [.t 2], cNodesetRange⟩
/- slices.Compare[[]int,int] -/
def rSlicesCompareIntIntX0 : List O := [
  ⟨(some 4), none, .mv (.k (.int .i64 0))⟩]
def rSlicesCompareIntIntX1 : List O := [
  ⟨(some 9), none, .mv (.t 0)⟩,
  ⟨(some 10), none, .len (.t 9)⟩,
  ⟨(some 11), none, .mv (.k (.int .i64 0))⟩]
def rSlicesCompareIntIntX2 : List O := [
  ⟨(some 12), none, .bin .lss (.t 11) (.t 10)⟩]
def rSlicesCompareIntIntX3 : List O := [
  ⟨(some 13), none, .mv (.t 11)⟩,
  ⟨(some 14), none, .ixa 1 (.t 9) (.t 11)⟩,
  ⟨(some 15), none, .ld none (.t 14)⟩,
  ⟨(some 5), none, .mv (.t 13)⟩,
  ⟨(some 6), none, .mv (.t 15)⟩]
def rSlicesCompareIntIntX4 : List O := [
  ⟨(some 16), none, .mv (.t 5)⟩,
  ⟨(some 17), none, .mv (.t 1)⟩,
  ⟨(some 18), none, .len (.t 17)⟩,
  ⟨(some 19), none, .bin .geq (.t 16) (.t 18)⟩]
def rSlicesCompareIntIntX5 : List O := [
  ⟨(some 4), none, .mv (.k (.int .i64 1))⟩]
def rSlicesCompareIntIntX6 : List O := [
  ⟨(some 20), none, .mv (.t 1)⟩,
  ⟨(some 21), none, .mv (.t 5)⟩,
  ⟨(some 22), none, .ixa 1 (.t 20) (.t 21)⟩,
  ⟨(some 23), none, .ld none (.t 22)⟩,
  ⟨(some 7), none, .mv (.t 23)⟩]
def rSlicesCompareIntIntX7 : List O := [
  ⟨(some 24), none, .mv (.t 6)⟩,
  ⟨(some 25), none, .mv (.t 7)⟩,
  ⟨(some 26), none, .call nCmpCompareInt [(.t 24), (.t 25)]⟩,
  ⟨(some 8), none, .mv (.t 26)⟩]
def rSlicesCompareIntIntX8 : List O := [
  ⟨(some 27), none, .mv (.t 8)⟩,
  ⟨(some 28), none, .bin .neq (.t 27) (.k (.int .i64 0))⟩]
def rSlicesCompareIntIntX9 : List O := [
  ⟨(some 29), none, .mv (.t 8)⟩,
  ⟨(some 4), none, .mv (.t 29)⟩]
def rSlicesCompareIntIntX10 : List O := [
  ⟨(some 30), none, .bin .add (.t 11) (.k (.int .i64 1))⟩,
  ⟨(some 11), none, .mv (.t 30)⟩]
def lSlicesCompareIntIntX0 : C := (.seq (.reg rSlicesCompareIntIntX2 false [] [0, 1, 9, 10, 11, 12]) (.seq (.cond (.t 12) .skip (.exit 0)) (.seq (.blk 1 (.seq (.reg rSlicesCompareIntIntX3 false [] [0, 1, 5, 6, 9, 10, 11]) (.seq (.seq (.reg rSlicesCompareIntIntX4 false [] [0, 1, 5, 6, 9, 10, 11, 19]) (.cond (.t 19) (.seq (.reg rSlicesCompareIntIntX5 false [] [4]) .ret) .skip)) (.seq (.reg rSlicesCompareIntIntX6 false [] [0, 1, 6, 7, 9, 10, 11]) (.seq (.reg rSlicesCompareIntIntX7 false [] [0, 1, 8, 9, 10, 11]) (.seq (.reg rSlicesCompareIntIntX8 false [] [0, 1, 8, 9, 10, 11, 28]) (.cond (.t 28) (.seq (.reg rSlicesCompareIntIntX9 false [] [4]) .ret) .skip))))))) (.reg rSlicesCompareIntIntX10 false [] [0, 1, 9, 10, 11]))))
def rSlicesCompareIntIntX11 : List O := [
  ⟨(some 31), none, .mv (.t 0)⟩,
  ⟨(some 32), none, .len (.t 31)⟩,
  ⟨(some 33), none, .mv (.t 1)⟩,
  ⟨(some 34), none, .len (.t 33)⟩,
  ⟨(some 35), none, .bin .lss (.t 32) (.t 34)⟩]
def rSlicesCompareIntIntX12 : List O := [
  ⟨(some 4), none, .mv (.k (.int .i64 (-1)))⟩]
def rSlicesCompareIntIntX13 : List O := [
  ⟨(some 4), none, .mv (.k (.int .i64 0))⟩]
def cSlicesCompareIntInt : C := (.seq (.reg rSlicesCompareIntIntX0 false [] [0, 1]) (.seq (.seq (.reg rSlicesCompareIntIntX1 false [] [0, 1, 9, 10, 11]) (.blk 0 (.loop lSlicesCompareIntIntX0))) (.seq (.seq (.reg rSlicesCompareIntIntX11 false [] [35]) (.cond (.t 35) (.seq (.reg rSlicesCompareIntIntX12 false [] [4]) .ret) .skip)) (.seq (.reg rSlicesCompareIntIntX13 false [] [4]) .ret))))
def qSlicesCompareIntInt : AFn := ⟨36, 2, [.t 4], cSlicesCompareIntInt⟩
/- cohesion/cohesionref02.Cmp -/
def rRef02CmpX0 : List O := [
  ⟨(some 4), none, .mv (.k (.int .i64 0))⟩]
def rRef02CmpX1 : List O := [
  ⟨(some 6), none, .mv (.t 0)⟩,
  ⟨(some 7), none, .len (.t 6)⟩,
  ⟨(some 8), none, .mv (.k (.int .i64 0))⟩]
def rRef02CmpX2 : List O := [
  ⟨(some 9), none, .bin .lss (.t 8) (.t 7)⟩]
def rRef02CmpX3 : List O := [
  ⟨(some 10), none, .mv (.t 8)⟩,
  ⟨(some 5), none, .mv (.t 10)⟩]
def rRef02CmpX4 : List O := [
  ⟨(some 12), none, .mv (.t 5)⟩,
  ⟨(some 13), none, .mv (.t 1)⟩,
  ⟨(some 14), none, .len (.t 13)⟩,
  ⟨(some 15), none, .bin .geq (.t 12) (.t 14)⟩,
  ⟨(some 16), none, .mv (.t 15)⟩,
  ⟨(some 17), (some (16, false)), .mv (.t 0)⟩,
  ⟨(some 18), (some (16, false)), .mv (.t 5)⟩,
  ⟨(some 19), (some (16, false)), .ixa 1 (.t 17) (.t 18)⟩,
  ⟨(some 20), (some (16, false)), .ld none (.t 19)⟩,
  ⟨(some 21), (some (16, false)), .mv (.t 1)⟩,
  ⟨(some 22), (some (16, false)), .mv (.t 5)⟩,
  ⟨(some 23), (some (16, false)), .ixa 1 (.t 21) (.t 22)⟩,
  ⟨(some 24), (some (16, false)), .ld none (.t 23)⟩,
  ⟨(some 25), (some (16, false)), .bin .gtr (.t 20) (.t 24)⟩,
  ⟨(some 26), none, .pick (.t 16) (.k (.bool true)) (.t 25)⟩,
  ⟨(some 11), none, .mv (.t 26)⟩]
def rRef02CmpX5 : List O := [
  ⟨(some 4), none, .mv (.k (.int .i64 1))⟩]
def rRef02CmpX6 : List O := [
  ⟨(some 28), none, .mv (.t 0)⟩,
  ⟨(some 29), none, .mv (.t 5)⟩,
  ⟨(some 30), none, .ixa 1 (.t 28) (.t 29)⟩,
  ⟨(some 31), none, .ld none (.t 30)⟩,
  ⟨(some 32), none, .mv (.t 1)⟩,
  ⟨(some 33), none, .mv (.t 5)⟩,
  ⟨(some 34), none, .ixa 1 (.t 32) (.t 33)⟩,
  ⟨(some 35), none, .ld none (.t 34)⟩,
  ⟨(some 36), none, .bin .lss (.t 31) (.t 35)⟩,
  ⟨(some 27), none, .mv (.t 36)⟩]
def rRef02CmpX7 : List O := [
  ⟨(some 4), none, .mv (.k (.int .i64 (-1)))⟩]
def rRef02CmpX8 : List O := [
  ⟨(some 37), none, .bin .add (.t 8) (.k (.int .i64 1))⟩,
  ⟨(some 8), none, .mv (.t 37)⟩]
def lRef02CmpX0 : C := (.seq (.reg rRef02CmpX2 false [] [0, 1, 7, 8, 9]) (.seq (.cond (.t 9) .skip (.exit 0)) (.seq (.blk 1 (.seq (.reg rRef02CmpX3 false [] [0, 1, 5, 7, 8]) (.blk 2 (.seq (.reg rRef02CmpX4 true [(8, 12)] [0, 1, 5, 7, 8, 11]) (.cond (.t 11) (.seq (.reg rRef02CmpX5 false [] [4]) .ret) (.seq (.reg rRef02CmpX6 true [(3, 7)] [0, 1, 7, 8, 27]) (.cond (.t 27) (.seq (.reg rRef02CmpX7 false [] [4]) .ret) .skip))))))) (.reg rRef02CmpX8 false [] [0, 1, 7, 8]))))
def rRef02CmpX9 : List O := [
  ⟨(some 38), none, .mv (.t 0)⟩,
  ⟨(some 39), none, .len (.t 38)⟩,
  ⟨(some 40), none, .mv (.t 1)⟩,
  ⟨(some 41), none, .len (.t 40)⟩,
  ⟨(some 42), none, .bin .lss (.t 39) (.t 41)⟩]
def rRef02CmpX10 : List O := [
  ⟨(some 4), none, .mv (.k (.int .i64 (-1)))⟩]
def rRef02CmpX11 : List O := [
  ⟨(some 4), none, .mv (.k (.int .i64 0))⟩]
def cRef02Cmp : C := (.seq (.reg rRef02CmpX0 false [] [0, 1]) (.seq (.seq (.reg rRef02CmpX1 false [] [0, 1, 7, 8]) (.blk 0 (.loop lRef02CmpX0))) (.seq (.seq (.reg rRef02CmpX9 false [] [42]) (.cond (.t 42) (.seq (.reg rRef02CmpX10 false [] [4]) .ret) .skip)) (.seq (.reg rRef02CmpX11 false [] [4]) .ret))))
def qRef02Cmp : AFn := ⟨43, 2, [.t 4], cRef02Cmp⟩
/- cohesion/nodeset.merged[int] -/
def rNodesetMergedIntX0 : List O := [
  ⟨(some 6), none, .mv (.k .nils)⟩]
def rNodesetMergedIntX1 : List O := [
  ⟨(some 11), none, .mv (.t 0)⟩,
  ⟨(some 12), none, .call nSlicesCloneIntInt [(.t 11)]⟩,
  ⟨(some 13), none, .mv (.t 1)⟩,
  ⟨(some 14), none, .call nSlicesCloneIntInt [(.t 13)]⟩,
  ⟨(some 0), none, .mv (.t 12)⟩,
  ⟨(some 1), none, .mv (.t 14)⟩]
def rNodesetMergedIntX2 : List O := [
  ⟨(some 15), none, .mv (.t 0)⟩,
  ⟨(some 16), none, .call nSlicesSortIntInt [(.t 15)]⟩]
def rNodesetMergedIntX3 : List O := [
  ⟨(some 17), none, .mv (.t 1)⟩,
  ⟨(some 18), none, .call nSlicesSortIntInt [(.t 17)]⟩]
def rNodesetMergedIntX4 : List O := [
  ⟨(some 19), none, .mv (.t 0)⟩,
  ⟨(some 20), none, .call nSlicesCompactIntInt [(.t 19)]⟩,
  ⟨(some 21), none, .mv (.t 1)⟩,
  ⟨(some 22), none, .call nSlicesCompactIntInt [(.t 21)]⟩,
  ⟨(some 0), none, .mv (.t 20)⟩,
  ⟨(some 1), none, .mv (.t 22)⟩]
def rNodesetMergedIntX5 : List O := [
  ⟨(some 7), none, .mv (.k .nils)⟩]
def rNodesetMergedIntX6 : List O := [
  ⟨(some 23), none, .mv (.t 0)⟩,
  ⟨(some 24), none, .len (.t 23)⟩,
  ⟨(some 25), none, .bin .gtr (.t 24) (.k (.int .i64 0))⟩,
  ⟨(some 26), none, .mv (.t 25)⟩,
  ⟨(some 27), (some (26, false)), .mv (.t 1)⟩,
  ⟨(some 28), (some (26, false)), .len (.t 27)⟩,
  ⟨(some 29), (some (26, false)), .bin .gtr (.t 28) (.k (.int .i64 0))⟩,
  ⟨(some 30), none, .pick (.t 26) (.k (.bool true)) (.t 29)⟩]
def rNodesetMergedIntX7 : List O := [
  ⟨(some 31), none, .mv (.t 1)⟩,
  ⟨(some 32), none, .len (.t 31)⟩,
  ⟨(some 33), none, .bin .eql (.t 32) (.k (.int .i64 0))⟩,
  ⟨(some 34), none, .mv (.t 33)⟩,
  ⟨(some 35), (some (34, false)), .mv (.t 0)⟩,
  ⟨(some 36), (some (34, false)), .len (.t 35)⟩,
  ⟨(some 37), (some (34, false)), .bin .gtr (.t 36) (.k (.int .i64 0))⟩,
  ⟨(some 38), (some (34, false)), .mv (.t 37)⟩,
  ⟨(some 39), (some (38, true)), .mv (.t 0)⟩,
  ⟨(some 40), (some (38, true)), .ixa 1 (.t 39) (.k (.int .i64 0))⟩,
  ⟨(some 41), (some (38, true)), .ld none (.t 40)⟩,
  ⟨(some 42), (some (38, true)), .mv (.t 1)⟩,
  ⟨(some 43), (some (38, true)), .ixa 1 (.t 42) (.k (.int .i64 0))⟩,
  ⟨(some 44), (some (38, true)), .ld none (.t 43)⟩,
  ⟨(some 45), (some (38, true)), .bin .leq (.t 41) (.t 44)⟩,
  ⟨(some 46), (some (34, false)), .pick (.t 38) (.t 45) (.k (.bool false))⟩,
  ⟨(some 47), none, .pick (.t 34) (.k (.bool true)) (.t 46)⟩,
  ⟨(some 8), none, .mv (.t 47)⟩]
def rNodesetMergedIntX8 : List O := [
  ⟨(some 48), none, .mv (.t 0)⟩,
  ⟨(some 49), none, .len (.t 48)⟩,
  ⟨(some 50), none, .bin .eql (.t 49) (.k (.int .i64 0))⟩,
  ⟨(some 51), none, .mv (.t 50)⟩,
  ⟨(some 52), (some (51, false)), .mv (.t 1)⟩,
  ⟨(some 53), (some (51, false)), .len (.t 52)⟩,
  ⟨(some 54), (some (51, false)), .bin .gtr (.t 53) (.k (.int .i64 0))⟩,
  ⟨(some 55), (some (51, false)), .mv (.t 54)⟩,
  ⟨(some 56), (some (55, true)), .mv (.t 1)⟩,
  ⟨(some 57), (some (55, true)), .ixa 1 (.t 56) (.k (.int .i64 0))⟩,
  ⟨(some 58), (some (55, true)), .ld none (.t 57)⟩,
  ⟨(some 59), (some (55, true)), .mv (.t 0)⟩,
  ⟨(some 60), (some (55, true)), .ixa 1 (.t 59) (.k (.int .i64 0))⟩,
  ⟨(some 61), (some (55, true)), .ld none (.t 60)⟩,
  ⟨(some 62), (some (55, true)), .bin .leq (.t 58) (.t 61)⟩,
  ⟨(some 63), (some (51, false)), .pick (.t 55) (.t 62) (.k (.bool false))⟩,
  ⟨(some 64), none, .pick (.t 51) (.k (.bool true)) (.t 63)⟩,
  ⟨(some 9), none, .mv (.t 64)⟩]
def rNodesetMergedIntX9 : List O := [
  ⟨(some 10), none, .mv (.k (.int .i64 0))⟩]
def rNodesetMergedIntX10 : List O := [
  ⟨(some 65), none, .mv (.t 8)⟩]
def rNodesetMergedIntX11 : List O := [
  ⟨(some 66), none, .mv (.t 0)⟩,
  ⟨(some 67), none, .ixa 1 (.t 66) (.k (.int .i64 0))⟩,
  ⟨(some 68), none, .ld none (.t 67)⟩,
  ⟨(some 69), none, .mv (.t 0)⟩,
  ⟨(some 70), none, .slc 1 (.t 69) (some (.k (.int .i64 1))) none⟩,
  ⟨(some 10), none, .mv (.t 68)⟩,
  ⟨(some 0), none, .mv (.t 70)⟩]
def rNodesetMergedIntX12 : List O := [
  ⟨(some 71), none, .mv (.t 9)⟩]
def rNodesetMergedIntX13 : List O := [
  ⟨(some 72), none, .mv (.t 1)⟩,
  ⟨(some 73), none, .ixa 1 (.t 72) (.k (.int .i64 0))⟩,
  ⟨(some 74), none, .ld none (.t 73)⟩,
  ⟨(some 75), none, .mv (.t 1)⟩,
  ⟨(some 76), none, .slc 1 (.t 75) (some (.k (.int .i64 1))) none⟩,
  ⟨(some 10), none, .mv (.t 74)⟩,
  ⟨(some 1), none, .mv (.t 76)⟩]
def rNodesetMergedIntX14 : List O := [
  ⟨(some 77), none, .mv (.t 2)⟩,
  ⟨(some 78), none, .mv (.t 8)⟩,
  ⟨(some 79), none, .mv (.t 9)⟩,
  ⟨(some 80), none, .callv (.t 77) [(.t 78), (.t 79)]⟩]
def rNodesetMergedIntX15 : List O := [
  ⟨(some 81), none, .mv (.t 7)⟩,
  ⟨(some 82), none, .mv (.t 10)⟩,
  ⟨(some 83), none, .bslice 1 1 [(.int .i64 0)] [(0, 1, (.t 82))]⟩,
  ⟨(some 84), none, .app 1 (.t 81) (.t 83)⟩,
  ⟨(some 7), none, .mv (.t 84)⟩]
def lNodesetMergedIntX0 : C := (.seq (.seq (.reg rNodesetMergedIntX6 false [] [0, 1, 2, 7, 30]) (.cond (.t 30) .skip (.exit 0))) (.blk 1 (.seq (.reg rNodesetMergedIntX7 true [(10, 13)] [0, 1, 2, 7, 8]) (.seq (.reg rNodesetMergedIntX8 true [(10, 13)] [0, 1, 2, 7, 8, 9]) (.seq (.reg rNodesetMergedIntX9 false [] [0, 1, 2, 7, 8, 9, 10]) (.seq (.seq (.reg rNodesetMergedIntX10 false [] [0, 1, 2, 7, 8, 9, 10, 65]) (.cond (.t 65) (.reg rNodesetMergedIntX11 true [] [0, 1, 2, 7, 8, 9, 10]) .skip)) (.seq (.seq (.reg rNodesetMergedIntX12 false [] [0, 1, 2, 7, 8, 9, 10, 71]) (.cond (.t 71) (.reg rNodesetMergedIntX13 true [] [0, 1, 2, 7, 8, 9, 10]) .skip)) (.seq (.reg rNodesetMergedIntX14 false [] [0, 1, 2, 7, 10, 80]) (.cond (.t 80) (.reg rNodesetMergedIntX15 false [] [0, 1, 2, 7]) .skip)))))))))
def rNodesetMergedIntX16 : List O := [
  ⟨(some 85), none, .mv (.t 7)⟩,
  ⟨(some 6), none, .mv (.t 85)⟩]
def cNodesetMergedInt : C := (.seq (.reg rNodesetMergedIntX0 false [] [0, 1, 2]) (.seq (.reg rNodesetMergedIntX1 false [] [0, 1, 2]) (.seq (.reg rNodesetMergedIntX2 false [] [0, 1, 2]) (.seq (.reg rNodesetMergedIntX3 false [] [0, 1, 2]) (.seq (.reg rNodesetMergedIntX4 false [] [0, 1, 2]) (.seq (.reg rNodesetMergedIntX5 false [] [0, 1, 2, 7]) (.seq (.blk 0 (.loop lNodesetMergedIntX0)) (.seq (.reg rNodesetMergedIntX16 false [] [6]) .ret))))))))
def qNodesetMergedInt : AFn := ⟨86, 3, [.t 6], cNodesetMergedInt⟩
/- cohesion/nodeset.Union$1 -/
def rNodesetUnion1X0 : List O := [
  ⟨(some 4), none, .mv (.k (.bool false))⟩]
def rNodesetUnion1X1 : List O := [
  ⟨(some 4), none, .mv (.k (.bool true))⟩]
def cNodesetUnion1 : C := (.seq (.reg rNodesetUnion1X0 false [] []) (.seq (.reg rNodesetUnion1X1 false [] [4]) .ret))
def qNodesetUnion1 : AFn := ⟨5, 2, [.t 4], cNodesetUnion1⟩
/- cohesion/nodeset.Meet$1 -/
def rNodesetMeet1X0 : List O := [
  ⟨(some 4), none, .mv (.k (.bool false))⟩]
def rNodesetMeet1X1 : List O := [
  ⟨(some 5), none, .mv (.t 0)⟩,
  ⟨(some 6), none, .mv (.t 5)⟩,
  ⟨(some 7), (some (6, true)), .mv (.t 1)⟩,
  ⟨(some 8), none, .pick (.t 6) (.t 7) (.k (.bool false))⟩,
  ⟨(some 4), none, .mv (.t 8)⟩]
def cNodesetMeet1 : C := (.seq (.reg rNodesetMeet1X0 false [] [0, 1]) (.seq (.reg rNodesetMeet1X1 false [] [4]) .ret))
def qNodesetMeet1 : AFn := ⟨9, 2, [.t 4], cNodesetMeet1⟩
/- cohesion/nodeset.Minus$1 -/
def rNodesetMinus1X0 : List O := [
  ⟨(some 4), none, .mv (.k (.bool false))⟩]
def rNodesetMinus1X1 : List O := [
  ⟨(some 5), none, .mv (.t 1)⟩,
  ⟨(some 6), none, .un .not (.t 5)⟩,
  ⟨(some 4), none, .mv (.t 6)⟩]
def cNodesetMinus1 : C := (.seq (.reg rNodesetMinus1X0 false [] [1]) (.seq (.reg rNodesetMinus1X1 false [] [4]) .ret))
def qNodesetMinus1 : AFn := ⟨7, 2, [.t 4], cNodesetMinus1⟩
/- slices.Contains[[]int,int] -/
def rSlicesContainsIntIntX0 : List O := [
  ⟨(some 4), none, .mv (.k (.bool false))⟩]
def rSlicesContainsIntIntX1 : List O := [
  ⟨(some 5), none, .mv (.t 0)⟩,
  ⟨(some 6), none, .mv (.t 1)⟩,
  ⟨(some 7), none, .call nSlicesIndexIntInt [(.t 5), (.t 6)]⟩,
  ⟨(some 8), none, .bin .geq (.t 7) (.k (.int .i64 0))⟩,
  ⟨(some 4), none, .mv (.t 8)⟩]
def cSlicesContainsIntInt : C := (.seq (.reg rSlicesContainsIntIntX0 false [] [0, 1]) (.seq (.reg rSlicesContainsIntIntX1 false [] [4]) .ret))
def qSlicesContainsIntInt : AFn := ⟨9, 2, [.t 4], cSlicesContainsIntInt⟩
/- cmp.Compare[int] -/
def rCmpCompareIntX0 : List O := [
  ⟨(some 4), none, .mv (.k (.int .i64 0))⟩]
def rCmpCompareIntX1 : List O := [
  ⟨(some 7), none, .mv (.t 0)⟩,
  ⟨(some 8), none, .call nCmpIsNaNInt [(.t 7)]⟩,
  ⟨(some 5), none, .mv (.t 8)⟩]
def rCmpCompareIntX2 : List O := [
  ⟨(some 9), none, .mv (.t 1)⟩,
  ⟨(some 10), none, .call nCmpIsNaNInt [(.t 9)]⟩,
  ⟨(some 6), none, .mv (.t 10)⟩]
def rCmpCompareIntX3 : List O := [
  ⟨(some 11), none, .mv (.t 5)⟩]
def rCmpCompareIntX4 : List O := [
  ⟨(some 12), none, .mv (.t 6)⟩]
def rCmpCompareIntX5 : List O := [
  ⟨(some 4), none, .mv (.k (.int .i64 0))⟩]
def rCmpCompareIntX6 : List O := [
  ⟨(some 4), none, .mv (.k (.int .i64 (-1)))⟩]
def rCmpCompareIntX7 : List O := [
  ⟨(some 13), none, .mv (.t 6)⟩]
def rCmpCompareIntX8 : List O := [
  ⟨(some 4), none, .mv (.k (.int .i64 1))⟩]
def rCmpCompareIntX9 : List O := [
  ⟨(some 14), none, .mv (.t 0)⟩,
  ⟨(some 15), none, .mv (.t 1)⟩,
  ⟨(some 16), none, .bin .lss (.t 14) (.t 15)⟩]
def rCmpCompareIntX10 : List O := [
  ⟨(some 4), none, .mv (.k (.int .i64 (-1)))⟩]
def rCmpCompareIntX11 : List O := [
  ⟨(some 17), none, .mv (.t 0)⟩,
  ⟨(some 18), none, .mv (.t 1)⟩,
  ⟨(some 19), none, .bin .gtr (.t 17) (.t 18)⟩]
def rCmpCompareIntX12 : List O := [
  ⟨(some 4), none, .mv (.k (.int .i64 1))⟩]
def rCmpCompareIntX13 : List O := [
  ⟨(some 4), none, .mv (.k (.int .i64 0))⟩]
def cCmpCompareInt : C := (.seq (.reg rCmpCompareIntX0 false [] [0, 1]) (.seq (.reg rCmpCompareIntX1 false [] [0, 1, 5]) (.seq (.reg rCmpCompareIntX2 false [] [0, 1, 5, 6]) (.seq (.seq (.reg rCmpCompareIntX3 false [] [0, 1, 6, 11]) (.cond (.t 11) (.seq (.seq (.reg rCmpCompareIntX4 false [] [12]) (.cond (.t 12) (.seq (.reg rCmpCompareIntX5 false [] [4]) .ret) .skip)) (.seq (.reg rCmpCompareIntX6 false [] [4]) .ret)) .skip)) (.seq (.seq (.reg rCmpCompareIntX7 false [] [0, 1, 13]) (.cond (.t 13) (.seq (.reg rCmpCompareIntX8 false [] [4]) .ret) .skip)) (.seq (.seq (.reg rCmpCompareIntX9 false [] [0, 1, 16]) (.cond (.t 16) (.seq (.reg rCmpCompareIntX10 false [] [4]) .ret) .skip)) (.seq (.seq (.reg rCmpCompareIntX11 false [] [19]) (.cond (.t 19) (.seq (.reg rCmpCompareIntX12 false [] [4]) .ret) .skip)) (.seq (.reg rCmpCompareIntX13 false [] [4]) .ret))))))))
def qCmpCompareInt : AFn := ⟨20, 2, [.t 4], cCmpCompareInt⟩
/- slices.Clone[[]int,int] -/
def rSlicesCloneIntIntX0 : List O := [
  ⟨(some 2), none, .mv (.k .nils)⟩]
def rSlicesCloneIntIntX1 : List O := [
  ⟨(some 3), none, .mv (.t 0)⟩,
  ⟨(some 4), none, .eq false .nsl (.t 3) (.k .nils)⟩]
def rSlicesCloneIntIntX2 : List O := [
  ⟨(some 2), none, .mv (.k .nils)⟩]
def rSlicesCloneIntIntX3 : List O := [
  ⟨(some 5), none, .bslice 1 0 [(.int .i64 0)] []⟩,
  ⟨(some 6), none, .mv (.t 0)⟩,
  ⟨(some 7), none, .app 1 (.t 5) (.t 6)⟩,
  ⟨(some 2), none, .mv (.t 7)⟩]
def cSlicesCloneIntInt : C := (.seq (.reg rSlicesCloneIntIntX0 false [] [0]) (.seq (.seq (.reg rSlicesCloneIntIntX1 false [] [0, 4]) (.cond (.t 4) (.seq (.reg rSlicesCloneIntIntX2 false [] [2]) .ret) .skip)) (.seq (.reg rSlicesCloneIntIntX3 false [] [2]) .ret)))
def qSlicesCloneIntInt : AFn := ⟨8, 1, [.t 2], cSlicesCloneIntInt⟩
/- slices.Sort[[]int,int] -/
def rSlicesSortIntIntX0 : List O := [
  ⟨(some 3), none, .mv (.t 0)⟩,
  ⟨(some 4), none, .len (.t 3)⟩,
  ⟨(some 2), none, .mv (.t 4)⟩]
def rSlicesSortIntIntX1 : List O := [
  ⟨(some 5), none, .mv (.t 0)⟩,
  ⟨(some 6), none, .mv (.t 2)⟩,
  ⟨(some 7), none, .mv (.t 2)⟩,
  ⟨(some 8), none, .cvt .u64 (.t 7)⟩,
  ⟨(some 9), none, .call nMathBitsLen [(.t 8)]⟩,
  ⟨(some 10), none, .call nSlicesPdqsortOrderedInt [(.t 5), (.k (.int .i64 0)), (.t 6), (.t 9)]⟩]
def cSlicesSortIntInt : C := (.seq (.reg rSlicesSortIntIntX0 false [] [0, 2]) (.reg rSlicesSortIntIntX1 false [] []))
def qSlicesSortIntInt : AFn := ⟨11, 1, [], cSlicesSortIntInt⟩
/- slices.Compact[[]int,int] -/
def rSlicesCompactIntIntX0 : List O := [
  ⟨(some 2), none, .mv (.k .nils)⟩]
def rSlicesCompactIntIntX1 : List O := [
  ⟨(some 6), none, .mv (.t 0)⟩,
  ⟨(some 7), none, .len (.t 6)⟩,
  ⟨(some 8), none, .bin .lss (.t 7) (.k (.int .i64 2))⟩]
def rSlicesCompactIntIntX2 : List O := [
  ⟨(some 9), none, .mv (.t 0)⟩,
  ⟨(some 2), none, .mv (.t 9)⟩]
def rSlicesCompactIntIntX3 : List O := [
  ⟨(some 3), none, .mv (.k (.int .i64 1))⟩]
def rSlicesCompactIntIntX4 : List O := [
  ⟨(some 10), none, .mv (.t 3)⟩,
  ⟨(some 11), none, .mv (.t 0)⟩,
  ⟨(some 12), none, .len (.t 11)⟩,
  ⟨(some 13), none, .bin .lss (.t 10) (.t 12)⟩]
def rSlicesCompactIntIntX5 : List O := [
  ⟨(some 16), none, .mv (.t 0)⟩,
  ⟨(some 17), none, .mv (.t 3)⟩,
  ⟨(some 18), none, .ixa 1 (.t 16) (.t 17)⟩,
  ⟨(some 19), none, .ld none (.t 18)⟩,
  ⟨(some 20), none, .mv (.t 0)⟩,
  ⟨(some 21), none, .mv (.t 3)⟩,
  ⟨(some 22), none, .bin .sub (.t 21) (.k (.int .i64 1))⟩,
  ⟨(some 23), none, .ixa 1 (.t 20) (.t 22)⟩,
  ⟨(some 24), none, .ld none (.t 23)⟩,
  ⟨(some 25), none, .bin .eql (.t 19) (.t 24)⟩]
def rSlicesCompactIntIntX6 : List O := [
  ⟨(some 26), none, .mv (.t 0)⟩,
  ⟨(some 27), none, .mv (.t 3)⟩,
  ⟨(some 28), none, .slc 1 (.t 26) (some (.t 27)) none⟩,
  ⟨(some 4), none, .mv (.t 28)⟩]
def rSlicesCompactIntIntX7 : List O := [
  ⟨(some 5), none, .mv (.k (.int .i64 1))⟩]
def rSlicesCompactIntIntX8 : List O := [
  ⟨(some 29), none, .mv (.t 5)⟩,
  ⟨(some 30), none, .mv (.t 4)⟩,
  ⟨(some 31), none, .len (.t 30)⟩,
  ⟨(some 32), none, .bin .lss (.t 29) (.t 31)⟩]
def rSlicesCompactIntIntX9 : List O := [
  ⟨(some 35), none, .mv (.t 4)⟩,
  ⟨(some 36), none, .mv (.t 5)⟩,
  ⟨(some 37), none, .ixa 1 (.t 35) (.t 36)⟩,
  ⟨(some 38), none, .ld none (.t 37)⟩,
  ⟨(some 39), none, .mv (.t 4)⟩,
  ⟨(some 40), none, .mv (.t 5)⟩,
  ⟨(some 41), none, .bin .sub (.t 40) (.k (.int .i64 1))⟩,
  ⟨(some 42), none, .ixa 1 (.t 39) (.t 41)⟩,
  ⟨(some 43), none, .ld none (.t 42)⟩,
  ⟨(some 44), none, .bin .neq (.t 38) (.t 43)⟩]
def rSlicesCompactIntIntX10 : List O := [
  ⟨(some 45), none, .mv (.t 0)⟩,
  ⟨(some 46), none, .mv (.t 3)⟩,
  ⟨(some 47), none, .mv (.t 4)⟩,
  ⟨(some 48), none, .mv (.t 5)⟩,
  ⟨(some 49), none, .ixa 1 (.t 47) (.t 48)⟩,
  ⟨(some 50), none, .ld none (.t 49)⟩,
  ⟨(some 51), none, .ixa 1 (.t 45) (.t 46)⟩,
  ⟨none, none, .st 1 (.t 51) (.t 50)⟩]
def rSlicesCompactIntIntX11 : List O := [
  ⟨(some 52), none, .mv (.t 3)⟩,
  ⟨(some 53), none, .bin .add (.t 52) (.k (.int .i64 1))⟩,
  ⟨(some 3), none, .mv (.t 53)⟩]
def rSlicesCompactIntIntX12 : List O := [
  ⟨(some 33), none, .mv (.t 5)⟩,
  ⟨(some 34), none, .bin .add (.t 33) (.k (.int .i64 1))⟩,
  ⟨(some 5), none, .mv (.t 34)⟩]
def lSlicesCompactIntIntX0 : C := (.seq (.seq (.reg rSlicesCompactIntIntX8 false [] [0, 3, 4, 5, 32]) (.cond (.t 32) .skip (.exit 2))) (.seq (.blk 3 (.seq (.reg rSlicesCompactIntIntX9 true [(3, 8)] [0, 3, 4, 5, 44]) (.cond (.t 44) (.seq (.reg rSlicesCompactIntIntX10 false [] [0, 3, 4, 5]) (.reg rSlicesCompactIntIntX11 false [] [0, 3, 4, 5])) .skip))) (.reg rSlicesCompactIntIntX12 false [] [0, 3, 4, 5])))
def rSlicesCompactIntIntX13 : List O := [
  ⟨(some 54), none, .mv (.t 0)⟩,
  ⟨(some 55), none, .mv (.t 3)⟩,
  ⟨(some 56), none, .slc 1 (.t 54) (some (.t 55)) none⟩,
  ⟨none, none, .clr 1 [(.int .i64 0)] (.t 56)⟩]
def rSlicesCompactIntIntX14 : List O := [
  ⟨(some 57), none, .mv (.t 0)⟩,
  ⟨(some 58), none, .mv (.t 3)⟩,
  ⟨(some 59), none, .slc 1 (.t 57) none (some (.t 58))⟩,
  ⟨(some 2), none, .mv (.t 59)⟩]
def rSlicesCompactIntIntX15 : List O := [
  ⟨(some 14), none, .mv (.t 3)⟩,
  ⟨(some 15), none, .bin .add (.t 14) (.k (.int .i64 1))⟩,
  ⟨(some 3), none, .mv (.t 15)⟩]
def lSlicesCompactIntIntX1 : C := (.seq (.seq (.reg rSlicesCompactIntIntX4 false [] [0, 3, 13]) (.cond (.t 13) .skip (.exit 0))) (.seq (.blk 1 (.seq (.reg rSlicesCompactIntIntX5 true [(3, 8)] [0, 3, 25]) (.cond (.t 25) (.seq (.reg rSlicesCompactIntIntX6 false [] [0, 3, 4]) (.seq (.seq (.reg rSlicesCompactIntIntX7 false [] [0, 3, 4, 5]) (.blk 2 (.loop lSlicesCompactIntIntX0))) (.seq (.reg rSlicesCompactIntIntX13 false [] [0, 3]) (.seq (.reg rSlicesCompactIntIntX14 false [] [2]) .ret)))) .skip))) (.reg rSlicesCompactIntIntX15 false [] [0, 3])))
def rSlicesCompactIntIntX16 : List O := [
  ⟨(some 60), none, .mv (.t 0)⟩,
  ⟨(some 2), none, .mv (.t 60)⟩]
def cSlicesCompactIntInt : C := (.seq (.reg rSlicesCompactIntIntX0 false [] [0]) (.seq (.seq (.reg rSlicesCompactIntIntX1 false [] [0, 8]) (.cond (.t 8) (.seq (.reg rSlicesCompactIntIntX2 false [] [2]) .ret) .skip)) (.seq (.seq (.reg rSlicesCompactIntIntX3 false [] [0, 3]) (.blk 0 (.loop lSlicesCompactIntIntX1))) (.seq (.reg rSlicesCompactIntIntX16 false [] [2]) .ret))))
def qSlicesCompactIntInt : AFn := ⟨61, 1, [.t 2], cSlicesCompactIntInt⟩
/- slices.Index[[]int,int] -/
def rSlicesIndexIntIntX0 : List O := [
  ⟨(some 4), none, .mv (.k (.int .i64 0))⟩]
def rSlicesIndexIntIntX1 : List O := [
  ⟨(some 6), none, .mv (.t 0)⟩,
  ⟨(some 7), none, .len (.t 6)⟩,
  ⟨(some 8), none, .mv (.k (.int .i64 0))⟩]
def rSlicesIndexIntIntX2 : List O := [
  ⟨(some 9), none, .bin .lss (.t 8) (.t 7)⟩]
def rSlicesIndexIntIntX3 : List O := [
  ⟨(some 10), none, .mv (.t 8)⟩,
  ⟨(some 5), none, .mv (.t 10)⟩]
def rSlicesIndexIntIntX4 : List O := [
  ⟨(some 11), none, .mv (.t 1)⟩,
  ⟨(some 12), none, .mv (.t 0)⟩,
  ⟨(some 13), none, .mv (.t 5)⟩,
  ⟨(some 14), none, .ixa 1 (.t 12) (.t 13)⟩,
  ⟨(some 15), none, .ld none (.t 14)⟩,
  ⟨(some 16), none, .bin .eql (.t 11) (.t 15)⟩]
def rSlicesIndexIntIntX5 : List O := [
  ⟨(some 17), none, .mv (.t 5)⟩,
  ⟨(some 4), none, .mv (.t 17)⟩]
def rSlicesIndexIntIntX6 : List O := [
  ⟨(some 18), none, .bin .add (.t 8) (.k (.int .i64 1))⟩,
  ⟨(some 8), none, .mv (.t 18)⟩]
def lSlicesIndexIntIntX0 : C := (.seq (.reg rSlicesIndexIntIntX2 false [] [0, 1, 7, 8, 9]) (.seq (.cond (.t 9) .skip (.exit 0)) (.seq (.blk 1 (.seq (.reg rSlicesIndexIntIntX3 false [] [0, 1, 5, 7, 8]) (.seq (.reg rSlicesIndexIntIntX4 false [] [0, 1, 5, 7, 8, 16]) (.cond (.t 16) (.seq (.reg rSlicesIndexIntIntX5 false [] [4]) .ret) .skip)))) (.reg rSlicesIndexIntIntX6 false [] [0, 1, 7, 8]))))
def rSlicesIndexIntIntX7 : List O := [
  ⟨(some 4), none, .mv (.k (.int .i64 (-1)))⟩]
def cSlicesIndexIntInt : C := (.seq (.reg rSlicesIndexIntIntX0 false [] [0, 1]) (.seq (.seq (.reg rSlicesIndexIntIntX1 false [] [0, 1, 7, 8]) (.blk 0 (.loop lSlicesIndexIntIntX0))) (.seq (.reg rSlicesIndexIntIntX7 false [] [4]) .ret)))
def qSlicesIndexIntInt : AFn := ⟨19, 2, [.t 4], cSlicesIndexIntInt⟩
/- cmp.isNaN[int] -/
def rCmpIsNaNIntX0 : List O := [
  ⟨(some 2), none, .mv (.k (.bool false))⟩]
def rCmpIsNaNIntX1 : List O := [
  ⟨(some 3), none, .mv (.t 0)⟩,
  ⟨(some 4), none, .mv (.t 0)⟩,
  ⟨(some 5), none, .bin .neq (.t 3) (.t 4)⟩,
  ⟨(some 2), none, .mv (.t 5)⟩]
def cCmpIsNaNInt : C := (.seq (.reg rCmpIsNaNIntX0 false [] [0]) (.seq (.reg rCmpIsNaNIntX1 false [] [2]) .ret))
def qCmpIsNaNInt : AFn := ⟨6, 1, [.t 2], cCmpIsNaNInt⟩
/- slices.pdqsortOrdered[int] -/
def rSlicesPdqsortOrderedIntX0 : List O := [
  ⟨(some 8), none, .mv (.k (.bool true))⟩]
def rSlicesPdqsortOrderedIntX1 : List O := [
  ⟨(some 9), none, .mv (.k (.bool true))⟩]
def rSlicesPdqsortOrderedIntX2 : List O := [
  ⟨(some 19), none, .mv (.t 2)⟩,
  ⟨(some 20), none, .mv (.t 1)⟩,
  ⟨(some 21), none, .bin .sub (.t 19) (.t 20)⟩,
  ⟨(some 10), none, .mv (.t 21)⟩]
def rSlicesPdqsortOrderedIntX3 : List O := [
  ⟨(some 22), none, .mv (.t 10)⟩,
  ⟨(some 23), none, .bin .leq (.t 22) (.k (.int .i64 12))⟩]
def rSlicesPdqsortOrderedIntX4 : List O := [
  ⟨(some 24), none, .mv (.t 0)⟩,
  ⟨(some 25), none, .mv (.t 1)⟩,
  ⟨(some 26), none, .mv (.t 2)⟩,
  ⟨(some 27), none, .call nSlicesInsertionSortOrderedInt [(.t 24), (.t 25), (.t 26)]⟩]
def rSlicesPdqsortOrderedIntX5 : List O := [
  ⟨(some 28), none, .mv (.t 3)⟩,
  ⟨(some 29), none, .bin .eql (.t 28) (.k (.int .i64 0))⟩]
def rSlicesPdqsortOrderedIntX6 : List O := [
  ⟨(some 30), none, .mv (.t 0)⟩,
  ⟨(some 31), none, .mv (.t 1)⟩,
  ⟨(some 32), none, .mv (.t 2)⟩,
  ⟨(some 33), none, .call nSlicesHeapSortOrderedInt [(.t 30), (.t 31), (.t 32)]⟩]
def rSlicesPdqsortOrderedIntX7 : List O := [
  ⟨(some 34), none, .mv (.t 8)⟩,
  ⟨(some 35), none, .un .not (.t 34)⟩]
def rSlicesPdqsortOrderedIntX8 : List O := [
  ⟨(some 36), none, .mv (.t 0)⟩,
  ⟨(some 37), none, .mv (.t 1)⟩,
  ⟨(some 38), none, .mv (.t 2)⟩,
  ⟨(some 39), none, .call nSlicesBreakPatternsOrderedInt [(.t 36), (.t 37), (.t 38)]⟩]
def rSlicesPdqsortOrderedIntX9 : List O := [
  ⟨(some 40), none, .mv (.t 3)⟩,
  ⟨(some 41), none, .bin .sub (.t 40) (.k (.int .i64 1))⟩,
  ⟨(some 3), none, .mv (.t 41)⟩]
def rSlicesPdqsortOrderedIntX10 : List O := [
  ⟨(some 43), none, .mv (.t 0)⟩,
  ⟨(some 44), none, .mv (.t 1)⟩,
  ⟨(some 45), none, .mv (.t 2)⟩,
  ⟨(some 46), none, .call nSlicesChoosePivotOrderedInt [(.t 43), (.t 44), (.t 45)]⟩,
  ⟨(some 42), none, .mv (.t 46)⟩,
  ⟨(some 47), none, .ext 0 (.t 42)⟩,
  ⟨(some 48), none, .ext 1 (.t 42)⟩,
  ⟨(some 11), none, .mv (.t 47)⟩,
  ⟨(some 12), none, .mv (.t 48)⟩]
def rSlicesPdqsortOrderedIntX11 : List O := [
  ⟨(some 49), none, .mv (.t 12)⟩,
  ⟨(some 50), none, .bin .eql (.t 49) (.k (.int .i64 2))⟩]
def rSlicesPdqsortOrderedIntX12 : List O := [
  ⟨(some 51), none, .mv (.t 0)⟩,
  ⟨(some 52), none, .mv (.t 1)⟩,
  ⟨(some 53), none, .mv (.t 2)⟩,
  ⟨(some 54), none, .call nSlicesReverseRangeOrderedInt [(.t 51), (.t 52), (.t 53)]⟩]
def rSlicesPdqsortOrderedIntX13 : List O := [
  ⟨(some 55), none, .mv (.t 2)⟩,
  ⟨(some 56), none, .bin .sub (.t 55) (.k (.int .i64 1))⟩,
  ⟨(some 57), none, .mv (.t 11)⟩,
  ⟨(some 58), none, .mv (.t 1)⟩,
  ⟨(some 59), none, .bin .sub (.t 57) (.t 58)⟩,
  ⟨(some 60), none, .bin .sub (.t 56) (.t 59)⟩,
  ⟨(some 11), none, .mv (.t 60)⟩]
def rSlicesPdqsortOrderedIntX14 : List O := [
  ⟨(some 12), none, .mv (.k (.int .i64 1))⟩]
def rSlicesPdqsortOrderedIntX15 : List O := [
  ⟨(some 61), none, .mv (.t 8)⟩,
  ⟨(some 62), none, .mv (.t 61)⟩,
  ⟨(some 63), (some (62, true)), .mv (.t 9)⟩,
  ⟨(some 64), none, .pick (.t 62) (.t 63) (.k (.bool false))⟩,
  ⟨(some 65), none, .mv (.t 64)⟩,
  ⟨(some 66), (some (65, true)), .mv (.t 12)⟩,
  ⟨(some 67), (some (65, true)), .bin .eql (.t 66) (.k (.int .i64 1))⟩,
  ⟨(some 68), none, .pick (.t 65) (.t 67) (.k (.bool false))⟩]
def rSlicesPdqsortOrderedIntX16 : List O := [
  ⟨(some 69), none, .mv (.t 0)⟩,
  ⟨(some 70), none, .mv (.t 1)⟩,
  ⟨(some 71), none, .mv (.t 2)⟩,
  ⟨(some 72), none, .call nSlicesPartialInsertionSortOrderedInt [(.t 69), (.t 70), (.t 71)]⟩]
def rSlicesPdqsortOrderedIntX17 : List O := [
  ⟨(some 73), none, .mv (.t 1)⟩,
  ⟨(some 74), none, .bin .gtr (.t 73) (.k (.int .i64 0))⟩,
  ⟨(some 75), none, .mv (.t 74)⟩,
  ⟨(some 76), (some (75, true)), .mv (.t 0)⟩,
  ⟨(some 77), (some (75, true)), .mv (.t 1)⟩,
  ⟨(some 78), (some (75, true)), .bin .sub (.t 77) (.k (.int .i64 1))⟩,
  ⟨(some 79), (some (75, true)), .ixa 1 (.t 76) (.t 78)⟩,
  ⟨(some 80), (some (75, true)), .ld none (.t 79)⟩,
  ⟨(some 81), (some (75, true)), .mv (.t 0)⟩,
  ⟨(some 82), (some (75, true)), .mv (.t 11)⟩,
  ⟨(some 83), (some (75, true)), .ixa 1 (.t 81) (.t 82)⟩,
  ⟨(some 84), (some (75, true)), .ld none (.t 83)⟩,
  ⟨(some 85), (some (75, true)), .call nCmpLessInt [(.t 80), (.t 84)]⟩,
  ⟨(some 86), (some (75, true)), .un .not (.t 85)⟩,
  ⟨(some 87), none, .pick (.t 75) (.t 86) (.k (.bool false))⟩]
def rSlicesPdqsortOrderedIntX18 : List O := [
  ⟨(some 88), none, .mv (.t 0)⟩,
  ⟨(some 89), none, .mv (.t 1)⟩,
  ⟨(some 90), none, .mv (.t 2)⟩,
  ⟨(some 91), none, .mv (.t 11)⟩,
  ⟨(some 92), none, .call nSlicesPartitionEqualOrderedInt [(.t 88), (.t 89), (.t 90), (.t 91)]⟩,
  ⟨(some 13), none, .mv (.t 92)⟩]
def rSlicesPdqsortOrderedIntX19 : List O := [
  ⟨(some 93), none, .mv (.t 13)⟩,
  ⟨(some 1), none, .mv (.t 93)⟩]
def rSlicesPdqsortOrderedIntX20 : List O := [
  ⟨(some 95), none, .mv (.t 0)⟩,
  ⟨(some 96), none, .mv (.t 1)⟩,
  ⟨(some 97), none, .mv (.t 2)⟩,
  ⟨(some 98), none, .mv (.t 11)⟩,
  ⟨(some 99), none, .call nSlicesPartitionOrderedInt [(.t 95), (.t 96), (.t 97), (.t 98)]⟩,
  ⟨(some 94), none, .mv (.t 99)⟩,
  ⟨(some 100), none, .ext 0 (.t 94)⟩,
  ⟨(some 101), none, .ext 1 (.t 94)⟩,
  ⟨(some 14), none, .mv (.t 100)⟩,
  ⟨(some 15), none, .mv (.t 101)⟩]
def rSlicesPdqsortOrderedIntX21 : List O := [
  ⟨(some 102), none, .mv (.t 15)⟩,
  ⟨(some 9), none, .mv (.t 102)⟩]
def rSlicesPdqsortOrderedIntX22 : List O := [
  ⟨(some 103), none, .mv (.t 14)⟩,
  ⟨(some 104), none, .mv (.t 1)⟩,
  ⟨(some 105), none, .bin .sub (.t 103) (.t 104)⟩,
  ⟨(some 106), none, .mv (.t 2)⟩,
  ⟨(some 107), none, .mv (.t 14)⟩,
  ⟨(some 108), none, .bin .sub (.t 106) (.t 107)⟩,
  ⟨(some 16), none, .mv (.t 105)⟩,
  ⟨(some 17), none, .mv (.t 108)⟩]
def rSlicesPdqsortOrderedIntX23 : List O := [
  ⟨(some 109), none, .mv (.t 10)⟩,
  ⟨(some 110), none, .bin .quo (.t 109) (.k (.int .i64 8))⟩,
  ⟨(some 18), none, .mv (.t 110)⟩]
def rSlicesPdqsortOrderedIntX24 : List O := [
  ⟨(some 111), none, .mv (.t 16)⟩,
  ⟨(some 112), none, .mv (.t 17)⟩,
  ⟨(some 113), none, .bin .lss (.t 111) (.t 112)⟩]
def rSlicesPdqsortOrderedIntX25 : List O := [
  ⟨(some 114), none, .mv (.t 16)⟩,
  ⟨(some 115), none, .mv (.t 18)⟩,
  ⟨(some 116), none, .bin .geq (.t 114) (.t 115)⟩,
  ⟨(some 8), none, .mv (.t 116)⟩]
def rSlicesPdqsortOrderedIntX26 : List O := [
  ⟨(some 117), none, .mv (.t 0)⟩,
  ⟨(some 118), none, .mv (.t 1)⟩,
  ⟨(some 119), none, .mv (.t 14)⟩,
  ⟨(some 120), none, .mv (.t 3)⟩,
  ⟨(some 121), none, .call nSlicesPdqsortOrderedInt [(.t 117), (.t 118), (.t 119), (.t 120)]⟩]
def rSlicesPdqsortOrderedIntX27 : List O := [
  ⟨(some 122), none, .mv (.t 14)⟩,
  ⟨(some 123), none, .bin .add (.t 122) (.k (.int .i64 1))⟩,
  ⟨(some 1), none, .mv (.t 123)⟩]
def rSlicesPdqsortOrderedIntX28 : List O := [
  ⟨(some 124), none, .mv (.t 17)⟩,
  ⟨(some 125), none, .mv (.t 18)⟩,
  ⟨(some 126), none, .bin .geq (.t 124) (.t 125)⟩,
  ⟨(some 8), none, .mv (.t 126)⟩]
def rSlicesPdqsortOrderedIntX29 : List O := [
  ⟨(some 127), none, .mv (.t 0)⟩,
  ⟨(some 128), none, .mv (.t 14)⟩,
  ⟨(some 129), none, .bin .add (.t 128) (.k (.int .i64 1))⟩,
  ⟨(some 130), none, .mv (.t 2)⟩,
  ⟨(some 131), none, .mv (.t 3)⟩,
  ⟨(some 132), none, .call nSlicesPdqsortOrderedInt [(.t 127), (.t 129), (.t 130), (.t 131)]⟩]
def rSlicesPdqsortOrderedIntX30 : List O := [
  ⟨(some 133), none, .mv (.t 14)⟩,
  ⟨(some 2), none, .mv (.t 133)⟩]
def lSlicesPdqsortOrderedIntX0 : C := (.blk 1 (.seq (.reg rSlicesPdqsortOrderedIntX2 false [] [0, 1, 2, 3, 8, 9, 10]) (.seq (.seq (.reg rSlicesPdqsortOrderedIntX3 false [] [0, 1, 2, 3, 8, 9, 10, 23]) (.cond (.t 23) (.seq (.reg rSlicesPdqsortOrderedIntX4 false [] []) .ret) .skip)) (.seq (.seq (.reg rSlicesPdqsortOrderedIntX5 false [] [0, 1, 2, 3, 8, 9, 10, 29]) (.cond (.t 29) (.seq (.reg rSlicesPdqsortOrderedIntX6 false [] []) .ret) .skip)) (.seq (.seq (.reg rSlicesPdqsortOrderedIntX7 false [] [0, 1, 2, 3, 8, 9, 10, 35]) (.cond (.t 35) (.seq (.reg rSlicesPdqsortOrderedIntX8 false [] [0, 1, 2, 3, 8, 9, 10]) (.reg rSlicesPdqsortOrderedIntX9 false [] [0, 1, 2, 3, 8, 9, 10])) .skip)) (.seq (.reg rSlicesPdqsortOrderedIntX10 false [] [0, 1, 2, 3, 8, 9, 10, 11, 12]) (.seq (.seq (.reg rSlicesPdqsortOrderedIntX11 false [] [0, 1, 2, 3, 8, 9, 10, 11, 12, 50]) (.cond (.t 50) (.seq (.reg rSlicesPdqsortOrderedIntX12 false [] [0, 1, 2, 3, 8, 9, 10, 11]) (.seq (.reg rSlicesPdqsortOrderedIntX13 false [] [0, 1, 2, 3, 8, 9, 10, 11]) (.reg rSlicesPdqsortOrderedIntX14 false [] [0, 1, 2, 3, 8, 9, 10, 11, 12]))) .skip)) (.seq (.seq (.reg rSlicesPdqsortOrderedIntX15 false [] [0, 1, 2, 3, 8, 9, 10, 11, 68]) (.cond (.t 68) (.seq (.reg rSlicesPdqsortOrderedIntX16 false [] [0, 1, 2, 3, 8, 9, 10, 11, 72]) (.cond (.t 72) .ret .skip)) .skip)) (.seq (.seq (.reg rSlicesPdqsortOrderedIntX17 true [(7, 11)] [0, 1, 2, 3, 8, 9, 10, 11, 87]) (.cond (.t 87) (.seq (.reg rSlicesPdqsortOrderedIntX18 false [] [0, 2, 3, 8, 9, 13]) (.seq (.reg rSlicesPdqsortOrderedIntX19 false [] [0, 1, 2, 3, 8, 9]) (.exit 1))) .skip)) (.seq (.reg rSlicesPdqsortOrderedIntX20 false [] [0, 1, 2, 3, 10, 14, 15]) (.seq (.reg rSlicesPdqsortOrderedIntX21 false [] [0, 1, 2, 3, 9, 10, 14]) (.seq (.reg rSlicesPdqsortOrderedIntX22 false [] [0, 1, 2, 3, 9, 10, 14, 16, 17]) (.seq (.reg rSlicesPdqsortOrderedIntX23 false [] [0, 1, 2, 3, 9, 14, 16, 17, 18]) (.seq (.reg rSlicesPdqsortOrderedIntX24 false [] [0, 1, 2, 3, 9, 14, 16, 17, 18, 113]) (.cond (.t 113) (.seq (.reg rSlicesPdqsortOrderedIntX25 false [] [0, 1, 2, 3, 8, 9, 14]) (.seq (.reg rSlicesPdqsortOrderedIntX26 false [] [0, 2, 3, 8, 9, 14]) (.reg rSlicesPdqsortOrderedIntX27 false [] [0, 1, 2, 3, 8, 9]))) (.seq (.reg rSlicesPdqsortOrderedIntX28 false [] [0, 1, 2, 3, 8, 9, 14]) (.seq (.reg rSlicesPdqsortOrderedIntX29 false [] [0, 1, 3, 8, 9, 14]) (.reg rSlicesPdqsortOrderedIntX30 false [] [0, 1, 2, 3, 8, 9]))))))))))))))))))
def cSlicesPdqsortOrderedInt : C := (.seq (.reg rSlicesPdqsortOrderedIntX0 false [] [0, 1, 2, 3, 8]) (.seq (.reg rSlicesPdqsortOrderedIntX1 false [] [0, 1, 2, 3, 8, 9]) (.blk 0 (.loop lSlicesPdqsortOrderedIntX0))))
def qSlicesPdqsortOrderedInt : AFn := ⟨134, 4, [], cSlicesPdqsortOrderedInt⟩
/- math/bits.Len -/
def rMathBitsLenX0 : List O := [
  ⟨(some 2), none, .mv (.k (.int .i64 0))⟩]
def rMathBitsLenX1 : List O := [
  ⟨(some 3), none, .mv (.t 0)⟩,
  ⟨(some 4), none, .cvt .u32 (.t 3)⟩,
  ⟨(some 5), none, .call nMathBitsLen32 [(.t 4)]⟩,
  ⟨(some 2), none, .mv (.t 5)⟩]
def rMathBitsLenX2 : List O := [
  ⟨(some 6), none, .mv (.t 0)⟩,
  ⟨(some 7), none, .call nMathBitsLen64 [(.t 6)]⟩,
  ⟨(some 2), none, .mv (.t 7)⟩]
def cMathBitsLen : C := (.seq (.reg rMathBitsLenX0 false [] [0]) (.seq (.cond (.k (.bool false)) (.seq (.reg rMathBitsLenX1 false [] [2]) .ret) .skip) (.seq (.reg rMathBitsLenX2 false [] [2]) .ret)))
def qMathBitsLen : AFn := ⟨8, 1, [.t 2], cMathBitsLen⟩
/- slices.insertionSortOrdered[int] -/
def rSlicesInsertionSortOrderedIntX0 : List O := [
  ⟨(some 8), none, .mv (.t 1)⟩,
  ⟨(some 9), none, .bin .add (.t 8) (.k (.int .i64 1))⟩,
  ⟨(some 6), none, .mv (.t 9)⟩]
def rSlicesInsertionSortOrderedIntX1 : List O := [
  ⟨(some 10), none, .mv (.t 6)⟩,
  ⟨(some 11), none, .mv (.t 2)⟩,
  ⟨(some 12), none, .bin .lss (.t 10) (.t 11)⟩]
def rSlicesInsertionSortOrderedIntX2 : List O := [
  ⟨(some 15), none, .mv (.t 6)⟩,
  ⟨(some 7), none, .mv (.t 15)⟩]
def rSlicesInsertionSortOrderedIntX3 : List O := [
  ⟨(some 16), none, .mv (.t 7)⟩,
  ⟨(some 17), none, .mv (.t 1)⟩,
  ⟨(some 18), none, .bin .gtr (.t 16) (.t 17)⟩,
  ⟨(some 19), none, .mv (.t 18)⟩,
  ⟨(some 20), (some (19, true)), .mv (.t 0)⟩,
  ⟨(some 21), (some (19, true)), .mv (.t 7)⟩,
  ⟨(some 22), (some (19, true)), .ixa 1 (.t 20) (.t 21)⟩,
  ⟨(some 23), (some (19, true)), .ld none (.t 22)⟩,
  ⟨(some 24), (some (19, true)), .mv (.t 0)⟩,
  ⟨(some 25), (some (19, true)), .mv (.t 7)⟩,
  ⟨(some 26), (some (19, true)), .bin .sub (.t 25) (.k (.int .i64 1))⟩,
  ⟨(some 27), (some (19, true)), .ixa 1 (.t 24) (.t 26)⟩,
  ⟨(some 28), (some (19, true)), .ld none (.t 27)⟩,
  ⟨(some 29), (some (19, true)), .call nCmpLessInt [(.t 23), (.t 28)]⟩,
  ⟨(some 30), none, .pick (.t 19) (.t 29) (.k (.bool false))⟩]
def rSlicesInsertionSortOrderedIntX4 : List O := [
  ⟨(some 33), none, .mv (.t 0)⟩,
  ⟨(some 34), none, .mv (.t 7)⟩,
  ⟨(some 35), none, .mv (.t 0)⟩,
  ⟨(some 36), none, .mv (.t 7)⟩,
  ⟨(some 37), none, .bin .sub (.t 36) (.k (.int .i64 1))⟩,
  ⟨(some 38), none, .mv (.t 0)⟩,
  ⟨(some 39), none, .mv (.t 7)⟩,
  ⟨(some 40), none, .bin .sub (.t 39) (.k (.int .i64 1))⟩,
  ⟨(some 41), none, .ixa 1 (.t 38) (.t 40)⟩,
  ⟨(some 42), none, .ld none (.t 41)⟩,
  ⟨(some 43), none, .mv (.t 0)⟩,
  ⟨(some 44), none, .mv (.t 7)⟩,
  ⟨(some 45), none, .ixa 1 (.t 43) (.t 44)⟩,
  ⟨(some 46), none, .ld none (.t 45)⟩,
  ⟨(some 47), none, .ixa 1 (.t 33) (.t 34)⟩,
  ⟨none, none, .st 1 (.t 47) (.t 42)⟩,
  ⟨(some 48), none, .ixa 1 (.t 35) (.t 37)⟩,
  ⟨none, none, .st 1 (.t 48) (.t 46)⟩]
def rSlicesInsertionSortOrderedIntX5 : List O := [
  ⟨(some 31), none, .mv (.t 7)⟩,
  ⟨(some 32), none, .bin .sub (.t 31) (.k (.int .i64 1))⟩,
  ⟨(some 7), none, .mv (.t 32)⟩]
def lSlicesInsertionSortOrderedIntX0 : C := (.seq (.seq (.reg rSlicesInsertionSortOrderedIntX3 true [(7, 12)] [0, 1, 2, 6, 7, 30]) (.cond (.t 30) .skip (.exit 2))) (.seq (.blk 3 (.reg rSlicesInsertionSortOrderedIntX4 true [(9, 13)] [0, 1, 2, 6, 7])) (.reg rSlicesInsertionSortOrderedIntX5 false [] [0, 1, 2, 6, 7])))
def rSlicesInsertionSortOrderedIntX6 : List O := [
  ⟨(some 13), none, .mv (.t 6)⟩,
  ⟨(some 14), none, .bin .add (.t 13) (.k (.int .i64 1))⟩,
  ⟨(some 6), none, .mv (.t 14)⟩]
def lSlicesInsertionSortOrderedIntX1 : C := (.seq (.seq (.reg rSlicesInsertionSortOrderedIntX1 false [] [0, 1, 2, 6, 12]) (.cond (.t 12) .skip (.exit 0))) (.seq (.blk 1 (.seq (.reg rSlicesInsertionSortOrderedIntX2 false [] [0, 1, 2, 6, 7]) (.blk 2 (.loop lSlicesInsertionSortOrderedIntX0)))) (.reg rSlicesInsertionSortOrderedIntX6 false [] [0, 1, 2, 6])))
def cSlicesInsertionSortOrderedInt : C := (.seq (.reg rSlicesInsertionSortOrderedIntX0 false [] [0, 1, 2, 6]) (.blk 0 (.loop lSlicesInsertionSortOrderedIntX1)))
def qSlicesInsertionSortOrderedInt : AFn := ⟨49, 3, [], cSlicesInsertionSortOrderedInt⟩
/- slices.heapSortOrdered[int] -/
def rSlicesHeapSortOrderedIntX0 : List O := [
  ⟨(some 11), none, .mv (.t 1)⟩,
  ⟨(some 6), none, .mv (.t 11)⟩]
def rSlicesHeapSortOrderedIntX1 : List O := [
  ⟨(some 7), none, .mv (.k (.int .i64 0))⟩]
def rSlicesHeapSortOrderedIntX2 : List O := [
  ⟨(some 12), none, .mv (.t 2)⟩,
  ⟨(some 13), none, .mv (.t 1)⟩,
  ⟨(some 14), none, .bin .sub (.t 12) (.t 13)⟩,
  ⟨(some 8), none, .mv (.t 14)⟩]
def rSlicesHeapSortOrderedIntX3 : List O := [
  ⟨(some 15), none, .mv (.t 8)⟩,
  ⟨(some 16), none, .bin .sub (.t 15) (.k (.int .i64 1))⟩,
  ⟨(some 17), none, .bin .quo (.t 16) (.k (.int .i64 2))⟩,
  ⟨(some 9), none, .mv (.t 17)⟩]
def rSlicesHeapSortOrderedIntX4 : List O := [
  ⟨(some 18), none, .mv (.t 9)⟩,
  ⟨(some 19), none, .bin .geq (.t 18) (.k (.int .i64 0))⟩]
def rSlicesHeapSortOrderedIntX5 : List O := [
  ⟨(some 22), none, .mv (.t 0)⟩,
  ⟨(some 23), none, .mv (.t 9)⟩,
  ⟨(some 24), none, .mv (.t 8)⟩,
  ⟨(some 25), none, .mv (.t 6)⟩,
  ⟨(some 26), none, .call nSlicesSiftDownOrderedInt [(.t 22), (.t 23), (.t 24), (.t 25)]⟩]
def rSlicesHeapSortOrderedIntX6 : List O := [
  ⟨(some 20), none, .mv (.t 9)⟩,
  ⟨(some 21), none, .bin .sub (.t 20) (.k (.int .i64 1))⟩,
  ⟨(some 9), none, .mv (.t 21)⟩]
def lSlicesHeapSortOrderedIntX0 : C := (.seq (.seq (.reg rSlicesHeapSortOrderedIntX4 false [] [0, 6, 7, 8, 9, 19]) (.cond (.t 19) .skip (.exit 0))) (.seq (.blk 1 (.reg rSlicesHeapSortOrderedIntX5 false [] [0, 6, 7, 8, 9])) (.reg rSlicesHeapSortOrderedIntX6 false [] [0, 6, 7, 8, 9])))
def rSlicesHeapSortOrderedIntX7 : List O := [
  ⟨(some 27), none, .mv (.t 8)⟩,
  ⟨(some 28), none, .bin .sub (.t 27) (.k (.int .i64 1))⟩,
  ⟨(some 10), none, .mv (.t 28)⟩]
def rSlicesHeapSortOrderedIntX8 : List O := [
  ⟨(some 29), none, .mv (.t 10)⟩,
  ⟨(some 30), none, .bin .geq (.t 29) (.k (.int .i64 0))⟩]
def rSlicesHeapSortOrderedIntX9 : List O := [
  ⟨(some 33), none, .mv (.t 0)⟩,
  ⟨(some 34), none, .mv (.t 6)⟩,
  ⟨(some 35), none, .mv (.t 0)⟩,
  ⟨(some 36), none, .mv (.t 6)⟩,
  ⟨(some 37), none, .mv (.t 10)⟩,
  ⟨(some 38), none, .bin .add (.t 36) (.t 37)⟩,
  ⟨(some 39), none, .mv (.t 0)⟩,
  ⟨(some 40), none, .mv (.t 6)⟩,
  ⟨(some 41), none, .mv (.t 10)⟩,
  ⟨(some 42), none, .bin .add (.t 40) (.t 41)⟩,
  ⟨(some 43), none, .ixa 1 (.t 39) (.t 42)⟩,
  ⟨(some 44), none, .ld none (.t 43)⟩,
  ⟨(some 45), none, .mv (.t 0)⟩,
  ⟨(some 46), none, .mv (.t 6)⟩,
  ⟨(some 47), none, .ixa 1 (.t 45) (.t 46)⟩,
  ⟨(some 48), none, .ld none (.t 47)⟩,
  ⟨(some 49), none, .ixa 1 (.t 33) (.t 34)⟩,
  ⟨none, none, .st 1 (.t 49) (.t 44)⟩,
  ⟨(some 50), none, .ixa 1 (.t 35) (.t 38)⟩,
  ⟨none, none, .st 1 (.t 50) (.t 48)⟩]
def rSlicesHeapSortOrderedIntX10 : List O := [
  ⟨(some 51), none, .mv (.t 0)⟩,
  ⟨(some 52), none, .mv (.t 7)⟩,
  ⟨(some 53), none, .mv (.t 10)⟩,
  ⟨(some 54), none, .mv (.t 6)⟩,
  ⟨(some 55), none, .call nSlicesSiftDownOrderedInt [(.t 51), (.t 52), (.t 53), (.t 54)]⟩]
def rSlicesHeapSortOrderedIntX11 : List O := [
  ⟨(some 31), none, .mv (.t 10)⟩,
  ⟨(some 32), none, .bin .sub (.t 31) (.k (.int .i64 1))⟩,
  ⟨(some 10), none, .mv (.t 32)⟩]
def lSlicesHeapSortOrderedIntX1 : C := (.seq (.seq (.reg rSlicesHeapSortOrderedIntX8 false [] [0, 6, 7, 10, 30]) (.cond (.t 30) .skip (.exit 2))) (.seq (.blk 3 (.seq (.reg rSlicesHeapSortOrderedIntX9 true [(11, 15)] [0, 6, 7, 10]) (.reg rSlicesHeapSortOrderedIntX10 false [] [0, 6, 7, 10]))) (.reg rSlicesHeapSortOrderedIntX11 false [] [0, 6, 7, 10])))
def cSlicesHeapSortOrderedInt : C := (.seq (.reg rSlicesHeapSortOrderedIntX0 false [] [0, 1, 2, 6]) (.seq (.reg rSlicesHeapSortOrderedIntX1 false [] [0, 1, 2, 6, 7]) (.seq (.reg rSlicesHeapSortOrderedIntX2 false [] [0, 6, 7, 8]) (.seq (.seq (.reg rSlicesHeapSortOrderedIntX3 false [] [0, 6, 7, 8, 9]) (.blk 0 (.loop lSlicesHeapSortOrderedIntX0))) (.seq (.reg rSlicesHeapSortOrderedIntX7 false [] [0, 6, 7, 10]) (.blk 2 (.loop lSlicesHeapSortOrderedIntX1)))))))
def qSlicesHeapSortOrderedInt : AFn := ⟨56, 3, [], cSlicesHeapSortOrderedInt⟩
/- slices.breakPatternsOrdered[int] -/
def rSlicesBreakPatternsOrderedIntX0 : List O := [
  ⟨(some 11), none, .mv (.t 2)⟩,
  ⟨(some 12), none, .mv (.t 1)⟩,
  ⟨(some 13), none, .bin .sub (.t 11) (.t 12)⟩,
  ⟨(some 6), none, .mv (.t 13)⟩]
def rSlicesBreakPatternsOrderedIntX1 : List O := [
  ⟨(some 14), none, .mv (.t 6)⟩,
  ⟨(some 15), none, .bin .geq (.t 14) (.k (.int .i64 8))⟩]
def rSlicesBreakPatternsOrderedIntX2 : List O := [
  ⟨(some 16), none, .mv (.t 6)⟩,
  ⟨(some 17), none, .cvt .u64 (.t 16)⟩,
  ⟨(some 7), none, .new [(.int .u64 0)]⟩,
  ⟨none, none, .st 1 (.t 7) (.t 17)⟩]
def rSlicesBreakPatternsOrderedIntX3 : List O := [
  ⟨(some 18), none, .mv (.t 6)⟩,
  ⟨(some 19), none, .call nSlicesNextPowerOfTwo [(.t 18)]⟩,
  ⟨(some 8), none, .mv (.t 19)⟩]
def rSlicesBreakPatternsOrderedIntX4 : List O := [
  ⟨(some 20), none, .mv (.t 1)⟩,
  ⟨(some 21), none, .mv (.t 6)⟩,
  ⟨(some 22), none, .bin .quo (.t 21) (.k (.int .i64 4))⟩,
  ⟨(some 23), none, .bin .mul (.t 22) (.k (.int .i64 2))⟩,
  ⟨(some 24), none, .bin .add (.t 20) (.t 23)⟩,
  ⟨(some 25), none, .bin .sub (.t 24) (.k (.int .i64 1))⟩,
  ⟨(some 9), none, .mv (.t 25)⟩]
def rSlicesBreakPatternsOrderedIntX5 : List O := [
  ⟨(some 26), none, .mv (.t 9)⟩,
  ⟨(some 27), none, .mv (.t 1)⟩,
  ⟨(some 28), none, .mv (.t 6)⟩,
  ⟨(some 29), none, .bin .quo (.t 28) (.k (.int .i64 4))⟩,
  ⟨(some 30), none, .bin .mul (.t 29) (.k (.int .i64 2))⟩,
  ⟨(some 31), none, .bin .add (.t 27) (.t 30)⟩,
  ⟨(some 32), none, .bin .add (.t 31) (.k (.int .i64 1))⟩,
  ⟨(some 33), none, .bin .leq (.t 26) (.t 32)⟩]
def rSlicesBreakPatternsOrderedIntX6 : List O := [
  ⟨(some 36), none, .call nSlicesXorshiftNext [(.t 7)]⟩,
  ⟨(some 37), none, .mv (.t 8)⟩,
  ⟨(some 38), none, .bin .sub (.t 37) (.k (.int .u64 1))⟩,
  ⟨(some 39), none, .bin .and (.t 36) (.t 38)⟩,
  ⟨(some 40), none, .cvt .i64 (.t 39)⟩,
  ⟨(some 10), none, .mv (.t 40)⟩]
def rSlicesBreakPatternsOrderedIntX7 : List O := [
  ⟨(some 41), none, .mv (.t 10)⟩,
  ⟨(some 42), none, .mv (.t 6)⟩,
  ⟨(some 43), none, .bin .geq (.t 41) (.t 42)⟩]
def rSlicesBreakPatternsOrderedIntX8 : List O := [
  ⟨(some 44), none, .mv (.t 10)⟩,
  ⟨(some 45), none, .mv (.t 6)⟩,
  ⟨(some 46), none, .bin .sub (.t 44) (.t 45)⟩,
  ⟨(some 10), none, .mv (.t 46)⟩]
def rSlicesBreakPatternsOrderedIntX9 : List O := [
  ⟨(some 47), none, .mv (.t 0)⟩,
  ⟨(some 48), none, .mv (.t 9)⟩,
  ⟨(some 49), none, .mv (.t 0)⟩,
  ⟨(some 50), none, .mv (.t 1)⟩,
  ⟨(some 51), none, .mv (.t 10)⟩,
  ⟨(some 52), none, .bin .add (.t 50) (.t 51)⟩,
  ⟨(some 53), none, .mv (.t 0)⟩,
  ⟨(some 54), none, .mv (.t 1)⟩,
  ⟨(some 55), none, .mv (.t 10)⟩,
  ⟨(some 56), none, .bin .add (.t 54) (.t 55)⟩,
  ⟨(some 57), none, .ixa 1 (.t 53) (.t 56)⟩,
  ⟨(some 58), none, .ld none (.t 57)⟩,
  ⟨(some 59), none, .mv (.t 0)⟩,
  ⟨(some 60), none, .mv (.t 9)⟩,
  ⟨(some 61), none, .ixa 1 (.t 59) (.t 60)⟩,
  ⟨(some 62), none, .ld none (.t 61)⟩,
  ⟨(some 63), none, .ixa 1 (.t 47) (.t 48)⟩,
  ⟨none, none, .st 1 (.t 63) (.t 58)⟩,
  ⟨(some 64), none, .ixa 1 (.t 49) (.t 52)⟩,
  ⟨none, none, .st 1 (.t 64) (.t 62)⟩]
def rSlicesBreakPatternsOrderedIntX10 : List O := [
  ⟨(some 34), none, .mv (.t 9)⟩,
  ⟨(some 35), none, .bin .add (.t 34) (.k (.int .i64 1))⟩,
  ⟨(some 9), none, .mv (.t 35)⟩]
def lSlicesBreakPatternsOrderedIntX0 : C := (.seq (.seq (.reg rSlicesBreakPatternsOrderedIntX5 false [] [0, 1, 6, 7, 8, 9, 33]) (.cond (.t 33) .skip (.exit 0))) (.seq (.blk 1 (.seq (.reg rSlicesBreakPatternsOrderedIntX6 false [] [0, 1, 6, 7, 8, 9, 10]) (.seq (.seq (.reg rSlicesBreakPatternsOrderedIntX7 false [] [0, 1, 6, 7, 8, 9, 10, 43]) (.cond (.t 43) (.reg rSlicesBreakPatternsOrderedIntX8 false [] [0, 1, 6, 7, 8, 9, 10]) .skip)) (.reg rSlicesBreakPatternsOrderedIntX9 true [(11, 15)] [0, 1, 6, 7, 8, 9])))) (.reg rSlicesBreakPatternsOrderedIntX10 false [] [0, 1, 6, 7, 8, 9])))
def cSlicesBreakPatternsOrderedInt : C := (.seq (.reg rSlicesBreakPatternsOrderedIntX0 false [] [0, 1, 6]) (.seq (.reg rSlicesBreakPatternsOrderedIntX1 false [] [0, 1, 6, 15]) (.cond (.t 15) (.seq (.reg rSlicesBreakPatternsOrderedIntX2 false [] [0, 1, 6, 7]) (.seq (.reg rSlicesBreakPatternsOrderedIntX3 false [] [0, 1, 6, 7, 8]) (.seq (.reg rSlicesBreakPatternsOrderedIntX4 false [] [0, 1, 6, 7, 8, 9]) (.blk 0 (.loop lSlicesBreakPatternsOrderedIntX0))))) .skip)))
def qSlicesBreakPatternsOrderedInt : AFn := ⟨65, 3, [], cSlicesBreakPatternsOrderedInt⟩
/- slices.choosePivotOrdered[int] -/
def rSlicesChoosePivotOrderedIntX0 : List O := [
  ⟨(some 6), none, .mv (.k (.int .i64 0))⟩,
  ⟨(some 7), none, .mv (.k (.int .i64 0))⟩]
def rSlicesChoosePivotOrderedIntX1 : List O := [
  ⟨(some 13), none, .mv (.t 2)⟩,
  ⟨(some 14), none, .mv (.t 1)⟩,
  ⟨(some 15), none, .bin .sub (.t 13) (.t 14)⟩,
  ⟨(some 8), none, .mv (.t 15)⟩]
def rSlicesChoosePivotOrderedIntX2 : List O := [
  ⟨(some 9), none, .new [(.int .i64 0)]⟩]
def rSlicesChoosePivotOrderedIntX3 : List O := [
  ⟨(some 16), none, .mv (.t 1)⟩,
  ⟨(some 17), none, .mv (.t 8)⟩,
  ⟨(some 18), none, .bin .quo (.t 17) (.k (.int .i64 4))⟩,
  ⟨(some 19), none, .bin .mul (.t 18) (.k (.int .i64 1))⟩,
  ⟨(some 20), none, .bin .add (.t 16) (.t 19)⟩,
  ⟨(some 10), none, .mv (.t 20)⟩]
def rSlicesChoosePivotOrderedIntX4 : List O := [
  ⟨(some 21), none, .mv (.t 1)⟩,
  ⟨(some 22), none, .mv (.t 8)⟩,
  ⟨(some 23), none, .bin .quo (.t 22) (.k (.int .i64 4))⟩,
  ⟨(some 24), none, .bin .mul (.t 23) (.k (.int .i64 2))⟩,
  ⟨(some 25), none, .bin .add (.t 21) (.t 24)⟩,
  ⟨(some 11), none, .mv (.t 25)⟩]
def rSlicesChoosePivotOrderedIntX5 : List O := [
  ⟨(some 26), none, .mv (.t 1)⟩,
  ⟨(some 27), none, .mv (.t 8)⟩,
  ⟨(some 28), none, .bin .quo (.t 27) (.k (.int .i64 4))⟩,
  ⟨(some 29), none, .bin .mul (.t 28) (.k (.int .i64 3))⟩,
  ⟨(some 30), none, .bin .add (.t 26) (.t 29)⟩,
  ⟨(some 12), none, .mv (.t 30)⟩]
def rSlicesChoosePivotOrderedIntX6 : List O := [
  ⟨(some 31), none, .mv (.t 8)⟩,
  ⟨(some 32), none, .bin .geq (.t 31) (.k (.int .i64 8))⟩]
def rSlicesChoosePivotOrderedIntX7 : List O := [
  ⟨(some 33), none, .mv (.t 8)⟩,
  ⟨(some 34), none, .bin .geq (.t 33) (.k (.int .i64 50))⟩]
def rSlicesChoosePivotOrderedIntX8 : List O := [
  ⟨(some 35), none, .mv (.t 0)⟩,
  ⟨(some 36), none, .mv (.t 10)⟩,
  ⟨(some 37), none, .call nSlicesMedianAdjacentOrderedInt [(.t 35), (.t 36), (.t 9)]⟩,
  ⟨(some 10), none, .mv (.t 37)⟩]
def rSlicesChoosePivotOrderedIntX9 : List O := [
  ⟨(some 38), none, .mv (.t 0)⟩,
  ⟨(some 39), none, .mv (.t 11)⟩,
  ⟨(some 40), none, .call nSlicesMedianAdjacentOrderedInt [(.t 38), (.t 39), (.t 9)]⟩,
  ⟨(some 11), none, .mv (.t 40)⟩]
def rSlicesChoosePivotOrderedIntX10 : List O := [
  ⟨(some 41), none, .mv (.t 0)⟩,
  ⟨(some 42), none, .mv (.t 12)⟩,
  ⟨(some 43), none, .call nSlicesMedianAdjacentOrderedInt [(.t 41), (.t 42), (.t 9)]⟩,
  ⟨(some 12), none, .mv (.t 43)⟩]
def rSlicesChoosePivotOrderedIntX11 : List O := [
  ⟨(some 44), none, .mv (.t 0)⟩,
  ⟨(some 45), none, .mv (.t 10)⟩,
  ⟨(some 46), none, .mv (.t 11)⟩,
  ⟨(some 47), none, .mv (.t 12)⟩,
  ⟨(some 48), none, .call nSlicesMedianOrderedInt [(.t 44), (.t 45), (.t 46), (.t 47), (.t 9)]⟩,
  ⟨(some 11), none, .mv (.t 48)⟩]
def rSlicesChoosePivotOrderedIntX12 : List O := [
  ⟨(some 49), none, .ld none (.t 9)⟩]
def rSlicesChoosePivotOrderedIntX13 : List O := [
  ⟨(some 52), none, .bin .eql (.t 49) (.k (.int .i64 0))⟩,
  ⟨(some 51), none, .mv (.t 52)⟩]
def rSlicesChoosePivotOrderedIntX14 : List O := [
  ⟨(some 53), none, .mv (.t 11)⟩,
  ⟨(some 6), none, .mv (.t 53)⟩,
  ⟨(some 7), none, .mv (.k (.int .i64 1))⟩]
def rSlicesChoosePivotOrderedIntX15 : List O := [
  ⟨(some 55), none, .bin .eql (.t 49) (.k (.int .i64 12))⟩,
  ⟨(some 54), none, .mv (.t 55)⟩]
def rSlicesChoosePivotOrderedIntX16 : List O := [
  ⟨(some 56), none, .mv (.t 11)⟩,
  ⟨(some 6), none, .mv (.t 56)⟩,
  ⟨(some 7), none, .mv (.k (.int .i64 2))⟩]
def rSlicesChoosePivotOrderedIntX17 : List O := [
  ⟨(some 50), none, .mv (.t 11)⟩,
  ⟨(some 6), none, .mv (.t 50)⟩,
  ⟨(some 7), none, .mv (.k (.int .i64 0))⟩]
def cSlicesChoosePivotOrderedInt : C := (.seq (.reg rSlicesChoosePivotOrderedIntX0 false [] [0, 1, 2]) (.seq (.reg rSlicesChoosePivotOrderedIntX1 false [] [0, 1, 8]) (.seq (.reg rSlicesChoosePivotOrderedIntX2 false [] [0, 1, 8, 9]) (.seq (.reg rSlicesChoosePivotOrderedIntX3 false [] [0, 1, 8, 9, 10]) (.seq (.reg rSlicesChoosePivotOrderedIntX4 false [] [0, 1, 8, 9, 10, 11]) (.seq (.reg rSlicesChoosePivotOrderedIntX5 false [] [0, 8, 9, 10, 11, 12]) (.seq (.seq (.reg rSlicesChoosePivotOrderedIntX6 false [] [0, 8, 9, 10, 11, 12, 32]) (.cond (.t 32) (.seq (.seq (.reg rSlicesChoosePivotOrderedIntX7 false [] [0, 9, 10, 11, 12, 34]) (.cond (.t 34) (.seq (.reg rSlicesChoosePivotOrderedIntX8 false [] [0, 9, 10, 11, 12]) (.seq (.reg rSlicesChoosePivotOrderedIntX9 false [] [0, 9, 10, 11, 12]) (.reg rSlicesChoosePivotOrderedIntX10 false [] [0, 9, 10, 11, 12]))) .skip)) (.reg rSlicesChoosePivotOrderedIntX11 false [] [9, 11])) .skip)) (.seq (.reg rSlicesChoosePivotOrderedIntX12 false [] [11, 49]) (.blk 0 (.seq (.reg rSlicesChoosePivotOrderedIntX13 false [] [11, 49, 51]) (.cond (.t 51) (.seq (.reg rSlicesChoosePivotOrderedIntX14 false [] [6, 7]) .ret) (.seq (.reg rSlicesChoosePivotOrderedIntX15 false [] [11, 54]) (.cond (.t 54) (.seq (.reg rSlicesChoosePivotOrderedIntX16 false [] [6, 7]) .ret) (.seq (.reg rSlicesChoosePivotOrderedIntX17 false [] [6, 7]) .ret))))))))))))))
def qSlicesChoosePivotOrderedInt : AFn := ⟨57, 3, [.t 6, .t 7], cSlicesChoosePivotOrderedInt⟩
/- slices.reverseRangeOrdered[int] -/
def rSlicesReverseRangeOrderedIntX0 : List O := [
  ⟨(some 8), none, .mv (.t 1)⟩,
  ⟨(some 6), none, .mv (.t 8)⟩]
def rSlicesReverseRangeOrderedIntX1 : List O := [
  ⟨(some 9), none, .mv (.t 2)⟩,
  ⟨(some 10), none, .bin .sub (.t 9) (.k (.int .i64 1))⟩,
  ⟨(some 7), none, .mv (.t 10)⟩]
def rSlicesReverseRangeOrderedIntX2 : List O := [
  ⟨(some 11), none, .mv (.t 6)⟩,
  ⟨(some 12), none, .mv (.t 7)⟩,
  ⟨(some 13), none, .bin .lss (.t 11) (.t 12)⟩]
def rSlicesReverseRangeOrderedIntX3 : List O := [
  ⟨(some 14), none, .mv (.t 0)⟩,
  ⟨(some 15), none, .mv (.t 6)⟩,
  ⟨(some 16), none, .mv (.t 0)⟩,
  ⟨(some 17), none, .mv (.t 7)⟩,
  ⟨(some 18), none, .mv (.t 0)⟩,
  ⟨(some 19), none, .mv (.t 7)⟩,
  ⟨(some 20), none, .ixa 1 (.t 18) (.t 19)⟩,
  ⟨(some 21), none, .ld none (.t 20)⟩,
  ⟨(some 22), none, .mv (.t 0)⟩,
  ⟨(some 23), none, .mv (.t 6)⟩,
  ⟨(some 24), none, .ixa 1 (.t 22) (.t 23)⟩,
  ⟨(some 25), none, .ld none (.t 24)⟩,
  ⟨(some 26), none, .ixa 1 (.t 14) (.t 15)⟩,
  ⟨none, none, .st 1 (.t 26) (.t 21)⟩,
  ⟨(some 27), none, .ixa 1 (.t 16) (.t 17)⟩,
  ⟨none, none, .st 1 (.t 27) (.t 25)⟩]
def rSlicesReverseRangeOrderedIntX4 : List O := [
  ⟨(some 28), none, .mv (.t 6)⟩,
  ⟨(some 29), none, .bin .add (.t 28) (.k (.int .i64 1))⟩,
  ⟨(some 6), none, .mv (.t 29)⟩]
def rSlicesReverseRangeOrderedIntX5 : List O := [
  ⟨(some 30), none, .mv (.t 7)⟩,
  ⟨(some 31), none, .bin .sub (.t 30) (.k (.int .i64 1))⟩,
  ⟨(some 7), none, .mv (.t 31)⟩]
def lSlicesReverseRangeOrderedIntX0 : C := (.seq (.seq (.reg rSlicesReverseRangeOrderedIntX2 false [] [0, 6, 7, 13]) (.cond (.t 13) .skip (.exit 0))) (.blk 1 (.seq (.reg rSlicesReverseRangeOrderedIntX3 true [(7, 11)] [0, 6, 7]) (.seq (.reg rSlicesReverseRangeOrderedIntX4 false [] [0, 6, 7]) (.reg rSlicesReverseRangeOrderedIntX5 false [] [0, 6, 7])))))
def cSlicesReverseRangeOrderedInt : C := (.seq (.reg rSlicesReverseRangeOrderedIntX0 false [] [0, 2, 6]) (.seq (.reg rSlicesReverseRangeOrderedIntX1 false [] [0, 6, 7]) (.blk 0 (.loop lSlicesReverseRangeOrderedIntX0))))
def qSlicesReverseRangeOrderedInt : AFn := ⟨32, 3, [], cSlicesReverseRangeOrderedInt⟩
/- slices.partialInsertionSortOrdered[int] -/
def rSlicesPartialInsertionSortOrderedIntX0 : List O := [
  ⟨(some 6), none, .mv (.k (.bool false))⟩]
def rSlicesPartialInsertionSortOrderedIntX1 : List O := [
  ⟨(some 11), none, .mv (.t 1)⟩,
  ⟨(some 12), none, .bin .add (.t 11) (.k (.int .i64 1))⟩,
  ⟨(some 7), none, .mv (.t 12)⟩]
def rSlicesPartialInsertionSortOrderedIntX2 : List O := [
  ⟨(some 8), none, .mv (.k (.int .i64 0))⟩]
def rSlicesPartialInsertionSortOrderedIntX3 : List O := [
  ⟨(some 13), none, .mv (.t 8)⟩,
  ⟨(some 14), none, .bin .lss (.t 13) (.k (.int .i64 5))⟩]
def rSlicesPartialInsertionSortOrderedIntX4 : List O := [
  ⟨(some 17), none, .mv (.t 7)⟩,
  ⟨(some 18), none, .mv (.t 2)⟩,
  ⟨(some 19), none, .bin .lss (.t 17) (.t 18)⟩,
  ⟨(some 20), none, .mv (.t 19)⟩,
  ⟨(some 21), (some (20, true)), .mv (.t 0)⟩,
  ⟨(some 22), (some (20, true)), .mv (.t 7)⟩,
  ⟨(some 23), (some (20, true)), .ixa 1 (.t 21) (.t 22)⟩,
  ⟨(some 24), (some (20, true)), .ld none (.t 23)⟩,
  ⟨(some 25), (some (20, true)), .mv (.t 0)⟩,
  ⟨(some 26), (some (20, true)), .mv (.t 7)⟩,
  ⟨(some 27), (some (20, true)), .bin .sub (.t 26) (.k (.int .i64 1))⟩,
  ⟨(some 28), (some (20, true)), .ixa 1 (.t 25) (.t 27)⟩,
  ⟨(some 29), (some (20, true)), .ld none (.t 28)⟩,
  ⟨(some 30), (some (20, true)), .call nCmpLessInt [(.t 24), (.t 29)]⟩,
  ⟨(some 31), (some (20, true)), .un .not (.t 30)⟩,
  ⟨(some 32), none, .pick (.t 20) (.t 31) (.k (.bool false))⟩]
def rSlicesPartialInsertionSortOrderedIntX5 : List O := [
  ⟨(some 33), none, .mv (.t 7)⟩,
  ⟨(some 34), none, .bin .add (.t 33) (.k (.int .i64 1))⟩,
  ⟨(some 7), none, .mv (.t 34)⟩]
def lSlicesPartialInsertionSortOrderedIntX0 : C := (.seq (.seq (.reg rSlicesPartialInsertionSortOrderedIntX4 true [(7, 12)] [0, 1, 2, 7, 8, 32]) (.cond (.t 32) .skip (.exit 2))) (.blk 3 (.reg rSlicesPartialInsertionSortOrderedIntX5 false [] [0, 1, 2, 7, 8])))
def rSlicesPartialInsertionSortOrderedIntX6 : List O := [
  ⟨(some 35), none, .mv (.t 7)⟩,
  ⟨(some 36), none, .mv (.t 2)⟩,
  ⟨(some 37), none, .bin .eql (.t 35) (.t 36)⟩]
def rSlicesPartialInsertionSortOrderedIntX7 : List O := [
  ⟨(some 6), none, .mv (.k (.bool true))⟩]
def rSlicesPartialInsertionSortOrderedIntX8 : List O := [
  ⟨(some 38), none, .mv (.t 2)⟩,
  ⟨(some 39), none, .mv (.t 1)⟩,
  ⟨(some 40), none, .bin .sub (.t 38) (.t 39)⟩,
  ⟨(some 41), none, .bin .lss (.t 40) (.k (.int .i64 50))⟩]
def rSlicesPartialInsertionSortOrderedIntX9 : List O := [
  ⟨(some 6), none, .mv (.k (.bool false))⟩]
def rSlicesPartialInsertionSortOrderedIntX10 : List O := [
  ⟨(some 42), none, .mv (.t 0)⟩,
  ⟨(some 43), none, .mv (.t 7)⟩,
  ⟨(some 44), none, .mv (.t 0)⟩,
  ⟨(some 45), none, .mv (.t 7)⟩,
  ⟨(some 46), none, .bin .sub (.t 45) (.k (.int .i64 1))⟩,
  ⟨(some 47), none, .mv (.t 0)⟩,
  ⟨(some 48), none, .mv (.t 7)⟩,
  ⟨(some 49), none, .bin .sub (.t 48) (.k (.int .i64 1))⟩,
  ⟨(some 50), none, .ixa 1 (.t 47) (.t 49)⟩,
  ⟨(some 51), none, .ld none (.t 50)⟩,
  ⟨(some 52), none, .mv (.t 0)⟩,
  ⟨(some 53), none, .mv (.t 7)⟩,
  ⟨(some 54), none, .ixa 1 (.t 52) (.t 53)⟩,
  ⟨(some 55), none, .ld none (.t 54)⟩,
  ⟨(some 56), none, .ixa 1 (.t 42) (.t 43)⟩,
  ⟨none, none, .st 1 (.t 56) (.t 51)⟩,
  ⟨(some 57), none, .ixa 1 (.t 44) (.t 46)⟩,
  ⟨none, none, .st 1 (.t 57) (.t 55)⟩]
def rSlicesPartialInsertionSortOrderedIntX11 : List O := [
  ⟨(some 58), none, .mv (.t 7)⟩,
  ⟨(some 59), none, .mv (.t 1)⟩,
  ⟨(some 60), none, .bin .sub (.t 58) (.t 59)⟩,
  ⟨(some 61), none, .bin .geq (.t 60) (.k (.int .i64 2))⟩]
def rSlicesPartialInsertionSortOrderedIntX12 : List O := [
  ⟨(some 62), none, .mv (.t 7)⟩,
  ⟨(some 63), none, .bin .sub (.t 62) (.k (.int .i64 1))⟩,
  ⟨(some 9), none, .mv (.t 63)⟩]
def rSlicesPartialInsertionSortOrderedIntX13 : List O := [
  ⟨(some 64), none, .mv (.t 9)⟩,
  ⟨(some 65), none, .bin .geq (.t 64) (.k (.int .i64 1))⟩]
def rSlicesPartialInsertionSortOrderedIntX14 : List O := [
  ⟨(some 68), none, .mv (.t 0)⟩,
  ⟨(some 69), none, .mv (.t 9)⟩,
  ⟨(some 70), none, .ixa 1 (.t 68) (.t 69)⟩,
  ⟨(some 71), none, .ld none (.t 70)⟩,
  ⟨(some 72), none, .mv (.t 0)⟩,
  ⟨(some 73), none, .mv (.t 9)⟩,
  ⟨(some 74), none, .bin .sub (.t 73) (.k (.int .i64 1))⟩,
  ⟨(some 75), none, .ixa 1 (.t 72) (.t 74)⟩,
  ⟨(some 76), none, .ld none (.t 75)⟩,
  ⟨(some 77), none, .call nCmpLessInt [(.t 71), (.t 76)]⟩,
  ⟨(some 78), none, .un .not (.t 77)⟩]
def rSlicesPartialInsertionSortOrderedIntX15 : List O := [
  ⟨(some 79), none, .mv (.t 0)⟩,
  ⟨(some 80), none, .mv (.t 9)⟩,
  ⟨(some 81), none, .mv (.t 0)⟩,
  ⟨(some 82), none, .mv (.t 9)⟩,
  ⟨(some 83), none, .bin .sub (.t 82) (.k (.int .i64 1))⟩,
  ⟨(some 84), none, .mv (.t 0)⟩,
  ⟨(some 85), none, .mv (.t 9)⟩,
  ⟨(some 86), none, .bin .sub (.t 85) (.k (.int .i64 1))⟩,
  ⟨(some 87), none, .ixa 1 (.t 84) (.t 86)⟩,
  ⟨(some 88), none, .ld none (.t 87)⟩,
  ⟨(some 89), none, .mv (.t 0)⟩,
  ⟨(some 90), none, .mv (.t 9)⟩,
  ⟨(some 91), none, .ixa 1 (.t 89) (.t 90)⟩,
  ⟨(some 92), none, .ld none (.t 91)⟩,
  ⟨(some 93), none, .ixa 1 (.t 79) (.t 80)⟩,
  ⟨none, none, .st 1 (.t 93) (.t 88)⟩,
  ⟨(some 94), none, .ixa 1 (.t 81) (.t 83)⟩,
  ⟨none, none, .st 1 (.t 94) (.t 92)⟩]
def rSlicesPartialInsertionSortOrderedIntX16 : List O := [
  ⟨(some 66), none, .mv (.t 9)⟩,
  ⟨(some 67), none, .bin .sub (.t 66) (.k (.int .i64 1))⟩,
  ⟨(some 9), none, .mv (.t 67)⟩]
def lSlicesPartialInsertionSortOrderedIntX1 : C := (.seq (.seq (.reg rSlicesPartialInsertionSortOrderedIntX13 false [] [0, 1, 2, 7, 8, 9, 65]) (.cond (.t 65) .skip (.exit 4))) (.seq (.blk 5 (.seq (.seq (.reg rSlicesPartialInsertionSortOrderedIntX14 true [(3, 8)] [0, 1, 2, 7, 8, 9, 78]) (.cond (.t 78) (.exit 4) .skip)) (.reg rSlicesPartialInsertionSortOrderedIntX15 true [(9, 13)] [0, 1, 2, 7, 8, 9]))) (.reg rSlicesPartialInsertionSortOrderedIntX16 false [] [0, 1, 2, 7, 8, 9])))
def rSlicesPartialInsertionSortOrderedIntX17 : List O := [
  ⟨(some 95), none, .mv (.t 2)⟩,
  ⟨(some 96), none, .mv (.t 7)⟩,
  ⟨(some 97), none, .bin .sub (.t 95) (.t 96)⟩,
  ⟨(some 98), none, .bin .geq (.t 97) (.k (.int .i64 2))⟩]
def rSlicesPartialInsertionSortOrderedIntX18 : List O := [
  ⟨(some 99), none, .mv (.t 7)⟩,
  ⟨(some 100), none, .bin .add (.t 99) (.k (.int .i64 1))⟩,
  ⟨(some 10), none, .mv (.t 100)⟩]
def rSlicesPartialInsertionSortOrderedIntX19 : List O := [
  ⟨(some 101), none, .mv (.t 10)⟩,
  ⟨(some 102), none, .mv (.t 2)⟩,
  ⟨(some 103), none, .bin .lss (.t 101) (.t 102)⟩]
def rSlicesPartialInsertionSortOrderedIntX20 : List O := [
  ⟨(some 106), none, .mv (.t 0)⟩,
  ⟨(some 107), none, .mv (.t 10)⟩,
  ⟨(some 108), none, .ixa 1 (.t 106) (.t 107)⟩,
  ⟨(some 109), none, .ld none (.t 108)⟩,
  ⟨(some 110), none, .mv (.t 0)⟩,
  ⟨(some 111), none, .mv (.t 10)⟩,
  ⟨(some 112), none, .bin .sub (.t 111) (.k (.int .i64 1))⟩,
  ⟨(some 113), none, .ixa 1 (.t 110) (.t 112)⟩,
  ⟨(some 114), none, .ld none (.t 113)⟩,
  ⟨(some 115), none, .call nCmpLessInt [(.t 109), (.t 114)]⟩,
  ⟨(some 116), none, .un .not (.t 115)⟩]
def rSlicesPartialInsertionSortOrderedIntX21 : List O := [
  ⟨(some 117), none, .mv (.t 0)⟩,
  ⟨(some 118), none, .mv (.t 10)⟩,
  ⟨(some 119), none, .mv (.t 0)⟩,
  ⟨(some 120), none, .mv (.t 10)⟩,
  ⟨(some 121), none, .bin .sub (.t 120) (.k (.int .i64 1))⟩,
  ⟨(some 122), none, .mv (.t 0)⟩,
  ⟨(some 123), none, .mv (.t 10)⟩,
  ⟨(some 124), none, .bin .sub (.t 123) (.k (.int .i64 1))⟩,
  ⟨(some 125), none, .ixa 1 (.t 122) (.t 124)⟩,
  ⟨(some 126), none, .ld none (.t 125)⟩,
  ⟨(some 127), none, .mv (.t 0)⟩,
  ⟨(some 128), none, .mv (.t 10)⟩,
  ⟨(some 129), none, .ixa 1 (.t 127) (.t 128)⟩,
  ⟨(some 130), none, .ld none (.t 129)⟩,
  ⟨(some 131), none, .ixa 1 (.t 117) (.t 118)⟩,
  ⟨none, none, .st 1 (.t 131) (.t 126)⟩,
  ⟨(some 132), none, .ixa 1 (.t 119) (.t 121)⟩,
  ⟨none, none, .st 1 (.t 132) (.t 130)⟩]
def rSlicesPartialInsertionSortOrderedIntX22 : List O := [
  ⟨(some 104), none, .mv (.t 10)⟩,
  ⟨(some 105), none, .bin .add (.t 104) (.k (.int .i64 1))⟩,
  ⟨(some 10), none, .mv (.t 105)⟩]
def lSlicesPartialInsertionSortOrderedIntX2 : C := (.seq (.seq (.reg rSlicesPartialInsertionSortOrderedIntX19 false [] [0, 1, 2, 7, 8, 10, 103]) (.cond (.t 103) .skip (.exit 6))) (.seq (.blk 7 (.seq (.seq (.reg rSlicesPartialInsertionSortOrderedIntX20 true [(3, 8)] [0, 1, 2, 7, 8, 10, 116]) (.cond (.t 116) (.exit 6) .skip)) (.reg rSlicesPartialInsertionSortOrderedIntX21 true [(9, 13)] [0, 1, 2, 7, 8, 10]))) (.reg rSlicesPartialInsertionSortOrderedIntX22 false [] [0, 1, 2, 7, 8, 10])))
def rSlicesPartialInsertionSortOrderedIntX23 : List O := [
  ⟨(some 15), none, .mv (.t 8)⟩,
  ⟨(some 16), none, .bin .add (.t 15) (.k (.int .i64 1))⟩,
  ⟨(some 8), none, .mv (.t 16)⟩]
def lSlicesPartialInsertionSortOrderedIntX3 : C := (.seq (.seq (.reg rSlicesPartialInsertionSortOrderedIntX3 false [] [0, 1, 2, 7, 8, 14]) (.cond (.t 14) .skip (.exit 0))) (.seq (.blk 1 (.seq (.blk 2 (.loop lSlicesPartialInsertionSortOrderedIntX0)) (.seq (.seq (.reg rSlicesPartialInsertionSortOrderedIntX6 false [] [0, 1, 2, 7, 8, 37]) (.cond (.t 37) (.seq (.reg rSlicesPartialInsertionSortOrderedIntX7 false [] [6]) .ret) .skip)) (.seq (.seq (.reg rSlicesPartialInsertionSortOrderedIntX8 false [] [0, 1, 2, 7, 8, 41]) (.cond (.t 41) (.seq (.reg rSlicesPartialInsertionSortOrderedIntX9 false [] [6]) .ret) .skip)) (.seq (.reg rSlicesPartialInsertionSortOrderedIntX10 true [(9, 13)] [0, 1, 2, 7, 8]) (.seq (.seq (.reg rSlicesPartialInsertionSortOrderedIntX11 false [] [0, 1, 2, 7, 8, 61]) (.cond (.t 61) (.seq (.reg rSlicesPartialInsertionSortOrderedIntX12 false [] [0, 1, 2, 7, 8, 9]) (.blk 4 (.loop lSlicesPartialInsertionSortOrderedIntX1))) .skip)) (.seq (.reg rSlicesPartialInsertionSortOrderedIntX17 false [] [0, 1, 2, 7, 8, 98]) (.cond (.t 98) (.seq (.reg rSlicesPartialInsertionSortOrderedIntX18 false [] [0, 1, 2, 7, 8, 10]) (.blk 6 (.loop lSlicesPartialInsertionSortOrderedIntX2))) .skip)))))))) (.reg rSlicesPartialInsertionSortOrderedIntX23 false [] [0, 1, 2, 7, 8])))
def rSlicesPartialInsertionSortOrderedIntX24 : List O := [
  ⟨(some 6), none, .mv (.k (.bool false))⟩]
def cSlicesPartialInsertionSortOrderedInt : C := (.seq (.reg rSlicesPartialInsertionSortOrderedIntX0 false [] [0, 1, 2]) (.seq (.reg rSlicesPartialInsertionSortOrderedIntX1 false [] [0, 1, 2, 7]) (.seq (.seq (.reg rSlicesPartialInsertionSortOrderedIntX2 false [] [0, 1, 2, 7, 8]) (.blk 0 (.loop lSlicesPartialInsertionSortOrderedIntX3))) (.seq (.reg rSlicesPartialInsertionSortOrderedIntX24 false [] [6]) .ret))))
def qSlicesPartialInsertionSortOrderedInt : AFn := ⟨133, 3, [.t 6], cSlicesPartialInsertionSortOrderedInt⟩
/- cmp.Less[int] -/
def rCmpLessIntX0 : List O := [
  ⟨(some 4), none, .mv (.k (.bool false))⟩]
def rCmpLessIntX1 : List O := [
  ⟨(some 5), none, .mv (.t 0)⟩,
  ⟨(some 6), none, .call nCmpIsNaNInt [(.t 5)]⟩,
  ⟨(some 7), none, .mv (.t 6)⟩,
  ⟨(some 8), (some (7, true)), .mv (.t 1)⟩,
  ⟨(some 9), (some (7, true)), .call nCmpIsNaNInt [(.t 8)]⟩,
  ⟨(some 10), (some (7, true)), .un .not (.t 9)⟩,
  ⟨(some 11), none, .pick (.t 7) (.t 10) (.k (.bool false))⟩,
  ⟨(some 12), none, .mv (.t 11)⟩,
  ⟨(some 13), (some (12, false)), .mv (.t 0)⟩,
  ⟨(some 14), (some (12, false)), .mv (.t 1)⟩,
  ⟨(some 15), (some (12, false)), .bin .lss (.t 13) (.t 14)⟩,
  ⟨(some 16), none, .pick (.t 12) (.k (.bool true)) (.t 15)⟩,
  ⟨(some 4), none, .mv (.t 16)⟩]
def cCmpLessInt : C := (.seq (.reg rCmpLessIntX0 false [] [0, 1]) (.seq (.reg rCmpLessIntX1 false [] [4]) .ret))
def qCmpLessInt : AFn := ⟨17, 2, [.t 4], cCmpLessInt⟩
/- slices.partitionEqualOrdered[int] -/
def rSlicesPartitionEqualOrderedIntX0 : List O := [
  ⟨(some 8), none, .mv (.k (.int .i64 0))⟩]
def rSlicesPartitionEqualOrderedIntX1 : List O := [
  ⟨(some 11), none, .mv (.t 0)⟩,
  ⟨(some 12), none, .mv (.t 1)⟩,
  ⟨(some 13), none, .mv (.t 0)⟩,
  ⟨(some 14), none, .mv (.t 3)⟩,
  ⟨(some 15), none, .mv (.t 0)⟩,
  ⟨(some 16), none, .mv (.t 3)⟩,
  ⟨(some 17), none, .ixa 1 (.t 15) (.t 16)⟩,
  ⟨(some 18), none, .ld none (.t 17)⟩,
  ⟨(some 19), none, .mv (.t 0)⟩,
  ⟨(some 20), none, .mv (.t 1)⟩,
  ⟨(some 21), none, .ixa 1 (.t 19) (.t 20)⟩,
  ⟨(some 22), none, .ld none (.t 21)⟩,
  ⟨(some 23), none, .ixa 1 (.t 11) (.t 12)⟩,
  ⟨none, none, .st 1 (.t 23) (.t 18)⟩,
  ⟨(some 24), none, .ixa 1 (.t 13) (.t 14)⟩,
  ⟨none, none, .st 1 (.t 24) (.t 22)⟩]
def rSlicesPartitionEqualOrderedIntX2 : List O := [
  ⟨(some 25), none, .mv (.t 1)⟩,
  ⟨(some 26), none, .bin .add (.t 25) (.k (.int .i64 1))⟩,
  ⟨(some 27), none, .mv (.t 2)⟩,
  ⟨(some 28), none, .bin .sub (.t 27) (.k (.int .i64 1))⟩,
  ⟨(some 9), none, .mv (.t 26)⟩,
  ⟨(some 10), none, .mv (.t 28)⟩]
def rSlicesPartitionEqualOrderedIntX3 : List O := [
  ⟨(some 29), none, .mv (.t 9)⟩,
  ⟨(some 30), none, .mv (.t 10)⟩,
  ⟨(some 31), none, .bin .leq (.t 29) (.t 30)⟩,
  ⟨(some 32), none, .mv (.t 31)⟩,
  ⟨(some 33), (some (32, true)), .mv (.t 0)⟩,
  ⟨(some 34), (some (32, true)), .mv (.t 1)⟩,
  ⟨(some 35), (some (32, true)), .ixa 1 (.t 33) (.t 34)⟩,
  ⟨(some 36), (some (32, true)), .ld none (.t 35)⟩,
  ⟨(some 37), (some (32, true)), .mv (.t 0)⟩,
  ⟨(some 38), (some (32, true)), .mv (.t 9)⟩,
  ⟨(some 39), (some (32, true)), .ixa 1 (.t 37) (.t 38)⟩,
  ⟨(some 40), (some (32, true)), .ld none (.t 39)⟩,
  ⟨(some 41), (some (32, true)), .call nCmpLessInt [(.t 36), (.t 40)]⟩,
  ⟨(some 42), (some (32, true)), .un .not (.t 41)⟩,
  ⟨(some 43), none, .pick (.t 32) (.t 42) (.k (.bool false))⟩]
def rSlicesPartitionEqualOrderedIntX4 : List O := [
  ⟨(some 44), none, .mv (.t 9)⟩,
  ⟨(some 45), none, .bin .add (.t 44) (.k (.int .i64 1))⟩,
  ⟨(some 9), none, .mv (.t 45)⟩]
def lSlicesPartitionEqualOrderedIntX0 : C := (.seq (.seq (.reg rSlicesPartitionEqualOrderedIntX3 true [(7, 11)] [0, 1, 9, 10, 43]) (.cond (.t 43) .skip (.exit 2))) (.blk 3 (.reg rSlicesPartitionEqualOrderedIntX4 false [] [0, 1, 9, 10])))
def rSlicesPartitionEqualOrderedIntX5 : List O := [
  ⟨(some 46), none, .mv (.t 9)⟩,
  ⟨(some 47), none, .mv (.t 10)⟩,
  ⟨(some 48), none, .bin .leq (.t 46) (.t 47)⟩,
  ⟨(some 49), none, .mv (.t 48)⟩,
  ⟨(some 50), (some (49, true)), .mv (.t 0)⟩,
  ⟨(some 51), (some (49, true)), .mv (.t 1)⟩,
  ⟨(some 52), (some (49, true)), .ixa 1 (.t 50) (.t 51)⟩,
  ⟨(some 53), (some (49, true)), .ld none (.t 52)⟩,
  ⟨(some 54), (some (49, true)), .mv (.t 0)⟩,
  ⟨(some 55), (some (49, true)), .mv (.t 10)⟩,
  ⟨(some 56), (some (49, true)), .ixa 1 (.t 54) (.t 55)⟩,
  ⟨(some 57), (some (49, true)), .ld none (.t 56)⟩,
  ⟨(some 58), (some (49, true)), .call nCmpLessInt [(.t 53), (.t 57)]⟩,
  ⟨(some 59), none, .pick (.t 49) (.t 58) (.k (.bool false))⟩]
def rSlicesPartitionEqualOrderedIntX6 : List O := [
  ⟨(some 60), none, .mv (.t 10)⟩,
  ⟨(some 61), none, .bin .sub (.t 60) (.k (.int .i64 1))⟩,
  ⟨(some 10), none, .mv (.t 61)⟩]
def lSlicesPartitionEqualOrderedIntX1 : C := (.seq (.seq (.reg rSlicesPartitionEqualOrderedIntX5 true [(7, 11)] [0, 1, 9, 10, 59]) (.cond (.t 59) .skip (.exit 4))) (.blk 5 (.reg rSlicesPartitionEqualOrderedIntX6 false [] [0, 1, 9, 10])))
def rSlicesPartitionEqualOrderedIntX7 : List O := [
  ⟨(some 62), none, .mv (.t 9)⟩,
  ⟨(some 63), none, .mv (.t 10)⟩,
  ⟨(some 64), none, .bin .gtr (.t 62) (.t 63)⟩]
def rSlicesPartitionEqualOrderedIntX8 : List O := [
  ⟨(some 65), none, .mv (.t 0)⟩,
  ⟨(some 66), none, .mv (.t 9)⟩,
  ⟨(some 67), none, .mv (.t 0)⟩,
  ⟨(some 68), none, .mv (.t 10)⟩,
  ⟨(some 69), none, .mv (.t 0)⟩,
  ⟨(some 70), none, .mv (.t 10)⟩,
  ⟨(some 71), none, .ixa 1 (.t 69) (.t 70)⟩,
  ⟨(some 72), none, .ld none (.t 71)⟩,
  ⟨(some 73), none, .mv (.t 0)⟩,
  ⟨(some 74), none, .mv (.t 9)⟩,
  ⟨(some 75), none, .ixa 1 (.t 73) (.t 74)⟩,
  ⟨(some 76), none, .ld none (.t 75)⟩,
  ⟨(some 77), none, .ixa 1 (.t 65) (.t 66)⟩,
  ⟨none, none, .st 1 (.t 77) (.t 72)⟩,
  ⟨(some 78), none, .ixa 1 (.t 67) (.t 68)⟩,
  ⟨none, none, .st 1 (.t 78) (.t 76)⟩]
def rSlicesPartitionEqualOrderedIntX9 : List O := [
  ⟨(some 79), none, .mv (.t 9)⟩,
  ⟨(some 80), none, .bin .add (.t 79) (.k (.int .i64 1))⟩,
  ⟨(some 9), none, .mv (.t 80)⟩]
def rSlicesPartitionEqualOrderedIntX10 : List O := [
  ⟨(some 81), none, .mv (.t 10)⟩,
  ⟨(some 82), none, .bin .sub (.t 81) (.k (.int .i64 1))⟩,
  ⟨(some 10), none, .mv (.t 82)⟩]
def lSlicesPartitionEqualOrderedIntX2 : C := (.blk 1 (.seq (.blk 2 (.loop lSlicesPartitionEqualOrderedIntX0)) (.seq (.blk 4 (.loop lSlicesPartitionEqualOrderedIntX1)) (.seq (.seq (.reg rSlicesPartitionEqualOrderedIntX7 false [] [0, 1, 9, 10, 64]) (.cond (.t 64) (.exit 0) .skip)) (.seq (.reg rSlicesPartitionEqualOrderedIntX8 true [(7, 11)] [0, 1, 9, 10]) (.seq (.reg rSlicesPartitionEqualOrderedIntX9 false [] [0, 1, 9, 10]) (.reg rSlicesPartitionEqualOrderedIntX10 false [] [0, 1, 9, 10])))))))
def rSlicesPartitionEqualOrderedIntX11 : List O := [
  ⟨(some 83), none, .mv (.t 9)⟩,
  ⟨(some 8), none, .mv (.t 83)⟩]
def cSlicesPartitionEqualOrderedInt : C := (.seq (.reg rSlicesPartitionEqualOrderedIntX0 false [] [0, 1, 2, 3]) (.seq (.reg rSlicesPartitionEqualOrderedIntX1 true [(7, 11)] [0, 1, 2]) (.seq (.reg rSlicesPartitionEqualOrderedIntX2 false [] [0, 1, 9, 10]) (.seq (.blk 0 (.loop lSlicesPartitionEqualOrderedIntX2)) (.seq (.reg rSlicesPartitionEqualOrderedIntX11 false [] [8]) .ret)))))
def qSlicesPartitionEqualOrderedInt : AFn := ⟨84, 4, [.t 8], cSlicesPartitionEqualOrderedInt⟩
/- slices.partitionOrdered[int] -/
def rSlicesPartitionOrderedIntX0 : List O := [
  ⟨(some 8), none, .mv (.k (.int .i64 0))⟩,
  ⟨(some 9), none, .mv (.k (.bool false))⟩]
def rSlicesPartitionOrderedIntX1 : List O := [
  ⟨(some 12), none, .mv (.t 0)⟩,
  ⟨(some 13), none, .mv (.t 1)⟩,
  ⟨(some 14), none, .mv (.t 0)⟩,
  ⟨(some 15), none, .mv (.t 3)⟩,
  ⟨(some 16), none, .mv (.t 0)⟩,
  ⟨(some 17), none, .mv (.t 3)⟩,
  ⟨(some 18), none, .ixa 1 (.t 16) (.t 17)⟩,
  ⟨(some 19), none, .ld none (.t 18)⟩,
  ⟨(some 20), none, .mv (.t 0)⟩,
  ⟨(some 21), none, .mv (.t 1)⟩,
  ⟨(some 22), none, .ixa 1 (.t 20) (.t 21)⟩,
  ⟨(some 23), none, .ld none (.t 22)⟩,
  ⟨(some 24), none, .ixa 1 (.t 12) (.t 13)⟩,
  ⟨none, none, .st 1 (.t 24) (.t 19)⟩,
  ⟨(some 25), none, .ixa 1 (.t 14) (.t 15)⟩,
  ⟨none, none, .st 1 (.t 25) (.t 23)⟩]
def rSlicesPartitionOrderedIntX2 : List O := [
  ⟨(some 26), none, .mv (.t 1)⟩,
  ⟨(some 27), none, .bin .add (.t 26) (.k (.int .i64 1))⟩,
  ⟨(some 28), none, .mv (.t 2)⟩,
  ⟨(some 29), none, .bin .sub (.t 28) (.k (.int .i64 1))⟩,
  ⟨(some 10), none, .mv (.t 27)⟩,
  ⟨(some 11), none, .mv (.t 29)⟩]
def rSlicesPartitionOrderedIntX3 : List O := [
  ⟨(some 30), none, .mv (.t 10)⟩,
  ⟨(some 31), none, .mv (.t 11)⟩,
  ⟨(some 32), none, .bin .leq (.t 30) (.t 31)⟩,
  ⟨(some 33), none, .mv (.t 32)⟩,
  ⟨(some 34), (some (33, true)), .mv (.t 0)⟩,
  ⟨(some 35), (some (33, true)), .mv (.t 10)⟩,
  ⟨(some 36), (some (33, true)), .ixa 1 (.t 34) (.t 35)⟩,
  ⟨(some 37), (some (33, true)), .ld none (.t 36)⟩,
  ⟨(some 38), (some (33, true)), .mv (.t 0)⟩,
  ⟨(some 39), (some (33, true)), .mv (.t 1)⟩,
  ⟨(some 40), (some (33, true)), .ixa 1 (.t 38) (.t 39)⟩,
  ⟨(some 41), (some (33, true)), .ld none (.t 40)⟩,
  ⟨(some 42), (some (33, true)), .call nCmpLessInt [(.t 37), (.t 41)]⟩,
  ⟨(some 43), none, .pick (.t 33) (.t 42) (.k (.bool false))⟩]
def rSlicesPartitionOrderedIntX4 : List O := [
  ⟨(some 44), none, .mv (.t 10)⟩,
  ⟨(some 45), none, .bin .add (.t 44) (.k (.int .i64 1))⟩,
  ⟨(some 10), none, .mv (.t 45)⟩]
def lSlicesPartitionOrderedIntX0 : C := (.seq (.seq (.reg rSlicesPartitionOrderedIntX3 true [(7, 11)] [0, 1, 10, 11, 43]) (.cond (.t 43) .skip (.exit 0))) (.blk 1 (.reg rSlicesPartitionOrderedIntX4 false [] [0, 1, 10, 11])))
def rSlicesPartitionOrderedIntX5 : List O := [
  ⟨(some 46), none, .mv (.t 10)⟩,
  ⟨(some 47), none, .mv (.t 11)⟩,
  ⟨(some 48), none, .bin .leq (.t 46) (.t 47)⟩,
  ⟨(some 49), none, .mv (.t 48)⟩,
  ⟨(some 50), (some (49, true)), .mv (.t 0)⟩,
  ⟨(some 51), (some (49, true)), .mv (.t 11)⟩,
  ⟨(some 52), (some (49, true)), .ixa 1 (.t 50) (.t 51)⟩,
  ⟨(some 53), (some (49, true)), .ld none (.t 52)⟩,
  ⟨(some 54), (some (49, true)), .mv (.t 0)⟩,
  ⟨(some 55), (some (49, true)), .mv (.t 1)⟩,
  ⟨(some 56), (some (49, true)), .ixa 1 (.t 54) (.t 55)⟩,
  ⟨(some 57), (some (49, true)), .ld none (.t 56)⟩,
  ⟨(some 58), (some (49, true)), .call nCmpLessInt [(.t 53), (.t 57)]⟩,
  ⟨(some 59), (some (49, true)), .un .not (.t 58)⟩,
  ⟨(some 60), none, .pick (.t 49) (.t 59) (.k (.bool false))⟩]
def rSlicesPartitionOrderedIntX6 : List O := [
  ⟨(some 61), none, .mv (.t 11)⟩,
  ⟨(some 62), none, .bin .sub (.t 61) (.k (.int .i64 1))⟩,
  ⟨(some 11), none, .mv (.t 62)⟩]
def lSlicesPartitionOrderedIntX1 : C := (.seq (.seq (.reg rSlicesPartitionOrderedIntX5 true [(7, 11)] [0, 1, 10, 11, 60]) (.cond (.t 60) .skip (.exit 2))) (.blk 3 (.reg rSlicesPartitionOrderedIntX6 false [] [0, 1, 10, 11])))
def rSlicesPartitionOrderedIntX7 : List O := [
  ⟨(some 63), none, .mv (.t 10)⟩,
  ⟨(some 64), none, .mv (.t 11)⟩,
  ⟨(some 65), none, .bin .gtr (.t 63) (.t 64)⟩]
def rSlicesPartitionOrderedIntX8 : List O := [
  ⟨(some 66), none, .mv (.t 0)⟩,
  ⟨(some 67), none, .mv (.t 11)⟩,
  ⟨(some 68), none, .mv (.t 0)⟩,
  ⟨(some 69), none, .mv (.t 1)⟩,
  ⟨(some 70), none, .mv (.t 0)⟩,
  ⟨(some 71), none, .mv (.t 1)⟩,
  ⟨(some 72), none, .ixa 1 (.t 70) (.t 71)⟩,
  ⟨(some 73), none, .ld none (.t 72)⟩,
  ⟨(some 74), none, .mv (.t 0)⟩,
  ⟨(some 75), none, .mv (.t 11)⟩,
  ⟨(some 76), none, .ixa 1 (.t 74) (.t 75)⟩,
  ⟨(some 77), none, .ld none (.t 76)⟩,
  ⟨(some 78), none, .ixa 1 (.t 66) (.t 67)⟩,
  ⟨none, none, .st 1 (.t 78) (.t 73)⟩,
  ⟨(some 79), none, .ixa 1 (.t 68) (.t 69)⟩,
  ⟨none, none, .st 1 (.t 79) (.t 77)⟩]
def rSlicesPartitionOrderedIntX9 : List O := [
  ⟨(some 80), none, .mv (.t 11)⟩,
  ⟨(some 8), none, .mv (.t 80)⟩,
  ⟨(some 9), none, .mv (.k (.bool true))⟩]
def rSlicesPartitionOrderedIntX10 : List O := [
  ⟨(some 81), none, .mv (.t 0)⟩,
  ⟨(some 82), none, .mv (.t 10)⟩,
  ⟨(some 83), none, .mv (.t 0)⟩,
  ⟨(some 84), none, .mv (.t 11)⟩,
  ⟨(some 85), none, .mv (.t 0)⟩,
  ⟨(some 86), none, .mv (.t 11)⟩,
  ⟨(some 87), none, .ixa 1 (.t 85) (.t 86)⟩,
  ⟨(some 88), none, .ld none (.t 87)⟩,
  ⟨(some 89), none, .mv (.t 0)⟩,
  ⟨(some 90), none, .mv (.t 10)⟩,
  ⟨(some 91), none, .ixa 1 (.t 89) (.t 90)⟩,
  ⟨(some 92), none, .ld none (.t 91)⟩,
  ⟨(some 93), none, .ixa 1 (.t 81) (.t 82)⟩,
  ⟨none, none, .st 1 (.t 93) (.t 88)⟩,
  ⟨(some 94), none, .ixa 1 (.t 83) (.t 84)⟩,
  ⟨none, none, .st 1 (.t 94) (.t 92)⟩]
def rSlicesPartitionOrderedIntX11 : List O := [
  ⟨(some 95), none, .mv (.t 10)⟩,
  ⟨(some 96), none, .bin .add (.t 95) (.k (.int .i64 1))⟩,
  ⟨(some 10), none, .mv (.t 96)⟩]
def rSlicesPartitionOrderedIntX12 : List O := [
  ⟨(some 97), none, .mv (.t 11)⟩,
  ⟨(some 98), none, .bin .sub (.t 97) (.k (.int .i64 1))⟩,
  ⟨(some 11), none, .mv (.t 98)⟩]
def rSlicesPartitionOrderedIntX13 : List O := [
  ⟨(some 99), none, .mv (.t 10)⟩,
  ⟨(some 100), none, .mv (.t 11)⟩,
  ⟨(some 101), none, .bin .leq (.t 99) (.t 100)⟩,
  ⟨(some 102), none, .mv (.t 101)⟩,
  ⟨(some 103), (some (102, true)), .mv (.t 0)⟩,
  ⟨(some 104), (some (102, true)), .mv (.t 10)⟩,
  ⟨(some 105), (some (102, true)), .ixa 1 (.t 103) (.t 104)⟩,
  ⟨(some 106), (some (102, true)), .ld none (.t 105)⟩,
  ⟨(some 107), (some (102, true)), .mv (.t 0)⟩,
  ⟨(some 108), (some (102, true)), .mv (.t 1)⟩,
  ⟨(some 109), (some (102, true)), .ixa 1 (.t 107) (.t 108)⟩,
  ⟨(some 110), (some (102, true)), .ld none (.t 109)⟩,
  ⟨(some 111), (some (102, true)), .call nCmpLessInt [(.t 106), (.t 110)]⟩,
  ⟨(some 112), none, .pick (.t 102) (.t 111) (.k (.bool false))⟩]
def rSlicesPartitionOrderedIntX14 : List O := [
  ⟨(some 113), none, .mv (.t 10)⟩,
  ⟨(some 114), none, .bin .add (.t 113) (.k (.int .i64 1))⟩,
  ⟨(some 10), none, .mv (.t 114)⟩]
def lSlicesPartitionOrderedIntX2 : C := (.seq (.seq (.reg rSlicesPartitionOrderedIntX13 true [(7, 11)] [0, 1, 10, 11, 112]) (.cond (.t 112) .skip (.exit 6))) (.blk 7 (.reg rSlicesPartitionOrderedIntX14 false [] [0, 1, 10, 11])))
def rSlicesPartitionOrderedIntX15 : List O := [
  ⟨(some 115), none, .mv (.t 10)⟩,
  ⟨(some 116), none, .mv (.t 11)⟩,
  ⟨(some 117), none, .bin .leq (.t 115) (.t 116)⟩,
  ⟨(some 118), none, .mv (.t 117)⟩,
  ⟨(some 119), (some (118, true)), .mv (.t 0)⟩,
  ⟨(some 120), (some (118, true)), .mv (.t 11)⟩,
  ⟨(some 121), (some (118, true)), .ixa 1 (.t 119) (.t 120)⟩,
  ⟨(some 122), (some (118, true)), .ld none (.t 121)⟩,
  ⟨(some 123), (some (118, true)), .mv (.t 0)⟩,
  ⟨(some 124), (some (118, true)), .mv (.t 1)⟩,
  ⟨(some 125), (some (118, true)), .ixa 1 (.t 123) (.t 124)⟩,
  ⟨(some 126), (some (118, true)), .ld none (.t 125)⟩,
  ⟨(some 127), (some (118, true)), .call nCmpLessInt [(.t 122), (.t 126)]⟩,
  ⟨(some 128), (some (118, true)), .un .not (.t 127)⟩,
  ⟨(some 129), none, .pick (.t 118) (.t 128) (.k (.bool false))⟩]
def rSlicesPartitionOrderedIntX16 : List O := [
  ⟨(some 130), none, .mv (.t 11)⟩,
  ⟨(some 131), none, .bin .sub (.t 130) (.k (.int .i64 1))⟩,
  ⟨(some 11), none, .mv (.t 131)⟩]
def lSlicesPartitionOrderedIntX3 : C := (.seq (.seq (.reg rSlicesPartitionOrderedIntX15 true [(7, 11)] [0, 1, 10, 11, 129]) (.cond (.t 129) .skip (.exit 8))) (.blk 9 (.reg rSlicesPartitionOrderedIntX16 false [] [0, 1, 10, 11])))
def rSlicesPartitionOrderedIntX17 : List O := [
  ⟨(some 132), none, .mv (.t 10)⟩,
  ⟨(some 133), none, .mv (.t 11)⟩,
  ⟨(some 134), none, .bin .gtr (.t 132) (.t 133)⟩]
def rSlicesPartitionOrderedIntX18 : List O := [
  ⟨(some 135), none, .mv (.t 0)⟩,
  ⟨(some 136), none, .mv (.t 10)⟩,
  ⟨(some 137), none, .mv (.t 0)⟩,
  ⟨(some 138), none, .mv (.t 11)⟩,
  ⟨(some 139), none, .mv (.t 0)⟩,
  ⟨(some 140), none, .mv (.t 11)⟩,
  ⟨(some 141), none, .ixa 1 (.t 139) (.t 140)⟩,
  ⟨(some 142), none, .ld none (.t 141)⟩,
  ⟨(some 143), none, .mv (.t 0)⟩,
  ⟨(some 144), none, .mv (.t 10)⟩,
  ⟨(some 145), none, .ixa 1 (.t 143) (.t 144)⟩,
  ⟨(some 146), none, .ld none (.t 145)⟩,
  ⟨(some 147), none, .ixa 1 (.t 135) (.t 136)⟩,
  ⟨none, none, .st 1 (.t 147) (.t 142)⟩,
  ⟨(some 148), none, .ixa 1 (.t 137) (.t 138)⟩,
  ⟨none, none, .st 1 (.t 148) (.t 146)⟩]
def rSlicesPartitionOrderedIntX19 : List O := [
  ⟨(some 149), none, .mv (.t 10)⟩,
  ⟨(some 150), none, .bin .add (.t 149) (.k (.int .i64 1))⟩,
  ⟨(some 10), none, .mv (.t 150)⟩]
def rSlicesPartitionOrderedIntX20 : List O := [
  ⟨(some 151), none, .mv (.t 11)⟩,
  ⟨(some 152), none, .bin .sub (.t 151) (.k (.int .i64 1))⟩,
  ⟨(some 11), none, .mv (.t 152)⟩]
def lSlicesPartitionOrderedIntX4 : C := (.blk 5 (.seq (.blk 6 (.loop lSlicesPartitionOrderedIntX2)) (.seq (.blk 8 (.loop lSlicesPartitionOrderedIntX3)) (.seq (.seq (.reg rSlicesPartitionOrderedIntX17 false [] [0, 1, 10, 11, 134]) (.cond (.t 134) (.exit 4) .skip)) (.seq (.reg rSlicesPartitionOrderedIntX18 true [(7, 11)] [0, 1, 10, 11]) (.seq (.reg rSlicesPartitionOrderedIntX19 false [] [0, 1, 10, 11]) (.reg rSlicesPartitionOrderedIntX20 false [] [0, 1, 10, 11])))))))
def rSlicesPartitionOrderedIntX21 : List O := [
  ⟨(some 153), none, .mv (.t 0)⟩,
  ⟨(some 154), none, .mv (.t 11)⟩,
  ⟨(some 155), none, .mv (.t 0)⟩,
  ⟨(some 156), none, .mv (.t 1)⟩,
  ⟨(some 157), none, .mv (.t 0)⟩,
  ⟨(some 158), none, .mv (.t 1)⟩,
  ⟨(some 159), none, .ixa 1 (.t 157) (.t 158)⟩,
  ⟨(some 160), none, .ld none (.t 159)⟩,
  ⟨(some 161), none, .mv (.t 0)⟩,
  ⟨(some 162), none, .mv (.t 11)⟩,
  ⟨(some 163), none, .ixa 1 (.t 161) (.t 162)⟩,
  ⟨(some 164), none, .ld none (.t 163)⟩,
  ⟨(some 165), none, .ixa 1 (.t 153) (.t 154)⟩,
  ⟨none, none, .st 1 (.t 165) (.t 160)⟩,
  ⟨(some 166), none, .ixa 1 (.t 155) (.t 156)⟩,
  ⟨none, none, .st 1 (.t 166) (.t 164)⟩]
def rSlicesPartitionOrderedIntX22 : List O := [
  ⟨(some 167), none, .mv (.t 11)⟩,
  ⟨(some 8), none, .mv (.t 167)⟩,
  ⟨(some 9), none, .mv (.k (.bool false))⟩]
def cSlicesPartitionOrderedInt : C := (.seq (.reg rSlicesPartitionOrderedIntX0 false [] [0, 1, 2, 3]) (.seq (.reg rSlicesPartitionOrderedIntX1 true [(7, 11)] [0, 1, 2]) (.seq (.reg rSlicesPartitionOrderedIntX2 false [] [0, 1, 10, 11]) (.seq (.blk 0 (.loop lSlicesPartitionOrderedIntX0)) (.seq (.blk 2 (.loop lSlicesPartitionOrderedIntX1)) (.seq (.seq (.reg rSlicesPartitionOrderedIntX7 false [] [0, 1, 10, 11, 65]) (.cond (.t 65) (.seq (.reg rSlicesPartitionOrderedIntX8 true [(7, 11)] [11]) (.seq (.reg rSlicesPartitionOrderedIntX9 false [] [8, 9]) .ret)) .skip)) (.seq (.reg rSlicesPartitionOrderedIntX10 true [(7, 11)] [0, 1, 10, 11]) (.seq (.reg rSlicesPartitionOrderedIntX11 false [] [0, 1, 10, 11]) (.seq (.reg rSlicesPartitionOrderedIntX12 false [] [0, 1, 10, 11]) (.seq (.blk 4 (.loop lSlicesPartitionOrderedIntX4)) (.seq (.reg rSlicesPartitionOrderedIntX21 true [(7, 11)] [11]) (.seq (.reg rSlicesPartitionOrderedIntX22 false [] [8, 9]) .ret))))))))))))
def qSlicesPartitionOrderedInt : AFn := ⟨168, 4, [.t 8, .t 9], cSlicesPartitionOrderedInt⟩
/- math/bits.Len32 -/
def rMathBitsLen32X0 : List O := [
  ⟨(some 2), none, .mv (.k (.int .i64 0))⟩]
def rMathBitsLen32X1 : List O := [
  ⟨(some 3), none, .mv (.t 0)⟩,
  ⟨(some 4), none, .bin .geq (.t 3) (.k (.int .u32 65536))⟩]
def rMathBitsLen32X2 : List O := [
  ⟨(some 5), none, .mv (.t 0)⟩,
  ⟨(some 6), none, .bin .shr (.t 5) (.k (.int .u64 16))⟩,
  ⟨(some 0), none, .mv (.t 6)⟩]
def rMathBitsLen32X3 : List O := [
  ⟨(some 2), none, .mv (.k (.int .i64 16))⟩]
def rMathBitsLen32X4 : List O := [
  ⟨(some 7), none, .mv (.t 0)⟩,
  ⟨(some 8), none, .bin .geq (.t 7) (.k (.int .u32 256))⟩]
def rMathBitsLen32X5 : List O := [
  ⟨(some 9), none, .mv (.t 0)⟩,
  ⟨(some 10), none, .bin .shr (.t 9) (.k (.int .u64 8))⟩,
  ⟨(some 0), none, .mv (.t 10)⟩]
def rMathBitsLen32X6 : List O := [
  ⟨(some 11), none, .mv (.t 2)⟩,
  ⟨(some 12), none, .bin .add (.t 11) (.k (.int .i64 8))⟩,
  ⟨(some 2), none, .mv (.t 12)⟩]
def rMathBitsLen32X7 : List O := [
  ⟨(some 13), none, .mv (.t 2)⟩,
  ⟨(some 14), none, .mv (.t 0)⟩,
  ⟨(some 15), none, .cvt .u8 (.t 14)⟩,
  ⟨(some 16), none, .ixs [0, 1, 2, 2, 3, 3, 3, 3, 4, 4, 4, 4, 4, 4, 4, 4, 5, 5, 5, 5, 5, 5, 5, 5, 5, 5, 5, 5, 5, 5, 5, 5, 6, 6, 6, 6, 6, 6, 6, 6, 6, 6, 6, 6, 6, 6, 6, 6, 6, 6, 6, 6, 6, 6, 6, 6, 6, 6, 6, 6, 6, 6, 6, 6, 7, 7, 7, 7, 7, 7, 7, 7, 7, 7, 7, 7, 7, 7, 7, 7, 7, 7, 7, 7, 7, 7, 7, 7, 7, 7, 7, 7, 7, 7, 7, 7, 7, 7, 7, 7, 7, 7, 7, 7, 7, 7, 7, 7, 7, 7, 7, 7, 7, 7, 7, 7, 7, 7, 7, 7, 7, 7, 7, 7, 7, 7, 7, 7, 8, 8, 8, 8, 8, 8, 8, 8, 8, 8, 8, 8, 8, 8, 8, 8, 8, 8, 8, 8, 8, 8, 8, 8, 8, 8, 8, 8, 8, 8, 8, 8, 8, 8, 8, 8, 8, 8, 8, 8, 8, 8, 8, 8, 8, 8, 8, 8, 8, 8, 8, 8, 8, 8, 8, 8, 8, 8, 8, 8, 8, 8, 8, 8, 8, 8, 8, 8, 8, 8, 8, 8, 8, 8, 8, 8, 8, 8, 8, 8, 8, 8, 8, 8, 8, 8, 8, 8, 8, 8, 8, 8, 8, 8, 8, 8, 8, 8, 8, 8, 8, 8, 8, 8, 8, 8, 8, 8, 8, 8, 8, 8, 8, 8, 8, 8, 8, 8, 8, 8, 8, 8, 8, 8, 8, 8, 8, 8] (.t 15)⟩,
  ⟨(some 17), none, .cvt .i64 (.t 16)⟩,
  ⟨(some 18), none, .bin .add (.t 13) (.t 17)⟩,
  ⟨(some 2), none, .mv (.t 18)⟩]
def cMathBitsLen32 : C := (.seq (.reg rMathBitsLen32X0 false [] [0, 2]) (.seq (.seq (.reg rMathBitsLen32X1 false [] [0, 2, 4]) (.cond (.t 4) (.seq (.reg rMathBitsLen32X2 false [] [0]) (.reg rMathBitsLen32X3 false [] [0, 2])) .skip)) (.seq (.seq (.reg rMathBitsLen32X4 false [] [0, 2, 8]) (.cond (.t 8) (.seq (.reg rMathBitsLen32X5 false [] [0, 2]) (.reg rMathBitsLen32X6 false [] [0, 2])) .skip)) (.seq (.reg rMathBitsLen32X7 false [] [2]) .ret))))
def qMathBitsLen32 : AFn := ⟨19, 1, [.t 2], cMathBitsLen32⟩
/- math/bits.Len64 -/
def rMathBitsLen64X0 : List O := [
  ⟨(some 2), none, .mv (.k (.int .i64 0))⟩]
def rMathBitsLen64X1 : List O := [
  ⟨(some 3), none, .mv (.t 0)⟩,
  ⟨(some 4), none, .bin .geq (.t 3) (.k (.int .u64 4294967296))⟩]
def rMathBitsLen64X2 : List O := [
  ⟨(some 5), none, .mv (.t 0)⟩,
  ⟨(some 6), none, .bin .shr (.t 5) (.k (.int .u64 32))⟩,
  ⟨(some 0), none, .mv (.t 6)⟩]
def rMathBitsLen64X3 : List O := [
  ⟨(some 2), none, .mv (.k (.int .i64 32))⟩]
def rMathBitsLen64X4 : List O := [
  ⟨(some 7), none, .mv (.t 0)⟩,
  ⟨(some 8), none, .bin .geq (.t 7) (.k (.int .u64 65536))⟩]
def rMathBitsLen64X5 : List O := [
  ⟨(some 9), none, .mv (.t 0)⟩,
  ⟨(some 10), none, .bin .shr (.t 9) (.k (.int .u64 16))⟩,
  ⟨(some 0), none, .mv (.t 10)⟩]
def rMathBitsLen64X6 : List O := [
  ⟨(some 11), none, .mv (.t 2)⟩,
  ⟨(some 12), none, .bin .add (.t 11) (.k (.int .i64 16))⟩,
  ⟨(some 2), none, .mv (.t 12)⟩]
def rMathBitsLen64X7 : List O := [
  ⟨(some 13), none, .mv (.t 0)⟩,
  ⟨(some 14), none, .bin .geq (.t 13) (.k (.int .u64 256))⟩]
def rMathBitsLen64X8 : List O := [
  ⟨(some 15), none, .mv (.t 0)⟩,
  ⟨(some 16), none, .bin .shr (.t 15) (.k (.int .u64 8))⟩,
  ⟨(some 0), none, .mv (.t 16)⟩]
def rMathBitsLen64X9 : List O := [
  ⟨(some 17), none, .mv (.t 2)⟩,
  ⟨(some 18), none, .bin .add (.t 17) (.k (.int .i64 8))⟩,
  ⟨(some 2), none, .mv (.t 18)⟩]
def rMathBitsLen64X10 : List O := [
  ⟨(some 19), none, .mv (.t 2)⟩,
  ⟨(some 20), none, .mv (.t 0)⟩,
  ⟨(some 21), none, .cvt .u8 (.t 20)⟩,
  ⟨(some 22), none, .ixs [0, 1, 2, 2, 3, 3, 3, 3, 4, 4, 4, 4, 4, 4, 4, 4, 5, 5, 5, 5, 5, 5, 5, 5, 5, 5, 5, 5, 5, 5, 5, 5, 6, 6, 6, 6, 6, 6, 6, 6, 6, 6, 6, 6, 6, 6, 6, 6, 6, 6, 6, 6, 6, 6, 6, 6, 6, 6, 6, 6, 6, 6, 6, 6, 7, 7, 7, 7, 7, 7, 7, 7, 7, 7, 7, 7, 7, 7, 7, 7, 7, 7, 7, 7, 7, 7, 7, 7, 7, 7, 7, 7, 7, 7, 7, 7, 7, 7, 7, 7, 7, 7, 7, 7, 7, 7, 7, 7, 7, 7, 7, 7, 7, 7, 7, 7, 7, 7, 7, 7, 7, 7, 7, 7, 7, 7, 7, 7, 8, 8, 8, 8, 8, 8, 8, 8, 8, 8, 8, 8, 8, 8, 8, 8, 8, 8, 8, 8, 8, 8, 8, 8, 8, 8, 8, 8, 8, 8, 8, 8, 8, 8, 8, 8, 8, 8, 8, 8, 8, 8, 8, 8, 8, 8, 8, 8, 8, 8, 8, 8, 8, 8, 8, 8, 8, 8, 8, 8, 8, 8, 8, 8, 8, 8, 8, 8, 8, 8, 8, 8, 8, 8, 8, 8, 8, 8, 8, 8, 8, 8, 8, 8, 8, 8, 8, 8, 8, 8, 8, 8, 8, 8, 8, 8, 8, 8, 8, 8, 8, 8, 8, 8, 8, 8, 8, 8, 8, 8, 8, 8, 8, 8, 8, 8, 8, 8, 8, 8, 8, 8, 8, 8, 8, 8, 8, 8] (.t 21)⟩,
  ⟨(some 23), none, .cvt .i64 (.t 22)⟩,
  ⟨(some 24), none, .bin .add (.t 19) (.t 23)⟩,
  ⟨(some 2), none, .mv (.t 24)⟩]
def cMathBitsLen64 : C := (.seq (.reg rMathBitsLen64X0 false [] [0, 2]) (.seq (.seq (.reg rMathBitsLen64X1 false [] [0, 2, 4]) (.cond (.t 4) (.seq (.reg rMathBitsLen64X2 false [] [0]) (.reg rMathBitsLen64X3 false [] [0, 2])) .skip)) (.seq (.seq (.reg rMathBitsLen64X4 false [] [0, 2, 8]) (.cond (.t 8) (.seq (.reg rMathBitsLen64X5 false [] [0, 2]) (.reg rMathBitsLen64X6 false [] [0, 2])) .skip)) (.seq (.seq (.reg rMathBitsLen64X7 false [] [0, 2, 14]) (.cond (.t 14) (.seq (.reg rMathBitsLen64X8 false [] [0, 2]) (.reg rMathBitsLen64X9 false [] [0, 2])) .skip)) (.seq (.reg rMathBitsLen64X10 false [] [2]) .ret)))))
def qMathBitsLen64 : AFn := ⟨25, 1, [.t 2], cMathBitsLen64⟩
/- slices.siftDownOrdered[int] -/
def rSlicesSiftDownOrderedIntX0 : List O := [
  ⟨(some 10), none, .mv (.t 1)⟩,
  ⟨(some 8), none, .mv (.t 10)⟩]
def rSlicesSiftDownOrderedIntX1 : List O := [
  ⟨(some 11), none, .mv (.t 8)⟩,
  ⟨(some 12), none, .bin .mul (.k (.int .i64 2)) (.t 11)⟩,
  ⟨(some 13), none, .bin .add (.t 12) (.k (.int .i64 1))⟩,
  ⟨(some 9), none, .mv (.t 13)⟩]
def rSlicesSiftDownOrderedIntX2 : List O := [
  ⟨(some 14), none, .mv (.t 9)⟩,
  ⟨(some 15), none, .mv (.t 2)⟩,
  ⟨(some 16), none, .bin .geq (.t 14) (.t 15)⟩]
def rSlicesSiftDownOrderedIntX3 : List O := [
  ⟨(some 17), none, .mv (.t 9)⟩,
  ⟨(some 18), none, .bin .add (.t 17) (.k (.int .i64 1))⟩,
  ⟨(some 19), none, .mv (.t 2)⟩,
  ⟨(some 20), none, .bin .lss (.t 18) (.t 19)⟩,
  ⟨(some 21), none, .mv (.t 20)⟩,
  ⟨(some 22), (some (21, true)), .mv (.t 0)⟩,
  ⟨(some 23), (some (21, true)), .mv (.t 3)⟩,
  ⟨(some 24), (some (21, true)), .mv (.t 9)⟩,
  ⟨(some 25), (some (21, true)), .bin .add (.t 23) (.t 24)⟩,
  ⟨(some 26), (some (21, true)), .ixa 1 (.t 22) (.t 25)⟩,
  ⟨(some 27), (some (21, true)), .ld none (.t 26)⟩,
  ⟨(some 28), (some (21, true)), .mv (.t 0)⟩,
  ⟨(some 29), (some (21, true)), .mv (.t 3)⟩,
  ⟨(some 30), (some (21, true)), .mv (.t 9)⟩,
  ⟨(some 31), (some (21, true)), .bin .add (.t 29) (.t 30)⟩,
  ⟨(some 32), (some (21, true)), .bin .add (.t 31) (.k (.int .i64 1))⟩,
  ⟨(some 33), (some (21, true)), .ixa 1 (.t 28) (.t 32)⟩,
  ⟨(some 34), (some (21, true)), .ld none (.t 33)⟩,
  ⟨(some 35), (some (21, true)), .call nCmpLessInt [(.t 27), (.t 34)]⟩,
  ⟨(some 36), none, .pick (.t 21) (.t 35) (.k (.bool false))⟩]
def rSlicesSiftDownOrderedIntX4 : List O := [
  ⟨(some 37), none, .mv (.t 9)⟩,
  ⟨(some 38), none, .bin .add (.t 37) (.k (.int .i64 1))⟩,
  ⟨(some 9), none, .mv (.t 38)⟩]
def rSlicesSiftDownOrderedIntX5 : List O := [
  ⟨(some 39), none, .mv (.t 0)⟩,
  ⟨(some 40), none, .mv (.t 3)⟩,
  ⟨(some 41), none, .mv (.t 8)⟩,
  ⟨(some 42), none, .bin .add (.t 40) (.t 41)⟩,
  ⟨(some 43), none, .ixa 1 (.t 39) (.t 42)⟩,
  ⟨(some 44), none, .ld none (.t 43)⟩,
  ⟨(some 45), none, .mv (.t 0)⟩,
  ⟨(some 46), none, .mv (.t 3)⟩,
  ⟨(some 47), none, .mv (.t 9)⟩,
  ⟨(some 48), none, .bin .add (.t 46) (.t 47)⟩,
  ⟨(some 49), none, .ixa 1 (.t 45) (.t 48)⟩,
  ⟨(some 50), none, .ld none (.t 49)⟩,
  ⟨(some 51), none, .call nCmpLessInt [(.t 44), (.t 50)]⟩,
  ⟨(some 52), none, .un .not (.t 51)⟩]
def rSlicesSiftDownOrderedIntX6 : List O := [
  ⟨(some 53), none, .mv (.t 0)⟩,
  ⟨(some 54), none, .mv (.t 3)⟩,
  ⟨(some 55), none, .mv (.t 8)⟩,
  ⟨(some 56), none, .bin .add (.t 54) (.t 55)⟩,
  ⟨(some 57), none, .mv (.t 0)⟩,
  ⟨(some 58), none, .mv (.t 3)⟩,
  ⟨(some 59), none, .mv (.t 9)⟩,
  ⟨(some 60), none, .bin .add (.t 58) (.t 59)⟩,
  ⟨(some 61), none, .mv (.t 0)⟩,
  ⟨(some 62), none, .mv (.t 3)⟩,
  ⟨(some 63), none, .mv (.t 9)⟩,
  ⟨(some 64), none, .bin .add (.t 62) (.t 63)⟩,
  ⟨(some 65), none, .ixa 1 (.t 61) (.t 64)⟩,
  ⟨(some 66), none, .ld none (.t 65)⟩,
  ⟨(some 67), none, .mv (.t 0)⟩,
  ⟨(some 68), none, .mv (.t 3)⟩,
  ⟨(some 69), none, .mv (.t 8)⟩,
  ⟨(some 70), none, .bin .add (.t 68) (.t 69)⟩,
  ⟨(some 71), none, .ixa 1 (.t 67) (.t 70)⟩,
  ⟨(some 72), none, .ld none (.t 71)⟩,
  ⟨(some 73), none, .ixa 1 (.t 53) (.t 56)⟩,
  ⟨none, none, .st 1 (.t 73) (.t 66)⟩,
  ⟨(some 74), none, .ixa 1 (.t 57) (.t 60)⟩,
  ⟨none, none, .st 1 (.t 74) (.t 72)⟩]
def rSlicesSiftDownOrderedIntX7 : List O := [
  ⟨(some 75), none, .mv (.t 9)⟩,
  ⟨(some 8), none, .mv (.t 75)⟩]
def lSlicesSiftDownOrderedIntX0 : C := (.blk 1 (.seq (.reg rSlicesSiftDownOrderedIntX1 false [] [0, 2, 3, 8, 9]) (.seq (.seq (.reg rSlicesSiftDownOrderedIntX2 false [] [0, 2, 3, 8, 9, 16]) (.cond (.t 16) (.exit 0) .skip)) (.seq (.seq (.reg rSlicesSiftDownOrderedIntX3 true [(10, 17)] [0, 2, 3, 8, 9, 36]) (.cond (.t 36) (.reg rSlicesSiftDownOrderedIntX4 false [] [0, 2, 3, 8, 9]) .skip)) (.seq (.seq (.reg rSlicesSiftDownOrderedIntX5 true [(5, 11)] [0, 2, 3, 8, 9, 52]) (.cond (.t 52) .ret .skip)) (.seq (.reg rSlicesSiftDownOrderedIntX6 true [(13, 19)] [0, 2, 3, 9]) (.reg rSlicesSiftDownOrderedIntX7 false [] [0, 2, 3, 8])))))))
def cSlicesSiftDownOrderedInt : C := (.seq (.reg rSlicesSiftDownOrderedIntX0 false [] [0, 2, 3, 8]) (.blk 0 (.loop lSlicesSiftDownOrderedIntX0)))
def qSlicesSiftDownOrderedInt : AFn := ⟨76, 4, [], cSlicesSiftDownOrderedInt⟩
/- slices.nextPowerOfTwo -/
def rSlicesNextPowerOfTwoX0 : List O := [
  ⟨(some 2), none, .mv (.k (.int .u64 0))⟩]
def rSlicesNextPowerOfTwoX1 : List O := [
  ⟨(some 3), none, .mv (.t 0)⟩,
  ⟨(some 4), none, .cvt .u64 (.t 3)⟩,
  ⟨(some 5), none, .call nMathBitsLen [(.t 4)]⟩,
  ⟨(some 6), none, .bin .shl (.k (.int .u64 1)) (.t 5)⟩,
  ⟨(some 2), none, .mv (.t 6)⟩]
def cSlicesNextPowerOfTwo : C := (.seq (.reg rSlicesNextPowerOfTwoX0 false [] [0]) (.seq (.reg rSlicesNextPowerOfTwoX1 false [] [2]) .ret))
def qSlicesNextPowerOfTwo : AFn := ⟨7, 1, [.t 2], cSlicesNextPowerOfTwo⟩
/- (*slices.xorshift).Next -/
def rSlicesXorshiftNextX0 : List O := [
  ⟨(some 2), none, .mv (.k (.int .u64 0))⟩]
def rSlicesXorshiftNextX1 : List O := [
  ⟨(some 3), none, .mv (.t 0)⟩,
  ⟨(some 4), none, .nilck (.t 3)⟩,
  ⟨(some 5), none, .ld none (.t 4)⟩,
  ⟨(some 6), none, .mv (.t 0)⟩,
  ⟨(some 7), none, .nilck (.t 6)⟩,
  ⟨(some 8), none, .ld none (.t 7)⟩,
  ⟨(some 9), none, .bin .shl (.t 8) (.k (.int .u64 13))⟩,
  ⟨(some 10), none, .bin .xor (.t 5) (.t 9)⟩,
  ⟨(some 11), none, .nilck (.t 3)⟩,
  ⟨none, none, .st 1 (.t 11) (.t 10)⟩]
def rSlicesXorshiftNextX2 : List O := [
  ⟨(some 12), none, .mv (.t 0)⟩,
  ⟨(some 13), none, .nilck (.t 12)⟩,
  ⟨(some 14), none, .ld none (.t 13)⟩,
  ⟨(some 15), none, .mv (.t 0)⟩,
  ⟨(some 16), none, .nilck (.t 15)⟩,
  ⟨(some 17), none, .ld none (.t 16)⟩,
  ⟨(some 18), none, .bin .shr (.t 17) (.k (.int .u64 7))⟩,
  ⟨(some 19), none, .bin .xor (.t 14) (.t 18)⟩,
  ⟨(some 20), none, .nilck (.t 12)⟩,
  ⟨none, none, .st 1 (.t 20) (.t 19)⟩]
def rSlicesXorshiftNextX3 : List O := [
  ⟨(some 21), none, .mv (.t 0)⟩,
  ⟨(some 22), none, .nilck (.t 21)⟩,
  ⟨(some 23), none, .ld none (.t 22)⟩,
  ⟨(some 24), none, .mv (.t 0)⟩,
  ⟨(some 25), none, .nilck (.t 24)⟩,
  ⟨(some 26), none, .ld none (.t 25)⟩,
  ⟨(some 27), none, .bin .shl (.t 26) (.k (.int .u64 17))⟩,
  ⟨(some 28), none, .bin .xor (.t 23) (.t 27)⟩,
  ⟨(some 29), none, .nilck (.t 21)⟩,
  ⟨none, none, .st 1 (.t 29) (.t 28)⟩]
def rSlicesXorshiftNextX4 : List O := [
  ⟨(some 30), none, .mv (.t 0)⟩,
  ⟨(some 31), none, .nilck (.t 30)⟩,
  ⟨(some 32), none, .ld none (.t 31)⟩,
  ⟨(some 2), none, .mv (.t 32)⟩]
def cSlicesXorshiftNext : C := (.seq (.reg rSlicesXorshiftNextX0 false [] [0]) (.seq (.reg rSlicesXorshiftNextX1 true [(2, 5)] [0]) (.seq (.reg rSlicesXorshiftNextX2 true [(2, 5)] [0]) (.seq (.reg rSlicesXorshiftNextX3 true [(2, 5)] [0]) (.seq (.reg rSlicesXorshiftNextX4 false [] [2]) .ret)))))
def qSlicesXorshiftNext : AFn := ⟨33, 1, [.t 2], cSlicesXorshiftNext⟩
/- slices.medianAdjacentOrdered[int] -/
def rSlicesMedianAdjacentOrderedIntX0 : List O := [
  ⟨(some 6), none, .mv (.k (.int .i64 0))⟩]
def rSlicesMedianAdjacentOrderedIntX1 : List O := [
  ⟨(some 7), none, .mv (.t 0)⟩,
  ⟨(some 8), none, .mv (.t 1)⟩,
  ⟨(some 9), none, .bin .sub (.t 8) (.k (.int .i64 1))⟩,
  ⟨(some 10), none, .mv (.t 1)⟩,
  ⟨(some 11), none, .mv (.t 1)⟩,
  ⟨(some 12), none, .bin .add (.t 11) (.k (.int .i64 1))⟩,
  ⟨(some 13), none, .mv (.t 2)⟩,
  ⟨(some 14), none, .call nSlicesMedianOrderedInt [(.t 7), (.t 9), (.t 10), (.t 12), (.t 13)]⟩,
  ⟨(some 6), none, .mv (.t 14)⟩]
def cSlicesMedianAdjacentOrderedInt : C := (.seq (.reg rSlicesMedianAdjacentOrderedIntX0 false [] [0, 1, 2]) (.seq (.reg rSlicesMedianAdjacentOrderedIntX1 false [] [6]) .ret))
def qSlicesMedianAdjacentOrderedInt : AFn := ⟨15, 3, [.t 6], cSlicesMedianAdjacentOrderedInt⟩
/- slices.medianOrdered[int] -/
def rSlicesMedianOrderedIntX0 : List O := [
  ⟨(some 10), none, .mv (.k (.int .i64 0))⟩]
def rSlicesMedianOrderedIntX1 : List O := [
  ⟨(some 12), none, .mv (.t 0)⟩,
  ⟨(some 13), none, .mv (.t 1)⟩,
  ⟨(some 14), none, .mv (.t 2)⟩,
  ⟨(some 15), none, .mv (.t 4)⟩,
  ⟨(some 16), none, .call nSlicesOrder2OrderedInt [(.t 12), (.t 13), (.t 14), (.t 15)]⟩,
  ⟨(some 11), none, .mv (.t 16)⟩,
  ⟨(some 17), none, .ext 0 (.t 11)⟩,
  ⟨(some 18), none, .ext 1 (.t 11)⟩,
  ⟨(some 1), none, .mv (.t 17)⟩,
  ⟨(some 2), none, .mv (.t 18)⟩]
def rSlicesMedianOrderedIntX2 : List O := [
  ⟨(some 20), none, .mv (.t 0)⟩,
  ⟨(some 21), none, .mv (.t 2)⟩,
  ⟨(some 22), none, .mv (.t 3)⟩,
  ⟨(some 23), none, .mv (.t 4)⟩,
  ⟨(some 24), none, .call nSlicesOrder2OrderedInt [(.t 20), (.t 21), (.t 22), (.t 23)]⟩,
  ⟨(some 19), none, .mv (.t 24)⟩,
  ⟨(some 25), none, .ext 0 (.t 19)⟩,
  ⟨(some 26), none, .ext 1 (.t 19)⟩,
  ⟨(some 2), none, .mv (.t 25)⟩,
  ⟨(some 3), none, .mv (.t 26)⟩]
def rSlicesMedianOrderedIntX3 : List O := [
  ⟨(some 28), none, .mv (.t 0)⟩,
  ⟨(some 29), none, .mv (.t 1)⟩,
  ⟨(some 30), none, .mv (.t 2)⟩,
  ⟨(some 31), none, .mv (.t 4)⟩,
  ⟨(some 32), none, .call nSlicesOrder2OrderedInt [(.t 28), (.t 29), (.t 30), (.t 31)]⟩,
  ⟨(some 27), none, .mv (.t 32)⟩,
  ⟨(some 33), none, .ext 0 (.t 27)⟩,
  ⟨(some 34), none, .ext 1 (.t 27)⟩,
  ⟨(some 1), none, .mv (.t 33)⟩,
  ⟨(some 2), none, .mv (.t 34)⟩]
def rSlicesMedianOrderedIntX4 : List O := [
  ⟨(some 35), none, .mv (.t 2)⟩,
  ⟨(some 10), none, .mv (.t 35)⟩]
def cSlicesMedianOrderedInt : C := (.seq (.reg rSlicesMedianOrderedIntX0 false [] [0, 1, 2, 3, 4]) (.seq (.reg rSlicesMedianOrderedIntX1 false [] [0, 1, 2, 3, 4]) (.seq (.reg rSlicesMedianOrderedIntX2 false [] [0, 1, 2, 4]) (.seq (.reg rSlicesMedianOrderedIntX3 false [] [2]) (.seq (.reg rSlicesMedianOrderedIntX4 false [] [10]) .ret)))))
def qSlicesMedianOrderedInt : AFn := ⟨36, 5, [.t 10], cSlicesMedianOrderedInt⟩
/- slices.order2Ordered[int] -/
def rSlicesOrder2OrderedIntX0 : List O := [
  ⟨(some 8), none, .mv (.k (.int .i64 0))⟩,
  ⟨(some 9), none, .mv (.k (.int .i64 0))⟩]
def rSlicesOrder2OrderedIntX1 : List O := [
  ⟨(some 10), none, .mv (.t 0)⟩,
  ⟨(some 11), none, .mv (.t 2)⟩,
  ⟨(some 12), none, .ixa 1 (.t 10) (.t 11)⟩,
  ⟨(some 13), none, .ld none (.t 12)⟩,
  ⟨(some 14), none, .mv (.t 0)⟩,
  ⟨(some 15), none, .mv (.t 1)⟩,
  ⟨(some 16), none, .ixa 1 (.t 14) (.t 15)⟩,
  ⟨(some 17), none, .ld none (.t 16)⟩,
  ⟨(some 18), none, .call nCmpLessInt [(.t 13), (.t 17)]⟩]
def rSlicesOrder2OrderedIntX2 : List O := [
  ⟨(some 19), none, .mv (.t 3)⟩,
  ⟨(some 20), none, .nilck (.t 19)⟩,
  ⟨(some 21), none, .ld none (.t 20)⟩,
  ⟨(some 22), none, .bin .add (.t 21) (.k (.int .i64 1))⟩,
  ⟨(some 23), none, .nilck (.t 19)⟩,
  ⟨none, none, .st 1 (.t 23) (.t 22)⟩]
def rSlicesOrder2OrderedIntX3 : List O := [
  ⟨(some 24), none, .mv (.t 2)⟩,
  ⟨(some 25), none, .mv (.t 1)⟩,
  ⟨(some 8), none, .mv (.t 24)⟩,
  ⟨(some 9), none, .mv (.t 25)⟩]
def rSlicesOrder2OrderedIntX4 : List O := [
  ⟨(some 26), none, .mv (.t 1)⟩,
  ⟨(some 27), none, .mv (.t 2)⟩,
  ⟨(some 8), none, .mv (.t 26)⟩,
  ⟨(some 9), none, .mv (.t 27)⟩]
def cSlicesOrder2OrderedInt : C := (.seq (.reg rSlicesOrder2OrderedIntX0 false [] [0, 1, 2, 3]) (.seq (.seq (.reg rSlicesOrder2OrderedIntX1 true [(3, 7)] [1, 2, 3, 18]) (.cond (.t 18) (.seq (.reg rSlicesOrder2OrderedIntX2 false [] [1, 2]) (.seq (.reg rSlicesOrder2OrderedIntX3 false [] [8, 9]) .ret)) .skip)) (.seq (.reg rSlicesOrder2OrderedIntX4 false [] [8, 9]) .ret)))
def qSlicesOrder2OrderedInt : AFn := ⟨28, 4, [.t 8, .t 9], cSlicesOrder2OrderedInt⟩
def look : List (Nat × Md × AFn) → Nat → Option (Md × AFn)
  | [], _ => none
  | (j, m, q) :: r, i => if i = j then some (m, q) else look r i
def fns : List (Nat × Md × AFn) := [
  (nLaw02NodesetOrder, .P, qLaw02NodesetOrder),
  (nLaw02NodesetLaws, .P, qLaw02NodesetLaws),
  (nLaw02NodesetWithin, .P, qLaw02NodesetWithin),
  (nLaw02Awake, .P, qLaw02Awake),
  (nNodesetCmp, .P, qNodesetCmp),
  (nRef02Same, .P, qRef02Same),
  (nNodesetUnion, .P, qNodesetUnion),
  (nNodesetMeet, .P, qNodesetMeet),
  (nNodesetMinus, .P, qNodesetMinus),
  (nNodesetOf, .P, qNodesetOf),
  (nNodesetWithin, .P, qNodesetWithin),
  (nNodesetHas, .P, qNodesetHas),
  (nNodesetValid, .P, qNodesetValid),
  (nNodesetRange, .P, qNodesetRange),
  (nSlicesCompareIntInt, .P, qSlicesCompareIntInt),
  (nRef02Cmp, .P, qRef02Cmp),
  (nNodesetMergedInt, .P, qNodesetMergedInt),
  (nNodesetUnion1, .P, qNodesetUnion1),
  (nNodesetMeet1, .P, qNodesetMeet1),
  (nNodesetMinus1, .P, qNodesetMinus1),
  (nSlicesContainsIntInt, .P, qSlicesContainsIntInt),
  (nCmpCompareInt, .P, qCmpCompareInt),
  (nSlicesCloneIntInt, .K, qSlicesCloneIntInt),
  (nSlicesSortIntInt, .K, qSlicesSortIntInt),
  (nSlicesCompactIntInt, .K, qSlicesCompactIntInt),
  (nSlicesIndexIntInt, .P, qSlicesIndexIntInt),
  (nCmpIsNaNInt, .P, qCmpIsNaNInt),
  (nSlicesPdqsortOrderedInt, .K, qSlicesPdqsortOrderedInt),
  (nMathBitsLen, .P, qMathBitsLen),
  (nSlicesInsertionSortOrderedInt, .K, qSlicesInsertionSortOrderedInt),
  (nSlicesHeapSortOrderedInt, .K, qSlicesHeapSortOrderedInt),
  (nSlicesBreakPatternsOrderedInt, .K, qSlicesBreakPatternsOrderedInt),
  (nSlicesChoosePivotOrderedInt, .K, qSlicesChoosePivotOrderedInt),
  (nSlicesReverseRangeOrderedInt, .K, qSlicesReverseRangeOrderedInt),
  (nSlicesPartialInsertionSortOrderedInt, .K, qSlicesPartialInsertionSortOrderedInt),
  (nCmpLessInt, .P, qCmpLessInt),
  (nSlicesPartitionEqualOrderedInt, .K, qSlicesPartitionEqualOrderedInt),
  (nSlicesPartitionOrderedInt, .K, qSlicesPartitionOrderedInt),
  (nMathBitsLen32, .P, qMathBitsLen32),
  (nMathBitsLen64, .P, qMathBitsLen64),
  (nSlicesSiftDownOrderedInt, .K, qSlicesSiftDownOrderedInt),
  (nSlicesNextPowerOfTwo, .K, qSlicesNextPowerOfTwo),
  (nSlicesXorshiftNext, .K, qSlicesXorshiftNext),
  (nSlicesMedianAdjacentOrderedInt, .K, qSlicesMedianAdjacentOrderedInt),
  (nSlicesMedianOrderedInt, .K, qSlicesMedianOrderedInt),
  (nSlicesOrder2OrderedInt, .K, qSlicesOrder2OrderedInt)]
def cfg : Cfg := ⟨look fns, fun _ => [], fun _ => none⟩
theorem kLaw02NodesetOrder : chkF Go.Proofs.Try.prog Go.Proofs.Try.f3 qLaw02NodesetOrder = true := by kernel_rfl
theorem kLaw02NodesetLaws : chkF Go.Proofs.Try.prog Go.Proofs.Try.f4 qLaw02NodesetLaws = true := by kernel_rfl
theorem kLaw02NodesetWithin : chkF Go.Proofs.Try.prog Go.Proofs.Try.f5 qLaw02NodesetWithin = true := by kernel_rfl
theorem kLaw02Awake : chkF Go.Proofs.Try.prog Go.Proofs.Try.f6 qLaw02Awake = true := by kernel_rfl
theorem kNodesetCmp : chkF Go.Proofs.Try.prog Go.Proofs.Try.f7 qNodesetCmp = true := by kernel_rfl
theorem kRef02Same : chkF Go.Proofs.Try.prog Go.Proofs.Try.f8 qRef02Same = true := by kernel_rfl
theorem kNodesetUnion : chkF Go.Proofs.Try.prog Go.Proofs.Try.f9 qNodesetUnion = true := by kernel_rfl
theorem kNodesetMeet : chkF Go.Proofs.Try.prog Go.Proofs.Try.f10 qNodesetMeet = true := by kernel_rfl
theorem kNodesetMinus : chkF Go.Proofs.Try.prog Go.Proofs.Try.f11 qNodesetMinus = true := by kernel_rfl
theorem kNodesetOf : chkF Go.Proofs.Try.prog Go.Proofs.Try.f12 qNodesetOf = true := by kernel_rfl
theorem kNodesetWithin : chkF Go.Proofs.Try.prog Go.Proofs.Try.f13 qNodesetWithin = true := by kernel_rfl
theorem kNodesetHas : chkF Go.Proofs.Try.prog Go.Proofs.Try.f14 qNodesetHas = true := by kernel_rfl
theorem kNodesetValid : chkF Go.Proofs.Try.prog Go.Proofs.Try.f15 qNodesetValid = true := by kernel_rfl
theorem kNodesetRange : chkF Go.Proofs.Try.prog Go.Proofs.Try.f16 qNodesetRange = true := by kernel_rfl
theorem kSlicesCompareIntInt : chkF Go.Proofs.Try.prog Go.Proofs.Try.f17 qSlicesCompareIntInt = true := by kernel_rfl
theorem kRef02Cmp : chkF Go.Proofs.Try.prog Go.Proofs.Try.f18 qRef02Cmp = true := by kernel_rfl
theorem kNodesetMergedInt : chkF Go.Proofs.Try.prog Go.Proofs.Try.f19 qNodesetMergedInt = true := by kernel_rfl
theorem kNodesetUnion1 : chkF Go.Proofs.Try.prog Go.Proofs.Try.f20 qNodesetUnion1 = true := by kernel_rfl
theorem kNodesetMeet1 : chkF Go.Proofs.Try.prog Go.Proofs.Try.f21 qNodesetMeet1 = true := by kernel_rfl
theorem kNodesetMinus1 : chkF Go.Proofs.Try.prog Go.Proofs.Try.f22 qNodesetMinus1 = true := by kernel_rfl
theorem kSlicesContainsIntInt : chkF Go.Proofs.Try.prog Go.Proofs.Try.f23 qSlicesContainsIntInt = true := by kernel_rfl
theorem kCmpCompareInt : chkF Go.Proofs.Try.prog Go.Proofs.Try.f24 qCmpCompareInt = true := by kernel_rfl
theorem kSlicesCloneIntInt : chkF Go.Proofs.Try.prog Go.Proofs.Try.f25 qSlicesCloneIntInt = true := by kernel_rfl
theorem kSlicesSortIntInt : chkF Go.Proofs.Try.prog Go.Proofs.Try.f26 qSlicesSortIntInt = true := by kernel_rfl
theorem kSlicesCompactIntInt : chkF Go.Proofs.Try.prog Go.Proofs.Try.f27 qSlicesCompactIntInt = true := by kernel_rfl
theorem kSlicesIndexIntInt : chkF Go.Proofs.Try.prog Go.Proofs.Try.f28 qSlicesIndexIntInt = true := by kernel_rfl
theorem kCmpIsNaNInt : chkF Go.Proofs.Try.prog Go.Proofs.Try.f29 qCmpIsNaNInt = true := by kernel_rfl
theorem kSlicesPdqsortOrderedInt : chkF Go.Proofs.Try.prog Go.Proofs.Try.f30 qSlicesPdqsortOrderedInt = true := by kernel_rfl
theorem kMathBitsLen : chkF Go.Proofs.Try.prog Go.Proofs.Try.f31 qMathBitsLen = true := by kernel_rfl
theorem kSlicesInsertionSortOrderedInt : chkF Go.Proofs.Try.prog Go.Proofs.Try.f32 qSlicesInsertionSortOrderedInt = true := by kernel_rfl
theorem kSlicesHeapSortOrderedInt : chkF Go.Proofs.Try.prog Go.Proofs.Try.f33 qSlicesHeapSortOrderedInt = true := by kernel_rfl
theorem kSlicesBreakPatternsOrderedInt : chkF Go.Proofs.Try.prog Go.Proofs.Try.f34 qSlicesBreakPatternsOrderedInt = true := by kernel_rfl
theorem kSlicesChoosePivotOrderedInt : chkF Go.Proofs.Try.prog Go.Proofs.Try.f35 qSlicesChoosePivotOrderedInt = true := by kernel_rfl
theorem kSlicesReverseRangeOrderedInt : chkF Go.Proofs.Try.prog Go.Proofs.Try.f36 qSlicesReverseRangeOrderedInt = true := by kernel_rfl
theorem kSlicesPartialInsertionSortOrderedInt : chkF Go.Proofs.Try.prog Go.Proofs.Try.f37 qSlicesPartialInsertionSortOrderedInt = true := by kernel_rfl
theorem kCmpLessInt : chkF Go.Proofs.Try.prog Go.Proofs.Try.f38 qCmpLessInt = true := by kernel_rfl
theorem kSlicesPartitionEqualOrderedInt : chkF Go.Proofs.Try.prog Go.Proofs.Try.f39 qSlicesPartitionEqualOrderedInt = true := by kernel_rfl
theorem kSlicesPartitionOrderedInt : chkF Go.Proofs.Try.prog Go.Proofs.Try.f40 qSlicesPartitionOrderedInt = true := by kernel_rfl
theorem kMathBitsLen32 : chkF Go.Proofs.Try.prog Go.Proofs.Try.f41 qMathBitsLen32 = true := by kernel_rfl
theorem kMathBitsLen64 : chkF Go.Proofs.Try.prog Go.Proofs.Try.f42 qMathBitsLen64 = true := by kernel_rfl
theorem kSlicesSiftDownOrderedInt : chkF Go.Proofs.Try.prog Go.Proofs.Try.f43 qSlicesSiftDownOrderedInt = true := by kernel_rfl
theorem kSlicesNextPowerOfTwo : chkF Go.Proofs.Try.prog Go.Proofs.Try.f44 qSlicesNextPowerOfTwo = true := by kernel_rfl
theorem kSlicesXorshiftNext : chkF Go.Proofs.Try.prog Go.Proofs.Try.f45 qSlicesXorshiftNext = true := by kernel_rfl
theorem kSlicesMedianAdjacentOrderedInt : chkF Go.Proofs.Try.prog Go.Proofs.Try.f46 qSlicesMedianAdjacentOrderedInt = true := by kernel_rfl
theorem kSlicesMedianOrderedInt : chkF Go.Proofs.Try.prog Go.Proofs.Try.f47 qSlicesMedianOrderedInt = true := by kernel_rfl
theorem kSlicesOrder2OrderedInt : chkF Go.Proofs.Try.prog Go.Proofs.Try.f48 qSlicesOrder2OrderedInt = true := by kernel_rfl
theorem look_mem : ∀ {l : List (Nat × Md × AFn)} {f : Nat} {m : Md} {q : AFn}, look l f = some (m, q) → (f, m, q) ∈ l
  | [], f, m, q, h => by simp [look] at h
  | (j, m', q') :: r, f, m, q, h => by
    unfold look at h
    split at h
    · rename_i he; subst he; simp at h; obtain ⟨rfl, rfl⟩ := h; simp
    · exact List.mem_cons_of_mem _ (look_mem h)
def Good (p : Nat × Md × AFn) : Prop := ∃ fn, Go.Proofs.Try.prog.funcs[p.1]? = some fn ∧ chkF Go.Proofs.Try.prog fn p.2.2 = true
def All (G : Nat × Md × AFn → Prop) : List (Nat × Md × AFn) → Prop
  | [] => True
  | p :: r => G p ∧ All G r
theorem All.get {G : Nat × Md × AFn → Prop} : ∀ {l : List (Nat × Md × AFn)}, All G l → ∀ p ∈ l, G p
  | [], _, p, h => by simp at h
  | q :: r, h, p, hp => by
    rcases List.mem_cons.1 hp with e | e
    · subst e; exact h.1
    · exact All.get h.2 p e
theorem allGood : All Good fns := ⟨⟨_, Go.Proofs.Try.func3, kLaw02NodesetOrder⟩, ⟨_, Go.Proofs.Try.func4, kLaw02NodesetLaws⟩, ⟨_, Go.Proofs.Try.func5, kLaw02NodesetWithin⟩, ⟨_, Go.Proofs.Try.func6, kLaw02Awake⟩, ⟨_, Go.Proofs.Try.func7, kNodesetCmp⟩, ⟨_, Go.Proofs.Try.func8, kRef02Same⟩, ⟨_, Go.Proofs.Try.func9, kNodesetUnion⟩, ⟨_, Go.Proofs.Try.func10, kNodesetMeet⟩, ⟨_, Go.Proofs.Try.func11, kNodesetMinus⟩, ⟨_, Go.Proofs.Try.func12, kNodesetOf⟩, ⟨_, Go.Proofs.Try.func13, kNodesetWithin⟩, ⟨_, Go.Proofs.Try.func14, kNodesetHas⟩, ⟨_, Go.Proofs.Try.func15, kNodesetValid⟩, ⟨_, Go.Proofs.Try.func16, kNodesetRange⟩, ⟨_, Go.Proofs.Try.func17, kSlicesCompareIntInt⟩, ⟨_, Go.Proofs.Try.func18, kRef02Cmp⟩, ⟨_, Go.Proofs.Try.func19, kNodesetMergedInt⟩, ⟨_, Go.Proofs.Try.func20, kNodesetUnion1⟩, ⟨_, Go.Proofs.Try.func21, kNodesetMeet1⟩, ⟨_, Go.Proofs.Try.func22, kNodesetMinus1⟩, ⟨_, Go.Proofs.Try.func23, kSlicesContainsIntInt⟩, ⟨_, Go.Proofs.Try.func24, kCmpCompareInt⟩, ⟨_, Go.Proofs.Try.func25, kSlicesCloneIntInt⟩, ⟨_, Go.Proofs.Try.func26, kSlicesSortIntInt⟩, ⟨_, Go.Proofs.Try.func27, kSlicesCompactIntInt⟩, ⟨_, Go.Proofs.Try.func28, kSlicesIndexIntInt⟩, ⟨_, Go.Proofs.Try.func29, kCmpIsNaNInt⟩, ⟨_, Go.Proofs.Try.func30, kSlicesPdqsortOrderedInt⟩, ⟨_, Go.Proofs.Try.func31, kMathBitsLen⟩, ⟨_, Go.Proofs.Try.func32, kSlicesInsertionSortOrderedInt⟩, ⟨_, Go.Proofs.Try.func33, kSlicesHeapSortOrderedInt⟩, ⟨_, Go.Proofs.Try.func34, kSlicesBreakPatternsOrderedInt⟩, ⟨_, Go.Proofs.Try.func35, kSlicesChoosePivotOrderedInt⟩, ⟨_, Go.Proofs.Try.func36, kSlicesReverseRangeOrderedInt⟩, ⟨_, Go.Proofs.Try.func37, kSlicesPartialInsertionSortOrderedInt⟩, ⟨_, Go.Proofs.Try.func38, kCmpLessInt⟩, ⟨_, Go.Proofs.Try.func39, kSlicesPartitionEqualOrderedInt⟩, ⟨_, Go.Proofs.Try.func40, kSlicesPartitionOrderedInt⟩, ⟨_, Go.Proofs.Try.func41, kMathBitsLen32⟩, ⟨_, Go.Proofs.Try.func42, kMathBitsLen64⟩, ⟨_, Go.Proofs.Try.func43, kSlicesSiftDownOrderedInt⟩, ⟨_, Go.Proofs.Try.func44, kSlicesNextPowerOfTwo⟩, ⟨_, Go.Proofs.Try.func45, kSlicesXorshiftNext⟩, ⟨_, Go.Proofs.Try.func46, kSlicesMedianAdjacentOrderedInt⟩, ⟨_, Go.Proofs.Try.func47, kSlicesMedianOrderedInt⟩, ⟨_, Go.Proofs.Try.func48, kSlicesOrder2OrderedInt⟩, trivial⟩
theorem cfgOK : CfgOK Go.Proofs.Try.prog cfg := ⟨by kernel_rfl, fun f m q h => allGood.get _ (look_mem h)⟩
theorem orcOK : OrcOK Go.Proofs.Try.prog cfg := fun f g h => by cases h
theorem gLaw02NodesetOrder : cfg.fn nLaw02NodesetOrder = some (.P, qLaw02NodesetOrder) := rfl
theorem gLaw02NodesetLaws : cfg.fn nLaw02NodesetLaws = some (.P, qLaw02NodesetLaws) := rfl
theorem gLaw02NodesetWithin : cfg.fn nLaw02NodesetWithin = some (.P, qLaw02NodesetWithin) := rfl
theorem gLaw02Awake : cfg.fn nLaw02Awake = some (.P, qLaw02Awake) := rfl
theorem gNodesetCmp : cfg.fn nNodesetCmp = some (.P, qNodesetCmp) := rfl
theorem gRef02Same : cfg.fn nRef02Same = some (.P, qRef02Same) := rfl
theorem gNodesetUnion : cfg.fn nNodesetUnion = some (.P, qNodesetUnion) := rfl
theorem gNodesetMeet : cfg.fn nNodesetMeet = some (.P, qNodesetMeet) := rfl
theorem gNodesetMinus : cfg.fn nNodesetMinus = some (.P, qNodesetMinus) := rfl
theorem gNodesetOf : cfg.fn nNodesetOf = some (.P, qNodesetOf) := rfl
theorem gNodesetWithin : cfg.fn nNodesetWithin = some (.P, qNodesetWithin) := rfl
theorem gNodesetHas : cfg.fn nNodesetHas = some (.P, qNodesetHas) := rfl
theorem gNodesetValid : cfg.fn nNodesetValid = some (.P, qNodesetValid) := rfl
theorem gNodesetRange : cfg.fn nNodesetRange = some (.P, qNodesetRange) := rfl
theorem gSlicesCompareIntInt : cfg.fn nSlicesCompareIntInt = some (.P, qSlicesCompareIntInt) := rfl
theorem gRef02Cmp : cfg.fn nRef02Cmp = some (.P, qRef02Cmp) := rfl
theorem gNodesetMergedInt : cfg.fn nNodesetMergedInt = some (.P, qNodesetMergedInt) := rfl
theorem gNodesetUnion1 : cfg.fn nNodesetUnion1 = some (.P, qNodesetUnion1) := rfl
theorem gNodesetMeet1 : cfg.fn nNodesetMeet1 = some (.P, qNodesetMeet1) := rfl
theorem gNodesetMinus1 : cfg.fn nNodesetMinus1 = some (.P, qNodesetMinus1) := rfl
theorem gSlicesContainsIntInt : cfg.fn nSlicesContainsIntInt = some (.P, qSlicesContainsIntInt) := rfl
theorem gCmpCompareInt : cfg.fn nCmpCompareInt = some (.P, qCmpCompareInt) := rfl
theorem gSlicesCloneIntInt : cfg.fn nSlicesCloneIntInt = some (.K, qSlicesCloneIntInt) := rfl
theorem gSlicesSortIntInt : cfg.fn nSlicesSortIntInt = some (.K, qSlicesSortIntInt) := rfl
theorem gSlicesCompactIntInt : cfg.fn nSlicesCompactIntInt = some (.K, qSlicesCompactIntInt) := rfl
theorem gSlicesIndexIntInt : cfg.fn nSlicesIndexIntInt = some (.P, qSlicesIndexIntInt) := rfl
theorem gCmpIsNaNInt : cfg.fn nCmpIsNaNInt = some (.P, qCmpIsNaNInt) := rfl
theorem gSlicesPdqsortOrderedInt : cfg.fn nSlicesPdqsortOrderedInt = some (.K, qSlicesPdqsortOrderedInt) := rfl
theorem gMathBitsLen : cfg.fn nMathBitsLen = some (.P, qMathBitsLen) := rfl
theorem gSlicesInsertionSortOrderedInt : cfg.fn nSlicesInsertionSortOrderedInt = some (.K, qSlicesInsertionSortOrderedInt) := rfl
theorem gSlicesHeapSortOrderedInt : cfg.fn nSlicesHeapSortOrderedInt = some (.K, qSlicesHeapSortOrderedInt) := rfl
theorem gSlicesBreakPatternsOrderedInt : cfg.fn nSlicesBreakPatternsOrderedInt = some (.K, qSlicesBreakPatternsOrderedInt) := rfl
theorem gSlicesChoosePivotOrderedInt : cfg.fn nSlicesChoosePivotOrderedInt = some (.K, qSlicesChoosePivotOrderedInt) := rfl
theorem gSlicesReverseRangeOrderedInt : cfg.fn nSlicesReverseRangeOrderedInt = some (.K, qSlicesReverseRangeOrderedInt) := rfl
theorem gSlicesPartialInsertionSortOrderedInt : cfg.fn nSlicesPartialInsertionSortOrderedInt = some (.K, qSlicesPartialInsertionSortOrderedInt) := rfl
theorem gCmpLessInt : cfg.fn nCmpLessInt = some (.P, qCmpLessInt) := rfl
theorem gSlicesPartitionEqualOrderedInt : cfg.fn nSlicesPartitionEqualOrderedInt = some (.K, qSlicesPartitionEqualOrderedInt) := rfl
theorem gSlicesPartitionOrderedInt : cfg.fn nSlicesPartitionOrderedInt = some (.K, qSlicesPartitionOrderedInt) := rfl
theorem gMathBitsLen32 : cfg.fn nMathBitsLen32 = some (.P, qMathBitsLen32) := rfl
theorem gMathBitsLen64 : cfg.fn nMathBitsLen64 = some (.P, qMathBitsLen64) := rfl
theorem gSlicesSiftDownOrderedInt : cfg.fn nSlicesSiftDownOrderedInt = some (.K, qSlicesSiftDownOrderedInt) := rfl
theorem gSlicesNextPowerOfTwo : cfg.fn nSlicesNextPowerOfTwo = some (.K, qSlicesNextPowerOfTwo) := rfl
theorem gSlicesXorshiftNext : cfg.fn nSlicesXorshiftNext = some (.K, qSlicesXorshiftNext) := rfl
theorem gSlicesMedianAdjacentOrderedInt : cfg.fn nSlicesMedianAdjacentOrderedInt = some (.K, qSlicesMedianAdjacentOrderedInt) := rfl
theorem gSlicesMedianOrderedInt : cfg.fn nSlicesMedianOrderedInt = some (.K, qSlicesMedianOrderedInt) := rfl
theorem gSlicesOrder2OrderedInt : cfg.fn nSlicesOrder2OrderedInt = some (.K, qSlicesOrder2OrderedInt) := rfl
end Go.AmP
