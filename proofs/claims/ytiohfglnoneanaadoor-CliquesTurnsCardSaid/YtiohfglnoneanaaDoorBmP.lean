/- The compact code of the functions, printed by program off the translation. -/
import Derived.Test.YtiohfglnoneanaaDoorChecked
import Derived.Test.YtiohfglnoneanaaDoorBmA
import Derived.KernelRfl
set_option maxRecDepth 100000
namespace Go.BmP
open Go.Am Go.Bm
def nLaw24CliquesTurns : Nat := 3
def nLaw24CliquesNames : Nat := 4
def nLaw24CliquesGoes : Nat := 5
def nLaw24CliquesAnswers : Nat := 6
def nLaw24CliquesParts : Nat := 7
def nLaw24CliquesEdges : Nat := 8
def nLaw24CliquesCover : Nat := 9
def nCliquesAll : Nat := 10
def nLaw24Awake : Nat := 11
def nMakeFew : Nat := 12
def nMakeNew : Nat := 13
def nMakeGraph : Nat := 14
def nMakeOrder : Nat := 15
def nFieldRenamed : Nat := 16
def nRef02Cmp : Nat := 17
def nRef02Of : Nat := 18
def nCliquesNext : Nat := 19
def nCliquesCheck : Nat := 20
def nMakeDeckNext : Nat := 21
def nMakeLight : Nat := 22
def nMakeSpoilt : Nat := 23
def nMakeSet : Nat := 24
def nCliquesExtend : Nat := 25
def nRef24Extend : Nat := 26
def nRef24Next : Nat := 27
def nCliquesIs : Nat := 28
def nRef24Is : Nat := 29
def nCliquesMaximal : Nat := 30
def nRef24Maximal : Nat := 31
def nRef24All : Nat := 32
def nRef24Same : Nat := 33
def nRef24Check : Nat := 34
def nGraphInduced : Nat := 35
def nRef02Within : Nat := 36
def nRef02Minus : Nat := 37
def nRef02Union : Nat := 38
def nGraphAdd : Nat := 39
def nRef02Has : Nat := 40
def nGraphOf : Nat := 41
def nRef03Same : Nat := 42
def nRef02Range : Nat := 43
def nGraphCheck : Nat := 44
def nCliquesEach : Nat := 45
def nCliquesAll1 : Nat := 46
def nRef03Of : Nat := 47
def nRef02Put : Nat := 48
def nCliquesNext1 : Nat := 49
def nCliquesCheck1 : Nat := 50
def nSlicesEqualIntInt : Nat := 51
def nMakeMod : Nat := 52
def nCliquesMasks : Nat := 53
def nSlicesCloneIntInt : Nat := 54
def nCliquesCommon : Nat := 55
def nMathBitsTrailingZeros64 : Nat := 56
def nSlicesSortIntInt : Nat := 57
def nRef03Check : Nat := 58
def nRef24Fits : Nat := 59
def nRef24List : Nat := 60
def nNodesetValid : Nat := 61
def nCliquesClique : Nat := 62
def nRef02Valid : Nat := 63
def nRef03Find : Nat := 64
def nGraphWithin : Nat := 65
def nGraphChange : Nat := 66
def nGraphPlace : Nat := 67
def nSlicesInsertApiEdgeApiEdge : Nat := 68
def nSlicesCloneApiEdgeApiEdge : Nat := 69
def nGraphEdge : Nat := 70
def nGraphEnds : Nat := 71
def nSlicesSortFuncApiEdgeApiEdge : Nat := 72
def nGraphOrder : Nat := 73
def nSlicesCompactApiEdgeApiEdge : Nat := 74
def nRef03SameEdges : Nat := 75
def nCliquesEach1 : Nat := 76
def nCliquesAllN77 : Nat := 77
def nRef03Ends : Nat := 78
def nRef03With : Nat := 79
def nRef03Edge : Nat := 80
def nRef03Before : Nat := 83
def nRef24Grow : Nat := 84
def nMasksOf : Nat := 85
def nMasksBit : Nat := 86
def nSlicesBinarySearchFuncApiEdgeApiEdgeApiEdge : Nat := 87
def nCmpOrInt : Nat := 91
def nCmpCompareInt : Nat := 92
def nCmpIsNaNInt : Nat := 113
/- cohesion/cohesionlaw24.CliquesTurns -/
def rLaw24CliquesTurnsX0 : List O := [
  ⟨(some 2), none, .mv (.k (.bool false))⟩]
def rLaw24CliquesTurnsX1 : List O := [
  ⟨(some 14), none, .mv (.t 0)⟩,
  ⟨(some 15), none, .bin .rem (.t 14) (.k (.int .u8 6))⟩,
  ⟨(some 16), none, .cvt .i64 (.t 15)⟩,
  ⟨(some 3), none, .mv (.t 16)⟩]
def rLaw24CliquesTurnsX2 : List O := [
  ⟨(some 17), none, .mv (.t 3)⟩,
  ⟨(some 18), none, .bin .mul (.k (.int .i64 2)) (.t 17)⟩,
  ⟨(some 19), none, .build [(.int .i64 0), (.own 2 [])] [(0, 1, (.t 18))]⟩,
  ⟨(some 4), none, .new [(.int .i64 0), (.own 2 [])]⟩,
  ⟨none, none, .st 2 (.t 4) (.t 19)⟩]
def rLaw24CliquesTurnsX3 : List O := [
  ⟨(some 5), none, .mv (.k (.int .i64 0))⟩]
def rLaw24CliquesTurnsX4 : List O := [
  ⟨(some 20), none, .mv (.t 5)⟩,
  ⟨(some 21), none, .mv (.t 3)⟩,
  ⟨(some 22), none, .bin .mul (.k (.int .i64 2)) (.t 21)⟩,
  ⟨(some 23), none, .bin .lss (.t 20) (.t 22)⟩]
def rLaw24CliquesTurnsX5 : List O := [
  ⟨(some 26), none, .mv (.t 5)⟩,
  ⟨(some 27), none, .bin .add (.t 26) (.k (.int .i64 1))⟩,
  ⟨(some 6), none, .mv (.t 27)⟩]
def rLaw24CliquesTurnsX6 : List O := [
  ⟨(some 28), none, .mv (.t 6)⟩,
  ⟨(some 29), none, .mv (.t 3)⟩,
  ⟨(some 30), none, .bin .mul (.k (.int .i64 2)) (.t 29)⟩,
  ⟨(some 31), none, .bin .lss (.t 28) (.t 30)⟩]
def rLaw24CliquesTurnsX7 : List O := [
  ⟨(some 34), none, .mv (.t 6)⟩,
  ⟨(some 35), none, .mv (.t 5)⟩,
  ⟨(some 36), none, .bin .add (.t 35) (.k (.int .i64 1))⟩,
  ⟨(some 37), none, .bin .neq (.t 34) (.t 36)⟩,
  ⟨(some 38), none, .mv (.t 37)⟩,
  ⟨(some 39), (some (38, false)), .mv (.t 5)⟩,
  ⟨(some 40), (some (38, false)), .bin .rem (.t 39) (.k (.int .i64 2))⟩,
  ⟨(some 41), (some (38, false)), .bin .eql (.t 40) (.k (.int .i64 1))⟩,
  ⟨(some 42), none, .pick (.t 38) (.k (.bool true)) (.t 41)⟩]
def rLaw24CliquesTurnsX8 : List O := [
  ⟨(some 43), none, .fad 1 (.t 4)⟩,
  ⟨(some 44), none, .ld none (.t 43)⟩,
  ⟨(some 45), none, .mv (.t 5)⟩,
  ⟨(some 46), none, .mv (.t 6)⟩,
  ⟨(some 47), none, .build [(.int .i64 0), (.int .i64 0)] [(0, 1, (.t 45)), (1, 1, (.t 46))]⟩,
  ⟨(some 48), none, .bslice 2 1 [(.int .i64 0), (.int .i64 0)] [(0, 2, (.t 47))]⟩,
  ⟨(some 49), none, .app 2 (.t 44) (.t 48)⟩,
  ⟨(some 50), none, .fad 1 (.t 4)⟩,
  ⟨none, none, .st 1 (.t 50) (.t 49)⟩]
def rLaw24CliquesTurnsX9 : List O := [
  ⟨(some 32), none, .mv (.t 6)⟩,
  ⟨(some 33), none, .bin .add (.t 32) (.k (.int .i64 1))⟩,
  ⟨(some 6), none, .mv (.t 33)⟩]
def lLaw24CliquesTurnsX0 : C := (.seq (.seq (.reg rLaw24CliquesTurnsX6 false [] [3, 4, 5, 6, 31]) (.cond (.t 31) .skip (.exit 2))) (.seq (.blk 3 (.seq (.reg rLaw24CliquesTurnsX7 false [] [3, 4, 5, 6, 42]) (.cond (.t 42) (.reg rLaw24CliquesTurnsX8 false [] [3, 4, 5, 6]) .skip))) (.reg rLaw24CliquesTurnsX9 false [] [3, 4, 5, 6])))
def rLaw24CliquesTurnsX10 : List O := [
  ⟨(some 24), none, .mv (.t 5)⟩,
  ⟨(some 25), none, .bin .add (.t 24) (.k (.int .i64 1))⟩,
  ⟨(some 5), none, .mv (.t 25)⟩]
def lLaw24CliquesTurnsX1 : C := (.seq (.seq (.reg rLaw24CliquesTurnsX4 false [] [3, 4, 5, 23]) (.cond (.t 23) .skip (.exit 0))) (.seq (.blk 1 (.seq (.reg rLaw24CliquesTurnsX5 false [] [3, 4, 5, 6]) (.blk 2 (.loop lLaw24CliquesTurnsX0)))) (.reg rLaw24CliquesTurnsX10 false [] [3, 4, 5])))
def rLaw24CliquesTurnsX11 : List O := [
  ⟨(some 51), none, .mv (.t 3)⟩,
  ⟨(some 52), none, .cvt .u64 (.t 51)⟩,
  ⟨(some 53), none, .bin .shl (.k (.int .i64 1)) (.t 52)⟩,
  ⟨(some 7), none, .mv (.t 53)⟩]
def rLaw24CliquesTurnsX12 : List O := [
  ⟨(some 54), none, .mv (.t 3)⟩,
  ⟨(some 55), none, .bin .eql (.t 54) (.k (.int .i64 0))⟩]
def rLaw24CliquesTurnsX13 : List O := [
  ⟨(some 7), none, .mv (.k (.int .i64 0))⟩]
def rLaw24CliquesTurnsX14 : List O := [
  ⟨(some 57), none, .ld (some 2) (.t 4)⟩,
  ⟨(some 58), none, .mv (.t 7)⟩,
  ⟨(some 59), none, .call nCliquesAll [(.t 57), (.t 58)]⟩,
  ⟨(some 56), none, .mv (.t 59)⟩,
  ⟨(some 60), none, .ext 0 (.t 56)⟩,
  ⟨(some 61), none, .ext 1 (.t 56)⟩,
  ⟨(some 8), none, .mv (.t 60)⟩,
  ⟨(some 9), none, .mv (.t 61)⟩]
def rLaw24CliquesTurnsX15 : List O := [
  ⟨(some 63), none, .ld (some 2) (.t 4)⟩,
  ⟨(some 64), none, .mv (.t 7)⟩,
  ⟨(some 65), none, .bin .sub (.t 64) (.k (.int .i64 1))⟩,
  ⟨(some 66), none, .call nCliquesAll [(.t 63), (.t 65)]⟩,
  ⟨(some 62), none, .mv (.t 66)⟩,
  ⟨(some 67), none, .ext 0 (.t 62)⟩,
  ⟨(some 68), none, .ext 1 (.t 62)⟩,
  ⟨(some 10), none, .mv (.t 67)⟩,
  ⟨(some 11), none, .mv (.t 68)⟩]
def rLaw24CliquesTurnsX16 : List O := [
  ⟨(some 69), none, .mv (.t 8)⟩,
  ⟨(some 70), none, .len (.t 69)⟩,
  ⟨(some 71), none, .mv (.k (.int .i64 0))⟩]
def rLaw24CliquesTurnsX17 : List O := [
  ⟨(some 72), none, .bin .lss (.t 71) (.t 70)⟩]
def rLaw24CliquesTurnsX18 : List O := [
  ⟨(some 73), none, .ixa 1 (.t 69) (.t 71)⟩,
  ⟨(some 74), none, .ld none (.t 73)⟩,
  ⟨(some 13), none, .mv (.t 74)⟩]
def rLaw24CliquesTurnsX19 : List O := [
  ⟨(some 75), none, .mv (.t 13)⟩,
  ⟨(some 76), none, .len (.t 75)⟩,
  ⟨(some 77), none, .mv (.t 3)⟩,
  ⟨(some 78), none, .bin .neq (.t 76) (.t 77)⟩]
def rLaw24CliquesTurnsX20 : List O := [
  ⟨(some 2), none, .mv (.k (.bool false))⟩]
def rLaw24CliquesTurnsX21 : List O := [
  ⟨(some 79), none, .bin .add (.t 71) (.k (.int .i64 1))⟩,
  ⟨(some 71), none, .mv (.t 79)⟩]
def lLaw24CliquesTurnsX2 : C := (.seq (.reg rLaw24CliquesTurnsX17 false [] [3, 7, 8, 9, 11, 69, 70, 71, 72]) (.seq (.cond (.t 72) .skip (.exit 4)) (.seq (.blk 5 (.seq (.reg rLaw24CliquesTurnsX18 false [] [3, 7, 8, 9, 11, 13, 69, 70, 71]) (.seq (.reg rLaw24CliquesTurnsX19 false [] [3, 7, 8, 9, 11, 69, 70, 71, 78]) (.cond (.t 78) (.seq (.reg rLaw24CliquesTurnsX20 false [] [2]) .ret) .skip)))) (.reg rLaw24CliquesTurnsX21 false [] [3, 7, 8, 9, 11, 69, 70, 71]))))
def rLaw24CliquesTurnsX22 : List O := [
  ⟨(some 80), none, .mv (.t 9)⟩,
  ⟨(some 81), none, .bin .eql (.t 80) (.k (.int .i64 0))⟩,
  ⟨(some 82), none, .mv (.t 81)⟩,
  ⟨(some 83), (some (82, true)), .mv (.t 8)⟩,
  ⟨(some 84), (some (82, true)), .len (.t 83)⟩,
  ⟨(some 85), (some (82, true)), .mv (.t 7)⟩,
  ⟨(some 86), (some (82, true)), .bin .eql (.t 84) (.t 85)⟩,
  ⟨(some 87), none, .pick (.t 82) (.t 86) (.k (.bool false))⟩,
  ⟨(some 88), none, .mv (.t 87)⟩,
  ⟨(some 89), (some (88, true)), .mv (.t 7)⟩,
  ⟨(some 90), (some (88, true)), .bin .eql (.t 89) (.k (.int .i64 0))⟩,
  ⟨(some 91), (some (88, true)), .mv (.t 90)⟩,
  ⟨(some 92), (some (91, true)), .mv (.t 11)⟩,
  ⟨(some 93), (some (91, true)), .bin .eql (.t 92) (.k (.int .i64 1))⟩,
  ⟨(some 94), (some (88, true)), .pick (.t 91) (.t 93) (.k (.bool false))⟩,
  ⟨(some 95), (some (88, true)), .mv (.t 94)⟩,
  ⟨(some 96), (some (95, false)), .mv (.t 11)⟩,
  ⟨(some 97), (some (95, false)), .bin .eql (.t 96) (.k (.int .i64 3))⟩,
  ⟨(some 98), (some (88, true)), .pick (.t 95) (.k (.bool true)) (.t 97)⟩,
  ⟨(some 99), none, .pick (.t 88) (.t 98) (.k (.bool false))⟩,
  ⟨(some 100), none, .mv (.t 99)⟩,
  ⟨(some 101), (some (100, true)), .call nLaw24Awake []⟩,
  ⟨(some 102), none, .pick (.t 100) (.t 101) (.k (.bool false))⟩,
  ⟨(some 2), none, .mv (.t 102)⟩]
def cLaw24CliquesTurns : C := (.seq (.reg rLaw24CliquesTurnsX0 false [] [0]) (.seq (.reg rLaw24CliquesTurnsX1 false [] [3]) (.seq (.reg rLaw24CliquesTurnsX2 false [] [3, 4]) (.seq (.seq (.reg rLaw24CliquesTurnsX3 false [] [3, 4, 5]) (.blk 0 (.loop lLaw24CliquesTurnsX1))) (.seq (.reg rLaw24CliquesTurnsX11 false [] [3, 4, 7]) (.seq (.seq (.reg rLaw24CliquesTurnsX12 false [] [3, 4, 7, 55]) (.cond (.t 55) (.reg rLaw24CliquesTurnsX13 false [] [3, 4, 7]) .skip)) (.seq (.reg rLaw24CliquesTurnsX14 false [] [3, 4, 7, 8, 9]) (.seq (.reg rLaw24CliquesTurnsX15 false [] [3, 7, 8, 9, 11]) (.seq (.seq (.reg rLaw24CliquesTurnsX16 false [] [3, 7, 8, 9, 11, 69, 70, 71]) (.blk 4 (.loop lLaw24CliquesTurnsX2))) (.seq (.reg rLaw24CliquesTurnsX22 false [] [2]) .ret))))))))))
def qLaw24CliquesTurns : AFn := ⟨103, 1, [.t 2], cLaw24CliquesTurns⟩
/- cohesion/cohesionlaw24.CliquesNames -/
def rLaw24CliquesNamesX0 : List O := [
  ⟨(some 2), none, .mv (.k (.bool false))⟩]
def rLaw24CliquesNamesX1 : List O := [
  ⟨(some 18), none, .mv (.t 0)⟩,
  ⟨(some 19), none, .call nMakeFew [(.t 18)]⟩,
  ⟨(some 20), none, .un .not (.t 19)⟩]
def rLaw24CliquesNamesX2 : List O := [
  ⟨(some 21), none, .call nLaw24Awake []⟩,
  ⟨(some 2), none, .mv (.t 21)⟩]
def rLaw24CliquesNamesX3 : List O := [
  ⟨(some 22), none, .mv (.t 0)⟩,
  ⟨(some 23), none, .call nMakeNew [(.t 22)]⟩,
  ⟨(some 3), none, .mv (.t 23)⟩]
def rLaw24CliquesNamesX4 : List O := [
  ⟨(some 24), none, .mv (.t 3)⟩,
  ⟨(some 25), none, .call nMakeGraph [(.t 24), (.k (.int .i64 8))]⟩,
  ⟨(some 4), none, .new [(.int .i64 0), (.own 2 [])]⟩,
  ⟨none, none, .st 2 (.t 4) (.t 25)⟩]
def rLaw24CliquesNamesX5 : List O := [
  ⟨(some 26), none, .mv (.t 3)⟩,
  ⟨(some 27), none, .fad 0 (.t 4)⟩,
  ⟨(some 28), none, .ld none (.t 27)⟩,
  ⟨(some 29), none, .call nMakeOrder [(.t 26), (.t 28)]⟩,
  ⟨(some 5), none, .mv (.t 29)⟩]
def rLaw24CliquesNamesX6 : List O := [
  ⟨(some 31), none, .ld (some 2) (.t 4)⟩,
  ⟨(some 32), none, .call nCliquesAll [(.t 31), (.k (.int .i64 4096))]⟩,
  ⟨(some 30), none, .mv (.t 32)⟩,
  ⟨(some 33), none, .ext 0 (.t 30)⟩,
  ⟨(some 34), none, .ext 1 (.t 30)⟩,
  ⟨(some 6), none, .mv (.t 33)⟩,
  ⟨(some 7), none, .mv (.t 34)⟩]
def rLaw24CliquesNamesX7 : List O := [
  ⟨(some 36), none, .ld (some 2) (.t 4)⟩,
  ⟨(some 37), none, .mv (.t 5)⟩,
  ⟨(some 38), none, .call nFieldRenamed [(.t 36), (.t 37)]⟩,
  ⟨(some 39), none, .call nCliquesAll [(.t 38), (.k (.int .i64 4096))]⟩,
  ⟨(some 35), none, .mv (.t 39)⟩,
  ⟨(some 40), none, .ext 0 (.t 35)⟩,
  ⟨(some 41), none, .ext 1 (.t 35)⟩,
  ⟨(some 8), none, .mv (.t 40)⟩,
  ⟨(some 9), none, .mv (.t 41)⟩]
def rLaw24CliquesNamesX8 : List O := [
  ⟨(some 42), none, .mv (.t 7)⟩,
  ⟨(some 43), none, .bin .neq (.t 42) (.k (.int .i64 0))⟩,
  ⟨(some 44), none, .mv (.t 43)⟩,
  ⟨(some 45), (some (44, false)), .mv (.t 9)⟩,
  ⟨(some 46), (some (44, false)), .bin .neq (.t 45) (.k (.int .i64 0))⟩,
  ⟨(some 47), none, .pick (.t 44) (.k (.bool true)) (.t 46)⟩,
  ⟨(some 48), none, .mv (.t 47)⟩,
  ⟨(some 49), (some (48, false)), .mv (.t 6)⟩,
  ⟨(some 50), (some (48, false)), .len (.t 49)⟩,
  ⟨(some 51), (some (48, false)), .mv (.t 8)⟩,
  ⟨(some 52), (some (48, false)), .len (.t 51)⟩,
  ⟨(some 53), (some (48, false)), .bin .neq (.t 50) (.t 52)⟩,
  ⟨(some 54), none, .pick (.t 48) (.k (.bool true)) (.t 53)⟩]
def rLaw24CliquesNamesX9 : List O := [
  ⟨(some 2), none, .mv (.k (.bool false))⟩]
def rLaw24CliquesNamesX10 : List O := [
  ⟨(some 55), none, .mv (.t 6)⟩,
  ⟨(some 56), none, .len (.t 55)⟩,
  ⟨(some 57), none, .mv (.k (.int .i64 0))⟩]
def rLaw24CliquesNamesX11 : List O := [
  ⟨(some 58), none, .bin .lss (.t 57) (.t 56)⟩]
def rLaw24CliquesNamesX12 : List O := [
  ⟨(some 59), none, .ixa 1 (.t 55) (.t 57)⟩,
  ⟨(some 60), none, .ld none (.t 59)⟩,
  ⟨(some 11), none, .mv (.t 60)⟩]
def rLaw24CliquesNamesX13 : List O := [
  ⟨(some 12), none, .mv (.k (.own 1 []))⟩]
def rLaw24CliquesNamesX14 : List O := [
  ⟨(some 61), none, .mv (.t 11)⟩,
  ⟨(some 62), none, .len (.t 61)⟩,
  ⟨(some 63), none, .mv (.k (.int .i64 0))⟩]
def rLaw24CliquesNamesX15 : List O := [
  ⟨(some 64), none, .bin .lss (.t 63) (.t 62)⟩]
def rLaw24CliquesNamesX16 : List O := [
  ⟨(some 65), none, .ixa 1 (.t 61) (.t 63)⟩,
  ⟨(some 66), none, .ld none (.t 65)⟩,
  ⟨(some 14), none, .mv (.t 66)⟩]
def rLaw24CliquesNamesX17 : List O := [
  ⟨(some 67), none, .mv (.t 14)⟩,
  ⟨(some 68), none, .bin .lss (.t 67) (.k (.int .i64 0))⟩,
  ⟨(some 69), none, .mv (.t 68)⟩,
  ⟨(some 70), (some (69, false)), .mv (.t 14)⟩,
  ⟨(some 71), (some (69, false)), .mv (.t 5)⟩,
  ⟨(some 72), (some (69, false)), .len (.t 71)⟩,
  ⟨(some 73), (some (69, false)), .bin .geq (.t 70) (.t 72)⟩,
  ⟨(some 74), none, .pick (.t 69) (.k (.bool true)) (.t 73)⟩]
def rLaw24CliquesNamesX18 : List O := [
  ⟨(some 2), none, .mv (.k (.bool false))⟩]
def rLaw24CliquesNamesX19 : List O := [
  ⟨(some 75), none, .mv (.t 12)⟩,
  ⟨(some 76), none, .mv (.t 5)⟩,
  ⟨(some 77), none, .mv (.t 14)⟩,
  ⟨(some 78), none, .ixa 1 (.t 76) (.t 77)⟩,
  ⟨(some 79), none, .ld none (.t 78)⟩,
  ⟨(some 80), none, .bslice 1 1 [(.int .i64 0)] [(0, 1, (.t 79))]⟩,
  ⟨(some 81), none, .app 1 (.t 75) (.t 80)⟩,
  ⟨(some 12), none, .mv (.t 81)⟩]
def rLaw24CliquesNamesX20 : List O := [
  ⟨(some 82), none, .bin .add (.t 63) (.k (.int .i64 1))⟩,
  ⟨(some 63), none, .mv (.t 82)⟩]
def lLaw24CliquesNamesX0 : C := (.seq (.reg rLaw24CliquesNamesX15 false [] [5, 8, 12, 55, 56, 57, 61, 62, 63, 64]) (.seq (.cond (.t 64) .skip (.exit 2)) (.seq (.blk 3 (.seq (.reg rLaw24CliquesNamesX16 false [] [5, 8, 12, 14, 55, 56, 57, 61, 62, 63]) (.seq (.seq (.reg rLaw24CliquesNamesX17 false [] [5, 8, 12, 14, 55, 56, 57, 61, 62, 63, 74]) (.cond (.t 74) (.seq (.reg rLaw24CliquesNamesX18 false [] [2]) .ret) .skip)) (.reg rLaw24CliquesNamesX19 false [] [5, 8, 12, 55, 56, 57, 61, 62, 63])))) (.reg rLaw24CliquesNamesX20 false [] [5, 8, 12, 55, 56, 57, 61, 62, 63]))))
def rLaw24CliquesNamesX21 : List O := [
  ⟨(some 15), none, .mv (.k (.bool false))⟩]
def rLaw24CliquesNamesX22 : List O := [
  ⟨(some 83), none, .mv (.t 8)⟩,
  ⟨(some 84), none, .len (.t 83)⟩,
  ⟨(some 85), none, .mv (.k (.int .i64 0))⟩]
def rLaw24CliquesNamesX23 : List O := [
  ⟨(some 86), none, .bin .lss (.t 85) (.t 84)⟩]
def rLaw24CliquesNamesX24 : List O := [
  ⟨(some 87), none, .ixa 1 (.t 83) (.t 85)⟩,
  ⟨(some 88), none, .ld none (.t 87)⟩,
  ⟨(some 17), none, .mv (.t 88)⟩]
def rLaw24CliquesNamesX25 : List O := [
  ⟨(some 89), none, .mv (.t 15)⟩,
  ⟨(some 90), none, .mv (.t 89)⟩,
  ⟨(some 91), (some (90, false)), .mv (.t 12)⟩,
  ⟨(some 92), (some (90, false)), .call nRef02Of [(.t 91)]⟩,
  ⟨(some 93), (some (90, false)), .mv (.t 17)⟩,
  ⟨(some 94), (some (90, false)), .call nRef02Cmp [(.t 92), (.t 93)]⟩,
  ⟨(some 95), (some (90, false)), .bin .eql (.t 94) (.k (.int .i64 0))⟩,
  ⟨(some 96), none, .pick (.t 90) (.k (.bool true)) (.t 95)⟩,
  ⟨(some 15), none, .mv (.t 96)⟩]
def rLaw24CliquesNamesX26 : List O := [
  ⟨(some 97), none, .bin .add (.t 85) (.k (.int .i64 1))⟩,
  ⟨(some 85), none, .mv (.t 97)⟩]
def lLaw24CliquesNamesX1 : C := (.seq (.reg rLaw24CliquesNamesX23 false [] [5, 8, 12, 15, 55, 56, 57, 83, 84, 85, 86]) (.seq (.cond (.t 86) .skip (.exit 4)) (.seq (.blk 5 (.seq (.reg rLaw24CliquesNamesX24 false [] [5, 8, 12, 15, 17, 55, 56, 57, 83, 84, 85]) (.reg rLaw24CliquesNamesX25 false [] [5, 8, 12, 15, 55, 56, 57, 83, 84, 85]))) (.reg rLaw24CliquesNamesX26 false [] [5, 8, 12, 15, 55, 56, 57, 83, 84, 85]))))
def rLaw24CliquesNamesX27 : List O := [
  ⟨(some 98), none, .mv (.t 15)⟩,
  ⟨(some 99), none, .un .not (.t 98)⟩]
def rLaw24CliquesNamesX28 : List O := [
  ⟨(some 2), none, .mv (.k (.bool false))⟩]
def rLaw24CliquesNamesX29 : List O := [
  ⟨(some 100), none, .bin .add (.t 57) (.k (.int .i64 1))⟩,
  ⟨(some 57), none, .mv (.t 100)⟩]
def lLaw24CliquesNamesX2 : C := (.seq (.reg rLaw24CliquesNamesX11 false [] [5, 8, 55, 56, 57, 58]) (.seq (.cond (.t 58) .skip (.exit 0)) (.seq (.blk 1 (.seq (.reg rLaw24CliquesNamesX12 false [] [5, 8, 11, 55, 56, 57]) (.seq (.reg rLaw24CliquesNamesX13 false [] [5, 8, 11, 12, 55, 56, 57]) (.seq (.seq (.reg rLaw24CliquesNamesX14 false [] [5, 8, 12, 55, 56, 57, 61, 62, 63]) (.blk 2 (.loop lLaw24CliquesNamesX0))) (.seq (.reg rLaw24CliquesNamesX21 false [] [5, 8, 12, 15, 55, 56, 57]) (.seq (.seq (.reg rLaw24CliquesNamesX22 false [] [5, 8, 12, 15, 55, 56, 57, 83, 84, 85]) (.blk 4 (.loop lLaw24CliquesNamesX1))) (.seq (.reg rLaw24CliquesNamesX27 false [] [5, 8, 55, 56, 57, 99]) (.cond (.t 99) (.seq (.reg rLaw24CliquesNamesX28 false [] [2]) .ret) .skip)))))))) (.reg rLaw24CliquesNamesX29 false [] [5, 8, 55, 56, 57]))))
def rLaw24CliquesNamesX30 : List O := [
  ⟨(some 101), none, .call nLaw24Awake []⟩,
  ⟨(some 2), none, .mv (.t 101)⟩]
def cLaw24CliquesNames : C := (.seq (.reg rLaw24CliquesNamesX0 false [] [0]) (.seq (.seq (.reg rLaw24CliquesNamesX1 false [] [0, 20]) (.cond (.t 20) (.seq (.reg rLaw24CliquesNamesX2 false [] [2]) .ret) .skip)) (.seq (.reg rLaw24CliquesNamesX3 false [] [3]) (.seq (.reg rLaw24CliquesNamesX4 false [] [3, 4]) (.seq (.reg rLaw24CliquesNamesX5 false [] [4, 5]) (.seq (.reg rLaw24CliquesNamesX6 false [] [4, 5, 6, 7]) (.seq (.reg rLaw24CliquesNamesX7 false [] [5, 6, 7, 8, 9]) (.seq (.seq (.reg rLaw24CliquesNamesX8 false [] [5, 6, 8, 54]) (.cond (.t 54) (.seq (.reg rLaw24CliquesNamesX9 false [] [2]) .ret) .skip)) (.seq (.seq (.reg rLaw24CliquesNamesX10 false [] [5, 8, 55, 56, 57]) (.blk 0 (.loop lLaw24CliquesNamesX2))) (.seq (.reg rLaw24CliquesNamesX30 false [] [2]) .ret))))))))))
def qLaw24CliquesNames : AFn := ⟨102, 1, [.t 2], cLaw24CliquesNames⟩
/- cohesion/cohesionlaw24.CliquesGoes -/
def rLaw24CliquesGoesX0 : List O := [
  ⟨(some 2), none, .mv (.k (.bool false))⟩]
def rLaw24CliquesGoesX1 : List O := [
  ⟨(some 17), none, .mv (.t 0)⟩,
  ⟨(some 18), none, .call nMakeFew [(.t 17)]⟩,
  ⟨(some 19), none, .un .not (.t 18)⟩]
def rLaw24CliquesGoesX2 : List O := [
  ⟨(some 20), none, .call nLaw24Awake []⟩,
  ⟨(some 2), none, .mv (.t 20)⟩]
def rLaw24CliquesGoesX3 : List O := [
  ⟨(some 21), none, .mv (.t 0)⟩,
  ⟨(some 22), none, .call nMakeNew [(.t 21)]⟩,
  ⟨(some 3), none, .mv (.t 22)⟩]
def rLaw24CliquesGoesX4 : List O := [
  ⟨(some 23), none, .mv (.t 3)⟩,
  ⟨(some 24), none, .call nMakeGraph [(.t 23), (.k (.int .i64 8))]⟩,
  ⟨(some 4), none, .new [(.int .i64 0), (.own 2 [])]⟩,
  ⟨none, none, .st 2 (.t 4) (.t 24)⟩]
def rLaw24CliquesGoesX5 : List O := [
  ⟨(some 26), none, .ld (some 2) (.t 4)⟩,
  ⟨(some 27), none, .call nCliquesAll [(.t 26), (.k (.int .i64 4096))]⟩,
  ⟨(some 25), none, .mv (.t 27)⟩,
  ⟨(some 28), none, .ext 0 (.t 25)⟩,
  ⟨(some 29), none, .ext 1 (.t 25)⟩,
  ⟨(some 5), none, .mv (.t 28)⟩,
  ⟨(some 6), none, .mv (.t 29)⟩]
def rLaw24CliquesGoesX6 : List O := [
  ⟨(some 7), none, .mv (.k (.own 1 []))⟩]
def rLaw24CliquesGoesX7 : List O := [
  ⟨(some 8), none, .mv (.k (.int .i64 0))⟩]
def rLaw24CliquesGoesX8 : List O := [
  ⟨(some 30), none, .mv (.t 8)⟩,
  ⟨(some 31), none, .mv (.t 5)⟩,
  ⟨(some 32), none, .len (.t 31)⟩,
  ⟨(some 33), none, .bin .leq (.t 30) (.t 32)⟩]
def rLaw24CliquesGoesX9 : List O := [
  ⟨(some 37), none, .ld (some 2) (.t 4)⟩,
  ⟨(some 38), none, .mv (.t 7)⟩,
  ⟨(some 39), none, .call nCliquesNext [(.t 37), (.t 38)]⟩,
  ⟨(some 36), none, .mv (.t 39)⟩,
  ⟨(some 40), none, .ext 0 (.t 36)⟩,
  ⟨(some 41), none, .ext 1 (.t 36)⟩,
  ⟨(some 42), none, .ext 2 (.t 36)⟩,
  ⟨(some 9), none, .mv (.t 40)⟩,
  ⟨(some 10), none, .mv (.t 41)⟩,
  ⟨(some 11), none, .mv (.t 42)⟩]
def rLaw24CliquesGoesX10 : List O := [
  ⟨(some 43), none, .mv (.t 11)⟩,
  ⟨(some 44), none, .bin .neq (.t 43) (.k (.int .i64 0))⟩,
  ⟨(some 45), none, .mv (.t 44)⟩,
  ⟨(some 46), (some (45, false)), .mv (.t 10)⟩,
  ⟨(some 47), (some (45, false)), .mv (.t 8)⟩,
  ⟨(some 48), (some (45, false)), .mv (.t 5)⟩,
  ⟨(some 49), (some (45, false)), .len (.t 48)⟩,
  ⟨(some 50), (some (45, false)), .bin .lss (.t 47) (.t 49)⟩,
  ⟨(some 51), (some (45, false)), .eq true .bool (.t 46) (.t 50)⟩,
  ⟨(some 52), none, .pick (.t 45) (.k (.bool true)) (.t 51)⟩,
  ⟨(some 53), none, .mv (.t 52)⟩,
  ⟨(some 54), (some (53, false)), .mv (.t 10)⟩,
  ⟨(some 55), (some (53, false)), .mv (.t 54)⟩,
  ⟨(some 56), (some (55, true)), .mv (.t 9)⟩,
  ⟨(some 57), (some (55, true)), .mv (.t 5)⟩,
  ⟨(some 58), (some (55, true)), .mv (.t 8)⟩,
  ⟨(some 59), (some (55, true)), .ixa 1 (.t 57) (.t 58)⟩,
  ⟨(some 60), (some (55, true)), .ld none (.t 59)⟩,
  ⟨(some 61), (some (55, true)), .call nRef02Cmp [(.t 56), (.t 60)]⟩,
  ⟨(some 62), (some (55, true)), .bin .neq (.t 61) (.k (.int .i64 0))⟩,
  ⟨(some 63), (some (53, false)), .pick (.t 55) (.t 62) (.k (.bool false))⟩,
  ⟨(some 64), none, .pick (.t 53) (.k (.bool true)) (.t 63)⟩]
def rLaw24CliquesGoesX11 : List O := [
  ⟨(some 2), none, .mv (.k (.bool false))⟩]
def rLaw24CliquesGoesX12 : List O := [
  ⟨(some 65), none, .mv (.t 9)⟩,
  ⟨(some 7), none, .mv (.t 65)⟩]
def rLaw24CliquesGoesX13 : List O := [
  ⟨(some 34), none, .mv (.t 8)⟩,
  ⟨(some 35), none, .bin .add (.t 34) (.k (.int .i64 1))⟩,
  ⟨(some 8), none, .mv (.t 35)⟩]
def lLaw24CliquesGoesX0 : C := (.seq (.seq (.reg rLaw24CliquesGoesX8 false [] [3, 4, 5, 6, 7, 8, 33]) (.cond (.t 33) .skip (.exit 0))) (.seq (.blk 1 (.seq (.reg rLaw24CliquesGoesX9 false [] [3, 4, 5, 6, 8, 9, 10, 11]) (.seq (.seq (.reg rLaw24CliquesGoesX10 false [] [3, 4, 5, 6, 8, 9, 64]) (.cond (.t 64) (.seq (.reg rLaw24CliquesGoesX11 false [] [2]) .ret) .skip)) (.reg rLaw24CliquesGoesX12 false [] [3, 4, 5, 6, 7, 8])))) (.reg rLaw24CliquesGoesX13 false [] [3, 4, 5, 6, 7, 8])))
def rLaw24CliquesGoesX14 : List O := [
  ⟨(some 66), none, .mv (.t 6)⟩,
  ⟨(some 67), none, .bin .neq (.t 66) (.k (.int .i64 0))⟩,
  ⟨(some 68), none, .mv (.t 67)⟩,
  ⟨(some 69), (some (68, false)), .ld (some 2) (.t 4)⟩,
  ⟨(some 70), (some (68, false)), .mv (.t 5)⟩,
  ⟨(some 71), (some (68, false)), .call nCliquesCheck [(.t 69), (.t 70)]⟩,
  ⟨(some 72), (some (68, false)), .un .not (.t 71)⟩,
  ⟨(some 73), none, .pick (.t 68) (.k (.bool true)) (.t 72)⟩]
def rLaw24CliquesGoesX15 : List O := [
  ⟨(some 2), none, .mv (.k (.bool false))⟩]
def rLaw24CliquesGoesX16 : List O := [
  ⟨(some 74), none, .mv (.t 5)⟩,
  ⟨(some 75), none, .len (.t 74)⟩,
  ⟨(some 12), none, .mv (.t 75)⟩]
def rLaw24CliquesGoesX17 : List O := [
  ⟨(some 76), none, .mv (.t 12)⟩,
  ⟨(some 77), none, .bin .gtr (.t 76) (.k (.int .i64 0))⟩]
def rLaw24CliquesGoesX18 : List O := [
  ⟨(some 78), none, .mv (.t 3)⟩,
  ⟨(some 79), none, .mv (.t 12)⟩,
  ⟨(some 80), none, .call nMakeDeckNext [(.t 78), (.t 79)]⟩,
  ⟨(some 13), none, .mv (.t 80)⟩]
def rLaw24CliquesGoesX19 : List O := [
  ⟨(some 81), none, .mv (.t 5)⟩,
  ⟨(some 82), none, .mv (.t 13)⟩,
  ⟨(some 83), none, .slc 1 (.t 81) none (some (.t 82))⟩,
  ⟨(some 84), none, .app 1 (.k (.own 1 [])) (.t 83)⟩,
  ⟨(some 85), none, .mv (.t 5)⟩,
  ⟨(some 86), none, .mv (.t 13)⟩,
  ⟨(some 87), none, .bin .add (.t 86) (.k (.int .i64 1))⟩,
  ⟨(some 88), none, .slc 1 (.t 85) (some (.t 87)) none⟩,
  ⟨(some 89), none, .app 1 (.t 84) (.t 88)⟩,
  ⟨(some 14), none, .mv (.t 89)⟩]
def rLaw24CliquesGoesX20 : List O := [
  ⟨(some 90), none, .mv (.t 5)⟩,
  ⟨(some 91), none, .mv (.t 13)⟩,
  ⟨(some 92), none, .bin .add (.t 91) (.k (.int .i64 1))⟩,
  ⟨(some 93), none, .slc 1 (.t 90) none (some (.t 92))⟩,
  ⟨(some 94), none, .app 1 (.k (.own 1 [])) (.t 93)⟩,
  ⟨(some 95), none, .mv (.t 5)⟩,
  ⟨(some 96), none, .mv (.t 13)⟩,
  ⟨(some 97), none, .slc 1 (.t 95) (some (.t 96)) none⟩,
  ⟨(some 98), none, .app 1 (.t 94) (.t 97)⟩,
  ⟨(some 15), none, .mv (.t 98)⟩]
def rLaw24CliquesGoesX21 : List O := [
  ⟨(some 99), none, .mv (.t 5)⟩,
  ⟨(some 100), none, .app 1 (.k (.own 1 [])) (.t 99)⟩,
  ⟨(some 16), none, .mv (.t 100)⟩]
def rLaw24CliquesGoesX22 : List O := [
  ⟨(some 101), none, .mv (.t 16)⟩,
  ⟨(some 102), none, .mv (.t 16)⟩,
  ⟨(some 103), none, .mv (.t 12)⟩,
  ⟨(some 104), none, .bin .sub (.t 103) (.k (.int .i64 1))⟩,
  ⟨(some 105), none, .mv (.t 16)⟩,
  ⟨(some 106), none, .mv (.t 12)⟩,
  ⟨(some 107), none, .bin .sub (.t 106) (.k (.int .i64 1))⟩,
  ⟨(some 108), none, .ixa 1 (.t 105) (.t 107)⟩,
  ⟨(some 109), none, .ld none (.t 108)⟩,
  ⟨(some 110), none, .mv (.t 16)⟩,
  ⟨(some 111), none, .ixa 1 (.t 110) (.k (.int .i64 0))⟩,
  ⟨(some 112), none, .ld none (.t 111)⟩,
  ⟨(some 113), none, .ixa 1 (.t 101) (.k (.int .i64 0))⟩,
  ⟨none, none, .st 1 (.t 113) (.t 109)⟩,
  ⟨(some 114), none, .ixa 1 (.t 102) (.t 104)⟩,
  ⟨none, none, .st 1 (.t 114) (.t 112)⟩]
def rLaw24CliquesGoesX23 : List O := [
  ⟨(some 115), none, .ld (some 2) (.t 4)⟩,
  ⟨(some 116), none, .mv (.t 14)⟩,
  ⟨(some 117), none, .call nCliquesCheck [(.t 115), (.t 116)]⟩,
  ⟨(some 118), none, .mv (.t 117)⟩,
  ⟨(some 119), (some (118, false)), .ld (some 2) (.t 4)⟩,
  ⟨(some 120), (some (118, false)), .mv (.t 15)⟩,
  ⟨(some 121), (some (118, false)), .call nCliquesCheck [(.t 119), (.t 120)]⟩,
  ⟨(some 122), none, .pick (.t 118) (.k (.bool true)) (.t 121)⟩,
  ⟨(some 123), none, .mv (.t 122)⟩,
  ⟨(some 124), (some (123, false)), .mv (.t 12)⟩,
  ⟨(some 125), (some (123, false)), .bin .gtr (.t 124) (.k (.int .i64 1))⟩,
  ⟨(some 126), (some (123, false)), .mv (.t 125)⟩,
  ⟨(some 127), (some (126, true)), .ld (some 2) (.t 4)⟩,
  ⟨(some 128), (some (126, true)), .mv (.t 16)⟩,
  ⟨(some 129), (some (126, true)), .call nCliquesCheck [(.t 127), (.t 128)]⟩,
  ⟨(some 130), (some (123, false)), .pick (.t 126) (.t 129) (.k (.bool false))⟩,
  ⟨(some 131), none, .pick (.t 123) (.k (.bool true)) (.t 130)⟩]
def rLaw24CliquesGoesX24 : List O := [
  ⟨(some 2), none, .mv (.k (.bool false))⟩]
def rLaw24CliquesGoesX25 : List O := [
  ⟨(some 132), none, .call nLaw24Awake []⟩,
  ⟨(some 2), none, .mv (.t 132)⟩]
def cLaw24CliquesGoes : C := (.seq (.reg rLaw24CliquesGoesX0 false [] [0]) (.seq (.seq (.reg rLaw24CliquesGoesX1 false [] [0, 19]) (.cond (.t 19) (.seq (.reg rLaw24CliquesGoesX2 false [] [2]) .ret) .skip)) (.seq (.reg rLaw24CliquesGoesX3 false [] [3]) (.seq (.reg rLaw24CliquesGoesX4 false [] [3, 4]) (.seq (.reg rLaw24CliquesGoesX5 false [] [3, 4, 5, 6]) (.seq (.reg rLaw24CliquesGoesX6 false [] [3, 4, 5, 6, 7]) (.seq (.seq (.reg rLaw24CliquesGoesX7 false [] [3, 4, 5, 6, 7, 8]) (.blk 0 (.loop lLaw24CliquesGoesX0))) (.seq (.seq (.reg rLaw24CliquesGoesX14 false [] [3, 4, 5, 73]) (.cond (.t 73) (.seq (.reg rLaw24CliquesGoesX15 false [] [2]) .ret) .skip)) (.seq (.seq (.reg rLaw24CliquesGoesX16 false [] [3, 4, 5, 12]) (.seq (.reg rLaw24CliquesGoesX17 false [] [3, 4, 5, 12, 77]) (.cond (.t 77) (.seq (.reg rLaw24CliquesGoesX18 false [] [4, 5, 12, 13]) (.seq (.reg rLaw24CliquesGoesX19 true [(8, 8), (9, 9), (3, 4), (3, 5), (3, 6), (3, 7)] [4, 5, 12, 13, 14]) (.seq (.reg rLaw24CliquesGoesX20 true [(8, 8), (9, 9), (4, 5), (4, 6), (4, 7)] [4, 5, 12, 14, 15]) (.seq (.reg rLaw24CliquesGoesX21 false [] [4, 12, 14, 15, 16]) (.seq (.reg rLaw24CliquesGoesX22 true [(14, 14), (15, 15), (0, 8), (1, 8), (2, 8), (3, 8), (8, 9), (8, 10), (0, 11), (1, 11), (2, 11), (3, 11), (4, 11), (5, 11), (6, 11), (7, 11), (8, 11), (1, 13), (2, 13), (3, 13)] [4, 12, 14, 15, 16]) (.seq (.reg rLaw24CliquesGoesX23 false [] [131]) (.cond (.t 131) (.seq (.reg rLaw24CliquesGoesX24 false [] [2]) .ret) .skip))))))) .skip))) (.seq (.reg rLaw24CliquesGoesX25 false [] [2]) .ret))))))))))
def qLaw24CliquesGoes : AFn := ⟨133, 1, [.t 2], cLaw24CliquesGoes⟩
/- cohesion/cohesionlaw24.CliquesAnswers -/
def rLaw24CliquesAnswersX0 : List O := [
  ⟨(some 7), none, .box (.t 2)⟩,
  ⟨(some 10), none, .mv (.k (.bool false))⟩]
def rLaw24CliquesAnswersX1 : List O := [
  ⟨(some 33), none, .mv (.t 0)⟩,
  ⟨(some 34), none, .call nMakeFew [(.t 33)]⟩,
  ⟨(some 35), none, .un .not (.t 34)⟩,
  ⟨(some 36), none, .mv (.t 35)⟩,
  ⟨(some 37), (some (36, false)), .mv (.t 1)⟩,
  ⟨(some 38), (some (36, false)), .len (.t 37)⟩,
  ⟨(some 39), (some (36, false)), .bin .gtr (.t 38) (.k (.int .i64 20))⟩,
  ⟨(some 40), none, .pick (.t 36) (.k (.bool true)) (.t 39)⟩,
  ⟨(some 41), none, .mv (.t 40)⟩,
  ⟨(some 42), (some (41, false)), .ld (some 2) (.t 7)⟩,
  ⟨(some 43), (some (41, false)), .call nMakeLight [(.t 42), (.k (.int .i64 9))]⟩,
  ⟨(some 44), (some (41, false)), .un .not (.t 43)⟩,
  ⟨(some 45), none, .pick (.t 41) (.k (.bool true)) (.t 44)⟩,
  ⟨(some 46), none, .mv (.t 45)⟩,
  ⟨(some 47), (some (46, false)), .mv (.t 3)⟩,
  ⟨(some 48), (some (46, false)), .len (.t 47)⟩,
  ⟨(some 49), (some (46, false)), .bin .gtr (.t 48) (.k (.int .i64 40))⟩,
  ⟨(some 50), none, .pick (.t 46) (.k (.bool true)) (.t 49)⟩]
def rLaw24CliquesAnswersX2 : List O := [
  ⟨(some 51), none, .call nLaw24Awake []⟩,
  ⟨(some 10), none, .mv (.t 51)⟩]
def rLaw24CliquesAnswersX3 : List O := [
  ⟨(some 52), none, .mv (.t 0)⟩,
  ⟨(some 53), none, .call nMakeNew [(.t 52)]⟩,
  ⟨(some 11), none, .mv (.t 53)⟩]
def rLaw24CliquesAnswersX4 : List O := [
  ⟨(some 54), none, .mv (.t 11)⟩,
  ⟨(some 55), none, .call nMakeGraph [(.t 54), (.k (.int .i64 8))]⟩,
  ⟨(some 12), none, .new [(.int .i64 0), (.own 2 [])]⟩,
  ⟨none, none, .st 2 (.t 12) (.t 55)⟩]
def rLaw24CliquesAnswersX5 : List O := [
  ⟨(some 56), none, .ld (some 2) (.t 12)⟩,
  ⟨(some 57), none, .ld (some 2) (.t 7)⟩,
  ⟨(some 58), none, .mv (.t 11)⟩,
  ⟨(some 59), none, .ld (some 2) (.t 12)⟩,
  ⟨(some 60), none, .call nMakeSpoilt [(.t 58), (.t 59)]⟩,
  ⟨(some 61), none, .bslice 2 3 [(.int .i64 0), (.own 2 [])] [(0, 2, (.t 56)), (2, 2, (.t 57)), (4, 2, (.t 60))]⟩,
  ⟨(some 62), none, .len (.t 61)⟩,
  ⟨(some 63), none, .mv (.k (.int .i64 0))⟩]
def rLaw24CliquesAnswersX6 : List O := [
  ⟨(some 64), none, .bin .lss (.t 63) (.t 62)⟩]
def rLaw24CliquesAnswersX7 : List O := [
  ⟨(some 65), none, .ixa 2 (.t 61) (.t 63)⟩,
  ⟨(some 66), none, .ld (some 2) (.t 65)⟩,
  ⟨(some 14), none, .new [(.int .i64 0), (.own 2 [])]⟩,
  ⟨none, none, .st 2 (.t 14) (.t 66)⟩]
def rLaw24CliquesAnswersX8 : List O := [
  ⟨(some 67), none, .ld (some 2) (.t 14)⟩,
  ⟨(some 68), none, .call nMakeLight [(.t 67), (.k (.int .i64 70))]⟩,
  ⟨(some 69), none, .un .not (.t 68)⟩,
  ⟨(some 70), none, .mv (.t 69)⟩,
  ⟨(some 71), (some (70, false)), .fad 1 (.t 14)⟩,
  ⟨(some 72), (some (70, false)), .ld none (.t 71)⟩,
  ⟨(some 73), (some (70, false)), .len (.t 72)⟩,
  ⟨(some 74), (some (70, false)), .bin .gtr (.t 73) (.k (.int .i64 40))⟩,
  ⟨(some 75), none, .pick (.t 70) (.k (.bool true)) (.t 74)⟩]
def rLaw24CliquesAnswersX9 : List O := [
  ⟨(some 76), none, .mv (.t 1)⟩,
  ⟨(some 77), none, .mv (.t 11)⟩,
  ⟨(some 78), none, .call nMakeSet [(.t 77), (.k (.int .i64 8))]⟩,
  ⟨(some 79), none, .mv (.t 11)⟩,
  ⟨(some 80), none, .call nMakeDeckNext [(.t 79), (.k (.int .i64 8))]⟩,
  ⟨(some 81), none, .bslice 1 1 [(.int .i64 0)] [(0, 1, (.t 80))]⟩,
  ⟨(some 82), none, .bslice 1 4 [(.own 1 [])] [(0, 1, (.t 76)), (1, 1, (.t 78)), (2, 1, (.t 81)), (3, 1, (.k (.own 1 [])))]⟩,
  ⟨(some 83), none, .len (.t 82)⟩,
  ⟨(some 84), none, .mv (.k (.int .i64 0))⟩]
def rLaw24CliquesAnswersX10 : List O := [
  ⟨(some 85), none, .bin .lss (.t 84) (.t 83)⟩]
def rLaw24CliquesAnswersX11 : List O := [
  ⟨(some 86), none, .ixa 1 (.t 82) (.t 84)⟩,
  ⟨(some 87), none, .ld none (.t 86)⟩,
  ⟨(some 16), none, .mv (.t 87)⟩]
def rLaw24CliquesAnswersX12 : List O := [
  ⟨(some 89), none, .ld (some 2) (.t 14)⟩,
  ⟨(some 90), none, .mv (.t 16)⟩,
  ⟨(some 91), none, .call nCliquesExtend [(.t 89), (.t 90)]⟩,
  ⟨(some 88), none, .mv (.t 91)⟩,
  ⟨(some 92), none, .ext 0 (.t 88)⟩,
  ⟨(some 93), none, .ext 1 (.t 88)⟩,
  ⟨(some 17), none, .mv (.t 92)⟩,
  ⟨(some 18), none, .mv (.t 93)⟩]
def rLaw24CliquesAnswersX13 : List O := [
  ⟨(some 95), none, .ld (some 2) (.t 14)⟩,
  ⟨(some 96), none, .mv (.t 16)⟩,
  ⟨(some 97), none, .call nRef24Extend [(.t 95), (.t 96)]⟩,
  ⟨(some 94), none, .mv (.t 97)⟩,
  ⟨(some 98), none, .ext 0 (.t 94)⟩,
  ⟨(some 99), none, .ext 1 (.t 94)⟩,
  ⟨(some 19), none, .mv (.t 98)⟩,
  ⟨(some 20), none, .mv (.t 99)⟩]
def rLaw24CliquesAnswersX14 : List O := [
  ⟨(some 101), none, .ld (some 2) (.t 14)⟩,
  ⟨(some 102), none, .mv (.t 16)⟩,
  ⟨(some 103), none, .call nCliquesNext [(.t 101), (.t 102)]⟩,
  ⟨(some 100), none, .mv (.t 103)⟩,
  ⟨(some 104), none, .ext 0 (.t 100)⟩,
  ⟨(some 105), none, .ext 1 (.t 100)⟩,
  ⟨(some 106), none, .ext 2 (.t 100)⟩,
  ⟨(some 21), none, .mv (.t 104)⟩,
  ⟨(some 22), none, .mv (.t 105)⟩,
  ⟨(some 23), none, .mv (.t 106)⟩]
def rLaw24CliquesAnswersX15 : List O := [
  ⟨(some 108), none, .ld (some 2) (.t 14)⟩,
  ⟨(some 109), none, .mv (.t 16)⟩,
  ⟨(some 110), none, .call nRef24Next [(.t 108), (.t 109)]⟩,
  ⟨(some 107), none, .mv (.t 110)⟩,
  ⟨(some 111), none, .ext 0 (.t 107)⟩,
  ⟨(some 112), none, .ext 1 (.t 107)⟩,
  ⟨(some 113), none, .ext 2 (.t 107)⟩,
  ⟨(some 24), none, .mv (.t 111)⟩,
  ⟨(some 25), none, .mv (.t 112)⟩,
  ⟨(some 26), none, .mv (.t 113)⟩]
def rLaw24CliquesAnswersX16 : List O := [
  ⟨(some 114), none, .ld (some 2) (.t 14)⟩,
  ⟨(some 115), none, .mv (.t 16)⟩,
  ⟨(some 116), none, .call nCliquesIs [(.t 114), (.t 115)]⟩,
  ⟨(some 117), none, .ld (some 2) (.t 14)⟩,
  ⟨(some 118), none, .mv (.t 16)⟩,
  ⟨(some 119), none, .call nRef24Is [(.t 117), (.t 118)]⟩,
  ⟨(some 120), none, .eq true .bool (.t 116) (.t 119)⟩,
  ⟨(some 121), none, .mv (.t 120)⟩,
  ⟨(some 122), (some (121, false)), .ld (some 2) (.t 14)⟩,
  ⟨(some 123), (some (121, false)), .mv (.t 16)⟩,
  ⟨(some 124), (some (121, false)), .call nCliquesMaximal [(.t 122), (.t 123)]⟩,
  ⟨(some 125), (some (121, false)), .ld (some 2) (.t 14)⟩,
  ⟨(some 126), (some (121, false)), .mv (.t 16)⟩,
  ⟨(some 127), (some (121, false)), .call nRef24Maximal [(.t 125), (.t 126)]⟩,
  ⟨(some 128), (some (121, false)), .eq true .bool (.t 124) (.t 127)⟩,
  ⟨(some 129), none, .pick (.t 121) (.k (.bool true)) (.t 128)⟩,
  ⟨(some 130), none, .mv (.t 129)⟩,
  ⟨(some 131), (some (130, false)), .mv (.t 18)⟩,
  ⟨(some 132), (some (130, false)), .mv (.t 20)⟩,
  ⟨(some 133), (some (130, false)), .bin .neq (.t 131) (.t 132)⟩,
  ⟨(some 134), none, .pick (.t 130) (.k (.bool true)) (.t 133)⟩,
  ⟨(some 135), none, .mv (.t 134)⟩,
  ⟨(some 136), (some (135, false)), .mv (.t 17)⟩,
  ⟨(some 137), (some (135, false)), .mv (.t 19)⟩,
  ⟨(some 138), (some (135, false)), .call nRef02Cmp [(.t 136), (.t 137)]⟩,
  ⟨(some 139), (some (135, false)), .bin .neq (.t 138) (.k (.int .i64 0))⟩,
  ⟨(some 140), none, .pick (.t 135) (.k (.bool true)) (.t 139)⟩,
  ⟨(some 141), none, .mv (.t 140)⟩,
  ⟨(some 142), (some (141, false)), .mv (.t 22)⟩,
  ⟨(some 143), (some (141, false)), .mv (.t 25)⟩,
  ⟨(some 144), (some (141, false)), .eq true .bool (.t 142) (.t 143)⟩,
  ⟨(some 145), none, .pick (.t 141) (.k (.bool true)) (.t 144)⟩,
  ⟨(some 146), none, .mv (.t 145)⟩,
  ⟨(some 147), (some (146, false)), .mv (.t 23)⟩,
  ⟨(some 148), (some (146, false)), .mv (.t 26)⟩,
  ⟨(some 149), (some (146, false)), .bin .neq (.t 147) (.t 148)⟩,
  ⟨(some 150), none, .pick (.t 146) (.k (.bool true)) (.t 149)⟩,
  ⟨(some 151), none, .mv (.t 150)⟩,
  ⟨(some 152), (some (151, false)), .mv (.t 21)⟩,
  ⟨(some 153), (some (151, false)), .mv (.t 24)⟩,
  ⟨(some 154), (some (151, false)), .call nRef02Cmp [(.t 152), (.t 153)]⟩,
  ⟨(some 155), (some (151, false)), .bin .neq (.t 154) (.k (.int .i64 0))⟩,
  ⟨(some 156), none, .pick (.t 151) (.k (.bool true)) (.t 155)⟩]
def rLaw24CliquesAnswersX17 : List O := [
  ⟨(some 10), none, .mv (.k (.bool false))⟩]
def rLaw24CliquesAnswersX18 : List O := [
  ⟨(some 157), none, .bin .add (.t 84) (.k (.int .i64 1))⟩,
  ⟨(some 84), none, .mv (.t 157)⟩]
def lLaw24CliquesAnswersX0 : C := (.seq (.reg rLaw24CliquesAnswersX10 false [] [1, 3, 4, 11, 14, 61, 62, 63, 82, 83, 84, 85]) (.seq (.cond (.t 85) .skip (.exit 2)) (.seq (.blk 3 (.seq (.reg rLaw24CliquesAnswersX11 false [] [1, 3, 4, 11, 14, 16, 61, 62, 63, 82, 83, 84]) (.seq (.reg rLaw24CliquesAnswersX12 false [] [1, 3, 4, 11, 14, 16, 17, 18, 61, 62, 63, 82, 83, 84]) (.seq (.reg rLaw24CliquesAnswersX13 false [] [1, 3, 4, 11, 14, 16, 17, 18, 19, 20, 61, 62, 63, 82, 83, 84]) (.seq (.reg rLaw24CliquesAnswersX14 false [] [1, 3, 4, 11, 14, 16, 17, 18, 19, 20, 21, 22, 23, 61, 62, 63, 82, 83, 84]) (.seq (.reg rLaw24CliquesAnswersX15 false [] [1, 3, 4, 11, 14, 16, 17, 18, 19, 20, 21, 22, 23, 24, 25, 26, 61, 62, 63, 82, 83, 84]) (.seq (.reg rLaw24CliquesAnswersX16 true [(5, 5), (6, 6), (7, 7), (13, 13), (14, 14), (15, 15), (16, 16), (19, 19), (20, 20), (21, 21), (24, 24), (25, 25), (26, 26), (27, 27), (30, 30), (31, 31), (32, 32), (35, 35), (36, 36), (37, 37), (40, 40), (41, 41), (42, 42), (0, 1), (0, 3), (1, 3), (2, 3), (0, 4), (2, 4), (3, 4), (8, 9), (8, 11), (9, 11), (10, 11), (8, 12), (10, 12), (11, 12)] [1, 3, 4, 11, 14, 61, 62, 63, 82, 83, 84, 156]) (.cond (.t 156) (.seq (.reg rLaw24CliquesAnswersX17 false [] [10]) .ret) .skip)))))))) (.reg rLaw24CliquesAnswersX18 false [] [1, 3, 4, 11, 14, 61, 62, 63, 82, 83, 84]))))
def rLaw24CliquesAnswersX19 : List O := [
  ⟨(some 158), none, .mv (.t 4)⟩,
  ⟨(some 159), none, .mv (.t 11)⟩,
  ⟨(some 160), none, .call nMakeDeckNext [(.t 159), (.k (.int .i64 9))]⟩,
  ⟨(some 161), none, .bslice 1 3 [(.int .i64 0)] [(0, 1, (.t 158)), (1, 1, (.t 160)), (2, 1, (.k (.int .i64 4096)))]⟩,
  ⟨(some 162), none, .len (.t 161)⟩,
  ⟨(some 163), none, .mv (.k (.int .i64 0))⟩]
def rLaw24CliquesAnswersX20 : List O := [
  ⟨(some 164), none, .bin .lss (.t 163) (.t 162)⟩]
def rLaw24CliquesAnswersX21 : List O := [
  ⟨(some 165), none, .ixa 1 (.t 161) (.t 163)⟩,
  ⟨(some 166), none, .ld none (.t 165)⟩,
  ⟨(some 28), none, .mv (.t 166)⟩]
def rLaw24CliquesAnswersX22 : List O := [
  ⟨(some 168), none, .ld (some 2) (.t 14)⟩,
  ⟨(some 169), none, .mv (.t 28)⟩,
  ⟨(some 170), none, .call nCliquesAll [(.t 168), (.t 169)]⟩,
  ⟨(some 167), none, .mv (.t 170)⟩,
  ⟨(some 171), none, .ext 0 (.t 167)⟩,
  ⟨(some 172), none, .ext 1 (.t 167)⟩,
  ⟨(some 29), none, .mv (.t 171)⟩,
  ⟨(some 30), none, .mv (.t 172)⟩]
def rLaw24CliquesAnswersX23 : List O := [
  ⟨(some 174), none, .ld (some 2) (.t 14)⟩,
  ⟨(some 175), none, .mv (.t 28)⟩,
  ⟨(some 176), none, .call nRef24All [(.t 174), (.t 175)]⟩,
  ⟨(some 173), none, .mv (.t 176)⟩,
  ⟨(some 177), none, .ext 0 (.t 173)⟩,
  ⟨(some 178), none, .ext 1 (.t 173)⟩,
  ⟨(some 31), none, .mv (.t 177)⟩,
  ⟨(some 32), none, .mv (.t 178)⟩]
def rLaw24CliquesAnswersX24 : List O := [
  ⟨(some 179), none, .mv (.t 30)⟩,
  ⟨(some 180), none, .mv (.t 32)⟩,
  ⟨(some 181), none, .bin .neq (.t 179) (.t 180)⟩,
  ⟨(some 182), none, .mv (.t 181)⟩,
  ⟨(some 183), (some (182, false)), .mv (.t 29)⟩,
  ⟨(some 184), (some (182, false)), .mv (.t 31)⟩,
  ⟨(some 185), (some (182, false)), .call nRef24Same [(.t 183), (.t 184)]⟩,
  ⟨(some 186), (some (182, false)), .un .not (.t 185)⟩,
  ⟨(some 187), none, .pick (.t 182) (.k (.bool true)) (.t 186)⟩]
def rLaw24CliquesAnswersX25 : List O := [
  ⟨(some 10), none, .mv (.k (.bool false))⟩]
def rLaw24CliquesAnswersX26 : List O := [
  ⟨(some 188), none, .bin .add (.t 163) (.k (.int .i64 1))⟩,
  ⟨(some 163), none, .mv (.t 188)⟩]
def lLaw24CliquesAnswersX1 : C := (.seq (.reg rLaw24CliquesAnswersX20 false [] [1, 3, 4, 11, 14, 61, 62, 63, 161, 162, 163, 164]) (.seq (.cond (.t 164) .skip (.exit 4)) (.seq (.blk 5 (.seq (.reg rLaw24CliquesAnswersX21 false [] [1, 3, 4, 11, 14, 28, 61, 62, 63, 161, 162, 163]) (.seq (.reg rLaw24CliquesAnswersX22 false [] [1, 3, 4, 11, 14, 28, 29, 30, 61, 62, 63, 161, 162, 163]) (.seq (.reg rLaw24CliquesAnswersX23 false [] [1, 3, 4, 11, 14, 29, 30, 31, 32, 61, 62, 63, 161, 162, 163]) (.seq (.reg rLaw24CliquesAnswersX24 false [] [1, 3, 4, 11, 14, 61, 62, 63, 161, 162, 163, 187]) (.cond (.t 187) (.seq (.reg rLaw24CliquesAnswersX25 false [] [10]) .ret) .skip)))))) (.reg rLaw24CliquesAnswersX26 false [] [1, 3, 4, 11, 14, 61, 62, 63, 161, 162, 163]))))
def rLaw24CliquesAnswersX27 : List O := [
  ⟨(some 189), none, .ld (some 2) (.t 14)⟩,
  ⟨(some 190), none, .mv (.t 3)⟩,
  ⟨(some 191), none, .call nCliquesCheck [(.t 189), (.t 190)]⟩,
  ⟨(some 192), none, .ld (some 2) (.t 14)⟩,
  ⟨(some 193), none, .mv (.t 3)⟩,
  ⟨(some 194), none, .call nRef24Check [(.t 192), (.t 193)]⟩,
  ⟨(some 195), none, .eq true .bool (.t 191) (.t 194)⟩]
def rLaw24CliquesAnswersX28 : List O := [
  ⟨(some 10), none, .mv (.k (.bool false))⟩]
def rLaw24CliquesAnswersX29 : List O := [
  ⟨(some 196), none, .bin .add (.t 63) (.k (.int .i64 1))⟩,
  ⟨(some 63), none, .mv (.t 196)⟩]
def lLaw24CliquesAnswersX2 : C := (.seq (.reg rLaw24CliquesAnswersX6 false [] [1, 3, 4, 11, 61, 62, 63, 64]) (.seq (.cond (.t 64) .skip (.exit 0)) (.seq (.blk 1 (.seq (.reg rLaw24CliquesAnswersX7 false [] [1, 3, 4, 11, 14, 61, 62, 63]) (.seq (.seq (.reg rLaw24CliquesAnswersX8 false [] [1, 3, 4, 11, 14, 61, 62, 63, 75]) (.cond (.t 75) (.exit 1) .skip)) (.seq (.seq (.reg rLaw24CliquesAnswersX9 false [] [1, 3, 4, 11, 14, 61, 62, 63, 82, 83, 84]) (.blk 2 (.loop lLaw24CliquesAnswersX0))) (.seq (.seq (.reg rLaw24CliquesAnswersX19 false [] [1, 3, 4, 11, 14, 61, 62, 63, 161, 162, 163]) (.blk 4 (.loop lLaw24CliquesAnswersX1))) (.seq (.reg rLaw24CliquesAnswersX27 true [(5, 5), (6, 6), (0, 1), (0, 3), (1, 3), (2, 3), (0, 4), (2, 4), (3, 4)] [1, 3, 4, 11, 61, 62, 63, 195]) (.cond (.t 195) (.seq (.reg rLaw24CliquesAnswersX28 false [] [10]) .ret) .skip))))))) (.reg rLaw24CliquesAnswersX29 false [] [1, 3, 4, 11, 61, 62, 63]))))
def rLaw24CliquesAnswersX30 : List O := [
  ⟨(some 197), none, .call nLaw24Awake []⟩,
  ⟨(some 10), none, .mv (.t 197)⟩]
def cLaw24CliquesAnswers : C := (.seq (.reg rLaw24CliquesAnswersX0 false [] [0, 1, 3, 4, 7]) (.seq (.seq (.reg rLaw24CliquesAnswersX1 false [] [0, 1, 3, 4, 7, 50]) (.cond (.t 50) (.seq (.reg rLaw24CliquesAnswersX2 false [] [10]) .ret) .skip)) (.seq (.reg rLaw24CliquesAnswersX3 false [] [1, 3, 4, 7, 11]) (.seq (.reg rLaw24CliquesAnswersX4 false [] [1, 3, 4, 7, 11, 12]) (.seq (.seq (.reg rLaw24CliquesAnswersX5 true [(0, 1), (0, 2), (1, 2), (0, 3), (1, 3), (2, 3), (0, 4), (1, 4), (0, 7), (1, 7), (3, 7), (4, 7), (5, 7)] [1, 3, 4, 11, 61, 62, 63]) (.blk 0 (.loop lLaw24CliquesAnswersX2))) (.seq (.reg rLaw24CliquesAnswersX30 false [] [10]) .ret))))))
def qLaw24CliquesAnswers : AFn := ⟨198, 5, [.t 10], cLaw24CliquesAnswers⟩
/- cohesion/cohesionlaw24.CliquesParts -/
def rLaw24CliquesPartsX0 : List O := [
  ⟨(some 2), none, .mv (.k (.bool false))⟩]
def rLaw24CliquesPartsX1 : List O := [
  ⟨(some 18), none, .mv (.t 0)⟩,
  ⟨(some 19), none, .call nMakeFew [(.t 18)]⟩,
  ⟨(some 20), none, .un .not (.t 19)⟩]
def rLaw24CliquesPartsX2 : List O := [
  ⟨(some 21), none, .call nLaw24Awake []⟩,
  ⟨(some 2), none, .mv (.t 21)⟩]
def rLaw24CliquesPartsX3 : List O := [
  ⟨(some 22), none, .mv (.t 0)⟩,
  ⟨(some 23), none, .call nMakeNew [(.t 22)]⟩,
  ⟨(some 3), none, .mv (.t 23)⟩]
def rLaw24CliquesPartsX4 : List O := [
  ⟨(some 24), none, .mv (.t 3)⟩,
  ⟨(some 25), none, .call nMakeGraph [(.t 24), (.k (.int .i64 8))]⟩,
  ⟨(some 4), none, .new [(.int .i64 0), (.own 2 [])]⟩,
  ⟨none, none, .st 2 (.t 4) (.t 25)⟩]
def rLaw24CliquesPartsX5 : List O := [
  ⟨(some 26), none, .mv (.t 3)⟩,
  ⟨(some 27), none, .fad 0 (.t 4)⟩,
  ⟨(some 28), none, .ld none (.t 27)⟩,
  ⟨(some 29), none, .call nMakeSet [(.t 26), (.t 28)]⟩,
  ⟨(some 5), none, .mv (.t 29)⟩]
def rLaw24CliquesPartsX6 : List O := [
  ⟨(some 31), none, .ld (some 2) (.t 4)⟩,
  ⟨(some 32), none, .mv (.t 5)⟩,
  ⟨(some 33), none, .call nGraphInduced [(.t 31), (.t 32)]⟩,
  ⟨(some 30), none, .mv (.t 33)⟩,
  ⟨(some 34), none, .ext 0 (.t 30)⟩,
  ⟨(some 35), none, .ext 1 (.t 30)⟩,
  ⟨(some 6), none, .new [(.int .i64 0), (.own 2 [])]⟩,
  ⟨none, none, .st 2 (.t 6) (.t 34)⟩,
  ⟨(some 7), none, .mv (.t 35)⟩]
def rLaw24CliquesPartsX7 : List O := [
  ⟨(some 37), none, .ld (some 2) (.t 6)⟩,
  ⟨(some 38), none, .call nCliquesAll [(.t 37), (.k (.int .i64 4096))]⟩,
  ⟨(some 36), none, .mv (.t 38)⟩,
  ⟨(some 39), none, .ext 0 (.t 36)⟩,
  ⟨(some 40), none, .ext 1 (.t 36)⟩,
  ⟨(some 8), none, .mv (.t 39)⟩,
  ⟨(some 9), none, .mv (.t 40)⟩]
def rLaw24CliquesPartsX8 : List O := [
  ⟨(some 41), none, .mv (.t 8)⟩,
  ⟨(some 42), none, .len (.t 41)⟩,
  ⟨(some 43), none, .mv (.k (.int .i64 0))⟩]
def rLaw24CliquesPartsX9 : List O := [
  ⟨(some 44), none, .bin .lss (.t 43) (.t 42)⟩]
def rLaw24CliquesPartsX10 : List O := [
  ⟨(some 45), none, .ixa 1 (.t 41) (.t 43)⟩,
  ⟨(some 46), none, .ld none (.t 45)⟩,
  ⟨(some 11), none, .mv (.t 46)⟩]
def rLaw24CliquesPartsX11 : List O := [
  ⟨(some 47), none, .mv (.t 11)⟩,
  ⟨(some 48), none, .len (.t 47)⟩,
  ⟨(some 49), none, .bin .gtr (.t 48) (.k (.int .i64 1))⟩,
  ⟨(some 50), none, .mv (.t 49)⟩,
  ⟨(some 51), (some (50, true)), .mv (.t 11)⟩,
  ⟨(some 52), (some (50, true)), .mv (.t 5)⟩,
  ⟨(some 53), (some (50, true)), .call nRef02Within [(.t 51), (.t 52)]⟩,
  ⟨(some 54), (some (50, true)), .un .not (.t 53)⟩,
  ⟨(some 55), (some (50, true)), .mv (.t 54)⟩,
  ⟨(some 56), (some (55, false)), .ld (some 2) (.t 4)⟩,
  ⟨(some 57), (some (55, false)), .mv (.t 11)⟩,
  ⟨(some 58), (some (55, false)), .call nCliquesIs [(.t 56), (.t 57)]⟩,
  ⟨(some 59), (some (55, false)), .un .not (.t 58)⟩,
  ⟨(some 60), (some (50, true)), .pick (.t 55) (.k (.bool true)) (.t 59)⟩,
  ⟨(some 61), none, .pick (.t 50) (.t 60) (.k (.bool false))⟩]
def rLaw24CliquesPartsX12 : List O := [
  ⟨(some 2), none, .mv (.k (.bool false))⟩]
def rLaw24CliquesPartsX13 : List O := [
  ⟨(some 62), none, .bin .add (.t 43) (.k (.int .i64 1))⟩,
  ⟨(some 43), none, .mv (.t 62)⟩]
def lLaw24CliquesPartsX0 : C := (.seq (.reg rLaw24CliquesPartsX9 false [] [4, 5, 7, 9, 41, 42, 43, 44]) (.seq (.cond (.t 44) .skip (.exit 0)) (.seq (.blk 1 (.seq (.reg rLaw24CliquesPartsX10 false [] [4, 5, 7, 9, 11, 41, 42, 43]) (.seq (.reg rLaw24CliquesPartsX11 false [] [4, 5, 7, 9, 41, 42, 43, 61]) (.cond (.t 61) (.seq (.reg rLaw24CliquesPartsX12 false [] [2]) .ret) .skip)))) (.reg rLaw24CliquesPartsX13 false [] [4, 5, 7, 9, 41, 42, 43]))))
def rLaw24CliquesPartsX14 : List O := [
  ⟨(some 12), none, .mv (.k (.own 1 []))⟩]
def rLaw24CliquesPartsX15 : List O := [
  ⟨(some 13), none, .mv (.k (.int .i64 0))⟩]
def rLaw24CliquesPartsX16 : List O := [
  ⟨(some 63), none, .mv (.t 13)⟩,
  ⟨(some 64), none, .fad 0 (.t 4)⟩,
  ⟨(some 65), none, .ld none (.t 64)⟩,
  ⟨(some 66), none, .bin .lss (.t 63) (.t 65)⟩]
def rLaw24CliquesPartsX17 : List O := [
  ⟨(some 70), none, .ld (some 2) (.t 4)⟩,
  ⟨(some 71), none, .mv (.t 12)⟩,
  ⟨(some 72), none, .call nCliquesExtend [(.t 70), (.t 71)]⟩,
  ⟨(some 69), none, .mv (.t 72)⟩,
  ⟨(some 73), none, .ext 0 (.t 69)⟩,
  ⟨(some 74), none, .ext 1 (.t 69)⟩,
  ⟨(some 14), none, .mv (.t 73)⟩,
  ⟨(some 15), none, .mv (.t 74)⟩]
def rLaw24CliquesPartsX18 : List O := [
  ⟨(some 75), none, .mv (.t 15)⟩,
  ⟨(some 76), none, .bin .neq (.t 75) (.k (.int .i64 0))⟩,
  ⟨(some 77), none, .mv (.t 76)⟩,
  ⟨(some 78), (some (77, false)), .ld (some 2) (.t 4)⟩,
  ⟨(some 79), (some (77, false)), .mv (.t 14)⟩,
  ⟨(some 80), (some (77, false)), .call nCliquesMaximal [(.t 78), (.t 79)]⟩,
  ⟨(some 81), (some (77, false)), .un .not (.t 80)⟩,
  ⟨(some 82), none, .pick (.t 77) (.k (.bool true)) (.t 81)⟩]
def rLaw24CliquesPartsX19 : List O := [
  ⟨(some 2), none, .mv (.k (.bool false))⟩]
def rLaw24CliquesPartsX20 : List O := [
  ⟨(some 83), none, .mv (.t 14)⟩,
  ⟨(some 84), none, .mv (.t 12)⟩,
  ⟨(some 85), none, .call nRef02Minus [(.t 83), (.t 84)]⟩,
  ⟨(some 16), none, .mv (.t 85)⟩]
def rLaw24CliquesPartsX21 : List O := [
  ⟨(some 86), none, .mv (.t 16)⟩,
  ⟨(some 87), none, .len (.t 86)⟩,
  ⟨(some 88), none, .bin .eql (.t 87) (.k (.int .i64 0))⟩]
def rLaw24CliquesPartsX22 : List O := [
  ⟨(some 89), none, .mv (.t 12)⟩,
  ⟨(some 90), none, .mv (.t 16)⟩,
  ⟨(some 91), none, .slc 1 (.t 90) none (some (.k (.int .i64 1)))⟩,
  ⟨(some 92), none, .call nRef02Union [(.t 89), (.t 91)]⟩,
  ⟨(some 12), none, .mv (.t 92)⟩]
def rLaw24CliquesPartsX23 : List O := [
  ⟨(some 94), none, .ld (some 2) (.t 4)⟩,
  ⟨(some 95), none, .mv (.t 12)⟩,
  ⟨(some 96), none, .call nCliquesExtend [(.t 94), (.t 95)]⟩,
  ⟨(some 93), none, .mv (.t 96)⟩,
  ⟨(some 97), none, .ext 0 (.t 93)⟩,
  ⟨(some 98), none, .ext 1 (.t 93)⟩,
  ⟨(some 17), none, .mv (.t 97)⟩,
  ⟨(some 15), none, .mv (.t 98)⟩]
def rLaw24CliquesPartsX24 : List O := [
  ⟨(some 99), none, .mv (.t 15)⟩,
  ⟨(some 100), none, .bin .neq (.t 99) (.k (.int .i64 0))⟩,
  ⟨(some 101), none, .mv (.t 100)⟩,
  ⟨(some 102), (some (101, false)), .mv (.t 14)⟩,
  ⟨(some 103), (some (101, false)), .mv (.t 17)⟩,
  ⟨(some 104), (some (101, false)), .call nRef02Cmp [(.t 102), (.t 103)]⟩,
  ⟨(some 105), (some (101, false)), .bin .neq (.t 104) (.k (.int .i64 0))⟩,
  ⟨(some 106), none, .pick (.t 101) (.k (.bool true)) (.t 105)⟩]
def rLaw24CliquesPartsX25 : List O := [
  ⟨(some 2), none, .mv (.k (.bool false))⟩]
def rLaw24CliquesPartsX26 : List O := [
  ⟨(some 67), none, .mv (.t 13)⟩,
  ⟨(some 68), none, .bin .add (.t 67) (.k (.int .i64 1))⟩,
  ⟨(some 13), none, .mv (.t 68)⟩]
def lLaw24CliquesPartsX1 : C := (.seq (.seq (.reg rLaw24CliquesPartsX16 false [] [4, 7, 9, 12, 13, 66]) (.cond (.t 66) .skip (.exit 2))) (.seq (.blk 3 (.seq (.reg rLaw24CliquesPartsX17 false [] [4, 7, 9, 12, 13, 14, 15]) (.seq (.seq (.reg rLaw24CliquesPartsX18 false [] [4, 7, 9, 12, 13, 14, 82]) (.cond (.t 82) (.seq (.reg rLaw24CliquesPartsX19 false [] [2]) .ret) .skip)) (.seq (.reg rLaw24CliquesPartsX20 false [] [4, 7, 9, 12, 13, 14, 16]) (.seq (.seq (.reg rLaw24CliquesPartsX21 false [] [4, 7, 9, 12, 13, 14, 16, 88]) (.cond (.t 88) (.exit 2) .skip)) (.seq (.reg rLaw24CliquesPartsX22 false [] [4, 7, 9, 12, 13, 14]) (.seq (.reg rLaw24CliquesPartsX23 false [] [4, 7, 9, 12, 13, 14, 15, 17]) (.seq (.reg rLaw24CliquesPartsX24 false [] [4, 7, 9, 12, 13, 106]) (.cond (.t 106) (.seq (.reg rLaw24CliquesPartsX25 false [] [2]) .ret) .skip))))))))) (.reg rLaw24CliquesPartsX26 false [] [4, 7, 9, 12, 13])))
def rLaw24CliquesPartsX27 : List O := [
  ⟨(some 107), none, .mv (.t 7)⟩,
  ⟨(some 108), none, .bin .eql (.t 107) (.k (.int .i64 0))⟩,
  ⟨(some 109), none, .mv (.t 108)⟩,
  ⟨(some 110), (some (109, true)), .mv (.t 9)⟩,
  ⟨(some 111), (some (109, true)), .bin .eql (.t 110) (.k (.int .i64 0))⟩,
  ⟨(some 112), none, .pick (.t 109) (.t 111) (.k (.bool false))⟩,
  ⟨(some 113), none, .mv (.t 112)⟩,
  ⟨(some 114), (some (113, true)), .call nLaw24Awake []⟩,
  ⟨(some 115), none, .pick (.t 113) (.t 114) (.k (.bool false))⟩,
  ⟨(some 2), none, .mv (.t 115)⟩]
def cLaw24CliquesParts : C := (.seq (.reg rLaw24CliquesPartsX0 false [] [0]) (.seq (.seq (.reg rLaw24CliquesPartsX1 false [] [0, 20]) (.cond (.t 20) (.seq (.reg rLaw24CliquesPartsX2 false [] [2]) .ret) .skip)) (.seq (.reg rLaw24CliquesPartsX3 false [] [3]) (.seq (.reg rLaw24CliquesPartsX4 false [] [3, 4]) (.seq (.reg rLaw24CliquesPartsX5 false [] [4, 5]) (.seq (.reg rLaw24CliquesPartsX6 false [] [4, 5, 6, 7]) (.seq (.reg rLaw24CliquesPartsX7 false [] [4, 5, 7, 8, 9]) (.seq (.seq (.reg rLaw24CliquesPartsX8 false [] [4, 5, 7, 9, 41, 42, 43]) (.blk 0 (.loop lLaw24CliquesPartsX0))) (.seq (.reg rLaw24CliquesPartsX14 false [] [4, 7, 9, 12]) (.seq (.seq (.reg rLaw24CliquesPartsX15 false [] [4, 7, 9, 12, 13]) (.blk 2 (.loop lLaw24CliquesPartsX1))) (.seq (.reg rLaw24CliquesPartsX27 false [] [2]) .ret)))))))))))
def qLaw24CliquesParts : AFn := ⟨116, 1, [.t 2], cLaw24CliquesParts⟩
/- cohesion/cohesionlaw24.CliquesEdges -/
def rLaw24CliquesEdgesX0 : List O := [
  ⟨(some 2), none, .mv (.k (.bool false))⟩]
def rLaw24CliquesEdgesX1 : List O := [
  ⟨(some 23), none, .mv (.t 0)⟩,
  ⟨(some 24), none, .call nMakeFew [(.t 23)]⟩,
  ⟨(some 25), none, .un .not (.t 24)⟩]
def rLaw24CliquesEdgesX2 : List O := [
  ⟨(some 26), none, .call nLaw24Awake []⟩,
  ⟨(some 2), none, .mv (.t 26)⟩]
def rLaw24CliquesEdgesX3 : List O := [
  ⟨(some 27), none, .mv (.t 0)⟩,
  ⟨(some 28), none, .call nMakeNew [(.t 27)]⟩,
  ⟨(some 3), none, .mv (.t 28)⟩]
def rLaw24CliquesEdgesX4 : List O := [
  ⟨(some 29), none, .mv (.t 3)⟩,
  ⟨(some 30), none, .call nMakeGraph [(.t 29), (.k (.int .i64 7))]⟩,
  ⟨(some 4), none, .new [(.int .i64 0), (.own 2 [])]⟩,
  ⟨none, none, .st 2 (.t 4) (.t 30)⟩]
def rLaw24CliquesEdgesX5 : List O := [
  ⟨(some 31), none, .mv (.t 3)⟩,
  ⟨(some 32), none, .call nMakeDeckNext [(.t 31), (.k (.int .i64 7))]⟩,
  ⟨(some 33), none, .mv (.t 3)⟩,
  ⟨(some 34), none, .call nMakeDeckNext [(.t 33), (.k (.int .i64 7))]⟩,
  ⟨(some 5), none, .mv (.t 32)⟩,
  ⟨(some 6), none, .mv (.t 34)⟩]
def rLaw24CliquesEdgesX6 : List O := [
  ⟨(some 36), none, .ld (some 2) (.t 4)⟩,
  ⟨(some 37), none, .mv (.t 5)⟩,
  ⟨(some 38), none, .mv (.t 6)⟩,
  ⟨(some 39), none, .call nGraphAdd [(.t 36), (.t 37), (.t 38)]⟩,
  ⟨(some 35), none, .mv (.t 39)⟩,
  ⟨(some 40), none, .ext 0 (.t 35)⟩,
  ⟨(some 41), none, .ext 1 (.t 35)⟩,
  ⟨(some 7), none, .new [(.int .i64 0), (.own 2 [])]⟩,
  ⟨none, none, .st 2 (.t 7) (.t 40)⟩,
  ⟨(some 8), none, .mv (.t 41)⟩]
def rLaw24CliquesEdgesX7 : List O := [
  ⟨(some 42), none, .mv (.t 8)⟩,
  ⟨(some 43), none, .bin .neq (.t 42) (.k (.int .i64 0))⟩]
def rLaw24CliquesEdgesX8 : List O := [
  ⟨(some 44), none, .call nLaw24Awake []⟩,
  ⟨(some 2), none, .mv (.t 44)⟩]
def rLaw24CliquesEdgesX9 : List O := [
  ⟨(some 46), none, .ld (some 2) (.t 4)⟩,
  ⟨(some 47), none, .call nCliquesAll [(.t 46), (.k (.int .i64 4096))]⟩,
  ⟨(some 45), none, .mv (.t 47)⟩,
  ⟨(some 48), none, .ext 0 (.t 45)⟩,
  ⟨(some 49), none, .ext 1 (.t 45)⟩,
  ⟨(some 9), none, .mv (.t 48)⟩,
  ⟨(some 10), none, .mv (.t 49)⟩]
def rLaw24CliquesEdgesX10 : List O := [
  ⟨(some 51), none, .ld (some 2) (.t 7)⟩,
  ⟨(some 52), none, .call nCliquesAll [(.t 51), (.k (.int .i64 4096))]⟩,
  ⟨(some 50), none, .mv (.t 52)⟩,
  ⟨(some 53), none, .ext 0 (.t 50)⟩,
  ⟨(some 54), none, .ext 1 (.t 50)⟩,
  ⟨(some 11), none, .mv (.t 53)⟩,
  ⟨(some 12), none, .mv (.t 54)⟩]
def rLaw24CliquesEdgesX11 : List O := [
  ⟨(some 55), none, .mv (.t 11)⟩,
  ⟨(some 56), none, .len (.t 55)⟩,
  ⟨(some 57), none, .mv (.k (.int .i64 0))⟩]
def rLaw24CliquesEdgesX12 : List O := [
  ⟨(some 58), none, .bin .lss (.t 57) (.t 56)⟩]
def rLaw24CliquesEdgesX13 : List O := [
  ⟨(some 59), none, .ixa 1 (.t 55) (.t 57)⟩,
  ⟨(some 60), none, .ld none (.t 59)⟩,
  ⟨(some 14), none, .mv (.t 60)⟩]
def rLaw24CliquesEdgesX14 : List O := [
  ⟨(some 15), none, .mv (.k (.bool false))⟩]
def rLaw24CliquesEdgesX15 : List O := [
  ⟨(some 61), none, .mv (.t 9)⟩,
  ⟨(some 62), none, .len (.t 61)⟩,
  ⟨(some 63), none, .mv (.k (.int .i64 0))⟩]
def rLaw24CliquesEdgesX16 : List O := [
  ⟨(some 64), none, .bin .lss (.t 63) (.t 62)⟩]
def rLaw24CliquesEdgesX17 : List O := [
  ⟨(some 65), none, .ixa 1 (.t 61) (.t 63)⟩,
  ⟨(some 66), none, .ld none (.t 65)⟩,
  ⟨(some 17), none, .mv (.t 66)⟩]
def rLaw24CliquesEdgesX18 : List O := [
  ⟨(some 67), none, .mv (.t 15)⟩,
  ⟨(some 68), none, .mv (.t 67)⟩,
  ⟨(some 69), (some (68, false)), .mv (.t 14)⟩,
  ⟨(some 70), (some (68, false)), .mv (.t 17)⟩,
  ⟨(some 71), (some (68, false)), .call nRef02Cmp [(.t 69), (.t 70)]⟩,
  ⟨(some 72), (some (68, false)), .bin .eql (.t 71) (.k (.int .i64 0))⟩,
  ⟨(some 73), none, .pick (.t 68) (.k (.bool true)) (.t 72)⟩,
  ⟨(some 15), none, .mv (.t 73)⟩]
def rLaw24CliquesEdgesX19 : List O := [
  ⟨(some 74), none, .bin .add (.t 63) (.k (.int .i64 1))⟩,
  ⟨(some 63), none, .mv (.t 74)⟩]
def lLaw24CliquesEdgesX0 : C := (.seq (.reg rLaw24CliquesEdgesX16 false [] [5, 6, 9, 10, 11, 12, 14, 15, 55, 56, 57, 61, 62, 63, 64]) (.seq (.cond (.t 64) .skip (.exit 2)) (.seq (.blk 3 (.seq (.reg rLaw24CliquesEdgesX17 false [] [5, 6, 9, 10, 11, 12, 14, 15, 17, 55, 56, 57, 61, 62, 63]) (.reg rLaw24CliquesEdgesX18 false [] [5, 6, 9, 10, 11, 12, 14, 15, 55, 56, 57, 61, 62, 63]))) (.reg rLaw24CliquesEdgesX19 false [] [5, 6, 9, 10, 11, 12, 14, 15, 55, 56, 57, 61, 62, 63]))))
def rLaw24CliquesEdgesX20 : List O := [
  ⟨(some 75), none, .mv (.t 15)⟩,
  ⟨(some 76), none, .mv (.t 14)⟩,
  ⟨(some 77), none, .mv (.t 5)⟩,
  ⟨(some 78), none, .call nRef02Has [(.t 76), (.t 77)]⟩,
  ⟨(some 79), none, .mv (.t 78)⟩,
  ⟨(some 80), (some (79, true)), .mv (.t 14)⟩,
  ⟨(some 81), (some (79, true)), .mv (.t 6)⟩,
  ⟨(some 82), (some (79, true)), .call nRef02Has [(.t 80), (.t 81)]⟩,
  ⟨(some 83), none, .pick (.t 79) (.t 82) (.k (.bool false))⟩,
  ⟨(some 84), none, .eq false .bool (.t 75) (.t 83)⟩]
def rLaw24CliquesEdgesX21 : List O := [
  ⟨(some 2), none, .mv (.k (.bool false))⟩]
def rLaw24CliquesEdgesX22 : List O := [
  ⟨(some 85), none, .bin .add (.t 57) (.k (.int .i64 1))⟩,
  ⟨(some 57), none, .mv (.t 85)⟩]
def lLaw24CliquesEdgesX1 : C := (.seq (.reg rLaw24CliquesEdgesX12 false [] [5, 6, 9, 10, 11, 12, 55, 56, 57, 58]) (.seq (.cond (.t 58) .skip (.exit 0)) (.seq (.blk 1 (.seq (.reg rLaw24CliquesEdgesX13 false [] [5, 6, 9, 10, 11, 12, 14, 55, 56, 57]) (.seq (.reg rLaw24CliquesEdgesX14 false [] [5, 6, 9, 10, 11, 12, 14, 15, 55, 56, 57]) (.seq (.seq (.reg rLaw24CliquesEdgesX15 false [] [5, 6, 9, 10, 11, 12, 14, 15, 55, 56, 57, 61, 62, 63]) (.blk 2 (.loop lLaw24CliquesEdgesX0))) (.seq (.reg rLaw24CliquesEdgesX20 false [] [5, 6, 9, 10, 11, 12, 55, 56, 57, 84]) (.cond (.t 84) (.seq (.reg rLaw24CliquesEdgesX21 false [] [2]) .ret) .skip)))))) (.reg rLaw24CliquesEdgesX22 false [] [5, 6, 9, 10, 11, 12, 55, 56, 57]))))
def rLaw24CliquesEdgesX23 : List O := [
  ⟨(some 86), none, .mv (.t 9)⟩,
  ⟨(some 87), none, .len (.t 86)⟩,
  ⟨(some 88), none, .mv (.k (.int .i64 0))⟩]
def rLaw24CliquesEdgesX24 : List O := [
  ⟨(some 89), none, .bin .lss (.t 88) (.t 87)⟩]
def rLaw24CliquesEdgesX25 : List O := [
  ⟨(some 90), none, .ixa 1 (.t 86) (.t 88)⟩,
  ⟨(some 91), none, .ld none (.t 90)⟩,
  ⟨(some 19), none, .mv (.t 91)⟩]
def rLaw24CliquesEdgesX26 : List O := [
  ⟨(some 20), none, .mv (.k (.bool false))⟩]
def rLaw24CliquesEdgesX27 : List O := [
  ⟨(some 92), none, .mv (.t 11)⟩,
  ⟨(some 93), none, .len (.t 92)⟩,
  ⟨(some 94), none, .mv (.k (.int .i64 0))⟩]
def rLaw24CliquesEdgesX28 : List O := [
  ⟨(some 95), none, .bin .lss (.t 94) (.t 93)⟩]
def rLaw24CliquesEdgesX29 : List O := [
  ⟨(some 96), none, .ixa 1 (.t 92) (.t 94)⟩,
  ⟨(some 97), none, .ld none (.t 96)⟩,
  ⟨(some 22), none, .mv (.t 97)⟩]
def rLaw24CliquesEdgesX30 : List O := [
  ⟨(some 98), none, .mv (.t 20)⟩,
  ⟨(some 99), none, .mv (.t 98)⟩,
  ⟨(some 100), (some (99, false)), .mv (.t 19)⟩,
  ⟨(some 101), (some (99, false)), .mv (.t 22)⟩,
  ⟨(some 102), (some (99, false)), .call nRef02Within [(.t 100), (.t 101)]⟩,
  ⟨(some 103), none, .pick (.t 99) (.k (.bool true)) (.t 102)⟩,
  ⟨(some 20), none, .mv (.t 103)⟩]
def rLaw24CliquesEdgesX31 : List O := [
  ⟨(some 104), none, .bin .add (.t 94) (.k (.int .i64 1))⟩,
  ⟨(some 94), none, .mv (.t 104)⟩]
def lLaw24CliquesEdgesX2 : C := (.seq (.reg rLaw24CliquesEdgesX28 false [] [10, 11, 12, 19, 20, 86, 87, 88, 92, 93, 94, 95]) (.seq (.cond (.t 95) .skip (.exit 6)) (.seq (.blk 7 (.seq (.reg rLaw24CliquesEdgesX29 false [] [10, 11, 12, 19, 20, 22, 86, 87, 88, 92, 93, 94]) (.reg rLaw24CliquesEdgesX30 false [] [10, 11, 12, 19, 20, 86, 87, 88, 92, 93, 94]))) (.reg rLaw24CliquesEdgesX31 false [] [10, 11, 12, 19, 20, 86, 87, 88, 92, 93, 94]))))
def rLaw24CliquesEdgesX32 : List O := [
  ⟨(some 105), none, .mv (.t 20)⟩,
  ⟨(some 106), none, .un .not (.t 105)⟩]
def rLaw24CliquesEdgesX33 : List O := [
  ⟨(some 2), none, .mv (.k (.bool false))⟩]
def rLaw24CliquesEdgesX34 : List O := [
  ⟨(some 107), none, .bin .add (.t 88) (.k (.int .i64 1))⟩,
  ⟨(some 88), none, .mv (.t 107)⟩]
def lLaw24CliquesEdgesX3 : C := (.seq (.reg rLaw24CliquesEdgesX24 false [] [10, 11, 12, 86, 87, 88, 89]) (.seq (.cond (.t 89) .skip (.exit 4)) (.seq (.blk 5 (.seq (.reg rLaw24CliquesEdgesX25 false [] [10, 11, 12, 19, 86, 87, 88]) (.seq (.reg rLaw24CliquesEdgesX26 false [] [10, 11, 12, 19, 20, 86, 87, 88]) (.seq (.seq (.reg rLaw24CliquesEdgesX27 false [] [10, 11, 12, 19, 20, 86, 87, 88, 92, 93, 94]) (.blk 6 (.loop lLaw24CliquesEdgesX2))) (.seq (.reg rLaw24CliquesEdgesX32 false [] [10, 11, 12, 86, 87, 88, 106]) (.cond (.t 106) (.seq (.reg rLaw24CliquesEdgesX33 false [] [2]) .ret) .skip)))))) (.reg rLaw24CliquesEdgesX34 false [] [10, 11, 12, 86, 87, 88]))))
def rLaw24CliquesEdgesX35 : List O := [
  ⟨(some 108), none, .mv (.t 10)⟩,
  ⟨(some 109), none, .bin .eql (.t 108) (.k (.int .i64 0))⟩,
  ⟨(some 110), none, .mv (.t 109)⟩,
  ⟨(some 111), (some (110, true)), .mv (.t 12)⟩,
  ⟨(some 112), (some (110, true)), .bin .eql (.t 111) (.k (.int .i64 0))⟩,
  ⟨(some 113), none, .pick (.t 110) (.t 112) (.k (.bool false))⟩,
  ⟨(some 114), none, .mv (.t 113)⟩,
  ⟨(some 115), (some (114, true)), .call nLaw24Awake []⟩,
  ⟨(some 116), none, .pick (.t 114) (.t 115) (.k (.bool false))⟩,
  ⟨(some 2), none, .mv (.t 116)⟩]
def cLaw24CliquesEdges : C := (.seq (.reg rLaw24CliquesEdgesX0 false [] [0]) (.seq (.seq (.reg rLaw24CliquesEdgesX1 false [] [0, 25]) (.cond (.t 25) (.seq (.reg rLaw24CliquesEdgesX2 false [] [2]) .ret) .skip)) (.seq (.reg rLaw24CliquesEdgesX3 false [] [3]) (.seq (.reg rLaw24CliquesEdgesX4 false [] [3, 4]) (.seq (.reg rLaw24CliquesEdgesX5 false [] [4, 5, 6]) (.seq (.reg rLaw24CliquesEdgesX6 false [] [4, 5, 6, 7, 8]) (.seq (.seq (.reg rLaw24CliquesEdgesX7 false [] [4, 5, 6, 7, 43]) (.cond (.t 43) (.seq (.reg rLaw24CliquesEdgesX8 false [] [2]) .ret) .skip)) (.seq (.reg rLaw24CliquesEdgesX9 false [] [5, 6, 7, 9, 10]) (.seq (.reg rLaw24CliquesEdgesX10 false [] [5, 6, 9, 10, 11, 12]) (.seq (.seq (.reg rLaw24CliquesEdgesX11 false [] [5, 6, 9, 10, 11, 12, 55, 56, 57]) (.blk 0 (.loop lLaw24CliquesEdgesX1))) (.seq (.seq (.reg rLaw24CliquesEdgesX23 false [] [10, 11, 12, 86, 87, 88]) (.blk 4 (.loop lLaw24CliquesEdgesX3))) (.seq (.reg rLaw24CliquesEdgesX35 false [] [2]) .ret))))))))))))
def qLaw24CliquesEdges : AFn := ⟨117, 1, [.t 2], cLaw24CliquesEdges⟩
/- cohesion/cohesionlaw24.CliquesCover -/
def rLaw24CliquesCoverX0 : List O := [
  ⟨(some 4), none, .mv (.k (.bool false))⟩]
def rLaw24CliquesCoverX1 : List O := [
  ⟨(some 24), none, .mv (.t 0)⟩,
  ⟨(some 25), none, .call nMakeFew [(.t 24)]⟩,
  ⟨(some 26), none, .un .not (.t 25)⟩,
  ⟨(some 27), none, .mv (.t 26)⟩,
  ⟨(some 28), (some (27, false)), .mv (.t 1)⟩,
  ⟨(some 29), (some (27, false)), .len (.t 28)⟩,
  ⟨(some 30), (some (27, false)), .bin .gtr (.t 29) (.k (.int .i64 20))⟩,
  ⟨(some 31), none, .pick (.t 27) (.k (.bool true)) (.t 30)⟩]
def rLaw24CliquesCoverX2 : List O := [
  ⟨(some 32), none, .call nLaw24Awake []⟩,
  ⟨(some 4), none, .mv (.t 32)⟩]
def rLaw24CliquesCoverX3 : List O := [
  ⟨(some 33), none, .mv (.t 0)⟩,
  ⟨(some 34), none, .call nMakeNew [(.t 33)]⟩,
  ⟨(some 5), none, .mv (.t 34)⟩]
def rLaw24CliquesCoverX4 : List O := [
  ⟨(some 35), none, .mv (.t 5)⟩,
  ⟨(some 36), none, .call nMakeGraph [(.t 35), (.k (.int .i64 8))]⟩,
  ⟨(some 6), none, .new [(.int .i64 0), (.own 2 [])]⟩,
  ⟨none, none, .st 2 (.t 6) (.t 36)⟩]
def rLaw24CliquesCoverX5 : List O := [
  ⟨(some 38), none, .ld (some 2) (.t 6)⟩,
  ⟨(some 39), none, .call nCliquesAll [(.t 38), (.k (.int .i64 4096))]⟩,
  ⟨(some 37), none, .mv (.t 39)⟩,
  ⟨(some 40), none, .ext 0 (.t 37)⟩,
  ⟨(some 41), none, .ext 1 (.t 37)⟩,
  ⟨(some 7), none, .mv (.t 40)⟩,
  ⟨(some 8), none, .mv (.t 41)⟩]
def rLaw24CliquesCoverX6 : List O := [
  ⟨(some 9), none, .mv (.k (.own 2 []))⟩]
def rLaw24CliquesCoverX7 : List O := [
  ⟨(some 10), none, .mv (.k (.own 1 []))⟩]
def rLaw24CliquesCoverX8 : List O := [
  ⟨(some 42), none, .mv (.t 7)⟩,
  ⟨(some 43), none, .len (.t 42)⟩,
  ⟨(some 44), none, .mv (.k (.int .i64 0))⟩]
def rLaw24CliquesCoverX9 : List O := [
  ⟨(some 45), none, .bin .lss (.t 44) (.t 43)⟩]
def rLaw24CliquesCoverX10 : List O := [
  ⟨(some 46), none, .ixa 1 (.t 42) (.t 44)⟩,
  ⟨(some 47), none, .ld none (.t 46)⟩,
  ⟨(some 12), none, .mv (.t 47)⟩]
def rLaw24CliquesCoverX11 : List O := [
  ⟨(some 48), none, .ld (some 2) (.t 6)⟩,
  ⟨(some 49), none, .mv (.t 12)⟩,
  ⟨(some 50), none, .call nCliquesMaximal [(.t 48), (.t 49)]⟩,
  ⟨(some 51), none, .un .not (.t 50)⟩]
def rLaw24CliquesCoverX12 : List O := [
  ⟨(some 4), none, .mv (.k (.bool false))⟩]
def rLaw24CliquesCoverX13 : List O := [
  ⟨(some 52), none, .mv (.t 10)⟩,
  ⟨(some 53), none, .mv (.t 12)⟩,
  ⟨(some 54), none, .app 1 (.t 52) (.t 53)⟩,
  ⟨(some 10), none, .mv (.t 54)⟩]
def rLaw24CliquesCoverX14 : List O := [
  ⟨(some 55), none, .mv (.t 12)⟩,
  ⟨(some 56), none, .len (.t 55)⟩,
  ⟨(some 57), none, .mv (.k (.int .i64 0))⟩]
def rLaw24CliquesCoverX15 : List O := [
  ⟨(some 58), none, .bin .lss (.t 57) (.t 56)⟩]
def rLaw24CliquesCoverX16 : List O := [
  ⟨(some 59), none, .mv (.t 57)⟩,
  ⟨(some 13), none, .mv (.t 59)⟩]
def rLaw24CliquesCoverX17 : List O := [
  ⟨(some 60), none, .mv (.t 13)⟩,
  ⟨(some 61), none, .bin .add (.t 60) (.k (.int .i64 1))⟩,
  ⟨(some 14), none, .mv (.t 61)⟩]
def rLaw24CliquesCoverX18 : List O := [
  ⟨(some 62), none, .mv (.t 14)⟩,
  ⟨(some 63), none, .mv (.t 12)⟩,
  ⟨(some 64), none, .len (.t 63)⟩,
  ⟨(some 65), none, .bin .lss (.t 62) (.t 64)⟩]
def rLaw24CliquesCoverX19 : List O := [
  ⟨(some 68), none, .mv (.t 9)⟩,
  ⟨(some 69), none, .mv (.t 12)⟩,
  ⟨(some 70), none, .mv (.t 13)⟩,
  ⟨(some 71), none, .ixa 1 (.t 69) (.t 70)⟩,
  ⟨(some 72), none, .ld none (.t 71)⟩,
  ⟨(some 73), none, .mv (.t 12)⟩,
  ⟨(some 74), none, .mv (.t 14)⟩,
  ⟨(some 75), none, .ixa 1 (.t 73) (.t 74)⟩,
  ⟨(some 76), none, .ld none (.t 75)⟩,
  ⟨(some 77), none, .build [(.int .i64 0), (.int .i64 0)] [(0, 1, (.t 72)), (1, 1, (.t 76))]⟩,
  ⟨(some 78), none, .bslice 2 1 [(.int .i64 0), (.int .i64 0)] [(0, 2, (.t 77))]⟩,
  ⟨(some 79), none, .app 2 (.t 68) (.t 78)⟩,
  ⟨(some 9), none, .mv (.t 79)⟩]
def rLaw24CliquesCoverX20 : List O := [
  ⟨(some 66), none, .mv (.t 14)⟩,
  ⟨(some 67), none, .bin .add (.t 66) (.k (.int .i64 1))⟩,
  ⟨(some 14), none, .mv (.t 67)⟩]
def lLaw24CliquesCoverX0 : C := (.seq (.seq (.reg rLaw24CliquesCoverX18 false [] [1, 5, 6, 7, 8, 9, 10, 12, 13, 14, 42, 43, 44, 56, 57, 65]) (.cond (.t 65) .skip (.exit 4))) (.seq (.blk 5 (.reg rLaw24CliquesCoverX19 true [(11, 11), (12, 12), (0, 4), (4, 5), (4, 6), (4, 7), (0, 8), (1, 8), (2, 8), (3, 8), (4, 8), (0, 10)] [1, 5, 6, 7, 8, 9, 10, 12, 13, 14, 42, 43, 44, 56, 57])) (.reg rLaw24CliquesCoverX20 false [] [1, 5, 6, 7, 8, 9, 10, 12, 13, 14, 42, 43, 44, 56, 57])))
def rLaw24CliquesCoverX21 : List O := [
  ⟨(some 80), none, .bin .add (.t 57) (.k (.int .i64 1))⟩,
  ⟨(some 57), none, .mv (.t 80)⟩]
def lLaw24CliquesCoverX1 : C := (.seq (.reg rLaw24CliquesCoverX15 false [] [1, 5, 6, 7, 8, 9, 10, 12, 42, 43, 44, 56, 57, 58]) (.seq (.cond (.t 58) .skip (.exit 2)) (.seq (.blk 3 (.seq (.reg rLaw24CliquesCoverX16 false [] [1, 5, 6, 7, 8, 9, 10, 12, 13, 42, 43, 44, 56, 57]) (.seq (.reg rLaw24CliquesCoverX17 false [] [1, 5, 6, 7, 8, 9, 10, 12, 13, 14, 42, 43, 44, 56, 57]) (.blk 4 (.loop lLaw24CliquesCoverX0))))) (.reg rLaw24CliquesCoverX21 false [] [1, 5, 6, 7, 8, 9, 10, 12, 42, 43, 44, 56, 57]))))
def rLaw24CliquesCoverX22 : List O := [
  ⟨(some 81), none, .bin .add (.t 44) (.k (.int .i64 1))⟩,
  ⟨(some 44), none, .mv (.t 81)⟩]
def lLaw24CliquesCoverX2 : C := (.seq (.reg rLaw24CliquesCoverX9 false [] [1, 5, 6, 7, 8, 9, 10, 42, 43, 44, 45]) (.seq (.cond (.t 45) .skip (.exit 0)) (.seq (.blk 1 (.seq (.reg rLaw24CliquesCoverX10 false [] [1, 5, 6, 7, 8, 9, 10, 12, 42, 43, 44]) (.seq (.seq (.reg rLaw24CliquesCoverX11 false [] [1, 5, 6, 7, 8, 9, 10, 12, 42, 43, 44, 51]) (.cond (.t 51) (.seq (.reg rLaw24CliquesCoverX12 false [] [4]) .ret) .skip)) (.seq (.reg rLaw24CliquesCoverX13 false [] [1, 5, 6, 7, 8, 9, 10, 12, 42, 43, 44]) (.seq (.reg rLaw24CliquesCoverX14 false [] [1, 5, 6, 7, 8, 9, 10, 12, 42, 43, 44, 56, 57]) (.blk 2 (.loop lLaw24CliquesCoverX1))))))) (.reg rLaw24CliquesCoverX22 false [] [1, 5, 6, 7, 8, 9, 10, 42, 43, 44]))))
def rLaw24CliquesCoverX23 : List O := [
  ⟨(some 83), none, .fad 0 (.t 6)⟩,
  ⟨(some 84), none, .ld none (.t 83)⟩,
  ⟨(some 85), none, .mv (.t 9)⟩,
  ⟨(some 86), none, .call nGraphOf [(.t 84), (.t 85)]⟩,
  ⟨(some 82), none, .mv (.t 86)⟩,
  ⟨(some 87), none, .ext 0 (.t 82)⟩,
  ⟨(some 88), none, .ext 1 (.t 82)⟩,
  ⟨(some 15), none, .new [(.int .i64 0), (.own 2 [])]⟩,
  ⟨none, none, .st 2 (.t 15) (.t 87)⟩,
  ⟨(some 16), none, .mv (.t 88)⟩]
def rLaw24CliquesCoverX24 : List O := [
  ⟨(some 89), none, .mv (.t 8)⟩,
  ⟨(some 90), none, .bin .neq (.t 89) (.k (.int .i64 0))⟩,
  ⟨(some 91), none, .mv (.t 90)⟩,
  ⟨(some 92), (some (91, false)), .mv (.t 16)⟩,
  ⟨(some 93), (some (91, false)), .bin .neq (.t 92) (.k (.int .i64 0))⟩,
  ⟨(some 94), none, .pick (.t 91) (.k (.bool true)) (.t 93)⟩,
  ⟨(some 95), none, .mv (.t 94)⟩,
  ⟨(some 96), (some (95, false)), .ld (some 2) (.t 6)⟩,
  ⟨(some 97), (some (95, false)), .ld (some 2) (.t 15)⟩,
  ⟨(some 98), (some (95, false)), .call nRef03Same [(.t 96), (.t 97)]⟩,
  ⟨(some 99), (some (95, false)), .un .not (.t 98)⟩,
  ⟨(some 100), none, .pick (.t 95) (.k (.bool true)) (.t 99)⟩,
  ⟨(some 101), none, .mv (.t 100)⟩,
  ⟨(some 102), (some (101, false)), .mv (.t 10)⟩,
  ⟨(some 103), (some (101, false)), .call nRef02Of [(.t 102)]⟩,
  ⟨(some 104), (some (101, false)), .fad 0 (.t 6)⟩,
  ⟨(some 105), (some (101, false)), .ld none (.t 104)⟩,
  ⟨(some 106), (some (101, false)), .call nRef02Range [(.t 105)]⟩,
  ⟨(some 107), (some (101, false)), .call nRef02Cmp [(.t 103), (.t 106)]⟩,
  ⟨(some 108), (some (101, false)), .bin .neq (.t 107) (.k (.int .i64 0))⟩,
  ⟨(some 109), none, .pick (.t 101) (.k (.bool true)) (.t 108)⟩]
def rLaw24CliquesCoverX25 : List O := [
  ⟨(some 4), none, .mv (.k (.bool false))⟩]
def rLaw24CliquesCoverX26 : List O := [
  ⟨(some 110), none, .mv (.t 1)⟩,
  ⟨(some 111), none, .mv (.t 5)⟩,
  ⟨(some 112), none, .fad 0 (.t 6)⟩,
  ⟨(some 113), none, .ld none (.t 112)⟩,
  ⟨(some 114), none, .call nMakeSet [(.t 111), (.t 113)]⟩,
  ⟨(some 115), none, .bslice 1 3 [(.own 1 [])] [(0, 1, (.t 110)), (1, 1, (.t 114)), (2, 1, (.k (.own 1 [])))]⟩,
  ⟨(some 116), none, .len (.t 115)⟩,
  ⟨(some 117), none, .mv (.k (.int .i64 0))⟩]
def rLaw24CliquesCoverX27 : List O := [
  ⟨(some 118), none, .bin .lss (.t 117) (.t 116)⟩]
def rLaw24CliquesCoverX28 : List O := [
  ⟨(some 119), none, .ixa 1 (.t 115) (.t 117)⟩,
  ⟨(some 120), none, .ld none (.t 119)⟩,
  ⟨(some 18), none, .mv (.t 120)⟩]
def rLaw24CliquesCoverX29 : List O := [
  ⟨(some 121), none, .fad 0 (.t 6)⟩,
  ⟨(some 122), none, .ld none (.t 121)⟩,
  ⟨(some 123), none, .bin .eql (.t 122) (.k (.int .i64 0))⟩,
  ⟨(some 124), none, .mv (.t 123)⟩,
  ⟨(some 125), (some (124, false)), .ld (some 2) (.t 6)⟩,
  ⟨(some 126), (some (124, false)), .mv (.t 18)⟩,
  ⟨(some 127), (some (124, false)), .call nCliquesIs [(.t 125), (.t 126)]⟩,
  ⟨(some 128), (some (124, false)), .un .not (.t 127)⟩,
  ⟨(some 129), none, .pick (.t 124) (.k (.bool true)) (.t 128)⟩]
def rLaw24CliquesCoverX30 : List O := [
  ⟨(some 131), none, .ld (some 2) (.t 6)⟩,
  ⟨(some 132), none, .mv (.t 18)⟩,
  ⟨(some 133), none, .call nCliquesExtend [(.t 131), (.t 132)]⟩,
  ⟨(some 130), none, .mv (.t 133)⟩,
  ⟨(some 134), none, .ext 0 (.t 130)⟩,
  ⟨(some 135), none, .ext 1 (.t 130)⟩,
  ⟨(some 19), none, .mv (.t 134)⟩,
  ⟨(some 20), none, .mv (.t 135)⟩]
def rLaw24CliquesCoverX31 : List O := [
  ⟨(some 21), none, .mv (.k (.bool false))⟩]
def rLaw24CliquesCoverX32 : List O := [
  ⟨(some 136), none, .mv (.t 7)⟩,
  ⟨(some 137), none, .len (.t 136)⟩,
  ⟨(some 138), none, .mv (.k (.int .i64 0))⟩]
def rLaw24CliquesCoverX33 : List O := [
  ⟨(some 139), none, .bin .lss (.t 138) (.t 137)⟩]
def rLaw24CliquesCoverX34 : List O := [
  ⟨(some 140), none, .ixa 1 (.t 136) (.t 138)⟩,
  ⟨(some 141), none, .ld none (.t 140)⟩,
  ⟨(some 23), none, .mv (.t 141)⟩]
def rLaw24CliquesCoverX35 : List O := [
  ⟨(some 142), none, .mv (.t 21)⟩,
  ⟨(some 143), none, .mv (.t 142)⟩,
  ⟨(some 144), (some (143, false)), .mv (.t 19)⟩,
  ⟨(some 145), (some (143, false)), .mv (.t 23)⟩,
  ⟨(some 146), (some (143, false)), .call nRef02Cmp [(.t 144), (.t 145)]⟩,
  ⟨(some 147), (some (143, false)), .bin .eql (.t 146) (.k (.int .i64 0))⟩,
  ⟨(some 148), none, .pick (.t 143) (.k (.bool true)) (.t 147)⟩,
  ⟨(some 21), none, .mv (.t 148)⟩]
def rLaw24CliquesCoverX36 : List O := [
  ⟨(some 149), none, .bin .add (.t 138) (.k (.int .i64 1))⟩,
  ⟨(some 138), none, .mv (.t 149)⟩]
def lLaw24CliquesCoverX3 : C := (.seq (.reg rLaw24CliquesCoverX33 false [] [6, 7, 18, 19, 20, 21, 115, 116, 117, 136, 137, 138, 139]) (.seq (.cond (.t 139) .skip (.exit 8)) (.seq (.blk 9 (.seq (.reg rLaw24CliquesCoverX34 false [] [6, 7, 18, 19, 20, 21, 23, 115, 116, 117, 136, 137, 138]) (.reg rLaw24CliquesCoverX35 false [] [6, 7, 18, 19, 20, 21, 115, 116, 117, 136, 137, 138]))) (.reg rLaw24CliquesCoverX36 false [] [6, 7, 18, 19, 20, 21, 115, 116, 117, 136, 137, 138]))))
def rLaw24CliquesCoverX37 : List O := [
  ⟨(some 150), none, .mv (.t 20)⟩,
  ⟨(some 151), none, .bin .neq (.t 150) (.k (.int .i64 0))⟩,
  ⟨(some 152), none, .mv (.t 151)⟩,
  ⟨(some 153), (some (152, false)), .mv (.t 21)⟩,
  ⟨(some 154), (some (152, false)), .un .not (.t 153)⟩,
  ⟨(some 155), none, .pick (.t 152) (.k (.bool true)) (.t 154)⟩,
  ⟨(some 156), none, .mv (.t 155)⟩,
  ⟨(some 157), (some (156, false)), .mv (.t 18)⟩,
  ⟨(some 158), (some (156, false)), .mv (.t 19)⟩,
  ⟨(some 159), (some (156, false)), .call nRef02Within [(.t 157), (.t 158)]⟩,
  ⟨(some 160), (some (156, false)), .un .not (.t 159)⟩,
  ⟨(some 161), none, .pick (.t 156) (.k (.bool true)) (.t 160)⟩]
def rLaw24CliquesCoverX38 : List O := [
  ⟨(some 4), none, .mv (.k (.bool false))⟩]
def rLaw24CliquesCoverX39 : List O := [
  ⟨(some 162), none, .bin .add (.t 117) (.k (.int .i64 1))⟩,
  ⟨(some 117), none, .mv (.t 162)⟩]
def lLaw24CliquesCoverX4 : C := (.seq (.reg rLaw24CliquesCoverX27 false [] [6, 7, 115, 116, 117, 118]) (.seq (.cond (.t 118) .skip (.exit 6)) (.seq (.blk 7 (.seq (.reg rLaw24CliquesCoverX28 false [] [6, 7, 18, 115, 116, 117]) (.seq (.seq (.reg rLaw24CliquesCoverX29 false [] [6, 7, 18, 115, 116, 117, 129]) (.cond (.t 129) (.exit 7) .skip)) (.seq (.reg rLaw24CliquesCoverX30 false [] [6, 7, 18, 19, 20, 115, 116, 117]) (.seq (.reg rLaw24CliquesCoverX31 false [] [6, 7, 18, 19, 20, 21, 115, 116, 117]) (.seq (.seq (.reg rLaw24CliquesCoverX32 false [] [6, 7, 18, 19, 20, 21, 115, 116, 117, 136, 137, 138]) (.blk 8 (.loop lLaw24CliquesCoverX3))) (.seq (.reg rLaw24CliquesCoverX37 false [] [6, 7, 115, 116, 117, 161]) (.cond (.t 161) (.seq (.reg rLaw24CliquesCoverX38 false [] [4]) .ret) .skip)))))))) (.reg rLaw24CliquesCoverX39 false [] [6, 7, 115, 116, 117]))))
def rLaw24CliquesCoverX40 : List O := [
  ⟨(some 163), none, .call nLaw24Awake []⟩,
  ⟨(some 4), none, .mv (.t 163)⟩]
def cLaw24CliquesCover : C := (.seq (.reg rLaw24CliquesCoverX0 false [] [0, 1]) (.seq (.seq (.reg rLaw24CliquesCoverX1 false [] [0, 1, 31]) (.cond (.t 31) (.seq (.reg rLaw24CliquesCoverX2 false [] [4]) .ret) .skip)) (.seq (.reg rLaw24CliquesCoverX3 false [] [1, 5]) (.seq (.reg rLaw24CliquesCoverX4 false [] [1, 5, 6]) (.seq (.reg rLaw24CliquesCoverX5 false [] [1, 5, 6, 7, 8]) (.seq (.reg rLaw24CliquesCoverX6 false [] [1, 5, 6, 7, 8, 9]) (.seq (.reg rLaw24CliquesCoverX7 false [] [1, 5, 6, 7, 8, 9, 10]) (.seq (.seq (.reg rLaw24CliquesCoverX8 false [] [1, 5, 6, 7, 8, 9, 10, 42, 43, 44]) (.blk 0 (.loop lLaw24CliquesCoverX2))) (.seq (.reg rLaw24CliquesCoverX23 false [] [1, 5, 6, 7, 8, 10, 15, 16]) (.seq (.seq (.reg rLaw24CliquesCoverX24 true [(0, 0), (1, 1), (2, 2), (3, 3), (4, 4), (5, 5), (6, 6), (9, 9), (10, 10), (11, 11), (12, 12), (17, 17), (18, 18), (19, 19), (20, 20), (7, 8), (14, 15), (13, 16), (14, 16)] [1, 5, 6, 7, 109]) (.cond (.t 109) (.seq (.reg rLaw24CliquesCoverX25 false [] [4]) .ret) .skip)) (.seq (.seq (.reg rLaw24CliquesCoverX26 false [] [6, 7, 115, 116, 117]) (.blk 6 (.loop lLaw24CliquesCoverX4))) (.seq (.reg rLaw24CliquesCoverX40 false [] [4]) .ret))))))))))))
def qLaw24CliquesCover : AFn := ⟨164, 2, [.t 4], cLaw24CliquesCover⟩
/- cohesion/cliques.All -/
def rCliquesAllX0 : List O := [
  ⟨(some 2), none, .box (.t 0)⟩,
  ⟨(some 3), none, .box (.t 1)⟩,
  ⟨(some 4), none, .mv (.k (.own 1 []))⟩,
  ⟨(some 5), none, .mv (.k (.int .i64 0))⟩]
def rCliquesAllX1 : List O := [
  ⟨(some 8), none, .ld (some 2) (.t 2)⟩,
  ⟨(some 9), none, .call nGraphCheck [(.t 8)]⟩,
  ⟨(some 6), none, .mv (.t 9)⟩]
def rCliquesAllX2 : List O := [
  ⟨(some 10), none, .mv (.t 6)⟩,
  ⟨(some 11), none, .bin .neq (.t 10) (.k (.int .i64 0))⟩]
def rCliquesAllX3 : List O := [
  ⟨(some 12), none, .mv (.t 6)⟩,
  ⟨(some 4), none, .mv (.k (.own 1 []))⟩,
  ⟨(some 5), none, .mv (.t 12)⟩]
def rCliquesAllX4 : List O := [
  ⟨(some 13), none, .ld none (.t 3)⟩,
  ⟨(some 14), none, .bin .lss (.t 13) (.k (.int .i64 0))⟩,
  ⟨(some 15), none, .mv (.t 14)⟩,
  ⟨(some 16), (some (15, false)), .ld none (.t 3)⟩,
  ⟨(some 17), (some (15, false)), .bin .gtr (.t 16) (.k (.int .i64 4096))⟩,
  ⟨(some 18), none, .pick (.t 15) (.k (.bool true)) (.t 17)⟩]
def rCliquesAllX5 : List O := [
  ⟨(some 4), none, .mv (.k (.own 1 []))⟩,
  ⟨(some 5), none, .mv (.k (.int .i64 1))⟩]
def rCliquesAllX6 : List O := [
  ⟨(some 7), none, .new [(.own 1 [])]⟩]
def rCliquesAllX7 : List O := [
  ⟨(some 19), none, .ld (some 2) (.t 2)⟩,
  ⟨(some 20), none, .mkf (.func nCliquesAll1) [] [(.t 7), (.t 3)]⟩,
  ⟨(some 21), none, .call nCliquesEach [(.t 19), (.k (.own 1 [])), (.t 20)]⟩]
def rCliquesAllX8 : List O := [
  ⟨(some 22), none, .ld none (.t 7)⟩,
  ⟨(some 23), none, .len (.t 22)⟩,
  ⟨(some 24), none, .ld none (.t 3)⟩,
  ⟨(some 25), none, .bin .gtr (.t 23) (.t 24)⟩]
def rCliquesAllX9 : List O := [
  ⟨(some 4), none, .mv (.k (.own 1 []))⟩,
  ⟨(some 5), none, .mv (.k (.int .i64 3))⟩]
def rCliquesAllX10 : List O := [
  ⟨(some 26), none, .ld none (.t 7)⟩,
  ⟨(some 4), none, .mv (.t 26)⟩,
  ⟨(some 5), none, .mv (.k (.int .i64 0))⟩]
def cCliquesAll : C := (.seq (.reg rCliquesAllX0 false [] [2, 3]) (.seq (.seq (.reg rCliquesAllX1 false [] [2, 3, 6]) (.seq (.reg rCliquesAllX2 false [] [2, 3, 6, 11]) (.cond (.t 11) (.seq (.reg rCliquesAllX3 false [] [4, 5]) .ret) .skip))) (.seq (.seq (.reg rCliquesAllX4 false [] [2, 3, 18]) (.cond (.t 18) (.seq (.reg rCliquesAllX5 false [] [4, 5]) .ret) .skip)) (.seq (.reg rCliquesAllX6 false [] [2, 3, 7]) (.seq (.reg rCliquesAllX7 false [] [3, 7]) (.seq (.seq (.reg rCliquesAllX8 false [] [7, 25]) (.cond (.t 25) (.seq (.reg rCliquesAllX9 false [] [4, 5]) .ret) .skip)) (.seq (.reg rCliquesAllX10 false [] [4, 5]) .ret)))))))
def qCliquesAll : AFn := ⟨27, 2, [.t 4, .t 5], cCliquesAll⟩
/- cohesion/cohesionlaw24.awake -/
def rLaw24AwakeX0 : List O := [
  ⟨(some 0), none, .mv (.k (.bool false))⟩]
def rLaw24AwakeX1 : List O := [
  ⟨(some 8), none, .build [(.int .i64 0), (.int .i64 0)] [(0, 1, (.k (.int .i64 0))), (1, 1, (.k (.int .i64 1)))]⟩,
  ⟨(some 9), none, .build [(.int .i64 0), (.int .i64 0)] [(0, 1, (.k (.int .i64 1))), (1, 1, (.k (.int .i64 2)))]⟩,
  ⟨(some 10), none, .bslice 2 2 [(.int .i64 0), (.int .i64 0)] [(0, 2, (.t 8)), (2, 2, (.t 9))]⟩,
  ⟨(some 11), none, .call nRef03Of [(.k (.int .i64 4)), (.t 10)]⟩,
  ⟨(some 7), none, .mv (.t 11)⟩,
  ⟨(some 12), none, .ext 0 (.t 7)⟩,
  ⟨(some 13), none, .ext 1 (.t 7)⟩,
  ⟨(some 1), none, .new [(.int .i64 0), (.own 2 [])]⟩,
  ⟨none, none, .st 2 (.t 1) (.t 12)⟩,
  ⟨(some 2), none, .mv (.t 13)⟩]
def rLaw24AwakeX2 : List O := [
  ⟨(some 15), none, .ld (some 2) (.t 1)⟩,
  ⟨(some 16), none, .call nCliquesAll [(.t 15), (.k (.int .i64 9))]⟩,
  ⟨(some 14), none, .mv (.t 16)⟩,
  ⟨(some 17), none, .ext 0 (.t 14)⟩,
  ⟨(some 18), none, .ext 1 (.t 14)⟩,
  ⟨(some 3), none, .mv (.t 17)⟩,
  ⟨(some 4), none, .mv (.t 18)⟩]
def rLaw24AwakeX3 : List O := [
  ⟨(some 20), none, .ld (some 2) (.t 1)⟩,
  ⟨(some 21), none, .bslice 1 1 [(.int .i64 0)] [(0, 1, (.k (.int .i64 2)))]⟩,
  ⟨(some 22), none, .call nCliquesExtend [(.t 20), (.t 21)]⟩,
  ⟨(some 19), none, .mv (.t 22)⟩,
  ⟨(some 23), none, .ext 0 (.t 19)⟩,
  ⟨(some 24), none, .ext 1 (.t 19)⟩,
  ⟨(some 5), none, .mv (.t 23)⟩,
  ⟨(some 6), none, .mv (.t 24)⟩]
def rLaw24AwakeX4 : List O := [
  ⟨(some 25), none, .mv (.t 4)⟩,
  ⟨(some 26), none, .bin .eql (.t 25) (.k (.int .i64 0))⟩,
  ⟨(some 27), none, .mv (.t 26)⟩,
  ⟨(some 28), (some (27, true)), .mv (.t 3)⟩,
  ⟨(some 29), (some (27, true)), .len (.t 28)⟩,
  ⟨(some 30), (some (27, true)), .bin .eql (.t 29) (.k (.int .i64 3))⟩,
  ⟨(some 31), none, .pick (.t 27) (.t 30) (.k (.bool false))⟩,
  ⟨(some 32), none, .mv (.t 31)⟩,
  ⟨(some 33), (some (32, true)), .mv (.t 3)⟩,
  ⟨(some 34), (some (32, true)), .ixa 1 (.t 33) (.k (.int .i64 1))⟩,
  ⟨(some 35), (some (32, true)), .ld none (.t 34)⟩,
  ⟨(some 36), (some (32, true)), .bslice 1 2 [(.int .i64 0)] [(0, 1, (.k (.int .i64 1))), (1, 1, (.k (.int .i64 2)))]⟩,
  ⟨(some 37), (some (32, true)), .call nRef02Cmp [(.t 35), (.t 36)]⟩,
  ⟨(some 38), (some (32, true)), .bin .eql (.t 37) (.k (.int .i64 0))⟩,
  ⟨(some 39), none, .pick (.t 32) (.t 38) (.k (.bool false))⟩,
  ⟨(some 40), none, .mv (.t 39)⟩,
  ⟨(some 41), (some (40, true)), .mv (.t 3)⟩,
  ⟨(some 42), (some (40, true)), .ixa 1 (.t 41) (.k (.int .i64 2))⟩,
  ⟨(some 43), (some (40, true)), .ld none (.t 42)⟩,
  ⟨(some 44), (some (40, true)), .bslice 1 1 [(.int .i64 0)] [(0, 1, (.k (.int .i64 3)))]⟩,
  ⟨(some 45), (some (40, true)), .call nRef02Cmp [(.t 43), (.t 44)]⟩,
  ⟨(some 46), (some (40, true)), .bin .eql (.t 45) (.k (.int .i64 0))⟩,
  ⟨(some 47), none, .pick (.t 40) (.t 46) (.k (.bool false))⟩,
  ⟨(some 48), none, .mv (.t 47)⟩,
  ⟨(some 49), (some (48, true)), .mv (.t 6)⟩,
  ⟨(some 50), (some (48, true)), .bin .eql (.t 49) (.k (.int .i64 0))⟩,
  ⟨(some 51), none, .pick (.t 48) (.t 50) (.k (.bool false))⟩,
  ⟨(some 52), none, .mv (.t 51)⟩,
  ⟨(some 53), (some (52, true)), .mv (.t 5)⟩,
  ⟨(some 54), (some (52, true)), .bslice 1 2 [(.int .i64 0)] [(0, 1, (.k (.int .i64 1))), (1, 1, (.k (.int .i64 2)))]⟩,
  ⟨(some 55), (some (52, true)), .call nRef02Cmp [(.t 53), (.t 54)]⟩,
  ⟨(some 56), (some (52, true)), .bin .eql (.t 55) (.k (.int .i64 0))⟩,
  ⟨(some 57), none, .pick (.t 52) (.t 56) (.k (.bool false))⟩,
  ⟨(some 58), none, .mv (.t 57)⟩,
  ⟨(some 59), (some (58, true)), .ld (some 2) (.t 1)⟩,
  ⟨(some 60), (some (58, true)), .mv (.t 3)⟩,
  ⟨(some 61), (some (58, true)), .call nCliquesCheck [(.t 59), (.t 60)]⟩,
  ⟨(some 62), none, .pick (.t 58) (.t 61) (.k (.bool false))⟩,
  ⟨(some 0), none, .mv (.t 62)⟩]
def cLaw24Awake : C := (.seq (.reg rLaw24AwakeX0 false [] []) (.seq (.reg rLaw24AwakeX1 false [] [1]) (.seq (.reg rLaw24AwakeX2 false [] [1, 3, 4]) (.seq (.reg rLaw24AwakeX3 false [] [1, 3, 4, 5, 6]) (.seq (.reg rLaw24AwakeX4 false [] [0]) .ret)))))
def qLaw24Awake : AFn := ⟨63, 0, [.t 0], cLaw24Awake⟩
/- cohesion/cohesionmake.Few -/
def rMakeFewX0 : List O := [
  ⟨(some 2), none, .mv (.k (.bool false))⟩]
def rMakeFewX1 : List O := [
  ⟨(some 3), none, .mv (.t 0)⟩,
  ⟨(some 4), none, .len (.t 3)⟩,
  ⟨(some 5), none, .bin .leq (.t 4) (.k (.int .i64 500))⟩,
  ⟨(some 2), none, .mv (.t 5)⟩]
def cMakeFew : C := (.seq (.reg rMakeFewX0 false [] [0]) (.seq (.reg rMakeFewX1 false [] [2]) .ret))
def qMakeFew : AFn := ⟨6, 1, [.t 2], cMakeFew⟩
/- cohesion/cohesionmake.New -/
def rMakeNewX0 : List O := [
  ⟨(some 2), none, .mv (.k .nilp)⟩]
def rMakeNewX1 : List O := [
  ⟨(some 3), none, .mv (.t 0)⟩,
  ⟨(some 4), none, .build [(.own 1 []), (.int .i64 0)] [(0, 1, (.t 3))]⟩,
  ⟨(some 5), none, .box (.t 4)⟩,
  ⟨(some 2), none, .mv (.t 5)⟩]
def cMakeNew : C := (.seq (.reg rMakeNewX0 false [] [0]) (.seq (.reg rMakeNewX1 false [] [2]) .ret))
def qMakeNew : AFn := ⟨6, 1, [.t 2], cMakeNew⟩
/- cohesion/cohesionmake.Graph -/
def rMakeGraphX0 : List O := [
  ⟨(some 4), none, .new [(.int .i64 0), (.own 2 [])]⟩]
def rMakeGraphX1 : List O := [
  ⟨(some 9), none, .mv (.t 0)⟩,
  ⟨(some 10), none, .mv (.t 1)⟩,
  ⟨(some 11), none, .bin .add (.t 10) (.k (.int .i64 1))⟩,
  ⟨(some 12), none, .call nMakeDeckNext [(.t 9), (.t 11)]⟩,
  ⟨(some 13), none, .build [(.int .i64 0), (.own 2 [])] [(0, 1, (.t 12))]⟩,
  ⟨(some 5), none, .new [(.int .i64 0), (.own 2 [])]⟩,
  ⟨none, none, .st 2 (.t 5) (.t 13)⟩]
def rMakeGraphX2 : List O := [
  ⟨(some 14), none, .fad 0 (.t 5)⟩,
  ⟨(some 15), none, .ld none (.t 14)⟩,
  ⟨(some 16), none, .bin .lss (.t 15) (.k (.int .i64 4))⟩]
def rMakeGraphX3 : List O := [
  ⟨(some 17), none, .mv (.t 1)⟩,
  ⟨(some 18), none, .fad 0 (.t 5)⟩,
  ⟨(some 19), none, .ld none (.t 18)⟩,
  ⟨(some 20), none, .mv (.t 0)⟩,
  ⟨(some 21), none, .mv (.t 1)⟩,
  ⟨(some 22), none, .bin .add (.t 21) (.k (.int .i64 1))⟩,
  ⟨(some 23), none, .call nMakeDeckNext [(.t 20), (.t 22)]⟩,
  ⟨(some 24), none, .bin .add (.t 19) (.t 23)⟩,
  ⟨(some 25), none, .min [(.t 17), (.t 24)]⟩,
  ⟨(some 26), none, .fad 0 (.t 5)⟩,
  ⟨none, none, .st 1 (.t 26) (.t 25)⟩]
def rMakeGraphX4 : List O := [
  ⟨(some 27), none, .mv (.t 0)⟩,
  ⟨(some 28), none, .call nMakeDeckNext [(.t 27), (.k (.int .i64 4))]⟩,
  ⟨(some 29), none, .bin .add (.k (.int .i64 1)) (.t 28)⟩,
  ⟨(some 6), none, .mv (.t 29)⟩]
def rMakeGraphX5 : List O := [
  ⟨(some 7), none, .mv (.k (.int .i64 0))⟩]
def rMakeGraphX6 : List O := [
  ⟨(some 30), none, .mv (.t 7)⟩,
  ⟨(some 31), none, .fad 0 (.t 5)⟩,
  ⟨(some 32), none, .ld none (.t 31)⟩,
  ⟨(some 33), none, .bin .lss (.t 30) (.t 32)⟩]
def rMakeGraphX7 : List O := [
  ⟨(some 36), none, .mv (.t 7)⟩,
  ⟨(some 37), none, .bin .add (.t 36) (.k (.int .i64 1))⟩,
  ⟨(some 8), none, .mv (.t 37)⟩]
def rMakeGraphX8 : List O := [
  ⟨(some 38), none, .mv (.t 8)⟩,
  ⟨(some 39), none, .fad 0 (.t 5)⟩,
  ⟨(some 40), none, .ld none (.t 39)⟩,
  ⟨(some 41), none, .bin .lss (.t 38) (.t 40)⟩]
def rMakeGraphX9 : List O := [
  ⟨(some 44), none, .mv (.t 0)⟩,
  ⟨(some 45), none, .call nMakeDeckNext [(.t 44), (.k (.int .i64 5))]⟩,
  ⟨(some 46), none, .mv (.t 6)⟩,
  ⟨(some 47), none, .bin .sub (.k (.int .i64 5)) (.t 46)⟩,
  ⟨(some 48), none, .bin .geq (.t 45) (.t 47)⟩]
def rMakeGraphX10 : List O := [
  ⟨(some 49), none, .fad 1 (.t 5)⟩,
  ⟨(some 50), none, .ld none (.t 49)⟩,
  ⟨(some 51), none, .mv (.t 7)⟩,
  ⟨(some 52), none, .mv (.t 8)⟩,
  ⟨(some 53), none, .build [(.int .i64 0), (.int .i64 0)] [(0, 1, (.t 51)), (1, 1, (.t 52))]⟩,
  ⟨(some 54), none, .bslice 2 1 [(.int .i64 0), (.int .i64 0)] [(0, 2, (.t 53))]⟩,
  ⟨(some 55), none, .app 2 (.t 50) (.t 54)⟩,
  ⟨(some 56), none, .fad 1 (.t 5)⟩,
  ⟨none, none, .st 1 (.t 56) (.t 55)⟩]
def rMakeGraphX11 : List O := [
  ⟨(some 42), none, .mv (.t 8)⟩,
  ⟨(some 43), none, .bin .add (.t 42) (.k (.int .i64 1))⟩,
  ⟨(some 8), none, .mv (.t 43)⟩]
def lMakeGraphX0 : C := (.seq (.seq (.reg rMakeGraphX8 false [] [0, 4, 5, 6, 7, 8, 41]) (.cond (.t 41) .skip (.exit 2))) (.seq (.blk 3 (.seq (.reg rMakeGraphX9 false [] [0, 4, 5, 6, 7, 8, 48]) (.cond (.t 48) (.reg rMakeGraphX10 false [] [0, 4, 5, 6, 7, 8]) .skip))) (.reg rMakeGraphX11 false [] [0, 4, 5, 6, 7, 8])))
def rMakeGraphX12 : List O := [
  ⟨(some 34), none, .mv (.t 7)⟩,
  ⟨(some 35), none, .bin .add (.t 34) (.k (.int .i64 1))⟩,
  ⟨(some 7), none, .mv (.t 35)⟩]
def lMakeGraphX1 : C := (.seq (.seq (.reg rMakeGraphX6 false [] [0, 4, 5, 6, 7, 33]) (.cond (.t 33) .skip (.exit 0))) (.seq (.blk 1 (.seq (.reg rMakeGraphX7 false [] [0, 4, 5, 6, 7, 8]) (.blk 2 (.loop lMakeGraphX0)))) (.reg rMakeGraphX12 false [] [0, 4, 5, 6, 7])))
def rMakeGraphX13 : List O := [
  ⟨(some 57), none, .ld (some 2) (.t 5)⟩,
  ⟨none, none, .st 2 (.t 4) (.t 57)⟩]
def cMakeGraph : C := (.seq (.reg rMakeGraphX0 false [] [0, 1, 4]) (.seq (.reg rMakeGraphX1 false [] [0, 1, 4, 5]) (.seq (.seq (.reg rMakeGraphX2 false [] [0, 1, 4, 5, 16]) (.cond (.t 16) (.reg rMakeGraphX3 true [(8, 8), (9, 9), (10, 10), (0, 2), (2, 3), (2, 4), (2, 5), (0, 6), (1, 6), (2, 6)] [0, 4, 5]) .skip)) (.seq (.reg rMakeGraphX4 false [] [0, 4, 5, 6]) (.seq (.seq (.reg rMakeGraphX5 false [] [0, 4, 5, 6, 7]) (.blk 0 (.loop lMakeGraphX1))) (.seq (.reg rMakeGraphX13 false [] [4]) .ret))))))
def qMakeGraph : AFn := ⟨58, 2, [.c 4 (some 2)], cMakeGraph⟩
/- cohesion/cohesionmake.Order -/
def rMakeOrderX0 : List O := [
  ⟨(some 4), none, .mv (.k (.own 1 []))⟩]
def rMakeOrderX1 : List O := [
  ⟨(some 5), none, .mv (.k (.own 1 []))⟩]
def rMakeOrderX2 : List O := [
  ⟨(some 6), none, .mv (.k (.int .i64 0))⟩]
def rMakeOrderX3 : List O := [
  ⟨(some 8), none, .mv (.t 6)⟩,
  ⟨(some 9), none, .mv (.t 1)⟩,
  ⟨(some 10), none, .bin .lss (.t 8) (.t 9)⟩]
def rMakeOrderX4 : List O := [
  ⟨(some 13), none, .mv (.t 0)⟩,
  ⟨(some 14), none, .mv (.t 6)⟩,
  ⟨(some 15), none, .bin .add (.t 14) (.k (.int .i64 1))⟩,
  ⟨(some 16), none, .call nMakeDeckNext [(.t 13), (.t 15)]⟩,
  ⟨(some 7), none, .mv (.t 16)⟩]
def rMakeOrderX5 : List O := [
  ⟨(some 17), none, .mv (.t 5)⟩,
  ⟨(some 18), none, .mv (.t 7)⟩,
  ⟨(some 19), none, .slc 1 (.t 17) none (some (.t 18))⟩,
  ⟨(some 20), none, .mv (.t 6)⟩,
  ⟨(some 21), none, .bslice 1 1 [(.int .i64 0)] [(0, 1, (.t 20))]⟩,
  ⟨(some 22), none, .mv (.t 5)⟩,
  ⟨(some 23), none, .mv (.t 7)⟩,
  ⟨(some 24), none, .slc 1 (.t 22) (some (.t 23)) none⟩,
  ⟨(some 25), none, .app 1 (.t 21) (.t 24)⟩,
  ⟨(some 26), none, .app 1 (.t 19) (.t 25)⟩,
  ⟨(some 5), none, .mv (.t 26)⟩]
def rMakeOrderX6 : List O := [
  ⟨(some 11), none, .mv (.t 6)⟩,
  ⟨(some 12), none, .bin .add (.t 11) (.k (.int .i64 1))⟩,
  ⟨(some 6), none, .mv (.t 12)⟩]
def lMakeOrderX0 : C := (.seq (.seq (.reg rMakeOrderX3 false [] [0, 1, 5, 6, 10]) (.cond (.t 10) .skip (.exit 0))) (.seq (.blk 1 (.seq (.reg rMakeOrderX4 false [] [0, 1, 5, 6, 7]) (.reg rMakeOrderX5 true [(9, 9), (10, 10), (0, 4), (1, 4), (2, 4), (4, 5), (4, 6), (4, 7), (0, 8), (1, 8), (2, 8)] [0, 1, 5, 6]))) (.reg rMakeOrderX6 false [] [0, 1, 5, 6])))
def rMakeOrderX7 : List O := [
  ⟨(some 27), none, .mv (.t 5)⟩,
  ⟨(some 4), none, .mv (.t 27)⟩]
def cMakeOrder : C := (.seq (.reg rMakeOrderX0 false [] [0, 1]) (.seq (.reg rMakeOrderX1 false [] [0, 1, 5]) (.seq (.seq (.reg rMakeOrderX2 false [] [0, 1, 5, 6]) (.blk 0 (.loop lMakeOrderX0))) (.seq (.reg rMakeOrderX7 false [] [4]) .ret))))
def qMakeOrder : AFn := ⟨28, 2, [.t 4], cMakeOrder⟩
/- cohesion/cohesionfield.Renamed -/
def rFieldRenamedX0 : List O := [
  ⟨(some 2), none, .box (.t 0)⟩,
  ⟨(some 4), none, .new [(.int .i64 0), (.own 2 [])]⟩]
def rFieldRenamedX1 : List O := [
  ⟨(some 5), none, .mv (.k (.own 2 []))⟩]
def rFieldRenamedX2 : List O := [
  ⟨(some 6), none, .mv (.k (.int .i64 0))⟩]
def rFieldRenamedX3 : List O := [
  ⟨(some 9), none, .mv (.t 6)⟩,
  ⟨(some 10), none, .fad 1 (.t 2)⟩,
  ⟨(some 11), none, .ld none (.t 10)⟩,
  ⟨(some 12), none, .len (.t 11)⟩,
  ⟨(some 13), none, .bin .lss (.t 9) (.t 12)⟩]
def rFieldRenamedX4 : List O := [
  ⟨(some 16), none, .mv (.t 5)⟩,
  ⟨(some 17), none, .mv (.t 1)⟩,
  ⟨(some 18), none, .fad 1 (.t 2)⟩,
  ⟨(some 19), none, .ld none (.t 18)⟩,
  ⟨(some 20), none, .mv (.t 6)⟩,
  ⟨(some 21), none, .ixa 2 (.t 19) (.t 20)⟩,
  ⟨(some 22), none, .fad 0 (.t 21)⟩,
  ⟨(some 23), none, .ld none (.t 22)⟩,
  ⟨(some 24), none, .ixa 1 (.t 17) (.t 23)⟩,
  ⟨(some 25), none, .ld none (.t 24)⟩,
  ⟨(some 26), none, .mv (.t 1)⟩,
  ⟨(some 27), none, .fad 1 (.t 2)⟩,
  ⟨(some 28), none, .ld none (.t 27)⟩,
  ⟨(some 29), none, .mv (.t 6)⟩,
  ⟨(some 30), none, .ixa 2 (.t 28) (.t 29)⟩,
  ⟨(some 31), none, .fad 1 (.t 30)⟩,
  ⟨(some 32), none, .ld none (.t 31)⟩,
  ⟨(some 33), none, .ixa 1 (.t 26) (.t 32)⟩,
  ⟨(some 34), none, .ld none (.t 33)⟩,
  ⟨(some 35), none, .build [(.int .i64 0), (.int .i64 0)] [(0, 1, (.t 25)), (1, 1, (.t 34))]⟩,
  ⟨(some 36), none, .bslice 2 1 [(.int .i64 0), (.int .i64 0)] [(0, 2, (.t 35))]⟩,
  ⟨(some 37), none, .app 2 (.t 16) (.t 36)⟩,
  ⟨(some 5), none, .mv (.t 37)⟩]
def rFieldRenamedX5 : List O := [
  ⟨(some 14), none, .mv (.t 6)⟩,
  ⟨(some 15), none, .bin .add (.t 14) (.k (.int .i64 1))⟩,
  ⟨(some 6), none, .mv (.t 15)⟩]
def lFieldRenamedX0 : C := (.seq (.seq (.reg rFieldRenamedX3 false [] [1, 2, 4, 5, 6, 13]) (.cond (.t 13) .skip (.exit 0))) (.seq (.blk 1 (.reg rFieldRenamedX4 true [(21, 21), (22, 22), (0, 3), (1, 3), (3, 4), (0, 7), (1, 7), (0, 9), (3, 10), (7, 10), (9, 10), (3, 11), (7, 11), (9, 11), (0, 12), (1, 12), (2, 12), (3, 12), (4, 12), (5, 12), (6, 12), (7, 12), (8, 12), (9, 12), (10, 12), (3, 13), (7, 13), (9, 13), (12, 13), (3, 14), (7, 14), (9, 14), (3, 15), (7, 15), (9, 15), (0, 16), (1, 16), (2, 16), (3, 16), (4, 16), (5, 16), (6, 16), (7, 16), (8, 16), (9, 16), (10, 16), (3, 17), (7, 17), (9, 17), (0, 18), (1, 18), (2, 18), (3, 18), (4, 18), (5, 18), (6, 18), (7, 18), (8, 18), (9, 18), (0, 20)] [1, 2, 4, 5, 6])) (.reg rFieldRenamedX5 false [] [1, 2, 4, 5, 6])))
def rFieldRenamedX6 : List O := [
  ⟨(some 39), none, .fad 0 (.t 2)⟩,
  ⟨(some 40), none, .ld none (.t 39)⟩,
  ⟨(some 41), none, .mv (.t 5)⟩,
  ⟨(some 42), none, .call nRef03Of [(.t 40), (.t 41)]⟩,
  ⟨(some 38), none, .mv (.t 42)⟩,
  ⟨(some 43), none, .ext 0 (.t 38)⟩,
  ⟨(some 44), none, .ext 1 (.t 38)⟩,
  ⟨(some 7), none, .new [(.int .i64 0), (.own 2 [])]⟩,
  ⟨none, none, .st 2 (.t 7) (.t 43)⟩,
  ⟨(some 8), none, .mv (.t 44)⟩]
def rFieldRenamedX7 : List O := [
  ⟨(some 45), none, .ld (some 2) (.t 7)⟩,
  ⟨none, none, .st 2 (.t 4) (.t 45)⟩]
def cFieldRenamed : C := (.seq (.reg rFieldRenamedX0 false [] [1, 2, 4]) (.seq (.reg rFieldRenamedX1 false [] [1, 2, 4, 5]) (.seq (.seq (.reg rFieldRenamedX2 false [] [1, 2, 4, 5, 6]) (.blk 0 (.loop lFieldRenamedX0))) (.seq (.reg rFieldRenamedX6 false [] [4, 7]) (.seq (.reg rFieldRenamedX7 false [] [4]) .ret)))))
def qFieldRenamed : AFn := ⟨46, 2, [.c 4 (some 2)], cFieldRenamed⟩
/- cohesion/cohesionref02.Cmp -/
def rRef02CmpX0 : List O := [
  ⟨(some 4), none, .mv (.k (.int .i64 0))⟩]
def rRef02CmpX1 : List O := [
  ⟨(some 6), none, .mv (.t 0)⟩,
  ⟨(some 7), none, .len (.t 6)⟩,
  ⟨(some 8), none, .mv (.k (.int .i64 0))⟩]
def rRef02CmpX2 : List O := [
  ⟨(some 9), none, .bin .lss (.t 8) (.t 7)⟩]
def rRef02CmpX3 : List O := [
  ⟨(some 10), none, .mv (.t 8)⟩,
  ⟨(some 5), none, .mv (.t 10)⟩]
def rRef02CmpX4 : List O := [
  ⟨(some 12), none, .mv (.t 5)⟩,
  ⟨(some 13), none, .mv (.t 1)⟩,
  ⟨(some 14), none, .len (.t 13)⟩,
  ⟨(some 15), none, .bin .geq (.t 12) (.t 14)⟩,
  ⟨(some 16), none, .mv (.t 15)⟩,
  ⟨(some 17), (some (16, false)), .mv (.t 0)⟩,
  ⟨(some 18), (some (16, false)), .mv (.t 5)⟩,
  ⟨(some 19), (some (16, false)), .ixa 1 (.t 17) (.t 18)⟩,
  ⟨(some 20), (some (16, false)), .ld none (.t 19)⟩,
  ⟨(some 21), (some (16, false)), .mv (.t 1)⟩,
  ⟨(some 22), (some (16, false)), .mv (.t 5)⟩,
  ⟨(some 23), (some (16, false)), .ixa 1 (.t 21) (.t 22)⟩,
  ⟨(some 24), (some (16, false)), .ld none (.t 23)⟩,
  ⟨(some 25), (some (16, false)), .bin .gtr (.t 20) (.t 24)⟩,
  ⟨(some 26), none, .pick (.t 16) (.k (.bool true)) (.t 25)⟩,
  ⟨(some 11), none, .mv (.t 26)⟩]
def rRef02CmpX5 : List O := [
  ⟨(some 4), none, .mv (.k (.int .i64 1))⟩]
def rRef02CmpX6 : List O := [
  ⟨(some 28), none, .mv (.t 0)⟩,
  ⟨(some 29), none, .mv (.t 5)⟩,
  ⟨(some 30), none, .ixa 1 (.t 28) (.t 29)⟩,
  ⟨(some 31), none, .ld none (.t 30)⟩,
  ⟨(some 32), none, .mv (.t 1)⟩,
  ⟨(some 33), none, .mv (.t 5)⟩,
  ⟨(some 34), none, .ixa 1 (.t 32) (.t 33)⟩,
  ⟨(some 35), none, .ld none (.t 34)⟩,
  ⟨(some 36), none, .bin .lss (.t 31) (.t 35)⟩,
  ⟨(some 27), none, .mv (.t 36)⟩]
def rRef02CmpX7 : List O := [
  ⟨(some 4), none, .mv (.k (.int .i64 (-1)))⟩]
def rRef02CmpX8 : List O := [
  ⟨(some 37), none, .bin .add (.t 8) (.k (.int .i64 1))⟩,
  ⟨(some 8), none, .mv (.t 37)⟩]
def lRef02CmpX0 : C := (.seq (.reg rRef02CmpX2 false [] [0, 1, 7, 8, 9]) (.seq (.cond (.t 9) .skip (.exit 0)) (.seq (.blk 1 (.seq (.reg rRef02CmpX3 false [] [0, 1, 5, 7, 8]) (.blk 2 (.seq (.reg rRef02CmpX4 true [(3, 3), (4, 4), (13, 13), (14, 14), (15, 15), (8, 9), (8, 10), (8, 11), (5, 12), (6, 12), (7, 12), (8, 12)] [0, 1, 5, 7, 8, 11]) (.cond (.t 11) (.seq (.reg rRef02CmpX5 false [] [4]) .ret) (.seq (.reg rRef02CmpX6 true [(8, 8), (9, 9), (3, 4), (3, 5), (3, 6), (0, 7), (1, 7), (2, 7), (3, 7)] [0, 1, 7, 8, 27]) (.cond (.t 27) (.seq (.reg rRef02CmpX7 false [] [4]) .ret) .skip))))))) (.reg rRef02CmpX8 false [] [0, 1, 7, 8]))))
def rRef02CmpX9 : List O := [
  ⟨(some 38), none, .mv (.t 0)⟩,
  ⟨(some 39), none, .len (.t 38)⟩,
  ⟨(some 40), none, .mv (.t 1)⟩,
  ⟨(some 41), none, .len (.t 40)⟩,
  ⟨(some 42), none, .bin .lss (.t 39) (.t 41)⟩]
def rRef02CmpX10 : List O := [
  ⟨(some 4), none, .mv (.k (.int .i64 (-1)))⟩]
def rRef02CmpX11 : List O := [
  ⟨(some 4), none, .mv (.k (.int .i64 0))⟩]
def cRef02Cmp : C := (.seq (.reg rRef02CmpX0 false [] [0, 1]) (.seq (.seq (.reg rRef02CmpX1 false [] [0, 1, 7, 8]) (.blk 0 (.loop lRef02CmpX0))) (.seq (.seq (.reg rRef02CmpX9 false [] [42]) (.cond (.t 42) (.seq (.reg rRef02CmpX10 false [] [4]) .ret) .skip)) (.seq (.reg rRef02CmpX11 false [] [4]) .ret))))
def qRef02Cmp : AFn := ⟨43, 2, [.t 4], cRef02Cmp⟩
/- cohesion/cohesionref02.Of -/
def rRef02OfX0 : List O := [
  ⟨(some 2), none, .mv (.k (.own 1 []))⟩]
def rRef02OfX1 : List O := [
  ⟨(some 3), none, .mv (.k (.own 1 []))⟩]
def rRef02OfX2 : List O := [
  ⟨(some 6), none, .mv (.t 0)⟩,
  ⟨(some 7), none, .len (.t 6)⟩,
  ⟨(some 8), none, .mv (.k (.int .i64 0))⟩]
def rRef02OfX3 : List O := [
  ⟨(some 9), none, .bin .lss (.t 8) (.t 7)⟩]
def rRef02OfX4 : List O := [
  ⟨(some 10), none, .ixa 1 (.t 6) (.t 8)⟩,
  ⟨(some 11), none, .ld none (.t 10)⟩,
  ⟨(some 5), none, .mv (.t 11)⟩]
def rRef02OfX5 : List O := [
  ⟨(some 12), none, .mv (.t 3)⟩,
  ⟨(some 13), none, .mv (.t 5)⟩,
  ⟨(some 14), none, .call nRef02Put [(.t 12), (.t 13)]⟩,
  ⟨(some 3), none, .mv (.t 14)⟩]
def rRef02OfX6 : List O := [
  ⟨(some 15), none, .bin .add (.t 8) (.k (.int .i64 1))⟩,
  ⟨(some 8), none, .mv (.t 15)⟩]
def lRef02OfX0 : C := (.seq (.reg rRef02OfX3 false [] [3, 6, 7, 8, 9]) (.seq (.cond (.t 9) .skip (.exit 0)) (.seq (.blk 1 (.seq (.reg rRef02OfX4 false [] [3, 5, 6, 7, 8]) (.reg rRef02OfX5 false [] [3, 6, 7, 8]))) (.reg rRef02OfX6 false [] [3, 6, 7, 8]))))
def rRef02OfX7 : List O := [
  ⟨(some 16), none, .mv (.t 3)⟩,
  ⟨(some 2), none, .mv (.t 16)⟩]
def cRef02Of : C := (.seq (.reg rRef02OfX0 false [] [0]) (.seq (.reg rRef02OfX1 false [] [0, 3]) (.seq (.seq (.reg rRef02OfX2 false [] [3, 6, 7, 8]) (.blk 0 (.loop lRef02OfX0))) (.seq (.reg rRef02OfX7 false [] [2]) .ret))))
def qRef02Of : AFn := ⟨17, 1, [.t 2], cRef02Of⟩
/- cohesion/cliques.Next -/
def rCliquesNextX0 : List O := [
  ⟨(some 2), none, .box (.t 0)⟩,
  ⟨(some 4), none, .mv (.k (.own 1 []))⟩,
  ⟨(some 5), none, .mv (.k (.bool false))⟩,
  ⟨(some 6), none, .mv (.k (.int .i64 0))⟩]
def rCliquesNextX1 : List O := [
  ⟨(some 9), none, .ld (some 2) (.t 2)⟩,
  ⟨(some 10), none, .call nGraphCheck [(.t 9)]⟩,
  ⟨(some 7), none, .mv (.t 10)⟩]
def rCliquesNextX2 : List O := [
  ⟨(some 11), none, .mv (.t 7)⟩,
  ⟨(some 12), none, .bin .neq (.t 11) (.k (.int .i64 0))⟩]
def rCliquesNextX3 : List O := [
  ⟨(some 13), none, .mv (.t 7)⟩,
  ⟨(some 4), none, .mv (.k (.own 1 []))⟩,
  ⟨(some 5), none, .mv (.k (.bool false))⟩,
  ⟨(some 6), none, .mv (.t 13)⟩]
def rCliquesNextX4 : List O := [
  ⟨(some 8), none, .new [(.own 1 [])]⟩]
def rCliquesNextX5 : List O := [
  ⟨(some 14), none, .ld (some 2) (.t 2)⟩,
  ⟨(some 15), none, .mv (.t 1)⟩,
  ⟨(some 16), none, .mkf (.func nCliquesNext1) [] [(.t 8)]⟩,
  ⟨(some 17), none, .call nCliquesEach [(.t 14), (.t 15), (.t 16)]⟩]
def rCliquesNextX6 : List O := [
  ⟨(some 18), none, .ld none (.t 8)⟩,
  ⟨(some 19), none, .ld none (.t 8)⟩,
  ⟨(some 20), none, .eq true .nsl (.t 19) (.k (.own 1 []))⟩,
  ⟨(some 4), none, .mv (.t 18)⟩,
  ⟨(some 5), none, .mv (.t 20)⟩,
  ⟨(some 6), none, .mv (.k (.int .i64 0))⟩]
def cCliquesNext : C := (.seq (.reg rCliquesNextX0 false [] [1, 2]) (.seq (.seq (.reg rCliquesNextX1 false [] [1, 2, 7]) (.seq (.reg rCliquesNextX2 false [] [1, 2, 7, 12]) (.cond (.t 12) (.seq (.reg rCliquesNextX3 false [] [4, 5, 6]) .ret) .skip))) (.seq (.reg rCliquesNextX4 false [] [1, 2, 8]) (.seq (.reg rCliquesNextX5 false [] [8]) (.seq (.reg rCliquesNextX6 true [(4, 4), (5, 5), (0, 1), (0, 2), (1, 3)] [4, 5, 6]) .ret)))))
def qCliquesNext : AFn := ⟨21, 2, [.t 4, .t 5, .t 6], cCliquesNext⟩
/- cohesion/cliques.Check -/
def rCliquesCheckX0 : List O := [
  ⟨(some 2), none, .box (.t 0)⟩,
  ⟨(some 3), none, .box (.t 1)⟩,
  ⟨(some 4), none, .mv (.k (.bool false))⟩]
def rCliquesCheckX1 : List O := [
  ⟨(some 7), none, .ld (some 2) (.t 2)⟩,
  ⟨(some 8), none, .call nGraphCheck [(.t 7)]⟩,
  ⟨(some 9), none, .bin .neq (.t 8) (.k (.int .i64 0))⟩]
def rCliquesCheckX2 : List O := [
  ⟨(some 4), none, .mv (.k (.bool false))⟩]
def rCliquesCheckX3 : List O := [
  ⟨(some 5), none, .new [(.int .i64 0)]⟩,
  ⟨(some 6), none, .new [(.bool false)]⟩,
  ⟨none, none, .st 1 (.t 5) (.k (.int .i64 0))⟩,
  ⟨none, none, .st 1 (.t 6) (.k (.bool true))⟩]
def rCliquesCheckX4 : List O := [
  ⟨(some 10), none, .ld (some 2) (.t 2)⟩,
  ⟨(some 11), none, .mkf (.func nCliquesCheck1) [] [(.t 5), (.t 3), (.t 6)]⟩,
  ⟨(some 12), none, .call nCliquesEach [(.t 10), (.k (.own 1 [])), (.t 11)]⟩]
def rCliquesCheckX5 : List O := [
  ⟨(some 13), none, .ld none (.t 6)⟩,
  ⟨(some 14), none, .mv (.t 13)⟩,
  ⟨(some 15), (some (14, true)), .ld none (.t 5)⟩,
  ⟨(some 16), (some (14, true)), .ld none (.t 3)⟩,
  ⟨(some 17), (some (14, true)), .len (.t 16)⟩,
  ⟨(some 18), (some (14, true)), .bin .eql (.t 15) (.t 17)⟩,
  ⟨(some 19), none, .pick (.t 14) (.t 18) (.k (.bool false))⟩,
  ⟨(some 4), none, .mv (.t 19)⟩]
def cCliquesCheck : C := (.seq (.reg rCliquesCheckX0 false [] [2, 3]) (.seq (.seq (.reg rCliquesCheckX1 false [] [2, 3, 9]) (.cond (.t 9) (.seq (.reg rCliquesCheckX2 false [] [4]) .ret) .skip)) (.seq (.reg rCliquesCheckX3 false [] [2, 3, 5, 6]) (.seq (.reg rCliquesCheckX4 false [] [3, 5, 6]) (.seq (.reg rCliquesCheckX5 false [] [4]) .ret)))))
def qCliquesCheck : AFn := ⟨20, 2, [.t 4], cCliquesCheck⟩
/- (*cohesion/cohesionmake.Deck).Next -/
def rMakeDeckNextX0 : List O := [
  ⟨(some 4), none, .mv (.k (.int .i64 0))⟩]
def rMakeDeckNextX1 : List O := [
  ⟨(some 6), none, .mv (.t 1)⟩,
  ⟨(some 7), none, .bin .lss (.t 6) (.k (.int .i64 1))⟩,
  ⟨(some 8), none, .mv (.t 7)⟩,
  ⟨(some 9), (some (8, false)), .mv (.t 0)⟩,
  ⟨(some 10), (some (8, false)), .nilck (.t 9)⟩,
  ⟨(some 11), (some (8, false)), .fad 1 (.t 10)⟩,
  ⟨(some 12), (some (8, false)), .ld none (.t 11)⟩,
  ⟨(some 13), (some (8, false)), .mv (.t 0)⟩,
  ⟨(some 14), (some (8, false)), .nilck (.t 13)⟩,
  ⟨(some 15), (some (8, false)), .fad 0 (.t 14)⟩,
  ⟨(some 16), (some (8, false)), .ld none (.t 15)⟩,
  ⟨(some 17), (some (8, false)), .len (.t 16)⟩,
  ⟨(some 18), (some (8, false)), .bin .geq (.t 12) (.t 17)⟩,
  ⟨(some 19), none, .pick (.t 8) (.k (.bool true)) (.t 18)⟩]
def rMakeDeckNextX2 : List O := [
  ⟨(some 4), none, .mv (.k (.int .i64 0))⟩]
def rMakeDeckNextX3 : List O := [
  ⟨(some 20), none, .mv (.t 0)⟩,
  ⟨(some 21), none, .nilck (.t 20)⟩,
  ⟨(some 22), none, .fad 0 (.t 21)⟩,
  ⟨(some 23), none, .ld none (.t 22)⟩,
  ⟨(some 24), none, .mv (.t 0)⟩,
  ⟨(some 25), none, .nilck (.t 24)⟩,
  ⟨(some 26), none, .fad 1 (.t 25)⟩,
  ⟨(some 27), none, .ld none (.t 26)⟩,
  ⟨(some 28), none, .ixa 1 (.t 23) (.t 27)⟩,
  ⟨(some 29), none, .ld none (.t 28)⟩,
  ⟨(some 5), none, .mv (.t 29)⟩]
def rMakeDeckNextX4 : List O := [
  ⟨(some 30), none, .mv (.t 0)⟩,
  ⟨(some 31), none, .nilck (.t 30)⟩,
  ⟨(some 32), none, .fad 1 (.t 31)⟩,
  ⟨(some 33), none, .ld none (.t 32)⟩,
  ⟨(some 34), none, .bin .add (.t 33) (.k (.int .i64 1))⟩,
  ⟨(some 35), none, .nilck (.t 30)⟩,
  ⟨(some 36), none, .fad 1 (.t 35)⟩,
  ⟨none, none, .st 1 (.t 36) (.t 34)⟩]
def rMakeDeckNextX5 : List O := [
  ⟨(some 37), none, .mv (.t 5)⟩,
  ⟨(some 38), none, .mv (.t 1)⟩,
  ⟨(some 39), none, .call nMakeMod [(.t 37), (.t 38)]⟩,
  ⟨(some 4), none, .mv (.t 39)⟩]
def cMakeDeckNext : C := (.seq (.reg rMakeDeckNextX0 false [] [0, 1]) (.seq (.seq (.reg rMakeDeckNextX1 true [(0, 0), (1, 1), (2, 2), (12, 12), (13, 13), (6, 7), (6, 8), (6, 9), (3, 10), (4, 10), (5, 10), (6, 10), (6, 11)] [0, 1, 19]) (.cond (.t 19) (.seq (.reg rMakeDeckNextX2 false [] [4]) .ret) .skip)) (.seq (.reg rMakeDeckNextX3 true [(8, 8), (9, 9), (10, 10), (3, 4), (3, 5), (3, 6), (0, 7), (1, 7), (2, 7), (3, 7)] [0, 1, 5]) (.seq (.reg rMakeDeckNextX4 false [] [1, 5]) (.seq (.reg rMakeDeckNextX5 false [] [4]) .ret)))))
def qMakeDeckNext : AFn := ⟨40, 2, [.t 4], cMakeDeckNext⟩
/- cohesion/cohesionmake.Light -/
def rMakeLightX0 : List O := [
  ⟨(some 2), none, .box (.t 0)⟩,
  ⟨(some 4), none, .mv (.k (.bool false))⟩]
def rMakeLightX1 : List O := [
  ⟨(some 5), none, .fad 0 (.t 2)⟩,
  ⟨(some 6), none, .ld none (.t 5)⟩,
  ⟨(some 7), none, .mv (.t 1)⟩,
  ⟨(some 8), none, .bin .leq (.t 6) (.t 7)⟩,
  ⟨(some 9), none, .mv (.t 8)⟩,
  ⟨(some 10), (some (9, true)), .fad 1 (.t 2)⟩,
  ⟨(some 11), (some (9, true)), .ld none (.t 10)⟩,
  ⟨(some 12), (some (9, true)), .len (.t 11)⟩,
  ⟨(some 13), (some (9, true)), .mv (.t 1)⟩,
  ⟨(some 14), (some (9, true)), .mv (.t 1)⟩,
  ⟨(some 15), (some (9, true)), .bin .mul (.t 13) (.t 14)⟩,
  ⟨(some 16), (some (9, true)), .bin .leq (.t 12) (.t 15)⟩,
  ⟨(some 17), none, .pick (.t 9) (.t 16) (.k (.bool false))⟩,
  ⟨(some 4), none, .mv (.t 17)⟩]
def cMakeLight : C := (.seq (.reg rMakeLightX0 false [] [1, 2]) (.seq (.reg rMakeLightX1 false [] [4]) .ret))
def qMakeLight : AFn := ⟨18, 2, [.t 4], cMakeLight⟩
/- cohesion/cohesionmake.Spoilt -/
def rMakeSpoiltX0 : List O := [
  ⟨(some 3), none, .box (.t 1)⟩,
  ⟨(some 4), none, .new [(.int .i64 0), (.own 2 [])]⟩]
def rMakeSpoiltX1 : List O := [
  ⟨(some 7), none, .fad 1 (.t 3)⟩,
  ⟨(some 8), none, .ld none (.t 7)⟩,
  ⟨(some 9), none, .app 2 (.k (.own 2 [])) (.t 8)⟩,
  ⟨(some 10), none, .fad 1 (.t 3)⟩,
  ⟨none, none, .st 1 (.t 10) (.t 9)⟩]
def rMakeSpoiltX2 : List O := [
  ⟨(some 11), none, .fad 1 (.t 3)⟩,
  ⟨(some 12), none, .ld none (.t 11)⟩,
  ⟨(some 13), none, .len (.t 12)⟩,
  ⟨(some 5), none, .mv (.t 13)⟩]
def rMakeSpoiltX3 : List O := [
  ⟨(some 14), none, .mv (.t 0)⟩,
  ⟨(some 15), none, .call nMakeDeckNext [(.t 14), (.k (.int .i64 6))]⟩]
def rMakeSpoiltX4 : List O := [
  ⟨(some 17), none, .bin .eql (.t 15) (.k (.int .i64 0))⟩,
  ⟨(some 16), none, .mv (.t 17)⟩]
def rMakeSpoiltX5 : List O := [
  ⟨(some 18), none, .mv (.t 0)⟩,
  ⟨(some 19), none, .call nMakeDeckNext [(.t 18), (.k (.int .i64 70))]⟩,
  ⟨(some 20), none, .bin .sub (.t 19) (.k (.int .i64 2))⟩,
  ⟨(some 21), none, .fad 0 (.t 3)⟩,
  ⟨none, none, .st 1 (.t 21) (.t 20)⟩]
def rMakeSpoiltX6 : List O := [
  ⟨(some 23), none, .bin .eql (.t 15) (.k (.int .i64 1))⟩,
  ⟨(some 22), none, .mv (.t 23)⟩]
def rMakeSpoiltX7 : List O := [
  ⟨(some 24), none, .mv (.t 5)⟩,
  ⟨(some 25), none, .bin .gtr (.t 24) (.k (.int .i64 0))⟩]
def rMakeSpoiltX8 : List O := [
  ⟨(some 26), none, .mv (.t 0)⟩,
  ⟨(some 27), none, .mv (.t 5)⟩,
  ⟨(some 28), none, .call nMakeDeckNext [(.t 26), (.t 27)]⟩,
  ⟨(some 6), none, .mv (.t 28)⟩]
def rMakeSpoiltX9 : List O := [
  ⟨(some 29), none, .fad 1 (.t 3)⟩,
  ⟨(some 30), none, .ld none (.t 29)⟩,
  ⟨(some 31), none, .mv (.t 6)⟩,
  ⟨(some 32), none, .fad 1 (.t 3)⟩,
  ⟨(some 33), none, .ld none (.t 32)⟩,
  ⟨(some 34), none, .mv (.t 6)⟩,
  ⟨(some 35), none, .fad 1 (.t 3)⟩,
  ⟨(some 36), none, .ld none (.t 35)⟩,
  ⟨(some 37), none, .mv (.t 6)⟩,
  ⟨(some 38), none, .ixa 2 (.t 36) (.t 37)⟩,
  ⟨(some 39), none, .fad 1 (.t 38)⟩,
  ⟨(some 40), none, .ld none (.t 39)⟩,
  ⟨(some 41), none, .fad 1 (.t 3)⟩,
  ⟨(some 42), none, .ld none (.t 41)⟩,
  ⟨(some 43), none, .mv (.t 6)⟩,
  ⟨(some 44), none, .ixa 2 (.t 42) (.t 43)⟩,
  ⟨(some 45), none, .fad 0 (.t 44)⟩,
  ⟨(some 46), none, .ld none (.t 45)⟩,
  ⟨(some 47), none, .ixa 2 (.t 30) (.t 31)⟩,
  ⟨(some 48), none, .fad 0 (.t 47)⟩,
  ⟨none, none, .st 1 (.t 48) (.t 40)⟩,
  ⟨(some 49), none, .ixa 2 (.t 33) (.t 34)⟩,
  ⟨(some 50), none, .fad 1 (.t 49)⟩,
  ⟨none, none, .st 1 (.t 50) (.t 46)⟩]
def rMakeSpoiltX10 : List O := [
  ⟨(some 52), none, .bin .eql (.t 15) (.k (.int .i64 2))⟩,
  ⟨(some 51), none, .mv (.t 52)⟩]
def rMakeSpoiltX11 : List O := [
  ⟨(some 53), none, .mv (.t 5)⟩,
  ⟨(some 54), none, .bin .gtr (.t 53) (.k (.int .i64 1))⟩]
def rMakeSpoiltX12 : List O := [
  ⟨(some 55), none, .fad 1 (.t 3)⟩,
  ⟨(some 56), none, .ld none (.t 55)⟩,
  ⟨(some 57), none, .fad 1 (.t 3)⟩,
  ⟨(some 58), none, .ld none (.t 57)⟩,
  ⟨(some 59), none, .mv (.t 5)⟩,
  ⟨(some 60), none, .bin .sub (.t 59) (.k (.int .i64 1))⟩,
  ⟨(some 61), none, .fad 1 (.t 3)⟩,
  ⟨(some 62), none, .ld none (.t 61)⟩,
  ⟨(some 63), none, .mv (.t 5)⟩,
  ⟨(some 64), none, .bin .sub (.t 63) (.k (.int .i64 1))⟩,
  ⟨(some 65), none, .ixa 2 (.t 62) (.t 64)⟩,
  ⟨(some 66), none, .ld (some 2) (.t 65)⟩,
  ⟨(some 67), none, .fad 1 (.t 3)⟩,
  ⟨(some 68), none, .ld none (.t 67)⟩,
  ⟨(some 69), none, .ixa 2 (.t 68) (.k (.int .i64 0))⟩,
  ⟨(some 70), none, .ld (some 2) (.t 69)⟩,
  ⟨(some 71), none, .ixa 2 (.t 56) (.k (.int .i64 0))⟩,
  ⟨none, none, .st 2 (.t 71) (.t 66)⟩,
  ⟨(some 72), none, .ixa 2 (.t 58) (.t 60)⟩,
  ⟨none, none, .st 2 (.t 72) (.t 70)⟩]
def rMakeSpoiltX13 : List O := [
  ⟨(some 74), none, .bin .eql (.t 15) (.k (.int .i64 3))⟩,
  ⟨(some 73), none, .mv (.t 74)⟩]
def rMakeSpoiltX14 : List O := [
  ⟨(some 75), none, .mv (.t 5)⟩,
  ⟨(some 76), none, .bin .gtr (.t 75) (.k (.int .i64 0))⟩]
def rMakeSpoiltX15 : List O := [
  ⟨(some 77), none, .fad 1 (.t 3)⟩,
  ⟨(some 78), none, .ld none (.t 77)⟩,
  ⟨(some 79), none, .fad 1 (.t 3)⟩,
  ⟨(some 80), none, .ld none (.t 79)⟩,
  ⟨(some 81), none, .mv (.t 5)⟩,
  ⟨(some 82), none, .bin .sub (.t 81) (.k (.int .i64 1))⟩,
  ⟨(some 83), none, .ixa 2 (.t 80) (.t 82)⟩,
  ⟨(some 84), none, .ld (some 2) (.t 83)⟩,
  ⟨(some 85), none, .bslice 2 1 [(.int .i64 0), (.int .i64 0)] [(0, 2, (.t 84))]⟩,
  ⟨(some 86), none, .app 2 (.t 78) (.t 85)⟩,
  ⟨(some 87), none, .fad 1 (.t 3)⟩,
  ⟨none, none, .st 1 (.t 87) (.t 86)⟩]
def rMakeSpoiltX16 : List O := [
  ⟨(some 89), none, .bin .eql (.t 15) (.k (.int .i64 4))⟩,
  ⟨(some 88), none, .mv (.t 89)⟩]
def rMakeSpoiltX17 : List O := [
  ⟨(some 90), none, .mv (.t 5)⟩,
  ⟨(some 91), none, .bin .gtr (.t 90) (.k (.int .i64 0))⟩]
def rMakeSpoiltX18 : List O := [
  ⟨(some 92), none, .fad 1 (.t 3)⟩,
  ⟨(some 93), none, .ld none (.t 92)⟩,
  ⟨(some 94), none, .mv (.t 0)⟩,
  ⟨(some 95), none, .mv (.t 5)⟩,
  ⟨(some 96), none, .call nMakeDeckNext [(.t 94), (.t 95)]⟩,
  ⟨(some 97), none, .ixa 2 (.t 93) (.t 96)⟩,
  ⟨(some 98), none, .fad 1 (.t 97)⟩,
  ⟨(some 99), none, .ld none (.t 98)⟩,
  ⟨(some 100), none, .mv (.t 0)⟩,
  ⟨(some 101), none, .call nMakeDeckNext [(.t 100), (.k (.int .i64 5))]⟩,
  ⟨(some 102), none, .bin .sub (.t 101) (.k (.int .i64 2))⟩,
  ⟨(some 103), none, .bin .add (.t 99) (.t 102)⟩,
  ⟨(some 104), none, .ixa 2 (.t 93) (.t 96)⟩,
  ⟨(some 105), none, .fad 1 (.t 104)⟩,
  ⟨none, none, .st 1 (.t 105) (.t 103)⟩]
def rMakeSpoiltX19 : List O := [
  ⟨(some 106), none, .ld (some 2) (.t 3)⟩,
  ⟨none, none, .st 2 (.t 4) (.t 106)⟩]
def cMakeSpoilt : C := (.seq (.reg rMakeSpoiltX0 false [] [0, 3, 4]) (.seq (.reg rMakeSpoiltX1 false [] [0, 3, 4]) (.seq (.seq (.reg rMakeSpoiltX2 false [] [0, 3, 4, 5]) (.seq (.reg rMakeSpoiltX3 false [] [0, 3, 4, 5, 15]) (.blk 0 (.seq (.reg rMakeSpoiltX4 false [] [0, 3, 4, 5, 15, 16]) (.cond (.t 16) (.reg rMakeSpoiltX5 false [] [3, 4]) (.seq (.reg rMakeSpoiltX6 false [] [0, 3, 4, 5, 15, 22]) (.cond (.t 22) (.seq (.reg rMakeSpoiltX7 false [] [0, 3, 4, 5, 25]) (.cond (.t 25) (.seq (.reg rMakeSpoiltX8 false [] [3, 4, 6]) (.reg rMakeSpoiltX9 true [(21, 21), (22, 22), (23, 23), (1, 2), (1, 3), (0, 4), (1, 4), (2, 4), (1, 5), (4, 5), (1, 6), (4, 6), (0, 7), (1, 7), (2, 7), (3, 7), (4, 7), (5, 7), (1, 8), (4, 8), (7, 8), (1, 9), (4, 9), (1, 10), (4, 10), (0, 11), (1, 11), (2, 11), (3, 11), (4, 11), (5, 11), (1, 12), (4, 12), (7, 12), (11, 12), (0, 13), (1, 13), (2, 13), (3, 13), (4, 13), (5, 13), (6, 13), (7, 13), (8, 13), (9, 13), (10, 13), (11, 13), (1, 14), (4, 14), (7, 14), (11, 14), (13, 14), (1, 15), (4, 15), (7, 15), (11, 15), (1, 16), (4, 16), (7, 16), (11, 16), (0, 17), (1, 17), (2, 17), (3, 17), (4, 17), (5, 17), (6, 17), (7, 17), (8, 17), (9, 17), (10, 17), (11, 17), (4, 18), (4, 19), (3, 20), (4, 20), (5, 20)] [3, 4])) .skip)) (.seq (.reg rMakeSpoiltX10 false [] [0, 3, 4, 5, 15, 51]) (.cond (.t 51) (.seq (.reg rMakeSpoiltX11 false [] [3, 4, 5, 54]) (.cond (.t 54) (.reg rMakeSpoiltX12 true [(18, 18), (19, 19), (1, 2), (0, 3), (1, 3), (1, 4), (3, 4), (1, 5), (3, 5), (1, 6), (3, 6), (0, 7), (1, 7), (2, 7), (3, 7), (4, 7), (5, 7), (1, 8), (3, 8), (7, 8), (1, 9), (3, 9), (7, 9), (1, 10), (3, 10), (0, 11), (1, 11), (2, 11), (3, 11), (4, 11), (5, 11), (1, 12), (3, 12), (7, 12), (11, 12), (0, 13), (1, 13), (2, 13), (3, 13), (4, 13), (5, 13), (6, 13), (7, 13), (8, 13), (9, 13), (10, 13), (11, 13), (1, 14), (3, 14), (7, 14), (11, 14), (0, 15), (1, 15), (2, 15), (3, 15), (4, 15), (5, 15), (6, 15), (7, 15), (8, 15), (9, 15), (10, 15), (11, 15), (3, 16), (2, 17), (3, 17), (4, 17), (5, 17)] [3, 4]) .skip)) (.seq (.reg rMakeSpoiltX13 false [] [0, 3, 4, 5, 15, 73]) (.cond (.t 73) (.seq (.reg rMakeSpoiltX14 false [] [3, 4, 5, 76]) (.cond (.t 76) (.reg rMakeSpoiltX15 true [(9, 9), (10, 10), (11, 11), (1, 2), (0, 3), (1, 3), (1, 4), (3, 4), (1, 5), (3, 5), (1, 6), (0, 7), (1, 7), (0, 8), (1, 8)] [3, 4]) .skip)) (.seq (.reg rMakeSpoiltX16 false [] [0, 3, 4, 5, 88]) (.cond (.t 88) (.seq (.reg rMakeSpoiltX17 false [] [0, 3, 4, 5, 91]) (.cond (.t 91) (.reg rMakeSpoiltX18 true [(11, 11), (12, 12), (13, 13), (14, 14), (1, 2), (1, 3), (0, 4), (1, 4), (1, 8), (4, 8), (7, 8), (0, 9), (1, 9), (5, 9), (6, 9), (7, 9), (1, 10), (7, 10)] [3, 4]) .skip)) .skip))))))))))))) (.seq (.reg rMakeSpoiltX19 false [] [4]) .ret))))
def qMakeSpoilt : AFn := ⟨107, 2, [.c 4 (some 2)], cMakeSpoilt⟩
/- cohesion/cohesionmake.Set -/
def rMakeSetX0 : List O := [
  ⟨(some 4), none, .mv (.k (.own 1 []))⟩]
def rMakeSetX1 : List O := [
  ⟨(some 5), none, .mv (.k (.own 1 []))⟩]
def rMakeSetX2 : List O := [
  ⟨(some 6), none, .mv (.k (.int .i64 0))⟩]
def rMakeSetX3 : List O := [
  ⟨(some 7), none, .mv (.t 6)⟩,
  ⟨(some 8), none, .mv (.t 1)⟩,
  ⟨(some 9), none, .bin .lss (.t 7) (.t 8)⟩]
def rMakeSetX4 : List O := [
  ⟨(some 12), none, .mv (.t 0)⟩,
  ⟨(some 13), none, .call nMakeDeckNext [(.t 12), (.k (.int .i64 2))]⟩,
  ⟨(some 14), none, .bin .eql (.t 13) (.k (.int .i64 1))⟩]
def rMakeSetX5 : List O := [
  ⟨(some 15), none, .mv (.t 5)⟩,
  ⟨(some 16), none, .mv (.t 6)⟩,
  ⟨(some 17), none, .bslice 1 1 [(.int .i64 0)] [(0, 1, (.t 16))]⟩,
  ⟨(some 18), none, .app 1 (.t 15) (.t 17)⟩,
  ⟨(some 5), none, .mv (.t 18)⟩]
def rMakeSetX6 : List O := [
  ⟨(some 10), none, .mv (.t 6)⟩,
  ⟨(some 11), none, .bin .add (.t 10) (.k (.int .i64 1))⟩,
  ⟨(some 6), none, .mv (.t 11)⟩]
def lMakeSetX0 : C := (.seq (.seq (.reg rMakeSetX3 false [] [0, 1, 5, 6, 9]) (.cond (.t 9) .skip (.exit 0))) (.seq (.blk 1 (.seq (.reg rMakeSetX4 false [] [0, 1, 5, 6, 14]) (.cond (.t 14) (.reg rMakeSetX5 false [] [0, 1, 5, 6]) .skip))) (.reg rMakeSetX6 false [] [0, 1, 5, 6])))
def rMakeSetX7 : List O := [
  ⟨(some 19), none, .mv (.t 5)⟩,
  ⟨(some 4), none, .mv (.t 19)⟩]
def cMakeSet : C := (.seq (.reg rMakeSetX0 false [] [0, 1]) (.seq (.reg rMakeSetX1 false [] [0, 1, 5]) (.seq (.seq (.reg rMakeSetX2 false [] [0, 1, 5, 6]) (.blk 0 (.loop lMakeSetX0))) (.seq (.reg rMakeSetX7 false [] [4]) .ret))))
def qMakeSet : AFn := ⟨20, 2, [.t 4], cMakeSet⟩
/- cohesion/cliques.Extend -/
def rCliquesExtendX0 : List O := [
  ⟨(some 2), none, .box (.t 0)⟩,
  ⟨(some 4), none, .mv (.k (.own 1 []))⟩,
  ⟨(some 5), none, .mv (.k (.int .i64 0))⟩]
def rCliquesExtendX1 : List O := [
  ⟨(some 11), none, .ld (some 2) (.t 2)⟩,
  ⟨(some 12), none, .call nGraphCheck [(.t 11)]⟩,
  ⟨(some 6), none, .mv (.t 12)⟩]
def rCliquesExtendX2 : List O := [
  ⟨(some 13), none, .mv (.t 6)⟩,
  ⟨(some 14), none, .bin .neq (.t 13) (.k (.int .i64 0))⟩]
def rCliquesExtendX3 : List O := [
  ⟨(some 15), none, .mv (.t 6)⟩,
  ⟨(some 4), none, .mv (.k (.own 1 []))⟩,
  ⟨(some 5), none, .mv (.t 15)⟩]
def rCliquesExtendX4 : List O := [
  ⟨(some 16), none, .ld (some 2) (.t 2)⟩,
  ⟨(some 17), none, .mv (.t 1)⟩,
  ⟨(some 18), none, .call nCliquesIs [(.t 16), (.t 17)]⟩,
  ⟨(some 19), none, .un .not (.t 18)⟩]
def rCliquesExtendX5 : List O := [
  ⟨(some 4), none, .mv (.k (.own 1 []))⟩,
  ⟨(some 5), none, .mv (.k (.int .i64 4))⟩]
def rCliquesExtendX6 : List O := [
  ⟨(some 20), none, .fad 0 (.t 2)⟩,
  ⟨(some 21), none, .ld none (.t 20)⟩,
  ⟨(some 22), none, .bin .eql (.t 21) (.k (.int .i64 0))⟩]
def rCliquesExtendX7 : List O := [
  ⟨(some 4), none, .mv (.k (.own 1 []))⟩,
  ⟨(some 5), none, .mv (.k (.int .i64 13))⟩]
def rCliquesExtendX8 : List O := [
  ⟨(some 23), none, .ld (some 2) (.t 2)⟩,
  ⟨(some 24), none, .call nCliquesMasks [(.t 23)]⟩,
  ⟨(some 25), none, .mv (.t 1)⟩,
  ⟨(some 26), none, .call nSlicesCloneIntInt [(.t 25)]⟩,
  ⟨(some 7), none, .mv (.t 24)⟩,
  ⟨(some 8), none, .mv (.t 26)⟩]
def rCliquesExtendX9 : List O := [
  ⟨(some 27), none, .mv (.t 7)⟩,
  ⟨(some 28), none, .mv (.t 8)⟩,
  ⟨(some 29), none, .call nCliquesCommon [(.t 27), (.t 28)]⟩,
  ⟨(some 9), none, .mv (.t 29)⟩]
def rCliquesExtendX10 : List O := [
  ⟨(some 30), none, .mv (.t 9)⟩,
  ⟨(some 31), none, .bin .neq (.t 30) (.k (.int .u64 0))⟩]
def rCliquesExtendX11 : List O := [
  ⟨(some 32), none, .mv (.t 9)⟩,
  ⟨(some 33), none, .call nMathBitsTrailingZeros64 [(.t 32)]⟩,
  ⟨(some 10), none, .mv (.t 33)⟩]
def rCliquesExtendX12 : List O := [
  ⟨(some 34), none, .mv (.t 8)⟩,
  ⟨(some 35), none, .mv (.t 10)⟩,
  ⟨(some 36), none, .bslice 1 1 [(.int .i64 0)] [(0, 1, (.t 35))]⟩,
  ⟨(some 37), none, .app 1 (.t 34) (.t 36)⟩,
  ⟨(some 8), none, .mv (.t 37)⟩]
def rCliquesExtendX13 : List O := [
  ⟨(some 38), none, .mv (.t 9)⟩,
  ⟨(some 39), none, .mv (.t 7)⟩,
  ⟨(some 40), none, .mv (.t 10)⟩,
  ⟨(some 41), none, .ixa 1 (.t 39) (.t 40)⟩,
  ⟨(some 42), none, .ld none (.t 41)⟩,
  ⟨(some 43), none, .bin .and (.t 38) (.t 42)⟩,
  ⟨(some 9), none, .mv (.t 43)⟩]
def lCliquesExtendX0 : C := (.seq (.seq (.reg rCliquesExtendX10 false [] [7, 8, 9, 31]) (.cond (.t 31) .skip (.exit 0))) (.blk 1 (.seq (.reg rCliquesExtendX11 false [] [7, 8, 9, 10]) (.seq (.reg rCliquesExtendX12 false [] [7, 8, 9, 10]) (.reg rCliquesExtendX13 false [] [7, 8, 9])))))
def rCliquesExtendX14 : List O := [
  ⟨(some 44), none, .mv (.t 8)⟩,
  ⟨(some 45), none, .call nSlicesSortIntInt [(.t 44)]⟩]
def rCliquesExtendX15 : List O := [
  ⟨(some 46), none, .mv (.t 8)⟩,
  ⟨(some 4), none, .mv (.t 46)⟩,
  ⟨(some 5), none, .mv (.k (.int .i64 0))⟩]
def cCliquesExtend : C := (.seq (.reg rCliquesExtendX0 false [] [1, 2]) (.seq (.seq (.reg rCliquesExtendX1 false [] [1, 2, 6]) (.seq (.reg rCliquesExtendX2 false [] [1, 2, 6, 14]) (.cond (.t 14) (.seq (.reg rCliquesExtendX3 false [] [4, 5]) .ret) .skip))) (.seq (.seq (.reg rCliquesExtendX4 false [] [1, 2, 19]) (.cond (.t 19) (.seq (.reg rCliquesExtendX5 false [] [4, 5]) .ret) .skip)) (.seq (.seq (.reg rCliquesExtendX6 false [] [1, 2, 22]) (.cond (.t 22) (.seq (.reg rCliquesExtendX7 false [] [4, 5]) .ret) .skip)) (.seq (.reg rCliquesExtendX8 false [] [7, 8]) (.seq (.seq (.reg rCliquesExtendX9 false [] [7, 8, 9]) (.blk 0 (.loop lCliquesExtendX0))) (.seq (.reg rCliquesExtendX14 false [] [8]) (.seq (.reg rCliquesExtendX15 false [] [4, 5]) .ret))))))))
def qCliquesExtend : AFn := ⟨47, 2, [.t 4, .t 5], cCliquesExtend⟩
/- cohesion/cohesionref24.Extend -/
def rRef24ExtendX0 : List O := [
  ⟨(some 2), none, .box (.t 0)⟩,
  ⟨(some 4), none, .mv (.k (.own 1 []))⟩,
  ⟨(some 5), none, .mv (.k (.int .i64 0))⟩]
def rRef24ExtendX1 : List O := [
  ⟨(some 9), none, .ld (some 2) (.t 2)⟩,
  ⟨(some 10), none, .call nRef03Check [(.t 9)]⟩,
  ⟨(some 6), none, .mv (.t 10)⟩]
def rRef24ExtendX2 : List O := [
  ⟨(some 11), none, .mv (.t 6)⟩,
  ⟨(some 12), none, .bin .neq (.t 11) (.k (.int .i64 0))⟩]
def rRef24ExtendX3 : List O := [
  ⟨(some 13), none, .mv (.t 6)⟩,
  ⟨(some 4), none, .mv (.k (.own 1 []))⟩,
  ⟨(some 5), none, .mv (.t 13)⟩]
def rRef24ExtendX4 : List O := [
  ⟨(some 14), none, .ld (some 2) (.t 2)⟩,
  ⟨(some 15), none, .mv (.t 1)⟩,
  ⟨(some 16), none, .call nRef24Is [(.t 14), (.t 15)]⟩,
  ⟨(some 17), none, .un .not (.t 16)⟩]
def rRef24ExtendX5 : List O := [
  ⟨(some 4), none, .mv (.k (.own 1 []))⟩,
  ⟨(some 5), none, .mv (.k (.int .i64 4))⟩]
def rRef24ExtendX6 : List O := [
  ⟨(some 18), none, .fad 0 (.t 2)⟩,
  ⟨(some 19), none, .ld none (.t 18)⟩,
  ⟨(some 20), none, .bin .eql (.t 19) (.k (.int .i64 0))⟩]
def rRef24ExtendX7 : List O := [
  ⟨(some 4), none, .mv (.k (.own 1 []))⟩,
  ⟨(some 5), none, .mv (.k (.int .i64 13))⟩]
def rRef24ExtendX8 : List O := [
  ⟨(some 21), none, .mv (.t 1)⟩,
  ⟨(some 22), none, .app 1 (.k (.own 1 [])) (.t 21)⟩,
  ⟨(some 7), none, .mv (.t 22)⟩]
def rRef24ExtendX9 : List O := [
  ⟨(some 8), none, .mv (.k (.int .i64 0))⟩]
def rRef24ExtendX10 : List O := [
  ⟨(some 23), none, .mv (.t 8)⟩,
  ⟨(some 24), none, .fad 0 (.t 2)⟩,
  ⟨(some 25), none, .ld none (.t 24)⟩,
  ⟨(some 26), none, .bin .lss (.t 23) (.t 25)⟩]
def rRef24ExtendX11 : List O := [
  ⟨(some 29), none, .ld (some 2) (.t 2)⟩,
  ⟨(some 30), none, .mv (.t 7)⟩,
  ⟨(some 31), none, .mv (.t 8)⟩,
  ⟨(some 32), none, .call nRef24Fits [(.t 29), (.t 30), (.t 31)]⟩]
def rRef24ExtendX12 : List O := [
  ⟨(some 33), none, .mv (.t 7)⟩,
  ⟨(some 34), none, .mv (.t 8)⟩,
  ⟨(some 35), none, .bslice 1 1 [(.int .i64 0)] [(0, 1, (.t 34))]⟩,
  ⟨(some 36), none, .app 1 (.t 33) (.t 35)⟩,
  ⟨(some 7), none, .mv (.t 36)⟩]
def rRef24ExtendX13 : List O := [
  ⟨(some 27), none, .mv (.t 8)⟩,
  ⟨(some 28), none, .bin .add (.t 27) (.k (.int .i64 1))⟩,
  ⟨(some 8), none, .mv (.t 28)⟩]
def lRef24ExtendX0 : C := (.seq (.seq (.reg rRef24ExtendX10 false [] [2, 7, 8, 26]) (.cond (.t 26) .skip (.exit 0))) (.seq (.blk 1 (.seq (.reg rRef24ExtendX11 false [] [2, 7, 8, 32]) (.cond (.t 32) (.reg rRef24ExtendX12 false [] [2, 7, 8]) .skip))) (.reg rRef24ExtendX13 false [] [2, 7, 8])))
def rRef24ExtendX14 : List O := [
  ⟨(some 37), none, .mv (.t 7)⟩,
  ⟨(some 38), none, .call nRef02Of [(.t 37)]⟩,
  ⟨(some 4), none, .mv (.t 38)⟩,
  ⟨(some 5), none, .mv (.k (.int .i64 0))⟩]
def cRef24Extend : C := (.seq (.reg rRef24ExtendX0 false [] [1, 2]) (.seq (.seq (.reg rRef24ExtendX1 false [] [1, 2, 6]) (.seq (.reg rRef24ExtendX2 false [] [1, 2, 6, 12]) (.cond (.t 12) (.seq (.reg rRef24ExtendX3 false [] [4, 5]) .ret) .skip))) (.seq (.seq (.reg rRef24ExtendX4 false [] [1, 2, 17]) (.cond (.t 17) (.seq (.reg rRef24ExtendX5 false [] [4, 5]) .ret) .skip)) (.seq (.seq (.reg rRef24ExtendX6 false [] [1, 2, 20]) (.cond (.t 20) (.seq (.reg rRef24ExtendX7 false [] [4, 5]) .ret) .skip)) (.seq (.reg rRef24ExtendX8 false [] [2, 7]) (.seq (.seq (.reg rRef24ExtendX9 false [] [2, 7, 8]) (.blk 0 (.loop lRef24ExtendX0))) (.seq (.reg rRef24ExtendX14 false [] [4, 5]) .ret)))))))
def qRef24Extend : AFn := ⟨39, 2, [.t 4, .t 5], cRef24Extend⟩
/- cohesion/cohesionref24.Next -/
def rRef24NextX0 : List O := [
  ⟨(some 2), none, .box (.t 0)⟩,
  ⟨(some 4), none, .mv (.k (.own 1 []))⟩,
  ⟨(some 5), none, .mv (.k (.bool false))⟩,
  ⟨(some 6), none, .mv (.k (.int .i64 0))⟩]
def rRef24NextX1 : List O := [
  ⟨(some 10), none, .ld (some 2) (.t 2)⟩,
  ⟨(some 11), none, .call nRef03Check [(.t 10)]⟩,
  ⟨(some 7), none, .mv (.t 11)⟩]
def rRef24NextX2 : List O := [
  ⟨(some 12), none, .mv (.t 7)⟩,
  ⟨(some 13), none, .bin .neq (.t 12) (.k (.int .i64 0))⟩]
def rRef24NextX3 : List O := [
  ⟨(some 14), none, .mv (.t 7)⟩,
  ⟨(some 4), none, .mv (.k (.own 1 []))⟩,
  ⟨(some 5), none, .mv (.k (.bool false))⟩,
  ⟨(some 6), none, .mv (.t 14)⟩]
def rRef24NextX4 : List O := [
  ⟨(some 15), none, .ld (some 2) (.t 2)⟩,
  ⟨(some 16), none, .call nRef24List [(.t 15), (.k (.int .i64 1048576))]⟩,
  ⟨(some 8), none, .mv (.t 16)⟩]
def rRef24NextX5 : List O := [
  ⟨(some 9), none, .mv (.k (.int .i64 0))⟩]
def rRef24NextX6 : List O := [
  ⟨(some 17), none, .mv (.t 9)⟩,
  ⟨(some 18), none, .mv (.t 8)⟩,
  ⟨(some 19), none, .len (.t 18)⟩,
  ⟨(some 20), none, .bin .lss (.t 17) (.t 19)⟩]
def rRef24NextX7 : List O := [
  ⟨(some 23), none, .mv (.t 8)⟩,
  ⟨(some 24), none, .mv (.t 9)⟩,
  ⟨(some 25), none, .ixa 1 (.t 23) (.t 24)⟩,
  ⟨(some 26), none, .ld none (.t 25)⟩,
  ⟨(some 27), none, .mv (.t 1)⟩,
  ⟨(some 28), none, .call nRef02Cmp [(.t 26), (.t 27)]⟩,
  ⟨(some 29), none, .bin .gtr (.t 28) (.k (.int .i64 0))⟩]
def rRef24NextX8 : List O := [
  ⟨(some 30), none, .mv (.t 8)⟩,
  ⟨(some 31), none, .mv (.t 9)⟩,
  ⟨(some 32), none, .ixa 1 (.t 30) (.t 31)⟩,
  ⟨(some 33), none, .ld none (.t 32)⟩,
  ⟨(some 4), none, .mv (.t 33)⟩,
  ⟨(some 5), none, .mv (.k (.bool true))⟩,
  ⟨(some 6), none, .mv (.k (.int .i64 0))⟩]
def rRef24NextX9 : List O := [
  ⟨(some 21), none, .mv (.t 9)⟩,
  ⟨(some 22), none, .bin .add (.t 21) (.k (.int .i64 1))⟩,
  ⟨(some 9), none, .mv (.t 22)⟩]
def lRef24NextX0 : C := (.seq (.seq (.reg rRef24NextX6 false [] [1, 8, 9, 20]) (.cond (.t 20) .skip (.exit 0))) (.seq (.blk 1 (.seq (.reg rRef24NextX7 false [] [1, 8, 9, 29]) (.cond (.t 29) (.seq (.reg rRef24NextX8 false [] [4, 5, 6]) .ret) .skip))) (.reg rRef24NextX9 false [] [1, 8, 9])))
def rRef24NextX10 : List O := [
  ⟨(some 4), none, .mv (.k (.own 1 []))⟩,
  ⟨(some 5), none, .mv (.k (.bool false))⟩,
  ⟨(some 6), none, .mv (.k (.int .i64 0))⟩]
def cRef24Next : C := (.seq (.reg rRef24NextX0 false [] [1, 2]) (.seq (.seq (.reg rRef24NextX1 false [] [1, 2, 7]) (.seq (.reg rRef24NextX2 false [] [1, 2, 7, 13]) (.cond (.t 13) (.seq (.reg rRef24NextX3 false [] [4, 5, 6]) .ret) .skip))) (.seq (.reg rRef24NextX4 false [] [1, 8]) (.seq (.seq (.reg rRef24NextX5 false [] [1, 8, 9]) (.blk 0 (.loop lRef24NextX0))) (.seq (.reg rRef24NextX10 false [] [4, 5, 6]) .ret)))))
def qRef24Next : AFn := ⟨34, 2, [.t 4, .t 5, .t 6], cRef24Next⟩
/- cohesion/cliques.Is -/
def rCliquesIsX0 : List O := [
  ⟨(some 2), none, .box (.t 0)⟩,
  ⟨(some 4), none, .mv (.k (.bool false))⟩]
def rCliquesIsX1 : List O := [
  ⟨(some 5), none, .ld (some 2) (.t 2)⟩,
  ⟨(some 6), none, .call nGraphCheck [(.t 5)]⟩,
  ⟨(some 7), none, .bin .eql (.t 6) (.k (.int .i64 0))⟩,
  ⟨(some 8), none, .mv (.t 7)⟩,
  ⟨(some 9), (some (8, true)), .mv (.t 1)⟩,
  ⟨(some 10), (some (8, true)), .fad 0 (.t 2)⟩,
  ⟨(some 11), (some (8, true)), .ld none (.t 10)⟩,
  ⟨(some 12), (some (8, true)), .call nNodesetValid [(.t 9), (.t 11)]⟩,
  ⟨(some 13), none, .pick (.t 8) (.t 12) (.k (.bool false))⟩,
  ⟨(some 14), none, .mv (.t 13)⟩,
  ⟨(some 15), (some (14, true)), .ld (some 2) (.t 2)⟩,
  ⟨(some 16), (some (14, true)), .call nCliquesMasks [(.t 15)]⟩,
  ⟨(some 17), (some (14, true)), .mv (.t 1)⟩,
  ⟨(some 18), (some (14, true)), .call nCliquesClique [(.t 16), (.t 17)]⟩,
  ⟨(some 19), none, .pick (.t 14) (.t 18) (.k (.bool false))⟩,
  ⟨(some 4), none, .mv (.t 19)⟩]
def cCliquesIs : C := (.seq (.reg rCliquesIsX0 false [] [1, 2]) (.seq (.reg rCliquesIsX1 false [] [4]) .ret))
def qCliquesIs : AFn := ⟨20, 2, [.t 4], cCliquesIs⟩
/- cohesion/cohesionref24.Is -/
def rRef24IsX0 : List O := [
  ⟨(some 2), none, .box (.t 0)⟩,
  ⟨(some 4), none, .mv (.k (.bool false))⟩]
def rRef24IsX1 : List O := [
  ⟨(some 7), none, .ld (some 2) (.t 2)⟩,
  ⟨(some 8), none, .call nRef03Check [(.t 7)]⟩,
  ⟨(some 9), none, .bin .neq (.t 8) (.k (.int .i64 0))⟩,
  ⟨(some 10), none, .mv (.t 9)⟩,
  ⟨(some 11), (some (10, false)), .mv (.t 1)⟩,
  ⟨(some 12), (some (10, false)), .fad 0 (.t 2)⟩,
  ⟨(some 13), (some (10, false)), .ld none (.t 12)⟩,
  ⟨(some 14), (some (10, false)), .call nRef02Valid [(.t 11), (.t 13)]⟩,
  ⟨(some 15), (some (10, false)), .un .not (.t 14)⟩,
  ⟨(some 16), none, .pick (.t 10) (.k (.bool true)) (.t 15)⟩]
def rRef24IsX2 : List O := [
  ⟨(some 4), none, .mv (.k (.bool false))⟩]
def rRef24IsX3 : List O := [
  ⟨(some 5), none, .mv (.k (.int .i64 0))⟩]
def rRef24IsX4 : List O := [
  ⟨(some 17), none, .mv (.t 5)⟩,
  ⟨(some 18), none, .mv (.t 1)⟩,
  ⟨(some 19), none, .len (.t 18)⟩,
  ⟨(some 20), none, .bin .lss (.t 17) (.t 19)⟩]
def rRef24IsX5 : List O := [
  ⟨(some 23), none, .mv (.t 5)⟩,
  ⟨(some 24), none, .bin .add (.t 23) (.k (.int .i64 1))⟩,
  ⟨(some 6), none, .mv (.t 24)⟩]
def rRef24IsX6 : List O := [
  ⟨(some 25), none, .mv (.t 6)⟩,
  ⟨(some 26), none, .mv (.t 1)⟩,
  ⟨(some 27), none, .len (.t 26)⟩,
  ⟨(some 28), none, .bin .lss (.t 25) (.t 27)⟩]
def rRef24IsX7 : List O := [
  ⟨(some 31), none, .ld (some 2) (.t 2)⟩,
  ⟨(some 32), none, .mv (.t 1)⟩,
  ⟨(some 33), none, .mv (.t 5)⟩,
  ⟨(some 34), none, .ixa 1 (.t 32) (.t 33)⟩,
  ⟨(some 35), none, .ld none (.t 34)⟩,
  ⟨(some 36), none, .mv (.t 1)⟩,
  ⟨(some 37), none, .mv (.t 6)⟩,
  ⟨(some 38), none, .ixa 1 (.t 36) (.t 37)⟩,
  ⟨(some 39), none, .ld none (.t 38)⟩,
  ⟨(some 40), none, .call nRef03Find [(.t 31), (.t 35), (.t 39)]⟩,
  ⟨(some 41), none, .bin .lss (.t 40) (.k (.int .i64 0))⟩]
def rRef24IsX8 : List O := [
  ⟨(some 4), none, .mv (.k (.bool false))⟩]
def rRef24IsX9 : List O := [
  ⟨(some 29), none, .mv (.t 6)⟩,
  ⟨(some 30), none, .bin .add (.t 29) (.k (.int .i64 1))⟩,
  ⟨(some 6), none, .mv (.t 30)⟩]
def lRef24IsX0 : C := (.seq (.seq (.reg rRef24IsX6 false [] [1, 2, 5, 6, 28]) (.cond (.t 28) .skip (.exit 2))) (.seq (.blk 3 (.seq (.reg rRef24IsX7 true [(9, 9), (10, 10), (0, 1), (0, 2), (0, 3), (0, 4), (0, 5), (4, 5), (0, 6), (4, 6), (0, 7), (4, 7), (0, 8), (1, 8), (2, 8), (3, 8), (4, 8)] [1, 2, 5, 6, 41]) (.cond (.t 41) (.seq (.reg rRef24IsX8 false [] [4]) .ret) .skip))) (.reg rRef24IsX9 false [] [1, 2, 5, 6])))
def rRef24IsX10 : List O := [
  ⟨(some 21), none, .mv (.t 5)⟩,
  ⟨(some 22), none, .bin .add (.t 21) (.k (.int .i64 1))⟩,
  ⟨(some 5), none, .mv (.t 22)⟩]
def lRef24IsX1 : C := (.seq (.seq (.reg rRef24IsX4 false [] [1, 2, 5, 20]) (.cond (.t 20) .skip (.exit 0))) (.seq (.blk 1 (.seq (.reg rRef24IsX5 false [] [1, 2, 5, 6]) (.blk 2 (.loop lRef24IsX0)))) (.reg rRef24IsX10 false [] [1, 2, 5])))
def rRef24IsX11 : List O := [
  ⟨(some 4), none, .mv (.k (.bool true))⟩]
def cRef24Is : C := (.seq (.reg rRef24IsX0 false [] [1, 2]) (.seq (.seq (.reg rRef24IsX1 false [] [1, 2, 16]) (.cond (.t 16) (.seq (.reg rRef24IsX2 false [] [4]) .ret) .skip)) (.seq (.seq (.reg rRef24IsX3 false [] [1, 2, 5]) (.blk 0 (.loop lRef24IsX1))) (.seq (.reg rRef24IsX11 false [] [4]) .ret))))
def qRef24Is : AFn := ⟨42, 2, [.t 4], cRef24Is⟩
/- cohesion/cliques.Maximal -/
def rCliquesMaximalX0 : List O := [
  ⟨(some 2), none, .box (.t 0)⟩,
  ⟨(some 4), none, .mv (.k (.bool false))⟩]
def rCliquesMaximalX1 : List O := [
  ⟨(some 5), none, .mv (.t 1)⟩,
  ⟨(some 6), none, .len (.t 5)⟩,
  ⟨(some 7), none, .bin .gtr (.t 6) (.k (.int .i64 0))⟩,
  ⟨(some 8), none, .mv (.t 7)⟩,
  ⟨(some 9), (some (8, true)), .ld (some 2) (.t 2)⟩,
  ⟨(some 10), (some (8, true)), .mv (.t 1)⟩,
  ⟨(some 11), (some (8, true)), .call nCliquesIs [(.t 9), (.t 10)]⟩,
  ⟨(some 12), none, .pick (.t 8) (.t 11) (.k (.bool false))⟩,
  ⟨(some 13), none, .mv (.t 12)⟩,
  ⟨(some 14), (some (13, true)), .ld (some 2) (.t 2)⟩,
  ⟨(some 15), (some (13, true)), .call nCliquesMasks [(.t 14)]⟩,
  ⟨(some 16), (some (13, true)), .mv (.t 1)⟩,
  ⟨(some 17), (some (13, true)), .call nCliquesCommon [(.t 15), (.t 16)]⟩,
  ⟨(some 18), (some (13, true)), .bin .eql (.t 17) (.k (.int .u64 0))⟩,
  ⟨(some 19), none, .pick (.t 13) (.t 18) (.k (.bool false))⟩,
  ⟨(some 4), none, .mv (.t 19)⟩]
def cCliquesMaximal : C := (.seq (.reg rCliquesMaximalX0 false [] [1, 2]) (.seq (.reg rCliquesMaximalX1 false [] [4]) .ret))
def qCliquesMaximal : AFn := ⟨20, 2, [.t 4], cCliquesMaximal⟩
/- cohesion/cohesionref24.Maximal -/
def rRef24MaximalX0 : List O := [
  ⟨(some 2), none, .box (.t 0)⟩,
  ⟨(some 4), none, .mv (.k (.bool false))⟩]
def rRef24MaximalX1 : List O := [
  ⟨(some 6), none, .ld (some 2) (.t 2)⟩,
  ⟨(some 7), none, .mv (.t 1)⟩,
  ⟨(some 8), none, .call nRef24Is [(.t 6), (.t 7)]⟩,
  ⟨(some 9), none, .un .not (.t 8)⟩,
  ⟨(some 10), none, .mv (.t 9)⟩,
  ⟨(some 11), (some (10, false)), .mv (.t 1)⟩,
  ⟨(some 12), (some (10, false)), .len (.t 11)⟩,
  ⟨(some 13), (some (10, false)), .bin .eql (.t 12) (.k (.int .i64 0))⟩,
  ⟨(some 14), none, .pick (.t 10) (.k (.bool true)) (.t 13)⟩]
def rRef24MaximalX2 : List O := [
  ⟨(some 4), none, .mv (.k (.bool false))⟩]
def rRef24MaximalX3 : List O := [
  ⟨(some 5), none, .mv (.k (.int .i64 0))⟩]
def rRef24MaximalX4 : List O := [
  ⟨(some 15), none, .mv (.t 5)⟩,
  ⟨(some 16), none, .fad 0 (.t 2)⟩,
  ⟨(some 17), none, .ld none (.t 16)⟩,
  ⟨(some 18), none, .bin .lss (.t 15) (.t 17)⟩]
def rRef24MaximalX5 : List O := [
  ⟨(some 21), none, .ld (some 2) (.t 2)⟩,
  ⟨(some 22), none, .mv (.t 1)⟩,
  ⟨(some 23), none, .mv (.t 5)⟩,
  ⟨(some 24), none, .call nRef24Fits [(.t 21), (.t 22), (.t 23)]⟩]
def rRef24MaximalX6 : List O := [
  ⟨(some 4), none, .mv (.k (.bool false))⟩]
def rRef24MaximalX7 : List O := [
  ⟨(some 19), none, .mv (.t 5)⟩,
  ⟨(some 20), none, .bin .add (.t 19) (.k (.int .i64 1))⟩,
  ⟨(some 5), none, .mv (.t 20)⟩]
def lRef24MaximalX0 : C := (.seq (.seq (.reg rRef24MaximalX4 false [] [1, 2, 5, 18]) (.cond (.t 18) .skip (.exit 0))) (.seq (.blk 1 (.seq (.reg rRef24MaximalX5 false [] [1, 2, 5, 24]) (.cond (.t 24) (.seq (.reg rRef24MaximalX6 false [] [4]) .ret) .skip))) (.reg rRef24MaximalX7 false [] [1, 2, 5])))
def rRef24MaximalX8 : List O := [
  ⟨(some 4), none, .mv (.k (.bool true))⟩]
def cRef24Maximal : C := (.seq (.reg rRef24MaximalX0 false [] [1, 2]) (.seq (.seq (.reg rRef24MaximalX1 false [] [1, 2, 14]) (.cond (.t 14) (.seq (.reg rRef24MaximalX2 false [] [4]) .ret) .skip)) (.seq (.seq (.reg rRef24MaximalX3 false [] [1, 2, 5]) (.blk 0 (.loop lRef24MaximalX0))) (.seq (.reg rRef24MaximalX8 false [] [4]) .ret))))
def qRef24Maximal : AFn := ⟨25, 2, [.t 4], cRef24Maximal⟩
/- cohesion/cohesionref24.All -/
def rRef24AllX0 : List O := [
  ⟨(some 2), none, .box (.t 0)⟩,
  ⟨(some 4), none, .mv (.k (.own 1 []))⟩,
  ⟨(some 5), none, .mv (.k (.int .i64 0))⟩]
def rRef24AllX1 : List O := [
  ⟨(some 8), none, .ld (some 2) (.t 2)⟩,
  ⟨(some 9), none, .call nRef03Check [(.t 8)]⟩,
  ⟨(some 6), none, .mv (.t 9)⟩]
def rRef24AllX2 : List O := [
  ⟨(some 10), none, .mv (.t 6)⟩,
  ⟨(some 11), none, .bin .neq (.t 10) (.k (.int .i64 0))⟩]
def rRef24AllX3 : List O := [
  ⟨(some 12), none, .mv (.t 6)⟩,
  ⟨(some 4), none, .mv (.k (.own 1 []))⟩,
  ⟨(some 5), none, .mv (.t 12)⟩]
def rRef24AllX4 : List O := [
  ⟨(some 13), none, .mv (.t 1)⟩,
  ⟨(some 14), none, .bin .lss (.t 13) (.k (.int .i64 0))⟩,
  ⟨(some 15), none, .mv (.t 14)⟩,
  ⟨(some 16), (some (15, false)), .mv (.t 1)⟩,
  ⟨(some 17), (some (15, false)), .bin .gtr (.t 16) (.k (.int .i64 4096))⟩,
  ⟨(some 18), none, .pick (.t 15) (.k (.bool true)) (.t 17)⟩]
def rRef24AllX5 : List O := [
  ⟨(some 4), none, .mv (.k (.own 1 []))⟩,
  ⟨(some 5), none, .mv (.k (.int .i64 1))⟩]
def rRef24AllX6 : List O := [
  ⟨(some 19), none, .ld (some 2) (.t 2)⟩,
  ⟨(some 20), none, .mv (.t 1)⟩,
  ⟨(some 21), none, .call nRef24List [(.t 19), (.t 20)]⟩,
  ⟨(some 7), none, .mv (.t 21)⟩]
def rRef24AllX7 : List O := [
  ⟨(some 22), none, .mv (.t 7)⟩,
  ⟨(some 23), none, .len (.t 22)⟩,
  ⟨(some 24), none, .mv (.t 1)⟩,
  ⟨(some 25), none, .bin .gtr (.t 23) (.t 24)⟩]
def rRef24AllX8 : List O := [
  ⟨(some 4), none, .mv (.k (.own 1 []))⟩,
  ⟨(some 5), none, .mv (.k (.int .i64 3))⟩]
def rRef24AllX9 : List O := [
  ⟨(some 26), none, .mv (.t 7)⟩,
  ⟨(some 4), none, .mv (.t 26)⟩,
  ⟨(some 5), none, .mv (.k (.int .i64 0))⟩]
def cRef24All : C := (.seq (.reg rRef24AllX0 false [] [1, 2]) (.seq (.seq (.reg rRef24AllX1 false [] [1, 2, 6]) (.seq (.reg rRef24AllX2 false [] [1, 2, 6, 11]) (.cond (.t 11) (.seq (.reg rRef24AllX3 false [] [4, 5]) .ret) .skip))) (.seq (.seq (.reg rRef24AllX4 false [] [1, 2, 18]) (.cond (.t 18) (.seq (.reg rRef24AllX5 false [] [4, 5]) .ret) .skip)) (.seq (.reg rRef24AllX6 false [] [1, 7]) (.seq (.seq (.reg rRef24AllX7 false [] [7, 25]) (.cond (.t 25) (.seq (.reg rRef24AllX8 false [] [4, 5]) .ret) .skip)) (.seq (.reg rRef24AllX9 false [] [4, 5]) .ret))))))
def qRef24All : AFn := ⟨27, 2, [.t 4, .t 5], cRef24All⟩
/- cohesion/cohesionref24.Same -/
def rRef24SameX0 : List O := [
  ⟨(some 4), none, .mv (.k (.bool false))⟩]
def rRef24SameX1 : List O := [
  ⟨(some 6), none, .mv (.t 0)⟩,
  ⟨(some 7), none, .len (.t 6)⟩,
  ⟨(some 8), none, .mv (.t 1)⟩,
  ⟨(some 9), none, .len (.t 8)⟩,
  ⟨(some 10), none, .bin .neq (.t 7) (.t 9)⟩]
def rRef24SameX2 : List O := [
  ⟨(some 4), none, .mv (.k (.bool false))⟩]
def rRef24SameX3 : List O := [
  ⟨(some 5), none, .mv (.k (.int .i64 0))⟩]
def rRef24SameX4 : List O := [
  ⟨(some 11), none, .mv (.t 5)⟩,
  ⟨(some 12), none, .mv (.t 0)⟩,
  ⟨(some 13), none, .len (.t 12)⟩,
  ⟨(some 14), none, .bin .lss (.t 11) (.t 13)⟩]
def rRef24SameX5 : List O := [
  ⟨(some 17), none, .mv (.t 0)⟩,
  ⟨(some 18), none, .mv (.t 5)⟩,
  ⟨(some 19), none, .ixa 1 (.t 17) (.t 18)⟩,
  ⟨(some 20), none, .ld none (.t 19)⟩,
  ⟨(some 21), none, .mv (.t 1)⟩,
  ⟨(some 22), none, .mv (.t 5)⟩,
  ⟨(some 23), none, .ixa 1 (.t 21) (.t 22)⟩,
  ⟨(some 24), none, .ld none (.t 23)⟩,
  ⟨(some 25), none, .call nRef02Cmp [(.t 20), (.t 24)]⟩,
  ⟨(some 26), none, .bin .neq (.t 25) (.k (.int .i64 0))⟩]
def rRef24SameX6 : List O := [
  ⟨(some 4), none, .mv (.k (.bool false))⟩]
def rRef24SameX7 : List O := [
  ⟨(some 15), none, .mv (.t 5)⟩,
  ⟨(some 16), none, .bin .add (.t 15) (.k (.int .i64 1))⟩,
  ⟨(some 5), none, .mv (.t 16)⟩]
def lRef24SameX0 : C := (.seq (.seq (.reg rRef24SameX4 false [] [0, 1, 5, 14]) (.cond (.t 14) .skip (.exit 0))) (.seq (.blk 1 (.seq (.reg rRef24SameX5 true [(8, 8), (9, 9), (3, 4), (3, 5), (3, 6), (0, 7), (1, 7), (2, 7), (3, 7)] [0, 1, 5, 26]) (.cond (.t 26) (.seq (.reg rRef24SameX6 false [] [4]) .ret) .skip))) (.reg rRef24SameX7 false [] [0, 1, 5])))
def rRef24SameX8 : List O := [
  ⟨(some 4), none, .mv (.k (.bool true))⟩]
def cRef24Same : C := (.seq (.reg rRef24SameX0 false [] [0, 1]) (.seq (.seq (.reg rRef24SameX1 false [] [0, 1, 10]) (.cond (.t 10) (.seq (.reg rRef24SameX2 false [] [4]) .ret) .skip)) (.seq (.seq (.reg rRef24SameX3 false [] [0, 1, 5]) (.blk 0 (.loop lRef24SameX0))) (.seq (.reg rRef24SameX8 false [] [4]) .ret))))
def qRef24Same : AFn := ⟨27, 2, [.t 4], cRef24Same⟩
/- cohesion/cohesionref24.Check -/
def rRef24CheckX0 : List O := [
  ⟨(some 2), none, .box (.t 0)⟩,
  ⟨(some 4), none, .mv (.k (.bool false))⟩]
def rRef24CheckX1 : List O := [
  ⟨(some 5), none, .ld (some 2) (.t 2)⟩,
  ⟨(some 6), none, .call nRef03Check [(.t 5)]⟩,
  ⟨(some 7), none, .bin .eql (.t 6) (.k (.int .i64 0))⟩,
  ⟨(some 8), none, .mv (.t 7)⟩,
  ⟨(some 9), (some (8, true)), .mv (.t 1)⟩,
  ⟨(some 10), (some (8, true)), .ld (some 2) (.t 2)⟩,
  ⟨(some 11), (some (8, true)), .mv (.t 1)⟩,
  ⟨(some 12), (some (8, true)), .len (.t 11)⟩,
  ⟨(some 13), (some (8, true)), .call nRef24List [(.t 10), (.t 12)]⟩,
  ⟨(some 14), (some (8, true)), .call nRef24Same [(.t 9), (.t 13)]⟩,
  ⟨(some 15), none, .pick (.t 8) (.t 14) (.k (.bool false))⟩,
  ⟨(some 4), none, .mv (.t 15)⟩]
def cRef24Check : C := (.seq (.reg rRef24CheckX0 false [] [1, 2]) (.seq (.reg rRef24CheckX1 false [] [4]) .ret))
def qRef24Check : AFn := ⟨16, 2, [.t 4], cRef24Check⟩
/- cohesion/graph.Induced -/
def rGraphInducedX0 : List O := [
  ⟨(some 2), none, .box (.t 0)⟩,
  ⟨(some 4), none, .new [(.int .i64 0), (.own 2 [])]⟩,
  ⟨(some 5), none, .mv (.k (.int .i64 0))⟩]
def rGraphInducedX1 : List O := [
  ⟨(some 7), none, .ld (some 2) (.t 2)⟩,
  ⟨(some 8), none, .call nGraphCheck [(.t 7)]⟩,
  ⟨(some 6), none, .mv (.t 8)⟩]
def rGraphInducedX2 : List O := [
  ⟨(some 9), none, .mv (.t 6)⟩,
  ⟨(some 10), none, .bin .neq (.t 9) (.k (.int .i64 0))⟩]
def rGraphInducedX3 : List O := [
  ⟨(some 11), none, .build [(.int .i64 0), (.own 2 [])] []⟩,
  ⟨(some 12), none, .mv (.t 6)⟩,
  ⟨none, none, .st 2 (.t 4) (.t 11)⟩,
  ⟨(some 5), none, .mv (.t 12)⟩]
def rGraphInducedX4 : List O := [
  ⟨(some 13), none, .fad 0 (.t 2)⟩,
  ⟨(some 14), none, .ld none (.t 13)⟩,
  ⟨(some 15), none, .ld (some 2) (.t 2)⟩,
  ⟨(some 16), none, .mv (.t 1)⟩,
  ⟨(some 17), none, .call nGraphWithin [(.t 15), (.t 16)]⟩,
  ⟨(some 18), none, .build [(.int .i64 0), (.own 2 [])] [(0, 1, (.t 14)), (1, 1, (.t 17))]⟩,
  ⟨none, none, .st 2 (.t 4) (.t 18)⟩,
  ⟨(some 5), none, .mv (.k (.int .i64 0))⟩]
def cGraphInduced : C := (.seq (.reg rGraphInducedX0 false [] [1, 2, 4]) (.seq (.seq (.reg rGraphInducedX1 false [] [1, 2, 4, 6]) (.seq (.reg rGraphInducedX2 false [] [1, 2, 4, 6, 10]) (.cond (.t 10) (.seq (.reg rGraphInducedX3 false [] [4, 5]) .ret) .skip))) (.seq (.reg rGraphInducedX4 true [(5, 5), (6, 6), (7, 7), (0, 2), (1, 2), (1, 3), (2, 3), (0, 4), (1, 4)] [4, 5]) .ret)))
def qGraphInduced : AFn := ⟨19, 2, [.c 4 (some 2), .t 5], cGraphInduced⟩
/- cohesion/cohesionref02.Within -/
def rRef02WithinX0 : List O := [
  ⟨(some 4), none, .mv (.k (.bool false))⟩]
def rRef02WithinX1 : List O := [
  ⟨(some 7), none, .mv (.t 0)⟩,
  ⟨(some 8), none, .len (.t 7)⟩,
  ⟨(some 9), none, .mv (.k (.int .i64 0))⟩]
def rRef02WithinX2 : List O := [
  ⟨(some 10), none, .bin .lss (.t 9) (.t 8)⟩]
def rRef02WithinX3 : List O := [
  ⟨(some 11), none, .ixa 1 (.t 7) (.t 9)⟩,
  ⟨(some 12), none, .ld none (.t 11)⟩,
  ⟨(some 6), none, .mv (.t 12)⟩]
def rRef02WithinX4 : List O := [
  ⟨(some 13), none, .mv (.t 1)⟩,
  ⟨(some 14), none, .mv (.t 6)⟩,
  ⟨(some 15), none, .call nRef02Has [(.t 13), (.t 14)]⟩,
  ⟨(some 16), none, .un .not (.t 15)⟩]
def rRef02WithinX5 : List O := [
  ⟨(some 4), none, .mv (.k (.bool false))⟩]
def rRef02WithinX6 : List O := [
  ⟨(some 17), none, .bin .add (.t 9) (.k (.int .i64 1))⟩,
  ⟨(some 9), none, .mv (.t 17)⟩]
def lRef02WithinX0 : C := (.seq (.reg rRef02WithinX2 false [] [1, 7, 8, 9, 10]) (.seq (.cond (.t 10) .skip (.exit 0)) (.seq (.blk 1 (.seq (.reg rRef02WithinX3 false [] [1, 6, 7, 8, 9]) (.seq (.reg rRef02WithinX4 false [] [1, 7, 8, 9, 16]) (.cond (.t 16) (.seq (.reg rRef02WithinX5 false [] [4]) .ret) .skip)))) (.reg rRef02WithinX6 false [] [1, 7, 8, 9]))))
def rRef02WithinX7 : List O := [
  ⟨(some 4), none, .mv (.k (.bool true))⟩]
def cRef02Within : C := (.seq (.reg rRef02WithinX0 false [] [0, 1]) (.seq (.seq (.reg rRef02WithinX1 false [] [1, 7, 8, 9]) (.blk 0 (.loop lRef02WithinX0))) (.seq (.reg rRef02WithinX7 false [] [4]) .ret)))
def qRef02Within : AFn := ⟨18, 2, [.t 4], cRef02Within⟩
/- cohesion/cohesionref02.Minus -/
def rRef02MinusX0 : List O := [
  ⟨(some 4), none, .mv (.k (.own 1 []))⟩]
def rRef02MinusX1 : List O := [
  ⟨(some 5), none, .mv (.k (.own 1 []))⟩]
def rRef02MinusX2 : List O := [
  ⟨(some 8), none, .mv (.t 0)⟩,
  ⟨(some 9), none, .call nRef02Of [(.t 8)]⟩,
  ⟨(some 10), none, .len (.t 9)⟩,
  ⟨(some 11), none, .mv (.k (.int .i64 0))⟩]
def rRef02MinusX3 : List O := [
  ⟨(some 12), none, .bin .lss (.t 11) (.t 10)⟩]
def rRef02MinusX4 : List O := [
  ⟨(some 13), none, .ixa 1 (.t 9) (.t 11)⟩,
  ⟨(some 14), none, .ld none (.t 13)⟩,
  ⟨(some 7), none, .mv (.t 14)⟩]
def rRef02MinusX5 : List O := [
  ⟨(some 15), none, .mv (.t 1)⟩,
  ⟨(some 16), none, .mv (.t 7)⟩,
  ⟨(some 17), none, .call nRef02Has [(.t 15), (.t 16)]⟩,
  ⟨(some 18), none, .un .not (.t 17)⟩]
def rRef02MinusX6 : List O := [
  ⟨(some 19), none, .mv (.t 5)⟩,
  ⟨(some 20), none, .mv (.t 7)⟩,
  ⟨(some 21), none, .bslice 1 1 [(.int .i64 0)] [(0, 1, (.t 20))]⟩,
  ⟨(some 22), none, .app 1 (.t 19) (.t 21)⟩,
  ⟨(some 5), none, .mv (.t 22)⟩]
def rRef02MinusX7 : List O := [
  ⟨(some 23), none, .bin .add (.t 11) (.k (.int .i64 1))⟩,
  ⟨(some 11), none, .mv (.t 23)⟩]
def lRef02MinusX0 : C := (.seq (.reg rRef02MinusX3 false [] [1, 5, 9, 10, 11, 12]) (.seq (.cond (.t 12) .skip (.exit 0)) (.seq (.blk 1 (.seq (.reg rRef02MinusX4 false [] [1, 5, 7, 9, 10, 11]) (.seq (.reg rRef02MinusX5 false [] [1, 5, 7, 9, 10, 11, 18]) (.cond (.t 18) (.reg rRef02MinusX6 false [] [1, 5, 9, 10, 11]) .skip)))) (.reg rRef02MinusX7 false [] [1, 5, 9, 10, 11]))))
def rRef02MinusX8 : List O := [
  ⟨(some 24), none, .mv (.t 5)⟩,
  ⟨(some 4), none, .mv (.t 24)⟩]
def cRef02Minus : C := (.seq (.reg rRef02MinusX0 false [] [0, 1]) (.seq (.reg rRef02MinusX1 false [] [0, 1, 5]) (.seq (.seq (.reg rRef02MinusX2 false [] [1, 5, 9, 10, 11]) (.blk 0 (.loop lRef02MinusX0))) (.seq (.reg rRef02MinusX8 false [] [4]) .ret))))
def qRef02Minus : AFn := ⟨25, 2, [.t 4], cRef02Minus⟩
/- cohesion/cohesionref02.Union -/
def rRef02UnionX0 : List O := [
  ⟨(some 4), none, .mv (.k (.own 1 []))⟩]
def rRef02UnionX1 : List O := [
  ⟨(some 5), none, .mv (.t 0)⟩,
  ⟨(some 6), none, .app 1 (.k (.own 1 [])) (.t 5)⟩,
  ⟨(some 7), none, .mv (.t 1)⟩,
  ⟨(some 8), none, .app 1 (.t 6) (.t 7)⟩,
  ⟨(some 9), none, .call nRef02Of [(.t 8)]⟩,
  ⟨(some 4), none, .mv (.t 9)⟩]
def cRef02Union : C := (.seq (.reg rRef02UnionX0 false [] [0, 1]) (.seq (.reg rRef02UnionX1 false [] [4]) .ret))
def qRef02Union : AFn := ⟨10, 2, [.t 4], cRef02Union⟩
/- cohesion/graph.Add -/
def rGraphAddX0 : List O := [
  ⟨(some 3), none, .box (.t 0)⟩,
  ⟨(some 6), none, .new [(.int .i64 0), (.own 2 [])]⟩,
  ⟨(some 7), none, .mv (.k (.int .i64 0))⟩]
def rGraphAddX1 : List O := [
  ⟨(some 11), none, .ld (some 2) (.t 3)⟩,
  ⟨(some 12), none, .mv (.t 1)⟩,
  ⟨(some 13), none, .mv (.t 2)⟩,
  ⟨(some 14), none, .call nGraphChange [(.t 11), (.t 12), (.t 13)]⟩,
  ⟨(some 8), none, .mv (.t 14)⟩]
def rGraphAddX2 : List O := [
  ⟨(some 15), none, .mv (.t 8)⟩,
  ⟨(some 16), none, .bin .neq (.t 15) (.k (.int .i64 0))⟩]
def rGraphAddX3 : List O := [
  ⟨(some 17), none, .build [(.int .i64 0), (.own 2 [])] []⟩,
  ⟨(some 18), none, .mv (.t 8)⟩,
  ⟨none, none, .st 2 (.t 6) (.t 17)⟩,
  ⟨(some 7), none, .mv (.t 18)⟩]
def rGraphAddX4 : List O := [
  ⟨(some 20), none, .ld (some 2) (.t 3)⟩,
  ⟨(some 21), none, .mv (.t 1)⟩,
  ⟨(some 22), none, .mv (.t 2)⟩,
  ⟨(some 23), none, .call nGraphPlace [(.t 20), (.t 21), (.t 22)]⟩,
  ⟨(some 19), none, .mv (.t 23)⟩,
  ⟨(some 24), none, .ext 0 (.t 19)⟩,
  ⟨(some 25), none, .ext 1 (.t 19)⟩,
  ⟨(some 9), none, .mv (.t 24)⟩,
  ⟨(some 10), none, .mv (.t 25)⟩]
def rGraphAddX5 : List O := [
  ⟨(some 26), none, .mv (.t 10)⟩]
def rGraphAddX6 : List O := [
  ⟨(some 27), none, .build [(.int .i64 0), (.own 2 [])] []⟩,
  ⟨none, none, .st 2 (.t 6) (.t 27)⟩,
  ⟨(some 7), none, .mv (.k (.int .i64 15))⟩]
def rGraphAddX7 : List O := [
  ⟨(some 28), none, .fad 0 (.t 3)⟩,
  ⟨(some 29), none, .ld none (.t 28)⟩,
  ⟨(some 30), none, .fad 1 (.t 3)⟩,
  ⟨(some 31), none, .ld none (.t 30)⟩,
  ⟨(some 32), none, .call nSlicesCloneApiEdgeApiEdge [(.t 31)]⟩,
  ⟨(some 33), none, .mv (.t 9)⟩,
  ⟨(some 34), none, .mv (.t 1)⟩,
  ⟨(some 35), none, .mv (.t 2)⟩,
  ⟨(some 36), none, .call nGraphEdge [(.t 34), (.t 35)]⟩,
  ⟨(some 37), none, .bslice 2 1 [(.int .i64 0), (.int .i64 0)] [(0, 2, (.t 36))]⟩,
  ⟨(some 38), none, .call nSlicesInsertApiEdgeApiEdge [(.t 32), (.t 33), (.t 37)]⟩,
  ⟨(some 39), none, .build [(.int .i64 0), (.own 2 [])] [(0, 1, (.t 29)), (1, 1, (.t 38))]⟩,
  ⟨none, none, .st 2 (.t 6) (.t 39)⟩,
  ⟨(some 7), none, .mv (.k (.int .i64 0))⟩]
def cGraphAdd : C := (.seq (.reg rGraphAddX0 false [] [1, 2, 3, 6]) (.seq (.seq (.reg rGraphAddX1 false [] [1, 2, 3, 6, 8]) (.seq (.reg rGraphAddX2 false [] [1, 2, 3, 6, 8, 16]) (.cond (.t 16) (.seq (.reg rGraphAddX3 false [] [6, 7]) .ret) .skip))) (.seq (.reg rGraphAddX4 false [] [1, 2, 3, 6, 9, 10]) (.seq (.seq (.reg rGraphAddX5 false [] [1, 2, 3, 6, 9, 26]) (.cond (.t 26) (.seq (.reg rGraphAddX6 false [] [6, 7]) .ret) .skip)) (.seq (.reg rGraphAddX7 true [(11, 11), (12, 12), (13, 13), (1, 2), (0, 3), (1, 3), (0, 4), (1, 4), (1, 5), (3, 5), (4, 5), (1, 6), (3, 6), (4, 6), (1, 7), (3, 7), (4, 7), (0, 8), (1, 8), (5, 8), (0, 9), (1, 9), (5, 9), (0, 10), (1, 10)] [6, 7]) .ret)))))
def qGraphAdd : AFn := ⟨40, 3, [.c 6 (some 2), .t 7], cGraphAdd⟩
/- cohesion/cohesionref02.Has -/
def rRef02HasX0 : List O := [
  ⟨(some 4), none, .mv (.k (.bool false))⟩]
def rRef02HasX1 : List O := [
  ⟨(some 7), none, .mv (.t 0)⟩,
  ⟨(some 8), none, .len (.t 7)⟩,
  ⟨(some 9), none, .mv (.k (.int .i64 0))⟩]
def rRef02HasX2 : List O := [
  ⟨(some 10), none, .bin .lss (.t 9) (.t 8)⟩]
def rRef02HasX3 : List O := [
  ⟨(some 11), none, .ixa 1 (.t 7) (.t 9)⟩,
  ⟨(some 12), none, .ld none (.t 11)⟩,
  ⟨(some 6), none, .mv (.t 12)⟩]
def rRef02HasX4 : List O := [
  ⟨(some 13), none, .mv (.t 6)⟩,
  ⟨(some 14), none, .mv (.t 1)⟩,
  ⟨(some 15), none, .bin .eql (.t 13) (.t 14)⟩]
def rRef02HasX5 : List O := [
  ⟨(some 4), none, .mv (.k (.bool true))⟩]
def rRef02HasX6 : List O := [
  ⟨(some 16), none, .bin .add (.t 9) (.k (.int .i64 1))⟩,
  ⟨(some 9), none, .mv (.t 16)⟩]
def lRef02HasX0 : C := (.seq (.reg rRef02HasX2 false [] [1, 7, 8, 9, 10]) (.seq (.cond (.t 10) .skip (.exit 0)) (.seq (.blk 1 (.seq (.reg rRef02HasX3 false [] [1, 6, 7, 8, 9]) (.seq (.reg rRef02HasX4 false [] [1, 7, 8, 9, 15]) (.cond (.t 15) (.seq (.reg rRef02HasX5 false [] [4]) .ret) .skip)))) (.reg rRef02HasX6 false [] [1, 7, 8, 9]))))
def rRef02HasX7 : List O := [
  ⟨(some 4), none, .mv (.k (.bool false))⟩]
def cRef02Has : C := (.seq (.reg rRef02HasX0 false [] [0, 1]) (.seq (.seq (.reg rRef02HasX1 false [] [1, 7, 8, 9]) (.blk 0 (.loop lRef02HasX0))) (.seq (.reg rRef02HasX7 false [] [4]) .ret)))
def qRef02Has : AFn := ⟨17, 2, [.t 4], cRef02Has⟩
/- cohesion/graph.Of -/
def rGraphOfX0 : List O := [
  ⟨(some 4), none, .new [(.int .i64 0), (.own 2 [])]⟩,
  ⟨(some 5), none, .mv (.k (.int .i64 0))⟩]
def rGraphOfX1 : List O := [
  ⟨(some 9), none, .mv (.t 0)⟩,
  ⟨(some 10), none, .bin .lss (.t 9) (.k (.int .i64 0))⟩,
  ⟨(some 11), none, .mv (.t 10)⟩,
  ⟨(some 12), (some (11, false)), .mv (.t 0)⟩,
  ⟨(some 13), (some (11, false)), .bin .gtr (.t 12) (.k (.int .i64 64))⟩,
  ⟨(some 14), none, .pick (.t 11) (.k (.bool true)) (.t 13)⟩]
def rGraphOfX2 : List O := [
  ⟨(some 15), none, .build [(.int .i64 0), (.own 2 [])] []⟩,
  ⟨none, none, .st 2 (.t 4) (.t 15)⟩,
  ⟨(some 5), none, .mv (.k (.int .i64 1))⟩]
def rGraphOfX3 : List O := [
  ⟨(some 16), none, .mv (.t 0)⟩,
  ⟨(some 17), none, .build [(.int .i64 0), (.own 2 [])] [(0, 1, (.t 16))]⟩,
  ⟨(some 6), none, .new [(.int .i64 0), (.own 2 [])]⟩,
  ⟨none, none, .st 2 (.t 6) (.t 17)⟩]
def rGraphOfX4 : List O := [
  ⟨(some 18), none, .mv (.t 1)⟩,
  ⟨(some 19), none, .len (.t 18)⟩,
  ⟨(some 20), none, .mv (.k (.int .i64 0))⟩]
def rGraphOfX5 : List O := [
  ⟨(some 21), none, .bin .lss (.t 20) (.t 19)⟩]
def rGraphOfX6 : List O := [
  ⟨(some 22), none, .ixa 2 (.t 18) (.t 20)⟩,
  ⟨(some 23), none, .ld (some 2) (.t 22)⟩,
  ⟨(some 8), none, .new [(.int .i64 0), (.int .i64 0)]⟩,
  ⟨none, none, .st 2 (.t 8) (.t 23)⟩]
def rGraphOfX7 : List O := [
  ⟨(some 24), none, .mv (.t 0)⟩,
  ⟨(some 25), none, .fad 0 (.t 8)⟩,
  ⟨(some 26), none, .ld none (.t 25)⟩,
  ⟨(some 27), none, .fad 1 (.t 8)⟩,
  ⟨(some 28), none, .ld none (.t 27)⟩,
  ⟨(some 29), none, .call nGraphEnds [(.t 24), (.t 26), (.t 28)]⟩,
  ⟨(some 30), none, .un .not (.t 29)⟩]
def rGraphOfX8 : List O := [
  ⟨(some 31), none, .build [(.int .i64 0), (.own 2 [])] []⟩,
  ⟨none, none, .st 2 (.t 4) (.t 31)⟩,
  ⟨(some 5), none, .mv (.k (.int .i64 6))⟩]
def rGraphOfX9 : List O := [
  ⟨(some 32), none, .fad 1 (.t 6)⟩,
  ⟨(some 33), none, .ld none (.t 32)⟩,
  ⟨(some 34), none, .fad 0 (.t 8)⟩,
  ⟨(some 35), none, .ld none (.t 34)⟩,
  ⟨(some 36), none, .fad 1 (.t 8)⟩,
  ⟨(some 37), none, .ld none (.t 36)⟩,
  ⟨(some 38), none, .call nGraphEdge [(.t 35), (.t 37)]⟩,
  ⟨(some 39), none, .bslice 2 1 [(.int .i64 0), (.int .i64 0)] [(0, 2, (.t 38))]⟩,
  ⟨(some 40), none, .app 2 (.t 33) (.t 39)⟩,
  ⟨(some 41), none, .fad 1 (.t 6)⟩,
  ⟨none, none, .st 1 (.t 41) (.t 40)⟩]
def rGraphOfX10 : List O := [
  ⟨(some 42), none, .bin .add (.t 20) (.k (.int .i64 1))⟩,
  ⟨(some 20), none, .mv (.t 42)⟩]
def lGraphOfX0 : C := (.seq (.reg rGraphOfX5 false [] [0, 4, 6, 18, 19, 20, 21]) (.seq (.cond (.t 21) .skip (.exit 0)) (.seq (.blk 1 (.seq (.reg rGraphOfX6 false [] [0, 4, 6, 8, 18, 19, 20]) (.seq (.seq (.reg rGraphOfX7 false [] [0, 4, 6, 8, 18, 19, 20, 30]) (.cond (.t 30) (.seq (.reg rGraphOfX8 false [] [4, 5]) .ret) .skip)) (.reg rGraphOfX9 true [(8, 8), (9, 9), (10, 10), (1, 2), (0, 3), (1, 3), (1, 4), (3, 4), (0, 5), (1, 5), (2, 5), (3, 5), (0, 6), (1, 6), (0, 7), (1, 7)] [0, 4, 6, 18, 19, 20])))) (.reg rGraphOfX10 false [] [0, 4, 6, 18, 19, 20]))))
def rGraphOfX11 : List O := [
  ⟨(some 43), none, .fad 1 (.t 6)⟩,
  ⟨(some 44), none, .ld none (.t 43)⟩,
  ⟨(some 45), none, .call nSlicesSortFuncApiEdgeApiEdge [(.t 44), (.k (.func (.func nGraphOrder) [] []))]⟩]
def rGraphOfX12 : List O := [
  ⟨(some 46), none, .fad 1 (.t 6)⟩,
  ⟨(some 47), none, .ld none (.t 46)⟩,
  ⟨(some 48), none, .call nSlicesCompactApiEdgeApiEdge [(.t 47)]⟩,
  ⟨(some 49), none, .fad 1 (.t 6)⟩,
  ⟨none, none, .st 1 (.t 49) (.t 48)⟩]
def rGraphOfX13 : List O := [
  ⟨(some 50), none, .ld (some 2) (.t 6)⟩,
  ⟨none, none, .st 2 (.t 4) (.t 50)⟩,
  ⟨(some 5), none, .mv (.k (.int .i64 0))⟩]
def cGraphOf : C := (.seq (.reg rGraphOfX0 false [] [0, 1, 4]) (.seq (.seq (.reg rGraphOfX1 false [] [0, 1, 4, 14]) (.cond (.t 14) (.seq (.reg rGraphOfX2 false [] [4, 5]) .ret) .skip)) (.seq (.reg rGraphOfX3 false [] [0, 1, 4, 6]) (.seq (.seq (.reg rGraphOfX4 false [] [0, 4, 6, 18, 19, 20]) (.blk 0 (.loop lGraphOfX0))) (.seq (.reg rGraphOfX11 false [] [4, 6]) (.seq (.reg rGraphOfX12 false [] [4, 6]) (.seq (.reg rGraphOfX13 false [] [4, 5]) .ret)))))))
def qGraphOf : AFn := ⟨51, 2, [.c 4 (some 2), .t 5], cGraphOf⟩
/- cohesion/cohesionref03.Same -/
def rRef03SameX0 : List O := [
  ⟨(some 2), none, .box (.t 0)⟩,
  ⟨(some 3), none, .box (.t 1)⟩,
  ⟨(some 4), none, .mv (.k (.bool false))⟩]
def rRef03SameX1 : List O := [
  ⟨(some 5), none, .fad 0 (.t 2)⟩,
  ⟨(some 6), none, .ld none (.t 5)⟩,
  ⟨(some 7), none, .fad 0 (.t 3)⟩,
  ⟨(some 8), none, .ld none (.t 7)⟩,
  ⟨(some 9), none, .bin .eql (.t 6) (.t 8)⟩,
  ⟨(some 10), none, .mv (.t 9)⟩,
  ⟨(some 11), (some (10, true)), .fad 1 (.t 2)⟩,
  ⟨(some 12), (some (10, true)), .ld none (.t 11)⟩,
  ⟨(some 13), (some (10, true)), .fad 1 (.t 3)⟩,
  ⟨(some 14), (some (10, true)), .ld none (.t 13)⟩,
  ⟨(some 15), (some (10, true)), .call nRef03SameEdges [(.t 12), (.t 14)]⟩,
  ⟨(some 16), none, .pick (.t 10) (.t 15) (.k (.bool false))⟩,
  ⟨(some 4), none, .mv (.t 16)⟩]
def cRef03Same : C := (.seq (.reg rRef03SameX0 false [] [2, 3]) (.seq (.reg rRef03SameX1 false [] [4]) .ret))
def qRef03Same : AFn := ⟨17, 2, [.t 4], cRef03Same⟩
/- cohesion/cohesionref02.Range -/
def rRef02RangeX0 : List O := [
  ⟨(some 2), none, .mv (.k (.own 1 []))⟩]
def rRef02RangeX1 : List O := [
  ⟨(some 3), none, .mv (.k (.own 1 []))⟩]
def rRef02RangeX2 : List O := [
  ⟨(some 4), none, .mv (.k (.int .i64 0))⟩]
def rRef02RangeX3 : List O := [
  ⟨(some 5), none, .mv (.t 4)⟩,
  ⟨(some 6), none, .mv (.t 0)⟩,
  ⟨(some 7), none, .bin .lss (.t 5) (.t 6)⟩,
  ⟨(some 8), none, .mv (.t 7)⟩,
  ⟨(some 9), (some (8, true)), .mv (.t 4)⟩,
  ⟨(some 10), (some (8, true)), .bin .lss (.t 9) (.k (.int .i64 64))⟩,
  ⟨(some 11), none, .pick (.t 8) (.t 10) (.k (.bool false))⟩]
def rRef02RangeX4 : List O := [
  ⟨(some 14), none, .mv (.t 3)⟩,
  ⟨(some 15), none, .mv (.t 4)⟩,
  ⟨(some 16), none, .bslice 1 1 [(.int .i64 0)] [(0, 1, (.t 15))]⟩,
  ⟨(some 17), none, .app 1 (.t 14) (.t 16)⟩,
  ⟨(some 3), none, .mv (.t 17)⟩]
def rRef02RangeX5 : List O := [
  ⟨(some 12), none, .mv (.t 4)⟩,
  ⟨(some 13), none, .bin .add (.t 12) (.k (.int .i64 1))⟩,
  ⟨(some 4), none, .mv (.t 13)⟩]
def lRef02RangeX0 : C := (.seq (.seq (.reg rRef02RangeX3 false [] [0, 3, 4, 11]) (.cond (.t 11) .skip (.exit 0))) (.seq (.blk 1 (.reg rRef02RangeX4 false [] [0, 3, 4])) (.reg rRef02RangeX5 false [] [0, 3, 4])))
def rRef02RangeX6 : List O := [
  ⟨(some 18), none, .mv (.t 3)⟩,
  ⟨(some 2), none, .mv (.t 18)⟩]
def cRef02Range : C := (.seq (.reg rRef02RangeX0 false [] [0]) (.seq (.reg rRef02RangeX1 false [] [0, 3]) (.seq (.seq (.reg rRef02RangeX2 false [] [0, 3, 4]) (.blk 0 (.loop lRef02RangeX0))) (.seq (.reg rRef02RangeX6 false [] [2]) .ret))))
def qRef02Range : AFn := ⟨19, 1, [.t 2], cRef02Range⟩
/- cohesion/graph.Check -/
def rGraphCheckX0 : List O := [
  ⟨(some 1), none, .box (.t 0)⟩,
  ⟨(some 2), none, .mv (.k (.int .i64 0))⟩]
def rGraphCheckX1 : List O := [
  ⟨(some 5), none, .fad 0 (.t 1)⟩,
  ⟨(some 6), none, .ld none (.t 5)⟩,
  ⟨(some 7), none, .bin .lss (.t 6) (.k (.int .i64 0))⟩,
  ⟨(some 8), none, .mv (.t 7)⟩,
  ⟨(some 9), (some (8, false)), .fad 0 (.t 1)⟩,
  ⟨(some 10), (some (8, false)), .ld none (.t 9)⟩,
  ⟨(some 11), (some (8, false)), .bin .gtr (.t 10) (.k (.int .i64 64))⟩,
  ⟨(some 12), none, .pick (.t 8) (.k (.bool true)) (.t 11)⟩]
def rGraphCheckX2 : List O := [
  ⟨(some 2), none, .mv (.k (.int .i64 1))⟩]
def rGraphCheckX3 : List O := [
  ⟨(some 13), none, .fad 1 (.t 1)⟩,
  ⟨(some 14), none, .ld none (.t 13)⟩,
  ⟨(some 15), none, .len (.t 14)⟩,
  ⟨(some 16), none, .mv (.k (.int .i64 0))⟩]
def rGraphCheckX4 : List O := [
  ⟨(some 17), none, .bin .lss (.t 16) (.t 15)⟩]
def rGraphCheckX5 : List O := [
  ⟨(some 18), none, .mv (.t 16)⟩,
  ⟨(some 19), none, .ixa 2 (.t 14) (.t 16)⟩,
  ⟨(some 20), none, .ld (some 2) (.t 19)⟩,
  ⟨(some 4), none, .new [(.int .i64 0), (.int .i64 0)]⟩,
  ⟨(some 3), none, .mv (.t 18)⟩,
  ⟨none, none, .st 2 (.t 4) (.t 20)⟩]
def rGraphCheckX6 : List O := [
  ⟨(some 22), none, .fad 0 (.t 4)⟩,
  ⟨(some 23), none, .ld none (.t 22)⟩,
  ⟨(some 24), none, .bin .lss (.t 23) (.k (.int .i64 0))⟩,
  ⟨(some 25), none, .mv (.t 24)⟩,
  ⟨(some 26), (some (25, false)), .fad 0 (.t 4)⟩,
  ⟨(some 27), (some (25, false)), .ld none (.t 26)⟩,
  ⟨(some 28), (some (25, false)), .fad 1 (.t 4)⟩,
  ⟨(some 29), (some (25, false)), .ld none (.t 28)⟩,
  ⟨(some 30), (some (25, false)), .bin .geq (.t 27) (.t 29)⟩,
  ⟨(some 31), none, .pick (.t 25) (.k (.bool true)) (.t 30)⟩,
  ⟨(some 32), none, .mv (.t 31)⟩,
  ⟨(some 33), (some (32, false)), .fad 1 (.t 4)⟩,
  ⟨(some 34), (some (32, false)), .ld none (.t 33)⟩,
  ⟨(some 35), (some (32, false)), .fad 0 (.t 1)⟩,
  ⟨(some 36), (some (32, false)), .ld none (.t 35)⟩,
  ⟨(some 37), (some (32, false)), .bin .geq (.t 34) (.t 36)⟩,
  ⟨(some 38), none, .pick (.t 32) (.k (.bool true)) (.t 37)⟩,
  ⟨(some 21), none, .mv (.t 38)⟩]
def rGraphCheckX7 : List O := [
  ⟨(some 2), none, .mv (.k (.int .i64 6))⟩]
def rGraphCheckX8 : List O := [
  ⟨(some 40), none, .mv (.t 3)⟩,
  ⟨(some 41), none, .bin .gtr (.t 40) (.k (.int .i64 0))⟩,
  ⟨(some 42), none, .mv (.t 41)⟩,
  ⟨(some 43), (some (42, true)), .fad 1 (.t 1)⟩,
  ⟨(some 44), (some (42, true)), .ld none (.t 43)⟩,
  ⟨(some 45), (some (42, true)), .mv (.t 3)⟩,
  ⟨(some 46), (some (42, true)), .bin .sub (.t 45) (.k (.int .i64 1))⟩,
  ⟨(some 47), (some (42, true)), .ixa 2 (.t 44) (.t 46)⟩,
  ⟨(some 48), (some (42, true)), .ld (some 2) (.t 47)⟩,
  ⟨(some 49), (some (42, true)), .ld (some 2) (.t 4)⟩,
  ⟨(some 50), (some (42, true)), .call nGraphOrder [(.t 48), (.t 49)]⟩,
  ⟨(some 51), (some (42, true)), .bin .geq (.t 50) (.k (.int .i64 0))⟩,
  ⟨(some 52), none, .pick (.t 42) (.t 51) (.k (.bool false))⟩,
  ⟨(some 39), none, .mv (.t 52)⟩]
def rGraphCheckX9 : List O := [
  ⟨(some 2), none, .mv (.k (.int .i64 5))⟩]
def rGraphCheckX10 : List O := [
  ⟨(some 53), none, .bin .add (.t 16) (.k (.int .i64 1))⟩,
  ⟨(some 16), none, .mv (.t 53)⟩]
def lGraphCheckX0 : C := (.seq (.reg rGraphCheckX4 false [] [1, 14, 15, 16, 17]) (.seq (.cond (.t 17) .skip (.exit 0)) (.seq (.blk 1 (.seq (.reg rGraphCheckX5 false [] [1, 3, 4, 14, 15, 16]) (.blk 2 (.seq (.reg rGraphCheckX6 false [] [1, 3, 4, 14, 15, 16, 21]) (.cond (.t 21) (.seq (.reg rGraphCheckX7 false [] [2]) .ret) (.seq (.reg rGraphCheckX8 true [(0, 0), (1, 1), (2, 2), (10, 10), (11, 11), (12, 12), (13, 13), (4, 5), (4, 6), (3, 9), (4, 9), (5, 9), (6, 9), (7, 9), (8, 9)] [1, 14, 15, 16, 39]) (.cond (.t 39) (.seq (.reg rGraphCheckX9 false [] [2]) .ret) .skip))))))) (.reg rGraphCheckX10 false [] [1, 14, 15, 16]))))
def rGraphCheckX11 : List O := [
  ⟨(some 2), none, .mv (.k (.int .i64 0))⟩]
def cGraphCheck : C := (.seq (.reg rGraphCheckX0 false [] [1]) (.seq (.seq (.reg rGraphCheckX1 false [] [1, 12]) (.cond (.t 12) (.seq (.reg rGraphCheckX2 false [] [2]) .ret) .skip)) (.seq (.seq (.reg rGraphCheckX3 false [] [1, 14, 15, 16]) (.blk 0 (.loop lGraphCheckX0))) (.seq (.reg rGraphCheckX11 false [] [2]) .ret))))
def qGraphCheck : AFn := ⟨54, 1, [.t 2], cGraphCheck⟩
/- cohesion/cliques.each -/
def rCliquesEachX0 : List O := [
  ⟨(some 3), none, .box (.t 0)⟩,
  ⟨(some 4), none, .box (.t 1)⟩,
  ⟨(some 5), none, .box (.t 2)⟩]
def rCliquesEachX1 : List O := [
  ⟨(some 9), none, .ld (some 2) (.t 3)⟩,
  ⟨(some 10), none, .call nCliquesMasks [(.t 9)]⟩,
  ⟨(some 6), none, .new [(.own 1 [])]⟩,
  ⟨none, none, .st 1 (.t 6) (.t 10)⟩]
def rCliquesEachX2 : List O := [
  ⟨(some 7), none, .new [(.own 1 [])]⟩]
def rCliquesEachX3 : List O := [
  ⟨(some 8), none, .new [.nilf]⟩]
def rCliquesEachX4 : List O := [
  ⟨(some 11), none, .mkf (.func nCliquesEach1) [] [(.t 7), (.t 4), (.t 5), (.t 6), (.t 8)]⟩,
  ⟨none, none, .st 1 (.t 8) (.t 11)⟩]
def rCliquesEachX5 : List O := [
  ⟨(some 12), none, .ld none (.t 8)⟩,
  ⟨(some 13), none, .fad 0 (.t 3)⟩,
  ⟨(some 14), none, .ld none (.t 13)⟩,
  ⟨(some 15), none, .call nCliquesAllN77 [(.t 14)]⟩,
  ⟨(some 16), none, .callv (.t 12) [(.t 15), (.k (.int .u64 0)), (.k (.bool true))]⟩]
def cCliquesEach : C := (.seq (.reg rCliquesEachX0 false [] [3, 4, 5]) (.seq (.reg rCliquesEachX1 false [] [3, 4, 5, 6]) (.seq (.reg rCliquesEachX2 false [] [3, 4, 5, 6, 7]) (.seq (.reg rCliquesEachX3 false [] [3, 4, 5, 6, 7, 8]) (.seq (.reg rCliquesEachX4 false [] [3, 8]) (.reg rCliquesEachX5 true [(4, 4), (0, 1), (0, 2), (0, 3)] []))))))
def qCliquesEach : AFn := ⟨17, 3, [], cCliquesEach⟩
/- cohesion/cliques.All$1 -/
def rCliquesAll1X0 : List O := [
  ⟨(some 4), none, .mv (.k (.bool false))⟩]
def rCliquesAll1X1 : List O := [
  ⟨(some 5), none, .ld none (.t 1)⟩,
  ⟨(some 6), none, .mv (.t 0)⟩,
  ⟨(some 7), none, .bslice 1 1 [(.own 1 [])] [(0, 1, (.t 6))]⟩,
  ⟨(some 8), none, .app 1 (.t 5) (.t 7)⟩,
  ⟨none, none, .st 1 (.t 1) (.t 8)⟩]
def rCliquesAll1X2 : List O := [
  ⟨(some 9), none, .ld none (.t 1)⟩,
  ⟨(some 10), none, .len (.t 9)⟩,
  ⟨(some 11), none, .ld none (.t 2)⟩,
  ⟨(some 12), none, .bin .leq (.t 10) (.t 11)⟩,
  ⟨(some 4), none, .mv (.t 12)⟩]
def cCliquesAll1 : C := (.seq (.reg rCliquesAll1X0 false [] [0, 1, 2]) (.seq (.reg rCliquesAll1X1 false [] [1, 2]) (.seq (.reg rCliquesAll1X2 false [] [4]) .ret)))
def qCliquesAll1 : AFn := ⟨13, 1, [.t 4], cCliquesAll1⟩
/- cohesion/cohesionref03.Of -/
def rRef03OfX0 : List O := [
  ⟨(some 4), none, .new [(.int .i64 0), (.own 2 [])]⟩,
  ⟨(some 5), none, .mv (.k (.int .i64 0))⟩]
def rRef03OfX1 : List O := [
  ⟨(some 9), none, .mv (.t 0)⟩,
  ⟨(some 10), none, .bin .lss (.t 9) (.k (.int .i64 0))⟩,
  ⟨(some 11), none, .mv (.t 10)⟩,
  ⟨(some 12), (some (11, false)), .mv (.t 0)⟩,
  ⟨(some 13), (some (11, false)), .bin .gtr (.t 12) (.k (.int .i64 64))⟩,
  ⟨(some 14), none, .pick (.t 11) (.k (.bool true)) (.t 13)⟩]
def rRef03OfX2 : List O := [
  ⟨(some 15), none, .build [(.int .i64 0), (.own 2 [])] []⟩,
  ⟨none, none, .st 2 (.t 4) (.t 15)⟩,
  ⟨(some 5), none, .mv (.k (.int .i64 1))⟩]
def rRef03OfX3 : List O := [
  ⟨(some 16), none, .mv (.t 0)⟩,
  ⟨(some 17), none, .build [(.int .i64 0), (.own 2 [])] [(0, 1, (.t 16))]⟩,
  ⟨(some 6), none, .new [(.int .i64 0), (.own 2 [])]⟩,
  ⟨none, none, .st 2 (.t 6) (.t 17)⟩]
def rRef03OfX4 : List O := [
  ⟨(some 18), none, .mv (.t 1)⟩,
  ⟨(some 19), none, .len (.t 18)⟩,
  ⟨(some 20), none, .mv (.k (.int .i64 0))⟩]
def rRef03OfX5 : List O := [
  ⟨(some 21), none, .bin .lss (.t 20) (.t 19)⟩]
def rRef03OfX6 : List O := [
  ⟨(some 22), none, .ixa 2 (.t 18) (.t 20)⟩,
  ⟨(some 23), none, .ld (some 2) (.t 22)⟩,
  ⟨(some 8), none, .new [(.int .i64 0), (.int .i64 0)]⟩,
  ⟨none, none, .st 2 (.t 8) (.t 23)⟩]
def rRef03OfX7 : List O := [
  ⟨(some 24), none, .mv (.t 0)⟩,
  ⟨(some 25), none, .fad 0 (.t 8)⟩,
  ⟨(some 26), none, .ld none (.t 25)⟩,
  ⟨(some 27), none, .fad 1 (.t 8)⟩,
  ⟨(some 28), none, .ld none (.t 27)⟩,
  ⟨(some 29), none, .call nRef03Ends [(.t 24), (.t 26), (.t 28)]⟩,
  ⟨(some 30), none, .un .not (.t 29)⟩]
def rRef03OfX8 : List O := [
  ⟨(some 31), none, .build [(.int .i64 0), (.own 2 [])] []⟩,
  ⟨none, none, .st 2 (.t 4) (.t 31)⟩,
  ⟨(some 5), none, .mv (.k (.int .i64 6))⟩]
def rRef03OfX9 : List O := [
  ⟨(some 32), none, .fad 1 (.t 6)⟩,
  ⟨(some 33), none, .ld none (.t 32)⟩,
  ⟨(some 34), none, .fad 0 (.t 8)⟩,
  ⟨(some 35), none, .ld none (.t 34)⟩,
  ⟨(some 36), none, .fad 1 (.t 8)⟩,
  ⟨(some 37), none, .ld none (.t 36)⟩,
  ⟨(some 38), none, .call nRef03Edge [(.t 35), (.t 37)]⟩,
  ⟨(some 39), none, .call nRef03With [(.t 33), (.t 38)]⟩,
  ⟨(some 40), none, .fad 1 (.t 6)⟩,
  ⟨none, none, .st 1 (.t 40) (.t 39)⟩]
def rRef03OfX10 : List O := [
  ⟨(some 41), none, .bin .add (.t 20) (.k (.int .i64 1))⟩,
  ⟨(some 20), none, .mv (.t 41)⟩]
def lRef03OfX0 : C := (.seq (.reg rRef03OfX5 false [] [0, 4, 6, 18, 19, 20, 21]) (.seq (.cond (.t 21) .skip (.exit 0)) (.seq (.blk 1 (.seq (.reg rRef03OfX6 false [] [0, 4, 6, 8, 18, 19, 20]) (.seq (.seq (.reg rRef03OfX7 false [] [0, 4, 6, 8, 18, 19, 20, 30]) (.cond (.t 30) (.seq (.reg rRef03OfX8 false [] [4, 5]) .ret) .skip)) (.reg rRef03OfX9 true [(7, 7), (8, 8), (9, 9), (1, 2), (0, 3), (1, 3), (1, 4), (3, 4), (0, 5), (1, 5), (2, 5), (3, 5), (0, 6), (1, 6)] [0, 4, 6, 18, 19, 20])))) (.reg rRef03OfX10 false [] [0, 4, 6, 18, 19, 20]))))
def rRef03OfX11 : List O := [
  ⟨(some 42), none, .ld (some 2) (.t 6)⟩,
  ⟨none, none, .st 2 (.t 4) (.t 42)⟩,
  ⟨(some 5), none, .mv (.k (.int .i64 0))⟩]
def cRef03Of : C := (.seq (.reg rRef03OfX0 false [] [0, 1, 4]) (.seq (.seq (.reg rRef03OfX1 false [] [0, 1, 4, 14]) (.cond (.t 14) (.seq (.reg rRef03OfX2 false [] [4, 5]) .ret) .skip)) (.seq (.reg rRef03OfX3 false [] [0, 1, 4, 6]) (.seq (.seq (.reg rRef03OfX4 false [] [0, 4, 6, 18, 19, 20]) (.blk 0 (.loop lRef03OfX0))) (.seq (.reg rRef03OfX11 false [] [4, 5]) .ret)))))
def qRef03Of : AFn := ⟨43, 2, [.c 4 (some 2), .t 5], cRef03Of⟩
/- cohesion/cohesionref02.put -/
def rRef02PutX0 : List O := [
  ⟨(some 4), none, .mv (.k (.own 1 []))⟩]
def rRef02PutX1 : List O := [
  ⟨(some 5), none, .mv (.k (.int .i64 0))⟩]
def rRef02PutX2 : List O := [
  ⟨(some 7), none, .mv (.t 5)⟩,
  ⟨(some 8), none, .mv (.t 0)⟩,
  ⟨(some 9), none, .len (.t 8)⟩,
  ⟨(some 10), none, .bin .lss (.t 7) (.t 9)⟩,
  ⟨(some 11), none, .mv (.t 10)⟩,
  ⟨(some 12), (some (11, true)), .mv (.t 0)⟩,
  ⟨(some 13), (some (11, true)), .mv (.t 5)⟩,
  ⟨(some 14), (some (11, true)), .ixa 1 (.t 12) (.t 13)⟩,
  ⟨(some 15), (some (11, true)), .ld none (.t 14)⟩,
  ⟨(some 16), (some (11, true)), .mv (.t 1)⟩,
  ⟨(some 17), (some (11, true)), .bin .lss (.t 15) (.t 16)⟩,
  ⟨(some 18), none, .pick (.t 11) (.t 17) (.k (.bool false))⟩]
def rRef02PutX3 : List O := [
  ⟨(some 19), none, .mv (.t 5)⟩,
  ⟨(some 20), none, .bin .add (.t 19) (.k (.int .i64 1))⟩,
  ⟨(some 5), none, .mv (.t 20)⟩]
def lRef02PutX0 : C := (.seq (.seq (.reg rRef02PutX2 false [] [0, 1, 5, 18]) (.cond (.t 18) .skip (.exit 0))) (.blk 1 (.reg rRef02PutX3 false [] [0, 1, 5])))
def rRef02PutX4 : List O := [
  ⟨(some 21), none, .mv (.t 5)⟩,
  ⟨(some 22), none, .mv (.t 0)⟩,
  ⟨(some 23), none, .len (.t 22)⟩,
  ⟨(some 24), none, .bin .lss (.t 21) (.t 23)⟩,
  ⟨(some 25), none, .mv (.t 24)⟩,
  ⟨(some 26), (some (25, true)), .mv (.t 0)⟩,
  ⟨(some 27), (some (25, true)), .mv (.t 5)⟩,
  ⟨(some 28), (some (25, true)), .ixa 1 (.t 26) (.t 27)⟩,
  ⟨(some 29), (some (25, true)), .ld none (.t 28)⟩,
  ⟨(some 30), (some (25, true)), .mv (.t 1)⟩,
  ⟨(some 31), (some (25, true)), .bin .eql (.t 29) (.t 30)⟩,
  ⟨(some 32), none, .pick (.t 25) (.t 31) (.k (.bool false))⟩]
def rRef02PutX5 : List O := [
  ⟨(some 33), none, .mv (.t 0)⟩,
  ⟨(some 4), none, .mv (.t 33)⟩]
def rRef02PutX6 : List O := [
  ⟨(some 34), none, .mv (.t 0)⟩,
  ⟨(some 35), none, .mv (.t 5)⟩,
  ⟨(some 36), none, .slc 1 (.t 34) none (some (.t 35))⟩,
  ⟨(some 37), none, .app 1 (.k (.own 1 [])) (.t 36)⟩,
  ⟨(some 6), none, .mv (.t 37)⟩]
def rRef02PutX7 : List O := [
  ⟨(some 38), none, .mv (.t 6)⟩,
  ⟨(some 39), none, .mv (.t 1)⟩,
  ⟨(some 40), none, .bslice 1 1 [(.int .i64 0)] [(0, 1, (.t 39))]⟩,
  ⟨(some 41), none, .app 1 (.t 38) (.t 40)⟩,
  ⟨(some 42), none, .mv (.t 0)⟩,
  ⟨(some 43), none, .mv (.t 5)⟩,
  ⟨(some 44), none, .slc 1 (.t 42) (some (.t 43)) none⟩,
  ⟨(some 45), none, .app 1 (.t 41) (.t 44)⟩,
  ⟨(some 4), none, .mv (.t 45)⟩]
def cRef02Put : C := (.seq (.reg rRef02PutX0 false [] [0, 1]) (.seq (.reg rRef02PutX1 false [] [0, 1, 5]) (.seq (.blk 0 (.loop lRef02PutX0)) (.seq (.seq (.reg rRef02PutX4 false [] [0, 1, 5, 32]) (.cond (.t 32) (.seq (.reg rRef02PutX5 false [] [4]) .ret) .skip)) (.seq (.reg rRef02PutX6 false [] [0, 1, 5, 6]) (.seq (.reg rRef02PutX7 true [(7, 7), (8, 8), (0, 2), (2, 4), (3, 4), (2, 5), (3, 5), (2, 6), (3, 6)] [4]) .ret))))))
def qRef02Put : AFn := ⟨46, 2, [.t 4], cRef02Put⟩
/- cohesion/cliques.Next$1 -/
def rCliquesNext1X0 : List O := [
  ⟨(some 3), none, .mv (.k (.bool false))⟩]
def rCliquesNext1X1 : List O := [
  ⟨(some 4), none, .mv (.t 0)⟩,
  ⟨none, none, .st 1 (.t 1) (.t 4)⟩]
def rCliquesNext1X2 : List O := [
  ⟨(some 3), none, .mv (.k (.bool false))⟩]
def cCliquesNext1 : C := (.seq (.reg rCliquesNext1X0 false [] [0, 1]) (.seq (.reg rCliquesNext1X1 false [] []) (.seq (.reg rCliquesNext1X2 false [] [3]) .ret)))
def qCliquesNext1 : AFn := ⟨5, 1, [.t 3], cCliquesNext1⟩
/- cohesion/cliques.Check$1 -/
def rCliquesCheck1X0 : List O := [
  ⟨(some 5), none, .mv (.k (.bool false))⟩]
def rCliquesCheck1X1 : List O := [
  ⟨(some 6), none, .ld none (.t 1)⟩,
  ⟨(some 7), none, .ld none (.t 2)⟩,
  ⟨(some 8), none, .len (.t 7)⟩,
  ⟨(some 9), none, .bin .lss (.t 6) (.t 8)⟩,
  ⟨(some 10), none, .mv (.t 9)⟩,
  ⟨(some 11), (some (10, true)), .mv (.t 0)⟩,
  ⟨(some 12), (some (10, true)), .ld none (.t 2)⟩,
  ⟨(some 13), (some (10, true)), .ld none (.t 1)⟩,
  ⟨(some 14), (some (10, true)), .ixa 1 (.t 12) (.t 13)⟩,
  ⟨(some 15), (some (10, true)), .ld none (.t 14)⟩,
  ⟨(some 16), (some (10, true)), .call nSlicesEqualIntInt [(.t 11), (.t 15)]⟩,
  ⟨(some 17), none, .pick (.t 10) (.t 16) (.k (.bool false))⟩,
  ⟨none, none, .st 1 (.t 3) (.t 17)⟩]
def rCliquesCheck1X2 : List O := [
  ⟨(some 18), none, .ld none (.t 1)⟩,
  ⟨(some 19), none, .bin .add (.t 18) (.k (.int .i64 1))⟩,
  ⟨none, none, .st 1 (.t 1) (.t 19)⟩]
def rCliquesCheck1X3 : List O := [
  ⟨(some 20), none, .ld none (.t 3)⟩,
  ⟨(some 5), none, .mv (.t 20)⟩]
def cCliquesCheck1 : C := (.seq (.reg rCliquesCheck1X0 false [] [0, 1, 2, 3]) (.seq (.reg rCliquesCheck1X1 false [] [1, 3]) (.seq (.reg rCliquesCheck1X2 false [] [3]) (.seq (.reg rCliquesCheck1X3 false [] [5]) .ret))))
def qCliquesCheck1 : AFn := ⟨21, 1, [.t 5], cCliquesCheck1⟩
/- slices.Equal[[]int,int] -/
def rSlicesEqualIntIntX0 : List O := [
  ⟨(some 4), none, .mv (.k (.bool false))⟩]
def rSlicesEqualIntIntX1 : List O := [
  ⟨(some 6), none, .mv (.t 0)⟩,
  ⟨(some 7), none, .len (.t 6)⟩,
  ⟨(some 8), none, .mv (.t 1)⟩,
  ⟨(some 9), none, .len (.t 8)⟩,
  ⟨(some 10), none, .bin .neq (.t 7) (.t 9)⟩]
def rSlicesEqualIntIntX2 : List O := [
  ⟨(some 4), none, .mv (.k (.bool false))⟩]
def rSlicesEqualIntIntX3 : List O := [
  ⟨(some 11), none, .mv (.t 0)⟩,
  ⟨(some 12), none, .len (.t 11)⟩,
  ⟨(some 13), none, .mv (.k (.int .i64 0))⟩]
def rSlicesEqualIntIntX4 : List O := [
  ⟨(some 14), none, .bin .lss (.t 13) (.t 12)⟩]
def rSlicesEqualIntIntX5 : List O := [
  ⟨(some 15), none, .mv (.t 13)⟩,
  ⟨(some 5), none, .mv (.t 15)⟩]
def rSlicesEqualIntIntX6 : List O := [
  ⟨(some 16), none, .mv (.t 0)⟩,
  ⟨(some 17), none, .mv (.t 5)⟩,
  ⟨(some 18), none, .ixa 1 (.t 16) (.t 17)⟩,
  ⟨(some 19), none, .ld none (.t 18)⟩,
  ⟨(some 20), none, .mv (.t 1)⟩,
  ⟨(some 21), none, .mv (.t 5)⟩,
  ⟨(some 22), none, .ixa 1 (.t 20) (.t 21)⟩,
  ⟨(some 23), none, .ld none (.t 22)⟩,
  ⟨(some 24), none, .bin .neq (.t 19) (.t 23)⟩]
def rSlicesEqualIntIntX7 : List O := [
  ⟨(some 4), none, .mv (.k (.bool false))⟩]
def rSlicesEqualIntIntX8 : List O := [
  ⟨(some 25), none, .bin .add (.t 13) (.k (.int .i64 1))⟩,
  ⟨(some 13), none, .mv (.t 25)⟩]
def lSlicesEqualIntIntX0 : C := (.seq (.reg rSlicesEqualIntIntX4 false [] [0, 1, 12, 13, 14]) (.seq (.cond (.t 14) .skip (.exit 0)) (.seq (.blk 1 (.seq (.reg rSlicesEqualIntIntX5 false [] [0, 1, 5, 12, 13]) (.seq (.reg rSlicesEqualIntIntX6 true [(8, 8), (3, 4), (3, 5), (3, 6), (0, 7), (1, 7), (2, 7), (3, 7)] [0, 1, 12, 13, 24]) (.cond (.t 24) (.seq (.reg rSlicesEqualIntIntX7 false [] [4]) .ret) .skip)))) (.reg rSlicesEqualIntIntX8 false [] [0, 1, 12, 13]))))
def rSlicesEqualIntIntX9 : List O := [
  ⟨(some 4), none, .mv (.k (.bool true))⟩]
def cSlicesEqualIntInt : C := (.seq (.reg rSlicesEqualIntIntX0 false [] [0, 1]) (.seq (.seq (.reg rSlicesEqualIntIntX1 false [] [0, 1, 10]) (.cond (.t 10) (.seq (.reg rSlicesEqualIntIntX2 false [] [4]) .ret) .skip)) (.seq (.seq (.reg rSlicesEqualIntIntX3 false [] [0, 1, 12, 13]) (.blk 0 (.loop lSlicesEqualIntIntX0))) (.seq (.reg rSlicesEqualIntIntX9 false [] [4]) .ret))))
def qSlicesEqualIntInt : AFn := ⟨26, 2, [.t 4], cSlicesEqualIntInt⟩
/- cohesion/cohesionmake.Mod -/
def rMakeModX0 : List O := [
  ⟨(some 4), none, .mv (.k (.int .i64 0))⟩]
def rMakeModX1 : List O := [
  ⟨(some 5), none, .mv (.t 0)⟩,
  ⟨(some 6), none, .mv (.t 1)⟩,
  ⟨(some 7), none, .bin .rem (.t 5) (.t 6)⟩,
  ⟨(some 8), none, .mv (.t 1)⟩,
  ⟨(some 9), none, .bin .add (.t 7) (.t 8)⟩,
  ⟨(some 10), none, .mv (.t 1)⟩,
  ⟨(some 11), none, .bin .rem (.t 9) (.t 10)⟩,
  ⟨(some 4), none, .mv (.t 11)⟩]
def cMakeMod : C := (.seq (.reg rMakeModX0 false [] [0, 1]) (.seq (.reg rMakeModX1 false [] [4]) .ret))
def qMakeMod : AFn := ⟨12, 2, [.t 4], cMakeMod⟩
/- cohesion/cliques.masks -/
def rCliquesMasksX0 : List O := [
  ⟨(some 1), none, .box (.t 0)⟩,
  ⟨(some 2), none, .mv (.k (.own 1 []))⟩]
def rCliquesMasksX1 : List O := [
  ⟨(some 6), none, .fad 0 (.t 1)⟩,
  ⟨(some 7), none, .ld none (.t 6)⟩,
  ⟨(some 8), none, .mks 1 [(.int .u64 0)] (.t 7) (.t 7)⟩,
  ⟨(some 3), none, .mv (.t 8)⟩]
def rCliquesMasksX2 : List O := [
  ⟨(some 9), none, .fad 1 (.t 1)⟩,
  ⟨(some 10), none, .ld none (.t 9)⟩,
  ⟨(some 11), none, .len (.t 10)⟩,
  ⟨(some 12), none, .mv (.k (.int .i64 0))⟩]
def rCliquesMasksX3 : List O := [
  ⟨(some 13), none, .bin .lss (.t 12) (.t 11)⟩]
def rCliquesMasksX4 : List O := [
  ⟨(some 14), none, .ixa 2 (.t 10) (.t 12)⟩,
  ⟨(some 15), none, .ld (some 2) (.t 14)⟩,
  ⟨(some 5), none, .new [(.int .i64 0), (.int .i64 0)]⟩,
  ⟨none, none, .st 2 (.t 5) (.t 15)⟩]
def rCliquesMasksX5 : List O := [
  ⟨(some 16), none, .mv (.t 3)⟩,
  ⟨(some 17), none, .fad 0 (.t 5)⟩,
  ⟨(some 18), none, .ld none (.t 17)⟩,
  ⟨(some 19), none, .ixa 1 (.t 16) (.t 18)⟩,
  ⟨(some 20), none, .ld none (.t 19)⟩,
  ⟨(some 21), none, .fad 1 (.t 5)⟩,
  ⟨(some 22), none, .ld none (.t 21)⟩,
  ⟨(some 23), none, .bin .shl (.k (.int .u64 1)) (.t 22)⟩,
  ⟨(some 24), none, .bin .or (.t 20) (.t 23)⟩,
  ⟨(some 25), none, .ixa 1 (.t 16) (.t 18)⟩,
  ⟨none, none, .st 1 (.t 25) (.t 24)⟩]
def rCliquesMasksX6 : List O := [
  ⟨(some 26), none, .mv (.t 3)⟩,
  ⟨(some 27), none, .fad 1 (.t 5)⟩,
  ⟨(some 28), none, .ld none (.t 27)⟩,
  ⟨(some 29), none, .ixa 1 (.t 26) (.t 28)⟩,
  ⟨(some 30), none, .ld none (.t 29)⟩,
  ⟨(some 31), none, .fad 0 (.t 5)⟩,
  ⟨(some 32), none, .ld none (.t 31)⟩,
  ⟨(some 33), none, .bin .shl (.k (.int .u64 1)) (.t 32)⟩,
  ⟨(some 34), none, .bin .or (.t 30) (.t 33)⟩,
  ⟨(some 35), none, .ixa 1 (.t 26) (.t 28)⟩,
  ⟨none, none, .st 1 (.t 35) (.t 34)⟩]
def rCliquesMasksX7 : List O := [
  ⟨(some 36), none, .bin .add (.t 12) (.k (.int .i64 1))⟩,
  ⟨(some 12), none, .mv (.t 36)⟩]
def lCliquesMasksX0 : C := (.seq (.reg rCliquesMasksX3 false [] [3, 10, 11, 12, 13]) (.seq (.cond (.t 13) .skip (.exit 0)) (.seq (.blk 1 (.seq (.reg rCliquesMasksX4 false [] [3, 5, 10, 11, 12]) (.seq (.reg rCliquesMasksX5 true [(8, 8), (9, 9), (10, 10), (0, 2), (2, 5), (4, 5), (0, 6), (1, 6), (2, 6), (3, 6), (4, 6), (2, 7), (4, 7)] [3, 5, 10, 11, 12]) (.reg rCliquesMasksX6 true [(8, 8), (9, 9), (10, 10), (0, 2), (2, 5), (4, 5), (0, 6), (1, 6), (2, 6), (3, 6), (4, 6), (2, 7), (4, 7)] [3, 10, 11, 12])))) (.reg rCliquesMasksX7 false [] [3, 10, 11, 12]))))
def rCliquesMasksX8 : List O := [
  ⟨(some 37), none, .mv (.t 3)⟩,
  ⟨(some 2), none, .mv (.t 37)⟩]
def cCliquesMasks : C := (.seq (.reg rCliquesMasksX0 false [] [1]) (.seq (.reg rCliquesMasksX1 false [] [1, 3]) (.seq (.seq (.reg rCliquesMasksX2 false [] [3, 10, 11, 12]) (.blk 0 (.loop lCliquesMasksX0))) (.seq (.reg rCliquesMasksX8 false [] [2]) .ret))))
def qCliquesMasks : AFn := ⟨38, 1, [.t 2], cCliquesMasks⟩
/- slices.Clone[[]int,int] -/
def rSlicesCloneIntIntX0 : List O := [
  ⟨(some 2), none, .mv (.k (.own 1 []))⟩]
def rSlicesCloneIntIntX1 : List O := [
  ⟨(some 3), none, .mv (.t 0)⟩,
  ⟨(some 4), none, .eq false .nsl (.t 3) (.k (.own 1 []))⟩]
def rSlicesCloneIntIntX2 : List O := [
  ⟨(some 2), none, .mv (.k (.own 1 []))⟩]
def rSlicesCloneIntIntX3 : List O := [
  ⟨(some 5), none, .bslice 1 0 [(.int .i64 0)] []⟩,
  ⟨(some 6), none, .mv (.t 0)⟩,
  ⟨(some 7), none, .app 1 (.t 5) (.t 6)⟩,
  ⟨(some 2), none, .mv (.t 7)⟩]
def cSlicesCloneIntInt : C := (.seq (.reg rSlicesCloneIntIntX0 false [] [0]) (.seq (.seq (.reg rSlicesCloneIntIntX1 false [] [0, 4]) (.cond (.t 4) (.seq (.reg rSlicesCloneIntIntX2 false [] [2]) .ret) .skip)) (.seq (.reg rSlicesCloneIntIntX3 false [] [2]) .ret)))
def qSlicesCloneIntInt : AFn := ⟨8, 1, [.t 2], cSlicesCloneIntInt⟩
/- cohesion/cliques.common -/
def rCliquesCommonX0 : List O := [
  ⟨(some 4), none, .mv (.k (.int .u64 0))⟩]
def rCliquesCommonX1 : List O := [
  ⟨(some 8), none, .mv (.t 0)⟩,
  ⟨(some 9), none, .len (.t 8)⟩,
  ⟨(some 10), none, .call nCliquesAllN77 [(.t 9)]⟩,
  ⟨(some 5), none, .mv (.t 10)⟩]
def rCliquesCommonX2 : List O := [
  ⟨(some 11), none, .mv (.t 1)⟩,
  ⟨(some 12), none, .len (.t 11)⟩,
  ⟨(some 13), none, .mv (.k (.int .i64 0))⟩]
def rCliquesCommonX3 : List O := [
  ⟨(some 14), none, .bin .lss (.t 13) (.t 12)⟩]
def rCliquesCommonX4 : List O := [
  ⟨(some 15), none, .ixa 1 (.t 11) (.t 13)⟩,
  ⟨(some 16), none, .ld none (.t 15)⟩,
  ⟨(some 7), none, .mv (.t 16)⟩]
def rCliquesCommonX5 : List O := [
  ⟨(some 17), none, .mv (.t 5)⟩,
  ⟨(some 18), none, .mv (.t 0)⟩,
  ⟨(some 19), none, .mv (.t 7)⟩,
  ⟨(some 20), none, .ixa 1 (.t 18) (.t 19)⟩,
  ⟨(some 21), none, .ld none (.t 20)⟩,
  ⟨(some 22), none, .bin .and (.t 17) (.t 21)⟩,
  ⟨(some 5), none, .mv (.t 22)⟩]
def rCliquesCommonX6 : List O := [
  ⟨(some 23), none, .bin .add (.t 13) (.k (.int .i64 1))⟩,
  ⟨(some 13), none, .mv (.t 23)⟩]
def lCliquesCommonX0 : C := (.seq (.reg rCliquesCommonX3 false [] [0, 5, 11, 12, 13, 14]) (.seq (.cond (.t 14) .skip (.exit 0)) (.seq (.blk 1 (.seq (.reg rCliquesCommonX4 false [] [0, 5, 7, 11, 12, 13]) (.reg rCliquesCommonX5 false [] [0, 5, 11, 12, 13]))) (.reg rCliquesCommonX6 false [] [0, 5, 11, 12, 13]))))
def rCliquesCommonX7 : List O := [
  ⟨(some 24), none, .mv (.t 5)⟩,
  ⟨(some 4), none, .mv (.t 24)⟩]
def cCliquesCommon : C := (.seq (.reg rCliquesCommonX0 false [] [0, 1]) (.seq (.reg rCliquesCommonX1 false [] [0, 1, 5]) (.seq (.seq (.reg rCliquesCommonX2 false [] [0, 5, 11, 12, 13]) (.blk 0 (.loop lCliquesCommonX0))) (.seq (.reg rCliquesCommonX7 false [] [4]) .ret))))
def qCliquesCommon : AFn := ⟨25, 2, [.t 4], cCliquesCommon⟩
/- math/bits.TrailingZeros64 -/
def rMathBitsTrailingZeros64X0 : List O := [
  ⟨(some 2), none, .mv (.k (.int .i64 0))⟩]
def rMathBitsTrailingZeros64X1 : List O := [
  ⟨(some 3), none, .mv (.t 0)⟩,
  ⟨(some 4), none, .bin .eql (.t 3) (.k (.int .u64 0))⟩]
def rMathBitsTrailingZeros64X2 : List O := [
  ⟨(some 2), none, .mv (.k (.int .i64 64))⟩]
def rMathBitsTrailingZeros64X3 : List O := [
  ⟨(some 5), none, .mv (.t 0)⟩,
  ⟨(some 6), none, .mv (.t 0)⟩,
  ⟨(some 7), none, .un .neg (.t 6)⟩,
  ⟨(some 8), none, .bin .and (.t 5) (.t 7)⟩,
  ⟨(some 9), none, .bin .mul (.t 8) (.k (.int .u64 285870213051353865))⟩,
  ⟨(some 10), none, .bin .shr (.t 9) (.k (.int .u64 58))⟩,
  ⟨(some 11), none, .ixp 64 1 (.g 0) (.t 10)⟩,
  ⟨(some 12), none, .ld none (.t 11)⟩,
  ⟨(some 13), none, .cvt .i64 (.t 12)⟩,
  ⟨(some 2), none, .mv (.t 13)⟩]
def cMathBitsTrailingZeros64 : C := (.seq (.reg rMathBitsTrailingZeros64X0 false [] [0]) (.seq (.seq (.reg rMathBitsTrailingZeros64X1 false [] [0, 4]) (.cond (.t 4) (.seq (.reg rMathBitsTrailingZeros64X2 false [] [2]) .ret) .skip)) (.seq (.reg rMathBitsTrailingZeros64X3 false [] [2]) .ret)))
def qMathBitsTrailingZeros64 : AFn := ⟨14, 1, [.t 2], cMathBitsTrailingZeros64⟩
/- slices.Sort[[]int,int] -/
def rSlicesSortIntIntX0 : List O := [
  ⟨(some 3), none, .mv (.t 0)⟩,
  ⟨(some 4), none, .len (.t 3)⟩,
  ⟨(some 2), none, .mv (.t 4)⟩]
def rSlicesSortIntIntX1 : List O := [
  ⟨(some 5), none, .mv (.t 0)⟩,
  ⟨(some 6), none, .mv (.t 2)⟩,
  ⟨(some 7), none, .mv (.t 2)⟩,
  ⟨(some 8), none, .cvt .u64 (.t 7)⟩,
  ⟨(some 9), none, .call 82 [(.t 8)]⟩,
  ⟨(some 10), none, .call 81 [(.t 5), (.k (.int .i64 0)), (.t 6), (.t 9)]⟩]
def cSlicesSortIntInt : C := (.seq (.reg rSlicesSortIntIntX0 false [] [0, 2]) (.reg rSlicesSortIntIntX1 false [] []))
def qSlicesSortIntInt : AFn := ⟨11, 1, [], cSlicesSortIntInt⟩
/- cohesion/cohesionref03.Check -/
def rRef03CheckX0 : List O := [
  ⟨(some 1), none, .box (.t 0)⟩,
  ⟨(some 2), none, .mv (.k (.int .i64 0))⟩]
def rRef03CheckX1 : List O := [
  ⟨(some 5), none, .fad 0 (.t 1)⟩,
  ⟨(some 6), none, .ld none (.t 5)⟩,
  ⟨(some 7), none, .bin .lss (.t 6) (.k (.int .i64 0))⟩,
  ⟨(some 8), none, .mv (.t 7)⟩,
  ⟨(some 9), (some (8, false)), .fad 0 (.t 1)⟩,
  ⟨(some 10), (some (8, false)), .ld none (.t 9)⟩,
  ⟨(some 11), (some (8, false)), .bin .gtr (.t 10) (.k (.int .i64 64))⟩,
  ⟨(some 12), none, .pick (.t 8) (.k (.bool true)) (.t 11)⟩]
def rRef03CheckX2 : List O := [
  ⟨(some 2), none, .mv (.k (.int .i64 1))⟩]
def rRef03CheckX3 : List O := [
  ⟨(some 13), none, .fad 1 (.t 1)⟩,
  ⟨(some 14), none, .ld none (.t 13)⟩,
  ⟨(some 15), none, .len (.t 14)⟩,
  ⟨(some 16), none, .mv (.k (.int .i64 0))⟩]
def rRef03CheckX4 : List O := [
  ⟨(some 17), none, .bin .lss (.t 16) (.t 15)⟩]
def rRef03CheckX5 : List O := [
  ⟨(some 18), none, .mv (.t 16)⟩,
  ⟨(some 19), none, .ixa 2 (.t 14) (.t 16)⟩,
  ⟨(some 20), none, .ld (some 2) (.t 19)⟩,
  ⟨(some 4), none, .new [(.int .i64 0), (.int .i64 0)]⟩,
  ⟨(some 3), none, .mv (.t 18)⟩,
  ⟨none, none, .st 2 (.t 4) (.t 20)⟩]
def rRef03CheckX6 : List O := [
  ⟨(some 21), none, .fad 0 (.t 4)⟩,
  ⟨(some 22), none, .ld none (.t 21)⟩,
  ⟨(some 23), none, .bin .lss (.t 22) (.k (.int .i64 0))⟩,
  ⟨(some 24), none, .mv (.t 23)⟩,
  ⟨(some 25), (some (24, false)), .fad 0 (.t 4)⟩,
  ⟨(some 26), (some (24, false)), .ld none (.t 25)⟩,
  ⟨(some 27), (some (24, false)), .fad 1 (.t 4)⟩,
  ⟨(some 28), (some (24, false)), .ld none (.t 27)⟩,
  ⟨(some 29), (some (24, false)), .bin .geq (.t 26) (.t 28)⟩,
  ⟨(some 30), none, .pick (.t 24) (.k (.bool true)) (.t 29)⟩,
  ⟨(some 31), none, .mv (.t 30)⟩,
  ⟨(some 32), (some (31, false)), .fad 1 (.t 4)⟩,
  ⟨(some 33), (some (31, false)), .ld none (.t 32)⟩,
  ⟨(some 34), (some (31, false)), .fad 0 (.t 1)⟩,
  ⟨(some 35), (some (31, false)), .ld none (.t 34)⟩,
  ⟨(some 36), (some (31, false)), .bin .geq (.t 33) (.t 35)⟩,
  ⟨(some 37), none, .pick (.t 31) (.k (.bool true)) (.t 36)⟩]
def rRef03CheckX7 : List O := [
  ⟨(some 2), none, .mv (.k (.int .i64 6))⟩]
def rRef03CheckX8 : List O := [
  ⟨(some 38), none, .mv (.t 3)⟩,
  ⟨(some 39), none, .bin .gtr (.t 38) (.k (.int .i64 0))⟩,
  ⟨(some 40), none, .mv (.t 39)⟩,
  ⟨(some 41), (some (40, true)), .fad 1 (.t 1)⟩,
  ⟨(some 42), (some (40, true)), .ld none (.t 41)⟩,
  ⟨(some 43), (some (40, true)), .mv (.t 3)⟩,
  ⟨(some 44), (some (40, true)), .bin .sub (.t 43) (.k (.int .i64 1))⟩,
  ⟨(some 45), (some (40, true)), .ixa 2 (.t 42) (.t 44)⟩,
  ⟨(some 46), (some (40, true)), .ld (some 2) (.t 45)⟩,
  ⟨(some 47), (some (40, true)), .ld (some 2) (.t 4)⟩,
  ⟨(some 48), (some (40, true)), .call nRef03Before [(.t 46), (.t 47)]⟩,
  ⟨(some 49), (some (40, true)), .un .not (.t 48)⟩,
  ⟨(some 50), none, .pick (.t 40) (.t 49) (.k (.bool false))⟩]
def rRef03CheckX9 : List O := [
  ⟨(some 2), none, .mv (.k (.int .i64 5))⟩]
def rRef03CheckX10 : List O := [
  ⟨(some 51), none, .bin .add (.t 16) (.k (.int .i64 1))⟩,
  ⟨(some 16), none, .mv (.t 51)⟩]
def lRef03CheckX0 : C := (.seq (.reg rRef03CheckX4 false [] [1, 14, 15, 16, 17]) (.seq (.cond (.t 17) .skip (.exit 0)) (.seq (.blk 1 (.seq (.reg rRef03CheckX5 false [] [1, 3, 4, 14, 15, 16]) (.seq (.seq (.reg rRef03CheckX6 false [] [1, 3, 4, 14, 15, 16, 37]) (.cond (.t 37) (.seq (.reg rRef03CheckX7 false [] [2]) .ret) .skip)) (.seq (.reg rRef03CheckX8 true [(0, 0), (1, 1), (2, 2), (10, 10), (11, 11), (12, 12), (4, 5), (4, 6), (3, 9), (4, 9), (5, 9), (6, 9), (7, 9), (8, 9)] [1, 14, 15, 16, 50]) (.cond (.t 50) (.seq (.reg rRef03CheckX9 false [] [2]) .ret) .skip))))) (.reg rRef03CheckX10 false [] [1, 14, 15, 16]))))
def rRef03CheckX11 : List O := [
  ⟨(some 2), none, .mv (.k (.int .i64 0))⟩]
def cRef03Check : C := (.seq (.reg rRef03CheckX0 false [] [1]) (.seq (.seq (.reg rRef03CheckX1 false [] [1, 12]) (.cond (.t 12) (.seq (.reg rRef03CheckX2 false [] [2]) .ret) .skip)) (.seq (.seq (.reg rRef03CheckX3 false [] [1, 14, 15, 16]) (.blk 0 (.loop lRef03CheckX0))) (.seq (.reg rRef03CheckX11 false [] [2]) .ret))))
def qRef03Check : AFn := ⟨52, 1, [.t 2], cRef03Check⟩
/- cohesion/cohesionref24.fits -/
def rRef24FitsX0 : List O := [
  ⟨(some 3), none, .box (.t 0)⟩,
  ⟨(some 6), none, .mv (.k (.bool false))⟩]
def rRef24FitsX1 : List O := [
  ⟨(some 7), none, .mv (.k (.int .i64 0))⟩]
def rRef24FitsX2 : List O := [
  ⟨(some 8), none, .mv (.t 7)⟩,
  ⟨(some 9), none, .mv (.t 1)⟩,
  ⟨(some 10), none, .len (.t 9)⟩,
  ⟨(some 11), none, .bin .lss (.t 8) (.t 10)⟩]
def rRef24FitsX3 : List O := [
  ⟨(some 14), none, .mv (.t 1)⟩,
  ⟨(some 15), none, .mv (.t 7)⟩,
  ⟨(some 16), none, .ixa 1 (.t 14) (.t 15)⟩,
  ⟨(some 17), none, .ld none (.t 16)⟩,
  ⟨(some 18), none, .mv (.t 2)⟩,
  ⟨(some 19), none, .bin .eql (.t 17) (.t 18)⟩,
  ⟨(some 20), none, .mv (.t 19)⟩,
  ⟨(some 21), (some (20, false)), .ld (some 2) (.t 3)⟩,
  ⟨(some 22), (some (20, false)), .mv (.t 1)⟩,
  ⟨(some 23), (some (20, false)), .mv (.t 7)⟩,
  ⟨(some 24), (some (20, false)), .ixa 1 (.t 22) (.t 23)⟩,
  ⟨(some 25), (some (20, false)), .ld none (.t 24)⟩,
  ⟨(some 26), (some (20, false)), .mv (.t 2)⟩,
  ⟨(some 27), (some (20, false)), .call nRef03Find [(.t 21), (.t 25), (.t 26)]⟩,
  ⟨(some 28), (some (20, false)), .bin .lss (.t 27) (.k (.int .i64 0))⟩,
  ⟨(some 29), none, .pick (.t 20) (.k (.bool true)) (.t 28)⟩]
def rRef24FitsX4 : List O := [
  ⟨(some 6), none, .mv (.k (.bool false))⟩]
def rRef24FitsX5 : List O := [
  ⟨(some 12), none, .mv (.t 7)⟩,
  ⟨(some 13), none, .bin .add (.t 12) (.k (.int .i64 1))⟩,
  ⟨(some 7), none, .mv (.t 13)⟩]
def lRef24FitsX0 : C := (.seq (.seq (.reg rRef24FitsX2 false [] [1, 2, 3, 7, 11]) (.cond (.t 11) .skip (.exit 0))) (.seq (.blk 1 (.seq (.reg rRef24FitsX3 true [(5, 5), (6, 6), (13, 13), (14, 14), (15, 15), (3, 4), (7, 8), (7, 9), (7, 10), (7, 11), (7, 12), (11, 12)] [1, 2, 3, 7, 29]) (.cond (.t 29) (.seq (.reg rRef24FitsX4 false [] [6]) .ret) .skip))) (.reg rRef24FitsX5 false [] [1, 2, 3, 7])))
def rRef24FitsX6 : List O := [
  ⟨(some 6), none, .mv (.k (.bool true))⟩]
def cRef24Fits : C := (.seq (.reg rRef24FitsX0 false [] [1, 2, 3]) (.seq (.seq (.reg rRef24FitsX1 false [] [1, 2, 3, 7]) (.blk 0 (.loop lRef24FitsX0))) (.seq (.reg rRef24FitsX6 false [] [6]) .ret)))
def qRef24Fits : AFn := ⟨30, 3, [.t 6], cRef24Fits⟩
/- cohesion/cohesionref24.List -/
def rRef24ListX0 : List O := [
  ⟨(some 2), none, .box (.t 0)⟩,
  ⟨(some 4), none, .mv (.k (.own 1 []))⟩]
def rRef24ListX1 : List O := [
  ⟨(some 5), none, .mv (.k (.own 1 []))⟩]
def rRef24ListX2 : List O := [
  ⟨(some 7), none, .ld (some 2) (.t 2)⟩,
  ⟨(some 8), none, .mv (.t 5)⟩,
  ⟨(some 9), none, .mv (.t 1)⟩,
  ⟨(some 10), none, .call nRef24Grow [(.t 7), (.k (.own 1 [])), (.k (.int .i64 0)), (.t 8), (.t 9)]⟩,
  ⟨(some 6), none, .mv (.t 10)⟩]
def rRef24ListX3 : List O := [
  ⟨(some 11), none, .mv (.t 6)⟩,
  ⟨(some 4), none, .mv (.t 11)⟩]
def cRef24List : C := (.seq (.reg rRef24ListX0 false [] [1, 2]) (.seq (.reg rRef24ListX1 false [] [1, 2, 5]) (.seq (.reg rRef24ListX2 false [] [6]) (.seq (.reg rRef24ListX3 false [] [4]) .ret))))
def qRef24List : AFn := ⟨12, 2, [.t 4], cRef24List⟩
/- cohesion/nodeset.Valid -/
def rNodesetValidX0 : List O := [
  ⟨(some 4), none, .mv (.k (.bool false))⟩]
def rNodesetValidX1 : List O := [
  ⟨(some 7), none, .mv (.t 0)⟩,
  ⟨(some 8), none, .len (.t 7)⟩,
  ⟨(some 9), none, .mv (.k (.int .i64 0))⟩]
def rNodesetValidX2 : List O := [
  ⟨(some 10), none, .bin .lss (.t 9) (.t 8)⟩]
def rNodesetValidX3 : List O := [
  ⟨(some 11), none, .mv (.t 9)⟩,
  ⟨(some 12), none, .ixa 1 (.t 7) (.t 9)⟩,
  ⟨(some 13), none, .ld none (.t 12)⟩,
  ⟨(some 5), none, .mv (.t 11)⟩,
  ⟨(some 6), none, .mv (.t 13)⟩]
def rNodesetValidX4 : List O := [
  ⟨(some 14), none, .mv (.t 6)⟩,
  ⟨(some 15), none, .bin .lss (.t 14) (.k (.int .i64 0))⟩,
  ⟨(some 16), none, .mv (.t 15)⟩,
  ⟨(some 17), (some (16, false)), .mv (.t 6)⟩,
  ⟨(some 18), (some (16, false)), .mv (.t 1)⟩,
  ⟨(some 19), (some (16, false)), .bin .geq (.t 17) (.t 18)⟩,
  ⟨(some 20), none, .pick (.t 16) (.k (.bool true)) (.t 19)⟩,
  ⟨(some 21), none, .mv (.t 20)⟩,
  ⟨(some 22), (some (21, false)), .mv (.t 5)⟩,
  ⟨(some 23), (some (21, false)), .bin .gtr (.t 22) (.k (.int .i64 0))⟩,
  ⟨(some 24), (some (21, false)), .mv (.t 23)⟩,
  ⟨(some 25), (some (24, true)), .mv (.t 0)⟩,
  ⟨(some 26), (some (24, true)), .mv (.t 5)⟩,
  ⟨(some 27), (some (24, true)), .bin .sub (.t 26) (.k (.int .i64 1))⟩,
  ⟨(some 28), (some (24, true)), .ixa 1 (.t 25) (.t 27)⟩,
  ⟨(some 29), (some (24, true)), .ld none (.t 28)⟩,
  ⟨(some 30), (some (24, true)), .mv (.t 6)⟩,
  ⟨(some 31), (some (24, true)), .bin .geq (.t 29) (.t 30)⟩,
  ⟨(some 32), (some (21, false)), .pick (.t 24) (.t 31) (.k (.bool false))⟩,
  ⟨(some 33), none, .pick (.t 21) (.k (.bool true)) (.t 32)⟩]
def rNodesetValidX5 : List O := [
  ⟨(some 4), none, .mv (.k (.bool false))⟩]
def rNodesetValidX6 : List O := [
  ⟨(some 34), none, .bin .add (.t 9) (.k (.int .i64 1))⟩,
  ⟨(some 9), none, .mv (.t 34)⟩]
def lNodesetValidX0 : C := (.seq (.reg rNodesetValidX2 false [] [0, 1, 7, 8, 9, 10]) (.seq (.cond (.t 10) .skip (.exit 0)) (.seq (.blk 1 (.seq (.reg rNodesetValidX3 false [] [0, 1, 5, 6, 7, 8, 9]) (.seq (.reg rNodesetValidX4 false [] [0, 1, 7, 8, 9, 33]) (.cond (.t 33) (.seq (.reg rNodesetValidX5 false [] [4]) .ret) .skip)))) (.reg rNodesetValidX6 false [] [0, 1, 7, 8, 9]))))
def rNodesetValidX7 : List O := [
  ⟨(some 4), none, .mv (.k (.bool true))⟩]
def cNodesetValid : C := (.seq (.reg rNodesetValidX0 false [] [0, 1]) (.seq (.seq (.reg rNodesetValidX1 false [] [0, 1, 7, 8, 9]) (.blk 0 (.loop lNodesetValidX0))) (.seq (.reg rNodesetValidX7 false [] [4]) .ret)))
def qNodesetValid : AFn := ⟨35, 2, [.t 4], cNodesetValid⟩
/- cohesion/cliques.clique -/
def rCliquesCliqueX0 : List O := [
  ⟨(some 4), none, .mv (.k (.bool false))⟩]
def rCliquesCliqueX1 : List O := [
  ⟨(some 9), none, .mv (.t 1)⟩,
  ⟨(some 10), none, .len (.t 9)⟩,
  ⟨(some 11), none, .mv (.k (.int .i64 0))⟩]
def rCliquesCliqueX2 : List O := [
  ⟨(some 12), none, .bin .lss (.t 11) (.t 10)⟩]
def rCliquesCliqueX3 : List O := [
  ⟨(some 13), none, .mv (.t 11)⟩,
  ⟨(some 14), none, .ixa 1 (.t 9) (.t 11)⟩,
  ⟨(some 15), none, .ld none (.t 14)⟩,
  ⟨(some 5), none, .mv (.t 13)⟩,
  ⟨(some 6), none, .mv (.t 15)⟩]
def rCliquesCliqueX4 : List O := [
  ⟨(some 16), none, .mv (.t 1)⟩,
  ⟨(some 17), none, .mv (.t 5)⟩,
  ⟨(some 18), none, .slc 1 (.t 16) none (some (.t 17))⟩,
  ⟨(some 19), none, .len (.t 18)⟩,
  ⟨(some 20), none, .mv (.k (.int .i64 0))⟩]
def rCliquesCliqueX5 : List O := [
  ⟨(some 21), none, .bin .lss (.t 20) (.t 19)⟩]
def rCliquesCliqueX6 : List O := [
  ⟨(some 22), none, .ixa 1 (.t 18) (.t 20)⟩,
  ⟨(some 23), none, .ld none (.t 22)⟩,
  ⟨(some 8), none, .mv (.t 23)⟩]
def rCliquesCliqueX7 : List O := [
  ⟨(some 24), none, .mv (.t 0)⟩,
  ⟨(some 25), none, .mv (.t 6)⟩,
  ⟨(some 26), none, .ixa 1 (.t 24) (.t 25)⟩,
  ⟨(some 27), none, .ld none (.t 26)⟩,
  ⟨(some 28), none, .mv (.t 8)⟩,
  ⟨(some 29), none, .bin .shr (.t 27) (.t 28)⟩,
  ⟨(some 30), none, .bin .and (.t 29) (.k (.int .u64 1))⟩,
  ⟨(some 31), none, .bin .eql (.t 30) (.k (.int .u64 0))⟩]
def rCliquesCliqueX8 : List O := [
  ⟨(some 4), none, .mv (.k (.bool false))⟩]
def rCliquesCliqueX9 : List O := [
  ⟨(some 32), none, .bin .add (.t 20) (.k (.int .i64 1))⟩,
  ⟨(some 20), none, .mv (.t 32)⟩]
def lCliquesCliqueX0 : C := (.seq (.reg rCliquesCliqueX5 false [] [0, 1, 6, 9, 10, 11, 18, 19, 20, 21]) (.seq (.cond (.t 21) .skip (.exit 2)) (.seq (.blk 3 (.seq (.reg rCliquesCliqueX6 false [] [0, 1, 6, 8, 9, 10, 11, 18, 19, 20]) (.seq (.reg rCliquesCliqueX7 false [] [0, 1, 6, 9, 10, 11, 18, 19, 20, 31]) (.cond (.t 31) (.seq (.reg rCliquesCliqueX8 false [] [4]) .ret) .skip)))) (.reg rCliquesCliqueX9 false [] [0, 1, 6, 9, 10, 11, 18, 19, 20]))))
def rCliquesCliqueX10 : List O := [
  ⟨(some 33), none, .bin .add (.t 11) (.k (.int .i64 1))⟩,
  ⟨(some 11), none, .mv (.t 33)⟩]
def lCliquesCliqueX1 : C := (.seq (.reg rCliquesCliqueX2 false [] [0, 1, 9, 10, 11, 12]) (.seq (.cond (.t 12) .skip (.exit 0)) (.seq (.blk 1 (.seq (.reg rCliquesCliqueX3 false [] [0, 1, 5, 6, 9, 10, 11]) (.seq (.reg rCliquesCliqueX4 false [] [0, 1, 6, 9, 10, 11, 18, 19, 20]) (.blk 2 (.loop lCliquesCliqueX0))))) (.reg rCliquesCliqueX10 false [] [0, 1, 9, 10, 11]))))
def rCliquesCliqueX11 : List O := [
  ⟨(some 4), none, .mv (.k (.bool true))⟩]
def cCliquesClique : C := (.seq (.reg rCliquesCliqueX0 false [] [0, 1]) (.seq (.seq (.reg rCliquesCliqueX1 false [] [0, 1, 9, 10, 11]) (.blk 0 (.loop lCliquesCliqueX1))) (.seq (.reg rCliquesCliqueX11 false [] [4]) .ret)))
def qCliquesClique : AFn := ⟨34, 2, [.t 4], cCliquesClique⟩
/- cohesion/cohesionref02.Valid -/
def rRef02ValidX0 : List O := [
  ⟨(some 4), none, .mv (.k (.bool false))⟩]
def rRef02ValidX1 : List O := [
  ⟨(some 7), none, .mv (.t 0)⟩,
  ⟨(some 8), none, .len (.t 7)⟩,
  ⟨(some 9), none, .mv (.k (.int .i64 0))⟩]
def rRef02ValidX2 : List O := [
  ⟨(some 10), none, .bin .lss (.t 9) (.t 8)⟩]
def rRef02ValidX3 : List O := [
  ⟨(some 11), none, .mv (.t 9)⟩,
  ⟨(some 12), none, .ixa 1 (.t 7) (.t 9)⟩,
  ⟨(some 13), none, .ld none (.t 12)⟩,
  ⟨(some 5), none, .mv (.t 11)⟩,
  ⟨(some 6), none, .mv (.t 13)⟩]
def rRef02ValidX4 : List O := [
  ⟨(some 14), none, .mv (.t 6)⟩,
  ⟨(some 15), none, .bin .lss (.t 14) (.k (.int .i64 0))⟩,
  ⟨(some 16), none, .mv (.t 15)⟩,
  ⟨(some 17), (some (16, false)), .mv (.t 6)⟩,
  ⟨(some 18), (some (16, false)), .mv (.t 1)⟩,
  ⟨(some 19), (some (16, false)), .bin .geq (.t 17) (.t 18)⟩,
  ⟨(some 20), none, .pick (.t 16) (.k (.bool true)) (.t 19)⟩,
  ⟨(some 21), none, .mv (.t 20)⟩,
  ⟨(some 22), (some (21, false)), .mv (.t 5)⟩,
  ⟨(some 23), (some (21, false)), .bin .gtr (.t 22) (.k (.int .i64 0))⟩,
  ⟨(some 24), (some (21, false)), .mv (.t 23)⟩,
  ⟨(some 25), (some (24, true)), .mv (.t 0)⟩,
  ⟨(some 26), (some (24, true)), .mv (.t 5)⟩,
  ⟨(some 27), (some (24, true)), .bin .sub (.t 26) (.k (.int .i64 1))⟩,
  ⟨(some 28), (some (24, true)), .ixa 1 (.t 25) (.t 27)⟩,
  ⟨(some 29), (some (24, true)), .ld none (.t 28)⟩,
  ⟨(some 30), (some (24, true)), .mv (.t 6)⟩,
  ⟨(some 31), (some (24, true)), .bin .geq (.t 29) (.t 30)⟩,
  ⟨(some 32), (some (21, false)), .pick (.t 24) (.t 31) (.k (.bool false))⟩,
  ⟨(some 33), none, .pick (.t 21) (.k (.bool true)) (.t 32)⟩]
def rRef02ValidX5 : List O := [
  ⟨(some 4), none, .mv (.k (.bool false))⟩]
def rRef02ValidX6 : List O := [
  ⟨(some 34), none, .bin .add (.t 9) (.k (.int .i64 1))⟩,
  ⟨(some 9), none, .mv (.t 34)⟩]
def lRef02ValidX0 : C := (.seq (.reg rRef02ValidX2 false [] [0, 1, 7, 8, 9, 10]) (.seq (.cond (.t 10) .skip (.exit 0)) (.seq (.blk 1 (.seq (.reg rRef02ValidX3 false [] [0, 1, 5, 6, 7, 8, 9]) (.seq (.reg rRef02ValidX4 false [] [0, 1, 7, 8, 9, 33]) (.cond (.t 33) (.seq (.reg rRef02ValidX5 false [] [4]) .ret) .skip)))) (.reg rRef02ValidX6 false [] [0, 1, 7, 8, 9]))))
def rRef02ValidX7 : List O := [
  ⟨(some 4), none, .mv (.k (.bool true))⟩]
def cRef02Valid : C := (.seq (.reg rRef02ValidX0 false [] [0, 1]) (.seq (.seq (.reg rRef02ValidX1 false [] [0, 1, 7, 8, 9]) (.blk 0 (.loop lRef02ValidX0))) (.seq (.reg rRef02ValidX7 false [] [4]) .ret)))
def qRef02Valid : AFn := ⟨35, 2, [.t 4], cRef02Valid⟩
/- cohesion/cohesionref03.Find -/
def rRef03FindX0 : List O := [
  ⟨(some 3), none, .box (.t 0)⟩,
  ⟨(some 6), none, .mv (.k (.int .i64 0))⟩]
def rRef03FindX1 : List O := [
  ⟨(some 9), none, .ld (some 2) (.t 3)⟩,
  ⟨(some 10), none, .call nRef03Check [(.t 9)]⟩,
  ⟨(some 11), none, .bin .neq (.t 10) (.k (.int .i64 0))⟩]
def rRef03FindX2 : List O := [
  ⟨(some 6), none, .mv (.k (.int .i64 (-1)))⟩]
def rRef03FindX3 : List O := [
  ⟨(some 12), none, .fad 1 (.t 3)⟩,
  ⟨(some 13), none, .ld none (.t 12)⟩,
  ⟨(some 14), none, .len (.t 13)⟩,
  ⟨(some 15), none, .mv (.k (.int .i64 0))⟩]
def rRef03FindX4 : List O := [
  ⟨(some 16), none, .bin .lss (.t 15) (.t 14)⟩]
def rRef03FindX5 : List O := [
  ⟨(some 17), none, .mv (.t 15)⟩,
  ⟨(some 18), none, .ixa 2 (.t 13) (.t 15)⟩,
  ⟨(some 19), none, .ld (some 2) (.t 18)⟩,
  ⟨(some 8), none, .new [(.int .i64 0), (.int .i64 0)]⟩,
  ⟨(some 7), none, .mv (.t 17)⟩,
  ⟨none, none, .st 2 (.t 8) (.t 19)⟩]
def rRef03FindX6 : List O := [
  ⟨(some 20), none, .ld (some 2) (.t 8)⟩,
  ⟨(some 21), none, .mv (.t 1)⟩,
  ⟨(some 22), none, .mv (.t 2)⟩,
  ⟨(some 23), none, .call nRef03Edge [(.t 21), (.t 22)]⟩,
  ⟨(some 24), none, .eq false (.str [true, true]) (.t 20) (.t 23)⟩]
def rRef03FindX7 : List O := [
  ⟨(some 25), none, .mv (.t 7)⟩,
  ⟨(some 6), none, .mv (.t 25)⟩]
def rRef03FindX8 : List O := [
  ⟨(some 26), none, .bin .add (.t 15) (.k (.int .i64 1))⟩,
  ⟨(some 15), none, .mv (.t 26)⟩]
def lRef03FindX0 : C := (.seq (.reg rRef03FindX4 false [] [1, 2, 13, 14, 15, 16]) (.seq (.cond (.t 16) .skip (.exit 0)) (.seq (.blk 1 (.seq (.reg rRef03FindX5 false [] [1, 2, 7, 8, 13, 14, 15]) (.seq (.reg rRef03FindX6 true [(4, 4), (0, 1), (0, 2), (0, 3)] [1, 2, 7, 13, 14, 15, 24]) (.cond (.t 24) (.seq (.reg rRef03FindX7 false [] [6]) .ret) .skip)))) (.reg rRef03FindX8 false [] [1, 2, 13, 14, 15]))))
def rRef03FindX9 : List O := [
  ⟨(some 6), none, .mv (.k (.int .i64 (-1)))⟩]
def cRef03Find : C := (.seq (.reg rRef03FindX0 false [] [1, 2, 3]) (.seq (.seq (.reg rRef03FindX1 false [] [1, 2, 3, 11]) (.cond (.t 11) (.seq (.reg rRef03FindX2 false [] [6]) .ret) .skip)) (.seq (.seq (.reg rRef03FindX3 false [] [1, 2, 13, 14, 15]) (.blk 0 (.loop lRef03FindX0))) (.seq (.reg rRef03FindX9 false [] [6]) .ret))))
def qRef03Find : AFn := ⟨27, 3, [.t 6], cRef03Find⟩
/- cohesion/graph.within -/
def rGraphWithinX0 : List O := [
  ⟨(some 2), none, .box (.t 0)⟩,
  ⟨(some 4), none, .mv (.k (.own 2 []))⟩]
def rGraphWithinX1 : List O := [
  ⟨(some 9), none, .mv (.t 1)⟩,
  ⟨(some 10), none, .call nMasksOf [(.t 9)]⟩,
  ⟨(some 5), none, .mv (.t 10)⟩]
def rGraphWithinX2 : List O := [
  ⟨(some 6), none, .mv (.k (.own 2 []))⟩]
def rGraphWithinX3 : List O := [
  ⟨(some 11), none, .fad 1 (.t 2)⟩,
  ⟨(some 12), none, .ld none (.t 11)⟩,
  ⟨(some 13), none, .len (.t 12)⟩,
  ⟨(some 14), none, .mv (.k (.int .i64 0))⟩]
def rGraphWithinX4 : List O := [
  ⟨(some 15), none, .bin .lss (.t 14) (.t 13)⟩]
def rGraphWithinX5 : List O := [
  ⟨(some 16), none, .ixa 2 (.t 12) (.t 14)⟩,
  ⟨(some 17), none, .ld (some 2) (.t 16)⟩,
  ⟨(some 8), none, .new [(.int .i64 0), (.int .i64 0)]⟩,
  ⟨none, none, .st 2 (.t 8) (.t 17)⟩]
def rGraphWithinX6 : List O := [
  ⟨(some 18), none, .mv (.t 5)⟩,
  ⟨(some 19), none, .fad 0 (.t 8)⟩,
  ⟨(some 20), none, .ld none (.t 19)⟩,
  ⟨(some 21), none, .call nMasksBit [(.t 20)]⟩,
  ⟨(some 22), none, .bin .and (.t 18) (.t 21)⟩,
  ⟨(some 23), none, .bin .neq (.t 22) (.k (.int .u64 0))⟩,
  ⟨(some 24), none, .mv (.t 23)⟩,
  ⟨(some 25), (some (24, true)), .mv (.t 5)⟩,
  ⟨(some 26), (some (24, true)), .fad 1 (.t 8)⟩,
  ⟨(some 27), (some (24, true)), .ld none (.t 26)⟩,
  ⟨(some 28), (some (24, true)), .call nMasksBit [(.t 27)]⟩,
  ⟨(some 29), (some (24, true)), .bin .and (.t 25) (.t 28)⟩,
  ⟨(some 30), (some (24, true)), .bin .neq (.t 29) (.k (.int .u64 0))⟩,
  ⟨(some 31), none, .pick (.t 24) (.t 30) (.k (.bool false))⟩]
def rGraphWithinX7 : List O := [
  ⟨(some 32), none, .mv (.t 6)⟩,
  ⟨(some 33), none, .ld (some 2) (.t 8)⟩,
  ⟨(some 34), none, .bslice 2 1 [(.int .i64 0), (.int .i64 0)] [(0, 2, (.t 33))]⟩,
  ⟨(some 35), none, .app 2 (.t 32) (.t 34)⟩,
  ⟨(some 6), none, .mv (.t 35)⟩]
def rGraphWithinX8 : List O := [
  ⟨(some 36), none, .bin .add (.t 14) (.k (.int .i64 1))⟩,
  ⟨(some 14), none, .mv (.t 36)⟩]
def lGraphWithinX0 : C := (.seq (.reg rGraphWithinX4 false [] [5, 6, 12, 13, 14, 15]) (.seq (.cond (.t 15) .skip (.exit 0)) (.seq (.blk 1 (.seq (.reg rGraphWithinX5 false [] [5, 6, 8, 12, 13, 14]) (.seq (.reg rGraphWithinX6 false [] [5, 6, 8, 12, 13, 14, 31]) (.cond (.t 31) (.reg rGraphWithinX7 false [] [5, 6, 12, 13, 14]) .skip)))) (.reg rGraphWithinX8 false [] [5, 6, 12, 13, 14]))))
def rGraphWithinX9 : List O := [
  ⟨(some 37), none, .mv (.t 6)⟩,
  ⟨(some 4), none, .mv (.t 37)⟩]
def cGraphWithin : C := (.seq (.reg rGraphWithinX0 false [] [1, 2]) (.seq (.reg rGraphWithinX1 false [] [2, 5]) (.seq (.reg rGraphWithinX2 false [] [2, 5, 6]) (.seq (.seq (.reg rGraphWithinX3 false [] [5, 6, 12, 13, 14]) (.blk 0 (.loop lGraphWithinX0))) (.seq (.reg rGraphWithinX9 false [] [4]) .ret)))))
def qGraphWithin : AFn := ⟨38, 2, [.t 4], cGraphWithin⟩
/- cohesion/graph.change -/
def rGraphChangeX0 : List O := [
  ⟨(some 3), none, .box (.t 0)⟩,
  ⟨(some 6), none, .mv (.k (.int .i64 0))⟩]
def rGraphChangeX1 : List O := [
  ⟨(some 8), none, .ld (some 2) (.t 3)⟩,
  ⟨(some 9), none, .call nGraphCheck [(.t 8)]⟩,
  ⟨(some 7), none, .mv (.t 9)⟩]
def rGraphChangeX2 : List O := [
  ⟨(some 10), none, .mv (.t 7)⟩,
  ⟨(some 11), none, .bin .neq (.t 10) (.k (.int .i64 0))⟩]
def rGraphChangeX3 : List O := [
  ⟨(some 12), none, .mv (.t 7)⟩,
  ⟨(some 6), none, .mv (.t 12)⟩]
def rGraphChangeX4 : List O := [
  ⟨(some 13), none, .fad 0 (.t 3)⟩,
  ⟨(some 14), none, .ld none (.t 13)⟩,
  ⟨(some 15), none, .mv (.t 1)⟩,
  ⟨(some 16), none, .mv (.t 2)⟩,
  ⟨(some 17), none, .call nGraphEnds [(.t 14), (.t 15), (.t 16)]⟩,
  ⟨(some 18), none, .un .not (.t 17)⟩]
def rGraphChangeX5 : List O := [
  ⟨(some 6), none, .mv (.k (.int .i64 6))⟩]
def rGraphChangeX6 : List O := [
  ⟨(some 6), none, .mv (.k (.int .i64 0))⟩]
def cGraphChange : C := (.seq (.reg rGraphChangeX0 false [] [1, 2, 3]) (.seq (.seq (.reg rGraphChangeX1 false [] [1, 2, 3, 7]) (.seq (.reg rGraphChangeX2 false [] [1, 2, 3, 7, 11]) (.cond (.t 11) (.seq (.reg rGraphChangeX3 false [] [6]) .ret) .skip))) (.seq (.seq (.reg rGraphChangeX4 false [] [18]) (.cond (.t 18) (.seq (.reg rGraphChangeX5 false [] [6]) .ret) .skip)) (.seq (.reg rGraphChangeX6 false [] [6]) .ret))))
def qGraphChange : AFn := ⟨19, 3, [.t 6], cGraphChange⟩
/- cohesion/graph.place -/
def rGraphPlaceX0 : List O := [
  ⟨(some 3), none, .box (.t 0)⟩,
  ⟨(some 6), none, .mv (.k (.int .i64 0))⟩,
  ⟨(some 7), none, .mv (.k (.bool false))⟩]
def rGraphPlaceX1 : List O := [
  ⟨(some 11), none, .mv (.t 1)⟩,
  ⟨(some 12), none, .mv (.t 2)⟩,
  ⟨(some 13), none, .call nGraphEdge [(.t 11), (.t 12)]⟩,
  ⟨(some 8), none, .new [(.int .i64 0), (.int .i64 0)]⟩,
  ⟨none, none, .st 2 (.t 8) (.t 13)⟩]
def rGraphPlaceX2 : List O := [
  ⟨(some 15), none, .fad 1 (.t 3)⟩,
  ⟨(some 16), none, .ld none (.t 15)⟩,
  ⟨(some 17), none, .ld (some 2) (.t 8)⟩,
  ⟨(some 18), none, .call nSlicesBinarySearchFuncApiEdgeApiEdgeApiEdge [(.t 16), (.t 17), (.k (.func (.func nGraphOrder) [] []))]⟩,
  ⟨(some 14), none, .mv (.t 18)⟩,
  ⟨(some 19), none, .ext 0 (.t 14)⟩,
  ⟨(some 20), none, .ext 1 (.t 14)⟩,
  ⟨(some 9), none, .mv (.t 19)⟩,
  ⟨(some 10), none, .mv (.t 20)⟩]
def rGraphPlaceX3 : List O := [
  ⟨(some 21), none, .mv (.t 9)⟩,
  ⟨(some 22), none, .mv (.t 9)⟩,
  ⟨(some 23), none, .fad 1 (.t 3)⟩,
  ⟨(some 24), none, .ld none (.t 23)⟩,
  ⟨(some 25), none, .len (.t 24)⟩,
  ⟨(some 26), none, .bin .lss (.t 22) (.t 25)⟩,
  ⟨(some 27), none, .mv (.t 26)⟩,
  ⟨(some 28), (some (27, true)), .fad 1 (.t 3)⟩,
  ⟨(some 29), (some (27, true)), .ld none (.t 28)⟩,
  ⟨(some 30), (some (27, true)), .mv (.t 9)⟩,
  ⟨(some 31), (some (27, true)), .ixa 2 (.t 29) (.t 30)⟩,
  ⟨(some 32), (some (27, true)), .ld (some 2) (.t 31)⟩,
  ⟨(some 33), (some (27, true)), .ld (some 2) (.t 8)⟩,
  ⟨(some 34), (some (27, true)), .eq false (.str [true, true]) (.t 32) (.t 33)⟩,
  ⟨(some 35), none, .pick (.t 27) (.t 34) (.k (.bool false))⟩,
  ⟨(some 6), none, .mv (.t 21)⟩,
  ⟨(some 7), none, .mv (.t 35)⟩]
def cGraphPlace : C := (.seq (.reg rGraphPlaceX0 false [] [1, 2, 3]) (.seq (.reg rGraphPlaceX1 false [] [3, 8]) (.seq (.reg rGraphPlaceX2 false [] [3, 8, 9]) (.seq (.reg rGraphPlaceX3 true [(16, 16), (0, 3), (1, 3), (0, 8), (8, 9), (0, 11), (0, 12), (7, 12), (8, 12), (9, 12), (10, 12), (11, 12), (8, 15), (11, 15), (12, 15)] [6, 7]) .ret))))
def qGraphPlace : AFn := ⟨36, 3, [.t 6, .t 7], cGraphPlace⟩
/- slices.Insert[[]cohesion/api.Edge,cohesion/api.Edge] -/
def rSlicesInsertApiEdgeApiEdgeX0 : List O := [
  ⟨(some 6), none, .mv (.k (.own 2 []))⟩]
def rSlicesInsertApiEdgeApiEdgeX1 : List O := [
  ⟨(some 10), none, .mv (.t 0)⟩,
  ⟨(some 11), none, .mv (.t 1)⟩,
  ⟨(some 12), none, .slc 2 (.t 10) (some (.t 11)) none⟩]
def rSlicesInsertApiEdgeApiEdgeX2 : List O := [
  ⟨(some 13), none, .mv (.t 2)⟩,
  ⟨(some 14), none, .len (.t 13)⟩,
  ⟨(some 7), none, .mv (.t 14)⟩]
def rSlicesInsertApiEdgeApiEdgeX3 : List O := [
  ⟨(some 15), none, .mv (.t 7)⟩,
  ⟨(some 16), none, .bin .eql (.t 15) (.k (.int .i64 0))⟩]
def rSlicesInsertApiEdgeApiEdgeX4 : List O := [
  ⟨(some 17), none, .mv (.t 0)⟩,
  ⟨(some 6), none, .mv (.t 17)⟩]
def rSlicesInsertApiEdgeApiEdgeX5 : List O := [
  ⟨(some 18), none, .mv (.t 0)⟩,
  ⟨(some 19), none, .len (.t 18)⟩,
  ⟨(some 8), none, .mv (.t 19)⟩]
def rSlicesInsertApiEdgeApiEdgeX6 : List O := [
  ⟨(some 20), none, .mv (.t 1)⟩,
  ⟨(some 21), none, .mv (.t 8)⟩,
  ⟨(some 22), none, .bin .eql (.t 20) (.t 21)⟩]
def rSlicesInsertApiEdgeApiEdgeX7 : List O := [
  ⟨(some 23), none, .mv (.t 0)⟩,
  ⟨(some 24), none, .mv (.t 2)⟩,
  ⟨(some 25), none, .app 2 (.t 23) (.t 24)⟩,
  ⟨(some 6), none, .mv (.t 25)⟩]
def rSlicesInsertApiEdgeApiEdgeX8 : List O := [
  ⟨(some 26), none, .mv (.t 8)⟩,
  ⟨(some 27), none, .mv (.t 7)⟩,
  ⟨(some 28), none, .bin .add (.t 26) (.t 27)⟩,
  ⟨(some 29), none, .mv (.t 0)⟩,
  ⟨(some 30), none, .bad⟩,
  ⟨(some 31), none, .bin .gtr (.t 28) (.t 30)⟩]
def rSlicesInsertApiEdgeApiEdgeX9 : List O := [
  ⟨(some 32), none, .mv (.t 0)⟩,
  ⟨(some 33), none, .mv (.t 1)⟩,
  ⟨(some 34), none, .slc 2 (.t 32) none (some (.t 33))⟩,
  ⟨(some 35), none, .mv (.t 8)⟩,
  ⟨(some 36), none, .mv (.t 7)⟩,
  ⟨(some 37), none, .bin .add (.t 35) (.t 36)⟩,
  ⟨(some 38), none, .mv (.t 1)⟩,
  ⟨(some 39), none, .bin .sub (.t 37) (.t 38)⟩,
  ⟨(some 40), none, .bad⟩,
  ⟨(some 9), none, .mv (.t 40)⟩]
def rSlicesInsertApiEdgeApiEdgeX10 : List O := [
  ⟨(some 41), none, .mv (.t 9)⟩,
  ⟨(some 42), none, .mv (.t 1)⟩,
  ⟨(some 43), none, .slc 2 (.t 41) (some (.t 42)) none⟩,
  ⟨(some 44), none, .mv (.t 2)⟩,
  ⟨(some 45), none, .bad⟩]
def rSlicesInsertApiEdgeApiEdgeX11 : List O := [
  ⟨(some 46), none, .mv (.t 9)⟩,
  ⟨(some 47), none, .mv (.t 1)⟩,
  ⟨(some 48), none, .mv (.t 7)⟩,
  ⟨(some 49), none, .bin .add (.t 47) (.t 48)⟩,
  ⟨(some 50), none, .slc 2 (.t 46) (some (.t 49)) none⟩,
  ⟨(some 51), none, .mv (.t 0)⟩,
  ⟨(some 52), none, .mv (.t 1)⟩,
  ⟨(some 53), none, .slc 2 (.t 51) (some (.t 52)) none⟩,
  ⟨(some 54), none, .bad⟩]
def rSlicesInsertApiEdgeApiEdgeX12 : List O := [
  ⟨(some 55), none, .mv (.t 9)⟩,
  ⟨(some 6), none, .mv (.t 55)⟩]
def rSlicesInsertApiEdgeApiEdgeX13 : List O := [
  ⟨(some 56), none, .mv (.t 0)⟩,
  ⟨(some 57), none, .mv (.t 8)⟩,
  ⟨(some 58), none, .mv (.t 7)⟩,
  ⟨(some 59), none, .bin .add (.t 57) (.t 58)⟩,
  ⟨(some 60), none, .slc 2 (.t 56) none (some (.t 59))⟩,
  ⟨(some 0), none, .mv (.t 60)⟩]
def rSlicesInsertApiEdgeApiEdgeX14 : List O := [
  ⟨(some 61), none, .mv (.t 2)⟩,
  ⟨(some 62), none, .mv (.t 0)⟩,
  ⟨(some 63), none, .mv (.t 1)⟩,
  ⟨(some 64), none, .mv (.t 7)⟩,
  ⟨(some 65), none, .bin .add (.t 63) (.t 64)⟩,
  ⟨(some 66), none, .slc 2 (.t 62) (some (.t 65)) none⟩,
  ⟨(some 67), none, .call 88 [(.t 61), (.t 66)]⟩,
  ⟨(some 68), none, .un .not (.t 67)⟩]
def rSlicesInsertApiEdgeApiEdgeX15 : List O := [
  ⟨(some 69), none, .mv (.t 0)⟩,
  ⟨(some 70), none, .mv (.t 1)⟩,
  ⟨(some 71), none, .mv (.t 7)⟩,
  ⟨(some 72), none, .bin .add (.t 70) (.t 71)⟩,
  ⟨(some 73), none, .slc 2 (.t 69) (some (.t 72)) none⟩,
  ⟨(some 74), none, .mv (.t 0)⟩,
  ⟨(some 75), none, .mv (.t 1)⟩,
  ⟨(some 76), none, .slc 2 (.t 74) (some (.t 75)) none⟩,
  ⟨(some 77), none, .bad⟩]
def rSlicesInsertApiEdgeApiEdgeX16 : List O := [
  ⟨(some 78), none, .mv (.t 0)⟩,
  ⟨(some 79), none, .mv (.t 1)⟩,
  ⟨(some 80), none, .slc 2 (.t 78) (some (.t 79)) none⟩,
  ⟨(some 81), none, .mv (.t 2)⟩,
  ⟨(some 82), none, .bad⟩]
def rSlicesInsertApiEdgeApiEdgeX17 : List O := [
  ⟨(some 83), none, .mv (.t 0)⟩,
  ⟨(some 6), none, .mv (.t 83)⟩]
def rSlicesInsertApiEdgeApiEdgeX18 : List O := [
  ⟨(some 84), none, .mv (.t 0)⟩,
  ⟨(some 85), none, .mv (.t 8)⟩,
  ⟨(some 86), none, .slc 2 (.t 84) (some (.t 85)) none⟩,
  ⟨(some 87), none, .mv (.t 2)⟩,
  ⟨(some 88), none, .bad⟩]
def rSlicesInsertApiEdgeApiEdgeX19 : List O := [
  ⟨(some 89), none, .mv (.t 0)⟩,
  ⟨(some 90), none, .mv (.t 1)⟩,
  ⟨(some 91), none, .slc 2 (.t 89) (some (.t 90)) none⟩,
  ⟨(some 92), none, .mv (.t 7)⟩,
  ⟨(some 93), none, .call 89 [(.t 91), (.t 92)]⟩]
def rSlicesInsertApiEdgeApiEdgeX20 : List O := [
  ⟨(some 94), none, .mv (.t 0)⟩,
  ⟨(some 6), none, .mv (.t 94)⟩]
def cSlicesInsertApiEdgeApiEdge : C := (.seq (.reg rSlicesInsertApiEdgeApiEdgeX0 false [] [0, 1, 2]) (.seq (.reg rSlicesInsertApiEdgeApiEdgeX1 false [] [0, 1, 2]) (.seq (.reg rSlicesInsertApiEdgeApiEdgeX2 false [] [0, 1, 2, 7]) (.seq (.seq (.reg rSlicesInsertApiEdgeApiEdgeX3 false [] [0, 1, 2, 7, 16]) (.cond (.t 16) (.seq (.reg rSlicesInsertApiEdgeApiEdgeX4 false [] [6]) .ret) .skip)) (.seq (.reg rSlicesInsertApiEdgeApiEdgeX5 false [] [0, 1, 2, 7, 8]) (.seq (.seq (.reg rSlicesInsertApiEdgeApiEdgeX6 false [] [0, 1, 2, 7, 8, 22]) (.cond (.t 22) (.seq (.reg rSlicesInsertApiEdgeApiEdgeX7 false [] [6]) .ret) .skip)) (.seq (.seq (.reg rSlicesInsertApiEdgeApiEdgeX8 false [] [0, 1, 2, 7, 8, 31]) (.cond (.t 31) (.seq (.reg rSlicesInsertApiEdgeApiEdgeX9 false [] [0, 1, 2, 7, 9]) (.seq (.reg rSlicesInsertApiEdgeApiEdgeX10 false [] [0, 1, 7, 9]) (.seq (.reg rSlicesInsertApiEdgeApiEdgeX11 true [(8, 8)] [9]) (.seq (.reg rSlicesInsertApiEdgeApiEdgeX12 false [] [6]) .ret)))) .skip)) (.seq (.reg rSlicesInsertApiEdgeApiEdgeX13 false [] [0, 1, 2, 7, 8]) (.seq (.seq (.reg rSlicesInsertApiEdgeApiEdgeX14 false [] [0, 1, 2, 7, 8, 68]) (.cond (.t 68) (.seq (.reg rSlicesInsertApiEdgeApiEdgeX15 true [(8, 8)] [0, 1, 2]) (.seq (.reg rSlicesInsertApiEdgeApiEdgeX16 false [] [0]) (.seq (.reg rSlicesInsertApiEdgeApiEdgeX17 false [] [6]) .ret))) .skip)) (.seq (.reg rSlicesInsertApiEdgeApiEdgeX18 false [] [0, 1, 7]) (.seq (.reg rSlicesInsertApiEdgeApiEdgeX19 false [] [0]) (.seq (.reg rSlicesInsertApiEdgeApiEdgeX20 false [] [6]) .ret))))))))))))
def qSlicesInsertApiEdgeApiEdge : AFn := ⟨95, 3, [.t 6], cSlicesInsertApiEdgeApiEdge⟩
/- slices.Clone[[]cohesion/api.Edge,cohesion/api.Edge] -/
def rSlicesCloneApiEdgeApiEdgeX0 : List O := [
  ⟨(some 2), none, .mv (.k (.own 2 []))⟩]
def rSlicesCloneApiEdgeApiEdgeX1 : List O := [
  ⟨(some 3), none, .mv (.t 0)⟩,
  ⟨(some 4), none, .eq false .nsl (.t 3) (.k (.own 2 []))⟩]
def rSlicesCloneApiEdgeApiEdgeX2 : List O := [
  ⟨(some 2), none, .mv (.k (.own 2 []))⟩]
def rSlicesCloneApiEdgeApiEdgeX3 : List O := [
  ⟨(some 5), none, .bslice 2 0 [(.int .i64 0), (.int .i64 0)] []⟩,
  ⟨(some 6), none, .mv (.t 0)⟩,
  ⟨(some 7), none, .app 2 (.t 5) (.t 6)⟩,
  ⟨(some 2), none, .mv (.t 7)⟩]
def cSlicesCloneApiEdgeApiEdge : C := (.seq (.reg rSlicesCloneApiEdgeApiEdgeX0 false [] [0]) (.seq (.seq (.reg rSlicesCloneApiEdgeApiEdgeX1 false [] [0, 4]) (.cond (.t 4) (.seq (.reg rSlicesCloneApiEdgeApiEdgeX2 false [] [2]) .ret) .skip)) (.seq (.reg rSlicesCloneApiEdgeApiEdgeX3 false [] [2]) .ret)))
def qSlicesCloneApiEdgeApiEdge : AFn := ⟨8, 1, [.t 2], cSlicesCloneApiEdgeApiEdge⟩
/- cohesion/graph.edge -/
def rGraphEdgeX0 : List O := [
  ⟨(some 4), none, .new [(.int .i64 0), (.int .i64 0)]⟩]
def rGraphEdgeX1 : List O := [
  ⟨(some 5), none, .mv (.t 0)⟩,
  ⟨(some 6), none, .mv (.t 1)⟩,
  ⟨(some 7), none, .min [(.t 5), (.t 6)]⟩,
  ⟨(some 8), none, .mv (.t 0)⟩,
  ⟨(some 9), none, .mv (.t 1)⟩,
  ⟨(some 10), none, .max [(.t 8), (.t 9)]⟩,
  ⟨(some 11), none, .build [(.int .i64 0), (.int .i64 0)] [(0, 1, (.t 7)), (1, 1, (.t 10))]⟩,
  ⟨none, none, .st 2 (.t 4) (.t 11)⟩]
def cGraphEdge : C := (.seq (.reg rGraphEdgeX0 false [] [0, 1, 4]) (.seq (.reg rGraphEdgeX1 false [] [4]) .ret))
def qGraphEdge : AFn := ⟨12, 2, [.c 4 (some 2)], cGraphEdge⟩
/- cohesion/graph.Ends -/
def rGraphEndsX0 : List O := [
  ⟨(some 6), none, .mv (.k (.bool false))⟩]
def rGraphEndsX1 : List O := [
  ⟨(some 7), none, .mv (.t 1)⟩,
  ⟨(some 8), none, .mv (.t 2)⟩,
  ⟨(some 9), none, .bin .neq (.t 7) (.t 8)⟩,
  ⟨(some 10), none, .mv (.t 9)⟩,
  ⟨(some 11), (some (10, true)), .mv (.t 1)⟩,
  ⟨(some 12), (some (10, true)), .mv (.t 2)⟩,
  ⟨(some 13), (some (10, true)), .min [(.t 11), (.t 12)]⟩,
  ⟨(some 14), (some (10, true)), .bin .geq (.t 13) (.k (.int .i64 0))⟩,
  ⟨(some 15), none, .pick (.t 10) (.t 14) (.k (.bool false))⟩,
  ⟨(some 16), none, .mv (.t 15)⟩,
  ⟨(some 17), (some (16, true)), .mv (.t 1)⟩,
  ⟨(some 18), (some (16, true)), .mv (.t 2)⟩,
  ⟨(some 19), (some (16, true)), .max [(.t 17), (.t 18)]⟩,
  ⟨(some 20), (some (16, true)), .mv (.t 0)⟩,
  ⟨(some 21), (some (16, true)), .bin .lss (.t 19) (.t 20)⟩,
  ⟨(some 22), none, .pick (.t 16) (.t 21) (.k (.bool false))⟩,
  ⟨(some 6), none, .mv (.t 22)⟩]
def cGraphEnds : C := (.seq (.reg rGraphEndsX0 false [] [0, 1, 2]) (.seq (.reg rGraphEndsX1 false [] [6]) .ret))
def qGraphEnds : AFn := ⟨23, 3, [.t 6], cGraphEnds⟩
/- slices.SortFunc[[]cohesion/api.Edge,cohesion/api.Edge] -/
def rSlicesSortFuncApiEdgeApiEdgeX0 : List O := [
  ⟨(some 5), none, .mv (.t 0)⟩,
  ⟨(some 6), none, .len (.t 5)⟩,
  ⟨(some 4), none, .mv (.t 6)⟩]
def rSlicesSortFuncApiEdgeApiEdgeX1 : List O := [
  ⟨(some 7), none, .mv (.t 0)⟩,
  ⟨(some 8), none, .mv (.t 4)⟩,
  ⟨(some 9), none, .mv (.t 4)⟩,
  ⟨(some 10), none, .cvt .u64 (.t 9)⟩,
  ⟨(some 11), none, .call 82 [(.t 10)]⟩,
  ⟨(some 12), none, .mv (.t 1)⟩,
  ⟨(some 13), none, .call 90 [(.t 7), (.k (.int .i64 0)), (.t 8), (.t 11), (.t 12)]⟩]
def cSlicesSortFuncApiEdgeApiEdge : C := (.seq (.reg rSlicesSortFuncApiEdgeApiEdgeX0 false [] [0, 1, 4]) (.reg rSlicesSortFuncApiEdgeApiEdgeX1 false [] []))
def qSlicesSortFuncApiEdgeApiEdge : AFn := ⟨14, 2, [], cSlicesSortFuncApiEdgeApiEdge⟩
/- cohesion/graph.Order -/
def rGraphOrderX0 : List O := [
  ⟨(some 2), none, .box (.t 0)⟩,
  ⟨(some 3), none, .box (.t 1)⟩,
  ⟨(some 4), none, .mv (.k (.int .i64 0))⟩]
def rGraphOrderX1 : List O := [
  ⟨(some 5), none, .fad 0 (.t 2)⟩,
  ⟨(some 6), none, .ld none (.t 5)⟩,
  ⟨(some 7), none, .fad 0 (.t 3)⟩,
  ⟨(some 8), none, .ld none (.t 7)⟩,
  ⟨(some 9), none, .call nCmpCompareInt [(.t 6), (.t 8)]⟩,
  ⟨(some 10), none, .fad 1 (.t 2)⟩,
  ⟨(some 11), none, .ld none (.t 10)⟩,
  ⟨(some 12), none, .fad 1 (.t 3)⟩,
  ⟨(some 13), none, .ld none (.t 12)⟩,
  ⟨(some 14), none, .call nCmpCompareInt [(.t 11), (.t 13)]⟩,
  ⟨(some 15), none, .bslice 1 2 [(.int .i64 0)] [(0, 1, (.t 9)), (1, 1, (.t 14))]⟩,
  ⟨(some 16), none, .call nCmpOrInt [(.t 15)]⟩,
  ⟨(some 4), none, .mv (.t 16)⟩]
def cGraphOrder : C := (.seq (.reg rGraphOrderX0 false [] [2, 3]) (.seq (.reg rGraphOrderX1 true [(9, 9), (10, 10), (11, 11), (12, 12), (1, 2), (0, 3), (1, 3), (1, 5), (3, 5), (4, 5), (0, 6), (1, 6), (2, 6), (3, 6), (4, 6), (1, 7), (3, 7), (4, 7), (6, 7), (0, 8), (1, 8), (2, 8), (3, 8), (4, 8), (5, 8), (6, 8)] [4]) .ret))
def qGraphOrder : AFn := ⟨17, 2, [.t 4], cGraphOrder⟩
/- slices.Compact[[]cohesion/api.Edge,cohesion/api.Edge] -/
def rSlicesCompactApiEdgeApiEdgeX0 : List O := [
  ⟨(some 2), none, .mv (.k (.own 2 []))⟩]
def rSlicesCompactApiEdgeApiEdgeX1 : List O := [
  ⟨(some 6), none, .mv (.t 0)⟩,
  ⟨(some 7), none, .len (.t 6)⟩,
  ⟨(some 8), none, .bin .lss (.t 7) (.k (.int .i64 2))⟩]
def rSlicesCompactApiEdgeApiEdgeX2 : List O := [
  ⟨(some 9), none, .mv (.t 0)⟩,
  ⟨(some 2), none, .mv (.t 9)⟩]
def rSlicesCompactApiEdgeApiEdgeX3 : List O := [
  ⟨(some 3), none, .mv (.k (.int .i64 1))⟩]
def rSlicesCompactApiEdgeApiEdgeX4 : List O := [
  ⟨(some 10), none, .mv (.t 3)⟩,
  ⟨(some 11), none, .mv (.t 0)⟩,
  ⟨(some 12), none, .len (.t 11)⟩,
  ⟨(some 13), none, .bin .lss (.t 10) (.t 12)⟩]
def rSlicesCompactApiEdgeApiEdgeX5 : List O := [
  ⟨(some 16), none, .mv (.t 0)⟩,
  ⟨(some 17), none, .mv (.t 3)⟩,
  ⟨(some 18), none, .ixa 2 (.t 16) (.t 17)⟩,
  ⟨(some 19), none, .ld (some 2) (.t 18)⟩,
  ⟨(some 20), none, .mv (.t 0)⟩,
  ⟨(some 21), none, .mv (.t 3)⟩,
  ⟨(some 22), none, .bin .sub (.t 21) (.k (.int .i64 1))⟩,
  ⟨(some 23), none, .ixa 2 (.t 20) (.t 22)⟩,
  ⟨(some 24), none, .ld (some 2) (.t 23)⟩,
  ⟨(some 25), none, .eq false (.str [true, true]) (.t 19) (.t 24)⟩]
def rSlicesCompactApiEdgeApiEdgeX6 : List O := [
  ⟨(some 26), none, .mv (.t 0)⟩,
  ⟨(some 27), none, .mv (.t 3)⟩,
  ⟨(some 28), none, .slc 2 (.t 26) (some (.t 27)) none⟩,
  ⟨(some 4), none, .mv (.t 28)⟩]
def rSlicesCompactApiEdgeApiEdgeX7 : List O := [
  ⟨(some 5), none, .mv (.k (.int .i64 1))⟩]
def rSlicesCompactApiEdgeApiEdgeX8 : List O := [
  ⟨(some 29), none, .mv (.t 5)⟩,
  ⟨(some 30), none, .mv (.t 4)⟩,
  ⟨(some 31), none, .len (.t 30)⟩,
  ⟨(some 32), none, .bin .lss (.t 29) (.t 31)⟩]
def rSlicesCompactApiEdgeApiEdgeX9 : List O := [
  ⟨(some 35), none, .mv (.t 4)⟩,
  ⟨(some 36), none, .mv (.t 5)⟩,
  ⟨(some 37), none, .ixa 2 (.t 35) (.t 36)⟩,
  ⟨(some 38), none, .ld (some 2) (.t 37)⟩,
  ⟨(some 39), none, .mv (.t 4)⟩,
  ⟨(some 40), none, .mv (.t 5)⟩,
  ⟨(some 41), none, .bin .sub (.t 40) (.k (.int .i64 1))⟩,
  ⟨(some 42), none, .ixa 2 (.t 39) (.t 41)⟩,
  ⟨(some 43), none, .ld (some 2) (.t 42)⟩,
  ⟨(some 44), none, .eq true (.str [true, true]) (.t 38) (.t 43)⟩]
def rSlicesCompactApiEdgeApiEdgeX10 : List O := [
  ⟨(some 45), none, .mv (.t 0)⟩,
  ⟨(some 46), none, .mv (.t 3)⟩,
  ⟨(some 47), none, .mv (.t 4)⟩,
  ⟨(some 48), none, .mv (.t 5)⟩,
  ⟨(some 49), none, .ixa 2 (.t 47) (.t 48)⟩,
  ⟨(some 50), none, .ld (some 2) (.t 49)⟩,
  ⟨(some 51), none, .ixa 2 (.t 45) (.t 46)⟩,
  ⟨none, none, .st 2 (.t 51) (.t 50)⟩]
def rSlicesCompactApiEdgeApiEdgeX11 : List O := [
  ⟨(some 52), none, .mv (.t 3)⟩,
  ⟨(some 53), none, .bin .add (.t 52) (.k (.int .i64 1))⟩,
  ⟨(some 3), none, .mv (.t 53)⟩]
def rSlicesCompactApiEdgeApiEdgeX12 : List O := [
  ⟨(some 33), none, .mv (.t 5)⟩,
  ⟨(some 34), none, .bin .add (.t 33) (.k (.int .i64 1))⟩,
  ⟨(some 5), none, .mv (.t 34)⟩]
def lSlicesCompactApiEdgeApiEdgeX0 : C := (.seq (.seq (.reg rSlicesCompactApiEdgeApiEdgeX8 false [] [0, 3, 4, 5, 32]) (.cond (.t 32) .skip (.exit 2))) (.seq (.blk 3 (.seq (.reg rSlicesCompactApiEdgeApiEdgeX9 true [(9, 9), (3, 4), (3, 5), (3, 6), (3, 7), (0, 8), (1, 8), (2, 8), (3, 8)] [0, 3, 4, 5, 44]) (.cond (.t 44) (.seq (.reg rSlicesCompactApiEdgeApiEdgeX10 false [] [0, 3, 4, 5]) (.reg rSlicesCompactApiEdgeApiEdgeX11 false [] [0, 3, 4, 5])) .skip))) (.reg rSlicesCompactApiEdgeApiEdgeX12 false [] [0, 3, 4, 5])))
def rSlicesCompactApiEdgeApiEdgeX13 : List O := [
  ⟨(some 54), none, .mv (.t 0)⟩,
  ⟨(some 55), none, .mv (.t 3)⟩,
  ⟨(some 56), none, .slc 2 (.t 54) (some (.t 55)) none⟩,
  ⟨none, none, .clr 2 [(.int .i64 0), (.int .i64 0)] (.t 56)⟩]
def rSlicesCompactApiEdgeApiEdgeX14 : List O := [
  ⟨(some 57), none, .mv (.t 0)⟩,
  ⟨(some 58), none, .mv (.t 3)⟩,
  ⟨(some 59), none, .slc 2 (.t 57) none (some (.t 58))⟩,
  ⟨(some 2), none, .mv (.t 59)⟩]
def rSlicesCompactApiEdgeApiEdgeX15 : List O := [
  ⟨(some 14), none, .mv (.t 3)⟩,
  ⟨(some 15), none, .bin .add (.t 14) (.k (.int .i64 1))⟩,
  ⟨(some 3), none, .mv (.t 15)⟩]
def lSlicesCompactApiEdgeApiEdgeX1 : C := (.seq (.seq (.reg rSlicesCompactApiEdgeApiEdgeX4 false [] [0, 3, 13]) (.cond (.t 13) .skip (.exit 0))) (.seq (.blk 1 (.seq (.reg rSlicesCompactApiEdgeApiEdgeX5 true [(9, 9), (3, 4), (3, 5), (3, 6), (3, 7), (0, 8), (1, 8), (2, 8), (3, 8)] [0, 3, 25]) (.cond (.t 25) (.seq (.reg rSlicesCompactApiEdgeApiEdgeX6 false [] [0, 3, 4]) (.seq (.seq (.reg rSlicesCompactApiEdgeApiEdgeX7 false [] [0, 3, 4, 5]) (.blk 2 (.loop lSlicesCompactApiEdgeApiEdgeX0))) (.seq (.reg rSlicesCompactApiEdgeApiEdgeX13 false [] [0, 3]) (.seq (.reg rSlicesCompactApiEdgeApiEdgeX14 false [] [2]) .ret)))) .skip))) (.reg rSlicesCompactApiEdgeApiEdgeX15 false [] [0, 3])))
def rSlicesCompactApiEdgeApiEdgeX16 : List O := [
  ⟨(some 60), none, .mv (.t 0)⟩,
  ⟨(some 2), none, .mv (.t 60)⟩]
def cSlicesCompactApiEdgeApiEdge : C := (.seq (.reg rSlicesCompactApiEdgeApiEdgeX0 false [] [0]) (.seq (.seq (.reg rSlicesCompactApiEdgeApiEdgeX1 false [] [0, 8]) (.cond (.t 8) (.seq (.reg rSlicesCompactApiEdgeApiEdgeX2 false [] [2]) .ret) .skip)) (.seq (.seq (.reg rSlicesCompactApiEdgeApiEdgeX3 false [] [0, 3]) (.blk 0 (.loop lSlicesCompactApiEdgeApiEdgeX1))) (.seq (.reg rSlicesCompactApiEdgeApiEdgeX16 false [] [2]) .ret))))
def qSlicesCompactApiEdgeApiEdge : AFn := ⟨61, 1, [.t 2], cSlicesCompactApiEdgeApiEdge⟩
/- cohesion/cohesionref03.SameEdges -/
def rRef03SameEdgesX0 : List O := [
  ⟨(some 4), none, .mv (.k (.bool false))⟩]
def rRef03SameEdgesX1 : List O := [
  ⟨(some 6), none, .mv (.t 0)⟩,
  ⟨(some 7), none, .len (.t 6)⟩,
  ⟨(some 8), none, .mv (.t 1)⟩,
  ⟨(some 9), none, .len (.t 8)⟩,
  ⟨(some 10), none, .bin .neq (.t 7) (.t 9)⟩]
def rRef03SameEdgesX2 : List O := [
  ⟨(some 4), none, .mv (.k (.bool false))⟩]
def rRef03SameEdgesX3 : List O := [
  ⟨(some 11), none, .mv (.t 0)⟩,
  ⟨(some 12), none, .len (.t 11)⟩,
  ⟨(some 13), none, .mv (.k (.int .i64 0))⟩]
def rRef03SameEdgesX4 : List O := [
  ⟨(some 14), none, .bin .lss (.t 13) (.t 12)⟩]
def rRef03SameEdgesX5 : List O := [
  ⟨(some 15), none, .mv (.t 13)⟩,
  ⟨(some 5), none, .mv (.t 15)⟩]
def rRef03SameEdgesX6 : List O := [
  ⟨(some 16), none, .mv (.t 0)⟩,
  ⟨(some 17), none, .mv (.t 5)⟩,
  ⟨(some 18), none, .ixa 2 (.t 16) (.t 17)⟩,
  ⟨(some 19), none, .ld (some 2) (.t 18)⟩,
  ⟨(some 20), none, .mv (.t 1)⟩,
  ⟨(some 21), none, .mv (.t 5)⟩,
  ⟨(some 22), none, .ixa 2 (.t 20) (.t 21)⟩,
  ⟨(some 23), none, .ld (some 2) (.t 22)⟩,
  ⟨(some 24), none, .eq true (.str [true, true]) (.t 19) (.t 23)⟩]
def rRef03SameEdgesX7 : List O := [
  ⟨(some 4), none, .mv (.k (.bool false))⟩]
def rRef03SameEdgesX8 : List O := [
  ⟨(some 25), none, .bin .add (.t 13) (.k (.int .i64 1))⟩,
  ⟨(some 13), none, .mv (.t 25)⟩]
def lRef03SameEdgesX0 : C := (.seq (.reg rRef03SameEdgesX4 false [] [0, 1, 12, 13, 14]) (.seq (.cond (.t 14) .skip (.exit 0)) (.seq (.blk 1 (.seq (.reg rRef03SameEdgesX5 false [] [0, 1, 5, 12, 13]) (.seq (.reg rRef03SameEdgesX6 true [(8, 8), (3, 4), (3, 5), (3, 6), (0, 7), (1, 7), (2, 7), (3, 7)] [0, 1, 12, 13, 24]) (.cond (.t 24) (.seq (.reg rRef03SameEdgesX7 false [] [4]) .ret) .skip)))) (.reg rRef03SameEdgesX8 false [] [0, 1, 12, 13]))))
def rRef03SameEdgesX9 : List O := [
  ⟨(some 4), none, .mv (.k (.bool true))⟩]
def cRef03SameEdges : C := (.seq (.reg rRef03SameEdgesX0 false [] [0, 1]) (.seq (.seq (.reg rRef03SameEdgesX1 false [] [0, 1, 10]) (.cond (.t 10) (.seq (.reg rRef03SameEdgesX2 false [] [4]) .ret) .skip)) (.seq (.seq (.reg rRef03SameEdgesX3 false [] [0, 1, 12, 13]) (.blk 0 (.loop lRef03SameEdgesX0))) (.seq (.reg rRef03SameEdgesX9 false [] [4]) .ret))))
def qRef03SameEdges : AFn := ⟨26, 2, [.t 4], cRef03SameEdges⟩
/- cohesion/cliques.each$1 -/
def rCliquesEach1X0 : List O := [
  ⟨(some 11), none, .mv (.k (.bool false))⟩]
def rCliquesEach1X1 : List O := [
  ⟨(some 18), none, .mv (.t 0)⟩,
  ⟨(some 19), none, .bin .eql (.t 18) (.k (.int .u64 0))⟩]
def rCliquesEach1X2 : List O := [
  ⟨(some 20), none, .mv (.t 1)⟩,
  ⟨(some 21), none, .bin .neq (.t 20) (.k (.int .u64 0))⟩,
  ⟨(some 22), none, .mv (.t 21)⟩,
  ⟨(some 23), (some (22, false)), .ld none (.t 3)⟩,
  ⟨(some 24), (some (22, false)), .len (.t 23)⟩,
  ⟨(some 25), (some (22, false)), .bin .eql (.t 24) (.k (.int .i64 0))⟩,
  ⟨(some 26), none, .pick (.t 22) (.k (.bool true)) (.t 25)⟩,
  ⟨(some 27), none, .mv (.t 26)⟩,
  ⟨(some 28), (some (27, false)), .mv (.t 2)⟩,
  ⟨(some 29), (some (27, false)), .mv (.t 28)⟩,
  ⟨(some 30), (some (29, true)), .ld none (.t 3)⟩,
  ⟨(some 31), (some (29, true)), .len (.t 30)⟩,
  ⟨(some 32), (some (29, true)), .ld none (.t 4)⟩,
  ⟨(some 33), (some (29, true)), .len (.t 32)⟩,
  ⟨(some 34), (some (29, true)), .bin .leq (.t 31) (.t 33)⟩,
  ⟨(some 35), (some (27, false)), .pick (.t 29) (.t 34) (.k (.bool false))⟩,
  ⟨(some 36), none, .pick (.t 27) (.k (.bool true)) (.t 35)⟩,
  ⟨(some 37), none, .mv (.t 36)⟩,
  ⟨(some 38), (some (37, false)), .ld none (.t 5)⟩,
  ⟨(some 39), (some (37, false)), .ld none (.t 3)⟩,
  ⟨(some 40), (some (37, false)), .call nSlicesCloneIntInt [(.t 39)]⟩,
  ⟨(some 41), (some (37, false)), .callv (.t 38) [(.t 40)]⟩,
  ⟨(some 42), none, .pick (.t 37) (.k (.bool true)) (.t 41)⟩,
  ⟨(some 11), none, .mv (.t 42)⟩]
def rCliquesEach1X3 : List O := [
  ⟨(some 43), none, .mv (.t 1)⟩,
  ⟨(some 12), none, .mv (.t 43)⟩]
def rCliquesEach1X4 : List O := [
  ⟨(some 44), none, .mv (.t 12)⟩,
  ⟨(some 45), none, .bin .neq (.t 44) (.k (.int .u64 0))⟩]
def rCliquesEach1X5 : List O := [
  ⟨(some 50), none, .mv (.t 0)⟩,
  ⟨(some 51), none, .ld none (.t 6)⟩,
  ⟨(some 52), none, .mv (.t 12)⟩,
  ⟨(some 53), none, .call nMathBitsTrailingZeros64 [(.t 52)]⟩,
  ⟨(some 54), none, .ixa 1 (.t 51) (.t 53)⟩,
  ⟨(some 55), none, .ld none (.t 54)⟩,
  ⟨(some 56), none, .bin .andNot (.t 50) (.t 55)⟩,
  ⟨(some 57), none, .bin .eql (.t 56) (.k (.int .u64 0))⟩]
def rCliquesEach1X6 : List O := [
  ⟨(some 11), none, .mv (.k (.bool true))⟩]
def rCliquesEach1X7 : List O := [
  ⟨(some 46), none, .mv (.t 12)⟩,
  ⟨(some 47), none, .mv (.t 12)⟩,
  ⟨(some 48), none, .bin .sub (.t 47) (.k (.int .u64 1))⟩,
  ⟨(some 49), none, .bin .and (.t 46) (.t 48)⟩,
  ⟨(some 12), none, .mv (.t 49)⟩]
def lCliquesEach1X0 : C := (.seq (.seq (.reg rCliquesEach1X4 false [] [0, 1, 2, 3, 4, 6, 7, 12, 45]) (.cond (.t 45) .skip (.exit 0))) (.seq (.blk 1 (.seq (.reg rCliquesEach1X5 true [(6, 6), (7, 7), (0, 1), (1, 2), (0, 3), (1, 3), (0, 5)] [0, 1, 2, 3, 4, 6, 7, 12, 57]) (.cond (.t 57) (.seq (.reg rCliquesEach1X6 false [] [11]) .ret) .skip))) (.reg rCliquesEach1X7 false [] [0, 1, 2, 3, 4, 6, 7, 12])))
def rCliquesEach1X8 : List O := [
  ⟨(some 58), none, .mv (.t 0)⟩,
  ⟨(some 13), none, .mv (.t 58)⟩]
def rCliquesEach1X9 : List O := [
  ⟨(some 59), none, .mv (.t 13)⟩,
  ⟨(some 60), none, .bin .neq (.t 59) (.k (.int .u64 0))⟩]
def rCliquesEach1X10 : List O := [
  ⟨(some 65), none, .mv (.t 13)⟩,
  ⟨(some 66), none, .call nMathBitsTrailingZeros64 [(.t 65)]⟩,
  ⟨(some 14), none, .mv (.t 66)⟩]
def rCliquesEach1X11 : List O := [
  ⟨(some 67), none, .mv (.t 2)⟩,
  ⟨(some 68), none, .mv (.t 67)⟩,
  ⟨(some 69), (some (68, true)), .ld none (.t 3)⟩,
  ⟨(some 70), (some (68, true)), .len (.t 69)⟩,
  ⟨(some 71), (some (68, true)), .ld none (.t 4)⟩,
  ⟨(some 72), (some (68, true)), .len (.t 71)⟩,
  ⟨(some 73), (some (68, true)), .bin .lss (.t 70) (.t 72)⟩,
  ⟨(some 74), none, .pick (.t 68) (.t 73) (.k (.bool false))⟩,
  ⟨(some 15), none, .mv (.t 74)⟩]
def rCliquesEach1X12 : List O := [
  ⟨(some 75), none, .mv (.t 15)⟩,
  ⟨(some 76), none, .mv (.t 75)⟩,
  ⟨(some 77), (some (76, true)), .mv (.t 14)⟩,
  ⟨(some 78), (some (76, true)), .ld none (.t 4)⟩,
  ⟨(some 79), (some (76, true)), .ld none (.t 3)⟩,
  ⟨(some 80), (some (76, true)), .len (.t 79)⟩,
  ⟨(some 81), (some (76, true)), .ixa 1 (.t 78) (.t 80)⟩,
  ⟨(some 82), (some (76, true)), .ld none (.t 81)⟩,
  ⟨(some 83), (some (76, true)), .bin .lss (.t 77) (.t 82)⟩,
  ⟨(some 84), none, .pick (.t 76) (.t 83) (.k (.bool false))⟩]
def rCliquesEach1X13 : List O := [
  ⟨(some 85), none, .mv (.t 15)⟩,
  ⟨(some 86), none, .mv (.t 85)⟩,
  ⟨(some 87), (some (86, true)), .mv (.t 14)⟩,
  ⟨(some 88), (some (86, true)), .ld none (.t 4)⟩,
  ⟨(some 89), (some (86, true)), .ld none (.t 3)⟩,
  ⟨(some 90), (some (86, true)), .len (.t 89)⟩,
  ⟨(some 91), (some (86, true)), .ixa 1 (.t 88) (.t 90)⟩,
  ⟨(some 92), (some (86, true)), .ld none (.t 91)⟩,
  ⟨(some 93), (some (86, true)), .bin .eql (.t 87) (.t 92)⟩,
  ⟨(some 94), none, .pick (.t 86) (.t 93) (.k (.bool false))⟩,
  ⟨(some 15), none, .mv (.t 94)⟩]
def rCliquesEach1X14 : List O := [
  ⟨(some 95), none, .ld none (.t 3)⟩,
  ⟨(some 96), none, .mv (.t 14)⟩,
  ⟨(some 97), none, .bslice 1 1 [(.int .i64 0)] [(0, 1, (.t 96))]⟩,
  ⟨(some 98), none, .app 1 (.t 95) (.t 97)⟩,
  ⟨none, none, .st 1 (.t 3) (.t 98)⟩]
def rCliquesEach1X15 : List O := [
  ⟨(some 99), none, .mv (.t 14)⟩,
  ⟨(some 100), none, .bin .shl (.k (.int .u64 1)) (.t 99)⟩,
  ⟨(some 101), none, .bin .sub (.t 100) (.k (.int .u64 1))⟩,
  ⟨(some 16), none, .mv (.t 101)⟩]
def rCliquesEach1X16 : List O := [
  ⟨(some 102), none, .ld none (.t 7)⟩,
  ⟨(some 103), none, .mv (.t 0)⟩,
  ⟨(some 104), none, .ld none (.t 6)⟩,
  ⟨(some 105), none, .mv (.t 14)⟩,
  ⟨(some 106), none, .ixa 1 (.t 104) (.t 105)⟩,
  ⟨(some 107), none, .ld none (.t 106)⟩,
  ⟨(some 108), none, .bin .and (.t 103) (.t 107)⟩,
  ⟨(some 109), none, .mv (.t 16)⟩,
  ⟨(some 110), none, .bin .andNot (.t 108) (.t 109)⟩,
  ⟨(some 111), none, .mv (.t 1)⟩,
  ⟨(some 112), none, .mv (.t 0)⟩,
  ⟨(some 113), none, .mv (.t 16)⟩,
  ⟨(some 114), none, .bin .and (.t 112) (.t 113)⟩,
  ⟨(some 115), none, .bin .or (.t 111) (.t 114)⟩,
  ⟨(some 116), none, .ld none (.t 6)⟩,
  ⟨(some 117), none, .mv (.t 14)⟩,
  ⟨(some 118), none, .ixa 1 (.t 116) (.t 117)⟩,
  ⟨(some 119), none, .ld none (.t 118)⟩,
  ⟨(some 120), none, .bin .and (.t 115) (.t 119)⟩,
  ⟨(some 121), none, .mv (.t 15)⟩,
  ⟨(some 122), none, .callv (.t 102) [(.t 110), (.t 120), (.t 121)]⟩,
  ⟨(some 17), none, .mv (.t 122)⟩]
def rCliquesEach1X17 : List O := [
  ⟨(some 123), none, .ld none (.t 3)⟩,
  ⟨(some 124), none, .ld none (.t 3)⟩,
  ⟨(some 125), none, .len (.t 124)⟩,
  ⟨(some 126), none, .bin .sub (.t 125) (.k (.int .i64 1))⟩,
  ⟨(some 127), none, .slc 1 (.t 123) none (some (.t 126))⟩,
  ⟨none, none, .st 1 (.t 3) (.t 127)⟩]
def rCliquesEach1X18 : List O := [
  ⟨(some 128), none, .mv (.t 17)⟩,
  ⟨(some 129), none, .un .not (.t 128)⟩]
def rCliquesEach1X19 : List O := [
  ⟨(some 11), none, .mv (.k (.bool false))⟩]
def rCliquesEach1X20 : List O := [
  ⟨(some 61), none, .mv (.t 13)⟩,
  ⟨(some 62), none, .mv (.t 13)⟩,
  ⟨(some 63), none, .bin .sub (.t 62) (.k (.int .u64 1))⟩,
  ⟨(some 64), none, .bin .and (.t 61) (.t 63)⟩,
  ⟨(some 13), none, .mv (.t 64)⟩]
def lCliquesEach1X1 : C := (.seq (.seq (.reg rCliquesEach1X9 false [] [0, 1, 2, 3, 4, 6, 7, 13, 60]) (.cond (.t 60) .skip (.exit 2))) (.seq (.blk 3 (.seq (.reg rCliquesEach1X10 false [] [0, 1, 2, 3, 4, 6, 7, 13, 14]) (.seq (.reg rCliquesEach1X11 false [] [0, 1, 2, 3, 4, 6, 7, 13, 14, 15]) (.seq (.seq (.reg rCliquesEach1X12 false [] [0, 1, 2, 3, 4, 6, 7, 13, 14, 15, 84]) (.cond (.t 84) (.exit 3) .skip)) (.seq (.reg rCliquesEach1X13 false [] [0, 1, 2, 3, 4, 6, 7, 13, 14, 15]) (.seq (.reg rCliquesEach1X14 false [] [0, 1, 2, 3, 4, 6, 7, 13, 14, 15]) (.seq (.reg rCliquesEach1X15 false [] [0, 1, 2, 3, 4, 6, 7, 13, 14, 15, 16]) (.seq (.reg rCliquesEach1X16 true [(20, 20), (21, 21), (0, 1), (0, 2), (1, 2), (0, 3), (2, 3), (0, 4), (0, 5), (1, 5), (0, 6), (0, 7), (2, 7), (5, 7), (0, 8), (0, 9), (2, 9), (5, 9), (0, 10), (2, 10), (5, 10), (0, 11), (2, 11), (5, 11), (0, 12), (2, 12), (5, 12), (0, 13), (2, 13), (5, 13), (0, 14), (1, 14), (2, 14), (3, 14), (4, 14), (5, 14), (6, 14), (7, 14), (8, 14), (9, 14), (10, 14), (11, 14), (12, 14), (13, 14), (0, 15), (2, 15), (5, 15), (14, 15), (0, 16), (2, 16), (5, 16), (0, 17), (1, 17), (2, 17), (3, 17), (4, 17), (5, 17), (6, 17), (7, 17), (8, 17), (9, 17), (10, 17), (11, 17), (12, 17), (13, 17), (0, 18), (2, 18), (5, 18), (0, 19), (2, 19), (5, 19), (14, 19), (17, 19)] [0, 1, 2, 3, 4, 6, 7, 13, 17]) (.seq (.reg rCliquesEach1X17 false [] [0, 1, 2, 3, 4, 6, 7, 13, 17]) (.seq (.reg rCliquesEach1X18 false [] [0, 1, 2, 3, 4, 6, 7, 13, 129]) (.cond (.t 129) (.seq (.reg rCliquesEach1X19 false [] [11]) .ret) .skip))))))))))) (.reg rCliquesEach1X20 false [] [0, 1, 2, 3, 4, 6, 7, 13])))
def rCliquesEach1X21 : List O := [
  ⟨(some 11), none, .mv (.k (.bool true))⟩]
def cCliquesEach1 : C := (.seq (.reg rCliquesEach1X0 false [] [0, 1, 2, 3, 4, 5, 6, 7]) (.seq (.seq (.reg rCliquesEach1X1 false [] [0, 1, 2, 3, 4, 5, 6, 7, 19]) (.cond (.t 19) (.seq (.reg rCliquesEach1X2 true [(0, 0), (1, 1), (2, 2), (3, 3), (4, 4), (5, 5), (6, 6), (7, 7), (8, 8), (9, 9), (14, 14), (15, 15), (16, 16), (17, 17), (21, 21), (22, 22), (23, 23), (10, 12), (11, 12), (10, 13), (18, 19), (18, 20)] [11]) .ret) .skip)) (.seq (.seq (.reg rCliquesEach1X3 false [] [0, 1, 2, 3, 4, 6, 7, 12]) (.blk 0 (.loop lCliquesEach1X0))) (.seq (.seq (.reg rCliquesEach1X8 false [] [0, 1, 2, 3, 4, 6, 7, 13]) (.blk 2 (.loop lCliquesEach1X1))) (.seq (.reg rCliquesEach1X21 false [] [11]) .ret)))))
def qCliquesEach1 : AFn := ⟨130, 3, [.t 11], cCliquesEach1⟩
/- cohesion/cliques.all -/
def rCliquesAllN77X0 : List O := [
  ⟨(some 2), none, .mv (.k (.int .u64 0))⟩]
def rCliquesAllN77X1 : List O := [
  ⟨(some 3), none, .mv (.t 0)⟩,
  ⟨(some 4), none, .bin .shl (.k (.int .u64 1)) (.t 3)⟩,
  ⟨(some 5), none, .bin .sub (.t 4) (.k (.int .u64 1))⟩,
  ⟨(some 2), none, .mv (.t 5)⟩]
def cCliquesAllN77 : C := (.seq (.reg rCliquesAllN77X0 false [] [0]) (.seq (.reg rCliquesAllN77X1 false [] [2]) .ret))
def qCliquesAllN77 : AFn := ⟨6, 1, [.t 2], cCliquesAllN77⟩
/- cohesion/cohesionref03.ends -/
def rRef03EndsX0 : List O := [
  ⟨(some 6), none, .mv (.k (.bool false))⟩]
def rRef03EndsX1 : List O := [
  ⟨(some 7), none, .mv (.t 1)⟩,
  ⟨(some 8), none, .bin .geq (.t 7) (.k (.int .i64 0))⟩,
  ⟨(some 9), none, .mv (.t 8)⟩,
  ⟨(some 10), (some (9, true)), .mv (.t 2)⟩,
  ⟨(some 11), (some (9, true)), .bin .geq (.t 10) (.k (.int .i64 0))⟩,
  ⟨(some 12), none, .pick (.t 9) (.t 11) (.k (.bool false))⟩,
  ⟨(some 13), none, .mv (.t 12)⟩,
  ⟨(some 14), (some (13, true)), .mv (.t 1)⟩,
  ⟨(some 15), (some (13, true)), .mv (.t 0)⟩,
  ⟨(some 16), (some (13, true)), .bin .lss (.t 14) (.t 15)⟩,
  ⟨(some 17), none, .pick (.t 13) (.t 16) (.k (.bool false))⟩,
  ⟨(some 18), none, .mv (.t 17)⟩,
  ⟨(some 19), (some (18, true)), .mv (.t 2)⟩,
  ⟨(some 20), (some (18, true)), .mv (.t 0)⟩,
  ⟨(some 21), (some (18, true)), .bin .lss (.t 19) (.t 20)⟩,
  ⟨(some 22), none, .pick (.t 18) (.t 21) (.k (.bool false))⟩,
  ⟨(some 23), none, .mv (.t 22)⟩,
  ⟨(some 24), (some (23, true)), .mv (.t 1)⟩,
  ⟨(some 25), (some (23, true)), .mv (.t 2)⟩,
  ⟨(some 26), (some (23, true)), .bin .neq (.t 24) (.t 25)⟩,
  ⟨(some 27), none, .pick (.t 23) (.t 26) (.k (.bool false))⟩,
  ⟨(some 6), none, .mv (.t 27)⟩]
def cRef03Ends : C := (.seq (.reg rRef03EndsX0 false [] [0, 1, 2]) (.seq (.reg rRef03EndsX1 false [] [6]) .ret))
def qRef03Ends : AFn := ⟨28, 3, [.t 6], cRef03Ends⟩
/- cohesion/cohesionref03.with -/
def rRef03WithX0 : List O := [
  ⟨(some 3), none, .box (.t 1)⟩,
  ⟨(some 4), none, .mv (.k (.own 2 []))⟩]
def rRef03WithX1 : List O := [
  ⟨(some 5), none, .mv (.k (.int .i64 0))⟩]
def rRef03WithX2 : List O := [
  ⟨(some 7), none, .mv (.t 5)⟩,
  ⟨(some 8), none, .mv (.t 0)⟩,
  ⟨(some 9), none, .len (.t 8)⟩,
  ⟨(some 10), none, .bin .lss (.t 7) (.t 9)⟩,
  ⟨(some 11), none, .mv (.t 10)⟩,
  ⟨(some 12), (some (11, true)), .mv (.t 0)⟩,
  ⟨(some 13), (some (11, true)), .mv (.t 5)⟩,
  ⟨(some 14), (some (11, true)), .ixa 2 (.t 12) (.t 13)⟩,
  ⟨(some 15), (some (11, true)), .ld (some 2) (.t 14)⟩,
  ⟨(some 16), (some (11, true)), .ld (some 2) (.t 3)⟩,
  ⟨(some 17), (some (11, true)), .call nRef03Before [(.t 15), (.t 16)]⟩,
  ⟨(some 18), none, .pick (.t 11) (.t 17) (.k (.bool false))⟩]
def rRef03WithX3 : List O := [
  ⟨(some 19), none, .mv (.t 5)⟩,
  ⟨(some 20), none, .bin .add (.t 19) (.k (.int .i64 1))⟩,
  ⟨(some 5), none, .mv (.t 20)⟩]
def lRef03WithX0 : C := (.seq (.seq (.reg rRef03WithX2 true [(3, 3), (4, 4), (10, 10), (11, 11), (5, 9), (6, 9), (7, 9), (8, 9)] [0, 3, 5, 18]) (.cond (.t 18) .skip (.exit 0))) (.blk 1 (.reg rRef03WithX3 false [] [0, 3, 5])))
def rRef03WithX4 : List O := [
  ⟨(some 21), none, .mv (.t 5)⟩,
  ⟨(some 22), none, .mv (.t 0)⟩,
  ⟨(some 23), none, .len (.t 22)⟩,
  ⟨(some 24), none, .bin .lss (.t 21) (.t 23)⟩,
  ⟨(some 25), none, .mv (.t 24)⟩,
  ⟨(some 26), (some (25, true)), .mv (.t 0)⟩,
  ⟨(some 27), (some (25, true)), .mv (.t 5)⟩,
  ⟨(some 28), (some (25, true)), .ixa 2 (.t 26) (.t 27)⟩,
  ⟨(some 29), (some (25, true)), .ld (some 2) (.t 28)⟩,
  ⟨(some 30), (some (25, true)), .ld (some 2) (.t 3)⟩,
  ⟨(some 31), (some (25, true)), .eq false (.str [true, true]) (.t 29) (.t 30)⟩,
  ⟨(some 32), none, .pick (.t 25) (.t 31) (.k (.bool false))⟩]
def rRef03WithX5 : List O := [
  ⟨(some 33), none, .mv (.t 0)⟩,
  ⟨(some 4), none, .mv (.t 33)⟩]
def rRef03WithX6 : List O := [
  ⟨(some 34), none, .mv (.t 0)⟩,
  ⟨(some 35), none, .mv (.t 5)⟩,
  ⟨(some 36), none, .slc 2 (.t 34) none (some (.t 35))⟩,
  ⟨(some 37), none, .app 2 (.k (.own 2 [])) (.t 36)⟩,
  ⟨(some 6), none, .mv (.t 37)⟩]
def rRef03WithX7 : List O := [
  ⟨(some 38), none, .mv (.t 6)⟩,
  ⟨(some 39), none, .ld (some 2) (.t 3)⟩,
  ⟨(some 40), none, .bslice 2 1 [(.int .i64 0), (.int .i64 0)] [(0, 2, (.t 39))]⟩,
  ⟨(some 41), none, .app 2 (.t 38) (.t 40)⟩,
  ⟨(some 42), none, .mv (.t 0)⟩,
  ⟨(some 43), none, .mv (.t 5)⟩,
  ⟨(some 44), none, .slc 2 (.t 42) (some (.t 43)) none⟩,
  ⟨(some 45), none, .app 2 (.t 41) (.t 44)⟩,
  ⟨(some 4), none, .mv (.t 45)⟩]
def cRef03With : C := (.seq (.reg rRef03WithX0 false [] [0, 3]) (.seq (.reg rRef03WithX1 false [] [0, 3, 5]) (.seq (.blk 0 (.loop lRef03WithX0)) (.seq (.seq (.reg rRef03WithX4 true [(3, 3), (4, 4), (10, 10), (11, 11), (5, 9), (6, 9), (7, 9), (8, 9)] [0, 3, 5, 32]) (.cond (.t 32) (.seq (.reg rRef03WithX5 false [] [4]) .ret) .skip)) (.seq (.reg rRef03WithX6 false [] [0, 3, 5, 6]) (.seq (.reg rRef03WithX7 true [(7, 7), (8, 8), (0, 1), (0, 2), (1, 4), (2, 4), (3, 4), (1, 5), (2, 5), (3, 5), (1, 6), (2, 6), (3, 6)] [4]) .ret))))))
def qRef03With : AFn := ⟨46, 2, [.t 4], cRef03With⟩
/- cohesion/cohesionref03.edge -/
def rRef03EdgeX0 : List O := [
  ⟨(some 4), none, .new [(.int .i64 0), (.int .i64 0)]⟩]
def rRef03EdgeX1 : List O := [
  ⟨(some 5), none, .mv (.t 0)⟩,
  ⟨(some 6), none, .mv (.t 1)⟩,
  ⟨(some 7), none, .min [(.t 5), (.t 6)]⟩,
  ⟨(some 8), none, .mv (.t 0)⟩,
  ⟨(some 9), none, .mv (.t 1)⟩,
  ⟨(some 10), none, .max [(.t 8), (.t 9)]⟩,
  ⟨(some 11), none, .build [(.int .i64 0), (.int .i64 0)] [(0, 1, (.t 7)), (1, 1, (.t 10))]⟩,
  ⟨none, none, .st 2 (.t 4) (.t 11)⟩]
def cRef03Edge : C := (.seq (.reg rRef03EdgeX0 false [] [0, 1, 4]) (.seq (.reg rRef03EdgeX1 false [] [4]) .ret))
def qRef03Edge : AFn := ⟨12, 2, [.c 4 (some 2)], cRef03Edge⟩
/- cohesion/cohesionref03.Before -/
def rRef03BeforeX0 : List O := [
  ⟨(some 2), none, .box (.t 0)⟩,
  ⟨(some 3), none, .box (.t 1)⟩,
  ⟨(some 4), none, .mv (.k (.bool false))⟩]
def rRef03BeforeX1 : List O := [
  ⟨(some 5), none, .fad 0 (.t 2)⟩,
  ⟨(some 6), none, .ld none (.t 5)⟩,
  ⟨(some 7), none, .fad 0 (.t 3)⟩,
  ⟨(some 8), none, .ld none (.t 7)⟩,
  ⟨(some 9), none, .bin .lss (.t 6) (.t 8)⟩,
  ⟨(some 10), none, .mv (.t 9)⟩,
  ⟨(some 11), (some (10, false)), .fad 0 (.t 2)⟩,
  ⟨(some 12), (some (10, false)), .ld none (.t 11)⟩,
  ⟨(some 13), (some (10, false)), .fad 0 (.t 3)⟩,
  ⟨(some 14), (some (10, false)), .ld none (.t 13)⟩,
  ⟨(some 15), (some (10, false)), .bin .eql (.t 12) (.t 14)⟩,
  ⟨(some 16), (some (10, false)), .mv (.t 15)⟩,
  ⟨(some 17), (some (16, true)), .fad 1 (.t 2)⟩,
  ⟨(some 18), (some (16, true)), .ld none (.t 17)⟩,
  ⟨(some 19), (some (16, true)), .fad 1 (.t 3)⟩,
  ⟨(some 20), (some (16, true)), .ld none (.t 19)⟩,
  ⟨(some 21), (some (16, true)), .bin .lss (.t 18) (.t 20)⟩,
  ⟨(some 22), (some (10, false)), .pick (.t 16) (.t 21) (.k (.bool false))⟩,
  ⟨(some 23), none, .pick (.t 10) (.k (.bool true)) (.t 22)⟩,
  ⟨(some 4), none, .mv (.t 23)⟩]
def cRef03Before : C := (.seq (.reg rRef03BeforeX0 false [] [2, 3]) (.seq (.reg rRef03BeforeX1 false [] [4]) .ret))
def qRef03Before : AFn := ⟨24, 2, [.t 4], cRef03Before⟩
/- cohesion/cohesionref24.grow -/
def rRef24GrowX0 : List O := [
  ⟨(some 5), none, .box (.t 0)⟩,
  ⟨(some 10), none, .mv (.k (.own 1 []))⟩]
def rRef24GrowX1 : List O := [
  ⟨(some 13), none, .mv (.t 2)⟩,
  ⟨(some 11), none, .mv (.t 13)⟩]
def rRef24GrowX2 : List O := [
  ⟨(some 14), none, .mv (.t 11)⟩,
  ⟨(some 15), none, .fad 0 (.t 5)⟩,
  ⟨(some 16), none, .ld none (.t 15)⟩,
  ⟨(some 17), none, .bin .lss (.t 14) (.t 16)⟩]
def rRef24GrowX3 : List O := [
  ⟨(some 20), none, .mv (.t 3)⟩,
  ⟨(some 21), none, .len (.t 20)⟩,
  ⟨(some 22), none, .mv (.t 4)⟩,
  ⟨(some 23), none, .bin .leq (.t 21) (.t 22)⟩,
  ⟨(some 24), none, .mv (.t 23)⟩,
  ⟨(some 25), (some (24, true)), .ld (some 2) (.t 5)⟩,
  ⟨(some 26), (some (24, true)), .mv (.t 1)⟩,
  ⟨(some 27), (some (24, true)), .mv (.t 11)⟩,
  ⟨(some 28), (some (24, true)), .call nRef24Fits [(.t 25), (.t 26), (.t 27)]⟩,
  ⟨(some 29), none, .pick (.t 24) (.t 28) (.k (.bool false))⟩]
def rRef24GrowX4 : List O := [
  ⟨(some 30), none, .mv (.t 1)⟩,
  ⟨(some 31), none, .app 1 (.k (.own 1 [])) (.t 30)⟩,
  ⟨(some 32), none, .mv (.t 11)⟩,
  ⟨(some 33), none, .bslice 1 1 [(.int .i64 0)] [(0, 1, (.t 32))]⟩,
  ⟨(some 34), none, .app 1 (.t 31) (.t 33)⟩,
  ⟨(some 12), none, .mv (.t 34)⟩]
def rRef24GrowX5 : List O := [
  ⟨(some 35), none, .ld (some 2) (.t 5)⟩,
  ⟨(some 36), none, .mv (.t 12)⟩,
  ⟨(some 37), none, .call nRef24Maximal [(.t 35), (.t 36)]⟩]
def rRef24GrowX6 : List O := [
  ⟨(some 38), none, .mv (.t 3)⟩,
  ⟨(some 39), none, .mv (.t 12)⟩,
  ⟨(some 40), none, .bslice 1 1 [(.own 1 [])] [(0, 1, (.t 39))]⟩,
  ⟨(some 41), none, .app 1 (.t 38) (.t 40)⟩,
  ⟨(some 3), none, .mv (.t 41)⟩]
def rRef24GrowX7 : List O := [
  ⟨(some 42), none, .ld (some 2) (.t 5)⟩,
  ⟨(some 43), none, .mv (.t 12)⟩,
  ⟨(some 44), none, .mv (.t 11)⟩,
  ⟨(some 45), none, .bin .add (.t 44) (.k (.int .i64 1))⟩,
  ⟨(some 46), none, .mv (.t 3)⟩,
  ⟨(some 47), none, .mv (.t 4)⟩,
  ⟨(some 48), none, .call nRef24Grow [(.t 42), (.t 43), (.t 45), (.t 46), (.t 47)]⟩,
  ⟨(some 3), none, .mv (.t 48)⟩]
def rRef24GrowX8 : List O := [
  ⟨(some 18), none, .mv (.t 11)⟩,
  ⟨(some 19), none, .bin .add (.t 18) (.k (.int .i64 1))⟩,
  ⟨(some 11), none, .mv (.t 19)⟩]
def lRef24GrowX0 : C := (.seq (.seq (.reg rRef24GrowX2 false [] [1, 3, 4, 5, 11, 17]) (.cond (.t 17) .skip (.exit 0))) (.seq (.blk 1 (.seq (.reg rRef24GrowX3 false [] [1, 3, 4, 5, 11, 29]) (.cond (.t 29) (.seq (.reg rRef24GrowX4 false [] [1, 3, 4, 5, 11, 12]) (.seq (.reg rRef24GrowX5 false [] [1, 3, 4, 5, 11, 12, 37]) (.cond (.t 37) (.reg rRef24GrowX6 false [] [1, 3, 4, 5, 11]) (.reg rRef24GrowX7 false [] [1, 3, 4, 5, 11])))) .skip))) (.reg rRef24GrowX8 false [] [1, 3, 4, 5, 11])))
def rRef24GrowX9 : List O := [
  ⟨(some 49), none, .mv (.t 3)⟩,
  ⟨(some 10), none, .mv (.t 49)⟩]
def cRef24Grow : C := (.seq (.reg rRef24GrowX0 false [] [1, 2, 3, 4, 5]) (.seq (.seq (.reg rRef24GrowX1 false [] [1, 3, 4, 5, 11]) (.blk 0 (.loop lRef24GrowX0))) (.seq (.reg rRef24GrowX9 false [] [10]) .ret)))
def qRef24Grow : AFn := ⟨50, 5, [.t 10], cRef24Grow⟩
/- cohesion/masks.Of -/
def rMasksOfX0 : List O := [
  ⟨(some 2), none, .mv (.k (.int .u64 0))⟩]
def rMasksOfX1 : List O := [
  ⟨(some 3), none, .mv (.k (.int .u64 0))⟩]
def rMasksOfX2 : List O := [
  ⟨(some 6), none, .mv (.t 0)⟩,
  ⟨(some 7), none, .len (.t 6)⟩,
  ⟨(some 8), none, .mv (.k (.int .i64 0))⟩]
def rMasksOfX3 : List O := [
  ⟨(some 9), none, .bin .lss (.t 8) (.t 7)⟩]
def rMasksOfX4 : List O := [
  ⟨(some 10), none, .ixa 1 (.t 6) (.t 8)⟩,
  ⟨(some 11), none, .ld none (.t 10)⟩,
  ⟨(some 5), none, .mv (.t 11)⟩]
def rMasksOfX5 : List O := [
  ⟨(some 12), none, .mv (.t 3)⟩,
  ⟨(some 13), none, .mv (.t 5)⟩,
  ⟨(some 14), none, .call nMasksBit [(.t 13)]⟩,
  ⟨(some 15), none, .bin .or (.t 12) (.t 14)⟩,
  ⟨(some 3), none, .mv (.t 15)⟩]
def rMasksOfX6 : List O := [
  ⟨(some 16), none, .bin .add (.t 8) (.k (.int .i64 1))⟩,
  ⟨(some 8), none, .mv (.t 16)⟩]
def lMasksOfX0 : C := (.seq (.reg rMasksOfX3 false [] [3, 6, 7, 8, 9]) (.seq (.cond (.t 9) .skip (.exit 0)) (.seq (.blk 1 (.seq (.reg rMasksOfX4 false [] [3, 5, 6, 7, 8]) (.reg rMasksOfX5 false [] [3, 6, 7, 8]))) (.reg rMasksOfX6 false [] [3, 6, 7, 8]))))
def rMasksOfX7 : List O := [
  ⟨(some 17), none, .mv (.t 3)⟩,
  ⟨(some 2), none, .mv (.t 17)⟩]
def cMasksOf : C := (.seq (.reg rMasksOfX0 false [] [0]) (.seq (.reg rMasksOfX1 false [] [0, 3]) (.seq (.seq (.reg rMasksOfX2 false [] [3, 6, 7, 8]) (.blk 0 (.loop lMasksOfX0))) (.seq (.reg rMasksOfX7 false [] [2]) .ret))))
def qMasksOf : AFn := ⟨18, 1, [.t 2], cMasksOf⟩
/- cohesion/masks.Bit -/
def rMasksBitX0 : List O := [
  ⟨(some 2), none, .mv (.k (.int .u64 0))⟩]
def rMasksBitX1 : List O := [
  ⟨(some 3), none, .mv (.t 0)⟩,
  ⟨(some 4), none, .bin .lss (.t 3) (.k (.int .i64 0))⟩,
  ⟨(some 5), none, .mv (.t 4)⟩,
  ⟨(some 6), (some (5, false)), .mv (.t 0)⟩,
  ⟨(some 7), (some (5, false)), .bin .geq (.t 6) (.k (.int .i64 64))⟩,
  ⟨(some 8), none, .pick (.t 5) (.k (.bool true)) (.t 7)⟩]
def rMasksBitX2 : List O := [
  ⟨(some 2), none, .mv (.k (.int .u64 0))⟩]
def rMasksBitX3 : List O := [
  ⟨(some 9), none, .mv (.t 0)⟩,
  ⟨(some 10), none, .bin .shl (.k (.int .u64 1)) (.t 9)⟩,
  ⟨(some 2), none, .mv (.t 10)⟩]
def cMasksBit : C := (.seq (.reg rMasksBitX0 false [] [0]) (.seq (.seq (.reg rMasksBitX1 false [] [0, 8]) (.cond (.t 8) (.seq (.reg rMasksBitX2 false [] [2]) .ret) .skip)) (.seq (.reg rMasksBitX3 false [] [2]) .ret)))
def qMasksBit : AFn := ⟨11, 1, [.t 2], cMasksBit⟩
/- slices.BinarySearchFunc[[]cohesion/api.Edge,cohesion/api.Edge,cohesion/api.Edge] -/
def rSlicesBinarySearchFuncApiEdgeApiEdgeApiEdgeX0 : List O := [
  ⟨(some 4), none, .box (.t 1)⟩,
  ⟨(some 6), none, .mv (.k (.int .i64 0))⟩,
  ⟨(some 7), none, .mv (.k (.bool false))⟩]
def rSlicesBinarySearchFuncApiEdgeApiEdgeApiEdgeX1 : List O := [
  ⟨(some 12), none, .mv (.t 0)⟩,
  ⟨(some 13), none, .len (.t 12)⟩,
  ⟨(some 8), none, .mv (.t 13)⟩]
def rSlicesBinarySearchFuncApiEdgeApiEdgeApiEdgeX2 : List O := [
  ⟨(some 14), none, .mv (.t 8)⟩,
  ⟨(some 9), none, .mv (.k (.int .i64 0))⟩,
  ⟨(some 10), none, .mv (.t 14)⟩]
def rSlicesBinarySearchFuncApiEdgeApiEdgeApiEdgeX3 : List O := [
  ⟨(some 15), none, .mv (.t 9)⟩,
  ⟨(some 16), none, .mv (.t 10)⟩,
  ⟨(some 17), none, .bin .lss (.t 15) (.t 16)⟩]
def rSlicesBinarySearchFuncApiEdgeApiEdgeApiEdgeX4 : List O := [
  ⟨(some 18), none, .mv (.t 9)⟩,
  ⟨(some 19), none, .mv (.t 10)⟩,
  ⟨(some 20), none, .bin .add (.t 18) (.t 19)⟩,
  ⟨(some 21), none, .cvt .u64 (.t 20)⟩,
  ⟨(some 22), none, .bin .shr (.t 21) (.k (.int .u64 1))⟩,
  ⟨(some 23), none, .cvt .i64 (.t 22)⟩,
  ⟨(some 11), none, .mv (.t 23)⟩]
def rSlicesBinarySearchFuncApiEdgeApiEdgeApiEdgeX5 : List O := [
  ⟨(some 24), none, .mv (.t 2)⟩,
  ⟨(some 25), none, .mv (.t 0)⟩,
  ⟨(some 26), none, .mv (.t 11)⟩,
  ⟨(some 27), none, .ixa 2 (.t 25) (.t 26)⟩,
  ⟨(some 28), none, .ld (some 2) (.t 27)⟩,
  ⟨(some 29), none, .ld (some 2) (.t 4)⟩,
  ⟨(some 30), none, .callv (.t 24) [(.t 28), (.t 29)]⟩,
  ⟨(some 31), none, .bin .lss (.t 30) (.k (.int .i64 0))⟩]
def rSlicesBinarySearchFuncApiEdgeApiEdgeApiEdgeX6 : List O := [
  ⟨(some 32), none, .mv (.t 11)⟩,
  ⟨(some 33), none, .bin .add (.t 32) (.k (.int .i64 1))⟩,
  ⟨(some 9), none, .mv (.t 33)⟩]
def rSlicesBinarySearchFuncApiEdgeApiEdgeApiEdgeX7 : List O := [
  ⟨(some 34), none, .mv (.t 11)⟩,
  ⟨(some 10), none, .mv (.t 34)⟩]
def lSlicesBinarySearchFuncApiEdgeApiEdgeApiEdgeX0 : C := (.seq (.seq (.reg rSlicesBinarySearchFuncApiEdgeApiEdgeApiEdgeX3 false [] [0, 2, 4, 8, 9, 10, 17]) (.cond (.t 17) .skip (.exit 0))) (.blk 1 (.seq (.reg rSlicesBinarySearchFuncApiEdgeApiEdgeApiEdgeX4 false [] [0, 2, 4, 8, 9, 10, 11]) (.seq (.reg rSlicesBinarySearchFuncApiEdgeApiEdgeApiEdgeX5 true [(6, 6), (7, 7), (0, 4), (0, 5), (1, 5), (2, 5), (3, 5), (4, 5)] [0, 2, 4, 8, 9, 10, 11, 31]) (.cond (.t 31) (.reg rSlicesBinarySearchFuncApiEdgeApiEdgeApiEdgeX6 false [] [0, 2, 4, 8, 9, 10]) (.reg rSlicesBinarySearchFuncApiEdgeApiEdgeApiEdgeX7 false [] [0, 2, 4, 8, 9, 10]))))))
def rSlicesBinarySearchFuncApiEdgeApiEdgeApiEdgeX8 : List O := [
  ⟨(some 35), none, .mv (.t 9)⟩,
  ⟨(some 36), none, .mv (.t 9)⟩,
  ⟨(some 37), none, .mv (.t 8)⟩,
  ⟨(some 38), none, .bin .lss (.t 36) (.t 37)⟩,
  ⟨(some 39), none, .mv (.t 38)⟩,
  ⟨(some 40), (some (39, true)), .mv (.t 2)⟩,
  ⟨(some 41), (some (39, true)), .mv (.t 0)⟩,
  ⟨(some 42), (some (39, true)), .mv (.t 9)⟩,
  ⟨(some 43), (some (39, true)), .ixa 2 (.t 41) (.t 42)⟩,
  ⟨(some 44), (some (39, true)), .ld (some 2) (.t 43)⟩,
  ⟨(some 45), (some (39, true)), .ld (some 2) (.t 4)⟩,
  ⟨(some 46), (some (39, true)), .callv (.t 40) [(.t 44), (.t 45)]⟩,
  ⟨(some 47), (some (39, true)), .bin .eql (.t 46) (.k (.int .i64 0))⟩,
  ⟨(some 48), none, .pick (.t 39) (.t 47) (.k (.bool false))⟩,
  ⟨(some 6), none, .mv (.t 35)⟩,
  ⟨(some 7), none, .mv (.t 48)⟩]
def cSlicesBinarySearchFuncApiEdgeApiEdgeApiEdge : C := (.seq (.reg rSlicesBinarySearchFuncApiEdgeApiEdgeApiEdgeX0 false [] [0, 2, 4]) (.seq (.reg rSlicesBinarySearchFuncApiEdgeApiEdgeApiEdgeX1 false [] [0, 2, 4, 8]) (.seq (.reg rSlicesBinarySearchFuncApiEdgeApiEdgeApiEdgeX2 false [] [0, 2, 4, 8, 9, 10]) (.seq (.blk 0 (.loop lSlicesBinarySearchFuncApiEdgeApiEdgeApiEdgeX0)) (.seq (.reg rSlicesBinarySearchFuncApiEdgeApiEdgeApiEdgeX8 true [(15, 15), (0, 9), (5, 9), (0, 10), (5, 10), (6, 10), (7, 10), (8, 10), (9, 10), (0, 11)] [6, 7]) .ret)))))
def qSlicesBinarySearchFuncApiEdgeApiEdgeApiEdge : AFn := ⟨49, 3, [.t 6, .t 7], cSlicesBinarySearchFuncApiEdgeApiEdgeApiEdge⟩
/- cmp.Or[int] -/
def rCmpOrIntX0 : List O := [
  ⟨(some 2), none, .mv (.k (.int .i64 0))⟩]
def rCmpOrIntX1 : List O := [
  ⟨(some 3), none, .mv (.k (.int .i64 0))⟩]
def rCmpOrIntX2 : List O := [
  ⟨(some 6), none, .mv (.t 0)⟩,
  ⟨(some 7), none, .len (.t 6)⟩,
  ⟨(some 8), none, .mv (.k (.int .i64 0))⟩]
def rCmpOrIntX3 : List O := [
  ⟨(some 9), none, .bin .lss (.t 8) (.t 7)⟩]
def rCmpOrIntX4 : List O := [
  ⟨(some 10), none, .ixa 1 (.t 6) (.t 8)⟩,
  ⟨(some 11), none, .ld none (.t 10)⟩,
  ⟨(some 5), none, .mv (.t 11)⟩]
def rCmpOrIntX5 : List O := [
  ⟨(some 12), none, .mv (.t 5)⟩,
  ⟨(some 13), none, .mv (.t 3)⟩,
  ⟨(some 14), none, .bin .neq (.t 12) (.t 13)⟩]
def rCmpOrIntX6 : List O := [
  ⟨(some 15), none, .mv (.t 5)⟩,
  ⟨(some 2), none, .mv (.t 15)⟩]
def rCmpOrIntX7 : List O := [
  ⟨(some 16), none, .bin .add (.t 8) (.k (.int .i64 1))⟩,
  ⟨(some 8), none, .mv (.t 16)⟩]
def lCmpOrIntX0 : C := (.seq (.reg rCmpOrIntX3 false [] [3, 6, 7, 8, 9]) (.seq (.cond (.t 9) .skip (.exit 0)) (.seq (.blk 1 (.seq (.reg rCmpOrIntX4 false [] [3, 5, 6, 7, 8]) (.seq (.reg rCmpOrIntX5 false [] [3, 5, 6, 7, 8, 14]) (.cond (.t 14) (.seq (.reg rCmpOrIntX6 false [] [2]) .ret) .skip)))) (.reg rCmpOrIntX7 false [] [3, 6, 7, 8]))))
def rCmpOrIntX8 : List O := [
  ⟨(some 17), none, .mv (.t 3)⟩,
  ⟨(some 2), none, .mv (.t 17)⟩]
def cCmpOrInt : C := (.seq (.reg rCmpOrIntX0 false [] [0]) (.seq (.reg rCmpOrIntX1 false [] [0, 3]) (.seq (.seq (.reg rCmpOrIntX2 false [] [3, 6, 7, 8]) (.blk 0 (.loop lCmpOrIntX0))) (.seq (.reg rCmpOrIntX8 false [] [2]) .ret))))
def qCmpOrInt : AFn := ⟨18, 1, [.t 2], cCmpOrInt⟩
/- cmp.Compare[int] -/
def rCmpCompareIntX0 : List O := [
  ⟨(some 4), none, .mv (.k (.int .i64 0))⟩]
def rCmpCompareIntX1 : List O := [
  ⟨(some 7), none, .mv (.t 0)⟩,
  ⟨(some 8), none, .call nCmpIsNaNInt [(.t 7)]⟩,
  ⟨(some 5), none, .mv (.t 8)⟩]
def rCmpCompareIntX2 : List O := [
  ⟨(some 9), none, .mv (.t 1)⟩,
  ⟨(some 10), none, .call nCmpIsNaNInt [(.t 9)]⟩,
  ⟨(some 6), none, .mv (.t 10)⟩]
def rCmpCompareIntX3 : List O := [
  ⟨(some 11), none, .mv (.t 5)⟩]
def rCmpCompareIntX4 : List O := [
  ⟨(some 12), none, .mv (.t 6)⟩]
def rCmpCompareIntX5 : List O := [
  ⟨(some 4), none, .mv (.k (.int .i64 0))⟩]
def rCmpCompareIntX6 : List O := [
  ⟨(some 4), none, .mv (.k (.int .i64 (-1)))⟩]
def rCmpCompareIntX7 : List O := [
  ⟨(some 13), none, .mv (.t 6)⟩]
def rCmpCompareIntX8 : List O := [
  ⟨(some 4), none, .mv (.k (.int .i64 1))⟩]
def rCmpCompareIntX9 : List O := [
  ⟨(some 14), none, .mv (.t 0)⟩,
  ⟨(some 15), none, .mv (.t 1)⟩,
  ⟨(some 16), none, .bin .lss (.t 14) (.t 15)⟩]
def rCmpCompareIntX10 : List O := [
  ⟨(some 4), none, .mv (.k (.int .i64 (-1)))⟩]
def rCmpCompareIntX11 : List O := [
  ⟨(some 17), none, .mv (.t 0)⟩,
  ⟨(some 18), none, .mv (.t 1)⟩,
  ⟨(some 19), none, .bin .gtr (.t 17) (.t 18)⟩]
def rCmpCompareIntX12 : List O := [
  ⟨(some 4), none, .mv (.k (.int .i64 1))⟩]
def rCmpCompareIntX13 : List O := [
  ⟨(some 4), none, .mv (.k (.int .i64 0))⟩]
def cCmpCompareInt : C := (.seq (.reg rCmpCompareIntX0 false [] [0, 1]) (.seq (.reg rCmpCompareIntX1 false [] [0, 1, 5]) (.seq (.reg rCmpCompareIntX2 false [] [0, 1, 5, 6]) (.seq (.seq (.reg rCmpCompareIntX3 false [] [0, 1, 6, 11]) (.cond (.t 11) (.seq (.seq (.reg rCmpCompareIntX4 false [] [12]) (.cond (.t 12) (.seq (.reg rCmpCompareIntX5 false [] [4]) .ret) .skip)) (.seq (.reg rCmpCompareIntX6 false [] [4]) .ret)) .skip)) (.seq (.seq (.reg rCmpCompareIntX7 false [] [0, 1, 13]) (.cond (.t 13) (.seq (.reg rCmpCompareIntX8 false [] [4]) .ret) .skip)) (.seq (.seq (.reg rCmpCompareIntX9 false [] [0, 1, 16]) (.cond (.t 16) (.seq (.reg rCmpCompareIntX10 false [] [4]) .ret) .skip)) (.seq (.seq (.reg rCmpCompareIntX11 false [] [19]) (.cond (.t 19) (.seq (.reg rCmpCompareIntX12 false [] [4]) .ret) .skip)) (.seq (.reg rCmpCompareIntX13 false [] [4]) .ret))))))))
def qCmpCompareInt : AFn := ⟨20, 2, [.t 4], cCmpCompareInt⟩
/- cmp.isNaN[int] -/
def rCmpIsNaNIntX0 : List O := [
  ⟨(some 2), none, .mv (.k (.bool false))⟩]
def rCmpIsNaNIntX1 : List O := [
  ⟨(some 3), none, .mv (.t 0)⟩,
  ⟨(some 4), none, .mv (.t 0)⟩,
  ⟨(some 5), none, .bin .neq (.t 3) (.t 4)⟩,
  ⟨(some 2), none, .mv (.t 5)⟩]
def cCmpIsNaNInt : C := (.seq (.reg rCmpIsNaNIntX0 false [] [0]) (.seq (.reg rCmpIsNaNIntX1 false [] [2]) .ret))
def qCmpIsNaNInt : AFn := ⟨6, 1, [.t 2], cCmpIsNaNInt⟩
abbrev Md := Go.Bm.Md
abbrev Cfg := Go.Bm.Cfg
def look : List (Nat × Md × AFn) → Nat → Option (Md × AFn)
  | [], _ => none
  | (j, m, q) :: r, i => if i = j then some (m, q) else look r i
def fns : List (Nat × Md × AFn) := [
  (nLaw24CliquesTurns, ⟨false, false, true⟩, qLaw24CliquesTurns),
  (nLaw24CliquesNames, ⟨false, false, true⟩, qLaw24CliquesNames),
  (nLaw24CliquesGoes, ⟨false, false, true⟩, qLaw24CliquesGoes),
  (nLaw24CliquesAnswers, ⟨false, false, true⟩, qLaw24CliquesAnswers),
  (nLaw24CliquesParts, ⟨false, false, true⟩, qLaw24CliquesParts),
  (nLaw24CliquesEdges, ⟨false, false, true⟩, qLaw24CliquesEdges),
  (nLaw24CliquesCover, ⟨false, false, true⟩, qLaw24CliquesCover),
  (nCliquesAll, ⟨false, false, false⟩, qCliquesAll),
  (nLaw24Awake, ⟨false, false, true⟩, qLaw24Awake),
  (nMakeFew, ⟨false, false, true⟩, qMakeFew),
  (nMakeNew, ⟨true, false, false⟩, qMakeNew),
  (nMakeGraph, ⟨true, false, false⟩, qMakeGraph),
  (nMakeOrder, ⟨true, false, false⟩, qMakeOrder),
  (nFieldRenamed, ⟨false, false, false⟩, qFieldRenamed),
  (nRef02Cmp, ⟨false, false, true⟩, qRef02Cmp),
  (nRef02Of, ⟨false, false, false⟩, qRef02Of),
  (nCliquesNext, ⟨false, false, false⟩, qCliquesNext),
  (nCliquesCheck, ⟨false, false, true⟩, qCliquesCheck),
  (nMakeDeckNext, ⟨true, false, false⟩, qMakeDeckNext),
  (nMakeLight, ⟨false, false, true⟩, qMakeLight),
  (nMakeSpoilt, ⟨true, false, false⟩, qMakeSpoilt),
  (nMakeSet, ⟨true, false, false⟩, qMakeSet),
  (nCliquesExtend, ⟨false, false, false⟩, qCliquesExtend),
  (nRef24Extend, ⟨false, false, false⟩, qRef24Extend),
  (nRef24Next, ⟨false, false, false⟩, qRef24Next),
  (nCliquesIs, ⟨false, false, true⟩, qCliquesIs),
  (nRef24Is, ⟨false, false, true⟩, qRef24Is),
  (nCliquesMaximal, ⟨false, false, true⟩, qCliquesMaximal),
  (nRef24Maximal, ⟨false, false, true⟩, qRef24Maximal),
  (nRef24All, ⟨false, false, false⟩, qRef24All),
  (nRef24Same, ⟨false, false, true⟩, qRef24Same),
  (nRef24Check, ⟨false, false, true⟩, qRef24Check),
  (nGraphInduced, ⟨false, false, false⟩, qGraphInduced),
  (nRef02Within, ⟨false, false, true⟩, qRef02Within),
  (nRef02Minus, ⟨false, false, false⟩, qRef02Minus),
  (nRef02Union, ⟨false, false, false⟩, qRef02Union),
  (nGraphAdd, ⟨false, false, false⟩, qGraphAdd),
  (nRef02Has, ⟨false, false, true⟩, qRef02Has),
  (nGraphOf, ⟨false, false, false⟩, qGraphOf),
  (nRef03Same, ⟨false, false, true⟩, qRef03Same),
  (nRef02Range, ⟨false, false, false⟩, qRef02Range),
  (nGraphCheck, ⟨false, false, true⟩, qGraphCheck),
  (nCliquesEach, ⟨true, false, false⟩, qCliquesEach),
  (nCliquesAll1, ⟨true, false, false⟩, qCliquesAll1),
  (nRef03Of, ⟨false, false, false⟩, qRef03Of),
  (nRef02Put, ⟨false, false, false⟩, qRef02Put),
  (nCliquesNext1, ⟨true, false, false⟩, qCliquesNext1),
  (nCliquesCheck1, ⟨true, false, false⟩, qCliquesCheck1),
  (nSlicesEqualIntInt, ⟨false, false, true⟩, qSlicesEqualIntInt),
  (nMakeMod, ⟨false, false, true⟩, qMakeMod),
  (nCliquesMasks, ⟨false, false, false⟩, qCliquesMasks),
  (nSlicesCloneIntInt, ⟨false, true, true⟩, qSlicesCloneIntInt),
  (nCliquesCommon, ⟨false, false, true⟩, qCliquesCommon),
  (nMathBitsTrailingZeros64, ⟨false, false, true⟩, qMathBitsTrailingZeros64),
  (nSlicesSortIntInt, ⟨false, false, true⟩, qSlicesSortIntInt),
  (nRef03Check, ⟨false, false, true⟩, qRef03Check),
  (nRef24Fits, ⟨false, false, true⟩, qRef24Fits),
  (nRef24List, ⟨false, false, false⟩, qRef24List),
  (nNodesetValid, ⟨false, false, true⟩, qNodesetValid),
  (nCliquesClique, ⟨false, false, true⟩, qCliquesClique),
  (nRef02Valid, ⟨false, false, true⟩, qRef02Valid),
  (nRef03Find, ⟨false, false, true⟩, qRef03Find),
  (nGraphWithin, ⟨false, false, false⟩, qGraphWithin),
  (nGraphChange, ⟨false, false, true⟩, qGraphChange),
  (nGraphPlace, ⟨false, false, true⟩, qGraphPlace),
  (nSlicesInsertApiEdgeApiEdge, ⟨false, false, false⟩, qSlicesInsertApiEdgeApiEdge),
  (nSlicesCloneApiEdgeApiEdge, ⟨false, false, false⟩, qSlicesCloneApiEdgeApiEdge),
  (nGraphEdge, ⟨false, false, false⟩, qGraphEdge),
  (nGraphEnds, ⟨false, false, true⟩, qGraphEnds),
  (nSlicesSortFuncApiEdgeApiEdge, ⟨false, false, true⟩, qSlicesSortFuncApiEdgeApiEdge),
  (nGraphOrder, ⟨false, false, true⟩, qGraphOrder),
  (nSlicesCompactApiEdgeApiEdge, ⟨false, false, false⟩, qSlicesCompactApiEdgeApiEdge),
  (nRef03SameEdges, ⟨false, false, true⟩, qRef03SameEdges),
  (nCliquesEach1, ⟨true, false, false⟩, qCliquesEach1),
  (nCliquesAllN77, ⟨false, false, true⟩, qCliquesAllN77),
  (nRef03Ends, ⟨false, false, true⟩, qRef03Ends),
  (nRef03With, ⟨false, false, false⟩, qRef03With),
  (nRef03Edge, ⟨false, false, false⟩, qRef03Edge),
  (nRef03Before, ⟨false, false, true⟩, qRef03Before),
  (nRef24Grow, ⟨false, false, false⟩, qRef24Grow),
  (nMasksOf, ⟨false, false, true⟩, qMasksOf),
  (nMasksBit, ⟨false, false, true⟩, qMasksBit),
  (nSlicesBinarySearchFuncApiEdgeApiEdgeApiEdge, ⟨false, false, true⟩, qSlicesBinarySearchFuncApiEdgeApiEdgeApiEdge),
  (nCmpOrInt, ⟨false, false, true⟩, qCmpOrInt),
  (nCmpCompareInt, ⟨false, false, true⟩, qCmpCompareInt),
  (nCmpIsNaNInt, ⟨false, false, true⟩, qCmpIsNaNInt)]
def nTab : Nat := 0
def tabZ : List Int := [0, 1, 56, 2, 57, 49, 28, 3, 61, 58, 42, 50, 38, 29, 17, 4, 62, 47, 59, 36, 45, 43, 51, 22, 53, 39, 33, 30, 24, 18, 12, 5, 63, 55, 48, 27, 60, 41, 37, 16, 46, 35, 44, 21, 52, 32, 23, 11, 54, 26, 40, 15, 34, 20, 31, 10, 25, 14, 19, 9, 13, 8, 7, 6]
def tabA : List AV := tabZ.map (AV.int .u8)
def cfg : Cfg := ⟨look fns, fun i => if i = nTab then tabA else [], fun _ => none, fun _ => none⟩
theorem kLaw24CliquesTurns : chkFB Go.Proofs.Tryd.prog Go.Proofs.Tryd.f3 qLaw24CliquesTurns = true := by kernel_rfl
theorem kLaw24CliquesNames : chkFB Go.Proofs.Tryd.prog Go.Proofs.Tryd.f4 qLaw24CliquesNames = true := by kernel_rfl
theorem kLaw24CliquesGoes : chkFB Go.Proofs.Tryd.prog Go.Proofs.Tryd.f5 qLaw24CliquesGoes = true := by kernel_rfl
theorem kLaw24CliquesAnswers : chkFB Go.Proofs.Tryd.prog Go.Proofs.Tryd.f6 qLaw24CliquesAnswers = true := by kernel_rfl
theorem kLaw24CliquesParts : chkFB Go.Proofs.Tryd.prog Go.Proofs.Tryd.f7 qLaw24CliquesParts = true := by kernel_rfl
theorem kLaw24CliquesEdges : chkFB Go.Proofs.Tryd.prog Go.Proofs.Tryd.f8 qLaw24CliquesEdges = true := by kernel_rfl
theorem kLaw24CliquesCover : chkFB Go.Proofs.Tryd.prog Go.Proofs.Tryd.f9 qLaw24CliquesCover = true := by kernel_rfl
theorem kCliquesAll : chkFB Go.Proofs.Tryd.prog Go.Proofs.Tryd.f10 qCliquesAll = true := by kernel_rfl
theorem kLaw24Awake : chkFB Go.Proofs.Tryd.prog Go.Proofs.Tryd.f11 qLaw24Awake = true := by kernel_rfl
theorem kMakeFew : chkFB Go.Proofs.Tryd.prog Go.Proofs.Tryd.f12 qMakeFew = true := by kernel_rfl
theorem kMakeNew : chkFB Go.Proofs.Tryd.prog Go.Proofs.Tryd.f13 qMakeNew = true := by kernel_rfl
theorem kMakeGraph : chkFB Go.Proofs.Tryd.prog Go.Proofs.Tryd.f14 qMakeGraph = true := by kernel_rfl
theorem kMakeOrder : chkFB Go.Proofs.Tryd.prog Go.Proofs.Tryd.f15 qMakeOrder = true := by kernel_rfl
theorem kFieldRenamed : chkFB Go.Proofs.Tryd.prog Go.Proofs.Tryd.f16 qFieldRenamed = true := by kernel_rfl
theorem kRef02Cmp : chkFB Go.Proofs.Tryd.prog Go.Proofs.Tryd.f17 qRef02Cmp = true := by kernel_rfl
theorem kRef02Of : chkFB Go.Proofs.Tryd.prog Go.Proofs.Tryd.f18 qRef02Of = true := by kernel_rfl
theorem kCliquesNext : chkFB Go.Proofs.Tryd.prog Go.Proofs.Tryd.f19 qCliquesNext = true := by kernel_rfl
theorem kCliquesCheck : chkFB Go.Proofs.Tryd.prog Go.Proofs.Tryd.f20 qCliquesCheck = true := by kernel_rfl
theorem kMakeDeckNext : chkFB Go.Proofs.Tryd.prog Go.Proofs.Tryd.f21 qMakeDeckNext = true := by kernel_rfl
theorem kMakeLight : chkFB Go.Proofs.Tryd.prog Go.Proofs.Tryd.f22 qMakeLight = true := by kernel_rfl
theorem kMakeSpoilt : chkFB Go.Proofs.Tryd.prog Go.Proofs.Tryd.f23 qMakeSpoilt = true := by kernel_rfl
theorem kMakeSet : chkFB Go.Proofs.Tryd.prog Go.Proofs.Tryd.f24 qMakeSet = true := by kernel_rfl
theorem kCliquesExtend : chkFB Go.Proofs.Tryd.prog Go.Proofs.Tryd.f25 qCliquesExtend = true := by kernel_rfl
theorem kRef24Extend : chkFB Go.Proofs.Tryd.prog Go.Proofs.Tryd.f26 qRef24Extend = true := by kernel_rfl
theorem kRef24Next : chkFB Go.Proofs.Tryd.prog Go.Proofs.Tryd.f27 qRef24Next = true := by kernel_rfl
theorem kCliquesIs : chkFB Go.Proofs.Tryd.prog Go.Proofs.Tryd.f28 qCliquesIs = true := by kernel_rfl
theorem kRef24Is : chkFB Go.Proofs.Tryd.prog Go.Proofs.Tryd.f29 qRef24Is = true := by kernel_rfl
theorem kCliquesMaximal : chkFB Go.Proofs.Tryd.prog Go.Proofs.Tryd.f30 qCliquesMaximal = true := by kernel_rfl
theorem kRef24Maximal : chkFB Go.Proofs.Tryd.prog Go.Proofs.Tryd.f31 qRef24Maximal = true := by kernel_rfl
theorem kRef24All : chkFB Go.Proofs.Tryd.prog Go.Proofs.Tryd.f32 qRef24All = true := by kernel_rfl
theorem kRef24Same : chkFB Go.Proofs.Tryd.prog Go.Proofs.Tryd.f33 qRef24Same = true := by kernel_rfl
theorem kRef24Check : chkFB Go.Proofs.Tryd.prog Go.Proofs.Tryd.f34 qRef24Check = true := by kernel_rfl
theorem kGraphInduced : chkFB Go.Proofs.Tryd.prog Go.Proofs.Tryd.f35 qGraphInduced = true := by kernel_rfl
theorem kRef02Within : chkFB Go.Proofs.Tryd.prog Go.Proofs.Tryd.f36 qRef02Within = true := by kernel_rfl
theorem kRef02Minus : chkFB Go.Proofs.Tryd.prog Go.Proofs.Tryd.f37 qRef02Minus = true := by kernel_rfl
theorem kRef02Union : chkFB Go.Proofs.Tryd.prog Go.Proofs.Tryd.f38 qRef02Union = true := by kernel_rfl
theorem kGraphAdd : chkFB Go.Proofs.Tryd.prog Go.Proofs.Tryd.f39 qGraphAdd = true := by kernel_rfl
theorem kRef02Has : chkFB Go.Proofs.Tryd.prog Go.Proofs.Tryd.f40 qRef02Has = true := by kernel_rfl
theorem kGraphOf : chkFB Go.Proofs.Tryd.prog Go.Proofs.Tryd.f41 qGraphOf = true := by kernel_rfl
theorem kRef03Same : chkFB Go.Proofs.Tryd.prog Go.Proofs.Tryd.f42 qRef03Same = true := by kernel_rfl
theorem kRef02Range : chkFB Go.Proofs.Tryd.prog Go.Proofs.Tryd.f43 qRef02Range = true := by kernel_rfl
theorem kGraphCheck : chkFB Go.Proofs.Tryd.prog Go.Proofs.Tryd.f44 qGraphCheck = true := by kernel_rfl
theorem kCliquesEach : chkFB Go.Proofs.Tryd.prog Go.Proofs.Tryd.f45 qCliquesEach = true := by kernel_rfl
theorem kCliquesAll1 : chkFB Go.Proofs.Tryd.prog Go.Proofs.Tryd.f46 qCliquesAll1 = true := by kernel_rfl
theorem kRef03Of : chkFB Go.Proofs.Tryd.prog Go.Proofs.Tryd.f47 qRef03Of = true := by kernel_rfl
theorem kRef02Put : chkFB Go.Proofs.Tryd.prog Go.Proofs.Tryd.f48 qRef02Put = true := by kernel_rfl
theorem kCliquesNext1 : chkFB Go.Proofs.Tryd.prog Go.Proofs.Tryd.f49 qCliquesNext1 = true := by kernel_rfl
theorem kCliquesCheck1 : chkFB Go.Proofs.Tryd.prog Go.Proofs.Tryd.f50 qCliquesCheck1 = true := by kernel_rfl
theorem kSlicesEqualIntInt : chkFB Go.Proofs.Tryd.prog Go.Proofs.Tryd.f51 qSlicesEqualIntInt = true := by kernel_rfl
theorem kMakeMod : chkFB Go.Proofs.Tryd.prog Go.Proofs.Tryd.f52 qMakeMod = true := by kernel_rfl
theorem kCliquesMasks : chkFB Go.Proofs.Tryd.prog Go.Proofs.Tryd.f53 qCliquesMasks = true := by kernel_rfl
theorem kSlicesCloneIntInt : chkFB Go.Proofs.Tryd.prog Go.Proofs.Tryd.f54 qSlicesCloneIntInt = true := by kernel_rfl
theorem kCliquesCommon : chkFB Go.Proofs.Tryd.prog Go.Proofs.Tryd.f55 qCliquesCommon = true := by kernel_rfl
theorem kMathBitsTrailingZeros64 : chkFB Go.Proofs.Tryd.prog Go.Proofs.Tryd.f56 qMathBitsTrailingZeros64 = true := by kernel_rfl
theorem kSlicesSortIntInt : chkFB Go.Proofs.Tryd.prog Go.Proofs.Tryd.f57 qSlicesSortIntInt = true := by kernel_rfl
theorem kRef03Check : chkFB Go.Proofs.Tryd.prog Go.Proofs.Tryd.f58 qRef03Check = true := by kernel_rfl
theorem kRef24Fits : chkFB Go.Proofs.Tryd.prog Go.Proofs.Tryd.f59 qRef24Fits = true := by kernel_rfl
theorem kRef24List : chkFB Go.Proofs.Tryd.prog Go.Proofs.Tryd.f60 qRef24List = true := by kernel_rfl
theorem kNodesetValid : chkFB Go.Proofs.Tryd.prog Go.Proofs.Tryd.f61 qNodesetValid = true := by kernel_rfl
theorem kCliquesClique : chkFB Go.Proofs.Tryd.prog Go.Proofs.Tryd.f62 qCliquesClique = true := by kernel_rfl
theorem kRef02Valid : chkFB Go.Proofs.Tryd.prog Go.Proofs.Tryd.f63 qRef02Valid = true := by kernel_rfl
theorem kRef03Find : chkFB Go.Proofs.Tryd.prog Go.Proofs.Tryd.f64 qRef03Find = true := by kernel_rfl
theorem kGraphWithin : chkFB Go.Proofs.Tryd.prog Go.Proofs.Tryd.f65 qGraphWithin = true := by kernel_rfl
theorem kGraphChange : chkFB Go.Proofs.Tryd.prog Go.Proofs.Tryd.f66 qGraphChange = true := by kernel_rfl
theorem kGraphPlace : chkFB Go.Proofs.Tryd.prog Go.Proofs.Tryd.f67 qGraphPlace = true := by kernel_rfl
theorem kSlicesInsertApiEdgeApiEdge : chkFB Go.Proofs.Tryd.prog Go.Proofs.Tryd.f68 qSlicesInsertApiEdgeApiEdge = true := by kernel_rfl
theorem kSlicesCloneApiEdgeApiEdge : chkFB Go.Proofs.Tryd.prog Go.Proofs.Tryd.f69 qSlicesCloneApiEdgeApiEdge = true := by kernel_rfl
theorem kGraphEdge : chkFB Go.Proofs.Tryd.prog Go.Proofs.Tryd.f70 qGraphEdge = true := by kernel_rfl
theorem kGraphEnds : chkFB Go.Proofs.Tryd.prog Go.Proofs.Tryd.f71 qGraphEnds = true := by kernel_rfl
theorem kSlicesSortFuncApiEdgeApiEdge : chkFB Go.Proofs.Tryd.prog Go.Proofs.Tryd.f72 qSlicesSortFuncApiEdgeApiEdge = true := by kernel_rfl
theorem kGraphOrder : chkFB Go.Proofs.Tryd.prog Go.Proofs.Tryd.f73 qGraphOrder = true := by kernel_rfl
theorem kSlicesCompactApiEdgeApiEdge : chkFB Go.Proofs.Tryd.prog Go.Proofs.Tryd.f74 qSlicesCompactApiEdgeApiEdge = true := by kernel_rfl
theorem kRef03SameEdges : chkFB Go.Proofs.Tryd.prog Go.Proofs.Tryd.f75 qRef03SameEdges = true := by kernel_rfl
theorem kCliquesEach1 : chkFB Go.Proofs.Tryd.prog Go.Proofs.Tryd.f76 qCliquesEach1 = true := by kernel_rfl
theorem kCliquesAllN77 : chkFB Go.Proofs.Tryd.prog Go.Proofs.Tryd.f77 qCliquesAllN77 = true := by kernel_rfl
theorem kRef03Ends : chkFB Go.Proofs.Tryd.prog Go.Proofs.Tryd.f78 qRef03Ends = true := by kernel_rfl
theorem kRef03With : chkFB Go.Proofs.Tryd.prog Go.Proofs.Tryd.f79 qRef03With = true := by kernel_rfl
theorem kRef03Edge : chkFB Go.Proofs.Tryd.prog Go.Proofs.Tryd.f80 qRef03Edge = true := by kernel_rfl
theorem kRef03Before : chkFB Go.Proofs.Tryd.prog Go.Proofs.Tryd.f83 qRef03Before = true := by kernel_rfl
theorem kRef24Grow : chkFB Go.Proofs.Tryd.prog Go.Proofs.Tryd.f84 qRef24Grow = true := by kernel_rfl
theorem kMasksOf : chkFB Go.Proofs.Tryd.prog Go.Proofs.Tryd.f85 qMasksOf = true := by kernel_rfl
theorem kMasksBit : chkFB Go.Proofs.Tryd.prog Go.Proofs.Tryd.f86 qMasksBit = true := by kernel_rfl
theorem kSlicesBinarySearchFuncApiEdgeApiEdgeApiEdge : chkFB Go.Proofs.Tryd.prog Go.Proofs.Tryd.f87 qSlicesBinarySearchFuncApiEdgeApiEdgeApiEdge = true := by kernel_rfl
theorem kCmpOrInt : chkFB Go.Proofs.Tryd.prog Go.Proofs.Tryd.f91 qCmpOrInt = true := by kernel_rfl
theorem kCmpCompareInt : chkFB Go.Proofs.Tryd.prog Go.Proofs.Tryd.f92 qCmpCompareInt = true := by kernel_rfl
theorem kCmpIsNaNInt : chkFB Go.Proofs.Tryd.prog Go.Proofs.Tryd.f113 qCmpIsNaNInt = true := by kernel_rfl
theorem look_mem : ∀ {l : List (Nat × Md × AFn)} {f : Nat} {m : Md} {q : AFn}, look l f = some (m, q) → (f, m, q) ∈ l
  | [], f, m, q, h => by simp [look] at h
  | (j, m', q') :: r, f, m, q, h => by
    unfold look at h
    split at h
    · rename_i he; subst he; simp at h; obtain ⟨rfl, rfl⟩ := h; simp
    · exact List.mem_cons_of_mem _ (look_mem h)
def Good (p : Nat × Md × AFn) : Prop := ∃ fn, Go.Proofs.Tryd.prog.funcs[p.1]? = some fn ∧ chkFB Go.Proofs.Tryd.prog fn p.2.2 = true
def All (G : Nat × Md × AFn → Prop) : List (Nat × Md × AFn) → Prop
  | [] => True
  | p :: r => G p ∧ All G r
theorem All.get {G : Nat × Md × AFn → Prop} : ∀ {l : List (Nat × Md × AFn)}, All G l → ∀ p ∈ l, G p
  | [], _, p, h => by simp at h
  | q :: r, h, p, hp => by
    rcases List.mem_cons.1 hp with e | e
    · subst e; exact h.1
    · exact All.get h.2 p e
theorem allGood : All Good fns := ⟨⟨_, Go.Proofs.Tryd.func3, kLaw24CliquesTurns⟩, ⟨_, Go.Proofs.Tryd.func4, kLaw24CliquesNames⟩, ⟨_, Go.Proofs.Tryd.func5, kLaw24CliquesGoes⟩, ⟨_, Go.Proofs.Tryd.func6, kLaw24CliquesAnswers⟩, ⟨_, Go.Proofs.Tryd.func7, kLaw24CliquesParts⟩, ⟨_, Go.Proofs.Tryd.func8, kLaw24CliquesEdges⟩, ⟨_, Go.Proofs.Tryd.func9, kLaw24CliquesCover⟩, ⟨_, Go.Proofs.Tryd.func10, kCliquesAll⟩, ⟨_, Go.Proofs.Tryd.func11, kLaw24Awake⟩, ⟨_, Go.Proofs.Tryd.func12, kMakeFew⟩, ⟨_, Go.Proofs.Tryd.func13, kMakeNew⟩, ⟨_, Go.Proofs.Tryd.func14, kMakeGraph⟩, ⟨_, Go.Proofs.Tryd.func15, kMakeOrder⟩, ⟨_, Go.Proofs.Tryd.func16, kFieldRenamed⟩, ⟨_, Go.Proofs.Tryd.func17, kRef02Cmp⟩, ⟨_, Go.Proofs.Tryd.func18, kRef02Of⟩, ⟨_, Go.Proofs.Tryd.func19, kCliquesNext⟩, ⟨_, Go.Proofs.Tryd.func20, kCliquesCheck⟩, ⟨_, Go.Proofs.Tryd.func21, kMakeDeckNext⟩, ⟨_, Go.Proofs.Tryd.func22, kMakeLight⟩, ⟨_, Go.Proofs.Tryd.func23, kMakeSpoilt⟩, ⟨_, Go.Proofs.Tryd.func24, kMakeSet⟩, ⟨_, Go.Proofs.Tryd.func25, kCliquesExtend⟩, ⟨_, Go.Proofs.Tryd.func26, kRef24Extend⟩, ⟨_, Go.Proofs.Tryd.func27, kRef24Next⟩, ⟨_, Go.Proofs.Tryd.func28, kCliquesIs⟩, ⟨_, Go.Proofs.Tryd.func29, kRef24Is⟩, ⟨_, Go.Proofs.Tryd.func30, kCliquesMaximal⟩, ⟨_, Go.Proofs.Tryd.func31, kRef24Maximal⟩, ⟨_, Go.Proofs.Tryd.func32, kRef24All⟩, ⟨_, Go.Proofs.Tryd.func33, kRef24Same⟩, ⟨_, Go.Proofs.Tryd.func34, kRef24Check⟩, ⟨_, Go.Proofs.Tryd.func35, kGraphInduced⟩, ⟨_, Go.Proofs.Tryd.func36, kRef02Within⟩, ⟨_, Go.Proofs.Tryd.func37, kRef02Minus⟩, ⟨_, Go.Proofs.Tryd.func38, kRef02Union⟩, ⟨_, Go.Proofs.Tryd.func39, kGraphAdd⟩, ⟨_, Go.Proofs.Tryd.func40, kRef02Has⟩, ⟨_, Go.Proofs.Tryd.func41, kGraphOf⟩, ⟨_, Go.Proofs.Tryd.func42, kRef03Same⟩, ⟨_, Go.Proofs.Tryd.func43, kRef02Range⟩, ⟨_, Go.Proofs.Tryd.func44, kGraphCheck⟩, ⟨_, Go.Proofs.Tryd.func45, kCliquesEach⟩, ⟨_, Go.Proofs.Tryd.func46, kCliquesAll1⟩, ⟨_, Go.Proofs.Tryd.func47, kRef03Of⟩, ⟨_, Go.Proofs.Tryd.func48, kRef02Put⟩, ⟨_, Go.Proofs.Tryd.func49, kCliquesNext1⟩, ⟨_, Go.Proofs.Tryd.func50, kCliquesCheck1⟩, ⟨_, Go.Proofs.Tryd.func51, kSlicesEqualIntInt⟩, ⟨_, Go.Proofs.Tryd.func52, kMakeMod⟩, ⟨_, Go.Proofs.Tryd.func53, kCliquesMasks⟩, ⟨_, Go.Proofs.Tryd.func54, kSlicesCloneIntInt⟩, ⟨_, Go.Proofs.Tryd.func55, kCliquesCommon⟩, ⟨_, Go.Proofs.Tryd.func56, kMathBitsTrailingZeros64⟩, ⟨_, Go.Proofs.Tryd.func57, kSlicesSortIntInt⟩, ⟨_, Go.Proofs.Tryd.func58, kRef03Check⟩, ⟨_, Go.Proofs.Tryd.func59, kRef24Fits⟩, ⟨_, Go.Proofs.Tryd.func60, kRef24List⟩, ⟨_, Go.Proofs.Tryd.func61, kNodesetValid⟩, ⟨_, Go.Proofs.Tryd.func62, kCliquesClique⟩, ⟨_, Go.Proofs.Tryd.func63, kRef02Valid⟩, ⟨_, Go.Proofs.Tryd.func64, kRef03Find⟩, ⟨_, Go.Proofs.Tryd.func65, kGraphWithin⟩, ⟨_, Go.Proofs.Tryd.func66, kGraphChange⟩, ⟨_, Go.Proofs.Tryd.func67, kGraphPlace⟩, ⟨_, Go.Proofs.Tryd.func68, kSlicesInsertApiEdgeApiEdge⟩, ⟨_, Go.Proofs.Tryd.func69, kSlicesCloneApiEdgeApiEdge⟩, ⟨_, Go.Proofs.Tryd.func70, kGraphEdge⟩, ⟨_, Go.Proofs.Tryd.func71, kGraphEnds⟩, ⟨_, Go.Proofs.Tryd.func72, kSlicesSortFuncApiEdgeApiEdge⟩, ⟨_, Go.Proofs.Tryd.func73, kGraphOrder⟩, ⟨_, Go.Proofs.Tryd.func74, kSlicesCompactApiEdgeApiEdge⟩, ⟨_, Go.Proofs.Tryd.func75, kRef03SameEdges⟩, ⟨_, Go.Proofs.Tryd.func76, kCliquesEach1⟩, ⟨_, Go.Proofs.Tryd.func77, kCliquesAllN77⟩, ⟨_, Go.Proofs.Tryd.func78, kRef03Ends⟩, ⟨_, Go.Proofs.Tryd.func79, kRef03With⟩, ⟨_, Go.Proofs.Tryd.func80, kRef03Edge⟩, ⟨_, Go.Proofs.Tryd.func83, kRef03Before⟩, ⟨_, Go.Proofs.Tryd.func84, kRef24Grow⟩, ⟨_, Go.Proofs.Tryd.func85, kMasksOf⟩, ⟨_, Go.Proofs.Tryd.func86, kMasksBit⟩, ⟨_, Go.Proofs.Tryd.func87, kSlicesBinarySearchFuncApiEdgeApiEdgeApiEdge⟩, ⟨_, Go.Proofs.Tryd.func91, kCmpOrInt⟩, ⟨_, Go.Proofs.Tryd.func92, kCmpCompareInt⟩, ⟨_, Go.Proofs.Tryd.func113, kCmpIsNaNInt⟩, trivial⟩
theorem cfgOK : CfgOKB Go.Proofs.Tryd.prog cfg := ⟨by kernel_rfl, fun f m q h => allGood.get _ (look_mem h)⟩
theorem gLaw24CliquesTurns : cfg.fn nLaw24CliquesTurns = some (⟨false, false, true⟩, qLaw24CliquesTurns) := rfl
theorem gLaw24CliquesNames : cfg.fn nLaw24CliquesNames = some (⟨false, false, true⟩, qLaw24CliquesNames) := rfl
theorem gLaw24CliquesGoes : cfg.fn nLaw24CliquesGoes = some (⟨false, false, true⟩, qLaw24CliquesGoes) := rfl
theorem gLaw24CliquesAnswers : cfg.fn nLaw24CliquesAnswers = some (⟨false, false, true⟩, qLaw24CliquesAnswers) := rfl
theorem gLaw24CliquesParts : cfg.fn nLaw24CliquesParts = some (⟨false, false, true⟩, qLaw24CliquesParts) := rfl
theorem gLaw24CliquesEdges : cfg.fn nLaw24CliquesEdges = some (⟨false, false, true⟩, qLaw24CliquesEdges) := rfl
theorem gLaw24CliquesCover : cfg.fn nLaw24CliquesCover = some (⟨false, false, true⟩, qLaw24CliquesCover) := rfl
theorem gCliquesAll : cfg.fn nCliquesAll = some (⟨false, false, false⟩, qCliquesAll) := rfl
theorem gLaw24Awake : cfg.fn nLaw24Awake = some (⟨false, false, true⟩, qLaw24Awake) := rfl
theorem gMakeFew : cfg.fn nMakeFew = some (⟨false, false, true⟩, qMakeFew) := rfl
theorem gMakeNew : cfg.fn nMakeNew = some (⟨true, false, false⟩, qMakeNew) := rfl
theorem gMakeGraph : cfg.fn nMakeGraph = some (⟨true, false, false⟩, qMakeGraph) := rfl
theorem gMakeOrder : cfg.fn nMakeOrder = some (⟨true, false, false⟩, qMakeOrder) := rfl
theorem gFieldRenamed : cfg.fn nFieldRenamed = some (⟨false, false, false⟩, qFieldRenamed) := rfl
theorem gRef02Cmp : cfg.fn nRef02Cmp = some (⟨false, false, true⟩, qRef02Cmp) := rfl
theorem gRef02Of : cfg.fn nRef02Of = some (⟨false, false, false⟩, qRef02Of) := rfl
theorem gCliquesNext : cfg.fn nCliquesNext = some (⟨false, false, false⟩, qCliquesNext) := rfl
theorem gCliquesCheck : cfg.fn nCliquesCheck = some (⟨false, false, true⟩, qCliquesCheck) := rfl
theorem gMakeDeckNext : cfg.fn nMakeDeckNext = some (⟨true, false, false⟩, qMakeDeckNext) := rfl
theorem gMakeLight : cfg.fn nMakeLight = some (⟨false, false, true⟩, qMakeLight) := rfl
theorem gMakeSpoilt : cfg.fn nMakeSpoilt = some (⟨true, false, false⟩, qMakeSpoilt) := rfl
theorem gMakeSet : cfg.fn nMakeSet = some (⟨true, false, false⟩, qMakeSet) := rfl
theorem gCliquesExtend : cfg.fn nCliquesExtend = some (⟨false, false, false⟩, qCliquesExtend) := rfl
theorem gRef24Extend : cfg.fn nRef24Extend = some (⟨false, false, false⟩, qRef24Extend) := rfl
theorem gRef24Next : cfg.fn nRef24Next = some (⟨false, false, false⟩, qRef24Next) := rfl
theorem gCliquesIs : cfg.fn nCliquesIs = some (⟨false, false, true⟩, qCliquesIs) := rfl
theorem gRef24Is : cfg.fn nRef24Is = some (⟨false, false, true⟩, qRef24Is) := rfl
theorem gCliquesMaximal : cfg.fn nCliquesMaximal = some (⟨false, false, true⟩, qCliquesMaximal) := rfl
theorem gRef24Maximal : cfg.fn nRef24Maximal = some (⟨false, false, true⟩, qRef24Maximal) := rfl
theorem gRef24All : cfg.fn nRef24All = some (⟨false, false, false⟩, qRef24All) := rfl
theorem gRef24Same : cfg.fn nRef24Same = some (⟨false, false, true⟩, qRef24Same) := rfl
theorem gRef24Check : cfg.fn nRef24Check = some (⟨false, false, true⟩, qRef24Check) := rfl
theorem gGraphInduced : cfg.fn nGraphInduced = some (⟨false, false, false⟩, qGraphInduced) := rfl
theorem gRef02Within : cfg.fn nRef02Within = some (⟨false, false, true⟩, qRef02Within) := rfl
theorem gRef02Minus : cfg.fn nRef02Minus = some (⟨false, false, false⟩, qRef02Minus) := rfl
theorem gRef02Union : cfg.fn nRef02Union = some (⟨false, false, false⟩, qRef02Union) := rfl
theorem gGraphAdd : cfg.fn nGraphAdd = some (⟨false, false, false⟩, qGraphAdd) := rfl
theorem gRef02Has : cfg.fn nRef02Has = some (⟨false, false, true⟩, qRef02Has) := rfl
theorem gGraphOf : cfg.fn nGraphOf = some (⟨false, false, false⟩, qGraphOf) := rfl
theorem gRef03Same : cfg.fn nRef03Same = some (⟨false, false, true⟩, qRef03Same) := rfl
theorem gRef02Range : cfg.fn nRef02Range = some (⟨false, false, false⟩, qRef02Range) := rfl
theorem gGraphCheck : cfg.fn nGraphCheck = some (⟨false, false, true⟩, qGraphCheck) := rfl
theorem gCliquesEach : cfg.fn nCliquesEach = some (⟨true, false, false⟩, qCliquesEach) := rfl
theorem gCliquesAll1 : cfg.fn nCliquesAll1 = some (⟨true, false, false⟩, qCliquesAll1) := rfl
theorem gRef03Of : cfg.fn nRef03Of = some (⟨false, false, false⟩, qRef03Of) := rfl
theorem gRef02Put : cfg.fn nRef02Put = some (⟨false, false, false⟩, qRef02Put) := rfl
theorem gCliquesNext1 : cfg.fn nCliquesNext1 = some (⟨true, false, false⟩, qCliquesNext1) := rfl
theorem gCliquesCheck1 : cfg.fn nCliquesCheck1 = some (⟨true, false, false⟩, qCliquesCheck1) := rfl
theorem gSlicesEqualIntInt : cfg.fn nSlicesEqualIntInt = some (⟨false, false, true⟩, qSlicesEqualIntInt) := rfl
theorem gMakeMod : cfg.fn nMakeMod = some (⟨false, false, true⟩, qMakeMod) := rfl
theorem gCliquesMasks : cfg.fn nCliquesMasks = some (⟨false, false, false⟩, qCliquesMasks) := rfl
theorem gSlicesCloneIntInt : cfg.fn nSlicesCloneIntInt = some (⟨false, true, true⟩, qSlicesCloneIntInt) := rfl
theorem gCliquesCommon : cfg.fn nCliquesCommon = some (⟨false, false, true⟩, qCliquesCommon) := rfl
theorem gMathBitsTrailingZeros64 : cfg.fn nMathBitsTrailingZeros64 = some (⟨false, false, true⟩, qMathBitsTrailingZeros64) := rfl
theorem gSlicesSortIntInt : cfg.fn nSlicesSortIntInt = some (⟨false, false, true⟩, qSlicesSortIntInt) := rfl
theorem gRef03Check : cfg.fn nRef03Check = some (⟨false, false, true⟩, qRef03Check) := rfl
theorem gRef24Fits : cfg.fn nRef24Fits = some (⟨false, false, true⟩, qRef24Fits) := rfl
theorem gRef24List : cfg.fn nRef24List = some (⟨false, false, false⟩, qRef24List) := rfl
theorem gNodesetValid : cfg.fn nNodesetValid = some (⟨false, false, true⟩, qNodesetValid) := rfl
theorem gCliquesClique : cfg.fn nCliquesClique = some (⟨false, false, true⟩, qCliquesClique) := rfl
theorem gRef02Valid : cfg.fn nRef02Valid = some (⟨false, false, true⟩, qRef02Valid) := rfl
theorem gRef03Find : cfg.fn nRef03Find = some (⟨false, false, true⟩, qRef03Find) := rfl
theorem gGraphWithin : cfg.fn nGraphWithin = some (⟨false, false, false⟩, qGraphWithin) := rfl
theorem gGraphChange : cfg.fn nGraphChange = some (⟨false, false, true⟩, qGraphChange) := rfl
theorem gGraphPlace : cfg.fn nGraphPlace = some (⟨false, false, true⟩, qGraphPlace) := rfl
theorem gSlicesInsertApiEdgeApiEdge : cfg.fn nSlicesInsertApiEdgeApiEdge = some (⟨false, false, false⟩, qSlicesInsertApiEdgeApiEdge) := rfl
theorem gSlicesCloneApiEdgeApiEdge : cfg.fn nSlicesCloneApiEdgeApiEdge = some (⟨false, false, false⟩, qSlicesCloneApiEdgeApiEdge) := rfl
theorem gGraphEdge : cfg.fn nGraphEdge = some (⟨false, false, false⟩, qGraphEdge) := rfl
theorem gGraphEnds : cfg.fn nGraphEnds = some (⟨false, false, true⟩, qGraphEnds) := rfl
theorem gSlicesSortFuncApiEdgeApiEdge : cfg.fn nSlicesSortFuncApiEdgeApiEdge = some (⟨false, false, true⟩, qSlicesSortFuncApiEdgeApiEdge) := rfl
theorem gGraphOrder : cfg.fn nGraphOrder = some (⟨false, false, true⟩, qGraphOrder) := rfl
theorem gSlicesCompactApiEdgeApiEdge : cfg.fn nSlicesCompactApiEdgeApiEdge = some (⟨false, false, false⟩, qSlicesCompactApiEdgeApiEdge) := rfl
theorem gRef03SameEdges : cfg.fn nRef03SameEdges = some (⟨false, false, true⟩, qRef03SameEdges) := rfl
theorem gCliquesEach1 : cfg.fn nCliquesEach1 = some (⟨true, false, false⟩, qCliquesEach1) := rfl
theorem gCliquesAllN77 : cfg.fn nCliquesAllN77 = some (⟨false, false, true⟩, qCliquesAllN77) := rfl
theorem gRef03Ends : cfg.fn nRef03Ends = some (⟨false, false, true⟩, qRef03Ends) := rfl
theorem gRef03With : cfg.fn nRef03With = some (⟨false, false, false⟩, qRef03With) := rfl
theorem gRef03Edge : cfg.fn nRef03Edge = some (⟨false, false, false⟩, qRef03Edge) := rfl
theorem gRef03Before : cfg.fn nRef03Before = some (⟨false, false, true⟩, qRef03Before) := rfl
theorem gRef24Grow : cfg.fn nRef24Grow = some (⟨false, false, false⟩, qRef24Grow) := rfl
theorem gMasksOf : cfg.fn nMasksOf = some (⟨false, false, true⟩, qMasksOf) := rfl
theorem gMasksBit : cfg.fn nMasksBit = some (⟨false, false, true⟩, qMasksBit) := rfl
theorem gSlicesBinarySearchFuncApiEdgeApiEdgeApiEdge : cfg.fn nSlicesBinarySearchFuncApiEdgeApiEdgeApiEdge = some (⟨false, false, true⟩, qSlicesBinarySearchFuncApiEdgeApiEdgeApiEdge) := rfl
theorem gCmpOrInt : cfg.fn nCmpOrInt = some (⟨false, false, true⟩, qCmpOrInt) := rfl
theorem gCmpCompareInt : cfg.fn nCmpCompareInt = some (⟨false, false, true⟩, qCmpCompareInt) := rfl
theorem gCmpIsNaNInt : cfg.fn nCmpIsNaNInt = some (⟨false, false, true⟩, qCmpIsNaNInt) := rfl
end Go.BmP
