/- The compact code of the functions, printed by program off the translation. -/
import Derived.Test.YtldlafnfkiiflaaDoorChecked
import Derived.Test.YtldlafnfkiiflaaDoorMa
import Derived.KernelRfl
set_option maxRecDepth 100000
namespace Go.AmP
open Go.Am
def nMaxcliqueColour : Nat := 14
def nQh : Nat := 17
def nQi : Nat := 19
def nQo : Nat := 29
def nQq : Nat := 31
def nSlicesEqualIntInt : Nat := 32
def nNodesetOf : Nat := 33
def nNodesetRange : Nat := 34
def nSlicesRepeatIntInt : Nat := 35
def nGraphNeighbours : Nat := 36
def nSlicesIndexBoolBool : Nat := 37
def nCoreOrder : Nat := 39
def nSlicesReverseIntInt : Nat := 40
def nSlicesContainsFuncIntInt : Nat := 45
def nMaxcliqueProper1 : Nat := 46
def nSlicesContainsFuncApiEdgeApiEdge : Nat := 47
def nMaxcliqueProper2 : Nat := 48
def nQx : Nat := 51
def nCoreDegeneracy : Nat := 56
def nQz : Nat := 57
def nNodesetUnion : Nat := 58
def nMathBitsMul : Nat := 59
def nMasksList : Nat := 60
def nGraphRow : Nat := 61
def nCorePeel : Nat := 62
def nSlicesIndexFuncIntInt : Nat := 64
def nSlicesIndexFuncApiEdgeApiEdge : Nat := 65
def nQC : Nat := 67
def nNodesetValid : Nat := 70
def nCoreNumbers : Nat := 73
def nQE : Nat := 74
def nQF : Nat := 75
def nNodesetMergedInt : Nat := 76
def nNodesetUnion1 : Nat := 77
def nMathBitsMul32 : Nat := 78
def nMathBitsMul64 : Nat := 79
def nMasksRows : Nat := 80
def nMasksCount : Nat := 81
def nMasksBit : Nat := 82
def nMasksAll : Nat := 83
def nMasksLeast : Nat := 84
def nQG : Nat := 87
def nSlicesCloneIntInt : Nat := 88
def nSlicesSortIntInt : Nat := 89
def nSlicesCompactIntInt : Nat := 90
def nSlicesPdqsortOrderedInt : Nat := 91
def nMathBitsLen : Nat := 92
def nSlicesInsertionSortOrderedInt : Nat := 93
def nCmpLessInt : Nat := 99
def nMathBitsLen32 : Nat := 102
def nMathBitsLen64 : Nat := 103
/- cohesion/maxclique.Colour -/
def rMaxcliqueColourX0 : List O := [
 ⟨(some 2), none, .box (.t 0)⟩,
 ⟨(some 4), none, .mv (.k .nils)⟩,
 ⟨(some 5), none, .mv (.k (.int .i64 0))⟩]
def rMaxcliqueColourX1 : List O := [
 ⟨(some 13), none, .ld (some 2) (.t 2)⟩,
 ⟨(some 14), none, .call nQq [(.t 13)]⟩,
 ⟨(some 6), none, .mv (.t 14)⟩]
def rMaxcliqueColourX2 : List O := [
 ⟨(some 15), none, .mv (.t 6)⟩,
 ⟨(some 16), none, .bin .neq (.t 15) (.k (.int .i64 0))⟩]
def rMaxcliqueColourX3 : List O := [
 ⟨(some 17), none, .mv (.t 6)⟩,
 ⟨(some 4), none, .mv (.k .nils)⟩,
 ⟨(some 5), none, .mv (.t 17)⟩]
def rMaxcliqueColourX4 : List O := [
 ⟨(some 18), none, .mv (.t 1)⟩,
 ⟨(some 19), none, .len (.t 18)⟩,
 ⟨(some 20), none, .fad 0 (.t 2)⟩,
 ⟨(some 21), none, .ld none (.t 20)⟩,
 ⟨(some 22), none, .bin .neq (.t 19) (.t 21)⟩,
 ⟨(some 23), none, .mv (.t 22)⟩,
 ⟨(some 24), (some (23, false)), .mv (.t 1)⟩,
 ⟨(some 25), (some (23, false)), .call nNodesetOf [(.t 24)]⟩,
 ⟨(some 26), (some (23, false)), .fad 0 (.t 2)⟩,
 ⟨(some 27), (some (23, false)), .ld none (.t 26)⟩,
 ⟨(some 28), (some (23, false)), .call nNodesetRange [(.t 27)]⟩,
 ⟨(some 29), (some (23, false)), .call nSlicesEqualIntInt [(.t 25), (.t 28)]⟩,
 ⟨(some 30), (some (23, false)), .un .not (.t 29)⟩,
 ⟨(some 31), none, .pick (.t 23) (.k (.bool true)) (.t 30)⟩]
def rMaxcliqueColourX5 : List O := [
 ⟨(some 4), none, .mv (.k .nils)⟩,
 ⟨(some 5), none, .mv (.k (.int .i64 4))⟩]
def rMaxcliqueColourX6 : List O := [
 ⟨(some 32), none, .bslice 1 1 [(.int .i64 0)] [(0, 1, (.k (.int .i64 (-1))))]⟩,
 ⟨(some 33), none, .fad 0 (.t 2)⟩,
 ⟨(some 34), none, .ld none (.t 33)⟩,
 ⟨(some 35), none, .call nSlicesRepeatIntInt [(.t 32), (.t 34)]⟩,
 ⟨(some 7), none, .mv (.t 35)⟩]
def rMaxcliqueColourX7 : List O := [
 ⟨(some 36), none, .mv (.t 1)⟩,
 ⟨(some 37), none, .len (.t 36)⟩,
 ⟨(some 38), none, .mv (.k (.int .i64 0))⟩]
def rMaxcliqueColourX8 : List O := [
 ⟨(some 39), none, .bin .lss (.t 38) (.t 37)⟩]
def rMaxcliqueColourX9 : List O := [
 ⟨(some 40), none, .ixa 1 (.t 36) (.t 38)⟩,
 ⟨(some 41), none, .ld none (.t 40)⟩,
 ⟨(some 9), none, .mv (.t 41)⟩]
def rMaxcliqueColourX10 : List O := [
 ⟨(some 10), none, .new [(.bool false), (.bool false), (.bool false), (.bool false), (.bool false), (.bool false), (.bool false), (.bool false), (.bool false), (.bool false), (.bool false), (.bool false), (.bool false), (.bool false), (.bool false), (.bool false), (.bool false), (.bool false), (.bool false), (.bool false), (.bool false), (.bool false), (.bool false), (.bool false), (.bool false), (.bool false), (.bool false), (.bool false), (.bool false), (.bool false), (.bool false), (.bool false), (.bool false), (.bool false), (.bool false), (.bool false), (.bool false), (.bool false), (.bool false), (.bool false), (.bool false), (.bool false), (.bool false), (.bool false), (.bool false), (.bool false), (.bool false), (.bool false), (.bool false), (.bool false), (.bool false), (.bool false), (.bool false), (.bool false), (.bool false), (.bool false), (.bool false), (.bool false), (.bool false), (.bool false), (.bool false), (.bool false), (.bool false), (.bool false), (.bool false)]⟩]
def rMaxcliqueColourX11 : List O := [
 ⟨(some 42), none, .ld (some 2) (.t 2)⟩,
 ⟨(some 43), none, .mv (.t 9)⟩,
 ⟨(some 44), none, .call nGraphNeighbours [(.t 42), (.t 43)]⟩,
 ⟨(some 45), none, .len (.t 44)⟩,
 ⟨(some 46), none, .mv (.k (.int .i64 0))⟩]
def rMaxcliqueColourX12 : List O := [
 ⟨(some 47), none, .bin .lss (.t 46) (.t 45)⟩]
def rMaxcliqueColourX13 : List O := [
 ⟨(some 48), none, .ixa 1 (.t 44) (.t 46)⟩,
 ⟨(some 49), none, .ld none (.t 48)⟩,
 ⟨(some 12), none, .mv (.t 49)⟩]
def rMaxcliqueColourX14 : List O := [
 ⟨(some 50), none, .mv (.t 7)⟩,
 ⟨(some 51), none, .mv (.t 12)⟩,
 ⟨(some 52), none, .ixa 1 (.t 50) (.t 51)⟩,
 ⟨(some 53), none, .ld none (.t 52)⟩,
 ⟨(some 54), none, .bin .geq (.t 53) (.k (.int .i64 0))⟩]
def rMaxcliqueColourX15 : List O := [
 ⟨(some 55), none, .mv (.t 7)⟩,
 ⟨(some 56), none, .mv (.t 12)⟩,
 ⟨(some 57), none, .ixa 1 (.t 55) (.t 56)⟩,
 ⟨(some 58), none, .ld none (.t 57)⟩,
 ⟨(some 59), none, .ixp 65 1 (.t 10) (.t 58)⟩,
 ⟨none, none, .st 1 (.t 59) (.k (.bool true))⟩]
def rMaxcliqueColourX16 : List O := [
 ⟨(some 60), none, .bin .add (.t 46) (.k (.int .i64 1))⟩,
 ⟨(some 46), none, .mv (.t 60)⟩]
def lMaxcliqueColourX0 : C := (.seq (.reg rMaxcliqueColourX12 false [] [2, 7, 9, 10, 36, 37, 38, 44, 45, 46, 47]) (.seq (.cond (.t 47) .skip (.exit 2)) (.seq (.blk 3 (.seq (.reg rMaxcliqueColourX13 false [] [2, 7, 9, 10, 12, 36, 37, 38, 44, 45, 46]) (.seq (.reg rMaxcliqueColourX14 false [] [2, 7, 9, 10, 12, 36, 37, 38, 44, 45, 46, 54]) (.cond (.t 54) (.reg rMaxcliqueColourX15 false [] [2, 7, 9, 10, 36, 37, 38, 44, 45, 46]) .skip)))) (.reg rMaxcliqueColourX16 false [] [2, 7, 9, 10, 36, 37, 38, 44, 45, 46]))))
def rMaxcliqueColourX17 : List O := [
 ⟨(some 61), none, .mv (.t 7)⟩,
 ⟨(some 62), none, .mv (.t 9)⟩,
 ⟨(some 63), none, .asl 65 (.t 10)⟩,
 ⟨(some 64), none, .call nSlicesIndexBoolBool [(.t 63), (.k (.bool false))]⟩,
 ⟨(some 65), none, .ixa 1 (.t 61) (.t 62)⟩,
 ⟨none, none, .st 1 (.t 65) (.t 64)⟩]
def rMaxcliqueColourX18 : List O := [
 ⟨(some 66), none, .bin .add (.t 38) (.k (.int .i64 1))⟩,
 ⟨(some 38), none, .mv (.t 66)⟩]
def lMaxcliqueColourX1 : C := (.seq (.reg rMaxcliqueColourX8 false [] [2, 7, 36, 37, 38, 39]) (.seq (.cond (.t 39) .skip (.exit 0)) (.seq (.blk 1 (.seq (.reg rMaxcliqueColourX9 false [] [2, 7, 9, 36, 37, 38]) (.seq (.reg rMaxcliqueColourX10 false [] [2, 7, 9, 10, 36, 37, 38]) (.seq (.seq (.reg rMaxcliqueColourX11 false [] [2, 7, 9, 10, 36, 37, 38, 44, 45, 46]) (.blk 2 (.loop lMaxcliqueColourX0))) (.reg rMaxcliqueColourX17 false [] [2, 7, 36, 37, 38]))))) (.reg rMaxcliqueColourX18 false [] [2, 7, 36, 37, 38]))))
def rMaxcliqueColourX19 : List O := [
 ⟨(some 67), none, .mv (.t 7)⟩,
 ⟨(some 4), none, .mv (.t 67)⟩,
 ⟨(some 5), none, .mv (.k (.int .i64 0))⟩]
def cMaxcliqueColour : C := (.seq (.reg rMaxcliqueColourX0 false [] [1, 2]) (.seq (.seq (.reg rMaxcliqueColourX1 false [] [1, 2, 6]) (.seq (.reg rMaxcliqueColourX2 false [] [1, 2, 6, 16]) (.cond (.t 16) (.seq (.reg rMaxcliqueColourX3 false [] [4, 5]) .ret) .skip))) (.seq (.seq (.reg rMaxcliqueColourX4 true [(7, 9)] [1, 2, 31]) (.cond (.t 31) (.seq (.reg rMaxcliqueColourX5 false [] [4, 5]) .ret) .skip)) (.seq (.reg rMaxcliqueColourX6 false [] [1, 2, 7]) (.seq (.seq (.reg rMaxcliqueColourX7 false [] [2, 7, 36, 37, 38]) (.blk 0 (.loop lMaxcliqueColourX1))) (.seq (.reg rMaxcliqueColourX19 false [] [4, 5]) .ret))))))
def qMaxcliqueColour : AFn := ⟨68, 2, [.t 4, .t 5], cMaxcliqueColour⟩
/- cohesion/maxclique.Colours -/
def rQhX0 : List O := [
 ⟨(some 1), none, .box (.t 0)⟩,
 ⟨(some 2), none, .mv (.k .nils)⟩,
 ⟨(some 3), none, .mv (.k (.int .i64 0))⟩]
def rQhX1 : List O := [
 ⟨(some 7), none, .ld (some 2) (.t 1)⟩,
 ⟨(some 8), none, .call nCoreOrder [(.t 7)]⟩,
 ⟨(some 6), none, .mv (.t 8)⟩,
 ⟨(some 9), none, .ext 0 (.t 6)⟩,
 ⟨(some 10), none, .ext 1 (.t 6)⟩,
 ⟨(some 4), none, .mv (.t 9)⟩,
 ⟨(some 5), none, .mv (.t 10)⟩]
def rQhX2 : List O := [
 ⟨(some 11), none, .mv (.t 5)⟩,
 ⟨(some 12), none, .bin .neq (.t 11) (.k (.int .i64 0))⟩]
def rQhX3 : List O := [
 ⟨(some 13), none, .mv (.t 5)⟩,
 ⟨(some 2), none, .mv (.k .nils)⟩,
 ⟨(some 3), none, .mv (.t 13)⟩]
def rQhX4 : List O := [
 ⟨(some 14), none, .mv (.t 4)⟩,
 ⟨(some 15), none, .call nSlicesReverseIntInt [(.t 14)]⟩]
def rQhX5 : List O := [
 ⟨(some 16), none, .ld (some 2) (.t 1)⟩,
 ⟨(some 17), none, .mv (.t 4)⟩,
 ⟨(some 18), none, .call nMaxcliqueColour [(.t 16), (.t 17)]⟩,
 ⟨(some 19), none, .ext 0 (.t 18)⟩,
 ⟨(some 20), none, .ext 1 (.t 18)⟩,
 ⟨(some 2), none, .mv (.t 19)⟩,
 ⟨(some 3), none, .mv (.t 20)⟩]
def cQh : C := (.seq (.reg rQhX0 false [] [1]) (.seq (.reg rQhX1 false [] [1, 4, 5]) (.seq (.seq (.reg rQhX2 false [] [1, 4, 5, 12]) (.cond (.t 12) (.seq (.reg rQhX3 false [] [2, 3]) .ret) .skip)) (.seq (.reg rQhX4 false [] [1, 4]) (.seq (.reg rQhX5 false [] [2, 3]) .ret)))))
def qQh : AFn := ⟨21, 1, [.t 2, .t 3], cQh⟩
/- cohesion/maxclique.Proper -/
def rQiX0 : List O := [
 ⟨(some 2), none, .box (.t 0)⟩,
 ⟨(some 3), none, .box (.t 1)⟩,
 ⟨(some 4), none, .mv (.k (.bool false))⟩]
def rQiX1 : List O := [
 ⟨(some 5), none, .ld (some 2) (.t 2)⟩,
 ⟨(some 6), none, .call nQq [(.t 5)]⟩,
 ⟨(some 7), none, .bin .neq (.t 6) (.k (.int .i64 0))⟩,
 ⟨(some 8), none, .mv (.t 7)⟩,
 ⟨(some 9), (some (8, false)), .ld none (.t 3)⟩,
 ⟨(some 10), (some (8, false)), .len (.t 9)⟩,
 ⟨(some 11), (some (8, false)), .fad 0 (.t 2)⟩,
 ⟨(some 12), (some (8, false)), .ld none (.t 11)⟩,
 ⟨(some 13), (some (8, false)), .bin .neq (.t 10) (.t 12)⟩,
 ⟨(some 14), none, .pick (.t 8) (.k (.bool true)) (.t 13)⟩,
 ⟨(some 15), none, .mv (.t 14)⟩,
 ⟨(some 16), (some (15, false)), .ld none (.t 3)⟩,
 ⟨(some 17), (some (15, false)), .call nSlicesContainsFuncIntInt [(.t 16), (.k (.func (.func nMaxcliqueProper1) [] []))]⟩,
 ⟨(some 18), none, .pick (.t 15) (.k (.bool true)) (.t 17)⟩]
def rQiX2 : List O := [
 ⟨(some 4), none, .mv (.k (.bool false))⟩]
def rQiX3 : List O := [
 ⟨(some 19), none, .fad 1 (.t 2)⟩,
 ⟨(some 20), none, .ld none (.t 19)⟩,
 ⟨(some 21), none, .mkf (.func nMaxcliqueProper2) [] [(.t 3)]⟩,
 ⟨(some 22), none, .call nSlicesContainsFuncApiEdgeApiEdge [(.t 20), (.t 21)]⟩,
 ⟨(some 23), none, .un .not (.t 22)⟩,
 ⟨(some 4), none, .mv (.t 23)⟩]
def cQi : C := (.seq (.reg rQiX0 false [] [2, 3]) (.seq (.seq (.reg rQiX1 false [] [2, 3, 18]) (.cond (.t 18) (.seq (.reg rQiX2 false [] [4]) .ret) .skip)) (.seq (.reg rQiX3 false [] [4]) .ret)))
def qQi : AFn := ⟨24, 2, [.t 4], cQi⟩
/- cohesion/maxclique.Bound -/
def rQoX0 : List O := [
 ⟨(some 1), none, .box (.t 0)⟩,
 ⟨(some 2), none, .mv (.k (.int .i64 0))⟩,
 ⟨(some 3), none, .mv (.k (.int .i64 0))⟩]
def rQoX1 : List O := [
 ⟨(some 8), none, .ld (some 2) (.t 1)⟩,
 ⟨(some 9), none, .call nQh [(.t 8)]⟩,
 ⟨(some 7), none, .mv (.t 9)⟩,
 ⟨(some 10), none, .ext 0 (.t 7)⟩,
 ⟨(some 11), none, .ext 1 (.t 7)⟩,
 ⟨(some 4), none, .mv (.t 10)⟩,
 ⟨(some 5), none, .mv (.t 11)⟩]
def rQoX2 : List O := [
 ⟨(some 12), none, .mv (.t 5)⟩,
 ⟨(some 13), none, .bin .neq (.t 12) (.k (.int .i64 0))⟩,
 ⟨(some 14), none, .mv (.t 13)⟩,
 ⟨(some 15), (some (14, false)), .fad 0 (.t 1)⟩,
 ⟨(some 16), (some (14, false)), .ld none (.t 15)⟩,
 ⟨(some 17), (some (14, false)), .bin .eql (.t 16) (.k (.int .i64 0))⟩,
 ⟨(some 18), none, .pick (.t 14) (.k (.bool true)) (.t 17)⟩]
def rQoX3 : List O := [
 ⟨(some 19), none, .mv (.t 5)⟩,
 ⟨(some 2), none, .mv (.k (.int .i64 0))⟩,
 ⟨(some 3), none, .mv (.t 19)⟩]
def rQoX4 : List O := [
 ⟨(some 21), none, .ld (some 2) (.t 1)⟩,
 ⟨(some 22), none, .call nCoreDegeneracy [(.t 21)]⟩,
 ⟨(some 20), none, .mv (.t 22)⟩,
 ⟨(some 23), none, .ext 0 (.t 20)⟩,
 ⟨(some 24), none, .ext 1 (.t 20)⟩,
 ⟨(some 6), none, .mv (.t 23)⟩,
 ⟨(some 5), none, .mv (.t 24)⟩]
def rQoX5 : List O := [
 ⟨(some 25), none, .mv (.t 5)⟩,
 ⟨(some 26), none, .bin .neq (.t 25) (.k (.int .i64 0))⟩]
def rQoX6 : List O := [
 ⟨(some 27), none, .mv (.t 5)⟩,
 ⟨(some 2), none, .mv (.k (.int .i64 0))⟩,
 ⟨(some 3), none, .mv (.t 27)⟩]
def rQoX7 : List O := [
 ⟨(some 28), none, .mv (.t 4)⟩,
 ⟨(some 29), none, .call nNodesetOf [(.t 28)]⟩,
 ⟨(some 30), none, .len (.t 29)⟩,
 ⟨(some 31), none, .mv (.t 6)⟩,
 ⟨(some 32), none, .bin .add (.t 31) (.k (.int .i64 1))⟩,
 ⟨(some 33), none, .min [(.t 30), (.t 32)]⟩,
 ⟨(some 2), none, .mv (.t 33)⟩,
 ⟨(some 3), none, .mv (.k (.int .i64 0))⟩]
def cQo : C := (.seq (.reg rQoX0 false [] [1]) (.seq (.reg rQoX1 false [] [1, 4, 5]) (.seq (.seq (.reg rQoX2 false [] [1, 4, 5, 18]) (.cond (.t 18) (.seq (.reg rQoX3 false [] [2, 3]) .ret) .skip)) (.seq (.reg rQoX4 false [] [4, 5, 6]) (.seq (.seq (.reg rQoX5 false [] [4, 5, 6, 26]) (.cond (.t 26) (.seq (.reg rQoX6 false [] [2, 3]) .ret) .skip)) (.seq (.reg rQoX7 false [] [2, 3]) .ret))))))
def qQo : AFn := ⟨34, 1, [.t 2, .t 3], cQo⟩
/- cohesion/graph.Check -/
def rQqX0 : List O := [
 ⟨(some 1), none, .box (.t 0)⟩,
 ⟨(some 2), none, .mv (.k (.int .i64 0))⟩]
def rQqX1 : List O := [
 ⟨(some 5), none, .fad 0 (.t 1)⟩,
 ⟨(some 6), none, .ld none (.t 5)⟩,
 ⟨(some 7), none, .bin .lss (.t 6) (.k (.int .i64 0))⟩,
 ⟨(some 8), none, .mv (.t 7)⟩,
 ⟨(some 9), (some (8, false)), .fad 0 (.t 1)⟩,
 ⟨(some 10), (some (8, false)), .ld none (.t 9)⟩,
 ⟨(some 11), (some (8, false)), .bin .gtr (.t 10) (.k (.int .i64 64))⟩,
 ⟨(some 12), none, .pick (.t 8) (.k (.bool true)) (.t 11)⟩]
def rQqX2 : List O := [
 ⟨(some 2), none, .mv (.k (.int .i64 1))⟩]
def rQqX3 : List O := [
 ⟨(some 13), none, .fad 1 (.t 1)⟩,
 ⟨(some 14), none, .ld none (.t 13)⟩,
 ⟨(some 15), none, .len (.t 14)⟩,
 ⟨(some 16), none, .mv (.k (.int .i64 0))⟩]
def rQqX4 : List O := [
 ⟨(some 17), none, .bin .lss (.t 16) (.t 15)⟩]
def rQqX5 : List O := [
 ⟨(some 18), none, .mv (.t 16)⟩,
 ⟨(some 19), none, .ixa 2 (.t 14) (.t 16)⟩,
 ⟨(some 20), none, .ld (some 2) (.t 19)⟩,
 ⟨(some 4), none, .new [(.int .i64 0), (.int .i64 0)]⟩,
 ⟨(some 3), none, .mv (.t 18)⟩,
 ⟨none, none, .st 2 (.t 4) (.t 20)⟩]
def rQqX6 : List O := [
 ⟨(some 22), none, .fad 0 (.t 4)⟩,
 ⟨(some 23), none, .ld none (.t 22)⟩,
 ⟨(some 24), none, .bin .lss (.t 23) (.k (.int .i64 0))⟩,
 ⟨(some 25), none, .mv (.t 24)⟩,
 ⟨(some 26), (some (25, false)), .fad 0 (.t 4)⟩,
 ⟨(some 27), (some (25, false)), .ld none (.t 26)⟩,
 ⟨(some 28), (some (25, false)), .fad 1 (.t 4)⟩,
 ⟨(some 29), (some (25, false)), .ld none (.t 28)⟩,
 ⟨(some 30), (some (25, false)), .bin .geq (.t 27) (.t 29)⟩,
 ⟨(some 31), none, .pick (.t 25) (.k (.bool true)) (.t 30)⟩,
 ⟨(some 32), none, .mv (.t 31)⟩,
 ⟨(some 33), (some (32, false)), .fad 1 (.t 4)⟩,
 ⟨(some 34), (some (32, false)), .ld none (.t 33)⟩,
 ⟨(some 35), (some (32, false)), .fad 0 (.t 1)⟩,
 ⟨(some 36), (some (32, false)), .ld none (.t 35)⟩,
 ⟨(some 37), (some (32, false)), .bin .geq (.t 34) (.t 36)⟩,
 ⟨(some 38), none, .pick (.t 32) (.k (.bool true)) (.t 37)⟩,
 ⟨(some 21), none, .mv (.t 38)⟩]
def rQqX7 : List O := [
 ⟨(some 2), none, .mv (.k (.int .i64 6))⟩]
def rQqX8 : List O := [
 ⟨(some 40), none, .mv (.t 3)⟩,
 ⟨(some 41), none, .bin .gtr (.t 40) (.k (.int .i64 0))⟩,
 ⟨(some 42), none, .mv (.t 41)⟩,
 ⟨(some 43), (some (42, true)), .fad 1 (.t 1)⟩,
 ⟨(some 44), (some (42, true)), .ld none (.t 43)⟩,
 ⟨(some 45), (some (42, true)), .mv (.t 3)⟩,
 ⟨(some 46), (some (42, true)), .bin .sub (.t 45) (.k (.int .i64 1))⟩,
 ⟨(some 47), (some (42, true)), .ixa 2 (.t 44) (.t 46)⟩,
 ⟨(some 48), (some (42, true)), .ld (some 2) (.t 47)⟩,
 ⟨(some 49), (some (42, true)), .ld (some 2) (.t 4)⟩,
 ⟨(some 50), (some (42, true)), .call nQz [(.t 48), (.t 49)]⟩,
 ⟨(some 51), (some (42, true)), .bin .geq (.t 50) (.k (.int .i64 0))⟩,
 ⟨(some 52), none, .pick (.t 42) (.t 51) (.k (.bool false))⟩,
 ⟨(some 39), none, .mv (.t 52)⟩]
def rQqX9 : List O := [
 ⟨(some 2), none, .mv (.k (.int .i64 5))⟩]
def rQqX10 : List O := [
 ⟨(some 53), none, .bin .add (.t 16) (.k (.int .i64 1))⟩,
 ⟨(some 16), none, .mv (.t 53)⟩]
def lQqX0 : C := (.seq (.reg rQqX4 false [] [1, 14, 15, 16, 17]) (.seq (.cond (.t 17) .skip (.exit 0)) (.seq (.blk 1 (.seq (.reg rQqX5 false [] [1, 3, 4, 14, 15, 16]) (.blk 2 (.seq (.reg rQqX6 false [] [1, 3, 4, 14, 15, 16, 21]) (.cond (.t 21) (.seq (.reg rQqX7 false [] [2]) .ret) (.seq (.reg rQqX8 true [(4, 9), (8, 9)] [1, 14, 15, 16, 39]) (.cond (.t 39) (.seq (.reg rQqX9 false [] [2]) .ret) .skip))))))) (.reg rQqX10 false [] [1, 14, 15, 16]))))
def rQqX11 : List O := [
 ⟨(some 2), none, .mv (.k (.int .i64 0))⟩]
def cQq : C := (.seq (.reg rQqX0 false [] [1]) (.seq (.seq (.reg rQqX1 false [] [1, 12]) (.cond (.t 12) (.seq (.reg rQqX2 false [] [2]) .ret) .skip)) (.seq (.seq (.reg rQqX3 false [] [1, 14, 15, 16]) (.blk 0 (.loop lQqX0))) (.seq (.reg rQqX11 false [] [2]) .ret))))
def qQq : AFn := ⟨54, 1, [.t 2], cQq⟩
/- slices.Equal[[]int,int] -/
def rSlicesEqualIntIntX0 : List O := [
 ⟨(some 4), none, .mv (.k (.bool false))⟩]
def rSlicesEqualIntIntX1 : List O := [
 ⟨(some 6), none, .mv (.t 0)⟩,
 ⟨(some 7), none, .len (.t 6)⟩,
 ⟨(some 8), none, .mv (.t 1)⟩,
 ⟨(some 9), none, .len (.t 8)⟩,
 ⟨(some 10), none, .bin .neq (.t 7) (.t 9)⟩]
def rSlicesEqualIntIntX2 : List O := [
 ⟨(some 4), none, .mv (.k (.bool false))⟩]
def rSlicesEqualIntIntX3 : List O := [
 ⟨(some 11), none, .mv (.t 0)⟩,
 ⟨(some 12), none, .len (.t 11)⟩,
 ⟨(some 13), none, .mv (.k (.int .i64 0))⟩]
def rSlicesEqualIntIntX4 : List O := [
 ⟨(some 14), none, .bin .lss (.t 13) (.t 12)⟩]
def rSlicesEqualIntIntX5 : List O := [
 ⟨(some 15), none, .mv (.t 13)⟩,
 ⟨(some 5), none, .mv (.t 15)⟩]
def rSlicesEqualIntIntX6 : List O := [
 ⟨(some 16), none, .mv (.t 0)⟩,
 ⟨(some 17), none, .mv (.t 5)⟩,
 ⟨(some 18), none, .ixa 1 (.t 16) (.t 17)⟩,
 ⟨(some 19), none, .ld none (.t 18)⟩,
 ⟨(some 20), none, .mv (.t 1)⟩,
 ⟨(some 21), none, .mv (.t 5)⟩,
 ⟨(some 22), none, .ixa 1 (.t 20) (.t 21)⟩,
 ⟨(some 23), none, .ld none (.t 22)⟩,
 ⟨(some 24), none, .bin .neq (.t 19) (.t 23)⟩]
def rSlicesEqualIntIntX7 : List O := [
 ⟨(some 4), none, .mv (.k (.bool false))⟩]
def rSlicesEqualIntIntX8 : List O := [
 ⟨(some 25), none, .bin .add (.t 13) (.k (.int .i64 1))⟩,
 ⟨(some 13), none, .mv (.t 25)⟩]
def lSlicesEqualIntIntX0 : C := (.seq (.reg rSlicesEqualIntIntX4 false [] [0, 1, 12, 13, 14]) (.seq (.cond (.t 14) .skip (.exit 0)) (.seq (.blk 1 (.seq (.reg rSlicesEqualIntIntX5 false [] [0, 1, 5, 12, 13]) (.seq (.reg rSlicesEqualIntIntX6 true [(3, 7)] [0, 1, 12, 13, 24]) (.cond (.t 24) (.seq (.reg rSlicesEqualIntIntX7 false [] [4]) .ret) .skip)))) (.reg rSlicesEqualIntIntX8 false [] [0, 1, 12, 13]))))
def rSlicesEqualIntIntX9 : List O := [
 ⟨(some 4), none, .mv (.k (.bool true))⟩]
def cSlicesEqualIntInt : C := (.seq (.reg rSlicesEqualIntIntX0 false [] [0, 1]) (.seq (.seq (.reg rSlicesEqualIntIntX1 false [] [0, 1, 10]) (.cond (.t 10) (.seq (.reg rSlicesEqualIntIntX2 false [] [4]) .ret) .skip)) (.seq (.seq (.reg rSlicesEqualIntIntX3 false [] [0, 1, 12, 13]) (.blk 0 (.loop lSlicesEqualIntIntX0))) (.seq (.reg rSlicesEqualIntIntX9 false [] [4]) .ret))))
def qSlicesEqualIntInt : AFn := ⟨26, 2, [.t 4], cSlicesEqualIntInt⟩
/- cohesion/nodeset.Of -/
def rNodesetOfX0 : List O := [
 ⟨(some 2), none, .mv (.k .nils)⟩]
def rNodesetOfX1 : List O := [
 ⟨(some 3), none, .mv (.t 0)⟩,
 ⟨(some 4), none, .call nNodesetUnion [(.t 3), (.k .nils)]⟩,
 ⟨(some 2), none, .mv (.t 4)⟩]
def cNodesetOf : C := (.seq (.reg rNodesetOfX0 false [] [0]) (.seq (.reg rNodesetOfX1 false [] [2]) .ret))
def qNodesetOf : AFn := ⟨5, 1, [.t 2], cNodesetOf⟩
/- cohesion/nodeset.Range -/
def rNodesetRangeX0 : List O := [
 ⟨(some 2), none, .mv (.k .nils)⟩]
def rNodesetRangeX1 : List O := [
 ⟨(some 3), none, .mv (.k .nils)⟩]
def rNodesetRangeX2 : List O := [
 ⟨(some 5), none, .mv (.t 0)⟩,
 ⟨(some 6), none, .max [(.t 5), (.k (.int .i64 0))]⟩,
 ⟨(some 7), none, .min [(.t 6), (.k (.int .i64 64))]⟩,
 ⟨(some 8), none, .mv (.k (.int .i64 0))⟩]
def rNodesetRangeX3 : List O := [
 ⟨(some 9), none, .bin .lss (.t 8) (.t 7)⟩]
def rNodesetRangeX4 : List O := [
 ⟨(some 10), none, .mv (.t 8)⟩,
 ⟨(some 4), none, .mv (.t 10)⟩]
def rNodesetRangeX5 : List O := [
 ⟨(some 11), none, .mv (.t 3)⟩,
 ⟨(some 12), none, .mv (.t 4)⟩,
 ⟨(some 13), none, .bslice 1 1 [(.int .i64 0)] [(0, 1, (.t 12))]⟩,
 ⟨(some 14), none, .app 1 (.t 11) (.t 13)⟩,
 ⟨(some 3), none, .mv (.t 14)⟩]
def rNodesetRangeX6 : List O := [
 ⟨(some 15), none, .bin .add (.t 8) (.k (.int .i64 1))⟩,
 ⟨(some 8), none, .mv (.t 15)⟩]
def lNodesetRangeX0 : C := (.seq (.reg rNodesetRangeX3 false [] [3, 7, 8, 9]) (.seq (.cond (.t 9) .skip (.exit 0)) (.seq (.blk 1 (.seq (.reg rNodesetRangeX4 false [] [3, 4, 7, 8]) (.reg rNodesetRangeX5 false [] [3, 7, 8]))) (.reg rNodesetRangeX6 false [] [3, 7, 8]))))
def rNodesetRangeX7 : List O := [
 ⟨(some 16), none, .mv (.t 3)⟩,
 ⟨(some 2), none, .mv (.t 16)⟩]
def cNodesetRange : C := (.seq (.reg rNodesetRangeX0 false [] [0]) (.seq (.reg rNodesetRangeX1 false [] [0, 3]) (.seq (.seq (.reg rNodesetRangeX2 false [] [3, 7, 8]) (.blk 0 (.loop lNodesetRangeX0))) (.seq (.reg rNodesetRangeX7 false [] [2]) .ret))))
def qNodesetRange : AFn := ⟨17, 1, [.t 2], cNodesetRange⟩
/- slices.Repeat[[]int,int] -/
def rSlicesRepeatIntIntX0 : List O := [
 ⟨(some 4), none, .mv (.k .nils)⟩]
def rSlicesRepeatIntIntX1 : List O := [
 ⟨(some 9), none, .mv (.t 1)⟩,
 ⟨(some 10), none, .bin .lss (.t 9) (.k (.int .i64 0))⟩]
def rSlicesRepeatIntIntX2 : List O := [
 ⟨(some 11), none, .bad⟩,
 ⟨none, none, .bad⟩]
def rSlicesRepeatIntIntX3 : List O := [
 ⟨(some 13), none, .mv (.t 0)⟩,
 ⟨(some 14), none, .len (.t 13)⟩,
 ⟨(some 15), none, .cvt .u64 (.t 14)⟩,
 ⟨(some 16), none, .mv (.t 1)⟩,
 ⟨(some 17), none, .cvt .u64 (.t 16)⟩,
 ⟨(some 18), none, .call nMathBitsMul [(.t 15), (.t 17)]⟩,
 ⟨(some 12), none, .mv (.t 18)⟩,
 ⟨(some 19), none, .ext 0 (.t 12)⟩,
 ⟨(some 20), none, .ext 1 (.t 12)⟩,
 ⟨(some 5), none, .mv (.t 19)⟩,
 ⟨(some 6), none, .mv (.t 20)⟩]
def rSlicesRepeatIntIntX4 : List O := [
 ⟨(some 21), none, .mv (.t 5)⟩,
 ⟨(some 22), none, .bin .gtr (.t 21) (.k (.int .u64 0))⟩,
 ⟨(some 23), none, .mv (.t 22)⟩,
 ⟨(some 24), (some (23, false)), .mv (.t 6)⟩,
 ⟨(some 25), (some (23, false)), .bin .gtr (.t 24) (.k (.int .u64 9223372036854775807))⟩,
 ⟨(some 26), none, .pick (.t 23) (.k (.bool true)) (.t 25)⟩]
def rSlicesRepeatIntIntX5 : List O := [
 ⟨(some 27), none, .bad⟩,
 ⟨none, none, .bad⟩]
def rSlicesRepeatIntIntX6 : List O := [
 ⟨(some 28), none, .mv (.t 6)⟩,
 ⟨(some 29), none, .cvt .i64 (.t 28)⟩,
 ⟨(some 30), none, .mks 1 [(.int .i64 0)] (.t 29) (.t 29)⟩,
 ⟨(some 7), none, .mv (.t 30)⟩]
def rSlicesRepeatIntIntX7 : List O := [
 ⟨(some 31), none, .mv (.t 7)⟩,
 ⟨(some 32), none, .mv (.t 0)⟩,
 ⟨(some 33), none, .copy 1 (.t 31) (.t 32)⟩,
 ⟨(some 8), none, .mv (.t 33)⟩]
def rSlicesRepeatIntIntX8 : List O := [
 ⟨(some 34), none, .mv (.t 8)⟩,
 ⟨(some 35), none, .mv (.t 7)⟩,
 ⟨(some 36), none, .len (.t 35)⟩,
 ⟨(some 37), none, .bin .lss (.t 34) (.t 36)⟩]
def rSlicesRepeatIntIntX9 : List O := [
 ⟨(some 38), none, .mv (.t 8)⟩,
 ⟨(some 39), none, .mv (.t 7)⟩,
 ⟨(some 40), none, .mv (.t 8)⟩,
 ⟨(some 41), none, .slc 1 (.t 39) (some (.t 40)) none⟩,
 ⟨(some 42), none, .mv (.t 7)⟩,
 ⟨(some 43), none, .mv (.t 8)⟩,
 ⟨(some 44), none, .slc 1 (.t 42) none (some (.t 43))⟩,
 ⟨(some 45), none, .copy 1 (.t 41) (.t 44)⟩,
 ⟨(some 46), none, .bin .add (.t 38) (.t 45)⟩,
 ⟨(some 8), none, .mv (.t 46)⟩]
def lSlicesRepeatIntIntX0 : C := (.seq (.seq (.reg rSlicesRepeatIntIntX8 false [] [7, 8, 37]) (.cond (.t 37) .skip (.exit 0))) (.blk 1 (.reg rSlicesRepeatIntIntX9 true [] [7, 8])))
def rSlicesRepeatIntIntX10 : List O := [
 ⟨(some 47), none, .mv (.t 7)⟩,
 ⟨(some 4), none, .mv (.t 47)⟩]
def cSlicesRepeatIntInt : C := (.seq (.reg rSlicesRepeatIntIntX0 false [] [0, 1]) (.seq (.seq (.reg rSlicesRepeatIntIntX1 false [] [0, 1, 10]) (.cond (.t 10) (.reg rSlicesRepeatIntIntX2 false [] [0, 1]) .skip)) (.seq (.reg rSlicesRepeatIntIntX3 false [] [0, 5, 6]) (.seq (.seq (.reg rSlicesRepeatIntIntX4 false [] [0, 6, 26]) (.cond (.t 26) (.reg rSlicesRepeatIntIntX5 false [] [0, 6]) .skip)) (.seq (.reg rSlicesRepeatIntIntX6 false [] [0, 7]) (.seq (.reg rSlicesRepeatIntIntX7 false [] [7, 8]) (.seq (.blk 0 (.loop lSlicesRepeatIntIntX0)) (.seq (.reg rSlicesRepeatIntIntX10 false [] [4]) .ret))))))))
def qSlicesRepeatIntInt : AFn := ⟨48, 2, [.t 4], cSlicesRepeatIntInt⟩
/- cohesion/graph.Neighbours -/
def rGraphNeighboursX0 : List O := [
 ⟨(some 2), none, .box (.t 0)⟩,
 ⟨(some 4), none, .mv (.k .nils)⟩]
def rGraphNeighboursX1 : List O := [
 ⟨(some 5), none, .ld (some 2) (.t 2)⟩,
 ⟨(some 6), none, .mv (.t 1)⟩,
 ⟨(some 7), none, .call nGraphRow [(.t 5), (.t 6)]⟩,
 ⟨(some 8), none, .call nMasksList [(.t 7)]⟩,
 ⟨(some 4), none, .mv (.t 8)⟩]
def cGraphNeighbours : C := (.seq (.reg rGraphNeighboursX0 false [] [1, 2]) (.seq (.reg rGraphNeighboursX1 false [] [4]) .ret))
def qGraphNeighbours : AFn := ⟨9, 2, [.t 4], cGraphNeighbours⟩
/- slices.Index[[]bool,bool] -/
def rSlicesIndexBoolBoolX0 : List O := [
 ⟨(some 4), none, .mv (.k (.int .i64 0))⟩]
def rSlicesIndexBoolBoolX1 : List O := [
 ⟨(some 6), none, .mv (.t 0)⟩,
 ⟨(some 7), none, .len (.t 6)⟩,
 ⟨(some 8), none, .mv (.k (.int .i64 0))⟩]
def rSlicesIndexBoolBoolX2 : List O := [
 ⟨(some 9), none, .bin .lss (.t 8) (.t 7)⟩]
def rSlicesIndexBoolBoolX3 : List O := [
 ⟨(some 10), none, .mv (.t 8)⟩,
 ⟨(some 5), none, .mv (.t 10)⟩]
def rSlicesIndexBoolBoolX4 : List O := [
 ⟨(some 11), none, .mv (.t 1)⟩,
 ⟨(some 12), none, .mv (.t 0)⟩,
 ⟨(some 13), none, .mv (.t 5)⟩,
 ⟨(some 14), none, .ixa 1 (.t 12) (.t 13)⟩,
 ⟨(some 15), none, .ld none (.t 14)⟩,
 ⟨(some 16), none, .eq false .bool (.t 11) (.t 15)⟩]
def rSlicesIndexBoolBoolX5 : List O := [
 ⟨(some 17), none, .mv (.t 5)⟩,
 ⟨(some 4), none, .mv (.t 17)⟩]
def rSlicesIndexBoolBoolX6 : List O := [
 ⟨(some 18), none, .bin .add (.t 8) (.k (.int .i64 1))⟩,
 ⟨(some 8), none, .mv (.t 18)⟩]
def lSlicesIndexBoolBoolX0 : C := (.seq (.reg rSlicesIndexBoolBoolX2 false [] [0, 1, 7, 8, 9]) (.seq (.cond (.t 9) .skip (.exit 0)) (.seq (.blk 1 (.seq (.reg rSlicesIndexBoolBoolX3 false [] [0, 1, 5, 7, 8]) (.seq (.reg rSlicesIndexBoolBoolX4 false [] [0, 1, 5, 7, 8, 16]) (.cond (.t 16) (.seq (.reg rSlicesIndexBoolBoolX5 false [] [4]) .ret) .skip)))) (.reg rSlicesIndexBoolBoolX6 false [] [0, 1, 7, 8]))))
def rSlicesIndexBoolBoolX7 : List O := [
 ⟨(some 4), none, .mv (.k (.int .i64 (-1)))⟩]
def cSlicesIndexBoolBool : C := (.seq (.reg rSlicesIndexBoolBoolX0 false [] [0, 1]) (.seq (.seq (.reg rSlicesIndexBoolBoolX1 false [] [0, 1, 7, 8]) (.blk 0 (.loop lSlicesIndexBoolBoolX0))) (.seq (.reg rSlicesIndexBoolBoolX7 false [] [4]) .ret)))
def qSlicesIndexBoolBool : AFn := ⟨19, 2, [.t 4], cSlicesIndexBoolBool⟩
/- cohesion/core.Order -/
def rCoreOrderX0 : List O := [
 ⟨(some 1), none, .box (.t 0)⟩,
 ⟨(some 2), none, .mv (.k .nils)⟩,
 ⟨(some 3), none, .mv (.k (.int .i64 0))⟩]
def rCoreOrderX1 : List O := [
 ⟨(some 7), none, .ld (some 2) (.t 1)⟩,
 ⟨(some 8), none, .call nQq [(.t 7)]⟩,
 ⟨(some 4), none, .mv (.t 8)⟩]
def rCoreOrderX2 : List O := [
 ⟨(some 9), none, .mv (.t 4)⟩,
 ⟨(some 10), none, .bin .neq (.t 9) (.k (.int .i64 0))⟩]
def rCoreOrderX3 : List O := [
 ⟨(some 11), none, .mv (.t 4)⟩,
 ⟨(some 2), none, .mv (.k .nils)⟩,
 ⟨(some 3), none, .mv (.t 11)⟩]
def rCoreOrderX4 : List O := [
 ⟨(some 13), none, .ld (some 2) (.t 1)⟩,
 ⟨(some 14), none, .call nCorePeel [(.t 13)]⟩,
 ⟨(some 12), none, .mv (.t 14)⟩,
 ⟨(some 15), none, .ext 0 (.t 12)⟩,
 ⟨(some 16), none, .ext 1 (.t 12)⟩,
 ⟨(some 5), none, .mv (.t 15)⟩,
 ⟨(some 6), none, .mv (.t 16)⟩]
def rCoreOrderX5 : List O := [
 ⟨(some 17), none, .mv (.t 5)⟩,
 ⟨(some 2), none, .mv (.t 17)⟩,
 ⟨(some 3), none, .mv (.k (.int .i64 0))⟩]
def cCoreOrder : C := (.seq (.reg rCoreOrderX0 false [] [1]) (.seq (.seq (.reg rCoreOrderX1 false [] [1, 4]) (.seq (.reg rCoreOrderX2 false [] [1, 4, 10]) (.cond (.t 10) (.seq (.reg rCoreOrderX3 false [] [2, 3]) .ret) .skip))) (.seq (.reg rCoreOrderX4 false [] [5]) (.seq (.reg rCoreOrderX5 false [] [2, 3]) .ret))))
def qCoreOrder : AFn := ⟨18, 1, [.t 2, .t 3], cCoreOrder⟩
/- slices.Reverse[[]int,int] -/
def rSlicesReverseIntIntX0 : List O := [
 ⟨(some 4), none, .mv (.t 0)⟩,
 ⟨(some 5), none, .len (.t 4)⟩,
 ⟨(some 6), none, .bin .sub (.t 5) (.k (.int .i64 1))⟩,
 ⟨(some 2), none, .mv (.k (.int .i64 0))⟩,
 ⟨(some 3), none, .mv (.t 6)⟩]
def rSlicesReverseIntIntX1 : List O := [
 ⟨(some 7), none, .mv (.t 2)⟩,
 ⟨(some 8), none, .mv (.t 3)⟩,
 ⟨(some 9), none, .bin .lss (.t 7) (.t 8)⟩]
def rSlicesReverseIntIntX2 : List O := [
 ⟨(some 14), none, .mv (.t 0)⟩,
 ⟨(some 15), none, .mv (.t 2)⟩,
 ⟨(some 16), none, .mv (.t 0)⟩,
 ⟨(some 17), none, .mv (.t 3)⟩,
 ⟨(some 18), none, .mv (.t 0)⟩,
 ⟨(some 19), none, .mv (.t 3)⟩,
 ⟨(some 20), none, .ixa 1 (.t 18) (.t 19)⟩,
 ⟨(some 21), none, .ld none (.t 20)⟩,
 ⟨(some 22), none, .mv (.t 0)⟩,
 ⟨(some 23), none, .mv (.t 2)⟩,
 ⟨(some 24), none, .ixa 1 (.t 22) (.t 23)⟩,
 ⟨(some 25), none, .ld none (.t 24)⟩,
 ⟨(some 26), none, .ixa 1 (.t 14) (.t 15)⟩,
 ⟨none, none, .st 1 (.t 26) (.t 21)⟩,
 ⟨(some 27), none, .ixa 1 (.t 16) (.t 17)⟩,
 ⟨none, none, .st 1 (.t 27) (.t 25)⟩]
def rSlicesReverseIntIntX3 : List O := [
 ⟨(some 10), none, .mv (.t 2)⟩,
 ⟨(some 11), none, .bin .add (.t 10) (.k (.int .i64 1))⟩,
 ⟨(some 12), none, .mv (.t 3)⟩,
 ⟨(some 13), none, .bin .sub (.t 12) (.k (.int .i64 1))⟩,
 ⟨(some 2), none, .mv (.t 11)⟩,
 ⟨(some 3), none, .mv (.t 13)⟩]
def lSlicesReverseIntIntX0 : C := (.seq (.seq (.reg rSlicesReverseIntIntX1 false [] [0, 2, 3, 9]) (.cond (.t 9) .skip (.exit 0))) (.seq (.blk 1 (.reg rSlicesReverseIntIntX2 true [(7, 11)] [0, 2, 3])) (.reg rSlicesReverseIntIntX3 false [] [0, 2, 3])))
def cSlicesReverseIntInt : C := (.seq (.reg rSlicesReverseIntIntX0 false [] [0, 2, 3]) (.blk 0 (.loop lSlicesReverseIntIntX0)))
def qSlicesReverseIntInt : AFn := ⟨28, 1, [], cSlicesReverseIntInt⟩
/- slices.ContainsFunc[[]int,int] -/
def rSlicesContainsFuncIntIntX0 : List O := [
 ⟨(some 4), none, .mv (.k (.bool false))⟩]
def rSlicesContainsFuncIntIntX1 : List O := [
 ⟨(some 5), none, .mv (.t 0)⟩,
 ⟨(some 6), none, .mv (.t 1)⟩,
 ⟨(some 7), none, .call nSlicesIndexFuncIntInt [(.t 5), (.t 6)]⟩,
 ⟨(some 8), none, .bin .geq (.t 7) (.k (.int .i64 0))⟩,
 ⟨(some 4), none, .mv (.t 8)⟩]
def cSlicesContainsFuncIntInt : C := (.seq (.reg rSlicesContainsFuncIntIntX0 false [] [0, 1]) (.seq (.reg rSlicesContainsFuncIntIntX1 false [] [4]) .ret))
def qSlicesContainsFuncIntInt : AFn := ⟨9, 2, [.t 4], cSlicesContainsFuncIntInt⟩
/- cohesion/maxclique.Proper$1 -/
def rMaxcliqueProper1X0 : List O := [
 ⟨(some 2), none, .mv (.k (.bool false))⟩]
def rMaxcliqueProper1X1 : List O := [
 ⟨(some 3), none, .mv (.t 0)⟩,
 ⟨(some 4), none, .bin .lss (.t 3) (.k (.int .i64 0))⟩,
 ⟨(some 2), none, .mv (.t 4)⟩]
def cMaxcliqueProper1 : C := (.seq (.reg rMaxcliqueProper1X0 false [] [0]) (.seq (.reg rMaxcliqueProper1X1 false [] [2]) .ret))
def qMaxcliqueProper1 : AFn := ⟨5, 1, [.t 2], cMaxcliqueProper1⟩
/- slices.ContainsFunc[[]cohesion/api.Edge,cohesion/api.Edge] -/
def rSlicesContainsFuncApiEdgeApiEdgeX0 : List O := [
 ⟨(some 4), none, .mv (.k (.bool false))⟩]
def rSlicesContainsFuncApiEdgeApiEdgeX1 : List O := [
 ⟨(some 5), none, .mv (.t 0)⟩,
 ⟨(some 6), none, .mv (.t 1)⟩,
 ⟨(some 7), none, .call nSlicesIndexFuncApiEdgeApiEdge [(.t 5), (.t 6)]⟩,
 ⟨(some 8), none, .bin .geq (.t 7) (.k (.int .i64 0))⟩,
 ⟨(some 4), none, .mv (.t 8)⟩]
def cSlicesContainsFuncApiEdgeApiEdge : C := (.seq (.reg rSlicesContainsFuncApiEdgeApiEdgeX0 false [] [0, 1]) (.seq (.reg rSlicesContainsFuncApiEdgeApiEdgeX1 false [] [4]) .ret))
def qSlicesContainsFuncApiEdgeApiEdge : AFn := ⟨9, 2, [.t 4], cSlicesContainsFuncApiEdgeApiEdge⟩
/- cohesion/maxclique.Proper$2 -/
def rMaxcliqueProper2X0 : List O := [
 ⟨(some 2), none, .box (.t 0)⟩,
 ⟨(some 3), none, .mv (.k (.bool false))⟩]
def rMaxcliqueProper2X1 : List O := [
 ⟨(some 4), none, .ld none (.t 1)⟩,
 ⟨(some 5), none, .fad 0 (.t 2)⟩,
 ⟨(some 6), none, .ld none (.t 5)⟩,
 ⟨(some 7), none, .ixa 1 (.t 4) (.t 6)⟩,
 ⟨(some 8), none, .ld none (.t 7)⟩,
 ⟨(some 9), none, .ld none (.t 1)⟩,
 ⟨(some 10), none, .fad 1 (.t 2)⟩,
 ⟨(some 11), none, .ld none (.t 10)⟩,
 ⟨(some 12), none, .ixa 1 (.t 9) (.t 11)⟩,
 ⟨(some 13), none, .ld none (.t 12)⟩,
 ⟨(some 14), none, .bin .eql (.t 8) (.t 13)⟩,
 ⟨(some 3), none, .mv (.t 14)⟩]
def cMaxcliqueProper2 : C := (.seq (.reg rMaxcliqueProper2X0 false [] [1, 2]) (.seq (.reg rMaxcliqueProper2X1 true [(0, 2), (0, 5), (2, 5), (4, 5), (0, 7), (2, 7), (4, 7), (5, 7), (0, 9), (2, 9), (4, 9)] [3]) .ret))
def qMaxcliqueProper2 : AFn := ⟨15, 1, [.t 3], cMaxcliqueProper2⟩
/- math/bits.TrailingZeros64 -/
def rQxX0 : List O := [
 ⟨(some 2), none, .mv (.k (.int .i64 0))⟩]
def rQxX1 : List O := [
 ⟨(some 3), none, .mv (.t 0)⟩,
 ⟨(some 4), none, .bin .eql (.t 3) (.k (.int .u64 0))⟩]
def rQxX2 : List O := [
 ⟨(some 2), none, .mv (.k (.int .i64 64))⟩]
def rQxX3 : List O := [
 ⟨(some 5), none, .mv (.t 0)⟩,
 ⟨(some 6), none, .mv (.t 0)⟩,
 ⟨(some 7), none, .un .neg (.t 6)⟩,
 ⟨(some 8), none, .bin .and (.t 5) (.t 7)⟩,
 ⟨(some 9), none, .bin .mul (.t 8) (.k (.int .u64 285870213051353865))⟩,
 ⟨(some 10), none, .bin .shr (.t 9) (.k (.int .u64 58))⟩,
 ⟨(some 11), none, .ixp 64 1 (.g 0) (.t 10)⟩,
 ⟨(some 12), none, .ld none (.t 11)⟩,
 ⟨(some 13), none, .cvt .i64 (.t 12)⟩,
 ⟨(some 2), none, .mv (.t 13)⟩]
def cQx : C := (.seq (.reg rQxX0 false [] [0]) (.seq (.seq (.reg rQxX1 false [] [0, 4]) (.cond (.t 4) (.seq (.reg rQxX2 false [] [2]) .ret) .skip)) (.seq (.reg rQxX3 false [] [2]) .ret)))
def qQx : AFn := ⟨14, 1, [.t 2], cQx⟩
/- cohesion/core.Degeneracy -/
def rCoreDegeneracyX0 : List O := [
 ⟨(some 1), none, .box (.t 0)⟩,
 ⟨(some 2), none, .mv (.k (.int .i64 0))⟩,
 ⟨(some 3), none, .mv (.k (.int .i64 0))⟩]
def rCoreDegeneracyX1 : List O := [
 ⟨(some 10), none, .ld (some 2) (.t 1)⟩,
 ⟨(some 11), none, .call nCoreNumbers [(.t 10)]⟩,
 ⟨(some 9), none, .mv (.t 11)⟩,
 ⟨(some 12), none, .ext 0 (.t 9)⟩,
 ⟨(some 13), none, .ext 1 (.t 9)⟩,
 ⟨(some 4), none, .mv (.t 12)⟩,
 ⟨(some 5), none, .mv (.t 13)⟩]
def rCoreDegeneracyX2 : List O := [
 ⟨(some 6), none, .mv (.k (.int .i64 0))⟩]
def rCoreDegeneracyX3 : List O := [
 ⟨(some 14), none, .mv (.t 4)⟩,
 ⟨(some 15), none, .len (.t 14)⟩,
 ⟨(some 16), none, .mv (.k (.int .i64 0))⟩]
def rCoreDegeneracyX4 : List O := [
 ⟨(some 17), none, .bin .lss (.t 16) (.t 15)⟩]
def rCoreDegeneracyX5 : List O := [
 ⟨(some 18), none, .ixa 1 (.t 14) (.t 16)⟩,
 ⟨(some 19), none, .ld none (.t 18)⟩,
 ⟨(some 8), none, .mv (.t 19)⟩]
def rCoreDegeneracyX6 : List O := [
 ⟨(some 20), none, .mv (.t 6)⟩,
 ⟨(some 21), none, .mv (.t 8)⟩,
 ⟨(some 22), none, .max [(.t 20), (.t 21)]⟩,
 ⟨(some 6), none, .mv (.t 22)⟩]
def rCoreDegeneracyX7 : List O := [
 ⟨(some 23), none, .bin .add (.t 16) (.k (.int .i64 1))⟩,
 ⟨(some 16), none, .mv (.t 23)⟩]
def lCoreDegeneracyX0 : C := (.seq (.reg rCoreDegeneracyX4 false [] [5, 6, 14, 15, 16, 17]) (.seq (.cond (.t 17) .skip (.exit 0)) (.seq (.blk 1 (.seq (.reg rCoreDegeneracyX5 false [] [5, 6, 8, 14, 15, 16]) (.reg rCoreDegeneracyX6 false [] [5, 6, 14, 15, 16]))) (.reg rCoreDegeneracyX7 false [] [5, 6, 14, 15, 16]))))
def rCoreDegeneracyX8 : List O := [
 ⟨(some 24), none, .mv (.t 6)⟩,
 ⟨(some 25), none, .mv (.t 5)⟩,
 ⟨(some 2), none, .mv (.t 24)⟩,
 ⟨(some 3), none, .mv (.t 25)⟩]
def cCoreDegeneracy : C := (.seq (.reg rCoreDegeneracyX0 false [] [1]) (.seq (.reg rCoreDegeneracyX1 false [] [4, 5]) (.seq (.reg rCoreDegeneracyX2 false [] [4, 5, 6]) (.seq (.seq (.reg rCoreDegeneracyX3 false [] [5, 6, 14, 15, 16]) (.blk 0 (.loop lCoreDegeneracyX0))) (.seq (.reg rCoreDegeneracyX8 false [] [2, 3]) .ret)))))
def qCoreDegeneracy : AFn := ⟨26, 1, [.t 2, .t 3], cCoreDegeneracy⟩
/- cohesion/graph.Order -/
def rQzX0 : List O := [
 ⟨(some 2), none, .box (.t 0)⟩,
 ⟨(some 3), none, .box (.t 1)⟩,
 ⟨(some 4), none, .mv (.k (.int .i64 0))⟩]
def rQzX1 : List O := [
 ⟨(some 5), none, .fad 0 (.t 2)⟩,
 ⟨(some 6), none, .ld none (.t 5)⟩,
 ⟨(some 7), none, .fad 0 (.t 3)⟩,
 ⟨(some 8), none, .ld none (.t 7)⟩,
 ⟨(some 9), none, .call nQF [(.t 6), (.t 8)]⟩,
 ⟨(some 10), none, .fad 1 (.t 2)⟩,
 ⟨(some 11), none, .ld none (.t 10)⟩,
 ⟨(some 12), none, .fad 1 (.t 3)⟩,
 ⟨(some 13), none, .ld none (.t 12)⟩,
 ⟨(some 14), none, .call nQF [(.t 11), (.t 13)]⟩,
 ⟨(some 15), none, .bslice 1 2 [(.int .i64 0)] [(0, 1, (.t 9)), (1, 1, (.t 14))]⟩,
 ⟨(some 16), none, .call nQE [(.t 15)]⟩,
 ⟨(some 4), none, .mv (.t 16)⟩]
def cQz : C := (.seq (.reg rQzX0 false [] [2, 3]) (.seq (.reg rQzX1 true [(1, 3), (1, 6), (3, 6), (4, 6), (1, 8), (3, 8), (4, 8), (6, 8)] [4]) .ret))
def qQz : AFn := ⟨17, 2, [.t 4], cQz⟩
/- cohesion/nodeset.Union -/
def rNodesetUnionX0 : List O := [
 ⟨(some 4), none, .mv (.k .nils)⟩]
def rNodesetUnionX1 : List O := [
 ⟨(some 5), none, .mv (.t 0)⟩,
 ⟨(some 6), none, .mv (.t 1)⟩,
 ⟨(some 7), none, .call nNodesetMergedInt [(.t 5), (.t 6), (.k (.func (.func nNodesetUnion1) [] []))]⟩,
 ⟨(some 4), none, .mv (.t 7)⟩]
def cNodesetUnion : C := (.seq (.reg rNodesetUnionX0 false [] [0, 1]) (.seq (.reg rNodesetUnionX1 false [] [4]) .ret))
def qNodesetUnion : AFn := ⟨8, 2, [.t 4], cNodesetUnion⟩
/- math/bits.Mul -/
def rMathBitsMulX0 : List O := [
 ⟨(some 4), none, .mv (.k (.int .u64 0))⟩,
 ⟨(some 5), none, .mv (.k (.int .u64 0))⟩]
def rMathBitsMulX1 : List O := [
 ⟨(some 11), none, .mv (.t 0)⟩,
 ⟨(some 12), none, .cvt .u32 (.t 11)⟩,
 ⟨(some 13), none, .mv (.t 1)⟩,
 ⟨(some 14), none, .cvt .u32 (.t 13)⟩,
 ⟨(some 15), none, .call nMathBitsMul32 [(.t 12), (.t 14)]⟩,
 ⟨(some 10), none, .mv (.t 15)⟩,
 ⟨(some 16), none, .ext 0 (.t 10)⟩,
 ⟨(some 17), none, .ext 1 (.t 10)⟩,
 ⟨(some 6), none, .mv (.t 16)⟩,
 ⟨(some 7), none, .mv (.t 17)⟩]
def rMathBitsMulX2 : List O := [
 ⟨(some 18), none, .mv (.t 6)⟩,
 ⟨(some 19), none, .cvt .u64 (.t 18)⟩,
 ⟨(some 20), none, .mv (.t 7)⟩,
 ⟨(some 21), none, .cvt .u64 (.t 20)⟩,
 ⟨(some 4), none, .mv (.t 19)⟩,
 ⟨(some 5), none, .mv (.t 21)⟩]
def rMathBitsMulX3 : List O := [
 ⟨(some 23), none, .mv (.t 0)⟩,
 ⟨(some 24), none, .mv (.t 1)⟩,
 ⟨(some 25), none, .call nMathBitsMul64 [(.t 23), (.t 24)]⟩,
 ⟨(some 22), none, .mv (.t 25)⟩,
 ⟨(some 26), none, .ext 0 (.t 22)⟩,
 ⟨(some 27), none, .ext 1 (.t 22)⟩,
 ⟨(some 8), none, .mv (.t 26)⟩,
 ⟨(some 9), none, .mv (.t 27)⟩]
def rMathBitsMulX4 : List O := [
 ⟨(some 28), none, .mv (.t 8)⟩,
 ⟨(some 29), none, .mv (.t 9)⟩,
 ⟨(some 4), none, .mv (.t 28)⟩,
 ⟨(some 5), none, .mv (.t 29)⟩]
def cMathBitsMul : C := (.seq (.reg rMathBitsMulX0 false [] [0, 1]) (.seq (.cond (.k (.bool false)) (.seq (.reg rMathBitsMulX1 false [] [6, 7]) (.seq (.reg rMathBitsMulX2 false [] [4, 5]) .ret)) .skip) (.seq (.reg rMathBitsMulX3 false [] [8, 9]) (.seq (.reg rMathBitsMulX4 false [] [4, 5]) .ret))))
def qMathBitsMul : AFn := ⟨30, 2, [.t 4, .t 5], cMathBitsMul⟩
/- cohesion/masks.List -/
def rMasksListX0 : List O := [
 ⟨(some 2), none, .mv (.k .nils)⟩]
def rMasksListX1 : List O := [
 ⟨(some 3), none, .mv (.k .nils)⟩]
def rMasksListX2 : List O := [
 ⟨(some 4), none, .mv (.t 0)⟩,
 ⟨(some 5), none, .bin .neq (.t 4) (.k (.int .u64 0))⟩]
def rMasksListX3 : List O := [
 ⟨(some 10), none, .mv (.t 3)⟩,
 ⟨(some 11), none, .mv (.t 0)⟩,
 ⟨(some 12), none, .call nQx [(.t 11)]⟩,
 ⟨(some 13), none, .bslice 1 1 [(.int .i64 0)] [(0, 1, (.t 12))]⟩,
 ⟨(some 14), none, .app 1 (.t 10) (.t 13)⟩,
 ⟨(some 3), none, .mv (.t 14)⟩]
def rMasksListX4 : List O := [
 ⟨(some 6), none, .mv (.t 0)⟩,
 ⟨(some 7), none, .mv (.t 0)⟩,
 ⟨(some 8), none, .bin .sub (.t 7) (.k (.int .u64 1))⟩,
 ⟨(some 9), none, .bin .and (.t 6) (.t 8)⟩,
 ⟨(some 0), none, .mv (.t 9)⟩]
def lMasksListX0 : C := (.seq (.seq (.reg rMasksListX2 false [] [0, 3, 5]) (.cond (.t 5) .skip (.exit 0))) (.seq (.blk 1 (.reg rMasksListX3 false [] [0, 3])) (.reg rMasksListX4 false [] [0, 3])))
def rMasksListX5 : List O := [
 ⟨(some 15), none, .mv (.t 3)⟩,
 ⟨(some 2), none, .mv (.t 15)⟩]
def cMasksList : C := (.seq (.reg rMasksListX0 false [] [0]) (.seq (.reg rMasksListX1 false [] [0, 3]) (.seq (.blk 0 (.loop lMasksListX0)) (.seq (.reg rMasksListX5 false [] [2]) .ret))))
def qMasksList : AFn := ⟨16, 1, [.t 2], cMasksList⟩
/- cohesion/graph.row -/
def rGraphRowX0 : List O := [
 ⟨(some 2), none, .box (.t 0)⟩,
 ⟨(some 4), none, .mv (.k (.int .u64 0))⟩]
def rGraphRowX1 : List O := [
 ⟨(some 6), none, .ld (some 2) (.t 2)⟩,
 ⟨(some 7), none, .call nMasksRows [(.t 6)]⟩,
 ⟨(some 5), none, .mv (.t 7)⟩]
def rGraphRowX2 : List O := [
 ⟨(some 8), none, .mv (.t 1)⟩,
 ⟨(some 9), none, .bin .lss (.t 8) (.k (.int .i64 0))⟩,
 ⟨(some 10), none, .mv (.t 9)⟩,
 ⟨(some 11), (some (10, false)), .mv (.t 1)⟩,
 ⟨(some 12), (some (10, false)), .mv (.t 5)⟩,
 ⟨(some 13), (some (10, false)), .len (.t 12)⟩,
 ⟨(some 14), (some (10, false)), .bin .geq (.t 11) (.t 13)⟩,
 ⟨(some 15), none, .pick (.t 10) (.k (.bool true)) (.t 14)⟩,
 ⟨(some 16), none, .mv (.t 15)⟩,
 ⟨(some 17), (some (16, false)), .ld (some 2) (.t 2)⟩,
 ⟨(some 18), (some (16, false)), .call nQq [(.t 17)]⟩,
 ⟨(some 19), (some (16, false)), .bin .neq (.t 18) (.k (.int .i64 0))⟩,
 ⟨(some 20), none, .pick (.t 16) (.k (.bool true)) (.t 19)⟩]
def rGraphRowX3 : List O := [
 ⟨(some 4), none, .mv (.k (.int .u64 0))⟩]
def rGraphRowX4 : List O := [
 ⟨(some 21), none, .mv (.t 5)⟩,
 ⟨(some 22), none, .mv (.t 1)⟩,
 ⟨(some 23), none, .ixa 1 (.t 21) (.t 22)⟩,
 ⟨(some 24), none, .ld none (.t 23)⟩,
 ⟨(some 4), none, .mv (.t 24)⟩]
def cGraphRow : C := (.seq (.reg rGraphRowX0 false [] [1, 2]) (.seq (.reg rGraphRowX1 false [] [1, 2, 5]) (.seq (.seq (.reg rGraphRowX2 false [] [1, 5, 20]) (.cond (.t 20) (.seq (.reg rGraphRowX3 false [] [4]) .ret) .skip)) (.seq (.reg rGraphRowX4 false [] [4]) .ret))))
def qGraphRow : AFn := ⟨25, 2, [.t 4], cGraphRow⟩
/- cohesion/core.peel -/
def rCorePeelX0 : List O := [
 ⟨(some 1), none, .box (.t 0)⟩,
 ⟨(some 2), none, .mv (.k .nils)⟩,
 ⟨(some 3), none, .mv (.k .nils)⟩]
def rCorePeelX1 : List O := [
 ⟨(some 15), none, .ld (some 2) (.t 1)⟩,
 ⟨(some 16), none, .call nMasksRows [(.t 15)]⟩,
 ⟨(some 4), none, .mv (.t 16)⟩]
def rCorePeelX2 : List O := [
 ⟨(some 5), none, .new [(.int .u64 0), (.int .u64 0), (.int .u64 0), (.int .u64 0), (.int .u64 0), (.int .u64 0), (.int .u64 0), (.int .u64 0), (.int .u64 0), (.int .u64 0), (.int .u64 0), (.int .u64 0), (.int .u64 0), (.int .u64 0), (.int .u64 0), (.int .u64 0), (.int .u64 0), (.int .u64 0), (.int .u64 0), (.int .u64 0), (.int .u64 0), (.int .u64 0), (.int .u64 0), (.int .u64 0), (.int .u64 0), (.int .u64 0), (.int .u64 0), (.int .u64 0), (.int .u64 0), (.int .u64 0), (.int .u64 0), (.int .u64 0), (.int .u64 0), (.int .u64 0), (.int .u64 0), (.int .u64 0), (.int .u64 0), (.int .u64 0), (.int .u64 0), (.int .u64 0), (.int .u64 0), (.int .u64 0), (.int .u64 0), (.int .u64 0), (.int .u64 0), (.int .u64 0), (.int .u64 0), (.int .u64 0), (.int .u64 0), (.int .u64 0), (.int .u64 0), (.int .u64 0), (.int .u64 0), (.int .u64 0), (.int .u64 0), (.int .u64 0), (.int .u64 0), (.int .u64 0), (.int .u64 0), (.int .u64 0), (.int .u64 0), (.int .u64 0), (.int .u64 0), (.int .u64 0)]⟩]
def rCorePeelX3 : List O := [
 ⟨(some 17), none, .mv (.t 4)⟩,
 ⟨(some 18), none, .len (.t 17)⟩,
 ⟨(some 19), none, .mks 1 [(.int .i64 0)] (.t 18) (.t 18)⟩,
 ⟨(some 6), none, .mv (.t 19)⟩]
def rCorePeelX4 : List O := [
 ⟨(some 20), none, .mv (.t 4)⟩,
 ⟨(some 21), none, .len (.t 20)⟩,
 ⟨(some 22), none, .mv (.k (.int .i64 0))⟩]
def rCorePeelX5 : List O := [
 ⟨(some 23), none, .bin .lss (.t 22) (.t 21)⟩]
def rCorePeelX6 : List O := [
 ⟨(some 24), none, .mv (.t 22)⟩,
 ⟨(some 25), none, .ixa 1 (.t 20) (.t 22)⟩,
 ⟨(some 26), none, .ld none (.t 25)⟩,
 ⟨(some 7), none, .mv (.t 24)⟩,
 ⟨(some 8), none, .mv (.t 26)⟩]
def rCorePeelX7 : List O := [
 ⟨(some 27), none, .mv (.t 6)⟩,
 ⟨(some 28), none, .mv (.t 7)⟩,
 ⟨(some 29), none, .mv (.t 8)⟩,
 ⟨(some 30), none, .call nMasksCount [(.t 29)]⟩,
 ⟨(some 31), none, .ixa 1 (.t 27) (.t 28)⟩,
 ⟨none, none, .st 1 (.t 31) (.t 30)⟩]
def rCorePeelX8 : List O := [
 ⟨(some 32), none, .mv (.t 6)⟩,
 ⟨(some 33), none, .mv (.t 7)⟩,
 ⟨(some 34), none, .ixa 1 (.t 32) (.t 33)⟩,
 ⟨(some 35), none, .ld none (.t 34)⟩,
 ⟨(some 36), none, .ixp 64 1 (.t 5) (.t 35)⟩,
 ⟨(some 37), none, .ld none (.t 36)⟩,
 ⟨(some 38), none, .mv (.t 7)⟩,
 ⟨(some 39), none, .call nMasksBit [(.t 38)]⟩,
 ⟨(some 40), none, .bin .or (.t 37) (.t 39)⟩,
 ⟨(some 41), none, .ixp 64 1 (.t 5) (.t 35)⟩,
 ⟨none, none, .st 1 (.t 41) (.t 40)⟩]
def rCorePeelX9 : List O := [
 ⟨(some 42), none, .bin .add (.t 22) (.k (.int .i64 1))⟩,
 ⟨(some 22), none, .mv (.t 42)⟩]
def lCorePeelX0 : C := (.seq (.reg rCorePeelX5 false [] [2, 4, 5, 6, 20, 21, 22, 23]) (.seq (.cond (.t 23) .skip (.exit 0)) (.seq (.blk 1 (.seq (.reg rCorePeelX6 false [] [2, 4, 5, 6, 7, 8, 20, 21, 22]) (.seq (.reg rCorePeelX7 false [] [2, 4, 5, 6, 7, 20, 21, 22]) (.reg rCorePeelX8 true [(3, 7), (5, 7)] [2, 4, 5, 6, 20, 21, 22])))) (.reg rCorePeelX9 false [] [2, 4, 5, 6, 20, 21, 22]))))
def rCorePeelX10 : List O := [
 ⟨(some 43), none, .mv (.t 4)⟩,
 ⟨(some 44), none, .len (.t 43)⟩,
 ⟨(some 45), none, .mks 1 [(.int .i64 0)] (.t 44) (.t 44)⟩,
 ⟨(some 3), none, .mv (.t 45)⟩]
def rCorePeelX11 : List O := [
 ⟨(some 46), none, .mv (.t 4)⟩,
 ⟨(some 47), none, .len (.t 46)⟩,
 ⟨(some 48), none, .call nMasksAll [(.t 47)]⟩,
 ⟨(some 9), none, .mv (.t 48)⟩]
def rCorePeelX12 : List O := [
 ⟨(some 10), none, .mv (.k (.int .i64 0))⟩]
def rCorePeelX13 : List O := [
 ⟨(some 49), none, .mv (.t 9)⟩,
 ⟨(some 50), none, .bin .neq (.t 49) (.k (.int .u64 0))⟩]
def rCorePeelX14 : List O := [
 ⟨(some 51), none, .mv (.k (.int .i64 0))⟩]
def rCorePeelX15 : List O := [
 ⟨(some 52), none, .bin .lss (.t 51) (.k (.int .i64 64))⟩]
def rCorePeelX16 : List O := [
 ⟨(some 53), none, .mv (.t 51)⟩,
 ⟨(some 11), none, .mv (.t 53)⟩]
def rCorePeelX17 : List O := [
 ⟨(some 54), none, .mv (.t 11)⟩,
 ⟨(some 55), none, .ixp 64 1 (.t 5) (.t 54)⟩,
 ⟨(some 56), none, .ld none (.t 55)⟩,
 ⟨(some 57), none, .bin .eql (.t 56) (.k (.int .u64 0))⟩]
def rCorePeelX18 : List O := [
 ⟨(some 58), none, .mv (.t 11)⟩,
 ⟨(some 59), none, .ixp 64 1 (.t 5) (.t 58)⟩,
 ⟨(some 60), none, .ld none (.t 59)⟩,
 ⟨(some 61), none, .call nMasksLeast [(.t 60)]⟩,
 ⟨(some 12), none, .mv (.t 61)⟩]
def rCorePeelX19 : List O := [
 ⟨(some 62), none, .mv (.t 10)⟩,
 ⟨(some 63), none, .mv (.t 11)⟩,
 ⟨(some 64), none, .max [(.t 62), (.t 63)]⟩,
 ⟨(some 10), none, .mv (.t 64)⟩]
def rCorePeelX20 : List O := [
 ⟨(some 65), none, .mv (.t 3)⟩,
 ⟨(some 66), none, .mv (.t 12)⟩,
 ⟨(some 67), none, .mv (.t 10)⟩,
 ⟨(some 68), none, .ixa 1 (.t 65) (.t 66)⟩,
 ⟨none, none, .st 1 (.t 68) (.t 67)⟩]
def rCorePeelX21 : List O := [
 ⟨(some 69), none, .mv (.t 2)⟩,
 ⟨(some 70), none, .mv (.t 12)⟩,
 ⟨(some 71), none, .bslice 1 1 [(.int .i64 0)] [(0, 1, (.t 70))]⟩,
 ⟨(some 72), none, .app 1 (.t 69) (.t 71)⟩,
 ⟨(some 2), none, .mv (.t 72)⟩]
def rCorePeelX22 : List O := [
 ⟨(some 73), none, .mv (.t 9)⟩,
 ⟨(some 74), none, .mv (.t 12)⟩,
 ⟨(some 75), none, .call nMasksBit [(.t 74)]⟩,
 ⟨(some 76), none, .bin .andNot (.t 73) (.t 75)⟩,
 ⟨(some 9), none, .mv (.t 76)⟩]
def rCorePeelX23 : List O := [
 ⟨(some 77), none, .mv (.t 11)⟩,
 ⟨(some 78), none, .ixp 64 1 (.t 5) (.t 77)⟩,
 ⟨(some 79), none, .ld none (.t 78)⟩,
 ⟨(some 80), none, .mv (.t 12)⟩,
 ⟨(some 81), none, .call nMasksBit [(.t 80)]⟩,
 ⟨(some 82), none, .bin .andNot (.t 79) (.t 81)⟩,
 ⟨(some 83), none, .ixp 64 1 (.t 5) (.t 77)⟩,
 ⟨none, none, .st 1 (.t 83) (.t 82)⟩]
def rCorePeelX24 : List O := [
 ⟨(some 84), none, .mv (.t 4)⟩,
 ⟨(some 85), none, .mv (.t 12)⟩,
 ⟨(some 86), none, .ixa 1 (.t 84) (.t 85)⟩,
 ⟨(some 87), none, .ld none (.t 86)⟩,
 ⟨(some 88), none, .mv (.t 9)⟩,
 ⟨(some 89), none, .bin .and (.t 87) (.t 88)⟩,
 ⟨(some 90), none, .call nMasksList [(.t 89)]⟩,
 ⟨(some 91), none, .len (.t 90)⟩,
 ⟨(some 92), none, .mv (.k (.int .i64 0))⟩]
def rCorePeelX25 : List O := [
 ⟨(some 93), none, .bin .lss (.t 92) (.t 91)⟩]
def rCorePeelX26 : List O := [
 ⟨(some 94), none, .ixa 1 (.t 90) (.t 92)⟩,
 ⟨(some 95), none, .ld none (.t 94)⟩,
 ⟨(some 14), none, .mv (.t 95)⟩]
def rCorePeelX27 : List O := [
 ⟨(some 96), none, .mv (.t 6)⟩,
 ⟨(some 97), none, .mv (.t 14)⟩,
 ⟨(some 98), none, .ixa 1 (.t 96) (.t 97)⟩,
 ⟨(some 99), none, .ld none (.t 98)⟩,
 ⟨(some 100), none, .ixp 64 1 (.t 5) (.t 99)⟩,
 ⟨(some 101), none, .ld none (.t 100)⟩,
 ⟨(some 102), none, .mv (.t 14)⟩,
 ⟨(some 103), none, .call nMasksBit [(.t 102)]⟩,
 ⟨(some 104), none, .bin .andNot (.t 101) (.t 103)⟩,
 ⟨(some 105), none, .ixp 64 1 (.t 5) (.t 99)⟩,
 ⟨none, none, .st 1 (.t 105) (.t 104)⟩]
def rCorePeelX28 : List O := [
 ⟨(some 106), none, .mv (.t 6)⟩,
 ⟨(some 107), none, .mv (.t 14)⟩,
 ⟨(some 108), none, .ixa 1 (.t 106) (.t 107)⟩,
 ⟨(some 109), none, .ld none (.t 108)⟩,
 ⟨(some 110), none, .bin .sub (.t 109) (.k (.int .i64 1))⟩,
 ⟨(some 111), none, .ixa 1 (.t 106) (.t 107)⟩,
 ⟨none, none, .st 1 (.t 111) (.t 110)⟩]
def rCorePeelX29 : List O := [
 ⟨(some 112), none, .mv (.t 6)⟩,
 ⟨(some 113), none, .mv (.t 14)⟩,
 ⟨(some 114), none, .ixa 1 (.t 112) (.t 113)⟩,
 ⟨(some 115), none, .ld none (.t 114)⟩,
 ⟨(some 116), none, .ixp 64 1 (.t 5) (.t 115)⟩,
 ⟨(some 117), none, .ld none (.t 116)⟩,
 ⟨(some 118), none, .mv (.t 14)⟩,
 ⟨(some 119), none, .call nMasksBit [(.t 118)]⟩,
 ⟨(some 120), none, .bin .or (.t 117) (.t 119)⟩,
 ⟨(some 121), none, .ixp 64 1 (.t 5) (.t 115)⟩,
 ⟨none, none, .st 1 (.t 121) (.t 120)⟩]
def rCorePeelX30 : List O := [
 ⟨(some 122), none, .bin .add (.t 92) (.k (.int .i64 1))⟩,
 ⟨(some 92), none, .mv (.t 122)⟩]
def lCorePeelX1 : C := (.seq (.reg rCorePeelX25 false [] [2, 3, 4, 5, 6, 9, 10, 90, 91, 92, 93]) (.seq (.cond (.t 93) .skip (.exit 6)) (.seq (.blk 7 (.seq (.reg rCorePeelX26 false [] [2, 3, 4, 5, 6, 9, 10, 14, 90, 91, 92]) (.seq (.reg rCorePeelX27 true [(3, 7), (5, 7)] [2, 3, 4, 5, 6, 9, 10, 14, 90, 91, 92]) (.seq (.reg rCorePeelX28 false [] [2, 3, 4, 5, 6, 9, 10, 14, 90, 91, 92]) (.reg rCorePeelX29 true [(3, 7), (5, 7)] [2, 3, 4, 5, 6, 9, 10, 90, 91, 92]))))) (.reg rCorePeelX30 false [] [2, 3, 4, 5, 6, 9, 10, 90, 91, 92]))))
def rCorePeelX31 : List O := [
 ⟨(some 123), none, .bin .add (.t 51) (.k (.int .i64 1))⟩,
 ⟨(some 51), none, .mv (.t 123)⟩]
def lCorePeelX2 : C := (.seq (.reg rCorePeelX15 false [] [2, 3, 4, 5, 6, 9, 10, 51, 52]) (.seq (.cond (.t 52) .skip (.exit 4)) (.seq (.blk 5 (.seq (.reg rCorePeelX16 false [] [2, 3, 4, 5, 6, 9, 10, 11, 51]) (.seq (.seq (.reg rCorePeelX17 false [] [2, 3, 4, 5, 6, 9, 10, 11, 51, 57]) (.cond (.t 57) (.exit 5) .skip)) (.seq (.reg rCorePeelX18 false [] [2, 3, 4, 5, 6, 9, 10, 11, 12]) (.seq (.reg rCorePeelX19 false [] [2, 3, 4, 5, 6, 9, 10, 11, 12]) (.seq (.reg rCorePeelX20 false [] [2, 3, 4, 5, 6, 9, 10, 11, 12]) (.seq (.reg rCorePeelX21 false [] [2, 3, 4, 5, 6, 9, 10, 11, 12]) (.seq (.reg rCorePeelX22 false [] [2, 3, 4, 5, 6, 9, 10, 11, 12]) (.seq (.reg rCorePeelX23 true [(2, 4)] [2, 3, 4, 5, 6, 9, 10, 12]) (.seq (.seq (.reg rCorePeelX24 false [] [2, 3, 4, 5, 6, 9, 10, 90, 91, 92]) (.blk 6 (.loop lCorePeelX1))) (.exit 3))))))))))) (.reg rCorePeelX31 false [] [2, 3, 4, 5, 6, 9, 10, 51]))))
def lCorePeelX3 : C := (.seq (.seq (.reg rCorePeelX13 false [] [2, 3, 4, 5, 6, 9, 10, 50]) (.cond (.t 50) .skip (.exit 2))) (.blk 3 (.seq (.reg rCorePeelX14 false [] [2, 3, 4, 5, 6, 9, 10, 51]) (.blk 4 (.loop lCorePeelX2)))))
def rCorePeelX32 : List O := [
 ⟨(some 124), none, .mv (.t 2)⟩,
 ⟨(some 125), none, .mv (.t 3)⟩,
 ⟨(some 2), none, .mv (.t 124)⟩,
 ⟨(some 3), none, .mv (.t 125)⟩]
def cCorePeel : C := (.seq (.reg rCorePeelX0 false [] [1, 2]) (.seq .skip (.seq (.reg rCorePeelX1 false [] [2, 4]) (.seq (.reg rCorePeelX2 false [] [2, 4, 5]) (.seq (.reg rCorePeelX3 false [] [2, 4, 5, 6]) (.seq (.seq (.reg rCorePeelX4 false [] [2, 4, 5, 6, 20, 21, 22]) (.blk 0 (.loop lCorePeelX0))) (.seq (.reg rCorePeelX10 false [] [2, 3, 4, 5, 6]) (.seq (.reg rCorePeelX11 false [] [2, 3, 4, 5, 6, 9]) (.seq (.reg rCorePeelX12 false [] [2, 3, 4, 5, 6, 9, 10]) (.seq .skip (.seq (.blk 2 (.loop lCorePeelX3)) (.seq (.reg rCorePeelX32 false [] [2, 3]) .ret))))))))))))
def qCorePeel : AFn := ⟨126, 1, [.t 2, .t 3], cCorePeel⟩
/- slices.IndexFunc[[]int,int] -/
def rSlicesIndexFuncIntIntX0 : List O := [
 ⟨(some 4), none, .mv (.k (.int .i64 0))⟩]
def rSlicesIndexFuncIntIntX1 : List O := [
 ⟨(some 6), none, .mv (.t 0)⟩,
 ⟨(some 7), none, .len (.t 6)⟩,
 ⟨(some 8), none, .mv (.k (.int .i64 0))⟩]
def rSlicesIndexFuncIntIntX2 : List O := [
 ⟨(some 9), none, .bin .lss (.t 8) (.t 7)⟩]
def rSlicesIndexFuncIntIntX3 : List O := [
 ⟨(some 10), none, .mv (.t 8)⟩,
 ⟨(some 5), none, .mv (.t 10)⟩]
def rSlicesIndexFuncIntIntX4 : List O := [
 ⟨(some 11), none, .mv (.t 1)⟩,
 ⟨(some 12), none, .mv (.t 0)⟩,
 ⟨(some 13), none, .mv (.t 5)⟩,
 ⟨(some 14), none, .ixa 1 (.t 12) (.t 13)⟩,
 ⟨(some 15), none, .ld none (.t 14)⟩,
 ⟨(some 16), none, .callv (.t 11) [(.t 15)]⟩]
def rSlicesIndexFuncIntIntX5 : List O := [
 ⟨(some 17), none, .mv (.t 5)⟩,
 ⟨(some 4), none, .mv (.t 17)⟩]
def rSlicesIndexFuncIntIntX6 : List O := [
 ⟨(some 18), none, .bin .add (.t 8) (.k (.int .i64 1))⟩,
 ⟨(some 8), none, .mv (.t 18)⟩]
def lSlicesIndexFuncIntIntX0 : C := (.seq (.reg rSlicesIndexFuncIntIntX2 false [] [0, 1, 7, 8, 9]) (.seq (.cond (.t 9) .skip (.exit 0)) (.seq (.blk 1 (.seq (.reg rSlicesIndexFuncIntIntX3 false [] [0, 1, 5, 7, 8]) (.seq (.reg rSlicesIndexFuncIntIntX4 false [] [0, 1, 5, 7, 8, 16]) (.cond (.t 16) (.seq (.reg rSlicesIndexFuncIntIntX5 false [] [4]) .ret) .skip)))) (.reg rSlicesIndexFuncIntIntX6 false [] [0, 1, 7, 8]))))
def rSlicesIndexFuncIntIntX7 : List O := [
 ⟨(some 4), none, .mv (.k (.int .i64 (-1)))⟩]
def cSlicesIndexFuncIntInt : C := (.seq (.reg rSlicesIndexFuncIntIntX0 false [] [0, 1]) (.seq (.seq (.reg rSlicesIndexFuncIntIntX1 false [] [0, 1, 7, 8]) (.blk 0 (.loop lSlicesIndexFuncIntIntX0))) (.seq (.reg rSlicesIndexFuncIntIntX7 false [] [4]) .ret)))
def qSlicesIndexFuncIntInt : AFn := ⟨19, 2, [.t 4], cSlicesIndexFuncIntInt⟩
/- slices.IndexFunc[[]cohesion/api.Edge,cohesion/api.Edge] -/
def rSlicesIndexFuncApiEdgeApiEdgeX0 : List O := [
 ⟨(some 4), none, .mv (.k (.int .i64 0))⟩]
def rSlicesIndexFuncApiEdgeApiEdgeX1 : List O := [
 ⟨(some 6), none, .mv (.t 0)⟩,
 ⟨(some 7), none, .len (.t 6)⟩,
 ⟨(some 8), none, .mv (.k (.int .i64 0))⟩]
def rSlicesIndexFuncApiEdgeApiEdgeX2 : List O := [
 ⟨(some 9), none, .bin .lss (.t 8) (.t 7)⟩]
def rSlicesIndexFuncApiEdgeApiEdgeX3 : List O := [
 ⟨(some 10), none, .mv (.t 8)⟩,
 ⟨(some 5), none, .mv (.t 10)⟩]
def rSlicesIndexFuncApiEdgeApiEdgeX4 : List O := [
 ⟨(some 11), none, .mv (.t 1)⟩,
 ⟨(some 12), none, .mv (.t 0)⟩,
 ⟨(some 13), none, .mv (.t 5)⟩,
 ⟨(some 14), none, .ixa 2 (.t 12) (.t 13)⟩,
 ⟨(some 15), none, .ld (some 2) (.t 14)⟩,
 ⟨(some 16), none, .callv (.t 11) [(.t 15)]⟩]
def rSlicesIndexFuncApiEdgeApiEdgeX5 : List O := [
 ⟨(some 17), none, .mv (.t 5)⟩,
 ⟨(some 4), none, .mv (.t 17)⟩]
def rSlicesIndexFuncApiEdgeApiEdgeX6 : List O := [
 ⟨(some 18), none, .bin .add (.t 8) (.k (.int .i64 1))⟩,
 ⟨(some 8), none, .mv (.t 18)⟩]
def lSlicesIndexFuncApiEdgeApiEdgeX0 : C := (.seq (.reg rSlicesIndexFuncApiEdgeApiEdgeX2 false [] [0, 1, 7, 8, 9]) (.seq (.cond (.t 9) .skip (.exit 0)) (.seq (.blk 1 (.seq (.reg rSlicesIndexFuncApiEdgeApiEdgeX3 false [] [0, 1, 5, 7, 8]) (.seq (.reg rSlicesIndexFuncApiEdgeApiEdgeX4 false [] [0, 1, 5, 7, 8, 16]) (.cond (.t 16) (.seq (.reg rSlicesIndexFuncApiEdgeApiEdgeX5 false [] [4]) .ret) .skip)))) (.reg rSlicesIndexFuncApiEdgeApiEdgeX6 false [] [0, 1, 7, 8]))))
def rSlicesIndexFuncApiEdgeApiEdgeX7 : List O := [
 ⟨(some 4), none, .mv (.k (.int .i64 (-1)))⟩]
def cSlicesIndexFuncApiEdgeApiEdge : C := (.seq (.reg rSlicesIndexFuncApiEdgeApiEdgeX0 false [] [0, 1]) (.seq (.seq (.reg rSlicesIndexFuncApiEdgeApiEdgeX1 false [] [0, 1, 7, 8]) (.blk 0 (.loop lSlicesIndexFuncApiEdgeApiEdgeX0))) (.seq (.reg rSlicesIndexFuncApiEdgeApiEdgeX7 false [] [4]) .ret)))
def qSlicesIndexFuncApiEdgeApiEdge : AFn := ⟨19, 2, [.t 4], cSlicesIndexFuncApiEdgeApiEdge⟩
/- math/bits.OnesCount64 -/
def rQCX0 : List O := [
 ⟨(some 2), none, .mv (.k (.int .i64 0))⟩]
def rQCX1 : List O := [
 ⟨(some 3), none, .mv (.t 0)⟩,
 ⟨(some 4), none, .bin .shr (.t 3) (.k (.int .u64 1))⟩,
 ⟨(some 5), none, .bin .and (.t 4) (.k (.int .u64 6148914691236517205))⟩,
 ⟨(some 6), none, .mv (.t 0)⟩,
 ⟨(some 7), none, .bin .and (.t 6) (.k (.int .u64 6148914691236517205))⟩,
 ⟨(some 8), none, .bin .add (.t 5) (.t 7)⟩,
 ⟨(some 0), none, .mv (.t 8)⟩]
def rQCX2 : List O := [
 ⟨(some 9), none, .mv (.t 0)⟩,
 ⟨(some 10), none, .bin .shr (.t 9) (.k (.int .u64 2))⟩,
 ⟨(some 11), none, .bin .and (.t 10) (.k (.int .u64 3689348814741910323))⟩,
 ⟨(some 12), none, .mv (.t 0)⟩,
 ⟨(some 13), none, .bin .and (.t 12) (.k (.int .u64 3689348814741910323))⟩,
 ⟨(some 14), none, .bin .add (.t 11) (.t 13)⟩,
 ⟨(some 0), none, .mv (.t 14)⟩]
def rQCX3 : List O := [
 ⟨(some 15), none, .mv (.t 0)⟩,
 ⟨(some 16), none, .bin .shr (.t 15) (.k (.int .u64 4))⟩,
 ⟨(some 17), none, .mv (.t 0)⟩,
 ⟨(some 18), none, .bin .add (.t 16) (.t 17)⟩,
 ⟨(some 19), none, .bin .and (.t 18) (.k (.int .u64 1085102592571150095))⟩,
 ⟨(some 0), none, .mv (.t 19)⟩]
def rQCX4 : List O := [
 ⟨(some 20), none, .mv (.t 0)⟩,
 ⟨(some 21), none, .mv (.t 0)⟩,
 ⟨(some 22), none, .bin .shr (.t 21) (.k (.int .u64 8))⟩,
 ⟨(some 23), none, .bin .add (.t 20) (.t 22)⟩,
 ⟨(some 0), none, .mv (.t 23)⟩]
def rQCX5 : List O := [
 ⟨(some 24), none, .mv (.t 0)⟩,
 ⟨(some 25), none, .mv (.t 0)⟩,
 ⟨(some 26), none, .bin .shr (.t 25) (.k (.int .u64 16))⟩,
 ⟨(some 27), none, .bin .add (.t 24) (.t 26)⟩,
 ⟨(some 0), none, .mv (.t 27)⟩]
def rQCX6 : List O := [
 ⟨(some 28), none, .mv (.t 0)⟩,
 ⟨(some 29), none, .mv (.t 0)⟩,
 ⟨(some 30), none, .bin .shr (.t 29) (.k (.int .u64 32))⟩,
 ⟨(some 31), none, .bin .add (.t 28) (.t 30)⟩,
 ⟨(some 0), none, .mv (.t 31)⟩]
def rQCX7 : List O := [
 ⟨(some 32), none, .mv (.t 0)⟩,
 ⟨(some 33), none, .cvt .i64 (.t 32)⟩,
 ⟨(some 34), none, .bin .and (.t 33) (.k (.int .i64 127))⟩,
 ⟨(some 2), none, .mv (.t 34)⟩]
def cQC : C := (.seq (.reg rQCX0 false [] [0]) (.seq (.reg rQCX1 false [] [0]) (.seq (.reg rQCX2 false [] [0]) (.seq (.reg rQCX3 false [] [0]) (.seq (.reg rQCX4 false [] [0]) (.seq (.reg rQCX5 false [] [0]) (.seq (.reg rQCX6 false [] [0]) (.seq (.reg rQCX7 false [] [2]) .ret))))))))
def qQC : AFn := ⟨35, 1, [.t 2], cQC⟩
/- cohesion/nodeset.Valid -/
def rNodesetValidX0 : List O := [
 ⟨(some 4), none, .mv (.k (.bool false))⟩]
def rNodesetValidX1 : List O := [
 ⟨(some 7), none, .mv (.t 0)⟩,
 ⟨(some 8), none, .len (.t 7)⟩,
 ⟨(some 9), none, .mv (.k (.int .i64 0))⟩]
def rNodesetValidX2 : List O := [
 ⟨(some 10), none, .bin .lss (.t 9) (.t 8)⟩]
def rNodesetValidX3 : List O := [
 ⟨(some 11), none, .mv (.t 9)⟩,
 ⟨(some 12), none, .ixa 1 (.t 7) (.t 9)⟩,
 ⟨(some 13), none, .ld none (.t 12)⟩,
 ⟨(some 5), none, .mv (.t 11)⟩,
 ⟨(some 6), none, .mv (.t 13)⟩]
def rNodesetValidX4 : List O := [
 ⟨(some 14), none, .mv (.t 6)⟩,
 ⟨(some 15), none, .bin .lss (.t 14) (.k (.int .i64 0))⟩,
 ⟨(some 16), none, .mv (.t 15)⟩,
 ⟨(some 17), (some (16, false)), .mv (.t 6)⟩,
 ⟨(some 18), (some (16, false)), .mv (.t 1)⟩,
 ⟨(some 19), (some (16, false)), .bin .geq (.t 17) (.t 18)⟩,
 ⟨(some 20), none, .pick (.t 16) (.k (.bool true)) (.t 19)⟩,
 ⟨(some 21), none, .mv (.t 20)⟩,
 ⟨(some 22), (some (21, false)), .mv (.t 5)⟩,
 ⟨(some 23), (some (21, false)), .bin .gtr (.t 22) (.k (.int .i64 0))⟩,
 ⟨(some 24), (some (21, false)), .mv (.t 23)⟩,
 ⟨(some 25), (some (24, true)), .mv (.t 0)⟩,
 ⟨(some 26), (some (24, true)), .mv (.t 5)⟩,
 ⟨(some 27), (some (24, true)), .bin .sub (.t 26) (.k (.int .i64 1))⟩,
 ⟨(some 28), (some (24, true)), .ixa 1 (.t 25) (.t 27)⟩,
 ⟨(some 29), (some (24, true)), .ld none (.t 28)⟩,
 ⟨(some 30), (some (24, true)), .mv (.t 6)⟩,
 ⟨(some 31), (some (24, true)), .bin .geq (.t 29) (.t 30)⟩,
 ⟨(some 32), (some (21, false)), .pick (.t 24) (.t 31) (.k (.bool false))⟩,
 ⟨(some 33), none, .pick (.t 21) (.k (.bool true)) (.t 32)⟩]
def rNodesetValidX5 : List O := [
 ⟨(some 4), none, .mv (.k (.bool false))⟩]
def rNodesetValidX6 : List O := [
 ⟨(some 34), none, .bin .add (.t 9) (.k (.int .i64 1))⟩,
 ⟨(some 9), none, .mv (.t 34)⟩]
def lNodesetValidX0 : C := (.seq (.reg rNodesetValidX2 false [] [0, 1, 7, 8, 9, 10]) (.seq (.cond (.t 10) .skip (.exit 0)) (.seq (.blk 1 (.seq (.reg rNodesetValidX3 false [] [0, 1, 5, 6, 7, 8, 9]) (.seq (.reg rNodesetValidX4 false [] [0, 1, 7, 8, 9, 33]) (.cond (.t 33) (.seq (.reg rNodesetValidX5 false [] [4]) .ret) .skip)))) (.reg rNodesetValidX6 false [] [0, 1, 7, 8, 9]))))
def rNodesetValidX7 : List O := [
 ⟨(some 4), none, .mv (.k (.bool true))⟩]
def cNodesetValid : C := (.seq (.reg rNodesetValidX0 false [] [0, 1]) (.seq (.seq (.reg rNodesetValidX1 false [] [0, 1, 7, 8, 9]) (.blk 0 (.loop lNodesetValidX0))) (.seq (.reg rNodesetValidX7 false [] [4]) .ret)))
def qNodesetValid : AFn := ⟨35, 2, [.t 4], cNodesetValid⟩
/- cohesion/core.Numbers -/
def rCoreNumbersX0 : List O := [
 ⟨(some 1), none, .box (.t 0)⟩,
 ⟨(some 2), none, .mv (.k .nils)⟩,
 ⟨(some 3), none, .mv (.k (.int .i64 0))⟩]
def rCoreNumbersX1 : List O := [
 ⟨(some 7), none, .ld (some 2) (.t 1)⟩,
 ⟨(some 8), none, .call nQq [(.t 7)]⟩,
 ⟨(some 4), none, .mv (.t 8)⟩]
def rCoreNumbersX2 : List O := [
 ⟨(some 9), none, .mv (.t 4)⟩,
 ⟨(some 10), none, .bin .neq (.t 9) (.k (.int .i64 0))⟩]
def rCoreNumbersX3 : List O := [
 ⟨(some 11), none, .mv (.t 4)⟩,
 ⟨(some 2), none, .mv (.k .nils)⟩,
 ⟨(some 3), none, .mv (.t 11)⟩]
def rCoreNumbersX4 : List O := [
 ⟨(some 13), none, .ld (some 2) (.t 1)⟩,
 ⟨(some 14), none, .call nCorePeel [(.t 13)]⟩,
 ⟨(some 12), none, .mv (.t 14)⟩,
 ⟨(some 15), none, .ext 0 (.t 12)⟩,
 ⟨(some 16), none, .ext 1 (.t 12)⟩,
 ⟨(some 5), none, .mv (.t 15)⟩,
 ⟨(some 6), none, .mv (.t 16)⟩]
def rCoreNumbersX5 : List O := [
 ⟨(some 17), none, .mv (.t 6)⟩,
 ⟨(some 2), none, .mv (.t 17)⟩,
 ⟨(some 3), none, .mv (.k (.int .i64 0))⟩]
def cCoreNumbers : C := (.seq (.reg rCoreNumbersX0 false [] [1]) (.seq (.seq (.reg rCoreNumbersX1 false [] [1, 4]) (.seq (.reg rCoreNumbersX2 false [] [1, 4, 10]) (.cond (.t 10) (.seq (.reg rCoreNumbersX3 false [] [2, 3]) .ret) .skip))) (.seq (.reg rCoreNumbersX4 false [] [6]) (.seq (.reg rCoreNumbersX5 false [] [2, 3]) .ret))))
def qCoreNumbers : AFn := ⟨18, 1, [.t 2, .t 3], cCoreNumbers⟩
/- cmp.Or[int] -/
def rQEX0 : List O := [
 ⟨(some 2), none, .mv (.k (.int .i64 0))⟩]
def rQEX1 : List O := [
 ⟨(some 3), none, .mv (.k (.int .i64 0))⟩]
def rQEX2 : List O := [
 ⟨(some 6), none, .mv (.t 0)⟩,
 ⟨(some 7), none, .len (.t 6)⟩,
 ⟨(some 8), none, .mv (.k (.int .i64 0))⟩]
def rQEX3 : List O := [
 ⟨(some 9), none, .bin .lss (.t 8) (.t 7)⟩]
def rQEX4 : List O := [
 ⟨(some 10), none, .ixa 1 (.t 6) (.t 8)⟩,
 ⟨(some 11), none, .ld none (.t 10)⟩,
 ⟨(some 5), none, .mv (.t 11)⟩]
def rQEX5 : List O := [
 ⟨(some 12), none, .mv (.t 5)⟩,
 ⟨(some 13), none, .mv (.t 3)⟩,
 ⟨(some 14), none, .bin .neq (.t 12) (.t 13)⟩]
def rQEX6 : List O := [
 ⟨(some 15), none, .mv (.t 5)⟩,
 ⟨(some 2), none, .mv (.t 15)⟩]
def rQEX7 : List O := [
 ⟨(some 16), none, .bin .add (.t 8) (.k (.int .i64 1))⟩,
 ⟨(some 8), none, .mv (.t 16)⟩]
def lQEX0 : C := (.seq (.reg rQEX3 false [] [3, 6, 7, 8, 9]) (.seq (.cond (.t 9) .skip (.exit 0)) (.seq (.blk 1 (.seq (.reg rQEX4 false [] [3, 5, 6, 7, 8]) (.seq (.reg rQEX5 false [] [3, 5, 6, 7, 8, 14]) (.cond (.t 14) (.seq (.reg rQEX6 false [] [2]) .ret) .skip)))) (.reg rQEX7 false [] [3, 6, 7, 8]))))
def rQEX8 : List O := [
 ⟨(some 17), none, .mv (.t 3)⟩,
 ⟨(some 2), none, .mv (.t 17)⟩]
def cQE : C := (.seq (.reg rQEX0 false [] [0]) (.seq (.reg rQEX1 false [] [0, 3]) (.seq (.seq (.reg rQEX2 false [] [3, 6, 7, 8]) (.blk 0 (.loop lQEX0))) (.seq (.reg rQEX8 false [] [2]) .ret))))
def qQE : AFn := ⟨18, 1, [.t 2], cQE⟩
/- cmp.Compare[int] -/
def rQFX0 : List O := [
 ⟨(some 4), none, .mv (.k (.int .i64 0))⟩]
def rQFX1 : List O := [
 ⟨(some 7), none, .mv (.t 0)⟩,
 ⟨(some 8), none, .call nQG [(.t 7)]⟩,
 ⟨(some 5), none, .mv (.t 8)⟩]
def rQFX2 : List O := [
 ⟨(some 9), none, .mv (.t 1)⟩,
 ⟨(some 10), none, .call nQG [(.t 9)]⟩,
 ⟨(some 6), none, .mv (.t 10)⟩]
def rQFX3 : List O := [
 ⟨(some 11), none, .mv (.t 5)⟩]
def rQFX4 : List O := [
 ⟨(some 12), none, .mv (.t 6)⟩]
def rQFX5 : List O := [
 ⟨(some 4), none, .mv (.k (.int .i64 0))⟩]
def rQFX6 : List O := [
 ⟨(some 4), none, .mv (.k (.int .i64 (-1)))⟩]
def rQFX7 : List O := [
 ⟨(some 13), none, .mv (.t 6)⟩]
def rQFX8 : List O := [
 ⟨(some 4), none, .mv (.k (.int .i64 1))⟩]
def rQFX9 : List O := [
 ⟨(some 14), none, .mv (.t 0)⟩,
 ⟨(some 15), none, .mv (.t 1)⟩,
 ⟨(some 16), none, .bin .lss (.t 14) (.t 15)⟩]
def rQFX10 : List O := [
 ⟨(some 4), none, .mv (.k (.int .i64 (-1)))⟩]
def rQFX11 : List O := [
 ⟨(some 17), none, .mv (.t 0)⟩,
 ⟨(some 18), none, .mv (.t 1)⟩,
 ⟨(some 19), none, .bin .gtr (.t 17) (.t 18)⟩]
def rQFX12 : List O := [
 ⟨(some 4), none, .mv (.k (.int .i64 1))⟩]
def rQFX13 : List O := [
 ⟨(some 4), none, .mv (.k (.int .i64 0))⟩]
def cQF : C := (.seq (.reg rQFX0 false [] [0, 1]) (.seq (.reg rQFX1 false [] [0, 1, 5]) (.seq (.reg rQFX2 false [] [0, 1, 5, 6]) (.seq (.seq (.reg rQFX3 false [] [0, 1, 6, 11]) (.cond (.t 11) (.seq (.seq (.reg rQFX4 false [] [12]) (.cond (.t 12) (.seq (.reg rQFX5 false [] [4]) .ret) .skip)) (.seq (.reg rQFX6 false [] [4]) .ret)) .skip)) (.seq (.seq (.reg rQFX7 false [] [0, 1, 13]) (.cond (.t 13) (.seq (.reg rQFX8 false [] [4]) .ret) .skip)) (.seq (.seq (.reg rQFX9 false [] [0, 1, 16]) (.cond (.t 16) (.seq (.reg rQFX10 false [] [4]) .ret) .skip)) (.seq (.seq (.reg rQFX11 false [] [19]) (.cond (.t 19) (.seq (.reg rQFX12 false [] [4]) .ret) .skip)) (.seq (.reg rQFX13 false [] [4]) .ret))))))))
def qQF : AFn := ⟨20, 2, [.t 4], cQF⟩
/- cohesion/nodeset.merged[int] -/
def rNodesetMergedIntX0 : List O := [
 ⟨(some 6), none, .mv (.k .nils)⟩]
def rNodesetMergedIntX1 : List O := [
 ⟨(some 11), none, .mv (.t 0)⟩,
 ⟨(some 12), none, .call nSlicesCloneIntInt [(.t 11)]⟩,
 ⟨(some 13), none, .mv (.t 1)⟩,
 ⟨(some 14), none, .call nSlicesCloneIntInt [(.t 13)]⟩,
 ⟨(some 0), none, .mv (.t 12)⟩,
 ⟨(some 1), none, .mv (.t 14)⟩]
def rNodesetMergedIntX2 : List O := [
 ⟨(some 15), none, .mv (.t 0)⟩,
 ⟨(some 16), none, .call nSlicesSortIntInt [(.t 15)]⟩]
def rNodesetMergedIntX3 : List O := [
 ⟨(some 17), none, .mv (.t 1)⟩,
 ⟨(some 18), none, .call nSlicesSortIntInt [(.t 17)]⟩]
def rNodesetMergedIntX4 : List O := [
 ⟨(some 19), none, .mv (.t 0)⟩,
 ⟨(some 20), none, .call nSlicesCompactIntInt [(.t 19)]⟩,
 ⟨(some 21), none, .mv (.t 1)⟩,
 ⟨(some 22), none, .call nSlicesCompactIntInt [(.t 21)]⟩,
 ⟨(some 0), none, .mv (.t 20)⟩,
 ⟨(some 1), none, .mv (.t 22)⟩]
def rNodesetMergedIntX5 : List O := [
 ⟨(some 7), none, .mv (.k .nils)⟩]
def rNodesetMergedIntX6 : List O := [
 ⟨(some 23), none, .mv (.t 0)⟩,
 ⟨(some 24), none, .len (.t 23)⟩,
 ⟨(some 25), none, .bin .gtr (.t 24) (.k (.int .i64 0))⟩,
 ⟨(some 26), none, .mv (.t 25)⟩,
 ⟨(some 27), (some (26, false)), .mv (.t 1)⟩,
 ⟨(some 28), (some (26, false)), .len (.t 27)⟩,
 ⟨(some 29), (some (26, false)), .bin .gtr (.t 28) (.k (.int .i64 0))⟩,
 ⟨(some 30), none, .pick (.t 26) (.k (.bool true)) (.t 29)⟩]
def rNodesetMergedIntX7 : List O := [
 ⟨(some 31), none, .mv (.t 1)⟩,
 ⟨(some 32), none, .len (.t 31)⟩,
 ⟨(some 33), none, .bin .eql (.t 32) (.k (.int .i64 0))⟩,
 ⟨(some 34), none, .mv (.t 33)⟩,
 ⟨(some 35), (some (34, false)), .mv (.t 0)⟩,
 ⟨(some 36), (some (34, false)), .len (.t 35)⟩,
 ⟨(some 37), (some (34, false)), .bin .gtr (.t 36) (.k (.int .i64 0))⟩,
 ⟨(some 38), (some (34, false)), .mv (.t 37)⟩,
 ⟨(some 39), (some (38, true)), .mv (.t 0)⟩,
 ⟨(some 40), (some (38, true)), .ixa 1 (.t 39) (.k (.int .i64 0))⟩,
 ⟨(some 41), (some (38, true)), .ld none (.t 40)⟩,
 ⟨(some 42), (some (38, true)), .mv (.t 1)⟩,
 ⟨(some 43), (some (38, true)), .ixa 1 (.t 42) (.k (.int .i64 0))⟩,
 ⟨(some 44), (some (38, true)), .ld none (.t 43)⟩,
 ⟨(some 45), (some (38, true)), .bin .leq (.t 41) (.t 44)⟩,
 ⟨(some 46), (some (34, false)), .pick (.t 38) (.t 45) (.k (.bool false))⟩,
 ⟨(some 47), none, .pick (.t 34) (.k (.bool true)) (.t 46)⟩,
 ⟨(some 8), none, .mv (.t 47)⟩]
def rNodesetMergedIntX8 : List O := [
 ⟨(some 48), none, .mv (.t 0)⟩,
 ⟨(some 49), none, .len (.t 48)⟩,
 ⟨(some 50), none, .bin .eql (.t 49) (.k (.int .i64 0))⟩,
 ⟨(some 51), none, .mv (.t 50)⟩,
 ⟨(some 52), (some (51, false)), .mv (.t 1)⟩,
 ⟨(some 53), (some (51, false)), .len (.t 52)⟩,
 ⟨(some 54), (some (51, false)), .bin .gtr (.t 53) (.k (.int .i64 0))⟩,
 ⟨(some 55), (some (51, false)), .mv (.t 54)⟩,
 ⟨(some 56), (some (55, true)), .mv (.t 1)⟩,
 ⟨(some 57), (some (55, true)), .ixa 1 (.t 56) (.k (.int .i64 0))⟩,
 ⟨(some 58), (some (55, true)), .ld none (.t 57)⟩,
 ⟨(some 59), (some (55, true)), .mv (.t 0)⟩,
 ⟨(some 60), (some (55, true)), .ixa 1 (.t 59) (.k (.int .i64 0))⟩,
 ⟨(some 61), (some (55, true)), .ld none (.t 60)⟩,
 ⟨(some 62), (some (55, true)), .bin .leq (.t 58) (.t 61)⟩,
 ⟨(some 63), (some (51, false)), .pick (.t 55) (.t 62) (.k (.bool false))⟩,
 ⟨(some 64), none, .pick (.t 51) (.k (.bool true)) (.t 63)⟩,
 ⟨(some 9), none, .mv (.t 64)⟩]
def rNodesetMergedIntX9 : List O := [
 ⟨(some 10), none, .mv (.k (.int .i64 0))⟩]
def rNodesetMergedIntX10 : List O := [
 ⟨(some 65), none, .mv (.t 8)⟩]
def rNodesetMergedIntX11 : List O := [
 ⟨(some 66), none, .mv (.t 0)⟩,
 ⟨(some 67), none, .ixa 1 (.t 66) (.k (.int .i64 0))⟩,
 ⟨(some 68), none, .ld none (.t 67)⟩,
 ⟨(some 69), none, .mv (.t 0)⟩,
 ⟨(some 70), none, .slc 1 (.t 69) (some (.k (.int .i64 1))) none⟩,
 ⟨(some 10), none, .mv (.t 68)⟩,
 ⟨(some 0), none, .mv (.t 70)⟩]
def rNodesetMergedIntX12 : List O := [
 ⟨(some 71), none, .mv (.t 9)⟩]
def rNodesetMergedIntX13 : List O := [
 ⟨(some 72), none, .mv (.t 1)⟩,
 ⟨(some 73), none, .ixa 1 (.t 72) (.k (.int .i64 0))⟩,
 ⟨(some 74), none, .ld none (.t 73)⟩,
 ⟨(some 75), none, .mv (.t 1)⟩,
 ⟨(some 76), none, .slc 1 (.t 75) (some (.k (.int .i64 1))) none⟩,
 ⟨(some 10), none, .mv (.t 74)⟩,
 ⟨(some 1), none, .mv (.t 76)⟩]
def rNodesetMergedIntX14 : List O := [
 ⟨(some 77), none, .mv (.t 2)⟩,
 ⟨(some 78), none, .mv (.t 8)⟩,
 ⟨(some 79), none, .mv (.t 9)⟩,
 ⟨(some 80), none, .callv (.t 77) [(.t 78), (.t 79)]⟩]
def rNodesetMergedIntX15 : List O := [
 ⟨(some 81), none, .mv (.t 7)⟩,
 ⟨(some 82), none, .mv (.t 10)⟩,
 ⟨(some 83), none, .bslice 1 1 [(.int .i64 0)] [(0, 1, (.t 82))]⟩,
 ⟨(some 84), none, .app 1 (.t 81) (.t 83)⟩,
 ⟨(some 7), none, .mv (.t 84)⟩]
def lNodesetMergedIntX0 : C := (.seq (.seq (.reg rNodesetMergedIntX6 false [] [0, 1, 2, 7, 30]) (.cond (.t 30) .skip (.exit 0))) (.blk 1 (.seq (.reg rNodesetMergedIntX7 true [(10, 13)] [0, 1, 2, 7, 8]) (.seq (.reg rNodesetMergedIntX8 true [(10, 13)] [0, 1, 2, 7, 8, 9]) (.seq (.reg rNodesetMergedIntX9 false [] [0, 1, 2, 7, 8, 9, 10]) (.seq (.seq (.reg rNodesetMergedIntX10 false [] [0, 1, 2, 7, 8, 9, 10, 65]) (.cond (.t 65) (.reg rNodesetMergedIntX11 true [] [0, 1, 2, 7, 8, 9, 10]) .skip)) (.seq (.seq (.reg rNodesetMergedIntX12 false [] [0, 1, 2, 7, 8, 9, 10, 71]) (.cond (.t 71) (.reg rNodesetMergedIntX13 true [] [0, 1, 2, 7, 8, 9, 10]) .skip)) (.seq (.reg rNodesetMergedIntX14 false [] [0, 1, 2, 7, 10, 80]) (.cond (.t 80) (.reg rNodesetMergedIntX15 false [] [0, 1, 2, 7]) .skip)))))))))
def rNodesetMergedIntX16 : List O := [
 ⟨(some 85), none, .mv (.t 7)⟩,
 ⟨(some 6), none, .mv (.t 85)⟩]
def cNodesetMergedInt : C := (.seq (.reg rNodesetMergedIntX0 false [] [0, 1, 2]) (.seq (.reg rNodesetMergedIntX1 false [] [0, 1, 2]) (.seq (.reg rNodesetMergedIntX2 false [] [0, 1, 2]) (.seq (.reg rNodesetMergedIntX3 false [] [0, 1, 2]) (.seq (.reg rNodesetMergedIntX4 false [] [0, 1, 2]) (.seq (.reg rNodesetMergedIntX5 false [] [0, 1, 2, 7]) (.seq (.blk 0 (.loop lNodesetMergedIntX0)) (.seq (.reg rNodesetMergedIntX16 false [] [6]) .ret))))))))
def qNodesetMergedInt : AFn := ⟨86, 3, [.t 6], cNodesetMergedInt⟩
/- cohesion/nodeset.Union$1 -/
def rNodesetUnion1X0 : List O := [
 ⟨(some 4), none, .mv (.k (.bool false))⟩]
def rNodesetUnion1X1 : List O := [
 ⟨(some 4), none, .mv (.k (.bool true))⟩]
def cNodesetUnion1 : C := (.seq (.reg rNodesetUnion1X0 false [] []) (.seq (.reg rNodesetUnion1X1 false [] [4]) .ret))
def qNodesetUnion1 : AFn := ⟨5, 2, [.t 4], cNodesetUnion1⟩
/- math/bits.Mul32 -/
def rMathBitsMul32X0 : List O := [
 ⟨(some 4), none, .mv (.k (.int .u32 0))⟩,
 ⟨(some 5), none, .mv (.k (.int .u32 0))⟩]
def rMathBitsMul32X1 : List O := [
 ⟨(some 7), none, .mv (.t 0)⟩,
 ⟨(some 8), none, .cvt .u64 (.t 7)⟩,
 ⟨(some 9), none, .mv (.t 1)⟩,
 ⟨(some 10), none, .cvt .u64 (.t 9)⟩,
 ⟨(some 11), none, .bin .mul (.t 8) (.t 10)⟩,
 ⟨(some 6), none, .mv (.t 11)⟩]
def rMathBitsMul32X2 : List O := [
 ⟨(some 12), none, .mv (.t 6)⟩,
 ⟨(some 13), none, .bin .shr (.t 12) (.k (.int .u64 32))⟩,
 ⟨(some 14), none, .cvt .u32 (.t 13)⟩,
 ⟨(some 15), none, .mv (.t 6)⟩,
 ⟨(some 16), none, .cvt .u32 (.t 15)⟩,
 ⟨(some 4), none, .mv (.t 14)⟩,
 ⟨(some 5), none, .mv (.t 16)⟩]
def cMathBitsMul32 : C := (.seq (.reg rMathBitsMul32X0 false [] [0, 1]) (.seq (.reg rMathBitsMul32X1 false [] [6]) (.seq (.reg rMathBitsMul32X2 false [] [4, 5]) .ret)))
def qMathBitsMul32 : AFn := ⟨17, 2, [.t 4, .t 5], cMathBitsMul32⟩
/- math/bits.Mul64 -/
def rMathBitsMul64X0 : List O := [
 ⟨(some 4), none, .mv (.k (.int .u64 0))⟩,
 ⟨(some 5), none, .mv (.k (.int .u64 0))⟩]
def rMathBitsMul64X1 : List O := [
 ⟨(some 14), none, .mv (.t 0)⟩,
 ⟨(some 15), none, .bin .and (.t 14) (.k (.int .u64 4294967295))⟩,
 ⟨(some 6), none, .mv (.t 15)⟩]
def rMathBitsMul64X2 : List O := [
 ⟨(some 16), none, .mv (.t 0)⟩,
 ⟨(some 17), none, .bin .shr (.t 16) (.k (.int .u64 32))⟩,
 ⟨(some 7), none, .mv (.t 17)⟩]
def rMathBitsMul64X3 : List O := [
 ⟨(some 18), none, .mv (.t 1)⟩,
 ⟨(some 19), none, .bin .and (.t 18) (.k (.int .u64 4294967295))⟩,
 ⟨(some 8), none, .mv (.t 19)⟩]
def rMathBitsMul64X4 : List O := [
 ⟨(some 20), none, .mv (.t 1)⟩,
 ⟨(some 21), none, .bin .shr (.t 20) (.k (.int .u64 32))⟩,
 ⟨(some 9), none, .mv (.t 21)⟩]
def rMathBitsMul64X5 : List O := [
 ⟨(some 22), none, .mv (.t 6)⟩,
 ⟨(some 23), none, .mv (.t 8)⟩,
 ⟨(some 24), none, .bin .mul (.t 22) (.t 23)⟩,
 ⟨(some 10), none, .mv (.t 24)⟩]
def rMathBitsMul64X6 : List O := [
 ⟨(some 25), none, .mv (.t 7)⟩,
 ⟨(some 26), none, .mv (.t 8)⟩,
 ⟨(some 27), none, .bin .mul (.t 25) (.t 26)⟩,
 ⟨(some 28), none, .mv (.t 10)⟩,
 ⟨(some 29), none, .bin .shr (.t 28) (.k (.int .u64 32))⟩,
 ⟨(some 30), none, .bin .add (.t 27) (.t 29)⟩,
 ⟨(some 11), none, .mv (.t 30)⟩]
def rMathBitsMul64X7 : List O := [
 ⟨(some 31), none, .mv (.t 11)⟩,
 ⟨(some 32), none, .bin .and (.t 31) (.k (.int .u64 4294967295))⟩,
 ⟨(some 12), none, .mv (.t 32)⟩]
def rMathBitsMul64X8 : List O := [
 ⟨(some 33), none, .mv (.t 11)⟩,
 ⟨(some 34), none, .bin .shr (.t 33) (.k (.int .u64 32))⟩,
 ⟨(some 13), none, .mv (.t 34)⟩]
def rMathBitsMul64X9 : List O := [
 ⟨(some 35), none, .mv (.t 12)⟩,
 ⟨(some 36), none, .mv (.t 6)⟩,
 ⟨(some 37), none, .mv (.t 9)⟩,
 ⟨(some 38), none, .bin .mul (.t 36) (.t 37)⟩,
 ⟨(some 39), none, .bin .add (.t 35) (.t 38)⟩,
 ⟨(some 12), none, .mv (.t 39)⟩]
def rMathBitsMul64X10 : List O := [
 ⟨(some 40), none, .mv (.t 7)⟩,
 ⟨(some 41), none, .mv (.t 9)⟩,
 ⟨(some 42), none, .bin .mul (.t 40) (.t 41)⟩,
 ⟨(some 43), none, .mv (.t 13)⟩,
 ⟨(some 44), none, .bin .add (.t 42) (.t 43)⟩,
 ⟨(some 45), none, .mv (.t 12)⟩,
 ⟨(some 46), none, .bin .shr (.t 45) (.k (.int .u64 32))⟩,
 ⟨(some 47), none, .bin .add (.t 44) (.t 46)⟩,
 ⟨(some 4), none, .mv (.t 47)⟩]
def rMathBitsMul64X11 : List O := [
 ⟨(some 48), none, .mv (.t 0)⟩,
 ⟨(some 49), none, .mv (.t 1)⟩,
 ⟨(some 50), none, .bin .mul (.t 48) (.t 49)⟩,
 ⟨(some 5), none, .mv (.t 50)⟩]
def cMathBitsMul64 : C := (.seq (.reg rMathBitsMul64X0 false [] [0, 1]) (.seq (.reg rMathBitsMul64X1 false [] [0, 1, 6]) (.seq (.reg rMathBitsMul64X2 false [] [0, 1, 6, 7]) (.seq (.reg rMathBitsMul64X3 false [] [0, 1, 6, 7, 8]) (.seq (.reg rMathBitsMul64X4 false [] [0, 1, 6, 7, 8, 9]) (.seq (.reg rMathBitsMul64X5 false [] [0, 1, 6, 7, 8, 9, 10]) (.seq (.reg rMathBitsMul64X6 false [] [0, 1, 6, 7, 9, 11]) (.seq (.reg rMathBitsMul64X7 false [] [0, 1, 6, 7, 9, 11, 12]) (.seq (.reg rMathBitsMul64X8 false [] [0, 1, 6, 7, 9, 12, 13]) (.seq (.reg rMathBitsMul64X9 false [] [0, 1, 7, 9, 12, 13]) (.seq (.reg rMathBitsMul64X10 false [] [0, 1, 4]) (.seq (.reg rMathBitsMul64X11 false [] [4, 5]) .ret))))))))))))
def qMathBitsMul64 : AFn := ⟨51, 2, [.t 4, .t 5], cMathBitsMul64⟩
/- cohesion/masks.Rows -/
def rMasksRowsX0 : List O := [
 ⟨(some 1), none, .box (.t 0)⟩,
 ⟨(some 2), none, .mv (.k .nils)⟩]
def rMasksRowsX1 : List O := [
 ⟨(some 6), none, .fad 0 (.t 1)⟩,
 ⟨(some 7), none, .ld none (.t 6)⟩,
 ⟨(some 8), none, .max [(.t 7), (.k (.int .i64 0))]⟩,
 ⟨(some 9), none, .min [(.t 8), (.k (.int .i64 64))]⟩,
 ⟨(some 10), none, .mks 1 [(.int .u64 0)] (.t 9) (.t 9)⟩,
 ⟨(some 3), none, .mv (.t 10)⟩]
def rMasksRowsX2 : List O := [
 ⟨(some 11), none, .fad 1 (.t 1)⟩,
 ⟨(some 12), none, .ld none (.t 11)⟩,
 ⟨(some 13), none, .len (.t 12)⟩,
 ⟨(some 14), none, .mv (.k (.int .i64 0))⟩]
def rMasksRowsX3 : List O := [
 ⟨(some 15), none, .bin .lss (.t 14) (.t 13)⟩]
def rMasksRowsX4 : List O := [
 ⟨(some 16), none, .ixa 2 (.t 12) (.t 14)⟩,
 ⟨(some 17), none, .ld (some 2) (.t 16)⟩,
 ⟨(some 5), none, .new [(.int .i64 0), (.int .i64 0)]⟩,
 ⟨none, none, .st 2 (.t 5) (.t 17)⟩]
def rMasksRowsX5 : List O := [
 ⟨(some 18), none, .fad 0 (.t 5)⟩,
 ⟨(some 19), none, .ld none (.t 18)⟩,
 ⟨(some 20), none, .bin .geq (.t 19) (.k (.int .i64 0))⟩,
 ⟨(some 21), none, .mv (.t 20)⟩,
 ⟨(some 22), (some (21, true)), .fad 0 (.t 5)⟩,
 ⟨(some 23), (some (21, true)), .ld none (.t 22)⟩,
 ⟨(some 24), (some (21, true)), .fad 1 (.t 5)⟩,
 ⟨(some 25), (some (21, true)), .ld none (.t 24)⟩,
 ⟨(some 26), (some (21, true)), .bin .lss (.t 23) (.t 25)⟩,
 ⟨(some 27), none, .pick (.t 21) (.t 26) (.k (.bool false))⟩,
 ⟨(some 28), none, .mv (.t 27)⟩,
 ⟨(some 29), (some (28, true)), .fad 1 (.t 5)⟩,
 ⟨(some 30), (some (28, true)), .ld none (.t 29)⟩,
 ⟨(some 31), (some (28, true)), .mv (.t 3)⟩,
 ⟨(some 32), (some (28, true)), .len (.t 31)⟩,
 ⟨(some 33), (some (28, true)), .bin .lss (.t 30) (.t 32)⟩,
 ⟨(some 34), none, .pick (.t 28) (.t 33) (.k (.bool false))⟩]
def rMasksRowsX6 : List O := [
 ⟨(some 35), none, .mv (.t 3)⟩,
 ⟨(some 36), none, .fad 0 (.t 5)⟩,
 ⟨(some 37), none, .ld none (.t 36)⟩,
 ⟨(some 38), none, .ixa 1 (.t 35) (.t 37)⟩,
 ⟨(some 39), none, .ld none (.t 38)⟩,
 ⟨(some 40), none, .fad 1 (.t 5)⟩,
 ⟨(some 41), none, .ld none (.t 40)⟩,
 ⟨(some 42), none, .bin .shl (.k (.int .u64 1)) (.t 41)⟩,
 ⟨(some 43), none, .bin .or (.t 39) (.t 42)⟩,
 ⟨(some 44), none, .ixa 1 (.t 35) (.t 37)⟩,
 ⟨none, none, .st 1 (.t 44) (.t 43)⟩]
def rMasksRowsX7 : List O := [
 ⟨(some 45), none, .mv (.t 3)⟩,
 ⟨(some 46), none, .fad 1 (.t 5)⟩,
 ⟨(some 47), none, .ld none (.t 46)⟩,
 ⟨(some 48), none, .ixa 1 (.t 45) (.t 47)⟩,
 ⟨(some 49), none, .ld none (.t 48)⟩,
 ⟨(some 50), none, .fad 0 (.t 5)⟩,
 ⟨(some 51), none, .ld none (.t 50)⟩,
 ⟨(some 52), none, .bin .shl (.k (.int .u64 1)) (.t 51)⟩,
 ⟨(some 53), none, .bin .or (.t 49) (.t 52)⟩,
 ⟨(some 54), none, .ixa 1 (.t 45) (.t 47)⟩,
 ⟨none, none, .st 1 (.t 54) (.t 53)⟩]
def rMasksRowsX8 : List O := [
 ⟨(some 55), none, .bin .add (.t 14) (.k (.int .i64 1))⟩,
 ⟨(some 14), none, .mv (.t 55)⟩]
def lMasksRowsX0 : C := (.seq (.reg rMasksRowsX3 false [] [3, 12, 13, 14, 15]) (.seq (.cond (.t 15) .skip (.exit 0)) (.seq (.blk 1 (.seq (.reg rMasksRowsX4 false [] [3, 5, 12, 13, 14]) (.seq (.reg rMasksRowsX5 false [] [3, 5, 12, 13, 14, 34]) (.cond (.t 34) (.seq (.reg rMasksRowsX6 true [(2, 6), (4, 6)] [3, 5, 12, 13, 14]) (.reg rMasksRowsX7 true [(2, 6), (4, 6)] [3, 12, 13, 14])) .skip)))) (.reg rMasksRowsX8 false [] [3, 12, 13, 14]))))
def rMasksRowsX9 : List O := [
 ⟨(some 56), none, .mv (.t 3)⟩,
 ⟨(some 2), none, .mv (.t 56)⟩]
def cMasksRows : C := (.seq (.reg rMasksRowsX0 false [] [1]) (.seq (.reg rMasksRowsX1 false [] [1, 3]) (.seq (.seq (.reg rMasksRowsX2 false [] [3, 12, 13, 14]) (.blk 0 (.loop lMasksRowsX0))) (.seq (.reg rMasksRowsX9 false [] [2]) .ret))))
def qMasksRows : AFn := ⟨57, 1, [.t 2], cMasksRows⟩
/- cohesion/masks.Count -/
def rMasksCountX0 : List O := [
 ⟨(some 2), none, .mv (.k (.int .i64 0))⟩]
def rMasksCountX1 : List O := [
 ⟨(some 3), none, .mv (.t 0)⟩,
 ⟨(some 4), none, .call nQC [(.t 3)]⟩,
 ⟨(some 2), none, .mv (.t 4)⟩]
def cMasksCount : C := (.seq (.reg rMasksCountX0 false [] [0]) (.seq (.reg rMasksCountX1 false [] [2]) .ret))
def qMasksCount : AFn := ⟨5, 1, [.t 2], cMasksCount⟩
/- cohesion/masks.Bit -/
def rMasksBitX0 : List O := [
 ⟨(some 2), none, .mv (.k (.int .u64 0))⟩]
def rMasksBitX1 : List O := [
 ⟨(some 3), none, .mv (.t 0)⟩,
 ⟨(some 4), none, .bin .lss (.t 3) (.k (.int .i64 0))⟩,
 ⟨(some 5), none, .mv (.t 4)⟩,
 ⟨(some 6), (some (5, false)), .mv (.t 0)⟩,
 ⟨(some 7), (some (5, false)), .bin .geq (.t 6) (.k (.int .i64 64))⟩,
 ⟨(some 8), none, .pick (.t 5) (.k (.bool true)) (.t 7)⟩]
def rMasksBitX2 : List O := [
 ⟨(some 2), none, .mv (.k (.int .u64 0))⟩]
def rMasksBitX3 : List O := [
 ⟨(some 9), none, .mv (.t 0)⟩,
 ⟨(some 10), none, .bin .shl (.k (.int .u64 1)) (.t 9)⟩,
 ⟨(some 2), none, .mv (.t 10)⟩]
def cMasksBit : C := (.seq (.reg rMasksBitX0 false [] [0]) (.seq (.seq (.reg rMasksBitX1 false [] [0, 8]) (.cond (.t 8) (.seq (.reg rMasksBitX2 false [] [2]) .ret) .skip)) (.seq (.reg rMasksBitX3 false [] [2]) .ret)))
def qMasksBit : AFn := ⟨11, 1, [.t 2], cMasksBit⟩
/- cohesion/masks.All -/
def rMasksAllX0 : List O := [
 ⟨(some 2), none, .mv (.k (.int .u64 0))⟩]
def rMasksAllX1 : List O := [
 ⟨(some 4), none, .mv (.t 0)⟩,
 ⟨(some 5), none, .bin .leq (.t 4) (.k (.int .i64 0))⟩,
 ⟨(some 3), none, .mv (.t 5)⟩]
def rMasksAllX2 : List O := [
 ⟨(some 2), none, .mv (.k (.int .u64 0))⟩]
def rMasksAllX3 : List O := [
 ⟨(some 7), none, .mv (.t 0)⟩,
 ⟨(some 8), none, .bin .geq (.t 7) (.k (.int .i64 64))⟩,
 ⟨(some 6), none, .mv (.t 8)⟩]
def rMasksAllX4 : List O := [
 ⟨(some 2), none, .mv (.k (.int .u64 18446744073709551615))⟩]
def rMasksAllX5 : List O := [
 ⟨(some 9), none, .mv (.t 0)⟩,
 ⟨(some 10), none, .bin .shl (.k (.int .u64 1)) (.t 9)⟩,
 ⟨(some 11), none, .bin .sub (.t 10) (.k (.int .u64 1))⟩,
 ⟨(some 2), none, .mv (.t 11)⟩]
def cMasksAll : C := (.seq (.reg rMasksAllX0 false [] [0]) (.seq (.blk 0 (.seq (.reg rMasksAllX1 false [] [0, 3]) (.cond (.t 3) (.seq (.reg rMasksAllX2 false [] [2]) .ret) (.seq (.reg rMasksAllX3 false [] [0, 6]) (.cond (.t 6) (.seq (.reg rMasksAllX4 false [] [2]) .ret) .skip))))) (.seq (.reg rMasksAllX5 false [] [2]) .ret)))
def qMasksAll : AFn := ⟨12, 1, [.t 2], cMasksAll⟩
/- cohesion/masks.Least -/
def rMasksLeastX0 : List O := [
 ⟨(some 2), none, .mv (.k (.int .i64 0))⟩]
def rMasksLeastX1 : List O := [
 ⟨(some 3), none, .mv (.t 0)⟩,
 ⟨(some 4), none, .call nQx [(.t 3)]⟩,
 ⟨(some 2), none, .mv (.t 4)⟩]
def cMasksLeast : C := (.seq (.reg rMasksLeastX0 false [] [0]) (.seq (.reg rMasksLeastX1 false [] [2]) .ret))
def qMasksLeast : AFn := ⟨5, 1, [.t 2], cMasksLeast⟩
/- cmp.isNaN[int] -/
def rQGX0 : List O := [
 ⟨(some 2), none, .mv (.k (.bool false))⟩]
def rQGX1 : List O := [
 ⟨(some 3), none, .mv (.t 0)⟩,
 ⟨(some 4), none, .mv (.t 0)⟩,
 ⟨(some 5), none, .bin .neq (.t 3) (.t 4)⟩,
 ⟨(some 2), none, .mv (.t 5)⟩]
def cQG : C := (.seq (.reg rQGX0 false [] [0]) (.seq (.reg rQGX1 false [] [2]) .ret))
def qQG : AFn := ⟨6, 1, [.t 2], cQG⟩
/- slices.Clone[[]int,int] -/
def rSlicesCloneIntIntX0 : List O := [
 ⟨(some 2), none, .mv (.k .nils)⟩]
def rSlicesCloneIntIntX1 : List O := [
 ⟨(some 3), none, .mv (.t 0)⟩,
 ⟨(some 4), none, .eq false .nsl (.t 3) (.k .nils)⟩]
def rSlicesCloneIntIntX2 : List O := [
 ⟨(some 2), none, .mv (.k .nils)⟩]
def rSlicesCloneIntIntX3 : List O := [
 ⟨(some 5), none, .bslice 1 0 [(.int .i64 0)] []⟩,
 ⟨(some 6), none, .mv (.t 0)⟩,
 ⟨(some 7), none, .app 1 (.t 5) (.t 6)⟩,
 ⟨(some 2), none, .mv (.t 7)⟩]
def cSlicesCloneIntInt : C := (.seq (.reg rSlicesCloneIntIntX0 false [] [0]) (.seq (.seq (.reg rSlicesCloneIntIntX1 false [] [0, 4]) (.cond (.t 4) (.seq (.reg rSlicesCloneIntIntX2 false [] [2]) .ret) .skip)) (.seq (.reg rSlicesCloneIntIntX3 false [] [2]) .ret)))
def qSlicesCloneIntInt : AFn := ⟨8, 1, [.t 2], cSlicesCloneIntInt⟩
/- slices.Sort[[]int,int] -/
def rSlicesSortIntIntX0 : List O := [
 ⟨(some 3), none, .mv (.t 0)⟩,
 ⟨(some 4), none, .len (.t 3)⟩,
 ⟨(some 2), none, .mv (.t 4)⟩]
def rSlicesSortIntIntX1 : List O := [
 ⟨(some 5), none, .mv (.t 0)⟩,
 ⟨(some 6), none, .mv (.t 2)⟩,
 ⟨(some 7), none, .mv (.t 2)⟩,
 ⟨(some 8), none, .cvt .u64 (.t 7)⟩,
 ⟨(some 9), none, .call nMathBitsLen [(.t 8)]⟩,
 ⟨(some 10), none, .call nSlicesPdqsortOrderedInt [(.t 5), (.k (.int .i64 0)), (.t 6), (.t 9)]⟩]
def cSlicesSortIntInt : C := (.seq (.reg rSlicesSortIntIntX0 false [] [0, 2]) (.reg rSlicesSortIntIntX1 false [] []))
def qSlicesSortIntInt : AFn := ⟨11, 1, [], cSlicesSortIntInt⟩
/- slices.Compact[[]int,int] -/
def rSlicesCompactIntIntX0 : List O := [
 ⟨(some 2), none, .mv (.k .nils)⟩]
def rSlicesCompactIntIntX1 : List O := [
 ⟨(some 6), none, .mv (.t 0)⟩,
 ⟨(some 7), none, .len (.t 6)⟩,
 ⟨(some 8), none, .bin .lss (.t 7) (.k (.int .i64 2))⟩]
def rSlicesCompactIntIntX2 : List O := [
 ⟨(some 9), none, .mv (.t 0)⟩,
 ⟨(some 2), none, .mv (.t 9)⟩]
def rSlicesCompactIntIntX3 : List O := [
 ⟨(some 3), none, .mv (.k (.int .i64 1))⟩]
def rSlicesCompactIntIntX4 : List O := [
 ⟨(some 10), none, .mv (.t 3)⟩,
 ⟨(some 11), none, .mv (.t 0)⟩,
 ⟨(some 12), none, .len (.t 11)⟩,
 ⟨(some 13), none, .bin .lss (.t 10) (.t 12)⟩]
def rSlicesCompactIntIntX5 : List O := [
 ⟨(some 16), none, .mv (.t 0)⟩,
 ⟨(some 17), none, .mv (.t 3)⟩,
 ⟨(some 18), none, .ixa 1 (.t 16) (.t 17)⟩,
 ⟨(some 19), none, .ld none (.t 18)⟩,
 ⟨(some 20), none, .mv (.t 0)⟩,
 ⟨(some 21), none, .mv (.t 3)⟩,
 ⟨(some 22), none, .bin .sub (.t 21) (.k (.int .i64 1))⟩,
 ⟨(some 23), none, .ixa 1 (.t 20) (.t 22)⟩,
 ⟨(some 24), none, .ld none (.t 23)⟩,
 ⟨(some 25), none, .bin .eql (.t 19) (.t 24)⟩]
def rSlicesCompactIntIntX6 : List O := [
 ⟨(some 26), none, .mv (.t 0)⟩,
 ⟨(some 27), none, .mv (.t 3)⟩,
 ⟨(some 28), none, .slc 1 (.t 26) (some (.t 27)) none⟩,
 ⟨(some 4), none, .mv (.t 28)⟩]
def rSlicesCompactIntIntX7 : List O := [
 ⟨(some 5), none, .mv (.k (.int .i64 1))⟩]
def rSlicesCompactIntIntX8 : List O := [
 ⟨(some 29), none, .mv (.t 5)⟩,
 ⟨(some 30), none, .mv (.t 4)⟩,
 ⟨(some 31), none, .len (.t 30)⟩,
 ⟨(some 32), none, .bin .lss (.t 29) (.t 31)⟩]
def rSlicesCompactIntIntX9 : List O := [
 ⟨(some 35), none, .mv (.t 4)⟩,
 ⟨(some 36), none, .mv (.t 5)⟩,
 ⟨(some 37), none, .ixa 1 (.t 35) (.t 36)⟩,
 ⟨(some 38), none, .ld none (.t 37)⟩,
 ⟨(some 39), none, .mv (.t 4)⟩,
 ⟨(some 40), none, .mv (.t 5)⟩,
 ⟨(some 41), none, .bin .sub (.t 40) (.k (.int .i64 1))⟩,
 ⟨(some 42), none, .ixa 1 (.t 39) (.t 41)⟩,
 ⟨(some 43), none, .ld none (.t 42)⟩,
 ⟨(some 44), none, .bin .neq (.t 38) (.t 43)⟩]
def rSlicesCompactIntIntX10 : List O := [
 ⟨(some 45), none, .mv (.t 0)⟩,
 ⟨(some 46), none, .mv (.t 3)⟩,
 ⟨(some 47), none, .mv (.t 4)⟩,
 ⟨(some 48), none, .mv (.t 5)⟩,
 ⟨(some 49), none, .ixa 1 (.t 47) (.t 48)⟩,
 ⟨(some 50), none, .ld none (.t 49)⟩,
 ⟨(some 51), none, .ixa 1 (.t 45) (.t 46)⟩,
 ⟨none, none, .st 1 (.t 51) (.t 50)⟩]
def rSlicesCompactIntIntX11 : List O := [
 ⟨(some 52), none, .mv (.t 3)⟩,
 ⟨(some 53), none, .bin .add (.t 52) (.k (.int .i64 1))⟩,
 ⟨(some 3), none, .mv (.t 53)⟩]
def rSlicesCompactIntIntX12 : List O := [
 ⟨(some 33), none, .mv (.t 5)⟩,
 ⟨(some 34), none, .bin .add (.t 33) (.k (.int .i64 1))⟩,
 ⟨(some 5), none, .mv (.t 34)⟩]
def lSlicesCompactIntIntX0 : C := (.seq (.seq (.reg rSlicesCompactIntIntX8 false [] [0, 3, 4, 5, 32]) (.cond (.t 32) .skip (.exit 2))) (.seq (.blk 3 (.seq (.reg rSlicesCompactIntIntX9 true [(3, 8)] [0, 3, 4, 5, 44]) (.cond (.t 44) (.seq (.reg rSlicesCompactIntIntX10 false [] [0, 3, 4, 5]) (.reg rSlicesCompactIntIntX11 false [] [0, 3, 4, 5])) .skip))) (.reg rSlicesCompactIntIntX12 false [] [0, 3, 4, 5])))
def rSlicesCompactIntIntX13 : List O := [
 ⟨(some 54), none, .mv (.t 0)⟩,
 ⟨(some 55), none, .mv (.t 3)⟩,
 ⟨(some 56), none, .slc 1 (.t 54) (some (.t 55)) none⟩,
 ⟨none, none, .clr 1 [(.int .i64 0)] (.t 56)⟩]
def rSlicesCompactIntIntX14 : List O := [
 ⟨(some 57), none, .mv (.t 0)⟩,
 ⟨(some 58), none, .mv (.t 3)⟩,
 ⟨(some 59), none, .slc 1 (.t 57) none (some (.t 58))⟩,
 ⟨(some 2), none, .mv (.t 59)⟩]
def rSlicesCompactIntIntX15 : List O := [
 ⟨(some 14), none, .mv (.t 3)⟩,
 ⟨(some 15), none, .bin .add (.t 14) (.k (.int .i64 1))⟩,
 ⟨(some 3), none, .mv (.t 15)⟩]
def lSlicesCompactIntIntX1 : C := (.seq (.seq (.reg rSlicesCompactIntIntX4 false [] [0, 3, 13]) (.cond (.t 13) .skip (.exit 0))) (.seq (.blk 1 (.seq (.reg rSlicesCompactIntIntX5 true [(3, 8)] [0, 3, 25]) (.cond (.t 25) (.seq (.reg rSlicesCompactIntIntX6 false [] [0, 3, 4]) (.seq (.seq (.reg rSlicesCompactIntIntX7 false [] [0, 3, 4, 5]) (.blk 2 (.loop lSlicesCompactIntIntX0))) (.seq (.reg rSlicesCompactIntIntX13 false [] [0, 3]) (.seq (.reg rSlicesCompactIntIntX14 false [] [2]) .ret)))) .skip))) (.reg rSlicesCompactIntIntX15 false [] [0, 3])))
def rSlicesCompactIntIntX16 : List O := [
 ⟨(some 60), none, .mv (.t 0)⟩,
 ⟨(some 2), none, .mv (.t 60)⟩]
def cSlicesCompactIntInt : C := (.seq (.reg rSlicesCompactIntIntX0 false [] [0]) (.seq (.seq (.reg rSlicesCompactIntIntX1 false [] [0, 8]) (.cond (.t 8) (.seq (.reg rSlicesCompactIntIntX2 false [] [2]) .ret) .skip)) (.seq (.seq (.reg rSlicesCompactIntIntX3 false [] [0, 3]) (.blk 0 (.loop lSlicesCompactIntIntX1))) (.seq (.reg rSlicesCompactIntIntX16 false [] [2]) .ret))))
def qSlicesCompactIntInt : AFn := ⟨61, 1, [.t 2], cSlicesCompactIntInt⟩
/- slices.pdqsortOrdered[int] -/
def rSlicesPdqsortOrderedIntX0 : List O := [
 ⟨(some 8), none, .mv (.k (.bool true))⟩]
def rSlicesPdqsortOrderedIntX1 : List O := [
 ⟨(some 9), none, .mv (.k (.bool true))⟩]
def rSlicesPdqsortOrderedIntX2 : List O := [
 ⟨(some 19), none, .mv (.t 2)⟩,
 ⟨(some 20), none, .mv (.t 1)⟩,
 ⟨(some 21), none, .bin .sub (.t 19) (.t 20)⟩,
 ⟨(some 10), none, .mv (.t 21)⟩]
def rSlicesPdqsortOrderedIntX3 : List O := [
 ⟨(some 22), none, .mv (.t 10)⟩,
 ⟨(some 23), none, .bin .leq (.t 22) (.k (.int .i64 12))⟩]
def rSlicesPdqsortOrderedIntX4 : List O := [
 ⟨(some 24), none, .mv (.t 0)⟩,
 ⟨(some 25), none, .mv (.t 1)⟩,
 ⟨(some 26), none, .mv (.t 2)⟩,
 ⟨(some 27), none, .call nSlicesInsertionSortOrderedInt [(.t 24), (.t 25), (.t 26)]⟩]
def rSlicesPdqsortOrderedIntX5 : List O := [
 ⟨(some 28), none, .mv (.t 3)⟩,
 ⟨(some 29), none, .bin .eql (.t 28) (.k (.int .i64 0))⟩]
def rSlicesPdqsortOrderedIntX6 : List O := [
 ⟨(some 30), none, .mv (.t 0)⟩,
 ⟨(some 31), none, .mv (.t 1)⟩,
 ⟨(some 32), none, .mv (.t 2)⟩,
 ⟨(some 33), none, .call 94 [(.t 30), (.t 31), (.t 32)]⟩]
def rSlicesPdqsortOrderedIntX7 : List O := [
 ⟨(some 34), none, .mv (.t 8)⟩,
 ⟨(some 35), none, .un .not (.t 34)⟩]
def rSlicesPdqsortOrderedIntX8 : List O := [
 ⟨(some 36), none, .mv (.t 0)⟩,
 ⟨(some 37), none, .mv (.t 1)⟩,
 ⟨(some 38), none, .mv (.t 2)⟩,
 ⟨(some 39), none, .call 95 [(.t 36), (.t 37), (.t 38)]⟩]
def rSlicesPdqsortOrderedIntX9 : List O := [
 ⟨(some 40), none, .mv (.t 3)⟩,
 ⟨(some 41), none, .bin .sub (.t 40) (.k (.int .i64 1))⟩,
 ⟨(some 3), none, .mv (.t 41)⟩]
def rSlicesPdqsortOrderedIntX10 : List O := [
 ⟨(some 43), none, .mv (.t 0)⟩,
 ⟨(some 44), none, .mv (.t 1)⟩,
 ⟨(some 45), none, .mv (.t 2)⟩,
 ⟨(some 46), none, .call 96 [(.t 43), (.t 44), (.t 45)]⟩,
 ⟨(some 42), none, .mv (.t 46)⟩,
 ⟨(some 47), none, .ext 0 (.t 42)⟩,
 ⟨(some 48), none, .ext 1 (.t 42)⟩,
 ⟨(some 11), none, .mv (.t 47)⟩,
 ⟨(some 12), none, .mv (.t 48)⟩]
def rSlicesPdqsortOrderedIntX11 : List O := [
 ⟨(some 49), none, .mv (.t 12)⟩,
 ⟨(some 50), none, .bin .eql (.t 49) (.k (.int .i64 2))⟩]
def rSlicesPdqsortOrderedIntX12 : List O := [
 ⟨(some 51), none, .mv (.t 0)⟩,
 ⟨(some 52), none, .mv (.t 1)⟩,
 ⟨(some 53), none, .mv (.t 2)⟩,
 ⟨(some 54), none, .call 97 [(.t 51), (.t 52), (.t 53)]⟩]
def rSlicesPdqsortOrderedIntX13 : List O := [
 ⟨(some 55), none, .mv (.t 2)⟩,
 ⟨(some 56), none, .bin .sub (.t 55) (.k (.int .i64 1))⟩,
 ⟨(some 57), none, .mv (.t 11)⟩,
 ⟨(some 58), none, .mv (.t 1)⟩,
 ⟨(some 59), none, .bin .sub (.t 57) (.t 58)⟩,
 ⟨(some 60), none, .bin .sub (.t 56) (.t 59)⟩,
 ⟨(some 11), none, .mv (.t 60)⟩]
def rSlicesPdqsortOrderedIntX14 : List O := [
 ⟨(some 12), none, .mv (.k (.int .i64 1))⟩]
def rSlicesPdqsortOrderedIntX15 : List O := [
 ⟨(some 61), none, .mv (.t 8)⟩,
 ⟨(some 62), none, .mv (.t 61)⟩,
 ⟨(some 63), (some (62, true)), .mv (.t 9)⟩,
 ⟨(some 64), none, .pick (.t 62) (.t 63) (.k (.bool false))⟩,
 ⟨(some 65), none, .mv (.t 64)⟩,
 ⟨(some 66), (some (65, true)), .mv (.t 12)⟩,
 ⟨(some 67), (some (65, true)), .bin .eql (.t 66) (.k (.int .i64 1))⟩,
 ⟨(some 68), none, .pick (.t 65) (.t 67) (.k (.bool false))⟩]
def rSlicesPdqsortOrderedIntX16 : List O := [
 ⟨(some 69), none, .mv (.t 0)⟩,
 ⟨(some 70), none, .mv (.t 1)⟩,
 ⟨(some 71), none, .mv (.t 2)⟩,
 ⟨(some 72), none, .call 98 [(.t 69), (.t 70), (.t 71)]⟩]
def rSlicesPdqsortOrderedIntX17 : List O := [
 ⟨(some 73), none, .mv (.t 1)⟩,
 ⟨(some 74), none, .bin .gtr (.t 73) (.k (.int .i64 0))⟩,
 ⟨(some 75), none, .mv (.t 74)⟩,
 ⟨(some 76), (some (75, true)), .mv (.t 0)⟩,
 ⟨(some 77), (some (75, true)), .mv (.t 1)⟩,
 ⟨(some 78), (some (75, true)), .bin .sub (.t 77) (.k (.int .i64 1))⟩,
 ⟨(some 79), (some (75, true)), .ixa 1 (.t 76) (.t 78)⟩,
 ⟨(some 80), (some (75, true)), .ld none (.t 79)⟩,
 ⟨(some 81), (some (75, true)), .mv (.t 0)⟩,
 ⟨(some 82), (some (75, true)), .mv (.t 11)⟩,
 ⟨(some 83), (some (75, true)), .ixa 1 (.t 81) (.t 82)⟩,
 ⟨(some 84), (some (75, true)), .ld none (.t 83)⟩,
 ⟨(some 85), (some (75, true)), .call nCmpLessInt [(.t 80), (.t 84)]⟩,
 ⟨(some 86), (some (75, true)), .un .not (.t 85)⟩,
 ⟨(some 87), none, .pick (.t 75) (.t 86) (.k (.bool false))⟩]
def rSlicesPdqsortOrderedIntX18 : List O := [
 ⟨(some 88), none, .mv (.t 0)⟩,
 ⟨(some 89), none, .mv (.t 1)⟩,
 ⟨(some 90), none, .mv (.t 2)⟩,
 ⟨(some 91), none, .mv (.t 11)⟩,
 ⟨(some 92), none, .call 100 [(.t 88), (.t 89), (.t 90), (.t 91)]⟩,
 ⟨(some 13), none, .mv (.t 92)⟩]
def rSlicesPdqsortOrderedIntX19 : List O := [
 ⟨(some 93), none, .mv (.t 13)⟩,
 ⟨(some 1), none, .mv (.t 93)⟩]
def rSlicesPdqsortOrderedIntX20 : List O := [
 ⟨(some 95), none, .mv (.t 0)⟩,
 ⟨(some 96), none, .mv (.t 1)⟩,
 ⟨(some 97), none, .mv (.t 2)⟩,
 ⟨(some 98), none, .mv (.t 11)⟩,
 ⟨(some 99), none, .call 101 [(.t 95), (.t 96), (.t 97), (.t 98)]⟩,
 ⟨(some 94), none, .mv (.t 99)⟩,
 ⟨(some 100), none, .ext 0 (.t 94)⟩,
 ⟨(some 101), none, .ext 1 (.t 94)⟩,
 ⟨(some 14), none, .mv (.t 100)⟩,
 ⟨(some 15), none, .mv (.t 101)⟩]
def rSlicesPdqsortOrderedIntX21 : List O := [
 ⟨(some 102), none, .mv (.t 15)⟩,
 ⟨(some 9), none, .mv (.t 102)⟩]
def rSlicesPdqsortOrderedIntX22 : List O := [
 ⟨(some 103), none, .mv (.t 14)⟩,
 ⟨(some 104), none, .mv (.t 1)⟩,
 ⟨(some 105), none, .bin .sub (.t 103) (.t 104)⟩,
 ⟨(some 106), none, .mv (.t 2)⟩,
 ⟨(some 107), none, .mv (.t 14)⟩,
 ⟨(some 108), none, .bin .sub (.t 106) (.t 107)⟩,
 ⟨(some 16), none, .mv (.t 105)⟩,
 ⟨(some 17), none, .mv (.t 108)⟩]
def rSlicesPdqsortOrderedIntX23 : List O := [
 ⟨(some 109), none, .mv (.t 10)⟩,
 ⟨(some 110), none, .bin .quo (.t 109) (.k (.int .i64 8))⟩,
 ⟨(some 18), none, .mv (.t 110)⟩]
def rSlicesPdqsortOrderedIntX24 : List O := [
 ⟨(some 111), none, .mv (.t 16)⟩,
 ⟨(some 112), none, .mv (.t 17)⟩,
 ⟨(some 113), none, .bin .lss (.t 111) (.t 112)⟩]
def rSlicesPdqsortOrderedIntX25 : List O := [
 ⟨(some 114), none, .mv (.t 16)⟩,
 ⟨(some 115), none, .mv (.t 18)⟩,
 ⟨(some 116), none, .bin .geq (.t 114) (.t 115)⟩,
 ⟨(some 8), none, .mv (.t 116)⟩]
def rSlicesPdqsortOrderedIntX26 : List O := [
 ⟨(some 117), none, .mv (.t 0)⟩,
 ⟨(some 118), none, .mv (.t 1)⟩,
 ⟨(some 119), none, .mv (.t 14)⟩,
 ⟨(some 120), none, .mv (.t 3)⟩,
 ⟨(some 121), none, .call nSlicesPdqsortOrderedInt [(.t 117), (.t 118), (.t 119), (.t 120)]⟩]
def rSlicesPdqsortOrderedIntX27 : List O := [
 ⟨(some 122), none, .mv (.t 14)⟩,
 ⟨(some 123), none, .bin .add (.t 122) (.k (.int .i64 1))⟩,
 ⟨(some 1), none, .mv (.t 123)⟩]
def rSlicesPdqsortOrderedIntX28 : List O := [
 ⟨(some 124), none, .mv (.t 17)⟩,
 ⟨(some 125), none, .mv (.t 18)⟩,
 ⟨(some 126), none, .bin .geq (.t 124) (.t 125)⟩,
 ⟨(some 8), none, .mv (.t 126)⟩]
def rSlicesPdqsortOrderedIntX29 : List O := [
 ⟨(some 127), none, .mv (.t 0)⟩,
 ⟨(some 128), none, .mv (.t 14)⟩,
 ⟨(some 129), none, .bin .add (.t 128) (.k (.int .i64 1))⟩,
 ⟨(some 130), none, .mv (.t 2)⟩,
 ⟨(some 131), none, .mv (.t 3)⟩,
 ⟨(some 132), none, .call nSlicesPdqsortOrderedInt [(.t 127), (.t 129), (.t 130), (.t 131)]⟩]
def rSlicesPdqsortOrderedIntX30 : List O := [
 ⟨(some 133), none, .mv (.t 14)⟩,
 ⟨(some 2), none, .mv (.t 133)⟩]
def lSlicesPdqsortOrderedIntX0 : C := (.blk 1 (.seq (.reg rSlicesPdqsortOrderedIntX2 false [] [0, 1, 2, 3, 8, 9, 10]) (.seq (.seq (.reg rSlicesPdqsortOrderedIntX3 false [] [0, 1, 2, 3, 8, 9, 10, 23]) (.cond (.t 23) (.seq (.reg rSlicesPdqsortOrderedIntX4 false [] []) .ret) .skip)) (.seq (.seq (.reg rSlicesPdqsortOrderedIntX5 false [] [0, 1, 2, 3, 8, 9, 10, 29]) (.cond (.t 29) (.seq (.reg rSlicesPdqsortOrderedIntX6 false [] []) .ret) .skip)) (.seq (.seq (.reg rSlicesPdqsortOrderedIntX7 false [] [0, 1, 2, 3, 8, 9, 10, 35]) (.cond (.t 35) (.seq (.reg rSlicesPdqsortOrderedIntX8 false [] [0, 1, 2, 3, 8, 9, 10]) (.reg rSlicesPdqsortOrderedIntX9 false [] [0, 1, 2, 3, 8, 9, 10])) .skip)) (.seq (.reg rSlicesPdqsortOrderedIntX10 false [] [0, 1, 2, 3, 8, 9, 10, 11, 12]) (.seq (.seq (.reg rSlicesPdqsortOrderedIntX11 false [] [0, 1, 2, 3, 8, 9, 10, 11, 12, 50]) (.cond (.t 50) (.seq (.reg rSlicesPdqsortOrderedIntX12 false [] [0, 1, 2, 3, 8, 9, 10, 11]) (.seq (.reg rSlicesPdqsortOrderedIntX13 false [] [0, 1, 2, 3, 8, 9, 10, 11]) (.reg rSlicesPdqsortOrderedIntX14 false [] [0, 1, 2, 3, 8, 9, 10, 11, 12]))) .skip)) (.seq (.seq (.reg rSlicesPdqsortOrderedIntX15 false [] [0, 1, 2, 3, 8, 9, 10, 11, 68]) (.cond (.t 68) (.seq (.reg rSlicesPdqsortOrderedIntX16 false [] [0, 1, 2, 3, 8, 9, 10, 11, 72]) (.cond (.t 72) .ret .skip)) .skip)) (.seq (.seq (.reg rSlicesPdqsortOrderedIntX17 true [(7, 11)] [0, 1, 2, 3, 8, 9, 10, 11, 87]) (.cond (.t 87) (.seq (.reg rSlicesPdqsortOrderedIntX18 false [] [0, 2, 3, 8, 9, 13]) (.seq (.reg rSlicesPdqsortOrderedIntX19 false [] [0, 1, 2, 3, 8, 9]) (.exit 1))) .skip)) (.seq (.reg rSlicesPdqsortOrderedIntX20 false [] [0, 1, 2, 3, 10, 14, 15]) (.seq (.reg rSlicesPdqsortOrderedIntX21 false [] [0, 1, 2, 3, 9, 10, 14]) (.seq (.reg rSlicesPdqsortOrderedIntX22 false [] [0, 1, 2, 3, 9, 10, 14, 16, 17]) (.seq (.reg rSlicesPdqsortOrderedIntX23 false [] [0, 1, 2, 3, 9, 14, 16, 17, 18]) (.seq (.reg rSlicesPdqsortOrderedIntX24 false [] [0, 1, 2, 3, 9, 14, 16, 17, 18, 113]) (.cond (.t 113) (.seq (.reg rSlicesPdqsortOrderedIntX25 false [] [0, 1, 2, 3, 8, 9, 14]) (.seq (.reg rSlicesPdqsortOrderedIntX26 false [] [0, 2, 3, 8, 9, 14]) (.reg rSlicesPdqsortOrderedIntX27 false [] [0, 1, 2, 3, 8, 9]))) (.seq (.reg rSlicesPdqsortOrderedIntX28 false [] [0, 1, 2, 3, 8, 9, 14]) (.seq (.reg rSlicesPdqsortOrderedIntX29 false [] [0, 1, 3, 8, 9, 14]) (.reg rSlicesPdqsortOrderedIntX30 false [] [0, 1, 2, 3, 8, 9]))))))))))))))))))
def cSlicesPdqsortOrderedInt : C := (.seq (.reg rSlicesPdqsortOrderedIntX0 false [] [0, 1, 2, 3, 8]) (.seq (.reg rSlicesPdqsortOrderedIntX1 false [] [0, 1, 2, 3, 8, 9]) (.blk 0 (.loop lSlicesPdqsortOrderedIntX0))))
def qSlicesPdqsortOrderedInt : AFn := ⟨134, 4, [], cSlicesPdqsortOrderedInt⟩
/- math/bits.Len -/
def rMathBitsLenX0 : List O := [
 ⟨(some 2), none, .mv (.k (.int .i64 0))⟩]
def rMathBitsLenX1 : List O := [
 ⟨(some 3), none, .mv (.t 0)⟩,
 ⟨(some 4), none, .cvt .u32 (.t 3)⟩,
 ⟨(some 5), none, .call nMathBitsLen32 [(.t 4)]⟩,
 ⟨(some 2), none, .mv (.t 5)⟩]
def rMathBitsLenX2 : List O := [
 ⟨(some 6), none, .mv (.t 0)⟩,
 ⟨(some 7), none, .call nMathBitsLen64 [(.t 6)]⟩,
 ⟨(some 2), none, .mv (.t 7)⟩]
def cMathBitsLen : C := (.seq (.reg rMathBitsLenX0 false [] [0]) (.seq (.cond (.k (.bool false)) (.seq (.reg rMathBitsLenX1 false [] [2]) .ret) .skip) (.seq (.reg rMathBitsLenX2 false [] [2]) .ret)))
def qMathBitsLen : AFn := ⟨8, 1, [.t 2], cMathBitsLen⟩
/- slices.insertionSortOrdered[int] -/
def rSlicesInsertionSortOrderedIntX0 : List O := [
 ⟨(some 8), none, .mv (.t 1)⟩,
 ⟨(some 9), none, .bin .add (.t 8) (.k (.int .i64 1))⟩,
 ⟨(some 6), none, .mv (.t 9)⟩]
def rSlicesInsertionSortOrderedIntX1 : List O := [
 ⟨(some 10), none, .mv (.t 6)⟩,
 ⟨(some 11), none, .mv (.t 2)⟩,
 ⟨(some 12), none, .bin .lss (.t 10) (.t 11)⟩]
def rSlicesInsertionSortOrderedIntX2 : List O := [
 ⟨(some 15), none, .mv (.t 6)⟩,
 ⟨(some 7), none, .mv (.t 15)⟩]
def rSlicesInsertionSortOrderedIntX3 : List O := [
 ⟨(some 16), none, .mv (.t 7)⟩,
 ⟨(some 17), none, .mv (.t 1)⟩,
 ⟨(some 18), none, .bin .gtr (.t 16) (.t 17)⟩,
 ⟨(some 19), none, .mv (.t 18)⟩,
 ⟨(some 20), (some (19, true)), .mv (.t 0)⟩,
 ⟨(some 21), (some (19, true)), .mv (.t 7)⟩,
 ⟨(some 22), (some (19, true)), .ixa 1 (.t 20) (.t 21)⟩,
 ⟨(some 23), (some (19, true)), .ld none (.t 22)⟩,
 ⟨(some 24), (some (19, true)), .mv (.t 0)⟩,
 ⟨(some 25), (some (19, true)), .mv (.t 7)⟩,
 ⟨(some 26), (some (19, true)), .bin .sub (.t 25) (.k (.int .i64 1))⟩,
 ⟨(some 27), (some (19, true)), .ixa 1 (.t 24) (.t 26)⟩,
 ⟨(some 28), (some (19, true)), .ld none (.t 27)⟩,
 ⟨(some 29), (some (19, true)), .call nCmpLessInt [(.t 23), (.t 28)]⟩,
 ⟨(some 30), none, .pick (.t 19) (.t 29) (.k (.bool false))⟩]
def rSlicesInsertionSortOrderedIntX4 : List O := [
 ⟨(some 33), none, .mv (.t 0)⟩,
 ⟨(some 34), none, .mv (.t 7)⟩,
 ⟨(some 35), none, .mv (.t 0)⟩,
 ⟨(some 36), none, .mv (.t 7)⟩,
 ⟨(some 37), none, .bin .sub (.t 36) (.k (.int .i64 1))⟩,
 ⟨(some 38), none, .mv (.t 0)⟩,
 ⟨(some 39), none, .mv (.t 7)⟩,
 ⟨(some 40), none, .bin .sub (.t 39) (.k (.int .i64 1))⟩,
 ⟨(some 41), none, .ixa 1 (.t 38) (.t 40)⟩,
 ⟨(some 42), none, .ld none (.t 41)⟩,
 ⟨(some 43), none, .mv (.t 0)⟩,
 ⟨(some 44), none, .mv (.t 7)⟩,
 ⟨(some 45), none, .ixa 1 (.t 43) (.t 44)⟩,
 ⟨(some 46), none, .ld none (.t 45)⟩,
 ⟨(some 47), none, .ixa 1 (.t 33) (.t 34)⟩,
 ⟨none, none, .st 1 (.t 47) (.t 42)⟩,
 ⟨(some 48), none, .ixa 1 (.t 35) (.t 37)⟩,
 ⟨none, none, .st 1 (.t 48) (.t 46)⟩]
def rSlicesInsertionSortOrderedIntX5 : List O := [
 ⟨(some 31), none, .mv (.t 7)⟩,
 ⟨(some 32), none, .bin .sub (.t 31) (.k (.int .i64 1))⟩,
 ⟨(some 7), none, .mv (.t 32)⟩]
def lSlicesInsertionSortOrderedIntX0 : C := (.seq (.seq (.reg rSlicesInsertionSortOrderedIntX3 true [(7, 12)] [0, 1, 2, 6, 7, 30]) (.cond (.t 30) .skip (.exit 2))) (.seq (.blk 3 (.reg rSlicesInsertionSortOrderedIntX4 true [(9, 13)] [0, 1, 2, 6, 7])) (.reg rSlicesInsertionSortOrderedIntX5 false [] [0, 1, 2, 6, 7])))
def rSlicesInsertionSortOrderedIntX6 : List O := [
 ⟨(some 13), none, .mv (.t 6)⟩,
 ⟨(some 14), none, .bin .add (.t 13) (.k (.int .i64 1))⟩,
 ⟨(some 6), none, .mv (.t 14)⟩]
def lSlicesInsertionSortOrderedIntX1 : C := (.seq (.seq (.reg rSlicesInsertionSortOrderedIntX1 false [] [0, 1, 2, 6, 12]) (.cond (.t 12) .skip (.exit 0))) (.seq (.blk 1 (.seq (.reg rSlicesInsertionSortOrderedIntX2 false [] [0, 1, 2, 6, 7]) (.blk 2 (.loop lSlicesInsertionSortOrderedIntX0)))) (.reg rSlicesInsertionSortOrderedIntX6 false [] [0, 1, 2, 6])))
def cSlicesInsertionSortOrderedInt : C := (.seq (.reg rSlicesInsertionSortOrderedIntX0 false [] [0, 1, 2, 6]) (.blk 0 (.loop lSlicesInsertionSortOrderedIntX1)))
def qSlicesInsertionSortOrderedInt : AFn := ⟨49, 3, [], cSlicesInsertionSortOrderedInt⟩
/- cmp.Less[int] -/
def rCmpLessIntX0 : List O := [
 ⟨(some 4), none, .mv (.k (.bool false))⟩]
def rCmpLessIntX1 : List O := [
 ⟨(some 5), none, .mv (.t 0)⟩,
 ⟨(some 6), none, .call nQG [(.t 5)]⟩,
 ⟨(some 7), none, .mv (.t 6)⟩,
 ⟨(some 8), (some (7, true)), .mv (.t 1)⟩,
 ⟨(some 9), (some (7, true)), .call nQG [(.t 8)]⟩,
 ⟨(some 10), (some (7, true)), .un .not (.t 9)⟩,
 ⟨(some 11), none, .pick (.t 7) (.t 10) (.k (.bool false))⟩,
 ⟨(some 12), none, .mv (.t 11)⟩,
 ⟨(some 13), (some (12, false)), .mv (.t 0)⟩,
 ⟨(some 14), (some (12, false)), .mv (.t 1)⟩,
 ⟨(some 15), (some (12, false)), .bin .lss (.t 13) (.t 14)⟩,
 ⟨(some 16), none, .pick (.t 12) (.k (.bool true)) (.t 15)⟩,
 ⟨(some 4), none, .mv (.t 16)⟩]
def cCmpLessInt : C := (.seq (.reg rCmpLessIntX0 false [] [0, 1]) (.seq (.reg rCmpLessIntX1 false [] [4]) .ret))
def qCmpLessInt : AFn := ⟨17, 2, [.t 4], cCmpLessInt⟩
/- math/bits.Len32 -/
def rMathBitsLen32X0 : List O := [
 ⟨(some 2), none, .mv (.k (.int .i64 0))⟩]
def rMathBitsLen32X1 : List O := [
 ⟨(some 3), none, .mv (.t 0)⟩,
 ⟨(some 4), none, .bin .geq (.t 3) (.k (.int .u32 65536))⟩]
def rMathBitsLen32X2 : List O := [
 ⟨(some 5), none, .mv (.t 0)⟩,
 ⟨(some 6), none, .bin .shr (.t 5) (.k (.int .u64 16))⟩,
 ⟨(some 0), none, .mv (.t 6)⟩]
def rMathBitsLen32X3 : List O := [
 ⟨(some 2), none, .mv (.k (.int .i64 16))⟩]
def rMathBitsLen32X4 : List O := [
 ⟨(some 7), none, .mv (.t 0)⟩,
 ⟨(some 8), none, .bin .geq (.t 7) (.k (.int .u32 256))⟩]
def rMathBitsLen32X5 : List O := [
 ⟨(some 9), none, .mv (.t 0)⟩,
 ⟨(some 10), none, .bin .shr (.t 9) (.k (.int .u64 8))⟩,
 ⟨(some 0), none, .mv (.t 10)⟩]
def rMathBitsLen32X6 : List O := [
 ⟨(some 11), none, .mv (.t 2)⟩,
 ⟨(some 12), none, .bin .add (.t 11) (.k (.int .i64 8))⟩,
 ⟨(some 2), none, .mv (.t 12)⟩]
def rMathBitsLen32X7 : List O := [
 ⟨(some 13), none, .mv (.t 2)⟩,
 ⟨(some 14), none, .mv (.t 0)⟩,
 ⟨(some 15), none, .cvt .u8 (.t 14)⟩,
 ⟨(some 16), none, .ixs [0, 1, 2, 2, 3, 3, 3, 3, 4, 4, 4, 4, 4, 4, 4, 4, 5, 5, 5, 5, 5, 5, 5, 5, 5, 5, 5, 5, 5, 5, 5, 5, 6, 6, 6, 6, 6, 6, 6, 6, 6, 6, 6, 6, 6, 6, 6, 6, 6, 6, 6, 6, 6, 6, 6, 6, 6, 6, 6, 6, 6, 6, 6, 6, 7, 7, 7, 7, 7, 7, 7, 7, 7, 7, 7, 7, 7, 7, 7, 7, 7, 7, 7, 7, 7, 7, 7, 7, 7, 7, 7, 7, 7, 7, 7, 7, 7, 7, 7, 7, 7, 7, 7, 7, 7, 7, 7, 7, 7, 7, 7, 7, 7, 7, 7, 7, 7, 7, 7, 7, 7, 7, 7, 7, 7, 7, 7, 7, 8, 8, 8, 8, 8, 8, 8, 8, 8, 8, 8, 8, 8, 8, 8, 8, 8, 8, 8, 8, 8, 8, 8, 8, 8, 8, 8, 8, 8, 8, 8, 8, 8, 8, 8, 8, 8, 8, 8, 8, 8, 8, 8, 8, 8, 8, 8, 8, 8, 8, 8, 8, 8, 8, 8, 8, 8, 8, 8, 8, 8, 8, 8, 8, 8, 8, 8, 8, 8, 8, 8, 8, 8, 8, 8, 8, 8, 8, 8, 8, 8, 8, 8, 8, 8, 8, 8, 8, 8, 8, 8, 8, 8, 8, 8, 8, 8, 8, 8, 8, 8, 8, 8, 8, 8, 8, 8, 8, 8, 8, 8, 8, 8, 8, 8, 8, 8, 8, 8, 8, 8, 8, 8, 8, 8, 8, 8, 8] (.t 15)⟩,
 ⟨(some 17), none, .cvt .i64 (.t 16)⟩,
 ⟨(some 18), none, .bin .add (.t 13) (.t 17)⟩,
 ⟨(some 2), none, .mv (.t 18)⟩]
def cMathBitsLen32 : C := (.seq (.reg rMathBitsLen32X0 false [] [0, 2]) (.seq (.seq (.reg rMathBitsLen32X1 false [] [0, 2, 4]) (.cond (.t 4) (.seq (.reg rMathBitsLen32X2 false [] [0]) (.reg rMathBitsLen32X3 false [] [0, 2])) .skip)) (.seq (.seq (.reg rMathBitsLen32X4 false [] [0, 2, 8]) (.cond (.t 8) (.seq (.reg rMathBitsLen32X5 false [] [0, 2]) (.reg rMathBitsLen32X6 false [] [0, 2])) .skip)) (.seq (.reg rMathBitsLen32X7 false [] [2]) .ret))))
def qMathBitsLen32 : AFn := ⟨19, 1, [.t 2], cMathBitsLen32⟩
/- math/bits.Len64 -/
def rMathBitsLen64X0 : List O := [
 ⟨(some 2), none, .mv (.k (.int .i64 0))⟩]
def rMathBitsLen64X1 : List O := [
 ⟨(some 3), none, .mv (.t 0)⟩,
 ⟨(some 4), none, .bin .geq (.t 3) (.k (.int .u64 4294967296))⟩]
def rMathBitsLen64X2 : List O := [
 ⟨(some 5), none, .mv (.t 0)⟩,
 ⟨(some 6), none, .bin .shr (.t 5) (.k (.int .u64 32))⟩,
 ⟨(some 0), none, .mv (.t 6)⟩]
def rMathBitsLen64X3 : List O := [
 ⟨(some 2), none, .mv (.k (.int .i64 32))⟩]
def rMathBitsLen64X4 : List O := [
 ⟨(some 7), none, .mv (.t 0)⟩,
 ⟨(some 8), none, .bin .geq (.t 7) (.k (.int .u64 65536))⟩]
def rMathBitsLen64X5 : List O := [
 ⟨(some 9), none, .mv (.t 0)⟩,
 ⟨(some 10), none, .bin .shr (.t 9) (.k (.int .u64 16))⟩,
 ⟨(some 0), none, .mv (.t 10)⟩]
def rMathBitsLen64X6 : List O := [
 ⟨(some 11), none, .mv (.t 2)⟩,
 ⟨(some 12), none, .bin .add (.t 11) (.k (.int .i64 16))⟩,
 ⟨(some 2), none, .mv (.t 12)⟩]
def rMathBitsLen64X7 : List O := [
 ⟨(some 13), none, .mv (.t 0)⟩,
 ⟨(some 14), none, .bin .geq (.t 13) (.k (.int .u64 256))⟩]
def rMathBitsLen64X8 : List O := [
 ⟨(some 15), none, .mv (.t 0)⟩,
 ⟨(some 16), none, .bin .shr (.t 15) (.k (.int .u64 8))⟩,
 ⟨(some 0), none, .mv (.t 16)⟩]
def rMathBitsLen64X9 : List O := [
 ⟨(some 17), none, .mv (.t 2)⟩,
 ⟨(some 18), none, .bin .add (.t 17) (.k (.int .i64 8))⟩,
 ⟨(some 2), none, .mv (.t 18)⟩]
def rMathBitsLen64X10 : List O := [
 ⟨(some 19), none, .mv (.t 2)⟩,
 ⟨(some 20), none, .mv (.t 0)⟩,
 ⟨(some 21), none, .cvt .u8 (.t 20)⟩,
 ⟨(some 22), none, .ixs [0, 1, 2, 2, 3, 3, 3, 3, 4, 4, 4, 4, 4, 4, 4, 4, 5, 5, 5, 5, 5, 5, 5, 5, 5, 5, 5, 5, 5, 5, 5, 5, 6, 6, 6, 6, 6, 6, 6, 6, 6, 6, 6, 6, 6, 6, 6, 6, 6, 6, 6, 6, 6, 6, 6, 6, 6, 6, 6, 6, 6, 6, 6, 6, 7, 7, 7, 7, 7, 7, 7, 7, 7, 7, 7, 7, 7, 7, 7, 7, 7, 7, 7, 7, 7, 7, 7, 7, 7, 7, 7, 7, 7, 7, 7, 7, 7, 7, 7, 7, 7, 7, 7, 7, 7, 7, 7, 7, 7, 7, 7, 7, 7, 7, 7, 7, 7, 7, 7, 7, 7, 7, 7, 7, 7, 7, 7, 7, 8, 8, 8, 8, 8, 8, 8, 8, 8, 8, 8, 8, 8, 8, 8, 8, 8, 8, 8, 8, 8, 8, 8, 8, 8, 8, 8, 8, 8, 8, 8, 8, 8, 8, 8, 8, 8, 8, 8, 8, 8, 8, 8, 8, 8, 8, 8, 8, 8, 8, 8, 8, 8, 8, 8, 8, 8, 8, 8, 8, 8, 8, 8, 8, 8, 8, 8, 8, 8, 8, 8, 8, 8, 8, 8, 8, 8, 8, 8, 8, 8, 8, 8, 8, 8, 8, 8, 8, 8, 8, 8, 8, 8, 8, 8, 8, 8, 8, 8, 8, 8, 8, 8, 8, 8, 8, 8, 8, 8, 8, 8, 8, 8, 8, 8, 8, 8, 8, 8, 8, 8, 8, 8, 8, 8, 8, 8, 8] (.t 21)⟩,
 ⟨(some 23), none, .cvt .i64 (.t 22)⟩,
 ⟨(some 24), none, .bin .add (.t 19) (.t 23)⟩,
 ⟨(some 2), none, .mv (.t 24)⟩]
def cMathBitsLen64 : C := (.seq (.reg rMathBitsLen64X0 false [] [0, 2]) (.seq (.seq (.reg rMathBitsLen64X1 false [] [0, 2, 4]) (.cond (.t 4) (.seq (.reg rMathBitsLen64X2 false [] [0]) (.reg rMathBitsLen64X3 false [] [0, 2])) .skip)) (.seq (.seq (.reg rMathBitsLen64X4 false [] [0, 2, 8]) (.cond (.t 8) (.seq (.reg rMathBitsLen64X5 false [] [0, 2]) (.reg rMathBitsLen64X6 false [] [0, 2])) .skip)) (.seq (.seq (.reg rMathBitsLen64X7 false [] [0, 2, 14]) (.cond (.t 14) (.seq (.reg rMathBitsLen64X8 false [] [0, 2]) (.reg rMathBitsLen64X9 false [] [0, 2])) .skip)) (.seq (.reg rMathBitsLen64X10 false [] [2]) .ret)))))
def qMathBitsLen64 : AFn := ⟨25, 1, [.t 2], cMathBitsLen64⟩
def look : List (Nat × Md × AFn) -> Nat -> Option (Md × AFn)
 | [], _ => none
 | (j, m, q) :: r, i => if i = j then some (m, q) else look r i
def fns : List (Nat × Md × AFn) := [
 (nMaxcliqueColour, .P, qMaxcliqueColour),
 (nQh, .P, qQh),
 (nQi, .P, qQi),
 (nQo, .P, qQo),
 (nQq, .P, qQq),
 (nSlicesEqualIntInt, .K, qSlicesEqualIntInt),
 (nNodesetOf, .P, qNodesetOf),
 (nNodesetRange, .P, qNodesetRange),
 (nSlicesRepeatIntInt, .K, qSlicesRepeatIntInt),
 (nGraphNeighbours, .P, qGraphNeighbours),
 (nSlicesIndexBoolBool, .K, qSlicesIndexBoolBool),
 (nCoreOrder, .K, qCoreOrder),
 (nSlicesReverseIntInt, .K, qSlicesReverseIntInt),
 (nSlicesContainsFuncIntInt, .K, qSlicesContainsFuncIntInt),
 (nMaxcliqueProper1, .P, qMaxcliqueProper1),
 (nSlicesContainsFuncApiEdgeApiEdge, .K, qSlicesContainsFuncApiEdgeApiEdge),
 (nMaxcliqueProper2, .P, qMaxcliqueProper2),
 (nQx, .P, qQx),
 (nCoreDegeneracy, .P, qCoreDegeneracy),
 (nQz, .P, qQz),
 (nNodesetUnion, .P, qNodesetUnion),
 (nMathBitsMul, .P, qMathBitsMul),
 (nMasksList, .P, qMasksList),
 (nGraphRow, .P, qGraphRow),
 (nCorePeel, .K, qCorePeel),
 (nSlicesIndexFuncIntInt, .K, qSlicesIndexFuncIntInt),
 (nSlicesIndexFuncApiEdgeApiEdge, .K, qSlicesIndexFuncApiEdgeApiEdge),
 (nQC, .P, qQC),
 (nNodesetValid, .P, qNodesetValid),
 (nCoreNumbers, .P, qCoreNumbers),
 (nQE, .P, qQE),
 (nQF, .P, qQF),
 (nNodesetMergedInt, .P, qNodesetMergedInt),
 (nNodesetUnion1, .P, qNodesetUnion1),
 (nMathBitsMul32, .P, qMathBitsMul32),
 (nMathBitsMul64, .P, qMathBitsMul64),
 (nMasksRows, .P, qMasksRows),
 (nMasksCount, .P, qMasksCount),
 (nMasksBit, .P, qMasksBit),
 (nMasksAll, .P, qMasksAll),
 (nMasksLeast, .P, qMasksLeast),
 (nQG, .P, qQG),
 (nSlicesCloneIntInt, .K, qSlicesCloneIntInt),
 (nSlicesSortIntInt, .K, qSlicesSortIntInt),
 (nSlicesCompactIntInt, .K, qSlicesCompactIntInt),
 (nSlicesPdqsortOrderedInt, .K, qSlicesPdqsortOrderedInt),
 (nMathBitsLen, .P, qMathBitsLen),
 (nSlicesInsertionSortOrderedInt, .K, qSlicesInsertionSortOrderedInt),
 (nCmpLessInt, .P, qCmpLessInt),
 (nMathBitsLen32, .P, qMathBitsLen32),
 (nMathBitsLen64, .P, qMathBitsLen64)]
def cfg : Cfg := ⟨look fns, fun _ => [], fun _ => none⟩
theorem kMaxcliqueColour : chkF Go.Proofs.Tryd.prog Go.Proofs.Tryd.f14 qMaxcliqueColour = true := by kernel_rfl
theorem kMaxcliqueColours : chkF Go.Proofs.Tryd.prog Go.Proofs.Tryd.f17 qQh = true := by kernel_rfl
theorem kMaxcliqueProper : chkF Go.Proofs.Tryd.prog Go.Proofs.Tryd.f19 qQi = true := by kernel_rfl
theorem kMaxcliqueBound : chkF Go.Proofs.Tryd.prog Go.Proofs.Tryd.f29 qQo = true := by kernel_rfl
theorem kGraphCheck : chkF Go.Proofs.Tryd.prog Go.Proofs.Tryd.f31 qQq = true := by kernel_rfl
theorem kSlicesEqualIntInt : chkF Go.Proofs.Tryd.prog Go.Proofs.Tryd.f32 qSlicesEqualIntInt = true := by kernel_rfl
theorem kNodesetOf : chkF Go.Proofs.Tryd.prog Go.Proofs.Tryd.f33 qNodesetOf = true := by kernel_rfl
theorem kNodesetRange : chkF Go.Proofs.Tryd.prog Go.Proofs.Tryd.f34 qNodesetRange = true := by kernel_rfl
theorem kSlicesRepeatIntInt : chkF Go.Proofs.Tryd.prog Go.Proofs.Tryd.f35 qSlicesRepeatIntInt = true := by kernel_rfl
theorem kGraphNeighbours : chkF Go.Proofs.Tryd.prog Go.Proofs.Tryd.f36 qGraphNeighbours = true := by kernel_rfl
theorem kSlicesIndexBoolBool : chkF Go.Proofs.Tryd.prog Go.Proofs.Tryd.f37 qSlicesIndexBoolBool = true := by kernel_rfl
theorem kCoreOrder : chkF Go.Proofs.Tryd.prog Go.Proofs.Tryd.f39 qCoreOrder = true := by kernel_rfl
theorem kSlicesReverseIntInt : chkF Go.Proofs.Tryd.prog Go.Proofs.Tryd.f40 qSlicesReverseIntInt = true := by kernel_rfl
theorem kSlicesContainsFuncIntInt : chkF Go.Proofs.Tryd.prog Go.Proofs.Tryd.f45 qSlicesContainsFuncIntInt = true := by kernel_rfl
theorem kMaxcliqueProper1 : chkF Go.Proofs.Tryd.prog Go.Proofs.Tryd.f46 qMaxcliqueProper1 = true := by kernel_rfl
theorem kSlicesContainsFuncApiEdgeApiEdge : chkF Go.Proofs.Tryd.prog Go.Proofs.Tryd.f47 qSlicesContainsFuncApiEdgeApiEdge = true := by kernel_rfl
theorem kMaxcliqueProper2 : chkF Go.Proofs.Tryd.prog Go.Proofs.Tryd.f48 qMaxcliqueProper2 = true := by kernel_rfl
theorem kMathBitsTrailingZeros64 : chkF Go.Proofs.Tryd.prog Go.Proofs.Tryd.f51 qQx = true := by kernel_rfl
theorem kCoreDegeneracy : chkF Go.Proofs.Tryd.prog Go.Proofs.Tryd.f56 qCoreDegeneracy = true := by kernel_rfl
theorem kGraphOrder : chkF Go.Proofs.Tryd.prog Go.Proofs.Tryd.f57 qQz = true := by kernel_rfl
theorem kNodesetUnion : chkF Go.Proofs.Tryd.prog Go.Proofs.Tryd.f58 qNodesetUnion = true := by kernel_rfl
theorem kMathBitsMul : chkF Go.Proofs.Tryd.prog Go.Proofs.Tryd.f59 qMathBitsMul = true := by kernel_rfl
theorem kMasksList : chkF Go.Proofs.Tryd.prog Go.Proofs.Tryd.f60 qMasksList = true := by kernel_rfl
theorem kGraphRow : chkF Go.Proofs.Tryd.prog Go.Proofs.Tryd.f61 qGraphRow = true := by kernel_rfl
theorem kCorePeel : chkF Go.Proofs.Tryd.prog Go.Proofs.Tryd.f62 qCorePeel = true := by kernel_rfl
theorem kSlicesIndexFuncIntInt : chkF Go.Proofs.Tryd.prog Go.Proofs.Tryd.f64 qSlicesIndexFuncIntInt = true := by kernel_rfl
theorem kSlicesIndexFuncApiEdgeApiEdge : chkF Go.Proofs.Tryd.prog Go.Proofs.Tryd.f65 qSlicesIndexFuncApiEdgeApiEdge = true := by kernel_rfl
theorem kMathBitsOnesCount64 : chkF Go.Proofs.Tryd.prog Go.Proofs.Tryd.f67 qQC = true := by kernel_rfl
theorem kNodesetValid : chkF Go.Proofs.Tryd.prog Go.Proofs.Tryd.f70 qNodesetValid = true := by kernel_rfl
theorem kCoreNumbers : chkF Go.Proofs.Tryd.prog Go.Proofs.Tryd.f73 qCoreNumbers = true := by kernel_rfl
theorem kCmpOrInt : chkF Go.Proofs.Tryd.prog Go.Proofs.Tryd.f74 qQE = true := by kernel_rfl
theorem kCmpCompareInt : chkF Go.Proofs.Tryd.prog Go.Proofs.Tryd.f75 qQF = true := by kernel_rfl
theorem kNodesetMergedInt : chkF Go.Proofs.Tryd.prog Go.Proofs.Tryd.f76 qNodesetMergedInt = true := by kernel_rfl
theorem kNodesetUnion1 : chkF Go.Proofs.Tryd.prog Go.Proofs.Tryd.f77 qNodesetUnion1 = true := by kernel_rfl
theorem kMathBitsMul32 : chkF Go.Proofs.Tryd.prog Go.Proofs.Tryd.f78 qMathBitsMul32 = true := by kernel_rfl
theorem kMathBitsMul64 : chkF Go.Proofs.Tryd.prog Go.Proofs.Tryd.f79 qMathBitsMul64 = true := by kernel_rfl
theorem kMasksRows : chkF Go.Proofs.Tryd.prog Go.Proofs.Tryd.f80 qMasksRows = true := by kernel_rfl
theorem kMasksCount : chkF Go.Proofs.Tryd.prog Go.Proofs.Tryd.f81 qMasksCount = true := by kernel_rfl
theorem kMasksBit : chkF Go.Proofs.Tryd.prog Go.Proofs.Tryd.f82 qMasksBit = true := by kernel_rfl
theorem kMasksAll : chkF Go.Proofs.Tryd.prog Go.Proofs.Tryd.f83 qMasksAll = true := by kernel_rfl
theorem kMasksLeast : chkF Go.Proofs.Tryd.prog Go.Proofs.Tryd.f84 qMasksLeast = true := by kernel_rfl
theorem kCmpIsNaNInt : chkF Go.Proofs.Tryd.prog Go.Proofs.Tryd.f87 qQG = true := by kernel_rfl
theorem kSlicesCloneIntInt : chkF Go.Proofs.Tryd.prog Go.Proofs.Tryd.f88 qSlicesCloneIntInt = true := by kernel_rfl
theorem kSlicesSortIntInt : chkF Go.Proofs.Tryd.prog Go.Proofs.Tryd.f89 qSlicesSortIntInt = true := by kernel_rfl
theorem kSlicesCompactIntInt : chkF Go.Proofs.Tryd.prog Go.Proofs.Tryd.f90 qSlicesCompactIntInt = true := by kernel_rfl
theorem kSlicesPdqsortOrderedInt : chkF Go.Proofs.Tryd.prog Go.Proofs.Tryd.f91 qSlicesPdqsortOrderedInt = true := by kernel_rfl
theorem kMathBitsLen : chkF Go.Proofs.Tryd.prog Go.Proofs.Tryd.f92 qMathBitsLen = true := by kernel_rfl
theorem kSlicesInsertionSortOrderedInt : chkF Go.Proofs.Tryd.prog Go.Proofs.Tryd.f93 qSlicesInsertionSortOrderedInt = true := by kernel_rfl
theorem kCmpLessInt : chkF Go.Proofs.Tryd.prog Go.Proofs.Tryd.f99 qCmpLessInt = true := by kernel_rfl
theorem kMathBitsLen32 : chkF Go.Proofs.Tryd.prog Go.Proofs.Tryd.f102 qMathBitsLen32 = true := by kernel_rfl
theorem kMathBitsLen64 : chkF Go.Proofs.Tryd.prog Go.Proofs.Tryd.f103 qMathBitsLen64 = true := by kernel_rfl
theorem look_mem : ∀ {l : List (Nat × Md × AFn)} {f : Nat} {m : Md} {q : AFn}, look l f = some (m, q) -> (f, m, q) ∈ l
 | [], f, m, q, h => by simp [look] at h
 | (j, m', q') :: r, f, m, q, h => by
   unfold look at h
   split at h
   ·rename_i he; subst he; simp at h; obtain ⟨rfl, rfl⟩ := h; simp
   ·exact List.mem_cons_of_mem _ (look_mem h)
def Good (p : Nat × Md × AFn) : Prop := ∃ fn, Go.Proofs.Tryd.prog.funcs[p.1]? = some fn /\ chkF Go.Proofs.Tryd.prog fn p.2.2 = true
def All (G : Nat × Md × AFn -> Prop) : List (Nat × Md × AFn) -> Prop
 | [] => True
 | p :: r => G p /\ All G r
theorem All.get {G : Nat × Md × AFn -> Prop} : ∀ {l : List (Nat × Md × AFn)}, All G l -> ∀ p ∈ l, G p
 | [], _, p, h => by simp at h
 | q :: r, h, p, hp => by
   rcases List.mem_cons.1 hp with e | e
   ·subst e; exact h.1
   ·exact All.get h.2 p e
theorem allGood : All Good fns := ⟨⟨_, Go.Proofs.Tryd.func14, kMaxcliqueColour⟩, ⟨_, Go.Proofs.Tryd.func17, kMaxcliqueColours⟩, ⟨_, Go.Proofs.Tryd.func19, kMaxcliqueProper⟩, ⟨_, Go.Proofs.Tryd.func29, kMaxcliqueBound⟩, ⟨_, Go.Proofs.Tryd.func31, kGraphCheck⟩, ⟨_, Go.Proofs.Tryd.func32, kSlicesEqualIntInt⟩, ⟨_, Go.Proofs.Tryd.func33, kNodesetOf⟩, ⟨_, Go.Proofs.Tryd.func34, kNodesetRange⟩, ⟨_, Go.Proofs.Tryd.func35, kSlicesRepeatIntInt⟩, ⟨_, Go.Proofs.Tryd.func36, kGraphNeighbours⟩, ⟨_, Go.Proofs.Tryd.func37, kSlicesIndexBoolBool⟩, ⟨_, Go.Proofs.Tryd.func39, kCoreOrder⟩, ⟨_, Go.Proofs.Tryd.func40, kSlicesReverseIntInt⟩, ⟨_, Go.Proofs.Tryd.func45, kSlicesContainsFuncIntInt⟩, ⟨_, Go.Proofs.Tryd.func46, kMaxcliqueProper1⟩, ⟨_, Go.Proofs.Tryd.func47, kSlicesContainsFuncApiEdgeApiEdge⟩, ⟨_, Go.Proofs.Tryd.func48, kMaxcliqueProper2⟩, ⟨_, Go.Proofs.Tryd.func51, kMathBitsTrailingZeros64⟩, ⟨_, Go.Proofs.Tryd.func56, kCoreDegeneracy⟩, ⟨_, Go.Proofs.Tryd.func57, kGraphOrder⟩, ⟨_, Go.Proofs.Tryd.func58, kNodesetUnion⟩, ⟨_, Go.Proofs.Tryd.func59, kMathBitsMul⟩, ⟨_, Go.Proofs.Tryd.func60, kMasksList⟩, ⟨_, Go.Proofs.Tryd.func61, kGraphRow⟩, ⟨_, Go.Proofs.Tryd.func62, kCorePeel⟩, ⟨_, Go.Proofs.Tryd.func64, kSlicesIndexFuncIntInt⟩, ⟨_, Go.Proofs.Tryd.func65, kSlicesIndexFuncApiEdgeApiEdge⟩, ⟨_, Go.Proofs.Tryd.func67, kMathBitsOnesCount64⟩, ⟨_, Go.Proofs.Tryd.func70, kNodesetValid⟩, ⟨_, Go.Proofs.Tryd.func73, kCoreNumbers⟩, ⟨_, Go.Proofs.Tryd.func74, kCmpOrInt⟩, ⟨_, Go.Proofs.Tryd.func75, kCmpCompareInt⟩, ⟨_, Go.Proofs.Tryd.func76, kNodesetMergedInt⟩, ⟨_, Go.Proofs.Tryd.func77, kNodesetUnion1⟩, ⟨_, Go.Proofs.Tryd.func78, kMathBitsMul32⟩, ⟨_, Go.Proofs.Tryd.func79, kMathBitsMul64⟩, ⟨_, Go.Proofs.Tryd.func80, kMasksRows⟩, ⟨_, Go.Proofs.Tryd.func81, kMasksCount⟩, ⟨_, Go.Proofs.Tryd.func82, kMasksBit⟩, ⟨_, Go.Proofs.Tryd.func83, kMasksAll⟩, ⟨_, Go.Proofs.Tryd.func84, kMasksLeast⟩, ⟨_, Go.Proofs.Tryd.func87, kCmpIsNaNInt⟩, ⟨_, Go.Proofs.Tryd.func88, kSlicesCloneIntInt⟩, ⟨_, Go.Proofs.Tryd.func89, kSlicesSortIntInt⟩, ⟨_, Go.Proofs.Tryd.func90, kSlicesCompactIntInt⟩, ⟨_, Go.Proofs.Tryd.func91, kSlicesPdqsortOrderedInt⟩, ⟨_, Go.Proofs.Tryd.func92, kMathBitsLen⟩, ⟨_, Go.Proofs.Tryd.func93, kSlicesInsertionSortOrderedInt⟩, ⟨_, Go.Proofs.Tryd.func99, kCmpLessInt⟩, ⟨_, Go.Proofs.Tryd.func102, kMathBitsLen32⟩, ⟨_, Go.Proofs.Tryd.func103, kMathBitsLen64⟩, trivial⟩
theorem cfgOK : CfgOK Go.Proofs.Tryd.prog cfg := ⟨by kernel_rfl, fun f m q h => allGood.get _ (look_mem h)⟩
theorem gQh : cfg.fn nQh = some (.P, qQh) := rfl
theorem gQi : cfg.fn nQi = some (.P, qQi) := rfl
theorem gQo : cfg.fn nQo = some (.P, qQo) := rfl
theorem gQq : cfg.fn nQq = some (.P, qQq) := rfl
theorem gQx : cfg.fn nQx = some (.P, qQx) := rfl
theorem gQz : cfg.fn nQz = some (.P, qQz) := rfl
theorem gQC : cfg.fn nQC = some (.P, qQC) := rfl
theorem gQE : cfg.fn nQE = some (.P, qQE) := rfl
theorem gQF : cfg.fn nQF = some (.P, qQF) := rfl
theorem gQG : cfg.fn nQG = some (.P, qQG) := rfl
end Go.AmP
