/- The compact code of the functions, printed by program off the translation. -/
import Derived.Test.YtcjfhegnnjnmgaaDoorChecked
import Derived.Test.YtcjfhegnnjnmgaaDoorBmA
import Derived.KernelRfl
set_option maxRecDepth 100000
namespace Go.BmP
open Go.Am Go.Bm
def nLaw24CliquesEdges : Nat := 3
def nMakeFew : Nat := 5
def nLaw24Awake : Nat := 6
def nMakeNew : Nat := 7
def nMakeGraph : Nat := 8
def nMakeDeckNext : Nat := 9
def nGraphAdd : Nat := 10
def nCliquesAll : Nat := 11
def nRef02Cmp : Nat := 12
def nRef02Has : Nat := 13
def nRef02Within : Nat := 14
def nCliquesIs : Nat := 21
def nCliquesExtend : Nat := 22
def nRef03Of : Nat := 23
def nCliquesCheck : Nat := 24
def nMakeMod : Nat := 25
def nGraphChange : Nat := 26
def nGraphPlace : Nat := 27
def nSlicesInsertApiEdgeApiEdge : Nat := 28
def nSlicesCloneApiEdgeApiEdge : Nat := 29
def nGraphEdge : Nat := 30
def nGraphCheck : Nat := 31
def nCliquesEach : Nat := 32
def nCliquesAll1 : Nat := 33
def nCliquesCommon : Nat := 34
def nCliquesMasks : Nat := 35
def nGraphEnds : Nat := 36
def nGraphOrder : Nat := 38
def nNodesetValid : Nat := 42
def nCliquesClique : Nat := 43
def nSlicesCloneIntInt : Nat := 44
def nMathBitsTrailingZeros64 : Nat := 45
def nSlicesSortIntInt : Nat := 46
def nRef03Ends : Nat := 47
def nRef03With : Nat := 48
def nRef03Edge : Nat := 49
def nCliquesCheck1 : Nat := 50
def nSlicesEqualIntInt : Nat := 51
def nSlicesBinarySearchFuncApiEdgeApiEdgeApiEdge : Nat := 52
def nCliquesEach1 : Nat := 55
def nCliquesAllN56 : Nat := 56
def nCmpOrInt : Nat := 59
def nCmpCompareInt : Nat := 60
def nRef03Before : Nat := 62
def nCmpIsNaNInt : Nat := 74
/- cohesion/cohesionlaw24.CliquesEdges -/
def rLaw24CliquesEdgesX0 : List O := [
  ⟨(some 2), none, .mv (.k (.bool false))⟩]
def rLaw24CliquesEdgesX1 : List O := [
  ⟨(some 23), none, .mv (.t 0)⟩,
  ⟨(some 24), none, .call nMakeFew [(.t 23)]⟩,
  ⟨(some 25), none, .un .not (.t 24)⟩]
def rLaw24CliquesEdgesX2 : List O := [
  ⟨(some 26), none, .call nLaw24Awake []⟩,
  ⟨(some 2), none, .mv (.t 26)⟩]
def rLaw24CliquesEdgesX3 : List O := [
  ⟨(some 27), none, .mv (.t 0)⟩,
  ⟨(some 28), none, .call nMakeNew [(.t 27)]⟩,
  ⟨(some 3), none, .mv (.t 28)⟩]
def rLaw24CliquesEdgesX4 : List O := [
  ⟨(some 29), none, .mv (.t 3)⟩,
  ⟨(some 30), none, .call nMakeGraph [(.t 29), (.k (.int .i64 7))]⟩,
  ⟨(some 4), none, .new [(.int .i64 0), (.own 2 [])]⟩,
  ⟨none, none, .st 2 (.t 4) (.t 30)⟩]
def rLaw24CliquesEdgesX5 : List O := [
  ⟨(some 31), none, .mv (.t 3)⟩,
  ⟨(some 32), none, .call nMakeDeckNext [(.t 31), (.k (.int .i64 7))]⟩,
  ⟨(some 33), none, .mv (.t 3)⟩,
  ⟨(some 34), none, .call nMakeDeckNext [(.t 33), (.k (.int .i64 7))]⟩,
  ⟨(some 5), none, .mv (.t 32)⟩,
  ⟨(some 6), none, .mv (.t 34)⟩]
def rLaw24CliquesEdgesX6 : List O := [
  ⟨(some 36), none, .ld (some 2) (.t 4)⟩,
  ⟨(some 37), none, .mv (.t 5)⟩,
  ⟨(some 38), none, .mv (.t 6)⟩,
  ⟨(some 39), none, .call nGraphAdd [(.t 36), (.t 37), (.t 38)]⟩,
  ⟨(some 35), none, .mv (.t 39)⟩,
  ⟨(some 40), none, .ext 0 (.t 35)⟩,
  ⟨(some 41), none, .ext 1 (.t 35)⟩,
  ⟨(some 7), none, .new [(.int .i64 0), (.own 2 [])]⟩,
  ⟨none, none, .st 2 (.t 7) (.t 40)⟩,
  ⟨(some 8), none, .mv (.t 41)⟩]
def rLaw24CliquesEdgesX7 : List O := [
  ⟨(some 42), none, .mv (.t 8)⟩,
  ⟨(some 43), none, .bin .neq (.t 42) (.k (.int .i64 0))⟩]
def rLaw24CliquesEdgesX8 : List O := [
  ⟨(some 44), none, .call nLaw24Awake []⟩,
  ⟨(some 2), none, .mv (.t 44)⟩]
def rLaw24CliquesEdgesX9 : List O := [
  ⟨(some 46), none, .ld (some 2) (.t 4)⟩,
  ⟨(some 47), none, .call nCliquesAll [(.t 46), (.k (.int .i64 4096))]⟩,
  ⟨(some 45), none, .mv (.t 47)⟩,
  ⟨(some 48), none, .ext 0 (.t 45)⟩,
  ⟨(some 49), none, .ext 1 (.t 45)⟩,
  ⟨(some 9), none, .mv (.t 48)⟩,
  ⟨(some 10), none, .mv (.t 49)⟩]
def rLaw24CliquesEdgesX10 : List O := [
  ⟨(some 51), none, .ld (some 2) (.t 7)⟩,
  ⟨(some 52), none, .call nCliquesAll [(.t 51), (.k (.int .i64 4096))]⟩,
  ⟨(some 50), none, .mv (.t 52)⟩,
  ⟨(some 53), none, .ext 0 (.t 50)⟩,
  ⟨(some 54), none, .ext 1 (.t 50)⟩,
  ⟨(some 11), none, .mv (.t 53)⟩,
  ⟨(some 12), none, .mv (.t 54)⟩]
def rLaw24CliquesEdgesX11 : List O := [
  ⟨(some 55), none, .mv (.t 11)⟩,
  ⟨(some 56), none, .len (.t 55)⟩,
  ⟨(some 57), none, .mv (.k (.int .i64 0))⟩]
def rLaw24CliquesEdgesX12 : List O := [
  ⟨(some 58), none, .bin .lss (.t 57) (.t 56)⟩]
def rLaw24CliquesEdgesX13 : List O := [
  ⟨(some 59), none, .ixa 1 (.t 55) (.t 57)⟩,
  ⟨(some 60), none, .ld none (.t 59)⟩,
  ⟨(some 14), none, .mv (.t 60)⟩]
def rLaw24CliquesEdgesX14 : List O := [
  ⟨(some 15), none, .mv (.k (.bool false))⟩]
def rLaw24CliquesEdgesX15 : List O := [
  ⟨(some 61), none, .mv (.t 9)⟩,
  ⟨(some 62), none, .len (.t 61)⟩,
  ⟨(some 63), none, .mv (.k (.int .i64 0))⟩]
def rLaw24CliquesEdgesX16 : List O := [
  ⟨(some 64), none, .bin .lss (.t 63) (.t 62)⟩]
def rLaw24CliquesEdgesX17 : List O := [
  ⟨(some 65), none, .ixa 1 (.t 61) (.t 63)⟩,
  ⟨(some 66), none, .ld none (.t 65)⟩,
  ⟨(some 17), none, .mv (.t 66)⟩]
def rLaw24CliquesEdgesX18 : List O := [
  ⟨(some 67), none, .mv (.t 15)⟩,
  ⟨(some 68), none, .mv (.t 67)⟩,
  ⟨(some 69), (some (68, false)), .mv (.t 14)⟩,
  ⟨(some 70), (some (68, false)), .mv (.t 17)⟩,
  ⟨(some 71), (some (68, false)), .call nRef02Cmp [(.t 69), (.t 70)]⟩,
  ⟨(some 72), (some (68, false)), .bin .eql (.t 71) (.k (.int .i64 0))⟩,
  ⟨(some 73), none, .pick (.t 68) (.k (.bool true)) (.t 72)⟩,
  ⟨(some 15), none, .mv (.t 73)⟩]
def rLaw24CliquesEdgesX19 : List O := [
  ⟨(some 74), none, .bin .add (.t 63) (.k (.int .i64 1))⟩,
  ⟨(some 63), none, .mv (.t 74)⟩]
def lLaw24CliquesEdgesX0 : C := (.seq (.reg rLaw24CliquesEdgesX16 false [] [5, 6, 9, 10, 11, 12, 14, 15, 55, 56, 57, 61, 62, 63, 64]) (.seq (.cond (.t 64) .skip (.exit 2)) (.seq (.blk 3 (.seq (.reg rLaw24CliquesEdgesX17 false [] [5, 6, 9, 10, 11, 12, 14, 15, 17, 55, 56, 57, 61, 62, 63]) (.reg rLaw24CliquesEdgesX18 false [] [5, 6, 9, 10, 11, 12, 14, 15, 55, 56, 57, 61, 62, 63]))) (.reg rLaw24CliquesEdgesX19 false [] [5, 6, 9, 10, 11, 12, 14, 15, 55, 56, 57, 61, 62, 63]))))
def rLaw24CliquesEdgesX20 : List O := [
  ⟨(some 75), none, .mv (.t 15)⟩,
  ⟨(some 76), none, .mv (.t 14)⟩,
  ⟨(some 77), none, .mv (.t 5)⟩,
  ⟨(some 78), none, .call nRef02Has [(.t 76), (.t 77)]⟩,
  ⟨(some 79), none, .mv (.t 78)⟩,
  ⟨(some 80), (some (79, true)), .mv (.t 14)⟩,
  ⟨(some 81), (some (79, true)), .mv (.t 6)⟩,
  ⟨(some 82), (some (79, true)), .call nRef02Has [(.t 80), (.t 81)]⟩,
  ⟨(some 83), none, .pick (.t 79) (.t 82) (.k (.bool false))⟩,
  ⟨(some 84), none, .eq false .bool (.t 75) (.t 83)⟩]
def rLaw24CliquesEdgesX21 : List O := [
  ⟨(some 2), none, .mv (.k (.bool false))⟩]
def rLaw24CliquesEdgesX22 : List O := [
  ⟨(some 85), none, .bin .add (.t 57) (.k (.int .i64 1))⟩,
  ⟨(some 57), none, .mv (.t 85)⟩]
def lLaw24CliquesEdgesX1 : C := (.seq (.reg rLaw24CliquesEdgesX12 false [] [5, 6, 9, 10, 11, 12, 55, 56, 57, 58]) (.seq (.cond (.t 58) .skip (.exit 0)) (.seq (.blk 1 (.seq (.reg rLaw24CliquesEdgesX13 false [] [5, 6, 9, 10, 11, 12, 14, 55, 56, 57]) (.seq (.reg rLaw24CliquesEdgesX14 false [] [5, 6, 9, 10, 11, 12, 14, 15, 55, 56, 57]) (.seq (.seq (.reg rLaw24CliquesEdgesX15 false [] [5, 6, 9, 10, 11, 12, 14, 15, 55, 56, 57, 61, 62, 63]) (.blk 2 (.loop lLaw24CliquesEdgesX0))) (.seq (.reg rLaw24CliquesEdgesX20 false [] [5, 6, 9, 10, 11, 12, 55, 56, 57, 84]) (.cond (.t 84) (.seq (.reg rLaw24CliquesEdgesX21 false [] [2]) .ret) .skip)))))) (.reg rLaw24CliquesEdgesX22 false [] [5, 6, 9, 10, 11, 12, 55, 56, 57]))))
def rLaw24CliquesEdgesX23 : List O := [
  ⟨(some 86), none, .mv (.t 9)⟩,
  ⟨(some 87), none, .len (.t 86)⟩,
  ⟨(some 88), none, .mv (.k (.int .i64 0))⟩]
def rLaw24CliquesEdgesX24 : List O := [
  ⟨(some 89), none, .bin .lss (.t 88) (.t 87)⟩]
def rLaw24CliquesEdgesX25 : List O := [
  ⟨(some 90), none, .ixa 1 (.t 86) (.t 88)⟩,
  ⟨(some 91), none, .ld none (.t 90)⟩,
  ⟨(some 19), none, .mv (.t 91)⟩]
def rLaw24CliquesEdgesX26 : List O := [
  ⟨(some 20), none, .mv (.k (.bool false))⟩]
def rLaw24CliquesEdgesX27 : List O := [
  ⟨(some 92), none, .mv (.t 11)⟩,
  ⟨(some 93), none, .len (.t 92)⟩,
  ⟨(some 94), none, .mv (.k (.int .i64 0))⟩]
def rLaw24CliquesEdgesX28 : List O := [
  ⟨(some 95), none, .bin .lss (.t 94) (.t 93)⟩]
def rLaw24CliquesEdgesX29 : List O := [
  ⟨(some 96), none, .ixa 1 (.t 92) (.t 94)⟩,
  ⟨(some 97), none, .ld none (.t 96)⟩,
  ⟨(some 22), none, .mv (.t 97)⟩]
def rLaw24CliquesEdgesX30 : List O := [
  ⟨(some 98), none, .mv (.t 20)⟩,
  ⟨(some 99), none, .mv (.t 98)⟩,
  ⟨(some 100), (some (99, false)), .mv (.t 19)⟩,
  ⟨(some 101), (some (99, false)), .mv (.t 22)⟩,
  ⟨(some 102), (some (99, false)), .call nRef02Within [(.t 100), (.t 101)]⟩,
  ⟨(some 103), none, .pick (.t 99) (.k (.bool true)) (.t 102)⟩,
  ⟨(some 20), none, .mv (.t 103)⟩]
def rLaw24CliquesEdgesX31 : List O := [
  ⟨(some 104), none, .bin .add (.t 94) (.k (.int .i64 1))⟩,
  ⟨(some 94), none, .mv (.t 104)⟩]
def lLaw24CliquesEdgesX2 : C := (.seq (.reg rLaw24CliquesEdgesX28 false [] [10, 11, 12, 19, 20, 86, 87, 88, 92, 93, 94, 95]) (.seq (.cond (.t 95) .skip (.exit 6)) (.seq (.blk 7 (.seq (.reg rLaw24CliquesEdgesX29 false [] [10, 11, 12, 19, 20, 22, 86, 87, 88, 92, 93, 94]) (.reg rLaw24CliquesEdgesX30 false [] [10, 11, 12, 19, 20, 86, 87, 88, 92, 93, 94]))) (.reg rLaw24CliquesEdgesX31 false [] [10, 11, 12, 19, 20, 86, 87, 88, 92, 93, 94]))))
def rLaw24CliquesEdgesX32 : List O := [
  ⟨(some 105), none, .mv (.t 20)⟩,
  ⟨(some 106), none, .un .not (.t 105)⟩]
def rLaw24CliquesEdgesX33 : List O := [
  ⟨(some 2), none, .mv (.k (.bool false))⟩]
def rLaw24CliquesEdgesX34 : List O := [
  ⟨(some 107), none, .bin .add (.t 88) (.k (.int .i64 1))⟩,
  ⟨(some 88), none, .mv (.t 107)⟩]
def lLaw24CliquesEdgesX3 : C := (.seq (.reg rLaw24CliquesEdgesX24 false [] [10, 11, 12, 86, 87, 88, 89]) (.seq (.cond (.t 89) .skip (.exit 4)) (.seq (.blk 5 (.seq (.reg rLaw24CliquesEdgesX25 false [] [10, 11, 12, 19, 86, 87, 88]) (.seq (.reg rLaw24CliquesEdgesX26 false [] [10, 11, 12, 19, 20, 86, 87, 88]) (.seq (.seq (.reg rLaw24CliquesEdgesX27 false [] [10, 11, 12, 19, 20, 86, 87, 88, 92, 93, 94]) (.blk 6 (.loop lLaw24CliquesEdgesX2))) (.seq (.reg rLaw24CliquesEdgesX32 false [] [10, 11, 12, 86, 87, 88, 106]) (.cond (.t 106) (.seq (.reg rLaw24CliquesEdgesX33 false [] [2]) .ret) .skip)))))) (.reg rLaw24CliquesEdgesX34 false [] [10, 11, 12, 86, 87, 88]))))
def rLaw24CliquesEdgesX35 : List O := [
  ⟨(some 108), none, .mv (.t 10)⟩,
  ⟨(some 109), none, .bin .eql (.t 108) (.k (.int .i64 0))⟩,
  ⟨(some 110), none, .mv (.t 109)⟩,
  ⟨(some 111), (some (110, true)), .mv (.t 12)⟩,
  ⟨(some 112), (some (110, true)), .bin .eql (.t 111) (.k (.int .i64 0))⟩,
  ⟨(some 113), none, .pick (.t 110) (.t 112) (.k (.bool false))⟩,
  ⟨(some 114), none, .mv (.t 113)⟩,
  ⟨(some 115), (some (114, true)), .call nLaw24Awake []⟩,
  ⟨(some 116), none, .pick (.t 114) (.t 115) (.k (.bool false))⟩,
  ⟨(some 2), none, .mv (.t 116)⟩]
def cLaw24CliquesEdges : C := (.seq (.reg rLaw24CliquesEdgesX0 false [] [0]) (.seq (.seq (.reg rLaw24CliquesEdgesX1 false [] [0, 25]) (.cond (.t 25) (.seq (.reg rLaw24CliquesEdgesX2 false [] [2]) .ret) .skip)) (.seq (.reg rLaw24CliquesEdgesX3 false [] [3]) (.seq (.reg rLaw24CliquesEdgesX4 false [] [3, 4]) (.seq (.reg rLaw24CliquesEdgesX5 false [] [4, 5, 6]) (.seq (.reg rLaw24CliquesEdgesX6 false [] [4, 5, 6, 7, 8]) (.seq (.seq (.reg rLaw24CliquesEdgesX7 false [] [4, 5, 6, 7, 43]) (.cond (.t 43) (.seq (.reg rLaw24CliquesEdgesX8 false [] [2]) .ret) .skip)) (.seq (.reg rLaw24CliquesEdgesX9 false [] [5, 6, 7, 9, 10]) (.seq (.reg rLaw24CliquesEdgesX10 false [] [5, 6, 9, 10, 11, 12]) (.seq (.seq (.reg rLaw24CliquesEdgesX11 false [] [5, 6, 9, 10, 11, 12, 55, 56, 57]) (.blk 0 (.loop lLaw24CliquesEdgesX1))) (.seq (.seq (.reg rLaw24CliquesEdgesX23 false [] [10, 11, 12, 86, 87, 88]) (.blk 4 (.loop lLaw24CliquesEdgesX3))) (.seq (.reg rLaw24CliquesEdgesX35 false [] [2]) .ret))))))))))))
def qLaw24CliquesEdges : AFn := ⟨117, 1, [.t 2], cLaw24CliquesEdges⟩
/- cohesion/cohesionmake.Few -/
def rMakeFewX0 : List O := [
  ⟨(some 2), none, .mv (.k (.bool false))⟩]
def rMakeFewX1 : List O := [
  ⟨(some 3), none, .mv (.t 0)⟩,
  ⟨(some 4), none, .len (.t 3)⟩,
  ⟨(some 5), none, .bin .leq (.t 4) (.k (.int .i64 500))⟩,
  ⟨(some 2), none, .mv (.t 5)⟩]
def cMakeFew : C := (.seq (.reg rMakeFewX0 false [] [0]) (.seq (.reg rMakeFewX1 false [] [2]) .ret))
def qMakeFew : AFn := ⟨6, 1, [.t 2], cMakeFew⟩
/- cohesion/cohesionlaw24.awake -/
def rLaw24AwakeX0 : List O := [
  ⟨(some 0), none, .mv (.k (.bool false))⟩]
def rLaw24AwakeX1 : List O := [
  ⟨(some 8), none, .build [(.int .i64 0), (.int .i64 0)] [(0, 1, (.k (.int .i64 0))), (1, 1, (.k (.int .i64 1)))]⟩,
  ⟨(some 9), none, .build [(.int .i64 0), (.int .i64 0)] [(0, 1, (.k (.int .i64 1))), (1, 1, (.k (.int .i64 2)))]⟩,
  ⟨(some 10), none, .bslice 2 2 [(.int .i64 0), (.int .i64 0)] [(0, 2, (.t 8)), (2, 2, (.t 9))]⟩,
  ⟨(some 11), none, .call nRef03Of [(.k (.int .i64 4)), (.t 10)]⟩,
  ⟨(some 7), none, .mv (.t 11)⟩,
  ⟨(some 12), none, .ext 0 (.t 7)⟩,
  ⟨(some 13), none, .ext 1 (.t 7)⟩,
  ⟨(some 1), none, .new [(.int .i64 0), (.own 2 [])]⟩,
  ⟨none, none, .st 2 (.t 1) (.t 12)⟩,
  ⟨(some 2), none, .mv (.t 13)⟩]
def rLaw24AwakeX2 : List O := [
  ⟨(some 15), none, .ld (some 2) (.t 1)⟩,
  ⟨(some 16), none, .call nCliquesAll [(.t 15), (.k (.int .i64 9))]⟩,
  ⟨(some 14), none, .mv (.t 16)⟩,
  ⟨(some 17), none, .ext 0 (.t 14)⟩,
  ⟨(some 18), none, .ext 1 (.t 14)⟩,
  ⟨(some 3), none, .mv (.t 17)⟩,
  ⟨(some 4), none, .mv (.t 18)⟩]
def rLaw24AwakeX3 : List O := [
  ⟨(some 20), none, .ld (some 2) (.t 1)⟩,
  ⟨(some 21), none, .bslice 1 1 [(.int .i64 0)] [(0, 1, (.k (.int .i64 2)))]⟩,
  ⟨(some 22), none, .call nCliquesExtend [(.t 20), (.t 21)]⟩,
  ⟨(some 19), none, .mv (.t 22)⟩,
  ⟨(some 23), none, .ext 0 (.t 19)⟩,
  ⟨(some 24), none, .ext 1 (.t 19)⟩,
  ⟨(some 5), none, .mv (.t 23)⟩,
  ⟨(some 6), none, .mv (.t 24)⟩]
def rLaw24AwakeX4 : List O := [
  ⟨(some 25), none, .mv (.t 4)⟩,
  ⟨(some 26), none, .bin .eql (.t 25) (.k (.int .i64 0))⟩,
  ⟨(some 27), none, .mv (.t 26)⟩,
  ⟨(some 28), (some (27, true)), .mv (.t 3)⟩,
  ⟨(some 29), (some (27, true)), .len (.t 28)⟩,
  ⟨(some 30), (some (27, true)), .bin .eql (.t 29) (.k (.int .i64 3))⟩,
  ⟨(some 31), none, .pick (.t 27) (.t 30) (.k (.bool false))⟩,
  ⟨(some 32), none, .mv (.t 31)⟩,
  ⟨(some 33), (some (32, true)), .mv (.t 3)⟩,
  ⟨(some 34), (some (32, true)), .ixa 1 (.t 33) (.k (.int .i64 1))⟩,
  ⟨(some 35), (some (32, true)), .ld none (.t 34)⟩,
  ⟨(some 36), (some (32, true)), .bslice 1 2 [(.int .i64 0)] [(0, 1, (.k (.int .i64 1))), (1, 1, (.k (.int .i64 2)))]⟩,
  ⟨(some 37), (some (32, true)), .call nRef02Cmp [(.t 35), (.t 36)]⟩,
  ⟨(some 38), (some (32, true)), .bin .eql (.t 37) (.k (.int .i64 0))⟩,
  ⟨(some 39), none, .pick (.t 32) (.t 38) (.k (.bool false))⟩,
  ⟨(some 40), none, .mv (.t 39)⟩,
  ⟨(some 41), (some (40, true)), .mv (.t 3)⟩,
  ⟨(some 42), (some (40, true)), .ixa 1 (.t 41) (.k (.int .i64 2))⟩,
  ⟨(some 43), (some (40, true)), .ld none (.t 42)⟩,
  ⟨(some 44), (some (40, true)), .bslice 1 1 [(.int .i64 0)] [(0, 1, (.k (.int .i64 3)))]⟩,
  ⟨(some 45), (some (40, true)), .call nRef02Cmp [(.t 43), (.t 44)]⟩,
  ⟨(some 46), (some (40, true)), .bin .eql (.t 45) (.k (.int .i64 0))⟩,
  ⟨(some 47), none, .pick (.t 40) (.t 46) (.k (.bool false))⟩,
  ⟨(some 48), none, .mv (.t 47)⟩,
  ⟨(some 49), (some (48, true)), .mv (.t 6)⟩,
  ⟨(some 50), (some (48, true)), .bin .eql (.t 49) (.k (.int .i64 0))⟩,
  ⟨(some 51), none, .pick (.t 48) (.t 50) (.k (.bool false))⟩,
  ⟨(some 52), none, .mv (.t 51)⟩,
  ⟨(some 53), (some (52, true)), .mv (.t 5)⟩,
  ⟨(some 54), (some (52, true)), .bslice 1 2 [(.int .i64 0)] [(0, 1, (.k (.int .i64 1))), (1, 1, (.k (.int .i64 2)))]⟩,
  ⟨(some 55), (some (52, true)), .call nRef02Cmp [(.t 53), (.t 54)]⟩,
  ⟨(some 56), (some (52, true)), .bin .eql (.t 55) (.k (.int .i64 0))⟩,
  ⟨(some 57), none, .pick (.t 52) (.t 56) (.k (.bool false))⟩,
  ⟨(some 58), none, .mv (.t 57)⟩,
  ⟨(some 59), (some (58, true)), .ld (some 2) (.t 1)⟩,
  ⟨(some 60), (some (58, true)), .mv (.t 3)⟩,
  ⟨(some 61), (some (58, true)), .call nCliquesCheck [(.t 59), (.t 60)]⟩,
  ⟨(some 62), none, .pick (.t 58) (.t 61) (.k (.bool false))⟩,
  ⟨(some 0), none, .mv (.t 62)⟩]
def cLaw24Awake : C := (.seq (.reg rLaw24AwakeX0 false [] []) (.seq (.reg rLaw24AwakeX1 false [] [1]) (.seq (.reg rLaw24AwakeX2 false [] [1, 3, 4]) (.seq (.reg rLaw24AwakeX3 false [] [1, 3, 4, 5, 6]) (.seq (.reg rLaw24AwakeX4 false [] [0]) .ret)))))
def qLaw24Awake : AFn := ⟨63, 0, [.t 0], cLaw24Awake⟩
/- cohesion/cohesionmake.New -/
def rMakeNewX0 : List O := [
  ⟨(some 2), none, .mv (.k .nilp)⟩]
def rMakeNewX1 : List O := [
  ⟨(some 3), none, .mv (.t 0)⟩,
  ⟨(some 4), none, .build [(.own 1 []), (.int .i64 0)] [(0, 1, (.t 3))]⟩,
  ⟨(some 5), none, .box (.t 4)⟩,
  ⟨(some 2), none, .mv (.t 5)⟩]
def cMakeNew : C := (.seq (.reg rMakeNewX0 false [] [0]) (.seq (.reg rMakeNewX1 false [] [2]) .ret))
def qMakeNew : AFn := ⟨6, 1, [.t 2], cMakeNew⟩
/- cohesion/cohesionmake.Graph -/
def rMakeGraphX0 : List O := [
  ⟨(some 4), none, .new [(.int .i64 0), (.own 2 [])]⟩]
def rMakeGraphX1 : List O := [
  ⟨(some 9), none, .mv (.t 0)⟩,
  ⟨(some 10), none, .mv (.t 1)⟩,
  ⟨(some 11), none, .bin .add (.t 10) (.k (.int .i64 1))⟩,
  ⟨(some 12), none, .call nMakeDeckNext [(.t 9), (.t 11)]⟩,
  ⟨(some 13), none, .build [(.int .i64 0), (.own 2 [])] [(0, 1, (.t 12))]⟩,
  ⟨(some 5), none, .new [(.int .i64 0), (.own 2 [])]⟩,
  ⟨none, none, .st 2 (.t 5) (.t 13)⟩]
def rMakeGraphX2 : List O := [
  ⟨(some 14), none, .fad 0 (.t 5)⟩,
  ⟨(some 15), none, .ld none (.t 14)⟩,
  ⟨(some 16), none, .bin .lss (.t 15) (.k (.int .i64 4))⟩]
def rMakeGraphX3 : List O := [
  ⟨(some 17), none, .mv (.t 1)⟩,
  ⟨(some 18), none, .fad 0 (.t 5)⟩,
  ⟨(some 19), none, .ld none (.t 18)⟩,
  ⟨(some 20), none, .mv (.t 0)⟩,
  ⟨(some 21), none, .mv (.t 1)⟩,
  ⟨(some 22), none, .bin .add (.t 21) (.k (.int .i64 1))⟩,
  ⟨(some 23), none, .call nMakeDeckNext [(.t 20), (.t 22)]⟩,
  ⟨(some 24), none, .bin .add (.t 19) (.t 23)⟩,
  ⟨(some 25), none, .min [(.t 17), (.t 24)]⟩,
  ⟨(some 26), none, .fad 0 (.t 5)⟩,
  ⟨none, none, .st 1 (.t 26) (.t 25)⟩]
def rMakeGraphX4 : List O := [
  ⟨(some 27), none, .mv (.t 0)⟩,
  ⟨(some 28), none, .call nMakeDeckNext [(.t 27), (.k (.int .i64 4))]⟩,
  ⟨(some 29), none, .bin .add (.k (.int .i64 1)) (.t 28)⟩,
  ⟨(some 6), none, .mv (.t 29)⟩]
def rMakeGraphX5 : List O := [
  ⟨(some 7), none, .mv (.k (.int .i64 0))⟩]
def rMakeGraphX6 : List O := [
  ⟨(some 30), none, .mv (.t 7)⟩,
  ⟨(some 31), none, .fad 0 (.t 5)⟩,
  ⟨(some 32), none, .ld none (.t 31)⟩,
  ⟨(some 33), none, .bin .lss (.t 30) (.t 32)⟩]
def rMakeGraphX7 : List O := [
  ⟨(some 36), none, .mv (.t 7)⟩,
  ⟨(some 37), none, .bin .add (.t 36) (.k (.int .i64 1))⟩,
  ⟨(some 8), none, .mv (.t 37)⟩]
def rMakeGraphX8 : List O := [
  ⟨(some 38), none, .mv (.t 8)⟩,
  ⟨(some 39), none, .fad 0 (.t 5)⟩,
  ⟨(some 40), none, .ld none (.t 39)⟩,
  ⟨(some 41), none, .bin .lss (.t 38) (.t 40)⟩]
def rMakeGraphX9 : List O := [
  ⟨(some 44), none, .mv (.t 0)⟩,
  ⟨(some 45), none, .call nMakeDeckNext [(.t 44), (.k (.int .i64 5))]⟩,
  ⟨(some 46), none, .mv (.t 6)⟩,
  ⟨(some 47), none, .bin .sub (.k (.int .i64 5)) (.t 46)⟩,
  ⟨(some 48), none, .bin .geq (.t 45) (.t 47)⟩]
def rMakeGraphX10 : List O := [
  ⟨(some 49), none, .fad 1 (.t 5)⟩,
  ⟨(some 50), none, .ld none (.t 49)⟩,
  ⟨(some 51), none, .mv (.t 7)⟩,
  ⟨(some 52), none, .mv (.t 8)⟩,
  ⟨(some 53), none, .build [(.int .i64 0), (.int .i64 0)] [(0, 1, (.t 51)), (1, 1, (.t 52))]⟩,
  ⟨(some 54), none, .bslice 2 1 [(.int .i64 0), (.int .i64 0)] [(0, 2, (.t 53))]⟩,
  ⟨(some 55), none, .app 2 (.t 50) (.t 54)⟩,
  ⟨(some 56), none, .fad 1 (.t 5)⟩,
  ⟨none, none, .st 1 (.t 56) (.t 55)⟩]
def rMakeGraphX11 : List O := [
  ⟨(some 42), none, .mv (.t 8)⟩,
  ⟨(some 43), none, .bin .add (.t 42) (.k (.int .i64 1))⟩,
  ⟨(some 8), none, .mv (.t 43)⟩]
def lMakeGraphX0 : C := (.seq (.seq (.reg rMakeGraphX8 false [] [0, 4, 5, 6, 7, 8, 41]) (.cond (.t 41) .skip (.exit 2))) (.seq (.blk 3 (.seq (.reg rMakeGraphX9 false [] [0, 4, 5, 6, 7, 8, 48]) (.cond (.t 48) (.reg rMakeGraphX10 false [] [0, 4, 5, 6, 7, 8]) .skip))) (.reg rMakeGraphX11 false [] [0, 4, 5, 6, 7, 8])))
def rMakeGraphX12 : List O := [
  ⟨(some 34), none, .mv (.t 7)⟩,
  ⟨(some 35), none, .bin .add (.t 34) (.k (.int .i64 1))⟩,
  ⟨(some 7), none, .mv (.t 35)⟩]
def lMakeGraphX1 : C := (.seq (.seq (.reg rMakeGraphX6 false [] [0, 4, 5, 6, 7, 33]) (.cond (.t 33) .skip (.exit 0))) (.seq (.blk 1 (.seq (.reg rMakeGraphX7 false [] [0, 4, 5, 6, 7, 8]) (.blk 2 (.loop lMakeGraphX0)))) (.reg rMakeGraphX12 false [] [0, 4, 5, 6, 7])))
def rMakeGraphX13 : List O := [
  ⟨(some 57), none, .ld (some 2) (.t 5)⟩,
  ⟨none, none, .st 2 (.t 4) (.t 57)⟩]
def cMakeGraph : C := (.seq (.reg rMakeGraphX0 false [] [0, 1, 4]) (.seq (.reg rMakeGraphX1 false [] [0, 1, 4, 5]) (.seq (.seq (.reg rMakeGraphX2 false [] [0, 1, 4, 5, 16]) (.cond (.t 16) (.reg rMakeGraphX3 true [(8, 8), (9, 9), (10, 10), (0, 2), (2, 3), (2, 4), (2, 5), (0, 6), (1, 6), (2, 6)] [0, 4, 5]) .skip)) (.seq (.reg rMakeGraphX4 false [] [0, 4, 5, 6]) (.seq (.seq (.reg rMakeGraphX5 false [] [0, 4, 5, 6, 7]) (.blk 0 (.loop lMakeGraphX1))) (.seq (.reg rMakeGraphX13 false [] [4]) .ret))))))
def qMakeGraph : AFn := ⟨58, 2, [.c 4 (some 2)], cMakeGraph⟩
/- (*cohesion/cohesionmake.Deck).Next -/
def rMakeDeckNextX0 : List O := [
  ⟨(some 4), none, .mv (.k (.int .i64 0))⟩]
def rMakeDeckNextX1 : List O := [
  ⟨(some 6), none, .mv (.t 1)⟩,
  ⟨(some 7), none, .bin .lss (.t 6) (.k (.int .i64 1))⟩,
  ⟨(some 8), none, .mv (.t 7)⟩,
  ⟨(some 9), (some (8, false)), .mv (.t 0)⟩,
  ⟨(some 10), (some (8, false)), .nilck (.t 9)⟩,
  ⟨(some 11), (some (8, false)), .fad 1 (.t 10)⟩,
  ⟨(some 12), (some (8, false)), .ld none (.t 11)⟩,
  ⟨(some 13), (some (8, false)), .mv (.t 0)⟩,
  ⟨(some 14), (some (8, false)), .nilck (.t 13)⟩,
  ⟨(some 15), (some (8, false)), .fad 0 (.t 14)⟩,
  ⟨(some 16), (some (8, false)), .ld none (.t 15)⟩,
  ⟨(some 17), (some (8, false)), .len (.t 16)⟩,
  ⟨(some 18), (some (8, false)), .bin .geq (.t 12) (.t 17)⟩,
  ⟨(some 19), none, .pick (.t 8) (.k (.bool true)) (.t 18)⟩]
def rMakeDeckNextX2 : List O := [
  ⟨(some 4), none, .mv (.k (.int .i64 0))⟩]
def rMakeDeckNextX3 : List O := [
  ⟨(some 20), none, .mv (.t 0)⟩,
  ⟨(some 21), none, .nilck (.t 20)⟩,
  ⟨(some 22), none, .fad 0 (.t 21)⟩,
  ⟨(some 23), none, .ld none (.t 22)⟩,
  ⟨(some 24), none, .mv (.t 0)⟩,
  ⟨(some 25), none, .nilck (.t 24)⟩,
  ⟨(some 26), none, .fad 1 (.t 25)⟩,
  ⟨(some 27), none, .ld none (.t 26)⟩,
  ⟨(some 28), none, .ixa 1 (.t 23) (.t 27)⟩,
  ⟨(some 29), none, .ld none (.t 28)⟩,
  ⟨(some 5), none, .mv (.t 29)⟩]
def rMakeDeckNextX4 : List O := [
  ⟨(some 30), none, .mv (.t 0)⟩,
  ⟨(some 31), none, .nilck (.t 30)⟩,
  ⟨(some 32), none, .fad 1 (.t 31)⟩,
  ⟨(some 33), none, .ld none (.t 32)⟩,
  ⟨(some 34), none, .bin .add (.t 33) (.k (.int .i64 1))⟩,
  ⟨(some 35), none, .nilck (.t 30)⟩,
  ⟨(some 36), none, .fad 1 (.t 35)⟩,
  ⟨none, none, .st 1 (.t 36) (.t 34)⟩]
def rMakeDeckNextX5 : List O := [
  ⟨(some 37), none, .mv (.t 5)⟩,
  ⟨(some 38), none, .mv (.t 1)⟩,
  ⟨(some 39), none, .call nMakeMod [(.t 37), (.t 38)]⟩,
  ⟨(some 4), none, .mv (.t 39)⟩]
def cMakeDeckNext : C := (.seq (.reg rMakeDeckNextX0 false [] [0, 1]) (.seq (.seq (.reg rMakeDeckNextX1 true [(0, 0), (1, 1), (2, 2), (12, 12), (13, 13), (6, 7), (6, 8), (6, 9), (3, 10), (4, 10), (5, 10), (6, 10), (6, 11)] [0, 1, 19]) (.cond (.t 19) (.seq (.reg rMakeDeckNextX2 false [] [4]) .ret) .skip)) (.seq (.reg rMakeDeckNextX3 true [(8, 8), (9, 9), (10, 10), (3, 4), (3, 5), (3, 6), (0, 7), (1, 7), (2, 7), (3, 7)] [0, 1, 5]) (.seq (.reg rMakeDeckNextX4 false [] [1, 5]) (.seq (.reg rMakeDeckNextX5 false [] [4]) .ret)))))
def qMakeDeckNext : AFn := ⟨40, 2, [.t 4], cMakeDeckNext⟩
/- cohesion/graph.Add -/
def rGraphAddX0 : List O := [
  ⟨(some 3), none, .box (.t 0)⟩,
  ⟨(some 6), none, .new [(.int .i64 0), (.own 2 [])]⟩,
  ⟨(some 7), none, .mv (.k (.int .i64 0))⟩]
def rGraphAddX1 : List O := [
  ⟨(some 11), none, .ld (some 2) (.t 3)⟩,
  ⟨(some 12), none, .mv (.t 1)⟩,
  ⟨(some 13), none, .mv (.t 2)⟩,
  ⟨(some 14), none, .call nGraphChange [(.t 11), (.t 12), (.t 13)]⟩,
  ⟨(some 8), none, .mv (.t 14)⟩]
def rGraphAddX2 : List O := [
  ⟨(some 15), none, .mv (.t 8)⟩,
  ⟨(some 16), none, .bin .neq (.t 15) (.k (.int .i64 0))⟩]
def rGraphAddX3 : List O := [
  ⟨(some 17), none, .build [(.int .i64 0), (.own 2 [])] []⟩,
  ⟨(some 18), none, .mv (.t 8)⟩,
  ⟨none, none, .st 2 (.t 6) (.t 17)⟩,
  ⟨(some 7), none, .mv (.t 18)⟩]
def rGraphAddX4 : List O := [
  ⟨(some 20), none, .ld (some 2) (.t 3)⟩,
  ⟨(some 21), none, .mv (.t 1)⟩,
  ⟨(some 22), none, .mv (.t 2)⟩,
  ⟨(some 23), none, .call nGraphPlace [(.t 20), (.t 21), (.t 22)]⟩,
  ⟨(some 19), none, .mv (.t 23)⟩,
  ⟨(some 24), none, .ext 0 (.t 19)⟩,
  ⟨(some 25), none, .ext 1 (.t 19)⟩,
  ⟨(some 9), none, .mv (.t 24)⟩,
  ⟨(some 10), none, .mv (.t 25)⟩]
def rGraphAddX5 : List O := [
  ⟨(some 26), none, .mv (.t 10)⟩]
def rGraphAddX6 : List O := [
  ⟨(some 27), none, .build [(.int .i64 0), (.own 2 [])] []⟩,
  ⟨none, none, .st 2 (.t 6) (.t 27)⟩,
  ⟨(some 7), none, .mv (.k (.int .i64 15))⟩]
def rGraphAddX7 : List O := [
  ⟨(some 28), none, .fad 0 (.t 3)⟩,
  ⟨(some 29), none, .ld none (.t 28)⟩,
  ⟨(some 30), none, .fad 1 (.t 3)⟩,
  ⟨(some 31), none, .ld none (.t 30)⟩,
  ⟨(some 32), none, .call nSlicesCloneApiEdgeApiEdge [(.t 31)]⟩,
  ⟨(some 33), none, .mv (.t 9)⟩,
  ⟨(some 34), none, .mv (.t 1)⟩,
  ⟨(some 35), none, .mv (.t 2)⟩,
  ⟨(some 36), none, .call nGraphEdge [(.t 34), (.t 35)]⟩,
  ⟨(some 37), none, .bslice 2 1 [(.int .i64 0), (.int .i64 0)] [(0, 2, (.t 36))]⟩,
  ⟨(some 38), none, .call nSlicesInsertApiEdgeApiEdge [(.t 32), (.t 33), (.t 37)]⟩,
  ⟨(some 39), none, .build [(.int .i64 0), (.own 2 [])] [(0, 1, (.t 29)), (1, 1, (.t 38))]⟩,
  ⟨none, none, .st 2 (.t 6) (.t 39)⟩,
  ⟨(some 7), none, .mv (.k (.int .i64 0))⟩]
def cGraphAdd : C := (.seq (.reg rGraphAddX0 false [] [1, 2, 3, 6]) (.seq (.seq (.reg rGraphAddX1 false [] [1, 2, 3, 6, 8]) (.seq (.reg rGraphAddX2 false [] [1, 2, 3, 6, 8, 16]) (.cond (.t 16) (.seq (.reg rGraphAddX3 false [] [6, 7]) .ret) .skip))) (.seq (.reg rGraphAddX4 false [] [1, 2, 3, 6, 9, 10]) (.seq (.seq (.reg rGraphAddX5 false [] [1, 2, 3, 6, 9, 26]) (.cond (.t 26) (.seq (.reg rGraphAddX6 false [] [6, 7]) .ret) .skip)) (.seq (.reg rGraphAddX7 true [(11, 11), (12, 12), (13, 13), (1, 2), (0, 3), (1, 3), (0, 4), (1, 4), (1, 5), (3, 5), (4, 5), (1, 6), (3, 6), (4, 6), (1, 7), (3, 7), (4, 7), (0, 8), (1, 8), (5, 8), (0, 9), (1, 9), (5, 9), (0, 10), (1, 10)] [6, 7]) .ret)))))
def qGraphAdd : AFn := ⟨40, 3, [.c 6 (some 2), .t 7], cGraphAdd⟩
/- cohesion/cliques.All -/
def rCliquesAllX0 : List O := [
  ⟨(some 2), none, .box (.t 0)⟩,
  ⟨(some 3), none, .box (.t 1)⟩,
  ⟨(some 4), none, .mv (.k (.own 1 []))⟩,
  ⟨(some 5), none, .mv (.k (.int .i64 0))⟩]
def rCliquesAllX1 : List O := [
  ⟨(some 8), none, .ld (some 2) (.t 2)⟩,
  ⟨(some 9), none, .call nGraphCheck [(.t 8)]⟩,
  ⟨(some 6), none, .mv (.t 9)⟩]
def rCliquesAllX2 : List O := [
  ⟨(some 10), none, .mv (.t 6)⟩,
  ⟨(some 11), none, .bin .neq (.t 10) (.k (.int .i64 0))⟩]
def rCliquesAllX3 : List O := [
  ⟨(some 12), none, .mv (.t 6)⟩,
  ⟨(some 4), none, .mv (.k (.own 1 []))⟩,
  ⟨(some 5), none, .mv (.t 12)⟩]
def rCliquesAllX4 : List O := [
  ⟨(some 13), none, .ld none (.t 3)⟩,
  ⟨(some 14), none, .bin .lss (.t 13) (.k (.int .i64 0))⟩,
  ⟨(some 15), none, .mv (.t 14)⟩,
  ⟨(some 16), (some (15, false)), .ld none (.t 3)⟩,
  ⟨(some 17), (some (15, false)), .bin .gtr (.t 16) (.k (.int .i64 4096))⟩,
  ⟨(some 18), none, .pick (.t 15) (.k (.bool true)) (.t 17)⟩]
def rCliquesAllX5 : List O := [
  ⟨(some 4), none, .mv (.k (.own 1 []))⟩,
  ⟨(some 5), none, .mv (.k (.int .i64 1))⟩]
def rCliquesAllX6 : List O := [
  ⟨(some 7), none, .new [(.own 1 [])]⟩]
def rCliquesAllX7 : List O := [
  ⟨(some 19), none, .ld (some 2) (.t 2)⟩,
  ⟨(some 20), none, .mkf (.func nCliquesAll1) [] [(.t 7), (.t 3)]⟩,
  ⟨(some 21), none, .call nCliquesEach [(.t 19), (.k (.own 1 [])), (.t 20)]⟩]
def rCliquesAllX8 : List O := [
  ⟨(some 22), none, .ld none (.t 7)⟩,
  ⟨(some 23), none, .len (.t 22)⟩,
  ⟨(some 24), none, .ld none (.t 3)⟩,
  ⟨(some 25), none, .bin .gtr (.t 23) (.t 24)⟩]
def rCliquesAllX9 : List O := [
  ⟨(some 4), none, .mv (.k (.own 1 []))⟩,
  ⟨(some 5), none, .mv (.k (.int .i64 3))⟩]
def rCliquesAllX10 : List O := [
  ⟨(some 26), none, .ld none (.t 7)⟩,
  ⟨(some 4), none, .mv (.t 26)⟩,
  ⟨(some 5), none, .mv (.k (.int .i64 0))⟩]
def cCliquesAll : C := (.seq (.reg rCliquesAllX0 false [] [2, 3]) (.seq (.seq (.reg rCliquesAllX1 false [] [2, 3, 6]) (.seq (.reg rCliquesAllX2 false [] [2, 3, 6, 11]) (.cond (.t 11) (.seq (.reg rCliquesAllX3 false [] [4, 5]) .ret) .skip))) (.seq (.seq (.reg rCliquesAllX4 false [] [2, 3, 18]) (.cond (.t 18) (.seq (.reg rCliquesAllX5 false [] [4, 5]) .ret) .skip)) (.seq (.reg rCliquesAllX6 false [] [2, 3, 7]) (.seq (.reg rCliquesAllX7 false [] [3, 7]) (.seq (.seq (.reg rCliquesAllX8 false [] [7, 25]) (.cond (.t 25) (.seq (.reg rCliquesAllX9 false [] [4, 5]) .ret) .skip)) (.seq (.reg rCliquesAllX10 false [] [4, 5]) .ret)))))))
def qCliquesAll : AFn := ⟨27, 2, [.t 4, .t 5], cCliquesAll⟩
/- cohesion/cohesionref02.Cmp -/
def rRef02CmpX0 : List O := [
  ⟨(some 4), none, .mv (.k (.int .i64 0))⟩]
def rRef02CmpX1 : List O := [
  ⟨(some 6), none, .mv (.t 0)⟩,
  ⟨(some 7), none, .len (.t 6)⟩,
  ⟨(some 8), none, .mv (.k (.int .i64 0))⟩]
def rRef02CmpX2 : List O := [
  ⟨(some 9), none, .bin .lss (.t 8) (.t 7)⟩]
def rRef02CmpX3 : List O := [
  ⟨(some 10), none, .mv (.t 8)⟩,
  ⟨(some 5), none, .mv (.t 10)⟩]
def rRef02CmpX4 : List O := [
  ⟨(some 12), none, .mv (.t 5)⟩,
  ⟨(some 13), none, .mv (.t 1)⟩,
  ⟨(some 14), none, .len (.t 13)⟩,
  ⟨(some 15), none, .bin .geq (.t 12) (.t 14)⟩,
  ⟨(some 16), none, .mv (.t 15)⟩,
  ⟨(some 17), (some (16, false)), .mv (.t 0)⟩,
  ⟨(some 18), (some (16, false)), .mv (.t 5)⟩,
  ⟨(some 19), (some (16, false)), .ixa 1 (.t 17) (.t 18)⟩,
  ⟨(some 20), (some (16, false)), .ld none (.t 19)⟩,
  ⟨(some 21), (some (16, false)), .mv (.t 1)⟩,
  ⟨(some 22), (some (16, false)), .mv (.t 5)⟩,
  ⟨(some 23), (some (16, false)), .ixa 1 (.t 21) (.t 22)⟩,
  ⟨(some 24), (some (16, false)), .ld none (.t 23)⟩,
  ⟨(some 25), (some (16, false)), .bin .gtr (.t 20) (.t 24)⟩,
  ⟨(some 26), none, .pick (.t 16) (.k (.bool true)) (.t 25)⟩,
  ⟨(some 11), none, .mv (.t 26)⟩]
def rRef02CmpX5 : List O := [
  ⟨(some 4), none, .mv (.k (.int .i64 1))⟩]
def rRef02CmpX6 : List O := [
  ⟨(some 28), none, .mv (.t 0)⟩,
  ⟨(some 29), none, .mv (.t 5)⟩,
  ⟨(some 30), none, .ixa 1 (.t 28) (.t 29)⟩,
  ⟨(some 31), none, .ld none (.t 30)⟩,
  ⟨(some 32), none, .mv (.t 1)⟩,
  ⟨(some 33), none, .mv (.t 5)⟩,
  ⟨(some 34), none, .ixa 1 (.t 32) (.t 33)⟩,
  ⟨(some 35), none, .ld none (.t 34)⟩,
  ⟨(some 36), none, .bin .lss (.t 31) (.t 35)⟩,
  ⟨(some 27), none, .mv (.t 36)⟩]
def rRef02CmpX7 : List O := [
  ⟨(some 4), none, .mv (.k (.int .i64 (-1)))⟩]
def rRef02CmpX8 : List O := [
  ⟨(some 37), none, .bin .add (.t 8) (.k (.int .i64 1))⟩,
  ⟨(some 8), none, .mv (.t 37)⟩]
def lRef02CmpX0 : C := (.seq (.reg rRef02CmpX2 false [] [0, 1, 7, 8, 9]) (.seq (.cond (.t 9) .skip (.exit 0)) (.seq (.blk 1 (.seq (.reg rRef02CmpX3 false [] [0, 1, 5, 7, 8]) (.blk 2 (.seq (.reg rRef02CmpX4 true [(3, 3), (4, 4), (13, 13), (14, 14), (15, 15), (8, 9), (8, 10), (8, 11), (5, 12), (6, 12), (7, 12), (8, 12)] [0, 1, 5, 7, 8, 11]) (.cond (.t 11) (.seq (.reg rRef02CmpX5 false [] [4]) .ret) (.seq (.reg rRef02CmpX6 true [(8, 8), (9, 9), (3, 4), (3, 5), (3, 6), (0, 7), (1, 7), (2, 7), (3, 7)] [0, 1, 7, 8, 27]) (.cond (.t 27) (.seq (.reg rRef02CmpX7 false [] [4]) .ret) .skip))))))) (.reg rRef02CmpX8 false [] [0, 1, 7, 8]))))
def rRef02CmpX9 : List O := [
  ⟨(some 38), none, .mv (.t 0)⟩,
  ⟨(some 39), none, .len (.t 38)⟩,
  ⟨(some 40), none, .mv (.t 1)⟩,
  ⟨(some 41), none, .len (.t 40)⟩,
  ⟨(some 42), none, .bin .lss (.t 39) (.t 41)⟩]
def rRef02CmpX10 : List O := [
  ⟨(some 4), none, .mv (.k (.int .i64 (-1)))⟩]
def rRef02CmpX11 : List O := [
  ⟨(some 4), none, .mv (.k (.int .i64 0))⟩]
def cRef02Cmp : C := (.seq (.reg rRef02CmpX0 false [] [0, 1]) (.seq (.seq (.reg rRef02CmpX1 false [] [0, 1, 7, 8]) (.blk 0 (.loop lRef02CmpX0))) (.seq (.seq (.reg rRef02CmpX9 false [] [42]) (.cond (.t 42) (.seq (.reg rRef02CmpX10 false [] [4]) .ret) .skip)) (.seq (.reg rRef02CmpX11 false [] [4]) .ret))))
def qRef02Cmp : AFn := ⟨43, 2, [.t 4], cRef02Cmp⟩
/- cohesion/cohesionref02.Has -/
def rRef02HasX0 : List O := [
  ⟨(some 4), none, .mv (.k (.bool false))⟩]
def rRef02HasX1 : List O := [
  ⟨(some 7), none, .mv (.t 0)⟩,
  ⟨(some 8), none, .len (.t 7)⟩,
  ⟨(some 9), none, .mv (.k (.int .i64 0))⟩]
def rRef02HasX2 : List O := [
  ⟨(some 10), none, .bin .lss (.t 9) (.t 8)⟩]
def rRef02HasX3 : List O := [
  ⟨(some 11), none, .ixa 1 (.t 7) (.t 9)⟩,
  ⟨(some 12), none, .ld none (.t 11)⟩,
  ⟨(some 6), none, .mv (.t 12)⟩]
def rRef02HasX4 : List O := [
  ⟨(some 13), none, .mv (.t 6)⟩,
  ⟨(some 14), none, .mv (.t 1)⟩,
  ⟨(some 15), none, .bin .eql (.t 13) (.t 14)⟩]
def rRef02HasX5 : List O := [
  ⟨(some 4), none, .mv (.k (.bool true))⟩]
def rRef02HasX6 : List O := [
  ⟨(some 16), none, .bin .add (.t 9) (.k (.int .i64 1))⟩,
  ⟨(some 9), none, .mv (.t 16)⟩]
def lRef02HasX0 : C := (.seq (.reg rRef02HasX2 false [] [1, 7, 8, 9, 10]) (.seq (.cond (.t 10) .skip (.exit 0)) (.seq (.blk 1 (.seq (.reg rRef02HasX3 false [] [1, 6, 7, 8, 9]) (.seq (.reg rRef02HasX4 false [] [1, 7, 8, 9, 15]) (.cond (.t 15) (.seq (.reg rRef02HasX5 false [] [4]) .ret) .skip)))) (.reg rRef02HasX6 false [] [1, 7, 8, 9]))))
def rRef02HasX7 : List O := [
  ⟨(some 4), none, .mv (.k (.bool false))⟩]
def cRef02Has : C := (.seq (.reg rRef02HasX0 false [] [0, 1]) (.seq (.seq (.reg rRef02HasX1 false [] [1, 7, 8, 9]) (.blk 0 (.loop lRef02HasX0))) (.seq (.reg rRef02HasX7 false [] [4]) .ret)))
def qRef02Has : AFn := ⟨17, 2, [.t 4], cRef02Has⟩
/- cohesion/cohesionref02.Within -/
def rRef02WithinX0 : List O := [
  ⟨(some 4), none, .mv (.k (.bool false))⟩]
def rRef02WithinX1 : List O := [
  ⟨(some 7), none, .mv (.t 0)⟩,
  ⟨(some 8), none, .len (.t 7)⟩,
  ⟨(some 9), none, .mv (.k (.int .i64 0))⟩]
def rRef02WithinX2 : List O := [
  ⟨(some 10), none, .bin .lss (.t 9) (.t 8)⟩]
def rRef02WithinX3 : List O := [
  ⟨(some 11), none, .ixa 1 (.t 7) (.t 9)⟩,
  ⟨(some 12), none, .ld none (.t 11)⟩,
  ⟨(some 6), none, .mv (.t 12)⟩]
def rRef02WithinX4 : List O := [
  ⟨(some 13), none, .mv (.t 1)⟩,
  ⟨(some 14), none, .mv (.t 6)⟩,
  ⟨(some 15), none, .call nRef02Has [(.t 13), (.t 14)]⟩,
  ⟨(some 16), none, .un .not (.t 15)⟩]
def rRef02WithinX5 : List O := [
  ⟨(some 4), none, .mv (.k (.bool false))⟩]
def rRef02WithinX6 : List O := [
  ⟨(some 17), none, .bin .add (.t 9) (.k (.int .i64 1))⟩,
  ⟨(some 9), none, .mv (.t 17)⟩]
def lRef02WithinX0 : C := (.seq (.reg rRef02WithinX2 false [] [1, 7, 8, 9, 10]) (.seq (.cond (.t 10) .skip (.exit 0)) (.seq (.blk 1 (.seq (.reg rRef02WithinX3 false [] [1, 6, 7, 8, 9]) (.seq (.reg rRef02WithinX4 false [] [1, 7, 8, 9, 16]) (.cond (.t 16) (.seq (.reg rRef02WithinX5 false [] [4]) .ret) .skip)))) (.reg rRef02WithinX6 false [] [1, 7, 8, 9]))))
def rRef02WithinX7 : List O := [
  ⟨(some 4), none, .mv (.k (.bool true))⟩]
def cRef02Within : C := (.seq (.reg rRef02WithinX0 false [] [0, 1]) (.seq (.seq (.reg rRef02WithinX1 false [] [1, 7, 8, 9]) (.blk 0 (.loop lRef02WithinX0))) (.seq (.reg rRef02WithinX7 false [] [4]) .ret)))
def qRef02Within : AFn := ⟨18, 2, [.t 4], cRef02Within⟩
/- cohesion/cliques.Is -/
def rCliquesIsX0 : List O := [
  ⟨(some 2), none, .box (.t 0)⟩,
  ⟨(some 4), none, .mv (.k (.bool false))⟩]
def rCliquesIsX1 : List O := [
  ⟨(some 5), none, .ld (some 2) (.t 2)⟩,
  ⟨(some 6), none, .call nGraphCheck [(.t 5)]⟩,
  ⟨(some 7), none, .bin .eql (.t 6) (.k (.int .i64 0))⟩,
  ⟨(some 8), none, .mv (.t 7)⟩,
  ⟨(some 9), (some (8, true)), .mv (.t 1)⟩,
  ⟨(some 10), (some (8, true)), .fad 0 (.t 2)⟩,
  ⟨(some 11), (some (8, true)), .ld none (.t 10)⟩,
  ⟨(some 12), (some (8, true)), .call nNodesetValid [(.t 9), (.t 11)]⟩,
  ⟨(some 13), none, .pick (.t 8) (.t 12) (.k (.bool false))⟩,
  ⟨(some 14), none, .mv (.t 13)⟩,
  ⟨(some 15), (some (14, true)), .ld (some 2) (.t 2)⟩,
  ⟨(some 16), (some (14, true)), .call nCliquesMasks [(.t 15)]⟩,
  ⟨(some 17), (some (14, true)), .mv (.t 1)⟩,
  ⟨(some 18), (some (14, true)), .call nCliquesClique [(.t 16), (.t 17)]⟩,
  ⟨(some 19), none, .pick (.t 14) (.t 18) (.k (.bool false))⟩,
  ⟨(some 4), none, .mv (.t 19)⟩]
def cCliquesIs : C := (.seq (.reg rCliquesIsX0 false [] [1, 2]) (.seq (.reg rCliquesIsX1 false [] [4]) .ret))
def qCliquesIs : AFn := ⟨20, 2, [.t 4], cCliquesIs⟩
/- cohesion/cliques.Extend -/
def rCliquesExtendX0 : List O := [
  ⟨(some 2), none, .box (.t 0)⟩,
  ⟨(some 4), none, .mv (.k (.own 1 []))⟩,
  ⟨(some 5), none, .mv (.k (.int .i64 0))⟩]
def rCliquesExtendX1 : List O := [
  ⟨(some 11), none, .ld (some 2) (.t 2)⟩,
  ⟨(some 12), none, .call nGraphCheck [(.t 11)]⟩,
  ⟨(some 6), none, .mv (.t 12)⟩]
def rCliquesExtendX2 : List O := [
  ⟨(some 13), none, .mv (.t 6)⟩,
  ⟨(some 14), none, .bin .neq (.t 13) (.k (.int .i64 0))⟩]
def rCliquesExtendX3 : List O := [
  ⟨(some 15), none, .mv (.t 6)⟩,
  ⟨(some 4), none, .mv (.k (.own 1 []))⟩,
  ⟨(some 5), none, .mv (.t 15)⟩]
def rCliquesExtendX4 : List O := [
  ⟨(some 16), none, .ld (some 2) (.t 2)⟩,
  ⟨(some 17), none, .mv (.t 1)⟩,
  ⟨(some 18), none, .call nCliquesIs [(.t 16), (.t 17)]⟩,
  ⟨(some 19), none, .un .not (.t 18)⟩]
def rCliquesExtendX5 : List O := [
  ⟨(some 4), none, .mv (.k (.own 1 []))⟩,
  ⟨(some 5), none, .mv (.k (.int .i64 4))⟩]
def rCliquesExtendX6 : List O := [
  ⟨(some 20), none, .fad 0 (.t 2)⟩,
  ⟨(some 21), none, .ld none (.t 20)⟩,
  ⟨(some 22), none, .bin .eql (.t 21) (.k (.int .i64 0))⟩]
def rCliquesExtendX7 : List O := [
  ⟨(some 4), none, .mv (.k (.own 1 []))⟩,
  ⟨(some 5), none, .mv (.k (.int .i64 13))⟩]
def rCliquesExtendX8 : List O := [
  ⟨(some 23), none, .ld (some 2) (.t 2)⟩,
  ⟨(some 24), none, .call nCliquesMasks [(.t 23)]⟩,
  ⟨(some 25), none, .mv (.t 1)⟩,
  ⟨(some 26), none, .call nSlicesCloneIntInt [(.t 25)]⟩,
  ⟨(some 7), none, .mv (.t 24)⟩,
  ⟨(some 8), none, .mv (.t 26)⟩]
def rCliquesExtendX9 : List O := [
  ⟨(some 27), none, .mv (.t 7)⟩,
  ⟨(some 28), none, .mv (.t 8)⟩,
  ⟨(some 29), none, .call nCliquesCommon [(.t 27), (.t 28)]⟩,
  ⟨(some 9), none, .mv (.t 29)⟩]
def rCliquesExtendX10 : List O := [
  ⟨(some 30), none, .mv (.t 9)⟩,
  ⟨(some 31), none, .bin .neq (.t 30) (.k (.int .u64 0))⟩]
def rCliquesExtendX11 : List O := [
  ⟨(some 32), none, .mv (.t 9)⟩,
  ⟨(some 33), none, .call nMathBitsTrailingZeros64 [(.t 32)]⟩,
  ⟨(some 10), none, .mv (.t 33)⟩]
def rCliquesExtendX12 : List O := [
  ⟨(some 34), none, .mv (.t 8)⟩,
  ⟨(some 35), none, .mv (.t 10)⟩,
  ⟨(some 36), none, .bslice 1 1 [(.int .i64 0)] [(0, 1, (.t 35))]⟩,
  ⟨(some 37), none, .app 1 (.t 34) (.t 36)⟩,
  ⟨(some 8), none, .mv (.t 37)⟩]
def rCliquesExtendX13 : List O := [
  ⟨(some 38), none, .mv (.t 9)⟩,
  ⟨(some 39), none, .mv (.t 7)⟩,
  ⟨(some 40), none, .mv (.t 10)⟩,
  ⟨(some 41), none, .ixa 1 (.t 39) (.t 40)⟩,
  ⟨(some 42), none, .ld none (.t 41)⟩,
  ⟨(some 43), none, .bin .and (.t 38) (.t 42)⟩,
  ⟨(some 9), none, .mv (.t 43)⟩]
def lCliquesExtendX0 : C := (.seq (.seq (.reg rCliquesExtendX10 false [] [7, 8, 9, 31]) (.cond (.t 31) .skip (.exit 0))) (.blk 1 (.seq (.reg rCliquesExtendX11 false [] [7, 8, 9, 10]) (.seq (.reg rCliquesExtendX12 false [] [7, 8, 9, 10]) (.reg rCliquesExtendX13 false [] [7, 8, 9])))))
def rCliquesExtendX14 : List O := [
  ⟨(some 44), none, .mv (.t 8)⟩,
  ⟨(some 45), none, .call nSlicesSortIntInt [(.t 44)]⟩]
def rCliquesExtendX15 : List O := [
  ⟨(some 46), none, .mv (.t 8)⟩,
  ⟨(some 4), none, .mv (.t 46)⟩,
  ⟨(some 5), none, .mv (.k (.int .i64 0))⟩]
def cCliquesExtend : C := (.seq (.reg rCliquesExtendX0 false [] [1, 2]) (.seq (.seq (.reg rCliquesExtendX1 false [] [1, 2, 6]) (.seq (.reg rCliquesExtendX2 false [] [1, 2, 6, 14]) (.cond (.t 14) (.seq (.reg rCliquesExtendX3 false [] [4, 5]) .ret) .skip))) (.seq (.seq (.reg rCliquesExtendX4 false [] [1, 2, 19]) (.cond (.t 19) (.seq (.reg rCliquesExtendX5 false [] [4, 5]) .ret) .skip)) (.seq (.seq (.reg rCliquesExtendX6 false [] [1, 2, 22]) (.cond (.t 22) (.seq (.reg rCliquesExtendX7 false [] [4, 5]) .ret) .skip)) (.seq (.reg rCliquesExtendX8 false [] [7, 8]) (.seq (.seq (.reg rCliquesExtendX9 false [] [7, 8, 9]) (.blk 0 (.loop lCliquesExtendX0))) (.seq (.reg rCliquesExtendX14 false [] [8]) (.seq (.reg rCliquesExtendX15 false [] [4, 5]) .ret))))))))
def qCliquesExtend : AFn := ⟨47, 2, [.t 4, .t 5], cCliquesExtend⟩
/- cohesion/cohesionref03.Of -/
def rRef03OfX0 : List O := [
  ⟨(some 4), none, .new [(.int .i64 0), (.own 2 [])]⟩,
  ⟨(some 5), none, .mv (.k (.int .i64 0))⟩]
def rRef03OfX1 : List O := [
  ⟨(some 9), none, .mv (.t 0)⟩,
  ⟨(some 10), none, .bin .lss (.t 9) (.k (.int .i64 0))⟩,
  ⟨(some 11), none, .mv (.t 10)⟩,
  ⟨(some 12), (some (11, false)), .mv (.t 0)⟩,
  ⟨(some 13), (some (11, false)), .bin .gtr (.t 12) (.k (.int .i64 64))⟩,
  ⟨(some 14), none, .pick (.t 11) (.k (.bool true)) (.t 13)⟩]
def rRef03OfX2 : List O := [
  ⟨(some 15), none, .build [(.int .i64 0), (.own 2 [])] []⟩,
  ⟨none, none, .st 2 (.t 4) (.t 15)⟩,
  ⟨(some 5), none, .mv (.k (.int .i64 1))⟩]
def rRef03OfX3 : List O := [
  ⟨(some 16), none, .mv (.t 0)⟩,
  ⟨(some 17), none, .build [(.int .i64 0), (.own 2 [])] [(0, 1, (.t 16))]⟩,
  ⟨(some 6), none, .new [(.int .i64 0), (.own 2 [])]⟩,
  ⟨none, none, .st 2 (.t 6) (.t 17)⟩]
def rRef03OfX4 : List O := [
  ⟨(some 18), none, .mv (.t 1)⟩,
  ⟨(some 19), none, .len (.t 18)⟩,
  ⟨(some 20), none, .mv (.k (.int .i64 0))⟩]
def rRef03OfX5 : List O := [
  ⟨(some 21), none, .bin .lss (.t 20) (.t 19)⟩]
def rRef03OfX6 : List O := [
  ⟨(some 22), none, .ixa 2 (.t 18) (.t 20)⟩,
  ⟨(some 23), none, .ld (some 2) (.t 22)⟩,
  ⟨(some 8), none, .new [(.int .i64 0), (.int .i64 0)]⟩,
  ⟨none, none, .st 2 (.t 8) (.t 23)⟩]
def rRef03OfX7 : List O := [
  ⟨(some 24), none, .mv (.t 0)⟩,
  ⟨(some 25), none, .fad 0 (.t 8)⟩,
  ⟨(some 26), none, .ld none (.t 25)⟩,
  ⟨(some 27), none, .fad 1 (.t 8)⟩,
  ⟨(some 28), none, .ld none (.t 27)⟩,
  ⟨(some 29), none, .call nRef03Ends [(.t 24), (.t 26), (.t 28)]⟩,
  ⟨(some 30), none, .un .not (.t 29)⟩]
def rRef03OfX8 : List O := [
  ⟨(some 31), none, .build [(.int .i64 0), (.own 2 [])] []⟩,
  ⟨none, none, .st 2 (.t 4) (.t 31)⟩,
  ⟨(some 5), none, .mv (.k (.int .i64 6))⟩]
def rRef03OfX9 : List O := [
  ⟨(some 32), none, .fad 1 (.t 6)⟩,
  ⟨(some 33), none, .ld none (.t 32)⟩,
  ⟨(some 34), none, .fad 0 (.t 8)⟩,
  ⟨(some 35), none, .ld none (.t 34)⟩,
  ⟨(some 36), none, .fad 1 (.t 8)⟩,
  ⟨(some 37), none, .ld none (.t 36)⟩,
  ⟨(some 38), none, .call nRef03Edge [(.t 35), (.t 37)]⟩,
  ⟨(some 39), none, .call nRef03With [(.t 33), (.t 38)]⟩,
  ⟨(some 40), none, .fad 1 (.t 6)⟩,
  ⟨none, none, .st 1 (.t 40) (.t 39)⟩]
def rRef03OfX10 : List O := [
  ⟨(some 41), none, .bin .add (.t 20) (.k (.int .i64 1))⟩,
  ⟨(some 20), none, .mv (.t 41)⟩]
def lRef03OfX0 : C := (.seq (.reg rRef03OfX5 false [] [0, 4, 6, 18, 19, 20, 21]) (.seq (.cond (.t 21) .skip (.exit 0)) (.seq (.blk 1 (.seq (.reg rRef03OfX6 false [] [0, 4, 6, 8, 18, 19, 20]) (.seq (.seq (.reg rRef03OfX7 false [] [0, 4, 6, 8, 18, 19, 20, 30]) (.cond (.t 30) (.seq (.reg rRef03OfX8 false [] [4, 5]) .ret) .skip)) (.reg rRef03OfX9 true [(7, 7), (8, 8), (9, 9), (1, 2), (0, 3), (1, 3), (1, 4), (3, 4), (0, 5), (1, 5), (2, 5), (3, 5), (0, 6), (1, 6)] [0, 4, 6, 18, 19, 20])))) (.reg rRef03OfX10 false [] [0, 4, 6, 18, 19, 20]))))
def rRef03OfX11 : List O := [
  ⟨(some 42), none, .ld (some 2) (.t 6)⟩,
  ⟨none, none, .st 2 (.t 4) (.t 42)⟩,
  ⟨(some 5), none, .mv (.k (.int .i64 0))⟩]
def cRef03Of : C := (.seq (.reg rRef03OfX0 false [] [0, 1, 4]) (.seq (.seq (.reg rRef03OfX1 false [] [0, 1, 4, 14]) (.cond (.t 14) (.seq (.reg rRef03OfX2 false [] [4, 5]) .ret) .skip)) (.seq (.reg rRef03OfX3 false [] [0, 1, 4, 6]) (.seq (.seq (.reg rRef03OfX4 false [] [0, 4, 6, 18, 19, 20]) (.blk 0 (.loop lRef03OfX0))) (.seq (.reg rRef03OfX11 false [] [4, 5]) .ret)))))
def qRef03Of : AFn := ⟨43, 2, [.c 4 (some 2), .t 5], cRef03Of⟩
/- cohesion/cliques.Check -/
def rCliquesCheckX0 : List O := [
  ⟨(some 2), none, .box (.t 0)⟩,
  ⟨(some 3), none, .box (.t 1)⟩,
  ⟨(some 4), none, .mv (.k (.bool false))⟩]
def rCliquesCheckX1 : List O := [
  ⟨(some 7), none, .ld (some 2) (.t 2)⟩,
  ⟨(some 8), none, .call nGraphCheck [(.t 7)]⟩,
  ⟨(some 9), none, .bin .neq (.t 8) (.k (.int .i64 0))⟩]
def rCliquesCheckX2 : List O := [
  ⟨(some 4), none, .mv (.k (.bool false))⟩]
def rCliquesCheckX3 : List O := [
  ⟨(some 5), none, .new [(.int .i64 0)]⟩,
  ⟨(some 6), none, .new [(.bool false)]⟩,
  ⟨none, none, .st 1 (.t 5) (.k (.int .i64 0))⟩,
  ⟨none, none, .st 1 (.t 6) (.k (.bool true))⟩]
def rCliquesCheckX4 : List O := [
  ⟨(some 10), none, .ld (some 2) (.t 2)⟩,
  ⟨(some 11), none, .mkf (.func nCliquesCheck1) [] [(.t 5), (.t 3), (.t 6)]⟩,
  ⟨(some 12), none, .call nCliquesEach [(.t 10), (.k (.own 1 [])), (.t 11)]⟩]
def rCliquesCheckX5 : List O := [
  ⟨(some 13), none, .ld none (.t 6)⟩,
  ⟨(some 14), none, .mv (.t 13)⟩,
  ⟨(some 15), (some (14, true)), .ld none (.t 5)⟩,
  ⟨(some 16), (some (14, true)), .ld none (.t 3)⟩,
  ⟨(some 17), (some (14, true)), .len (.t 16)⟩,
  ⟨(some 18), (some (14, true)), .bin .eql (.t 15) (.t 17)⟩,
  ⟨(some 19), none, .pick (.t 14) (.t 18) (.k (.bool false))⟩,
  ⟨(some 4), none, .mv (.t 19)⟩]
def cCliquesCheck : C := (.seq (.reg rCliquesCheckX0 false [] [2, 3]) (.seq (.seq (.reg rCliquesCheckX1 false [] [2, 3, 9]) (.cond (.t 9) (.seq (.reg rCliquesCheckX2 false [] [4]) .ret) .skip)) (.seq (.reg rCliquesCheckX3 false [] [2, 3, 5, 6]) (.seq (.reg rCliquesCheckX4 false [] [3, 5, 6]) (.seq (.reg rCliquesCheckX5 false [] [4]) .ret)))))
def qCliquesCheck : AFn := ⟨20, 2, [.t 4], cCliquesCheck⟩
/- cohesion/cohesionmake.Mod -/
def rMakeModX0 : List O := [
  ⟨(some 4), none, .mv (.k (.int .i64 0))⟩]
def rMakeModX1 : List O := [
  ⟨(some 5), none, .mv (.t 0)⟩,
  ⟨(some 6), none, .mv (.t 1)⟩,
  ⟨(some 7), none, .bin .rem (.t 5) (.t 6)⟩,
  ⟨(some 8), none, .mv (.t 1)⟩,
  ⟨(some 9), none, .bin .add (.t 7) (.t 8)⟩,
  ⟨(some 10), none, .mv (.t 1)⟩,
  ⟨(some 11), none, .bin .rem (.t 9) (.t 10)⟩,
  ⟨(some 4), none, .mv (.t 11)⟩]
def cMakeMod : C := (.seq (.reg rMakeModX0 false [] [0, 1]) (.seq (.reg rMakeModX1 false [] [4]) .ret))
def qMakeMod : AFn := ⟨12, 2, [.t 4], cMakeMod⟩
/- cohesion/graph.change -/
def rGraphChangeX0 : List O := [
  ⟨(some 3), none, .box (.t 0)⟩,
  ⟨(some 6), none, .mv (.k (.int .i64 0))⟩]
def rGraphChangeX1 : List O := [
  ⟨(some 8), none, .ld (some 2) (.t 3)⟩,
  ⟨(some 9), none, .call nGraphCheck [(.t 8)]⟩,
  ⟨(some 7), none, .mv (.t 9)⟩]
def rGraphChangeX2 : List O := [
  ⟨(some 10), none, .mv (.t 7)⟩,
  ⟨(some 11), none, .bin .neq (.t 10) (.k (.int .i64 0))⟩]
def rGraphChangeX3 : List O := [
  ⟨(some 12), none, .mv (.t 7)⟩,
  ⟨(some 6), none, .mv (.t 12)⟩]
def rGraphChangeX4 : List O := [
  ⟨(some 13), none, .fad 0 (.t 3)⟩,
  ⟨(some 14), none, .ld none (.t 13)⟩,
  ⟨(some 15), none, .mv (.t 1)⟩,
  ⟨(some 16), none, .mv (.t 2)⟩,
  ⟨(some 17), none, .call nGraphEnds [(.t 14), (.t 15), (.t 16)]⟩,
  ⟨(some 18), none, .un .not (.t 17)⟩]
def rGraphChangeX5 : List O := [
  ⟨(some 6), none, .mv (.k (.int .i64 6))⟩]
def rGraphChangeX6 : List O := [
  ⟨(some 6), none, .mv (.k (.int .i64 0))⟩]
def cGraphChange : C := (.seq (.reg rGraphChangeX0 false [] [1, 2, 3]) (.seq (.seq (.reg rGraphChangeX1 false [] [1, 2, 3, 7]) (.seq (.reg rGraphChangeX2 false [] [1, 2, 3, 7, 11]) (.cond (.t 11) (.seq (.reg rGraphChangeX3 false [] [6]) .ret) .skip))) (.seq (.seq (.reg rGraphChangeX4 false [] [18]) (.cond (.t 18) (.seq (.reg rGraphChangeX5 false [] [6]) .ret) .skip)) (.seq (.reg rGraphChangeX6 false [] [6]) .ret))))
def qGraphChange : AFn := ⟨19, 3, [.t 6], cGraphChange⟩
/- cohesion/graph.place -/
def rGraphPlaceX0 : List O := [
  ⟨(some 3), none, .box (.t 0)⟩,
  ⟨(some 6), none, .mv (.k (.int .i64 0))⟩,
  ⟨(some 7), none, .mv (.k (.bool false))⟩]
def rGraphPlaceX1 : List O := [
  ⟨(some 11), none, .mv (.t 1)⟩,
  ⟨(some 12), none, .mv (.t 2)⟩,
  ⟨(some 13), none, .call nGraphEdge [(.t 11), (.t 12)]⟩,
  ⟨(some 8), none, .new [(.int .i64 0), (.int .i64 0)]⟩,
  ⟨none, none, .st 2 (.t 8) (.t 13)⟩]
def rGraphPlaceX2 : List O := [
  ⟨(some 15), none, .fad 1 (.t 3)⟩,
  ⟨(some 16), none, .ld none (.t 15)⟩,
  ⟨(some 17), none, .ld (some 2) (.t 8)⟩,
  ⟨(some 18), none, .call nSlicesBinarySearchFuncApiEdgeApiEdgeApiEdge [(.t 16), (.t 17), (.k (.func (.func nGraphOrder) [] []))]⟩,
  ⟨(some 14), none, .mv (.t 18)⟩,
  ⟨(some 19), none, .ext 0 (.t 14)⟩,
  ⟨(some 20), none, .ext 1 (.t 14)⟩,
  ⟨(some 9), none, .mv (.t 19)⟩,
  ⟨(some 10), none, .mv (.t 20)⟩]
def rGraphPlaceX3 : List O := [
  ⟨(some 21), none, .mv (.t 9)⟩,
  ⟨(some 22), none, .mv (.t 9)⟩,
  ⟨(some 23), none, .fad 1 (.t 3)⟩,
  ⟨(some 24), none, .ld none (.t 23)⟩,
  ⟨(some 25), none, .len (.t 24)⟩,
  ⟨(some 26), none, .bin .lss (.t 22) (.t 25)⟩,
  ⟨(some 27), none, .mv (.t 26)⟩,
  ⟨(some 28), (some (27, true)), .fad 1 (.t 3)⟩,
  ⟨(some 29), (some (27, true)), .ld none (.t 28)⟩,
  ⟨(some 30), (some (27, true)), .mv (.t 9)⟩,
  ⟨(some 31), (some (27, true)), .ixa 2 (.t 29) (.t 30)⟩,
  ⟨(some 32), (some (27, true)), .ld (some 2) (.t 31)⟩,
  ⟨(some 33), (some (27, true)), .ld (some 2) (.t 8)⟩,
  ⟨(some 34), (some (27, true)), .eq false (.str [true, true]) (.t 32) (.t 33)⟩,
  ⟨(some 35), none, .pick (.t 27) (.t 34) (.k (.bool false))⟩,
  ⟨(some 6), none, .mv (.t 21)⟩,
  ⟨(some 7), none, .mv (.t 35)⟩]
def cGraphPlace : C := (.seq (.reg rGraphPlaceX0 false [] [1, 2, 3]) (.seq (.reg rGraphPlaceX1 false [] [3, 8]) (.seq (.reg rGraphPlaceX2 false [] [3, 8, 9]) (.seq (.reg rGraphPlaceX3 true [(16, 16), (0, 3), (1, 3), (0, 8), (8, 9), (0, 11), (0, 12), (7, 12), (8, 12), (9, 12), (10, 12), (11, 12), (8, 15), (11, 15), (12, 15)] [6, 7]) .ret))))
def qGraphPlace : AFn := ⟨36, 3, [.t 6, .t 7], cGraphPlace⟩
/- slices.Insert[[]cohesion/api.Edge,cohesion/api.Edge] -/
def rSlicesInsertApiEdgeApiEdgeX0 : List O := [
  ⟨(some 6), none, .mv (.k (.own 2 []))⟩]
def rSlicesInsertApiEdgeApiEdgeX1 : List O := [
  ⟨(some 10), none, .mv (.t 0)⟩,
  ⟨(some 11), none, .mv (.t 1)⟩,
  ⟨(some 12), none, .slc 2 (.t 10) (some (.t 11)) none⟩]
def rSlicesInsertApiEdgeApiEdgeX2 : List O := [
  ⟨(some 13), none, .mv (.t 2)⟩,
  ⟨(some 14), none, .len (.t 13)⟩,
  ⟨(some 7), none, .mv (.t 14)⟩]
def rSlicesInsertApiEdgeApiEdgeX3 : List O := [
  ⟨(some 15), none, .mv (.t 7)⟩,
  ⟨(some 16), none, .bin .eql (.t 15) (.k (.int .i64 0))⟩]
def rSlicesInsertApiEdgeApiEdgeX4 : List O := [
  ⟨(some 17), none, .mv (.t 0)⟩,
  ⟨(some 6), none, .mv (.t 17)⟩]
def rSlicesInsertApiEdgeApiEdgeX5 : List O := [
  ⟨(some 18), none, .mv (.t 0)⟩,
  ⟨(some 19), none, .len (.t 18)⟩,
  ⟨(some 8), none, .mv (.t 19)⟩]
def rSlicesInsertApiEdgeApiEdgeX6 : List O := [
  ⟨(some 20), none, .mv (.t 1)⟩,
  ⟨(some 21), none, .mv (.t 8)⟩,
  ⟨(some 22), none, .bin .eql (.t 20) (.t 21)⟩]
def rSlicesInsertApiEdgeApiEdgeX7 : List O := [
  ⟨(some 23), none, .mv (.t 0)⟩,
  ⟨(some 24), none, .mv (.t 2)⟩,
  ⟨(some 25), none, .app 2 (.t 23) (.t 24)⟩,
  ⟨(some 6), none, .mv (.t 25)⟩]
def rSlicesInsertApiEdgeApiEdgeX8 : List O := [
  ⟨(some 26), none, .mv (.t 8)⟩,
  ⟨(some 27), none, .mv (.t 7)⟩,
  ⟨(some 28), none, .bin .add (.t 26) (.t 27)⟩,
  ⟨(some 29), none, .mv (.t 0)⟩,
  ⟨(some 30), none, .bad⟩,
  ⟨(some 31), none, .bin .gtr (.t 28) (.t 30)⟩]
def rSlicesInsertApiEdgeApiEdgeX9 : List O := [
  ⟨(some 32), none, .mv (.t 0)⟩,
  ⟨(some 33), none, .mv (.t 1)⟩,
  ⟨(some 34), none, .slc 2 (.t 32) none (some (.t 33))⟩,
  ⟨(some 35), none, .mv (.t 8)⟩,
  ⟨(some 36), none, .mv (.t 7)⟩,
  ⟨(some 37), none, .bin .add (.t 35) (.t 36)⟩,
  ⟨(some 38), none, .mv (.t 1)⟩,
  ⟨(some 39), none, .bin .sub (.t 37) (.t 38)⟩,
  ⟨(some 40), none, .bad⟩,
  ⟨(some 9), none, .mv (.t 40)⟩]
def rSlicesInsertApiEdgeApiEdgeX10 : List O := [
  ⟨(some 41), none, .mv (.t 9)⟩,
  ⟨(some 42), none, .mv (.t 1)⟩,
  ⟨(some 43), none, .slc 2 (.t 41) (some (.t 42)) none⟩,
  ⟨(some 44), none, .mv (.t 2)⟩,
  ⟨(some 45), none, .bad⟩]
def rSlicesInsertApiEdgeApiEdgeX11 : List O := [
  ⟨(some 46), none, .mv (.t 9)⟩,
  ⟨(some 47), none, .mv (.t 1)⟩,
  ⟨(some 48), none, .mv (.t 7)⟩,
  ⟨(some 49), none, .bin .add (.t 47) (.t 48)⟩,
  ⟨(some 50), none, .slc 2 (.t 46) (some (.t 49)) none⟩,
  ⟨(some 51), none, .mv (.t 0)⟩,
  ⟨(some 52), none, .mv (.t 1)⟩,
  ⟨(some 53), none, .slc 2 (.t 51) (some (.t 52)) none⟩,
  ⟨(some 54), none, .bad⟩]
def rSlicesInsertApiEdgeApiEdgeX12 : List O := [
  ⟨(some 55), none, .mv (.t 9)⟩,
  ⟨(some 6), none, .mv (.t 55)⟩]
def rSlicesInsertApiEdgeApiEdgeX13 : List O := [
  ⟨(some 56), none, .mv (.t 0)⟩,
  ⟨(some 57), none, .mv (.t 8)⟩,
  ⟨(some 58), none, .mv (.t 7)⟩,
  ⟨(some 59), none, .bin .add (.t 57) (.t 58)⟩,
  ⟨(some 60), none, .slc 2 (.t 56) none (some (.t 59))⟩,
  ⟨(some 0), none, .mv (.t 60)⟩]
def rSlicesInsertApiEdgeApiEdgeX14 : List O := [
  ⟨(some 61), none, .mv (.t 2)⟩,
  ⟨(some 62), none, .mv (.t 0)⟩,
  ⟨(some 63), none, .mv (.t 1)⟩,
  ⟨(some 64), none, .mv (.t 7)⟩,
  ⟨(some 65), none, .bin .add (.t 63) (.t 64)⟩,
  ⟨(some 66), none, .slc 2 (.t 62) (some (.t 65)) none⟩,
  ⟨(some 67), none, .call 53 [(.t 61), (.t 66)]⟩,
  ⟨(some 68), none, .un .not (.t 67)⟩]
def rSlicesInsertApiEdgeApiEdgeX15 : List O := [
  ⟨(some 69), none, .mv (.t 0)⟩,
  ⟨(some 70), none, .mv (.t 1)⟩,
  ⟨(some 71), none, .mv (.t 7)⟩,
  ⟨(some 72), none, .bin .add (.t 70) (.t 71)⟩,
  ⟨(some 73), none, .slc 2 (.t 69) (some (.t 72)) none⟩,
  ⟨(some 74), none, .mv (.t 0)⟩,
  ⟨(some 75), none, .mv (.t 1)⟩,
  ⟨(some 76), none, .slc 2 (.t 74) (some (.t 75)) none⟩,
  ⟨(some 77), none, .bad⟩]
def rSlicesInsertApiEdgeApiEdgeX16 : List O := [
  ⟨(some 78), none, .mv (.t 0)⟩,
  ⟨(some 79), none, .mv (.t 1)⟩,
  ⟨(some 80), none, .slc 2 (.t 78) (some (.t 79)) none⟩,
  ⟨(some 81), none, .mv (.t 2)⟩,
  ⟨(some 82), none, .bad⟩]
def rSlicesInsertApiEdgeApiEdgeX17 : List O := [
  ⟨(some 83), none, .mv (.t 0)⟩,
  ⟨(some 6), none, .mv (.t 83)⟩]
def rSlicesInsertApiEdgeApiEdgeX18 : List O := [
  ⟨(some 84), none, .mv (.t 0)⟩,
  ⟨(some 85), none, .mv (.t 8)⟩,
  ⟨(some 86), none, .slc 2 (.t 84) (some (.t 85)) none⟩,
  ⟨(some 87), none, .mv (.t 2)⟩,
  ⟨(some 88), none, .bad⟩]
def rSlicesInsertApiEdgeApiEdgeX19 : List O := [
  ⟨(some 89), none, .mv (.t 0)⟩,
  ⟨(some 90), none, .mv (.t 1)⟩,
  ⟨(some 91), none, .slc 2 (.t 89) (some (.t 90)) none⟩,
  ⟨(some 92), none, .mv (.t 7)⟩,
  ⟨(some 93), none, .call 54 [(.t 91), (.t 92)]⟩]
def rSlicesInsertApiEdgeApiEdgeX20 : List O := [
  ⟨(some 94), none, .mv (.t 0)⟩,
  ⟨(some 6), none, .mv (.t 94)⟩]
def cSlicesInsertApiEdgeApiEdge : C := (.seq (.reg rSlicesInsertApiEdgeApiEdgeX0 false [] [0, 1, 2]) (.seq (.reg rSlicesInsertApiEdgeApiEdgeX1 false [] [0, 1, 2]) (.seq (.reg rSlicesInsertApiEdgeApiEdgeX2 false [] [0, 1, 2, 7]) (.seq (.seq (.reg rSlicesInsertApiEdgeApiEdgeX3 false [] [0, 1, 2, 7, 16]) (.cond (.t 16) (.seq (.reg rSlicesInsertApiEdgeApiEdgeX4 false [] [6]) .ret) .skip)) (.seq (.reg rSlicesInsertApiEdgeApiEdgeX5 false [] [0, 1, 2, 7, 8]) (.seq (.seq (.reg rSlicesInsertApiEdgeApiEdgeX6 false [] [0, 1, 2, 7, 8, 22]) (.cond (.t 22) (.seq (.reg rSlicesInsertApiEdgeApiEdgeX7 false [] [6]) .ret) .skip)) (.seq (.seq (.reg rSlicesInsertApiEdgeApiEdgeX8 false [] [0, 1, 2, 7, 8, 31]) (.cond (.t 31) (.seq (.reg rSlicesInsertApiEdgeApiEdgeX9 false [] [0, 1, 2, 7, 9]) (.seq (.reg rSlicesInsertApiEdgeApiEdgeX10 false [] [0, 1, 7, 9]) (.seq (.reg rSlicesInsertApiEdgeApiEdgeX11 true [(8, 8)] [9]) (.seq (.reg rSlicesInsertApiEdgeApiEdgeX12 false [] [6]) .ret)))) .skip)) (.seq (.reg rSlicesInsertApiEdgeApiEdgeX13 false [] [0, 1, 2, 7, 8]) (.seq (.seq (.reg rSlicesInsertApiEdgeApiEdgeX14 false [] [0, 1, 2, 7, 8, 68]) (.cond (.t 68) (.seq (.reg rSlicesInsertApiEdgeApiEdgeX15 true [(8, 8)] [0, 1, 2]) (.seq (.reg rSlicesInsertApiEdgeApiEdgeX16 false [] [0]) (.seq (.reg rSlicesInsertApiEdgeApiEdgeX17 false [] [6]) .ret))) .skip)) (.seq (.reg rSlicesInsertApiEdgeApiEdgeX18 false [] [0, 1, 7]) (.seq (.reg rSlicesInsertApiEdgeApiEdgeX19 false [] [0]) (.seq (.reg rSlicesInsertApiEdgeApiEdgeX20 false [] [6]) .ret))))))))))))
def qSlicesInsertApiEdgeApiEdge : AFn := ⟨95, 3, [.t 6], cSlicesInsertApiEdgeApiEdge⟩
/- slices.Clone[[]cohesion/api.Edge,cohesion/api.Edge] -/
def rSlicesCloneApiEdgeApiEdgeX0 : List O := [
  ⟨(some 2), none, .mv (.k (.own 2 []))⟩]
def rSlicesCloneApiEdgeApiEdgeX1 : List O := [
  ⟨(some 3), none, .mv (.t 0)⟩,
  ⟨(some 4), none, .eq false .nsl (.t 3) (.k (.own 2 []))⟩]
def rSlicesCloneApiEdgeApiEdgeX2 : List O := [
  ⟨(some 2), none, .mv (.k (.own 2 []))⟩]
def rSlicesCloneApiEdgeApiEdgeX3 : List O := [
  ⟨(some 5), none, .bslice 2 0 [(.int .i64 0), (.int .i64 0)] []⟩,
  ⟨(some 6), none, .mv (.t 0)⟩,
  ⟨(some 7), none, .app 2 (.t 5) (.t 6)⟩,
  ⟨(some 2), none, .mv (.t 7)⟩]
def cSlicesCloneApiEdgeApiEdge : C := (.seq (.reg rSlicesCloneApiEdgeApiEdgeX0 false [] [0]) (.seq (.seq (.reg rSlicesCloneApiEdgeApiEdgeX1 false [] [0, 4]) (.cond (.t 4) (.seq (.reg rSlicesCloneApiEdgeApiEdgeX2 false [] [2]) .ret) .skip)) (.seq (.reg rSlicesCloneApiEdgeApiEdgeX3 false [] [2]) .ret)))
def qSlicesCloneApiEdgeApiEdge : AFn := ⟨8, 1, [.t 2], cSlicesCloneApiEdgeApiEdge⟩
/- cohesion/graph.edge -/
def rGraphEdgeX0 : List O := [
  ⟨(some 4), none, .new [(.int .i64 0), (.int .i64 0)]⟩]
def rGraphEdgeX1 : List O := [
  ⟨(some 5), none, .mv (.t 0)⟩,
  ⟨(some 6), none, .mv (.t 1)⟩,
  ⟨(some 7), none, .min [(.t 5), (.t 6)]⟩,
  ⟨(some 8), none, .mv (.t 0)⟩,
  ⟨(some 9), none, .mv (.t 1)⟩,
  ⟨(some 10), none, .max [(.t 8), (.t 9)]⟩,
  ⟨(some 11), none, .build [(.int .i64 0), (.int .i64 0)] [(0, 1, (.t 7)), (1, 1, (.t 10))]⟩,
  ⟨none, none, .st 2 (.t 4) (.t 11)⟩]
def cGraphEdge : C := (.seq (.reg rGraphEdgeX0 false [] [0, 1, 4]) (.seq (.reg rGraphEdgeX1 false [] [4]) .ret))
def qGraphEdge : AFn := ⟨12, 2, [.c 4 (some 2)], cGraphEdge⟩
/- cohesion/graph.Check -/
def rGraphCheckX0 : List O := [
  ⟨(some 1), none, .box (.t 0)⟩,
  ⟨(some 2), none, .mv (.k (.int .i64 0))⟩]
def rGraphCheckX1 : List O := [
  ⟨(some 5), none, .fad 0 (.t 1)⟩,
  ⟨(some 6), none, .ld none (.t 5)⟩,
  ⟨(some 7), none, .bin .lss (.t 6) (.k (.int .i64 0))⟩,
  ⟨(some 8), none, .mv (.t 7)⟩,
  ⟨(some 9), (some (8, false)), .fad 0 (.t 1)⟩,
  ⟨(some 10), (some (8, false)), .ld none (.t 9)⟩,
  ⟨(some 11), (some (8, false)), .bin .gtr (.t 10) (.k (.int .i64 64))⟩,
  ⟨(some 12), none, .pick (.t 8) (.k (.bool true)) (.t 11)⟩]
def rGraphCheckX2 : List O := [
  ⟨(some 2), none, .mv (.k (.int .i64 1))⟩]
def rGraphCheckX3 : List O := [
  ⟨(some 13), none, .fad 1 (.t 1)⟩,
  ⟨(some 14), none, .ld none (.t 13)⟩,
  ⟨(some 15), none, .len (.t 14)⟩,
  ⟨(some 16), none, .mv (.k (.int .i64 0))⟩]
def rGraphCheckX4 : List O := [
  ⟨(some 17), none, .bin .lss (.t 16) (.t 15)⟩]
def rGraphCheckX5 : List O := [
  ⟨(some 18), none, .mv (.t 16)⟩,
  ⟨(some 19), none, .ixa 2 (.t 14) (.t 16)⟩,
  ⟨(some 20), none, .ld (some 2) (.t 19)⟩,
  ⟨(some 4), none, .new [(.int .i64 0), (.int .i64 0)]⟩,
  ⟨(some 3), none, .mv (.t 18)⟩,
  ⟨none, none, .st 2 (.t 4) (.t 20)⟩]
def rGraphCheckX6 : List O := [
  ⟨(some 22), none, .fad 0 (.t 4)⟩,
  ⟨(some 23), none, .ld none (.t 22)⟩,
  ⟨(some 24), none, .bin .lss (.t 23) (.k (.int .i64 0))⟩,
  ⟨(some 25), none, .mv (.t 24)⟩,
  ⟨(some 26), (some (25, false)), .fad 0 (.t 4)⟩,
  ⟨(some 27), (some (25, false)), .ld none (.t 26)⟩,
  ⟨(some 28), (some (25, false)), .fad 1 (.t 4)⟩,
  ⟨(some 29), (some (25, false)), .ld none (.t 28)⟩,
  ⟨(some 30), (some (25, false)), .bin .geq (.t 27) (.t 29)⟩,
  ⟨(some 31), none, .pick (.t 25) (.k (.bool true)) (.t 30)⟩,
  ⟨(some 32), none, .mv (.t 31)⟩,
  ⟨(some 33), (some (32, false)), .fad 1 (.t 4)⟩,
  ⟨(some 34), (some (32, false)), .ld none (.t 33)⟩,
  ⟨(some 35), (some (32, false)), .fad 0 (.t 1)⟩,
  ⟨(some 36), (some (32, false)), .ld none (.t 35)⟩,
  ⟨(some 37), (some (32, false)), .bin .geq (.t 34) (.t 36)⟩,
  ⟨(some 38), none, .pick (.t 32) (.k (.bool true)) (.t 37)⟩,
  ⟨(some 21), none, .mv (.t 38)⟩]
def rGraphCheckX7 : List O := [
  ⟨(some 2), none, .mv (.k (.int .i64 6))⟩]
def rGraphCheckX8 : List O := [
  ⟨(some 40), none, .mv (.t 3)⟩,
  ⟨(some 41), none, .bin .gtr (.t 40) (.k (.int .i64 0))⟩,
  ⟨(some 42), none, .mv (.t 41)⟩,
  ⟨(some 43), (some (42, true)), .fad 1 (.t 1)⟩,
  ⟨(some 44), (some (42, true)), .ld none (.t 43)⟩,
  ⟨(some 45), (some (42, true)), .mv (.t 3)⟩,
  ⟨(some 46), (some (42, true)), .bin .sub (.t 45) (.k (.int .i64 1))⟩,
  ⟨(some 47), (some (42, true)), .ixa 2 (.t 44) (.t 46)⟩,
  ⟨(some 48), (some (42, true)), .ld (some 2) (.t 47)⟩,
  ⟨(some 49), (some (42, true)), .ld (some 2) (.t 4)⟩,
  ⟨(some 50), (some (42, true)), .call nGraphOrder [(.t 48), (.t 49)]⟩,
  ⟨(some 51), (some (42, true)), .bin .geq (.t 50) (.k (.int .i64 0))⟩,
  ⟨(some 52), none, .pick (.t 42) (.t 51) (.k (.bool false))⟩,
  ⟨(some 39), none, .mv (.t 52)⟩]
def rGraphCheckX9 : List O := [
  ⟨(some 2), none, .mv (.k (.int .i64 5))⟩]
def rGraphCheckX10 : List O := [
  ⟨(some 53), none, .bin .add (.t 16) (.k (.int .i64 1))⟩,
  ⟨(some 16), none, .mv (.t 53)⟩]
def lGraphCheckX0 : C := (.seq (.reg rGraphCheckX4 false [] [1, 14, 15, 16, 17]) (.seq (.cond (.t 17) .skip (.exit 0)) (.seq (.blk 1 (.seq (.reg rGraphCheckX5 false [] [1, 3, 4, 14, 15, 16]) (.blk 2 (.seq (.reg rGraphCheckX6 false [] [1, 3, 4, 14, 15, 16, 21]) (.cond (.t 21) (.seq (.reg rGraphCheckX7 false [] [2]) .ret) (.seq (.reg rGraphCheckX8 true [(0, 0), (1, 1), (2, 2), (10, 10), (11, 11), (12, 12), (13, 13), (4, 5), (4, 6), (3, 9), (4, 9), (5, 9), (6, 9), (7, 9), (8, 9)] [1, 14, 15, 16, 39]) (.cond (.t 39) (.seq (.reg rGraphCheckX9 false [] [2]) .ret) .skip))))))) (.reg rGraphCheckX10 false [] [1, 14, 15, 16]))))
def rGraphCheckX11 : List O := [
  ⟨(some 2), none, .mv (.k (.int .i64 0))⟩]
def cGraphCheck : C := (.seq (.reg rGraphCheckX0 false [] [1]) (.seq (.seq (.reg rGraphCheckX1 false [] [1, 12]) (.cond (.t 12) (.seq (.reg rGraphCheckX2 false [] [2]) .ret) .skip)) (.seq (.seq (.reg rGraphCheckX3 false [] [1, 14, 15, 16]) (.blk 0 (.loop lGraphCheckX0))) (.seq (.reg rGraphCheckX11 false [] [2]) .ret))))
def qGraphCheck : AFn := ⟨54, 1, [.t 2], cGraphCheck⟩
/- cohesion/cliques.each -/
def rCliquesEachX0 : List O := [
  ⟨(some 3), none, .box (.t 0)⟩,
  ⟨(some 4), none, .box (.t 1)⟩,
  ⟨(some 5), none, .box (.t 2)⟩]
def rCliquesEachX1 : List O := [
  ⟨(some 9), none, .ld (some 2) (.t 3)⟩,
  ⟨(some 10), none, .call nCliquesMasks [(.t 9)]⟩,
  ⟨(some 6), none, .new [(.own 1 [])]⟩,
  ⟨none, none, .st 1 (.t 6) (.t 10)⟩]
def rCliquesEachX2 : List O := [
  ⟨(some 7), none, .new [(.own 1 [])]⟩]
def rCliquesEachX3 : List O := [
  ⟨(some 8), none, .new [.nilf]⟩]
def rCliquesEachX4 : List O := [
  ⟨(some 11), none, .mkf (.func nCliquesEach1) [] [(.t 7), (.t 4), (.t 5), (.t 6), (.t 8)]⟩,
  ⟨none, none, .st 1 (.t 8) (.t 11)⟩]
def rCliquesEachX5 : List O := [
  ⟨(some 12), none, .ld none (.t 8)⟩,
  ⟨(some 13), none, .fad 0 (.t 3)⟩,
  ⟨(some 14), none, .ld none (.t 13)⟩,
  ⟨(some 15), none, .call nCliquesAllN56 [(.t 14)]⟩,
  ⟨(some 16), none, .callv (.t 12) [(.t 15), (.k (.int .u64 0)), (.k (.bool true))]⟩]
def cCliquesEach : C := (.seq (.reg rCliquesEachX0 false [] [3, 4, 5]) (.seq (.reg rCliquesEachX1 false [] [3, 4, 5, 6]) (.seq (.reg rCliquesEachX2 false [] [3, 4, 5, 6, 7]) (.seq (.reg rCliquesEachX3 false [] [3, 4, 5, 6, 7, 8]) (.seq (.reg rCliquesEachX4 false [] [3, 8]) (.reg rCliquesEachX5 true [(4, 4), (0, 1), (0, 2), (0, 3)] []))))))
def qCliquesEach : AFn := ⟨17, 3, [], cCliquesEach⟩
/- cohesion/cliques.All$1 -/
def rCliquesAll1X0 : List O := [
  ⟨(some 4), none, .mv (.k (.bool false))⟩]
def rCliquesAll1X1 : List O := [
  ⟨(some 5), none, .ld none (.t 1)⟩,
  ⟨(some 6), none, .mv (.t 0)⟩,
  ⟨(some 7), none, .bslice 1 1 [(.own 1 [])] [(0, 1, (.t 6))]⟩,
  ⟨(some 8), none, .app 1 (.t 5) (.t 7)⟩,
  ⟨none, none, .st 1 (.t 1) (.t 8)⟩]
def rCliquesAll1X2 : List O := [
  ⟨(some 9), none, .ld none (.t 1)⟩,
  ⟨(some 10), none, .len (.t 9)⟩,
  ⟨(some 11), none, .ld none (.t 2)⟩,
  ⟨(some 12), none, .bin .leq (.t 10) (.t 11)⟩,
  ⟨(some 4), none, .mv (.t 12)⟩]
def cCliquesAll1 : C := (.seq (.reg rCliquesAll1X0 false [] [0, 1, 2]) (.seq (.reg rCliquesAll1X1 false [] [1, 2]) (.seq (.reg rCliquesAll1X2 false [] [4]) .ret)))
def qCliquesAll1 : AFn := ⟨13, 1, [.t 4], cCliquesAll1⟩
/- cohesion/cliques.common -/
def rCliquesCommonX0 : List O := [
  ⟨(some 4), none, .mv (.k (.int .u64 0))⟩]
def rCliquesCommonX1 : List O := [
  ⟨(some 8), none, .mv (.t 0)⟩,
  ⟨(some 9), none, .len (.t 8)⟩,
  ⟨(some 10), none, .call nCliquesAllN56 [(.t 9)]⟩,
  ⟨(some 5), none, .mv (.t 10)⟩]
def rCliquesCommonX2 : List O := [
  ⟨(some 11), none, .mv (.t 1)⟩,
  ⟨(some 12), none, .len (.t 11)⟩,
  ⟨(some 13), none, .mv (.k (.int .i64 0))⟩]
def rCliquesCommonX3 : List O := [
  ⟨(some 14), none, .bin .lss (.t 13) (.t 12)⟩]
def rCliquesCommonX4 : List O := [
  ⟨(some 15), none, .ixa 1 (.t 11) (.t 13)⟩,
  ⟨(some 16), none, .ld none (.t 15)⟩,
  ⟨(some 7), none, .mv (.t 16)⟩]
def rCliquesCommonX5 : List O := [
  ⟨(some 17), none, .mv (.t 5)⟩,
  ⟨(some 18), none, .mv (.t 0)⟩,
  ⟨(some 19), none, .mv (.t 7)⟩,
  ⟨(some 20), none, .ixa 1 (.t 18) (.t 19)⟩,
  ⟨(some 21), none, .ld none (.t 20)⟩,
  ⟨(some 22), none, .bin .and (.t 17) (.t 21)⟩,
  ⟨(some 5), none, .mv (.t 22)⟩]
def rCliquesCommonX6 : List O := [
  ⟨(some 23), none, .bin .add (.t 13) (.k (.int .i64 1))⟩,
  ⟨(some 13), none, .mv (.t 23)⟩]
def lCliquesCommonX0 : C := (.seq (.reg rCliquesCommonX3 false [] [0, 5, 11, 12, 13, 14]) (.seq (.cond (.t 14) .skip (.exit 0)) (.seq (.blk 1 (.seq (.reg rCliquesCommonX4 false [] [0, 5, 7, 11, 12, 13]) (.reg rCliquesCommonX5 false [] [0, 5, 11, 12, 13]))) (.reg rCliquesCommonX6 false [] [0, 5, 11, 12, 13]))))
def rCliquesCommonX7 : List O := [
  ⟨(some 24), none, .mv (.t 5)⟩,
  ⟨(some 4), none, .mv (.t 24)⟩]
def cCliquesCommon : C := (.seq (.reg rCliquesCommonX0 false [] [0, 1]) (.seq (.reg rCliquesCommonX1 false [] [0, 1, 5]) (.seq (.seq (.reg rCliquesCommonX2 false [] [0, 5, 11, 12, 13]) (.blk 0 (.loop lCliquesCommonX0))) (.seq (.reg rCliquesCommonX7 false [] [4]) .ret))))
def qCliquesCommon : AFn := ⟨25, 2, [.t 4], cCliquesCommon⟩
/- cohesion/cliques.masks -/
def rCliquesMasksX0 : List O := [
  ⟨(some 1), none, .box (.t 0)⟩,
  ⟨(some 2), none, .mv (.k (.own 1 []))⟩]
def rCliquesMasksX1 : List O := [
  ⟨(some 6), none, .fad 0 (.t 1)⟩,
  ⟨(some 7), none, .ld none (.t 6)⟩,
  ⟨(some 8), none, .mks 1 [(.int .u64 0)] (.t 7) (.t 7)⟩,
  ⟨(some 3), none, .mv (.t 8)⟩]
def rCliquesMasksX2 : List O := [
  ⟨(some 9), none, .fad 1 (.t 1)⟩,
  ⟨(some 10), none, .ld none (.t 9)⟩,
  ⟨(some 11), none, .len (.t 10)⟩,
  ⟨(some 12), none, .mv (.k (.int .i64 0))⟩]
def rCliquesMasksX3 : List O := [
  ⟨(some 13), none, .bin .lss (.t 12) (.t 11)⟩]
def rCliquesMasksX4 : List O := [
  ⟨(some 14), none, .ixa 2 (.t 10) (.t 12)⟩,
  ⟨(some 15), none, .ld (some 2) (.t 14)⟩,
  ⟨(some 5), none, .new [(.int .i64 0), (.int .i64 0)]⟩,
  ⟨none, none, .st 2 (.t 5) (.t 15)⟩]
def rCliquesMasksX5 : List O := [
  ⟨(some 16), none, .mv (.t 3)⟩,
  ⟨(some 17), none, .fad 0 (.t 5)⟩,
  ⟨(some 18), none, .ld none (.t 17)⟩,
  ⟨(some 19), none, .ixa 1 (.t 16) (.t 18)⟩,
  ⟨(some 20), none, .ld none (.t 19)⟩,
  ⟨(some 21), none, .fad 1 (.t 5)⟩,
  ⟨(some 22), none, .ld none (.t 21)⟩,
  ⟨(some 23), none, .bin .shl (.k (.int .u64 1)) (.t 22)⟩,
  ⟨(some 24), none, .bin .or (.t 20) (.t 23)⟩,
  ⟨(some 25), none, .ixa 1 (.t 16) (.t 18)⟩,
  ⟨none, none, .st 1 (.t 25) (.t 24)⟩]
def rCliquesMasksX6 : List O := [
  ⟨(some 26), none, .mv (.t 3)⟩,
  ⟨(some 27), none, .fad 1 (.t 5)⟩,
  ⟨(some 28), none, .ld none (.t 27)⟩,
  ⟨(some 29), none, .ixa 1 (.t 26) (.t 28)⟩,
  ⟨(some 30), none, .ld none (.t 29)⟩,
  ⟨(some 31), none, .fad 0 (.t 5)⟩,
  ⟨(some 32), none, .ld none (.t 31)⟩,
  ⟨(some 33), none, .bin .shl (.k (.int .u64 1)) (.t 32)⟩,
  ⟨(some 34), none, .bin .or (.t 30) (.t 33)⟩,
  ⟨(some 35), none, .ixa 1 (.t 26) (.t 28)⟩,
  ⟨none, none, .st 1 (.t 35) (.t 34)⟩]
def rCliquesMasksX7 : List O := [
  ⟨(some 36), none, .bin .add (.t 12) (.k (.int .i64 1))⟩,
  ⟨(some 12), none, .mv (.t 36)⟩]
def lCliquesMasksX0 : C := (.seq (.reg rCliquesMasksX3 false [] [3, 10, 11, 12, 13]) (.seq (.cond (.t 13) .skip (.exit 0)) (.seq (.blk 1 (.seq (.reg rCliquesMasksX4 false [] [3, 5, 10, 11, 12]) (.seq (.reg rCliquesMasksX5 true [(8, 8), (9, 9), (10, 10), (0, 2), (2, 5), (4, 5), (0, 6), (1, 6), (2, 6), (3, 6), (4, 6), (2, 7), (4, 7)] [3, 5, 10, 11, 12]) (.reg rCliquesMasksX6 true [(8, 8), (9, 9), (10, 10), (0, 2), (2, 5), (4, 5), (0, 6), (1, 6), (2, 6), (3, 6), (4, 6), (2, 7), (4, 7)] [3, 10, 11, 12])))) (.reg rCliquesMasksX7 false [] [3, 10, 11, 12]))))
def rCliquesMasksX8 : List O := [
  ⟨(some 37), none, .mv (.t 3)⟩,
  ⟨(some 2), none, .mv (.t 37)⟩]
def cCliquesMasks : C := (.seq (.reg rCliquesMasksX0 false [] [1]) (.seq (.reg rCliquesMasksX1 false [] [1, 3]) (.seq (.seq (.reg rCliquesMasksX2 false [] [3, 10, 11, 12]) (.blk 0 (.loop lCliquesMasksX0))) (.seq (.reg rCliquesMasksX8 false [] [2]) .ret))))
def qCliquesMasks : AFn := ⟨38, 1, [.t 2], cCliquesMasks⟩
/- cohesion/graph.Ends -/
def rGraphEndsX0 : List O := [
  ⟨(some 6), none, .mv (.k (.bool false))⟩]
def rGraphEndsX1 : List O := [
  ⟨(some 7), none, .mv (.t 1)⟩,
  ⟨(some 8), none, .mv (.t 2)⟩,
  ⟨(some 9), none, .bin .neq (.t 7) (.t 8)⟩,
  ⟨(some 10), none, .mv (.t 9)⟩,
  ⟨(some 11), (some (10, true)), .mv (.t 1)⟩,
  ⟨(some 12), (some (10, true)), .mv (.t 2)⟩,
  ⟨(some 13), (some (10, true)), .min [(.t 11), (.t 12)]⟩,
  ⟨(some 14), (some (10, true)), .bin .geq (.t 13) (.k (.int .i64 0))⟩,
  ⟨(some 15), none, .pick (.t 10) (.t 14) (.k (.bool false))⟩,
  ⟨(some 16), none, .mv (.t 15)⟩,
  ⟨(some 17), (some (16, true)), .mv (.t 1)⟩,
  ⟨(some 18), (some (16, true)), .mv (.t 2)⟩,
  ⟨(some 19), (some (16, true)), .max [(.t 17), (.t 18)]⟩,
  ⟨(some 20), (some (16, true)), .mv (.t 0)⟩,
  ⟨(some 21), (some (16, true)), .bin .lss (.t 19) (.t 20)⟩,
  ⟨(some 22), none, .pick (.t 16) (.t 21) (.k (.bool false))⟩,
  ⟨(some 6), none, .mv (.t 22)⟩]
def cGraphEnds : C := (.seq (.reg rGraphEndsX0 false [] [0, 1, 2]) (.seq (.reg rGraphEndsX1 false [] [6]) .ret))
def qGraphEnds : AFn := ⟨23, 3, [.t 6], cGraphEnds⟩
/- cohesion/graph.Order -/
def rGraphOrderX0 : List O := [
  ⟨(some 2), none, .box (.t 0)⟩,
  ⟨(some 3), none, .box (.t 1)⟩,
  ⟨(some 4), none, .mv (.k (.int .i64 0))⟩]
def rGraphOrderX1 : List O := [
  ⟨(some 5), none, .fad 0 (.t 2)⟩,
  ⟨(some 6), none, .ld none (.t 5)⟩,
  ⟨(some 7), none, .fad 0 (.t 3)⟩,
  ⟨(some 8), none, .ld none (.t 7)⟩,
  ⟨(some 9), none, .call nCmpCompareInt [(.t 6), (.t 8)]⟩,
  ⟨(some 10), none, .fad 1 (.t 2)⟩,
  ⟨(some 11), none, .ld none (.t 10)⟩,
  ⟨(some 12), none, .fad 1 (.t 3)⟩,
  ⟨(some 13), none, .ld none (.t 12)⟩,
  ⟨(some 14), none, .call nCmpCompareInt [(.t 11), (.t 13)]⟩,
  ⟨(some 15), none, .bslice 1 2 [(.int .i64 0)] [(0, 1, (.t 9)), (1, 1, (.t 14))]⟩,
  ⟨(some 16), none, .call nCmpOrInt [(.t 15)]⟩,
  ⟨(some 4), none, .mv (.t 16)⟩]
def cGraphOrder : C := (.seq (.reg rGraphOrderX0 false [] [2, 3]) (.seq (.reg rGraphOrderX1 true [(9, 9), (10, 10), (11, 11), (12, 12), (1, 2), (0, 3), (1, 3), (1, 5), (3, 5), (4, 5), (0, 6), (1, 6), (2, 6), (3, 6), (4, 6), (1, 7), (3, 7), (4, 7), (6, 7), (0, 8), (1, 8), (2, 8), (3, 8), (4, 8), (5, 8), (6, 8)] [4]) .ret))
def qGraphOrder : AFn := ⟨17, 2, [.t 4], cGraphOrder⟩
/- cohesion/nodeset.Valid -/
def rNodesetValidX0 : List O := [
  ⟨(some 4), none, .mv (.k (.bool false))⟩]
def rNodesetValidX1 : List O := [
  ⟨(some 7), none, .mv (.t 0)⟩,
  ⟨(some 8), none, .len (.t 7)⟩,
  ⟨(some 9), none, .mv (.k (.int .i64 0))⟩]
def rNodesetValidX2 : List O := [
  ⟨(some 10), none, .bin .lss (.t 9) (.t 8)⟩]
def rNodesetValidX3 : List O := [
  ⟨(some 11), none, .mv (.t 9)⟩,
  ⟨(some 12), none, .ixa 1 (.t 7) (.t 9)⟩,
  ⟨(some 13), none, .ld none (.t 12)⟩,
  ⟨(some 5), none, .mv (.t 11)⟩,
  ⟨(some 6), none, .mv (.t 13)⟩]
def rNodesetValidX4 : List O := [
  ⟨(some 14), none, .mv (.t 6)⟩,
  ⟨(some 15), none, .bin .lss (.t 14) (.k (.int .i64 0))⟩,
  ⟨(some 16), none, .mv (.t 15)⟩,
  ⟨(some 17), (some (16, false)), .mv (.t 6)⟩,
  ⟨(some 18), (some (16, false)), .mv (.t 1)⟩,
  ⟨(some 19), (some (16, false)), .bin .geq (.t 17) (.t 18)⟩,
  ⟨(some 20), none, .pick (.t 16) (.k (.bool true)) (.t 19)⟩,
  ⟨(some 21), none, .mv (.t 20)⟩,
  ⟨(some 22), (some (21, false)), .mv (.t 5)⟩,
  ⟨(some 23), (some (21, false)), .bin .gtr (.t 22) (.k (.int .i64 0))⟩,
  ⟨(some 24), (some (21, false)), .mv (.t 23)⟩,
  ⟨(some 25), (some (24, true)), .mv (.t 0)⟩,
  ⟨(some 26), (some (24, true)), .mv (.t 5)⟩,
  ⟨(some 27), (some (24, true)), .bin .sub (.t 26) (.k (.int .i64 1))⟩,
  ⟨(some 28), (some (24, true)), .ixa 1 (.t 25) (.t 27)⟩,
  ⟨(some 29), (some (24, true)), .ld none (.t 28)⟩,
  ⟨(some 30), (some (24, true)), .mv (.t 6)⟩,
  ⟨(some 31), (some (24, true)), .bin .geq (.t 29) (.t 30)⟩,
  ⟨(some 32), (some (21, false)), .pick (.t 24) (.t 31) (.k (.bool false))⟩,
  ⟨(some 33), none, .pick (.t 21) (.k (.bool true)) (.t 32)⟩]
def rNodesetValidX5 : List O := [
  ⟨(some 4), none, .mv (.k (.bool false))⟩]
def rNodesetValidX6 : List O := [
  ⟨(some 34), none, .bin .add (.t 9) (.k (.int .i64 1))⟩,
  ⟨(some 9), none, .mv (.t 34)⟩]
def lNodesetValidX0 : C := (.seq (.reg rNodesetValidX2 false [] [0, 1, 7, 8, 9, 10]) (.seq (.cond (.t 10) .skip (.exit 0)) (.seq (.blk 1 (.seq (.reg rNodesetValidX3 false [] [0, 1, 5, 6, 7, 8, 9]) (.seq (.reg rNodesetValidX4 false [] [0, 1, 7, 8, 9, 33]) (.cond (.t 33) (.seq (.reg rNodesetValidX5 false [] [4]) .ret) .skip)))) (.reg rNodesetValidX6 false [] [0, 1, 7, 8, 9]))))
def rNodesetValidX7 : List O := [
  ⟨(some 4), none, .mv (.k (.bool true))⟩]
def cNodesetValid : C := (.seq (.reg rNodesetValidX0 false [] [0, 1]) (.seq (.seq (.reg rNodesetValidX1 false [] [0, 1, 7, 8, 9]) (.blk 0 (.loop lNodesetValidX0))) (.seq (.reg rNodesetValidX7 false [] [4]) .ret)))
def qNodesetValid : AFn := ⟨35, 2, [.t 4], cNodesetValid⟩
/- cohesion/cliques.clique -/
def rCliquesCliqueX0 : List O := [
  ⟨(some 4), none, .mv (.k (.bool false))⟩]
def rCliquesCliqueX1 : List O := [
  ⟨(some 9), none, .mv (.t 1)⟩,
  ⟨(some 10), none, .len (.t 9)⟩,
  ⟨(some 11), none, .mv (.k (.int .i64 0))⟩]
def rCliquesCliqueX2 : List O := [
  ⟨(some 12), none, .bin .lss (.t 11) (.t 10)⟩]
def rCliquesCliqueX3 : List O := [
  ⟨(some 13), none, .mv (.t 11)⟩,
  ⟨(some 14), none, .ixa 1 (.t 9) (.t 11)⟩,
  ⟨(some 15), none, .ld none (.t 14)⟩,
  ⟨(some 5), none, .mv (.t 13)⟩,
  ⟨(some 6), none, .mv (.t 15)⟩]
def rCliquesCliqueX4 : List O := [
  ⟨(some 16), none, .mv (.t 1)⟩,
  ⟨(some 17), none, .mv (.t 5)⟩,
  ⟨(some 18), none, .slc 1 (.t 16) none (some (.t 17))⟩,
  ⟨(some 19), none, .len (.t 18)⟩,
  ⟨(some 20), none, .mv (.k (.int .i64 0))⟩]
def rCliquesCliqueX5 : List O := [
  ⟨(some 21), none, .bin .lss (.t 20) (.t 19)⟩]
def rCliquesCliqueX6 : List O := [
  ⟨(some 22), none, .ixa 1 (.t 18) (.t 20)⟩,
  ⟨(some 23), none, .ld none (.t 22)⟩,
  ⟨(some 8), none, .mv (.t 23)⟩]
def rCliquesCliqueX7 : List O := [
  ⟨(some 24), none, .mv (.t 0)⟩,
  ⟨(some 25), none, .mv (.t 6)⟩,
  ⟨(some 26), none, .ixa 1 (.t 24) (.t 25)⟩,
  ⟨(some 27), none, .ld none (.t 26)⟩,
  ⟨(some 28), none, .mv (.t 8)⟩,
  ⟨(some 29), none, .bin .shr (.t 27) (.t 28)⟩,
  ⟨(some 30), none, .bin .and (.t 29) (.k (.int .u64 1))⟩,
  ⟨(some 31), none, .bin .eql (.t 30) (.k (.int .u64 0))⟩]
def rCliquesCliqueX8 : List O := [
  ⟨(some 4), none, .mv (.k (.bool false))⟩]
def rCliquesCliqueX9 : List O := [
  ⟨(some 32), none, .bin .add (.t 20) (.k (.int .i64 1))⟩,
  ⟨(some 20), none, .mv (.t 32)⟩]
def lCliquesCliqueX0 : C := (.seq (.reg rCliquesCliqueX5 false [] [0, 1, 6, 9, 10, 11, 18, 19, 20, 21]) (.seq (.cond (.t 21) .skip (.exit 2)) (.seq (.blk 3 (.seq (.reg rCliquesCliqueX6 false [] [0, 1, 6, 8, 9, 10, 11, 18, 19, 20]) (.seq (.reg rCliquesCliqueX7 false [] [0, 1, 6, 9, 10, 11, 18, 19, 20, 31]) (.cond (.t 31) (.seq (.reg rCliquesCliqueX8 false [] [4]) .ret) .skip)))) (.reg rCliquesCliqueX9 false [] [0, 1, 6, 9, 10, 11, 18, 19, 20]))))
def rCliquesCliqueX10 : List O := [
  ⟨(some 33), none, .bin .add (.t 11) (.k (.int .i64 1))⟩,
  ⟨(some 11), none, .mv (.t 33)⟩]
def lCliquesCliqueX1 : C := (.seq (.reg rCliquesCliqueX2 false [] [0, 1, 9, 10, 11, 12]) (.seq (.cond (.t 12) .skip (.exit 0)) (.seq (.blk 1 (.seq (.reg rCliquesCliqueX3 false [] [0, 1, 5, 6, 9, 10, 11]) (.seq (.reg rCliquesCliqueX4 false [] [0, 1, 6, 9, 10, 11, 18, 19, 20]) (.blk 2 (.loop lCliquesCliqueX0))))) (.reg rCliquesCliqueX10 false [] [0, 1, 9, 10, 11]))))
def rCliquesCliqueX11 : List O := [
  ⟨(some 4), none, .mv (.k (.bool true))⟩]
def cCliquesClique : C := (.seq (.reg rCliquesCliqueX0 false [] [0, 1]) (.seq (.seq (.reg rCliquesCliqueX1 false [] [0, 1, 9, 10, 11]) (.blk 0 (.loop lCliquesCliqueX1))) (.seq (.reg rCliquesCliqueX11 false [] [4]) .ret)))
def qCliquesClique : AFn := ⟨34, 2, [.t 4], cCliquesClique⟩
/- slices.Clone[[]int,int] -/
def rSlicesCloneIntIntX0 : List O := [
  ⟨(some 2), none, .mv (.k (.own 1 []))⟩]
def rSlicesCloneIntIntX1 : List O := [
  ⟨(some 3), none, .mv (.t 0)⟩,
  ⟨(some 4), none, .eq false .nsl (.t 3) (.k (.own 1 []))⟩]
def rSlicesCloneIntIntX2 : List O := [
  ⟨(some 2), none, .mv (.k (.own 1 []))⟩]
def rSlicesCloneIntIntX3 : List O := [
  ⟨(some 5), none, .bslice 1 0 [(.int .i64 0)] []⟩,
  ⟨(some 6), none, .mv (.t 0)⟩,
  ⟨(some 7), none, .app 1 (.t 5) (.t 6)⟩,
  ⟨(some 2), none, .mv (.t 7)⟩]
def cSlicesCloneIntInt : C := (.seq (.reg rSlicesCloneIntIntX0 false [] [0]) (.seq (.seq (.reg rSlicesCloneIntIntX1 false [] [0, 4]) (.cond (.t 4) (.seq (.reg rSlicesCloneIntIntX2 false [] [2]) .ret) .skip)) (.seq (.reg rSlicesCloneIntIntX3 false [] [2]) .ret)))
def qSlicesCloneIntInt : AFn := ⟨8, 1, [.t 2], cSlicesCloneIntInt⟩
/- math/bits.TrailingZeros64 -/
def rMathBitsTrailingZeros64X0 : List O := [
  ⟨(some 2), none, .mv (.k (.int .i64 0))⟩]
def rMathBitsTrailingZeros64X1 : List O := [
  ⟨(some 3), none, .mv (.t 0)⟩,
  ⟨(some 4), none, .bin .eql (.t 3) (.k (.int .u64 0))⟩]
def rMathBitsTrailingZeros64X2 : List O := [
  ⟨(some 2), none, .mv (.k (.int .i64 64))⟩]
def rMathBitsTrailingZeros64X3 : List O := [
  ⟨(some 5), none, .mv (.t 0)⟩,
  ⟨(some 6), none, .mv (.t 0)⟩,
  ⟨(some 7), none, .un .neg (.t 6)⟩,
  ⟨(some 8), none, .bin .and (.t 5) (.t 7)⟩,
  ⟨(some 9), none, .bin .mul (.t 8) (.k (.int .u64 285870213051353865))⟩,
  ⟨(some 10), none, .bin .shr (.t 9) (.k (.int .u64 58))⟩,
  ⟨(some 11), none, .ixp 64 1 (.g 0) (.t 10)⟩,
  ⟨(some 12), none, .ld none (.t 11)⟩,
  ⟨(some 13), none, .cvt .i64 (.t 12)⟩,
  ⟨(some 2), none, .mv (.t 13)⟩]
def cMathBitsTrailingZeros64 : C := (.seq (.reg rMathBitsTrailingZeros64X0 false [] [0]) (.seq (.seq (.reg rMathBitsTrailingZeros64X1 false [] [0, 4]) (.cond (.t 4) (.seq (.reg rMathBitsTrailingZeros64X2 false [] [2]) .ret) .skip)) (.seq (.reg rMathBitsTrailingZeros64X3 false [] [2]) .ret)))
def qMathBitsTrailingZeros64 : AFn := ⟨14, 1, [.t 2], cMathBitsTrailingZeros64⟩
/- slices.Sort[[]int,int] -/
def rSlicesSortIntIntX0 : List O := [
  ⟨(some 3), none, .mv (.t 0)⟩,
  ⟨(some 4), none, .len (.t 3)⟩,
  ⟨(some 2), none, .mv (.t 4)⟩]
def rSlicesSortIntIntX1 : List O := [
  ⟨(some 5), none, .mv (.t 0)⟩,
  ⟨(some 6), none, .mv (.t 2)⟩,
  ⟨(some 7), none, .mv (.t 2)⟩,
  ⟨(some 8), none, .cvt .u64 (.t 7)⟩,
  ⟨(some 9), none, .call 58 [(.t 8)]⟩,
  ⟨(some 10), none, .call 61 [(.t 5), (.k (.int .i64 0)), (.t 6), (.t 9)]⟩]
def cSlicesSortIntInt : C := (.seq (.reg rSlicesSortIntIntX0 false [] [0, 2]) (.reg rSlicesSortIntIntX1 false [] []))
def qSlicesSortIntInt : AFn := ⟨11, 1, [], cSlicesSortIntInt⟩
/- cohesion/cohesionref03.ends -/
def rRef03EndsX0 : List O := [
  ⟨(some 6), none, .mv (.k (.bool false))⟩]
def rRef03EndsX1 : List O := [
  ⟨(some 7), none, .mv (.t 1)⟩,
  ⟨(some 8), none, .bin .geq (.t 7) (.k (.int .i64 0))⟩,
  ⟨(some 9), none, .mv (.t 8)⟩,
  ⟨(some 10), (some (9, true)), .mv (.t 2)⟩,
  ⟨(some 11), (some (9, true)), .bin .geq (.t 10) (.k (.int .i64 0))⟩,
  ⟨(some 12), none, .pick (.t 9) (.t 11) (.k (.bool false))⟩,
  ⟨(some 13), none, .mv (.t 12)⟩,
  ⟨(some 14), (some (13, true)), .mv (.t 1)⟩,
  ⟨(some 15), (some (13, true)), .mv (.t 0)⟩,
  ⟨(some 16), (some (13, true)), .bin .lss (.t 14) (.t 15)⟩,
  ⟨(some 17), none, .pick (.t 13) (.t 16) (.k (.bool false))⟩,
  ⟨(some 18), none, .mv (.t 17)⟩,
  ⟨(some 19), (some (18, true)), .mv (.t 2)⟩,
  ⟨(some 20), (some (18, true)), .mv (.t 0)⟩,
  ⟨(some 21), (some (18, true)), .bin .lss (.t 19) (.t 20)⟩,
  ⟨(some 22), none, .pick (.t 18) (.t 21) (.k (.bool false))⟩,
  ⟨(some 23), none, .mv (.t 22)⟩,
  ⟨(some 24), (some (23, true)), .mv (.t 1)⟩,
  ⟨(some 25), (some (23, true)), .mv (.t 2)⟩,
  ⟨(some 26), (some (23, true)), .bin .neq (.t 24) (.t 25)⟩,
  ⟨(some 27), none, .pick (.t 23) (.t 26) (.k (.bool false))⟩,
  ⟨(some 6), none, .mv (.t 27)⟩]
def cRef03Ends : C := (.seq (.reg rRef03EndsX0 false [] [0, 1, 2]) (.seq (.reg rRef03EndsX1 false [] [6]) .ret))
def qRef03Ends : AFn := ⟨28, 3, [.t 6], cRef03Ends⟩
/- cohesion/cohesionref03.with -/
def rRef03WithX0 : List O := [
  ⟨(some 3), none, .box (.t 1)⟩,
  ⟨(some 4), none, .mv (.k (.own 2 []))⟩]
def rRef03WithX1 : List O := [
  ⟨(some 5), none, .mv (.k (.int .i64 0))⟩]
def rRef03WithX2 : List O := [
  ⟨(some 7), none, .mv (.t 5)⟩,
  ⟨(some 8), none, .mv (.t 0)⟩,
  ⟨(some 9), none, .len (.t 8)⟩,
  ⟨(some 10), none, .bin .lss (.t 7) (.t 9)⟩,
  ⟨(some 11), none, .mv (.t 10)⟩,
  ⟨(some 12), (some (11, true)), .mv (.t 0)⟩,
  ⟨(some 13), (some (11, true)), .mv (.t 5)⟩,
  ⟨(some 14), (some (11, true)), .ixa 2 (.t 12) (.t 13)⟩,
  ⟨(some 15), (some (11, true)), .ld (some 2) (.t 14)⟩,
  ⟨(some 16), (some (11, true)), .ld (some 2) (.t 3)⟩,
  ⟨(some 17), (some (11, true)), .call nRef03Before [(.t 15), (.t 16)]⟩,
  ⟨(some 18), none, .pick (.t 11) (.t 17) (.k (.bool false))⟩]
def rRef03WithX3 : List O := [
  ⟨(some 19), none, .mv (.t 5)⟩,
  ⟨(some 20), none, .bin .add (.t 19) (.k (.int .i64 1))⟩,
  ⟨(some 5), none, .mv (.t 20)⟩]
def lRef03WithX0 : C := (.seq (.seq (.reg rRef03WithX2 true [(3, 3), (4, 4), (10, 10), (11, 11), (5, 9), (6, 9), (7, 9), (8, 9)] [0, 3, 5, 18]) (.cond (.t 18) .skip (.exit 0))) (.blk 1 (.reg rRef03WithX3 false [] [0, 3, 5])))
def rRef03WithX4 : List O := [
  ⟨(some 21), none, .mv (.t 5)⟩,
  ⟨(some 22), none, .mv (.t 0)⟩,
  ⟨(some 23), none, .len (.t 22)⟩,
  ⟨(some 24), none, .bin .lss (.t 21) (.t 23)⟩,
  ⟨(some 25), none, .mv (.t 24)⟩,
  ⟨(some 26), (some (25, true)), .mv (.t 0)⟩,
  ⟨(some 27), (some (25, true)), .mv (.t 5)⟩,
  ⟨(some 28), (some (25, true)), .ixa 2 (.t 26) (.t 27)⟩,
  ⟨(some 29), (some (25, true)), .ld (some 2) (.t 28)⟩,
  ⟨(some 30), (some (25, true)), .ld (some 2) (.t 3)⟩,
  ⟨(some 31), (some (25, true)), .eq false (.str [true, true]) (.t 29) (.t 30)⟩,
  ⟨(some 32), none, .pick (.t 25) (.t 31) (.k (.bool false))⟩]
def rRef03WithX5 : List O := [
  ⟨(some 33), none, .mv (.t 0)⟩,
  ⟨(some 4), none, .mv (.t 33)⟩]
def rRef03WithX6 : List O := [
  ⟨(some 34), none, .mv (.t 0)⟩,
  ⟨(some 35), none, .mv (.t 5)⟩,
  ⟨(some 36), none, .slc 2 (.t 34) none (some (.t 35))⟩,
  ⟨(some 37), none, .app 2 (.k (.own 2 [])) (.t 36)⟩,
  ⟨(some 6), none, .mv (.t 37)⟩]
def rRef03WithX7 : List O := [
  ⟨(some 38), none, .mv (.t 6)⟩,
  ⟨(some 39), none, .ld (some 2) (.t 3)⟩,
  ⟨(some 40), none, .bslice 2 1 [(.int .i64 0), (.int .i64 0)] [(0, 2, (.t 39))]⟩,
  ⟨(some 41), none, .app 2 (.t 38) (.t 40)⟩,
  ⟨(some 42), none, .mv (.t 0)⟩,
  ⟨(some 43), none, .mv (.t 5)⟩,
  ⟨(some 44), none, .slc 2 (.t 42) (some (.t 43)) none⟩,
  ⟨(some 45), none, .app 2 (.t 41) (.t 44)⟩,
  ⟨(some 4), none, .mv (.t 45)⟩]
def cRef03With : C := (.seq (.reg rRef03WithX0 false [] [0, 3]) (.seq (.reg rRef03WithX1 false [] [0, 3, 5]) (.seq (.blk 0 (.loop lRef03WithX0)) (.seq (.seq (.reg rRef03WithX4 true [(3, 3), (4, 4), (10, 10), (11, 11), (5, 9), (6, 9), (7, 9), (8, 9)] [0, 3, 5, 32]) (.cond (.t 32) (.seq (.reg rRef03WithX5 false [] [4]) .ret) .skip)) (.seq (.reg rRef03WithX6 false [] [0, 3, 5, 6]) (.seq (.reg rRef03WithX7 true [(7, 7), (8, 8), (0, 1), (0, 2), (1, 4), (2, 4), (3, 4), (1, 5), (2, 5), (3, 5), (1, 6), (2, 6), (3, 6)] [4]) .ret))))))
def qRef03With : AFn := ⟨46, 2, [.t 4], cRef03With⟩
/- cohesion/cohesionref03.edge -/
def rRef03EdgeX0 : List O := [
  ⟨(some 4), none, .new [(.int .i64 0), (.int .i64 0)]⟩]
def rRef03EdgeX1 : List O := [
  ⟨(some 5), none, .mv (.t 0)⟩,
  ⟨(some 6), none, .mv (.t 1)⟩,
  ⟨(some 7), none, .min [(.t 5), (.t 6)]⟩,
  ⟨(some 8), none, .mv (.t 0)⟩,
  ⟨(some 9), none, .mv (.t 1)⟩,
  ⟨(some 10), none, .max [(.t 8), (.t 9)]⟩,
  ⟨(some 11), none, .build [(.int .i64 0), (.int .i64 0)] [(0, 1, (.t 7)), (1, 1, (.t 10))]⟩,
  ⟨none, none, .st 2 (.t 4) (.t 11)⟩]
def cRef03Edge : C := (.seq (.reg rRef03EdgeX0 false [] [0, 1, 4]) (.seq (.reg rRef03EdgeX1 false [] [4]) .ret))
def qRef03Edge : AFn := ⟨12, 2, [.c 4 (some 2)], cRef03Edge⟩
/- cohesion/cliques.Check$1 -/
def rCliquesCheck1X0 : List O := [
  ⟨(some 5), none, .mv (.k (.bool false))⟩]
def rCliquesCheck1X1 : List O := [
  ⟨(some 6), none, .ld none (.t 1)⟩,
  ⟨(some 7), none, .ld none (.t 2)⟩,
  ⟨(some 8), none, .len (.t 7)⟩,
  ⟨(some 9), none, .bin .lss (.t 6) (.t 8)⟩,
  ⟨(some 10), none, .mv (.t 9)⟩,
  ⟨(some 11), (some (10, true)), .mv (.t 0)⟩,
  ⟨(some 12), (some (10, true)), .ld none (.t 2)⟩,
  ⟨(some 13), (some (10, true)), .ld none (.t 1)⟩,
  ⟨(some 14), (some (10, true)), .ixa 1 (.t 12) (.t 13)⟩,
  ⟨(some 15), (some (10, true)), .ld none (.t 14)⟩,
  ⟨(some 16), (some (10, true)), .call nSlicesEqualIntInt [(.t 11), (.t 15)]⟩,
  ⟨(some 17), none, .pick (.t 10) (.t 16) (.k (.bool false))⟩,
  ⟨none, none, .st 1 (.t 3) (.t 17)⟩]
def rCliquesCheck1X2 : List O := [
  ⟨(some 18), none, .ld none (.t 1)⟩,
  ⟨(some 19), none, .bin .add (.t 18) (.k (.int .i64 1))⟩,
  ⟨none, none, .st 1 (.t 1) (.t 19)⟩]
def rCliquesCheck1X3 : List O := [
  ⟨(some 20), none, .ld none (.t 3)⟩,
  ⟨(some 5), none, .mv (.t 20)⟩]
def cCliquesCheck1 : C := (.seq (.reg rCliquesCheck1X0 false [] [0, 1, 2, 3]) (.seq (.reg rCliquesCheck1X1 false [] [1, 3]) (.seq (.reg rCliquesCheck1X2 false [] [3]) (.seq (.reg rCliquesCheck1X3 false [] [5]) .ret))))
def qCliquesCheck1 : AFn := ⟨21, 1, [.t 5], cCliquesCheck1⟩
/- slices.Equal[[]int,int] -/
def rSlicesEqualIntIntX0 : List O := [
  ⟨(some 4), none, .mv (.k (.bool false))⟩]
def rSlicesEqualIntIntX1 : List O := [
  ⟨(some 6), none, .mv (.t 0)⟩,
  ⟨(some 7), none, .len (.t 6)⟩,
  ⟨(some 8), none, .mv (.t 1)⟩,
  ⟨(some 9), none, .len (.t 8)⟩,
  ⟨(some 10), none, .bin .neq (.t 7) (.t 9)⟩]
def rSlicesEqualIntIntX2 : List O := [
  ⟨(some 4), none, .mv (.k (.bool false))⟩]
def rSlicesEqualIntIntX3 : List O := [
  ⟨(some 11), none, .mv (.t 0)⟩,
  ⟨(some 12), none, .len (.t 11)⟩,
  ⟨(some 13), none, .mv (.k (.int .i64 0))⟩]
def rSlicesEqualIntIntX4 : List O := [
  ⟨(some 14), none, .bin .lss (.t 13) (.t 12)⟩]
def rSlicesEqualIntIntX5 : List O := [
  ⟨(some 15), none, .mv (.t 13)⟩,
  ⟨(some 5), none, .mv (.t 15)⟩]
def rSlicesEqualIntIntX6 : List O := [
  ⟨(some 16), none, .mv (.t 0)⟩,
  ⟨(some 17), none, .mv (.t 5)⟩,
  ⟨(some 18), none, .ixa 1 (.t 16) (.t 17)⟩,
  ⟨(some 19), none, .ld none (.t 18)⟩,
  ⟨(some 20), none, .mv (.t 1)⟩,
  ⟨(some 21), none, .mv (.t 5)⟩,
  ⟨(some 22), none, .ixa 1 (.t 20) (.t 21)⟩,
  ⟨(some 23), none, .ld none (.t 22)⟩,
  ⟨(some 24), none, .bin .neq (.t 19) (.t 23)⟩]
def rSlicesEqualIntIntX7 : List O := [
  ⟨(some 4), none, .mv (.k (.bool false))⟩]
def rSlicesEqualIntIntX8 : List O := [
  ⟨(some 25), none, .bin .add (.t 13) (.k (.int .i64 1))⟩,
  ⟨(some 13), none, .mv (.t 25)⟩]
def lSlicesEqualIntIntX0 : C := (.seq (.reg rSlicesEqualIntIntX4 false [] [0, 1, 12, 13, 14]) (.seq (.cond (.t 14) .skip (.exit 0)) (.seq (.blk 1 (.seq (.reg rSlicesEqualIntIntX5 false [] [0, 1, 5, 12, 13]) (.seq (.reg rSlicesEqualIntIntX6 true [(8, 8), (3, 4), (3, 5), (3, 6), (0, 7), (1, 7), (2, 7), (3, 7)] [0, 1, 12, 13, 24]) (.cond (.t 24) (.seq (.reg rSlicesEqualIntIntX7 false [] [4]) .ret) .skip)))) (.reg rSlicesEqualIntIntX8 false [] [0, 1, 12, 13]))))
def rSlicesEqualIntIntX9 : List O := [
  ⟨(some 4), none, .mv (.k (.bool true))⟩]
def cSlicesEqualIntInt : C := (.seq (.reg rSlicesEqualIntIntX0 false [] [0, 1]) (.seq (.seq (.reg rSlicesEqualIntIntX1 false [] [0, 1, 10]) (.cond (.t 10) (.seq (.reg rSlicesEqualIntIntX2 false [] [4]) .ret) .skip)) (.seq (.seq (.reg rSlicesEqualIntIntX3 false [] [0, 1, 12, 13]) (.blk 0 (.loop lSlicesEqualIntIntX0))) (.seq (.reg rSlicesEqualIntIntX9 false [] [4]) .ret))))
def qSlicesEqualIntInt : AFn := ⟨26, 2, [.t 4], cSlicesEqualIntInt⟩
/- slices.BinarySearchFunc[[]cohesion/api.Edge,cohesion/api.Edge,cohesion/api.Edge] -/
def rSlicesBinarySearchFuncApiEdgeApiEdgeApiEdgeX0 : List O := [
  ⟨(some 4), none, .box (.t 1)⟩,
  ⟨(some 6), none, .mv (.k (.int .i64 0))⟩,
  ⟨(some 7), none, .mv (.k (.bool false))⟩]
def rSlicesBinarySearchFuncApiEdgeApiEdgeApiEdgeX1 : List O := [
  ⟨(some 12), none, .mv (.t 0)⟩,
  ⟨(some 13), none, .len (.t 12)⟩,
  ⟨(some 8), none, .mv (.t 13)⟩]
def rSlicesBinarySearchFuncApiEdgeApiEdgeApiEdgeX2 : List O := [
  ⟨(some 14), none, .mv (.t 8)⟩,
  ⟨(some 9), none, .mv (.k (.int .i64 0))⟩,
  ⟨(some 10), none, .mv (.t 14)⟩]
def rSlicesBinarySearchFuncApiEdgeApiEdgeApiEdgeX3 : List O := [
  ⟨(some 15), none, .mv (.t 9)⟩,
  ⟨(some 16), none, .mv (.t 10)⟩,
  ⟨(some 17), none, .bin .lss (.t 15) (.t 16)⟩]
def rSlicesBinarySearchFuncApiEdgeApiEdgeApiEdgeX4 : List O := [
  ⟨(some 18), none, .mv (.t 9)⟩,
  ⟨(some 19), none, .mv (.t 10)⟩,
  ⟨(some 20), none, .bin .add (.t 18) (.t 19)⟩,
  ⟨(some 21), none, .cvt .u64 (.t 20)⟩,
  ⟨(some 22), none, .bin .shr (.t 21) (.k (.int .u64 1))⟩,
  ⟨(some 23), none, .cvt .i64 (.t 22)⟩,
  ⟨(some 11), none, .mv (.t 23)⟩]
def rSlicesBinarySearchFuncApiEdgeApiEdgeApiEdgeX5 : List O := [
  ⟨(some 24), none, .mv (.t 2)⟩,
  ⟨(some 25), none, .mv (.t 0)⟩,
  ⟨(some 26), none, .mv (.t 11)⟩,
  ⟨(some 27), none, .ixa 2 (.t 25) (.t 26)⟩,
  ⟨(some 28), none, .ld (some 2) (.t 27)⟩,
  ⟨(some 29), none, .ld (some 2) (.t 4)⟩,
  ⟨(some 30), none, .callv (.t 24) [(.t 28), (.t 29)]⟩,
  ⟨(some 31), none, .bin .lss (.t 30) (.k (.int .i64 0))⟩]
def rSlicesBinarySearchFuncApiEdgeApiEdgeApiEdgeX6 : List O := [
  ⟨(some 32), none, .mv (.t 11)⟩,
  ⟨(some 33), none, .bin .add (.t 32) (.k (.int .i64 1))⟩,
  ⟨(some 9), none, .mv (.t 33)⟩]
def rSlicesBinarySearchFuncApiEdgeApiEdgeApiEdgeX7 : List O := [
  ⟨(some 34), none, .mv (.t 11)⟩,
  ⟨(some 10), none, .mv (.t 34)⟩]
def lSlicesBinarySearchFuncApiEdgeApiEdgeApiEdgeX0 : C := (.seq (.seq (.reg rSlicesBinarySearchFuncApiEdgeApiEdgeApiEdgeX3 false [] [0, 2, 4, 8, 9, 10, 17]) (.cond (.t 17) .skip (.exit 0))) (.blk 1 (.seq (.reg rSlicesBinarySearchFuncApiEdgeApiEdgeApiEdgeX4 false [] [0, 2, 4, 8, 9, 10, 11]) (.seq (.reg rSlicesBinarySearchFuncApiEdgeApiEdgeApiEdgeX5 true [(6, 6), (7, 7), (0, 4), (0, 5), (1, 5), (2, 5), (3, 5), (4, 5)] [0, 2, 4, 8, 9, 10, 11, 31]) (.cond (.t 31) (.reg rSlicesBinarySearchFuncApiEdgeApiEdgeApiEdgeX6 false [] [0, 2, 4, 8, 9, 10]) (.reg rSlicesBinarySearchFuncApiEdgeApiEdgeApiEdgeX7 false [] [0, 2, 4, 8, 9, 10]))))))
def rSlicesBinarySearchFuncApiEdgeApiEdgeApiEdgeX8 : List O := [
  ⟨(some 35), none, .mv (.t 9)⟩,
  ⟨(some 36), none, .mv (.t 9)⟩,
  ⟨(some 37), none, .mv (.t 8)⟩,
  ⟨(some 38), none, .bin .lss (.t 36) (.t 37)⟩,
  ⟨(some 39), none, .mv (.t 38)⟩,
  ⟨(some 40), (some (39, true)), .mv (.t 2)⟩,
  ⟨(some 41), (some (39, true)), .mv (.t 0)⟩,
  ⟨(some 42), (some (39, true)), .mv (.t 9)⟩,
  ⟨(some 43), (some (39, true)), .ixa 2 (.t 41) (.t 42)⟩,
  ⟨(some 44), (some (39, true)), .ld (some 2) (.t 43)⟩,
  ⟨(some 45), (some (39, true)), .ld (some 2) (.t 4)⟩,
  ⟨(some 46), (some (39, true)), .callv (.t 40) [(.t 44), (.t 45)]⟩,
  ⟨(some 47), (some (39, true)), .bin .eql (.t 46) (.k (.int .i64 0))⟩,
  ⟨(some 48), none, .pick (.t 39) (.t 47) (.k (.bool false))⟩,
  ⟨(some 6), none, .mv (.t 35)⟩,
  ⟨(some 7), none, .mv (.t 48)⟩]
def cSlicesBinarySearchFuncApiEdgeApiEdgeApiEdge : C := (.seq (.reg rSlicesBinarySearchFuncApiEdgeApiEdgeApiEdgeX0 false [] [0, 2, 4]) (.seq (.reg rSlicesBinarySearchFuncApiEdgeApiEdgeApiEdgeX1 false [] [0, 2, 4, 8]) (.seq (.reg rSlicesBinarySearchFuncApiEdgeApiEdgeApiEdgeX2 false [] [0, 2, 4, 8, 9, 10]) (.seq (.blk 0 (.loop lSlicesBinarySearchFuncApiEdgeApiEdgeApiEdgeX0)) (.seq (.reg rSlicesBinarySearchFuncApiEdgeApiEdgeApiEdgeX8 true [(15, 15), (0, 9), (5, 9), (0, 10), (5, 10), (6, 10), (7, 10), (8, 10), (9, 10), (0, 11)] [6, 7]) .ret)))))
def qSlicesBinarySearchFuncApiEdgeApiEdgeApiEdge : AFn := ⟨49, 3, [.t 6, .t 7], cSlicesBinarySearchFuncApiEdgeApiEdgeApiEdge⟩
/- cohesion/cliques.each$1 -/
def rCliquesEach1X0 : List O := [
  ⟨(some 11), none, .mv (.k (.bool false))⟩]
def rCliquesEach1X1 : List O := [
  ⟨(some 18), none, .mv (.t 0)⟩,
  ⟨(some 19), none, .bin .eql (.t 18) (.k (.int .u64 0))⟩]
def rCliquesEach1X2 : List O := [
  ⟨(some 20), none, .mv (.t 1)⟩,
  ⟨(some 21), none, .bin .neq (.t 20) (.k (.int .u64 0))⟩,
  ⟨(some 22), none, .mv (.t 21)⟩,
  ⟨(some 23), (some (22, false)), .ld none (.t 3)⟩,
  ⟨(some 24), (some (22, false)), .len (.t 23)⟩,
  ⟨(some 25), (some (22, false)), .bin .eql (.t 24) (.k (.int .i64 0))⟩,
  ⟨(some 26), none, .pick (.t 22) (.k (.bool true)) (.t 25)⟩,
  ⟨(some 27), none, .mv (.t 26)⟩,
  ⟨(some 28), (some (27, false)), .mv (.t 2)⟩,
  ⟨(some 29), (some (27, false)), .mv (.t 28)⟩,
  ⟨(some 30), (some (29, true)), .ld none (.t 3)⟩,
  ⟨(some 31), (some (29, true)), .len (.t 30)⟩,
  ⟨(some 32), (some (29, true)), .ld none (.t 4)⟩,
  ⟨(some 33), (some (29, true)), .len (.t 32)⟩,
  ⟨(some 34), (some (29, true)), .bin .leq (.t 31) (.t 33)⟩,
  ⟨(some 35), (some (27, false)), .pick (.t 29) (.t 34) (.k (.bool false))⟩,
  ⟨(some 36), none, .pick (.t 27) (.k (.bool true)) (.t 35)⟩,
  ⟨(some 37), none, .mv (.t 36)⟩,
  ⟨(some 38), (some (37, false)), .ld none (.t 5)⟩,
  ⟨(some 39), (some (37, false)), .ld none (.t 3)⟩,
  ⟨(some 40), (some (37, false)), .call nSlicesCloneIntInt [(.t 39)]⟩,
  ⟨(some 41), (some (37, false)), .callv (.t 38) [(.t 40)]⟩,
  ⟨(some 42), none, .pick (.t 37) (.k (.bool true)) (.t 41)⟩,
  ⟨(some 11), none, .mv (.t 42)⟩]
def rCliquesEach1X3 : List O := [
  ⟨(some 43), none, .mv (.t 1)⟩,
  ⟨(some 12), none, .mv (.t 43)⟩]
def rCliquesEach1X4 : List O := [
  ⟨(some 44), none, .mv (.t 12)⟩,
  ⟨(some 45), none, .bin .neq (.t 44) (.k (.int .u64 0))⟩]
def rCliquesEach1X5 : List O := [
  ⟨(some 50), none, .mv (.t 0)⟩,
  ⟨(some 51), none, .ld none (.t 6)⟩,
  ⟨(some 52), none, .mv (.t 12)⟩,
  ⟨(some 53), none, .call nMathBitsTrailingZeros64 [(.t 52)]⟩,
  ⟨(some 54), none, .ixa 1 (.t 51) (.t 53)⟩,
  ⟨(some 55), none, .ld none (.t 54)⟩,
  ⟨(some 56), none, .bin .andNot (.t 50) (.t 55)⟩,
  ⟨(some 57), none, .bin .eql (.t 56) (.k (.int .u64 0))⟩]
def rCliquesEach1X6 : List O := [
  ⟨(some 11), none, .mv (.k (.bool true))⟩]
def rCliquesEach1X7 : List O := [
  ⟨(some 46), none, .mv (.t 12)⟩,
  ⟨(some 47), none, .mv (.t 12)⟩,
  ⟨(some 48), none, .bin .sub (.t 47) (.k (.int .u64 1))⟩,
  ⟨(some 49), none, .bin .and (.t 46) (.t 48)⟩,
  ⟨(some 12), none, .mv (.t 49)⟩]
def lCliquesEach1X0 : C := (.seq (.seq (.reg rCliquesEach1X4 false [] [0, 1, 2, 3, 4, 6, 7, 12, 45]) (.cond (.t 45) .skip (.exit 0))) (.seq (.blk 1 (.seq (.reg rCliquesEach1X5 true [(6, 6), (7, 7), (0, 1), (1, 2), (0, 3), (1, 3), (0, 5)] [0, 1, 2, 3, 4, 6, 7, 12, 57]) (.cond (.t 57) (.seq (.reg rCliquesEach1X6 false [] [11]) .ret) .skip))) (.reg rCliquesEach1X7 false [] [0, 1, 2, 3, 4, 6, 7, 12])))
def rCliquesEach1X8 : List O := [
  ⟨(some 58), none, .mv (.t 0)⟩,
  ⟨(some 13), none, .mv (.t 58)⟩]
def rCliquesEach1X9 : List O := [
  ⟨(some 59), none, .mv (.t 13)⟩,
  ⟨(some 60), none, .bin .neq (.t 59) (.k (.int .u64 0))⟩]
def rCliquesEach1X10 : List O := [
  ⟨(some 65), none, .mv (.t 13)⟩,
  ⟨(some 66), none, .call nMathBitsTrailingZeros64 [(.t 65)]⟩,
  ⟨(some 14), none, .mv (.t 66)⟩]
def rCliquesEach1X11 : List O := [
  ⟨(some 67), none, .mv (.t 2)⟩,
  ⟨(some 68), none, .mv (.t 67)⟩,
  ⟨(some 69), (some (68, true)), .ld none (.t 3)⟩,
  ⟨(some 70), (some (68, true)), .len (.t 69)⟩,
  ⟨(some 71), (some (68, true)), .ld none (.t 4)⟩,
  ⟨(some 72), (some (68, true)), .len (.t 71)⟩,
  ⟨(some 73), (some (68, true)), .bin .lss (.t 70) (.t 72)⟩,
  ⟨(some 74), none, .pick (.t 68) (.t 73) (.k (.bool false))⟩,
  ⟨(some 15), none, .mv (.t 74)⟩]
def rCliquesEach1X12 : List O := [
  ⟨(some 75), none, .mv (.t 15)⟩,
  ⟨(some 76), none, .mv (.t 75)⟩,
  ⟨(some 77), (some (76, true)), .mv (.t 14)⟩,
  ⟨(some 78), (some (76, true)), .ld none (.t 4)⟩,
  ⟨(some 79), (some (76, true)), .ld none (.t 3)⟩,
  ⟨(some 80), (some (76, true)), .len (.t 79)⟩,
  ⟨(some 81), (some (76, true)), .ixa 1 (.t 78) (.t 80)⟩,
  ⟨(some 82), (some (76, true)), .ld none (.t 81)⟩,
  ⟨(some 83), (some (76, true)), .bin .lss (.t 77) (.t 82)⟩,
  ⟨(some 84), none, .pick (.t 76) (.t 83) (.k (.bool false))⟩]
def rCliquesEach1X13 : List O := [
  ⟨(some 85), none, .mv (.t 15)⟩,
  ⟨(some 86), none, .mv (.t 85)⟩,
  ⟨(some 87), (some (86, true)), .mv (.t 14)⟩,
  ⟨(some 88), (some (86, true)), .ld none (.t 4)⟩,
  ⟨(some 89), (some (86, true)), .ld none (.t 3)⟩,
  ⟨(some 90), (some (86, true)), .len (.t 89)⟩,
  ⟨(some 91), (some (86, true)), .ixa 1 (.t 88) (.t 90)⟩,
  ⟨(some 92), (some (86, true)), .ld none (.t 91)⟩,
  ⟨(some 93), (some (86, true)), .bin .eql (.t 87) (.t 92)⟩,
  ⟨(some 94), none, .pick (.t 86) (.t 93) (.k (.bool false))⟩,
  ⟨(some 15), none, .mv (.t 94)⟩]
def rCliquesEach1X14 : List O := [
  ⟨(some 95), none, .ld none (.t 3)⟩,
  ⟨(some 96), none, .mv (.t 14)⟩,
  ⟨(some 97), none, .bslice 1 1 [(.int .i64 0)] [(0, 1, (.t 96))]⟩,
  ⟨(some 98), none, .app 1 (.t 95) (.t 97)⟩,
  ⟨none, none, .st 1 (.t 3) (.t 98)⟩]
def rCliquesEach1X15 : List O := [
  ⟨(some 99), none, .mv (.t 14)⟩,
  ⟨(some 100), none, .bin .shl (.k (.int .u64 1)) (.t 99)⟩,
  ⟨(some 101), none, .bin .sub (.t 100) (.k (.int .u64 1))⟩,
  ⟨(some 16), none, .mv (.t 101)⟩]
def rCliquesEach1X16 : List O := [
  ⟨(some 102), none, .ld none (.t 7)⟩,
  ⟨(some 103), none, .mv (.t 0)⟩,
  ⟨(some 104), none, .ld none (.t 6)⟩,
  ⟨(some 105), none, .mv (.t 14)⟩,
  ⟨(some 106), none, .ixa 1 (.t 104) (.t 105)⟩,
  ⟨(some 107), none, .ld none (.t 106)⟩,
  ⟨(some 108), none, .bin .and (.t 103) (.t 107)⟩,
  ⟨(some 109), none, .mv (.t 16)⟩,
  ⟨(some 110), none, .bin .andNot (.t 108) (.t 109)⟩,
  ⟨(some 111), none, .mv (.t 1)⟩,
  ⟨(some 112), none, .mv (.t 0)⟩,
  ⟨(some 113), none, .mv (.t 16)⟩,
  ⟨(some 114), none, .bin .and (.t 112) (.t 113)⟩,
  ⟨(some 115), none, .bin .or (.t 111) (.t 114)⟩,
  ⟨(some 116), none, .ld none (.t 6)⟩,
  ⟨(some 117), none, .mv (.t 14)⟩,
  ⟨(some 118), none, .ixa 1 (.t 116) (.t 117)⟩,
  ⟨(some 119), none, .ld none (.t 118)⟩,
  ⟨(some 120), none, .bin .and (.t 115) (.t 119)⟩,
  ⟨(some 121), none, .mv (.t 15)⟩,
  ⟨(some 122), none, .callv (.t 102) [(.t 110), (.t 120), (.t 121)]⟩,
  ⟨(some 17), none, .mv (.t 122)⟩]
def rCliquesEach1X17 : List O := [
  ⟨(some 123), none, .ld none (.t 3)⟩,
  ⟨(some 124), none, .ld none (.t 3)⟩,
  ⟨(some 125), none, .len (.t 124)⟩,
  ⟨(some 126), none, .bin .sub (.t 125) (.k (.int .i64 1))⟩,
  ⟨(some 127), none, .slc 1 (.t 123) none (some (.t 126))⟩,
  ⟨none, none, .st 1 (.t 3) (.t 127)⟩]
def rCliquesEach1X18 : List O := [
  ⟨(some 128), none, .mv (.t 17)⟩,
  ⟨(some 129), none, .un .not (.t 128)⟩]
def rCliquesEach1X19 : List O := [
  ⟨(some 11), none, .mv (.k (.bool false))⟩]
def rCliquesEach1X20 : List O := [
  ⟨(some 61), none, .mv (.t 13)⟩,
  ⟨(some 62), none, .mv (.t 13)⟩,
  ⟨(some 63), none, .bin .sub (.t 62) (.k (.int .u64 1))⟩,
  ⟨(some 64), none, .bin .and (.t 61) (.t 63)⟩,
  ⟨(some 13), none, .mv (.t 64)⟩]
def lCliquesEach1X1 : C := (.seq (.seq (.reg rCliquesEach1X9 false [] [0, 1, 2, 3, 4, 6, 7, 13, 60]) (.cond (.t 60) .skip (.exit 2))) (.seq (.blk 3 (.seq (.reg rCliquesEach1X10 false [] [0, 1, 2, 3, 4, 6, 7, 13, 14]) (.seq (.reg rCliquesEach1X11 false [] [0, 1, 2, 3, 4, 6, 7, 13, 14, 15]) (.seq (.seq (.reg rCliquesEach1X12 false [] [0, 1, 2, 3, 4, 6, 7, 13, 14, 15, 84]) (.cond (.t 84) (.exit 3) .skip)) (.seq (.reg rCliquesEach1X13 false [] [0, 1, 2, 3, 4, 6, 7, 13, 14, 15]) (.seq (.reg rCliquesEach1X14 false [] [0, 1, 2, 3, 4, 6, 7, 13, 14, 15]) (.seq (.reg rCliquesEach1X15 false [] [0, 1, 2, 3, 4, 6, 7, 13, 14, 15, 16]) (.seq (.reg rCliquesEach1X16 true [(20, 20), (21, 21), (0, 1), (0, 2), (1, 2), (0, 3), (2, 3), (0, 4), (0, 5), (1, 5), (0, 6), (0, 7), (2, 7), (5, 7), (0, 8), (0, 9), (2, 9), (5, 9), (0, 10), (2, 10), (5, 10), (0, 11), (2, 11), (5, 11), (0, 12), (2, 12), (5, 12), (0, 13), (2, 13), (5, 13), (0, 14), (1, 14), (2, 14), (3, 14), (4, 14), (5, 14), (6, 14), (7, 14), (8, 14), (9, 14), (10, 14), (11, 14), (12, 14), (13, 14), (0, 15), (2, 15), (5, 15), (14, 15), (0, 16), (2, 16), (5, 16), (0, 17), (1, 17), (2, 17), (3, 17), (4, 17), (5, 17), (6, 17), (7, 17), (8, 17), (9, 17), (10, 17), (11, 17), (12, 17), (13, 17), (0, 18), (2, 18), (5, 18), (0, 19), (2, 19), (5, 19), (14, 19), (17, 19)] [0, 1, 2, 3, 4, 6, 7, 13, 17]) (.seq (.reg rCliquesEach1X17 false [] [0, 1, 2, 3, 4, 6, 7, 13, 17]) (.seq (.reg rCliquesEach1X18 false [] [0, 1, 2, 3, 4, 6, 7, 13, 129]) (.cond (.t 129) (.seq (.reg rCliquesEach1X19 false [] [11]) .ret) .skip))))))))))) (.reg rCliquesEach1X20 false [] [0, 1, 2, 3, 4, 6, 7, 13])))
def rCliquesEach1X21 : List O := [
  ⟨(some 11), none, .mv (.k (.bool true))⟩]
def cCliquesEach1 : C := (.seq (.reg rCliquesEach1X0 false [] [0, 1, 2, 3, 4, 5, 6, 7]) (.seq (.seq (.reg rCliquesEach1X1 false [] [0, 1, 2, 3, 4, 5, 6, 7, 19]) (.cond (.t 19) (.seq (.reg rCliquesEach1X2 true [(0, 0), (1, 1), (2, 2), (3, 3), (4, 4), (5, 5), (6, 6), (7, 7), (8, 8), (9, 9), (14, 14), (15, 15), (16, 16), (17, 17), (21, 21), (22, 22), (23, 23), (10, 12), (11, 12), (10, 13), (18, 19), (18, 20)] [11]) .ret) .skip)) (.seq (.seq (.reg rCliquesEach1X3 false [] [0, 1, 2, 3, 4, 6, 7, 12]) (.blk 0 (.loop lCliquesEach1X0))) (.seq (.seq (.reg rCliquesEach1X8 false [] [0, 1, 2, 3, 4, 6, 7, 13]) (.blk 2 (.loop lCliquesEach1X1))) (.seq (.reg rCliquesEach1X21 false [] [11]) .ret)))))
def qCliquesEach1 : AFn := ⟨130, 3, [.t 11], cCliquesEach1⟩
/- cohesion/cliques.all -/
def rCliquesAllN56X0 : List O := [
  ⟨(some 2), none, .mv (.k (.int .u64 0))⟩]
def rCliquesAllN56X1 : List O := [
  ⟨(some 3), none, .mv (.t 0)⟩,
  ⟨(some 4), none, .bin .shl (.k (.int .u64 1)) (.t 3)⟩,
  ⟨(some 5), none, .bin .sub (.t 4) (.k (.int .u64 1))⟩,
  ⟨(some 2), none, .mv (.t 5)⟩]
def cCliquesAllN56 : C := (.seq (.reg rCliquesAllN56X0 false [] [0]) (.seq (.reg rCliquesAllN56X1 false [] [2]) .ret))
def qCliquesAllN56 : AFn := ⟨6, 1, [.t 2], cCliquesAllN56⟩
/- cmp.Or[int] -/
def rCmpOrIntX0 : List O := [
  ⟨(some 2), none, .mv (.k (.int .i64 0))⟩]
def rCmpOrIntX1 : List O := [
  ⟨(some 3), none, .mv (.k (.int .i64 0))⟩]
def rCmpOrIntX2 : List O := [
  ⟨(some 6), none, .mv (.t 0)⟩,
  ⟨(some 7), none, .len (.t 6)⟩,
  ⟨(some 8), none, .mv (.k (.int .i64 0))⟩]
def rCmpOrIntX3 : List O := [
  ⟨(some 9), none, .bin .lss (.t 8) (.t 7)⟩]
def rCmpOrIntX4 : List O := [
  ⟨(some 10), none, .ixa 1 (.t 6) (.t 8)⟩,
  ⟨(some 11), none, .ld none (.t 10)⟩,
  ⟨(some 5), none, .mv (.t 11)⟩]
def rCmpOrIntX5 : List O := [
  ⟨(some 12), none, .mv (.t 5)⟩,
  ⟨(some 13), none, .mv (.t 3)⟩,
  ⟨(some 14), none, .bin .neq (.t 12) (.t 13)⟩]
def rCmpOrIntX6 : List O := [
  ⟨(some 15), none, .mv (.t 5)⟩,
  ⟨(some 2), none, .mv (.t 15)⟩]
def rCmpOrIntX7 : List O := [
  ⟨(some 16), none, .bin .add (.t 8) (.k (.int .i64 1))⟩,
  ⟨(some 8), none, .mv (.t 16)⟩]
def lCmpOrIntX0 : C := (.seq (.reg rCmpOrIntX3 false [] [3, 6, 7, 8, 9]) (.seq (.cond (.t 9) .skip (.exit 0)) (.seq (.blk 1 (.seq (.reg rCmpOrIntX4 false [] [3, 5, 6, 7, 8]) (.seq (.reg rCmpOrIntX5 false [] [3, 5, 6, 7, 8, 14]) (.cond (.t 14) (.seq (.reg rCmpOrIntX6 false [] [2]) .ret) .skip)))) (.reg rCmpOrIntX7 false [] [3, 6, 7, 8]))))
def rCmpOrIntX8 : List O := [
  ⟨(some 17), none, .mv (.t 3)⟩,
  ⟨(some 2), none, .mv (.t 17)⟩]
def cCmpOrInt : C := (.seq (.reg rCmpOrIntX0 false [] [0]) (.seq (.reg rCmpOrIntX1 false [] [0, 3]) (.seq (.seq (.reg rCmpOrIntX2 false [] [3, 6, 7, 8]) (.blk 0 (.loop lCmpOrIntX0))) (.seq (.reg rCmpOrIntX8 false [] [2]) .ret))))
def qCmpOrInt : AFn := ⟨18, 1, [.t 2], cCmpOrInt⟩
/- cmp.Compare[int] -/
def rCmpCompareIntX0 : List O := [
  ⟨(some 4), none, .mv (.k (.int .i64 0))⟩]
def rCmpCompareIntX1 : List O := [
  ⟨(some 7), none, .mv (.t 0)⟩,
  ⟨(some 8), none, .call nCmpIsNaNInt [(.t 7)]⟩,
  ⟨(some 5), none, .mv (.t 8)⟩]
def rCmpCompareIntX2 : List O := [
  ⟨(some 9), none, .mv (.t 1)⟩,
  ⟨(some 10), none, .call nCmpIsNaNInt [(.t 9)]⟩,
  ⟨(some 6), none, .mv (.t 10)⟩]
def rCmpCompareIntX3 : List O := [
  ⟨(some 11), none, .mv (.t 5)⟩]
def rCmpCompareIntX4 : List O := [
  ⟨(some 12), none, .mv (.t 6)⟩]
def rCmpCompareIntX5 : List O := [
  ⟨(some 4), none, .mv (.k (.int .i64 0))⟩]
def rCmpCompareIntX6 : List O := [
  ⟨(some 4), none, .mv (.k (.int .i64 (-1)))⟩]
def rCmpCompareIntX7 : List O := [
  ⟨(some 13), none, .mv (.t 6)⟩]
def rCmpCompareIntX8 : List O := [
  ⟨(some 4), none, .mv (.k (.int .i64 1))⟩]
def rCmpCompareIntX9 : List O := [
  ⟨(some 14), none, .mv (.t 0)⟩,
  ⟨(some 15), none, .mv (.t 1)⟩,
  ⟨(some 16), none, .bin .lss (.t 14) (.t 15)⟩]
def rCmpCompareIntX10 : List O := [
  ⟨(some 4), none, .mv (.k (.int .i64 (-1)))⟩]
def rCmpCompareIntX11 : List O := [
  ⟨(some 17), none, .mv (.t 0)⟩,
  ⟨(some 18), none, .mv (.t 1)⟩,
  ⟨(some 19), none, .bin .gtr (.t 17) (.t 18)⟩]
def rCmpCompareIntX12 : List O := [
  ⟨(some 4), none, .mv (.k (.int .i64 1))⟩]
def rCmpCompareIntX13 : List O := [
  ⟨(some 4), none, .mv (.k (.int .i64 0))⟩]
def cCmpCompareInt : C := (.seq (.reg rCmpCompareIntX0 false [] [0, 1]) (.seq (.reg rCmpCompareIntX1 false [] [0, 1, 5]) (.seq (.reg rCmpCompareIntX2 false [] [0, 1, 5, 6]) (.seq (.seq (.reg rCmpCompareIntX3 false [] [0, 1, 6, 11]) (.cond (.t 11) (.seq (.seq (.reg rCmpCompareIntX4 false [] [12]) (.cond (.t 12) (.seq (.reg rCmpCompareIntX5 false [] [4]) .ret) .skip)) (.seq (.reg rCmpCompareIntX6 false [] [4]) .ret)) .skip)) (.seq (.seq (.reg rCmpCompareIntX7 false [] [0, 1, 13]) (.cond (.t 13) (.seq (.reg rCmpCompareIntX8 false [] [4]) .ret) .skip)) (.seq (.seq (.reg rCmpCompareIntX9 false [] [0, 1, 16]) (.cond (.t 16) (.seq (.reg rCmpCompareIntX10 false [] [4]) .ret) .skip)) (.seq (.seq (.reg rCmpCompareIntX11 false [] [19]) (.cond (.t 19) (.seq (.reg rCmpCompareIntX12 false [] [4]) .ret) .skip)) (.seq (.reg rCmpCompareIntX13 false [] [4]) .ret))))))))
def qCmpCompareInt : AFn := ⟨20, 2, [.t 4], cCmpCompareInt⟩
/- cohesion/cohesionref03.Before -/
def rRef03BeforeX0 : List O := [
  ⟨(some 2), none, .box (.t 0)⟩,
  ⟨(some 3), none, .box (.t 1)⟩,
  ⟨(some 4), none, .mv (.k (.bool false))⟩]
def rRef03BeforeX1 : List O := [
  ⟨(some 5), none, .fad 0 (.t 2)⟩,
  ⟨(some 6), none, .ld none (.t 5)⟩,
  ⟨(some 7), none, .fad 0 (.t 3)⟩,
  ⟨(some 8), none, .ld none (.t 7)⟩,
  ⟨(some 9), none, .bin .lss (.t 6) (.t 8)⟩,
  ⟨(some 10), none, .mv (.t 9)⟩,
  ⟨(some 11), (some (10, false)), .fad 0 (.t 2)⟩,
  ⟨(some 12), (some (10, false)), .ld none (.t 11)⟩,
  ⟨(some 13), (some (10, false)), .fad 0 (.t 3)⟩,
  ⟨(some 14), (some (10, false)), .ld none (.t 13)⟩,
  ⟨(some 15), (some (10, false)), .bin .eql (.t 12) (.t 14)⟩,
  ⟨(some 16), (some (10, false)), .mv (.t 15)⟩,
  ⟨(some 17), (some (16, true)), .fad 1 (.t 2)⟩,
  ⟨(some 18), (some (16, true)), .ld none (.t 17)⟩,
  ⟨(some 19), (some (16, true)), .fad 1 (.t 3)⟩,
  ⟨(some 20), (some (16, true)), .ld none (.t 19)⟩,
  ⟨(some 21), (some (16, true)), .bin .lss (.t 18) (.t 20)⟩,
  ⟨(some 22), (some (10, false)), .pick (.t 16) (.t 21) (.k (.bool false))⟩,
  ⟨(some 23), none, .pick (.t 10) (.k (.bool true)) (.t 22)⟩,
  ⟨(some 4), none, .mv (.t 23)⟩]
def cRef03Before : C := (.seq (.reg rRef03BeforeX0 false [] [2, 3]) (.seq (.reg rRef03BeforeX1 false [] [4]) .ret))
def qRef03Before : AFn := ⟨24, 2, [.t 4], cRef03Before⟩
/- cmp.isNaN[int] -/
def rCmpIsNaNIntX0 : List O := [
  ⟨(some 2), none, .mv (.k (.bool false))⟩]
def rCmpIsNaNIntX1 : List O := [
  ⟨(some 3), none, .mv (.t 0)⟩,
  ⟨(some 4), none, .mv (.t 0)⟩,
  ⟨(some 5), none, .bin .neq (.t 3) (.t 4)⟩,
  ⟨(some 2), none, .mv (.t 5)⟩]
def cCmpIsNaNInt : C := (.seq (.reg rCmpIsNaNIntX0 false [] [0]) (.seq (.reg rCmpIsNaNIntX1 false [] [2]) .ret))
def qCmpIsNaNInt : AFn := ⟨6, 1, [.t 2], cCmpIsNaNInt⟩
abbrev Md := Go.Bm.Md
abbrev Cfg := Go.Bm.Cfg
def look : List (Nat × Md × AFn) → Nat → Option (Md × AFn)
  | [], _ => none
  | (j, m, q) :: r, i => if i = j then some (m, q) else look r i
def fns : List (Nat × Md × AFn) := [
  (nLaw24CliquesEdges, ⟨false, false, true⟩, qLaw24CliquesEdges),
  (nMakeFew, ⟨false, false, true⟩, qMakeFew),
  (nLaw24Awake, ⟨false, false, true⟩, qLaw24Awake),
  (nMakeNew, ⟨true, false, false⟩, qMakeNew),
  (nMakeGraph, ⟨true, false, false⟩, qMakeGraph),
  (nMakeDeckNext, ⟨true, false, false⟩, qMakeDeckNext),
  (nGraphAdd, ⟨false, false, false⟩, qGraphAdd),
  (nCliquesAll, ⟨false, false, false⟩, qCliquesAll),
  (nRef02Cmp, ⟨false, false, true⟩, qRef02Cmp),
  (nRef02Has, ⟨false, false, true⟩, qRef02Has),
  (nRef02Within, ⟨false, false, true⟩, qRef02Within),
  (nCliquesIs, ⟨false, false, true⟩, qCliquesIs),
  (nCliquesExtend, ⟨false, false, false⟩, qCliquesExtend),
  (nRef03Of, ⟨false, false, false⟩, qRef03Of),
  (nCliquesCheck, ⟨false, false, true⟩, qCliquesCheck),
  (nMakeMod, ⟨false, false, true⟩, qMakeMod),
  (nGraphChange, ⟨false, false, true⟩, qGraphChange),
  (nGraphPlace, ⟨false, false, true⟩, qGraphPlace),
  (nSlicesInsertApiEdgeApiEdge, ⟨false, true, true⟩, qSlicesInsertApiEdgeApiEdge),
  (nSlicesCloneApiEdgeApiEdge, ⟨false, true, true⟩, qSlicesCloneApiEdgeApiEdge),
  (nGraphEdge, ⟨false, false, false⟩, qGraphEdge),
  (nGraphCheck, ⟨false, false, true⟩, qGraphCheck),
  (nCliquesEach, ⟨true, false, false⟩, qCliquesEach),
  (nCliquesAll1, ⟨true, false, false⟩, qCliquesAll1),
  (nCliquesCommon, ⟨false, false, true⟩, qCliquesCommon),
  (nCliquesMasks, ⟨false, false, false⟩, qCliquesMasks),
  (nGraphEnds, ⟨false, false, true⟩, qGraphEnds),
  (nGraphOrder, ⟨false, false, true⟩, qGraphOrder),
  (nNodesetValid, ⟨false, false, true⟩, qNodesetValid),
  (nCliquesClique, ⟨false, false, true⟩, qCliquesClique),
  (nSlicesCloneIntInt, ⟨false, true, true⟩, qSlicesCloneIntInt),
  (nMathBitsTrailingZeros64, ⟨false, false, true⟩, qMathBitsTrailingZeros64),
  (nSlicesSortIntInt, ⟨false, false, true⟩, qSlicesSortIntInt),
  (nRef03Ends, ⟨false, false, true⟩, qRef03Ends),
  (nRef03With, ⟨false, false, false⟩, qRef03With),
  (nRef03Edge, ⟨false, false, false⟩, qRef03Edge),
  (nCliquesCheck1, ⟨true, false, false⟩, qCliquesCheck1),
  (nSlicesEqualIntInt, ⟨false, false, true⟩, qSlicesEqualIntInt),
  (nSlicesBinarySearchFuncApiEdgeApiEdgeApiEdge, ⟨false, false, true⟩, qSlicesBinarySearchFuncApiEdgeApiEdgeApiEdge),
  (nCliquesEach1, ⟨true, false, false⟩, qCliquesEach1),
  (nCliquesAllN56, ⟨false, false, true⟩, qCliquesAllN56),
  (nCmpOrInt, ⟨false, false, true⟩, qCmpOrInt),
  (nCmpCompareInt, ⟨false, false, true⟩, qCmpCompareInt),
  (nRef03Before, ⟨false, false, true⟩, qRef03Before),
  (nCmpIsNaNInt, ⟨false, false, true⟩, qCmpIsNaNInt)]
def nTab : Nat := 0
def tabZ : List Int := [0, 1, 56, 2, 57, 49, 28, 3, 61, 58, 42, 50, 38, 29, 17, 4, 62, 47, 59, 36, 45, 43, 51, 22, 53, 39, 33, 30, 24, 18, 12, 5, 63, 55, 48, 27, 60, 41, 37, 16, 46, 35, 44, 21, 52, 32, 23, 11, 54, 26, 40, 15, 34, 20, 31, 10, 25, 14, 19, 9, 13, 8, 7, 6]
def tabA : List AV := tabZ.map (AV.int .u8)
def cfg : Cfg := ⟨look fns, fun i => if i = nTab then tabA else [], fun _ => none, fun _ => none, fun _ => none⟩
theorem kLaw24CliquesEdges : chkFB Go.Proofs.Tryd.prog Go.Proofs.Tryd.f3 qLaw24CliquesEdges = true := by kernel_rfl
theorem kMakeFew : chkFB Go.Proofs.Tryd.prog Go.Proofs.Tryd.f5 qMakeFew = true := by kernel_rfl
theorem kLaw24Awake : chkFB Go.Proofs.Tryd.prog Go.Proofs.Tryd.f6 qLaw24Awake = true := by kernel_rfl
theorem kMakeNew : chkFB Go.Proofs.Tryd.prog Go.Proofs.Tryd.f7 qMakeNew = true := by kernel_rfl
theorem kMakeGraph : chkFB Go.Proofs.Tryd.prog Go.Proofs.Tryd.f8 qMakeGraph = true := by kernel_rfl
theorem kMakeDeckNext : chkFB Go.Proofs.Tryd.prog Go.Proofs.Tryd.f9 qMakeDeckNext = true := by kernel_rfl
theorem kGraphAdd : chkFB Go.Proofs.Tryd.prog Go.Proofs.Tryd.f10 qGraphAdd = true := by kernel_rfl
theorem kCliquesAll : chkFB Go.Proofs.Tryd.prog Go.Proofs.Tryd.f11 qCliquesAll = true := by kernel_rfl
theorem kRef02Cmp : chkFB Go.Proofs.Tryd.prog Go.Proofs.Tryd.f12 qRef02Cmp = true := by kernel_rfl
theorem kRef02Has : chkFB Go.Proofs.Tryd.prog Go.Proofs.Tryd.f13 qRef02Has = true := by kernel_rfl
theorem kRef02Within : chkFB Go.Proofs.Tryd.prog Go.Proofs.Tryd.f14 qRef02Within = true := by kernel_rfl
theorem kCliquesIs : chkFB Go.Proofs.Tryd.prog Go.Proofs.Tryd.f21 qCliquesIs = true := by kernel_rfl
theorem kCliquesExtend : chkFB Go.Proofs.Tryd.prog Go.Proofs.Tryd.f22 qCliquesExtend = true := by kernel_rfl
theorem kRef03Of : chkFB Go.Proofs.Tryd.prog Go.Proofs.Tryd.f23 qRef03Of = true := by kernel_rfl
theorem kCliquesCheck : chkFB Go.Proofs.Tryd.prog Go.Proofs.Tryd.f24 qCliquesCheck = true := by kernel_rfl
theorem kMakeMod : chkFB Go.Proofs.Tryd.prog Go.Proofs.Tryd.f25 qMakeMod = true := by kernel_rfl
theorem kGraphChange : chkFB Go.Proofs.Tryd.prog Go.Proofs.Tryd.f26 qGraphChange = true := by kernel_rfl
theorem kGraphPlace : chkFB Go.Proofs.Tryd.prog Go.Proofs.Tryd.f27 qGraphPlace = true := by kernel_rfl
theorem kSlicesInsertApiEdgeApiEdge : chkFB Go.Proofs.Tryd.prog Go.Proofs.Tryd.f28 qSlicesInsertApiEdgeApiEdge = true := by kernel_rfl
theorem kSlicesCloneApiEdgeApiEdge : chkFB Go.Proofs.Tryd.prog Go.Proofs.Tryd.f29 qSlicesCloneApiEdgeApiEdge = true := by kernel_rfl
theorem kGraphEdge : chkFB Go.Proofs.Tryd.prog Go.Proofs.Tryd.f30 qGraphEdge = true := by kernel_rfl
theorem kGraphCheck : chkFB Go.Proofs.Tryd.prog Go.Proofs.Tryd.f31 qGraphCheck = true := by kernel_rfl
theorem kCliquesEach : chkFB Go.Proofs.Tryd.prog Go.Proofs.Tryd.f32 qCliquesEach = true := by kernel_rfl
theorem kCliquesAll1 : chkFB Go.Proofs.Tryd.prog Go.Proofs.Tryd.f33 qCliquesAll1 = true := by kernel_rfl
theorem kCliquesCommon : chkFB Go.Proofs.Tryd.prog Go.Proofs.Tryd.f34 qCliquesCommon = true := by kernel_rfl
theorem kCliquesMasks : chkFB Go.Proofs.Tryd.prog Go.Proofs.Tryd.f35 qCliquesMasks = true := by kernel_rfl
theorem kGraphEnds : chkFB Go.Proofs.Tryd.prog Go.Proofs.Tryd.f36 qGraphEnds = true := by kernel_rfl
theorem kGraphOrder : chkFB Go.Proofs.Tryd.prog Go.Proofs.Tryd.f38 qGraphOrder = true := by kernel_rfl
theorem kNodesetValid : chkFB Go.Proofs.Tryd.prog Go.Proofs.Tryd.f42 qNodesetValid = true := by kernel_rfl
theorem kCliquesClique : chkFB Go.Proofs.Tryd.prog Go.Proofs.Tryd.f43 qCliquesClique = true := by kernel_rfl
theorem kSlicesCloneIntInt : chkFB Go.Proofs.Tryd.prog Go.Proofs.Tryd.f44 qSlicesCloneIntInt = true := by kernel_rfl
theorem kMathBitsTrailingZeros64 : chkFB Go.Proofs.Tryd.prog Go.Proofs.Tryd.f45 qMathBitsTrailingZeros64 = true := by kernel_rfl
theorem kSlicesSortIntInt : chkFB Go.Proofs.Tryd.prog Go.Proofs.Tryd.f46 qSlicesSortIntInt = true := by kernel_rfl
theorem kRef03Ends : chkFB Go.Proofs.Tryd.prog Go.Proofs.Tryd.f47 qRef03Ends = true := by kernel_rfl
theorem kRef03With : chkFB Go.Proofs.Tryd.prog Go.Proofs.Tryd.f48 qRef03With = true := by kernel_rfl
theorem kRef03Edge : chkFB Go.Proofs.Tryd.prog Go.Proofs.Tryd.f49 qRef03Edge = true := by kernel_rfl
theorem kCliquesCheck1 : chkFB Go.Proofs.Tryd.prog Go.Proofs.Tryd.f50 qCliquesCheck1 = true := by kernel_rfl
theorem kSlicesEqualIntInt : chkFB Go.Proofs.Tryd.prog Go.Proofs.Tryd.f51 qSlicesEqualIntInt = true := by kernel_rfl
theorem kSlicesBinarySearchFuncApiEdgeApiEdgeApiEdge : chkFB Go.Proofs.Tryd.prog Go.Proofs.Tryd.f52 qSlicesBinarySearchFuncApiEdgeApiEdgeApiEdge = true := by kernel_rfl
theorem kCliquesEach1 : chkFB Go.Proofs.Tryd.prog Go.Proofs.Tryd.f55 qCliquesEach1 = true := by kernel_rfl
theorem kCliquesAllN56 : chkFB Go.Proofs.Tryd.prog Go.Proofs.Tryd.f56 qCliquesAllN56 = true := by kernel_rfl
theorem kCmpOrInt : chkFB Go.Proofs.Tryd.prog Go.Proofs.Tryd.f59 qCmpOrInt = true := by kernel_rfl
theorem kCmpCompareInt : chkFB Go.Proofs.Tryd.prog Go.Proofs.Tryd.f60 qCmpCompareInt = true := by kernel_rfl
theorem kRef03Before : chkFB Go.Proofs.Tryd.prog Go.Proofs.Tryd.f62 qRef03Before = true := by kernel_rfl
theorem kCmpIsNaNInt : chkFB Go.Proofs.Tryd.prog Go.Proofs.Tryd.f74 qCmpIsNaNInt = true := by kernel_rfl
theorem look_mem : ∀ {l : List (Nat × Md × AFn)} {f : Nat} {m : Md} {q : AFn}, look l f = some (m, q) → (f, m, q) ∈ l
  | [], f, m, q, h => by simp [look] at h
  | (j, m', q') :: r, f, m, q, h => by
    unfold look at h
    split at h
    · rename_i he; subst he; simp at h; obtain ⟨rfl, rfl⟩ := h; simp
    · exact List.mem_cons_of_mem _ (look_mem h)
def Good (p : Nat × Md × AFn) : Prop := ∃ fn, Go.Proofs.Tryd.prog.funcs[p.1]? = some fn ∧ chkFB Go.Proofs.Tryd.prog fn p.2.2 = true
def All (G : Nat × Md × AFn → Prop) : List (Nat × Md × AFn) → Prop
  | [] => True
  | p :: r => G p ∧ All G r
theorem All.get {G : Nat × Md × AFn → Prop} : ∀ {l : List (Nat × Md × AFn)}, All G l → ∀ p ∈ l, G p
  | [], _, p, h => by simp at h
  | q :: r, h, p, hp => by
    rcases List.mem_cons.1 hp with e | e
    · subst e; exact h.1
    · exact All.get h.2 p e
theorem allGood : All Good fns := ⟨⟨_, Go.Proofs.Tryd.func3, kLaw24CliquesEdges⟩, ⟨_, Go.Proofs.Tryd.func5, kMakeFew⟩, ⟨_, Go.Proofs.Tryd.func6, kLaw24Awake⟩, ⟨_, Go.Proofs.Tryd.func7, kMakeNew⟩, ⟨_, Go.Proofs.Tryd.func8, kMakeGraph⟩, ⟨_, Go.Proofs.Tryd.func9, kMakeDeckNext⟩, ⟨_, Go.Proofs.Tryd.func10, kGraphAdd⟩, ⟨_, Go.Proofs.Tryd.func11, kCliquesAll⟩, ⟨_, Go.Proofs.Tryd.func12, kRef02Cmp⟩, ⟨_, Go.Proofs.Tryd.func13, kRef02Has⟩, ⟨_, Go.Proofs.Tryd.func14, kRef02Within⟩, ⟨_, Go.Proofs.Tryd.func21, kCliquesIs⟩, ⟨_, Go.Proofs.Tryd.func22, kCliquesExtend⟩, ⟨_, Go.Proofs.Tryd.func23, kRef03Of⟩, ⟨_, Go.Proofs.Tryd.func24, kCliquesCheck⟩, ⟨_, Go.Proofs.Tryd.func25, kMakeMod⟩, ⟨_, Go.Proofs.Tryd.func26, kGraphChange⟩, ⟨_, Go.Proofs.Tryd.func27, kGraphPlace⟩, ⟨_, Go.Proofs.Tryd.func28, kSlicesInsertApiEdgeApiEdge⟩, ⟨_, Go.Proofs.Tryd.func29, kSlicesCloneApiEdgeApiEdge⟩, ⟨_, Go.Proofs.Tryd.func30, kGraphEdge⟩, ⟨_, Go.Proofs.Tryd.func31, kGraphCheck⟩, ⟨_, Go.Proofs.Tryd.func32, kCliquesEach⟩, ⟨_, Go.Proofs.Tryd.func33, kCliquesAll1⟩, ⟨_, Go.Proofs.Tryd.func34, kCliquesCommon⟩, ⟨_, Go.Proofs.Tryd.func35, kCliquesMasks⟩, ⟨_, Go.Proofs.Tryd.func36, kGraphEnds⟩, ⟨_, Go.Proofs.Tryd.func38, kGraphOrder⟩, ⟨_, Go.Proofs.Tryd.func42, kNodesetValid⟩, ⟨_, Go.Proofs.Tryd.func43, kCliquesClique⟩, ⟨_, Go.Proofs.Tryd.func44, kSlicesCloneIntInt⟩, ⟨_, Go.Proofs.Tryd.func45, kMathBitsTrailingZeros64⟩, ⟨_, Go.Proofs.Tryd.func46, kSlicesSortIntInt⟩, ⟨_, Go.Proofs.Tryd.func47, kRef03Ends⟩, ⟨_, Go.Proofs.Tryd.func48, kRef03With⟩, ⟨_, Go.Proofs.Tryd.func49, kRef03Edge⟩, ⟨_, Go.Proofs.Tryd.func50, kCliquesCheck1⟩, ⟨_, Go.Proofs.Tryd.func51, kSlicesEqualIntInt⟩, ⟨_, Go.Proofs.Tryd.func52, kSlicesBinarySearchFuncApiEdgeApiEdgeApiEdge⟩, ⟨_, Go.Proofs.Tryd.func55, kCliquesEach1⟩, ⟨_, Go.Proofs.Tryd.func56, kCliquesAllN56⟩, ⟨_, Go.Proofs.Tryd.func59, kCmpOrInt⟩, ⟨_, Go.Proofs.Tryd.func60, kCmpCompareInt⟩, ⟨_, Go.Proofs.Tryd.func62, kRef03Before⟩, ⟨_, Go.Proofs.Tryd.func74, kCmpIsNaNInt⟩, trivial⟩
theorem cfgOK : CfgOKB Go.Proofs.Tryd.prog cfg := ⟨by kernel_rfl, fun f m q h => allGood.get _ (look_mem h)⟩
theorem gLaw24CliquesEdges : cfg.fn nLaw24CliquesEdges = some (⟨false, false, true⟩, qLaw24CliquesEdges) := rfl
theorem gMakeFew : cfg.fn nMakeFew = some (⟨false, false, true⟩, qMakeFew) := rfl
theorem gLaw24Awake : cfg.fn nLaw24Awake = some (⟨false, false, true⟩, qLaw24Awake) := rfl
theorem gMakeNew : cfg.fn nMakeNew = some (⟨true, false, false⟩, qMakeNew) := rfl
theorem gMakeGraph : cfg.fn nMakeGraph = some (⟨true, false, false⟩, qMakeGraph) := rfl
theorem gMakeDeckNext : cfg.fn nMakeDeckNext = some (⟨true, false, false⟩, qMakeDeckNext) := rfl
theorem gGraphAdd : cfg.fn nGraphAdd = some (⟨false, false, false⟩, qGraphAdd) := rfl
theorem gCliquesAll : cfg.fn nCliquesAll = some (⟨false, false, false⟩, qCliquesAll) := rfl
theorem gRef02Cmp : cfg.fn nRef02Cmp = some (⟨false, false, true⟩, qRef02Cmp) := rfl
theorem gRef02Has : cfg.fn nRef02Has = some (⟨false, false, true⟩, qRef02Has) := rfl
theorem gRef02Within : cfg.fn nRef02Within = some (⟨false, false, true⟩, qRef02Within) := rfl
theorem gMakeMod : cfg.fn nMakeMod = some (⟨false, false, true⟩, qMakeMod) := rfl
theorem gGraphChange : cfg.fn nGraphChange = some (⟨false, false, true⟩, qGraphChange) := rfl
theorem gGraphPlace : cfg.fn nGraphPlace = some (⟨false, false, true⟩, qGraphPlace) := rfl
theorem gSlicesInsertApiEdgeApiEdge : cfg.fn nSlicesInsertApiEdgeApiEdge = some (⟨false, true, true⟩, qSlicesInsertApiEdgeApiEdge) := rfl
theorem gSlicesCloneApiEdgeApiEdge : cfg.fn nSlicesCloneApiEdgeApiEdge = some (⟨false, true, true⟩, qSlicesCloneApiEdgeApiEdge) := rfl
theorem gGraphEdge : cfg.fn nGraphEdge = some (⟨false, false, false⟩, qGraphEdge) := rfl
theorem gGraphCheck : cfg.fn nGraphCheck = some (⟨false, false, true⟩, qGraphCheck) := rfl
theorem gCliquesEach : cfg.fn nCliquesEach = some (⟨true, false, false⟩, qCliquesEach) := rfl
theorem gCliquesAll1 : cfg.fn nCliquesAll1 = some (⟨true, false, false⟩, qCliquesAll1) := rfl
theorem gCliquesMasks : cfg.fn nCliquesMasks = some (⟨false, false, false⟩, qCliquesMasks) := rfl
theorem gGraphEnds : cfg.fn nGraphEnds = some (⟨false, false, true⟩, qGraphEnds) := rfl
theorem gGraphOrder : cfg.fn nGraphOrder = some (⟨false, false, true⟩, qGraphOrder) := rfl
theorem gSlicesCloneIntInt : cfg.fn nSlicesCloneIntInt = some (⟨false, true, true⟩, qSlicesCloneIntInt) := rfl
theorem gMathBitsTrailingZeros64 : cfg.fn nMathBitsTrailingZeros64 = some (⟨false, false, true⟩, qMathBitsTrailingZeros64) := rfl
theorem gSlicesSortIntInt : cfg.fn nSlicesSortIntInt = some (⟨false, false, true⟩, qSlicesSortIntInt) := rfl
theorem gSlicesBinarySearchFuncApiEdgeApiEdgeApiEdge : cfg.fn nSlicesBinarySearchFuncApiEdgeApiEdgeApiEdge = some (⟨false, false, true⟩, qSlicesBinarySearchFuncApiEdgeApiEdgeApiEdge) := rfl
theorem gCliquesEach1 : cfg.fn nCliquesEach1 = some (⟨true, false, false⟩, qCliquesEach1) := rfl
theorem gCliquesAllN56 : cfg.fn nCliquesAllN56 = some (⟨false, false, true⟩, qCliquesAllN56) := rfl
theorem gCmpOrInt : cfg.fn nCmpOrInt = some (⟨false, false, true⟩, qCmpOrInt) := rfl
theorem gCmpCompareInt : cfg.fn nCmpCompareInt = some (⟨false, false, true⟩, qCmpCompareInt) := rfl
theorem gCmpIsNaNInt : cfg.fn nCmpIsNaNInt = some (⟨false, false, true⟩, qCmpIsNaNInt) := rfl
end Go.BmP
