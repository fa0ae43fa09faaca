/- The compact code of the functions, printed by program off the translation. -/
import Derived.Test.YtikffbngaolphaaDoorChecked
import Derived.Test.YtikffbngaolphaaDoorBmA
import Derived.KernelRfl
set_option maxRecDepth 100000
namespace Go.BmP
open Go.Am Go.Bm
def nLaw27BicliqueCrowns : Nat := 4
def nLaw27Awake : Nat := 9
def nRef02Range : Nat := 13
def nBicliqueAll : Nat := 14
def nBicliqueBest : Nat := 16
def nBicliqueCheck : Nat := 27
def nRef03Of : Nat := 36
def nRef02Cmp : Nat := 37
def nBicliqueOf : Nat := 39
def nBicliqueSidesEach : Nat := 40
def nBicliqueAll1 : Nat := 41
def nBicliqueBest1 : Nat := 42
def nNodesetValid : Nat := 45
def nBicliqueMask : Nat := 46
def nBicliqueSidesOnLeft : Nat := 48
def nBicliqueList : Nat := 50
def nRef03Edge : Nat := 52
def nGraphCheck : Nat := 53
def nSlicesContainsFuncApiEdgeApiEdge : Nat := 54
def nBicliqueCheck1 : Nat := 55
def nRef03Ends : Nat := 61
def nRef03With : Nat := 62
def nBicliqueSidesEach1 : Nat := 64
def nBicliqueBehind : Nat := 65
def nMathBitsTrailingZeros64 : Nat := 66
def nSlicesCloneIntInt : Nat := 67
def nBicliqueSidesCommon : Nat := 68
def nRef03Before : Nat := 70
def nGraphOrder : Nat := 71
def nSlicesIndexFuncApiEdgeApiEdge : Nat := 72
def nCmpOrInt : Nat := 76
def nCmpCompareInt : Nat := 77
def nCmpIsNaNInt : Nat := 80
/- cohesion/cohesionlaw27.BicliqueCrowns -/
def rLaw27BicliqueCrownsX0 : List O := [
  ⟨(some 4), none, .mv (.k (.bool false))⟩]
def rLaw27BicliqueCrownsX1 : List O := [
  ⟨(some 18), none, .mv (.t 0)⟩,
  ⟨(some 19), none, .bin .rem (.t 18) (.k (.int .u8 5))⟩,
  ⟨(some 20), none, .cvt .i64 (.t 19)⟩,
  ⟨(some 21), none, .bin .add (.k (.int .i64 2)) (.t 20)⟩,
  ⟨(some 5), none, .mv (.t 21)⟩]
def rLaw27BicliqueCrownsX2 : List O := [
  ⟨(some 22), none, .mv (.t 5)⟩,
  ⟨(some 23), none, .bin .mul (.k (.int .i64 2)) (.t 22)⟩,
  ⟨(some 24), none, .build [(.int .i64 0), (.own 2 [])] [(0, 1, (.t 23))]⟩,
  ⟨(some 6), none, .new [(.int .i64 0), (.own 2 [])]⟩,
  ⟨none, none, .st 2 (.t 6) (.t 24)⟩]
def rLaw27BicliqueCrownsX3 : List O := [
  ⟨(some 7), none, .mv (.k (.int .i64 0))⟩]
def rLaw27BicliqueCrownsX4 : List O := [
  ⟨(some 25), none, .mv (.t 7)⟩,
  ⟨(some 26), none, .mv (.t 5)⟩,
  ⟨(some 27), none, .bin .lss (.t 25) (.t 26)⟩]
def rLaw27BicliqueCrownsX5 : List O := [
  ⟨(some 8), none, .mv (.k (.int .i64 0))⟩]
def rLaw27BicliqueCrownsX6 : List O := [
  ⟨(some 30), none, .mv (.t 8)⟩,
  ⟨(some 31), none, .mv (.t 5)⟩,
  ⟨(some 32), none, .bin .lss (.t 30) (.t 31)⟩]
def rLaw27BicliqueCrownsX7 : List O := [
  ⟨(some 35), none, .mv (.t 7)⟩,
  ⟨(some 36), none, .mv (.t 8)⟩,
  ⟨(some 37), none, .bin .neq (.t 35) (.t 36)⟩,
  ⟨(some 38), none, .mv (.t 37)⟩,
  ⟨(some 39), (some (38, false)), .mv (.t 1)⟩,
  ⟨(some 40), none, .pick (.t 38) (.k (.bool true)) (.t 39)⟩]
def rLaw27BicliqueCrownsX8 : List O := [
  ⟨(some 41), none, .fad 1 (.t 6)⟩,
  ⟨(some 42), none, .ld none (.t 41)⟩,
  ⟨(some 43), none, .mv (.t 7)⟩,
  ⟨(some 44), none, .mv (.t 5)⟩,
  ⟨(some 45), none, .mv (.t 8)⟩,
  ⟨(some 46), none, .bin .add (.t 44) (.t 45)⟩,
  ⟨(some 47), none, .build [(.int .i64 0), (.int .i64 0)] [(0, 1, (.t 43)), (1, 1, (.t 46))]⟩,
  ⟨(some 48), none, .bslice 2 1 [(.int .i64 0), (.int .i64 0)] [(0, 2, (.t 47))]⟩,
  ⟨(some 49), none, .app 2 (.t 42) (.t 48)⟩,
  ⟨(some 50), none, .fad 1 (.t 6)⟩,
  ⟨none, none, .st 1 (.t 50) (.t 49)⟩]
def rLaw27BicliqueCrownsX9 : List O := [
  ⟨(some 33), none, .mv (.t 8)⟩,
  ⟨(some 34), none, .bin .add (.t 33) (.k (.int .i64 1))⟩,
  ⟨(some 8), none, .mv (.t 34)⟩]
def lLaw27BicliqueCrownsX0 : C := (.seq (.seq (.reg rLaw27BicliqueCrownsX6 false [] [1, 5, 6, 7, 8, 32]) (.cond (.t 32) .skip (.exit 2))) (.seq (.blk 3 (.seq (.reg rLaw27BicliqueCrownsX7 false [] [1, 5, 6, 7, 8, 40]) (.cond (.t 40) (.reg rLaw27BicliqueCrownsX8 false [] [1, 5, 6, 7, 8]) .skip))) (.reg rLaw27BicliqueCrownsX9 false [] [1, 5, 6, 7, 8])))
def rLaw27BicliqueCrownsX10 : List O := [
  ⟨(some 28), none, .mv (.t 7)⟩,
  ⟨(some 29), none, .bin .add (.t 28) (.k (.int .i64 1))⟩,
  ⟨(some 7), none, .mv (.t 29)⟩]
def lLaw27BicliqueCrownsX1 : C := (.seq (.seq (.reg rLaw27BicliqueCrownsX4 false [] [1, 5, 6, 7, 27]) (.cond (.t 27) .skip (.exit 0))) (.seq (.blk 1 (.seq (.reg rLaw27BicliqueCrownsX5 false [] [1, 5, 6, 7, 8]) (.blk 2 (.loop lLaw27BicliqueCrownsX0)))) (.reg rLaw27BicliqueCrownsX10 false [] [1, 5, 6, 7])))
def rLaw27BicliqueCrownsX11 : List O := [
  ⟨(some 51), none, .ld (some 2) (.t 6)⟩,
  ⟨(some 52), none, .mv (.t 5)⟩,
  ⟨(some 53), none, .call nRef02Range [(.t 52)]⟩,
  ⟨(some 54), none, .build [(.int .i64 0), (.own 2 []), (.own 1 [])] [(0, 2, (.t 51)), (2, 1, (.t 53))]⟩,
  ⟨(some 9), none, .new [(.int .i64 0), (.own 2 []), (.own 1 [])]⟩,
  ⟨none, none, .st 3 (.t 9) (.t 54)⟩]
def rLaw27BicliqueCrownsX12 : List O := [
  ⟨(some 55), none, .mv (.t 5)⟩,
  ⟨(some 56), none, .cvt .u64 (.t 55)⟩,
  ⟨(some 57), none, .bin .shl (.k (.int .i64 1)) (.t 56)⟩,
  ⟨(some 58), none, .bin .sub (.t 57) (.k (.int .i64 2))⟩,
  ⟨(some 10), none, .mv (.t 58)⟩]
def rLaw27BicliqueCrownsX13 : List O := [
  ⟨(some 59), none, .mv (.t 1)⟩]
def rLaw27BicliqueCrownsX14 : List O := [
  ⟨(some 10), none, .mv (.k (.int .i64 1))⟩]
def rLaw27BicliqueCrownsX15 : List O := [
  ⟨(some 61), none, .ld (some 3) (.t 9)⟩,
  ⟨(some 62), none, .mv (.t 10)⟩,
  ⟨(some 63), none, .call nBicliqueAll [(.t 61), (.t 62)]⟩,
  ⟨(some 60), none, .mv (.t 63)⟩,
  ⟨(some 64), none, .ext 0 (.t 60)⟩,
  ⟨(some 65), none, .ext 1 (.t 60)⟩,
  ⟨(some 11), none, .mv (.t 64)⟩,
  ⟨(some 12), none, .mv (.t 65)⟩]
def rLaw27BicliqueCrownsX16 : List O := [
  ⟨(some 67), none, .ld (some 3) (.t 9)⟩,
  ⟨(some 68), none, .mv (.t 10)⟩,
  ⟨(some 69), none, .bin .sub (.t 68) (.k (.int .i64 1))⟩,
  ⟨(some 70), none, .call nBicliqueAll [(.t 67), (.t 69)]⟩,
  ⟨(some 66), none, .mv (.t 70)⟩,
  ⟨(some 71), none, .ext 0 (.t 66)⟩,
  ⟨(some 72), none, .ext 1 (.t 66)⟩,
  ⟨(some 13), none, .mv (.t 71)⟩,
  ⟨(some 14), none, .mv (.t 72)⟩]
def rLaw27BicliqueCrownsX17 : List O := [
  ⟨(some 74), none, .ld (some 3) (.t 9)⟩,
  ⟨(some 75), none, .call nBicliqueBest [(.t 74)]⟩,
  ⟨(some 73), none, .mv (.t 75)⟩,
  ⟨(some 76), none, .ext 0 (.t 73)⟩,
  ⟨(some 77), none, .ext 1 (.t 73)⟩,
  ⟨(some 15), none, .new [(.own 1 []), (.own 1 [])]⟩,
  ⟨none, none, .st 2 (.t 15) (.t 76)⟩,
  ⟨(some 16), none, .mv (.t 77)⟩]
def rLaw27BicliqueCrownsX18 : List O := [
  ⟨(some 78), none, .fad 0 (.t 15)⟩,
  ⟨(some 79), none, .ld none (.t 78)⟩,
  ⟨(some 80), none, .len (.t 79)⟩,
  ⟨(some 81), none, .fad 1 (.t 15)⟩,
  ⟨(some 82), none, .ld none (.t 81)⟩,
  ⟨(some 83), none, .len (.t 82)⟩,
  ⟨(some 84), none, .bin .mul (.t 80) (.t 83)⟩,
  ⟨(some 17), none, .mv (.t 84)⟩]
def rLaw27BicliqueCrownsX19 : List O := [
  ⟨(some 85), none, .mv (.t 12)⟩,
  ⟨(some 86), none, .bin .eql (.t 85) (.k (.int .i64 0))⟩,
  ⟨(some 87), none, .mv (.t 86)⟩,
  ⟨(some 88), (some (87, true)), .mv (.t 11)⟩,
  ⟨(some 89), (some (87, true)), .len (.t 88)⟩,
  ⟨(some 90), (some (87, true)), .mv (.t 10)⟩,
  ⟨(some 91), (some (87, true)), .bin .eql (.t 89) (.t 90)⟩,
  ⟨(some 92), none, .pick (.t 87) (.t 91) (.k (.bool false))⟩,
  ⟨(some 93), none, .mv (.t 92)⟩,
  ⟨(some 94), (some (93, true)), .mv (.t 14)⟩,
  ⟨(some 95), (some (93, true)), .bin .eql (.t 94) (.k (.int .i64 3))⟩,
  ⟨(some 96), none, .pick (.t 93) (.t 95) (.k (.bool false))⟩,
  ⟨(some 97), none, .mv (.t 96)⟩,
  ⟨(some 98), (some (97, true)), .mv (.t 16)⟩,
  ⟨(some 99), (some (97, true)), .bin .eql (.t 98) (.k (.int .i64 0))⟩,
  ⟨(some 100), none, .pick (.t 97) (.t 99) (.k (.bool false))⟩,
  ⟨(some 101), none, .mv (.t 100)⟩,
  ⟨(some 102), (some (101, true)), .mv (.t 1)⟩,
  ⟨(some 103), (some (101, true)), .mv (.t 102)⟩,
  ⟨(some 104), (some (103, true)), .mv (.t 17)⟩,
  ⟨(some 105), (some (103, true)), .mv (.t 5)⟩,
  ⟨(some 106), (some (103, true)), .mv (.t 5)⟩,
  ⟨(some 107), (some (103, true)), .bin .mul (.t 105) (.t 106)⟩,
  ⟨(some 108), (some (103, true)), .bin .eql (.t 104) (.t 107)⟩,
  ⟨(some 109), (some (101, true)), .pick (.t 103) (.t 108) (.k (.bool false))⟩,
  ⟨(some 110), (some (101, true)), .mv (.t 109)⟩,
  ⟨(some 111), (some (110, false)), .mv (.t 1)⟩,
  ⟨(some 112), (some (110, false)), .un .not (.t 111)⟩,
  ⟨(some 113), (some (110, false)), .mv (.t 112)⟩,
  ⟨(some 114), (some (113, true)), .mv (.t 17)⟩,
  ⟨(some 115), (some (113, true)), .mv (.t 5)⟩,
  ⟨(some 116), (some (113, true)), .bin .quo (.t 115) (.k (.int .i64 2))⟩,
  ⟨(some 117), (some (113, true)), .mv (.t 5)⟩,
  ⟨(some 118), (some (113, true)), .mv (.t 5)⟩,
  ⟨(some 119), (some (113, true)), .bin .quo (.t 118) (.k (.int .i64 2))⟩,
  ⟨(some 120), (some (113, true)), .bin .sub (.t 117) (.t 119)⟩,
  ⟨(some 121), (some (113, true)), .bin .mul (.t 116) (.t 120)⟩,
  ⟨(some 122), (some (113, true)), .bin .eql (.t 114) (.t 121)⟩,
  ⟨(some 123), (some (110, false)), .pick (.t 113) (.t 122) (.k (.bool false))⟩,
  ⟨(some 124), (some (101, true)), .pick (.t 110) (.k (.bool true)) (.t 123)⟩,
  ⟨(some 125), none, .pick (.t 101) (.t 124) (.k (.bool false))⟩,
  ⟨(some 126), none, .mv (.t 125)⟩,
  ⟨(some 127), (some (126, true)), .call nLaw27Awake []⟩,
  ⟨(some 128), none, .pick (.t 126) (.t 127) (.k (.bool false))⟩,
  ⟨(some 4), none, .mv (.t 128)⟩]
def cLaw27BicliqueCrowns : C := (.seq (.reg rLaw27BicliqueCrownsX0 false [] [0, 1]) (.seq (.reg rLaw27BicliqueCrownsX1 false [] [1, 5]) (.seq (.reg rLaw27BicliqueCrownsX2 false [] [1, 5, 6]) (.seq (.seq (.reg rLaw27BicliqueCrownsX3 false [] [1, 5, 6, 7]) (.blk 0 (.loop lLaw27BicliqueCrownsX1))) (.seq (.reg rLaw27BicliqueCrownsX11 true [(5, 5), (0, 1), (0, 2), (0, 4), (1, 4), (2, 4), (3, 4)] [1, 5, 9]) (.seq (.reg rLaw27BicliqueCrownsX12 false [] [1, 5, 9, 10]) (.seq (.seq (.reg rLaw27BicliqueCrownsX13 false [] [1, 5, 9, 10, 59]) (.cond (.t 59) (.reg rLaw27BicliqueCrownsX14 false [] [1, 5, 9, 10]) .skip)) (.seq (.reg rLaw27BicliqueCrownsX15 false [] [1, 5, 9, 10, 11, 12]) (.seq (.reg rLaw27BicliqueCrownsX16 false [] [1, 5, 9, 10, 11, 12, 14]) (.seq (.reg rLaw27BicliqueCrownsX17 false [] [1, 5, 10, 11, 12, 14, 15, 16]) (.seq (.reg rLaw27BicliqueCrownsX18 false [] [1, 5, 10, 11, 12, 14, 16, 17]) (.seq (.reg rLaw27BicliqueCrownsX19 false [] [4]) .ret))))))))))))
def qLaw27BicliqueCrowns : AFn := ⟨129, 2, [.t 4], cLaw27BicliqueCrowns⟩
/- cohesion/cohesionlaw27.awake -/
def rLaw27AwakeX0 : List O := [
  ⟨(some 0), none, .mv (.k (.bool false))⟩]
def rLaw27AwakeX1 : List O := [
  ⟨(some 6), none, .build [(.int .i64 0), (.int .i64 0)] [(0, 1, (.k (.int .i64 0))), (1, 1, (.k (.int .i64 2)))]⟩,
  ⟨(some 7), none, .build [(.int .i64 0), (.int .i64 0)] [(0, 1, (.k (.int .i64 1))), (1, 1, (.k (.int .i64 2)))]⟩,
  ⟨(some 8), none, .bslice 2 2 [(.int .i64 0), (.int .i64 0)] [(0, 2, (.t 6)), (2, 2, (.t 7))]⟩,
  ⟨(some 9), none, .call nRef03Of [(.k (.int .i64 3)), (.t 8)]⟩,
  ⟨(some 5), none, .mv (.t 9)⟩,
  ⟨(some 10), none, .ext 0 (.t 5)⟩,
  ⟨(some 11), none, .ext 1 (.t 5)⟩,
  ⟨(some 1), none, .new [(.int .i64 0), (.own 2 [])]⟩,
  ⟨none, none, .st 2 (.t 1) (.t 10)⟩,
  ⟨(some 2), none, .mv (.t 11)⟩]
def rLaw27AwakeX2 : List O := [
  ⟨(some 13), none, .ld (some 2) (.t 1)⟩,
  ⟨(some 14), none, .bslice 1 2 [(.int .i64 0)] [(0, 1, (.k (.int .i64 0))), (1, 1, (.k (.int .i64 1)))]⟩,
  ⟨(some 15), none, .build [(.int .i64 0), (.own 2 []), (.own 1 [])] [(0, 2, (.t 13)), (2, 1, (.t 14))]⟩,
  ⟨(some 16), none, .call nBicliqueAll [(.t 15), (.k (.int .i64 9))]⟩,
  ⟨(some 12), none, .mv (.t 16)⟩,
  ⟨(some 17), none, .ext 0 (.t 12)⟩,
  ⟨(some 18), none, .ext 1 (.t 12)⟩,
  ⟨(some 3), none, .mv (.t 17)⟩,
  ⟨(some 4), none, .mv (.t 18)⟩]
def rLaw27AwakeX3 : List O := [
  ⟨(some 19), none, .mv (.t 4)⟩,
  ⟨(some 20), none, .bin .eql (.t 19) (.k (.int .i64 0))⟩,
  ⟨(some 21), none, .mv (.t 20)⟩,
  ⟨(some 22), (some (21, true)), .mv (.t 3)⟩,
  ⟨(some 23), (some (21, true)), .len (.t 22)⟩,
  ⟨(some 24), (some (21, true)), .bin .eql (.t 23) (.k (.int .i64 1))⟩,
  ⟨(some 25), none, .pick (.t 21) (.t 24) (.k (.bool false))⟩,
  ⟨(some 26), none, .mv (.t 25)⟩,
  ⟨(some 27), (some (26, true)), .mv (.t 3)⟩,
  ⟨(some 28), (some (26, true)), .ixa 2 (.t 27) (.k (.int .i64 0))⟩,
  ⟨(some 29), (some (26, true)), .fad 0 (.t 28)⟩,
  ⟨(some 30), (some (26, true)), .ld none (.t 29)⟩,
  ⟨(some 31), (some (26, true)), .bslice 1 2 [(.int .i64 0)] [(0, 1, (.k (.int .i64 0))), (1, 1, (.k (.int .i64 1)))]⟩,
  ⟨(some 32), (some (26, true)), .call nRef02Cmp [(.t 30), (.t 31)]⟩,
  ⟨(some 33), (some (26, true)), .bin .eql (.t 32) (.k (.int .i64 0))⟩,
  ⟨(some 34), none, .pick (.t 26) (.t 33) (.k (.bool false))⟩,
  ⟨(some 35), none, .mv (.t 34)⟩,
  ⟨(some 36), (some (35, true)), .mv (.t 3)⟩,
  ⟨(some 37), (some (35, true)), .ixa 2 (.t 36) (.k (.int .i64 0))⟩,
  ⟨(some 38), (some (35, true)), .fad 1 (.t 37)⟩,
  ⟨(some 39), (some (35, true)), .ld none (.t 38)⟩,
  ⟨(some 40), (some (35, true)), .bslice 1 1 [(.int .i64 0)] [(0, 1, (.k (.int .i64 2)))]⟩,
  ⟨(some 41), (some (35, true)), .call nRef02Cmp [(.t 39), (.t 40)]⟩,
  ⟨(some 42), (some (35, true)), .bin .eql (.t 41) (.k (.int .i64 0))⟩,
  ⟨(some 43), none, .pick (.t 35) (.t 42) (.k (.bool false))⟩,
  ⟨(some 0), none, .mv (.t 43)⟩]
def cLaw27Awake : C := (.seq (.reg rLaw27AwakeX0 false [] []) (.seq (.reg rLaw27AwakeX1 false [] [1]) (.seq (.reg rLaw27AwakeX2 false [] [3, 4]) (.seq (.reg rLaw27AwakeX3 false [] [0]) .ret))))
def qLaw27Awake : AFn := ⟨44, 0, [.t 0], cLaw27Awake⟩
/- cohesion/cohesionref02.Range -/
def rRef02RangeX0 : List O := [
  ⟨(some 2), none, .mv (.k (.own 1 []))⟩]
def rRef02RangeX1 : List O := [
  ⟨(some 3), none, .mv (.k (.own 1 []))⟩]
def rRef02RangeX2 : List O := [
  ⟨(some 4), none, .mv (.k (.int .i64 0))⟩]
def rRef02RangeX3 : List O := [
  ⟨(some 5), none, .mv (.t 4)⟩,
  ⟨(some 6), none, .mv (.t 0)⟩,
  ⟨(some 7), none, .bin .lss (.t 5) (.t 6)⟩,
  ⟨(some 8), none, .mv (.t 7)⟩,
  ⟨(some 9), (some (8, true)), .mv (.t 4)⟩,
  ⟨(some 10), (some (8, true)), .bin .lss (.t 9) (.k (.int .i64 64))⟩,
  ⟨(some 11), none, .pick (.t 8) (.t 10) (.k (.bool false))⟩]
def rRef02RangeX4 : List O := [
  ⟨(some 14), none, .mv (.t 3)⟩,
  ⟨(some 15), none, .mv (.t 4)⟩,
  ⟨(some 16), none, .bslice 1 1 [(.int .i64 0)] [(0, 1, (.t 15))]⟩,
  ⟨(some 17), none, .app 1 (.t 14) (.t 16)⟩,
  ⟨(some 3), none, .mv (.t 17)⟩]
def rRef02RangeX5 : List O := [
  ⟨(some 12), none, .mv (.t 4)⟩,
  ⟨(some 13), none, .bin .add (.t 12) (.k (.int .i64 1))⟩,
  ⟨(some 4), none, .mv (.t 13)⟩]
def lRef02RangeX0 : C := (.seq (.seq (.reg rRef02RangeX3 false [] [0, 3, 4, 11]) (.cond (.t 11) .skip (.exit 0))) (.seq (.blk 1 (.reg rRef02RangeX4 false [] [0, 3, 4])) (.reg rRef02RangeX5 false [] [0, 3, 4])))
def rRef02RangeX6 : List O := [
  ⟨(some 18), none, .mv (.t 3)⟩,
  ⟨(some 2), none, .mv (.t 18)⟩]
def cRef02Range : C := (.seq (.reg rRef02RangeX0 false [] [0]) (.seq (.reg rRef02RangeX1 false [] [0, 3]) (.seq (.seq (.reg rRef02RangeX2 false [] [0, 3, 4]) (.blk 0 (.loop lRef02RangeX0))) (.seq (.reg rRef02RangeX6 false [] [2]) .ret))))
def qRef02Range : AFn := ⟨19, 1, [.t 2], cRef02Range⟩
/- cohesion/biclique.All -/
def rBicliqueAllX0 : List O := [
  ⟨(some 2), none, .box (.t 0)⟩,
  ⟨(some 3), none, .box (.t 1)⟩,
  ⟨(some 4), none, .mv (.k (.own 2 []))⟩,
  ⟨(some 5), none, .mv (.k (.int .i64 0))⟩]
def rBicliqueAllX1 : List O := [
  ⟨(some 8), none, .ld (some 3) (.t 2)⟩,
  ⟨(some 9), none, .call nBicliqueCheck [(.t 8)]⟩,
  ⟨(some 6), none, .mv (.t 9)⟩]
def rBicliqueAllX2 : List O := [
  ⟨(some 10), none, .mv (.t 6)⟩,
  ⟨(some 11), none, .bin .neq (.t 10) (.k (.int .i64 0))⟩]
def rBicliqueAllX3 : List O := [
  ⟨(some 12), none, .mv (.t 6)⟩,
  ⟨(some 4), none, .mv (.k (.own 2 []))⟩,
  ⟨(some 5), none, .mv (.t 12)⟩]
def rBicliqueAllX4 : List O := [
  ⟨(some 13), none, .ld none (.t 3)⟩,
  ⟨(some 14), none, .bin .lss (.t 13) (.k (.int .i64 0))⟩,
  ⟨(some 15), none, .mv (.t 14)⟩,
  ⟨(some 16), (some (15, false)), .ld none (.t 3)⟩,
  ⟨(some 17), (some (15, false)), .bin .gtr (.t 16) (.k (.int .i64 4096))⟩,
  ⟨(some 18), none, .pick (.t 15) (.k (.bool true)) (.t 17)⟩]
def rBicliqueAllX5 : List O := [
  ⟨(some 4), none, .mv (.k (.own 2 []))⟩,
  ⟨(some 5), none, .mv (.k (.int .i64 1))⟩]
def rBicliqueAllX6 : List O := [
  ⟨(some 7), none, .new [(.own 2 [])]⟩]
def rBicliqueAllX7 : List O := [
  ⟨(some 19), none, .ld (some 3) (.t 2)⟩,
  ⟨(some 20), none, .call nBicliqueOf [(.t 19)]⟩,
  ⟨(some 21), none, .mkf (.func nBicliqueAll1) [] [(.t 7), (.t 3)]⟩,
  ⟨(some 22), none, .call nBicliqueSidesEach [(.t 20), (.k (.own 1 [])), (.t 21)]⟩]
def rBicliqueAllX8 : List O := [
  ⟨(some 23), none, .ld none (.t 7)⟩,
  ⟨(some 24), none, .len (.t 23)⟩,
  ⟨(some 25), none, .ld none (.t 3)⟩,
  ⟨(some 26), none, .bin .gtr (.t 24) (.t 25)⟩]
def rBicliqueAllX9 : List O := [
  ⟨(some 4), none, .mv (.k (.own 2 []))⟩,
  ⟨(some 5), none, .mv (.k (.int .i64 3))⟩]
def rBicliqueAllX10 : List O := [
  ⟨(some 27), none, .ld none (.t 7)⟩,
  ⟨(some 4), none, .mv (.t 27)⟩,
  ⟨(some 5), none, .mv (.k (.int .i64 0))⟩]
def cBicliqueAll : C := (.seq (.reg rBicliqueAllX0 false [] [2, 3]) (.seq (.seq (.reg rBicliqueAllX1 false [] [2, 3, 6]) (.seq (.reg rBicliqueAllX2 false [] [2, 3, 6, 11]) (.cond (.t 11) (.seq (.reg rBicliqueAllX3 false [] [4, 5]) .ret) .skip))) (.seq (.seq (.reg rBicliqueAllX4 false [] [2, 3, 18]) (.cond (.t 18) (.seq (.reg rBicliqueAllX5 false [] [4, 5]) .ret) .skip)) (.seq (.reg rBicliqueAllX6 false [] [2, 3, 7]) (.seq (.reg rBicliqueAllX7 false [] [3, 7]) (.seq (.seq (.reg rBicliqueAllX8 false [] [7, 26]) (.cond (.t 26) (.seq (.reg rBicliqueAllX9 false [] [4, 5]) .ret) .skip)) (.seq (.reg rBicliqueAllX10 false [] [4, 5]) .ret)))))))
def qBicliqueAll : AFn := ⟨28, 2, [.t 4, .t 5], cBicliqueAll⟩
/- cohesion/biclique.Best -/
def rBicliqueBestX0 : List O := [
  ⟨(some 1), none, .box (.t 0)⟩,
  ⟨(some 2), none, .new [(.own 1 []), (.own 1 [])]⟩,
  ⟨(some 3), none, .mv (.k (.int .i64 0))⟩]
def rBicliqueBestX1 : List O := [
  ⟨(some 6), none, .ld (some 3) (.t 1)⟩,
  ⟨(some 7), none, .call nBicliqueCheck [(.t 6)]⟩,
  ⟨(some 4), none, .mv (.t 7)⟩]
def rBicliqueBestX2 : List O := [
  ⟨(some 8), none, .mv (.t 4)⟩,
  ⟨(some 9), none, .bin .neq (.t 8) (.k (.int .i64 0))⟩]
def rBicliqueBestX3 : List O := [
  ⟨(some 10), none, .build [(.own 1 []), (.own 1 [])] []⟩,
  ⟨(some 11), none, .mv (.t 4)⟩,
  ⟨none, none, .st 2 (.t 2) (.t 10)⟩,
  ⟨(some 3), none, .mv (.t 11)⟩]
def rBicliqueBestX4 : List O := [
  ⟨(some 5), none, .new [(.own 1 []), (.own 1 [])]⟩]
def rBicliqueBestX5 : List O := [
  ⟨(some 12), none, .ld (some 3) (.t 1)⟩,
  ⟨(some 13), none, .call nBicliqueOf [(.t 12)]⟩,
  ⟨(some 14), none, .mkf (.func nBicliqueBest1) [] [(.t 5)]⟩,
  ⟨(some 15), none, .call nBicliqueSidesEach [(.t 13), (.k (.own 1 [])), (.t 14)]⟩]
def rBicliqueBestX6 : List O := [
  ⟨(some 16), none, .fad 0 (.t 5)⟩,
  ⟨(some 17), none, .ld none (.t 16)⟩,
  ⟨(some 18), none, .len (.t 17)⟩,
  ⟨(some 19), none, .bin .eql (.t 18) (.k (.int .i64 0))⟩]
def rBicliqueBestX7 : List O := [
  ⟨(some 20), none, .build [(.own 1 []), (.own 1 [])] []⟩,
  ⟨none, none, .st 2 (.t 2) (.t 20)⟩,
  ⟨(some 3), none, .mv (.k (.int .i64 13))⟩]
def rBicliqueBestX8 : List O := [
  ⟨(some 21), none, .ld (some 2) (.t 5)⟩,
  ⟨none, none, .st 2 (.t 2) (.t 21)⟩,
  ⟨(some 3), none, .mv (.k (.int .i64 0))⟩]
def cBicliqueBest : C := (.seq (.reg rBicliqueBestX0 false [] [1, 2]) (.seq (.seq (.reg rBicliqueBestX1 false [] [1, 2, 4]) (.seq (.reg rBicliqueBestX2 false [] [1, 2, 4, 9]) (.cond (.t 9) (.seq (.reg rBicliqueBestX3 false [] [2, 3]) .ret) .skip))) (.seq (.reg rBicliqueBestX4 false [] [1, 2, 5]) (.seq (.reg rBicliqueBestX5 false [] [2, 5]) (.seq (.seq (.reg rBicliqueBestX6 false [] [2, 5, 19]) (.cond (.t 19) (.seq (.reg rBicliqueBestX7 false [] [2, 3]) .ret) .skip)) (.seq (.reg rBicliqueBestX8 false [] [2, 3]) .ret))))))
def qBicliqueBest : AFn := ⟨22, 1, [.c 2 (some 2), .t 3], cBicliqueBest⟩
/- cohesion/biclique.Check -/
def rBicliqueCheckX0 : List O := [
  ⟨(some 1), none, .box (.t 0)⟩,
  ⟨(some 2), none, .mv (.k (.int .i64 0))⟩]
def rBicliqueCheckX1 : List O := [
  ⟨(some 5), none, .fad 0 (.t 1)⟩,
  ⟨(some 6), none, .ld (some 2) (.t 5)⟩,
  ⟨(some 7), none, .call nGraphCheck [(.t 6)]⟩,
  ⟨(some 3), none, .mv (.t 7)⟩]
def rBicliqueCheckX2 : List O := [
  ⟨(some 8), none, .mv (.t 3)⟩,
  ⟨(some 9), none, .bin .neq (.t 8) (.k (.int .i64 0))⟩]
def rBicliqueCheckX3 : List O := [
  ⟨(some 10), none, .mv (.t 3)⟩,
  ⟨(some 2), none, .mv (.t 10)⟩]
def rBicliqueCheckX4 : List O := [
  ⟨(some 11), none, .fad 2 (.t 1)⟩,
  ⟨(some 12), none, .ld none (.t 11)⟩,
  ⟨(some 13), none, .fad 0 (.t 1)⟩,
  ⟨(some 14), none, .fad 0 (.t 13)⟩,
  ⟨(some 15), none, .ld none (.t 14)⟩,
  ⟨(some 16), none, .call nNodesetValid [(.t 12), (.t 15)]⟩,
  ⟨(some 17), none, .un .not (.t 16)⟩]
def rBicliqueCheckX5 : List O := [
  ⟨(some 2), none, .mv (.k (.int .i64 4))⟩]
def rBicliqueCheckX6 : List O := [
  ⟨(some 18), none, .fad 2 (.t 1)⟩,
  ⟨(some 19), none, .ld none (.t 18)⟩,
  ⟨(some 20), none, .call nBicliqueMask [(.t 19)]⟩,
  ⟨(some 4), none, .new [(.int .u64 0)]⟩,
  ⟨none, none, .st 1 (.t 4) (.t 20)⟩]
def rBicliqueCheckX7 : List O := [
  ⟨(some 21), none, .fad 0 (.t 1)⟩,
  ⟨(some 22), none, .fad 1 (.t 21)⟩,
  ⟨(some 23), none, .ld none (.t 22)⟩,
  ⟨(some 24), none, .mkf (.func nBicliqueCheck1) [] [(.t 4)]⟩,
  ⟨(some 25), none, .call nSlicesContainsFuncApiEdgeApiEdge [(.t 23), (.t 24)]⟩]
def rBicliqueCheckX8 : List O := [
  ⟨(some 2), none, .mv (.k (.int .i64 7))⟩]
def rBicliqueCheckX9 : List O := [
  ⟨(some 2), none, .mv (.k (.int .i64 0))⟩]
def cBicliqueCheck : C := (.seq (.reg rBicliqueCheckX0 false [] [1]) (.seq (.seq (.reg rBicliqueCheckX1 false [] [1, 3]) (.seq (.reg rBicliqueCheckX2 false [] [1, 3, 9]) (.cond (.t 9) (.seq (.reg rBicliqueCheckX3 false [] [2]) .ret) .skip))) (.seq (.seq (.reg rBicliqueCheckX4 false [] [1, 17]) (.cond (.t 17) (.seq (.reg rBicliqueCheckX5 false [] [2]) .ret) .skip)) (.seq (.reg rBicliqueCheckX6 false [] [1, 4]) (.seq (.seq (.reg rBicliqueCheckX7 false [] [25]) (.cond (.t 25) (.seq (.reg rBicliqueCheckX8 false [] [2]) .ret) .skip)) (.seq (.reg rBicliqueCheckX9 false [] [2]) .ret))))))
def qBicliqueCheck : AFn := ⟨26, 1, [.t 2], cBicliqueCheck⟩
/- cohesion/cohesionref03.Of -/
def rRef03OfX0 : List O := [
  ⟨(some 4), none, .new [(.int .i64 0), (.own 2 [])]⟩,
  ⟨(some 5), none, .mv (.k (.int .i64 0))⟩]
def rRef03OfX1 : List O := [
  ⟨(some 9), none, .mv (.t 0)⟩,
  ⟨(some 10), none, .bin .lss (.t 9) (.k (.int .i64 0))⟩,
  ⟨(some 11), none, .mv (.t 10)⟩,
  ⟨(some 12), (some (11, false)), .mv (.t 0)⟩,
  ⟨(some 13), (some (11, false)), .bin .gtr (.t 12) (.k (.int .i64 64))⟩,
  ⟨(some 14), none, .pick (.t 11) (.k (.bool true)) (.t 13)⟩]
def rRef03OfX2 : List O := [
  ⟨(some 15), none, .build [(.int .i64 0), (.own 2 [])] []⟩,
  ⟨none, none, .st 2 (.t 4) (.t 15)⟩,
  ⟨(some 5), none, .mv (.k (.int .i64 1))⟩]
def rRef03OfX3 : List O := [
  ⟨(some 16), none, .mv (.t 0)⟩,
  ⟨(some 17), none, .build [(.int .i64 0), (.own 2 [])] [(0, 1, (.t 16))]⟩,
  ⟨(some 6), none, .new [(.int .i64 0), (.own 2 [])]⟩,
  ⟨none, none, .st 2 (.t 6) (.t 17)⟩]
def rRef03OfX4 : List O := [
  ⟨(some 18), none, .mv (.t 1)⟩,
  ⟨(some 19), none, .len (.t 18)⟩,
  ⟨(some 20), none, .mv (.k (.int .i64 0))⟩]
def rRef03OfX5 : List O := [
  ⟨(some 21), none, .bin .lss (.t 20) (.t 19)⟩]
def rRef03OfX6 : List O := [
  ⟨(some 22), none, .ixa 2 (.t 18) (.t 20)⟩,
  ⟨(some 23), none, .ld (some 2) (.t 22)⟩,
  ⟨(some 8), none, .new [(.int .i64 0), (.int .i64 0)]⟩,
  ⟨none, none, .st 2 (.t 8) (.t 23)⟩]
def rRef03OfX7 : List O := [
  ⟨(some 24), none, .mv (.t 0)⟩,
  ⟨(some 25), none, .fad 0 (.t 8)⟩,
  ⟨(some 26), none, .ld none (.t 25)⟩,
  ⟨(some 27), none, .fad 1 (.t 8)⟩,
  ⟨(some 28), none, .ld none (.t 27)⟩,
  ⟨(some 29), none, .call nRef03Ends [(.t 24), (.t 26), (.t 28)]⟩,
  ⟨(some 30), none, .un .not (.t 29)⟩]
def rRef03OfX8 : List O := [
  ⟨(some 31), none, .build [(.int .i64 0), (.own 2 [])] []⟩,
  ⟨none, none, .st 2 (.t 4) (.t 31)⟩,
  ⟨(some 5), none, .mv (.k (.int .i64 6))⟩]
def rRef03OfX9 : List O := [
  ⟨(some 32), none, .fad 1 (.t 6)⟩,
  ⟨(some 33), none, .ld none (.t 32)⟩,
  ⟨(some 34), none, .fad 0 (.t 8)⟩,
  ⟨(some 35), none, .ld none (.t 34)⟩,
  ⟨(some 36), none, .fad 1 (.t 8)⟩,
  ⟨(some 37), none, .ld none (.t 36)⟩,
  ⟨(some 38), none, .call nRef03Edge [(.t 35), (.t 37)]⟩,
  ⟨(some 39), none, .call nRef03With [(.t 33), (.t 38)]⟩,
  ⟨(some 40), none, .fad 1 (.t 6)⟩,
  ⟨none, none, .st 1 (.t 40) (.t 39)⟩]
def rRef03OfX10 : List O := [
  ⟨(some 41), none, .bin .add (.t 20) (.k (.int .i64 1))⟩,
  ⟨(some 20), none, .mv (.t 41)⟩]
def lRef03OfX0 : C := (.seq (.reg rRef03OfX5 false [] [0, 4, 6, 18, 19, 20, 21]) (.seq (.cond (.t 21) .skip (.exit 0)) (.seq (.blk 1 (.seq (.reg rRef03OfX6 false [] [0, 4, 6, 8, 18, 19, 20]) (.seq (.seq (.reg rRef03OfX7 false [] [0, 4, 6, 8, 18, 19, 20, 30]) (.cond (.t 30) (.seq (.reg rRef03OfX8 false [] [4, 5]) .ret) .skip)) (.reg rRef03OfX9 true [(7, 7), (8, 8), (9, 9), (1, 2), (0, 3), (1, 3), (1, 4), (3, 4), (0, 5), (1, 5), (2, 5), (3, 5), (0, 6), (1, 6)] [0, 4, 6, 18, 19, 20])))) (.reg rRef03OfX10 false [] [0, 4, 6, 18, 19, 20]))))
def rRef03OfX11 : List O := [
  ⟨(some 42), none, .ld (some 2) (.t 6)⟩,
  ⟨none, none, .st 2 (.t 4) (.t 42)⟩,
  ⟨(some 5), none, .mv (.k (.int .i64 0))⟩]
def cRef03Of : C := (.seq (.reg rRef03OfX0 false [] [0, 1, 4]) (.seq (.seq (.reg rRef03OfX1 false [] [0, 1, 4, 14]) (.cond (.t 14) (.seq (.reg rRef03OfX2 false [] [4, 5]) .ret) .skip)) (.seq (.reg rRef03OfX3 false [] [0, 1, 4, 6]) (.seq (.seq (.reg rRef03OfX4 false [] [0, 4, 6, 18, 19, 20]) (.blk 0 (.loop lRef03OfX0))) (.seq (.reg rRef03OfX11 false [] [4, 5]) .ret)))))
def qRef03Of : AFn := ⟨43, 2, [.c 4 (some 2), .t 5], cRef03Of⟩
/- cohesion/cohesionref02.Cmp -/
def rRef02CmpX0 : List O := [
  ⟨(some 4), none, .mv (.k (.int .i64 0))⟩]
def rRef02CmpX1 : List O := [
  ⟨(some 6), none, .mv (.t 0)⟩,
  ⟨(some 7), none, .len (.t 6)⟩,
  ⟨(some 8), none, .mv (.k (.int .i64 0))⟩]
def rRef02CmpX2 : List O := [
  ⟨(some 9), none, .bin .lss (.t 8) (.t 7)⟩]
def rRef02CmpX3 : List O := [
  ⟨(some 10), none, .mv (.t 8)⟩,
  ⟨(some 5), none, .mv (.t 10)⟩]
def rRef02CmpX4 : List O := [
  ⟨(some 12), none, .mv (.t 5)⟩,
  ⟨(some 13), none, .mv (.t 1)⟩,
  ⟨(some 14), none, .len (.t 13)⟩,
  ⟨(some 15), none, .bin .geq (.t 12) (.t 14)⟩,
  ⟨(some 16), none, .mv (.t 15)⟩,
  ⟨(some 17), (some (16, false)), .mv (.t 0)⟩,
  ⟨(some 18), (some (16, false)), .mv (.t 5)⟩,
  ⟨(some 19), (some (16, false)), .ixa 1 (.t 17) (.t 18)⟩,
  ⟨(some 20), (some (16, false)), .ld none (.t 19)⟩,
  ⟨(some 21), (some (16, false)), .mv (.t 1)⟩,
  ⟨(some 22), (some (16, false)), .mv (.t 5)⟩,
  ⟨(some 23), (some (16, false)), .ixa 1 (.t 21) (.t 22)⟩,
  ⟨(some 24), (some (16, false)), .ld none (.t 23)⟩,
  ⟨(some 25), (some (16, false)), .bin .gtr (.t 20) (.t 24)⟩,
  ⟨(some 26), none, .pick (.t 16) (.k (.bool true)) (.t 25)⟩,
  ⟨(some 11), none, .mv (.t 26)⟩]
def rRef02CmpX5 : List O := [
  ⟨(some 4), none, .mv (.k (.int .i64 1))⟩]
def rRef02CmpX6 : List O := [
  ⟨(some 28), none, .mv (.t 0)⟩,
  ⟨(some 29), none, .mv (.t 5)⟩,
  ⟨(some 30), none, .ixa 1 (.t 28) (.t 29)⟩,
  ⟨(some 31), none, .ld none (.t 30)⟩,
  ⟨(some 32), none, .mv (.t 1)⟩,
  ⟨(some 33), none, .mv (.t 5)⟩,
  ⟨(some 34), none, .ixa 1 (.t 32) (.t 33)⟩,
  ⟨(some 35), none, .ld none (.t 34)⟩,
  ⟨(some 36), none, .bin .lss (.t 31) (.t 35)⟩,
  ⟨(some 27), none, .mv (.t 36)⟩]
def rRef02CmpX7 : List O := [
  ⟨(some 4), none, .mv (.k (.int .i64 (-1)))⟩]
def rRef02CmpX8 : List O := [
  ⟨(some 37), none, .bin .add (.t 8) (.k (.int .i64 1))⟩,
  ⟨(some 8), none, .mv (.t 37)⟩]
def lRef02CmpX0 : C := (.seq (.reg rRef02CmpX2 false [] [0, 1, 7, 8, 9]) (.seq (.cond (.t 9) .skip (.exit 0)) (.seq (.blk 1 (.seq (.reg rRef02CmpX3 false [] [0, 1, 5, 7, 8]) (.blk 2 (.seq (.reg rRef02CmpX4 true [(3, 3), (4, 4), (13, 13), (14, 14), (15, 15), (8, 9), (8, 10), (8, 11), (5, 12), (6, 12), (7, 12), (8, 12)] [0, 1, 5, 7, 8, 11]) (.cond (.t 11) (.seq (.reg rRef02CmpX5 false [] [4]) .ret) (.seq (.reg rRef02CmpX6 true [(8, 8), (9, 9), (3, 4), (3, 5), (3, 6), (0, 7), (1, 7), (2, 7), (3, 7)] [0, 1, 7, 8, 27]) (.cond (.t 27) (.seq (.reg rRef02CmpX7 false [] [4]) .ret) .skip))))))) (.reg rRef02CmpX8 false [] [0, 1, 7, 8]))))
def rRef02CmpX9 : List O := [
  ⟨(some 38), none, .mv (.t 0)⟩,
  ⟨(some 39), none, .len (.t 38)⟩,
  ⟨(some 40), none, .mv (.t 1)⟩,
  ⟨(some 41), none, .len (.t 40)⟩,
  ⟨(some 42), none, .bin .lss (.t 39) (.t 41)⟩]
def rRef02CmpX10 : List O := [
  ⟨(some 4), none, .mv (.k (.int .i64 (-1)))⟩]
def rRef02CmpX11 : List O := [
  ⟨(some 4), none, .mv (.k (.int .i64 0))⟩]
def cRef02Cmp : C := (.seq (.reg rRef02CmpX0 false [] [0, 1]) (.seq (.seq (.reg rRef02CmpX1 false [] [0, 1, 7, 8]) (.blk 0 (.loop lRef02CmpX0))) (.seq (.seq (.reg rRef02CmpX9 false [] [42]) (.cond (.t 42) (.seq (.reg rRef02CmpX10 false [] [4]) .ret) .skip)) (.seq (.reg rRef02CmpX11 false [] [4]) .ret))))
def qRef02Cmp : AFn := ⟨43, 2, [.t 4], cRef02Cmp⟩
/- cohesion/biclique.of -/
def rBicliqueOfX0 : List O := [
  ⟨(some 1), none, .box (.t 0)⟩,
  ⟨(some 2), none, .new [(.own 1 []), (.int .u64 0), (.int .u64 0)]⟩]
def rBicliqueOfX1 : List O := [
  ⟨(some 6), none, .fad 0 (.t 1)⟩,
  ⟨(some 7), none, .fad 0 (.t 6)⟩,
  ⟨(some 8), none, .ld none (.t 7)⟩,
  ⟨(some 9), none, .mks 1 [(.int .u64 0)] (.t 8) (.t 8)⟩,
  ⟨(some 10), none, .fad 2 (.t 1)⟩,
  ⟨(some 11), none, .ld none (.t 10)⟩,
  ⟨(some 12), none, .call nBicliqueMask [(.t 11)]⟩,
  ⟨(some 13), none, .build [(.own 1 []), (.int .u64 0), (.int .u64 0)] [(0, 1, (.t 9)), (1, 1, (.t 12))]⟩,
  ⟨(some 3), none, .new [(.own 1 []), (.int .u64 0), (.int .u64 0)]⟩,
  ⟨none, none, .st 3 (.t 3) (.t 13)⟩]
def rBicliqueOfX2 : List O := [
  ⟨(some 14), none, .fad 0 (.t 1)⟩,
  ⟨(some 15), none, .fad 0 (.t 14)⟩,
  ⟨(some 16), none, .ld none (.t 15)⟩,
  ⟨(some 17), none, .bin .shl (.k (.int .u64 1)) (.t 16)⟩,
  ⟨(some 18), none, .bin .sub (.t 17) (.k (.int .u64 1))⟩,
  ⟨(some 19), none, .fad 1 (.t 3)⟩,
  ⟨(some 20), none, .ld none (.t 19)⟩,
  ⟨(some 21), none, .bin .andNot (.t 18) (.t 20)⟩,
  ⟨(some 22), none, .fad 2 (.t 3)⟩,
  ⟨none, none, .st 1 (.t 22) (.t 21)⟩]
def rBicliqueOfX3 : List O := [
  ⟨(some 23), none, .fad 0 (.t 1)⟩,
  ⟨(some 24), none, .fad 1 (.t 23)⟩,
  ⟨(some 25), none, .ld none (.t 24)⟩,
  ⟨(some 26), none, .len (.t 25)⟩,
  ⟨(some 27), none, .mv (.k (.int .i64 0))⟩]
def rBicliqueOfX4 : List O := [
  ⟨(some 28), none, .bin .lss (.t 27) (.t 26)⟩]
def rBicliqueOfX5 : List O := [
  ⟨(some 29), none, .ixa 2 (.t 25) (.t 27)⟩,
  ⟨(some 30), none, .ld (some 2) (.t 29)⟩,
  ⟨(some 5), none, .new [(.int .i64 0), (.int .i64 0)]⟩,
  ⟨none, none, .st 2 (.t 5) (.t 30)⟩]
def rBicliqueOfX6 : List O := [
  ⟨(some 31), none, .fad 0 (.t 3)⟩,
  ⟨(some 32), none, .ld none (.t 31)⟩,
  ⟨(some 33), none, .fad 0 (.t 5)⟩,
  ⟨(some 34), none, .ld none (.t 33)⟩,
  ⟨(some 35), none, .ixa 1 (.t 32) (.t 34)⟩,
  ⟨(some 36), none, .ld none (.t 35)⟩,
  ⟨(some 37), none, .fad 1 (.t 5)⟩,
  ⟨(some 38), none, .ld none (.t 37)⟩,
  ⟨(some 39), none, .bin .shl (.k (.int .u64 1)) (.t 38)⟩,
  ⟨(some 40), none, .bin .or (.t 36) (.t 39)⟩,
  ⟨(some 41), none, .ixa 1 (.t 32) (.t 34)⟩,
  ⟨none, none, .st 1 (.t 41) (.t 40)⟩]
def rBicliqueOfX7 : List O := [
  ⟨(some 42), none, .fad 0 (.t 3)⟩,
  ⟨(some 43), none, .ld none (.t 42)⟩,
  ⟨(some 44), none, .fad 1 (.t 5)⟩,
  ⟨(some 45), none, .ld none (.t 44)⟩,
  ⟨(some 46), none, .ixa 1 (.t 43) (.t 45)⟩,
  ⟨(some 47), none, .ld none (.t 46)⟩,
  ⟨(some 48), none, .fad 0 (.t 5)⟩,
  ⟨(some 49), none, .ld none (.t 48)⟩,
  ⟨(some 50), none, .bin .shl (.k (.int .u64 1)) (.t 49)⟩,
  ⟨(some 51), none, .bin .or (.t 47) (.t 50)⟩,
  ⟨(some 52), none, .ixa 1 (.t 43) (.t 45)⟩,
  ⟨none, none, .st 1 (.t 52) (.t 51)⟩]
def rBicliqueOfX8 : List O := [
  ⟨(some 53), none, .bin .add (.t 27) (.k (.int .i64 1))⟩,
  ⟨(some 27), none, .mv (.t 53)⟩]
def lBicliqueOfX0 : C := (.seq (.reg rBicliqueOfX4 false [] [2, 3, 25, 26, 27, 28]) (.seq (.cond (.t 28) .skip (.exit 0)) (.seq (.blk 1 (.seq (.reg rBicliqueOfX5 false [] [2, 3, 5, 25, 26, 27]) (.seq (.reg rBicliqueOfX6 true [(9, 9), (10, 10), (11, 11), (1, 2), (0, 3), (1, 3), (1, 6), (3, 6), (5, 6), (0, 7), (1, 7), (2, 7), (3, 7), (4, 7), (5, 7), (1, 8), (3, 8), (5, 8)] [2, 3, 5, 25, 26, 27]) (.reg rBicliqueOfX7 true [(9, 9), (10, 10), (11, 11), (1, 2), (0, 3), (1, 3), (1, 6), (3, 6), (5, 6), (0, 7), (1, 7), (2, 7), (3, 7), (4, 7), (5, 7), (1, 8), (3, 8), (5, 8)] [2, 3, 25, 26, 27])))) (.reg rBicliqueOfX8 false [] [2, 3, 25, 26, 27]))))
def rBicliqueOfX9 : List O := [
  ⟨(some 54), none, .ld (some 3) (.t 3)⟩,
  ⟨none, none, .st 3 (.t 2) (.t 54)⟩]
def cBicliqueOf : C := (.seq (.reg rBicliqueOfX0 false [] [1, 2]) (.seq (.reg rBicliqueOfX1 true [(9, 9), (2, 4), (0, 5), (1, 5), (2, 5), (3, 5), (0, 6), (1, 6), (2, 6), (3, 6), (0, 8), (1, 8), (2, 8), (3, 8), (4, 8), (5, 8), (6, 8), (7, 8)] [1, 2, 3]) (.seq (.reg rBicliqueOfX2 true [(7, 7), (8, 8), (9, 9), (2, 5), (0, 6), (1, 6), (2, 6), (3, 6), (4, 6)] [1, 2, 3]) (.seq (.seq (.reg rBicliqueOfX3 false [] [2, 3, 25, 26, 27]) (.blk 0 (.loop lBicliqueOfX0))) (.seq (.reg rBicliqueOfX9 false [] [2]) .ret)))))
def qBicliqueOf : AFn := ⟨55, 1, [.c 2 (some 3)], cBicliqueOf⟩
/- (cohesion/biclique.sides).each -/
def rBicliqueSidesEachX0 : List O := [
  ⟨(some 3), none, .box (.t 0)⟩,
  ⟨(some 4), none, .box (.t 1)⟩,
  ⟨(some 5), none, .box (.t 2)⟩]
def rBicliqueSidesEachX1 : List O := [
  ⟨(some 6), none, .new [(.own 1 [])]⟩]
def rBicliqueSidesEachX2 : List O := [
  ⟨(some 7), none, .new [.nilf]⟩]
def rBicliqueSidesEachX3 : List O := [
  ⟨(some 8), none, .mkf (.func nBicliqueSidesEach1) [] [(.t 3), (.t 6), (.t 4), (.t 5), (.t 7)]⟩,
  ⟨none, none, .st 1 (.t 7) (.t 8)⟩]
def rBicliqueSidesEachX4 : List O := [
  ⟨(some 9), none, .ld none (.t 7)⟩,
  ⟨(some 10), none, .fad 2 (.t 3)⟩,
  ⟨(some 11), none, .ld none (.t 10)⟩,
  ⟨(some 12), none, .callv (.t 9) [(.t 11), (.k (.bool true))]⟩]
def cBicliqueSidesEach : C := (.seq (.reg rBicliqueSidesEachX0 false [] [3, 4, 5]) (.seq (.reg rBicliqueSidesEachX1 false [] [3, 4, 5, 6]) (.seq (.reg rBicliqueSidesEachX2 false [] [3, 4, 5, 6, 7]) (.seq (.reg rBicliqueSidesEachX3 false [] [3, 7]) (.reg rBicliqueSidesEachX4 false [] [])))))
def qBicliqueSidesEach : AFn := ⟨13, 3, [], cBicliqueSidesEach⟩
/- cohesion/biclique.All$1 -/
def rBicliqueAll1X0 : List O := [
  ⟨(some 3), none, .box (.t 0)⟩,
  ⟨(some 4), none, .mv (.k (.bool false))⟩]
def rBicliqueAll1X1 : List O := [
  ⟨(some 5), none, .ld none (.t 1)⟩,
  ⟨(some 6), none, .ld (some 2) (.t 3)⟩,
  ⟨(some 7), none, .bslice 2 1 [(.own 1 []), (.own 1 [])] [(0, 2, (.t 6))]⟩,
  ⟨(some 8), none, .app 2 (.t 5) (.t 7)⟩,
  ⟨none, none, .st 1 (.t 1) (.t 8)⟩]
def rBicliqueAll1X2 : List O := [
  ⟨(some 9), none, .ld none (.t 1)⟩,
  ⟨(some 10), none, .len (.t 9)⟩,
  ⟨(some 11), none, .ld none (.t 2)⟩,
  ⟨(some 12), none, .bin .leq (.t 10) (.t 11)⟩,
  ⟨(some 4), none, .mv (.t 12)⟩]
def cBicliqueAll1 : C := (.seq (.reg rBicliqueAll1X0 false [] [1, 2, 3]) (.seq (.reg rBicliqueAll1X1 false [] [1, 2]) (.seq (.reg rBicliqueAll1X2 false [] [4]) .ret)))
def qBicliqueAll1 : AFn := ⟨13, 1, [.t 4], cBicliqueAll1⟩
/- cohesion/biclique.Best$1 -/
def rBicliqueBest1X0 : List O := [
  ⟨(some 2), none, .box (.t 0)⟩,
  ⟨(some 3), none, .mv (.k (.bool false))⟩]
def rBicliqueBest1X1 : List O := [
  ⟨(some 4), none, .fad 0 (.t 2)⟩,
  ⟨(some 5), none, .ld none (.t 4)⟩,
  ⟨(some 6), none, .len (.t 5)⟩,
  ⟨(some 7), none, .fad 1 (.t 2)⟩,
  ⟨(some 8), none, .ld none (.t 7)⟩,
  ⟨(some 9), none, .len (.t 8)⟩,
  ⟨(some 10), none, .bin .mul (.t 6) (.t 9)⟩,
  ⟨(some 11), none, .fad 0 (.t 1)⟩,
  ⟨(some 12), none, .ld none (.t 11)⟩,
  ⟨(some 13), none, .len (.t 12)⟩,
  ⟨(some 14), none, .fad 1 (.t 1)⟩,
  ⟨(some 15), none, .ld none (.t 14)⟩,
  ⟨(some 16), none, .len (.t 15)⟩,
  ⟨(some 17), none, .bin .mul (.t 13) (.t 16)⟩,
  ⟨(some 18), none, .bin .gtr (.t 10) (.t 17)⟩]
def rBicliqueBest1X2 : List O := [
  ⟨(some 19), none, .ld (some 2) (.t 2)⟩,
  ⟨none, none, .st 2 (.t 1) (.t 19)⟩]
def rBicliqueBest1X3 : List O := [
  ⟨(some 3), none, .mv (.k (.bool true))⟩]
def cBicliqueBest1 : C := (.seq (.reg rBicliqueBest1X0 false [] [1, 2]) (.seq (.seq (.reg rBicliqueBest1X1 false [] [1, 2, 18]) (.cond (.t 18) (.reg rBicliqueBest1X2 false [] []) .skip)) (.seq (.reg rBicliqueBest1X3 false [] [3]) .ret)))
def qBicliqueBest1 : AFn := ⟨20, 1, [.t 3], cBicliqueBest1⟩
/- cohesion/nodeset.Valid -/
def rNodesetValidX0 : List O := [
  ⟨(some 4), none, .mv (.k (.bool false))⟩]
def rNodesetValidX1 : List O := [
  ⟨(some 7), none, .mv (.t 0)⟩,
  ⟨(some 8), none, .len (.t 7)⟩,
  ⟨(some 9), none, .mv (.k (.int .i64 0))⟩]
def rNodesetValidX2 : List O := [
  ⟨(some 10), none, .bin .lss (.t 9) (.t 8)⟩]
def rNodesetValidX3 : List O := [
  ⟨(some 11), none, .mv (.t 9)⟩,
  ⟨(some 12), none, .ixa 1 (.t 7) (.t 9)⟩,
  ⟨(some 13), none, .ld none (.t 12)⟩,
  ⟨(some 5), none, .mv (.t 11)⟩,
  ⟨(some 6), none, .mv (.t 13)⟩]
def rNodesetValidX4 : List O := [
  ⟨(some 14), none, .mv (.t 6)⟩,
  ⟨(some 15), none, .bin .lss (.t 14) (.k (.int .i64 0))⟩,
  ⟨(some 16), none, .mv (.t 15)⟩,
  ⟨(some 17), (some (16, false)), .mv (.t 6)⟩,
  ⟨(some 18), (some (16, false)), .mv (.t 1)⟩,
  ⟨(some 19), (some (16, false)), .bin .geq (.t 17) (.t 18)⟩,
  ⟨(some 20), none, .pick (.t 16) (.k (.bool true)) (.t 19)⟩,
  ⟨(some 21), none, .mv (.t 20)⟩,
  ⟨(some 22), (some (21, false)), .mv (.t 5)⟩,
  ⟨(some 23), (some (21, false)), .bin .gtr (.t 22) (.k (.int .i64 0))⟩,
  ⟨(some 24), (some (21, false)), .mv (.t 23)⟩,
  ⟨(some 25), (some (24, true)), .mv (.t 0)⟩,
  ⟨(some 26), (some (24, true)), .mv (.t 5)⟩,
  ⟨(some 27), (some (24, true)), .bin .sub (.t 26) (.k (.int .i64 1))⟩,
  ⟨(some 28), (some (24, true)), .ixa 1 (.t 25) (.t 27)⟩,
  ⟨(some 29), (some (24, true)), .ld none (.t 28)⟩,
  ⟨(some 30), (some (24, true)), .mv (.t 6)⟩,
  ⟨(some 31), (some (24, true)), .bin .geq (.t 29) (.t 30)⟩,
  ⟨(some 32), (some (21, false)), .pick (.t 24) (.t 31) (.k (.bool false))⟩,
  ⟨(some 33), none, .pick (.t 21) (.k (.bool true)) (.t 32)⟩]
def rNodesetValidX5 : List O := [
  ⟨(some 4), none, .mv (.k (.bool false))⟩]
def rNodesetValidX6 : List O := [
  ⟨(some 34), none, .bin .add (.t 9) (.k (.int .i64 1))⟩,
  ⟨(some 9), none, .mv (.t 34)⟩]
def lNodesetValidX0 : C := (.seq (.reg rNodesetValidX2 false [] [0, 1, 7, 8, 9, 10]) (.seq (.cond (.t 10) .skip (.exit 0)) (.seq (.blk 1 (.seq (.reg rNodesetValidX3 false [] [0, 1, 5, 6, 7, 8, 9]) (.seq (.reg rNodesetValidX4 false [] [0, 1, 7, 8, 9, 33]) (.cond (.t 33) (.seq (.reg rNodesetValidX5 false [] [4]) .ret) .skip)))) (.reg rNodesetValidX6 false [] [0, 1, 7, 8, 9]))))
def rNodesetValidX7 : List O := [
  ⟨(some 4), none, .mv (.k (.bool true))⟩]
def cNodesetValid : C := (.seq (.reg rNodesetValidX0 false [] [0, 1]) (.seq (.seq (.reg rNodesetValidX1 false [] [0, 1, 7, 8, 9]) (.blk 0 (.loop lNodesetValidX0))) (.seq (.reg rNodesetValidX7 false [] [4]) .ret)))
def qNodesetValid : AFn := ⟨35, 2, [.t 4], cNodesetValid⟩
/- cohesion/biclique.mask -/
def rBicliqueMaskX0 : List O := [
  ⟨(some 2), none, .mv (.k (.int .u64 0))⟩]
def rBicliqueMaskX1 : List O := [
  ⟨(some 3), none, .mv (.k (.int .u64 0))⟩]
def rBicliqueMaskX2 : List O := [
  ⟨(some 6), none, .mv (.t 0)⟩,
  ⟨(some 7), none, .len (.t 6)⟩,
  ⟨(some 8), none, .mv (.k (.int .i64 0))⟩]
def rBicliqueMaskX3 : List O := [
  ⟨(some 9), none, .bin .lss (.t 8) (.t 7)⟩]
def rBicliqueMaskX4 : List O := [
  ⟨(some 10), none, .ixa 1 (.t 6) (.t 8)⟩,
  ⟨(some 11), none, .ld none (.t 10)⟩,
  ⟨(some 5), none, .mv (.t 11)⟩]
def rBicliqueMaskX5 : List O := [
  ⟨(some 12), none, .mv (.t 3)⟩,
  ⟨(some 13), none, .mv (.t 5)⟩,
  ⟨(some 14), none, .bin .shl (.k (.int .u64 1)) (.t 13)⟩,
  ⟨(some 15), none, .bin .or (.t 12) (.t 14)⟩,
  ⟨(some 3), none, .mv (.t 15)⟩]
def rBicliqueMaskX6 : List O := [
  ⟨(some 16), none, .bin .add (.t 8) (.k (.int .i64 1))⟩,
  ⟨(some 8), none, .mv (.t 16)⟩]
def lBicliqueMaskX0 : C := (.seq (.reg rBicliqueMaskX3 false [] [3, 6, 7, 8, 9]) (.seq (.cond (.t 9) .skip (.exit 0)) (.seq (.blk 1 (.seq (.reg rBicliqueMaskX4 false [] [3, 5, 6, 7, 8]) (.reg rBicliqueMaskX5 false [] [3, 6, 7, 8]))) (.reg rBicliqueMaskX6 false [] [3, 6, 7, 8]))))
def rBicliqueMaskX7 : List O := [
  ⟨(some 17), none, .mv (.t 3)⟩,
  ⟨(some 2), none, .mv (.t 17)⟩]
def cBicliqueMask : C := (.seq (.reg rBicliqueMaskX0 false [] [0]) (.seq (.reg rBicliqueMaskX1 false [] [0, 3]) (.seq (.seq (.reg rBicliqueMaskX2 false [] [3, 6, 7, 8]) (.blk 0 (.loop lBicliqueMaskX0))) (.seq (.reg rBicliqueMaskX7 false [] [2]) .ret))))
def qBicliqueMask : AFn := ⟨18, 1, [.t 2], cBicliqueMask⟩
/- (cohesion/biclique.sides).onLeft -/
def rBicliqueSidesOnLeftX0 : List O := [
  ⟨(some 2), none, .box (.t 0)⟩,
  ⟨(some 4), none, .mv (.k (.int .u64 0))⟩]
def rBicliqueSidesOnLeftX1 : List O := [
  ⟨(some 5), none, .ld (some 3) (.t 2)⟩,
  ⟨(some 6), none, .fad 1 (.t 2)⟩,
  ⟨(some 7), none, .ld none (.t 6)⟩,
  ⟨(some 8), none, .mv (.t 1)⟩,
  ⟨(some 9), none, .call nBicliqueSidesCommon [(.t 5), (.t 7), (.t 8)]⟩,
  ⟨(some 4), none, .mv (.t 9)⟩]
def cBicliqueSidesOnLeft : C := (.seq (.reg rBicliqueSidesOnLeftX0 false [] [1, 2]) (.seq (.reg rBicliqueSidesOnLeftX1 false [] [4]) .ret))
def qBicliqueSidesOnLeft : AFn := ⟨10, 2, [.t 4], cBicliqueSidesOnLeft⟩
/- cohesion/biclique.list -/
def rBicliqueListX0 : List O := [
  ⟨(some 2), none, .mv (.k (.own 1 []))⟩]
def rBicliqueListX1 : List O := [
  ⟨(some 3), none, .mv (.k (.own 1 []))⟩]
def rBicliqueListX2 : List O := [
  ⟨(some 4), none, .mv (.t 0)⟩,
  ⟨(some 5), none, .bin .neq (.t 4) (.k (.int .u64 0))⟩]
def rBicliqueListX3 : List O := [
  ⟨(some 10), none, .mv (.t 3)⟩,
  ⟨(some 11), none, .mv (.t 0)⟩,
  ⟨(some 12), none, .call nMathBitsTrailingZeros64 [(.t 11)]⟩,
  ⟨(some 13), none, .bslice 1 1 [(.int .i64 0)] [(0, 1, (.t 12))]⟩,
  ⟨(some 14), none, .app 1 (.t 10) (.t 13)⟩,
  ⟨(some 3), none, .mv (.t 14)⟩]
def rBicliqueListX4 : List O := [
  ⟨(some 6), none, .mv (.t 0)⟩,
  ⟨(some 7), none, .mv (.t 0)⟩,
  ⟨(some 8), none, .bin .sub (.t 7) (.k (.int .u64 1))⟩,
  ⟨(some 9), none, .bin .and (.t 6) (.t 8)⟩,
  ⟨(some 0), none, .mv (.t 9)⟩]
def lBicliqueListX0 : C := (.seq (.seq (.reg rBicliqueListX2 false [] [0, 3, 5]) (.cond (.t 5) .skip (.exit 0))) (.seq (.blk 1 (.reg rBicliqueListX3 false [] [0, 3])) (.reg rBicliqueListX4 false [] [0, 3])))
def rBicliqueListX5 : List O := [
  ⟨(some 15), none, .mv (.t 3)⟩,
  ⟨(some 2), none, .mv (.t 15)⟩]
def cBicliqueList : C := (.seq (.reg rBicliqueListX0 false [] [0]) (.seq (.reg rBicliqueListX1 false [] [0, 3]) (.seq (.blk 0 (.loop lBicliqueListX0)) (.seq (.reg rBicliqueListX5 false [] [2]) .ret))))
def qBicliqueList : AFn := ⟨16, 1, [.t 2], cBicliqueList⟩
/- cohesion/cohesionref03.edge -/
def rRef03EdgeX0 : List O := [
  ⟨(some 4), none, .new [(.int .i64 0), (.int .i64 0)]⟩]
def rRef03EdgeX1 : List O := [
  ⟨(some 5), none, .mv (.t 0)⟩,
  ⟨(some 6), none, .mv (.t 1)⟩,
  ⟨(some 7), none, .min [(.t 5), (.t 6)]⟩,
  ⟨(some 8), none, .mv (.t 0)⟩,
  ⟨(some 9), none, .mv (.t 1)⟩,
  ⟨(some 10), none, .max [(.t 8), (.t 9)]⟩,
  ⟨(some 11), none, .build [(.int .i64 0), (.int .i64 0)] [(0, 1, (.t 7)), (1, 1, (.t 10))]⟩,
  ⟨none, none, .st 2 (.t 4) (.t 11)⟩]
def cRef03Edge : C := (.seq (.reg rRef03EdgeX0 false [] [0, 1, 4]) (.seq (.reg rRef03EdgeX1 false [] [4]) .ret))
def qRef03Edge : AFn := ⟨12, 2, [.c 4 (some 2)], cRef03Edge⟩
/- cohesion/graph.Check -/
def rGraphCheckX0 : List O := [
  ⟨(some 1), none, .box (.t 0)⟩,
  ⟨(some 2), none, .mv (.k (.int .i64 0))⟩]
def rGraphCheckX1 : List O := [
  ⟨(some 5), none, .fad 0 (.t 1)⟩,
  ⟨(some 6), none, .ld none (.t 5)⟩,
  ⟨(some 7), none, .bin .lss (.t 6) (.k (.int .i64 0))⟩,
  ⟨(some 8), none, .mv (.t 7)⟩,
  ⟨(some 9), (some (8, false)), .fad 0 (.t 1)⟩,
  ⟨(some 10), (some (8, false)), .ld none (.t 9)⟩,
  ⟨(some 11), (some (8, false)), .bin .gtr (.t 10) (.k (.int .i64 64))⟩,
  ⟨(some 12), none, .pick (.t 8) (.k (.bool true)) (.t 11)⟩]
def rGraphCheckX2 : List O := [
  ⟨(some 2), none, .mv (.k (.int .i64 1))⟩]
def rGraphCheckX3 : List O := [
  ⟨(some 13), none, .fad 1 (.t 1)⟩,
  ⟨(some 14), none, .ld none (.t 13)⟩,
  ⟨(some 15), none, .len (.t 14)⟩,
  ⟨(some 16), none, .mv (.k (.int .i64 0))⟩]
def rGraphCheckX4 : List O := [
  ⟨(some 17), none, .bin .lss (.t 16) (.t 15)⟩]
def rGraphCheckX5 : List O := [
  ⟨(some 18), none, .mv (.t 16)⟩,
  ⟨(some 19), none, .ixa 2 (.t 14) (.t 16)⟩,
  ⟨(some 20), none, .ld (some 2) (.t 19)⟩,
  ⟨(some 4), none, .new [(.int .i64 0), (.int .i64 0)]⟩,
  ⟨(some 3), none, .mv (.t 18)⟩,
  ⟨none, none, .st 2 (.t 4) (.t 20)⟩]
def rGraphCheckX6 : List O := [
  ⟨(some 22), none, .fad 0 (.t 4)⟩,
  ⟨(some 23), none, .ld none (.t 22)⟩,
  ⟨(some 24), none, .bin .lss (.t 23) (.k (.int .i64 0))⟩,
  ⟨(some 25), none, .mv (.t 24)⟩,
  ⟨(some 26), (some (25, false)), .fad 0 (.t 4)⟩,
  ⟨(some 27), (some (25, false)), .ld none (.t 26)⟩,
  ⟨(some 28), (some (25, false)), .fad 1 (.t 4)⟩,
  ⟨(some 29), (some (25, false)), .ld none (.t 28)⟩,
  ⟨(some 30), (some (25, false)), .bin .geq (.t 27) (.t 29)⟩,
  ⟨(some 31), none, .pick (.t 25) (.k (.bool true)) (.t 30)⟩,
  ⟨(some 32), none, .mv (.t 31)⟩,
  ⟨(some 33), (some (32, false)), .fad 1 (.t 4)⟩,
  ⟨(some 34), (some (32, false)), .ld none (.t 33)⟩,
  ⟨(some 35), (some (32, false)), .fad 0 (.t 1)⟩,
  ⟨(some 36), (some (32, false)), .ld none (.t 35)⟩,
  ⟨(some 37), (some (32, false)), .bin .geq (.t 34) (.t 36)⟩,
  ⟨(some 38), none, .pick (.t 32) (.k (.bool true)) (.t 37)⟩,
  ⟨(some 21), none, .mv (.t 38)⟩]
def rGraphCheckX7 : List O := [
  ⟨(some 2), none, .mv (.k (.int .i64 6))⟩]
def rGraphCheckX8 : List O := [
  ⟨(some 40), none, .mv (.t 3)⟩,
  ⟨(some 41), none, .bin .gtr (.t 40) (.k (.int .i64 0))⟩,
  ⟨(some 42), none, .mv (.t 41)⟩,
  ⟨(some 43), (some (42, true)), .fad 1 (.t 1)⟩,
  ⟨(some 44), (some (42, true)), .ld none (.t 43)⟩,
  ⟨(some 45), (some (42, true)), .mv (.t 3)⟩,
  ⟨(some 46), (some (42, true)), .bin .sub (.t 45) (.k (.int .i64 1))⟩,
  ⟨(some 47), (some (42, true)), .ixa 2 (.t 44) (.t 46)⟩,
  ⟨(some 48), (some (42, true)), .ld (some 2) (.t 47)⟩,
  ⟨(some 49), (some (42, true)), .ld (some 2) (.t 4)⟩,
  ⟨(some 50), (some (42, true)), .call nGraphOrder [(.t 48), (.t 49)]⟩,
  ⟨(some 51), (some (42, true)), .bin .geq (.t 50) (.k (.int .i64 0))⟩,
  ⟨(some 52), none, .pick (.t 42) (.t 51) (.k (.bool false))⟩,
  ⟨(some 39), none, .mv (.t 52)⟩]
def rGraphCheckX9 : List O := [
  ⟨(some 2), none, .mv (.k (.int .i64 5))⟩]
def rGraphCheckX10 : List O := [
  ⟨(some 53), none, .bin .add (.t 16) (.k (.int .i64 1))⟩,
  ⟨(some 16), none, .mv (.t 53)⟩]
def lGraphCheckX0 : C := (.seq (.reg rGraphCheckX4 false [] [1, 14, 15, 16, 17]) (.seq (.cond (.t 17) .skip (.exit 0)) (.seq (.blk 1 (.seq (.reg rGraphCheckX5 false [] [1, 3, 4, 14, 15, 16]) (.blk 2 (.seq (.reg rGraphCheckX6 false [] [1, 3, 4, 14, 15, 16, 21]) (.cond (.t 21) (.seq (.reg rGraphCheckX7 false [] [2]) .ret) (.seq (.reg rGraphCheckX8 true [(0, 0), (1, 1), (2, 2), (10, 10), (11, 11), (12, 12), (13, 13), (4, 5), (4, 6), (3, 9), (4, 9), (5, 9), (6, 9), (7, 9), (8, 9)] [1, 14, 15, 16, 39]) (.cond (.t 39) (.seq (.reg rGraphCheckX9 false [] [2]) .ret) .skip))))))) (.reg rGraphCheckX10 false [] [1, 14, 15, 16]))))
def rGraphCheckX11 : List O := [
  ⟨(some 2), none, .mv (.k (.int .i64 0))⟩]
def cGraphCheck : C := (.seq (.reg rGraphCheckX0 false [] [1]) (.seq (.seq (.reg rGraphCheckX1 false [] [1, 12]) (.cond (.t 12) (.seq (.reg rGraphCheckX2 false [] [2]) .ret) .skip)) (.seq (.seq (.reg rGraphCheckX3 false [] [1, 14, 15, 16]) (.blk 0 (.loop lGraphCheckX0))) (.seq (.reg rGraphCheckX11 false [] [2]) .ret))))
def qGraphCheck : AFn := ⟨54, 1, [.t 2], cGraphCheck⟩
/- slices.ContainsFunc[[]cohesion/api.Edge,cohesion/api.Edge] -/
def rSlicesContainsFuncApiEdgeApiEdgeX0 : List O := [
  ⟨(some 4), none, .mv (.k (.bool false))⟩]
def rSlicesContainsFuncApiEdgeApiEdgeX1 : List O := [
  ⟨(some 5), none, .mv (.t 0)⟩,
  ⟨(some 6), none, .mv (.t 1)⟩,
  ⟨(some 7), none, .call nSlicesIndexFuncApiEdgeApiEdge [(.t 5), (.t 6)]⟩,
  ⟨(some 8), none, .bin .geq (.t 7) (.k (.int .i64 0))⟩,
  ⟨(some 4), none, .mv (.t 8)⟩]
def cSlicesContainsFuncApiEdgeApiEdge : C := (.seq (.reg rSlicesContainsFuncApiEdgeApiEdgeX0 false [] [0, 1]) (.seq (.reg rSlicesContainsFuncApiEdgeApiEdgeX1 false [] [4]) .ret))
def qSlicesContainsFuncApiEdgeApiEdge : AFn := ⟨9, 2, [.t 4], cSlicesContainsFuncApiEdgeApiEdge⟩
/- cohesion/biclique.Check$1 -/
def rBicliqueCheck1X0 : List O := [
  ⟨(some 2), none, .box (.t 0)⟩,
  ⟨(some 3), none, .mv (.k (.bool false))⟩]
def rBicliqueCheck1X1 : List O := [
  ⟨(some 4), none, .ld none (.t 1)⟩,
  ⟨(some 5), none, .fad 0 (.t 2)⟩,
  ⟨(some 6), none, .ld none (.t 5)⟩,
  ⟨(some 7), none, .bin .shr (.t 4) (.t 6)⟩,
  ⟨(some 8), none, .bin .and (.t 7) (.k (.int .u64 1))⟩,
  ⟨(some 9), none, .ld none (.t 1)⟩,
  ⟨(some 10), none, .fad 1 (.t 2)⟩,
  ⟨(some 11), none, .ld none (.t 10)⟩,
  ⟨(some 12), none, .bin .shr (.t 9) (.t 11)⟩,
  ⟨(some 13), none, .bin .and (.t 12) (.k (.int .u64 1))⟩,
  ⟨(some 14), none, .bin .eql (.t 8) (.t 13)⟩,
  ⟨(some 3), none, .mv (.t 14)⟩]
def cBicliqueCheck1 : C := (.seq (.reg rBicliqueCheck1X0 false [] [1, 2]) (.seq (.reg rBicliqueCheck1X1 true [(10, 10), (11, 11), (0, 1), (0, 2), (0, 5), (1, 5), (2, 5), (3, 5), (4, 5), (0, 6), (2, 6), (5, 6), (0, 7), (1, 7), (2, 7), (3, 7), (4, 7), (5, 7), (0, 8), (2, 8), (0, 9), (2, 9)] [3]) .ret))
def qBicliqueCheck1 : AFn := ⟨15, 1, [.t 3], cBicliqueCheck1⟩
/- cohesion/cohesionref03.ends -/
def rRef03EndsX0 : List O := [
  ⟨(some 6), none, .mv (.k (.bool false))⟩]
def rRef03EndsX1 : List O := [
  ⟨(some 7), none, .mv (.t 1)⟩,
  ⟨(some 8), none, .bin .geq (.t 7) (.k (.int .i64 0))⟩,
  ⟨(some 9), none, .mv (.t 8)⟩,
  ⟨(some 10), (some (9, true)), .mv (.t 2)⟩,
  ⟨(some 11), (some (9, true)), .bin .geq (.t 10) (.k (.int .i64 0))⟩,
  ⟨(some 12), none, .pick (.t 9) (.t 11) (.k (.bool false))⟩,
  ⟨(some 13), none, .mv (.t 12)⟩,
  ⟨(some 14), (some (13, true)), .mv (.t 1)⟩,
  ⟨(some 15), (some (13, true)), .mv (.t 0)⟩,
  ⟨(some 16), (some (13, true)), .bin .lss (.t 14) (.t 15)⟩,
  ⟨(some 17), none, .pick (.t 13) (.t 16) (.k (.bool false))⟩,
  ⟨(some 18), none, .mv (.t 17)⟩,
  ⟨(some 19), (some (18, true)), .mv (.t 2)⟩,
  ⟨(some 20), (some (18, true)), .mv (.t 0)⟩,
  ⟨(some 21), (some (18, true)), .bin .lss (.t 19) (.t 20)⟩,
  ⟨(some 22), none, .pick (.t 18) (.t 21) (.k (.bool false))⟩,
  ⟨(some 23), none, .mv (.t 22)⟩,
  ⟨(some 24), (some (23, true)), .mv (.t 1)⟩,
  ⟨(some 25), (some (23, true)), .mv (.t 2)⟩,
  ⟨(some 26), (some (23, true)), .bin .neq (.t 24) (.t 25)⟩,
  ⟨(some 27), none, .pick (.t 23) (.t 26) (.k (.bool false))⟩,
  ⟨(some 6), none, .mv (.t 27)⟩]
def cRef03Ends : C := (.seq (.reg rRef03EndsX0 false [] [0, 1, 2]) (.seq (.reg rRef03EndsX1 false [] [6]) .ret))
def qRef03Ends : AFn := ⟨28, 3, [.t 6], cRef03Ends⟩
/- cohesion/cohesionref03.with -/
def rRef03WithX0 : List O := [
  ⟨(some 3), none, .box (.t 1)⟩,
  ⟨(some 4), none, .mv (.k (.own 2 []))⟩]
def rRef03WithX1 : List O := [
  ⟨(some 5), none, .mv (.k (.int .i64 0))⟩]
def rRef03WithX2 : List O := [
  ⟨(some 7), none, .mv (.t 5)⟩,
  ⟨(some 8), none, .mv (.t 0)⟩,
  ⟨(some 9), none, .len (.t 8)⟩,
  ⟨(some 10), none, .bin .lss (.t 7) (.t 9)⟩,
  ⟨(some 11), none, .mv (.t 10)⟩,
  ⟨(some 12), (some (11, true)), .mv (.t 0)⟩,
  ⟨(some 13), (some (11, true)), .mv (.t 5)⟩,
  ⟨(some 14), (some (11, true)), .ixa 2 (.t 12) (.t 13)⟩,
  ⟨(some 15), (some (11, true)), .ld (some 2) (.t 14)⟩,
  ⟨(some 16), (some (11, true)), .ld (some 2) (.t 3)⟩,
  ⟨(some 17), (some (11, true)), .call nRef03Before [(.t 15), (.t 16)]⟩,
  ⟨(some 18), none, .pick (.t 11) (.t 17) (.k (.bool false))⟩]
def rRef03WithX3 : List O := [
  ⟨(some 19), none, .mv (.t 5)⟩,
  ⟨(some 20), none, .bin .add (.t 19) (.k (.int .i64 1))⟩,
  ⟨(some 5), none, .mv (.t 20)⟩]
def lRef03WithX0 : C := (.seq (.seq (.reg rRef03WithX2 true [(3, 3), (4, 4), (10, 10), (11, 11), (5, 9), (6, 9), (7, 9), (8, 9)] [0, 3, 5, 18]) (.cond (.t 18) .skip (.exit 0))) (.blk 1 (.reg rRef03WithX3 false [] [0, 3, 5])))
def rRef03WithX4 : List O := [
  ⟨(some 21), none, .mv (.t 5)⟩,
  ⟨(some 22), none, .mv (.t 0)⟩,
  ⟨(some 23), none, .len (.t 22)⟩,
  ⟨(some 24), none, .bin .lss (.t 21) (.t 23)⟩,
  ⟨(some 25), none, .mv (.t 24)⟩,
  ⟨(some 26), (some (25, true)), .mv (.t 0)⟩,
  ⟨(some 27), (some (25, true)), .mv (.t 5)⟩,
  ⟨(some 28), (some (25, true)), .ixa 2 (.t 26) (.t 27)⟩,
  ⟨(some 29), (some (25, true)), .ld (some 2) (.t 28)⟩,
  ⟨(some 30), (some (25, true)), .ld (some 2) (.t 3)⟩,
  ⟨(some 31), (some (25, true)), .eq false (.str [true, true]) (.t 29) (.t 30)⟩,
  ⟨(some 32), none, .pick (.t 25) (.t 31) (.k (.bool false))⟩]
def rRef03WithX5 : List O := [
  ⟨(some 33), none, .mv (.t 0)⟩,
  ⟨(some 4), none, .mv (.t 33)⟩]
def rRef03WithX6 : List O := [
  ⟨(some 34), none, .mv (.t 0)⟩,
  ⟨(some 35), none, .mv (.t 5)⟩,
  ⟨(some 36), none, .slc 2 (.t 34) none (some (.t 35))⟩,
  ⟨(some 37), none, .app 2 (.k (.own 2 [])) (.t 36)⟩,
  ⟨(some 6), none, .mv (.t 37)⟩]
def rRef03WithX7 : List O := [
  ⟨(some 38), none, .mv (.t 6)⟩,
  ⟨(some 39), none, .ld (some 2) (.t 3)⟩,
  ⟨(some 40), none, .bslice 2 1 [(.int .i64 0), (.int .i64 0)] [(0, 2, (.t 39))]⟩,
  ⟨(some 41), none, .app 2 (.t 38) (.t 40)⟩,
  ⟨(some 42), none, .mv (.t 0)⟩,
  ⟨(some 43), none, .mv (.t 5)⟩,
  ⟨(some 44), none, .slc 2 (.t 42) (some (.t 43)) none⟩,
  ⟨(some 45), none, .app 2 (.t 41) (.t 44)⟩,
  ⟨(some 4), none, .mv (.t 45)⟩]
def cRef03With : C := (.seq (.reg rRef03WithX0 false [] [0, 3]) (.seq (.reg rRef03WithX1 false [] [0, 3, 5]) (.seq (.blk 0 (.loop lRef03WithX0)) (.seq (.seq (.reg rRef03WithX4 true [(3, 3), (4, 4), (10, 10), (11, 11), (5, 9), (6, 9), (7, 9), (8, 9)] [0, 3, 5, 32]) (.cond (.t 32) (.seq (.reg rRef03WithX5 false [] [4]) .ret) .skip)) (.seq (.reg rRef03WithX6 false [] [0, 3, 5, 6]) (.seq (.reg rRef03WithX7 true [(7, 7), (8, 8), (0, 1), (0, 2), (1, 4), (2, 4), (3, 4), (1, 5), (2, 5), (3, 5), (1, 6), (2, 6), (3, 6)] [4]) .ret))))))
def qRef03With : AFn := ⟨46, 2, [.t 4], cRef03With⟩
/- (cohesion/biclique.sides).each$1 -/
def rBicliqueSidesEach1X0 : List O := [
  ⟨(some 9), none, .mv (.k (.bool false))⟩]
def rBicliqueSidesEach1X1 : List O := [
  ⟨(some 15), none, .fad 1 (.t 2)⟩,
  ⟨(some 16), none, .ld none (.t 15)⟩,
  ⟨(some 17), none, .ld none (.t 3)⟩,
  ⟨(some 18), none, .call nBicliqueBehind [(.t 17)]⟩,
  ⟨(some 19), none, .bin .andNot (.t 16) (.t 18)⟩,
  ⟨(some 10), none, .mv (.t 19)⟩]
def rBicliqueSidesEach1X2 : List O := [
  ⟨(some 20), none, .mv (.t 10)⟩,
  ⟨(some 21), none, .bin .neq (.t 20) (.k (.int .u64 0))⟩]
def rBicliqueSidesEach1X3 : List O := [
  ⟨(some 26), none, .mv (.t 10)⟩,
  ⟨(some 27), none, .call nMathBitsTrailingZeros64 [(.t 26)]⟩,
  ⟨(some 11), none, .mv (.t 27)⟩]
def rBicliqueSidesEach1X4 : List O := [
  ⟨(some 28), none, .mv (.t 1)⟩,
  ⟨(some 29), none, .mv (.t 28)⟩,
  ⟨(some 30), (some (29, true)), .ld none (.t 3)⟩,
  ⟨(some 31), (some (29, true)), .len (.t 30)⟩,
  ⟨(some 32), (some (29, true)), .ld none (.t 4)⟩,
  ⟨(some 33), (some (29, true)), .len (.t 32)⟩,
  ⟨(some 34), (some (29, true)), .bin .lss (.t 31) (.t 33)⟩,
  ⟨(some 35), none, .pick (.t 29) (.t 34) (.k (.bool false))⟩,
  ⟨(some 12), none, .mv (.t 35)⟩]
def rBicliqueSidesEach1X5 : List O := [
  ⟨(some 36), none, .mv (.t 12)⟩,
  ⟨(some 37), none, .mv (.t 36)⟩,
  ⟨(some 38), (some (37, true)), .mv (.t 11)⟩,
  ⟨(some 39), (some (37, true)), .ld none (.t 4)⟩,
  ⟨(some 40), (some (37, true)), .ld none (.t 3)⟩,
  ⟨(some 41), (some (37, true)), .len (.t 40)⟩,
  ⟨(some 42), (some (37, true)), .ixa 1 (.t 39) (.t 41)⟩,
  ⟨(some 43), (some (37, true)), .ld none (.t 42)⟩,
  ⟨(some 44), (some (37, true)), .bin .lss (.t 38) (.t 43)⟩,
  ⟨(some 45), none, .pick (.t 37) (.t 44) (.k (.bool false))⟩,
  ⟨(some 46), none, .mv (.t 45)⟩,
  ⟨(some 47), (some (46, false)), .mv (.t 0)⟩,
  ⟨(some 48), (some (46, false)), .fad 0 (.t 2)⟩,
  ⟨(some 49), (some (46, false)), .ld none (.t 48)⟩,
  ⟨(some 50), (some (46, false)), .mv (.t 11)⟩,
  ⟨(some 51), (some (46, false)), .ixa 1 (.t 49) (.t 50)⟩,
  ⟨(some 52), (some (46, false)), .ld none (.t 51)⟩,
  ⟨(some 53), (some (46, false)), .bin .and (.t 47) (.t 52)⟩,
  ⟨(some 54), (some (46, false)), .bin .eql (.t 53) (.k (.int .u64 0))⟩,
  ⟨(some 55), none, .pick (.t 46) (.k (.bool true)) (.t 54)⟩]
def rBicliqueSidesEach1X6 : List O := [
  ⟨(some 56), none, .mv (.t 12)⟩,
  ⟨(some 57), none, .mv (.t 56)⟩,
  ⟨(some 58), (some (57, true)), .mv (.t 11)⟩,
  ⟨(some 59), (some (57, true)), .ld none (.t 4)⟩,
  ⟨(some 60), (some (57, true)), .ld none (.t 3)⟩,
  ⟨(some 61), (some (57, true)), .len (.t 60)⟩,
  ⟨(some 62), (some (57, true)), .ixa 1 (.t 59) (.t 61)⟩,
  ⟨(some 63), (some (57, true)), .ld none (.t 62)⟩,
  ⟨(some 64), (some (57, true)), .bin .eql (.t 58) (.t 63)⟩,
  ⟨(some 65), none, .pick (.t 57) (.t 64) (.k (.bool false))⟩,
  ⟨(some 12), none, .mv (.t 65)⟩]
def rBicliqueSidesEach1X7 : List O := [
  ⟨(some 66), none, .ld (some 3) (.t 2)⟩,
  ⟨(some 67), none, .mv (.t 0)⟩,
  ⟨(some 68), none, .fad 0 (.t 2)⟩,
  ⟨(some 69), none, .ld none (.t 68)⟩,
  ⟨(some 70), none, .mv (.t 11)⟩,
  ⟨(some 71), none, .ixa 1 (.t 69) (.t 70)⟩,
  ⟨(some 72), none, .ld none (.t 71)⟩,
  ⟨(some 73), none, .bin .and (.t 67) (.t 72)⟩,
  ⟨(some 74), none, .call nBicliqueSidesOnLeft [(.t 66), (.t 73)]⟩,
  ⟨(some 75), none, .ld none (.t 3)⟩,
  ⟨(some 76), none, .call nBicliqueMask [(.t 75)]⟩,
  ⟨(some 77), none, .mv (.t 11)⟩,
  ⟨(some 78), none, .bin .shl (.k (.int .u64 1)) (.t 77)⟩,
  ⟨(some 79), none, .bin .or (.t 76) (.t 78)⟩,
  ⟨(some 13), none, .mv (.t 74)⟩,
  ⟨(some 14), none, .mv (.t 79)⟩]
def rBicliqueSidesEach1X8 : List O := [
  ⟨(some 80), none, .mv (.t 13)⟩,
  ⟨(some 81), none, .mv (.t 11)⟩,
  ⟨(some 82), none, .bin .shl (.k (.int .u64 1)) (.t 81)⟩,
  ⟨(some 83), none, .bin .sub (.t 82) (.k (.int .u64 1))⟩,
  ⟨(some 84), none, .bin .and (.t 80) (.t 83)⟩,
  ⟨(some 85), none, .mv (.t 14)⟩,
  ⟨(some 86), none, .mv (.t 11)⟩,
  ⟨(some 87), none, .bin .shl (.k (.int .u64 1)) (.t 86)⟩,
  ⟨(some 88), none, .bin .sub (.t 87) (.k (.int .u64 1))⟩,
  ⟨(some 89), none, .bin .and (.t 85) (.t 88)⟩,
  ⟨(some 90), none, .bin .neq (.t 84) (.t 89)⟩]
def rBicliqueSidesEach1X9 : List O := [
  ⟨(some 91), none, .ld none (.t 3)⟩,
  ⟨(some 92), none, .mv (.t 11)⟩,
  ⟨(some 93), none, .bslice 1 1 [(.int .i64 0)] [(0, 1, (.t 92))]⟩,
  ⟨(some 94), none, .app 1 (.t 91) (.t 93)⟩,
  ⟨none, none, .st 1 (.t 3) (.t 94)⟩]
def rBicliqueSidesEach1X10 : List O := [
  ⟨(some 95), none, .mv (.t 13)⟩,
  ⟨(some 96), none, .mv (.t 14)⟩,
  ⟨(some 97), none, .bin .eql (.t 95) (.t 96)⟩,
  ⟨(some 98), none, .mv (.t 97)⟩,
  ⟨(some 99), (some (98, true)), .mv (.t 12)⟩,
  ⟨(some 100), (some (98, true)), .mv (.t 99)⟩,
  ⟨(some 101), (some (100, true)), .ld none (.t 3)⟩,
  ⟨(some 102), (some (100, true)), .len (.t 101)⟩,
  ⟨(some 103), (some (100, true)), .ld none (.t 4)⟩,
  ⟨(some 104), (some (100, true)), .len (.t 103)⟩,
  ⟨(some 105), (some (100, true)), .bin .leq (.t 102) (.t 104)⟩,
  ⟨(some 106), (some (98, true)), .pick (.t 100) (.t 105) (.k (.bool false))⟩,
  ⟨(some 107), (some (98, true)), .un .not (.t 106)⟩,
  ⟨(some 108), none, .pick (.t 98) (.t 107) (.k (.bool false))⟩,
  ⟨(some 109), none, .mv (.t 108)⟩,
  ⟨(some 110), (some (109, true)), .ld none (.t 5)⟩,
  ⟨(some 111), (some (109, true)), .ld none (.t 3)⟩,
  ⟨(some 112), (some (109, true)), .call nSlicesCloneIntInt [(.t 111)]⟩,
  ⟨(some 113), (some (109, true)), .mv (.t 0)⟩,
  ⟨(some 114), (some (109, true)), .fad 0 (.t 2)⟩,
  ⟨(some 115), (some (109, true)), .ld none (.t 114)⟩,
  ⟨(some 116), (some (109, true)), .mv (.t 11)⟩,
  ⟨(some 117), (some (109, true)), .ixa 1 (.t 115) (.t 116)⟩,
  ⟨(some 118), (some (109, true)), .ld none (.t 117)⟩,
  ⟨(some 119), (some (109, true)), .bin .and (.t 113) (.t 118)⟩,
  ⟨(some 120), (some (109, true)), .call nBicliqueList [(.t 119)]⟩,
  ⟨(some 121), (some (109, true)), .build [(.own 1 []), (.own 1 [])] [(0, 1, (.t 112)), (1, 1, (.t 120))]⟩,
  ⟨(some 122), (some (109, true)), .callv (.t 110) [(.t 121)]⟩,
  ⟨(some 123), (some (109, true)), .un .not (.t 122)⟩,
  ⟨(some 124), none, .pick (.t 109) (.t 123) (.k (.bool false))⟩,
  ⟨(some 125), none, .mv (.t 124)⟩,
  ⟨(some 126), (some (125, false)), .ld none (.t 6)⟩,
  ⟨(some 127), (some (125, false)), .mv (.t 0)⟩,
  ⟨(some 128), (some (125, false)), .fad 0 (.t 2)⟩,
  ⟨(some 129), (some (125, false)), .ld none (.t 128)⟩,
  ⟨(some 130), (some (125, false)), .mv (.t 11)⟩,
  ⟨(some 131), (some (125, false)), .ixa 1 (.t 129) (.t 130)⟩,
  ⟨(some 132), (some (125, false)), .ld none (.t 131)⟩,
  ⟨(some 133), (some (125, false)), .bin .and (.t 127) (.t 132)⟩,
  ⟨(some 134), (some (125, false)), .mv (.t 12)⟩,
  ⟨(some 135), (some (125, false)), .callv (.t 126) [(.t 133), (.t 134)]⟩,
  ⟨(some 136), (some (125, false)), .un .not (.t 135)⟩,
  ⟨(some 137), none, .pick (.t 125) (.k (.bool true)) (.t 136)⟩]
def rBicliqueSidesEach1X11 : List O := [
  ⟨(some 9), none, .mv (.k (.bool false))⟩]
def rBicliqueSidesEach1X12 : List O := [
  ⟨(some 138), none, .ld none (.t 3)⟩,
  ⟨(some 139), none, .ld none (.t 3)⟩,
  ⟨(some 140), none, .len (.t 139)⟩,
  ⟨(some 141), none, .bin .sub (.t 140) (.k (.int .i64 1))⟩,
  ⟨(some 142), none, .slc 1 (.t 138) none (some (.t 141))⟩,
  ⟨none, none, .st 1 (.t 3) (.t 142)⟩]
def rBicliqueSidesEach1X13 : List O := [
  ⟨(some 22), none, .mv (.t 10)⟩,
  ⟨(some 23), none, .mv (.t 10)⟩,
  ⟨(some 24), none, .bin .sub (.t 23) (.k (.int .u64 1))⟩,
  ⟨(some 25), none, .bin .and (.t 22) (.t 24)⟩,
  ⟨(some 10), none, .mv (.t 25)⟩]
def lBicliqueSidesEach1X0 : C := (.seq (.seq (.reg rBicliqueSidesEach1X2 false [] [0, 1, 2, 3, 4, 5, 6, 10, 21]) (.cond (.t 21) .skip (.exit 0))) (.seq (.blk 1 (.seq (.reg rBicliqueSidesEach1X3 false [] [0, 1, 2, 3, 4, 5, 6, 10, 11]) (.seq (.reg rBicliqueSidesEach1X4 false [] [0, 1, 2, 3, 4, 5, 6, 10, 11, 12]) (.seq (.seq (.reg rBicliqueSidesEach1X5 false [] [0, 1, 2, 3, 4, 5, 6, 10, 11, 12, 55]) (.cond (.t 55) (.exit 1) .skip)) (.seq (.reg rBicliqueSidesEach1X6 false [] [0, 1, 2, 3, 4, 5, 6, 10, 11, 12]) (.seq (.reg rBicliqueSidesEach1X7 true [(15, 15), (0, 1), (0, 2), (0, 3), (1, 3), (0, 4), (3, 4), (0, 5), (0, 6), (1, 6), (0, 7), (0, 9), (1, 9), (2, 9), (3, 9), (4, 9), (5, 9), (6, 9), (7, 9), (8, 9), (0, 11), (3, 11), (6, 11), (8, 11), (9, 11), (10, 11), (0, 12), (3, 12), (6, 12), (8, 12), (9, 12), (10, 12)] [0, 1, 2, 3, 4, 5, 6, 10, 11, 12, 13, 14]) (.seq (.seq (.reg rBicliqueSidesEach1X8 true [(10, 10)] [0, 1, 2, 3, 4, 5, 6, 10, 11, 12, 13, 14, 90]) (.cond (.t 90) (.exit 1) .skip)) (.seq (.reg rBicliqueSidesEach1X9 false [] [0, 1, 2, 3, 4, 5, 6, 10, 11, 12, 13, 14]) (.seq (.seq (.reg rBicliqueSidesEach1X10 true [(2, 2), (3, 3), (4, 4), (5, 5), (10, 10), (11, 11), (12, 12), (13, 13), (14, 14), (27, 27), (28, 28), (29, 29), (30, 30), (40, 40), (41, 41), (42, 42), (6, 8), (7, 8), (6, 9), (15, 16), (15, 17), (15, 18), (16, 18), (17, 18), (15, 19), (16, 19), (17, 19), (15, 20), (16, 20), (17, 20), (18, 20), (15, 21), (16, 21), (17, 21), (20, 21), (15, 22), (16, 22), (17, 22), (15, 23), (16, 23), (17, 23), (18, 23), (15, 24), (16, 24), (17, 24), (15, 25), (15, 26), (31, 32), (31, 33), (31, 34), (32, 34), (31, 35), (34, 35), (31, 36), (31, 37), (32, 37), (31, 38), (31, 39), (34, 39), (37, 39)] [0, 1, 2, 3, 4, 5, 6, 10, 137]) (.cond (.t 137) (.seq (.reg rBicliqueSidesEach1X11 false [] [9]) .ret) .skip)) (.reg rBicliqueSidesEach1X12 false [] [0, 1, 2, 3, 4, 5, 6, 10])))))))))) (.reg rBicliqueSidesEach1X13 false [] [0, 1, 2, 3, 4, 5, 6, 10])))
def rBicliqueSidesEach1X14 : List O := [
  ⟨(some 9), none, .mv (.k (.bool true))⟩]
def cBicliqueSidesEach1 : C := (.seq (.reg rBicliqueSidesEach1X0 false [] [0, 1, 2, 3, 4, 5, 6]) (.seq (.seq (.reg rBicliqueSidesEach1X1 true [(4, 4), (5, 5), (0, 2), (1, 2), (0, 3), (1, 3)] [0, 1, 2, 3, 4, 5, 6, 10]) (.blk 0 (.loop lBicliqueSidesEach1X0))) (.seq (.reg rBicliqueSidesEach1X14 false [] [9]) .ret)))
def qBicliqueSidesEach1 : AFn := ⟨143, 2, [.t 9], cBicliqueSidesEach1⟩
/- cohesion/biclique.behind -/
def rBicliqueBehindX0 : List O := [
  ⟨(some 2), none, .mv (.k (.int .u64 0))⟩]
def rBicliqueBehindX1 : List O := [
  ⟨(some 3), none, .mv (.t 0)⟩,
  ⟨(some 4), none, .len (.t 3)⟩,
  ⟨(some 5), none, .bin .eql (.t 4) (.k (.int .i64 0))⟩]
def rBicliqueBehindX2 : List O := [
  ⟨(some 2), none, .mv (.k (.int .u64 0))⟩]
def rBicliqueBehindX3 : List O := [
  ⟨(some 6), none, .mv (.t 0)⟩,
  ⟨(some 7), none, .mv (.t 0)⟩,
  ⟨(some 8), none, .len (.t 7)⟩,
  ⟨(some 9), none, .bin .sub (.t 8) (.k (.int .i64 1))⟩,
  ⟨(some 10), none, .ixa 1 (.t 6) (.t 9)⟩,
  ⟨(some 11), none, .ld none (.t 10)⟩,
  ⟨(some 12), none, .bin .shl (.k (.int .u64 2)) (.t 11)⟩,
  ⟨(some 13), none, .bin .sub (.t 12) (.k (.int .u64 1))⟩,
  ⟨(some 2), none, .mv (.t 13)⟩]
def cBicliqueBehind : C := (.seq (.reg rBicliqueBehindX0 false [] [0]) (.seq (.seq (.reg rBicliqueBehindX1 false [] [0, 5]) (.cond (.t 5) (.seq (.reg rBicliqueBehindX2 false [] [2]) .ret) .skip)) (.seq (.reg rBicliqueBehindX3 false [] [2]) .ret)))
def qBicliqueBehind : AFn := ⟨14, 1, [.t 2], cBicliqueBehind⟩
/- math/bits.TrailingZeros64 -/
def rMathBitsTrailingZeros64X0 : List O := [
  ⟨(some 2), none, .mv (.k (.int .i64 0))⟩]
def rMathBitsTrailingZeros64X1 : List O := [
  ⟨(some 3), none, .mv (.t 0)⟩,
  ⟨(some 4), none, .bin .eql (.t 3) (.k (.int .u64 0))⟩]
def rMathBitsTrailingZeros64X2 : List O := [
  ⟨(some 2), none, .mv (.k (.int .i64 64))⟩]
def rMathBitsTrailingZeros64X3 : List O := [
  ⟨(some 5), none, .mv (.t 0)⟩,
  ⟨(some 6), none, .mv (.t 0)⟩,
  ⟨(some 7), none, .un .neg (.t 6)⟩,
  ⟨(some 8), none, .bin .and (.t 5) (.t 7)⟩,
  ⟨(some 9), none, .bin .mul (.t 8) (.k (.int .u64 285870213051353865))⟩,
  ⟨(some 10), none, .bin .shr (.t 9) (.k (.int .u64 58))⟩,
  ⟨(some 11), none, .ixp 64 1 (.g 0) (.t 10)⟩,
  ⟨(some 12), none, .ld none (.t 11)⟩,
  ⟨(some 13), none, .cvt .i64 (.t 12)⟩,
  ⟨(some 2), none, .mv (.t 13)⟩]
def cMathBitsTrailingZeros64 : C := (.seq (.reg rMathBitsTrailingZeros64X0 false [] [0]) (.seq (.seq (.reg rMathBitsTrailingZeros64X1 false [] [0, 4]) (.cond (.t 4) (.seq (.reg rMathBitsTrailingZeros64X2 false [] [2]) .ret) .skip)) (.seq (.reg rMathBitsTrailingZeros64X3 false [] [2]) .ret)))
def qMathBitsTrailingZeros64 : AFn := ⟨14, 1, [.t 2], cMathBitsTrailingZeros64⟩
/- slices.Clone[[]int,int] -/
def rSlicesCloneIntIntX0 : List O := [
  ⟨(some 2), none, .mv (.k (.own 1 []))⟩]
def rSlicesCloneIntIntX1 : List O := [
  ⟨(some 3), none, .mv (.t 0)⟩,
  ⟨(some 4), none, .eq false .nsl (.t 3) (.k (.own 1 []))⟩]
def rSlicesCloneIntIntX2 : List O := [
  ⟨(some 2), none, .mv (.k (.own 1 []))⟩]
def rSlicesCloneIntIntX3 : List O := [
  ⟨(some 5), none, .bslice 1 0 [(.int .i64 0)] []⟩,
  ⟨(some 6), none, .mv (.t 0)⟩,
  ⟨(some 7), none, .app 1 (.t 5) (.t 6)⟩,
  ⟨(some 2), none, .mv (.t 7)⟩]
def cSlicesCloneIntInt : C := (.seq (.reg rSlicesCloneIntIntX0 false [] [0]) (.seq (.seq (.reg rSlicesCloneIntIntX1 false [] [0, 4]) (.cond (.t 4) (.seq (.reg rSlicesCloneIntIntX2 false [] [2]) .ret) .skip)) (.seq (.reg rSlicesCloneIntIntX3 false [] [2]) .ret)))
def qSlicesCloneIntInt : AFn := ⟨8, 1, [.t 2], cSlicesCloneIntInt⟩
/- (cohesion/biclique.sides).common -/
def rBicliqueSidesCommonX0 : List O := [
  ⟨(some 3), none, .box (.t 0)⟩,
  ⟨(some 6), none, .mv (.k (.int .u64 0))⟩]
def rBicliqueSidesCommonX1 : List O := [
  ⟨(some 7), none, .mv (.t 2)⟩,
  ⟨(some 8), none, .bin .neq (.t 7) (.k (.int .u64 0))⟩]
def rBicliqueSidesCommonX2 : List O := [
  ⟨(some 13), none, .mv (.t 1)⟩,
  ⟨(some 14), none, .fad 0 (.t 3)⟩,
  ⟨(some 15), none, .ld none (.t 14)⟩,
  ⟨(some 16), none, .mv (.t 2)⟩,
  ⟨(some 17), none, .call nMathBitsTrailingZeros64 [(.t 16)]⟩,
  ⟨(some 18), none, .ixa 1 (.t 15) (.t 17)⟩,
  ⟨(some 19), none, .ld none (.t 18)⟩,
  ⟨(some 20), none, .bin .and (.t 13) (.t 19)⟩,
  ⟨(some 1), none, .mv (.t 20)⟩]
def rBicliqueSidesCommonX3 : List O := [
  ⟨(some 9), none, .mv (.t 2)⟩,
  ⟨(some 10), none, .mv (.t 2)⟩,
  ⟨(some 11), none, .bin .sub (.t 10) (.k (.int .u64 1))⟩,
  ⟨(some 12), none, .bin .and (.t 9) (.t 11)⟩,
  ⟨(some 2), none, .mv (.t 12)⟩]
def lBicliqueSidesCommonX0 : C := (.seq (.seq (.reg rBicliqueSidesCommonX1 false [] [1, 2, 3, 8]) (.cond (.t 8) .skip (.exit 0))) (.seq (.blk 1 (.reg rBicliqueSidesCommonX2 true [(7, 7), (8, 8), (0, 2), (2, 3), (0, 4), (1, 4), (2, 4), (0, 6)] [1, 2, 3])) (.reg rBicliqueSidesCommonX3 false [] [1, 2, 3])))
def rBicliqueSidesCommonX4 : List O := [
  ⟨(some 21), none, .mv (.t 1)⟩,
  ⟨(some 6), none, .mv (.t 21)⟩]
def cBicliqueSidesCommon : C := (.seq (.reg rBicliqueSidesCommonX0 false [] [1, 2, 3]) (.seq (.blk 0 (.loop lBicliqueSidesCommonX0)) (.seq (.reg rBicliqueSidesCommonX4 false [] [6]) .ret)))
def qBicliqueSidesCommon : AFn := ⟨22, 3, [.t 6], cBicliqueSidesCommon⟩
/- cohesion/cohesionref03.Before -/
def rRef03BeforeX0 : List O := [
  ⟨(some 2), none, .box (.t 0)⟩,
  ⟨(some 3), none, .box (.t 1)⟩,
  ⟨(some 4), none, .mv (.k (.bool false))⟩]
def rRef03BeforeX1 : List O := [
  ⟨(some 5), none, .fad 0 (.t 2)⟩,
  ⟨(some 6), none, .ld none (.t 5)⟩,
  ⟨(some 7), none, .fad 0 (.t 3)⟩,
  ⟨(some 8), none, .ld none (.t 7)⟩,
  ⟨(some 9), none, .bin .lss (.t 6) (.t 8)⟩,
  ⟨(some 10), none, .mv (.t 9)⟩,
  ⟨(some 11), (some (10, false)), .fad 0 (.t 2)⟩,
  ⟨(some 12), (some (10, false)), .ld none (.t 11)⟩,
  ⟨(some 13), (some (10, false)), .fad 0 (.t 3)⟩,
  ⟨(some 14), (some (10, false)), .ld none (.t 13)⟩,
  ⟨(some 15), (some (10, false)), .bin .eql (.t 12) (.t 14)⟩,
  ⟨(some 16), (some (10, false)), .mv (.t 15)⟩,
  ⟨(some 17), (some (16, true)), .fad 1 (.t 2)⟩,
  ⟨(some 18), (some (16, true)), .ld none (.t 17)⟩,
  ⟨(some 19), (some (16, true)), .fad 1 (.t 3)⟩,
  ⟨(some 20), (some (16, true)), .ld none (.t 19)⟩,
  ⟨(some 21), (some (16, true)), .bin .lss (.t 18) (.t 20)⟩,
  ⟨(some 22), (some (10, false)), .pick (.t 16) (.t 21) (.k (.bool false))⟩,
  ⟨(some 23), none, .pick (.t 10) (.k (.bool true)) (.t 22)⟩,
  ⟨(some 4), none, .mv (.t 23)⟩]
def cRef03Before : C := (.seq (.reg rRef03BeforeX0 false [] [2, 3]) (.seq (.reg rRef03BeforeX1 false [] [4]) .ret))
def qRef03Before : AFn := ⟨24, 2, [.t 4], cRef03Before⟩
/- cohesion/graph.Order -/
def rGraphOrderX0 : List O := [
  ⟨(some 2), none, .box (.t 0)⟩,
  ⟨(some 3), none, .box (.t 1)⟩,
  ⟨(some 4), none, .mv (.k (.int .i64 0))⟩]
def rGraphOrderX1 : List O := [
  ⟨(some 5), none, .fad 0 (.t 2)⟩,
  ⟨(some 6), none, .ld none (.t 5)⟩,
  ⟨(some 7), none, .fad 0 (.t 3)⟩,
  ⟨(some 8), none, .ld none (.t 7)⟩,
  ⟨(some 9), none, .call nCmpCompareInt [(.t 6), (.t 8)]⟩,
  ⟨(some 10), none, .fad 1 (.t 2)⟩,
  ⟨(some 11), none, .ld none (.t 10)⟩,
  ⟨(some 12), none, .fad 1 (.t 3)⟩,
  ⟨(some 13), none, .ld none (.t 12)⟩,
  ⟨(some 14), none, .call nCmpCompareInt [(.t 11), (.t 13)]⟩,
  ⟨(some 15), none, .bslice 1 2 [(.int .i64 0)] [(0, 1, (.t 9)), (1, 1, (.t 14))]⟩,
  ⟨(some 16), none, .call nCmpOrInt [(.t 15)]⟩,
  ⟨(some 4), none, .mv (.t 16)⟩]
def cGraphOrder : C := (.seq (.reg rGraphOrderX0 false [] [2, 3]) (.seq (.reg rGraphOrderX1 true [(9, 9), (10, 10), (11, 11), (12, 12), (1, 2), (0, 3), (1, 3), (1, 5), (3, 5), (4, 5), (0, 6), (1, 6), (2, 6), (3, 6), (4, 6), (1, 7), (3, 7), (4, 7), (6, 7), (0, 8), (1, 8), (2, 8), (3, 8), (4, 8), (5, 8), (6, 8)] [4]) .ret))
def qGraphOrder : AFn := ⟨17, 2, [.t 4], cGraphOrder⟩
/- slices.IndexFunc[[]cohesion/api.Edge,cohesion/api.Edge] -/
def rSlicesIndexFuncApiEdgeApiEdgeX0 : List O := [
  ⟨(some 4), none, .mv (.k (.int .i64 0))⟩]
def rSlicesIndexFuncApiEdgeApiEdgeX1 : List O := [
  ⟨(some 6), none, .mv (.t 0)⟩,
  ⟨(some 7), none, .len (.t 6)⟩,
  ⟨(some 8), none, .mv (.k (.int .i64 0))⟩]
def rSlicesIndexFuncApiEdgeApiEdgeX2 : List O := [
  ⟨(some 9), none, .bin .lss (.t 8) (.t 7)⟩]
def rSlicesIndexFuncApiEdgeApiEdgeX3 : List O := [
  ⟨(some 10), none, .mv (.t 8)⟩,
  ⟨(some 5), none, .mv (.t 10)⟩]
def rSlicesIndexFuncApiEdgeApiEdgeX4 : List O := [
  ⟨(some 11), none, .mv (.t 1)⟩,
  ⟨(some 12), none, .mv (.t 0)⟩,
  ⟨(some 13), none, .mv (.t 5)⟩,
  ⟨(some 14), none, .ixa 2 (.t 12) (.t 13)⟩,
  ⟨(some 15), none, .ld (some 2) (.t 14)⟩,
  ⟨(some 16), none, .callv (.t 11) [(.t 15)]⟩]
def rSlicesIndexFuncApiEdgeApiEdgeX5 : List O := [
  ⟨(some 17), none, .mv (.t 5)⟩,
  ⟨(some 4), none, .mv (.t 17)⟩]
def rSlicesIndexFuncApiEdgeApiEdgeX6 : List O := [
  ⟨(some 18), none, .bin .add (.t 8) (.k (.int .i64 1))⟩,
  ⟨(some 8), none, .mv (.t 18)⟩]
def lSlicesIndexFuncApiEdgeApiEdgeX0 : C := (.seq (.reg rSlicesIndexFuncApiEdgeApiEdgeX2 false [] [0, 1, 7, 8, 9]) (.seq (.cond (.t 9) .skip (.exit 0)) (.seq (.blk 1 (.seq (.reg rSlicesIndexFuncApiEdgeApiEdgeX3 false [] [0, 1, 5, 7, 8]) (.seq (.reg rSlicesIndexFuncApiEdgeApiEdgeX4 false [] [0, 1, 5, 7, 8, 16]) (.cond (.t 16) (.seq (.reg rSlicesIndexFuncApiEdgeApiEdgeX5 false [] [4]) .ret) .skip)))) (.reg rSlicesIndexFuncApiEdgeApiEdgeX6 false [] [0, 1, 7, 8]))))
def rSlicesIndexFuncApiEdgeApiEdgeX7 : List O := [
  ⟨(some 4), none, .mv (.k (.int .i64 (-1)))⟩]
def cSlicesIndexFuncApiEdgeApiEdge : C := (.seq (.reg rSlicesIndexFuncApiEdgeApiEdgeX0 false [] [0, 1]) (.seq (.seq (.reg rSlicesIndexFuncApiEdgeApiEdgeX1 false [] [0, 1, 7, 8]) (.blk 0 (.loop lSlicesIndexFuncApiEdgeApiEdgeX0))) (.seq (.reg rSlicesIndexFuncApiEdgeApiEdgeX7 false [] [4]) .ret)))
def qSlicesIndexFuncApiEdgeApiEdge : AFn := ⟨19, 2, [.t 4], cSlicesIndexFuncApiEdgeApiEdge⟩
/- cmp.Or[int] -/
def rCmpOrIntX0 : List O := [
  ⟨(some 2), none, .mv (.k (.int .i64 0))⟩]
def rCmpOrIntX1 : List O := [
  ⟨(some 3), none, .mv (.k (.int .i64 0))⟩]
def rCmpOrIntX2 : List O := [
  ⟨(some 6), none, .mv (.t 0)⟩,
  ⟨(some 7), none, .len (.t 6)⟩,
  ⟨(some 8), none, .mv (.k (.int .i64 0))⟩]
def rCmpOrIntX3 : List O := [
  ⟨(some 9), none, .bin .lss (.t 8) (.t 7)⟩]
def rCmpOrIntX4 : List O := [
  ⟨(some 10), none, .ixa 1 (.t 6) (.t 8)⟩,
  ⟨(some 11), none, .ld none (.t 10)⟩,
  ⟨(some 5), none, .mv (.t 11)⟩]
def rCmpOrIntX5 : List O := [
  ⟨(some 12), none, .mv (.t 5)⟩,
  ⟨(some 13), none, .mv (.t 3)⟩,
  ⟨(some 14), none, .bin .neq (.t 12) (.t 13)⟩]
def rCmpOrIntX6 : List O := [
  ⟨(some 15), none, .mv (.t 5)⟩,
  ⟨(some 2), none, .mv (.t 15)⟩]
def rCmpOrIntX7 : List O := [
  ⟨(some 16), none, .bin .add (.t 8) (.k (.int .i64 1))⟩,
  ⟨(some 8), none, .mv (.t 16)⟩]
def lCmpOrIntX0 : C := (.seq (.reg rCmpOrIntX3 false [] [3, 6, 7, 8, 9]) (.seq (.cond (.t 9) .skip (.exit 0)) (.seq (.blk 1 (.seq (.reg rCmpOrIntX4 false [] [3, 5, 6, 7, 8]) (.seq (.reg rCmpOrIntX5 false [] [3, 5, 6, 7, 8, 14]) (.cond (.t 14) (.seq (.reg rCmpOrIntX6 false [] [2]) .ret) .skip)))) (.reg rCmpOrIntX7 false [] [3, 6, 7, 8]))))
def rCmpOrIntX8 : List O := [
  ⟨(some 17), none, .mv (.t 3)⟩,
  ⟨(some 2), none, .mv (.t 17)⟩]
def cCmpOrInt : C := (.seq (.reg rCmpOrIntX0 false [] [0]) (.seq (.reg rCmpOrIntX1 false [] [0, 3]) (.seq (.seq (.reg rCmpOrIntX2 false [] [3, 6, 7, 8]) (.blk 0 (.loop lCmpOrIntX0))) (.seq (.reg rCmpOrIntX8 false [] [2]) .ret))))
def qCmpOrInt : AFn := ⟨18, 1, [.t 2], cCmpOrInt⟩
/- cmp.Compare[int] -/
def rCmpCompareIntX0 : List O := [
  ⟨(some 4), none, .mv (.k (.int .i64 0))⟩]
def rCmpCompareIntX1 : List O := [
  ⟨(some 7), none, .mv (.t 0)⟩,
  ⟨(some 8), none, .call nCmpIsNaNInt [(.t 7)]⟩,
  ⟨(some 5), none, .mv (.t 8)⟩]
def rCmpCompareIntX2 : List O := [
  ⟨(some 9), none, .mv (.t 1)⟩,
  ⟨(some 10), none, .call nCmpIsNaNInt [(.t 9)]⟩,
  ⟨(some 6), none, .mv (.t 10)⟩]
def rCmpCompareIntX3 : List O := [
  ⟨(some 11), none, .mv (.t 5)⟩]
def rCmpCompareIntX4 : List O := [
  ⟨(some 12), none, .mv (.t 6)⟩]
def rCmpCompareIntX5 : List O := [
  ⟨(some 4), none, .mv (.k (.int .i64 0))⟩]
def rCmpCompareIntX6 : List O := [
  ⟨(some 4), none, .mv (.k (.int .i64 (-1)))⟩]
def rCmpCompareIntX7 : List O := [
  ⟨(some 13), none, .mv (.t 6)⟩]
def rCmpCompareIntX8 : List O := [
  ⟨(some 4), none, .mv (.k (.int .i64 1))⟩]
def rCmpCompareIntX9 : List O := [
  ⟨(some 14), none, .mv (.t 0)⟩,
  ⟨(some 15), none, .mv (.t 1)⟩,
  ⟨(some 16), none, .bin .lss (.t 14) (.t 15)⟩]
def rCmpCompareIntX10 : List O := [
  ⟨(some 4), none, .mv (.k (.int .i64 (-1)))⟩]
def rCmpCompareIntX11 : List O := [
  ⟨(some 17), none, .mv (.t 0)⟩,
  ⟨(some 18), none, .mv (.t 1)⟩,
  ⟨(some 19), none, .bin .gtr (.t 17) (.t 18)⟩]
def rCmpCompareIntX12 : List O := [
  ⟨(some 4), none, .mv (.k (.int .i64 1))⟩]
def rCmpCompareIntX13 : List O := [
  ⟨(some 4), none, .mv (.k (.int .i64 0))⟩]
def cCmpCompareInt : C := (.seq (.reg rCmpCompareIntX0 false [] [0, 1]) (.seq (.reg rCmpCompareIntX1 false [] [0, 1, 5]) (.seq (.reg rCmpCompareIntX2 false [] [0, 1, 5, 6]) (.seq (.seq (.reg rCmpCompareIntX3 false [] [0, 1, 6, 11]) (.cond (.t 11) (.seq (.seq (.reg rCmpCompareIntX4 false [] [12]) (.cond (.t 12) (.seq (.reg rCmpCompareIntX5 false [] [4]) .ret) .skip)) (.seq (.reg rCmpCompareIntX6 false [] [4]) .ret)) .skip)) (.seq (.seq (.reg rCmpCompareIntX7 false [] [0, 1, 13]) (.cond (.t 13) (.seq (.reg rCmpCompareIntX8 false [] [4]) .ret) .skip)) (.seq (.seq (.reg rCmpCompareIntX9 false [] [0, 1, 16]) (.cond (.t 16) (.seq (.reg rCmpCompareIntX10 false [] [4]) .ret) .skip)) (.seq (.seq (.reg rCmpCompareIntX11 false [] [19]) (.cond (.t 19) (.seq (.reg rCmpCompareIntX12 false [] [4]) .ret) .skip)) (.seq (.reg rCmpCompareIntX13 false [] [4]) .ret))))))))
def qCmpCompareInt : AFn := ⟨20, 2, [.t 4], cCmpCompareInt⟩
/- cmp.isNaN[int] -/
def rCmpIsNaNIntX0 : List O := [
  ⟨(some 2), none, .mv (.k (.bool false))⟩]
def rCmpIsNaNIntX1 : List O := [
  ⟨(some 3), none, .mv (.t 0)⟩,
  ⟨(some 4), none, .mv (.t 0)⟩,
  ⟨(some 5), none, .bin .neq (.t 3) (.t 4)⟩,
  ⟨(some 2), none, .mv (.t 5)⟩]
def cCmpIsNaNInt : C := (.seq (.reg rCmpIsNaNIntX0 false [] [0]) (.seq (.reg rCmpIsNaNIntX1 false [] [2]) .ret))
def qCmpIsNaNInt : AFn := ⟨6, 1, [.t 2], cCmpIsNaNInt⟩
abbrev Md := Go.Bm.Md
abbrev Cfg := Go.Bm.Cfg
def look : List (Nat × Md × AFn) → Nat → Option (Md × AFn)
  | [], _ => none
  | (j, m, q) :: r, i => if i = j then some (m, q) else look r i
def fns : List (Nat × Md × AFn) := [
  (nLaw27BicliqueCrowns, ⟨false, false, true⟩, qLaw27BicliqueCrowns),
  (nLaw27Awake, ⟨false, false, true⟩, qLaw27Awake),
  (nRef02Range, ⟨false, false, false⟩, qRef02Range),
  (nBicliqueAll, ⟨false, false, false⟩, qBicliqueAll),
  (nBicliqueBest, ⟨false, false, false⟩, qBicliqueBest),
  (nBicliqueCheck, ⟨false, false, true⟩, qBicliqueCheck),
  (nRef03Of, ⟨false, false, false⟩, qRef03Of),
  (nRef02Cmp, ⟨false, false, true⟩, qRef02Cmp),
  (nBicliqueOf, ⟨false, false, false⟩, qBicliqueOf),
  (nBicliqueSidesEach, ⟨true, false, false⟩, qBicliqueSidesEach),
  (nBicliqueAll1, ⟨true, false, false⟩, qBicliqueAll1),
  (nBicliqueBest1, ⟨true, false, false⟩, qBicliqueBest1),
  (nNodesetValid, ⟨false, false, true⟩, qNodesetValid),
  (nBicliqueMask, ⟨false, false, true⟩, qBicliqueMask),
  (nBicliqueSidesOnLeft, ⟨false, false, true⟩, qBicliqueSidesOnLeft),
  (nBicliqueList, ⟨false, false, false⟩, qBicliqueList),
  (nRef03Edge, ⟨false, false, false⟩, qRef03Edge),
  (nGraphCheck, ⟨false, false, true⟩, qGraphCheck),
  (nSlicesContainsFuncApiEdgeApiEdge, ⟨true, false, false⟩, qSlicesContainsFuncApiEdgeApiEdge),
  (nBicliqueCheck1, ⟨true, false, false⟩, qBicliqueCheck1),
  (nRef03Ends, ⟨false, false, true⟩, qRef03Ends),
  (nRef03With, ⟨false, false, false⟩, qRef03With),
  (nBicliqueSidesEach1, ⟨true, false, false⟩, qBicliqueSidesEach1),
  (nBicliqueBehind, ⟨false, false, true⟩, qBicliqueBehind),
  (nMathBitsTrailingZeros64, ⟨false, false, true⟩, qMathBitsTrailingZeros64),
  (nSlicesCloneIntInt, ⟨false, true, true⟩, qSlicesCloneIntInt),
  (nBicliqueSidesCommon, ⟨false, false, true⟩, qBicliqueSidesCommon),
  (nRef03Before, ⟨false, false, true⟩, qRef03Before),
  (nGraphOrder, ⟨false, false, true⟩, qGraphOrder),
  (nSlicesIndexFuncApiEdgeApiEdge, ⟨true, false, false⟩, qSlicesIndexFuncApiEdgeApiEdge),
  (nCmpOrInt, ⟨false, false, true⟩, qCmpOrInt),
  (nCmpCompareInt, ⟨false, false, true⟩, qCmpCompareInt),
  (nCmpIsNaNInt, ⟨false, false, true⟩, qCmpIsNaNInt)]
def nTab : Nat := 0
def tabZ : List Int := [0, 1, 56, 2, 57, 49, 28, 3, 61, 58, 42, 50, 38, 29, 17, 4, 62, 47, 59, 36, 45, 43, 51, 22, 53, 39, 33, 30, 24, 18, 12, 5, 63, 55, 48, 27, 60, 41, 37, 16, 46, 35, 44, 21, 52, 32, 23, 11, 54, 26, 40, 15, 34, 20, 31, 10, 25, 14, 19, 9, 13, 8, 7, 6]
def tabA : List AV := tabZ.map (AV.int .u8)
def cfg : Cfg := ⟨look fns, fun i => if i = nTab then tabA else [], fun _ => none, fun _ => none⟩
theorem kLaw27BicliqueCrowns : chkFB Go.Proofs.Tryd.prog Go.Proofs.Tryd.f4 qLaw27BicliqueCrowns = true := by kernel_rfl
theorem kLaw27Awake : chkFB Go.Proofs.Tryd.prog Go.Proofs.Tryd.f9 qLaw27Awake = true := by kernel_rfl
theorem kRef02Range : chkFB Go.Proofs.Tryd.prog Go.Proofs.Tryd.f13 qRef02Range = true := by kernel_rfl
theorem kBicliqueAll : chkFB Go.Proofs.Tryd.prog Go.Proofs.Tryd.f14 qBicliqueAll = true := by kernel_rfl
theorem kBicliqueBest : chkFB Go.Proofs.Tryd.prog Go.Proofs.Tryd.f16 qBicliqueBest = true := by kernel_rfl
theorem kBicliqueCheck : chkFB Go.Proofs.Tryd.prog Go.Proofs.Tryd.f27 qBicliqueCheck = true := by kernel_rfl
theorem kRef03Of : chkFB Go.Proofs.Tryd.prog Go.Proofs.Tryd.f36 qRef03Of = true := by kernel_rfl
theorem kRef02Cmp : chkFB Go.Proofs.Tryd.prog Go.Proofs.Tryd.f37 qRef02Cmp = true := by kernel_rfl
theorem kBicliqueOf : chkFB Go.Proofs.Tryd.prog Go.Proofs.Tryd.f39 qBicliqueOf = true := by kernel_rfl
theorem kBicliqueSidesEach : chkFB Go.Proofs.Tryd.prog Go.Proofs.Tryd.f40 qBicliqueSidesEach = true := by kernel_rfl
theorem kBicliqueAll1 : chkFB Go.Proofs.Tryd.prog Go.Proofs.Tryd.f41 qBicliqueAll1 = true := by kernel_rfl
theorem kBicliqueBest1 : chkFB Go.Proofs.Tryd.prog Go.Proofs.Tryd.f42 qBicliqueBest1 = true := by kernel_rfl
theorem kNodesetValid : chkFB Go.Proofs.Tryd.prog Go.Proofs.Tryd.f45 qNodesetValid = true := by kernel_rfl
theorem kBicliqueMask : chkFB Go.Proofs.Tryd.prog Go.Proofs.Tryd.f46 qBicliqueMask = true := by kernel_rfl
theorem kBicliqueSidesOnLeft : chkFB Go.Proofs.Tryd.prog Go.Proofs.Tryd.f48 qBicliqueSidesOnLeft = true := by kernel_rfl
theorem kBicliqueList : chkFB Go.Proofs.Tryd.prog Go.Proofs.Tryd.f50 qBicliqueList = true := by kernel_rfl
theorem kRef03Edge : chkFB Go.Proofs.Tryd.prog Go.Proofs.Tryd.f52 qRef03Edge = true := by kernel_rfl
theorem kGraphCheck : chkFB Go.Proofs.Tryd.prog Go.Proofs.Tryd.f53 qGraphCheck = true := by kernel_rfl
theorem kSlicesContainsFuncApiEdgeApiEdge : chkFB Go.Proofs.Tryd.prog Go.Proofs.Tryd.f54 qSlicesContainsFuncApiEdgeApiEdge = true := by kernel_rfl
theorem kBicliqueCheck1 : chkFB Go.Proofs.Tryd.prog Go.Proofs.Tryd.f55 qBicliqueCheck1 = true := by kernel_rfl
theorem kRef03Ends : chkFB Go.Proofs.Tryd.prog Go.Proofs.Tryd.f61 qRef03Ends = true := by kernel_rfl
theorem kRef03With : chkFB Go.Proofs.Tryd.prog Go.Proofs.Tryd.f62 qRef03With = true := by kernel_rfl
theorem kBicliqueSidesEach1 : chkFB Go.Proofs.Tryd.prog Go.Proofs.Tryd.f64 qBicliqueSidesEach1 = true := by kernel_rfl
theorem kBicliqueBehind : chkFB Go.Proofs.Tryd.prog Go.Proofs.Tryd.f65 qBicliqueBehind = true := by kernel_rfl
theorem kMathBitsTrailingZeros64 : chkFB Go.Proofs.Tryd.prog Go.Proofs.Tryd.f66 qMathBitsTrailingZeros64 = true := by kernel_rfl
theorem kSlicesCloneIntInt : chkFB Go.Proofs.Tryd.prog Go.Proofs.Tryd.f67 qSlicesCloneIntInt = true := by kernel_rfl
theorem kBicliqueSidesCommon : chkFB Go.Proofs.Tryd.prog Go.Proofs.Tryd.f68 qBicliqueSidesCommon = true := by kernel_rfl
theorem kRef03Before : chkFB Go.Proofs.Tryd.prog Go.Proofs.Tryd.f70 qRef03Before = true := by kernel_rfl
theorem kGraphOrder : chkFB Go.Proofs.Tryd.prog Go.Proofs.Tryd.f71 qGraphOrder = true := by kernel_rfl
theorem kSlicesIndexFuncApiEdgeApiEdge : chkFB Go.Proofs.Tryd.prog Go.Proofs.Tryd.f72 qSlicesIndexFuncApiEdgeApiEdge = true := by kernel_rfl
theorem kCmpOrInt : chkFB Go.Proofs.Tryd.prog Go.Proofs.Tryd.f76 qCmpOrInt = true := by kernel_rfl
theorem kCmpCompareInt : chkFB Go.Proofs.Tryd.prog Go.Proofs.Tryd.f77 qCmpCompareInt = true := by kernel_rfl
theorem kCmpIsNaNInt : chkFB Go.Proofs.Tryd.prog Go.Proofs.Tryd.f80 qCmpIsNaNInt = true := by kernel_rfl
theorem look_mem : ∀ {l : List (Nat × Md × AFn)} {f : Nat} {m : Md} {q : AFn}, look l f = some (m, q) → (f, m, q) ∈ l
  | [], f, m, q, h => by simp [look] at h
  | (j, m', q') :: r, f, m, q, h => by
    unfold look at h
    split at h
    · rename_i he; subst he; simp at h; obtain ⟨rfl, rfl⟩ := h; simp
    · exact List.mem_cons_of_mem _ (look_mem h)
def Good (p : Nat × Md × AFn) : Prop := ∃ fn, Go.Proofs.Tryd.prog.funcs[p.1]? = some fn ∧ chkFB Go.Proofs.Tryd.prog fn p.2.2 = true
def All (G : Nat × Md × AFn → Prop) : List (Nat × Md × AFn) → Prop
  | [] => True
  | p :: r => G p ∧ All G r
theorem All.get {G : Nat × Md × AFn → Prop} : ∀ {l : List (Nat × Md × AFn)}, All G l → ∀ p ∈ l, G p
  | [], _, p, h => by simp at h
  | q :: r, h, p, hp => by
    rcases List.mem_cons.1 hp with e | e
    · subst e; exact h.1
    · exact All.get h.2 p e
theorem allGood : All Good fns := ⟨⟨_, Go.Proofs.Tryd.func4, kLaw27BicliqueCrowns⟩, ⟨_, Go.Proofs.Tryd.func9, kLaw27Awake⟩, ⟨_, Go.Proofs.Tryd.func13, kRef02Range⟩, ⟨_, Go.Proofs.Tryd.func14, kBicliqueAll⟩, ⟨_, Go.Proofs.Tryd.func16, kBicliqueBest⟩, ⟨_, Go.Proofs.Tryd.func27, kBicliqueCheck⟩, ⟨_, Go.Proofs.Tryd.func36, kRef03Of⟩, ⟨_, Go.Proofs.Tryd.func37, kRef02Cmp⟩, ⟨_, Go.Proofs.Tryd.func39, kBicliqueOf⟩, ⟨_, Go.Proofs.Tryd.func40, kBicliqueSidesEach⟩, ⟨_, Go.Proofs.Tryd.func41, kBicliqueAll1⟩, ⟨_, Go.Proofs.Tryd.func42, kBicliqueBest1⟩, ⟨_, Go.Proofs.Tryd.func45, kNodesetValid⟩, ⟨_, Go.Proofs.Tryd.func46, kBicliqueMask⟩, ⟨_, Go.Proofs.Tryd.func48, kBicliqueSidesOnLeft⟩, ⟨_, Go.Proofs.Tryd.func50, kBicliqueList⟩, ⟨_, Go.Proofs.Tryd.func52, kRef03Edge⟩, ⟨_, Go.Proofs.Tryd.func53, kGraphCheck⟩, ⟨_, Go.Proofs.Tryd.func54, kSlicesContainsFuncApiEdgeApiEdge⟩, ⟨_, Go.Proofs.Tryd.func55, kBicliqueCheck1⟩, ⟨_, Go.Proofs.Tryd.func61, kRef03Ends⟩, ⟨_, Go.Proofs.Tryd.func62, kRef03With⟩, ⟨_, Go.Proofs.Tryd.func64, kBicliqueSidesEach1⟩, ⟨_, Go.Proofs.Tryd.func65, kBicliqueBehind⟩, ⟨_, Go.Proofs.Tryd.func66, kMathBitsTrailingZeros64⟩, ⟨_, Go.Proofs.Tryd.func67, kSlicesCloneIntInt⟩, ⟨_, Go.Proofs.Tryd.func68, kBicliqueSidesCommon⟩, ⟨_, Go.Proofs.Tryd.func70, kRef03Before⟩, ⟨_, Go.Proofs.Tryd.func71, kGraphOrder⟩, ⟨_, Go.Proofs.Tryd.func72, kSlicesIndexFuncApiEdgeApiEdge⟩, ⟨_, Go.Proofs.Tryd.func76, kCmpOrInt⟩, ⟨_, Go.Proofs.Tryd.func77, kCmpCompareInt⟩, ⟨_, Go.Proofs.Tryd.func80, kCmpIsNaNInt⟩, trivial⟩
theorem cfgOK : CfgOKB Go.Proofs.Tryd.prog cfg := ⟨by kernel_rfl, fun f m q h => allGood.get _ (look_mem h)⟩
theorem gLaw27BicliqueCrowns : cfg.fn nLaw27BicliqueCrowns = some (⟨false, false, true⟩, qLaw27BicliqueCrowns) := rfl
theorem gLaw27Awake : cfg.fn nLaw27Awake = some (⟨false, false, true⟩, qLaw27Awake) := rfl
theorem gRef02Range : cfg.fn nRef02Range = some (⟨false, false, false⟩, qRef02Range) := rfl
theorem gBicliqueAll : cfg.fn nBicliqueAll = some (⟨false, false, false⟩, qBicliqueAll) := rfl
theorem gBicliqueBest : cfg.fn nBicliqueBest = some (⟨false, false, false⟩, qBicliqueBest) := rfl
theorem gBicliqueCheck : cfg.fn nBicliqueCheck = some (⟨false, false, true⟩, qBicliqueCheck) := rfl
theorem gRef03Of : cfg.fn nRef03Of = some (⟨false, false, false⟩, qRef03Of) := rfl
theorem gRef02Cmp : cfg.fn nRef02Cmp = some (⟨false, false, true⟩, qRef02Cmp) := rfl
theorem gBicliqueOf : cfg.fn nBicliqueOf = some (⟨false, false, false⟩, qBicliqueOf) := rfl
theorem gBicliqueSidesEach : cfg.fn nBicliqueSidesEach = some (⟨true, false, false⟩, qBicliqueSidesEach) := rfl
theorem gBicliqueAll1 : cfg.fn nBicliqueAll1 = some (⟨true, false, false⟩, qBicliqueAll1) := rfl
theorem gBicliqueBest1 : cfg.fn nBicliqueBest1 = some (⟨true, false, false⟩, qBicliqueBest1) := rfl
theorem gNodesetValid : cfg.fn nNodesetValid = some (⟨false, false, true⟩, qNodesetValid) := rfl
theorem gBicliqueMask : cfg.fn nBicliqueMask = some (⟨false, false, true⟩, qBicliqueMask) := rfl
theorem gBicliqueSidesOnLeft : cfg.fn nBicliqueSidesOnLeft = some (⟨false, false, true⟩, qBicliqueSidesOnLeft) := rfl
theorem gBicliqueList : cfg.fn nBicliqueList = some (⟨false, false, false⟩, qBicliqueList) := rfl
theorem gRef03Edge : cfg.fn nRef03Edge = some (⟨false, false, false⟩, qRef03Edge) := rfl
theorem gGraphCheck : cfg.fn nGraphCheck = some (⟨false, false, true⟩, qGraphCheck) := rfl
theorem gSlicesContainsFuncApiEdgeApiEdge : cfg.fn nSlicesContainsFuncApiEdgeApiEdge = some (⟨true, false, false⟩, qSlicesContainsFuncApiEdgeApiEdge) := rfl
theorem gBicliqueCheck1 : cfg.fn nBicliqueCheck1 = some (⟨true, false, false⟩, qBicliqueCheck1) := rfl
theorem gRef03Ends : cfg.fn nRef03Ends = some (⟨false, false, true⟩, qRef03Ends) := rfl
theorem gRef03With : cfg.fn nRef03With = some (⟨false, false, false⟩, qRef03With) := rfl
theorem gBicliqueSidesEach1 : cfg.fn nBicliqueSidesEach1 = some (⟨true, false, false⟩, qBicliqueSidesEach1) := rfl
theorem gBicliqueBehind : cfg.fn nBicliqueBehind = some (⟨false, false, true⟩, qBicliqueBehind) := rfl
theorem gMathBitsTrailingZeros64 : cfg.fn nMathBitsTrailingZeros64 = some (⟨false, false, true⟩, qMathBitsTrailingZeros64) := rfl
theorem gSlicesCloneIntInt : cfg.fn nSlicesCloneIntInt = some (⟨false, true, true⟩, qSlicesCloneIntInt) := rfl
theorem gBicliqueSidesCommon : cfg.fn nBicliqueSidesCommon = some (⟨false, false, true⟩, qBicliqueSidesCommon) := rfl
theorem gRef03Before : cfg.fn nRef03Before = some (⟨false, false, true⟩, qRef03Before) := rfl
theorem gGraphOrder : cfg.fn nGraphOrder = some (⟨false, false, true⟩, qGraphOrder) := rfl
theorem gSlicesIndexFuncApiEdgeApiEdge : cfg.fn nSlicesIndexFuncApiEdgeApiEdge = some (⟨true, false, false⟩, qSlicesIndexFuncApiEdgeApiEdge) := rfl
theorem gCmpOrInt : cfg.fn nCmpOrInt = some (⟨false, false, true⟩, qCmpOrInt) := rfl
theorem gCmpCompareInt : cfg.fn nCmpCompareInt = some (⟨false, false, true⟩, qCmpCompareInt) := rfl
theorem gCmpIsNaNInt : cfg.fn nCmpIsNaNInt = some (⟨false, false, true⟩, qCmpIsNaNInt) := rfl
end Go.BmP
