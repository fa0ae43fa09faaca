/- The compact code of the functions, printed by program off the translation. -/
import Derived.Test.YtikffbngaolphaaDoorChecked
import Derived.Test.YtikffbngaolphaaDoorBmA
import Derived.KernelRfl
set_option maxRecDepth 100000
namespace Go.BmP
open Go.Am Go.Bm
def nLaw27BicliqueTurns : Nat := 3
def nLaw27BicliqueGoes : Nat := 5
def nMakeFew : Nat := 8
def nLaw27Awake : Nat := 9
def nFieldSided : Nat := 10
def nMakeNew : Nat := 11
def nRef02Minus : Nat := 12
def nRef02Range : Nat := 13
def nBicliqueAll : Nat := 14
def nRef27Same : Nat := 15
def nBicliqueBest : Nat := 16
def nBicliqueNext : Nat := 17
def nBicliqueMaximal : Nat := 18
def nRef02Union : Nat := 19
def nRef02Has : Nat := 20
def nMakeSet : Nat := 22
def nBicliqueCheck : Nat := 27
def nMakeDeckNext : Nat := 32
def nRef03Of : Nat := 36
def nRef02Cmp : Nat := 37
def nRef02Of : Nat := 38
def nBicliqueOf : Nat := 39
def nBicliqueSidesEach : Nat := 40
def nBicliqueAll1 : Nat := 41
def nBicliqueBest1 : Nat := 42
def nBicliqueNext1 : Nat := 43
def nBicliqueMaximal1 : Nat := 44
def nNodesetValid : Nat := 45
def nBicliqueMask : Nat := 46
def nBicliqueSidesOnRight : Nat := 47
def nBicliqueSidesOnLeft : Nat := 48
def nBicliqueList : Nat := 50
def nRef03Edge : Nat := 52
def nGraphCheck : Nat := 53
def nSlicesContainsFuncApiEdgeApiEdge : Nat := 54
def nBicliqueCheck1 : Nat := 55
def nMakeMod : Nat := 60
def nRef03Ends : Nat := 61
def nRef03With : Nat := 62
def nRef02Put : Nat := 63
def nBicliqueSidesEach1 : Nat := 64
def nBicliqueBehind : Nat := 65
def nMathBitsTrailingZeros64 : Nat := 66
def nSlicesCloneIntInt : Nat := 67
def nBicliqueSidesCommon : Nat := 68
def nRef03Before : Nat := 70
def nGraphOrder : Nat := 71
def nSlicesIndexFuncApiEdgeApiEdge : Nat := 72
def nCmpOrInt : Nat := 76
def nCmpCompareInt : Nat := 77
def nCmpIsNaNInt : Nat := 80
/- cohesion/cohesionlaw27.BicliqueTurns -/
def rLaw27BicliqueTurnsX0 : List O := [
  ⟨(some 2), none, .mv (.k (.bool false))⟩]
def rLaw27BicliqueTurnsX1 : List O := [
  ⟨(some 14), none, .mv (.t 0)⟩,
  ⟨(some 15), none, .call nMakeFew [(.t 14)]⟩,
  ⟨(some 16), none, .un .not (.t 15)⟩]
def rLaw27BicliqueTurnsX2 : List O := [
  ⟨(some 17), none, .call nLaw27Awake []⟩,
  ⟨(some 2), none, .mv (.t 17)⟩]
def rLaw27BicliqueTurnsX3 : List O := [
  ⟨(some 18), none, .mv (.t 0)⟩,
  ⟨(some 19), none, .call nMakeNew [(.t 18)]⟩,
  ⟨(some 20), none, .call nFieldSided [(.t 19), (.k (.int .i64 8))]⟩,
  ⟨(some 3), none, .new [(.int .i64 0), (.own 2 []), (.own 1 [])]⟩,
  ⟨none, none, .st 3 (.t 3) (.t 20)⟩]
def rLaw27BicliqueTurnsX4 : List O := [
  ⟨(some 21), none, .fad 0 (.t 3)⟩,
  ⟨(some 22), none, .ld (some 2) (.t 21)⟩,
  ⟨(some 23), none, .fad 0 (.t 3)⟩,
  ⟨(some 24), none, .fad 0 (.t 23)⟩,
  ⟨(some 25), none, .ld none (.t 24)⟩,
  ⟨(some 26), none, .call nRef02Range [(.t 25)]⟩,
  ⟨(some 27), none, .fad 2 (.t 3)⟩,
  ⟨(some 28), none, .ld none (.t 27)⟩,
  ⟨(some 29), none, .call nRef02Minus [(.t 26), (.t 28)]⟩,
  ⟨(some 30), none, .build [(.int .i64 0), (.own 2 []), (.own 1 [])] [(0, 2, (.t 22)), (2, 1, (.t 29))]⟩,
  ⟨(some 4), none, .new [(.int .i64 0), (.own 2 []), (.own 1 [])]⟩,
  ⟨none, none, .st 3 (.t 4) (.t 30)⟩]
def rLaw27BicliqueTurnsX5 : List O := [
  ⟨(some 32), none, .ld (some 3) (.t 3)⟩,
  ⟨(some 33), none, .call nBicliqueAll [(.t 32), (.k (.int .i64 4096))]⟩,
  ⟨(some 31), none, .mv (.t 33)⟩,
  ⟨(some 34), none, .ext 0 (.t 31)⟩,
  ⟨(some 35), none, .ext 1 (.t 31)⟩,
  ⟨(some 5), none, .mv (.t 34)⟩,
  ⟨(some 6), none, .mv (.t 35)⟩]
def rLaw27BicliqueTurnsX6 : List O := [
  ⟨(some 37), none, .ld (some 3) (.t 4)⟩,
  ⟨(some 38), none, .call nBicliqueAll [(.t 37), (.k (.int .i64 4096))]⟩,
  ⟨(some 36), none, .mv (.t 38)⟩,
  ⟨(some 39), none, .ext 0 (.t 36)⟩,
  ⟨(some 40), none, .ext 1 (.t 36)⟩,
  ⟨(some 7), none, .mv (.t 39)⟩,
  ⟨(some 8), none, .mv (.t 40)⟩]
def rLaw27BicliqueTurnsX7 : List O := [
  ⟨(some 41), none, .mv (.t 6)⟩,
  ⟨(some 42), none, .bin .neq (.t 41) (.k (.int .i64 0))⟩,
  ⟨(some 43), none, .mv (.t 42)⟩,
  ⟨(some 44), (some (43, false)), .mv (.t 8)⟩,
  ⟨(some 45), (some (43, false)), .bin .neq (.t 44) (.k (.int .i64 0))⟩,
  ⟨(some 46), none, .pick (.t 43) (.k (.bool true)) (.t 45)⟩,
  ⟨(some 47), none, .mv (.t 46)⟩,
  ⟨(some 48), (some (47, false)), .mv (.t 5)⟩,
  ⟨(some 49), (some (47, false)), .len (.t 48)⟩,
  ⟨(some 50), (some (47, false)), .mv (.t 7)⟩,
  ⟨(some 51), (some (47, false)), .len (.t 50)⟩,
  ⟨(some 52), (some (47, false)), .bin .neq (.t 49) (.t 51)⟩,
  ⟨(some 53), none, .pick (.t 47) (.k (.bool true)) (.t 52)⟩]
def rLaw27BicliqueTurnsX8 : List O := [
  ⟨(some 2), none, .mv (.k (.bool false))⟩]
def rLaw27BicliqueTurnsX9 : List O := [
  ⟨(some 54), none, .mv (.t 5)⟩,
  ⟨(some 55), none, .len (.t 54)⟩,
  ⟨(some 56), none, .mv (.k (.int .i64 0))⟩]
def rLaw27BicliqueTurnsX10 : List O := [
  ⟨(some 57), none, .bin .lss (.t 56) (.t 55)⟩]
def rLaw27BicliqueTurnsX11 : List O := [
  ⟨(some 58), none, .ixa 2 (.t 54) (.t 56)⟩,
  ⟨(some 59), none, .ld (some 2) (.t 58)⟩,
  ⟨(some 10), none, .new [(.own 1 []), (.own 1 [])]⟩,
  ⟨none, none, .st 2 (.t 10) (.t 59)⟩]
def rLaw27BicliqueTurnsX12 : List O := [
  ⟨(some 11), none, .mv (.k (.bool false))⟩]
def rLaw27BicliqueTurnsX13 : List O := [
  ⟨(some 60), none, .mv (.t 7)⟩,
  ⟨(some 61), none, .len (.t 60)⟩,
  ⟨(some 62), none, .mv (.k (.int .i64 0))⟩]
def rLaw27BicliqueTurnsX14 : List O := [
  ⟨(some 63), none, .bin .lss (.t 62) (.t 61)⟩]
def rLaw27BicliqueTurnsX15 : List O := [
  ⟨(some 64), none, .ixa 2 (.t 60) (.t 62)⟩,
  ⟨(some 65), none, .ld (some 2) (.t 64)⟩,
  ⟨(some 13), none, .new [(.own 1 []), (.own 1 [])]⟩,
  ⟨none, none, .st 2 (.t 13) (.t 65)⟩]
def rLaw27BicliqueTurnsX16 : List O := [
  ⟨(some 66), none, .mv (.t 11)⟩,
  ⟨(some 67), none, .mv (.t 66)⟩,
  ⟨(some 68), (some (67, false)), .ld (some 2) (.t 10)⟩,
  ⟨(some 69), (some (67, false)), .fad 1 (.t 13)⟩,
  ⟨(some 70), (some (67, false)), .ld none (.t 69)⟩,
  ⟨(some 71), (some (67, false)), .fad 0 (.t 13)⟩,
  ⟨(some 72), (some (67, false)), .ld none (.t 71)⟩,
  ⟨(some 73), (some (67, false)), .build [(.own 1 []), (.own 1 [])] [(0, 1, (.t 70)), (1, 1, (.t 72))]⟩,
  ⟨(some 74), (some (67, false)), .call nRef27Same [(.t 68), (.t 73)]⟩,
  ⟨(some 75), none, .pick (.t 67) (.k (.bool true)) (.t 74)⟩,
  ⟨(some 11), none, .mv (.t 75)⟩]
def rLaw27BicliqueTurnsX17 : List O := [
  ⟨(some 76), none, .bin .add (.t 62) (.k (.int .i64 1))⟩,
  ⟨(some 62), none, .mv (.t 76)⟩]
def lLaw27BicliqueTurnsX0 : C := (.seq (.reg rLaw27BicliqueTurnsX14 false [] [7, 10, 11, 54, 55, 56, 60, 61, 62, 63]) (.seq (.cond (.t 63) .skip (.exit 2)) (.seq (.blk 3 (.seq (.reg rLaw27BicliqueTurnsX15 false [] [7, 10, 11, 13, 54, 55, 56, 60, 61, 62]) (.reg rLaw27BicliqueTurnsX16 false [] [7, 10, 11, 54, 55, 56, 60, 61, 62]))) (.reg rLaw27BicliqueTurnsX17 false [] [7, 10, 11, 54, 55, 56, 60, 61, 62]))))
def rLaw27BicliqueTurnsX18 : List O := [
  ⟨(some 77), none, .mv (.t 11)⟩,
  ⟨(some 78), none, .un .not (.t 77)⟩]
def rLaw27BicliqueTurnsX19 : List O := [
  ⟨(some 2), none, .mv (.k (.bool false))⟩]
def rLaw27BicliqueTurnsX20 : List O := [
  ⟨(some 79), none, .bin .add (.t 56) (.k (.int .i64 1))⟩,
  ⟨(some 56), none, .mv (.t 79)⟩]
def lLaw27BicliqueTurnsX1 : C := (.seq (.reg rLaw27BicliqueTurnsX10 false [] [7, 54, 55, 56, 57]) (.seq (.cond (.t 57) .skip (.exit 0)) (.seq (.blk 1 (.seq (.reg rLaw27BicliqueTurnsX11 false [] [7, 10, 54, 55, 56]) (.seq (.reg rLaw27BicliqueTurnsX12 false [] [7, 10, 11, 54, 55, 56]) (.seq (.seq (.reg rLaw27BicliqueTurnsX13 false [] [7, 10, 11, 54, 55, 56, 60, 61, 62]) (.blk 2 (.loop lLaw27BicliqueTurnsX0))) (.seq (.reg rLaw27BicliqueTurnsX18 false [] [7, 54, 55, 56, 78]) (.cond (.t 78) (.seq (.reg rLaw27BicliqueTurnsX19 false [] [2]) .ret) .skip)))))) (.reg rLaw27BicliqueTurnsX20 false [] [7, 54, 55, 56]))))
def rLaw27BicliqueTurnsX21 : List O := [
  ⟨(some 80), none, .call nLaw27Awake []⟩,
  ⟨(some 2), none, .mv (.t 80)⟩]
def cLaw27BicliqueTurns : C := (.seq (.reg rLaw27BicliqueTurnsX0 false [] [0]) (.seq (.seq (.reg rLaw27BicliqueTurnsX1 false [] [0, 16]) (.cond (.t 16) (.seq (.reg rLaw27BicliqueTurnsX2 false [] [2]) .ret) .skip)) (.seq (.reg rLaw27BicliqueTurnsX3 false [] [3]) (.seq (.reg rLaw27BicliqueTurnsX4 true [(11, 11), (1, 2), (1, 3), (0, 4), (1, 4), (0, 5), (1, 5), (1, 6), (4, 6), (5, 6), (0, 7), (1, 7), (2, 7), (3, 7), (4, 7), (5, 7), (0, 8), (1, 8), (0, 10), (1, 10), (2, 10), (3, 10), (4, 10), (5, 10), (6, 10), (7, 10), (8, 10), (9, 10)] [3, 4]) (.seq (.reg rLaw27BicliqueTurnsX5 false [] [4, 5, 6]) (.seq (.reg rLaw27BicliqueTurnsX6 false [] [5, 6, 7, 8]) (.seq (.seq (.reg rLaw27BicliqueTurnsX7 false [] [5, 7, 53]) (.cond (.t 53) (.seq (.reg rLaw27BicliqueTurnsX8 false [] [2]) .ret) .skip)) (.seq (.seq (.reg rLaw27BicliqueTurnsX9 false [] [7, 54, 55, 56]) (.blk 0 (.loop lLaw27BicliqueTurnsX1))) (.seq (.reg rLaw27BicliqueTurnsX21 false [] [2]) .ret)))))))))
def qLaw27BicliqueTurns : AFn := ⟨81, 1, [.t 2], cLaw27BicliqueTurns⟩
/- cohesion/cohesionlaw27.BicliqueGoes -/
def rLaw27BicliqueGoesX0 : List O := [
  ⟨(some 2), none, .mv (.k (.bool false))⟩]
def rLaw27BicliqueGoesX1 : List O := [
  ⟨(some 20), none, .mv (.t 0)⟩,
  ⟨(some 21), none, .call nMakeFew [(.t 20)]⟩,
  ⟨(some 22), none, .un .not (.t 21)⟩]
def rLaw27BicliqueGoesX2 : List O := [
  ⟨(some 23), none, .call nLaw27Awake []⟩,
  ⟨(some 2), none, .mv (.t 23)⟩]
def rLaw27BicliqueGoesX3 : List O := [
  ⟨(some 24), none, .mv (.t 0)⟩,
  ⟨(some 25), none, .call nMakeNew [(.t 24)]⟩,
  ⟨(some 26), none, .call nFieldSided [(.t 25), (.k (.int .i64 9))]⟩,
  ⟨(some 3), none, .new [(.int .i64 0), (.own 2 []), (.own 1 [])]⟩,
  ⟨none, none, .st 3 (.t 3) (.t 26)⟩]
def rLaw27BicliqueGoesX4 : List O := [
  ⟨(some 28), none, .ld (some 3) (.t 3)⟩,
  ⟨(some 29), none, .call nBicliqueAll [(.t 28), (.k (.int .i64 4096))]⟩,
  ⟨(some 27), none, .mv (.t 29)⟩,
  ⟨(some 30), none, .ext 0 (.t 27)⟩,
  ⟨(some 31), none, .ext 1 (.t 27)⟩,
  ⟨(some 4), none, .mv (.t 30)⟩,
  ⟨(some 5), none, .mv (.t 31)⟩]
def rLaw27BicliqueGoesX5 : List O := [
  ⟨(some 32), none, .mv (.t 5)⟩,
  ⟨(some 33), none, .bin .neq (.t 32) (.k (.int .i64 0))⟩]
def rLaw27BicliqueGoesX6 : List O := [
  ⟨(some 2), none, .mv (.k (.bool false))⟩]
def rLaw27BicliqueGoesX7 : List O := [
  ⟨(some 6), none, .mv (.k (.own 1 []))⟩]
def rLaw27BicliqueGoesX8 : List O := [
  ⟨(some 7), none, .mv (.k (.int .i64 0))⟩]
def rLaw27BicliqueGoesX9 : List O := [
  ⟨(some 8), none, .mv (.k (.int .i64 0))⟩]
def rLaw27BicliqueGoesX10 : List O := [
  ⟨(some 34), none, .mv (.t 8)⟩,
  ⟨(some 35), none, .mv (.t 4)⟩,
  ⟨(some 36), none, .len (.t 35)⟩,
  ⟨(some 37), none, .bin .leq (.t 34) (.t 36)⟩]
def rLaw27BicliqueGoesX11 : List O := [
  ⟨(some 41), none, .ld (some 3) (.t 3)⟩,
  ⟨(some 42), none, .mv (.t 6)⟩,
  ⟨(some 43), none, .call nBicliqueNext [(.t 41), (.t 42)]⟩,
  ⟨(some 40), none, .mv (.t 43)⟩,
  ⟨(some 44), none, .ext 0 (.t 40)⟩,
  ⟨(some 45), none, .ext 1 (.t 40)⟩,
  ⟨(some 46), none, .ext 2 (.t 40)⟩,
  ⟨(some 9), none, .new [(.own 1 []), (.own 1 [])]⟩,
  ⟨none, none, .st 2 (.t 9) (.t 44)⟩,
  ⟨(some 10), none, .mv (.t 45)⟩,
  ⟨(some 11), none, .mv (.t 46)⟩]
def rLaw27BicliqueGoesX12 : List O := [
  ⟨(some 47), none, .mv (.t 11)⟩,
  ⟨(some 48), none, .bin .neq (.t 47) (.k (.int .i64 0))⟩,
  ⟨(some 49), none, .mv (.t 48)⟩,
  ⟨(some 50), (some (49, false)), .mv (.t 10)⟩,
  ⟨(some 51), (some (49, false)), .mv (.t 8)⟩,
  ⟨(some 52), (some (49, false)), .mv (.t 4)⟩,
  ⟨(some 53), (some (49, false)), .len (.t 52)⟩,
  ⟨(some 54), (some (49, false)), .bin .lss (.t 51) (.t 53)⟩,
  ⟨(some 55), (some (49, false)), .eq true .bool (.t 50) (.t 54)⟩,
  ⟨(some 56), none, .pick (.t 49) (.k (.bool true)) (.t 55)⟩,
  ⟨(some 57), none, .mv (.t 56)⟩,
  ⟨(some 58), (some (57, false)), .mv (.t 10)⟩,
  ⟨(some 59), (some (57, false)), .mv (.t 58)⟩,
  ⟨(some 60), (some (59, true)), .ld (some 2) (.t 9)⟩,
  ⟨(some 61), (some (59, true)), .mv (.t 4)⟩,
  ⟨(some 62), (some (59, true)), .mv (.t 8)⟩,
  ⟨(some 63), (some (59, true)), .ixa 2 (.t 61) (.t 62)⟩,
  ⟨(some 64), (some (59, true)), .ld (some 2) (.t 63)⟩,
  ⟨(some 65), (some (59, true)), .call nRef27Same [(.t 60), (.t 64)]⟩,
  ⟨(some 66), (some (59, true)), .un .not (.t 65)⟩,
  ⟨(some 67), (some (59, true)), .mv (.t 66)⟩,
  ⟨(some 68), (some (67, false)), .ld (some 3) (.t 3)⟩,
  ⟨(some 69), (some (67, false)), .ld (some 2) (.t 9)⟩,
  ⟨(some 70), (some (67, false)), .call nBicliqueMaximal [(.t 68), (.t 69)]⟩,
  ⟨(some 71), (some (67, false)), .un .not (.t 70)⟩,
  ⟨(some 72), (some (59, true)), .pick (.t 67) (.k (.bool true)) (.t 71)⟩,
  ⟨(some 73), (some (57, false)), .pick (.t 59) (.t 72) (.k (.bool false))⟩,
  ⟨(some 74), none, .pick (.t 57) (.k (.bool true)) (.t 73)⟩]
def rLaw27BicliqueGoesX13 : List O := [
  ⟨(some 2), none, .mv (.k (.bool false))⟩]
def rLaw27BicliqueGoesX14 : List O := [
  ⟨(some 75), none, .fad 0 (.t 9)⟩,
  ⟨(some 76), none, .ld none (.t 75)⟩,
  ⟨(some 6), none, .mv (.t 76)⟩]
def rLaw27BicliqueGoesX15 : List O := [
  ⟨(some 77), none, .mv (.t 7)⟩,
  ⟨(some 78), none, .fad 0 (.t 9)⟩,
  ⟨(some 79), none, .ld none (.t 78)⟩,
  ⟨(some 80), none, .len (.t 79)⟩,
  ⟨(some 81), none, .fad 1 (.t 9)⟩,
  ⟨(some 82), none, .ld none (.t 81)⟩,
  ⟨(some 83), none, .len (.t 82)⟩,
  ⟨(some 84), none, .bin .mul (.t 80) (.t 83)⟩,
  ⟨(some 85), none, .max [(.t 77), (.t 84)]⟩,
  ⟨(some 7), none, .mv (.t 85)⟩]
def rLaw27BicliqueGoesX16 : List O := [
  ⟨(some 38), none, .mv (.t 8)⟩,
  ⟨(some 39), none, .bin .add (.t 38) (.k (.int .i64 1))⟩,
  ⟨(some 8), none, .mv (.t 39)⟩]
def lLaw27BicliqueGoesX0 : C := (.seq (.seq (.reg rLaw27BicliqueGoesX10 false [] [3, 4, 6, 7, 8, 37]) (.cond (.t 37) .skip (.exit 0))) (.seq (.blk 1 (.seq (.reg rLaw27BicliqueGoesX11 false [] [3, 4, 7, 8, 9, 10, 11]) (.seq (.seq (.reg rLaw27BicliqueGoesX12 true [(0, 0), (1, 1), (2, 2), (8, 8), (9, 9), (10, 10), (11, 11), (12, 12), (18, 18), (19, 19), (20, 20), (23, 23), (24, 24), (25, 25), (26, 26), (27, 27), (13, 14), (13, 15), (13, 16), (13, 17), (21, 22)] [3, 4, 7, 8, 9, 74]) (.cond (.t 74) (.seq (.reg rLaw27BicliqueGoesX13 false [] [2]) .ret) .skip)) (.seq (.reg rLaw27BicliqueGoesX14 false [] [3, 4, 6, 7, 8, 9]) (.reg rLaw27BicliqueGoesX15 false [] [3, 4, 6, 7, 8]))))) (.reg rLaw27BicliqueGoesX16 false [] [3, 4, 6, 7, 8])))
def rLaw27BicliqueGoesX17 : List O := [
  ⟨(some 86), none, .fad 0 (.t 3)⟩,
  ⟨(some 87), none, .fad 1 (.t 86)⟩,
  ⟨(some 88), none, .ld none (.t 87)⟩,
  ⟨(some 89), none, .len (.t 88)⟩,
  ⟨(some 90), none, .mv (.k (.int .i64 0))⟩]
def rLaw27BicliqueGoesX18 : List O := [
  ⟨(some 91), none, .bin .lss (.t 90) (.t 89)⟩]
def rLaw27BicliqueGoesX19 : List O := [
  ⟨(some 92), none, .ixa 2 (.t 88) (.t 90)⟩,
  ⟨(some 93), none, .ld (some 2) (.t 92)⟩,
  ⟨(some 13), none, .new [(.int .i64 0), (.int .i64 0)]⟩,
  ⟨none, none, .st 2 (.t 13) (.t 93)⟩]
def rLaw27BicliqueGoesX20 : List O := [
  ⟨(some 14), none, .mv (.k (.bool false))⟩]
def rLaw27BicliqueGoesX21 : List O := [
  ⟨(some 94), none, .mv (.t 4)⟩,
  ⟨(some 95), none, .len (.t 94)⟩,
  ⟨(some 96), none, .mv (.k (.int .i64 0))⟩]
def rLaw27BicliqueGoesX22 : List O := [
  ⟨(some 97), none, .bin .lss (.t 96) (.t 95)⟩]
def rLaw27BicliqueGoesX23 : List O := [
  ⟨(some 98), none, .ixa 2 (.t 94) (.t 96)⟩,
  ⟨(some 99), none, .ld (some 2) (.t 98)⟩,
  ⟨(some 16), none, .new [(.own 1 []), (.own 1 [])]⟩,
  ⟨none, none, .st 2 (.t 16) (.t 99)⟩]
def rLaw27BicliqueGoesX24 : List O := [
  ⟨(some 100), none, .fad 0 (.t 16)⟩,
  ⟨(some 101), none, .ld none (.t 100)⟩,
  ⟨(some 102), none, .fad 1 (.t 16)⟩,
  ⟨(some 103), none, .ld none (.t 102)⟩,
  ⟨(some 104), none, .call nRef02Union [(.t 101), (.t 103)]⟩,
  ⟨(some 17), none, .mv (.t 104)⟩]
def rLaw27BicliqueGoesX25 : List O := [
  ⟨(some 105), none, .mv (.t 14)⟩,
  ⟨(some 106), none, .mv (.t 105)⟩,
  ⟨(some 107), (some (106, false)), .mv (.t 17)⟩,
  ⟨(some 108), (some (106, false)), .fad 0 (.t 13)⟩,
  ⟨(some 109), (some (106, false)), .ld none (.t 108)⟩,
  ⟨(some 110), (some (106, false)), .call nRef02Has [(.t 107), (.t 109)]⟩,
  ⟨(some 111), (some (106, false)), .mv (.t 110)⟩,
  ⟨(some 112), (some (111, true)), .mv (.t 17)⟩,
  ⟨(some 113), (some (111, true)), .fad 1 (.t 13)⟩,
  ⟨(some 114), (some (111, true)), .ld none (.t 113)⟩,
  ⟨(some 115), (some (111, true)), .call nRef02Has [(.t 112), (.t 114)]⟩,
  ⟨(some 116), (some (106, false)), .pick (.t 111) (.t 115) (.k (.bool false))⟩,
  ⟨(some 117), none, .pick (.t 106) (.k (.bool true)) (.t 116)⟩,
  ⟨(some 14), none, .mv (.t 117)⟩]
def rLaw27BicliqueGoesX26 : List O := [
  ⟨(some 118), none, .bin .add (.t 96) (.k (.int .i64 1))⟩,
  ⟨(some 96), none, .mv (.t 118)⟩]
def lLaw27BicliqueGoesX1 : C := (.seq (.reg rLaw27BicliqueGoesX22 false [] [3, 4, 7, 13, 14, 88, 89, 90, 94, 95, 96, 97]) (.seq (.cond (.t 97) .skip (.exit 4)) (.seq (.blk 5 (.seq (.reg rLaw27BicliqueGoesX23 false [] [3, 4, 7, 13, 14, 16, 88, 89, 90, 94, 95, 96]) (.seq (.reg rLaw27BicliqueGoesX24 false [] [3, 4, 7, 13, 14, 17, 88, 89, 90, 94, 95, 96]) (.reg rLaw27BicliqueGoesX25 false [] [3, 4, 7, 13, 14, 88, 89, 90, 94, 95, 96])))) (.reg rLaw27BicliqueGoesX26 false [] [3, 4, 7, 13, 14, 88, 89, 90, 94, 95, 96]))))
def rLaw27BicliqueGoesX27 : List O := [
  ⟨(some 119), none, .mv (.t 14)⟩,
  ⟨(some 120), none, .un .not (.t 119)⟩]
def rLaw27BicliqueGoesX28 : List O := [
  ⟨(some 2), none, .mv (.k (.bool false))⟩]
def rLaw27BicliqueGoesX29 : List O := [
  ⟨(some 121), none, .bin .add (.t 90) (.k (.int .i64 1))⟩,
  ⟨(some 90), none, .mv (.t 121)⟩]
def lLaw27BicliqueGoesX2 : C := (.seq (.reg rLaw27BicliqueGoesX18 false [] [3, 4, 7, 88, 89, 90, 91]) (.seq (.cond (.t 91) .skip (.exit 2)) (.seq (.blk 3 (.seq (.reg rLaw27BicliqueGoesX19 false [] [3, 4, 7, 13, 88, 89, 90]) (.seq (.reg rLaw27BicliqueGoesX20 false [] [3, 4, 7, 13, 14, 88, 89, 90]) (.seq (.seq (.reg rLaw27BicliqueGoesX21 false [] [3, 4, 7, 13, 14, 88, 89, 90, 94, 95, 96]) (.blk 4 (.loop lLaw27BicliqueGoesX1))) (.seq (.reg rLaw27BicliqueGoesX27 false [] [3, 4, 7, 88, 89, 90, 120]) (.cond (.t 120) (.seq (.reg rLaw27BicliqueGoesX28 false [] [2]) .ret) .skip)))))) (.reg rLaw27BicliqueGoesX29 false [] [3, 4, 7, 88, 89, 90]))))
def rLaw27BicliqueGoesX30 : List O := [
  ⟨(some 123), none, .ld (some 3) (.t 3)⟩,
  ⟨(some 124), none, .call nBicliqueBest [(.t 123)]⟩,
  ⟨(some 122), none, .mv (.t 124)⟩,
  ⟨(some 125), none, .ext 0 (.t 122)⟩,
  ⟨(some 126), none, .ext 1 (.t 122)⟩,
  ⟨(some 18), none, .new [(.own 1 []), (.own 1 [])]⟩,
  ⟨none, none, .st 2 (.t 18) (.t 125)⟩,
  ⟨(some 19), none, .mv (.t 126)⟩]
def rLaw27BicliqueGoesX31 : List O := [
  ⟨(some 127), none, .fad 0 (.t 3)⟩,
  ⟨(some 128), none, .fad 1 (.t 127)⟩,
  ⟨(some 129), none, .ld none (.t 128)⟩,
  ⟨(some 130), none, .len (.t 129)⟩,
  ⟨(some 131), none, .bin .eql (.t 130) (.k (.int .i64 0))⟩]
def rLaw27BicliqueGoesX32 : List O := [
  ⟨(some 132), none, .mv (.t 4)⟩,
  ⟨(some 133), none, .len (.t 132)⟩,
  ⟨(some 134), none, .bin .eql (.t 133) (.k (.int .i64 0))⟩,
  ⟨(some 135), none, .mv (.t 134)⟩,
  ⟨(some 136), (some (135, true)), .mv (.t 19)⟩,
  ⟨(some 137), (some (135, true)), .bin .eql (.t 136) (.k (.int .i64 13))⟩,
  ⟨(some 138), none, .pick (.t 135) (.t 137) (.k (.bool false))⟩,
  ⟨(some 139), none, .mv (.t 138)⟩,
  ⟨(some 140), (some (139, true)), .call nLaw27Awake []⟩,
  ⟨(some 141), none, .pick (.t 139) (.t 140) (.k (.bool false))⟩,
  ⟨(some 2), none, .mv (.t 141)⟩]
def rLaw27BicliqueGoesX33 : List O := [
  ⟨(some 142), none, .mv (.t 19)⟩,
  ⟨(some 143), none, .bin .eql (.t 142) (.k (.int .i64 0))⟩,
  ⟨(some 144), none, .mv (.t 143)⟩,
  ⟨(some 145), (some (144, true)), .fad 0 (.t 18)⟩,
  ⟨(some 146), (some (144, true)), .ld none (.t 145)⟩,
  ⟨(some 147), (some (144, true)), .len (.t 146)⟩,
  ⟨(some 148), (some (144, true)), .fad 1 (.t 18)⟩,
  ⟨(some 149), (some (144, true)), .ld none (.t 148)⟩,
  ⟨(some 150), (some (144, true)), .len (.t 149)⟩,
  ⟨(some 151), (some (144, true)), .bin .mul (.t 147) (.t 150)⟩,
  ⟨(some 152), (some (144, true)), .mv (.t 7)⟩,
  ⟨(some 153), (some (144, true)), .bin .eql (.t 151) (.t 152)⟩,
  ⟨(some 154), none, .pick (.t 144) (.t 153) (.k (.bool false))⟩,
  ⟨(some 155), none, .mv (.t 154)⟩,
  ⟨(some 156), (some (155, true)), .ld (some 3) (.t 3)⟩,
  ⟨(some 157), (some (155, true)), .ld (some 2) (.t 18)⟩,
  ⟨(some 158), (some (155, true)), .call nBicliqueMaximal [(.t 156), (.t 157)]⟩,
  ⟨(some 159), none, .pick (.t 155) (.t 158) (.k (.bool false))⟩,
  ⟨(some 160), none, .mv (.t 159)⟩,
  ⟨(some 161), (some (160, true)), .call nLaw27Awake []⟩,
  ⟨(some 162), none, .pick (.t 160) (.t 161) (.k (.bool false))⟩,
  ⟨(some 2), none, .mv (.t 162)⟩]
def cLaw27BicliqueGoes : C := (.seq (.reg rLaw27BicliqueGoesX0 false [] [0]) (.seq (.seq (.reg rLaw27BicliqueGoesX1 false [] [0, 22]) (.cond (.t 22) (.seq (.reg rLaw27BicliqueGoesX2 false [] [2]) .ret) .skip)) (.seq (.reg rLaw27BicliqueGoesX3 false [] [3]) (.seq (.reg rLaw27BicliqueGoesX4 false [] [3, 4, 5]) (.seq (.seq (.reg rLaw27BicliqueGoesX5 false [] [3, 4, 33]) (.cond (.t 33) (.seq (.reg rLaw27BicliqueGoesX6 false [] [2]) .ret) .skip)) (.seq (.reg rLaw27BicliqueGoesX7 false [] [3, 4, 6]) (.seq (.reg rLaw27BicliqueGoesX8 false [] [3, 4, 6, 7]) (.seq (.seq (.reg rLaw27BicliqueGoesX9 false [] [3, 4, 6, 7, 8]) (.blk 0 (.loop lLaw27BicliqueGoesX0))) (.seq (.seq (.reg rLaw27BicliqueGoesX17 false [] [3, 4, 7, 88, 89, 90]) (.blk 2 (.loop lLaw27BicliqueGoesX2))) (.seq (.reg rLaw27BicliqueGoesX30 false [] [3, 4, 7, 18, 19]) (.seq (.seq (.reg rLaw27BicliqueGoesX31 false [] [3, 4, 7, 18, 19, 131]) (.cond (.t 131) (.seq (.reg rLaw27BicliqueGoesX32 false [] [2]) .ret) .skip)) (.seq (.reg rLaw27BicliqueGoesX33 false [] [2]) .ret))))))))))))
def qLaw27BicliqueGoes : AFn := ⟨163, 1, [.t 2], cLaw27BicliqueGoes⟩
/- cohesion/cohesionmake.Few -/
def rMakeFewX0 : List O := [
  ⟨(some 2), none, .mv (.k (.bool false))⟩]
def rMakeFewX1 : List O := [
  ⟨(some 3), none, .mv (.t 0)⟩,
  ⟨(some 4), none, .len (.t 3)⟩,
  ⟨(some 5), none, .bin .leq (.t 4) (.k (.int .i64 500))⟩,
  ⟨(some 2), none, .mv (.t 5)⟩]
def cMakeFew : C := (.seq (.reg rMakeFewX0 false [] [0]) (.seq (.reg rMakeFewX1 false [] [2]) .ret))
def qMakeFew : AFn := ⟨6, 1, [.t 2], cMakeFew⟩
/- cohesion/cohesionlaw27.awake -/
def rLaw27AwakeX0 : List O := [
  ⟨(some 0), none, .mv (.k (.bool false))⟩]
def rLaw27AwakeX1 : List O := [
  ⟨(some 6), none, .build [(.int .i64 0), (.int .i64 0)] [(0, 1, (.k (.int .i64 0))), (1, 1, (.k (.int .i64 2)))]⟩,
  ⟨(some 7), none, .build [(.int .i64 0), (.int .i64 0)] [(0, 1, (.k (.int .i64 1))), (1, 1, (.k (.int .i64 2)))]⟩,
  ⟨(some 8), none, .bslice 2 2 [(.int .i64 0), (.int .i64 0)] [(0, 2, (.t 6)), (2, 2, (.t 7))]⟩,
  ⟨(some 9), none, .call nRef03Of [(.k (.int .i64 3)), (.t 8)]⟩,
  ⟨(some 5), none, .mv (.t 9)⟩,
  ⟨(some 10), none, .ext 0 (.t 5)⟩,
  ⟨(some 11), none, .ext 1 (.t 5)⟩,
  ⟨(some 1), none, .new [(.int .i64 0), (.own 2 [])]⟩,
  ⟨none, none, .st 2 (.t 1) (.t 10)⟩,
  ⟨(some 2), none, .mv (.t 11)⟩]
def rLaw27AwakeX2 : List O := [
  ⟨(some 13), none, .ld (some 2) (.t 1)⟩,
  ⟨(some 14), none, .bslice 1 2 [(.int .i64 0)] [(0, 1, (.k (.int .i64 0))), (1, 1, (.k (.int .i64 1)))]⟩,
  ⟨(some 15), none, .build [(.int .i64 0), (.own 2 []), (.own 1 [])] [(0, 2, (.t 13)), (2, 1, (.t 14))]⟩,
  ⟨(some 16), none, .call nBicliqueAll [(.t 15), (.k (.int .i64 9))]⟩,
  ⟨(some 12), none, .mv (.t 16)⟩,
  ⟨(some 17), none, .ext 0 (.t 12)⟩,
  ⟨(some 18), none, .ext 1 (.t 12)⟩,
  ⟨(some 3), none, .mv (.t 17)⟩,
  ⟨(some 4), none, .mv (.t 18)⟩]
def rLaw27AwakeX3 : List O := [
  ⟨(some 19), none, .mv (.t 4)⟩,
  ⟨(some 20), none, .bin .eql (.t 19) (.k (.int .i64 0))⟩,
  ⟨(some 21), none, .mv (.t 20)⟩,
  ⟨(some 22), (some (21, true)), .mv (.t 3)⟩,
  ⟨(some 23), (some (21, true)), .len (.t 22)⟩,
  ⟨(some 24), (some (21, true)), .bin .eql (.t 23) (.k (.int .i64 1))⟩,
  ⟨(some 25), none, .pick (.t 21) (.t 24) (.k (.bool false))⟩,
  ⟨(some 26), none, .mv (.t 25)⟩,
  ⟨(some 27), (some (26, true)), .mv (.t 3)⟩,
  ⟨(some 28), (some (26, true)), .ixa 2 (.t 27) (.k (.int .i64 0))⟩,
  ⟨(some 29), (some (26, true)), .fad 0 (.t 28)⟩,
  ⟨(some 30), (some (26, true)), .ld none (.t 29)⟩,
  ⟨(some 31), (some (26, true)), .bslice 1 2 [(.int .i64 0)] [(0, 1, (.k (.int .i64 0))), (1, 1, (.k (.int .i64 1)))]⟩,
  ⟨(some 32), (some (26, true)), .call nRef02Cmp [(.t 30), (.t 31)]⟩,
  ⟨(some 33), (some (26, true)), .bin .eql (.t 32) (.k (.int .i64 0))⟩,
  ⟨(some 34), none, .pick (.t 26) (.t 33) (.k (.bool false))⟩,
  ⟨(some 35), none, .mv (.t 34)⟩,
  ⟨(some 36), (some (35, true)), .mv (.t 3)⟩,
  ⟨(some 37), (some (35, true)), .ixa 2 (.t 36) (.k (.int .i64 0))⟩,
  ⟨(some 38), (some (35, true)), .fad 1 (.t 37)⟩,
  ⟨(some 39), (some (35, true)), .ld none (.t 38)⟩,
  ⟨(some 40), (some (35, true)), .bslice 1 1 [(.int .i64 0)] [(0, 1, (.k (.int .i64 2)))]⟩,
  ⟨(some 41), (some (35, true)), .call nRef02Cmp [(.t 39), (.t 40)]⟩,
  ⟨(some 42), (some (35, true)), .bin .eql (.t 41) (.k (.int .i64 0))⟩,
  ⟨(some 43), none, .pick (.t 35) (.t 42) (.k (.bool false))⟩,
  ⟨(some 0), none, .mv (.t 43)⟩]
def cLaw27Awake : C := (.seq (.reg rLaw27AwakeX0 false [] []) (.seq (.reg rLaw27AwakeX1 false [] [1]) (.seq (.reg rLaw27AwakeX2 false [] [3, 4]) (.seq (.reg rLaw27AwakeX3 false [] [0]) .ret))))
def qLaw27Awake : AFn := ⟨44, 0, [.t 0], cLaw27Awake⟩
/- cohesion/cohesionfield.Sided -/
def rFieldSidedX0 : List O := [
  ⟨(some 4), none, .new [(.int .i64 0), (.own 2 []), (.own 1 [])]⟩]
def rFieldSidedX1 : List O := [
  ⟨(some 13), none, .mv (.t 0)⟩,
  ⟨(some 14), none, .mv (.t 1)⟩,
  ⟨(some 15), none, .bin .add (.t 14) (.k (.int .i64 1))⟩,
  ⟨(some 16), none, .call nMakeDeckNext [(.t 13), (.t 15)]⟩,
  ⟨(some 5), none, .mv (.t 16)⟩]
def rFieldSidedX2 : List O := [
  ⟨(some 17), none, .mv (.t 0)⟩,
  ⟨(some 18), none, .mv (.t 5)⟩,
  ⟨(some 19), none, .call nMakeSet [(.t 17), (.t 18)]⟩,
  ⟨(some 20), none, .build [(.int .i64 0), (.own 2 []), (.own 1 [])] [(2, 1, (.t 19))]⟩,
  ⟨(some 6), none, .new [(.int .i64 0), (.own 2 []), (.own 1 [])]⟩,
  ⟨none, none, .st 3 (.t 6) (.t 20)⟩]
def rFieldSidedX3 : List O := [
  ⟨(some 7), none, .mv (.k (.own 2 []))⟩]
def rFieldSidedX4 : List O := [
  ⟨(some 21), none, .mv (.t 5)⟩,
  ⟨(some 22), none, .mks 1 [(.bool false)] (.t 21) (.t 21)⟩,
  ⟨(some 8), none, .mv (.t 22)⟩]
def rFieldSidedX5 : List O := [
  ⟨(some 9), none, .mv (.k (.int .i64 0))⟩]
def rFieldSidedX6 : List O := [
  ⟨(some 23), none, .mv (.t 9)⟩,
  ⟨(some 24), none, .fad 2 (.t 6)⟩,
  ⟨(some 25), none, .ld none (.t 24)⟩,
  ⟨(some 26), none, .len (.t 25)⟩,
  ⟨(some 27), none, .bin .lss (.t 23) (.t 26)⟩]
def rFieldSidedX7 : List O := [
  ⟨(some 30), none, .mv (.t 8)⟩,
  ⟨(some 31), none, .fad 2 (.t 6)⟩,
  ⟨(some 32), none, .ld none (.t 31)⟩,
  ⟨(some 33), none, .mv (.t 9)⟩,
  ⟨(some 34), none, .ixa 1 (.t 32) (.t 33)⟩,
  ⟨(some 35), none, .ld none (.t 34)⟩,
  ⟨(some 36), none, .ixa 1 (.t 30) (.t 35)⟩,
  ⟨none, none, .st 1 (.t 36) (.k (.bool true))⟩]
def rFieldSidedX8 : List O := [
  ⟨(some 28), none, .mv (.t 9)⟩,
  ⟨(some 29), none, .bin .add (.t 28) (.k (.int .i64 1))⟩,
  ⟨(some 9), none, .mv (.t 29)⟩]
def lFieldSidedX0 : C := (.seq (.seq (.reg rFieldSidedX6 false [] [0, 4, 5, 6, 7, 8, 9, 27]) (.cond (.t 27) .skip (.exit 0))) (.seq (.blk 1 (.reg rFieldSidedX7 false [] [0, 4, 5, 6, 7, 8, 9])) (.reg rFieldSidedX8 false [] [0, 4, 5, 6, 7, 8, 9])))
def rFieldSidedX9 : List O := [
  ⟨(some 37), none, .mv (.t 0)⟩,
  ⟨(some 38), none, .call nMakeDeckNext [(.t 37), (.k (.int .i64 4))]⟩,
  ⟨(some 39), none, .bin .add (.k (.int .i64 1)) (.t 38)⟩,
  ⟨(some 10), none, .mv (.t 39)⟩]
def rFieldSidedX10 : List O := [
  ⟨(some 11), none, .mv (.k (.int .i64 0))⟩]
def rFieldSidedX11 : List O := [
  ⟨(some 40), none, .mv (.t 11)⟩,
  ⟨(some 41), none, .mv (.t 5)⟩,
  ⟨(some 42), none, .bin .lss (.t 40) (.t 41)⟩]
def rFieldSidedX12 : List O := [
  ⟨(some 45), none, .mv (.t 11)⟩,
  ⟨(some 46), none, .bin .add (.t 45) (.k (.int .i64 1))⟩,
  ⟨(some 12), none, .mv (.t 46)⟩]
def rFieldSidedX13 : List O := [
  ⟨(some 47), none, .mv (.t 12)⟩,
  ⟨(some 48), none, .mv (.t 5)⟩,
  ⟨(some 49), none, .bin .lss (.t 47) (.t 48)⟩]
def rFieldSidedX14 : List O := [
  ⟨(some 52), none, .mv (.t 8)⟩,
  ⟨(some 53), none, .mv (.t 11)⟩,
  ⟨(some 54), none, .ixa 1 (.t 52) (.t 53)⟩,
  ⟨(some 55), none, .ld none (.t 54)⟩,
  ⟨(some 56), none, .mv (.t 8)⟩,
  ⟨(some 57), none, .mv (.t 12)⟩,
  ⟨(some 58), none, .ixa 1 (.t 56) (.t 57)⟩,
  ⟨(some 59), none, .ld none (.t 58)⟩,
  ⟨(some 60), none, .eq true .bool (.t 55) (.t 59)⟩,
  ⟨(some 61), none, .mv (.t 60)⟩,
  ⟨(some 62), (some (61, true)), .mv (.t 0)⟩,
  ⟨(some 63), (some (61, true)), .call nMakeDeckNext [(.t 62), (.k (.int .i64 5))]⟩,
  ⟨(some 64), (some (61, true)), .mv (.t 10)⟩,
  ⟨(some 65), (some (61, true)), .bin .lss (.t 63) (.t 64)⟩,
  ⟨(some 66), none, .pick (.t 61) (.t 65) (.k (.bool false))⟩]
def rFieldSidedX15 : List O := [
  ⟨(some 67), none, .mv (.t 7)⟩,
  ⟨(some 68), none, .mv (.t 11)⟩,
  ⟨(some 69), none, .mv (.t 12)⟩,
  ⟨(some 70), none, .build [(.int .i64 0), (.int .i64 0)] [(0, 1, (.t 68)), (1, 1, (.t 69))]⟩,
  ⟨(some 71), none, .bslice 2 1 [(.int .i64 0), (.int .i64 0)] [(0, 2, (.t 70))]⟩,
  ⟨(some 72), none, .app 2 (.t 67) (.t 71)⟩,
  ⟨(some 7), none, .mv (.t 72)⟩]
def rFieldSidedX16 : List O := [
  ⟨(some 50), none, .mv (.t 12)⟩,
  ⟨(some 51), none, .bin .add (.t 50) (.k (.int .i64 1))⟩,
  ⟨(some 12), none, .mv (.t 51)⟩]
def lFieldSidedX1 : C := (.seq (.seq (.reg rFieldSidedX13 false [] [0, 4, 5, 6, 7, 8, 10, 11, 12, 49]) (.cond (.t 49) .skip (.exit 4))) (.seq (.blk 5 (.seq (.reg rFieldSidedX14 true [(8, 8), (9, 9), (13, 13), (14, 14), (3, 4), (3, 5), (3, 6), (0, 7), (1, 7), (2, 7), (3, 7), (11, 12)] [0, 4, 5, 6, 7, 8, 10, 11, 12, 66]) (.cond (.t 66) (.reg rFieldSidedX15 false [] [0, 4, 5, 6, 7, 8, 10, 11, 12]) .skip))) (.reg rFieldSidedX16 false [] [0, 4, 5, 6, 7, 8, 10, 11, 12])))
def rFieldSidedX17 : List O := [
  ⟨(some 43), none, .mv (.t 11)⟩,
  ⟨(some 44), none, .bin .add (.t 43) (.k (.int .i64 1))⟩,
  ⟨(some 11), none, .mv (.t 44)⟩]
def lFieldSidedX2 : C := (.seq (.seq (.reg rFieldSidedX11 false [] [0, 4, 5, 6, 7, 8, 10, 11, 42]) (.cond (.t 42) .skip (.exit 2))) (.seq (.blk 3 (.seq (.reg rFieldSidedX12 false [] [0, 4, 5, 6, 7, 8, 10, 11, 12]) (.blk 4 (.loop lFieldSidedX1)))) (.reg rFieldSidedX17 false [] [0, 4, 5, 6, 7, 8, 10, 11])))
def rFieldSidedX18 : List O := [
  ⟨(some 74), none, .mv (.t 5)⟩,
  ⟨(some 75), none, .mv (.t 7)⟩,
  ⟨(some 76), none, .call nRef03Of [(.t 74), (.t 75)]⟩,
  ⟨(some 73), none, .mv (.t 76)⟩,
  ⟨(some 77), none, .ext 0 (.t 73)⟩,
  ⟨(some 78), none, .ext 1 (.t 73)⟩,
  ⟨(some 79), none, .fad 0 (.t 6)⟩,
  ⟨none, none, .st 2 (.t 79) (.t 77)⟩]
def rFieldSidedX19 : List O := [
  ⟨(some 80), none, .ld (some 3) (.t 6)⟩,
  ⟨none, none, .st 3 (.t 4) (.t 80)⟩]
def cFieldSided : C := (.seq (.reg rFieldSidedX0 false [] [0, 1, 4]) (.seq (.reg rFieldSidedX1 false [] [0, 4, 5]) (.seq (.reg rFieldSidedX2 false [] [0, 4, 5, 6]) (.seq (.reg rFieldSidedX3 false [] [0, 4, 5, 6, 7]) (.seq (.reg rFieldSidedX4 false [] [0, 4, 5, 6, 7, 8]) (.seq (.seq (.reg rFieldSidedX5 false [] [0, 4, 5, 6, 7, 8, 9]) (.blk 0 (.loop lFieldSidedX0))) (.seq (.reg rFieldSidedX9 false [] [0, 4, 5, 6, 7, 8, 10]) (.seq (.seq (.reg rFieldSidedX10 false [] [0, 4, 5, 6, 7, 8, 10, 11]) (.blk 2 (.loop lFieldSidedX2))) (.seq (.reg rFieldSidedX18 false [] [4, 6]) (.seq (.reg rFieldSidedX19 false [] [4]) .ret))))))))))
def qFieldSided : AFn := ⟨81, 2, [.c 4 (some 3)], cFieldSided⟩
/- cohesion/cohesionmake.New -/
def rMakeNewX0 : List O := [
  ⟨(some 2), none, .mv (.k .nilp)⟩]
def rMakeNewX1 : List O := [
  ⟨(some 3), none, .mv (.t 0)⟩,
  ⟨(some 4), none, .build [(.own 1 []), (.int .i64 0)] [(0, 1, (.t 3))]⟩,
  ⟨(some 5), none, .box (.t 4)⟩,
  ⟨(some 2), none, .mv (.t 5)⟩]
def cMakeNew : C := (.seq (.reg rMakeNewX0 false [] [0]) (.seq (.reg rMakeNewX1 false [] [2]) .ret))
def qMakeNew : AFn := ⟨6, 1, [.t 2], cMakeNew⟩
/- cohesion/cohesionref02.Minus -/
def rRef02MinusX0 : List O := [
  ⟨(some 4), none, .mv (.k (.own 1 []))⟩]
def rRef02MinusX1 : List O := [
  ⟨(some 5), none, .mv (.k (.own 1 []))⟩]
def rRef02MinusX2 : List O := [
  ⟨(some 8), none, .mv (.t 0)⟩,
  ⟨(some 9), none, .call nRef02Of [(.t 8)]⟩,
  ⟨(some 10), none, .len (.t 9)⟩,
  ⟨(some 11), none, .mv (.k (.int .i64 0))⟩]
def rRef02MinusX3 : List O := [
  ⟨(some 12), none, .bin .lss (.t 11) (.t 10)⟩]
def rRef02MinusX4 : List O := [
  ⟨(some 13), none, .ixa 1 (.t 9) (.t 11)⟩,
  ⟨(some 14), none, .ld none (.t 13)⟩,
  ⟨(some 7), none, .mv (.t 14)⟩]
def rRef02MinusX5 : List O := [
  ⟨(some 15), none, .mv (.t 1)⟩,
  ⟨(some 16), none, .mv (.t 7)⟩,
  ⟨(some 17), none, .call nRef02Has [(.t 15), (.t 16)]⟩,
  ⟨(some 18), none, .un .not (.t 17)⟩]
def rRef02MinusX6 : List O := [
  ⟨(some 19), none, .mv (.t 5)⟩,
  ⟨(some 20), none, .mv (.t 7)⟩,
  ⟨(some 21), none, .bslice 1 1 [(.int .i64 0)] [(0, 1, (.t 20))]⟩,
  ⟨(some 22), none, .app 1 (.t 19) (.t 21)⟩,
  ⟨(some 5), none, .mv (.t 22)⟩]
def rRef02MinusX7 : List O := [
  ⟨(some 23), none, .bin .add (.t 11) (.k (.int .i64 1))⟩,
  ⟨(some 11), none, .mv (.t 23)⟩]
def lRef02MinusX0 : C := (.seq (.reg rRef02MinusX3 false [] [1, 5, 9, 10, 11, 12]) (.seq (.cond (.t 12) .skip (.exit 0)) (.seq (.blk 1 (.seq (.reg rRef02MinusX4 false [] [1, 5, 7, 9, 10, 11]) (.seq (.reg rRef02MinusX5 false [] [1, 5, 7, 9, 10, 11, 18]) (.cond (.t 18) (.reg rRef02MinusX6 false [] [1, 5, 9, 10, 11]) .skip)))) (.reg rRef02MinusX7 false [] [1, 5, 9, 10, 11]))))
def rRef02MinusX8 : List O := [
  ⟨(some 24), none, .mv (.t 5)⟩,
  ⟨(some 4), none, .mv (.t 24)⟩]
def cRef02Minus : C := (.seq (.reg rRef02MinusX0 false [] [0, 1]) (.seq (.reg rRef02MinusX1 false [] [0, 1, 5]) (.seq (.seq (.reg rRef02MinusX2 false [] [1, 5, 9, 10, 11]) (.blk 0 (.loop lRef02MinusX0))) (.seq (.reg rRef02MinusX8 false [] [4]) .ret))))
def qRef02Minus : AFn := ⟨25, 2, [.t 4], cRef02Minus⟩
/- cohesion/cohesionref02.Range -/
def rRef02RangeX0 : List O := [
  ⟨(some 2), none, .mv (.k (.own 1 []))⟩]
def rRef02RangeX1 : List O := [
  ⟨(some 3), none, .mv (.k (.own 1 []))⟩]
def rRef02RangeX2 : List O := [
  ⟨(some 4), none, .mv (.k (.int .i64 0))⟩]
def rRef02RangeX3 : List O := [
  ⟨(some 5), none, .mv (.t 4)⟩,
  ⟨(some 6), none, .mv (.t 0)⟩,
  ⟨(some 7), none, .bin .lss (.t 5) (.t 6)⟩,
  ⟨(some 8), none, .mv (.t 7)⟩,
  ⟨(some 9), (some (8, true)), .mv (.t 4)⟩,
  ⟨(some 10), (some (8, true)), .bin .lss (.t 9) (.k (.int .i64 64))⟩,
  ⟨(some 11), none, .pick (.t 8) (.t 10) (.k (.bool false))⟩]
def rRef02RangeX4 : List O := [
  ⟨(some 14), none, .mv (.t 3)⟩,
  ⟨(some 15), none, .mv (.t 4)⟩,
  ⟨(some 16), none, .bslice 1 1 [(.int .i64 0)] [(0, 1, (.t 15))]⟩,
  ⟨(some 17), none, .app 1 (.t 14) (.t 16)⟩,
  ⟨(some 3), none, .mv (.t 17)⟩]
def rRef02RangeX5 : List O := [
  ⟨(some 12), none, .mv (.t 4)⟩,
  ⟨(some 13), none, .bin .add (.t 12) (.k (.int .i64 1))⟩,
  ⟨(some 4), none, .mv (.t 13)⟩]
def lRef02RangeX0 : C := (.seq (.seq (.reg rRef02RangeX3 false [] [0, 3, 4, 11]) (.cond (.t 11) .skip (.exit 0))) (.seq (.blk 1 (.reg rRef02RangeX4 false [] [0, 3, 4])) (.reg rRef02RangeX5 false [] [0, 3, 4])))
def rRef02RangeX6 : List O := [
  ⟨(some 18), none, .mv (.t 3)⟩,
  ⟨(some 2), none, .mv (.t 18)⟩]
def cRef02Range : C := (.seq (.reg rRef02RangeX0 false [] [0]) (.seq (.reg rRef02RangeX1 false [] [0, 3]) (.seq (.seq (.reg rRef02RangeX2 false [] [0, 3, 4]) (.blk 0 (.loop lRef02RangeX0))) (.seq (.reg rRef02RangeX6 false [] [2]) .ret))))
def qRef02Range : AFn := ⟨19, 1, [.t 2], cRef02Range⟩
/- cohesion/biclique.All -/
def rBicliqueAllX0 : List O := [
  ⟨(some 2), none, .box (.t 0)⟩,
  ⟨(some 3), none, .box (.t 1)⟩,
  ⟨(some 4), none, .mv (.k (.own 2 []))⟩,
  ⟨(some 5), none, .mv (.k (.int .i64 0))⟩]
def rBicliqueAllX1 : List O := [
  ⟨(some 8), none, .ld (some 3) (.t 2)⟩,
  ⟨(some 9), none, .call nBicliqueCheck [(.t 8)]⟩,
  ⟨(some 6), none, .mv (.t 9)⟩]
def rBicliqueAllX2 : List O := [
  ⟨(some 10), none, .mv (.t 6)⟩,
  ⟨(some 11), none, .bin .neq (.t 10) (.k (.int .i64 0))⟩]
def rBicliqueAllX3 : List O := [
  ⟨(some 12), none, .mv (.t 6)⟩,
  ⟨(some 4), none, .mv (.k (.own 2 []))⟩,
  ⟨(some 5), none, .mv (.t 12)⟩]
def rBicliqueAllX4 : List O := [
  ⟨(some 13), none, .ld none (.t 3)⟩,
  ⟨(some 14), none, .bin .lss (.t 13) (.k (.int .i64 0))⟩,
  ⟨(some 15), none, .mv (.t 14)⟩,
  ⟨(some 16), (some (15, false)), .ld none (.t 3)⟩,
  ⟨(some 17), (some (15, false)), .bin .gtr (.t 16) (.k (.int .i64 4096))⟩,
  ⟨(some 18), none, .pick (.t 15) (.k (.bool true)) (.t 17)⟩]
def rBicliqueAllX5 : List O := [
  ⟨(some 4), none, .mv (.k (.own 2 []))⟩,
  ⟨(some 5), none, .mv (.k (.int .i64 1))⟩]
def rBicliqueAllX6 : List O := [
  ⟨(some 7), none, .new [(.own 2 [])]⟩]
def rBicliqueAllX7 : List O := [
  ⟨(some 19), none, .ld (some 3) (.t 2)⟩,
  ⟨(some 20), none, .call nBicliqueOf [(.t 19)]⟩,
  ⟨(some 21), none, .mkf (.func nBicliqueAll1) [] [(.t 7), (.t 3)]⟩,
  ⟨(some 22), none, .call nBicliqueSidesEach [(.t 20), (.k (.own 1 [])), (.t 21)]⟩]
def rBicliqueAllX8 : List O := [
  ⟨(some 23), none, .ld none (.t 7)⟩,
  ⟨(some 24), none, .len (.t 23)⟩,
  ⟨(some 25), none, .ld none (.t 3)⟩,
  ⟨(some 26), none, .bin .gtr (.t 24) (.t 25)⟩]
def rBicliqueAllX9 : List O := [
  ⟨(some 4), none, .mv (.k (.own 2 []))⟩,
  ⟨(some 5), none, .mv (.k (.int .i64 3))⟩]
def rBicliqueAllX10 : List O := [
  ⟨(some 27), none, .ld none (.t 7)⟩,
  ⟨(some 4), none, .mv (.t 27)⟩,
  ⟨(some 5), none, .mv (.k (.int .i64 0))⟩]
def cBicliqueAll : C := (.seq (.reg rBicliqueAllX0 false [] [2, 3]) (.seq (.seq (.reg rBicliqueAllX1 false [] [2, 3, 6]) (.seq (.reg rBicliqueAllX2 false [] [2, 3, 6, 11]) (.cond (.t 11) (.seq (.reg rBicliqueAllX3 false [] [4, 5]) .ret) .skip))) (.seq (.seq (.reg rBicliqueAllX4 false [] [2, 3, 18]) (.cond (.t 18) (.seq (.reg rBicliqueAllX5 false [] [4, 5]) .ret) .skip)) (.seq (.reg rBicliqueAllX6 false [] [2, 3, 7]) (.seq (.reg rBicliqueAllX7 false [] [3, 7]) (.seq (.seq (.reg rBicliqueAllX8 false [] [7, 26]) (.cond (.t 26) (.seq (.reg rBicliqueAllX9 false [] [4, 5]) .ret) .skip)) (.seq (.reg rBicliqueAllX10 false [] [4, 5]) .ret)))))))
def qBicliqueAll : AFn := ⟨28, 2, [.t 4, .t 5], cBicliqueAll⟩
/- cohesion/cohesionref27.Same -/
def rRef27SameX0 : List O := [
  ⟨(some 2), none, .box (.t 0)⟩,
  ⟨(some 3), none, .box (.t 1)⟩,
  ⟨(some 4), none, .mv (.k (.bool false))⟩]
def rRef27SameX1 : List O := [
  ⟨(some 5), none, .fad 0 (.t 2)⟩,
  ⟨(some 6), none, .ld none (.t 5)⟩,
  ⟨(some 7), none, .fad 0 (.t 3)⟩,
  ⟨(some 8), none, .ld none (.t 7)⟩,
  ⟨(some 9), none, .call nRef02Cmp [(.t 6), (.t 8)]⟩,
  ⟨(some 10), none, .bin .eql (.t 9) (.k (.int .i64 0))⟩,
  ⟨(some 11), none, .mv (.t 10)⟩,
  ⟨(some 12), (some (11, true)), .fad 1 (.t 2)⟩,
  ⟨(some 13), (some (11, true)), .ld none (.t 12)⟩,
  ⟨(some 14), (some (11, true)), .fad 1 (.t 3)⟩,
  ⟨(some 15), (some (11, true)), .ld none (.t 14)⟩,
  ⟨(some 16), (some (11, true)), .call nRef02Cmp [(.t 13), (.t 15)]⟩,
  ⟨(some 17), (some (11, true)), .bin .eql (.t 16) (.k (.int .i64 0))⟩,
  ⟨(some 18), none, .pick (.t 11) (.t 17) (.k (.bool false))⟩,
  ⟨(some 4), none, .mv (.t 18)⟩]
def cRef27Same : C := (.seq (.reg rRef27SameX0 false [] [2, 3]) (.seq (.reg rRef27SameX1 false [] [4]) .ret))
def qRef27Same : AFn := ⟨19, 2, [.t 4], cRef27Same⟩
/- cohesion/biclique.Best -/
def rBicliqueBestX0 : List O := [
  ⟨(some 1), none, .box (.t 0)⟩,
  ⟨(some 2), none, .new [(.own 1 []), (.own 1 [])]⟩,
  ⟨(some 3), none, .mv (.k (.int .i64 0))⟩]
def rBicliqueBestX1 : List O := [
  ⟨(some 6), none, .ld (some 3) (.t 1)⟩,
  ⟨(some 7), none, .call nBicliqueCheck [(.t 6)]⟩,
  ⟨(some 4), none, .mv (.t 7)⟩]
def rBicliqueBestX2 : List O := [
  ⟨(some 8), none, .mv (.t 4)⟩,
  ⟨(some 9), none, .bin .neq (.t 8) (.k (.int .i64 0))⟩]
def rBicliqueBestX3 : List O := [
  ⟨(some 10), none, .build [(.own 1 []), (.own 1 [])] []⟩,
  ⟨(some 11), none, .mv (.t 4)⟩,
  ⟨none, none, .st 2 (.t 2) (.t 10)⟩,
  ⟨(some 3), none, .mv (.t 11)⟩]
def rBicliqueBestX4 : List O := [
  ⟨(some 5), none, .new [(.own 1 []), (.own 1 [])]⟩]
def rBicliqueBestX5 : List O := [
  ⟨(some 12), none, .ld (some 3) (.t 1)⟩,
  ⟨(some 13), none, .call nBicliqueOf [(.t 12)]⟩,
  ⟨(some 14), none, .mkf (.func nBicliqueBest1) [] [(.t 5)]⟩,
  ⟨(some 15), none, .call nBicliqueSidesEach [(.t 13), (.k (.own 1 [])), (.t 14)]⟩]
def rBicliqueBestX6 : List O := [
  ⟨(some 16), none, .fad 0 (.t 5)⟩,
  ⟨(some 17), none, .ld none (.t 16)⟩,
  ⟨(some 18), none, .len (.t 17)⟩,
  ⟨(some 19), none, .bin .eql (.t 18) (.k (.int .i64 0))⟩]
def rBicliqueBestX7 : List O := [
  ⟨(some 20), none, .build [(.own 1 []), (.own 1 [])] []⟩,
  ⟨none, none, .st 2 (.t 2) (.t 20)⟩,
  ⟨(some 3), none, .mv (.k (.int .i64 13))⟩]
def rBicliqueBestX8 : List O := [
  ⟨(some 21), none, .ld (some 2) (.t 5)⟩,
  ⟨none, none, .st 2 (.t 2) (.t 21)⟩,
  ⟨(some 3), none, .mv (.k (.int .i64 0))⟩]
def cBicliqueBest : C := (.seq (.reg rBicliqueBestX0 false [] [1, 2]) (.seq (.seq (.reg rBicliqueBestX1 false [] [1, 2, 4]) (.seq (.reg rBicliqueBestX2 false [] [1, 2, 4, 9]) (.cond (.t 9) (.seq (.reg rBicliqueBestX3 false [] [2, 3]) .ret) .skip))) (.seq (.reg rBicliqueBestX4 false [] [1, 2, 5]) (.seq (.reg rBicliqueBestX5 false [] [2, 5]) (.seq (.seq (.reg rBicliqueBestX6 false [] [2, 5, 19]) (.cond (.t 19) (.seq (.reg rBicliqueBestX7 false [] [2, 3]) .ret) .skip)) (.seq (.reg rBicliqueBestX8 false [] [2, 3]) .ret))))))
def qBicliqueBest : AFn := ⟨22, 1, [.c 2 (some 2), .t 3], cBicliqueBest⟩
/- cohesion/biclique.Next -/
def rBicliqueNextX0 : List O := [
  ⟨(some 2), none, .box (.t 0)⟩,
  ⟨(some 4), none, .new [(.own 1 []), (.own 1 [])]⟩,
  ⟨(some 5), none, .mv (.k (.bool false))⟩,
  ⟨(some 6), none, .mv (.k (.int .i64 0))⟩]
def rBicliqueNextX1 : List O := [
  ⟨(some 9), none, .ld (some 3) (.t 2)⟩,
  ⟨(some 10), none, .call nBicliqueCheck [(.t 9)]⟩,
  ⟨(some 7), none, .mv (.t 10)⟩]
def rBicliqueNextX2 : List O := [
  ⟨(some 11), none, .mv (.t 7)⟩,
  ⟨(some 12), none, .bin .neq (.t 11) (.k (.int .i64 0))⟩]
def rBicliqueNextX3 : List O := [
  ⟨(some 13), none, .build [(.own 1 []), (.own 1 [])] []⟩,
  ⟨(some 14), none, .mv (.t 7)⟩,
  ⟨none, none, .st 2 (.t 4) (.t 13)⟩,
  ⟨(some 5), none, .mv (.k (.bool false))⟩,
  ⟨(some 6), none, .mv (.t 14)⟩]
def rBicliqueNextX4 : List O := [
  ⟨(some 8), none, .new [(.own 1 []), (.own 1 [])]⟩]
def rBicliqueNextX5 : List O := [
  ⟨(some 15), none, .ld (some 3) (.t 2)⟩,
  ⟨(some 16), none, .call nBicliqueOf [(.t 15)]⟩,
  ⟨(some 17), none, .mv (.t 1)⟩,
  ⟨(some 18), none, .mkf (.func nBicliqueNext1) [] [(.t 8)]⟩,
  ⟨(some 19), none, .call nBicliqueSidesEach [(.t 16), (.t 17), (.t 18)]⟩]
def rBicliqueNextX6 : List O := [
  ⟨(some 20), none, .ld (some 2) (.t 8)⟩,
  ⟨(some 21), none, .fad 0 (.t 8)⟩,
  ⟨(some 22), none, .ld none (.t 21)⟩,
  ⟨(some 23), none, .len (.t 22)⟩,
  ⟨(some 24), none, .bin .gtr (.t 23) (.k (.int .i64 0))⟩,
  ⟨none, none, .st 2 (.t 4) (.t 20)⟩,
  ⟨(some 5), none, .mv (.t 24)⟩,
  ⟨(some 6), none, .mv (.k (.int .i64 0))⟩]
def cBicliqueNext : C := (.seq (.reg rBicliqueNextX0 false [] [1, 2, 4]) (.seq (.seq (.reg rBicliqueNextX1 false [] [1, 2, 4, 7]) (.seq (.reg rBicliqueNextX2 false [] [1, 2, 4, 7, 12]) (.cond (.t 12) (.seq (.reg rBicliqueNextX3 false [] [4, 5, 6]) .ret) .skip))) (.seq (.reg rBicliqueNextX4 false [] [1, 2, 4, 8]) (.seq (.reg rBicliqueNextX5 false [] [4, 8]) (.seq (.reg rBicliqueNextX6 true [(6, 6), (7, 7), (0, 1), (0, 2), (0, 3), (0, 4), (1, 5), (2, 5), (3, 5), (4, 5)] [4, 5, 6]) .ret)))))
def qBicliqueNext : AFn := ⟨25, 2, [.c 4 (some 2), .t 5, .t 6], cBicliqueNext⟩
/- cohesion/biclique.Maximal -/
def rBicliqueMaximalX0 : List O := [
  ⟨(some 2), none, .box (.t 0)⟩,
  ⟨(some 3), none, .box (.t 1)⟩,
  ⟨(some 4), none, .mv (.k (.bool false))⟩]
def rBicliqueMaximalX1 : List O := [
  ⟨(some 9), none, .ld (some 3) (.t 2)⟩,
  ⟨(some 10), none, .call nBicliqueCheck [(.t 9)]⟩,
  ⟨(some 11), none, .bin .neq (.t 10) (.k (.int .i64 0))⟩,
  ⟨(some 12), none, .mv (.t 11)⟩,
  ⟨(some 13), (some (12, false)), .fad 0 (.t 3)⟩,
  ⟨(some 14), (some (12, false)), .ld none (.t 13)⟩,
  ⟨(some 15), (some (12, false)), .len (.t 14)⟩,
  ⟨(some 16), (some (12, false)), .bin .eql (.t 15) (.k (.int .i64 0))⟩,
  ⟨(some 17), none, .pick (.t 12) (.k (.bool true)) (.t 16)⟩,
  ⟨(some 18), none, .mv (.t 17)⟩,
  ⟨(some 19), (some (18, false)), .fad 1 (.t 3)⟩,
  ⟨(some 20), (some (18, false)), .ld none (.t 19)⟩,
  ⟨(some 21), (some (18, false)), .len (.t 20)⟩,
  ⟨(some 22), (some (18, false)), .bin .eql (.t 21) (.k (.int .i64 0))⟩,
  ⟨(some 23), none, .pick (.t 18) (.k (.bool true)) (.t 22)⟩]
def rBicliqueMaximalX2 : List O := [
  ⟨(some 4), none, .mv (.k (.bool false))⟩]
def rBicliqueMaximalX3 : List O := [
  ⟨(some 24), none, .ld (some 3) (.t 2)⟩,
  ⟨(some 25), none, .call nBicliqueOf [(.t 24)]⟩,
  ⟨(some 5), none, .new [(.own 1 []), (.int .u64 0), (.int .u64 0)]⟩,
  ⟨none, none, .st 3 (.t 5) (.t 25)⟩]
def rBicliqueMaximalX4 : List O := [
  ⟨(some 26), none, .mkf (.func nBicliqueMaximal1) [] [(.t 2)]⟩,
  ⟨(some 6), none, .mv (.t 26)⟩]
def rBicliqueMaximalX5 : List O := [
  ⟨(some 27), none, .mv (.t 6)⟩,
  ⟨(some 28), none, .fad 0 (.t 3)⟩,
  ⟨(some 29), none, .ld none (.t 28)⟩,
  ⟨(some 30), none, .fad 1 (.t 5)⟩,
  ⟨(some 31), none, .ld none (.t 30)⟩,
  ⟨(some 32), none, .callv (.t 27) [(.t 29), (.t 31)]⟩,
  ⟨(some 33), none, .un .not (.t 32)⟩,
  ⟨(some 34), none, .mv (.t 33)⟩,
  ⟨(some 35), (some (34, false)), .mv (.t 6)⟩,
  ⟨(some 36), (some (34, false)), .fad 1 (.t 3)⟩,
  ⟨(some 37), (some (34, false)), .ld none (.t 36)⟩,
  ⟨(some 38), (some (34, false)), .fad 2 (.t 5)⟩,
  ⟨(some 39), (some (34, false)), .ld none (.t 38)⟩,
  ⟨(some 40), (some (34, false)), .callv (.t 35) [(.t 37), (.t 39)]⟩,
  ⟨(some 41), (some (34, false)), .un .not (.t 40)⟩,
  ⟨(some 42), none, .pick (.t 34) (.k (.bool true)) (.t 41)⟩]
def rBicliqueMaximalX6 : List O := [
  ⟨(some 4), none, .mv (.k (.bool false))⟩]
def rBicliqueMaximalX7 : List O := [
  ⟨(some 43), none, .ld (some 3) (.t 5)⟩,
  ⟨(some 44), none, .mkf (.func nBicliqueSidesOnRight) [(.t 43)] []⟩,
  ⟨(some 45), none, .fad 0 (.t 3)⟩,
  ⟨(some 46), none, .ld none (.t 45)⟩,
  ⟨(some 47), none, .fad 1 (.t 3)⟩,
  ⟨(some 48), none, .ld none (.t 47)⟩,
  ⟨(some 49), none, .build [.nilf, (.own 1 []), (.own 1 [])] [(0, 1, (.t 44)), (1, 1, (.t 46)), (2, 1, (.t 48))]⟩,
  ⟨(some 50), none, .ld (some 3) (.t 5)⟩,
  ⟨(some 51), none, .mkf (.func nBicliqueSidesOnLeft) [(.t 50)] []⟩,
  ⟨(some 52), none, .fad 1 (.t 3)⟩,
  ⟨(some 53), none, .ld none (.t 52)⟩,
  ⟨(some 54), none, .fad 0 (.t 3)⟩,
  ⟨(some 55), none, .ld none (.t 54)⟩,
  ⟨(some 56), none, .build [.nilf, (.own 1 []), (.own 1 [])] [(0, 1, (.t 51)), (1, 1, (.t 53)), (2, 1, (.t 55))]⟩,
  ⟨(some 57), none, .bslice 3 2 [.nilf, (.own 1 []), (.own 1 [])] [(0, 3, (.t 49)), (3, 3, (.t 56))]⟩,
  ⟨(some 58), none, .len (.t 57)⟩,
  ⟨(some 59), none, .mv (.k (.int .i64 0))⟩]
def rBicliqueMaximalX8 : List O := [
  ⟨(some 60), none, .bin .lss (.t 59) (.t 58)⟩]
def rBicliqueMaximalX9 : List O := [
  ⟨(some 61), none, .ixa 3 (.t 57) (.t 59)⟩,
  ⟨(some 62), none, .ld (some 3) (.t 61)⟩,
  ⟨(some 8), none, .new [.nilf, (.own 1 []), (.own 1 [])]⟩,
  ⟨none, none, .st 3 (.t 8) (.t 62)⟩]
def rBicliqueMaximalX10 : List O := [
  ⟨(some 63), none, .fad 0 (.t 8)⟩,
  ⟨(some 64), none, .ld none (.t 63)⟩,
  ⟨(some 65), none, .fad 1 (.t 8)⟩,
  ⟨(some 66), none, .ld none (.t 65)⟩,
  ⟨(some 67), none, .call nBicliqueMask [(.t 66)]⟩,
  ⟨(some 68), none, .callv (.t 64) [(.t 67)]⟩,
  ⟨(some 69), none, .fad 2 (.t 8)⟩,
  ⟨(some 70), none, .ld none (.t 69)⟩,
  ⟨(some 71), none, .call nBicliqueMask [(.t 70)]⟩,
  ⟨(some 72), none, .bin .neq (.t 68) (.t 71)⟩]
def rBicliqueMaximalX11 : List O := [
  ⟨(some 4), none, .mv (.k (.bool false))⟩]
def rBicliqueMaximalX12 : List O := [
  ⟨(some 73), none, .bin .add (.t 59) (.k (.int .i64 1))⟩,
  ⟨(some 59), none, .mv (.t 73)⟩]
def lBicliqueMaximalX0 : C := (.seq (.reg rBicliqueMaximalX8 false [] [57, 58, 59, 60]) (.seq (.cond (.t 60) .skip (.exit 0)) (.seq (.blk 1 (.seq (.reg rBicliqueMaximalX9 false [] [8, 57, 58, 59]) (.seq (.reg rBicliqueMaximalX10 true [(8, 8), (9, 9), (1, 2), (0, 3), (1, 3), (0, 4), (1, 4), (1, 6), (3, 6), (4, 6), (5, 6), (0, 7), (1, 7), (2, 7), (3, 7), (4, 7), (5, 7)] [57, 58, 59, 72]) (.cond (.t 72) (.seq (.reg rBicliqueMaximalX11 false [] [4]) .ret) .skip)))) (.reg rBicliqueMaximalX12 false [] [57, 58, 59]))))
def rBicliqueMaximalX13 : List O := [
  ⟨(some 4), none, .mv (.k (.bool true))⟩]
def cBicliqueMaximal : C := (.seq (.reg rBicliqueMaximalX0 false [] [2, 3]) (.seq (.seq (.reg rBicliqueMaximalX1 false [] [2, 3, 23]) (.cond (.t 23) (.seq (.reg rBicliqueMaximalX2 false [] [4]) .ret) .skip)) (.seq (.reg rBicliqueMaximalX3 false [] [2, 3, 5]) (.seq (.reg rBicliqueMaximalX4 false [] [3, 5, 6]) (.seq (.seq (.reg rBicliqueMaximalX5 false [] [3, 5, 42]) (.cond (.t 42) (.seq (.reg rBicliqueMaximalX6 false [] [4]) .ret) .skip)) (.seq (.seq (.reg rBicliqueMaximalX7 false [] [57, 58, 59]) (.blk 0 (.loop lBicliqueMaximalX0))) (.seq (.reg rBicliqueMaximalX13 false [] [4]) .ret)))))))
def qBicliqueMaximal : AFn := ⟨74, 2, [.t 4], cBicliqueMaximal⟩
/- cohesion/cohesionref02.Union -/
def rRef02UnionX0 : List O := [
  ⟨(some 4), none, .mv (.k (.own 1 []))⟩]
def rRef02UnionX1 : List O := [
  ⟨(some 5), none, .mv (.t 0)⟩,
  ⟨(some 6), none, .app 1 (.k (.own 1 [])) (.t 5)⟩,
  ⟨(some 7), none, .mv (.t 1)⟩,
  ⟨(some 8), none, .app 1 (.t 6) (.t 7)⟩,
  ⟨(some 9), none, .call nRef02Of [(.t 8)]⟩,
  ⟨(some 4), none, .mv (.t 9)⟩]
def cRef02Union : C := (.seq (.reg rRef02UnionX0 false [] [0, 1]) (.seq (.reg rRef02UnionX1 false [] [4]) .ret))
def qRef02Union : AFn := ⟨10, 2, [.t 4], cRef02Union⟩
/- cohesion/cohesionref02.Has -/
def rRef02HasX0 : List O := [
  ⟨(some 4), none, .mv (.k (.bool false))⟩]
def rRef02HasX1 : List O := [
  ⟨(some 7), none, .mv (.t 0)⟩,
  ⟨(some 8), none, .len (.t 7)⟩,
  ⟨(some 9), none, .mv (.k (.int .i64 0))⟩]
def rRef02HasX2 : List O := [
  ⟨(some 10), none, .bin .lss (.t 9) (.t 8)⟩]
def rRef02HasX3 : List O := [
  ⟨(some 11), none, .ixa 1 (.t 7) (.t 9)⟩,
  ⟨(some 12), none, .ld none (.t 11)⟩,
  ⟨(some 6), none, .mv (.t 12)⟩]
def rRef02HasX4 : List O := [
  ⟨(some 13), none, .mv (.t 6)⟩,
  ⟨(some 14), none, .mv (.t 1)⟩,
  ⟨(some 15), none, .bin .eql (.t 13) (.t 14)⟩]
def rRef02HasX5 : List O := [
  ⟨(some 4), none, .mv (.k (.bool true))⟩]
def rRef02HasX6 : List O := [
  ⟨(some 16), none, .bin .add (.t 9) (.k (.int .i64 1))⟩,
  ⟨(some 9), none, .mv (.t 16)⟩]
def lRef02HasX0 : C := (.seq (.reg rRef02HasX2 false [] [1, 7, 8, 9, 10]) (.seq (.cond (.t 10) .skip (.exit 0)) (.seq (.blk 1 (.seq (.reg rRef02HasX3 false [] [1, 6, 7, 8, 9]) (.seq (.reg rRef02HasX4 false [] [1, 7, 8, 9, 15]) (.cond (.t 15) (.seq (.reg rRef02HasX5 false [] [4]) .ret) .skip)))) (.reg rRef02HasX6 false [] [1, 7, 8, 9]))))
def rRef02HasX7 : List O := [
  ⟨(some 4), none, .mv (.k (.bool false))⟩]
def cRef02Has : C := (.seq (.reg rRef02HasX0 false [] [0, 1]) (.seq (.seq (.reg rRef02HasX1 false [] [1, 7, 8, 9]) (.blk 0 (.loop lRef02HasX0))) (.seq (.reg rRef02HasX7 false [] [4]) .ret)))
def qRef02Has : AFn := ⟨17, 2, [.t 4], cRef02Has⟩
/- cohesion/cohesionmake.Set -/
def rMakeSetX0 : List O := [
  ⟨(some 4), none, .mv (.k (.own 1 []))⟩]
def rMakeSetX1 : List O := [
  ⟨(some 5), none, .mv (.k (.own 1 []))⟩]
def rMakeSetX2 : List O := [
  ⟨(some 6), none, .mv (.k (.int .i64 0))⟩]
def rMakeSetX3 : List O := [
  ⟨(some 7), none, .mv (.t 6)⟩,
  ⟨(some 8), none, .mv (.t 1)⟩,
  ⟨(some 9), none, .bin .lss (.t 7) (.t 8)⟩]
def rMakeSetX4 : List O := [
  ⟨(some 12), none, .mv (.t 0)⟩,
  ⟨(some 13), none, .call nMakeDeckNext [(.t 12), (.k (.int .i64 2))]⟩,
  ⟨(some 14), none, .bin .eql (.t 13) (.k (.int .i64 1))⟩]
def rMakeSetX5 : List O := [
  ⟨(some 15), none, .mv (.t 5)⟩,
  ⟨(some 16), none, .mv (.t 6)⟩,
  ⟨(some 17), none, .bslice 1 1 [(.int .i64 0)] [(0, 1, (.t 16))]⟩,
  ⟨(some 18), none, .app 1 (.t 15) (.t 17)⟩,
  ⟨(some 5), none, .mv (.t 18)⟩]
def rMakeSetX6 : List O := [
  ⟨(some 10), none, .mv (.t 6)⟩,
  ⟨(some 11), none, .bin .add (.t 10) (.k (.int .i64 1))⟩,
  ⟨(some 6), none, .mv (.t 11)⟩]
def lMakeSetX0 : C := (.seq (.seq (.reg rMakeSetX3 false [] [0, 1, 5, 6, 9]) (.cond (.t 9) .skip (.exit 0))) (.seq (.blk 1 (.seq (.reg rMakeSetX4 false [] [0, 1, 5, 6, 14]) (.cond (.t 14) (.reg rMakeSetX5 false [] [0, 1, 5, 6]) .skip))) (.reg rMakeSetX6 false [] [0, 1, 5, 6])))
def rMakeSetX7 : List O := [
  ⟨(some 19), none, .mv (.t 5)⟩,
  ⟨(some 4), none, .mv (.t 19)⟩]
def cMakeSet : C := (.seq (.reg rMakeSetX0 false [] [0, 1]) (.seq (.reg rMakeSetX1 false [] [0, 1, 5]) (.seq (.seq (.reg rMakeSetX2 false [] [0, 1, 5, 6]) (.blk 0 (.loop lMakeSetX0))) (.seq (.reg rMakeSetX7 false [] [4]) .ret))))
def qMakeSet : AFn := ⟨20, 2, [.t 4], cMakeSet⟩
/- cohesion/biclique.Check -/
def rBicliqueCheckX0 : List O := [
  ⟨(some 1), none, .box (.t 0)⟩,
  ⟨(some 2), none, .mv (.k (.int .i64 0))⟩]
def rBicliqueCheckX1 : List O := [
  ⟨(some 5), none, .fad 0 (.t 1)⟩,
  ⟨(some 6), none, .ld (some 2) (.t 5)⟩,
  ⟨(some 7), none, .call nGraphCheck [(.t 6)]⟩,
  ⟨(some 3), none, .mv (.t 7)⟩]
def rBicliqueCheckX2 : List O := [
  ⟨(some 8), none, .mv (.t 3)⟩,
  ⟨(some 9), none, .bin .neq (.t 8) (.k (.int .i64 0))⟩]
def rBicliqueCheckX3 : List O := [
  ⟨(some 10), none, .mv (.t 3)⟩,
  ⟨(some 2), none, .mv (.t 10)⟩]
def rBicliqueCheckX4 : List O := [
  ⟨(some 11), none, .fad 2 (.t 1)⟩,
  ⟨(some 12), none, .ld none (.t 11)⟩,
  ⟨(some 13), none, .fad 0 (.t 1)⟩,
  ⟨(some 14), none, .fad 0 (.t 13)⟩,
  ⟨(some 15), none, .ld none (.t 14)⟩,
  ⟨(some 16), none, .call nNodesetValid [(.t 12), (.t 15)]⟩,
  ⟨(some 17), none, .un .not (.t 16)⟩]
def rBicliqueCheckX5 : List O := [
  ⟨(some 2), none, .mv (.k (.int .i64 4))⟩]
def rBicliqueCheckX6 : List O := [
  ⟨(some 18), none, .fad 2 (.t 1)⟩,
  ⟨(some 19), none, .ld none (.t 18)⟩,
  ⟨(some 20), none, .call nBicliqueMask [(.t 19)]⟩,
  ⟨(some 4), none, .new [(.int .u64 0)]⟩,
  ⟨none, none, .st 1 (.t 4) (.t 20)⟩]
def rBicliqueCheckX7 : List O := [
  ⟨(some 21), none, .fad 0 (.t 1)⟩,
  ⟨(some 22), none, .fad 1 (.t 21)⟩,
  ⟨(some 23), none, .ld none (.t 22)⟩,
  ⟨(some 24), none, .mkf (.func nBicliqueCheck1) [] [(.t 4)]⟩,
  ⟨(some 25), none, .call nSlicesContainsFuncApiEdgeApiEdge [(.t 23), (.t 24)]⟩]
def rBicliqueCheckX8 : List O := [
  ⟨(some 2), none, .mv (.k (.int .i64 7))⟩]
def rBicliqueCheckX9 : List O := [
  ⟨(some 2), none, .mv (.k (.int .i64 0))⟩]
def cBicliqueCheck : C := (.seq (.reg rBicliqueCheckX0 false [] [1]) (.seq (.seq (.reg rBicliqueCheckX1 false [] [1, 3]) (.seq (.reg rBicliqueCheckX2 false [] [1, 3, 9]) (.cond (.t 9) (.seq (.reg rBicliqueCheckX3 false [] [2]) .ret) .skip))) (.seq (.seq (.reg rBicliqueCheckX4 false [] [1, 17]) (.cond (.t 17) (.seq (.reg rBicliqueCheckX5 false [] [2]) .ret) .skip)) (.seq (.reg rBicliqueCheckX6 false [] [1, 4]) (.seq (.seq (.reg rBicliqueCheckX7 false [] [25]) (.cond (.t 25) (.seq (.reg rBicliqueCheckX8 false [] [2]) .ret) .skip)) (.seq (.reg rBicliqueCheckX9 false [] [2]) .ret))))))
def qBicliqueCheck : AFn := ⟨26, 1, [.t 2], cBicliqueCheck⟩
/- (*cohesion/cohesionmake.Deck).Next -/
def rMakeDeckNextX0 : List O := [
  ⟨(some 4), none, .mv (.k (.int .i64 0))⟩]
def rMakeDeckNextX1 : List O := [
  ⟨(some 6), none, .mv (.t 1)⟩,
  ⟨(some 7), none, .bin .lss (.t 6) (.k (.int .i64 1))⟩,
  ⟨(some 8), none, .mv (.t 7)⟩,
  ⟨(some 9), (some (8, false)), .mv (.t 0)⟩,
  ⟨(some 10), (some (8, false)), .nilck (.t 9)⟩,
  ⟨(some 11), (some (8, false)), .fad 1 (.t 10)⟩,
  ⟨(some 12), (some (8, false)), .ld none (.t 11)⟩,
  ⟨(some 13), (some (8, false)), .mv (.t 0)⟩,
  ⟨(some 14), (some (8, false)), .nilck (.t 13)⟩,
  ⟨(some 15), (some (8, false)), .fad 0 (.t 14)⟩,
  ⟨(some 16), (some (8, false)), .ld none (.t 15)⟩,
  ⟨(some 17), (some (8, false)), .len (.t 16)⟩,
  ⟨(some 18), (some (8, false)), .bin .geq (.t 12) (.t 17)⟩,
  ⟨(some 19), none, .pick (.t 8) (.k (.bool true)) (.t 18)⟩]
def rMakeDeckNextX2 : List O := [
  ⟨(some 4), none, .mv (.k (.int .i64 0))⟩]
def rMakeDeckNextX3 : List O := [
  ⟨(some 20), none, .mv (.t 0)⟩,
  ⟨(some 21), none, .nilck (.t 20)⟩,
  ⟨(some 22), none, .fad 0 (.t 21)⟩,
  ⟨(some 23), none, .ld none (.t 22)⟩,
  ⟨(some 24), none, .mv (.t 0)⟩,
  ⟨(some 25), none, .nilck (.t 24)⟩,
  ⟨(some 26), none, .fad 1 (.t 25)⟩,
  ⟨(some 27), none, .ld none (.t 26)⟩,
  ⟨(some 28), none, .ixa 1 (.t 23) (.t 27)⟩,
  ⟨(some 29), none, .ld none (.t 28)⟩,
  ⟨(some 5), none, .mv (.t 29)⟩]
def rMakeDeckNextX4 : List O := [
  ⟨(some 30), none, .mv (.t 0)⟩,
  ⟨(some 31), none, .nilck (.t 30)⟩,
  ⟨(some 32), none, .fad 1 (.t 31)⟩,
  ⟨(some 33), none, .ld none (.t 32)⟩,
  ⟨(some 34), none, .bin .add (.t 33) (.k (.int .i64 1))⟩,
  ⟨(some 35), none, .nilck (.t 30)⟩,
  ⟨(some 36), none, .fad 1 (.t 35)⟩,
  ⟨none, none, .st 1 (.t 36) (.t 34)⟩]
def rMakeDeckNextX5 : List O := [
  ⟨(some 37), none, .mv (.t 5)⟩,
  ⟨(some 38), none, .mv (.t 1)⟩,
  ⟨(some 39), none, .call nMakeMod [(.t 37), (.t 38)]⟩,
  ⟨(some 4), none, .mv (.t 39)⟩]
def cMakeDeckNext : C := (.seq (.reg rMakeDeckNextX0 false [] [0, 1]) (.seq (.seq (.reg rMakeDeckNextX1 true [(0, 0), (1, 1), (2, 2), (12, 12), (13, 13), (6, 7), (6, 8), (6, 9), (3, 10), (4, 10), (5, 10), (6, 10), (6, 11)] [0, 1, 19]) (.cond (.t 19) (.seq (.reg rMakeDeckNextX2 false [] [4]) .ret) .skip)) (.seq (.reg rMakeDeckNextX3 true [(8, 8), (9, 9), (10, 10), (3, 4), (3, 5), (3, 6), (0, 7), (1, 7), (2, 7), (3, 7)] [0, 1, 5]) (.seq (.reg rMakeDeckNextX4 false [] [1, 5]) (.seq (.reg rMakeDeckNextX5 false [] [4]) .ret)))))
def qMakeDeckNext : AFn := ⟨40, 2, [.t 4], cMakeDeckNext⟩
/- cohesion/cohesionref03.Of -/
def rRef03OfX0 : List O := [
  ⟨(some 4), none, .new [(.int .i64 0), (.own 2 [])]⟩,
  ⟨(some 5), none, .mv (.k (.int .i64 0))⟩]
def rRef03OfX1 : List O := [
  ⟨(some 9), none, .mv (.t 0)⟩,
  ⟨(some 10), none, .bin .lss (.t 9) (.k (.int .i64 0))⟩,
  ⟨(some 11), none, .mv (.t 10)⟩,
  ⟨(some 12), (some (11, false)), .mv (.t 0)⟩,
  ⟨(some 13), (some (11, false)), .bin .gtr (.t 12) (.k (.int .i64 64))⟩,
  ⟨(some 14), none, .pick (.t 11) (.k (.bool true)) (.t 13)⟩]
def rRef03OfX2 : List O := [
  ⟨(some 15), none, .build [(.int .i64 0), (.own 2 [])] []⟩,
  ⟨none, none, .st 2 (.t 4) (.t 15)⟩,
  ⟨(some 5), none, .mv (.k (.int .i64 1))⟩]
def rRef03OfX3 : List O := [
  ⟨(some 16), none, .mv (.t 0)⟩,
  ⟨(some 17), none, .build [(.int .i64 0), (.own 2 [])] [(0, 1, (.t 16))]⟩,
  ⟨(some 6), none, .new [(.int .i64 0), (.own 2 [])]⟩,
  ⟨none, none, .st 2 (.t 6) (.t 17)⟩]
def rRef03OfX4 : List O := [
  ⟨(some 18), none, .mv (.t 1)⟩,
  ⟨(some 19), none, .len (.t 18)⟩,
  ⟨(some 20), none, .mv (.k (.int .i64 0))⟩]
def rRef03OfX5 : List O := [
  ⟨(some 21), none, .bin .lss (.t 20) (.t 19)⟩]
def rRef03OfX6 : List O := [
  ⟨(some 22), none, .ixa 2 (.t 18) (.t 20)⟩,
  ⟨(some 23), none, .ld (some 2) (.t 22)⟩,
  ⟨(some 8), none, .new [(.int .i64 0), (.int .i64 0)]⟩,
  ⟨none, none, .st 2 (.t 8) (.t 23)⟩]
def rRef03OfX7 : List O := [
  ⟨(some 24), none, .mv (.t 0)⟩,
  ⟨(some 25), none, .fad 0 (.t 8)⟩,
  ⟨(some 26), none, .ld none (.t 25)⟩,
  ⟨(some 27), none, .fad 1 (.t 8)⟩,
  ⟨(some 28), none, .ld none (.t 27)⟩,
  ⟨(some 29), none, .call nRef03Ends [(.t 24), (.t 26), (.t 28)]⟩,
  ⟨(some 30), none, .un .not (.t 29)⟩]
def rRef03OfX8 : List O := [
  ⟨(some 31), none, .build [(.int .i64 0), (.own 2 [])] []⟩,
  ⟨none, none, .st 2 (.t 4) (.t 31)⟩,
  ⟨(some 5), none, .mv (.k (.int .i64 6))⟩]
def rRef03OfX9 : List O := [
  ⟨(some 32), none, .fad 1 (.t 6)⟩,
  ⟨(some 33), none, .ld none (.t 32)⟩,
  ⟨(some 34), none, .fad 0 (.t 8)⟩,
  ⟨(some 35), none, .ld none (.t 34)⟩,
  ⟨(some 36), none, .fad 1 (.t 8)⟩,
  ⟨(some 37), none, .ld none (.t 36)⟩,
  ⟨(some 38), none, .call nRef03Edge [(.t 35), (.t 37)]⟩,
  ⟨(some 39), none, .call nRef03With [(.t 33), (.t 38)]⟩,
  ⟨(some 40), none, .fad 1 (.t 6)⟩,
  ⟨none, none, .st 1 (.t 40) (.t 39)⟩]
def rRef03OfX10 : List O := [
  ⟨(some 41), none, .bin .add (.t 20) (.k (.int .i64 1))⟩,
  ⟨(some 20), none, .mv (.t 41)⟩]
def lRef03OfX0 : C := (.seq (.reg rRef03OfX5 false [] [0, 4, 6, 18, 19, 20, 21]) (.seq (.cond (.t 21) .skip (.exit 0)) (.seq (.blk 1 (.seq (.reg rRef03OfX6 false [] [0, 4, 6, 8, 18, 19, 20]) (.seq (.seq (.reg rRef03OfX7 false [] [0, 4, 6, 8, 18, 19, 20, 30]) (.cond (.t 30) (.seq (.reg rRef03OfX8 false [] [4, 5]) .ret) .skip)) (.reg rRef03OfX9 true [(7, 7), (8, 8), (9, 9), (1, 2), (0, 3), (1, 3), (1, 4), (3, 4), (0, 5), (1, 5), (2, 5), (3, 5), (0, 6), (1, 6)] [0, 4, 6, 18, 19, 20])))) (.reg rRef03OfX10 false [] [0, 4, 6, 18, 19, 20]))))
def rRef03OfX11 : List O := [
  ⟨(some 42), none, .ld (some 2) (.t 6)⟩,
  ⟨none, none, .st 2 (.t 4) (.t 42)⟩,
  ⟨(some 5), none, .mv (.k (.int .i64 0))⟩]
def cRef03Of : C := (.seq (.reg rRef03OfX0 false [] [0, 1, 4]) (.seq (.seq (.reg rRef03OfX1 false [] [0, 1, 4, 14]) (.cond (.t 14) (.seq (.reg rRef03OfX2 false [] [4, 5]) .ret) .skip)) (.seq (.reg rRef03OfX3 false [] [0, 1, 4, 6]) (.seq (.seq (.reg rRef03OfX4 false [] [0, 4, 6, 18, 19, 20]) (.blk 0 (.loop lRef03OfX0))) (.seq (.reg rRef03OfX11 false [] [4, 5]) .ret)))))
def qRef03Of : AFn := ⟨43, 2, [.c 4 (some 2), .t 5], cRef03Of⟩
/- cohesion/cohesionref02.Cmp -/
def rRef02CmpX0 : List O := [
  ⟨(some 4), none, .mv (.k (.int .i64 0))⟩]
def rRef02CmpX1 : List O := [
  ⟨(some 6), none, .mv (.t 0)⟩,
  ⟨(some 7), none, .len (.t 6)⟩,
  ⟨(some 8), none, .mv (.k (.int .i64 0))⟩]
def rRef02CmpX2 : List O := [
  ⟨(some 9), none, .bin .lss (.t 8) (.t 7)⟩]
def rRef02CmpX3 : List O := [
  ⟨(some 10), none, .mv (.t 8)⟩,
  ⟨(some 5), none, .mv (.t 10)⟩]
def rRef02CmpX4 : List O := [
  ⟨(some 12), none, .mv (.t 5)⟩,
  ⟨(some 13), none, .mv (.t 1)⟩,
  ⟨(some 14), none, .len (.t 13)⟩,
  ⟨(some 15), none, .bin .geq (.t 12) (.t 14)⟩,
  ⟨(some 16), none, .mv (.t 15)⟩,
  ⟨(some 17), (some (16, false)), .mv (.t 0)⟩,
  ⟨(some 18), (some (16, false)), .mv (.t 5)⟩,
  ⟨(some 19), (some (16, false)), .ixa 1 (.t 17) (.t 18)⟩,
  ⟨(some 20), (some (16, false)), .ld none (.t 19)⟩,
  ⟨(some 21), (some (16, false)), .mv (.t 1)⟩,
  ⟨(some 22), (some (16, false)), .mv (.t 5)⟩,
  ⟨(some 23), (some (16, false)), .ixa 1 (.t 21) (.t 22)⟩,
  ⟨(some 24), (some (16, false)), .ld none (.t 23)⟩,
  ⟨(some 25), (some (16, false)), .bin .gtr (.t 20) (.t 24)⟩,
  ⟨(some 26), none, .pick (.t 16) (.k (.bool true)) (.t 25)⟩,
  ⟨(some 11), none, .mv (.t 26)⟩]
def rRef02CmpX5 : List O := [
  ⟨(some 4), none, .mv (.k (.int .i64 1))⟩]
def rRef02CmpX6 : List O := [
  ⟨(some 28), none, .mv (.t 0)⟩,
  ⟨(some 29), none, .mv (.t 5)⟩,
  ⟨(some 30), none, .ixa 1 (.t 28) (.t 29)⟩,
  ⟨(some 31), none, .ld none (.t 30)⟩,
  ⟨(some 32), none, .mv (.t 1)⟩,
  ⟨(some 33), none, .mv (.t 5)⟩,
  ⟨(some 34), none, .ixa 1 (.t 32) (.t 33)⟩,
  ⟨(some 35), none, .ld none (.t 34)⟩,
  ⟨(some 36), none, .bin .lss (.t 31) (.t 35)⟩,
  ⟨(some 27), none, .mv (.t 36)⟩]
def rRef02CmpX7 : List O := [
  ⟨(some 4), none, .mv (.k (.int .i64 (-1)))⟩]
def rRef02CmpX8 : List O := [
  ⟨(some 37), none, .bin .add (.t 8) (.k (.int .i64 1))⟩,
  ⟨(some 8), none, .mv (.t 37)⟩]
def lRef02CmpX0 : C := (.seq (.reg rRef02CmpX2 false [] [0, 1, 7, 8, 9]) (.seq (.cond (.t 9) .skip (.exit 0)) (.seq (.blk 1 (.seq (.reg rRef02CmpX3 false [] [0, 1, 5, 7, 8]) (.blk 2 (.seq (.reg rRef02CmpX4 true [(3, 3), (4, 4), (13, 13), (14, 14), (15, 15), (8, 9), (8, 10), (8, 11), (5, 12), (6, 12), (7, 12), (8, 12)] [0, 1, 5, 7, 8, 11]) (.cond (.t 11) (.seq (.reg rRef02CmpX5 false [] [4]) .ret) (.seq (.reg rRef02CmpX6 true [(8, 8), (9, 9), (3, 4), (3, 5), (3, 6), (0, 7), (1, 7), (2, 7), (3, 7)] [0, 1, 7, 8, 27]) (.cond (.t 27) (.seq (.reg rRef02CmpX7 false [] [4]) .ret) .skip))))))) (.reg rRef02CmpX8 false [] [0, 1, 7, 8]))))
def rRef02CmpX9 : List O := [
  ⟨(some 38), none, .mv (.t 0)⟩,
  ⟨(some 39), none, .len (.t 38)⟩,
  ⟨(some 40), none, .mv (.t 1)⟩,
  ⟨(some 41), none, .len (.t 40)⟩,
  ⟨(some 42), none, .bin .lss (.t 39) (.t 41)⟩]
def rRef02CmpX10 : List O := [
  ⟨(some 4), none, .mv (.k (.int .i64 (-1)))⟩]
def rRef02CmpX11 : List O := [
  ⟨(some 4), none, .mv (.k (.int .i64 0))⟩]
def cRef02Cmp : C := (.seq (.reg rRef02CmpX0 false [] [0, 1]) (.seq (.seq (.reg rRef02CmpX1 false [] [0, 1, 7, 8]) (.blk 0 (.loop lRef02CmpX0))) (.seq (.seq (.reg rRef02CmpX9 false [] [42]) (.cond (.t 42) (.seq (.reg rRef02CmpX10 false [] [4]) .ret) .skip)) (.seq (.reg rRef02CmpX11 false [] [4]) .ret))))
def qRef02Cmp : AFn := ⟨43, 2, [.t 4], cRef02Cmp⟩
/- cohesion/cohesionref02.Of -/
def rRef02OfX0 : List O := [
  ⟨(some 2), none, .mv (.k (.own 1 []))⟩]
def rRef02OfX1 : List O := [
  ⟨(some 3), none, .mv (.k (.own 1 []))⟩]
def rRef02OfX2 : List O := [
  ⟨(some 6), none, .mv (.t 0)⟩,
  ⟨(some 7), none, .len (.t 6)⟩,
  ⟨(some 8), none, .mv (.k (.int .i64 0))⟩]
def rRef02OfX3 : List O := [
  ⟨(some 9), none, .bin .lss (.t 8) (.t 7)⟩]
def rRef02OfX4 : List O := [
  ⟨(some 10), none, .ixa 1 (.t 6) (.t 8)⟩,
  ⟨(some 11), none, .ld none (.t 10)⟩,
  ⟨(some 5), none, .mv (.t 11)⟩]
def rRef02OfX5 : List O := [
  ⟨(some 12), none, .mv (.t 3)⟩,
  ⟨(some 13), none, .mv (.t 5)⟩,
  ⟨(some 14), none, .call nRef02Put [(.t 12), (.t 13)]⟩,
  ⟨(some 3), none, .mv (.t 14)⟩]
def rRef02OfX6 : List O := [
  ⟨(some 15), none, .bin .add (.t 8) (.k (.int .i64 1))⟩,
  ⟨(some 8), none, .mv (.t 15)⟩]
def lRef02OfX0 : C := (.seq (.reg rRef02OfX3 false [] [3, 6, 7, 8, 9]) (.seq (.cond (.t 9) .skip (.exit 0)) (.seq (.blk 1 (.seq (.reg rRef02OfX4 false [] [3, 5, 6, 7, 8]) (.reg rRef02OfX5 false [] [3, 6, 7, 8]))) (.reg rRef02OfX6 false [] [3, 6, 7, 8]))))
def rRef02OfX7 : List O := [
  ⟨(some 16), none, .mv (.t 3)⟩,
  ⟨(some 2), none, .mv (.t 16)⟩]
def cRef02Of : C := (.seq (.reg rRef02OfX0 false [] [0]) (.seq (.reg rRef02OfX1 false [] [0, 3]) (.seq (.seq (.reg rRef02OfX2 false [] [3, 6, 7, 8]) (.blk 0 (.loop lRef02OfX0))) (.seq (.reg rRef02OfX7 false [] [2]) .ret))))
def qRef02Of : AFn := ⟨17, 1, [.t 2], cRef02Of⟩
/- cohesion/biclique.of -/
def rBicliqueOfX0 : List O := [
  ⟨(some 1), none, .box (.t 0)⟩,
  ⟨(some 2), none, .new [(.own 1 []), (.int .u64 0), (.int .u64 0)]⟩]
def rBicliqueOfX1 : List O := [
  ⟨(some 6), none, .fad 0 (.t 1)⟩,
  ⟨(some 7), none, .fad 0 (.t 6)⟩,
  ⟨(some 8), none, .ld none (.t 7)⟩,
  ⟨(some 9), none, .mks 1 [(.int .u64 0)] (.t 8) (.t 8)⟩,
  ⟨(some 10), none, .fad 2 (.t 1)⟩,
  ⟨(some 11), none, .ld none (.t 10)⟩,
  ⟨(some 12), none, .call nBicliqueMask [(.t 11)]⟩,
  ⟨(some 13), none, .build [(.own 1 []), (.int .u64 0), (.int .u64 0)] [(0, 1, (.t 9)), (1, 1, (.t 12))]⟩,
  ⟨(some 3), none, .new [(.own 1 []), (.int .u64 0), (.int .u64 0)]⟩,
  ⟨none, none, .st 3 (.t 3) (.t 13)⟩]
def rBicliqueOfX2 : List O := [
  ⟨(some 14), none, .fad 0 (.t 1)⟩,
  ⟨(some 15), none, .fad 0 (.t 14)⟩,
  ⟨(some 16), none, .ld none (.t 15)⟩,
  ⟨(some 17), none, .bin .shl (.k (.int .u64 1)) (.t 16)⟩,
  ⟨(some 18), none, .bin .sub (.t 17) (.k (.int .u64 1))⟩,
  ⟨(some 19), none, .fad 1 (.t 3)⟩,
  ⟨(some 20), none, .ld none (.t 19)⟩,
  ⟨(some 21), none, .bin .andNot (.t 18) (.t 20)⟩,
  ⟨(some 22), none, .fad 2 (.t 3)⟩,
  ⟨none, none, .st 1 (.t 22) (.t 21)⟩]
def rBicliqueOfX3 : List O := [
  ⟨(some 23), none, .fad 0 (.t 1)⟩,
  ⟨(some 24), none, .fad 1 (.t 23)⟩,
  ⟨(some 25), none, .ld none (.t 24)⟩,
  ⟨(some 26), none, .len (.t 25)⟩,
  ⟨(some 27), none, .mv (.k (.int .i64 0))⟩]
def rBicliqueOfX4 : List O := [
  ⟨(some 28), none, .bin .lss (.t 27) (.t 26)⟩]
def rBicliqueOfX5 : List O := [
  ⟨(some 29), none, .ixa 2 (.t 25) (.t 27)⟩,
  ⟨(some 30), none, .ld (some 2) (.t 29)⟩,
  ⟨(some 5), none, .new [(.int .i64 0), (.int .i64 0)]⟩,
  ⟨none, none, .st 2 (.t 5) (.t 30)⟩]
def rBicliqueOfX6 : List O := [
  ⟨(some 31), none, .fad 0 (.t 3)⟩,
  ⟨(some 32), none, .ld none (.t 31)⟩,
  ⟨(some 33), none, .fad 0 (.t 5)⟩,
  ⟨(some 34), none, .ld none (.t 33)⟩,
  ⟨(some 35), none, .ixa 1 (.t 32) (.t 34)⟩,
  ⟨(some 36), none, .ld none (.t 35)⟩,
  ⟨(some 37), none, .fad 1 (.t 5)⟩,
  ⟨(some 38), none, .ld none (.t 37)⟩,
  ⟨(some 39), none, .bin .shl (.k (.int .u64 1)) (.t 38)⟩,
  ⟨(some 40), none, .bin .or (.t 36) (.t 39)⟩,
  ⟨(some 41), none, .ixa 1 (.t 32) (.t 34)⟩,
  ⟨none, none, .st 1 (.t 41) (.t 40)⟩]
def rBicliqueOfX7 : List O := [
  ⟨(some 42), none, .fad 0 (.t 3)⟩,
  ⟨(some 43), none, .ld none (.t 42)⟩,
  ⟨(some 44), none, .fad 1 (.t 5)⟩,
  ⟨(some 45), none, .ld none (.t 44)⟩,
  ⟨(some 46), none, .ixa 1 (.t 43) (.t 45)⟩,
  ⟨(some 47), none, .ld none (.t 46)⟩,
  ⟨(some 48), none, .fad 0 (.t 5)⟩,
  ⟨(some 49), none, .ld none (.t 48)⟩,
  ⟨(some 50), none, .bin .shl (.k (.int .u64 1)) (.t 49)⟩,
  ⟨(some 51), none, .bin .or (.t 47) (.t 50)⟩,
  ⟨(some 52), none, .ixa 1 (.t 43) (.t 45)⟩,
  ⟨none, none, .st 1 (.t 52) (.t 51)⟩]
def rBicliqueOfX8 : List O := [
  ⟨(some 53), none, .bin .add (.t 27) (.k (.int .i64 1))⟩,
  ⟨(some 27), none, .mv (.t 53)⟩]
def lBicliqueOfX0 : C := (.seq (.reg rBicliqueOfX4 false [] [2, 3, 25, 26, 27, 28]) (.seq (.cond (.t 28) .skip (.exit 0)) (.seq (.blk 1 (.seq (.reg rBicliqueOfX5 false [] [2, 3, 5, 25, 26, 27]) (.seq (.reg rBicliqueOfX6 true [(9, 9), (10, 10), (11, 11), (1, 2), (0, 3), (1, 3), (1, 6), (3, 6), (5, 6), (0, 7), (1, 7), (2, 7), (3, 7), (4, 7), (5, 7), (1, 8), (3, 8), (5, 8)] [2, 3, 5, 25, 26, 27]) (.reg rBicliqueOfX7 true [(9, 9), (10, 10), (11, 11), (1, 2), (0, 3), (1, 3), (1, 6), (3, 6), (5, 6), (0, 7), (1, 7), (2, 7), (3, 7), (4, 7), (5, 7), (1, 8), (3, 8), (5, 8)] [2, 3, 25, 26, 27])))) (.reg rBicliqueOfX8 false [] [2, 3, 25, 26, 27]))))
def rBicliqueOfX9 : List O := [
  ⟨(some 54), none, .ld (some 3) (.t 3)⟩,
  ⟨none, none, .st 3 (.t 2) (.t 54)⟩]
def cBicliqueOf : C := (.seq (.reg rBicliqueOfX0 false [] [1, 2]) (.seq (.reg rBicliqueOfX1 true [(9, 9), (2, 4), (0, 5), (1, 5), (2, 5), (3, 5), (0, 6), (1, 6), (2, 6), (3, 6), (0, 8), (1, 8), (2, 8), (3, 8), (4, 8), (5, 8), (6, 8), (7, 8)] [1, 2, 3]) (.seq (.reg rBicliqueOfX2 true [(7, 7), (8, 8), (9, 9), (2, 5), (0, 6), (1, 6), (2, 6), (3, 6), (4, 6)] [1, 2, 3]) (.seq (.seq (.reg rBicliqueOfX3 false [] [2, 3, 25, 26, 27]) (.blk 0 (.loop lBicliqueOfX0))) (.seq (.reg rBicliqueOfX9 false [] [2]) .ret)))))
def qBicliqueOf : AFn := ⟨55, 1, [.c 2 (some 3)], cBicliqueOf⟩
/- (cohesion/biclique.sides).each -/
def rBicliqueSidesEachX0 : List O := [
  ⟨(some 3), none, .box (.t 0)⟩,
  ⟨(some 4), none, .box (.t 1)⟩,
  ⟨(some 5), none, .box (.t 2)⟩]
def rBicliqueSidesEachX1 : List O := [
  ⟨(some 6), none, .new [(.own 1 [])]⟩]
def rBicliqueSidesEachX2 : List O := [
  ⟨(some 7), none, .new [.nilf]⟩]
def rBicliqueSidesEachX3 : List O := [
  ⟨(some 8), none, .mkf (.func nBicliqueSidesEach1) [] [(.t 3), (.t 6), (.t 4), (.t 5), (.t 7)]⟩,
  ⟨none, none, .st 1 (.t 7) (.t 8)⟩]
def rBicliqueSidesEachX4 : List O := [
  ⟨(some 9), none, .ld none (.t 7)⟩,
  ⟨(some 10), none, .fad 2 (.t 3)⟩,
  ⟨(some 11), none, .ld none (.t 10)⟩,
  ⟨(some 12), none, .callv (.t 9) [(.t 11), (.k (.bool true))]⟩]
def cBicliqueSidesEach : C := (.seq (.reg rBicliqueSidesEachX0 false [] [3, 4, 5]) (.seq (.reg rBicliqueSidesEachX1 false [] [3, 4, 5, 6]) (.seq (.reg rBicliqueSidesEachX2 false [] [3, 4, 5, 6, 7]) (.seq (.reg rBicliqueSidesEachX3 false [] [3, 7]) (.reg rBicliqueSidesEachX4 false [] [])))))
def qBicliqueSidesEach : AFn := ⟨13, 3, [], cBicliqueSidesEach⟩
/- cohesion/biclique.All$1 -/
def rBicliqueAll1X0 : List O := [
  ⟨(some 3), none, .box (.t 0)⟩,
  ⟨(some 4), none, .mv (.k (.bool false))⟩]
def rBicliqueAll1X1 : List O := [
  ⟨(some 5), none, .ld none (.t 1)⟩,
  ⟨(some 6), none, .ld (some 2) (.t 3)⟩,
  ⟨(some 7), none, .bslice 2 1 [(.own 1 []), (.own 1 [])] [(0, 2, (.t 6))]⟩,
  ⟨(some 8), none, .app 2 (.t 5) (.t 7)⟩,
  ⟨none, none, .st 1 (.t 1) (.t 8)⟩]
def rBicliqueAll1X2 : List O := [
  ⟨(some 9), none, .ld none (.t 1)⟩,
  ⟨(some 10), none, .len (.t 9)⟩,
  ⟨(some 11), none, .ld none (.t 2)⟩,
  ⟨(some 12), none, .bin .leq (.t 10) (.t 11)⟩,
  ⟨(some 4), none, .mv (.t 12)⟩]
def cBicliqueAll1 : C := (.seq (.reg rBicliqueAll1X0 false [] [1, 2, 3]) (.seq (.reg rBicliqueAll1X1 false [] [1, 2]) (.seq (.reg rBicliqueAll1X2 false [] [4]) .ret)))
def qBicliqueAll1 : AFn := ⟨13, 1, [.t 4], cBicliqueAll1⟩
/- cohesion/biclique.Best$1 -/
def rBicliqueBest1X0 : List O := [
  ⟨(some 2), none, .box (.t 0)⟩,
  ⟨(some 3), none, .mv (.k (.bool false))⟩]
def rBicliqueBest1X1 : List O := [
  ⟨(some 4), none, .fad 0 (.t 2)⟩,
  ⟨(some 5), none, .ld none (.t 4)⟩,
  ⟨(some 6), none, .len (.t 5)⟩,
  ⟨(some 7), none, .fad 1 (.t 2)⟩,
  ⟨(some 8), none, .ld none (.t 7)⟩,
  ⟨(some 9), none, .len (.t 8)⟩,
  ⟨(some 10), none, .bin .mul (.t 6) (.t 9)⟩,
  ⟨(some 11), none, .fad 0 (.t 1)⟩,
  ⟨(some 12), none, .ld none (.t 11)⟩,
  ⟨(some 13), none, .len (.t 12)⟩,
  ⟨(some 14), none, .fad 1 (.t 1)⟩,
  ⟨(some 15), none, .ld none (.t 14)⟩,
  ⟨(some 16), none, .len (.t 15)⟩,
  ⟨(some 17), none, .bin .mul (.t 13) (.t 16)⟩,
  ⟨(some 18), none, .bin .gtr (.t 10) (.t 17)⟩]
def rBicliqueBest1X2 : List O := [
  ⟨(some 19), none, .ld (some 2) (.t 2)⟩,
  ⟨none, none, .st 2 (.t 1) (.t 19)⟩]
def rBicliqueBest1X3 : List O := [
  ⟨(some 3), none, .mv (.k (.bool true))⟩]
def cBicliqueBest1 : C := (.seq (.reg rBicliqueBest1X0 false [] [1, 2]) (.seq (.seq (.reg rBicliqueBest1X1 false [] [1, 2, 18]) (.cond (.t 18) (.reg rBicliqueBest1X2 false [] []) .skip)) (.seq (.reg rBicliqueBest1X3 false [] [3]) .ret)))
def qBicliqueBest1 : AFn := ⟨20, 1, [.t 3], cBicliqueBest1⟩
/- cohesion/biclique.Next$1 -/
def rBicliqueNext1X0 : List O := [
  ⟨(some 2), none, .box (.t 0)⟩,
  ⟨(some 3), none, .mv (.k (.bool false))⟩]
def rBicliqueNext1X1 : List O := [
  ⟨(some 4), none, .ld (some 2) (.t 2)⟩,
  ⟨none, none, .st 2 (.t 1) (.t 4)⟩]
def rBicliqueNext1X2 : List O := [
  ⟨(some 3), none, .mv (.k (.bool false))⟩]
def cBicliqueNext1 : C := (.seq (.reg rBicliqueNext1X0 false [] [1, 2]) (.seq (.reg rBicliqueNext1X1 false [] []) (.seq (.reg rBicliqueNext1X2 false [] [3]) .ret)))
def qBicliqueNext1 : AFn := ⟨5, 1, [.t 3], cBicliqueNext1⟩
/- cohesion/biclique.Maximal$1 -/
def rBicliqueMaximal1X0 : List O := [
  ⟨(some 5), none, .mv (.k (.bool false))⟩]
def rBicliqueMaximal1X1 : List O := [
  ⟨(some 6), none, .mv (.t 0)⟩,
  ⟨(some 7), none, .fad 0 (.t 2)⟩,
  ⟨(some 8), none, .fad 0 (.t 7)⟩,
  ⟨(some 9), none, .ld none (.t 8)⟩,
  ⟨(some 10), none, .call nNodesetValid [(.t 6), (.t 9)]⟩,
  ⟨(some 11), none, .mv (.t 10)⟩,
  ⟨(some 12), (some (11, true)), .mv (.t 0)⟩,
  ⟨(some 13), (some (11, true)), .call nBicliqueMask [(.t 12)]⟩,
  ⟨(some 14), (some (11, true)), .mv (.t 1)⟩,
  ⟨(some 15), (some (11, true)), .bin .andNot (.t 13) (.t 14)⟩,
  ⟨(some 16), (some (11, true)), .bin .eql (.t 15) (.k (.int .u64 0))⟩,
  ⟨(some 17), none, .pick (.t 11) (.t 16) (.k (.bool false))⟩,
  ⟨(some 5), none, .mv (.t 17)⟩]
def cBicliqueMaximal1 : C := (.seq (.reg rBicliqueMaximal1X0 false [] [0, 1, 2]) (.seq (.reg rBicliqueMaximal1X1 false [] [5]) .ret))
def qBicliqueMaximal1 : AFn := ⟨18, 2, [.t 5], cBicliqueMaximal1⟩
/- cohesion/nodeset.Valid -/
def rNodesetValidX0 : List O := [
  ⟨(some 4), none, .mv (.k (.bool false))⟩]
def rNodesetValidX1 : List O := [
  ⟨(some 7), none, .mv (.t 0)⟩,
  ⟨(some 8), none, .len (.t 7)⟩,
  ⟨(some 9), none, .mv (.k (.int .i64 0))⟩]
def rNodesetValidX2 : List O := [
  ⟨(some 10), none, .bin .lss (.t 9) (.t 8)⟩]
def rNodesetValidX3 : List O := [
  ⟨(some 11), none, .mv (.t 9)⟩,
  ⟨(some 12), none, .ixa 1 (.t 7) (.t 9)⟩,
  ⟨(some 13), none, .ld none (.t 12)⟩,
  ⟨(some 5), none, .mv (.t 11)⟩,
  ⟨(some 6), none, .mv (.t 13)⟩]
def rNodesetValidX4 : List O := [
  ⟨(some 14), none, .mv (.t 6)⟩,
  ⟨(some 15), none, .bin .lss (.t 14) (.k (.int .i64 0))⟩,
  ⟨(some 16), none, .mv (.t 15)⟩,
  ⟨(some 17), (some (16, false)), .mv (.t 6)⟩,
  ⟨(some 18), (some (16, false)), .mv (.t 1)⟩,
  ⟨(some 19), (some (16, false)), .bin .geq (.t 17) (.t 18)⟩,
  ⟨(some 20), none, .pick (.t 16) (.k (.bool true)) (.t 19)⟩,
  ⟨(some 21), none, .mv (.t 20)⟩,
  ⟨(some 22), (some (21, false)), .mv (.t 5)⟩,
  ⟨(some 23), (some (21, false)), .bin .gtr (.t 22) (.k (.int .i64 0))⟩,
  ⟨(some 24), (some (21, false)), .mv (.t 23)⟩,
  ⟨(some 25), (some (24, true)), .mv (.t 0)⟩,
  ⟨(some 26), (some (24, true)), .mv (.t 5)⟩,
  ⟨(some 27), (some (24, true)), .bin .sub (.t 26) (.k (.int .i64 1))⟩,
  ⟨(some 28), (some (24, true)), .ixa 1 (.t 25) (.t 27)⟩,
  ⟨(some 29), (some (24, true)), .ld none (.t 28)⟩,
  ⟨(some 30), (some (24, true)), .mv (.t 6)⟩,
  ⟨(some 31), (some (24, true)), .bin .geq (.t 29) (.t 30)⟩,
  ⟨(some 32), (some (21, false)), .pick (.t 24) (.t 31) (.k (.bool false))⟩,
  ⟨(some 33), none, .pick (.t 21) (.k (.bool true)) (.t 32)⟩]
def rNodesetValidX5 : List O := [
  ⟨(some 4), none, .mv (.k (.bool false))⟩]
def rNodesetValidX6 : List O := [
  ⟨(some 34), none, .bin .add (.t 9) (.k (.int .i64 1))⟩,
  ⟨(some 9), none, .mv (.t 34)⟩]
def lNodesetValidX0 : C := (.seq (.reg rNodesetValidX2 false [] [0, 1, 7, 8, 9, 10]) (.seq (.cond (.t 10) .skip (.exit 0)) (.seq (.blk 1 (.seq (.reg rNodesetValidX3 false [] [0, 1, 5, 6, 7, 8, 9]) (.seq (.reg rNodesetValidX4 false [] [0, 1, 7, 8, 9, 33]) (.cond (.t 33) (.seq (.reg rNodesetValidX5 false [] [4]) .ret) .skip)))) (.reg rNodesetValidX6 false [] [0, 1, 7, 8, 9]))))
def rNodesetValidX7 : List O := [
  ⟨(some 4), none, .mv (.k (.bool true))⟩]
def cNodesetValid : C := (.seq (.reg rNodesetValidX0 false [] [0, 1]) (.seq (.seq (.reg rNodesetValidX1 false [] [0, 1, 7, 8, 9]) (.blk 0 (.loop lNodesetValidX0))) (.seq (.reg rNodesetValidX7 false [] [4]) .ret)))
def qNodesetValid : AFn := ⟨35, 2, [.t 4], cNodesetValid⟩
/- cohesion/biclique.mask -/
def rBicliqueMaskX0 : List O := [
  ⟨(some 2), none, .mv (.k (.int .u64 0))⟩]
def rBicliqueMaskX1 : List O := [
  ⟨(some 3), none, .mv (.k (.int .u64 0))⟩]
def rBicliqueMaskX2 : List O := [
  ⟨(some 6), none, .mv (.t 0)⟩,
  ⟨(some 7), none, .len (.t 6)⟩,
  ⟨(some 8), none, .mv (.k (.int .i64 0))⟩]
def rBicliqueMaskX3 : List O := [
  ⟨(some 9), none, .bin .lss (.t 8) (.t 7)⟩]
def rBicliqueMaskX4 : List O := [
  ⟨(some 10), none, .ixa 1 (.t 6) (.t 8)⟩,
  ⟨(some 11), none, .ld none (.t 10)⟩,
  ⟨(some 5), none, .mv (.t 11)⟩]
def rBicliqueMaskX5 : List O := [
  ⟨(some 12), none, .mv (.t 3)⟩,
  ⟨(some 13), none, .mv (.t 5)⟩,
  ⟨(some 14), none, .bin .shl (.k (.int .u64 1)) (.t 13)⟩,
  ⟨(some 15), none, .bin .or (.t 12) (.t 14)⟩,
  ⟨(some 3), none, .mv (.t 15)⟩]
def rBicliqueMaskX6 : List O := [
  ⟨(some 16), none, .bin .add (.t 8) (.k (.int .i64 1))⟩,
  ⟨(some 8), none, .mv (.t 16)⟩]
def lBicliqueMaskX0 : C := (.seq (.reg rBicliqueMaskX3 false [] [3, 6, 7, 8, 9]) (.seq (.cond (.t 9) .skip (.exit 0)) (.seq (.blk 1 (.seq (.reg rBicliqueMaskX4 false [] [3, 5, 6, 7, 8]) (.reg rBicliqueMaskX5 false [] [3, 6, 7, 8]))) (.reg rBicliqueMaskX6 false [] [3, 6, 7, 8]))))
def rBicliqueMaskX7 : List O := [
  ⟨(some 17), none, .mv (.t 3)⟩,
  ⟨(some 2), none, .mv (.t 17)⟩]
def cBicliqueMask : C := (.seq (.reg rBicliqueMaskX0 false [] [0]) (.seq (.reg rBicliqueMaskX1 false [] [0, 3]) (.seq (.seq (.reg rBicliqueMaskX2 false [] [3, 6, 7, 8]) (.blk 0 (.loop lBicliqueMaskX0))) (.seq (.reg rBicliqueMaskX7 false [] [2]) .ret))))
def qBicliqueMask : AFn := ⟨18, 1, [.t 2], cBicliqueMask⟩
/- (cohesion/biclique.sides).onRight -/
def rBicliqueSidesOnRightX0 : List O := [
  ⟨(some 2), none, .box (.t 0)⟩,
  ⟨(some 4), none, .mv (.k (.int .u64 0))⟩]
def rBicliqueSidesOnRightX1 : List O := [
  ⟨(some 5), none, .ld (some 3) (.t 2)⟩,
  ⟨(some 6), none, .fad 2 (.t 2)⟩,
  ⟨(some 7), none, .ld none (.t 6)⟩,
  ⟨(some 8), none, .mv (.t 1)⟩,
  ⟨(some 9), none, .call nBicliqueSidesCommon [(.t 5), (.t 7), (.t 8)]⟩,
  ⟨(some 4), none, .mv (.t 9)⟩]
def cBicliqueSidesOnRight : C := (.seq (.reg rBicliqueSidesOnRightX0 false [] [1, 2]) (.seq (.reg rBicliqueSidesOnRightX1 false [] [4]) .ret))
def qBicliqueSidesOnRight : AFn := ⟨10, 2, [.t 4], cBicliqueSidesOnRight⟩
/- (cohesion/biclique.sides).onLeft -/
def rBicliqueSidesOnLeftX0 : List O := [
  ⟨(some 2), none, .box (.t 0)⟩,
  ⟨(some 4), none, .mv (.k (.int .u64 0))⟩]
def rBicliqueSidesOnLeftX1 : List O := [
  ⟨(some 5), none, .ld (some 3) (.t 2)⟩,
  ⟨(some 6), none, .fad 1 (.t 2)⟩,
  ⟨(some 7), none, .ld none (.t 6)⟩,
  ⟨(some 8), none, .mv (.t 1)⟩,
  ⟨(some 9), none, .call nBicliqueSidesCommon [(.t 5), (.t 7), (.t 8)]⟩,
  ⟨(some 4), none, .mv (.t 9)⟩]
def cBicliqueSidesOnLeft : C := (.seq (.reg rBicliqueSidesOnLeftX0 false [] [1, 2]) (.seq (.reg rBicliqueSidesOnLeftX1 false [] [4]) .ret))
def qBicliqueSidesOnLeft : AFn := ⟨10, 2, [.t 4], cBicliqueSidesOnLeft⟩
/- cohesion/biclique.list -/
def rBicliqueListX0 : List O := [
  ⟨(some 2), none, .mv (.k (.own 1 []))⟩]
def rBicliqueListX1 : List O := [
  ⟨(some 3), none, .mv (.k (.own 1 []))⟩]
def rBicliqueListX2 : List O := [
  ⟨(some 4), none, .mv (.t 0)⟩,
  ⟨(some 5), none, .bin .neq (.t 4) (.k (.int .u64 0))⟩]
def rBicliqueListX3 : List O := [
  ⟨(some 10), none, .mv (.t 3)⟩,
  ⟨(some 11), none, .mv (.t 0)⟩,
  ⟨(some 12), none, .call nMathBitsTrailingZeros64 [(.t 11)]⟩,
  ⟨(some 13), none, .bslice 1 1 [(.int .i64 0)] [(0, 1, (.t 12))]⟩,
  ⟨(some 14), none, .app 1 (.t 10) (.t 13)⟩,
  ⟨(some 3), none, .mv (.t 14)⟩]
def rBicliqueListX4 : List O := [
  ⟨(some 6), none, .mv (.t 0)⟩,
  ⟨(some 7), none, .mv (.t 0)⟩,
  ⟨(some 8), none, .bin .sub (.t 7) (.k (.int .u64 1))⟩,
  ⟨(some 9), none, .bin .and (.t 6) (.t 8)⟩,
  ⟨(some 0), none, .mv (.t 9)⟩]
def lBicliqueListX0 : C := (.seq (.seq (.reg rBicliqueListX2 false [] [0, 3, 5]) (.cond (.t 5) .skip (.exit 0))) (.seq (.blk 1 (.reg rBicliqueListX3 false [] [0, 3])) (.reg rBicliqueListX4 false [] [0, 3])))
def rBicliqueListX5 : List O := [
  ⟨(some 15), none, .mv (.t 3)⟩,
  ⟨(some 2), none, .mv (.t 15)⟩]
def cBicliqueList : C := (.seq (.reg rBicliqueListX0 false [] [0]) (.seq (.reg rBicliqueListX1 false [] [0, 3]) (.seq (.blk 0 (.loop lBicliqueListX0)) (.seq (.reg rBicliqueListX5 false [] [2]) .ret))))
def qBicliqueList : AFn := ⟨16, 1, [.t 2], cBicliqueList⟩
/- cohesion/cohesionref03.edge -/
def rRef03EdgeX0 : List O := [
  ⟨(some 4), none, .new [(.int .i64 0), (.int .i64 0)]⟩]
def rRef03EdgeX1 : List O := [
  ⟨(some 5), none, .mv (.t 0)⟩,
  ⟨(some 6), none, .mv (.t 1)⟩,
  ⟨(some 7), none, .min [(.t 5), (.t 6)]⟩,
  ⟨(some 8), none, .mv (.t 0)⟩,
  ⟨(some 9), none, .mv (.t 1)⟩,
  ⟨(some 10), none, .max [(.t 8), (.t 9)]⟩,
  ⟨(some 11), none, .build [(.int .i64 0), (.int .i64 0)] [(0, 1, (.t 7)), (1, 1, (.t 10))]⟩,
  ⟨none, none, .st 2 (.t 4) (.t 11)⟩]
def cRef03Edge : C := (.seq (.reg rRef03EdgeX0 false [] [0, 1, 4]) (.seq (.reg rRef03EdgeX1 false [] [4]) .ret))
def qRef03Edge : AFn := ⟨12, 2, [.c 4 (some 2)], cRef03Edge⟩
/- cohesion/graph.Check -/
def rGraphCheckX0 : List O := [
  ⟨(some 1), none, .box (.t 0)⟩,
  ⟨(some 2), none, .mv (.k (.int .i64 0))⟩]
def rGraphCheckX1 : List O := [
  ⟨(some 5), none, .fad 0 (.t 1)⟩,
  ⟨(some 6), none, .ld none (.t 5)⟩,
  ⟨(some 7), none, .bin .lss (.t 6) (.k (.int .i64 0))⟩,
  ⟨(some 8), none, .mv (.t 7)⟩,
  ⟨(some 9), (some (8, false)), .fad 0 (.t 1)⟩,
  ⟨(some 10), (some (8, false)), .ld none (.t 9)⟩,
  ⟨(some 11), (some (8, false)), .bin .gtr (.t 10) (.k (.int .i64 64))⟩,
  ⟨(some 12), none, .pick (.t 8) (.k (.bool true)) (.t 11)⟩]
def rGraphCheckX2 : List O := [
  ⟨(some 2), none, .mv (.k (.int .i64 1))⟩]
def rGraphCheckX3 : List O := [
  ⟨(some 13), none, .fad 1 (.t 1)⟩,
  ⟨(some 14), none, .ld none (.t 13)⟩,
  ⟨(some 15), none, .len (.t 14)⟩,
  ⟨(some 16), none, .mv (.k (.int .i64 0))⟩]
def rGraphCheckX4 : List O := [
  ⟨(some 17), none, .bin .lss (.t 16) (.t 15)⟩]
def rGraphCheckX5 : List O := [
  ⟨(some 18), none, .mv (.t 16)⟩,
  ⟨(some 19), none, .ixa 2 (.t 14) (.t 16)⟩,
  ⟨(some 20), none, .ld (some 2) (.t 19)⟩,
  ⟨(some 4), none, .new [(.int .i64 0), (.int .i64 0)]⟩,
  ⟨(some 3), none, .mv (.t 18)⟩,
  ⟨none, none, .st 2 (.t 4) (.t 20)⟩]
def rGraphCheckX6 : List O := [
  ⟨(some 22), none, .fad 0 (.t 4)⟩,
  ⟨(some 23), none, .ld none (.t 22)⟩,
  ⟨(some 24), none, .bin .lss (.t 23) (.k (.int .i64 0))⟩,
  ⟨(some 25), none, .mv (.t 24)⟩,
  ⟨(some 26), (some (25, false)), .fad 0 (.t 4)⟩,
  ⟨(some 27), (some (25, false)), .ld none (.t 26)⟩,
  ⟨(some 28), (some (25, false)), .fad 1 (.t 4)⟩,
  ⟨(some 29), (some (25, false)), .ld none (.t 28)⟩,
  ⟨(some 30), (some (25, false)), .bin .geq (.t 27) (.t 29)⟩,
  ⟨(some 31), none, .pick (.t 25) (.k (.bool true)) (.t 30)⟩,
  ⟨(some 32), none, .mv (.t 31)⟩,
  ⟨(some 33), (some (32, false)), .fad 1 (.t 4)⟩,
  ⟨(some 34), (some (32, false)), .ld none (.t 33)⟩,
  ⟨(some 35), (some (32, false)), .fad 0 (.t 1)⟩,
  ⟨(some 36), (some (32, false)), .ld none (.t 35)⟩,
  ⟨(some 37), (some (32, false)), .bin .geq (.t 34) (.t 36)⟩,
  ⟨(some 38), none, .pick (.t 32) (.k (.bool true)) (.t 37)⟩,
  ⟨(some 21), none, .mv (.t 38)⟩]
def rGraphCheckX7 : List O := [
  ⟨(some 2), none, .mv (.k (.int .i64 6))⟩]
def rGraphCheckX8 : List O := [
  ⟨(some 40), none, .mv (.t 3)⟩,
  ⟨(some 41), none, .bin .gtr (.t 40) (.k (.int .i64 0))⟩,
  ⟨(some 42), none, .mv (.t 41)⟩,
  ⟨(some 43), (some (42, true)), .fad 1 (.t 1)⟩,
  ⟨(some 44), (some (42, true)), .ld none (.t 43)⟩,
  ⟨(some 45), (some (42, true)), .mv (.t 3)⟩,
  ⟨(some 46), (some (42, true)), .bin .sub (.t 45) (.k (.int .i64 1))⟩,
  ⟨(some 47), (some (42, true)), .ixa 2 (.t 44) (.t 46)⟩,
  ⟨(some 48), (some (42, true)), .ld (some 2) (.t 47)⟩,
  ⟨(some 49), (some (42, true)), .ld (some 2) (.t 4)⟩,
  ⟨(some 50), (some (42, true)), .call nGraphOrder [(.t 48), (.t 49)]⟩,
  ⟨(some 51), (some (42, true)), .bin .geq (.t 50) (.k (.int .i64 0))⟩,
  ⟨(some 52), none, .pick (.t 42) (.t 51) (.k (.bool false))⟩,
  ⟨(some 39), none, .mv (.t 52)⟩]
def rGraphCheckX9 : List O := [
  ⟨(some 2), none, .mv (.k (.int .i64 5))⟩]
def rGraphCheckX10 : List O := [
  ⟨(some 53), none, .bin .add (.t 16) (.k (.int .i64 1))⟩,
  ⟨(some 16), none, .mv (.t 53)⟩]
def lGraphCheckX0 : C := (.seq (.reg rGraphCheckX4 false [] [1, 14, 15, 16, 17]) (.seq (.cond (.t 17) .skip (.exit 0)) (.seq (.blk 1 (.seq (.reg rGraphCheckX5 false [] [1, 3, 4, 14, 15, 16]) (.blk 2 (.seq (.reg rGraphCheckX6 false [] [1, 3, 4, 14, 15, 16, 21]) (.cond (.t 21) (.seq (.reg rGraphCheckX7 false [] [2]) .ret) (.seq (.reg rGraphCheckX8 true [(0, 0), (1, 1), (2, 2), (10, 10), (11, 11), (12, 12), (13, 13), (4, 5), (4, 6), (3, 9), (4, 9), (5, 9), (6, 9), (7, 9), (8, 9)] [1, 14, 15, 16, 39]) (.cond (.t 39) (.seq (.reg rGraphCheckX9 false [] [2]) .ret) .skip))))))) (.reg rGraphCheckX10 false [] [1, 14, 15, 16]))))
def rGraphCheckX11 : List O := [
  ⟨(some 2), none, .mv (.k (.int .i64 0))⟩]
def cGraphCheck : C := (.seq (.reg rGraphCheckX0 false [] [1]) (.seq (.seq (.reg rGraphCheckX1 false [] [1, 12]) (.cond (.t 12) (.seq (.reg rGraphCheckX2 false [] [2]) .ret) .skip)) (.seq (.seq (.reg rGraphCheckX3 false [] [1, 14, 15, 16]) (.blk 0 (.loop lGraphCheckX0))) (.seq (.reg rGraphCheckX11 false [] [2]) .ret))))
def qGraphCheck : AFn := ⟨54, 1, [.t 2], cGraphCheck⟩
/- slices.ContainsFunc[[]cohesion/api.Edge,cohesion/api.Edge] -/
def rSlicesContainsFuncApiEdgeApiEdgeX0 : List O := [
  ⟨(some 4), none, .mv (.k (.bool false))⟩]
def rSlicesContainsFuncApiEdgeApiEdgeX1 : List O := [
  ⟨(some 5), none, .mv (.t 0)⟩,
  ⟨(some 6), none, .mv (.t 1)⟩,
  ⟨(some 7), none, .call nSlicesIndexFuncApiEdgeApiEdge [(.t 5), (.t 6)]⟩,
  ⟨(some 8), none, .bin .geq (.t 7) (.k (.int .i64 0))⟩,
  ⟨(some 4), none, .mv (.t 8)⟩]
def cSlicesContainsFuncApiEdgeApiEdge : C := (.seq (.reg rSlicesContainsFuncApiEdgeApiEdgeX0 false [] [0, 1]) (.seq (.reg rSlicesContainsFuncApiEdgeApiEdgeX1 false [] [4]) .ret))
def qSlicesContainsFuncApiEdgeApiEdge : AFn := ⟨9, 2, [.t 4], cSlicesContainsFuncApiEdgeApiEdge⟩
/- cohesion/biclique.Check$1 -/
def rBicliqueCheck1X0 : List O := [
  ⟨(some 2), none, .box (.t 0)⟩,
  ⟨(some 3), none, .mv (.k (.bool false))⟩]
def rBicliqueCheck1X1 : List O := [
  ⟨(some 4), none, .ld none (.t 1)⟩,
  ⟨(some 5), none, .fad 0 (.t 2)⟩,
  ⟨(some 6), none, .ld none (.t 5)⟩,
  ⟨(some 7), none, .bin .shr (.t 4) (.t 6)⟩,
  ⟨(some 8), none, .bin .and (.t 7) (.k (.int .u64 1))⟩,
  ⟨(some 9), none, .ld none (.t 1)⟩,
  ⟨(some 10), none, .fad 1 (.t 2)⟩,
  ⟨(some 11), none, .ld none (.t 10)⟩,
  ⟨(some 12), none, .bin .shr (.t 9) (.t 11)⟩,
  ⟨(some 13), none, .bin .and (.t 12) (.k (.int .u64 1))⟩,
  ⟨(some 14), none, .bin .eql (.t 8) (.t 13)⟩,
  ⟨(some 3), none, .mv (.t 14)⟩]
def cBicliqueCheck1 : C := (.seq (.reg rBicliqueCheck1X0 false [] [1, 2]) (.seq (.reg rBicliqueCheck1X1 true [(10, 10), (11, 11), (0, 1), (0, 2), (0, 5), (1, 5), (2, 5), (3, 5), (4, 5), (0, 6), (2, 6), (5, 6), (0, 7), (1, 7), (2, 7), (3, 7), (4, 7), (5, 7), (0, 8), (2, 8), (0, 9), (2, 9)] [3]) .ret))
def qBicliqueCheck1 : AFn := ⟨15, 1, [.t 3], cBicliqueCheck1⟩
/- cohesion/cohesionmake.Mod -/
def rMakeModX0 : List O := [
  ⟨(some 4), none, .mv (.k (.int .i64 0))⟩]
def rMakeModX1 : List O := [
  ⟨(some 5), none, .mv (.t 0)⟩,
  ⟨(some 6), none, .mv (.t 1)⟩,
  ⟨(some 7), none, .bin .rem (.t 5) (.t 6)⟩,
  ⟨(some 8), none, .mv (.t 1)⟩,
  ⟨(some 9), none, .bin .add (.t 7) (.t 8)⟩,
  ⟨(some 10), none, .mv (.t 1)⟩,
  ⟨(some 11), none, .bin .rem (.t 9) (.t 10)⟩,
  ⟨(some 4), none, .mv (.t 11)⟩]
def cMakeMod : C := (.seq (.reg rMakeModX0 false [] [0, 1]) (.seq (.reg rMakeModX1 false [] [4]) .ret))
def qMakeMod : AFn := ⟨12, 2, [.t 4], cMakeMod⟩
/- cohesion/cohesionref03.ends -/
def rRef03EndsX0 : List O := [
  ⟨(some 6), none, .mv (.k (.bool false))⟩]
def rRef03EndsX1 : List O := [
  ⟨(some 7), none, .mv (.t 1)⟩,
  ⟨(some 8), none, .bin .geq (.t 7) (.k (.int .i64 0))⟩,
  ⟨(some 9), none, .mv (.t 8)⟩,
  ⟨(some 10), (some (9, true)), .mv (.t 2)⟩,
  ⟨(some 11), (some (9, true)), .bin .geq (.t 10) (.k (.int .i64 0))⟩,
  ⟨(some 12), none, .pick (.t 9) (.t 11) (.k (.bool false))⟩,
  ⟨(some 13), none, .mv (.t 12)⟩,
  ⟨(some 14), (some (13, true)), .mv (.t 1)⟩,
  ⟨(some 15), (some (13, true)), .mv (.t 0)⟩,
  ⟨(some 16), (some (13, true)), .bin .lss (.t 14) (.t 15)⟩,
  ⟨(some 17), none, .pick (.t 13) (.t 16) (.k (.bool false))⟩,
  ⟨(some 18), none, .mv (.t 17)⟩,
  ⟨(some 19), (some (18, true)), .mv (.t 2)⟩,
  ⟨(some 20), (some (18, true)), .mv (.t 0)⟩,
  ⟨(some 21), (some (18, true)), .bin .lss (.t 19) (.t 20)⟩,
  ⟨(some 22), none, .pick (.t 18) (.t 21) (.k (.bool false))⟩,
  ⟨(some 23), none, .mv (.t 22)⟩,
  ⟨(some 24), (some (23, true)), .mv (.t 1)⟩,
  ⟨(some 25), (some (23, true)), .mv (.t 2)⟩,
  ⟨(some 26), (some (23, true)), .bin .neq (.t 24) (.t 25)⟩,
  ⟨(some 27), none, .pick (.t 23) (.t 26) (.k (.bool false))⟩,
  ⟨(some 6), none, .mv (.t 27)⟩]
def cRef03Ends : C := (.seq (.reg rRef03EndsX0 false [] [0, 1, 2]) (.seq (.reg rRef03EndsX1 false [] [6]) .ret))
def qRef03Ends : AFn := ⟨28, 3, [.t 6], cRef03Ends⟩
/- cohesion/cohesionref03.with -/
def rRef03WithX0 : List O := [
  ⟨(some 3), none, .box (.t 1)⟩,
  ⟨(some 4), none, .mv (.k (.own 2 []))⟩]
def rRef03WithX1 : List O := [
  ⟨(some 5), none, .mv (.k (.int .i64 0))⟩]
def rRef03WithX2 : List O := [
  ⟨(some 7), none, .mv (.t 5)⟩,
  ⟨(some 8), none, .mv (.t 0)⟩,
  ⟨(some 9), none, .len (.t 8)⟩,
  ⟨(some 10), none, .bin .lss (.t 7) (.t 9)⟩,
  ⟨(some 11), none, .mv (.t 10)⟩,
  ⟨(some 12), (some (11, true)), .mv (.t 0)⟩,
  ⟨(some 13), (some (11, true)), .mv (.t 5)⟩,
  ⟨(some 14), (some (11, true)), .ixa 2 (.t 12) (.t 13)⟩,
  ⟨(some 15), (some (11, true)), .ld (some 2) (.t 14)⟩,
  ⟨(some 16), (some (11, true)), .ld (some 2) (.t 3)⟩,
  ⟨(some 17), (some (11, true)), .call nRef03Before [(.t 15), (.t 16)]⟩,
  ⟨(some 18), none, .pick (.t 11) (.t 17) (.k (.bool false))⟩]
def rRef03WithX3 : List O := [
  ⟨(some 19), none, .mv (.t 5)⟩,
  ⟨(some 20), none, .bin .add (.t 19) (.k (.int .i64 1))⟩,
  ⟨(some 5), none, .mv (.t 20)⟩]
def lRef03WithX0 : C := (.seq (.seq (.reg rRef03WithX2 true [(3, 3), (4, 4), (10, 10), (11, 11), (5, 9), (6, 9), (7, 9), (8, 9)] [0, 3, 5, 18]) (.cond (.t 18) .skip (.exit 0))) (.blk 1 (.reg rRef03WithX3 false [] [0, 3, 5])))
def rRef03WithX4 : List O := [
  ⟨(some 21), none, .mv (.t 5)⟩,
  ⟨(some 22), none, .mv (.t 0)⟩,
  ⟨(some 23), none, .len (.t 22)⟩,
  ⟨(some 24), none, .bin .lss (.t 21) (.t 23)⟩,
  ⟨(some 25), none, .mv (.t 24)⟩,
  ⟨(some 26), (some (25, true)), .mv (.t 0)⟩,
  ⟨(some 27), (some (25, true)), .mv (.t 5)⟩,
  ⟨(some 28), (some (25, true)), .ixa 2 (.t 26) (.t 27)⟩,
  ⟨(some 29), (some (25, true)), .ld (some 2) (.t 28)⟩,
  ⟨(some 30), (some (25, true)), .ld (some 2) (.t 3)⟩,
  ⟨(some 31), (some (25, true)), .eq false (.str [true, true]) (.t 29) (.t 30)⟩,
  ⟨(some 32), none, .pick (.t 25) (.t 31) (.k (.bool false))⟩]
def rRef03WithX5 : List O := [
  ⟨(some 33), none, .mv (.t 0)⟩,
  ⟨(some 4), none, .mv (.t 33)⟩]
def rRef03WithX6 : List O := [
  ⟨(some 34), none, .mv (.t 0)⟩,
  ⟨(some 35), none, .mv (.t 5)⟩,
  ⟨(some 36), none, .slc 2 (.t 34) none (some (.t 35))⟩,
  ⟨(some 37), none, .app 2 (.k (.own 2 [])) (.t 36)⟩,
  ⟨(some 6), none, .mv (.t 37)⟩]
def rRef03WithX7 : List O := [
  ⟨(some 38), none, .mv (.t 6)⟩,
  ⟨(some 39), none, .ld (some 2) (.t 3)⟩,
  ⟨(some 40), none, .bslice 2 1 [(.int .i64 0), (.int .i64 0)] [(0, 2, (.t 39))]⟩,
  ⟨(some 41), none, .app 2 (.t 38) (.t 40)⟩,
  ⟨(some 42), none, .mv (.t 0)⟩,
  ⟨(some 43), none, .mv (.t 5)⟩,
  ⟨(some 44), none, .slc 2 (.t 42) (some (.t 43)) none⟩,
  ⟨(some 45), none, .app 2 (.t 41) (.t 44)⟩,
  ⟨(some 4), none, .mv (.t 45)⟩]
def cRef03With : C := (.seq (.reg rRef03WithX0 false [] [0, 3]) (.seq (.reg rRef03WithX1 false [] [0, 3, 5]) (.seq (.blk 0 (.loop lRef03WithX0)) (.seq (.seq (.reg rRef03WithX4 true [(3, 3), (4, 4), (10, 10), (11, 11), (5, 9), (6, 9), (7, 9), (8, 9)] [0, 3, 5, 32]) (.cond (.t 32) (.seq (.reg rRef03WithX5 false [] [4]) .ret) .skip)) (.seq (.reg rRef03WithX6 false [] [0, 3, 5, 6]) (.seq (.reg rRef03WithX7 true [(7, 7), (8, 8), (0, 1), (0, 2), (1, 4), (2, 4), (3, 4), (1, 5), (2, 5), (3, 5), (1, 6), (2, 6), (3, 6)] [4]) .ret))))))
def qRef03With : AFn := ⟨46, 2, [.t 4], cRef03With⟩
/- cohesion/cohesionref02.put -/
def rRef02PutX0 : List O := [
  ⟨(some 4), none, .mv (.k (.own 1 []))⟩]
def rRef02PutX1 : List O := [
  ⟨(some 5), none, .mv (.k (.int .i64 0))⟩]
def rRef02PutX2 : List O := [
  ⟨(some 7), none, .mv (.t 5)⟩,
  ⟨(some 8), none, .mv (.t 0)⟩,
  ⟨(some 9), none, .len (.t 8)⟩,
  ⟨(some 10), none, .bin .lss (.t 7) (.t 9)⟩,
  ⟨(some 11), none, .mv (.t 10)⟩,
  ⟨(some 12), (some (11, true)), .mv (.t 0)⟩,
  ⟨(some 13), (some (11, true)), .mv (.t 5)⟩,
  ⟨(some 14), (some (11, true)), .ixa 1 (.t 12) (.t 13)⟩,
  ⟨(some 15), (some (11, true)), .ld none (.t 14)⟩,
  ⟨(some 16), (some (11, true)), .mv (.t 1)⟩,
  ⟨(some 17), (some (11, true)), .bin .lss (.t 15) (.t 16)⟩,
  ⟨(some 18), none, .pick (.t 11) (.t 17) (.k (.bool false))⟩]
def rRef02PutX3 : List O := [
  ⟨(some 19), none, .mv (.t 5)⟩,
  ⟨(some 20), none, .bin .add (.t 19) (.k (.int .i64 1))⟩,
  ⟨(some 5), none, .mv (.t 20)⟩]
def lRef02PutX0 : C := (.seq (.seq (.reg rRef02PutX2 false [] [0, 1, 5, 18]) (.cond (.t 18) .skip (.exit 0))) (.blk 1 (.reg rRef02PutX3 false [] [0, 1, 5])))
def rRef02PutX4 : List O := [
  ⟨(some 21), none, .mv (.t 5)⟩,
  ⟨(some 22), none, .mv (.t 0)⟩,
  ⟨(some 23), none, .len (.t 22)⟩,
  ⟨(some 24), none, .bin .lss (.t 21) (.t 23)⟩,
  ⟨(some 25), none, .mv (.t 24)⟩,
  ⟨(some 26), (some (25, true)), .mv (.t 0)⟩,
  ⟨(some 27), (some (25, true)), .mv (.t 5)⟩,
  ⟨(some 28), (some (25, true)), .ixa 1 (.t 26) (.t 27)⟩,
  ⟨(some 29), (some (25, true)), .ld none (.t 28)⟩,
  ⟨(some 30), (some (25, true)), .mv (.t 1)⟩,
  ⟨(some 31), (some (25, true)), .bin .eql (.t 29) (.t 30)⟩,
  ⟨(some 32), none, .pick (.t 25) (.t 31) (.k (.bool false))⟩]
def rRef02PutX5 : List O := [
  ⟨(some 33), none, .mv (.t 0)⟩,
  ⟨(some 4), none, .mv (.t 33)⟩]
def rRef02PutX6 : List O := [
  ⟨(some 34), none, .mv (.t 0)⟩,
  ⟨(some 35), none, .mv (.t 5)⟩,
  ⟨(some 36), none, .slc 1 (.t 34) none (some (.t 35))⟩,
  ⟨(some 37), none, .app 1 (.k (.own 1 [])) (.t 36)⟩,
  ⟨(some 6), none, .mv (.t 37)⟩]
def rRef02PutX7 : List O := [
  ⟨(some 38), none, .mv (.t 6)⟩,
  ⟨(some 39), none, .mv (.t 1)⟩,
  ⟨(some 40), none, .bslice 1 1 [(.int .i64 0)] [(0, 1, (.t 39))]⟩,
  ⟨(some 41), none, .app 1 (.t 38) (.t 40)⟩,
  ⟨(some 42), none, .mv (.t 0)⟩,
  ⟨(some 43), none, .mv (.t 5)⟩,
  ⟨(some 44), none, .slc 1 (.t 42) (some (.t 43)) none⟩,
  ⟨(some 45), none, .app 1 (.t 41) (.t 44)⟩,
  ⟨(some 4), none, .mv (.t 45)⟩]
def cRef02Put : C := (.seq (.reg rRef02PutX0 false [] [0, 1]) (.seq (.reg rRef02PutX1 false [] [0, 1, 5]) (.seq (.blk 0 (.loop lRef02PutX0)) (.seq (.seq (.reg rRef02PutX4 false [] [0, 1, 5, 32]) (.cond (.t 32) (.seq (.reg rRef02PutX5 false [] [4]) .ret) .skip)) (.seq (.reg rRef02PutX6 false [] [0, 1, 5, 6]) (.seq (.reg rRef02PutX7 true [(7, 7), (8, 8), (0, 2), (2, 4), (3, 4), (2, 5), (3, 5), (2, 6), (3, 6)] [4]) .ret))))))
def qRef02Put : AFn := ⟨46, 2, [.t 4], cRef02Put⟩
/- (cohesion/biclique.sides).each$1 -/
def rBicliqueSidesEach1X0 : List O := [
  ⟨(some 9), none, .mv (.k (.bool false))⟩]
def rBicliqueSidesEach1X1 : List O := [
  ⟨(some 15), none, .fad 1 (.t 2)⟩,
  ⟨(some 16), none, .ld none (.t 15)⟩,
  ⟨(some 17), none, .ld none (.t 3)⟩,
  ⟨(some 18), none, .call nBicliqueBehind [(.t 17)]⟩,
  ⟨(some 19), none, .bin .andNot (.t 16) (.t 18)⟩,
  ⟨(some 10), none, .mv (.t 19)⟩]
def rBicliqueSidesEach1X2 : List O := [
  ⟨(some 20), none, .mv (.t 10)⟩,
  ⟨(some 21), none, .bin .neq (.t 20) (.k (.int .u64 0))⟩]
def rBicliqueSidesEach1X3 : List O := [
  ⟨(some 26), none, .mv (.t 10)⟩,
  ⟨(some 27), none, .call nMathBitsTrailingZeros64 [(.t 26)]⟩,
  ⟨(some 11), none, .mv (.t 27)⟩]
def rBicliqueSidesEach1X4 : List O := [
  ⟨(some 28), none, .mv (.t 1)⟩,
  ⟨(some 29), none, .mv (.t 28)⟩,
  ⟨(some 30), (some (29, true)), .ld none (.t 3)⟩,
  ⟨(some 31), (some (29, true)), .len (.t 30)⟩,
  ⟨(some 32), (some (29, true)), .ld none (.t 4)⟩,
  ⟨(some 33), (some (29, true)), .len (.t 32)⟩,
  ⟨(some 34), (some (29, true)), .bin .lss (.t 31) (.t 33)⟩,
  ⟨(some 35), none, .pick (.t 29) (.t 34) (.k (.bool false))⟩,
  ⟨(some 12), none, .mv (.t 35)⟩]
def rBicliqueSidesEach1X5 : List O := [
  ⟨(some 36), none, .mv (.t 12)⟩,
  ⟨(some 37), none, .mv (.t 36)⟩,
  ⟨(some 38), (some (37, true)), .mv (.t 11)⟩,
  ⟨(some 39), (some (37, true)), .ld none (.t 4)⟩,
  ⟨(some 40), (some (37, true)), .ld none (.t 3)⟩,
  ⟨(some 41), (some (37, true)), .len (.t 40)⟩,
  ⟨(some 42), (some (37, true)), .ixa 1 (.t 39) (.t 41)⟩,
  ⟨(some 43), (some (37, true)), .ld none (.t 42)⟩,
  ⟨(some 44), (some (37, true)), .bin .lss (.t 38) (.t 43)⟩,
  ⟨(some 45), none, .pick (.t 37) (.t 44) (.k (.bool false))⟩,
  ⟨(some 46), none, .mv (.t 45)⟩,
  ⟨(some 47), (some (46, false)), .mv (.t 0)⟩,
  ⟨(some 48), (some (46, false)), .fad 0 (.t 2)⟩,
  ⟨(some 49), (some (46, false)), .ld none (.t 48)⟩,
  ⟨(some 50), (some (46, false)), .mv (.t 11)⟩,
  ⟨(some 51), (some (46, false)), .ixa 1 (.t 49) (.t 50)⟩,
  ⟨(some 52), (some (46, false)), .ld none (.t 51)⟩,
  ⟨(some 53), (some (46, false)), .bin .and (.t 47) (.t 52)⟩,
  ⟨(some 54), (some (46, false)), .bin .eql (.t 53) (.k (.int .u64 0))⟩,
  ⟨(some 55), none, .pick (.t 46) (.k (.bool true)) (.t 54)⟩]
def rBicliqueSidesEach1X6 : List O := [
  ⟨(some 56), none, .mv (.t 12)⟩,
  ⟨(some 57), none, .mv (.t 56)⟩,
  ⟨(some 58), (some (57, true)), .mv (.t 11)⟩,
  ⟨(some 59), (some (57, true)), .ld none (.t 4)⟩,
  ⟨(some 60), (some (57, true)), .ld none (.t 3)⟩,
  ⟨(some 61), (some (57, true)), .len (.t 60)⟩,
  ⟨(some 62), (some (57, true)), .ixa 1 (.t 59) (.t 61)⟩,
  ⟨(some 63), (some (57, true)), .ld none (.t 62)⟩,
  ⟨(some 64), (some (57, true)), .bin .eql (.t 58) (.t 63)⟩,
  ⟨(some 65), none, .pick (.t 57) (.t 64) (.k (.bool false))⟩,
  ⟨(some 12), none, .mv (.t 65)⟩]
def rBicliqueSidesEach1X7 : List O := [
  ⟨(some 66), none, .ld (some 3) (.t 2)⟩,
  ⟨(some 67), none, .mv (.t 0)⟩,
  ⟨(some 68), none, .fad 0 (.t 2)⟩,
  ⟨(some 69), none, .ld none (.t 68)⟩,
  ⟨(some 70), none, .mv (.t 11)⟩,
  ⟨(some 71), none, .ixa 1 (.t 69) (.t 70)⟩,
  ⟨(some 72), none, .ld none (.t 71)⟩,
  ⟨(some 73), none, .bin .and (.t 67) (.t 72)⟩,
  ⟨(some 74), none, .call nBicliqueSidesOnLeft [(.t 66), (.t 73)]⟩,
  ⟨(some 75), none, .ld none (.t 3)⟩,
  ⟨(some 76), none, .call nBicliqueMask [(.t 75)]⟩,
  ⟨(some 77), none, .mv (.t 11)⟩,
  ⟨(some 78), none, .bin .shl (.k (.int .u64 1)) (.t 77)⟩,
  ⟨(some 79), none, .bin .or (.t 76) (.t 78)⟩,
  ⟨(some 13), none, .mv (.t 74)⟩,
  ⟨(some 14), none, .mv (.t 79)⟩]
def rBicliqueSidesEach1X8 : List O := [
  ⟨(some 80), none, .mv (.t 13)⟩,
  ⟨(some 81), none, .mv (.t 11)⟩,
  ⟨(some 82), none, .bin .shl (.k (.int .u64 1)) (.t 81)⟩,
  ⟨(some 83), none, .bin .sub (.t 82) (.k (.int .u64 1))⟩,
  ⟨(some 84), none, .bin .and (.t 80) (.t 83)⟩,
  ⟨(some 85), none, .mv (.t 14)⟩,
  ⟨(some 86), none, .mv (.t 11)⟩,
  ⟨(some 87), none, .bin .shl (.k (.int .u64 1)) (.t 86)⟩,
  ⟨(some 88), none, .bin .sub (.t 87) (.k (.int .u64 1))⟩,
  ⟨(some 89), none, .bin .and (.t 85) (.t 88)⟩,
  ⟨(some 90), none, .bin .neq (.t 84) (.t 89)⟩]
def rBicliqueSidesEach1X9 : List O := [
  ⟨(some 91), none, .ld none (.t 3)⟩,
  ⟨(some 92), none, .mv (.t 11)⟩,
  ⟨(some 93), none, .bslice 1 1 [(.int .i64 0)] [(0, 1, (.t 92))]⟩,
  ⟨(some 94), none, .app 1 (.t 91) (.t 93)⟩,
  ⟨none, none, .st 1 (.t 3) (.t 94)⟩]
def rBicliqueSidesEach1X10 : List O := [
  ⟨(some 95), none, .mv (.t 13)⟩,
  ⟨(some 96), none, .mv (.t 14)⟩,
  ⟨(some 97), none, .bin .eql (.t 95) (.t 96)⟩,
  ⟨(some 98), none, .mv (.t 97)⟩,
  ⟨(some 99), (some (98, true)), .mv (.t 12)⟩,
  ⟨(some 100), (some (98, true)), .mv (.t 99)⟩,
  ⟨(some 101), (some (100, true)), .ld none (.t 3)⟩,
  ⟨(some 102), (some (100, true)), .len (.t 101)⟩,
  ⟨(some 103), (some (100, true)), .ld none (.t 4)⟩,
  ⟨(some 104), (some (100, true)), .len (.t 103)⟩,
  ⟨(some 105), (some (100, true)), .bin .leq (.t 102) (.t 104)⟩,
  ⟨(some 106), (some (98, true)), .pick (.t 100) (.t 105) (.k (.bool false))⟩,
  ⟨(some 107), (some (98, true)), .un .not (.t 106)⟩,
  ⟨(some 108), none, .pick (.t 98) (.t 107) (.k (.bool false))⟩,
  ⟨(some 109), none, .mv (.t 108)⟩,
  ⟨(some 110), (some (109, true)), .ld none (.t 5)⟩,
  ⟨(some 111), (some (109, true)), .ld none (.t 3)⟩,
  ⟨(some 112), (some (109, true)), .call nSlicesCloneIntInt [(.t 111)]⟩,
  ⟨(some 113), (some (109, true)), .mv (.t 0)⟩,
  ⟨(some 114), (some (109, true)), .fad 0 (.t 2)⟩,
  ⟨(some 115), (some (109, true)), .ld none (.t 114)⟩,
  ⟨(some 116), (some (109, true)), .mv (.t 11)⟩,
  ⟨(some 117), (some (109, true)), .ixa 1 (.t 115) (.t 116)⟩,
  ⟨(some 118), (some (109, true)), .ld none (.t 117)⟩,
  ⟨(some 119), (some (109, true)), .bin .and (.t 113) (.t 118)⟩,
  ⟨(some 120), (some (109, true)), .call nBicliqueList [(.t 119)]⟩,
  ⟨(some 121), (some (109, true)), .build [(.own 1 []), (.own 1 [])] [(0, 1, (.t 112)), (1, 1, (.t 120))]⟩,
  ⟨(some 122), (some (109, true)), .callv (.t 110) [(.t 121)]⟩,
  ⟨(some 123), (some (109, true)), .un .not (.t 122)⟩,
  ⟨(some 124), none, .pick (.t 109) (.t 123) (.k (.bool false))⟩,
  ⟨(some 125), none, .mv (.t 124)⟩,
  ⟨(some 126), (some (125, false)), .ld none (.t 6)⟩,
  ⟨(some 127), (some (125, false)), .mv (.t 0)⟩,
  ⟨(some 128), (some (125, false)), .fad 0 (.t 2)⟩,
  ⟨(some 129), (some (125, false)), .ld none (.t 128)⟩,
  ⟨(some 130), (some (125, false)), .mv (.t 11)⟩,
  ⟨(some 131), (some (125, false)), .ixa 1 (.t 129) (.t 130)⟩,
  ⟨(some 132), (some (125, false)), .ld none (.t 131)⟩,
  ⟨(some 133), (some (125, false)), .bin .and (.t 127) (.t 132)⟩,
  ⟨(some 134), (some (125, false)), .mv (.t 12)⟩,
  ⟨(some 135), (some (125, false)), .callv (.t 126) [(.t 133), (.t 134)]⟩,
  ⟨(some 136), (some (125, false)), .un .not (.t 135)⟩,
  ⟨(some 137), none, .pick (.t 125) (.k (.bool true)) (.t 136)⟩]
def rBicliqueSidesEach1X11 : List O := [
  ⟨(some 9), none, .mv (.k (.bool false))⟩]
def rBicliqueSidesEach1X12 : List O := [
  ⟨(some 138), none, .ld none (.t 3)⟩,
  ⟨(some 139), none, .ld none (.t 3)⟩,
  ⟨(some 140), none, .len (.t 139)⟩,
  ⟨(some 141), none, .bin .sub (.t 140) (.k (.int .i64 1))⟩,
  ⟨(some 142), none, .slc 1 (.t 138) none (some (.t 141))⟩,
  ⟨none, none, .st 1 (.t 3) (.t 142)⟩]
def rBicliqueSidesEach1X13 : List O := [
  ⟨(some 22), none, .mv (.t 10)⟩,
  ⟨(some 23), none, .mv (.t 10)⟩,
  ⟨(some 24), none, .bin .sub (.t 23) (.k (.int .u64 1))⟩,
  ⟨(some 25), none, .bin .and (.t 22) (.t 24)⟩,
  ⟨(some 10), none, .mv (.t 25)⟩]
def lBicliqueSidesEach1X0 : C := (.seq (.seq (.reg rBicliqueSidesEach1X2 false [] [0, 1, 2, 3, 4, 5, 6, 10, 21]) (.cond (.t 21) .skip (.exit 0))) (.seq (.blk 1 (.seq (.reg rBicliqueSidesEach1X3 false [] [0, 1, 2, 3, 4, 5, 6, 10, 11]) (.seq (.reg rBicliqueSidesEach1X4 false [] [0, 1, 2, 3, 4, 5, 6, 10, 11, 12]) (.seq (.seq (.reg rBicliqueSidesEach1X5 false [] [0, 1, 2, 3, 4, 5, 6, 10, 11, 12, 55]) (.cond (.t 55) (.exit 1) .skip)) (.seq (.reg rBicliqueSidesEach1X6 false [] [0, 1, 2, 3, 4, 5, 6, 10, 11, 12]) (.seq (.reg rBicliqueSidesEach1X7 true [(15, 15), (0, 1), (0, 2), (0, 3), (1, 3), (0, 4), (3, 4), (0, 5), (0, 6), (1, 6), (0, 7), (0, 9), (1, 9), (2, 9), (3, 9), (4, 9), (5, 9), (6, 9), (7, 9), (8, 9), (0, 11), (3, 11), (6, 11), (8, 11), (9, 11), (10, 11), (0, 12), (3, 12), (6, 12), (8, 12), (9, 12), (10, 12)] [0, 1, 2, 3, 4, 5, 6, 10, 11, 12, 13, 14]) (.seq (.seq (.reg rBicliqueSidesEach1X8 true [(10, 10)] [0, 1, 2, 3, 4, 5, 6, 10, 11, 12, 13, 14, 90]) (.cond (.t 90) (.exit 1) .skip)) (.seq (.reg rBicliqueSidesEach1X9 false [] [0, 1, 2, 3, 4, 5, 6, 10, 11, 12, 13, 14]) (.seq (.seq (.reg rBicliqueSidesEach1X10 true [(2, 2), (3, 3), (4, 4), (5, 5), (10, 10), (11, 11), (12, 12), (13, 13), (14, 14), (27, 27), (28, 28), (29, 29), (30, 30), (40, 40), (41, 41), (42, 42), (6, 8), (7, 8), (6, 9), (15, 16), (15, 17), (15, 18), (16, 18), (17, 18), (15, 19), (16, 19), (17, 19), (15, 20), (16, 20), (17, 20), (18, 20), (15, 21), (16, 21), (17, 21), (20, 21), (15, 22), (16, 22), (17, 22), (15, 23), (16, 23), (17, 23), (18, 23), (15, 24), (16, 24), (17, 24), (15, 25), (15, 26), (31, 32), (31, 33), (31, 34), (32, 34), (31, 35), (34, 35), (31, 36), (31, 37), (32, 37), (31, 38), (31, 39), (34, 39), (37, 39)] [0, 1, 2, 3, 4, 5, 6, 10, 137]) (.cond (.t 137) (.seq (.reg rBicliqueSidesEach1X11 false [] [9]) .ret) .skip)) (.reg rBicliqueSidesEach1X12 false [] [0, 1, 2, 3, 4, 5, 6, 10])))))))))) (.reg rBicliqueSidesEach1X13 false [] [0, 1, 2, 3, 4, 5, 6, 10])))
def rBicliqueSidesEach1X14 : List O := [
  ⟨(some 9), none, .mv (.k (.bool true))⟩]
def cBicliqueSidesEach1 : C := (.seq (.reg rBicliqueSidesEach1X0 false [] [0, 1, 2, 3, 4, 5, 6]) (.seq (.seq (.reg rBicliqueSidesEach1X1 true [(4, 4), (5, 5), (0, 2), (1, 2), (0, 3), (1, 3)] [0, 1, 2, 3, 4, 5, 6, 10]) (.blk 0 (.loop lBicliqueSidesEach1X0))) (.seq (.reg rBicliqueSidesEach1X14 false [] [9]) .ret)))
def qBicliqueSidesEach1 : AFn := ⟨143, 2, [.t 9], cBicliqueSidesEach1⟩
/- cohesion/biclique.behind -/
def rBicliqueBehindX0 : List O := [
  ⟨(some 2), none, .mv (.k (.int .u64 0))⟩]
def rBicliqueBehindX1 : List O := [
  ⟨(some 3), none, .mv (.t 0)⟩,
  ⟨(some 4), none, .len (.t 3)⟩,
  ⟨(some 5), none, .bin .eql (.t 4) (.k (.int .i64 0))⟩]
def rBicliqueBehindX2 : List O := [
  ⟨(some 2), none, .mv (.k (.int .u64 0))⟩]
def rBicliqueBehindX3 : List O := [
  ⟨(some 6), none, .mv (.t 0)⟩,
  ⟨(some 7), none, .mv (.t 0)⟩,
  ⟨(some 8), none, .len (.t 7)⟩,
  ⟨(some 9), none, .bin .sub (.t 8) (.k (.int .i64 1))⟩,
  ⟨(some 10), none, .ixa 1 (.t 6) (.t 9)⟩,
  ⟨(some 11), none, .ld none (.t 10)⟩,
  ⟨(some 12), none, .bin .shl (.k (.int .u64 2)) (.t 11)⟩,
  ⟨(some 13), none, .bin .sub (.t 12) (.k (.int .u64 1))⟩,
  ⟨(some 2), none, .mv (.t 13)⟩]
def cBicliqueBehind : C := (.seq (.reg rBicliqueBehindX0 false [] [0]) (.seq (.seq (.reg rBicliqueBehindX1 false [] [0, 5]) (.cond (.t 5) (.seq (.reg rBicliqueBehindX2 false [] [2]) .ret) .skip)) (.seq (.reg rBicliqueBehindX3 false [] [2]) .ret)))
def qBicliqueBehind : AFn := ⟨14, 1, [.t 2], cBicliqueBehind⟩
/- math/bits.TrailingZeros64 -/
def rMathBitsTrailingZeros64X0 : List O := [
  ⟨(some 2), none, .mv (.k (.int .i64 0))⟩]
def rMathBitsTrailingZeros64X1 : List O := [
  ⟨(some 3), none, .mv (.t 0)⟩,
  ⟨(some 4), none, .bin .eql (.t 3) (.k (.int .u64 0))⟩]
def rMathBitsTrailingZeros64X2 : List O := [
  ⟨(some 2), none, .mv (.k (.int .i64 64))⟩]
def rMathBitsTrailingZeros64X3 : List O := [
  ⟨(some 5), none, .mv (.t 0)⟩,
  ⟨(some 6), none, .mv (.t 0)⟩,
  ⟨(some 7), none, .un .neg (.t 6)⟩,
  ⟨(some 8), none, .bin .and (.t 5) (.t 7)⟩,
  ⟨(some 9), none, .bin .mul (.t 8) (.k (.int .u64 285870213051353865))⟩,
  ⟨(some 10), none, .bin .shr (.t 9) (.k (.int .u64 58))⟩,
  ⟨(some 11), none, .ixp 64 1 (.g 0) (.t 10)⟩,
  ⟨(some 12), none, .ld none (.t 11)⟩,
  ⟨(some 13), none, .cvt .i64 (.t 12)⟩,
  ⟨(some 2), none, .mv (.t 13)⟩]
def cMathBitsTrailingZeros64 : C := (.seq (.reg rMathBitsTrailingZeros64X0 false [] [0]) (.seq (.seq (.reg rMathBitsTrailingZeros64X1 false [] [0, 4]) (.cond (.t 4) (.seq (.reg rMathBitsTrailingZeros64X2 false [] [2]) .ret) .skip)) (.seq (.reg rMathBitsTrailingZeros64X3 false [] [2]) .ret)))
def qMathBitsTrailingZeros64 : AFn := ⟨14, 1, [.t 2], cMathBitsTrailingZeros64⟩
/- slices.Clone[[]int,int] -/
def rSlicesCloneIntIntX0 : List O := [
  ⟨(some 2), none, .mv (.k (.own 1 []))⟩]
def rSlicesCloneIntIntX1 : List O := [
  ⟨(some 3), none, .mv (.t 0)⟩,
  ⟨(some 4), none, .eq false .nsl (.t 3) (.k (.own 1 []))⟩]
def rSlicesCloneIntIntX2 : List O := [
  ⟨(some 2), none, .mv (.k (.own 1 []))⟩]
def rSlicesCloneIntIntX3 : List O := [
  ⟨(some 5), none, .bslice 1 0 [(.int .i64 0)] []⟩,
  ⟨(some 6), none, .mv (.t 0)⟩,
  ⟨(some 7), none, .app 1 (.t 5) (.t 6)⟩,
  ⟨(some 2), none, .mv (.t 7)⟩]
def cSlicesCloneIntInt : C := (.seq (.reg rSlicesCloneIntIntX0 false [] [0]) (.seq (.seq (.reg rSlicesCloneIntIntX1 false [] [0, 4]) (.cond (.t 4) (.seq (.reg rSlicesCloneIntIntX2 false [] [2]) .ret) .skip)) (.seq (.reg rSlicesCloneIntIntX3 false [] [2]) .ret)))
def qSlicesCloneIntInt : AFn := ⟨8, 1, [.t 2], cSlicesCloneIntInt⟩
/- (cohesion/biclique.sides).common -/
def rBicliqueSidesCommonX0 : List O := [
  ⟨(some 3), none, .box (.t 0)⟩,
  ⟨(some 6), none, .mv (.k (.int .u64 0))⟩]
def rBicliqueSidesCommonX1 : List O := [
  ⟨(some 7), none, .mv (.t 2)⟩,
  ⟨(some 8), none, .bin .neq (.t 7) (.k (.int .u64 0))⟩]
def rBicliqueSidesCommonX2 : List O := [
  ⟨(some 13), none, .mv (.t 1)⟩,
  ⟨(some 14), none, .fad 0 (.t 3)⟩,
  ⟨(some 15), none, .ld none (.t 14)⟩,
  ⟨(some 16), none, .mv (.t 2)⟩,
  ⟨(some 17), none, .call nMathBitsTrailingZeros64 [(.t 16)]⟩,
  ⟨(some 18), none, .ixa 1 (.t 15) (.t 17)⟩,
  ⟨(some 19), none, .ld none (.t 18)⟩,
  ⟨(some 20), none, .bin .and (.t 13) (.t 19)⟩,
  ⟨(some 1), none, .mv (.t 20)⟩]
def rBicliqueSidesCommonX3 : List O := [
  ⟨(some 9), none, .mv (.t 2)⟩,
  ⟨(some 10), none, .mv (.t 2)⟩,
  ⟨(some 11), none, .bin .sub (.t 10) (.k (.int .u64 1))⟩,
  ⟨(some 12), none, .bin .and (.t 9) (.t 11)⟩,
  ⟨(some 2), none, .mv (.t 12)⟩]
def lBicliqueSidesCommonX0 : C := (.seq (.seq (.reg rBicliqueSidesCommonX1 false [] [1, 2, 3, 8]) (.cond (.t 8) .skip (.exit 0))) (.seq (.blk 1 (.reg rBicliqueSidesCommonX2 true [(7, 7), (8, 8), (0, 2), (2, 3), (0, 4), (1, 4), (2, 4), (0, 6)] [1, 2, 3])) (.reg rBicliqueSidesCommonX3 false [] [1, 2, 3])))
def rBicliqueSidesCommonX4 : List O := [
  ⟨(some 21), none, .mv (.t 1)⟩,
  ⟨(some 6), none, .mv (.t 21)⟩]
def cBicliqueSidesCommon : C := (.seq (.reg rBicliqueSidesCommonX0 false [] [1, 2, 3]) (.seq (.blk 0 (.loop lBicliqueSidesCommonX0)) (.seq (.reg rBicliqueSidesCommonX4 false [] [6]) .ret)))
def qBicliqueSidesCommon : AFn := ⟨22, 3, [.t 6], cBicliqueSidesCommon⟩
/- cohesion/cohesionref03.Before -/
def rRef03BeforeX0 : List O := [
  ⟨(some 2), none, .box (.t 0)⟩,
  ⟨(some 3), none, .box (.t 1)⟩,
  ⟨(some 4), none, .mv (.k (.bool false))⟩]
def rRef03BeforeX1 : List O := [
  ⟨(some 5), none, .fad 0 (.t 2)⟩,
  ⟨(some 6), none, .ld none (.t 5)⟩,
  ⟨(some 7), none, .fad 0 (.t 3)⟩,
  ⟨(some 8), none, .ld none (.t 7)⟩,
  ⟨(some 9), none, .bin .lss (.t 6) (.t 8)⟩,
  ⟨(some 10), none, .mv (.t 9)⟩,
  ⟨(some 11), (some (10, false)), .fad 0 (.t 2)⟩,
  ⟨(some 12), (some (10, false)), .ld none (.t 11)⟩,
  ⟨(some 13), (some (10, false)), .fad 0 (.t 3)⟩,
  ⟨(some 14), (some (10, false)), .ld none (.t 13)⟩,
  ⟨(some 15), (some (10, false)), .bin .eql (.t 12) (.t 14)⟩,
  ⟨(some 16), (some (10, false)), .mv (.t 15)⟩,
  ⟨(some 17), (some (16, true)), .fad 1 (.t 2)⟩,
  ⟨(some 18), (some (16, true)), .ld none (.t 17)⟩,
  ⟨(some 19), (some (16, true)), .fad 1 (.t 3)⟩,
  ⟨(some 20), (some (16, true)), .ld none (.t 19)⟩,
  ⟨(some 21), (some (16, true)), .bin .lss (.t 18) (.t 20)⟩,
  ⟨(some 22), (some (10, false)), .pick (.t 16) (.t 21) (.k (.bool false))⟩,
  ⟨(some 23), none, .pick (.t 10) (.k (.bool true)) (.t 22)⟩,
  ⟨(some 4), none, .mv (.t 23)⟩]
def cRef03Before : C := (.seq (.reg rRef03BeforeX0 false [] [2, 3]) (.seq (.reg rRef03BeforeX1 false [] [4]) .ret))
def qRef03Before : AFn := ⟨24, 2, [.t 4], cRef03Before⟩
/- cohesion/graph.Order -/
def rGraphOrderX0 : List O := [
  ⟨(some 2), none, .box (.t 0)⟩,
  ⟨(some 3), none, .box (.t 1)⟩,
  ⟨(some 4), none, .mv (.k (.int .i64 0))⟩]
def rGraphOrderX1 : List O := [
  ⟨(some 5), none, .fad 0 (.t 2)⟩,
  ⟨(some 6), none, .ld none (.t 5)⟩,
  ⟨(some 7), none, .fad 0 (.t 3)⟩,
  ⟨(some 8), none, .ld none (.t 7)⟩,
  ⟨(some 9), none, .call nCmpCompareInt [(.t 6), (.t 8)]⟩,
  ⟨(some 10), none, .fad 1 (.t 2)⟩,
  ⟨(some 11), none, .ld none (.t 10)⟩,
  ⟨(some 12), none, .fad 1 (.t 3)⟩,
  ⟨(some 13), none, .ld none (.t 12)⟩,
  ⟨(some 14), none, .call nCmpCompareInt [(.t 11), (.t 13)]⟩,
  ⟨(some 15), none, .bslice 1 2 [(.int .i64 0)] [(0, 1, (.t 9)), (1, 1, (.t 14))]⟩,
  ⟨(some 16), none, .call nCmpOrInt [(.t 15)]⟩,
  ⟨(some 4), none, .mv (.t 16)⟩]
def cGraphOrder : C := (.seq (.reg rGraphOrderX0 false [] [2, 3]) (.seq (.reg rGraphOrderX1 true [(9, 9), (10, 10), (11, 11), (12, 12), (1, 2), (0, 3), (1, 3), (1, 5), (3, 5), (4, 5), (0, 6), (1, 6), (2, 6), (3, 6), (4, 6), (1, 7), (3, 7), (4, 7), (6, 7), (0, 8), (1, 8), (2, 8), (3, 8), (4, 8), (5, 8), (6, 8)] [4]) .ret))
def qGraphOrder : AFn := ⟨17, 2, [.t 4], cGraphOrder⟩
/- slices.IndexFunc[[]cohesion/api.Edge,cohesion/api.Edge] -/
def rSlicesIndexFuncApiEdgeApiEdgeX0 : List O := [
  ⟨(some 4), none, .mv (.k (.int .i64 0))⟩]
def rSlicesIndexFuncApiEdgeApiEdgeX1 : List O := [
  ⟨(some 6), none, .mv (.t 0)⟩,
  ⟨(some 7), none, .len (.t 6)⟩,
  ⟨(some 8), none, .mv (.k (.int .i64 0))⟩]
def rSlicesIndexFuncApiEdgeApiEdgeX2 : List O := [
  ⟨(some 9), none, .bin .lss (.t 8) (.t 7)⟩]
def rSlicesIndexFuncApiEdgeApiEdgeX3 : List O := [
  ⟨(some 10), none, .mv (.t 8)⟩,
  ⟨(some 5), none, .mv (.t 10)⟩]
def rSlicesIndexFuncApiEdgeApiEdgeX4 : List O := [
  ⟨(some 11), none, .mv (.t 1)⟩,
  ⟨(some 12), none, .mv (.t 0)⟩,
  ⟨(some 13), none, .mv (.t 5)⟩,
  ⟨(some 14), none, .ixa 2 (.t 12) (.t 13)⟩,
  ⟨(some 15), none, .ld (some 2) (.t 14)⟩,
  ⟨(some 16), none, .callv (.t 11) [(.t 15)]⟩]
def rSlicesIndexFuncApiEdgeApiEdgeX5 : List O := [
  ⟨(some 17), none, .mv (.t 5)⟩,
  ⟨(some 4), none, .mv (.t 17)⟩]
def rSlicesIndexFuncApiEdgeApiEdgeX6 : List O := [
  ⟨(some 18), none, .bin .add (.t 8) (.k (.int .i64 1))⟩,
  ⟨(some 8), none, .mv (.t 18)⟩]
def lSlicesIndexFuncApiEdgeApiEdgeX0 : C := (.seq (.reg rSlicesIndexFuncApiEdgeApiEdgeX2 false [] [0, 1, 7, 8, 9]) (.seq (.cond (.t 9) .skip (.exit 0)) (.seq (.blk 1 (.seq (.reg rSlicesIndexFuncApiEdgeApiEdgeX3 false [] [0, 1, 5, 7, 8]) (.seq (.reg rSlicesIndexFuncApiEdgeApiEdgeX4 false [] [0, 1, 5, 7, 8, 16]) (.cond (.t 16) (.seq (.reg rSlicesIndexFuncApiEdgeApiEdgeX5 false [] [4]) .ret) .skip)))) (.reg rSlicesIndexFuncApiEdgeApiEdgeX6 false [] [0, 1, 7, 8]))))
def rSlicesIndexFuncApiEdgeApiEdgeX7 : List O := [
  ⟨(some 4), none, .mv (.k (.int .i64 (-1)))⟩]
def cSlicesIndexFuncApiEdgeApiEdge : C := (.seq (.reg rSlicesIndexFuncApiEdgeApiEdgeX0 false [] [0, 1]) (.seq (.seq (.reg rSlicesIndexFuncApiEdgeApiEdgeX1 false [] [0, 1, 7, 8]) (.blk 0 (.loop lSlicesIndexFuncApiEdgeApiEdgeX0))) (.seq (.reg rSlicesIndexFuncApiEdgeApiEdgeX7 false [] [4]) .ret)))
def qSlicesIndexFuncApiEdgeApiEdge : AFn := ⟨19, 2, [.t 4], cSlicesIndexFuncApiEdgeApiEdge⟩
/- cmp.Or[int] -/
def rCmpOrIntX0 : List O := [
  ⟨(some 2), none, .mv (.k (.int .i64 0))⟩]
def rCmpOrIntX1 : List O := [
  ⟨(some 3), none, .mv (.k (.int .i64 0))⟩]
def rCmpOrIntX2 : List O := [
  ⟨(some 6), none, .mv (.t 0)⟩,
  ⟨(some 7), none, .len (.t 6)⟩,
  ⟨(some 8), none, .mv (.k (.int .i64 0))⟩]
def rCmpOrIntX3 : List O := [
  ⟨(some 9), none, .bin .lss (.t 8) (.t 7)⟩]
def rCmpOrIntX4 : List O := [
  ⟨(some 10), none, .ixa 1 (.t 6) (.t 8)⟩,
  ⟨(some 11), none, .ld none (.t 10)⟩,
  ⟨(some 5), none, .mv (.t 11)⟩]
def rCmpOrIntX5 : List O := [
  ⟨(some 12), none, .mv (.t 5)⟩,
  ⟨(some 13), none, .mv (.t 3)⟩,
  ⟨(some 14), none, .bin .neq (.t 12) (.t 13)⟩]
def rCmpOrIntX6 : List O := [
  ⟨(some 15), none, .mv (.t 5)⟩,
  ⟨(some 2), none, .mv (.t 15)⟩]
def rCmpOrIntX7 : List O := [
  ⟨(some 16), none, .bin .add (.t 8) (.k (.int .i64 1))⟩,
  ⟨(some 8), none, .mv (.t 16)⟩]
def lCmpOrIntX0 : C := (.seq (.reg rCmpOrIntX3 false [] [3, 6, 7, 8, 9]) (.seq (.cond (.t 9) .skip (.exit 0)) (.seq (.blk 1 (.seq (.reg rCmpOrIntX4 false [] [3, 5, 6, 7, 8]) (.seq (.reg rCmpOrIntX5 false [] [3, 5, 6, 7, 8, 14]) (.cond (.t 14) (.seq (.reg rCmpOrIntX6 false [] [2]) .ret) .skip)))) (.reg rCmpOrIntX7 false [] [3, 6, 7, 8]))))
def rCmpOrIntX8 : List O := [
  ⟨(some 17), none, .mv (.t 3)⟩,
  ⟨(some 2), none, .mv (.t 17)⟩]
def cCmpOrInt : C := (.seq (.reg rCmpOrIntX0 false [] [0]) (.seq (.reg rCmpOrIntX1 false [] [0, 3]) (.seq (.seq (.reg rCmpOrIntX2 false [] [3, 6, 7, 8]) (.blk 0 (.loop lCmpOrIntX0))) (.seq (.reg rCmpOrIntX8 false [] [2]) .ret))))
def qCmpOrInt : AFn := ⟨18, 1, [.t 2], cCmpOrInt⟩
/- cmp.Compare[int] -/
def rCmpCompareIntX0 : List O := [
  ⟨(some 4), none, .mv (.k (.int .i64 0))⟩]
def rCmpCompareIntX1 : List O := [
  ⟨(some 7), none, .mv (.t 0)⟩,
  ⟨(some 8), none, .call nCmpIsNaNInt [(.t 7)]⟩,
  ⟨(some 5), none, .mv (.t 8)⟩]
def rCmpCompareIntX2 : List O := [
  ⟨(some 9), none, .mv (.t 1)⟩,
  ⟨(some 10), none, .call nCmpIsNaNInt [(.t 9)]⟩,
  ⟨(some 6), none, .mv (.t 10)⟩]
def rCmpCompareIntX3 : List O := [
  ⟨(some 11), none, .mv (.t 5)⟩]
def rCmpCompareIntX4 : List O := [
  ⟨(some 12), none, .mv (.t 6)⟩]
def rCmpCompareIntX5 : List O := [
  ⟨(some 4), none, .mv (.k (.int .i64 0))⟩]
def rCmpCompareIntX6 : List O := [
  ⟨(some 4), none, .mv (.k (.int .i64 (-1)))⟩]
def rCmpCompareIntX7 : List O := [
  ⟨(some 13), none, .mv (.t 6)⟩]
def rCmpCompareIntX8 : List O := [
  ⟨(some 4), none, .mv (.k (.int .i64 1))⟩]
def rCmpCompareIntX9 : List O := [
  ⟨(some 14), none, .mv (.t 0)⟩,
  ⟨(some 15), none, .mv (.t 1)⟩,
  ⟨(some 16), none, .bin .lss (.t 14) (.t 15)⟩]
def rCmpCompareIntX10 : List O := [
  ⟨(some 4), none, .mv (.k (.int .i64 (-1)))⟩]
def rCmpCompareIntX11 : List O := [
  ⟨(some 17), none, .mv (.t 0)⟩,
  ⟨(some 18), none, .mv (.t 1)⟩,
  ⟨(some 19), none, .bin .gtr (.t 17) (.t 18)⟩]
def rCmpCompareIntX12 : List O := [
  ⟨(some 4), none, .mv (.k (.int .i64 1))⟩]
def rCmpCompareIntX13 : List O := [
  ⟨(some 4), none, .mv (.k (.int .i64 0))⟩]
def cCmpCompareInt : C := (.seq (.reg rCmpCompareIntX0 false [] [0, 1]) (.seq (.reg rCmpCompareIntX1 false [] [0, 1, 5]) (.seq (.reg rCmpCompareIntX2 false [] [0, 1, 5, 6]) (.seq (.seq (.reg rCmpCompareIntX3 false [] [0, 1, 6, 11]) (.cond (.t 11) (.seq (.seq (.reg rCmpCompareIntX4 false [] [12]) (.cond (.t 12) (.seq (.reg rCmpCompareIntX5 false [] [4]) .ret) .skip)) (.seq (.reg rCmpCompareIntX6 false [] [4]) .ret)) .skip)) (.seq (.seq (.reg rCmpCompareIntX7 false [] [0, 1, 13]) (.cond (.t 13) (.seq (.reg rCmpCompareIntX8 false [] [4]) .ret) .skip)) (.seq (.seq (.reg rCmpCompareIntX9 false [] [0, 1, 16]) (.cond (.t 16) (.seq (.reg rCmpCompareIntX10 false [] [4]) .ret) .skip)) (.seq (.seq (.reg rCmpCompareIntX11 false [] [19]) (.cond (.t 19) (.seq (.reg rCmpCompareIntX12 false [] [4]) .ret) .skip)) (.seq (.reg rCmpCompareIntX13 false [] [4]) .ret))))))))
def qCmpCompareInt : AFn := ⟨20, 2, [.t 4], cCmpCompareInt⟩
/- cmp.isNaN[int] -/
def rCmpIsNaNIntX0 : List O := [
  ⟨(some 2), none, .mv (.k (.bool false))⟩]
def rCmpIsNaNIntX1 : List O := [
  ⟨(some 3), none, .mv (.t 0)⟩,
  ⟨(some 4), none, .mv (.t 0)⟩,
  ⟨(some 5), none, .bin .neq (.t 3) (.t 4)⟩,
  ⟨(some 2), none, .mv (.t 5)⟩]
def cCmpIsNaNInt : C := (.seq (.reg rCmpIsNaNIntX0 false [] [0]) (.seq (.reg rCmpIsNaNIntX1 false [] [2]) .ret))
def qCmpIsNaNInt : AFn := ⟨6, 1, [.t 2], cCmpIsNaNInt⟩
abbrev Md := Go.Bm.Md
abbrev Cfg := Go.Bm.Cfg
def look : List (Nat × Md × AFn) → Nat → Option (Md × AFn)
  | [], _ => none
  | (j, m, q) :: r, i => if i = j then some (m, q) else look r i
def fns : List (Nat × Md × AFn) := [
  (nLaw27BicliqueTurns, ⟨false, false, true⟩, qLaw27BicliqueTurns),
  (nLaw27BicliqueGoes, ⟨false, false, true⟩, qLaw27BicliqueGoes),
  (nMakeFew, ⟨false, false, true⟩, qMakeFew),
  (nLaw27Awake, ⟨false, false, true⟩, qLaw27Awake),
  (nFieldSided, ⟨true, false, false⟩, qFieldSided),
  (nMakeNew, ⟨true, false, false⟩, qMakeNew),
  (nRef02Minus, ⟨false, false, false⟩, qRef02Minus),
  (nRef02Range, ⟨false, false, false⟩, qRef02Range),
  (nBicliqueAll, ⟨false, false, false⟩, qBicliqueAll),
  (nRef27Same, ⟨false, false, true⟩, qRef27Same),
  (nBicliqueBest, ⟨false, false, false⟩, qBicliqueBest),
  (nBicliqueNext, ⟨false, false, false⟩, qBicliqueNext),
  (nBicliqueMaximal, ⟨false, false, true⟩, qBicliqueMaximal),
  (nRef02Union, ⟨false, false, false⟩, qRef02Union),
  (nRef02Has, ⟨false, false, true⟩, qRef02Has),
  (nMakeSet, ⟨true, false, false⟩, qMakeSet),
  (nBicliqueCheck, ⟨false, false, true⟩, qBicliqueCheck),
  (nMakeDeckNext, ⟨true, false, false⟩, qMakeDeckNext),
  (nRef03Of, ⟨false, false, false⟩, qRef03Of),
  (nRef02Cmp, ⟨false, false, true⟩, qRef02Cmp),
  (nRef02Of, ⟨false, false, false⟩, qRef02Of),
  (nBicliqueOf, ⟨false, false, false⟩, qBicliqueOf),
  (nBicliqueSidesEach, ⟨true, false, false⟩, qBicliqueSidesEach),
  (nBicliqueAll1, ⟨true, false, false⟩, qBicliqueAll1),
  (nBicliqueBest1, ⟨true, false, false⟩, qBicliqueBest1),
  (nBicliqueNext1, ⟨true, false, false⟩, qBicliqueNext1),
  (nBicliqueMaximal1, ⟨true, false, false⟩, qBicliqueMaximal1),
  (nNodesetValid, ⟨false, false, true⟩, qNodesetValid),
  (nBicliqueMask, ⟨false, false, true⟩, qBicliqueMask),
  (nBicliqueSidesOnRight, ⟨false, false, true⟩, qBicliqueSidesOnRight),
  (nBicliqueSidesOnLeft, ⟨false, false, true⟩, qBicliqueSidesOnLeft),
  (nBicliqueList, ⟨false, false, false⟩, qBicliqueList),
  (nRef03Edge, ⟨false, false, false⟩, qRef03Edge),
  (nGraphCheck, ⟨false, false, true⟩, qGraphCheck),
  (nSlicesContainsFuncApiEdgeApiEdge, ⟨true, false, false⟩, qSlicesContainsFuncApiEdgeApiEdge),
  (nBicliqueCheck1, ⟨true, false, false⟩, qBicliqueCheck1),
  (nMakeMod, ⟨false, false, true⟩, qMakeMod),
  (nRef03Ends, ⟨false, false, true⟩, qRef03Ends),
  (nRef03With, ⟨false, false, false⟩, qRef03With),
  (nRef02Put, ⟨false, false, false⟩, qRef02Put),
  (nBicliqueSidesEach1, ⟨true, false, false⟩, qBicliqueSidesEach1),
  (nBicliqueBehind, ⟨false, false, true⟩, qBicliqueBehind),
  (nMathBitsTrailingZeros64, ⟨false, false, true⟩, qMathBitsTrailingZeros64),
  (nSlicesCloneIntInt, ⟨false, true, true⟩, qSlicesCloneIntInt),
  (nBicliqueSidesCommon, ⟨false, false, true⟩, qBicliqueSidesCommon),
  (nRef03Before, ⟨false, false, true⟩, qRef03Before),
  (nGraphOrder, ⟨false, false, true⟩, qGraphOrder),
  (nSlicesIndexFuncApiEdgeApiEdge, ⟨true, false, false⟩, qSlicesIndexFuncApiEdgeApiEdge),
  (nCmpOrInt, ⟨false, false, true⟩, qCmpOrInt),
  (nCmpCompareInt, ⟨false, false, true⟩, qCmpCompareInt),
  (nCmpIsNaNInt, ⟨false, false, true⟩, qCmpIsNaNInt)]
def nTab : Nat := 0
def tabZ : List Int := [0, 1, 56, 2, 57, 49, 28, 3, 61, 58, 42, 50, 38, 29, 17, 4, 62, 47, 59, 36, 45, 43, 51, 22, 53, 39, 33, 30, 24, 18, 12, 5, 63, 55, 48, 27, 60, 41, 37, 16, 46, 35, 44, 21, 52, 32, 23, 11, 54, 26, 40, 15, 34, 20, 31, 10, 25, 14, 19, 9, 13, 8, 7, 6]
def tabA : List AV := tabZ.map (AV.int .u8)
def cfg : Cfg := ⟨look fns, fun i => if i = nTab then tabA else [], fun _ => none, fun _ => none⟩
theorem kLaw27BicliqueTurns : chkFB Go.Proofs.Tryd.prog Go.Proofs.Tryd.f3 qLaw27BicliqueTurns = true := by kernel_rfl
theorem kLaw27BicliqueGoes : chkFB Go.Proofs.Tryd.prog Go.Proofs.Tryd.f5 qLaw27BicliqueGoes = true := by kernel_rfl
theorem kMakeFew : chkFB Go.Proofs.Tryd.prog Go.Proofs.Tryd.f8 qMakeFew = true := by kernel_rfl
theorem kLaw27Awake : chkFB Go.Proofs.Tryd.prog Go.Proofs.Tryd.f9 qLaw27Awake = true := by kernel_rfl
theorem kFieldSided : chkFB Go.Proofs.Tryd.prog Go.Proofs.Tryd.f10 qFieldSided = true := by kernel_rfl
theorem kMakeNew : chkFB Go.Proofs.Tryd.prog Go.Proofs.Tryd.f11 qMakeNew = true := by kernel_rfl
theorem kRef02Minus : chkFB Go.Proofs.Tryd.prog Go.Proofs.Tryd.f12 qRef02Minus = true := by kernel_rfl
theorem kRef02Range : chkFB Go.Proofs.Tryd.prog Go.Proofs.Tryd.f13 qRef02Range = true := by kernel_rfl
theorem kBicliqueAll : chkFB Go.Proofs.Tryd.prog Go.Proofs.Tryd.f14 qBicliqueAll = true := by kernel_rfl
theorem kRef27Same : chkFB Go.Proofs.Tryd.prog Go.Proofs.Tryd.f15 qRef27Same = true := by kernel_rfl
theorem kBicliqueBest : chkFB Go.Proofs.Tryd.prog Go.Proofs.Tryd.f16 qBicliqueBest = true := by kernel_rfl
theorem kBicliqueNext : chkFB Go.Proofs.Tryd.prog Go.Proofs.Tryd.f17 qBicliqueNext = true := by kernel_rfl
theorem kBicliqueMaximal : chkFB Go.Proofs.Tryd.prog Go.Proofs.Tryd.f18 qBicliqueMaximal = true := by kernel_rfl
theorem kRef02Union : chkFB Go.Proofs.Tryd.prog Go.Proofs.Tryd.f19 qRef02Union = true := by kernel_rfl
theorem kRef02Has : chkFB Go.Proofs.Tryd.prog Go.Proofs.Tryd.f20 qRef02Has = true := by kernel_rfl
theorem kMakeSet : chkFB Go.Proofs.Tryd.prog Go.Proofs.Tryd.f22 qMakeSet = true := by kernel_rfl
theorem kBicliqueCheck : chkFB Go.Proofs.Tryd.prog Go.Proofs.Tryd.f27 qBicliqueCheck = true := by kernel_rfl
theorem kMakeDeckNext : chkFB Go.Proofs.Tryd.prog Go.Proofs.Tryd.f32 qMakeDeckNext = true := by kernel_rfl
theorem kRef03Of : chkFB Go.Proofs.Tryd.prog Go.Proofs.Tryd.f36 qRef03Of = true := by kernel_rfl
theorem kRef02Cmp : chkFB Go.Proofs.Tryd.prog Go.Proofs.Tryd.f37 qRef02Cmp = true := by kernel_rfl
theorem kRef02Of : chkFB Go.Proofs.Tryd.prog Go.Proofs.Tryd.f38 qRef02Of = true := by kernel_rfl
theorem kBicliqueOf : chkFB Go.Proofs.Tryd.prog Go.Proofs.Tryd.f39 qBicliqueOf = true := by kernel_rfl
theorem kBicliqueSidesEach : chkFB Go.Proofs.Tryd.prog Go.Proofs.Tryd.f40 qBicliqueSidesEach = true := by kernel_rfl
theorem kBicliqueAll1 : chkFB Go.Proofs.Tryd.prog Go.Proofs.Tryd.f41 qBicliqueAll1 = true := by kernel_rfl
theorem kBicliqueBest1 : chkFB Go.Proofs.Tryd.prog Go.Proofs.Tryd.f42 qBicliqueBest1 = true := by kernel_rfl
theorem kBicliqueNext1 : chkFB Go.Proofs.Tryd.prog Go.Proofs.Tryd.f43 qBicliqueNext1 = true := by kernel_rfl
theorem kBicliqueMaximal1 : chkFB Go.Proofs.Tryd.prog Go.Proofs.Tryd.f44 qBicliqueMaximal1 = true := by kernel_rfl
theorem kNodesetValid : chkFB Go.Proofs.Tryd.prog Go.Proofs.Tryd.f45 qNodesetValid = true := by kernel_rfl
theorem kBicliqueMask : chkFB Go.Proofs.Tryd.prog Go.Proofs.Tryd.f46 qBicliqueMask = true := by kernel_rfl
theorem kBicliqueSidesOnRight : chkFB Go.Proofs.Tryd.prog Go.Proofs.Tryd.f47 qBicliqueSidesOnRight = true := by kernel_rfl
theorem kBicliqueSidesOnLeft : chkFB Go.Proofs.Tryd.prog Go.Proofs.Tryd.f48 qBicliqueSidesOnLeft = true := by kernel_rfl
theorem kBicliqueList : chkFB Go.Proofs.Tryd.prog Go.Proofs.Tryd.f50 qBicliqueList = true := by kernel_rfl
theorem kRef03Edge : chkFB Go.Proofs.Tryd.prog Go.Proofs.Tryd.f52 qRef03Edge = true := by kernel_rfl
theorem kGraphCheck : chkFB Go.Proofs.Tryd.prog Go.Proofs.Tryd.f53 qGraphCheck = true := by kernel_rfl
theorem kSlicesContainsFuncApiEdgeApiEdge : chkFB Go.Proofs.Tryd.prog Go.Proofs.Tryd.f54 qSlicesContainsFuncApiEdgeApiEdge = true := by kernel_rfl
theorem kBicliqueCheck1 : chkFB Go.Proofs.Tryd.prog Go.Proofs.Tryd.f55 qBicliqueCheck1 = true := by kernel_rfl
theorem kMakeMod : chkFB Go.Proofs.Tryd.prog Go.Proofs.Tryd.f60 qMakeMod = true := by kernel_rfl
theorem kRef03Ends : chkFB Go.Proofs.Tryd.prog Go.Proofs.Tryd.f61 qRef03Ends = true := by kernel_rfl
theorem kRef03With : chkFB Go.Proofs.Tryd.prog Go.Proofs.Tryd.f62 qRef03With = true := by kernel_rfl
theorem kRef02Put : chkFB Go.Proofs.Tryd.prog Go.Proofs.Tryd.f63 qRef02Put = true := by kernel_rfl
theorem kBicliqueSidesEach1 : chkFB Go.Proofs.Tryd.prog Go.Proofs.Tryd.f64 qBicliqueSidesEach1 = true := by kernel_rfl
theorem kBicliqueBehind : chkFB Go.Proofs.Tryd.prog Go.Proofs.Tryd.f65 qBicliqueBehind = true := by kernel_rfl
theorem kMathBitsTrailingZeros64 : chkFB Go.Proofs.Tryd.prog Go.Proofs.Tryd.f66 qMathBitsTrailingZeros64 = true := by kernel_rfl
theorem kSlicesCloneIntInt : chkFB Go.Proofs.Tryd.prog Go.Proofs.Tryd.f67 qSlicesCloneIntInt = true := by kernel_rfl
theorem kBicliqueSidesCommon : chkFB Go.Proofs.Tryd.prog Go.Proofs.Tryd.f68 qBicliqueSidesCommon = true := by kernel_rfl
theorem kRef03Before : chkFB Go.Proofs.Tryd.prog Go.Proofs.Tryd.f70 qRef03Before = true := by kernel_rfl
theorem kGraphOrder : chkFB Go.Proofs.Tryd.prog Go.Proofs.Tryd.f71 qGraphOrder = true := by kernel_rfl
theorem kSlicesIndexFuncApiEdgeApiEdge : chkFB Go.Proofs.Tryd.prog Go.Proofs.Tryd.f72 qSlicesIndexFuncApiEdgeApiEdge = true := by kernel_rfl
theorem kCmpOrInt : chkFB Go.Proofs.Tryd.prog Go.Proofs.Tryd.f76 qCmpOrInt = true := by kernel_rfl
theorem kCmpCompareInt : chkFB Go.Proofs.Tryd.prog Go.Proofs.Tryd.f77 qCmpCompareInt = true := by kernel_rfl
theorem kCmpIsNaNInt : chkFB Go.Proofs.Tryd.prog Go.Proofs.Tryd.f80 qCmpIsNaNInt = true := by kernel_rfl
theorem look_mem : ∀ {l : List (Nat × Md × AFn)} {f : Nat} {m : Md} {q : AFn}, look l f = some (m, q) → (f, m, q) ∈ l
  | [], f, m, q, h => by simp [look] at h
  | (j, m', q') :: r, f, m, q, h => by
    unfold look at h
    split at h
    · rename_i he; subst he; simp at h; obtain ⟨rfl, rfl⟩ := h; simp
    · exact List.mem_cons_of_mem _ (look_mem h)
def Good (p : Nat × Md × AFn) : Prop := ∃ fn, Go.Proofs.Tryd.prog.funcs[p.1]? = some fn ∧ chkFB Go.Proofs.Tryd.prog fn p.2.2 = true
def All (G : Nat × Md × AFn → Prop) : List (Nat × Md × AFn) → Prop
  | [] => True
  | p :: r => G p ∧ All G r
theorem All.get {G : Nat × Md × AFn → Prop} : ∀ {l : List (Nat × Md × AFn)}, All G l → ∀ p ∈ l, G p
  | [], _, p, h => by simp at h
  | q :: r, h, p, hp => by
    rcases List.mem_cons.1 hp with e | e
    · subst e; exact h.1
    · exact All.get h.2 p e
theorem allGood : All Good fns := ⟨⟨_, Go.Proofs.Tryd.func3, kLaw27BicliqueTurns⟩, ⟨_, Go.Proofs.Tryd.func5, kLaw27BicliqueGoes⟩, ⟨_, Go.Proofs.Tryd.func8, kMakeFew⟩, ⟨_, Go.Proofs.Tryd.func9, kLaw27Awake⟩, ⟨_, Go.Proofs.Tryd.func10, kFieldSided⟩, ⟨_, Go.Proofs.Tryd.func11, kMakeNew⟩, ⟨_, Go.Proofs.Tryd.func12, kRef02Minus⟩, ⟨_, Go.Proofs.Tryd.func13, kRef02Range⟩, ⟨_, Go.Proofs.Tryd.func14, kBicliqueAll⟩, ⟨_, Go.Proofs.Tryd.func15, kRef27Same⟩, ⟨_, Go.Proofs.Tryd.func16, kBicliqueBest⟩, ⟨_, Go.Proofs.Tryd.func17, kBicliqueNext⟩, ⟨_, Go.Proofs.Tryd.func18, kBicliqueMaximal⟩, ⟨_, Go.Proofs.Tryd.func19, kRef02Union⟩, ⟨_, Go.Proofs.Tryd.func20, kRef02Has⟩, ⟨_, Go.Proofs.Tryd.func22, kMakeSet⟩, ⟨_, Go.Proofs.Tryd.func27, kBicliqueCheck⟩, ⟨_, Go.Proofs.Tryd.func32, kMakeDeckNext⟩, ⟨_, Go.Proofs.Tryd.func36, kRef03Of⟩, ⟨_, Go.Proofs.Tryd.func37, kRef02Cmp⟩, ⟨_, Go.Proofs.Tryd.func38, kRef02Of⟩, ⟨_, Go.Proofs.Tryd.func39, kBicliqueOf⟩, ⟨_, Go.Proofs.Tryd.func40, kBicliqueSidesEach⟩, ⟨_, Go.Proofs.Tryd.func41, kBicliqueAll1⟩, ⟨_, Go.Proofs.Tryd.func42, kBicliqueBest1⟩, ⟨_, Go.Proofs.Tryd.func43, kBicliqueNext1⟩, ⟨_, Go.Proofs.Tryd.func44, kBicliqueMaximal1⟩, ⟨_, Go.Proofs.Tryd.func45, kNodesetValid⟩, ⟨_, Go.Proofs.Tryd.func46, kBicliqueMask⟩, ⟨_, Go.Proofs.Tryd.func47, kBicliqueSidesOnRight⟩, ⟨_, Go.Proofs.Tryd.func48, kBicliqueSidesOnLeft⟩, ⟨_, Go.Proofs.Tryd.func50, kBicliqueList⟩, ⟨_, Go.Proofs.Tryd.func52, kRef03Edge⟩, ⟨_, Go.Proofs.Tryd.func53, kGraphCheck⟩, ⟨_, Go.Proofs.Tryd.func54, kSlicesContainsFuncApiEdgeApiEdge⟩, ⟨_, Go.Proofs.Tryd.func55, kBicliqueCheck1⟩, ⟨_, Go.Proofs.Tryd.func60, kMakeMod⟩, ⟨_, Go.Proofs.Tryd.func61, kRef03Ends⟩, ⟨_, Go.Proofs.Tryd.func62, kRef03With⟩, ⟨_, Go.Proofs.Tryd.func63, kRef02Put⟩, ⟨_, Go.Proofs.Tryd.func64, kBicliqueSidesEach1⟩, ⟨_, Go.Proofs.Tryd.func65, kBicliqueBehind⟩, ⟨_, Go.Proofs.Tryd.func66, kMathBitsTrailingZeros64⟩, ⟨_, Go.Proofs.Tryd.func67, kSlicesCloneIntInt⟩, ⟨_, Go.Proofs.Tryd.func68, kBicliqueSidesCommon⟩, ⟨_, Go.Proofs.Tryd.func70, kRef03Before⟩, ⟨_, Go.Proofs.Tryd.func71, kGraphOrder⟩, ⟨_, Go.Proofs.Tryd.func72, kSlicesIndexFuncApiEdgeApiEdge⟩, ⟨_, Go.Proofs.Tryd.func76, kCmpOrInt⟩, ⟨_, Go.Proofs.Tryd.func77, kCmpCompareInt⟩, ⟨_, Go.Proofs.Tryd.func80, kCmpIsNaNInt⟩, trivial⟩
theorem cfgOK : CfgOKB Go.Proofs.Tryd.prog cfg := ⟨by kernel_rfl, fun f m q h => allGood.get _ (look_mem h)⟩
theorem gLaw27BicliqueTurns : cfg.fn nLaw27BicliqueTurns = some (⟨false, false, true⟩, qLaw27BicliqueTurns) := rfl
theorem gLaw27BicliqueGoes : cfg.fn nLaw27BicliqueGoes = some (⟨false, false, true⟩, qLaw27BicliqueGoes) := rfl
theorem gMakeFew : cfg.fn nMakeFew = some (⟨false, false, true⟩, qMakeFew) := rfl
theorem gLaw27Awake : cfg.fn nLaw27Awake = some (⟨false, false, true⟩, qLaw27Awake) := rfl
theorem gFieldSided : cfg.fn nFieldSided = some (⟨true, false, false⟩, qFieldSided) := rfl
theorem gMakeNew : cfg.fn nMakeNew = some (⟨true, false, false⟩, qMakeNew) := rfl
theorem gRef02Minus : cfg.fn nRef02Minus = some (⟨false, false, false⟩, qRef02Minus) := rfl
theorem gRef02Range : cfg.fn nRef02Range = some (⟨false, false, false⟩, qRef02Range) := rfl
theorem gBicliqueAll : cfg.fn nBicliqueAll = some (⟨false, false, false⟩, qBicliqueAll) := rfl
theorem gRef27Same : cfg.fn nRef27Same = some (⟨false, false, true⟩, qRef27Same) := rfl
theorem gBicliqueBest : cfg.fn nBicliqueBest = some (⟨false, false, false⟩, qBicliqueBest) := rfl
theorem gBicliqueNext : cfg.fn nBicliqueNext = some (⟨false, false, false⟩, qBicliqueNext) := rfl
theorem gBicliqueMaximal : cfg.fn nBicliqueMaximal = some (⟨false, false, true⟩, qBicliqueMaximal) := rfl
theorem gRef02Union : cfg.fn nRef02Union = some (⟨false, false, false⟩, qRef02Union) := rfl
theorem gRef02Has : cfg.fn nRef02Has = some (⟨false, false, true⟩, qRef02Has) := rfl
theorem gMakeSet : cfg.fn nMakeSet = some (⟨true, false, false⟩, qMakeSet) := rfl
theorem gBicliqueCheck : cfg.fn nBicliqueCheck = some (⟨false, false, true⟩, qBicliqueCheck) := rfl
theorem gMakeDeckNext : cfg.fn nMakeDeckNext = some (⟨true, false, false⟩, qMakeDeckNext) := rfl
theorem gRef03Of : cfg.fn nRef03Of = some (⟨false, false, false⟩, qRef03Of) := rfl
theorem gRef02Cmp : cfg.fn nRef02Cmp = some (⟨false, false, true⟩, qRef02Cmp) := rfl
theorem gRef02Of : cfg.fn nRef02Of = some (⟨false, false, false⟩, qRef02Of) := rfl
theorem gBicliqueOf : cfg.fn nBicliqueOf = some (⟨false, false, false⟩, qBicliqueOf) := rfl
theorem gBicliqueSidesEach : cfg.fn nBicliqueSidesEach = some (⟨true, false, false⟩, qBicliqueSidesEach) := rfl
theorem gBicliqueAll1 : cfg.fn nBicliqueAll1 = some (⟨true, false, false⟩, qBicliqueAll1) := rfl
theorem gBicliqueBest1 : cfg.fn nBicliqueBest1 = some (⟨true, false, false⟩, qBicliqueBest1) := rfl
theorem gBicliqueNext1 : cfg.fn nBicliqueNext1 = some (⟨true, false, false⟩, qBicliqueNext1) := rfl
theorem gBicliqueMaximal1 : cfg.fn nBicliqueMaximal1 = some (⟨true, false, false⟩, qBicliqueMaximal1) := rfl
theorem gNodesetValid : cfg.fn nNodesetValid = some (⟨false, false, true⟩, qNodesetValid) := rfl
theorem gBicliqueMask : cfg.fn nBicliqueMask = some (⟨false, false, true⟩, qBicliqueMask) := rfl
theorem gBicliqueSidesOnRight : cfg.fn nBicliqueSidesOnRight = some (⟨false, false, true⟩, qBicliqueSidesOnRight) := rfl
theorem gBicliqueSidesOnLeft : cfg.fn nBicliqueSidesOnLeft = some (⟨false, false, true⟩, qBicliqueSidesOnLeft) := rfl
theorem gBicliqueList : cfg.fn nBicliqueList = some (⟨false, false, false⟩, qBicliqueList) := rfl
theorem gRef03Edge : cfg.fn nRef03Edge = some (⟨false, false, false⟩, qRef03Edge) := rfl
theorem gGraphCheck : cfg.fn nGraphCheck = some (⟨false, false, true⟩, qGraphCheck) := rfl
theorem gSlicesContainsFuncApiEdgeApiEdge : cfg.fn nSlicesContainsFuncApiEdgeApiEdge = some (⟨true, false, false⟩, qSlicesContainsFuncApiEdgeApiEdge) := rfl
theorem gBicliqueCheck1 : cfg.fn nBicliqueCheck1 = some (⟨true, false, false⟩, qBicliqueCheck1) := rfl
theorem gMakeMod : cfg.fn nMakeMod = some (⟨false, false, true⟩, qMakeMod) := rfl
theorem gRef03Ends : cfg.fn nRef03Ends = some (⟨false, false, true⟩, qRef03Ends) := rfl
theorem gRef03With : cfg.fn nRef03With = some (⟨false, false, false⟩, qRef03With) := rfl
theorem gRef02Put : cfg.fn nRef02Put = some (⟨false, false, false⟩, qRef02Put) := rfl
theorem gBicliqueSidesEach1 : cfg.fn nBicliqueSidesEach1 = some (⟨true, false, false⟩, qBicliqueSidesEach1) := rfl
theorem gBicliqueBehind : cfg.fn nBicliqueBehind = some (⟨false, false, true⟩, qBicliqueBehind) := rfl
theorem gMathBitsTrailingZeros64 : cfg.fn nMathBitsTrailingZeros64 = some (⟨false, false, true⟩, qMathBitsTrailingZeros64) := rfl
theorem gSlicesCloneIntInt : cfg.fn nSlicesCloneIntInt = some (⟨false, true, true⟩, qSlicesCloneIntInt) := rfl
theorem gBicliqueSidesCommon : cfg.fn nBicliqueSidesCommon = some (⟨false, false, true⟩, qBicliqueSidesCommon) := rfl
theorem gRef03Before : cfg.fn nRef03Before = some (⟨false, false, true⟩, qRef03Before) := rfl
theorem gGraphOrder : cfg.fn nGraphOrder = some (⟨false, false, true⟩, qGraphOrder) := rfl
theorem gSlicesIndexFuncApiEdgeApiEdge : cfg.fn nSlicesIndexFuncApiEdgeApiEdge = some (⟨true, false, false⟩, qSlicesIndexFuncApiEdgeApiEdge) := rfl
theorem gCmpOrInt : cfg.fn nCmpOrInt = some (⟨false, false, true⟩, qCmpOrInt) := rfl
theorem gCmpCompareInt : cfg.fn nCmpCompareInt = some (⟨false, false, true⟩, qCmpCompareInt) := rfl
theorem gCmpIsNaNInt : cfg.fn nCmpIsNaNInt = some (⟨false, false, true⟩, qCmpIsNaNInt) := rfl
end Go.BmP
