/- The compact code of the functions, printed by program off the translation. -/
import Derived.Test.YtekfnljglfbmhaaChecked
import Derived.Test.YtekfnljglfbmhaaBmA
import Derived.KernelRfl
set_option maxRecDepth 100000
namespace Go.BmP
open Go.Am Go.Bm
def nLaw37PartitionBalances : Nat := 3
def nMakeFew : Nat := 6
def nLaw37Awake : Nat := 7
def nMakeGraph : Nat := 8
def nMakeNew : Nat := 9
def nPartitionMake : Nat := 10
def nRef37Check : Nat := 11
def nPartitionCheck : Nat := 12
def nRef03Degree : Nat := 13
def nRef02Has : Nat := 14
def nRef02Cmp : Nat := 18
def nRef02Of : Nat := 19
def nMakeDeckNext : Nat := 21
def nPartitionHome : Nat := 23
def nDegreeDegrees : Nat := 24
def nPartitionWorkers : Nat := 25
def nSlicesSortFuncPartitionPartPartitionPart : Nat := 26
def nPartitionMake1 : Nat := 27
def nCmpOrInt : Nat := 28
def nCmpCompareInt : Nat := 29
def nSlicesMinFuncPartitionPartPartitionPart : Nat := 30
def nPartitionMake2 : Nat := 31
def nRef02Valid : Nat := 32
def nNodesetValid : Nat := 33
def nSlicesContainsFuncIntInt : Nat := 34
def nPartitionCheck1 : Nat := 35
def nRef03Neighbours : Nat := 36
def nPartitionHomeN40 : Nat := 40
def nRef02Put : Nat := 44
def nMakeMod : Nat := 45
def nGraphCheck : Nat := 47
def nMasksRows : Nat := 48
def nMasksCount : Nat := 49
def nCmpIsNaNInt : Nat := 52
def nSlicesIndexFuncIntInt : Nat := 53
def nRef03Check : Nat := 54
def nNodesetHas : Nat := 55
def nGraphOrder : Nat := 57
def nMathBitsOnesCount64 : Nat := 58
def nRef03Before : Nat := 69
def nSlicesContainsIntInt : Nat := 70
def nSlicesIndexIntInt : Nat := 78
/- cohesion/cohesionlaw37.PartitionBalances -/
def rLaw37PartitionBalancesX0 : List O := [
  ⟨(some 6), none, .mv (.k (.bool false))⟩]
def rLaw37PartitionBalancesX1 : List O := [
  ⟨(some 20), none, .mv (.t 0)⟩,
  ⟨(some 21), none, .call nMakeFew [(.t 20)]⟩,
  ⟨(some 22), none, .un .not (.t 21)⟩]
def rLaw37PartitionBalancesX2 : List O := [
  ⟨(some 23), none, .call nLaw37Awake []⟩,
  ⟨(some 6), none, .mv (.t 23)⟩]
def rLaw37PartitionBalancesX3 : List O := [
  ⟨(some 24), none, .mv (.t 0)⟩,
  ⟨(some 25), none, .call nMakeNew [(.t 24)]⟩,
  ⟨(some 26), none, .call nMakeGraph [(.t 25), (.k (.int .i64 9))]⟩,
  ⟨(some 7), none, .new [(.int .i64 0), (.own 2 [])]⟩,
  ⟨none, none, .st 2 (.t 7) (.t 26)⟩]
def rLaw37PartitionBalancesX4 : List O := [
  ⟨(some 27), none, .mv (.t 1)⟩,
  ⟨(some 28), none, .bin .rem (.t 27) (.k (.int .u8 8))⟩,
  ⟨(some 29), none, .cvt .i64 (.t 28)⟩,
  ⟨(some 30), none, .bin .add (.k (.int .i64 1)) (.t 29)⟩,
  ⟨(some 31), none, .mv (.t 2)⟩,
  ⟨(some 32), none, .bin .rem (.t 31) (.k (.int .u8 6))⟩,
  ⟨(some 33), none, .cvt .i64 (.t 32)⟩,
  ⟨(some 34), none, .bin .add (.k (.int .i64 1)) (.t 33)⟩,
  ⟨(some 8), none, .mv (.t 30)⟩,
  ⟨(some 9), none, .mv (.t 34)⟩]
def rLaw37PartitionBalancesX5 : List O := [
  ⟨(some 36), none, .ld (some 2) (.t 7)⟩,
  ⟨(some 37), none, .mv (.t 8)⟩,
  ⟨(some 38), none, .mv (.t 9)⟩,
  ⟨(some 39), none, .call nPartitionMake [(.t 36), (.t 37), (.t 38)]⟩,
  ⟨(some 35), none, .mv (.t 39)⟩,
  ⟨(some 40), none, .ext 0 (.t 35)⟩,
  ⟨(some 41), none, .ext 1 (.t 35)⟩,
  ⟨(some 10), none, .new [(.int .i64 0), (.own 1 []), (.own 1 [])]⟩,
  ⟨none, none, .st 3 (.t 10) (.t 40)⟩,
  ⟨(some 11), none, .mv (.t 41)⟩]
def rLaw37PartitionBalancesX6 : List O := [
  ⟨(some 42), none, .mv (.t 11)⟩,
  ⟨(some 43), none, .bin .neq (.t 42) (.k (.int .i64 0))⟩,
  ⟨(some 44), none, .mv (.t 43)⟩,
  ⟨(some 45), (some (44, false)), .ld (some 3) (.t 10)⟩,
  ⟨(some 46), (some (44, false)), .fad 0 (.t 7)⟩,
  ⟨(some 47), (some (44, false)), .ld none (.t 46)⟩,
  ⟨(some 48), (some (44, false)), .call nRef37Check [(.t 45), (.t 47)]⟩,
  ⟨(some 49), (some (44, false)), .bin .neq (.t 48) (.k (.int .i64 0))⟩,
  ⟨(some 50), none, .pick (.t 44) (.k (.bool true)) (.t 49)⟩,
  ⟨(some 51), none, .mv (.t 50)⟩,
  ⟨(some 52), (some (51, false)), .fad 0 (.t 10)⟩,
  ⟨(some 53), (some (51, false)), .ld none (.t 52)⟩,
  ⟨(some 54), (some (51, false)), .mv (.t 8)⟩,
  ⟨(some 55), (some (51, false)), .bin .neq (.t 53) (.t 54)⟩,
  ⟨(some 56), none, .pick (.t 51) (.k (.bool true)) (.t 55)⟩,
  ⟨(some 57), none, .mv (.t 56)⟩,
  ⟨(some 58), (some (57, false)), .ld (some 3) (.t 10)⟩,
  ⟨(some 59), (some (57, false)), .fad 0 (.t 7)⟩,
  ⟨(some 60), (some (57, false)), .ld none (.t 59)⟩,
  ⟨(some 61), (some (57, false)), .call nPartitionCheck [(.t 58), (.t 60)]⟩,
  ⟨(some 62), (some (57, false)), .bin .neq (.t 61) (.k (.int .i64 0))⟩,
  ⟨(some 63), none, .pick (.t 57) (.k (.bool true)) (.t 62)⟩]
def rLaw37PartitionBalancesX7 : List O := [
  ⟨(some 6), none, .mv (.k (.bool false))⟩]
def rLaw37PartitionBalancesX8 : List O := [
  ⟨(some 64), none, .mv (.t 8)⟩,
  ⟨(some 65), none, .mks 1 [(.int .i64 0)] (.t 64) (.t 64)⟩,
  ⟨(some 12), none, .mv (.t 65)⟩,
  ⟨(some 13), none, .mv (.k (.int .i64 0))⟩]
def rLaw37PartitionBalancesX9 : List O := [
  ⟨(some 14), none, .mv (.k (.int .i64 0))⟩]
def rLaw37PartitionBalancesX10 : List O := [
  ⟨(some 66), none, .mv (.t 14)⟩,
  ⟨(some 67), none, .fad 0 (.t 7)⟩,
  ⟨(some 68), none, .ld none (.t 67)⟩,
  ⟨(some 69), none, .bin .lss (.t 66) (.t 68)⟩]
def rLaw37PartitionBalancesX11 : List O := [
  ⟨(some 72), none, .ld (some 2) (.t 7)⟩,
  ⟨(some 73), none, .mv (.t 14)⟩,
  ⟨(some 74), none, .call nRef03Degree [(.t 72), (.t 73)]⟩,
  ⟨(some 15), none, .mv (.t 74)⟩]
def rLaw37PartitionBalancesX12 : List O := [
  ⟨(some 75), none, .mv (.t 12)⟩,
  ⟨(some 76), none, .fad 1 (.t 10)⟩,
  ⟨(some 77), none, .ld none (.t 76)⟩,
  ⟨(some 78), none, .mv (.t 14)⟩,
  ⟨(some 79), none, .ixa 1 (.t 77) (.t 78)⟩,
  ⟨(some 80), none, .ld none (.t 79)⟩,
  ⟨(some 81), none, .ixa 1 (.t 75) (.t 80)⟩,
  ⟨(some 82), none, .ld none (.t 81)⟩,
  ⟨(some 83), none, .mv (.t 15)⟩,
  ⟨(some 84), none, .bin .add (.t 82) (.t 83)⟩,
  ⟨(some 85), none, .ixa 1 (.t 75) (.t 80)⟩,
  ⟨none, none, .st 1 (.t 85) (.t 84)⟩]
def rLaw37PartitionBalancesX13 : List O := [
  ⟨(some 86), none, .mv (.t 13)⟩,
  ⟨(some 87), none, .mv (.t 15)⟩,
  ⟨(some 88), none, .max [(.t 86), (.t 87)]⟩,
  ⟨(some 13), none, .mv (.t 88)⟩]
def rLaw37PartitionBalancesX14 : List O := [
  ⟨(some 89), none, .fad 2 (.t 10)⟩,
  ⟨(some 90), none, .ld none (.t 89)⟩,
  ⟨(some 91), none, .mv (.t 14)⟩,
  ⟨(some 92), none, .call nRef02Has [(.t 90), (.t 91)]⟩,
  ⟨(some 93), none, .mv (.t 15)⟩,
  ⟨(some 94), none, .mv (.t 9)⟩,
  ⟨(some 95), none, .bin .geq (.t 93) (.t 94)⟩,
  ⟨(some 96), none, .eq true .bool (.t 92) (.t 95)⟩]
def rLaw37PartitionBalancesX15 : List O := [
  ⟨(some 6), none, .mv (.k (.bool false))⟩]
def rLaw37PartitionBalancesX16 : List O := [
  ⟨(some 70), none, .mv (.t 14)⟩,
  ⟨(some 71), none, .bin .add (.t 70) (.k (.int .i64 1))⟩,
  ⟨(some 14), none, .mv (.t 71)⟩]
def lLaw37PartitionBalancesX0 : C := (.seq (.seq (.reg rLaw37PartitionBalancesX10 false [] [7, 9, 10, 12, 13, 14, 69]) (.cond (.t 69) .skip (.exit 0))) (.seq (.blk 1 (.seq (.reg rLaw37PartitionBalancesX11 false [] [7, 9, 10, 12, 13, 14, 15]) (.seq (.reg rLaw37PartitionBalancesX12 false [] [7, 9, 10, 12, 13, 14, 15]) (.seq (.reg rLaw37PartitionBalancesX13 false [] [7, 9, 10, 12, 13, 14, 15]) (.seq (.reg rLaw37PartitionBalancesX14 false [] [7, 9, 10, 12, 13, 14, 96]) (.cond (.t 96) (.seq (.reg rLaw37PartitionBalancesX15 false [] [6]) .ret) .skip)))))) (.reg rLaw37PartitionBalancesX16 false [] [7, 9, 10, 12, 13, 14])))
def rLaw37PartitionBalancesX17 : List O := [
  ⟨(some 97), none, .mv (.t 12)⟩,
  ⟨(some 98), none, .len (.t 97)⟩,
  ⟨(some 99), none, .mv (.k (.int .i64 0))⟩]
def rLaw37PartitionBalancesX18 : List O := [
  ⟨(some 100), none, .bin .lss (.t 99) (.t 98)⟩]
def rLaw37PartitionBalancesX19 : List O := [
  ⟨(some 101), none, .ixa 1 (.t 97) (.t 99)⟩,
  ⟨(some 102), none, .ld none (.t 101)⟩,
  ⟨(some 17), none, .mv (.t 102)⟩]
def rLaw37PartitionBalancesX20 : List O := [
  ⟨(some 103), none, .mv (.t 12)⟩,
  ⟨(some 104), none, .len (.t 103)⟩,
  ⟨(some 105), none, .mv (.k (.int .i64 0))⟩]
def rLaw37PartitionBalancesX21 : List O := [
  ⟨(some 106), none, .bin .lss (.t 105) (.t 104)⟩]
def rLaw37PartitionBalancesX22 : List O := [
  ⟨(some 107), none, .ixa 1 (.t 103) (.t 105)⟩,
  ⟨(some 108), none, .ld none (.t 107)⟩,
  ⟨(some 19), none, .mv (.t 108)⟩]
def rLaw37PartitionBalancesX23 : List O := [
  ⟨(some 109), none, .mv (.t 17)⟩,
  ⟨(some 110), none, .mv (.t 19)⟩,
  ⟨(some 111), none, .bin .sub (.t 109) (.t 110)⟩,
  ⟨(some 112), none, .mv (.t 13)⟩,
  ⟨(some 113), none, .bin .gtr (.t 111) (.t 112)⟩]
def rLaw37PartitionBalancesX24 : List O := [
  ⟨(some 6), none, .mv (.k (.bool false))⟩]
def rLaw37PartitionBalancesX25 : List O := [
  ⟨(some 114), none, .bin .add (.t 105) (.k (.int .i64 1))⟩,
  ⟨(some 105), none, .mv (.t 114)⟩]
def lLaw37PartitionBalancesX1 : C := (.seq (.reg rLaw37PartitionBalancesX21 false [] [12, 13, 17, 97, 98, 99, 103, 104, 105, 106]) (.seq (.cond (.t 106) .skip (.exit 4)) (.seq (.blk 5 (.seq (.reg rLaw37PartitionBalancesX22 false [] [12, 13, 17, 19, 97, 98, 99, 103, 104, 105]) (.seq (.reg rLaw37PartitionBalancesX23 false [] [12, 13, 17, 97, 98, 99, 103, 104, 105, 113]) (.cond (.t 113) (.seq (.reg rLaw37PartitionBalancesX24 false [] [6]) .ret) .skip)))) (.reg rLaw37PartitionBalancesX25 false [] [12, 13, 17, 97, 98, 99, 103, 104, 105]))))
def rLaw37PartitionBalancesX26 : List O := [
  ⟨(some 115), none, .bin .add (.t 99) (.k (.int .i64 1))⟩,
  ⟨(some 99), none, .mv (.t 115)⟩]
def lLaw37PartitionBalancesX2 : C := (.seq (.reg rLaw37PartitionBalancesX18 false [] [12, 13, 97, 98, 99, 100]) (.seq (.cond (.t 100) .skip (.exit 2)) (.seq (.blk 3 (.seq (.reg rLaw37PartitionBalancesX19 false [] [12, 13, 17, 97, 98, 99]) (.seq (.reg rLaw37PartitionBalancesX20 false [] [12, 13, 17, 97, 98, 99, 103, 104, 105]) (.blk 4 (.loop lLaw37PartitionBalancesX1))))) (.reg rLaw37PartitionBalancesX26 false [] [12, 13, 97, 98, 99]))))
def rLaw37PartitionBalancesX27 : List O := [
  ⟨(some 116), none, .call nLaw37Awake []⟩,
  ⟨(some 6), none, .mv (.t 116)⟩]
def cLaw37PartitionBalances : C := (.seq (.reg rLaw37PartitionBalancesX0 false [] [0, 1, 2]) (.seq (.seq (.reg rLaw37PartitionBalancesX1 false [] [0, 1, 2, 22]) (.cond (.t 22) (.seq (.reg rLaw37PartitionBalancesX2 false [] [6]) .ret) .skip)) (.seq (.reg rLaw37PartitionBalancesX3 false [] [1, 2, 7]) (.seq (.reg rLaw37PartitionBalancesX4 false [] [7, 8, 9]) (.seq (.reg rLaw37PartitionBalancesX5 false [] [7, 8, 9, 10, 11]) (.seq (.seq (.reg rLaw37PartitionBalancesX6 false [] [7, 8, 9, 10, 63]) (.cond (.t 63) (.seq (.reg rLaw37PartitionBalancesX7 false [] [6]) .ret) .skip)) (.seq (.reg rLaw37PartitionBalancesX8 false [] [7, 9, 10, 12, 13]) (.seq (.seq (.reg rLaw37PartitionBalancesX9 false [] [7, 9, 10, 12, 13, 14]) (.blk 0 (.loop lLaw37PartitionBalancesX0))) (.seq (.seq (.reg rLaw37PartitionBalancesX17 false [] [12, 13, 97, 98, 99]) (.blk 2 (.loop lLaw37PartitionBalancesX2))) (.seq (.reg rLaw37PartitionBalancesX27 false [] [6]) .ret))))))))))
def qLaw37PartitionBalances : AFn := ⟨117, 3, [.t 6], cLaw37PartitionBalances⟩
/- cohesion/cohesionmake.Few -/
def rMakeFewX0 : List O := [
  ⟨(some 2), none, .mv (.k (.bool false))⟩]
def rMakeFewX1 : List O := [
  ⟨(some 3), none, .mv (.t 0)⟩,
  ⟨(some 4), none, .len (.t 3)⟩,
  ⟨(some 5), none, .bin .leq (.t 4) (.k (.int .i64 500))⟩,
  ⟨(some 2), none, .mv (.t 5)⟩]
def cMakeFew : C := (.seq (.reg rMakeFewX0 false [] [0]) (.seq (.reg rMakeFewX1 false [] [2]) .ret))
def qMakeFew : AFn := ⟨6, 1, [.t 2], cMakeFew⟩
/- cohesion/cohesionlaw37.awake -/
def rLaw37AwakeX0 : List O := [
  ⟨(some 0), none, .mv (.k (.bool false))⟩]
def rLaw37AwakeX1 : List O := [
  ⟨(some 4), none, .build [(.int .i64 0), (.int .i64 0)] [(0, 1, (.k (.int .i64 0))), (1, 1, (.k (.int .i64 1)))]⟩,
  ⟨(some 5), none, .build [(.int .i64 0), (.int .i64 0)] [(0, 1, (.k (.int .i64 0))), (1, 1, (.k (.int .i64 2)))]⟩,
  ⟨(some 6), none, .build [(.int .i64 0), (.int .i64 0)] [(0, 1, (.k (.int .i64 0))), (1, 1, (.k (.int .i64 3)))]⟩,
  ⟨(some 7), none, .bslice 2 3 [(.int .i64 0), (.int .i64 0)] [(0, 2, (.t 4)), (2, 2, (.t 5)), (4, 2, (.t 6))]⟩,
  ⟨(some 8), none, .build [(.int .i64 0), (.own 2 [])] [(0, 1, (.k (.int .i64 4))), (1, 1, (.t 7))]⟩,
  ⟨(some 1), none, .new [(.int .i64 0), (.own 2 [])]⟩,
  ⟨none, none, .st 2 (.t 1) (.t 8)⟩]
def rLaw37AwakeX2 : List O := [
  ⟨(some 10), none, .ld (some 2) (.t 1)⟩,
  ⟨(some 11), none, .call nPartitionMake [(.t 10), (.k (.int .i64 2)), (.k (.int .i64 3))]⟩,
  ⟨(some 9), none, .mv (.t 11)⟩,
  ⟨(some 12), none, .ext 0 (.t 9)⟩,
  ⟨(some 13), none, .ext 1 (.t 9)⟩,
  ⟨(some 2), none, .new [(.int .i64 0), (.own 1 []), (.own 1 [])]⟩,
  ⟨none, none, .st 3 (.t 2) (.t 12)⟩,
  ⟨(some 3), none, .mv (.t 13)⟩]
def rLaw37AwakeX3 : List O := [
  ⟨(some 14), none, .mv (.t 3)⟩,
  ⟨(some 15), none, .bin .eql (.t 14) (.k (.int .i64 0))⟩,
  ⟨(some 16), none, .mv (.t 15)⟩,
  ⟨(some 17), (some (16, true)), .fad 1 (.t 2)⟩,
  ⟨(some 18), (some (16, true)), .ld none (.t 17)⟩,
  ⟨(some 19), (some (16, true)), .bslice 1 4 [(.int .i64 0)] [(0, 1, (.k (.int .i64 0))), (1, 1, (.k (.int .i64 1))), (2, 1, (.k (.int .i64 1))), (3, 1, (.k (.int .i64 1)))]⟩,
  ⟨(some 20), (some (16, true)), .call nRef02Cmp [(.t 18), (.t 19)]⟩,
  ⟨(some 21), (some (16, true)), .bin .eql (.t 20) (.k (.int .i64 0))⟩,
  ⟨(some 22), none, .pick (.t 16) (.t 21) (.k (.bool false))⟩,
  ⟨(some 23), none, .mv (.t 22)⟩,
  ⟨(some 24), (some (23, true)), .fad 2 (.t 2)⟩,
  ⟨(some 25), (some (23, true)), .ld none (.t 24)⟩,
  ⟨(some 26), (some (23, true)), .bslice 1 1 [(.int .i64 0)] [(0, 1, (.k (.int .i64 0)))]⟩,
  ⟨(some 27), (some (23, true)), .call nRef02Cmp [(.t 25), (.t 26)]⟩,
  ⟨(some 28), (some (23, true)), .bin .eql (.t 27) (.k (.int .i64 0))⟩,
  ⟨(some 29), none, .pick (.t 23) (.t 28) (.k (.bool false))⟩,
  ⟨(some 30), none, .mv (.t 29)⟩,
  ⟨(some 31), (some (30, true)), .ld (some 3) (.t 2)⟩,
  ⟨(some 32), (some (30, true)), .call nPartitionHome [(.t 31), (.k (.int .i64 0)), (.k (.int .i64 2))]⟩,
  ⟨(some 33), (some (30, true)), .bin .eql (.t 32) (.k (.int .i64 1))⟩,
  ⟨(some 34), none, .pick (.t 30) (.t 33) (.k (.bool false))⟩,
  ⟨(some 0), none, .mv (.t 34)⟩]
def cLaw37Awake : C := (.seq (.reg rLaw37AwakeX0 false [] []) (.seq (.reg rLaw37AwakeX1 false [] [1]) (.seq (.reg rLaw37AwakeX2 false [] [2, 3]) (.seq (.reg rLaw37AwakeX3 false [] [0]) .ret))))
def qLaw37Awake : AFn := ⟨35, 0, [.t 0], cLaw37Awake⟩
/- cohesion/cohesionmake.Graph -/
def rMakeGraphX0 : List O := [
  ⟨(some 4), none, .new [(.int .i64 0), (.own 2 [])]⟩]
def rMakeGraphX1 : List O := [
  ⟨(some 9), none, .mv (.t 0)⟩,
  ⟨(some 10), none, .mv (.t 1)⟩,
  ⟨(some 11), none, .bin .add (.t 10) (.k (.int .i64 1))⟩,
  ⟨(some 12), none, .call nMakeDeckNext [(.t 9), (.t 11)]⟩,
  ⟨(some 13), none, .build [(.int .i64 0), (.own 2 [])] [(0, 1, (.t 12))]⟩,
  ⟨(some 5), none, .new [(.int .i64 0), (.own 2 [])]⟩,
  ⟨none, none, .st 2 (.t 5) (.t 13)⟩]
def rMakeGraphX2 : List O := [
  ⟨(some 14), none, .fad 0 (.t 5)⟩,
  ⟨(some 15), none, .ld none (.t 14)⟩,
  ⟨(some 16), none, .bin .lss (.t 15) (.k (.int .i64 4))⟩]
def rMakeGraphX3 : List O := [
  ⟨(some 17), none, .mv (.t 1)⟩,
  ⟨(some 18), none, .fad 0 (.t 5)⟩,
  ⟨(some 19), none, .ld none (.t 18)⟩,
  ⟨(some 20), none, .mv (.t 0)⟩,
  ⟨(some 21), none, .mv (.t 1)⟩,
  ⟨(some 22), none, .bin .add (.t 21) (.k (.int .i64 1))⟩,
  ⟨(some 23), none, .call nMakeDeckNext [(.t 20), (.t 22)]⟩,
  ⟨(some 24), none, .bin .add (.t 19) (.t 23)⟩,
  ⟨(some 25), none, .min [(.t 17), (.t 24)]⟩,
  ⟨(some 26), none, .fad 0 (.t 5)⟩,
  ⟨none, none, .st 1 (.t 26) (.t 25)⟩]
def rMakeGraphX4 : List O := [
  ⟨(some 27), none, .mv (.t 0)⟩,
  ⟨(some 28), none, .call nMakeDeckNext [(.t 27), (.k (.int .i64 4))]⟩,
  ⟨(some 29), none, .bin .add (.k (.int .i64 1)) (.t 28)⟩,
  ⟨(some 6), none, .mv (.t 29)⟩]
def rMakeGraphX5 : List O := [
  ⟨(some 7), none, .mv (.k (.int .i64 0))⟩]
def rMakeGraphX6 : List O := [
  ⟨(some 30), none, .mv (.t 7)⟩,
  ⟨(some 31), none, .fad 0 (.t 5)⟩,
  ⟨(some 32), none, .ld none (.t 31)⟩,
  ⟨(some 33), none, .bin .lss (.t 30) (.t 32)⟩]
def rMakeGraphX7 : List O := [
  ⟨(some 36), none, .mv (.t 7)⟩,
  ⟨(some 37), none, .bin .add (.t 36) (.k (.int .i64 1))⟩,
  ⟨(some 8), none, .mv (.t 37)⟩]
def rMakeGraphX8 : List O := [
  ⟨(some 38), none, .mv (.t 8)⟩,
  ⟨(some 39), none, .fad 0 (.t 5)⟩,
  ⟨(some 40), none, .ld none (.t 39)⟩,
  ⟨(some 41), none, .bin .lss (.t 38) (.t 40)⟩]
def rMakeGraphX9 : List O := [
  ⟨(some 44), none, .mv (.t 0)⟩,
  ⟨(some 45), none, .call nMakeDeckNext [(.t 44), (.k (.int .i64 5))]⟩,
  ⟨(some 46), none, .mv (.t 6)⟩,
  ⟨(some 47), none, .bin .sub (.k (.int .i64 5)) (.t 46)⟩,
  ⟨(some 48), none, .bin .geq (.t 45) (.t 47)⟩]
def rMakeGraphX10 : List O := [
  ⟨(some 49), none, .fad 1 (.t 5)⟩,
  ⟨(some 50), none, .ld none (.t 49)⟩,
  ⟨(some 51), none, .mv (.t 7)⟩,
  ⟨(some 52), none, .mv (.t 8)⟩,
  ⟨(some 53), none, .build [(.int .i64 0), (.int .i64 0)] [(0, 1, (.t 51)), (1, 1, (.t 52))]⟩,
  ⟨(some 54), none, .bslice 2 1 [(.int .i64 0), (.int .i64 0)] [(0, 2, (.t 53))]⟩,
  ⟨(some 55), none, .app 2 (.t 50) (.t 54)⟩,
  ⟨(some 56), none, .fad 1 (.t 5)⟩,
  ⟨none, none, .st 1 (.t 56) (.t 55)⟩]
def rMakeGraphX11 : List O := [
  ⟨(some 42), none, .mv (.t 8)⟩,
  ⟨(some 43), none, .bin .add (.t 42) (.k (.int .i64 1))⟩,
  ⟨(some 8), none, .mv (.t 43)⟩]
def lMakeGraphX0 : C := (.seq (.seq (.reg rMakeGraphX8 false [] [0, 4, 5, 6, 7, 8, 41]) (.cond (.t 41) .skip (.exit 2))) (.seq (.blk 3 (.seq (.reg rMakeGraphX9 false [] [0, 4, 5, 6, 7, 8, 48]) (.cond (.t 48) (.reg rMakeGraphX10 false [] [0, 4, 5, 6, 7, 8]) .skip))) (.reg rMakeGraphX11 false [] [0, 4, 5, 6, 7, 8])))
def rMakeGraphX12 : List O := [
  ⟨(some 34), none, .mv (.t 7)⟩,
  ⟨(some 35), none, .bin .add (.t 34) (.k (.int .i64 1))⟩,
  ⟨(some 7), none, .mv (.t 35)⟩]
def lMakeGraphX1 : C := (.seq (.seq (.reg rMakeGraphX6 false [] [0, 4, 5, 6, 7, 33]) (.cond (.t 33) .skip (.exit 0))) (.seq (.blk 1 (.seq (.reg rMakeGraphX7 false [] [0, 4, 5, 6, 7, 8]) (.blk 2 (.loop lMakeGraphX0)))) (.reg rMakeGraphX12 false [] [0, 4, 5, 6, 7])))
def rMakeGraphX13 : List O := [
  ⟨(some 57), none, .ld (some 2) (.t 5)⟩,
  ⟨none, none, .st 2 (.t 4) (.t 57)⟩]
def cMakeGraph : C := (.seq (.reg rMakeGraphX0 false [] [0, 1, 4]) (.seq (.reg rMakeGraphX1 false [] [0, 1, 4, 5]) (.seq (.seq (.reg rMakeGraphX2 false [] [0, 1, 4, 5, 16]) (.cond (.t 16) (.reg rMakeGraphX3 true [(8, 8), (9, 9), (10, 10), (0, 2), (2, 3), (2, 4), (2, 5), (0, 6), (1, 6), (2, 6)] [0, 4, 5]) .skip)) (.seq (.reg rMakeGraphX4 false [] [0, 4, 5, 6]) (.seq (.seq (.reg rMakeGraphX5 false [] [0, 4, 5, 6, 7]) (.blk 0 (.loop lMakeGraphX1))) (.seq (.reg rMakeGraphX13 false [] [4]) .ret))))))
def qMakeGraph : AFn := ⟨58, 2, [.c 4 (some 2)], cMakeGraph⟩
/- cohesion/cohesionmake.New -/
def rMakeNewX0 : List O := [
  ⟨(some 2), none, .mv (.k .nilp)⟩]
def rMakeNewX1 : List O := [
  ⟨(some 3), none, .mv (.t 0)⟩,
  ⟨(some 4), none, .build [(.own 1 []), (.int .i64 0)] [(0, 1, (.t 3))]⟩,
  ⟨(some 5), none, .box (.t 4)⟩,
  ⟨(some 2), none, .mv (.t 5)⟩]
def cMakeNew : C := (.seq (.reg rMakeNewX0 false [] [0]) (.seq (.reg rMakeNewX1 false [] [2]) .ret))
def qMakeNew : AFn := ⟨6, 1, [.t 2], cMakeNew⟩
/- cohesion/partition.Make -/
def rPartitionMakeX0 : List O := [
  ⟨(some 3), none, .box (.t 0)⟩,
  ⟨(some 6), none, .new [(.int .i64 0), (.own 1 []), (.own 1 [])]⟩,
  ⟨(some 7), none, .mv (.k (.int .i64 0))⟩]
def rPartitionMakeX1 : List O := [
  ⟨(some 22), none, .ld (some 2) (.t 3)⟩,
  ⟨(some 23), none, .call nDegreeDegrees [(.t 22)]⟩,
  ⟨(some 21), none, .mv (.t 23)⟩,
  ⟨(some 24), none, .ext 0 (.t 21)⟩,
  ⟨(some 25), none, .ext 1 (.t 21)⟩,
  ⟨(some 8), none, .mv (.t 24)⟩,
  ⟨(some 9), none, .mv (.t 25)⟩]
def rPartitionMakeX2 : List O := [
  ⟨(some 26), none, .mv (.t 9)⟩,
  ⟨(some 27), none, .bin .neq (.t 26) (.k (.int .i64 0))⟩]
def rPartitionMakeX3 : List O := [
  ⟨(some 28), none, .build [(.int .i64 0), (.own 1 []), (.own 1 [])] []⟩,
  ⟨(some 29), none, .mv (.t 9)⟩,
  ⟨none, none, .st 3 (.t 6) (.t 28)⟩,
  ⟨(some 7), none, .mv (.t 29)⟩]
def rPartitionMakeX4 : List O := [
  ⟨(some 30), none, .mv (.t 1)⟩,
  ⟨(some 31), none, .call nPartitionWorkers [(.t 30)]⟩,
  ⟨(some 32), none, .un .not (.t 31)⟩,
  ⟨(some 33), none, .mv (.t 32)⟩,
  ⟨(some 34), (some (33, false)), .mv (.t 2)⟩,
  ⟨(some 35), (some (33, false)), .bin .lss (.t 34) (.k (.int .i64 1))⟩,
  ⟨(some 36), none, .pick (.t 33) (.k (.bool true)) (.t 35)⟩]
def rPartitionMakeX5 : List O := [
  ⟨(some 37), none, .build [(.int .i64 0), (.own 1 []), (.own 1 [])] []⟩,
  ⟨none, none, .st 3 (.t 6) (.t 37)⟩,
  ⟨(some 7), none, .mv (.k (.int .i64 1))⟩]
def rPartitionMakeX6 : List O := [
  ⟨(some 38), none, .mv (.t 1)⟩,
  ⟨(some 39), none, .fad 0 (.t 3)⟩,
  ⟨(some 40), none, .ld none (.t 39)⟩,
  ⟨(some 41), none, .mks 1 [(.int .i64 0)] (.t 40) (.t 40)⟩,
  ⟨(some 42), none, .build [(.int .i64 0), (.own 1 []), (.own 1 [])] [(0, 1, (.t 38)), (1, 1, (.t 41))]⟩,
  ⟨(some 10), none, .new [(.int .i64 0), (.own 1 []), (.own 1 [])]⟩,
  ⟨none, none, .st 3 (.t 10) (.t 42)⟩]
def rPartitionMakeX7 : List O := [
  ⟨(some 11), none, .mv (.k (.own 2 []))⟩,
  ⟨(some 12), none, .mv (.k (.own 2 []))⟩]
def rPartitionMakeX8 : List O := [
  ⟨(some 43), none, .mv (.t 8)⟩,
  ⟨(some 44), none, .len (.t 43)⟩,
  ⟨(some 45), none, .mv (.k (.int .i64 0))⟩]
def rPartitionMakeX9 : List O := [
  ⟨(some 46), none, .bin .lss (.t 45) (.t 44)⟩]
def rPartitionMakeX10 : List O := [
  ⟨(some 47), none, .mv (.t 45)⟩,
  ⟨(some 48), none, .ixa 1 (.t 43) (.t 45)⟩,
  ⟨(some 49), none, .ld none (.t 48)⟩,
  ⟨(some 13), none, .mv (.t 47)⟩,
  ⟨(some 14), none, .mv (.t 49)⟩]
def rPartitionMakeX11 : List O := [
  ⟨(some 50), none, .mv (.t 11)⟩,
  ⟨(some 51), none, .mv (.t 14)⟩,
  ⟨(some 52), none, .mv (.t 13)⟩,
  ⟨(some 53), none, .build [(.int .i64 0), (.int .i64 0)] [(0, 1, (.t 51)), (1, 1, (.t 52))]⟩,
  ⟨(some 54), none, .bslice 2 1 [(.int .i64 0), (.int .i64 0)] [(0, 2, (.t 53))]⟩,
  ⟨(some 55), none, .app 2 (.t 50) (.t 54)⟩,
  ⟨(some 11), none, .mv (.t 55)⟩]
def rPartitionMakeX12 : List O := [
  ⟨(some 56), none, .mv (.t 14)⟩,
  ⟨(some 57), none, .mv (.t 2)⟩,
  ⟨(some 58), none, .bin .geq (.t 56) (.t 57)⟩]
def rPartitionMakeX13 : List O := [
  ⟨(some 59), none, .fad 2 (.t 10)⟩,
  ⟨(some 60), none, .ld none (.t 59)⟩,
  ⟨(some 61), none, .mv (.t 13)⟩,
  ⟨(some 62), none, .bslice 1 1 [(.int .i64 0)] [(0, 1, (.t 61))]⟩,
  ⟨(some 63), none, .app 1 (.t 60) (.t 62)⟩,
  ⟨(some 64), none, .fad 2 (.t 10)⟩,
  ⟨none, none, .st 1 (.t 64) (.t 63)⟩]
def rPartitionMakeX14 : List O := [
  ⟨(some 65), none, .bin .add (.t 45) (.k (.int .i64 1))⟩,
  ⟨(some 45), none, .mv (.t 65)⟩]
def lPartitionMakeX0 : C := (.seq (.reg rPartitionMakeX9 false [] [1, 2, 6, 10, 11, 12, 43, 44, 45, 46]) (.seq (.cond (.t 46) .skip (.exit 0)) (.seq (.blk 1 (.seq (.reg rPartitionMakeX10 false [] [1, 2, 6, 10, 11, 12, 13, 14, 43, 44, 45]) (.seq (.reg rPartitionMakeX11 false [] [1, 2, 6, 10, 11, 12, 13, 14, 43, 44, 45]) (.seq (.reg rPartitionMakeX12 false [] [1, 2, 6, 10, 11, 12, 13, 43, 44, 45, 58]) (.cond (.t 58) (.reg rPartitionMakeX13 false [] [1, 2, 6, 10, 11, 12, 43, 44, 45]) .skip))))) (.reg rPartitionMakeX14 false [] [1, 2, 6, 10, 11, 12, 43, 44, 45]))))
def rPartitionMakeX15 : List O := [
  ⟨(some 66), none, .mv (.t 1)⟩,
  ⟨(some 67), none, .mv (.k (.int .i64 0))⟩]
def rPartitionMakeX16 : List O := [
  ⟨(some 68), none, .bin .lss (.t 67) (.t 66)⟩]
def rPartitionMakeX17 : List O := [
  ⟨(some 69), none, .mv (.t 67)⟩,
  ⟨(some 15), none, .mv (.t 69)⟩]
def rPartitionMakeX18 : List O := [
  ⟨(some 70), none, .mv (.t 12)⟩,
  ⟨(some 71), none, .mv (.t 15)⟩,
  ⟨(some 72), none, .build [(.int .i64 0), (.int .i64 0)] [(0, 1, (.k (.int .i64 0))), (1, 1, (.t 71))]⟩,
  ⟨(some 73), none, .bslice 2 1 [(.int .i64 0), (.int .i64 0)] [(0, 2, (.t 72))]⟩,
  ⟨(some 74), none, .app 2 (.t 70) (.t 73)⟩,
  ⟨(some 12), none, .mv (.t 74)⟩]
def rPartitionMakeX19 : List O := [
  ⟨(some 75), none, .bin .add (.t 67) (.k (.int .i64 1))⟩,
  ⟨(some 67), none, .mv (.t 75)⟩]
def lPartitionMakeX1 : C := (.seq (.reg rPartitionMakeX16 false [] [6, 10, 11, 12, 66, 67, 68]) (.seq (.cond (.t 68) .skip (.exit 2)) (.seq (.blk 3 (.seq (.reg rPartitionMakeX17 false [] [6, 10, 11, 12, 15, 66, 67]) (.reg rPartitionMakeX18 false [] [6, 10, 11, 12, 66, 67]))) (.reg rPartitionMakeX19 false [] [6, 10, 11, 12, 66, 67]))))
def rPartitionMakeX20 : List O := [
  ⟨(some 76), none, .mv (.t 11)⟩,
  ⟨(some 77), none, .call nSlicesSortFuncPartitionPartPartitionPart [(.t 76), (.k (.func (.func nPartitionMake1) [] []))]⟩]
def rPartitionMakeX21 : List O := [
  ⟨(some 78), none, .mv (.t 11)⟩,
  ⟨(some 79), none, .len (.t 78)⟩,
  ⟨(some 80), none, .mv (.k (.int .i64 0))⟩]
def rPartitionMakeX22 : List O := [
  ⟨(some 81), none, .bin .lss (.t 80) (.t 79)⟩]
def rPartitionMakeX23 : List O := [
  ⟨(some 82), none, .ixa 2 (.t 78) (.t 80)⟩,
  ⟨(some 83), none, .ld (some 2) (.t 82)⟩,
  ⟨(some 17), none, .new [(.int .i64 0), (.int .i64 0)]⟩,
  ⟨none, none, .st 2 (.t 17) (.t 83)⟩]
def rPartitionMakeX24 : List O := [
  ⟨(some 84), none, .mv (.t 12)⟩,
  ⟨(some 85), none, .call nSlicesMinFuncPartitionPartPartitionPart [(.t 84), (.k (.func (.func nPartitionMake2) [] []))]⟩,
  ⟨(some 18), none, .new [(.int .i64 0), (.int .i64 0)]⟩,
  ⟨none, none, .st 2 (.t 18) (.t 85)⟩]
def rPartitionMakeX25 : List O := [
  ⟨(some 86), none, .mv (.t 12)⟩,
  ⟨(some 87), none, .len (.t 86)⟩,
  ⟨(some 88), none, .mv (.k (.int .i64 0))⟩]
def rPartitionMakeX26 : List O := [
  ⟨(some 89), none, .bin .lss (.t 88) (.t 87)⟩]
def rPartitionMakeX27 : List O := [
  ⟨(some 90), none, .mv (.t 88)⟩,
  ⟨(some 91), none, .ixa 2 (.t 86) (.t 88)⟩,
  ⟨(some 92), none, .ld (some 2) (.t 91)⟩,
  ⟨(some 20), none, .new [(.int .i64 0), (.int .i64 0)]⟩,
  ⟨(some 19), none, .mv (.t 90)⟩,
  ⟨none, none, .st 2 (.t 20) (.t 92)⟩]
def rPartitionMakeX28 : List O := [
  ⟨(some 93), none, .ld (some 2) (.t 20)⟩,
  ⟨(some 94), none, .ld (some 2) (.t 18)⟩,
  ⟨(some 95), none, .eq false (.str [true, true]) (.t 93) (.t 94)⟩]
def rPartitionMakeX29 : List O := [
  ⟨(some 96), none, .mv (.t 12)⟩,
  ⟨(some 97), none, .mv (.t 19)⟩,
  ⟨(some 98), none, .ixa 2 (.t 96) (.t 97)⟩,
  ⟨(some 99), none, .fad 0 (.t 98)⟩,
  ⟨(some 100), none, .ld none (.t 99)⟩,
  ⟨(some 101), none, .fad 0 (.t 17)⟩,
  ⟨(some 102), none, .ld none (.t 101)⟩,
  ⟨(some 103), none, .bin .add (.t 100) (.t 102)⟩,
  ⟨(some 104), none, .ixa 2 (.t 96) (.t 97)⟩,
  ⟨(some 105), none, .fad 0 (.t 104)⟩,
  ⟨none, none, .st 1 (.t 105) (.t 103)⟩]
def rPartitionMakeX30 : List O := [
  ⟨(some 106), none, .bin .add (.t 88) (.k (.int .i64 1))⟩,
  ⟨(some 88), none, .mv (.t 106)⟩]
def lPartitionMakeX2 : C := (.seq (.reg rPartitionMakeX26 false [] [6, 10, 12, 17, 18, 78, 79, 80, 86, 87, 88, 89]) (.seq (.cond (.t 89) .skip (.exit 6)) (.seq (.blk 7 (.seq (.reg rPartitionMakeX27 false [] [6, 10, 12, 17, 18, 19, 20, 78, 79, 80, 86, 87, 88]) (.seq (.reg rPartitionMakeX28 false [] [6, 10, 12, 17, 18, 19, 78, 79, 80, 86, 87, 88, 95]) (.cond (.t 95) (.reg rPartitionMakeX29 true [(7, 7), (8, 8), (9, 9), (10, 10), (4, 5), (0, 6), (1, 6), (2, 6), (3, 6), (4, 6)] [6, 10, 12, 17, 18, 78, 79, 80, 86, 87, 88]) .skip)))) (.reg rPartitionMakeX30 false [] [6, 10, 12, 17, 18, 78, 79, 80, 86, 87, 88]))))
def rPartitionMakeX31 : List O := [
  ⟨(some 107), none, .fad 1 (.t 10)⟩,
  ⟨(some 108), none, .ld none (.t 107)⟩,
  ⟨(some 109), none, .fad 1 (.t 17)⟩,
  ⟨(some 110), none, .ld none (.t 109)⟩,
  ⟨(some 111), none, .fad 1 (.t 18)⟩,
  ⟨(some 112), none, .ld none (.t 111)⟩,
  ⟨(some 113), none, .ixa 1 (.t 108) (.t 110)⟩,
  ⟨none, none, .st 1 (.t 113) (.t 112)⟩]
def rPartitionMakeX32 : List O := [
  ⟨(some 114), none, .bin .add (.t 80) (.k (.int .i64 1))⟩,
  ⟨(some 80), none, .mv (.t 114)⟩]
def lPartitionMakeX3 : C := (.seq (.reg rPartitionMakeX22 false [] [6, 10, 12, 78, 79, 80, 81]) (.seq (.cond (.t 81) .skip (.exit 4)) (.seq (.blk 5 (.seq (.reg rPartitionMakeX23 false [] [6, 10, 12, 17, 78, 79, 80]) (.seq (.reg rPartitionMakeX24 false [] [6, 10, 12, 17, 18, 78, 79, 80]) (.seq (.seq (.reg rPartitionMakeX25 false [] [6, 10, 12, 17, 18, 78, 79, 80, 86, 87, 88]) (.blk 6 (.loop lPartitionMakeX2))) (.reg rPartitionMakeX31 false [] [6, 10, 12, 78, 79, 80]))))) (.reg rPartitionMakeX32 false [] [6, 10, 12, 78, 79, 80]))))
def rPartitionMakeX33 : List O := [
  ⟨(some 115), none, .ld (some 3) (.t 10)⟩,
  ⟨none, none, .st 3 (.t 6) (.t 115)⟩,
  ⟨(some 7), none, .mv (.k (.int .i64 0))⟩]
def cPartitionMake : C := (.seq (.reg rPartitionMakeX0 false [] [1, 2, 3, 6]) (.seq (.reg rPartitionMakeX1 false [] [1, 2, 3, 6, 8, 9]) (.seq (.seq (.reg rPartitionMakeX2 false [] [1, 2, 3, 6, 8, 9, 27]) (.cond (.t 27) (.seq (.reg rPartitionMakeX3 false [] [6, 7]) .ret) .skip)) (.seq (.seq (.reg rPartitionMakeX4 false [] [1, 2, 3, 6, 8, 36]) (.cond (.t 36) (.seq (.reg rPartitionMakeX5 false [] [6, 7]) .ret) .skip)) (.seq (.reg rPartitionMakeX6 false [] [1, 2, 6, 8, 10]) (.seq (.reg rPartitionMakeX7 false [] [1, 2, 6, 8, 10, 11, 12]) (.seq (.seq (.reg rPartitionMakeX8 false [] [1, 2, 6, 10, 11, 12, 43, 44, 45]) (.blk 0 (.loop lPartitionMakeX0))) (.seq (.seq (.reg rPartitionMakeX15 false [] [6, 10, 11, 12, 66, 67]) (.blk 2 (.loop lPartitionMakeX1))) (.seq (.reg rPartitionMakeX20 false [] [6, 10, 11, 12]) (.seq (.seq (.reg rPartitionMakeX21 false [] [6, 10, 12, 78, 79, 80]) (.blk 4 (.loop lPartitionMakeX3))) (.seq (.reg rPartitionMakeX33 false [] [6, 7]) .ret)))))))))))
def qPartitionMake : AFn := ⟨116, 3, [.c 6 (some 3), .t 7], cPartitionMake⟩
/- cohesion/cohesionref37.Check -/
def rRef37CheckX0 : List O := [
  ⟨(some 2), none, .box (.t 0)⟩,
  ⟨(some 4), none, .mv (.k (.int .i64 0))⟩]
def rRef37CheckX1 : List O := [
  ⟨(some 6), none, .fad 0 (.t 2)⟩,
  ⟨(some 7), none, .ld none (.t 6)⟩,
  ⟨(some 8), none, .bin .lss (.t 7) (.k (.int .i64 1))⟩,
  ⟨(some 9), none, .mv (.t 8)⟩,
  ⟨(some 10), (some (9, false)), .fad 0 (.t 2)⟩,
  ⟨(some 11), (some (9, false)), .ld none (.t 10)⟩,
  ⟨(some 12), (some (9, false)), .bin .gtr (.t 11) (.k (.int .i64 8))⟩,
  ⟨(some 13), none, .pick (.t 9) (.k (.bool true)) (.t 12)⟩]
def rRef37CheckX2 : List O := [
  ⟨(some 4), none, .mv (.k (.int .i64 1))⟩]
def rRef37CheckX3 : List O := [
  ⟨(some 14), none, .fad 1 (.t 2)⟩,
  ⟨(some 15), none, .ld none (.t 14)⟩,
  ⟨(some 16), none, .len (.t 15)⟩,
  ⟨(some 17), none, .mv (.t 1)⟩,
  ⟨(some 18), none, .bin .neq (.t 16) (.t 17)⟩,
  ⟨(some 19), none, .mv (.t 18)⟩,
  ⟨(some 20), (some (19, false)), .fad 2 (.t 2)⟩,
  ⟨(some 21), (some (19, false)), .ld none (.t 20)⟩,
  ⟨(some 22), (some (19, false)), .mv (.t 1)⟩,
  ⟨(some 23), (some (19, false)), .call nRef02Valid [(.t 21), (.t 22)]⟩,
  ⟨(some 24), (some (19, false)), .un .not (.t 23)⟩,
  ⟨(some 25), none, .pick (.t 19) (.k (.bool true)) (.t 24)⟩]
def rRef37CheckX4 : List O := [
  ⟨(some 4), none, .mv (.k (.int .i64 4))⟩]
def rRef37CheckX5 : List O := [
  ⟨(some 5), none, .mv (.k (.int .i64 0))⟩]
def rRef37CheckX6 : List O := [
  ⟨(some 26), none, .mv (.t 5)⟩,
  ⟨(some 27), none, .fad 1 (.t 2)⟩,
  ⟨(some 28), none, .ld none (.t 27)⟩,
  ⟨(some 29), none, .len (.t 28)⟩,
  ⟨(some 30), none, .bin .lss (.t 26) (.t 29)⟩]
def rRef37CheckX7 : List O := [
  ⟨(some 33), none, .fad 1 (.t 2)⟩,
  ⟨(some 34), none, .ld none (.t 33)⟩,
  ⟨(some 35), none, .mv (.t 5)⟩,
  ⟨(some 36), none, .ixa 1 (.t 34) (.t 35)⟩,
  ⟨(some 37), none, .ld none (.t 36)⟩,
  ⟨(some 38), none, .bin .lss (.t 37) (.k (.int .i64 0))⟩,
  ⟨(some 39), none, .mv (.t 38)⟩,
  ⟨(some 40), (some (39, false)), .fad 1 (.t 2)⟩,
  ⟨(some 41), (some (39, false)), .ld none (.t 40)⟩,
  ⟨(some 42), (some (39, false)), .mv (.t 5)⟩,
  ⟨(some 43), (some (39, false)), .ixa 1 (.t 41) (.t 42)⟩,
  ⟨(some 44), (some (39, false)), .ld none (.t 43)⟩,
  ⟨(some 45), (some (39, false)), .fad 0 (.t 2)⟩,
  ⟨(some 46), (some (39, false)), .ld none (.t 45)⟩,
  ⟨(some 47), (some (39, false)), .bin .geq (.t 44) (.t 46)⟩,
  ⟨(some 48), none, .pick (.t 39) (.k (.bool true)) (.t 47)⟩]
def rRef37CheckX8 : List O := [
  ⟨(some 4), none, .mv (.k (.int .i64 30))⟩]
def rRef37CheckX9 : List O := [
  ⟨(some 31), none, .mv (.t 5)⟩,
  ⟨(some 32), none, .bin .add (.t 31) (.k (.int .i64 1))⟩,
  ⟨(some 5), none, .mv (.t 32)⟩]
def lRef37CheckX0 : C := (.seq (.seq (.reg rRef37CheckX6 false [] [2, 5, 30]) (.cond (.t 30) .skip (.exit 0))) (.seq (.blk 1 (.seq (.reg rRef37CheckX7 true [(3, 3), (4, 4), (5, 5), (6, 6), (14, 14), (15, 15), (1, 2), (8, 9), (8, 12), (11, 12), (7, 13), (8, 13), (9, 13), (10, 13), (11, 13)] [2, 5, 48]) (.cond (.t 48) (.seq (.reg rRef37CheckX8 false [] [4]) .ret) .skip))) (.reg rRef37CheckX9 false [] [2, 5])))
def rRef37CheckX10 : List O := [
  ⟨(some 4), none, .mv (.k (.int .i64 0))⟩]
def cRef37Check : C := (.seq (.reg rRef37CheckX0 false [] [1, 2]) (.seq (.seq (.reg rRef37CheckX1 false [] [1, 2, 13]) (.cond (.t 13) (.seq (.reg rRef37CheckX2 false [] [4]) .ret) .skip)) (.seq (.seq (.reg rRef37CheckX3 false [] [2, 25]) (.cond (.t 25) (.seq (.reg rRef37CheckX4 false [] [4]) .ret) .skip)) (.seq (.seq (.reg rRef37CheckX5 false [] [2, 5]) (.blk 0 (.loop lRef37CheckX0))) (.seq (.reg rRef37CheckX10 false [] [4]) .ret)))))
def qRef37Check : AFn := ⟨49, 2, [.t 4], cRef37Check⟩
/- cohesion/partition.Check -/
def rPartitionCheckX0 : List O := [
  ⟨(some 2), none, .box (.t 0)⟩,
  ⟨(some 4), none, .mv (.k (.int .i64 0))⟩]
def rPartitionCheckX1 : List O := [
  ⟨(some 6), none, .fad 0 (.t 2)⟩,
  ⟨(some 7), none, .ld none (.t 6)⟩,
  ⟨(some 8), none, .call nPartitionWorkers [(.t 7)]⟩,
  ⟨(some 9), none, .un .not (.t 8)⟩,
  ⟨(some 5), none, .mv (.t 9)⟩]
def rPartitionCheckX2 : List O := [
  ⟨(some 4), none, .mv (.k (.int .i64 1))⟩]
def rPartitionCheckX3 : List O := [
  ⟨(some 11), none, .fad 1 (.t 2)⟩,
  ⟨(some 12), none, .ld none (.t 11)⟩,
  ⟨(some 13), none, .len (.t 12)⟩,
  ⟨(some 14), none, .mv (.t 1)⟩,
  ⟨(some 15), none, .bin .neq (.t 13) (.t 14)⟩,
  ⟨(some 16), none, .mv (.t 15)⟩,
  ⟨(some 17), (some (16, false)), .fad 2 (.t 2)⟩,
  ⟨(some 18), (some (16, false)), .ld none (.t 17)⟩,
  ⟨(some 19), (some (16, false)), .mv (.t 1)⟩,
  ⟨(some 20), (some (16, false)), .call nNodesetValid [(.t 18), (.t 19)]⟩,
  ⟨(some 21), (some (16, false)), .un .not (.t 20)⟩,
  ⟨(some 22), none, .pick (.t 16) (.k (.bool true)) (.t 21)⟩,
  ⟨(some 10), none, .mv (.t 22)⟩]
def rPartitionCheckX4 : List O := [
  ⟨(some 4), none, .mv (.k (.int .i64 4))⟩]
def rPartitionCheckX5 : List O := [
  ⟨(some 24), none, .fad 1 (.t 2)⟩,
  ⟨(some 25), none, .ld none (.t 24)⟩,
  ⟨(some 26), none, .mkf (.func nPartitionCheck1) [] [(.t 2)]⟩,
  ⟨(some 27), none, .call nSlicesContainsFuncIntInt [(.t 25), (.t 26)]⟩,
  ⟨(some 23), none, .mv (.t 27)⟩]
def rPartitionCheckX6 : List O := [
  ⟨(some 4), none, .mv (.k (.int .i64 30))⟩]
def rPartitionCheckX7 : List O := [
  ⟨(some 4), none, .mv (.k (.int .i64 0))⟩]
def cPartitionCheck : C := (.seq (.reg rPartitionCheckX0 false [] [1, 2]) (.seq (.blk 0 (.seq (.reg rPartitionCheckX1 false [] [1, 2, 5]) (.cond (.t 5) (.seq (.reg rPartitionCheckX2 false [] [4]) .ret) (.seq (.reg rPartitionCheckX3 false [] [2, 10]) (.cond (.t 10) (.seq (.reg rPartitionCheckX4 false [] [4]) .ret) (.seq (.reg rPartitionCheckX5 false [] [23]) (.cond (.t 23) (.seq (.reg rPartitionCheckX6 false [] [4]) .ret) .skip))))))) (.seq (.reg rPartitionCheckX7 false [] [4]) .ret)))
def qPartitionCheck : AFn := ⟨28, 2, [.t 4], cPartitionCheck⟩
/- cohesion/cohesionref03.Degree -/
def rRef03DegreeX0 : List O := [
  ⟨(some 2), none, .box (.t 0)⟩,
  ⟨(some 4), none, .mv (.k (.int .i64 0))⟩]
def rRef03DegreeX1 : List O := [
  ⟨(some 5), none, .ld (some 2) (.t 2)⟩,
  ⟨(some 6), none, .mv (.t 1)⟩,
  ⟨(some 7), none, .call nRef03Neighbours [(.t 5), (.t 6)]⟩,
  ⟨(some 8), none, .len (.t 7)⟩,
  ⟨(some 4), none, .mv (.t 8)⟩]
def cRef03Degree : C := (.seq (.reg rRef03DegreeX0 false [] [1, 2]) (.seq (.reg rRef03DegreeX1 false [] [4]) .ret))
def qRef03Degree : AFn := ⟨9, 2, [.t 4], cRef03Degree⟩
/- cohesion/cohesionref02.Has -/
def rRef02HasX0 : List O := [
  ⟨(some 4), none, .mv (.k (.bool false))⟩]
def rRef02HasX1 : List O := [
  ⟨(some 7), none, .mv (.t 0)⟩,
  ⟨(some 8), none, .len (.t 7)⟩,
  ⟨(some 9), none, .mv (.k (.int .i64 0))⟩]
def rRef02HasX2 : List O := [
  ⟨(some 10), none, .bin .lss (.t 9) (.t 8)⟩]
def rRef02HasX3 : List O := [
  ⟨(some 11), none, .ixa 1 (.t 7) (.t 9)⟩,
  ⟨(some 12), none, .ld none (.t 11)⟩,
  ⟨(some 6), none, .mv (.t 12)⟩]
def rRef02HasX4 : List O := [
  ⟨(some 13), none, .mv (.t 6)⟩,
  ⟨(some 14), none, .mv (.t 1)⟩,
  ⟨(some 15), none, .bin .eql (.t 13) (.t 14)⟩]
def rRef02HasX5 : List O := [
  ⟨(some 4), none, .mv (.k (.bool true))⟩]
def rRef02HasX6 : List O := [
  ⟨(some 16), none, .bin .add (.t 9) (.k (.int .i64 1))⟩,
  ⟨(some 9), none, .mv (.t 16)⟩]
def lRef02HasX0 : C := (.seq (.reg rRef02HasX2 false [] [1, 7, 8, 9, 10]) (.seq (.cond (.t 10) .skip (.exit 0)) (.seq (.blk 1 (.seq (.reg rRef02HasX3 false [] [1, 6, 7, 8, 9]) (.seq (.reg rRef02HasX4 false [] [1, 7, 8, 9, 15]) (.cond (.t 15) (.seq (.reg rRef02HasX5 false [] [4]) .ret) .skip)))) (.reg rRef02HasX6 false [] [1, 7, 8, 9]))))
def rRef02HasX7 : List O := [
  ⟨(some 4), none, .mv (.k (.bool false))⟩]
def cRef02Has : C := (.seq (.reg rRef02HasX0 false [] [0, 1]) (.seq (.seq (.reg rRef02HasX1 false [] [1, 7, 8, 9]) (.blk 0 (.loop lRef02HasX0))) (.seq (.reg rRef02HasX7 false [] [4]) .ret)))
def qRef02Has : AFn := ⟨17, 2, [.t 4], cRef02Has⟩
/- cohesion/cohesionref02.Cmp -/
def rRef02CmpX0 : List O := [
  ⟨(some 4), none, .mv (.k (.int .i64 0))⟩]
def rRef02CmpX1 : List O := [
  ⟨(some 6), none, .mv (.t 0)⟩,
  ⟨(some 7), none, .len (.t 6)⟩,
  ⟨(some 8), none, .mv (.k (.int .i64 0))⟩]
def rRef02CmpX2 : List O := [
  ⟨(some 9), none, .bin .lss (.t 8) (.t 7)⟩]
def rRef02CmpX3 : List O := [
  ⟨(some 10), none, .mv (.t 8)⟩,
  ⟨(some 5), none, .mv (.t 10)⟩]
def rRef02CmpX4 : List O := [
  ⟨(some 12), none, .mv (.t 5)⟩,
  ⟨(some 13), none, .mv (.t 1)⟩,
  ⟨(some 14), none, .len (.t 13)⟩,
  ⟨(some 15), none, .bin .geq (.t 12) (.t 14)⟩,
  ⟨(some 16), none, .mv (.t 15)⟩,
  ⟨(some 17), (some (16, false)), .mv (.t 0)⟩,
  ⟨(some 18), (some (16, false)), .mv (.t 5)⟩,
  ⟨(some 19), (some (16, false)), .ixa 1 (.t 17) (.t 18)⟩,
  ⟨(some 20), (some (16, false)), .ld none (.t 19)⟩,
  ⟨(some 21), (some (16, false)), .mv (.t 1)⟩,
  ⟨(some 22), (some (16, false)), .mv (.t 5)⟩,
  ⟨(some 23), (some (16, false)), .ixa 1 (.t 21) (.t 22)⟩,
  ⟨(some 24), (some (16, false)), .ld none (.t 23)⟩,
  ⟨(some 25), (some (16, false)), .bin .gtr (.t 20) (.t 24)⟩,
  ⟨(some 26), none, .pick (.t 16) (.k (.bool true)) (.t 25)⟩,
  ⟨(some 11), none, .mv (.t 26)⟩]
def rRef02CmpX5 : List O := [
  ⟨(some 4), none, .mv (.k (.int .i64 1))⟩]
def rRef02CmpX6 : List O := [
  ⟨(some 28), none, .mv (.t 0)⟩,
  ⟨(some 29), none, .mv (.t 5)⟩,
  ⟨(some 30), none, .ixa 1 (.t 28) (.t 29)⟩,
  ⟨(some 31), none, .ld none (.t 30)⟩,
  ⟨(some 32), none, .mv (.t 1)⟩,
  ⟨(some 33), none, .mv (.t 5)⟩,
  ⟨(some 34), none, .ixa 1 (.t 32) (.t 33)⟩,
  ⟨(some 35), none, .ld none (.t 34)⟩,
  ⟨(some 36), none, .bin .lss (.t 31) (.t 35)⟩,
  ⟨(some 27), none, .mv (.t 36)⟩]
def rRef02CmpX7 : List O := [
  ⟨(some 4), none, .mv (.k (.int .i64 (-1)))⟩]
def rRef02CmpX8 : List O := [
  ⟨(some 37), none, .bin .add (.t 8) (.k (.int .i64 1))⟩,
  ⟨(some 8), none, .mv (.t 37)⟩]
def lRef02CmpX0 : C := (.seq (.reg rRef02CmpX2 false [] [0, 1, 7, 8, 9]) (.seq (.cond (.t 9) .skip (.exit 0)) (.seq (.blk 1 (.seq (.reg rRef02CmpX3 false [] [0, 1, 5, 7, 8]) (.blk 2 (.seq (.reg rRef02CmpX4 true [(3, 3), (4, 4), (13, 13), (14, 14), (15, 15), (8, 9), (8, 10), (8, 11), (5, 12), (6, 12), (7, 12), (8, 12)] [0, 1, 5, 7, 8, 11]) (.cond (.t 11) (.seq (.reg rRef02CmpX5 false [] [4]) .ret) (.seq (.reg rRef02CmpX6 true [(8, 8), (9, 9), (3, 4), (3, 5), (3, 6), (0, 7), (1, 7), (2, 7), (3, 7)] [0, 1, 7, 8, 27]) (.cond (.t 27) (.seq (.reg rRef02CmpX7 false [] [4]) .ret) .skip))))))) (.reg rRef02CmpX8 false [] [0, 1, 7, 8]))))
def rRef02CmpX9 : List O := [
  ⟨(some 38), none, .mv (.t 0)⟩,
  ⟨(some 39), none, .len (.t 38)⟩,
  ⟨(some 40), none, .mv (.t 1)⟩,
  ⟨(some 41), none, .len (.t 40)⟩,
  ⟨(some 42), none, .bin .lss (.t 39) (.t 41)⟩]
def rRef02CmpX10 : List O := [
  ⟨(some 4), none, .mv (.k (.int .i64 (-1)))⟩]
def rRef02CmpX11 : List O := [
  ⟨(some 4), none, .mv (.k (.int .i64 0))⟩]
def cRef02Cmp : C := (.seq (.reg rRef02CmpX0 false [] [0, 1]) (.seq (.seq (.reg rRef02CmpX1 false [] [0, 1, 7, 8]) (.blk 0 (.loop lRef02CmpX0))) (.seq (.seq (.reg rRef02CmpX9 false [] [42]) (.cond (.t 42) (.seq (.reg rRef02CmpX10 false [] [4]) .ret) .skip)) (.seq (.reg rRef02CmpX11 false [] [4]) .ret))))
def qRef02Cmp : AFn := ⟨43, 2, [.t 4], cRef02Cmp⟩
/- cohesion/cohesionref02.Of -/
def rRef02OfX0 : List O := [
  ⟨(some 2), none, .mv (.k (.own 1 []))⟩]
def rRef02OfX1 : List O := [
  ⟨(some 3), none, .mv (.k (.own 1 []))⟩]
def rRef02OfX2 : List O := [
  ⟨(some 6), none, .mv (.t 0)⟩,
  ⟨(some 7), none, .len (.t 6)⟩,
  ⟨(some 8), none, .mv (.k (.int .i64 0))⟩]
def rRef02OfX3 : List O := [
  ⟨(some 9), none, .bin .lss (.t 8) (.t 7)⟩]
def rRef02OfX4 : List O := [
  ⟨(some 10), none, .ixa 1 (.t 6) (.t 8)⟩,
  ⟨(some 11), none, .ld none (.t 10)⟩,
  ⟨(some 5), none, .mv (.t 11)⟩]
def rRef02OfX5 : List O := [
  ⟨(some 12), none, .mv (.t 3)⟩,
  ⟨(some 13), none, .mv (.t 5)⟩,
  ⟨(some 14), none, .call nRef02Put [(.t 12), (.t 13)]⟩,
  ⟨(some 3), none, .mv (.t 14)⟩]
def rRef02OfX6 : List O := [
  ⟨(some 15), none, .bin .add (.t 8) (.k (.int .i64 1))⟩,
  ⟨(some 8), none, .mv (.t 15)⟩]
def lRef02OfX0 : C := (.seq (.reg rRef02OfX3 false [] [3, 6, 7, 8, 9]) (.seq (.cond (.t 9) .skip (.exit 0)) (.seq (.blk 1 (.seq (.reg rRef02OfX4 false [] [3, 5, 6, 7, 8]) (.reg rRef02OfX5 false [] [3, 6, 7, 8]))) (.reg rRef02OfX6 false [] [3, 6, 7, 8]))))
def rRef02OfX7 : List O := [
  ⟨(some 16), none, .mv (.t 3)⟩,
  ⟨(some 2), none, .mv (.t 16)⟩]
def cRef02Of : C := (.seq (.reg rRef02OfX0 false [] [0]) (.seq (.reg rRef02OfX1 false [] [0, 3]) (.seq (.seq (.reg rRef02OfX2 false [] [3, 6, 7, 8]) (.blk 0 (.loop lRef02OfX0))) (.seq (.reg rRef02OfX7 false [] [2]) .ret))))
def qRef02Of : AFn := ⟨17, 1, [.t 2], cRef02Of⟩
/- (*cohesion/cohesionmake.Deck).Next -/
def rMakeDeckNextX0 : List O := [
  ⟨(some 4), none, .mv (.k (.int .i64 0))⟩]
def rMakeDeckNextX1 : List O := [
  ⟨(some 6), none, .mv (.t 1)⟩,
  ⟨(some 7), none, .bin .lss (.t 6) (.k (.int .i64 1))⟩,
  ⟨(some 8), none, .mv (.t 7)⟩,
  ⟨(some 9), (some (8, false)), .mv (.t 0)⟩,
  ⟨(some 10), (some (8, false)), .nilck (.t 9)⟩,
  ⟨(some 11), (some (8, false)), .fad 1 (.t 10)⟩,
  ⟨(some 12), (some (8, false)), .ld none (.t 11)⟩,
  ⟨(some 13), (some (8, false)), .mv (.t 0)⟩,
  ⟨(some 14), (some (8, false)), .nilck (.t 13)⟩,
  ⟨(some 15), (some (8, false)), .fad 0 (.t 14)⟩,
  ⟨(some 16), (some (8, false)), .ld none (.t 15)⟩,
  ⟨(some 17), (some (8, false)), .len (.t 16)⟩,
  ⟨(some 18), (some (8, false)), .bin .geq (.t 12) (.t 17)⟩,
  ⟨(some 19), none, .pick (.t 8) (.k (.bool true)) (.t 18)⟩]
def rMakeDeckNextX2 : List O := [
  ⟨(some 4), none, .mv (.k (.int .i64 0))⟩]
def rMakeDeckNextX3 : List O := [
  ⟨(some 20), none, .mv (.t 0)⟩,
  ⟨(some 21), none, .nilck (.t 20)⟩,
  ⟨(some 22), none, .fad 0 (.t 21)⟩,
  ⟨(some 23), none, .ld none (.t 22)⟩,
  ⟨(some 24), none, .mv (.t 0)⟩,
  ⟨(some 25), none, .nilck (.t 24)⟩,
  ⟨(some 26), none, .fad 1 (.t 25)⟩,
  ⟨(some 27), none, .ld none (.t 26)⟩,
  ⟨(some 28), none, .ixa 1 (.t 23) (.t 27)⟩,
  ⟨(some 29), none, .ld none (.t 28)⟩,
  ⟨(some 5), none, .mv (.t 29)⟩]
def rMakeDeckNextX4 : List O := [
  ⟨(some 30), none, .mv (.t 0)⟩,
  ⟨(some 31), none, .nilck (.t 30)⟩,
  ⟨(some 32), none, .fad 1 (.t 31)⟩,
  ⟨(some 33), none, .ld none (.t 32)⟩,
  ⟨(some 34), none, .bin .add (.t 33) (.k (.int .i64 1))⟩,
  ⟨(some 35), none, .nilck (.t 30)⟩,
  ⟨(some 36), none, .fad 1 (.t 35)⟩,
  ⟨none, none, .st 1 (.t 36) (.t 34)⟩]
def rMakeDeckNextX5 : List O := [
  ⟨(some 37), none, .mv (.t 5)⟩,
  ⟨(some 38), none, .mv (.t 1)⟩,
  ⟨(some 39), none, .call nMakeMod [(.t 37), (.t 38)]⟩,
  ⟨(some 4), none, .mv (.t 39)⟩]
def cMakeDeckNext : C := (.seq (.reg rMakeDeckNextX0 false [] [0, 1]) (.seq (.seq (.reg rMakeDeckNextX1 true [(0, 0), (1, 1), (2, 2), (12, 12), (13, 13), (6, 7), (6, 8), (6, 9), (3, 10), (4, 10), (5, 10), (6, 10), (6, 11)] [0, 1, 19]) (.cond (.t 19) (.seq (.reg rMakeDeckNextX2 false [] [4]) .ret) .skip)) (.seq (.reg rMakeDeckNextX3 true [(8, 8), (9, 9), (10, 10), (3, 4), (3, 5), (3, 6), (0, 7), (1, 7), (2, 7), (3, 7)] [0, 1, 5]) (.seq (.reg rMakeDeckNextX4 false [] [1, 5]) (.seq (.reg rMakeDeckNextX5 false [] [4]) .ret)))))
def qMakeDeckNext : AFn := ⟨40, 2, [.t 4], cMakeDeckNext⟩
/- cohesion/partition.Home -/
def rPartitionHomeX0 : List O := [
  ⟨(some 3), none, .box (.t 0)⟩,
  ⟨(some 6), none, .mv (.k (.int .i64 0))⟩]
def rPartitionHomeX1 : List O := [
  ⟨(some 7), none, .ld (some 3) (.t 3)⟩,
  ⟨(some 8), none, .fad 1 (.t 3)⟩,
  ⟨(some 9), none, .ld none (.t 8)⟩,
  ⟨(some 10), none, .len (.t 9)⟩,
  ⟨(some 11), none, .call nPartitionCheck [(.t 7), (.t 10)]⟩,
  ⟨(some 12), none, .bin .neq (.t 11) (.k (.int .i64 0))⟩,
  ⟨(some 13), none, .mv (.t 12)⟩,
  ⟨(some 14), (some (13, false)), .mv (.t 1)⟩,
  ⟨(some 15), (some (13, false)), .bin .lss (.t 14) (.k (.int .i64 0))⟩,
  ⟨(some 16), none, .pick (.t 13) (.k (.bool true)) (.t 15)⟩,
  ⟨(some 17), none, .mv (.t 16)⟩,
  ⟨(some 18), (some (17, false)), .mv (.t 1)⟩,
  ⟨(some 19), (some (17, false)), .mv (.t 2)⟩,
  ⟨(some 20), (some (17, false)), .bin .geq (.t 18) (.t 19)⟩,
  ⟨(some 21), none, .pick (.t 17) (.k (.bool true)) (.t 20)⟩,
  ⟨(some 22), none, .mv (.t 21)⟩,
  ⟨(some 23), (some (22, false)), .mv (.t 2)⟩,
  ⟨(some 24), (some (22, false)), .fad 1 (.t 3)⟩,
  ⟨(some 25), (some (22, false)), .ld none (.t 24)⟩,
  ⟨(some 26), (some (22, false)), .len (.t 25)⟩,
  ⟨(some 27), (some (22, false)), .bin .geq (.t 23) (.t 26)⟩,
  ⟨(some 28), none, .pick (.t 22) (.k (.bool true)) (.t 27)⟩]
def rPartitionHomeX2 : List O := [
  ⟨(some 6), none, .mv (.k (.int .i64 (-1)))⟩]
def rPartitionHomeX3 : List O := [
  ⟨(some 29), none, .ld (some 3) (.t 3)⟩,
  ⟨(some 30), none, .mv (.t 1)⟩,
  ⟨(some 31), none, .mv (.t 2)⟩,
  ⟨(some 32), none, .call nPartitionHomeN40 [(.t 29), (.t 30), (.t 31)]⟩,
  ⟨(some 6), none, .mv (.t 32)⟩]
def cPartitionHome : C := (.seq (.reg rPartitionHomeX0 false [] [1, 2, 3]) (.seq (.seq (.reg rPartitionHomeX1 false [] [1, 2, 3, 28]) (.cond (.t 28) (.seq (.reg rPartitionHomeX2 false [] [6]) .ret) .skip)) (.seq (.reg rPartitionHomeX3 false [] [6]) .ret)))
def qPartitionHome : AFn := ⟨33, 3, [.t 6], cPartitionHome⟩
/- cohesion/degree.Degrees -/
def rDegreeDegreesX0 : List O := [
  ⟨(some 1), none, .box (.t 0)⟩,
  ⟨(some 2), none, .mv (.k (.own 1 []))⟩,
  ⟨(some 3), none, .mv (.k (.int .i64 0))⟩]
def rDegreeDegreesX1 : List O := [
  ⟨(some 8), none, .ld (some 2) (.t 1)⟩,
  ⟨(some 9), none, .call nGraphCheck [(.t 8)]⟩,
  ⟨(some 4), none, .mv (.t 9)⟩]
def rDegreeDegreesX2 : List O := [
  ⟨(some 10), none, .mv (.t 4)⟩,
  ⟨(some 11), none, .bin .neq (.t 10) (.k (.int .i64 0))⟩]
def rDegreeDegreesX3 : List O := [
  ⟨(some 12), none, .mv (.t 4)⟩,
  ⟨(some 2), none, .mv (.k (.own 1 []))⟩,
  ⟨(some 3), none, .mv (.t 12)⟩]
def rDegreeDegreesX4 : List O := [
  ⟨(some 5), none, .mv (.k (.own 1 []))⟩]
def rDegreeDegreesX5 : List O := [
  ⟨(some 13), none, .ld (some 2) (.t 1)⟩,
  ⟨(some 14), none, .call nMasksRows [(.t 13)]⟩,
  ⟨(some 15), none, .len (.t 14)⟩,
  ⟨(some 16), none, .mv (.k (.int .i64 0))⟩]
def rDegreeDegreesX6 : List O := [
  ⟨(some 17), none, .bin .lss (.t 16) (.t 15)⟩]
def rDegreeDegreesX7 : List O := [
  ⟨(some 18), none, .ixa 1 (.t 14) (.t 16)⟩,
  ⟨(some 19), none, .ld none (.t 18)⟩,
  ⟨(some 7), none, .mv (.t 19)⟩]
def rDegreeDegreesX8 : List O := [
  ⟨(some 20), none, .mv (.t 5)⟩,
  ⟨(some 21), none, .mv (.t 7)⟩,
  ⟨(some 22), none, .call nMasksCount [(.t 21)]⟩,
  ⟨(some 23), none, .bslice 1 1 [(.int .i64 0)] [(0, 1, (.t 22))]⟩,
  ⟨(some 24), none, .app 1 (.t 20) (.t 23)⟩,
  ⟨(some 5), none, .mv (.t 24)⟩]
def rDegreeDegreesX9 : List O := [
  ⟨(some 25), none, .bin .add (.t 16) (.k (.int .i64 1))⟩,
  ⟨(some 16), none, .mv (.t 25)⟩]
def lDegreeDegreesX0 : C := (.seq (.reg rDegreeDegreesX6 false [] [5, 14, 15, 16, 17]) (.seq (.cond (.t 17) .skip (.exit 0)) (.seq (.blk 1 (.seq (.reg rDegreeDegreesX7 false [] [5, 7, 14, 15, 16]) (.reg rDegreeDegreesX8 false [] [5, 14, 15, 16]))) (.reg rDegreeDegreesX9 false [] [5, 14, 15, 16]))))
def rDegreeDegreesX10 : List O := [
  ⟨(some 26), none, .mv (.t 5)⟩,
  ⟨(some 2), none, .mv (.t 26)⟩,
  ⟨(some 3), none, .mv (.k (.int .i64 0))⟩]
def cDegreeDegrees : C := (.seq (.reg rDegreeDegreesX0 false [] [1]) (.seq (.seq (.reg rDegreeDegreesX1 false [] [1, 4]) (.seq (.reg rDegreeDegreesX2 false [] [1, 4, 11]) (.cond (.t 11) (.seq (.reg rDegreeDegreesX3 false [] [2, 3]) .ret) .skip))) (.seq (.reg rDegreeDegreesX4 false [] [1, 5]) (.seq (.seq (.reg rDegreeDegreesX5 false [] [5, 14, 15, 16]) (.blk 0 (.loop lDegreeDegreesX0))) (.seq (.reg rDegreeDegreesX10 false [] [2, 3]) .ret)))))
def qDegreeDegrees : AFn := ⟨27, 1, [.t 2, .t 3], cDegreeDegrees⟩
/- cohesion/partition.workers -/
def rPartitionWorkersX0 : List O := [
  ⟨(some 2), none, .mv (.k (.bool false))⟩]
def rPartitionWorkersX1 : List O := [
  ⟨(some 3), none, .mv (.t 0)⟩,
  ⟨(some 4), none, .bin .geq (.t 3) (.k (.int .i64 1))⟩,
  ⟨(some 5), none, .mv (.t 4)⟩,
  ⟨(some 6), (some (5, true)), .mv (.t 0)⟩,
  ⟨(some 7), (some (5, true)), .bin .leq (.t 6) (.k (.int .i64 8))⟩,
  ⟨(some 8), none, .pick (.t 5) (.t 7) (.k (.bool false))⟩,
  ⟨(some 2), none, .mv (.t 8)⟩]
def cPartitionWorkers : C := (.seq (.reg rPartitionWorkersX0 false [] [0]) (.seq (.reg rPartitionWorkersX1 false [] [2]) .ret))
def qPartitionWorkers : AFn := ⟨9, 1, [.t 2], cPartitionWorkers⟩
/- slices.SortFunc[[]cohesion/partition.part,cohesion/partition.part] -/
def rSlicesSortFuncPartitionPartPartitionPartX0 : List O := [
  ⟨(some 5), none, .mv (.t 0)⟩,
  ⟨(some 6), none, .len (.t 5)⟩,
  ⟨(some 4), none, .mv (.t 6)⟩]
def rSlicesSortFuncPartitionPartPartitionPartX1 : List O := [
  ⟨(some 7), none, .mv (.t 0)⟩,
  ⟨(some 8), none, .mv (.t 4)⟩,
  ⟨(some 9), none, .mv (.t 4)⟩,
  ⟨(some 10), none, .cvt .u64 (.t 9)⟩,
  ⟨(some 11), none, .call 51 [(.t 10)]⟩,
  ⟨(some 12), none, .mv (.t 1)⟩,
  ⟨(some 13), none, .call 50 [(.t 7), (.k (.int .i64 0)), (.t 8), (.t 11), (.t 12)]⟩]
def cSlicesSortFuncPartitionPartPartitionPart : C := (.seq (.reg rSlicesSortFuncPartitionPartPartitionPartX0 false [] [0, 1, 4]) (.reg rSlicesSortFuncPartitionPartPartitionPartX1 false [] []))
def qSlicesSortFuncPartitionPartPartitionPart : AFn := ⟨14, 2, [], cSlicesSortFuncPartitionPartPartitionPart⟩
/- cohesion/partition.Make$1 -/
def rPartitionMake1X0 : List O := [
  ⟨(some 2), none, .box (.t 0)⟩,
  ⟨(some 3), none, .box (.t 1)⟩,
  ⟨(some 4), none, .mv (.k (.int .i64 0))⟩]
def rPartitionMake1X1 : List O := [
  ⟨(some 5), none, .fad 0 (.t 3)⟩,
  ⟨(some 6), none, .ld none (.t 5)⟩,
  ⟨(some 7), none, .fad 0 (.t 2)⟩,
  ⟨(some 8), none, .ld none (.t 7)⟩,
  ⟨(some 9), none, .call nCmpCompareInt [(.t 6), (.t 8)]⟩,
  ⟨(some 10), none, .fad 1 (.t 2)⟩,
  ⟨(some 11), none, .ld none (.t 10)⟩,
  ⟨(some 12), none, .fad 1 (.t 3)⟩,
  ⟨(some 13), none, .ld none (.t 12)⟩,
  ⟨(some 14), none, .call nCmpCompareInt [(.t 11), (.t 13)]⟩,
  ⟨(some 15), none, .bslice 1 2 [(.int .i64 0)] [(0, 1, (.t 9)), (1, 1, (.t 14))]⟩,
  ⟨(some 16), none, .call nCmpOrInt [(.t 15)]⟩,
  ⟨(some 4), none, .mv (.t 16)⟩]
def cPartitionMake1 : C := (.seq (.reg rPartitionMake1X0 false [] [2, 3]) (.seq (.reg rPartitionMake1X1 true [(9, 9), (10, 10), (11, 11), (12, 12), (1, 2), (0, 3), (1, 3), (1, 5), (3, 5), (4, 5), (0, 6), (1, 6), (2, 6), (3, 6), (4, 6), (1, 7), (3, 7), (4, 7), (6, 7), (0, 8), (1, 8), (2, 8), (3, 8), (4, 8), (5, 8), (6, 8)] [4]) .ret))
def qPartitionMake1 : AFn := ⟨17, 2, [.t 4], cPartitionMake1⟩
/- cmp.Or[int] -/
def rCmpOrIntX0 : List O := [
  ⟨(some 2), none, .mv (.k (.int .i64 0))⟩]
def rCmpOrIntX1 : List O := [
  ⟨(some 3), none, .mv (.k (.int .i64 0))⟩]
def rCmpOrIntX2 : List O := [
  ⟨(some 6), none, .mv (.t 0)⟩,
  ⟨(some 7), none, .len (.t 6)⟩,
  ⟨(some 8), none, .mv (.k (.int .i64 0))⟩]
def rCmpOrIntX3 : List O := [
  ⟨(some 9), none, .bin .lss (.t 8) (.t 7)⟩]
def rCmpOrIntX4 : List O := [
  ⟨(some 10), none, .ixa 1 (.t 6) (.t 8)⟩,
  ⟨(some 11), none, .ld none (.t 10)⟩,
  ⟨(some 5), none, .mv (.t 11)⟩]
def rCmpOrIntX5 : List O := [
  ⟨(some 12), none, .mv (.t 5)⟩,
  ⟨(some 13), none, .mv (.t 3)⟩,
  ⟨(some 14), none, .bin .neq (.t 12) (.t 13)⟩]
def rCmpOrIntX6 : List O := [
  ⟨(some 15), none, .mv (.t 5)⟩,
  ⟨(some 2), none, .mv (.t 15)⟩]
def rCmpOrIntX7 : List O := [
  ⟨(some 16), none, .bin .add (.t 8) (.k (.int .i64 1))⟩,
  ⟨(some 8), none, .mv (.t 16)⟩]
def lCmpOrIntX0 : C := (.seq (.reg rCmpOrIntX3 false [] [3, 6, 7, 8, 9]) (.seq (.cond (.t 9) .skip (.exit 0)) (.seq (.blk 1 (.seq (.reg rCmpOrIntX4 false [] [3, 5, 6, 7, 8]) (.seq (.reg rCmpOrIntX5 false [] [3, 5, 6, 7, 8, 14]) (.cond (.t 14) (.seq (.reg rCmpOrIntX6 false [] [2]) .ret) .skip)))) (.reg rCmpOrIntX7 false [] [3, 6, 7, 8]))))
def rCmpOrIntX8 : List O := [
  ⟨(some 17), none, .mv (.t 3)⟩,
  ⟨(some 2), none, .mv (.t 17)⟩]
def cCmpOrInt : C := (.seq (.reg rCmpOrIntX0 false [] [0]) (.seq (.reg rCmpOrIntX1 false [] [0, 3]) (.seq (.seq (.reg rCmpOrIntX2 false [] [3, 6, 7, 8]) (.blk 0 (.loop lCmpOrIntX0))) (.seq (.reg rCmpOrIntX8 false [] [2]) .ret))))
def qCmpOrInt : AFn := ⟨18, 1, [.t 2], cCmpOrInt⟩
/- cmp.Compare[int] -/
def rCmpCompareIntX0 : List O := [
  ⟨(some 4), none, .mv (.k (.int .i64 0))⟩]
def rCmpCompareIntX1 : List O := [
  ⟨(some 7), none, .mv (.t 0)⟩,
  ⟨(some 8), none, .call nCmpIsNaNInt [(.t 7)]⟩,
  ⟨(some 5), none, .mv (.t 8)⟩]
def rCmpCompareIntX2 : List O := [
  ⟨(some 9), none, .mv (.t 1)⟩,
  ⟨(some 10), none, .call nCmpIsNaNInt [(.t 9)]⟩,
  ⟨(some 6), none, .mv (.t 10)⟩]
def rCmpCompareIntX3 : List O := [
  ⟨(some 11), none, .mv (.t 5)⟩]
def rCmpCompareIntX4 : List O := [
  ⟨(some 12), none, .mv (.t 6)⟩]
def rCmpCompareIntX5 : List O := [
  ⟨(some 4), none, .mv (.k (.int .i64 0))⟩]
def rCmpCompareIntX6 : List O := [
  ⟨(some 4), none, .mv (.k (.int .i64 (-1)))⟩]
def rCmpCompareIntX7 : List O := [
  ⟨(some 13), none, .mv (.t 6)⟩]
def rCmpCompareIntX8 : List O := [
  ⟨(some 4), none, .mv (.k (.int .i64 1))⟩]
def rCmpCompareIntX9 : List O := [
  ⟨(some 14), none, .mv (.t 0)⟩,
  ⟨(some 15), none, .mv (.t 1)⟩,
  ⟨(some 16), none, .bin .lss (.t 14) (.t 15)⟩]
def rCmpCompareIntX10 : List O := [
  ⟨(some 4), none, .mv (.k (.int .i64 (-1)))⟩]
def rCmpCompareIntX11 : List O := [
  ⟨(some 17), none, .mv (.t 0)⟩,
  ⟨(some 18), none, .mv (.t 1)⟩,
  ⟨(some 19), none, .bin .gtr (.t 17) (.t 18)⟩]
def rCmpCompareIntX12 : List O := [
  ⟨(some 4), none, .mv (.k (.int .i64 1))⟩]
def rCmpCompareIntX13 : List O := [
  ⟨(some 4), none, .mv (.k (.int .i64 0))⟩]
def cCmpCompareInt : C := (.seq (.reg rCmpCompareIntX0 false [] [0, 1]) (.seq (.reg rCmpCompareIntX1 false [] [0, 1, 5]) (.seq (.reg rCmpCompareIntX2 false [] [0, 1, 5, 6]) (.seq (.seq (.reg rCmpCompareIntX3 false [] [0, 1, 6, 11]) (.cond (.t 11) (.seq (.seq (.reg rCmpCompareIntX4 false [] [12]) (.cond (.t 12) (.seq (.reg rCmpCompareIntX5 false [] [4]) .ret) .skip)) (.seq (.reg rCmpCompareIntX6 false [] [4]) .ret)) .skip)) (.seq (.seq (.reg rCmpCompareIntX7 false [] [0, 1, 13]) (.cond (.t 13) (.seq (.reg rCmpCompareIntX8 false [] [4]) .ret) .skip)) (.seq (.seq (.reg rCmpCompareIntX9 false [] [0, 1, 16]) (.cond (.t 16) (.seq (.reg rCmpCompareIntX10 false [] [4]) .ret) .skip)) (.seq (.seq (.reg rCmpCompareIntX11 false [] [19]) (.cond (.t 19) (.seq (.reg rCmpCompareIntX12 false [] [4]) .ret) .skip)) (.seq (.reg rCmpCompareIntX13 false [] [4]) .ret))))))))
def qCmpCompareInt : AFn := ⟨20, 2, [.t 4], cCmpCompareInt⟩
/- slices.MinFunc[[]cohesion/partition.part,cohesion/partition.part] -/
def rSlicesMinFuncPartitionPartPartitionPartX0 : List O := [
  ⟨(some 4), none, .new [(.int .i64 0), (.int .i64 0)]⟩]
def rSlicesMinFuncPartitionPartPartitionPartX1 : List O := [
  ⟨(some 7), none, .mv (.t 0)⟩,
  ⟨(some 8), none, .len (.t 7)⟩,
  ⟨(some 9), none, .bin .lss (.t 8) (.k (.int .i64 1))⟩]
def rSlicesMinFuncPartitionPartPartitionPartX2 : List O := [
  ⟨(some 10), none, .bad⟩,
  ⟨none, none, .bad⟩]
def rSlicesMinFuncPartitionPartPartitionPartX3 : List O := [
  ⟨(some 11), none, .mv (.t 0)⟩,
  ⟨(some 12), none, .ixa 2 (.t 11) (.k (.int .i64 0))⟩,
  ⟨(some 13), none, .ld (some 2) (.t 12)⟩,
  ⟨(some 5), none, .new [(.int .i64 0), (.int .i64 0)]⟩,
  ⟨none, none, .st 2 (.t 5) (.t 13)⟩]
def rSlicesMinFuncPartitionPartPartitionPartX4 : List O := [
  ⟨(some 6), none, .mv (.k (.int .i64 1))⟩]
def rSlicesMinFuncPartitionPartPartitionPartX5 : List O := [
  ⟨(some 14), none, .mv (.t 6)⟩,
  ⟨(some 15), none, .mv (.t 0)⟩,
  ⟨(some 16), none, .len (.t 15)⟩,
  ⟨(some 17), none, .bin .lss (.t 14) (.t 16)⟩]
def rSlicesMinFuncPartitionPartPartitionPartX6 : List O := [
  ⟨(some 20), none, .mv (.t 1)⟩,
  ⟨(some 21), none, .mv (.t 0)⟩,
  ⟨(some 22), none, .mv (.t 6)⟩,
  ⟨(some 23), none, .ixa 2 (.t 21) (.t 22)⟩,
  ⟨(some 24), none, .ld (some 2) (.t 23)⟩,
  ⟨(some 25), none, .ld (some 2) (.t 5)⟩,
  ⟨(some 26), none, .callv (.t 20) [(.t 24), (.t 25)]⟩,
  ⟨(some 27), none, .bin .lss (.t 26) (.k (.int .i64 0))⟩]
def rSlicesMinFuncPartitionPartPartitionPartX7 : List O := [
  ⟨(some 28), none, .mv (.t 0)⟩,
  ⟨(some 29), none, .mv (.t 6)⟩,
  ⟨(some 30), none, .ixa 2 (.t 28) (.t 29)⟩,
  ⟨(some 31), none, .ld (some 2) (.t 30)⟩,
  ⟨none, none, .st 2 (.t 5) (.t 31)⟩]
def rSlicesMinFuncPartitionPartPartitionPartX8 : List O := [
  ⟨(some 18), none, .mv (.t 6)⟩,
  ⟨(some 19), none, .bin .add (.t 18) (.k (.int .i64 1))⟩,
  ⟨(some 6), none, .mv (.t 19)⟩]
def lSlicesMinFuncPartitionPartPartitionPartX0 : C := (.seq (.seq (.reg rSlicesMinFuncPartitionPartPartitionPartX5 false [] [0, 1, 4, 5, 6, 17]) (.cond (.t 17) .skip (.exit 0))) (.seq (.blk 1 (.seq (.reg rSlicesMinFuncPartitionPartPartitionPartX6 true [(6, 6), (7, 7), (0, 4), (0, 5), (1, 5), (2, 5), (3, 5), (4, 5)] [0, 1, 4, 5, 6, 27]) (.cond (.t 27) (.reg rSlicesMinFuncPartitionPartPartitionPartX7 false [] [0, 1, 4, 5, 6]) .skip))) (.reg rSlicesMinFuncPartitionPartPartitionPartX8 false [] [0, 1, 4, 5, 6])))
def rSlicesMinFuncPartitionPartPartitionPartX9 : List O := [
  ⟨(some 32), none, .ld (some 2) (.t 5)⟩,
  ⟨none, none, .st 2 (.t 4) (.t 32)⟩]
def cSlicesMinFuncPartitionPartPartitionPart : C := (.seq (.reg rSlicesMinFuncPartitionPartPartitionPartX0 false [] [0, 1, 4]) (.seq (.seq (.reg rSlicesMinFuncPartitionPartPartitionPartX1 false [] [0, 1, 4, 9]) (.cond (.t 9) (.reg rSlicesMinFuncPartitionPartPartitionPartX2 false [] [0, 1, 4]) .skip)) (.seq (.reg rSlicesMinFuncPartitionPartPartitionPartX3 false [] [0, 1, 4, 5]) (.seq (.seq (.reg rSlicesMinFuncPartitionPartPartitionPartX4 false [] [0, 1, 4, 5, 6]) (.blk 0 (.loop lSlicesMinFuncPartitionPartPartitionPartX0))) (.seq (.reg rSlicesMinFuncPartitionPartPartitionPartX9 false [] [4]) .ret)))))
def qSlicesMinFuncPartitionPartPartitionPart : AFn := ⟨33, 2, [.c 4 (some 2)], cSlicesMinFuncPartitionPartPartitionPart⟩
/- cohesion/partition.Make$2 -/
def rPartitionMake2X0 : List O := [
  ⟨(some 2), none, .box (.t 0)⟩,
  ⟨(some 3), none, .box (.t 1)⟩,
  ⟨(some 4), none, .mv (.k (.int .i64 0))⟩]
def rPartitionMake2X1 : List O := [
  ⟨(some 5), none, .fad 0 (.t 2)⟩,
  ⟨(some 6), none, .ld none (.t 5)⟩,
  ⟨(some 7), none, .fad 0 (.t 3)⟩,
  ⟨(some 8), none, .ld none (.t 7)⟩,
  ⟨(some 9), none, .call nCmpCompareInt [(.t 6), (.t 8)]⟩,
  ⟨(some 10), none, .fad 1 (.t 2)⟩,
  ⟨(some 11), none, .ld none (.t 10)⟩,
  ⟨(some 12), none, .fad 1 (.t 3)⟩,
  ⟨(some 13), none, .ld none (.t 12)⟩,
  ⟨(some 14), none, .call nCmpCompareInt [(.t 11), (.t 13)]⟩,
  ⟨(some 15), none, .bslice 1 2 [(.int .i64 0)] [(0, 1, (.t 9)), (1, 1, (.t 14))]⟩,
  ⟨(some 16), none, .call nCmpOrInt [(.t 15)]⟩,
  ⟨(some 4), none, .mv (.t 16)⟩]
def cPartitionMake2 : C := (.seq (.reg rPartitionMake2X0 false [] [2, 3]) (.seq (.reg rPartitionMake2X1 true [(9, 9), (10, 10), (11, 11), (12, 12), (1, 2), (0, 3), (1, 3), (1, 5), (3, 5), (4, 5), (0, 6), (1, 6), (2, 6), (3, 6), (4, 6), (1, 7), (3, 7), (4, 7), (6, 7), (0, 8), (1, 8), (2, 8), (3, 8), (4, 8), (5, 8), (6, 8)] [4]) .ret))
def qPartitionMake2 : AFn := ⟨17, 2, [.t 4], cPartitionMake2⟩
/- cohesion/cohesionref02.Valid -/
def rRef02ValidX0 : List O := [
  ⟨(some 4), none, .mv (.k (.bool false))⟩]
def rRef02ValidX1 : List O := [
  ⟨(some 7), none, .mv (.t 0)⟩,
  ⟨(some 8), none, .len (.t 7)⟩,
  ⟨(some 9), none, .mv (.k (.int .i64 0))⟩]
def rRef02ValidX2 : List O := [
  ⟨(some 10), none, .bin .lss (.t 9) (.t 8)⟩]
def rRef02ValidX3 : List O := [
  ⟨(some 11), none, .mv (.t 9)⟩,
  ⟨(some 12), none, .ixa 1 (.t 7) (.t 9)⟩,
  ⟨(some 13), none, .ld none (.t 12)⟩,
  ⟨(some 5), none, .mv (.t 11)⟩,
  ⟨(some 6), none, .mv (.t 13)⟩]
def rRef02ValidX4 : List O := [
  ⟨(some 14), none, .mv (.t 6)⟩,
  ⟨(some 15), none, .bin .lss (.t 14) (.k (.int .i64 0))⟩,
  ⟨(some 16), none, .mv (.t 15)⟩,
  ⟨(some 17), (some (16, false)), .mv (.t 6)⟩,
  ⟨(some 18), (some (16, false)), .mv (.t 1)⟩,
  ⟨(some 19), (some (16, false)), .bin .geq (.t 17) (.t 18)⟩,
  ⟨(some 20), none, .pick (.t 16) (.k (.bool true)) (.t 19)⟩,
  ⟨(some 21), none, .mv (.t 20)⟩,
  ⟨(some 22), (some (21, false)), .mv (.t 5)⟩,
  ⟨(some 23), (some (21, false)), .bin .gtr (.t 22) (.k (.int .i64 0))⟩,
  ⟨(some 24), (some (21, false)), .mv (.t 23)⟩,
  ⟨(some 25), (some (24, true)), .mv (.t 0)⟩,
  ⟨(some 26), (some (24, true)), .mv (.t 5)⟩,
  ⟨(some 27), (some (24, true)), .bin .sub (.t 26) (.k (.int .i64 1))⟩,
  ⟨(some 28), (some (24, true)), .ixa 1 (.t 25) (.t 27)⟩,
  ⟨(some 29), (some (24, true)), .ld none (.t 28)⟩,
  ⟨(some 30), (some (24, true)), .mv (.t 6)⟩,
  ⟨(some 31), (some (24, true)), .bin .geq (.t 29) (.t 30)⟩,
  ⟨(some 32), (some (21, false)), .pick (.t 24) (.t 31) (.k (.bool false))⟩,
  ⟨(some 33), none, .pick (.t 21) (.k (.bool true)) (.t 32)⟩]
def rRef02ValidX5 : List O := [
  ⟨(some 4), none, .mv (.k (.bool false))⟩]
def rRef02ValidX6 : List O := [
  ⟨(some 34), none, .bin .add (.t 9) (.k (.int .i64 1))⟩,
  ⟨(some 9), none, .mv (.t 34)⟩]
def lRef02ValidX0 : C := (.seq (.reg rRef02ValidX2 false [] [0, 1, 7, 8, 9, 10]) (.seq (.cond (.t 10) .skip (.exit 0)) (.seq (.blk 1 (.seq (.reg rRef02ValidX3 false [] [0, 1, 5, 6, 7, 8, 9]) (.seq (.reg rRef02ValidX4 false [] [0, 1, 7, 8, 9, 33]) (.cond (.t 33) (.seq (.reg rRef02ValidX5 false [] [4]) .ret) .skip)))) (.reg rRef02ValidX6 false [] [0, 1, 7, 8, 9]))))
def rRef02ValidX7 : List O := [
  ⟨(some 4), none, .mv (.k (.bool true))⟩]
def cRef02Valid : C := (.seq (.reg rRef02ValidX0 false [] [0, 1]) (.seq (.seq (.reg rRef02ValidX1 false [] [0, 1, 7, 8, 9]) (.blk 0 (.loop lRef02ValidX0))) (.seq (.reg rRef02ValidX7 false [] [4]) .ret)))
def qRef02Valid : AFn := ⟨35, 2, [.t 4], cRef02Valid⟩
/- cohesion/nodeset.Valid -/
def rNodesetValidX0 : List O := [
  ⟨(some 4), none, .mv (.k (.bool false))⟩]
def rNodesetValidX1 : List O := [
  ⟨(some 7), none, .mv (.t 0)⟩,
  ⟨(some 8), none, .len (.t 7)⟩,
  ⟨(some 9), none, .mv (.k (.int .i64 0))⟩]
def rNodesetValidX2 : List O := [
  ⟨(some 10), none, .bin .lss (.t 9) (.t 8)⟩]
def rNodesetValidX3 : List O := [
  ⟨(some 11), none, .mv (.t 9)⟩,
  ⟨(some 12), none, .ixa 1 (.t 7) (.t 9)⟩,
  ⟨(some 13), none, .ld none (.t 12)⟩,
  ⟨(some 5), none, .mv (.t 11)⟩,
  ⟨(some 6), none, .mv (.t 13)⟩]
def rNodesetValidX4 : List O := [
  ⟨(some 14), none, .mv (.t 6)⟩,
  ⟨(some 15), none, .bin .lss (.t 14) (.k (.int .i64 0))⟩,
  ⟨(some 16), none, .mv (.t 15)⟩,
  ⟨(some 17), (some (16, false)), .mv (.t 6)⟩,
  ⟨(some 18), (some (16, false)), .mv (.t 1)⟩,
  ⟨(some 19), (some (16, false)), .bin .geq (.t 17) (.t 18)⟩,
  ⟨(some 20), none, .pick (.t 16) (.k (.bool true)) (.t 19)⟩,
  ⟨(some 21), none, .mv (.t 20)⟩,
  ⟨(some 22), (some (21, false)), .mv (.t 5)⟩,
  ⟨(some 23), (some (21, false)), .bin .gtr (.t 22) (.k (.int .i64 0))⟩,
  ⟨(some 24), (some (21, false)), .mv (.t 23)⟩,
  ⟨(some 25), (some (24, true)), .mv (.t 0)⟩,
  ⟨(some 26), (some (24, true)), .mv (.t 5)⟩,
  ⟨(some 27), (some (24, true)), .bin .sub (.t 26) (.k (.int .i64 1))⟩,
  ⟨(some 28), (some (24, true)), .ixa 1 (.t 25) (.t 27)⟩,
  ⟨(some 29), (some (24, true)), .ld none (.t 28)⟩,
  ⟨(some 30), (some (24, true)), .mv (.t 6)⟩,
  ⟨(some 31), (some (24, true)), .bin .geq (.t 29) (.t 30)⟩,
  ⟨(some 32), (some (21, false)), .pick (.t 24) (.t 31) (.k (.bool false))⟩,
  ⟨(some 33), none, .pick (.t 21) (.k (.bool true)) (.t 32)⟩]
def rNodesetValidX5 : List O := [
  ⟨(some 4), none, .mv (.k (.bool false))⟩]
def rNodesetValidX6 : List O := [
  ⟨(some 34), none, .bin .add (.t 9) (.k (.int .i64 1))⟩,
  ⟨(some 9), none, .mv (.t 34)⟩]
def lNodesetValidX0 : C := (.seq (.reg rNodesetValidX2 false [] [0, 1, 7, 8, 9, 10]) (.seq (.cond (.t 10) .skip (.exit 0)) (.seq (.blk 1 (.seq (.reg rNodesetValidX3 false [] [0, 1, 5, 6, 7, 8, 9]) (.seq (.reg rNodesetValidX4 false [] [0, 1, 7, 8, 9, 33]) (.cond (.t 33) (.seq (.reg rNodesetValidX5 false [] [4]) .ret) .skip)))) (.reg rNodesetValidX6 false [] [0, 1, 7, 8, 9]))))
def rNodesetValidX7 : List O := [
  ⟨(some 4), none, .mv (.k (.bool true))⟩]
def cNodesetValid : C := (.seq (.reg rNodesetValidX0 false [] [0, 1]) (.seq (.seq (.reg rNodesetValidX1 false [] [0, 1, 7, 8, 9]) (.blk 0 (.loop lNodesetValidX0))) (.seq (.reg rNodesetValidX7 false [] [4]) .ret)))
def qNodesetValid : AFn := ⟨35, 2, [.t 4], cNodesetValid⟩
/- slices.ContainsFunc[[]int,int] -/
def rSlicesContainsFuncIntIntX0 : List O := [
  ⟨(some 4), none, .mv (.k (.bool false))⟩]
def rSlicesContainsFuncIntIntX1 : List O := [
  ⟨(some 5), none, .mv (.t 0)⟩,
  ⟨(some 6), none, .mv (.t 1)⟩,
  ⟨(some 7), none, .call nSlicesIndexFuncIntInt [(.t 5), (.t 6)]⟩,
  ⟨(some 8), none, .bin .geq (.t 7) (.k (.int .i64 0))⟩,
  ⟨(some 4), none, .mv (.t 8)⟩]
def cSlicesContainsFuncIntInt : C := (.seq (.reg rSlicesContainsFuncIntIntX0 false [] [0, 1]) (.seq (.reg rSlicesContainsFuncIntIntX1 false [] [4]) .ret))
def qSlicesContainsFuncIntInt : AFn := ⟨9, 2, [.t 4], cSlicesContainsFuncIntInt⟩
/- cohesion/partition.Check$1 -/
def rPartitionCheck1X0 : List O := [
  ⟨(some 3), none, .mv (.k (.bool false))⟩]
def rPartitionCheck1X1 : List O := [
  ⟨(some 4), none, .mv (.t 0)⟩,
  ⟨(some 5), none, .bin .lss (.t 4) (.k (.int .i64 0))⟩,
  ⟨(some 6), none, .mv (.t 5)⟩,
  ⟨(some 7), (some (6, false)), .mv (.t 0)⟩,
  ⟨(some 8), (some (6, false)), .fad 0 (.t 1)⟩,
  ⟨(some 9), (some (6, false)), .ld none (.t 8)⟩,
  ⟨(some 10), (some (6, false)), .bin .geq (.t 7) (.t 9)⟩,
  ⟨(some 11), none, .pick (.t 6) (.k (.bool true)) (.t 10)⟩,
  ⟨(some 3), none, .mv (.t 11)⟩]
def cPartitionCheck1 : C := (.seq (.reg rPartitionCheck1X0 false [] [0, 1]) (.seq (.reg rPartitionCheck1X1 false [] [3]) .ret))
def qPartitionCheck1 : AFn := ⟨12, 1, [.t 3], cPartitionCheck1⟩
/- cohesion/cohesionref03.Neighbours -/
def rRef03NeighboursX0 : List O := [
  ⟨(some 2), none, .box (.t 0)⟩,
  ⟨(some 4), none, .mv (.k (.own 1 []))⟩]
def rRef03NeighboursX1 : List O := [
  ⟨(some 8), none, .ld (some 2) (.t 2)⟩,
  ⟨(some 9), none, .call nRef03Check [(.t 8)]⟩,
  ⟨(some 10), none, .bin .neq (.t 9) (.k (.int .i64 0))⟩]
def rRef03NeighboursX2 : List O := [
  ⟨(some 4), none, .mv (.k (.own 1 []))⟩]
def rRef03NeighboursX3 : List O := [
  ⟨(some 5), none, .mv (.k (.own 1 []))⟩]
def rRef03NeighboursX4 : List O := [
  ⟨(some 11), none, .fad 1 (.t 2)⟩,
  ⟨(some 12), none, .ld none (.t 11)⟩,
  ⟨(some 13), none, .len (.t 12)⟩,
  ⟨(some 14), none, .mv (.k (.int .i64 0))⟩]
def rRef03NeighboursX5 : List O := [
  ⟨(some 15), none, .bin .lss (.t 14) (.t 13)⟩]
def rRef03NeighboursX6 : List O := [
  ⟨(some 16), none, .ixa 2 (.t 12) (.t 14)⟩,
  ⟨(some 17), none, .ld (some 2) (.t 16)⟩,
  ⟨(some 7), none, .new [(.int .i64 0), (.int .i64 0)]⟩,
  ⟨none, none, .st 2 (.t 7) (.t 17)⟩]
def rRef03NeighboursX7 : List O := [
  ⟨(some 18), none, .fad 0 (.t 7)⟩,
  ⟨(some 19), none, .ld none (.t 18)⟩,
  ⟨(some 20), none, .mv (.t 1)⟩,
  ⟨(some 21), none, .bin .eql (.t 19) (.t 20)⟩]
def rRef03NeighboursX8 : List O := [
  ⟨(some 22), none, .mv (.t 5)⟩,
  ⟨(some 23), none, .fad 1 (.t 7)⟩,
  ⟨(some 24), none, .ld none (.t 23)⟩,
  ⟨(some 25), none, .bslice 1 1 [(.int .i64 0)] [(0, 1, (.t 24))]⟩,
  ⟨(some 26), none, .app 1 (.t 22) (.t 25)⟩,
  ⟨(some 5), none, .mv (.t 26)⟩]
def rRef03NeighboursX9 : List O := [
  ⟨(some 27), none, .fad 1 (.t 7)⟩,
  ⟨(some 28), none, .ld none (.t 27)⟩,
  ⟨(some 29), none, .mv (.t 1)⟩,
  ⟨(some 30), none, .bin .eql (.t 28) (.t 29)⟩]
def rRef03NeighboursX10 : List O := [
  ⟨(some 31), none, .mv (.t 5)⟩,
  ⟨(some 32), none, .fad 0 (.t 7)⟩,
  ⟨(some 33), none, .ld none (.t 32)⟩,
  ⟨(some 34), none, .bslice 1 1 [(.int .i64 0)] [(0, 1, (.t 33))]⟩,
  ⟨(some 35), none, .app 1 (.t 31) (.t 34)⟩,
  ⟨(some 5), none, .mv (.t 35)⟩]
def rRef03NeighboursX11 : List O := [
  ⟨(some 36), none, .bin .add (.t 14) (.k (.int .i64 1))⟩,
  ⟨(some 14), none, .mv (.t 36)⟩]
def lRef03NeighboursX0 : C := (.seq (.reg rRef03NeighboursX5 false [] [1, 5, 12, 13, 14, 15]) (.seq (.cond (.t 15) .skip (.exit 0)) (.seq (.blk 1 (.seq (.reg rRef03NeighboursX6 false [] [1, 5, 7, 12, 13, 14]) (.seq (.seq (.reg rRef03NeighboursX7 false [] [1, 5, 7, 12, 13, 14, 21]) (.cond (.t 21) (.reg rRef03NeighboursX8 false [] [1, 5, 7, 12, 13, 14]) .skip)) (.seq (.reg rRef03NeighboursX9 false [] [1, 5, 7, 12, 13, 14, 30]) (.cond (.t 30) (.reg rRef03NeighboursX10 false [] [1, 5, 12, 13, 14]) .skip))))) (.reg rRef03NeighboursX11 false [] [1, 5, 12, 13, 14]))))
def rRef03NeighboursX12 : List O := [
  ⟨(some 37), none, .mv (.t 5)⟩,
  ⟨(some 38), none, .call nRef02Of [(.t 37)]⟩,
  ⟨(some 4), none, .mv (.t 38)⟩]
def cRef03Neighbours : C := (.seq (.reg rRef03NeighboursX0 false [] [1, 2]) (.seq (.seq (.reg rRef03NeighboursX1 false [] [1, 2, 10]) (.cond (.t 10) (.seq (.reg rRef03NeighboursX2 false [] [4]) .ret) .skip)) (.seq (.reg rRef03NeighboursX3 false [] [1, 2, 5]) (.seq (.seq (.reg rRef03NeighboursX4 false [] [1, 5, 12, 13, 14]) (.blk 0 (.loop lRef03NeighboursX0))) (.seq (.reg rRef03NeighboursX12 false [] [4]) .ret)))))
def qRef03Neighbours : AFn := ⟨39, 2, [.t 4], cRef03Neighbours⟩
/- cohesion/partition.home -/
def rPartitionHomeN40X0 : List O := [
  ⟨(some 3), none, .box (.t 0)⟩,
  ⟨(some 6), none, .mv (.k (.int .i64 0))⟩]
def rPartitionHomeN40X1 : List O := [
  ⟨(some 9), none, .fad 2 (.t 3)⟩,
  ⟨(some 10), none, .ld none (.t 9)⟩,
  ⟨(some 11), none, .mv (.t 1)⟩,
  ⟨(some 12), none, .call nNodesetHas [(.t 10), (.t 11)]⟩,
  ⟨(some 13), none, .fad 2 (.t 3)⟩,
  ⟨(some 14), none, .ld none (.t 13)⟩,
  ⟨(some 15), none, .mv (.t 2)⟩,
  ⟨(some 16), none, .call nNodesetHas [(.t 14), (.t 15)]⟩,
  ⟨(some 7), none, .mv (.t 12)⟩,
  ⟨(some 8), none, .mv (.t 16)⟩]
def rPartitionHomeN40X2 : List O := [
  ⟨(some 18), none, .mv (.t 7)⟩,
  ⟨(some 19), none, .mv (.t 18)⟩,
  ⟨(some 20), (some (19, true)), .mv (.t 8)⟩,
  ⟨(some 21), none, .pick (.t 19) (.t 20) (.k (.bool false))⟩,
  ⟨(some 17), none, .mv (.t 21)⟩]
def rPartitionHomeN40X3 : List O := [
  ⟨(some 22), none, .mv (.t 1)⟩,
  ⟨(some 23), none, .mv (.t 2)⟩,
  ⟨(some 24), none, .bin .add (.t 22) (.t 23)⟩,
  ⟨(some 25), none, .fad 0 (.t 3)⟩,
  ⟨(some 26), none, .ld none (.t 25)⟩,
  ⟨(some 27), none, .bin .rem (.t 24) (.t 26)⟩,
  ⟨(some 6), none, .mv (.t 27)⟩]
def rPartitionHomeN40X4 : List O := [
  ⟨(some 29), none, .mv (.t 7)⟩,
  ⟨(some 28), none, .mv (.t 29)⟩]
def rPartitionHomeN40X5 : List O := [
  ⟨(some 30), none, .fad 1 (.t 3)⟩,
  ⟨(some 31), none, .ld none (.t 30)⟩,
  ⟨(some 32), none, .mv (.t 2)⟩,
  ⟨(some 33), none, .ixa 1 (.t 31) (.t 32)⟩,
  ⟨(some 34), none, .ld none (.t 33)⟩,
  ⟨(some 6), none, .mv (.t 34)⟩]
def rPartitionHomeN40X6 : List O := [
  ⟨(some 35), none, .fad 1 (.t 3)⟩,
  ⟨(some 36), none, .ld none (.t 35)⟩,
  ⟨(some 37), none, .mv (.t 1)⟩,
  ⟨(some 38), none, .ixa 1 (.t 36) (.t 37)⟩,
  ⟨(some 39), none, .ld none (.t 38)⟩,
  ⟨(some 6), none, .mv (.t 39)⟩]
def cPartitionHomeN40 : C := (.seq (.reg rPartitionHomeN40X0 false [] [1, 2, 3]) (.seq (.reg rPartitionHomeN40X1 true [(7, 7), (8, 8), (9, 9), (1, 2), (1, 4), (3, 4), (0, 5), (1, 5), (2, 5), (3, 5), (1, 6), (3, 6), (5, 6)] [1, 2, 3, 7, 8]) (.seq (.blk 0 (.seq (.reg rPartitionHomeN40X2 false [] [1, 2, 3, 7, 17]) (.cond (.t 17) (.seq (.reg rPartitionHomeN40X3 false [] [6]) .ret) (.seq (.reg rPartitionHomeN40X4 false [] [1, 2, 3, 28]) (.cond (.t 28) (.seq (.reg rPartitionHomeN40X5 false [] [6]) .ret) .skip))))) (.seq (.reg rPartitionHomeN40X6 false [] [6]) .ret))))
def qPartitionHomeN40 : AFn := ⟨40, 3, [.t 6], cPartitionHomeN40⟩
/- cohesion/cohesionref02.put -/
def rRef02PutX0 : List O := [
  ⟨(some 4), none, .mv (.k (.own 1 []))⟩]
def rRef02PutX1 : List O := [
  ⟨(some 5), none, .mv (.k (.int .i64 0))⟩]
def rRef02PutX2 : List O := [
  ⟨(some 7), none, .mv (.t 5)⟩,
  ⟨(some 8), none, .mv (.t 0)⟩,
  ⟨(some 9), none, .len (.t 8)⟩,
  ⟨(some 10), none, .bin .lss (.t 7) (.t 9)⟩,
  ⟨(some 11), none, .mv (.t 10)⟩,
  ⟨(some 12), (some (11, true)), .mv (.t 0)⟩,
  ⟨(some 13), (some (11, true)), .mv (.t 5)⟩,
  ⟨(some 14), (some (11, true)), .ixa 1 (.t 12) (.t 13)⟩,
  ⟨(some 15), (some (11, true)), .ld none (.t 14)⟩,
  ⟨(some 16), (some (11, true)), .mv (.t 1)⟩,
  ⟨(some 17), (some (11, true)), .bin .lss (.t 15) (.t 16)⟩,
  ⟨(some 18), none, .pick (.t 11) (.t 17) (.k (.bool false))⟩]
def rRef02PutX3 : List O := [
  ⟨(some 19), none, .mv (.t 5)⟩,
  ⟨(some 20), none, .bin .add (.t 19) (.k (.int .i64 1))⟩,
  ⟨(some 5), none, .mv (.t 20)⟩]
def lRef02PutX0 : C := (.seq (.seq (.reg rRef02PutX2 false [] [0, 1, 5, 18]) (.cond (.t 18) .skip (.exit 0))) (.blk 1 (.reg rRef02PutX3 false [] [0, 1, 5])))
def rRef02PutX4 : List O := [
  ⟨(some 21), none, .mv (.t 5)⟩,
  ⟨(some 22), none, .mv (.t 0)⟩,
  ⟨(some 23), none, .len (.t 22)⟩,
  ⟨(some 24), none, .bin .lss (.t 21) (.t 23)⟩,
  ⟨(some 25), none, .mv (.t 24)⟩,
  ⟨(some 26), (some (25, true)), .mv (.t 0)⟩,
  ⟨(some 27), (some (25, true)), .mv (.t 5)⟩,
  ⟨(some 28), (some (25, true)), .ixa 1 (.t 26) (.t 27)⟩,
  ⟨(some 29), (some (25, true)), .ld none (.t 28)⟩,
  ⟨(some 30), (some (25, true)), .mv (.t 1)⟩,
  ⟨(some 31), (some (25, true)), .bin .eql (.t 29) (.t 30)⟩,
  ⟨(some 32), none, .pick (.t 25) (.t 31) (.k (.bool false))⟩]
def rRef02PutX5 : List O := [
  ⟨(some 33), none, .mv (.t 0)⟩,
  ⟨(some 4), none, .mv (.t 33)⟩]
def rRef02PutX6 : List O := [
  ⟨(some 34), none, .mv (.t 0)⟩,
  ⟨(some 35), none, .mv (.t 5)⟩,
  ⟨(some 36), none, .slc 1 (.t 34) none (some (.t 35))⟩,
  ⟨(some 37), none, .app 1 (.k (.own 1 [])) (.t 36)⟩,
  ⟨(some 6), none, .mv (.t 37)⟩]
def rRef02PutX7 : List O := [
  ⟨(some 38), none, .mv (.t 6)⟩,
  ⟨(some 39), none, .mv (.t 1)⟩,
  ⟨(some 40), none, .bslice 1 1 [(.int .i64 0)] [(0, 1, (.t 39))]⟩,
  ⟨(some 41), none, .app 1 (.t 38) (.t 40)⟩,
  ⟨(some 42), none, .mv (.t 0)⟩,
  ⟨(some 43), none, .mv (.t 5)⟩,
  ⟨(some 44), none, .slc 1 (.t 42) (some (.t 43)) none⟩,
  ⟨(some 45), none, .app 1 (.t 41) (.t 44)⟩,
  ⟨(some 4), none, .mv (.t 45)⟩]
def cRef02Put : C := (.seq (.reg rRef02PutX0 false [] [0, 1]) (.seq (.reg rRef02PutX1 false [] [0, 1, 5]) (.seq (.blk 0 (.loop lRef02PutX0)) (.seq (.seq (.reg rRef02PutX4 false [] [0, 1, 5, 32]) (.cond (.t 32) (.seq (.reg rRef02PutX5 false [] [4]) .ret) .skip)) (.seq (.reg rRef02PutX6 false [] [0, 1, 5, 6]) (.seq (.reg rRef02PutX7 true [(7, 7), (8, 8), (0, 2), (2, 4), (3, 4), (2, 5), (3, 5), (2, 6), (3, 6)] [4]) .ret))))))
def qRef02Put : AFn := ⟨46, 2, [.t 4], cRef02Put⟩
/- cohesion/cohesionmake.Mod -/
def rMakeModX0 : List O := [
  ⟨(some 4), none, .mv (.k (.int .i64 0))⟩]
def rMakeModX1 : List O := [
  ⟨(some 5), none, .mv (.t 0)⟩,
  ⟨(some 6), none, .mv (.t 1)⟩,
  ⟨(some 7), none, .bin .rem (.t 5) (.t 6)⟩,
  ⟨(some 8), none, .mv (.t 1)⟩,
  ⟨(some 9), none, .bin .add (.t 7) (.t 8)⟩,
  ⟨(some 10), none, .mv (.t 1)⟩,
  ⟨(some 11), none, .bin .rem (.t 9) (.t 10)⟩,
  ⟨(some 4), none, .mv (.t 11)⟩]
def cMakeMod : C := (.seq (.reg rMakeModX0 false [] [0, 1]) (.seq (.reg rMakeModX1 false [] [4]) .ret))
def qMakeMod : AFn := ⟨12, 2, [.t 4], cMakeMod⟩
/- cohesion/graph.Check -/
def rGraphCheckX0 : List O := [
  ⟨(some 1), none, .box (.t 0)⟩,
  ⟨(some 2), none, .mv (.k (.int .i64 0))⟩]
def rGraphCheckX1 : List O := [
  ⟨(some 5), none, .fad 0 (.t 1)⟩,
  ⟨(some 6), none, .ld none (.t 5)⟩,
  ⟨(some 7), none, .bin .lss (.t 6) (.k (.int .i64 0))⟩,
  ⟨(some 8), none, .mv (.t 7)⟩,
  ⟨(some 9), (some (8, false)), .fad 0 (.t 1)⟩,
  ⟨(some 10), (some (8, false)), .ld none (.t 9)⟩,
  ⟨(some 11), (some (8, false)), .bin .gtr (.t 10) (.k (.int .i64 64))⟩,
  ⟨(some 12), none, .pick (.t 8) (.k (.bool true)) (.t 11)⟩]
def rGraphCheckX2 : List O := [
  ⟨(some 2), none, .mv (.k (.int .i64 1))⟩]
def rGraphCheckX3 : List O := [
  ⟨(some 13), none, .fad 1 (.t 1)⟩,
  ⟨(some 14), none, .ld none (.t 13)⟩,
  ⟨(some 15), none, .len (.t 14)⟩,
  ⟨(some 16), none, .mv (.k (.int .i64 0))⟩]
def rGraphCheckX4 : List O := [
  ⟨(some 17), none, .bin .lss (.t 16) (.t 15)⟩]
def rGraphCheckX5 : List O := [
  ⟨(some 18), none, .mv (.t 16)⟩,
  ⟨(some 19), none, .ixa 2 (.t 14) (.t 16)⟩,
  ⟨(some 20), none, .ld (some 2) (.t 19)⟩,
  ⟨(some 4), none, .new [(.int .i64 0), (.int .i64 0)]⟩,
  ⟨(some 3), none, .mv (.t 18)⟩,
  ⟨none, none, .st 2 (.t 4) (.t 20)⟩]
def rGraphCheckX6 : List O := [
  ⟨(some 22), none, .fad 0 (.t 4)⟩,
  ⟨(some 23), none, .ld none (.t 22)⟩,
  ⟨(some 24), none, .bin .lss (.t 23) (.k (.int .i64 0))⟩,
  ⟨(some 25), none, .mv (.t 24)⟩,
  ⟨(some 26), (some (25, false)), .fad 0 (.t 4)⟩,
  ⟨(some 27), (some (25, false)), .ld none (.t 26)⟩,
  ⟨(some 28), (some (25, false)), .fad 1 (.t 4)⟩,
  ⟨(some 29), (some (25, false)), .ld none (.t 28)⟩,
  ⟨(some 30), (some (25, false)), .bin .geq (.t 27) (.t 29)⟩,
  ⟨(some 31), none, .pick (.t 25) (.k (.bool true)) (.t 30)⟩,
  ⟨(some 32), none, .mv (.t 31)⟩,
  ⟨(some 33), (some (32, false)), .fad 1 (.t 4)⟩,
  ⟨(some 34), (some (32, false)), .ld none (.t 33)⟩,
  ⟨(some 35), (some (32, false)), .fad 0 (.t 1)⟩,
  ⟨(some 36), (some (32, false)), .ld none (.t 35)⟩,
  ⟨(some 37), (some (32, false)), .bin .geq (.t 34) (.t 36)⟩,
  ⟨(some 38), none, .pick (.t 32) (.k (.bool true)) (.t 37)⟩,
  ⟨(some 21), none, .mv (.t 38)⟩]
def rGraphCheckX7 : List O := [
  ⟨(some 2), none, .mv (.k (.int .i64 6))⟩]
def rGraphCheckX8 : List O := [
  ⟨(some 40), none, .mv (.t 3)⟩,
  ⟨(some 41), none, .bin .gtr (.t 40) (.k (.int .i64 0))⟩,
  ⟨(some 42), none, .mv (.t 41)⟩,
  ⟨(some 43), (some (42, true)), .fad 1 (.t 1)⟩,
  ⟨(some 44), (some (42, true)), .ld none (.t 43)⟩,
  ⟨(some 45), (some (42, true)), .mv (.t 3)⟩,
  ⟨(some 46), (some (42, true)), .bin .sub (.t 45) (.k (.int .i64 1))⟩,
  ⟨(some 47), (some (42, true)), .ixa 2 (.t 44) (.t 46)⟩,
  ⟨(some 48), (some (42, true)), .ld (some 2) (.t 47)⟩,
  ⟨(some 49), (some (42, true)), .ld (some 2) (.t 4)⟩,
  ⟨(some 50), (some (42, true)), .call nGraphOrder [(.t 48), (.t 49)]⟩,
  ⟨(some 51), (some (42, true)), .bin .geq (.t 50) (.k (.int .i64 0))⟩,
  ⟨(some 52), none, .pick (.t 42) (.t 51) (.k (.bool false))⟩,
  ⟨(some 39), none, .mv (.t 52)⟩]
def rGraphCheckX9 : List O := [
  ⟨(some 2), none, .mv (.k (.int .i64 5))⟩]
def rGraphCheckX10 : List O := [
  ⟨(some 53), none, .bin .add (.t 16) (.k (.int .i64 1))⟩,
  ⟨(some 16), none, .mv (.t 53)⟩]
def lGraphCheckX0 : C := (.seq (.reg rGraphCheckX4 false [] [1, 14, 15, 16, 17]) (.seq (.cond (.t 17) .skip (.exit 0)) (.seq (.blk 1 (.seq (.reg rGraphCheckX5 false [] [1, 3, 4, 14, 15, 16]) (.blk 2 (.seq (.reg rGraphCheckX6 false [] [1, 3, 4, 14, 15, 16, 21]) (.cond (.t 21) (.seq (.reg rGraphCheckX7 false [] [2]) .ret) (.seq (.reg rGraphCheckX8 true [(0, 0), (1, 1), (2, 2), (10, 10), (11, 11), (12, 12), (13, 13), (4, 5), (4, 6), (3, 9), (4, 9), (5, 9), (6, 9), (7, 9), (8, 9)] [1, 14, 15, 16, 39]) (.cond (.t 39) (.seq (.reg rGraphCheckX9 false [] [2]) .ret) .skip))))))) (.reg rGraphCheckX10 false [] [1, 14, 15, 16]))))
def rGraphCheckX11 : List O := [
  ⟨(some 2), none, .mv (.k (.int .i64 0))⟩]
def cGraphCheck : C := (.seq (.reg rGraphCheckX0 false [] [1]) (.seq (.seq (.reg rGraphCheckX1 false [] [1, 12]) (.cond (.t 12) (.seq (.reg rGraphCheckX2 false [] [2]) .ret) .skip)) (.seq (.seq (.reg rGraphCheckX3 false [] [1, 14, 15, 16]) (.blk 0 (.loop lGraphCheckX0))) (.seq (.reg rGraphCheckX11 false [] [2]) .ret))))
def qGraphCheck : AFn := ⟨54, 1, [.t 2], cGraphCheck⟩
/- cohesion/masks.Rows -/
def rMasksRowsX0 : List O := [
  ⟨(some 1), none, .box (.t 0)⟩,
  ⟨(some 2), none, .mv (.k (.own 1 []))⟩]
def rMasksRowsX1 : List O := [
  ⟨(some 6), none, .fad 0 (.t 1)⟩,
  ⟨(some 7), none, .ld none (.t 6)⟩,
  ⟨(some 8), none, .max [(.t 7), (.k (.int .i64 0))]⟩,
  ⟨(some 9), none, .min [(.t 8), (.k (.int .i64 64))]⟩,
  ⟨(some 10), none, .mks 1 [(.int .u64 0)] (.t 9) (.t 9)⟩,
  ⟨(some 3), none, .mv (.t 10)⟩]
def rMasksRowsX2 : List O := [
  ⟨(some 11), none, .fad 1 (.t 1)⟩,
  ⟨(some 12), none, .ld none (.t 11)⟩,
  ⟨(some 13), none, .len (.t 12)⟩,
  ⟨(some 14), none, .mv (.k (.int .i64 0))⟩]
def rMasksRowsX3 : List O := [
  ⟨(some 15), none, .bin .lss (.t 14) (.t 13)⟩]
def rMasksRowsX4 : List O := [
  ⟨(some 16), none, .ixa 2 (.t 12) (.t 14)⟩,
  ⟨(some 17), none, .ld (some 2) (.t 16)⟩,
  ⟨(some 5), none, .new [(.int .i64 0), (.int .i64 0)]⟩,
  ⟨none, none, .st 2 (.t 5) (.t 17)⟩]
def rMasksRowsX5 : List O := [
  ⟨(some 18), none, .fad 0 (.t 5)⟩,
  ⟨(some 19), none, .ld none (.t 18)⟩,
  ⟨(some 20), none, .bin .geq (.t 19) (.k (.int .i64 0))⟩,
  ⟨(some 21), none, .mv (.t 20)⟩,
  ⟨(some 22), (some (21, true)), .fad 0 (.t 5)⟩,
  ⟨(some 23), (some (21, true)), .ld none (.t 22)⟩,
  ⟨(some 24), (some (21, true)), .fad 1 (.t 5)⟩,
  ⟨(some 25), (some (21, true)), .ld none (.t 24)⟩,
  ⟨(some 26), (some (21, true)), .bin .lss (.t 23) (.t 25)⟩,
  ⟨(some 27), none, .pick (.t 21) (.t 26) (.k (.bool false))⟩,
  ⟨(some 28), none, .mv (.t 27)⟩,
  ⟨(some 29), (some (28, true)), .fad 1 (.t 5)⟩,
  ⟨(some 30), (some (28, true)), .ld none (.t 29)⟩,
  ⟨(some 31), (some (28, true)), .mv (.t 3)⟩,
  ⟨(some 32), (some (28, true)), .len (.t 31)⟩,
  ⟨(some 33), (some (28, true)), .bin .lss (.t 30) (.t 32)⟩,
  ⟨(some 34), none, .pick (.t 28) (.t 33) (.k (.bool false))⟩]
def rMasksRowsX6 : List O := [
  ⟨(some 35), none, .mv (.t 3)⟩,
  ⟨(some 36), none, .fad 0 (.t 5)⟩,
  ⟨(some 37), none, .ld none (.t 36)⟩,
  ⟨(some 38), none, .ixa 1 (.t 35) (.t 37)⟩,
  ⟨(some 39), none, .ld none (.t 38)⟩,
  ⟨(some 40), none, .fad 1 (.t 5)⟩,
  ⟨(some 41), none, .ld none (.t 40)⟩,
  ⟨(some 42), none, .bin .shl (.k (.int .u64 1)) (.t 41)⟩,
  ⟨(some 43), none, .bin .or (.t 39) (.t 42)⟩,
  ⟨(some 44), none, .ixa 1 (.t 35) (.t 37)⟩,
  ⟨none, none, .st 1 (.t 44) (.t 43)⟩]
def rMasksRowsX7 : List O := [
  ⟨(some 45), none, .mv (.t 3)⟩,
  ⟨(some 46), none, .fad 1 (.t 5)⟩,
  ⟨(some 47), none, .ld none (.t 46)⟩,
  ⟨(some 48), none, .ixa 1 (.t 45) (.t 47)⟩,
  ⟨(some 49), none, .ld none (.t 48)⟩,
  ⟨(some 50), none, .fad 0 (.t 5)⟩,
  ⟨(some 51), none, .ld none (.t 50)⟩,
  ⟨(some 52), none, .bin .shl (.k (.int .u64 1)) (.t 51)⟩,
  ⟨(some 53), none, .bin .or (.t 49) (.t 52)⟩,
  ⟨(some 54), none, .ixa 1 (.t 45) (.t 47)⟩,
  ⟨none, none, .st 1 (.t 54) (.t 53)⟩]
def rMasksRowsX8 : List O := [
  ⟨(some 55), none, .bin .add (.t 14) (.k (.int .i64 1))⟩,
  ⟨(some 14), none, .mv (.t 55)⟩]
def lMasksRowsX0 : C := (.seq (.reg rMasksRowsX3 false [] [3, 12, 13, 14, 15]) (.seq (.cond (.t 15) .skip (.exit 0)) (.seq (.blk 1 (.seq (.reg rMasksRowsX4 false [] [3, 5, 12, 13, 14]) (.seq (.reg rMasksRowsX5 false [] [3, 5, 12, 13, 14, 34]) (.cond (.t 34) (.seq (.reg rMasksRowsX6 true [(8, 8), (9, 9), (10, 10), (0, 2), (2, 5), (4, 5), (0, 6), (1, 6), (2, 6), (3, 6), (4, 6), (2, 7), (4, 7)] [3, 5, 12, 13, 14]) (.reg rMasksRowsX7 true [(8, 8), (9, 9), (10, 10), (0, 2), (2, 5), (4, 5), (0, 6), (1, 6), (2, 6), (3, 6), (4, 6), (2, 7), (4, 7)] [3, 12, 13, 14])) .skip)))) (.reg rMasksRowsX8 false [] [3, 12, 13, 14]))))
def rMasksRowsX9 : List O := [
  ⟨(some 56), none, .mv (.t 3)⟩,
  ⟨(some 2), none, .mv (.t 56)⟩]
def cMasksRows : C := (.seq (.reg rMasksRowsX0 false [] [1]) (.seq (.reg rMasksRowsX1 false [] [1, 3]) (.seq (.seq (.reg rMasksRowsX2 false [] [3, 12, 13, 14]) (.blk 0 (.loop lMasksRowsX0))) (.seq (.reg rMasksRowsX9 false [] [2]) .ret))))
def qMasksRows : AFn := ⟨57, 1, [.t 2], cMasksRows⟩
/- cohesion/masks.Count -/
def rMasksCountX0 : List O := [
  ⟨(some 2), none, .mv (.k (.int .i64 0))⟩]
def rMasksCountX1 : List O := [
  ⟨(some 3), none, .mv (.t 0)⟩,
  ⟨(some 4), none, .call nMathBitsOnesCount64 [(.t 3)]⟩,
  ⟨(some 2), none, .mv (.t 4)⟩]
def cMasksCount : C := (.seq (.reg rMasksCountX0 false [] [0]) (.seq (.reg rMasksCountX1 false [] [2]) .ret))
def qMasksCount : AFn := ⟨5, 1, [.t 2], cMasksCount⟩
/- cmp.isNaN[int] -/
def rCmpIsNaNIntX0 : List O := [
  ⟨(some 2), none, .mv (.k (.bool false))⟩]
def rCmpIsNaNIntX1 : List O := [
  ⟨(some 3), none, .mv (.t 0)⟩,
  ⟨(some 4), none, .mv (.t 0)⟩,
  ⟨(some 5), none, .bin .neq (.t 3) (.t 4)⟩,
  ⟨(some 2), none, .mv (.t 5)⟩]
def cCmpIsNaNInt : C := (.seq (.reg rCmpIsNaNIntX0 false [] [0]) (.seq (.reg rCmpIsNaNIntX1 false [] [2]) .ret))
def qCmpIsNaNInt : AFn := ⟨6, 1, [.t 2], cCmpIsNaNInt⟩
/- slices.IndexFunc[[]int,int] -/
def rSlicesIndexFuncIntIntX0 : List O := [
  ⟨(some 4), none, .mv (.k (.int .i64 0))⟩]
def rSlicesIndexFuncIntIntX1 : List O := [
  ⟨(some 6), none, .mv (.t 0)⟩,
  ⟨(some 7), none, .len (.t 6)⟩,
  ⟨(some 8), none, .mv (.k (.int .i64 0))⟩]
def rSlicesIndexFuncIntIntX2 : List O := [
  ⟨(some 9), none, .bin .lss (.t 8) (.t 7)⟩]
def rSlicesIndexFuncIntIntX3 : List O := [
  ⟨(some 10), none, .mv (.t 8)⟩,
  ⟨(some 5), none, .mv (.t 10)⟩]
def rSlicesIndexFuncIntIntX4 : List O := [
  ⟨(some 11), none, .mv (.t 1)⟩,
  ⟨(some 12), none, .mv (.t 0)⟩,
  ⟨(some 13), none, .mv (.t 5)⟩,
  ⟨(some 14), none, .ixa 1 (.t 12) (.t 13)⟩,
  ⟨(some 15), none, .ld none (.t 14)⟩,
  ⟨(some 16), none, .callv (.t 11) [(.t 15)]⟩]
def rSlicesIndexFuncIntIntX5 : List O := [
  ⟨(some 17), none, .mv (.t 5)⟩,
  ⟨(some 4), none, .mv (.t 17)⟩]
def rSlicesIndexFuncIntIntX6 : List O := [
  ⟨(some 18), none, .bin .add (.t 8) (.k (.int .i64 1))⟩,
  ⟨(some 8), none, .mv (.t 18)⟩]
def lSlicesIndexFuncIntIntX0 : C := (.seq (.reg rSlicesIndexFuncIntIntX2 false [] [0, 1, 7, 8, 9]) (.seq (.cond (.t 9) .skip (.exit 0)) (.seq (.blk 1 (.seq (.reg rSlicesIndexFuncIntIntX3 false [] [0, 1, 5, 7, 8]) (.seq (.reg rSlicesIndexFuncIntIntX4 false [] [0, 1, 5, 7, 8, 16]) (.cond (.t 16) (.seq (.reg rSlicesIndexFuncIntIntX5 false [] [4]) .ret) .skip)))) (.reg rSlicesIndexFuncIntIntX6 false [] [0, 1, 7, 8]))))
def rSlicesIndexFuncIntIntX7 : List O := [
  ⟨(some 4), none, .mv (.k (.int .i64 (-1)))⟩]
def cSlicesIndexFuncIntInt : C := (.seq (.reg rSlicesIndexFuncIntIntX0 false [] [0, 1]) (.seq (.seq (.reg rSlicesIndexFuncIntIntX1 false [] [0, 1, 7, 8]) (.blk 0 (.loop lSlicesIndexFuncIntIntX0))) (.seq (.reg rSlicesIndexFuncIntIntX7 false [] [4]) .ret)))
def qSlicesIndexFuncIntInt : AFn := ⟨19, 2, [.t 4], cSlicesIndexFuncIntInt⟩
/- cohesion/cohesionref03.Check -/
def rRef03CheckX0 : List O := [
  ⟨(some 1), none, .box (.t 0)⟩,
  ⟨(some 2), none, .mv (.k (.int .i64 0))⟩]
def rRef03CheckX1 : List O := [
  ⟨(some 5), none, .fad 0 (.t 1)⟩,
  ⟨(some 6), none, .ld none (.t 5)⟩,
  ⟨(some 7), none, .bin .lss (.t 6) (.k (.int .i64 0))⟩,
  ⟨(some 8), none, .mv (.t 7)⟩,
  ⟨(some 9), (some (8, false)), .fad 0 (.t 1)⟩,
  ⟨(some 10), (some (8, false)), .ld none (.t 9)⟩,
  ⟨(some 11), (some (8, false)), .bin .gtr (.t 10) (.k (.int .i64 64))⟩,
  ⟨(some 12), none, .pick (.t 8) (.k (.bool true)) (.t 11)⟩]
def rRef03CheckX2 : List O := [
  ⟨(some 2), none, .mv (.k (.int .i64 1))⟩]
def rRef03CheckX3 : List O := [
  ⟨(some 13), none, .fad 1 (.t 1)⟩,
  ⟨(some 14), none, .ld none (.t 13)⟩,
  ⟨(some 15), none, .len (.t 14)⟩,
  ⟨(some 16), none, .mv (.k (.int .i64 0))⟩]
def rRef03CheckX4 : List O := [
  ⟨(some 17), none, .bin .lss (.t 16) (.t 15)⟩]
def rRef03CheckX5 : List O := [
  ⟨(some 18), none, .mv (.t 16)⟩,
  ⟨(some 19), none, .ixa 2 (.t 14) (.t 16)⟩,
  ⟨(some 20), none, .ld (some 2) (.t 19)⟩,
  ⟨(some 4), none, .new [(.int .i64 0), (.int .i64 0)]⟩,
  ⟨(some 3), none, .mv (.t 18)⟩,
  ⟨none, none, .st 2 (.t 4) (.t 20)⟩]
def rRef03CheckX6 : List O := [
  ⟨(some 21), none, .fad 0 (.t 4)⟩,
  ⟨(some 22), none, .ld none (.t 21)⟩,
  ⟨(some 23), none, .bin .lss (.t 22) (.k (.int .i64 0))⟩,
  ⟨(some 24), none, .mv (.t 23)⟩,
  ⟨(some 25), (some (24, false)), .fad 0 (.t 4)⟩,
  ⟨(some 26), (some (24, false)), .ld none (.t 25)⟩,
  ⟨(some 27), (some (24, false)), .fad 1 (.t 4)⟩,
  ⟨(some 28), (some (24, false)), .ld none (.t 27)⟩,
  ⟨(some 29), (some (24, false)), .bin .geq (.t 26) (.t 28)⟩,
  ⟨(some 30), none, .pick (.t 24) (.k (.bool true)) (.t 29)⟩,
  ⟨(some 31), none, .mv (.t 30)⟩,
  ⟨(some 32), (some (31, false)), .fad 1 (.t 4)⟩,
  ⟨(some 33), (some (31, false)), .ld none (.t 32)⟩,
  ⟨(some 34), (some (31, false)), .fad 0 (.t 1)⟩,
  ⟨(some 35), (some (31, false)), .ld none (.t 34)⟩,
  ⟨(some 36), (some (31, false)), .bin .geq (.t 33) (.t 35)⟩,
  ⟨(some 37), none, .pick (.t 31) (.k (.bool true)) (.t 36)⟩]
def rRef03CheckX7 : List O := [
  ⟨(some 2), none, .mv (.k (.int .i64 6))⟩]
def rRef03CheckX8 : List O := [
  ⟨(some 38), none, .mv (.t 3)⟩,
  ⟨(some 39), none, .bin .gtr (.t 38) (.k (.int .i64 0))⟩,
  ⟨(some 40), none, .mv (.t 39)⟩,
  ⟨(some 41), (some (40, true)), .fad 1 (.t 1)⟩,
  ⟨(some 42), (some (40, true)), .ld none (.t 41)⟩,
  ⟨(some 43), (some (40, true)), .mv (.t 3)⟩,
  ⟨(some 44), (some (40, true)), .bin .sub (.t 43) (.k (.int .i64 1))⟩,
  ⟨(some 45), (some (40, true)), .ixa 2 (.t 42) (.t 44)⟩,
  ⟨(some 46), (some (40, true)), .ld (some 2) (.t 45)⟩,
  ⟨(some 47), (some (40, true)), .ld (some 2) (.t 4)⟩,
  ⟨(some 48), (some (40, true)), .call nRef03Before [(.t 46), (.t 47)]⟩,
  ⟨(some 49), (some (40, true)), .un .not (.t 48)⟩,
  ⟨(some 50), none, .pick (.t 40) (.t 49) (.k (.bool false))⟩]
def rRef03CheckX9 : List O := [
  ⟨(some 2), none, .mv (.k (.int .i64 5))⟩]
def rRef03CheckX10 : List O := [
  ⟨(some 51), none, .bin .add (.t 16) (.k (.int .i64 1))⟩,
  ⟨(some 16), none, .mv (.t 51)⟩]
def lRef03CheckX0 : C := (.seq (.reg rRef03CheckX4 false [] [1, 14, 15, 16, 17]) (.seq (.cond (.t 17) .skip (.exit 0)) (.seq (.blk 1 (.seq (.reg rRef03CheckX5 false [] [1, 3, 4, 14, 15, 16]) (.seq (.seq (.reg rRef03CheckX6 false [] [1, 3, 4, 14, 15, 16, 37]) (.cond (.t 37) (.seq (.reg rRef03CheckX7 false [] [2]) .ret) .skip)) (.seq (.reg rRef03CheckX8 true [(0, 0), (1, 1), (2, 2), (10, 10), (11, 11), (12, 12), (4, 5), (4, 6), (3, 9), (4, 9), (5, 9), (6, 9), (7, 9), (8, 9)] [1, 14, 15, 16, 50]) (.cond (.t 50) (.seq (.reg rRef03CheckX9 false [] [2]) .ret) .skip))))) (.reg rRef03CheckX10 false [] [1, 14, 15, 16]))))
def rRef03CheckX11 : List O := [
  ⟨(some 2), none, .mv (.k (.int .i64 0))⟩]
def cRef03Check : C := (.seq (.reg rRef03CheckX0 false [] [1]) (.seq (.seq (.reg rRef03CheckX1 false [] [1, 12]) (.cond (.t 12) (.seq (.reg rRef03CheckX2 false [] [2]) .ret) .skip)) (.seq (.seq (.reg rRef03CheckX3 false [] [1, 14, 15, 16]) (.blk 0 (.loop lRef03CheckX0))) (.seq (.reg rRef03CheckX11 false [] [2]) .ret))))
def qRef03Check : AFn := ⟨52, 1, [.t 2], cRef03Check⟩
/- cohesion/nodeset.Has -/
def rNodesetHasX0 : List O := [
  ⟨(some 4), none, .mv (.k (.bool false))⟩]
def rNodesetHasX1 : List O := [
  ⟨(some 5), none, .mv (.t 0)⟩,
  ⟨(some 6), none, .mv (.t 1)⟩,
  ⟨(some 7), none, .call nSlicesContainsIntInt [(.t 5), (.t 6)]⟩,
  ⟨(some 4), none, .mv (.t 7)⟩]
def cNodesetHas : C := (.seq (.reg rNodesetHasX0 false [] [0, 1]) (.seq (.reg rNodesetHasX1 false [] [4]) .ret))
def qNodesetHas : AFn := ⟨8, 2, [.t 4], cNodesetHas⟩
/- cohesion/graph.Order -/
def rGraphOrderX0 : List O := [
  ⟨(some 2), none, .box (.t 0)⟩,
  ⟨(some 3), none, .box (.t 1)⟩,
  ⟨(some 4), none, .mv (.k (.int .i64 0))⟩]
def rGraphOrderX1 : List O := [
  ⟨(some 5), none, .fad 0 (.t 2)⟩,
  ⟨(some 6), none, .ld none (.t 5)⟩,
  ⟨(some 7), none, .fad 0 (.t 3)⟩,
  ⟨(some 8), none, .ld none (.t 7)⟩,
  ⟨(some 9), none, .call nCmpCompareInt [(.t 6), (.t 8)]⟩,
  ⟨(some 10), none, .fad 1 (.t 2)⟩,
  ⟨(some 11), none, .ld none (.t 10)⟩,
  ⟨(some 12), none, .fad 1 (.t 3)⟩,
  ⟨(some 13), none, .ld none (.t 12)⟩,
  ⟨(some 14), none, .call nCmpCompareInt [(.t 11), (.t 13)]⟩,
  ⟨(some 15), none, .bslice 1 2 [(.int .i64 0)] [(0, 1, (.t 9)), (1, 1, (.t 14))]⟩,
  ⟨(some 16), none, .call nCmpOrInt [(.t 15)]⟩,
  ⟨(some 4), none, .mv (.t 16)⟩]
def cGraphOrder : C := (.seq (.reg rGraphOrderX0 false [] [2, 3]) (.seq (.reg rGraphOrderX1 true [(9, 9), (10, 10), (11, 11), (12, 12), (1, 2), (0, 3), (1, 3), (1, 5), (3, 5), (4, 5), (0, 6), (1, 6), (2, 6), (3, 6), (4, 6), (1, 7), (3, 7), (4, 7), (6, 7), (0, 8), (1, 8), (2, 8), (3, 8), (4, 8), (5, 8), (6, 8)] [4]) .ret))
def qGraphOrder : AFn := ⟨17, 2, [.t 4], cGraphOrder⟩
/- math/bits.OnesCount64 -/
def rMathBitsOnesCount64X0 : List O := [
  ⟨(some 2), none, .mv (.k (.int .i64 0))⟩]
def rMathBitsOnesCount64X1 : List O := [
  ⟨(some 3), none, .mv (.t 0)⟩,
  ⟨(some 4), none, .bin .shr (.t 3) (.k (.int .u64 1))⟩,
  ⟨(some 5), none, .bin .and (.t 4) (.k (.int .u64 6148914691236517205))⟩,
  ⟨(some 6), none, .mv (.t 0)⟩,
  ⟨(some 7), none, .bin .and (.t 6) (.k (.int .u64 6148914691236517205))⟩,
  ⟨(some 8), none, .bin .add (.t 5) (.t 7)⟩,
  ⟨(some 0), none, .mv (.t 8)⟩]
def rMathBitsOnesCount64X2 : List O := [
  ⟨(some 9), none, .mv (.t 0)⟩,
  ⟨(some 10), none, .bin .shr (.t 9) (.k (.int .u64 2))⟩,
  ⟨(some 11), none, .bin .and (.t 10) (.k (.int .u64 3689348814741910323))⟩,
  ⟨(some 12), none, .mv (.t 0)⟩,
  ⟨(some 13), none, .bin .and (.t 12) (.k (.int .u64 3689348814741910323))⟩,
  ⟨(some 14), none, .bin .add (.t 11) (.t 13)⟩,
  ⟨(some 0), none, .mv (.t 14)⟩]
def rMathBitsOnesCount64X3 : List O := [
  ⟨(some 15), none, .mv (.t 0)⟩,
  ⟨(some 16), none, .bin .shr (.t 15) (.k (.int .u64 4))⟩,
  ⟨(some 17), none, .mv (.t 0)⟩,
  ⟨(some 18), none, .bin .add (.t 16) (.t 17)⟩,
  ⟨(some 19), none, .bin .and (.t 18) (.k (.int .u64 1085102592571150095))⟩,
  ⟨(some 0), none, .mv (.t 19)⟩]
def rMathBitsOnesCount64X4 : List O := [
  ⟨(some 20), none, .mv (.t 0)⟩,
  ⟨(some 21), none, .mv (.t 0)⟩,
  ⟨(some 22), none, .bin .shr (.t 21) (.k (.int .u64 8))⟩,
  ⟨(some 23), none, .bin .add (.t 20) (.t 22)⟩,
  ⟨(some 0), none, .mv (.t 23)⟩]
def rMathBitsOnesCount64X5 : List O := [
  ⟨(some 24), none, .mv (.t 0)⟩,
  ⟨(some 25), none, .mv (.t 0)⟩,
  ⟨(some 26), none, .bin .shr (.t 25) (.k (.int .u64 16))⟩,
  ⟨(some 27), none, .bin .add (.t 24) (.t 26)⟩,
  ⟨(some 0), none, .mv (.t 27)⟩]
def rMathBitsOnesCount64X6 : List O := [
  ⟨(some 28), none, .mv (.t 0)⟩,
  ⟨(some 29), none, .mv (.t 0)⟩,
  ⟨(some 30), none, .bin .shr (.t 29) (.k (.int .u64 32))⟩,
  ⟨(some 31), none, .bin .add (.t 28) (.t 30)⟩,
  ⟨(some 0), none, .mv (.t 31)⟩]
def rMathBitsOnesCount64X7 : List O := [
  ⟨(some 32), none, .mv (.t 0)⟩,
  ⟨(some 33), none, .cvt .i64 (.t 32)⟩,
  ⟨(some 34), none, .bin .and (.t 33) (.k (.int .i64 127))⟩,
  ⟨(some 2), none, .mv (.t 34)⟩]
def cMathBitsOnesCount64 : C := (.seq (.reg rMathBitsOnesCount64X0 false [] [0]) (.seq (.reg rMathBitsOnesCount64X1 false [] [0]) (.seq (.reg rMathBitsOnesCount64X2 false [] [0]) (.seq (.reg rMathBitsOnesCount64X3 false [] [0]) (.seq (.reg rMathBitsOnesCount64X4 false [] [0]) (.seq (.reg rMathBitsOnesCount64X5 false [] [0]) (.seq (.reg rMathBitsOnesCount64X6 false [] [0]) (.seq (.reg rMathBitsOnesCount64X7 false [] [2]) .ret))))))))
def qMathBitsOnesCount64 : AFn := ⟨35, 1, [.t 2], cMathBitsOnesCount64⟩
/- cohesion/cohesionref03.Before -/
def rRef03BeforeX0 : List O := [
  ⟨(some 2), none, .box (.t 0)⟩,
  ⟨(some 3), none, .box (.t 1)⟩,
  ⟨(some 4), none, .mv (.k (.bool false))⟩]
def rRef03BeforeX1 : List O := [
  ⟨(some 5), none, .fad 0 (.t 2)⟩,
  ⟨(some 6), none, .ld none (.t 5)⟩,
  ⟨(some 7), none, .fad 0 (.t 3)⟩,
  ⟨(some 8), none, .ld none (.t 7)⟩,
  ⟨(some 9), none, .bin .lss (.t 6) (.t 8)⟩,
  ⟨(some 10), none, .mv (.t 9)⟩,
  ⟨(some 11), (some (10, false)), .fad 0 (.t 2)⟩,
  ⟨(some 12), (some (10, false)), .ld none (.t 11)⟩,
  ⟨(some 13), (some (10, false)), .fad 0 (.t 3)⟩,
  ⟨(some 14), (some (10, false)), .ld none (.t 13)⟩,
  ⟨(some 15), (some (10, false)), .bin .eql (.t 12) (.t 14)⟩,
  ⟨(some 16), (some (10, false)), .mv (.t 15)⟩,
  ⟨(some 17), (some (16, true)), .fad 1 (.t 2)⟩,
  ⟨(some 18), (some (16, true)), .ld none (.t 17)⟩,
  ⟨(some 19), (some (16, true)), .fad 1 (.t 3)⟩,
  ⟨(some 20), (some (16, true)), .ld none (.t 19)⟩,
  ⟨(some 21), (some (16, true)), .bin .lss (.t 18) (.t 20)⟩,
  ⟨(some 22), (some (10, false)), .pick (.t 16) (.t 21) (.k (.bool false))⟩,
  ⟨(some 23), none, .pick (.t 10) (.k (.bool true)) (.t 22)⟩,
  ⟨(some 4), none, .mv (.t 23)⟩]
def cRef03Before : C := (.seq (.reg rRef03BeforeX0 false [] [2, 3]) (.seq (.reg rRef03BeforeX1 false [] [4]) .ret))
def qRef03Before : AFn := ⟨24, 2, [.t 4], cRef03Before⟩
/- slices.Contains[[]int,int] -/
def rSlicesContainsIntIntX0 : List O := [
  ⟨(some 4), none, .mv (.k (.bool false))⟩]
def rSlicesContainsIntIntX1 : List O := [
  ⟨(some 5), none, .mv (.t 0)⟩,
  ⟨(some 6), none, .mv (.t 1)⟩,
  ⟨(some 7), none, .call nSlicesIndexIntInt [(.t 5), (.t 6)]⟩,
  ⟨(some 8), none, .bin .geq (.t 7) (.k (.int .i64 0))⟩,
  ⟨(some 4), none, .mv (.t 8)⟩]
def cSlicesContainsIntInt : C := (.seq (.reg rSlicesContainsIntIntX0 false [] [0, 1]) (.seq (.reg rSlicesContainsIntIntX1 false [] [4]) .ret))
def qSlicesContainsIntInt : AFn := ⟨9, 2, [.t 4], cSlicesContainsIntInt⟩
/- slices.Index[[]int,int] -/
def rSlicesIndexIntIntX0 : List O := [
  ⟨(some 4), none, .mv (.k (.int .i64 0))⟩]
def rSlicesIndexIntIntX1 : List O := [
  ⟨(some 6), none, .mv (.t 0)⟩,
  ⟨(some 7), none, .len (.t 6)⟩,
  ⟨(some 8), none, .mv (.k (.int .i64 0))⟩]
def rSlicesIndexIntIntX2 : List O := [
  ⟨(some 9), none, .bin .lss (.t 8) (.t 7)⟩]
def rSlicesIndexIntIntX3 : List O := [
  ⟨(some 10), none, .mv (.t 8)⟩,
  ⟨(some 5), none, .mv (.t 10)⟩]
def rSlicesIndexIntIntX4 : List O := [
  ⟨(some 11), none, .mv (.t 1)⟩,
  ⟨(some 12), none, .mv (.t 0)⟩,
  ⟨(some 13), none, .mv (.t 5)⟩,
  ⟨(some 14), none, .ixa 1 (.t 12) (.t 13)⟩,
  ⟨(some 15), none, .ld none (.t 14)⟩,
  ⟨(some 16), none, .bin .eql (.t 11) (.t 15)⟩]
def rSlicesIndexIntIntX5 : List O := [
  ⟨(some 17), none, .mv (.t 5)⟩,
  ⟨(some 4), none, .mv (.t 17)⟩]
def rSlicesIndexIntIntX6 : List O := [
  ⟨(some 18), none, .bin .add (.t 8) (.k (.int .i64 1))⟩,
  ⟨(some 8), none, .mv (.t 18)⟩]
def lSlicesIndexIntIntX0 : C := (.seq (.reg rSlicesIndexIntIntX2 false [] [0, 1, 7, 8, 9]) (.seq (.cond (.t 9) .skip (.exit 0)) (.seq (.blk 1 (.seq (.reg rSlicesIndexIntIntX3 false [] [0, 1, 5, 7, 8]) (.seq (.reg rSlicesIndexIntIntX4 false [] [0, 1, 5, 7, 8, 16]) (.cond (.t 16) (.seq (.reg rSlicesIndexIntIntX5 false [] [4]) .ret) .skip)))) (.reg rSlicesIndexIntIntX6 false [] [0, 1, 7, 8]))))
def rSlicesIndexIntIntX7 : List O := [
  ⟨(some 4), none, .mv (.k (.int .i64 (-1)))⟩]
def cSlicesIndexIntInt : C := (.seq (.reg rSlicesIndexIntIntX0 false [] [0, 1]) (.seq (.seq (.reg rSlicesIndexIntIntX1 false [] [0, 1, 7, 8]) (.blk 0 (.loop lSlicesIndexIntIntX0))) (.seq (.reg rSlicesIndexIntIntX7 false [] [4]) .ret)))
def qSlicesIndexIntInt : AFn := ⟨19, 2, [.t 4], cSlicesIndexIntInt⟩
abbrev Md := Go.Bm.Md
abbrev Cfg := Go.Bm.Cfg
def look : List (Nat × Md × AFn) → Nat → Option (Md × AFn)
  | [], _ => none
  | (j, m, q) :: r, i => if i = j then some (m, q) else look r i
def fns : List (Nat × Md × AFn) := [
  (nLaw37PartitionBalances, ⟨false, false, true⟩, qLaw37PartitionBalances),
  (nMakeFew, ⟨false, false, true⟩, qMakeFew),
  (nLaw37Awake, ⟨false, false, true⟩, qLaw37Awake),
  (nMakeGraph, ⟨true, false, false⟩, qMakeGraph),
  (nMakeNew, ⟨true, false, false⟩, qMakeNew),
  (nPartitionMake, ⟨false, false, false⟩, qPartitionMake),
  (nRef37Check, ⟨false, false, true⟩, qRef37Check),
  (nPartitionCheck, ⟨false, false, true⟩, qPartitionCheck),
  (nRef03Degree, ⟨false, false, true⟩, qRef03Degree),
  (nRef02Has, ⟨false, false, true⟩, qRef02Has),
  (nRef02Cmp, ⟨false, false, true⟩, qRef02Cmp),
  (nRef02Of, ⟨false, false, false⟩, qRef02Of),
  (nMakeDeckNext, ⟨true, false, false⟩, qMakeDeckNext),
  (nPartitionHome, ⟨false, false, true⟩, qPartitionHome),
  (nDegreeDegrees, ⟨false, false, false⟩, qDegreeDegrees),
  (nPartitionWorkers, ⟨false, false, true⟩, qPartitionWorkers),
  (nSlicesSortFuncPartitionPartPartitionPart, ⟨false, false, true⟩, qSlicesSortFuncPartitionPartPartitionPart),
  (nPartitionMake1, ⟨false, false, true⟩, qPartitionMake1),
  (nCmpOrInt, ⟨false, false, true⟩, qCmpOrInt),
  (nCmpCompareInt, ⟨false, false, true⟩, qCmpCompareInt),
  (nSlicesMinFuncPartitionPartPartitionPart, ⟨false, false, true⟩, qSlicesMinFuncPartitionPartPartitionPart),
  (nPartitionMake2, ⟨false, false, true⟩, qPartitionMake2),
  (nRef02Valid, ⟨false, false, true⟩, qRef02Valid),
  (nNodesetValid, ⟨false, false, true⟩, qNodesetValid),
  (nSlicesContainsFuncIntInt, ⟨true, false, false⟩, qSlicesContainsFuncIntInt),
  (nPartitionCheck1, ⟨true, false, false⟩, qPartitionCheck1),
  (nRef03Neighbours, ⟨false, false, false⟩, qRef03Neighbours),
  (nPartitionHomeN40, ⟨false, false, true⟩, qPartitionHomeN40),
  (nRef02Put, ⟨false, false, false⟩, qRef02Put),
  (nMakeMod, ⟨false, false, true⟩, qMakeMod),
  (nGraphCheck, ⟨false, false, true⟩, qGraphCheck),
  (nMasksRows, ⟨false, false, false⟩, qMasksRows),
  (nMasksCount, ⟨false, false, true⟩, qMasksCount),
  (nCmpIsNaNInt, ⟨false, false, true⟩, qCmpIsNaNInt),
  (nSlicesIndexFuncIntInt, ⟨true, false, false⟩, qSlicesIndexFuncIntInt),
  (nRef03Check, ⟨false, false, true⟩, qRef03Check),
  (nNodesetHas, ⟨false, false, true⟩, qNodesetHas),
  (nGraphOrder, ⟨false, false, true⟩, qGraphOrder),
  (nMathBitsOnesCount64, ⟨false, false, true⟩, qMathBitsOnesCount64),
  (nRef03Before, ⟨false, false, true⟩, qRef03Before),
  (nSlicesContainsIntInt, ⟨false, false, true⟩, qSlicesContainsIntInt),
  (nSlicesIndexIntInt, ⟨false, false, true⟩, qSlicesIndexIntInt)]
def cfg : Cfg := ⟨look fns, fun _ => [], fun _ => none, fun _ => none⟩
theorem kLaw37PartitionBalances : chkFB Go.Proofs.Try.prog Go.Proofs.Try.f3 qLaw37PartitionBalances = true := by kernel_rfl
theorem kMakeFew : chkFB Go.Proofs.Try.prog Go.Proofs.Try.f6 qMakeFew = true := by kernel_rfl
theorem kLaw37Awake : chkFB Go.Proofs.Try.prog Go.Proofs.Try.f7 qLaw37Awake = true := by kernel_rfl
theorem kMakeGraph : chkFB Go.Proofs.Try.prog Go.Proofs.Try.f8 qMakeGraph = true := by kernel_rfl
theorem kMakeNew : chkFB Go.Proofs.Try.prog Go.Proofs.Try.f9 qMakeNew = true := by kernel_rfl
theorem kPartitionMake : chkFB Go.Proofs.Try.prog Go.Proofs.Try.f10 qPartitionMake = true := by kernel_rfl
theorem kRef37Check : chkFB Go.Proofs.Try.prog Go.Proofs.Try.f11 qRef37Check = true := by kernel_rfl
theorem kPartitionCheck : chkFB Go.Proofs.Try.prog Go.Proofs.Try.f12 qPartitionCheck = true := by kernel_rfl
theorem kRef03Degree : chkFB Go.Proofs.Try.prog Go.Proofs.Try.f13 qRef03Degree = true := by kernel_rfl
theorem kRef02Has : chkFB Go.Proofs.Try.prog Go.Proofs.Try.f14 qRef02Has = true := by kernel_rfl
theorem kRef02Cmp : chkFB Go.Proofs.Try.prog Go.Proofs.Try.f18 qRef02Cmp = true := by kernel_rfl
theorem kRef02Of : chkFB Go.Proofs.Try.prog Go.Proofs.Try.f19 qRef02Of = true := by kernel_rfl
theorem kMakeDeckNext : chkFB Go.Proofs.Try.prog Go.Proofs.Try.f21 qMakeDeckNext = true := by kernel_rfl
theorem kPartitionHome : chkFB Go.Proofs.Try.prog Go.Proofs.Try.f23 qPartitionHome = true := by kernel_rfl
theorem kDegreeDegrees : chkFB Go.Proofs.Try.prog Go.Proofs.Try.f24 qDegreeDegrees = true := by kernel_rfl
theorem kPartitionWorkers : chkFB Go.Proofs.Try.prog Go.Proofs.Try.f25 qPartitionWorkers = true := by kernel_rfl
theorem kSlicesSortFuncPartitionPartPartitionPart : chkFB Go.Proofs.Try.prog Go.Proofs.Try.f26 qSlicesSortFuncPartitionPartPartitionPart = true := by kernel_rfl
theorem kPartitionMake1 : chkFB Go.Proofs.Try.prog Go.Proofs.Try.f27 qPartitionMake1 = true := by kernel_rfl
theorem kCmpOrInt : chkFB Go.Proofs.Try.prog Go.Proofs.Try.f28 qCmpOrInt = true := by kernel_rfl
theorem kCmpCompareInt : chkFB Go.Proofs.Try.prog Go.Proofs.Try.f29 qCmpCompareInt = true := by kernel_rfl
theorem kSlicesMinFuncPartitionPartPartitionPart : chkFB Go.Proofs.Try.prog Go.Proofs.Try.f30 qSlicesMinFuncPartitionPartPartitionPart = true := by kernel_rfl
theorem kPartitionMake2 : chkFB Go.Proofs.Try.prog Go.Proofs.Try.f31 qPartitionMake2 = true := by kernel_rfl
theorem kRef02Valid : chkFB Go.Proofs.Try.prog Go.Proofs.Try.f32 qRef02Valid = true := by kernel_rfl
theorem kNodesetValid : chkFB Go.Proofs.Try.prog Go.Proofs.Try.f33 qNodesetValid = true := by kernel_rfl
theorem kSlicesContainsFuncIntInt : chkFB Go.Proofs.Try.prog Go.Proofs.Try.f34 qSlicesContainsFuncIntInt = true := by kernel_rfl
theorem kPartitionCheck1 : chkFB Go.Proofs.Try.prog Go.Proofs.Try.f35 qPartitionCheck1 = true := by kernel_rfl
theorem kRef03Neighbours : chkFB Go.Proofs.Try.prog Go.Proofs.Try.f36 qRef03Neighbours = true := by kernel_rfl
theorem kPartitionHomeN40 : chkFB Go.Proofs.Try.prog Go.Proofs.Try.f40 qPartitionHomeN40 = true := by kernel_rfl
theorem kRef02Put : chkFB Go.Proofs.Try.prog Go.Proofs.Try.f44 qRef02Put = true := by kernel_rfl
theorem kMakeMod : chkFB Go.Proofs.Try.prog Go.Proofs.Try.f45 qMakeMod = true := by kernel_rfl
theorem kGraphCheck : chkFB Go.Proofs.Try.prog Go.Proofs.Try.f47 qGraphCheck = true := by kernel_rfl
theorem kMasksRows : chkFB Go.Proofs.Try.prog Go.Proofs.Try.f48 qMasksRows = true := by kernel_rfl
theorem kMasksCount : chkFB Go.Proofs.Try.prog Go.Proofs.Try.f49 qMasksCount = true := by kernel_rfl
theorem kCmpIsNaNInt : chkFB Go.Proofs.Try.prog Go.Proofs.Try.f52 qCmpIsNaNInt = true := by kernel_rfl
theorem kSlicesIndexFuncIntInt : chkFB Go.Proofs.Try.prog Go.Proofs.Try.f53 qSlicesIndexFuncIntInt = true := by kernel_rfl
theorem kRef03Check : chkFB Go.Proofs.Try.prog Go.Proofs.Try.f54 qRef03Check = true := by kernel_rfl
theorem kNodesetHas : chkFB Go.Proofs.Try.prog Go.Proofs.Try.f55 qNodesetHas = true := by kernel_rfl
theorem kGraphOrder : chkFB Go.Proofs.Try.prog Go.Proofs.Try.f57 qGraphOrder = true := by kernel_rfl
theorem kMathBitsOnesCount64 : chkFB Go.Proofs.Try.prog Go.Proofs.Try.f58 qMathBitsOnesCount64 = true := by kernel_rfl
theorem kRef03Before : chkFB Go.Proofs.Try.prog Go.Proofs.Try.f69 qRef03Before = true := by kernel_rfl
theorem kSlicesContainsIntInt : chkFB Go.Proofs.Try.prog Go.Proofs.Try.f70 qSlicesContainsIntInt = true := by kernel_rfl
theorem kSlicesIndexIntInt : chkFB Go.Proofs.Try.prog Go.Proofs.Try.f78 qSlicesIndexIntInt = true := by kernel_rfl
theorem look_mem : ∀ {l : List (Nat × Md × AFn)} {f : Nat} {m : Md} {q : AFn}, look l f = some (m, q) → (f, m, q) ∈ l
  | [], f, m, q, h => by simp [look] at h
  | (j, m', q') :: r, f, m, q, h => by
    unfold look at h
    split at h
    · rename_i he; subst he; simp at h; obtain ⟨rfl, rfl⟩ := h; simp
    · exact List.mem_cons_of_mem _ (look_mem h)
def Good (p : Nat × Md × AFn) : Prop := ∃ fn, Go.Proofs.Try.prog.funcs[p.1]? = some fn ∧ chkFB Go.Proofs.Try.prog fn p.2.2 = true
def All (G : Nat × Md × AFn → Prop) : List (Nat × Md × AFn) → Prop
  | [] => True
  | p :: r => G p ∧ All G r
theorem All.get {G : Nat × Md × AFn → Prop} : ∀ {l : List (Nat × Md × AFn)}, All G l → ∀ p ∈ l, G p
  | [], _, p, h => by simp at h
  | q :: r, h, p, hp => by
    rcases List.mem_cons.1 hp with e | e
    · subst e; exact h.1
    · exact All.get h.2 p e
theorem allGood : All Good fns := ⟨⟨_, Go.Proofs.Try.func3, kLaw37PartitionBalances⟩, ⟨_, Go.Proofs.Try.func6, kMakeFew⟩, ⟨_, Go.Proofs.Try.func7, kLaw37Awake⟩, ⟨_, Go.Proofs.Try.func8, kMakeGraph⟩, ⟨_, Go.Proofs.Try.func9, kMakeNew⟩, ⟨_, Go.Proofs.Try.func10, kPartitionMake⟩, ⟨_, Go.Proofs.Try.func11, kRef37Check⟩, ⟨_, Go.Proofs.Try.func12, kPartitionCheck⟩, ⟨_, Go.Proofs.Try.func13, kRef03Degree⟩, ⟨_, Go.Proofs.Try.func14, kRef02Has⟩, ⟨_, Go.Proofs.Try.func18, kRef02Cmp⟩, ⟨_, Go.Proofs.Try.func19, kRef02Of⟩, ⟨_, Go.Proofs.Try.func21, kMakeDeckNext⟩, ⟨_, Go.Proofs.Try.func23, kPartitionHome⟩, ⟨_, Go.Proofs.Try.func24, kDegreeDegrees⟩, ⟨_, Go.Proofs.Try.func25, kPartitionWorkers⟩, ⟨_, Go.Proofs.Try.func26, kSlicesSortFuncPartitionPartPartitionPart⟩, ⟨_, Go.Proofs.Try.func27, kPartitionMake1⟩, ⟨_, Go.Proofs.Try.func28, kCmpOrInt⟩, ⟨_, Go.Proofs.Try.func29, kCmpCompareInt⟩, ⟨_, Go.Proofs.Try.func30, kSlicesMinFuncPartitionPartPartitionPart⟩, ⟨_, Go.Proofs.Try.func31, kPartitionMake2⟩, ⟨_, Go.Proofs.Try.func32, kRef02Valid⟩, ⟨_, Go.Proofs.Try.func33, kNodesetValid⟩, ⟨_, Go.Proofs.Try.func34, kSlicesContainsFuncIntInt⟩, ⟨_, Go.Proofs.Try.func35, kPartitionCheck1⟩, ⟨_, Go.Proofs.Try.func36, kRef03Neighbours⟩, ⟨_, Go.Proofs.Try.func40, kPartitionHomeN40⟩, ⟨_, Go.Proofs.Try.func44, kRef02Put⟩, ⟨_, Go.Proofs.Try.func45, kMakeMod⟩, ⟨_, Go.Proofs.Try.func47, kGraphCheck⟩, ⟨_, Go.Proofs.Try.func48, kMasksRows⟩, ⟨_, Go.Proofs.Try.func49, kMasksCount⟩, ⟨_, Go.Proofs.Try.func52, kCmpIsNaNInt⟩, ⟨_, Go.Proofs.Try.func53, kSlicesIndexFuncIntInt⟩, ⟨_, Go.Proofs.Try.func54, kRef03Check⟩, ⟨_, Go.Proofs.Try.func55, kNodesetHas⟩, ⟨_, Go.Proofs.Try.func57, kGraphOrder⟩, ⟨_, Go.Proofs.Try.func58, kMathBitsOnesCount64⟩, ⟨_, Go.Proofs.Try.func69, kRef03Before⟩, ⟨_, Go.Proofs.Try.func70, kSlicesContainsIntInt⟩, ⟨_, Go.Proofs.Try.func78, kSlicesIndexIntInt⟩, trivial⟩
theorem cfgOK : CfgOKB Go.Proofs.Try.prog cfg := ⟨by kernel_rfl, fun f m q h => allGood.get _ (look_mem h)⟩
theorem gLaw37PartitionBalances : cfg.fn nLaw37PartitionBalances = some (⟨false, false, true⟩, qLaw37PartitionBalances) := rfl
theorem gMakeFew : cfg.fn nMakeFew = some (⟨false, false, true⟩, qMakeFew) := rfl
theorem gLaw37Awake : cfg.fn nLaw37Awake = some (⟨false, false, true⟩, qLaw37Awake) := rfl
theorem gMakeGraph : cfg.fn nMakeGraph = some (⟨true, false, false⟩, qMakeGraph) := rfl
theorem gMakeNew : cfg.fn nMakeNew = some (⟨true, false, false⟩, qMakeNew) := rfl
theorem gPartitionMake : cfg.fn nPartitionMake = some (⟨false, false, false⟩, qPartitionMake) := rfl
theorem gRef37Check : cfg.fn nRef37Check = some (⟨false, false, true⟩, qRef37Check) := rfl
theorem gPartitionCheck : cfg.fn nPartitionCheck = some (⟨false, false, true⟩, qPartitionCheck) := rfl
theorem gRef03Degree : cfg.fn nRef03Degree = some (⟨false, false, true⟩, qRef03Degree) := rfl
theorem gRef02Has : cfg.fn nRef02Has = some (⟨false, false, true⟩, qRef02Has) := rfl
theorem gRef02Cmp : cfg.fn nRef02Cmp = some (⟨false, false, true⟩, qRef02Cmp) := rfl
theorem gRef02Of : cfg.fn nRef02Of = some (⟨false, false, false⟩, qRef02Of) := rfl
theorem gMakeDeckNext : cfg.fn nMakeDeckNext = some (⟨true, false, false⟩, qMakeDeckNext) := rfl
theorem gPartitionHome : cfg.fn nPartitionHome = some (⟨false, false, true⟩, qPartitionHome) := rfl
theorem gDegreeDegrees : cfg.fn nDegreeDegrees = some (⟨false, false, false⟩, qDegreeDegrees) := rfl
theorem gPartitionWorkers : cfg.fn nPartitionWorkers = some (⟨false, false, true⟩, qPartitionWorkers) := rfl
theorem gSlicesSortFuncPartitionPartPartitionPart : cfg.fn nSlicesSortFuncPartitionPartPartitionPart = some (⟨false, false, true⟩, qSlicesSortFuncPartitionPartPartitionPart) := rfl
theorem gPartitionMake1 : cfg.fn nPartitionMake1 = some (⟨false, false, true⟩, qPartitionMake1) := rfl
theorem gCmpOrInt : cfg.fn nCmpOrInt = some (⟨false, false, true⟩, qCmpOrInt) := rfl
theorem gCmpCompareInt : cfg.fn nCmpCompareInt = some (⟨false, false, true⟩, qCmpCompareInt) := rfl
theorem gSlicesMinFuncPartitionPartPartitionPart : cfg.fn nSlicesMinFuncPartitionPartPartitionPart = some (⟨false, false, true⟩, qSlicesMinFuncPartitionPartPartitionPart) := rfl
theorem gPartitionMake2 : cfg.fn nPartitionMake2 = some (⟨false, false, true⟩, qPartitionMake2) := rfl
theorem gRef02Valid : cfg.fn nRef02Valid = some (⟨false, false, true⟩, qRef02Valid) := rfl
theorem gNodesetValid : cfg.fn nNodesetValid = some (⟨false, false, true⟩, qNodesetValid) := rfl
theorem gSlicesContainsFuncIntInt : cfg.fn nSlicesContainsFuncIntInt = some (⟨true, false, false⟩, qSlicesContainsFuncIntInt) := rfl
theorem gPartitionCheck1 : cfg.fn nPartitionCheck1 = some (⟨true, false, false⟩, qPartitionCheck1) := rfl
theorem gRef03Neighbours : cfg.fn nRef03Neighbours = some (⟨false, false, false⟩, qRef03Neighbours) := rfl
theorem gPartitionHomeN40 : cfg.fn nPartitionHomeN40 = some (⟨false, false, true⟩, qPartitionHomeN40) := rfl
theorem gRef02Put : cfg.fn nRef02Put = some (⟨false, false, false⟩, qRef02Put) := rfl
theorem gMakeMod : cfg.fn nMakeMod = some (⟨false, false, true⟩, qMakeMod) := rfl
theorem gGraphCheck : cfg.fn nGraphCheck = some (⟨false, false, true⟩, qGraphCheck) := rfl
theorem gMasksRows : cfg.fn nMasksRows = some (⟨false, false, false⟩, qMasksRows) := rfl
theorem gMasksCount : cfg.fn nMasksCount = some (⟨false, false, true⟩, qMasksCount) := rfl
theorem gCmpIsNaNInt : cfg.fn nCmpIsNaNInt = some (⟨false, false, true⟩, qCmpIsNaNInt) := rfl
theorem gSlicesIndexFuncIntInt : cfg.fn nSlicesIndexFuncIntInt = some (⟨true, false, false⟩, qSlicesIndexFuncIntInt) := rfl
theorem gRef03Check : cfg.fn nRef03Check = some (⟨false, false, true⟩, qRef03Check) := rfl
theorem gNodesetHas : cfg.fn nNodesetHas = some (⟨false, false, true⟩, qNodesetHas) := rfl
theorem gGraphOrder : cfg.fn nGraphOrder = some (⟨false, false, true⟩, qGraphOrder) := rfl
theorem gMathBitsOnesCount64 : cfg.fn nMathBitsOnesCount64 = some (⟨false, false, true⟩, qMathBitsOnesCount64) := rfl
theorem gRef03Before : cfg.fn nRef03Before = some (⟨false, false, true⟩, qRef03Before) := rfl
theorem gSlicesContainsIntInt : cfg.fn nSlicesContainsIntInt = some (⟨false, false, true⟩, qSlicesContainsIntInt) := rfl
theorem gSlicesIndexIntInt : cfg.fn nSlicesIndexIntInt = some (⟨false, false, true⟩, qSlicesIndexIntInt) := rfl
end Go.BmP
