/- The compact code of the functions, printed by program off the translation. -/
import Derived.Test.YtiohfglnoneanaaDoorChecked
import Derived.Test.YtiohfglnoneanaaDoorBmA
import Derived.KernelRfl
set_option maxRecDepth 100000
namespace Go.BmP
open Go.Am Go.Bm
def nLaw24CliquesGoes : Nat := 5
def nCliquesAll : Nat := 10
def nLaw24Awake : Nat := 11
def nMakeFew : Nat := 12
def nMakeNew : Nat := 13
def nMakeGraph : Nat := 14
def nRef02Cmp : Nat := 17
def nCliquesNext : Nat := 19
def nCliquesCheck : Nat := 20
def nMakeDeckNext : Nat := 21
def nCliquesExtend : Nat := 25
def nCliquesIs : Nat := 28
def nGraphCheck : Nat := 44
def nCliquesEach : Nat := 45
def nCliquesAll1 : Nat := 46
def nRef03Of : Nat := 47
def nCliquesNext1 : Nat := 49
def nCliquesCheck1 : Nat := 50
def nSlicesEqualIntInt : Nat := 51
def nMakeMod : Nat := 52
def nCliquesMasks : Nat := 53
def nSlicesCloneIntInt : Nat := 54
def nCliquesCommon : Nat := 55
def nMathBitsTrailingZeros64 : Nat := 56
def nSlicesSortIntInt : Nat := 57
def nNodesetValid : Nat := 61
def nCliquesClique : Nat := 62
def nGraphOrder : Nat := 73
def nCliquesEach1 : Nat := 76
def nCliquesAllN77 : Nat := 77
def nRef03Ends : Nat := 78
def nRef03With : Nat := 79
def nRef03Edge : Nat := 80
def nRef03Before : Nat := 83
def nCmpOrInt : Nat := 91
def nCmpCompareInt : Nat := 92
def nCmpIsNaNInt : Nat := 113
/- cohesion/cohesionlaw24.CliquesGoes -/
def rLaw24CliquesGoesX0 : List O := [
  ⟨(some 2), none, .mv (.k (.bool false))⟩]
def rLaw24CliquesGoesX1 : List O := [
  ⟨(some 17), none, .mv (.t 0)⟩,
  ⟨(some 18), none, .call nMakeFew [(.t 17)]⟩,
  ⟨(some 19), none, .un .not (.t 18)⟩]
def rLaw24CliquesGoesX2 : List O := [
  ⟨(some 20), none, .call nLaw24Awake []⟩,
  ⟨(some 2), none, .mv (.t 20)⟩]
def rLaw24CliquesGoesX3 : List O := [
  ⟨(some 21), none, .mv (.t 0)⟩,
  ⟨(some 22), none, .call nMakeNew [(.t 21)]⟩,
  ⟨(some 3), none, .mv (.t 22)⟩]
def rLaw24CliquesGoesX4 : List O := [
  ⟨(some 23), none, .mv (.t 3)⟩,
  ⟨(some 24), none, .call nMakeGraph [(.t 23), (.k (.int .i64 8))]⟩,
  ⟨(some 4), none, .new [(.int .i64 0), (.own 2 [])]⟩,
  ⟨none, none, .st 2 (.t 4) (.t 24)⟩]
def rLaw24CliquesGoesX5 : List O := [
  ⟨(some 26), none, .ld (some 2) (.t 4)⟩,
  ⟨(some 27), none, .call nCliquesAll [(.t 26), (.k (.int .i64 4096))]⟩,
  ⟨(some 25), none, .mv (.t 27)⟩,
  ⟨(some 28), none, .ext 0 (.t 25)⟩,
  ⟨(some 29), none, .ext 1 (.t 25)⟩,
  ⟨(some 5), none, .mv (.t 28)⟩,
  ⟨(some 6), none, .mv (.t 29)⟩]
def rLaw24CliquesGoesX6 : List O := [
  ⟨(some 7), none, .mv (.k (.own 1 []))⟩]
def rLaw24CliquesGoesX7 : List O := [
  ⟨(some 8), none, .mv (.k (.int .i64 0))⟩]
def rLaw24CliquesGoesX8 : List O := [
  ⟨(some 30), none, .mv (.t 8)⟩,
  ⟨(some 31), none, .mv (.t 5)⟩,
  ⟨(some 32), none, .len (.t 31)⟩,
  ⟨(some 33), none, .bin .leq (.t 30) (.t 32)⟩]
def rLaw24CliquesGoesX9 : List O := [
  ⟨(some 37), none, .ld (some 2) (.t 4)⟩,
  ⟨(some 38), none, .mv (.t 7)⟩,
  ⟨(some 39), none, .call nCliquesNext [(.t 37), (.t 38)]⟩,
  ⟨(some 36), none, .mv (.t 39)⟩,
  ⟨(some 40), none, .ext 0 (.t 36)⟩,
  ⟨(some 41), none, .ext 1 (.t 36)⟩,
  ⟨(some 42), none, .ext 2 (.t 36)⟩,
  ⟨(some 9), none, .mv (.t 40)⟩,
  ⟨(some 10), none, .mv (.t 41)⟩,
  ⟨(some 11), none, .mv (.t 42)⟩]
def rLaw24CliquesGoesX10 : List O := [
  ⟨(some 43), none, .mv (.t 11)⟩,
  ⟨(some 44), none, .bin .neq (.t 43) (.k (.int .i64 0))⟩,
  ⟨(some 45), none, .mv (.t 44)⟩,
  ⟨(some 46), (some (45, false)), .mv (.t 10)⟩,
  ⟨(some 47), (some (45, false)), .mv (.t 8)⟩,
  ⟨(some 48), (some (45, false)), .mv (.t 5)⟩,
  ⟨(some 49), (some (45, false)), .len (.t 48)⟩,
  ⟨(some 50), (some (45, false)), .bin .lss (.t 47) (.t 49)⟩,
  ⟨(some 51), (some (45, false)), .eq true .bool (.t 46) (.t 50)⟩,
  ⟨(some 52), none, .pick (.t 45) (.k (.bool true)) (.t 51)⟩,
  ⟨(some 53), none, .mv (.t 52)⟩,
  ⟨(some 54), (some (53, false)), .mv (.t 10)⟩,
  ⟨(some 55), (some (53, false)), .mv (.t 54)⟩,
  ⟨(some 56), (some (55, true)), .mv (.t 9)⟩,
  ⟨(some 57), (some (55, true)), .mv (.t 5)⟩,
  ⟨(some 58), (some (55, true)), .mv (.t 8)⟩,
  ⟨(some 59), (some (55, true)), .ixa 1 (.t 57) (.t 58)⟩,
  ⟨(some 60), (some (55, true)), .ld none (.t 59)⟩,
  ⟨(some 61), (some (55, true)), .call nRef02Cmp [(.t 56), (.t 60)]⟩,
  ⟨(some 62), (some (55, true)), .bin .neq (.t 61) (.k (.int .i64 0))⟩,
  ⟨(some 63), (some (53, false)), .pick (.t 55) (.t 62) (.k (.bool false))⟩,
  ⟨(some 64), none, .pick (.t 53) (.k (.bool true)) (.t 63)⟩]
def rLaw24CliquesGoesX11 : List O := [
  ⟨(some 2), none, .mv (.k (.bool false))⟩]
def rLaw24CliquesGoesX12 : List O := [
  ⟨(some 65), none, .mv (.t 9)⟩,
  ⟨(some 7), none, .mv (.t 65)⟩]
def rLaw24CliquesGoesX13 : List O := [
  ⟨(some 34), none, .mv (.t 8)⟩,
  ⟨(some 35), none, .bin .add (.t 34) (.k (.int .i64 1))⟩,
  ⟨(some 8), none, .mv (.t 35)⟩]
def lLaw24CliquesGoesX0 : C := (.seq (.seq (.reg rLaw24CliquesGoesX8 false [] [3, 4, 5, 6, 7, 8, 33]) (.cond (.t 33) .skip (.exit 0))) (.seq (.blk 1 (.seq (.reg rLaw24CliquesGoesX9 false [] [3, 4, 5, 6, 8, 9, 10, 11]) (.seq (.seq (.reg rLaw24CliquesGoesX10 false [] [3, 4, 5, 6, 8, 9, 64]) (.cond (.t 64) (.seq (.reg rLaw24CliquesGoesX11 false [] [2]) .ret) .skip)) (.reg rLaw24CliquesGoesX12 false [] [3, 4, 5, 6, 7, 8])))) (.reg rLaw24CliquesGoesX13 false [] [3, 4, 5, 6, 7, 8])))
def rLaw24CliquesGoesX14 : List O := [
  ⟨(some 66), none, .mv (.t 6)⟩,
  ⟨(some 67), none, .bin .neq (.t 66) (.k (.int .i64 0))⟩,
  ⟨(some 68), none, .mv (.t 67)⟩,
  ⟨(some 69), (some (68, false)), .ld (some 2) (.t 4)⟩,
  ⟨(some 70), (some (68, false)), .mv (.t 5)⟩,
  ⟨(some 71), (some (68, false)), .call nCliquesCheck [(.t 69), (.t 70)]⟩,
  ⟨(some 72), (some (68, false)), .un .not (.t 71)⟩,
  ⟨(some 73), none, .pick (.t 68) (.k (.bool true)) (.t 72)⟩]
def rLaw24CliquesGoesX15 : List O := [
  ⟨(some 2), none, .mv (.k (.bool false))⟩]
def rLaw24CliquesGoesX16 : List O := [
  ⟨(some 74), none, .mv (.t 5)⟩,
  ⟨(some 75), none, .len (.t 74)⟩,
  ⟨(some 12), none, .mv (.t 75)⟩]
def rLaw24CliquesGoesX17 : List O := [
  ⟨(some 76), none, .mv (.t 12)⟩,
  ⟨(some 77), none, .bin .gtr (.t 76) (.k (.int .i64 0))⟩]
def rLaw24CliquesGoesX18 : List O := [
  ⟨(some 78), none, .mv (.t 3)⟩,
  ⟨(some 79), none, .mv (.t 12)⟩,
  ⟨(some 80), none, .call nMakeDeckNext [(.t 78), (.t 79)]⟩,
  ⟨(some 13), none, .mv (.t 80)⟩]
def rLaw24CliquesGoesX19 : List O := [
  ⟨(some 81), none, .mv (.t 5)⟩,
  ⟨(some 82), none, .mv (.t 13)⟩,
  ⟨(some 83), none, .slc 1 (.t 81) none (some (.t 82))⟩,
  ⟨(some 84), none, .app 1 (.k (.own 1 [])) (.t 83)⟩,
  ⟨(some 85), none, .mv (.t 5)⟩,
  ⟨(some 86), none, .mv (.t 13)⟩,
  ⟨(some 87), none, .bin .add (.t 86) (.k (.int .i64 1))⟩,
  ⟨(some 88), none, .slc 1 (.t 85) (some (.t 87)) none⟩,
  ⟨(some 89), none, .app 1 (.t 84) (.t 88)⟩,
  ⟨(some 14), none, .mv (.t 89)⟩]
def rLaw24CliquesGoesX20 : List O := [
  ⟨(some 90), none, .mv (.t 5)⟩,
  ⟨(some 91), none, .mv (.t 13)⟩,
  ⟨(some 92), none, .bin .add (.t 91) (.k (.int .i64 1))⟩,
  ⟨(some 93), none, .slc 1 (.t 90) none (some (.t 92))⟩,
  ⟨(some 94), none, .app 1 (.k (.own 1 [])) (.t 93)⟩,
  ⟨(some 95), none, .mv (.t 5)⟩,
  ⟨(some 96), none, .mv (.t 13)⟩,
  ⟨(some 97), none, .slc 1 (.t 95) (some (.t 96)) none⟩,
  ⟨(some 98), none, .app 1 (.t 94) (.t 97)⟩,
  ⟨(some 15), none, .mv (.t 98)⟩]
def rLaw24CliquesGoesX21 : List O := [
  ⟨(some 99), none, .mv (.t 5)⟩,
  ⟨(some 100), none, .app 1 (.k (.own 1 [])) (.t 99)⟩,
  ⟨(some 16), none, .mv (.t 100)⟩]
def rLaw24CliquesGoesX22 : List O := [
  ⟨(some 101), none, .mv (.t 16)⟩,
  ⟨(some 102), none, .mv (.t 16)⟩,
  ⟨(some 103), none, .mv (.t 12)⟩,
  ⟨(some 104), none, .bin .sub (.t 103) (.k (.int .i64 1))⟩,
  ⟨(some 105), none, .mv (.t 16)⟩,
  ⟨(some 106), none, .mv (.t 12)⟩,
  ⟨(some 107), none, .bin .sub (.t 106) (.k (.int .i64 1))⟩,
  ⟨(some 108), none, .ixa 1 (.t 105) (.t 107)⟩,
  ⟨(some 109), none, .ld none (.t 108)⟩,
  ⟨(some 110), none, .mv (.t 16)⟩,
  ⟨(some 111), none, .ixa 1 (.t 110) (.k (.int .i64 0))⟩,
  ⟨(some 112), none, .ld none (.t 111)⟩,
  ⟨(some 113), none, .ixa 1 (.t 101) (.k (.int .i64 0))⟩,
  ⟨none, none, .st 1 (.t 113) (.t 109)⟩,
  ⟨(some 114), none, .ixa 1 (.t 102) (.t 104)⟩,
  ⟨none, none, .st 1 (.t 114) (.t 112)⟩]
def rLaw24CliquesGoesX23 : List O := [
  ⟨(some 115), none, .ld (some 2) (.t 4)⟩,
  ⟨(some 116), none, .mv (.t 14)⟩,
  ⟨(some 117), none, .call nCliquesCheck [(.t 115), (.t 116)]⟩,
  ⟨(some 118), none, .mv (.t 117)⟩,
  ⟨(some 119), (some (118, false)), .ld (some 2) (.t 4)⟩,
  ⟨(some 120), (some (118, false)), .mv (.t 15)⟩,
  ⟨(some 121), (some (118, false)), .call nCliquesCheck [(.t 119), (.t 120)]⟩,
  ⟨(some 122), none, .pick (.t 118) (.k (.bool true)) (.t 121)⟩,
  ⟨(some 123), none, .mv (.t 122)⟩,
  ⟨(some 124), (some (123, false)), .mv (.t 12)⟩,
  ⟨(some 125), (some (123, false)), .bin .gtr (.t 124) (.k (.int .i64 1))⟩,
  ⟨(some 126), (some (123, false)), .mv (.t 125)⟩,
  ⟨(some 127), (some (126, true)), .ld (some 2) (.t 4)⟩,
  ⟨(some 128), (some (126, true)), .mv (.t 16)⟩,
  ⟨(some 129), (some (126, true)), .call nCliquesCheck [(.t 127), (.t 128)]⟩,
  ⟨(some 130), (some (123, false)), .pick (.t 126) (.t 129) (.k (.bool false))⟩,
  ⟨(some 131), none, .pick (.t 123) (.k (.bool true)) (.t 130)⟩]
def rLaw24CliquesGoesX24 : List O := [
  ⟨(some 2), none, .mv (.k (.bool false))⟩]
def rLaw24CliquesGoesX25 : List O := [
  ⟨(some 132), none, .call nLaw24Awake []⟩,
  ⟨(some 2), none, .mv (.t 132)⟩]
def cLaw24CliquesGoes : C := (.seq (.reg rLaw24CliquesGoesX0 false [] [0]) (.seq (.seq (.reg rLaw24CliquesGoesX1 false [] [0, 19]) (.cond (.t 19) (.seq (.reg rLaw24CliquesGoesX2 false [] [2]) .ret) .skip)) (.seq (.reg rLaw24CliquesGoesX3 false [] [3]) (.seq (.reg rLaw24CliquesGoesX4 false [] [3, 4]) (.seq (.reg rLaw24CliquesGoesX5 false [] [3, 4, 5, 6]) (.seq (.reg rLaw24CliquesGoesX6 false [] [3, 4, 5, 6, 7]) (.seq (.seq (.reg rLaw24CliquesGoesX7 false [] [3, 4, 5, 6, 7, 8]) (.blk 0 (.loop lLaw24CliquesGoesX0))) (.seq (.seq (.reg rLaw24CliquesGoesX14 false [] [3, 4, 5, 73]) (.cond (.t 73) (.seq (.reg rLaw24CliquesGoesX15 false [] [2]) .ret) .skip)) (.seq (.seq (.reg rLaw24CliquesGoesX16 false [] [3, 4, 5, 12]) (.seq (.reg rLaw24CliquesGoesX17 false [] [3, 4, 5, 12, 77]) (.cond (.t 77) (.seq (.reg rLaw24CliquesGoesX18 false [] [4, 5, 12, 13]) (.seq (.reg rLaw24CliquesGoesX19 true [(8, 8), (9, 9), (3, 4), (3, 5), (3, 6), (3, 7)] [4, 5, 12, 13, 14]) (.seq (.reg rLaw24CliquesGoesX20 true [(8, 8), (9, 9), (4, 5), (4, 6), (4, 7)] [4, 5, 12, 14, 15]) (.seq (.reg rLaw24CliquesGoesX21 false [] [4, 12, 14, 15, 16]) (.seq (.reg rLaw24CliquesGoesX22 true [(14, 14), (15, 15), (0, 8), (1, 8), (2, 8), (3, 8), (8, 9), (8, 10), (0, 11), (1, 11), (2, 11), (3, 11), (4, 11), (5, 11), (6, 11), (7, 11), (8, 11), (1, 13), (2, 13), (3, 13)] [4, 12, 14, 15, 16]) (.seq (.reg rLaw24CliquesGoesX23 false [] [131]) (.cond (.t 131) (.seq (.reg rLaw24CliquesGoesX24 false [] [2]) .ret) .skip))))))) .skip))) (.seq (.reg rLaw24CliquesGoesX25 false [] [2]) .ret))))))))))
def qLaw24CliquesGoes : AFn := ⟨133, 1, [.t 2], cLaw24CliquesGoes⟩
/- cohesion/cliques.All -/
def rCliquesAllX0 : List O := [
  ⟨(some 2), none, .box (.t 0)⟩,
  ⟨(some 3), none, .box (.t 1)⟩,
  ⟨(some 4), none, .mv (.k (.own 1 []))⟩,
  ⟨(some 5), none, .mv (.k (.int .i64 0))⟩]
def rCliquesAllX1 : List O := [
  ⟨(some 8), none, .ld (some 2) (.t 2)⟩,
  ⟨(some 9), none, .call nGraphCheck [(.t 8)]⟩,
  ⟨(some 6), none, .mv (.t 9)⟩]
def rCliquesAllX2 : List O := [
  ⟨(some 10), none, .mv (.t 6)⟩,
  ⟨(some 11), none, .bin .neq (.t 10) (.k (.int .i64 0))⟩]
def rCliquesAllX3 : List O := [
  ⟨(some 12), none, .mv (.t 6)⟩,
  ⟨(some 4), none, .mv (.k (.own 1 []))⟩,
  ⟨(some 5), none, .mv (.t 12)⟩]
def rCliquesAllX4 : List O := [
  ⟨(some 13), none, .ld none (.t 3)⟩,
  ⟨(some 14), none, .bin .lss (.t 13) (.k (.int .i64 0))⟩,
  ⟨(some 15), none, .mv (.t 14)⟩,
  ⟨(some 16), (some (15, false)), .ld none (.t 3)⟩,
  ⟨(some 17), (some (15, false)), .bin .gtr (.t 16) (.k (.int .i64 4096))⟩,
  ⟨(some 18), none, .pick (.t 15) (.k (.bool true)) (.t 17)⟩]
def rCliquesAllX5 : List O := [
  ⟨(some 4), none, .mv (.k (.own 1 []))⟩,
  ⟨(some 5), none, .mv (.k (.int .i64 1))⟩]
def rCliquesAllX6 : List O := [
  ⟨(some 7), none, .new [(.own 1 [])]⟩]
def rCliquesAllX7 : List O := [
  ⟨(some 19), none, .ld (some 2) (.t 2)⟩,
  ⟨(some 20), none, .mkf (.func nCliquesAll1) [] [(.t 7), (.t 3)]⟩,
  ⟨(some 21), none, .call nCliquesEach [(.t 19), (.k (.own 1 [])), (.t 20)]⟩]
def rCliquesAllX8 : List O := [
  ⟨(some 22), none, .ld none (.t 7)⟩,
  ⟨(some 23), none, .len (.t 22)⟩,
  ⟨(some 24), none, .ld none (.t 3)⟩,
  ⟨(some 25), none, .bin .gtr (.t 23) (.t 24)⟩]
def rCliquesAllX9 : List O := [
  ⟨(some 4), none, .mv (.k (.own 1 []))⟩,
  ⟨(some 5), none, .mv (.k (.int .i64 3))⟩]
def rCliquesAllX10 : List O := [
  ⟨(some 26), none, .ld none (.t 7)⟩,
  ⟨(some 4), none, .mv (.t 26)⟩,
  ⟨(some 5), none, .mv (.k (.int .i64 0))⟩]
def cCliquesAll : C := (.seq (.reg rCliquesAllX0 false [] [2, 3]) (.seq (.seq (.reg rCliquesAllX1 false [] [2, 3, 6]) (.seq (.reg rCliquesAllX2 false [] [2, 3, 6, 11]) (.cond (.t 11) (.seq (.reg rCliquesAllX3 false [] [4, 5]) .ret) .skip))) (.seq (.seq (.reg rCliquesAllX4 false [] [2, 3, 18]) (.cond (.t 18) (.seq (.reg rCliquesAllX5 false [] [4, 5]) .ret) .skip)) (.seq (.reg rCliquesAllX6 false [] [2, 3, 7]) (.seq (.reg rCliquesAllX7 false [] [3, 7]) (.seq (.seq (.reg rCliquesAllX8 false [] [7, 25]) (.cond (.t 25) (.seq (.reg rCliquesAllX9 false [] [4, 5]) .ret) .skip)) (.seq (.reg rCliquesAllX10 false [] [4, 5]) .ret)))))))
def qCliquesAll : AFn := ⟨27, 2, [.t 4, .t 5], cCliquesAll⟩
/- cohesion/cohesionlaw24.awake -/
def rLaw24AwakeX0 : List O := [
  ⟨(some 0), none, .mv (.k (.bool false))⟩]
def rLaw24AwakeX1 : List O := [
  ⟨(some 8), none, .build [(.int .i64 0), (.int .i64 0)] [(0, 1, (.k (.int .i64 0))), (1, 1, (.k (.int .i64 1)))]⟩,
  ⟨(some 9), none, .build [(.int .i64 0), (.int .i64 0)] [(0, 1, (.k (.int .i64 1))), (1, 1, (.k (.int .i64 2)))]⟩,
  ⟨(some 10), none, .bslice 2 2 [(.int .i64 0), (.int .i64 0)] [(0, 2, (.t 8)), (2, 2, (.t 9))]⟩,
  ⟨(some 11), none, .call nRef03Of [(.k (.int .i64 4)), (.t 10)]⟩,
  ⟨(some 7), none, .mv (.t 11)⟩,
  ⟨(some 12), none, .ext 0 (.t 7)⟩,
  ⟨(some 13), none, .ext 1 (.t 7)⟩,
  ⟨(some 1), none, .new [(.int .i64 0), (.own 2 [])]⟩,
  ⟨none, none, .st 2 (.t 1) (.t 12)⟩,
  ⟨(some 2), none, .mv (.t 13)⟩]
def rLaw24AwakeX2 : List O := [
  ⟨(some 15), none, .ld (some 2) (.t 1)⟩,
  ⟨(some 16), none, .call nCliquesAll [(.t 15), (.k (.int .i64 9))]⟩,
  ⟨(some 14), none, .mv (.t 16)⟩,
  ⟨(some 17), none, .ext 0 (.t 14)⟩,
  ⟨(some 18), none, .ext 1 (.t 14)⟩,
  ⟨(some 3), none, .mv (.t 17)⟩,
  ⟨(some 4), none, .mv (.t 18)⟩]
def rLaw24AwakeX3 : List O := [
  ⟨(some 20), none, .ld (some 2) (.t 1)⟩,
  ⟨(some 21), none, .bslice 1 1 [(.int .i64 0)] [(0, 1, (.k (.int .i64 2)))]⟩,
  ⟨(some 22), none, .call nCliquesExtend [(.t 20), (.t 21)]⟩,
  ⟨(some 19), none, .mv (.t 22)⟩,
  ⟨(some 23), none, .ext 0 (.t 19)⟩,
  ⟨(some 24), none, .ext 1 (.t 19)⟩,
  ⟨(some 5), none, .mv (.t 23)⟩,
  ⟨(some 6), none, .mv (.t 24)⟩]
def rLaw24AwakeX4 : List O := [
  ⟨(some 25), none, .mv (.t 4)⟩,
  ⟨(some 26), none, .bin .eql (.t 25) (.k (.int .i64 0))⟩,
  ⟨(some 27), none, .mv (.t 26)⟩,
  ⟨(some 28), (some (27, true)), .mv (.t 3)⟩,
  ⟨(some 29), (some (27, true)), .len (.t 28)⟩,
  ⟨(some 30), (some (27, true)), .bin .eql (.t 29) (.k (.int .i64 3))⟩,
  ⟨(some 31), none, .pick (.t 27) (.t 30) (.k (.bool false))⟩,
  ⟨(some 32), none, .mv (.t 31)⟩,
  ⟨(some 33), (some (32, true)), .mv (.t 3)⟩,
  ⟨(some 34), (some (32, true)), .ixa 1 (.t 33) (.k (.int .i64 1))⟩,
  ⟨(some 35), (some (32, true)), .ld none (.t 34)⟩,
  ⟨(some 36), (some (32, true)), .bslice 1 2 [(.int .i64 0)] [(0, 1, (.k (.int .i64 1))), (1, 1, (.k (.int .i64 2)))]⟩,
  ⟨(some 37), (some (32, true)), .call nRef02Cmp [(.t 35), (.t 36)]⟩,
  ⟨(some 38), (some (32, true)), .bin .eql (.t 37) (.k (.int .i64 0))⟩,
  ⟨(some 39), none, .pick (.t 32) (.t 38) (.k (.bool false))⟩,
  ⟨(some 40), none, .mv (.t 39)⟩,
  ⟨(some 41), (some (40, true)), .mv (.t 3)⟩,
  ⟨(some 42), (some (40, true)), .ixa 1 (.t 41) (.k (.int .i64 2))⟩,
  ⟨(some 43), (some (40, true)), .ld none (.t 42)⟩,
  ⟨(some 44), (some (40, true)), .bslice 1 1 [(.int .i64 0)] [(0, 1, (.k (.int .i64 3)))]⟩,
  ⟨(some 45), (some (40, true)), .call nRef02Cmp [(.t 43), (.t 44)]⟩,
  ⟨(some 46), (some (40, true)), .bin .eql (.t 45) (.k (.int .i64 0))⟩,
  ⟨(some 47), none, .pick (.t 40) (.t 46) (.k (.bool false))⟩,
  ⟨(some 48), none, .mv (.t 47)⟩,
  ⟨(some 49), (some (48, true)), .mv (.t 6)⟩,
  ⟨(some 50), (some (48, true)), .bin .eql (.t 49) (.k (.int .i64 0))⟩,
  ⟨(some 51), none, .pick (.t 48) (.t 50) (.k (.bool false))⟩,
  ⟨(some 52), none, .mv (.t 51)⟩,
  ⟨(some 53), (some (52, true)), .mv (.t 5)⟩,
  ⟨(some 54), (some (52, true)), .bslice 1 2 [(.int .i64 0)] [(0, 1, (.k (.int .i64 1))), (1, 1, (.k (.int .i64 2)))]⟩,
  ⟨(some 55), (some (52, true)), .call nRef02Cmp [(.t 53), (.t 54)]⟩,
  ⟨(some 56), (some (52, true)), .bin .eql (.t 55) (.k (.int .i64 0))⟩,
  ⟨(some 57), none, .pick (.t 52) (.t 56) (.k (.bool false))⟩,
  ⟨(some 58), none, .mv (.t 57)⟩,
  ⟨(some 59), (some (58, true)), .ld (some 2) (.t 1)⟩,
  ⟨(some 60), (some (58, true)), .mv (.t 3)⟩,
  ⟨(some 61), (some (58, true)), .call nCliquesCheck [(.t 59), (.t 60)]⟩,
  ⟨(some 62), none, .pick (.t 58) (.t 61) (.k (.bool false))⟩,
  ⟨(some 0), none, .mv (.t 62)⟩]
def cLaw24Awake : C := (.seq (.reg rLaw24AwakeX0 false [] []) (.seq (.reg rLaw24AwakeX1 false [] [1]) (.seq (.reg rLaw24AwakeX2 false [] [1, 3, 4]) (.seq (.reg rLaw24AwakeX3 false [] [1, 3, 4, 5, 6]) (.seq (.reg rLaw24AwakeX4 false [] [0]) .ret)))))
def qLaw24Awake : AFn := ⟨63, 0, [.t 0], cLaw24Awake⟩
/- cohesion/cohesionmake.Few -/
def rMakeFewX0 : List O := [
  ⟨(some 2), none, .mv (.k (.bool false))⟩]
def rMakeFewX1 : List O := [
  ⟨(some 3), none, .mv (.t 0)⟩,
  ⟨(some 4), none, .len (.t 3)⟩,
  ⟨(some 5), none, .bin .leq (.t 4) (.k (.int .i64 500))⟩,
  ⟨(some 2), none, .mv (.t 5)⟩]
def cMakeFew : C := (.seq (.reg rMakeFewX0 false [] [0]) (.seq (.reg rMakeFewX1 false [] [2]) .ret))
def qMakeFew : AFn := ⟨6, 1, [.t 2], cMakeFew⟩
/- cohesion/cohesionmake.New -/
def rMakeNewX0 : List O := [
  ⟨(some 2), none, .mv (.k .nilp)⟩]
def rMakeNewX1 : List O := [
  ⟨(some 3), none, .mv (.t 0)⟩,
  ⟨(some 4), none, .build [(.own 1 []), (.int .i64 0)] [(0, 1, (.t 3))]⟩,
  ⟨(some 5), none, .box (.t 4)⟩,
  ⟨(some 2), none, .mv (.t 5)⟩]
def cMakeNew : C := (.seq (.reg rMakeNewX0 false [] [0]) (.seq (.reg rMakeNewX1 false [] [2]) .ret))
def qMakeNew : AFn := ⟨6, 1, [.t 2], cMakeNew⟩
/- cohesion/cohesionmake.Graph -/
def rMakeGraphX0 : List O := [
  ⟨(some 4), none, .new [(.int .i64 0), (.own 2 [])]⟩]
def rMakeGraphX1 : List O := [
  ⟨(some 9), none, .mv (.t 0)⟩,
  ⟨(some 10), none, .mv (.t 1)⟩,
  ⟨(some 11), none, .bin .add (.t 10) (.k (.int .i64 1))⟩,
  ⟨(some 12), none, .call nMakeDeckNext [(.t 9), (.t 11)]⟩,
  ⟨(some 13), none, .build [(.int .i64 0), (.own 2 [])] [(0, 1, (.t 12))]⟩,
  ⟨(some 5), none, .new [(.int .i64 0), (.own 2 [])]⟩,
  ⟨none, none, .st 2 (.t 5) (.t 13)⟩]
def rMakeGraphX2 : List O := [
  ⟨(some 14), none, .fad 0 (.t 5)⟩,
  ⟨(some 15), none, .ld none (.t 14)⟩,
  ⟨(some 16), none, .bin .lss (.t 15) (.k (.int .i64 4))⟩]
def rMakeGraphX3 : List O := [
  ⟨(some 17), none, .mv (.t 1)⟩,
  ⟨(some 18), none, .fad 0 (.t 5)⟩,
  ⟨(some 19), none, .ld none (.t 18)⟩,
  ⟨(some 20), none, .mv (.t 0)⟩,
  ⟨(some 21), none, .mv (.t 1)⟩,
  ⟨(some 22), none, .bin .add (.t 21) (.k (.int .i64 1))⟩,
  ⟨(some 23), none, .call nMakeDeckNext [(.t 20), (.t 22)]⟩,
  ⟨(some 24), none, .bin .add (.t 19) (.t 23)⟩,
  ⟨(some 25), none, .min [(.t 17), (.t 24)]⟩,
  ⟨(some 26), none, .fad 0 (.t 5)⟩,
  ⟨none, none, .st 1 (.t 26) (.t 25)⟩]
def rMakeGraphX4 : List O := [
  ⟨(some 27), none, .mv (.t 0)⟩,
  ⟨(some 28), none, .call nMakeDeckNext [(.t 27), (.k (.int .i64 4))]⟩,
  ⟨(some 29), none, .bin .add (.k (.int .i64 1)) (.t 28)⟩,
  ⟨(some 6), none, .mv (.t 29)⟩]
def rMakeGraphX5 : List O := [
  ⟨(some 7), none, .mv (.k (.int .i64 0))⟩]
def rMakeGraphX6 : List O := [
  ⟨(some 30), none, .mv (.t 7)⟩,
  ⟨(some 31), none, .fad 0 (.t 5)⟩,
  ⟨(some 32), none, .ld none (.t 31)⟩,
  ⟨(some 33), none, .bin .lss (.t 30) (.t 32)⟩]
def rMakeGraphX7 : List O := [
  ⟨(some 36), none, .mv (.t 7)⟩,
  ⟨(some 37), none, .bin .add (.t 36) (.k (.int .i64 1))⟩,
  ⟨(some 8), none, .mv (.t 37)⟩]
def rMakeGraphX8 : List O := [
  ⟨(some 38), none, .mv (.t 8)⟩,
  ⟨(some 39), none, .fad 0 (.t 5)⟩,
  ⟨(some 40), none, .ld none (.t 39)⟩,
  ⟨(some 41), none, .bin .lss (.t 38) (.t 40)⟩]
def rMakeGraphX9 : List O := [
  ⟨(some 44), none, .mv (.t 0)⟩,
  ⟨(some 45), none, .call nMakeDeckNext [(.t 44), (.k (.int .i64 5))]⟩,
  ⟨(some 46), none, .mv (.t 6)⟩,
  ⟨(some 47), none, .bin .sub (.k (.int .i64 5)) (.t 46)⟩,
  ⟨(some 48), none, .bin .geq (.t 45) (.t 47)⟩]
def rMakeGraphX10 : List O := [
  ⟨(some 49), none, .fad 1 (.t 5)⟩,
  ⟨(some 50), none, .ld none (.t 49)⟩,
  ⟨(some 51), none, .mv (.t 7)⟩,
  ⟨(some 52), none, .mv (.t 8)⟩,
  ⟨(some 53), none, .build [(.int .i64 0), (.int .i64 0)] [(0, 1, (.t 51)), (1, 1, (.t 52))]⟩,
  ⟨(some 54), none, .bslice 2 1 [(.int .i64 0), (.int .i64 0)] [(0, 2, (.t 53))]⟩,
  ⟨(some 55), none, .app 2 (.t 50) (.t 54)⟩,
  ⟨(some 56), none, .fad 1 (.t 5)⟩,
  ⟨none, none, .st 1 (.t 56) (.t 55)⟩]
def rMakeGraphX11 : List O := [
  ⟨(some 42), none, .mv (.t 8)⟩,
  ⟨(some 43), none, .bin .add (.t 42) (.k (.int .i64 1))⟩,
  ⟨(some 8), none, .mv (.t 43)⟩]
def lMakeGraphX0 : C := (.seq (.seq (.reg rMakeGraphX8 false [] [0, 4, 5, 6, 7, 8, 41]) (.cond (.t 41) .skip (.exit 2))) (.seq (.blk 3 (.seq (.reg rMakeGraphX9 false [] [0, 4, 5, 6, 7, 8, 48]) (.cond (.t 48) (.reg rMakeGraphX10 false [] [0, 4, 5, 6, 7, 8]) .skip))) (.reg rMakeGraphX11 false [] [0, 4, 5, 6, 7, 8])))
def rMakeGraphX12 : List O := [
  ⟨(some 34), none, .mv (.t 7)⟩,
  ⟨(some 35), none, .bin .add (.t 34) (.k (.int .i64 1))⟩,
  ⟨(some 7), none, .mv (.t 35)⟩]
def lMakeGraphX1 : C := (.seq (.seq (.reg rMakeGraphX6 false [] [0, 4, 5, 6, 7, 33]) (.cond (.t 33) .skip (.exit 0))) (.seq (.blk 1 (.seq (.reg rMakeGraphX7 false [] [0, 4, 5, 6, 7, 8]) (.blk 2 (.loop lMakeGraphX0)))) (.reg rMakeGraphX12 false [] [0, 4, 5, 6, 7])))
def rMakeGraphX13 : List O := [
  ⟨(some 57), none, .ld (some 2) (.t 5)⟩,
  ⟨none, none, .st 2 (.t 4) (.t 57)⟩]
def cMakeGraph : C := (.seq (.reg rMakeGraphX0 false [] [0, 1, 4]) (.seq (.reg rMakeGraphX1 false [] [0, 1, 4, 5]) (.seq (.seq (.reg rMakeGraphX2 false [] [0, 1, 4, 5, 16]) (.cond (.t 16) (.reg rMakeGraphX3 true [(8, 8), (9, 9), (10, 10), (0, 2), (2, 3), (2, 4), (2, 5), (0, 6), (1, 6), (2, 6)] [0, 4, 5]) .skip)) (.seq (.reg rMakeGraphX4 false [] [0, 4, 5, 6]) (.seq (.seq (.reg rMakeGraphX5 false [] [0, 4, 5, 6, 7]) (.blk 0 (.loop lMakeGraphX1))) (.seq (.reg rMakeGraphX13 false [] [4]) .ret))))))
def qMakeGraph : AFn := ⟨58, 2, [.c 4 (some 2)], cMakeGraph⟩
/- cohesion/cohesionref02.Cmp -/
def rRef02CmpX0 : List O := [
  ⟨(some 4), none, .mv (.k (.int .i64 0))⟩]
def rRef02CmpX1 : List O := [
  ⟨(some 6), none, .mv (.t 0)⟩,
  ⟨(some 7), none, .len (.t 6)⟩,
  ⟨(some 8), none, .mv (.k (.int .i64 0))⟩]
def rRef02CmpX2 : List O := [
  ⟨(some 9), none, .bin .lss (.t 8) (.t 7)⟩]
def rRef02CmpX3 : List O := [
  ⟨(some 10), none, .mv (.t 8)⟩,
  ⟨(some 5), none, .mv (.t 10)⟩]
def rRef02CmpX4 : List O := [
  ⟨(some 12), none, .mv (.t 5)⟩,
  ⟨(some 13), none, .mv (.t 1)⟩,
  ⟨(some 14), none, .len (.t 13)⟩,
  ⟨(some 15), none, .bin .geq (.t 12) (.t 14)⟩,
  ⟨(some 16), none, .mv (.t 15)⟩,
  ⟨(some 17), (some (16, false)), .mv (.t 0)⟩,
  ⟨(some 18), (some (16, false)), .mv (.t 5)⟩,
  ⟨(some 19), (some (16, false)), .ixa 1 (.t 17) (.t 18)⟩,
  ⟨(some 20), (some (16, false)), .ld none (.t 19)⟩,
  ⟨(some 21), (some (16, false)), .mv (.t 1)⟩,
  ⟨(some 22), (some (16, false)), .mv (.t 5)⟩,
  ⟨(some 23), (some (16, false)), .ixa 1 (.t 21) (.t 22)⟩,
  ⟨(some 24), (some (16, false)), .ld none (.t 23)⟩,
  ⟨(some 25), (some (16, false)), .bin .gtr (.t 20) (.t 24)⟩,
  ⟨(some 26), none, .pick (.t 16) (.k (.bool true)) (.t 25)⟩,
  ⟨(some 11), none, .mv (.t 26)⟩]
def rRef02CmpX5 : List O := [
  ⟨(some 4), none, .mv (.k (.int .i64 1))⟩]
def rRef02CmpX6 : List O := [
  ⟨(some 28), none, .mv (.t 0)⟩,
  ⟨(some 29), none, .mv (.t 5)⟩,
  ⟨(some 30), none, .ixa 1 (.t 28) (.t 29)⟩,
  ⟨(some 31), none, .ld none (.t 30)⟩,
  ⟨(some 32), none, .mv (.t 1)⟩,
  ⟨(some 33), none, .mv (.t 5)⟩,
  ⟨(some 34), none, .ixa 1 (.t 32) (.t 33)⟩,
  ⟨(some 35), none, .ld none (.t 34)⟩,
  ⟨(some 36), none, .bin .lss (.t 31) (.t 35)⟩,
  ⟨(some 27), none, .mv (.t 36)⟩]
def rRef02CmpX7 : List O := [
  ⟨(some 4), none, .mv (.k (.int .i64 (-1)))⟩]
def rRef02CmpX8 : List O := [
  ⟨(some 37), none, .bin .add (.t 8) (.k (.int .i64 1))⟩,
  ⟨(some 8), none, .mv (.t 37)⟩]
def lRef02CmpX0 : C := (.seq (.reg rRef02CmpX2 false [] [0, 1, 7, 8, 9]) (.seq (.cond (.t 9) .skip (.exit 0)) (.seq (.blk 1 (.seq (.reg rRef02CmpX3 false [] [0, 1, 5, 7, 8]) (.blk 2 (.seq (.reg rRef02CmpX4 true [(3, 3), (4, 4), (13, 13), (14, 14), (15, 15), (8, 9), (8, 10), (8, 11), (5, 12), (6, 12), (7, 12), (8, 12)] [0, 1, 5, 7, 8, 11]) (.cond (.t 11) (.seq (.reg rRef02CmpX5 false [] [4]) .ret) (.seq (.reg rRef02CmpX6 true [(8, 8), (9, 9), (3, 4), (3, 5), (3, 6), (0, 7), (1, 7), (2, 7), (3, 7)] [0, 1, 7, 8, 27]) (.cond (.t 27) (.seq (.reg rRef02CmpX7 false [] [4]) .ret) .skip))))))) (.reg rRef02CmpX8 false [] [0, 1, 7, 8]))))
def rRef02CmpX9 : List O := [
  ⟨(some 38), none, .mv (.t 0)⟩,
  ⟨(some 39), none, .len (.t 38)⟩,
  ⟨(some 40), none, .mv (.t 1)⟩,
  ⟨(some 41), none, .len (.t 40)⟩,
  ⟨(some 42), none, .bin .lss (.t 39) (.t 41)⟩]
def rRef02CmpX10 : List O := [
  ⟨(some 4), none, .mv (.k (.int .i64 (-1)))⟩]
def rRef02CmpX11 : List O := [
  ⟨(some 4), none, .mv (.k (.int .i64 0))⟩]
def cRef02Cmp : C := (.seq (.reg rRef02CmpX0 false [] [0, 1]) (.seq (.seq (.reg rRef02CmpX1 false [] [0, 1, 7, 8]) (.blk 0 (.loop lRef02CmpX0))) (.seq (.seq (.reg rRef02CmpX9 false [] [42]) (.cond (.t 42) (.seq (.reg rRef02CmpX10 false [] [4]) .ret) .skip)) (.seq (.reg rRef02CmpX11 false [] [4]) .ret))))
def qRef02Cmp : AFn := ⟨43, 2, [.t 4], cRef02Cmp⟩
/- cohesion/cliques.Next -/
def rCliquesNextX0 : List O := [
  ⟨(some 2), none, .box (.t 0)⟩,
  ⟨(some 4), none, .mv (.k .nils)⟩,
  ⟨(some 5), none, .mv (.k (.bool false))⟩,
  ⟨(some 6), none, .mv (.k (.int .i64 0))⟩]
def rCliquesNextX1 : List O := [
  ⟨(some 9), none, .ld (some 2) (.t 2)⟩,
  ⟨(some 10), none, .call nGraphCheck [(.t 9)]⟩,
  ⟨(some 7), none, .mv (.t 10)⟩]
def rCliquesNextX2 : List O := [
  ⟨(some 11), none, .mv (.t 7)⟩,
  ⟨(some 12), none, .bin .neq (.t 11) (.k (.int .i64 0))⟩]
def rCliquesNextX3 : List O := [
  ⟨(some 13), none, .mv (.t 7)⟩,
  ⟨(some 4), none, .mv (.k .nils)⟩,
  ⟨(some 5), none, .mv (.k (.bool false))⟩,
  ⟨(some 6), none, .mv (.t 13)⟩]
def rCliquesNextX4 : List O := [
  ⟨(some 8), none, .new [.nils]⟩]
def rCliquesNextX5 : List O := [
  ⟨(some 14), none, .ld (some 2) (.t 2)⟩,
  ⟨(some 15), none, .mv (.t 1)⟩,
  ⟨(some 16), none, .mkf (.func nCliquesNext1) [] [(.t 8)]⟩,
  ⟨(some 17), none, .call nCliquesEach [(.t 14), (.t 15), (.t 16)]⟩]
def rCliquesNextX6 : List O := [
  ⟨(some 18), none, .ld none (.t 8)⟩,
  ⟨(some 19), none, .ld none (.t 8)⟩,
  ⟨(some 20), none, .eq true .nsl (.t 19) (.k (.own 1 []))⟩,
  ⟨(some 4), none, .mv (.t 18)⟩,
  ⟨(some 5), none, .mv (.t 20)⟩,
  ⟨(some 6), none, .mv (.k (.int .i64 0))⟩]
def cCliquesNext : C := (.seq (.reg rCliquesNextX0 false [] [1, 2]) (.seq (.seq (.reg rCliquesNextX1 false [] [1, 2, 7]) (.seq (.reg rCliquesNextX2 false [] [1, 2, 7, 12]) (.cond (.t 12) (.seq (.reg rCliquesNextX3 false [] [4, 5, 6]) .ret) .skip))) (.seq (.reg rCliquesNextX4 false [] [1, 2, 8]) (.seq (.reg rCliquesNextX5 false [] [8]) (.seq (.reg rCliquesNextX6 true [(4, 4), (5, 5), (0, 1), (0, 2), (1, 3)] [4, 5, 6]) .ret)))))
def qCliquesNext : AFn := ⟨21, 2, [.t 4, .t 5, .t 6], cCliquesNext⟩
/- cohesion/cliques.Check -/
def rCliquesCheckX0 : List O := [
  ⟨(some 2), none, .box (.t 0)⟩,
  ⟨(some 3), none, .box (.t 1)⟩,
  ⟨(some 4), none, .mv (.k (.bool false))⟩]
def rCliquesCheckX1 : List O := [
  ⟨(some 7), none, .ld (some 2) (.t 2)⟩,
  ⟨(some 8), none, .call nGraphCheck [(.t 7)]⟩,
  ⟨(some 9), none, .bin .neq (.t 8) (.k (.int .i64 0))⟩]
def rCliquesCheckX2 : List O := [
  ⟨(some 4), none, .mv (.k (.bool false))⟩]
def rCliquesCheckX3 : List O := [
  ⟨(some 5), none, .new [(.int .i64 0)]⟩,
  ⟨(some 6), none, .new [(.bool false)]⟩,
  ⟨none, none, .st 1 (.t 5) (.k (.int .i64 0))⟩,
  ⟨none, none, .st 1 (.t 6) (.k (.bool true))⟩]
def rCliquesCheckX4 : List O := [
  ⟨(some 10), none, .ld (some 2) (.t 2)⟩,
  ⟨(some 11), none, .mkf (.func nCliquesCheck1) [] [(.t 5), (.t 3), (.t 6)]⟩,
  ⟨(some 12), none, .call nCliquesEach [(.t 10), (.k (.own 1 [])), (.t 11)]⟩]
def rCliquesCheckX5 : List O := [
  ⟨(some 13), none, .ld none (.t 6)⟩,
  ⟨(some 14), none, .mv (.t 13)⟩,
  ⟨(some 15), (some (14, true)), .ld none (.t 5)⟩,
  ⟨(some 16), (some (14, true)), .ld none (.t 3)⟩,
  ⟨(some 17), (some (14, true)), .len (.t 16)⟩,
  ⟨(some 18), (some (14, true)), .bin .eql (.t 15) (.t 17)⟩,
  ⟨(some 19), none, .pick (.t 14) (.t 18) (.k (.bool false))⟩,
  ⟨(some 4), none, .mv (.t 19)⟩]
def cCliquesCheck : C := (.seq (.reg rCliquesCheckX0 false [] [2, 3]) (.seq (.seq (.reg rCliquesCheckX1 false [] [2, 3, 9]) (.cond (.t 9) (.seq (.reg rCliquesCheckX2 false [] [4]) .ret) .skip)) (.seq (.reg rCliquesCheckX3 false [] [2, 3, 5, 6]) (.seq (.reg rCliquesCheckX4 false [] [3, 5, 6]) (.seq (.reg rCliquesCheckX5 false [] [4]) .ret)))))
def qCliquesCheck : AFn := ⟨20, 2, [.t 4], cCliquesCheck⟩
/- (*cohesion/cohesionmake.Deck).Next -/
def rMakeDeckNextX0 : List O := [
  ⟨(some 4), none, .mv (.k (.int .i64 0))⟩]
def rMakeDeckNextX1 : List O := [
  ⟨(some 6), none, .mv (.t 1)⟩,
  ⟨(some 7), none, .bin .lss (.t 6) (.k (.int .i64 1))⟩,
  ⟨(some 8), none, .mv (.t 7)⟩,
  ⟨(some 9), (some (8, false)), .mv (.t 0)⟩,
  ⟨(some 10), (some (8, false)), .nilck (.t 9)⟩,
  ⟨(some 11), (some (8, false)), .fad 1 (.t 10)⟩,
  ⟨(some 12), (some (8, false)), .ld none (.t 11)⟩,
  ⟨(some 13), (some (8, false)), .mv (.t 0)⟩,
  ⟨(some 14), (some (8, false)), .nilck (.t 13)⟩,
  ⟨(some 15), (some (8, false)), .fad 0 (.t 14)⟩,
  ⟨(some 16), (some (8, false)), .ld none (.t 15)⟩,
  ⟨(some 17), (some (8, false)), .len (.t 16)⟩,
  ⟨(some 18), (some (8, false)), .bin .geq (.t 12) (.t 17)⟩,
  ⟨(some 19), none, .pick (.t 8) (.k (.bool true)) (.t 18)⟩]
def rMakeDeckNextX2 : List O := [
  ⟨(some 4), none, .mv (.k (.int .i64 0))⟩]
def rMakeDeckNextX3 : List O := [
  ⟨(some 20), none, .mv (.t 0)⟩,
  ⟨(some 21), none, .nilck (.t 20)⟩,
  ⟨(some 22), none, .fad 0 (.t 21)⟩,
  ⟨(some 23), none, .ld none (.t 22)⟩,
  ⟨(some 24), none, .mv (.t 0)⟩,
  ⟨(some 25), none, .nilck (.t 24)⟩,
  ⟨(some 26), none, .fad 1 (.t 25)⟩,
  ⟨(some 27), none, .ld none (.t 26)⟩,
  ⟨(some 28), none, .ixa 1 (.t 23) (.t 27)⟩,
  ⟨(some 29), none, .ld none (.t 28)⟩,
  ⟨(some 5), none, .mv (.t 29)⟩]
def rMakeDeckNextX4 : List O := [
  ⟨(some 30), none, .mv (.t 0)⟩,
  ⟨(some 31), none, .nilck (.t 30)⟩,
  ⟨(some 32), none, .fad 1 (.t 31)⟩,
  ⟨(some 33), none, .ld none (.t 32)⟩,
  ⟨(some 34), none, .bin .add (.t 33) (.k (.int .i64 1))⟩,
  ⟨(some 35), none, .nilck (.t 30)⟩,
  ⟨(some 36), none, .fad 1 (.t 35)⟩,
  ⟨none, none, .st 1 (.t 36) (.t 34)⟩]
def rMakeDeckNextX5 : List O := [
  ⟨(some 37), none, .mv (.t 5)⟩,
  ⟨(some 38), none, .mv (.t 1)⟩,
  ⟨(some 39), none, .call nMakeMod [(.t 37), (.t 38)]⟩,
  ⟨(some 4), none, .mv (.t 39)⟩]
def cMakeDeckNext : C := (.seq (.reg rMakeDeckNextX0 false [] [0, 1]) (.seq (.seq (.reg rMakeDeckNextX1 true [(0, 0), (1, 1), (2, 2), (12, 12), (13, 13), (6, 7), (6, 8), (6, 9), (3, 10), (4, 10), (5, 10), (6, 10), (6, 11)] [0, 1, 19]) (.cond (.t 19) (.seq (.reg rMakeDeckNextX2 false [] [4]) .ret) .skip)) (.seq (.reg rMakeDeckNextX3 true [(8, 8), (9, 9), (10, 10), (3, 4), (3, 5), (3, 6), (0, 7), (1, 7), (2, 7), (3, 7)] [0, 1, 5]) (.seq (.reg rMakeDeckNextX4 false [] [1, 5]) (.seq (.reg rMakeDeckNextX5 false [] [4]) .ret)))))
def qMakeDeckNext : AFn := ⟨40, 2, [.t 4], cMakeDeckNext⟩
/- cohesion/cliques.Extend -/
def rCliquesExtendX0 : List O := [
  ⟨(some 2), none, .box (.t 0)⟩,
  ⟨(some 4), none, .mv (.k (.own 1 []))⟩,
  ⟨(some 5), none, .mv (.k (.int .i64 0))⟩]
def rCliquesExtendX1 : List O := [
  ⟨(some 11), none, .ld (some 2) (.t 2)⟩,
  ⟨(some 12), none, .call nGraphCheck [(.t 11)]⟩,
  ⟨(some 6), none, .mv (.t 12)⟩]
def rCliquesExtendX2 : List O := [
  ⟨(some 13), none, .mv (.t 6)⟩,
  ⟨(some 14), none, .bin .neq (.t 13) (.k (.int .i64 0))⟩]
def rCliquesExtendX3 : List O := [
  ⟨(some 15), none, .mv (.t 6)⟩,
  ⟨(some 4), none, .mv (.k (.own 1 []))⟩,
  ⟨(some 5), none, .mv (.t 15)⟩]
def rCliquesExtendX4 : List O := [
  ⟨(some 16), none, .ld (some 2) (.t 2)⟩,
  ⟨(some 17), none, .mv (.t 1)⟩,
  ⟨(some 18), none, .call nCliquesIs [(.t 16), (.t 17)]⟩,
  ⟨(some 19), none, .un .not (.t 18)⟩]
def rCliquesExtendX5 : List O := [
  ⟨(some 4), none, .mv (.k (.own 1 []))⟩,
  ⟨(some 5), none, .mv (.k (.int .i64 4))⟩]
def rCliquesExtendX6 : List O := [
  ⟨(some 20), none, .fad 0 (.t 2)⟩,
  ⟨(some 21), none, .ld none (.t 20)⟩,
  ⟨(some 22), none, .bin .eql (.t 21) (.k (.int .i64 0))⟩]
def rCliquesExtendX7 : List O := [
  ⟨(some 4), none, .mv (.k (.own 1 []))⟩,
  ⟨(some 5), none, .mv (.k (.int .i64 13))⟩]
def rCliquesExtendX8 : List O := [
  ⟨(some 23), none, .ld (some 2) (.t 2)⟩,
  ⟨(some 24), none, .call nCliquesMasks [(.t 23)]⟩,
  ⟨(some 25), none, .mv (.t 1)⟩,
  ⟨(some 26), none, .call nSlicesCloneIntInt [(.t 25)]⟩,
  ⟨(some 7), none, .mv (.t 24)⟩,
  ⟨(some 8), none, .mv (.t 26)⟩]
def rCliquesExtendX9 : List O := [
  ⟨(some 27), none, .mv (.t 7)⟩,
  ⟨(some 28), none, .mv (.t 8)⟩,
  ⟨(some 29), none, .call nCliquesCommon [(.t 27), (.t 28)]⟩,
  ⟨(some 9), none, .mv (.t 29)⟩]
def rCliquesExtendX10 : List O := [
  ⟨(some 30), none, .mv (.t 9)⟩,
  ⟨(some 31), none, .bin .neq (.t 30) (.k (.int .u64 0))⟩]
def rCliquesExtendX11 : List O := [
  ⟨(some 32), none, .mv (.t 9)⟩,
  ⟨(some 33), none, .call nMathBitsTrailingZeros64 [(.t 32)]⟩,
  ⟨(some 10), none, .mv (.t 33)⟩]
def rCliquesExtendX12 : List O := [
  ⟨(some 34), none, .mv (.t 8)⟩,
  ⟨(some 35), none, .mv (.t 10)⟩,
  ⟨(some 36), none, .bslice 1 1 [(.int .i64 0)] [(0, 1, (.t 35))]⟩,
  ⟨(some 37), none, .app 1 (.t 34) (.t 36)⟩,
  ⟨(some 8), none, .mv (.t 37)⟩]
def rCliquesExtendX13 : List O := [
  ⟨(some 38), none, .mv (.t 9)⟩,
  ⟨(some 39), none, .mv (.t 7)⟩,
  ⟨(some 40), none, .mv (.t 10)⟩,
  ⟨(some 41), none, .ixa 1 (.t 39) (.t 40)⟩,
  ⟨(some 42), none, .ld none (.t 41)⟩,
  ⟨(some 43), none, .bin .and (.t 38) (.t 42)⟩,
  ⟨(some 9), none, .mv (.t 43)⟩]
def lCliquesExtendX0 : C := (.seq (.seq (.reg rCliquesExtendX10 false [] [7, 8, 9, 31]) (.cond (.t 31) .skip (.exit 0))) (.blk 1 (.seq (.reg rCliquesExtendX11 false [] [7, 8, 9, 10]) (.seq (.reg rCliquesExtendX12 false [] [7, 8, 9, 10]) (.reg rCliquesExtendX13 false [] [7, 8, 9])))))
def rCliquesExtendX14 : List O := [
  ⟨(some 44), none, .mv (.t 8)⟩,
  ⟨(some 45), none, .call nSlicesSortIntInt [(.t 44)]⟩]
def rCliquesExtendX15 : List O := [
  ⟨(some 46), none, .mv (.t 8)⟩,
  ⟨(some 4), none, .mv (.t 46)⟩,
  ⟨(some 5), none, .mv (.k (.int .i64 0))⟩]
def cCliquesExtend : C := (.seq (.reg rCliquesExtendX0 false [] [1, 2]) (.seq (.seq (.reg rCliquesExtendX1 false [] [1, 2, 6]) (.seq (.reg rCliquesExtendX2 false [] [1, 2, 6, 14]) (.cond (.t 14) (.seq (.reg rCliquesExtendX3 false [] [4, 5]) .ret) .skip))) (.seq (.seq (.reg rCliquesExtendX4 false [] [1, 2, 19]) (.cond (.t 19) (.seq (.reg rCliquesExtendX5 false [] [4, 5]) .ret) .skip)) (.seq (.seq (.reg rCliquesExtendX6 false [] [1, 2, 22]) (.cond (.t 22) (.seq (.reg rCliquesExtendX7 false [] [4, 5]) .ret) .skip)) (.seq (.reg rCliquesExtendX8 false [] [7, 8]) (.seq (.seq (.reg rCliquesExtendX9 false [] [7, 8, 9]) (.blk 0 (.loop lCliquesExtendX0))) (.seq (.reg rCliquesExtendX14 false [] [8]) (.seq (.reg rCliquesExtendX15 false [] [4, 5]) .ret))))))))
def qCliquesExtend : AFn := ⟨47, 2, [.t 4, .t 5], cCliquesExtend⟩
/- cohesion/cliques.Is -/
def rCliquesIsX0 : List O := [
  ⟨(some 2), none, .box (.t 0)⟩,
  ⟨(some 4), none, .mv (.k (.bool false))⟩]
def rCliquesIsX1 : List O := [
  ⟨(some 5), none, .ld (some 2) (.t 2)⟩,
  ⟨(some 6), none, .call nGraphCheck [(.t 5)]⟩,
  ⟨(some 7), none, .bin .eql (.t 6) (.k (.int .i64 0))⟩,
  ⟨(some 8), none, .mv (.t 7)⟩,
  ⟨(some 9), (some (8, true)), .mv (.t 1)⟩,
  ⟨(some 10), (some (8, true)), .fad 0 (.t 2)⟩,
  ⟨(some 11), (some (8, true)), .ld none (.t 10)⟩,
  ⟨(some 12), (some (8, true)), .call nNodesetValid [(.t 9), (.t 11)]⟩,
  ⟨(some 13), none, .pick (.t 8) (.t 12) (.k (.bool false))⟩,
  ⟨(some 14), none, .mv (.t 13)⟩,
  ⟨(some 15), (some (14, true)), .ld (some 2) (.t 2)⟩,
  ⟨(some 16), (some (14, true)), .call nCliquesMasks [(.t 15)]⟩,
  ⟨(some 17), (some (14, true)), .mv (.t 1)⟩,
  ⟨(some 18), (some (14, true)), .call nCliquesClique [(.t 16), (.t 17)]⟩,
  ⟨(some 19), none, .pick (.t 14) (.t 18) (.k (.bool false))⟩,
  ⟨(some 4), none, .mv (.t 19)⟩]
def cCliquesIs : C := (.seq (.reg rCliquesIsX0 false [] [1, 2]) (.seq (.reg rCliquesIsX1 false [] [4]) .ret))
def qCliquesIs : AFn := ⟨20, 2, [.t 4], cCliquesIs⟩
/- cohesion/graph.Check -/
def rGraphCheckX0 : List O := [
  ⟨(some 1), none, .box (.t 0)⟩,
  ⟨(some 2), none, .mv (.k (.int .i64 0))⟩]
def rGraphCheckX1 : List O := [
  ⟨(some 5), none, .fad 0 (.t 1)⟩,
  ⟨(some 6), none, .ld none (.t 5)⟩,
  ⟨(some 7), none, .bin .lss (.t 6) (.k (.int .i64 0))⟩,
  ⟨(some 8), none, .mv (.t 7)⟩,
  ⟨(some 9), (some (8, false)), .fad 0 (.t 1)⟩,
  ⟨(some 10), (some (8, false)), .ld none (.t 9)⟩,
  ⟨(some 11), (some (8, false)), .bin .gtr (.t 10) (.k (.int .i64 64))⟩,
  ⟨(some 12), none, .pick (.t 8) (.k (.bool true)) (.t 11)⟩]
def rGraphCheckX2 : List O := [
  ⟨(some 2), none, .mv (.k (.int .i64 1))⟩]
def rGraphCheckX3 : List O := [
  ⟨(some 13), none, .fad 1 (.t 1)⟩,
  ⟨(some 14), none, .ld none (.t 13)⟩,
  ⟨(some 15), none, .len (.t 14)⟩,
  ⟨(some 16), none, .mv (.k (.int .i64 0))⟩]
def rGraphCheckX4 : List O := [
  ⟨(some 17), none, .bin .lss (.t 16) (.t 15)⟩]
def rGraphCheckX5 : List O := [
  ⟨(some 18), none, .mv (.t 16)⟩,
  ⟨(some 19), none, .ixa 2 (.t 14) (.t 16)⟩,
  ⟨(some 20), none, .ld (some 2) (.t 19)⟩,
  ⟨(some 4), none, .new [(.int .i64 0), (.int .i64 0)]⟩,
  ⟨(some 3), none, .mv (.t 18)⟩,
  ⟨none, none, .st 2 (.t 4) (.t 20)⟩]
def rGraphCheckX6 : List O := [
  ⟨(some 22), none, .fad 0 (.t 4)⟩,
  ⟨(some 23), none, .ld none (.t 22)⟩,
  ⟨(some 24), none, .bin .lss (.t 23) (.k (.int .i64 0))⟩,
  ⟨(some 25), none, .mv (.t 24)⟩,
  ⟨(some 26), (some (25, false)), .fad 0 (.t 4)⟩,
  ⟨(some 27), (some (25, false)), .ld none (.t 26)⟩,
  ⟨(some 28), (some (25, false)), .fad 1 (.t 4)⟩,
  ⟨(some 29), (some (25, false)), .ld none (.t 28)⟩,
  ⟨(some 30), (some (25, false)), .bin .geq (.t 27) (.t 29)⟩,
  ⟨(some 31), none, .pick (.t 25) (.k (.bool true)) (.t 30)⟩,
  ⟨(some 32), none, .mv (.t 31)⟩,
  ⟨(some 33), (some (32, false)), .fad 1 (.t 4)⟩,
  ⟨(some 34), (some (32, false)), .ld none (.t 33)⟩,
  ⟨(some 35), (some (32, false)), .fad 0 (.t 1)⟩,
  ⟨(some 36), (some (32, false)), .ld none (.t 35)⟩,
  ⟨(some 37), (some (32, false)), .bin .geq (.t 34) (.t 36)⟩,
  ⟨(some 38), none, .pick (.t 32) (.k (.bool true)) (.t 37)⟩,
  ⟨(some 21), none, .mv (.t 38)⟩]
def rGraphCheckX7 : List O := [
  ⟨(some 2), none, .mv (.k (.int .i64 6))⟩]
def rGraphCheckX8 : List O := [
  ⟨(some 40), none, .mv (.t 3)⟩,
  ⟨(some 41), none, .bin .gtr (.t 40) (.k (.int .i64 0))⟩,
  ⟨(some 42), none, .mv (.t 41)⟩,
  ⟨(some 43), (some (42, true)), .fad 1 (.t 1)⟩,
  ⟨(some 44), (some (42, true)), .ld none (.t 43)⟩,
  ⟨(some 45), (some (42, true)), .mv (.t 3)⟩,
  ⟨(some 46), (some (42, true)), .bin .sub (.t 45) (.k (.int .i64 1))⟩,
  ⟨(some 47), (some (42, true)), .ixa 2 (.t 44) (.t 46)⟩,
  ⟨(some 48), (some (42, true)), .ld (some 2) (.t 47)⟩,
  ⟨(some 49), (some (42, true)), .ld (some 2) (.t 4)⟩,
  ⟨(some 50), (some (42, true)), .call nGraphOrder [(.t 48), (.t 49)]⟩,
  ⟨(some 51), (some (42, true)), .bin .geq (.t 50) (.k (.int .i64 0))⟩,
  ⟨(some 52), none, .pick (.t 42) (.t 51) (.k (.bool false))⟩,
  ⟨(some 39), none, .mv (.t 52)⟩]
def rGraphCheckX9 : List O := [
  ⟨(some 2), none, .mv (.k (.int .i64 5))⟩]
def rGraphCheckX10 : List O := [
  ⟨(some 53), none, .bin .add (.t 16) (.k (.int .i64 1))⟩,
  ⟨(some 16), none, .mv (.t 53)⟩]
def lGraphCheckX0 : C := (.seq (.reg rGraphCheckX4 false [] [1, 14, 15, 16, 17]) (.seq (.cond (.t 17) .skip (.exit 0)) (.seq (.blk 1 (.seq (.reg rGraphCheckX5 false [] [1, 3, 4, 14, 15, 16]) (.blk 2 (.seq (.reg rGraphCheckX6 false [] [1, 3, 4, 14, 15, 16, 21]) (.cond (.t 21) (.seq (.reg rGraphCheckX7 false [] [2]) .ret) (.seq (.reg rGraphCheckX8 true [(0, 0), (1, 1), (2, 2), (10, 10), (11, 11), (12, 12), (13, 13), (4, 5), (4, 6), (3, 9), (4, 9), (5, 9), (6, 9), (7, 9), (8, 9)] [1, 14, 15, 16, 39]) (.cond (.t 39) (.seq (.reg rGraphCheckX9 false [] [2]) .ret) .skip))))))) (.reg rGraphCheckX10 false [] [1, 14, 15, 16]))))
def rGraphCheckX11 : List O := [
  ⟨(some 2), none, .mv (.k (.int .i64 0))⟩]
def cGraphCheck : C := (.seq (.reg rGraphCheckX0 false [] [1]) (.seq (.seq (.reg rGraphCheckX1 false [] [1, 12]) (.cond (.t 12) (.seq (.reg rGraphCheckX2 false [] [2]) .ret) .skip)) (.seq (.seq (.reg rGraphCheckX3 false [] [1, 14, 15, 16]) (.blk 0 (.loop lGraphCheckX0))) (.seq (.reg rGraphCheckX11 false [] [2]) .ret))))
def qGraphCheck : AFn := ⟨54, 1, [.t 2], cGraphCheck⟩
/- cohesion/cliques.each -/
def rCliquesEachX0 : List O := [
  ⟨(some 3), none, .box (.t 0)⟩,
  ⟨(some 4), none, .box (.t 1)⟩,
  ⟨(some 5), none, .box (.t 2)⟩]
def rCliquesEachX1 : List O := [
  ⟨(some 9), none, .ld (some 2) (.t 3)⟩,
  ⟨(some 10), none, .call nCliquesMasks [(.t 9)]⟩,
  ⟨(some 6), none, .new [(.own 1 [])]⟩,
  ⟨none, none, .st 1 (.t 6) (.t 10)⟩]
def rCliquesEachX2 : List O := [
  ⟨(some 7), none, .new [(.own 1 [])]⟩]
def rCliquesEachX3 : List O := [
  ⟨(some 8), none, .new [.nilf]⟩]
def rCliquesEachX4 : List O := [
  ⟨(some 11), none, .mkf (.func nCliquesEach1) [] [(.t 7), (.t 4), (.t 5), (.t 6), (.t 8)]⟩,
  ⟨none, none, .st 1 (.t 8) (.t 11)⟩]
def rCliquesEachX5 : List O := [
  ⟨(some 12), none, .ld none (.t 8)⟩,
  ⟨(some 13), none, .fad 0 (.t 3)⟩,
  ⟨(some 14), none, .ld none (.t 13)⟩,
  ⟨(some 15), none, .call nCliquesAllN77 [(.t 14)]⟩,
  ⟨(some 16), none, .callv (.t 12) [(.t 15), (.k (.int .u64 0)), (.k (.bool true))]⟩]
def cCliquesEach : C := (.seq (.reg rCliquesEachX0 false [] [3, 4, 5]) (.seq (.reg rCliquesEachX1 false [] [3, 4, 5, 6]) (.seq (.reg rCliquesEachX2 false [] [3, 4, 5, 6, 7]) (.seq (.reg rCliquesEachX3 false [] [3, 4, 5, 6, 7, 8]) (.seq (.reg rCliquesEachX4 false [] [3, 8]) (.reg rCliquesEachX5 true [(4, 4), (0, 1), (0, 2), (0, 3)] []))))))
def qCliquesEach : AFn := ⟨17, 3, [], cCliquesEach⟩
/- cohesion/cliques.All$1 -/
def rCliquesAll1X0 : List O := [
  ⟨(some 4), none, .mv (.k (.bool false))⟩]
def rCliquesAll1X1 : List O := [
  ⟨(some 5), none, .ld none (.t 1)⟩,
  ⟨(some 6), none, .mv (.t 0)⟩,
  ⟨(some 7), none, .bslice 1 1 [(.own 1 [])] [(0, 1, (.t 6))]⟩,
  ⟨(some 8), none, .app 1 (.t 5) (.t 7)⟩,
  ⟨none, none, .st 1 (.t 1) (.t 8)⟩]
def rCliquesAll1X2 : List O := [
  ⟨(some 9), none, .ld none (.t 1)⟩,
  ⟨(some 10), none, .len (.t 9)⟩,
  ⟨(some 11), none, .ld none (.t 2)⟩,
  ⟨(some 12), none, .bin .leq (.t 10) (.t 11)⟩,
  ⟨(some 4), none, .mv (.t 12)⟩]
def cCliquesAll1 : C := (.seq (.reg rCliquesAll1X0 false [] [0, 1, 2]) (.seq (.reg rCliquesAll1X1 false [] [1, 2]) (.seq (.reg rCliquesAll1X2 false [] [4]) .ret)))
def qCliquesAll1 : AFn := ⟨13, 1, [.t 4], cCliquesAll1⟩
/- cohesion/cohesionref03.Of -/
def rRef03OfX0 : List O := [
  ⟨(some 4), none, .new [(.int .i64 0), (.own 2 [])]⟩,
  ⟨(some 5), none, .mv (.k (.int .i64 0))⟩]
def rRef03OfX1 : List O := [
  ⟨(some 9), none, .mv (.t 0)⟩,
  ⟨(some 10), none, .bin .lss (.t 9) (.k (.int .i64 0))⟩,
  ⟨(some 11), none, .mv (.t 10)⟩,
  ⟨(some 12), (some (11, false)), .mv (.t 0)⟩,
  ⟨(some 13), (some (11, false)), .bin .gtr (.t 12) (.k (.int .i64 64))⟩,
  ⟨(some 14), none, .pick (.t 11) (.k (.bool true)) (.t 13)⟩]
def rRef03OfX2 : List O := [
  ⟨(some 15), none, .build [(.int .i64 0), (.own 2 [])] []⟩,
  ⟨none, none, .st 2 (.t 4) (.t 15)⟩,
  ⟨(some 5), none, .mv (.k (.int .i64 1))⟩]
def rRef03OfX3 : List O := [
  ⟨(some 16), none, .mv (.t 0)⟩,
  ⟨(some 17), none, .build [(.int .i64 0), (.own 2 [])] [(0, 1, (.t 16))]⟩,
  ⟨(some 6), none, .new [(.int .i64 0), (.own 2 [])]⟩,
  ⟨none, none, .st 2 (.t 6) (.t 17)⟩]
def rRef03OfX4 : List O := [
  ⟨(some 18), none, .mv (.t 1)⟩,
  ⟨(some 19), none, .len (.t 18)⟩,
  ⟨(some 20), none, .mv (.k (.int .i64 0))⟩]
def rRef03OfX5 : List O := [
  ⟨(some 21), none, .bin .lss (.t 20) (.t 19)⟩]
def rRef03OfX6 : List O := [
  ⟨(some 22), none, .ixa 2 (.t 18) (.t 20)⟩,
  ⟨(some 23), none, .ld (some 2) (.t 22)⟩,
  ⟨(some 8), none, .new [(.int .i64 0), (.int .i64 0)]⟩,
  ⟨none, none, .st 2 (.t 8) (.t 23)⟩]
def rRef03OfX7 : List O := [
  ⟨(some 24), none, .mv (.t 0)⟩,
  ⟨(some 25), none, .fad 0 (.t 8)⟩,
  ⟨(some 26), none, .ld none (.t 25)⟩,
  ⟨(some 27), none, .fad 1 (.t 8)⟩,
  ⟨(some 28), none, .ld none (.t 27)⟩,
  ⟨(some 29), none, .call nRef03Ends [(.t 24), (.t 26), (.t 28)]⟩,
  ⟨(some 30), none, .un .not (.t 29)⟩]
def rRef03OfX8 : List O := [
  ⟨(some 31), none, .build [(.int .i64 0), (.own 2 [])] []⟩,
  ⟨none, none, .st 2 (.t 4) (.t 31)⟩,
  ⟨(some 5), none, .mv (.k (.int .i64 6))⟩]
def rRef03OfX9 : List O := [
  ⟨(some 32), none, .fad 1 (.t 6)⟩,
  ⟨(some 33), none, .ld none (.t 32)⟩,
  ⟨(some 34), none, .fad 0 (.t 8)⟩,
  ⟨(some 35), none, .ld none (.t 34)⟩,
  ⟨(some 36), none, .fad 1 (.t 8)⟩,
  ⟨(some 37), none, .ld none (.t 36)⟩,
  ⟨(some 38), none, .call nRef03Edge [(.t 35), (.t 37)]⟩,
  ⟨(some 39), none, .call nRef03With [(.t 33), (.t 38)]⟩,
  ⟨(some 40), none, .fad 1 (.t 6)⟩,
  ⟨none, none, .st 1 (.t 40) (.t 39)⟩]
def rRef03OfX10 : List O := [
  ⟨(some 41), none, .bin .add (.t 20) (.k (.int .i64 1))⟩,
  ⟨(some 20), none, .mv (.t 41)⟩]
def lRef03OfX0 : C := (.seq (.reg rRef03OfX5 false [] [0, 4, 6, 18, 19, 20, 21]) (.seq (.cond (.t 21) .skip (.exit 0)) (.seq (.blk 1 (.seq (.reg rRef03OfX6 false [] [0, 4, 6, 8, 18, 19, 20]) (.seq (.seq (.reg rRef03OfX7 false [] [0, 4, 6, 8, 18, 19, 20, 30]) (.cond (.t 30) (.seq (.reg rRef03OfX8 false [] [4, 5]) .ret) .skip)) (.reg rRef03OfX9 true [(7, 7), (8, 8), (9, 9), (1, 2), (0, 3), (1, 3), (1, 4), (3, 4), (0, 5), (1, 5), (2, 5), (3, 5), (0, 6), (1, 6)] [0, 4, 6, 18, 19, 20])))) (.reg rRef03OfX10 false [] [0, 4, 6, 18, 19, 20]))))
def rRef03OfX11 : List O := [
  ⟨(some 42), none, .ld (some 2) (.t 6)⟩,
  ⟨none, none, .st 2 (.t 4) (.t 42)⟩,
  ⟨(some 5), none, .mv (.k (.int .i64 0))⟩]
def cRef03Of : C := (.seq (.reg rRef03OfX0 false [] [0, 1, 4]) (.seq (.seq (.reg rRef03OfX1 false [] [0, 1, 4, 14]) (.cond (.t 14) (.seq (.reg rRef03OfX2 false [] [4, 5]) .ret) .skip)) (.seq (.reg rRef03OfX3 false [] [0, 1, 4, 6]) (.seq (.seq (.reg rRef03OfX4 false [] [0, 4, 6, 18, 19, 20]) (.blk 0 (.loop lRef03OfX0))) (.seq (.reg rRef03OfX11 false [] [4, 5]) .ret)))))
def qRef03Of : AFn := ⟨43, 2, [.c 4 (some 2), .t 5], cRef03Of⟩
/- cohesion/cliques.Next$1 -/
def rCliquesNext1X0 : List O := [
  ⟨(some 3), none, .mv (.k (.bool false))⟩]
def rCliquesNext1X1 : List O := [
  ⟨(some 4), none, .mv (.t 0)⟩,
  ⟨none, none, .st 1 (.t 1) (.t 4)⟩]
def rCliquesNext1X2 : List O := [
  ⟨(some 3), none, .mv (.k (.bool false))⟩]
def cCliquesNext1 : C := (.seq (.reg rCliquesNext1X0 false [] [0, 1]) (.seq (.reg rCliquesNext1X1 false [] []) (.seq (.reg rCliquesNext1X2 false [] [3]) .ret)))
def qCliquesNext1 : AFn := ⟨5, 1, [.t 3], cCliquesNext1⟩
/- cohesion/cliques.Check$1 -/
def rCliquesCheck1X0 : List O := [
  ⟨(some 5), none, .mv (.k (.bool false))⟩]
def rCliquesCheck1X1 : List O := [
  ⟨(some 6), none, .ld none (.t 1)⟩,
  ⟨(some 7), none, .ld none (.t 2)⟩,
  ⟨(some 8), none, .len (.t 7)⟩,
  ⟨(some 9), none, .bin .lss (.t 6) (.t 8)⟩,
  ⟨(some 10), none, .mv (.t 9)⟩,
  ⟨(some 11), (some (10, true)), .mv (.t 0)⟩,
  ⟨(some 12), (some (10, true)), .ld none (.t 2)⟩,
  ⟨(some 13), (some (10, true)), .ld none (.t 1)⟩,
  ⟨(some 14), (some (10, true)), .ixa 1 (.t 12) (.t 13)⟩,
  ⟨(some 15), (some (10, true)), .ld none (.t 14)⟩,
  ⟨(some 16), (some (10, true)), .call nSlicesEqualIntInt [(.t 11), (.t 15)]⟩,
  ⟨(some 17), none, .pick (.t 10) (.t 16) (.k (.bool false))⟩,
  ⟨none, none, .st 1 (.t 3) (.t 17)⟩]
def rCliquesCheck1X2 : List O := [
  ⟨(some 18), none, .ld none (.t 1)⟩,
  ⟨(some 19), none, .bin .add (.t 18) (.k (.int .i64 1))⟩,
  ⟨none, none, .st 1 (.t 1) (.t 19)⟩]
def rCliquesCheck1X3 : List O := [
  ⟨(some 20), none, .ld none (.t 3)⟩,
  ⟨(some 5), none, .mv (.t 20)⟩]
def cCliquesCheck1 : C := (.seq (.reg rCliquesCheck1X0 false [] [0, 1, 2, 3]) (.seq (.reg rCliquesCheck1X1 false [] [1, 3]) (.seq (.reg rCliquesCheck1X2 false [] [3]) (.seq (.reg rCliquesCheck1X3 false [] [5]) .ret))))
def qCliquesCheck1 : AFn := ⟨21, 1, [.t 5], cCliquesCheck1⟩
/- slices.Equal[[]int,int] -/
def rSlicesEqualIntIntX0 : List O := [
  ⟨(some 4), none, .mv (.k (.bool false))⟩]
def rSlicesEqualIntIntX1 : List O := [
  ⟨(some 6), none, .mv (.t 0)⟩,
  ⟨(some 7), none, .len (.t 6)⟩,
  ⟨(some 8), none, .mv (.t 1)⟩,
  ⟨(some 9), none, .len (.t 8)⟩,
  ⟨(some 10), none, .bin .neq (.t 7) (.t 9)⟩]
def rSlicesEqualIntIntX2 : List O := [
  ⟨(some 4), none, .mv (.k (.bool false))⟩]
def rSlicesEqualIntIntX3 : List O := [
  ⟨(some 11), none, .mv (.t 0)⟩,
  ⟨(some 12), none, .len (.t 11)⟩,
  ⟨(some 13), none, .mv (.k (.int .i64 0))⟩]
def rSlicesEqualIntIntX4 : List O := [
  ⟨(some 14), none, .bin .lss (.t 13) (.t 12)⟩]
def rSlicesEqualIntIntX5 : List O := [
  ⟨(some 15), none, .mv (.t 13)⟩,
  ⟨(some 5), none, .mv (.t 15)⟩]
def rSlicesEqualIntIntX6 : List O := [
  ⟨(some 16), none, .mv (.t 0)⟩,
  ⟨(some 17), none, .mv (.t 5)⟩,
  ⟨(some 18), none, .ixa 1 (.t 16) (.t 17)⟩,
  ⟨(some 19), none, .ld none (.t 18)⟩,
  ⟨(some 20), none, .mv (.t 1)⟩,
  ⟨(some 21), none, .mv (.t 5)⟩,
  ⟨(some 22), none, .ixa 1 (.t 20) (.t 21)⟩,
  ⟨(some 23), none, .ld none (.t 22)⟩,
  ⟨(some 24), none, .bin .neq (.t 19) (.t 23)⟩]
def rSlicesEqualIntIntX7 : List O := [
  ⟨(some 4), none, .mv (.k (.bool false))⟩]
def rSlicesEqualIntIntX8 : List O := [
  ⟨(some 25), none, .bin .add (.t 13) (.k (.int .i64 1))⟩,
  ⟨(some 13), none, .mv (.t 25)⟩]
def lSlicesEqualIntIntX0 : C := (.seq (.reg rSlicesEqualIntIntX4 false [] [0, 1, 12, 13, 14]) (.seq (.cond (.t 14) .skip (.exit 0)) (.seq (.blk 1 (.seq (.reg rSlicesEqualIntIntX5 false [] [0, 1, 5, 12, 13]) (.seq (.reg rSlicesEqualIntIntX6 true [(8, 8), (3, 4), (3, 5), (3, 6), (0, 7), (1, 7), (2, 7), (3, 7)] [0, 1, 12, 13, 24]) (.cond (.t 24) (.seq (.reg rSlicesEqualIntIntX7 false [] [4]) .ret) .skip)))) (.reg rSlicesEqualIntIntX8 false [] [0, 1, 12, 13]))))
def rSlicesEqualIntIntX9 : List O := [
  ⟨(some 4), none, .mv (.k (.bool true))⟩]
def cSlicesEqualIntInt : C := (.seq (.reg rSlicesEqualIntIntX0 false [] [0, 1]) (.seq (.seq (.reg rSlicesEqualIntIntX1 false [] [0, 1, 10]) (.cond (.t 10) (.seq (.reg rSlicesEqualIntIntX2 false [] [4]) .ret) .skip)) (.seq (.seq (.reg rSlicesEqualIntIntX3 false [] [0, 1, 12, 13]) (.blk 0 (.loop lSlicesEqualIntIntX0))) (.seq (.reg rSlicesEqualIntIntX9 false [] [4]) .ret))))
def qSlicesEqualIntInt : AFn := ⟨26, 2, [.t 4], cSlicesEqualIntInt⟩
/- cohesion/cohesionmake.Mod -/
def rMakeModX0 : List O := [
  ⟨(some 4), none, .mv (.k (.int .i64 0))⟩]
def rMakeModX1 : List O := [
  ⟨(some 5), none, .mv (.t 0)⟩,
  ⟨(some 6), none, .mv (.t 1)⟩,
  ⟨(some 7), none, .bin .rem (.t 5) (.t 6)⟩,
  ⟨(some 8), none, .mv (.t 1)⟩,
  ⟨(some 9), none, .bin .add (.t 7) (.t 8)⟩,
  ⟨(some 10), none, .mv (.t 1)⟩,
  ⟨(some 11), none, .bin .rem (.t 9) (.t 10)⟩,
  ⟨(some 4), none, .mv (.t 11)⟩]
def cMakeMod : C := (.seq (.reg rMakeModX0 false [] [0, 1]) (.seq (.reg rMakeModX1 false [] [4]) .ret))
def qMakeMod : AFn := ⟨12, 2, [.t 4], cMakeMod⟩
/- cohesion/cliques.masks -/
def rCliquesMasksX0 : List O := [
  ⟨(some 1), none, .box (.t 0)⟩,
  ⟨(some 2), none, .mv (.k (.own 1 []))⟩]
def rCliquesMasksX1 : List O := [
  ⟨(some 6), none, .fad 0 (.t 1)⟩,
  ⟨(some 7), none, .ld none (.t 6)⟩,
  ⟨(some 8), none, .mks 1 [(.int .u64 0)] (.t 7) (.t 7)⟩,
  ⟨(some 3), none, .mv (.t 8)⟩]
def rCliquesMasksX2 : List O := [
  ⟨(some 9), none, .fad 1 (.t 1)⟩,
  ⟨(some 10), none, .ld none (.t 9)⟩,
  ⟨(some 11), none, .len (.t 10)⟩,
  ⟨(some 12), none, .mv (.k (.int .i64 0))⟩]
def rCliquesMasksX3 : List O := [
  ⟨(some 13), none, .bin .lss (.t 12) (.t 11)⟩]
def rCliquesMasksX4 : List O := [
  ⟨(some 14), none, .ixa 2 (.t 10) (.t 12)⟩,
  ⟨(some 15), none, .ld (some 2) (.t 14)⟩,
  ⟨(some 5), none, .new [(.int .i64 0), (.int .i64 0)]⟩,
  ⟨none, none, .st 2 (.t 5) (.t 15)⟩]
def rCliquesMasksX5 : List O := [
  ⟨(some 16), none, .mv (.t 3)⟩,
  ⟨(some 17), none, .fad 0 (.t 5)⟩,
  ⟨(some 18), none, .ld none (.t 17)⟩,
  ⟨(some 19), none, .ixa 1 (.t 16) (.t 18)⟩,
  ⟨(some 20), none, .ld none (.t 19)⟩,
  ⟨(some 21), none, .fad 1 (.t 5)⟩,
  ⟨(some 22), none, .ld none (.t 21)⟩,
  ⟨(some 23), none, .bin .shl (.k (.int .u64 1)) (.t 22)⟩,
  ⟨(some 24), none, .bin .or (.t 20) (.t 23)⟩,
  ⟨(some 25), none, .ixa 1 (.t 16) (.t 18)⟩,
  ⟨none, none, .st 1 (.t 25) (.t 24)⟩]
def rCliquesMasksX6 : List O := [
  ⟨(some 26), none, .mv (.t 3)⟩,
  ⟨(some 27), none, .fad 1 (.t 5)⟩,
  ⟨(some 28), none, .ld none (.t 27)⟩,
  ⟨(some 29), none, .ixa 1 (.t 26) (.t 28)⟩,
  ⟨(some 30), none, .ld none (.t 29)⟩,
  ⟨(some 31), none, .fad 0 (.t 5)⟩,
  ⟨(some 32), none, .ld none (.t 31)⟩,
  ⟨(some 33), none, .bin .shl (.k (.int .u64 1)) (.t 32)⟩,
  ⟨(some 34), none, .bin .or (.t 30) (.t 33)⟩,
  ⟨(some 35), none, .ixa 1 (.t 26) (.t 28)⟩,
  ⟨none, none, .st 1 (.t 35) (.t 34)⟩]
def rCliquesMasksX7 : List O := [
  ⟨(some 36), none, .bin .add (.t 12) (.k (.int .i64 1))⟩,
  ⟨(some 12), none, .mv (.t 36)⟩]
def lCliquesMasksX0 : C := (.seq (.reg rCliquesMasksX3 false [] [3, 10, 11, 12, 13]) (.seq (.cond (.t 13) .skip (.exit 0)) (.seq (.blk 1 (.seq (.reg rCliquesMasksX4 false [] [3, 5, 10, 11, 12]) (.seq (.reg rCliquesMasksX5 true [(8, 8), (9, 9), (10, 10), (0, 2), (2, 5), (4, 5), (0, 6), (1, 6), (2, 6), (3, 6), (4, 6), (2, 7), (4, 7)] [3, 5, 10, 11, 12]) (.reg rCliquesMasksX6 true [(8, 8), (9, 9), (10, 10), (0, 2), (2, 5), (4, 5), (0, 6), (1, 6), (2, 6), (3, 6), (4, 6), (2, 7), (4, 7)] [3, 10, 11, 12])))) (.reg rCliquesMasksX7 false [] [3, 10, 11, 12]))))
def rCliquesMasksX8 : List O := [
  ⟨(some 37), none, .mv (.t 3)⟩,
  ⟨(some 2), none, .mv (.t 37)⟩]
def cCliquesMasks : C := (.seq (.reg rCliquesMasksX0 false [] [1]) (.seq (.reg rCliquesMasksX1 false [] [1, 3]) (.seq (.seq (.reg rCliquesMasksX2 false [] [3, 10, 11, 12]) (.blk 0 (.loop lCliquesMasksX0))) (.seq (.reg rCliquesMasksX8 false [] [2]) .ret))))
def qCliquesMasks : AFn := ⟨38, 1, [.t 2], cCliquesMasks⟩
/- slices.Clone[[]int,int] -/
def rSlicesCloneIntIntX0 : List O := [
  ⟨(some 2), none, .mv (.k (.own 1 []))⟩]
def rSlicesCloneIntIntX1 : List O := [
  ⟨(some 3), none, .mv (.t 0)⟩,
  ⟨(some 4), none, .eq false .nsl (.t 3) (.k (.own 1 []))⟩]
def rSlicesCloneIntIntX2 : List O := [
  ⟨(some 2), none, .mv (.k (.own 1 []))⟩]
def rSlicesCloneIntIntX3 : List O := [
  ⟨(some 5), none, .bslice 1 0 [(.int .i64 0)] []⟩,
  ⟨(some 6), none, .mv (.t 0)⟩,
  ⟨(some 7), none, .app 1 (.t 5) (.t 6)⟩,
  ⟨(some 2), none, .mv (.t 7)⟩]
def cSlicesCloneIntInt : C := (.seq (.reg rSlicesCloneIntIntX0 false [] [0]) (.seq (.seq (.reg rSlicesCloneIntIntX1 false [] [0, 4]) (.cond (.t 4) (.seq (.reg rSlicesCloneIntIntX2 false [] [2]) .ret) .skip)) (.seq (.reg rSlicesCloneIntIntX3 false [] [2]) .ret)))
def qSlicesCloneIntInt : AFn := ⟨8, 1, [.t 2], cSlicesCloneIntInt⟩
/- cohesion/cliques.common -/
def rCliquesCommonX0 : List O := [
  ⟨(some 4), none, .mv (.k (.int .u64 0))⟩]
def rCliquesCommonX1 : List O := [
  ⟨(some 8), none, .mv (.t 0)⟩,
  ⟨(some 9), none, .len (.t 8)⟩,
  ⟨(some 10), none, .call nCliquesAllN77 [(.t 9)]⟩,
  ⟨(some 5), none, .mv (.t 10)⟩]
def rCliquesCommonX2 : List O := [
  ⟨(some 11), none, .mv (.t 1)⟩,
  ⟨(some 12), none, .len (.t 11)⟩,
  ⟨(some 13), none, .mv (.k (.int .i64 0))⟩]
def rCliquesCommonX3 : List O := [
  ⟨(some 14), none, .bin .lss (.t 13) (.t 12)⟩]
def rCliquesCommonX4 : List O := [
  ⟨(some 15), none, .ixa 1 (.t 11) (.t 13)⟩,
  ⟨(some 16), none, .ld none (.t 15)⟩,
  ⟨(some 7), none, .mv (.t 16)⟩]
def rCliquesCommonX5 : List O := [
  ⟨(some 17), none, .mv (.t 5)⟩,
  ⟨(some 18), none, .mv (.t 0)⟩,
  ⟨(some 19), none, .mv (.t 7)⟩,
  ⟨(some 20), none, .ixa 1 (.t 18) (.t 19)⟩,
  ⟨(some 21), none, .ld none (.t 20)⟩,
  ⟨(some 22), none, .bin .and (.t 17) (.t 21)⟩,
  ⟨(some 5), none, .mv (.t 22)⟩]
def rCliquesCommonX6 : List O := [
  ⟨(some 23), none, .bin .add (.t 13) (.k (.int .i64 1))⟩,
  ⟨(some 13), none, .mv (.t 23)⟩]
def lCliquesCommonX0 : C := (.seq (.reg rCliquesCommonX3 false [] [0, 5, 11, 12, 13, 14]) (.seq (.cond (.t 14) .skip (.exit 0)) (.seq (.blk 1 (.seq (.reg rCliquesCommonX4 false [] [0, 5, 7, 11, 12, 13]) (.reg rCliquesCommonX5 false [] [0, 5, 11, 12, 13]))) (.reg rCliquesCommonX6 false [] [0, 5, 11, 12, 13]))))
def rCliquesCommonX7 : List O := [
  ⟨(some 24), none, .mv (.t 5)⟩,
  ⟨(some 4), none, .mv (.t 24)⟩]
def cCliquesCommon : C := (.seq (.reg rCliquesCommonX0 false [] [0, 1]) (.seq (.reg rCliquesCommonX1 false [] [0, 1, 5]) (.seq (.seq (.reg rCliquesCommonX2 false [] [0, 5, 11, 12, 13]) (.blk 0 (.loop lCliquesCommonX0))) (.seq (.reg rCliquesCommonX7 false [] [4]) .ret))))
def qCliquesCommon : AFn := ⟨25, 2, [.t 4], cCliquesCommon⟩
/- math/bits.TrailingZeros64 -/
def rMathBitsTrailingZeros64X0 : List O := [
  ⟨(some 2), none, .mv (.k (.int .i64 0))⟩]
def rMathBitsTrailingZeros64X1 : List O := [
  ⟨(some 3), none, .mv (.t 0)⟩,
  ⟨(some 4), none, .bin .eql (.t 3) (.k (.int .u64 0))⟩]
def rMathBitsTrailingZeros64X2 : List O := [
  ⟨(some 2), none, .mv (.k (.int .i64 64))⟩]
def rMathBitsTrailingZeros64X3 : List O := [
  ⟨(some 5), none, .mv (.t 0)⟩,
  ⟨(some 6), none, .mv (.t 0)⟩,
  ⟨(some 7), none, .un .neg (.t 6)⟩,
  ⟨(some 8), none, .bin .and (.t 5) (.t 7)⟩,
  ⟨(some 9), none, .bin .mul (.t 8) (.k (.int .u64 285870213051353865))⟩,
  ⟨(some 10), none, .bin .shr (.t 9) (.k (.int .u64 58))⟩,
  ⟨(some 11), none, .ixp 64 1 (.g 0) (.t 10)⟩,
  ⟨(some 12), none, .ld none (.t 11)⟩,
  ⟨(some 13), none, .cvt .i64 (.t 12)⟩,
  ⟨(some 2), none, .mv (.t 13)⟩]
def cMathBitsTrailingZeros64 : C := (.seq (.reg rMathBitsTrailingZeros64X0 false [] [0]) (.seq (.seq (.reg rMathBitsTrailingZeros64X1 false [] [0, 4]) (.cond (.t 4) (.seq (.reg rMathBitsTrailingZeros64X2 false [] [2]) .ret) .skip)) (.seq (.reg rMathBitsTrailingZeros64X3 false [] [2]) .ret)))
def qMathBitsTrailingZeros64 : AFn := ⟨14, 1, [.t 2], cMathBitsTrailingZeros64⟩
/- slices.Sort[[]int,int] -/
def rSlicesSortIntIntX0 : List O := [
  ⟨(some 3), none, .mv (.t 0)⟩,
  ⟨(some 4), none, .len (.t 3)⟩,
  ⟨(some 2), none, .mv (.t 4)⟩]
def rSlicesSortIntIntX1 : List O := [
  ⟨(some 5), none, .mv (.t 0)⟩,
  ⟨(some 6), none, .mv (.t 2)⟩,
  ⟨(some 7), none, .mv (.t 2)⟩,
  ⟨(some 8), none, .cvt .u64 (.t 7)⟩,
  ⟨(some 9), none, .call 82 [(.t 8)]⟩,
  ⟨(some 10), none, .call 81 [(.t 5), (.k (.int .i64 0)), (.t 6), (.t 9)]⟩]
def cSlicesSortIntInt : C := (.seq (.reg rSlicesSortIntIntX0 false [] [0, 2]) (.reg rSlicesSortIntIntX1 false [] []))
def qSlicesSortIntInt : AFn := ⟨11, 1, [], cSlicesSortIntInt⟩
/- cohesion/nodeset.Valid -/
def rNodesetValidX0 : List O := [
  ⟨(some 4), none, .mv (.k (.bool false))⟩]
def rNodesetValidX1 : List O := [
  ⟨(some 7), none, .mv (.t 0)⟩,
  ⟨(some 8), none, .len (.t 7)⟩,
  ⟨(some 9), none, .mv (.k (.int .i64 0))⟩]
def rNodesetValidX2 : List O := [
  ⟨(some 10), none, .bin .lss (.t 9) (.t 8)⟩]
def rNodesetValidX3 : List O := [
  ⟨(some 11), none, .mv (.t 9)⟩,
  ⟨(some 12), none, .ixa 1 (.t 7) (.t 9)⟩,
  ⟨(some 13), none, .ld none (.t 12)⟩,
  ⟨(some 5), none, .mv (.t 11)⟩,
  ⟨(some 6), none, .mv (.t 13)⟩]
def rNodesetValidX4 : List O := [
  ⟨(some 14), none, .mv (.t 6)⟩,
  ⟨(some 15), none, .bin .lss (.t 14) (.k (.int .i64 0))⟩,
  ⟨(some 16), none, .mv (.t 15)⟩,
  ⟨(some 17), (some (16, false)), .mv (.t 6)⟩,
  ⟨(some 18), (some (16, false)), .mv (.t 1)⟩,
  ⟨(some 19), (some (16, false)), .bin .geq (.t 17) (.t 18)⟩,
  ⟨(some 20), none, .pick (.t 16) (.k (.bool true)) (.t 19)⟩,
  ⟨(some 21), none, .mv (.t 20)⟩,
  ⟨(some 22), (some (21, false)), .mv (.t 5)⟩,
  ⟨(some 23), (some (21, false)), .bin .gtr (.t 22) (.k (.int .i64 0))⟩,
  ⟨(some 24), (some (21, false)), .mv (.t 23)⟩,
  ⟨(some 25), (some (24, true)), .mv (.t 0)⟩,
  ⟨(some 26), (some (24, true)), .mv (.t 5)⟩,
  ⟨(some 27), (some (24, true)), .bin .sub (.t 26) (.k (.int .i64 1))⟩,
  ⟨(some 28), (some (24, true)), .ixa 1 (.t 25) (.t 27)⟩,
  ⟨(some 29), (some (24, true)), .ld none (.t 28)⟩,
  ⟨(some 30), (some (24, true)), .mv (.t 6)⟩,
  ⟨(some 31), (some (24, true)), .bin .geq (.t 29) (.t 30)⟩,
  ⟨(some 32), (some (21, false)), .pick (.t 24) (.t 31) (.k (.bool false))⟩,
  ⟨(some 33), none, .pick (.t 21) (.k (.bool true)) (.t 32)⟩]
def rNodesetValidX5 : List O := [
  ⟨(some 4), none, .mv (.k (.bool false))⟩]
def rNodesetValidX6 : List O := [
  ⟨(some 34), none, .bin .add (.t 9) (.k (.int .i64 1))⟩,
  ⟨(some 9), none, .mv (.t 34)⟩]
def lNodesetValidX0 : C := (.seq (.reg rNodesetValidX2 false [] [0, 1, 7, 8, 9, 10]) (.seq (.cond (.t 10) .skip (.exit 0)) (.seq (.blk 1 (.seq (.reg rNodesetValidX3 false [] [0, 1, 5, 6, 7, 8, 9]) (.seq (.reg rNodesetValidX4 false [] [0, 1, 7, 8, 9, 33]) (.cond (.t 33) (.seq (.reg rNodesetValidX5 false [] [4]) .ret) .skip)))) (.reg rNodesetValidX6 false [] [0, 1, 7, 8, 9]))))
def rNodesetValidX7 : List O := [
  ⟨(some 4), none, .mv (.k (.bool true))⟩]
def cNodesetValid : C := (.seq (.reg rNodesetValidX0 false [] [0, 1]) (.seq (.seq (.reg rNodesetValidX1 false [] [0, 1, 7, 8, 9]) (.blk 0 (.loop lNodesetValidX0))) (.seq (.reg rNodesetValidX7 false [] [4]) .ret)))
def qNodesetValid : AFn := ⟨35, 2, [.t 4], cNodesetValid⟩
/- cohesion/cliques.clique -/
def rCliquesCliqueX0 : List O := [
  ⟨(some 4), none, .mv (.k (.bool false))⟩]
def rCliquesCliqueX1 : List O := [
  ⟨(some 9), none, .mv (.t 1)⟩,
  ⟨(some 10), none, .len (.t 9)⟩,
  ⟨(some 11), none, .mv (.k (.int .i64 0))⟩]
def rCliquesCliqueX2 : List O := [
  ⟨(some 12), none, .bin .lss (.t 11) (.t 10)⟩]
def rCliquesCliqueX3 : List O := [
  ⟨(some 13), none, .mv (.t 11)⟩,
  ⟨(some 14), none, .ixa 1 (.t 9) (.t 11)⟩,
  ⟨(some 15), none, .ld none (.t 14)⟩,
  ⟨(some 5), none, .mv (.t 13)⟩,
  ⟨(some 6), none, .mv (.t 15)⟩]
def rCliquesCliqueX4 : List O := [
  ⟨(some 16), none, .mv (.t 1)⟩,
  ⟨(some 17), none, .mv (.t 5)⟩,
  ⟨(some 18), none, .slc 1 (.t 16) none (some (.t 17))⟩,
  ⟨(some 19), none, .len (.t 18)⟩,
  ⟨(some 20), none, .mv (.k (.int .i64 0))⟩]
def rCliquesCliqueX5 : List O := [
  ⟨(some 21), none, .bin .lss (.t 20) (.t 19)⟩]
def rCliquesCliqueX6 : List O := [
  ⟨(some 22), none, .ixa 1 (.t 18) (.t 20)⟩,
  ⟨(some 23), none, .ld none (.t 22)⟩,
  ⟨(some 8), none, .mv (.t 23)⟩]
def rCliquesCliqueX7 : List O := [
  ⟨(some 24), none, .mv (.t 0)⟩,
  ⟨(some 25), none, .mv (.t 6)⟩,
  ⟨(some 26), none, .ixa 1 (.t 24) (.t 25)⟩,
  ⟨(some 27), none, .ld none (.t 26)⟩,
  ⟨(some 28), none, .mv (.t 8)⟩,
  ⟨(some 29), none, .bin .shr (.t 27) (.t 28)⟩,
  ⟨(some 30), none, .bin .and (.t 29) (.k (.int .u64 1))⟩,
  ⟨(some 31), none, .bin .eql (.t 30) (.k (.int .u64 0))⟩]
def rCliquesCliqueX8 : List O := [
  ⟨(some 4), none, .mv (.k (.bool false))⟩]
def rCliquesCliqueX9 : List O := [
  ⟨(some 32), none, .bin .add (.t 20) (.k (.int .i64 1))⟩,
  ⟨(some 20), none, .mv (.t 32)⟩]
def lCliquesCliqueX0 : C := (.seq (.reg rCliquesCliqueX5 false [] [0, 1, 6, 9, 10, 11, 18, 19, 20, 21]) (.seq (.cond (.t 21) .skip (.exit 2)) (.seq (.blk 3 (.seq (.reg rCliquesCliqueX6 false [] [0, 1, 6, 8, 9, 10, 11, 18, 19, 20]) (.seq (.reg rCliquesCliqueX7 false [] [0, 1, 6, 9, 10, 11, 18, 19, 20, 31]) (.cond (.t 31) (.seq (.reg rCliquesCliqueX8 false [] [4]) .ret) .skip)))) (.reg rCliquesCliqueX9 false [] [0, 1, 6, 9, 10, 11, 18, 19, 20]))))
def rCliquesCliqueX10 : List O := [
  ⟨(some 33), none, .bin .add (.t 11) (.k (.int .i64 1))⟩,
  ⟨(some 11), none, .mv (.t 33)⟩]
def lCliquesCliqueX1 : C := (.seq (.reg rCliquesCliqueX2 false [] [0, 1, 9, 10, 11, 12]) (.seq (.cond (.t 12) .skip (.exit 0)) (.seq (.blk 1 (.seq (.reg rCliquesCliqueX3 false [] [0, 1, 5, 6, 9, 10, 11]) (.seq (.reg rCliquesCliqueX4 false [] [0, 1, 6, 9, 10, 11, 18, 19, 20]) (.blk 2 (.loop lCliquesCliqueX0))))) (.reg rCliquesCliqueX10 false [] [0, 1, 9, 10, 11]))))
def rCliquesCliqueX11 : List O := [
  ⟨(some 4), none, .mv (.k (.bool true))⟩]
def cCliquesClique : C := (.seq (.reg rCliquesCliqueX0 false [] [0, 1]) (.seq (.seq (.reg rCliquesCliqueX1 false [] [0, 1, 9, 10, 11]) (.blk 0 (.loop lCliquesCliqueX1))) (.seq (.reg rCliquesCliqueX11 false [] [4]) .ret)))
def qCliquesClique : AFn := ⟨34, 2, [.t 4], cCliquesClique⟩
/- cohesion/graph.Order -/
def rGraphOrderX0 : List O := [
  ⟨(some 2), none, .box (.t 0)⟩,
  ⟨(some 3), none, .box (.t 1)⟩,
  ⟨(some 4), none, .mv (.k (.int .i64 0))⟩]
def rGraphOrderX1 : List O := [
  ⟨(some 5), none, .fad 0 (.t 2)⟩,
  ⟨(some 6), none, .ld none (.t 5)⟩,
  ⟨(some 7), none, .fad 0 (.t 3)⟩,
  ⟨(some 8), none, .ld none (.t 7)⟩,
  ⟨(some 9), none, .call nCmpCompareInt [(.t 6), (.t 8)]⟩,
  ⟨(some 10), none, .fad 1 (.t 2)⟩,
  ⟨(some 11), none, .ld none (.t 10)⟩,
  ⟨(some 12), none, .fad 1 (.t 3)⟩,
  ⟨(some 13), none, .ld none (.t 12)⟩,
  ⟨(some 14), none, .call nCmpCompareInt [(.t 11), (.t 13)]⟩,
  ⟨(some 15), none, .bslice 1 2 [(.int .i64 0)] [(0, 1, (.t 9)), (1, 1, (.t 14))]⟩,
  ⟨(some 16), none, .call nCmpOrInt [(.t 15)]⟩,
  ⟨(some 4), none, .mv (.t 16)⟩]
def cGraphOrder : C := (.seq (.reg rGraphOrderX0 false [] [2, 3]) (.seq (.reg rGraphOrderX1 true [(9, 9), (10, 10), (11, 11), (12, 12), (1, 2), (0, 3), (1, 3), (1, 5), (3, 5), (4, 5), (0, 6), (1, 6), (2, 6), (3, 6), (4, 6), (1, 7), (3, 7), (4, 7), (6, 7), (0, 8), (1, 8), (2, 8), (3, 8), (4, 8), (5, 8), (6, 8)] [4]) .ret))
def qGraphOrder : AFn := ⟨17, 2, [.t 4], cGraphOrder⟩
/- cohesion/cliques.each$1 -/
def rCliquesEach1X0 : List O := [
  ⟨(some 11), none, .mv (.k (.bool false))⟩]
def rCliquesEach1X1 : List O := [
  ⟨(some 18), none, .mv (.t 0)⟩,
  ⟨(some 19), none, .bin .eql (.t 18) (.k (.int .u64 0))⟩]
def rCliquesEach1X2 : List O := [
  ⟨(some 20), none, .mv (.t 1)⟩,
  ⟨(some 21), none, .bin .neq (.t 20) (.k (.int .u64 0))⟩,
  ⟨(some 22), none, .mv (.t 21)⟩,
  ⟨(some 23), (some (22, false)), .ld none (.t 3)⟩,
  ⟨(some 24), (some (22, false)), .len (.t 23)⟩,
  ⟨(some 25), (some (22, false)), .bin .eql (.t 24) (.k (.int .i64 0))⟩,
  ⟨(some 26), none, .pick (.t 22) (.k (.bool true)) (.t 25)⟩,
  ⟨(some 27), none, .mv (.t 26)⟩,
  ⟨(some 28), (some (27, false)), .mv (.t 2)⟩,
  ⟨(some 29), (some (27, false)), .mv (.t 28)⟩,
  ⟨(some 30), (some (29, true)), .ld none (.t 3)⟩,
  ⟨(some 31), (some (29, true)), .len (.t 30)⟩,
  ⟨(some 32), (some (29, true)), .ld none (.t 4)⟩,
  ⟨(some 33), (some (29, true)), .len (.t 32)⟩,
  ⟨(some 34), (some (29, true)), .bin .leq (.t 31) (.t 33)⟩,
  ⟨(some 35), (some (27, false)), .pick (.t 29) (.t 34) (.k (.bool false))⟩,
  ⟨(some 36), none, .pick (.t 27) (.k (.bool true)) (.t 35)⟩,
  ⟨(some 37), none, .mv (.t 36)⟩,
  ⟨(some 38), (some (37, false)), .ld none (.t 5)⟩,
  ⟨(some 39), (some (37, false)), .ld none (.t 3)⟩,
  ⟨(some 40), (some (37, false)), .call nSlicesCloneIntInt [(.t 39)]⟩,
  ⟨(some 41), (some (37, false)), .callv (.t 38) [(.t 40)]⟩,
  ⟨(some 42), none, .pick (.t 37) (.k (.bool true)) (.t 41)⟩,
  ⟨(some 11), none, .mv (.t 42)⟩]
def rCliquesEach1X3 : List O := [
  ⟨(some 43), none, .mv (.t 1)⟩,
  ⟨(some 12), none, .mv (.t 43)⟩]
def rCliquesEach1X4 : List O := [
  ⟨(some 44), none, .mv (.t 12)⟩,
  ⟨(some 45), none, .bin .neq (.t 44) (.k (.int .u64 0))⟩]
def rCliquesEach1X5 : List O := [
  ⟨(some 50), none, .mv (.t 0)⟩,
  ⟨(some 51), none, .ld none (.t 6)⟩,
  ⟨(some 52), none, .mv (.t 12)⟩,
  ⟨(some 53), none, .call nMathBitsTrailingZeros64 [(.t 52)]⟩,
  ⟨(some 54), none, .ixa 1 (.t 51) (.t 53)⟩,
  ⟨(some 55), none, .ld none (.t 54)⟩,
  ⟨(some 56), none, .bin .andNot (.t 50) (.t 55)⟩,
  ⟨(some 57), none, .bin .eql (.t 56) (.k (.int .u64 0))⟩]
def rCliquesEach1X6 : List O := [
  ⟨(some 11), none, .mv (.k (.bool true))⟩]
def rCliquesEach1X7 : List O := [
  ⟨(some 46), none, .mv (.t 12)⟩,
  ⟨(some 47), none, .mv (.t 12)⟩,
  ⟨(some 48), none, .bin .sub (.t 47) (.k (.int .u64 1))⟩,
  ⟨(some 49), none, .bin .and (.t 46) (.t 48)⟩,
  ⟨(some 12), none, .mv (.t 49)⟩]
def lCliquesEach1X0 : C := (.seq (.seq (.reg rCliquesEach1X4 false [] [0, 1, 2, 3, 4, 6, 7, 12, 45]) (.cond (.t 45) .skip (.exit 0))) (.seq (.blk 1 (.seq (.reg rCliquesEach1X5 true [(6, 6), (7, 7), (0, 1), (1, 2), (0, 3), (1, 3), (0, 5)] [0, 1, 2, 3, 4, 6, 7, 12, 57]) (.cond (.t 57) (.seq (.reg rCliquesEach1X6 false [] [11]) .ret) .skip))) (.reg rCliquesEach1X7 false [] [0, 1, 2, 3, 4, 6, 7, 12])))
def rCliquesEach1X8 : List O := [
  ⟨(some 58), none, .mv (.t 0)⟩,
  ⟨(some 13), none, .mv (.t 58)⟩]
def rCliquesEach1X9 : List O := [
  ⟨(some 59), none, .mv (.t 13)⟩,
  ⟨(some 60), none, .bin .neq (.t 59) (.k (.int .u64 0))⟩]
def rCliquesEach1X10 : List O := [
  ⟨(some 65), none, .mv (.t 13)⟩,
  ⟨(some 66), none, .call nMathBitsTrailingZeros64 [(.t 65)]⟩,
  ⟨(some 14), none, .mv (.t 66)⟩]
def rCliquesEach1X11 : List O := [
  ⟨(some 67), none, .mv (.t 2)⟩,
  ⟨(some 68), none, .mv (.t 67)⟩,
  ⟨(some 69), (some (68, true)), .ld none (.t 3)⟩,
  ⟨(some 70), (some (68, true)), .len (.t 69)⟩,
  ⟨(some 71), (some (68, true)), .ld none (.t 4)⟩,
  ⟨(some 72), (some (68, true)), .len (.t 71)⟩,
  ⟨(some 73), (some (68, true)), .bin .lss (.t 70) (.t 72)⟩,
  ⟨(some 74), none, .pick (.t 68) (.t 73) (.k (.bool false))⟩,
  ⟨(some 15), none, .mv (.t 74)⟩]
def rCliquesEach1X12 : List O := [
  ⟨(some 75), none, .mv (.t 15)⟩,
  ⟨(some 76), none, .mv (.t 75)⟩,
  ⟨(some 77), (some (76, true)), .mv (.t 14)⟩,
  ⟨(some 78), (some (76, true)), .ld none (.t 4)⟩,
  ⟨(some 79), (some (76, true)), .ld none (.t 3)⟩,
  ⟨(some 80), (some (76, true)), .len (.t 79)⟩,
  ⟨(some 81), (some (76, true)), .ixa 1 (.t 78) (.t 80)⟩,
  ⟨(some 82), (some (76, true)), .ld none (.t 81)⟩,
  ⟨(some 83), (some (76, true)), .bin .lss (.t 77) (.t 82)⟩,
  ⟨(some 84), none, .pick (.t 76) (.t 83) (.k (.bool false))⟩]
def rCliquesEach1X13 : List O := [
  ⟨(some 85), none, .mv (.t 15)⟩,
  ⟨(some 86), none, .mv (.t 85)⟩,
  ⟨(some 87), (some (86, true)), .mv (.t 14)⟩,
  ⟨(some 88), (some (86, true)), .ld none (.t 4)⟩,
  ⟨(some 89), (some (86, true)), .ld none (.t 3)⟩,
  ⟨(some 90), (some (86, true)), .len (.t 89)⟩,
  ⟨(some 91), (some (86, true)), .ixa 1 (.t 88) (.t 90)⟩,
  ⟨(some 92), (some (86, true)), .ld none (.t 91)⟩,
  ⟨(some 93), (some (86, true)), .bin .eql (.t 87) (.t 92)⟩,
  ⟨(some 94), none, .pick (.t 86) (.t 93) (.k (.bool false))⟩,
  ⟨(some 15), none, .mv (.t 94)⟩]
def rCliquesEach1X14 : List O := [
  ⟨(some 95), none, .ld none (.t 3)⟩,
  ⟨(some 96), none, .mv (.t 14)⟩,
  ⟨(some 97), none, .bslice 1 1 [(.int .i64 0)] [(0, 1, (.t 96))]⟩,
  ⟨(some 98), none, .app 1 (.t 95) (.t 97)⟩,
  ⟨none, none, .st 1 (.t 3) (.t 98)⟩]
def rCliquesEach1X15 : List O := [
  ⟨(some 99), none, .mv (.t 14)⟩,
  ⟨(some 100), none, .bin .shl (.k (.int .u64 1)) (.t 99)⟩,
  ⟨(some 101), none, .bin .sub (.t 100) (.k (.int .u64 1))⟩,
  ⟨(some 16), none, .mv (.t 101)⟩]
def rCliquesEach1X16 : List O := [
  ⟨(some 102), none, .ld none (.t 7)⟩,
  ⟨(some 103), none, .mv (.t 0)⟩,
  ⟨(some 104), none, .ld none (.t 6)⟩,
  ⟨(some 105), none, .mv (.t 14)⟩,
  ⟨(some 106), none, .ixa 1 (.t 104) (.t 105)⟩,
  ⟨(some 107), none, .ld none (.t 106)⟩,
  ⟨(some 108), none, .bin .and (.t 103) (.t 107)⟩,
  ⟨(some 109), none, .mv (.t 16)⟩,
  ⟨(some 110), none, .bin .andNot (.t 108) (.t 109)⟩,
  ⟨(some 111), none, .mv (.t 1)⟩,
  ⟨(some 112), none, .mv (.t 0)⟩,
  ⟨(some 113), none, .mv (.t 16)⟩,
  ⟨(some 114), none, .bin .and (.t 112) (.t 113)⟩,
  ⟨(some 115), none, .bin .or (.t 111) (.t 114)⟩,
  ⟨(some 116), none, .ld none (.t 6)⟩,
  ⟨(some 117), none, .mv (.t 14)⟩,
  ⟨(some 118), none, .ixa 1 (.t 116) (.t 117)⟩,
  ⟨(some 119), none, .ld none (.t 118)⟩,
  ⟨(some 120), none, .bin .and (.t 115) (.t 119)⟩,
  ⟨(some 121), none, .mv (.t 15)⟩,
  ⟨(some 122), none, .callv (.t 102) [(.t 110), (.t 120), (.t 121)]⟩,
  ⟨(some 17), none, .mv (.t 122)⟩]
def rCliquesEach1X17 : List O := [
  ⟨(some 123), none, .ld none (.t 3)⟩,
  ⟨(some 124), none, .ld none (.t 3)⟩,
  ⟨(some 125), none, .len (.t 124)⟩,
  ⟨(some 126), none, .bin .sub (.t 125) (.k (.int .i64 1))⟩,
  ⟨(some 127), none, .slc 1 (.t 123) none (some (.t 126))⟩,
  ⟨none, none, .st 1 (.t 3) (.t 127)⟩]
def rCliquesEach1X18 : List O := [
  ⟨(some 128), none, .mv (.t 17)⟩,
  ⟨(some 129), none, .un .not (.t 128)⟩]
def rCliquesEach1X19 : List O := [
  ⟨(some 11), none, .mv (.k (.bool false))⟩]
def rCliquesEach1X20 : List O := [
  ⟨(some 61), none, .mv (.t 13)⟩,
  ⟨(some 62), none, .mv (.t 13)⟩,
  ⟨(some 63), none, .bin .sub (.t 62) (.k (.int .u64 1))⟩,
  ⟨(some 64), none, .bin .and (.t 61) (.t 63)⟩,
  ⟨(some 13), none, .mv (.t 64)⟩]
def lCliquesEach1X1 : C := (.seq (.seq (.reg rCliquesEach1X9 false [] [0, 1, 2, 3, 4, 6, 7, 13, 60]) (.cond (.t 60) .skip (.exit 2))) (.seq (.blk 3 (.seq (.reg rCliquesEach1X10 false [] [0, 1, 2, 3, 4, 6, 7, 13, 14]) (.seq (.reg rCliquesEach1X11 false [] [0, 1, 2, 3, 4, 6, 7, 13, 14, 15]) (.seq (.seq (.reg rCliquesEach1X12 false [] [0, 1, 2, 3, 4, 6, 7, 13, 14, 15, 84]) (.cond (.t 84) (.exit 3) .skip)) (.seq (.reg rCliquesEach1X13 false [] [0, 1, 2, 3, 4, 6, 7, 13, 14, 15]) (.seq (.reg rCliquesEach1X14 false [] [0, 1, 2, 3, 4, 6, 7, 13, 14, 15]) (.seq (.reg rCliquesEach1X15 false [] [0, 1, 2, 3, 4, 6, 7, 13, 14, 15, 16]) (.seq (.reg rCliquesEach1X16 true [(20, 20), (21, 21), (0, 1), (0, 2), (1, 2), (0, 3), (2, 3), (0, 4), (0, 5), (1, 5), (0, 6), (0, 7), (2, 7), (5, 7), (0, 8), (0, 9), (2, 9), (5, 9), (0, 10), (2, 10), (5, 10), (0, 11), (2, 11), (5, 11), (0, 12), (2, 12), (5, 12), (0, 13), (2, 13), (5, 13), (0, 14), (1, 14), (2, 14), (3, 14), (4, 14), (5, 14), (6, 14), (7, 14), (8, 14), (9, 14), (10, 14), (11, 14), (12, 14), (13, 14), (0, 15), (2, 15), (5, 15), (14, 15), (0, 16), (2, 16), (5, 16), (0, 17), (1, 17), (2, 17), (3, 17), (4, 17), (5, 17), (6, 17), (7, 17), (8, 17), (9, 17), (10, 17), (11, 17), (12, 17), (13, 17), (0, 18), (2, 18), (5, 18), (0, 19), (2, 19), (5, 19), (14, 19), (17, 19)] [0, 1, 2, 3, 4, 6, 7, 13, 17]) (.seq (.reg rCliquesEach1X17 false [] [0, 1, 2, 3, 4, 6, 7, 13, 17]) (.seq (.reg rCliquesEach1X18 false [] [0, 1, 2, 3, 4, 6, 7, 13, 129]) (.cond (.t 129) (.seq (.reg rCliquesEach1X19 false [] [11]) .ret) .skip))))))))))) (.reg rCliquesEach1X20 false [] [0, 1, 2, 3, 4, 6, 7, 13])))
def rCliquesEach1X21 : List O := [
  ⟨(some 11), none, .mv (.k (.bool true))⟩]
def cCliquesEach1 : C := (.seq (.reg rCliquesEach1X0 false [] [0, 1, 2, 3, 4, 5, 6, 7]) (.seq (.seq (.reg rCliquesEach1X1 false [] [0, 1, 2, 3, 4, 5, 6, 7, 19]) (.cond (.t 19) (.seq (.reg rCliquesEach1X2 true [(0, 0), (1, 1), (2, 2), (3, 3), (4, 4), (5, 5), (6, 6), (7, 7), (8, 8), (9, 9), (14, 14), (15, 15), (16, 16), (17, 17), (21, 21), (22, 22), (23, 23), (10, 12), (11, 12), (10, 13), (18, 19), (18, 20)] [11]) .ret) .skip)) (.seq (.seq (.reg rCliquesEach1X3 false [] [0, 1, 2, 3, 4, 6, 7, 12]) (.blk 0 (.loop lCliquesEach1X0))) (.seq (.seq (.reg rCliquesEach1X8 false [] [0, 1, 2, 3, 4, 6, 7, 13]) (.blk 2 (.loop lCliquesEach1X1))) (.seq (.reg rCliquesEach1X21 false [] [11]) .ret)))))
def qCliquesEach1 : AFn := ⟨130, 3, [.t 11], cCliquesEach1⟩
/- cohesion/cliques.all -/
def rCliquesAllN77X0 : List O := [
  ⟨(some 2), none, .mv (.k (.int .u64 0))⟩]
def rCliquesAllN77X1 : List O := [
  ⟨(some 3), none, .mv (.t 0)⟩,
  ⟨(some 4), none, .bin .shl (.k (.int .u64 1)) (.t 3)⟩,
  ⟨(some 5), none, .bin .sub (.t 4) (.k (.int .u64 1))⟩,
  ⟨(some 2), none, .mv (.t 5)⟩]
def cCliquesAllN77 : C := (.seq (.reg rCliquesAllN77X0 false [] [0]) (.seq (.reg rCliquesAllN77X1 false [] [2]) .ret))
def qCliquesAllN77 : AFn := ⟨6, 1, [.t 2], cCliquesAllN77⟩
/- cohesion/cohesionref03.ends -/
def rRef03EndsX0 : List O := [
  ⟨(some 6), none, .mv (.k (.bool false))⟩]
def rRef03EndsX1 : List O := [
  ⟨(some 7), none, .mv (.t 1)⟩,
  ⟨(some 8), none, .bin .geq (.t 7) (.k (.int .i64 0))⟩,
  ⟨(some 9), none, .mv (.t 8)⟩,
  ⟨(some 10), (some (9, true)), .mv (.t 2)⟩,
  ⟨(some 11), (some (9, true)), .bin .geq (.t 10) (.k (.int .i64 0))⟩,
  ⟨(some 12), none, .pick (.t 9) (.t 11) (.k (.bool false))⟩,
  ⟨(some 13), none, .mv (.t 12)⟩,
  ⟨(some 14), (some (13, true)), .mv (.t 1)⟩,
  ⟨(some 15), (some (13, true)), .mv (.t 0)⟩,
  ⟨(some 16), (some (13, true)), .bin .lss (.t 14) (.t 15)⟩,
  ⟨(some 17), none, .pick (.t 13) (.t 16) (.k (.bool false))⟩,
  ⟨(some 18), none, .mv (.t 17)⟩,
  ⟨(some 19), (some (18, true)), .mv (.t 2)⟩,
  ⟨(some 20), (some (18, true)), .mv (.t 0)⟩,
  ⟨(some 21), (some (18, true)), .bin .lss (.t 19) (.t 20)⟩,
  ⟨(some 22), none, .pick (.t 18) (.t 21) (.k (.bool false))⟩,
  ⟨(some 23), none, .mv (.t 22)⟩,
  ⟨(some 24), (some (23, true)), .mv (.t 1)⟩,
  ⟨(some 25), (some (23, true)), .mv (.t 2)⟩,
  ⟨(some 26), (some (23, true)), .bin .neq (.t 24) (.t 25)⟩,
  ⟨(some 27), none, .pick (.t 23) (.t 26) (.k (.bool false))⟩,
  ⟨(some 6), none, .mv (.t 27)⟩]
def cRef03Ends : C := (.seq (.reg rRef03EndsX0 false [] [0, 1, 2]) (.seq (.reg rRef03EndsX1 false [] [6]) .ret))
def qRef03Ends : AFn := ⟨28, 3, [.t 6], cRef03Ends⟩
/- cohesion/cohesionref03.with -/
def rRef03WithX0 : List O := [
  ⟨(some 3), none, .box (.t 1)⟩,
  ⟨(some 4), none, .mv (.k (.own 2 []))⟩]
def rRef03WithX1 : List O := [
  ⟨(some 5), none, .mv (.k (.int .i64 0))⟩]
def rRef03WithX2 : List O := [
  ⟨(some 7), none, .mv (.t 5)⟩,
  ⟨(some 8), none, .mv (.t 0)⟩,
  ⟨(some 9), none, .len (.t 8)⟩,
  ⟨(some 10), none, .bin .lss (.t 7) (.t 9)⟩,
  ⟨(some 11), none, .mv (.t 10)⟩,
  ⟨(some 12), (some (11, true)), .mv (.t 0)⟩,
  ⟨(some 13), (some (11, true)), .mv (.t 5)⟩,
  ⟨(some 14), (some (11, true)), .ixa 2 (.t 12) (.t 13)⟩,
  ⟨(some 15), (some (11, true)), .ld (some 2) (.t 14)⟩,
  ⟨(some 16), (some (11, true)), .ld (some 2) (.t 3)⟩,
  ⟨(some 17), (some (11, true)), .call nRef03Before [(.t 15), (.t 16)]⟩,
  ⟨(some 18), none, .pick (.t 11) (.t 17) (.k (.bool false))⟩]
def rRef03WithX3 : List O := [
  ⟨(some 19), none, .mv (.t 5)⟩,
  ⟨(some 20), none, .bin .add (.t 19) (.k (.int .i64 1))⟩,
  ⟨(some 5), none, .mv (.t 20)⟩]
def lRef03WithX0 : C := (.seq (.seq (.reg rRef03WithX2 true [(3, 3), (4, 4), (10, 10), (11, 11), (5, 9), (6, 9), (7, 9), (8, 9)] [0, 3, 5, 18]) (.cond (.t 18) .skip (.exit 0))) (.blk 1 (.reg rRef03WithX3 false [] [0, 3, 5])))
def rRef03WithX4 : List O := [
  ⟨(some 21), none, .mv (.t 5)⟩,
  ⟨(some 22), none, .mv (.t 0)⟩,
  ⟨(some 23), none, .len (.t 22)⟩,
  ⟨(some 24), none, .bin .lss (.t 21) (.t 23)⟩,
  ⟨(some 25), none, .mv (.t 24)⟩,
  ⟨(some 26), (some (25, true)), .mv (.t 0)⟩,
  ⟨(some 27), (some (25, true)), .mv (.t 5)⟩,
  ⟨(some 28), (some (25, true)), .ixa 2 (.t 26) (.t 27)⟩,
  ⟨(some 29), (some (25, true)), .ld (some 2) (.t 28)⟩,
  ⟨(some 30), (some (25, true)), .ld (some 2) (.t 3)⟩,
  ⟨(some 31), (some (25, true)), .eq false (.str [true, true]) (.t 29) (.t 30)⟩,
  ⟨(some 32), none, .pick (.t 25) (.t 31) (.k (.bool false))⟩]
def rRef03WithX5 : List O := [
  ⟨(some 33), none, .mv (.t 0)⟩,
  ⟨(some 4), none, .mv (.t 33)⟩]
def rRef03WithX6 : List O := [
  ⟨(some 34), none, .mv (.t 0)⟩,
  ⟨(some 35), none, .mv (.t 5)⟩,
  ⟨(some 36), none, .slc 2 (.t 34) none (some (.t 35))⟩,
  ⟨(some 37), none, .app 2 (.k (.own 2 [])) (.t 36)⟩,
  ⟨(some 6), none, .mv (.t 37)⟩]
def rRef03WithX7 : List O := [
  ⟨(some 38), none, .mv (.t 6)⟩,
  ⟨(some 39), none, .ld (some 2) (.t 3)⟩,
  ⟨(some 40), none, .bslice 2 1 [(.int .i64 0), (.int .i64 0)] [(0, 2, (.t 39))]⟩,
  ⟨(some 41), none, .app 2 (.t 38) (.t 40)⟩,
  ⟨(some 42), none, .mv (.t 0)⟩,
  ⟨(some 43), none, .mv (.t 5)⟩,
  ⟨(some 44), none, .slc 2 (.t 42) (some (.t 43)) none⟩,
  ⟨(some 45), none, .app 2 (.t 41) (.t 44)⟩,
  ⟨(some 4), none, .mv (.t 45)⟩]
def cRef03With : C := (.seq (.reg rRef03WithX0 false [] [0, 3]) (.seq (.reg rRef03WithX1 false [] [0, 3, 5]) (.seq (.blk 0 (.loop lRef03WithX0)) (.seq (.seq (.reg rRef03WithX4 true [(3, 3), (4, 4), (10, 10), (11, 11), (5, 9), (6, 9), (7, 9), (8, 9)] [0, 3, 5, 32]) (.cond (.t 32) (.seq (.reg rRef03WithX5 false [] [4]) .ret) .skip)) (.seq (.reg rRef03WithX6 false [] [0, 3, 5, 6]) (.seq (.reg rRef03WithX7 true [(7, 7), (8, 8), (0, 1), (0, 2), (1, 4), (2, 4), (3, 4), (1, 5), (2, 5), (3, 5), (1, 6), (2, 6), (3, 6)] [4]) .ret))))))
def qRef03With : AFn := ⟨46, 2, [.t 4], cRef03With⟩
/- cohesion/cohesionref03.edge -/
def rRef03EdgeX0 : List O := [
  ⟨(some 4), none, .new [(.int .i64 0), (.int .i64 0)]⟩]
def rRef03EdgeX1 : List O := [
  ⟨(some 5), none, .mv (.t 0)⟩,
  ⟨(some 6), none, .mv (.t 1)⟩,
  ⟨(some 7), none, .min [(.t 5), (.t 6)]⟩,
  ⟨(some 8), none, .mv (.t 0)⟩,
  ⟨(some 9), none, .mv (.t 1)⟩,
  ⟨(some 10), none, .max [(.t 8), (.t 9)]⟩,
  ⟨(some 11), none, .build [(.int .i64 0), (.int .i64 0)] [(0, 1, (.t 7)), (1, 1, (.t 10))]⟩,
  ⟨none, none, .st 2 (.t 4) (.t 11)⟩]
def cRef03Edge : C := (.seq (.reg rRef03EdgeX0 false [] [0, 1, 4]) (.seq (.reg rRef03EdgeX1 false [] [4]) .ret))
def qRef03Edge : AFn := ⟨12, 2, [.c 4 (some 2)], cRef03Edge⟩
/- cohesion/cohesionref03.Before -/
def rRef03BeforeX0 : List O := [
  ⟨(some 2), none, .box (.t 0)⟩,
  ⟨(some 3), none, .box (.t 1)⟩,
  ⟨(some 4), none, .mv (.k (.bool false))⟩]
def rRef03BeforeX1 : List O := [
  ⟨(some 5), none, .fad 0 (.t 2)⟩,
  ⟨(some 6), none, .ld none (.t 5)⟩,
  ⟨(some 7), none, .fad 0 (.t 3)⟩,
  ⟨(some 8), none, .ld none (.t 7)⟩,
  ⟨(some 9), none, .bin .lss (.t 6) (.t 8)⟩,
  ⟨(some 10), none, .mv (.t 9)⟩,
  ⟨(some 11), (some (10, false)), .fad 0 (.t 2)⟩,
  ⟨(some 12), (some (10, false)), .ld none (.t 11)⟩,
  ⟨(some 13), (some (10, false)), .fad 0 (.t 3)⟩,
  ⟨(some 14), (some (10, false)), .ld none (.t 13)⟩,
  ⟨(some 15), (some (10, false)), .bin .eql (.t 12) (.t 14)⟩,
  ⟨(some 16), (some (10, false)), .mv (.t 15)⟩,
  ⟨(some 17), (some (16, true)), .fad 1 (.t 2)⟩,
  ⟨(some 18), (some (16, true)), .ld none (.t 17)⟩,
  ⟨(some 19), (some (16, true)), .fad 1 (.t 3)⟩,
  ⟨(some 20), (some (16, true)), .ld none (.t 19)⟩,
  ⟨(some 21), (some (16, true)), .bin .lss (.t 18) (.t 20)⟩,
  ⟨(some 22), (some (10, false)), .pick (.t 16) (.t 21) (.k (.bool false))⟩,
  ⟨(some 23), none, .pick (.t 10) (.k (.bool true)) (.t 22)⟩,
  ⟨(some 4), none, .mv (.t 23)⟩]
def cRef03Before : C := (.seq (.reg rRef03BeforeX0 false [] [2, 3]) (.seq (.reg rRef03BeforeX1 false [] [4]) .ret))
def qRef03Before : AFn := ⟨24, 2, [.t 4], cRef03Before⟩
/- cmp.Or[int] -/
def rCmpOrIntX0 : List O := [
  ⟨(some 2), none, .mv (.k (.int .i64 0))⟩]
def rCmpOrIntX1 : List O := [
  ⟨(some 3), none, .mv (.k (.int .i64 0))⟩]
def rCmpOrIntX2 : List O := [
  ⟨(some 6), none, .mv (.t 0)⟩,
  ⟨(some 7), none, .len (.t 6)⟩,
  ⟨(some 8), none, .mv (.k (.int .i64 0))⟩]
def rCmpOrIntX3 : List O := [
  ⟨(some 9), none, .bin .lss (.t 8) (.t 7)⟩]
def rCmpOrIntX4 : List O := [
  ⟨(some 10), none, .ixa 1 (.t 6) (.t 8)⟩,
  ⟨(some 11), none, .ld none (.t 10)⟩,
  ⟨(some 5), none, .mv (.t 11)⟩]
def rCmpOrIntX5 : List O := [
  ⟨(some 12), none, .mv (.t 5)⟩,
  ⟨(some 13), none, .mv (.t 3)⟩,
  ⟨(some 14), none, .bin .neq (.t 12) (.t 13)⟩]
def rCmpOrIntX6 : List O := [
  ⟨(some 15), none, .mv (.t 5)⟩,
  ⟨(some 2), none, .mv (.t 15)⟩]
def rCmpOrIntX7 : List O := [
  ⟨(some 16), none, .bin .add (.t 8) (.k (.int .i64 1))⟩,
  ⟨(some 8), none, .mv (.t 16)⟩]
def lCmpOrIntX0 : C := (.seq (.reg rCmpOrIntX3 false [] [3, 6, 7, 8, 9]) (.seq (.cond (.t 9) .skip (.exit 0)) (.seq (.blk 1 (.seq (.reg rCmpOrIntX4 false [] [3, 5, 6, 7, 8]) (.seq (.reg rCmpOrIntX5 false [] [3, 5, 6, 7, 8, 14]) (.cond (.t 14) (.seq (.reg rCmpOrIntX6 false [] [2]) .ret) .skip)))) (.reg rCmpOrIntX7 false [] [3, 6, 7, 8]))))
def rCmpOrIntX8 : List O := [
  ⟨(some 17), none, .mv (.t 3)⟩,
  ⟨(some 2), none, .mv (.t 17)⟩]
def cCmpOrInt : C := (.seq (.reg rCmpOrIntX0 false [] [0]) (.seq (.reg rCmpOrIntX1 false [] [0, 3]) (.seq (.seq (.reg rCmpOrIntX2 false [] [3, 6, 7, 8]) (.blk 0 (.loop lCmpOrIntX0))) (.seq (.reg rCmpOrIntX8 false [] [2]) .ret))))
def qCmpOrInt : AFn := ⟨18, 1, [.t 2], cCmpOrInt⟩
/- cmp.Compare[int] -/
def rCmpCompareIntX0 : List O := [
  ⟨(some 4), none, .mv (.k (.int .i64 0))⟩]
def rCmpCompareIntX1 : List O := [
  ⟨(some 7), none, .mv (.t 0)⟩,
  ⟨(some 8), none, .call nCmpIsNaNInt [(.t 7)]⟩,
  ⟨(some 5), none, .mv (.t 8)⟩]
def rCmpCompareIntX2 : List O := [
  ⟨(some 9), none, .mv (.t 1)⟩,
  ⟨(some 10), none, .call nCmpIsNaNInt [(.t 9)]⟩,
  ⟨(some 6), none, .mv (.t 10)⟩]
def rCmpCompareIntX3 : List O := [
  ⟨(some 11), none, .mv (.t 5)⟩]
def rCmpCompareIntX4 : List O := [
  ⟨(some 12), none, .mv (.t 6)⟩]
def rCmpCompareIntX5 : List O := [
  ⟨(some 4), none, .mv (.k (.int .i64 0))⟩]
def rCmpCompareIntX6 : List O := [
  ⟨(some 4), none, .mv (.k (.int .i64 (-1)))⟩]
def rCmpCompareIntX7 : List O := [
  ⟨(some 13), none, .mv (.t 6)⟩]
def rCmpCompareIntX8 : List O := [
  ⟨(some 4), none, .mv (.k (.int .i64 1))⟩]
def rCmpCompareIntX9 : List O := [
  ⟨(some 14), none, .mv (.t 0)⟩,
  ⟨(some 15), none, .mv (.t 1)⟩,
  ⟨(some 16), none, .bin .lss (.t 14) (.t 15)⟩]
def rCmpCompareIntX10 : List O := [
  ⟨(some 4), none, .mv (.k (.int .i64 (-1)))⟩]
def rCmpCompareIntX11 : List O := [
  ⟨(some 17), none, .mv (.t 0)⟩,
  ⟨(some 18), none, .mv (.t 1)⟩,
  ⟨(some 19), none, .bin .gtr (.t 17) (.t 18)⟩]
def rCmpCompareIntX12 : List O := [
  ⟨(some 4), none, .mv (.k (.int .i64 1))⟩]
def rCmpCompareIntX13 : List O := [
  ⟨(some 4), none, .mv (.k (.int .i64 0))⟩]
def cCmpCompareInt : C := (.seq (.reg rCmpCompareIntX0 false [] [0, 1]) (.seq (.reg rCmpCompareIntX1 false [] [0, 1, 5]) (.seq (.reg rCmpCompareIntX2 false [] [0, 1, 5, 6]) (.seq (.seq (.reg rCmpCompareIntX3 false [] [0, 1, 6, 11]) (.cond (.t 11) (.seq (.seq (.reg rCmpCompareIntX4 false [] [12]) (.cond (.t 12) (.seq (.reg rCmpCompareIntX5 false [] [4]) .ret) .skip)) (.seq (.reg rCmpCompareIntX6 false [] [4]) .ret)) .skip)) (.seq (.seq (.reg rCmpCompareIntX7 false [] [0, 1, 13]) (.cond (.t 13) (.seq (.reg rCmpCompareIntX8 false [] [4]) .ret) .skip)) (.seq (.seq (.reg rCmpCompareIntX9 false [] [0, 1, 16]) (.cond (.t 16) (.seq (.reg rCmpCompareIntX10 false [] [4]) .ret) .skip)) (.seq (.seq (.reg rCmpCompareIntX11 false [] [19]) (.cond (.t 19) (.seq (.reg rCmpCompareIntX12 false [] [4]) .ret) .skip)) (.seq (.reg rCmpCompareIntX13 false [] [4]) .ret))))))))
def qCmpCompareInt : AFn := ⟨20, 2, [.t 4], cCmpCompareInt⟩
/- cmp.isNaN[int] -/
def rCmpIsNaNIntX0 : List O := [
  ⟨(some 2), none, .mv (.k (.bool false))⟩]
def rCmpIsNaNIntX1 : List O := [
  ⟨(some 3), none, .mv (.t 0)⟩,
  ⟨(some 4), none, .mv (.t 0)⟩,
  ⟨(some 5), none, .bin .neq (.t 3) (.t 4)⟩,
  ⟨(some 2), none, .mv (.t 5)⟩]
def cCmpIsNaNInt : C := (.seq (.reg rCmpIsNaNIntX0 false [] [0]) (.seq (.reg rCmpIsNaNIntX1 false [] [2]) .ret))
def qCmpIsNaNInt : AFn := ⟨6, 1, [.t 2], cCmpIsNaNInt⟩
abbrev Md := Go.Bm.Md
abbrev Cfg := Go.Bm.Cfg
def look : List (Nat × Md × AFn) → Nat → Option (Md × AFn)
  | [], _ => none
  | (j, m, q) :: r, i => if i = j then some (m, q) else look r i
def fns : List (Nat × Md × AFn) := [
  (nLaw24CliquesGoes, ⟨false, false, true⟩, qLaw24CliquesGoes),
  (nCliquesAll, ⟨false, false, false⟩, qCliquesAll),
  (nLaw24Awake, ⟨false, false, true⟩, qLaw24Awake),
  (nMakeFew, ⟨false, false, true⟩, qMakeFew),
  (nMakeNew, ⟨true, false, false⟩, qMakeNew),
  (nMakeGraph, ⟨true, false, false⟩, qMakeGraph),
  (nRef02Cmp, ⟨false, false, true⟩, qRef02Cmp),
  (nCliquesNext, ⟨false, false, false⟩, qCliquesNext),
  (nCliquesCheck, ⟨false, false, true⟩, qCliquesCheck),
  (nMakeDeckNext, ⟨true, false, false⟩, qMakeDeckNext),
  (nCliquesExtend, ⟨false, false, false⟩, qCliquesExtend),
  (nCliquesIs, ⟨false, false, true⟩, qCliquesIs),
  (nGraphCheck, ⟨false, false, true⟩, qGraphCheck),
  (nCliquesEach, ⟨true, false, false⟩, qCliquesEach),
  (nCliquesAll1, ⟨true, false, false⟩, qCliquesAll1),
  (nRef03Of, ⟨false, false, false⟩, qRef03Of),
  (nCliquesNext1, ⟨true, false, false⟩, qCliquesNext1),
  (nCliquesCheck1, ⟨true, false, false⟩, qCliquesCheck1),
  (nSlicesEqualIntInt, ⟨false, false, true⟩, qSlicesEqualIntInt),
  (nMakeMod, ⟨false, false, true⟩, qMakeMod),
  (nCliquesMasks, ⟨false, false, false⟩, qCliquesMasks),
  (nSlicesCloneIntInt, ⟨false, true, true⟩, qSlicesCloneIntInt),
  (nCliquesCommon, ⟨false, false, true⟩, qCliquesCommon),
  (nMathBitsTrailingZeros64, ⟨false, false, true⟩, qMathBitsTrailingZeros64),
  (nSlicesSortIntInt, ⟨false, false, true⟩, qSlicesSortIntInt),
  (nNodesetValid, ⟨false, false, true⟩, qNodesetValid),
  (nCliquesClique, ⟨false, false, true⟩, qCliquesClique),
  (nGraphOrder, ⟨false, false, true⟩, qGraphOrder),
  (nCliquesEach1, ⟨true, false, false⟩, qCliquesEach1),
  (nCliquesAllN77, ⟨false, false, true⟩, qCliquesAllN77),
  (nRef03Ends, ⟨false, false, true⟩, qRef03Ends),
  (nRef03With, ⟨false, false, false⟩, qRef03With),
  (nRef03Edge, ⟨false, false, false⟩, qRef03Edge),
  (nRef03Before, ⟨false, false, true⟩, qRef03Before),
  (nCmpOrInt, ⟨false, false, true⟩, qCmpOrInt),
  (nCmpCompareInt, ⟨false, false, true⟩, qCmpCompareInt),
  (nCmpIsNaNInt, ⟨false, false, true⟩, qCmpIsNaNInt)]
def nTab : Nat := 0
def tabZ : List Int := [0, 1, 56, 2, 57, 49, 28, 3, 61, 58, 42, 50, 38, 29, 17, 4, 62, 47, 59, 36, 45, 43, 51, 22, 53, 39, 33, 30, 24, 18, 12, 5, 63, 55, 48, 27, 60, 41, 37, 16, 46, 35, 44, 21, 52, 32, 23, 11, 54, 26, 40, 15, 34, 20, 31, 10, 25, 14, 19, 9, 13, 8, 7, 6]
def tabA : List AV := tabZ.map (AV.int .u8)
def cfg : Cfg := ⟨look fns, fun i => if i = nTab then tabA else [], fun _ => none, fun _ => none⟩
theorem kLaw24CliquesGoes : chkFB Go.Proofs.Tryd.prog Go.Proofs.Tryd.f5 qLaw24CliquesGoes = true := by kernel_rfl
theorem kCliquesAll : chkFB Go.Proofs.Tryd.prog Go.Proofs.Tryd.f10 qCliquesAll = true := by kernel_rfl
theorem kLaw24Awake : chkFB Go.Proofs.Tryd.prog Go.Proofs.Tryd.f11 qLaw24Awake = true := by kernel_rfl
theorem kMakeFew : chkFB Go.Proofs.Tryd.prog Go.Proofs.Tryd.f12 qMakeFew = true := by kernel_rfl
theorem kMakeNew : chkFB Go.Proofs.Tryd.prog Go.Proofs.Tryd.f13 qMakeNew = true := by kernel_rfl
theorem kMakeGraph : chkFB Go.Proofs.Tryd.prog Go.Proofs.Tryd.f14 qMakeGraph = true := by kernel_rfl
theorem kRef02Cmp : chkFB Go.Proofs.Tryd.prog Go.Proofs.Tryd.f17 qRef02Cmp = true := by kernel_rfl
theorem kCliquesNext : chkFB Go.Proofs.Tryd.prog Go.Proofs.Tryd.f19 qCliquesNext = true := by kernel_rfl
theorem kCliquesCheck : chkFB Go.Proofs.Tryd.prog Go.Proofs.Tryd.f20 qCliquesCheck = true := by kernel_rfl
theorem kMakeDeckNext : chkFB Go.Proofs.Tryd.prog Go.Proofs.Tryd.f21 qMakeDeckNext = true := by kernel_rfl
theorem kCliquesExtend : chkFB Go.Proofs.Tryd.prog Go.Proofs.Tryd.f25 qCliquesExtend = true := by kernel_rfl
theorem kCliquesIs : chkFB Go.Proofs.Tryd.prog Go.Proofs.Tryd.f28 qCliquesIs = true := by kernel_rfl
theorem kGraphCheck : chkFB Go.Proofs.Tryd.prog Go.Proofs.Tryd.f44 qGraphCheck = true := by kernel_rfl
theorem kCliquesEach : chkFB Go.Proofs.Tryd.prog Go.Proofs.Tryd.f45 qCliquesEach = true := by kernel_rfl
theorem kCliquesAll1 : chkFB Go.Proofs.Tryd.prog Go.Proofs.Tryd.f46 qCliquesAll1 = true := by kernel_rfl
theorem kRef03Of : chkFB Go.Proofs.Tryd.prog Go.Proofs.Tryd.f47 qRef03Of = true := by kernel_rfl
theorem kCliquesNext1 : chkFB Go.Proofs.Tryd.prog Go.Proofs.Tryd.f49 qCliquesNext1 = true := by kernel_rfl
theorem kCliquesCheck1 : chkFB Go.Proofs.Tryd.prog Go.Proofs.Tryd.f50 qCliquesCheck1 = true := by kernel_rfl
theorem kSlicesEqualIntInt : chkFB Go.Proofs.Tryd.prog Go.Proofs.Tryd.f51 qSlicesEqualIntInt = true := by kernel_rfl
theorem kMakeMod : chkFB Go.Proofs.Tryd.prog Go.Proofs.Tryd.f52 qMakeMod = true := by kernel_rfl
theorem kCliquesMasks : chkFB Go.Proofs.Tryd.prog Go.Proofs.Tryd.f53 qCliquesMasks = true := by kernel_rfl
theorem kSlicesCloneIntInt : chkFB Go.Proofs.Tryd.prog Go.Proofs.Tryd.f54 qSlicesCloneIntInt = true := by kernel_rfl
theorem kCliquesCommon : chkFB Go.Proofs.Tryd.prog Go.Proofs.Tryd.f55 qCliquesCommon = true := by kernel_rfl
theorem kMathBitsTrailingZeros64 : chkFB Go.Proofs.Tryd.prog Go.Proofs.Tryd.f56 qMathBitsTrailingZeros64 = true := by kernel_rfl
theorem kSlicesSortIntInt : chkFB Go.Proofs.Tryd.prog Go.Proofs.Tryd.f57 qSlicesSortIntInt = true := by kernel_rfl
theorem kNodesetValid : chkFB Go.Proofs.Tryd.prog Go.Proofs.Tryd.f61 qNodesetValid = true := by kernel_rfl
theorem kCliquesClique : chkFB Go.Proofs.Tryd.prog Go.Proofs.Tryd.f62 qCliquesClique = true := by kernel_rfl
theorem kGraphOrder : chkFB Go.Proofs.Tryd.prog Go.Proofs.Tryd.f73 qGraphOrder = true := by kernel_rfl
theorem kCliquesEach1 : chkFB Go.Proofs.Tryd.prog Go.Proofs.Tryd.f76 qCliquesEach1 = true := by kernel_rfl
theorem kCliquesAllN77 : chkFB Go.Proofs.Tryd.prog Go.Proofs.Tryd.f77 qCliquesAllN77 = true := by kernel_rfl
theorem kRef03Ends : chkFB Go.Proofs.Tryd.prog Go.Proofs.Tryd.f78 qRef03Ends = true := by kernel_rfl
theorem kRef03With : chkFB Go.Proofs.Tryd.prog Go.Proofs.Tryd.f79 qRef03With = true := by kernel_rfl
theorem kRef03Edge : chkFB Go.Proofs.Tryd.prog Go.Proofs.Tryd.f80 qRef03Edge = true := by kernel_rfl
theorem kRef03Before : chkFB Go.Proofs.Tryd.prog Go.Proofs.Tryd.f83 qRef03Before = true := by kernel_rfl
theorem kCmpOrInt : chkFB Go.Proofs.Tryd.prog Go.Proofs.Tryd.f91 qCmpOrInt = true := by kernel_rfl
theorem kCmpCompareInt : chkFB Go.Proofs.Tryd.prog Go.Proofs.Tryd.f92 qCmpCompareInt = true := by kernel_rfl
theorem kCmpIsNaNInt : chkFB Go.Proofs.Tryd.prog Go.Proofs.Tryd.f113 qCmpIsNaNInt = true := by kernel_rfl
theorem look_mem : ∀ {l : List (Nat × Md × AFn)} {f : Nat} {m : Md} {q : AFn}, look l f = some (m, q) → (f, m, q) ∈ l
  | [], f, m, q, h => by simp [look] at h
  | (j, m', q') :: r, f, m, q, h => by
    unfold look at h
    split at h
    · rename_i he; subst he; simp at h; obtain ⟨rfl, rfl⟩ := h; simp
    · exact List.mem_cons_of_mem _ (look_mem h)
def Good (p : Nat × Md × AFn) : Prop := ∃ fn, Go.Proofs.Tryd.prog.funcs[p.1]? = some fn ∧ chkFB Go.Proofs.Tryd.prog fn p.2.2 = true
def All (G : Nat × Md × AFn → Prop) : List (Nat × Md × AFn) → Prop
  | [] => True
  | p :: r => G p ∧ All G r
theorem All.get {G : Nat × Md × AFn → Prop} : ∀ {l : List (Nat × Md × AFn)}, All G l → ∀ p ∈ l, G p
  | [], _, p, h => by simp at h
  | q :: r, h, p, hp => by
    rcases List.mem_cons.1 hp with e | e
    · subst e; exact h.1
    · exact All.get h.2 p e
theorem allGood : All Good fns := ⟨⟨_, Go.Proofs.Tryd.func5, kLaw24CliquesGoes⟩, ⟨_, Go.Proofs.Tryd.func10, kCliquesAll⟩, ⟨_, Go.Proofs.Tryd.func11, kLaw24Awake⟩, ⟨_, Go.Proofs.Tryd.func12, kMakeFew⟩, ⟨_, Go.Proofs.Tryd.func13, kMakeNew⟩, ⟨_, Go.Proofs.Tryd.func14, kMakeGraph⟩, ⟨_, Go.Proofs.Tryd.func17, kRef02Cmp⟩, ⟨_, Go.Proofs.Tryd.func19, kCliquesNext⟩, ⟨_, Go.Proofs.Tryd.func20, kCliquesCheck⟩, ⟨_, Go.Proofs.Tryd.func21, kMakeDeckNext⟩, ⟨_, Go.Proofs.Tryd.func25, kCliquesExtend⟩, ⟨_, Go.Proofs.Tryd.func28, kCliquesIs⟩, ⟨_, Go.Proofs.Tryd.func44, kGraphCheck⟩, ⟨_, Go.Proofs.Tryd.func45, kCliquesEach⟩, ⟨_, Go.Proofs.Tryd.func46, kCliquesAll1⟩, ⟨_, Go.Proofs.Tryd.func47, kRef03Of⟩, ⟨_, Go.Proofs.Tryd.func49, kCliquesNext1⟩, ⟨_, Go.Proofs.Tryd.func50, kCliquesCheck1⟩, ⟨_, Go.Proofs.Tryd.func51, kSlicesEqualIntInt⟩, ⟨_, Go.Proofs.Tryd.func52, kMakeMod⟩, ⟨_, Go.Proofs.Tryd.func53, kCliquesMasks⟩, ⟨_, Go.Proofs.Tryd.func54, kSlicesCloneIntInt⟩, ⟨_, Go.Proofs.Tryd.func55, kCliquesCommon⟩, ⟨_, Go.Proofs.Tryd.func56, kMathBitsTrailingZeros64⟩, ⟨_, Go.Proofs.Tryd.func57, kSlicesSortIntInt⟩, ⟨_, Go.Proofs.Tryd.func61, kNodesetValid⟩, ⟨_, Go.Proofs.Tryd.func62, kCliquesClique⟩, ⟨_, Go.Proofs.Tryd.func73, kGraphOrder⟩, ⟨_, Go.Proofs.Tryd.func76, kCliquesEach1⟩, ⟨_, Go.Proofs.Tryd.func77, kCliquesAllN77⟩, ⟨_, Go.Proofs.Tryd.func78, kRef03Ends⟩, ⟨_, Go.Proofs.Tryd.func79, kRef03With⟩, ⟨_, Go.Proofs.Tryd.func80, kRef03Edge⟩, ⟨_, Go.Proofs.Tryd.func83, kRef03Before⟩, ⟨_, Go.Proofs.Tryd.func91, kCmpOrInt⟩, ⟨_, Go.Proofs.Tryd.func92, kCmpCompareInt⟩, ⟨_, Go.Proofs.Tryd.func113, kCmpIsNaNInt⟩, trivial⟩
theorem cfgOK : CfgOKB Go.Proofs.Tryd.prog cfg := ⟨by kernel_rfl, fun f m q h => allGood.get _ (look_mem h)⟩
theorem gLaw24CliquesGoes : cfg.fn nLaw24CliquesGoes = some (⟨false, false, true⟩, qLaw24CliquesGoes) := rfl
theorem gCliquesAll : cfg.fn nCliquesAll = some (⟨false, false, false⟩, qCliquesAll) := rfl
theorem gLaw24Awake : cfg.fn nLaw24Awake = some (⟨false, false, true⟩, qLaw24Awake) := rfl
theorem gMakeFew : cfg.fn nMakeFew = some (⟨false, false, true⟩, qMakeFew) := rfl
theorem gMakeNew : cfg.fn nMakeNew = some (⟨true, false, false⟩, qMakeNew) := rfl
theorem gMakeGraph : cfg.fn nMakeGraph = some (⟨true, false, false⟩, qMakeGraph) := rfl
theorem gRef02Cmp : cfg.fn nRef02Cmp = some (⟨false, false, true⟩, qRef02Cmp) := rfl
theorem gCliquesNext : cfg.fn nCliquesNext = some (⟨false, false, false⟩, qCliquesNext) := rfl
theorem gCliquesCheck : cfg.fn nCliquesCheck = some (⟨false, false, true⟩, qCliquesCheck) := rfl
theorem gMakeDeckNext : cfg.fn nMakeDeckNext = some (⟨true, false, false⟩, qMakeDeckNext) := rfl
theorem gCliquesExtend : cfg.fn nCliquesExtend = some (⟨false, false, false⟩, qCliquesExtend) := rfl
theorem gCliquesIs : cfg.fn nCliquesIs = some (⟨false, false, true⟩, qCliquesIs) := rfl
theorem gGraphCheck : cfg.fn nGraphCheck = some (⟨false, false, true⟩, qGraphCheck) := rfl
theorem gCliquesEach : cfg.fn nCliquesEach = some (⟨true, false, false⟩, qCliquesEach) := rfl
theorem gCliquesAll1 : cfg.fn nCliquesAll1 = some (⟨true, false, false⟩, qCliquesAll1) := rfl
theorem gRef03Of : cfg.fn nRef03Of = some (⟨false, false, false⟩, qRef03Of) := rfl
theorem gCliquesNext1 : cfg.fn nCliquesNext1 = some (⟨true, false, false⟩, qCliquesNext1) := rfl
theorem gCliquesCheck1 : cfg.fn nCliquesCheck1 = some (⟨true, false, false⟩, qCliquesCheck1) := rfl
theorem gSlicesEqualIntInt : cfg.fn nSlicesEqualIntInt = some (⟨false, false, true⟩, qSlicesEqualIntInt) := rfl
theorem gMakeMod : cfg.fn nMakeMod = some (⟨false, false, true⟩, qMakeMod) := rfl
theorem gCliquesMasks : cfg.fn nCliquesMasks = some (⟨false, false, false⟩, qCliquesMasks) := rfl
theorem gSlicesCloneIntInt : cfg.fn nSlicesCloneIntInt = some (⟨false, true, true⟩, qSlicesCloneIntInt) := rfl
theorem gCliquesCommon : cfg.fn nCliquesCommon = some (⟨false, false, true⟩, qCliquesCommon) := rfl
theorem gMathBitsTrailingZeros64 : cfg.fn nMathBitsTrailingZeros64 = some (⟨false, false, true⟩, qMathBitsTrailingZeros64) := rfl
theorem gSlicesSortIntInt : cfg.fn nSlicesSortIntInt = some (⟨false, false, true⟩, qSlicesSortIntInt) := rfl
theorem gNodesetValid : cfg.fn nNodesetValid = some (⟨false, false, true⟩, qNodesetValid) := rfl
theorem gCliquesClique : cfg.fn nCliquesClique = some (⟨false, false, true⟩, qCliquesClique) := rfl
theorem gGraphOrder : cfg.fn nGraphOrder = some (⟨false, false, true⟩, qGraphOrder) := rfl
theorem gCliquesEach1 : cfg.fn nCliquesEach1 = some (⟨true, false, false⟩, qCliquesEach1) := rfl
theorem gCliquesAllN77 : cfg.fn nCliquesAllN77 = some (⟨false, false, true⟩, qCliquesAllN77) := rfl
theorem gRef03Ends : cfg.fn nRef03Ends = some (⟨false, false, true⟩, qRef03Ends) := rfl
theorem gRef03With : cfg.fn nRef03With = some (⟨false, false, false⟩, qRef03With) := rfl
theorem gRef03Edge : cfg.fn nRef03Edge = some (⟨false, false, false⟩, qRef03Edge) := rfl
theorem gRef03Before : cfg.fn nRef03Before = some (⟨false, false, true⟩, qRef03Before) := rfl
theorem gCmpOrInt : cfg.fn nCmpOrInt = some (⟨false, false, true⟩, qCmpOrInt) := rfl
theorem gCmpCompareInt : cfg.fn nCmpCompareInt = some (⟨false, false, true⟩, qCmpCompareInt) := rfl
theorem gCmpIsNaNInt : cfg.fn nCmpIsNaNInt = some (⟨false, false, true⟩, qCmpIsNaNInt) := rfl
end Go.BmP
