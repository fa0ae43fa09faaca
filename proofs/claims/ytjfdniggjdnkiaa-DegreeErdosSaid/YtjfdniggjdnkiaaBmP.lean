/- The compact code of the functions, printed by program off the translation. -/
import Derived.Test.YtjfdniggjdnkiaaChecked
import Derived.Test.YtjfdniggjdnkiaaBmA
import Derived.KernelRfl
set_option maxRecDepth 100000
namespace Go.BmP
open Go.Am Go.Bm
def nLaw09DegreeErdos : Nat := 3
def nMakeMod : Nat := 8
def nDegreeGraphic : Nat := 9
def nLaw09Awake : Nat := 10
def nDegreeH : Nat := 11
def nDegreeDegrees : Nat := 14
def nRef02Same : Nat := 20
def nDegreeRealiseN29 : Nat := 29
def nSlicesCloneIntInt : Nat := 30
def nSlicesSortIntInt : Nat := 31
def nGraphCheck : Nat := 32
def nMasksRows : Nat := 33
def nMasksCount : Nat := 34
def nRef02Cmp : Nat := 39
def nGraphOrder : Nat := 49
def nMathBitsOnesCount64 : Nat := 50
def nCmpOrInt : Nat := 72
def nCmpCompareInt : Nat := 73
def nCmpIsNaNInt : Nat := 89
/- cohesion/cohesionlaw09.DegreeErdos -/
def rLaw09DegreeErdosX0 : List O := [
  ⟨(some 2), none, .mv (.k (.bool false))⟩]
def rLaw09DegreeErdosX1 : List O := [
  ⟨(some 3), none, .mv (.k (.own 1 []))⟩]
def rLaw09DegreeErdosX2 : List O := [
  ⟨(some 4), none, .mv (.k (.int .i64 0))⟩]
def rLaw09DegreeErdosX3 : List O := [
  ⟨(some 15), none, .mv (.t 4)⟩,
  ⟨(some 16), none, .mv (.t 0)⟩,
  ⟨(some 17), none, .len (.t 16)⟩,
  ⟨(some 18), none, .bin .lss (.t 15) (.t 17)⟩,
  ⟨(some 19), none, .mv (.t 18)⟩,
  ⟨(some 20), (some (19, true)), .mv (.t 4)⟩,
  ⟨(some 21), (some (19, true)), .bin .lss (.t 20) (.k (.int .i64 12))⟩,
  ⟨(some 22), none, .pick (.t 19) (.t 21) (.k (.bool false))⟩]
def rLaw09DegreeErdosX4 : List O := [
  ⟨(some 25), none, .mv (.t 3)⟩,
  ⟨(some 26), none, .mv (.t 0)⟩,
  ⟨(some 27), none, .mv (.t 4)⟩,
  ⟨(some 28), none, .ixa 1 (.t 26) (.t 27)⟩,
  ⟨(some 29), none, .ld none (.t 28)⟩,
  ⟨(some 30), none, .call nMakeMod [(.t 29), (.k (.int .i64 8))]⟩,
  ⟨(some 31), none, .bslice 1 1 [(.int .i64 0)] [(0, 1, (.t 30))]⟩,
  ⟨(some 32), none, .app 1 (.t 25) (.t 31)⟩,
  ⟨(some 3), none, .mv (.t 32)⟩]
def rLaw09DegreeErdosX5 : List O := [
  ⟨(some 23), none, .mv (.t 4)⟩,
  ⟨(some 24), none, .bin .add (.t 23) (.k (.int .i64 1))⟩,
  ⟨(some 4), none, .mv (.t 24)⟩]
def lLaw09DegreeErdosX0 : C := (.seq (.seq (.reg rLaw09DegreeErdosX3 false [] [0, 3, 4, 22]) (.cond (.t 22) .skip (.exit 0))) (.seq (.blk 1 (.reg rLaw09DegreeErdosX4 false [] [0, 3, 4])) (.reg rLaw09DegreeErdosX5 false [] [0, 3, 4])))
def rLaw09DegreeErdosX6 : List O := [
  ⟨(some 33), none, .mv (.t 3)⟩,
  ⟨(some 34), none, .app 1 (.k (.own 1 [])) (.t 33)⟩,
  ⟨(some 5), none, .mv (.t 34)⟩]
def rLaw09DegreeErdosX7 : List O := [
  ⟨(some 6), none, .mv (.k (.int .i64 0))⟩]
def rLaw09DegreeErdosX8 : List O := [
  ⟨(some 35), none, .mv (.t 5)⟩,
  ⟨(some 36), none, .len (.t 35)⟩,
  ⟨(some 37), none, .mv (.k (.int .i64 0))⟩]
def rLaw09DegreeErdosX9 : List O := [
  ⟨(some 38), none, .bin .lss (.t 37) (.t 36)⟩]
def rLaw09DegreeErdosX10 : List O := [
  ⟨(some 39), none, .mv (.t 37)⟩,
  ⟨(some 7), none, .mv (.t 39)⟩]
def rLaw09DegreeErdosX11 : List O := [
  ⟨(some 40), none, .mv (.t 6)⟩,
  ⟨(some 41), none, .mv (.t 5)⟩,
  ⟨(some 42), none, .mv (.t 7)⟩,
  ⟨(some 43), none, .ixa 1 (.t 41) (.t 42)⟩,
  ⟨(some 44), none, .ld none (.t 43)⟩,
  ⟨(some 45), none, .bin .add (.t 40) (.t 44)⟩,
  ⟨(some 6), none, .mv (.t 45)⟩]
def rLaw09DegreeErdosX12 : List O := [
  ⟨(some 46), none, .mv (.t 7)⟩,
  ⟨(some 8), none, .mv (.t 46)⟩]
def rLaw09DegreeErdosX13 : List O := [
  ⟨(some 47), none, .mv (.t 8)⟩,
  ⟨(some 48), none, .bin .gtr (.t 47) (.k (.int .i64 0))⟩,
  ⟨(some 49), none, .mv (.t 48)⟩,
  ⟨(some 50), (some (49, true)), .mv (.t 5)⟩,
  ⟨(some 51), (some (49, true)), .mv (.t 8)⟩,
  ⟨(some 52), (some (49, true)), .bin .sub (.t 51) (.k (.int .i64 1))⟩,
  ⟨(some 53), (some (49, true)), .ixa 1 (.t 50) (.t 52)⟩,
  ⟨(some 54), (some (49, true)), .ld none (.t 53)⟩,
  ⟨(some 55), (some (49, true)), .mv (.t 5)⟩,
  ⟨(some 56), (some (49, true)), .mv (.t 8)⟩,
  ⟨(some 57), (some (49, true)), .ixa 1 (.t 55) (.t 56)⟩,
  ⟨(some 58), (some (49, true)), .ld none (.t 57)⟩,
  ⟨(some 59), (some (49, true)), .bin .lss (.t 54) (.t 58)⟩,
  ⟨(some 60), none, .pick (.t 49) (.t 59) (.k (.bool false))⟩]
def rLaw09DegreeErdosX14 : List O := [
  ⟨(some 63), none, .mv (.t 5)⟩,
  ⟨(some 64), none, .mv (.t 8)⟩,
  ⟨(some 65), none, .bin .sub (.t 64) (.k (.int .i64 1))⟩,
  ⟨(some 66), none, .mv (.t 5)⟩,
  ⟨(some 67), none, .mv (.t 8)⟩,
  ⟨(some 68), none, .mv (.t 5)⟩,
  ⟨(some 69), none, .mv (.t 8)⟩,
  ⟨(some 70), none, .ixa 1 (.t 68) (.t 69)⟩,
  ⟨(some 71), none, .ld none (.t 70)⟩,
  ⟨(some 72), none, .mv (.t 5)⟩,
  ⟨(some 73), none, .mv (.t 8)⟩,
  ⟨(some 74), none, .bin .sub (.t 73) (.k (.int .i64 1))⟩,
  ⟨(some 75), none, .ixa 1 (.t 72) (.t 74)⟩,
  ⟨(some 76), none, .ld none (.t 75)⟩,
  ⟨(some 77), none, .ixa 1 (.t 63) (.t 65)⟩,
  ⟨none, none, .st 1 (.t 77) (.t 71)⟩,
  ⟨(some 78), none, .ixa 1 (.t 66) (.t 67)⟩,
  ⟨none, none, .st 1 (.t 78) (.t 76)⟩]
def rLaw09DegreeErdosX15 : List O := [
  ⟨(some 61), none, .mv (.t 8)⟩,
  ⟨(some 62), none, .bin .sub (.t 61) (.k (.int .i64 1))⟩,
  ⟨(some 8), none, .mv (.t 62)⟩]
def lLaw09DegreeErdosX1 : C := (.seq (.seq (.reg rLaw09DegreeErdosX13 true [(0, 0), (1, 1), (2, 2), (12, 12), (13, 13), (7, 8), (7, 9), (7, 10), (3, 11), (4, 11), (5, 11), (6, 11), (7, 11)] [3, 5, 6, 8, 36, 37, 60]) (.cond (.t 60) .skip (.exit 4))) (.seq (.blk 5 (.reg rLaw09DegreeErdosX14 true [(16, 16), (17, 17), (0, 8), (1, 8), (2, 8), (3, 8), (4, 8), (8, 9), (8, 10), (8, 11), (8, 12), (0, 13), (1, 13), (2, 13), (3, 13), (4, 13), (5, 13), (6, 13), (7, 13), (8, 13), (3, 15), (4, 15)] [3, 5, 6, 8, 36, 37])) (.reg rLaw09DegreeErdosX15 false [] [3, 5, 6, 8, 36, 37])))
def rLaw09DegreeErdosX16 : List O := [
  ⟨(some 79), none, .bin .add (.t 37) (.k (.int .i64 1))⟩,
  ⟨(some 37), none, .mv (.t 79)⟩]
def lLaw09DegreeErdosX2 : C := (.seq (.reg rLaw09DegreeErdosX9 false [] [3, 5, 6, 36, 37, 38]) (.seq (.cond (.t 38) .skip (.exit 2)) (.seq (.blk 3 (.seq (.reg rLaw09DegreeErdosX10 false [] [3, 5, 6, 7, 36, 37]) (.seq (.reg rLaw09DegreeErdosX11 false [] [3, 5, 6, 7, 36, 37]) (.seq (.reg rLaw09DegreeErdosX12 false [] [3, 5, 6, 8, 36, 37]) (.blk 4 (.loop lLaw09DegreeErdosX1)))))) (.reg rLaw09DegreeErdosX16 false [] [3, 5, 6, 36, 37]))))
def rLaw09DegreeErdosX17 : List O := [
  ⟨(some 80), none, .mv (.t 6)⟩,
  ⟨(some 81), none, .bin .rem (.t 80) (.k (.int .i64 2))⟩,
  ⟨(some 82), none, .bin .eql (.t 81) (.k (.int .i64 0))⟩,
  ⟨(some 9), none, .mv (.t 82)⟩]
def rLaw09DegreeErdosX18 : List O := [
  ⟨(some 10), none, .mv (.k (.int .i64 0))⟩]
def rLaw09DegreeErdosX19 : List O := [
  ⟨(some 11), none, .mv (.k (.int .i64 1))⟩]
def rLaw09DegreeErdosX20 : List O := [
  ⟨(some 83), none, .mv (.t 11)⟩,
  ⟨(some 84), none, .mv (.t 5)⟩,
  ⟨(some 85), none, .len (.t 84)⟩,
  ⟨(some 86), none, .bin .leq (.t 83) (.t 85)⟩]
def rLaw09DegreeErdosX21 : List O := [
  ⟨(some 89), none, .mv (.t 10)⟩,
  ⟨(some 90), none, .mv (.t 5)⟩,
  ⟨(some 91), none, .mv (.t 11)⟩,
  ⟨(some 92), none, .bin .sub (.t 91) (.k (.int .i64 1))⟩,
  ⟨(some 93), none, .ixa 1 (.t 90) (.t 92)⟩,
  ⟨(some 94), none, .ld none (.t 93)⟩,
  ⟨(some 95), none, .bin .add (.t 89) (.t 94)⟩,
  ⟨(some 10), none, .mv (.t 95)⟩]
def rLaw09DegreeErdosX22 : List O := [
  ⟨(some 96), none, .mv (.t 11)⟩,
  ⟨(some 97), none, .mv (.t 11)⟩,
  ⟨(some 98), none, .bin .sub (.t 97) (.k (.int .i64 1))⟩,
  ⟨(some 99), none, .bin .mul (.t 96) (.t 98)⟩,
  ⟨(some 12), none, .mv (.t 99)⟩]
def rLaw09DegreeErdosX23 : List O := [
  ⟨(some 100), none, .mv (.t 5)⟩,
  ⟨(some 101), none, .mv (.t 11)⟩,
  ⟨(some 102), none, .slc 1 (.t 100) (some (.t 101)) none⟩,
  ⟨(some 103), none, .len (.t 102)⟩,
  ⟨(some 104), none, .mv (.k (.int .i64 0))⟩]
def rLaw09DegreeErdosX24 : List O := [
  ⟨(some 105), none, .bin .lss (.t 104) (.t 103)⟩]
def rLaw09DegreeErdosX25 : List O := [
  ⟨(some 106), none, .ixa 1 (.t 102) (.t 104)⟩,
  ⟨(some 107), none, .ld none (.t 106)⟩,
  ⟨(some 14), none, .mv (.t 107)⟩]
def rLaw09DegreeErdosX26 : List O := [
  ⟨(some 108), none, .mv (.t 12)⟩,
  ⟨(some 109), none, .mv (.t 14)⟩,
  ⟨(some 110), none, .mv (.t 11)⟩,
  ⟨(some 111), none, .min [(.t 109), (.t 110)]⟩,
  ⟨(some 112), none, .bin .add (.t 108) (.t 111)⟩,
  ⟨(some 12), none, .mv (.t 112)⟩]
def rLaw09DegreeErdosX27 : List O := [
  ⟨(some 113), none, .bin .add (.t 104) (.k (.int .i64 1))⟩,
  ⟨(some 104), none, .mv (.t 113)⟩]
def lLaw09DegreeErdosX3 : C := (.seq (.reg rLaw09DegreeErdosX24 false [] [3, 5, 9, 10, 11, 12, 102, 103, 104, 105]) (.seq (.cond (.t 105) .skip (.exit 8)) (.seq (.blk 9 (.seq (.reg rLaw09DegreeErdosX25 false [] [3, 5, 9, 10, 11, 12, 14, 102, 103, 104]) (.reg rLaw09DegreeErdosX26 false [] [3, 5, 9, 10, 11, 12, 102, 103, 104]))) (.reg rLaw09DegreeErdosX27 false [] [3, 5, 9, 10, 11, 12, 102, 103, 104]))))
def rLaw09DegreeErdosX28 : List O := [
  ⟨(some 114), none, .mv (.t 9)⟩,
  ⟨(some 115), none, .mv (.t 114)⟩,
  ⟨(some 116), (some (115, true)), .mv (.t 10)⟩,
  ⟨(some 117), (some (115, true)), .mv (.t 12)⟩,
  ⟨(some 118), (some (115, true)), .bin .leq (.t 116) (.t 117)⟩,
  ⟨(some 119), none, .pick (.t 115) (.t 118) (.k (.bool false))⟩,
  ⟨(some 9), none, .mv (.t 119)⟩]
def rLaw09DegreeErdosX29 : List O := [
  ⟨(some 87), none, .mv (.t 11)⟩,
  ⟨(some 88), none, .bin .add (.t 87) (.k (.int .i64 1))⟩,
  ⟨(some 11), none, .mv (.t 88)⟩]
def lLaw09DegreeErdosX4 : C := (.seq (.seq (.reg rLaw09DegreeErdosX20 false [] [3, 5, 9, 10, 11, 86]) (.cond (.t 86) .skip (.exit 6))) (.seq (.blk 7 (.seq (.reg rLaw09DegreeErdosX21 false [] [3, 5, 9, 10, 11]) (.seq (.reg rLaw09DegreeErdosX22 false [] [3, 5, 9, 10, 11, 12]) (.seq (.seq (.reg rLaw09DegreeErdosX23 false [] [3, 5, 9, 10, 11, 12, 102, 103, 104]) (.blk 8 (.loop lLaw09DegreeErdosX3))) (.reg rLaw09DegreeErdosX28 false [] [3, 5, 9, 10, 11]))))) (.reg rLaw09DegreeErdosX29 false [] [3, 5, 9, 10, 11])))
def rLaw09DegreeErdosX30 : List O := [
  ⟨(some 120), none, .mv (.t 3)⟩,
  ⟨(some 121), none, .call nDegreeGraphic [(.t 120)]⟩,
  ⟨(some 122), none, .mv (.t 9)⟩,
  ⟨(some 123), none, .eq false .bool (.t 121) (.t 122)⟩,
  ⟨(some 124), none, .mv (.t 123)⟩,
  ⟨(some 125), (some (124, true)), .call nLaw09Awake []⟩,
  ⟨(some 126), none, .pick (.t 124) (.t 125) (.k (.bool false))⟩,
  ⟨(some 2), none, .mv (.t 126)⟩]
def cLaw09DegreeErdos : C := (.seq (.reg rLaw09DegreeErdosX0 false [] [0]) (.seq (.reg rLaw09DegreeErdosX1 false [] [0, 3]) (.seq (.seq (.reg rLaw09DegreeErdosX2 false [] [0, 3, 4]) (.blk 0 (.loop lLaw09DegreeErdosX0))) (.seq (.reg rLaw09DegreeErdosX6 false [] [3, 5]) (.seq (.reg rLaw09DegreeErdosX7 false [] [3, 5, 6]) (.seq (.seq (.reg rLaw09DegreeErdosX8 false [] [3, 5, 6, 36, 37]) (.blk 2 (.loop lLaw09DegreeErdosX2))) (.seq (.reg rLaw09DegreeErdosX17 false [] [3, 5, 9]) (.seq (.reg rLaw09DegreeErdosX18 false [] [3, 5, 9, 10]) (.seq (.seq (.reg rLaw09DegreeErdosX19 false [] [3, 5, 9, 10, 11]) (.blk 6 (.loop lLaw09DegreeErdosX4))) (.seq (.reg rLaw09DegreeErdosX30 false [] [2]) .ret))))))))))
def qLaw09DegreeErdos : AFn := ⟨127, 1, [.t 2], cLaw09DegreeErdos⟩
/- cohesion/cohesionmake.Mod -/
def rMakeModX0 : List O := [
  ⟨(some 4), none, .mv (.k (.int .i64 0))⟩]
def rMakeModX1 : List O := [
  ⟨(some 5), none, .mv (.t 0)⟩,
  ⟨(some 6), none, .mv (.t 1)⟩,
  ⟨(some 7), none, .bin .rem (.t 5) (.t 6)⟩,
  ⟨(some 8), none, .mv (.t 1)⟩,
  ⟨(some 9), none, .bin .add (.t 7) (.t 8)⟩,
  ⟨(some 10), none, .mv (.t 1)⟩,
  ⟨(some 11), none, .bin .rem (.t 9) (.t 10)⟩,
  ⟨(some 4), none, .mv (.t 11)⟩]
def cMakeMod : C := (.seq (.reg rMakeModX0 false [] [0, 1]) (.seq (.reg rMakeModX1 false [] [4]) .ret))
def qMakeMod : AFn := ⟨12, 2, [.t 4], cMakeMod⟩
/- cohesion/degree.Graphic -/
def rDegreeGraphicX0 : List O := [
  ⟨(some 2), none, .mv (.k (.bool false))⟩]
def rDegreeGraphicX1 : List O := [
  ⟨(some 5), none, .mv (.t 0)⟩,
  ⟨(some 6), none, .len (.t 5)⟩,
  ⟨(some 7), none, .bin .gtr (.t 6) (.k (.int .i64 64))⟩]
def rDegreeGraphicX2 : List O := [
  ⟨(some 2), none, .mv (.k (.bool false))⟩]
def rDegreeGraphicX3 : List O := [
  ⟨(some 9), none, .mv (.t 0)⟩,
  ⟨(some 10), none, .call nDegreeRealiseN29 [(.t 9)]⟩,
  ⟨(some 8), none, .mv (.t 10)⟩,
  ⟨(some 11), none, .ext 0 (.t 8)⟩,
  ⟨(some 12), none, .ext 1 (.t 8)⟩,
  ⟨(some 3), none, .mv (.t 11)⟩,
  ⟨(some 4), none, .mv (.t 12)⟩]
def rDegreeGraphicX4 : List O := [
  ⟨(some 13), none, .mv (.t 4)⟩,
  ⟨(some 2), none, .mv (.t 13)⟩]
def cDegreeGraphic : C := (.seq (.reg rDegreeGraphicX0 false [] [0]) (.seq (.seq (.reg rDegreeGraphicX1 false [] [0, 7]) (.cond (.t 7) (.seq (.reg rDegreeGraphicX2 false [] [2]) .ret) .skip)) (.seq (.reg rDegreeGraphicX3 false [] [4]) (.seq (.reg rDegreeGraphicX4 false [] [2]) .ret))))
def qDegreeGraphic : AFn := ⟨14, 1, [.t 2], cDegreeGraphic⟩
/- cohesion/cohesionlaw09.awake -/
def rLaw09AwakeX0 : List O := [
  ⟨(some 0), none, .mv (.k (.bool false))⟩]
def rLaw09AwakeX1 : List O := [
  ⟨(some 4), none, .build [(.int .i64 0), (.int .i64 0)] [(0, 1, (.k (.int .i64 0))), (1, 1, (.k (.int .i64 2)))]⟩,
  ⟨(some 5), none, .bslice 2 1 [(.int .i64 0), (.int .i64 0)] [(0, 2, (.t 4))]⟩,
  ⟨(some 6), none, .build [(.int .i64 0), (.own 2 [])] [(0, 1, (.k (.int .i64 3))), (1, 1, (.t 5))]⟩,
  ⟨(some 7), none, .call nDegreeDegrees [(.t 6)]⟩,
  ⟨(some 3), none, .mv (.t 7)⟩,
  ⟨(some 8), none, .ext 0 (.t 3)⟩,
  ⟨(some 9), none, .ext 1 (.t 3)⟩,
  ⟨(some 1), none, .mv (.t 8)⟩,
  ⟨(some 2), none, .mv (.t 9)⟩]
def rLaw09AwakeX2 : List O := [
  ⟨(some 10), none, .mv (.t 2)⟩,
  ⟨(some 11), none, .bin .eql (.t 10) (.k (.int .i64 0))⟩,
  ⟨(some 12), none, .mv (.t 11)⟩,
  ⟨(some 13), (some (12, true)), .mv (.t 1)⟩,
  ⟨(some 14), (some (12, true)), .bslice 1 3 [(.int .i64 0)] [(0, 1, (.k (.int .i64 1))), (1, 1, (.k (.int .i64 0))), (2, 1, (.k (.int .i64 1)))]⟩,
  ⟨(some 15), (some (12, true)), .call nRef02Same [(.t 13), (.t 14)]⟩,
  ⟨(some 16), none, .pick (.t 12) (.t 15) (.k (.bool false))⟩,
  ⟨(some 17), none, .mv (.t 16)⟩,
  ⟨(some 18), (some (17, true)), .bslice 1 5 [(.int .i64 0)] [(0, 1, (.k (.int .i64 3))), (1, 1, (.k (.int .i64 0))), (2, 1, (.k (.int .i64 6))), (3, 1, (.k (.int .i64 1))), (4, 1, (.k (.int .i64 5)))]⟩,
  ⟨(some 19), (some (17, true)), .call nDegreeH [(.t 18)]⟩,
  ⟨(some 20), (some (17, true)), .bin .eql (.t 19) (.k (.int .i64 3))⟩,
  ⟨(some 21), none, .pick (.t 17) (.t 20) (.k (.bool false))⟩,
  ⟨(some 22), none, .mv (.t 21)⟩,
  ⟨(some 23), (some (22, true)), .bslice 1 4 [(.int .i64 0)] [(0, 1, (.k (.int .i64 3))), (1, 1, (.k (.int .i64 3))), (2, 1, (.k (.int .i64 1))), (3, 1, (.k (.int .i64 1)))]⟩,
  ⟨(some 24), (some (22, true)), .call nDegreeGraphic [(.t 23)]⟩,
  ⟨(some 25), (some (22, true)), .un .not (.t 24)⟩,
  ⟨(some 26), none, .pick (.t 22) (.t 25) (.k (.bool false))⟩,
  ⟨(some 27), none, .mv (.t 26)⟩,
  ⟨(some 28), (some (27, true)), .bslice 1 2 [(.int .i64 0)] [(0, 1, (.k (.int .i64 1))), (1, 1, (.k (.int .i64 1)))]⟩,
  ⟨(some 29), (some (27, true)), .call nDegreeGraphic [(.t 28)]⟩,
  ⟨(some 30), none, .pick (.t 27) (.t 29) (.k (.bool false))⟩,
  ⟨(some 0), none, .mv (.t 30)⟩]
def cLaw09Awake : C := (.seq (.reg rLaw09AwakeX0 false [] []) (.seq (.reg rLaw09AwakeX1 false [] [1, 2]) (.seq (.reg rLaw09AwakeX2 false [] [0]) .ret)))
def qLaw09Awake : AFn := ⟨31, 0, [.t 0], cLaw09Awake⟩
/- cohesion/degree.H -/
def rDegreeHX0 : List O := [
  ⟨(some 2), none, .mv (.k (.int .i64 0))⟩]
def rDegreeHX1 : List O := [
  ⟨(some 4), none, .mv (.t 0)⟩,
  ⟨(some 5), none, .call nSlicesCloneIntInt [(.t 4)]⟩,
  ⟨(some 0), none, .mv (.t 5)⟩]
def rDegreeHX2 : List O := [
  ⟨(some 6), none, .mv (.t 0)⟩,
  ⟨(some 7), none, .call nSlicesSortIntInt [(.t 6)]⟩]
def rDegreeHX3 : List O := [
  ⟨(some 3), none, .mv (.k (.int .i64 0))⟩]
def rDegreeHX4 : List O := [
  ⟨(some 8), none, .mv (.t 3)⟩,
  ⟨(some 9), none, .mv (.t 0)⟩,
  ⟨(some 10), none, .len (.t 9)⟩,
  ⟨(some 11), none, .bin .lss (.t 8) (.t 10)⟩,
  ⟨(some 12), none, .mv (.t 11)⟩,
  ⟨(some 13), (some (12, true)), .mv (.t 0)⟩,
  ⟨(some 14), (some (12, true)), .mv (.t 0)⟩,
  ⟨(some 15), (some (12, true)), .len (.t 14)⟩,
  ⟨(some 16), (some (12, true)), .bin .sub (.t 15) (.k (.int .i64 1))⟩,
  ⟨(some 17), (some (12, true)), .mv (.t 3)⟩,
  ⟨(some 18), (some (12, true)), .bin .sub (.t 16) (.t 17)⟩,
  ⟨(some 19), (some (12, true)), .ixa 1 (.t 13) (.t 18)⟩,
  ⟨(some 20), (some (12, true)), .ld none (.t 19)⟩,
  ⟨(some 21), (some (12, true)), .mv (.t 3)⟩,
  ⟨(some 22), (some (12, true)), .bin .gtr (.t 20) (.t 21)⟩,
  ⟨(some 23), none, .pick (.t 12) (.t 22) (.k (.bool false))⟩]
def rDegreeHX5 : List O := [
  ⟨(some 24), none, .mv (.t 3)⟩,
  ⟨(some 25), none, .bin .add (.t 24) (.k (.int .i64 1))⟩,
  ⟨(some 3), none, .mv (.t 25)⟩]
def lDegreeHX0 : C := (.seq (.seq (.reg rDegreeHX4 false [] [0, 3, 23]) (.cond (.t 23) .skip (.exit 0))) (.blk 1 (.reg rDegreeHX5 false [] [0, 3])))
def rDegreeHX6 : List O := [
  ⟨(some 26), none, .mv (.t 3)⟩,
  ⟨(some 2), none, .mv (.t 26)⟩]
def cDegreeH : C := (.seq (.reg rDegreeHX0 false [] [0]) (.seq (.reg rDegreeHX1 false [] [0]) (.seq (.reg rDegreeHX2 false [] [0]) (.seq (.reg rDegreeHX3 false [] [0, 3]) (.seq (.blk 0 (.loop lDegreeHX0)) (.seq (.reg rDegreeHX6 false [] [2]) .ret))))))
def qDegreeH : AFn := ⟨27, 1, [.t 2], cDegreeH⟩
/- cohesion/degree.Degrees -/
def rDegreeDegreesX0 : List O := [
  ⟨(some 1), none, .box (.t 0)⟩,
  ⟨(some 2), none, .mv (.k (.own 1 []))⟩,
  ⟨(some 3), none, .mv (.k (.int .i64 0))⟩]
def rDegreeDegreesX1 : List O := [
  ⟨(some 8), none, .ld (some 2) (.t 1)⟩,
  ⟨(some 9), none, .call nGraphCheck [(.t 8)]⟩,
  ⟨(some 4), none, .mv (.t 9)⟩]
def rDegreeDegreesX2 : List O := [
  ⟨(some 10), none, .mv (.t 4)⟩,
  ⟨(some 11), none, .bin .neq (.t 10) (.k (.int .i64 0))⟩]
def rDegreeDegreesX3 : List O := [
  ⟨(some 12), none, .mv (.t 4)⟩,
  ⟨(some 2), none, .mv (.k (.own 1 []))⟩,
  ⟨(some 3), none, .mv (.t 12)⟩]
def rDegreeDegreesX4 : List O := [
  ⟨(some 5), none, .mv (.k (.own 1 []))⟩]
def rDegreeDegreesX5 : List O := [
  ⟨(some 13), none, .ld (some 2) (.t 1)⟩,
  ⟨(some 14), none, .call nMasksRows [(.t 13)]⟩,
  ⟨(some 15), none, .len (.t 14)⟩,
  ⟨(some 16), none, .mv (.k (.int .i64 0))⟩]
def rDegreeDegreesX6 : List O := [
  ⟨(some 17), none, .bin .lss (.t 16) (.t 15)⟩]
def rDegreeDegreesX7 : List O := [
  ⟨(some 18), none, .ixa 1 (.t 14) (.t 16)⟩,
  ⟨(some 19), none, .ld none (.t 18)⟩,
  ⟨(some 7), none, .mv (.t 19)⟩]
def rDegreeDegreesX8 : List O := [
  ⟨(some 20), none, .mv (.t 5)⟩,
  ⟨(some 21), none, .mv (.t 7)⟩,
  ⟨(some 22), none, .call nMasksCount [(.t 21)]⟩,
  ⟨(some 23), none, .bslice 1 1 [(.int .i64 0)] [(0, 1, (.t 22))]⟩,
  ⟨(some 24), none, .app 1 (.t 20) (.t 23)⟩,
  ⟨(some 5), none, .mv (.t 24)⟩]
def rDegreeDegreesX9 : List O := [
  ⟨(some 25), none, .bin .add (.t 16) (.k (.int .i64 1))⟩,
  ⟨(some 16), none, .mv (.t 25)⟩]
def lDegreeDegreesX0 : C := (.seq (.reg rDegreeDegreesX6 false [] [5, 14, 15, 16, 17]) (.seq (.cond (.t 17) .skip (.exit 0)) (.seq (.blk 1 (.seq (.reg rDegreeDegreesX7 false [] [5, 7, 14, 15, 16]) (.reg rDegreeDegreesX8 false [] [5, 14, 15, 16]))) (.reg rDegreeDegreesX9 false [] [5, 14, 15, 16]))))
def rDegreeDegreesX10 : List O := [
  ⟨(some 26), none, .mv (.t 5)⟩,
  ⟨(some 2), none, .mv (.t 26)⟩,
  ⟨(some 3), none, .mv (.k (.int .i64 0))⟩]
def cDegreeDegrees : C := (.seq (.reg rDegreeDegreesX0 false [] [1]) (.seq (.seq (.reg rDegreeDegreesX1 false [] [1, 4]) (.seq (.reg rDegreeDegreesX2 false [] [1, 4, 11]) (.cond (.t 11) (.seq (.reg rDegreeDegreesX3 false [] [2, 3]) .ret) .skip))) (.seq (.reg rDegreeDegreesX4 false [] [1, 5]) (.seq (.seq (.reg rDegreeDegreesX5 false [] [5, 14, 15, 16]) (.blk 0 (.loop lDegreeDegreesX0))) (.seq (.reg rDegreeDegreesX10 false [] [2, 3]) .ret)))))
def qDegreeDegrees : AFn := ⟨27, 1, [.t 2, .t 3], cDegreeDegrees⟩
/- cohesion/cohesionref02.Same -/
def rRef02SameX0 : List O := [
  ⟨(some 4), none, .mv (.k (.bool false))⟩]
def rRef02SameX1 : List O := [
  ⟨(some 5), none, .mv (.t 0)⟩,
  ⟨(some 6), none, .len (.t 5)⟩,
  ⟨(some 7), none, .mv (.t 1)⟩,
  ⟨(some 8), none, .len (.t 7)⟩,
  ⟨(some 9), none, .bin .eql (.t 6) (.t 8)⟩,
  ⟨(some 10), none, .mv (.t 9)⟩,
  ⟨(some 11), (some (10, true)), .mv (.t 0)⟩,
  ⟨(some 12), (some (10, true)), .mv (.t 1)⟩,
  ⟨(some 13), (some (10, true)), .call nRef02Cmp [(.t 11), (.t 12)]⟩,
  ⟨(some 14), (some (10, true)), .bin .eql (.t 13) (.k (.int .i64 0))⟩,
  ⟨(some 15), none, .pick (.t 10) (.t 14) (.k (.bool false))⟩,
  ⟨(some 4), none, .mv (.t 15)⟩]
def cRef02Same : C := (.seq (.reg rRef02SameX0 false [] [0, 1]) (.seq (.reg rRef02SameX1 false [] [4]) .ret))
def qRef02Same : AFn := ⟨16, 2, [.t 4], cRef02Same⟩
/- cohesion/degree.realise -/
def rDegreeRealiseN29X0 : List O := [
  ⟨(some 2), none, .mv (.k (.own 2 []))⟩,
  ⟨(some 3), none, .mv (.k (.bool false))⟩]
def rDegreeRealiseN29X1 : List O := [
  ⟨(some 4), none, .mv (.k (.own 2 []))⟩]
def rDegreeRealiseN29X2 : List O := [
  ⟨(some 10), none, .mv (.t 0)⟩,
  ⟨(some 11), none, .len (.t 10)⟩,
  ⟨(some 12), none, .mv (.k (.int .i64 0))⟩]
def rDegreeRealiseN29X3 : List O := [
  ⟨(some 13), none, .bin .lss (.t 12) (.t 11)⟩]
def rDegreeRealiseN29X4 : List O := [
  ⟨(some 14), none, .mv (.t 12)⟩,
  ⟨(some 15), none, .ixa 1 (.t 10) (.t 12)⟩,
  ⟨(some 16), none, .ld none (.t 15)⟩,
  ⟨(some 5), none, .mv (.t 14)⟩,
  ⟨(some 6), none, .mv (.t 16)⟩]
def rDegreeRealiseN29X5 : List O := [
  ⟨(some 17), none, .mv (.t 6)⟩,
  ⟨(some 18), none, .bin .lss (.t 17) (.k (.int .i64 0))⟩,
  ⟨(some 19), none, .mv (.t 18)⟩,
  ⟨(some 20), (some (19, false)), .mv (.t 6)⟩,
  ⟨(some 21), (some (19, false)), .mv (.t 0)⟩,
  ⟨(some 22), (some (19, false)), .len (.t 21)⟩,
  ⟨(some 23), (some (19, false)), .bin .geq (.t 20) (.t 22)⟩,
  ⟨(some 24), none, .pick (.t 19) (.k (.bool true)) (.t 23)⟩]
def rDegreeRealiseN29X6 : List O := [
  ⟨(some 2), none, .mv (.k (.own 2 []))⟩,
  ⟨(some 3), none, .mv (.k (.bool false))⟩]
def rDegreeRealiseN29X7 : List O := [
  ⟨(some 25), none, .mv (.t 4)⟩,
  ⟨(some 26), none, .mv (.t 5)⟩,
  ⟨(some 27), none, .mv (.t 6)⟩,
  ⟨(some 28), none, .build [(.int .i64 0), (.int .i64 0)] [(0, 1, (.t 26)), (1, 1, (.t 27))]⟩,
  ⟨(some 29), none, .bslice 2 1 [(.int .i64 0), (.int .i64 0)] [(0, 2, (.t 28))]⟩,
  ⟨(some 30), none, .app 2 (.t 25) (.t 29)⟩,
  ⟨(some 4), none, .mv (.t 30)⟩]
def rDegreeRealiseN29X8 : List O := [
  ⟨(some 31), none, .bin .add (.t 12) (.k (.int .i64 1))⟩,
  ⟨(some 12), none, .mv (.t 31)⟩]
def lDegreeRealiseN29X0 : C := (.seq (.reg rDegreeRealiseN29X3 false [] [0, 4, 10, 11, 12, 13]) (.seq (.cond (.t 13) .skip (.exit 0)) (.seq (.blk 1 (.seq (.reg rDegreeRealiseN29X4 false [] [0, 4, 5, 6, 10, 11, 12]) (.seq (.seq (.reg rDegreeRealiseN29X5 false [] [0, 4, 5, 6, 10, 11, 12, 24]) (.cond (.t 24) (.seq (.reg rDegreeRealiseN29X6 false [] [2, 3]) .ret) .skip)) (.reg rDegreeRealiseN29X7 false [] [0, 4, 10, 11, 12])))) (.reg rDegreeRealiseN29X8 false [] [0, 4, 10, 11, 12]))))
def rDegreeRealiseN29X9 : List O := [
  ⟨(some 7), none, .mv (.k (.own 2 []))⟩]
def rDegreeRealiseN29X10 : List O := [
  ⟨(some 32), none, .mv (.t 4)⟩,
  ⟨(some 33), none, .len (.t 32)⟩,
  ⟨(some 34), none, .bin .gtr (.t 33) (.k (.int .i64 0))⟩]
def rDegreeRealiseN29X11 : List O := [
  ⟨(some 35), none, .mv (.t 4)⟩,
  ⟨(some 36), none, .call 45 [(.t 35), (.k (.func (.func 46) [] []))]⟩]
def rDegreeRealiseN29X12 : List O := [
  ⟨(some 37), none, .mv (.t 4)⟩,
  ⟨(some 38), none, .ixa 2 (.t 37) (.k (.int .i64 0))⟩,
  ⟨(some 39), none, .ld (some 2) (.t 38)⟩,
  ⟨(some 8), none, .new [(.int .i64 0), (.int .i64 0)]⟩,
  ⟨none, none, .st 2 (.t 8) (.t 39)⟩]
def rDegreeRealiseN29X13 : List O := [
  ⟨(some 40), none, .mv (.t 4)⟩,
  ⟨(some 41), none, .slc 2 (.t 40) (some (.k (.int .i64 1))) none⟩,
  ⟨(some 4), none, .mv (.t 41)⟩]
def rDegreeRealiseN29X14 : List O := [
  ⟨(some 42), none, .fad 1 (.t 8)⟩,
  ⟨(some 43), none, .ld none (.t 42)⟩,
  ⟨(some 44), none, .mv (.t 4)⟩,
  ⟨(some 45), none, .len (.t 44)⟩,
  ⟨(some 46), none, .bin .gtr (.t 43) (.t 45)⟩]
def rDegreeRealiseN29X15 : List O := [
  ⟨(some 2), none, .mv (.k (.own 2 []))⟩,
  ⟨(some 3), none, .mv (.k (.bool false))⟩]
def rDegreeRealiseN29X16 : List O := [
  ⟨(some 47), none, .fad 1 (.t 8)⟩,
  ⟨(some 48), none, .ld none (.t 47)⟩,
  ⟨(some 49), none, .mv (.k (.int .i64 0))⟩]
def rDegreeRealiseN29X17 : List O := [
  ⟨(some 50), none, .bin .lss (.t 49) (.t 48)⟩]
def rDegreeRealiseN29X18 : List O := [
  ⟨(some 51), none, .mv (.t 49)⟩,
  ⟨(some 9), none, .mv (.t 51)⟩]
def rDegreeRealiseN29X19 : List O := [
  ⟨(some 52), none, .mv (.t 4)⟩,
  ⟨(some 53), none, .mv (.t 9)⟩,
  ⟨(some 54), none, .ixa 2 (.t 52) (.t 53)⟩,
  ⟨(some 55), none, .fad 1 (.t 54)⟩,
  ⟨(some 56), none, .ld none (.t 55)⟩,
  ⟨(some 57), none, .bin .eql (.t 56) (.k (.int .i64 0))⟩]
def rDegreeRealiseN29X20 : List O := [
  ⟨(some 2), none, .mv (.k (.own 2 []))⟩,
  ⟨(some 3), none, .mv (.k (.bool false))⟩]
def rDegreeRealiseN29X21 : List O := [
  ⟨(some 58), none, .mv (.t 4)⟩,
  ⟨(some 59), none, .mv (.t 9)⟩,
  ⟨(some 60), none, .ixa 2 (.t 58) (.t 59)⟩,
  ⟨(some 61), none, .fad 1 (.t 60)⟩,
  ⟨(some 62), none, .ld none (.t 61)⟩,
  ⟨(some 63), none, .bin .sub (.t 62) (.k (.int .i64 1))⟩,
  ⟨(some 64), none, .ixa 2 (.t 58) (.t 59)⟩,
  ⟨(some 65), none, .fad 1 (.t 64)⟩,
  ⟨none, none, .st 1 (.t 65) (.t 63)⟩]
def rDegreeRealiseN29X22 : List O := [
  ⟨(some 66), none, .mv (.t 7)⟩,
  ⟨(some 67), none, .fad 0 (.t 8)⟩,
  ⟨(some 68), none, .ld none (.t 67)⟩,
  ⟨(some 69), none, .mv (.t 4)⟩,
  ⟨(some 70), none, .mv (.t 9)⟩,
  ⟨(some 71), none, .ixa 2 (.t 69) (.t 70)⟩,
  ⟨(some 72), none, .fad 0 (.t 71)⟩,
  ⟨(some 73), none, .ld none (.t 72)⟩,
  ⟨(some 74), none, .build [(.int .i64 0), (.int .i64 0)] [(0, 1, (.t 68)), (1, 1, (.t 73))]⟩,
  ⟨(some 75), none, .bslice 2 1 [(.int .i64 0), (.int .i64 0)] [(0, 2, (.t 74))]⟩,
  ⟨(some 76), none, .app 2 (.t 66) (.t 75)⟩,
  ⟨(some 7), none, .mv (.t 76)⟩]
def rDegreeRealiseN29X23 : List O := [
  ⟨(some 77), none, .bin .add (.t 49) (.k (.int .i64 1))⟩,
  ⟨(some 49), none, .mv (.t 77)⟩]
def lDegreeRealiseN29X1 : C := (.seq (.reg rDegreeRealiseN29X17 false [] [4, 7, 8, 48, 49, 50]) (.seq (.cond (.t 50) .skip (.exit 4)) (.seq (.blk 5 (.seq (.reg rDegreeRealiseN29X18 false [] [4, 7, 8, 9, 48, 49]) (.seq (.seq (.reg rDegreeRealiseN29X19 false [] [4, 7, 8, 9, 48, 49, 57]) (.cond (.t 57) (.seq (.reg rDegreeRealiseN29X20 false [] [2, 3]) .ret) .skip)) (.seq (.reg rDegreeRealiseN29X21 false [] [4, 7, 8, 9, 48, 49]) (.reg rDegreeRealiseN29X22 true [(10, 10), (11, 11), (0, 2), (2, 3), (2, 4), (2, 5), (2, 6), (0, 7), (1, 7), (2, 7), (0, 9)] [4, 7, 8, 48, 49]))))) (.reg rDegreeRealiseN29X23 false [] [4, 7, 8, 48, 49]))))
def lDegreeRealiseN29X2 : C := (.seq (.seq (.reg rDegreeRealiseN29X10 false [] [4, 7, 34]) (.cond (.t 34) .skip (.exit 2))) (.blk 3 (.seq (.reg rDegreeRealiseN29X11 false [] [4, 7]) (.seq (.reg rDegreeRealiseN29X12 false [] [4, 7, 8]) (.seq (.reg rDegreeRealiseN29X13 false [] [4, 7, 8]) (.seq (.seq (.reg rDegreeRealiseN29X14 false [] [4, 7, 8, 46]) (.cond (.t 46) (.seq (.reg rDegreeRealiseN29X15 false [] [2, 3]) .ret) .skip)) (.seq (.reg rDegreeRealiseN29X16 false [] [4, 7, 8, 48, 49]) (.blk 4 (.loop lDegreeRealiseN29X1)))))))))
def rDegreeRealiseN29X24 : List O := [
  ⟨(some 78), none, .mv (.t 7)⟩,
  ⟨(some 2), none, .mv (.t 78)⟩,
  ⟨(some 3), none, .mv (.k (.bool true))⟩]
def cDegreeRealiseN29 : C := (.seq (.reg rDegreeRealiseN29X0 false [] [0]) (.seq (.reg rDegreeRealiseN29X1 false [] [0, 4]) (.seq (.seq (.reg rDegreeRealiseN29X2 false [] [0, 4, 10, 11, 12]) (.blk 0 (.loop lDegreeRealiseN29X0))) (.seq (.reg rDegreeRealiseN29X9 false [] [4, 7]) (.seq (.blk 2 (.loop lDegreeRealiseN29X2)) (.seq (.reg rDegreeRealiseN29X24 false [] [2, 3]) .ret))))))
def qDegreeRealiseN29 : AFn := ⟨79, 1, [.t 2, .t 3], cDegreeRealiseN29⟩
/- slices.Clone[[]int,int] -/
def rSlicesCloneIntIntX0 : List O := [
  ⟨(some 2), none, .mv (.k (.own 1 []))⟩]
def rSlicesCloneIntIntX1 : List O := [
  ⟨(some 3), none, .mv (.t 0)⟩,
  ⟨(some 4), none, .eq false .nsl (.t 3) (.k (.own 1 []))⟩]
def rSlicesCloneIntIntX2 : List O := [
  ⟨(some 2), none, .mv (.k (.own 1 []))⟩]
def rSlicesCloneIntIntX3 : List O := [
  ⟨(some 5), none, .bslice 1 0 [(.int .i64 0)] []⟩,
  ⟨(some 6), none, .mv (.t 0)⟩,
  ⟨(some 7), none, .app 1 (.t 5) (.t 6)⟩,
  ⟨(some 2), none, .mv (.t 7)⟩]
def cSlicesCloneIntInt : C := (.seq (.reg rSlicesCloneIntIntX0 false [] [0]) (.seq (.seq (.reg rSlicesCloneIntIntX1 false [] [0, 4]) (.cond (.t 4) (.seq (.reg rSlicesCloneIntIntX2 false [] [2]) .ret) .skip)) (.seq (.reg rSlicesCloneIntIntX3 false [] [2]) .ret)))
def qSlicesCloneIntInt : AFn := ⟨8, 1, [.t 2], cSlicesCloneIntInt⟩
/- slices.Sort[[]int,int] -/
def rSlicesSortIntIntX0 : List O := [
  ⟨(some 3), none, .mv (.t 0)⟩,
  ⟨(some 4), none, .len (.t 3)⟩,
  ⟨(some 2), none, .mv (.t 4)⟩]
def rSlicesSortIntIntX1 : List O := [
  ⟨(some 5), none, .mv (.t 0)⟩,
  ⟨(some 6), none, .mv (.t 2)⟩,
  ⟨(some 7), none, .mv (.t 2)⟩,
  ⟨(some 8), none, .cvt .u64 (.t 7)⟩,
  ⟨(some 9), none, .call 48 [(.t 8)]⟩,
  ⟨(some 10), none, .call 47 [(.t 5), (.k (.int .i64 0)), (.t 6), (.t 9)]⟩]
def cSlicesSortIntInt : C := (.seq (.reg rSlicesSortIntIntX0 false [] [0, 2]) (.reg rSlicesSortIntIntX1 false [] []))
def qSlicesSortIntInt : AFn := ⟨11, 1, [], cSlicesSortIntInt⟩
/- cohesion/graph.Check -/
def rGraphCheckX0 : List O := [
  ⟨(some 1), none, .box (.t 0)⟩,
  ⟨(some 2), none, .mv (.k (.int .i64 0))⟩]
def rGraphCheckX1 : List O := [
  ⟨(some 5), none, .fad 0 (.t 1)⟩,
  ⟨(some 6), none, .ld none (.t 5)⟩,
  ⟨(some 7), none, .bin .lss (.t 6) (.k (.int .i64 0))⟩,
  ⟨(some 8), none, .mv (.t 7)⟩,
  ⟨(some 9), (some (8, false)), .fad 0 (.t 1)⟩,
  ⟨(some 10), (some (8, false)), .ld none (.t 9)⟩,
  ⟨(some 11), (some (8, false)), .bin .gtr (.t 10) (.k (.int .i64 64))⟩,
  ⟨(some 12), none, .pick (.t 8) (.k (.bool true)) (.t 11)⟩]
def rGraphCheckX2 : List O := [
  ⟨(some 2), none, .mv (.k (.int .i64 1))⟩]
def rGraphCheckX3 : List O := [
  ⟨(some 13), none, .fad 1 (.t 1)⟩,
  ⟨(some 14), none, .ld none (.t 13)⟩,
  ⟨(some 15), none, .len (.t 14)⟩,
  ⟨(some 16), none, .mv (.k (.int .i64 0))⟩]
def rGraphCheckX4 : List O := [
  ⟨(some 17), none, .bin .lss (.t 16) (.t 15)⟩]
def rGraphCheckX5 : List O := [
  ⟨(some 18), none, .mv (.t 16)⟩,
  ⟨(some 19), none, .ixa 2 (.t 14) (.t 16)⟩,
  ⟨(some 20), none, .ld (some 2) (.t 19)⟩,
  ⟨(some 4), none, .new [(.int .i64 0), (.int .i64 0)]⟩,
  ⟨(some 3), none, .mv (.t 18)⟩,
  ⟨none, none, .st 2 (.t 4) (.t 20)⟩]
def rGraphCheckX6 : List O := [
  ⟨(some 22), none, .fad 0 (.t 4)⟩,
  ⟨(some 23), none, .ld none (.t 22)⟩,
  ⟨(some 24), none, .bin .lss (.t 23) (.k (.int .i64 0))⟩,
  ⟨(some 25), none, .mv (.t 24)⟩,
  ⟨(some 26), (some (25, false)), .fad 0 (.t 4)⟩,
  ⟨(some 27), (some (25, false)), .ld none (.t 26)⟩,
  ⟨(some 28), (some (25, false)), .fad 1 (.t 4)⟩,
  ⟨(some 29), (some (25, false)), .ld none (.t 28)⟩,
  ⟨(some 30), (some (25, false)), .bin .geq (.t 27) (.t 29)⟩,
  ⟨(some 31), none, .pick (.t 25) (.k (.bool true)) (.t 30)⟩,
  ⟨(some 32), none, .mv (.t 31)⟩,
  ⟨(some 33), (some (32, false)), .fad 1 (.t 4)⟩,
  ⟨(some 34), (some (32, false)), .ld none (.t 33)⟩,
  ⟨(some 35), (some (32, false)), .fad 0 (.t 1)⟩,
  ⟨(some 36), (some (32, false)), .ld none (.t 35)⟩,
  ⟨(some 37), (some (32, false)), .bin .geq (.t 34) (.t 36)⟩,
  ⟨(some 38), none, .pick (.t 32) (.k (.bool true)) (.t 37)⟩,
  ⟨(some 21), none, .mv (.t 38)⟩]
def rGraphCheckX7 : List O := [
  ⟨(some 2), none, .mv (.k (.int .i64 6))⟩]
def rGraphCheckX8 : List O := [
  ⟨(some 40), none, .mv (.t 3)⟩,
  ⟨(some 41), none, .bin .gtr (.t 40) (.k (.int .i64 0))⟩,
  ⟨(some 42), none, .mv (.t 41)⟩,
  ⟨(some 43), (some (42, true)), .fad 1 (.t 1)⟩,
  ⟨(some 44), (some (42, true)), .ld none (.t 43)⟩,
  ⟨(some 45), (some (42, true)), .mv (.t 3)⟩,
  ⟨(some 46), (some (42, true)), .bin .sub (.t 45) (.k (.int .i64 1))⟩,
  ⟨(some 47), (some (42, true)), .ixa 2 (.t 44) (.t 46)⟩,
  ⟨(some 48), (some (42, true)), .ld (some 2) (.t 47)⟩,
  ⟨(some 49), (some (42, true)), .ld (some 2) (.t 4)⟩,
  ⟨(some 50), (some (42, true)), .call nGraphOrder [(.t 48), (.t 49)]⟩,
  ⟨(some 51), (some (42, true)), .bin .geq (.t 50) (.k (.int .i64 0))⟩,
  ⟨(some 52), none, .pick (.t 42) (.t 51) (.k (.bool false))⟩,
  ⟨(some 39), none, .mv (.t 52)⟩]
def rGraphCheckX9 : List O := [
  ⟨(some 2), none, .mv (.k (.int .i64 5))⟩]
def rGraphCheckX10 : List O := [
  ⟨(some 53), none, .bin .add (.t 16) (.k (.int .i64 1))⟩,
  ⟨(some 16), none, .mv (.t 53)⟩]
def lGraphCheckX0 : C := (.seq (.reg rGraphCheckX4 false [] [1, 14, 15, 16, 17]) (.seq (.cond (.t 17) .skip (.exit 0)) (.seq (.blk 1 (.seq (.reg rGraphCheckX5 false [] [1, 3, 4, 14, 15, 16]) (.blk 2 (.seq (.reg rGraphCheckX6 false [] [1, 3, 4, 14, 15, 16, 21]) (.cond (.t 21) (.seq (.reg rGraphCheckX7 false [] [2]) .ret) (.seq (.reg rGraphCheckX8 true [(0, 0), (1, 1), (2, 2), (10, 10), (11, 11), (12, 12), (13, 13), (4, 5), (4, 6), (3, 9), (4, 9), (5, 9), (6, 9), (7, 9), (8, 9)] [1, 14, 15, 16, 39]) (.cond (.t 39) (.seq (.reg rGraphCheckX9 false [] [2]) .ret) .skip))))))) (.reg rGraphCheckX10 false [] [1, 14, 15, 16]))))
def rGraphCheckX11 : List O := [
  ⟨(some 2), none, .mv (.k (.int .i64 0))⟩]
def cGraphCheck : C := (.seq (.reg rGraphCheckX0 false [] [1]) (.seq (.seq (.reg rGraphCheckX1 false [] [1, 12]) (.cond (.t 12) (.seq (.reg rGraphCheckX2 false [] [2]) .ret) .skip)) (.seq (.seq (.reg rGraphCheckX3 false [] [1, 14, 15, 16]) (.blk 0 (.loop lGraphCheckX0))) (.seq (.reg rGraphCheckX11 false [] [2]) .ret))))
def qGraphCheck : AFn := ⟨54, 1, [.t 2], cGraphCheck⟩
/- cohesion/masks.Rows -/
def rMasksRowsX0 : List O := [
  ⟨(some 1), none, .box (.t 0)⟩,
  ⟨(some 2), none, .mv (.k (.own 1 []))⟩]
def rMasksRowsX1 : List O := [
  ⟨(some 6), none, .fad 0 (.t 1)⟩,
  ⟨(some 7), none, .ld none (.t 6)⟩,
  ⟨(some 8), none, .max [(.t 7), (.k (.int .i64 0))]⟩,
  ⟨(some 9), none, .min [(.t 8), (.k (.int .i64 64))]⟩,
  ⟨(some 10), none, .mks 1 [(.int .u64 0)] (.t 9) (.t 9)⟩,
  ⟨(some 3), none, .mv (.t 10)⟩]
def rMasksRowsX2 : List O := [
  ⟨(some 11), none, .fad 1 (.t 1)⟩,
  ⟨(some 12), none, .ld none (.t 11)⟩,
  ⟨(some 13), none, .len (.t 12)⟩,
  ⟨(some 14), none, .mv (.k (.int .i64 0))⟩]
def rMasksRowsX3 : List O := [
  ⟨(some 15), none, .bin .lss (.t 14) (.t 13)⟩]
def rMasksRowsX4 : List O := [
  ⟨(some 16), none, .ixa 2 (.t 12) (.t 14)⟩,
  ⟨(some 17), none, .ld (some 2) (.t 16)⟩,
  ⟨(some 5), none, .new [(.int .i64 0), (.int .i64 0)]⟩,
  ⟨none, none, .st 2 (.t 5) (.t 17)⟩]
def rMasksRowsX5 : List O := [
  ⟨(some 18), none, .fad 0 (.t 5)⟩,
  ⟨(some 19), none, .ld none (.t 18)⟩,
  ⟨(some 20), none, .bin .geq (.t 19) (.k (.int .i64 0))⟩,
  ⟨(some 21), none, .mv (.t 20)⟩,
  ⟨(some 22), (some (21, true)), .fad 0 (.t 5)⟩,
  ⟨(some 23), (some (21, true)), .ld none (.t 22)⟩,
  ⟨(some 24), (some (21, true)), .fad 1 (.t 5)⟩,
  ⟨(some 25), (some (21, true)), .ld none (.t 24)⟩,
  ⟨(some 26), (some (21, true)), .bin .lss (.t 23) (.t 25)⟩,
  ⟨(some 27), none, .pick (.t 21) (.t 26) (.k (.bool false))⟩,
  ⟨(some 28), none, .mv (.t 27)⟩,
  ⟨(some 29), (some (28, true)), .fad 1 (.t 5)⟩,
  ⟨(some 30), (some (28, true)), .ld none (.t 29)⟩,
  ⟨(some 31), (some (28, true)), .mv (.t 3)⟩,
  ⟨(some 32), (some (28, true)), .len (.t 31)⟩,
  ⟨(some 33), (some (28, true)), .bin .lss (.t 30) (.t 32)⟩,
  ⟨(some 34), none, .pick (.t 28) (.t 33) (.k (.bool false))⟩]
def rMasksRowsX6 : List O := [
  ⟨(some 35), none, .mv (.t 3)⟩,
  ⟨(some 36), none, .fad 0 (.t 5)⟩,
  ⟨(some 37), none, .ld none (.t 36)⟩,
  ⟨(some 38), none, .ixa 1 (.t 35) (.t 37)⟩,
  ⟨(some 39), none, .ld none (.t 38)⟩,
  ⟨(some 40), none, .fad 1 (.t 5)⟩,
  ⟨(some 41), none, .ld none (.t 40)⟩,
  ⟨(some 42), none, .bin .shl (.k (.int .u64 1)) (.t 41)⟩,
  ⟨(some 43), none, .bin .or (.t 39) (.t 42)⟩,
  ⟨(some 44), none, .ixa 1 (.t 35) (.t 37)⟩,
  ⟨none, none, .st 1 (.t 44) (.t 43)⟩]
def rMasksRowsX7 : List O := [
  ⟨(some 45), none, .mv (.t 3)⟩,
  ⟨(some 46), none, .fad 1 (.t 5)⟩,
  ⟨(some 47), none, .ld none (.t 46)⟩,
  ⟨(some 48), none, .ixa 1 (.t 45) (.t 47)⟩,
  ⟨(some 49), none, .ld none (.t 48)⟩,
  ⟨(some 50), none, .fad 0 (.t 5)⟩,
  ⟨(some 51), none, .ld none (.t 50)⟩,
  ⟨(some 52), none, .bin .shl (.k (.int .u64 1)) (.t 51)⟩,
  ⟨(some 53), none, .bin .or (.t 49) (.t 52)⟩,
  ⟨(some 54), none, .ixa 1 (.t 45) (.t 47)⟩,
  ⟨none, none, .st 1 (.t 54) (.t 53)⟩]
def rMasksRowsX8 : List O := [
  ⟨(some 55), none, .bin .add (.t 14) (.k (.int .i64 1))⟩,
  ⟨(some 14), none, .mv (.t 55)⟩]
def lMasksRowsX0 : C := (.seq (.reg rMasksRowsX3 false [] [3, 12, 13, 14, 15]) (.seq (.cond (.t 15) .skip (.exit 0)) (.seq (.blk 1 (.seq (.reg rMasksRowsX4 false [] [3, 5, 12, 13, 14]) (.seq (.reg rMasksRowsX5 false [] [3, 5, 12, 13, 14, 34]) (.cond (.t 34) (.seq (.reg rMasksRowsX6 true [(8, 8), (9, 9), (10, 10), (0, 2), (2, 5), (4, 5), (0, 6), (1, 6), (2, 6), (3, 6), (4, 6), (2, 7), (4, 7)] [3, 5, 12, 13, 14]) (.reg rMasksRowsX7 true [(8, 8), (9, 9), (10, 10), (0, 2), (2, 5), (4, 5), (0, 6), (1, 6), (2, 6), (3, 6), (4, 6), (2, 7), (4, 7)] [3, 12, 13, 14])) .skip)))) (.reg rMasksRowsX8 false [] [3, 12, 13, 14]))))
def rMasksRowsX9 : List O := [
  ⟨(some 56), none, .mv (.t 3)⟩,
  ⟨(some 2), none, .mv (.t 56)⟩]
def cMasksRows : C := (.seq (.reg rMasksRowsX0 false [] [1]) (.seq (.reg rMasksRowsX1 false [] [1, 3]) (.seq (.seq (.reg rMasksRowsX2 false [] [3, 12, 13, 14]) (.blk 0 (.loop lMasksRowsX0))) (.seq (.reg rMasksRowsX9 false [] [2]) .ret))))
def qMasksRows : AFn := ⟨57, 1, [.t 2], cMasksRows⟩
/- cohesion/masks.Count -/
def rMasksCountX0 : List O := [
  ⟨(some 2), none, .mv (.k (.int .i64 0))⟩]
def rMasksCountX1 : List O := [
  ⟨(some 3), none, .mv (.t 0)⟩,
  ⟨(some 4), none, .call nMathBitsOnesCount64 [(.t 3)]⟩,
  ⟨(some 2), none, .mv (.t 4)⟩]
def cMasksCount : C := (.seq (.reg rMasksCountX0 false [] [0]) (.seq (.reg rMasksCountX1 false [] [2]) .ret))
def qMasksCount : AFn := ⟨5, 1, [.t 2], cMasksCount⟩
/- cohesion/cohesionref02.Cmp -/
def rRef02CmpX0 : List O := [
  ⟨(some 4), none, .mv (.k (.int .i64 0))⟩]
def rRef02CmpX1 : List O := [
  ⟨(some 6), none, .mv (.t 0)⟩,
  ⟨(some 7), none, .len (.t 6)⟩,
  ⟨(some 8), none, .mv (.k (.int .i64 0))⟩]
def rRef02CmpX2 : List O := [
  ⟨(some 9), none, .bin .lss (.t 8) (.t 7)⟩]
def rRef02CmpX3 : List O := [
  ⟨(some 10), none, .mv (.t 8)⟩,
  ⟨(some 5), none, .mv (.t 10)⟩]
def rRef02CmpX4 : List O := [
  ⟨(some 12), none, .mv (.t 5)⟩,
  ⟨(some 13), none, .mv (.t 1)⟩,
  ⟨(some 14), none, .len (.t 13)⟩,
  ⟨(some 15), none, .bin .geq (.t 12) (.t 14)⟩,
  ⟨(some 16), none, .mv (.t 15)⟩,
  ⟨(some 17), (some (16, false)), .mv (.t 0)⟩,
  ⟨(some 18), (some (16, false)), .mv (.t 5)⟩,
  ⟨(some 19), (some (16, false)), .ixa 1 (.t 17) (.t 18)⟩,
  ⟨(some 20), (some (16, false)), .ld none (.t 19)⟩,
  ⟨(some 21), (some (16, false)), .mv (.t 1)⟩,
  ⟨(some 22), (some (16, false)), .mv (.t 5)⟩,
  ⟨(some 23), (some (16, false)), .ixa 1 (.t 21) (.t 22)⟩,
  ⟨(some 24), (some (16, false)), .ld none (.t 23)⟩,
  ⟨(some 25), (some (16, false)), .bin .gtr (.t 20) (.t 24)⟩,
  ⟨(some 26), none, .pick (.t 16) (.k (.bool true)) (.t 25)⟩,
  ⟨(some 11), none, .mv (.t 26)⟩]
def rRef02CmpX5 : List O := [
  ⟨(some 4), none, .mv (.k (.int .i64 1))⟩]
def rRef02CmpX6 : List O := [
  ⟨(some 28), none, .mv (.t 0)⟩,
  ⟨(some 29), none, .mv (.t 5)⟩,
  ⟨(some 30), none, .ixa 1 (.t 28) (.t 29)⟩,
  ⟨(some 31), none, .ld none (.t 30)⟩,
  ⟨(some 32), none, .mv (.t 1)⟩,
  ⟨(some 33), none, .mv (.t 5)⟩,
  ⟨(some 34), none, .ixa 1 (.t 32) (.t 33)⟩,
  ⟨(some 35), none, .ld none (.t 34)⟩,
  ⟨(some 36), none, .bin .lss (.t 31) (.t 35)⟩,
  ⟨(some 27), none, .mv (.t 36)⟩]
def rRef02CmpX7 : List O := [
  ⟨(some 4), none, .mv (.k (.int .i64 (-1)))⟩]
def rRef02CmpX8 : List O := [
  ⟨(some 37), none, .bin .add (.t 8) (.k (.int .i64 1))⟩,
  ⟨(some 8), none, .mv (.t 37)⟩]
def lRef02CmpX0 : C := (.seq (.reg rRef02CmpX2 false [] [0, 1, 7, 8, 9]) (.seq (.cond (.t 9) .skip (.exit 0)) (.seq (.blk 1 (.seq (.reg rRef02CmpX3 false [] [0, 1, 5, 7, 8]) (.blk 2 (.seq (.reg rRef02CmpX4 true [(3, 3), (4, 4), (13, 13), (14, 14), (15, 15), (8, 9), (8, 10), (8, 11), (5, 12), (6, 12), (7, 12), (8, 12)] [0, 1, 5, 7, 8, 11]) (.cond (.t 11) (.seq (.reg rRef02CmpX5 false [] [4]) .ret) (.seq (.reg rRef02CmpX6 true [(8, 8), (9, 9), (3, 4), (3, 5), (3, 6), (0, 7), (1, 7), (2, 7), (3, 7)] [0, 1, 7, 8, 27]) (.cond (.t 27) (.seq (.reg rRef02CmpX7 false [] [4]) .ret) .skip))))))) (.reg rRef02CmpX8 false [] [0, 1, 7, 8]))))
def rRef02CmpX9 : List O := [
  ⟨(some 38), none, .mv (.t 0)⟩,
  ⟨(some 39), none, .len (.t 38)⟩,
  ⟨(some 40), none, .mv (.t 1)⟩,
  ⟨(some 41), none, .len (.t 40)⟩,
  ⟨(some 42), none, .bin .lss (.t 39) (.t 41)⟩]
def rRef02CmpX10 : List O := [
  ⟨(some 4), none, .mv (.k (.int .i64 (-1)))⟩]
def rRef02CmpX11 : List O := [
  ⟨(some 4), none, .mv (.k (.int .i64 0))⟩]
def cRef02Cmp : C := (.seq (.reg rRef02CmpX0 false [] [0, 1]) (.seq (.seq (.reg rRef02CmpX1 false [] [0, 1, 7, 8]) (.blk 0 (.loop lRef02CmpX0))) (.seq (.seq (.reg rRef02CmpX9 false [] [42]) (.cond (.t 42) (.seq (.reg rRef02CmpX10 false [] [4]) .ret) .skip)) (.seq (.reg rRef02CmpX11 false [] [4]) .ret))))
def qRef02Cmp : AFn := ⟨43, 2, [.t 4], cRef02Cmp⟩
/- cohesion/graph.Order -/
def rGraphOrderX0 : List O := [
  ⟨(some 2), none, .box (.t 0)⟩,
  ⟨(some 3), none, .box (.t 1)⟩,
  ⟨(some 4), none, .mv (.k (.int .i64 0))⟩]
def rGraphOrderX1 : List O := [
  ⟨(some 5), none, .fad 0 (.t 2)⟩,
  ⟨(some 6), none, .ld none (.t 5)⟩,
  ⟨(some 7), none, .fad 0 (.t 3)⟩,
  ⟨(some 8), none, .ld none (.t 7)⟩,
  ⟨(some 9), none, .call nCmpCompareInt [(.t 6), (.t 8)]⟩,
  ⟨(some 10), none, .fad 1 (.t 2)⟩,
  ⟨(some 11), none, .ld none (.t 10)⟩,
  ⟨(some 12), none, .fad 1 (.t 3)⟩,
  ⟨(some 13), none, .ld none (.t 12)⟩,
  ⟨(some 14), none, .call nCmpCompareInt [(.t 11), (.t 13)]⟩,
  ⟨(some 15), none, .bslice 1 2 [(.int .i64 0)] [(0, 1, (.t 9)), (1, 1, (.t 14))]⟩,
  ⟨(some 16), none, .call nCmpOrInt [(.t 15)]⟩,
  ⟨(some 4), none, .mv (.t 16)⟩]
def cGraphOrder : C := (.seq (.reg rGraphOrderX0 false [] [2, 3]) (.seq (.reg rGraphOrderX1 true [(9, 9), (10, 10), (11, 11), (12, 12), (1, 2), (0, 3), (1, 3), (1, 5), (3, 5), (4, 5), (0, 6), (1, 6), (2, 6), (3, 6), (4, 6), (1, 7), (3, 7), (4, 7), (6, 7), (0, 8), (1, 8), (2, 8), (3, 8), (4, 8), (5, 8), (6, 8)] [4]) .ret))
def qGraphOrder : AFn := ⟨17, 2, [.t 4], cGraphOrder⟩
/- math/bits.OnesCount64 -/
def rMathBitsOnesCount64X0 : List O := [
  ⟨(some 2), none, .mv (.k (.int .i64 0))⟩]
def rMathBitsOnesCount64X1 : List O := [
  ⟨(some 3), none, .mv (.t 0)⟩,
  ⟨(some 4), none, .bin .shr (.t 3) (.k (.int .u64 1))⟩,
  ⟨(some 5), none, .bin .and (.t 4) (.k (.int .u64 6148914691236517205))⟩,
  ⟨(some 6), none, .mv (.t 0)⟩,
  ⟨(some 7), none, .bin .and (.t 6) (.k (.int .u64 6148914691236517205))⟩,
  ⟨(some 8), none, .bin .add (.t 5) (.t 7)⟩,
  ⟨(some 0), none, .mv (.t 8)⟩]
def rMathBitsOnesCount64X2 : List O := [
  ⟨(some 9), none, .mv (.t 0)⟩,
  ⟨(some 10), none, .bin .shr (.t 9) (.k (.int .u64 2))⟩,
  ⟨(some 11), none, .bin .and (.t 10) (.k (.int .u64 3689348814741910323))⟩,
  ⟨(some 12), none, .mv (.t 0)⟩,
  ⟨(some 13), none, .bin .and (.t 12) (.k (.int .u64 3689348814741910323))⟩,
  ⟨(some 14), none, .bin .add (.t 11) (.t 13)⟩,
  ⟨(some 0), none, .mv (.t 14)⟩]
def rMathBitsOnesCount64X3 : List O := [
  ⟨(some 15), none, .mv (.t 0)⟩,
  ⟨(some 16), none, .bin .shr (.t 15) (.k (.int .u64 4))⟩,
  ⟨(some 17), none, .mv (.t 0)⟩,
  ⟨(some 18), none, .bin .add (.t 16) (.t 17)⟩,
  ⟨(some 19), none, .bin .and (.t 18) (.k (.int .u64 1085102592571150095))⟩,
  ⟨(some 0), none, .mv (.t 19)⟩]
def rMathBitsOnesCount64X4 : List O := [
  ⟨(some 20), none, .mv (.t 0)⟩,
  ⟨(some 21), none, .mv (.t 0)⟩,
  ⟨(some 22), none, .bin .shr (.t 21) (.k (.int .u64 8))⟩,
  ⟨(some 23), none, .bin .add (.t 20) (.t 22)⟩,
  ⟨(some 0), none, .mv (.t 23)⟩]
def rMathBitsOnesCount64X5 : List O := [
  ⟨(some 24), none, .mv (.t 0)⟩,
  ⟨(some 25), none, .mv (.t 0)⟩,
  ⟨(some 26), none, .bin .shr (.t 25) (.k (.int .u64 16))⟩,
  ⟨(some 27), none, .bin .add (.t 24) (.t 26)⟩,
  ⟨(some 0), none, .mv (.t 27)⟩]
def rMathBitsOnesCount64X6 : List O := [
  ⟨(some 28), none, .mv (.t 0)⟩,
  ⟨(some 29), none, .mv (.t 0)⟩,
  ⟨(some 30), none, .bin .shr (.t 29) (.k (.int .u64 32))⟩,
  ⟨(some 31), none, .bin .add (.t 28) (.t 30)⟩,
  ⟨(some 0), none, .mv (.t 31)⟩]
def rMathBitsOnesCount64X7 : List O := [
  ⟨(some 32), none, .mv (.t 0)⟩,
  ⟨(some 33), none, .cvt .i64 (.t 32)⟩,
  ⟨(some 34), none, .bin .and (.t 33) (.k (.int .i64 127))⟩,
  ⟨(some 2), none, .mv (.t 34)⟩]
def cMathBitsOnesCount64 : C := (.seq (.reg rMathBitsOnesCount64X0 false [] [0]) (.seq (.reg rMathBitsOnesCount64X1 false [] [0]) (.seq (.reg rMathBitsOnesCount64X2 false [] [0]) (.seq (.reg rMathBitsOnesCount64X3 false [] [0]) (.seq (.reg rMathBitsOnesCount64X4 false [] [0]) (.seq (.reg rMathBitsOnesCount64X5 false [] [0]) (.seq (.reg rMathBitsOnesCount64X6 false [] [0]) (.seq (.reg rMathBitsOnesCount64X7 false [] [2]) .ret))))))))
def qMathBitsOnesCount64 : AFn := ⟨35, 1, [.t 2], cMathBitsOnesCount64⟩
/- cmp.Or[int] -/
def rCmpOrIntX0 : List O := [
  ⟨(some 2), none, .mv (.k (.int .i64 0))⟩]
def rCmpOrIntX1 : List O := [
  ⟨(some 3), none, .mv (.k (.int .i64 0))⟩]
def rCmpOrIntX2 : List O := [
  ⟨(some 6), none, .mv (.t 0)⟩,
  ⟨(some 7), none, .len (.t 6)⟩,
  ⟨(some 8), none, .mv (.k (.int .i64 0))⟩]
def rCmpOrIntX3 : List O := [
  ⟨(some 9), none, .bin .lss (.t 8) (.t 7)⟩]
def rCmpOrIntX4 : List O := [
  ⟨(some 10), none, .ixa 1 (.t 6) (.t 8)⟩,
  ⟨(some 11), none, .ld none (.t 10)⟩,
  ⟨(some 5), none, .mv (.t 11)⟩]
def rCmpOrIntX5 : List O := [
  ⟨(some 12), none, .mv (.t 5)⟩,
  ⟨(some 13), none, .mv (.t 3)⟩,
  ⟨(some 14), none, .bin .neq (.t 12) (.t 13)⟩]
def rCmpOrIntX6 : List O := [
  ⟨(some 15), none, .mv (.t 5)⟩,
  ⟨(some 2), none, .mv (.t 15)⟩]
def rCmpOrIntX7 : List O := [
  ⟨(some 16), none, .bin .add (.t 8) (.k (.int .i64 1))⟩,
  ⟨(some 8), none, .mv (.t 16)⟩]
def lCmpOrIntX0 : C := (.seq (.reg rCmpOrIntX3 false [] [3, 6, 7, 8, 9]) (.seq (.cond (.t 9) .skip (.exit 0)) (.seq (.blk 1 (.seq (.reg rCmpOrIntX4 false [] [3, 5, 6, 7, 8]) (.seq (.reg rCmpOrIntX5 false [] [3, 5, 6, 7, 8, 14]) (.cond (.t 14) (.seq (.reg rCmpOrIntX6 false [] [2]) .ret) .skip)))) (.reg rCmpOrIntX7 false [] [3, 6, 7, 8]))))
def rCmpOrIntX8 : List O := [
  ⟨(some 17), none, .mv (.t 3)⟩,
  ⟨(some 2), none, .mv (.t 17)⟩]
def cCmpOrInt : C := (.seq (.reg rCmpOrIntX0 false [] [0]) (.seq (.reg rCmpOrIntX1 false [] [0, 3]) (.seq (.seq (.reg rCmpOrIntX2 false [] [3, 6, 7, 8]) (.blk 0 (.loop lCmpOrIntX0))) (.seq (.reg rCmpOrIntX8 false [] [2]) .ret))))
def qCmpOrInt : AFn := ⟨18, 1, [.t 2], cCmpOrInt⟩
/- cmp.Compare[int] -/
def rCmpCompareIntX0 : List O := [
  ⟨(some 4), none, .mv (.k (.int .i64 0))⟩]
def rCmpCompareIntX1 : List O := [
  ⟨(some 7), none, .mv (.t 0)⟩,
  ⟨(some 8), none, .call nCmpIsNaNInt [(.t 7)]⟩,
  ⟨(some 5), none, .mv (.t 8)⟩]
def rCmpCompareIntX2 : List O := [
  ⟨(some 9), none, .mv (.t 1)⟩,
  ⟨(some 10), none, .call nCmpIsNaNInt [(.t 9)]⟩,
  ⟨(some 6), none, .mv (.t 10)⟩]
def rCmpCompareIntX3 : List O := [
  ⟨(some 11), none, .mv (.t 5)⟩]
def rCmpCompareIntX4 : List O := [
  ⟨(some 12), none, .mv (.t 6)⟩]
def rCmpCompareIntX5 : List O := [
  ⟨(some 4), none, .mv (.k (.int .i64 0))⟩]
def rCmpCompareIntX6 : List O := [
  ⟨(some 4), none, .mv (.k (.int .i64 (-1)))⟩]
def rCmpCompareIntX7 : List O := [
  ⟨(some 13), none, .mv (.t 6)⟩]
def rCmpCompareIntX8 : List O := [
  ⟨(some 4), none, .mv (.k (.int .i64 1))⟩]
def rCmpCompareIntX9 : List O := [
  ⟨(some 14), none, .mv (.t 0)⟩,
  ⟨(some 15), none, .mv (.t 1)⟩,
  ⟨(some 16), none, .bin .lss (.t 14) (.t 15)⟩]
def rCmpCompareIntX10 : List O := [
  ⟨(some 4), none, .mv (.k (.int .i64 (-1)))⟩]
def rCmpCompareIntX11 : List O := [
  ⟨(some 17), none, .mv (.t 0)⟩,
  ⟨(some 18), none, .mv (.t 1)⟩,
  ⟨(some 19), none, .bin .gtr (.t 17) (.t 18)⟩]
def rCmpCompareIntX12 : List O := [
  ⟨(some 4), none, .mv (.k (.int .i64 1))⟩]
def rCmpCompareIntX13 : List O := [
  ⟨(some 4), none, .mv (.k (.int .i64 0))⟩]
def cCmpCompareInt : C := (.seq (.reg rCmpCompareIntX0 false [] [0, 1]) (.seq (.reg rCmpCompareIntX1 false [] [0, 1, 5]) (.seq (.reg rCmpCompareIntX2 false [] [0, 1, 5, 6]) (.seq (.seq (.reg rCmpCompareIntX3 false [] [0, 1, 6, 11]) (.cond (.t 11) (.seq (.seq (.reg rCmpCompareIntX4 false [] [12]) (.cond (.t 12) (.seq (.reg rCmpCompareIntX5 false [] [4]) .ret) .skip)) (.seq (.reg rCmpCompareIntX6 false [] [4]) .ret)) .skip)) (.seq (.seq (.reg rCmpCompareIntX7 false [] [0, 1, 13]) (.cond (.t 13) (.seq (.reg rCmpCompareIntX8 false [] [4]) .ret) .skip)) (.seq (.seq (.reg rCmpCompareIntX9 false [] [0, 1, 16]) (.cond (.t 16) (.seq (.reg rCmpCompareIntX10 false [] [4]) .ret) .skip)) (.seq (.seq (.reg rCmpCompareIntX11 false [] [19]) (.cond (.t 19) (.seq (.reg rCmpCompareIntX12 false [] [4]) .ret) .skip)) (.seq (.reg rCmpCompareIntX13 false [] [4]) .ret))))))))
def qCmpCompareInt : AFn := ⟨20, 2, [.t 4], cCmpCompareInt⟩
/- cmp.isNaN[int] -/
def rCmpIsNaNIntX0 : List O := [
  ⟨(some 2), none, .mv (.k (.bool false))⟩]
def rCmpIsNaNIntX1 : List O := [
  ⟨(some 3), none, .mv (.t 0)⟩,
  ⟨(some 4), none, .mv (.t 0)⟩,
  ⟨(some 5), none, .bin .neq (.t 3) (.t 4)⟩,
  ⟨(some 2), none, .mv (.t 5)⟩]
def cCmpIsNaNInt : C := (.seq (.reg rCmpIsNaNIntX0 false [] [0]) (.seq (.reg rCmpIsNaNIntX1 false [] [2]) .ret))
def qCmpIsNaNInt : AFn := ⟨6, 1, [.t 2], cCmpIsNaNInt⟩
abbrev Md := Go.Bm.Md
abbrev Cfg := Go.Bm.Cfg
def look : List (Nat × Md × AFn) → Nat → Option (Md × AFn)
  | [], _ => none
  | (j, m, q) :: r, i => if i = j then some (m, q) else look r i
def fns : List (Nat × Md × AFn) := [
  (nLaw09DegreeErdos, ⟨false, false, true⟩, qLaw09DegreeErdos),
  (nMakeMod, ⟨false, false, true⟩, qMakeMod),
  (nDegreeGraphic, ⟨false, false, true⟩, qDegreeGraphic),
  (nLaw09Awake, ⟨false, false, true⟩, qLaw09Awake),
  (nDegreeH, ⟨false, false, true⟩, qDegreeH),
  (nDegreeDegrees, ⟨false, false, false⟩, qDegreeDegrees),
  (nRef02Same, ⟨false, false, true⟩, qRef02Same),
  (nDegreeRealiseN29, ⟨false, false, false⟩, qDegreeRealiseN29),
  (nSlicesCloneIntInt, ⟨false, true, true⟩, qSlicesCloneIntInt),
  (nSlicesSortIntInt, ⟨false, false, true⟩, qSlicesSortIntInt),
  (nGraphCheck, ⟨false, false, true⟩, qGraphCheck),
  (nMasksRows, ⟨false, false, false⟩, qMasksRows),
  (nMasksCount, ⟨false, false, true⟩, qMasksCount),
  (nRef02Cmp, ⟨false, false, true⟩, qRef02Cmp),
  (nGraphOrder, ⟨false, false, true⟩, qGraphOrder),
  (nMathBitsOnesCount64, ⟨false, false, true⟩, qMathBitsOnesCount64),
  (nCmpOrInt, ⟨false, false, true⟩, qCmpOrInt),
  (nCmpCompareInt, ⟨false, false, true⟩, qCmpCompareInt),
  (nCmpIsNaNInt, ⟨false, false, true⟩, qCmpIsNaNInt)]
def cfg : Cfg := ⟨look fns, fun _ => [], fun _ => none, fun _ => none, fun _ => none, fun _ => false, fun _ => false⟩
theorem kLaw09DegreeErdos : chkFB Go.Proofs.Try.prog Go.Proofs.Try.f3 qLaw09DegreeErdos = true := by kernel_rfl
theorem kMakeMod : chkFB Go.Proofs.Try.prog Go.Proofs.Try.f8 qMakeMod = true := by kernel_rfl
theorem kDegreeGraphic : chkFB Go.Proofs.Try.prog Go.Proofs.Try.f9 qDegreeGraphic = true := by kernel_rfl
theorem kLaw09Awake : chkFB Go.Proofs.Try.prog Go.Proofs.Try.f10 qLaw09Awake = true := by kernel_rfl
theorem kDegreeH : chkFB Go.Proofs.Try.prog Go.Proofs.Try.f11 qDegreeH = true := by kernel_rfl
theorem kDegreeDegrees : chkFB Go.Proofs.Try.prog Go.Proofs.Try.f14 qDegreeDegrees = true := by kernel_rfl
theorem kRef02Same : chkFB Go.Proofs.Try.prog Go.Proofs.Try.f20 qRef02Same = true := by kernel_rfl
theorem kDegreeRealiseN29 : chkFB Go.Proofs.Try.prog Go.Proofs.Try.f29 qDegreeRealiseN29 = true := by kernel_rfl
theorem kSlicesCloneIntInt : chkFB Go.Proofs.Try.prog Go.Proofs.Try.f30 qSlicesCloneIntInt = true := by kernel_rfl
theorem kSlicesSortIntInt : chkFB Go.Proofs.Try.prog Go.Proofs.Try.f31 qSlicesSortIntInt = true := by kernel_rfl
theorem kGraphCheck : chkFB Go.Proofs.Try.prog Go.Proofs.Try.f32 qGraphCheck = true := by kernel_rfl
theorem kMasksRows : chkFB Go.Proofs.Try.prog Go.Proofs.Try.f33 qMasksRows = true := by kernel_rfl
theorem kMasksCount : chkFB Go.Proofs.Try.prog Go.Proofs.Try.f34 qMasksCount = true := by kernel_rfl
theorem kRef02Cmp : chkFB Go.Proofs.Try.prog Go.Proofs.Try.f39 qRef02Cmp = true := by kernel_rfl
theorem kGraphOrder : chkFB Go.Proofs.Try.prog Go.Proofs.Try.f49 qGraphOrder = true := by kernel_rfl
theorem kMathBitsOnesCount64 : chkFB Go.Proofs.Try.prog Go.Proofs.Try.f50 qMathBitsOnesCount64 = true := by kernel_rfl
theorem kCmpOrInt : chkFB Go.Proofs.Try.prog Go.Proofs.Try.f72 qCmpOrInt = true := by kernel_rfl
theorem kCmpCompareInt : chkFB Go.Proofs.Try.prog Go.Proofs.Try.f73 qCmpCompareInt = true := by kernel_rfl
theorem kCmpIsNaNInt : chkFB Go.Proofs.Try.prog Go.Proofs.Try.f89 qCmpIsNaNInt = true := by kernel_rfl
theorem look_mem : ∀ {l : List (Nat × Md × AFn)} {f : Nat} {m : Md} {q : AFn}, look l f = some (m, q) → (f, m, q) ∈ l
  | [], f, m, q, h => by simp [look] at h
  | (j, m', q') :: r, f, m, q, h => by
    unfold look at h
    split at h
    · rename_i he; subst he; simp at h; obtain ⟨rfl, rfl⟩ := h; simp
    · exact List.mem_cons_of_mem _ (look_mem h)
def Good (p : Nat × Md × AFn) : Prop := ∃ fn, Go.Proofs.Try.prog.funcs[p.1]? = some fn ∧ chkFB Go.Proofs.Try.prog fn p.2.2 = true
def All (G : Nat × Md × AFn → Prop) : List (Nat × Md × AFn) → Prop
  | [] => True
  | p :: r => G p ∧ All G r
theorem All.get {G : Nat × Md × AFn → Prop} : ∀ {l : List (Nat × Md × AFn)}, All G l → ∀ p ∈ l, G p
  | [], _, p, h => by simp at h
  | q :: r, h, p, hp => by
    rcases List.mem_cons.1 hp with e | e
    · subst e; exact h.1
    · exact All.get h.2 p e
theorem allGood : All Good fns := ⟨⟨_, Go.Proofs.Try.func3, kLaw09DegreeErdos⟩, ⟨_, Go.Proofs.Try.func8, kMakeMod⟩, ⟨_, Go.Proofs.Try.func9, kDegreeGraphic⟩, ⟨_, Go.Proofs.Try.func10, kLaw09Awake⟩, ⟨_, Go.Proofs.Try.func11, kDegreeH⟩, ⟨_, Go.Proofs.Try.func14, kDegreeDegrees⟩, ⟨_, Go.Proofs.Try.func20, kRef02Same⟩, ⟨_, Go.Proofs.Try.func29, kDegreeRealiseN29⟩, ⟨_, Go.Proofs.Try.func30, kSlicesCloneIntInt⟩, ⟨_, Go.Proofs.Try.func31, kSlicesSortIntInt⟩, ⟨_, Go.Proofs.Try.func32, kGraphCheck⟩, ⟨_, Go.Proofs.Try.func33, kMasksRows⟩, ⟨_, Go.Proofs.Try.func34, kMasksCount⟩, ⟨_, Go.Proofs.Try.func39, kRef02Cmp⟩, ⟨_, Go.Proofs.Try.func49, kGraphOrder⟩, ⟨_, Go.Proofs.Try.func50, kMathBitsOnesCount64⟩, ⟨_, Go.Proofs.Try.func72, kCmpOrInt⟩, ⟨_, Go.Proofs.Try.func73, kCmpCompareInt⟩, ⟨_, Go.Proofs.Try.func89, kCmpIsNaNInt⟩, trivial⟩
theorem cfgOK : CfgOKB Go.Proofs.Try.prog cfg := ⟨by kernel_rfl, fun f m q h => allGood.get _ (look_mem h)⟩
theorem gLaw09DegreeErdos : cfg.fn nLaw09DegreeErdos = some (⟨false, false, true⟩, qLaw09DegreeErdos) := rfl
theorem gMakeMod : cfg.fn nMakeMod = some (⟨false, false, true⟩, qMakeMod) := rfl
theorem gDegreeGraphic : cfg.fn nDegreeGraphic = some (⟨false, false, true⟩, qDegreeGraphic) := rfl
theorem gLaw09Awake : cfg.fn nLaw09Awake = some (⟨false, false, true⟩, qLaw09Awake) := rfl
theorem gDegreeH : cfg.fn nDegreeH = some (⟨false, false, true⟩, qDegreeH) := rfl
theorem gDegreeDegrees : cfg.fn nDegreeDegrees = some (⟨false, false, false⟩, qDegreeDegrees) := rfl
theorem gRef02Same : cfg.fn nRef02Same = some (⟨false, false, true⟩, qRef02Same) := rfl
theorem gDegreeRealiseN29 : cfg.fn nDegreeRealiseN29 = some (⟨false, false, false⟩, qDegreeRealiseN29) := rfl
theorem gSlicesCloneIntInt : cfg.fn nSlicesCloneIntInt = some (⟨false, true, true⟩, qSlicesCloneIntInt) := rfl
theorem gSlicesSortIntInt : cfg.fn nSlicesSortIntInt = some (⟨false, false, true⟩, qSlicesSortIntInt) := rfl
theorem gGraphCheck : cfg.fn nGraphCheck = some (⟨false, false, true⟩, qGraphCheck) := rfl
theorem gMasksRows : cfg.fn nMasksRows = some (⟨false, false, false⟩, qMasksRows) := rfl
theorem gMasksCount : cfg.fn nMasksCount = some (⟨false, false, true⟩, qMasksCount) := rfl
theorem gRef02Cmp : cfg.fn nRef02Cmp = some (⟨false, false, true⟩, qRef02Cmp) := rfl
theorem gGraphOrder : cfg.fn nGraphOrder = some (⟨false, false, true⟩, qGraphOrder) := rfl
theorem gMathBitsOnesCount64 : cfg.fn nMathBitsOnesCount64 = some (⟨false, false, true⟩, qMathBitsOnesCount64) := rfl
theorem gCmpOrInt : cfg.fn nCmpOrInt = some (⟨false, false, true⟩, qCmpOrInt) := rfl
theorem gCmpCompareInt : cfg.fn nCmpCompareInt = some (⟨false, false, true⟩, qCmpCompareInt) := rfl
theorem gCmpIsNaNInt : cfg.fn nCmpIsNaNInt = some (⟨false, false, true⟩, qCmpIsNaNInt) := rfl
end Go.BmP
