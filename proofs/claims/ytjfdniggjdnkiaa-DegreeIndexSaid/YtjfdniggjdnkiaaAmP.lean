/- The compact code of the functions, printed by program off the translation. -/
import Derived.Test.YtjfdniggjdnkiaaChecked
import Derived.Test.YtjfdniggjdnkiaaMa
import Derived.KernelRfl
set_option maxRecDepth 100000
namespace Go.AmP
open Go.Am
def nDegreeGraphic : Nat := 9
def nDegreeRealise : Nat := 29
def nSlicesSortFuncDegreeNeedDegreeNeed : Nat := 45
def nDegreeMost : Nat := 46
def nMathBitsLen : Nat := 48
def nSlicesPdqsortCmpFuncDegreeNeed : Nat := 60
def nMathBitsLen64 : Nat := 71
def nSlicesInsertionSortCmpFuncDegreeNeed : Nat := 76
/- cohesion/degree.Graphic -/
def rDegreeGraphicX0 : List O := [
  ⟨(some 2), none, .mv (.k (.bool false))⟩]
def rDegreeGraphicX1 : List O := [
  ⟨(some 5), none, .mv (.t 0)⟩,
  ⟨(some 6), none, .len (.t 5)⟩,
  ⟨(some 7), none, .bin .gtr (.t 6) (.k (.int .i64 64))⟩]
def rDegreeGraphicX2 : List O := [
  ⟨(some 2), none, .mv (.k (.bool false))⟩]
def rDegreeGraphicX3 : List O := [
  ⟨(some 9), none, .mv (.t 0)⟩,
  ⟨(some 10), none, .call nDegreeRealise [(.t 9)]⟩,
  ⟨(some 8), none, .mv (.t 10)⟩,
  ⟨(some 11), none, .ext 0 (.t 8)⟩,
  ⟨(some 12), none, .ext 1 (.t 8)⟩,
  ⟨(some 3), none, .mv (.t 11)⟩,
  ⟨(some 4), none, .mv (.t 12)⟩]
def rDegreeGraphicX4 : List O := [
  ⟨(some 13), none, .mv (.t 4)⟩,
  ⟨(some 2), none, .mv (.t 13)⟩]
def cDegreeGraphic : C := (.seq (.reg rDegreeGraphicX0 false [] [0]) (.seq (.seq (.reg rDegreeGraphicX1 false [] [0, 7]) (.cond (.t 7) (.seq (.reg rDegreeGraphicX2 false [] [2]) .ret) .skip)) (.seq (.reg rDegreeGraphicX3 false [] [4]) (.seq (.reg rDegreeGraphicX4 false [] [2]) .ret))))
def qDegreeGraphic : AFn := ⟨14, 1, [.t 2], cDegreeGraphic⟩
/- cohesion/degree.realise -/
def rDegreeRealiseX0 : List O := [
  ⟨(some 2), none, .mv (.k .nils)⟩,
  ⟨(some 3), none, .mv (.k (.bool false))⟩]
def rDegreeRealiseX1 : List O := [
  ⟨(some 4), none, .mv (.k .nils)⟩]
def rDegreeRealiseX2 : List O := [
  ⟨(some 10), none, .mv (.t 0)⟩,
  ⟨(some 11), none, .len (.t 10)⟩,
  ⟨(some 12), none, .mv (.k (.int .i64 0))⟩]
def rDegreeRealiseX3 : List O := [
  ⟨(some 13), none, .bin .lss (.t 12) (.t 11)⟩]
def rDegreeRealiseX4 : List O := [
  ⟨(some 14), none, .mv (.t 12)⟩,
  ⟨(some 15), none, .ixa 1 (.t 10) (.t 12)⟩,
  ⟨(some 16), none, .ld none (.t 15)⟩,
  ⟨(some 5), none, .mv (.t 14)⟩,
  ⟨(some 6), none, .mv (.t 16)⟩]
def rDegreeRealiseX5 : List O := [
  ⟨(some 17), none, .mv (.t 6)⟩,
  ⟨(some 18), none, .bin .lss (.t 17) (.k (.int .i64 0))⟩,
  ⟨(some 19), none, .mv (.t 18)⟩,
  ⟨(some 20), (some (19, false)), .mv (.t 6)⟩,
  ⟨(some 21), (some (19, false)), .mv (.t 0)⟩,
  ⟨(some 22), (some (19, false)), .len (.t 21)⟩,
  ⟨(some 23), (some (19, false)), .bin .geq (.t 20) (.t 22)⟩,
  ⟨(some 24), none, .pick (.t 19) (.k (.bool true)) (.t 23)⟩]
def rDegreeRealiseX6 : List O := [
  ⟨(some 2), none, .mv (.k .nils)⟩,
  ⟨(some 3), none, .mv (.k (.bool false))⟩]
def rDegreeRealiseX7 : List O := [
  ⟨(some 25), none, .mv (.t 4)⟩,
  ⟨(some 26), none, .mv (.t 5)⟩,
  ⟨(some 27), none, .mv (.t 6)⟩,
  ⟨(some 28), none, .build [(.int .i64 0), (.int .i64 0)] [(0, 1, (.t 26)), (1, 1, (.t 27))]⟩,
  ⟨(some 29), none, .bslice 2 1 [(.int .i64 0), (.int .i64 0)] [(0, 2, (.t 28))]⟩,
  ⟨(some 30), none, .app 2 (.t 25) (.t 29)⟩,
  ⟨(some 4), none, .mv (.t 30)⟩]
def rDegreeRealiseX8 : List O := [
  ⟨(some 31), none, .bin .add (.t 12) (.k (.int .i64 1))⟩,
  ⟨(some 12), none, .mv (.t 31)⟩]
def lDegreeRealiseX0 : C := (.seq (.reg rDegreeRealiseX3 false [] [0, 4, 10, 11, 12, 13]) (.seq (.cond (.t 13) .skip (.exit 0)) (.seq (.blk 1 (.seq (.reg rDegreeRealiseX4 false [] [0, 4, 5, 6, 10, 11, 12]) (.seq (.seq (.reg rDegreeRealiseX5 false [] [0, 4, 5, 6, 10, 11, 12, 24]) (.cond (.t 24) (.seq (.reg rDegreeRealiseX6 false [] [2, 3]) .ret) .skip)) (.reg rDegreeRealiseX7 false [] [0, 4, 10, 11, 12])))) (.reg rDegreeRealiseX8 false [] [0, 4, 10, 11, 12]))))
def rDegreeRealiseX9 : List O := [
  ⟨(some 7), none, .mv (.k .nils)⟩]
def rDegreeRealiseX10 : List O := [
  ⟨(some 32), none, .mv (.t 4)⟩,
  ⟨(some 33), none, .len (.t 32)⟩,
  ⟨(some 34), none, .bin .gtr (.t 33) (.k (.int .i64 0))⟩]
def rDegreeRealiseX11 : List O := [
  ⟨(some 35), none, .mv (.t 4)⟩,
  ⟨(some 36), none, .call nSlicesSortFuncDegreeNeedDegreeNeed [(.t 35), (.k (.func (.func nDegreeMost) [] []))]⟩]
def rDegreeRealiseX12 : List O := [
  ⟨(some 37), none, .mv (.t 4)⟩,
  ⟨(some 38), none, .ixa 2 (.t 37) (.k (.int .i64 0))⟩,
  ⟨(some 39), none, .ld (some 2) (.t 38)⟩,
  ⟨(some 8), none, .new [(.int .i64 0), (.int .i64 0)]⟩,
  ⟨none, none, .st 2 (.t 8) (.t 39)⟩]
def rDegreeRealiseX13 : List O := [
  ⟨(some 40), none, .mv (.t 4)⟩,
  ⟨(some 41), none, .slc 2 (.t 40) (some (.k (.int .i64 1))) none⟩,
  ⟨(some 4), none, .mv (.t 41)⟩]
def rDegreeRealiseX14 : List O := [
  ⟨(some 42), none, .fad 1 (.t 8)⟩,
  ⟨(some 43), none, .ld none (.t 42)⟩,
  ⟨(some 44), none, .mv (.t 4)⟩,
  ⟨(some 45), none, .len (.t 44)⟩,
  ⟨(some 46), none, .bin .gtr (.t 43) (.t 45)⟩]
def rDegreeRealiseX15 : List O := [
  ⟨(some 2), none, .mv (.k .nils)⟩,
  ⟨(some 3), none, .mv (.k (.bool false))⟩]
def rDegreeRealiseX16 : List O := [
  ⟨(some 47), none, .fad 1 (.t 8)⟩,
  ⟨(some 48), none, .ld none (.t 47)⟩,
  ⟨(some 49), none, .mv (.k (.int .i64 0))⟩]
def rDegreeRealiseX17 : List O := [
  ⟨(some 50), none, .bin .lss (.t 49) (.t 48)⟩]
def rDegreeRealiseX18 : List O := [
  ⟨(some 51), none, .mv (.t 49)⟩,
  ⟨(some 9), none, .mv (.t 51)⟩]
def rDegreeRealiseX19 : List O := [
  ⟨(some 52), none, .mv (.t 4)⟩,
  ⟨(some 53), none, .mv (.t 9)⟩,
  ⟨(some 54), none, .ixa 2 (.t 52) (.t 53)⟩,
  ⟨(some 55), none, .fad 1 (.t 54)⟩,
  ⟨(some 56), none, .ld none (.t 55)⟩,
  ⟨(some 57), none, .bin .eql (.t 56) (.k (.int .i64 0))⟩]
def rDegreeRealiseX20 : List O := [
  ⟨(some 2), none, .mv (.k .nils)⟩,
  ⟨(some 3), none, .mv (.k (.bool false))⟩]
def rDegreeRealiseX21 : List O := [
  ⟨(some 58), none, .mv (.t 4)⟩,
  ⟨(some 59), none, .mv (.t 9)⟩,
  ⟨(some 60), none, .ixa 2 (.t 58) (.t 59)⟩,
  ⟨(some 61), none, .fad 1 (.t 60)⟩,
  ⟨(some 62), none, .ld none (.t 61)⟩,
  ⟨(some 63), none, .bin .sub (.t 62) (.k (.int .i64 1))⟩,
  ⟨(some 64), none, .ixa 2 (.t 58) (.t 59)⟩,
  ⟨(some 65), none, .fad 1 (.t 64)⟩,
  ⟨none, none, .st 1 (.t 65) (.t 63)⟩]
def rDegreeRealiseX22 : List O := [
  ⟨(some 66), none, .mv (.t 7)⟩,
  ⟨(some 67), none, .fad 0 (.t 8)⟩,
  ⟨(some 68), none, .ld none (.t 67)⟩,
  ⟨(some 69), none, .mv (.t 4)⟩,
  ⟨(some 70), none, .mv (.t 9)⟩,
  ⟨(some 71), none, .ixa 2 (.t 69) (.t 70)⟩,
  ⟨(some 72), none, .fad 0 (.t 71)⟩,
  ⟨(some 73), none, .ld none (.t 72)⟩,
  ⟨(some 74), none, .build [(.int .i64 0), (.int .i64 0)] [(0, 1, (.t 68)), (1, 1, (.t 73))]⟩,
  ⟨(some 75), none, .bslice 2 1 [(.int .i64 0), (.int .i64 0)] [(0, 2, (.t 74))]⟩,
  ⟨(some 76), none, .app 2 (.t 66) (.t 75)⟩,
  ⟨(some 7), none, .mv (.t 76)⟩]
def rDegreeRealiseX23 : List O := [
  ⟨(some 77), none, .bin .add (.t 49) (.k (.int .i64 1))⟩,
  ⟨(some 49), none, .mv (.t 77)⟩]
def lDegreeRealiseX1 : C := (.seq (.reg rDegreeRealiseX17 false [] [4, 7, 8, 48, 49, 50]) (.seq (.cond (.t 50) .skip (.exit 4)) (.seq (.blk 5 (.seq (.reg rDegreeRealiseX18 false [] [4, 7, 8, 9, 48, 49]) (.seq (.seq (.reg rDegreeRealiseX19 false [] [4, 7, 8, 9, 48, 49, 57]) (.cond (.t 57) (.seq (.reg rDegreeRealiseX20 false [] [2, 3]) .ret) .skip)) (.seq (.reg rDegreeRealiseX21 false [] [4, 7, 8, 9, 48, 49]) (.reg rDegreeRealiseX22 true [(2, 7)] [4, 7, 8, 48, 49]))))) (.reg rDegreeRealiseX23 false [] [4, 7, 8, 48, 49]))))
def lDegreeRealiseX2 : C := (.seq (.seq (.reg rDegreeRealiseX10 false [] [4, 7, 34]) (.cond (.t 34) .skip (.exit 2))) (.blk 3 (.seq (.reg rDegreeRealiseX11 false [] [4, 7]) (.seq (.reg rDegreeRealiseX12 false [] [4, 7, 8]) (.seq (.reg rDegreeRealiseX13 false [] [4, 7, 8]) (.seq (.seq (.reg rDegreeRealiseX14 false [] [4, 7, 8, 46]) (.cond (.t 46) (.seq (.reg rDegreeRealiseX15 false [] [2, 3]) .ret) .skip)) (.seq (.reg rDegreeRealiseX16 false [] [4, 7, 8, 48, 49]) (.blk 4 (.loop lDegreeRealiseX1)))))))))
def rDegreeRealiseX24 : List O := [
  ⟨(some 78), none, .mv (.t 7)⟩,
  ⟨(some 2), none, .mv (.t 78)⟩,
  ⟨(some 3), none, .mv (.k (.bool true))⟩]
def cDegreeRealise : C := (.seq (.reg rDegreeRealiseX0 false [] [0]) (.seq (.reg rDegreeRealiseX1 false [] [0, 4]) (.seq (.seq (.reg rDegreeRealiseX2 false [] [0, 4, 10, 11, 12]) (.blk 0 (.loop lDegreeRealiseX0))) (.seq (.reg rDegreeRealiseX9 false [] [4, 7]) (.seq (.blk 2 (.loop lDegreeRealiseX2)) (.seq (.reg rDegreeRealiseX24 false [] [2, 3]) .ret))))))
def qDegreeRealise : AFn := ⟨79, 1, [.t 2, .t 3], cDegreeRealise⟩
/- slices.SortFunc[[]cohesion/degree.need,cohesion/degree.need] -/
def rSlicesSortFuncDegreeNeedDegreeNeedX0 : List O := [
  ⟨(some 5), none, .mv (.t 0)⟩,
  ⟨(some 6), none, .len (.t 5)⟩,
  ⟨(some 4), none, .mv (.t 6)⟩]
def rSlicesSortFuncDegreeNeedDegreeNeedX1 : List O := [
  ⟨(some 7), none, .mv (.t 0)⟩,
  ⟨(some 8), none, .mv (.t 4)⟩,
  ⟨(some 9), none, .mv (.t 4)⟩,
  ⟨(some 10), none, .cvt .u64 (.t 9)⟩,
  ⟨(some 11), none, .call nMathBitsLen [(.t 10)]⟩,
  ⟨(some 12), none, .mv (.t 1)⟩,
  ⟨(some 13), none, .call nSlicesPdqsortCmpFuncDegreeNeed [(.t 7), (.k (.int .i64 0)), (.t 8), (.t 11), (.t 12)]⟩]
def cSlicesSortFuncDegreeNeedDegreeNeed : C := (.seq (.reg rSlicesSortFuncDegreeNeedDegreeNeedX0 false [] [0, 1, 4]) (.reg rSlicesSortFuncDegreeNeedDegreeNeedX1 false [] []))
def qSlicesSortFuncDegreeNeedDegreeNeed : AFn := ⟨14, 2, [], cSlicesSortFuncDegreeNeedDegreeNeed⟩
/- cohesion/degree.most -/
def rDegreeMostX0 : List O := [
  ⟨(some 2), none, .box (.t 0)⟩,
  ⟨(some 3), none, .box (.t 1)⟩,
  ⟨(some 4), none, .mv (.k (.int .i64 0))⟩]
def rDegreeMostX1 : List O := [
  ⟨(some 5), none, .fad 1 (.t 2)⟩,
  ⟨(some 6), none, .ld none (.t 5)⟩,
  ⟨(some 7), none, .fad 1 (.t 3)⟩,
  ⟨(some 8), none, .ld none (.t 7)⟩,
  ⟨(some 9), none, .bin .neq (.t 6) (.t 8)⟩]
def rDegreeMostX2 : List O := [
  ⟨(some 10), none, .fad 1 (.t 3)⟩,
  ⟨(some 11), none, .ld none (.t 10)⟩,
  ⟨(some 12), none, .fad 1 (.t 2)⟩,
  ⟨(some 13), none, .ld none (.t 12)⟩,
  ⟨(some 14), none, .bin .sub (.t 11) (.t 13)⟩,
  ⟨(some 4), none, .mv (.t 14)⟩]
def rDegreeMostX3 : List O := [
  ⟨(some 15), none, .fad 0 (.t 2)⟩,
  ⟨(some 16), none, .ld none (.t 15)⟩,
  ⟨(some 17), none, .fad 0 (.t 3)⟩,
  ⟨(some 18), none, .ld none (.t 17)⟩,
  ⟨(some 19), none, .bin .sub (.t 16) (.t 18)⟩,
  ⟨(some 4), none, .mv (.t 19)⟩]
def cDegreeMost : C := (.seq (.reg rDegreeMostX0 false [] [2, 3]) (.seq (.seq (.reg rDegreeMostX1 false [] [2, 3, 9]) (.cond (.t 9) (.seq (.reg rDegreeMostX2 false [] [4]) .ret) .skip)) (.seq (.reg rDegreeMostX3 false [] [4]) .ret)))
def qDegreeMost : AFn := ⟨20, 2, [.t 4], cDegreeMost⟩
/- math/bits.Len -/
def rMathBitsLenX0 : List O := [
  ⟨(some 2), none, .mv (.k (.int .i64 0))⟩]
def rMathBitsLenX1 : List O := [
  ⟨(some 3), none, .mv (.t 0)⟩,
  ⟨(some 4), none, .cvt .u32 (.t 3)⟩,
  ⟨(some 5), none, .call 70 [(.t 4)]⟩,
  ⟨(some 2), none, .mv (.t 5)⟩]
def rMathBitsLenX2 : List O := [
  ⟨(some 6), none, .mv (.t 0)⟩,
  ⟨(some 7), none, .call nMathBitsLen64 [(.t 6)]⟩,
  ⟨(some 2), none, .mv (.t 7)⟩]
def cMathBitsLen : C := (.seq (.reg rMathBitsLenX0 false [] [0]) (.seq (.cond (.k (.bool false)) (.seq (.reg rMathBitsLenX1 false [] [2]) .ret) .skip) (.seq (.reg rMathBitsLenX2 false [] [2]) .ret)))
def qMathBitsLen : AFn := ⟨8, 1, [.t 2], cMathBitsLen⟩
/- slices.pdqsortCmpFunc[cohesion/degree.need] -/
def rSlicesPdqsortCmpFuncDegreeNeedX0 : List O := [
  ⟨(some 10), none, .mv (.k (.bool true))⟩]
def rSlicesPdqsortCmpFuncDegreeNeedX1 : List O := [
  ⟨(some 11), none, .mv (.k (.bool true))⟩]
def rSlicesPdqsortCmpFuncDegreeNeedX2 : List O := [
  ⟨(some 21), none, .mv (.t 2)⟩,
  ⟨(some 22), none, .mv (.t 1)⟩,
  ⟨(some 23), none, .bin .sub (.t 21) (.t 22)⟩,
  ⟨(some 12), none, .mv (.t 23)⟩]
def rSlicesPdqsortCmpFuncDegreeNeedX3 : List O := [
  ⟨(some 24), none, .mv (.t 12)⟩,
  ⟨(some 25), none, .bin .leq (.t 24) (.k (.int .i64 12))⟩]
def rSlicesPdqsortCmpFuncDegreeNeedX4 : List O := [
  ⟨(some 26), none, .mv (.t 0)⟩,
  ⟨(some 27), none, .mv (.t 1)⟩,
  ⟨(some 28), none, .mv (.t 2)⟩,
  ⟨(some 29), none, .mv (.t 4)⟩,
  ⟨(some 30), none, .call nSlicesInsertionSortCmpFuncDegreeNeed [(.t 26), (.t 27), (.t 28), (.t 29)]⟩]
def rSlicesPdqsortCmpFuncDegreeNeedX5 : List O := [
  ⟨(some 31), none, .mv (.t 3)⟩,
  ⟨(some 32), none, .bin .eql (.t 31) (.k (.int .i64 0))⟩]
def rSlicesPdqsortCmpFuncDegreeNeedX6 : List O := [
  ⟨(some 33), none, .mv (.t 0)⟩,
  ⟨(some 34), none, .mv (.t 1)⟩,
  ⟨(some 35), none, .mv (.t 2)⟩,
  ⟨(some 36), none, .mv (.t 4)⟩,
  ⟨(some 37), none, .call 77 [(.t 33), (.t 34), (.t 35), (.t 36)]⟩]
def rSlicesPdqsortCmpFuncDegreeNeedX7 : List O := [
  ⟨(some 38), none, .mv (.t 10)⟩,
  ⟨(some 39), none, .un .not (.t 38)⟩]
def rSlicesPdqsortCmpFuncDegreeNeedX8 : List O := [
  ⟨(some 40), none, .mv (.t 0)⟩,
  ⟨(some 41), none, .mv (.t 1)⟩,
  ⟨(some 42), none, .mv (.t 2)⟩,
  ⟨(some 43), none, .mv (.t 4)⟩,
  ⟨(some 44), none, .call 78 [(.t 40), (.t 41), (.t 42), (.t 43)]⟩]
def rSlicesPdqsortCmpFuncDegreeNeedX9 : List O := [
  ⟨(some 45), none, .mv (.t 3)⟩,
  ⟨(some 46), none, .bin .sub (.t 45) (.k (.int .i64 1))⟩,
  ⟨(some 3), none, .mv (.t 46)⟩]
def rSlicesPdqsortCmpFuncDegreeNeedX10 : List O := [
  ⟨(some 48), none, .mv (.t 0)⟩,
  ⟨(some 49), none, .mv (.t 1)⟩,
  ⟨(some 50), none, .mv (.t 2)⟩,
  ⟨(some 51), none, .mv (.t 4)⟩,
  ⟨(some 52), none, .call 79 [(.t 48), (.t 49), (.t 50), (.t 51)]⟩,
  ⟨(some 47), none, .mv (.t 52)⟩,
  ⟨(some 53), none, .ext 0 (.t 47)⟩,
  ⟨(some 54), none, .ext 1 (.t 47)⟩,
  ⟨(some 13), none, .mv (.t 53)⟩,
  ⟨(some 14), none, .mv (.t 54)⟩]
def rSlicesPdqsortCmpFuncDegreeNeedX11 : List O := [
  ⟨(some 55), none, .mv (.t 14)⟩,
  ⟨(some 56), none, .bin .eql (.t 55) (.k (.int .i64 2))⟩]
def rSlicesPdqsortCmpFuncDegreeNeedX12 : List O := [
  ⟨(some 57), none, .mv (.t 0)⟩,
  ⟨(some 58), none, .mv (.t 1)⟩,
  ⟨(some 59), none, .mv (.t 2)⟩,
  ⟨(some 60), none, .mv (.t 4)⟩,
  ⟨(some 61), none, .call 80 [(.t 57), (.t 58), (.t 59), (.t 60)]⟩]
def rSlicesPdqsortCmpFuncDegreeNeedX13 : List O := [
  ⟨(some 62), none, .mv (.t 2)⟩,
  ⟨(some 63), none, .bin .sub (.t 62) (.k (.int .i64 1))⟩,
  ⟨(some 64), none, .mv (.t 13)⟩,
  ⟨(some 65), none, .mv (.t 1)⟩,
  ⟨(some 66), none, .bin .sub (.t 64) (.t 65)⟩,
  ⟨(some 67), none, .bin .sub (.t 63) (.t 66)⟩,
  ⟨(some 13), none, .mv (.t 67)⟩]
def rSlicesPdqsortCmpFuncDegreeNeedX14 : List O := [
  ⟨(some 14), none, .mv (.k (.int .i64 1))⟩]
def rSlicesPdqsortCmpFuncDegreeNeedX15 : List O := [
  ⟨(some 68), none, .mv (.t 10)⟩,
  ⟨(some 69), none, .mv (.t 68)⟩,
  ⟨(some 70), (some (69, true)), .mv (.t 11)⟩,
  ⟨(some 71), none, .pick (.t 69) (.t 70) (.k (.bool false))⟩,
  ⟨(some 72), none, .mv (.t 71)⟩,
  ⟨(some 73), (some (72, true)), .mv (.t 14)⟩,
  ⟨(some 74), (some (72, true)), .bin .eql (.t 73) (.k (.int .i64 1))⟩,
  ⟨(some 75), none, .pick (.t 72) (.t 74) (.k (.bool false))⟩]
def rSlicesPdqsortCmpFuncDegreeNeedX16 : List O := [
  ⟨(some 76), none, .mv (.t 0)⟩,
  ⟨(some 77), none, .mv (.t 1)⟩,
  ⟨(some 78), none, .mv (.t 2)⟩,
  ⟨(some 79), none, .mv (.t 4)⟩,
  ⟨(some 80), none, .call 81 [(.t 76), (.t 77), (.t 78), (.t 79)]⟩]
def rSlicesPdqsortCmpFuncDegreeNeedX17 : List O := [
  ⟨(some 81), none, .mv (.t 1)⟩,
  ⟨(some 82), none, .bin .gtr (.t 81) (.k (.int .i64 0))⟩,
  ⟨(some 83), none, .mv (.t 82)⟩,
  ⟨(some 84), (some (83, true)), .mv (.t 4)⟩,
  ⟨(some 85), (some (83, true)), .mv (.t 0)⟩,
  ⟨(some 86), (some (83, true)), .mv (.t 1)⟩,
  ⟨(some 87), (some (83, true)), .bin .sub (.t 86) (.k (.int .i64 1))⟩,
  ⟨(some 88), (some (83, true)), .ixa 2 (.t 85) (.t 87)⟩,
  ⟨(some 89), (some (83, true)), .ld (some 2) (.t 88)⟩,
  ⟨(some 90), (some (83, true)), .mv (.t 0)⟩,
  ⟨(some 91), (some (83, true)), .mv (.t 13)⟩,
  ⟨(some 92), (some (83, true)), .ixa 2 (.t 90) (.t 91)⟩,
  ⟨(some 93), (some (83, true)), .ld (some 2) (.t 92)⟩,
  ⟨(some 94), (some (83, true)), .callv (.t 84) [(.t 89), (.t 93)]⟩,
  ⟨(some 95), (some (83, true)), .bin .lss (.t 94) (.k (.int .i64 0))⟩,
  ⟨(some 96), (some (83, true)), .un .not (.t 95)⟩,
  ⟨(some 97), none, .pick (.t 83) (.t 96) (.k (.bool false))⟩]
def rSlicesPdqsortCmpFuncDegreeNeedX18 : List O := [
  ⟨(some 98), none, .mv (.t 0)⟩,
  ⟨(some 99), none, .mv (.t 1)⟩,
  ⟨(some 100), none, .mv (.t 2)⟩,
  ⟨(some 101), none, .mv (.t 13)⟩,
  ⟨(some 102), none, .mv (.t 4)⟩,
  ⟨(some 103), none, .call 82 [(.t 98), (.t 99), (.t 100), (.t 101), (.t 102)]⟩,
  ⟨(some 15), none, .mv (.t 103)⟩]
def rSlicesPdqsortCmpFuncDegreeNeedX19 : List O := [
  ⟨(some 104), none, .mv (.t 15)⟩,
  ⟨(some 1), none, .mv (.t 104)⟩]
def rSlicesPdqsortCmpFuncDegreeNeedX20 : List O := [
  ⟨(some 106), none, .mv (.t 0)⟩,
  ⟨(some 107), none, .mv (.t 1)⟩,
  ⟨(some 108), none, .mv (.t 2)⟩,
  ⟨(some 109), none, .mv (.t 13)⟩,
  ⟨(some 110), none, .mv (.t 4)⟩,
  ⟨(some 111), none, .call 83 [(.t 106), (.t 107), (.t 108), (.t 109), (.t 110)]⟩,
  ⟨(some 105), none, .mv (.t 111)⟩,
  ⟨(some 112), none, .ext 0 (.t 105)⟩,
  ⟨(some 113), none, .ext 1 (.t 105)⟩,
  ⟨(some 16), none, .mv (.t 112)⟩,
  ⟨(some 17), none, .mv (.t 113)⟩]
def rSlicesPdqsortCmpFuncDegreeNeedX21 : List O := [
  ⟨(some 114), none, .mv (.t 17)⟩,
  ⟨(some 11), none, .mv (.t 114)⟩]
def rSlicesPdqsortCmpFuncDegreeNeedX22 : List O := [
  ⟨(some 115), none, .mv (.t 16)⟩,
  ⟨(some 116), none, .mv (.t 1)⟩,
  ⟨(some 117), none, .bin .sub (.t 115) (.t 116)⟩,
  ⟨(some 118), none, .mv (.t 2)⟩,
  ⟨(some 119), none, .mv (.t 16)⟩,
  ⟨(some 120), none, .bin .sub (.t 118) (.t 119)⟩,
  ⟨(some 18), none, .mv (.t 117)⟩,
  ⟨(some 19), none, .mv (.t 120)⟩]
def rSlicesPdqsortCmpFuncDegreeNeedX23 : List O := [
  ⟨(some 121), none, .mv (.t 12)⟩,
  ⟨(some 122), none, .bin .quo (.t 121) (.k (.int .i64 8))⟩,
  ⟨(some 20), none, .mv (.t 122)⟩]
def rSlicesPdqsortCmpFuncDegreeNeedX24 : List O := [
  ⟨(some 123), none, .mv (.t 18)⟩,
  ⟨(some 124), none, .mv (.t 19)⟩,
  ⟨(some 125), none, .bin .lss (.t 123) (.t 124)⟩]
def rSlicesPdqsortCmpFuncDegreeNeedX25 : List O := [
  ⟨(some 126), none, .mv (.t 18)⟩,
  ⟨(some 127), none, .mv (.t 20)⟩,
  ⟨(some 128), none, .bin .geq (.t 126) (.t 127)⟩,
  ⟨(some 10), none, .mv (.t 128)⟩]
def rSlicesPdqsortCmpFuncDegreeNeedX26 : List O := [
  ⟨(some 129), none, .mv (.t 0)⟩,
  ⟨(some 130), none, .mv (.t 1)⟩,
  ⟨(some 131), none, .mv (.t 16)⟩,
  ⟨(some 132), none, .mv (.t 3)⟩,
  ⟨(some 133), none, .mv (.t 4)⟩,
  ⟨(some 134), none, .call nSlicesPdqsortCmpFuncDegreeNeed [(.t 129), (.t 130), (.t 131), (.t 132), (.t 133)]⟩]
def rSlicesPdqsortCmpFuncDegreeNeedX27 : List O := [
  ⟨(some 135), none, .mv (.t 16)⟩,
  ⟨(some 136), none, .bin .add (.t 135) (.k (.int .i64 1))⟩,
  ⟨(some 1), none, .mv (.t 136)⟩]
def rSlicesPdqsortCmpFuncDegreeNeedX28 : List O := [
  ⟨(some 137), none, .mv (.t 19)⟩,
  ⟨(some 138), none, .mv (.t 20)⟩,
  ⟨(some 139), none, .bin .geq (.t 137) (.t 138)⟩,
  ⟨(some 10), none, .mv (.t 139)⟩]
def rSlicesPdqsortCmpFuncDegreeNeedX29 : List O := [
  ⟨(some 140), none, .mv (.t 0)⟩,
  ⟨(some 141), none, .mv (.t 16)⟩,
  ⟨(some 142), none, .bin .add (.t 141) (.k (.int .i64 1))⟩,
  ⟨(some 143), none, .mv (.t 2)⟩,
  ⟨(some 144), none, .mv (.t 3)⟩,
  ⟨(some 145), none, .mv (.t 4)⟩,
  ⟨(some 146), none, .call nSlicesPdqsortCmpFuncDegreeNeed [(.t 140), (.t 142), (.t 143), (.t 144), (.t 145)]⟩]
def rSlicesPdqsortCmpFuncDegreeNeedX30 : List O := [
  ⟨(some 147), none, .mv (.t 16)⟩,
  ⟨(some 2), none, .mv (.t 147)⟩]
def lSlicesPdqsortCmpFuncDegreeNeedX0 : C := (.blk 1 (.seq (.reg rSlicesPdqsortCmpFuncDegreeNeedX2 false [] [0, 1, 2, 3, 4, 10, 11, 12]) (.seq (.seq (.reg rSlicesPdqsortCmpFuncDegreeNeedX3 false [] [0, 1, 2, 3, 4, 10, 11, 12, 25]) (.cond (.t 25) (.seq (.reg rSlicesPdqsortCmpFuncDegreeNeedX4 false [] []) .ret) .skip)) (.seq (.seq (.reg rSlicesPdqsortCmpFuncDegreeNeedX5 false [] [0, 1, 2, 3, 4, 10, 11, 12, 32]) (.cond (.t 32) (.seq (.reg rSlicesPdqsortCmpFuncDegreeNeedX6 false [] []) .ret) .skip)) (.seq (.seq (.reg rSlicesPdqsortCmpFuncDegreeNeedX7 false [] [0, 1, 2, 3, 4, 10, 11, 12, 39]) (.cond (.t 39) (.seq (.reg rSlicesPdqsortCmpFuncDegreeNeedX8 false [] [0, 1, 2, 3, 4, 10, 11, 12]) (.reg rSlicesPdqsortCmpFuncDegreeNeedX9 false [] [0, 1, 2, 3, 4, 10, 11, 12])) .skip)) (.seq (.reg rSlicesPdqsortCmpFuncDegreeNeedX10 false [] [0, 1, 2, 3, 4, 10, 11, 12, 13, 14]) (.seq (.seq (.reg rSlicesPdqsortCmpFuncDegreeNeedX11 false [] [0, 1, 2, 3, 4, 10, 11, 12, 13, 14, 56]) (.cond (.t 56) (.seq (.reg rSlicesPdqsortCmpFuncDegreeNeedX12 false [] [0, 1, 2, 3, 4, 10, 11, 12, 13]) (.seq (.reg rSlicesPdqsortCmpFuncDegreeNeedX13 false [] [0, 1, 2, 3, 4, 10, 11, 12, 13]) (.reg rSlicesPdqsortCmpFuncDegreeNeedX14 false [] [0, 1, 2, 3, 4, 10, 11, 12, 13, 14]))) .skip)) (.seq (.seq (.reg rSlicesPdqsortCmpFuncDegreeNeedX15 false [] [0, 1, 2, 3, 4, 10, 11, 12, 13, 75]) (.cond (.t 75) (.seq (.reg rSlicesPdqsortCmpFuncDegreeNeedX16 false [] [0, 1, 2, 3, 4, 10, 11, 12, 13, 80]) (.cond (.t 80) .ret .skip)) .skip)) (.seq (.seq (.reg rSlicesPdqsortCmpFuncDegreeNeedX17 true [(8, 12)] [0, 1, 2, 3, 4, 10, 11, 12, 13, 97]) (.cond (.t 97) (.seq (.reg rSlicesPdqsortCmpFuncDegreeNeedX18 false [] [0, 2, 3, 4, 10, 11, 15]) (.seq (.reg rSlicesPdqsortCmpFuncDegreeNeedX19 false [] [0, 1, 2, 3, 4, 10, 11]) (.exit 1))) .skip)) (.seq (.reg rSlicesPdqsortCmpFuncDegreeNeedX20 false [] [0, 1, 2, 3, 4, 12, 16, 17]) (.seq (.reg rSlicesPdqsortCmpFuncDegreeNeedX21 false [] [0, 1, 2, 3, 4, 11, 12, 16]) (.seq (.reg rSlicesPdqsortCmpFuncDegreeNeedX22 false [] [0, 1, 2, 3, 4, 11, 12, 16, 18, 19]) (.seq (.reg rSlicesPdqsortCmpFuncDegreeNeedX23 false [] [0, 1, 2, 3, 4, 11, 16, 18, 19, 20]) (.seq (.reg rSlicesPdqsortCmpFuncDegreeNeedX24 false [] [0, 1, 2, 3, 4, 11, 16, 18, 19, 20, 125]) (.cond (.t 125) (.seq (.reg rSlicesPdqsortCmpFuncDegreeNeedX25 false [] [0, 1, 2, 3, 4, 10, 11, 16]) (.seq (.reg rSlicesPdqsortCmpFuncDegreeNeedX26 false [] [0, 2, 3, 4, 10, 11, 16]) (.reg rSlicesPdqsortCmpFuncDegreeNeedX27 false [] [0, 1, 2, 3, 4, 10, 11]))) (.seq (.reg rSlicesPdqsortCmpFuncDegreeNeedX28 false [] [0, 1, 2, 3, 4, 10, 11, 16]) (.seq (.reg rSlicesPdqsortCmpFuncDegreeNeedX29 false [] [0, 1, 3, 4, 10, 11, 16]) (.reg rSlicesPdqsortCmpFuncDegreeNeedX30 false [] [0, 1, 2, 3, 4, 10, 11]))))))))))))))))))
def cSlicesPdqsortCmpFuncDegreeNeed : C := (.seq (.reg rSlicesPdqsortCmpFuncDegreeNeedX0 false [] [0, 1, 2, 3, 4, 10]) (.seq (.reg rSlicesPdqsortCmpFuncDegreeNeedX1 false [] [0, 1, 2, 3, 4, 10, 11]) (.blk 0 (.loop lSlicesPdqsortCmpFuncDegreeNeedX0))))
def qSlicesPdqsortCmpFuncDegreeNeed : AFn := ⟨148, 5, [], cSlicesPdqsortCmpFuncDegreeNeed⟩
/- math/bits.Len64 -/
def rMathBitsLen64X0 : List O := [
  ⟨(some 2), none, .mv (.k (.int .i64 0))⟩]
def rMathBitsLen64X1 : List O := [
  ⟨(some 3), none, .mv (.t 0)⟩,
  ⟨(some 4), none, .bin .geq (.t 3) (.k (.int .u64 4294967296))⟩]
def rMathBitsLen64X2 : List O := [
  ⟨(some 5), none, .mv (.t 0)⟩,
  ⟨(some 6), none, .bin .shr (.t 5) (.k (.int .u64 32))⟩,
  ⟨(some 0), none, .mv (.t 6)⟩]
def rMathBitsLen64X3 : List O := [
  ⟨(some 2), none, .mv (.k (.int .i64 32))⟩]
def rMathBitsLen64X4 : List O := [
  ⟨(some 7), none, .mv (.t 0)⟩,
  ⟨(some 8), none, .bin .geq (.t 7) (.k (.int .u64 65536))⟩]
def rMathBitsLen64X5 : List O := [
  ⟨(some 9), none, .mv (.t 0)⟩,
  ⟨(some 10), none, .bin .shr (.t 9) (.k (.int .u64 16))⟩,
  ⟨(some 0), none, .mv (.t 10)⟩]
def rMathBitsLen64X6 : List O := [
  ⟨(some 11), none, .mv (.t 2)⟩,
  ⟨(some 12), none, .bin .add (.t 11) (.k (.int .i64 16))⟩,
  ⟨(some 2), none, .mv (.t 12)⟩]
def rMathBitsLen64X7 : List O := [
  ⟨(some 13), none, .mv (.t 0)⟩,
  ⟨(some 14), none, .bin .geq (.t 13) (.k (.int .u64 256))⟩]
def rMathBitsLen64X8 : List O := [
  ⟨(some 15), none, .mv (.t 0)⟩,
  ⟨(some 16), none, .bin .shr (.t 15) (.k (.int .u64 8))⟩,
  ⟨(some 0), none, .mv (.t 16)⟩]
def rMathBitsLen64X9 : List O := [
  ⟨(some 17), none, .mv (.t 2)⟩,
  ⟨(some 18), none, .bin .add (.t 17) (.k (.int .i64 8))⟩,
  ⟨(some 2), none, .mv (.t 18)⟩]
def rMathBitsLen64X10 : List O := [
  ⟨(some 19), none, .mv (.t 2)⟩,
  ⟨(some 20), none, .mv (.t 0)⟩,
  ⟨(some 21), none, .cvt .u8 (.t 20)⟩,
  ⟨(some 22), none, .ixs [0, 1, 2, 2, 3, 3, 3, 3, 4, 4, 4, 4, 4, 4, 4, 4, 5, 5, 5, 5, 5, 5, 5, 5, 5, 5, 5, 5, 5, 5, 5, 5, 6, 6, 6, 6, 6, 6, 6, 6, 6, 6, 6, 6, 6, 6, 6, 6, 6, 6, 6, 6, 6, 6, 6, 6, 6, 6, 6, 6, 6, 6, 6, 6, 7, 7, 7, 7, 7, 7, 7, 7, 7, 7, 7, 7, 7, 7, 7, 7, 7, 7, 7, 7, 7, 7, 7, 7, 7, 7, 7, 7, 7, 7, 7, 7, 7, 7, 7, 7, 7, 7, 7, 7, 7, 7, 7, 7, 7, 7, 7, 7, 7, 7, 7, 7, 7, 7, 7, 7, 7, 7, 7, 7, 7, 7, 7, 7, 8, 8, 8, 8, 8, 8, 8, 8, 8, 8, 8, 8, 8, 8, 8, 8, 8, 8, 8, 8, 8, 8, 8, 8, 8, 8, 8, 8, 8, 8, 8, 8, 8, 8, 8, 8, 8, 8, 8, 8, 8, 8, 8, 8, 8, 8, 8, 8, 8, 8, 8, 8, 8, 8, 8, 8, 8, 8, 8, 8, 8, 8, 8, 8, 8, 8, 8, 8, 8, 8, 8, 8, 8, 8, 8, 8, 8, 8, 8, 8, 8, 8, 8, 8, 8, 8, 8, 8, 8, 8, 8, 8, 8, 8, 8, 8, 8, 8, 8, 8, 8, 8, 8, 8, 8, 8, 8, 8, 8, 8, 8, 8, 8, 8, 8, 8, 8, 8, 8, 8, 8, 8, 8, 8, 8, 8, 8, 8] (.t 21)⟩,
  ⟨(some 23), none, .cvt .i64 (.t 22)⟩,
  ⟨(some 24), none, .bin .add (.t 19) (.t 23)⟩,
  ⟨(some 2), none, .mv (.t 24)⟩]
def cMathBitsLen64 : C := (.seq (.reg rMathBitsLen64X0 false [] [0, 2]) (.seq (.seq (.reg rMathBitsLen64X1 false [] [0, 2, 4]) (.cond (.t 4) (.seq (.reg rMathBitsLen64X2 false [] [0]) (.reg rMathBitsLen64X3 false [] [0, 2])) .skip)) (.seq (.seq (.reg rMathBitsLen64X4 false [] [0, 2, 8]) (.cond (.t 8) (.seq (.reg rMathBitsLen64X5 false [] [0, 2]) (.reg rMathBitsLen64X6 false [] [0, 2])) .skip)) (.seq (.seq (.reg rMathBitsLen64X7 false [] [0, 2, 14]) (.cond (.t 14) (.seq (.reg rMathBitsLen64X8 false [] [0, 2]) (.reg rMathBitsLen64X9 false [] [0, 2])) .skip)) (.seq (.reg rMathBitsLen64X10 false [] [2]) .ret)))))
def qMathBitsLen64 : AFn := ⟨25, 1, [.t 2], cMathBitsLen64⟩
/- slices.insertionSortCmpFunc[cohesion/degree.need] -/
def rSlicesInsertionSortCmpFuncDegreeNeedX0 : List O := [
  ⟨(some 10), none, .mv (.t 1)⟩,
  ⟨(some 11), none, .bin .add (.t 10) (.k (.int .i64 1))⟩,
  ⟨(some 8), none, .mv (.t 11)⟩]
def rSlicesInsertionSortCmpFuncDegreeNeedX1 : List O := [
  ⟨(some 12), none, .mv (.t 8)⟩,
  ⟨(some 13), none, .mv (.t 2)⟩,
  ⟨(some 14), none, .bin .lss (.t 12) (.t 13)⟩]
def rSlicesInsertionSortCmpFuncDegreeNeedX2 : List O := [
  ⟨(some 17), none, .mv (.t 8)⟩,
  ⟨(some 9), none, .mv (.t 17)⟩]
def rSlicesInsertionSortCmpFuncDegreeNeedX3 : List O := [
  ⟨(some 18), none, .mv (.t 9)⟩,
  ⟨(some 19), none, .mv (.t 1)⟩,
  ⟨(some 20), none, .bin .gtr (.t 18) (.t 19)⟩,
  ⟨(some 21), none, .mv (.t 20)⟩,
  ⟨(some 22), (some (21, true)), .mv (.t 3)⟩,
  ⟨(some 23), (some (21, true)), .mv (.t 0)⟩,
  ⟨(some 24), (some (21, true)), .mv (.t 9)⟩,
  ⟨(some 25), (some (21, true)), .ixa 2 (.t 23) (.t 24)⟩,
  ⟨(some 26), (some (21, true)), .ld (some 2) (.t 25)⟩,
  ⟨(some 27), (some (21, true)), .mv (.t 0)⟩,
  ⟨(some 28), (some (21, true)), .mv (.t 9)⟩,
  ⟨(some 29), (some (21, true)), .bin .sub (.t 28) (.k (.int .i64 1))⟩,
  ⟨(some 30), (some (21, true)), .ixa 2 (.t 27) (.t 29)⟩,
  ⟨(some 31), (some (21, true)), .ld (some 2) (.t 30)⟩,
  ⟨(some 32), (some (21, true)), .callv (.t 22) [(.t 26), (.t 31)]⟩,
  ⟨(some 33), (some (21, true)), .bin .lss (.t 32) (.k (.int .i64 0))⟩,
  ⟨(some 34), none, .pick (.t 21) (.t 33) (.k (.bool false))⟩]
def rSlicesInsertionSortCmpFuncDegreeNeedX4 : List O := [
  ⟨(some 37), none, .mv (.t 0)⟩,
  ⟨(some 38), none, .mv (.t 9)⟩,
  ⟨(some 39), none, .mv (.t 0)⟩,
  ⟨(some 40), none, .mv (.t 9)⟩,
  ⟨(some 41), none, .bin .sub (.t 40) (.k (.int .i64 1))⟩,
  ⟨(some 42), none, .mv (.t 0)⟩,
  ⟨(some 43), none, .mv (.t 9)⟩,
  ⟨(some 44), none, .bin .sub (.t 43) (.k (.int .i64 1))⟩,
  ⟨(some 45), none, .ixa 2 (.t 42) (.t 44)⟩,
  ⟨(some 46), none, .ld (some 2) (.t 45)⟩,
  ⟨(some 47), none, .mv (.t 0)⟩,
  ⟨(some 48), none, .mv (.t 9)⟩,
  ⟨(some 49), none, .ixa 2 (.t 47) (.t 48)⟩,
  ⟨(some 50), none, .ld (some 2) (.t 49)⟩,
  ⟨(some 51), none, .ixa 2 (.t 37) (.t 38)⟩,
  ⟨none, none, .st 2 (.t 51) (.t 46)⟩,
  ⟨(some 52), none, .ixa 2 (.t 39) (.t 41)⟩,
  ⟨none, none, .st 2 (.t 52) (.t 50)⟩]
def rSlicesInsertionSortCmpFuncDegreeNeedX5 : List O := [
  ⟨(some 35), none, .mv (.t 9)⟩,
  ⟨(some 36), none, .bin .sub (.t 35) (.k (.int .i64 1))⟩,
  ⟨(some 9), none, .mv (.t 36)⟩]
def lSlicesInsertionSortCmpFuncDegreeNeedX0 : C := (.seq (.seq (.reg rSlicesInsertionSortCmpFuncDegreeNeedX3 true [(8, 13)] [0, 1, 2, 3, 8, 9, 34]) (.cond (.t 34) .skip (.exit 2))) (.seq (.blk 3 (.reg rSlicesInsertionSortCmpFuncDegreeNeedX4 true [(9, 13)] [0, 1, 2, 3, 8, 9])) (.reg rSlicesInsertionSortCmpFuncDegreeNeedX5 false [] [0, 1, 2, 3, 8, 9])))
def rSlicesInsertionSortCmpFuncDegreeNeedX6 : List O := [
  ⟨(some 15), none, .mv (.t 8)⟩,
  ⟨(some 16), none, .bin .add (.t 15) (.k (.int .i64 1))⟩,
  ⟨(some 8), none, .mv (.t 16)⟩]
def lSlicesInsertionSortCmpFuncDegreeNeedX1 : C := (.seq (.seq (.reg rSlicesInsertionSortCmpFuncDegreeNeedX1 false [] [0, 1, 2, 3, 8, 14]) (.cond (.t 14) .skip (.exit 0))) (.seq (.blk 1 (.seq (.reg rSlicesInsertionSortCmpFuncDegreeNeedX2 false [] [0, 1, 2, 3, 8, 9]) (.blk 2 (.loop lSlicesInsertionSortCmpFuncDegreeNeedX0)))) (.reg rSlicesInsertionSortCmpFuncDegreeNeedX6 false [] [0, 1, 2, 3, 8])))
def cSlicesInsertionSortCmpFuncDegreeNeed : C := (.seq (.reg rSlicesInsertionSortCmpFuncDegreeNeedX0 false [] [0, 1, 2, 3, 8]) (.blk 0 (.loop lSlicesInsertionSortCmpFuncDegreeNeedX1)))
def qSlicesInsertionSortCmpFuncDegreeNeed : AFn := ⟨53, 4, [], cSlicesInsertionSortCmpFuncDegreeNeed⟩
def look : List (Nat × Md × AFn) → Nat → Option (Md × AFn)
  | [], _ => none
  | (j, m, q) :: r, i => if i = j then some (m, q) else look r i
def fns : List (Nat × Md × AFn) := [
  (nDegreeGraphic, .P, qDegreeGraphic),
  (nDegreeRealise, .P, qDegreeRealise),
  (nSlicesSortFuncDegreeNeedDegreeNeed, .K, qSlicesSortFuncDegreeNeedDegreeNeed),
  (nDegreeMost, .P, qDegreeMost),
  (nMathBitsLen, .P, qMathBitsLen),
  (nSlicesPdqsortCmpFuncDegreeNeed, .K, qSlicesPdqsortCmpFuncDegreeNeed),
  (nMathBitsLen64, .P, qMathBitsLen64),
  (nSlicesInsertionSortCmpFuncDegreeNeed, .K, qSlicesInsertionSortCmpFuncDegreeNeed)]
def cfg : Cfg := ⟨look fns, fun _ => [], fun _ => none⟩
theorem kDegreeGraphic : chkF Go.Proofs.Try.prog Go.Proofs.Try.f9 qDegreeGraphic = true := by kernel_rfl
theorem kDegreeRealise : chkF Go.Proofs.Try.prog Go.Proofs.Try.f29 qDegreeRealise = true := by kernel_rfl
theorem kSlicesSortFuncDegreeNeedDegreeNeed : chkF Go.Proofs.Try.prog Go.Proofs.Try.f45 qSlicesSortFuncDegreeNeedDegreeNeed = true := by kernel_rfl
theorem kDegreeMost : chkF Go.Proofs.Try.prog Go.Proofs.Try.f46 qDegreeMost = true := by kernel_rfl
theorem kMathBitsLen : chkF Go.Proofs.Try.prog Go.Proofs.Try.f48 qMathBitsLen = true := by kernel_rfl
theorem kSlicesPdqsortCmpFuncDegreeNeed : chkF Go.Proofs.Try.prog Go.Proofs.Try.f60 qSlicesPdqsortCmpFuncDegreeNeed = true := by kernel_rfl
theorem kMathBitsLen64 : chkF Go.Proofs.Try.prog Go.Proofs.Try.f71 qMathBitsLen64 = true := by kernel_rfl
theorem kSlicesInsertionSortCmpFuncDegreeNeed : chkF Go.Proofs.Try.prog Go.Proofs.Try.f76 qSlicesInsertionSortCmpFuncDegreeNeed = true := by kernel_rfl
theorem look_mem : ∀ {l : List (Nat × Md × AFn)} {f : Nat} {m : Md} {q : AFn}, look l f = some (m, q) → (f, m, q) ∈ l
  | [], f, m, q, h => by simp [look] at h
  | (j, m', q') :: r, f, m, q, h => by
    unfold look at h
    split at h
    · rename_i he; subst he; simp at h; obtain ⟨rfl, rfl⟩ := h; simp
    · exact List.mem_cons_of_mem _ (look_mem h)
def Good (p : Nat × Md × AFn) : Prop := ∃ fn, Go.Proofs.Try.prog.funcs[p.1]? = some fn ∧ chkF Go.Proofs.Try.prog fn p.2.2 = true
def All (G : Nat × Md × AFn → Prop) : List (Nat × Md × AFn) → Prop
  | [] => True
  | p :: r => G p ∧ All G r
theorem All.get {G : Nat × Md × AFn → Prop} : ∀ {l : List (Nat × Md × AFn)}, All G l → ∀ p ∈ l, G p
  | [], _, p, h => by simp at h
  | q :: r, h, p, hp => by
    rcases List.mem_cons.1 hp with e | e
    · subst e; exact h.1
    · exact All.get h.2 p e
theorem allGood : All Good fns := ⟨⟨_, Go.Proofs.Try.func9, kDegreeGraphic⟩, ⟨_, Go.Proofs.Try.func29, kDegreeRealise⟩, ⟨_, Go.Proofs.Try.func45, kSlicesSortFuncDegreeNeedDegreeNeed⟩, ⟨_, Go.Proofs.Try.func46, kDegreeMost⟩, ⟨_, Go.Proofs.Try.func48, kMathBitsLen⟩, ⟨_, Go.Proofs.Try.func60, kSlicesPdqsortCmpFuncDegreeNeed⟩, ⟨_, Go.Proofs.Try.func71, kMathBitsLen64⟩, ⟨_, Go.Proofs.Try.func76, kSlicesInsertionSortCmpFuncDegreeNeed⟩, trivial⟩
theorem cfgOK : CfgOK Go.Proofs.Try.prog cfg := ⟨by kernel_rfl, fun f m q h => allGood.get _ (look_mem h)⟩
theorem orcOK : OrcOK Go.Proofs.Try.prog cfg := fun f g h => by cases h
theorem gDegreeGraphic : cfg.fn nDegreeGraphic = some (.P, qDegreeGraphic) := rfl
theorem gDegreeRealise : cfg.fn nDegreeRealise = some (.P, qDegreeRealise) := rfl
theorem gSlicesSortFuncDegreeNeedDegreeNeed : cfg.fn nSlicesSortFuncDegreeNeedDegreeNeed = some (.K, qSlicesSortFuncDegreeNeedDegreeNeed) := rfl
theorem gDegreeMost : cfg.fn nDegreeMost = some (.P, qDegreeMost) := rfl
theorem gMathBitsLen : cfg.fn nMathBitsLen = some (.P, qMathBitsLen) := rfl
theorem gSlicesPdqsortCmpFuncDegreeNeed : cfg.fn nSlicesPdqsortCmpFuncDegreeNeed = some (.K, qSlicesPdqsortCmpFuncDegreeNeed) := rfl
theorem gMathBitsLen64 : cfg.fn nMathBitsLen64 = some (.P, qMathBitsLen64) := rfl
theorem gSlicesInsertionSortCmpFuncDegreeNeed : cfg.fn nSlicesInsertionSortCmpFuncDegreeNeed = some (.K, qSlicesInsertionSortCmpFuncDegreeNeed) := rfl
end Go.AmP
