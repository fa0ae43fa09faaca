/- The compact code of the functions, printed by program off the translation. -/
import Derived.Test.YtdkdlkajcjbakaaChecked
import Derived.Test.YtdkdlkajcjbakaaBmA
import Derived.KernelRfl
set_option maxRecDepth 100000
namespace Go.BmP
open Go.Am Go.Bm
def nLaw33SampleColours : Nat := 3
def nLaw33SampleEdges : Nat := 5
def nLaw33SampleParts : Nat := 6
def nMakeFew : Nat := 7
def nLaw33Awake : Nat := 8
def nMakeGraph : Nat := 9
def nMakeNew : Nat := 10
def nSampleByColours : Nat := 11
def nRef29Count : Nat := 12
def nSampleReservoir : Nat := 13
def nSampleByEdges : Nat := 15
def nFieldNumbers : Nat := 16
def nSampleMono : Nat := 17
def nRef03Find : Nat := 18
def nRef02Cmp : Nat := 19
def nMakeDeckNext : Nat := 20
def nTrianglesCount : Nat := 21
def nRef29Nodes : Nat := 22
def nSlicesSortIntInt : Nat := 23
def nSampleKeep : Nat := 24
def nGraphCheck : Nat := 25
def nSlicesContainsFuncIntInt : Nat := 26
def nSampleMono1 : Nat := 27
def nSampleSome : Nat := 28
def nSampleMono2 : Nat := 29
def nRef03Check : Nat := 30
def nRef03Edge : Nat := 31
def nMakeMod : Nat := 32
def nTrianglesCounts : Nat := 33
def nRef03Common : Nat := 34
def nSampleKeep1 : Nat := 37
def nGraphOrder : Nat := 38
def nSlicesIndexFuncIntInt : Nat := 39
def nRef03Before : Nat := 40
def nTrianglesLists : Nat := 41
def nTrianglesSharedInt : Nat := 42
def nRef02Meet : Nat := 43
def nRef03Neighbours : Nat := 44
def nCmpOrInt : Nat := 56
def nCmpCompareInt : Nat := 57
def nRef02Of : Nat := 58
def nRef02Has : Nat := 59
def nCmpIsNaNInt : Nat := 65
def nRef02Put : Nat := 66
/- cohesion/cohesionlaw33.SampleColours -/
def rLaw33SampleColoursX0 : List O := [
  ⟨(some 4), none, .mv (.k (.bool false))⟩]
def rLaw33SampleColoursX1 : List O := [
  ⟨(some 18), none, .mv (.t 0)⟩,
  ⟨(some 19), none, .call nMakeFew [(.t 18)]⟩,
  ⟨(some 20), none, .un .not (.t 19)⟩]
def rLaw33SampleColoursX2 : List O := [
  ⟨(some 21), none, .call nLaw33Awake []⟩,
  ⟨(some 4), none, .mv (.t 21)⟩]
def rLaw33SampleColoursX3 : List O := [
  ⟨(some 22), none, .mv (.t 0)⟩,
  ⟨(some 23), none, .call nMakeNew [(.t 22)]⟩,
  ⟨(some 24), none, .call nMakeGraph [(.t 23), (.k (.int .i64 5))]⟩,
  ⟨(some 5), none, .new [(.int .i64 0), (.own 2 [])]⟩,
  ⟨none, none, .st 2 (.t 5) (.t 24)⟩]
def rLaw33SampleColoursX4 : List O := [
  ⟨(some 25), none, .mv (.t 1)⟩,
  ⟨(some 26), none, .bin .rem (.t 25) (.k (.int .u8 3))⟩,
  ⟨(some 27), none, .cvt .i64 (.t 26)⟩,
  ⟨(some 28), none, .bin .add (.k (.int .i64 1)) (.t 27)⟩,
  ⟨(some 6), none, .mv (.t 28)⟩]
def rLaw33SampleColoursX5 : List O := [
  ⟨(some 7), none, .mv (.k (.int .i64 1))⟩]
def rLaw33SampleColoursX6 : List O := [
  ⟨(some 8), none, .mv (.k (.int .i64 0))⟩]
def rLaw33SampleColoursX7 : List O := [
  ⟨(some 29), none, .mv (.t 8)⟩,
  ⟨(some 30), none, .fad 0 (.t 5)⟩,
  ⟨(some 31), none, .ld none (.t 30)⟩,
  ⟨(some 32), none, .bin .lss (.t 29) (.t 31)⟩]
def rLaw33SampleColoursX8 : List O := [
  ⟨(some 35), none, .mv (.t 7)⟩,
  ⟨(some 36), none, .mv (.t 6)⟩,
  ⟨(some 37), none, .bin .mul (.t 35) (.t 36)⟩,
  ⟨(some 7), none, .mv (.t 37)⟩]
def rLaw33SampleColoursX9 : List O := [
  ⟨(some 33), none, .mv (.t 8)⟩,
  ⟨(some 34), none, .bin .add (.t 33) (.k (.int .i64 1))⟩,
  ⟨(some 8), none, .mv (.t 34)⟩]
def lLaw33SampleColoursX0 : C := (.seq (.seq (.reg rLaw33SampleColoursX7 false [] [5, 6, 7, 8, 32]) (.cond (.t 32) .skip (.exit 0))) (.seq (.blk 1 (.reg rLaw33SampleColoursX8 false [] [5, 6, 7, 8])) (.reg rLaw33SampleColoursX9 false [] [5, 6, 7, 8])))
def rLaw33SampleColoursX10 : List O := [
  ⟨(some 9), none, .mv (.k (.int .i64 0))⟩]
def rLaw33SampleColoursX11 : List O := [
  ⟨(some 10), none, .mv (.k (.int .i64 0))⟩]
def rLaw33SampleColoursX12 : List O := [
  ⟨(some 38), none, .mv (.t 10)⟩,
  ⟨(some 39), none, .mv (.t 7)⟩,
  ⟨(some 40), none, .bin .lss (.t 38) (.t 39)⟩]
def rLaw33SampleColoursX13 : List O := [
  ⟨(some 11), none, .mv (.k (.own 1 []))⟩]
def rLaw33SampleColoursX14 : List O := [
  ⟨(some 43), none, .mv (.t 10)⟩,
  ⟨(some 12), none, .mv (.t 43)⟩]
def rLaw33SampleColoursX15 : List O := [
  ⟨(some 13), none, .mv (.k (.int .i64 0))⟩]
def rLaw33SampleColoursX16 : List O := [
  ⟨(some 44), none, .mv (.t 13)⟩,
  ⟨(some 45), none, .fad 0 (.t 5)⟩,
  ⟨(some 46), none, .ld none (.t 45)⟩,
  ⟨(some 47), none, .bin .lss (.t 44) (.t 46)⟩]
def rLaw33SampleColoursX17 : List O := [
  ⟨(some 50), none, .mv (.t 11)⟩,
  ⟨(some 51), none, .mv (.t 12)⟩,
  ⟨(some 52), none, .mv (.t 6)⟩,
  ⟨(some 53), none, .bin .rem (.t 51) (.t 52)⟩,
  ⟨(some 54), none, .bslice 1 1 [(.int .i64 0)] [(0, 1, (.t 53))]⟩,
  ⟨(some 55), none, .app 1 (.t 50) (.t 54)⟩,
  ⟨(some 11), none, .mv (.t 55)⟩]
def rLaw33SampleColoursX18 : List O := [
  ⟨(some 56), none, .mv (.t 12)⟩,
  ⟨(some 57), none, .mv (.t 6)⟩,
  ⟨(some 58), none, .bin .quo (.t 56) (.t 57)⟩,
  ⟨(some 12), none, .mv (.t 58)⟩]
def rLaw33SampleColoursX19 : List O := [
  ⟨(some 48), none, .mv (.t 13)⟩,
  ⟨(some 49), none, .bin .add (.t 48) (.k (.int .i64 1))⟩,
  ⟨(some 13), none, .mv (.t 49)⟩]
def lLaw33SampleColoursX1 : C := (.seq (.seq (.reg rLaw33SampleColoursX16 false [] [5, 6, 7, 9, 10, 11, 12, 13, 47]) (.cond (.t 47) .skip (.exit 4))) (.seq (.blk 5 (.seq (.reg rLaw33SampleColoursX17 false [] [5, 6, 7, 9, 10, 11, 12, 13]) (.reg rLaw33SampleColoursX18 false [] [5, 6, 7, 9, 10, 11, 12, 13]))) (.reg rLaw33SampleColoursX19 false [] [5, 6, 7, 9, 10, 11, 12, 13])))
def rLaw33SampleColoursX20 : List O := [
  ⟨(some 60), none, .ld (some 2) (.t 5)⟩,
  ⟨(some 61), none, .mv (.t 11)⟩,
  ⟨(some 62), none, .mv (.t 6)⟩,
  ⟨(some 63), none, .call nSampleByColours [(.t 60), (.t 61), (.t 62)]⟩,
  ⟨(some 59), none, .mv (.t 63)⟩,
  ⟨(some 64), none, .ext 0 (.t 59)⟩,
  ⟨(some 65), none, .ext 1 (.t 59)⟩,
  ⟨(some 14), none, .mv (.t 64)⟩,
  ⟨(some 15), none, .mv (.t 65)⟩]
def rLaw33SampleColoursX21 : List O := [
  ⟨(some 66), none, .mv (.t 15)⟩,
  ⟨(some 67), none, .bin .neq (.t 66) (.k (.int .i64 0))⟩]
def rLaw33SampleColoursX22 : List O := [
  ⟨(some 4), none, .mv (.k (.bool false))⟩]
def rLaw33SampleColoursX23 : List O := [
  ⟨(some 68), none, .mv (.t 9)⟩,
  ⟨(some 69), none, .mv (.t 14)⟩,
  ⟨(some 70), none, .bin .add (.t 68) (.t 69)⟩,
  ⟨(some 9), none, .mv (.t 70)⟩]
def rLaw33SampleColoursX24 : List O := [
  ⟨(some 41), none, .mv (.t 10)⟩,
  ⟨(some 42), none, .bin .add (.t 41) (.k (.int .i64 1))⟩,
  ⟨(some 10), none, .mv (.t 42)⟩]
def lLaw33SampleColoursX2 : C := (.seq (.seq (.reg rLaw33SampleColoursX12 false [] [5, 6, 7, 9, 10, 40]) (.cond (.t 40) .skip (.exit 2))) (.seq (.blk 3 (.seq (.reg rLaw33SampleColoursX13 false [] [5, 6, 7, 9, 10, 11]) (.seq (.reg rLaw33SampleColoursX14 false [] [5, 6, 7, 9, 10, 11, 12]) (.seq (.seq (.reg rLaw33SampleColoursX15 false [] [5, 6, 7, 9, 10, 11, 12, 13]) (.blk 4 (.loop lLaw33SampleColoursX1))) (.seq (.reg rLaw33SampleColoursX20 false [] [5, 6, 7, 9, 10, 14, 15]) (.seq (.seq (.reg rLaw33SampleColoursX21 false [] [5, 6, 7, 9, 10, 14, 67]) (.cond (.t 67) (.seq (.reg rLaw33SampleColoursX22 false [] [4]) .ret) .skip)) (.reg rLaw33SampleColoursX23 false [] [5, 6, 7, 9, 10]))))))) (.reg rLaw33SampleColoursX24 false [] [5, 6, 7, 9, 10])))
def rLaw33SampleColoursX25 : List O := [
  ⟨(some 72), none, .ld (some 2) (.t 5)⟩,
  ⟨(some 73), none, .call nRef29Count [(.t 72)]⟩,
  ⟨(some 71), none, .mv (.t 73)⟩,
  ⟨(some 74), none, .ext 0 (.t 71)⟩,
  ⟨(some 75), none, .ext 1 (.t 71)⟩,
  ⟨(some 16), none, .mv (.t 74)⟩,
  ⟨(some 17), none, .mv (.t 75)⟩]
def rLaw33SampleColoursX26 : List O := [
  ⟨(some 76), none, .mv (.t 9)⟩,
  ⟨(some 77), none, .mv (.t 7)⟩,
  ⟨(some 78), none, .mv (.t 16)⟩,
  ⟨(some 79), none, .bin .mul (.t 77) (.t 78)⟩,
  ⟨(some 80), none, .bin .eql (.t 76) (.t 79)⟩,
  ⟨(some 81), none, .mv (.t 80)⟩,
  ⟨(some 82), (some (81, true)), .call nLaw33Awake []⟩,
  ⟨(some 83), none, .pick (.t 81) (.t 82) (.k (.bool false))⟩,
  ⟨(some 4), none, .mv (.t 83)⟩]
def cLaw33SampleColours : C := (.seq (.reg rLaw33SampleColoursX0 false [] [0, 1]) (.seq (.seq (.reg rLaw33SampleColoursX1 false [] [0, 1, 20]) (.cond (.t 20) (.seq (.reg rLaw33SampleColoursX2 false [] [4]) .ret) .skip)) (.seq (.reg rLaw33SampleColoursX3 false [] [1, 5]) (.seq (.reg rLaw33SampleColoursX4 false [] [5, 6]) (.seq (.reg rLaw33SampleColoursX5 false [] [5, 6, 7]) (.seq (.seq (.reg rLaw33SampleColoursX6 false [] [5, 6, 7, 8]) (.blk 0 (.loop lLaw33SampleColoursX0))) (.seq (.reg rLaw33SampleColoursX10 false [] [5, 6, 7, 9]) (.seq (.seq (.reg rLaw33SampleColoursX11 false [] [5, 6, 7, 9, 10]) (.blk 2 (.loop lLaw33SampleColoursX2))) (.seq (.reg rLaw33SampleColoursX25 false [] [7, 9, 16]) (.seq (.reg rLaw33SampleColoursX26 false [] [4]) .ret))))))))))
def qLaw33SampleColours : AFn := ⟨84, 2, [.t 4], cLaw33SampleColours⟩
/- cohesion/cohesionlaw33.SampleEdges -/
def rLaw33SampleEdgesX0 : List O := [
  ⟨(some 2), none, .mv (.k (.bool false))⟩]
def rLaw33SampleEdgesX1 : List O := [
  ⟨(some 12), none, .mv (.t 0)⟩,
  ⟨(some 13), none, .call nMakeFew [(.t 12)]⟩,
  ⟨(some 14), none, .un .not (.t 13)⟩]
def rLaw33SampleEdgesX2 : List O := [
  ⟨(some 15), none, .call nLaw33Awake []⟩,
  ⟨(some 2), none, .mv (.t 15)⟩]
def rLaw33SampleEdgesX3 : List O := [
  ⟨(some 16), none, .mv (.t 0)⟩,
  ⟨(some 17), none, .call nMakeNew [(.t 16)]⟩,
  ⟨(some 18), none, .call nMakeGraph [(.t 17), (.k (.int .i64 5))]⟩,
  ⟨(some 3), none, .new [(.int .i64 0), (.own 2 [])]⟩,
  ⟨none, none, .st 2 (.t 3) (.t 18)⟩]
def rLaw33SampleEdgesX4 : List O := [
  ⟨(some 19), none, .fad 1 (.t 3)⟩,
  ⟨(some 20), none, .ld none (.t 19)⟩,
  ⟨(some 21), none, .len (.t 20)⟩,
  ⟨(some 22), none, .bin .gtr (.t 21) (.k (.int .i64 8))⟩]
def rLaw33SampleEdgesX5 : List O := [
  ⟨(some 23), none, .fad 1 (.t 3)⟩,
  ⟨(some 24), none, .ld none (.t 23)⟩,
  ⟨(some 25), none, .slc 2 (.t 24) none (some (.k (.int .i64 8)))⟩,
  ⟨(some 26), none, .fad 1 (.t 3)⟩,
  ⟨none, none, .st 1 (.t 26) (.t 25)⟩]
def rLaw33SampleEdgesX6 : List O := [
  ⟨(some 4), none, .mv (.k (.int .i64 0))⟩]
def rLaw33SampleEdgesX7 : List O := [
  ⟨(some 5), none, .mv (.k (.int .i64 0))⟩]
def rLaw33SampleEdgesX8 : List O := [
  ⟨(some 27), none, .mv (.t 5)⟩,
  ⟨(some 28), none, .fad 1 (.t 3)⟩,
  ⟨(some 29), none, .ld none (.t 28)⟩,
  ⟨(some 30), none, .len (.t 29)⟩,
  ⟨(some 31), none, .cvt .u64 (.t 30)⟩,
  ⟨(some 32), none, .bin .shl (.k (.int .i64 1)) (.t 31)⟩,
  ⟨(some 33), none, .bin .lss (.t 27) (.t 32)⟩]
def rLaw33SampleEdgesX9 : List O := [
  ⟨(some 6), none, .mv (.k (.own 1 []))⟩]
def rLaw33SampleEdgesX10 : List O := [
  ⟨(some 36), none, .fad 1 (.t 3)⟩,
  ⟨(some 37), none, .ld none (.t 36)⟩,
  ⟨(some 38), none, .len (.t 37)⟩,
  ⟨(some 39), none, .mv (.k (.int .i64 0))⟩]
def rLaw33SampleEdgesX11 : List O := [
  ⟨(some 40), none, .bin .lss (.t 39) (.t 38)⟩]
def rLaw33SampleEdgesX12 : List O := [
  ⟨(some 41), none, .mv (.t 39)⟩,
  ⟨(some 7), none, .mv (.t 41)⟩]
def rLaw33SampleEdgesX13 : List O := [
  ⟨(some 42), none, .mv (.t 6)⟩,
  ⟨(some 43), none, .mv (.t 5)⟩,
  ⟨(some 44), none, .mv (.t 7)⟩,
  ⟨(some 45), none, .cvt .u64 (.t 44)⟩,
  ⟨(some 46), none, .bin .shr (.t 43) (.t 45)⟩,
  ⟨(some 47), none, .bin .and (.t 46) (.k (.int .i64 1))⟩,
  ⟨(some 48), none, .bin .eql (.t 47) (.k (.int .i64 1))⟩,
  ⟨(some 49), none, .bslice 1 1 [(.bool false)] [(0, 1, (.t 48))]⟩,
  ⟨(some 50), none, .app 1 (.t 42) (.t 49)⟩,
  ⟨(some 6), none, .mv (.t 50)⟩]
def rLaw33SampleEdgesX14 : List O := [
  ⟨(some 51), none, .bin .add (.t 39) (.k (.int .i64 1))⟩,
  ⟨(some 39), none, .mv (.t 51)⟩]
def lLaw33SampleEdgesX0 : C := (.seq (.reg rLaw33SampleEdgesX11 false [] [3, 4, 5, 6, 38, 39, 40]) (.seq (.cond (.t 40) .skip (.exit 2)) (.seq (.blk 3 (.seq (.reg rLaw33SampleEdgesX12 false [] [3, 4, 5, 6, 7, 38, 39]) (.reg rLaw33SampleEdgesX13 false [] [3, 4, 5, 6, 38, 39]))) (.reg rLaw33SampleEdgesX14 false [] [3, 4, 5, 6, 38, 39]))))
def rLaw33SampleEdgesX15 : List O := [
  ⟨(some 53), none, .ld (some 2) (.t 3)⟩,
  ⟨(some 54), none, .mv (.t 6)⟩,
  ⟨(some 55), none, .call nSampleByEdges [(.t 53), (.t 54)]⟩,
  ⟨(some 52), none, .mv (.t 55)⟩,
  ⟨(some 56), none, .ext 0 (.t 52)⟩,
  ⟨(some 57), none, .ext 1 (.t 52)⟩,
  ⟨(some 8), none, .mv (.t 56)⟩,
  ⟨(some 9), none, .mv (.t 57)⟩]
def rLaw33SampleEdgesX16 : List O := [
  ⟨(some 58), none, .mv (.t 9)⟩,
  ⟨(some 59), none, .bin .neq (.t 58) (.k (.int .i64 0))⟩]
def rLaw33SampleEdgesX17 : List O := [
  ⟨(some 2), none, .mv (.k (.bool false))⟩]
def rLaw33SampleEdgesX18 : List O := [
  ⟨(some 60), none, .mv (.t 4)⟩,
  ⟨(some 61), none, .mv (.t 8)⟩,
  ⟨(some 62), none, .bin .add (.t 60) (.t 61)⟩,
  ⟨(some 4), none, .mv (.t 62)⟩]
def rLaw33SampleEdgesX19 : List O := [
  ⟨(some 34), none, .mv (.t 5)⟩,
  ⟨(some 35), none, .bin .add (.t 34) (.k (.int .i64 1))⟩,
  ⟨(some 5), none, .mv (.t 35)⟩]
def lLaw33SampleEdgesX1 : C := (.seq (.seq (.reg rLaw33SampleEdgesX8 false [] [3, 4, 5, 33]) (.cond (.t 33) .skip (.exit 0))) (.seq (.blk 1 (.seq (.reg rLaw33SampleEdgesX9 false [] [3, 4, 5, 6]) (.seq (.seq (.reg rLaw33SampleEdgesX10 false [] [3, 4, 5, 6, 38, 39]) (.blk 2 (.loop lLaw33SampleEdgesX0))) (.seq (.reg rLaw33SampleEdgesX15 false [] [3, 4, 5, 8, 9]) (.seq (.seq (.reg rLaw33SampleEdgesX16 false [] [3, 4, 5, 8, 59]) (.cond (.t 59) (.seq (.reg rLaw33SampleEdgesX17 false [] [2]) .ret) .skip)) (.reg rLaw33SampleEdgesX18 false [] [3, 4, 5])))))) (.reg rLaw33SampleEdgesX19 false [] [3, 4, 5])))
def rLaw33SampleEdgesX20 : List O := [
  ⟨(some 64), none, .ld (some 2) (.t 3)⟩,
  ⟨(some 65), none, .call nRef29Count [(.t 64)]⟩,
  ⟨(some 63), none, .mv (.t 65)⟩,
  ⟨(some 66), none, .ext 0 (.t 63)⟩,
  ⟨(some 67), none, .ext 1 (.t 63)⟩,
  ⟨(some 10), none, .mv (.t 66)⟩,
  ⟨(some 11), none, .mv (.t 67)⟩]
def rLaw33SampleEdgesX21 : List O := [
  ⟨(some 68), none, .mv (.t 4)⟩,
  ⟨(some 69), none, .mv (.t 10)⟩,
  ⟨(some 70), none, .fad 1 (.t 3)⟩,
  ⟨(some 71), none, .ld none (.t 70)⟩,
  ⟨(some 72), none, .len (.t 71)⟩,
  ⟨(some 73), none, .cvt .u64 (.t 72)⟩,
  ⟨(some 74), none, .bin .shl (.t 69) (.t 73)⟩,
  ⟨(some 75), none, .bin .eql (.t 68) (.t 74)⟩,
  ⟨(some 76), none, .mv (.t 75)⟩,
  ⟨(some 77), (some (76, true)), .call nLaw33Awake []⟩,
  ⟨(some 78), none, .pick (.t 76) (.t 77) (.k (.bool false))⟩,
  ⟨(some 2), none, .mv (.t 78)⟩]
def cLaw33SampleEdges : C := (.seq (.reg rLaw33SampleEdgesX0 false [] [0]) (.seq (.seq (.reg rLaw33SampleEdgesX1 false [] [0, 14]) (.cond (.t 14) (.seq (.reg rLaw33SampleEdgesX2 false [] [2]) .ret) .skip)) (.seq (.reg rLaw33SampleEdgesX3 false [] [3]) (.seq (.seq (.reg rLaw33SampleEdgesX4 false [] [3, 22]) (.cond (.t 22) (.reg rLaw33SampleEdgesX5 false [] [3]) .skip)) (.seq (.reg rLaw33SampleEdgesX6 false [] [3, 4]) (.seq (.seq (.reg rLaw33SampleEdgesX7 false [] [3, 4, 5]) (.blk 0 (.loop lLaw33SampleEdgesX1))) (.seq (.reg rLaw33SampleEdgesX20 false [] [3, 4, 10]) (.seq (.reg rLaw33SampleEdgesX21 false [] [2]) .ret))))))))
def qLaw33SampleEdges : AFn := ⟨79, 1, [.t 2], cLaw33SampleEdges⟩
/- cohesion/cohesionlaw33.SampleParts -/
def rLaw33SamplePartsX0 : List O := [
  ⟨(some 2), none, .mv (.k (.bool false))⟩]
def rLaw33SamplePartsX1 : List O := [
  ⟨(some 23), none, .mv (.t 0)⟩,
  ⟨(some 24), none, .call nMakeFew [(.t 23)]⟩,
  ⟨(some 25), none, .un .not (.t 24)⟩]
def rLaw33SamplePartsX2 : List O := [
  ⟨(some 26), none, .call nLaw33Awake []⟩,
  ⟨(some 2), none, .mv (.t 26)⟩]
def rLaw33SamplePartsX3 : List O := [
  ⟨(some 27), none, .mv (.t 0)⟩,
  ⟨(some 28), none, .call nMakeNew [(.t 27)]⟩,
  ⟨(some 3), none, .mv (.t 28)⟩]
def rLaw33SamplePartsX4 : List O := [
  ⟨(some 29), none, .mv (.t 3)⟩,
  ⟨(some 30), none, .call nMakeGraph [(.t 29), (.k (.int .i64 8))]⟩,
  ⟨(some 4), none, .new [(.int .i64 0), (.own 2 [])]⟩,
  ⟨none, none, .st 2 (.t 4) (.t 30)⟩]
def rLaw33SamplePartsX5 : List O := [
  ⟨(some 32), none, .ld (some 2) (.t 4)⟩,
  ⟨(some 33), none, .call nRef29Count [(.t 32)]⟩,
  ⟨(some 31), none, .mv (.t 33)⟩,
  ⟨(some 34), none, .ext 0 (.t 31)⟩,
  ⟨(some 35), none, .ext 1 (.t 31)⟩,
  ⟨(some 5), none, .mv (.t 34)⟩,
  ⟨(some 6), none, .mv (.t 35)⟩]
def rLaw33SamplePartsX6 : List O := [
  ⟨(some 36), none, .mv (.t 3)⟩,
  ⟨(some 37), none, .fad 0 (.t 4)⟩,
  ⟨(some 38), none, .ld none (.t 37)⟩,
  ⟨(some 39), none, .call nFieldNumbers [(.t 36), (.t 38), (.k (.int .i64 4))]⟩,
  ⟨(some 7), none, .mv (.t 39)⟩]
def rLaw33SamplePartsX7 : List O := [
  ⟨(some 8), none, .mv (.k (.own 1 []))⟩]
def rLaw33SamplePartsX8 : List O := [
  ⟨(some 40), none, .fad 1 (.t 4)⟩,
  ⟨(some 41), none, .ld none (.t 40)⟩,
  ⟨(some 42), none, .len (.t 41)⟩,
  ⟨(some 43), none, .mks 1 [(.bool false)] (.t 42) (.t 42)⟩,
  ⟨(some 9), none, .mv (.t 43)⟩]
def rLaw33SamplePartsX9 : List O := [
  ⟨(some 44), none, .mv (.t 9)⟩,
  ⟨(some 45), none, .len (.t 44)⟩,
  ⟨(some 46), none, .mv (.k (.int .i64 0))⟩]
def rLaw33SamplePartsX10 : List O := [
  ⟨(some 47), none, .bin .lss (.t 46) (.t 45)⟩]
def rLaw33SamplePartsX11 : List O := [
  ⟨(some 48), none, .mv (.t 46)⟩,
  ⟨(some 10), none, .mv (.t 48)⟩]
def rLaw33SamplePartsX12 : List O := [
  ⟨(some 49), none, .mv (.t 9)⟩,
  ⟨(some 50), none, .mv (.t 10)⟩,
  ⟨(some 51), none, .ixa 1 (.t 49) (.t 50)⟩,
  ⟨none, none, .st 1 (.t 51) (.k (.bool true))⟩]
def rLaw33SamplePartsX13 : List O := [
  ⟨(some 52), none, .bin .add (.t 46) (.k (.int .i64 1))⟩,
  ⟨(some 46), none, .mv (.t 52)⟩]
def lLaw33SamplePartsX0 : C := (.seq (.reg rLaw33SamplePartsX10 false [] [4, 5, 7, 8, 9, 45, 46, 47]) (.seq (.cond (.t 47) .skip (.exit 0)) (.seq (.blk 1 (.seq (.reg rLaw33SamplePartsX11 false [] [4, 5, 7, 8, 9, 10, 45, 46]) (.reg rLaw33SamplePartsX12 false [] [4, 5, 7, 8, 9, 45, 46]))) (.reg rLaw33SamplePartsX13 false [] [4, 5, 7, 8, 9, 45, 46]))))
def rLaw33SamplePartsX14 : List O := [
  ⟨(some 53), none, .mv (.t 7)⟩,
  ⟨(some 54), none, .len (.t 53)⟩,
  ⟨(some 55), none, .mv (.k (.int .i64 0))⟩]
def rLaw33SamplePartsX15 : List O := [
  ⟨(some 56), none, .bin .lss (.t 55) (.t 54)⟩]
def rLaw33SamplePartsX16 : List O := [
  ⟨(some 57), none, .ixa 1 (.t 53) (.t 55)⟩,
  ⟨(some 58), none, .ld none (.t 57)⟩,
  ⟨(some 12), none, .mv (.t 58)⟩]
def rLaw33SamplePartsX17 : List O := [
  ⟨(some 59), none, .mv (.t 8)⟩,
  ⟨(some 60), none, .mv (.t 12)⟩,
  ⟨(some 61), none, .bin .quo (.t 60) (.k (.int .i64 2))⟩,
  ⟨(some 62), none, .bslice 1 1 [(.int .i64 0)] [(0, 1, (.t 61))]⟩,
  ⟨(some 63), none, .app 1 (.t 59) (.t 62)⟩,
  ⟨(some 8), none, .mv (.t 63)⟩]
def rLaw33SamplePartsX18 : List O := [
  ⟨(some 64), none, .bin .add (.t 55) (.k (.int .i64 1))⟩,
  ⟨(some 55), none, .mv (.t 64)⟩]
def lLaw33SamplePartsX1 : C := (.seq (.reg rLaw33SamplePartsX15 false [] [4, 5, 7, 8, 9, 53, 54, 55, 56]) (.seq (.cond (.t 56) .skip (.exit 2)) (.seq (.blk 3 (.seq (.reg rLaw33SamplePartsX16 false [] [4, 5, 7, 8, 9, 12, 53, 54, 55]) (.reg rLaw33SamplePartsX17 false [] [4, 5, 7, 8, 9, 53, 54, 55]))) (.reg rLaw33SamplePartsX18 false [] [4, 5, 7, 8, 9, 53, 54, 55]))))
def rLaw33SamplePartsX19 : List O := [
  ⟨(some 66), none, .ld (some 2) (.t 4)⟩,
  ⟨(some 67), none, .mv (.t 7)⟩,
  ⟨(some 68), none, .call nSampleMono [(.t 66), (.t 67), (.k (.int .i64 4))]⟩,
  ⟨(some 65), none, .mv (.t 68)⟩,
  ⟨(some 69), none, .ext 0 (.t 65)⟩,
  ⟨(some 70), none, .ext 1 (.t 65)⟩,
  ⟨(some 13), none, .new [(.int .i64 0), (.own 2 [])]⟩,
  ⟨none, none, .st 2 (.t 13) (.t 69)⟩,
  ⟨(some 14), none, .mv (.t 70)⟩]
def rLaw33SamplePartsX20 : List O := [
  ⟨(some 72), none, .ld (some 2) (.t 4)⟩,
  ⟨(some 73), none, .mv (.t 8)⟩,
  ⟨(some 74), none, .call nSampleMono [(.t 72), (.t 73), (.k (.int .i64 2))]⟩,
  ⟨(some 71), none, .mv (.t 74)⟩,
  ⟨(some 75), none, .ext 0 (.t 71)⟩,
  ⟨(some 76), none, .ext 1 (.t 71)⟩,
  ⟨(some 15), none, .new [(.int .i64 0), (.own 2 [])]⟩,
  ⟨none, none, .st 2 (.t 15) (.t 75)⟩,
  ⟨(some 16), none, .mv (.t 76)⟩]
def rLaw33SamplePartsX21 : List O := [
  ⟨(some 78), none, .ld (some 2) (.t 4)⟩,
  ⟨(some 79), none, .fad 0 (.t 4)⟩,
  ⟨(some 80), none, .ld none (.t 79)⟩,
  ⟨(some 81), none, .mks 1 [(.int .i64 0)] (.t 80) (.t 80)⟩,
  ⟨(some 82), none, .call nSampleByColours [(.t 78), (.t 81), (.k (.int .i64 1))]⟩,
  ⟨(some 77), none, .mv (.t 82)⟩,
  ⟨(some 83), none, .ext 0 (.t 77)⟩,
  ⟨(some 84), none, .ext 1 (.t 77)⟩,
  ⟨(some 17), none, .mv (.t 83)⟩,
  ⟨(some 18), none, .mv (.t 84)⟩]
def rLaw33SamplePartsX22 : List O := [
  ⟨(some 86), none, .ld (some 2) (.t 4)⟩,
  ⟨(some 87), none, .mv (.t 9)⟩,
  ⟨(some 88), none, .call nSampleByEdges [(.t 86), (.t 87)]⟩,
  ⟨(some 85), none, .mv (.t 88)⟩,
  ⟨(some 89), none, .ext 0 (.t 85)⟩,
  ⟨(some 90), none, .ext 1 (.t 85)⟩,
  ⟨(some 19), none, .mv (.t 89)⟩,
  ⟨(some 20), none, .mv (.t 90)⟩]
def rLaw33SamplePartsX23 : List O := [
  ⟨(some 91), none, .fad 1 (.t 13)⟩,
  ⟨(some 92), none, .ld none (.t 91)⟩,
  ⟨(some 93), none, .len (.t 92)⟩,
  ⟨(some 94), none, .mv (.k (.int .i64 0))⟩]
def rLaw33SamplePartsX24 : List O := [
  ⟨(some 95), none, .bin .lss (.t 94) (.t 93)⟩]
def rLaw33SamplePartsX25 : List O := [
  ⟨(some 96), none, .ixa 2 (.t 92) (.t 94)⟩,
  ⟨(some 97), none, .ld (some 2) (.t 96)⟩,
  ⟨(some 22), none, .new [(.int .i64 0), (.int .i64 0)]⟩,
  ⟨none, none, .st 2 (.t 22) (.t 97)⟩]
def rLaw33SamplePartsX26 : List O := [
  ⟨(some 98), none, .ld (some 2) (.t 15)⟩,
  ⟨(some 99), none, .fad 0 (.t 22)⟩,
  ⟨(some 100), none, .ld none (.t 99)⟩,
  ⟨(some 101), none, .fad 1 (.t 22)⟩,
  ⟨(some 102), none, .ld none (.t 101)⟩,
  ⟨(some 103), none, .call nRef03Find [(.t 98), (.t 100), (.t 102)]⟩,
  ⟨(some 104), none, .bin .lss (.t 103) (.k (.int .i64 0))⟩]
def rLaw33SamplePartsX27 : List O := [
  ⟨(some 2), none, .mv (.k (.bool false))⟩]
def rLaw33SamplePartsX28 : List O := [
  ⟨(some 105), none, .bin .add (.t 94) (.k (.int .i64 1))⟩,
  ⟨(some 94), none, .mv (.t 105)⟩]
def lLaw33SamplePartsX2 : C := (.seq (.reg rLaw33SamplePartsX24 false [] [5, 14, 15, 16, 17, 18, 19, 20, 92, 93, 94, 95]) (.seq (.cond (.t 95) .skip (.exit 4)) (.seq (.blk 5 (.seq (.reg rLaw33SamplePartsX25 false [] [5, 14, 15, 16, 17, 18, 19, 20, 22, 92, 93, 94]) (.seq (.reg rLaw33SamplePartsX26 false [] [5, 14, 15, 16, 17, 18, 19, 20, 92, 93, 94, 104]) (.cond (.t 104) (.seq (.reg rLaw33SamplePartsX27 false [] [2]) .ret) .skip)))) (.reg rLaw33SamplePartsX28 false [] [5, 14, 15, 16, 17, 18, 19, 20, 92, 93, 94]))))
def rLaw33SamplePartsX29 : List O := [
  ⟨(some 106), none, .mv (.t 14)⟩,
  ⟨(some 107), none, .bin .eql (.t 106) (.k (.int .i64 0))⟩,
  ⟨(some 108), none, .mv (.t 107)⟩,
  ⟨(some 109), (some (108, true)), .mv (.t 16)⟩,
  ⟨(some 110), (some (108, true)), .bin .eql (.t 109) (.k (.int .i64 0))⟩,
  ⟨(some 111), none, .pick (.t 108) (.t 110) (.k (.bool false))⟩,
  ⟨(some 112), none, .mv (.t 111)⟩,
  ⟨(some 113), (some (112, true)), .mv (.t 18)⟩,
  ⟨(some 114), (some (112, true)), .bin .eql (.t 113) (.k (.int .i64 0))⟩,
  ⟨(some 115), none, .pick (.t 112) (.t 114) (.k (.bool false))⟩,
  ⟨(some 116), none, .mv (.t 115)⟩,
  ⟨(some 117), (some (116, true)), .mv (.t 20)⟩,
  ⟨(some 118), (some (116, true)), .bin .eql (.t 117) (.k (.int .i64 0))⟩,
  ⟨(some 119), none, .pick (.t 116) (.t 118) (.k (.bool false))⟩,
  ⟨(some 120), none, .mv (.t 119)⟩,
  ⟨(some 121), (some (120, true)), .mv (.t 17)⟩,
  ⟨(some 122), (some (120, true)), .mv (.t 5)⟩,
  ⟨(some 123), (some (120, true)), .bin .eql (.t 121) (.t 122)⟩,
  ⟨(some 124), none, .pick (.t 120) (.t 123) (.k (.bool false))⟩,
  ⟨(some 125), none, .mv (.t 124)⟩,
  ⟨(some 126), (some (125, true)), .mv (.t 19)⟩,
  ⟨(some 127), (some (125, true)), .mv (.t 5)⟩,
  ⟨(some 128), (some (125, true)), .bin .mul (.k (.int .i64 8)) (.t 127)⟩,
  ⟨(some 129), (some (125, true)), .bin .eql (.t 126) (.t 128)⟩,
  ⟨(some 130), none, .pick (.t 125) (.t 129) (.k (.bool false))⟩,
  ⟨(some 131), none, .mv (.t 130)⟩,
  ⟨(some 132), (some (131, true)), .call nLaw33Awake []⟩,
  ⟨(some 133), none, .pick (.t 131) (.t 132) (.k (.bool false))⟩,
  ⟨(some 2), none, .mv (.t 133)⟩]
def cLaw33SampleParts : C := (.seq (.reg rLaw33SamplePartsX0 false [] [0]) (.seq (.seq (.reg rLaw33SamplePartsX1 false [] [0, 25]) (.cond (.t 25) (.seq (.reg rLaw33SamplePartsX2 false [] [2]) .ret) .skip)) (.seq (.reg rLaw33SamplePartsX3 false [] [3]) (.seq (.reg rLaw33SamplePartsX4 false [] [3, 4]) (.seq (.reg rLaw33SamplePartsX5 false [] [3, 4, 5]) (.seq (.reg rLaw33SamplePartsX6 false [] [4, 5, 7]) (.seq (.reg rLaw33SamplePartsX7 false [] [4, 5, 7, 8]) (.seq (.reg rLaw33SamplePartsX8 false [] [4, 5, 7, 8, 9]) (.seq (.seq (.reg rLaw33SamplePartsX9 false [] [4, 5, 7, 8, 9, 45, 46]) (.blk 0 (.loop lLaw33SamplePartsX0))) (.seq (.seq (.reg rLaw33SamplePartsX14 false [] [4, 5, 7, 8, 9, 53, 54, 55]) (.blk 2 (.loop lLaw33SamplePartsX1))) (.seq (.reg rLaw33SamplePartsX19 false [] [4, 5, 8, 9, 13, 14]) (.seq (.reg rLaw33SamplePartsX20 false [] [4, 5, 9, 13, 14, 15, 16]) (.seq (.reg rLaw33SamplePartsX21 true [(4, 4), (5, 5), (9, 9), (0, 1), (0, 2), (0, 3)] [4, 5, 9, 13, 14, 15, 16, 17, 18]) (.seq (.reg rLaw33SamplePartsX22 false [] [5, 13, 14, 15, 16, 17, 18, 19, 20]) (.seq (.seq (.reg rLaw33SamplePartsX23 false [] [5, 14, 15, 16, 17, 18, 19, 20, 92, 93, 94]) (.blk 4 (.loop lLaw33SamplePartsX2))) (.seq (.reg rLaw33SamplePartsX29 false [] [2]) .ret))))))))))))))))
def qLaw33SampleParts : AFn := ⟨134, 1, [.t 2], cLaw33SampleParts⟩
/- cohesion/cohesionmake.Few -/
def rMakeFewX0 : List O := [
  ⟨(some 2), none, .mv (.k (.bool false))⟩]
def rMakeFewX1 : List O := [
  ⟨(some 3), none, .mv (.t 0)⟩,
  ⟨(some 4), none, .len (.t 3)⟩,
  ⟨(some 5), none, .bin .leq (.t 4) (.k (.int .i64 500))⟩,
  ⟨(some 2), none, .mv (.t 5)⟩]
def cMakeFew : C := (.seq (.reg rMakeFewX0 false [] [0]) (.seq (.reg rMakeFewX1 false [] [2]) .ret))
def qMakeFew : AFn := ⟨6, 1, [.t 2], cMakeFew⟩
/- cohesion/cohesionlaw33.awake -/
def rLaw33AwakeX0 : List O := [
  ⟨(some 0), none, .mv (.k (.bool false))⟩]
def rLaw33AwakeX1 : List O := [
  ⟨(some 7), none, .bslice 1 1 [(.int .i64 0)] [(0, 1, (.k (.int .i64 1)))]⟩,
  ⟨(some 8), none, .call nSampleReservoir [(.k (.int .i64 3)), (.k (.int .i64 2)), (.t 7)]⟩,
  ⟨(some 6), none, .mv (.t 8)⟩,
  ⟨(some 9), none, .ext 0 (.t 6)⟩,
  ⟨(some 10), none, .ext 1 (.t 6)⟩,
  ⟨(some 1), none, .mv (.t 9)⟩,
  ⟨(some 2), none, .mv (.t 10)⟩]
def rLaw33AwakeX2 : List O := [
  ⟨(some 11), none, .build [(.int .i64 0), (.int .i64 0)] [(0, 1, (.k (.int .i64 0))), (1, 1, (.k (.int .i64 1)))]⟩,
  ⟨(some 12), none, .build [(.int .i64 0), (.int .i64 0)] [(0, 1, (.k (.int .i64 0))), (1, 1, (.k (.int .i64 2)))]⟩,
  ⟨(some 13), none, .build [(.int .i64 0), (.int .i64 0)] [(0, 1, (.k (.int .i64 1))), (1, 1, (.k (.int .i64 2)))]⟩,
  ⟨(some 14), none, .bslice 2 3 [(.int .i64 0), (.int .i64 0)] [(0, 2, (.t 11)), (2, 2, (.t 12)), (4, 2, (.t 13))]⟩,
  ⟨(some 15), none, .build [(.int .i64 0), (.own 2 [])] [(0, 1, (.k (.int .i64 3))), (1, 1, (.t 14))]⟩,
  ⟨(some 3), none, .new [(.int .i64 0), (.own 2 [])]⟩,
  ⟨none, none, .st 2 (.t 3) (.t 15)⟩]
def rLaw33AwakeX3 : List O := [
  ⟨(some 17), none, .ld (some 2) (.t 3)⟩,
  ⟨(some 18), none, .bslice 1 3 [(.int .i64 0)] [(0, 1, (.k (.int .i64 0))), (1, 1, (.k (.int .i64 0))), (2, 1, (.k (.int .i64 0)))]⟩,
  ⟨(some 19), none, .call nSampleByColours [(.t 17), (.t 18), (.k (.int .i64 1))]⟩,
  ⟨(some 16), none, .mv (.t 19)⟩,
  ⟨(some 20), none, .ext 0 (.t 16)⟩,
  ⟨(some 21), none, .ext 1 (.t 16)⟩,
  ⟨(some 4), none, .mv (.t 20)⟩,
  ⟨(some 5), none, .mv (.t 21)⟩]
def rLaw33AwakeX4 : List O := [
  ⟨(some 22), none, .mv (.t 2)⟩,
  ⟨(some 23), none, .bin .eql (.t 22) (.k (.int .i64 0))⟩,
  ⟨(some 24), none, .mv (.t 23)⟩,
  ⟨(some 25), (some (24, true)), .mv (.t 1)⟩,
  ⟨(some 26), (some (24, true)), .bslice 1 2 [(.int .i64 0)] [(0, 1, (.k (.int .i64 0))), (1, 1, (.k (.int .i64 2)))]⟩,
  ⟨(some 27), (some (24, true)), .call nRef02Cmp [(.t 25), (.t 26)]⟩,
  ⟨(some 28), (some (24, true)), .bin .eql (.t 27) (.k (.int .i64 0))⟩,
  ⟨(some 29), none, .pick (.t 24) (.t 28) (.k (.bool false))⟩,
  ⟨(some 30), none, .mv (.t 29)⟩,
  ⟨(some 31), (some (30, true)), .mv (.t 5)⟩,
  ⟨(some 32), (some (30, true)), .bin .eql (.t 31) (.k (.int .i64 0))⟩,
  ⟨(some 33), none, .pick (.t 30) (.t 32) (.k (.bool false))⟩,
  ⟨(some 34), none, .mv (.t 33)⟩,
  ⟨(some 35), (some (34, true)), .mv (.t 4)⟩,
  ⟨(some 36), (some (34, true)), .bin .eql (.t 35) (.k (.int .i64 1))⟩,
  ⟨(some 37), none, .pick (.t 34) (.t 36) (.k (.bool false))⟩,
  ⟨(some 0), none, .mv (.t 37)⟩]
def cLaw33Awake : C := (.seq (.reg rLaw33AwakeX0 false [] []) (.seq (.reg rLaw33AwakeX1 false [] [1, 2]) (.seq (.reg rLaw33AwakeX2 false [] [1, 2, 3]) (.seq (.reg rLaw33AwakeX3 false [] [1, 2, 4, 5]) (.seq (.reg rLaw33AwakeX4 false [] [0]) .ret)))))
def qLaw33Awake : AFn := ⟨38, 0, [.t 0], cLaw33Awake⟩
/- cohesion/cohesionmake.Graph -/
def rMakeGraphX0 : List O := [
  ⟨(some 4), none, .new [(.int .i64 0), (.own 2 [])]⟩]
def rMakeGraphX1 : List O := [
  ⟨(some 9), none, .mv (.t 0)⟩,
  ⟨(some 10), none, .mv (.t 1)⟩,
  ⟨(some 11), none, .bin .add (.t 10) (.k (.int .i64 1))⟩,
  ⟨(some 12), none, .call nMakeDeckNext [(.t 9), (.t 11)]⟩,
  ⟨(some 13), none, .build [(.int .i64 0), (.own 2 [])] [(0, 1, (.t 12))]⟩,
  ⟨(some 5), none, .new [(.int .i64 0), (.own 2 [])]⟩,
  ⟨none, none, .st 2 (.t 5) (.t 13)⟩]
def rMakeGraphX2 : List O := [
  ⟨(some 14), none, .fad 0 (.t 5)⟩,
  ⟨(some 15), none, .ld none (.t 14)⟩,
  ⟨(some 16), none, .bin .lss (.t 15) (.k (.int .i64 4))⟩]
def rMakeGraphX3 : List O := [
  ⟨(some 17), none, .mv (.t 1)⟩,
  ⟨(some 18), none, .fad 0 (.t 5)⟩,
  ⟨(some 19), none, .ld none (.t 18)⟩,
  ⟨(some 20), none, .mv (.t 0)⟩,
  ⟨(some 21), none, .mv (.t 1)⟩,
  ⟨(some 22), none, .bin .add (.t 21) (.k (.int .i64 1))⟩,
  ⟨(some 23), none, .call nMakeDeckNext [(.t 20), (.t 22)]⟩,
  ⟨(some 24), none, .bin .add (.t 19) (.t 23)⟩,
  ⟨(some 25), none, .min [(.t 17), (.t 24)]⟩,
  ⟨(some 26), none, .fad 0 (.t 5)⟩,
  ⟨none, none, .st 1 (.t 26) (.t 25)⟩]
def rMakeGraphX4 : List O := [
  ⟨(some 27), none, .mv (.t 0)⟩,
  ⟨(some 28), none, .call nMakeDeckNext [(.t 27), (.k (.int .i64 4))]⟩,
  ⟨(some 29), none, .bin .add (.k (.int .i64 1)) (.t 28)⟩,
  ⟨(some 6), none, .mv (.t 29)⟩]
def rMakeGraphX5 : List O := [
  ⟨(some 7), none, .mv (.k (.int .i64 0))⟩]
def rMakeGraphX6 : List O := [
  ⟨(some 30), none, .mv (.t 7)⟩,
  ⟨(some 31), none, .fad 0 (.t 5)⟩,
  ⟨(some 32), none, .ld none (.t 31)⟩,
  ⟨(some 33), none, .bin .lss (.t 30) (.t 32)⟩]
def rMakeGraphX7 : List O := [
  ⟨(some 36), none, .mv (.t 7)⟩,
  ⟨(some 37), none, .bin .add (.t 36) (.k (.int .i64 1))⟩,
  ⟨(some 8), none, .mv (.t 37)⟩]
def rMakeGraphX8 : List O := [
  ⟨(some 38), none, .mv (.t 8)⟩,
  ⟨(some 39), none, .fad 0 (.t 5)⟩,
  ⟨(some 40), none, .ld none (.t 39)⟩,
  ⟨(some 41), none, .bin .lss (.t 38) (.t 40)⟩]
def rMakeGraphX9 : List O := [
  ⟨(some 44), none, .mv (.t 0)⟩,
  ⟨(some 45), none, .call nMakeDeckNext [(.t 44), (.k (.int .i64 5))]⟩,
  ⟨(some 46), none, .mv (.t 6)⟩,
  ⟨(some 47), none, .bin .sub (.k (.int .i64 5)) (.t 46)⟩,
  ⟨(some 48), none, .bin .geq (.t 45) (.t 47)⟩]
def rMakeGraphX10 : List O := [
  ⟨(some 49), none, .fad 1 (.t 5)⟩,
  ⟨(some 50), none, .ld none (.t 49)⟩,
  ⟨(some 51), none, .mv (.t 7)⟩,
  ⟨(some 52), none, .mv (.t 8)⟩,
  ⟨(some 53), none, .build [(.int .i64 0), (.int .i64 0)] [(0, 1, (.t 51)), (1, 1, (.t 52))]⟩,
  ⟨(some 54), none, .bslice 2 1 [(.int .i64 0), (.int .i64 0)] [(0, 2, (.t 53))]⟩,
  ⟨(some 55), none, .app 2 (.t 50) (.t 54)⟩,
  ⟨(some 56), none, .fad 1 (.t 5)⟩,
  ⟨none, none, .st 1 (.t 56) (.t 55)⟩]
def rMakeGraphX11 : List O := [
  ⟨(some 42), none, .mv (.t 8)⟩,
  ⟨(some 43), none, .bin .add (.t 42) (.k (.int .i64 1))⟩,
  ⟨(some 8), none, .mv (.t 43)⟩]
def lMakeGraphX0 : C := (.seq (.seq (.reg rMakeGraphX8 false [] [0, 4, 5, 6, 7, 8, 41]) (.cond (.t 41) .skip (.exit 2))) (.seq (.blk 3 (.seq (.reg rMakeGraphX9 false [] [0, 4, 5, 6, 7, 8, 48]) (.cond (.t 48) (.reg rMakeGraphX10 false [] [0, 4, 5, 6, 7, 8]) .skip))) (.reg rMakeGraphX11 false [] [0, 4, 5, 6, 7, 8])))
def rMakeGraphX12 : List O := [
  ⟨(some 34), none, .mv (.t 7)⟩,
  ⟨(some 35), none, .bin .add (.t 34) (.k (.int .i64 1))⟩,
  ⟨(some 7), none, .mv (.t 35)⟩]
def lMakeGraphX1 : C := (.seq (.seq (.reg rMakeGraphX6 false [] [0, 4, 5, 6, 7, 33]) (.cond (.t 33) .skip (.exit 0))) (.seq (.blk 1 (.seq (.reg rMakeGraphX7 false [] [0, 4, 5, 6, 7, 8]) (.blk 2 (.loop lMakeGraphX0)))) (.reg rMakeGraphX12 false [] [0, 4, 5, 6, 7])))
def rMakeGraphX13 : List O := [
  ⟨(some 57), none, .ld (some 2) (.t 5)⟩,
  ⟨none, none, .st 2 (.t 4) (.t 57)⟩]
def cMakeGraph : C := (.seq (.reg rMakeGraphX0 false [] [0, 1, 4]) (.seq (.reg rMakeGraphX1 false [] [0, 1, 4, 5]) (.seq (.seq (.reg rMakeGraphX2 false [] [0, 1, 4, 5, 16]) (.cond (.t 16) (.reg rMakeGraphX3 true [(8, 8), (9, 9), (10, 10), (0, 2), (2, 3), (2, 4), (2, 5), (0, 6), (1, 6), (2, 6)] [0, 4, 5]) .skip)) (.seq (.reg rMakeGraphX4 false [] [0, 4, 5, 6]) (.seq (.seq (.reg rMakeGraphX5 false [] [0, 4, 5, 6, 7]) (.blk 0 (.loop lMakeGraphX1))) (.seq (.reg rMakeGraphX13 false [] [4]) .ret))))))
def qMakeGraph : AFn := ⟨58, 2, [.c 4 (some 2)], cMakeGraph⟩
/- cohesion/cohesionmake.New -/
def rMakeNewX0 : List O := [
  ⟨(some 2), none, .mv (.k .nilp)⟩]
def rMakeNewX1 : List O := [
  ⟨(some 3), none, .mv (.t 0)⟩,
  ⟨(some 4), none, .build [(.own 1 []), (.int .i64 0)] [(0, 1, (.t 3))]⟩,
  ⟨(some 5), none, .box (.t 4)⟩,
  ⟨(some 2), none, .mv (.t 5)⟩]
def cMakeNew : C := (.seq (.reg rMakeNewX0 false [] [0]) (.seq (.reg rMakeNewX1 false [] [2]) .ret))
def qMakeNew : AFn := ⟨6, 1, [.t 2], cMakeNew⟩
/- cohesion/sample.ByColours -/
def rSampleByColoursX0 : List O := [
  ⟨(some 3), none, .box (.t 0)⟩,
  ⟨(some 6), none, .mv (.k (.int .i64 0))⟩,
  ⟨(some 7), none, .mv (.k (.int .i64 0))⟩]
def rSampleByColoursX1 : List O := [
  ⟨(some 12), none, .ld (some 2) (.t 3)⟩,
  ⟨(some 13), none, .mv (.t 1)⟩,
  ⟨(some 14), none, .mv (.t 2)⟩,
  ⟨(some 15), none, .call nSampleMono [(.t 12), (.t 13), (.t 14)]⟩,
  ⟨(some 11), none, .mv (.t 15)⟩,
  ⟨(some 16), none, .ext 0 (.t 11)⟩,
  ⟨(some 17), none, .ext 1 (.t 11)⟩,
  ⟨(some 8), none, .new [(.int .i64 0), (.own 2 [])]⟩,
  ⟨none, none, .st 2 (.t 8) (.t 16)⟩,
  ⟨(some 9), none, .mv (.t 17)⟩]
def rSampleByColoursX2 : List O := [
  ⟨(some 18), none, .mv (.t 9)⟩,
  ⟨(some 19), none, .bin .neq (.t 18) (.k (.int .i64 0))⟩]
def rSampleByColoursX3 : List O := [
  ⟨(some 20), none, .mv (.t 9)⟩,
  ⟨(some 6), none, .mv (.k (.int .i64 0))⟩,
  ⟨(some 7), none, .mv (.t 20)⟩]
def rSampleByColoursX4 : List O := [
  ⟨(some 22), none, .ld (some 2) (.t 8)⟩,
  ⟨(some 23), none, .call nTrianglesCount [(.t 22)]⟩,
  ⟨(some 21), none, .mv (.t 23)⟩,
  ⟨(some 24), none, .ext 0 (.t 21)⟩,
  ⟨(some 25), none, .ext 1 (.t 21)⟩,
  ⟨(some 10), none, .mv (.t 24)⟩,
  ⟨(some 9), none, .mv (.t 25)⟩]
def rSampleByColoursX5 : List O := [
  ⟨(some 26), none, .mv (.t 2)⟩,
  ⟨(some 27), none, .mv (.t 2)⟩,
  ⟨(some 28), none, .bin .mul (.t 26) (.t 27)⟩,
  ⟨(some 29), none, .mv (.t 10)⟩,
  ⟨(some 30), none, .bin .mul (.t 28) (.t 29)⟩,
  ⟨(some 31), none, .mv (.t 9)⟩,
  ⟨(some 6), none, .mv (.t 30)⟩,
  ⟨(some 7), none, .mv (.t 31)⟩]
def cSampleByColours : C := (.seq (.reg rSampleByColoursX0 false [] [1, 2, 3]) (.seq (.reg rSampleByColoursX1 false [] [2, 8, 9]) (.seq (.seq (.reg rSampleByColoursX2 false [] [2, 8, 9, 19]) (.cond (.t 19) (.seq (.reg rSampleByColoursX3 false [] [6, 7]) .ret) .skip)) (.seq (.reg rSampleByColoursX4 false [] [2, 9, 10]) (.seq (.reg rSampleByColoursX5 false [] [6, 7]) .ret)))))
def qSampleByColours : AFn := ⟨32, 3, [.t 6, .t 7], cSampleByColours⟩
/- cohesion/cohesionref29.Count -/
def rRef29CountX0 : List O := [
  ⟨(some 1), none, .box (.t 0)⟩,
  ⟨(some 2), none, .mv (.k (.int .i64 0))⟩,
  ⟨(some 3), none, .mv (.k (.int .i64 0))⟩]
def rRef29CountX1 : List O := [
  ⟨(some 9), none, .ld (some 2) (.t 1)⟩,
  ⟨(some 10), none, .call nRef29Nodes [(.t 9)]⟩,
  ⟨(some 8), none, .mv (.t 10)⟩,
  ⟨(some 11), none, .ext 0 (.t 8)⟩,
  ⟨(some 12), none, .ext 1 (.t 8)⟩,
  ⟨(some 4), none, .mv (.t 11)⟩,
  ⟨(some 5), none, .mv (.t 12)⟩]
def rRef29CountX2 : List O := [
  ⟨(some 6), none, .mv (.k (.int .i64 0))⟩]
def rRef29CountX3 : List O := [
  ⟨(some 7), none, .mv (.k (.int .i64 0))⟩]
def rRef29CountX4 : List O := [
  ⟨(some 13), none, .mv (.t 7)⟩,
  ⟨(some 14), none, .mv (.t 4)⟩,
  ⟨(some 15), none, .len (.t 14)⟩,
  ⟨(some 16), none, .bin .lss (.t 13) (.t 15)⟩]
def rRef29CountX5 : List O := [
  ⟨(some 19), none, .mv (.t 6)⟩,
  ⟨(some 20), none, .mv (.t 4)⟩,
  ⟨(some 21), none, .mv (.t 7)⟩,
  ⟨(some 22), none, .ixa 1 (.t 20) (.t 21)⟩,
  ⟨(some 23), none, .ld none (.t 22)⟩,
  ⟨(some 24), none, .bin .add (.t 19) (.t 23)⟩,
  ⟨(some 6), none, .mv (.t 24)⟩]
def rRef29CountX6 : List O := [
  ⟨(some 17), none, .mv (.t 7)⟩,
  ⟨(some 18), none, .bin .add (.t 17) (.k (.int .i64 1))⟩,
  ⟨(some 7), none, .mv (.t 18)⟩]
def lRef29CountX0 : C := (.seq (.seq (.reg rRef29CountX4 false [] [4, 5, 6, 7, 16]) (.cond (.t 16) .skip (.exit 0))) (.seq (.blk 1 (.reg rRef29CountX5 false [] [4, 5, 6, 7])) (.reg rRef29CountX6 false [] [4, 5, 6, 7])))
def rRef29CountX7 : List O := [
  ⟨(some 25), none, .mv (.t 6)⟩,
  ⟨(some 26), none, .bin .quo (.t 25) (.k (.int .i64 3))⟩,
  ⟨(some 27), none, .mv (.t 5)⟩,
  ⟨(some 2), none, .mv (.t 26)⟩,
  ⟨(some 3), none, .mv (.t 27)⟩]
def cRef29Count : C := (.seq (.reg rRef29CountX0 false [] [1]) (.seq (.reg rRef29CountX1 false [] [4, 5]) (.seq (.reg rRef29CountX2 false [] [4, 5, 6]) (.seq (.seq (.reg rRef29CountX3 false [] [4, 5, 6, 7]) (.blk 0 (.loop lRef29CountX0))) (.seq (.reg rRef29CountX7 false [] [2, 3]) .ret)))))
def qRef29Count : AFn := ⟨28, 1, [.t 2, .t 3], cRef29Count⟩
/- cohesion/sample.Reservoir -/
def rSampleReservoirX0 : List O := [
  ⟨(some 6), none, .mv (.k (.own 1 []))⟩,
  ⟨(some 7), none, .mv (.k (.int .i64 0))⟩]
def rSampleReservoirX1 : List O := [
  ⟨(some 11), none, .mv (.t 0)⟩,
  ⟨(some 12), none, .bin .lss (.t 11) (.k (.int .i64 0))⟩,
  ⟨(some 13), none, .mv (.t 12)⟩,
  ⟨(some 14), (some (13, false)), .mv (.t 0)⟩,
  ⟨(some 15), (some (13, false)), .bin .gtr (.t 14) (.k (.int .i64 4096))⟩,
  ⟨(some 16), none, .pick (.t 13) (.k (.bool true)) (.t 15)⟩,
  ⟨(some 17), none, .mv (.t 16)⟩,
  ⟨(some 18), (some (17, false)), .mv (.t 1)⟩,
  ⟨(some 19), (some (17, false)), .bin .lss (.t 18) (.k (.int .i64 1))⟩,
  ⟨(some 20), none, .pick (.t 17) (.k (.bool true)) (.t 19)⟩,
  ⟨(some 21), none, .mv (.t 20)⟩,
  ⟨(some 22), (some (21, false)), .mv (.t 1)⟩,
  ⟨(some 23), (some (21, false)), .bin .gtr (.t 22) (.k (.int .i64 4096))⟩,
  ⟨(some 24), none, .pick (.t 21) (.k (.bool true)) (.t 23)⟩]
def rSampleReservoirX2 : List O := [
  ⟨(some 6), none, .mv (.k (.own 1 []))⟩,
  ⟨(some 7), none, .mv (.k (.int .i64 1))⟩]
def rSampleReservoirX3 : List O := [
  ⟨(some 25), none, .mv (.t 2)⟩,
  ⟨(some 26), none, .len (.t 25)⟩,
  ⟨(some 27), none, .mv (.t 0)⟩,
  ⟨(some 28), none, .mv (.t 1)⟩,
  ⟨(some 29), none, .bin .sub (.t 27) (.t 28)⟩,
  ⟨(some 30), none, .max [(.t 29), (.k (.int .i64 0))]⟩,
  ⟨(some 31), none, .bin .neq (.t 26) (.t 30)⟩]
def rSampleReservoirX4 : List O := [
  ⟨(some 6), none, .mv (.k (.own 1 []))⟩,
  ⟨(some 7), none, .mv (.k (.int .i64 4))⟩]
def rSampleReservoirX5 : List O := [
  ⟨(some 8), none, .mv (.k (.own 1 []))⟩]
def rSampleReservoirX6 : List O := [
  ⟨(some 32), none, .mv (.t 0)⟩,
  ⟨(some 33), none, .mv (.k (.int .i64 0))⟩]
def rSampleReservoirX7 : List O := [
  ⟨(some 34), none, .bin .lss (.t 33) (.t 32)⟩]
def rSampleReservoirX8 : List O := [
  ⟨(some 35), none, .mv (.t 33)⟩,
  ⟨(some 9), none, .mv (.t 35)⟩]
def rSampleReservoirX9 : List O := [
  ⟨(some 36), none, .mv (.t 9)⟩,
  ⟨(some 37), none, .mv (.t 1)⟩,
  ⟨(some 38), none, .bin .lss (.t 36) (.t 37)⟩]
def rSampleReservoirX10 : List O := [
  ⟨(some 39), none, .mv (.t 8)⟩,
  ⟨(some 40), none, .mv (.t 9)⟩,
  ⟨(some 41), none, .bslice 1 1 [(.int .i64 0)] [(0, 1, (.t 40))]⟩,
  ⟨(some 42), none, .app 1 (.t 39) (.t 41)⟩,
  ⟨(some 8), none, .mv (.t 42)⟩]
def rSampleReservoirX11 : List O := [
  ⟨(some 43), none, .mv (.t 2)⟩,
  ⟨(some 44), none, .mv (.t 9)⟩,
  ⟨(some 45), none, .mv (.t 1)⟩,
  ⟨(some 46), none, .bin .sub (.t 44) (.t 45)⟩,
  ⟨(some 47), none, .ixa 1 (.t 43) (.t 46)⟩,
  ⟨(some 48), none, .ld none (.t 47)⟩,
  ⟨(some 10), none, .mv (.t 48)⟩]
def rSampleReservoirX12 : List O := [
  ⟨(some 49), none, .mv (.t 10)⟩,
  ⟨(some 50), none, .bin .lss (.t 49) (.k (.int .i64 0))⟩,
  ⟨(some 51), none, .mv (.t 50)⟩,
  ⟨(some 52), (some (51, false)), .mv (.t 10)⟩,
  ⟨(some 53), (some (51, false)), .mv (.t 9)⟩,
  ⟨(some 54), (some (51, false)), .bin .gtr (.t 52) (.t 53)⟩,
  ⟨(some 55), none, .pick (.t 51) (.k (.bool true)) (.t 54)⟩]
def rSampleReservoirX13 : List O := [
  ⟨(some 6), none, .mv (.k (.own 1 []))⟩,
  ⟨(some 7), none, .mv (.k (.int .i64 1))⟩]
def rSampleReservoirX14 : List O := [
  ⟨(some 56), none, .mv (.t 10)⟩,
  ⟨(some 57), none, .mv (.t 1)⟩,
  ⟨(some 58), none, .bin .lss (.t 56) (.t 57)⟩]
def rSampleReservoirX15 : List O := [
  ⟨(some 59), none, .mv (.t 8)⟩,
  ⟨(some 60), none, .mv (.t 10)⟩,
  ⟨(some 61), none, .mv (.t 9)⟩,
  ⟨(some 62), none, .ixa 1 (.t 59) (.t 60)⟩,
  ⟨none, none, .st 1 (.t 62) (.t 61)⟩]
def rSampleReservoirX16 : List O := [
  ⟨(some 63), none, .bin .add (.t 33) (.k (.int .i64 1))⟩,
  ⟨(some 33), none, .mv (.t 63)⟩]
def lSampleReservoirX0 : C := (.seq (.reg rSampleReservoirX7 false [] [1, 2, 8, 32, 33, 34]) (.seq (.cond (.t 34) .skip (.exit 0)) (.seq (.blk 1 (.seq (.reg rSampleReservoirX8 false [] [1, 2, 8, 9, 32, 33]) (.seq (.seq (.reg rSampleReservoirX9 false [] [1, 2, 8, 9, 32, 33, 38]) (.cond (.t 38) (.seq (.reg rSampleReservoirX10 false [] [1, 2, 8, 32, 33]) (.exit 1)) .skip)) (.seq (.reg rSampleReservoirX11 false [] [1, 2, 8, 9, 10, 32, 33]) (.seq (.seq (.reg rSampleReservoirX12 false [] [1, 2, 8, 9, 10, 32, 33, 55]) (.cond (.t 55) (.seq (.reg rSampleReservoirX13 false [] [6, 7]) .ret) .skip)) (.seq (.reg rSampleReservoirX14 false [] [1, 2, 8, 9, 10, 32, 33, 58]) (.cond (.t 58) (.reg rSampleReservoirX15 false [] [1, 2, 8, 32, 33]) .skip))))))) (.reg rSampleReservoirX16 false [] [1, 2, 8, 32, 33]))))
def rSampleReservoirX17 : List O := [
  ⟨(some 64), none, .mv (.t 8)⟩,
  ⟨(some 65), none, .call nSlicesSortIntInt [(.t 64)]⟩]
def rSampleReservoirX18 : List O := [
  ⟨(some 66), none, .mv (.t 8)⟩,
  ⟨(some 6), none, .mv (.t 66)⟩,
  ⟨(some 7), none, .mv (.k (.int .i64 0))⟩]
def cSampleReservoir : C := (.seq (.reg rSampleReservoirX0 false [] [0, 1, 2]) (.seq (.seq (.reg rSampleReservoirX1 false [] [0, 1, 2, 24]) (.cond (.t 24) (.seq (.reg rSampleReservoirX2 false [] [6, 7]) .ret) .skip)) (.seq (.seq (.reg rSampleReservoirX3 false [] [0, 1, 2, 31]) (.cond (.t 31) (.seq (.reg rSampleReservoirX4 false [] [6, 7]) .ret) .skip)) (.seq (.reg rSampleReservoirX5 false [] [0, 1, 2, 8]) (.seq (.seq (.reg rSampleReservoirX6 false [] [1, 2, 8, 32, 33]) (.blk 0 (.loop lSampleReservoirX0))) (.seq (.reg rSampleReservoirX17 false [] [8]) (.seq (.reg rSampleReservoirX18 false [] [6, 7]) .ret)))))))
def qSampleReservoir : AFn := ⟨67, 3, [.t 6, .t 7], cSampleReservoir⟩
/- cohesion/sample.ByEdges -/
def rSampleByEdgesX0 : List O := [
  ⟨(some 2), none, .box (.t 0)⟩,
  ⟨(some 4), none, .mv (.k (.int .i64 0))⟩,
  ⟨(some 5), none, .mv (.k (.int .i64 0))⟩]
def rSampleByEdgesX1 : List O := [
  ⟨(some 10), none, .ld (some 2) (.t 2)⟩,
  ⟨(some 11), none, .mv (.t 1)⟩,
  ⟨(some 12), none, .call nSampleKeep [(.t 10), (.t 11)]⟩,
  ⟨(some 9), none, .mv (.t 12)⟩,
  ⟨(some 13), none, .ext 0 (.t 9)⟩,
  ⟨(some 14), none, .ext 1 (.t 9)⟩,
  ⟨(some 6), none, .new [(.int .i64 0), (.own 2 [])]⟩,
  ⟨none, none, .st 2 (.t 6) (.t 13)⟩,
  ⟨(some 7), none, .mv (.t 14)⟩]
def rSampleByEdgesX2 : List O := [
  ⟨(some 15), none, .mv (.t 7)⟩,
  ⟨(some 16), none, .bin .neq (.t 15) (.k (.int .i64 0))⟩]
def rSampleByEdgesX3 : List O := [
  ⟨(some 17), none, .mv (.t 7)⟩,
  ⟨(some 4), none, .mv (.k (.int .i64 0))⟩,
  ⟨(some 5), none, .mv (.t 17)⟩]
def rSampleByEdgesX4 : List O := [
  ⟨(some 19), none, .ld (some 2) (.t 6)⟩,
  ⟨(some 20), none, .call nTrianglesCount [(.t 19)]⟩,
  ⟨(some 18), none, .mv (.t 20)⟩,
  ⟨(some 21), none, .ext 0 (.t 18)⟩,
  ⟨(some 22), none, .ext 1 (.t 18)⟩,
  ⟨(some 8), none, .mv (.t 21)⟩,
  ⟨(some 7), none, .mv (.t 22)⟩]
def rSampleByEdgesX5 : List O := [
  ⟨(some 23), none, .mv (.t 8)⟩,
  ⟨(some 24), none, .bin .mul (.k (.int .i64 8)) (.t 23)⟩,
  ⟨(some 25), none, .mv (.t 7)⟩,
  ⟨(some 4), none, .mv (.t 24)⟩,
  ⟨(some 5), none, .mv (.t 25)⟩]
def cSampleByEdges : C := (.seq (.reg rSampleByEdgesX0 false [] [1, 2]) (.seq (.reg rSampleByEdgesX1 false [] [6, 7]) (.seq (.seq (.reg rSampleByEdgesX2 false [] [6, 7, 16]) (.cond (.t 16) (.seq (.reg rSampleByEdgesX3 false [] [4, 5]) .ret) .skip)) (.seq (.reg rSampleByEdgesX4 false [] [7, 8]) (.seq (.reg rSampleByEdgesX5 false [] [4, 5]) .ret)))))
def qSampleByEdges : AFn := ⟨26, 2, [.t 4, .t 5], cSampleByEdges⟩
/- cohesion/cohesionfield.Numbers -/
def rFieldNumbersX0 : List O := [
  ⟨(some 6), none, .mv (.k (.own 1 []))⟩]
def rFieldNumbersX1 : List O := [
  ⟨(some 7), none, .mv (.k (.own 1 []))⟩]
def rFieldNumbersX2 : List O := [
  ⟨(some 8), none, .mv (.k (.int .i64 0))⟩]
def rFieldNumbersX3 : List O := [
  ⟨(some 9), none, .mv (.t 8)⟩,
  ⟨(some 10), none, .mv (.t 1)⟩,
  ⟨(some 11), none, .bin .lss (.t 9) (.t 10)⟩]
def rFieldNumbersX4 : List O := [
  ⟨(some 14), none, .mv (.t 7)⟩,
  ⟨(some 15), none, .mv (.t 0)⟩,
  ⟨(some 16), none, .mv (.t 2)⟩,
  ⟨(some 17), none, .call nMakeDeckNext [(.t 15), (.t 16)]⟩,
  ⟨(some 18), none, .bslice 1 1 [(.int .i64 0)] [(0, 1, (.t 17))]⟩,
  ⟨(some 19), none, .app 1 (.t 14) (.t 18)⟩,
  ⟨(some 7), none, .mv (.t 19)⟩]
def rFieldNumbersX5 : List O := [
  ⟨(some 12), none, .mv (.t 8)⟩,
  ⟨(some 13), none, .bin .add (.t 12) (.k (.int .i64 1))⟩,
  ⟨(some 8), none, .mv (.t 13)⟩]
def lFieldNumbersX0 : C := (.seq (.seq (.reg rFieldNumbersX3 false [] [0, 1, 2, 7, 8, 11]) (.cond (.t 11) .skip (.exit 0))) (.seq (.blk 1 (.reg rFieldNumbersX4 false [] [0, 1, 2, 7, 8])) (.reg rFieldNumbersX5 false [] [0, 1, 2, 7, 8])))
def rFieldNumbersX6 : List O := [
  ⟨(some 20), none, .mv (.t 7)⟩,
  ⟨(some 6), none, .mv (.t 20)⟩]
def cFieldNumbers : C := (.seq (.reg rFieldNumbersX0 false [] [0, 1, 2]) (.seq (.reg rFieldNumbersX1 false [] [0, 1, 2, 7]) (.seq (.seq (.reg rFieldNumbersX2 false [] [0, 1, 2, 7, 8]) (.blk 0 (.loop lFieldNumbersX0))) (.seq (.reg rFieldNumbersX6 false [] [6]) .ret))))
def qFieldNumbers : AFn := ⟨21, 3, [.t 6], cFieldNumbers⟩
/- cohesion/sample.Mono -/
def rSampleMonoX0 : List O := [
  ⟨(some 3), none, .box (.t 0)⟩,
  ⟨(some 4), none, .box (.t 1)⟩,
  ⟨(some 5), none, .box (.t 2)⟩,
  ⟨(some 6), none, .new [(.int .i64 0), (.own 2 [])]⟩,
  ⟨(some 7), none, .mv (.k (.int .i64 0))⟩]
def rSampleMonoX1 : List O := [
  ⟨(some 9), none, .ld (some 2) (.t 3)⟩,
  ⟨(some 10), none, .call nGraphCheck [(.t 9)]⟩,
  ⟨(some 8), none, .mv (.t 10)⟩]
def rSampleMonoX2 : List O := [
  ⟨(some 11), none, .mv (.t 8)⟩,
  ⟨(some 12), none, .bin .neq (.t 11) (.k (.int .i64 0))⟩]
def rSampleMonoX3 : List O := [
  ⟨(some 13), none, .build [(.int .i64 0), (.own 2 [])] []⟩,
  ⟨(some 14), none, .mv (.t 8)⟩,
  ⟨none, none, .st 2 (.t 6) (.t 13)⟩,
  ⟨(some 7), none, .mv (.t 14)⟩]
def rSampleMonoX4 : List O := [
  ⟨(some 15), none, .ld none (.t 4)⟩,
  ⟨(some 16), none, .len (.t 15)⟩,
  ⟨(some 17), none, .fad 0 (.t 3)⟩,
  ⟨(some 18), none, .ld none (.t 17)⟩,
  ⟨(some 19), none, .bin .neq (.t 16) (.t 18)⟩]
def rSampleMonoX5 : List O := [
  ⟨(some 20), none, .build [(.int .i64 0), (.own 2 [])] []⟩,
  ⟨none, none, .st 2 (.t 6) (.t 20)⟩,
  ⟨(some 7), none, .mv (.k (.int .i64 4))⟩]
def rSampleMonoX6 : List O := [
  ⟨(some 21), none, .ld none (.t 5)⟩,
  ⟨(some 22), none, .bin .lss (.t 21) (.k (.int .i64 1))⟩,
  ⟨(some 23), none, .mv (.t 22)⟩,
  ⟨(some 24), (some (23, false)), .ld none (.t 5)⟩,
  ⟨(some 25), (some (23, false)), .bin .gtr (.t 24) (.k (.int .i64 64))⟩,
  ⟨(some 26), none, .pick (.t 23) (.k (.bool true)) (.t 25)⟩,
  ⟨(some 27), none, .mv (.t 26)⟩,
  ⟨(some 28), (some (27, false)), .ld none (.t 4)⟩,
  ⟨(some 29), (some (27, false)), .mkf (.func nSampleMono1) [] [(.t 5)]⟩,
  ⟨(some 30), (some (27, false)), .call nSlicesContainsFuncIntInt [(.t 28), (.t 29)]⟩,
  ⟨(some 31), none, .pick (.t 27) (.k (.bool true)) (.t 30)⟩]
def rSampleMonoX7 : List O := [
  ⟨(some 32), none, .build [(.int .i64 0), (.own 2 [])] []⟩,
  ⟨none, none, .st 2 (.t 6) (.t 32)⟩,
  ⟨(some 7), none, .mv (.k (.int .i64 1))⟩]
def rSampleMonoX8 : List O := [
  ⟨(some 33), none, .ld (some 2) (.t 3)⟩,
  ⟨(some 34), none, .mkf (.func nSampleMono2) [] [(.t 4)]⟩,
  ⟨(some 35), none, .call nSampleSome [(.t 33), (.t 34)]⟩,
  ⟨none, none, .st 2 (.t 6) (.t 35)⟩,
  ⟨(some 7), none, .mv (.k (.int .i64 0))⟩]
def cSampleMono : C := (.seq (.reg rSampleMonoX0 false [] [3, 4, 5, 6]) (.seq (.seq (.reg rSampleMonoX1 false [] [3, 4, 5, 6, 8]) (.seq (.reg rSampleMonoX2 false [] [3, 4, 5, 6, 8, 12]) (.cond (.t 12) (.seq (.reg rSampleMonoX3 false [] [6, 7]) .ret) .skip))) (.seq (.seq (.reg rSampleMonoX4 false [] [3, 4, 5, 6, 19]) (.cond (.t 19) (.seq (.reg rSampleMonoX5 false [] [6, 7]) .ret) .skip)) (.seq (.seq (.reg rSampleMonoX6 false [] [3, 4, 6, 31]) (.cond (.t 31) (.seq (.reg rSampleMonoX7 false [] [6, 7]) .ret) .skip)) (.seq (.reg rSampleMonoX8 false [] [6, 7]) .ret)))))
def qSampleMono : AFn := ⟨36, 3, [.c 6 (some 2), .t 7], cSampleMono⟩
/- cohesion/cohesionref03.Find -/
def rRef03FindX0 : List O := [
  ⟨(some 3), none, .box (.t 0)⟩,
  ⟨(some 6), none, .mv (.k (.int .i64 0))⟩]
def rRef03FindX1 : List O := [
  ⟨(some 9), none, .ld (some 2) (.t 3)⟩,
  ⟨(some 10), none, .call nRef03Check [(.t 9)]⟩,
  ⟨(some 11), none, .bin .neq (.t 10) (.k (.int .i64 0))⟩]
def rRef03FindX2 : List O := [
  ⟨(some 6), none, .mv (.k (.int .i64 (-1)))⟩]
def rRef03FindX3 : List O := [
  ⟨(some 12), none, .fad 1 (.t 3)⟩,
  ⟨(some 13), none, .ld none (.t 12)⟩,
  ⟨(some 14), none, .len (.t 13)⟩,
  ⟨(some 15), none, .mv (.k (.int .i64 0))⟩]
def rRef03FindX4 : List O := [
  ⟨(some 16), none, .bin .lss (.t 15) (.t 14)⟩]
def rRef03FindX5 : List O := [
  ⟨(some 17), none, .mv (.t 15)⟩,
  ⟨(some 18), none, .ixa 2 (.t 13) (.t 15)⟩,
  ⟨(some 19), none, .ld (some 2) (.t 18)⟩,
  ⟨(some 8), none, .new [(.int .i64 0), (.int .i64 0)]⟩,
  ⟨(some 7), none, .mv (.t 17)⟩,
  ⟨none, none, .st 2 (.t 8) (.t 19)⟩]
def rRef03FindX6 : List O := [
  ⟨(some 20), none, .ld (some 2) (.t 8)⟩,
  ⟨(some 21), none, .mv (.t 1)⟩,
  ⟨(some 22), none, .mv (.t 2)⟩,
  ⟨(some 23), none, .call nRef03Edge [(.t 21), (.t 22)]⟩,
  ⟨(some 24), none, .eq false (.str [true, true]) (.t 20) (.t 23)⟩]
def rRef03FindX7 : List O := [
  ⟨(some 25), none, .mv (.t 7)⟩,
  ⟨(some 6), none, .mv (.t 25)⟩]
def rRef03FindX8 : List O := [
  ⟨(some 26), none, .bin .add (.t 15) (.k (.int .i64 1))⟩,
  ⟨(some 15), none, .mv (.t 26)⟩]
def lRef03FindX0 : C := (.seq (.reg rRef03FindX4 false [] [1, 2, 13, 14, 15, 16]) (.seq (.cond (.t 16) .skip (.exit 0)) (.seq (.blk 1 (.seq (.reg rRef03FindX5 false [] [1, 2, 7, 8, 13, 14, 15]) (.seq (.reg rRef03FindX6 true [(4, 4), (0, 1), (0, 2), (0, 3)] [1, 2, 7, 13, 14, 15, 24]) (.cond (.t 24) (.seq (.reg rRef03FindX7 false [] [6]) .ret) .skip)))) (.reg rRef03FindX8 false [] [1, 2, 13, 14, 15]))))
def rRef03FindX9 : List O := [
  ⟨(some 6), none, .mv (.k (.int .i64 (-1)))⟩]
def cRef03Find : C := (.seq (.reg rRef03FindX0 false [] [1, 2, 3]) (.seq (.seq (.reg rRef03FindX1 false [] [1, 2, 3, 11]) (.cond (.t 11) (.seq (.reg rRef03FindX2 false [] [6]) .ret) .skip)) (.seq (.seq (.reg rRef03FindX3 false [] [1, 2, 13, 14, 15]) (.blk 0 (.loop lRef03FindX0))) (.seq (.reg rRef03FindX9 false [] [6]) .ret))))
def qRef03Find : AFn := ⟨27, 3, [.t 6], cRef03Find⟩
/- cohesion/cohesionref02.Cmp -/
def rRef02CmpX0 : List O := [
  ⟨(some 4), none, .mv (.k (.int .i64 0))⟩]
def rRef02CmpX1 : List O := [
  ⟨(some 6), none, .mv (.t 0)⟩,
  ⟨(some 7), none, .len (.t 6)⟩,
  ⟨(some 8), none, .mv (.k (.int .i64 0))⟩]
def rRef02CmpX2 : List O := [
  ⟨(some 9), none, .bin .lss (.t 8) (.t 7)⟩]
def rRef02CmpX3 : List O := [
  ⟨(some 10), none, .mv (.t 8)⟩,
  ⟨(some 5), none, .mv (.t 10)⟩]
def rRef02CmpX4 : List O := [
  ⟨(some 12), none, .mv (.t 5)⟩,
  ⟨(some 13), none, .mv (.t 1)⟩,
  ⟨(some 14), none, .len (.t 13)⟩,
  ⟨(some 15), none, .bin .geq (.t 12) (.t 14)⟩,
  ⟨(some 16), none, .mv (.t 15)⟩,
  ⟨(some 17), (some (16, false)), .mv (.t 0)⟩,
  ⟨(some 18), (some (16, false)), .mv (.t 5)⟩,
  ⟨(some 19), (some (16, false)), .ixa 1 (.t 17) (.t 18)⟩,
  ⟨(some 20), (some (16, false)), .ld none (.t 19)⟩,
  ⟨(some 21), (some (16, false)), .mv (.t 1)⟩,
  ⟨(some 22), (some (16, false)), .mv (.t 5)⟩,
  ⟨(some 23), (some (16, false)), .ixa 1 (.t 21) (.t 22)⟩,
  ⟨(some 24), (some (16, false)), .ld none (.t 23)⟩,
  ⟨(some 25), (some (16, false)), .bin .gtr (.t 20) (.t 24)⟩,
  ⟨(some 26), none, .pick (.t 16) (.k (.bool true)) (.t 25)⟩,
  ⟨(some 11), none, .mv (.t 26)⟩]
def rRef02CmpX5 : List O := [
  ⟨(some 4), none, .mv (.k (.int .i64 1))⟩]
def rRef02CmpX6 : List O := [
  ⟨(some 28), none, .mv (.t 0)⟩,
  ⟨(some 29), none, .mv (.t 5)⟩,
  ⟨(some 30), none, .ixa 1 (.t 28) (.t 29)⟩,
  ⟨(some 31), none, .ld none (.t 30)⟩,
  ⟨(some 32), none, .mv (.t 1)⟩,
  ⟨(some 33), none, .mv (.t 5)⟩,
  ⟨(some 34), none, .ixa 1 (.t 32) (.t 33)⟩,
  ⟨(some 35), none, .ld none (.t 34)⟩,
  ⟨(some 36), none, .bin .lss (.t 31) (.t 35)⟩,
  ⟨(some 27), none, .mv (.t 36)⟩]
def rRef02CmpX7 : List O := [
  ⟨(some 4), none, .mv (.k (.int .i64 (-1)))⟩]
def rRef02CmpX8 : List O := [
  ⟨(some 37), none, .bin .add (.t 8) (.k (.int .i64 1))⟩,
  ⟨(some 8), none, .mv (.t 37)⟩]
def lRef02CmpX0 : C := (.seq (.reg rRef02CmpX2 false [] [0, 1, 7, 8, 9]) (.seq (.cond (.t 9) .skip (.exit 0)) (.seq (.blk 1 (.seq (.reg rRef02CmpX3 false [] [0, 1, 5, 7, 8]) (.blk 2 (.seq (.reg rRef02CmpX4 true [(3, 3), (4, 4), (13, 13), (14, 14), (15, 15), (8, 9), (8, 10), (8, 11), (5, 12), (6, 12), (7, 12), (8, 12)] [0, 1, 5, 7, 8, 11]) (.cond (.t 11) (.seq (.reg rRef02CmpX5 false [] [4]) .ret) (.seq (.reg rRef02CmpX6 true [(8, 8), (9, 9), (3, 4), (3, 5), (3, 6), (0, 7), (1, 7), (2, 7), (3, 7)] [0, 1, 7, 8, 27]) (.cond (.t 27) (.seq (.reg rRef02CmpX7 false [] [4]) .ret) .skip))))))) (.reg rRef02CmpX8 false [] [0, 1, 7, 8]))))
def rRef02CmpX9 : List O := [
  ⟨(some 38), none, .mv (.t 0)⟩,
  ⟨(some 39), none, .len (.t 38)⟩,
  ⟨(some 40), none, .mv (.t 1)⟩,
  ⟨(some 41), none, .len (.t 40)⟩,
  ⟨(some 42), none, .bin .lss (.t 39) (.t 41)⟩]
def rRef02CmpX10 : List O := [
  ⟨(some 4), none, .mv (.k (.int .i64 (-1)))⟩]
def rRef02CmpX11 : List O := [
  ⟨(some 4), none, .mv (.k (.int .i64 0))⟩]
def cRef02Cmp : C := (.seq (.reg rRef02CmpX0 false [] [0, 1]) (.seq (.seq (.reg rRef02CmpX1 false [] [0, 1, 7, 8]) (.blk 0 (.loop lRef02CmpX0))) (.seq (.seq (.reg rRef02CmpX9 false [] [42]) (.cond (.t 42) (.seq (.reg rRef02CmpX10 false [] [4]) .ret) .skip)) (.seq (.reg rRef02CmpX11 false [] [4]) .ret))))
def qRef02Cmp : AFn := ⟨43, 2, [.t 4], cRef02Cmp⟩
/- (*cohesion/cohesionmake.Deck).Next -/
def rMakeDeckNextX0 : List O := [
  ⟨(some 4), none, .mv (.k (.int .i64 0))⟩]
def rMakeDeckNextX1 : List O := [
  ⟨(some 6), none, .mv (.t 1)⟩,
  ⟨(some 7), none, .bin .lss (.t 6) (.k (.int .i64 1))⟩,
  ⟨(some 8), none, .mv (.t 7)⟩,
  ⟨(some 9), (some (8, false)), .mv (.t 0)⟩,
  ⟨(some 10), (some (8, false)), .nilck (.t 9)⟩,
  ⟨(some 11), (some (8, false)), .fad 1 (.t 10)⟩,
  ⟨(some 12), (some (8, false)), .ld none (.t 11)⟩,
  ⟨(some 13), (some (8, false)), .mv (.t 0)⟩,
  ⟨(some 14), (some (8, false)), .nilck (.t 13)⟩,
  ⟨(some 15), (some (8, false)), .fad 0 (.t 14)⟩,
  ⟨(some 16), (some (8, false)), .ld none (.t 15)⟩,
  ⟨(some 17), (some (8, false)), .len (.t 16)⟩,
  ⟨(some 18), (some (8, false)), .bin .geq (.t 12) (.t 17)⟩,
  ⟨(some 19), none, .pick (.t 8) (.k (.bool true)) (.t 18)⟩]
def rMakeDeckNextX2 : List O := [
  ⟨(some 4), none, .mv (.k (.int .i64 0))⟩]
def rMakeDeckNextX3 : List O := [
  ⟨(some 20), none, .mv (.t 0)⟩,
  ⟨(some 21), none, .nilck (.t 20)⟩,
  ⟨(some 22), none, .fad 0 (.t 21)⟩,
  ⟨(some 23), none, .ld none (.t 22)⟩,
  ⟨(some 24), none, .mv (.t 0)⟩,
  ⟨(some 25), none, .nilck (.t 24)⟩,
  ⟨(some 26), none, .fad 1 (.t 25)⟩,
  ⟨(some 27), none, .ld none (.t 26)⟩,
  ⟨(some 28), none, .ixa 1 (.t 23) (.t 27)⟩,
  ⟨(some 29), none, .ld none (.t 28)⟩,
  ⟨(some 5), none, .mv (.t 29)⟩]
def rMakeDeckNextX4 : List O := [
  ⟨(some 30), none, .mv (.t 0)⟩,
  ⟨(some 31), none, .nilck (.t 30)⟩,
  ⟨(some 32), none, .fad 1 (.t 31)⟩,
  ⟨(some 33), none, .ld none (.t 32)⟩,
  ⟨(some 34), none, .bin .add (.t 33) (.k (.int .i64 1))⟩,
  ⟨(some 35), none, .nilck (.t 30)⟩,
  ⟨(some 36), none, .fad 1 (.t 35)⟩,
  ⟨none, none, .st 1 (.t 36) (.t 34)⟩]
def rMakeDeckNextX5 : List O := [
  ⟨(some 37), none, .mv (.t 5)⟩,
  ⟨(some 38), none, .mv (.t 1)⟩,
  ⟨(some 39), none, .call nMakeMod [(.t 37), (.t 38)]⟩,
  ⟨(some 4), none, .mv (.t 39)⟩]
def cMakeDeckNext : C := (.seq (.reg rMakeDeckNextX0 false [] [0, 1]) (.seq (.seq (.reg rMakeDeckNextX1 true [(0, 0), (1, 1), (2, 2), (12, 12), (13, 13), (6, 7), (6, 8), (6, 9), (3, 10), (4, 10), (5, 10), (6, 10), (6, 11)] [0, 1, 19]) (.cond (.t 19) (.seq (.reg rMakeDeckNextX2 false [] [4]) .ret) .skip)) (.seq (.reg rMakeDeckNextX3 true [(8, 8), (9, 9), (10, 10), (3, 4), (3, 5), (3, 6), (0, 7), (1, 7), (2, 7), (3, 7)] [0, 1, 5]) (.seq (.reg rMakeDeckNextX4 false [] [1, 5]) (.seq (.reg rMakeDeckNextX5 false [] [4]) .ret)))))
def qMakeDeckNext : AFn := ⟨40, 2, [.t 4], cMakeDeckNext⟩
/- cohesion/triangles.Count -/
def rTrianglesCountX0 : List O := [
  ⟨(some 1), none, .box (.t 0)⟩,
  ⟨(some 2), none, .mv (.k (.int .i64 0))⟩,
  ⟨(some 3), none, .mv (.k (.int .i64 0))⟩]
def rTrianglesCountX1 : List O := [
  ⟨(some 7), none, .ld (some 2) (.t 1)⟩,
  ⟨(some 8), none, .call nGraphCheck [(.t 7)]⟩,
  ⟨(some 4), none, .mv (.t 8)⟩]
def rTrianglesCountX2 : List O := [
  ⟨(some 9), none, .mv (.t 4)⟩,
  ⟨(some 10), none, .bin .neq (.t 9) (.k (.int .i64 0))⟩]
def rTrianglesCountX3 : List O := [
  ⟨(some 11), none, .mv (.t 4)⟩,
  ⟨(some 2), none, .mv (.k (.int .i64 0))⟩,
  ⟨(some 3), none, .mv (.t 11)⟩]
def rTrianglesCountX4 : List O := [
  ⟨(some 13), none, .ld (some 2) (.t 1)⟩,
  ⟨(some 14), none, .call nTrianglesCounts [(.t 13)]⟩,
  ⟨(some 12), none, .mv (.t 14)⟩,
  ⟨(some 15), none, .ext 0 (.t 12)⟩,
  ⟨(some 16), none, .ext 1 (.t 12)⟩,
  ⟨(some 5), none, .mv (.t 15)⟩,
  ⟨(some 6), none, .mv (.t 16)⟩]
def rTrianglesCountX5 : List O := [
  ⟨(some 17), none, .mv (.t 5)⟩,
  ⟨(some 2), none, .mv (.t 17)⟩,
  ⟨(some 3), none, .mv (.k (.int .i64 0))⟩]
def cTrianglesCount : C := (.seq (.reg rTrianglesCountX0 false [] [1]) (.seq (.seq (.reg rTrianglesCountX1 false [] [1, 4]) (.seq (.reg rTrianglesCountX2 false [] [1, 4, 10]) (.cond (.t 10) (.seq (.reg rTrianglesCountX3 false [] [2, 3]) .ret) .skip))) (.seq (.reg rTrianglesCountX4 false [] [5]) (.seq (.reg rTrianglesCountX5 false [] [2, 3]) .ret))))
def qTrianglesCount : AFn := ⟨18, 1, [.t 2, .t 3], cTrianglesCount⟩
/- cohesion/cohesionref29.Nodes -/
def rRef29NodesX0 : List O := [
  ⟨(some 1), none, .box (.t 0)⟩,
  ⟨(some 2), none, .mv (.k (.own 1 []))⟩,
  ⟨(some 3), none, .mv (.k (.int .i64 0))⟩]
def rRef29NodesX1 : List O := [
  ⟨(some 9), none, .ld (some 2) (.t 1)⟩,
  ⟨(some 10), none, .call nRef03Check [(.t 9)]⟩,
  ⟨(some 4), none, .mv (.t 10)⟩]
def rRef29NodesX2 : List O := [
  ⟨(some 11), none, .mv (.t 4)⟩,
  ⟨(some 12), none, .bin .neq (.t 11) (.k (.int .i64 0))⟩]
def rRef29NodesX3 : List O := [
  ⟨(some 13), none, .mv (.t 4)⟩,
  ⟨(some 2), none, .mv (.k (.own 1 []))⟩,
  ⟨(some 3), none, .mv (.t 13)⟩]
def rRef29NodesX4 : List O := [
  ⟨(some 14), none, .fad 0 (.t 1)⟩,
  ⟨(some 15), none, .ld none (.t 14)⟩,
  ⟨(some 16), none, .mks 1 [(.int .i64 0)] (.t 15) (.t 15)⟩,
  ⟨(some 5), none, .mv (.t 16)⟩]
def rRef29NodesX5 : List O := [
  ⟨(some 6), none, .mv (.k (.int .i64 0))⟩]
def rRef29NodesX6 : List O := [
  ⟨(some 17), none, .mv (.t 6)⟩,
  ⟨(some 18), none, .fad 1 (.t 1)⟩,
  ⟨(some 19), none, .ld none (.t 18)⟩,
  ⟨(some 20), none, .len (.t 19)⟩,
  ⟨(some 21), none, .bin .lss (.t 17) (.t 20)⟩]
def rRef29NodesX7 : List O := [
  ⟨(some 24), none, .ld (some 2) (.t 1)⟩,
  ⟨(some 25), none, .fad 1 (.t 1)⟩,
  ⟨(some 26), none, .ld none (.t 25)⟩,
  ⟨(some 27), none, .mv (.t 6)⟩,
  ⟨(some 28), none, .ixa 2 (.t 26) (.t 27)⟩,
  ⟨(some 29), none, .fad 0 (.t 28)⟩,
  ⟨(some 30), none, .ld none (.t 29)⟩,
  ⟨(some 31), none, .fad 1 (.t 1)⟩,
  ⟨(some 32), none, .ld none (.t 31)⟩,
  ⟨(some 33), none, .mv (.t 6)⟩,
  ⟨(some 34), none, .ixa 2 (.t 32) (.t 33)⟩,
  ⟨(some 35), none, .fad 1 (.t 34)⟩,
  ⟨(some 36), none, .ld none (.t 35)⟩,
  ⟨(some 37), none, .call nRef03Common [(.t 24), (.t 30), (.t 36)]⟩,
  ⟨(some 7), none, .mv (.t 37)⟩]
def rRef29NodesX8 : List O := [
  ⟨(some 8), none, .mv (.k (.int .i64 0))⟩]
def rRef29NodesX9 : List O := [
  ⟨(some 38), none, .mv (.t 8)⟩,
  ⟨(some 39), none, .mv (.t 7)⟩,
  ⟨(some 40), none, .len (.t 39)⟩,
  ⟨(some 41), none, .bin .lss (.t 38) (.t 40)⟩]
def rRef29NodesX10 : List O := [
  ⟨(some 44), none, .mv (.t 5)⟩,
  ⟨(some 45), none, .mv (.t 7)⟩,
  ⟨(some 46), none, .mv (.t 8)⟩,
  ⟨(some 47), none, .ixa 1 (.t 45) (.t 46)⟩,
  ⟨(some 48), none, .ld none (.t 47)⟩,
  ⟨(some 49), none, .ixa 1 (.t 44) (.t 48)⟩,
  ⟨(some 50), none, .ld none (.t 49)⟩,
  ⟨(some 51), none, .bin .add (.t 50) (.k (.int .i64 1))⟩,
  ⟨(some 52), none, .ixa 1 (.t 44) (.t 48)⟩,
  ⟨none, none, .st 1 (.t 52) (.t 51)⟩]
def rRef29NodesX11 : List O := [
  ⟨(some 42), none, .mv (.t 8)⟩,
  ⟨(some 43), none, .bin .add (.t 42) (.k (.int .i64 1))⟩,
  ⟨(some 8), none, .mv (.t 43)⟩]
def lRef29NodesX0 : C := (.seq (.seq (.reg rRef29NodesX9 false [] [1, 5, 6, 7, 8, 41]) (.cond (.t 41) .skip (.exit 2))) (.seq (.blk 3 (.reg rRef29NodesX10 false [] [1, 5, 6, 7, 8])) (.reg rRef29NodesX11 false [] [1, 5, 6, 7, 8])))
def rRef29NodesX12 : List O := [
  ⟨(some 22), none, .mv (.t 6)⟩,
  ⟨(some 23), none, .bin .add (.t 22) (.k (.int .i64 1))⟩,
  ⟨(some 6), none, .mv (.t 23)⟩]
def lRef29NodesX1 : C := (.seq (.seq (.reg rRef29NodesX6 false [] [1, 5, 6, 21]) (.cond (.t 21) .skip (.exit 0))) (.seq (.blk 1 (.seq (.reg rRef29NodesX7 true [(13, 13), (14, 14), (0, 1), (0, 2), (0, 3), (2, 3), (0, 4), (0, 5), (0, 6), (0, 7), (2, 7), (6, 7), (0, 8), (1, 8), (2, 8), (3, 8), (4, 8), (5, 8), (6, 8), (0, 9), (2, 9), (6, 9), (8, 9), (0, 10), (2, 10), (6, 10), (0, 11), (2, 11), (6, 11), (0, 12), (1, 12), (2, 12), (3, 12), (4, 12), (5, 12), (6, 12)] [1, 5, 6, 7]) (.seq (.reg rRef29NodesX8 false [] [1, 5, 6, 7, 8]) (.blk 2 (.loop lRef29NodesX0))))) (.reg rRef29NodesX12 false [] [1, 5, 6])))
def rRef29NodesX13 : List O := [
  ⟨(some 53), none, .mv (.t 5)⟩,
  ⟨(some 2), none, .mv (.t 53)⟩,
  ⟨(some 3), none, .mv (.k (.int .i64 0))⟩]
def cRef29Nodes : C := (.seq (.reg rRef29NodesX0 false [] [1]) (.seq (.seq (.reg rRef29NodesX1 false [] [1, 4]) (.seq (.reg rRef29NodesX2 false [] [1, 4, 12]) (.cond (.t 12) (.seq (.reg rRef29NodesX3 false [] [2, 3]) .ret) .skip))) (.seq (.reg rRef29NodesX4 false [] [1, 5]) (.seq (.seq (.reg rRef29NodesX5 false [] [1, 5, 6]) (.blk 0 (.loop lRef29NodesX1))) (.seq (.reg rRef29NodesX13 false [] [2, 3]) .ret)))))
def qRef29Nodes : AFn := ⟨54, 1, [.t 2, .t 3], cRef29Nodes⟩
/- slices.Sort[[]int,int] -/
def rSlicesSortIntIntX0 : List O := [
  ⟨(some 3), none, .mv (.t 0)⟩,
  ⟨(some 4), none, .len (.t 3)⟩,
  ⟨(some 2), none, .mv (.t 4)⟩]
def rSlicesSortIntIntX1 : List O := [
  ⟨(some 5), none, .mv (.t 0)⟩,
  ⟨(some 6), none, .mv (.t 2)⟩,
  ⟨(some 7), none, .mv (.t 2)⟩,
  ⟨(some 8), none, .cvt .u64 (.t 7)⟩,
  ⟨(some 9), none, .call 36 [(.t 8)]⟩,
  ⟨(some 10), none, .call 35 [(.t 5), (.k (.int .i64 0)), (.t 6), (.t 9)]⟩]
def cSlicesSortIntInt : C := (.seq (.reg rSlicesSortIntIntX0 false [] [0, 2]) (.reg rSlicesSortIntIntX1 false [] []))
def qSlicesSortIntInt : AFn := ⟨11, 1, [], cSlicesSortIntInt⟩
/- cohesion/sample.Keep -/
def rSampleKeepX0 : List O := [
  ⟨(some 2), none, .box (.t 0)⟩,
  ⟨(some 3), none, .box (.t 1)⟩,
  ⟨(some 4), none, .new [(.int .i64 0), (.own 2 [])]⟩,
  ⟨(some 5), none, .mv (.k (.int .i64 0))⟩]
def rSampleKeepX1 : List O := [
  ⟨(some 7), none, .ld (some 2) (.t 2)⟩,
  ⟨(some 8), none, .call nGraphCheck [(.t 7)]⟩,
  ⟨(some 6), none, .mv (.t 8)⟩]
def rSampleKeepX2 : List O := [
  ⟨(some 9), none, .mv (.t 6)⟩,
  ⟨(some 10), none, .bin .neq (.t 9) (.k (.int .i64 0))⟩]
def rSampleKeepX3 : List O := [
  ⟨(some 11), none, .build [(.int .i64 0), (.own 2 [])] []⟩,
  ⟨(some 12), none, .mv (.t 6)⟩,
  ⟨none, none, .st 2 (.t 4) (.t 11)⟩,
  ⟨(some 5), none, .mv (.t 12)⟩]
def rSampleKeepX4 : List O := [
  ⟨(some 13), none, .ld none (.t 3)⟩,
  ⟨(some 14), none, .len (.t 13)⟩,
  ⟨(some 15), none, .fad 1 (.t 2)⟩,
  ⟨(some 16), none, .ld none (.t 15)⟩,
  ⟨(some 17), none, .len (.t 16)⟩,
  ⟨(some 18), none, .bin .neq (.t 14) (.t 17)⟩]
def rSampleKeepX5 : List O := [
  ⟨(some 19), none, .build [(.int .i64 0), (.own 2 [])] []⟩,
  ⟨none, none, .st 2 (.t 4) (.t 19)⟩,
  ⟨(some 5), none, .mv (.k (.int .i64 4))⟩]
def rSampleKeepX6 : List O := [
  ⟨(some 20), none, .ld (some 2) (.t 2)⟩,
  ⟨(some 21), none, .mkf (.func nSampleKeep1) [] [(.t 3)]⟩,
  ⟨(some 22), none, .call nSampleSome [(.t 20), (.t 21)]⟩,
  ⟨none, none, .st 2 (.t 4) (.t 22)⟩,
  ⟨(some 5), none, .mv (.k (.int .i64 0))⟩]
def cSampleKeep : C := (.seq (.reg rSampleKeepX0 false [] [2, 3, 4]) (.seq (.seq (.reg rSampleKeepX1 false [] [2, 3, 4, 6]) (.seq (.reg rSampleKeepX2 false [] [2, 3, 4, 6, 10]) (.cond (.t 10) (.seq (.reg rSampleKeepX3 false [] [4, 5]) .ret) .skip))) (.seq (.seq (.reg rSampleKeepX4 false [] [2, 3, 4, 18]) (.cond (.t 18) (.seq (.reg rSampleKeepX5 false [] [4, 5]) .ret) .skip)) (.seq (.reg rSampleKeepX6 false [] [4, 5]) .ret))))
def qSampleKeep : AFn := ⟨23, 2, [.c 4 (some 2), .t 5], cSampleKeep⟩
/- cohesion/graph.Check -/
def rGraphCheckX0 : List O := [
  ⟨(some 1), none, .box (.t 0)⟩,
  ⟨(some 2), none, .mv (.k (.int .i64 0))⟩]
def rGraphCheckX1 : List O := [
  ⟨(some 5), none, .fad 0 (.t 1)⟩,
  ⟨(some 6), none, .ld none (.t 5)⟩,
  ⟨(some 7), none, .bin .lss (.t 6) (.k (.int .i64 0))⟩,
  ⟨(some 8), none, .mv (.t 7)⟩,
  ⟨(some 9), (some (8, false)), .fad 0 (.t 1)⟩,
  ⟨(some 10), (some (8, false)), .ld none (.t 9)⟩,
  ⟨(some 11), (some (8, false)), .bin .gtr (.t 10) (.k (.int .i64 64))⟩,
  ⟨(some 12), none, .pick (.t 8) (.k (.bool true)) (.t 11)⟩]
def rGraphCheckX2 : List O := [
  ⟨(some 2), none, .mv (.k (.int .i64 1))⟩]
def rGraphCheckX3 : List O := [
  ⟨(some 13), none, .fad 1 (.t 1)⟩,
  ⟨(some 14), none, .ld none (.t 13)⟩,
  ⟨(some 15), none, .len (.t 14)⟩,
  ⟨(some 16), none, .mv (.k (.int .i64 0))⟩]
def rGraphCheckX4 : List O := [
  ⟨(some 17), none, .bin .lss (.t 16) (.t 15)⟩]
def rGraphCheckX5 : List O := [
  ⟨(some 18), none, .mv (.t 16)⟩,
  ⟨(some 19), none, .ixa 2 (.t 14) (.t 16)⟩,
  ⟨(some 20), none, .ld (some 2) (.t 19)⟩,
  ⟨(some 4), none, .new [(.int .i64 0), (.int .i64 0)]⟩,
  ⟨(some 3), none, .mv (.t 18)⟩,
  ⟨none, none, .st 2 (.t 4) (.t 20)⟩]
def rGraphCheckX6 : List O := [
  ⟨(some 22), none, .fad 0 (.t 4)⟩,
  ⟨(some 23), none, .ld none (.t 22)⟩,
  ⟨(some 24), none, .bin .lss (.t 23) (.k (.int .i64 0))⟩,
  ⟨(some 25), none, .mv (.t 24)⟩,
  ⟨(some 26), (some (25, false)), .fad 0 (.t 4)⟩,
  ⟨(some 27), (some (25, false)), .ld none (.t 26)⟩,
  ⟨(some 28), (some (25, false)), .fad 1 (.t 4)⟩,
  ⟨(some 29), (some (25, false)), .ld none (.t 28)⟩,
  ⟨(some 30), (some (25, false)), .bin .geq (.t 27) (.t 29)⟩,
  ⟨(some 31), none, .pick (.t 25) (.k (.bool true)) (.t 30)⟩,
  ⟨(some 32), none, .mv (.t 31)⟩,
  ⟨(some 33), (some (32, false)), .fad 1 (.t 4)⟩,
  ⟨(some 34), (some (32, false)), .ld none (.t 33)⟩,
  ⟨(some 35), (some (32, false)), .fad 0 (.t 1)⟩,
  ⟨(some 36), (some (32, false)), .ld none (.t 35)⟩,
  ⟨(some 37), (some (32, false)), .bin .geq (.t 34) (.t 36)⟩,
  ⟨(some 38), none, .pick (.t 32) (.k (.bool true)) (.t 37)⟩,
  ⟨(some 21), none, .mv (.t 38)⟩]
def rGraphCheckX7 : List O := [
  ⟨(some 2), none, .mv (.k (.int .i64 6))⟩]
def rGraphCheckX8 : List O := [
  ⟨(some 40), none, .mv (.t 3)⟩,
  ⟨(some 41), none, .bin .gtr (.t 40) (.k (.int .i64 0))⟩,
  ⟨(some 42), none, .mv (.t 41)⟩,
  ⟨(some 43), (some (42, true)), .fad 1 (.t 1)⟩,
  ⟨(some 44), (some (42, true)), .ld none (.t 43)⟩,
  ⟨(some 45), (some (42, true)), .mv (.t 3)⟩,
  ⟨(some 46), (some (42, true)), .bin .sub (.t 45) (.k (.int .i64 1))⟩,
  ⟨(some 47), (some (42, true)), .ixa 2 (.t 44) (.t 46)⟩,
  ⟨(some 48), (some (42, true)), .ld (some 2) (.t 47)⟩,
  ⟨(some 49), (some (42, true)), .ld (some 2) (.t 4)⟩,
  ⟨(some 50), (some (42, true)), .call nGraphOrder [(.t 48), (.t 49)]⟩,
  ⟨(some 51), (some (42, true)), .bin .geq (.t 50) (.k (.int .i64 0))⟩,
  ⟨(some 52), none, .pick (.t 42) (.t 51) (.k (.bool false))⟩,
  ⟨(some 39), none, .mv (.t 52)⟩]
def rGraphCheckX9 : List O := [
  ⟨(some 2), none, .mv (.k (.int .i64 5))⟩]
def rGraphCheckX10 : List O := [
  ⟨(some 53), none, .bin .add (.t 16) (.k (.int .i64 1))⟩,
  ⟨(some 16), none, .mv (.t 53)⟩]
def lGraphCheckX0 : C := (.seq (.reg rGraphCheckX4 false [] [1, 14, 15, 16, 17]) (.seq (.cond (.t 17) .skip (.exit 0)) (.seq (.blk 1 (.seq (.reg rGraphCheckX5 false [] [1, 3, 4, 14, 15, 16]) (.blk 2 (.seq (.reg rGraphCheckX6 false [] [1, 3, 4, 14, 15, 16, 21]) (.cond (.t 21) (.seq (.reg rGraphCheckX7 false [] [2]) .ret) (.seq (.reg rGraphCheckX8 true [(0, 0), (1, 1), (2, 2), (10, 10), (11, 11), (12, 12), (13, 13), (4, 5), (4, 6), (3, 9), (4, 9), (5, 9), (6, 9), (7, 9), (8, 9)] [1, 14, 15, 16, 39]) (.cond (.t 39) (.seq (.reg rGraphCheckX9 false [] [2]) .ret) .skip))))))) (.reg rGraphCheckX10 false [] [1, 14, 15, 16]))))
def rGraphCheckX11 : List O := [
  ⟨(some 2), none, .mv (.k (.int .i64 0))⟩]
def cGraphCheck : C := (.seq (.reg rGraphCheckX0 false [] [1]) (.seq (.seq (.reg rGraphCheckX1 false [] [1, 12]) (.cond (.t 12) (.seq (.reg rGraphCheckX2 false [] [2]) .ret) .skip)) (.seq (.seq (.reg rGraphCheckX3 false [] [1, 14, 15, 16]) (.blk 0 (.loop lGraphCheckX0))) (.seq (.reg rGraphCheckX11 false [] [2]) .ret))))
def qGraphCheck : AFn := ⟨54, 1, [.t 2], cGraphCheck⟩
/- slices.ContainsFunc[[]int,int] -/
def rSlicesContainsFuncIntIntX0 : List O := [
  ⟨(some 4), none, .mv (.k (.bool false))⟩]
def rSlicesContainsFuncIntIntX1 : List O := [
  ⟨(some 5), none, .mv (.t 0)⟩,
  ⟨(some 6), none, .mv (.t 1)⟩,
  ⟨(some 7), none, .call nSlicesIndexFuncIntInt [(.t 5), (.t 6)]⟩,
  ⟨(some 8), none, .bin .geq (.t 7) (.k (.int .i64 0))⟩,
  ⟨(some 4), none, .mv (.t 8)⟩]
def cSlicesContainsFuncIntInt : C := (.seq (.reg rSlicesContainsFuncIntIntX0 false [] [0, 1]) (.seq (.reg rSlicesContainsFuncIntIntX1 false [] [4]) .ret))
def qSlicesContainsFuncIntInt : AFn := ⟨9, 2, [.t 4], cSlicesContainsFuncIntInt⟩
/- cohesion/sample.Mono$1 -/
def rSampleMono1X0 : List O := [
  ⟨(some 3), none, .mv (.k (.bool false))⟩]
def rSampleMono1X1 : List O := [
  ⟨(some 4), none, .mv (.t 0)⟩,
  ⟨(some 5), none, .bin .lss (.t 4) (.k (.int .i64 0))⟩,
  ⟨(some 6), none, .mv (.t 5)⟩,
  ⟨(some 7), (some (6, false)), .mv (.t 0)⟩,
  ⟨(some 8), (some (6, false)), .ld none (.t 1)⟩,
  ⟨(some 9), (some (6, false)), .bin .geq (.t 7) (.t 8)⟩,
  ⟨(some 10), none, .pick (.t 6) (.k (.bool true)) (.t 9)⟩,
  ⟨(some 3), none, .mv (.t 10)⟩]
def cSampleMono1 : C := (.seq (.reg rSampleMono1X0 false [] [0, 1]) (.seq (.reg rSampleMono1X1 false [] [3]) .ret))
def qSampleMono1 : AFn := ⟨11, 1, [.t 3], cSampleMono1⟩
/- cohesion/sample.some -/
def rSampleSomeX0 : List O := [
  ⟨(some 2), none, .box (.t 0)⟩,
  ⟨(some 4), none, .new [(.int .i64 0), (.own 2 [])]⟩]
def rSampleSomeX1 : List O := [
  ⟨(some 8), none, .fad 0 (.t 2)⟩,
  ⟨(some 9), none, .ld none (.t 8)⟩,
  ⟨(some 10), none, .build [(.int .i64 0), (.own 2 [])] [(0, 1, (.t 9))]⟩,
  ⟨(some 5), none, .new [(.int .i64 0), (.own 2 [])]⟩,
  ⟨none, none, .st 2 (.t 5) (.t 10)⟩]
def rSampleSomeX2 : List O := [
  ⟨(some 11), none, .fad 1 (.t 2)⟩,
  ⟨(some 12), none, .ld none (.t 11)⟩,
  ⟨(some 13), none, .len (.t 12)⟩,
  ⟨(some 14), none, .mv (.k (.int .i64 0))⟩]
def rSampleSomeX3 : List O := [
  ⟨(some 15), none, .bin .lss (.t 14) (.t 13)⟩]
def rSampleSomeX4 : List O := [
  ⟨(some 16), none, .mv (.t 14)⟩,
  ⟨(some 17), none, .ixa 2 (.t 12) (.t 14)⟩,
  ⟨(some 18), none, .ld (some 2) (.t 17)⟩,
  ⟨(some 7), none, .new [(.int .i64 0), (.int .i64 0)]⟩,
  ⟨(some 6), none, .mv (.t 16)⟩,
  ⟨none, none, .st 2 (.t 7) (.t 18)⟩]
def rSampleSomeX5 : List O := [
  ⟨(some 19), none, .mv (.t 1)⟩,
  ⟨(some 20), none, .mv (.t 6)⟩,
  ⟨(some 21), none, .ld (some 2) (.t 7)⟩,
  ⟨(some 22), none, .callv (.t 19) [(.t 20), (.t 21)]⟩]
def rSampleSomeX6 : List O := [
  ⟨(some 23), none, .fad 1 (.t 5)⟩,
  ⟨(some 24), none, .ld none (.t 23)⟩,
  ⟨(some 25), none, .ld (some 2) (.t 7)⟩,
  ⟨(some 26), none, .bslice 2 1 [(.int .i64 0), (.int .i64 0)] [(0, 2, (.t 25))]⟩,
  ⟨(some 27), none, .app 2 (.t 24) (.t 26)⟩,
  ⟨(some 28), none, .fad 1 (.t 5)⟩,
  ⟨none, none, .st 1 (.t 28) (.t 27)⟩]
def rSampleSomeX7 : List O := [
  ⟨(some 29), none, .bin .add (.t 14) (.k (.int .i64 1))⟩,
  ⟨(some 14), none, .mv (.t 29)⟩]
def lSampleSomeX0 : C := (.seq (.reg rSampleSomeX3 false [] [1, 4, 5, 12, 13, 14, 15]) (.seq (.cond (.t 15) .skip (.exit 0)) (.seq (.blk 1 (.seq (.reg rSampleSomeX4 false [] [1, 4, 5, 6, 7, 12, 13, 14]) (.seq (.reg rSampleSomeX5 false [] [1, 4, 5, 7, 12, 13, 14, 22]) (.cond (.t 22) (.reg rSampleSomeX6 false [] [1, 4, 5, 12, 13, 14]) .skip)))) (.reg rSampleSomeX7 false [] [1, 4, 5, 12, 13, 14]))))
def rSampleSomeX8 : List O := [
  ⟨(some 30), none, .ld (some 2) (.t 5)⟩,
  ⟨none, none, .st 2 (.t 4) (.t 30)⟩]
def cSampleSome : C := (.seq (.reg rSampleSomeX0 false [] [1, 2, 4]) (.seq (.reg rSampleSomeX1 false [] [1, 2, 4, 5]) (.seq (.seq (.reg rSampleSomeX2 false [] [1, 4, 5, 12, 13, 14]) (.blk 0 (.loop lSampleSomeX0))) (.seq (.reg rSampleSomeX8 false [] [4]) .ret))))
def qSampleSome : AFn := ⟨31, 2, [.c 4 (some 2)], cSampleSome⟩
/- cohesion/sample.Mono$2 -/
def rSampleMono2X0 : List O := [
  ⟨(some 4), none, .box (.t 1)⟩,
  ⟨(some 5), none, .mv (.k (.bool false))⟩]
def rSampleMono2X1 : List O := [
  ⟨(some 6), none, .ld none (.t 2)⟩,
  ⟨(some 7), none, .fad 0 (.t 4)⟩,
  ⟨(some 8), none, .ld none (.t 7)⟩,
  ⟨(some 9), none, .ixa 1 (.t 6) (.t 8)⟩,
  ⟨(some 10), none, .ld none (.t 9)⟩,
  ⟨(some 11), none, .ld none (.t 2)⟩,
  ⟨(some 12), none, .fad 1 (.t 4)⟩,
  ⟨(some 13), none, .ld none (.t 12)⟩,
  ⟨(some 14), none, .ixa 1 (.t 11) (.t 13)⟩,
  ⟨(some 15), none, .ld none (.t 14)⟩,
  ⟨(some 16), none, .bin .eql (.t 10) (.t 15)⟩,
  ⟨(some 5), none, .mv (.t 16)⟩]
def cSampleMono2 : C := (.seq (.reg rSampleMono2X0 false [] [2, 4]) (.seq (.reg rSampleMono2X1 true [(10, 10), (11, 11), (0, 1), (0, 2), (0, 5), (1, 5), (2, 5), (3, 5), (4, 5), (0, 6), (2, 6), (4, 6), (5, 6), (0, 7), (1, 7), (2, 7), (3, 7), (4, 7), (5, 7), (0, 8), (2, 8), (4, 8), (0, 9), (1, 9), (2, 9), (3, 9), (4, 9)] [5]) .ret))
def qSampleMono2 : AFn := ⟨17, 2, [.t 5], cSampleMono2⟩
/- cohesion/cohesionref03.Check -/
def rRef03CheckX0 : List O := [
  ⟨(some 1), none, .box (.t 0)⟩,
  ⟨(some 2), none, .mv (.k (.int .i64 0))⟩]
def rRef03CheckX1 : List O := [
  ⟨(some 5), none, .fad 0 (.t 1)⟩,
  ⟨(some 6), none, .ld none (.t 5)⟩,
  ⟨(some 7), none, .bin .lss (.t 6) (.k (.int .i64 0))⟩,
  ⟨(some 8), none, .mv (.t 7)⟩,
  ⟨(some 9), (some (8, false)), .fad 0 (.t 1)⟩,
  ⟨(some 10), (some (8, false)), .ld none (.t 9)⟩,
  ⟨(some 11), (some (8, false)), .bin .gtr (.t 10) (.k (.int .i64 64))⟩,
  ⟨(some 12), none, .pick (.t 8) (.k (.bool true)) (.t 11)⟩]
def rRef03CheckX2 : List O := [
  ⟨(some 2), none, .mv (.k (.int .i64 1))⟩]
def rRef03CheckX3 : List O := [
  ⟨(some 13), none, .fad 1 (.t 1)⟩,
  ⟨(some 14), none, .ld none (.t 13)⟩,
  ⟨(some 15), none, .len (.t 14)⟩,
  ⟨(some 16), none, .mv (.k (.int .i64 0))⟩]
def rRef03CheckX4 : List O := [
  ⟨(some 17), none, .bin .lss (.t 16) (.t 15)⟩]
def rRef03CheckX5 : List O := [
  ⟨(some 18), none, .mv (.t 16)⟩,
  ⟨(some 19), none, .ixa 2 (.t 14) (.t 16)⟩,
  ⟨(some 20), none, .ld (some 2) (.t 19)⟩,
  ⟨(some 4), none, .new [(.int .i64 0), (.int .i64 0)]⟩,
  ⟨(some 3), none, .mv (.t 18)⟩,
  ⟨none, none, .st 2 (.t 4) (.t 20)⟩]
def rRef03CheckX6 : List O := [
  ⟨(some 21), none, .fad 0 (.t 4)⟩,
  ⟨(some 22), none, .ld none (.t 21)⟩,
  ⟨(some 23), none, .bin .lss (.t 22) (.k (.int .i64 0))⟩,
  ⟨(some 24), none, .mv (.t 23)⟩,
  ⟨(some 25), (some (24, false)), .fad 0 (.t 4)⟩,
  ⟨(some 26), (some (24, false)), .ld none (.t 25)⟩,
  ⟨(some 27), (some (24, false)), .fad 1 (.t 4)⟩,
  ⟨(some 28), (some (24, false)), .ld none (.t 27)⟩,
  ⟨(some 29), (some (24, false)), .bin .geq (.t 26) (.t 28)⟩,
  ⟨(some 30), none, .pick (.t 24) (.k (.bool true)) (.t 29)⟩,
  ⟨(some 31), none, .mv (.t 30)⟩,
  ⟨(some 32), (some (31, false)), .fad 1 (.t 4)⟩,
  ⟨(some 33), (some (31, false)), .ld none (.t 32)⟩,
  ⟨(some 34), (some (31, false)), .fad 0 (.t 1)⟩,
  ⟨(some 35), (some (31, false)), .ld none (.t 34)⟩,
  ⟨(some 36), (some (31, false)), .bin .geq (.t 33) (.t 35)⟩,
  ⟨(some 37), none, .pick (.t 31) (.k (.bool true)) (.t 36)⟩]
def rRef03CheckX7 : List O := [
  ⟨(some 2), none, .mv (.k (.int .i64 6))⟩]
def rRef03CheckX8 : List O := [
  ⟨(some 38), none, .mv (.t 3)⟩,
  ⟨(some 39), none, .bin .gtr (.t 38) (.k (.int .i64 0))⟩,
  ⟨(some 40), none, .mv (.t 39)⟩,
  ⟨(some 41), (some (40, true)), .fad 1 (.t 1)⟩,
  ⟨(some 42), (some (40, true)), .ld none (.t 41)⟩,
  ⟨(some 43), (some (40, true)), .mv (.t 3)⟩,
  ⟨(some 44), (some (40, true)), .bin .sub (.t 43) (.k (.int .i64 1))⟩,
  ⟨(some 45), (some (40, true)), .ixa 2 (.t 42) (.t 44)⟩,
  ⟨(some 46), (some (40, true)), .ld (some 2) (.t 45)⟩,
  ⟨(some 47), (some (40, true)), .ld (some 2) (.t 4)⟩,
  ⟨(some 48), (some (40, true)), .call nRef03Before [(.t 46), (.t 47)]⟩,
  ⟨(some 49), (some (40, true)), .un .not (.t 48)⟩,
  ⟨(some 50), none, .pick (.t 40) (.t 49) (.k (.bool false))⟩]
def rRef03CheckX9 : List O := [
  ⟨(some 2), none, .mv (.k (.int .i64 5))⟩]
def rRef03CheckX10 : List O := [
  ⟨(some 51), none, .bin .add (.t 16) (.k (.int .i64 1))⟩,
  ⟨(some 16), none, .mv (.t 51)⟩]
def lRef03CheckX0 : C := (.seq (.reg rRef03CheckX4 false [] [1, 14, 15, 16, 17]) (.seq (.cond (.t 17) .skip (.exit 0)) (.seq (.blk 1 (.seq (.reg rRef03CheckX5 false [] [1, 3, 4, 14, 15, 16]) (.seq (.seq (.reg rRef03CheckX6 false [] [1, 3, 4, 14, 15, 16, 37]) (.cond (.t 37) (.seq (.reg rRef03CheckX7 false [] [2]) .ret) .skip)) (.seq (.reg rRef03CheckX8 true [(0, 0), (1, 1), (2, 2), (10, 10), (11, 11), (12, 12), (4, 5), (4, 6), (3, 9), (4, 9), (5, 9), (6, 9), (7, 9), (8, 9)] [1, 14, 15, 16, 50]) (.cond (.t 50) (.seq (.reg rRef03CheckX9 false [] [2]) .ret) .skip))))) (.reg rRef03CheckX10 false [] [1, 14, 15, 16]))))
def rRef03CheckX11 : List O := [
  ⟨(some 2), none, .mv (.k (.int .i64 0))⟩]
def cRef03Check : C := (.seq (.reg rRef03CheckX0 false [] [1]) (.seq (.seq (.reg rRef03CheckX1 false [] [1, 12]) (.cond (.t 12) (.seq (.reg rRef03CheckX2 false [] [2]) .ret) .skip)) (.seq (.seq (.reg rRef03CheckX3 false [] [1, 14, 15, 16]) (.blk 0 (.loop lRef03CheckX0))) (.seq (.reg rRef03CheckX11 false [] [2]) .ret))))
def qRef03Check : AFn := ⟨52, 1, [.t 2], cRef03Check⟩
/- cohesion/cohesionref03.edge -/
def rRef03EdgeX0 : List O := [
  ⟨(some 4), none, .new [(.int .i64 0), (.int .i64 0)]⟩]
def rRef03EdgeX1 : List O := [
  ⟨(some 5), none, .mv (.t 0)⟩,
  ⟨(some 6), none, .mv (.t 1)⟩,
  ⟨(some 7), none, .min [(.t 5), (.t 6)]⟩,
  ⟨(some 8), none, .mv (.t 0)⟩,
  ⟨(some 9), none, .mv (.t 1)⟩,
  ⟨(some 10), none, .max [(.t 8), (.t 9)]⟩,
  ⟨(some 11), none, .build [(.int .i64 0), (.int .i64 0)] [(0, 1, (.t 7)), (1, 1, (.t 10))]⟩,
  ⟨none, none, .st 2 (.t 4) (.t 11)⟩]
def cRef03Edge : C := (.seq (.reg rRef03EdgeX0 false [] [0, 1, 4]) (.seq (.reg rRef03EdgeX1 false [] [4]) .ret))
def qRef03Edge : AFn := ⟨12, 2, [.c 4 (some 2)], cRef03Edge⟩
/- cohesion/cohesionmake.Mod -/
def rMakeModX0 : List O := [
  ⟨(some 4), none, .mv (.k (.int .i64 0))⟩]
def rMakeModX1 : List O := [
  ⟨(some 5), none, .mv (.t 0)⟩,
  ⟨(some 6), none, .mv (.t 1)⟩,
  ⟨(some 7), none, .bin .rem (.t 5) (.t 6)⟩,
  ⟨(some 8), none, .mv (.t 1)⟩,
  ⟨(some 9), none, .bin .add (.t 7) (.t 8)⟩,
  ⟨(some 10), none, .mv (.t 1)⟩,
  ⟨(some 11), none, .bin .rem (.t 9) (.t 10)⟩,
  ⟨(some 4), none, .mv (.t 11)⟩]
def cMakeMod : C := (.seq (.reg rMakeModX0 false [] [0, 1]) (.seq (.reg rMakeModX1 false [] [4]) .ret))
def qMakeMod : AFn := ⟨12, 2, [.t 4], cMakeMod⟩
/- cohesion/triangles.counts -/
def rTrianglesCountsX0 : List O := [
  ⟨(some 1), none, .box (.t 0)⟩,
  ⟨(some 2), none, .mv (.k (.int .i64 0))⟩,
  ⟨(some 3), none, .mv (.k (.own 1 []))⟩]
def rTrianglesCountsX1 : List O := [
  ⟨(some 11), none, .ld (some 2) (.t 1)⟩,
  ⟨(some 12), none, .call nTrianglesLists [(.t 11)]⟩,
  ⟨(some 4), none, .mv (.t 12)⟩]
def rTrianglesCountsX2 : List O := [
  ⟨(some 13), none, .fad 0 (.t 1)⟩,
  ⟨(some 14), none, .ld none (.t 13)⟩,
  ⟨(some 15), none, .mks 1 [(.int .i64 0)] (.t 14) (.t 14)⟩,
  ⟨(some 5), none, .mv (.k (.int .i64 0))⟩,
  ⟨(some 6), none, .mv (.t 15)⟩]
def rTrianglesCountsX3 : List O := [
  ⟨(some 16), none, .fad 1 (.t 1)⟩,
  ⟨(some 17), none, .ld none (.t 16)⟩,
  ⟨(some 18), none, .len (.t 17)⟩,
  ⟨(some 19), none, .mv (.k (.int .i64 0))⟩]
def rTrianglesCountsX4 : List O := [
  ⟨(some 20), none, .bin .lss (.t 19) (.t 18)⟩]
def rTrianglesCountsX5 : List O := [
  ⟨(some 21), none, .ixa 2 (.t 17) (.t 19)⟩,
  ⟨(some 22), none, .ld (some 2) (.t 21)⟩,
  ⟨(some 8), none, .new [(.int .i64 0), (.int .i64 0)]⟩,
  ⟨none, none, .st 2 (.t 8) (.t 22)⟩]
def rTrianglesCountsX6 : List O := [
  ⟨(some 23), none, .mv (.t 4)⟩,
  ⟨(some 24), none, .fad 0 (.t 8)⟩,
  ⟨(some 25), none, .ld none (.t 24)⟩,
  ⟨(some 26), none, .ixa 1 (.t 23) (.t 25)⟩,
  ⟨(some 27), none, .ld none (.t 26)⟩,
  ⟨(some 28), none, .mv (.t 4)⟩,
  ⟨(some 29), none, .fad 1 (.t 8)⟩,
  ⟨(some 30), none, .ld none (.t 29)⟩,
  ⟨(some 31), none, .ixa 1 (.t 28) (.t 30)⟩,
  ⟨(some 32), none, .ld none (.t 31)⟩,
  ⟨(some 33), none, .call nTrianglesSharedInt [(.t 27), (.t 32)]⟩,
  ⟨(some 34), none, .len (.t 33)⟩,
  ⟨(some 35), none, .mv (.k (.int .i64 0))⟩]
def rTrianglesCountsX7 : List O := [
  ⟨(some 36), none, .bin .lss (.t 35) (.t 34)⟩]
def rTrianglesCountsX8 : List O := [
  ⟨(some 37), none, .ixa 1 (.t 33) (.t 35)⟩,
  ⟨(some 38), none, .ld none (.t 37)⟩,
  ⟨(some 10), none, .mv (.t 38)⟩]
def rTrianglesCountsX9 : List O := [
  ⟨(some 39), none, .mv (.t 6)⟩,
  ⟨(some 40), none, .mv (.t 10)⟩,
  ⟨(some 41), none, .ixa 1 (.t 39) (.t 40)⟩,
  ⟨(some 42), none, .ld none (.t 41)⟩,
  ⟨(some 43), none, .bin .add (.t 42) (.k (.int .i64 1))⟩,
  ⟨(some 44), none, .ixa 1 (.t 39) (.t 40)⟩,
  ⟨none, none, .st 1 (.t 44) (.t 43)⟩]
def rTrianglesCountsX10 : List O := [
  ⟨(some 45), none, .mv (.t 5)⟩,
  ⟨(some 46), none, .bin .add (.t 45) (.k (.int .i64 1))⟩,
  ⟨(some 5), none, .mv (.t 46)⟩]
def rTrianglesCountsX11 : List O := [
  ⟨(some 47), none, .bin .add (.t 35) (.k (.int .i64 1))⟩,
  ⟨(some 35), none, .mv (.t 47)⟩]
def lTrianglesCountsX0 : C := (.seq (.reg rTrianglesCountsX7 false [] [4, 5, 6, 17, 18, 19, 33, 34, 35, 36]) (.seq (.cond (.t 36) .skip (.exit 2)) (.seq (.blk 3 (.seq (.reg rTrianglesCountsX8 false [] [4, 5, 6, 10, 17, 18, 19, 33, 34, 35]) (.seq (.reg rTrianglesCountsX9 false [] [4, 5, 6, 17, 18, 19, 33, 34, 35]) (.reg rTrianglesCountsX10 false [] [4, 5, 6, 17, 18, 19, 33, 34, 35])))) (.reg rTrianglesCountsX11 false [] [4, 5, 6, 17, 18, 19, 33, 34, 35]))))
def rTrianglesCountsX12 : List O := [
  ⟨(some 48), none, .bin .add (.t 19) (.k (.int .i64 1))⟩,
  ⟨(some 19), none, .mv (.t 48)⟩]
def lTrianglesCountsX1 : C := (.seq (.reg rTrianglesCountsX4 false [] [4, 5, 6, 17, 18, 19, 20]) (.seq (.cond (.t 20) .skip (.exit 0)) (.seq (.blk 1 (.seq (.reg rTrianglesCountsX5 false [] [4, 5, 6, 8, 17, 18, 19]) (.seq (.reg rTrianglesCountsX6 true [(0, 2), (2, 5), (4, 5), (2, 6), (4, 6), (0, 7), (1, 7), (2, 7), (3, 7), (4, 7), (5, 7), (2, 8), (4, 8), (0, 9), (1, 9), (2, 9), (3, 9), (4, 9), (2, 12), (4, 12), (7, 12), (9, 12), (10, 12)] [4, 5, 6, 17, 18, 19, 33, 34, 35]) (.blk 2 (.loop lTrianglesCountsX0))))) (.reg rTrianglesCountsX12 false [] [4, 5, 6, 17, 18, 19]))))
def rTrianglesCountsX13 : List O := [
  ⟨(some 49), none, .mv (.t 5)⟩,
  ⟨(some 50), none, .bin .quo (.t 49) (.k (.int .i64 3))⟩,
  ⟨(some 51), none, .mv (.t 6)⟩,
  ⟨(some 2), none, .mv (.t 50)⟩,
  ⟨(some 3), none, .mv (.t 51)⟩]
def cTrianglesCounts : C := (.seq (.reg rTrianglesCountsX0 false [] [1]) (.seq (.reg rTrianglesCountsX1 false [] [1, 4]) (.seq (.reg rTrianglesCountsX2 true [(4, 4), (1, 3)] [1, 4, 5, 6]) (.seq (.seq (.reg rTrianglesCountsX3 false [] [4, 5, 6, 17, 18, 19]) (.blk 0 (.loop lTrianglesCountsX1))) (.seq (.reg rTrianglesCountsX13 false [] [2, 3]) .ret)))))
def qTrianglesCounts : AFn := ⟨52, 1, [.t 2, .t 3], cTrianglesCounts⟩
/- cohesion/cohesionref03.Common -/
def rRef03CommonX0 : List O := [
  ⟨(some 3), none, .box (.t 0)⟩,
  ⟨(some 6), none, .mv (.k (.own 1 []))⟩]
def rRef03CommonX1 : List O := [
  ⟨(some 7), none, .mv (.t 1)⟩,
  ⟨(some 8), none, .mv (.t 2)⟩,
  ⟨(some 9), none, .bin .eql (.t 7) (.t 8)⟩]
def rRef03CommonX2 : List O := [
  ⟨(some 6), none, .mv (.k (.own 1 []))⟩]
def rRef03CommonX3 : List O := [
  ⟨(some 10), none, .ld (some 2) (.t 3)⟩,
  ⟨(some 11), none, .mv (.t 1)⟩,
  ⟨(some 12), none, .call nRef03Neighbours [(.t 10), (.t 11)]⟩,
  ⟨(some 13), none, .ld (some 2) (.t 3)⟩,
  ⟨(some 14), none, .mv (.t 2)⟩,
  ⟨(some 15), none, .call nRef03Neighbours [(.t 13), (.t 14)]⟩,
  ⟨(some 16), none, .call nRef02Meet [(.t 12), (.t 15)]⟩,
  ⟨(some 6), none, .mv (.t 16)⟩]
def cRef03Common : C := (.seq (.reg rRef03CommonX0 false [] [1, 2, 3]) (.seq (.seq (.reg rRef03CommonX1 false [] [1, 2, 3, 9]) (.cond (.t 9) (.seq (.reg rRef03CommonX2 false [] [6]) .ret) .skip)) (.seq (.reg rRef03CommonX3 true [(5, 5), (6, 6), (7, 7), (0, 1), (0, 3), (1, 3), (2, 3), (0, 4), (2, 4), (3, 4)] [6]) .ret)))
def qRef03Common : AFn := ⟨17, 3, [.t 6], cRef03Common⟩
/- cohesion/sample.Keep$1 -/
def rSampleKeep1X0 : List O := [
  ⟨(some 4), none, .box (.t 1)⟩,
  ⟨(some 5), none, .mv (.k (.bool false))⟩]
def rSampleKeep1X1 : List O := [
  ⟨(some 6), none, .ld none (.t 2)⟩,
  ⟨(some 7), none, .mv (.t 0)⟩,
  ⟨(some 8), none, .ixa 1 (.t 6) (.t 7)⟩,
  ⟨(some 9), none, .ld none (.t 8)⟩,
  ⟨(some 5), none, .mv (.t 9)⟩]
def cSampleKeep1 : C := (.seq (.reg rSampleKeep1X0 false [] [0, 2]) (.seq (.reg rSampleKeep1X1 false [] [5]) .ret))
def qSampleKeep1 : AFn := ⟨10, 2, [.t 5], cSampleKeep1⟩
/- cohesion/graph.Order -/
def rGraphOrderX0 : List O := [
  ⟨(some 2), none, .box (.t 0)⟩,
  ⟨(some 3), none, .box (.t 1)⟩,
  ⟨(some 4), none, .mv (.k (.int .i64 0))⟩]
def rGraphOrderX1 : List O := [
  ⟨(some 5), none, .fad 0 (.t 2)⟩,
  ⟨(some 6), none, .ld none (.t 5)⟩,
  ⟨(some 7), none, .fad 0 (.t 3)⟩,
  ⟨(some 8), none, .ld none (.t 7)⟩,
  ⟨(some 9), none, .call nCmpCompareInt [(.t 6), (.t 8)]⟩,
  ⟨(some 10), none, .fad 1 (.t 2)⟩,
  ⟨(some 11), none, .ld none (.t 10)⟩,
  ⟨(some 12), none, .fad 1 (.t 3)⟩,
  ⟨(some 13), none, .ld none (.t 12)⟩,
  ⟨(some 14), none, .call nCmpCompareInt [(.t 11), (.t 13)]⟩,
  ⟨(some 15), none, .bslice 1 2 [(.int .i64 0)] [(0, 1, (.t 9)), (1, 1, (.t 14))]⟩,
  ⟨(some 16), none, .call nCmpOrInt [(.t 15)]⟩,
  ⟨(some 4), none, .mv (.t 16)⟩]
def cGraphOrder : C := (.seq (.reg rGraphOrderX0 false [] [2, 3]) (.seq (.reg rGraphOrderX1 true [(9, 9), (10, 10), (11, 11), (12, 12), (1, 2), (0, 3), (1, 3), (1, 5), (3, 5), (4, 5), (0, 6), (1, 6), (2, 6), (3, 6), (4, 6), (1, 7), (3, 7), (4, 7), (6, 7), (0, 8), (1, 8), (2, 8), (3, 8), (4, 8), (5, 8), (6, 8)] [4]) .ret))
def qGraphOrder : AFn := ⟨17, 2, [.t 4], cGraphOrder⟩
/- slices.IndexFunc[[]int,int] -/
def rSlicesIndexFuncIntIntX0 : List O := [
  ⟨(some 4), none, .mv (.k (.int .i64 0))⟩]
def rSlicesIndexFuncIntIntX1 : List O := [
  ⟨(some 6), none, .mv (.t 0)⟩,
  ⟨(some 7), none, .len (.t 6)⟩,
  ⟨(some 8), none, .mv (.k (.int .i64 0))⟩]
def rSlicesIndexFuncIntIntX2 : List O := [
  ⟨(some 9), none, .bin .lss (.t 8) (.t 7)⟩]
def rSlicesIndexFuncIntIntX3 : List O := [
  ⟨(some 10), none, .mv (.t 8)⟩,
  ⟨(some 5), none, .mv (.t 10)⟩]
def rSlicesIndexFuncIntIntX4 : List O := [
  ⟨(some 11), none, .mv (.t 1)⟩,
  ⟨(some 12), none, .mv (.t 0)⟩,
  ⟨(some 13), none, .mv (.t 5)⟩,
  ⟨(some 14), none, .ixa 1 (.t 12) (.t 13)⟩,
  ⟨(some 15), none, .ld none (.t 14)⟩,
  ⟨(some 16), none, .callv (.t 11) [(.t 15)]⟩]
def rSlicesIndexFuncIntIntX5 : List O := [
  ⟨(some 17), none, .mv (.t 5)⟩,
  ⟨(some 4), none, .mv (.t 17)⟩]
def rSlicesIndexFuncIntIntX6 : List O := [
  ⟨(some 18), none, .bin .add (.t 8) (.k (.int .i64 1))⟩,
  ⟨(some 8), none, .mv (.t 18)⟩]
def lSlicesIndexFuncIntIntX0 : C := (.seq (.reg rSlicesIndexFuncIntIntX2 false [] [0, 1, 7, 8, 9]) (.seq (.cond (.t 9) .skip (.exit 0)) (.seq (.blk 1 (.seq (.reg rSlicesIndexFuncIntIntX3 false [] [0, 1, 5, 7, 8]) (.seq (.reg rSlicesIndexFuncIntIntX4 false [] [0, 1, 5, 7, 8, 16]) (.cond (.t 16) (.seq (.reg rSlicesIndexFuncIntIntX5 false [] [4]) .ret) .skip)))) (.reg rSlicesIndexFuncIntIntX6 false [] [0, 1, 7, 8]))))
def rSlicesIndexFuncIntIntX7 : List O := [
  ⟨(some 4), none, .mv (.k (.int .i64 (-1)))⟩]
def cSlicesIndexFuncIntInt : C := (.seq (.reg rSlicesIndexFuncIntIntX0 false [] [0, 1]) (.seq (.seq (.reg rSlicesIndexFuncIntIntX1 false [] [0, 1, 7, 8]) (.blk 0 (.loop lSlicesIndexFuncIntIntX0))) (.seq (.reg rSlicesIndexFuncIntIntX7 false [] [4]) .ret)))
def qSlicesIndexFuncIntInt : AFn := ⟨19, 2, [.t 4], cSlicesIndexFuncIntInt⟩
/- cohesion/cohesionref03.Before -/
def rRef03BeforeX0 : List O := [
  ⟨(some 2), none, .box (.t 0)⟩,
  ⟨(some 3), none, .box (.t 1)⟩,
  ⟨(some 4), none, .mv (.k (.bool false))⟩]
def rRef03BeforeX1 : List O := [
  ⟨(some 5), none, .fad 0 (.t 2)⟩,
  ⟨(some 6), none, .ld none (.t 5)⟩,
  ⟨(some 7), none, .fad 0 (.t 3)⟩,
  ⟨(some 8), none, .ld none (.t 7)⟩,
  ⟨(some 9), none, .bin .lss (.t 6) (.t 8)⟩,
  ⟨(some 10), none, .mv (.t 9)⟩,
  ⟨(some 11), (some (10, false)), .fad 0 (.t 2)⟩,
  ⟨(some 12), (some (10, false)), .ld none (.t 11)⟩,
  ⟨(some 13), (some (10, false)), .fad 0 (.t 3)⟩,
  ⟨(some 14), (some (10, false)), .ld none (.t 13)⟩,
  ⟨(some 15), (some (10, false)), .bin .eql (.t 12) (.t 14)⟩,
  ⟨(some 16), (some (10, false)), .mv (.t 15)⟩,
  ⟨(some 17), (some (16, true)), .fad 1 (.t 2)⟩,
  ⟨(some 18), (some (16, true)), .ld none (.t 17)⟩,
  ⟨(some 19), (some (16, true)), .fad 1 (.t 3)⟩,
  ⟨(some 20), (some (16, true)), .ld none (.t 19)⟩,
  ⟨(some 21), (some (16, true)), .bin .lss (.t 18) (.t 20)⟩,
  ⟨(some 22), (some (10, false)), .pick (.t 16) (.t 21) (.k (.bool false))⟩,
  ⟨(some 23), none, .pick (.t 10) (.k (.bool true)) (.t 22)⟩,
  ⟨(some 4), none, .mv (.t 23)⟩]
def cRef03Before : C := (.seq (.reg rRef03BeforeX0 false [] [2, 3]) (.seq (.reg rRef03BeforeX1 false [] [4]) .ret))
def qRef03Before : AFn := ⟨24, 2, [.t 4], cRef03Before⟩
/- cohesion/triangles.lists -/
def rTrianglesListsX0 : List O := [
  ⟨(some 1), none, .box (.t 0)⟩,
  ⟨(some 2), none, .mv (.k (.own 1 []))⟩]
def rTrianglesListsX1 : List O := [
  ⟨(some 8), none, .fad 0 (.t 1)⟩,
  ⟨(some 9), none, .ld none (.t 8)⟩,
  ⟨(some 10), none, .mks 1 [(.own 1001 [])] (.t 9) (.t 9)⟩,
  ⟨(some 3), none, .mv (.t 10)⟩]
def rTrianglesListsX2 : List O := [
  ⟨(some 11), none, .fad 1 (.t 1)⟩,
  ⟨(some 12), none, .ld none (.t 11)⟩,
  ⟨(some 13), none, .len (.t 12)⟩,
  ⟨(some 14), none, .mv (.k (.int .i64 0))⟩]
def rTrianglesListsX3 : List O := [
  ⟨(some 15), none, .bin .lss (.t 14) (.t 13)⟩]
def rTrianglesListsX4 : List O := [
  ⟨(some 16), none, .ixa 2 (.t 12) (.t 14)⟩,
  ⟨(some 17), none, .ld (some 2) (.t 16)⟩,
  ⟨(some 5), none, .new [(.int .i64 0), (.int .i64 0)]⟩,
  ⟨none, none, .st 2 (.t 5) (.t 17)⟩]
def rTrianglesListsX5 : List O := [
  ⟨(some 18), none, .mv (.t 3)⟩,
  ⟨(some 19), none, .fad 0 (.t 5)⟩,
  ⟨(some 20), none, .ld none (.t 19)⟩,
  ⟨(some 21), none, .mv (.t 3)⟩,
  ⟨(some 22), none, .fad 1 (.t 5)⟩,
  ⟨(some 23), none, .ld none (.t 22)⟩,
  ⟨(some 24), none, .mv (.t 3)⟩,
  ⟨(some 25), none, .fad 0 (.t 5)⟩,
  ⟨(some 26), none, .ld none (.t 25)⟩,
  ⟨(some 27), none, .ixa 1 (.t 24) (.t 26)⟩,
  ⟨(some 28), none, .ld none (.t 27)⟩,
  ⟨(some 29), none, .fad 1 (.t 5)⟩,
  ⟨(some 30), none, .ld none (.t 29)⟩,
  ⟨(some 31), none, .bslice 1 1 [(.int .i64 0)] [(0, 1, (.t 30))]⟩,
  ⟨(some 32), none, .app 1 (.t 28) (.t 31)⟩,
  ⟨(some 33), none, .mv (.t 3)⟩,
  ⟨(some 34), none, .fad 1 (.t 5)⟩,
  ⟨(some 35), none, .ld none (.t 34)⟩,
  ⟨(some 36), none, .ixa 1 (.t 33) (.t 35)⟩,
  ⟨(some 37), none, .ld none (.t 36)⟩,
  ⟨(some 38), none, .fad 0 (.t 5)⟩,
  ⟨(some 39), none, .ld none (.t 38)⟩,
  ⟨(some 40), none, .bslice 1 1 [(.int .i64 0)] [(0, 1, (.t 39))]⟩,
  ⟨(some 41), none, .app 1 (.t 37) (.t 40)⟩,
  ⟨(some 42), none, .ixa 1 (.t 18) (.t 20)⟩,
  ⟨none, none, .st 1 (.t 42) (.t 32)⟩,
  ⟨(some 43), none, .ixa 1 (.t 21) (.t 23)⟩,
  ⟨none, none, .st 1 (.t 43) (.t 41)⟩]
def rTrianglesListsX6 : List O := [
  ⟨(some 44), none, .bin .add (.t 14) (.k (.int .i64 1))⟩,
  ⟨(some 14), none, .mv (.t 44)⟩]
def lTrianglesListsX0 : C := (.seq (.reg rTrianglesListsX3 false [] [3, 12, 13, 14, 15]) (.seq (.cond (.t 15) .skip (.exit 0)) (.seq (.blk 1 (.seq (.reg rTrianglesListsX4 false [] [3, 5, 12, 13, 14]) (.reg rTrianglesListsX5 true [(26, 26), (27, 27), (0, 2), (2, 3), (2, 4), (0, 5), (1, 5), (2, 5), (3, 5), (2, 6), (5, 6), (2, 7), (5, 7), (0, 8), (1, 8), (2, 8), (3, 8), (4, 8), (5, 8), (6, 8), (2, 9), (5, 9), (0, 10), (1, 10), (2, 10), (3, 10), (4, 10), (5, 10), (2, 11), (5, 11), (8, 11), (10, 11), (0, 12), (1, 12), (2, 12), (3, 12), (4, 12), (5, 12), (6, 12), (7, 12), (8, 12), (9, 12), (10, 12), (0, 13), (1, 13), (2, 13), (3, 13), (4, 13), (5, 13), (6, 13), (7, 13), (8, 13), (9, 13), (10, 13), (0, 14), (1, 14), (2, 14), (3, 14), (4, 14), (5, 14), (2, 15), (5, 15), (8, 15), (10, 15), (12, 15), (13, 15), (14, 15), (2, 16), (5, 16), (8, 16), (10, 16), (12, 16), (13, 16), (14, 16), (0, 17), (1, 17), (2, 17), (3, 17), (4, 17), (5, 17), (6, 17), (7, 17), (8, 17), (9, 17), (10, 17), (11, 17), (12, 17), (13, 17), (14, 17), (15, 17), (2, 18), (5, 18), (8, 18), (10, 18), (12, 18), (13, 18), (14, 18), (0, 19), (1, 19), (2, 19), (3, 19), (4, 19), (5, 19), (6, 19), (7, 19), (8, 19), (9, 19), (10, 19), (11, 19), (12, 19), (13, 19), (14, 19), (2, 20), (5, 20), (8, 20), (10, 20), (12, 20), (13, 20), (14, 20), (17, 20), (19, 20), (0, 21), (1, 21), (2, 21), (3, 21), (4, 21), (5, 21), (6, 21), (7, 21), (8, 21), (9, 21), (10, 21), (11, 21), (12, 21), (13, 21), (14, 21), (15, 21), (16, 21), (17, 21), (18, 21), (19, 21), (0, 22), (1, 22), (2, 22), (3, 22), (4, 22), (5, 22), (6, 22), (7, 22), (8, 22), (9, 22), (10, 22), (11, 22), (12, 22), (13, 22), (14, 22), (15, 22), (16, 22), (17, 22), (18, 22), (19, 22), (0, 23), (1, 23), (2, 23), (3, 23), (4, 23), (5, 23), (5, 24), (3, 25), (4, 25), (5, 25)] [3, 12, 13, 14]))) (.reg rTrianglesListsX6 false [] [3, 12, 13, 14]))))
def rTrianglesListsX7 : List O := [
  ⟨(some 45), none, .mv (.t 3)⟩,
  ⟨(some 46), none, .len (.t 45)⟩,
  ⟨(some 47), none, .mv (.k (.int .i64 0))⟩]
def rTrianglesListsX8 : List O := [
  ⟨(some 48), none, .bin .lss (.t 47) (.t 46)⟩]
def rTrianglesListsX9 : List O := [
  ⟨(some 49), none, .ixa 1 (.t 45) (.t 47)⟩,
  ⟨(some 50), none, .ld none (.t 49)⟩,
  ⟨(some 7), none, .mv (.t 50)⟩]
def rTrianglesListsX10 : List O := [
  ⟨(some 51), none, .mv (.t 7)⟩,
  ⟨(some 52), none, .call nSlicesSortIntInt [(.t 51)]⟩]
def rTrianglesListsX11 : List O := [
  ⟨(some 53), none, .bin .add (.t 47) (.k (.int .i64 1))⟩,
  ⟨(some 47), none, .mv (.t 53)⟩]
def lTrianglesListsX1 : C := (.seq (.reg rTrianglesListsX8 false [] [3, 45, 46, 47, 48]) (.seq (.cond (.t 48) .skip (.exit 2)) (.seq (.blk 3 (.seq (.reg rTrianglesListsX9 false [] [3, 7, 45, 46, 47]) (.reg rTrianglesListsX10 false [] [3, 45, 46, 47]))) (.reg rTrianglesListsX11 false [] [3, 45, 46, 47]))))
def rTrianglesListsX12 : List O := [
  ⟨(some 54), none, .mv (.t 3)⟩,
  ⟨(some 2), none, .mv (.t 54)⟩]
def cTrianglesLists : C := (.seq (.reg rTrianglesListsX0 false [] [1]) (.seq (.reg rTrianglesListsX1 false [] [1, 3]) (.seq (.seq (.reg rTrianglesListsX2 false [] [3, 12, 13, 14]) (.blk 0 (.loop lTrianglesListsX0))) (.seq (.seq (.reg rTrianglesListsX7 false [] [3, 45, 46, 47]) (.blk 2 (.loop lTrianglesListsX1))) (.seq (.reg rTrianglesListsX12 false [] [2]) .ret)))))
def qTrianglesLists : AFn := ⟨55, 1, [.t 2], cTrianglesLists⟩
/- cohesion/triangles.shared[int] -/
def rTrianglesSharedIntX0 : List O := [
  ⟨(some 4), none, .mv (.k (.own 1 []))⟩]
def rTrianglesSharedIntX1 : List O := [
  ⟨(some 5), none, .mv (.k (.own 1 []))⟩]
def rTrianglesSharedIntX2 : List O := [
  ⟨(some 6), none, .mv (.t 0)⟩,
  ⟨(some 7), none, .len (.t 6)⟩,
  ⟨(some 8), none, .bin .gtr (.t 7) (.k (.int .i64 0))⟩,
  ⟨(some 9), none, .mv (.t 8)⟩,
  ⟨(some 10), (some (9, true)), .mv (.t 1)⟩,
  ⟨(some 11), (some (9, true)), .len (.t 10)⟩,
  ⟨(some 12), (some (9, true)), .bin .gtr (.t 11) (.k (.int .i64 0))⟩,
  ⟨(some 13), none, .pick (.t 9) (.t 12) (.k (.bool false))⟩]
def rTrianglesSharedIntX3 : List O := [
  ⟨(some 14), none, .mv (.t 0)⟩,
  ⟨(some 15), none, .ixa 1 (.t 14) (.k (.int .i64 0))⟩,
  ⟨(some 16), none, .ld none (.t 15)⟩,
  ⟨(some 17), none, .mv (.t 1)⟩,
  ⟨(some 18), none, .ixa 1 (.t 17) (.k (.int .i64 0))⟩,
  ⟨(some 19), none, .ld none (.t 18)⟩,
  ⟨(some 20), none, .call nCmpCompareInt [(.t 16), (.t 19)]⟩]
def rTrianglesSharedIntX4 : List O := [
  ⟨(some 32), none, .bin .eql (.t 20) (.k (.int .i64 (-1)))⟩,
  ⟨(some 31), none, .mv (.t 32)⟩]
def rTrianglesSharedIntX5 : List O := [
  ⟨(some 33), none, .mv (.t 0)⟩,
  ⟨(some 34), none, .slc 1 (.t 33) (some (.k (.int .i64 1))) none⟩,
  ⟨(some 0), none, .mv (.t 34)⟩]
def rTrianglesSharedIntX6 : List O := [
  ⟨(some 36), none, .bin .eql (.t 20) (.k (.int .i64 1))⟩,
  ⟨(some 35), none, .mv (.t 36)⟩]
def rTrianglesSharedIntX7 : List O := [
  ⟨(some 37), none, .mv (.t 1)⟩,
  ⟨(some 38), none, .slc 1 (.t 37) (some (.k (.int .i64 1))) none⟩,
  ⟨(some 1), none, .mv (.t 38)⟩]
def rTrianglesSharedIntX8 : List O := [
  ⟨(some 21), none, .mv (.t 5)⟩,
  ⟨(some 22), none, .mv (.t 0)⟩,
  ⟨(some 23), none, .ixa 1 (.t 22) (.k (.int .i64 0))⟩,
  ⟨(some 24), none, .ld none (.t 23)⟩,
  ⟨(some 25), none, .bslice 1 1 [(.int .i64 0)] [(0, 1, (.t 24))]⟩,
  ⟨(some 26), none, .app 1 (.t 21) (.t 25)⟩,
  ⟨(some 5), none, .mv (.t 26)⟩]
def rTrianglesSharedIntX9 : List O := [
  ⟨(some 27), none, .mv (.t 0)⟩,
  ⟨(some 28), none, .slc 1 (.t 27) (some (.k (.int .i64 1))) none⟩,
  ⟨(some 29), none, .mv (.t 1)⟩,
  ⟨(some 30), none, .slc 1 (.t 29) (some (.k (.int .i64 1))) none⟩,
  ⟨(some 0), none, .mv (.t 28)⟩,
  ⟨(some 1), none, .mv (.t 30)⟩]
def lTrianglesSharedIntX0 : C := (.seq (.seq (.reg rTrianglesSharedIntX2 false [] [0, 1, 5, 13]) (.cond (.t 13) .skip (.exit 0))) (.blk 1 (.seq (.reg rTrianglesSharedIntX3 true [(6, 6), (2, 3), (2, 4), (0, 5), (1, 5), (2, 5)] [0, 1, 5, 20]) (.blk 2 (.seq (.reg rTrianglesSharedIntX4 false [] [0, 1, 5, 20, 31]) (.cond (.t 31) (.reg rTrianglesSharedIntX5 false [] [0, 1, 5]) (.seq (.reg rTrianglesSharedIntX6 false [] [0, 1, 5, 35]) (.cond (.t 35) (.reg rTrianglesSharedIntX7 false [] [0, 1, 5]) (.seq (.reg rTrianglesSharedIntX8 false [] [0, 1, 5]) (.reg rTrianglesSharedIntX9 true [(5, 5)] [0, 1, 5]))))))))))
def rTrianglesSharedIntX10 : List O := [
  ⟨(some 39), none, .mv (.t 5)⟩,
  ⟨(some 4), none, .mv (.t 39)⟩]
def cTrianglesSharedInt : C := (.seq (.reg rTrianglesSharedIntX0 false [] [0, 1]) (.seq (.reg rTrianglesSharedIntX1 false [] [0, 1, 5]) (.seq (.blk 0 (.loop lTrianglesSharedIntX0)) (.seq (.reg rTrianglesSharedIntX10 false [] [4]) .ret))))
def qTrianglesSharedInt : AFn := ⟨40, 2, [.t 4], cTrianglesSharedInt⟩
/- cohesion/cohesionref02.Meet -/
def rRef02MeetX0 : List O := [
  ⟨(some 4), none, .mv (.k (.own 1 []))⟩]
def rRef02MeetX1 : List O := [
  ⟨(some 5), none, .mv (.k (.own 1 []))⟩]
def rRef02MeetX2 : List O := [
  ⟨(some 8), none, .mv (.t 0)⟩,
  ⟨(some 9), none, .call nRef02Of [(.t 8)]⟩,
  ⟨(some 10), none, .len (.t 9)⟩,
  ⟨(some 11), none, .mv (.k (.int .i64 0))⟩]
def rRef02MeetX3 : List O := [
  ⟨(some 12), none, .bin .lss (.t 11) (.t 10)⟩]
def rRef02MeetX4 : List O := [
  ⟨(some 13), none, .ixa 1 (.t 9) (.t 11)⟩,
  ⟨(some 14), none, .ld none (.t 13)⟩,
  ⟨(some 7), none, .mv (.t 14)⟩]
def rRef02MeetX5 : List O := [
  ⟨(some 15), none, .mv (.t 1)⟩,
  ⟨(some 16), none, .mv (.t 7)⟩,
  ⟨(some 17), none, .call nRef02Has [(.t 15), (.t 16)]⟩]
def rRef02MeetX6 : List O := [
  ⟨(some 18), none, .mv (.t 5)⟩,
  ⟨(some 19), none, .mv (.t 7)⟩,
  ⟨(some 20), none, .bslice 1 1 [(.int .i64 0)] [(0, 1, (.t 19))]⟩,
  ⟨(some 21), none, .app 1 (.t 18) (.t 20)⟩,
  ⟨(some 5), none, .mv (.t 21)⟩]
def rRef02MeetX7 : List O := [
  ⟨(some 22), none, .bin .add (.t 11) (.k (.int .i64 1))⟩,
  ⟨(some 11), none, .mv (.t 22)⟩]
def lRef02MeetX0 : C := (.seq (.reg rRef02MeetX3 false [] [1, 5, 9, 10, 11, 12]) (.seq (.cond (.t 12) .skip (.exit 0)) (.seq (.blk 1 (.seq (.reg rRef02MeetX4 false [] [1, 5, 7, 9, 10, 11]) (.seq (.reg rRef02MeetX5 false [] [1, 5, 7, 9, 10, 11, 17]) (.cond (.t 17) (.reg rRef02MeetX6 false [] [1, 5, 9, 10, 11]) .skip)))) (.reg rRef02MeetX7 false [] [1, 5, 9, 10, 11]))))
def rRef02MeetX8 : List O := [
  ⟨(some 23), none, .mv (.t 5)⟩,
  ⟨(some 4), none, .mv (.t 23)⟩]
def cRef02Meet : C := (.seq (.reg rRef02MeetX0 false [] [0, 1]) (.seq (.reg rRef02MeetX1 false [] [0, 1, 5]) (.seq (.seq (.reg rRef02MeetX2 false [] [1, 5, 9, 10, 11]) (.blk 0 (.loop lRef02MeetX0))) (.seq (.reg rRef02MeetX8 false [] [4]) .ret))))
def qRef02Meet : AFn := ⟨24, 2, [.t 4], cRef02Meet⟩
/- cohesion/cohesionref03.Neighbours -/
def rRef03NeighboursX0 : List O := [
  ⟨(some 2), none, .box (.t 0)⟩,
  ⟨(some 4), none, .mv (.k (.own 1 []))⟩]
def rRef03NeighboursX1 : List O := [
  ⟨(some 8), none, .ld (some 2) (.t 2)⟩,
  ⟨(some 9), none, .call nRef03Check [(.t 8)]⟩,
  ⟨(some 10), none, .bin .neq (.t 9) (.k (.int .i64 0))⟩]
def rRef03NeighboursX2 : List O := [
  ⟨(some 4), none, .mv (.k (.own 1 []))⟩]
def rRef03NeighboursX3 : List O := [
  ⟨(some 5), none, .mv (.k (.own 1 []))⟩]
def rRef03NeighboursX4 : List O := [
  ⟨(some 11), none, .fad 1 (.t 2)⟩,
  ⟨(some 12), none, .ld none (.t 11)⟩,
  ⟨(some 13), none, .len (.t 12)⟩,
  ⟨(some 14), none, .mv (.k (.int .i64 0))⟩]
def rRef03NeighboursX5 : List O := [
  ⟨(some 15), none, .bin .lss (.t 14) (.t 13)⟩]
def rRef03NeighboursX6 : List O := [
  ⟨(some 16), none, .ixa 2 (.t 12) (.t 14)⟩,
  ⟨(some 17), none, .ld (some 2) (.t 16)⟩,
  ⟨(some 7), none, .new [(.int .i64 0), (.int .i64 0)]⟩,
  ⟨none, none, .st 2 (.t 7) (.t 17)⟩]
def rRef03NeighboursX7 : List O := [
  ⟨(some 18), none, .fad 0 (.t 7)⟩,
  ⟨(some 19), none, .ld none (.t 18)⟩,
  ⟨(some 20), none, .mv (.t 1)⟩,
  ⟨(some 21), none, .bin .eql (.t 19) (.t 20)⟩]
def rRef03NeighboursX8 : List O := [
  ⟨(some 22), none, .mv (.t 5)⟩,
  ⟨(some 23), none, .fad 1 (.t 7)⟩,
  ⟨(some 24), none, .ld none (.t 23)⟩,
  ⟨(some 25), none, .bslice 1 1 [(.int .i64 0)] [(0, 1, (.t 24))]⟩,
  ⟨(some 26), none, .app 1 (.t 22) (.t 25)⟩,
  ⟨(some 5), none, .mv (.t 26)⟩]
def rRef03NeighboursX9 : List O := [
  ⟨(some 27), none, .fad 1 (.t 7)⟩,
  ⟨(some 28), none, .ld none (.t 27)⟩,
  ⟨(some 29), none, .mv (.t 1)⟩,
  ⟨(some 30), none, .bin .eql (.t 28) (.t 29)⟩]
def rRef03NeighboursX10 : List O := [
  ⟨(some 31), none, .mv (.t 5)⟩,
  ⟨(some 32), none, .fad 0 (.t 7)⟩,
  ⟨(some 33), none, .ld none (.t 32)⟩,
  ⟨(some 34), none, .bslice 1 1 [(.int .i64 0)] [(0, 1, (.t 33))]⟩,
  ⟨(some 35), none, .app 1 (.t 31) (.t 34)⟩,
  ⟨(some 5), none, .mv (.t 35)⟩]
def rRef03NeighboursX11 : List O := [
  ⟨(some 36), none, .bin .add (.t 14) (.k (.int .i64 1))⟩,
  ⟨(some 14), none, .mv (.t 36)⟩]
def lRef03NeighboursX0 : C := (.seq (.reg rRef03NeighboursX5 false [] [1, 5, 12, 13, 14, 15]) (.seq (.cond (.t 15) .skip (.exit 0)) (.seq (.blk 1 (.seq (.reg rRef03NeighboursX6 false [] [1, 5, 7, 12, 13, 14]) (.seq (.seq (.reg rRef03NeighboursX7 false [] [1, 5, 7, 12, 13, 14, 21]) (.cond (.t 21) (.reg rRef03NeighboursX8 false [] [1, 5, 7, 12, 13, 14]) .skip)) (.seq (.reg rRef03NeighboursX9 false [] [1, 5, 7, 12, 13, 14, 30]) (.cond (.t 30) (.reg rRef03NeighboursX10 false [] [1, 5, 12, 13, 14]) .skip))))) (.reg rRef03NeighboursX11 false [] [1, 5, 12, 13, 14]))))
def rRef03NeighboursX12 : List O := [
  ⟨(some 37), none, .mv (.t 5)⟩,
  ⟨(some 38), none, .call nRef02Of [(.t 37)]⟩,
  ⟨(some 4), none, .mv (.t 38)⟩]
def cRef03Neighbours : C := (.seq (.reg rRef03NeighboursX0 false [] [1, 2]) (.seq (.seq (.reg rRef03NeighboursX1 false [] [1, 2, 10]) (.cond (.t 10) (.seq (.reg rRef03NeighboursX2 false [] [4]) .ret) .skip)) (.seq (.reg rRef03NeighboursX3 false [] [1, 2, 5]) (.seq (.seq (.reg rRef03NeighboursX4 false [] [1, 5, 12, 13, 14]) (.blk 0 (.loop lRef03NeighboursX0))) (.seq (.reg rRef03NeighboursX12 false [] [4]) .ret)))))
def qRef03Neighbours : AFn := ⟨39, 2, [.t 4], cRef03Neighbours⟩
/- cmp.Or[int] -/
def rCmpOrIntX0 : List O := [
  ⟨(some 2), none, .mv (.k (.int .i64 0))⟩]
def rCmpOrIntX1 : List O := [
  ⟨(some 3), none, .mv (.k (.int .i64 0))⟩]
def rCmpOrIntX2 : List O := [
  ⟨(some 6), none, .mv (.t 0)⟩,
  ⟨(some 7), none, .len (.t 6)⟩,
  ⟨(some 8), none, .mv (.k (.int .i64 0))⟩]
def rCmpOrIntX3 : List O := [
  ⟨(some 9), none, .bin .lss (.t 8) (.t 7)⟩]
def rCmpOrIntX4 : List O := [
  ⟨(some 10), none, .ixa 1 (.t 6) (.t 8)⟩,
  ⟨(some 11), none, .ld none (.t 10)⟩,
  ⟨(some 5), none, .mv (.t 11)⟩]
def rCmpOrIntX5 : List O := [
  ⟨(some 12), none, .mv (.t 5)⟩,
  ⟨(some 13), none, .mv (.t 3)⟩,
  ⟨(some 14), none, .bin .neq (.t 12) (.t 13)⟩]
def rCmpOrIntX6 : List O := [
  ⟨(some 15), none, .mv (.t 5)⟩,
  ⟨(some 2), none, .mv (.t 15)⟩]
def rCmpOrIntX7 : List O := [
  ⟨(some 16), none, .bin .add (.t 8) (.k (.int .i64 1))⟩,
  ⟨(some 8), none, .mv (.t 16)⟩]
def lCmpOrIntX0 : C := (.seq (.reg rCmpOrIntX3 false [] [3, 6, 7, 8, 9]) (.seq (.cond (.t 9) .skip (.exit 0)) (.seq (.blk 1 (.seq (.reg rCmpOrIntX4 false [] [3, 5, 6, 7, 8]) (.seq (.reg rCmpOrIntX5 false [] [3, 5, 6, 7, 8, 14]) (.cond (.t 14) (.seq (.reg rCmpOrIntX6 false [] [2]) .ret) .skip)))) (.reg rCmpOrIntX7 false [] [3, 6, 7, 8]))))
def rCmpOrIntX8 : List O := [
  ⟨(some 17), none, .mv (.t 3)⟩,
  ⟨(some 2), none, .mv (.t 17)⟩]
def cCmpOrInt : C := (.seq (.reg rCmpOrIntX0 false [] [0]) (.seq (.reg rCmpOrIntX1 false [] [0, 3]) (.seq (.seq (.reg rCmpOrIntX2 false [] [3, 6, 7, 8]) (.blk 0 (.loop lCmpOrIntX0))) (.seq (.reg rCmpOrIntX8 false [] [2]) .ret))))
def qCmpOrInt : AFn := ⟨18, 1, [.t 2], cCmpOrInt⟩
/- cmp.Compare[int] -/
def rCmpCompareIntX0 : List O := [
  ⟨(some 4), none, .mv (.k (.int .i64 0))⟩]
def rCmpCompareIntX1 : List O := [
  ⟨(some 7), none, .mv (.t 0)⟩,
  ⟨(some 8), none, .call nCmpIsNaNInt [(.t 7)]⟩,
  ⟨(some 5), none, .mv (.t 8)⟩]
def rCmpCompareIntX2 : List O := [
  ⟨(some 9), none, .mv (.t 1)⟩,
  ⟨(some 10), none, .call nCmpIsNaNInt [(.t 9)]⟩,
  ⟨(some 6), none, .mv (.t 10)⟩]
def rCmpCompareIntX3 : List O := [
  ⟨(some 11), none, .mv (.t 5)⟩]
def rCmpCompareIntX4 : List O := [
  ⟨(some 12), none, .mv (.t 6)⟩]
def rCmpCompareIntX5 : List O := [
  ⟨(some 4), none, .mv (.k (.int .i64 0))⟩]
def rCmpCompareIntX6 : List O := [
  ⟨(some 4), none, .mv (.k (.int .i64 (-1)))⟩]
def rCmpCompareIntX7 : List O := [
  ⟨(some 13), none, .mv (.t 6)⟩]
def rCmpCompareIntX8 : List O := [
  ⟨(some 4), none, .mv (.k (.int .i64 1))⟩]
def rCmpCompareIntX9 : List O := [
  ⟨(some 14), none, .mv (.t 0)⟩,
  ⟨(some 15), none, .mv (.t 1)⟩,
  ⟨(some 16), none, .bin .lss (.t 14) (.t 15)⟩]
def rCmpCompareIntX10 : List O := [
  ⟨(some 4), none, .mv (.k (.int .i64 (-1)))⟩]
def rCmpCompareIntX11 : List O := [
  ⟨(some 17), none, .mv (.t 0)⟩,
  ⟨(some 18), none, .mv (.t 1)⟩,
  ⟨(some 19), none, .bin .gtr (.t 17) (.t 18)⟩]
def rCmpCompareIntX12 : List O := [
  ⟨(some 4), none, .mv (.k (.int .i64 1))⟩]
def rCmpCompareIntX13 : List O := [
  ⟨(some 4), none, .mv (.k (.int .i64 0))⟩]
def cCmpCompareInt : C := (.seq (.reg rCmpCompareIntX0 false [] [0, 1]) (.seq (.reg rCmpCompareIntX1 false [] [0, 1, 5]) (.seq (.reg rCmpCompareIntX2 false [] [0, 1, 5, 6]) (.seq (.seq (.reg rCmpCompareIntX3 false [] [0, 1, 6, 11]) (.cond (.t 11) (.seq (.seq (.reg rCmpCompareIntX4 false [] [12]) (.cond (.t 12) (.seq (.reg rCmpCompareIntX5 false [] [4]) .ret) .skip)) (.seq (.reg rCmpCompareIntX6 false [] [4]) .ret)) .skip)) (.seq (.seq (.reg rCmpCompareIntX7 false [] [0, 1, 13]) (.cond (.t 13) (.seq (.reg rCmpCompareIntX8 false [] [4]) .ret) .skip)) (.seq (.seq (.reg rCmpCompareIntX9 false [] [0, 1, 16]) (.cond (.t 16) (.seq (.reg rCmpCompareIntX10 false [] [4]) .ret) .skip)) (.seq (.seq (.reg rCmpCompareIntX11 false [] [19]) (.cond (.t 19) (.seq (.reg rCmpCompareIntX12 false [] [4]) .ret) .skip)) (.seq (.reg rCmpCompareIntX13 false [] [4]) .ret))))))))
def qCmpCompareInt : AFn := ⟨20, 2, [.t 4], cCmpCompareInt⟩
/- cohesion/cohesionref02.Of -/
def rRef02OfX0 : List O := [
  ⟨(some 2), none, .mv (.k (.own 1 []))⟩]
def rRef02OfX1 : List O := [
  ⟨(some 3), none, .mv (.k (.own 1 []))⟩]
def rRef02OfX2 : List O := [
  ⟨(some 6), none, .mv (.t 0)⟩,
  ⟨(some 7), none, .len (.t 6)⟩,
  ⟨(some 8), none, .mv (.k (.int .i64 0))⟩]
def rRef02OfX3 : List O := [
  ⟨(some 9), none, .bin .lss (.t 8) (.t 7)⟩]
def rRef02OfX4 : List O := [
  ⟨(some 10), none, .ixa 1 (.t 6) (.t 8)⟩,
  ⟨(some 11), none, .ld none (.t 10)⟩,
  ⟨(some 5), none, .mv (.t 11)⟩]
def rRef02OfX5 : List O := [
  ⟨(some 12), none, .mv (.t 3)⟩,
  ⟨(some 13), none, .mv (.t 5)⟩,
  ⟨(some 14), none, .call nRef02Put [(.t 12), (.t 13)]⟩,
  ⟨(some 3), none, .mv (.t 14)⟩]
def rRef02OfX6 : List O := [
  ⟨(some 15), none, .bin .add (.t 8) (.k (.int .i64 1))⟩,
  ⟨(some 8), none, .mv (.t 15)⟩]
def lRef02OfX0 : C := (.seq (.reg rRef02OfX3 false [] [3, 6, 7, 8, 9]) (.seq (.cond (.t 9) .skip (.exit 0)) (.seq (.blk 1 (.seq (.reg rRef02OfX4 false [] [3, 5, 6, 7, 8]) (.reg rRef02OfX5 false [] [3, 6, 7, 8]))) (.reg rRef02OfX6 false [] [3, 6, 7, 8]))))
def rRef02OfX7 : List O := [
  ⟨(some 16), none, .mv (.t 3)⟩,
  ⟨(some 2), none, .mv (.t 16)⟩]
def cRef02Of : C := (.seq (.reg rRef02OfX0 false [] [0]) (.seq (.reg rRef02OfX1 false [] [0, 3]) (.seq (.seq (.reg rRef02OfX2 false [] [3, 6, 7, 8]) (.blk 0 (.loop lRef02OfX0))) (.seq (.reg rRef02OfX7 false [] [2]) .ret))))
def qRef02Of : AFn := ⟨17, 1, [.t 2], cRef02Of⟩
/- cohesion/cohesionref02.Has -/
def rRef02HasX0 : List O := [
  ⟨(some 4), none, .mv (.k (.bool false))⟩]
def rRef02HasX1 : List O := [
  ⟨(some 7), none, .mv (.t 0)⟩,
  ⟨(some 8), none, .len (.t 7)⟩,
  ⟨(some 9), none, .mv (.k (.int .i64 0))⟩]
def rRef02HasX2 : List O := [
  ⟨(some 10), none, .bin .lss (.t 9) (.t 8)⟩]
def rRef02HasX3 : List O := [
  ⟨(some 11), none, .ixa 1 (.t 7) (.t 9)⟩,
  ⟨(some 12), none, .ld none (.t 11)⟩,
  ⟨(some 6), none, .mv (.t 12)⟩]
def rRef02HasX4 : List O := [
  ⟨(some 13), none, .mv (.t 6)⟩,
  ⟨(some 14), none, .mv (.t 1)⟩,
  ⟨(some 15), none, .bin .eql (.t 13) (.t 14)⟩]
def rRef02HasX5 : List O := [
  ⟨(some 4), none, .mv (.k (.bool true))⟩]
def rRef02HasX6 : List O := [
  ⟨(some 16), none, .bin .add (.t 9) (.k (.int .i64 1))⟩,
  ⟨(some 9), none, .mv (.t 16)⟩]
def lRef02HasX0 : C := (.seq (.reg rRef02HasX2 false [] [1, 7, 8, 9, 10]) (.seq (.cond (.t 10) .skip (.exit 0)) (.seq (.blk 1 (.seq (.reg rRef02HasX3 false [] [1, 6, 7, 8, 9]) (.seq (.reg rRef02HasX4 false [] [1, 7, 8, 9, 15]) (.cond (.t 15) (.seq (.reg rRef02HasX5 false [] [4]) .ret) .skip)))) (.reg rRef02HasX6 false [] [1, 7, 8, 9]))))
def rRef02HasX7 : List O := [
  ⟨(some 4), none, .mv (.k (.bool false))⟩]
def cRef02Has : C := (.seq (.reg rRef02HasX0 false [] [0, 1]) (.seq (.seq (.reg rRef02HasX1 false [] [1, 7, 8, 9]) (.blk 0 (.loop lRef02HasX0))) (.seq (.reg rRef02HasX7 false [] [4]) .ret)))
def qRef02Has : AFn := ⟨17, 2, [.t 4], cRef02Has⟩
/- cmp.isNaN[int] -/
def rCmpIsNaNIntX0 : List O := [
  ⟨(some 2), none, .mv (.k (.bool false))⟩]
def rCmpIsNaNIntX1 : List O := [
  ⟨(some 3), none, .mv (.t 0)⟩,
  ⟨(some 4), none, .mv (.t 0)⟩,
  ⟨(some 5), none, .bin .neq (.t 3) (.t 4)⟩,
  ⟨(some 2), none, .mv (.t 5)⟩]
def cCmpIsNaNInt : C := (.seq (.reg rCmpIsNaNIntX0 false [] [0]) (.seq (.reg rCmpIsNaNIntX1 false [] [2]) .ret))
def qCmpIsNaNInt : AFn := ⟨6, 1, [.t 2], cCmpIsNaNInt⟩
/- cohesion/cohesionref02.put -/
def rRef02PutX0 : List O := [
  ⟨(some 4), none, .mv (.k (.own 1 []))⟩]
def rRef02PutX1 : List O := [
  ⟨(some 5), none, .mv (.k (.int .i64 0))⟩]
def rRef02PutX2 : List O := [
  ⟨(some 7), none, .mv (.t 5)⟩,
  ⟨(some 8), none, .mv (.t 0)⟩,
  ⟨(some 9), none, .len (.t 8)⟩,
  ⟨(some 10), none, .bin .lss (.t 7) (.t 9)⟩,
  ⟨(some 11), none, .mv (.t 10)⟩,
  ⟨(some 12), (some (11, true)), .mv (.t 0)⟩,
  ⟨(some 13), (some (11, true)), .mv (.t 5)⟩,
  ⟨(some 14), (some (11, true)), .ixa 1 (.t 12) (.t 13)⟩,
  ⟨(some 15), (some (11, true)), .ld none (.t 14)⟩,
  ⟨(some 16), (some (11, true)), .mv (.t 1)⟩,
  ⟨(some 17), (some (11, true)), .bin .lss (.t 15) (.t 16)⟩,
  ⟨(some 18), none, .pick (.t 11) (.t 17) (.k (.bool false))⟩]
def rRef02PutX3 : List O := [
  ⟨(some 19), none, .mv (.t 5)⟩,
  ⟨(some 20), none, .bin .add (.t 19) (.k (.int .i64 1))⟩,
  ⟨(some 5), none, .mv (.t 20)⟩]
def lRef02PutX0 : C := (.seq (.seq (.reg rRef02PutX2 false [] [0, 1, 5, 18]) (.cond (.t 18) .skip (.exit 0))) (.blk 1 (.reg rRef02PutX3 false [] [0, 1, 5])))
def rRef02PutX4 : List O := [
  ⟨(some 21), none, .mv (.t 5)⟩,
  ⟨(some 22), none, .mv (.t 0)⟩,
  ⟨(some 23), none, .len (.t 22)⟩,
  ⟨(some 24), none, .bin .lss (.t 21) (.t 23)⟩,
  ⟨(some 25), none, .mv (.t 24)⟩,
  ⟨(some 26), (some (25, true)), .mv (.t 0)⟩,
  ⟨(some 27), (some (25, true)), .mv (.t 5)⟩,
  ⟨(some 28), (some (25, true)), .ixa 1 (.t 26) (.t 27)⟩,
  ⟨(some 29), (some (25, true)), .ld none (.t 28)⟩,
  ⟨(some 30), (some (25, true)), .mv (.t 1)⟩,
  ⟨(some 31), (some (25, true)), .bin .eql (.t 29) (.t 30)⟩,
  ⟨(some 32), none, .pick (.t 25) (.t 31) (.k (.bool false))⟩]
def rRef02PutX5 : List O := [
  ⟨(some 33), none, .mv (.t 0)⟩,
  ⟨(some 4), none, .mv (.t 33)⟩]
def rRef02PutX6 : List O := [
  ⟨(some 34), none, .mv (.t 0)⟩,
  ⟨(some 35), none, .mv (.t 5)⟩,
  ⟨(some 36), none, .slc 1 (.t 34) none (some (.t 35))⟩,
  ⟨(some 37), none, .app 1 (.k (.own 1 [])) (.t 36)⟩,
  ⟨(some 6), none, .mv (.t 37)⟩]
def rRef02PutX7 : List O := [
  ⟨(some 38), none, .mv (.t 6)⟩,
  ⟨(some 39), none, .mv (.t 1)⟩,
  ⟨(some 40), none, .bslice 1 1 [(.int .i64 0)] [(0, 1, (.t 39))]⟩,
  ⟨(some 41), none, .app 1 (.t 38) (.t 40)⟩,
  ⟨(some 42), none, .mv (.t 0)⟩,
  ⟨(some 43), none, .mv (.t 5)⟩,
  ⟨(some 44), none, .slc 1 (.t 42) (some (.t 43)) none⟩,
  ⟨(some 45), none, .app 1 (.t 41) (.t 44)⟩,
  ⟨(some 4), none, .mv (.t 45)⟩]
def cRef02Put : C := (.seq (.reg rRef02PutX0 false [] [0, 1]) (.seq (.reg rRef02PutX1 false [] [0, 1, 5]) (.seq (.blk 0 (.loop lRef02PutX0)) (.seq (.seq (.reg rRef02PutX4 false [] [0, 1, 5, 32]) (.cond (.t 32) (.seq (.reg rRef02PutX5 false [] [4]) .ret) .skip)) (.seq (.reg rRef02PutX6 false [] [0, 1, 5, 6]) (.seq (.reg rRef02PutX7 true [(7, 7), (8, 8), (0, 2), (2, 4), (3, 4), (2, 5), (3, 5), (2, 6), (3, 6)] [4]) .ret))))))
def qRef02Put : AFn := ⟨46, 2, [.t 4], cRef02Put⟩
abbrev Md := Go.Bm.Md
abbrev Cfg := Go.Bm.Cfg
def look : List (Nat × Md × AFn) → Nat → Option (Md × AFn)
  | [], _ => none
  | (j, m, q) :: r, i => if i = j then some (m, q) else look r i
def fns : List (Nat × Md × AFn) := [
  (nLaw33SampleColours, ⟨false, false, true⟩, qLaw33SampleColours),
  (nLaw33SampleEdges, ⟨false, false, true⟩, qLaw33SampleEdges),
  (nLaw33SampleParts, ⟨false, false, true⟩, qLaw33SampleParts),
  (nMakeFew, ⟨false, false, true⟩, qMakeFew),
  (nLaw33Awake, ⟨false, false, true⟩, qLaw33Awake),
  (nMakeGraph, ⟨true, false, false⟩, qMakeGraph),
  (nMakeNew, ⟨true, false, false⟩, qMakeNew),
  (nSampleByColours, ⟨false, false, true⟩, qSampleByColours),
  (nRef29Count, ⟨false, false, true⟩, qRef29Count),
  (nSampleReservoir, ⟨false, false, false⟩, qSampleReservoir),
  (nSampleByEdges, ⟨false, false, true⟩, qSampleByEdges),
  (nFieldNumbers, ⟨true, false, false⟩, qFieldNumbers),
  (nSampleMono, ⟨false, false, false⟩, qSampleMono),
  (nRef03Find, ⟨false, false, true⟩, qRef03Find),
  (nRef02Cmp, ⟨false, false, true⟩, qRef02Cmp),
  (nMakeDeckNext, ⟨true, false, false⟩, qMakeDeckNext),
  (nTrianglesCount, ⟨false, false, true⟩, qTrianglesCount),
  (nRef29Nodes, ⟨false, false, false⟩, qRef29Nodes),
  (nSlicesSortIntInt, ⟨false, false, true⟩, qSlicesSortIntInt),
  (nSampleKeep, ⟨false, false, false⟩, qSampleKeep),
  (nGraphCheck, ⟨false, false, true⟩, qGraphCheck),
  (nSlicesContainsFuncIntInt, ⟨true, false, false⟩, qSlicesContainsFuncIntInt),
  (nSampleMono1, ⟨true, false, false⟩, qSampleMono1),
  (nSampleSome, ⟨true, false, false⟩, qSampleSome),
  (nSampleMono2, ⟨true, false, false⟩, qSampleMono2),
  (nRef03Check, ⟨false, false, true⟩, qRef03Check),
  (nRef03Edge, ⟨false, false, false⟩, qRef03Edge),
  (nMakeMod, ⟨false, false, true⟩, qMakeMod),
  (nTrianglesCounts, ⟨false, false, false⟩, qTrianglesCounts),
  (nRef03Common, ⟨false, false, false⟩, qRef03Common),
  (nSampleKeep1, ⟨true, false, false⟩, qSampleKeep1),
  (nGraphOrder, ⟨false, false, true⟩, qGraphOrder),
  (nSlicesIndexFuncIntInt, ⟨true, false, false⟩, qSlicesIndexFuncIntInt),
  (nRef03Before, ⟨false, false, true⟩, qRef03Before),
  (nTrianglesLists, ⟨false, false, false⟩, qTrianglesLists),
  (nTrianglesSharedInt, ⟨false, false, false⟩, qTrianglesSharedInt),
  (nRef02Meet, ⟨false, false, false⟩, qRef02Meet),
  (nRef03Neighbours, ⟨false, false, false⟩, qRef03Neighbours),
  (nCmpOrInt, ⟨false, false, true⟩, qCmpOrInt),
  (nCmpCompareInt, ⟨false, false, true⟩, qCmpCompareInt),
  (nRef02Of, ⟨false, false, false⟩, qRef02Of),
  (nRef02Has, ⟨false, false, true⟩, qRef02Has),
  (nCmpIsNaNInt, ⟨false, false, true⟩, qCmpIsNaNInt),
  (nRef02Put, ⟨false, false, false⟩, qRef02Put)]
def cfg : Cfg := ⟨look fns, fun _ => [], fun _ => none, fun _ => none⟩
theorem kLaw33SampleColours : chkFB Go.Proofs.Try.prog Go.Proofs.Try.f3 qLaw33SampleColours = true := by kernel_rfl
theorem kLaw33SampleEdges : chkFB Go.Proofs.Try.prog Go.Proofs.Try.f5 qLaw33SampleEdges = true := by kernel_rfl
theorem kLaw33SampleParts : chkFB Go.Proofs.Try.prog Go.Proofs.Try.f6 qLaw33SampleParts = true := by kernel_rfl
theorem kMakeFew : chkFB Go.Proofs.Try.prog Go.Proofs.Try.f7 qMakeFew = true := by kernel_rfl
theorem kLaw33Awake : chkFB Go.Proofs.Try.prog Go.Proofs.Try.f8 qLaw33Awake = true := by kernel_rfl
theorem kMakeGraph : chkFB Go.Proofs.Try.prog Go.Proofs.Try.f9 qMakeGraph = true := by kernel_rfl
theorem kMakeNew : chkFB Go.Proofs.Try.prog Go.Proofs.Try.f10 qMakeNew = true := by kernel_rfl
theorem kSampleByColours : chkFB Go.Proofs.Try.prog Go.Proofs.Try.f11 qSampleByColours = true := by kernel_rfl
theorem kRef29Count : chkFB Go.Proofs.Try.prog Go.Proofs.Try.f12 qRef29Count = true := by kernel_rfl
theorem kSampleReservoir : chkFB Go.Proofs.Try.prog Go.Proofs.Try.f13 qSampleReservoir = true := by kernel_rfl
theorem kSampleByEdges : chkFB Go.Proofs.Try.prog Go.Proofs.Try.f15 qSampleByEdges = true := by kernel_rfl
theorem kFieldNumbers : chkFB Go.Proofs.Try.prog Go.Proofs.Try.f16 qFieldNumbers = true := by kernel_rfl
theorem kSampleMono : chkFB Go.Proofs.Try.prog Go.Proofs.Try.f17 qSampleMono = true := by kernel_rfl
theorem kRef03Find : chkFB Go.Proofs.Try.prog Go.Proofs.Try.f18 qRef03Find = true := by kernel_rfl
theorem kRef02Cmp : chkFB Go.Proofs.Try.prog Go.Proofs.Try.f19 qRef02Cmp = true := by kernel_rfl
theorem kMakeDeckNext : chkFB Go.Proofs.Try.prog Go.Proofs.Try.f20 qMakeDeckNext = true := by kernel_rfl
theorem kTrianglesCount : chkFB Go.Proofs.Try.prog Go.Proofs.Try.f21 qTrianglesCount = true := by kernel_rfl
theorem kRef29Nodes : chkFB Go.Proofs.Try.prog Go.Proofs.Try.f22 qRef29Nodes = true := by kernel_rfl
theorem kSlicesSortIntInt : chkFB Go.Proofs.Try.prog Go.Proofs.Try.f23 qSlicesSortIntInt = true := by kernel_rfl
theorem kSampleKeep : chkFB Go.Proofs.Try.prog Go.Proofs.Try.f24 qSampleKeep = true := by kernel_rfl
theorem kGraphCheck : chkFB Go.Proofs.Try.prog Go.Proofs.Try.f25 qGraphCheck = true := by kernel_rfl
theorem kSlicesContainsFuncIntInt : chkFB Go.Proofs.Try.prog Go.Proofs.Try.f26 qSlicesContainsFuncIntInt = true := by kernel_rfl
theorem kSampleMono1 : chkFB Go.Proofs.Try.prog Go.Proofs.Try.f27 qSampleMono1 = true := by kernel_rfl
theorem kSampleSome : chkFB Go.Proofs.Try.prog Go.Proofs.Try.f28 qSampleSome = true := by kernel_rfl
theorem kSampleMono2 : chkFB Go.Proofs.Try.prog Go.Proofs.Try.f29 qSampleMono2 = true := by kernel_rfl
theorem kRef03Check : chkFB Go.Proofs.Try.prog Go.Proofs.Try.f30 qRef03Check = true := by kernel_rfl
theorem kRef03Edge : chkFB Go.Proofs.Try.prog Go.Proofs.Try.f31 qRef03Edge = true := by kernel_rfl
theorem kMakeMod : chkFB Go.Proofs.Try.prog Go.Proofs.Try.f32 qMakeMod = true := by kernel_rfl
theorem kTrianglesCounts : chkFB Go.Proofs.Try.prog Go.Proofs.Try.f33 qTrianglesCounts = true := by kernel_rfl
theorem kRef03Common : chkFB Go.Proofs.Try.prog Go.Proofs.Try.f34 qRef03Common = true := by kernel_rfl
theorem kSampleKeep1 : chkFB Go.Proofs.Try.prog Go.Proofs.Try.f37 qSampleKeep1 = true := by kernel_rfl
theorem kGraphOrder : chkFB Go.Proofs.Try.prog Go.Proofs.Try.f38 qGraphOrder = true := by kernel_rfl
theorem kSlicesIndexFuncIntInt : chkFB Go.Proofs.Try.prog Go.Proofs.Try.f39 qSlicesIndexFuncIntInt = true := by kernel_rfl
theorem kRef03Before : chkFB Go.Proofs.Try.prog Go.Proofs.Try.f40 qRef03Before = true := by kernel_rfl
theorem kTrianglesLists : chkFB Go.Proofs.Try.prog Go.Proofs.Try.f41 qTrianglesLists = true := by kernel_rfl
theorem kTrianglesSharedInt : chkFB Go.Proofs.Try.prog Go.Proofs.Try.f42 qTrianglesSharedInt = true := by kernel_rfl
theorem kRef02Meet : chkFB Go.Proofs.Try.prog Go.Proofs.Try.f43 qRef02Meet = true := by kernel_rfl
theorem kRef03Neighbours : chkFB Go.Proofs.Try.prog Go.Proofs.Try.f44 qRef03Neighbours = true := by kernel_rfl
theorem kCmpOrInt : chkFB Go.Proofs.Try.prog Go.Proofs.Try.f56 qCmpOrInt = true := by kernel_rfl
theorem kCmpCompareInt : chkFB Go.Proofs.Try.prog Go.Proofs.Try.f57 qCmpCompareInt = true := by kernel_rfl
theorem kRef02Of : chkFB Go.Proofs.Try.prog Go.Proofs.Try.f58 qRef02Of = true := by kernel_rfl
theorem kRef02Has : chkFB Go.Proofs.Try.prog Go.Proofs.Try.f59 qRef02Has = true := by kernel_rfl
theorem kCmpIsNaNInt : chkFB Go.Proofs.Try.prog Go.Proofs.Try.f65 qCmpIsNaNInt = true := by kernel_rfl
theorem kRef02Put : chkFB Go.Proofs.Try.prog Go.Proofs.Try.f66 qRef02Put = true := by kernel_rfl
theorem look_mem : ∀ {l : List (Nat × Md × AFn)} {f : Nat} {m : Md} {q : AFn}, look l f = some (m, q) → (f, m, q) ∈ l
  | [], f, m, q, h => by simp [look] at h
  | (j, m', q') :: r, f, m, q, h => by
    unfold look at h
    split at h
    · rename_i he; subst he; simp at h; obtain ⟨rfl, rfl⟩ := h; simp
    · exact List.mem_cons_of_mem _ (look_mem h)
def Good (p : Nat × Md × AFn) : Prop := ∃ fn, Go.Proofs.Try.prog.funcs[p.1]? = some fn ∧ chkFB Go.Proofs.Try.prog fn p.2.2 = true
def All (G : Nat × Md × AFn → Prop) : List (Nat × Md × AFn) → Prop
  | [] => True
  | p :: r => G p ∧ All G r
theorem All.get {G : Nat × Md × AFn → Prop} : ∀ {l : List (Nat × Md × AFn)}, All G l → ∀ p ∈ l, G p
  | [], _, p, h => by simp at h
  | q :: r, h, p, hp => by
    rcases List.mem_cons.1 hp with e | e
    · subst e; exact h.1
    · exact All.get h.2 p e
theorem allGood : All Good fns := ⟨⟨_, Go.Proofs.Try.func3, kLaw33SampleColours⟩, ⟨_, Go.Proofs.Try.func5, kLaw33SampleEdges⟩, ⟨_, Go.Proofs.Try.func6, kLaw33SampleParts⟩, ⟨_, Go.Proofs.Try.func7, kMakeFew⟩, ⟨_, Go.Proofs.Try.func8, kLaw33Awake⟩, ⟨_, Go.Proofs.Try.func9, kMakeGraph⟩, ⟨_, Go.Proofs.Try.func10, kMakeNew⟩, ⟨_, Go.Proofs.Try.func11, kSampleByColours⟩, ⟨_, Go.Proofs.Try.func12, kRef29Count⟩, ⟨_, Go.Proofs.Try.func13, kSampleReservoir⟩, ⟨_, Go.Proofs.Try.func15, kSampleByEdges⟩, ⟨_, Go.Proofs.Try.func16, kFieldNumbers⟩, ⟨_, Go.Proofs.Try.func17, kSampleMono⟩, ⟨_, Go.Proofs.Try.func18, kRef03Find⟩, ⟨_, Go.Proofs.Try.func19, kRef02Cmp⟩, ⟨_, Go.Proofs.Try.func20, kMakeDeckNext⟩, ⟨_, Go.Proofs.Try.func21, kTrianglesCount⟩, ⟨_, Go.Proofs.Try.func22, kRef29Nodes⟩, ⟨_, Go.Proofs.Try.func23, kSlicesSortIntInt⟩, ⟨_, Go.Proofs.Try.func24, kSampleKeep⟩, ⟨_, Go.Proofs.Try.func25, kGraphCheck⟩, ⟨_, Go.Proofs.Try.func26, kSlicesContainsFuncIntInt⟩, ⟨_, Go.Proofs.Try.func27, kSampleMono1⟩, ⟨_, Go.Proofs.Try.func28, kSampleSome⟩, ⟨_, Go.Proofs.Try.func29, kSampleMono2⟩, ⟨_, Go.Proofs.Try.func30, kRef03Check⟩, ⟨_, Go.Proofs.Try.func31, kRef03Edge⟩, ⟨_, Go.Proofs.Try.func32, kMakeMod⟩, ⟨_, Go.Proofs.Try.func33, kTrianglesCounts⟩, ⟨_, Go.Proofs.Try.func34, kRef03Common⟩, ⟨_, Go.Proofs.Try.func37, kSampleKeep1⟩, ⟨_, Go.Proofs.Try.func38, kGraphOrder⟩, ⟨_, Go.Proofs.Try.func39, kSlicesIndexFuncIntInt⟩, ⟨_, Go.Proofs.Try.func40, kRef03Before⟩, ⟨_, Go.Proofs.Try.func41, kTrianglesLists⟩, ⟨_, Go.Proofs.Try.func42, kTrianglesSharedInt⟩, ⟨_, Go.Proofs.Try.func43, kRef02Meet⟩, ⟨_, Go.Proofs.Try.func44, kRef03Neighbours⟩, ⟨_, Go.Proofs.Try.func56, kCmpOrInt⟩, ⟨_, Go.Proofs.Try.func57, kCmpCompareInt⟩, ⟨_, Go.Proofs.Try.func58, kRef02Of⟩, ⟨_, Go.Proofs.Try.func59, kRef02Has⟩, ⟨_, Go.Proofs.Try.func65, kCmpIsNaNInt⟩, ⟨_, Go.Proofs.Try.func66, kRef02Put⟩, trivial⟩
theorem cfgOK : CfgOKB Go.Proofs.Try.prog cfg := ⟨by kernel_rfl, fun f m q h => allGood.get _ (look_mem h)⟩
theorem gLaw33SampleColours : cfg.fn nLaw33SampleColours = some (⟨false, false, true⟩, qLaw33SampleColours) := rfl
theorem gLaw33SampleEdges : cfg.fn nLaw33SampleEdges = some (⟨false, false, true⟩, qLaw33SampleEdges) := rfl
theorem gLaw33SampleParts : cfg.fn nLaw33SampleParts = some (⟨false, false, true⟩, qLaw33SampleParts) := rfl
theorem gMakeFew : cfg.fn nMakeFew = some (⟨false, false, true⟩, qMakeFew) := rfl
theorem gLaw33Awake : cfg.fn nLaw33Awake = some (⟨false, false, true⟩, qLaw33Awake) := rfl
theorem gMakeGraph : cfg.fn nMakeGraph = some (⟨true, false, false⟩, qMakeGraph) := rfl
theorem gMakeNew : cfg.fn nMakeNew = some (⟨true, false, false⟩, qMakeNew) := rfl
theorem gSampleByColours : cfg.fn nSampleByColours = some (⟨false, false, true⟩, qSampleByColours) := rfl
theorem gRef29Count : cfg.fn nRef29Count = some (⟨false, false, true⟩, qRef29Count) := rfl
theorem gSampleReservoir : cfg.fn nSampleReservoir = some (⟨false, false, false⟩, qSampleReservoir) := rfl
theorem gSampleByEdges : cfg.fn nSampleByEdges = some (⟨false, false, true⟩, qSampleByEdges) := rfl
theorem gFieldNumbers : cfg.fn nFieldNumbers = some (⟨true, false, false⟩, qFieldNumbers) := rfl
theorem gSampleMono : cfg.fn nSampleMono = some (⟨false, false, false⟩, qSampleMono) := rfl
theorem gRef03Find : cfg.fn nRef03Find = some (⟨false, false, true⟩, qRef03Find) := rfl
theorem gRef02Cmp : cfg.fn nRef02Cmp = some (⟨false, false, true⟩, qRef02Cmp) := rfl
theorem gMakeDeckNext : cfg.fn nMakeDeckNext = some (⟨true, false, false⟩, qMakeDeckNext) := rfl
theorem gTrianglesCount : cfg.fn nTrianglesCount = some (⟨false, false, true⟩, qTrianglesCount) := rfl
theorem gRef29Nodes : cfg.fn nRef29Nodes = some (⟨false, false, false⟩, qRef29Nodes) := rfl
theorem gSlicesSortIntInt : cfg.fn nSlicesSortIntInt = some (⟨false, false, true⟩, qSlicesSortIntInt) := rfl
theorem gSampleKeep : cfg.fn nSampleKeep = some (⟨false, false, false⟩, qSampleKeep) := rfl
theorem gGraphCheck : cfg.fn nGraphCheck = some (⟨false, false, true⟩, qGraphCheck) := rfl
theorem gSlicesContainsFuncIntInt : cfg.fn nSlicesContainsFuncIntInt = some (⟨true, false, false⟩, qSlicesContainsFuncIntInt) := rfl
theorem gSampleMono1 : cfg.fn nSampleMono1 = some (⟨true, false, false⟩, qSampleMono1) := rfl
theorem gSampleSome : cfg.fn nSampleSome = some (⟨true, false, false⟩, qSampleSome) := rfl
theorem gSampleMono2 : cfg.fn nSampleMono2 = some (⟨true, false, false⟩, qSampleMono2) := rfl
theorem gRef03Check : cfg.fn nRef03Check = some (⟨false, false, true⟩, qRef03Check) := rfl
theorem gRef03Edge : cfg.fn nRef03Edge = some (⟨false, false, false⟩, qRef03Edge) := rfl
theorem gMakeMod : cfg.fn nMakeMod = some (⟨false, false, true⟩, qMakeMod) := rfl
theorem gTrianglesCounts : cfg.fn nTrianglesCounts = some (⟨false, false, false⟩, qTrianglesCounts) := rfl
theorem gRef03Common : cfg.fn nRef03Common = some (⟨false, false, false⟩, qRef03Common) := rfl
theorem gSampleKeep1 : cfg.fn nSampleKeep1 = some (⟨true, false, false⟩, qSampleKeep1) := rfl
theorem gGraphOrder : cfg.fn nGraphOrder = some (⟨false, false, true⟩, qGraphOrder) := rfl
theorem gSlicesIndexFuncIntInt : cfg.fn nSlicesIndexFuncIntInt = some (⟨true, false, false⟩, qSlicesIndexFuncIntInt) := rfl
theorem gRef03Before : cfg.fn nRef03Before = some (⟨false, false, true⟩, qRef03Before) := rfl
theorem gTrianglesLists : cfg.fn nTrianglesLists = some (⟨false, false, false⟩, qTrianglesLists) := rfl
theorem gTrianglesSharedInt : cfg.fn nTrianglesSharedInt = some (⟨false, false, false⟩, qTrianglesSharedInt) := rfl
theorem gRef02Meet : cfg.fn nRef02Meet = some (⟨false, false, false⟩, qRef02Meet) := rfl
theorem gRef03Neighbours : cfg.fn nRef03Neighbours = some (⟨false, false, false⟩, qRef03Neighbours) := rfl
theorem gCmpOrInt : cfg.fn nCmpOrInt = some (⟨false, false, true⟩, qCmpOrInt) := rfl
theorem gCmpCompareInt : cfg.fn nCmpCompareInt = some (⟨false, false, true⟩, qCmpCompareInt) := rfl
theorem gRef02Of : cfg.fn nRef02Of = some (⟨false, false, false⟩, qRef02Of) := rfl
theorem gRef02Has : cfg.fn nRef02Has = some (⟨false, false, true⟩, qRef02Has) := rfl
theorem gCmpIsNaNInt : cfg.fn nCmpIsNaNInt = some (⟨false, false, true⟩, qCmpIsNaNInt) := rfl
theorem gRef02Put : cfg.fn nRef02Put = some (⟨false, false, false⟩, qRef02Put) := rfl
end Go.BmP
