/- The compact code of the functions, printed by program off the translation. -/
import Derived.Test.YtcjfhegnnjnmgaaChecked
import Derived.Test.YtcjfhegnnjnmgaaBmA
import Derived.KernelRfl
set_option maxRecDepth 100000
namespace Go.BmP
open Go.Am Go.Bm
abbrev oo (d : Nat) (x : Kd) : O := ⟨some d, none, x⟩
abbrev oz (x : Kd) : O := ⟨none, none, x⟩
abbrev ki (n : Nat) : E := .k (.int .i64 n)
def nLaw29TrianglesKept : Nat := 4
def nMakeFew : Nat := 5
def nLaw29Awake : Nat := 6
def nMakeNew : Nat := 7
def nMakeGraph : Nat := 8
def nTrianglesCount : Nat := 9
def nTrianglesOpen : Nat := 10
def nTrianglesInsert : Nat := 11
def nMakeDeckNext : Nat := 12
def nTrianglesDelete : Nat := 13
def nRef03Common : Nat := 14
def nTrianglesValid : Nat := 15
def nLaw29Ints : Nat := 16
def nRef03Of : Nat := 17
def nTrianglesWhole : Nat := 18
def nGraphCheck : Nat := 19
def nTrianglesCounts : Nat := 20
def nTrianglesCopied : Nat := 21
def nGraphAdd : Nat := 22
def nTrianglesChanged : Nat := 23
def nMakeMod : Nat := 24
def nGraphRemove : Nat := 25
def nRef02Meet : Nat := 26
def nRef03Neighbours : Nat := 27
def nSlicesEqualIntInt : Nat := 28
def nRef03Ends : Nat := 29
def nRef03With : Nat := 30
def nRef03Edge : Nat := 31
def nTrianglesLists : Nat := 32
def nTrianglesPairs : Nat := 33
def nTrianglesShare : Nat := 34
def nGraphOrder : Nat := 35
def nTrianglesSharedInt : Nat := 36
def nSlicesCloneApiEdgeApiEdge : Nat := 37
def nGraphChange : Nat := 38
def nGraphPlace : Nat := 39
def nSlicesInsertApiEdgeApiEdge : Nat := 40
def nGraphEdge : Nat := 41
def nSlicesCloneIntInt : Nat := 42
def nSlicesDeleteApiEdgeApiEdge : Nat := 43
def nRef02Of : Nat := 44
def nRef02Has : Nat := 45
def nRef03Check : Nat := 46
def nRef03Before : Nat := 47
def nSlicesSortIntInt : Nat := 48
def nRatioMake : Nat := 49
def nCmpOrInt : Nat := 50
def nCmpCompareInt : Nat := 51
def nGraphEnds : Nat := 52
def nSlicesBinarySearchFuncApiEdgeApiEdgeApiEdge : Nat := 53
def nRef02Put : Nat := 56
def nRatioWithin : Nat := 59
def nRatioLowest : Nat := 60
def nRatioExact : Nat := 61
def nWideOf : Nat := 62
def nCmpIsNaNInt : Nat := 63
def nRatioCommon : Nat := 76
def nRatioChecked : Nat := 77
def nWideCommon : Nat := 78
def nWideNumberOver : Nat := 79
def nWideNumberNegative : Nat := 80
def nWideSize : Nat := 81
def nWideNumberZero : Nat := 88
def nWideNumberEven : Nat := 89
def nWideNumberHalf : Nat := 90
def nWideNumberBelow : Nat := 91
def nWideNumberLess : Nat := 92
def nWideNumberTwice : Nat := 93
def nMathBitsSub64 : Nat := 95
/- cohesion/cohesionlaw29.TrianglesKept -/
def rLaw29TrianglesKeptX0 : List O := [
 oo 2 <| .mv (.k (.bool false))]
def rLaw29TrianglesKeptX1 : List O := [
 oo 18 <| .mv (.t 0),
 oo 19 <| .call nMakeFew [(.t 18)],
 oo 20 <| .un .not (.t 19)]
def rLaw29TrianglesKeptX2 : List O := [
 oo 21 <| .call nLaw29Awake [],
 oo 2 <| .mv (.t 21)]
def rLaw29TrianglesKeptX3 : List O := [
 oo 22 <| .mv (.t 0),
 oo 23 <| .call nMakeNew [(.t 22)],
 oo 3 <| .mv (.t 23)]
def rLaw29TrianglesKeptX4 : List O := [
 oo 25 <| .mv (.t 3),
 oo 26 <| .call nMakeGraph [(.t 25), (ki 8)],
 oo 27 <| .call nTrianglesOpen [(.t 26)],
 oo 24 <| .mv (.t 27),
 oo 28 <| .ext 0 (.t 24),
 oo 29 <| .ext 1 (.t 24),
 oo 4 <| .new [(.int .i64 0), (.own 2 []), (.int .i64 0), (.own 1 [])],
 oz <| .st 4 (.t 4) (.t 28),
 oo 5 <| .mv (.t 29)]
def rLaw29TrianglesKeptX5 : List O := [
 oo 6 <| .mv (ki 0)]
def rLaw29TrianglesKeptX6 : List O := [
 oo 30 <| .mv (.t 6),
 oo 31 <| .bin .lss (.t 30) (ki 12)]
def rLaw29TrianglesKeptX7 : List O := [
 oo 34 <| .mv (.t 3),
 oo 35 <| .call nMakeDeckNext [(.t 34), (ki 8)],
 oo 36 <| .mv (.t 3),
 oo 37 <| .call nMakeDeckNext [(.t 36), (ki 8)],
 oo 7 <| .mv (.t 35),
 oo 8 <| .mv (.t 37)]
def rLaw29TrianglesKeptX8 : List O := [
 oo 39 <| .ld (some 4) (.t 4),
 oo 40 <| .mv (.t 7),
 oo 41 <| .mv (.t 8),
 oo 42 <| .call nTrianglesInsert [(.t 39), (.t 40), (.t 41)],
 oo 38 <| .mv (.t 42),
 oo 43 <| .ext 0 (.t 38),
 oo 44 <| .ext 1 (.t 38),
 oo 45 <| .ext 2 (.t 38),
 oo 9 <| .new [(.int .i64 0), (.own 2 []), (.int .i64 0), (.own 1 [])],
 oz <| .st 4 (.t 9) (.t 43),
 oo 10 <| .mv (.t 44),
 oo 11 <| .mv (.t 45)]
def rLaw29TrianglesKeptX9 : List O := [
 oo 46 <| .mv (.t 11),
 oo 47 <| .bin .eql (.t 46) (ki 0)]
def rLaw29TrianglesKeptX10 : List O := [
 oo 49 <| .ld (some 4) (.t 9),
 oo 50 <| .mv (.t 7),
 oo 51 <| .mv (.t 8),
 oo 52 <| .call nTrianglesDelete [(.t 49), (.t 50), (.t 51)],
 oo 48 <| .mv (.t 52),
 oo 53 <| .ext 0 (.t 48),
 oo 54 <| .ext 1 (.t 48),
 oo 55 <| .ext 2 (.t 48),
 oo 12 <| .new [(.int .i64 0), (.own 2 []), (.int .i64 0), (.own 1 [])],
 oz <| .st 4 (.t 12) (.t 53),
 oo 13 <| .mv (.t 54),
 oo 14 <| .mv (.t 55)]
def rLaw29TrianglesKeptX11 : List O := [
 oo 56 <| .mv (.t 14),
 oo 57 <| .bin .neq (.t 56) (ki 0),
 oo 58 <| .mv (.t 57),
 ⟨(some 59), (some (58, false)), .mv (.t 13)⟩,
 ⟨(some 60), (some (58, false)), .mv (.t 10)⟩,
 ⟨(some 61), (some (58, false)), .bin .neq (.t 59) (.t 60)⟩,
 oo 62 <| .pick (.t 58) (.k (.bool true)) (.t 61),
 oo 63 <| .mv (.t 62),
 ⟨(some 64), (some (63, false)), .mv (.t 10)⟩,
 ⟨(some 65), (some (63, false)), .fad 0 (.t 4)⟩,
 ⟨(some 66), (some (63, false)), .ld (some 2) (.t 65)⟩,
 ⟨(some 67), (some (63, false)), .mv (.t 7)⟩,
 ⟨(some 68), (some (63, false)), .mv (.t 8)⟩,
 ⟨(some 69), (some (63, false)), .call nRef03Common [(.t 66), (.t 67), (.t 68)]⟩,
 ⟨(some 70), (some (63, false)), .len (.t 69)⟩,
 ⟨(some 71), (some (63, false)), .bin .neq (.t 64) (.t 70)⟩,
 oo 72 <| .pick (.t 63) (.k (.bool true)) (.t 71),
 oo 73 <| .mv (.t 72),
 ⟨(some 74), (some (73, false)), .fad 2 (.t 9)⟩,
 ⟨(some 75), (some (73, false)), .ld none (.t 74)⟩,
 ⟨(some 76), (some (73, false)), .fad 2 (.t 4)⟩,
 ⟨(some 77), (some (73, false)), .ld none (.t 76)⟩,
 ⟨(some 78), (some (73, false)), .mv (.t 10)⟩,
 ⟨(some 79), (some (73, false)), .bin .add (.t 77) (.t 78)⟩,
 ⟨(some 80), (some (73, false)), .bin .neq (.t 75) (.t 79)⟩,
 oo 81 <| .pick (.t 73) (.k (.bool true)) (.t 80),
 oo 82 <| .mv (.t 81),
 ⟨(some 83), (some (82, false)), .ld (some 4) (.t 9)⟩,
 ⟨(some 84), (some (82, false)), .call nTrianglesValid [(.t 83)]⟩,
 ⟨(some 85), (some (82, false)), .un .not (.t 84)⟩,
 oo 86 <| .pick (.t 82) (.k (.bool true)) (.t 85),
 oo 87 <| .mv (.t 86),
 ⟨(some 88), (some (87, false)), .fad 2 (.t 12)⟩,
 ⟨(some 89), (some (87, false)), .ld none (.t 88)⟩,
 ⟨(some 90), (some (87, false)), .fad 2 (.t 4)⟩,
 ⟨(some 91), (some (87, false)), .ld none (.t 90)⟩,
 ⟨(some 92), (some (87, false)), .bin .neq (.t 89) (.t 91)⟩,
 oo 93 <| .pick (.t 87) (.k (.bool true)) (.t 92),
 oo 94 <| .mv (.t 93),
 ⟨(some 95), (some (94, false)), .fad 3 (.t 12)⟩,
 ⟨(some 96), (some (94, false)), .ld none (.t 95)⟩,
 ⟨(some 97), (some (94, false)), .fad 3 (.t 4)⟩,
 ⟨(some 98), (some (94, false)), .ld none (.t 97)⟩,
 ⟨(some 99), (some (94, false)), .call nLaw29Ints [(.t 96), (.t 98)]⟩,
 ⟨(some 100), (some (94, false)), .un .not (.t 99)⟩,
 oo 101 <| .pick (.t 94) (.k (.bool true)) (.t 100)]
def rLaw29TrianglesKeptX12 : List O := [
 oo 2 <| .mv (.k (.bool false))]
def rLaw29TrianglesKeptX13 : List O := [
 oo 102 <| .ld (some 4) (.t 9),
 oz <| .st 4 (.t 4) (.t 102)]
def rLaw29TrianglesKeptX14 : List O := [
 oo 103 <| .mv (.t 11),
 oo 104 <| .bin .eql (.t 103) (ki 15),
 oo 105 <| .mv (.t 104),
 ⟨(some 106), (some (105, true)), .mv (.t 3)⟩,
 ⟨(some 107), (some (105, true)), .call nMakeDeckNext [(.t 106), (ki 2)]⟩,
 ⟨(some 108), (some (105, true)), .bin .eql (.t 107) (ki 1)⟩,
 oo 109 <| .pick (.t 105) (.t 108) (.k (.bool false))]
def rLaw29TrianglesKeptX15 : List O := [
 oo 111 <| .ld (some 4) (.t 4),
 oo 112 <| .mv (.t 7),
 oo 113 <| .mv (.t 8),
 oo 114 <| .call nTrianglesDelete [(.t 111), (.t 112), (.t 113)],
 oo 110 <| .mv (.t 114),
 oo 115 <| .ext 0 (.t 110),
 oo 116 <| .ext 1 (.t 110),
 oo 117 <| .ext 2 (.t 110),
 oo 15 <| .new [(.int .i64 0), (.own 2 []), (.int .i64 0), (.own 1 [])],
 oz <| .st 4 (.t 15) (.t 115),
 oo 16 <| .mv (.t 116),
 oo 17 <| .mv (.t 117)]
def rLaw29TrianglesKeptX16 : List O := [
 oo 118 <| .mv (.t 17),
 oo 119 <| .bin .neq (.t 118) (ki 0),
 oo 120 <| .mv (.t 119),
 ⟨(some 121), (some (120, false)), .mv (.t 16)⟩,
 ⟨(some 122), (some (120, false)), .fad 0 (.t 4)⟩,
 ⟨(some 123), (some (120, false)), .ld (some 2) (.t 122)⟩,
 ⟨(some 124), (some (120, false)), .mv (.t 7)⟩,
 ⟨(some 125), (some (120, false)), .mv (.t 8)⟩,
 ⟨(some 126), (some (120, false)), .call nRef03Common [(.t 123), (.t 124), (.t 125)]⟩,
 ⟨(some 127), (some (120, false)), .len (.t 126)⟩,
 ⟨(some 128), (some (120, false)), .bin .neq (.t 121) (.t 127)⟩,
 oo 129 <| .pick (.t 120) (.k (.bool true)) (.t 128),
 oo 130 <| .mv (.t 129),
 ⟨(some 131), (some (130, false)), .ld (some 4) (.t 15)⟩,
 ⟨(some 132), (some (130, false)), .call nTrianglesValid [(.t 131)]⟩,
 ⟨(some 133), (some (130, false)), .un .not (.t 132)⟩,
 oo 134 <| .pick (.t 130) (.k (.bool true)) (.t 133)]
def rLaw29TrianglesKeptX17 : List O := [
 oo 2 <| .mv (.k (.bool false))]
def rLaw29TrianglesKeptX18 : List O := [
 oo 135 <| .ld (some 4) (.t 15),
 oz <| .st 4 (.t 4) (.t 135)]
def rLaw29TrianglesKeptX19 : List O := [
 oo 32 <| .mv (.t 6),
 oo 33 <| .bin .add (.t 32) (ki 1),
 oo 6 <| .mv (.t 33)]
def lLaw29TrianglesKeptX0 : C := (.seq (.seq (.reg rLaw29TrianglesKeptX6 false [] [3, 4, 5, 6, 31]) (.cond (.t 31) .skip (.exit 0))) (.seq (.blk 1 (.seq (.reg rLaw29TrianglesKeptX7 false [] [3, 4, 5, 6, 7, 8]) (.seq (.reg rLaw29TrianglesKeptX8 false [] [3, 4, 5, 6, 7, 8, 9, 10, 11]) (.seq (.reg rLaw29TrianglesKeptX9 false [] [3, 4, 5, 6, 7, 8, 9, 10, 11, 47]) (.cond (.t 47) (.seq (.reg rLaw29TrianglesKeptX10 false [] [3, 4, 5, 6, 7, 8, 9, 10, 12, 13, 14]) (.seq (.seq (.reg rLaw29TrianglesKeptX11 false [] [3, 4, 5, 6, 9, 101]) (.cond (.t 101) (.seq (.reg rLaw29TrianglesKeptX12 false [] [2]) .ret) .skip)) (.reg rLaw29TrianglesKeptX13 false [] [3, 4, 5, 6]))) (.seq (.reg rLaw29TrianglesKeptX14 false [] [3, 4, 5, 6, 7, 8, 109]) (.cond (.t 109) (.seq (.reg rLaw29TrianglesKeptX15 false [] [3, 4, 5, 6, 7, 8, 15, 16, 17]) (.seq (.seq (.reg rLaw29TrianglesKeptX16 false [] [3, 4, 5, 6, 15, 134]) (.cond (.t 134) (.seq (.reg rLaw29TrianglesKeptX17 false [] [2]) .ret) .skip)) (.reg rLaw29TrianglesKeptX18 false [] [3, 4, 5, 6]))) .skip))))))) (.reg rLaw29TrianglesKeptX19 false [] [3, 4, 5, 6])))
def rLaw29TrianglesKeptX20 : List O := [
 oo 136 <| .mv (.t 5),
 oo 137 <| .bin .eql (.t 136) (ki 0),
 oo 138 <| .mv (.t 137),
 ⟨(some 139), (some (138, true)), .ld (some 4) (.t 4)⟩,
 ⟨(some 140), (some (138, true)), .call nTrianglesValid [(.t 139)]⟩,
 oo 141 <| .pick (.t 138) (.t 140) (.k (.bool false)),
 oo 142 <| .mv (.t 141),
 ⟨(some 143), (some (142, true)), .call nLaw29Awake []⟩,
 oo 144 <| .pick (.t 142) (.t 143) (.k (.bool false)),
 oo 2 <| .mv (.t 144)]
def cLaw29TrianglesKept : C := (.seq (.reg rLaw29TrianglesKeptX0 false [] [0]) (.seq (.seq (.reg rLaw29TrianglesKeptX1 false [] [0, 20]) (.cond (.t 20) (.seq (.reg rLaw29TrianglesKeptX2 false [] [2]) .ret) .skip)) (.seq (.reg rLaw29TrianglesKeptX3 false [] [3]) (.seq (.reg rLaw29TrianglesKeptX4 false [] [3, 4, 5]) (.seq (.seq (.reg rLaw29TrianglesKeptX5 false [] [3, 4, 5, 6]) (.blk 0 (.loop lLaw29TrianglesKeptX0))) (.seq (.reg rLaw29TrianglesKeptX20 false [] [2]) .ret))))))
def qLaw29TrianglesKept : AFn := ⟨145, 1, [.t 2], cLaw29TrianglesKept⟩
/- cohesion/cohesionmake.Few -/
def rMakeFewX0 : List O := [
 oo 2 <| .mv (.k (.bool false))]
def rMakeFewX1 : List O := [
 oo 3 <| .mv (.t 0),
 oo 4 <| .len (.t 3),
 oo 5 <| .bin .leq (.t 4) (ki 500),
 oo 2 <| .mv (.t 5)]
def cMakeFew : C := (.seq (.reg rMakeFewX0 false [] [0]) (.seq (.reg rMakeFewX1 false [] [2]) .ret))
def qMakeFew : AFn := ⟨6, 1, [.t 2], cMakeFew⟩
/- cohesion/cohesionlaw29.awake -/
def rLaw29AwakeX0 : List O := [
 oo 0 <| .mv (.k (.bool false))]
def rLaw29AwakeX1 : List O := [
 oo 8 <| .build [(.int .i64 0), (.int .i64 0)] [(0, 1, (ki 0)), (1, 1, (ki 1))],
 oo 9 <| .build [(.int .i64 0), (.int .i64 0)] [(0, 1, (ki 0)), (1, 1, (ki 2))],
 oo 10 <| .build [(.int .i64 0), (.int .i64 0)] [(0, 1, (ki 1)), (1, 1, (ki 2))],
 oo 11 <| .build [(.int .i64 0), (.int .i64 0)] [(0, 1, (ki 1)), (1, 1, (ki 3))],
 oo 12 <| .build [(.int .i64 0), (.int .i64 0)] [(0, 1, (ki 2)), (1, 1, (ki 3))],
 oo 13 <| .bslice 2 5 [(.int .i64 0), (.int .i64 0)] [(0, 2, (.t 8)), (2, 2, (.t 9)), (4, 2, (.t 10)), (6, 2, (.t 11)), (8, 2, (.t 12))],
 oo 14 <| .call nRef03Of [(ki 4), (.t 13)],
 oo 7 <| .mv (.t 14),
 oo 15 <| .ext 0 (.t 7),
 oo 16 <| .ext 1 (.t 7),
 oo 1 <| .new [(.int .i64 0), (.own 2 [])],
 oz <| .st 2 (.t 1) (.t 15),
 oo 2 <| .mv (.t 16)]
def rLaw29AwakeX2 : List O := [
 oo 18 <| .ld (some 2) (.t 1),
 oo 19 <| .call nTrianglesCount [(.t 18)],
 oo 17 <| .mv (.t 19),
 oo 20 <| .ext 0 (.t 17),
 oo 21 <| .ext 1 (.t 17),
 oo 3 <| .mv (.t 20),
 oo 4 <| .mv (.t 21)]
def rLaw29AwakeX3 : List O := [
 oo 23 <| .ld (some 2) (.t 1),
 oo 24 <| .call nTrianglesWhole [(.t 23)],
 oo 22 <| .mv (.t 24),
 oo 25 <| .ext 0 (.t 22),
 oo 26 <| .ext 1 (.t 22),
 oo 5 <| .new [(.int .i64 0), (.int .i64 0)],
 oz <| .st 2 (.t 5) (.t 25),
 oo 6 <| .mv (.t 26)]
def rLaw29AwakeX4 : List O := [
 oo 27 <| .mv (.t 4),
 oo 28 <| .bin .eql (.t 27) (ki 0),
 oo 29 <| .mv (.t 28),
 ⟨(some 30), (some (29, true)), .mv (.t 3)⟩,
 ⟨(some 31), (some (29, true)), .bin .eql (.t 30) (ki 2)⟩,
 oo 32 <| .pick (.t 29) (.t 31) (.k (.bool false)),
 oo 33 <| .mv (.t 32),
 ⟨(some 34), (some (33, true)), .mv (.t 6)⟩,
 ⟨(some 35), (some (33, true)), .bin .eql (.t 34) (ki 0)⟩,
 oo 36 <| .pick (.t 33) (.t 35) (.k (.bool false)),
 oo 37 <| .mv (.t 36),
 ⟨(some 38), (some (37, true)), .ld (some 2) (.t 5)⟩,
 ⟨(some 39), (some (37, true)), .build [(.int .i64 0), (.int .i64 0)] [(0, 1, (ki 3)), (1, 1, (ki 4))]⟩,
 ⟨(some 40), (some (37, true)), .eq false (.str [true, true]) (.t 38) (.t 39)⟩,
 oo 41 <| .pick (.t 37) (.t 40) (.k (.bool false)),
 oo 0 <| .mv (.t 41)]
def cLaw29Awake : C := (.seq (.reg rLaw29AwakeX0 false [] []) (.seq (.reg rLaw29AwakeX1 false [] [1]) (.seq (.reg rLaw29AwakeX2 false [] [1, 3, 4]) (.seq (.reg rLaw29AwakeX3 false [] [3, 4, 5, 6]) (.seq (.reg rLaw29AwakeX4 false [] [0]) .ret)))))
def qLaw29Awake : AFn := ⟨42, 0, [.t 0], cLaw29Awake⟩
/- cohesion/cohesionmake.New -/
def rMakeNewX0 : List O := [
 oo 2 <| .mv (.k .nilp)]
def rMakeNewX1 : List O := [
 oo 3 <| .mv (.t 0),
 oo 4 <| .build [(.own 1 []), (.int .i64 0)] [(0, 1, (.t 3))],
 oo 5 <| .box (.t 4),
 oo 2 <| .mv (.t 5)]
def cMakeNew : C := (.seq (.reg rMakeNewX0 false [] [0]) (.seq (.reg rMakeNewX1 false [] [2]) .ret))
def qMakeNew : AFn := ⟨6, 1, [.t 2], cMakeNew⟩
/- cohesion/cohesionmake.Graph -/
def rMakeGraphX0 : List O := [
 oo 4 <| .new [(.int .i64 0), (.own 2 [])]]
def rMakeGraphX1 : List O := [
 oo 9 <| .mv (.t 0),
 oo 10 <| .mv (.t 1),
 oo 11 <| .bin .add (.t 10) (ki 1),
 oo 12 <| .call nMakeDeckNext [(.t 9), (.t 11)],
 oo 13 <| .build [(.int .i64 0), (.own 2 [])] [(0, 1, (.t 12))],
 oo 5 <| .new [(.int .i64 0), (.own 2 [])],
 oz <| .st 2 (.t 5) (.t 13)]
def rMakeGraphX2 : List O := [
 oo 14 <| .fad 0 (.t 5),
 oo 15 <| .ld none (.t 14),
 oo 16 <| .bin .lss (.t 15) (ki 4)]
def rMakeGraphX3 : List O := [
 oo 17 <| .mv (.t 1),
 oo 18 <| .fad 0 (.t 5),
 oo 19 <| .ld none (.t 18),
 oo 20 <| .mv (.t 0),
 oo 21 <| .mv (.t 1),
 oo 22 <| .bin .add (.t 21) (ki 1),
 oo 23 <| .call nMakeDeckNext [(.t 20), (.t 22)],
 oo 24 <| .bin .add (.t 19) (.t 23),
 oo 25 <| .min [(.t 17), (.t 24)],
 oo 26 <| .fad 0 (.t 5),
 oz <| .st 1 (.t 26) (.t 25)]
def rMakeGraphX4 : List O := [
 oo 27 <| .mv (.t 0),
 oo 28 <| .call nMakeDeckNext [(.t 27), (ki 4)],
 oo 29 <| .bin .add (ki 1) (.t 28),
 oo 6 <| .mv (.t 29)]
def rMakeGraphX5 : List O := [
 oo 7 <| .mv (ki 0)]
def rMakeGraphX6 : List O := [
 oo 30 <| .mv (.t 7),
 oo 31 <| .fad 0 (.t 5),
 oo 32 <| .ld none (.t 31),
 oo 33 <| .bin .lss (.t 30) (.t 32)]
def rMakeGraphX7 : List O := [
 oo 36 <| .mv (.t 7),
 oo 37 <| .bin .add (.t 36) (ki 1),
 oo 8 <| .mv (.t 37)]
def rMakeGraphX8 : List O := [
 oo 38 <| .mv (.t 8),
 oo 39 <| .fad 0 (.t 5),
 oo 40 <| .ld none (.t 39),
 oo 41 <| .bin .lss (.t 38) (.t 40)]
def rMakeGraphX9 : List O := [
 oo 44 <| .mv (.t 0),
 oo 45 <| .call nMakeDeckNext [(.t 44), (ki 5)],
 oo 46 <| .mv (.t 6),
 oo 47 <| .bin .sub (ki 5) (.t 46),
 oo 48 <| .bin .geq (.t 45) (.t 47)]
def rMakeGraphX10 : List O := [
 oo 49 <| .fad 1 (.t 5),
 oo 50 <| .ld none (.t 49),
 oo 51 <| .mv (.t 7),
 oo 52 <| .mv (.t 8),
 oo 53 <| .build [(.int .i64 0), (.int .i64 0)] [(0, 1, (.t 51)), (1, 1, (.t 52))],
 oo 54 <| .bslice 2 1 [(.int .i64 0), (.int .i64 0)] [(0, 2, (.t 53))],
 oo 55 <| .app 2 (.t 50) (.t 54),
 oo 56 <| .fad 1 (.t 5),
 oz <| .st 1 (.t 56) (.t 55)]
def rMakeGraphX11 : List O := [
 oo 42 <| .mv (.t 8),
 oo 43 <| .bin .add (.t 42) (ki 1),
 oo 8 <| .mv (.t 43)]
def lMakeGraphX0 : C := (.seq (.seq (.reg rMakeGraphX8 false [] [0, 4, 5, 6, 7, 8, 41]) (.cond (.t 41) .skip (.exit 2))) (.seq (.blk 3 (.seq (.reg rMakeGraphX9 false [] [0, 4, 5, 6, 7, 8, 48]) (.cond (.t 48) (.reg rMakeGraphX10 false [] [0, 4, 5, 6, 7, 8]) .skip))) (.reg rMakeGraphX11 false [] [0, 4, 5, 6, 7, 8])))
def rMakeGraphX12 : List O := [
 oo 34 <| .mv (.t 7),
 oo 35 <| .bin .add (.t 34) (ki 1),
 oo 7 <| .mv (.t 35)]
def lMakeGraphX1 : C := (.seq (.seq (.reg rMakeGraphX6 false [] [0, 4, 5, 6, 7, 33]) (.cond (.t 33) .skip (.exit 0))) (.seq (.blk 1 (.seq (.reg rMakeGraphX7 false [] [0, 4, 5, 6, 7, 8]) (.blk 2 (.loop lMakeGraphX0)))) (.reg rMakeGraphX12 false [] [0, 4, 5, 6, 7])))
def rMakeGraphX13 : List O := [
 oo 57 <| .ld (some 2) (.t 5),
 oz <| .st 2 (.t 4) (.t 57)]
def cMakeGraph : C := (.seq (.reg rMakeGraphX0 false [] [0, 1, 4]) (.seq (.reg rMakeGraphX1 false [] [0, 1, 4, 5]) (.seq (.seq (.reg rMakeGraphX2 false [] [0, 1, 4, 5, 16]) (.cond (.t 16) (.reg rMakeGraphX3 true [(8, 8), (9, 9), (10, 10), (0, 2), (2, 3), (2, 4), (2, 5), (0, 6), (1, 6), (2, 6)] [0, 4, 5]) .skip)) (.seq (.reg rMakeGraphX4 false [] [0, 4, 5, 6]) (.seq (.seq (.reg rMakeGraphX5 false [] [0, 4, 5, 6, 7]) (.blk 0 (.loop lMakeGraphX1))) (.seq (.reg rMakeGraphX13 false [] [4]) .ret))))))
def qMakeGraph : AFn := ⟨58, 2, [.c 4 (some 2)], cMakeGraph⟩
/- cohesion/triangles.Count -/
def rTrianglesCountX0 : List O := [
 oo 1 <| .box (.t 0),
 oo 2 <| .mv (ki 0),
 oo 3 <| .mv (ki 0)]
def rTrianglesCountX1 : List O := [
 oo 7 <| .ld (some 2) (.t 1),
 oo 8 <| .call nGraphCheck [(.t 7)],
 oo 4 <| .mv (.t 8)]
def rTrianglesCountX2 : List O := [
 oo 9 <| .mv (.t 4),
 oo 10 <| .bin .neq (.t 9) (ki 0)]
def rTrianglesCountX3 : List O := [
 oo 11 <| .mv (.t 4),
 oo 2 <| .mv (ki 0),
 oo 3 <| .mv (.t 11)]
def rTrianglesCountX4 : List O := [
 oo 13 <| .ld (some 2) (.t 1),
 oo 14 <| .call nTrianglesCounts [(.t 13)],
 oo 12 <| .mv (.t 14),
 oo 15 <| .ext 0 (.t 12),
 oo 16 <| .ext 1 (.t 12),
 oo 5 <| .mv (.t 15),
 oo 6 <| .mv (.t 16)]
def rTrianglesCountX5 : List O := [
 oo 17 <| .mv (.t 5),
 oo 2 <| .mv (.t 17),
 oo 3 <| .mv (ki 0)]
def cTrianglesCount : C := (.seq (.reg rTrianglesCountX0 false [] [1]) (.seq (.seq (.reg rTrianglesCountX1 false [] [1, 4]) (.seq (.reg rTrianglesCountX2 false [] [1, 4, 10]) (.cond (.t 10) (.seq (.reg rTrianglesCountX3 false [] [2, 3]) .ret) .skip))) (.seq (.reg rTrianglesCountX4 false [] [5]) (.seq (.reg rTrianglesCountX5 false [] [2, 3]) .ret))))
def qTrianglesCount : AFn := ⟨18, 1, [.t 2, .t 3], cTrianglesCount⟩
/- cohesion/triangles.Open -/
def rTrianglesOpenX0 : List O := [
 oo 1 <| .box (.t 0),
 oo 2 <| .new [(.int .i64 0), (.own 2 []), (.int .i64 0), (.own 1 [])],
 oo 3 <| .mv (ki 0)]
def rTrianglesOpenX1 : List O := [
 oo 7 <| .ld (some 2) (.t 1),
 oo 8 <| .call nGraphCheck [(.t 7)],
 oo 4 <| .mv (.t 8)]
def rTrianglesOpenX2 : List O := [
 oo 9 <| .mv (.t 4),
 oo 10 <| .bin .neq (.t 9) (ki 0)]
def rTrianglesOpenX3 : List O := [
 oo 11 <| .build [(.int .i64 0), (.own 2 []), (.int .i64 0), (.own 1 [])] [],
 oo 12 <| .mv (.t 4),
 oz <| .st 4 (.t 2) (.t 11),
 oo 3 <| .mv (.t 12)]
def rTrianglesOpenX4 : List O := [
 oo 14 <| .ld (some 2) (.t 1),
 oo 15 <| .call nTrianglesCounts [(.t 14)],
 oo 13 <| .mv (.t 15),
 oo 16 <| .ext 0 (.t 13),
 oo 17 <| .ext 1 (.t 13),
 oo 5 <| .mv (.t 16),
 oo 6 <| .mv (.t 17)]
def rTrianglesOpenX5 : List O := [
 oo 18 <| .ld (some 2) (.t 1),
 oo 19 <| .call nTrianglesCopied [(.t 18)],
 oo 20 <| .mv (.t 5),
 oo 21 <| .mv (.t 6),
 oo 22 <| .build [(.int .i64 0), (.own 2 []), (.int .i64 0), (.own 1 [])] [(0, 2, (.t 19)), (2, 1, (.t 20)), (3, 1, (.t 21))],
 oz <| .st 4 (.t 2) (.t 22),
 oo 3 <| .mv (ki 0)]
def cTrianglesOpen : C := (.seq (.reg rTrianglesOpenX0 false [] [1, 2]) (.seq (.seq (.reg rTrianglesOpenX1 false [] [1, 2, 4]) (.seq (.reg rTrianglesOpenX2 false [] [1, 2, 4, 10]) (.cond (.t 10) (.seq (.reg rTrianglesOpenX3 false [] [2, 3]) .ret) .skip))) (.seq (.reg rTrianglesOpenX4 false [] [1, 2, 5, 6]) (.seq (.reg rTrianglesOpenX5 false [] [2, 3]) .ret))))
def qTrianglesOpen : AFn := ⟨23, 1, [.c 2 (some 4), .t 3], cTrianglesOpen⟩
/- cohesion/triangles.Insert -/
def rTrianglesInsertX0 : List O := [
 oo 3 <| .box (.t 0),
 oo 6 <| .new [(.int .i64 0), (.own 2 []), (.int .i64 0), (.own 1 [])],
 oo 7 <| .mv (ki 0),
 oo 8 <| .mv (ki 0)]
def rTrianglesInsertX1 : List O := [
 oo 11 <| .ld (some 4) (.t 3),
 oo 12 <| .call nTrianglesValid [(.t 11)],
 oo 13 <| .un .not (.t 12)]
def rTrianglesInsertX2 : List O := [
 oo 14 <| .build [(.int .i64 0), (.own 2 []), (.int .i64 0), (.own 1 [])] [],
 oz <| .st 4 (.t 6) (.t 14),
 oo 7 <| .mv (ki 0),
 oo 8 <| .mv (ki 35)]
def rTrianglesInsertX3 : List O := [
 oo 16 <| .fad 0 (.t 3),
 oo 17 <| .ld (some 2) (.t 16),
 oo 18 <| .mv (.t 1),
 oo 19 <| .mv (.t 2),
 oo 20 <| .call nGraphAdd [(.t 17), (.t 18), (.t 19)],
 oo 15 <| .mv (.t 20),
 oo 21 <| .ext 0 (.t 15),
 oo 22 <| .ext 1 (.t 15),
 oo 9 <| .new [(.int .i64 0), (.own 2 [])],
 oz <| .st 2 (.t 9) (.t 21),
 oo 10 <| .mv (.t 22)]
def rTrianglesInsertX4 : List O := [
 oo 23 <| .mv (.t 10),
 oo 24 <| .bin .neq (.t 23) (ki 0)]
def rTrianglesInsertX5 : List O := [
 oo 25 <| .build [(.int .i64 0), (.own 2 []), (.int .i64 0), (.own 1 [])] [],
 oo 26 <| .mv (.t 10),
 oz <| .st 4 (.t 6) (.t 25),
 oo 7 <| .mv (ki 0),
 oo 8 <| .mv (.t 26)]
def rTrianglesInsertX6 : List O := [
 oo 27 <| .ld (some 4) (.t 3),
 oo 28 <| .ld (some 2) (.t 9),
 oo 29 <| .mv (.t 1),
 oo 30 <| .mv (.t 2),
 oo 31 <| .call nTrianglesChanged [(.t 27), (.t 28), (.t 29), (.t 30), (ki 1)],
 oo 32 <| .ext 0 (.t 31),
 oo 33 <| .ext 1 (.t 31),
 oo 34 <| .ext 2 (.t 31),
 oz <| .st 4 (.t 6) (.t 32),
 oo 7 <| .mv (.t 33),
 oo 8 <| .mv (.t 34)]
def cTrianglesInsert : C := (.seq (.reg rTrianglesInsertX0 false [] [1, 2, 3, 6]) (.seq (.seq (.reg rTrianglesInsertX1 false [] [1, 2, 3, 6, 13]) (.cond (.t 13) (.seq (.reg rTrianglesInsertX2 false [] [6, 7, 8]) .ret) .skip)) (.seq (.reg rTrianglesInsertX3 false [] [1, 2, 3, 6, 9, 10]) (.seq (.seq (.reg rTrianglesInsertX4 false [] [1, 2, 3, 6, 9, 10, 24]) (.cond (.t 24) (.seq (.reg rTrianglesInsertX5 false [] [6, 7, 8]) .ret) .skip)) (.seq (.reg rTrianglesInsertX6 false [] [6, 7, 8]) .ret)))))
def qTrianglesInsert : AFn := ⟨35, 3, [.c 6 (some 4), .t 7, .t 8], cTrianglesInsert⟩
/- (*cohesion/cohesionmake.Deck).Next -/
def rMakeDeckNextX0 : List O := [
 oo 4 <| .mv (ki 0)]
def rMakeDeckNextX1 : List O := [
 oo 6 <| .mv (.t 1),
 oo 7 <| .bin .lss (.t 6) (ki 1),
 oo 8 <| .mv (.t 7),
 ⟨(some 9), (some (8, false)), .mv (.t 0)⟩,
 ⟨(some 10), (some (8, false)), .nilck (.t 9)⟩,
 ⟨(some 11), (some (8, false)), .fad 1 (.t 10)⟩,
 ⟨(some 12), (some (8, false)), .ld none (.t 11)⟩,
 ⟨(some 13), (some (8, false)), .mv (.t 0)⟩,
 ⟨(some 14), (some (8, false)), .nilck (.t 13)⟩,
 ⟨(some 15), (some (8, false)), .fad 0 (.t 14)⟩,
 ⟨(some 16), (some (8, false)), .ld none (.t 15)⟩,
 ⟨(some 17), (some (8, false)), .len (.t 16)⟩,
 ⟨(some 18), (some (8, false)), .bin .geq (.t 12) (.t 17)⟩,
 oo 19 <| .pick (.t 8) (.k (.bool true)) (.t 18)]
def rMakeDeckNextX2 : List O := [
 oo 4 <| .mv (ki 0)]
def rMakeDeckNextX3 : List O := [
 oo 20 <| .mv (.t 0),
 oo 21 <| .nilck (.t 20),
 oo 22 <| .fad 0 (.t 21),
 oo 23 <| .ld none (.t 22),
 oo 24 <| .mv (.t 0),
 oo 25 <| .nilck (.t 24),
 oo 26 <| .fad 1 (.t 25),
 oo 27 <| .ld none (.t 26),
 oo 28 <| .ixa 1 (.t 23) (.t 27),
 oo 29 <| .ld none (.t 28),
 oo 5 <| .mv (.t 29)]
def rMakeDeckNextX4 : List O := [
 oo 30 <| .mv (.t 0),
 oo 31 <| .nilck (.t 30),
 oo 32 <| .fad 1 (.t 31),
 oo 33 <| .ld none (.t 32),
 oo 34 <| .bin .add (.t 33) (ki 1),
 oo 35 <| .nilck (.t 30),
 oo 36 <| .fad 1 (.t 35),
 oz <| .st 1 (.t 36) (.t 34)]
def rMakeDeckNextX5 : List O := [
 oo 37 <| .mv (.t 5),
 oo 38 <| .mv (.t 1),
 oo 39 <| .call nMakeMod [(.t 37), (.t 38)],
 oo 4 <| .mv (.t 39)]
def cMakeDeckNext : C := (.seq (.reg rMakeDeckNextX0 false [] [0, 1]) (.seq (.seq (.reg rMakeDeckNextX1 true [(0, 0), (1, 1), (2, 2), (12, 12), (13, 13), (6, 7), (6, 8), (6, 9), (3, 10), (4, 10), (5, 10), (6, 10), (6, 11)] [0, 1, 19]) (.cond (.t 19) (.seq (.reg rMakeDeckNextX2 false [] [4]) .ret) .skip)) (.seq (.reg rMakeDeckNextX3 true [(8, 8), (9, 9), (10, 10), (3, 4), (3, 5), (3, 6), (0, 7), (1, 7), (2, 7), (3, 7)] [0, 1, 5]) (.seq (.reg rMakeDeckNextX4 false [] [1, 5]) (.seq (.reg rMakeDeckNextX5 false [] [4]) .ret)))))
def qMakeDeckNext : AFn := ⟨40, 2, [.t 4], cMakeDeckNext⟩
/- cohesion/triangles.Delete -/
def rTrianglesDeleteX0 : List O := [
 oo 3 <| .box (.t 0),
 oo 6 <| .new [(.int .i64 0), (.own 2 []), (.int .i64 0), (.own 1 [])],
 oo 7 <| .mv (ki 0),
 oo 8 <| .mv (ki 0)]
def rTrianglesDeleteX1 : List O := [
 oo 11 <| .ld (some 4) (.t 3),
 oo 12 <| .call nTrianglesValid [(.t 11)],
 oo 13 <| .un .not (.t 12)]
def rTrianglesDeleteX2 : List O := [
 oo 14 <| .build [(.int .i64 0), (.own 2 []), (.int .i64 0), (.own 1 [])] [],
 oz <| .st 4 (.t 6) (.t 14),
 oo 7 <| .mv (ki 0),
 oo 8 <| .mv (ki 35)]
def rTrianglesDeleteX3 : List O := [
 oo 16 <| .fad 0 (.t 3),
 oo 17 <| .ld (some 2) (.t 16),
 oo 18 <| .mv (.t 1),
 oo 19 <| .mv (.t 2),
 oo 20 <| .call nGraphRemove [(.t 17), (.t 18), (.t 19)],
 oo 15 <| .mv (.t 20),
 oo 21 <| .ext 0 (.t 15),
 oo 22 <| .ext 1 (.t 15),
 oo 9 <| .new [(.int .i64 0), (.own 2 [])],
 oz <| .st 2 (.t 9) (.t 21),
 oo 10 <| .mv (.t 22)]
def rTrianglesDeleteX4 : List O := [
 oo 23 <| .mv (.t 10),
 oo 24 <| .bin .neq (.t 23) (ki 0)]
def rTrianglesDeleteX5 : List O := [
 oo 25 <| .build [(.int .i64 0), (.own 2 []), (.int .i64 0), (.own 1 [])] [],
 oo 26 <| .mv (.t 10),
 oz <| .st 4 (.t 6) (.t 25),
 oo 7 <| .mv (ki 0),
 oo 8 <| .mv (.t 26)]
def rTrianglesDeleteX6 : List O := [
 oo 27 <| .ld (some 4) (.t 3),
 oo 28 <| .ld (some 2) (.t 9),
 oo 29 <| .mv (.t 1),
 oo 30 <| .mv (.t 2),
 oo 31 <| .call nTrianglesChanged [(.t 27), (.t 28), (.t 29), (.t 30), (.k (.int .i64 (-1)))],
 oo 32 <| .ext 0 (.t 31),
 oo 33 <| .ext 1 (.t 31),
 oo 34 <| .ext 2 (.t 31),
 oz <| .st 4 (.t 6) (.t 32),
 oo 7 <| .mv (.t 33),
 oo 8 <| .mv (.t 34)]
def cTrianglesDelete : C := (.seq (.reg rTrianglesDeleteX0 false [] [1, 2, 3, 6]) (.seq (.seq (.reg rTrianglesDeleteX1 false [] [1, 2, 3, 6, 13]) (.cond (.t 13) (.seq (.reg rTrianglesDeleteX2 false [] [6, 7, 8]) .ret) .skip)) (.seq (.reg rTrianglesDeleteX3 false [] [1, 2, 3, 6, 9, 10]) (.seq (.seq (.reg rTrianglesDeleteX4 false [] [1, 2, 3, 6, 9, 10, 24]) (.cond (.t 24) (.seq (.reg rTrianglesDeleteX5 false [] [6, 7, 8]) .ret) .skip)) (.seq (.reg rTrianglesDeleteX6 false [] [6, 7, 8]) .ret)))))
def qTrianglesDelete : AFn := ⟨35, 3, [.c 6 (some 4), .t 7, .t 8], cTrianglesDelete⟩
/- cohesion/cohesionref03.Common -/
def rRef03CommonX0 : List O := [
 oo 3 <| .box (.t 0),
 oo 6 <| .mv (.k (.own 1 []))]
def rRef03CommonX1 : List O := [
 oo 7 <| .mv (.t 1),
 oo 8 <| .mv (.t 2),
 oo 9 <| .bin .eql (.t 7) (.t 8)]
def rRef03CommonX2 : List O := [
 oo 6 <| .mv (.k (.own 1 []))]
def rRef03CommonX3 : List O := [
 oo 10 <| .ld (some 2) (.t 3),
 oo 11 <| .mv (.t 1),
 oo 12 <| .call nRef03Neighbours [(.t 10), (.t 11)],
 oo 13 <| .ld (some 2) (.t 3),
 oo 14 <| .mv (.t 2),
 oo 15 <| .call nRef03Neighbours [(.t 13), (.t 14)],
 oo 16 <| .call nRef02Meet [(.t 12), (.t 15)],
 oo 6 <| .mv (.t 16)]
def cRef03Common : C := (.seq (.reg rRef03CommonX0 false [] [1, 2, 3]) (.seq (.seq (.reg rRef03CommonX1 false [] [1, 2, 3, 9]) (.cond (.t 9) (.seq (.reg rRef03CommonX2 false [] [6]) .ret) .skip)) (.seq (.reg rRef03CommonX3 true [(5, 5), (6, 6), (7, 7), (0, 1), (0, 3), (1, 3), (2, 3), (0, 4), (2, 4), (3, 4)] [6]) .ret)))
def qRef03Common : AFn := ⟨17, 3, [.t 6], cRef03Common⟩
/- cohesion/triangles.Valid -/
def rTrianglesValidX0 : List O := [
 oo 1 <| .box (.t 0),
 oo 2 <| .mv (.k (.bool false))]
def rTrianglesValidX1 : List O := [
 oo 5 <| .fad 0 (.t 1),
 oo 6 <| .ld (some 2) (.t 5),
 oo 7 <| .call nGraphCheck [(.t 6)],
 oo 8 <| .bin .neq (.t 7) (ki 0)]
def rTrianglesValidX2 : List O := [
 oo 2 <| .mv (.k (.bool false))]
def rTrianglesValidX3 : List O := [
 oo 10 <| .fad 0 (.t 1),
 oo 11 <| .ld (some 2) (.t 10),
 oo 12 <| .call nTrianglesCounts [(.t 11)],
 oo 9 <| .mv (.t 12),
 oo 13 <| .ext 0 (.t 9),
 oo 14 <| .ext 1 (.t 9),
 oo 3 <| .mv (.t 13),
 oo 4 <| .mv (.t 14)]
def rTrianglesValidX4 : List O := [
 oo 15 <| .fad 2 (.t 1),
 oo 16 <| .ld none (.t 15),
 oo 17 <| .mv (.t 3),
 oo 18 <| .bin .eql (.t 16) (.t 17),
 oo 19 <| .mv (.t 18),
 ⟨(some 20), (some (19, true)), .fad 3 (.t 1)⟩,
 ⟨(some 21), (some (19, true)), .ld none (.t 20)⟩,
 ⟨(some 22), (some (19, true)), .mv (.t 4)⟩,
 ⟨(some 23), (some (19, true)), .call nSlicesEqualIntInt [(.t 21), (.t 22)]⟩,
 oo 24 <| .pick (.t 19) (.t 23) (.k (.bool false)),
 oo 2 <| .mv (.t 24)]
def cTrianglesValid : C := (.seq (.reg rTrianglesValidX0 false [] [1]) (.seq (.seq (.reg rTrianglesValidX1 false [] [1, 8]) (.cond (.t 8) (.seq (.reg rTrianglesValidX2 false [] [2]) .ret) .skip)) (.seq (.reg rTrianglesValidX3 false [] [1, 3, 4]) (.seq (.reg rTrianglesValidX4 false [] [2]) .ret))))
def qTrianglesValid : AFn := ⟨25, 1, [.t 2], cTrianglesValid⟩
/- cohesion/cohesionlaw29.ints -/
def rLaw29IntsX0 : List O := [
 oo 4 <| .mv (.k (.bool false))]
def rLaw29IntsX1 : List O := [
 oo 6 <| .mv (.t 0),
 oo 7 <| .len (.t 6),
 oo 8 <| .mv (.t 1),
 oo 9 <| .len (.t 8),
 oo 10 <| .bin .neq (.t 7) (.t 9)]
def rLaw29IntsX2 : List O := [
 oo 4 <| .mv (.k (.bool false))]
def rLaw29IntsX3 : List O := [
 oo 11 <| .mv (.t 0),
 oo 12 <| .len (.t 11),
 oo 13 <| .mv (ki 0)]
def rLaw29IntsX4 : List O := [
 oo 14 <| .bin .lss (.t 13) (.t 12)]
def rLaw29IntsX5 : List O := [
 oo 15 <| .mv (.t 13),
 oo 5 <| .mv (.t 15)]
def rLaw29IntsX6 : List O := [
 oo 16 <| .mv (.t 0),
 oo 17 <| .mv (.t 5),
 oo 18 <| .ixa 1 (.t 16) (.t 17),
 oo 19 <| .ld none (.t 18),
 oo 20 <| .mv (.t 1),
 oo 21 <| .mv (.t 5),
 oo 22 <| .ixa 1 (.t 20) (.t 21),
 oo 23 <| .ld none (.t 22),
 oo 24 <| .bin .neq (.t 19) (.t 23)]
def rLaw29IntsX7 : List O := [
 oo 4 <| .mv (.k (.bool false))]
def rLaw29IntsX8 : List O := [
 oo 25 <| .bin .add (.t 13) (ki 1),
 oo 13 <| .mv (.t 25)]
def lLaw29IntsX0 : C := (.seq (.reg rLaw29IntsX4 false [] [0, 1, 12, 13, 14]) (.seq (.cond (.t 14) .skip (.exit 0)) (.seq (.blk 1 (.seq (.reg rLaw29IntsX5 false [] [0, 1, 5, 12, 13]) (.seq (.reg rLaw29IntsX6 true [(8, 8), (3, 4), (3, 5), (3, 6), (0, 7), (1, 7), (2, 7), (3, 7)] [0, 1, 12, 13, 24]) (.cond (.t 24) (.seq (.reg rLaw29IntsX7 false [] [4]) .ret) .skip)))) (.reg rLaw29IntsX8 false [] [0, 1, 12, 13]))))
def rLaw29IntsX9 : List O := [
 oo 4 <| .mv (.k (.bool true))]
def cLaw29Ints : C := (.seq (.reg rLaw29IntsX0 false [] [0, 1]) (.seq (.seq (.reg rLaw29IntsX1 false [] [0, 1, 10]) (.cond (.t 10) (.seq (.reg rLaw29IntsX2 false [] [4]) .ret) .skip)) (.seq (.seq (.reg rLaw29IntsX3 false [] [0, 1, 12, 13]) (.blk 0 (.loop lLaw29IntsX0))) (.seq (.reg rLaw29IntsX9 false [] [4]) .ret))))
def qLaw29Ints : AFn := ⟨26, 2, [.t 4], cLaw29Ints⟩
/- cohesion/cohesionref03.Of -/
def rRef03OfX0 : List O := [
 oo 4 <| .new [(.int .i64 0), (.own 2 [])],
 oo 5 <| .mv (ki 0)]
def rRef03OfX1 : List O := [
 oo 9 <| .mv (.t 0),
 oo 10 <| .bin .lss (.t 9) (ki 0),
 oo 11 <| .mv (.t 10),
 ⟨(some 12), (some (11, false)), .mv (.t 0)⟩,
 ⟨(some 13), (some (11, false)), .bin .gtr (.t 12) (ki 64)⟩,
 oo 14 <| .pick (.t 11) (.k (.bool true)) (.t 13)]
def rRef03OfX2 : List O := [
 oo 15 <| .build [(.int .i64 0), (.own 2 [])] [],
 oz <| .st 2 (.t 4) (.t 15),
 oo 5 <| .mv (ki 1)]
def rRef03OfX3 : List O := [
 oo 16 <| .mv (.t 0),
 oo 17 <| .build [(.int .i64 0), (.own 2 [])] [(0, 1, (.t 16))],
 oo 6 <| .new [(.int .i64 0), (.own 2 [])],
 oz <| .st 2 (.t 6) (.t 17)]
def rRef03OfX4 : List O := [
 oo 18 <| .mv (.t 1),
 oo 19 <| .len (.t 18),
 oo 20 <| .mv (ki 0)]
def rRef03OfX5 : List O := [
 oo 21 <| .bin .lss (.t 20) (.t 19)]
def rRef03OfX6 : List O := [
 oo 22 <| .ixa 2 (.t 18) (.t 20),
 oo 23 <| .ld (some 2) (.t 22),
 oo 8 <| .new [(.int .i64 0), (.int .i64 0)],
 oz <| .st 2 (.t 8) (.t 23)]
def rRef03OfX7 : List O := [
 oo 24 <| .mv (.t 0),
 oo 25 <| .fad 0 (.t 8),
 oo 26 <| .ld none (.t 25),
 oo 27 <| .fad 1 (.t 8),
 oo 28 <| .ld none (.t 27),
 oo 29 <| .call nRef03Ends [(.t 24), (.t 26), (.t 28)],
 oo 30 <| .un .not (.t 29)]
def rRef03OfX8 : List O := [
 oo 31 <| .build [(.int .i64 0), (.own 2 [])] [],
 oz <| .st 2 (.t 4) (.t 31),
 oo 5 <| .mv (ki 6)]
def rRef03OfX9 : List O := [
 oo 32 <| .fad 1 (.t 6),
 oo 33 <| .ld none (.t 32),
 oo 34 <| .fad 0 (.t 8),
 oo 35 <| .ld none (.t 34),
 oo 36 <| .fad 1 (.t 8),
 oo 37 <| .ld none (.t 36),
 oo 38 <| .call nRef03Edge [(.t 35), (.t 37)],
 oo 39 <| .call nRef03With [(.t 33), (.t 38)],
 oo 40 <| .fad 1 (.t 6),
 oz <| .st 1 (.t 40) (.t 39)]
def rRef03OfX10 : List O := [
 oo 41 <| .bin .add (.t 20) (ki 1),
 oo 20 <| .mv (.t 41)]
def lRef03OfX0 : C := (.seq (.reg rRef03OfX5 false [] [0, 4, 6, 18, 19, 20, 21]) (.seq (.cond (.t 21) .skip (.exit 0)) (.seq (.blk 1 (.seq (.reg rRef03OfX6 false [] [0, 4, 6, 8, 18, 19, 20]) (.seq (.seq (.reg rRef03OfX7 false [] [0, 4, 6, 8, 18, 19, 20, 30]) (.cond (.t 30) (.seq (.reg rRef03OfX8 false [] [4, 5]) .ret) .skip)) (.reg rRef03OfX9 true [(7, 7), (8, 8), (9, 9), (1, 2), (0, 3), (1, 3), (1, 4), (3, 4), (0, 5), (1, 5), (2, 5), (3, 5), (0, 6), (1, 6)] [0, 4, 6, 18, 19, 20])))) (.reg rRef03OfX10 false [] [0, 4, 6, 18, 19, 20]))))
def rRef03OfX11 : List O := [
 oo 42 <| .ld (some 2) (.t 6),
 oz <| .st 2 (.t 4) (.t 42),
 oo 5 <| .mv (ki 0)]
def cRef03Of : C := (.seq (.reg rRef03OfX0 false [] [0, 1, 4]) (.seq (.seq (.reg rRef03OfX1 false [] [0, 1, 4, 14]) (.cond (.t 14) (.seq (.reg rRef03OfX2 false [] [4, 5]) .ret) .skip)) (.seq (.reg rRef03OfX3 false [] [0, 1, 4, 6]) (.seq (.seq (.reg rRef03OfX4 false [] [0, 4, 6, 18, 19, 20]) (.blk 0 (.loop lRef03OfX0))) (.seq (.reg rRef03OfX11 false [] [4, 5]) .ret)))))
def qRef03Of : AFn := ⟨43, 2, [.c 4 (some 2), .t 5], cRef03Of⟩
/- cohesion/triangles.Whole -/
def rTrianglesWholeX0 : List O := [
 oo 1 <| .box (.t 0),
 oo 2 <| .new [(.int .i64 0), (.int .i64 0)],
 oo 3 <| .mv (ki 0)]
def rTrianglesWholeX1 : List O := [
 oo 10 <| .ld (some 2) (.t 1),
 oo 11 <| .call nGraphCheck [(.t 10)],
 oo 4 <| .mv (.t 11)]
def rTrianglesWholeX2 : List O := [
 oo 12 <| .mv (.t 4),
 oo 13 <| .bin .neq (.t 12) (ki 0)]
def rTrianglesWholeX3 : List O := [
 oo 14 <| .build [(.int .i64 0), (.int .i64 0)] [],
 oo 15 <| .mv (.t 4),
 oz <| .st 2 (.t 2) (.t 14),
 oo 3 <| .mv (.t 15)]
def rTrianglesWholeX4 : List O := [
 oo 17 <| .ld (some 2) (.t 1),
 oo 18 <| .call nTrianglesCounts [(.t 17)],
 oo 16 <| .mv (.t 18),
 oo 19 <| .ext 0 (.t 16),
 oo 20 <| .ext 1 (.t 16),
 oo 5 <| .mv (.t 19),
 oo 6 <| .mv (.t 20)]
def rTrianglesWholeX5 : List O := [
 oo 7 <| .mv (ki 0)]
def rTrianglesWholeX6 : List O := [
 oo 21 <| .ld (some 2) (.t 1),
 oo 22 <| .call nTrianglesLists [(.t 21)],
 oo 23 <| .len (.t 22),
 oo 24 <| .mv (ki 0)]
def rTrianglesWholeX7 : List O := [
 oo 25 <| .bin .lss (.t 24) (.t 23)]
def rTrianglesWholeX8 : List O := [
 oo 26 <| .ixa 1 (.t 22) (.t 24),
 oo 27 <| .ld none (.t 26),
 oo 9 <| .mv (.t 27)]
def rTrianglesWholeX9 : List O := [
 oo 28 <| .mv (.t 7),
 oo 29 <| .mv (.t 9),
 oo 30 <| .len (.t 29),
 oo 31 <| .call nTrianglesPairs [(.t 30)],
 oo 32 <| .bin .add (.t 28) (.t 31),
 oo 7 <| .mv (.t 32)]
def rTrianglesWholeX10 : List O := [
 oo 33 <| .bin .add (.t 24) (ki 1),
 oo 24 <| .mv (.t 33)]
def lTrianglesWholeX0 : C := (.seq (.reg rTrianglesWholeX7 false [] [2, 5, 7, 22, 23, 24, 25]) (.seq (.cond (.t 25) .skip (.exit 0)) (.seq (.blk 1 (.seq (.reg rTrianglesWholeX8 false [] [2, 5, 7, 9, 22, 23, 24]) (.reg rTrianglesWholeX9 false [] [2, 5, 7, 22, 23, 24]))) (.reg rTrianglesWholeX10 false [] [2, 5, 7, 22, 23, 24]))))
def rTrianglesWholeX11 : List O := [
 oo 34 <| .mv (.t 5),
 oo 35 <| .bin .mul (ki 3) (.t 34),
 oo 36 <| .mv (.t 7),
 oo 37 <| .call nTrianglesShare [(.t 35), (.t 36)],
 oo 38 <| .ext 0 (.t 37),
 oo 39 <| .ext 1 (.t 37),
 oz <| .st 2 (.t 2) (.t 38),
 oo 3 <| .mv (.t 39)]
def cTrianglesWhole : C := (.seq (.reg rTrianglesWholeX0 false [] [1, 2]) (.seq (.seq (.reg rTrianglesWholeX1 false [] [1, 2, 4]) (.seq (.reg rTrianglesWholeX2 false [] [1, 2, 4, 13]) (.cond (.t 13) (.seq (.reg rTrianglesWholeX3 false [] [2, 3]) .ret) .skip))) (.seq (.reg rTrianglesWholeX4 false [] [1, 2, 5]) (.seq (.reg rTrianglesWholeX5 false [] [1, 2, 5, 7]) (.seq (.seq (.reg rTrianglesWholeX6 false [] [2, 5, 7, 22, 23, 24]) (.blk 0 (.loop lTrianglesWholeX0))) (.seq (.reg rTrianglesWholeX11 false [] [2, 3]) .ret))))))
def qTrianglesWhole : AFn := ⟨40, 1, [.c 2 (some 2), .t 3], cTrianglesWhole⟩
/- cohesion/graph.Check -/
def rGraphCheckX0 : List O := [
 oo 1 <| .box (.t 0),
 oo 2 <| .mv (ki 0)]
def rGraphCheckX1 : List O := [
 oo 5 <| .fad 0 (.t 1),
 oo 6 <| .ld none (.t 5),
 oo 7 <| .bin .lss (.t 6) (ki 0),
 oo 8 <| .mv (.t 7),
 ⟨(some 9), (some (8, false)), .fad 0 (.t 1)⟩,
 ⟨(some 10), (some (8, false)), .ld none (.t 9)⟩,
 ⟨(some 11), (some (8, false)), .bin .gtr (.t 10) (ki 64)⟩,
 oo 12 <| .pick (.t 8) (.k (.bool true)) (.t 11)]
def rGraphCheckX2 : List O := [
 oo 2 <| .mv (ki 1)]
def rGraphCheckX3 : List O := [
 oo 13 <| .fad 1 (.t 1),
 oo 14 <| .ld none (.t 13),
 oo 15 <| .len (.t 14),
 oo 16 <| .mv (ki 0)]
def rGraphCheckX4 : List O := [
 oo 17 <| .bin .lss (.t 16) (.t 15)]
def rGraphCheckX5 : List O := [
 oo 18 <| .mv (.t 16),
 oo 19 <| .ixa 2 (.t 14) (.t 16),
 oo 20 <| .ld (some 2) (.t 19),
 oo 4 <| .new [(.int .i64 0), (.int .i64 0)],
 oo 3 <| .mv (.t 18),
 oz <| .st 2 (.t 4) (.t 20)]
def rGraphCheckX6 : List O := [
 oo 22 <| .fad 0 (.t 4),
 oo 23 <| .ld none (.t 22),
 oo 24 <| .bin .lss (.t 23) (ki 0),
 oo 25 <| .mv (.t 24),
 ⟨(some 26), (some (25, false)), .fad 0 (.t 4)⟩,
 ⟨(some 27), (some (25, false)), .ld none (.t 26)⟩,
 ⟨(some 28), (some (25, false)), .fad 1 (.t 4)⟩,
 ⟨(some 29), (some (25, false)), .ld none (.t 28)⟩,
 ⟨(some 30), (some (25, false)), .bin .geq (.t 27) (.t 29)⟩,
 oo 31 <| .pick (.t 25) (.k (.bool true)) (.t 30),
 oo 32 <| .mv (.t 31),
 ⟨(some 33), (some (32, false)), .fad 1 (.t 4)⟩,
 ⟨(some 34), (some (32, false)), .ld none (.t 33)⟩,
 ⟨(some 35), (some (32, false)), .fad 0 (.t 1)⟩,
 ⟨(some 36), (some (32, false)), .ld none (.t 35)⟩,
 ⟨(some 37), (some (32, false)), .bin .geq (.t 34) (.t 36)⟩,
 oo 38 <| .pick (.t 32) (.k (.bool true)) (.t 37),
 oo 21 <| .mv (.t 38)]
def rGraphCheckX7 : List O := [
 oo 2 <| .mv (ki 6)]
def rGraphCheckX8 : List O := [
 oo 40 <| .mv (.t 3),
 oo 41 <| .bin .gtr (.t 40) (ki 0),
 oo 42 <| .mv (.t 41),
 ⟨(some 43), (some (42, true)), .fad 1 (.t 1)⟩,
 ⟨(some 44), (some (42, true)), .ld none (.t 43)⟩,
 ⟨(some 45), (some (42, true)), .mv (.t 3)⟩,
 ⟨(some 46), (some (42, true)), .bin .sub (.t 45) (ki 1)⟩,
 ⟨(some 47), (some (42, true)), .ixa 2 (.t 44) (.t 46)⟩,
 ⟨(some 48), (some (42, true)), .ld (some 2) (.t 47)⟩,
 ⟨(some 49), (some (42, true)), .ld (some 2) (.t 4)⟩,
 ⟨(some 50), (some (42, true)), .call nGraphOrder [(.t 48), (.t 49)]⟩,
 ⟨(some 51), (some (42, true)), .bin .geq (.t 50) (ki 0)⟩,
 oo 52 <| .pick (.t 42) (.t 51) (.k (.bool false)),
 oo 39 <| .mv (.t 52)]
def rGraphCheckX9 : List O := [
 oo 2 <| .mv (ki 5)]
def rGraphCheckX10 : List O := [
 oo 53 <| .bin .add (.t 16) (ki 1),
 oo 16 <| .mv (.t 53)]
def lGraphCheckX0 : C := (.seq (.reg rGraphCheckX4 false [] [1, 14, 15, 16, 17]) (.seq (.cond (.t 17) .skip (.exit 0)) (.seq (.blk 1 (.seq (.reg rGraphCheckX5 false [] [1, 3, 4, 14, 15, 16]) (.blk 2 (.seq (.reg rGraphCheckX6 false [] [1, 3, 4, 14, 15, 16, 21]) (.cond (.t 21) (.seq (.reg rGraphCheckX7 false [] [2]) .ret) (.seq (.reg rGraphCheckX8 true [(0, 0), (1, 1), (2, 2), (10, 10), (11, 11), (12, 12), (13, 13), (4, 5), (4, 6), (3, 9), (4, 9), (5, 9), (6, 9), (7, 9), (8, 9)] [1, 14, 15, 16, 39]) (.cond (.t 39) (.seq (.reg rGraphCheckX9 false [] [2]) .ret) .skip))))))) (.reg rGraphCheckX10 false [] [1, 14, 15, 16]))))
def rGraphCheckX11 : List O := [
 oo 2 <| .mv (ki 0)]
def cGraphCheck : C := (.seq (.reg rGraphCheckX0 false [] [1]) (.seq (.seq (.reg rGraphCheckX1 false [] [1, 12]) (.cond (.t 12) (.seq (.reg rGraphCheckX2 false [] [2]) .ret) .skip)) (.seq (.seq (.reg rGraphCheckX3 false [] [1, 14, 15, 16]) (.blk 0 (.loop lGraphCheckX0))) (.seq (.reg rGraphCheckX11 false [] [2]) .ret))))
def qGraphCheck : AFn := ⟨54, 1, [.t 2], cGraphCheck⟩
/- cohesion/triangles.counts -/
def rTrianglesCountsX0 : List O := [
 oo 1 <| .box (.t 0),
 oo 2 <| .mv (ki 0),
 oo 3 <| .mv (.k (.own 1 []))]
def rTrianglesCountsX1 : List O := [
 oo 11 <| .ld (some 2) (.t 1),
 oo 12 <| .call nTrianglesLists [(.t 11)],
 oo 4 <| .mv (.t 12)]
def rTrianglesCountsX2 : List O := [
 oo 13 <| .fad 0 (.t 1),
 oo 14 <| .ld none (.t 13),
 oo 15 <| .mks 1 [(.int .i64 0)] (.t 14) (.t 14),
 oo 5 <| .mv (ki 0),
 oo 6 <| .mv (.t 15)]
def rTrianglesCountsX3 : List O := [
 oo 16 <| .fad 1 (.t 1),
 oo 17 <| .ld none (.t 16),
 oo 18 <| .len (.t 17),
 oo 19 <| .mv (ki 0)]
def rTrianglesCountsX4 : List O := [
 oo 20 <| .bin .lss (.t 19) (.t 18)]
def rTrianglesCountsX5 : List O := [
 oo 21 <| .ixa 2 (.t 17) (.t 19),
 oo 22 <| .ld (some 2) (.t 21),
 oo 8 <| .new [(.int .i64 0), (.int .i64 0)],
 oz <| .st 2 (.t 8) (.t 22)]
def rTrianglesCountsX6 : List O := [
 oo 23 <| .mv (.t 4),
 oo 24 <| .fad 0 (.t 8),
 oo 25 <| .ld none (.t 24),
 oo 26 <| .ixa 1 (.t 23) (.t 25),
 oo 27 <| .ld none (.t 26),
 oo 28 <| .mv (.t 4),
 oo 29 <| .fad 1 (.t 8),
 oo 30 <| .ld none (.t 29),
 oo 31 <| .ixa 1 (.t 28) (.t 30),
 oo 32 <| .ld none (.t 31),
 oo 33 <| .call nTrianglesSharedInt [(.t 27), (.t 32)],
 oo 34 <| .len (.t 33),
 oo 35 <| .mv (ki 0)]
def rTrianglesCountsX7 : List O := [
 oo 36 <| .bin .lss (.t 35) (.t 34)]
def rTrianglesCountsX8 : List O := [
 oo 37 <| .ixa 1 (.t 33) (.t 35),
 oo 38 <| .ld none (.t 37),
 oo 10 <| .mv (.t 38)]
def rTrianglesCountsX9 : List O := [
 oo 39 <| .mv (.t 6),
 oo 40 <| .mv (.t 10),
 oo 41 <| .ixa 1 (.t 39) (.t 40),
 oo 42 <| .ld none (.t 41),
 oo 43 <| .bin .add (.t 42) (ki 1),
 oo 44 <| .ixa 1 (.t 39) (.t 40),
 oz <| .st 1 (.t 44) (.t 43)]
def rTrianglesCountsX10 : List O := [
 oo 45 <| .mv (.t 5),
 oo 46 <| .bin .add (.t 45) (ki 1),
 oo 5 <| .mv (.t 46)]
def rTrianglesCountsX11 : List O := [
 oo 47 <| .bin .add (.t 35) (ki 1),
 oo 35 <| .mv (.t 47)]
def lTrianglesCountsX0 : C := (.seq (.reg rTrianglesCountsX7 false [] [4, 5, 6, 17, 18, 19, 33, 34, 35, 36]) (.seq (.cond (.t 36) .skip (.exit 2)) (.seq (.blk 3 (.seq (.reg rTrianglesCountsX8 false [] [4, 5, 6, 10, 17, 18, 19, 33, 34, 35]) (.seq (.reg rTrianglesCountsX9 false [] [4, 5, 6, 17, 18, 19, 33, 34, 35]) (.reg rTrianglesCountsX10 false [] [4, 5, 6, 17, 18, 19, 33, 34, 35])))) (.reg rTrianglesCountsX11 false [] [4, 5, 6, 17, 18, 19, 33, 34, 35]))))
def rTrianglesCountsX12 : List O := [
 oo 48 <| .bin .add (.t 19) (ki 1),
 oo 19 <| .mv (.t 48)]
def lTrianglesCountsX1 : C := (.seq (.reg rTrianglesCountsX4 false [] [4, 5, 6, 17, 18, 19, 20]) (.seq (.cond (.t 20) .skip (.exit 0)) (.seq (.blk 1 (.seq (.reg rTrianglesCountsX5 false [] [4, 5, 6, 8, 17, 18, 19]) (.seq (.reg rTrianglesCountsX6 true [(0, 2), (2, 5), (4, 5), (2, 6), (4, 6), (0, 7), (1, 7), (2, 7), (3, 7), (4, 7), (5, 7), (2, 8), (4, 8), (0, 9), (1, 9), (2, 9), (3, 9), (4, 9), (2, 12), (4, 12), (7, 12), (9, 12), (10, 12)] [4, 5, 6, 17, 18, 19, 33, 34, 35]) (.blk 2 (.loop lTrianglesCountsX0))))) (.reg rTrianglesCountsX12 false [] [4, 5, 6, 17, 18, 19]))))
def rTrianglesCountsX13 : List O := [
 oo 49 <| .mv (.t 5),
 oo 50 <| .bin .quo (.t 49) (ki 3),
 oo 51 <| .mv (.t 6),
 oo 2 <| .mv (.t 50),
 oo 3 <| .mv (.t 51)]
def cTrianglesCounts : C := (.seq (.reg rTrianglesCountsX0 false [] [1]) (.seq (.reg rTrianglesCountsX1 false [] [1, 4]) (.seq (.reg rTrianglesCountsX2 true [(4, 4), (1, 3)] [1, 4, 5, 6]) (.seq (.seq (.reg rTrianglesCountsX3 false [] [4, 5, 6, 17, 18, 19]) (.blk 0 (.loop lTrianglesCountsX1))) (.seq (.reg rTrianglesCountsX13 false [] [2, 3]) .ret)))))
def qTrianglesCounts : AFn := ⟨52, 1, [.t 2, .t 3], cTrianglesCounts⟩
/- cohesion/triangles.copied -/
def rTrianglesCopiedX0 : List O := [
 oo 1 <| .box (.t 0),
 oo 2 <| .new [(.int .i64 0), (.own 2 [])]]
def rTrianglesCopiedX1 : List O := [
 oo 3 <| .fad 1 (.t 1),
 oo 4 <| .ld none (.t 3),
 oo 5 <| .call nSlicesCloneApiEdgeApiEdge [(.t 4)],
 oo 6 <| .fad 1 (.t 1),
 oz <| .st 1 (.t 6) (.t 5)]
def rTrianglesCopiedX2 : List O := [
 oo 7 <| .ld (some 2) (.t 1),
 oz <| .st 2 (.t 2) (.t 7)]
def cTrianglesCopied : C := (.seq (.reg rTrianglesCopiedX0 false [] [1, 2]) (.seq (.reg rTrianglesCopiedX1 false [] [1, 2]) (.seq (.reg rTrianglesCopiedX2 false [] [2]) .ret)))
def qTrianglesCopied : AFn := ⟨8, 1, [.c 2 (some 2)], cTrianglesCopied⟩
/- cohesion/graph.Add -/
def rGraphAddX0 : List O := [
 oo 3 <| .box (.t 0),
 oo 6 <| .new [(.int .i64 0), (.own 2 [])],
 oo 7 <| .mv (ki 0)]
def rGraphAddX1 : List O := [
 oo 11 <| .ld (some 2) (.t 3),
 oo 12 <| .mv (.t 1),
 oo 13 <| .mv (.t 2),
 oo 14 <| .call nGraphChange [(.t 11), (.t 12), (.t 13)],
 oo 8 <| .mv (.t 14)]
def rGraphAddX2 : List O := [
 oo 15 <| .mv (.t 8),
 oo 16 <| .bin .neq (.t 15) (ki 0)]
def rGraphAddX3 : List O := [
 oo 17 <| .build [(.int .i64 0), (.own 2 [])] [],
 oo 18 <| .mv (.t 8),
 oz <| .st 2 (.t 6) (.t 17),
 oo 7 <| .mv (.t 18)]
def rGraphAddX4 : List O := [
 oo 20 <| .ld (some 2) (.t 3),
 oo 21 <| .mv (.t 1),
 oo 22 <| .mv (.t 2),
 oo 23 <| .call nGraphPlace [(.t 20), (.t 21), (.t 22)],
 oo 19 <| .mv (.t 23),
 oo 24 <| .ext 0 (.t 19),
 oo 25 <| .ext 1 (.t 19),
 oo 9 <| .mv (.t 24),
 oo 10 <| .mv (.t 25)]
def rGraphAddX5 : List O := [
 oo 26 <| .mv (.t 10)]
def rGraphAddX6 : List O := [
 oo 27 <| .build [(.int .i64 0), (.own 2 [])] [],
 oz <| .st 2 (.t 6) (.t 27),
 oo 7 <| .mv (ki 15)]
def rGraphAddX7 : List O := [
 oo 28 <| .fad 0 (.t 3),
 oo 29 <| .ld none (.t 28),
 oo 30 <| .fad 1 (.t 3),
 oo 31 <| .ld none (.t 30),
 oo 32 <| .call nSlicesCloneApiEdgeApiEdge [(.t 31)],
 oo 33 <| .mv (.t 9),
 oo 34 <| .mv (.t 1),
 oo 35 <| .mv (.t 2),
 oo 36 <| .call nGraphEdge [(.t 34), (.t 35)],
 oo 37 <| .bslice 2 1 [(.int .i64 0), (.int .i64 0)] [(0, 2, (.t 36))],
 oo 38 <| .call nSlicesInsertApiEdgeApiEdge [(.t 32), (.t 33), (.t 37)],
 oo 39 <| .build [(.int .i64 0), (.own 2 [])] [(0, 1, (.t 29)), (1, 1, (.t 38))],
 oz <| .st 2 (.t 6) (.t 39),
 oo 7 <| .mv (ki 0)]
def cGraphAdd : C := (.seq (.reg rGraphAddX0 false [] [1, 2, 3, 6]) (.seq (.seq (.reg rGraphAddX1 false [] [1, 2, 3, 6, 8]) (.seq (.reg rGraphAddX2 false [] [1, 2, 3, 6, 8, 16]) (.cond (.t 16) (.seq (.reg rGraphAddX3 false [] [6, 7]) .ret) .skip))) (.seq (.reg rGraphAddX4 false [] [1, 2, 3, 6, 9, 10]) (.seq (.seq (.reg rGraphAddX5 false [] [1, 2, 3, 6, 9, 26]) (.cond (.t 26) (.seq (.reg rGraphAddX6 false [] [6, 7]) .ret) .skip)) (.seq (.reg rGraphAddX7 true [(11, 11), (12, 12), (13, 13), (1, 2), (0, 3), (1, 3), (0, 4), (1, 4), (1, 5), (3, 5), (4, 5), (1, 6), (3, 6), (4, 6), (1, 7), (3, 7), (4, 7), (0, 8), (1, 8), (5, 8), (0, 9), (1, 9), (5, 9), (0, 10), (1, 10)] [6, 7]) .ret)))))
def qGraphAdd : AFn := ⟨40, 3, [.c 6 (some 2), .t 7], cGraphAdd⟩
/- cohesion/triangles.changed -/
def rTrianglesChangedX0 : List O := [
 oo 5 <| .box (.t 0),
 oo 6 <| .box (.t 1),
 oo 10 <| .new [(.int .i64 0), (.own 2 []), (.int .i64 0), (.own 1 [])],
 oo 11 <| .mv (ki 0),
 oo 12 <| .mv (ki 0)]
def rTrianglesChangedX1 : List O := [
 oo 18 <| .fad 0 (.t 5),
 oo 19 <| .ld (some 2) (.t 18),
 oo 20 <| .call nTrianglesLists [(.t 19)],
 oo 13 <| .mv (.t 20)]
def rTrianglesChangedX2 : List O := [
 oo 21 <| .mv (.t 13),
 oo 22 <| .mv (.t 2),
 oo 23 <| .ixa 1 (.t 21) (.t 22),
 oo 24 <| .ld none (.t 23),
 oo 25 <| .mv (.t 13),
 oo 26 <| .mv (.t 3),
 oo 27 <| .ixa 1 (.t 25) (.t 26),
 oo 28 <| .ld none (.t 27),
 oo 29 <| .call nTrianglesSharedInt [(.t 24), (.t 28)],
 oo 14 <| .mv (.t 29)]
def rTrianglesChangedX3 : List O := [
 oo 30 <| .ld (some 2) (.t 6),
 oo 31 <| .fad 2 (.t 5),
 oo 32 <| .ld none (.t 31),
 oo 33 <| .mv (.t 4),
 oo 34 <| .mv (.t 14),
 oo 35 <| .len (.t 34),
 oo 36 <| .bin .mul (.t 33) (.t 35),
 oo 37 <| .bin .add (.t 32) (.t 36),
 oo 38 <| .fad 3 (.t 5),
 oo 39 <| .ld none (.t 38),
 oo 40 <| .call nSlicesCloneIntInt [(.t 39)],
 oo 41 <| .build [(.int .i64 0), (.own 2 []), (.int .i64 0), (.own 1 [])] [(0, 2, (.t 30)), (2, 1, (.t 37)), (3, 1, (.t 40))],
 oo 15 <| .new [(.int .i64 0), (.own 2 []), (.int .i64 0), (.own 1 [])],
 oz <| .st 4 (.t 15) (.t 41)]
def rTrianglesChangedX4 : List O := [
 oo 42 <| .mv (.t 14),
 oo 43 <| .len (.t 42),
 oo 44 <| .mv (ki 0)]
def rTrianglesChangedX5 : List O := [
 oo 45 <| .bin .lss (.t 44) (.t 43)]
def rTrianglesChangedX6 : List O := [
 oo 46 <| .ixa 1 (.t 42) (.t 44),
 oo 47 <| .ld none (.t 46),
 oo 17 <| .mv (.t 47)]
def rTrianglesChangedX7 : List O := [
 oo 48 <| .fad 3 (.t 15),
 oo 49 <| .ld none (.t 48),
 oo 50 <| .mv (.t 17),
 oo 51 <| .ixa 1 (.t 49) (.t 50),
 oo 52 <| .ld none (.t 51),
 oo 53 <| .mv (.t 4),
 oo 54 <| .bin .add (.t 52) (.t 53),
 oo 55 <| .ixa 1 (.t 49) (.t 50),
 oz <| .st 1 (.t 55) (.t 54)]
def rTrianglesChangedX8 : List O := [
 oo 56 <| .bin .add (.t 44) (ki 1),
 oo 44 <| .mv (.t 56)]
def lTrianglesChangedX0 : C := (.seq (.reg rTrianglesChangedX5 false [] [2, 3, 4, 10, 14, 15, 42, 43, 44, 45]) (.seq (.cond (.t 45) .skip (.exit 0)) (.seq (.blk 1 (.seq (.reg rTrianglesChangedX6 false [] [2, 3, 4, 10, 14, 15, 17, 42, 43, 44]) (.reg rTrianglesChangedX7 false [] [2, 3, 4, 10, 14, 15, 42, 43, 44]))) (.reg rTrianglesChangedX8 false [] [2, 3, 4, 10, 14, 15, 42, 43, 44]))))
def rTrianglesChangedX9 : List O := [
 oo 57 <| .fad 3 (.t 15),
 oo 58 <| .ld none (.t 57),
 oo 59 <| .mv (.t 2),
 oo 60 <| .ixa 1 (.t 58) (.t 59),
 oo 61 <| .ld none (.t 60),
 oo 62 <| .mv (.t 4),
 oo 63 <| .mv (.t 14),
 oo 64 <| .len (.t 63),
 oo 65 <| .bin .mul (.t 62) (.t 64),
 oo 66 <| .bin .add (.t 61) (.t 65),
 oo 67 <| .ixa 1 (.t 58) (.t 59),
 oz <| .st 1 (.t 67) (.t 66)]
def rTrianglesChangedX10 : List O := [
 oo 68 <| .fad 3 (.t 15),
 oo 69 <| .ld none (.t 68),
 oo 70 <| .mv (.t 3),
 oo 71 <| .ixa 1 (.t 69) (.t 70),
 oo 72 <| .ld none (.t 71),
 oo 73 <| .mv (.t 4),
 oo 74 <| .mv (.t 14),
 oo 75 <| .len (.t 74),
 oo 76 <| .bin .mul (.t 73) (.t 75),
 oo 77 <| .bin .add (.t 72) (.t 76),
 oo 78 <| .ixa 1 (.t 69) (.t 70),
 oz <| .st 1 (.t 78) (.t 77)]
def rTrianglesChangedX11 : List O := [
 oo 79 <| .ld (some 4) (.t 15),
 oo 80 <| .mv (.t 14),
 oo 81 <| .len (.t 80),
 oz <| .st 4 (.t 10) (.t 79),
 oo 11 <| .mv (.t 81),
 oo 12 <| .mv (ki 0)]
def cTrianglesChanged : C := (.seq (.reg rTrianglesChangedX0 false [] [2, 3, 4, 5, 6, 10]) (.seq (.reg rTrianglesChangedX1 false [] [2, 3, 4, 5, 6, 10, 13]) (.seq (.reg rTrianglesChangedX2 true [(8, 8), (9, 9), (3, 4), (3, 5), (3, 6), (0, 7), (1, 7), (2, 7), (3, 7)] [2, 3, 4, 5, 6, 10, 14]) (.seq (.reg rTrianglesChangedX3 true [(13, 13), (0, 1), (0, 2), (0, 3), (2, 3), (0, 4), (2, 4), (0, 5), (2, 5), (0, 6), (2, 6), (0, 7), (0, 8), (2, 8), (0, 9), (1, 9), (2, 9), (3, 9), (4, 9), (5, 9), (6, 9), (7, 9), (0, 10), (1, 10), (2, 10), (3, 10), (4, 10), (5, 10), (6, 10), (7, 10), (0, 12), (1, 12), (2, 12), (3, 12), (4, 12), (5, 12), (6, 12), (7, 12), (8, 12), (9, 12), (10, 12), (11, 12)] [2, 3, 4, 10, 14, 15]) (.seq (.seq (.reg rTrianglesChangedX4 false [] [2, 3, 4, 10, 14, 15, 42, 43, 44]) (.blk 0 (.loop lTrianglesChangedX0))) (.seq (.reg rTrianglesChangedX9 false [] [3, 4, 10, 14, 15]) (.seq (.reg rTrianglesChangedX10 false [] [10, 14, 15]) (.seq (.reg rTrianglesChangedX11 false [] [10, 11, 12]) .ret))))))))
def qTrianglesChanged : AFn := ⟨82, 5, [.c 10 (some 4), .t 11, .t 12], cTrianglesChanged⟩
/- cohesion/cohesionmake.Mod -/
def rMakeModX0 : List O := [
 oo 4 <| .mv (ki 0)]
def rMakeModX1 : List O := [
 oo 5 <| .mv (.t 0),
 oo 6 <| .mv (.t 1),
 oo 7 <| .bin .rem (.t 5) (.t 6),
 oo 8 <| .mv (.t 1),
 oo 9 <| .bin .add (.t 7) (.t 8),
 oo 10 <| .mv (.t 1),
 oo 11 <| .bin .rem (.t 9) (.t 10),
 oo 4 <| .mv (.t 11)]
def cMakeMod : C := (.seq (.reg rMakeModX0 false [] [0, 1]) (.seq (.reg rMakeModX1 false [] [4]) .ret))
def qMakeMod : AFn := ⟨12, 2, [.t 4], cMakeMod⟩
/- cohesion/graph.Remove -/
def rGraphRemoveX0 : List O := [
 oo 3 <| .box (.t 0),
 oo 6 <| .new [(.int .i64 0), (.own 2 [])],
 oo 7 <| .mv (ki 0)]
def rGraphRemoveX1 : List O := [
 oo 11 <| .ld (some 2) (.t 3),
 oo 12 <| .mv (.t 1),
 oo 13 <| .mv (.t 2),
 oo 14 <| .call nGraphChange [(.t 11), (.t 12), (.t 13)],
 oo 8 <| .mv (.t 14)]
def rGraphRemoveX2 : List O := [
 oo 15 <| .mv (.t 8),
 oo 16 <| .bin .neq (.t 15) (ki 0)]
def rGraphRemoveX3 : List O := [
 oo 17 <| .build [(.int .i64 0), (.own 2 [])] [],
 oo 18 <| .mv (.t 8),
 oz <| .st 2 (.t 6) (.t 17),
 oo 7 <| .mv (.t 18)]
def rGraphRemoveX4 : List O := [
 oo 20 <| .ld (some 2) (.t 3),
 oo 21 <| .mv (.t 1),
 oo 22 <| .mv (.t 2),
 oo 23 <| .call nGraphPlace [(.t 20), (.t 21), (.t 22)],
 oo 19 <| .mv (.t 23),
 oo 24 <| .ext 0 (.t 19),
 oo 25 <| .ext 1 (.t 19),
 oo 9 <| .mv (.t 24),
 oo 10 <| .mv (.t 25)]
def rGraphRemoveX5 : List O := [
 oo 26 <| .mv (.t 10),
 oo 27 <| .un .not (.t 26)]
def rGraphRemoveX6 : List O := [
 oo 28 <| .build [(.int .i64 0), (.own 2 [])] [],
 oz <| .st 2 (.t 6) (.t 28),
 oo 7 <| .mv (ki 7)]
def rGraphRemoveX7 : List O := [
 oo 29 <| .fad 0 (.t 3),
 oo 30 <| .ld none (.t 29),
 oo 31 <| .fad 1 (.t 3),
 oo 32 <| .ld none (.t 31),
 oo 33 <| .call nSlicesCloneApiEdgeApiEdge [(.t 32)],
 oo 34 <| .mv (.t 9),
 oo 35 <| .mv (.t 9),
 oo 36 <| .bin .add (.t 35) (ki 1),
 oo 37 <| .call nSlicesDeleteApiEdgeApiEdge [(.t 33), (.t 34), (.t 36)],
 oo 38 <| .build [(.int .i64 0), (.own 2 [])] [(0, 1, (.t 30)), (1, 1, (.t 37))],
 oz <| .st 2 (.t 6) (.t 38),
 oo 7 <| .mv (ki 0)]
def cGraphRemove : C := (.seq (.reg rGraphRemoveX0 false [] [1, 2, 3, 6]) (.seq (.seq (.reg rGraphRemoveX1 false [] [1, 2, 3, 6, 8]) (.seq (.reg rGraphRemoveX2 false [] [1, 2, 3, 6, 8, 16]) (.cond (.t 16) (.seq (.reg rGraphRemoveX3 false [] [6, 7]) .ret) .skip))) (.seq (.reg rGraphRemoveX4 false [] [3, 6, 9, 10]) (.seq (.seq (.reg rGraphRemoveX5 false [] [3, 6, 9, 27]) (.cond (.t 27) (.seq (.reg rGraphRemoveX6 false [] [6, 7]) .ret) .skip)) (.seq (.reg rGraphRemoveX7 true [(9, 9), (10, 10), (11, 11), (1, 2), (0, 3), (1, 3), (0, 4), (1, 4), (1, 5), (3, 5), (4, 5), (1, 6), (3, 6), (4, 6), (1, 7), (3, 7), (4, 7), (0, 8), (1, 8)] [6, 7]) .ret)))))
def qGraphRemove : AFn := ⟨39, 3, [.c 6 (some 2), .t 7], cGraphRemove⟩
/- cohesion/cohesionref02.Meet -/
def rRef02MeetX0 : List O := [
 oo 4 <| .mv (.k (.own 1 []))]
def rRef02MeetX1 : List O := [
 oo 5 <| .mv (.k (.own 1 []))]
def rRef02MeetX2 : List O := [
 oo 8 <| .mv (.t 0),
 oo 9 <| .call nRef02Of [(.t 8)],
 oo 10 <| .len (.t 9),
 oo 11 <| .mv (ki 0)]
def rRef02MeetX3 : List O := [
 oo 12 <| .bin .lss (.t 11) (.t 10)]
def rRef02MeetX4 : List O := [
 oo 13 <| .ixa 1 (.t 9) (.t 11),
 oo 14 <| .ld none (.t 13),
 oo 7 <| .mv (.t 14)]
def rRef02MeetX5 : List O := [
 oo 15 <| .mv (.t 1),
 oo 16 <| .mv (.t 7),
 oo 17 <| .call nRef02Has [(.t 15), (.t 16)]]
def rRef02MeetX6 : List O := [
 oo 18 <| .mv (.t 5),
 oo 19 <| .mv (.t 7),
 oo 20 <| .bslice 1 1 [(.int .i64 0)] [(0, 1, (.t 19))],
 oo 21 <| .app 1 (.t 18) (.t 20),
 oo 5 <| .mv (.t 21)]
def rRef02MeetX7 : List O := [
 oo 22 <| .bin .add (.t 11) (ki 1),
 oo 11 <| .mv (.t 22)]
def lRef02MeetX0 : C := (.seq (.reg rRef02MeetX3 false [] [1, 5, 9, 10, 11, 12]) (.seq (.cond (.t 12) .skip (.exit 0)) (.seq (.blk 1 (.seq (.reg rRef02MeetX4 false [] [1, 5, 7, 9, 10, 11]) (.seq (.reg rRef02MeetX5 false [] [1, 5, 7, 9, 10, 11, 17]) (.cond (.t 17) (.reg rRef02MeetX6 false [] [1, 5, 9, 10, 11]) .skip)))) (.reg rRef02MeetX7 false [] [1, 5, 9, 10, 11]))))
def rRef02MeetX8 : List O := [
 oo 23 <| .mv (.t 5),
 oo 4 <| .mv (.t 23)]
def cRef02Meet : C := (.seq (.reg rRef02MeetX0 false [] [0, 1]) (.seq (.reg rRef02MeetX1 false [] [0, 1, 5]) (.seq (.seq (.reg rRef02MeetX2 false [] [1, 5, 9, 10, 11]) (.blk 0 (.loop lRef02MeetX0))) (.seq (.reg rRef02MeetX8 false [] [4]) .ret))))
def qRef02Meet : AFn := ⟨24, 2, [.t 4], cRef02Meet⟩
/- cohesion/cohesionref03.Neighbours -/
def rRef03NeighboursX0 : List O := [
 oo 2 <| .box (.t 0),
 oo 4 <| .mv (.k (.own 1 []))]
def rRef03NeighboursX1 : List O := [
 oo 8 <| .ld (some 2) (.t 2),
 oo 9 <| .call nRef03Check [(.t 8)],
 oo 10 <| .bin .neq (.t 9) (ki 0)]
def rRef03NeighboursX2 : List O := [
 oo 4 <| .mv (.k (.own 1 []))]
def rRef03NeighboursX3 : List O := [
 oo 5 <| .mv (.k (.own 1 []))]
def rRef03NeighboursX4 : List O := [
 oo 11 <| .fad 1 (.t 2),
 oo 12 <| .ld none (.t 11),
 oo 13 <| .len (.t 12),
 oo 14 <| .mv (ki 0)]
def rRef03NeighboursX5 : List O := [
 oo 15 <| .bin .lss (.t 14) (.t 13)]
def rRef03NeighboursX6 : List O := [
 oo 16 <| .ixa 2 (.t 12) (.t 14),
 oo 17 <| .ld (some 2) (.t 16),
 oo 7 <| .new [(.int .i64 0), (.int .i64 0)],
 oz <| .st 2 (.t 7) (.t 17)]
def rRef03NeighboursX7 : List O := [
 oo 18 <| .fad 0 (.t 7),
 oo 19 <| .ld none (.t 18),
 oo 20 <| .mv (.t 1),
 oo 21 <| .bin .eql (.t 19) (.t 20)]
def rRef03NeighboursX8 : List O := [
 oo 22 <| .mv (.t 5),
 oo 23 <| .fad 1 (.t 7),
 oo 24 <| .ld none (.t 23),
 oo 25 <| .bslice 1 1 [(.int .i64 0)] [(0, 1, (.t 24))],
 oo 26 <| .app 1 (.t 22) (.t 25),
 oo 5 <| .mv (.t 26)]
def rRef03NeighboursX9 : List O := [
 oo 27 <| .fad 1 (.t 7),
 oo 28 <| .ld none (.t 27),
 oo 29 <| .mv (.t 1),
 oo 30 <| .bin .eql (.t 28) (.t 29)]
def rRef03NeighboursX10 : List O := [
 oo 31 <| .mv (.t 5),
 oo 32 <| .fad 0 (.t 7),
 oo 33 <| .ld none (.t 32),
 oo 34 <| .bslice 1 1 [(.int .i64 0)] [(0, 1, (.t 33))],
 oo 35 <| .app 1 (.t 31) (.t 34),
 oo 5 <| .mv (.t 35)]
def rRef03NeighboursX11 : List O := [
 oo 36 <| .bin .add (.t 14) (ki 1),
 oo 14 <| .mv (.t 36)]
def lRef03NeighboursX0 : C := (.seq (.reg rRef03NeighboursX5 false [] [1, 5, 12, 13, 14, 15]) (.seq (.cond (.t 15) .skip (.exit 0)) (.seq (.blk 1 (.seq (.reg rRef03NeighboursX6 false [] [1, 5, 7, 12, 13, 14]) (.seq (.seq (.reg rRef03NeighboursX7 false [] [1, 5, 7, 12, 13, 14, 21]) (.cond (.t 21) (.reg rRef03NeighboursX8 false [] [1, 5, 7, 12, 13, 14]) .skip)) (.seq (.reg rRef03NeighboursX9 false [] [1, 5, 7, 12, 13, 14, 30]) (.cond (.t 30) (.reg rRef03NeighboursX10 false [] [1, 5, 12, 13, 14]) .skip))))) (.reg rRef03NeighboursX11 false [] [1, 5, 12, 13, 14]))))
def rRef03NeighboursX12 : List O := [
 oo 37 <| .mv (.t 5),
 oo 38 <| .call nRef02Of [(.t 37)],
 oo 4 <| .mv (.t 38)]
def cRef03Neighbours : C := (.seq (.reg rRef03NeighboursX0 false [] [1, 2]) (.seq (.seq (.reg rRef03NeighboursX1 false [] [1, 2, 10]) (.cond (.t 10) (.seq (.reg rRef03NeighboursX2 false [] [4]) .ret) .skip)) (.seq (.reg rRef03NeighboursX3 false [] [1, 2, 5]) (.seq (.seq (.reg rRef03NeighboursX4 false [] [1, 5, 12, 13, 14]) (.blk 0 (.loop lRef03NeighboursX0))) (.seq (.reg rRef03NeighboursX12 false [] [4]) .ret)))))
def qRef03Neighbours : AFn := ⟨39, 2, [.t 4], cRef03Neighbours⟩
/- slices.Equal[[]int,int] -/
def rSlicesEqualIntIntX0 : List O := [
 oo 4 <| .mv (.k (.bool false))]
def rSlicesEqualIntIntX1 : List O := [
 oo 6 <| .mv (.t 0),
 oo 7 <| .len (.t 6),
 oo 8 <| .mv (.t 1),
 oo 9 <| .len (.t 8),
 oo 10 <| .bin .neq (.t 7) (.t 9)]
def rSlicesEqualIntIntX2 : List O := [
 oo 4 <| .mv (.k (.bool false))]
def rSlicesEqualIntIntX3 : List O := [
 oo 11 <| .mv (.t 0),
 oo 12 <| .len (.t 11),
 oo 13 <| .mv (ki 0)]
def rSlicesEqualIntIntX4 : List O := [
 oo 14 <| .bin .lss (.t 13) (.t 12)]
def rSlicesEqualIntIntX5 : List O := [
 oo 15 <| .mv (.t 13),
 oo 5 <| .mv (.t 15)]
def rSlicesEqualIntIntX6 : List O := [
 oo 16 <| .mv (.t 0),
 oo 17 <| .mv (.t 5),
 oo 18 <| .ixa 1 (.t 16) (.t 17),
 oo 19 <| .ld none (.t 18),
 oo 20 <| .mv (.t 1),
 oo 21 <| .mv (.t 5),
 oo 22 <| .ixa 1 (.t 20) (.t 21),
 oo 23 <| .ld none (.t 22),
 oo 24 <| .bin .neq (.t 19) (.t 23)]
def rSlicesEqualIntIntX7 : List O := [
 oo 4 <| .mv (.k (.bool false))]
def rSlicesEqualIntIntX8 : List O := [
 oo 25 <| .bin .add (.t 13) (ki 1),
 oo 13 <| .mv (.t 25)]
def lSlicesEqualIntIntX0 : C := (.seq (.reg rSlicesEqualIntIntX4 false [] [0, 1, 12, 13, 14]) (.seq (.cond (.t 14) .skip (.exit 0)) (.seq (.blk 1 (.seq (.reg rSlicesEqualIntIntX5 false [] [0, 1, 5, 12, 13]) (.seq (.reg rSlicesEqualIntIntX6 true [(8, 8), (3, 4), (3, 5), (3, 6), (0, 7), (1, 7), (2, 7), (3, 7)] [0, 1, 12, 13, 24]) (.cond (.t 24) (.seq (.reg rSlicesEqualIntIntX7 false [] [4]) .ret) .skip)))) (.reg rSlicesEqualIntIntX8 false [] [0, 1, 12, 13]))))
def rSlicesEqualIntIntX9 : List O := [
 oo 4 <| .mv (.k (.bool true))]
def cSlicesEqualIntInt : C := (.seq (.reg rSlicesEqualIntIntX0 false [] [0, 1]) (.seq (.seq (.reg rSlicesEqualIntIntX1 false [] [0, 1, 10]) (.cond (.t 10) (.seq (.reg rSlicesEqualIntIntX2 false [] [4]) .ret) .skip)) (.seq (.seq (.reg rSlicesEqualIntIntX3 false [] [0, 1, 12, 13]) (.blk 0 (.loop lSlicesEqualIntIntX0))) (.seq (.reg rSlicesEqualIntIntX9 false [] [4]) .ret))))
def qSlicesEqualIntInt : AFn := ⟨26, 2, [.t 4], cSlicesEqualIntInt⟩
/- cohesion/cohesionref03.ends -/
def rRef03EndsX0 : List O := [
 oo 6 <| .mv (.k (.bool false))]
def rRef03EndsX1 : List O := [
 oo 7 <| .mv (.t 1),
 oo 8 <| .bin .geq (.t 7) (ki 0),
 oo 9 <| .mv (.t 8),
 ⟨(some 10), (some (9, true)), .mv (.t 2)⟩,
 ⟨(some 11), (some (9, true)), .bin .geq (.t 10) (ki 0)⟩,
 oo 12 <| .pick (.t 9) (.t 11) (.k (.bool false)),
 oo 13 <| .mv (.t 12),
 ⟨(some 14), (some (13, true)), .mv (.t 1)⟩,
 ⟨(some 15), (some (13, true)), .mv (.t 0)⟩,
 ⟨(some 16), (some (13, true)), .bin .lss (.t 14) (.t 15)⟩,
 oo 17 <| .pick (.t 13) (.t 16) (.k (.bool false)),
 oo 18 <| .mv (.t 17),
 ⟨(some 19), (some (18, true)), .mv (.t 2)⟩,
 ⟨(some 20), (some (18, true)), .mv (.t 0)⟩,
 ⟨(some 21), (some (18, true)), .bin .lss (.t 19) (.t 20)⟩,
 oo 22 <| .pick (.t 18) (.t 21) (.k (.bool false)),
 oo 23 <| .mv (.t 22),
 ⟨(some 24), (some (23, true)), .mv (.t 1)⟩,
 ⟨(some 25), (some (23, true)), .mv (.t 2)⟩,
 ⟨(some 26), (some (23, true)), .bin .neq (.t 24) (.t 25)⟩,
 oo 27 <| .pick (.t 23) (.t 26) (.k (.bool false)),
 oo 6 <| .mv (.t 27)]
def cRef03Ends : C := (.seq (.reg rRef03EndsX0 false [] [0, 1, 2]) (.seq (.reg rRef03EndsX1 false [] [6]) .ret))
def qRef03Ends : AFn := ⟨28, 3, [.t 6], cRef03Ends⟩
/- cohesion/cohesionref03.with -/
def rRef03WithX0 : List O := [
 oo 3 <| .box (.t 1),
 oo 4 <| .mv (.k (.own 2 []))]
def rRef03WithX1 : List O := [
 oo 5 <| .mv (ki 0)]
def rRef03WithX2 : List O := [
 oo 7 <| .mv (.t 5),
 oo 8 <| .mv (.t 0),
 oo 9 <| .len (.t 8),
 oo 10 <| .bin .lss (.t 7) (.t 9),
 oo 11 <| .mv (.t 10),
 ⟨(some 12), (some (11, true)), .mv (.t 0)⟩,
 ⟨(some 13), (some (11, true)), .mv (.t 5)⟩,
 ⟨(some 14), (some (11, true)), .ixa 2 (.t 12) (.t 13)⟩,
 ⟨(some 15), (some (11, true)), .ld (some 2) (.t 14)⟩,
 ⟨(some 16), (some (11, true)), .ld (some 2) (.t 3)⟩,
 ⟨(some 17), (some (11, true)), .call nRef03Before [(.t 15), (.t 16)]⟩,
 oo 18 <| .pick (.t 11) (.t 17) (.k (.bool false))]
def rRef03WithX3 : List O := [
 oo 19 <| .mv (.t 5),
 oo 20 <| .bin .add (.t 19) (ki 1),
 oo 5 <| .mv (.t 20)]
def lRef03WithX0 : C := (.seq (.seq (.reg rRef03WithX2 true [(3, 3), (4, 4), (10, 10), (11, 11), (5, 9), (6, 9), (7, 9), (8, 9)] [0, 3, 5, 18]) (.cond (.t 18) .skip (.exit 0))) (.blk 1 (.reg rRef03WithX3 false [] [0, 3, 5])))
def rRef03WithX4 : List O := [
 oo 21 <| .mv (.t 5),
 oo 22 <| .mv (.t 0),
 oo 23 <| .len (.t 22),
 oo 24 <| .bin .lss (.t 21) (.t 23),
 oo 25 <| .mv (.t 24),
 ⟨(some 26), (some (25, true)), .mv (.t 0)⟩,
 ⟨(some 27), (some (25, true)), .mv (.t 5)⟩,
 ⟨(some 28), (some (25, true)), .ixa 2 (.t 26) (.t 27)⟩,
 ⟨(some 29), (some (25, true)), .ld (some 2) (.t 28)⟩,
 ⟨(some 30), (some (25, true)), .ld (some 2) (.t 3)⟩,
 ⟨(some 31), (some (25, true)), .eq false (.str [true, true]) (.t 29) (.t 30)⟩,
 oo 32 <| .pick (.t 25) (.t 31) (.k (.bool false))]
def rRef03WithX5 : List O := [
 oo 33 <| .mv (.t 0),
 oo 4 <| .mv (.t 33)]
def rRef03WithX6 : List O := [
 oo 34 <| .mv (.t 0),
 oo 35 <| .mv (.t 5),
 oo 36 <| .slc 2 (.t 34) none (some (.t 35)),
 oo 37 <| .app 2 (.k (.own 2 [])) (.t 36),
 oo 6 <| .mv (.t 37)]
def rRef03WithX7 : List O := [
 oo 38 <| .mv (.t 6),
 oo 39 <| .ld (some 2) (.t 3),
 oo 40 <| .bslice 2 1 [(.int .i64 0), (.int .i64 0)] [(0, 2, (.t 39))],
 oo 41 <| .app 2 (.t 38) (.t 40),
 oo 42 <| .mv (.t 0),
 oo 43 <| .mv (.t 5),
 oo 44 <| .slc 2 (.t 42) (some (.t 43)) none,
 oo 45 <| .app 2 (.t 41) (.t 44),
 oo 4 <| .mv (.t 45)]
def cRef03With : C := (.seq (.reg rRef03WithX0 false [] [0, 3]) (.seq (.reg rRef03WithX1 false [] [0, 3, 5]) (.seq (.blk 0 (.loop lRef03WithX0)) (.seq (.seq (.reg rRef03WithX4 true [(3, 3), (4, 4), (10, 10), (11, 11), (5, 9), (6, 9), (7, 9), (8, 9)] [0, 3, 5, 32]) (.cond (.t 32) (.seq (.reg rRef03WithX5 false [] [4]) .ret) .skip)) (.seq (.reg rRef03WithX6 false [] [0, 3, 5, 6]) (.seq (.reg rRef03WithX7 true [(7, 7), (8, 8), (0, 1), (0, 2), (1, 4), (2, 4), (3, 4), (1, 5), (2, 5), (3, 5), (1, 6), (2, 6), (3, 6)] [4]) .ret))))))
def qRef03With : AFn := ⟨46, 2, [.t 4], cRef03With⟩
/- cohesion/cohesionref03.edge -/
def rRef03EdgeX0 : List O := [
 oo 4 <| .new [(.int .i64 0), (.int .i64 0)]]
def rRef03EdgeX1 : List O := [
 oo 5 <| .mv (.t 0),
 oo 6 <| .mv (.t 1),
 oo 7 <| .min [(.t 5), (.t 6)],
 oo 8 <| .mv (.t 0),
 oo 9 <| .mv (.t 1),
 oo 10 <| .max [(.t 8), (.t 9)],
 oo 11 <| .build [(.int .i64 0), (.int .i64 0)] [(0, 1, (.t 7)), (1, 1, (.t 10))],
 oz <| .st 2 (.t 4) (.t 11)]
def cRef03Edge : C := (.seq (.reg rRef03EdgeX0 false [] [0, 1, 4]) (.seq (.reg rRef03EdgeX1 false [] [4]) .ret))
def qRef03Edge : AFn := ⟨12, 2, [.c 4 (some 2)], cRef03Edge⟩
/- cohesion/triangles.lists -/
def rTrianglesListsX0 : List O := [
 oo 1 <| .box (.t 0),
 oo 2 <| .mv (.k (.own 1 []))]
def rTrianglesListsX1 : List O := [
 oo 8 <| .fad 0 (.t 1),
 oo 9 <| .ld none (.t 8),
 oo 10 <| .mks 1 [(.own 1001 [])] (.t 9) (.t 9),
 oo 3 <| .mv (.t 10)]
def rTrianglesListsX2 : List O := [
 oo 11 <| .fad 1 (.t 1),
 oo 12 <| .ld none (.t 11),
 oo 13 <| .len (.t 12),
 oo 14 <| .mv (ki 0)]
def rTrianglesListsX3 : List O := [
 oo 15 <| .bin .lss (.t 14) (.t 13)]
def rTrianglesListsX4 : List O := [
 oo 16 <| .ixa 2 (.t 12) (.t 14),
 oo 17 <| .ld (some 2) (.t 16),
 oo 5 <| .new [(.int .i64 0), (.int .i64 0)],
 oz <| .st 2 (.t 5) (.t 17)]
def rTrianglesListsX5 : List O := [
 oo 18 <| .mv (.t 3),
 oo 19 <| .fad 0 (.t 5),
 oo 20 <| .ld none (.t 19),
 oo 21 <| .mv (.t 3),
 oo 22 <| .fad 1 (.t 5),
 oo 23 <| .ld none (.t 22),
 oo 24 <| .mv (.t 3),
 oo 25 <| .fad 0 (.t 5),
 oo 26 <| .ld none (.t 25),
 oo 27 <| .ixa 1 (.t 24) (.t 26),
 oo 28 <| .ld none (.t 27),
 oo 29 <| .fad 1 (.t 5),
 oo 30 <| .ld none (.t 29),
 oo 31 <| .bslice 1 1 [(.int .i64 0)] [(0, 1, (.t 30))],
 oo 32 <| .app 1 (.t 28) (.t 31),
 oo 33 <| .mv (.t 3),
 oo 34 <| .fad 1 (.t 5),
 oo 35 <| .ld none (.t 34),
 oo 36 <| .ixa 1 (.t 33) (.t 35),
 oo 37 <| .ld none (.t 36),
 oo 38 <| .fad 0 (.t 5),
 oo 39 <| .ld none (.t 38),
 oo 40 <| .bslice 1 1 [(.int .i64 0)] [(0, 1, (.t 39))],
 oo 41 <| .app 1 (.t 37) (.t 40),
 oo 42 <| .ixa 1 (.t 18) (.t 20),
 oz <| .st 1 (.t 42) (.t 32),
 oo 43 <| .ixa 1 (.t 21) (.t 23),
 oz <| .st 1 (.t 43) (.t 41)]
def rTrianglesListsX6 : List O := [
 oo 44 <| .bin .add (.t 14) (ki 1),
 oo 14 <| .mv (.t 44)]
def lTrianglesListsX0 : C := (.seq (.reg rTrianglesListsX3 false [] [3, 12, 13, 14, 15]) (.seq (.cond (.t 15) .skip (.exit 0)) (.seq (.blk 1 (.seq (.reg rTrianglesListsX4 false [] [3, 5, 12, 13, 14]) (.reg rTrianglesListsX5 true [(26, 26), (27, 27), (0, 2), (2, 3), (2, 4), (0, 5), (1, 5), (2, 5), (3, 5), (2, 6), (5, 6), (2, 7), (5, 7), (0, 8), (1, 8), (2, 8), (3, 8), (4, 8), (5, 8), (6, 8), (2, 9), (5, 9), (0, 10), (1, 10), (2, 10), (3, 10), (4, 10), (5, 10), (2, 11), (5, 11), (8, 11), (10, 11), (0, 12), (1, 12), (2, 12), (3, 12), (4, 12), (5, 12), (6, 12), (7, 12), (8, 12), (9, 12), (10, 12), (0, 13), (1, 13), (2, 13), (3, 13), (4, 13), (5, 13), (6, 13), (7, 13), (8, 13), (9, 13), (10, 13), (0, 14), (1, 14), (2, 14), (3, 14), (4, 14), (5, 14), (2, 15), (5, 15), (8, 15), (10, 15), (12, 15), (13, 15), (14, 15), (2, 16), (5, 16), (8, 16), (10, 16), (12, 16), (13, 16), (14, 16), (0, 17), (1, 17), (2, 17), (3, 17), (4, 17), (5, 17), (6, 17), (7, 17), (8, 17), (9, 17), (10, 17), (11, 17), (12, 17), (13, 17), (14, 17), (15, 17), (2, 18), (5, 18), (8, 18), (10, 18), (12, 18), (13, 18), (14, 18), (0, 19), (1, 19), (2, 19), (3, 19), (4, 19), (5, 19), (6, 19), (7, 19), (8, 19), (9, 19), (10, 19), (11, 19), (12, 19), (13, 19), (14, 19), (2, 20), (5, 20), (8, 20), (10, 20), (12, 20), (13, 20), (14, 20), (17, 20), (19, 20), (0, 21), (1, 21), (2, 21), (3, 21), (4, 21), (5, 21), (6, 21), (7, 21), (8, 21), (9, 21), (10, 21), (11, 21), (12, 21), (13, 21), (14, 21), (15, 21), (16, 21), (17, 21), (18, 21), (19, 21), (0, 22), (1, 22), (2, 22), (3, 22), (4, 22), (5, 22), (6, 22), (7, 22), (8, 22), (9, 22), (10, 22), (11, 22), (12, 22), (13, 22), (14, 22), (15, 22), (16, 22), (17, 22), (18, 22), (19, 22), (0, 23), (1, 23), (2, 23), (3, 23), (4, 23), (5, 23), (5, 24), (3, 25), (4, 25), (5, 25)] [3, 12, 13, 14]))) (.reg rTrianglesListsX6 false [] [3, 12, 13, 14]))))
def rTrianglesListsX7 : List O := [
 oo 45 <| .mv (.t 3),
 oo 46 <| .len (.t 45),
 oo 47 <| .mv (ki 0)]
def rTrianglesListsX8 : List O := [
 oo 48 <| .bin .lss (.t 47) (.t 46)]
def rTrianglesListsX9 : List O := [
 oo 49 <| .ixa 1 (.t 45) (.t 47),
 oo 50 <| .ld none (.t 49),
 oo 7 <| .mv (.t 50)]
def rTrianglesListsX10 : List O := [
 oo 51 <| .mv (.t 7),
 oo 52 <| .call nSlicesSortIntInt [(.t 51)]]
def rTrianglesListsX11 : List O := [
 oo 53 <| .bin .add (.t 47) (ki 1),
 oo 47 <| .mv (.t 53)]
def lTrianglesListsX1 : C := (.seq (.reg rTrianglesListsX8 false [] [3, 45, 46, 47, 48]) (.seq (.cond (.t 48) .skip (.exit 2)) (.seq (.blk 3 (.seq (.reg rTrianglesListsX9 false [] [3, 7, 45, 46, 47]) (.reg rTrianglesListsX10 false [] [3, 45, 46, 47]))) (.reg rTrianglesListsX11 false [] [3, 45, 46, 47]))))
def rTrianglesListsX12 : List O := [
 oo 54 <| .mv (.t 3),
 oo 2 <| .mv (.t 54)]
def cTrianglesLists : C := (.seq (.reg rTrianglesListsX0 false [] [1]) (.seq (.reg rTrianglesListsX1 false [] [1, 3]) (.seq (.seq (.reg rTrianglesListsX2 false [] [3, 12, 13, 14]) (.blk 0 (.loop lTrianglesListsX0))) (.seq (.seq (.reg rTrianglesListsX7 false [] [3, 45, 46, 47]) (.blk 2 (.loop lTrianglesListsX1))) (.seq (.reg rTrianglesListsX12 false [] [2]) .ret)))))
def qTrianglesLists : AFn := ⟨55, 1, [.t 2], cTrianglesLists⟩
/- cohesion/triangles.pairs -/
def rTrianglesPairsX0 : List O := [
 oo 2 <| .mv (ki 0)]
def rTrianglesPairsX1 : List O := [
 oo 3 <| .mv (.t 0),
 oo 4 <| .mv (.t 0),
 oo 5 <| .bin .sub (.t 4) (ki 1),
 oo 6 <| .bin .mul (.t 3) (.t 5),
 oo 7 <| .bin .quo (.t 6) (ki 2),
 oo 2 <| .mv (.t 7)]
def cTrianglesPairs : C := (.seq (.reg rTrianglesPairsX0 false [] [0]) (.seq (.reg rTrianglesPairsX1 false [] [2]) .ret))
def qTrianglesPairs : AFn := ⟨8, 1, [.t 2], cTrianglesPairs⟩
/- cohesion/triangles.share -/
def rTrianglesShareX0 : List O := [
 oo 4 <| .new [(.int .i64 0), (.int .i64 0)],
 oo 5 <| .mv (ki 0)]
def rTrianglesShareX1 : List O := [
 oo 6 <| .mv (.t 0),
 oo 7 <| .mv (.t 1),
 oo 8 <| .max [(.t 7), (ki 1)],
 oo 9 <| .call nRatioMake [(.t 6), (.t 8)],
 oo 10 <| .ext 0 (.t 9),
 oo 11 <| .ext 1 (.t 9),
 oz <| .st 2 (.t 4) (.t 10),
 oo 5 <| .mv (.t 11)]
def cTrianglesShare : C := (.seq (.reg rTrianglesShareX0 false [] [0, 1, 4]) (.seq (.reg rTrianglesShareX1 false [] [4, 5]) .ret))
def qTrianglesShare : AFn := ⟨12, 2, [.c 4 (some 2), .t 5], cTrianglesShare⟩
/- cohesion/graph.Order -/
def rGraphOrderX0 : List O := [
 oo 2 <| .box (.t 0),
 oo 3 <| .box (.t 1),
 oo 4 <| .mv (ki 0)]
def rGraphOrderX1 : List O := [
 oo 5 <| .fad 0 (.t 2),
 oo 6 <| .ld none (.t 5),
 oo 7 <| .fad 0 (.t 3),
 oo 8 <| .ld none (.t 7),
 oo 9 <| .call nCmpCompareInt [(.t 6), (.t 8)],
 oo 10 <| .fad 1 (.t 2),
 oo 11 <| .ld none (.t 10),
 oo 12 <| .fad 1 (.t 3),
 oo 13 <| .ld none (.t 12),
 oo 14 <| .call nCmpCompareInt [(.t 11), (.t 13)],
 oo 15 <| .bslice 1 2 [(.int .i64 0)] [(0, 1, (.t 9)), (1, 1, (.t 14))],
 oo 16 <| .call nCmpOrInt [(.t 15)],
 oo 4 <| .mv (.t 16)]
def cGraphOrder : C := (.seq (.reg rGraphOrderX0 false [] [2, 3]) (.seq (.reg rGraphOrderX1 true [(9, 9), (10, 10), (11, 11), (12, 12), (1, 2), (0, 3), (1, 3), (1, 5), (3, 5), (4, 5), (0, 6), (1, 6), (2, 6), (3, 6), (4, 6), (1, 7), (3, 7), (4, 7), (6, 7), (0, 8), (1, 8), (2, 8), (3, 8), (4, 8), (5, 8), (6, 8)] [4]) .ret))
def qGraphOrder : AFn := ⟨17, 2, [.t 4], cGraphOrder⟩
/- cohesion/triangles.shared[int] -/
def rTrianglesSharedIntX0 : List O := [
 oo 4 <| .mv (.k (.own 1 []))]
def rTrianglesSharedIntX1 : List O := [
 oo 5 <| .mv (.k (.own 1 []))]
def rTrianglesSharedIntX2 : List O := [
 oo 6 <| .mv (.t 0),
 oo 7 <| .len (.t 6),
 oo 8 <| .bin .gtr (.t 7) (ki 0),
 oo 9 <| .mv (.t 8),
 ⟨(some 10), (some (9, true)), .mv (.t 1)⟩,
 ⟨(some 11), (some (9, true)), .len (.t 10)⟩,
 ⟨(some 12), (some (9, true)), .bin .gtr (.t 11) (ki 0)⟩,
 oo 13 <| .pick (.t 9) (.t 12) (.k (.bool false))]
def rTrianglesSharedIntX3 : List O := [
 oo 14 <| .mv (.t 0),
 oo 15 <| .ixa 1 (.t 14) (ki 0),
 oo 16 <| .ld none (.t 15),
 oo 17 <| .mv (.t 1),
 oo 18 <| .ixa 1 (.t 17) (ki 0),
 oo 19 <| .ld none (.t 18),
 oo 20 <| .call nCmpCompareInt [(.t 16), (.t 19)]]
def rTrianglesSharedIntX4 : List O := [
 oo 32 <| .bin .eql (.t 20) (.k (.int .i64 (-1))),
 oo 31 <| .mv (.t 32)]
def rTrianglesSharedIntX5 : List O := [
 oo 33 <| .mv (.t 0),
 oo 34 <| .slc 1 (.t 33) (some (ki 1)) none,
 oo 0 <| .mv (.t 34)]
def rTrianglesSharedIntX6 : List O := [
 oo 36 <| .bin .eql (.t 20) (ki 1),
 oo 35 <| .mv (.t 36)]
def rTrianglesSharedIntX7 : List O := [
 oo 37 <| .mv (.t 1),
 oo 38 <| .slc 1 (.t 37) (some (ki 1)) none,
 oo 1 <| .mv (.t 38)]
def rTrianglesSharedIntX8 : List O := [
 oo 21 <| .mv (.t 5),
 oo 22 <| .mv (.t 0),
 oo 23 <| .ixa 1 (.t 22) (ki 0),
 oo 24 <| .ld none (.t 23),
 oo 25 <| .bslice 1 1 [(.int .i64 0)] [(0, 1, (.t 24))],
 oo 26 <| .app 1 (.t 21) (.t 25),
 oo 5 <| .mv (.t 26)]
def rTrianglesSharedIntX9 : List O := [
 oo 27 <| .mv (.t 0),
 oo 28 <| .slc 1 (.t 27) (some (ki 1)) none,
 oo 29 <| .mv (.t 1),
 oo 30 <| .slc 1 (.t 29) (some (ki 1)) none,
 oo 0 <| .mv (.t 28),
 oo 1 <| .mv (.t 30)]
def lTrianglesSharedIntX0 : C := (.seq (.seq (.reg rTrianglesSharedIntX2 false [] [0, 1, 5, 13]) (.cond (.t 13) .skip (.exit 0))) (.blk 1 (.seq (.reg rTrianglesSharedIntX3 true [(6, 6), (2, 3), (2, 4), (0, 5), (1, 5), (2, 5)] [0, 1, 5, 20]) (.blk 2 (.seq (.reg rTrianglesSharedIntX4 false [] [0, 1, 5, 20, 31]) (.cond (.t 31) (.reg rTrianglesSharedIntX5 false [] [0, 1, 5]) (.seq (.reg rTrianglesSharedIntX6 false [] [0, 1, 5, 35]) (.cond (.t 35) (.reg rTrianglesSharedIntX7 false [] [0, 1, 5]) (.seq (.reg rTrianglesSharedIntX8 false [] [0, 1, 5]) (.reg rTrianglesSharedIntX9 true [(5, 5)] [0, 1, 5]))))))))))
def rTrianglesSharedIntX10 : List O := [
 oo 39 <| .mv (.t 5),
 oo 4 <| .mv (.t 39)]
def cTrianglesSharedInt : C := (.seq (.reg rTrianglesSharedIntX0 false [] [0, 1]) (.seq (.reg rTrianglesSharedIntX1 false [] [0, 1, 5]) (.seq (.blk 0 (.loop lTrianglesSharedIntX0)) (.seq (.reg rTrianglesSharedIntX10 false [] [4]) .ret))))
def qTrianglesSharedInt : AFn := ⟨40, 2, [.t 4], cTrianglesSharedInt⟩
/- slices.Clone[[]cohesion/api.Edge,cohesion/api.Edge] -/
def rSlicesCloneApiEdgeApiEdgeX0 : List O := [
 oo 2 <| .mv (.k (.own 2 []))]
def rSlicesCloneApiEdgeApiEdgeX1 : List O := [
 oo 3 <| .mv (.t 0),
 oo 4 <| .eq false .nsl (.t 3) (.k (.own 2 []))]
def rSlicesCloneApiEdgeApiEdgeX2 : List O := [
 oo 2 <| .mv (.k (.own 2 []))]
def rSlicesCloneApiEdgeApiEdgeX3 : List O := [
 oo 5 <| .bslice 2 0 [(.int .i64 0), (.int .i64 0)] [],
 oo 6 <| .mv (.t 0),
 oo 7 <| .app 2 (.t 5) (.t 6),
 oo 2 <| .mv (.t 7)]
def cSlicesCloneApiEdgeApiEdge : C := (.seq (.reg rSlicesCloneApiEdgeApiEdgeX0 false [] [0]) (.seq (.seq (.reg rSlicesCloneApiEdgeApiEdgeX1 false [] [0, 4]) (.cond (.t 4) (.seq (.reg rSlicesCloneApiEdgeApiEdgeX2 false [] [2]) .ret) .skip)) (.seq (.reg rSlicesCloneApiEdgeApiEdgeX3 false [] [2]) .ret)))
def qSlicesCloneApiEdgeApiEdge : AFn := ⟨8, 1, [.t 2], cSlicesCloneApiEdgeApiEdge⟩
/- cohesion/graph.change -/
def rGraphChangeX0 : List O := [
 oo 3 <| .box (.t 0),
 oo 6 <| .mv (ki 0)]
def rGraphChangeX1 : List O := [
 oo 8 <| .ld (some 2) (.t 3),
 oo 9 <| .call nGraphCheck [(.t 8)],
 oo 7 <| .mv (.t 9)]
def rGraphChangeX2 : List O := [
 oo 10 <| .mv (.t 7),
 oo 11 <| .bin .neq (.t 10) (ki 0)]
def rGraphChangeX3 : List O := [
 oo 12 <| .mv (.t 7),
 oo 6 <| .mv (.t 12)]
def rGraphChangeX4 : List O := [
 oo 13 <| .fad 0 (.t 3),
 oo 14 <| .ld none (.t 13),
 oo 15 <| .mv (.t 1),
 oo 16 <| .mv (.t 2),
 oo 17 <| .call nGraphEnds [(.t 14), (.t 15), (.t 16)],
 oo 18 <| .un .not (.t 17)]
def rGraphChangeX5 : List O := [
 oo 6 <| .mv (ki 6)]
def rGraphChangeX6 : List O := [
 oo 6 <| .mv (ki 0)]
def cGraphChange : C := (.seq (.reg rGraphChangeX0 false [] [1, 2, 3]) (.seq (.seq (.reg rGraphChangeX1 false [] [1, 2, 3, 7]) (.seq (.reg rGraphChangeX2 false [] [1, 2, 3, 7, 11]) (.cond (.t 11) (.seq (.reg rGraphChangeX3 false [] [6]) .ret) .skip))) (.seq (.seq (.reg rGraphChangeX4 false [] [18]) (.cond (.t 18) (.seq (.reg rGraphChangeX5 false [] [6]) .ret) .skip)) (.seq (.reg rGraphChangeX6 false [] [6]) .ret))))
def qGraphChange : AFn := ⟨19, 3, [.t 6], cGraphChange⟩
/- cohesion/graph.place -/
def rGraphPlaceX0 : List O := [
 oo 3 <| .box (.t 0),
 oo 6 <| .mv (ki 0),
 oo 7 <| .mv (.k (.bool false))]
def rGraphPlaceX1 : List O := [
 oo 11 <| .mv (.t 1),
 oo 12 <| .mv (.t 2),
 oo 13 <| .call nGraphEdge [(.t 11), (.t 12)],
 oo 8 <| .new [(.int .i64 0), (.int .i64 0)],
 oz <| .st 2 (.t 8) (.t 13)]
def rGraphPlaceX2 : List O := [
 oo 15 <| .fad 1 (.t 3),
 oo 16 <| .ld none (.t 15),
 oo 17 <| .ld (some 2) (.t 8),
 oo 18 <| .call nSlicesBinarySearchFuncApiEdgeApiEdgeApiEdge [(.t 16), (.t 17), (.k (.func (.func nGraphOrder) [] []))],
 oo 14 <| .mv (.t 18),
 oo 19 <| .ext 0 (.t 14),
 oo 20 <| .ext 1 (.t 14),
 oo 9 <| .mv (.t 19),
 oo 10 <| .mv (.t 20)]
def rGraphPlaceX3 : List O := [
 oo 21 <| .mv (.t 9),
 oo 22 <| .mv (.t 9),
 oo 23 <| .fad 1 (.t 3),
 oo 24 <| .ld none (.t 23),
 oo 25 <| .len (.t 24),
 oo 26 <| .bin .lss (.t 22) (.t 25),
 oo 27 <| .mv (.t 26),
 ⟨(some 28), (some (27, true)), .fad 1 (.t 3)⟩,
 ⟨(some 29), (some (27, true)), .ld none (.t 28)⟩,
 ⟨(some 30), (some (27, true)), .mv (.t 9)⟩,
 ⟨(some 31), (some (27, true)), .ixa 2 (.t 29) (.t 30)⟩,
 ⟨(some 32), (some (27, true)), .ld (some 2) (.t 31)⟩,
 ⟨(some 33), (some (27, true)), .ld (some 2) (.t 8)⟩,
 ⟨(some 34), (some (27, true)), .eq false (.str [true, true]) (.t 32) (.t 33)⟩,
 oo 35 <| .pick (.t 27) (.t 34) (.k (.bool false)),
 oo 6 <| .mv (.t 21),
 oo 7 <| .mv (.t 35)]
def cGraphPlace : C := (.seq (.reg rGraphPlaceX0 false [] [1, 2, 3]) (.seq (.reg rGraphPlaceX1 false [] [3, 8]) (.seq (.reg rGraphPlaceX2 false [] [3, 8, 9]) (.seq (.reg rGraphPlaceX3 true [(16, 16), (0, 3), (1, 3), (0, 8), (8, 9), (0, 11), (0, 12), (7, 12), (8, 12), (9, 12), (10, 12), (11, 12), (8, 15), (11, 15), (12, 15)] [6, 7]) .ret))))
def qGraphPlace : AFn := ⟨36, 3, [.t 6, .t 7], cGraphPlace⟩
/- slices.Insert[[]cohesion/api.Edge,cohesion/api.Edge] -/
def rSlicesInsertApiEdgeApiEdgeX0 : List O := [
 oo 6 <| .mv (.k (.own 2 []))]
def rSlicesInsertApiEdgeApiEdgeX1 : List O := [
 oo 10 <| .mv (.t 0),
 oo 11 <| .mv (.t 1),
 oo 12 <| .slc 2 (.t 10) (some (.t 11)) none]
def rSlicesInsertApiEdgeApiEdgeX2 : List O := [
 oo 13 <| .mv (.t 2),
 oo 14 <| .len (.t 13),
 oo 7 <| .mv (.t 14)]
def rSlicesInsertApiEdgeApiEdgeX3 : List O := [
 oo 15 <| .mv (.t 7),
 oo 16 <| .bin .eql (.t 15) (ki 0)]
def rSlicesInsertApiEdgeApiEdgeX4 : List O := [
 oo 17 <| .mv (.t 0),
 oo 6 <| .mv (.t 17)]
def rSlicesInsertApiEdgeApiEdgeX5 : List O := [
 oo 18 <| .mv (.t 0),
 oo 19 <| .len (.t 18),
 oo 8 <| .mv (.t 19)]
def rSlicesInsertApiEdgeApiEdgeX6 : List O := [
 oo 20 <| .mv (.t 1),
 oo 21 <| .mv (.t 8),
 oo 22 <| .bin .eql (.t 20) (.t 21)]
def rSlicesInsertApiEdgeApiEdgeX7 : List O := [
 oo 23 <| .mv (.t 0),
 oo 24 <| .mv (.t 2),
 oo 25 <| .app 2 (.t 23) (.t 24),
 oo 6 <| .mv (.t 25)]
def rSlicesInsertApiEdgeApiEdgeX8 : List O := [
 oo 26 <| .mv (.t 8),
 oo 27 <| .mv (.t 7),
 oo 28 <| .bin .add (.t 26) (.t 27),
 oo 29 <| .mv (.t 0),
 oo 30 <| .bad,
 oo 31 <| .bin .gtr (.t 28) (.t 30)]
def rSlicesInsertApiEdgeApiEdgeX9 : List O := [
 oo 32 <| .mv (.t 0),
 oo 33 <| .mv (.t 1),
 oo 34 <| .slc 2 (.t 32) none (some (.t 33)),
 oo 35 <| .mv (.t 8),
 oo 36 <| .mv (.t 7),
 oo 37 <| .bin .add (.t 35) (.t 36),
 oo 38 <| .mv (.t 1),
 oo 39 <| .bin .sub (.t 37) (.t 38),
 oo 40 <| .bad,
 oo 9 <| .mv (.t 40)]
def rSlicesInsertApiEdgeApiEdgeX10 : List O := [
 oo 41 <| .mv (.t 9),
 oo 42 <| .mv (.t 1),
 oo 43 <| .slc 2 (.t 41) (some (.t 42)) none,
 oo 44 <| .mv (.t 2),
 oo 45 <| .bad]
def rSlicesInsertApiEdgeApiEdgeX11 : List O := [
 oo 46 <| .mv (.t 9),
 oo 47 <| .mv (.t 1),
 oo 48 <| .mv (.t 7),
 oo 49 <| .bin .add (.t 47) (.t 48),
 oo 50 <| .slc 2 (.t 46) (some (.t 49)) none,
 oo 51 <| .mv (.t 0),
 oo 52 <| .mv (.t 1),
 oo 53 <| .slc 2 (.t 51) (some (.t 52)) none,
 oo 54 <| .bad]
def rSlicesInsertApiEdgeApiEdgeX12 : List O := [
 oo 55 <| .mv (.t 9),
 oo 6 <| .mv (.t 55)]
def rSlicesInsertApiEdgeApiEdgeX13 : List O := [
 oo 56 <| .mv (.t 0),
 oo 57 <| .mv (.t 8),
 oo 58 <| .mv (.t 7),
 oo 59 <| .bin .add (.t 57) (.t 58),
 oo 60 <| .slc 2 (.t 56) none (some (.t 59)),
 oo 0 <| .mv (.t 60)]
def rSlicesInsertApiEdgeApiEdgeX14 : List O := [
 oo 61 <| .mv (.t 2),
 oo 62 <| .mv (.t 0),
 oo 63 <| .mv (.t 1),
 oo 64 <| .mv (.t 7),
 oo 65 <| .bin .add (.t 63) (.t 64),
 oo 66 <| .slc 2 (.t 62) (some (.t 65)) none,
 oo 67 <| .call 54 [(.t 61), (.t 66)],
 oo 68 <| .un .not (.t 67)]
def rSlicesInsertApiEdgeApiEdgeX15 : List O := [
 oo 69 <| .mv (.t 0),
 oo 70 <| .mv (.t 1),
 oo 71 <| .mv (.t 7),
 oo 72 <| .bin .add (.t 70) (.t 71),
 oo 73 <| .slc 2 (.t 69) (some (.t 72)) none,
 oo 74 <| .mv (.t 0),
 oo 75 <| .mv (.t 1),
 oo 76 <| .slc 2 (.t 74) (some (.t 75)) none,
 oo 77 <| .bad]
def rSlicesInsertApiEdgeApiEdgeX16 : List O := [
 oo 78 <| .mv (.t 0),
 oo 79 <| .mv (.t 1),
 oo 80 <| .slc 2 (.t 78) (some (.t 79)) none,
 oo 81 <| .mv (.t 2),
 oo 82 <| .bad]
def rSlicesInsertApiEdgeApiEdgeX17 : List O := [
 oo 83 <| .mv (.t 0),
 oo 6 <| .mv (.t 83)]
def rSlicesInsertApiEdgeApiEdgeX18 : List O := [
 oo 84 <| .mv (.t 0),
 oo 85 <| .mv (.t 8),
 oo 86 <| .slc 2 (.t 84) (some (.t 85)) none,
 oo 87 <| .mv (.t 2),
 oo 88 <| .bad]
def rSlicesInsertApiEdgeApiEdgeX19 : List O := [
 oo 89 <| .mv (.t 0),
 oo 90 <| .mv (.t 1),
 oo 91 <| .slc 2 (.t 89) (some (.t 90)) none,
 oo 92 <| .mv (.t 7),
 oo 93 <| .call 55 [(.t 91), (.t 92)]]
def rSlicesInsertApiEdgeApiEdgeX20 : List O := [
 oo 94 <| .mv (.t 0),
 oo 6 <| .mv (.t 94)]
def cSlicesInsertApiEdgeApiEdge : C := (.seq (.reg rSlicesInsertApiEdgeApiEdgeX0 false [] [0, 1, 2]) (.seq (.reg rSlicesInsertApiEdgeApiEdgeX1 false [] [0, 1, 2]) (.seq (.reg rSlicesInsertApiEdgeApiEdgeX2 false [] [0, 1, 2, 7]) (.seq (.seq (.reg rSlicesInsertApiEdgeApiEdgeX3 false [] [0, 1, 2, 7, 16]) (.cond (.t 16) (.seq (.reg rSlicesInsertApiEdgeApiEdgeX4 false [] [6]) .ret) .skip)) (.seq (.reg rSlicesInsertApiEdgeApiEdgeX5 false [] [0, 1, 2, 7, 8]) (.seq (.seq (.reg rSlicesInsertApiEdgeApiEdgeX6 false [] [0, 1, 2, 7, 8, 22]) (.cond (.t 22) (.seq (.reg rSlicesInsertApiEdgeApiEdgeX7 false [] [6]) .ret) .skip)) (.seq (.seq (.reg rSlicesInsertApiEdgeApiEdgeX8 false [] [0, 1, 2, 7, 8, 31]) (.cond (.t 31) (.seq (.reg rSlicesInsertApiEdgeApiEdgeX9 false [] [0, 1, 2, 7, 9]) (.seq (.reg rSlicesInsertApiEdgeApiEdgeX10 false [] [0, 1, 7, 9]) (.seq (.reg rSlicesInsertApiEdgeApiEdgeX11 true [(8, 8)] [9]) (.seq (.reg rSlicesInsertApiEdgeApiEdgeX12 false [] [6]) .ret)))) .skip)) (.seq (.reg rSlicesInsertApiEdgeApiEdgeX13 false [] [0, 1, 2, 7, 8]) (.seq (.seq (.reg rSlicesInsertApiEdgeApiEdgeX14 false [] [0, 1, 2, 7, 8, 68]) (.cond (.t 68) (.seq (.reg rSlicesInsertApiEdgeApiEdgeX15 true [(8, 8)] [0, 1, 2]) (.seq (.reg rSlicesInsertApiEdgeApiEdgeX16 false [] [0]) (.seq (.reg rSlicesInsertApiEdgeApiEdgeX17 false [] [6]) .ret))) .skip)) (.seq (.reg rSlicesInsertApiEdgeApiEdgeX18 false [] [0, 1, 7]) (.seq (.reg rSlicesInsertApiEdgeApiEdgeX19 false [] [0]) (.seq (.reg rSlicesInsertApiEdgeApiEdgeX20 false [] [6]) .ret))))))))))))
def qSlicesInsertApiEdgeApiEdge : AFn := ⟨95, 3, [.t 6], cSlicesInsertApiEdgeApiEdge⟩
/- cohesion/graph.edge -/
def rGraphEdgeX0 : List O := [
 oo 4 <| .new [(.int .i64 0), (.int .i64 0)]]
def rGraphEdgeX1 : List O := [
 oo 5 <| .mv (.t 0),
 oo 6 <| .mv (.t 1),
 oo 7 <| .min [(.t 5), (.t 6)],
 oo 8 <| .mv (.t 0),
 oo 9 <| .mv (.t 1),
 oo 10 <| .max [(.t 8), (.t 9)],
 oo 11 <| .build [(.int .i64 0), (.int .i64 0)] [(0, 1, (.t 7)), (1, 1, (.t 10))],
 oz <| .st 2 (.t 4) (.t 11)]
def cGraphEdge : C := (.seq (.reg rGraphEdgeX0 false [] [0, 1, 4]) (.seq (.reg rGraphEdgeX1 false [] [4]) .ret))
def qGraphEdge : AFn := ⟨12, 2, [.c 4 (some 2)], cGraphEdge⟩
/- slices.Clone[[]int,int] -/
def rSlicesCloneIntIntX0 : List O := [
 oo 2 <| .mv (.k (.own 1 []))]
def rSlicesCloneIntIntX1 : List O := [
 oo 3 <| .mv (.t 0),
 oo 4 <| .eq false .nsl (.t 3) (.k (.own 1 []))]
def rSlicesCloneIntIntX2 : List O := [
 oo 2 <| .mv (.k (.own 1 []))]
def rSlicesCloneIntIntX3 : List O := [
 oo 5 <| .bslice 1 0 [(.int .i64 0)] [],
 oo 6 <| .mv (.t 0),
 oo 7 <| .app 1 (.t 5) (.t 6),
 oo 2 <| .mv (.t 7)]
def cSlicesCloneIntInt : C := (.seq (.reg rSlicesCloneIntIntX0 false [] [0]) (.seq (.seq (.reg rSlicesCloneIntIntX1 false [] [0, 4]) (.cond (.t 4) (.seq (.reg rSlicesCloneIntIntX2 false [] [2]) .ret) .skip)) (.seq (.reg rSlicesCloneIntIntX3 false [] [2]) .ret)))
def qSlicesCloneIntInt : AFn := ⟨8, 1, [.t 2], cSlicesCloneIntInt⟩
/- slices.Delete[[]cohesion/api.Edge,cohesion/api.Edge] -/
def rSlicesDeleteApiEdgeApiEdgeX0 : List O := [
 oo 6 <| .mv (.k (.own 2 []))]
def rSlicesDeleteApiEdgeApiEdgeX1 : List O := [
 oo 8 <| .mv (.t 0),
 oo 9 <| .mv (.t 1),
 oo 10 <| .mv (.t 2),
 oo 11 <| .mv (.t 0),
 oo 12 <| .len (.t 11),
 oo 13 <| .bad]
def rSlicesDeleteApiEdgeApiEdgeX2 : List O := [
 oo 14 <| .mv (.t 1),
 oo 15 <| .mv (.t 2),
 oo 16 <| .bin .eql (.t 14) (.t 15)]
def rSlicesDeleteApiEdgeApiEdgeX3 : List O := [
 oo 17 <| .mv (.t 0),
 oo 6 <| .mv (.t 17)]
def rSlicesDeleteApiEdgeApiEdgeX4 : List O := [
 oo 18 <| .mv (.t 0),
 oo 19 <| .len (.t 18),
 oo 7 <| .mv (.t 19)]
def rSlicesDeleteApiEdgeApiEdgeX5 : List O := [
 oo 20 <| .mv (.t 0),
 oo 21 <| .mv (.t 1),
 oo 22 <| .slc 2 (.t 20) none (some (.t 21)),
 oo 23 <| .mv (.t 0),
 oo 24 <| .mv (.t 2),
 oo 25 <| .slc 2 (.t 23) (some (.t 24)) none,
 oo 26 <| .app 2 (.t 22) (.t 25),
 oo 0 <| .mv (.t 26)]
def rSlicesDeleteApiEdgeApiEdgeX6 : List O := [
 oo 27 <| .mv (.t 0),
 oo 28 <| .mv (.t 0),
 oo 29 <| .len (.t 28),
 oo 30 <| .mv (.t 7),
 oo 31 <| .slc 2 (.t 27) (some (.t 29)) (some (.t 30)),
 oz <| .clr 2 [(.int .i64 0), (.int .i64 0)] (.t 31)]
def rSlicesDeleteApiEdgeApiEdgeX7 : List O := [
 oo 32 <| .mv (.t 0),
 oo 6 <| .mv (.t 32)]
def cSlicesDeleteApiEdgeApiEdge : C := (.seq (.reg rSlicesDeleteApiEdgeApiEdgeX0 false [] [0, 1, 2]) (.seq (.reg rSlicesDeleteApiEdgeApiEdgeX1 false [] [0, 1, 2]) (.seq (.seq (.reg rSlicesDeleteApiEdgeApiEdgeX2 false [] [0, 1, 2, 16]) (.cond (.t 16) (.seq (.reg rSlicesDeleteApiEdgeApiEdgeX3 false [] [6]) .ret) .skip)) (.seq (.reg rSlicesDeleteApiEdgeApiEdgeX4 false [] [0, 1, 2, 7]) (.seq (.reg rSlicesDeleteApiEdgeApiEdgeX5 true [(6, 6), (7, 7)] [0, 7]) (.seq (.reg rSlicesDeleteApiEdgeApiEdgeX6 false [] [0]) (.seq (.reg rSlicesDeleteApiEdgeApiEdgeX7 false [] [6]) .ret)))))))
def qSlicesDeleteApiEdgeApiEdge : AFn := ⟨33, 3, [.t 6], cSlicesDeleteApiEdgeApiEdge⟩
/- cohesion/cohesionref02.Of -/
def rRef02OfX0 : List O := [
 oo 2 <| .mv (.k (.own 1 []))]
def rRef02OfX1 : List O := [
 oo 3 <| .mv (.k (.own 1 []))]
def rRef02OfX2 : List O := [
 oo 6 <| .mv (.t 0),
 oo 7 <| .len (.t 6),
 oo 8 <| .mv (ki 0)]
def rRef02OfX3 : List O := [
 oo 9 <| .bin .lss (.t 8) (.t 7)]
def rRef02OfX4 : List O := [
 oo 10 <| .ixa 1 (.t 6) (.t 8),
 oo 11 <| .ld none (.t 10),
 oo 5 <| .mv (.t 11)]
def rRef02OfX5 : List O := [
 oo 12 <| .mv (.t 3),
 oo 13 <| .mv (.t 5),
 oo 14 <| .call nRef02Put [(.t 12), (.t 13)],
 oo 3 <| .mv (.t 14)]
def rRef02OfX6 : List O := [
 oo 15 <| .bin .add (.t 8) (ki 1),
 oo 8 <| .mv (.t 15)]
def lRef02OfX0 : C := (.seq (.reg rRef02OfX3 false [] [3, 6, 7, 8, 9]) (.seq (.cond (.t 9) .skip (.exit 0)) (.seq (.blk 1 (.seq (.reg rRef02OfX4 false [] [3, 5, 6, 7, 8]) (.reg rRef02OfX5 false [] [3, 6, 7, 8]))) (.reg rRef02OfX6 false [] [3, 6, 7, 8]))))
def rRef02OfX7 : List O := [
 oo 16 <| .mv (.t 3),
 oo 2 <| .mv (.t 16)]
def cRef02Of : C := (.seq (.reg rRef02OfX0 false [] [0]) (.seq (.reg rRef02OfX1 false [] [0, 3]) (.seq (.seq (.reg rRef02OfX2 false [] [3, 6, 7, 8]) (.blk 0 (.loop lRef02OfX0))) (.seq (.reg rRef02OfX7 false [] [2]) .ret))))
def qRef02Of : AFn := ⟨17, 1, [.t 2], cRef02Of⟩
/- cohesion/cohesionref02.Has -/
def rRef02HasX0 : List O := [
 oo 4 <| .mv (.k (.bool false))]
def rRef02HasX1 : List O := [
 oo 7 <| .mv (.t 0),
 oo 8 <| .len (.t 7),
 oo 9 <| .mv (ki 0)]
def rRef02HasX2 : List O := [
 oo 10 <| .bin .lss (.t 9) (.t 8)]
def rRef02HasX3 : List O := [
 oo 11 <| .ixa 1 (.t 7) (.t 9),
 oo 12 <| .ld none (.t 11),
 oo 6 <| .mv (.t 12)]
def rRef02HasX4 : List O := [
 oo 13 <| .mv (.t 6),
 oo 14 <| .mv (.t 1),
 oo 15 <| .bin .eql (.t 13) (.t 14)]
def rRef02HasX5 : List O := [
 oo 4 <| .mv (.k (.bool true))]
def rRef02HasX6 : List O := [
 oo 16 <| .bin .add (.t 9) (ki 1),
 oo 9 <| .mv (.t 16)]
def lRef02HasX0 : C := (.seq (.reg rRef02HasX2 false [] [1, 7, 8, 9, 10]) (.seq (.cond (.t 10) .skip (.exit 0)) (.seq (.blk 1 (.seq (.reg rRef02HasX3 false [] [1, 6, 7, 8, 9]) (.seq (.reg rRef02HasX4 false [] [1, 7, 8, 9, 15]) (.cond (.t 15) (.seq (.reg rRef02HasX5 false [] [4]) .ret) .skip)))) (.reg rRef02HasX6 false [] [1, 7, 8, 9]))))
def rRef02HasX7 : List O := [
 oo 4 <| .mv (.k (.bool false))]
def cRef02Has : C := (.seq (.reg rRef02HasX0 false [] [0, 1]) (.seq (.seq (.reg rRef02HasX1 false [] [1, 7, 8, 9]) (.blk 0 (.loop lRef02HasX0))) (.seq (.reg rRef02HasX7 false [] [4]) .ret)))
def qRef02Has : AFn := ⟨17, 2, [.t 4], cRef02Has⟩
/- cohesion/cohesionref03.Check -/
def rRef03CheckX0 : List O := [
 oo 1 <| .box (.t 0),
 oo 2 <| .mv (ki 0)]
def rRef03CheckX1 : List O := [
 oo 5 <| .fad 0 (.t 1),
 oo 6 <| .ld none (.t 5),
 oo 7 <| .bin .lss (.t 6) (ki 0),
 oo 8 <| .mv (.t 7),
 ⟨(some 9), (some (8, false)), .fad 0 (.t 1)⟩,
 ⟨(some 10), (some (8, false)), .ld none (.t 9)⟩,
 ⟨(some 11), (some (8, false)), .bin .gtr (.t 10) (ki 64)⟩,
 oo 12 <| .pick (.t 8) (.k (.bool true)) (.t 11)]
def rRef03CheckX2 : List O := [
 oo 2 <| .mv (ki 1)]
def rRef03CheckX3 : List O := [
 oo 13 <| .fad 1 (.t 1),
 oo 14 <| .ld none (.t 13),
 oo 15 <| .len (.t 14),
 oo 16 <| .mv (ki 0)]
def rRef03CheckX4 : List O := [
 oo 17 <| .bin .lss (.t 16) (.t 15)]
def rRef03CheckX5 : List O := [
 oo 18 <| .mv (.t 16),
 oo 19 <| .ixa 2 (.t 14) (.t 16),
 oo 20 <| .ld (some 2) (.t 19),
 oo 4 <| .new [(.int .i64 0), (.int .i64 0)],
 oo 3 <| .mv (.t 18),
 oz <| .st 2 (.t 4) (.t 20)]
def rRef03CheckX6 : List O := [
 oo 21 <| .fad 0 (.t 4),
 oo 22 <| .ld none (.t 21),
 oo 23 <| .bin .lss (.t 22) (ki 0),
 oo 24 <| .mv (.t 23),
 ⟨(some 25), (some (24, false)), .fad 0 (.t 4)⟩,
 ⟨(some 26), (some (24, false)), .ld none (.t 25)⟩,
 ⟨(some 27), (some (24, false)), .fad 1 (.t 4)⟩,
 ⟨(some 28), (some (24, false)), .ld none (.t 27)⟩,
 ⟨(some 29), (some (24, false)), .bin .geq (.t 26) (.t 28)⟩,
 oo 30 <| .pick (.t 24) (.k (.bool true)) (.t 29),
 oo 31 <| .mv (.t 30),
 ⟨(some 32), (some (31, false)), .fad 1 (.t 4)⟩,
 ⟨(some 33), (some (31, false)), .ld none (.t 32)⟩,
 ⟨(some 34), (some (31, false)), .fad 0 (.t 1)⟩,
 ⟨(some 35), (some (31, false)), .ld none (.t 34)⟩,
 ⟨(some 36), (some (31, false)), .bin .geq (.t 33) (.t 35)⟩,
 oo 37 <| .pick (.t 31) (.k (.bool true)) (.t 36)]
def rRef03CheckX7 : List O := [
 oo 2 <| .mv (ki 6)]
def rRef03CheckX8 : List O := [
 oo 38 <| .mv (.t 3),
 oo 39 <| .bin .gtr (.t 38) (ki 0),
 oo 40 <| .mv (.t 39),
 ⟨(some 41), (some (40, true)), .fad 1 (.t 1)⟩,
 ⟨(some 42), (some (40, true)), .ld none (.t 41)⟩,
 ⟨(some 43), (some (40, true)), .mv (.t 3)⟩,
 ⟨(some 44), (some (40, true)), .bin .sub (.t 43) (ki 1)⟩,
 ⟨(some 45), (some (40, true)), .ixa 2 (.t 42) (.t 44)⟩,
 ⟨(some 46), (some (40, true)), .ld (some 2) (.t 45)⟩,
 ⟨(some 47), (some (40, true)), .ld (some 2) (.t 4)⟩,
 ⟨(some 48), (some (40, true)), .call nRef03Before [(.t 46), (.t 47)]⟩,
 ⟨(some 49), (some (40, true)), .un .not (.t 48)⟩,
 oo 50 <| .pick (.t 40) (.t 49) (.k (.bool false))]
def rRef03CheckX9 : List O := [
 oo 2 <| .mv (ki 5)]
def rRef03CheckX10 : List O := [
 oo 51 <| .bin .add (.t 16) (ki 1),
 oo 16 <| .mv (.t 51)]
def lRef03CheckX0 : C := (.seq (.reg rRef03CheckX4 false [] [1, 14, 15, 16, 17]) (.seq (.cond (.t 17) .skip (.exit 0)) (.seq (.blk 1 (.seq (.reg rRef03CheckX5 false [] [1, 3, 4, 14, 15, 16]) (.seq (.seq (.reg rRef03CheckX6 false [] [1, 3, 4, 14, 15, 16, 37]) (.cond (.t 37) (.seq (.reg rRef03CheckX7 false [] [2]) .ret) .skip)) (.seq (.reg rRef03CheckX8 true [(0, 0), (1, 1), (2, 2), (10, 10), (11, 11), (12, 12), (4, 5), (4, 6), (3, 9), (4, 9), (5, 9), (6, 9), (7, 9), (8, 9)] [1, 14, 15, 16, 50]) (.cond (.t 50) (.seq (.reg rRef03CheckX9 false [] [2]) .ret) .skip))))) (.reg rRef03CheckX10 false [] [1, 14, 15, 16]))))
def rRef03CheckX11 : List O := [
 oo 2 <| .mv (ki 0)]
def cRef03Check : C := (.seq (.reg rRef03CheckX0 false [] [1]) (.seq (.seq (.reg rRef03CheckX1 false [] [1, 12]) (.cond (.t 12) (.seq (.reg rRef03CheckX2 false [] [2]) .ret) .skip)) (.seq (.seq (.reg rRef03CheckX3 false [] [1, 14, 15, 16]) (.blk 0 (.loop lRef03CheckX0))) (.seq (.reg rRef03CheckX11 false [] [2]) .ret))))
def qRef03Check : AFn := ⟨52, 1, [.t 2], cRef03Check⟩
/- cohesion/cohesionref03.Before -/
def rRef03BeforeX0 : List O := [
 oo 2 <| .box (.t 0),
 oo 3 <| .box (.t 1),
 oo 4 <| .mv (.k (.bool false))]
def rRef03BeforeX1 : List O := [
 oo 5 <| .fad 0 (.t 2),
 oo 6 <| .ld none (.t 5),
 oo 7 <| .fad 0 (.t 3),
 oo 8 <| .ld none (.t 7),
 oo 9 <| .bin .lss (.t 6) (.t 8),
 oo 10 <| .mv (.t 9),
 ⟨(some 11), (some (10, false)), .fad 0 (.t 2)⟩,
 ⟨(some 12), (some (10, false)), .ld none (.t 11)⟩,
 ⟨(some 13), (some (10, false)), .fad 0 (.t 3)⟩,
 ⟨(some 14), (some (10, false)), .ld none (.t 13)⟩,
 ⟨(some 15), (some (10, false)), .bin .eql (.t 12) (.t 14)⟩,
 ⟨(some 16), (some (10, false)), .mv (.t 15)⟩,
 ⟨(some 17), (some (16, true)), .fad 1 (.t 2)⟩,
 ⟨(some 18), (some (16, true)), .ld none (.t 17)⟩,
 ⟨(some 19), (some (16, true)), .fad 1 (.t 3)⟩,
 ⟨(some 20), (some (16, true)), .ld none (.t 19)⟩,
 ⟨(some 21), (some (16, true)), .bin .lss (.t 18) (.t 20)⟩,
 ⟨(some 22), (some (10, false)), .pick (.t 16) (.t 21) (.k (.bool false))⟩,
 oo 23 <| .pick (.t 10) (.k (.bool true)) (.t 22),
 oo 4 <| .mv (.t 23)]
def cRef03Before : C := (.seq (.reg rRef03BeforeX0 false [] [2, 3]) (.seq (.reg rRef03BeforeX1 false [] [4]) .ret))
def qRef03Before : AFn := ⟨24, 2, [.t 4], cRef03Before⟩
/- slices.Sort[[]int,int] -/
def rSlicesSortIntIntX0 : List O := [
 oo 3 <| .mv (.t 0),
 oo 4 <| .len (.t 3),
 oo 2 <| .mv (.t 4)]
def rSlicesSortIntIntX1 : List O := [
 oo 5 <| .mv (.t 0),
 oo 6 <| .mv (.t 2),
 oo 7 <| .mv (.t 2),
 oo 8 <| .cvt .u64 (.t 7),
 oo 9 <| .call 58 [(.t 8)],
 oo 10 <| .call 57 [(.t 5), (ki 0), (.t 6), (.t 9)]]
def cSlicesSortIntInt : C := (.seq (.reg rSlicesSortIntIntX0 false [] [0, 2]) (.reg rSlicesSortIntIntX1 false [] []))
def qSlicesSortIntInt : AFn := ⟨11, 1, [], cSlicesSortIntInt⟩
/- cohesion/ratio.Make -/
def rRatioMakeX0 : List O := [
 oo 4 <| .new [(.int .i64 0), (.int .i64 0)],
 oo 5 <| .mv (ki 0)]
def rRatioMakeX1 : List O := [
 oo 7 <| .mv (.t 1),
 oo 8 <| .bin .eql (.t 7) (ki 0),
 oo 6 <| .mv (.t 8)]
def rRatioMakeX2 : List O := [
 oo 9 <| .build [(.int .i64 0), (.int .i64 0)] [],
 oz <| .st 2 (.t 4) (.t 9),
 oo 5 <| .mv (ki 2)]
def rRatioMakeX3 : List O := [
 oo 11 <| .mv (.t 0),
 oo 12 <| .call nRatioWithin [(.t 11), (ki 4611686018427387904)],
 oo 13 <| .mv (.t 12),
 ⟨(some 14), (some (13, true)), .mv (.t 1)⟩,
 ⟨(some 15), (some (13, true)), .call nRatioWithin [(.t 14), (ki 4611686018427387904)]⟩,
 oo 16 <| .pick (.t 13) (.t 15) (.k (.bool false)),
 oo 10 <| .mv (.t 16)]
def rRatioMakeX4 : List O := [
 oo 17 <| .mv (.t 0),
 oo 18 <| .mv (.t 1),
 oo 19 <| .call nRatioLowest [(.t 17), (.t 18)],
 oo 20 <| .ext 0 (.t 19),
 oo 21 <| .ext 1 (.t 19),
 oz <| .st 2 (.t 4) (.t 20),
 oo 5 <| .mv (.t 21)]
def rRatioMakeX5 : List O := [
 oo 22 <| .mv (.t 0),
 oo 23 <| .call nWideOf [(.t 22)],
 oo 24 <| .mv (.t 1),
 oo 25 <| .call nWideOf [(.t 24)],
 oo 26 <| .call nRatioExact [(.t 23), (.t 25)],
 oo 27 <| .ext 0 (.t 26),
 oo 28 <| .ext 1 (.t 26),
 oz <| .st 2 (.t 4) (.t 27),
 oo 5 <| .mv (.t 28)]
def cRatioMake : C := (.seq (.reg rRatioMakeX0 false [] [0, 1, 4]) (.seq (.blk 0 (.seq (.reg rRatioMakeX1 false [] [0, 1, 4, 6]) (.cond (.t 6) (.seq (.reg rRatioMakeX2 false [] [4, 5]) .ret) (.seq (.reg rRatioMakeX3 false [] [0, 1, 4, 10]) (.cond (.t 10) (.seq (.reg rRatioMakeX4 false [] [4, 5]) .ret) .skip))))) (.seq (.reg rRatioMakeX5 false [] [4, 5]) .ret)))
def qRatioMake : AFn := ⟨29, 2, [.c 4 (some 2), .t 5], cRatioMake⟩
/- cmp.Or[int] -/
def rCmpOrIntX0 : List O := [
 oo 2 <| .mv (ki 0)]
def rCmpOrIntX1 : List O := [
 oo 3 <| .mv (ki 0)]
def rCmpOrIntX2 : List O := [
 oo 6 <| .mv (.t 0),
 oo 7 <| .len (.t 6),
 oo 8 <| .mv (ki 0)]
def rCmpOrIntX3 : List O := [
 oo 9 <| .bin .lss (.t 8) (.t 7)]
def rCmpOrIntX4 : List O := [
 oo 10 <| .ixa 1 (.t 6) (.t 8),
 oo 11 <| .ld none (.t 10),
 oo 5 <| .mv (.t 11)]
def rCmpOrIntX5 : List O := [
 oo 12 <| .mv (.t 5),
 oo 13 <| .mv (.t 3),
 oo 14 <| .bin .neq (.t 12) (.t 13)]
def rCmpOrIntX6 : List O := [
 oo 15 <| .mv (.t 5),
 oo 2 <| .mv (.t 15)]
def rCmpOrIntX7 : List O := [
 oo 16 <| .bin .add (.t 8) (ki 1),
 oo 8 <| .mv (.t 16)]
def lCmpOrIntX0 : C := (.seq (.reg rCmpOrIntX3 false [] [3, 6, 7, 8, 9]) (.seq (.cond (.t 9) .skip (.exit 0)) (.seq (.blk 1 (.seq (.reg rCmpOrIntX4 false [] [3, 5, 6, 7, 8]) (.seq (.reg rCmpOrIntX5 false [] [3, 5, 6, 7, 8, 14]) (.cond (.t 14) (.seq (.reg rCmpOrIntX6 false [] [2]) .ret) .skip)))) (.reg rCmpOrIntX7 false [] [3, 6, 7, 8]))))
def rCmpOrIntX8 : List O := [
 oo 17 <| .mv (.t 3),
 oo 2 <| .mv (.t 17)]
def cCmpOrInt : C := (.seq (.reg rCmpOrIntX0 false [] [0]) (.seq (.reg rCmpOrIntX1 false [] [0, 3]) (.seq (.seq (.reg rCmpOrIntX2 false [] [3, 6, 7, 8]) (.blk 0 (.loop lCmpOrIntX0))) (.seq (.reg rCmpOrIntX8 false [] [2]) .ret))))
def qCmpOrInt : AFn := ⟨18, 1, [.t 2], cCmpOrInt⟩
/- cmp.Compare[int] -/
def rCmpCompareIntX0 : List O := [
 oo 4 <| .mv (ki 0)]
def rCmpCompareIntX1 : List O := [
 oo 7 <| .mv (.t 0),
 oo 8 <| .call nCmpIsNaNInt [(.t 7)],
 oo 5 <| .mv (.t 8)]
def rCmpCompareIntX2 : List O := [
 oo 9 <| .mv (.t 1),
 oo 10 <| .call nCmpIsNaNInt [(.t 9)],
 oo 6 <| .mv (.t 10)]
def rCmpCompareIntX3 : List O := [
 oo 11 <| .mv (.t 5)]
def rCmpCompareIntX4 : List O := [
 oo 12 <| .mv (.t 6)]
def rCmpCompareIntX5 : List O := [
 oo 4 <| .mv (ki 0)]
def rCmpCompareIntX6 : List O := [
 oo 4 <| .mv (.k (.int .i64 (-1)))]
def rCmpCompareIntX7 : List O := [
 oo 13 <| .mv (.t 6)]
def rCmpCompareIntX8 : List O := [
 oo 4 <| .mv (ki 1)]
def rCmpCompareIntX9 : List O := [
 oo 14 <| .mv (.t 0),
 oo 15 <| .mv (.t 1),
 oo 16 <| .bin .lss (.t 14) (.t 15)]
def rCmpCompareIntX10 : List O := [
 oo 4 <| .mv (.k (.int .i64 (-1)))]
def rCmpCompareIntX11 : List O := [
 oo 17 <| .mv (.t 0),
 oo 18 <| .mv (.t 1),
 oo 19 <| .bin .gtr (.t 17) (.t 18)]
def rCmpCompareIntX12 : List O := [
 oo 4 <| .mv (ki 1)]
def rCmpCompareIntX13 : List O := [
 oo 4 <| .mv (ki 0)]
def cCmpCompareInt : C := (.seq (.reg rCmpCompareIntX0 false [] [0, 1]) (.seq (.reg rCmpCompareIntX1 false [] [0, 1, 5]) (.seq (.reg rCmpCompareIntX2 false [] [0, 1, 5, 6]) (.seq (.seq (.reg rCmpCompareIntX3 false [] [0, 1, 6, 11]) (.cond (.t 11) (.seq (.seq (.reg rCmpCompareIntX4 false [] [12]) (.cond (.t 12) (.seq (.reg rCmpCompareIntX5 false [] [4]) .ret) .skip)) (.seq (.reg rCmpCompareIntX6 false [] [4]) .ret)) .skip)) (.seq (.seq (.reg rCmpCompareIntX7 false [] [0, 1, 13]) (.cond (.t 13) (.seq (.reg rCmpCompareIntX8 false [] [4]) .ret) .skip)) (.seq (.seq (.reg rCmpCompareIntX9 false [] [0, 1, 16]) (.cond (.t 16) (.seq (.reg rCmpCompareIntX10 false [] [4]) .ret) .skip)) (.seq (.seq (.reg rCmpCompareIntX11 false [] [19]) (.cond (.t 19) (.seq (.reg rCmpCompareIntX12 false [] [4]) .ret) .skip)) (.seq (.reg rCmpCompareIntX13 false [] [4]) .ret))))))))
def qCmpCompareInt : AFn := ⟨20, 2, [.t 4], cCmpCompareInt⟩
/- cohesion/graph.Ends -/
def rGraphEndsX0 : List O := [
 oo 6 <| .mv (.k (.bool false))]
def rGraphEndsX1 : List O := [
 oo 7 <| .mv (.t 1),
 oo 8 <| .mv (.t 2),
 oo 9 <| .bin .neq (.t 7) (.t 8),
 oo 10 <| .mv (.t 9),
 ⟨(some 11), (some (10, true)), .mv (.t 1)⟩,
 ⟨(some 12), (some (10, true)), .mv (.t 2)⟩,
 ⟨(some 13), (some (10, true)), .min [(.t 11), (.t 12)]⟩,
 ⟨(some 14), (some (10, true)), .bin .geq (.t 13) (ki 0)⟩,
 oo 15 <| .pick (.t 10) (.t 14) (.k (.bool false)),
 oo 16 <| .mv (.t 15),
 ⟨(some 17), (some (16, true)), .mv (.t 1)⟩,
 ⟨(some 18), (some (16, true)), .mv (.t 2)⟩,
 ⟨(some 19), (some (16, true)), .max [(.t 17), (.t 18)]⟩,
 ⟨(some 20), (some (16, true)), .mv (.t 0)⟩,
 ⟨(some 21), (some (16, true)), .bin .lss (.t 19) (.t 20)⟩,
 oo 22 <| .pick (.t 16) (.t 21) (.k (.bool false)),
 oo 6 <| .mv (.t 22)]
def cGraphEnds : C := (.seq (.reg rGraphEndsX0 false [] [0, 1, 2]) (.seq (.reg rGraphEndsX1 false [] [6]) .ret))
def qGraphEnds : AFn := ⟨23, 3, [.t 6], cGraphEnds⟩
/- slices.BinarySearchFunc[[]cohesion/api.Edge,cohesion/api.Edge,cohesion/api.Edge] -/
def rSlicesBinarySearchFuncApiEdgeApiEdgeApiEdgeX0 : List O := [
 oo 4 <| .box (.t 1),
 oo 6 <| .mv (ki 0),
 oo 7 <| .mv (.k (.bool false))]
def rSlicesBinarySearchFuncApiEdgeApiEdgeApiEdgeX1 : List O := [
 oo 12 <| .mv (.t 0),
 oo 13 <| .len (.t 12),
 oo 8 <| .mv (.t 13)]
def rSlicesBinarySearchFuncApiEdgeApiEdgeApiEdgeX2 : List O := [
 oo 14 <| .mv (.t 8),
 oo 9 <| .mv (ki 0),
 oo 10 <| .mv (.t 14)]
def rSlicesBinarySearchFuncApiEdgeApiEdgeApiEdgeX3 : List O := [
 oo 15 <| .mv (.t 9),
 oo 16 <| .mv (.t 10),
 oo 17 <| .bin .lss (.t 15) (.t 16)]
def rSlicesBinarySearchFuncApiEdgeApiEdgeApiEdgeX4 : List O := [
 oo 18 <| .mv (.t 9),
 oo 19 <| .mv (.t 10),
 oo 20 <| .bin .add (.t 18) (.t 19),
 oo 21 <| .cvt .u64 (.t 20),
 oo 22 <| .bin .shr (.t 21) (.k (.int .u64 1)),
 oo 23 <| .cvt .i64 (.t 22),
 oo 11 <| .mv (.t 23)]
def rSlicesBinarySearchFuncApiEdgeApiEdgeApiEdgeX5 : List O := [
 oo 24 <| .mv (.t 2),
 oo 25 <| .mv (.t 0),
 oo 26 <| .mv (.t 11),
 oo 27 <| .ixa 2 (.t 25) (.t 26),
 oo 28 <| .ld (some 2) (.t 27),
 oo 29 <| .ld (some 2) (.t 4),
 oo 30 <| .callv (.t 24) [(.t 28), (.t 29)],
 oo 31 <| .bin .lss (.t 30) (ki 0)]
def rSlicesBinarySearchFuncApiEdgeApiEdgeApiEdgeX6 : List O := [
 oo 32 <| .mv (.t 11),
 oo 33 <| .bin .add (.t 32) (ki 1),
 oo 9 <| .mv (.t 33)]
def rSlicesBinarySearchFuncApiEdgeApiEdgeApiEdgeX7 : List O := [
 oo 34 <| .mv (.t 11),
 oo 10 <| .mv (.t 34)]
def lSlicesBinarySearchFuncApiEdgeApiEdgeApiEdgeX0 : C := (.seq (.seq (.reg rSlicesBinarySearchFuncApiEdgeApiEdgeApiEdgeX3 false [] [0, 2, 4, 8, 9, 10, 17]) (.cond (.t 17) .skip (.exit 0))) (.blk 1 (.seq (.reg rSlicesBinarySearchFuncApiEdgeApiEdgeApiEdgeX4 false [] [0, 2, 4, 8, 9, 10, 11]) (.seq (.reg rSlicesBinarySearchFuncApiEdgeApiEdgeApiEdgeX5 true [(6, 6), (7, 7), (0, 4), (0, 5), (1, 5), (2, 5), (3, 5), (4, 5)] [0, 2, 4, 8, 9, 10, 11, 31]) (.cond (.t 31) (.reg rSlicesBinarySearchFuncApiEdgeApiEdgeApiEdgeX6 false [] [0, 2, 4, 8, 9, 10]) (.reg rSlicesBinarySearchFuncApiEdgeApiEdgeApiEdgeX7 false [] [0, 2, 4, 8, 9, 10]))))))
def rSlicesBinarySearchFuncApiEdgeApiEdgeApiEdgeX8 : List O := [
 oo 35 <| .mv (.t 9),
 oo 36 <| .mv (.t 9),
 oo 37 <| .mv (.t 8),
 oo 38 <| .bin .lss (.t 36) (.t 37),
 oo 39 <| .mv (.t 38),
 ⟨(some 40), (some (39, true)), .mv (.t 2)⟩,
 ⟨(some 41), (some (39, true)), .mv (.t 0)⟩,
 ⟨(some 42), (some (39, true)), .mv (.t 9)⟩,
 ⟨(some 43), (some (39, true)), .ixa 2 (.t 41) (.t 42)⟩,
 ⟨(some 44), (some (39, true)), .ld (some 2) (.t 43)⟩,
 ⟨(some 45), (some (39, true)), .ld (some 2) (.t 4)⟩,
 ⟨(some 46), (some (39, true)), .callv (.t 40) [(.t 44), (.t 45)]⟩,
 ⟨(some 47), (some (39, true)), .bin .eql (.t 46) (ki 0)⟩,
 oo 48 <| .pick (.t 39) (.t 47) (.k (.bool false)),
 oo 6 <| .mv (.t 35),
 oo 7 <| .mv (.t 48)]
def cSlicesBinarySearchFuncApiEdgeApiEdgeApiEdge : C := (.seq (.reg rSlicesBinarySearchFuncApiEdgeApiEdgeApiEdgeX0 false [] [0, 2, 4]) (.seq (.reg rSlicesBinarySearchFuncApiEdgeApiEdgeApiEdgeX1 false [] [0, 2, 4, 8]) (.seq (.reg rSlicesBinarySearchFuncApiEdgeApiEdgeApiEdgeX2 false [] [0, 2, 4, 8, 9, 10]) (.seq (.blk 0 (.loop lSlicesBinarySearchFuncApiEdgeApiEdgeApiEdgeX0)) (.seq (.reg rSlicesBinarySearchFuncApiEdgeApiEdgeApiEdgeX8 true [(15, 15), (0, 9), (5, 9), (0, 10), (5, 10), (6, 10), (7, 10), (8, 10), (9, 10), (0, 11)] [6, 7]) .ret)))))
def qSlicesBinarySearchFuncApiEdgeApiEdgeApiEdge : AFn := ⟨49, 3, [.t 6, .t 7], cSlicesBinarySearchFuncApiEdgeApiEdgeApiEdge⟩
/- cohesion/cohesionref02.put -/
def rRef02PutX0 : List O := [
 oo 4 <| .mv (.k (.own 1 []))]
def rRef02PutX1 : List O := [
 oo 5 <| .mv (ki 0)]
def rRef02PutX2 : List O := [
 oo 7 <| .mv (.t 5),
 oo 8 <| .mv (.t 0),
 oo 9 <| .len (.t 8),
 oo 10 <| .bin .lss (.t 7) (.t 9),
 oo 11 <| .mv (.t 10),
 ⟨(some 12), (some (11, true)), .mv (.t 0)⟩,
 ⟨(some 13), (some (11, true)), .mv (.t 5)⟩,
 ⟨(some 14), (some (11, true)), .ixa 1 (.t 12) (.t 13)⟩,
 ⟨(some 15), (some (11, true)), .ld none (.t 14)⟩,
 ⟨(some 16), (some (11, true)), .mv (.t 1)⟩,
 ⟨(some 17), (some (11, true)), .bin .lss (.t 15) (.t 16)⟩,
 oo 18 <| .pick (.t 11) (.t 17) (.k (.bool false))]
def rRef02PutX3 : List O := [
 oo 19 <| .mv (.t 5),
 oo 20 <| .bin .add (.t 19) (ki 1),
 oo 5 <| .mv (.t 20)]
def lRef02PutX0 : C := (.seq (.seq (.reg rRef02PutX2 false [] [0, 1, 5, 18]) (.cond (.t 18) .skip (.exit 0))) (.blk 1 (.reg rRef02PutX3 false [] [0, 1, 5])))
def rRef02PutX4 : List O := [
 oo 21 <| .mv (.t 5),
 oo 22 <| .mv (.t 0),
 oo 23 <| .len (.t 22),
 oo 24 <| .bin .lss (.t 21) (.t 23),
 oo 25 <| .mv (.t 24),
 ⟨(some 26), (some (25, true)), .mv (.t 0)⟩,
 ⟨(some 27), (some (25, true)), .mv (.t 5)⟩,
 ⟨(some 28), (some (25, true)), .ixa 1 (.t 26) (.t 27)⟩,
 ⟨(some 29), (some (25, true)), .ld none (.t 28)⟩,
 ⟨(some 30), (some (25, true)), .mv (.t 1)⟩,
 ⟨(some 31), (some (25, true)), .bin .eql (.t 29) (.t 30)⟩,
 oo 32 <| .pick (.t 25) (.t 31) (.k (.bool false))]
def rRef02PutX5 : List O := [
 oo 33 <| .mv (.t 0),
 oo 4 <| .mv (.t 33)]
def rRef02PutX6 : List O := [
 oo 34 <| .mv (.t 0),
 oo 35 <| .mv (.t 5),
 oo 36 <| .slc 1 (.t 34) none (some (.t 35)),
 oo 37 <| .app 1 (.k (.own 1 [])) (.t 36),
 oo 6 <| .mv (.t 37)]
def rRef02PutX7 : List O := [
 oo 38 <| .mv (.t 6),
 oo 39 <| .mv (.t 1),
 oo 40 <| .bslice 1 1 [(.int .i64 0)] [(0, 1, (.t 39))],
 oo 41 <| .app 1 (.t 38) (.t 40),
 oo 42 <| .mv (.t 0),
 oo 43 <| .mv (.t 5),
 oo 44 <| .slc 1 (.t 42) (some (.t 43)) none,
 oo 45 <| .app 1 (.t 41) (.t 44),
 oo 4 <| .mv (.t 45)]
def cRef02Put : C := (.seq (.reg rRef02PutX0 false [] [0, 1]) (.seq (.reg rRef02PutX1 false [] [0, 1, 5]) (.seq (.blk 0 (.loop lRef02PutX0)) (.seq (.seq (.reg rRef02PutX4 false [] [0, 1, 5, 32]) (.cond (.t 32) (.seq (.reg rRef02PutX5 false [] [4]) .ret) .skip)) (.seq (.reg rRef02PutX6 false [] [0, 1, 5, 6]) (.seq (.reg rRef02PutX7 true [(7, 7), (8, 8), (0, 2), (2, 4), (3, 4), (2, 5), (3, 5), (2, 6), (3, 6)] [4]) .ret))))))
def qRef02Put : AFn := ⟨46, 2, [.t 4], cRef02Put⟩
/- cohesion/ratio.within -/
def rRatioWithinX0 : List O := [
 oo 4 <| .mv (.k (.bool false))]
def rRatioWithinX1 : List O := [
 oo 5 <| .mv (.t 0),
 oo 6 <| .mv (.t 1),
 oo 7 <| .un .neg (.t 6),
 oo 8 <| .bin .geq (.t 5) (.t 7),
 oo 9 <| .mv (.t 8),
 ⟨(some 10), (some (9, true)), .mv (.t 0)⟩,
 ⟨(some 11), (some (9, true)), .mv (.t 1)⟩,
 ⟨(some 12), (some (9, true)), .bin .leq (.t 10) (.t 11)⟩,
 oo 13 <| .pick (.t 9) (.t 12) (.k (.bool false)),
 oo 4 <| .mv (.t 13)]
def cRatioWithin : C := (.seq (.reg rRatioWithinX0 false [] [0, 1]) (.seq (.reg rRatioWithinX1 false [] [4]) .ret))
def qRatioWithin : AFn := ⟨14, 2, [.t 4], cRatioWithin⟩
/- cohesion/ratio.lowest -/
def rRatioLowestX0 : List O := [
 oo 4 <| .new [(.int .i64 0), (.int .i64 0)],
 oo 5 <| .mv (ki 0)]
def rRatioLowestX1 : List O := [
 oo 7 <| .mv (.t 1),
 oo 8 <| .bin .lss (.t 7) (ki 0)]
def rRatioLowestX2 : List O := [
 oo 9 <| .mv (.t 0),
 oo 10 <| .un .neg (.t 9),
 oo 11 <| .mv (.t 1),
 oo 12 <| .un .neg (.t 11),
 oo 0 <| .mv (.t 10),
 oo 1 <| .mv (.t 12)]
def rRatioLowestX3 : List O := [
 oo 13 <| .mv (.t 0),
 oo 14 <| .mv (.t 0),
 oo 15 <| .un .neg (.t 14),
 oo 16 <| .max [(.t 13), (.t 15)],
 oo 17 <| .mv (.t 1),
 oo 18 <| .call nRatioCommon [(.t 16), (.t 17)],
 oo 6 <| .mv (.t 18)]
def rRatioLowestX4 : List O := [
 oo 19 <| .mv (.t 0),
 oo 20 <| .mv (.t 6),
 oo 21 <| .bin .quo (.t 19) (.t 20),
 oo 22 <| .mv (.t 1),
 oo 23 <| .mv (.t 6),
 oo 24 <| .bin .quo (.t 22) (.t 23),
 oo 25 <| .build [(.int .i64 0), (.int .i64 0)] [(0, 1, (.t 21)), (1, 1, (.t 24))],
 oo 26 <| .call nRatioChecked [(.t 25)],
 oo 27 <| .ext 0 (.t 26),
 oo 28 <| .ext 1 (.t 26),
 oz <| .st 2 (.t 4) (.t 27),
 oo 5 <| .mv (.t 28)]
def cRatioLowest : C := (.seq (.reg rRatioLowestX0 false [] [0, 1, 4]) (.seq (.seq (.reg rRatioLowestX1 false [] [0, 1, 4, 8]) (.cond (.t 8) (.reg rRatioLowestX2 false [] [0, 1, 4]) .skip)) (.seq (.reg rRatioLowestX3 false [] [0, 1, 4, 6]) (.seq (.reg rRatioLowestX4 true [(6, 6), (7, 7), (10, 10), (11, 11)] [4, 5]) .ret))))
def qRatioLowest : AFn := ⟨29, 2, [.c 4 (some 2), .t 5], cRatioLowest⟩
/- cohesion/ratio.exact -/
def rRatioExactX0 : List O := [
 oo 2 <| .box (.t 0),
 oo 3 <| .box (.t 1),
 oo 4 <| .new [(.int .i64 0), (.int .i64 0)],
 oo 5 <| .mv (ki 0)]
def rRatioExactX1 : List O := [
 oo 11 <| .ld (some 3) (.t 2),
 oo 12 <| .ld (some 3) (.t 3),
 oo 13 <| .call nWideCommon [(.t 11), (.t 12)],
 oo 6 <| .new [(.int .u64 0), (.int .u64 0), (.bool false)],
 oz <| .st 3 (.t 6) (.t 13)]
def rRatioExactX2 : List O := [
 oo 15 <| .ld (some 3) (.t 2),
 oo 16 <| .ld (some 3) (.t 6),
 oo 17 <| .call nWideNumberOver [(.t 15), (.t 16)],
 oo 14 <| .mv (.t 17),
 oo 18 <| .ext 0 (.t 14),
 oo 19 <| .ext 1 (.t 14),
 oo 7 <| .mv (.t 18),
 oo 8 <| .mv (.t 19)]
def rRatioExactX3 : List O := [
 oo 21 <| .ld (some 3) (.t 3),
 oo 22 <| .ld (some 3) (.t 6),
 oo 23 <| .call nWideNumberOver [(.t 21), (.t 22)],
 oo 20 <| .mv (.t 23),
 oo 24 <| .ext 0 (.t 20),
 oo 25 <| .ext 1 (.t 20),
 oo 9 <| .mv (.t 24),
 oo 10 <| .mv (.t 25)]
def rRatioExactX4 : List O := [
 oo 26 <| .mv (.t 8),
 oo 27 <| .un .not (.t 26),
 oo 28 <| .mv (.t 27),
 ⟨(some 29), (some (28, false)), .mv (.t 10)⟩,
 ⟨(some 30), (some (28, false)), .un .not (.t 29)⟩,
 oo 31 <| .pick (.t 28) (.k (.bool true)) (.t 30)]
def rRatioExactX5 : List O := [
 oo 32 <| .build [(.int .i64 0), (.int .i64 0)] [],
 oz <| .st 2 (.t 4) (.t 32),
 oo 5 <| .mv (ki 3)]
def rRatioExactX6 : List O := [
 oo 33 <| .ld (some 3) (.t 2),
 oo 34 <| .call nWideNumberNegative [(.t 33)],
 oo 35 <| .ld (some 3) (.t 3),
 oo 36 <| .call nWideNumberNegative [(.t 35)],
 oo 37 <| .eq true .bool (.t 34) (.t 36)]
def rRatioExactX7 : List O := [
 oo 38 <| .mv (.t 7),
 oo 39 <| .un .neg (.t 38),
 oo 7 <| .mv (.t 39)]
def rRatioExactX8 : List O := [
 oo 40 <| .mv (.t 7),
 oo 41 <| .mv (.t 9),
 oo 42 <| .build [(.int .i64 0), (.int .i64 0)] [(0, 1, (.t 40)), (1, 1, (.t 41))],
 oo 43 <| .call nRatioChecked [(.t 42)],
 oo 44 <| .ext 0 (.t 43),
 oo 45 <| .ext 1 (.t 43),
 oz <| .st 2 (.t 4) (.t 44),
 oo 5 <| .mv (.t 45)]
def cRatioExact : C := (.seq (.reg rRatioExactX0 false [] [2, 3, 4]) (.seq (.reg rRatioExactX1 false [] [2, 3, 4, 6]) (.seq (.reg rRatioExactX2 false [] [2, 3, 4, 6, 7, 8]) (.seq (.reg rRatioExactX3 false [] [2, 3, 4, 7, 8, 9, 10]) (.seq (.seq (.reg rRatioExactX4 false [] [2, 3, 4, 7, 9, 31]) (.cond (.t 31) (.seq (.reg rRatioExactX5 false [] [4, 5]) .ret) .skip)) (.seq (.seq (.reg rRatioExactX6 true [(3, 3), (4, 4), (0, 2), (1, 2)] [4, 7, 9, 37]) (.cond (.t 37) (.reg rRatioExactX7 false [] [4, 7, 9]) .skip)) (.seq (.reg rRatioExactX8 false [] [4, 5]) .ret)))))))
def qRatioExact : AFn := ⟨46, 2, [.c 4 (some 2), .t 5], cRatioExact⟩
/- cohesion/wide.Of -/
def rWideOfX0 : List O := [
 oo 2 <| .new [(.int .u64 0), (.int .u64 0), (.bool false)]]
def rWideOfX1 : List O := [
 oo 3 <| .mv (.t 0),
 oo 4 <| .call nWideSize [(.t 3)],
 oo 5 <| .mv (.t 0),
 oo 6 <| .bin .lss (.t 5) (ki 0),
 oo 7 <| .build [(.int .u64 0), (.int .u64 0), (.bool false)] [(1, 1, (.t 4)), (2, 1, (.t 6))],
 oz <| .st 3 (.t 2) (.t 7)]
def cWideOf : C := (.seq (.reg rWideOfX0 false [] [0, 2]) (.seq (.reg rWideOfX1 false [] [2]) .ret))
def qWideOf : AFn := ⟨8, 1, [.c 2 (some 3)], cWideOf⟩
/- cmp.isNaN[int] -/
def rCmpIsNaNIntX0 : List O := [
 oo 2 <| .mv (.k (.bool false))]
def rCmpIsNaNIntX1 : List O := [
 oo 3 <| .mv (.t 0),
 oo 4 <| .mv (.t 0),
 oo 5 <| .bin .neq (.t 3) (.t 4),
 oo 2 <| .mv (.t 5)]
def cCmpIsNaNInt : C := (.seq (.reg rCmpIsNaNIntX0 false [] [0]) (.seq (.reg rCmpIsNaNIntX1 false [] [2]) .ret))
def qCmpIsNaNInt : AFn := ⟨6, 1, [.t 2], cCmpIsNaNInt⟩
/- cohesion/ratio.common -/
def rRatioCommonX0 : List O := [
 oo 4 <| .mv (ki 0)]
def rRatioCommonX1 : List O := [
 oo 5 <| .mv (.t 1),
 oo 6 <| .bin .neq (.t 5) (ki 0)]
def rRatioCommonX2 : List O := [
 oo 7 <| .mv (.t 1),
 oo 8 <| .mv (.t 0),
 oo 9 <| .mv (.t 1),
 oo 10 <| .bin .rem (.t 8) (.t 9),
 oo 0 <| .mv (.t 7),
 oo 1 <| .mv (.t 10)]
def lRatioCommonX0 : C := (.seq (.seq (.reg rRatioCommonX1 false [] [0, 1, 6]) (.cond (.t 6) .skip (.exit 0))) (.blk 1 (.reg rRatioCommonX2 true [(5, 5)] [0, 1])))
def rRatioCommonX3 : List O := [
 oo 11 <| .mv (.t 0),
 oo 4 <| .mv (.t 11)]
def cRatioCommon : C := (.seq (.reg rRatioCommonX0 false [] [0, 1]) (.seq (.blk 0 (.loop lRatioCommonX0)) (.seq (.reg rRatioCommonX3 false [] [4]) .ret)))
def qRatioCommon : AFn := ⟨12, 2, [.t 4], cRatioCommon⟩
/- cohesion/ratio.checked -/
def rRatioCheckedX0 : List O := [
 oo 1 <| .box (.t 0),
 oo 2 <| .new [(.int .i64 0), (.int .i64 0)],
 oo 3 <| .mv (ki 0)]
def rRatioCheckedX1 : List O := [
 oo 4 <| .fad 0 (.t 1),
 oo 5 <| .ld none (.t 4),
 oo 6 <| .call nRatioWithin [(.t 5), (ki 1152921504606846976)],
 oo 7 <| .un .not (.t 6),
 oo 8 <| .mv (.t 7),
 ⟨(some 9), (some (8, false)), .fad 1 (.t 1)⟩,
 ⟨(some 10), (some (8, false)), .ld none (.t 9)⟩,
 ⟨(some 11), (some (8, false)), .bin .gtr (.t 10) (ki 1152921504606846976)⟩,
 oo 12 <| .pick (.t 8) (.k (.bool true)) (.t 11)]
def rRatioCheckedX2 : List O := [
 oo 13 <| .build [(.int .i64 0), (.int .i64 0)] [],
 oz <| .st 2 (.t 2) (.t 13),
 oo 3 <| .mv (ki 3)]
def rRatioCheckedX3 : List O := [
 oo 14 <| .ld (some 2) (.t 1),
 oz <| .st 2 (.t 2) (.t 14),
 oo 3 <| .mv (ki 0)]
def cRatioChecked : C := (.seq (.reg rRatioCheckedX0 false [] [1, 2]) (.seq (.seq (.reg rRatioCheckedX1 false [] [1, 2, 12]) (.cond (.t 12) (.seq (.reg rRatioCheckedX2 false [] [2, 3]) .ret) .skip)) (.seq (.reg rRatioCheckedX3 false [] [2, 3]) .ret)))
def qRatioChecked : AFn := ⟨15, 1, [.c 2 (some 2), .t 3], cRatioChecked⟩
/- cohesion/wide.Common -/
def rWideCommonX0 : List O := [
 oo 2 <| .box (.t 0),
 oo 3 <| .box (.t 1),
 oo 4 <| .new [(.int .u64 0), (.int .u64 0), (.bool false)]]
def rWideCommonX1 : List O := [
 oo 6 <| .fad 2 (.t 2),
 oz <| .st 1 (.t 6) (.k (.bool false)),
 oo 7 <| .fad 2 (.t 3),
 oz <| .st 1 (.t 7) (.k (.bool false))]
def rWideCommonX2 : List O := [
 oo 8 <| .ld (some 3) (.t 2),
 oo 9 <| .call nWideNumberZero [(.t 8)]]
def rWideCommonX3 : List O := [
 oo 10 <| .ld (some 3) (.t 3),
 oz <| .st 3 (.t 4) (.t 10)]
def rWideCommonX4 : List O := [
 oo 11 <| .ld (some 3) (.t 3),
 oo 12 <| .call nWideNumberZero [(.t 11)]]
def rWideCommonX5 : List O := [
 oo 13 <| .ld (some 3) (.t 2),
 oz <| .st 3 (.t 4) (.t 13)]
def rWideCommonX6 : List O := [
 oo 5 <| .mv (ki 0)]
def rWideCommonX7 : List O := [
 oo 14 <| .ld (some 3) (.t 2),
 oo 15 <| .call nWideNumberEven [(.t 14)],
 oo 16 <| .mv (.t 15),
 ⟨(some 17), (some (16, true)), .ld (some 3) (.t 3)⟩,
 ⟨(some 18), (some (16, true)), .call nWideNumberEven [(.t 17)]⟩,
 oo 19 <| .pick (.t 16) (.t 18) (.k (.bool false))]
def rWideCommonX8 : List O := [
 oo 20 <| .ld (some 3) (.t 2),
 oo 21 <| .call nWideNumberHalf [(.t 20)],
 oo 22 <| .ld (some 3) (.t 3),
 oo 23 <| .call nWideNumberHalf [(.t 22)],
 oo 24 <| .mv (.t 5),
 oo 25 <| .bin .add (.t 24) (ki 1),
 oz <| .st 3 (.t 2) (.t 21),
 oz <| .st 3 (.t 3) (.t 23),
 oo 5 <| .mv (.t 25)]
def lWideCommonX0 : C := (.seq (.seq (.reg rWideCommonX7 false [] [2, 3, 4, 5, 19]) (.cond (.t 19) .skip (.exit 0))) (.blk 1 (.reg rWideCommonX8 true [(8, 8), (0, 2), (1, 2), (0, 4), (1, 4), (2, 4), (3, 4), (0, 5), (1, 5), (2, 5), (3, 5), (4, 6), (5, 6), (4, 7), (5, 7)] [2, 3, 4, 5])))
def rWideCommonX9 : List O := [
 oo 26 <| .ld (some 3) (.t 2),
 oo 27 <| .call nWideNumberEven [(.t 26)]]
def rWideCommonX10 : List O := [
 oo 28 <| .ld (some 3) (.t 2),
 oo 29 <| .call nWideNumberHalf [(.t 28)],
 oz <| .st 3 (.t 2) (.t 29)]
def lWideCommonX1 : C := (.seq (.seq (.reg rWideCommonX9 false [] [2, 3, 4, 5, 27]) (.cond (.t 27) .skip (.exit 2))) (.blk 3 (.reg rWideCommonX10 false [] [2, 3, 4, 5])))
def rWideCommonX11 : List O := [
 oo 30 <| .ld (some 3) (.t 3),
 oo 31 <| .call nWideNumberZero [(.t 30)],
 oo 32 <| .un .not (.t 31)]
def rWideCommonX12 : List O := [
 oo 33 <| .ld (some 3) (.t 3),
 oo 34 <| .call nWideNumberEven [(.t 33)]]
def rWideCommonX13 : List O := [
 oo 35 <| .ld (some 3) (.t 3),
 oo 36 <| .call nWideNumberHalf [(.t 35)],
 oz <| .st 3 (.t 3) (.t 36)]
def lWideCommonX2 : C := (.seq (.seq (.reg rWideCommonX12 false [] [2, 3, 4, 5, 34]) (.cond (.t 34) .skip (.exit 6))) (.blk 7 (.reg rWideCommonX13 false [] [2, 3, 4, 5])))
def rWideCommonX14 : List O := [
 oo 37 <| .ld (some 3) (.t 3),
 oo 38 <| .ld (some 3) (.t 2),
 oo 39 <| .call nWideNumberBelow [(.t 37), (.t 38)]]
def rWideCommonX15 : List O := [
 oo 40 <| .ld (some 3) (.t 3),
 oo 41 <| .ld (some 3) (.t 2),
 oz <| .st 3 (.t 2) (.t 40),
 oz <| .st 3 (.t 3) (.t 41)]
def rWideCommonX16 : List O := [
 oo 42 <| .ld (some 3) (.t 3),
 oo 43 <| .ld (some 3) (.t 2),
 oo 44 <| .call nWideNumberLess [(.t 42), (.t 43)],
 oz <| .st 3 (.t 3) (.t 44)]
def lWideCommonX3 : C := (.seq (.seq (.reg rWideCommonX11 false [] [2, 3, 4, 5, 32]) (.cond (.t 32) .skip (.exit 4))) (.blk 5 (.seq (.blk 6 (.loop lWideCommonX2)) (.seq (.seq (.reg rWideCommonX14 false [] [2, 3, 4, 5, 39]) (.cond (.t 39) (.reg rWideCommonX15 false [] [2, 3, 4, 5]) .skip)) (.reg rWideCommonX16 false [] [2, 3, 4, 5])))))
def rWideCommonX17 : List O := [
 oo 45 <| .mv (.t 5),
 oo 46 <| .mv (ki 0)]
def rWideCommonX18 : List O := [
 oo 47 <| .bin .lss (.t 46) (.t 45)]
def rWideCommonX19 : List O := [
 oo 48 <| .ld (some 3) (.t 2),
 oo 49 <| .call nWideNumberTwice [(.t 48)],
 oz <| .st 3 (.t 2) (.t 49)]
def rWideCommonX20 : List O := [
 oo 50 <| .bin .add (.t 46) (ki 1),
 oo 46 <| .mv (.t 50)]
def lWideCommonX4 : C := (.seq (.reg rWideCommonX18 false [] [2, 4, 45, 46, 47]) (.seq (.cond (.t 47) .skip (.exit 8)) (.seq (.blk 9 (.reg rWideCommonX19 false [] [2, 4, 45, 46])) (.reg rWideCommonX20 false [] [2, 4, 45, 46]))))
def rWideCommonX21 : List O := [
 oo 51 <| .ld (some 3) (.t 2),
 oz <| .st 3 (.t 4) (.t 51)]
def cWideCommon : C := (.seq (.reg rWideCommonX0 false [] [2, 3, 4]) (.seq (.reg rWideCommonX1 false [] [2, 3, 4]) (.seq (.seq (.reg rWideCommonX2 false [] [2, 3, 4, 9]) (.cond (.t 9) (.seq (.reg rWideCommonX3 false [] [4]) .ret) .skip)) (.seq (.seq (.reg rWideCommonX4 false [] [2, 3, 4, 12]) (.cond (.t 12) (.seq (.reg rWideCommonX5 false [] [4]) .ret) .skip)) (.seq (.reg rWideCommonX6 false [] [2, 3, 4, 5]) (.seq (.blk 0 (.loop lWideCommonX0)) (.seq (.blk 2 (.loop lWideCommonX1)) (.seq (.blk 4 (.loop lWideCommonX3)) (.seq (.seq (.reg rWideCommonX17 false [] [2, 4, 45, 46]) (.blk 8 (.loop lWideCommonX4))) (.seq (.reg rWideCommonX21 false [] [4]) .ret))))))))))
def qWideCommon : AFn := ⟨52, 2, [.c 4 (some 3)], cWideCommon⟩
/- (cohesion/wide.Number).Over -/
def rWideNumberOverX0 : List O := [
 oo 2 <| .box (.t 0),
 oo 3 <| .box (.t 1),
 oo 4 <| .mv (ki 0),
 oo 5 <| .mv (.k (.bool false))]
def rWideNumberOverX1 : List O := [
 oo 6 <| .new [(.int .u64 0), (.int .u64 0), (.bool false)],
 oo 7 <| .new [(.int .u64 0), (.int .u64 0), (.bool false)]]
def rWideNumberOverX2 : List O := [
 oo 10 <| .ld (some 3) (.t 3),
 oo 11 <| .call nWideNumberZero [(.t 10)]]
def rWideNumberOverX3 : List O := [
 oo 4 <| .mv (ki 0),
 oo 5 <| .mv (.k (.bool false))]
def rWideNumberOverX4 : List O := [
 oo 8 <| .mv (ki 127)]
def rWideNumberOverX5 : List O := [
 oo 12 <| .mv (.t 8),
 oo 13 <| .bin .geq (.t 12) (ki 0)]
def rWideNumberOverX6 : List O := [
 oo 16 <| .ld (some 3) (.t 6),
 oo 17 <| .call nWideNumberTwice [(.t 16)],
 oo 18 <| .ld (some 3) (.t 7),
 oo 19 <| .call nWideNumberTwice [(.t 18)],
 oz <| .st 3 (.t 6) (.t 17),
 oz <| .st 3 (.t 7) (.t 19)]
def rWideNumberOverX7 : List O := [
 oo 20 <| .fad 1 (.t 2),
 oo 21 <| .ld none (.t 20),
 oo 22 <| .mv (.t 8),
 oo 23 <| .bin .shr (.t 21) (.t 22),
 oo 24 <| .bin .and (.t 23) (.k (.int .u64 1)),
 oo 9 <| .mv (.t 24)]
def rWideNumberOverX8 : List O := [
 oo 25 <| .mv (.t 8),
 oo 26 <| .bin .gtr (.t 25) (ki 63)]
def rWideNumberOverX9 : List O := [
 oo 27 <| .fad 0 (.t 2),
 oo 28 <| .ld none (.t 27),
 oo 29 <| .mv (.t 8),
 oo 30 <| .bin .sub (.t 29) (ki 64),
 oo 31 <| .bin .shr (.t 28) (.t 30),
 oo 32 <| .bin .and (.t 31) (.k (.int .u64 1)),
 oo 9 <| .mv (.t 32)]
def rWideNumberOverX10 : List O := [
 oo 33 <| .fad 1 (.t 6),
 oo 34 <| .ld none (.t 33),
 oo 35 <| .mv (.t 9),
 oo 36 <| .bin .or (.t 34) (.t 35),
 oo 37 <| .fad 1 (.t 6),
 oz <| .st 1 (.t 37) (.t 36)]
def rWideNumberOverX11 : List O := [
 oo 38 <| .ld (some 3) (.t 6),
 oo 39 <| .ld (some 3) (.t 3),
 oo 40 <| .call nWideNumberBelow [(.t 38), (.t 39)],
 oo 41 <| .un .not (.t 40)]
def rWideNumberOverX12 : List O := [
 oo 42 <| .ld (some 3) (.t 6),
 oo 43 <| .ld (some 3) (.t 3),
 oo 44 <| .call nWideNumberLess [(.t 42), (.t 43)],
 oz <| .st 3 (.t 6) (.t 44)]
def rWideNumberOverX13 : List O := [
 oo 45 <| .fad 1 (.t 7),
 oo 46 <| .ld none (.t 45),
 oo 47 <| .bin .or (.t 46) (.k (.int .u64 1)),
 oo 48 <| .fad 1 (.t 7),
 oz <| .st 1 (.t 48) (.t 47)]
def rWideNumberOverX14 : List O := [
 oo 14 <| .mv (.t 8),
 oo 15 <| .bin .sub (.t 14) (ki 1),
 oo 8 <| .mv (.t 15)]
def lWideNumberOverX0 : C := (.seq (.seq (.reg rWideNumberOverX5 false [] [2, 3, 6, 7, 8, 13]) (.cond (.t 13) .skip (.exit 0))) (.seq (.blk 1 (.seq (.reg rWideNumberOverX6 true [(3, 3), (4, 4), (5, 5), (0, 2), (1, 2)] [2, 3, 6, 7, 8]) (.seq (.reg rWideNumberOverX7 false [] [2, 3, 6, 7, 8, 9]) (.seq (.seq (.reg rWideNumberOverX8 false [] [2, 3, 6, 7, 8, 9, 26]) (.cond (.t 26) (.reg rWideNumberOverX9 false [] [2, 3, 6, 7, 8, 9]) .skip)) (.seq (.reg rWideNumberOverX10 false [] [2, 3, 6, 7, 8]) (.seq (.reg rWideNumberOverX11 false [] [2, 3, 6, 7, 8, 41]) (.cond (.t 41) (.seq (.reg rWideNumberOverX12 false [] [2, 3, 6, 7, 8]) (.reg rWideNumberOverX13 false [] [2, 3, 6, 7, 8])) .skip))))))) (.reg rWideNumberOverX14 false [] [2, 3, 6, 7, 8])))
def rWideNumberOverX15 : List O := [
 oo 49 <| .fad 1 (.t 7),
 oo 50 <| .ld none (.t 49),
 oo 51 <| .bin .and (.t 50) (.k (.int .u64 4611686018427387903)),
 oo 52 <| .cvt .i64 (.t 51),
 oo 53 <| .fad 0 (.t 7),
 oo 54 <| .ld none (.t 53),
 oo 55 <| .bin .eql (.t 54) (.k (.int .u64 0)),
 oo 56 <| .mv (.t 55),
 ⟨(some 57), (some (56, true)), .fad 1 (.t 7)⟩,
 ⟨(some 58), (some (56, true)), .ld none (.t 57)⟩,
 ⟨(some 59), (some (56, true)), .bin .lss (.t 58) (.k (.int .u64 4611686018427387904))⟩,
 oo 60 <| .pick (.t 56) (.t 59) (.k (.bool false)),
 oo 4 <| .mv (.t 52),
 oo 5 <| .mv (.t 60)]
def cWideNumberOver : C := (.seq (.reg rWideNumberOverX0 false [] [2, 3]) (.seq (.reg rWideNumberOverX1 false [] [2, 3, 6, 7]) (.seq (.seq (.reg rWideNumberOverX2 false [] [2, 3, 6, 7, 11]) (.cond (.t 11) (.seq (.reg rWideNumberOverX3 false [] [4, 5]) .ret) .skip)) (.seq (.seq (.reg rWideNumberOverX4 false [] [2, 3, 6, 7, 8]) (.blk 0 (.loop lWideNumberOverX0))) (.seq (.reg rWideNumberOverX15 true [(13, 13), (1, 4), (0, 5), (1, 5), (2, 5), (3, 5), (1, 6), (1, 7), (1, 8), (0, 9), (1, 9), (2, 9), (3, 9), (1, 10), (1, 11), (9, 12)] [4, 5]) .ret)))))
def qWideNumberOver : AFn := ⟨61, 2, [.t 4, .t 5], cWideNumberOver⟩
/- (cohesion/wide.Number).Negative -/
def rWideNumberNegativeX0 : List O := [
 oo 1 <| .box (.t 0),
 oo 2 <| .mv (.k (.bool false))]
def rWideNumberNegativeX1 : List O := [
 oo 3 <| .fad 2 (.t 1),
 oo 4 <| .ld none (.t 3),
 oo 5 <| .mv (.t 4),
 ⟨(some 6), (some (5, true)), .ld (some 3) (.t 1)⟩,
 ⟨(some 7), (some (5, true)), .call nWideNumberZero [(.t 6)]⟩,
 ⟨(some 8), (some (5, true)), .un .not (.t 7)⟩,
 oo 9 <| .pick (.t 5) (.t 8) (.k (.bool false)),
 oo 2 <| .mv (.t 9)]
def cWideNumberNegative : C := (.seq (.reg rWideNumberNegativeX0 false [] [1]) (.seq (.reg rWideNumberNegativeX1 false [] [2]) .ret))
def qWideNumberNegative : AFn := ⟨10, 1, [.t 2], cWideNumberNegative⟩
/- cohesion/wide.size -/
def rWideSizeX0 : List O := [
 oo 2 <| .mv (.k (.int .u64 0))]
def rWideSizeX1 : List O := [
 oo 3 <| .mv (.t 0),
 oo 4 <| .bin .lss (.t 3) (ki 0)]
def rWideSizeX2 : List O := [
 oo 5 <| .mv (.t 0),
 oo 6 <| .un .neg (.t 5),
 oo 7 <| .cvt .u64 (.t 6),
 oo 2 <| .mv (.t 7)]
def rWideSizeX3 : List O := [
 oo 8 <| .mv (.t 0),
 oo 9 <| .cvt .u64 (.t 8),
 oo 2 <| .mv (.t 9)]
def cWideSize : C := (.seq (.reg rWideSizeX0 false [] [0]) (.seq (.seq (.reg rWideSizeX1 false [] [0, 4]) (.cond (.t 4) (.seq (.reg rWideSizeX2 false [] [2]) .ret) .skip)) (.seq (.reg rWideSizeX3 false [] [2]) .ret)))
def qWideSize : AFn := ⟨10, 1, [.t 2], cWideSize⟩
/- (cohesion/wide.Number).Zero -/
def rWideNumberZeroX0 : List O := [
 oo 1 <| .box (.t 0),
 oo 2 <| .mv (.k (.bool false))]
def rWideNumberZeroX1 : List O := [
 oo 3 <| .fad 0 (.t 1),
 oo 4 <| .ld none (.t 3),
 oo 5 <| .bin .eql (.t 4) (.k (.int .u64 0)),
 oo 6 <| .mv (.t 5),
 ⟨(some 7), (some (6, true)), .fad 1 (.t 1)⟩,
 ⟨(some 8), (some (6, true)), .ld none (.t 7)⟩,
 ⟨(some 9), (some (6, true)), .bin .eql (.t 8) (.k (.int .u64 0))⟩,
 oo 10 <| .pick (.t 6) (.t 9) (.k (.bool false)),
 oo 2 <| .mv (.t 10)]
def cWideNumberZero : C := (.seq (.reg rWideNumberZeroX0 false [] [1]) (.seq (.reg rWideNumberZeroX1 false [] [2]) .ret))
def qWideNumberZero : AFn := ⟨11, 1, [.t 2], cWideNumberZero⟩
/- (cohesion/wide.Number).even -/
def rWideNumberEvenX0 : List O := [
 oo 1 <| .box (.t 0),
 oo 2 <| .mv (.k (.bool false))]
def rWideNumberEvenX1 : List O := [
 oo 3 <| .fad 1 (.t 1),
 oo 4 <| .ld none (.t 3),
 oo 5 <| .bin .and (.t 4) (.k (.int .u64 1)),
 oo 6 <| .bin .eql (.t 5) (.k (.int .u64 0)),
 oo 2 <| .mv (.t 6)]
def cWideNumberEven : C := (.seq (.reg rWideNumberEvenX0 false [] [1]) (.seq (.reg rWideNumberEvenX1 false [] [2]) .ret))
def qWideNumberEven : AFn := ⟨7, 1, [.t 2], cWideNumberEven⟩
/- (cohesion/wide.Number).half -/
def rWideNumberHalfX0 : List O := [
 oo 1 <| .box (.t 0),
 oo 2 <| .new [(.int .u64 0), (.int .u64 0), (.bool false)]]
def rWideNumberHalfX1 : List O := [
 oo 3 <| .fad 0 (.t 1),
 oo 4 <| .ld none (.t 3),
 oo 5 <| .bin .shr (.t 4) (.k (.int .u64 1)),
 oo 6 <| .fad 1 (.t 1),
 oo 7 <| .ld none (.t 6),
 oo 8 <| .bin .shr (.t 7) (.k (.int .u64 1)),
 oo 9 <| .fad 0 (.t 1),
 oo 10 <| .ld none (.t 9),
 oo 11 <| .bin .shl (.t 10) (.k (.int .u64 63)),
 oo 12 <| .bin .or (.t 8) (.t 11),
 oo 13 <| .fad 2 (.t 1),
 oo 14 <| .ld none (.t 13),
 oo 15 <| .build [(.int .u64 0), (.int .u64 0), (.bool false)] [(0, 1, (.t 5)), (1, 1, (.t 12)), (2, 1, (.t 14))],
 oz <| .st 3 (.t 2) (.t 15)]
def cWideNumberHalf : C := (.seq (.reg rWideNumberHalfX0 false [] [1, 2]) (.seq (.reg rWideNumberHalfX1 false [] [2]) .ret))
def qWideNumberHalf : AFn := ⟨16, 1, [.c 2 (some 3)], cWideNumberHalf⟩
/- (cohesion/wide.Number).below -/
def rWideNumberBelowX0 : List O := [
 oo 2 <| .box (.t 0),
 oo 3 <| .box (.t 1),
 oo 4 <| .mv (.k (.bool false))]
def rWideNumberBelowX1 : List O := [
 oo 5 <| .fad 0 (.t 2),
 oo 6 <| .ld none (.t 5),
 oo 7 <| .fad 0 (.t 3),
 oo 8 <| .ld none (.t 7),
 oo 9 <| .bin .lss (.t 6) (.t 8),
 oo 10 <| .mv (.t 9),
 ⟨(some 11), (some (10, false)), .fad 0 (.t 2)⟩,
 ⟨(some 12), (some (10, false)), .ld none (.t 11)⟩,
 ⟨(some 13), (some (10, false)), .fad 0 (.t 3)⟩,
 ⟨(some 14), (some (10, false)), .ld none (.t 13)⟩,
 ⟨(some 15), (some (10, false)), .bin .eql (.t 12) (.t 14)⟩,
 ⟨(some 16), (some (10, false)), .mv (.t 15)⟩,
 ⟨(some 17), (some (16, true)), .fad 1 (.t 2)⟩,
 ⟨(some 18), (some (16, true)), .ld none (.t 17)⟩,
 ⟨(some 19), (some (16, true)), .fad 1 (.t 3)⟩,
 ⟨(some 20), (some (16, true)), .ld none (.t 19)⟩,
 ⟨(some 21), (some (16, true)), .bin .lss (.t 18) (.t 20)⟩,
 ⟨(some 22), (some (10, false)), .pick (.t 16) (.t 21) (.k (.bool false))⟩,
 oo 23 <| .pick (.t 10) (.k (.bool true)) (.t 22),
 oo 4 <| .mv (.t 23)]
def cWideNumberBelow : C := (.seq (.reg rWideNumberBelowX0 false [] [2, 3]) (.seq (.reg rWideNumberBelowX1 false [] [4]) .ret))
def qWideNumberBelow : AFn := ⟨24, 2, [.t 4], cWideNumberBelow⟩
/- (cohesion/wide.Number).less -/
def rWideNumberLessX0 : List O := [
 oo 2 <| .box (.t 0),
 oo 3 <| .box (.t 1),
 oo 4 <| .new [(.int .u64 0), (.int .u64 0), (.bool false)]]
def rWideNumberLessX1 : List O := [
 oo 10 <| .fad 1 (.t 2),
 oo 11 <| .ld none (.t 10),
 oo 12 <| .fad 1 (.t 3),
 oo 13 <| .ld none (.t 12),
 oo 14 <| .call nMathBitsSub64 [(.t 11), (.t 13), (.k (.int .u64 0))],
 oo 9 <| .mv (.t 14),
 oo 15 <| .ext 0 (.t 9),
 oo 16 <| .ext 1 (.t 9),
 oo 5 <| .mv (.t 15),
 oo 6 <| .mv (.t 16)]
def rWideNumberLessX2 : List O := [
 oo 18 <| .fad 0 (.t 2),
 oo 19 <| .ld none (.t 18),
 oo 20 <| .fad 0 (.t 3),
 oo 21 <| .ld none (.t 20),
 oo 22 <| .mv (.t 6),
 oo 23 <| .call nMathBitsSub64 [(.t 19), (.t 21), (.t 22)],
 oo 17 <| .mv (.t 23),
 oo 24 <| .ext 0 (.t 17),
 oo 25 <| .ext 1 (.t 17),
 oo 7 <| .mv (.t 24),
 oo 8 <| .mv (.t 25)]
def rWideNumberLessX3 : List O := [
 oo 26 <| .mv (.t 7),
 oo 27 <| .mv (.t 5),
 oo 28 <| .fad 2 (.t 2),
 oo 29 <| .ld none (.t 28),
 oo 30 <| .build [(.int .u64 0), (.int .u64 0), (.bool false)] [(0, 1, (.t 26)), (1, 1, (.t 27)), (2, 1, (.t 29))],
 oz <| .st 3 (.t 4) (.t 30)]
def cWideNumberLess : C := (.seq (.reg rWideNumberLessX0 false [] [2, 3, 4]) (.seq (.reg rWideNumberLessX1 false [] [2, 3, 4, 5, 6]) (.seq (.reg rWideNumberLessX2 false [] [2, 4, 5, 7]) (.seq (.reg rWideNumberLessX3 false [] [4]) .ret))))
def qWideNumberLess : AFn := ⟨31, 2, [.c 4 (some 3)], cWideNumberLess⟩
/- (cohesion/wide.Number).twice -/
def rWideNumberTwiceX0 : List O := [
 oo 1 <| .box (.t 0),
 oo 2 <| .new [(.int .u64 0), (.int .u64 0), (.bool false)]]
def rWideNumberTwiceX1 : List O := [
 oo 3 <| .fad 0 (.t 1),
 oo 4 <| .ld none (.t 3),
 oo 5 <| .bin .shl (.t 4) (.k (.int .u64 1)),
 oo 6 <| .fad 1 (.t 1),
 oo 7 <| .ld none (.t 6),
 oo 8 <| .bin .shr (.t 7) (.k (.int .u64 63)),
 oo 9 <| .bin .or (.t 5) (.t 8),
 oo 10 <| .fad 1 (.t 1),
 oo 11 <| .ld none (.t 10),
 oo 12 <| .bin .shl (.t 11) (.k (.int .u64 1)),
 oo 13 <| .fad 2 (.t 1),
 oo 14 <| .ld none (.t 13),
 oo 15 <| .build [(.int .u64 0), (.int .u64 0), (.bool false)] [(0, 1, (.t 9)), (1, 1, (.t 12)), (2, 1, (.t 14))],
 oz <| .st 3 (.t 2) (.t 15)]
def cWideNumberTwice : C := (.seq (.reg rWideNumberTwiceX0 false [] [1, 2]) (.seq (.reg rWideNumberTwiceX1 false [] [2]) .ret))
def qWideNumberTwice : AFn := ⟨16, 1, [.c 2 (some 3)], cWideNumberTwice⟩
abbrev Md := Go.Bm.Md
abbrev Cfg := Go.Bm.Cfg
def look : List (Nat × Md × AFn) -> Nat -> Option (Md × AFn)
 | [], _ => none
 | (j, m, q) :: r, i => if i = j then some (m, q) else look r i
def fns : List (Nat × Md × AFn) := [
 (nLaw29TrianglesKept, ⟨false, false, true⟩, qLaw29TrianglesKept),
 (nMakeFew, ⟨false, false, true⟩, qMakeFew),
 (nLaw29Awake, ⟨false, false, true⟩, qLaw29Awake),
 (nMakeNew, ⟨true, false, false⟩, qMakeNew),
 (nMakeGraph, ⟨true, false, false⟩, qMakeGraph),
 (nTrianglesCount, ⟨false, false, true⟩, qTrianglesCount),
 (nTrianglesOpen, ⟨false, false, false⟩, qTrianglesOpen),
 (nTrianglesInsert, ⟨false, false, false⟩, qTrianglesInsert),
 (nMakeDeckNext, ⟨true, false, false⟩, qMakeDeckNext),
 (nTrianglesDelete, ⟨false, false, false⟩, qTrianglesDelete),
 (nRef03Common, ⟨false, false, false⟩, qRef03Common),
 (nTrianglesValid, ⟨false, false, true⟩, qTrianglesValid),
 (nLaw29Ints, ⟨false, false, true⟩, qLaw29Ints),
 (nRef03Of, ⟨false, false, false⟩, qRef03Of),
 (nTrianglesWhole, ⟨false, false, false⟩, qTrianglesWhole),
 (nGraphCheck, ⟨false, false, true⟩, qGraphCheck),
 (nTrianglesCounts, ⟨false, false, false⟩, qTrianglesCounts),
 (nTrianglesCopied, ⟨false, false, false⟩, qTrianglesCopied),
 (nGraphAdd, ⟨false, false, false⟩, qGraphAdd),
 (nTrianglesChanged, ⟨false, false, false⟩, qTrianglesChanged),
 (nMakeMod, ⟨false, false, true⟩, qMakeMod),
 (nGraphRemove, ⟨false, false, false⟩, qGraphRemove),
 (nRef02Meet, ⟨false, false, false⟩, qRef02Meet),
 (nRef03Neighbours, ⟨false, false, false⟩, qRef03Neighbours),
 (nSlicesEqualIntInt, ⟨false, false, true⟩, qSlicesEqualIntInt),
 (nRef03Ends, ⟨false, false, true⟩, qRef03Ends),
 (nRef03With, ⟨false, false, false⟩, qRef03With),
 (nRef03Edge, ⟨false, false, false⟩, qRef03Edge),
 (nTrianglesLists, ⟨false, false, false⟩, qTrianglesLists),
 (nTrianglesPairs, ⟨false, false, true⟩, qTrianglesPairs),
 (nTrianglesShare, ⟨false, false, false⟩, qTrianglesShare),
 (nGraphOrder, ⟨false, false, true⟩, qGraphOrder),
 (nTrianglesSharedInt, ⟨false, false, false⟩, qTrianglesSharedInt),
 (nSlicesCloneApiEdgeApiEdge, ⟨false, true, true⟩, qSlicesCloneApiEdgeApiEdge),
 (nGraphChange, ⟨false, false, true⟩, qGraphChange),
 (nGraphPlace, ⟨false, false, true⟩, qGraphPlace),
 (nSlicesInsertApiEdgeApiEdge, ⟨false, true, true⟩, qSlicesInsertApiEdgeApiEdge),
 (nGraphEdge, ⟨false, false, false⟩, qGraphEdge),
 (nSlicesCloneIntInt, ⟨false, true, true⟩, qSlicesCloneIntInt),
 (nSlicesDeleteApiEdgeApiEdge, ⟨false, true, true⟩, qSlicesDeleteApiEdgeApiEdge),
 (nRef02Of, ⟨false, false, false⟩, qRef02Of),
 (nRef02Has, ⟨false, false, true⟩, qRef02Has),
 (nRef03Check, ⟨false, false, true⟩, qRef03Check),
 (nRef03Before, ⟨false, false, true⟩, qRef03Before),
 (nSlicesSortIntInt, ⟨false, false, true⟩, qSlicesSortIntInt),
 (nRatioMake, ⟨false, false, false⟩, qRatioMake),
 (nCmpOrInt, ⟨false, false, true⟩, qCmpOrInt),
 (nCmpCompareInt, ⟨false, false, true⟩, qCmpCompareInt),
 (nGraphEnds, ⟨false, false, true⟩, qGraphEnds),
 (nSlicesBinarySearchFuncApiEdgeApiEdgeApiEdge, ⟨false, false, true⟩, qSlicesBinarySearchFuncApiEdgeApiEdgeApiEdge),
 (nRef02Put, ⟨false, false, false⟩, qRef02Put),
 (nRatioWithin, ⟨false, false, true⟩, qRatioWithin),
 (nRatioLowest, ⟨false, false, false⟩, qRatioLowest),
 (nRatioExact, ⟨false, false, false⟩, qRatioExact),
 (nWideOf, ⟨false, false, false⟩, qWideOf),
 (nCmpIsNaNInt, ⟨false, false, true⟩, qCmpIsNaNInt),
 (nRatioCommon, ⟨false, false, true⟩, qRatioCommon),
 (nRatioChecked, ⟨false, false, false⟩, qRatioChecked),
 (nWideCommon, ⟨false, false, false⟩, qWideCommon),
 (nWideNumberOver, ⟨false, false, true⟩, qWideNumberOver),
 (nWideNumberNegative, ⟨false, false, true⟩, qWideNumberNegative),
 (nWideSize, ⟨false, false, true⟩, qWideSize),
 (nWideNumberZero, ⟨false, false, true⟩, qWideNumberZero),
 (nWideNumberEven, ⟨false, false, true⟩, qWideNumberEven),
 (nWideNumberHalf, ⟨false, false, false⟩, qWideNumberHalf),
 (nWideNumberBelow, ⟨false, false, true⟩, qWideNumberBelow),
 (nWideNumberLess, ⟨false, false, false⟩, qWideNumberLess),
 (nWideNumberTwice, ⟨false, false, false⟩, qWideNumberTwice)]
def cfg : Cfg := ⟨look fns, fun _ => [], fun _ => none, fun _ => none, fun _ => none, fun _ => false⟩
theorem kLaw29TrianglesKept : chkFB Go.Proofs.Try.prog Go.Proofs.Try.f4 qLaw29TrianglesKept = true := by kernel_rfl
theorem kMakeFew : chkFB Go.Proofs.Try.prog Go.Proofs.Try.f5 qMakeFew = true := by kernel_rfl
theorem kLaw29Awake : chkFB Go.Proofs.Try.prog Go.Proofs.Try.f6 qLaw29Awake = true := by kernel_rfl
theorem kMakeNew : chkFB Go.Proofs.Try.prog Go.Proofs.Try.f7 qMakeNew = true := by kernel_rfl
theorem kMakeGraph : chkFB Go.Proofs.Try.prog Go.Proofs.Try.f8 qMakeGraph = true := by kernel_rfl
theorem kTrianglesCount : chkFB Go.Proofs.Try.prog Go.Proofs.Try.f9 qTrianglesCount = true := by kernel_rfl
theorem kTrianglesOpen : chkFB Go.Proofs.Try.prog Go.Proofs.Try.f10 qTrianglesOpen = true := by kernel_rfl
theorem kTrianglesInsert : chkFB Go.Proofs.Try.prog Go.Proofs.Try.f11 qTrianglesInsert = true := by kernel_rfl
theorem kMakeDeckNext : chkFB Go.Proofs.Try.prog Go.Proofs.Try.f12 qMakeDeckNext = true := by kernel_rfl
theorem kTrianglesDelete : chkFB Go.Proofs.Try.prog Go.Proofs.Try.f13 qTrianglesDelete = true := by kernel_rfl
theorem kRef03Common : chkFB Go.Proofs.Try.prog Go.Proofs.Try.f14 qRef03Common = true := by kernel_rfl
theorem kTrianglesValid : chkFB Go.Proofs.Try.prog Go.Proofs.Try.f15 qTrianglesValid = true := by kernel_rfl
theorem kLaw29Ints : chkFB Go.Proofs.Try.prog Go.Proofs.Try.f16 qLaw29Ints = true := by kernel_rfl
theorem kRef03Of : chkFB Go.Proofs.Try.prog Go.Proofs.Try.f17 qRef03Of = true := by kernel_rfl
theorem kTrianglesWhole : chkFB Go.Proofs.Try.prog Go.Proofs.Try.f18 qTrianglesWhole = true := by kernel_rfl
theorem kGraphCheck : chkFB Go.Proofs.Try.prog Go.Proofs.Try.f19 qGraphCheck = true := by kernel_rfl
theorem kTrianglesCounts : chkFB Go.Proofs.Try.prog Go.Proofs.Try.f20 qTrianglesCounts = true := by kernel_rfl
theorem kTrianglesCopied : chkFB Go.Proofs.Try.prog Go.Proofs.Try.f21 qTrianglesCopied = true := by kernel_rfl
theorem kGraphAdd : chkFB Go.Proofs.Try.prog Go.Proofs.Try.f22 qGraphAdd = true := by kernel_rfl
theorem kTrianglesChanged : chkFB Go.Proofs.Try.prog Go.Proofs.Try.f23 qTrianglesChanged = true := by kernel_rfl
theorem kMakeMod : chkFB Go.Proofs.Try.prog Go.Proofs.Try.f24 qMakeMod = true := by kernel_rfl
theorem kGraphRemove : chkFB Go.Proofs.Try.prog Go.Proofs.Try.f25 qGraphRemove = true := by kernel_rfl
theorem kRef02Meet : chkFB Go.Proofs.Try.prog Go.Proofs.Try.f26 qRef02Meet = true := by kernel_rfl
theorem kRef03Neighbours : chkFB Go.Proofs.Try.prog Go.Proofs.Try.f27 qRef03Neighbours = true := by kernel_rfl
theorem kSlicesEqualIntInt : chkFB Go.Proofs.Try.prog Go.Proofs.Try.f28 qSlicesEqualIntInt = true := by kernel_rfl
theorem kRef03Ends : chkFB Go.Proofs.Try.prog Go.Proofs.Try.f29 qRef03Ends = true := by kernel_rfl
theorem kRef03With : chkFB Go.Proofs.Try.prog Go.Proofs.Try.f30 qRef03With = true := by kernel_rfl
theorem kRef03Edge : chkFB Go.Proofs.Try.prog Go.Proofs.Try.f31 qRef03Edge = true := by kernel_rfl
theorem kTrianglesLists : chkFB Go.Proofs.Try.prog Go.Proofs.Try.f32 qTrianglesLists = true := by kernel_rfl
theorem kTrianglesPairs : chkFB Go.Proofs.Try.prog Go.Proofs.Try.f33 qTrianglesPairs = true := by kernel_rfl
theorem kTrianglesShare : chkFB Go.Proofs.Try.prog Go.Proofs.Try.f34 qTrianglesShare = true := by kernel_rfl
theorem kGraphOrder : chkFB Go.Proofs.Try.prog Go.Proofs.Try.f35 qGraphOrder = true := by kernel_rfl
theorem kTrianglesSharedInt : chkFB Go.Proofs.Try.prog Go.Proofs.Try.f36 qTrianglesSharedInt = true := by kernel_rfl
theorem kSlicesCloneApiEdgeApiEdge : chkFB Go.Proofs.Try.prog Go.Proofs.Try.f37 qSlicesCloneApiEdgeApiEdge = true := by kernel_rfl
theorem kGraphChange : chkFB Go.Proofs.Try.prog Go.Proofs.Try.f38 qGraphChange = true := by kernel_rfl
theorem kGraphPlace : chkFB Go.Proofs.Try.prog Go.Proofs.Try.f39 qGraphPlace = true := by kernel_rfl
theorem kSlicesInsertApiEdgeApiEdge : chkFB Go.Proofs.Try.prog Go.Proofs.Try.f40 qSlicesInsertApiEdgeApiEdge = true := by kernel_rfl
theorem kGraphEdge : chkFB Go.Proofs.Try.prog Go.Proofs.Try.f41 qGraphEdge = true := by kernel_rfl
theorem kSlicesCloneIntInt : chkFB Go.Proofs.Try.prog Go.Proofs.Try.f42 qSlicesCloneIntInt = true := by kernel_rfl
theorem kSlicesDeleteApiEdgeApiEdge : chkFB Go.Proofs.Try.prog Go.Proofs.Try.f43 qSlicesDeleteApiEdgeApiEdge = true := by kernel_rfl
theorem kRef02Of : chkFB Go.Proofs.Try.prog Go.Proofs.Try.f44 qRef02Of = true := by kernel_rfl
theorem kRef02Has : chkFB Go.Proofs.Try.prog Go.Proofs.Try.f45 qRef02Has = true := by kernel_rfl
theorem kRef03Check : chkFB Go.Proofs.Try.prog Go.Proofs.Try.f46 qRef03Check = true := by kernel_rfl
theorem kRef03Before : chkFB Go.Proofs.Try.prog Go.Proofs.Try.f47 qRef03Before = true := by kernel_rfl
theorem kSlicesSortIntInt : chkFB Go.Proofs.Try.prog Go.Proofs.Try.f48 qSlicesSortIntInt = true := by kernel_rfl
theorem kRatioMake : chkFB Go.Proofs.Try.prog Go.Proofs.Try.f49 qRatioMake = true := by kernel_rfl
theorem kCmpOrInt : chkFB Go.Proofs.Try.prog Go.Proofs.Try.f50 qCmpOrInt = true := by kernel_rfl
theorem kCmpCompareInt : chkFB Go.Proofs.Try.prog Go.Proofs.Try.f51 qCmpCompareInt = true := by kernel_rfl
theorem kGraphEnds : chkFB Go.Proofs.Try.prog Go.Proofs.Try.f52 qGraphEnds = true := by kernel_rfl
theorem kSlicesBinarySearchFuncApiEdgeApiEdgeApiEdge : chkFB Go.Proofs.Try.prog Go.Proofs.Try.f53 qSlicesBinarySearchFuncApiEdgeApiEdgeApiEdge = true := by kernel_rfl
theorem kRef02Put : chkFB Go.Proofs.Try.prog Go.Proofs.Try.f56 qRef02Put = true := by kernel_rfl
theorem kRatioWithin : chkFB Go.Proofs.Try.prog Go.Proofs.Try.f59 qRatioWithin = true := by kernel_rfl
theorem kRatioLowest : chkFB Go.Proofs.Try.prog Go.Proofs.Try.f60 qRatioLowest = true := by kernel_rfl
theorem kRatioExact : chkFB Go.Proofs.Try.prog Go.Proofs.Try.f61 qRatioExact = true := by kernel_rfl
theorem kWideOf : chkFB Go.Proofs.Try.prog Go.Proofs.Try.f62 qWideOf = true := by kernel_rfl
theorem kCmpIsNaNInt : chkFB Go.Proofs.Try.prog Go.Proofs.Try.f63 qCmpIsNaNInt = true := by kernel_rfl
theorem kRatioCommon : chkFB Go.Proofs.Try.prog Go.Proofs.Try.f76 qRatioCommon = true := by kernel_rfl
theorem kRatioChecked : chkFB Go.Proofs.Try.prog Go.Proofs.Try.f77 qRatioChecked = true := by kernel_rfl
theorem kWideCommon : chkFB Go.Proofs.Try.prog Go.Proofs.Try.f78 qWideCommon = true := by kernel_rfl
theorem kWideNumberOver : chkFB Go.Proofs.Try.prog Go.Proofs.Try.f79 qWideNumberOver = true := by kernel_rfl
theorem kWideNumberNegative : chkFB Go.Proofs.Try.prog Go.Proofs.Try.f80 qWideNumberNegative = true := by kernel_rfl
theorem kWideSize : chkFB Go.Proofs.Try.prog Go.Proofs.Try.f81 qWideSize = true := by kernel_rfl
theorem kWideNumberZero : chkFB Go.Proofs.Try.prog Go.Proofs.Try.f88 qWideNumberZero = true := by kernel_rfl
theorem kWideNumberEven : chkFB Go.Proofs.Try.prog Go.Proofs.Try.f89 qWideNumberEven = true := by kernel_rfl
theorem kWideNumberHalf : chkFB Go.Proofs.Try.prog Go.Proofs.Try.f90 qWideNumberHalf = true := by kernel_rfl
theorem kWideNumberBelow : chkFB Go.Proofs.Try.prog Go.Proofs.Try.f91 qWideNumberBelow = true := by kernel_rfl
theorem kWideNumberLess : chkFB Go.Proofs.Try.prog Go.Proofs.Try.f92 qWideNumberLess = true := by kernel_rfl
theorem kWideNumberTwice : chkFB Go.Proofs.Try.prog Go.Proofs.Try.f93 qWideNumberTwice = true := by kernel_rfl
theorem look_mem : ∀ {l : List (Nat × Md × AFn)} {f : Nat} {m : Md} {q : AFn}, look l f = some (m, q) -> (f, m, q) ∈ l
 | [], f, m, q, h => by simp [look] at h
 | (j, m', q') :: r, f, m, q, h => by
   unfold look at h
   split at h
   ·rename_i he; subst he; simp at h; obtain ⟨rfl, rfl⟩ := h; simp
   ·exact List.mem_cons_of_mem _ (look_mem h)
def Good (p : Nat × Md × AFn) : Prop := ∃ fn, Go.Proofs.Try.prog.funcs[p.1]? = some fn /\ chkFB Go.Proofs.Try.prog fn p.2.2 = true
def All (G : Nat × Md × AFn -> Prop) : List (Nat × Md × AFn) -> Prop
 | [] => True
 | p :: r => G p /\ All G r
theorem All.get {G : Nat × Md × AFn -> Prop} : ∀ {l : List (Nat × Md × AFn)}, All G l -> ∀ p ∈ l, G p
 | [], _, p, h => by simp at h
 | q :: r, h, p, hp => by
   rcases List.mem_cons.1 hp with e | e
   ·subst e; exact h.1
   ·exact All.get h.2 p e
theorem allGood : All Good fns := ⟨⟨_, Go.Proofs.Try.func4, kLaw29TrianglesKept⟩, ⟨_, Go.Proofs.Try.func5, kMakeFew⟩, ⟨_, Go.Proofs.Try.func6, kLaw29Awake⟩, ⟨_, Go.Proofs.Try.func7, kMakeNew⟩, ⟨_, Go.Proofs.Try.func8, kMakeGraph⟩, ⟨_, Go.Proofs.Try.func9, kTrianglesCount⟩, ⟨_, Go.Proofs.Try.func10, kTrianglesOpen⟩, ⟨_, Go.Proofs.Try.func11, kTrianglesInsert⟩, ⟨_, Go.Proofs.Try.func12, kMakeDeckNext⟩, ⟨_, Go.Proofs.Try.func13, kTrianglesDelete⟩, ⟨_, Go.Proofs.Try.func14, kRef03Common⟩, ⟨_, Go.Proofs.Try.func15, kTrianglesValid⟩, ⟨_, Go.Proofs.Try.func16, kLaw29Ints⟩, ⟨_, Go.Proofs.Try.func17, kRef03Of⟩, ⟨_, Go.Proofs.Try.func18, kTrianglesWhole⟩, ⟨_, Go.Proofs.Try.func19, kGraphCheck⟩, ⟨_, Go.Proofs.Try.func20, kTrianglesCounts⟩, ⟨_, Go.Proofs.Try.func21, kTrianglesCopied⟩, ⟨_, Go.Proofs.Try.func22, kGraphAdd⟩, ⟨_, Go.Proofs.Try.func23, kTrianglesChanged⟩, ⟨_, Go.Proofs.Try.func24, kMakeMod⟩, ⟨_, Go.Proofs.Try.func25, kGraphRemove⟩, ⟨_, Go.Proofs.Try.func26, kRef02Meet⟩, ⟨_, Go.Proofs.Try.func27, kRef03Neighbours⟩, ⟨_, Go.Proofs.Try.func28, kSlicesEqualIntInt⟩, ⟨_, Go.Proofs.Try.func29, kRef03Ends⟩, ⟨_, Go.Proofs.Try.func30, kRef03With⟩, ⟨_, Go.Proofs.Try.func31, kRef03Edge⟩, ⟨_, Go.Proofs.Try.func32, kTrianglesLists⟩, ⟨_, Go.Proofs.Try.func33, kTrianglesPairs⟩, ⟨_, Go.Proofs.Try.func34, kTrianglesShare⟩, ⟨_, Go.Proofs.Try.func35, kGraphOrder⟩, ⟨_, Go.Proofs.Try.func36, kTrianglesSharedInt⟩, ⟨_, Go.Proofs.Try.func37, kSlicesCloneApiEdgeApiEdge⟩, ⟨_, Go.Proofs.Try.func38, kGraphChange⟩, ⟨_, Go.Proofs.Try.func39, kGraphPlace⟩, ⟨_, Go.Proofs.Try.func40, kSlicesInsertApiEdgeApiEdge⟩, ⟨_, Go.Proofs.Try.func41, kGraphEdge⟩, ⟨_, Go.Proofs.Try.func42, kSlicesCloneIntInt⟩, ⟨_, Go.Proofs.Try.func43, kSlicesDeleteApiEdgeApiEdge⟩, ⟨_, Go.Proofs.Try.func44, kRef02Of⟩, ⟨_, Go.Proofs.Try.func45, kRef02Has⟩, ⟨_, Go.Proofs.Try.func46, kRef03Check⟩, ⟨_, Go.Proofs.Try.func47, kRef03Before⟩, ⟨_, Go.Proofs.Try.func48, kSlicesSortIntInt⟩, ⟨_, Go.Proofs.Try.func49, kRatioMake⟩, ⟨_, Go.Proofs.Try.func50, kCmpOrInt⟩, ⟨_, Go.Proofs.Try.func51, kCmpCompareInt⟩, ⟨_, Go.Proofs.Try.func52, kGraphEnds⟩, ⟨_, Go.Proofs.Try.func53, kSlicesBinarySearchFuncApiEdgeApiEdgeApiEdge⟩, ⟨_, Go.Proofs.Try.func56, kRef02Put⟩, ⟨_, Go.Proofs.Try.func59, kRatioWithin⟩, ⟨_, Go.Proofs.Try.func60, kRatioLowest⟩, ⟨_, Go.Proofs.Try.func61, kRatioExact⟩, ⟨_, Go.Proofs.Try.func62, kWideOf⟩, ⟨_, Go.Proofs.Try.func63, kCmpIsNaNInt⟩, ⟨_, Go.Proofs.Try.func76, kRatioCommon⟩, ⟨_, Go.Proofs.Try.func77, kRatioChecked⟩, ⟨_, Go.Proofs.Try.func78, kWideCommon⟩, ⟨_, Go.Proofs.Try.func79, kWideNumberOver⟩, ⟨_, Go.Proofs.Try.func80, kWideNumberNegative⟩, ⟨_, Go.Proofs.Try.func81, kWideSize⟩, ⟨_, Go.Proofs.Try.func88, kWideNumberZero⟩, ⟨_, Go.Proofs.Try.func89, kWideNumberEven⟩, ⟨_, Go.Proofs.Try.func90, kWideNumberHalf⟩, ⟨_, Go.Proofs.Try.func91, kWideNumberBelow⟩, ⟨_, Go.Proofs.Try.func92, kWideNumberLess⟩, ⟨_, Go.Proofs.Try.func93, kWideNumberTwice⟩, trivial⟩
theorem cfgOK : CfgOKB Go.Proofs.Try.prog cfg := ⟨by kernel_rfl, fun f m q h => allGood.get _ (look_mem h)⟩
theorem gLaw29TrianglesKept : cfg.fn nLaw29TrianglesKept = some (⟨false, false, true⟩, qLaw29TrianglesKept) := rfl
theorem gMakeFew : cfg.fn nMakeFew = some (⟨false, false, true⟩, qMakeFew) := rfl
theorem gLaw29Awake : cfg.fn nLaw29Awake = some (⟨false, false, true⟩, qLaw29Awake) := rfl
theorem gMakeNew : cfg.fn nMakeNew = some (⟨true, false, false⟩, qMakeNew) := rfl
theorem gMakeGraph : cfg.fn nMakeGraph = some (⟨true, false, false⟩, qMakeGraph) := rfl
theorem gTrianglesOpen : cfg.fn nTrianglesOpen = some (⟨false, false, false⟩, qTrianglesOpen) := rfl
theorem gTrianglesInsert : cfg.fn nTrianglesInsert = some (⟨false, false, false⟩, qTrianglesInsert) := rfl
theorem gMakeDeckNext : cfg.fn nMakeDeckNext = some (⟨true, false, false⟩, qMakeDeckNext) := rfl
theorem gTrianglesDelete : cfg.fn nTrianglesDelete = some (⟨false, false, false⟩, qTrianglesDelete) := rfl
theorem gRef03Common : cfg.fn nRef03Common = some (⟨false, false, false⟩, qRef03Common) := rfl
theorem gTrianglesValid : cfg.fn nTrianglesValid = some (⟨false, false, true⟩, qTrianglesValid) := rfl
theorem gLaw29Ints : cfg.fn nLaw29Ints = some (⟨false, false, true⟩, qLaw29Ints) := rfl
theorem gGraphCheck : cfg.fn nGraphCheck = some (⟨false, false, true⟩, qGraphCheck) := rfl
theorem gTrianglesCounts : cfg.fn nTrianglesCounts = some (⟨false, false, false⟩, qTrianglesCounts) := rfl
theorem gTrianglesCopied : cfg.fn nTrianglesCopied = some (⟨false, false, false⟩, qTrianglesCopied) := rfl
theorem gGraphAdd : cfg.fn nGraphAdd = some (⟨false, false, false⟩, qGraphAdd) := rfl
theorem gTrianglesChanged : cfg.fn nTrianglesChanged = some (⟨false, false, false⟩, qTrianglesChanged) := rfl
theorem gMakeMod : cfg.fn nMakeMod = some (⟨false, false, true⟩, qMakeMod) := rfl
theorem gGraphRemove : cfg.fn nGraphRemove = some (⟨false, false, false⟩, qGraphRemove) := rfl
theorem gRef02Meet : cfg.fn nRef02Meet = some (⟨false, false, false⟩, qRef02Meet) := rfl
theorem gRef03Neighbours : cfg.fn nRef03Neighbours = some (⟨false, false, false⟩, qRef03Neighbours) := rfl
theorem gSlicesEqualIntInt : cfg.fn nSlicesEqualIntInt = some (⟨false, false, true⟩, qSlicesEqualIntInt) := rfl
theorem gTrianglesLists : cfg.fn nTrianglesLists = some (⟨false, false, false⟩, qTrianglesLists) := rfl
theorem gGraphOrder : cfg.fn nGraphOrder = some (⟨false, false, true⟩, qGraphOrder) := rfl
theorem gTrianglesSharedInt : cfg.fn nTrianglesSharedInt = some (⟨false, false, false⟩, qTrianglesSharedInt) := rfl
theorem gSlicesCloneApiEdgeApiEdge : cfg.fn nSlicesCloneApiEdgeApiEdge = some (⟨false, true, true⟩, qSlicesCloneApiEdgeApiEdge) := rfl
theorem gGraphChange : cfg.fn nGraphChange = some (⟨false, false, true⟩, qGraphChange) := rfl
theorem gGraphPlace : cfg.fn nGraphPlace = some (⟨false, false, true⟩, qGraphPlace) := rfl
theorem gSlicesInsertApiEdgeApiEdge : cfg.fn nSlicesInsertApiEdgeApiEdge = some (⟨false, true, true⟩, qSlicesInsertApiEdgeApiEdge) := rfl
theorem gGraphEdge : cfg.fn nGraphEdge = some (⟨false, false, false⟩, qGraphEdge) := rfl
theorem gSlicesCloneIntInt : cfg.fn nSlicesCloneIntInt = some (⟨false, true, true⟩, qSlicesCloneIntInt) := rfl
theorem gSlicesDeleteApiEdgeApiEdge : cfg.fn nSlicesDeleteApiEdgeApiEdge = some (⟨false, true, true⟩, qSlicesDeleteApiEdgeApiEdge) := rfl
theorem gRef02Of : cfg.fn nRef02Of = some (⟨false, false, false⟩, qRef02Of) := rfl
theorem gRef02Has : cfg.fn nRef02Has = some (⟨false, false, true⟩, qRef02Has) := rfl
theorem gRef03Check : cfg.fn nRef03Check = some (⟨false, false, true⟩, qRef03Check) := rfl
theorem gRef03Before : cfg.fn nRef03Before = some (⟨false, false, true⟩, qRef03Before) := rfl
theorem gSlicesSortIntInt : cfg.fn nSlicesSortIntInt = some (⟨false, false, true⟩, qSlicesSortIntInt) := rfl
theorem gCmpOrInt : cfg.fn nCmpOrInt = some (⟨false, false, true⟩, qCmpOrInt) := rfl
theorem gCmpCompareInt : cfg.fn nCmpCompareInt = some (⟨false, false, true⟩, qCmpCompareInt) := rfl
theorem gGraphEnds : cfg.fn nGraphEnds = some (⟨false, false, true⟩, qGraphEnds) := rfl
theorem gSlicesBinarySearchFuncApiEdgeApiEdgeApiEdge : cfg.fn nSlicesBinarySearchFuncApiEdgeApiEdgeApiEdge = some (⟨false, false, true⟩, qSlicesBinarySearchFuncApiEdgeApiEdgeApiEdge) := rfl
theorem gRef02Put : cfg.fn nRef02Put = some (⟨false, false, false⟩, qRef02Put) := rfl
theorem gCmpIsNaNInt : cfg.fn nCmpIsNaNInt = some (⟨false, false, true⟩, qCmpIsNaNInt) := rfl
end Go.BmP
