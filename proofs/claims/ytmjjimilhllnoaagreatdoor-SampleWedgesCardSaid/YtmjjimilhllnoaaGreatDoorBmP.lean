/- The compact code of the functions, printed by program off the translation. -/
import Derived.Test.YtmjjimilhllnoaaGreatDoorChecked
import Derived.Test.YtmjjimilhllnoaaGreatDoorBmA
import Derived.KernelRfl
set_option maxRecDepth 100000
namespace Go.BmP
open Go.Am Go.Bm
abbrev oo (d : Nat) (x : Kd) : O := ⟨some d, none, x⟩
abbrev oz (x : Kd) : O := ⟨none, none, x⟩
abbrev ki (n : Nat) : E := .k (.int .i64 n)
def nQa : Nat := 3
def nQb : Nat := 4
def nQc : Nat := 5
def nQd : Nat := 6
def nQe : Nat := 7
def nQf : Nat := 8
def nQg : Nat := 9
def nQh : Nat := 10
def nQi : Nat := 11
def nQj : Nat := 12
def nQk : Nat := 13
def nQl : Nat := 14
def nQm : Nat := 15
def nQn : Nat := 16
def nQo : Nat := 17
def nQp : Nat := 18
def nQq : Nat := 19
def nQr : Nat := 20
def nQs : Nat := 21
def nQt : Nat := 22
def nQu : Nat := 23
def nQv : Nat := 24
def nQw : Nat := 25
def nQx : Nat := 26
def nQy : Nat := 27
def nQz : Nat := 28
def nQA : Nat := 29
def nQB : Nat := 30
def nQC : Nat := 31
def nQD : Nat := 32
def nQE : Nat := 33
def nQF : Nat := 34
def nQG : Nat := 35
def nQH : Nat := 36
def nQI : Nat := 37
def nQJ : Nat := 38
def nQK : Nat := 39
def nQL : Nat := 40
def nQM : Nat := 41
def nQN : Nat := 42
def nQO : Nat := 45
def nQP : Nat := 46
def nQQ : Nat := 47
def nQR : Nat := 48
def nQS : Nat := 49
def nQT : Nat := 50
def nQU : Nat := 51
def nQV : Nat := 52
def nQW : Nat := 53
def nQX : Nat := 54
def nQY : Nat := 55
def nQZ : Nat := 56
def nQ0 : Nat := 57
def nQ1 : Nat := 58
def nQ2 : Nat := 59
def nQ3 : Nat := 60
def nQ4 : Nat := 61
def nQ5 : Nat := 62
def nQ6 : Nat := 63
def nQ7 : Nat := 75
def nQ8 : Nat := 76
def nQ9 : Nat := 77
def nQa0 : Nat := 78
def nQa1 : Nat := 79
def nQa2 : Nat := 80
def nQa3 : Nat := 81
def nQa4 : Nat := 82
def nQa5 : Nat := 83
def nQa6 : Nat := 84
def nQa7 : Nat := 85
def nQa8 : Nat := 86
def nQa9 : Nat := 87
def nQb0 : Nat := 88
def nQb1 : Nat := 89
def nQb2 : Nat := 90
def nQb3 : Nat := 91
def nQb4 : Nat := 92
def nQb5 : Nat := 98
def nQb6 : Nat := 99
def nQb7 : Nat := 100
def nQb8 : Nat := 101
def nQb9 : Nat := 103
def nQc0 : Nat := 104
def nQc1 : Nat := 105
/- cohesion/cohesionlaw33.SampleWedges -/
def rQaX0 : List O := [
 oo 2 <| .mv (.k (.bool false))]
def rQaX1 : List O := [
 oo 20 <| .mv (.t 0),
 oo 21 <| .call nQb [(.t 20)],
 oo 22 <| .un .not (.t 21)]
def rQaX2 : List O := [
 oo 23 <| .call nQc [],
 oo 2 <| .mv (.t 23)]
def rQaX3 : List O := [
 oo 24 <| .mv (.t 0),
 oo 25 <| .call nQe [(.t 24)],
 oo 26 <| .call nQd [(.t 25), (ki 8)],
 oo 3 <| .new [(.int .i64 0), (.own 2 [])],
 oz <| .st 2 (.t 3) (.t 26)]
def rQaX4 : List O := [
 oo 28 <| .ld (some 2) (.t 3),
 oo 29 <| .call nQf [(.t 28)],
 oo 27 <| .mv (.t 29),
 oo 30 <| .ext 0 (.t 27),
 oo 31 <| .ext 1 (.t 27),
 oo 4 <| .mv (.t 30),
 oo 5 <| .mv (.t 31)]
def rQaX5 : List O := [
 oo 6 <| .mv (.k (.own 1 []))]
def rQaX6 : List O := [
 oo 7 <| .mv (.k (.own 1 []))]
def rQaX7 : List O := [
 oo 8 <| .mv (ki 0)]
def rQaX8 : List O := [
 oo 32 <| .mv (.t 8),
 oo 33 <| .mv (.t 4),
 oo 34 <| .bin .lss (.t 32) (.t 33)]
def rQaX9 : List O := [
 oo 38 <| .ld (some 2) (.t 3),
 oo 39 <| .mv (.t 8),
 oo 40 <| .call nQg [(.t 38), (.t 39)],
 oo 37 <| .mv (.t 40),
 oo 41 <| .ext 0 (.t 37),
 oo 42 <| .ext 1 (.t 37),
 oo 43 <| .ext 2 (.t 37),
 oo 9 <| .mv (.t 41),
 oo 10 <| .mv (.t 42),
 oo 11 <| .mv (.t 43)]
def rQaX10 : List O := [
 oo 44 <| .mv (.t 11),
 oo 45 <| .bin .neq (.t 44) (ki 0),
 oo 46 <| .mv (.t 45),
 ⟨(some 47), (some (46, false)), .mv (.t 9)⟩,
 ⟨(some 48), (some (46, false)), .len (.t 47)⟩,
 ⟨(some 49), (some (46, false)), .bin .neq (.t 48) (ki 3)⟩,
 oo 50 <| .pick (.t 46) (.k (.bool true)) (.t 49),
 oo 51 <| .mv (.t 50),
 ⟨(some 52), (some (51, false)), .ld (some 2) (.t 3)⟩,
 ⟨(some 53), (some (51, false)), .mv (.t 9)⟩,
 ⟨(some 54), (some (51, false)), .ixa 1 (.t 53) (ki 0)⟩,
 ⟨(some 55), (some (51, false)), .ld none (.t 54)⟩,
 ⟨(some 56), (some (51, false)), .mv (.t 9)⟩,
 ⟨(some 57), (some (51, false)), .ixa 1 (.t 56) (ki 1)⟩,
 ⟨(some 58), (some (51, false)), .ld none (.t 57)⟩,
 ⟨(some 59), (some (51, false)), .call nQh [(.t 52), (.t 55), (.t 58)]⟩,
 ⟨(some 60), (some (51, false)), .bin .lss (.t 59) (ki 0)⟩,
 oo 61 <| .pick (.t 51) (.k (.bool true)) (.t 60),
 oo 62 <| .mv (.t 61),
 ⟨(some 63), (some (62, false)), .ld (some 2) (.t 3)⟩,
 ⟨(some 64), (some (62, false)), .mv (.t 9)⟩,
 ⟨(some 65), (some (62, false)), .ixa 1 (.t 64) (ki 1)⟩,
 ⟨(some 66), (some (62, false)), .ld none (.t 65)⟩,
 ⟨(some 67), (some (62, false)), .mv (.t 9)⟩,
 ⟨(some 68), (some (62, false)), .ixa 1 (.t 67) (ki 2)⟩,
 ⟨(some 69), (some (62, false)), .ld none (.t 68)⟩,
 ⟨(some 70), (some (62, false)), .call nQh [(.t 63), (.t 66), (.t 69)]⟩,
 ⟨(some 71), (some (62, false)), .bin .lss (.t 70) (ki 0)⟩,
 oo 72 <| .pick (.t 62) (.k (.bool true)) (.t 71),
 oo 73 <| .mv (.t 72),
 ⟨(some 74), (some (73, false)), .mv (.t 9)⟩,
 ⟨(some 75), (some (73, false)), .ixa 1 (.t 74) (ki 0)⟩,
 ⟨(some 76), (some (73, false)), .ld none (.t 75)⟩,
 ⟨(some 77), (some (73, false)), .mv (.t 9)⟩,
 ⟨(some 78), (some (73, false)), .ixa 1 (.t 77) (ki 2)⟩,
 ⟨(some 79), (some (73, false)), .ld none (.t 78)⟩,
 ⟨(some 80), (some (73, false)), .bin .geq (.t 76) (.t 79)⟩,
 oo 81 <| .pick (.t 73) (.k (.bool true)) (.t 80),
 oo 82 <| .mv (.t 81),
 ⟨(some 83), (some (82, false)), .mv (.t 10)⟩,
 ⟨(some 84), (some (82, false)), .ld (some 2) (.t 3)⟩,
 ⟨(some 85), (some (82, false)), .mv (.t 9)⟩,
 ⟨(some 86), (some (82, false)), .ixa 1 (.t 85) (ki 0)⟩,
 ⟨(some 87), (some (82, false)), .ld none (.t 86)⟩,
 ⟨(some 88), (some (82, false)), .mv (.t 9)⟩,
 ⟨(some 89), (some (82, false)), .ixa 1 (.t 88) (ki 2)⟩,
 ⟨(some 90), (some (82, false)), .ld none (.t 89)⟩,
 ⟨(some 91), (some (82, false)), .call nQh [(.t 84), (.t 87), (.t 90)]⟩,
 ⟨(some 92), (some (82, false)), .bin .geq (.t 91) (ki 0)⟩,
 ⟨(some 93), (some (82, false)), .eq true .bool (.t 83) (.t 92)⟩,
 oo 94 <| .pick (.t 82) (.k (.bool true)) (.t 93)]
def rQaX11 : List O := [
 oo 2 <| .mv (.k (.bool false))]
def rQaX12 : List O := [
 oo 95 <| .mv (.t 9),
 oo 96 <| .ixa 1 (.t 95) (ki 1),
 oo 97 <| .ld none (.t 96),
 oo 98 <| .mv (.t 9),
 oo 99 <| .ixa 1 (.t 98) (ki 0),
 oo 100 <| .ld none (.t 99),
 oo 101 <| .mv (.t 9),
 oo 102 <| .ixa 1 (.t 101) (ki 2),
 oo 103 <| .ld none (.t 102),
 oo 104 <| .bslice 1 3 [(.int .i64 0)] [(0, 1, (.t 97)), (1, 1, (.t 100)), (2, 1, (.t 103))],
 oo 12 <| .mv (.t 104)]
def rQaX13 : List O := [
 oo 105 <| .mv (.t 8),
 oo 106 <| .bin .gtr (.t 105) (ki 0),
 oo 107 <| .mv (.t 106),
 ⟨(some 108), (some (107, true)), .mv (.t 7)⟩,
 ⟨(some 109), (some (107, true)), .mv (.t 12)⟩,
 ⟨(some 110), (some (107, true)), .call nQi [(.t 108), (.t 109)]⟩,
 ⟨(some 111), (some (107, true)), .bin .geq (.t 110) (ki 0)⟩,
 oo 112 <| .pick (.t 107) (.t 111) (.k (.bool false))]
def rQaX14 : List O := [
 oo 2 <| .mv (.k (.bool false))]
def rQaX15 : List O := [
 oo 113 <| .mv (.t 12),
 oo 114 <| .mv (.t 6),
 oo 115 <| .mv (.t 8),
 oo 116 <| .bslice 1 1 [(.int .i64 0)] [(0, 1, (.t 115))],
 oo 117 <| .app 1 (.t 114) (.t 116),
 oo 7 <| .mv (.t 113),
 oo 6 <| .mv (.t 117)]
def rQaX16 : List O := [
 oo 35 <| .mv (.t 8),
 oo 36 <| .bin .add (.t 35) (ki 1),
 oo 8 <| .mv (.t 36)]
def lQaX0 : C := (.seq (.seq (.reg rQaX8 false [] [3, 4, 6, 7, 8, 34]) (.cond (.t 34) .skip (.exit 0))) (.seq (.blk 1 (.seq (.reg rQaX9 false [] [3, 4, 6, 7, 8, 9, 10, 11]) (.seq (.seq (.reg rQaX10 true [(0, 0), (1, 1), (2, 2), (3, 3), (4, 4), (5, 5), (6, 6), (7, 7), (15, 15), (16, 16), (17, 17), (18, 18), (26, 26), (27, 27), (28, 28), (29, 29), (36, 36), (37, 37), (38, 38), (49, 49), (50, 50), (8, 9), (8, 10), (8, 11), (8, 12), (11, 12), (8, 13), (11, 13), (8, 14), (9, 14), (10, 14), (11, 14), (19, 20), (19, 21), (19, 22), (19, 23), (22, 23), (19, 24), (22, 24), (19, 25), (20, 25), (21, 25), (22, 25), (32, 33), (32, 34), (30, 35), (31, 35), (32, 35), (39, 40), (40, 41), (40, 42), (39, 43), (40, 43), (40, 44), (43, 44), (40, 45), (43, 45), (39, 46), (40, 46), (41, 46), (42, 46), (43, 46), (39, 47)] [3, 4, 6, 7, 8, 9, 94]) (.cond (.t 94) (.seq (.reg rQaX11 false [] [2]) .ret) .skip)) (.seq (.reg rQaX12 true [(9, 9), (10, 10), (2, 3), (2, 4), (0, 5), (1, 5), (2, 5), (2, 6), (5, 6), (2, 7), (5, 7), (0, 8), (1, 8), (2, 8), (3, 8), (4, 8), (5, 8)] [3, 4, 6, 7, 8, 12]) (.seq (.seq (.reg rQaX13 false [] [3, 4, 6, 8, 12, 112]) (.cond (.t 112) (.seq (.reg rQaX14 false [] [2]) .ret) .skip)) (.reg rQaX15 false [] [3, 4, 6, 7, 8])))))) (.reg rQaX16 false [] [3, 4, 6, 7, 8])))
def rQaX17 : List O := [
 oo 119 <| .ld (some 2) (.t 3),
 oo 120 <| .mv (.t 4),
 oo 121 <| .call nQg [(.t 119), (.t 120)],
 oo 118 <| .mv (.t 121),
 oo 122 <| .ext 0 (.t 118),
 oo 123 <| .ext 1 (.t 118),
 oo 124 <| .ext 2 (.t 118),
 oo 13 <| .mv (.t 122),
 oo 14 <| .mv (.t 123),
 oo 15 <| .mv (.t 124)]
def rQaX18 : List O := [
 oo 126 <| .ld (some 2) (.t 3),
 oo 127 <| .mv (.t 6),
 oo 128 <| .call nQj [(.t 126), (.t 127)],
 oo 125 <| .mv (.t 128),
 oo 129 <| .ext 0 (.t 125),
 oo 130 <| .ext 1 (.t 125),
 oo 16 <| .new [(.int .i64 0), (.int .i64 0)],
 oz <| .st 2 (.t 16) (.t 129),
 oo 17 <| .mv (.t 130)]
def rQaX19 : List O := [
 oo 132 <| .ld (some 2) (.t 3),
 oo 133 <| .call nQk [(.t 132)],
 oo 131 <| .mv (.t 133),
 oo 134 <| .ext 0 (.t 131),
 oo 135 <| .ext 1 (.t 131),
 oo 18 <| .new [(.int .i64 0), (.int .i64 0)],
 oz <| .st 2 (.t 18) (.t 134),
 oo 19 <| .mv (.t 135)]
def rQaX20 : List O := [
 oo 136 <| .mv (.t 15),
 oo 137 <| .bin .eql (.t 136) (ki 1),
 oo 138 <| .mv (.t 137),
 ⟨(some 139), (some (138, true)), .mv (.t 17)⟩,
 ⟨(some 140), (some (138, true)), .bin .eql (.t 139) (ki 0)⟩,
 oo 141 <| .pick (.t 138) (.t 140) (.k (.bool false)),
 oo 142 <| .mv (.t 141),
 ⟨(some 143), (some (142, true)), .ld (some 2) (.t 16)⟩,
 ⟨(some 144), (some (142, true)), .ld (some 2) (.t 18)⟩,
 ⟨(some 145), (some (142, true)), .eq false (.str [true, true]) (.t 143) (.t 144)⟩,
 oo 146 <| .pick (.t 142) (.t 145) (.k (.bool false)),
 oo 147 <| .mv (.t 146),
 ⟨(some 148), (some (147, true)), .call nQc []⟩,
 oo 149 <| .pick (.t 147) (.t 148) (.k (.bool false)),
 oo 2 <| .mv (.t 149)]
def cQa : C := (.seq (.reg rQaX0 false [] [0]) (.seq (.seq (.reg rQaX1 false [] [0, 22]) (.cond (.t 22) (.seq (.reg rQaX2 false [] [2]) .ret) .skip)) (.seq (.reg rQaX3 false [] [3]) (.seq (.reg rQaX4 false [] [3, 4]) (.seq (.reg rQaX5 false [] [3, 4, 6]) (.seq (.reg rQaX6 false [] [3, 4, 6, 7]) (.seq (.seq (.reg rQaX7 false [] [3, 4, 6, 7, 8]) (.blk 0 (.loop lQaX0))) (.seq (.reg rQaX17 false [] [3, 6, 15]) (.seq (.reg rQaX18 false [] [3, 15, 16, 17]) (.seq (.reg rQaX19 false [] [15, 16, 17, 18]) (.seq (.reg rQaX20 false [] [2]) .ret)))))))))))
def qQa : AFn := ⟨150, 1, [.t 2], cQa⟩
/- cohesion/cohesionmake.Few -/
def rQbX0 : List O := [
 oo 2 <| .mv (.k (.bool false))]
def rQbX1 : List O := [
 oo 3 <| .mv (.t 0),
 oo 4 <| .len (.t 3),
 oo 5 <| .bin .leq (.t 4) (ki 500),
 oo 2 <| .mv (.t 5)]
def cQb : C := (.seq (.reg rQbX0 false [] [0]) (.seq (.reg rQbX1 false [] [2]) .ret))
def qQb : AFn := ⟨6, 1, [.t 2], cQb⟩
/- cohesion/cohesionlaw33.awake -/
def rQcX0 : List O := [
 oo 0 <| .mv (.k (.bool false))]
def rQcX1 : List O := [
 oo 7 <| .bslice 1 1 [(.int .i64 0)] [(0, 1, (ki 1))],
 oo 8 <| .call nQl [(ki 3), (ki 2), (.t 7)],
 oo 6 <| .mv (.t 8),
 oo 9 <| .ext 0 (.t 6),
 oo 10 <| .ext 1 (.t 6),
 oo 1 <| .mv (.t 9),
 oo 2 <| .mv (.t 10)]
def rQcX2 : List O := [
 oo 11 <| .build [(.int .i64 0), (.int .i64 0)] [(0, 1, (ki 0)), (1, 1, (ki 1))],
 oo 12 <| .build [(.int .i64 0), (.int .i64 0)] [(0, 1, (ki 0)), (1, 1, (ki 2))],
 oo 13 <| .build [(.int .i64 0), (.int .i64 0)] [(0, 1, (ki 1)), (1, 1, (ki 2))],
 oo 14 <| .bslice 2 3 [(.int .i64 0), (.int .i64 0)] [(0, 2, (.t 11)), (2, 2, (.t 12)), (4, 2, (.t 13))],
 oo 15 <| .build [(.int .i64 0), (.own 2 [])] [(0, 1, (ki 3)), (1, 1, (.t 14))],
 oo 3 <| .new [(.int .i64 0), (.own 2 [])],
 oz <| .st 2 (.t 3) (.t 15)]
def rQcX3 : List O := [
 oo 17 <| .ld (some 2) (.t 3),
 oo 18 <| .bslice 1 3 [(.int .i64 0)] [(0, 1, (ki 0)), (1, 1, (ki 0)), (2, 1, (ki 0))],
 oo 19 <| .call nQm [(.t 17), (.t 18), (ki 1)],
 oo 16 <| .mv (.t 19),
 oo 20 <| .ext 0 (.t 16),
 oo 21 <| .ext 1 (.t 16),
 oo 4 <| .mv (.t 20),
 oo 5 <| .mv (.t 21)]
def rQcX4 : List O := [
 oo 22 <| .mv (.t 2),
 oo 23 <| .bin .eql (.t 22) (ki 0),
 oo 24 <| .mv (.t 23),
 ⟨(some 25), (some (24, true)), .mv (.t 1)⟩,
 ⟨(some 26), (some (24, true)), .bslice 1 2 [(.int .i64 0)] [(0, 1, (ki 0)), (1, 1, (ki 2))]⟩,
 ⟨(some 27), (some (24, true)), .call nQi [(.t 25), (.t 26)]⟩,
 ⟨(some 28), (some (24, true)), .bin .eql (.t 27) (ki 0)⟩,
 oo 29 <| .pick (.t 24) (.t 28) (.k (.bool false)),
 oo 30 <| .mv (.t 29),
 ⟨(some 31), (some (30, true)), .mv (.t 5)⟩,
 ⟨(some 32), (some (30, true)), .bin .eql (.t 31) (ki 0)⟩,
 oo 33 <| .pick (.t 30) (.t 32) (.k (.bool false)),
 oo 34 <| .mv (.t 33),
 ⟨(some 35), (some (34, true)), .mv (.t 4)⟩,
 ⟨(some 36), (some (34, true)), .bin .eql (.t 35) (ki 1)⟩,
 oo 37 <| .pick (.t 34) (.t 36) (.k (.bool false)),
 oo 0 <| .mv (.t 37)]
def cQc : C := (.seq (.reg rQcX0 false [] []) (.seq (.reg rQcX1 false [] [1, 2]) (.seq (.reg rQcX2 false [] [1, 2, 3]) (.seq (.reg rQcX3 false [] [1, 2, 4, 5]) (.seq (.reg rQcX4 false [] [0]) .ret)))))
def qQc : AFn := ⟨38, 0, [.t 0], cQc⟩
/- cohesion/cohesionmake.Graph -/
def rQdX0 : List O := [
 oo 4 <| .new [(.int .i64 0), (.own 2 [])]]
def rQdX1 : List O := [
 oo 9 <| .mv (.t 0),
 oo 10 <| .mv (.t 1),
 oo 11 <| .bin .add (.t 10) (ki 1),
 oo 12 <| .call nQn [(.t 9), (.t 11)],
 oo 13 <| .build [(.int .i64 0), (.own 2 [])] [(0, 1, (.t 12))],
 oo 5 <| .new [(.int .i64 0), (.own 2 [])],
 oz <| .st 2 (.t 5) (.t 13)]
def rQdX2 : List O := [
 oo 14 <| .fad 0 (.t 5),
 oo 15 <| .ld none (.t 14),
 oo 16 <| .bin .lss (.t 15) (ki 4)]
def rQdX3 : List O := [
 oo 17 <| .mv (.t 1),
 oo 18 <| .fad 0 (.t 5),
 oo 19 <| .ld none (.t 18),
 oo 20 <| .mv (.t 0),
 oo 21 <| .mv (.t 1),
 oo 22 <| .bin .add (.t 21) (ki 1),
 oo 23 <| .call nQn [(.t 20), (.t 22)],
 oo 24 <| .bin .add (.t 19) (.t 23),
 oo 25 <| .min [(.t 17), (.t 24)],
 oo 26 <| .fad 0 (.t 5),
 oz <| .st 1 (.t 26) (.t 25)]
def rQdX4 : List O := [
 oo 27 <| .mv (.t 0),
 oo 28 <| .call nQn [(.t 27), (ki 4)],
 oo 29 <| .bin .add (ki 1) (.t 28),
 oo 6 <| .mv (.t 29)]
def rQdX5 : List O := [
 oo 7 <| .mv (ki 0)]
def rQdX6 : List O := [
 oo 30 <| .mv (.t 7),
 oo 31 <| .fad 0 (.t 5),
 oo 32 <| .ld none (.t 31),
 oo 33 <| .bin .lss (.t 30) (.t 32)]
def rQdX7 : List O := [
 oo 36 <| .mv (.t 7),
 oo 37 <| .bin .add (.t 36) (ki 1),
 oo 8 <| .mv (.t 37)]
def rQdX8 : List O := [
 oo 38 <| .mv (.t 8),
 oo 39 <| .fad 0 (.t 5),
 oo 40 <| .ld none (.t 39),
 oo 41 <| .bin .lss (.t 38) (.t 40)]
def rQdX9 : List O := [
 oo 44 <| .mv (.t 0),
 oo 45 <| .call nQn [(.t 44), (ki 5)],
 oo 46 <| .mv (.t 6),
 oo 47 <| .bin .sub (ki 5) (.t 46),
 oo 48 <| .bin .geq (.t 45) (.t 47)]
def rQdX10 : List O := [
 oo 49 <| .fad 1 (.t 5),
 oo 50 <| .ld none (.t 49),
 oo 51 <| .mv (.t 7),
 oo 52 <| .mv (.t 8),
 oo 53 <| .build [(.int .i64 0), (.int .i64 0)] [(0, 1, (.t 51)), (1, 1, (.t 52))],
 oo 54 <| .bslice 2 1 [(.int .i64 0), (.int .i64 0)] [(0, 2, (.t 53))],
 oo 55 <| .app 2 (.t 50) (.t 54),
 oo 56 <| .fad 1 (.t 5),
 oz <| .st 1 (.t 56) (.t 55)]
def rQdX11 : List O := [
 oo 42 <| .mv (.t 8),
 oo 43 <| .bin .add (.t 42) (ki 1),
 oo 8 <| .mv (.t 43)]
def lQdX0 : C := (.seq (.seq (.reg rQdX8 false [] [0, 4, 5, 6, 7, 8, 41]) (.cond (.t 41) .skip (.exit 2))) (.seq (.blk 3 (.seq (.reg rQdX9 false [] [0, 4, 5, 6, 7, 8, 48]) (.cond (.t 48) (.reg rQdX10 false [] [0, 4, 5, 6, 7, 8]) .skip))) (.reg rQdX11 false [] [0, 4, 5, 6, 7, 8])))
def rQdX12 : List O := [
 oo 34 <| .mv (.t 7),
 oo 35 <| .bin .add (.t 34) (ki 1),
 oo 7 <| .mv (.t 35)]
def lQdX1 : C := (.seq (.seq (.reg rQdX6 false [] [0, 4, 5, 6, 7, 33]) (.cond (.t 33) .skip (.exit 0))) (.seq (.blk 1 (.seq (.reg rQdX7 false [] [0, 4, 5, 6, 7, 8]) (.blk 2 (.loop lQdX0)))) (.reg rQdX12 false [] [0, 4, 5, 6, 7])))
def rQdX13 : List O := [
 oo 57 <| .ld (some 2) (.t 5),
 oz <| .st 2 (.t 4) (.t 57)]
def cQd : C := (.seq (.reg rQdX0 false [] [0, 1, 4]) (.seq (.reg rQdX1 false [] [0, 1, 4, 5]) (.seq (.seq (.reg rQdX2 false [] [0, 1, 4, 5, 16]) (.cond (.t 16) (.reg rQdX3 true [(8, 8), (9, 9), (10, 10), (0, 2), (2, 3), (2, 4), (2, 5), (0, 6), (1, 6), (2, 6)] [0, 4, 5]) .skip)) (.seq (.reg rQdX4 false [] [0, 4, 5, 6]) (.seq (.seq (.reg rQdX5 false [] [0, 4, 5, 6, 7]) (.blk 0 (.loop lQdX1))) (.seq (.reg rQdX13 false [] [4]) .ret))))))
def qQd : AFn := ⟨58, 2, [.c 4 (some 2)], cQd⟩
/- cohesion/cohesionmake.New -/
def rQeX0 : List O := [
 oo 2 <| .mv (.k .nilp)]
def rQeX1 : List O := [
 oo 3 <| .mv (.t 0),
 oo 4 <| .build [(.own 1 []), (.int .i64 0)] [(0, 1, (.t 3))],
 oo 5 <| .box (.t 4),
 oo 2 <| .mv (.t 5)]
def cQe : C := (.seq (.reg rQeX0 false [] [0]) (.seq (.reg rQeX1 false [] [2]) .ret))
def qQe : AFn := ⟨6, 1, [.t 2], cQe⟩
/- cohesion/cohesionref30.Wedges -/
def rQfX0 : List O := [
 oo 1 <| .box (.t 0),
 oo 2 <| .mv (ki 0),
 oo 3 <| .mv (ki 0)]
def rQfX1 : List O := [
 oo 8 <| .ld (some 2) (.t 1),
 oo 9 <| .call nQo [(.t 8)],
 oo 4 <| .mv (.t 9)]
def rQfX2 : List O := [
 oo 10 <| .mv (.t 4),
 oo 11 <| .bin .neq (.t 10) (ki 0)]
def rQfX3 : List O := [
 oo 12 <| .mv (.t 4),
 oo 2 <| .mv (ki 0),
 oo 3 <| .mv (.t 12)]
def rQfX4 : List O := [
 oo 5 <| .mv (ki 0)]
def rQfX5 : List O := [
 oo 6 <| .mv (ki 0)]
def rQfX6 : List O := [
 oo 13 <| .mv (.t 6),
 oo 14 <| .fad 0 (.t 1),
 oo 15 <| .ld none (.t 14),
 oo 16 <| .bin .lss (.t 13) (.t 15)]
def rQfX7 : List O := [
 oo 19 <| .ld (some 2) (.t 1),
 oo 20 <| .mv (.t 6),
 oo 21 <| .call nQp [(.t 19), (.t 20)],
 oo 7 <| .mv (.t 21)]
def rQfX8 : List O := [
 oo 22 <| .mv (.t 5),
 oo 23 <| .mv (.t 7),
 oo 24 <| .mv (.t 7),
 oo 25 <| .bin .sub (.t 24) (ki 1),
 oo 26 <| .bin .mul (.t 23) (.t 25),
 oo 27 <| .bin .quo (.t 26) (ki 2),
 oo 28 <| .bin .add (.t 22) (.t 27),
 oo 5 <| .mv (.t 28)]
def rQfX9 : List O := [
 oo 17 <| .mv (.t 6),
 oo 18 <| .bin .add (.t 17) (ki 1),
 oo 6 <| .mv (.t 18)]
def lQfX0 : C := (.seq (.seq (.reg rQfX6 false [] [1, 5, 6, 16]) (.cond (.t 16) .skip (.exit 0))) (.seq (.blk 1 (.seq (.reg rQfX7 false [] [1, 5, 6, 7]) (.reg rQfX8 false [] [1, 5, 6]))) (.reg rQfX9 false [] [1, 5, 6])))
def rQfX10 : List O := [
 oo 29 <| .mv (.t 5),
 oo 2 <| .mv (.t 29),
 oo 3 <| .mv (ki 0)]
def cQf : C := (.seq (.reg rQfX0 false [] [1]) (.seq (.seq (.reg rQfX1 false [] [1, 4]) (.seq (.reg rQfX2 false [] [1, 4, 11]) (.cond (.t 11) (.seq (.reg rQfX3 false [] [2, 3]) .ret) .skip))) (.seq (.reg rQfX4 false [] [1, 5]) (.seq (.seq (.reg rQfX5 false [] [1, 5, 6]) (.blk 0 (.loop lQfX0))) (.seq (.reg rQfX10 false [] [2, 3]) .ret)))))
def qQf : AFn := ⟨30, 1, [.t 2, .t 3], cQf⟩
/- cohesion/sample.Wedge -/
def rQgX0 : List O := [
 oo 2 <| .box (.t 0),
 oo 4 <| .mv (.k (.own 1 [])),
 oo 5 <| .mv (.k (.bool false)),
 oo 6 <| .mv (ki 0)]
def rQgX1 : List O := [
 oo 9 <| .ld (some 2) (.t 2),
 oo 10 <| .call nQq [(.t 9)],
 oo 7 <| .mv (.t 10)]
def rQgX2 : List O := [
 oo 11 <| .mv (.t 7),
 oo 12 <| .bin .neq (.t 11) (ki 0)]
def rQgX3 : List O := [
 oo 13 <| .mv (.t 7),
 oo 4 <| .mv (.k (.own 1 [])),
 oo 5 <| .mv (.k (.bool false)),
 oo 6 <| .mv (.t 13)]
def rQgX4 : List O := [
 oo 14 <| .ld (some 2) (.t 2),
 oo 15 <| .call nQr [(.t 14)],
 oo 8 <| .mv (.t 15)]
def rQgX5 : List O := [
 oo 16 <| .mv (.t 1),
 oo 17 <| .bin .lss (.t 16) (ki 0),
 oo 18 <| .mv (.t 17),
 ⟨(some 19), (some (18, false)), .mv (.t 1)⟩,
 ⟨(some 20), (some (18, false)), .mv (.t 8)⟩,
 ⟨(some 21), (some (18, false)), .len (.t 20)⟩,
 ⟨(some 22), (some (18, false)), .bin .geq (.t 19) (.t 21)⟩,
 oo 23 <| .pick (.t 18) (.k (.bool true)) (.t 22)]
def rQgX6 : List O := [
 oo 4 <| .mv (.k (.own 1 [])),
 oo 5 <| .mv (.k (.bool false)),
 oo 6 <| .mv (ki 1)]
def rQgX7 : List O := [
 oo 24 <| .mv (.t 8),
 oo 25 <| .mv (.t 1),
 oo 26 <| .ixa 3 (.t 24) (.t 25),
 oo 27 <| .asl 3 (.t 26),
 oo 28 <| .call nQs [(.t 27)],
 oo 29 <| .ld (some 2) (.t 2),
 oo 30 <| .mv (.t 8),
 oo 31 <| .mv (.t 1),
 oo 32 <| .ixa 3 (.t 30) (.t 31),
 oo 33 <| .ld (some 3) (.t 32),
 oo 34 <| .call nQt [(.t 29), (.t 33)],
 oo 4 <| .mv (.t 28),
 oo 5 <| .mv (.t 34),
 oo 6 <| .mv (ki 0)]
def cQg : C := (.seq (.reg rQgX0 false [] [1, 2]) (.seq (.seq (.reg rQgX1 false [] [1, 2, 7]) (.seq (.reg rQgX2 false [] [1, 2, 7, 12]) (.cond (.t 12) (.seq (.reg rQgX3 false [] [4, 5, 6]) .ret) .skip))) (.seq (.reg rQgX4 false [] [1, 2, 8]) (.seq (.seq (.reg rQgX5 false [] [1, 2, 8, 23]) (.cond (.t 23) (.seq (.reg rQgX6 false [] [4, 5, 6]) .ret) .skip)) (.seq (.reg rQgX7 true [(10, 10), (11, 11), (12, 12), (13, 13), (0, 5), (1, 5), (2, 5), (3, 5), (4, 5), (4, 6), (5, 6), (4, 7), (5, 7), (4, 8), (5, 8), (0, 9), (1, 9), (2, 9), (3, 9), (4, 9), (5, 9)] [4, 5, 6]) .ret)))))
def qQg : AFn := ⟨35, 2, [.t 4, .t 5, .t 6], cQg⟩
/- cohesion/cohesionref03.Find -/
def rQhX0 : List O := [
 oo 3 <| .box (.t 0),
 oo 6 <| .mv (ki 0)]
def rQhX1 : List O := [
 oo 9 <| .ld (some 2) (.t 3),
 oo 10 <| .call nQo [(.t 9)],
 oo 11 <| .bin .neq (.t 10) (ki 0)]
def rQhX2 : List O := [
 oo 6 <| .mv (.k (.int .i64 (-1)))]
def rQhX3 : List O := [
 oo 12 <| .fad 1 (.t 3),
 oo 13 <| .ld none (.t 12),
 oo 14 <| .len (.t 13),
 oo 15 <| .mv (ki 0)]
def rQhX4 : List O := [
 oo 16 <| .bin .lss (.t 15) (.t 14)]
def rQhX5 : List O := [
 oo 17 <| .mv (.t 15),
 oo 18 <| .ixa 2 (.t 13) (.t 15),
 oo 19 <| .ld (some 2) (.t 18),
 oo 8 <| .new [(.int .i64 0), (.int .i64 0)],
 oo 7 <| .mv (.t 17),
 oz <| .st 2 (.t 8) (.t 19)]
def rQhX6 : List O := [
 oo 20 <| .ld (some 2) (.t 8),
 oo 21 <| .mv (.t 1),
 oo 22 <| .mv (.t 2),
 oo 23 <| .call nQu [(.t 21), (.t 22)],
 oo 24 <| .eq false (.str [true, true]) (.t 20) (.t 23)]
def rQhX7 : List O := [
 oo 25 <| .mv (.t 7),
 oo 6 <| .mv (.t 25)]
def rQhX8 : List O := [
 oo 26 <| .bin .add (.t 15) (ki 1),
 oo 15 <| .mv (.t 26)]
def lQhX0 : C := (.seq (.reg rQhX4 false [] [1, 2, 13, 14, 15, 16]) (.seq (.cond (.t 16) .skip (.exit 0)) (.seq (.blk 1 (.seq (.reg rQhX5 false [] [1, 2, 7, 8, 13, 14, 15]) (.seq (.reg rQhX6 true [(4, 4), (0, 1), (0, 2), (0, 3)] [1, 2, 7, 13, 14, 15, 24]) (.cond (.t 24) (.seq (.reg rQhX7 false [] [6]) .ret) .skip)))) (.reg rQhX8 false [] [1, 2, 13, 14, 15]))))
def rQhX9 : List O := [
 oo 6 <| .mv (.k (.int .i64 (-1)))]
def cQh : C := (.seq (.reg rQhX0 false [] [1, 2, 3]) (.seq (.seq (.reg rQhX1 false [] [1, 2, 3, 11]) (.cond (.t 11) (.seq (.reg rQhX2 false [] [6]) .ret) .skip)) (.seq (.seq (.reg rQhX3 false [] [1, 2, 13, 14, 15]) (.blk 0 (.loop lQhX0))) (.seq (.reg rQhX9 false [] [6]) .ret))))
def qQh : AFn := ⟨27, 3, [.t 6], cQh⟩
/- cohesion/cohesionref02.Cmp -/
def rQiX0 : List O := [
 oo 4 <| .mv (ki 0)]
def rQiX1 : List O := [
 oo 6 <| .mv (.t 0),
 oo 7 <| .len (.t 6),
 oo 8 <| .mv (ki 0)]
def rQiX2 : List O := [
 oo 9 <| .bin .lss (.t 8) (.t 7)]
def rQiX3 : List O := [
 oo 10 <| .mv (.t 8),
 oo 5 <| .mv (.t 10)]
def rQiX4 : List O := [
 oo 12 <| .mv (.t 5),
 oo 13 <| .mv (.t 1),
 oo 14 <| .len (.t 13),
 oo 15 <| .bin .geq (.t 12) (.t 14),
 oo 16 <| .mv (.t 15),
 ⟨(some 17), (some (16, false)), .mv (.t 0)⟩,
 ⟨(some 18), (some (16, false)), .mv (.t 5)⟩,
 ⟨(some 19), (some (16, false)), .ixa 1 (.t 17) (.t 18)⟩,
 ⟨(some 20), (some (16, false)), .ld none (.t 19)⟩,
 ⟨(some 21), (some (16, false)), .mv (.t 1)⟩,
 ⟨(some 22), (some (16, false)), .mv (.t 5)⟩,
 ⟨(some 23), (some (16, false)), .ixa 1 (.t 21) (.t 22)⟩,
 ⟨(some 24), (some (16, false)), .ld none (.t 23)⟩,
 ⟨(some 25), (some (16, false)), .bin .gtr (.t 20) (.t 24)⟩,
 oo 26 <| .pick (.t 16) (.k (.bool true)) (.t 25),
 oo 11 <| .mv (.t 26)]
def rQiX5 : List O := [
 oo 4 <| .mv (ki 1)]
def rQiX6 : List O := [
 oo 28 <| .mv (.t 0),
 oo 29 <| .mv (.t 5),
 oo 30 <| .ixa 1 (.t 28) (.t 29),
 oo 31 <| .ld none (.t 30),
 oo 32 <| .mv (.t 1),
 oo 33 <| .mv (.t 5),
 oo 34 <| .ixa 1 (.t 32) (.t 33),
 oo 35 <| .ld none (.t 34),
 oo 36 <| .bin .lss (.t 31) (.t 35),
 oo 27 <| .mv (.t 36)]
def rQiX7 : List O := [
 oo 4 <| .mv (.k (.int .i64 (-1)))]
def rQiX8 : List O := [
 oo 37 <| .bin .add (.t 8) (ki 1),
 oo 8 <| .mv (.t 37)]
def lQiX0 : C := (.seq (.reg rQiX2 false [] [0, 1, 7, 8, 9]) (.seq (.cond (.t 9) .skip (.exit 0)) (.seq (.blk 1 (.seq (.reg rQiX3 false [] [0, 1, 5, 7, 8]) (.blk 2 (.seq (.reg rQiX4 true [(3, 3), (4, 4), (13, 13), (14, 14), (15, 15), (8, 9), (8, 10), (8, 11), (5, 12), (6, 12), (7, 12), (8, 12)] [0, 1, 5, 7, 8, 11]) (.cond (.t 11) (.seq (.reg rQiX5 false [] [4]) .ret) (.seq (.reg rQiX6 true [(8, 8), (9, 9), (3, 4), (3, 5), (3, 6), (0, 7), (1, 7), (2, 7), (3, 7)] [0, 1, 7, 8, 27]) (.cond (.t 27) (.seq (.reg rQiX7 false [] [4]) .ret) .skip))))))) (.reg rQiX8 false [] [0, 1, 7, 8]))))
def rQiX9 : List O := [
 oo 38 <| .mv (.t 0),
 oo 39 <| .len (.t 38),
 oo 40 <| .mv (.t 1),
 oo 41 <| .len (.t 40),
 oo 42 <| .bin .lss (.t 39) (.t 41)]
def rQiX10 : List O := [
 oo 4 <| .mv (.k (.int .i64 (-1)))]
def rQiX11 : List O := [
 oo 4 <| .mv (ki 0)]
def cQi : C := (.seq (.reg rQiX0 false [] [0, 1]) (.seq (.seq (.reg rQiX1 false [] [0, 1, 7, 8]) (.blk 0 (.loop lQiX0))) (.seq (.seq (.reg rQiX9 false [] [42]) (.cond (.t 42) (.seq (.reg rQiX10 false [] [4]) .ret) .skip)) (.seq (.reg rQiX11 false [] [4]) .ret))))
def qQi : AFn := ⟨43, 2, [.t 4], cQi⟩
/- cohesion/sample.ByWedges -/
def rQjX0 : List O := [
 oo 2 <| .box (.t 0),
 oo 4 <| .new [(.int .i64 0), (.int .i64 0)],
 oo 5 <| .mv (ki 0)]
def rQjX1 : List O := [
 oo 11 <| .ld (some 2) (.t 2),
 oo 12 <| .call nQq [(.t 11)],
 oo 6 <| .mv (.t 12)]
def rQjX2 : List O := [
 oo 13 <| .mv (.t 6),
 oo 14 <| .bin .neq (.t 13) (ki 0)]
def rQjX3 : List O := [
 oo 15 <| .build [(.int .i64 0), (.int .i64 0)] [],
 oo 16 <| .mv (.t 6),
 oz <| .st 2 (.t 4) (.t 15),
 oo 5 <| .mv (.t 16)]
def rQjX4 : List O := [
 oo 17 <| .ld (some 2) (.t 2),
 oo 18 <| .call nQr [(.t 17)],
 oo 7 <| .mv (.t 18)]
def rQjX5 : List O := [
 oo 8 <| .mv (ki 0)]
def rQjX6 : List O := [
 oo 19 <| .mv (.t 1),
 oo 20 <| .len (.t 19),
 oo 21 <| .mv (ki 0)]
def rQjX7 : List O := [
 oo 22 <| .bin .lss (.t 21) (.t 20)]
def rQjX8 : List O := [
 oo 23 <| .ixa 1 (.t 19) (.t 21),
 oo 24 <| .ld none (.t 23),
 oo 10 <| .mv (.t 24)]
def rQjX9 : List O := [
 oo 25 <| .mv (.t 10),
 oo 26 <| .bin .lss (.t 25) (ki 0),
 oo 27 <| .mv (.t 26),
 ⟨(some 28), (some (27, false)), .mv (.t 10)⟩,
 ⟨(some 29), (some (27, false)), .mv (.t 7)⟩,
 ⟨(some 30), (some (27, false)), .len (.t 29)⟩,
 ⟨(some 31), (some (27, false)), .bin .geq (.t 28) (.t 30)⟩,
 oo 32 <| .pick (.t 27) (.k (.bool true)) (.t 31)]
def rQjX10 : List O := [
 oo 33 <| .build [(.int .i64 0), (.int .i64 0)] [],
 oz <| .st 2 (.t 4) (.t 33),
 oo 5 <| .mv (ki 1)]
def rQjX11 : List O := [
 oo 34 <| .ld (some 2) (.t 2),
 oo 35 <| .mv (.t 7),
 oo 36 <| .mv (.t 10),
 oo 37 <| .ixa 3 (.t 35) (.t 36),
 oo 38 <| .ld (some 3) (.t 37),
 oo 39 <| .call nQt [(.t 34), (.t 38)]]
def rQjX12 : List O := [
 oo 40 <| .mv (.t 8),
 oo 41 <| .bin .add (.t 40) (ki 1),
 oo 8 <| .mv (.t 41)]
def rQjX13 : List O := [
 oo 42 <| .bin .add (.t 21) (ki 1),
 oo 21 <| .mv (.t 42)]
def lQjX0 : C := (.seq (.reg rQjX7 false [] [1, 2, 4, 7, 8, 19, 20, 21, 22]) (.seq (.cond (.t 22) .skip (.exit 0)) (.seq (.blk 1 (.seq (.reg rQjX8 false [] [1, 2, 4, 7, 8, 10, 19, 20, 21]) (.seq (.seq (.reg rQjX9 false [] [1, 2, 4, 7, 8, 10, 19, 20, 21, 32]) (.cond (.t 32) (.seq (.reg rQjX10 false [] [4, 5]) .ret) .skip)) (.seq (.reg rQjX11 true [(5, 5), (0, 1), (0, 2), (0, 3), (0, 4)] [1, 2, 4, 7, 8, 19, 20, 21, 39]) (.cond (.t 39) (.reg rQjX12 false [] [1, 2, 4, 7, 8, 19, 20, 21]) .skip))))) (.reg rQjX13 false [] [1, 2, 4, 7, 8, 19, 20, 21]))))
def rQjX14 : List O := [
 oo 43 <| .mv (.t 8),
 oo 44 <| .mv (.t 1),
 oo 45 <| .len (.t 44),
 oo 46 <| .max [(.t 45), (ki 1)],
 oo 47 <| .call nQv [(.t 43), (.t 46)],
 oo 48 <| .ext 0 (.t 47),
 oo 49 <| .ext 1 (.t 47),
 oz <| .st 2 (.t 4) (.t 48),
 oo 5 <| .mv (.t 49)]
def cQj : C := (.seq (.reg rQjX0 false [] [1, 2, 4]) (.seq (.seq (.reg rQjX1 false [] [1, 2, 4, 6]) (.seq (.reg rQjX2 false [] [1, 2, 4, 6, 14]) (.cond (.t 14) (.seq (.reg rQjX3 false [] [4, 5]) .ret) .skip))) (.seq (.reg rQjX4 false [] [1, 2, 4, 7]) (.seq (.reg rQjX5 false [] [1, 2, 4, 7, 8]) (.seq (.seq (.reg rQjX6 false [] [1, 2, 4, 7, 8, 19, 20, 21]) (.blk 0 (.loop lQjX0))) (.seq (.reg rQjX14 false [] [4, 5]) .ret))))))
def qQj : AFn := ⟨50, 2, [.c 4 (some 2), .t 5], cQj⟩
/- cohesion/cohesionref29.Whole -/
def rQkX0 : List O := [
 oo 1 <| .box (.t 0),
 oo 2 <| .new [(.int .i64 0), (.int .i64 0)],
 oo 3 <| .mv (ki 0)]
def rQkX1 : List O := [
 oo 9 <| .ld (some 2) (.t 1),
 oo 10 <| .call nQw [(.t 9)],
 oo 8 <| .mv (.t 10),
 oo 11 <| .ext 0 (.t 8),
 oo 12 <| .ext 1 (.t 8),
 oo 4 <| .mv (.t 11),
 oo 5 <| .mv (.t 12)]
def rQkX2 : List O := [
 oo 13 <| .mv (.t 5),
 oo 14 <| .bin .neq (.t 13) (ki 0)]
def rQkX3 : List O := [
 oo 15 <| .build [(.int .i64 0), (.int .i64 0)] [],
 oo 16 <| .mv (.t 5),
 oz <| .st 2 (.t 2) (.t 15),
 oo 3 <| .mv (.t 16)]
def rQkX4 : List O := [
 oo 6 <| .mv (ki 0)]
def rQkX5 : List O := [
 oo 7 <| .mv (ki 0)]
def rQkX6 : List O := [
 oo 17 <| .mv (.t 7),
 oo 18 <| .fad 0 (.t 1),
 oo 19 <| .ld none (.t 18),
 oo 20 <| .bin .lss (.t 17) (.t 19)]
def rQkX7 : List O := [
 oo 23 <| .mv (.t 6),
 oo 24 <| .ld (some 2) (.t 1),
 oo 25 <| .mv (.t 7),
 oo 26 <| .call nQx [(.t 24), (.t 25)],
 oo 27 <| .bin .add (.t 23) (.t 26),
 oo 6 <| .mv (.t 27)]
def rQkX8 : List O := [
 oo 21 <| .mv (.t 7),
 oo 22 <| .bin .add (.t 21) (ki 1),
 oo 7 <| .mv (.t 22)]
def lQkX0 : C := (.seq (.seq (.reg rQkX6 false [] [1, 2, 4, 6, 7, 20]) (.cond (.t 20) .skip (.exit 0))) (.seq (.blk 1 (.reg rQkX7 false [] [1, 2, 4, 6, 7])) (.reg rQkX8 false [] [1, 2, 4, 6, 7])))
def rQkX9 : List O := [
 oo 28 <| .mv (.t 4),
 oo 29 <| .bin .mul (ki 3) (.t 28),
 oo 30 <| .mv (.t 6),
 oo 31 <| .call nQy [(.t 29), (.t 30)],
 oz <| .st 2 (.t 2) (.t 31),
 oo 3 <| .mv (ki 0)]
def cQk : C := (.seq (.reg rQkX0 false [] [1, 2]) (.seq (.reg rQkX1 false [] [1, 2, 4, 5]) (.seq (.seq (.reg rQkX2 false [] [1, 2, 4, 5, 14]) (.cond (.t 14) (.seq (.reg rQkX3 false [] [2, 3]) .ret) .skip)) (.seq (.reg rQkX4 false [] [1, 2, 4, 6]) (.seq (.seq (.reg rQkX5 false [] [1, 2, 4, 6, 7]) (.blk 0 (.loop lQkX0))) (.seq (.reg rQkX9 false [] [2, 3]) .ret))))))
def qQk : AFn := ⟨32, 1, [.c 2 (some 2), .t 3], cQk⟩
/- cohesion/sample.Reservoir -/
def rQlX0 : List O := [
 oo 6 <| .mv (.k (.own 1 [])),
 oo 7 <| .mv (ki 0)]
def rQlX1 : List O := [
 oo 11 <| .mv (.t 0),
 oo 12 <| .bin .lss (.t 11) (ki 0),
 oo 13 <| .mv (.t 12),
 ⟨(some 14), (some (13, false)), .mv (.t 0)⟩,
 ⟨(some 15), (some (13, false)), .bin .gtr (.t 14) (ki 4096)⟩,
 oo 16 <| .pick (.t 13) (.k (.bool true)) (.t 15),
 oo 17 <| .mv (.t 16),
 ⟨(some 18), (some (17, false)), .mv (.t 1)⟩,
 ⟨(some 19), (some (17, false)), .bin .lss (.t 18) (ki 1)⟩,
 oo 20 <| .pick (.t 17) (.k (.bool true)) (.t 19),
 oo 21 <| .mv (.t 20),
 ⟨(some 22), (some (21, false)), .mv (.t 1)⟩,
 ⟨(some 23), (some (21, false)), .bin .gtr (.t 22) (ki 4096)⟩,
 oo 24 <| .pick (.t 21) (.k (.bool true)) (.t 23)]
def rQlX2 : List O := [
 oo 6 <| .mv (.k (.own 1 [])),
 oo 7 <| .mv (ki 1)]
def rQlX3 : List O := [
 oo 25 <| .mv (.t 2),
 oo 26 <| .len (.t 25),
 oo 27 <| .mv (.t 0),
 oo 28 <| .mv (.t 1),
 oo 29 <| .bin .sub (.t 27) (.t 28),
 oo 30 <| .max [(.t 29), (ki 0)],
 oo 31 <| .bin .neq (.t 26) (.t 30)]
def rQlX4 : List O := [
 oo 6 <| .mv (.k (.own 1 [])),
 oo 7 <| .mv (ki 4)]
def rQlX5 : List O := [
 oo 8 <| .mv (.k (.own 1 []))]
def rQlX6 : List O := [
 oo 32 <| .mv (.t 0),
 oo 33 <| .mv (ki 0)]
def rQlX7 : List O := [
 oo 34 <| .bin .lss (.t 33) (.t 32)]
def rQlX8 : List O := [
 oo 35 <| .mv (.t 33),
 oo 9 <| .mv (.t 35)]
def rQlX9 : List O := [
 oo 36 <| .mv (.t 9),
 oo 37 <| .mv (.t 1),
 oo 38 <| .bin .lss (.t 36) (.t 37)]
def rQlX10 : List O := [
 oo 39 <| .mv (.t 8),
 oo 40 <| .mv (.t 9),
 oo 41 <| .bslice 1 1 [(.int .i64 0)] [(0, 1, (.t 40))],
 oo 42 <| .app 1 (.t 39) (.t 41),
 oo 8 <| .mv (.t 42)]
def rQlX11 : List O := [
 oo 43 <| .mv (.t 2),
 oo 44 <| .mv (.t 9),
 oo 45 <| .mv (.t 1),
 oo 46 <| .bin .sub (.t 44) (.t 45),
 oo 47 <| .ixa 1 (.t 43) (.t 46),
 oo 48 <| .ld none (.t 47),
 oo 10 <| .mv (.t 48)]
def rQlX12 : List O := [
 oo 49 <| .mv (.t 10),
 oo 50 <| .bin .lss (.t 49) (ki 0),
 oo 51 <| .mv (.t 50),
 ⟨(some 52), (some (51, false)), .mv (.t 10)⟩,
 ⟨(some 53), (some (51, false)), .mv (.t 9)⟩,
 ⟨(some 54), (some (51, false)), .bin .gtr (.t 52) (.t 53)⟩,
 oo 55 <| .pick (.t 51) (.k (.bool true)) (.t 54)]
def rQlX13 : List O := [
 oo 6 <| .mv (.k (.own 1 [])),
 oo 7 <| .mv (ki 1)]
def rQlX14 : List O := [
 oo 56 <| .mv (.t 10),
 oo 57 <| .mv (.t 1),
 oo 58 <| .bin .lss (.t 56) (.t 57)]
def rQlX15 : List O := [
 oo 59 <| .mv (.t 8),
 oo 60 <| .mv (.t 10),
 oo 61 <| .mv (.t 9),
 oo 62 <| .ixa 1 (.t 59) (.t 60),
 oz <| .st 1 (.t 62) (.t 61)]
def rQlX16 : List O := [
 oo 63 <| .bin .add (.t 33) (ki 1),
 oo 33 <| .mv (.t 63)]
def lQlX0 : C := (.seq (.reg rQlX7 false [] [1, 2, 8, 32, 33, 34]) (.seq (.cond (.t 34) .skip (.exit 0)) (.seq (.blk 1 (.seq (.reg rQlX8 false [] [1, 2, 8, 9, 32, 33]) (.seq (.seq (.reg rQlX9 false [] [1, 2, 8, 9, 32, 33, 38]) (.cond (.t 38) (.seq (.reg rQlX10 false [] [1, 2, 8, 32, 33]) (.exit 1)) .skip)) (.seq (.reg rQlX11 false [] [1, 2, 8, 9, 10, 32, 33]) (.seq (.seq (.reg rQlX12 false [] [1, 2, 8, 9, 10, 32, 33, 55]) (.cond (.t 55) (.seq (.reg rQlX13 false [] [6, 7]) .ret) .skip)) (.seq (.reg rQlX14 false [] [1, 2, 8, 9, 10, 32, 33, 58]) (.cond (.t 58) (.reg rQlX15 false [] [1, 2, 8, 32, 33]) .skip))))))) (.reg rQlX16 false [] [1, 2, 8, 32, 33]))))
def rQlX17 : List O := [
 oo 64 <| .mv (.t 8),
 oo 65 <| .call nQz [(.t 64)]]
def rQlX18 : List O := [
 oo 66 <| .mv (.t 8),
 oo 6 <| .mv (.t 66),
 oo 7 <| .mv (ki 0)]
def cQl : C := (.seq (.reg rQlX0 false [] [0, 1, 2]) (.seq (.seq (.reg rQlX1 false [] [0, 1, 2, 24]) (.cond (.t 24) (.seq (.reg rQlX2 false [] [6, 7]) .ret) .skip)) (.seq (.seq (.reg rQlX3 false [] [0, 1, 2, 31]) (.cond (.t 31) (.seq (.reg rQlX4 false [] [6, 7]) .ret) .skip)) (.seq (.reg rQlX5 false [] [0, 1, 2, 8]) (.seq (.seq (.reg rQlX6 false [] [1, 2, 8, 32, 33]) (.blk 0 (.loop lQlX0))) (.seq (.reg rQlX17 false [] [8]) (.seq (.reg rQlX18 false [] [6, 7]) .ret)))))))
def qQl : AFn := ⟨67, 3, [.t 6, .t 7], cQl⟩
/- cohesion/sample.ByColours -/
def rQmX0 : List O := [
 oo 3 <| .box (.t 0),
 oo 6 <| .mv (ki 0),
 oo 7 <| .mv (ki 0)]
def rQmX1 : List O := [
 oo 12 <| .ld (some 2) (.t 3),
 oo 13 <| .mv (.t 1),
 oo 14 <| .mv (.t 2),
 oo 15 <| .call nQA [(.t 12), (.t 13), (.t 14)],
 oo 11 <| .mv (.t 15),
 oo 16 <| .ext 0 (.t 11),
 oo 17 <| .ext 1 (.t 11),
 oo 8 <| .new [(.int .i64 0), (.own 2 [])],
 oz <| .st 2 (.t 8) (.t 16),
 oo 9 <| .mv (.t 17)]
def rQmX2 : List O := [
 oo 18 <| .mv (.t 9),
 oo 19 <| .bin .neq (.t 18) (ki 0)]
def rQmX3 : List O := [
 oo 20 <| .mv (.t 9),
 oo 6 <| .mv (ki 0),
 oo 7 <| .mv (.t 20)]
def rQmX4 : List O := [
 oo 22 <| .ld (some 2) (.t 8),
 oo 23 <| .call nQB [(.t 22)],
 oo 21 <| .mv (.t 23),
 oo 24 <| .ext 0 (.t 21),
 oo 25 <| .ext 1 (.t 21),
 oo 10 <| .mv (.t 24),
 oo 9 <| .mv (.t 25)]
def rQmX5 : List O := [
 oo 26 <| .mv (.t 2),
 oo 27 <| .mv (.t 2),
 oo 28 <| .bin .mul (.t 26) (.t 27),
 oo 29 <| .mv (.t 10),
 oo 30 <| .bin .mul (.t 28) (.t 29),
 oo 31 <| .mv (.t 9),
 oo 6 <| .mv (.t 30),
 oo 7 <| .mv (.t 31)]
def cQm : C := (.seq (.reg rQmX0 false [] [1, 2, 3]) (.seq (.reg rQmX1 false [] [2, 8, 9]) (.seq (.seq (.reg rQmX2 false [] [2, 8, 9, 19]) (.cond (.t 19) (.seq (.reg rQmX3 false [] [6, 7]) .ret) .skip)) (.seq (.reg rQmX4 false [] [2, 9, 10]) (.seq (.reg rQmX5 false [] [6, 7]) .ret)))))
def qQm : AFn := ⟨32, 3, [.t 6, .t 7], cQm⟩
/- (*cohesion/cohesionmake.Deck).Next -/
def rQnX0 : List O := [
 oo 4 <| .mv (ki 0)]
def rQnX1 : List O := [
 oo 6 <| .mv (.t 1),
 oo 7 <| .bin .lss (.t 6) (ki 1),
 oo 8 <| .mv (.t 7),
 ⟨(some 9), (some (8, false)), .mv (.t 0)⟩,
 ⟨(some 10), (some (8, false)), .nilck (.t 9)⟩,
 ⟨(some 11), (some (8, false)), .fad 1 (.t 10)⟩,
 ⟨(some 12), (some (8, false)), .ld none (.t 11)⟩,
 ⟨(some 13), (some (8, false)), .mv (.t 0)⟩,
 ⟨(some 14), (some (8, false)), .nilck (.t 13)⟩,
 ⟨(some 15), (some (8, false)), .fad 0 (.t 14)⟩,
 ⟨(some 16), (some (8, false)), .ld none (.t 15)⟩,
 ⟨(some 17), (some (8, false)), .len (.t 16)⟩,
 ⟨(some 18), (some (8, false)), .bin .geq (.t 12) (.t 17)⟩,
 oo 19 <| .pick (.t 8) (.k (.bool true)) (.t 18)]
def rQnX2 : List O := [
 oo 4 <| .mv (ki 0)]
def rQnX3 : List O := [
 oo 20 <| .mv (.t 0),
 oo 21 <| .nilck (.t 20),
 oo 22 <| .fad 0 (.t 21),
 oo 23 <| .ld none (.t 22),
 oo 24 <| .mv (.t 0),
 oo 25 <| .nilck (.t 24),
 oo 26 <| .fad 1 (.t 25),
 oo 27 <| .ld none (.t 26),
 oo 28 <| .ixa 1 (.t 23) (.t 27),
 oo 29 <| .ld none (.t 28),
 oo 5 <| .mv (.t 29)]
def rQnX4 : List O := [
 oo 30 <| .mv (.t 0),
 oo 31 <| .nilck (.t 30),
 oo 32 <| .fad 1 (.t 31),
 oo 33 <| .ld none (.t 32),
 oo 34 <| .bin .add (.t 33) (ki 1),
 oo 35 <| .nilck (.t 30),
 oo 36 <| .fad 1 (.t 35),
 oz <| .st 1 (.t 36) (.t 34)]
def rQnX5 : List O := [
 oo 37 <| .mv (.t 5),
 oo 38 <| .mv (.t 1),
 oo 39 <| .call nQC [(.t 37), (.t 38)],
 oo 4 <| .mv (.t 39)]
def cQn : C := (.seq (.reg rQnX0 false [] [0, 1]) (.seq (.seq (.reg rQnX1 true [(0, 0), (1, 1), (2, 2), (12, 12), (13, 13), (6, 7), (6, 8), (6, 9), (3, 10), (4, 10), (5, 10), (6, 10), (6, 11)] [0, 1, 19]) (.cond (.t 19) (.seq (.reg rQnX2 false [] [4]) .ret) .skip)) (.seq (.reg rQnX3 true [(8, 8), (9, 9), (10, 10), (3, 4), (3, 5), (3, 6), (0, 7), (1, 7), (2, 7), (3, 7)] [0, 1, 5]) (.seq (.reg rQnX4 false [] [1, 5]) (.seq (.reg rQnX5 false [] [4]) .ret)))))
def qQn : AFn := ⟨40, 2, [.t 4], cQn⟩
/- cohesion/cohesionref03.Check -/
def rQoX0 : List O := [
 oo 1 <| .box (.t 0),
 oo 2 <| .mv (ki 0)]
def rQoX1 : List O := [
 oo 5 <| .fad 0 (.t 1),
 oo 6 <| .ld none (.t 5),
 oo 7 <| .bin .lss (.t 6) (ki 0),
 oo 8 <| .mv (.t 7),
 ⟨(some 9), (some (8, false)), .fad 0 (.t 1)⟩,
 ⟨(some 10), (some (8, false)), .ld none (.t 9)⟩,
 ⟨(some 11), (some (8, false)), .bin .gtr (.t 10) (ki 64)⟩,
 oo 12 <| .pick (.t 8) (.k (.bool true)) (.t 11)]
def rQoX2 : List O := [
 oo 2 <| .mv (ki 1)]
def rQoX3 : List O := [
 oo 13 <| .fad 1 (.t 1),
 oo 14 <| .ld none (.t 13),
 oo 15 <| .len (.t 14),
 oo 16 <| .mv (ki 0)]
def rQoX4 : List O := [
 oo 17 <| .bin .lss (.t 16) (.t 15)]
def rQoX5 : List O := [
 oo 18 <| .mv (.t 16),
 oo 19 <| .ixa 2 (.t 14) (.t 16),
 oo 20 <| .ld (some 2) (.t 19),
 oo 4 <| .new [(.int .i64 0), (.int .i64 0)],
 oo 3 <| .mv (.t 18),
 oz <| .st 2 (.t 4) (.t 20)]
def rQoX6 : List O := [
 oo 21 <| .fad 0 (.t 4),
 oo 22 <| .ld none (.t 21),
 oo 23 <| .bin .lss (.t 22) (ki 0),
 oo 24 <| .mv (.t 23),
 ⟨(some 25), (some (24, false)), .fad 0 (.t 4)⟩,
 ⟨(some 26), (some (24, false)), .ld none (.t 25)⟩,
 ⟨(some 27), (some (24, false)), .fad 1 (.t 4)⟩,
 ⟨(some 28), (some (24, false)), .ld none (.t 27)⟩,
 ⟨(some 29), (some (24, false)), .bin .geq (.t 26) (.t 28)⟩,
 oo 30 <| .pick (.t 24) (.k (.bool true)) (.t 29),
 oo 31 <| .mv (.t 30),
 ⟨(some 32), (some (31, false)), .fad 1 (.t 4)⟩,
 ⟨(some 33), (some (31, false)), .ld none (.t 32)⟩,
 ⟨(some 34), (some (31, false)), .fad 0 (.t 1)⟩,
 ⟨(some 35), (some (31, false)), .ld none (.t 34)⟩,
 ⟨(some 36), (some (31, false)), .bin .geq (.t 33) (.t 35)⟩,
 oo 37 <| .pick (.t 31) (.k (.bool true)) (.t 36)]
def rQoX7 : List O := [
 oo 2 <| .mv (ki 6)]
def rQoX8 : List O := [
 oo 38 <| .mv (.t 3),
 oo 39 <| .bin .gtr (.t 38) (ki 0),
 oo 40 <| .mv (.t 39),
 ⟨(some 41), (some (40, true)), .fad 1 (.t 1)⟩,
 ⟨(some 42), (some (40, true)), .ld none (.t 41)⟩,
 ⟨(some 43), (some (40, true)), .mv (.t 3)⟩,
 ⟨(some 44), (some (40, true)), .bin .sub (.t 43) (ki 1)⟩,
 ⟨(some 45), (some (40, true)), .ixa 2 (.t 42) (.t 44)⟩,
 ⟨(some 46), (some (40, true)), .ld (some 2) (.t 45)⟩,
 ⟨(some 47), (some (40, true)), .ld (some 2) (.t 4)⟩,
 ⟨(some 48), (some (40, true)), .call nQD [(.t 46), (.t 47)]⟩,
 ⟨(some 49), (some (40, true)), .un .not (.t 48)⟩,
 oo 50 <| .pick (.t 40) (.t 49) (.k (.bool false))]
def rQoX9 : List O := [
 oo 2 <| .mv (ki 5)]
def rQoX10 : List O := [
 oo 51 <| .bin .add (.t 16) (ki 1),
 oo 16 <| .mv (.t 51)]
def lQoX0 : C := (.seq (.reg rQoX4 false [] [1, 14, 15, 16, 17]) (.seq (.cond (.t 17) .skip (.exit 0)) (.seq (.blk 1 (.seq (.reg rQoX5 false [] [1, 3, 4, 14, 15, 16]) (.seq (.seq (.reg rQoX6 false [] [1, 3, 4, 14, 15, 16, 37]) (.cond (.t 37) (.seq (.reg rQoX7 false [] [2]) .ret) .skip)) (.seq (.reg rQoX8 true [(0, 0), (1, 1), (2, 2), (10, 10), (11, 11), (12, 12), (4, 5), (4, 6), (3, 9), (4, 9), (5, 9), (6, 9), (7, 9), (8, 9)] [1, 14, 15, 16, 50]) (.cond (.t 50) (.seq (.reg rQoX9 false [] [2]) .ret) .skip))))) (.reg rQoX10 false [] [1, 14, 15, 16]))))
def rQoX11 : List O := [
 oo 2 <| .mv (ki 0)]
def cQo : C := (.seq (.reg rQoX0 false [] [1]) (.seq (.seq (.reg rQoX1 false [] [1, 12]) (.cond (.t 12) (.seq (.reg rQoX2 false [] [2]) .ret) .skip)) (.seq (.seq (.reg rQoX3 false [] [1, 14, 15, 16]) (.blk 0 (.loop lQoX0))) (.seq (.reg rQoX11 false [] [2]) .ret))))
def qQo : AFn := ⟨52, 1, [.t 2], cQo⟩
/- cohesion/cohesionref03.Degree -/
def rQpX0 : List O := [
 oo 2 <| .box (.t 0),
 oo 4 <| .mv (ki 0)]
def rQpX1 : List O := [
 oo 5 <| .ld (some 2) (.t 2),
 oo 6 <| .mv (.t 1),
 oo 7 <| .call nQE [(.t 5), (.t 6)],
 oo 8 <| .len (.t 7),
 oo 4 <| .mv (.t 8)]
def cQp : C := (.seq (.reg rQpX0 false [] [1, 2]) (.seq (.reg rQpX1 false [] [4]) .ret))
def qQp : AFn := ⟨9, 2, [.t 4], cQp⟩
/- cohesion/graph.Check -/
def rQqX0 : List O := [
 oo 1 <| .box (.t 0),
 oo 2 <| .mv (ki 0)]
def rQqX1 : List O := [
 oo 5 <| .fad 0 (.t 1),
 oo 6 <| .ld none (.t 5),
 oo 7 <| .bin .lss (.t 6) (ki 0),
 oo 8 <| .mv (.t 7),
 ⟨(some 9), (some (8, false)), .fad 0 (.t 1)⟩,
 ⟨(some 10), (some (8, false)), .ld none (.t 9)⟩,
 ⟨(some 11), (some (8, false)), .bin .gtr (.t 10) (ki 64)⟩,
 oo 12 <| .pick (.t 8) (.k (.bool true)) (.t 11)]
def rQqX2 : List O := [
 oo 2 <| .mv (ki 1)]
def rQqX3 : List O := [
 oo 13 <| .fad 1 (.t 1),
 oo 14 <| .ld none (.t 13),
 oo 15 <| .len (.t 14),
 oo 16 <| .mv (ki 0)]
def rQqX4 : List O := [
 oo 17 <| .bin .lss (.t 16) (.t 15)]
def rQqX5 : List O := [
 oo 18 <| .mv (.t 16),
 oo 19 <| .ixa 2 (.t 14) (.t 16),
 oo 20 <| .ld (some 2) (.t 19),
 oo 4 <| .new [(.int .i64 0), (.int .i64 0)],
 oo 3 <| .mv (.t 18),
 oz <| .st 2 (.t 4) (.t 20)]
def rQqX6 : List O := [
 oo 22 <| .fad 0 (.t 4),
 oo 23 <| .ld none (.t 22),
 oo 24 <| .bin .lss (.t 23) (ki 0),
 oo 25 <| .mv (.t 24),
 ⟨(some 26), (some (25, false)), .fad 0 (.t 4)⟩,
 ⟨(some 27), (some (25, false)), .ld none (.t 26)⟩,
 ⟨(some 28), (some (25, false)), .fad 1 (.t 4)⟩,
 ⟨(some 29), (some (25, false)), .ld none (.t 28)⟩,
 ⟨(some 30), (some (25, false)), .bin .geq (.t 27) (.t 29)⟩,
 oo 31 <| .pick (.t 25) (.k (.bool true)) (.t 30),
 oo 32 <| .mv (.t 31),
 ⟨(some 33), (some (32, false)), .fad 1 (.t 4)⟩,
 ⟨(some 34), (some (32, false)), .ld none (.t 33)⟩,
 ⟨(some 35), (some (32, false)), .fad 0 (.t 1)⟩,
 ⟨(some 36), (some (32, false)), .ld none (.t 35)⟩,
 ⟨(some 37), (some (32, false)), .bin .geq (.t 34) (.t 36)⟩,
 oo 38 <| .pick (.t 32) (.k (.bool true)) (.t 37),
 oo 21 <| .mv (.t 38)]
def rQqX7 : List O := [
 oo 2 <| .mv (ki 6)]
def rQqX8 : List O := [
 oo 40 <| .mv (.t 3),
 oo 41 <| .bin .gtr (.t 40) (ki 0),
 oo 42 <| .mv (.t 41),
 ⟨(some 43), (some (42, true)), .fad 1 (.t 1)⟩,
 ⟨(some 44), (some (42, true)), .ld none (.t 43)⟩,
 ⟨(some 45), (some (42, true)), .mv (.t 3)⟩,
 ⟨(some 46), (some (42, true)), .bin .sub (.t 45) (ki 1)⟩,
 ⟨(some 47), (some (42, true)), .ixa 2 (.t 44) (.t 46)⟩,
 ⟨(some 48), (some (42, true)), .ld (some 2) (.t 47)⟩,
 ⟨(some 49), (some (42, true)), .ld (some 2) (.t 4)⟩,
 ⟨(some 50), (some (42, true)), .call nQF [(.t 48), (.t 49)]⟩,
 ⟨(some 51), (some (42, true)), .bin .geq (.t 50) (ki 0)⟩,
 oo 52 <| .pick (.t 42) (.t 51) (.k (.bool false)),
 oo 39 <| .mv (.t 52)]
def rQqX9 : List O := [
 oo 2 <| .mv (ki 5)]
def rQqX10 : List O := [
 oo 53 <| .bin .add (.t 16) (ki 1),
 oo 16 <| .mv (.t 53)]
def lQqX0 : C := (.seq (.reg rQqX4 false [] [1, 14, 15, 16, 17]) (.seq (.cond (.t 17) .skip (.exit 0)) (.seq (.blk 1 (.seq (.reg rQqX5 false [] [1, 3, 4, 14, 15, 16]) (.blk 2 (.seq (.reg rQqX6 false [] [1, 3, 4, 14, 15, 16, 21]) (.cond (.t 21) (.seq (.reg rQqX7 false [] [2]) .ret) (.seq (.reg rQqX8 true [(0, 0), (1, 1), (2, 2), (10, 10), (11, 11), (12, 12), (13, 13), (4, 5), (4, 6), (3, 9), (4, 9), (5, 9), (6, 9), (7, 9), (8, 9)] [1, 14, 15, 16, 39]) (.cond (.t 39) (.seq (.reg rQqX9 false [] [2]) .ret) .skip))))))) (.reg rQqX10 false [] [1, 14, 15, 16]))))
def rQqX11 : List O := [
 oo 2 <| .mv (ki 0)]
def cQq : C := (.seq (.reg rQqX0 false [] [1]) (.seq (.seq (.reg rQqX1 false [] [1, 12]) (.cond (.t 12) (.seq (.reg rQqX2 false [] [2]) .ret) .skip)) (.seq (.seq (.reg rQqX3 false [] [1, 14, 15, 16]) (.blk 0 (.loop lQqX0))) (.seq (.reg rQqX11 false [] [2]) .ret))))
def qQq : AFn := ⟨54, 1, [.t 2], cQq⟩
/- cohesion/sample.wedges -/
def rQrX0 : List O := [
 oo 1 <| .box (.t 0),
 oo 2 <| .mv (.k (.own 3 []))]
def rQrX1 : List O := [
 oo 3 <| .mv (.k (.own 3 []))]
def rQrX2 : List O := [
 oo 10 <| .fad 0 (.t 1),
 oo 11 <| .ld none (.t 10),
 oo 12 <| .mv (ki 0)]
def rQrX3 : List O := [
 oo 13 <| .bin .lss (.t 12) (.t 11)]
def rQrX4 : List O := [
 oo 14 <| .mv (.t 12),
 oo 4 <| .mv (.t 14)]
def rQrX5 : List O := [
 oo 15 <| .ld (some 2) (.t 1),
 oo 16 <| .mv (.t 4),
 oo 17 <| .call nQG [(.t 15), (.t 16)],
 oo 5 <| .mv (.t 17)]
def rQrX6 : List O := [
 oo 18 <| .mv (.t 5),
 oo 19 <| .len (.t 18),
 oo 20 <| .mv (ki 0)]
def rQrX7 : List O := [
 oo 21 <| .bin .lss (.t 20) (.t 19)]
def rQrX8 : List O := [
 oo 22 <| .mv (.t 20),
 oo 23 <| .ixa 1 (.t 18) (.t 20),
 oo 24 <| .ld none (.t 23),
 oo 6 <| .mv (.t 22),
 oo 7 <| .mv (.t 24)]
def rQrX9 : List O := [
 oo 25 <| .mv (.t 5),
 oo 26 <| .mv (.t 6),
 oo 27 <| .bin .add (.t 26) (ki 1),
 oo 28 <| .slc 1 (.t 25) (some (.t 27)) none,
 oo 29 <| .len (.t 28),
 oo 30 <| .mv (ki 0)]
def rQrX10 : List O := [
 oo 31 <| .bin .lss (.t 30) (.t 29)]
def rQrX11 : List O := [
 oo 32 <| .ixa 1 (.t 28) (.t 30),
 oo 33 <| .ld none (.t 32),
 oo 9 <| .mv (.t 33)]
def rQrX12 : List O := [
 oo 34 <| .mv (.t 3),
 oo 35 <| .mv (.t 7),
 oo 36 <| .mv (.t 4),
 oo 37 <| .mv (.t 9),
 oo 38 <| .build [(.int .i64 0), (.int .i64 0), (.int .i64 0)] [(0, 1, (.t 35)), (1, 1, (.t 36)), (2, 1, (.t 37))],
 oo 39 <| .bslice 3 1 [(.int .i64 0), (.int .i64 0), (.int .i64 0)] [(0, 3, (.t 38))],
 oo 40 <| .app 3 (.t 34) (.t 39),
 oo 3 <| .mv (.t 40)]
def rQrX13 : List O := [
 oo 41 <| .bin .add (.t 30) (ki 1),
 oo 30 <| .mv (.t 41)]
def lQrX0 : C := (.seq (.reg rQrX10 false [] [1, 3, 4, 5, 7, 11, 12, 18, 19, 20, 28, 29, 30, 31]) (.seq (.cond (.t 31) .skip (.exit 4)) (.seq (.blk 5 (.seq (.reg rQrX11 false [] [1, 3, 4, 5, 7, 9, 11, 12, 18, 19, 20, 28, 29, 30]) (.reg rQrX12 false [] [1, 3, 4, 5, 7, 11, 12, 18, 19, 20, 28, 29, 30]))) (.reg rQrX13 false [] [1, 3, 4, 5, 7, 11, 12, 18, 19, 20, 28, 29, 30]))))
def rQrX14 : List O := [
 oo 42 <| .bin .add (.t 20) (ki 1),
 oo 20 <| .mv (.t 42)]
def lQrX1 : C := (.seq (.reg rQrX7 false [] [1, 3, 4, 5, 11, 12, 18, 19, 20, 21]) (.seq (.cond (.t 21) .skip (.exit 2)) (.seq (.blk 3 (.seq (.reg rQrX8 false [] [1, 3, 4, 5, 6, 7, 11, 12, 18, 19, 20]) (.seq (.reg rQrX9 false [] [1, 3, 4, 5, 7, 11, 12, 18, 19, 20, 28, 29, 30]) (.blk 4 (.loop lQrX0))))) (.reg rQrX14 false [] [1, 3, 4, 5, 11, 12, 18, 19, 20]))))
def rQrX15 : List O := [
 oo 43 <| .bin .add (.t 12) (ki 1),
 oo 12 <| .mv (.t 43)]
def lQrX2 : C := (.seq (.reg rQrX3 false [] [1, 3, 11, 12, 13]) (.seq (.cond (.t 13) .skip (.exit 0)) (.seq (.blk 1 (.seq (.reg rQrX4 false [] [1, 3, 4, 11, 12]) (.seq (.reg rQrX5 false [] [1, 3, 4, 5, 11, 12]) (.seq (.reg rQrX6 false [] [1, 3, 4, 5, 11, 12, 18, 19, 20]) (.blk 2 (.loop lQrX1)))))) (.reg rQrX15 false [] [1, 3, 11, 12]))))
def rQrX16 : List O := [
 oo 44 <| .mv (.t 3),
 oo 2 <| .mv (.t 44)]
def cQr : C := (.seq (.reg rQrX0 false [] [1]) (.seq (.reg rQrX1 false [] [1, 3]) (.seq (.seq (.reg rQrX2 false [] [1, 3, 11, 12]) (.blk 0 (.loop lQrX2))) (.seq (.reg rQrX16 false [] [2]) .ret))))
def qQr : AFn := ⟨45, 1, [.t 2], cQr⟩
/- slices.Clone[[]int,int] -/
def rQsX0 : List O := [
 oo 2 <| .mv (.k (.own 1 []))]
def rQsX1 : List O := [
 oo 3 <| .mv (.t 0),
 oo 4 <| .eq false .nsl (.t 3) (.k (.own 1 []))]
def rQsX2 : List O := [
 oo 2 <| .mv (.k (.own 1 []))]
def rQsX3 : List O := [
 oo 5 <| .bslice 1 0 [(.int .i64 0)] [],
 oo 6 <| .mv (.t 0),
 oo 7 <| .app 1 (.t 5) (.t 6),
 oo 2 <| .mv (.t 7)]
def cQs : C := (.seq (.reg rQsX0 false [] [0]) (.seq (.seq (.reg rQsX1 false [] [0, 4]) (.cond (.t 4) (.seq (.reg rQsX2 false [] [2]) .ret) .skip)) (.seq (.reg rQsX3 false [] [2]) .ret)))
def qQs : AFn := ⟨8, 1, [.t 2], cQs⟩
/- cohesion/sample.closed -/
def rQtX0 : List O := [
 oo 2 <| .box (.t 0),
 oo 3 <| .box (.t 1),
 oo 4 <| .mv (.k (.bool false))]
def rQtX1 : List O := [
 oo 5 <| .ld (some 2) (.t 2),
 oo 6 <| .ixp 3 1 (.t 3) (ki 0),
 oo 7 <| .ld none (.t 6),
 oo 8 <| .ixp 3 1 (.t 3) (ki 2),
 oo 9 <| .ld none (.t 8),
 oo 10 <| .call nQH [(.t 5), (.t 7), (.t 9)],
 oo 11 <| .bin .geq (.t 10) (ki 0),
 oo 4 <| .mv (.t 11)]
def cQt : C := (.seq (.reg rQtX0 false [] [2, 3]) (.seq (.reg rQtX1 false [] [4]) .ret))
def qQt : AFn := ⟨12, 2, [.t 4], cQt⟩
/- cohesion/cohesionref03.edge -/
def rQuX0 : List O := [
 oo 4 <| .new [(.int .i64 0), (.int .i64 0)]]
def rQuX1 : List O := [
 oo 5 <| .mv (.t 0),
 oo 6 <| .mv (.t 1),
 oo 7 <| .min [(.t 5), (.t 6)],
 oo 8 <| .mv (.t 0),
 oo 9 <| .mv (.t 1),
 oo 10 <| .max [(.t 8), (.t 9)],
 oo 11 <| .build [(.int .i64 0), (.int .i64 0)] [(0, 1, (.t 7)), (1, 1, (.t 10))],
 oz <| .st 2 (.t 4) (.t 11)]
def cQu : C := (.seq (.reg rQuX0 false [] [0, 1, 4]) (.seq (.reg rQuX1 false [] [4]) .ret))
def qQu : AFn := ⟨12, 2, [.c 4 (some 2)], cQu⟩
/- cohesion/ratio.Make -/
def rQvX0 : List O := [
 oo 4 <| .new [(.int .i64 0), (.int .i64 0)],
 oo 5 <| .mv (ki 0)]
def rQvX1 : List O := [
 oo 7 <| .mv (.t 1),
 oo 8 <| .bin .eql (.t 7) (ki 0),
 oo 6 <| .mv (.t 8)]
def rQvX2 : List O := [
 oo 9 <| .build [(.int .i64 0), (.int .i64 0)] [],
 oz <| .st 2 (.t 4) (.t 9),
 oo 5 <| .mv (ki 2)]
def rQvX3 : List O := [
 oo 11 <| .mv (.t 0),
 oo 12 <| .call nQI [(.t 11), (ki 4611686018427387904)],
 oo 13 <| .mv (.t 12),
 ⟨(some 14), (some (13, true)), .mv (.t 1)⟩,
 ⟨(some 15), (some (13, true)), .call nQI [(.t 14), (ki 4611686018427387904)]⟩,
 oo 16 <| .pick (.t 13) (.t 15) (.k (.bool false)),
 oo 10 <| .mv (.t 16)]
def rQvX4 : List O := [
 oo 17 <| .mv (.t 0),
 oo 18 <| .mv (.t 1),
 oo 19 <| .call nQJ [(.t 17), (.t 18)],
 oo 20 <| .ext 0 (.t 19),
 oo 21 <| .ext 1 (.t 19),
 oz <| .st 2 (.t 4) (.t 20),
 oo 5 <| .mv (.t 21)]
def rQvX5 : List O := [
 oo 22 <| .mv (.t 0),
 oo 23 <| .call nQL [(.t 22)],
 oo 24 <| .mv (.t 1),
 oo 25 <| .call nQL [(.t 24)],
 oo 26 <| .call nQK [(.t 23), (.t 25)],
 oo 27 <| .ext 0 (.t 26),
 oo 28 <| .ext 1 (.t 26),
 oz <| .st 2 (.t 4) (.t 27),
 oo 5 <| .mv (.t 28)]
def cQv : C := (.seq (.reg rQvX0 false [] [0, 1, 4]) (.seq (.blk 0 (.seq (.reg rQvX1 false [] [0, 1, 4, 6]) (.cond (.t 6) (.seq (.reg rQvX2 false [] [4, 5]) .ret) (.seq (.reg rQvX3 false [] [0, 1, 4, 10]) (.cond (.t 10) (.seq (.reg rQvX4 false [] [4, 5]) .ret) .skip))))) (.seq (.reg rQvX5 false [] [4, 5]) .ret)))
def qQv : AFn := ⟨29, 2, [.c 4 (some 2), .t 5], cQv⟩
/- cohesion/cohesionref29.Count -/
def rQwX0 : List O := [
 oo 1 <| .box (.t 0),
 oo 2 <| .mv (ki 0),
 oo 3 <| .mv (ki 0)]
def rQwX1 : List O := [
 oo 9 <| .ld (some 2) (.t 1),
 oo 10 <| .call nQM [(.t 9)],
 oo 8 <| .mv (.t 10),
 oo 11 <| .ext 0 (.t 8),
 oo 12 <| .ext 1 (.t 8),
 oo 4 <| .mv (.t 11),
 oo 5 <| .mv (.t 12)]
def rQwX2 : List O := [
 oo 6 <| .mv (ki 0)]
def rQwX3 : List O := [
 oo 7 <| .mv (ki 0)]
def rQwX4 : List O := [
 oo 13 <| .mv (.t 7),
 oo 14 <| .mv (.t 4),
 oo 15 <| .len (.t 14),
 oo 16 <| .bin .lss (.t 13) (.t 15)]
def rQwX5 : List O := [
 oo 19 <| .mv (.t 6),
 oo 20 <| .mv (.t 4),
 oo 21 <| .mv (.t 7),
 oo 22 <| .ixa 1 (.t 20) (.t 21),
 oo 23 <| .ld none (.t 22),
 oo 24 <| .bin .add (.t 19) (.t 23),
 oo 6 <| .mv (.t 24)]
def rQwX6 : List O := [
 oo 17 <| .mv (.t 7),
 oo 18 <| .bin .add (.t 17) (ki 1),
 oo 7 <| .mv (.t 18)]
def lQwX0 : C := (.seq (.seq (.reg rQwX4 false [] [4, 5, 6, 7, 16]) (.cond (.t 16) .skip (.exit 0))) (.seq (.blk 1 (.reg rQwX5 false [] [4, 5, 6, 7])) (.reg rQwX6 false [] [4, 5, 6, 7])))
def rQwX7 : List O := [
 oo 25 <| .mv (.t 6),
 oo 26 <| .bin .quo (.t 25) (ki 3),
 oo 27 <| .mv (.t 5),
 oo 2 <| .mv (.t 26),
 oo 3 <| .mv (.t 27)]
def cQw : C := (.seq (.reg rQwX0 false [] [1]) (.seq (.reg rQwX1 false [] [4, 5]) (.seq (.reg rQwX2 false [] [4, 5, 6]) (.seq (.seq (.reg rQwX3 false [] [4, 5, 6, 7]) (.blk 0 (.loop lQwX0))) (.seq (.reg rQwX7 false [] [2, 3]) .ret)))))
def qQw : AFn := ⟨28, 1, [.t 2, .t 3], cQw⟩
/- cohesion/cohesionref29.pairs -/
def rQxX0 : List O := [
 oo 2 <| .box (.t 0),
 oo 4 <| .mv (ki 0)]
def rQxX1 : List O := [
 oo 6 <| .ld (some 2) (.t 2),
 oo 7 <| .mv (.t 1),
 oo 8 <| .call nQp [(.t 6), (.t 7)],
 oo 5 <| .mv (.t 8)]
def rQxX2 : List O := [
 oo 9 <| .mv (.t 5),
 oo 10 <| .mv (.t 5),
 oo 11 <| .bin .sub (.t 10) (ki 1),
 oo 12 <| .bin .mul (.t 9) (.t 11),
 oo 13 <| .bin .quo (.t 12) (ki 2),
 oo 4 <| .mv (.t 13)]
def cQx : C := (.seq (.reg rQxX0 false [] [1, 2]) (.seq (.reg rQxX1 false [] [5]) (.seq (.reg rQxX2 false [] [4]) .ret)))
def qQx : AFn := ⟨14, 2, [.t 4], cQx⟩
/- cohesion/cohesionref29.Share -/
def rQyX0 : List O := [
 oo 4 <| .new [(.int .i64 0), (.int .i64 0)]]
def rQyX1 : List O := [
 oo 5 <| .mv (.t 1),
 oo 6 <| .bin .eql (.t 5) (ki 0)]
def rQyX2 : List O := [
 oo 7 <| .build [(.int .i64 0), (.int .i64 0)] [(0, 1, (ki 0)), (1, 1, (ki 1))],
 oz <| .st 2 (.t 4) (.t 7)]
def rQyX3 : List O := [
 oo 8 <| .mv (.t 0),
 oo 9 <| .mv (.t 1),
 oo 10 <| .call nQN [(.t 8), (.t 9)],
 oz <| .st 2 (.t 4) (.t 10)]
def cQy : C := (.seq (.reg rQyX0 false [] [0, 1, 4]) (.seq (.seq (.reg rQyX1 false [] [0, 1, 4, 6]) (.cond (.t 6) (.seq (.reg rQyX2 false [] [4]) .ret) .skip)) (.seq (.reg rQyX3 false [] [4]) .ret)))
def qQy : AFn := ⟨11, 2, [.c 4 (some 2)], cQy⟩
/- slices.Sort[[]int,int] -/
def rQzX0 : List O := [
 oo 3 <| .mv (.t 0),
 oo 4 <| .len (.t 3),
 oo 2 <| .mv (.t 4)]
def rQzX1 : List O := [
 oo 5 <| .mv (.t 0),
 oo 6 <| .mv (.t 2),
 oo 7 <| .mv (.t 2),
 oo 8 <| .cvt .u64 (.t 7),
 oo 9 <| .call 44 [(.t 8)],
 oo 10 <| .call 43 [(.t 5), (ki 0), (.t 6), (.t 9)]]
def cQz : C := (.seq (.reg rQzX0 false [] [0, 2]) (.reg rQzX1 false [] []))
def qQz : AFn := ⟨11, 1, [], cQz⟩
/- cohesion/sample.Mono -/
def rQAX0 : List O := [
 oo 3 <| .box (.t 0),
 oo 4 <| .box (.t 1),
 oo 5 <| .box (.t 2),
 oo 6 <| .new [(.int .i64 0), (.own 2 [])],
 oo 7 <| .mv (ki 0)]
def rQAX1 : List O := [
 oo 9 <| .ld (some 2) (.t 3),
 oo 10 <| .call nQq [(.t 9)],
 oo 8 <| .mv (.t 10)]
def rQAX2 : List O := [
 oo 11 <| .mv (.t 8),
 oo 12 <| .bin .neq (.t 11) (ki 0)]
def rQAX3 : List O := [
 oo 13 <| .build [(.int .i64 0), (.own 2 [])] [],
 oo 14 <| .mv (.t 8),
 oz <| .st 2 (.t 6) (.t 13),
 oo 7 <| .mv (.t 14)]
def rQAX4 : List O := [
 oo 15 <| .ld none (.t 4),
 oo 16 <| .len (.t 15),
 oo 17 <| .fad 0 (.t 3),
 oo 18 <| .ld none (.t 17),
 oo 19 <| .bin .neq (.t 16) (.t 18)]
def rQAX5 : List O := [
 oo 20 <| .build [(.int .i64 0), (.own 2 [])] [],
 oz <| .st 2 (.t 6) (.t 20),
 oo 7 <| .mv (ki 4)]
def rQAX6 : List O := [
 oo 21 <| .ld none (.t 5),
 oo 22 <| .bin .lss (.t 21) (ki 1),
 oo 23 <| .mv (.t 22),
 ⟨(some 24), (some (23, false)), .ld none (.t 5)⟩,
 ⟨(some 25), (some (23, false)), .bin .gtr (.t 24) (ki 64)⟩,
 oo 26 <| .pick (.t 23) (.k (.bool true)) (.t 25),
 oo 27 <| .mv (.t 26),
 ⟨(some 28), (some (27, false)), .ld none (.t 4)⟩,
 ⟨(some 29), (some (27, false)), .mkf (.func nQP) [] [(.t 5)]⟩,
 ⟨(some 30), (some (27, false)), .call nQO [(.t 28), (.t 29)]⟩,
 oo 31 <| .pick (.t 27) (.k (.bool true)) (.t 30)]
def rQAX7 : List O := [
 oo 32 <| .build [(.int .i64 0), (.own 2 [])] [],
 oz <| .st 2 (.t 6) (.t 32),
 oo 7 <| .mv (ki 1)]
def rQAX8 : List O := [
 oo 33 <| .ld (some 2) (.t 3),
 oo 34 <| .mkf (.func nQR) [] [(.t 4)],
 oo 35 <| .call nQQ [(.t 33), (.t 34)],
 oz <| .st 2 (.t 6) (.t 35),
 oo 7 <| .mv (ki 0)]
def cQA : C := (.seq (.reg rQAX0 false [] [3, 4, 5, 6]) (.seq (.seq (.reg rQAX1 false [] [3, 4, 5, 6, 8]) (.seq (.reg rQAX2 false [] [3, 4, 5, 6, 8, 12]) (.cond (.t 12) (.seq (.reg rQAX3 false [] [6, 7]) .ret) .skip))) (.seq (.seq (.reg rQAX4 false [] [3, 4, 5, 6, 19]) (.cond (.t 19) (.seq (.reg rQAX5 false [] [6, 7]) .ret) .skip)) (.seq (.seq (.reg rQAX6 false [] [3, 4, 6, 31]) (.cond (.t 31) (.seq (.reg rQAX7 false [] [6, 7]) .ret) .skip)) (.seq (.reg rQAX8 false [] [6, 7]) .ret)))))
def qQA : AFn := ⟨36, 3, [.c 6 (some 2), .t 7], cQA⟩
/- cohesion/triangles.Count -/
def rQBX0 : List O := [
 oo 1 <| .box (.t 0),
 oo 2 <| .mv (ki 0),
 oo 3 <| .mv (ki 0)]
def rQBX1 : List O := [
 oo 7 <| .ld (some 2) (.t 1),
 oo 8 <| .call nQq [(.t 7)],
 oo 4 <| .mv (.t 8)]
def rQBX2 : List O := [
 oo 9 <| .mv (.t 4),
 oo 10 <| .bin .neq (.t 9) (ki 0)]
def rQBX3 : List O := [
 oo 11 <| .mv (.t 4),
 oo 2 <| .mv (ki 0),
 oo 3 <| .mv (.t 11)]
def rQBX4 : List O := [
 oo 13 <| .ld (some 2) (.t 1),
 oo 14 <| .call nQS [(.t 13)],
 oo 12 <| .mv (.t 14),
 oo 15 <| .ext 0 (.t 12),
 oo 16 <| .ext 1 (.t 12),
 oo 5 <| .mv (.t 15),
 oo 6 <| .mv (.t 16)]
def rQBX5 : List O := [
 oo 17 <| .mv (.t 5),
 oo 2 <| .mv (.t 17),
 oo 3 <| .mv (ki 0)]
def cQB : C := (.seq (.reg rQBX0 false [] [1]) (.seq (.seq (.reg rQBX1 false [] [1, 4]) (.seq (.reg rQBX2 false [] [1, 4, 10]) (.cond (.t 10) (.seq (.reg rQBX3 false [] [2, 3]) .ret) .skip))) (.seq (.reg rQBX4 false [] [5]) (.seq (.reg rQBX5 false [] [2, 3]) .ret))))
def qQB : AFn := ⟨18, 1, [.t 2, .t 3], cQB⟩
/- cohesion/cohesionmake.Mod -/
def rQCX0 : List O := [
 oo 4 <| .mv (ki 0)]
def rQCX1 : List O := [
 oo 5 <| .mv (.t 0),
 oo 6 <| .mv (.t 1),
 oo 7 <| .bin .rem (.t 5) (.t 6),
 oo 8 <| .mv (.t 1),
 oo 9 <| .bin .add (.t 7) (.t 8),
 oo 10 <| .mv (.t 1),
 oo 11 <| .bin .rem (.t 9) (.t 10),
 oo 4 <| .mv (.t 11)]
def cQC : C := (.seq (.reg rQCX0 false [] [0, 1]) (.seq (.reg rQCX1 false [] [4]) .ret))
def qQC : AFn := ⟨12, 2, [.t 4], cQC⟩
/- cohesion/cohesionref03.Before -/
def rQDX0 : List O := [
 oo 2 <| .box (.t 0),
 oo 3 <| .box (.t 1),
 oo 4 <| .mv (.k (.bool false))]
def rQDX1 : List O := [
 oo 5 <| .fad 0 (.t 2),
 oo 6 <| .ld none (.t 5),
 oo 7 <| .fad 0 (.t 3),
 oo 8 <| .ld none (.t 7),
 oo 9 <| .bin .lss (.t 6) (.t 8),
 oo 10 <| .mv (.t 9),
 ⟨(some 11), (some (10, false)), .fad 0 (.t 2)⟩,
 ⟨(some 12), (some (10, false)), .ld none (.t 11)⟩,
 ⟨(some 13), (some (10, false)), .fad 0 (.t 3)⟩,
 ⟨(some 14), (some (10, false)), .ld none (.t 13)⟩,
 ⟨(some 15), (some (10, false)), .bin .eql (.t 12) (.t 14)⟩,
 ⟨(some 16), (some (10, false)), .mv (.t 15)⟩,
 ⟨(some 17), (some (16, true)), .fad 1 (.t 2)⟩,
 ⟨(some 18), (some (16, true)), .ld none (.t 17)⟩,
 ⟨(some 19), (some (16, true)), .fad 1 (.t 3)⟩,
 ⟨(some 20), (some (16, true)), .ld none (.t 19)⟩,
 ⟨(some 21), (some (16, true)), .bin .lss (.t 18) (.t 20)⟩,
 ⟨(some 22), (some (10, false)), .pick (.t 16) (.t 21) (.k (.bool false))⟩,
 oo 23 <| .pick (.t 10) (.k (.bool true)) (.t 22),
 oo 4 <| .mv (.t 23)]
def cQD : C := (.seq (.reg rQDX0 false [] [2, 3]) (.seq (.reg rQDX1 false [] [4]) .ret))
def qQD : AFn := ⟨24, 2, [.t 4], cQD⟩
/- cohesion/cohesionref03.Neighbours -/
def rQEX0 : List O := [
 oo 2 <| .box (.t 0),
 oo 4 <| .mv (.k (.own 1 []))]
def rQEX1 : List O := [
 oo 8 <| .ld (some 2) (.t 2),
 oo 9 <| .call nQo [(.t 8)],
 oo 10 <| .bin .neq (.t 9) (ki 0)]
def rQEX2 : List O := [
 oo 4 <| .mv (.k (.own 1 []))]
def rQEX3 : List O := [
 oo 5 <| .mv (.k (.own 1 []))]
def rQEX4 : List O := [
 oo 11 <| .fad 1 (.t 2),
 oo 12 <| .ld none (.t 11),
 oo 13 <| .len (.t 12),
 oo 14 <| .mv (ki 0)]
def rQEX5 : List O := [
 oo 15 <| .bin .lss (.t 14) (.t 13)]
def rQEX6 : List O := [
 oo 16 <| .ixa 2 (.t 12) (.t 14),
 oo 17 <| .ld (some 2) (.t 16),
 oo 7 <| .new [(.int .i64 0), (.int .i64 0)],
 oz <| .st 2 (.t 7) (.t 17)]
def rQEX7 : List O := [
 oo 18 <| .fad 0 (.t 7),
 oo 19 <| .ld none (.t 18),
 oo 20 <| .mv (.t 1),
 oo 21 <| .bin .eql (.t 19) (.t 20)]
def rQEX8 : List O := [
 oo 22 <| .mv (.t 5),
 oo 23 <| .fad 1 (.t 7),
 oo 24 <| .ld none (.t 23),
 oo 25 <| .bslice 1 1 [(.int .i64 0)] [(0, 1, (.t 24))],
 oo 26 <| .app 1 (.t 22) (.t 25),
 oo 5 <| .mv (.t 26)]
def rQEX9 : List O := [
 oo 27 <| .fad 1 (.t 7),
 oo 28 <| .ld none (.t 27),
 oo 29 <| .mv (.t 1),
 oo 30 <| .bin .eql (.t 28) (.t 29)]
def rQEX10 : List O := [
 oo 31 <| .mv (.t 5),
 oo 32 <| .fad 0 (.t 7),
 oo 33 <| .ld none (.t 32),
 oo 34 <| .bslice 1 1 [(.int .i64 0)] [(0, 1, (.t 33))],
 oo 35 <| .app 1 (.t 31) (.t 34),
 oo 5 <| .mv (.t 35)]
def rQEX11 : List O := [
 oo 36 <| .bin .add (.t 14) (ki 1),
 oo 14 <| .mv (.t 36)]
def lQEX0 : C := (.seq (.reg rQEX5 false [] [1, 5, 12, 13, 14, 15]) (.seq (.cond (.t 15) .skip (.exit 0)) (.seq (.blk 1 (.seq (.reg rQEX6 false [] [1, 5, 7, 12, 13, 14]) (.seq (.seq (.reg rQEX7 false [] [1, 5, 7, 12, 13, 14, 21]) (.cond (.t 21) (.reg rQEX8 false [] [1, 5, 7, 12, 13, 14]) .skip)) (.seq (.reg rQEX9 false [] [1, 5, 7, 12, 13, 14, 30]) (.cond (.t 30) (.reg rQEX10 false [] [1, 5, 12, 13, 14]) .skip))))) (.reg rQEX11 false [] [1, 5, 12, 13, 14]))))
def rQEX12 : List O := [
 oo 37 <| .mv (.t 5),
 oo 38 <| .call nQT [(.t 37)],
 oo 4 <| .mv (.t 38)]
def cQE : C := (.seq (.reg rQEX0 false [] [1, 2]) (.seq (.seq (.reg rQEX1 false [] [1, 2, 10]) (.cond (.t 10) (.seq (.reg rQEX2 false [] [4]) .ret) .skip)) (.seq (.reg rQEX3 false [] [1, 2, 5]) (.seq (.seq (.reg rQEX4 false [] [1, 5, 12, 13, 14]) (.blk 0 (.loop lQEX0))) (.seq (.reg rQEX12 false [] [4]) .ret)))))
def qQE : AFn := ⟨39, 2, [.t 4], cQE⟩
/- cohesion/graph.Order -/
def rQFX0 : List O := [
 oo 2 <| .box (.t 0),
 oo 3 <| .box (.t 1),
 oo 4 <| .mv (ki 0)]
def rQFX1 : List O := [
 oo 5 <| .fad 0 (.t 2),
 oo 6 <| .ld none (.t 5),
 oo 7 <| .fad 0 (.t 3),
 oo 8 <| .ld none (.t 7),
 oo 9 <| .call nQV [(.t 6), (.t 8)],
 oo 10 <| .fad 1 (.t 2),
 oo 11 <| .ld none (.t 10),
 oo 12 <| .fad 1 (.t 3),
 oo 13 <| .ld none (.t 12),
 oo 14 <| .call nQV [(.t 11), (.t 13)],
 oo 15 <| .bslice 1 2 [(.int .i64 0)] [(0, 1, (.t 9)), (1, 1, (.t 14))],
 oo 16 <| .call nQU [(.t 15)],
 oo 4 <| .mv (.t 16)]
def cQF : C := (.seq (.reg rQFX0 false [] [2, 3]) (.seq (.reg rQFX1 true [(9, 9), (10, 10), (11, 11), (12, 12), (1, 2), (0, 3), (1, 3), (1, 5), (3, 5), (4, 5), (0, 6), (1, 6), (2, 6), (3, 6), (4, 6), (1, 7), (3, 7), (4, 7), (6, 7), (0, 8), (1, 8), (2, 8), (3, 8), (4, 8), (5, 8), (6, 8)] [4]) .ret))
def qQF : AFn := ⟨17, 2, [.t 4], cQF⟩
/- cohesion/graph.Neighbours -/
def rQGX0 : List O := [
 oo 2 <| .box (.t 0),
 oo 4 <| .mv (.k (.own 1 []))]
def rQGX1 : List O := [
 oo 5 <| .ld (some 2) (.t 2),
 oo 6 <| .mv (.t 1),
 oo 7 <| .call nQX [(.t 5), (.t 6)],
 oo 8 <| .call nQW [(.t 7)],
 oo 4 <| .mv (.t 8)]
def cQG : C := (.seq (.reg rQGX0 false [] [1, 2]) (.seq (.reg rQGX1 false [] [4]) .ret))
def qQG : AFn := ⟨9, 2, [.t 4], cQG⟩
/- cohesion/graph.Find -/
def rQHX0 : List O := [
 oo 3 <| .box (.t 0),
 oo 6 <| .mv (ki 0)]
def rQHX1 : List O := [
 oo 10 <| .ld (some 2) (.t 3),
 oo 11 <| .mv (.t 1),
 oo 12 <| .mv (.t 2),
 oo 13 <| .call nQY [(.t 10), (.t 11), (.t 12)],
 oo 9 <| .mv (.t 13),
 oo 14 <| .ext 0 (.t 9),
 oo 15 <| .ext 1 (.t 9),
 oo 7 <| .mv (.t 14),
 oo 8 <| .mv (.t 15)]
def rQHX2 : List O := [
 oo 16 <| .mv (.t 8),
 oo 17 <| .mv (.t 16),
 ⟨(some 18), (some (17, true)), .ld (some 2) (.t 3)⟩,
 ⟨(some 19), (some (17, true)), .call nQq [(.t 18)]⟩,
 ⟨(some 20), (some (17, true)), .bin .eql (.t 19) (ki 0)⟩,
 oo 21 <| .pick (.t 17) (.t 20) (.k (.bool false))]
def rQHX3 : List O := [
 oo 22 <| .mv (.t 7),
 oo 6 <| .mv (.t 22)]
def rQHX4 : List O := [
 oo 6 <| .mv (.k (.int .i64 (-1)))]
def cQH : C := (.seq (.reg rQHX0 false [] [1, 2, 3]) (.seq (.seq (.reg rQHX1 false [] [3, 7, 8]) (.seq (.reg rQHX2 false [] [7, 21]) (.cond (.t 21) (.seq (.reg rQHX3 false [] [6]) .ret) .skip))) (.seq (.reg rQHX4 false [] [6]) .ret)))
def qQH : AFn := ⟨23, 3, [.t 6], cQH⟩
/- cohesion/ratio.within -/
def rQIX0 : List O := [
 oo 4 <| .mv (.k (.bool false))]
def rQIX1 : List O := [
 oo 5 <| .mv (.t 0),
 oo 6 <| .mv (.t 1),
 oo 7 <| .un .neg (.t 6),
 oo 8 <| .bin .geq (.t 5) (.t 7),
 oo 9 <| .mv (.t 8),
 ⟨(some 10), (some (9, true)), .mv (.t 0)⟩,
 ⟨(some 11), (some (9, true)), .mv (.t 1)⟩,
 ⟨(some 12), (some (9, true)), .bin .leq (.t 10) (.t 11)⟩,
 oo 13 <| .pick (.t 9) (.t 12) (.k (.bool false)),
 oo 4 <| .mv (.t 13)]
def cQI : C := (.seq (.reg rQIX0 false [] [0, 1]) (.seq (.reg rQIX1 false [] [4]) .ret))
def qQI : AFn := ⟨14, 2, [.t 4], cQI⟩
/- cohesion/ratio.lowest -/
def rQJX0 : List O := [
 oo 4 <| .new [(.int .i64 0), (.int .i64 0)],
 oo 5 <| .mv (ki 0)]
def rQJX1 : List O := [
 oo 7 <| .mv (.t 1),
 oo 8 <| .bin .lss (.t 7) (ki 0)]
def rQJX2 : List O := [
 oo 9 <| .mv (.t 0),
 oo 10 <| .un .neg (.t 9),
 oo 11 <| .mv (.t 1),
 oo 12 <| .un .neg (.t 11),
 oo 0 <| .mv (.t 10),
 oo 1 <| .mv (.t 12)]
def rQJX3 : List O := [
 oo 13 <| .mv (.t 0),
 oo 14 <| .mv (.t 0),
 oo 15 <| .un .neg (.t 14),
 oo 16 <| .max [(.t 13), (.t 15)],
 oo 17 <| .mv (.t 1),
 oo 18 <| .call nQZ [(.t 16), (.t 17)],
 oo 6 <| .mv (.t 18)]
def rQJX4 : List O := [
 oo 19 <| .mv (.t 0),
 oo 20 <| .mv (.t 6),
 oo 21 <| .bin .quo (.t 19) (.t 20),
 oo 22 <| .mv (.t 1),
 oo 23 <| .mv (.t 6),
 oo 24 <| .bin .quo (.t 22) (.t 23),
 oo 25 <| .build [(.int .i64 0), (.int .i64 0)] [(0, 1, (.t 21)), (1, 1, (.t 24))],
 oo 26 <| .call nQ0 [(.t 25)],
 oo 27 <| .ext 0 (.t 26),
 oo 28 <| .ext 1 (.t 26),
 oz <| .st 2 (.t 4) (.t 27),
 oo 5 <| .mv (.t 28)]
def cQJ : C := (.seq (.reg rQJX0 false [] [0, 1, 4]) (.seq (.seq (.reg rQJX1 false [] [0, 1, 4, 8]) (.cond (.t 8) (.reg rQJX2 false [] [0, 1, 4]) .skip)) (.seq (.reg rQJX3 false [] [0, 1, 4, 6]) (.seq (.reg rQJX4 true [(6, 6), (7, 7), (10, 10), (11, 11)] [4, 5]) .ret))))
def qQJ : AFn := ⟨29, 2, [.c 4 (some 2), .t 5], cQJ⟩
/- cohesion/ratio.exact -/
def rQKX0 : List O := [
 oo 2 <| .box (.t 0),
 oo 3 <| .box (.t 1),
 oo 4 <| .new [(.int .i64 0), (.int .i64 0)],
 oo 5 <| .mv (ki 0)]
def rQKX1 : List O := [
 oo 11 <| .ld (some 3) (.t 2),
 oo 12 <| .ld (some 3) (.t 3),
 oo 13 <| .call nQ1 [(.t 11), (.t 12)],
 oo 6 <| .new [(.int .u64 0), (.int .u64 0), (.bool false)],
 oz <| .st 3 (.t 6) (.t 13)]
def rQKX2 : List O := [
 oo 15 <| .ld (some 3) (.t 2),
 oo 16 <| .ld (some 3) (.t 6),
 oo 17 <| .call nQ2 [(.t 15), (.t 16)],
 oo 14 <| .mv (.t 17),
 oo 18 <| .ext 0 (.t 14),
 oo 19 <| .ext 1 (.t 14),
 oo 7 <| .mv (.t 18),
 oo 8 <| .mv (.t 19)]
def rQKX3 : List O := [
 oo 21 <| .ld (some 3) (.t 3),
 oo 22 <| .ld (some 3) (.t 6),
 oo 23 <| .call nQ2 [(.t 21), (.t 22)],
 oo 20 <| .mv (.t 23),
 oo 24 <| .ext 0 (.t 20),
 oo 25 <| .ext 1 (.t 20),
 oo 9 <| .mv (.t 24),
 oo 10 <| .mv (.t 25)]
def rQKX4 : List O := [
 oo 26 <| .mv (.t 8),
 oo 27 <| .un .not (.t 26),
 oo 28 <| .mv (.t 27),
 ⟨(some 29), (some (28, false)), .mv (.t 10)⟩,
 ⟨(some 30), (some (28, false)), .un .not (.t 29)⟩,
 oo 31 <| .pick (.t 28) (.k (.bool true)) (.t 30)]
def rQKX5 : List O := [
 oo 32 <| .build [(.int .i64 0), (.int .i64 0)] [],
 oz <| .st 2 (.t 4) (.t 32),
 oo 5 <| .mv (ki 3)]
def rQKX6 : List O := [
 oo 33 <| .ld (some 3) (.t 2),
 oo 34 <| .call nQ3 [(.t 33)],
 oo 35 <| .ld (some 3) (.t 3),
 oo 36 <| .call nQ3 [(.t 35)],
 oo 37 <| .eq true .bool (.t 34) (.t 36)]
def rQKX7 : List O := [
 oo 38 <| .mv (.t 7),
 oo 39 <| .un .neg (.t 38),
 oo 7 <| .mv (.t 39)]
def rQKX8 : List O := [
 oo 40 <| .mv (.t 7),
 oo 41 <| .mv (.t 9),
 oo 42 <| .build [(.int .i64 0), (.int .i64 0)] [(0, 1, (.t 40)), (1, 1, (.t 41))],
 oo 43 <| .call nQ0 [(.t 42)],
 oo 44 <| .ext 0 (.t 43),
 oo 45 <| .ext 1 (.t 43),
 oz <| .st 2 (.t 4) (.t 44),
 oo 5 <| .mv (.t 45)]
def cQK : C := (.seq (.reg rQKX0 false [] [2, 3, 4]) (.seq (.reg rQKX1 false [] [2, 3, 4, 6]) (.seq (.reg rQKX2 false [] [2, 3, 4, 6, 7, 8]) (.seq (.reg rQKX3 false [] [2, 3, 4, 7, 8, 9, 10]) (.seq (.seq (.reg rQKX4 false [] [2, 3, 4, 7, 9, 31]) (.cond (.t 31) (.seq (.reg rQKX5 false [] [4, 5]) .ret) .skip)) (.seq (.seq (.reg rQKX6 true [(3, 3), (4, 4), (0, 2), (1, 2)] [4, 7, 9, 37]) (.cond (.t 37) (.reg rQKX7 false [] [4, 7, 9]) .skip)) (.seq (.reg rQKX8 false [] [4, 5]) .ret)))))))
def qQK : AFn := ⟨46, 2, [.c 4 (some 2), .t 5], cQK⟩
/- cohesion/wide.Of -/
def rQLX0 : List O := [
 oo 2 <| .new [(.int .u64 0), (.int .u64 0), (.bool false)]]
def rQLX1 : List O := [
 oo 3 <| .mv (.t 0),
 oo 4 <| .call nQ4 [(.t 3)],
 oo 5 <| .mv (.t 0),
 oo 6 <| .bin .lss (.t 5) (ki 0),
 oo 7 <| .build [(.int .u64 0), (.int .u64 0), (.bool false)] [(1, 1, (.t 4)), (2, 1, (.t 6))],
 oz <| .st 3 (.t 2) (.t 7)]
def cQL : C := (.seq (.reg rQLX0 false [] [0, 2]) (.seq (.reg rQLX1 false [] [2]) .ret))
def qQL : AFn := ⟨8, 1, [.c 2 (some 3)], cQL⟩
/- cohesion/cohesionref29.Nodes -/
def rQMX0 : List O := [
 oo 1 <| .box (.t 0),
 oo 2 <| .mv (.k (.own 1 [])),
 oo 3 <| .mv (ki 0)]
def rQMX1 : List O := [
 oo 9 <| .ld (some 2) (.t 1),
 oo 10 <| .call nQo [(.t 9)],
 oo 4 <| .mv (.t 10)]
def rQMX2 : List O := [
 oo 11 <| .mv (.t 4),
 oo 12 <| .bin .neq (.t 11) (ki 0)]
def rQMX3 : List O := [
 oo 13 <| .mv (.t 4),
 oo 2 <| .mv (.k (.own 1 [])),
 oo 3 <| .mv (.t 13)]
def rQMX4 : List O := [
 oo 14 <| .fad 0 (.t 1),
 oo 15 <| .ld none (.t 14),
 oo 16 <| .mks 1 [(.int .i64 0)] (.t 15) (.t 15),
 oo 5 <| .mv (.t 16)]
def rQMX5 : List O := [
 oo 6 <| .mv (ki 0)]
def rQMX6 : List O := [
 oo 17 <| .mv (.t 6),
 oo 18 <| .fad 1 (.t 1),
 oo 19 <| .ld none (.t 18),
 oo 20 <| .len (.t 19),
 oo 21 <| .bin .lss (.t 17) (.t 20)]
def rQMX7 : List O := [
 oo 24 <| .ld (some 2) (.t 1),
 oo 25 <| .fad 1 (.t 1),
 oo 26 <| .ld none (.t 25),
 oo 27 <| .mv (.t 6),
 oo 28 <| .ixa 2 (.t 26) (.t 27),
 oo 29 <| .fad 0 (.t 28),
 oo 30 <| .ld none (.t 29),
 oo 31 <| .fad 1 (.t 1),
 oo 32 <| .ld none (.t 31),
 oo 33 <| .mv (.t 6),
 oo 34 <| .ixa 2 (.t 32) (.t 33),
 oo 35 <| .fad 1 (.t 34),
 oo 36 <| .ld none (.t 35),
 oo 37 <| .call nQ5 [(.t 24), (.t 30), (.t 36)],
 oo 7 <| .mv (.t 37)]
def rQMX8 : List O := [
 oo 8 <| .mv (ki 0)]
def rQMX9 : List O := [
 oo 38 <| .mv (.t 8),
 oo 39 <| .mv (.t 7),
 oo 40 <| .len (.t 39),
 oo 41 <| .bin .lss (.t 38) (.t 40)]
def rQMX10 : List O := [
 oo 44 <| .mv (.t 5),
 oo 45 <| .mv (.t 7),
 oo 46 <| .mv (.t 8),
 oo 47 <| .ixa 1 (.t 45) (.t 46),
 oo 48 <| .ld none (.t 47),
 oo 49 <| .ixa 1 (.t 44) (.t 48),
 oo 50 <| .ld none (.t 49),
 oo 51 <| .bin .add (.t 50) (ki 1),
 oo 52 <| .ixa 1 (.t 44) (.t 48),
 oz <| .st 1 (.t 52) (.t 51)]
def rQMX11 : List O := [
 oo 42 <| .mv (.t 8),
 oo 43 <| .bin .add (.t 42) (ki 1),
 oo 8 <| .mv (.t 43)]
def lQMX0 : C := (.seq (.seq (.reg rQMX9 false [] [1, 5, 6, 7, 8, 41]) (.cond (.t 41) .skip (.exit 2))) (.seq (.blk 3 (.reg rQMX10 false [] [1, 5, 6, 7, 8])) (.reg rQMX11 false [] [1, 5, 6, 7, 8])))
def rQMX12 : List O := [
 oo 22 <| .mv (.t 6),
 oo 23 <| .bin .add (.t 22) (ki 1),
 oo 6 <| .mv (.t 23)]
def lQMX1 : C := (.seq (.seq (.reg rQMX6 false [] [1, 5, 6, 21]) (.cond (.t 21) .skip (.exit 0))) (.seq (.blk 1 (.seq (.reg rQMX7 true [(13, 13), (14, 14), (0, 1), (0, 2), (0, 3), (2, 3), (0, 4), (0, 5), (0, 6), (0, 7), (2, 7), (6, 7), (0, 8), (1, 8), (2, 8), (3, 8), (4, 8), (5, 8), (6, 8), (0, 9), (2, 9), (6, 9), (8, 9), (0, 10), (2, 10), (6, 10), (0, 11), (2, 11), (6, 11), (0, 12), (1, 12), (2, 12), (3, 12), (4, 12), (5, 12), (6, 12)] [1, 5, 6, 7]) (.seq (.reg rQMX8 false [] [1, 5, 6, 7, 8]) (.blk 2 (.loop lQMX0))))) (.reg rQMX12 false [] [1, 5, 6])))
def rQMX13 : List O := [
 oo 53 <| .mv (.t 5),
 oo 2 <| .mv (.t 53),
 oo 3 <| .mv (ki 0)]
def cQM : C := (.seq (.reg rQMX0 false [] [1]) (.seq (.seq (.reg rQMX1 false [] [1, 4]) (.seq (.reg rQMX2 false [] [1, 4, 12]) (.cond (.t 12) (.seq (.reg rQMX3 false [] [2, 3]) .ret) .skip))) (.seq (.reg rQMX4 false [] [1, 5]) (.seq (.seq (.reg rQMX5 false [] [1, 5, 6]) (.blk 0 (.loop lQMX1))) (.seq (.reg rQMX13 false [] [2, 3]) .ret)))))
def qQM : AFn := ⟨54, 1, [.t 2, .t 3], cQM⟩
/- cohesion/cohesionref01.Of -/
def rQNX0 : List O := [
 oo 4 <| .new [(.int .i64 0), (.int .i64 0)]]
def rQNX1 : List O := [
 oo 8 <| .mv (.t 0),
 oo 9 <| .mv (.t 1),
 oo 10 <| .call nQ6 [(.t 8), (.t 9)],
 oo 7 <| .mv (.t 10),
 oo 11 <| .ext 0 (.t 7),
 oo 12 <| .ext 1 (.t 7),
 oo 5 <| .new [(.int .i64 0), (.int .i64 0)],
 oz <| .st 2 (.t 5) (.t 11),
 oo 6 <| .mv (.t 12)]
def rQNX2 : List O := [
 oo 13 <| .ld (some 2) (.t 5),
 oz <| .st 2 (.t 4) (.t 13)]
def cQN : C := (.seq (.reg rQNX0 false [] [0, 1, 4]) (.seq (.reg rQNX1 false [] [4, 5]) (.seq (.reg rQNX2 false [] [4]) .ret)))
def qQN : AFn := ⟨14, 2, [.c 4 (some 2)], cQN⟩
/- slices.ContainsFunc[[]int,int] -/
def rQOX0 : List O := [
 oo 4 <| .mv (.k (.bool false))]
def rQOX1 : List O := [
 oo 5 <| .mv (.t 0),
 oo 6 <| .mv (.t 1),
 oo 7 <| .call nQ7 [(.t 5), (.t 6)],
 oo 8 <| .bin .geq (.t 7) (ki 0),
 oo 4 <| .mv (.t 8)]
def cQO : C := (.seq (.reg rQOX0 false [] [0, 1]) (.seq (.reg rQOX1 false [] [4]) .ret))
def qQO : AFn := ⟨9, 2, [.t 4], cQO⟩
/- cohesion/sample.Mono$1 -/
def rQPX0 : List O := [
 oo 3 <| .mv (.k (.bool false))]
def rQPX1 : List O := [
 oo 4 <| .mv (.t 0),
 oo 5 <| .bin .lss (.t 4) (ki 0),
 oo 6 <| .mv (.t 5),
 ⟨(some 7), (some (6, false)), .mv (.t 0)⟩,
 ⟨(some 8), (some (6, false)), .ld none (.t 1)⟩,
 ⟨(some 9), (some (6, false)), .bin .geq (.t 7) (.t 8)⟩,
 oo 10 <| .pick (.t 6) (.k (.bool true)) (.t 9),
 oo 3 <| .mv (.t 10)]
def cQP : C := (.seq (.reg rQPX0 false [] [0, 1]) (.seq (.reg rQPX1 false [] [3]) .ret))
def qQP : AFn := ⟨11, 1, [.t 3], cQP⟩
/- cohesion/sample.some -/
def rQQX0 : List O := [
 oo 2 <| .box (.t 0),
 oo 4 <| .new [(.int .i64 0), (.own 2 [])]]
def rQQX1 : List O := [
 oo 8 <| .fad 0 (.t 2),
 oo 9 <| .ld none (.t 8),
 oo 10 <| .build [(.int .i64 0), (.own 2 [])] [(0, 1, (.t 9))],
 oo 5 <| .new [(.int .i64 0), (.own 2 [])],
 oz <| .st 2 (.t 5) (.t 10)]
def rQQX2 : List O := [
 oo 11 <| .fad 1 (.t 2),
 oo 12 <| .ld none (.t 11),
 oo 13 <| .len (.t 12),
 oo 14 <| .mv (ki 0)]
def rQQX3 : List O := [
 oo 15 <| .bin .lss (.t 14) (.t 13)]
def rQQX4 : List O := [
 oo 16 <| .mv (.t 14),
 oo 17 <| .ixa 2 (.t 12) (.t 14),
 oo 18 <| .ld (some 2) (.t 17),
 oo 7 <| .new [(.int .i64 0), (.int .i64 0)],
 oo 6 <| .mv (.t 16),
 oz <| .st 2 (.t 7) (.t 18)]
def rQQX5 : List O := [
 oo 19 <| .mv (.t 1),
 oo 20 <| .mv (.t 6),
 oo 21 <| .ld (some 2) (.t 7),
 oo 22 <| .callv (.t 19) [(.t 20), (.t 21)]]
def rQQX6 : List O := [
 oo 23 <| .fad 1 (.t 5),
 oo 24 <| .ld none (.t 23),
 oo 25 <| .ld (some 2) (.t 7),
 oo 26 <| .bslice 2 1 [(.int .i64 0), (.int .i64 0)] [(0, 2, (.t 25))],
 oo 27 <| .app 2 (.t 24) (.t 26),
 oo 28 <| .fad 1 (.t 5),
 oz <| .st 1 (.t 28) (.t 27)]
def rQQX7 : List O := [
 oo 29 <| .bin .add (.t 14) (ki 1),
 oo 14 <| .mv (.t 29)]
def lQQX0 : C := (.seq (.reg rQQX3 false [] [1, 4, 5, 12, 13, 14, 15]) (.seq (.cond (.t 15) .skip (.exit 0)) (.seq (.blk 1 (.seq (.reg rQQX4 false [] [1, 4, 5, 6, 7, 12, 13, 14]) (.seq (.reg rQQX5 false [] [1, 4, 5, 7, 12, 13, 14, 22]) (.cond (.t 22) (.reg rQQX6 false [] [1, 4, 5, 12, 13, 14]) .skip)))) (.reg rQQX7 false [] [1, 4, 5, 12, 13, 14]))))
def rQQX8 : List O := [
 oo 30 <| .ld (some 2) (.t 5),
 oz <| .st 2 (.t 4) (.t 30)]
def cQQ : C := (.seq (.reg rQQX0 false [] [1, 2, 4]) (.seq (.reg rQQX1 false [] [1, 2, 4, 5]) (.seq (.seq (.reg rQQX2 false [] [1, 4, 5, 12, 13, 14]) (.blk 0 (.loop lQQX0))) (.seq (.reg rQQX8 false [] [4]) .ret))))
def qQQ : AFn := ⟨31, 2, [.c 4 (some 2)], cQQ⟩
/- cohesion/sample.Mono$2 -/
def rQRX0 : List O := [
 oo 4 <| .box (.t 1),
 oo 5 <| .mv (.k (.bool false))]
def rQRX1 : List O := [
 oo 6 <| .ld none (.t 2),
 oo 7 <| .fad 0 (.t 4),
 oo 8 <| .ld none (.t 7),
 oo 9 <| .ixa 1 (.t 6) (.t 8),
 oo 10 <| .ld none (.t 9),
 oo 11 <| .ld none (.t 2),
 oo 12 <| .fad 1 (.t 4),
 oo 13 <| .ld none (.t 12),
 oo 14 <| .ixa 1 (.t 11) (.t 13),
 oo 15 <| .ld none (.t 14),
 oo 16 <| .bin .eql (.t 10) (.t 15),
 oo 5 <| .mv (.t 16)]
def cQR : C := (.seq (.reg rQRX0 false [] [2, 4]) (.seq (.reg rQRX1 true [(10, 10), (11, 11), (0, 1), (0, 2), (0, 5), (1, 5), (2, 5), (3, 5), (4, 5), (0, 6), (2, 6), (4, 6), (5, 6), (0, 7), (1, 7), (2, 7), (3, 7), (4, 7), (5, 7), (0, 8), (2, 8), (4, 8), (0, 9), (1, 9), (2, 9), (3, 9), (4, 9)] [5]) .ret))
def qQR : AFn := ⟨17, 2, [.t 5], cQR⟩
/- cohesion/triangles.counts -/
def rQSX0 : List O := [
 oo 1 <| .box (.t 0),
 oo 2 <| .mv (ki 0),
 oo 3 <| .mv (.k (.own 1 []))]
def rQSX1 : List O := [
 oo 11 <| .ld (some 2) (.t 1),
 oo 12 <| .call nQ8 [(.t 11)],
 oo 4 <| .mv (.t 12)]
def rQSX2 : List O := [
 oo 13 <| .fad 0 (.t 1),
 oo 14 <| .ld none (.t 13),
 oo 15 <| .mks 1 [(.int .i64 0)] (.t 14) (.t 14),
 oo 5 <| .mv (ki 0),
 oo 6 <| .mv (.t 15)]
def rQSX3 : List O := [
 oo 16 <| .fad 1 (.t 1),
 oo 17 <| .ld none (.t 16),
 oo 18 <| .len (.t 17),
 oo 19 <| .mv (ki 0)]
def rQSX4 : List O := [
 oo 20 <| .bin .lss (.t 19) (.t 18)]
def rQSX5 : List O := [
 oo 21 <| .ixa 2 (.t 17) (.t 19),
 oo 22 <| .ld (some 2) (.t 21),
 oo 8 <| .new [(.int .i64 0), (.int .i64 0)],
 oz <| .st 2 (.t 8) (.t 22)]
def rQSX6 : List O := [
 oo 23 <| .mv (.t 4),
 oo 24 <| .fad 0 (.t 8),
 oo 25 <| .ld none (.t 24),
 oo 26 <| .ixa 1 (.t 23) (.t 25),
 oo 27 <| .ld none (.t 26),
 oo 28 <| .mv (.t 4),
 oo 29 <| .fad 1 (.t 8),
 oo 30 <| .ld none (.t 29),
 oo 31 <| .ixa 1 (.t 28) (.t 30),
 oo 32 <| .ld none (.t 31),
 oo 33 <| .call nQ9 [(.t 27), (.t 32)],
 oo 34 <| .len (.t 33),
 oo 35 <| .mv (ki 0)]
def rQSX7 : List O := [
 oo 36 <| .bin .lss (.t 35) (.t 34)]
def rQSX8 : List O := [
 oo 37 <| .ixa 1 (.t 33) (.t 35),
 oo 38 <| .ld none (.t 37),
 oo 10 <| .mv (.t 38)]
def rQSX9 : List O := [
 oo 39 <| .mv (.t 6),
 oo 40 <| .mv (.t 10),
 oo 41 <| .ixa 1 (.t 39) (.t 40),
 oo 42 <| .ld none (.t 41),
 oo 43 <| .bin .add (.t 42) (ki 1),
 oo 44 <| .ixa 1 (.t 39) (.t 40),
 oz <| .st 1 (.t 44) (.t 43)]
def rQSX10 : List O := [
 oo 45 <| .mv (.t 5),
 oo 46 <| .bin .add (.t 45) (ki 1),
 oo 5 <| .mv (.t 46)]
def rQSX11 : List O := [
 oo 47 <| .bin .add (.t 35) (ki 1),
 oo 35 <| .mv (.t 47)]
def lQSX0 : C := (.seq (.reg rQSX7 false [] [4, 5, 6, 17, 18, 19, 33, 34, 35, 36]) (.seq (.cond (.t 36) .skip (.exit 2)) (.seq (.blk 3 (.seq (.reg rQSX8 false [] [4, 5, 6, 10, 17, 18, 19, 33, 34, 35]) (.seq (.reg rQSX9 false [] [4, 5, 6, 17, 18, 19, 33, 34, 35]) (.reg rQSX10 false [] [4, 5, 6, 17, 18, 19, 33, 34, 35])))) (.reg rQSX11 false [] [4, 5, 6, 17, 18, 19, 33, 34, 35]))))
def rQSX12 : List O := [
 oo 48 <| .bin .add (.t 19) (ki 1),
 oo 19 <| .mv (.t 48)]
def lQSX1 : C := (.seq (.reg rQSX4 false [] [4, 5, 6, 17, 18, 19, 20]) (.seq (.cond (.t 20) .skip (.exit 0)) (.seq (.blk 1 (.seq (.reg rQSX5 false [] [4, 5, 6, 8, 17, 18, 19]) (.seq (.reg rQSX6 true [(0, 2), (2, 5), (4, 5), (2, 6), (4, 6), (0, 7), (1, 7), (2, 7), (3, 7), (4, 7), (5, 7), (2, 8), (4, 8), (0, 9), (1, 9), (2, 9), (3, 9), (4, 9), (2, 12), (4, 12), (7, 12), (9, 12), (10, 12)] [4, 5, 6, 17, 18, 19, 33, 34, 35]) (.blk 2 (.loop lQSX0))))) (.reg rQSX12 false [] [4, 5, 6, 17, 18, 19]))))
def rQSX13 : List O := [
 oo 49 <| .mv (.t 5),
 oo 50 <| .bin .quo (.t 49) (ki 3),
 oo 51 <| .mv (.t 6),
 oo 2 <| .mv (.t 50),
 oo 3 <| .mv (.t 51)]
def cQS : C := (.seq (.reg rQSX0 false [] [1]) (.seq (.reg rQSX1 false [] [1, 4]) (.seq (.reg rQSX2 true [(4, 4), (1, 3)] [1, 4, 5, 6]) (.seq (.seq (.reg rQSX3 false [] [4, 5, 6, 17, 18, 19]) (.blk 0 (.loop lQSX1))) (.seq (.reg rQSX13 false [] [2, 3]) .ret)))))
def qQS : AFn := ⟨52, 1, [.t 2, .t 3], cQS⟩
/- cohesion/cohesionref02.Of -/
def rQTX0 : List O := [
 oo 2 <| .mv (.k (.own 1 []))]
def rQTX1 : List O := [
 oo 3 <| .mv (.k (.own 1 []))]
def rQTX2 : List O := [
 oo 6 <| .mv (.t 0),
 oo 7 <| .len (.t 6),
 oo 8 <| .mv (ki 0)]
def rQTX3 : List O := [
 oo 9 <| .bin .lss (.t 8) (.t 7)]
def rQTX4 : List O := [
 oo 10 <| .ixa 1 (.t 6) (.t 8),
 oo 11 <| .ld none (.t 10),
 oo 5 <| .mv (.t 11)]
def rQTX5 : List O := [
 oo 12 <| .mv (.t 3),
 oo 13 <| .mv (.t 5),
 oo 14 <| .call nQa0 [(.t 12), (.t 13)],
 oo 3 <| .mv (.t 14)]
def rQTX6 : List O := [
 oo 15 <| .bin .add (.t 8) (ki 1),
 oo 8 <| .mv (.t 15)]
def lQTX0 : C := (.seq (.reg rQTX3 false [] [3, 6, 7, 8, 9]) (.seq (.cond (.t 9) .skip (.exit 0)) (.seq (.blk 1 (.seq (.reg rQTX4 false [] [3, 5, 6, 7, 8]) (.reg rQTX5 false [] [3, 6, 7, 8]))) (.reg rQTX6 false [] [3, 6, 7, 8]))))
def rQTX7 : List O := [
 oo 16 <| .mv (.t 3),
 oo 2 <| .mv (.t 16)]
def cQT : C := (.seq (.reg rQTX0 false [] [0]) (.seq (.reg rQTX1 false [] [0, 3]) (.seq (.seq (.reg rQTX2 false [] [3, 6, 7, 8]) (.blk 0 (.loop lQTX0))) (.seq (.reg rQTX7 false [] [2]) .ret))))
def qQT : AFn := ⟨17, 1, [.t 2], cQT⟩
/- cmp.Or[int] -/
def rQUX0 : List O := [
 oo 2 <| .mv (ki 0)]
def rQUX1 : List O := [
 oo 3 <| .mv (ki 0)]
def rQUX2 : List O := [
 oo 6 <| .mv (.t 0),
 oo 7 <| .len (.t 6),
 oo 8 <| .mv (ki 0)]
def rQUX3 : List O := [
 oo 9 <| .bin .lss (.t 8) (.t 7)]
def rQUX4 : List O := [
 oo 10 <| .ixa 1 (.t 6) (.t 8),
 oo 11 <| .ld none (.t 10),
 oo 5 <| .mv (.t 11)]
def rQUX5 : List O := [
 oo 12 <| .mv (.t 5),
 oo 13 <| .mv (.t 3),
 oo 14 <| .bin .neq (.t 12) (.t 13)]
def rQUX6 : List O := [
 oo 15 <| .mv (.t 5),
 oo 2 <| .mv (.t 15)]
def rQUX7 : List O := [
 oo 16 <| .bin .add (.t 8) (ki 1),
 oo 8 <| .mv (.t 16)]
def lQUX0 : C := (.seq (.reg rQUX3 false [] [3, 6, 7, 8, 9]) (.seq (.cond (.t 9) .skip (.exit 0)) (.seq (.blk 1 (.seq (.reg rQUX4 false [] [3, 5, 6, 7, 8]) (.seq (.reg rQUX5 false [] [3, 5, 6, 7, 8, 14]) (.cond (.t 14) (.seq (.reg rQUX6 false [] [2]) .ret) .skip)))) (.reg rQUX7 false [] [3, 6, 7, 8]))))
def rQUX8 : List O := [
 oo 17 <| .mv (.t 3),
 oo 2 <| .mv (.t 17)]
def cQU : C := (.seq (.reg rQUX0 false [] [0]) (.seq (.reg rQUX1 false [] [0, 3]) (.seq (.seq (.reg rQUX2 false [] [3, 6, 7, 8]) (.blk 0 (.loop lQUX0))) (.seq (.reg rQUX8 false [] [2]) .ret))))
def qQU : AFn := ⟨18, 1, [.t 2], cQU⟩
/- cmp.Compare[int] -/
def rQVX0 : List O := [
 oo 4 <| .mv (ki 0)]
def rQVX1 : List O := [
 oo 7 <| .mv (.t 0),
 oo 8 <| .call nQa1 [(.t 7)],
 oo 5 <| .mv (.t 8)]
def rQVX2 : List O := [
 oo 9 <| .mv (.t 1),
 oo 10 <| .call nQa1 [(.t 9)],
 oo 6 <| .mv (.t 10)]
def rQVX3 : List O := [
 oo 11 <| .mv (.t 5)]
def rQVX4 : List O := [
 oo 12 <| .mv (.t 6)]
def rQVX5 : List O := [
 oo 4 <| .mv (ki 0)]
def rQVX6 : List O := [
 oo 4 <| .mv (.k (.int .i64 (-1)))]
def rQVX7 : List O := [
 oo 13 <| .mv (.t 6)]
def rQVX8 : List O := [
 oo 4 <| .mv (ki 1)]
def rQVX9 : List O := [
 oo 14 <| .mv (.t 0),
 oo 15 <| .mv (.t 1),
 oo 16 <| .bin .lss (.t 14) (.t 15)]
def rQVX10 : List O := [
 oo 4 <| .mv (.k (.int .i64 (-1)))]
def rQVX11 : List O := [
 oo 17 <| .mv (.t 0),
 oo 18 <| .mv (.t 1),
 oo 19 <| .bin .gtr (.t 17) (.t 18)]
def rQVX12 : List O := [
 oo 4 <| .mv (ki 1)]
def rQVX13 : List O := [
 oo 4 <| .mv (ki 0)]
def cQV : C := (.seq (.reg rQVX0 false [] [0, 1]) (.seq (.reg rQVX1 false [] [0, 1, 5]) (.seq (.reg rQVX2 false [] [0, 1, 5, 6]) (.seq (.seq (.reg rQVX3 false [] [0, 1, 6, 11]) (.cond (.t 11) (.seq (.seq (.reg rQVX4 false [] [12]) (.cond (.t 12) (.seq (.reg rQVX5 false [] [4]) .ret) .skip)) (.seq (.reg rQVX6 false [] [4]) .ret)) .skip)) (.seq (.seq (.reg rQVX7 false [] [0, 1, 13]) (.cond (.t 13) (.seq (.reg rQVX8 false [] [4]) .ret) .skip)) (.seq (.seq (.reg rQVX9 false [] [0, 1, 16]) (.cond (.t 16) (.seq (.reg rQVX10 false [] [4]) .ret) .skip)) (.seq (.seq (.reg rQVX11 false [] [19]) (.cond (.t 19) (.seq (.reg rQVX12 false [] [4]) .ret) .skip)) (.seq (.reg rQVX13 false [] [4]) .ret))))))))
def qQV : AFn := ⟨20, 2, [.t 4], cQV⟩
/- cohesion/masks.List -/
def rQWX0 : List O := [
 oo 2 <| .mv (.k (.own 1 []))]
def rQWX1 : List O := [
 oo 3 <| .mv (.k (.own 1 []))]
def rQWX2 : List O := [
 oo 4 <| .mv (.t 0),
 oo 5 <| .bin .neq (.t 4) (.k (.int .u64 0))]
def rQWX3 : List O := [
 oo 10 <| .mv (.t 3),
 oo 11 <| .mv (.t 0),
 oo 12 <| .call nQa2 [(.t 11)],
 oo 13 <| .bslice 1 1 [(.int .i64 0)] [(0, 1, (.t 12))],
 oo 14 <| .app 1 (.t 10) (.t 13),
 oo 3 <| .mv (.t 14)]
def rQWX4 : List O := [
 oo 6 <| .mv (.t 0),
 oo 7 <| .mv (.t 0),
 oo 8 <| .bin .sub (.t 7) (.k (.int .u64 1)),
 oo 9 <| .bin .and (.t 6) (.t 8),
 oo 0 <| .mv (.t 9)]
def lQWX0 : C := (.seq (.seq (.reg rQWX2 false [] [0, 3, 5]) (.cond (.t 5) .skip (.exit 0))) (.seq (.blk 1 (.reg rQWX3 false [] [0, 3])) (.reg rQWX4 false [] [0, 3])))
def rQWX5 : List O := [
 oo 15 <| .mv (.t 3),
 oo 2 <| .mv (.t 15)]
def cQW : C := (.seq (.reg rQWX0 false [] [0]) (.seq (.reg rQWX1 false [] [0, 3]) (.seq (.blk 0 (.loop lQWX0)) (.seq (.reg rQWX5 false [] [2]) .ret))))
def qQW : AFn := ⟨16, 1, [.t 2], cQW⟩
/- cohesion/graph.row -/
def rQXX0 : List O := [
 oo 2 <| .box (.t 0),
 oo 4 <| .mv (.k (.int .u64 0))]
def rQXX1 : List O := [
 oo 6 <| .ld (some 2) (.t 2),
 oo 7 <| .call nQa3 [(.t 6)],
 oo 5 <| .mv (.t 7)]
def rQXX2 : List O := [
 oo 8 <| .mv (.t 1),
 oo 9 <| .bin .lss (.t 8) (ki 0),
 oo 10 <| .mv (.t 9),
 ⟨(some 11), (some (10, false)), .mv (.t 1)⟩,
 ⟨(some 12), (some (10, false)), .mv (.t 5)⟩,
 ⟨(some 13), (some (10, false)), .len (.t 12)⟩,
 ⟨(some 14), (some (10, false)), .bin .geq (.t 11) (.t 13)⟩,
 oo 15 <| .pick (.t 10) (.k (.bool true)) (.t 14),
 oo 16 <| .mv (.t 15),
 ⟨(some 17), (some (16, false)), .ld (some 2) (.t 2)⟩,
 ⟨(some 18), (some (16, false)), .call nQq [(.t 17)]⟩,
 ⟨(some 19), (some (16, false)), .bin .neq (.t 18) (ki 0)⟩,
 oo 20 <| .pick (.t 16) (.k (.bool true)) (.t 19)]
def rQXX3 : List O := [
 oo 4 <| .mv (.k (.int .u64 0))]
def rQXX4 : List O := [
 oo 21 <| .mv (.t 5),
 oo 22 <| .mv (.t 1),
 oo 23 <| .ixa 1 (.t 21) (.t 22),
 oo 24 <| .ld none (.t 23),
 oo 4 <| .mv (.t 24)]
def cQX : C := (.seq (.reg rQXX0 false [] [1, 2]) (.seq (.reg rQXX1 false [] [1, 2, 5]) (.seq (.seq (.reg rQXX2 false [] [1, 5, 20]) (.cond (.t 20) (.seq (.reg rQXX3 false [] [4]) .ret) .skip)) (.seq (.reg rQXX4 false [] [4]) .ret))))
def qQX : AFn := ⟨25, 2, [.t 4], cQX⟩
/- cohesion/graph.place -/
def rQYX0 : List O := [
 oo 3 <| .box (.t 0),
 oo 6 <| .mv (ki 0),
 oo 7 <| .mv (.k (.bool false))]
def rQYX1 : List O := [
 oo 11 <| .mv (.t 1),
 oo 12 <| .mv (.t 2),
 oo 13 <| .call nQa4 [(.t 11), (.t 12)],
 oo 8 <| .new [(.int .i64 0), (.int .i64 0)],
 oz <| .st 2 (.t 8) (.t 13)]
def rQYX2 : List O := [
 oo 15 <| .fad 1 (.t 3),
 oo 16 <| .ld none (.t 15),
 oo 17 <| .ld (some 2) (.t 8),
 oo 18 <| .call nQa5 [(.t 16), (.t 17), (.k (.func (.func nQF) [] []))],
 oo 14 <| .mv (.t 18),
 oo 19 <| .ext 0 (.t 14),
 oo 20 <| .ext 1 (.t 14),
 oo 9 <| .mv (.t 19),
 oo 10 <| .mv (.t 20)]
def rQYX3 : List O := [
 oo 21 <| .mv (.t 9),
 oo 22 <| .mv (.t 9),
 oo 23 <| .fad 1 (.t 3),
 oo 24 <| .ld none (.t 23),
 oo 25 <| .len (.t 24),
 oo 26 <| .bin .lss (.t 22) (.t 25),
 oo 27 <| .mv (.t 26),
 ⟨(some 28), (some (27, true)), .fad 1 (.t 3)⟩,
 ⟨(some 29), (some (27, true)), .ld none (.t 28)⟩,
 ⟨(some 30), (some (27, true)), .mv (.t 9)⟩,
 ⟨(some 31), (some (27, true)), .ixa 2 (.t 29) (.t 30)⟩,
 ⟨(some 32), (some (27, true)), .ld (some 2) (.t 31)⟩,
 ⟨(some 33), (some (27, true)), .ld (some 2) (.t 8)⟩,
 ⟨(some 34), (some (27, true)), .eq false (.str [true, true]) (.t 32) (.t 33)⟩,
 oo 35 <| .pick (.t 27) (.t 34) (.k (.bool false)),
 oo 6 <| .mv (.t 21),
 oo 7 <| .mv (.t 35)]
def cQY : C := (.seq (.reg rQYX0 false [] [1, 2, 3]) (.seq (.reg rQYX1 false [] [3, 8]) (.seq (.reg rQYX2 false [] [3, 8, 9]) (.seq (.reg rQYX3 true [(16, 16), (0, 3), (1, 3), (0, 8), (8, 9), (0, 11), (0, 12), (7, 12), (8, 12), (9, 12), (10, 12), (11, 12), (8, 15), (11, 15), (12, 15)] [6, 7]) .ret))))
def qQY : AFn := ⟨36, 3, [.t 6, .t 7], cQY⟩
/- cohesion/ratio.common -/
def rQZX0 : List O := [
 oo 4 <| .mv (ki 0)]
def rQZX1 : List O := [
 oo 5 <| .mv (.t 1),
 oo 6 <| .bin .neq (.t 5) (ki 0)]
def rQZX2 : List O := [
 oo 7 <| .mv (.t 1),
 oo 8 <| .mv (.t 0),
 oo 9 <| .mv (.t 1),
 oo 10 <| .bin .rem (.t 8) (.t 9),
 oo 0 <| .mv (.t 7),
 oo 1 <| .mv (.t 10)]
def lQZX0 : C := (.seq (.seq (.reg rQZX1 false [] [0, 1, 6]) (.cond (.t 6) .skip (.exit 0))) (.blk 1 (.reg rQZX2 true [(5, 5)] [0, 1])))
def rQZX3 : List O := [
 oo 11 <| .mv (.t 0),
 oo 4 <| .mv (.t 11)]
def cQZ : C := (.seq (.reg rQZX0 false [] [0, 1]) (.seq (.blk 0 (.loop lQZX0)) (.seq (.reg rQZX3 false [] [4]) .ret)))
def qQZ : AFn := ⟨12, 2, [.t 4], cQZ⟩
/- cohesion/ratio.checked -/
def rQ0X0 : List O := [
 oo 1 <| .box (.t 0),
 oo 2 <| .new [(.int .i64 0), (.int .i64 0)],
 oo 3 <| .mv (ki 0)]
def rQ0X1 : List O := [
 oo 4 <| .fad 0 (.t 1),
 oo 5 <| .ld none (.t 4),
 oo 6 <| .call nQI [(.t 5), (ki 1152921504606846976)],
 oo 7 <| .un .not (.t 6),
 oo 8 <| .mv (.t 7),
 ⟨(some 9), (some (8, false)), .fad 1 (.t 1)⟩,
 ⟨(some 10), (some (8, false)), .ld none (.t 9)⟩,
 ⟨(some 11), (some (8, false)), .bin .gtr (.t 10) (ki 1152921504606846976)⟩,
 oo 12 <| .pick (.t 8) (.k (.bool true)) (.t 11)]
def rQ0X2 : List O := [
 oo 13 <| .build [(.int .i64 0), (.int .i64 0)] [],
 oz <| .st 2 (.t 2) (.t 13),
 oo 3 <| .mv (ki 3)]
def rQ0X3 : List O := [
 oo 14 <| .ld (some 2) (.t 1),
 oz <| .st 2 (.t 2) (.t 14),
 oo 3 <| .mv (ki 0)]
def cQ0 : C := (.seq (.reg rQ0X0 false [] [1, 2]) (.seq (.seq (.reg rQ0X1 false [] [1, 2, 12]) (.cond (.t 12) (.seq (.reg rQ0X2 false [] [2, 3]) .ret) .skip)) (.seq (.reg rQ0X3 false [] [2, 3]) .ret)))
def qQ0 : AFn := ⟨15, 1, [.c 2 (some 2), .t 3], cQ0⟩
/- cohesion/wide.Common -/
def rQ1X0 : List O := [
 oo 2 <| .box (.t 0),
 oo 3 <| .box (.t 1),
 oo 4 <| .new [(.int .u64 0), (.int .u64 0), (.bool false)]]
def rQ1X1 : List O := [
 oo 6 <| .fad 2 (.t 2),
 oz <| .st 1 (.t 6) (.k (.bool false)),
 oo 7 <| .fad 2 (.t 3),
 oz <| .st 1 (.t 7) (.k (.bool false))]
def rQ1X2 : List O := [
 oo 8 <| .ld (some 3) (.t 2),
 oo 9 <| .call nQa6 [(.t 8)]]
def rQ1X3 : List O := [
 oo 10 <| .ld (some 3) (.t 3),
 oz <| .st 3 (.t 4) (.t 10)]
def rQ1X4 : List O := [
 oo 11 <| .ld (some 3) (.t 3),
 oo 12 <| .call nQa6 [(.t 11)]]
def rQ1X5 : List O := [
 oo 13 <| .ld (some 3) (.t 2),
 oz <| .st 3 (.t 4) (.t 13)]
def rQ1X6 : List O := [
 oo 5 <| .mv (ki 0)]
def rQ1X7 : List O := [
 oo 14 <| .ld (some 3) (.t 2),
 oo 15 <| .call nQa7 [(.t 14)],
 oo 16 <| .mv (.t 15),
 ⟨(some 17), (some (16, true)), .ld (some 3) (.t 3)⟩,
 ⟨(some 18), (some (16, true)), .call nQa7 [(.t 17)]⟩,
 oo 19 <| .pick (.t 16) (.t 18) (.k (.bool false))]
def rQ1X8 : List O := [
 oo 20 <| .ld (some 3) (.t 2),
 oo 21 <| .call nQa8 [(.t 20)],
 oo 22 <| .ld (some 3) (.t 3),
 oo 23 <| .call nQa8 [(.t 22)],
 oo 24 <| .mv (.t 5),
 oo 25 <| .bin .add (.t 24) (ki 1),
 oz <| .st 3 (.t 2) (.t 21),
 oz <| .st 3 (.t 3) (.t 23),
 oo 5 <| .mv (.t 25)]
def lQ1X0 : C := (.seq (.seq (.reg rQ1X7 false [] [2, 3, 4, 5, 19]) (.cond (.t 19) .skip (.exit 0))) (.blk 1 (.reg rQ1X8 true [(8, 8), (0, 2), (1, 2), (0, 4), (1, 4), (2, 4), (3, 4), (0, 5), (1, 5), (2, 5), (3, 5), (4, 6), (5, 6), (4, 7), (5, 7)] [2, 3, 4, 5])))
def rQ1X9 : List O := [
 oo 26 <| .ld (some 3) (.t 2),
 oo 27 <| .call nQa7 [(.t 26)]]
def rQ1X10 : List O := [
 oo 28 <| .ld (some 3) (.t 2),
 oo 29 <| .call nQa8 [(.t 28)],
 oz <| .st 3 (.t 2) (.t 29)]
def lQ1X1 : C := (.seq (.seq (.reg rQ1X9 false [] [2, 3, 4, 5, 27]) (.cond (.t 27) .skip (.exit 2))) (.blk 3 (.reg rQ1X10 false [] [2, 3, 4, 5])))
def rQ1X11 : List O := [
 oo 30 <| .ld (some 3) (.t 3),
 oo 31 <| .call nQa6 [(.t 30)],
 oo 32 <| .un .not (.t 31)]
def rQ1X12 : List O := [
 oo 33 <| .ld (some 3) (.t 3),
 oo 34 <| .call nQa7 [(.t 33)]]
def rQ1X13 : List O := [
 oo 35 <| .ld (some 3) (.t 3),
 oo 36 <| .call nQa8 [(.t 35)],
 oz <| .st 3 (.t 3) (.t 36)]
def lQ1X2 : C := (.seq (.seq (.reg rQ1X12 false [] [2, 3, 4, 5, 34]) (.cond (.t 34) .skip (.exit 6))) (.blk 7 (.reg rQ1X13 false [] [2, 3, 4, 5])))
def rQ1X14 : List O := [
 oo 37 <| .ld (some 3) (.t 3),
 oo 38 <| .ld (some 3) (.t 2),
 oo 39 <| .call nQa9 [(.t 37), (.t 38)]]
def rQ1X15 : List O := [
 oo 40 <| .ld (some 3) (.t 3),
 oo 41 <| .ld (some 3) (.t 2),
 oz <| .st 3 (.t 2) (.t 40),
 oz <| .st 3 (.t 3) (.t 41)]
def rQ1X16 : List O := [
 oo 42 <| .ld (some 3) (.t 3),
 oo 43 <| .ld (some 3) (.t 2),
 oo 44 <| .call nQb0 [(.t 42), (.t 43)],
 oz <| .st 3 (.t 3) (.t 44)]
def lQ1X3 : C := (.seq (.seq (.reg rQ1X11 false [] [2, 3, 4, 5, 32]) (.cond (.t 32) .skip (.exit 4))) (.blk 5 (.seq (.blk 6 (.loop lQ1X2)) (.seq (.seq (.reg rQ1X14 false [] [2, 3, 4, 5, 39]) (.cond (.t 39) (.reg rQ1X15 false [] [2, 3, 4, 5]) .skip)) (.reg rQ1X16 false [] [2, 3, 4, 5])))))
def rQ1X17 : List O := [
 oo 45 <| .mv (.t 5),
 oo 46 <| .mv (ki 0)]
def rQ1X18 : List O := [
 oo 47 <| .bin .lss (.t 46) (.t 45)]
def rQ1X19 : List O := [
 oo 48 <| .ld (some 3) (.t 2),
 oo 49 <| .call nQb1 [(.t 48)],
 oz <| .st 3 (.t 2) (.t 49)]
def rQ1X20 : List O := [
 oo 50 <| .bin .add (.t 46) (ki 1),
 oo 46 <| .mv (.t 50)]
def lQ1X4 : C := (.seq (.reg rQ1X18 false [] [2, 4, 45, 46, 47]) (.seq (.cond (.t 47) .skip (.exit 8)) (.seq (.blk 9 (.reg rQ1X19 false [] [2, 4, 45, 46])) (.reg rQ1X20 false [] [2, 4, 45, 46]))))
def rQ1X21 : List O := [
 oo 51 <| .ld (some 3) (.t 2),
 oz <| .st 3 (.t 4) (.t 51)]
def cQ1 : C := (.seq (.reg rQ1X0 false [] [2, 3, 4]) (.seq (.reg rQ1X1 false [] [2, 3, 4]) (.seq (.seq (.reg rQ1X2 false [] [2, 3, 4, 9]) (.cond (.t 9) (.seq (.reg rQ1X3 false [] [4]) .ret) .skip)) (.seq (.seq (.reg rQ1X4 false [] [2, 3, 4, 12]) (.cond (.t 12) (.seq (.reg rQ1X5 false [] [4]) .ret) .skip)) (.seq (.reg rQ1X6 false [] [2, 3, 4, 5]) (.seq (.blk 0 (.loop lQ1X0)) (.seq (.blk 2 (.loop lQ1X1)) (.seq (.blk 4 (.loop lQ1X3)) (.seq (.seq (.reg rQ1X17 false [] [2, 4, 45, 46]) (.blk 8 (.loop lQ1X4))) (.seq (.reg rQ1X21 false [] [4]) .ret))))))))))
def qQ1 : AFn := ⟨52, 2, [.c 4 (some 3)], cQ1⟩
/- (cohesion/wide.Number).Over -/
def rQ2X0 : List O := [
 oo 2 <| .box (.t 0),
 oo 3 <| .box (.t 1),
 oo 4 <| .mv (ki 0),
 oo 5 <| .mv (.k (.bool false))]
def rQ2X1 : List O := [
 oo 6 <| .new [(.int .u64 0), (.int .u64 0), (.bool false)],
 oo 7 <| .new [(.int .u64 0), (.int .u64 0), (.bool false)]]
def rQ2X2 : List O := [
 oo 10 <| .ld (some 3) (.t 3),
 oo 11 <| .call nQa6 [(.t 10)]]
def rQ2X3 : List O := [
 oo 4 <| .mv (ki 0),
 oo 5 <| .mv (.k (.bool false))]
def rQ2X4 : List O := [
 oo 8 <| .mv (ki 127)]
def rQ2X5 : List O := [
 oo 12 <| .mv (.t 8),
 oo 13 <| .bin .geq (.t 12) (ki 0)]
def rQ2X6 : List O := [
 oo 16 <| .ld (some 3) (.t 6),
 oo 17 <| .call nQb1 [(.t 16)],
 oo 18 <| .ld (some 3) (.t 7),
 oo 19 <| .call nQb1 [(.t 18)],
 oz <| .st 3 (.t 6) (.t 17),
 oz <| .st 3 (.t 7) (.t 19)]
def rQ2X7 : List O := [
 oo 20 <| .fad 1 (.t 2),
 oo 21 <| .ld none (.t 20),
 oo 22 <| .mv (.t 8),
 oo 23 <| .bin .shr (.t 21) (.t 22),
 oo 24 <| .bin .and (.t 23) (.k (.int .u64 1)),
 oo 9 <| .mv (.t 24)]
def rQ2X8 : List O := [
 oo 25 <| .mv (.t 8),
 oo 26 <| .bin .gtr (.t 25) (ki 63)]
def rQ2X9 : List O := [
 oo 27 <| .fad 0 (.t 2),
 oo 28 <| .ld none (.t 27),
 oo 29 <| .mv (.t 8),
 oo 30 <| .bin .sub (.t 29) (ki 64),
 oo 31 <| .bin .shr (.t 28) (.t 30),
 oo 32 <| .bin .and (.t 31) (.k (.int .u64 1)),
 oo 9 <| .mv (.t 32)]
def rQ2X10 : List O := [
 oo 33 <| .fad 1 (.t 6),
 oo 34 <| .ld none (.t 33),
 oo 35 <| .mv (.t 9),
 oo 36 <| .bin .or (.t 34) (.t 35),
 oo 37 <| .fad 1 (.t 6),
 oz <| .st 1 (.t 37) (.t 36)]
def rQ2X11 : List O := [
 oo 38 <| .ld (some 3) (.t 6),
 oo 39 <| .ld (some 3) (.t 3),
 oo 40 <| .call nQa9 [(.t 38), (.t 39)],
 oo 41 <| .un .not (.t 40)]
def rQ2X12 : List O := [
 oo 42 <| .ld (some 3) (.t 6),
 oo 43 <| .ld (some 3) (.t 3),
 oo 44 <| .call nQb0 [(.t 42), (.t 43)],
 oz <| .st 3 (.t 6) (.t 44)]
def rQ2X13 : List O := [
 oo 45 <| .fad 1 (.t 7),
 oo 46 <| .ld none (.t 45),
 oo 47 <| .bin .or (.t 46) (.k (.int .u64 1)),
 oo 48 <| .fad 1 (.t 7),
 oz <| .st 1 (.t 48) (.t 47)]
def rQ2X14 : List O := [
 oo 14 <| .mv (.t 8),
 oo 15 <| .bin .sub (.t 14) (ki 1),
 oo 8 <| .mv (.t 15)]
def lQ2X0 : C := (.seq (.seq (.reg rQ2X5 false [] [2, 3, 6, 7, 8, 13]) (.cond (.t 13) .skip (.exit 0))) (.seq (.blk 1 (.seq (.reg rQ2X6 true [(3, 3), (4, 4), (5, 5), (0, 2), (1, 2)] [2, 3, 6, 7, 8]) (.seq (.reg rQ2X7 false [] [2, 3, 6, 7, 8, 9]) (.seq (.seq (.reg rQ2X8 false [] [2, 3, 6, 7, 8, 9, 26]) (.cond (.t 26) (.reg rQ2X9 false [] [2, 3, 6, 7, 8, 9]) .skip)) (.seq (.reg rQ2X10 false [] [2, 3, 6, 7, 8]) (.seq (.reg rQ2X11 false [] [2, 3, 6, 7, 8, 41]) (.cond (.t 41) (.seq (.reg rQ2X12 false [] [2, 3, 6, 7, 8]) (.reg rQ2X13 false [] [2, 3, 6, 7, 8])) .skip))))))) (.reg rQ2X14 false [] [2, 3, 6, 7, 8])))
def rQ2X15 : List O := [
 oo 49 <| .fad 1 (.t 7),
 oo 50 <| .ld none (.t 49),
 oo 51 <| .bin .and (.t 50) (.k (.int .u64 4611686018427387903)),
 oo 52 <| .cvt .i64 (.t 51),
 oo 53 <| .fad 0 (.t 7),
 oo 54 <| .ld none (.t 53),
 oo 55 <| .bin .eql (.t 54) (.k (.int .u64 0)),
 oo 56 <| .mv (.t 55),
 ⟨(some 57), (some (56, true)), .fad 1 (.t 7)⟩,
 ⟨(some 58), (some (56, true)), .ld none (.t 57)⟩,
 ⟨(some 59), (some (56, true)), .bin .lss (.t 58) (.k (.int .u64 4611686018427387904))⟩,
 oo 60 <| .pick (.t 56) (.t 59) (.k (.bool false)),
 oo 4 <| .mv (.t 52),
 oo 5 <| .mv (.t 60)]
def cQ2 : C := (.seq (.reg rQ2X0 false [] [2, 3]) (.seq (.reg rQ2X1 false [] [2, 3, 6, 7]) (.seq (.seq (.reg rQ2X2 false [] [2, 3, 6, 7, 11]) (.cond (.t 11) (.seq (.reg rQ2X3 false [] [4, 5]) .ret) .skip)) (.seq (.seq (.reg rQ2X4 false [] [2, 3, 6, 7, 8]) (.blk 0 (.loop lQ2X0))) (.seq (.reg rQ2X15 true [(13, 13), (1, 4), (0, 5), (1, 5), (2, 5), (3, 5), (1, 6), (1, 7), (1, 8), (0, 9), (1, 9), (2, 9), (3, 9), (1, 10), (1, 11), (9, 12)] [4, 5]) .ret)))))
def qQ2 : AFn := ⟨61, 2, [.t 4, .t 5], cQ2⟩
/- (cohesion/wide.Number).Negative -/
def rQ3X0 : List O := [
 oo 1 <| .box (.t 0),
 oo 2 <| .mv (.k (.bool false))]
def rQ3X1 : List O := [
 oo 3 <| .fad 2 (.t 1),
 oo 4 <| .ld none (.t 3),
 oo 5 <| .mv (.t 4),
 ⟨(some 6), (some (5, true)), .ld (some 3) (.t 1)⟩,
 ⟨(some 7), (some (5, true)), .call nQa6 [(.t 6)]⟩,
 ⟨(some 8), (some (5, true)), .un .not (.t 7)⟩,
 oo 9 <| .pick (.t 5) (.t 8) (.k (.bool false)),
 oo 2 <| .mv (.t 9)]
def cQ3 : C := (.seq (.reg rQ3X0 false [] [1]) (.seq (.reg rQ3X1 false [] [2]) .ret))
def qQ3 : AFn := ⟨10, 1, [.t 2], cQ3⟩
/- cohesion/wide.size -/
def rQ4X0 : List O := [
 oo 2 <| .mv (.k (.int .u64 0))]
def rQ4X1 : List O := [
 oo 3 <| .mv (.t 0),
 oo 4 <| .bin .lss (.t 3) (ki 0)]
def rQ4X2 : List O := [
 oo 5 <| .mv (.t 0),
 oo 6 <| .un .neg (.t 5),
 oo 7 <| .cvt .u64 (.t 6),
 oo 2 <| .mv (.t 7)]
def rQ4X3 : List O := [
 oo 8 <| .mv (.t 0),
 oo 9 <| .cvt .u64 (.t 8),
 oo 2 <| .mv (.t 9)]
def cQ4 : C := (.seq (.reg rQ4X0 false [] [0]) (.seq (.seq (.reg rQ4X1 false [] [0, 4]) (.cond (.t 4) (.seq (.reg rQ4X2 false [] [2]) .ret) .skip)) (.seq (.reg rQ4X3 false [] [2]) .ret)))
def qQ4 : AFn := ⟨10, 1, [.t 2], cQ4⟩
/- cohesion/cohesionref03.Common -/
def rQ5X0 : List O := [
 oo 3 <| .box (.t 0),
 oo 6 <| .mv (.k (.own 1 []))]
def rQ5X1 : List O := [
 oo 7 <| .mv (.t 1),
 oo 8 <| .mv (.t 2),
 oo 9 <| .bin .eql (.t 7) (.t 8)]
def rQ5X2 : List O := [
 oo 6 <| .mv (.k (.own 1 []))]
def rQ5X3 : List O := [
 oo 10 <| .ld (some 2) (.t 3),
 oo 11 <| .mv (.t 1),
 oo 12 <| .call nQE [(.t 10), (.t 11)],
 oo 13 <| .ld (some 2) (.t 3),
 oo 14 <| .mv (.t 2),
 oo 15 <| .call nQE [(.t 13), (.t 14)],
 oo 16 <| .call nQb2 [(.t 12), (.t 15)],
 oo 6 <| .mv (.t 16)]
def cQ5 : C := (.seq (.reg rQ5X0 false [] [1, 2, 3]) (.seq (.seq (.reg rQ5X1 false [] [1, 2, 3, 9]) (.cond (.t 9) (.seq (.reg rQ5X2 false [] [6]) .ret) .skip)) (.seq (.reg rQ5X3 true [(5, 5), (6, 6), (7, 7), (0, 1), (0, 3), (1, 3), (2, 3), (0, 4), (2, 4), (3, 4)] [6]) .ret)))
def qQ5 : AFn := ⟨17, 3, [.t 6], cQ5⟩
/- cohesion/cohesionref01.Make -/
def rQ6X0 : List O := [
 oo 4 <| .new [(.int .i64 0), (.int .i64 0)],
 oo 5 <| .mv (ki 0)]
def rQ6X1 : List O := [
 oo 6 <| .mv (.t 1),
 oo 7 <| .bin .eql (.t 6) (ki 0)]
def rQ6X2 : List O := [
 oo 8 <| .build [(.int .i64 0), (.int .i64 0)] [],
 oz <| .st 2 (.t 4) (.t 8),
 oo 5 <| .mv (ki 2)]
def rQ6X3 : List O := [
 oo 9 <| .mv (.t 0),
 oo 10 <| .bin .lss (.t 9) (ki 0),
 oo 11 <| .mv (.t 1),
 oo 12 <| .bin .lss (.t 11) (ki 0),
 oo 13 <| .eq true .bool (.t 10) (.t 12),
 oo 14 <| .mv (.t 0),
 oo 15 <| .call nQb4 [(.t 14)],
 oo 16 <| .build [(.int .u64 0), (.int .u64 0)] [(0, 1, (.k (.int .u64 0))), (1, 1, (.t 15))],
 oo 17 <| .mv (.t 1),
 oo 18 <| .call nQb4 [(.t 17)],
 oo 19 <| .build [(.int .u64 0), (.int .u64 0)] [(0, 1, (.k (.int .u64 0))), (1, 1, (.t 18))],
 oo 20 <| .call nQb3 [(.t 13), (.t 16), (.t 19)],
 oo 21 <| .ext 0 (.t 20),
 oo 22 <| .ext 1 (.t 20),
 oz <| .st 2 (.t 4) (.t 21),
 oo 5 <| .mv (.t 22)]
def cQ6 : C := (.seq (.reg rQ6X0 false [] [0, 1, 4]) (.seq (.seq (.reg rQ6X1 false [] [0, 1, 4, 7]) (.cond (.t 7) (.seq (.reg rQ6X2 false [] [4, 5]) .ret) .skip)) (.seq (.reg rQ6X3 false [] [4, 5]) .ret)))
def qQ6 : AFn := ⟨23, 2, [.c 4 (some 2), .t 5], cQ6⟩
/- slices.IndexFunc[[]int,int] -/
def rQ7X0 : List O := [
 oo 4 <| .mv (ki 0)]
def rQ7X1 : List O := [
 oo 6 <| .mv (.t 0),
 oo 7 <| .len (.t 6),
 oo 8 <| .mv (ki 0)]
def rQ7X2 : List O := [
 oo 9 <| .bin .lss (.t 8) (.t 7)]
def rQ7X3 : List O := [
 oo 10 <| .mv (.t 8),
 oo 5 <| .mv (.t 10)]
def rQ7X4 : List O := [
 oo 11 <| .mv (.t 1),
 oo 12 <| .mv (.t 0),
 oo 13 <| .mv (.t 5),
 oo 14 <| .ixa 1 (.t 12) (.t 13),
 oo 15 <| .ld none (.t 14),
 oo 16 <| .callv (.t 11) [(.t 15)]]
def rQ7X5 : List O := [
 oo 17 <| .mv (.t 5),
 oo 4 <| .mv (.t 17)]
def rQ7X6 : List O := [
 oo 18 <| .bin .add (.t 8) (ki 1),
 oo 8 <| .mv (.t 18)]
def lQ7X0 : C := (.seq (.reg rQ7X2 false [] [0, 1, 7, 8, 9]) (.seq (.cond (.t 9) .skip (.exit 0)) (.seq (.blk 1 (.seq (.reg rQ7X3 false [] [0, 1, 5, 7, 8]) (.seq (.reg rQ7X4 false [] [0, 1, 5, 7, 8, 16]) (.cond (.t 16) (.seq (.reg rQ7X5 false [] [4]) .ret) .skip)))) (.reg rQ7X6 false [] [0, 1, 7, 8]))))
def rQ7X7 : List O := [
 oo 4 <| .mv (.k (.int .i64 (-1)))]
def cQ7 : C := (.seq (.reg rQ7X0 false [] [0, 1]) (.seq (.seq (.reg rQ7X1 false [] [0, 1, 7, 8]) (.blk 0 (.loop lQ7X0))) (.seq (.reg rQ7X7 false [] [4]) .ret)))
def qQ7 : AFn := ⟨19, 2, [.t 4], cQ7⟩
/- cohesion/triangles.lists -/
def rQ8X0 : List O := [
 oo 1 <| .box (.t 0),
 oo 2 <| .mv (.k (.own 1 []))]
def rQ8X1 : List O := [
 oo 8 <| .fad 0 (.t 1),
 oo 9 <| .ld none (.t 8),
 oo 10 <| .mks 1 [(.own 1001 [])] (.t 9) (.t 9),
 oo 3 <| .mv (.t 10)]
def rQ8X2 : List O := [
 oo 11 <| .fad 1 (.t 1),
 oo 12 <| .ld none (.t 11),
 oo 13 <| .len (.t 12),
 oo 14 <| .mv (ki 0)]
def rQ8X3 : List O := [
 oo 15 <| .bin .lss (.t 14) (.t 13)]
def rQ8X4 : List O := [
 oo 16 <| .ixa 2 (.t 12) (.t 14),
 oo 17 <| .ld (some 2) (.t 16),
 oo 5 <| .new [(.int .i64 0), (.int .i64 0)],
 oz <| .st 2 (.t 5) (.t 17)]
def rQ8X5 : List O := [
 oo 18 <| .mv (.t 3),
 oo 19 <| .fad 0 (.t 5),
 oo 20 <| .ld none (.t 19),
 oo 21 <| .mv (.t 3),
 oo 22 <| .fad 1 (.t 5),
 oo 23 <| .ld none (.t 22),
 oo 24 <| .mv (.t 3),
 oo 25 <| .fad 0 (.t 5),
 oo 26 <| .ld none (.t 25),
 oo 27 <| .ixa 1 (.t 24) (.t 26),
 oo 28 <| .ld none (.t 27),
 oo 29 <| .fad 1 (.t 5),
 oo 30 <| .ld none (.t 29),
 oo 31 <| .bslice 1 1 [(.int .i64 0)] [(0, 1, (.t 30))],
 oo 32 <| .app 1 (.t 28) (.t 31),
 oo 33 <| .mv (.t 3),
 oo 34 <| .fad 1 (.t 5),
 oo 35 <| .ld none (.t 34),
 oo 36 <| .ixa 1 (.t 33) (.t 35),
 oo 37 <| .ld none (.t 36),
 oo 38 <| .fad 0 (.t 5),
 oo 39 <| .ld none (.t 38),
 oo 40 <| .bslice 1 1 [(.int .i64 0)] [(0, 1, (.t 39))],
 oo 41 <| .app 1 (.t 37) (.t 40),
 oo 42 <| .ixa 1 (.t 18) (.t 20),
 oz <| .st 1 (.t 42) (.t 32),
 oo 43 <| .ixa 1 (.t 21) (.t 23),
 oz <| .st 1 (.t 43) (.t 41)]
def rQ8X6 : List O := [
 oo 44 <| .bin .add (.t 14) (ki 1),
 oo 14 <| .mv (.t 44)]
def lQ8X0 : C := (.seq (.reg rQ8X3 false [] [3, 12, 13, 14, 15]) (.seq (.cond (.t 15) .skip (.exit 0)) (.seq (.blk 1 (.seq (.reg rQ8X4 false [] [3, 5, 12, 13, 14]) (.reg rQ8X5 true [(26, 26), (27, 27), (0, 2), (2, 3), (2, 4), (0, 5), (1, 5), (2, 5), (3, 5), (2, 6), (5, 6), (2, 7), (5, 7), (0, 8), (1, 8), (2, 8), (3, 8), (4, 8), (5, 8), (6, 8), (2, 9), (5, 9), (0, 10), (1, 10), (2, 10), (3, 10), (4, 10), (5, 10), (2, 11), (5, 11), (8, 11), (10, 11), (0, 12), (1, 12), (2, 12), (3, 12), (4, 12), (5, 12), (6, 12), (7, 12), (8, 12), (9, 12), (10, 12), (0, 13), (1, 13), (2, 13), (3, 13), (4, 13), (5, 13), (6, 13), (7, 13), (8, 13), (9, 13), (10, 13), (0, 14), (1, 14), (2, 14), (3, 14), (4, 14), (5, 14), (2, 15), (5, 15), (8, 15), (10, 15), (12, 15), (13, 15), (14, 15), (2, 16), (5, 16), (8, 16), (10, 16), (12, 16), (13, 16), (14, 16), (0, 17), (1, 17), (2, 17), (3, 17), (4, 17), (5, 17), (6, 17), (7, 17), (8, 17), (9, 17), (10, 17), (11, 17), (12, 17), (13, 17), (14, 17), (15, 17), (2, 18), (5, 18), (8, 18), (10, 18), (12, 18), (13, 18), (14, 18), (0, 19), (1, 19), (2, 19), (3, 19), (4, 19), (5, 19), (6, 19), (7, 19), (8, 19), (9, 19), (10, 19), (11, 19), (12, 19), (13, 19), (14, 19), (2, 20), (5, 20), (8, 20), (10, 20), (12, 20), (13, 20), (14, 20), (17, 20), (19, 20), (0, 21), (1, 21), (2, 21), (3, 21), (4, 21), (5, 21), (6, 21), (7, 21), (8, 21), (9, 21), (10, 21), (11, 21), (12, 21), (13, 21), (14, 21), (15, 21), (16, 21), (17, 21), (18, 21), (19, 21), (0, 22), (1, 22), (2, 22), (3, 22), (4, 22), (5, 22), (6, 22), (7, 22), (8, 22), (9, 22), (10, 22), (11, 22), (12, 22), (13, 22), (14, 22), (15, 22), (16, 22), (17, 22), (18, 22), (19, 22), (0, 23), (1, 23), (2, 23), (3, 23), (4, 23), (5, 23), (5, 24), (3, 25), (4, 25), (5, 25)] [3, 12, 13, 14]))) (.reg rQ8X6 false [] [3, 12, 13, 14]))))
def rQ8X7 : List O := [
 oo 45 <| .mv (.t 3),
 oo 46 <| .len (.t 45),
 oo 47 <| .mv (ki 0)]
def rQ8X8 : List O := [
 oo 48 <| .bin .lss (.t 47) (.t 46)]
def rQ8X9 : List O := [
 oo 49 <| .ixa 1 (.t 45) (.t 47),
 oo 50 <| .ld none (.t 49),
 oo 7 <| .mv (.t 50)]
def rQ8X10 : List O := [
 oo 51 <| .mv (.t 7),
 oo 52 <| .call nQz [(.t 51)]]
def rQ8X11 : List O := [
 oo 53 <| .bin .add (.t 47) (ki 1),
 oo 47 <| .mv (.t 53)]
def lQ8X1 : C := (.seq (.reg rQ8X8 false [] [3, 45, 46, 47, 48]) (.seq (.cond (.t 48) .skip (.exit 2)) (.seq (.blk 3 (.seq (.reg rQ8X9 false [] [3, 7, 45, 46, 47]) (.reg rQ8X10 false [] [3, 45, 46, 47]))) (.reg rQ8X11 false [] [3, 45, 46, 47]))))
def rQ8X12 : List O := [
 oo 54 <| .mv (.t 3),
 oo 2 <| .mv (.t 54)]
def cQ8 : C := (.seq (.reg rQ8X0 false [] [1]) (.seq (.reg rQ8X1 false [] [1, 3]) (.seq (.seq (.reg rQ8X2 false [] [3, 12, 13, 14]) (.blk 0 (.loop lQ8X0))) (.seq (.seq (.reg rQ8X7 false [] [3, 45, 46, 47]) (.blk 2 (.loop lQ8X1))) (.seq (.reg rQ8X12 false [] [2]) .ret)))))
def qQ8 : AFn := ⟨55, 1, [.t 2], cQ8⟩
/- cohesion/triangles.shared[int] -/
def rQ9X0 : List O := [
 oo 4 <| .mv (.k (.own 1 []))]
def rQ9X1 : List O := [
 oo 5 <| .mv (.k (.own 1 []))]
def rQ9X2 : List O := [
 oo 6 <| .mv (.t 0),
 oo 7 <| .len (.t 6),
 oo 8 <| .bin .gtr (.t 7) (ki 0),
 oo 9 <| .mv (.t 8),
 ⟨(some 10), (some (9, true)), .mv (.t 1)⟩,
 ⟨(some 11), (some (9, true)), .len (.t 10)⟩,
 ⟨(some 12), (some (9, true)), .bin .gtr (.t 11) (ki 0)⟩,
 oo 13 <| .pick (.t 9) (.t 12) (.k (.bool false))]
def rQ9X3 : List O := [
 oo 14 <| .mv (.t 0),
 oo 15 <| .ixa 1 (.t 14) (ki 0),
 oo 16 <| .ld none (.t 15),
 oo 17 <| .mv (.t 1),
 oo 18 <| .ixa 1 (.t 17) (ki 0),
 oo 19 <| .ld none (.t 18),
 oo 20 <| .call nQV [(.t 16), (.t 19)]]
def rQ9X4 : List O := [
 oo 32 <| .bin .eql (.t 20) (.k (.int .i64 (-1))),
 oo 31 <| .mv (.t 32)]
def rQ9X5 : List O := [
 oo 33 <| .mv (.t 0),
 oo 34 <| .slc 1 (.t 33) (some (ki 1)) none,
 oo 0 <| .mv (.t 34)]
def rQ9X6 : List O := [
 oo 36 <| .bin .eql (.t 20) (ki 1),
 oo 35 <| .mv (.t 36)]
def rQ9X7 : List O := [
 oo 37 <| .mv (.t 1),
 oo 38 <| .slc 1 (.t 37) (some (ki 1)) none,
 oo 1 <| .mv (.t 38)]
def rQ9X8 : List O := [
 oo 21 <| .mv (.t 5),
 oo 22 <| .mv (.t 0),
 oo 23 <| .ixa 1 (.t 22) (ki 0),
 oo 24 <| .ld none (.t 23),
 oo 25 <| .bslice 1 1 [(.int .i64 0)] [(0, 1, (.t 24))],
 oo 26 <| .app 1 (.t 21) (.t 25),
 oo 5 <| .mv (.t 26)]
def rQ9X9 : List O := [
 oo 27 <| .mv (.t 0),
 oo 28 <| .slc 1 (.t 27) (some (ki 1)) none,
 oo 29 <| .mv (.t 1),
 oo 30 <| .slc 1 (.t 29) (some (ki 1)) none,
 oo 0 <| .mv (.t 28),
 oo 1 <| .mv (.t 30)]
def lQ9X0 : C := (.seq (.seq (.reg rQ9X2 false [] [0, 1, 5, 13]) (.cond (.t 13) .skip (.exit 0))) (.blk 1 (.seq (.reg rQ9X3 true [(6, 6), (2, 3), (2, 4), (0, 5), (1, 5), (2, 5)] [0, 1, 5, 20]) (.blk 2 (.seq (.reg rQ9X4 false [] [0, 1, 5, 20, 31]) (.cond (.t 31) (.reg rQ9X5 false [] [0, 1, 5]) (.seq (.reg rQ9X6 false [] [0, 1, 5, 35]) (.cond (.t 35) (.reg rQ9X7 false [] [0, 1, 5]) (.seq (.reg rQ9X8 false [] [0, 1, 5]) (.reg rQ9X9 true [(5, 5)] [0, 1, 5]))))))))))
def rQ9X10 : List O := [
 oo 39 <| .mv (.t 5),
 oo 4 <| .mv (.t 39)]
def cQ9 : C := (.seq (.reg rQ9X0 false [] [0, 1]) (.seq (.reg rQ9X1 false [] [0, 1, 5]) (.seq (.blk 0 (.loop lQ9X0)) (.seq (.reg rQ9X10 false [] [4]) .ret))))
def qQ9 : AFn := ⟨40, 2, [.t 4], cQ9⟩
/- cohesion/cohesionref02.put -/
def rQa0X0 : List O := [
 oo 4 <| .mv (.k (.own 1 []))]
def rQa0X1 : List O := [
 oo 5 <| .mv (ki 0)]
def rQa0X2 : List O := [
 oo 7 <| .mv (.t 5),
 oo 8 <| .mv (.t 0),
 oo 9 <| .len (.t 8),
 oo 10 <| .bin .lss (.t 7) (.t 9),
 oo 11 <| .mv (.t 10),
 ⟨(some 12), (some (11, true)), .mv (.t 0)⟩,
 ⟨(some 13), (some (11, true)), .mv (.t 5)⟩,
 ⟨(some 14), (some (11, true)), .ixa 1 (.t 12) (.t 13)⟩,
 ⟨(some 15), (some (11, true)), .ld none (.t 14)⟩,
 ⟨(some 16), (some (11, true)), .mv (.t 1)⟩,
 ⟨(some 17), (some (11, true)), .bin .lss (.t 15) (.t 16)⟩,
 oo 18 <| .pick (.t 11) (.t 17) (.k (.bool false))]
def rQa0X3 : List O := [
 oo 19 <| .mv (.t 5),
 oo 20 <| .bin .add (.t 19) (ki 1),
 oo 5 <| .mv (.t 20)]
def lQa0X0 : C := (.seq (.seq (.reg rQa0X2 false [] [0, 1, 5, 18]) (.cond (.t 18) .skip (.exit 0))) (.blk 1 (.reg rQa0X3 false [] [0, 1, 5])))
def rQa0X4 : List O := [
 oo 21 <| .mv (.t 5),
 oo 22 <| .mv (.t 0),
 oo 23 <| .len (.t 22),
 oo 24 <| .bin .lss (.t 21) (.t 23),
 oo 25 <| .mv (.t 24),
 ⟨(some 26), (some (25, true)), .mv (.t 0)⟩,
 ⟨(some 27), (some (25, true)), .mv (.t 5)⟩,
 ⟨(some 28), (some (25, true)), .ixa 1 (.t 26) (.t 27)⟩,
 ⟨(some 29), (some (25, true)), .ld none (.t 28)⟩,
 ⟨(some 30), (some (25, true)), .mv (.t 1)⟩,
 ⟨(some 31), (some (25, true)), .bin .eql (.t 29) (.t 30)⟩,
 oo 32 <| .pick (.t 25) (.t 31) (.k (.bool false))]
def rQa0X5 : List O := [
 oo 33 <| .mv (.t 0),
 oo 4 <| .mv (.t 33)]
def rQa0X6 : List O := [
 oo 34 <| .mv (.t 0),
 oo 35 <| .mv (.t 5),
 oo 36 <| .slc 1 (.t 34) none (some (.t 35)),
 oo 37 <| .app 1 (.k (.own 1 [])) (.t 36),
 oo 6 <| .mv (.t 37)]
def rQa0X7 : List O := [
 oo 38 <| .mv (.t 6),
 oo 39 <| .mv (.t 1),
 oo 40 <| .bslice 1 1 [(.int .i64 0)] [(0, 1, (.t 39))],
 oo 41 <| .app 1 (.t 38) (.t 40),
 oo 42 <| .mv (.t 0),
 oo 43 <| .mv (.t 5),
 oo 44 <| .slc 1 (.t 42) (some (.t 43)) none,
 oo 45 <| .app 1 (.t 41) (.t 44),
 oo 4 <| .mv (.t 45)]
def cQa0 : C := (.seq (.reg rQa0X0 false [] [0, 1]) (.seq (.reg rQa0X1 false [] [0, 1, 5]) (.seq (.blk 0 (.loop lQa0X0)) (.seq (.seq (.reg rQa0X4 false [] [0, 1, 5, 32]) (.cond (.t 32) (.seq (.reg rQa0X5 false [] [4]) .ret) .skip)) (.seq (.reg rQa0X6 false [] [0, 1, 5, 6]) (.seq (.reg rQa0X7 true [(7, 7), (8, 8), (0, 2), (2, 4), (3, 4), (2, 5), (3, 5), (2, 6), (3, 6)] [4]) .ret))))))
def qQa0 : AFn := ⟨46, 2, [.t 4], cQa0⟩
/- cmp.isNaN[int] -/
def rQa1X0 : List O := [
 oo 2 <| .mv (.k (.bool false))]
def rQa1X1 : List O := [
 oo 3 <| .mv (.t 0),
 oo 4 <| .mv (.t 0),
 oo 5 <| .bin .neq (.t 3) (.t 4),
 oo 2 <| .mv (.t 5)]
def cQa1 : C := (.seq (.reg rQa1X0 false [] [0]) (.seq (.reg rQa1X1 false [] [2]) .ret))
def qQa1 : AFn := ⟨6, 1, [.t 2], cQa1⟩
/- math/bits.TrailingZeros64 -/
def rQa2X0 : List O := [
 oo 2 <| .mv (ki 0)]
def rQa2X1 : List O := [
 oo 3 <| .mv (.t 0),
 oo 4 <| .bin .eql (.t 3) (.k (.int .u64 0))]
def rQa2X2 : List O := [
 oo 2 <| .mv (ki 64)]
def rQa2X3 : List O := [
 oo 5 <| .mv (.t 0),
 oo 6 <| .mv (.t 0),
 oo 7 <| .un .neg (.t 6),
 oo 8 <| .bin .and (.t 5) (.t 7),
 oo 9 <| .bin .mul (.t 8) (.k (.int .u64 285870213051353865)),
 oo 10 <| .bin .shr (.t 9) (.k (.int .u64 58)),
 oo 11 <| .ixp 64 1 (.g 0) (.t 10),
 oo 12 <| .ld none (.t 11),
 oo 13 <| .cvt .i64 (.t 12),
 oo 2 <| .mv (.t 13)]
def cQa2 : C := (.seq (.reg rQa2X0 false [] [0]) (.seq (.seq (.reg rQa2X1 false [] [0, 4]) (.cond (.t 4) (.seq (.reg rQa2X2 false [] [2]) .ret) .skip)) (.seq (.reg rQa2X3 false [] [2]) .ret)))
def qQa2 : AFn := ⟨14, 1, [.t 2], cQa2⟩
/- cohesion/masks.Rows -/
def rQa3X0 : List O := [
 oo 1 <| .box (.t 0),
 oo 2 <| .mv (.k (.own 1 []))]
def rQa3X1 : List O := [
 oo 6 <| .fad 0 (.t 1),
 oo 7 <| .ld none (.t 6),
 oo 8 <| .max [(.t 7), (ki 0)],
 oo 9 <| .min [(.t 8), (ki 64)],
 oo 10 <| .mks 1 [(.int .u64 0)] (.t 9) (.t 9),
 oo 3 <| .mv (.t 10)]
def rQa3X2 : List O := [
 oo 11 <| .fad 1 (.t 1),
 oo 12 <| .ld none (.t 11),
 oo 13 <| .len (.t 12),
 oo 14 <| .mv (ki 0)]
def rQa3X3 : List O := [
 oo 15 <| .bin .lss (.t 14) (.t 13)]
def rQa3X4 : List O := [
 oo 16 <| .ixa 2 (.t 12) (.t 14),
 oo 17 <| .ld (some 2) (.t 16),
 oo 5 <| .new [(.int .i64 0), (.int .i64 0)],
 oz <| .st 2 (.t 5) (.t 17)]
def rQa3X5 : List O := [
 oo 18 <| .fad 0 (.t 5),
 oo 19 <| .ld none (.t 18),
 oo 20 <| .bin .geq (.t 19) (ki 0),
 oo 21 <| .mv (.t 20),
 ⟨(some 22), (some (21, true)), .fad 0 (.t 5)⟩,
 ⟨(some 23), (some (21, true)), .ld none (.t 22)⟩,
 ⟨(some 24), (some (21, true)), .fad 1 (.t 5)⟩,
 ⟨(some 25), (some (21, true)), .ld none (.t 24)⟩,
 ⟨(some 26), (some (21, true)), .bin .lss (.t 23) (.t 25)⟩,
 oo 27 <| .pick (.t 21) (.t 26) (.k (.bool false)),
 oo 28 <| .mv (.t 27),
 ⟨(some 29), (some (28, true)), .fad 1 (.t 5)⟩,
 ⟨(some 30), (some (28, true)), .ld none (.t 29)⟩,
 ⟨(some 31), (some (28, true)), .mv (.t 3)⟩,
 ⟨(some 32), (some (28, true)), .len (.t 31)⟩,
 ⟨(some 33), (some (28, true)), .bin .lss (.t 30) (.t 32)⟩,
 oo 34 <| .pick (.t 28) (.t 33) (.k (.bool false))]
def rQa3X6 : List O := [
 oo 35 <| .mv (.t 3),
 oo 36 <| .fad 0 (.t 5),
 oo 37 <| .ld none (.t 36),
 oo 38 <| .ixa 1 (.t 35) (.t 37),
 oo 39 <| .ld none (.t 38),
 oo 40 <| .fad 1 (.t 5),
 oo 41 <| .ld none (.t 40),
 oo 42 <| .bin .shl (.k (.int .u64 1)) (.t 41),
 oo 43 <| .bin .or (.t 39) (.t 42),
 oo 44 <| .ixa 1 (.t 35) (.t 37),
 oz <| .st 1 (.t 44) (.t 43)]
def rQa3X7 : List O := [
 oo 45 <| .mv (.t 3),
 oo 46 <| .fad 1 (.t 5),
 oo 47 <| .ld none (.t 46),
 oo 48 <| .ixa 1 (.t 45) (.t 47),
 oo 49 <| .ld none (.t 48),
 oo 50 <| .fad 0 (.t 5),
 oo 51 <| .ld none (.t 50),
 oo 52 <| .bin .shl (.k (.int .u64 1)) (.t 51),
 oo 53 <| .bin .or (.t 49) (.t 52),
 oo 54 <| .ixa 1 (.t 45) (.t 47),
 oz <| .st 1 (.t 54) (.t 53)]
def rQa3X8 : List O := [
 oo 55 <| .bin .add (.t 14) (ki 1),
 oo 14 <| .mv (.t 55)]
def lQa3X0 : C := (.seq (.reg rQa3X3 false [] [3, 12, 13, 14, 15]) (.seq (.cond (.t 15) .skip (.exit 0)) (.seq (.blk 1 (.seq (.reg rQa3X4 false [] [3, 5, 12, 13, 14]) (.seq (.reg rQa3X5 false [] [3, 5, 12, 13, 14, 34]) (.cond (.t 34) (.seq (.reg rQa3X6 true [(8, 8), (9, 9), (10, 10), (0, 2), (2, 5), (4, 5), (0, 6), (1, 6), (2, 6), (3, 6), (4, 6), (2, 7), (4, 7)] [3, 5, 12, 13, 14]) (.reg rQa3X7 true [(8, 8), (9, 9), (10, 10), (0, 2), (2, 5), (4, 5), (0, 6), (1, 6), (2, 6), (3, 6), (4, 6), (2, 7), (4, 7)] [3, 12, 13, 14])) .skip)))) (.reg rQa3X8 false [] [3, 12, 13, 14]))))
def rQa3X9 : List O := [
 oo 56 <| .mv (.t 3),
 oo 2 <| .mv (.t 56)]
def cQa3 : C := (.seq (.reg rQa3X0 false [] [1]) (.seq (.reg rQa3X1 false [] [1, 3]) (.seq (.seq (.reg rQa3X2 false [] [3, 12, 13, 14]) (.blk 0 (.loop lQa3X0))) (.seq (.reg rQa3X9 false [] [2]) .ret))))
def qQa3 : AFn := ⟨57, 1, [.t 2], cQa3⟩
/- cohesion/graph.edge -/
def rQa4X0 : List O := [
 oo 4 <| .new [(.int .i64 0), (.int .i64 0)]]
def rQa4X1 : List O := [
 oo 5 <| .mv (.t 0),
 oo 6 <| .mv (.t 1),
 oo 7 <| .min [(.t 5), (.t 6)],
 oo 8 <| .mv (.t 0),
 oo 9 <| .mv (.t 1),
 oo 10 <| .max [(.t 8), (.t 9)],
 oo 11 <| .build [(.int .i64 0), (.int .i64 0)] [(0, 1, (.t 7)), (1, 1, (.t 10))],
 oz <| .st 2 (.t 4) (.t 11)]
def cQa4 : C := (.seq (.reg rQa4X0 false [] [0, 1, 4]) (.seq (.reg rQa4X1 false [] [4]) .ret))
def qQa4 : AFn := ⟨12, 2, [.c 4 (some 2)], cQa4⟩
/- slices.BinarySearchFunc[[]cohesion/api.Edge,cohesion/api.Edge,cohesion/api.Edge] -/
def rQa5X0 : List O := [
 oo 4 <| .box (.t 1),
 oo 6 <| .mv (ki 0),
 oo 7 <| .mv (.k (.bool false))]
def rQa5X1 : List O := [
 oo 12 <| .mv (.t 0),
 oo 13 <| .len (.t 12),
 oo 8 <| .mv (.t 13)]
def rQa5X2 : List O := [
 oo 14 <| .mv (.t 8),
 oo 9 <| .mv (ki 0),
 oo 10 <| .mv (.t 14)]
def rQa5X3 : List O := [
 oo 15 <| .mv (.t 9),
 oo 16 <| .mv (.t 10),
 oo 17 <| .bin .lss (.t 15) (.t 16)]
def rQa5X4 : List O := [
 oo 18 <| .mv (.t 9),
 oo 19 <| .mv (.t 10),
 oo 20 <| .bin .add (.t 18) (.t 19),
 oo 21 <| .cvt .u64 (.t 20),
 oo 22 <| .bin .shr (.t 21) (.k (.int .u64 1)),
 oo 23 <| .cvt .i64 (.t 22),
 oo 11 <| .mv (.t 23)]
def rQa5X5 : List O := [
 oo 24 <| .mv (.t 2),
 oo 25 <| .mv (.t 0),
 oo 26 <| .mv (.t 11),
 oo 27 <| .ixa 2 (.t 25) (.t 26),
 oo 28 <| .ld (some 2) (.t 27),
 oo 29 <| .ld (some 2) (.t 4),
 oo 30 <| .callv (.t 24) [(.t 28), (.t 29)],
 oo 31 <| .bin .lss (.t 30) (ki 0)]
def rQa5X6 : List O := [
 oo 32 <| .mv (.t 11),
 oo 33 <| .bin .add (.t 32) (ki 1),
 oo 9 <| .mv (.t 33)]
def rQa5X7 : List O := [
 oo 34 <| .mv (.t 11),
 oo 10 <| .mv (.t 34)]
def lQa5X0 : C := (.seq (.seq (.reg rQa5X3 false [] [0, 2, 4, 8, 9, 10, 17]) (.cond (.t 17) .skip (.exit 0))) (.blk 1 (.seq (.reg rQa5X4 false [] [0, 2, 4, 8, 9, 10, 11]) (.seq (.reg rQa5X5 true [(6, 6), (7, 7), (0, 4), (0, 5), (1, 5), (2, 5), (3, 5), (4, 5)] [0, 2, 4, 8, 9, 10, 11, 31]) (.cond (.t 31) (.reg rQa5X6 false [] [0, 2, 4, 8, 9, 10]) (.reg rQa5X7 false [] [0, 2, 4, 8, 9, 10]))))))
def rQa5X8 : List O := [
 oo 35 <| .mv (.t 9),
 oo 36 <| .mv (.t 9),
 oo 37 <| .mv (.t 8),
 oo 38 <| .bin .lss (.t 36) (.t 37),
 oo 39 <| .mv (.t 38),
 ⟨(some 40), (some (39, true)), .mv (.t 2)⟩,
 ⟨(some 41), (some (39, true)), .mv (.t 0)⟩,
 ⟨(some 42), (some (39, true)), .mv (.t 9)⟩,
 ⟨(some 43), (some (39, true)), .ixa 2 (.t 41) (.t 42)⟩,
 ⟨(some 44), (some (39, true)), .ld (some 2) (.t 43)⟩,
 ⟨(some 45), (some (39, true)), .ld (some 2) (.t 4)⟩,
 ⟨(some 46), (some (39, true)), .callv (.t 40) [(.t 44), (.t 45)]⟩,
 ⟨(some 47), (some (39, true)), .bin .eql (.t 46) (ki 0)⟩,
 oo 48 <| .pick (.t 39) (.t 47) (.k (.bool false)),
 oo 6 <| .mv (.t 35),
 oo 7 <| .mv (.t 48)]
def cQa5 : C := (.seq (.reg rQa5X0 false [] [0, 2, 4]) (.seq (.reg rQa5X1 false [] [0, 2, 4, 8]) (.seq (.reg rQa5X2 false [] [0, 2, 4, 8, 9, 10]) (.seq (.blk 0 (.loop lQa5X0)) (.seq (.reg rQa5X8 true [(15, 15), (0, 9), (5, 9), (0, 10), (5, 10), (6, 10), (7, 10), (8, 10), (9, 10), (0, 11)] [6, 7]) .ret)))))
def qQa5 : AFn := ⟨49, 3, [.t 6, .t 7], cQa5⟩
/- (cohesion/wide.Number).Zero -/
def rQa6X0 : List O := [
 oo 1 <| .box (.t 0),
 oo 2 <| .mv (.k (.bool false))]
def rQa6X1 : List O := [
 oo 3 <| .fad 0 (.t 1),
 oo 4 <| .ld none (.t 3),
 oo 5 <| .bin .eql (.t 4) (.k (.int .u64 0)),
 oo 6 <| .mv (.t 5),
 ⟨(some 7), (some (6, true)), .fad 1 (.t 1)⟩,
 ⟨(some 8), (some (6, true)), .ld none (.t 7)⟩,
 ⟨(some 9), (some (6, true)), .bin .eql (.t 8) (.k (.int .u64 0))⟩,
 oo 10 <| .pick (.t 6) (.t 9) (.k (.bool false)),
 oo 2 <| .mv (.t 10)]
def cQa6 : C := (.seq (.reg rQa6X0 false [] [1]) (.seq (.reg rQa6X1 false [] [2]) .ret))
def qQa6 : AFn := ⟨11, 1, [.t 2], cQa6⟩
/- (cohesion/wide.Number).even -/
def rQa7X0 : List O := [
 oo 1 <| .box (.t 0),
 oo 2 <| .mv (.k (.bool false))]
def rQa7X1 : List O := [
 oo 3 <| .fad 1 (.t 1),
 oo 4 <| .ld none (.t 3),
 oo 5 <| .bin .and (.t 4) (.k (.int .u64 1)),
 oo 6 <| .bin .eql (.t 5) (.k (.int .u64 0)),
 oo 2 <| .mv (.t 6)]
def cQa7 : C := (.seq (.reg rQa7X0 false [] [1]) (.seq (.reg rQa7X1 false [] [2]) .ret))
def qQa7 : AFn := ⟨7, 1, [.t 2], cQa7⟩
/- (cohesion/wide.Number).half -/
def rQa8X0 : List O := [
 oo 1 <| .box (.t 0),
 oo 2 <| .new [(.int .u64 0), (.int .u64 0), (.bool false)]]
def rQa8X1 : List O := [
 oo 3 <| .fad 0 (.t 1),
 oo 4 <| .ld none (.t 3),
 oo 5 <| .bin .shr (.t 4) (.k (.int .u64 1)),
 oo 6 <| .fad 1 (.t 1),
 oo 7 <| .ld none (.t 6),
 oo 8 <| .bin .shr (.t 7) (.k (.int .u64 1)),
 oo 9 <| .fad 0 (.t 1),
 oo 10 <| .ld none (.t 9),
 oo 11 <| .bin .shl (.t 10) (.k (.int .u64 63)),
 oo 12 <| .bin .or (.t 8) (.t 11),
 oo 13 <| .fad 2 (.t 1),
 oo 14 <| .ld none (.t 13),
 oo 15 <| .build [(.int .u64 0), (.int .u64 0), (.bool false)] [(0, 1, (.t 5)), (1, 1, (.t 12)), (2, 1, (.t 14))],
 oz <| .st 3 (.t 2) (.t 15)]
def cQa8 : C := (.seq (.reg rQa8X0 false [] [1, 2]) (.seq (.reg rQa8X1 false [] [2]) .ret))
def qQa8 : AFn := ⟨16, 1, [.c 2 (some 3)], cQa8⟩
/- (cohesion/wide.Number).below -/
def rQa9X0 : List O := [
 oo 2 <| .box (.t 0),
 oo 3 <| .box (.t 1),
 oo 4 <| .mv (.k (.bool false))]
def rQa9X1 : List O := [
 oo 5 <| .fad 0 (.t 2),
 oo 6 <| .ld none (.t 5),
 oo 7 <| .fad 0 (.t 3),
 oo 8 <| .ld none (.t 7),
 oo 9 <| .bin .lss (.t 6) (.t 8),
 oo 10 <| .mv (.t 9),
 ⟨(some 11), (some (10, false)), .fad 0 (.t 2)⟩,
 ⟨(some 12), (some (10, false)), .ld none (.t 11)⟩,
 ⟨(some 13), (some (10, false)), .fad 0 (.t 3)⟩,
 ⟨(some 14), (some (10, false)), .ld none (.t 13)⟩,
 ⟨(some 15), (some (10, false)), .bin .eql (.t 12) (.t 14)⟩,
 ⟨(some 16), (some (10, false)), .mv (.t 15)⟩,
 ⟨(some 17), (some (16, true)), .fad 1 (.t 2)⟩,
 ⟨(some 18), (some (16, true)), .ld none (.t 17)⟩,
 ⟨(some 19), (some (16, true)), .fad 1 (.t 3)⟩,
 ⟨(some 20), (some (16, true)), .ld none (.t 19)⟩,
 ⟨(some 21), (some (16, true)), .bin .lss (.t 18) (.t 20)⟩,
 ⟨(some 22), (some (10, false)), .pick (.t 16) (.t 21) (.k (.bool false))⟩,
 oo 23 <| .pick (.t 10) (.k (.bool true)) (.t 22),
 oo 4 <| .mv (.t 23)]
def cQa9 : C := (.seq (.reg rQa9X0 false [] [2, 3]) (.seq (.reg rQa9X1 false [] [4]) .ret))
def qQa9 : AFn := ⟨24, 2, [.t 4], cQa9⟩
/- (cohesion/wide.Number).less -/
def rQb0X0 : List O := [
 oo 2 <| .box (.t 0),
 oo 3 <| .box (.t 1),
 oo 4 <| .new [(.int .u64 0), (.int .u64 0), (.bool false)]]
def rQb0X1 : List O := [
 oo 10 <| .fad 1 (.t 2),
 oo 11 <| .ld none (.t 10),
 oo 12 <| .fad 1 (.t 3),
 oo 13 <| .ld none (.t 12),
 oo 14 <| .call nQb5 [(.t 11), (.t 13), (.k (.int .u64 0))],
 oo 9 <| .mv (.t 14),
 oo 15 <| .ext 0 (.t 9),
 oo 16 <| .ext 1 (.t 9),
 oo 5 <| .mv (.t 15),
 oo 6 <| .mv (.t 16)]
def rQb0X2 : List O := [
 oo 18 <| .fad 0 (.t 2),
 oo 19 <| .ld none (.t 18),
 oo 20 <| .fad 0 (.t 3),
 oo 21 <| .ld none (.t 20),
 oo 22 <| .mv (.t 6),
 oo 23 <| .call nQb5 [(.t 19), (.t 21), (.t 22)],
 oo 17 <| .mv (.t 23),
 oo 24 <| .ext 0 (.t 17),
 oo 25 <| .ext 1 (.t 17),
 oo 7 <| .mv (.t 24),
 oo 8 <| .mv (.t 25)]
def rQb0X3 : List O := [
 oo 26 <| .mv (.t 7),
 oo 27 <| .mv (.t 5),
 oo 28 <| .fad 2 (.t 2),
 oo 29 <| .ld none (.t 28),
 oo 30 <| .build [(.int .u64 0), (.int .u64 0), (.bool false)] [(0, 1, (.t 26)), (1, 1, (.t 27)), (2, 1, (.t 29))],
 oz <| .st 3 (.t 4) (.t 30)]
def cQb0 : C := (.seq (.reg rQb0X0 false [] [2, 3, 4]) (.seq (.reg rQb0X1 false [] [2, 3, 4, 5, 6]) (.seq (.reg rQb0X2 false [] [2, 4, 5, 7]) (.seq (.reg rQb0X3 false [] [4]) .ret))))
def qQb0 : AFn := ⟨31, 2, [.c 4 (some 3)], cQb0⟩
/- (cohesion/wide.Number).twice -/
def rQb1X0 : List O := [
 oo 1 <| .box (.t 0),
 oo 2 <| .new [(.int .u64 0), (.int .u64 0), (.bool false)]]
def rQb1X1 : List O := [
 oo 3 <| .fad 0 (.t 1),
 oo 4 <| .ld none (.t 3),
 oo 5 <| .bin .shl (.t 4) (.k (.int .u64 1)),
 oo 6 <| .fad 1 (.t 1),
 oo 7 <| .ld none (.t 6),
 oo 8 <| .bin .shr (.t 7) (.k (.int .u64 63)),
 oo 9 <| .bin .or (.t 5) (.t 8),
 oo 10 <| .fad 1 (.t 1),
 oo 11 <| .ld none (.t 10),
 oo 12 <| .bin .shl (.t 11) (.k (.int .u64 1)),
 oo 13 <| .fad 2 (.t 1),
 oo 14 <| .ld none (.t 13),
 oo 15 <| .build [(.int .u64 0), (.int .u64 0), (.bool false)] [(0, 1, (.t 9)), (1, 1, (.t 12)), (2, 1, (.t 14))],
 oz <| .st 3 (.t 2) (.t 15)]
def cQb1 : C := (.seq (.reg rQb1X0 false [] [1, 2]) (.seq (.reg rQb1X1 false [] [2]) .ret))
def qQb1 : AFn := ⟨16, 1, [.c 2 (some 3)], cQb1⟩
/- cohesion/cohesionref02.Meet -/
def rQb2X0 : List O := [
 oo 4 <| .mv (.k (.own 1 []))]
def rQb2X1 : List O := [
 oo 5 <| .mv (.k (.own 1 []))]
def rQb2X2 : List O := [
 oo 8 <| .mv (.t 0),
 oo 9 <| .call nQT [(.t 8)],
 oo 10 <| .len (.t 9),
 oo 11 <| .mv (ki 0)]
def rQb2X3 : List O := [
 oo 12 <| .bin .lss (.t 11) (.t 10)]
def rQb2X4 : List O := [
 oo 13 <| .ixa 1 (.t 9) (.t 11),
 oo 14 <| .ld none (.t 13),
 oo 7 <| .mv (.t 14)]
def rQb2X5 : List O := [
 oo 15 <| .mv (.t 1),
 oo 16 <| .mv (.t 7),
 oo 17 <| .call nQb6 [(.t 15), (.t 16)]]
def rQb2X6 : List O := [
 oo 18 <| .mv (.t 5),
 oo 19 <| .mv (.t 7),
 oo 20 <| .bslice 1 1 [(.int .i64 0)] [(0, 1, (.t 19))],
 oo 21 <| .app 1 (.t 18) (.t 20),
 oo 5 <| .mv (.t 21)]
def rQb2X7 : List O := [
 oo 22 <| .bin .add (.t 11) (ki 1),
 oo 11 <| .mv (.t 22)]
def lQb2X0 : C := (.seq (.reg rQb2X3 false [] [1, 5, 9, 10, 11, 12]) (.seq (.cond (.t 12) .skip (.exit 0)) (.seq (.blk 1 (.seq (.reg rQb2X4 false [] [1, 5, 7, 9, 10, 11]) (.seq (.reg rQb2X5 false [] [1, 5, 7, 9, 10, 11, 17]) (.cond (.t 17) (.reg rQb2X6 false [] [1, 5, 9, 10, 11]) .skip)))) (.reg rQb2X7 false [] [1, 5, 9, 10, 11]))))
def rQb2X8 : List O := [
 oo 23 <| .mv (.t 5),
 oo 4 <| .mv (.t 23)]
def cQb2 : C := (.seq (.reg rQb2X0 false [] [0, 1]) (.seq (.reg rQb2X1 false [] [0, 1, 5]) (.seq (.seq (.reg rQb2X2 false [] [1, 5, 9, 10, 11]) (.blk 0 (.loop lQb2X0))) (.seq (.reg rQb2X8 false [] [4]) .ret))))
def qQb2 : AFn := ⟨24, 2, [.t 4], cQb2⟩
/- cohesion/cohesionref01.reduce -/
def rQb3X0 : List O := [
 oo 4 <| .box (.t 1),
 oo 5 <| .box (.t 2),
 oo 6 <| .new [(.int .i64 0), (.int .i64 0)],
 oo 7 <| .mv (ki 0)]
def rQb3X1 : List O := [
 oo 14 <| .ld (some 2) (.t 4),
 oo 15 <| .build [(.int .u64 0), (.int .u64 0)] [],
 oo 16 <| .eq false (.str [true, true]) (.t 14) (.t 15)]
def rQb3X2 : List O := [
 oo 17 <| .build [(.int .i64 0), (.int .i64 0)] [(1, 1, (ki 1))],
 oz <| .st 2 (.t 6) (.t 17),
 oo 7 <| .mv (ki 0)]
def rQb3X3 : List O := [
 oo 18 <| .ld (some 2) (.t 4),
 oo 19 <| .ld (some 2) (.t 5),
 oo 20 <| .call nQb7 [(.t 18), (.t 19)],
 oo 8 <| .new [(.int .u64 0), (.int .u64 0)],
 oz <| .st 2 (.t 8) (.t 20)]
def rQb3X4 : List O := [
 oo 22 <| .ld (some 2) (.t 4),
 oo 23 <| .ld (some 2) (.t 8),
 oo 24 <| .call nQb8 [(.t 22), (.t 23)],
 oo 21 <| .mv (.t 24),
 oo 25 <| .ext 0 (.t 21),
 oo 26 <| .ext 1 (.t 21),
 oo 9 <| .new [(.int .u64 0), (.int .u64 0)],
 oo 10 <| .new [(.int .u64 0), (.int .u64 0)],
 oz <| .st 2 (.t 9) (.t 25),
 oz <| .st 2 (.t 10) (.t 26)]
def rQb3X5 : List O := [
 oo 28 <| .ld (some 2) (.t 5),
 oo 29 <| .ld (some 2) (.t 8),
 oo 30 <| .call nQb8 [(.t 28), (.t 29)],
 oo 27 <| .mv (.t 30),
 oo 31 <| .ext 0 (.t 27),
 oo 32 <| .ext 1 (.t 27),
 oo 11 <| .new [(.int .u64 0), (.int .u64 0)],
 oo 12 <| .new [(.int .u64 0), (.int .u64 0)],
 oz <| .st 2 (.t 11) (.t 31),
 oz <| .st 2 (.t 12) (.t 32)]
def rQb3X6 : List O := [
 oo 33 <| .fad 0 (.t 9),
 oo 34 <| .ld none (.t 33),
 oo 35 <| .bin .gtr (.t 34) (.k (.int .u64 0)),
 oo 36 <| .mv (.t 35),
 ⟨(some 37), (some (36, false)), .fad 0 (.t 11)⟩,
 ⟨(some 38), (some (36, false)), .ld none (.t 37)⟩,
 ⟨(some 39), (some (36, false)), .bin .gtr (.t 38) (.k (.int .u64 0))⟩,
 oo 40 <| .pick (.t 36) (.k (.bool true)) (.t 39),
 oo 41 <| .mv (.t 40),
 ⟨(some 42), (some (41, false)), .fad 1 (.t 9)⟩,
 ⟨(some 43), (some (41, false)), .ld none (.t 42)⟩,
 ⟨(some 44), (some (41, false)), .bin .gtr (.t 43) (.k (.int .u64 1152921504606846976))⟩,
 oo 45 <| .pick (.t 41) (.k (.bool true)) (.t 44),
 oo 46 <| .mv (.t 45),
 ⟨(some 47), (some (46, false)), .fad 1 (.t 11)⟩,
 ⟨(some 48), (some (46, false)), .ld none (.t 47)⟩,
 ⟨(some 49), (some (46, false)), .bin .gtr (.t 48) (.k (.int .u64 1152921504606846976))⟩,
 oo 50 <| .pick (.t 46) (.k (.bool true)) (.t 49)]
def rQb3X7 : List O := [
 oo 51 <| .build [(.int .i64 0), (.int .i64 0)] [],
 oz <| .st 2 (.t 6) (.t 51),
 oo 7 <| .mv (ki 3)]
def rQb3X8 : List O := [
 oo 52 <| .fad 1 (.t 9),
 oo 53 <| .ld none (.t 52),
 oo 54 <| .cvt .i64 (.t 53),
 oo 55 <| .fad 1 (.t 11),
 oo 56 <| .ld none (.t 55),
 oo 57 <| .cvt .i64 (.t 56),
 oo 58 <| .build [(.int .i64 0), (.int .i64 0)] [(0, 1, (.t 54)), (1, 1, (.t 57))],
 oo 13 <| .new [(.int .i64 0), (.int .i64 0)],
 oz <| .st 2 (.t 13) (.t 58)]
def rQb3X9 : List O := [
 oo 59 <| .mv (.t 0)]
def rQb3X10 : List O := [
 oo 60 <| .fad 0 (.t 13),
 oo 61 <| .ld none (.t 60),
 oo 62 <| .un .neg (.t 61),
 oo 63 <| .fad 0 (.t 13),
 oz <| .st 1 (.t 63) (.t 62)]
def rQb3X11 : List O := [
 oo 64 <| .ld (some 2) (.t 13),
 oz <| .st 2 (.t 6) (.t 64),
 oo 7 <| .mv (ki 0)]
def cQb3 : C := (.seq (.reg rQb3X0 false [] [0, 4, 5, 6]) (.seq (.seq (.reg rQb3X1 false [] [0, 4, 5, 6, 16]) (.cond (.t 16) (.seq (.reg rQb3X2 false [] [6, 7]) .ret) .skip)) (.seq (.reg rQb3X3 false [] [0, 4, 5, 6, 8]) (.seq (.reg rQb3X4 false [] [0, 5, 6, 8, 9]) (.seq (.reg rQb3X5 false [] [0, 6, 9, 11]) (.seq (.seq (.reg rQb3X6 false [] [0, 6, 9, 11, 50]) (.cond (.t 50) (.seq (.reg rQb3X7 false [] [6, 7]) .ret) .skip)) (.seq (.reg rQb3X8 false [] [0, 6, 13]) (.seq (.seq (.reg rQb3X9 false [] [6, 13, 59]) (.cond (.t 59) (.reg rQb3X10 false [] [6, 13]) .skip)) (.seq (.reg rQb3X11 false [] [6, 7]) .ret)))))))))
def qQb3 : AFn := ⟨65, 3, [.c 6 (some 2), .t 7], cQb3⟩
/- cohesion/cohesionref01.size -/
def rQb4X0 : List O := [
 oo 2 <| .mv (.k (.int .u64 0))]
def rQb4X1 : List O := [
 oo 3 <| .mv (.t 0),
 oo 4 <| .bin .lss (.t 3) (ki 0)]
def rQb4X2 : List O := [
 oo 5 <| .mv (.t 0),
 oo 6 <| .cvt .u64 (.t 5),
 oo 7 <| .un .neg (.t 6),
 oo 2 <| .mv (.t 7)]
def rQb4X3 : List O := [
 oo 8 <| .mv (.t 0),
 oo 9 <| .cvt .u64 (.t 8),
 oo 2 <| .mv (.t 9)]
def cQb4 : C := (.seq (.reg rQb4X0 false [] [0]) (.seq (.seq (.reg rQb4X1 false [] [0, 4]) (.cond (.t 4) (.seq (.reg rQb4X2 false [] [2]) .ret) .skip)) (.seq (.reg rQb4X3 false [] [2]) .ret)))
def qQb4 : AFn := ⟨10, 1, [.t 2], cQb4⟩
/- cohesion/cohesionref02.Has -/
def rQb6X0 : List O := [
 oo 4 <| .mv (.k (.bool false))]
def rQb6X1 : List O := [
 oo 7 <| .mv (.t 0),
 oo 8 <| .len (.t 7),
 oo 9 <| .mv (ki 0)]
def rQb6X2 : List O := [
 oo 10 <| .bin .lss (.t 9) (.t 8)]
def rQb6X3 : List O := [
 oo 11 <| .ixa 1 (.t 7) (.t 9),
 oo 12 <| .ld none (.t 11),
 oo 6 <| .mv (.t 12)]
def rQb6X4 : List O := [
 oo 13 <| .mv (.t 6),
 oo 14 <| .mv (.t 1),
 oo 15 <| .bin .eql (.t 13) (.t 14)]
def rQb6X5 : List O := [
 oo 4 <| .mv (.k (.bool true))]
def rQb6X6 : List O := [
 oo 16 <| .bin .add (.t 9) (ki 1),
 oo 9 <| .mv (.t 16)]
def lQb6X0 : C := (.seq (.reg rQb6X2 false [] [1, 7, 8, 9, 10]) (.seq (.cond (.t 10) .skip (.exit 0)) (.seq (.blk 1 (.seq (.reg rQb6X3 false [] [1, 6, 7, 8, 9]) (.seq (.reg rQb6X4 false [] [1, 7, 8, 9, 15]) (.cond (.t 15) (.seq (.reg rQb6X5 false [] [4]) .ret) .skip)))) (.reg rQb6X6 false [] [1, 7, 8, 9]))))
def rQb6X7 : List O := [
 oo 4 <| .mv (.k (.bool false))]
def cQb6 : C := (.seq (.reg rQb6X0 false [] [0, 1]) (.seq (.seq (.reg rQb6X1 false [] [1, 7, 8, 9]) (.blk 0 (.loop lQb6X0))) (.seq (.reg rQb6X7 false [] [4]) .ret)))
def qQb6 : AFn := ⟨17, 2, [.t 4], cQb6⟩
/- cohesion/cohesionref01.gcd -/
def rQb7X0 : List O := [
 oo 2 <| .box (.t 0),
 oo 3 <| .box (.t 1),
 oo 4 <| .new [(.int .u64 0), (.int .u64 0)]]
def rQb7X1 : List O := [
 oo 7 <| .ld (some 2) (.t 3),
 oo 8 <| .build [(.int .u64 0), (.int .u64 0)] [],
 oo 9 <| .eq true (.str [true, true]) (.t 7) (.t 8)]
def rQb7X2 : List O := [
 oo 11 <| .ld (some 2) (.t 2),
 oo 12 <| .ld (some 2) (.t 3),
 oo 13 <| .call nQb8 [(.t 11), (.t 12)],
 oo 10 <| .mv (.t 13),
 oo 14 <| .ext 0 (.t 10),
 oo 15 <| .ext 1 (.t 10),
 oo 5 <| .new [(.int .u64 0), (.int .u64 0)],
 oo 6 <| .new [(.int .u64 0), (.int .u64 0)],
 oz <| .st 2 (.t 5) (.t 14),
 oz <| .st 2 (.t 6) (.t 15)]
def rQb7X3 : List O := [
 oo 16 <| .ld (some 2) (.t 3),
 oo 17 <| .ld (some 2) (.t 6),
 oz <| .st 2 (.t 2) (.t 16),
 oz <| .st 2 (.t 3) (.t 17)]
def lQb7X0 : C := (.seq (.seq (.reg rQb7X1 false [] [2, 3, 4, 9]) (.cond (.t 9) .skip (.exit 0))) (.blk 1 (.seq (.reg rQb7X2 false [] [2, 3, 4, 6]) (.reg rQb7X3 true [(3, 3), (0, 1), (1, 2)] [2, 3, 4]))))
def rQb7X4 : List O := [
 oo 18 <| .ld (some 2) (.t 2),
 oz <| .st 2 (.t 4) (.t 18)]
def cQb7 : C := (.seq (.reg rQb7X0 false [] [2, 3, 4]) (.seq (.blk 0 (.loop lQb7X0)) (.seq (.reg rQb7X4 false [] [4]) .ret)))
def qQb7 : AFn := ⟨19, 2, [.c 4 (some 2)], cQb7⟩
/- cohesion/cohesionref01.divide -/
def rQb8X0 : List O := [
 oo 2 <| .box (.t 0),
 oo 3 <| .box (.t 1),
 oo 4 <| .new [(.int .u64 0), (.int .u64 0)],
 oo 5 <| .new [(.int .u64 0), (.int .u64 0)]]
def rQb8X1 : List O := [
 oo 6 <| .new [(.int .u64 0), (.int .u64 0)],
 oo 7 <| .new [(.int .u64 0), (.int .u64 0)]]
def rQb8X2 : List O := [
 oo 8 <| .mv (ki 127)]
def rQb8X3 : List O := [
 oo 9 <| .mv (.t 8),
 oo 10 <| .bin .geq (.t 9) (ki 0)]
def rQb8X4 : List O := [
 oo 13 <| .ld (some 2) (.t 7),
 oo 14 <| .call nQb9 [(.t 13)],
 oz <| .st 2 (.t 7) (.t 14)]
def rQb8X5 : List O := [
 oo 15 <| .mv (.t 8),
 oo 16 <| .bin .geq (.t 15) (ki 64),
 oo 17 <| .mv (.t 16),
 ⟨(some 18), (some (17, true)), .fad 0 (.t 2)⟩,
 ⟨(some 19), (some (17, true)), .ld none (.t 18)⟩,
 ⟨(some 20), (some (17, true)), .mv (.t 8)⟩,
 ⟨(some 21), (some (17, true)), .bin .sub (.t 20) (ki 64)⟩,
 ⟨(some 22), (some (17, true)), .cvt .u64 (.t 21)⟩,
 ⟨(some 23), (some (17, true)), .bin .shr (.t 19) (.t 22)⟩,
 ⟨(some 24), (some (17, true)), .bin .and (.t 23) (.k (.int .u64 1))⟩,
 ⟨(some 25), (some (17, true)), .bin .eql (.t 24) (.k (.int .u64 1))⟩,
 oo 26 <| .pick (.t 17) (.t 25) (.k (.bool false)),
 oo 27 <| .mv (.t 26),
 ⟨(some 28), (some (27, false)), .mv (.t 8)⟩,
 ⟨(some 29), (some (27, false)), .bin .lss (.t 28) (ki 64)⟩,
 ⟨(some 30), (some (27, false)), .mv (.t 29)⟩,
 ⟨(some 31), (some (30, true)), .fad 1 (.t 2)⟩,
 ⟨(some 32), (some (30, true)), .ld none (.t 31)⟩,
 ⟨(some 33), (some (30, true)), .mv (.t 8)⟩,
 ⟨(some 34), (some (30, true)), .cvt .u64 (.t 33)⟩,
 ⟨(some 35), (some (30, true)), .bin .shr (.t 32) (.t 34)⟩,
 ⟨(some 36), (some (30, true)), .bin .and (.t 35) (.k (.int .u64 1))⟩,
 ⟨(some 37), (some (30, true)), .bin .eql (.t 36) (.k (.int .u64 1))⟩,
 ⟨(some 38), (some (27, false)), .pick (.t 30) (.t 37) (.k (.bool false))⟩,
 oo 39 <| .pick (.t 27) (.k (.bool true)) (.t 38)]
def rQb8X6 : List O := [
 oo 40 <| .fad 1 (.t 7),
 oo 41 <| .ld none (.t 40),
 oo 42 <| .bin .or (.t 41) (.k (.int .u64 1)),
 oo 43 <| .fad 1 (.t 7),
 oz <| .st 1 (.t 43) (.t 42)]
def rQb8X7 : List O := [
 oo 44 <| .ld (some 2) (.t 6),
 oo 45 <| .call nQb9 [(.t 44)],
 oz <| .st 2 (.t 6) (.t 45)]
def rQb8X8 : List O := [
 oo 46 <| .ld (some 2) (.t 7),
 oo 47 <| .ld (some 2) (.t 3),
 oo 48 <| .call nQc0 [(.t 46), (.t 47)],
 oo 49 <| .un .not (.t 48)]
def rQb8X9 : List O := [
 oo 50 <| .ld (some 2) (.t 7),
 oo 51 <| .ld (some 2) (.t 3),
 oo 52 <| .call nQc1 [(.t 50), (.t 51)],
 oz <| .st 2 (.t 7) (.t 52)]
def rQb8X10 : List O := [
 oo 53 <| .fad 1 (.t 6),
 oo 54 <| .ld none (.t 53),
 oo 55 <| .bin .or (.t 54) (.k (.int .u64 1)),
 oo 56 <| .fad 1 (.t 6),
 oz <| .st 1 (.t 56) (.t 55)]
def rQb8X11 : List O := [
 oo 11 <| .mv (.t 8),
 oo 12 <| .bin .sub (.t 11) (ki 1),
 oo 8 <| .mv (.t 12)]
def lQb8X0 : C := (.seq (.seq (.reg rQb8X3 false [] [2, 3, 4, 5, 6, 7, 8, 10]) (.cond (.t 10) .skip (.exit 0))) (.seq (.blk 1 (.seq (.reg rQb8X4 false [] [2, 3, 4, 5, 6, 7, 8]) (.seq (.seq (.reg rQb8X5 false [] [2, 3, 4, 5, 6, 7, 8, 39]) (.cond (.t 39) (.reg rQb8X6 false [] [2, 3, 4, 5, 6, 7, 8]) .skip)) (.seq (.reg rQb8X7 false [] [2, 3, 4, 5, 6, 7, 8]) (.seq (.reg rQb8X8 false [] [2, 3, 4, 5, 6, 7, 8, 49]) (.cond (.t 49) (.seq (.reg rQb8X9 false [] [2, 3, 4, 5, 6, 7, 8]) (.reg rQb8X10 false [] [2, 3, 4, 5, 6, 7, 8])) .skip)))))) (.reg rQb8X11 false [] [2, 3, 4, 5, 6, 7, 8])))
def rQb8X12 : List O := [
 oo 57 <| .ld (some 2) (.t 6),
 oo 58 <| .ld (some 2) (.t 7),
 oz <| .st 2 (.t 4) (.t 57),
 oz <| .st 2 (.t 5) (.t 58)]
def cQb8 : C := (.seq (.reg rQb8X0 false [] [2, 3, 4, 5]) (.seq (.reg rQb8X1 false [] [2, 3, 4, 5, 6, 7]) (.seq (.seq (.reg rQb8X2 false [] [2, 3, 4, 5, 6, 7, 8]) (.blk 0 (.loop lQb8X0))) (.seq (.reg rQb8X12 true [(3, 3), (0, 1), (1, 2)] [4, 5]) .ret))))
def qQb8 : AFn := ⟨59, 2, [.c 4 (some 2), .c 5 (some 2)], cQb8⟩
/- cohesion/cohesionref01.double -/
def rQb9X0 : List O := [
 oo 1 <| .box (.t 0),
 oo 2 <| .new [(.int .u64 0), (.int .u64 0)]]
def rQb9X1 : List O := [
 oo 3 <| .fad 0 (.t 1),
 oo 4 <| .ld none (.t 3),
 oo 5 <| .bin .shl (.t 4) (.k (.int .u64 1)),
 oo 6 <| .fad 1 (.t 1),
 oo 7 <| .ld none (.t 6),
 oo 8 <| .bin .shr (.t 7) (.k (.int .u64 63)),
 oo 9 <| .bin .or (.t 5) (.t 8),
 oo 10 <| .fad 1 (.t 1),
 oo 11 <| .ld none (.t 10),
 oo 12 <| .bin .shl (.t 11) (.k (.int .u64 1)),
 oo 13 <| .build [(.int .u64 0), (.int .u64 0)] [(0, 1, (.t 9)), (1, 1, (.t 12))],
 oz <| .st 2 (.t 2) (.t 13)]
def cQb9 : C := (.seq (.reg rQb9X0 false [] [1, 2]) (.seq (.reg rQb9X1 false [] [2]) .ret))
def qQb9 : AFn := ⟨14, 1, [.c 2 (some 2)], cQb9⟩
/- cohesion/cohesionref01.less -/
def rQc0X0 : List O := [
 oo 2 <| .box (.t 0),
 oo 3 <| .box (.t 1),
 oo 4 <| .mv (.k (.bool false))]
def rQc0X1 : List O := [
 oo 5 <| .fad 0 (.t 2),
 oo 6 <| .ld none (.t 5),
 oo 7 <| .fad 0 (.t 3),
 oo 8 <| .ld none (.t 7),
 oo 9 <| .bin .lss (.t 6) (.t 8),
 oo 10 <| .mv (.t 9),
 ⟨(some 11), (some (10, false)), .fad 0 (.t 2)⟩,
 ⟨(some 12), (some (10, false)), .ld none (.t 11)⟩,
 ⟨(some 13), (some (10, false)), .fad 0 (.t 3)⟩,
 ⟨(some 14), (some (10, false)), .ld none (.t 13)⟩,
 ⟨(some 15), (some (10, false)), .bin .eql (.t 12) (.t 14)⟩,
 ⟨(some 16), (some (10, false)), .mv (.t 15)⟩,
 ⟨(some 17), (some (16, true)), .fad 1 (.t 2)⟩,
 ⟨(some 18), (some (16, true)), .ld none (.t 17)⟩,
 ⟨(some 19), (some (16, true)), .fad 1 (.t 3)⟩,
 ⟨(some 20), (some (16, true)), .ld none (.t 19)⟩,
 ⟨(some 21), (some (16, true)), .bin .lss (.t 18) (.t 20)⟩,
 ⟨(some 22), (some (10, false)), .pick (.t 16) (.t 21) (.k (.bool false))⟩,
 oo 23 <| .pick (.t 10) (.k (.bool true)) (.t 22),
 oo 4 <| .mv (.t 23)]
def cQc0 : C := (.seq (.reg rQc0X0 false [] [2, 3]) (.seq (.reg rQc0X1 false [] [4]) .ret))
def qQc0 : AFn := ⟨24, 2, [.t 4], cQc0⟩
/- cohesion/cohesionref01.sub -/
def rQc1X0 : List O := [
 oo 2 <| .box (.t 0),
 oo 3 <| .box (.t 1),
 oo 4 <| .new [(.int .u64 0), (.int .u64 0)]]
def rQc1X1 : List O := [
 oo 6 <| .fad 0 (.t 2),
 oo 7 <| .ld none (.t 6),
 oo 8 <| .fad 0 (.t 3),
 oo 9 <| .ld none (.t 8),
 oo 10 <| .bin .sub (.t 7) (.t 9),
 oo 5 <| .mv (.t 10)]
def rQc1X2 : List O := [
 oo 11 <| .fad 1 (.t 2),
 oo 12 <| .ld none (.t 11),
 oo 13 <| .fad 1 (.t 3),
 oo 14 <| .ld none (.t 13),
 oo 15 <| .bin .lss (.t 12) (.t 14)]
def rQc1X3 : List O := [
 oo 16 <| .mv (.t 5),
 oo 17 <| .bin .sub (.t 16) (.k (.int .u64 1)),
 oo 5 <| .mv (.t 17)]
def rQc1X4 : List O := [
 oo 18 <| .mv (.t 5),
 oo 19 <| .fad 1 (.t 2),
 oo 20 <| .ld none (.t 19),
 oo 21 <| .fad 1 (.t 3),
 oo 22 <| .ld none (.t 21),
 oo 23 <| .bin .sub (.t 20) (.t 22),
 oo 24 <| .build [(.int .u64 0), (.int .u64 0)] [(0, 1, (.t 18)), (1, 1, (.t 23))],
 oz <| .st 2 (.t 4) (.t 24)]
def cQc1 : C := (.seq (.reg rQc1X0 false [] [2, 3, 4]) (.seq (.reg rQc1X1 false [] [2, 3, 4, 5]) (.seq (.seq (.reg rQc1X2 false [] [2, 3, 4, 5, 15]) (.cond (.t 15) (.reg rQc1X3 false [] [2, 3, 4, 5]) .skip)) (.seq (.reg rQc1X4 false [] [4]) .ret))))
def qQc1 : AFn := ⟨25, 2, [.c 4 (some 2)], cQc1⟩
abbrev Md := Go.Bm.Md
abbrev Cfg := Go.Bm.Cfg
def look : List (Nat × Md × AFn) -> Nat -> Option (Md × AFn)
 | [], _ => none
 | (j, m, q) :: r, i => if i = j then some (m, q) else look r i
def fns : List (Nat × Md × AFn) := [
 (nQa, ⟨false, false, true⟩, qQa),
 (nQb, ⟨false, false, true⟩, qQb),
 (nQc, ⟨false, false, true⟩, qQc),
 (nQd, ⟨true, false, false⟩, qQd),
 (nQe, ⟨true, false, false⟩, qQe),
 (nQf, ⟨false, false, true⟩, qQf),
 (nQg, ⟨false, false, false⟩, qQg),
 (nQh, ⟨false, false, true⟩, qQh),
 (nQi, ⟨false, false, true⟩, qQi),
 (nQj, ⟨false, false, false⟩, qQj),
 (nQk, ⟨false, false, false⟩, qQk),
 (nQl, ⟨false, false, false⟩, qQl),
 (nQm, ⟨false, false, true⟩, qQm),
 (nQn, ⟨true, false, false⟩, qQn),
 (nQo, ⟨false, false, true⟩, qQo),
 (nQp, ⟨false, false, true⟩, qQp),
 (nQq, ⟨false, false, true⟩, qQq),
 (nQr, ⟨false, false, false⟩, qQr),
 (nQs, ⟨false, true, true⟩, qQs),
 (nQt, ⟨false, false, true⟩, qQt),
 (nQu, ⟨false, false, false⟩, qQu),
 (nQv, ⟨false, false, false⟩, qQv),
 (nQw, ⟨false, false, true⟩, qQw),
 (nQx, ⟨false, false, true⟩, qQx),
 (nQy, ⟨false, false, false⟩, qQy),
 (nQz, ⟨false, false, true⟩, qQz),
 (nQA, ⟨false, false, false⟩, qQA),
 (nQB, ⟨false, false, true⟩, qQB),
 (nQC, ⟨false, false, true⟩, qQC),
 (nQD, ⟨false, false, true⟩, qQD),
 (nQE, ⟨false, false, false⟩, qQE),
 (nQF, ⟨false, false, true⟩, qQF),
 (nQG, ⟨false, false, false⟩, qQG),
 (nQH, ⟨false, false, true⟩, qQH),
 (nQI, ⟨false, false, true⟩, qQI),
 (nQJ, ⟨false, false, false⟩, qQJ),
 (nQK, ⟨false, false, false⟩, qQK),
 (nQL, ⟨false, false, false⟩, qQL),
 (nQM, ⟨false, false, false⟩, qQM),
 (nQN, ⟨false, false, false⟩, qQN),
 (nQO, ⟨true, false, false⟩, qQO),
 (nQP, ⟨true, false, false⟩, qQP),
 (nQQ, ⟨true, false, false⟩, qQQ),
 (nQR, ⟨true, false, false⟩, qQR),
 (nQS, ⟨false, false, false⟩, qQS),
 (nQT, ⟨false, false, false⟩, qQT),
 (nQU, ⟨false, false, true⟩, qQU),
 (nQV, ⟨false, false, true⟩, qQV),
 (nQW, ⟨false, false, false⟩, qQW),
 (nQX, ⟨false, false, true⟩, qQX),
 (nQY, ⟨false, false, true⟩, qQY),
 (nQZ, ⟨false, false, true⟩, qQZ),
 (nQ0, ⟨false, false, false⟩, qQ0),
 (nQ1, ⟨false, false, false⟩, qQ1),
 (nQ2, ⟨false, false, true⟩, qQ2),
 (nQ3, ⟨false, false, true⟩, qQ3),
 (nQ4, ⟨false, false, true⟩, qQ4),
 (nQ5, ⟨false, false, false⟩, qQ5),
 (nQ6, ⟨false, false, false⟩, qQ6),
 (nQ7, ⟨true, false, false⟩, qQ7),
 (nQ8, ⟨false, false, false⟩, qQ8),
 (nQ9, ⟨false, false, false⟩, qQ9),
 (nQa0, ⟨false, false, false⟩, qQa0),
 (nQa1, ⟨false, false, true⟩, qQa1),
 (nQa2, ⟨false, false, true⟩, qQa2),
 (nQa3, ⟨false, false, false⟩, qQa3),
 (nQa4, ⟨false, false, false⟩, qQa4),
 (nQa5, ⟨false, false, true⟩, qQa5),
 (nQa6, ⟨false, false, true⟩, qQa6),
 (nQa7, ⟨false, false, true⟩, qQa7),
 (nQa8, ⟨false, false, false⟩, qQa8),
 (nQa9, ⟨false, false, true⟩, qQa9),
 (nQb0, ⟨false, false, false⟩, qQb0),
 (nQb1, ⟨false, false, false⟩, qQb1),
 (nQb2, ⟨false, false, false⟩, qQb2),
 (nQb3, ⟨false, false, false⟩, qQb3),
 (nQb4, ⟨false, false, true⟩, qQb4),
 (nQb6, ⟨false, false, true⟩, qQb6),
 (nQb7, ⟨false, false, false⟩, qQb7),
 (nQb8, ⟨false, false, false⟩, qQb8),
 (nQb9, ⟨false, false, false⟩, qQb9),
 (nQc0, ⟨false, false, true⟩, qQc0),
 (nQc1, ⟨false, false, false⟩, qQc1)]
def nQc2 : Nat := 0
def tabZ : List Int := [0, 1, 56, 2, 57, 49, 28, 3, 61, 58, 42, 50, 38, 29, 17, 4, 62, 47, 59, 36, 45, 43, 51, 22, 53, 39, 33, 30, 24, 18, 12, 5, 63, 55, 48, 27, 60, 41, 37, 16, 46, 35, 44, 21, 52, 32, 23, 11, 54, 26, 40, 15, 34, 20, 31, 10, 25, 14, 19, 9, 13, 8, 7, 6]
def tabA : List AV := tabZ.map (AV.int .u8)
def cfg : Cfg := ⟨look fns, fun i => if i = nQc2 then tabA else [], fun _ => none, fun _ => none, fun _ => none, fun _ => false, fun _ => false⟩
theorem kLaw33SampleWedges : chkFB Go.Proofs.Tryz.prog Go.Proofs.Tryz.f3 qQa = true := by kernel_rfl
theorem kMakeFew : chkFB Go.Proofs.Tryz.prog Go.Proofs.Tryz.f4 qQb = true := by kernel_rfl
theorem kLaw33Awake : chkFB Go.Proofs.Tryz.prog Go.Proofs.Tryz.f5 qQc = true := by kernel_rfl
theorem kMakeGraph : chkFB Go.Proofs.Tryz.prog Go.Proofs.Tryz.f6 qQd = true := by kernel_rfl
theorem kMakeNew : chkFB Go.Proofs.Tryz.prog Go.Proofs.Tryz.f7 qQe = true := by kernel_rfl
theorem kRef30Wedges : chkFB Go.Proofs.Tryz.prog Go.Proofs.Tryz.f8 qQf = true := by kernel_rfl
theorem kSampleWedge : chkFB Go.Proofs.Tryz.prog Go.Proofs.Tryz.f9 qQg = true := by kernel_rfl
theorem kRef03Find : chkFB Go.Proofs.Tryz.prog Go.Proofs.Tryz.f10 qQh = true := by kernel_rfl
theorem kRef02Cmp : chkFB Go.Proofs.Tryz.prog Go.Proofs.Tryz.f11 qQi = true := by kernel_rfl
theorem kSampleByWedges : chkFB Go.Proofs.Tryz.prog Go.Proofs.Tryz.f12 qQj = true := by kernel_rfl
theorem kRef29Whole : chkFB Go.Proofs.Tryz.prog Go.Proofs.Tryz.f13 qQk = true := by kernel_rfl
theorem kSampleReservoir : chkFB Go.Proofs.Tryz.prog Go.Proofs.Tryz.f14 qQl = true := by kernel_rfl
theorem kSampleByColours : chkFB Go.Proofs.Tryz.prog Go.Proofs.Tryz.f15 qQm = true := by kernel_rfl
theorem kMakeDeckNext : chkFB Go.Proofs.Tryz.prog Go.Proofs.Tryz.f16 qQn = true := by kernel_rfl
theorem kRef03Check : chkFB Go.Proofs.Tryz.prog Go.Proofs.Tryz.f17 qQo = true := by kernel_rfl
theorem kRef03Degree : chkFB Go.Proofs.Tryz.prog Go.Proofs.Tryz.f18 qQp = true := by kernel_rfl
theorem kGraphCheck : chkFB Go.Proofs.Tryz.prog Go.Proofs.Tryz.f19 qQq = true := by kernel_rfl
theorem kSampleWedges : chkFB Go.Proofs.Tryz.prog Go.Proofs.Tryz.f20 qQr = true := by kernel_rfl
theorem kSlicesCloneIntInt : chkFB Go.Proofs.Tryz.prog Go.Proofs.Tryz.f21 qQs = true := by kernel_rfl
theorem kSampleClosed : chkFB Go.Proofs.Tryz.prog Go.Proofs.Tryz.f22 qQt = true := by kernel_rfl
theorem kRef03Edge : chkFB Go.Proofs.Tryz.prog Go.Proofs.Tryz.f23 qQu = true := by kernel_rfl
theorem kRatioMake : chkFB Go.Proofs.Tryz.prog Go.Proofs.Tryz.f24 qQv = true := by kernel_rfl
theorem kRef29Count : chkFB Go.Proofs.Tryz.prog Go.Proofs.Tryz.f25 qQw = true := by kernel_rfl
theorem kRef29Pairs : chkFB Go.Proofs.Tryz.prog Go.Proofs.Tryz.f26 qQx = true := by kernel_rfl
theorem kRef29Share : chkFB Go.Proofs.Tryz.prog Go.Proofs.Tryz.f27 qQy = true := by kernel_rfl
theorem kSlicesSortIntInt : chkFB Go.Proofs.Tryz.prog Go.Proofs.Tryz.f28 qQz = true := by kernel_rfl
theorem kSampleMono : chkFB Go.Proofs.Tryz.prog Go.Proofs.Tryz.f29 qQA = true := by kernel_rfl
theorem kTrianglesCount : chkFB Go.Proofs.Tryz.prog Go.Proofs.Tryz.f30 qQB = true := by kernel_rfl
theorem kMakeMod : chkFB Go.Proofs.Tryz.prog Go.Proofs.Tryz.f31 qQC = true := by kernel_rfl
theorem kRef03Before : chkFB Go.Proofs.Tryz.prog Go.Proofs.Tryz.f32 qQD = true := by kernel_rfl
theorem kRef03Neighbours : chkFB Go.Proofs.Tryz.prog Go.Proofs.Tryz.f33 qQE = true := by kernel_rfl
theorem kGraphOrder : chkFB Go.Proofs.Tryz.prog Go.Proofs.Tryz.f34 qQF = true := by kernel_rfl
theorem kGraphNeighbours : chkFB Go.Proofs.Tryz.prog Go.Proofs.Tryz.f35 qQG = true := by kernel_rfl
theorem kGraphFind : chkFB Go.Proofs.Tryz.prog Go.Proofs.Tryz.f36 qQH = true := by kernel_rfl
theorem kRatioWithin : chkFB Go.Proofs.Tryz.prog Go.Proofs.Tryz.f37 qQI = true := by kernel_rfl
theorem kRatioLowest : chkFB Go.Proofs.Tryz.prog Go.Proofs.Tryz.f38 qQJ = true := by kernel_rfl
theorem kRatioExact : chkFB Go.Proofs.Tryz.prog Go.Proofs.Tryz.f39 qQK = true := by kernel_rfl
theorem kWideOf : chkFB Go.Proofs.Tryz.prog Go.Proofs.Tryz.f40 qQL = true := by kernel_rfl
theorem kRef29Nodes : chkFB Go.Proofs.Tryz.prog Go.Proofs.Tryz.f41 qQM = true := by kernel_rfl
theorem kRef01Of : chkFB Go.Proofs.Tryz.prog Go.Proofs.Tryz.f42 qQN = true := by kernel_rfl
theorem kSlicesContainsFuncIntInt : chkFB Go.Proofs.Tryz.prog Go.Proofs.Tryz.f45 qQO = true := by kernel_rfl
theorem kSampleMono1 : chkFB Go.Proofs.Tryz.prog Go.Proofs.Tryz.f46 qQP = true := by kernel_rfl
theorem kSampleSome : chkFB Go.Proofs.Tryz.prog Go.Proofs.Tryz.f47 qQQ = true := by kernel_rfl
theorem kSampleMono2 : chkFB Go.Proofs.Tryz.prog Go.Proofs.Tryz.f48 qQR = true := by kernel_rfl
theorem kTrianglesCounts : chkFB Go.Proofs.Tryz.prog Go.Proofs.Tryz.f49 qQS = true := by kernel_rfl
theorem kRef02Of : chkFB Go.Proofs.Tryz.prog Go.Proofs.Tryz.f50 qQT = true := by kernel_rfl
theorem kCmpOrInt : chkFB Go.Proofs.Tryz.prog Go.Proofs.Tryz.f51 qQU = true := by kernel_rfl
theorem kCmpCompareInt : chkFB Go.Proofs.Tryz.prog Go.Proofs.Tryz.f52 qQV = true := by kernel_rfl
theorem kMasksList : chkFB Go.Proofs.Tryz.prog Go.Proofs.Tryz.f53 qQW = true := by kernel_rfl
theorem kGraphRow : chkFB Go.Proofs.Tryz.prog Go.Proofs.Tryz.f54 qQX = true := by kernel_rfl
theorem kGraphPlace : chkFB Go.Proofs.Tryz.prog Go.Proofs.Tryz.f55 qQY = true := by kernel_rfl
theorem kRatioCommon : chkFB Go.Proofs.Tryz.prog Go.Proofs.Tryz.f56 qQZ = true := by kernel_rfl
theorem kRatioChecked : chkFB Go.Proofs.Tryz.prog Go.Proofs.Tryz.f57 qQ0 = true := by kernel_rfl
theorem kWideCommon : chkFB Go.Proofs.Tryz.prog Go.Proofs.Tryz.f58 qQ1 = true := by kernel_rfl
theorem kWideNumberOver : chkFB Go.Proofs.Tryz.prog Go.Proofs.Tryz.f59 qQ2 = true := by kernel_rfl
theorem kWideNumberNegative : chkFB Go.Proofs.Tryz.prog Go.Proofs.Tryz.f60 qQ3 = true := by kernel_rfl
theorem kWideSize : chkFB Go.Proofs.Tryz.prog Go.Proofs.Tryz.f61 qQ4 = true := by kernel_rfl
theorem kRef03Common : chkFB Go.Proofs.Tryz.prog Go.Proofs.Tryz.f62 qQ5 = true := by kernel_rfl
theorem kRef01Make : chkFB Go.Proofs.Tryz.prog Go.Proofs.Tryz.f63 qQ6 = true := by kernel_rfl
theorem kSlicesIndexFuncIntInt : chkFB Go.Proofs.Tryz.prog Go.Proofs.Tryz.f75 qQ7 = true := by kernel_rfl
theorem kTrianglesLists : chkFB Go.Proofs.Tryz.prog Go.Proofs.Tryz.f76 qQ8 = true := by kernel_rfl
theorem kTrianglesSharedInt : chkFB Go.Proofs.Tryz.prog Go.Proofs.Tryz.f77 qQ9 = true := by kernel_rfl
theorem kRef02Put : chkFB Go.Proofs.Tryz.prog Go.Proofs.Tryz.f78 qQa0 = true := by kernel_rfl
theorem kCmpIsNaNInt : chkFB Go.Proofs.Tryz.prog Go.Proofs.Tryz.f79 qQa1 = true := by kernel_rfl
theorem kMathBitsTrailingZeros64 : chkFB Go.Proofs.Tryz.prog Go.Proofs.Tryz.f80 qQa2 = true := by kernel_rfl
theorem kMasksRows : chkFB Go.Proofs.Tryz.prog Go.Proofs.Tryz.f81 qQa3 = true := by kernel_rfl
theorem kGraphEdge : chkFB Go.Proofs.Tryz.prog Go.Proofs.Tryz.f82 qQa4 = true := by kernel_rfl
theorem kSlicesBinarySearchFuncApiEdgeApiEdgeApiEdge : chkFB Go.Proofs.Tryz.prog Go.Proofs.Tryz.f83 qQa5 = true := by kernel_rfl
theorem kWideNumberZero : chkFB Go.Proofs.Tryz.prog Go.Proofs.Tryz.f84 qQa6 = true := by kernel_rfl
theorem kWideNumberEven : chkFB Go.Proofs.Tryz.prog Go.Proofs.Tryz.f85 qQa7 = true := by kernel_rfl
theorem kWideNumberHalf : chkFB Go.Proofs.Tryz.prog Go.Proofs.Tryz.f86 qQa8 = true := by kernel_rfl
theorem kWideNumberBelow : chkFB Go.Proofs.Tryz.prog Go.Proofs.Tryz.f87 qQa9 = true := by kernel_rfl
theorem kWideNumberLess : chkFB Go.Proofs.Tryz.prog Go.Proofs.Tryz.f88 qQb0 = true := by kernel_rfl
theorem kWideNumberTwice : chkFB Go.Proofs.Tryz.prog Go.Proofs.Tryz.f89 qQb1 = true := by kernel_rfl
theorem kRef02Meet : chkFB Go.Proofs.Tryz.prog Go.Proofs.Tryz.f90 qQb2 = true := by kernel_rfl
theorem kRef01Reduce : chkFB Go.Proofs.Tryz.prog Go.Proofs.Tryz.f91 qQb3 = true := by kernel_rfl
theorem kRef01Size : chkFB Go.Proofs.Tryz.prog Go.Proofs.Tryz.f92 qQb4 = true := by kernel_rfl
theorem kRef02Has : chkFB Go.Proofs.Tryz.prog Go.Proofs.Tryz.f99 qQb6 = true := by kernel_rfl
theorem kRef01Gcd : chkFB Go.Proofs.Tryz.prog Go.Proofs.Tryz.f100 qQb7 = true := by kernel_rfl
theorem kRef01Divide : chkFB Go.Proofs.Tryz.prog Go.Proofs.Tryz.f101 qQb8 = true := by kernel_rfl
theorem kRef01Double : chkFB Go.Proofs.Tryz.prog Go.Proofs.Tryz.f103 qQb9 = true := by kernel_rfl
theorem kRef01Less : chkFB Go.Proofs.Tryz.prog Go.Proofs.Tryz.f104 qQc0 = true := by kernel_rfl
theorem kRef01Sub : chkFB Go.Proofs.Tryz.prog Go.Proofs.Tryz.f105 qQc1 = true := by kernel_rfl
theorem look_mem : ∀ {l : List (Nat × Md × AFn)} {f : Nat} {m : Md} {q : AFn}, look l f = some (m, q) -> (f, m, q) ∈ l
 | [], f, m, q, h => by simp [look] at h
 | (j, m', q') :: r, f, m, q, h => by
   unfold look at h
   split at h
   ·rename_i he; subst he; simp at h; obtain ⟨rfl, rfl⟩ := h; simp
   ·exact List.mem_cons_of_mem _ (look_mem h)
def Good (p : Nat × Md × AFn) : Prop := ∃ fn, Go.Proofs.Tryz.prog.funcs[p.1]? = some fn /\ chkFB Go.Proofs.Tryz.prog fn p.2.2 = true
def All (G : Nat × Md × AFn -> Prop) : List (Nat × Md × AFn) -> Prop
 | [] => True
 | p :: r => G p /\ All G r
theorem All.get {G : Nat × Md × AFn -> Prop} : ∀ {l : List (Nat × Md × AFn)}, All G l -> ∀ p ∈ l, G p
 | [], _, p, h => by simp at h
 | q :: r, h, p, hp => by
   rcases List.mem_cons.1 hp with e | e
   ·subst e; exact h.1
   ·exact All.get h.2 p e
theorem allGood : All Good fns := ⟨⟨_, Go.Proofs.Tryz.func3, kLaw33SampleWedges⟩, ⟨_, Go.Proofs.Tryz.func4, kMakeFew⟩, ⟨_, Go.Proofs.Tryz.func5, kLaw33Awake⟩, ⟨_, Go.Proofs.Tryz.func6, kMakeGraph⟩, ⟨_, Go.Proofs.Tryz.func7, kMakeNew⟩, ⟨_, Go.Proofs.Tryz.func8, kRef30Wedges⟩, ⟨_, Go.Proofs.Tryz.func9, kSampleWedge⟩, ⟨_, Go.Proofs.Tryz.func10, kRef03Find⟩, ⟨_, Go.Proofs.Tryz.func11, kRef02Cmp⟩, ⟨_, Go.Proofs.Tryz.func12, kSampleByWedges⟩, ⟨_, Go.Proofs.Tryz.func13, kRef29Whole⟩, ⟨_, Go.Proofs.Tryz.func14, kSampleReservoir⟩, ⟨_, Go.Proofs.Tryz.func15, kSampleByColours⟩, ⟨_, Go.Proofs.Tryz.func16, kMakeDeckNext⟩, ⟨_, Go.Proofs.Tryz.func17, kRef03Check⟩, ⟨_, Go.Proofs.Tryz.func18, kRef03Degree⟩, ⟨_, Go.Proofs.Tryz.func19, kGraphCheck⟩, ⟨_, Go.Proofs.Tryz.func20, kSampleWedges⟩, ⟨_, Go.Proofs.Tryz.func21, kSlicesCloneIntInt⟩, ⟨_, Go.Proofs.Tryz.func22, kSampleClosed⟩, ⟨_, Go.Proofs.Tryz.func23, kRef03Edge⟩, ⟨_, Go.Proofs.Tryz.func24, kRatioMake⟩, ⟨_, Go.Proofs.Tryz.func25, kRef29Count⟩, ⟨_, Go.Proofs.Tryz.func26, kRef29Pairs⟩, ⟨_, Go.Proofs.Tryz.func27, kRef29Share⟩, ⟨_, Go.Proofs.Tryz.func28, kSlicesSortIntInt⟩, ⟨_, Go.Proofs.Tryz.func29, kSampleMono⟩, ⟨_, Go.Proofs.Tryz.func30, kTrianglesCount⟩, ⟨_, Go.Proofs.Tryz.func31, kMakeMod⟩, ⟨_, Go.Proofs.Tryz.func32, kRef03Before⟩, ⟨_, Go.Proofs.Tryz.func33, kRef03Neighbours⟩, ⟨_, Go.Proofs.Tryz.func34, kGraphOrder⟩, ⟨_, Go.Proofs.Tryz.func35, kGraphNeighbours⟩, ⟨_, Go.Proofs.Tryz.func36, kGraphFind⟩, ⟨_, Go.Proofs.Tryz.func37, kRatioWithin⟩, ⟨_, Go.Proofs.Tryz.func38, kRatioLowest⟩, ⟨_, Go.Proofs.Tryz.func39, kRatioExact⟩, ⟨_, Go.Proofs.Tryz.func40, kWideOf⟩, ⟨_, Go.Proofs.Tryz.func41, kRef29Nodes⟩, ⟨_, Go.Proofs.Tryz.func42, kRef01Of⟩, ⟨_, Go.Proofs.Tryz.func45, kSlicesContainsFuncIntInt⟩, ⟨_, Go.Proofs.Tryz.func46, kSampleMono1⟩, ⟨_, Go.Proofs.Tryz.func47, kSampleSome⟩, ⟨_, Go.Proofs.Tryz.func48, kSampleMono2⟩, ⟨_, Go.Proofs.Tryz.func49, kTrianglesCounts⟩, ⟨_, Go.Proofs.Tryz.func50, kRef02Of⟩, ⟨_, Go.Proofs.Tryz.func51, kCmpOrInt⟩, ⟨_, Go.Proofs.Tryz.func52, kCmpCompareInt⟩, ⟨_, Go.Proofs.Tryz.func53, kMasksList⟩, ⟨_, Go.Proofs.Tryz.func54, kGraphRow⟩, ⟨_, Go.Proofs.Tryz.func55, kGraphPlace⟩, ⟨_, Go.Proofs.Tryz.func56, kRatioCommon⟩, ⟨_, Go.Proofs.Tryz.func57, kRatioChecked⟩, ⟨_, Go.Proofs.Tryz.func58, kWideCommon⟩, ⟨_, Go.Proofs.Tryz.func59, kWideNumberOver⟩, ⟨_, Go.Proofs.Tryz.func60, kWideNumberNegative⟩, ⟨_, Go.Proofs.Tryz.func61, kWideSize⟩, ⟨_, Go.Proofs.Tryz.func62, kRef03Common⟩, ⟨_, Go.Proofs.Tryz.func63, kRef01Make⟩, ⟨_, Go.Proofs.Tryz.func75, kSlicesIndexFuncIntInt⟩, ⟨_, Go.Proofs.Tryz.func76, kTrianglesLists⟩, ⟨_, Go.Proofs.Tryz.func77, kTrianglesSharedInt⟩, ⟨_, Go.Proofs.Tryz.func78, kRef02Put⟩, ⟨_, Go.Proofs.Tryz.func79, kCmpIsNaNInt⟩, ⟨_, Go.Proofs.Tryz.func80, kMathBitsTrailingZeros64⟩, ⟨_, Go.Proofs.Tryz.func81, kMasksRows⟩, ⟨_, Go.Proofs.Tryz.func82, kGraphEdge⟩, ⟨_, Go.Proofs.Tryz.func83, kSlicesBinarySearchFuncApiEdgeApiEdgeApiEdge⟩, ⟨_, Go.Proofs.Tryz.func84, kWideNumberZero⟩, ⟨_, Go.Proofs.Tryz.func85, kWideNumberEven⟩, ⟨_, Go.Proofs.Tryz.func86, kWideNumberHalf⟩, ⟨_, Go.Proofs.Tryz.func87, kWideNumberBelow⟩, ⟨_, Go.Proofs.Tryz.func88, kWideNumberLess⟩, ⟨_, Go.Proofs.Tryz.func89, kWideNumberTwice⟩, ⟨_, Go.Proofs.Tryz.func90, kRef02Meet⟩, ⟨_, Go.Proofs.Tryz.func91, kRef01Reduce⟩, ⟨_, Go.Proofs.Tryz.func92, kRef01Size⟩, ⟨_, Go.Proofs.Tryz.func99, kRef02Has⟩, ⟨_, Go.Proofs.Tryz.func100, kRef01Gcd⟩, ⟨_, Go.Proofs.Tryz.func101, kRef01Divide⟩, ⟨_, Go.Proofs.Tryz.func103, kRef01Double⟩, ⟨_, Go.Proofs.Tryz.func104, kRef01Less⟩, ⟨_, Go.Proofs.Tryz.func105, kRef01Sub⟩, trivial⟩
theorem cfgOK : CfgOKB Go.Proofs.Tryz.prog cfg := ⟨by kernel_rfl, fun f m q h => allGood.get _ (look_mem h)⟩
theorem gQa : cfg.fn nQa = some (⟨false, false, true⟩, qQa) := rfl
theorem gQb : cfg.fn nQb = some (⟨false, false, true⟩, qQb) := rfl
theorem gQc : cfg.fn nQc = some (⟨false, false, true⟩, qQc) := rfl
theorem gQd : cfg.fn nQd = some (⟨true, false, false⟩, qQd) := rfl
theorem gQe : cfg.fn nQe = some (⟨true, false, false⟩, qQe) := rfl
theorem gQf : cfg.fn nQf = some (⟨false, false, true⟩, qQf) := rfl
theorem gQg : cfg.fn nQg = some (⟨false, false, false⟩, qQg) := rfl
theorem gQh : cfg.fn nQh = some (⟨false, false, true⟩, qQh) := rfl
theorem gQi : cfg.fn nQi = some (⟨false, false, true⟩, qQi) := rfl
theorem gQj : cfg.fn nQj = some (⟨false, false, false⟩, qQj) := rfl
theorem gQk : cfg.fn nQk = some (⟨false, false, false⟩, qQk) := rfl
theorem gQn : cfg.fn nQn = some (⟨true, false, false⟩, qQn) := rfl
theorem gQo : cfg.fn nQo = some (⟨false, false, true⟩, qQo) := rfl
theorem gQp : cfg.fn nQp = some (⟨false, false, true⟩, qQp) := rfl
theorem gQq : cfg.fn nQq = some (⟨false, false, true⟩, qQq) := rfl
theorem gQr : cfg.fn nQr = some (⟨false, false, false⟩, qQr) := rfl
theorem gQs : cfg.fn nQs = some (⟨false, true, true⟩, qQs) := rfl
theorem gQt : cfg.fn nQt = some (⟨false, false, true⟩, qQt) := rfl
theorem gQu : cfg.fn nQu = some (⟨false, false, false⟩, qQu) := rfl
theorem gQv : cfg.fn nQv = some (⟨false, false, false⟩, qQv) := rfl
theorem gQw : cfg.fn nQw = some (⟨false, false, true⟩, qQw) := rfl
theorem gQx : cfg.fn nQx = some (⟨false, false, true⟩, qQx) := rfl
theorem gQy : cfg.fn nQy = some (⟨false, false, false⟩, qQy) := rfl
theorem gQz : cfg.fn nQz = some (⟨false, false, true⟩, qQz) := rfl
theorem gQC : cfg.fn nQC = some (⟨false, false, true⟩, qQC) := rfl
theorem gQD : cfg.fn nQD = some (⟨false, false, true⟩, qQD) := rfl
theorem gQE : cfg.fn nQE = some (⟨false, false, false⟩, qQE) := rfl
theorem gQF : cfg.fn nQF = some (⟨false, false, true⟩, qQF) := rfl
theorem gQG : cfg.fn nQG = some (⟨false, false, false⟩, qQG) := rfl
theorem gQH : cfg.fn nQH = some (⟨false, false, true⟩, qQH) := rfl
theorem gQI : cfg.fn nQI = some (⟨false, false, true⟩, qQI) := rfl
theorem gQJ : cfg.fn nQJ = some (⟨false, false, false⟩, qQJ) := rfl
theorem gQM : cfg.fn nQM = some (⟨false, false, false⟩, qQM) := rfl
theorem gQN : cfg.fn nQN = some (⟨false, false, false⟩, qQN) := rfl
theorem gQT : cfg.fn nQT = some (⟨false, false, false⟩, qQT) := rfl
theorem gQU : cfg.fn nQU = some (⟨false, false, true⟩, qQU) := rfl
theorem gQV : cfg.fn nQV = some (⟨false, false, true⟩, qQV) := rfl
theorem gQW : cfg.fn nQW = some (⟨false, false, false⟩, qQW) := rfl
theorem gQX : cfg.fn nQX = some (⟨false, false, true⟩, qQX) := rfl
theorem gQY : cfg.fn nQY = some (⟨false, false, true⟩, qQY) := rfl
theorem gQZ : cfg.fn nQZ = some (⟨false, false, true⟩, qQZ) := rfl
theorem gQ0 : cfg.fn nQ0 = some (⟨false, false, false⟩, qQ0) := rfl
theorem gQ5 : cfg.fn nQ5 = some (⟨false, false, false⟩, qQ5) := rfl
theorem gQ6 : cfg.fn nQ6 = some (⟨false, false, false⟩, qQ6) := rfl
theorem gQa0 : cfg.fn nQa0 = some (⟨false, false, false⟩, qQa0) := rfl
theorem gQa1 : cfg.fn nQa1 = some (⟨false, false, true⟩, qQa1) := rfl
theorem gQa2 : cfg.fn nQa2 = some (⟨false, false, true⟩, qQa2) := rfl
theorem gQa3 : cfg.fn nQa3 = some (⟨false, false, false⟩, qQa3) := rfl
theorem gQa4 : cfg.fn nQa4 = some (⟨false, false, false⟩, qQa4) := rfl
theorem gQa5 : cfg.fn nQa5 = some (⟨false, false, true⟩, qQa5) := rfl
theorem gQb2 : cfg.fn nQb2 = some (⟨false, false, false⟩, qQb2) := rfl
theorem gQb3 : cfg.fn nQb3 = some (⟨false, false, false⟩, qQb3) := rfl
theorem gQb4 : cfg.fn nQb4 = some (⟨false, false, true⟩, qQb4) := rfl
theorem gQb6 : cfg.fn nQb6 = some (⟨false, false, true⟩, qQb6) := rfl
theorem gQb7 : cfg.fn nQb7 = some (⟨false, false, false⟩, qQb7) := rfl
theorem gQb8 : cfg.fn nQb8 = some (⟨false, false, false⟩, qQb8) := rfl
theorem gQb9 : cfg.fn nQb9 = some (⟨false, false, false⟩, qQb9) := rfl
theorem gQc0 : cfg.fn nQc0 = some (⟨false, false, true⟩, qQc0) := rfl
theorem gQc1 : cfg.fn nQc1 = some (⟨false, false, false⟩, qQc1) := rfl
end Go.BmP
