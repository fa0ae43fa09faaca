/- The compact code of the functions, printed by program off the translation. -/
import Derived.Test.YtkhnplbbngkjkaaGreatChecked
import Derived.Test.YtkhnplbbngkjkaaGreatBmA
import Derived.KernelRfl
set_option maxRecDepth 100000
namespace Go.BmP
open Go.Am Go.Bm
abbrev oo (d : Nat) (x : Kd) : O := ⟨some d, none, x⟩
abbrev oz (x : Kd) : O := ⟨none, none, x⟩
abbrev ki (n : Nat) : E := .k (.int .i64 n)
def nQa : Nat := 3
def nQb : Nat := 4
def nQc : Nat := 5
def nQd : Nat := 6
def nQe : Nat := 7
def nQf : Nat := 8
def nQg : Nat := 9
def nQh : Nat := 10
def nQi : Nat := 11
def nQj : Nat := 12
def nQk : Nat := 13
def nQl : Nat := 14
def nQm : Nat := 15
def nQn : Nat := 16
def nQo : Nat := 17
def nQp : Nat := 18
def nQq : Nat := 19
def nQr : Nat := 20
def nQs : Nat := 21
def nQt : Nat := 22
def nQu : Nat := 23
def nQv : Nat := 24
def nQw : Nat := 25
def nQx : Nat := 26
def nQy : Nat := 27
def nQz : Nat := 28
def nQA : Nat := 29
def nQB : Nat := 30
def nQC : Nat := 31
def nQD : Nat := 32
def nQE : Nat := 33
def nQF : Nat := 34
def nQG : Nat := 35
def nQH : Nat := 36
def nQI : Nat := 37
def nQJ : Nat := 38
def nQK : Nat := 39
def nQL : Nat := 40
def nQM : Nat := 41
def nQN : Nat := 42
def nQO : Nat := 43
def nQP : Nat := 44
def nQQ : Nat := 45
def nQR : Nat := 46
def nQS : Nat := 47
def nQT : Nat := 48
def nQU : Nat := 49
def nQV : Nat := 50
def nQW : Nat := 51
def nQX : Nat := 54
def nQY : Nat := 55
def nQZ : Nat := 56
def nQ0 : Nat := 58
def nQ1 : Nat := 59
def nQ2 : Nat := 60
def nQ3 : Nat := 61
def nQ4 : Nat := 62
def nQ5 : Nat := 73
def nQ6 : Nat := 82
def nQ7 : Nat := 83
def nQ8 : Nat := 84
def nQ9 : Nat := 85
/- cohesion/cohesionlaw37.PartitionJoins -/
def rQaX0 : List O := [
 oo 2 <| .mv (.k (.bool false))]
def rQaX1 : List O := [
 oo 20 <| .mv (.t 0),
 oo 21 <| .call nQb [(.t 20)],
 oo 22 <| .un .not (.t 21)]
def rQaX2 : List O := [
 oo 23 <| .call nQc [],
 oo 2 <| .mv (.t 23)]
def rQaX3 : List O := [
 oo 24 <| .mv (.t 0),
 oo 25 <| .call nQd [(.t 24)],
 oo 3 <| .mv (.t 25)]
def rQaX4 : List O := [
 oo 26 <| .mv (.t 3),
 oo 27 <| .call nQe [(.t 26), (ki 9)],
 oo 4 <| .new [(.int .i64 0), (.own 2 [])],
 oz <| .st 2 (.t 4) (.t 27)]
def rQaX5 : List O := [
 oo 28 <| .mv (.t 3),
 oo 29 <| .fad 0 (.t 4),
 oo 30 <| .ld none (.t 29),
 oo 31 <| .call nQf [(.t 28), (.t 30)],
 oo 5 <| .new [(.int .i64 0), (.own 1 []), (.own 1 [])],
 oz <| .st 3 (.t 5) (.t 31)]
def rQaX6 : List O := [
 oo 33 <| .ld (some 2) (.t 4),
 oo 34 <| .ld (some 3) (.t 5),
 oo 35 <| .call nQg [(.t 33), (.t 34)],
 oo 32 <| .mv (.t 35),
 oo 36 <| .ext 0 (.t 32),
 oo 37 <| .ext 1 (.t 32),
 oo 6 <| .mv (.t 36),
 oo 7 <| .mv (.t 37)]
def rQaX7 : List O := [
 oo 8 <| .mv (.k (.own 2 []))]
def rQaX8 : List O := [
 oo 9 <| .mv (ki 0)]
def rQaX9 : List O := [
 oo 38 <| .mv (.t 9),
 oo 39 <| .fad 0 (.t 5),
 oo 40 <| .ld none (.t 39),
 oo 41 <| .bin .lss (.t 38) (.t 40)]
def rQaX10 : List O := [
 oo 45 <| .ld (some 2) (.t 4),
 oo 46 <| .ld (some 3) (.t 5),
 oo 47 <| .mv (.t 9),
 oo 48 <| .call nQh [(.t 45), (.t 46), (.t 47)],
 oo 44 <| .mv (.t 48),
 oo 49 <| .ext 0 (.t 44),
 oo 50 <| .ext 1 (.t 44),
 oo 10 <| .new [(.int .i64 0), (.own 2 [])],
 oz <| .st 2 (.t 10) (.t 49),
 oo 11 <| .mv (.t 50)]
def rQaX11 : List O := [
 oo 52 <| .ld (some 2) (.t 4),
 oo 53 <| .ld (some 3) (.t 5),
 oo 54 <| .mv (.t 9),
 oo 55 <| .call nQi [(.t 52), (.t 53), (.t 54)],
 oo 51 <| .mv (.t 55),
 oo 56 <| .ext 0 (.t 51),
 oo 57 <| .ext 1 (.t 51),
 oo 12 <| .mv (.t 56),
 oo 13 <| .mv (.t 57)]
def rQaX12 : List O := [
 oo 58 <| .mv (.t 11),
 oo 59 <| .bin .neq (.t 58) (ki 0),
 oo 60 <| .mv (.t 59),
 ⟨(some 61), (some (60, false)), .mv (.t 13)⟩,
 ⟨(some 62), (some (60, false)), .bin .neq (.t 61) (ki 0)⟩,
 oo 63 <| .pick (.t 60) (.k (.bool true)) (.t 62),
 oo 64 <| .mv (.t 63),
 ⟨(some 65), (some (64, false)), .mv (.t 9)⟩,
 ⟨(some 66), (some (64, false)), .mv (.t 6)⟩,
 ⟨(some 67), (some (64, false)), .len (.t 66)⟩,
 ⟨(some 68), (some (64, false)), .bin .geq (.t 65) (.t 67)⟩,
 oo 69 <| .pick (.t 64) (.k (.bool true)) (.t 68),
 oo 70 <| .mv (.t 69),
 ⟨(some 71), (some (70, false)), .mv (.t 6)⟩,
 ⟨(some 72), (some (70, false)), .mv (.t 9)⟩,
 ⟨(some 73), (some (70, false)), .ixa 1 (.t 71) (.t 72)⟩,
 ⟨(some 74), (some (70, false)), .ld none (.t 73)⟩,
 ⟨(some 75), (some (70, false)), .fad 1 (.t 10)⟩,
 ⟨(some 76), (some (70, false)), .ld none (.t 75)⟩,
 ⟨(some 77), (some (70, false)), .len (.t 76)⟩,
 ⟨(some 78), (some (70, false)), .bin .neq (.t 74) (.t 77)⟩,
 oo 79 <| .pick (.t 70) (.k (.bool true)) (.t 78)]
def rQaX13 : List O := [
 oo 2 <| .mv (.k (.bool false))]
def rQaX14 : List O := [
 oo 80 <| .mv (.t 12),
 oo 81 <| .len (.t 80),
 oo 82 <| .mv (ki 0)]
def rQaX15 : List O := [
 oo 83 <| .bin .lss (.t 82) (.t 81)]
def rQaX16 : List O := [
 oo 84 <| .ixa 1 (.t 80) (.t 82),
 oo 85 <| .ld none (.t 84),
 oo 15 <| .mv (.t 85)]
def rQaX17 : List O := [
 oo 86 <| .mv (.t 15),
 oo 87 <| .bin .lss (.t 86) (ki 0),
 oo 88 <| .mv (.t 87),
 ⟨(some 89), (some (88, false)), .mv (.t 15)⟩,
 ⟨(some 90), (some (88, false)), .fad 1 (.t 5)⟩,
 ⟨(some 91), (some (88, false)), .ld none (.t 90)⟩,
 ⟨(some 92), (some (88, false)), .len (.t 91)⟩,
 ⟨(some 93), (some (88, false)), .bin .geq (.t 89) (.t 92)⟩,
 oo 94 <| .pick (.t 88) (.k (.bool true)) (.t 93),
 oo 95 <| .mv (.t 94),
 ⟨(some 96), (some (95, false)), .fad 1 (.t 5)⟩,
 ⟨(some 97), (some (95, false)), .ld none (.t 96)⟩,
 ⟨(some 98), (some (95, false)), .mv (.t 15)⟩,
 ⟨(some 99), (some (95, false)), .ixa 1 (.t 97) (.t 98)⟩,
 ⟨(some 100), (some (95, false)), .ld none (.t 99)⟩,
 ⟨(some 101), (some (95, false)), .mv (.t 9)⟩,
 ⟨(some 102), (some (95, false)), .bin .eql (.t 100) (.t 101)⟩,
 oo 103 <| .pick (.t 95) (.k (.bool true)) (.t 102),
 oo 104 <| .mv (.t 103),
 ⟨(some 105), (some (104, false)), .ld (some 2) (.t 10)⟩,
 ⟨(some 106), (some (104, false)), .mv (.t 15)⟩,
 ⟨(some 107), (some (104, false)), .call nQj [(.t 105), (.t 106)]⟩,
 ⟨(some 108), (some (104, false)), .bin .eql (.t 107) (ki 0)⟩,
 oo 109 <| .pick (.t 104) (.k (.bool true)) (.t 108)]
def rQaX18 : List O := [
 oo 2 <| .mv (.k (.bool false))]
def rQaX19 : List O := [
 oo 110 <| .bin .add (.t 82) (ki 1),
 oo 82 <| .mv (.t 110)]
def lQaX0 : C := (.seq (.reg rQaX15 false [] [4, 5, 6, 7, 8, 9, 10, 80, 81, 82, 83]) (.seq (.cond (.t 83) .skip (.exit 2)) (.seq (.blk 3 (.seq (.reg rQaX16 false [] [4, 5, 6, 7, 8, 9, 10, 15, 80, 81, 82]) (.seq (.reg rQaX17 false [] [4, 5, 6, 7, 8, 9, 10, 80, 81, 82, 109]) (.cond (.t 109) (.seq (.reg rQaX18 false [] [2]) .ret) .skip)))) (.reg rQaX19 false [] [4, 5, 6, 7, 8, 9, 10, 80, 81, 82]))))
def rQaX20 : List O := [
 oo 111 <| .fad 1 (.t 10),
 oo 112 <| .ld none (.t 111),
 oo 113 <| .len (.t 112),
 oo 114 <| .mv (ki 0)]
def rQaX21 : List O := [
 oo 115 <| .bin .lss (.t 114) (.t 113)]
def rQaX22 : List O := [
 oo 116 <| .ixa 2 (.t 112) (.t 114),
 oo 117 <| .ld (some 2) (.t 116),
 oo 17 <| .new [(.int .i64 0), (.int .i64 0)],
 oz <| .st 2 (.t 17) (.t 117)]
def rQaX23 : List O := [
 oo 118 <| .ld (some 3) (.t 5),
 oo 119 <| .fad 0 (.t 17),
 oo 120 <| .ld none (.t 119),
 oo 121 <| .fad 1 (.t 17),
 oo 122 <| .ld none (.t 121),
 oo 123 <| .call nQk [(.t 118), (.t 120), (.t 122)],
 oo 124 <| .mv (.t 9),
 oo 125 <| .bin .neq (.t 123) (.t 124)]
def rQaX24 : List O := [
 oo 2 <| .mv (.k (.bool false))]
def rQaX25 : List O := [
 oo 126 <| .bin .add (.t 114) (ki 1),
 oo 114 <| .mv (.t 126)]
def lQaX1 : C := (.seq (.reg rQaX21 false [] [4, 5, 6, 7, 8, 9, 10, 112, 113, 114, 115]) (.seq (.cond (.t 115) .skip (.exit 4)) (.seq (.blk 5 (.seq (.reg rQaX22 false [] [4, 5, 6, 7, 8, 9, 10, 17, 112, 113, 114]) (.seq (.reg rQaX23 false [] [4, 5, 6, 7, 8, 9, 10, 112, 113, 114, 125]) (.cond (.t 125) (.seq (.reg rQaX24 false [] [2]) .ret) .skip)))) (.reg rQaX25 false [] [4, 5, 6, 7, 8, 9, 10, 112, 113, 114]))))
def rQaX26 : List O := [
 oo 127 <| .mv (.t 8),
 oo 128 <| .ld (some 2) (.t 10),
 oo 129 <| .bslice 2 1 [(.int .i64 0), (.own 2 [])] [(0, 2, (.t 128))],
 oo 130 <| .app 2 (.t 127) (.t 129),
 oo 8 <| .mv (.t 130)]
def rQaX27 : List O := [
 oo 42 <| .mv (.t 9),
 oo 43 <| .bin .add (.t 42) (ki 1),
 oo 9 <| .mv (.t 43)]
def lQaX2 : C := (.seq (.seq (.reg rQaX9 false [] [4, 5, 6, 7, 8, 9, 41]) (.cond (.t 41) .skip (.exit 0))) (.seq (.blk 1 (.seq (.reg rQaX10 false [] [4, 5, 6, 7, 8, 9, 10, 11]) (.seq (.reg rQaX11 false [] [4, 5, 6, 7, 8, 9, 10, 11, 12, 13]) (.seq (.seq (.reg rQaX12 true [(0, 0), (1, 1), (2, 2), (3, 3), (4, 4), (5, 5), (6, 6), (10, 10), (11, 11), (12, 12), (20, 20), (21, 21), (16, 17), (13, 18), (14, 18), (15, 18), (16, 18), (16, 19)] [4, 5, 6, 7, 8, 9, 10, 12, 79]) (.cond (.t 79) (.seq (.reg rQaX13 false [] [2]) .ret) .skip)) (.seq (.seq (.reg rQaX14 false [] [4, 5, 6, 7, 8, 9, 10, 80, 81, 82]) (.blk 2 (.loop lQaX0))) (.seq (.seq (.reg rQaX20 false [] [4, 5, 6, 7, 8, 9, 10, 112, 113, 114]) (.blk 4 (.loop lQaX1))) (.reg rQaX26 false [] [4, 5, 6, 7, 8, 9]))))))) (.reg rQaX27 false [] [4, 5, 6, 7, 8, 9])))
def rQaX28 : List O := [
 oo 132 <| .fad 0 (.t 4),
 oo 133 <| .ld none (.t 132),
 oo 134 <| .mv (.t 8),
 oo 135 <| .call nQl [(.t 133), (.t 134)],
 oo 131 <| .mv (.t 135),
 oo 136 <| .ext 0 (.t 131),
 oo 137 <| .ext 1 (.t 131),
 oo 18 <| .new [(.int .i64 0), (.own 2 [])],
 oz <| .st 2 (.t 18) (.t 136),
 oo 19 <| .mv (.t 137)]
def rQaX29 : List O := [
 oo 138 <| .mv (.t 7),
 oo 139 <| .bin .eql (.t 138) (ki 0),
 oo 140 <| .mv (.t 139),
 ⟨(some 141), (some (140, true)), .mv (.t 19)⟩,
 ⟨(some 142), (some (140, true)), .bin .eql (.t 141) (ki 0)⟩,
 oo 143 <| .pick (.t 140) (.t 142) (.k (.bool false)),
 oo 144 <| .mv (.t 143),
 ⟨(some 145), (some (144, true)), .ld (some 2) (.t 18)⟩,
 ⟨(some 146), (some (144, true)), .ld (some 2) (.t 4)⟩,
 ⟨(some 147), (some (144, true)), .call nQm [(.t 145), (.t 146)]⟩,
 oo 148 <| .pick (.t 144) (.t 147) (.k (.bool false)),
 oo 149 <| .mv (.t 148),
 ⟨(some 150), (some (149, true)), .call nQc []⟩,
 oo 151 <| .pick (.t 149) (.t 150) (.k (.bool false)),
 oo 2 <| .mv (.t 151)]
def cQa : C := (.seq (.reg rQaX0 false [] [0]) (.seq (.seq (.reg rQaX1 false [] [0, 22]) (.cond (.t 22) (.seq (.reg rQaX2 false [] [2]) .ret) .skip)) (.seq (.reg rQaX3 false [] [3]) (.seq (.reg rQaX4 false [] [3, 4]) (.seq (.reg rQaX5 false [] [4, 5]) (.seq (.reg rQaX6 false [] [4, 5, 6, 7]) (.seq (.reg rQaX7 false [] [4, 5, 6, 7, 8]) (.seq (.seq (.reg rQaX8 false [] [4, 5, 6, 7, 8, 9]) (.blk 0 (.loop lQaX2))) (.seq (.reg rQaX28 false [] [4, 7, 18, 19]) (.seq (.reg rQaX29 false [] [2]) .ret))))))))))
def qQa : AFn := ⟨152, 1, [.t 2], cQa⟩
/- cohesion/cohesionmake.Few -/
def rQbX0 : List O := [
 oo 2 <| .mv (.k (.bool false))]
def rQbX1 : List O := [
 oo 3 <| .mv (.t 0),
 oo 4 <| .len (.t 3),
 oo 5 <| .bin .leq (.t 4) (ki 500),
 oo 2 <| .mv (.t 5)]
def cQb : C := (.seq (.reg rQbX0 false [] [0]) (.seq (.reg rQbX1 false [] [2]) .ret))
def qQb : AFn := ⟨6, 1, [.t 2], cQb⟩
/- cohesion/cohesionlaw37.awake -/
def rQcX0 : List O := [
 oo 0 <| .mv (.k (.bool false))]
def rQcX1 : List O := [
 oo 4 <| .build [(.int .i64 0), (.int .i64 0)] [(0, 1, (ki 0)), (1, 1, (ki 1))],
 oo 5 <| .build [(.int .i64 0), (.int .i64 0)] [(0, 1, (ki 0)), (1, 1, (ki 2))],
 oo 6 <| .build [(.int .i64 0), (.int .i64 0)] [(0, 1, (ki 0)), (1, 1, (ki 3))],
 oo 7 <| .bslice 2 3 [(.int .i64 0), (.int .i64 0)] [(0, 2, (.t 4)), (2, 2, (.t 5)), (4, 2, (.t 6))],
 oo 8 <| .build [(.int .i64 0), (.own 2 [])] [(0, 1, (ki 4)), (1, 1, (.t 7))],
 oo 1 <| .new [(.int .i64 0), (.own 2 [])],
 oz <| .st 2 (.t 1) (.t 8)]
def rQcX2 : List O := [
 oo 10 <| .ld (some 2) (.t 1),
 oo 11 <| .call nQn [(.t 10), (ki 2), (ki 3)],
 oo 9 <| .mv (.t 11),
 oo 12 <| .ext 0 (.t 9),
 oo 13 <| .ext 1 (.t 9),
 oo 2 <| .new [(.int .i64 0), (.own 1 []), (.own 1 [])],
 oz <| .st 3 (.t 2) (.t 12),
 oo 3 <| .mv (.t 13)]
def rQcX3 : List O := [
 oo 14 <| .mv (.t 3),
 oo 15 <| .bin .eql (.t 14) (ki 0),
 oo 16 <| .mv (.t 15),
 ⟨(some 17), (some (16, true)), .fad 1 (.t 2)⟩,
 ⟨(some 18), (some (16, true)), .ld none (.t 17)⟩,
 ⟨(some 19), (some (16, true)), .bslice 1 4 [(.int .i64 0)] [(0, 1, (ki 0)), (1, 1, (ki 1)), (2, 1, (ki 1)), (3, 1, (ki 1))]⟩,
 ⟨(some 20), (some (16, true)), .call nQo [(.t 18), (.t 19)]⟩,
 ⟨(some 21), (some (16, true)), .bin .eql (.t 20) (ki 0)⟩,
 oo 22 <| .pick (.t 16) (.t 21) (.k (.bool false)),
 oo 23 <| .mv (.t 22),
 ⟨(some 24), (some (23, true)), .fad 2 (.t 2)⟩,
 ⟨(some 25), (some (23, true)), .ld none (.t 24)⟩,
 ⟨(some 26), (some (23, true)), .bslice 1 1 [(.int .i64 0)] [(0, 1, (ki 0))]⟩,
 ⟨(some 27), (some (23, true)), .call nQo [(.t 25), (.t 26)]⟩,
 ⟨(some 28), (some (23, true)), .bin .eql (.t 27) (ki 0)⟩,
 oo 29 <| .pick (.t 23) (.t 28) (.k (.bool false)),
 oo 30 <| .mv (.t 29),
 ⟨(some 31), (some (30, true)), .ld (some 3) (.t 2)⟩,
 ⟨(some 32), (some (30, true)), .call nQk [(.t 31), (ki 0), (ki 2)]⟩,
 ⟨(some 33), (some (30, true)), .bin .eql (.t 32) (ki 1)⟩,
 oo 34 <| .pick (.t 30) (.t 33) (.k (.bool false)),
 oo 0 <| .mv (.t 34)]
def cQc : C := (.seq (.reg rQcX0 false [] []) (.seq (.reg rQcX1 false [] [1]) (.seq (.reg rQcX2 false [] [2, 3]) (.seq (.reg rQcX3 false [] [0]) .ret))))
def qQc : AFn := ⟨35, 0, [.t 0], cQc⟩
/- cohesion/cohesionmake.New -/
def rQdX0 : List O := [
 oo 2 <| .mv (.k .nilp)]
def rQdX1 : List O := [
 oo 3 <| .mv (.t 0),
 oo 4 <| .build [(.own 1 []), (.int .i64 0)] [(0, 1, (.t 3))],
 oo 5 <| .box (.t 4),
 oo 2 <| .mv (.t 5)]
def cQd : C := (.seq (.reg rQdX0 false [] [0]) (.seq (.reg rQdX1 false [] [2]) .ret))
def qQd : AFn := ⟨6, 1, [.t 2], cQd⟩
/- cohesion/cohesionmake.Graph -/
def rQeX0 : List O := [
 oo 4 <| .new [(.int .i64 0), (.own 2 [])]]
def rQeX1 : List O := [
 oo 9 <| .mv (.t 0),
 oo 10 <| .mv (.t 1),
 oo 11 <| .bin .add (.t 10) (ki 1),
 oo 12 <| .call nQp [(.t 9), (.t 11)],
 oo 13 <| .build [(.int .i64 0), (.own 2 [])] [(0, 1, (.t 12))],
 oo 5 <| .new [(.int .i64 0), (.own 2 [])],
 oz <| .st 2 (.t 5) (.t 13)]
def rQeX2 : List O := [
 oo 14 <| .fad 0 (.t 5),
 oo 15 <| .ld none (.t 14),
 oo 16 <| .bin .lss (.t 15) (ki 4)]
def rQeX3 : List O := [
 oo 17 <| .mv (.t 1),
 oo 18 <| .fad 0 (.t 5),
 oo 19 <| .ld none (.t 18),
 oo 20 <| .mv (.t 0),
 oo 21 <| .mv (.t 1),
 oo 22 <| .bin .add (.t 21) (ki 1),
 oo 23 <| .call nQp [(.t 20), (.t 22)],
 oo 24 <| .bin .add (.t 19) (.t 23),
 oo 25 <| .min [(.t 17), (.t 24)],
 oo 26 <| .fad 0 (.t 5),
 oz <| .st 1 (.t 26) (.t 25)]
def rQeX4 : List O := [
 oo 27 <| .mv (.t 0),
 oo 28 <| .call nQp [(.t 27), (ki 4)],
 oo 29 <| .bin .add (ki 1) (.t 28),
 oo 6 <| .mv (.t 29)]
def rQeX5 : List O := [
 oo 7 <| .mv (ki 0)]
def rQeX6 : List O := [
 oo 30 <| .mv (.t 7),
 oo 31 <| .fad 0 (.t 5),
 oo 32 <| .ld none (.t 31),
 oo 33 <| .bin .lss (.t 30) (.t 32)]
def rQeX7 : List O := [
 oo 36 <| .mv (.t 7),
 oo 37 <| .bin .add (.t 36) (ki 1),
 oo 8 <| .mv (.t 37)]
def rQeX8 : List O := [
 oo 38 <| .mv (.t 8),
 oo 39 <| .fad 0 (.t 5),
 oo 40 <| .ld none (.t 39),
 oo 41 <| .bin .lss (.t 38) (.t 40)]
def rQeX9 : List O := [
 oo 44 <| .mv (.t 0),
 oo 45 <| .call nQp [(.t 44), (ki 5)],
 oo 46 <| .mv (.t 6),
 oo 47 <| .bin .sub (ki 5) (.t 46),
 oo 48 <| .bin .geq (.t 45) (.t 47)]
def rQeX10 : List O := [
 oo 49 <| .fad 1 (.t 5),
 oo 50 <| .ld none (.t 49),
 oo 51 <| .mv (.t 7),
 oo 52 <| .mv (.t 8),
 oo 53 <| .build [(.int .i64 0), (.int .i64 0)] [(0, 1, (.t 51)), (1, 1, (.t 52))],
 oo 54 <| .bslice 2 1 [(.int .i64 0), (.int .i64 0)] [(0, 2, (.t 53))],
 oo 55 <| .app 2 (.t 50) (.t 54),
 oo 56 <| .fad 1 (.t 5),
 oz <| .st 1 (.t 56) (.t 55)]
def rQeX11 : List O := [
 oo 42 <| .mv (.t 8),
 oo 43 <| .bin .add (.t 42) (ki 1),
 oo 8 <| .mv (.t 43)]
def lQeX0 : C := (.seq (.seq (.reg rQeX8 false [] [0, 4, 5, 6, 7, 8, 41]) (.cond (.t 41) .skip (.exit 2))) (.seq (.blk 3 (.seq (.reg rQeX9 false [] [0, 4, 5, 6, 7, 8, 48]) (.cond (.t 48) (.reg rQeX10 false [] [0, 4, 5, 6, 7, 8]) .skip))) (.reg rQeX11 false [] [0, 4, 5, 6, 7, 8])))
def rQeX12 : List O := [
 oo 34 <| .mv (.t 7),
 oo 35 <| .bin .add (.t 34) (ki 1),
 oo 7 <| .mv (.t 35)]
def lQeX1 : C := (.seq (.seq (.reg rQeX6 false [] [0, 4, 5, 6, 7, 33]) (.cond (.t 33) .skip (.exit 0))) (.seq (.blk 1 (.seq (.reg rQeX7 false [] [0, 4, 5, 6, 7, 8]) (.blk 2 (.loop lQeX0)))) (.reg rQeX12 false [] [0, 4, 5, 6, 7])))
def rQeX13 : List O := [
 oo 57 <| .ld (some 2) (.t 5),
 oz <| .st 2 (.t 4) (.t 57)]
def cQe : C := (.seq (.reg rQeX0 false [] [0, 1, 4]) (.seq (.reg rQeX1 false [] [0, 1, 4, 5]) (.seq (.seq (.reg rQeX2 false [] [0, 1, 4, 5, 16]) (.cond (.t 16) (.reg rQeX3 true [(8, 8), (9, 9), (10, 10), (0, 2), (2, 3), (2, 4), (2, 5), (0, 6), (1, 6), (2, 6)] [0, 4, 5]) .skip)) (.seq (.reg rQeX4 false [] [0, 4, 5, 6]) (.seq (.seq (.reg rQeX5 false [] [0, 4, 5, 6, 7]) (.blk 0 (.loop lQeX1))) (.seq (.reg rQeX13 false [] [4]) .ret))))))
def qQe : AFn := ⟨58, 2, [.c 4 (some 2)], cQe⟩
/- cohesion/cohesionfield.Plan -/
def rQfX0 : List O := [
 oo 4 <| .new [(.int .i64 0), (.own 1 []), (.own 1 [])]]
def rQfX1 : List O := [
 oo 6 <| .mv (.t 0),
 oo 7 <| .call nQp [(.t 6), (ki 4)],
 oo 8 <| .bin .add (ki 1) (.t 7),
 oo 9 <| .build [(.int .i64 0), (.own 1 []), (.own 1 [])] [(0, 1, (.t 8))],
 oo 5 <| .new [(.int .i64 0), (.own 1 []), (.own 1 [])],
 oz <| .st 3 (.t 5) (.t 9)]
def rQfX2 : List O := [
 oo 10 <| .mv (.t 0),
 oo 11 <| .mv (.t 1),
 oo 12 <| .fad 0 (.t 5),
 oo 13 <| .ld none (.t 12),
 oo 14 <| .call nQq [(.t 10), (.t 11), (.t 13)],
 oo 15 <| .fad 1 (.t 5),
 oz <| .st 1 (.t 15) (.t 14)]
def rQfX3 : List O := [
 oo 16 <| .mv (.t 0),
 oo 17 <| .call nQp [(.t 16), (ki 2)],
 oo 18 <| .bin .eql (.t 17) (ki 1)]
def rQfX4 : List O := [
 oo 19 <| .mv (.t 0),
 oo 20 <| .mv (.t 1),
 oo 21 <| .call nQr [(.t 19), (.t 20)],
 oo 22 <| .fad 2 (.t 5),
 oz <| .st 1 (.t 22) (.t 21)]
def rQfX5 : List O := [
 oo 23 <| .ld (some 3) (.t 5),
 oz <| .st 3 (.t 4) (.t 23)]
def cQf : C := (.seq (.reg rQfX0 false [] [0, 1, 4]) (.seq (.reg rQfX1 false [] [0, 1, 4, 5]) (.seq (.reg rQfX2 false [] [0, 1, 4, 5]) (.seq (.seq (.reg rQfX3 false [] [0, 1, 4, 5, 18]) (.cond (.t 18) (.reg rQfX4 false [] [4, 5]) .skip)) (.seq (.reg rQfX5 false [] [4]) .ret)))))
def qQf : AFn := ⟨24, 2, [.c 4 (some 3)], cQf⟩
/- cohesion/partition.Loads -/
def rQgX0 : List O := [
 oo 2 <| .box (.t 0),
 oo 3 <| .box (.t 1),
 oo 4 <| .mv (.k (.own 1 [])),
 oo 5 <| .mv (ki 0)]
def rQgX1 : List O := [
 oo 10 <| .ld (some 2) (.t 2),
 oo 11 <| .ld (some 3) (.t 3),
 oo 12 <| .call nQs [(.t 10), (.t 11)],
 oo 6 <| .mv (.t 12)]
def rQgX2 : List O := [
 oo 13 <| .mv (.t 6),
 oo 14 <| .bin .neq (.t 13) (ki 0)]
def rQgX3 : List O := [
 oo 15 <| .mv (.t 6),
 oo 4 <| .mv (.k (.own 1 [])),
 oo 5 <| .mv (.t 15)]
def rQgX4 : List O := [
 oo 16 <| .fad 0 (.t 3),
 oo 17 <| .ld none (.t 16),
 oo 18 <| .mks 1 [(.int .i64 0)] (.t 17) (.t 17),
 oo 7 <| .mv (.t 18)]
def rQgX5 : List O := [
 oo 19 <| .fad 1 (.t 2),
 oo 20 <| .ld none (.t 19),
 oo 21 <| .len (.t 20),
 oo 22 <| .mv (ki 0)]
def rQgX6 : List O := [
 oo 23 <| .bin .lss (.t 22) (.t 21)]
def rQgX7 : List O := [
 oo 24 <| .ixa 2 (.t 20) (.t 22),
 oo 25 <| .ld (some 2) (.t 24),
 oo 9 <| .new [(.int .i64 0), (.int .i64 0)],
 oz <| .st 2 (.t 9) (.t 25)]
def rQgX8 : List O := [
 oo 26 <| .mv (.t 7),
 oo 27 <| .ld (some 3) (.t 3),
 oo 28 <| .fad 0 (.t 9),
 oo 29 <| .ld none (.t 28),
 oo 30 <| .fad 1 (.t 9),
 oo 31 <| .ld none (.t 30),
 oo 32 <| .call nQt [(.t 27), (.t 29), (.t 31)],
 oo 33 <| .ixa 1 (.t 26) (.t 32),
 oo 34 <| .ld none (.t 33),
 oo 35 <| .bin .add (.t 34) (ki 1),
 oo 36 <| .ixa 1 (.t 26) (.t 32),
 oz <| .st 1 (.t 36) (.t 35)]
def rQgX9 : List O := [
 oo 37 <| .bin .add (.t 22) (ki 1),
 oo 22 <| .mv (.t 37)]
def lQgX0 : C := (.seq (.reg rQgX6 false [] [3, 7, 20, 21, 22, 23]) (.seq (.cond (.t 23) .skip (.exit 0)) (.seq (.blk 1 (.seq (.reg rQgX7 false [] [3, 7, 9, 20, 21, 22]) (.reg rQgX8 false [] [3, 7, 20, 21, 22]))) (.reg rQgX9 false [] [3, 7, 20, 21, 22]))))
def rQgX10 : List O := [
 oo 38 <| .mv (.t 7),
 oo 4 <| .mv (.t 38),
 oo 5 <| .mv (ki 0)]
def cQg : C := (.seq (.reg rQgX0 false [] [2, 3]) (.seq (.seq (.reg rQgX1 false [] [2, 3, 6]) (.seq (.reg rQgX2 false [] [2, 3, 6, 14]) (.cond (.t 14) (.seq (.reg rQgX3 false [] [4, 5]) .ret) .skip))) (.seq (.reg rQgX4 false [] [2, 3, 7]) (.seq (.seq (.reg rQgX5 false [] [3, 7, 20, 21, 22]) (.blk 0 (.loop lQgX0))) (.seq (.reg rQgX10 false [] [4, 5]) .ret)))))
def qQg : AFn := ⟨39, 2, [.t 4, .t 5], cQg⟩
/- cohesion/partition.Local -/
def rQhX0 : List O := [
 oo 3 <| .box (.t 0),
 oo 4 <| .box (.t 1),
 oo 6 <| .new [(.int .i64 0), (.own 2 [])],
 oo 7 <| .mv (ki 0)]
def rQhX1 : List O := [
 oo 12 <| .ld (some 2) (.t 3),
 oo 13 <| .ld (some 3) (.t 4),
 oo 14 <| .call nQs [(.t 12), (.t 13)],
 oo 8 <| .mv (.t 14)]
def rQhX2 : List O := [
 oo 15 <| .mv (.t 8),
 oo 16 <| .bin .neq (.t 15) (ki 0)]
def rQhX3 : List O := [
 oo 17 <| .build [(.int .i64 0), (.own 2 [])] [],
 oo 18 <| .mv (.t 8),
 oz <| .st 2 (.t 6) (.t 17),
 oo 7 <| .mv (.t 18)]
def rQhX4 : List O := [
 oo 19 <| .mv (.t 2),
 oo 20 <| .bin .lss (.t 19) (ki 0),
 oo 21 <| .mv (.t 20),
 ⟨(some 22), (some (21, false)), .mv (.t 2)⟩,
 ⟨(some 23), (some (21, false)), .fad 0 (.t 4)⟩,
 ⟨(some 24), (some (21, false)), .ld none (.t 23)⟩,
 ⟨(some 25), (some (21, false)), .bin .geq (.t 22) (.t 24)⟩,
 oo 26 <| .pick (.t 21) (.k (.bool true)) (.t 25)]
def rQhX5 : List O := [
 oo 27 <| .build [(.int .i64 0), (.own 2 [])] [],
 oz <| .st 2 (.t 6) (.t 27),
 oo 7 <| .mv (ki 1)]
def rQhX6 : List O := [
 oo 28 <| .fad 0 (.t 3),
 oo 29 <| .ld none (.t 28),
 oo 30 <| .build [(.int .i64 0), (.own 2 [])] [(0, 1, (.t 29))],
 oo 9 <| .new [(.int .i64 0), (.own 2 [])],
 oz <| .st 2 (.t 9) (.t 30)]
def rQhX7 : List O := [
 oo 31 <| .fad 1 (.t 3),
 oo 32 <| .ld none (.t 31),
 oo 33 <| .len (.t 32),
 oo 34 <| .mv (ki 0)]
def rQhX8 : List O := [
 oo 35 <| .bin .lss (.t 34) (.t 33)]
def rQhX9 : List O := [
 oo 36 <| .ixa 2 (.t 32) (.t 34),
 oo 37 <| .ld (some 2) (.t 36),
 oo 11 <| .new [(.int .i64 0), (.int .i64 0)],
 oz <| .st 2 (.t 11) (.t 37)]
def rQhX10 : List O := [
 oo 38 <| .ld (some 3) (.t 4),
 oo 39 <| .fad 0 (.t 11),
 oo 40 <| .ld none (.t 39),
 oo 41 <| .fad 1 (.t 11),
 oo 42 <| .ld none (.t 41),
 oo 43 <| .call nQt [(.t 38), (.t 40), (.t 42)],
 oo 44 <| .mv (.t 2),
 oo 45 <| .bin .eql (.t 43) (.t 44)]
def rQhX11 : List O := [
 oo 46 <| .fad 1 (.t 9),
 oo 47 <| .ld none (.t 46),
 oo 48 <| .ld (some 2) (.t 11),
 oo 49 <| .bslice 2 1 [(.int .i64 0), (.int .i64 0)] [(0, 2, (.t 48))],
 oo 50 <| .app 2 (.t 47) (.t 49),
 oo 51 <| .fad 1 (.t 9),
 oz <| .st 1 (.t 51) (.t 50)]
def rQhX12 : List O := [
 oo 52 <| .bin .add (.t 34) (ki 1),
 oo 34 <| .mv (.t 52)]
def lQhX0 : C := (.seq (.reg rQhX8 false [] [2, 4, 6, 9, 32, 33, 34, 35]) (.seq (.cond (.t 35) .skip (.exit 0)) (.seq (.blk 1 (.seq (.reg rQhX9 false [] [2, 4, 6, 9, 11, 32, 33, 34]) (.seq (.reg rQhX10 false [] [2, 4, 6, 9, 11, 32, 33, 34, 45]) (.cond (.t 45) (.reg rQhX11 false [] [2, 4, 6, 9, 32, 33, 34]) .skip)))) (.reg rQhX12 false [] [2, 4, 6, 9, 32, 33, 34]))))
def rQhX13 : List O := [
 oo 53 <| .ld (some 2) (.t 9),
 oz <| .st 2 (.t 6) (.t 53),
 oo 7 <| .mv (ki 0)]
def cQh : C := (.seq (.reg rQhX0 false [] [2, 3, 4, 6]) (.seq (.seq (.reg rQhX1 false [] [2, 3, 4, 6, 8]) (.seq (.reg rQhX2 false [] [2, 3, 4, 6, 8, 16]) (.cond (.t 16) (.seq (.reg rQhX3 false [] [6, 7]) .ret) .skip))) (.seq (.seq (.reg rQhX4 false [] [2, 3, 4, 6, 26]) (.cond (.t 26) (.seq (.reg rQhX5 false [] [6, 7]) .ret) .skip)) (.seq (.reg rQhX6 false [] [2, 3, 4, 6, 9]) (.seq (.seq (.reg rQhX7 false [] [2, 4, 6, 9, 32, 33, 34]) (.blk 0 (.loop lQhX0))) (.seq (.reg rQhX13 false [] [6, 7]) .ret))))))
def qQh : AFn := ⟨54, 3, [.c 6 (some 2), .t 7], cQh⟩
/- cohesion/partition.Ghosts -/
def rQiX0 : List O := [
 oo 3 <| .box (.t 0),
 oo 4 <| .box (.t 1),
 oo 5 <| .box (.t 2),
 oo 6 <| .mv (.k (.own 1 [])),
 oo 7 <| .mv (ki 0)]
def rQiX1 : List O := [
 oo 14 <| .ld (some 2) (.t 3),
 oo 15 <| .ld (some 3) (.t 4),
 oo 16 <| .ld none (.t 5),
 oo 17 <| .call nQh [(.t 14), (.t 15), (.t 16)],
 oo 13 <| .mv (.t 17),
 oo 18 <| .ext 0 (.t 13),
 oo 19 <| .ext 1 (.t 13),
 oo 8 <| .new [(.int .i64 0), (.own 2 [])],
 oz <| .st 2 (.t 8) (.t 18),
 oo 9 <| .mv (.t 19)]
def rQiX2 : List O := [
 oo 20 <| .mv (.t 9),
 oo 21 <| .bin .neq (.t 20) (ki 0)]
def rQiX3 : List O := [
 oo 22 <| .mv (.t 9),
 oo 6 <| .mv (.k (.own 1 [])),
 oo 7 <| .mv (.t 22)]
def rQiX4 : List O := [
 oo 10 <| .mv (.k (.own 1 []))]
def rQiX5 : List O := [
 oo 23 <| .fad 1 (.t 8),
 oo 24 <| .ld none (.t 23),
 oo 25 <| .len (.t 24),
 oo 26 <| .mv (ki 0)]
def rQiX6 : List O := [
 oo 27 <| .bin .lss (.t 26) (.t 25)]
def rQiX7 : List O := [
 oo 28 <| .ixa 2 (.t 24) (.t 26),
 oo 29 <| .ld (some 2) (.t 28),
 oo 12 <| .new [(.int .i64 0), (.int .i64 0)],
 oz <| .st 2 (.t 12) (.t 29)]
def rQiX8 : List O := [
 oo 30 <| .mv (.t 10),
 oo 31 <| .fad 0 (.t 12),
 oo 32 <| .ld none (.t 31),
 oo 33 <| .fad 1 (.t 12),
 oo 34 <| .ld none (.t 33),
 oo 35 <| .bslice 1 2 [(.int .i64 0)] [(0, 1, (.t 32)), (1, 1, (.t 34))],
 oo 36 <| .app 1 (.t 30) (.t 35),
 oo 10 <| .mv (.t 36)]
def rQiX9 : List O := [
 oo 37 <| .bin .add (.t 26) (ki 1),
 oo 26 <| .mv (.t 37)]
def lQiX0 : C := (.seq (.reg rQiX6 false [] [4, 5, 10, 24, 25, 26, 27]) (.seq (.cond (.t 27) .skip (.exit 0)) (.seq (.blk 1 (.seq (.reg rQiX7 false [] [4, 5, 10, 12, 24, 25, 26]) (.reg rQiX8 false [] [4, 5, 10, 24, 25, 26]))) (.reg rQiX9 false [] [4, 5, 10, 24, 25, 26]))))
def rQiX10 : List O := [
 oo 38 <| .mv (.t 10),
 oo 39 <| .mkf (.func nQw) [] [(.t 4), (.t 5)],
 oo 40 <| .call nQv [(.t 38), (.t 39)],
 oo 41 <| .call nQu [(.t 40)],
 oo 6 <| .mv (.t 41),
 oo 7 <| .mv (ki 0)]
def cQi : C := (.seq (.reg rQiX0 false [] [3, 4, 5]) (.seq (.reg rQiX1 false [] [4, 5, 8, 9]) (.seq (.seq (.reg rQiX2 false [] [4, 5, 8, 9, 21]) (.cond (.t 21) (.seq (.reg rQiX3 false [] [6, 7]) .ret) .skip)) (.seq (.reg rQiX4 false [] [4, 5, 8, 10]) (.seq (.seq (.reg rQiX5 false [] [4, 5, 10, 24, 25, 26]) (.blk 0 (.loop lQiX0))) (.seq (.reg rQiX10 false [] [6, 7]) .ret))))))
def qQi : AFn := ⟨42, 3, [.t 6, .t 7], cQi⟩
/- cohesion/cohesionref03.Degree -/
def rQjX0 : List O := [
 oo 2 <| .box (.t 0),
 oo 4 <| .mv (ki 0)]
def rQjX1 : List O := [
 oo 5 <| .ld (some 2) (.t 2),
 oo 6 <| .mv (.t 1),
 oo 7 <| .call nQx [(.t 5), (.t 6)],
 oo 8 <| .len (.t 7),
 oo 4 <| .mv (.t 8)]
def cQj : C := (.seq (.reg rQjX0 false [] [1, 2]) (.seq (.reg rQjX1 false [] [4]) .ret))
def qQj : AFn := ⟨9, 2, [.t 4], cQj⟩
/- cohesion/partition.Home -/
def rQkX0 : List O := [
 oo 3 <| .box (.t 0),
 oo 6 <| .mv (ki 0)]
def rQkX1 : List O := [
 oo 7 <| .ld (some 3) (.t 3),
 oo 8 <| .fad 1 (.t 3),
 oo 9 <| .ld none (.t 8),
 oo 10 <| .len (.t 9),
 oo 11 <| .call nQy [(.t 7), (.t 10)],
 oo 12 <| .bin .neq (.t 11) (ki 0),
 oo 13 <| .mv (.t 12),
 ⟨(some 14), (some (13, false)), .mv (.t 1)⟩,
 ⟨(some 15), (some (13, false)), .bin .lss (.t 14) (ki 0)⟩,
 oo 16 <| .pick (.t 13) (.k (.bool true)) (.t 15),
 oo 17 <| .mv (.t 16),
 ⟨(some 18), (some (17, false)), .mv (.t 1)⟩,
 ⟨(some 19), (some (17, false)), .mv (.t 2)⟩,
 ⟨(some 20), (some (17, false)), .bin .geq (.t 18) (.t 19)⟩,
 oo 21 <| .pick (.t 17) (.k (.bool true)) (.t 20),
 oo 22 <| .mv (.t 21),
 ⟨(some 23), (some (22, false)), .mv (.t 2)⟩,
 ⟨(some 24), (some (22, false)), .fad 1 (.t 3)⟩,
 ⟨(some 25), (some (22, false)), .ld none (.t 24)⟩,
 ⟨(some 26), (some (22, false)), .len (.t 25)⟩,
 ⟨(some 27), (some (22, false)), .bin .geq (.t 23) (.t 26)⟩,
 oo 28 <| .pick (.t 22) (.k (.bool true)) (.t 27)]
def rQkX2 : List O := [
 oo 6 <| .mv (.k (.int .i64 (-1)))]
def rQkX3 : List O := [
 oo 29 <| .ld (some 3) (.t 3),
 oo 30 <| .mv (.t 1),
 oo 31 <| .mv (.t 2),
 oo 32 <| .call nQt [(.t 29), (.t 30), (.t 31)],
 oo 6 <| .mv (.t 32)]
def cQk : C := (.seq (.reg rQkX0 false [] [1, 2, 3]) (.seq (.seq (.reg rQkX1 false [] [1, 2, 3, 28]) (.cond (.t 28) (.seq (.reg rQkX2 false [] [6]) .ret) .skip)) (.seq (.reg rQkX3 false [] [6]) .ret)))
def qQk : AFn := ⟨33, 3, [.t 6], cQk⟩
/- cohesion/partition.Join -/
def rQlX0 : List O := [
 oo 4 <| .new [(.int .i64 0), (.own 2 [])],
 oo 5 <| .mv (ki 0)]
def rQlX1 : List O := [
 oo 10 <| .mv (.t 0),
 oo 11 <| .bin .lss (.t 10) (ki 0),
 oo 12 <| .mv (.t 11),
 ⟨(some 13), (some (12, false)), .mv (.t 0)⟩,
 ⟨(some 14), (some (12, false)), .bin .gtr (.t 13) (ki 64)⟩,
 oo 15 <| .pick (.t 12) (.k (.bool true)) (.t 14)]
def rQlX2 : List O := [
 oo 16 <| .build [(.int .i64 0), (.own 2 [])] [],
 oz <| .st 2 (.t 4) (.t 16),
 oo 5 <| .mv (ki 1)]
def rQlX3 : List O := [
 oo 17 <| .mv (.t 0),
 oo 18 <| .build [(.int .i64 0), (.own 2 [])] [(0, 1, (.t 17))],
 oo 6 <| .new [(.int .i64 0), (.own 2 [])],
 oz <| .st 2 (.t 6) (.t 18)]
def rQlX4 : List O := [
 oo 19 <| .mv (.t 1),
 oo 20 <| .len (.t 19),
 oo 21 <| .mv (ki 0)]
def rQlX5 : List O := [
 oo 22 <| .bin .lss (.t 21) (.t 20)]
def rQlX6 : List O := [
 oo 23 <| .ixa 2 (.t 19) (.t 21),
 oo 24 <| .ld (some 2) (.t 23),
 oo 8 <| .new [(.int .i64 0), (.own 2 [])],
 oz <| .st 2 (.t 8) (.t 24)]
def rQlX7 : List O := [
 oo 25 <| .ld (some 2) (.t 8),
 oo 26 <| .call nQz [(.t 25)],
 oo 9 <| .mv (.t 26)]
def rQlX8 : List O := [
 oo 27 <| .mv (.t 9),
 oo 28 <| .bin .neq (.t 27) (ki 0)]
def rQlX9 : List O := [
 oo 29 <| .build [(.int .i64 0), (.own 2 [])] [],
 oo 30 <| .mv (.t 9),
 oz <| .st 2 (.t 4) (.t 29),
 oo 5 <| .mv (.t 30)]
def rQlX10 : List O := [
 oo 31 <| .fad 0 (.t 8),
 oo 32 <| .ld none (.t 31),
 oo 33 <| .mv (.t 0),
 oo 34 <| .bin .neq (.t 32) (.t 33)]
def rQlX11 : List O := [
 oo 35 <| .build [(.int .i64 0), (.own 2 [])] [],
 oz <| .st 2 (.t 4) (.t 35),
 oo 5 <| .mv (ki 4)]
def rQlX12 : List O := [
 oo 36 <| .fad 1 (.t 6),
 oo 37 <| .ld none (.t 36),
 oo 38 <| .fad 1 (.t 8),
 oo 39 <| .ld none (.t 38),
 oo 40 <| .app 2 (.t 37) (.t 39),
 oo 41 <| .fad 1 (.t 6),
 oz <| .st 1 (.t 41) (.t 40)]
def rQlX13 : List O := [
 oo 42 <| .bin .add (.t 21) (ki 1),
 oo 21 <| .mv (.t 42)]
def lQlX0 : C := (.seq (.reg rQlX5 false [] [0, 4, 6, 19, 20, 21, 22]) (.seq (.cond (.t 22) .skip (.exit 0)) (.seq (.blk 1 (.seq (.reg rQlX6 false [] [0, 4, 6, 8, 19, 20, 21]) (.seq (.seq (.reg rQlX7 false [] [0, 4, 6, 8, 9, 19, 20, 21]) (.seq (.reg rQlX8 false [] [0, 4, 6, 8, 9, 19, 20, 21, 28]) (.cond (.t 28) (.seq (.reg rQlX9 false [] [4, 5]) .ret) .skip))) (.seq (.seq (.reg rQlX10 false [] [0, 4, 6, 8, 19, 20, 21, 34]) (.cond (.t 34) (.seq (.reg rQlX11 false [] [4, 5]) .ret) .skip)) (.reg rQlX12 false [] [0, 4, 6, 19, 20, 21]))))) (.reg rQlX13 false [] [0, 4, 6, 19, 20, 21]))))
def rQlX14 : List O := [
 oo 43 <| .fad 1 (.t 6),
 oo 44 <| .ld none (.t 43),
 oo 45 <| .call nQA [(.t 44), (.k (.func (.func nQB) [] []))]]
def rQlX15 : List O := [
 oo 46 <| .fad 1 (.t 6),
 oo 47 <| .ld none (.t 46),
 oo 48 <| .call nQF [(.t 47)],
 oo 49 <| .call nQE [(.t 48)],
 oo 50 <| .len (.t 49),
 oo 51 <| .fad 1 (.t 6),
 oo 52 <| .ld none (.t 51),
 oo 53 <| .len (.t 52),
 oo 54 <| .bin .lss (.t 50) (.t 53)]
def rQlX16 : List O := [
 oo 55 <| .build [(.int .i64 0), (.own 2 [])] [],
 oz <| .st 2 (.t 4) (.t 55),
 oo 5 <| .mv (ki 15)]
def rQlX17 : List O := [
 oo 56 <| .ld (some 2) (.t 6),
 oz <| .st 2 (.t 4) (.t 56),
 oo 5 <| .mv (ki 0)]
def cQl : C := (.seq (.reg rQlX0 false [] [0, 1, 4]) (.seq (.seq (.reg rQlX1 false [] [0, 1, 4, 15]) (.cond (.t 15) (.seq (.reg rQlX2 false [] [4, 5]) .ret) .skip)) (.seq (.reg rQlX3 false [] [0, 1, 4, 6]) (.seq (.seq (.reg rQlX4 false [] [0, 4, 6, 19, 20, 21]) (.blk 0 (.loop lQlX0))) (.seq (.reg rQlX14 false [] [4, 6]) (.seq (.seq (.reg rQlX15 true [(8, 8), (1, 5), (2, 5), (3, 5), (0, 6), (1, 6), (2, 6), (3, 6), (4, 6), (1, 7), (2, 7), (3, 7)] [4, 6, 54]) (.cond (.t 54) (.seq (.reg rQlX16 false [] [4, 5]) .ret) .skip)) (.seq (.reg rQlX17 false [] [4, 5]) .ret)))))))
def qQl : AFn := ⟨57, 2, [.c 4 (some 2), .t 5], cQl⟩
/- cohesion/cohesionref03.Same -/
def rQmX0 : List O := [
 oo 2 <| .box (.t 0),
 oo 3 <| .box (.t 1),
 oo 4 <| .mv (.k (.bool false))]
def rQmX1 : List O := [
 oo 5 <| .fad 0 (.t 2),
 oo 6 <| .ld none (.t 5),
 oo 7 <| .fad 0 (.t 3),
 oo 8 <| .ld none (.t 7),
 oo 9 <| .bin .eql (.t 6) (.t 8),
 oo 10 <| .mv (.t 9),
 ⟨(some 11), (some (10, true)), .fad 1 (.t 2)⟩,
 ⟨(some 12), (some (10, true)), .ld none (.t 11)⟩,
 ⟨(some 13), (some (10, true)), .fad 1 (.t 3)⟩,
 ⟨(some 14), (some (10, true)), .ld none (.t 13)⟩,
 ⟨(some 15), (some (10, true)), .call nQG [(.t 12), (.t 14)]⟩,
 oo 16 <| .pick (.t 10) (.t 15) (.k (.bool false)),
 oo 4 <| .mv (.t 16)]
def cQm : C := (.seq (.reg rQmX0 false [] [2, 3]) (.seq (.reg rQmX1 false [] [4]) .ret))
def qQm : AFn := ⟨17, 2, [.t 4], cQm⟩
/- cohesion/partition.Make -/
def rQnX0 : List O := [
 oo 3 <| .box (.t 0),
 oo 6 <| .new [(.int .i64 0), (.own 1 []), (.own 1 [])],
 oo 7 <| .mv (ki 0)]
def rQnX1 : List O := [
 oo 22 <| .ld (some 2) (.t 3),
 oo 23 <| .call nQH [(.t 22)],
 oo 21 <| .mv (.t 23),
 oo 24 <| .ext 0 (.t 21),
 oo 25 <| .ext 1 (.t 21),
 oo 8 <| .mv (.t 24),
 oo 9 <| .mv (.t 25)]
def rQnX2 : List O := [
 oo 26 <| .mv (.t 9),
 oo 27 <| .bin .neq (.t 26) (ki 0)]
def rQnX3 : List O := [
 oo 28 <| .build [(.int .i64 0), (.own 1 []), (.own 1 [])] [],
 oo 29 <| .mv (.t 9),
 oz <| .st 3 (.t 6) (.t 28),
 oo 7 <| .mv (.t 29)]
def rQnX4 : List O := [
 oo 30 <| .mv (.t 1),
 oo 31 <| .call nQI [(.t 30)],
 oo 32 <| .un .not (.t 31),
 oo 33 <| .mv (.t 32),
 ⟨(some 34), (some (33, false)), .mv (.t 2)⟩,
 ⟨(some 35), (some (33, false)), .bin .lss (.t 34) (ki 1)⟩,
 oo 36 <| .pick (.t 33) (.k (.bool true)) (.t 35)]
def rQnX5 : List O := [
 oo 37 <| .build [(.int .i64 0), (.own 1 []), (.own 1 [])] [],
 oz <| .st 3 (.t 6) (.t 37),
 oo 7 <| .mv (ki 1)]
def rQnX6 : List O := [
 oo 38 <| .mv (.t 1),
 oo 39 <| .fad 0 (.t 3),
 oo 40 <| .ld none (.t 39),
 oo 41 <| .mks 1 [(.int .i64 0)] (.t 40) (.t 40),
 oo 42 <| .build [(.int .i64 0), (.own 1 []), (.own 1 [])] [(0, 1, (.t 38)), (1, 1, (.t 41))],
 oo 10 <| .new [(.int .i64 0), (.own 1 []), (.own 1 [])],
 oz <| .st 3 (.t 10) (.t 42)]
def rQnX7 : List O := [
 oo 11 <| .mv (.k (.own 2 [])),
 oo 12 <| .mv (.k (.own 2 []))]
def rQnX8 : List O := [
 oo 43 <| .mv (.t 8),
 oo 44 <| .len (.t 43),
 oo 45 <| .mv (ki 0)]
def rQnX9 : List O := [
 oo 46 <| .bin .lss (.t 45) (.t 44)]
def rQnX10 : List O := [
 oo 47 <| .mv (.t 45),
 oo 48 <| .ixa 1 (.t 43) (.t 45),
 oo 49 <| .ld none (.t 48),
 oo 13 <| .mv (.t 47),
 oo 14 <| .mv (.t 49)]
def rQnX11 : List O := [
 oo 50 <| .mv (.t 11),
 oo 51 <| .mv (.t 14),
 oo 52 <| .mv (.t 13),
 oo 53 <| .build [(.int .i64 0), (.int .i64 0)] [(0, 1, (.t 51)), (1, 1, (.t 52))],
 oo 54 <| .bslice 2 1 [(.int .i64 0), (.int .i64 0)] [(0, 2, (.t 53))],
 oo 55 <| .app 2 (.t 50) (.t 54),
 oo 11 <| .mv (.t 55)]
def rQnX12 : List O := [
 oo 56 <| .mv (.t 14),
 oo 57 <| .mv (.t 2),
 oo 58 <| .bin .geq (.t 56) (.t 57)]
def rQnX13 : List O := [
 oo 59 <| .fad 2 (.t 10),
 oo 60 <| .ld none (.t 59),
 oo 61 <| .mv (.t 13),
 oo 62 <| .bslice 1 1 [(.int .i64 0)] [(0, 1, (.t 61))],
 oo 63 <| .app 1 (.t 60) (.t 62),
 oo 64 <| .fad 2 (.t 10),
 oz <| .st 1 (.t 64) (.t 63)]
def rQnX14 : List O := [
 oo 65 <| .bin .add (.t 45) (ki 1),
 oo 45 <| .mv (.t 65)]
def lQnX0 : C := (.seq (.reg rQnX9 false [] [1, 2, 6, 10, 11, 12, 43, 44, 45, 46]) (.seq (.cond (.t 46) .skip (.exit 0)) (.seq (.blk 1 (.seq (.reg rQnX10 false [] [1, 2, 6, 10, 11, 12, 13, 14, 43, 44, 45]) (.seq (.reg rQnX11 false [] [1, 2, 6, 10, 11, 12, 13, 14, 43, 44, 45]) (.seq (.reg rQnX12 false [] [1, 2, 6, 10, 11, 12, 13, 43, 44, 45, 58]) (.cond (.t 58) (.reg rQnX13 false [] [1, 2, 6, 10, 11, 12, 43, 44, 45]) .skip))))) (.reg rQnX14 false [] [1, 2, 6, 10, 11, 12, 43, 44, 45]))))
def rQnX15 : List O := [
 oo 66 <| .mv (.t 1),
 oo 67 <| .mv (ki 0)]
def rQnX16 : List O := [
 oo 68 <| .bin .lss (.t 67) (.t 66)]
def rQnX17 : List O := [
 oo 69 <| .mv (.t 67),
 oo 15 <| .mv (.t 69)]
def rQnX18 : List O := [
 oo 70 <| .mv (.t 12),
 oo 71 <| .mv (.t 15),
 oo 72 <| .build [(.int .i64 0), (.int .i64 0)] [(0, 1, (ki 0)), (1, 1, (.t 71))],
 oo 73 <| .bslice 2 1 [(.int .i64 0), (.int .i64 0)] [(0, 2, (.t 72))],
 oo 74 <| .app 2 (.t 70) (.t 73),
 oo 12 <| .mv (.t 74)]
def rQnX19 : List O := [
 oo 75 <| .bin .add (.t 67) (ki 1),
 oo 67 <| .mv (.t 75)]
def lQnX1 : C := (.seq (.reg rQnX16 false [] [6, 10, 11, 12, 66, 67, 68]) (.seq (.cond (.t 68) .skip (.exit 2)) (.seq (.blk 3 (.seq (.reg rQnX17 false [] [6, 10, 11, 12, 15, 66, 67]) (.reg rQnX18 false [] [6, 10, 11, 12, 66, 67]))) (.reg rQnX19 false [] [6, 10, 11, 12, 66, 67]))))
def rQnX20 : List O := [
 oo 76 <| .mv (.t 11),
 oo 77 <| .call nQJ [(.t 76), (.k (.func (.func nQK) [] []))]]
def rQnX21 : List O := [
 oo 78 <| .mv (.t 11),
 oo 79 <| .len (.t 78),
 oo 80 <| .mv (ki 0)]
def rQnX22 : List O := [
 oo 81 <| .bin .lss (.t 80) (.t 79)]
def rQnX23 : List O := [
 oo 82 <| .ixa 2 (.t 78) (.t 80),
 oo 83 <| .ld (some 2) (.t 82),
 oo 17 <| .new [(.int .i64 0), (.int .i64 0)],
 oz <| .st 2 (.t 17) (.t 83)]
def rQnX24 : List O := [
 oo 84 <| .mv (.t 12),
 oo 85 <| .call nQL [(.t 84), (.k (.func (.func nQM) [] []))],
 oo 18 <| .new [(.int .i64 0), (.int .i64 0)],
 oz <| .st 2 (.t 18) (.t 85)]
def rQnX25 : List O := [
 oo 86 <| .mv (.t 12),
 oo 87 <| .len (.t 86),
 oo 88 <| .mv (ki 0)]
def rQnX26 : List O := [
 oo 89 <| .bin .lss (.t 88) (.t 87)]
def rQnX27 : List O := [
 oo 90 <| .mv (.t 88),
 oo 91 <| .ixa 2 (.t 86) (.t 88),
 oo 92 <| .ld (some 2) (.t 91),
 oo 20 <| .new [(.int .i64 0), (.int .i64 0)],
 oo 19 <| .mv (.t 90),
 oz <| .st 2 (.t 20) (.t 92)]
def rQnX28 : List O := [
 oo 93 <| .ld (some 2) (.t 20),
 oo 94 <| .ld (some 2) (.t 18),
 oo 95 <| .eq false (.str [true, true]) (.t 93) (.t 94)]
def rQnX29 : List O := [
 oo 96 <| .mv (.t 12),
 oo 97 <| .mv (.t 19),
 oo 98 <| .ixa 2 (.t 96) (.t 97),
 oo 99 <| .fad 0 (.t 98),
 oo 100 <| .ld none (.t 99),
 oo 101 <| .fad 0 (.t 17),
 oo 102 <| .ld none (.t 101),
 oo 103 <| .bin .add (.t 100) (.t 102),
 oo 104 <| .ixa 2 (.t 96) (.t 97),
 oo 105 <| .fad 0 (.t 104),
 oz <| .st 1 (.t 105) (.t 103)]
def rQnX30 : List O := [
 oo 106 <| .bin .add (.t 88) (ki 1),
 oo 88 <| .mv (.t 106)]
def lQnX2 : C := (.seq (.reg rQnX26 false [] [6, 10, 12, 17, 18, 78, 79, 80, 86, 87, 88, 89]) (.seq (.cond (.t 89) .skip (.exit 6)) (.seq (.blk 7 (.seq (.reg rQnX27 false [] [6, 10, 12, 17, 18, 19, 20, 78, 79, 80, 86, 87, 88]) (.seq (.reg rQnX28 false [] [6, 10, 12, 17, 18, 19, 78, 79, 80, 86, 87, 88, 95]) (.cond (.t 95) (.reg rQnX29 true [(7, 7), (8, 8), (9, 9), (10, 10), (4, 5), (0, 6), (1, 6), (2, 6), (3, 6), (4, 6)] [6, 10, 12, 17, 18, 78, 79, 80, 86, 87, 88]) .skip)))) (.reg rQnX30 false [] [6, 10, 12, 17, 18, 78, 79, 80, 86, 87, 88]))))
def rQnX31 : List O := [
 oo 107 <| .fad 1 (.t 10),
 oo 108 <| .ld none (.t 107),
 oo 109 <| .fad 1 (.t 17),
 oo 110 <| .ld none (.t 109),
 oo 111 <| .fad 1 (.t 18),
 oo 112 <| .ld none (.t 111),
 oo 113 <| .ixa 1 (.t 108) (.t 110),
 oz <| .st 1 (.t 113) (.t 112)]
def rQnX32 : List O := [
 oo 114 <| .bin .add (.t 80) (ki 1),
 oo 80 <| .mv (.t 114)]
def lQnX3 : C := (.seq (.reg rQnX22 false [] [6, 10, 12, 78, 79, 80, 81]) (.seq (.cond (.t 81) .skip (.exit 4)) (.seq (.blk 5 (.seq (.reg rQnX23 false [] [6, 10, 12, 17, 78, 79, 80]) (.seq (.reg rQnX24 false [] [6, 10, 12, 17, 18, 78, 79, 80]) (.seq (.seq (.reg rQnX25 false [] [6, 10, 12, 17, 18, 78, 79, 80, 86, 87, 88]) (.blk 6 (.loop lQnX2))) (.reg rQnX31 false [] [6, 10, 12, 78, 79, 80]))))) (.reg rQnX32 false [] [6, 10, 12, 78, 79, 80]))))
def rQnX33 : List O := [
 oo 115 <| .ld (some 3) (.t 10),
 oz <| .st 3 (.t 6) (.t 115),
 oo 7 <| .mv (ki 0)]
def cQn : C := (.seq (.reg rQnX0 false [] [1, 2, 3, 6]) (.seq (.reg rQnX1 false [] [1, 2, 3, 6, 8, 9]) (.seq (.seq (.reg rQnX2 false [] [1, 2, 3, 6, 8, 9, 27]) (.cond (.t 27) (.seq (.reg rQnX3 false [] [6, 7]) .ret) .skip)) (.seq (.seq (.reg rQnX4 false [] [1, 2, 3, 6, 8, 36]) (.cond (.t 36) (.seq (.reg rQnX5 false [] [6, 7]) .ret) .skip)) (.seq (.reg rQnX6 false [] [1, 2, 6, 8, 10]) (.seq (.reg rQnX7 false [] [1, 2, 6, 8, 10, 11, 12]) (.seq (.seq (.reg rQnX8 false [] [1, 2, 6, 10, 11, 12, 43, 44, 45]) (.blk 0 (.loop lQnX0))) (.seq (.seq (.reg rQnX15 false [] [6, 10, 11, 12, 66, 67]) (.blk 2 (.loop lQnX1))) (.seq (.reg rQnX20 false [] [6, 10, 11, 12]) (.seq (.seq (.reg rQnX21 false [] [6, 10, 12, 78, 79, 80]) (.blk 4 (.loop lQnX3))) (.seq (.reg rQnX33 false [] [6, 7]) .ret)))))))))))
def qQn : AFn := ⟨116, 3, [.c 6 (some 3), .t 7], cQn⟩
/- cohesion/cohesionref02.Cmp -/
def rQoX0 : List O := [
 oo 4 <| .mv (ki 0)]
def rQoX1 : List O := [
 oo 6 <| .mv (.t 0),
 oo 7 <| .len (.t 6),
 oo 8 <| .mv (ki 0)]
def rQoX2 : List O := [
 oo 9 <| .bin .lss (.t 8) (.t 7)]
def rQoX3 : List O := [
 oo 10 <| .mv (.t 8),
 oo 5 <| .mv (.t 10)]
def rQoX4 : List O := [
 oo 12 <| .mv (.t 5),
 oo 13 <| .mv (.t 1),
 oo 14 <| .len (.t 13),
 oo 15 <| .bin .geq (.t 12) (.t 14),
 oo 16 <| .mv (.t 15),
 ⟨(some 17), (some (16, false)), .mv (.t 0)⟩,
 ⟨(some 18), (some (16, false)), .mv (.t 5)⟩,
 ⟨(some 19), (some (16, false)), .ixa 1 (.t 17) (.t 18)⟩,
 ⟨(some 20), (some (16, false)), .ld none (.t 19)⟩,
 ⟨(some 21), (some (16, false)), .mv (.t 1)⟩,
 ⟨(some 22), (some (16, false)), .mv (.t 5)⟩,
 ⟨(some 23), (some (16, false)), .ixa 1 (.t 21) (.t 22)⟩,
 ⟨(some 24), (some (16, false)), .ld none (.t 23)⟩,
 ⟨(some 25), (some (16, false)), .bin .gtr (.t 20) (.t 24)⟩,
 oo 26 <| .pick (.t 16) (.k (.bool true)) (.t 25),
 oo 11 <| .mv (.t 26)]
def rQoX5 : List O := [
 oo 4 <| .mv (ki 1)]
def rQoX6 : List O := [
 oo 28 <| .mv (.t 0),
 oo 29 <| .mv (.t 5),
 oo 30 <| .ixa 1 (.t 28) (.t 29),
 oo 31 <| .ld none (.t 30),
 oo 32 <| .mv (.t 1),
 oo 33 <| .mv (.t 5),
 oo 34 <| .ixa 1 (.t 32) (.t 33),
 oo 35 <| .ld none (.t 34),
 oo 36 <| .bin .lss (.t 31) (.t 35),
 oo 27 <| .mv (.t 36)]
def rQoX7 : List O := [
 oo 4 <| .mv (.k (.int .i64 (-1)))]
def rQoX8 : List O := [
 oo 37 <| .bin .add (.t 8) (ki 1),
 oo 8 <| .mv (.t 37)]
def lQoX0 : C := (.seq (.reg rQoX2 false [] [0, 1, 7, 8, 9]) (.seq (.cond (.t 9) .skip (.exit 0)) (.seq (.blk 1 (.seq (.reg rQoX3 false [] [0, 1, 5, 7, 8]) (.blk 2 (.seq (.reg rQoX4 true [(3, 3), (4, 4), (13, 13), (14, 14), (15, 15), (8, 9), (8, 10), (8, 11), (5, 12), (6, 12), (7, 12), (8, 12)] [0, 1, 5, 7, 8, 11]) (.cond (.t 11) (.seq (.reg rQoX5 false [] [4]) .ret) (.seq (.reg rQoX6 true [(8, 8), (9, 9), (3, 4), (3, 5), (3, 6), (0, 7), (1, 7), (2, 7), (3, 7)] [0, 1, 7, 8, 27]) (.cond (.t 27) (.seq (.reg rQoX7 false [] [4]) .ret) .skip))))))) (.reg rQoX8 false [] [0, 1, 7, 8]))))
def rQoX9 : List O := [
 oo 38 <| .mv (.t 0),
 oo 39 <| .len (.t 38),
 oo 40 <| .mv (.t 1),
 oo 41 <| .len (.t 40),
 oo 42 <| .bin .lss (.t 39) (.t 41)]
def rQoX10 : List O := [
 oo 4 <| .mv (.k (.int .i64 (-1)))]
def rQoX11 : List O := [
 oo 4 <| .mv (ki 0)]
def cQo : C := (.seq (.reg rQoX0 false [] [0, 1]) (.seq (.seq (.reg rQoX1 false [] [0, 1, 7, 8]) (.blk 0 (.loop lQoX0))) (.seq (.seq (.reg rQoX9 false [] [42]) (.cond (.t 42) (.seq (.reg rQoX10 false [] [4]) .ret) .skip)) (.seq (.reg rQoX11 false [] [4]) .ret))))
def qQo : AFn := ⟨43, 2, [.t 4], cQo⟩
/- (*cohesion/cohesionmake.Deck).Next -/
def rQpX0 : List O := [
 oo 4 <| .mv (ki 0)]
def rQpX1 : List O := [
 oo 6 <| .mv (.t 1),
 oo 7 <| .bin .lss (.t 6) (ki 1),
 oo 8 <| .mv (.t 7),
 ⟨(some 9), (some (8, false)), .mv (.t 0)⟩,
 ⟨(some 10), (some (8, false)), .nilck (.t 9)⟩,
 ⟨(some 11), (some (8, false)), .fad 1 (.t 10)⟩,
 ⟨(some 12), (some (8, false)), .ld none (.t 11)⟩,
 ⟨(some 13), (some (8, false)), .mv (.t 0)⟩,
 ⟨(some 14), (some (8, false)), .nilck (.t 13)⟩,
 ⟨(some 15), (some (8, false)), .fad 0 (.t 14)⟩,
 ⟨(some 16), (some (8, false)), .ld none (.t 15)⟩,
 ⟨(some 17), (some (8, false)), .len (.t 16)⟩,
 ⟨(some 18), (some (8, false)), .bin .geq (.t 12) (.t 17)⟩,
 oo 19 <| .pick (.t 8) (.k (.bool true)) (.t 18)]
def rQpX2 : List O := [
 oo 4 <| .mv (ki 0)]
def rQpX3 : List O := [
 oo 20 <| .mv (.t 0),
 oo 21 <| .nilck (.t 20),
 oo 22 <| .fad 0 (.t 21),
 oo 23 <| .ld none (.t 22),
 oo 24 <| .mv (.t 0),
 oo 25 <| .nilck (.t 24),
 oo 26 <| .fad 1 (.t 25),
 oo 27 <| .ld none (.t 26),
 oo 28 <| .ixa 1 (.t 23) (.t 27),
 oo 29 <| .ld none (.t 28),
 oo 5 <| .mv (.t 29)]
def rQpX4 : List O := [
 oo 30 <| .mv (.t 0),
 oo 31 <| .nilck (.t 30),
 oo 32 <| .fad 1 (.t 31),
 oo 33 <| .ld none (.t 32),
 oo 34 <| .bin .add (.t 33) (ki 1),
 oo 35 <| .nilck (.t 30),
 oo 36 <| .fad 1 (.t 35),
 oz <| .st 1 (.t 36) (.t 34)]
def rQpX5 : List O := [
 oo 37 <| .mv (.t 5),
 oo 38 <| .mv (.t 1),
 oo 39 <| .call nQN [(.t 37), (.t 38)],
 oo 4 <| .mv (.t 39)]
def cQp : C := (.seq (.reg rQpX0 false [] [0, 1]) (.seq (.seq (.reg rQpX1 true [(0, 0), (1, 1), (2, 2), (12, 12), (13, 13), (6, 7), (6, 8), (6, 9), (3, 10), (4, 10), (5, 10), (6, 10), (6, 11)] [0, 1, 19]) (.cond (.t 19) (.seq (.reg rQpX2 false [] [4]) .ret) .skip)) (.seq (.reg rQpX3 true [(8, 8), (9, 9), (10, 10), (3, 4), (3, 5), (3, 6), (0, 7), (1, 7), (2, 7), (3, 7)] [0, 1, 5]) (.seq (.reg rQpX4 false [] [1, 5]) (.seq (.reg rQpX5 false [] [4]) .ret)))))
def qQp : AFn := ⟨40, 2, [.t 4], cQp⟩
/- cohesion/cohesionfield.Numbers -/
def rQqX0 : List O := [
 oo 6 <| .mv (.k (.own 1 []))]
def rQqX1 : List O := [
 oo 7 <| .mv (.k (.own 1 []))]
def rQqX2 : List O := [
 oo 8 <| .mv (ki 0)]
def rQqX3 : List O := [
 oo 9 <| .mv (.t 8),
 oo 10 <| .mv (.t 1),
 oo 11 <| .bin .lss (.t 9) (.t 10)]
def rQqX4 : List O := [
 oo 14 <| .mv (.t 7),
 oo 15 <| .mv (.t 0),
 oo 16 <| .mv (.t 2),
 oo 17 <| .call nQp [(.t 15), (.t 16)],
 oo 18 <| .bslice 1 1 [(.int .i64 0)] [(0, 1, (.t 17))],
 oo 19 <| .app 1 (.t 14) (.t 18),
 oo 7 <| .mv (.t 19)]
def rQqX5 : List O := [
 oo 12 <| .mv (.t 8),
 oo 13 <| .bin .add (.t 12) (ki 1),
 oo 8 <| .mv (.t 13)]
def lQqX0 : C := (.seq (.seq (.reg rQqX3 false [] [0, 1, 2, 7, 8, 11]) (.cond (.t 11) .skip (.exit 0))) (.seq (.blk 1 (.reg rQqX4 false [] [0, 1, 2, 7, 8])) (.reg rQqX5 false [] [0, 1, 2, 7, 8])))
def rQqX6 : List O := [
 oo 20 <| .mv (.t 7),
 oo 6 <| .mv (.t 20)]
def cQq : C := (.seq (.reg rQqX0 false [] [0, 1, 2]) (.seq (.reg rQqX1 false [] [0, 1, 2, 7]) (.seq (.seq (.reg rQqX2 false [] [0, 1, 2, 7, 8]) (.blk 0 (.loop lQqX0))) (.seq (.reg rQqX6 false [] [6]) .ret))))
def qQq : AFn := ⟨21, 3, [.t 6], cQq⟩
/- cohesion/cohesionmake.Set -/
def rQrX0 : List O := [
 oo 4 <| .mv (.k (.own 1 []))]
def rQrX1 : List O := [
 oo 5 <| .mv (.k (.own 1 []))]
def rQrX2 : List O := [
 oo 6 <| .mv (ki 0)]
def rQrX3 : List O := [
 oo 7 <| .mv (.t 6),
 oo 8 <| .mv (.t 1),
 oo 9 <| .bin .lss (.t 7) (.t 8)]
def rQrX4 : List O := [
 oo 12 <| .mv (.t 0),
 oo 13 <| .call nQp [(.t 12), (ki 2)],
 oo 14 <| .bin .eql (.t 13) (ki 1)]
def rQrX5 : List O := [
 oo 15 <| .mv (.t 5),
 oo 16 <| .mv (.t 6),
 oo 17 <| .bslice 1 1 [(.int .i64 0)] [(0, 1, (.t 16))],
 oo 18 <| .app 1 (.t 15) (.t 17),
 oo 5 <| .mv (.t 18)]
def rQrX6 : List O := [
 oo 10 <| .mv (.t 6),
 oo 11 <| .bin .add (.t 10) (ki 1),
 oo 6 <| .mv (.t 11)]
def lQrX0 : C := (.seq (.seq (.reg rQrX3 false [] [0, 1, 5, 6, 9]) (.cond (.t 9) .skip (.exit 0))) (.seq (.blk 1 (.seq (.reg rQrX4 false [] [0, 1, 5, 6, 14]) (.cond (.t 14) (.reg rQrX5 false [] [0, 1, 5, 6]) .skip))) (.reg rQrX6 false [] [0, 1, 5, 6])))
def rQrX7 : List O := [
 oo 19 <| .mv (.t 5),
 oo 4 <| .mv (.t 19)]
def cQr : C := (.seq (.reg rQrX0 false [] [0, 1]) (.seq (.reg rQrX1 false [] [0, 1, 5]) (.seq (.seq (.reg rQrX2 false [] [0, 1, 5, 6]) (.blk 0 (.loop lQrX0))) (.seq (.reg rQrX7 false [] [4]) .ret))))
def qQr : AFn := ⟨20, 2, [.t 4], cQr⟩
/- cohesion/partition.check -/
def rQsX0 : List O := [
 oo 2 <| .box (.t 0),
 oo 3 <| .box (.t 1),
 oo 4 <| .mv (ki 0)]
def rQsX1 : List O := [
 oo 6 <| .ld (some 2) (.t 2),
 oo 7 <| .call nQz [(.t 6)],
 oo 5 <| .mv (.t 7)]
def rQsX2 : List O := [
 oo 8 <| .mv (.t 5),
 oo 9 <| .bin .neq (.t 8) (ki 0)]
def rQsX3 : List O := [
 oo 10 <| .mv (.t 5),
 oo 4 <| .mv (.t 10)]
def rQsX4 : List O := [
 oo 11 <| .ld (some 3) (.t 3),
 oo 12 <| .fad 0 (.t 2),
 oo 13 <| .ld none (.t 12),
 oo 14 <| .call nQy [(.t 11), (.t 13)],
 oo 4 <| .mv (.t 14)]
def cQs : C := (.seq (.reg rQsX0 false [] [2, 3]) (.seq (.seq (.reg rQsX1 false [] [2, 3, 5]) (.seq (.reg rQsX2 false [] [2, 3, 5, 9]) (.cond (.t 9) (.seq (.reg rQsX3 false [] [4]) .ret) .skip))) (.seq (.reg rQsX4 false [] [4]) .ret)))
def qQs : AFn := ⟨15, 2, [.t 4], cQs⟩
/- cohesion/partition.home -/
def rQtX0 : List O := [
 oo 3 <| .box (.t 0),
 oo 6 <| .mv (ki 0)]
def rQtX1 : List O := [
 oo 9 <| .fad 2 (.t 3),
 oo 10 <| .ld none (.t 9),
 oo 11 <| .mv (.t 1),
 oo 12 <| .call nQO [(.t 10), (.t 11)],
 oo 13 <| .fad 2 (.t 3),
 oo 14 <| .ld none (.t 13),
 oo 15 <| .mv (.t 2),
 oo 16 <| .call nQO [(.t 14), (.t 15)],
 oo 7 <| .mv (.t 12),
 oo 8 <| .mv (.t 16)]
def rQtX2 : List O := [
 oo 18 <| .mv (.t 7),
 oo 19 <| .mv (.t 18),
 ⟨(some 20), (some (19, true)), .mv (.t 8)⟩,
 oo 21 <| .pick (.t 19) (.t 20) (.k (.bool false)),
 oo 17 <| .mv (.t 21)]
def rQtX3 : List O := [
 oo 22 <| .mv (.t 1),
 oo 23 <| .mv (.t 2),
 oo 24 <| .bin .add (.t 22) (.t 23),
 oo 25 <| .fad 0 (.t 3),
 oo 26 <| .ld none (.t 25),
 oo 27 <| .bin .rem (.t 24) (.t 26),
 oo 6 <| .mv (.t 27)]
def rQtX4 : List O := [
 oo 29 <| .mv (.t 7),
 oo 28 <| .mv (.t 29)]
def rQtX5 : List O := [
 oo 30 <| .fad 1 (.t 3),
 oo 31 <| .ld none (.t 30),
 oo 32 <| .mv (.t 2),
 oo 33 <| .ixa 1 (.t 31) (.t 32),
 oo 34 <| .ld none (.t 33),
 oo 6 <| .mv (.t 34)]
def rQtX6 : List O := [
 oo 35 <| .fad 1 (.t 3),
 oo 36 <| .ld none (.t 35),
 oo 37 <| .mv (.t 1),
 oo 38 <| .ixa 1 (.t 36) (.t 37),
 oo 39 <| .ld none (.t 38),
 oo 6 <| .mv (.t 39)]
def cQt : C := (.seq (.reg rQtX0 false [] [1, 2, 3]) (.seq (.reg rQtX1 true [(7, 7), (8, 8), (9, 9), (1, 2), (1, 4), (3, 4), (0, 5), (1, 5), (2, 5), (3, 5), (1, 6), (3, 6), (5, 6)] [1, 2, 3, 7, 8]) (.seq (.blk 0 (.seq (.reg rQtX2 false [] [1, 2, 3, 7, 17]) (.cond (.t 17) (.seq (.reg rQtX3 false [] [6]) .ret) (.seq (.reg rQtX4 false [] [1, 2, 3, 28]) (.cond (.t 28) (.seq (.reg rQtX5 false [] [6]) .ret) .skip))))) (.seq (.reg rQtX6 false [] [6]) .ret))))
def qQt : AFn := ⟨40, 3, [.t 6], cQt⟩
/- cohesion/nodeset.Of -/
def rQuX0 : List O := [
 oo 2 <| .mv (.k (.own 1 []))]
def rQuX1 : List O := [
 oo 3 <| .mv (.t 0),
 oo 4 <| .call nQP [(.t 3), (.k (.own 1 []))],
 oo 2 <| .mv (.t 4)]
def cQu : C := (.seq (.reg rQuX0 false [] [0]) (.seq (.reg rQuX1 false [] [2]) .ret))
def qQu : AFn := ⟨5, 1, [.t 2], cQu⟩
/- slices.DeleteFunc[[]int,int] -/
def rQvX0 : List O := [
 oo 4 <| .mv (.k (.own 1 []))]
def rQvX1 : List O := [
 oo 8 <| .mv (.t 0),
 oo 9 <| .mv (.t 1),
 oo 10 <| .call nQQ [(.t 8), (.t 9)],
 oo 5 <| .mv (.t 10)]
def rQvX2 : List O := [
 oo 11 <| .mv (.t 5),
 oo 12 <| .bin .eql (.t 11) (.k (.int .i64 (-1)))]
def rQvX3 : List O := [
 oo 13 <| .mv (.t 0),
 oo 4 <| .mv (.t 13)]
def rQvX4 : List O := [
 oo 14 <| .mv (.t 5),
 oo 15 <| .bin .add (.t 14) (ki 1),
 oo 6 <| .mv (.t 15)]
def rQvX5 : List O := [
 oo 16 <| .mv (.t 6),
 oo 17 <| .mv (.t 0),
 oo 18 <| .len (.t 17),
 oo 19 <| .bin .lss (.t 16) (.t 18)]
def rQvX6 : List O := [
 oo 22 <| .mv (.t 0),
 oo 23 <| .mv (.t 6),
 oo 24 <| .ixa 1 (.t 22) (.t 23),
 oo 25 <| .ld none (.t 24),
 oo 7 <| .mv (.t 25)]
def rQvX7 : List O := [
 oo 26 <| .mv (.t 1),
 oo 27 <| .mv (.t 7),
 oo 28 <| .callv (.t 26) [(.t 27)],
 oo 29 <| .un .not (.t 28)]
def rQvX8 : List O := [
 oo 30 <| .mv (.t 0),
 oo 31 <| .mv (.t 5),
 oo 32 <| .mv (.t 7),
 oo 33 <| .ixa 1 (.t 30) (.t 31),
 oz <| .st 1 (.t 33) (.t 32)]
def rQvX9 : List O := [
 oo 34 <| .mv (.t 5),
 oo 35 <| .bin .add (.t 34) (ki 1),
 oo 5 <| .mv (.t 35)]
def rQvX10 : List O := [
 oo 20 <| .mv (.t 6),
 oo 21 <| .bin .add (.t 20) (ki 1),
 oo 6 <| .mv (.t 21)]
def lQvX0 : C := (.seq (.seq (.reg rQvX5 false [] [0, 1, 5, 6, 19]) (.cond (.t 19) .skip (.exit 0))) (.seq (.blk 1 (.seq (.reg rQvX6 false [] [0, 1, 5, 6, 7]) (.seq (.reg rQvX7 false [] [0, 1, 5, 6, 7, 29]) (.cond (.t 29) (.seq (.reg rQvX8 false [] [0, 1, 5, 6]) (.reg rQvX9 false [] [0, 1, 5, 6])) .skip)))) (.reg rQvX10 false [] [0, 1, 5, 6])))
def rQvX11 : List O := [
 oo 36 <| .mv (.t 0),
 oo 37 <| .mv (.t 5),
 oo 38 <| .slc 1 (.t 36) (some (.t 37)) none,
 oz <| .clr 1 [(.int .i64 0)] (.t 38)]
def rQvX12 : List O := [
 oo 39 <| .mv (.t 0),
 oo 40 <| .mv (.t 5),
 oo 41 <| .slc 1 (.t 39) none (some (.t 40)),
 oo 4 <| .mv (.t 41)]
def cQv : C := (.seq (.reg rQvX0 false [] [0, 1]) (.seq (.reg rQvX1 false [] [0, 1, 5]) (.seq (.seq (.reg rQvX2 false [] [0, 1, 5, 12]) (.cond (.t 12) (.seq (.reg rQvX3 false [] [4]) .ret) .skip)) (.seq (.seq (.reg rQvX4 false [] [0, 1, 5, 6]) (.blk 0 (.loop lQvX0))) (.seq (.reg rQvX11 false [] [0, 5]) (.seq (.reg rQvX12 false [] [4]) .ret))))))
def qQv : AFn := ⟨42, 2, [.t 4], cQv⟩
/- cohesion/partition.Ghosts$1 -/
def rQwX0 : List O := [
 oo 4 <| .mv (.k (.bool false))]
def rQwX1 : List O := [
 oo 5 <| .fad 1 (.t 1),
 oo 6 <| .ld none (.t 5),
 oo 7 <| .mv (.t 0),
 oo 8 <| .ixa 1 (.t 6) (.t 7),
 oo 9 <| .ld none (.t 8),
 oo 10 <| .ld none (.t 2),
 oo 11 <| .bin .eql (.t 9) (.t 10),
 oo 4 <| .mv (.t 11)]
def cQw : C := (.seq (.reg rQwX0 false [] [0, 1, 2]) (.seq (.reg rQwX1 true [(6, 6), (7, 7), (1, 2), (0, 5), (1, 5), (2, 5), (3, 5), (4, 5)] [4]) .ret))
def qQw : AFn := ⟨12, 1, [.t 4], cQw⟩
/- cohesion/cohesionref03.Neighbours -/
def rQxX0 : List O := [
 oo 2 <| .box (.t 0),
 oo 4 <| .mv (.k (.own 1 []))]
def rQxX1 : List O := [
 oo 8 <| .ld (some 2) (.t 2),
 oo 9 <| .call nQR [(.t 8)],
 oo 10 <| .bin .neq (.t 9) (ki 0)]
def rQxX2 : List O := [
 oo 4 <| .mv (.k (.own 1 []))]
def rQxX3 : List O := [
 oo 5 <| .mv (.k (.own 1 []))]
def rQxX4 : List O := [
 oo 11 <| .fad 1 (.t 2),
 oo 12 <| .ld none (.t 11),
 oo 13 <| .len (.t 12),
 oo 14 <| .mv (ki 0)]
def rQxX5 : List O := [
 oo 15 <| .bin .lss (.t 14) (.t 13)]
def rQxX6 : List O := [
 oo 16 <| .ixa 2 (.t 12) (.t 14),
 oo 17 <| .ld (some 2) (.t 16),
 oo 7 <| .new [(.int .i64 0), (.int .i64 0)],
 oz <| .st 2 (.t 7) (.t 17)]
def rQxX7 : List O := [
 oo 18 <| .fad 0 (.t 7),
 oo 19 <| .ld none (.t 18),
 oo 20 <| .mv (.t 1),
 oo 21 <| .bin .eql (.t 19) (.t 20)]
def rQxX8 : List O := [
 oo 22 <| .mv (.t 5),
 oo 23 <| .fad 1 (.t 7),
 oo 24 <| .ld none (.t 23),
 oo 25 <| .bslice 1 1 [(.int .i64 0)] [(0, 1, (.t 24))],
 oo 26 <| .app 1 (.t 22) (.t 25),
 oo 5 <| .mv (.t 26)]
def rQxX9 : List O := [
 oo 27 <| .fad 1 (.t 7),
 oo 28 <| .ld none (.t 27),
 oo 29 <| .mv (.t 1),
 oo 30 <| .bin .eql (.t 28) (.t 29)]
def rQxX10 : List O := [
 oo 31 <| .mv (.t 5),
 oo 32 <| .fad 0 (.t 7),
 oo 33 <| .ld none (.t 32),
 oo 34 <| .bslice 1 1 [(.int .i64 0)] [(0, 1, (.t 33))],
 oo 35 <| .app 1 (.t 31) (.t 34),
 oo 5 <| .mv (.t 35)]
def rQxX11 : List O := [
 oo 36 <| .bin .add (.t 14) (ki 1),
 oo 14 <| .mv (.t 36)]
def lQxX0 : C := (.seq (.reg rQxX5 false [] [1, 5, 12, 13, 14, 15]) (.seq (.cond (.t 15) .skip (.exit 0)) (.seq (.blk 1 (.seq (.reg rQxX6 false [] [1, 5, 7, 12, 13, 14]) (.seq (.seq (.reg rQxX7 false [] [1, 5, 7, 12, 13, 14, 21]) (.cond (.t 21) (.reg rQxX8 false [] [1, 5, 7, 12, 13, 14]) .skip)) (.seq (.reg rQxX9 false [] [1, 5, 7, 12, 13, 14, 30]) (.cond (.t 30) (.reg rQxX10 false [] [1, 5, 12, 13, 14]) .skip))))) (.reg rQxX11 false [] [1, 5, 12, 13, 14]))))
def rQxX12 : List O := [
 oo 37 <| .mv (.t 5),
 oo 38 <| .call nQS [(.t 37)],
 oo 4 <| .mv (.t 38)]
def cQx : C := (.seq (.reg rQxX0 false [] [1, 2]) (.seq (.seq (.reg rQxX1 false [] [1, 2, 10]) (.cond (.t 10) (.seq (.reg rQxX2 false [] [4]) .ret) .skip)) (.seq (.reg rQxX3 false [] [1, 2, 5]) (.seq (.seq (.reg rQxX4 false [] [1, 5, 12, 13, 14]) (.blk 0 (.loop lQxX0))) (.seq (.reg rQxX12 false [] [4]) .ret)))))
def qQx : AFn := ⟨39, 2, [.t 4], cQx⟩
/- cohesion/partition.Check -/
def rQyX0 : List O := [
 oo 2 <| .box (.t 0),
 oo 4 <| .mv (ki 0)]
def rQyX1 : List O := [
 oo 6 <| .fad 0 (.t 2),
 oo 7 <| .ld none (.t 6),
 oo 8 <| .call nQI [(.t 7)],
 oo 9 <| .un .not (.t 8),
 oo 5 <| .mv (.t 9)]
def rQyX2 : List O := [
 oo 4 <| .mv (ki 1)]
def rQyX3 : List O := [
 oo 11 <| .fad 1 (.t 2),
 oo 12 <| .ld none (.t 11),
 oo 13 <| .len (.t 12),
 oo 14 <| .mv (.t 1),
 oo 15 <| .bin .neq (.t 13) (.t 14),
 oo 16 <| .mv (.t 15),
 ⟨(some 17), (some (16, false)), .fad 2 (.t 2)⟩,
 ⟨(some 18), (some (16, false)), .ld none (.t 17)⟩,
 ⟨(some 19), (some (16, false)), .mv (.t 1)⟩,
 ⟨(some 20), (some (16, false)), .call nQT [(.t 18), (.t 19)]⟩,
 ⟨(some 21), (some (16, false)), .un .not (.t 20)⟩,
 oo 22 <| .pick (.t 16) (.k (.bool true)) (.t 21),
 oo 10 <| .mv (.t 22)]
def rQyX4 : List O := [
 oo 4 <| .mv (ki 4)]
def rQyX5 : List O := [
 oo 24 <| .fad 1 (.t 2),
 oo 25 <| .ld none (.t 24),
 oo 26 <| .mkf (.func nQV) [] [(.t 2)],
 oo 27 <| .call nQU [(.t 25), (.t 26)],
 oo 23 <| .mv (.t 27)]
def rQyX6 : List O := [
 oo 4 <| .mv (ki 30)]
def rQyX7 : List O := [
 oo 4 <| .mv (ki 0)]
def cQy : C := (.seq (.reg rQyX0 false [] [1, 2]) (.seq (.blk 0 (.seq (.reg rQyX1 false [] [1, 2, 5]) (.cond (.t 5) (.seq (.reg rQyX2 false [] [4]) .ret) (.seq (.reg rQyX3 false [] [2, 10]) (.cond (.t 10) (.seq (.reg rQyX4 false [] [4]) .ret) (.seq (.reg rQyX5 false [] [23]) (.cond (.t 23) (.seq (.reg rQyX6 false [] [4]) .ret) .skip))))))) (.seq (.reg rQyX7 false [] [4]) .ret)))
def qQy : AFn := ⟨28, 2, [.t 4], cQy⟩
/- cohesion/graph.Check -/
def rQzX0 : List O := [
 oo 1 <| .box (.t 0),
 oo 2 <| .mv (ki 0)]
def rQzX1 : List O := [
 oo 5 <| .fad 0 (.t 1),
 oo 6 <| .ld none (.t 5),
 oo 7 <| .bin .lss (.t 6) (ki 0),
 oo 8 <| .mv (.t 7),
 ⟨(some 9), (some (8, false)), .fad 0 (.t 1)⟩,
 ⟨(some 10), (some (8, false)), .ld none (.t 9)⟩,
 ⟨(some 11), (some (8, false)), .bin .gtr (.t 10) (ki 64)⟩,
 oo 12 <| .pick (.t 8) (.k (.bool true)) (.t 11)]
def rQzX2 : List O := [
 oo 2 <| .mv (ki 1)]
def rQzX3 : List O := [
 oo 13 <| .fad 1 (.t 1),
 oo 14 <| .ld none (.t 13),
 oo 15 <| .len (.t 14),
 oo 16 <| .mv (ki 0)]
def rQzX4 : List O := [
 oo 17 <| .bin .lss (.t 16) (.t 15)]
def rQzX5 : List O := [
 oo 18 <| .mv (.t 16),
 oo 19 <| .ixa 2 (.t 14) (.t 16),
 oo 20 <| .ld (some 2) (.t 19),
 oo 4 <| .new [(.int .i64 0), (.int .i64 0)],
 oo 3 <| .mv (.t 18),
 oz <| .st 2 (.t 4) (.t 20)]
def rQzX6 : List O := [
 oo 22 <| .fad 0 (.t 4),
 oo 23 <| .ld none (.t 22),
 oo 24 <| .bin .lss (.t 23) (ki 0),
 oo 25 <| .mv (.t 24),
 ⟨(some 26), (some (25, false)), .fad 0 (.t 4)⟩,
 ⟨(some 27), (some (25, false)), .ld none (.t 26)⟩,
 ⟨(some 28), (some (25, false)), .fad 1 (.t 4)⟩,
 ⟨(some 29), (some (25, false)), .ld none (.t 28)⟩,
 ⟨(some 30), (some (25, false)), .bin .geq (.t 27) (.t 29)⟩,
 oo 31 <| .pick (.t 25) (.k (.bool true)) (.t 30),
 oo 32 <| .mv (.t 31),
 ⟨(some 33), (some (32, false)), .fad 1 (.t 4)⟩,
 ⟨(some 34), (some (32, false)), .ld none (.t 33)⟩,
 ⟨(some 35), (some (32, false)), .fad 0 (.t 1)⟩,
 ⟨(some 36), (some (32, false)), .ld none (.t 35)⟩,
 ⟨(some 37), (some (32, false)), .bin .geq (.t 34) (.t 36)⟩,
 oo 38 <| .pick (.t 32) (.k (.bool true)) (.t 37),
 oo 21 <| .mv (.t 38)]
def rQzX7 : List O := [
 oo 2 <| .mv (ki 6)]
def rQzX8 : List O := [
 oo 40 <| .mv (.t 3),
 oo 41 <| .bin .gtr (.t 40) (ki 0),
 oo 42 <| .mv (.t 41),
 ⟨(some 43), (some (42, true)), .fad 1 (.t 1)⟩,
 ⟨(some 44), (some (42, true)), .ld none (.t 43)⟩,
 ⟨(some 45), (some (42, true)), .mv (.t 3)⟩,
 ⟨(some 46), (some (42, true)), .bin .sub (.t 45) (ki 1)⟩,
 ⟨(some 47), (some (42, true)), .ixa 2 (.t 44) (.t 46)⟩,
 ⟨(some 48), (some (42, true)), .ld (some 2) (.t 47)⟩,
 ⟨(some 49), (some (42, true)), .ld (some 2) (.t 4)⟩,
 ⟨(some 50), (some (42, true)), .call nQW [(.t 48), (.t 49)]⟩,
 ⟨(some 51), (some (42, true)), .bin .geq (.t 50) (ki 0)⟩,
 oo 52 <| .pick (.t 42) (.t 51) (.k (.bool false)),
 oo 39 <| .mv (.t 52)]
def rQzX9 : List O := [
 oo 2 <| .mv (ki 5)]
def rQzX10 : List O := [
 oo 53 <| .bin .add (.t 16) (ki 1),
 oo 16 <| .mv (.t 53)]
def lQzX0 : C := (.seq (.reg rQzX4 false [] [1, 14, 15, 16, 17]) (.seq (.cond (.t 17) .skip (.exit 0)) (.seq (.blk 1 (.seq (.reg rQzX5 false [] [1, 3, 4, 14, 15, 16]) (.blk 2 (.seq (.reg rQzX6 false [] [1, 3, 4, 14, 15, 16, 21]) (.cond (.t 21) (.seq (.reg rQzX7 false [] [2]) .ret) (.seq (.reg rQzX8 true [(0, 0), (1, 1), (2, 2), (10, 10), (11, 11), (12, 12), (13, 13), (4, 5), (4, 6), (3, 9), (4, 9), (5, 9), (6, 9), (7, 9), (8, 9)] [1, 14, 15, 16, 39]) (.cond (.t 39) (.seq (.reg rQzX9 false [] [2]) .ret) .skip))))))) (.reg rQzX10 false [] [1, 14, 15, 16]))))
def rQzX11 : List O := [
 oo 2 <| .mv (ki 0)]
def cQz : C := (.seq (.reg rQzX0 false [] [1]) (.seq (.seq (.reg rQzX1 false [] [1, 12]) (.cond (.t 12) (.seq (.reg rQzX2 false [] [2]) .ret) .skip)) (.seq (.seq (.reg rQzX3 false [] [1, 14, 15, 16]) (.blk 0 (.loop lQzX0))) (.seq (.reg rQzX11 false [] [2]) .ret))))
def qQz : AFn := ⟨54, 1, [.t 2], cQz⟩
/- slices.SortFunc[[]cohesion/api.Edge,cohesion/api.Edge] -/
def rQAX0 : List O := [
 oo 5 <| .mv (.t 0),
 oo 6 <| .len (.t 5),
 oo 4 <| .mv (.t 6)]
def rQAX1 : List O := [
 oo 7 <| .mv (.t 0),
 oo 8 <| .mv (.t 4),
 oo 9 <| .mv (.t 4),
 oo 10 <| .cvt .u64 (.t 9),
 oo 11 <| .call 53 [(.t 10)],
 oo 12 <| .mv (.t 1),
 oo 13 <| .call 52 [(.t 7), (ki 0), (.t 8), (.t 11), (.t 12)]]
def cQA : C := (.seq (.reg rQAX0 false [] [0, 1, 4]) (.reg rQAX1 false [] []))
def qQA : AFn := ⟨14, 2, [], cQA⟩
/- cohesion/partition.Join$1 -/
def rQBX0 : List O := [
 oo 2 <| .box (.t 0),
 oo 3 <| .box (.t 1),
 oo 4 <| .mv (ki 0)]
def rQBX1 : List O := [
 oo 5 <| .fad 0 (.t 2),
 oo 6 <| .ld none (.t 5),
 oo 7 <| .fad 0 (.t 3),
 oo 8 <| .ld none (.t 7),
 oo 9 <| .call nQD [(.t 6), (.t 8)],
 oo 10 <| .fad 1 (.t 2),
 oo 11 <| .ld none (.t 10),
 oo 12 <| .fad 1 (.t 3),
 oo 13 <| .ld none (.t 12),
 oo 14 <| .call nQD [(.t 11), (.t 13)],
 oo 15 <| .bslice 1 2 [(.int .i64 0)] [(0, 1, (.t 9)), (1, 1, (.t 14))],
 oo 16 <| .call nQC [(.t 15)],
 oo 4 <| .mv (.t 16)]
def cQB : C := (.seq (.reg rQBX0 false [] [2, 3]) (.seq (.reg rQBX1 true [(9, 9), (10, 10), (11, 11), (12, 12), (1, 2), (0, 3), (1, 3), (1, 5), (3, 5), (4, 5), (0, 6), (1, 6), (2, 6), (3, 6), (4, 6), (1, 7), (3, 7), (4, 7), (6, 7), (0, 8), (1, 8), (2, 8), (3, 8), (4, 8), (5, 8), (6, 8)] [4]) .ret))
def qQB : AFn := ⟨17, 2, [.t 4], cQB⟩
/- cmp.Or[int] -/
def rQCX0 : List O := [
 oo 2 <| .mv (ki 0)]
def rQCX1 : List O := [
 oo 3 <| .mv (ki 0)]
def rQCX2 : List O := [
 oo 6 <| .mv (.t 0),
 oo 7 <| .len (.t 6),
 oo 8 <| .mv (ki 0)]
def rQCX3 : List O := [
 oo 9 <| .bin .lss (.t 8) (.t 7)]
def rQCX4 : List O := [
 oo 10 <| .ixa 1 (.t 6) (.t 8),
 oo 11 <| .ld none (.t 10),
 oo 5 <| .mv (.t 11)]
def rQCX5 : List O := [
 oo 12 <| .mv (.t 5),
 oo 13 <| .mv (.t 3),
 oo 14 <| .bin .neq (.t 12) (.t 13)]
def rQCX6 : List O := [
 oo 15 <| .mv (.t 5),
 oo 2 <| .mv (.t 15)]
def rQCX7 : List O := [
 oo 16 <| .bin .add (.t 8) (ki 1),
 oo 8 <| .mv (.t 16)]
def lQCX0 : C := (.seq (.reg rQCX3 false [] [3, 6, 7, 8, 9]) (.seq (.cond (.t 9) .skip (.exit 0)) (.seq (.blk 1 (.seq (.reg rQCX4 false [] [3, 5, 6, 7, 8]) (.seq (.reg rQCX5 false [] [3, 5, 6, 7, 8, 14]) (.cond (.t 14) (.seq (.reg rQCX6 false [] [2]) .ret) .skip)))) (.reg rQCX7 false [] [3, 6, 7, 8]))))
def rQCX8 : List O := [
 oo 17 <| .mv (.t 3),
 oo 2 <| .mv (.t 17)]
def cQC : C := (.seq (.reg rQCX0 false [] [0]) (.seq (.reg rQCX1 false [] [0, 3]) (.seq (.seq (.reg rQCX2 false [] [3, 6, 7, 8]) (.blk 0 (.loop lQCX0))) (.seq (.reg rQCX8 false [] [2]) .ret))))
def qQC : AFn := ⟨18, 1, [.t 2], cQC⟩
/- cmp.Compare[int] -/
def rQDX0 : List O := [
 oo 4 <| .mv (ki 0)]
def rQDX1 : List O := [
 oo 7 <| .mv (.t 0),
 oo 8 <| .call nQX [(.t 7)],
 oo 5 <| .mv (.t 8)]
def rQDX2 : List O := [
 oo 9 <| .mv (.t 1),
 oo 10 <| .call nQX [(.t 9)],
 oo 6 <| .mv (.t 10)]
def rQDX3 : List O := [
 oo 11 <| .mv (.t 5)]
def rQDX4 : List O := [
 oo 12 <| .mv (.t 6)]
def rQDX5 : List O := [
 oo 4 <| .mv (ki 0)]
def rQDX6 : List O := [
 oo 4 <| .mv (.k (.int .i64 (-1)))]
def rQDX7 : List O := [
 oo 13 <| .mv (.t 6)]
def rQDX8 : List O := [
 oo 4 <| .mv (ki 1)]
def rQDX9 : List O := [
 oo 14 <| .mv (.t 0),
 oo 15 <| .mv (.t 1),
 oo 16 <| .bin .lss (.t 14) (.t 15)]
def rQDX10 : List O := [
 oo 4 <| .mv (.k (.int .i64 (-1)))]
def rQDX11 : List O := [
 oo 17 <| .mv (.t 0),
 oo 18 <| .mv (.t 1),
 oo 19 <| .bin .gtr (.t 17) (.t 18)]
def rQDX12 : List O := [
 oo 4 <| .mv (ki 1)]
def rQDX13 : List O := [
 oo 4 <| .mv (ki 0)]
def cQD : C := (.seq (.reg rQDX0 false [] [0, 1]) (.seq (.reg rQDX1 false [] [0, 1, 5]) (.seq (.reg rQDX2 false [] [0, 1, 5, 6]) (.seq (.seq (.reg rQDX3 false [] [0, 1, 6, 11]) (.cond (.t 11) (.seq (.seq (.reg rQDX4 false [] [12]) (.cond (.t 12) (.seq (.reg rQDX5 false [] [4]) .ret) .skip)) (.seq (.reg rQDX6 false [] [4]) .ret)) .skip)) (.seq (.seq (.reg rQDX7 false [] [0, 1, 13]) (.cond (.t 13) (.seq (.reg rQDX8 false [] [4]) .ret) .skip)) (.seq (.seq (.reg rQDX9 false [] [0, 1, 16]) (.cond (.t 16) (.seq (.reg rQDX10 false [] [4]) .ret) .skip)) (.seq (.seq (.reg rQDX11 false [] [19]) (.cond (.t 19) (.seq (.reg rQDX12 false [] [4]) .ret) .skip)) (.seq (.reg rQDX13 false [] [4]) .ret))))))))
def qQD : AFn := ⟨20, 2, [.t 4], cQD⟩
/- slices.Compact[[]cohesion/api.Edge,cohesion/api.Edge] -/
def rQEX0 : List O := [
 oo 2 <| .mv (.k (.own 2 []))]
def rQEX1 : List O := [
 oo 6 <| .mv (.t 0),
 oo 7 <| .len (.t 6),
 oo 8 <| .bin .lss (.t 7) (ki 2)]
def rQEX2 : List O := [
 oo 9 <| .mv (.t 0),
 oo 2 <| .mv (.t 9)]
def rQEX3 : List O := [
 oo 3 <| .mv (ki 1)]
def rQEX4 : List O := [
 oo 10 <| .mv (.t 3),
 oo 11 <| .mv (.t 0),
 oo 12 <| .len (.t 11),
 oo 13 <| .bin .lss (.t 10) (.t 12)]
def rQEX5 : List O := [
 oo 16 <| .mv (.t 0),
 oo 17 <| .mv (.t 3),
 oo 18 <| .ixa 2 (.t 16) (.t 17),
 oo 19 <| .ld (some 2) (.t 18),
 oo 20 <| .mv (.t 0),
 oo 21 <| .mv (.t 3),
 oo 22 <| .bin .sub (.t 21) (ki 1),
 oo 23 <| .ixa 2 (.t 20) (.t 22),
 oo 24 <| .ld (some 2) (.t 23),
 oo 25 <| .eq false (.str [true, true]) (.t 19) (.t 24)]
def rQEX6 : List O := [
 oo 26 <| .mv (.t 0),
 oo 27 <| .mv (.t 3),
 oo 28 <| .slc 2 (.t 26) (some (.t 27)) none,
 oo 4 <| .mv (.t 28)]
def rQEX7 : List O := [
 oo 5 <| .mv (ki 1)]
def rQEX8 : List O := [
 oo 29 <| .mv (.t 5),
 oo 30 <| .mv (.t 4),
 oo 31 <| .len (.t 30),
 oo 32 <| .bin .lss (.t 29) (.t 31)]
def rQEX9 : List O := [
 oo 35 <| .mv (.t 4),
 oo 36 <| .mv (.t 5),
 oo 37 <| .ixa 2 (.t 35) (.t 36),
 oo 38 <| .ld (some 2) (.t 37),
 oo 39 <| .mv (.t 4),
 oo 40 <| .mv (.t 5),
 oo 41 <| .bin .sub (.t 40) (ki 1),
 oo 42 <| .ixa 2 (.t 39) (.t 41),
 oo 43 <| .ld (some 2) (.t 42),
 oo 44 <| .eq true (.str [true, true]) (.t 38) (.t 43)]
def rQEX10 : List O := [
 oo 45 <| .mv (.t 0),
 oo 46 <| .mv (.t 3),
 oo 47 <| .mv (.t 4),
 oo 48 <| .mv (.t 5),
 oo 49 <| .ixa 2 (.t 47) (.t 48),
 oo 50 <| .ld (some 2) (.t 49),
 oo 51 <| .ixa 2 (.t 45) (.t 46),
 oz <| .st 2 (.t 51) (.t 50)]
def rQEX11 : List O := [
 oo 52 <| .mv (.t 3),
 oo 53 <| .bin .add (.t 52) (ki 1),
 oo 3 <| .mv (.t 53)]
def rQEX12 : List O := [
 oo 33 <| .mv (.t 5),
 oo 34 <| .bin .add (.t 33) (ki 1),
 oo 5 <| .mv (.t 34)]
def lQEX0 : C := (.seq (.seq (.reg rQEX8 false [] [0, 3, 4, 5, 32]) (.cond (.t 32) .skip (.exit 2))) (.seq (.blk 3 (.seq (.reg rQEX9 true [(9, 9), (3, 4), (3, 5), (3, 6), (3, 7), (0, 8), (1, 8), (2, 8), (3, 8)] [0, 3, 4, 5, 44]) (.cond (.t 44) (.seq (.reg rQEX10 false [] [0, 3, 4, 5]) (.reg rQEX11 false [] [0, 3, 4, 5])) .skip))) (.reg rQEX12 false [] [0, 3, 4, 5])))
def rQEX13 : List O := [
 oo 54 <| .mv (.t 0),
 oo 55 <| .mv (.t 3),
 oo 56 <| .slc 2 (.t 54) (some (.t 55)) none,
 oz <| .clr 2 [(.int .i64 0), (.int .i64 0)] (.t 56)]
def rQEX14 : List O := [
 oo 57 <| .mv (.t 0),
 oo 58 <| .mv (.t 3),
 oo 59 <| .slc 2 (.t 57) none (some (.t 58)),
 oo 2 <| .mv (.t 59)]
def rQEX15 : List O := [
 oo 14 <| .mv (.t 3),
 oo 15 <| .bin .add (.t 14) (ki 1),
 oo 3 <| .mv (.t 15)]
def lQEX1 : C := (.seq (.seq (.reg rQEX4 false [] [0, 3, 13]) (.cond (.t 13) .skip (.exit 0))) (.seq (.blk 1 (.seq (.reg rQEX5 true [(9, 9), (3, 4), (3, 5), (3, 6), (3, 7), (0, 8), (1, 8), (2, 8), (3, 8)] [0, 3, 25]) (.cond (.t 25) (.seq (.reg rQEX6 false [] [0, 3, 4]) (.seq (.seq (.reg rQEX7 false [] [0, 3, 4, 5]) (.blk 2 (.loop lQEX0))) (.seq (.reg rQEX13 false [] [0, 3]) (.seq (.reg rQEX14 false [] [2]) .ret)))) .skip))) (.reg rQEX15 false [] [0, 3])))
def rQEX16 : List O := [
 oo 60 <| .mv (.t 0),
 oo 2 <| .mv (.t 60)]
def cQE : C := (.seq (.reg rQEX0 false [] [0]) (.seq (.seq (.reg rQEX1 false [] [0, 8]) (.cond (.t 8) (.seq (.reg rQEX2 false [] [2]) .ret) .skip)) (.seq (.seq (.reg rQEX3 false [] [0, 3]) (.blk 0 (.loop lQEX1))) (.seq (.reg rQEX16 false [] [2]) .ret))))
def qQE : AFn := ⟨61, 1, [.t 2], cQE⟩
/- slices.Clone[[]cohesion/api.Edge,cohesion/api.Edge] -/
def rQFX0 : List O := [
 oo 2 <| .mv (.k (.own 2 []))]
def rQFX1 : List O := [
 oo 3 <| .mv (.t 0),
 oo 4 <| .eq false .nsl (.t 3) (.k (.own 2 []))]
def rQFX2 : List O := [
 oo 2 <| .mv (.k (.own 2 []))]
def rQFX3 : List O := [
 oo 5 <| .bslice 2 0 [(.int .i64 0), (.int .i64 0)] [],
 oo 6 <| .mv (.t 0),
 oo 7 <| .app 2 (.t 5) (.t 6),
 oo 2 <| .mv (.t 7)]
def cQF : C := (.seq (.reg rQFX0 false [] [0]) (.seq (.seq (.reg rQFX1 false [] [0, 4]) (.cond (.t 4) (.seq (.reg rQFX2 false [] [2]) .ret) .skip)) (.seq (.reg rQFX3 false [] [2]) .ret)))
def qQF : AFn := ⟨8, 1, [.t 2], cQF⟩
/- cohesion/cohesionref03.SameEdges -/
def rQGX0 : List O := [
 oo 4 <| .mv (.k (.bool false))]
def rQGX1 : List O := [
 oo 6 <| .mv (.t 0),
 oo 7 <| .len (.t 6),
 oo 8 <| .mv (.t 1),
 oo 9 <| .len (.t 8),
 oo 10 <| .bin .neq (.t 7) (.t 9)]
def rQGX2 : List O := [
 oo 4 <| .mv (.k (.bool false))]
def rQGX3 : List O := [
 oo 11 <| .mv (.t 0),
 oo 12 <| .len (.t 11),
 oo 13 <| .mv (ki 0)]
def rQGX4 : List O := [
 oo 14 <| .bin .lss (.t 13) (.t 12)]
def rQGX5 : List O := [
 oo 15 <| .mv (.t 13),
 oo 5 <| .mv (.t 15)]
def rQGX6 : List O := [
 oo 16 <| .mv (.t 0),
 oo 17 <| .mv (.t 5),
 oo 18 <| .ixa 2 (.t 16) (.t 17),
 oo 19 <| .ld (some 2) (.t 18),
 oo 20 <| .mv (.t 1),
 oo 21 <| .mv (.t 5),
 oo 22 <| .ixa 2 (.t 20) (.t 21),
 oo 23 <| .ld (some 2) (.t 22),
 oo 24 <| .eq true (.str [true, true]) (.t 19) (.t 23)]
def rQGX7 : List O := [
 oo 4 <| .mv (.k (.bool false))]
def rQGX8 : List O := [
 oo 25 <| .bin .add (.t 13) (ki 1),
 oo 13 <| .mv (.t 25)]
def lQGX0 : C := (.seq (.reg rQGX4 false [] [0, 1, 12, 13, 14]) (.seq (.cond (.t 14) .skip (.exit 0)) (.seq (.blk 1 (.seq (.reg rQGX5 false [] [0, 1, 5, 12, 13]) (.seq (.reg rQGX6 true [(8, 8), (3, 4), (3, 5), (3, 6), (0, 7), (1, 7), (2, 7), (3, 7)] [0, 1, 12, 13, 24]) (.cond (.t 24) (.seq (.reg rQGX7 false [] [4]) .ret) .skip)))) (.reg rQGX8 false [] [0, 1, 12, 13]))))
def rQGX9 : List O := [
 oo 4 <| .mv (.k (.bool true))]
def cQG : C := (.seq (.reg rQGX0 false [] [0, 1]) (.seq (.seq (.reg rQGX1 false [] [0, 1, 10]) (.cond (.t 10) (.seq (.reg rQGX2 false [] [4]) .ret) .skip)) (.seq (.seq (.reg rQGX3 false [] [0, 1, 12, 13]) (.blk 0 (.loop lQGX0))) (.seq (.reg rQGX9 false [] [4]) .ret))))
def qQG : AFn := ⟨26, 2, [.t 4], cQG⟩
/- cohesion/degree.Degrees -/
def rQHX0 : List O := [
 oo 1 <| .box (.t 0),
 oo 2 <| .mv (.k (.own 1 [])),
 oo 3 <| .mv (ki 0)]
def rQHX1 : List O := [
 oo 8 <| .ld (some 2) (.t 1),
 oo 9 <| .call nQz [(.t 8)],
 oo 4 <| .mv (.t 9)]
def rQHX2 : List O := [
 oo 10 <| .mv (.t 4),
 oo 11 <| .bin .neq (.t 10) (ki 0)]
def rQHX3 : List O := [
 oo 12 <| .mv (.t 4),
 oo 2 <| .mv (.k (.own 1 [])),
 oo 3 <| .mv (.t 12)]
def rQHX4 : List O := [
 oo 5 <| .mv (.k (.own 1 []))]
def rQHX5 : List O := [
 oo 13 <| .ld (some 2) (.t 1),
 oo 14 <| .call nQY [(.t 13)],
 oo 15 <| .len (.t 14),
 oo 16 <| .mv (ki 0)]
def rQHX6 : List O := [
 oo 17 <| .bin .lss (.t 16) (.t 15)]
def rQHX7 : List O := [
 oo 18 <| .ixa 1 (.t 14) (.t 16),
 oo 19 <| .ld none (.t 18),
 oo 7 <| .mv (.t 19)]
def rQHX8 : List O := [
 oo 20 <| .mv (.t 5),
 oo 21 <| .mv (.t 7),
 oo 22 <| .call nQZ [(.t 21)],
 oo 23 <| .bslice 1 1 [(.int .i64 0)] [(0, 1, (.t 22))],
 oo 24 <| .app 1 (.t 20) (.t 23),
 oo 5 <| .mv (.t 24)]
def rQHX9 : List O := [
 oo 25 <| .bin .add (.t 16) (ki 1),
 oo 16 <| .mv (.t 25)]
def lQHX0 : C := (.seq (.reg rQHX6 false [] [5, 14, 15, 16, 17]) (.seq (.cond (.t 17) .skip (.exit 0)) (.seq (.blk 1 (.seq (.reg rQHX7 false [] [5, 7, 14, 15, 16]) (.reg rQHX8 false [] [5, 14, 15, 16]))) (.reg rQHX9 false [] [5, 14, 15, 16]))))
def rQHX10 : List O := [
 oo 26 <| .mv (.t 5),
 oo 2 <| .mv (.t 26),
 oo 3 <| .mv (ki 0)]
def cQH : C := (.seq (.reg rQHX0 false [] [1]) (.seq (.seq (.reg rQHX1 false [] [1, 4]) (.seq (.reg rQHX2 false [] [1, 4, 11]) (.cond (.t 11) (.seq (.reg rQHX3 false [] [2, 3]) .ret) .skip))) (.seq (.reg rQHX4 false [] [1, 5]) (.seq (.seq (.reg rQHX5 false [] [5, 14, 15, 16]) (.blk 0 (.loop lQHX0))) (.seq (.reg rQHX10 false [] [2, 3]) .ret)))))
def qQH : AFn := ⟨27, 1, [.t 2, .t 3], cQH⟩
/- cohesion/partition.workers -/
def rQIX0 : List O := [
 oo 2 <| .mv (.k (.bool false))]
def rQIX1 : List O := [
 oo 3 <| .mv (.t 0),
 oo 4 <| .bin .geq (.t 3) (ki 1),
 oo 5 <| .mv (.t 4),
 ⟨(some 6), (some (5, true)), .mv (.t 0)⟩,
 ⟨(some 7), (some (5, true)), .bin .leq (.t 6) (ki 8)⟩,
 oo 8 <| .pick (.t 5) (.t 7) (.k (.bool false)),
 oo 2 <| .mv (.t 8)]
def cQI : C := (.seq (.reg rQIX0 false [] [0]) (.seq (.reg rQIX1 false [] [2]) .ret))
def qQI : AFn := ⟨9, 1, [.t 2], cQI⟩
/- slices.SortFunc[[]cohesion/partition.part,cohesion/partition.part] -/
def rQJX0 : List O := [
 oo 5 <| .mv (.t 0),
 oo 6 <| .len (.t 5),
 oo 4 <| .mv (.t 6)]
def rQJX1 : List O := [
 oo 7 <| .mv (.t 0),
 oo 8 <| .mv (.t 4),
 oo 9 <| .mv (.t 4),
 oo 10 <| .cvt .u64 (.t 9),
 oo 11 <| .call 53 [(.t 10)],
 oo 12 <| .mv (.t 1),
 oo 13 <| .call 57 [(.t 7), (ki 0), (.t 8), (.t 11), (.t 12)]]
def cQJ : C := (.seq (.reg rQJX0 false [] [0, 1, 4]) (.reg rQJX1 false [] []))
def qQJ : AFn := ⟨14, 2, [], cQJ⟩
/- cohesion/partition.Make$1 -/
def rQKX0 : List O := [
 oo 2 <| .box (.t 0),
 oo 3 <| .box (.t 1),
 oo 4 <| .mv (ki 0)]
def rQKX1 : List O := [
 oo 5 <| .fad 0 (.t 3),
 oo 6 <| .ld none (.t 5),
 oo 7 <| .fad 0 (.t 2),
 oo 8 <| .ld none (.t 7),
 oo 9 <| .call nQD [(.t 6), (.t 8)],
 oo 10 <| .fad 1 (.t 2),
 oo 11 <| .ld none (.t 10),
 oo 12 <| .fad 1 (.t 3),
 oo 13 <| .ld none (.t 12),
 oo 14 <| .call nQD [(.t 11), (.t 13)],
 oo 15 <| .bslice 1 2 [(.int .i64 0)] [(0, 1, (.t 9)), (1, 1, (.t 14))],
 oo 16 <| .call nQC [(.t 15)],
 oo 4 <| .mv (.t 16)]
def cQK : C := (.seq (.reg rQKX0 false [] [2, 3]) (.seq (.reg rQKX1 true [(9, 9), (10, 10), (11, 11), (12, 12), (1, 2), (0, 3), (1, 3), (1, 5), (3, 5), (4, 5), (0, 6), (1, 6), (2, 6), (3, 6), (4, 6), (1, 7), (3, 7), (4, 7), (6, 7), (0, 8), (1, 8), (2, 8), (3, 8), (4, 8), (5, 8), (6, 8)] [4]) .ret))
def qQK : AFn := ⟨17, 2, [.t 4], cQK⟩
/- slices.MinFunc[[]cohesion/partition.part,cohesion/partition.part] -/
def rQLX0 : List O := [
 oo 4 <| .new [(.int .i64 0), (.int .i64 0)]]
def rQLX1 : List O := [
 oo 7 <| .mv (.t 0),
 oo 8 <| .len (.t 7),
 oo 9 <| .bin .lss (.t 8) (ki 1)]
def rQLX2 : List O := [
 oo 10 <| .bad,
 oz <| .bad]
def rQLX3 : List O := [
 oo 11 <| .mv (.t 0),
 oo 12 <| .ixa 2 (.t 11) (ki 0),
 oo 13 <| .ld (some 2) (.t 12),
 oo 5 <| .new [(.int .i64 0), (.int .i64 0)],
 oz <| .st 2 (.t 5) (.t 13)]
def rQLX4 : List O := [
 oo 6 <| .mv (ki 1)]
def rQLX5 : List O := [
 oo 14 <| .mv (.t 6),
 oo 15 <| .mv (.t 0),
 oo 16 <| .len (.t 15),
 oo 17 <| .bin .lss (.t 14) (.t 16)]
def rQLX6 : List O := [
 oo 20 <| .mv (.t 1),
 oo 21 <| .mv (.t 0),
 oo 22 <| .mv (.t 6),
 oo 23 <| .ixa 2 (.t 21) (.t 22),
 oo 24 <| .ld (some 2) (.t 23),
 oo 25 <| .ld (some 2) (.t 5),
 oo 26 <| .callv (.t 20) [(.t 24), (.t 25)],
 oo 27 <| .bin .lss (.t 26) (ki 0)]
def rQLX7 : List O := [
 oo 28 <| .mv (.t 0),
 oo 29 <| .mv (.t 6),
 oo 30 <| .ixa 2 (.t 28) (.t 29),
 oo 31 <| .ld (some 2) (.t 30),
 oz <| .st 2 (.t 5) (.t 31)]
def rQLX8 : List O := [
 oo 18 <| .mv (.t 6),
 oo 19 <| .bin .add (.t 18) (ki 1),
 oo 6 <| .mv (.t 19)]
def lQLX0 : C := (.seq (.seq (.reg rQLX5 false [] [0, 1, 4, 5, 6, 17]) (.cond (.t 17) .skip (.exit 0))) (.seq (.blk 1 (.seq (.reg rQLX6 true [(6, 6), (7, 7), (0, 4), (0, 5), (1, 5), (2, 5), (3, 5), (4, 5)] [0, 1, 4, 5, 6, 27]) (.cond (.t 27) (.reg rQLX7 false [] [0, 1, 4, 5, 6]) .skip))) (.reg rQLX8 false [] [0, 1, 4, 5, 6])))
def rQLX9 : List O := [
 oo 32 <| .ld (some 2) (.t 5),
 oz <| .st 2 (.t 4) (.t 32)]
def cQL : C := (.seq (.reg rQLX0 false [] [0, 1, 4]) (.seq (.seq (.reg rQLX1 false [] [0, 1, 4, 9]) (.cond (.t 9) (.reg rQLX2 false [] [0, 1, 4]) .skip)) (.seq (.reg rQLX3 false [] [0, 1, 4, 5]) (.seq (.seq (.reg rQLX4 false [] [0, 1, 4, 5, 6]) (.blk 0 (.loop lQLX0))) (.seq (.reg rQLX9 false [] [4]) .ret)))))
def qQL : AFn := ⟨33, 2, [.c 4 (some 2)], cQL⟩
/- cohesion/partition.Make$2 -/
def rQMX0 : List O := [
 oo 2 <| .box (.t 0),
 oo 3 <| .box (.t 1),
 oo 4 <| .mv (ki 0)]
def rQMX1 : List O := [
 oo 5 <| .fad 0 (.t 2),
 oo 6 <| .ld none (.t 5),
 oo 7 <| .fad 0 (.t 3),
 oo 8 <| .ld none (.t 7),
 oo 9 <| .call nQD [(.t 6), (.t 8)],
 oo 10 <| .fad 1 (.t 2),
 oo 11 <| .ld none (.t 10),
 oo 12 <| .fad 1 (.t 3),
 oo 13 <| .ld none (.t 12),
 oo 14 <| .call nQD [(.t 11), (.t 13)],
 oo 15 <| .bslice 1 2 [(.int .i64 0)] [(0, 1, (.t 9)), (1, 1, (.t 14))],
 oo 16 <| .call nQC [(.t 15)],
 oo 4 <| .mv (.t 16)]
def cQM : C := (.seq (.reg rQMX0 false [] [2, 3]) (.seq (.reg rQMX1 true [(9, 9), (10, 10), (11, 11), (12, 12), (1, 2), (0, 3), (1, 3), (1, 5), (3, 5), (4, 5), (0, 6), (1, 6), (2, 6), (3, 6), (4, 6), (1, 7), (3, 7), (4, 7), (6, 7), (0, 8), (1, 8), (2, 8), (3, 8), (4, 8), (5, 8), (6, 8)] [4]) .ret))
def qQM : AFn := ⟨17, 2, [.t 4], cQM⟩
/- cohesion/cohesionmake.Mod -/
def rQNX0 : List O := [
 oo 4 <| .mv (ki 0)]
def rQNX1 : List O := [
 oo 5 <| .mv (.t 0),
 oo 6 <| .mv (.t 1),
 oo 7 <| .bin .rem (.t 5) (.t 6),
 oo 8 <| .mv (.t 1),
 oo 9 <| .bin .add (.t 7) (.t 8),
 oo 10 <| .mv (.t 1),
 oo 11 <| .bin .rem (.t 9) (.t 10),
 oo 4 <| .mv (.t 11)]
def cQN : C := (.seq (.reg rQNX0 false [] [0, 1]) (.seq (.reg rQNX1 false [] [4]) .ret))
def qQN : AFn := ⟨12, 2, [.t 4], cQN⟩
/- cohesion/nodeset.Has -/
def rQOX0 : List O := [
 oo 4 <| .mv (.k (.bool false))]
def rQOX1 : List O := [
 oo 5 <| .mv (.t 0),
 oo 6 <| .mv (.t 1),
 oo 7 <| .call nQ0 [(.t 5), (.t 6)],
 oo 4 <| .mv (.t 7)]
def cQO : C := (.seq (.reg rQOX0 false [] [0, 1]) (.seq (.reg rQOX1 false [] [4]) .ret))
def qQO : AFn := ⟨8, 2, [.t 4], cQO⟩
/- cohesion/nodeset.Union -/
def rQPX0 : List O := [
 oo 4 <| .mv (.k (.own 1 []))]
def rQPX1 : List O := [
 oo 5 <| .mv (.t 0),
 oo 6 <| .mv (.t 1),
 oo 7 <| .call nQ1 [(.t 5), (.t 6), (.k (.func (.func nQ2) [] []))],
 oo 4 <| .mv (.t 7)]
def cQP : C := (.seq (.reg rQPX0 false [] [0, 1]) (.seq (.reg rQPX1 false [] [4]) .ret))
def qQP : AFn := ⟨8, 2, [.t 4], cQP⟩
/- slices.IndexFunc[[]int,int] -/
def rQQX0 : List O := [
 oo 4 <| .mv (ki 0)]
def rQQX1 : List O := [
 oo 6 <| .mv (.t 0),
 oo 7 <| .len (.t 6),
 oo 8 <| .mv (ki 0)]
def rQQX2 : List O := [
 oo 9 <| .bin .lss (.t 8) (.t 7)]
def rQQX3 : List O := [
 oo 10 <| .mv (.t 8),
 oo 5 <| .mv (.t 10)]
def rQQX4 : List O := [
 oo 11 <| .mv (.t 1),
 oo 12 <| .mv (.t 0),
 oo 13 <| .mv (.t 5),
 oo 14 <| .ixa 1 (.t 12) (.t 13),
 oo 15 <| .ld none (.t 14),
 oo 16 <| .callv (.t 11) [(.t 15)]]
def rQQX5 : List O := [
 oo 17 <| .mv (.t 5),
 oo 4 <| .mv (.t 17)]
def rQQX6 : List O := [
 oo 18 <| .bin .add (.t 8) (ki 1),
 oo 8 <| .mv (.t 18)]
def lQQX0 : C := (.seq (.reg rQQX2 false [] [0, 1, 7, 8, 9]) (.seq (.cond (.t 9) .skip (.exit 0)) (.seq (.blk 1 (.seq (.reg rQQX3 false [] [0, 1, 5, 7, 8]) (.seq (.reg rQQX4 false [] [0, 1, 5, 7, 8, 16]) (.cond (.t 16) (.seq (.reg rQQX5 false [] [4]) .ret) .skip)))) (.reg rQQX6 false [] [0, 1, 7, 8]))))
def rQQX7 : List O := [
 oo 4 <| .mv (.k (.int .i64 (-1)))]
def cQQ : C := (.seq (.reg rQQX0 false [] [0, 1]) (.seq (.seq (.reg rQQX1 false [] [0, 1, 7, 8]) (.blk 0 (.loop lQQX0))) (.seq (.reg rQQX7 false [] [4]) .ret)))
def qQQ : AFn := ⟨19, 2, [.t 4], cQQ⟩
/- cohesion/cohesionref03.Check -/
def rQRX0 : List O := [
 oo 1 <| .box (.t 0),
 oo 2 <| .mv (ki 0)]
def rQRX1 : List O := [
 oo 5 <| .fad 0 (.t 1),
 oo 6 <| .ld none (.t 5),
 oo 7 <| .bin .lss (.t 6) (ki 0),
 oo 8 <| .mv (.t 7),
 ⟨(some 9), (some (8, false)), .fad 0 (.t 1)⟩,
 ⟨(some 10), (some (8, false)), .ld none (.t 9)⟩,
 ⟨(some 11), (some (8, false)), .bin .gtr (.t 10) (ki 64)⟩,
 oo 12 <| .pick (.t 8) (.k (.bool true)) (.t 11)]
def rQRX2 : List O := [
 oo 2 <| .mv (ki 1)]
def rQRX3 : List O := [
 oo 13 <| .fad 1 (.t 1),
 oo 14 <| .ld none (.t 13),
 oo 15 <| .len (.t 14),
 oo 16 <| .mv (ki 0)]
def rQRX4 : List O := [
 oo 17 <| .bin .lss (.t 16) (.t 15)]
def rQRX5 : List O := [
 oo 18 <| .mv (.t 16),
 oo 19 <| .ixa 2 (.t 14) (.t 16),
 oo 20 <| .ld (some 2) (.t 19),
 oo 4 <| .new [(.int .i64 0), (.int .i64 0)],
 oo 3 <| .mv (.t 18),
 oz <| .st 2 (.t 4) (.t 20)]
def rQRX6 : List O := [
 oo 21 <| .fad 0 (.t 4),
 oo 22 <| .ld none (.t 21),
 oo 23 <| .bin .lss (.t 22) (ki 0),
 oo 24 <| .mv (.t 23),
 ⟨(some 25), (some (24, false)), .fad 0 (.t 4)⟩,
 ⟨(some 26), (some (24, false)), .ld none (.t 25)⟩,
 ⟨(some 27), (some (24, false)), .fad 1 (.t 4)⟩,
 ⟨(some 28), (some (24, false)), .ld none (.t 27)⟩,
 ⟨(some 29), (some (24, false)), .bin .geq (.t 26) (.t 28)⟩,
 oo 30 <| .pick (.t 24) (.k (.bool true)) (.t 29),
 oo 31 <| .mv (.t 30),
 ⟨(some 32), (some (31, false)), .fad 1 (.t 4)⟩,
 ⟨(some 33), (some (31, false)), .ld none (.t 32)⟩,
 ⟨(some 34), (some (31, false)), .fad 0 (.t 1)⟩,
 ⟨(some 35), (some (31, false)), .ld none (.t 34)⟩,
 ⟨(some 36), (some (31, false)), .bin .geq (.t 33) (.t 35)⟩,
 oo 37 <| .pick (.t 31) (.k (.bool true)) (.t 36)]
def rQRX7 : List O := [
 oo 2 <| .mv (ki 6)]
def rQRX8 : List O := [
 oo 38 <| .mv (.t 3),
 oo 39 <| .bin .gtr (.t 38) (ki 0),
 oo 40 <| .mv (.t 39),
 ⟨(some 41), (some (40, true)), .fad 1 (.t 1)⟩,
 ⟨(some 42), (some (40, true)), .ld none (.t 41)⟩,
 ⟨(some 43), (some (40, true)), .mv (.t 3)⟩,
 ⟨(some 44), (some (40, true)), .bin .sub (.t 43) (ki 1)⟩,
 ⟨(some 45), (some (40, true)), .ixa 2 (.t 42) (.t 44)⟩,
 ⟨(some 46), (some (40, true)), .ld (some 2) (.t 45)⟩,
 ⟨(some 47), (some (40, true)), .ld (some 2) (.t 4)⟩,
 ⟨(some 48), (some (40, true)), .call nQ3 [(.t 46), (.t 47)]⟩,
 ⟨(some 49), (some (40, true)), .un .not (.t 48)⟩,
 oo 50 <| .pick (.t 40) (.t 49) (.k (.bool false))]
def rQRX9 : List O := [
 oo 2 <| .mv (ki 5)]
def rQRX10 : List O := [
 oo 51 <| .bin .add (.t 16) (ki 1),
 oo 16 <| .mv (.t 51)]
def lQRX0 : C := (.seq (.reg rQRX4 false [] [1, 14, 15, 16, 17]) (.seq (.cond (.t 17) .skip (.exit 0)) (.seq (.blk 1 (.seq (.reg rQRX5 false [] [1, 3, 4, 14, 15, 16]) (.seq (.seq (.reg rQRX6 false [] [1, 3, 4, 14, 15, 16, 37]) (.cond (.t 37) (.seq (.reg rQRX7 false [] [2]) .ret) .skip)) (.seq (.reg rQRX8 true [(0, 0), (1, 1), (2, 2), (10, 10), (11, 11), (12, 12), (4, 5), (4, 6), (3, 9), (4, 9), (5, 9), (6, 9), (7, 9), (8, 9)] [1, 14, 15, 16, 50]) (.cond (.t 50) (.seq (.reg rQRX9 false [] [2]) .ret) .skip))))) (.reg rQRX10 false [] [1, 14, 15, 16]))))
def rQRX11 : List O := [
 oo 2 <| .mv (ki 0)]
def cQR : C := (.seq (.reg rQRX0 false [] [1]) (.seq (.seq (.reg rQRX1 false [] [1, 12]) (.cond (.t 12) (.seq (.reg rQRX2 false [] [2]) .ret) .skip)) (.seq (.seq (.reg rQRX3 false [] [1, 14, 15, 16]) (.blk 0 (.loop lQRX0))) (.seq (.reg rQRX11 false [] [2]) .ret))))
def qQR : AFn := ⟨52, 1, [.t 2], cQR⟩
/- cohesion/cohesionref02.Of -/
def rQSX0 : List O := [
 oo 2 <| .mv (.k (.own 1 []))]
def rQSX1 : List O := [
 oo 3 <| .mv (.k (.own 1 []))]
def rQSX2 : List O := [
 oo 6 <| .mv (.t 0),
 oo 7 <| .len (.t 6),
 oo 8 <| .mv (ki 0)]
def rQSX3 : List O := [
 oo 9 <| .bin .lss (.t 8) (.t 7)]
def rQSX4 : List O := [
 oo 10 <| .ixa 1 (.t 6) (.t 8),
 oo 11 <| .ld none (.t 10),
 oo 5 <| .mv (.t 11)]
def rQSX5 : List O := [
 oo 12 <| .mv (.t 3),
 oo 13 <| .mv (.t 5),
 oo 14 <| .call nQ4 [(.t 12), (.t 13)],
 oo 3 <| .mv (.t 14)]
def rQSX6 : List O := [
 oo 15 <| .bin .add (.t 8) (ki 1),
 oo 8 <| .mv (.t 15)]
def lQSX0 : C := (.seq (.reg rQSX3 false [] [3, 6, 7, 8, 9]) (.seq (.cond (.t 9) .skip (.exit 0)) (.seq (.blk 1 (.seq (.reg rQSX4 false [] [3, 5, 6, 7, 8]) (.reg rQSX5 false [] [3, 6, 7, 8]))) (.reg rQSX6 false [] [3, 6, 7, 8]))))
def rQSX7 : List O := [
 oo 16 <| .mv (.t 3),
 oo 2 <| .mv (.t 16)]
def cQS : C := (.seq (.reg rQSX0 false [] [0]) (.seq (.reg rQSX1 false [] [0, 3]) (.seq (.seq (.reg rQSX2 false [] [3, 6, 7, 8]) (.blk 0 (.loop lQSX0))) (.seq (.reg rQSX7 false [] [2]) .ret))))
def qQS : AFn := ⟨17, 1, [.t 2], cQS⟩
/- cohesion/nodeset.Valid -/
def rQTX0 : List O := [
 oo 4 <| .mv (.k (.bool false))]
def rQTX1 : List O := [
 oo 7 <| .mv (.t 0),
 oo 8 <| .len (.t 7),
 oo 9 <| .mv (ki 0)]
def rQTX2 : List O := [
 oo 10 <| .bin .lss (.t 9) (.t 8)]
def rQTX3 : List O := [
 oo 11 <| .mv (.t 9),
 oo 12 <| .ixa 1 (.t 7) (.t 9),
 oo 13 <| .ld none (.t 12),
 oo 5 <| .mv (.t 11),
 oo 6 <| .mv (.t 13)]
def rQTX4 : List O := [
 oo 14 <| .mv (.t 6),
 oo 15 <| .bin .lss (.t 14) (ki 0),
 oo 16 <| .mv (.t 15),
 ⟨(some 17), (some (16, false)), .mv (.t 6)⟩,
 ⟨(some 18), (some (16, false)), .mv (.t 1)⟩,
 ⟨(some 19), (some (16, false)), .bin .geq (.t 17) (.t 18)⟩,
 oo 20 <| .pick (.t 16) (.k (.bool true)) (.t 19),
 oo 21 <| .mv (.t 20),
 ⟨(some 22), (some (21, false)), .mv (.t 5)⟩,
 ⟨(some 23), (some (21, false)), .bin .gtr (.t 22) (ki 0)⟩,
 ⟨(some 24), (some (21, false)), .mv (.t 23)⟩,
 ⟨(some 25), (some (24, true)), .mv (.t 0)⟩,
 ⟨(some 26), (some (24, true)), .mv (.t 5)⟩,
 ⟨(some 27), (some (24, true)), .bin .sub (.t 26) (ki 1)⟩,
 ⟨(some 28), (some (24, true)), .ixa 1 (.t 25) (.t 27)⟩,
 ⟨(some 29), (some (24, true)), .ld none (.t 28)⟩,
 ⟨(some 30), (some (24, true)), .mv (.t 6)⟩,
 ⟨(some 31), (some (24, true)), .bin .geq (.t 29) (.t 30)⟩,
 ⟨(some 32), (some (21, false)), .pick (.t 24) (.t 31) (.k (.bool false))⟩,
 oo 33 <| .pick (.t 21) (.k (.bool true)) (.t 32)]
def rQTX5 : List O := [
 oo 4 <| .mv (.k (.bool false))]
def rQTX6 : List O := [
 oo 34 <| .bin .add (.t 9) (ki 1),
 oo 9 <| .mv (.t 34)]
def lQTX0 : C := (.seq (.reg rQTX2 false [] [0, 1, 7, 8, 9, 10]) (.seq (.cond (.t 10) .skip (.exit 0)) (.seq (.blk 1 (.seq (.reg rQTX3 false [] [0, 1, 5, 6, 7, 8, 9]) (.seq (.reg rQTX4 false [] [0, 1, 7, 8, 9, 33]) (.cond (.t 33) (.seq (.reg rQTX5 false [] [4]) .ret) .skip)))) (.reg rQTX6 false [] [0, 1, 7, 8, 9]))))
def rQTX7 : List O := [
 oo 4 <| .mv (.k (.bool true))]
def cQT : C := (.seq (.reg rQTX0 false [] [0, 1]) (.seq (.seq (.reg rQTX1 false [] [0, 1, 7, 8, 9]) (.blk 0 (.loop lQTX0))) (.seq (.reg rQTX7 false [] [4]) .ret)))
def qQT : AFn := ⟨35, 2, [.t 4], cQT⟩
/- slices.ContainsFunc[[]int,int] -/
def rQUX0 : List O := [
 oo 4 <| .mv (.k (.bool false))]
def rQUX1 : List O := [
 oo 5 <| .mv (.t 0),
 oo 6 <| .mv (.t 1),
 oo 7 <| .call nQQ [(.t 5), (.t 6)],
 oo 8 <| .bin .geq (.t 7) (ki 0),
 oo 4 <| .mv (.t 8)]
def cQU : C := (.seq (.reg rQUX0 false [] [0, 1]) (.seq (.reg rQUX1 false [] [4]) .ret))
def qQU : AFn := ⟨9, 2, [.t 4], cQU⟩
/- cohesion/partition.Check$1 -/
def rQVX0 : List O := [
 oo 3 <| .mv (.k (.bool false))]
def rQVX1 : List O := [
 oo 4 <| .mv (.t 0),
 oo 5 <| .bin .lss (.t 4) (ki 0),
 oo 6 <| .mv (.t 5),
 ⟨(some 7), (some (6, false)), .mv (.t 0)⟩,
 ⟨(some 8), (some (6, false)), .fad 0 (.t 1)⟩,
 ⟨(some 9), (some (6, false)), .ld none (.t 8)⟩,
 ⟨(some 10), (some (6, false)), .bin .geq (.t 7) (.t 9)⟩,
 oo 11 <| .pick (.t 6) (.k (.bool true)) (.t 10),
 oo 3 <| .mv (.t 11)]
def cQV : C := (.seq (.reg rQVX0 false [] [0, 1]) (.seq (.reg rQVX1 false [] [3]) .ret))
def qQV : AFn := ⟨12, 1, [.t 3], cQV⟩
/- cohesion/graph.Order -/
def rQWX0 : List O := [
 oo 2 <| .box (.t 0),
 oo 3 <| .box (.t 1),
 oo 4 <| .mv (ki 0)]
def rQWX1 : List O := [
 oo 5 <| .fad 0 (.t 2),
 oo 6 <| .ld none (.t 5),
 oo 7 <| .fad 0 (.t 3),
 oo 8 <| .ld none (.t 7),
 oo 9 <| .call nQD [(.t 6), (.t 8)],
 oo 10 <| .fad 1 (.t 2),
 oo 11 <| .ld none (.t 10),
 oo 12 <| .fad 1 (.t 3),
 oo 13 <| .ld none (.t 12),
 oo 14 <| .call nQD [(.t 11), (.t 13)],
 oo 15 <| .bslice 1 2 [(.int .i64 0)] [(0, 1, (.t 9)), (1, 1, (.t 14))],
 oo 16 <| .call nQC [(.t 15)],
 oo 4 <| .mv (.t 16)]
def cQW : C := (.seq (.reg rQWX0 false [] [2, 3]) (.seq (.reg rQWX1 true [(9, 9), (10, 10), (11, 11), (12, 12), (1, 2), (0, 3), (1, 3), (1, 5), (3, 5), (4, 5), (0, 6), (1, 6), (2, 6), (3, 6), (4, 6), (1, 7), (3, 7), (4, 7), (6, 7), (0, 8), (1, 8), (2, 8), (3, 8), (4, 8), (5, 8), (6, 8)] [4]) .ret))
def qQW : AFn := ⟨17, 2, [.t 4], cQW⟩
/- cmp.isNaN[int] -/
def rQXX0 : List O := [
 oo 2 <| .mv (.k (.bool false))]
def rQXX1 : List O := [
 oo 3 <| .mv (.t 0),
 oo 4 <| .mv (.t 0),
 oo 5 <| .bin .neq (.t 3) (.t 4),
 oo 2 <| .mv (.t 5)]
def cQX : C := (.seq (.reg rQXX0 false [] [0]) (.seq (.reg rQXX1 false [] [2]) .ret))
def qQX : AFn := ⟨6, 1, [.t 2], cQX⟩
/- cohesion/masks.Rows -/
def rQYX0 : List O := [
 oo 1 <| .box (.t 0),
 oo 2 <| .mv (.k (.own 1 []))]
def rQYX1 : List O := [
 oo 6 <| .fad 0 (.t 1),
 oo 7 <| .ld none (.t 6),
 oo 8 <| .max [(.t 7), (ki 0)],
 oo 9 <| .min [(.t 8), (ki 64)],
 oo 10 <| .mks 1 [(.int .u64 0)] (.t 9) (.t 9),
 oo 3 <| .mv (.t 10)]
def rQYX2 : List O := [
 oo 11 <| .fad 1 (.t 1),
 oo 12 <| .ld none (.t 11),
 oo 13 <| .len (.t 12),
 oo 14 <| .mv (ki 0)]
def rQYX3 : List O := [
 oo 15 <| .bin .lss (.t 14) (.t 13)]
def rQYX4 : List O := [
 oo 16 <| .ixa 2 (.t 12) (.t 14),
 oo 17 <| .ld (some 2) (.t 16),
 oo 5 <| .new [(.int .i64 0), (.int .i64 0)],
 oz <| .st 2 (.t 5) (.t 17)]
def rQYX5 : List O := [
 oo 18 <| .fad 0 (.t 5),
 oo 19 <| .ld none (.t 18),
 oo 20 <| .bin .geq (.t 19) (ki 0),
 oo 21 <| .mv (.t 20),
 ⟨(some 22), (some (21, true)), .fad 0 (.t 5)⟩,
 ⟨(some 23), (some (21, true)), .ld none (.t 22)⟩,
 ⟨(some 24), (some (21, true)), .fad 1 (.t 5)⟩,
 ⟨(some 25), (some (21, true)), .ld none (.t 24)⟩,
 ⟨(some 26), (some (21, true)), .bin .lss (.t 23) (.t 25)⟩,
 oo 27 <| .pick (.t 21) (.t 26) (.k (.bool false)),
 oo 28 <| .mv (.t 27),
 ⟨(some 29), (some (28, true)), .fad 1 (.t 5)⟩,
 ⟨(some 30), (some (28, true)), .ld none (.t 29)⟩,
 ⟨(some 31), (some (28, true)), .mv (.t 3)⟩,
 ⟨(some 32), (some (28, true)), .len (.t 31)⟩,
 ⟨(some 33), (some (28, true)), .bin .lss (.t 30) (.t 32)⟩,
 oo 34 <| .pick (.t 28) (.t 33) (.k (.bool false))]
def rQYX6 : List O := [
 oo 35 <| .mv (.t 3),
 oo 36 <| .fad 0 (.t 5),
 oo 37 <| .ld none (.t 36),
 oo 38 <| .ixa 1 (.t 35) (.t 37),
 oo 39 <| .ld none (.t 38),
 oo 40 <| .fad 1 (.t 5),
 oo 41 <| .ld none (.t 40),
 oo 42 <| .bin .shl (.k (.int .u64 1)) (.t 41),
 oo 43 <| .bin .or (.t 39) (.t 42),
 oo 44 <| .ixa 1 (.t 35) (.t 37),
 oz <| .st 1 (.t 44) (.t 43)]
def rQYX7 : List O := [
 oo 45 <| .mv (.t 3),
 oo 46 <| .fad 1 (.t 5),
 oo 47 <| .ld none (.t 46),
 oo 48 <| .ixa 1 (.t 45) (.t 47),
 oo 49 <| .ld none (.t 48),
 oo 50 <| .fad 0 (.t 5),
 oo 51 <| .ld none (.t 50),
 oo 52 <| .bin .shl (.k (.int .u64 1)) (.t 51),
 oo 53 <| .bin .or (.t 49) (.t 52),
 oo 54 <| .ixa 1 (.t 45) (.t 47),
 oz <| .st 1 (.t 54) (.t 53)]
def rQYX8 : List O := [
 oo 55 <| .bin .add (.t 14) (ki 1),
 oo 14 <| .mv (.t 55)]
def lQYX0 : C := (.seq (.reg rQYX3 false [] [3, 12, 13, 14, 15]) (.seq (.cond (.t 15) .skip (.exit 0)) (.seq (.blk 1 (.seq (.reg rQYX4 false [] [3, 5, 12, 13, 14]) (.seq (.reg rQYX5 false [] [3, 5, 12, 13, 14, 34]) (.cond (.t 34) (.seq (.reg rQYX6 true [(8, 8), (9, 9), (10, 10), (0, 2), (2, 5), (4, 5), (0, 6), (1, 6), (2, 6), (3, 6), (4, 6), (2, 7), (4, 7)] [3, 5, 12, 13, 14]) (.reg rQYX7 true [(8, 8), (9, 9), (10, 10), (0, 2), (2, 5), (4, 5), (0, 6), (1, 6), (2, 6), (3, 6), (4, 6), (2, 7), (4, 7)] [3, 12, 13, 14])) .skip)))) (.reg rQYX8 false [] [3, 12, 13, 14]))))
def rQYX9 : List O := [
 oo 56 <| .mv (.t 3),
 oo 2 <| .mv (.t 56)]
def cQY : C := (.seq (.reg rQYX0 false [] [1]) (.seq (.reg rQYX1 false [] [1, 3]) (.seq (.seq (.reg rQYX2 false [] [3, 12, 13, 14]) (.blk 0 (.loop lQYX0))) (.seq (.reg rQYX9 false [] [2]) .ret))))
def qQY : AFn := ⟨57, 1, [.t 2], cQY⟩
/- cohesion/masks.Count -/
def rQZX0 : List O := [
 oo 2 <| .mv (ki 0)]
def rQZX1 : List O := [
 oo 3 <| .mv (.t 0),
 oo 4 <| .call nQ5 [(.t 3)],
 oo 2 <| .mv (.t 4)]
def cQZ : C := (.seq (.reg rQZX0 false [] [0]) (.seq (.reg rQZX1 false [] [2]) .ret))
def qQZ : AFn := ⟨5, 1, [.t 2], cQZ⟩
/- slices.Contains[[]int,int] -/
def rQ0X0 : List O := [
 oo 4 <| .mv (.k (.bool false))]
def rQ0X1 : List O := [
 oo 5 <| .mv (.t 0),
 oo 6 <| .mv (.t 1),
 oo 7 <| .call nQ6 [(.t 5), (.t 6)],
 oo 8 <| .bin .geq (.t 7) (ki 0),
 oo 4 <| .mv (.t 8)]
def cQ0 : C := (.seq (.reg rQ0X0 false [] [0, 1]) (.seq (.reg rQ0X1 false [] [4]) .ret))
def qQ0 : AFn := ⟨9, 2, [.t 4], cQ0⟩
/- cohesion/nodeset.merged[int] -/
def rQ1X0 : List O := [
 oo 6 <| .mv (.k (.own 1 []))]
def rQ1X1 : List O := [
 oo 11 <| .mv (.t 0),
 oo 12 <| .call nQ7 [(.t 11)],
 oo 13 <| .mv (.t 1),
 oo 14 <| .call nQ7 [(.t 13)],
 oo 0 <| .mv (.t 12),
 oo 1 <| .mv (.t 14)]
def rQ1X2 : List O := [
 oo 15 <| .mv (.t 0),
 oo 16 <| .call nQ8 [(.t 15)]]
def rQ1X3 : List O := [
 oo 17 <| .mv (.t 1),
 oo 18 <| .call nQ8 [(.t 17)]]
def rQ1X4 : List O := [
 oo 19 <| .mv (.t 0),
 oo 20 <| .call nQ9 [(.t 19)],
 oo 21 <| .mv (.t 1),
 oo 22 <| .call nQ9 [(.t 21)],
 oo 0 <| .mv (.t 20),
 oo 1 <| .mv (.t 22)]
def rQ1X5 : List O := [
 oo 7 <| .mv (.k (.own 1 []))]
def rQ1X6 : List O := [
 oo 23 <| .mv (.t 0),
 oo 24 <| .len (.t 23),
 oo 25 <| .bin .gtr (.t 24) (ki 0),
 oo 26 <| .mv (.t 25),
 ⟨(some 27), (some (26, false)), .mv (.t 1)⟩,
 ⟨(some 28), (some (26, false)), .len (.t 27)⟩,
 ⟨(some 29), (some (26, false)), .bin .gtr (.t 28) (ki 0)⟩,
 oo 30 <| .pick (.t 26) (.k (.bool true)) (.t 29)]
def rQ1X7 : List O := [
 oo 31 <| .mv (.t 1),
 oo 32 <| .len (.t 31),
 oo 33 <| .bin .eql (.t 32) (ki 0),
 oo 34 <| .mv (.t 33),
 ⟨(some 35), (some (34, false)), .mv (.t 0)⟩,
 ⟨(some 36), (some (34, false)), .len (.t 35)⟩,
 ⟨(some 37), (some (34, false)), .bin .gtr (.t 36) (ki 0)⟩,
 ⟨(some 38), (some (34, false)), .mv (.t 37)⟩,
 ⟨(some 39), (some (38, true)), .mv (.t 0)⟩,
 ⟨(some 40), (some (38, true)), .ixa 1 (.t 39) (ki 0)⟩,
 ⟨(some 41), (some (38, true)), .ld none (.t 40)⟩,
 ⟨(some 42), (some (38, true)), .mv (.t 1)⟩,
 ⟨(some 43), (some (38, true)), .ixa 1 (.t 42) (ki 0)⟩,
 ⟨(some 44), (some (38, true)), .ld none (.t 43)⟩,
 ⟨(some 45), (some (38, true)), .bin .leq (.t 41) (.t 44)⟩,
 ⟨(some 46), (some (34, false)), .pick (.t 38) (.t 45) (.k (.bool false))⟩,
 oo 47 <| .pick (.t 34) (.k (.bool true)) (.t 46),
 oo 8 <| .mv (.t 47)]
def rQ1X8 : List O := [
 oo 48 <| .mv (.t 0),
 oo 49 <| .len (.t 48),
 oo 50 <| .bin .eql (.t 49) (ki 0),
 oo 51 <| .mv (.t 50),
 ⟨(some 52), (some (51, false)), .mv (.t 1)⟩,
 ⟨(some 53), (some (51, false)), .len (.t 52)⟩,
 ⟨(some 54), (some (51, false)), .bin .gtr (.t 53) (ki 0)⟩,
 ⟨(some 55), (some (51, false)), .mv (.t 54)⟩,
 ⟨(some 56), (some (55, true)), .mv (.t 1)⟩,
 ⟨(some 57), (some (55, true)), .ixa 1 (.t 56) (ki 0)⟩,
 ⟨(some 58), (some (55, true)), .ld none (.t 57)⟩,
 ⟨(some 59), (some (55, true)), .mv (.t 0)⟩,
 ⟨(some 60), (some (55, true)), .ixa 1 (.t 59) (ki 0)⟩,
 ⟨(some 61), (some (55, true)), .ld none (.t 60)⟩,
 ⟨(some 62), (some (55, true)), .bin .leq (.t 58) (.t 61)⟩,
 ⟨(some 63), (some (51, false)), .pick (.t 55) (.t 62) (.k (.bool false))⟩,
 oo 64 <| .pick (.t 51) (.k (.bool true)) (.t 63),
 oo 9 <| .mv (.t 64)]
def rQ1X9 : List O := [
 oo 10 <| .mv (ki 0)]
def rQ1X10 : List O := [
 oo 65 <| .mv (.t 8)]
def rQ1X11 : List O := [
 oo 66 <| .mv (.t 0),
 oo 67 <| .ixa 1 (.t 66) (ki 0),
 oo 68 <| .ld none (.t 67),
 oo 69 <| .mv (.t 0),
 oo 70 <| .slc 1 (.t 69) (some (ki 1)) none,
 oo 10 <| .mv (.t 68),
 oo 0 <| .mv (.t 70)]
def rQ1X12 : List O := [
 oo 71 <| .mv (.t 9)]
def rQ1X13 : List O := [
 oo 72 <| .mv (.t 1),
 oo 73 <| .ixa 1 (.t 72) (ki 0),
 oo 74 <| .ld none (.t 73),
 oo 75 <| .mv (.t 1),
 oo 76 <| .slc 1 (.t 75) (some (ki 1)) none,
 oo 10 <| .mv (.t 74),
 oo 1 <| .mv (.t 76)]
def rQ1X14 : List O := [
 oo 77 <| .mv (.t 2),
 oo 78 <| .mv (.t 8),
 oo 79 <| .mv (.t 9),
 oo 80 <| .callv (.t 77) [(.t 78), (.t 79)]]
def rQ1X15 : List O := [
 oo 81 <| .mv (.t 7),
 oo 82 <| .mv (.t 10),
 oo 83 <| .bslice 1 1 [(.int .i64 0)] [(0, 1, (.t 82))],
 oo 84 <| .app 1 (.t 81) (.t 83),
 oo 7 <| .mv (.t 84)]
def lQ1X0 : C := (.seq (.seq (.reg rQ1X6 false [] [0, 1, 2, 7, 30]) (.cond (.t 30) .skip (.exit 0))) (.blk 1 (.seq (.reg rQ1X7 true [(0, 0), (1, 1), (2, 2), (3, 3), (4, 4), (5, 5), (6, 6), (7, 7), (14, 14), (15, 15), (16, 16), (17, 17), (10, 11), (10, 12), (8, 13), (9, 13), (10, 13)] [0, 1, 2, 7, 8]) (.seq (.reg rQ1X8 true [(0, 0), (1, 1), (2, 2), (3, 3), (4, 4), (5, 5), (6, 6), (7, 7), (14, 14), (15, 15), (16, 16), (17, 17), (10, 11), (10, 12), (8, 13), (9, 13), (10, 13)] [0, 1, 2, 7, 8, 9]) (.seq (.reg rQ1X9 false [] [0, 1, 2, 7, 8, 9, 10]) (.seq (.seq (.reg rQ1X10 false [] [0, 1, 2, 7, 8, 9, 10, 65]) (.cond (.t 65) (.reg rQ1X11 true [(6, 6), (2, 3), (2, 4)] [0, 1, 2, 7, 8, 9, 10]) .skip)) (.seq (.seq (.reg rQ1X12 false [] [0, 1, 2, 7, 8, 9, 10, 71]) (.cond (.t 71) (.reg rQ1X13 true [(6, 6), (2, 3), (2, 4)] [0, 1, 2, 7, 8, 9, 10]) .skip)) (.seq (.reg rQ1X14 false [] [0, 1, 2, 7, 10, 80]) (.cond (.t 80) (.reg rQ1X15 false [] [0, 1, 2, 7]) .skip)))))))))
def rQ1X16 : List O := [
 oo 85 <| .mv (.t 7),
 oo 6 <| .mv (.t 85)]
def cQ1 : C := (.seq (.reg rQ1X0 false [] [0, 1, 2]) (.seq (.reg rQ1X1 false [] [0, 1, 2]) (.seq (.reg rQ1X2 false [] [0, 1, 2]) (.seq (.reg rQ1X3 false [] [0, 1, 2]) (.seq (.reg rQ1X4 false [] [0, 1, 2]) (.seq (.reg rQ1X5 false [] [0, 1, 2, 7]) (.seq (.blk 0 (.loop lQ1X0)) (.seq (.reg rQ1X16 false [] [6]) .ret))))))))
def qQ1 : AFn := ⟨86, 3, [.t 6], cQ1⟩
/- cohesion/nodeset.Union$1 -/
def rQ2X0 : List O := [
 oo 4 <| .mv (.k (.bool false))]
def rQ2X1 : List O := [
 oo 4 <| .mv (.k (.bool true))]
def cQ2 : C := (.seq (.reg rQ2X0 false [] []) (.seq (.reg rQ2X1 false [] [4]) .ret))
def qQ2 : AFn := ⟨5, 2, [.t 4], cQ2⟩
/- cohesion/cohesionref03.Before -/
def rQ3X0 : List O := [
 oo 2 <| .box (.t 0),
 oo 3 <| .box (.t 1),
 oo 4 <| .mv (.k (.bool false))]
def rQ3X1 : List O := [
 oo 5 <| .fad 0 (.t 2),
 oo 6 <| .ld none (.t 5),
 oo 7 <| .fad 0 (.t 3),
 oo 8 <| .ld none (.t 7),
 oo 9 <| .bin .lss (.t 6) (.t 8),
 oo 10 <| .mv (.t 9),
 ⟨(some 11), (some (10, false)), .fad 0 (.t 2)⟩,
 ⟨(some 12), (some (10, false)), .ld none (.t 11)⟩,
 ⟨(some 13), (some (10, false)), .fad 0 (.t 3)⟩,
 ⟨(some 14), (some (10, false)), .ld none (.t 13)⟩,
 ⟨(some 15), (some (10, false)), .bin .eql (.t 12) (.t 14)⟩,
 ⟨(some 16), (some (10, false)), .mv (.t 15)⟩,
 ⟨(some 17), (some (16, true)), .fad 1 (.t 2)⟩,
 ⟨(some 18), (some (16, true)), .ld none (.t 17)⟩,
 ⟨(some 19), (some (16, true)), .fad 1 (.t 3)⟩,
 ⟨(some 20), (some (16, true)), .ld none (.t 19)⟩,
 ⟨(some 21), (some (16, true)), .bin .lss (.t 18) (.t 20)⟩,
 ⟨(some 22), (some (10, false)), .pick (.t 16) (.t 21) (.k (.bool false))⟩,
 oo 23 <| .pick (.t 10) (.k (.bool true)) (.t 22),
 oo 4 <| .mv (.t 23)]
def cQ3 : C := (.seq (.reg rQ3X0 false [] [2, 3]) (.seq (.reg rQ3X1 false [] [4]) .ret))
def qQ3 : AFn := ⟨24, 2, [.t 4], cQ3⟩
/- cohesion/cohesionref02.put -/
def rQ4X0 : List O := [
 oo 4 <| .mv (.k (.own 1 []))]
def rQ4X1 : List O := [
 oo 5 <| .mv (ki 0)]
def rQ4X2 : List O := [
 oo 7 <| .mv (.t 5),
 oo 8 <| .mv (.t 0),
 oo 9 <| .len (.t 8),
 oo 10 <| .bin .lss (.t 7) (.t 9),
 oo 11 <| .mv (.t 10),
 ⟨(some 12), (some (11, true)), .mv (.t 0)⟩,
 ⟨(some 13), (some (11, true)), .mv (.t 5)⟩,
 ⟨(some 14), (some (11, true)), .ixa 1 (.t 12) (.t 13)⟩,
 ⟨(some 15), (some (11, true)), .ld none (.t 14)⟩,
 ⟨(some 16), (some (11, true)), .mv (.t 1)⟩,
 ⟨(some 17), (some (11, true)), .bin .lss (.t 15) (.t 16)⟩,
 oo 18 <| .pick (.t 11) (.t 17) (.k (.bool false))]
def rQ4X3 : List O := [
 oo 19 <| .mv (.t 5),
 oo 20 <| .bin .add (.t 19) (ki 1),
 oo 5 <| .mv (.t 20)]
def lQ4X0 : C := (.seq (.seq (.reg rQ4X2 false [] [0, 1, 5, 18]) (.cond (.t 18) .skip (.exit 0))) (.blk 1 (.reg rQ4X3 false [] [0, 1, 5])))
def rQ4X4 : List O := [
 oo 21 <| .mv (.t 5),
 oo 22 <| .mv (.t 0),
 oo 23 <| .len (.t 22),
 oo 24 <| .bin .lss (.t 21) (.t 23),
 oo 25 <| .mv (.t 24),
 ⟨(some 26), (some (25, true)), .mv (.t 0)⟩,
 ⟨(some 27), (some (25, true)), .mv (.t 5)⟩,
 ⟨(some 28), (some (25, true)), .ixa 1 (.t 26) (.t 27)⟩,
 ⟨(some 29), (some (25, true)), .ld none (.t 28)⟩,
 ⟨(some 30), (some (25, true)), .mv (.t 1)⟩,
 ⟨(some 31), (some (25, true)), .bin .eql (.t 29) (.t 30)⟩,
 oo 32 <| .pick (.t 25) (.t 31) (.k (.bool false))]
def rQ4X5 : List O := [
 oo 33 <| .mv (.t 0),
 oo 4 <| .mv (.t 33)]
def rQ4X6 : List O := [
 oo 34 <| .mv (.t 0),
 oo 35 <| .mv (.t 5),
 oo 36 <| .slc 1 (.t 34) none (some (.t 35)),
 oo 37 <| .app 1 (.k (.own 1 [])) (.t 36),
 oo 6 <| .mv (.t 37)]
def rQ4X7 : List O := [
 oo 38 <| .mv (.t 6),
 oo 39 <| .mv (.t 1),
 oo 40 <| .bslice 1 1 [(.int .i64 0)] [(0, 1, (.t 39))],
 oo 41 <| .app 1 (.t 38) (.t 40),
 oo 42 <| .mv (.t 0),
 oo 43 <| .mv (.t 5),
 oo 44 <| .slc 1 (.t 42) (some (.t 43)) none,
 oo 45 <| .app 1 (.t 41) (.t 44),
 oo 4 <| .mv (.t 45)]
def cQ4 : C := (.seq (.reg rQ4X0 false [] [0, 1]) (.seq (.reg rQ4X1 false [] [0, 1, 5]) (.seq (.blk 0 (.loop lQ4X0)) (.seq (.seq (.reg rQ4X4 false [] [0, 1, 5, 32]) (.cond (.t 32) (.seq (.reg rQ4X5 false [] [4]) .ret) .skip)) (.seq (.reg rQ4X6 false [] [0, 1, 5, 6]) (.seq (.reg rQ4X7 true [(7, 7), (8, 8), (0, 2), (2, 4), (3, 4), (2, 5), (3, 5), (2, 6), (3, 6)] [4]) .ret))))))
def qQ4 : AFn := ⟨46, 2, [.t 4], cQ4⟩
/- math/bits.OnesCount64 -/
def rQ5X0 : List O := [
 oo 2 <| .mv (ki 0)]
def rQ5X1 : List O := [
 oo 3 <| .mv (.t 0),
 oo 4 <| .bin .shr (.t 3) (.k (.int .u64 1)),
 oo 5 <| .bin .and (.t 4) (.k (.int .u64 6148914691236517205)),
 oo 6 <| .mv (.t 0),
 oo 7 <| .bin .and (.t 6) (.k (.int .u64 6148914691236517205)),
 oo 8 <| .bin .add (.t 5) (.t 7),
 oo 0 <| .mv (.t 8)]
def rQ5X2 : List O := [
 oo 9 <| .mv (.t 0),
 oo 10 <| .bin .shr (.t 9) (.k (.int .u64 2)),
 oo 11 <| .bin .and (.t 10) (.k (.int .u64 3689348814741910323)),
 oo 12 <| .mv (.t 0),
 oo 13 <| .bin .and (.t 12) (.k (.int .u64 3689348814741910323)),
 oo 14 <| .bin .add (.t 11) (.t 13),
 oo 0 <| .mv (.t 14)]
def rQ5X3 : List O := [
 oo 15 <| .mv (.t 0),
 oo 16 <| .bin .shr (.t 15) (.k (.int .u64 4)),
 oo 17 <| .mv (.t 0),
 oo 18 <| .bin .add (.t 16) (.t 17),
 oo 19 <| .bin .and (.t 18) (.k (.int .u64 1085102592571150095)),
 oo 0 <| .mv (.t 19)]
def rQ5X4 : List O := [
 oo 20 <| .mv (.t 0),
 oo 21 <| .mv (.t 0),
 oo 22 <| .bin .shr (.t 21) (.k (.int .u64 8)),
 oo 23 <| .bin .add (.t 20) (.t 22),
 oo 0 <| .mv (.t 23)]
def rQ5X5 : List O := [
 oo 24 <| .mv (.t 0),
 oo 25 <| .mv (.t 0),
 oo 26 <| .bin .shr (.t 25) (.k (.int .u64 16)),
 oo 27 <| .bin .add (.t 24) (.t 26),
 oo 0 <| .mv (.t 27)]
def rQ5X6 : List O := [
 oo 28 <| .mv (.t 0),
 oo 29 <| .mv (.t 0),
 oo 30 <| .bin .shr (.t 29) (.k (.int .u64 32)),
 oo 31 <| .bin .add (.t 28) (.t 30),
 oo 0 <| .mv (.t 31)]
def rQ5X7 : List O := [
 oo 32 <| .mv (.t 0),
 oo 33 <| .cvt .i64 (.t 32),
 oo 34 <| .bin .and (.t 33) (ki 127),
 oo 2 <| .mv (.t 34)]
def cQ5 : C := (.seq (.reg rQ5X0 false [] [0]) (.seq (.reg rQ5X1 false [] [0]) (.seq (.reg rQ5X2 false [] [0]) (.seq (.reg rQ5X3 false [] [0]) (.seq (.reg rQ5X4 false [] [0]) (.seq (.reg rQ5X5 false [] [0]) (.seq (.reg rQ5X6 false [] [0]) (.seq (.reg rQ5X7 false [] [2]) .ret))))))))
def qQ5 : AFn := ⟨35, 1, [.t 2], cQ5⟩
/- slices.Index[[]int,int] -/
def rQ6X0 : List O := [
 oo 4 <| .mv (ki 0)]
def rQ6X1 : List O := [
 oo 6 <| .mv (.t 0),
 oo 7 <| .len (.t 6),
 oo 8 <| .mv (ki 0)]
def rQ6X2 : List O := [
 oo 9 <| .bin .lss (.t 8) (.t 7)]
def rQ6X3 : List O := [
 oo 10 <| .mv (.t 8),
 oo 5 <| .mv (.t 10)]
def rQ6X4 : List O := [
 oo 11 <| .mv (.t 1),
 oo 12 <| .mv (.t 0),
 oo 13 <| .mv (.t 5),
 oo 14 <| .ixa 1 (.t 12) (.t 13),
 oo 15 <| .ld none (.t 14),
 oo 16 <| .bin .eql (.t 11) (.t 15)]
def rQ6X5 : List O := [
 oo 17 <| .mv (.t 5),
 oo 4 <| .mv (.t 17)]
def rQ6X6 : List O := [
 oo 18 <| .bin .add (.t 8) (ki 1),
 oo 8 <| .mv (.t 18)]
def lQ6X0 : C := (.seq (.reg rQ6X2 false [] [0, 1, 7, 8, 9]) (.seq (.cond (.t 9) .skip (.exit 0)) (.seq (.blk 1 (.seq (.reg rQ6X3 false [] [0, 1, 5, 7, 8]) (.seq (.reg rQ6X4 false [] [0, 1, 5, 7, 8, 16]) (.cond (.t 16) (.seq (.reg rQ6X5 false [] [4]) .ret) .skip)))) (.reg rQ6X6 false [] [0, 1, 7, 8]))))
def rQ6X7 : List O := [
 oo 4 <| .mv (.k (.int .i64 (-1)))]
def cQ6 : C := (.seq (.reg rQ6X0 false [] [0, 1]) (.seq (.seq (.reg rQ6X1 false [] [0, 1, 7, 8]) (.blk 0 (.loop lQ6X0))) (.seq (.reg rQ6X7 false [] [4]) .ret)))
def qQ6 : AFn := ⟨19, 2, [.t 4], cQ6⟩
/- slices.Clone[[]int,int] -/
def rQ7X0 : List O := [
 oo 2 <| .mv (.k (.own 1 []))]
def rQ7X1 : List O := [
 oo 3 <| .mv (.t 0),
 oo 4 <| .eq false .nsl (.t 3) (.k (.own 1 []))]
def rQ7X2 : List O := [
 oo 2 <| .mv (.k (.own 1 []))]
def rQ7X3 : List O := [
 oo 5 <| .bslice 1 0 [(.int .i64 0)] [],
 oo 6 <| .mv (.t 0),
 oo 7 <| .app 1 (.t 5) (.t 6),
 oo 2 <| .mv (.t 7)]
def cQ7 : C := (.seq (.reg rQ7X0 false [] [0]) (.seq (.seq (.reg rQ7X1 false [] [0, 4]) (.cond (.t 4) (.seq (.reg rQ7X2 false [] [2]) .ret) .skip)) (.seq (.reg rQ7X3 false [] [2]) .ret)))
def qQ7 : AFn := ⟨8, 1, [.t 2], cQ7⟩
/- slices.Sort[[]int,int] -/
def rQ8X0 : List O := [
 oo 3 <| .mv (.t 0),
 oo 4 <| .len (.t 3),
 oo 2 <| .mv (.t 4)]
def rQ8X1 : List O := [
 oo 5 <| .mv (.t 0),
 oo 6 <| .mv (.t 2),
 oo 7 <| .mv (.t 2),
 oo 8 <| .cvt .u64 (.t 7),
 oo 9 <| .call 53 [(.t 8)],
 oo 10 <| .call 94 [(.t 5), (ki 0), (.t 6), (.t 9)]]
def cQ8 : C := (.seq (.reg rQ8X0 false [] [0, 2]) (.reg rQ8X1 false [] []))
def qQ8 : AFn := ⟨11, 1, [], cQ8⟩
/- slices.Compact[[]int,int] -/
def rQ9X0 : List O := [
 oo 2 <| .mv (.k (.own 1 []))]
def rQ9X1 : List O := [
 oo 6 <| .mv (.t 0),
 oo 7 <| .len (.t 6),
 oo 8 <| .bin .lss (.t 7) (ki 2)]
def rQ9X2 : List O := [
 oo 9 <| .mv (.t 0),
 oo 2 <| .mv (.t 9)]
def rQ9X3 : List O := [
 oo 3 <| .mv (ki 1)]
def rQ9X4 : List O := [
 oo 10 <| .mv (.t 3),
 oo 11 <| .mv (.t 0),
 oo 12 <| .len (.t 11),
 oo 13 <| .bin .lss (.t 10) (.t 12)]
def rQ9X5 : List O := [
 oo 16 <| .mv (.t 0),
 oo 17 <| .mv (.t 3),
 oo 18 <| .ixa 1 (.t 16) (.t 17),
 oo 19 <| .ld none (.t 18),
 oo 20 <| .mv (.t 0),
 oo 21 <| .mv (.t 3),
 oo 22 <| .bin .sub (.t 21) (ki 1),
 oo 23 <| .ixa 1 (.t 20) (.t 22),
 oo 24 <| .ld none (.t 23),
 oo 25 <| .bin .eql (.t 19) (.t 24)]
def rQ9X6 : List O := [
 oo 26 <| .mv (.t 0),
 oo 27 <| .mv (.t 3),
 oo 28 <| .slc 1 (.t 26) (some (.t 27)) none,
 oo 4 <| .mv (.t 28)]
def rQ9X7 : List O := [
 oo 5 <| .mv (ki 1)]
def rQ9X8 : List O := [
 oo 29 <| .mv (.t 5),
 oo 30 <| .mv (.t 4),
 oo 31 <| .len (.t 30),
 oo 32 <| .bin .lss (.t 29) (.t 31)]
def rQ9X9 : List O := [
 oo 35 <| .mv (.t 4),
 oo 36 <| .mv (.t 5),
 oo 37 <| .ixa 1 (.t 35) (.t 36),
 oo 38 <| .ld none (.t 37),
 oo 39 <| .mv (.t 4),
 oo 40 <| .mv (.t 5),
 oo 41 <| .bin .sub (.t 40) (ki 1),
 oo 42 <| .ixa 1 (.t 39) (.t 41),
 oo 43 <| .ld none (.t 42),
 oo 44 <| .bin .neq (.t 38) (.t 43)]
def rQ9X10 : List O := [
 oo 45 <| .mv (.t 0),
 oo 46 <| .mv (.t 3),
 oo 47 <| .mv (.t 4),
 oo 48 <| .mv (.t 5),
 oo 49 <| .ixa 1 (.t 47) (.t 48),
 oo 50 <| .ld none (.t 49),
 oo 51 <| .ixa 1 (.t 45) (.t 46),
 oz <| .st 1 (.t 51) (.t 50)]
def rQ9X11 : List O := [
 oo 52 <| .mv (.t 3),
 oo 53 <| .bin .add (.t 52) (ki 1),
 oo 3 <| .mv (.t 53)]
def rQ9X12 : List O := [
 oo 33 <| .mv (.t 5),
 oo 34 <| .bin .add (.t 33) (ki 1),
 oo 5 <| .mv (.t 34)]
def lQ9X0 : C := (.seq (.seq (.reg rQ9X8 false [] [0, 3, 4, 5, 32]) (.cond (.t 32) .skip (.exit 2))) (.seq (.blk 3 (.seq (.reg rQ9X9 true [(9, 9), (3, 4), (3, 5), (3, 6), (3, 7), (0, 8), (1, 8), (2, 8), (3, 8)] [0, 3, 4, 5, 44]) (.cond (.t 44) (.seq (.reg rQ9X10 false [] [0, 3, 4, 5]) (.reg rQ9X11 false [] [0, 3, 4, 5])) .skip))) (.reg rQ9X12 false [] [0, 3, 4, 5])))
def rQ9X13 : List O := [
 oo 54 <| .mv (.t 0),
 oo 55 <| .mv (.t 3),
 oo 56 <| .slc 1 (.t 54) (some (.t 55)) none,
 oz <| .clr 1 [(.int .i64 0)] (.t 56)]
def rQ9X14 : List O := [
 oo 57 <| .mv (.t 0),
 oo 58 <| .mv (.t 3),
 oo 59 <| .slc 1 (.t 57) none (some (.t 58)),
 oo 2 <| .mv (.t 59)]
def rQ9X15 : List O := [
 oo 14 <| .mv (.t 3),
 oo 15 <| .bin .add (.t 14) (ki 1),
 oo 3 <| .mv (.t 15)]
def lQ9X1 : C := (.seq (.seq (.reg rQ9X4 false [] [0, 3, 13]) (.cond (.t 13) .skip (.exit 0))) (.seq (.blk 1 (.seq (.reg rQ9X5 true [(9, 9), (3, 4), (3, 5), (3, 6), (3, 7), (0, 8), (1, 8), (2, 8), (3, 8)] [0, 3, 25]) (.cond (.t 25) (.seq (.reg rQ9X6 false [] [0, 3, 4]) (.seq (.seq (.reg rQ9X7 false [] [0, 3, 4, 5]) (.blk 2 (.loop lQ9X0))) (.seq (.reg rQ9X13 false [] [0, 3]) (.seq (.reg rQ9X14 false [] [2]) .ret)))) .skip))) (.reg rQ9X15 false [] [0, 3])))
def rQ9X16 : List O := [
 oo 60 <| .mv (.t 0),
 oo 2 <| .mv (.t 60)]
def cQ9 : C := (.seq (.reg rQ9X0 false [] [0]) (.seq (.seq (.reg rQ9X1 false [] [0, 8]) (.cond (.t 8) (.seq (.reg rQ9X2 false [] [2]) .ret) .skip)) (.seq (.seq (.reg rQ9X3 false [] [0, 3]) (.blk 0 (.loop lQ9X1))) (.seq (.reg rQ9X16 false [] [2]) .ret))))
def qQ9 : AFn := ⟨61, 1, [.t 2], cQ9⟩
abbrev Md := Go.Bm.Md
abbrev Cfg := Go.Bm.Cfg
def look : List (Nat × Md × AFn) -> Nat -> Option (Md × AFn)
 | [], _ => none
 | (j, m, q) :: r, i => if i = j then some (m, q) else look r i
def fns : List (Nat × Md × AFn) := [
 (nQa, ⟨false, false, true⟩, qQa),
 (nQb, ⟨false, false, true⟩, qQb),
 (nQc, ⟨false, false, true⟩, qQc),
 (nQd, ⟨true, false, false⟩, qQd),
 (nQe, ⟨true, false, false⟩, qQe),
 (nQf, ⟨true, false, false⟩, qQf),
 (nQg, ⟨false, false, false⟩, qQg),
 (nQh, ⟨false, false, false⟩, qQh),
 (nQi, ⟨false, false, false⟩, qQi),
 (nQj, ⟨false, false, true⟩, qQj),
 (nQk, ⟨false, false, true⟩, qQk),
 (nQl, ⟨false, false, false⟩, qQl),
 (nQm, ⟨false, false, true⟩, qQm),
 (nQn, ⟨false, false, false⟩, qQn),
 (nQo, ⟨false, false, true⟩, qQo),
 (nQp, ⟨true, false, false⟩, qQp),
 (nQq, ⟨true, false, false⟩, qQq),
 (nQr, ⟨true, false, false⟩, qQr),
 (nQs, ⟨false, false, true⟩, qQs),
 (nQt, ⟨false, false, true⟩, qQt),
 (nQu, ⟨false, false, false⟩, qQu),
 (nQv, ⟨false, false, false⟩, qQv),
 (nQw, ⟨false, false, true⟩, qQw),
 (nQx, ⟨false, false, false⟩, qQx),
 (nQy, ⟨true, false, false⟩, qQy),
 (nQz, ⟨false, false, true⟩, qQz),
 (nQA, ⟨false, false, true⟩, qQA),
 (nQB, ⟨false, false, true⟩, qQB),
 (nQC, ⟨false, false, true⟩, qQC),
 (nQD, ⟨false, false, true⟩, qQD),
 (nQE, ⟨false, false, false⟩, qQE),
 (nQF, ⟨false, true, true⟩, qQF),
 (nQG, ⟨false, false, true⟩, qQG),
 (nQH, ⟨false, false, false⟩, qQH),
 (nQI, ⟨false, false, true⟩, qQI),
 (nQJ, ⟨false, false, true⟩, qQJ),
 (nQK, ⟨false, false, true⟩, qQK),
 (nQL, ⟨false, false, true⟩, qQL),
 (nQM, ⟨false, false, true⟩, qQM),
 (nQN, ⟨false, false, true⟩, qQN),
 (nQO, ⟨false, false, true⟩, qQO),
 (nQP, ⟨false, false, false⟩, qQP),
 (nQQ, ⟨true, false, false⟩, qQQ),
 (nQR, ⟨false, false, true⟩, qQR),
 (nQS, ⟨false, false, false⟩, qQS),
 (nQT, ⟨false, false, true⟩, qQT),
 (nQU, ⟨true, false, false⟩, qQU),
 (nQV, ⟨true, false, false⟩, qQV),
 (nQW, ⟨false, false, true⟩, qQW),
 (nQX, ⟨false, false, true⟩, qQX),
 (nQY, ⟨false, false, false⟩, qQY),
 (nQZ, ⟨false, false, true⟩, qQZ),
 (nQ0, ⟨false, false, true⟩, qQ0),
 (nQ1, ⟨false, false, false⟩, qQ1),
 (nQ2, ⟨false, false, true⟩, qQ2),
 (nQ3, ⟨false, false, true⟩, qQ3),
 (nQ4, ⟨false, false, false⟩, qQ4),
 (nQ5, ⟨false, false, true⟩, qQ5),
 (nQ6, ⟨false, false, true⟩, qQ6),
 (nQ7, ⟨false, true, true⟩, qQ7),
 (nQ8, ⟨false, false, true⟩, qQ8),
 (nQ9, ⟨false, false, false⟩, qQ9)]
def cfg : Cfg := ⟨look fns, fun _ => [], fun _ => none, fun _ => none, fun _ => none, fun _ => false⟩
theorem kLaw37PartitionJoins : chkFB Go.Proofs.Tryz.prog Go.Proofs.Tryz.f3 qQa = true := by kernel_rfl
theorem kMakeFew : chkFB Go.Proofs.Tryz.prog Go.Proofs.Tryz.f4 qQb = true := by kernel_rfl
theorem kLaw37Awake : chkFB Go.Proofs.Tryz.prog Go.Proofs.Tryz.f5 qQc = true := by kernel_rfl
theorem kMakeNew : chkFB Go.Proofs.Tryz.prog Go.Proofs.Tryz.f6 qQd = true := by kernel_rfl
theorem kMakeGraph : chkFB Go.Proofs.Tryz.prog Go.Proofs.Tryz.f7 qQe = true := by kernel_rfl
theorem kFieldPlan : chkFB Go.Proofs.Tryz.prog Go.Proofs.Tryz.f8 qQf = true := by kernel_rfl
theorem kPartitionLoads : chkFB Go.Proofs.Tryz.prog Go.Proofs.Tryz.f9 qQg = true := by kernel_rfl
theorem kPartitionLocal : chkFB Go.Proofs.Tryz.prog Go.Proofs.Tryz.f10 qQh = true := by kernel_rfl
theorem kPartitionGhosts : chkFB Go.Proofs.Tryz.prog Go.Proofs.Tryz.f11 qQi = true := by kernel_rfl
theorem kRef03Degree : chkFB Go.Proofs.Tryz.prog Go.Proofs.Tryz.f12 qQj = true := by kernel_rfl
theorem kPartitionHome : chkFB Go.Proofs.Tryz.prog Go.Proofs.Tryz.f13 qQk = true := by kernel_rfl
theorem kPartitionJoin : chkFB Go.Proofs.Tryz.prog Go.Proofs.Tryz.f14 qQl = true := by kernel_rfl
theorem kRef03Same : chkFB Go.Proofs.Tryz.prog Go.Proofs.Tryz.f15 qQm = true := by kernel_rfl
theorem kPartitionMake : chkFB Go.Proofs.Tryz.prog Go.Proofs.Tryz.f16 qQn = true := by kernel_rfl
theorem kRef02Cmp : chkFB Go.Proofs.Tryz.prog Go.Proofs.Tryz.f17 qQo = true := by kernel_rfl
theorem kMakeDeckNext : chkFB Go.Proofs.Tryz.prog Go.Proofs.Tryz.f18 qQp = true := by kernel_rfl
theorem kFieldNumbers : chkFB Go.Proofs.Tryz.prog Go.Proofs.Tryz.f19 qQq = true := by kernel_rfl
theorem kMakeSet : chkFB Go.Proofs.Tryz.prog Go.Proofs.Tryz.f20 qQr = true := by kernel_rfl
theorem kPartitionCheck : chkFB Go.Proofs.Tryz.prog Go.Proofs.Tryz.f21 qQs = true := by kernel_rfl
theorem kPartitionHomeN22 : chkFB Go.Proofs.Tryz.prog Go.Proofs.Tryz.f22 qQt = true := by kernel_rfl
theorem kNodesetOf : chkFB Go.Proofs.Tryz.prog Go.Proofs.Tryz.f23 qQu = true := by kernel_rfl
theorem kSlicesDeleteFuncIntInt : chkFB Go.Proofs.Tryz.prog Go.Proofs.Tryz.f24 qQv = true := by kernel_rfl
theorem kPartitionGhosts1 : chkFB Go.Proofs.Tryz.prog Go.Proofs.Tryz.f25 qQw = true := by kernel_rfl
theorem kRef03Neighbours : chkFB Go.Proofs.Tryz.prog Go.Proofs.Tryz.f26 qQx = true := by kernel_rfl
theorem kPartitionCheckN27 : chkFB Go.Proofs.Tryz.prog Go.Proofs.Tryz.f27 qQy = true := by kernel_rfl
theorem kGraphCheck : chkFB Go.Proofs.Tryz.prog Go.Proofs.Tryz.f28 qQz = true := by kernel_rfl
theorem kSlicesSortFuncApiEdgeApiEdge : chkFB Go.Proofs.Tryz.prog Go.Proofs.Tryz.f29 qQA = true := by kernel_rfl
theorem kPartitionJoin1 : chkFB Go.Proofs.Tryz.prog Go.Proofs.Tryz.f30 qQB = true := by kernel_rfl
theorem kCmpOrInt : chkFB Go.Proofs.Tryz.prog Go.Proofs.Tryz.f31 qQC = true := by kernel_rfl
theorem kCmpCompareInt : chkFB Go.Proofs.Tryz.prog Go.Proofs.Tryz.f32 qQD = true := by kernel_rfl
theorem kSlicesCompactApiEdgeApiEdge : chkFB Go.Proofs.Tryz.prog Go.Proofs.Tryz.f33 qQE = true := by kernel_rfl
theorem kSlicesCloneApiEdgeApiEdge : chkFB Go.Proofs.Tryz.prog Go.Proofs.Tryz.f34 qQF = true := by kernel_rfl
theorem kRef03SameEdges : chkFB Go.Proofs.Tryz.prog Go.Proofs.Tryz.f35 qQG = true := by kernel_rfl
theorem kDegreeDegrees : chkFB Go.Proofs.Tryz.prog Go.Proofs.Tryz.f36 qQH = true := by kernel_rfl
theorem kPartitionWorkers : chkFB Go.Proofs.Tryz.prog Go.Proofs.Tryz.f37 qQI = true := by kernel_rfl
theorem kSlicesSortFuncPartitionPartPartitionPart : chkFB Go.Proofs.Tryz.prog Go.Proofs.Tryz.f38 qQJ = true := by kernel_rfl
theorem kPartitionMake1 : chkFB Go.Proofs.Tryz.prog Go.Proofs.Tryz.f39 qQK = true := by kernel_rfl
theorem kSlicesMinFuncPartitionPartPartitionPart : chkFB Go.Proofs.Tryz.prog Go.Proofs.Tryz.f40 qQL = true := by kernel_rfl
theorem kPartitionMake2 : chkFB Go.Proofs.Tryz.prog Go.Proofs.Tryz.f41 qQM = true := by kernel_rfl
theorem kMakeMod : chkFB Go.Proofs.Tryz.prog Go.Proofs.Tryz.f42 qQN = true := by kernel_rfl
theorem kNodesetHas : chkFB Go.Proofs.Tryz.prog Go.Proofs.Tryz.f43 qQO = true := by kernel_rfl
theorem kNodesetUnion : chkFB Go.Proofs.Tryz.prog Go.Proofs.Tryz.f44 qQP = true := by kernel_rfl
theorem kSlicesIndexFuncIntInt : chkFB Go.Proofs.Tryz.prog Go.Proofs.Tryz.f45 qQQ = true := by kernel_rfl
theorem kRef03Check : chkFB Go.Proofs.Tryz.prog Go.Proofs.Tryz.f46 qQR = true := by kernel_rfl
theorem kRef02Of : chkFB Go.Proofs.Tryz.prog Go.Proofs.Tryz.f47 qQS = true := by kernel_rfl
theorem kNodesetValid : chkFB Go.Proofs.Tryz.prog Go.Proofs.Tryz.f48 qQT = true := by kernel_rfl
theorem kSlicesContainsFuncIntInt : chkFB Go.Proofs.Tryz.prog Go.Proofs.Tryz.f49 qQU = true := by kernel_rfl
theorem kPartitionCheck1 : chkFB Go.Proofs.Tryz.prog Go.Proofs.Tryz.f50 qQV = true := by kernel_rfl
theorem kGraphOrder : chkFB Go.Proofs.Tryz.prog Go.Proofs.Tryz.f51 qQW = true := by kernel_rfl
theorem kCmpIsNaNInt : chkFB Go.Proofs.Tryz.prog Go.Proofs.Tryz.f54 qQX = true := by kernel_rfl
theorem kMasksRows : chkFB Go.Proofs.Tryz.prog Go.Proofs.Tryz.f55 qQY = true := by kernel_rfl
theorem kMasksCount : chkFB Go.Proofs.Tryz.prog Go.Proofs.Tryz.f56 qQZ = true := by kernel_rfl
theorem kSlicesContainsIntInt : chkFB Go.Proofs.Tryz.prog Go.Proofs.Tryz.f58 qQ0 = true := by kernel_rfl
theorem kNodesetMergedInt : chkFB Go.Proofs.Tryz.prog Go.Proofs.Tryz.f59 qQ1 = true := by kernel_rfl
theorem kNodesetUnion1 : chkFB Go.Proofs.Tryz.prog Go.Proofs.Tryz.f60 qQ2 = true := by kernel_rfl
theorem kRef03Before : chkFB Go.Proofs.Tryz.prog Go.Proofs.Tryz.f61 qQ3 = true := by kernel_rfl
theorem kRef02Put : chkFB Go.Proofs.Tryz.prog Go.Proofs.Tryz.f62 qQ4 = true := by kernel_rfl
theorem kMathBitsOnesCount64 : chkFB Go.Proofs.Tryz.prog Go.Proofs.Tryz.f73 qQ5 = true := by kernel_rfl
theorem kSlicesIndexIntInt : chkFB Go.Proofs.Tryz.prog Go.Proofs.Tryz.f82 qQ6 = true := by kernel_rfl
theorem kSlicesCloneIntInt : chkFB Go.Proofs.Tryz.prog Go.Proofs.Tryz.f83 qQ7 = true := by kernel_rfl
theorem kSlicesSortIntInt : chkFB Go.Proofs.Tryz.prog Go.Proofs.Tryz.f84 qQ8 = true := by kernel_rfl
theorem kSlicesCompactIntInt : chkFB Go.Proofs.Tryz.prog Go.Proofs.Tryz.f85 qQ9 = true := by kernel_rfl
theorem look_mem : ∀ {l : List (Nat × Md × AFn)} {f : Nat} {m : Md} {q : AFn}, look l f = some (m, q) -> (f, m, q) ∈ l
 | [], f, m, q, h => by simp [look] at h
 | (j, m', q') :: r, f, m, q, h => by
   unfold look at h
   split at h
   ·rename_i he; subst he; simp at h; obtain ⟨rfl, rfl⟩ := h; simp
   ·exact List.mem_cons_of_mem _ (look_mem h)
def Good (p : Nat × Md × AFn) : Prop := ∃ fn, Go.Proofs.Tryz.prog.funcs[p.1]? = some fn /\ chkFB Go.Proofs.Tryz.prog fn p.2.2 = true
def All (G : Nat × Md × AFn -> Prop) : List (Nat × Md × AFn) -> Prop
 | [] => True
 | p :: r => G p /\ All G r
theorem All.get {G : Nat × Md × AFn -> Prop} : ∀ {l : List (Nat × Md × AFn)}, All G l -> ∀ p ∈ l, G p
 | [], _, p, h => by simp at h
 | q :: r, h, p, hp => by
   rcases List.mem_cons.1 hp with e | e
   ·subst e; exact h.1
   ·exact All.get h.2 p e
theorem allGood : All Good fns := ⟨⟨_, Go.Proofs.Tryz.func3, kLaw37PartitionJoins⟩, ⟨_, Go.Proofs.Tryz.func4, kMakeFew⟩, ⟨_, Go.Proofs.Tryz.func5, kLaw37Awake⟩, ⟨_, Go.Proofs.Tryz.func6, kMakeNew⟩, ⟨_, Go.Proofs.Tryz.func7, kMakeGraph⟩, ⟨_, Go.Proofs.Tryz.func8, kFieldPlan⟩, ⟨_, Go.Proofs.Tryz.func9, kPartitionLoads⟩, ⟨_, Go.Proofs.Tryz.func10, kPartitionLocal⟩, ⟨_, Go.Proofs.Tryz.func11, kPartitionGhosts⟩, ⟨_, Go.Proofs.Tryz.func12, kRef03Degree⟩, ⟨_, Go.Proofs.Tryz.func13, kPartitionHome⟩, ⟨_, Go.Proofs.Tryz.func14, kPartitionJoin⟩, ⟨_, Go.Proofs.Tryz.func15, kRef03Same⟩, ⟨_, Go.Proofs.Tryz.func16, kPartitionMake⟩, ⟨_, Go.Proofs.Tryz.func17, kRef02Cmp⟩, ⟨_, Go.Proofs.Tryz.func18, kMakeDeckNext⟩, ⟨_, Go.Proofs.Tryz.func19, kFieldNumbers⟩, ⟨_, Go.Proofs.Tryz.func20, kMakeSet⟩, ⟨_, Go.Proofs.Tryz.func21, kPartitionCheck⟩, ⟨_, Go.Proofs.Tryz.func22, kPartitionHomeN22⟩, ⟨_, Go.Proofs.Tryz.func23, kNodesetOf⟩, ⟨_, Go.Proofs.Tryz.func24, kSlicesDeleteFuncIntInt⟩, ⟨_, Go.Proofs.Tryz.func25, kPartitionGhosts1⟩, ⟨_, Go.Proofs.Tryz.func26, kRef03Neighbours⟩, ⟨_, Go.Proofs.Tryz.func27, kPartitionCheckN27⟩, ⟨_, Go.Proofs.Tryz.func28, kGraphCheck⟩, ⟨_, Go.Proofs.Tryz.func29, kSlicesSortFuncApiEdgeApiEdge⟩, ⟨_, Go.Proofs.Tryz.func30, kPartitionJoin1⟩, ⟨_, Go.Proofs.Tryz.func31, kCmpOrInt⟩, ⟨_, Go.Proofs.Tryz.func32, kCmpCompareInt⟩, ⟨_, Go.Proofs.Tryz.func33, kSlicesCompactApiEdgeApiEdge⟩, ⟨_, Go.Proofs.Tryz.func34, kSlicesCloneApiEdgeApiEdge⟩, ⟨_, Go.Proofs.Tryz.func35, kRef03SameEdges⟩, ⟨_, Go.Proofs.Tryz.func36, kDegreeDegrees⟩, ⟨_, Go.Proofs.Tryz.func37, kPartitionWorkers⟩, ⟨_, Go.Proofs.Tryz.func38, kSlicesSortFuncPartitionPartPartitionPart⟩, ⟨_, Go.Proofs.Tryz.func39, kPartitionMake1⟩, ⟨_, Go.Proofs.Tryz.func40, kSlicesMinFuncPartitionPartPartitionPart⟩, ⟨_, Go.Proofs.Tryz.func41, kPartitionMake2⟩, ⟨_, Go.Proofs.Tryz.func42, kMakeMod⟩, ⟨_, Go.Proofs.Tryz.func43, kNodesetHas⟩, ⟨_, Go.Proofs.Tryz.func44, kNodesetUnion⟩, ⟨_, Go.Proofs.Tryz.func45, kSlicesIndexFuncIntInt⟩, ⟨_, Go.Proofs.Tryz.func46, kRef03Check⟩, ⟨_, Go.Proofs.Tryz.func47, kRef02Of⟩, ⟨_, Go.Proofs.Tryz.func48, kNodesetValid⟩, ⟨_, Go.Proofs.Tryz.func49, kSlicesContainsFuncIntInt⟩, ⟨_, Go.Proofs.Tryz.func50, kPartitionCheck1⟩, ⟨_, Go.Proofs.Tryz.func51, kGraphOrder⟩, ⟨_, Go.Proofs.Tryz.func54, kCmpIsNaNInt⟩, ⟨_, Go.Proofs.Tryz.func55, kMasksRows⟩, ⟨_, Go.Proofs.Tryz.func56, kMasksCount⟩, ⟨_, Go.Proofs.Tryz.func58, kSlicesContainsIntInt⟩, ⟨_, Go.Proofs.Tryz.func59, kNodesetMergedInt⟩, ⟨_, Go.Proofs.Tryz.func60, kNodesetUnion1⟩, ⟨_, Go.Proofs.Tryz.func61, kRef03Before⟩, ⟨_, Go.Proofs.Tryz.func62, kRef02Put⟩, ⟨_, Go.Proofs.Tryz.func73, kMathBitsOnesCount64⟩, ⟨_, Go.Proofs.Tryz.func82, kSlicesIndexIntInt⟩, ⟨_, Go.Proofs.Tryz.func83, kSlicesCloneIntInt⟩, ⟨_, Go.Proofs.Tryz.func84, kSlicesSortIntInt⟩, ⟨_, Go.Proofs.Tryz.func85, kSlicesCompactIntInt⟩, trivial⟩
theorem cfgOK : CfgOKB Go.Proofs.Tryz.prog cfg := ⟨by kernel_rfl, fun f m q h => allGood.get _ (look_mem h)⟩
theorem gQa : cfg.fn nQa = some (⟨false, false, true⟩, qQa) := rfl
theorem gQb : cfg.fn nQb = some (⟨false, false, true⟩, qQb) := rfl
theorem gQc : cfg.fn nQc = some (⟨false, false, true⟩, qQc) := rfl
theorem gQd : cfg.fn nQd = some (⟨true, false, false⟩, qQd) := rfl
theorem gQe : cfg.fn nQe = some (⟨true, false, false⟩, qQe) := rfl
theorem gQf : cfg.fn nQf = some (⟨true, false, false⟩, qQf) := rfl
theorem gQg : cfg.fn nQg = some (⟨false, false, false⟩, qQg) := rfl
theorem gQh : cfg.fn nQh = some (⟨false, false, false⟩, qQh) := rfl
theorem gQi : cfg.fn nQi = some (⟨false, false, false⟩, qQi) := rfl
theorem gQj : cfg.fn nQj = some (⟨false, false, true⟩, qQj) := rfl
theorem gQk : cfg.fn nQk = some (⟨false, false, true⟩, qQk) := rfl
theorem gQl : cfg.fn nQl = some (⟨false, false, false⟩, qQl) := rfl
theorem gQm : cfg.fn nQm = some (⟨false, false, true⟩, qQm) := rfl
theorem gQp : cfg.fn nQp = some (⟨true, false, false⟩, qQp) := rfl
theorem gQq : cfg.fn nQq = some (⟨true, false, false⟩, qQq) := rfl
theorem gQr : cfg.fn nQr = some (⟨true, false, false⟩, qQr) := rfl
theorem gQs : cfg.fn nQs = some (⟨false, false, true⟩, qQs) := rfl
theorem gQt : cfg.fn nQt = some (⟨false, false, true⟩, qQt) := rfl
theorem gQu : cfg.fn nQu = some (⟨false, false, false⟩, qQu) := rfl
theorem gQv : cfg.fn nQv = some (⟨false, false, false⟩, qQv) := rfl
theorem gQx : cfg.fn nQx = some (⟨false, false, false⟩, qQx) := rfl
theorem gQy : cfg.fn nQy = some (⟨true, false, false⟩, qQy) := rfl
theorem gQz : cfg.fn nQz = some (⟨false, false, true⟩, qQz) := rfl
theorem gQA : cfg.fn nQA = some (⟨false, false, true⟩, qQA) := rfl
theorem gQB : cfg.fn nQB = some (⟨false, false, true⟩, qQB) := rfl
theorem gQC : cfg.fn nQC = some (⟨false, false, true⟩, qQC) := rfl
theorem gQD : cfg.fn nQD = some (⟨false, false, true⟩, qQD) := rfl
theorem gQE : cfg.fn nQE = some (⟨false, false, false⟩, qQE) := rfl
theorem gQF : cfg.fn nQF = some (⟨false, true, true⟩, qQF) := rfl
theorem gQG : cfg.fn nQG = some (⟨false, false, true⟩, qQG) := rfl
theorem gQI : cfg.fn nQI = some (⟨false, false, true⟩, qQI) := rfl
theorem gQJ : cfg.fn nQJ = some (⟨false, false, true⟩, qQJ) := rfl
theorem gQK : cfg.fn nQK = some (⟨false, false, true⟩, qQK) := rfl
theorem gQN : cfg.fn nQN = some (⟨false, false, true⟩, qQN) := rfl
theorem gQO : cfg.fn nQO = some (⟨false, false, true⟩, qQO) := rfl
theorem gQP : cfg.fn nQP = some (⟨false, false, false⟩, qQP) := rfl
theorem gQQ : cfg.fn nQQ = some (⟨true, false, false⟩, qQQ) := rfl
theorem gQR : cfg.fn nQR = some (⟨false, false, true⟩, qQR) := rfl
theorem gQS : cfg.fn nQS = some (⟨false, false, false⟩, qQS) := rfl
theorem gQT : cfg.fn nQT = some (⟨false, false, true⟩, qQT) := rfl
theorem gQU : cfg.fn nQU = some (⟨true, false, false⟩, qQU) := rfl
theorem gQV : cfg.fn nQV = some (⟨true, false, false⟩, qQV) := rfl
theorem gQW : cfg.fn nQW = some (⟨false, false, true⟩, qQW) := rfl
theorem gQX : cfg.fn nQX = some (⟨false, false, true⟩, qQX) := rfl
theorem gQ0 : cfg.fn nQ0 = some (⟨false, false, true⟩, qQ0) := rfl
theorem gQ1 : cfg.fn nQ1 = some (⟨false, false, false⟩, qQ1) := rfl
theorem gQ2 : cfg.fn nQ2 = some (⟨false, false, true⟩, qQ2) := rfl
theorem gQ3 : cfg.fn nQ3 = some (⟨false, false, true⟩, qQ3) := rfl
theorem gQ4 : cfg.fn nQ4 = some (⟨false, false, false⟩, qQ4) := rfl
theorem gQ6 : cfg.fn nQ6 = some (⟨false, false, true⟩, qQ6) := rfl
theorem gQ7 : cfg.fn nQ7 = some (⟨false, true, true⟩, qQ7) := rfl
theorem gQ8 : cfg.fn nQ8 = some (⟨false, false, true⟩, qQ8) := rfl
theorem gQ9 : cfg.fn nQ9 = some (⟨false, false, false⟩, qQ9) := rfl
end Go.BmP
