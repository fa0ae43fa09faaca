/- The compact code of the functions, printed by program off the translation. -/
import Derived.Test.YtfmbbifdganaaaaDoorChecked
import Derived.Test.YtfmbbifdganaaaaDoorBmA
import Derived.KernelRfl
set_option maxRecDepth 100000
namespace Go.BmP
open Go.Am Go.Bm
abbrev oo (d : Nat) (x : Kd) : O := ⟨some d, none, x⟩
abbrev oz (x : Kd) : O := ⟨none, none, x⟩
abbrev ki (n : Nat) : E := .k (.int .i64 n)
def nQa : Nat := 3
def nQb : Nat := 4
def nQc : Nat := 5
def nQd : Nat := 6
def nQe : Nat := 7
def nQf : Nat := 8
def nQg : Nat := 9
def nQh : Nat := 10
def nQi : Nat := 11
def nQj : Nat := 12
def nQk : Nat := 13
def nQl : Nat := 14
def nQm : Nat := 15
def nQn : Nat := 16
def nQo : Nat := 17
def nQp : Nat := 18
def nQq : Nat := 19
def nQr : Nat := 20
def nQs : Nat := 21
def nQt : Nat := 22
def nQu : Nat := 23
def nQv : Nat := 24
def nQw : Nat := 25
def nQx : Nat := 26
def nQy : Nat := 27
def nQz : Nat := 28
def nQA : Nat := 29
def nQB : Nat := 30
def nQC : Nat := 31
def nQD : Nat := 32
def nQE : Nat := 33
def nQF : Nat := 34
def nQG : Nat := 35
def nQH : Nat := 36
def nQI : Nat := 37
def nQJ : Nat := 38
def nQK : Nat := 39
def nQL : Nat := 40
def nQM : Nat := 41
def nQN : Nat := 42
def nQO : Nat := 43
def nQP : Nat := 44
def nQQ : Nat := 45
def nQR : Nat := 46
def nQS : Nat := 47
def nQT : Nat := 50
def nQU : Nat := 51
def nQV : Nat := 53
def nQW : Nat := 64
/- cohesion/cohesionlaw24.CliquesCover -/
def rQaX0 : List O := [
 oo 4 <| .mv (.k (.bool false))]
def rQaX1 : List O := [
 oo 24 <| .mv (.t 0),
 oo 25 <| .call nQb [(.t 24)],
 oo 26 <| .un .not (.t 25),
 oo 27 <| .mv (.t 26),
 ⟨(some 28), (some (27, false)), .mv (.t 1)⟩,
 ⟨(some 29), (some (27, false)), .len (.t 28)⟩,
 ⟨(some 30), (some (27, false)), .bin .gtr (.t 29) (ki 20)⟩,
 oo 31 <| .pick (.t 27) (.k (.bool true)) (.t 30)]
def rQaX2 : List O := [
 oo 32 <| .call nQc [],
 oo 4 <| .mv (.t 32)]
def rQaX3 : List O := [
 oo 33 <| .mv (.t 0),
 oo 34 <| .call nQd [(.t 33)],
 oo 5 <| .mv (.t 34)]
def rQaX4 : List O := [
 oo 35 <| .mv (.t 5),
 oo 36 <| .call nQe [(.t 35), (ki 8)],
 oo 6 <| .new [(.int .i64 0), (.own 2 [])],
 oz <| .st 2 (.t 6) (.t 36)]
def rQaX5 : List O := [
 oo 38 <| .ld (some 2) (.t 6),
 oo 39 <| .call nQf [(.t 38), (ki 4096)],
 oo 37 <| .mv (.t 39),
 oo 40 <| .ext 0 (.t 37),
 oo 41 <| .ext 1 (.t 37),
 oo 7 <| .mv (.t 40),
 oo 8 <| .mv (.t 41)]
def rQaX6 : List O := [
 oo 9 <| .mv (.k (.own 2 []))]
def rQaX7 : List O := [
 oo 10 <| .mv (.k (.own 1 []))]
def rQaX8 : List O := [
 oo 42 <| .mv (.t 7),
 oo 43 <| .len (.t 42),
 oo 44 <| .mv (ki 0)]
def rQaX9 : List O := [
 oo 45 <| .bin .lss (.t 44) (.t 43)]
def rQaX10 : List O := [
 oo 46 <| .ixa 1 (.t 42) (.t 44),
 oo 47 <| .ld none (.t 46),
 oo 12 <| .mv (.t 47)]
def rQaX11 : List O := [
 oo 48 <| .ld (some 2) (.t 6),
 oo 49 <| .mv (.t 12),
 oo 50 <| .call nQg [(.t 48), (.t 49)],
 oo 51 <| .un .not (.t 50)]
def rQaX12 : List O := [
 oo 4 <| .mv (.k (.bool false))]
def rQaX13 : List O := [
 oo 52 <| .mv (.t 10),
 oo 53 <| .mv (.t 12),
 oo 54 <| .app 1 (.t 52) (.t 53),
 oo 10 <| .mv (.t 54)]
def rQaX14 : List O := [
 oo 55 <| .mv (.t 12),
 oo 56 <| .len (.t 55),
 oo 57 <| .mv (ki 0)]
def rQaX15 : List O := [
 oo 58 <| .bin .lss (.t 57) (.t 56)]
def rQaX16 : List O := [
 oo 59 <| .mv (.t 57),
 oo 13 <| .mv (.t 59)]
def rQaX17 : List O := [
 oo 60 <| .mv (.t 13),
 oo 61 <| .bin .add (.t 60) (ki 1),
 oo 14 <| .mv (.t 61)]
def rQaX18 : List O := [
 oo 62 <| .mv (.t 14),
 oo 63 <| .mv (.t 12),
 oo 64 <| .len (.t 63),
 oo 65 <| .bin .lss (.t 62) (.t 64)]
def rQaX19 : List O := [
 oo 68 <| .mv (.t 9),
 oo 69 <| .mv (.t 12),
 oo 70 <| .mv (.t 13),
 oo 71 <| .ixa 1 (.t 69) (.t 70),
 oo 72 <| .ld none (.t 71),
 oo 73 <| .mv (.t 12),
 oo 74 <| .mv (.t 14),
 oo 75 <| .ixa 1 (.t 73) (.t 74),
 oo 76 <| .ld none (.t 75),
 oo 77 <| .build [(.int .i64 0), (.int .i64 0)] [(0, 1, (.t 72)), (1, 1, (.t 76))],
 oo 78 <| .bslice 2 1 [(.int .i64 0), (.int .i64 0)] [(0, 2, (.t 77))],
 oo 79 <| .app 2 (.t 68) (.t 78),
 oo 9 <| .mv (.t 79)]
def rQaX20 : List O := [
 oo 66 <| .mv (.t 14),
 oo 67 <| .bin .add (.t 66) (ki 1),
 oo 14 <| .mv (.t 67)]
def lQaX0 : C := (.seq (.seq (.reg rQaX18 false [] [1, 5, 6, 7, 8, 9, 10, 12, 13, 14, 42, 43, 44, 56, 57, 65]) (.cond (.t 65) .skip (.exit 4))) (.seq (.blk 5 (.reg rQaX19 true [(11, 11), (12, 12), (0, 4), (4, 5), (4, 6), (4, 7), (0, 8), (1, 8), (2, 8), (3, 8), (4, 8), (0, 10)] [1, 5, 6, 7, 8, 9, 10, 12, 13, 14, 42, 43, 44, 56, 57])) (.reg rQaX20 false [] [1, 5, 6, 7, 8, 9, 10, 12, 13, 14, 42, 43, 44, 56, 57])))
def rQaX21 : List O := [
 oo 80 <| .bin .add (.t 57) (ki 1),
 oo 57 <| .mv (.t 80)]
def lQaX1 : C := (.seq (.reg rQaX15 false [] [1, 5, 6, 7, 8, 9, 10, 12, 42, 43, 44, 56, 57, 58]) (.seq (.cond (.t 58) .skip (.exit 2)) (.seq (.blk 3 (.seq (.reg rQaX16 false [] [1, 5, 6, 7, 8, 9, 10, 12, 13, 42, 43, 44, 56, 57]) (.seq (.reg rQaX17 false [] [1, 5, 6, 7, 8, 9, 10, 12, 13, 14, 42, 43, 44, 56, 57]) (.blk 4 (.loop lQaX0))))) (.reg rQaX21 false [] [1, 5, 6, 7, 8, 9, 10, 12, 42, 43, 44, 56, 57]))))
def rQaX22 : List O := [
 oo 81 <| .bin .add (.t 44) (ki 1),
 oo 44 <| .mv (.t 81)]
def lQaX2 : C := (.seq (.reg rQaX9 false [] [1, 5, 6, 7, 8, 9, 10, 42, 43, 44, 45]) (.seq (.cond (.t 45) .skip (.exit 0)) (.seq (.blk 1 (.seq (.reg rQaX10 false [] [1, 5, 6, 7, 8, 9, 10, 12, 42, 43, 44]) (.seq (.seq (.reg rQaX11 false [] [1, 5, 6, 7, 8, 9, 10, 12, 42, 43, 44, 51]) (.cond (.t 51) (.seq (.reg rQaX12 false [] [4]) .ret) .skip)) (.seq (.reg rQaX13 false [] [1, 5, 6, 7, 8, 9, 10, 12, 42, 43, 44]) (.seq (.reg rQaX14 false [] [1, 5, 6, 7, 8, 9, 10, 12, 42, 43, 44, 56, 57]) (.blk 2 (.loop lQaX1))))))) (.reg rQaX22 false [] [1, 5, 6, 7, 8, 9, 10, 42, 43, 44]))))
def rQaX23 : List O := [
 oo 83 <| .fad 0 (.t 6),
 oo 84 <| .ld none (.t 83),
 oo 85 <| .mv (.t 9),
 oo 86 <| .call nQh [(.t 84), (.t 85)],
 oo 82 <| .mv (.t 86),
 oo 87 <| .ext 0 (.t 82),
 oo 88 <| .ext 1 (.t 82),
 oo 15 <| .new [(.int .i64 0), (.own 2 [])],
 oz <| .st 2 (.t 15) (.t 87),
 oo 16 <| .mv (.t 88)]
def rQaX24 : List O := [
 oo 89 <| .mv (.t 8),
 oo 90 <| .bin .neq (.t 89) (ki 0),
 oo 91 <| .mv (.t 90),
 ⟨(some 92), (some (91, false)), .mv (.t 16)⟩,
 ⟨(some 93), (some (91, false)), .bin .neq (.t 92) (ki 0)⟩,
 oo 94 <| .pick (.t 91) (.k (.bool true)) (.t 93),
 oo 95 <| .mv (.t 94),
 ⟨(some 96), (some (95, false)), .ld (some 2) (.t 6)⟩,
 ⟨(some 97), (some (95, false)), .ld (some 2) (.t 15)⟩,
 ⟨(some 98), (some (95, false)), .call nQi [(.t 96), (.t 97)]⟩,
 ⟨(some 99), (some (95, false)), .un .not (.t 98)⟩,
 oo 100 <| .pick (.t 95) (.k (.bool true)) (.t 99),
 oo 101 <| .mv (.t 100),
 ⟨(some 102), (some (101, false)), .mv (.t 10)⟩,
 ⟨(some 103), (some (101, false)), .call nQk [(.t 102)]⟩,
 ⟨(some 104), (some (101, false)), .fad 0 (.t 6)⟩,
 ⟨(some 105), (some (101, false)), .ld none (.t 104)⟩,
 ⟨(some 106), (some (101, false)), .call nQl [(.t 105)]⟩,
 ⟨(some 107), (some (101, false)), .call nQj [(.t 103), (.t 106)]⟩,
 ⟨(some 108), (some (101, false)), .bin .neq (.t 107) (ki 0)⟩,
 oo 109 <| .pick (.t 101) (.k (.bool true)) (.t 108)]
def rQaX25 : List O := [
 oo 4 <| .mv (.k (.bool false))]
def rQaX26 : List O := [
 oo 110 <| .mv (.t 1),
 oo 111 <| .mv (.t 5),
 oo 112 <| .fad 0 (.t 6),
 oo 113 <| .ld none (.t 112),
 oo 114 <| .call nQm [(.t 111), (.t 113)],
 oo 115 <| .bslice 1 3 [(.own 1 [])] [(0, 1, (.t 110)), (1, 1, (.t 114)), (2, 1, (.k (.own 1 [])))],
 oo 116 <| .len (.t 115),
 oo 117 <| .mv (ki 0)]
def rQaX27 : List O := [
 oo 118 <| .bin .lss (.t 117) (.t 116)]
def rQaX28 : List O := [
 oo 119 <| .ixa 1 (.t 115) (.t 117),
 oo 120 <| .ld none (.t 119),
 oo 18 <| .mv (.t 120)]
def rQaX29 : List O := [
 oo 121 <| .fad 0 (.t 6),
 oo 122 <| .ld none (.t 121),
 oo 123 <| .bin .eql (.t 122) (ki 0),
 oo 124 <| .mv (.t 123),
 ⟨(some 125), (some (124, false)), .ld (some 2) (.t 6)⟩,
 ⟨(some 126), (some (124, false)), .mv (.t 18)⟩,
 ⟨(some 127), (some (124, false)), .call nQn [(.t 125), (.t 126)]⟩,
 ⟨(some 128), (some (124, false)), .un .not (.t 127)⟩,
 oo 129 <| .pick (.t 124) (.k (.bool true)) (.t 128)]
def rQaX30 : List O := [
 oo 131 <| .ld (some 2) (.t 6),
 oo 132 <| .mv (.t 18),
 oo 133 <| .call nQo [(.t 131), (.t 132)],
 oo 130 <| .mv (.t 133),
 oo 134 <| .ext 0 (.t 130),
 oo 135 <| .ext 1 (.t 130),
 oo 19 <| .mv (.t 134),
 oo 20 <| .mv (.t 135)]
def rQaX31 : List O := [
 oo 21 <| .mv (.k (.bool false))]
def rQaX32 : List O := [
 oo 136 <| .mv (.t 7),
 oo 137 <| .len (.t 136),
 oo 138 <| .mv (ki 0)]
def rQaX33 : List O := [
 oo 139 <| .bin .lss (.t 138) (.t 137)]
def rQaX34 : List O := [
 oo 140 <| .ixa 1 (.t 136) (.t 138),
 oo 141 <| .ld none (.t 140),
 oo 23 <| .mv (.t 141)]
def rQaX35 : List O := [
 oo 142 <| .mv (.t 21),
 oo 143 <| .mv (.t 142),
 ⟨(some 144), (some (143, false)), .mv (.t 19)⟩,
 ⟨(some 145), (some (143, false)), .mv (.t 23)⟩,
 ⟨(some 146), (some (143, false)), .call nQj [(.t 144), (.t 145)]⟩,
 ⟨(some 147), (some (143, false)), .bin .eql (.t 146) (ki 0)⟩,
 oo 148 <| .pick (.t 143) (.k (.bool true)) (.t 147),
 oo 21 <| .mv (.t 148)]
def rQaX36 : List O := [
 oo 149 <| .bin .add (.t 138) (ki 1),
 oo 138 <| .mv (.t 149)]
def lQaX3 : C := (.seq (.reg rQaX33 false [] [6, 7, 18, 19, 20, 21, 115, 116, 117, 136, 137, 138, 139]) (.seq (.cond (.t 139) .skip (.exit 8)) (.seq (.blk 9 (.seq (.reg rQaX34 false [] [6, 7, 18, 19, 20, 21, 23, 115, 116, 117, 136, 137, 138]) (.reg rQaX35 false [] [6, 7, 18, 19, 20, 21, 115, 116, 117, 136, 137, 138]))) (.reg rQaX36 false [] [6, 7, 18, 19, 20, 21, 115, 116, 117, 136, 137, 138]))))
def rQaX37 : List O := [
 oo 150 <| .mv (.t 20),
 oo 151 <| .bin .neq (.t 150) (ki 0),
 oo 152 <| .mv (.t 151),
 ⟨(some 153), (some (152, false)), .mv (.t 21)⟩,
 ⟨(some 154), (some (152, false)), .un .not (.t 153)⟩,
 oo 155 <| .pick (.t 152) (.k (.bool true)) (.t 154),
 oo 156 <| .mv (.t 155),
 ⟨(some 157), (some (156, false)), .mv (.t 18)⟩,
 ⟨(some 158), (some (156, false)), .mv (.t 19)⟩,
 ⟨(some 159), (some (156, false)), .call nQp [(.t 157), (.t 158)]⟩,
 ⟨(some 160), (some (156, false)), .un .not (.t 159)⟩,
 oo 161 <| .pick (.t 156) (.k (.bool true)) (.t 160)]
def rQaX38 : List O := [
 oo 4 <| .mv (.k (.bool false))]
def rQaX39 : List O := [
 oo 162 <| .bin .add (.t 117) (ki 1),
 oo 117 <| .mv (.t 162)]
def lQaX4 : C := (.seq (.reg rQaX27 false [] [6, 7, 115, 116, 117, 118]) (.seq (.cond (.t 118) .skip (.exit 6)) (.seq (.blk 7 (.seq (.reg rQaX28 false [] [6, 7, 18, 115, 116, 117]) (.seq (.seq (.reg rQaX29 false [] [6, 7, 18, 115, 116, 117, 129]) (.cond (.t 129) (.exit 7) .skip)) (.seq (.reg rQaX30 false [] [6, 7, 18, 19, 20, 115, 116, 117]) (.seq (.reg rQaX31 false [] [6, 7, 18, 19, 20, 21, 115, 116, 117]) (.seq (.seq (.reg rQaX32 false [] [6, 7, 18, 19, 20, 21, 115, 116, 117, 136, 137, 138]) (.blk 8 (.loop lQaX3))) (.seq (.reg rQaX37 false [] [6, 7, 115, 116, 117, 161]) (.cond (.t 161) (.seq (.reg rQaX38 false [] [4]) .ret) .skip)))))))) (.reg rQaX39 false [] [6, 7, 115, 116, 117]))))
def rQaX40 : List O := [
 oo 163 <| .call nQc [],
 oo 4 <| .mv (.t 163)]
def cQa : C := (.seq (.reg rQaX0 false [] [0, 1]) (.seq (.seq (.reg rQaX1 false [] [0, 1, 31]) (.cond (.t 31) (.seq (.reg rQaX2 false [] [4]) .ret) .skip)) (.seq (.reg rQaX3 false [] [1, 5]) (.seq (.reg rQaX4 false [] [1, 5, 6]) (.seq (.reg rQaX5 false [] [1, 5, 6, 7, 8]) (.seq (.reg rQaX6 false [] [1, 5, 6, 7, 8, 9]) (.seq (.reg rQaX7 false [] [1, 5, 6, 7, 8, 9, 10]) (.seq (.seq (.reg rQaX8 false [] [1, 5, 6, 7, 8, 9, 10, 42, 43, 44]) (.blk 0 (.loop lQaX2))) (.seq (.reg rQaX23 false [] [1, 5, 6, 7, 8, 10, 15, 16]) (.seq (.seq (.reg rQaX24 true [(0, 0), (1, 1), (2, 2), (3, 3), (4, 4), (5, 5), (6, 6), (9, 9), (10, 10), (11, 11), (12, 12), (17, 17), (18, 18), (19, 19), (20, 20), (7, 8), (14, 15), (13, 16), (14, 16)] [1, 5, 6, 7, 109]) (.cond (.t 109) (.seq (.reg rQaX25 false [] [4]) .ret) .skip)) (.seq (.seq (.reg rQaX26 false [] [6, 7, 115, 116, 117]) (.blk 6 (.loop lQaX4))) (.seq (.reg rQaX40 false [] [4]) .ret))))))))))))
def qQa : AFn := ⟨164, 2, [.t 4], cQa⟩
/- cohesion/cohesionmake.Few -/
def rQbX0 : List O := [
 oo 2 <| .mv (.k (.bool false))]
def rQbX1 : List O := [
 oo 3 <| .mv (.t 0),
 oo 4 <| .len (.t 3),
 oo 5 <| .bin .leq (.t 4) (ki 500),
 oo 2 <| .mv (.t 5)]
def cQb : C := (.seq (.reg rQbX0 false [] [0]) (.seq (.reg rQbX1 false [] [2]) .ret))
def qQb : AFn := ⟨6, 1, [.t 2], cQb⟩
/- cohesion/cohesionlaw24.awake -/
def rQcX0 : List O := [
 oo 0 <| .mv (.k (.bool false))]
def rQcX1 : List O := [
 oo 8 <| .build [(.int .i64 0), (.int .i64 0)] [(0, 1, (ki 0)), (1, 1, (ki 1))],
 oo 9 <| .build [(.int .i64 0), (.int .i64 0)] [(0, 1, (ki 1)), (1, 1, (ki 2))],
 oo 10 <| .bslice 2 2 [(.int .i64 0), (.int .i64 0)] [(0, 2, (.t 8)), (2, 2, (.t 9))],
 oo 11 <| .call nQq [(ki 4), (.t 10)],
 oo 7 <| .mv (.t 11),
 oo 12 <| .ext 0 (.t 7),
 oo 13 <| .ext 1 (.t 7),
 oo 1 <| .new [(.int .i64 0), (.own 2 [])],
 oz <| .st 2 (.t 1) (.t 12),
 oo 2 <| .mv (.t 13)]
def rQcX2 : List O := [
 oo 15 <| .ld (some 2) (.t 1),
 oo 16 <| .call nQf [(.t 15), (ki 9)],
 oo 14 <| .mv (.t 16),
 oo 17 <| .ext 0 (.t 14),
 oo 18 <| .ext 1 (.t 14),
 oo 3 <| .mv (.t 17),
 oo 4 <| .mv (.t 18)]
def rQcX3 : List O := [
 oo 20 <| .ld (some 2) (.t 1),
 oo 21 <| .bslice 1 1 [(.int .i64 0)] [(0, 1, (ki 2))],
 oo 22 <| .call nQo [(.t 20), (.t 21)],
 oo 19 <| .mv (.t 22),
 oo 23 <| .ext 0 (.t 19),
 oo 24 <| .ext 1 (.t 19),
 oo 5 <| .mv (.t 23),
 oo 6 <| .mv (.t 24)]
def rQcX4 : List O := [
 oo 25 <| .mv (.t 4),
 oo 26 <| .bin .eql (.t 25) (ki 0),
 oo 27 <| .mv (.t 26),
 ⟨(some 28), (some (27, true)), .mv (.t 3)⟩,
 ⟨(some 29), (some (27, true)), .len (.t 28)⟩,
 ⟨(some 30), (some (27, true)), .bin .eql (.t 29) (ki 3)⟩,
 oo 31 <| .pick (.t 27) (.t 30) (.k (.bool false)),
 oo 32 <| .mv (.t 31),
 ⟨(some 33), (some (32, true)), .mv (.t 3)⟩,
 ⟨(some 34), (some (32, true)), .ixa 1 (.t 33) (ki 1)⟩,
 ⟨(some 35), (some (32, true)), .ld none (.t 34)⟩,
 ⟨(some 36), (some (32, true)), .bslice 1 2 [(.int .i64 0)] [(0, 1, (ki 1)), (1, 1, (ki 2))]⟩,
 ⟨(some 37), (some (32, true)), .call nQj [(.t 35), (.t 36)]⟩,
 ⟨(some 38), (some (32, true)), .bin .eql (.t 37) (ki 0)⟩,
 oo 39 <| .pick (.t 32) (.t 38) (.k (.bool false)),
 oo 40 <| .mv (.t 39),
 ⟨(some 41), (some (40, true)), .mv (.t 3)⟩,
 ⟨(some 42), (some (40, true)), .ixa 1 (.t 41) (ki 2)⟩,
 ⟨(some 43), (some (40, true)), .ld none (.t 42)⟩,
 ⟨(some 44), (some (40, true)), .bslice 1 1 [(.int .i64 0)] [(0, 1, (ki 3))]⟩,
 ⟨(some 45), (some (40, true)), .call nQj [(.t 43), (.t 44)]⟩,
 ⟨(some 46), (some (40, true)), .bin .eql (.t 45) (ki 0)⟩,
 oo 47 <| .pick (.t 40) (.t 46) (.k (.bool false)),
 oo 48 <| .mv (.t 47),
 ⟨(some 49), (some (48, true)), .mv (.t 6)⟩,
 ⟨(some 50), (some (48, true)), .bin .eql (.t 49) (ki 0)⟩,
 oo 51 <| .pick (.t 48) (.t 50) (.k (.bool false)),
 oo 52 <| .mv (.t 51),
 ⟨(some 53), (some (52, true)), .mv (.t 5)⟩,
 ⟨(some 54), (some (52, true)), .bslice 1 2 [(.int .i64 0)] [(0, 1, (ki 1)), (1, 1, (ki 2))]⟩,
 ⟨(some 55), (some (52, true)), .call nQj [(.t 53), (.t 54)]⟩,
 ⟨(some 56), (some (52, true)), .bin .eql (.t 55) (ki 0)⟩,
 oo 57 <| .pick (.t 52) (.t 56) (.k (.bool false)),
 oo 58 <| .mv (.t 57),
 ⟨(some 59), (some (58, true)), .ld (some 2) (.t 1)⟩,
 ⟨(some 60), (some (58, true)), .mv (.t 3)⟩,
 ⟨(some 61), (some (58, true)), .call nQr [(.t 59), (.t 60)]⟩,
 oo 62 <| .pick (.t 58) (.t 61) (.k (.bool false)),
 oo 0 <| .mv (.t 62)]
def cQc : C := (.seq (.reg rQcX0 false [] []) (.seq (.reg rQcX1 false [] [1]) (.seq (.reg rQcX2 false [] [1, 3, 4]) (.seq (.reg rQcX3 false [] [1, 3, 4, 5, 6]) (.seq (.reg rQcX4 false [] [0]) .ret)))))
def qQc : AFn := ⟨63, 0, [.t 0], cQc⟩
/- cohesion/cohesionmake.New -/
def rQdX0 : List O := [
 oo 2 <| .mv (.k .nilp)]
def rQdX1 : List O := [
 oo 3 <| .mv (.t 0),
 oo 4 <| .build [(.own 1 []), (.int .i64 0)] [(0, 1, (.t 3))],
 oo 5 <| .box (.t 4),
 oo 2 <| .mv (.t 5)]
def cQd : C := (.seq (.reg rQdX0 false [] [0]) (.seq (.reg rQdX1 false [] [2]) .ret))
def qQd : AFn := ⟨6, 1, [.t 2], cQd⟩
/- cohesion/cohesionmake.Graph -/
def rQeX0 : List O := [
 oo 4 <| .new [(.int .i64 0), (.own 2 [])]]
def rQeX1 : List O := [
 oo 9 <| .mv (.t 0),
 oo 10 <| .mv (.t 1),
 oo 11 <| .bin .add (.t 10) (ki 1),
 oo 12 <| .call nQs [(.t 9), (.t 11)],
 oo 13 <| .build [(.int .i64 0), (.own 2 [])] [(0, 1, (.t 12))],
 oo 5 <| .new [(.int .i64 0), (.own 2 [])],
 oz <| .st 2 (.t 5) (.t 13)]
def rQeX2 : List O := [
 oo 14 <| .fad 0 (.t 5),
 oo 15 <| .ld none (.t 14),
 oo 16 <| .bin .lss (.t 15) (ki 4)]
def rQeX3 : List O := [
 oo 17 <| .mv (.t 1),
 oo 18 <| .fad 0 (.t 5),
 oo 19 <| .ld none (.t 18),
 oo 20 <| .mv (.t 0),
 oo 21 <| .mv (.t 1),
 oo 22 <| .bin .add (.t 21) (ki 1),
 oo 23 <| .call nQs [(.t 20), (.t 22)],
 oo 24 <| .bin .add (.t 19) (.t 23),
 oo 25 <| .min [(.t 17), (.t 24)],
 oo 26 <| .fad 0 (.t 5),
 oz <| .st 1 (.t 26) (.t 25)]
def rQeX4 : List O := [
 oo 27 <| .mv (.t 0),
 oo 28 <| .call nQs [(.t 27), (ki 4)],
 oo 29 <| .bin .add (ki 1) (.t 28),
 oo 6 <| .mv (.t 29)]
def rQeX5 : List O := [
 oo 7 <| .mv (ki 0)]
def rQeX6 : List O := [
 oo 30 <| .mv (.t 7),
 oo 31 <| .fad 0 (.t 5),
 oo 32 <| .ld none (.t 31),
 oo 33 <| .bin .lss (.t 30) (.t 32)]
def rQeX7 : List O := [
 oo 36 <| .mv (.t 7),
 oo 37 <| .bin .add (.t 36) (ki 1),
 oo 8 <| .mv (.t 37)]
def rQeX8 : List O := [
 oo 38 <| .mv (.t 8),
 oo 39 <| .fad 0 (.t 5),
 oo 40 <| .ld none (.t 39),
 oo 41 <| .bin .lss (.t 38) (.t 40)]
def rQeX9 : List O := [
 oo 44 <| .mv (.t 0),
 oo 45 <| .call nQs [(.t 44), (ki 5)],
 oo 46 <| .mv (.t 6),
 oo 47 <| .bin .sub (ki 5) (.t 46),
 oo 48 <| .bin .geq (.t 45) (.t 47)]
def rQeX10 : List O := [
 oo 49 <| .fad 1 (.t 5),
 oo 50 <| .ld none (.t 49),
 oo 51 <| .mv (.t 7),
 oo 52 <| .mv (.t 8),
 oo 53 <| .build [(.int .i64 0), (.int .i64 0)] [(0, 1, (.t 51)), (1, 1, (.t 52))],
 oo 54 <| .bslice 2 1 [(.int .i64 0), (.int .i64 0)] [(0, 2, (.t 53))],
 oo 55 <| .app 2 (.t 50) (.t 54),
 oo 56 <| .fad 1 (.t 5),
 oz <| .st 1 (.t 56) (.t 55)]
def rQeX11 : List O := [
 oo 42 <| .mv (.t 8),
 oo 43 <| .bin .add (.t 42) (ki 1),
 oo 8 <| .mv (.t 43)]
def lQeX0 : C := (.seq (.seq (.reg rQeX8 false [] [0, 4, 5, 6, 7, 8, 41]) (.cond (.t 41) .skip (.exit 2))) (.seq (.blk 3 (.seq (.reg rQeX9 false [] [0, 4, 5, 6, 7, 8, 48]) (.cond (.t 48) (.reg rQeX10 false [] [0, 4, 5, 6, 7, 8]) .skip))) (.reg rQeX11 false [] [0, 4, 5, 6, 7, 8])))
def rQeX12 : List O := [
 oo 34 <| .mv (.t 7),
 oo 35 <| .bin .add (.t 34) (ki 1),
 oo 7 <| .mv (.t 35)]
def lQeX1 : C := (.seq (.seq (.reg rQeX6 false [] [0, 4, 5, 6, 7, 33]) (.cond (.t 33) .skip (.exit 0))) (.seq (.blk 1 (.seq (.reg rQeX7 false [] [0, 4, 5, 6, 7, 8]) (.blk 2 (.loop lQeX0)))) (.reg rQeX12 false [] [0, 4, 5, 6, 7])))
def rQeX13 : List O := [
 oo 57 <| .ld (some 2) (.t 5),
 oz <| .st 2 (.t 4) (.t 57)]
def cQe : C := (.seq (.reg rQeX0 false [] [0, 1, 4]) (.seq (.reg rQeX1 false [] [0, 1, 4, 5]) (.seq (.seq (.reg rQeX2 false [] [0, 1, 4, 5, 16]) (.cond (.t 16) (.reg rQeX3 true [(8, 8), (9, 9), (10, 10), (0, 2), (2, 3), (2, 4), (2, 5), (0, 6), (1, 6), (2, 6)] [0, 4, 5]) .skip)) (.seq (.reg rQeX4 false [] [0, 4, 5, 6]) (.seq (.seq (.reg rQeX5 false [] [0, 4, 5, 6, 7]) (.blk 0 (.loop lQeX1))) (.seq (.reg rQeX13 false [] [4]) .ret))))))
def qQe : AFn := ⟨58, 2, [.c 4 (some 2)], cQe⟩
/- cohesion/cliques.All -/
def rQfX0 : List O := [
 oo 2 <| .box (.t 0),
 oo 3 <| .box (.t 1),
 oo 4 <| .mv (.k (.own 1 [])),
 oo 5 <| .mv (ki 0)]
def rQfX1 : List O := [
 oo 8 <| .ld (some 2) (.t 2),
 oo 9 <| .call nQt [(.t 8)],
 oo 6 <| .mv (.t 9)]
def rQfX2 : List O := [
 oo 10 <| .mv (.t 6),
 oo 11 <| .bin .neq (.t 10) (ki 0)]
def rQfX3 : List O := [
 oo 12 <| .mv (.t 6),
 oo 4 <| .mv (.k (.own 1 [])),
 oo 5 <| .mv (.t 12)]
def rQfX4 : List O := [
 oo 13 <| .ld none (.t 3),
 oo 14 <| .bin .lss (.t 13) (ki 0),
 oo 15 <| .mv (.t 14),
 ⟨(some 16), (some (15, false)), .ld none (.t 3)⟩,
 ⟨(some 17), (some (15, false)), .bin .gtr (.t 16) (ki 4096)⟩,
 oo 18 <| .pick (.t 15) (.k (.bool true)) (.t 17)]
def rQfX5 : List O := [
 oo 4 <| .mv (.k (.own 1 [])),
 oo 5 <| .mv (ki 1)]
def rQfX6 : List O := [
 oo 7 <| .new [(.own 1 [])]]
def rQfX7 : List O := [
 oo 19 <| .ld (some 2) (.t 2),
 oo 20 <| .mkf (.func nQv) [] [(.t 7), (.t 3)],
 oo 21 <| .call nQu [(.t 19), (.k (.own 1 [])), (.t 20)]]
def rQfX8 : List O := [
 oo 22 <| .ld none (.t 7),
 oo 23 <| .len (.t 22),
 oo 24 <| .ld none (.t 3),
 oo 25 <| .bin .gtr (.t 23) (.t 24)]
def rQfX9 : List O := [
 oo 4 <| .mv (.k (.own 1 [])),
 oo 5 <| .mv (ki 3)]
def rQfX10 : List O := [
 oo 26 <| .ld none (.t 7),
 oo 4 <| .mv (.t 26),
 oo 5 <| .mv (ki 0)]
def cQf : C := (.seq (.reg rQfX0 false [] [2, 3]) (.seq (.seq (.reg rQfX1 false [] [2, 3, 6]) (.seq (.reg rQfX2 false [] [2, 3, 6, 11]) (.cond (.t 11) (.seq (.reg rQfX3 false [] [4, 5]) .ret) .skip))) (.seq (.seq (.reg rQfX4 false [] [2, 3, 18]) (.cond (.t 18) (.seq (.reg rQfX5 false [] [4, 5]) .ret) .skip)) (.seq (.reg rQfX6 false [] [2, 3, 7]) (.seq (.reg rQfX7 false [] [3, 7]) (.seq (.seq (.reg rQfX8 false [] [7, 25]) (.cond (.t 25) (.seq (.reg rQfX9 false [] [4, 5]) .ret) .skip)) (.seq (.reg rQfX10 false [] [4, 5]) .ret)))))))
def qQf : AFn := ⟨27, 2, [.t 4, .t 5], cQf⟩
/- cohesion/cliques.Maximal -/
def rQgX0 : List O := [
 oo 2 <| .box (.t 0),
 oo 4 <| .mv (.k (.bool false))]
def rQgX1 : List O := [
 oo 5 <| .mv (.t 1),
 oo 6 <| .len (.t 5),
 oo 7 <| .bin .gtr (.t 6) (ki 0),
 oo 8 <| .mv (.t 7),
 ⟨(some 9), (some (8, true)), .ld (some 2) (.t 2)⟩,
 ⟨(some 10), (some (8, true)), .mv (.t 1)⟩,
 ⟨(some 11), (some (8, true)), .call nQn [(.t 9), (.t 10)]⟩,
 oo 12 <| .pick (.t 8) (.t 11) (.k (.bool false)),
 oo 13 <| .mv (.t 12),
 ⟨(some 14), (some (13, true)), .ld (some 2) (.t 2)⟩,
 ⟨(some 15), (some (13, true)), .call nQx [(.t 14)]⟩,
 ⟨(some 16), (some (13, true)), .mv (.t 1)⟩,
 ⟨(some 17), (some (13, true)), .call nQw [(.t 15), (.t 16)]⟩,
 ⟨(some 18), (some (13, true)), .bin .eql (.t 17) (.k (.int .u64 0))⟩,
 oo 19 <| .pick (.t 13) (.t 18) (.k (.bool false)),
 oo 4 <| .mv (.t 19)]
def cQg : C := (.seq (.reg rQgX0 false [] [1, 2]) (.seq (.reg rQgX1 false [] [4]) .ret))
def qQg : AFn := ⟨20, 2, [.t 4], cQg⟩
/- cohesion/graph.Of -/
def rQhX0 : List O := [
 oo 4 <| .new [(.int .i64 0), (.own 2 [])],
 oo 5 <| .mv (ki 0)]
def rQhX1 : List O := [
 oo 9 <| .mv (.t 0),
 oo 10 <| .bin .lss (.t 9) (ki 0),
 oo 11 <| .mv (.t 10),
 ⟨(some 12), (some (11, false)), .mv (.t 0)⟩,
 ⟨(some 13), (some (11, false)), .bin .gtr (.t 12) (ki 64)⟩,
 oo 14 <| .pick (.t 11) (.k (.bool true)) (.t 13)]
def rQhX2 : List O := [
 oo 15 <| .build [(.int .i64 0), (.own 2 [])] [],
 oz <| .st 2 (.t 4) (.t 15),
 oo 5 <| .mv (ki 1)]
def rQhX3 : List O := [
 oo 16 <| .mv (.t 0),
 oo 17 <| .build [(.int .i64 0), (.own 2 [])] [(0, 1, (.t 16))],
 oo 6 <| .new [(.int .i64 0), (.own 2 [])],
 oz <| .st 2 (.t 6) (.t 17)]
def rQhX4 : List O := [
 oo 18 <| .mv (.t 1),
 oo 19 <| .len (.t 18),
 oo 20 <| .mv (ki 0)]
def rQhX5 : List O := [
 oo 21 <| .bin .lss (.t 20) (.t 19)]
def rQhX6 : List O := [
 oo 22 <| .ixa 2 (.t 18) (.t 20),
 oo 23 <| .ld (some 2) (.t 22),
 oo 8 <| .new [(.int .i64 0), (.int .i64 0)],
 oz <| .st 2 (.t 8) (.t 23)]
def rQhX7 : List O := [
 oo 24 <| .mv (.t 0),
 oo 25 <| .fad 0 (.t 8),
 oo 26 <| .ld none (.t 25),
 oo 27 <| .fad 1 (.t 8),
 oo 28 <| .ld none (.t 27),
 oo 29 <| .call nQy [(.t 24), (.t 26), (.t 28)],
 oo 30 <| .un .not (.t 29)]
def rQhX8 : List O := [
 oo 31 <| .build [(.int .i64 0), (.own 2 [])] [],
 oz <| .st 2 (.t 4) (.t 31),
 oo 5 <| .mv (ki 6)]
def rQhX9 : List O := [
 oo 32 <| .fad 1 (.t 6),
 oo 33 <| .ld none (.t 32),
 oo 34 <| .fad 0 (.t 8),
 oo 35 <| .ld none (.t 34),
 oo 36 <| .fad 1 (.t 8),
 oo 37 <| .ld none (.t 36),
 oo 38 <| .call nQz [(.t 35), (.t 37)],
 oo 39 <| .bslice 2 1 [(.int .i64 0), (.int .i64 0)] [(0, 2, (.t 38))],
 oo 40 <| .app 2 (.t 33) (.t 39),
 oo 41 <| .fad 1 (.t 6),
 oz <| .st 1 (.t 41) (.t 40)]
def rQhX10 : List O := [
 oo 42 <| .bin .add (.t 20) (ki 1),
 oo 20 <| .mv (.t 42)]
def lQhX0 : C := (.seq (.reg rQhX5 false [] [0, 4, 6, 18, 19, 20, 21]) (.seq (.cond (.t 21) .skip (.exit 0)) (.seq (.blk 1 (.seq (.reg rQhX6 false [] [0, 4, 6, 8, 18, 19, 20]) (.seq (.seq (.reg rQhX7 false [] [0, 4, 6, 8, 18, 19, 20, 30]) (.cond (.t 30) (.seq (.reg rQhX8 false [] [4, 5]) .ret) .skip)) (.reg rQhX9 true [(8, 8), (9, 9), (10, 10), (1, 2), (0, 3), (1, 3), (1, 4), (3, 4), (0, 5), (1, 5), (2, 5), (3, 5), (0, 6), (1, 6), (0, 7), (1, 7)] [0, 4, 6, 18, 19, 20])))) (.reg rQhX10 false [] [0, 4, 6, 18, 19, 20]))))
def rQhX11 : List O := [
 oo 43 <| .fad 1 (.t 6),
 oo 44 <| .ld none (.t 43),
 oo 45 <| .call nQA [(.t 44), (.k (.func (.func nQB) [] []))]]
def rQhX12 : List O := [
 oo 46 <| .fad 1 (.t 6),
 oo 47 <| .ld none (.t 46),
 oo 48 <| .call nQC [(.t 47)],
 oo 49 <| .fad 1 (.t 6),
 oz <| .st 1 (.t 49) (.t 48)]
def rQhX13 : List O := [
 oo 50 <| .ld (some 2) (.t 6),
 oz <| .st 2 (.t 4) (.t 50),
 oo 5 <| .mv (ki 0)]
def cQh : C := (.seq (.reg rQhX0 false [] [0, 1, 4]) (.seq (.seq (.reg rQhX1 false [] [0, 1, 4, 14]) (.cond (.t 14) (.seq (.reg rQhX2 false [] [4, 5]) .ret) .skip)) (.seq (.reg rQhX3 false [] [0, 1, 4, 6]) (.seq (.seq (.reg rQhX4 false [] [0, 4, 6, 18, 19, 20]) (.blk 0 (.loop lQhX0))) (.seq (.reg rQhX11 false [] [4, 6]) (.seq (.reg rQhX12 false [] [4, 6]) (.seq (.reg rQhX13 false [] [4, 5]) .ret)))))))
def qQh : AFn := ⟨51, 2, [.c 4 (some 2), .t 5], cQh⟩
/- cohesion/cohesionref03.Same -/
def rQiX0 : List O := [
 oo 2 <| .box (.t 0),
 oo 3 <| .box (.t 1),
 oo 4 <| .mv (.k (.bool false))]
def rQiX1 : List O := [
 oo 5 <| .fad 0 (.t 2),
 oo 6 <| .ld none (.t 5),
 oo 7 <| .fad 0 (.t 3),
 oo 8 <| .ld none (.t 7),
 oo 9 <| .bin .eql (.t 6) (.t 8),
 oo 10 <| .mv (.t 9),
 ⟨(some 11), (some (10, true)), .fad 1 (.t 2)⟩,
 ⟨(some 12), (some (10, true)), .ld none (.t 11)⟩,
 ⟨(some 13), (some (10, true)), .fad 1 (.t 3)⟩,
 ⟨(some 14), (some (10, true)), .ld none (.t 13)⟩,
 ⟨(some 15), (some (10, true)), .call nQD [(.t 12), (.t 14)]⟩,
 oo 16 <| .pick (.t 10) (.t 15) (.k (.bool false)),
 oo 4 <| .mv (.t 16)]
def cQi : C := (.seq (.reg rQiX0 false [] [2, 3]) (.seq (.reg rQiX1 false [] [4]) .ret))
def qQi : AFn := ⟨17, 2, [.t 4], cQi⟩
/- cohesion/cohesionref02.Cmp -/
def rQjX0 : List O := [
 oo 4 <| .mv (ki 0)]
def rQjX1 : List O := [
 oo 6 <| .mv (.t 0),
 oo 7 <| .len (.t 6),
 oo 8 <| .mv (ki 0)]
def rQjX2 : List O := [
 oo 9 <| .bin .lss (.t 8) (.t 7)]
def rQjX3 : List O := [
 oo 10 <| .mv (.t 8),
 oo 5 <| .mv (.t 10)]
def rQjX4 : List O := [
 oo 12 <| .mv (.t 5),
 oo 13 <| .mv (.t 1),
 oo 14 <| .len (.t 13),
 oo 15 <| .bin .geq (.t 12) (.t 14),
 oo 16 <| .mv (.t 15),
 ⟨(some 17), (some (16, false)), .mv (.t 0)⟩,
 ⟨(some 18), (some (16, false)), .mv (.t 5)⟩,
 ⟨(some 19), (some (16, false)), .ixa 1 (.t 17) (.t 18)⟩,
 ⟨(some 20), (some (16, false)), .ld none (.t 19)⟩,
 ⟨(some 21), (some (16, false)), .mv (.t 1)⟩,
 ⟨(some 22), (some (16, false)), .mv (.t 5)⟩,
 ⟨(some 23), (some (16, false)), .ixa 1 (.t 21) (.t 22)⟩,
 ⟨(some 24), (some (16, false)), .ld none (.t 23)⟩,
 ⟨(some 25), (some (16, false)), .bin .gtr (.t 20) (.t 24)⟩,
 oo 26 <| .pick (.t 16) (.k (.bool true)) (.t 25),
 oo 11 <| .mv (.t 26)]
def rQjX5 : List O := [
 oo 4 <| .mv (ki 1)]
def rQjX6 : List O := [
 oo 28 <| .mv (.t 0),
 oo 29 <| .mv (.t 5),
 oo 30 <| .ixa 1 (.t 28) (.t 29),
 oo 31 <| .ld none (.t 30),
 oo 32 <| .mv (.t 1),
 oo 33 <| .mv (.t 5),
 oo 34 <| .ixa 1 (.t 32) (.t 33),
 oo 35 <| .ld none (.t 34),
 oo 36 <| .bin .lss (.t 31) (.t 35),
 oo 27 <| .mv (.t 36)]
def rQjX7 : List O := [
 oo 4 <| .mv (.k (.int .i64 (-1)))]
def rQjX8 : List O := [
 oo 37 <| .bin .add (.t 8) (ki 1),
 oo 8 <| .mv (.t 37)]
def lQjX0 : C := (.seq (.reg rQjX2 false [] [0, 1, 7, 8, 9]) (.seq (.cond (.t 9) .skip (.exit 0)) (.seq (.blk 1 (.seq (.reg rQjX3 false [] [0, 1, 5, 7, 8]) (.blk 2 (.seq (.reg rQjX4 true [(3, 3), (4, 4), (13, 13), (14, 14), (15, 15), (8, 9), (8, 10), (8, 11), (5, 12), (6, 12), (7, 12), (8, 12)] [0, 1, 5, 7, 8, 11]) (.cond (.t 11) (.seq (.reg rQjX5 false [] [4]) .ret) (.seq (.reg rQjX6 true [(8, 8), (9, 9), (3, 4), (3, 5), (3, 6), (0, 7), (1, 7), (2, 7), (3, 7)] [0, 1, 7, 8, 27]) (.cond (.t 27) (.seq (.reg rQjX7 false [] [4]) .ret) .skip))))))) (.reg rQjX8 false [] [0, 1, 7, 8]))))
def rQjX9 : List O := [
 oo 38 <| .mv (.t 0),
 oo 39 <| .len (.t 38),
 oo 40 <| .mv (.t 1),
 oo 41 <| .len (.t 40),
 oo 42 <| .bin .lss (.t 39) (.t 41)]
def rQjX10 : List O := [
 oo 4 <| .mv (.k (.int .i64 (-1)))]
def rQjX11 : List O := [
 oo 4 <| .mv (ki 0)]
def cQj : C := (.seq (.reg rQjX0 false [] [0, 1]) (.seq (.seq (.reg rQjX1 false [] [0, 1, 7, 8]) (.blk 0 (.loop lQjX0))) (.seq (.seq (.reg rQjX9 false [] [42]) (.cond (.t 42) (.seq (.reg rQjX10 false [] [4]) .ret) .skip)) (.seq (.reg rQjX11 false [] [4]) .ret))))
def qQj : AFn := ⟨43, 2, [.t 4], cQj⟩
/- cohesion/cohesionref02.Of -/
def rQkX0 : List O := [
 oo 2 <| .mv (.k (.own 1 []))]
def rQkX1 : List O := [
 oo 3 <| .mv (.k (.own 1 []))]
def rQkX2 : List O := [
 oo 6 <| .mv (.t 0),
 oo 7 <| .len (.t 6),
 oo 8 <| .mv (ki 0)]
def rQkX3 : List O := [
 oo 9 <| .bin .lss (.t 8) (.t 7)]
def rQkX4 : List O := [
 oo 10 <| .ixa 1 (.t 6) (.t 8),
 oo 11 <| .ld none (.t 10),
 oo 5 <| .mv (.t 11)]
def rQkX5 : List O := [
 oo 12 <| .mv (.t 3),
 oo 13 <| .mv (.t 5),
 oo 14 <| .call nQE [(.t 12), (.t 13)],
 oo 3 <| .mv (.t 14)]
def rQkX6 : List O := [
 oo 15 <| .bin .add (.t 8) (ki 1),
 oo 8 <| .mv (.t 15)]
def lQkX0 : C := (.seq (.reg rQkX3 false [] [3, 6, 7, 8, 9]) (.seq (.cond (.t 9) .skip (.exit 0)) (.seq (.blk 1 (.seq (.reg rQkX4 false [] [3, 5, 6, 7, 8]) (.reg rQkX5 false [] [3, 6, 7, 8]))) (.reg rQkX6 false [] [3, 6, 7, 8]))))
def rQkX7 : List O := [
 oo 16 <| .mv (.t 3),
 oo 2 <| .mv (.t 16)]
def cQk : C := (.seq (.reg rQkX0 false [] [0]) (.seq (.reg rQkX1 false [] [0, 3]) (.seq (.seq (.reg rQkX2 false [] [3, 6, 7, 8]) (.blk 0 (.loop lQkX0))) (.seq (.reg rQkX7 false [] [2]) .ret))))
def qQk : AFn := ⟨17, 1, [.t 2], cQk⟩
/- cohesion/cohesionref02.Range -/
def rQlX0 : List O := [
 oo 2 <| .mv (.k (.own 1 []))]
def rQlX1 : List O := [
 oo 3 <| .mv (.k (.own 1 []))]
def rQlX2 : List O := [
 oo 4 <| .mv (ki 0)]
def rQlX3 : List O := [
 oo 5 <| .mv (.t 4),
 oo 6 <| .mv (.t 0),
 oo 7 <| .bin .lss (.t 5) (.t 6),
 oo 8 <| .mv (.t 7),
 ⟨(some 9), (some (8, true)), .mv (.t 4)⟩,
 ⟨(some 10), (some (8, true)), .bin .lss (.t 9) (ki 64)⟩,
 oo 11 <| .pick (.t 8) (.t 10) (.k (.bool false))]
def rQlX4 : List O := [
 oo 14 <| .mv (.t 3),
 oo 15 <| .mv (.t 4),
 oo 16 <| .bslice 1 1 [(.int .i64 0)] [(0, 1, (.t 15))],
 oo 17 <| .app 1 (.t 14) (.t 16),
 oo 3 <| .mv (.t 17)]
def rQlX5 : List O := [
 oo 12 <| .mv (.t 4),
 oo 13 <| .bin .add (.t 12) (ki 1),
 oo 4 <| .mv (.t 13)]
def lQlX0 : C := (.seq (.seq (.reg rQlX3 false [] [0, 3, 4, 11]) (.cond (.t 11) .skip (.exit 0))) (.seq (.blk 1 (.reg rQlX4 false [] [0, 3, 4])) (.reg rQlX5 false [] [0, 3, 4])))
def rQlX6 : List O := [
 oo 18 <| .mv (.t 3),
 oo 2 <| .mv (.t 18)]
def cQl : C := (.seq (.reg rQlX0 false [] [0]) (.seq (.reg rQlX1 false [] [0, 3]) (.seq (.seq (.reg rQlX2 false [] [0, 3, 4]) (.blk 0 (.loop lQlX0))) (.seq (.reg rQlX6 false [] [2]) .ret))))
def qQl : AFn := ⟨19, 1, [.t 2], cQl⟩
/- cohesion/cohesionmake.Set -/
def rQmX0 : List O := [
 oo 4 <| .mv (.k (.own 1 []))]
def rQmX1 : List O := [
 oo 5 <| .mv (.k (.own 1 []))]
def rQmX2 : List O := [
 oo 6 <| .mv (ki 0)]
def rQmX3 : List O := [
 oo 7 <| .mv (.t 6),
 oo 8 <| .mv (.t 1),
 oo 9 <| .bin .lss (.t 7) (.t 8)]
def rQmX4 : List O := [
 oo 12 <| .mv (.t 0),
 oo 13 <| .call nQs [(.t 12), (ki 2)],
 oo 14 <| .bin .eql (.t 13) (ki 1)]
def rQmX5 : List O := [
 oo 15 <| .mv (.t 5),
 oo 16 <| .mv (.t 6),
 oo 17 <| .bslice 1 1 [(.int .i64 0)] [(0, 1, (.t 16))],
 oo 18 <| .app 1 (.t 15) (.t 17),
 oo 5 <| .mv (.t 18)]
def rQmX6 : List O := [
 oo 10 <| .mv (.t 6),
 oo 11 <| .bin .add (.t 10) (ki 1),
 oo 6 <| .mv (.t 11)]
def lQmX0 : C := (.seq (.seq (.reg rQmX3 false [] [0, 1, 5, 6, 9]) (.cond (.t 9) .skip (.exit 0))) (.seq (.blk 1 (.seq (.reg rQmX4 false [] [0, 1, 5, 6, 14]) (.cond (.t 14) (.reg rQmX5 false [] [0, 1, 5, 6]) .skip))) (.reg rQmX6 false [] [0, 1, 5, 6])))
def rQmX7 : List O := [
 oo 19 <| .mv (.t 5),
 oo 4 <| .mv (.t 19)]
def cQm : C := (.seq (.reg rQmX0 false [] [0, 1]) (.seq (.reg rQmX1 false [] [0, 1, 5]) (.seq (.seq (.reg rQmX2 false [] [0, 1, 5, 6]) (.blk 0 (.loop lQmX0))) (.seq (.reg rQmX7 false [] [4]) .ret))))
def qQm : AFn := ⟨20, 2, [.t 4], cQm⟩
/- cohesion/cliques.Is -/
def rQnX0 : List O := [
 oo 2 <| .box (.t 0),
 oo 4 <| .mv (.k (.bool false))]
def rQnX1 : List O := [
 oo 5 <| .ld (some 2) (.t 2),
 oo 6 <| .call nQt [(.t 5)],
 oo 7 <| .bin .eql (.t 6) (ki 0),
 oo 8 <| .mv (.t 7),
 ⟨(some 9), (some (8, true)), .mv (.t 1)⟩,
 ⟨(some 10), (some (8, true)), .fad 0 (.t 2)⟩,
 ⟨(some 11), (some (8, true)), .ld none (.t 10)⟩,
 ⟨(some 12), (some (8, true)), .call nQF [(.t 9), (.t 11)]⟩,
 oo 13 <| .pick (.t 8) (.t 12) (.k (.bool false)),
 oo 14 <| .mv (.t 13),
 ⟨(some 15), (some (14, true)), .ld (some 2) (.t 2)⟩,
 ⟨(some 16), (some (14, true)), .call nQx [(.t 15)]⟩,
 ⟨(some 17), (some (14, true)), .mv (.t 1)⟩,
 ⟨(some 18), (some (14, true)), .call nQG [(.t 16), (.t 17)]⟩,
 oo 19 <| .pick (.t 14) (.t 18) (.k (.bool false)),
 oo 4 <| .mv (.t 19)]
def cQn : C := (.seq (.reg rQnX0 false [] [1, 2]) (.seq (.reg rQnX1 false [] [4]) .ret))
def qQn : AFn := ⟨20, 2, [.t 4], cQn⟩
/- cohesion/cliques.Extend -/
def rQoX0 : List O := [
 oo 2 <| .box (.t 0),
 oo 4 <| .mv (.k (.own 1 [])),
 oo 5 <| .mv (ki 0)]
def rQoX1 : List O := [
 oo 11 <| .ld (some 2) (.t 2),
 oo 12 <| .call nQt [(.t 11)],
 oo 6 <| .mv (.t 12)]
def rQoX2 : List O := [
 oo 13 <| .mv (.t 6),
 oo 14 <| .bin .neq (.t 13) (ki 0)]
def rQoX3 : List O := [
 oo 15 <| .mv (.t 6),
 oo 4 <| .mv (.k (.own 1 [])),
 oo 5 <| .mv (.t 15)]
def rQoX4 : List O := [
 oo 16 <| .ld (some 2) (.t 2),
 oo 17 <| .mv (.t 1),
 oo 18 <| .call nQn [(.t 16), (.t 17)],
 oo 19 <| .un .not (.t 18)]
def rQoX5 : List O := [
 oo 4 <| .mv (.k (.own 1 [])),
 oo 5 <| .mv (ki 4)]
def rQoX6 : List O := [
 oo 20 <| .fad 0 (.t 2),
 oo 21 <| .ld none (.t 20),
 oo 22 <| .bin .eql (.t 21) (ki 0)]
def rQoX7 : List O := [
 oo 4 <| .mv (.k (.own 1 [])),
 oo 5 <| .mv (ki 13)]
def rQoX8 : List O := [
 oo 23 <| .ld (some 2) (.t 2),
 oo 24 <| .call nQx [(.t 23)],
 oo 25 <| .mv (.t 1),
 oo 26 <| .call nQH [(.t 25)],
 oo 7 <| .mv (.t 24),
 oo 8 <| .mv (.t 26)]
def rQoX9 : List O := [
 oo 27 <| .mv (.t 7),
 oo 28 <| .mv (.t 8),
 oo 29 <| .call nQw [(.t 27), (.t 28)],
 oo 9 <| .mv (.t 29)]
def rQoX10 : List O := [
 oo 30 <| .mv (.t 9),
 oo 31 <| .bin .neq (.t 30) (.k (.int .u64 0))]
def rQoX11 : List O := [
 oo 32 <| .mv (.t 9),
 oo 33 <| .call nQI [(.t 32)],
 oo 10 <| .mv (.t 33)]
def rQoX12 : List O := [
 oo 34 <| .mv (.t 8),
 oo 35 <| .mv (.t 10),
 oo 36 <| .bslice 1 1 [(.int .i64 0)] [(0, 1, (.t 35))],
 oo 37 <| .app 1 (.t 34) (.t 36),
 oo 8 <| .mv (.t 37)]
def rQoX13 : List O := [
 oo 38 <| .mv (.t 9),
 oo 39 <| .mv (.t 7),
 oo 40 <| .mv (.t 10),
 oo 41 <| .ixa 1 (.t 39) (.t 40),
 oo 42 <| .ld none (.t 41),
 oo 43 <| .bin .and (.t 38) (.t 42),
 oo 9 <| .mv (.t 43)]
def lQoX0 : C := (.seq (.seq (.reg rQoX10 false [] [7, 8, 9, 31]) (.cond (.t 31) .skip (.exit 0))) (.blk 1 (.seq (.reg rQoX11 false [] [7, 8, 9, 10]) (.seq (.reg rQoX12 false [] [7, 8, 9, 10]) (.reg rQoX13 false [] [7, 8, 9])))))
def rQoX14 : List O := [
 oo 44 <| .mv (.t 8),
 oo 45 <| .call nQJ [(.t 44)]]
def rQoX15 : List O := [
 oo 46 <| .mv (.t 8),
 oo 4 <| .mv (.t 46),
 oo 5 <| .mv (ki 0)]
def cQo : C := (.seq (.reg rQoX0 false [] [1, 2]) (.seq (.seq (.reg rQoX1 false [] [1, 2, 6]) (.seq (.reg rQoX2 false [] [1, 2, 6, 14]) (.cond (.t 14) (.seq (.reg rQoX3 false [] [4, 5]) .ret) .skip))) (.seq (.seq (.reg rQoX4 false [] [1, 2, 19]) (.cond (.t 19) (.seq (.reg rQoX5 false [] [4, 5]) .ret) .skip)) (.seq (.seq (.reg rQoX6 false [] [1, 2, 22]) (.cond (.t 22) (.seq (.reg rQoX7 false [] [4, 5]) .ret) .skip)) (.seq (.reg rQoX8 false [] [7, 8]) (.seq (.seq (.reg rQoX9 false [] [7, 8, 9]) (.blk 0 (.loop lQoX0))) (.seq (.reg rQoX14 false [] [8]) (.seq (.reg rQoX15 false [] [4, 5]) .ret))))))))
def qQo : AFn := ⟨47, 2, [.t 4, .t 5], cQo⟩
/- cohesion/cohesionref02.Within -/
def rQpX0 : List O := [
 oo 4 <| .mv (.k (.bool false))]
def rQpX1 : List O := [
 oo 7 <| .mv (.t 0),
 oo 8 <| .len (.t 7),
 oo 9 <| .mv (ki 0)]
def rQpX2 : List O := [
 oo 10 <| .bin .lss (.t 9) (.t 8)]
def rQpX3 : List O := [
 oo 11 <| .ixa 1 (.t 7) (.t 9),
 oo 12 <| .ld none (.t 11),
 oo 6 <| .mv (.t 12)]
def rQpX4 : List O := [
 oo 13 <| .mv (.t 1),
 oo 14 <| .mv (.t 6),
 oo 15 <| .call nQK [(.t 13), (.t 14)],
 oo 16 <| .un .not (.t 15)]
def rQpX5 : List O := [
 oo 4 <| .mv (.k (.bool false))]
def rQpX6 : List O := [
 oo 17 <| .bin .add (.t 9) (ki 1),
 oo 9 <| .mv (.t 17)]
def lQpX0 : C := (.seq (.reg rQpX2 false [] [1, 7, 8, 9, 10]) (.seq (.cond (.t 10) .skip (.exit 0)) (.seq (.blk 1 (.seq (.reg rQpX3 false [] [1, 6, 7, 8, 9]) (.seq (.reg rQpX4 false [] [1, 7, 8, 9, 16]) (.cond (.t 16) (.seq (.reg rQpX5 false [] [4]) .ret) .skip)))) (.reg rQpX6 false [] [1, 7, 8, 9]))))
def rQpX7 : List O := [
 oo 4 <| .mv (.k (.bool true))]
def cQp : C := (.seq (.reg rQpX0 false [] [0, 1]) (.seq (.seq (.reg rQpX1 false [] [1, 7, 8, 9]) (.blk 0 (.loop lQpX0))) (.seq (.reg rQpX7 false [] [4]) .ret)))
def qQp : AFn := ⟨18, 2, [.t 4], cQp⟩
/- cohesion/cohesionref03.Of -/
def rQqX0 : List O := [
 oo 4 <| .new [(.int .i64 0), (.own 2 [])],
 oo 5 <| .mv (ki 0)]
def rQqX1 : List O := [
 oo 9 <| .mv (.t 0),
 oo 10 <| .bin .lss (.t 9) (ki 0),
 oo 11 <| .mv (.t 10),
 ⟨(some 12), (some (11, false)), .mv (.t 0)⟩,
 ⟨(some 13), (some (11, false)), .bin .gtr (.t 12) (ki 64)⟩,
 oo 14 <| .pick (.t 11) (.k (.bool true)) (.t 13)]
def rQqX2 : List O := [
 oo 15 <| .build [(.int .i64 0), (.own 2 [])] [],
 oz <| .st 2 (.t 4) (.t 15),
 oo 5 <| .mv (ki 1)]
def rQqX3 : List O := [
 oo 16 <| .mv (.t 0),
 oo 17 <| .build [(.int .i64 0), (.own 2 [])] [(0, 1, (.t 16))],
 oo 6 <| .new [(.int .i64 0), (.own 2 [])],
 oz <| .st 2 (.t 6) (.t 17)]
def rQqX4 : List O := [
 oo 18 <| .mv (.t 1),
 oo 19 <| .len (.t 18),
 oo 20 <| .mv (ki 0)]
def rQqX5 : List O := [
 oo 21 <| .bin .lss (.t 20) (.t 19)]
def rQqX6 : List O := [
 oo 22 <| .ixa 2 (.t 18) (.t 20),
 oo 23 <| .ld (some 2) (.t 22),
 oo 8 <| .new [(.int .i64 0), (.int .i64 0)],
 oz <| .st 2 (.t 8) (.t 23)]
def rQqX7 : List O := [
 oo 24 <| .mv (.t 0),
 oo 25 <| .fad 0 (.t 8),
 oo 26 <| .ld none (.t 25),
 oo 27 <| .fad 1 (.t 8),
 oo 28 <| .ld none (.t 27),
 oo 29 <| .call nQL [(.t 24), (.t 26), (.t 28)],
 oo 30 <| .un .not (.t 29)]
def rQqX8 : List O := [
 oo 31 <| .build [(.int .i64 0), (.own 2 [])] [],
 oz <| .st 2 (.t 4) (.t 31),
 oo 5 <| .mv (ki 6)]
def rQqX9 : List O := [
 oo 32 <| .fad 1 (.t 6),
 oo 33 <| .ld none (.t 32),
 oo 34 <| .fad 0 (.t 8),
 oo 35 <| .ld none (.t 34),
 oo 36 <| .fad 1 (.t 8),
 oo 37 <| .ld none (.t 36),
 oo 38 <| .call nQN [(.t 35), (.t 37)],
 oo 39 <| .call nQM [(.t 33), (.t 38)],
 oo 40 <| .fad 1 (.t 6),
 oz <| .st 1 (.t 40) (.t 39)]
def rQqX10 : List O := [
 oo 41 <| .bin .add (.t 20) (ki 1),
 oo 20 <| .mv (.t 41)]
def lQqX0 : C := (.seq (.reg rQqX5 false [] [0, 4, 6, 18, 19, 20, 21]) (.seq (.cond (.t 21) .skip (.exit 0)) (.seq (.blk 1 (.seq (.reg rQqX6 false [] [0, 4, 6, 8, 18, 19, 20]) (.seq (.seq (.reg rQqX7 false [] [0, 4, 6, 8, 18, 19, 20, 30]) (.cond (.t 30) (.seq (.reg rQqX8 false [] [4, 5]) .ret) .skip)) (.reg rQqX9 true [(7, 7), (8, 8), (9, 9), (1, 2), (0, 3), (1, 3), (1, 4), (3, 4), (0, 5), (1, 5), (2, 5), (3, 5), (0, 6), (1, 6)] [0, 4, 6, 18, 19, 20])))) (.reg rQqX10 false [] [0, 4, 6, 18, 19, 20]))))
def rQqX11 : List O := [
 oo 42 <| .ld (some 2) (.t 6),
 oz <| .st 2 (.t 4) (.t 42),
 oo 5 <| .mv (ki 0)]
def cQq : C := (.seq (.reg rQqX0 false [] [0, 1, 4]) (.seq (.seq (.reg rQqX1 false [] [0, 1, 4, 14]) (.cond (.t 14) (.seq (.reg rQqX2 false [] [4, 5]) .ret) .skip)) (.seq (.reg rQqX3 false [] [0, 1, 4, 6]) (.seq (.seq (.reg rQqX4 false [] [0, 4, 6, 18, 19, 20]) (.blk 0 (.loop lQqX0))) (.seq (.reg rQqX11 false [] [4, 5]) .ret)))))
def qQq : AFn := ⟨43, 2, [.c 4 (some 2), .t 5], cQq⟩
/- cohesion/cliques.Check -/
def rQrX0 : List O := [
 oo 2 <| .box (.t 0),
 oo 3 <| .box (.t 1),
 oo 4 <| .mv (.k (.bool false))]
def rQrX1 : List O := [
 oo 7 <| .ld (some 2) (.t 2),
 oo 8 <| .call nQt [(.t 7)],
 oo 9 <| .bin .neq (.t 8) (ki 0)]
def rQrX2 : List O := [
 oo 4 <| .mv (.k (.bool false))]
def rQrX3 : List O := [
 oo 5 <| .new [(.int .i64 0)],
 oo 6 <| .new [(.bool false)],
 oz <| .st 1 (.t 5) (ki 0),
 oz <| .st 1 (.t 6) (.k (.bool true))]
def rQrX4 : List O := [
 oo 10 <| .ld (some 2) (.t 2),
 oo 11 <| .mkf (.func nQO) [] [(.t 5), (.t 3), (.t 6)],
 oo 12 <| .call nQu [(.t 10), (.k (.own 1 [])), (.t 11)]]
def rQrX5 : List O := [
 oo 13 <| .ld none (.t 6),
 oo 14 <| .mv (.t 13),
 ⟨(some 15), (some (14, true)), .ld none (.t 5)⟩,
 ⟨(some 16), (some (14, true)), .ld none (.t 3)⟩,
 ⟨(some 17), (some (14, true)), .len (.t 16)⟩,
 ⟨(some 18), (some (14, true)), .bin .eql (.t 15) (.t 17)⟩,
 oo 19 <| .pick (.t 14) (.t 18) (.k (.bool false)),
 oo 4 <| .mv (.t 19)]
def cQr : C := (.seq (.reg rQrX0 false [] [2, 3]) (.seq (.seq (.reg rQrX1 false [] [2, 3, 9]) (.cond (.t 9) (.seq (.reg rQrX2 false [] [4]) .ret) .skip)) (.seq (.reg rQrX3 false [] [2, 3, 5, 6]) (.seq (.reg rQrX4 false [] [3, 5, 6]) (.seq (.reg rQrX5 false [] [4]) .ret)))))
def qQr : AFn := ⟨20, 2, [.t 4], cQr⟩
/- (*cohesion/cohesionmake.Deck).Next -/
def rQsX0 : List O := [
 oo 4 <| .mv (ki 0)]
def rQsX1 : List O := [
 oo 6 <| .mv (.t 1),
 oo 7 <| .bin .lss (.t 6) (ki 1),
 oo 8 <| .mv (.t 7),
 ⟨(some 9), (some (8, false)), .mv (.t 0)⟩,
 ⟨(some 10), (some (8, false)), .nilck (.t 9)⟩,
 ⟨(some 11), (some (8, false)), .fad 1 (.t 10)⟩,
 ⟨(some 12), (some (8, false)), .ld none (.t 11)⟩,
 ⟨(some 13), (some (8, false)), .mv (.t 0)⟩,
 ⟨(some 14), (some (8, false)), .nilck (.t 13)⟩,
 ⟨(some 15), (some (8, false)), .fad 0 (.t 14)⟩,
 ⟨(some 16), (some (8, false)), .ld none (.t 15)⟩,
 ⟨(some 17), (some (8, false)), .len (.t 16)⟩,
 ⟨(some 18), (some (8, false)), .bin .geq (.t 12) (.t 17)⟩,
 oo 19 <| .pick (.t 8) (.k (.bool true)) (.t 18)]
def rQsX2 : List O := [
 oo 4 <| .mv (ki 0)]
def rQsX3 : List O := [
 oo 20 <| .mv (.t 0),
 oo 21 <| .nilck (.t 20),
 oo 22 <| .fad 0 (.t 21),
 oo 23 <| .ld none (.t 22),
 oo 24 <| .mv (.t 0),
 oo 25 <| .nilck (.t 24),
 oo 26 <| .fad 1 (.t 25),
 oo 27 <| .ld none (.t 26),
 oo 28 <| .ixa 1 (.t 23) (.t 27),
 oo 29 <| .ld none (.t 28),
 oo 5 <| .mv (.t 29)]
def rQsX4 : List O := [
 oo 30 <| .mv (.t 0),
 oo 31 <| .nilck (.t 30),
 oo 32 <| .fad 1 (.t 31),
 oo 33 <| .ld none (.t 32),
 oo 34 <| .bin .add (.t 33) (ki 1),
 oo 35 <| .nilck (.t 30),
 oo 36 <| .fad 1 (.t 35),
 oz <| .st 1 (.t 36) (.t 34)]
def rQsX5 : List O := [
 oo 37 <| .mv (.t 5),
 oo 38 <| .mv (.t 1),
 oo 39 <| .call nQQ [(.t 37), (.t 38)],
 oo 4 <| .mv (.t 39)]
def cQs : C := (.seq (.reg rQsX0 false [] [0, 1]) (.seq (.seq (.reg rQsX1 true [(0, 0), (1, 1), (2, 2), (12, 12), (13, 13), (6, 7), (6, 8), (6, 9), (3, 10), (4, 10), (5, 10), (6, 10), (6, 11)] [0, 1, 19]) (.cond (.t 19) (.seq (.reg rQsX2 false [] [4]) .ret) .skip)) (.seq (.reg rQsX3 true [(8, 8), (9, 9), (10, 10), (3, 4), (3, 5), (3, 6), (0, 7), (1, 7), (2, 7), (3, 7)] [0, 1, 5]) (.seq (.reg rQsX4 false [] [1, 5]) (.seq (.reg rQsX5 false [] [4]) .ret)))))
def qQs : AFn := ⟨40, 2, [.t 4], cQs⟩
/- cohesion/graph.Check -/
def rQtX0 : List O := [
 oo 1 <| .box (.t 0),
 oo 2 <| .mv (ki 0)]
def rQtX1 : List O := [
 oo 5 <| .fad 0 (.t 1),
 oo 6 <| .ld none (.t 5),
 oo 7 <| .bin .lss (.t 6) (ki 0),
 oo 8 <| .mv (.t 7),
 ⟨(some 9), (some (8, false)), .fad 0 (.t 1)⟩,
 ⟨(some 10), (some (8, false)), .ld none (.t 9)⟩,
 ⟨(some 11), (some (8, false)), .bin .gtr (.t 10) (ki 64)⟩,
 oo 12 <| .pick (.t 8) (.k (.bool true)) (.t 11)]
def rQtX2 : List O := [
 oo 2 <| .mv (ki 1)]
def rQtX3 : List O := [
 oo 13 <| .fad 1 (.t 1),
 oo 14 <| .ld none (.t 13),
 oo 15 <| .len (.t 14),
 oo 16 <| .mv (ki 0)]
def rQtX4 : List O := [
 oo 17 <| .bin .lss (.t 16) (.t 15)]
def rQtX5 : List O := [
 oo 18 <| .mv (.t 16),
 oo 19 <| .ixa 2 (.t 14) (.t 16),
 oo 20 <| .ld (some 2) (.t 19),
 oo 4 <| .new [(.int .i64 0), (.int .i64 0)],
 oo 3 <| .mv (.t 18),
 oz <| .st 2 (.t 4) (.t 20)]
def rQtX6 : List O := [
 oo 22 <| .fad 0 (.t 4),
 oo 23 <| .ld none (.t 22),
 oo 24 <| .bin .lss (.t 23) (ki 0),
 oo 25 <| .mv (.t 24),
 ⟨(some 26), (some (25, false)), .fad 0 (.t 4)⟩,
 ⟨(some 27), (some (25, false)), .ld none (.t 26)⟩,
 ⟨(some 28), (some (25, false)), .fad 1 (.t 4)⟩,
 ⟨(some 29), (some (25, false)), .ld none (.t 28)⟩,
 ⟨(some 30), (some (25, false)), .bin .geq (.t 27) (.t 29)⟩,
 oo 31 <| .pick (.t 25) (.k (.bool true)) (.t 30),
 oo 32 <| .mv (.t 31),
 ⟨(some 33), (some (32, false)), .fad 1 (.t 4)⟩,
 ⟨(some 34), (some (32, false)), .ld none (.t 33)⟩,
 ⟨(some 35), (some (32, false)), .fad 0 (.t 1)⟩,
 ⟨(some 36), (some (32, false)), .ld none (.t 35)⟩,
 ⟨(some 37), (some (32, false)), .bin .geq (.t 34) (.t 36)⟩,
 oo 38 <| .pick (.t 32) (.k (.bool true)) (.t 37),
 oo 21 <| .mv (.t 38)]
def rQtX7 : List O := [
 oo 2 <| .mv (ki 6)]
def rQtX8 : List O := [
 oo 40 <| .mv (.t 3),
 oo 41 <| .bin .gtr (.t 40) (ki 0),
 oo 42 <| .mv (.t 41),
 ⟨(some 43), (some (42, true)), .fad 1 (.t 1)⟩,
 ⟨(some 44), (some (42, true)), .ld none (.t 43)⟩,
 ⟨(some 45), (some (42, true)), .mv (.t 3)⟩,
 ⟨(some 46), (some (42, true)), .bin .sub (.t 45) (ki 1)⟩,
 ⟨(some 47), (some (42, true)), .ixa 2 (.t 44) (.t 46)⟩,
 ⟨(some 48), (some (42, true)), .ld (some 2) (.t 47)⟩,
 ⟨(some 49), (some (42, true)), .ld (some 2) (.t 4)⟩,
 ⟨(some 50), (some (42, true)), .call nQB [(.t 48), (.t 49)]⟩,
 ⟨(some 51), (some (42, true)), .bin .geq (.t 50) (ki 0)⟩,
 oo 52 <| .pick (.t 42) (.t 51) (.k (.bool false)),
 oo 39 <| .mv (.t 52)]
def rQtX9 : List O := [
 oo 2 <| .mv (ki 5)]
def rQtX10 : List O := [
 oo 53 <| .bin .add (.t 16) (ki 1),
 oo 16 <| .mv (.t 53)]
def lQtX0 : C := (.seq (.reg rQtX4 false [] [1, 14, 15, 16, 17]) (.seq (.cond (.t 17) .skip (.exit 0)) (.seq (.blk 1 (.seq (.reg rQtX5 false [] [1, 3, 4, 14, 15, 16]) (.blk 2 (.seq (.reg rQtX6 false [] [1, 3, 4, 14, 15, 16, 21]) (.cond (.t 21) (.seq (.reg rQtX7 false [] [2]) .ret) (.seq (.reg rQtX8 true [(0, 0), (1, 1), (2, 2), (10, 10), (11, 11), (12, 12), (13, 13), (4, 5), (4, 6), (3, 9), (4, 9), (5, 9), (6, 9), (7, 9), (8, 9)] [1, 14, 15, 16, 39]) (.cond (.t 39) (.seq (.reg rQtX9 false [] [2]) .ret) .skip))))))) (.reg rQtX10 false [] [1, 14, 15, 16]))))
def rQtX11 : List O := [
 oo 2 <| .mv (ki 0)]
def cQt : C := (.seq (.reg rQtX0 false [] [1]) (.seq (.seq (.reg rQtX1 false [] [1, 12]) (.cond (.t 12) (.seq (.reg rQtX2 false [] [2]) .ret) .skip)) (.seq (.seq (.reg rQtX3 false [] [1, 14, 15, 16]) (.blk 0 (.loop lQtX0))) (.seq (.reg rQtX11 false [] [2]) .ret))))
def qQt : AFn := ⟨54, 1, [.t 2], cQt⟩
/- cohesion/cliques.each -/
def rQuX0 : List O := [
 oo 3 <| .box (.t 0),
 oo 4 <| .box (.t 1),
 oo 5 <| .box (.t 2)]
def rQuX1 : List O := [
 oo 9 <| .ld (some 2) (.t 3),
 oo 10 <| .call nQx [(.t 9)],
 oo 6 <| .new [(.own 1 [])],
 oz <| .st 1 (.t 6) (.t 10)]
def rQuX2 : List O := [
 oo 7 <| .new [(.own 1 [])]]
def rQuX3 : List O := [
 oo 8 <| .new [.nilf]]
def rQuX4 : List O := [
 oo 11 <| .mkf (.func nQR) [] [(.t 7), (.t 4), (.t 5), (.t 6), (.t 8)],
 oz <| .st 1 (.t 8) (.t 11)]
def rQuX5 : List O := [
 oo 12 <| .ld none (.t 8),
 oo 13 <| .fad 0 (.t 3),
 oo 14 <| .ld none (.t 13),
 oo 15 <| .call nQS [(.t 14)],
 oo 16 <| .callv (.t 12) [(.t 15), (.k (.int .u64 0)), (.k (.bool true))]]
def cQu : C := (.seq (.reg rQuX0 false [] [3, 4, 5]) (.seq (.reg rQuX1 false [] [3, 4, 5, 6]) (.seq (.reg rQuX2 false [] [3, 4, 5, 6, 7]) (.seq (.reg rQuX3 false [] [3, 4, 5, 6, 7, 8]) (.seq (.reg rQuX4 false [] [3, 8]) (.reg rQuX5 true [(4, 4), (0, 1), (0, 2), (0, 3)] []))))))
def qQu : AFn := ⟨17, 3, [], cQu⟩
/- cohesion/cliques.All$1 -/
def rQvX0 : List O := [
 oo 4 <| .mv (.k (.bool false))]
def rQvX1 : List O := [
 oo 5 <| .ld none (.t 1),
 oo 6 <| .mv (.t 0),
 oo 7 <| .bslice 1 1 [(.own 1 [])] [(0, 1, (.t 6))],
 oo 8 <| .app 1 (.t 5) (.t 7),
 oz <| .st 1 (.t 1) (.t 8)]
def rQvX2 : List O := [
 oo 9 <| .ld none (.t 1),
 oo 10 <| .len (.t 9),
 oo 11 <| .ld none (.t 2),
 oo 12 <| .bin .leq (.t 10) (.t 11),
 oo 4 <| .mv (.t 12)]
def cQv : C := (.seq (.reg rQvX0 false [] [0, 1, 2]) (.seq (.reg rQvX1 false [] [1, 2]) (.seq (.reg rQvX2 false [] [4]) .ret)))
def qQv : AFn := ⟨13, 1, [.t 4], cQv⟩
/- cohesion/cliques.common -/
def rQwX0 : List O := [
 oo 4 <| .mv (.k (.int .u64 0))]
def rQwX1 : List O := [
 oo 8 <| .mv (.t 0),
 oo 9 <| .len (.t 8),
 oo 10 <| .call nQS [(.t 9)],
 oo 5 <| .mv (.t 10)]
def rQwX2 : List O := [
 oo 11 <| .mv (.t 1),
 oo 12 <| .len (.t 11),
 oo 13 <| .mv (ki 0)]
def rQwX3 : List O := [
 oo 14 <| .bin .lss (.t 13) (.t 12)]
def rQwX4 : List O := [
 oo 15 <| .ixa 1 (.t 11) (.t 13),
 oo 16 <| .ld none (.t 15),
 oo 7 <| .mv (.t 16)]
def rQwX5 : List O := [
 oo 17 <| .mv (.t 5),
 oo 18 <| .mv (.t 0),
 oo 19 <| .mv (.t 7),
 oo 20 <| .ixa 1 (.t 18) (.t 19),
 oo 21 <| .ld none (.t 20),
 oo 22 <| .bin .and (.t 17) (.t 21),
 oo 5 <| .mv (.t 22)]
def rQwX6 : List O := [
 oo 23 <| .bin .add (.t 13) (ki 1),
 oo 13 <| .mv (.t 23)]
def lQwX0 : C := (.seq (.reg rQwX3 false [] [0, 5, 11, 12, 13, 14]) (.seq (.cond (.t 14) .skip (.exit 0)) (.seq (.blk 1 (.seq (.reg rQwX4 false [] [0, 5, 7, 11, 12, 13]) (.reg rQwX5 false [] [0, 5, 11, 12, 13]))) (.reg rQwX6 false [] [0, 5, 11, 12, 13]))))
def rQwX7 : List O := [
 oo 24 <| .mv (.t 5),
 oo 4 <| .mv (.t 24)]
def cQw : C := (.seq (.reg rQwX0 false [] [0, 1]) (.seq (.reg rQwX1 false [] [0, 1, 5]) (.seq (.seq (.reg rQwX2 false [] [0, 5, 11, 12, 13]) (.blk 0 (.loop lQwX0))) (.seq (.reg rQwX7 false [] [4]) .ret))))
def qQw : AFn := ⟨25, 2, [.t 4], cQw⟩
/- cohesion/cliques.masks -/
def rQxX0 : List O := [
 oo 1 <| .box (.t 0),
 oo 2 <| .mv (.k (.own 1 []))]
def rQxX1 : List O := [
 oo 6 <| .fad 0 (.t 1),
 oo 7 <| .ld none (.t 6),
 oo 8 <| .mks 1 [(.int .u64 0)] (.t 7) (.t 7),
 oo 3 <| .mv (.t 8)]
def rQxX2 : List O := [
 oo 9 <| .fad 1 (.t 1),
 oo 10 <| .ld none (.t 9),
 oo 11 <| .len (.t 10),
 oo 12 <| .mv (ki 0)]
def rQxX3 : List O := [
 oo 13 <| .bin .lss (.t 12) (.t 11)]
def rQxX4 : List O := [
 oo 14 <| .ixa 2 (.t 10) (.t 12),
 oo 15 <| .ld (some 2) (.t 14),
 oo 5 <| .new [(.int .i64 0), (.int .i64 0)],
 oz <| .st 2 (.t 5) (.t 15)]
def rQxX5 : List O := [
 oo 16 <| .mv (.t 3),
 oo 17 <| .fad 0 (.t 5),
 oo 18 <| .ld none (.t 17),
 oo 19 <| .ixa 1 (.t 16) (.t 18),
 oo 20 <| .ld none (.t 19),
 oo 21 <| .fad 1 (.t 5),
 oo 22 <| .ld none (.t 21),
 oo 23 <| .bin .shl (.k (.int .u64 1)) (.t 22),
 oo 24 <| .bin .or (.t 20) (.t 23),
 oo 25 <| .ixa 1 (.t 16) (.t 18),
 oz <| .st 1 (.t 25) (.t 24)]
def rQxX6 : List O := [
 oo 26 <| .mv (.t 3),
 oo 27 <| .fad 1 (.t 5),
 oo 28 <| .ld none (.t 27),
 oo 29 <| .ixa 1 (.t 26) (.t 28),
 oo 30 <| .ld none (.t 29),
 oo 31 <| .fad 0 (.t 5),
 oo 32 <| .ld none (.t 31),
 oo 33 <| .bin .shl (.k (.int .u64 1)) (.t 32),
 oo 34 <| .bin .or (.t 30) (.t 33),
 oo 35 <| .ixa 1 (.t 26) (.t 28),
 oz <| .st 1 (.t 35) (.t 34)]
def rQxX7 : List O := [
 oo 36 <| .bin .add (.t 12) (ki 1),
 oo 12 <| .mv (.t 36)]
def lQxX0 : C := (.seq (.reg rQxX3 false [] [3, 10, 11, 12, 13]) (.seq (.cond (.t 13) .skip (.exit 0)) (.seq (.blk 1 (.seq (.reg rQxX4 false [] [3, 5, 10, 11, 12]) (.seq (.reg rQxX5 true [(8, 8), (9, 9), (10, 10), (0, 2), (2, 5), (4, 5), (0, 6), (1, 6), (2, 6), (3, 6), (4, 6), (2, 7), (4, 7)] [3, 5, 10, 11, 12]) (.reg rQxX6 true [(8, 8), (9, 9), (10, 10), (0, 2), (2, 5), (4, 5), (0, 6), (1, 6), (2, 6), (3, 6), (4, 6), (2, 7), (4, 7)] [3, 10, 11, 12])))) (.reg rQxX7 false [] [3, 10, 11, 12]))))
def rQxX8 : List O := [
 oo 37 <| .mv (.t 3),
 oo 2 <| .mv (.t 37)]
def cQx : C := (.seq (.reg rQxX0 false [] [1]) (.seq (.reg rQxX1 false [] [1, 3]) (.seq (.seq (.reg rQxX2 false [] [3, 10, 11, 12]) (.blk 0 (.loop lQxX0))) (.seq (.reg rQxX8 false [] [2]) .ret))))
def qQx : AFn := ⟨38, 1, [.t 2], cQx⟩
/- cohesion/graph.Ends -/
def rQyX0 : List O := [
 oo 6 <| .mv (.k (.bool false))]
def rQyX1 : List O := [
 oo 7 <| .mv (.t 1),
 oo 8 <| .mv (.t 2),
 oo 9 <| .bin .neq (.t 7) (.t 8),
 oo 10 <| .mv (.t 9),
 ⟨(some 11), (some (10, true)), .mv (.t 1)⟩,
 ⟨(some 12), (some (10, true)), .mv (.t 2)⟩,
 ⟨(some 13), (some (10, true)), .min [(.t 11), (.t 12)]⟩,
 ⟨(some 14), (some (10, true)), .bin .geq (.t 13) (ki 0)⟩,
 oo 15 <| .pick (.t 10) (.t 14) (.k (.bool false)),
 oo 16 <| .mv (.t 15),
 ⟨(some 17), (some (16, true)), .mv (.t 1)⟩,
 ⟨(some 18), (some (16, true)), .mv (.t 2)⟩,
 ⟨(some 19), (some (16, true)), .max [(.t 17), (.t 18)]⟩,
 ⟨(some 20), (some (16, true)), .mv (.t 0)⟩,
 ⟨(some 21), (some (16, true)), .bin .lss (.t 19) (.t 20)⟩,
 oo 22 <| .pick (.t 16) (.t 21) (.k (.bool false)),
 oo 6 <| .mv (.t 22)]
def cQy : C := (.seq (.reg rQyX0 false [] [0, 1, 2]) (.seq (.reg rQyX1 false [] [6]) .ret))
def qQy : AFn := ⟨23, 3, [.t 6], cQy⟩
/- cohesion/graph.edge -/
def rQzX0 : List O := [
 oo 4 <| .new [(.int .i64 0), (.int .i64 0)]]
def rQzX1 : List O := [
 oo 5 <| .mv (.t 0),
 oo 6 <| .mv (.t 1),
 oo 7 <| .min [(.t 5), (.t 6)],
 oo 8 <| .mv (.t 0),
 oo 9 <| .mv (.t 1),
 oo 10 <| .max [(.t 8), (.t 9)],
 oo 11 <| .build [(.int .i64 0), (.int .i64 0)] [(0, 1, (.t 7)), (1, 1, (.t 10))],
 oz <| .st 2 (.t 4) (.t 11)]
def cQz : C := (.seq (.reg rQzX0 false [] [0, 1, 4]) (.seq (.reg rQzX1 false [] [4]) .ret))
def qQz : AFn := ⟨12, 2, [.c 4 (some 2)], cQz⟩
/- slices.SortFunc[[]cohesion/api.Edge,cohesion/api.Edge] -/
def rQAX0 : List O := [
 oo 5 <| .mv (.t 0),
 oo 6 <| .len (.t 5),
 oo 4 <| .mv (.t 6)]
def rQAX1 : List O := [
 oo 7 <| .mv (.t 0),
 oo 8 <| .mv (.t 4),
 oo 9 <| .mv (.t 4),
 oo 10 <| .cvt .u64 (.t 9),
 oo 11 <| .call 49 [(.t 10)],
 oo 12 <| .mv (.t 1),
 oo 13 <| .call 48 [(.t 7), (ki 0), (.t 8), (.t 11), (.t 12)]]
def cQA : C := (.seq (.reg rQAX0 false [] [0, 1, 4]) (.reg rQAX1 false [] []))
def qQA : AFn := ⟨14, 2, [], cQA⟩
/- cohesion/graph.Order -/
def rQBX0 : List O := [
 oo 2 <| .box (.t 0),
 oo 3 <| .box (.t 1),
 oo 4 <| .mv (ki 0)]
def rQBX1 : List O := [
 oo 5 <| .fad 0 (.t 2),
 oo 6 <| .ld none (.t 5),
 oo 7 <| .fad 0 (.t 3),
 oo 8 <| .ld none (.t 7),
 oo 9 <| .call nQU [(.t 6), (.t 8)],
 oo 10 <| .fad 1 (.t 2),
 oo 11 <| .ld none (.t 10),
 oo 12 <| .fad 1 (.t 3),
 oo 13 <| .ld none (.t 12),
 oo 14 <| .call nQU [(.t 11), (.t 13)],
 oo 15 <| .bslice 1 2 [(.int .i64 0)] [(0, 1, (.t 9)), (1, 1, (.t 14))],
 oo 16 <| .call nQT [(.t 15)],
 oo 4 <| .mv (.t 16)]
def cQB : C := (.seq (.reg rQBX0 false [] [2, 3]) (.seq (.reg rQBX1 true [(9, 9), (10, 10), (11, 11), (12, 12), (1, 2), (0, 3), (1, 3), (1, 5), (3, 5), (4, 5), (0, 6), (1, 6), (2, 6), (3, 6), (4, 6), (1, 7), (3, 7), (4, 7), (6, 7), (0, 8), (1, 8), (2, 8), (3, 8), (4, 8), (5, 8), (6, 8)] [4]) .ret))
def qQB : AFn := ⟨17, 2, [.t 4], cQB⟩
/- slices.Compact[[]cohesion/api.Edge,cohesion/api.Edge] -/
def rQCX0 : List O := [
 oo 2 <| .mv (.k (.own 2 []))]
def rQCX1 : List O := [
 oo 6 <| .mv (.t 0),
 oo 7 <| .len (.t 6),
 oo 8 <| .bin .lss (.t 7) (ki 2)]
def rQCX2 : List O := [
 oo 9 <| .mv (.t 0),
 oo 2 <| .mv (.t 9)]
def rQCX3 : List O := [
 oo 3 <| .mv (ki 1)]
def rQCX4 : List O := [
 oo 10 <| .mv (.t 3),
 oo 11 <| .mv (.t 0),
 oo 12 <| .len (.t 11),
 oo 13 <| .bin .lss (.t 10) (.t 12)]
def rQCX5 : List O := [
 oo 16 <| .mv (.t 0),
 oo 17 <| .mv (.t 3),
 oo 18 <| .ixa 2 (.t 16) (.t 17),
 oo 19 <| .ld (some 2) (.t 18),
 oo 20 <| .mv (.t 0),
 oo 21 <| .mv (.t 3),
 oo 22 <| .bin .sub (.t 21) (ki 1),
 oo 23 <| .ixa 2 (.t 20) (.t 22),
 oo 24 <| .ld (some 2) (.t 23),
 oo 25 <| .eq false (.str [true, true]) (.t 19) (.t 24)]
def rQCX6 : List O := [
 oo 26 <| .mv (.t 0),
 oo 27 <| .mv (.t 3),
 oo 28 <| .slc 2 (.t 26) (some (.t 27)) none,
 oo 4 <| .mv (.t 28)]
def rQCX7 : List O := [
 oo 5 <| .mv (ki 1)]
def rQCX8 : List O := [
 oo 29 <| .mv (.t 5),
 oo 30 <| .mv (.t 4),
 oo 31 <| .len (.t 30),
 oo 32 <| .bin .lss (.t 29) (.t 31)]
def rQCX9 : List O := [
 oo 35 <| .mv (.t 4),
 oo 36 <| .mv (.t 5),
 oo 37 <| .ixa 2 (.t 35) (.t 36),
 oo 38 <| .ld (some 2) (.t 37),
 oo 39 <| .mv (.t 4),
 oo 40 <| .mv (.t 5),
 oo 41 <| .bin .sub (.t 40) (ki 1),
 oo 42 <| .ixa 2 (.t 39) (.t 41),
 oo 43 <| .ld (some 2) (.t 42),
 oo 44 <| .eq true (.str [true, true]) (.t 38) (.t 43)]
def rQCX10 : List O := [
 oo 45 <| .mv (.t 0),
 oo 46 <| .mv (.t 3),
 oo 47 <| .mv (.t 4),
 oo 48 <| .mv (.t 5),
 oo 49 <| .ixa 2 (.t 47) (.t 48),
 oo 50 <| .ld (some 2) (.t 49),
 oo 51 <| .ixa 2 (.t 45) (.t 46),
 oz <| .st 2 (.t 51) (.t 50)]
def rQCX11 : List O := [
 oo 52 <| .mv (.t 3),
 oo 53 <| .bin .add (.t 52) (ki 1),
 oo 3 <| .mv (.t 53)]
def rQCX12 : List O := [
 oo 33 <| .mv (.t 5),
 oo 34 <| .bin .add (.t 33) (ki 1),
 oo 5 <| .mv (.t 34)]
def lQCX0 : C := (.seq (.seq (.reg rQCX8 false [] [0, 3, 4, 5, 32]) (.cond (.t 32) .skip (.exit 2))) (.seq (.blk 3 (.seq (.reg rQCX9 true [(9, 9), (3, 4), (3, 5), (3, 6), (3, 7), (0, 8), (1, 8), (2, 8), (3, 8)] [0, 3, 4, 5, 44]) (.cond (.t 44) (.seq (.reg rQCX10 false [] [0, 3, 4, 5]) (.reg rQCX11 false [] [0, 3, 4, 5])) .skip))) (.reg rQCX12 false [] [0, 3, 4, 5])))
def rQCX13 : List O := [
 oo 54 <| .mv (.t 0),
 oo 55 <| .mv (.t 3),
 oo 56 <| .slc 2 (.t 54) (some (.t 55)) none,
 oz <| .clr 2 [(.int .i64 0), (.int .i64 0)] (.t 56)]
def rQCX14 : List O := [
 oo 57 <| .mv (.t 0),
 oo 58 <| .mv (.t 3),
 oo 59 <| .slc 2 (.t 57) none (some (.t 58)),
 oo 2 <| .mv (.t 59)]
def rQCX15 : List O := [
 oo 14 <| .mv (.t 3),
 oo 15 <| .bin .add (.t 14) (ki 1),
 oo 3 <| .mv (.t 15)]
def lQCX1 : C := (.seq (.seq (.reg rQCX4 false [] [0, 3, 13]) (.cond (.t 13) .skip (.exit 0))) (.seq (.blk 1 (.seq (.reg rQCX5 true [(9, 9), (3, 4), (3, 5), (3, 6), (3, 7), (0, 8), (1, 8), (2, 8), (3, 8)] [0, 3, 25]) (.cond (.t 25) (.seq (.reg rQCX6 false [] [0, 3, 4]) (.seq (.seq (.reg rQCX7 false [] [0, 3, 4, 5]) (.blk 2 (.loop lQCX0))) (.seq (.reg rQCX13 false [] [0, 3]) (.seq (.reg rQCX14 false [] [2]) .ret)))) .skip))) (.reg rQCX15 false [] [0, 3])))
def rQCX16 : List O := [
 oo 60 <| .mv (.t 0),
 oo 2 <| .mv (.t 60)]
def cQC : C := (.seq (.reg rQCX0 false [] [0]) (.seq (.seq (.reg rQCX1 false [] [0, 8]) (.cond (.t 8) (.seq (.reg rQCX2 false [] [2]) .ret) .skip)) (.seq (.seq (.reg rQCX3 false [] [0, 3]) (.blk 0 (.loop lQCX1))) (.seq (.reg rQCX16 false [] [2]) .ret))))
def qQC : AFn := ⟨61, 1, [.t 2], cQC⟩
/- cohesion/cohesionref03.SameEdges -/
def rQDX0 : List O := [
 oo 4 <| .mv (.k (.bool false))]
def rQDX1 : List O := [
 oo 6 <| .mv (.t 0),
 oo 7 <| .len (.t 6),
 oo 8 <| .mv (.t 1),
 oo 9 <| .len (.t 8),
 oo 10 <| .bin .neq (.t 7) (.t 9)]
def rQDX2 : List O := [
 oo 4 <| .mv (.k (.bool false))]
def rQDX3 : List O := [
 oo 11 <| .mv (.t 0),
 oo 12 <| .len (.t 11),
 oo 13 <| .mv (ki 0)]
def rQDX4 : List O := [
 oo 14 <| .bin .lss (.t 13) (.t 12)]
def rQDX5 : List O := [
 oo 15 <| .mv (.t 13),
 oo 5 <| .mv (.t 15)]
def rQDX6 : List O := [
 oo 16 <| .mv (.t 0),
 oo 17 <| .mv (.t 5),
 oo 18 <| .ixa 2 (.t 16) (.t 17),
 oo 19 <| .ld (some 2) (.t 18),
 oo 20 <| .mv (.t 1),
 oo 21 <| .mv (.t 5),
 oo 22 <| .ixa 2 (.t 20) (.t 21),
 oo 23 <| .ld (some 2) (.t 22),
 oo 24 <| .eq true (.str [true, true]) (.t 19) (.t 23)]
def rQDX7 : List O := [
 oo 4 <| .mv (.k (.bool false))]
def rQDX8 : List O := [
 oo 25 <| .bin .add (.t 13) (ki 1),
 oo 13 <| .mv (.t 25)]
def lQDX0 : C := (.seq (.reg rQDX4 false [] [0, 1, 12, 13, 14]) (.seq (.cond (.t 14) .skip (.exit 0)) (.seq (.blk 1 (.seq (.reg rQDX5 false [] [0, 1, 5, 12, 13]) (.seq (.reg rQDX6 true [(8, 8), (3, 4), (3, 5), (3, 6), (0, 7), (1, 7), (2, 7), (3, 7)] [0, 1, 12, 13, 24]) (.cond (.t 24) (.seq (.reg rQDX7 false [] [4]) .ret) .skip)))) (.reg rQDX8 false [] [0, 1, 12, 13]))))
def rQDX9 : List O := [
 oo 4 <| .mv (.k (.bool true))]
def cQD : C := (.seq (.reg rQDX0 false [] [0, 1]) (.seq (.seq (.reg rQDX1 false [] [0, 1, 10]) (.cond (.t 10) (.seq (.reg rQDX2 false [] [4]) .ret) .skip)) (.seq (.seq (.reg rQDX3 false [] [0, 1, 12, 13]) (.blk 0 (.loop lQDX0))) (.seq (.reg rQDX9 false [] [4]) .ret))))
def qQD : AFn := ⟨26, 2, [.t 4], cQD⟩
/- cohesion/cohesionref02.put -/
def rQEX0 : List O := [
 oo 4 <| .mv (.k (.own 1 []))]
def rQEX1 : List O := [
 oo 5 <| .mv (ki 0)]
def rQEX2 : List O := [
 oo 7 <| .mv (.t 5),
 oo 8 <| .mv (.t 0),
 oo 9 <| .len (.t 8),
 oo 10 <| .bin .lss (.t 7) (.t 9),
 oo 11 <| .mv (.t 10),
 ⟨(some 12), (some (11, true)), .mv (.t 0)⟩,
 ⟨(some 13), (some (11, true)), .mv (.t 5)⟩,
 ⟨(some 14), (some (11, true)), .ixa 1 (.t 12) (.t 13)⟩,
 ⟨(some 15), (some (11, true)), .ld none (.t 14)⟩,
 ⟨(some 16), (some (11, true)), .mv (.t 1)⟩,
 ⟨(some 17), (some (11, true)), .bin .lss (.t 15) (.t 16)⟩,
 oo 18 <| .pick (.t 11) (.t 17) (.k (.bool false))]
def rQEX3 : List O := [
 oo 19 <| .mv (.t 5),
 oo 20 <| .bin .add (.t 19) (ki 1),
 oo 5 <| .mv (.t 20)]
def lQEX0 : C := (.seq (.seq (.reg rQEX2 false [] [0, 1, 5, 18]) (.cond (.t 18) .skip (.exit 0))) (.blk 1 (.reg rQEX3 false [] [0, 1, 5])))
def rQEX4 : List O := [
 oo 21 <| .mv (.t 5),
 oo 22 <| .mv (.t 0),
 oo 23 <| .len (.t 22),
 oo 24 <| .bin .lss (.t 21) (.t 23),
 oo 25 <| .mv (.t 24),
 ⟨(some 26), (some (25, true)), .mv (.t 0)⟩,
 ⟨(some 27), (some (25, true)), .mv (.t 5)⟩,
 ⟨(some 28), (some (25, true)), .ixa 1 (.t 26) (.t 27)⟩,
 ⟨(some 29), (some (25, true)), .ld none (.t 28)⟩,
 ⟨(some 30), (some (25, true)), .mv (.t 1)⟩,
 ⟨(some 31), (some (25, true)), .bin .eql (.t 29) (.t 30)⟩,
 oo 32 <| .pick (.t 25) (.t 31) (.k (.bool false))]
def rQEX5 : List O := [
 oo 33 <| .mv (.t 0),
 oo 4 <| .mv (.t 33)]
def rQEX6 : List O := [
 oo 34 <| .mv (.t 0),
 oo 35 <| .mv (.t 5),
 oo 36 <| .slc 1 (.t 34) none (some (.t 35)),
 oo 37 <| .app 1 (.k (.own 1 [])) (.t 36),
 oo 6 <| .mv (.t 37)]
def rQEX7 : List O := [
 oo 38 <| .mv (.t 6),
 oo 39 <| .mv (.t 1),
 oo 40 <| .bslice 1 1 [(.int .i64 0)] [(0, 1, (.t 39))],
 oo 41 <| .app 1 (.t 38) (.t 40),
 oo 42 <| .mv (.t 0),
 oo 43 <| .mv (.t 5),
 oo 44 <| .slc 1 (.t 42) (some (.t 43)) none,
 oo 45 <| .app 1 (.t 41) (.t 44),
 oo 4 <| .mv (.t 45)]
def cQE : C := (.seq (.reg rQEX0 false [] [0, 1]) (.seq (.reg rQEX1 false [] [0, 1, 5]) (.seq (.blk 0 (.loop lQEX0)) (.seq (.seq (.reg rQEX4 false [] [0, 1, 5, 32]) (.cond (.t 32) (.seq (.reg rQEX5 false [] [4]) .ret) .skip)) (.seq (.reg rQEX6 false [] [0, 1, 5, 6]) (.seq (.reg rQEX7 true [(7, 7), (8, 8), (0, 2), (2, 4), (3, 4), (2, 5), (3, 5), (2, 6), (3, 6)] [4]) .ret))))))
def qQE : AFn := ⟨46, 2, [.t 4], cQE⟩
/- cohesion/nodeset.Valid -/
def rQFX0 : List O := [
 oo 4 <| .mv (.k (.bool false))]
def rQFX1 : List O := [
 oo 7 <| .mv (.t 0),
 oo 8 <| .len (.t 7),
 oo 9 <| .mv (ki 0)]
def rQFX2 : List O := [
 oo 10 <| .bin .lss (.t 9) (.t 8)]
def rQFX3 : List O := [
 oo 11 <| .mv (.t 9),
 oo 12 <| .ixa 1 (.t 7) (.t 9),
 oo 13 <| .ld none (.t 12),
 oo 5 <| .mv (.t 11),
 oo 6 <| .mv (.t 13)]
def rQFX4 : List O := [
 oo 14 <| .mv (.t 6),
 oo 15 <| .bin .lss (.t 14) (ki 0),
 oo 16 <| .mv (.t 15),
 ⟨(some 17), (some (16, false)), .mv (.t 6)⟩,
 ⟨(some 18), (some (16, false)), .mv (.t 1)⟩,
 ⟨(some 19), (some (16, false)), .bin .geq (.t 17) (.t 18)⟩,
 oo 20 <| .pick (.t 16) (.k (.bool true)) (.t 19),
 oo 21 <| .mv (.t 20),
 ⟨(some 22), (some (21, false)), .mv (.t 5)⟩,
 ⟨(some 23), (some (21, false)), .bin .gtr (.t 22) (ki 0)⟩,
 ⟨(some 24), (some (21, false)), .mv (.t 23)⟩,
 ⟨(some 25), (some (24, true)), .mv (.t 0)⟩,
 ⟨(some 26), (some (24, true)), .mv (.t 5)⟩,
 ⟨(some 27), (some (24, true)), .bin .sub (.t 26) (ki 1)⟩,
 ⟨(some 28), (some (24, true)), .ixa 1 (.t 25) (.t 27)⟩,
 ⟨(some 29), (some (24, true)), .ld none (.t 28)⟩,
 ⟨(some 30), (some (24, true)), .mv (.t 6)⟩,
 ⟨(some 31), (some (24, true)), .bin .geq (.t 29) (.t 30)⟩,
 ⟨(some 32), (some (21, false)), .pick (.t 24) (.t 31) (.k (.bool false))⟩,
 oo 33 <| .pick (.t 21) (.k (.bool true)) (.t 32)]
def rQFX5 : List O := [
 oo 4 <| .mv (.k (.bool false))]
def rQFX6 : List O := [
 oo 34 <| .bin .add (.t 9) (ki 1),
 oo 9 <| .mv (.t 34)]
def lQFX0 : C := (.seq (.reg rQFX2 false [] [0, 1, 7, 8, 9, 10]) (.seq (.cond (.t 10) .skip (.exit 0)) (.seq (.blk 1 (.seq (.reg rQFX3 false [] [0, 1, 5, 6, 7, 8, 9]) (.seq (.reg rQFX4 false [] [0, 1, 7, 8, 9, 33]) (.cond (.t 33) (.seq (.reg rQFX5 false [] [4]) .ret) .skip)))) (.reg rQFX6 false [] [0, 1, 7, 8, 9]))))
def rQFX7 : List O := [
 oo 4 <| .mv (.k (.bool true))]
def cQF : C := (.seq (.reg rQFX0 false [] [0, 1]) (.seq (.seq (.reg rQFX1 false [] [0, 1, 7, 8, 9]) (.blk 0 (.loop lQFX0))) (.seq (.reg rQFX7 false [] [4]) .ret)))
def qQF : AFn := ⟨35, 2, [.t 4], cQF⟩
/- cohesion/cliques.clique -/
def rQGX0 : List O := [
 oo 4 <| .mv (.k (.bool false))]
def rQGX1 : List O := [
 oo 9 <| .mv (.t 1),
 oo 10 <| .len (.t 9),
 oo 11 <| .mv (ki 0)]
def rQGX2 : List O := [
 oo 12 <| .bin .lss (.t 11) (.t 10)]
def rQGX3 : List O := [
 oo 13 <| .mv (.t 11),
 oo 14 <| .ixa 1 (.t 9) (.t 11),
 oo 15 <| .ld none (.t 14),
 oo 5 <| .mv (.t 13),
 oo 6 <| .mv (.t 15)]
def rQGX4 : List O := [
 oo 16 <| .mv (.t 1),
 oo 17 <| .mv (.t 5),
 oo 18 <| .slc 1 (.t 16) none (some (.t 17)),
 oo 19 <| .len (.t 18),
 oo 20 <| .mv (ki 0)]
def rQGX5 : List O := [
 oo 21 <| .bin .lss (.t 20) (.t 19)]
def rQGX6 : List O := [
 oo 22 <| .ixa 1 (.t 18) (.t 20),
 oo 23 <| .ld none (.t 22),
 oo 8 <| .mv (.t 23)]
def rQGX7 : List O := [
 oo 24 <| .mv (.t 0),
 oo 25 <| .mv (.t 6),
 oo 26 <| .ixa 1 (.t 24) (.t 25),
 oo 27 <| .ld none (.t 26),
 oo 28 <| .mv (.t 8),
 oo 29 <| .bin .shr (.t 27) (.t 28),
 oo 30 <| .bin .and (.t 29) (.k (.int .u64 1)),
 oo 31 <| .bin .eql (.t 30) (.k (.int .u64 0))]
def rQGX8 : List O := [
 oo 4 <| .mv (.k (.bool false))]
def rQGX9 : List O := [
 oo 32 <| .bin .add (.t 20) (ki 1),
 oo 20 <| .mv (.t 32)]
def lQGX0 : C := (.seq (.reg rQGX5 false [] [0, 1, 6, 9, 10, 11, 18, 19, 20, 21]) (.seq (.cond (.t 21) .skip (.exit 2)) (.seq (.blk 3 (.seq (.reg rQGX6 false [] [0, 1, 6, 8, 9, 10, 11, 18, 19, 20]) (.seq (.reg rQGX7 false [] [0, 1, 6, 9, 10, 11, 18, 19, 20, 31]) (.cond (.t 31) (.seq (.reg rQGX8 false [] [4]) .ret) .skip)))) (.reg rQGX9 false [] [0, 1, 6, 9, 10, 11, 18, 19, 20]))))
def rQGX10 : List O := [
 oo 33 <| .bin .add (.t 11) (ki 1),
 oo 11 <| .mv (.t 33)]
def lQGX1 : C := (.seq (.reg rQGX2 false [] [0, 1, 9, 10, 11, 12]) (.seq (.cond (.t 12) .skip (.exit 0)) (.seq (.blk 1 (.seq (.reg rQGX3 false [] [0, 1, 5, 6, 9, 10, 11]) (.seq (.reg rQGX4 false [] [0, 1, 6, 9, 10, 11, 18, 19, 20]) (.blk 2 (.loop lQGX0))))) (.reg rQGX10 false [] [0, 1, 9, 10, 11]))))
def rQGX11 : List O := [
 oo 4 <| .mv (.k (.bool true))]
def cQG : C := (.seq (.reg rQGX0 false [] [0, 1]) (.seq (.seq (.reg rQGX1 false [] [0, 1, 9, 10, 11]) (.blk 0 (.loop lQGX1))) (.seq (.reg rQGX11 false [] [4]) .ret)))
def qQG : AFn := ⟨34, 2, [.t 4], cQG⟩
/- slices.Clone[[]int,int] -/
def rQHX0 : List O := [
 oo 2 <| .mv (.k (.own 1 []))]
def rQHX1 : List O := [
 oo 3 <| .mv (.t 0),
 oo 4 <| .eq false .nsl (.t 3) (.k (.own 1 []))]
def rQHX2 : List O := [
 oo 2 <| .mv (.k (.own 1 []))]
def rQHX3 : List O := [
 oo 5 <| .bslice 1 0 [(.int .i64 0)] [],
 oo 6 <| .mv (.t 0),
 oo 7 <| .app 1 (.t 5) (.t 6),
 oo 2 <| .mv (.t 7)]
def cQH : C := (.seq (.reg rQHX0 false [] [0]) (.seq (.seq (.reg rQHX1 false [] [0, 4]) (.cond (.t 4) (.seq (.reg rQHX2 false [] [2]) .ret) .skip)) (.seq (.reg rQHX3 false [] [2]) .ret)))
def qQH : AFn := ⟨8, 1, [.t 2], cQH⟩
/- math/bits.TrailingZeros64 -/
def rQIX0 : List O := [
 oo 2 <| .mv (ki 0)]
def rQIX1 : List O := [
 oo 3 <| .mv (.t 0),
 oo 4 <| .bin .eql (.t 3) (.k (.int .u64 0))]
def rQIX2 : List O := [
 oo 2 <| .mv (ki 64)]
def rQIX3 : List O := [
 oo 5 <| .mv (.t 0),
 oo 6 <| .mv (.t 0),
 oo 7 <| .un .neg (.t 6),
 oo 8 <| .bin .and (.t 5) (.t 7),
 oo 9 <| .bin .mul (.t 8) (.k (.int .u64 285870213051353865)),
 oo 10 <| .bin .shr (.t 9) (.k (.int .u64 58)),
 oo 11 <| .ixp 64 1 (.g 0) (.t 10),
 oo 12 <| .ld none (.t 11),
 oo 13 <| .cvt .i64 (.t 12),
 oo 2 <| .mv (.t 13)]
def cQI : C := (.seq (.reg rQIX0 false [] [0]) (.seq (.seq (.reg rQIX1 false [] [0, 4]) (.cond (.t 4) (.seq (.reg rQIX2 false [] [2]) .ret) .skip)) (.seq (.reg rQIX3 false [] [2]) .ret)))
def qQI : AFn := ⟨14, 1, [.t 2], cQI⟩
/- slices.Sort[[]int,int] -/
def rQJX0 : List O := [
 oo 3 <| .mv (.t 0),
 oo 4 <| .len (.t 3),
 oo 2 <| .mv (.t 4)]
def rQJX1 : List O := [
 oo 5 <| .mv (.t 0),
 oo 6 <| .mv (.t 2),
 oo 7 <| .mv (.t 2),
 oo 8 <| .cvt .u64 (.t 7),
 oo 9 <| .call 49 [(.t 8)],
 oo 10 <| .call 52 [(.t 5), (ki 0), (.t 6), (.t 9)]]
def cQJ : C := (.seq (.reg rQJX0 false [] [0, 2]) (.reg rQJX1 false [] []))
def qQJ : AFn := ⟨11, 1, [], cQJ⟩
/- cohesion/cohesionref02.Has -/
def rQKX0 : List O := [
 oo 4 <| .mv (.k (.bool false))]
def rQKX1 : List O := [
 oo 7 <| .mv (.t 0),
 oo 8 <| .len (.t 7),
 oo 9 <| .mv (ki 0)]
def rQKX2 : List O := [
 oo 10 <| .bin .lss (.t 9) (.t 8)]
def rQKX3 : List O := [
 oo 11 <| .ixa 1 (.t 7) (.t 9),
 oo 12 <| .ld none (.t 11),
 oo 6 <| .mv (.t 12)]
def rQKX4 : List O := [
 oo 13 <| .mv (.t 6),
 oo 14 <| .mv (.t 1),
 oo 15 <| .bin .eql (.t 13) (.t 14)]
def rQKX5 : List O := [
 oo 4 <| .mv (.k (.bool true))]
def rQKX6 : List O := [
 oo 16 <| .bin .add (.t 9) (ki 1),
 oo 9 <| .mv (.t 16)]
def lQKX0 : C := (.seq (.reg rQKX2 false [] [1, 7, 8, 9, 10]) (.seq (.cond (.t 10) .skip (.exit 0)) (.seq (.blk 1 (.seq (.reg rQKX3 false [] [1, 6, 7, 8, 9]) (.seq (.reg rQKX4 false [] [1, 7, 8, 9, 15]) (.cond (.t 15) (.seq (.reg rQKX5 false [] [4]) .ret) .skip)))) (.reg rQKX6 false [] [1, 7, 8, 9]))))
def rQKX7 : List O := [
 oo 4 <| .mv (.k (.bool false))]
def cQK : C := (.seq (.reg rQKX0 false [] [0, 1]) (.seq (.seq (.reg rQKX1 false [] [1, 7, 8, 9]) (.blk 0 (.loop lQKX0))) (.seq (.reg rQKX7 false [] [4]) .ret)))
def qQK : AFn := ⟨17, 2, [.t 4], cQK⟩
/- cohesion/cohesionref03.ends -/
def rQLX0 : List O := [
 oo 6 <| .mv (.k (.bool false))]
def rQLX1 : List O := [
 oo 7 <| .mv (.t 1),
 oo 8 <| .bin .geq (.t 7) (ki 0),
 oo 9 <| .mv (.t 8),
 ⟨(some 10), (some (9, true)), .mv (.t 2)⟩,
 ⟨(some 11), (some (9, true)), .bin .geq (.t 10) (ki 0)⟩,
 oo 12 <| .pick (.t 9) (.t 11) (.k (.bool false)),
 oo 13 <| .mv (.t 12),
 ⟨(some 14), (some (13, true)), .mv (.t 1)⟩,
 ⟨(some 15), (some (13, true)), .mv (.t 0)⟩,
 ⟨(some 16), (some (13, true)), .bin .lss (.t 14) (.t 15)⟩,
 oo 17 <| .pick (.t 13) (.t 16) (.k (.bool false)),
 oo 18 <| .mv (.t 17),
 ⟨(some 19), (some (18, true)), .mv (.t 2)⟩,
 ⟨(some 20), (some (18, true)), .mv (.t 0)⟩,
 ⟨(some 21), (some (18, true)), .bin .lss (.t 19) (.t 20)⟩,
 oo 22 <| .pick (.t 18) (.t 21) (.k (.bool false)),
 oo 23 <| .mv (.t 22),
 ⟨(some 24), (some (23, true)), .mv (.t 1)⟩,
 ⟨(some 25), (some (23, true)), .mv (.t 2)⟩,
 ⟨(some 26), (some (23, true)), .bin .neq (.t 24) (.t 25)⟩,
 oo 27 <| .pick (.t 23) (.t 26) (.k (.bool false)),
 oo 6 <| .mv (.t 27)]
def cQL : C := (.seq (.reg rQLX0 false [] [0, 1, 2]) (.seq (.reg rQLX1 false [] [6]) .ret))
def qQL : AFn := ⟨28, 3, [.t 6], cQL⟩
/- cohesion/cohesionref03.with -/
def rQMX0 : List O := [
 oo 3 <| .box (.t 1),
 oo 4 <| .mv (.k (.own 2 []))]
def rQMX1 : List O := [
 oo 5 <| .mv (ki 0)]
def rQMX2 : List O := [
 oo 7 <| .mv (.t 5),
 oo 8 <| .mv (.t 0),
 oo 9 <| .len (.t 8),
 oo 10 <| .bin .lss (.t 7) (.t 9),
 oo 11 <| .mv (.t 10),
 ⟨(some 12), (some (11, true)), .mv (.t 0)⟩,
 ⟨(some 13), (some (11, true)), .mv (.t 5)⟩,
 ⟨(some 14), (some (11, true)), .ixa 2 (.t 12) (.t 13)⟩,
 ⟨(some 15), (some (11, true)), .ld (some 2) (.t 14)⟩,
 ⟨(some 16), (some (11, true)), .ld (some 2) (.t 3)⟩,
 ⟨(some 17), (some (11, true)), .call nQV [(.t 15), (.t 16)]⟩,
 oo 18 <| .pick (.t 11) (.t 17) (.k (.bool false))]
def rQMX3 : List O := [
 oo 19 <| .mv (.t 5),
 oo 20 <| .bin .add (.t 19) (ki 1),
 oo 5 <| .mv (.t 20)]
def lQMX0 : C := (.seq (.seq (.reg rQMX2 true [(3, 3), (4, 4), (10, 10), (11, 11), (5, 9), (6, 9), (7, 9), (8, 9)] [0, 3, 5, 18]) (.cond (.t 18) .skip (.exit 0))) (.blk 1 (.reg rQMX3 false [] [0, 3, 5])))
def rQMX4 : List O := [
 oo 21 <| .mv (.t 5),
 oo 22 <| .mv (.t 0),
 oo 23 <| .len (.t 22),
 oo 24 <| .bin .lss (.t 21) (.t 23),
 oo 25 <| .mv (.t 24),
 ⟨(some 26), (some (25, true)), .mv (.t 0)⟩,
 ⟨(some 27), (some (25, true)), .mv (.t 5)⟩,
 ⟨(some 28), (some (25, true)), .ixa 2 (.t 26) (.t 27)⟩,
 ⟨(some 29), (some (25, true)), .ld (some 2) (.t 28)⟩,
 ⟨(some 30), (some (25, true)), .ld (some 2) (.t 3)⟩,
 ⟨(some 31), (some (25, true)), .eq false (.str [true, true]) (.t 29) (.t 30)⟩,
 oo 32 <| .pick (.t 25) (.t 31) (.k (.bool false))]
def rQMX5 : List O := [
 oo 33 <| .mv (.t 0),
 oo 4 <| .mv (.t 33)]
def rQMX6 : List O := [
 oo 34 <| .mv (.t 0),
 oo 35 <| .mv (.t 5),
 oo 36 <| .slc 2 (.t 34) none (some (.t 35)),
 oo 37 <| .app 2 (.k (.own 2 [])) (.t 36),
 oo 6 <| .mv (.t 37)]
def rQMX7 : List O := [
 oo 38 <| .mv (.t 6),
 oo 39 <| .ld (some 2) (.t 3),
 oo 40 <| .bslice 2 1 [(.int .i64 0), (.int .i64 0)] [(0, 2, (.t 39))],
 oo 41 <| .app 2 (.t 38) (.t 40),
 oo 42 <| .mv (.t 0),
 oo 43 <| .mv (.t 5),
 oo 44 <| .slc 2 (.t 42) (some (.t 43)) none,
 oo 45 <| .app 2 (.t 41) (.t 44),
 oo 4 <| .mv (.t 45)]
def cQM : C := (.seq (.reg rQMX0 false [] [0, 3]) (.seq (.reg rQMX1 false [] [0, 3, 5]) (.seq (.blk 0 (.loop lQMX0)) (.seq (.seq (.reg rQMX4 true [(3, 3), (4, 4), (10, 10), (11, 11), (5, 9), (6, 9), (7, 9), (8, 9)] [0, 3, 5, 32]) (.cond (.t 32) (.seq (.reg rQMX5 false [] [4]) .ret) .skip)) (.seq (.reg rQMX6 false [] [0, 3, 5, 6]) (.seq (.reg rQMX7 true [(7, 7), (8, 8), (0, 1), (0, 2), (1, 4), (2, 4), (3, 4), (1, 5), (2, 5), (3, 5), (1, 6), (2, 6), (3, 6)] [4]) .ret))))))
def qQM : AFn := ⟨46, 2, [.t 4], cQM⟩
/- cohesion/cohesionref03.edge -/
def rQNX0 : List O := [
 oo 4 <| .new [(.int .i64 0), (.int .i64 0)]]
def rQNX1 : List O := [
 oo 5 <| .mv (.t 0),
 oo 6 <| .mv (.t 1),
 oo 7 <| .min [(.t 5), (.t 6)],
 oo 8 <| .mv (.t 0),
 oo 9 <| .mv (.t 1),
 oo 10 <| .max [(.t 8), (.t 9)],
 oo 11 <| .build [(.int .i64 0), (.int .i64 0)] [(0, 1, (.t 7)), (1, 1, (.t 10))],
 oz <| .st 2 (.t 4) (.t 11)]
def cQN : C := (.seq (.reg rQNX0 false [] [0, 1, 4]) (.seq (.reg rQNX1 false [] [4]) .ret))
def qQN : AFn := ⟨12, 2, [.c 4 (some 2)], cQN⟩
/- cohesion/cliques.Check$1 -/
def rQOX0 : List O := [
 oo 5 <| .mv (.k (.bool false))]
def rQOX1 : List O := [
 oo 6 <| .ld none (.t 1),
 oo 7 <| .ld none (.t 2),
 oo 8 <| .len (.t 7),
 oo 9 <| .bin .lss (.t 6) (.t 8),
 oo 10 <| .mv (.t 9),
 ⟨(some 11), (some (10, true)), .mv (.t 0)⟩,
 ⟨(some 12), (some (10, true)), .ld none (.t 2)⟩,
 ⟨(some 13), (some (10, true)), .ld none (.t 1)⟩,
 ⟨(some 14), (some (10, true)), .ixa 1 (.t 12) (.t 13)⟩,
 ⟨(some 15), (some (10, true)), .ld none (.t 14)⟩,
 ⟨(some 16), (some (10, true)), .call nQP [(.t 11), (.t 15)]⟩,
 oo 17 <| .pick (.t 10) (.t 16) (.k (.bool false)),
 oz <| .st 1 (.t 3) (.t 17)]
def rQOX2 : List O := [
 oo 18 <| .ld none (.t 1),
 oo 19 <| .bin .add (.t 18) (ki 1),
 oz <| .st 1 (.t 1) (.t 19)]
def rQOX3 : List O := [
 oo 20 <| .ld none (.t 3),
 oo 5 <| .mv (.t 20)]
def cQO : C := (.seq (.reg rQOX0 false [] [0, 1, 2, 3]) (.seq (.reg rQOX1 false [] [1, 3]) (.seq (.reg rQOX2 false [] [3]) (.seq (.reg rQOX3 false [] [5]) .ret))))
def qQO : AFn := ⟨21, 1, [.t 5], cQO⟩
/- slices.Equal[[]int,int] -/
def rQPX0 : List O := [
 oo 4 <| .mv (.k (.bool false))]
def rQPX1 : List O := [
 oo 6 <| .mv (.t 0),
 oo 7 <| .len (.t 6),
 oo 8 <| .mv (.t 1),
 oo 9 <| .len (.t 8),
 oo 10 <| .bin .neq (.t 7) (.t 9)]
def rQPX2 : List O := [
 oo 4 <| .mv (.k (.bool false))]
def rQPX3 : List O := [
 oo 11 <| .mv (.t 0),
 oo 12 <| .len (.t 11),
 oo 13 <| .mv (ki 0)]
def rQPX4 : List O := [
 oo 14 <| .bin .lss (.t 13) (.t 12)]
def rQPX5 : List O := [
 oo 15 <| .mv (.t 13),
 oo 5 <| .mv (.t 15)]
def rQPX6 : List O := [
 oo 16 <| .mv (.t 0),
 oo 17 <| .mv (.t 5),
 oo 18 <| .ixa 1 (.t 16) (.t 17),
 oo 19 <| .ld none (.t 18),
 oo 20 <| .mv (.t 1),
 oo 21 <| .mv (.t 5),
 oo 22 <| .ixa 1 (.t 20) (.t 21),
 oo 23 <| .ld none (.t 22),
 oo 24 <| .bin .neq (.t 19) (.t 23)]
def rQPX7 : List O := [
 oo 4 <| .mv (.k (.bool false))]
def rQPX8 : List O := [
 oo 25 <| .bin .add (.t 13) (ki 1),
 oo 13 <| .mv (.t 25)]
def lQPX0 : C := (.seq (.reg rQPX4 false [] [0, 1, 12, 13, 14]) (.seq (.cond (.t 14) .skip (.exit 0)) (.seq (.blk 1 (.seq (.reg rQPX5 false [] [0, 1, 5, 12, 13]) (.seq (.reg rQPX6 true [(8, 8), (3, 4), (3, 5), (3, 6), (0, 7), (1, 7), (2, 7), (3, 7)] [0, 1, 12, 13, 24]) (.cond (.t 24) (.seq (.reg rQPX7 false [] [4]) .ret) .skip)))) (.reg rQPX8 false [] [0, 1, 12, 13]))))
def rQPX9 : List O := [
 oo 4 <| .mv (.k (.bool true))]
def cQP : C := (.seq (.reg rQPX0 false [] [0, 1]) (.seq (.seq (.reg rQPX1 false [] [0, 1, 10]) (.cond (.t 10) (.seq (.reg rQPX2 false [] [4]) .ret) .skip)) (.seq (.seq (.reg rQPX3 false [] [0, 1, 12, 13]) (.blk 0 (.loop lQPX0))) (.seq (.reg rQPX9 false [] [4]) .ret))))
def qQP : AFn := ⟨26, 2, [.t 4], cQP⟩
/- cohesion/cohesionmake.Mod -/
def rQQX0 : List O := [
 oo 4 <| .mv (ki 0)]
def rQQX1 : List O := [
 oo 5 <| .mv (.t 0),
 oo 6 <| .mv (.t 1),
 oo 7 <| .bin .rem (.t 5) (.t 6),
 oo 8 <| .mv (.t 1),
 oo 9 <| .bin .add (.t 7) (.t 8),
 oo 10 <| .mv (.t 1),
 oo 11 <| .bin .rem (.t 9) (.t 10),
 oo 4 <| .mv (.t 11)]
def cQQ : C := (.seq (.reg rQQX0 false [] [0, 1]) (.seq (.reg rQQX1 false [] [4]) .ret))
def qQQ : AFn := ⟨12, 2, [.t 4], cQQ⟩
/- cohesion/cliques.each$1 -/
def rQRX0 : List O := [
 oo 11 <| .mv (.k (.bool false))]
def rQRX1 : List O := [
 oo 18 <| .mv (.t 0),
 oo 19 <| .bin .eql (.t 18) (.k (.int .u64 0))]
def rQRX2 : List O := [
 oo 20 <| .mv (.t 1),
 oo 21 <| .bin .neq (.t 20) (.k (.int .u64 0)),
 oo 22 <| .mv (.t 21),
 ⟨(some 23), (some (22, false)), .ld none (.t 3)⟩,
 ⟨(some 24), (some (22, false)), .len (.t 23)⟩,
 ⟨(some 25), (some (22, false)), .bin .eql (.t 24) (ki 0)⟩,
 oo 26 <| .pick (.t 22) (.k (.bool true)) (.t 25),
 oo 27 <| .mv (.t 26),
 ⟨(some 28), (some (27, false)), .mv (.t 2)⟩,
 ⟨(some 29), (some (27, false)), .mv (.t 28)⟩,
 ⟨(some 30), (some (29, true)), .ld none (.t 3)⟩,
 ⟨(some 31), (some (29, true)), .len (.t 30)⟩,
 ⟨(some 32), (some (29, true)), .ld none (.t 4)⟩,
 ⟨(some 33), (some (29, true)), .len (.t 32)⟩,
 ⟨(some 34), (some (29, true)), .bin .leq (.t 31) (.t 33)⟩,
 ⟨(some 35), (some (27, false)), .pick (.t 29) (.t 34) (.k (.bool false))⟩,
 oo 36 <| .pick (.t 27) (.k (.bool true)) (.t 35),
 oo 37 <| .mv (.t 36),
 ⟨(some 38), (some (37, false)), .ld none (.t 5)⟩,
 ⟨(some 39), (some (37, false)), .ld none (.t 3)⟩,
 ⟨(some 40), (some (37, false)), .call nQH [(.t 39)]⟩,
 ⟨(some 41), (some (37, false)), .callv (.t 38) [(.t 40)]⟩,
 oo 42 <| .pick (.t 37) (.k (.bool true)) (.t 41),
 oo 11 <| .mv (.t 42)]
def rQRX3 : List O := [
 oo 43 <| .mv (.t 1),
 oo 12 <| .mv (.t 43)]
def rQRX4 : List O := [
 oo 44 <| .mv (.t 12),
 oo 45 <| .bin .neq (.t 44) (.k (.int .u64 0))]
def rQRX5 : List O := [
 oo 50 <| .mv (.t 0),
 oo 51 <| .ld none (.t 6),
 oo 52 <| .mv (.t 12),
 oo 53 <| .call nQI [(.t 52)],
 oo 54 <| .ixa 1 (.t 51) (.t 53),
 oo 55 <| .ld none (.t 54),
 oo 56 <| .bin .andNot (.t 50) (.t 55),
 oo 57 <| .bin .eql (.t 56) (.k (.int .u64 0))]
def rQRX6 : List O := [
 oo 11 <| .mv (.k (.bool true))]
def rQRX7 : List O := [
 oo 46 <| .mv (.t 12),
 oo 47 <| .mv (.t 12),
 oo 48 <| .bin .sub (.t 47) (.k (.int .u64 1)),
 oo 49 <| .bin .and (.t 46) (.t 48),
 oo 12 <| .mv (.t 49)]
def lQRX0 : C := (.seq (.seq (.reg rQRX4 false [] [0, 1, 2, 3, 4, 6, 7, 12, 45]) (.cond (.t 45) .skip (.exit 0))) (.seq (.blk 1 (.seq (.reg rQRX5 true [(6, 6), (7, 7), (0, 1), (1, 2), (0, 3), (1, 3), (0, 5)] [0, 1, 2, 3, 4, 6, 7, 12, 57]) (.cond (.t 57) (.seq (.reg rQRX6 false [] [11]) .ret) .skip))) (.reg rQRX7 false [] [0, 1, 2, 3, 4, 6, 7, 12])))
def rQRX8 : List O := [
 oo 58 <| .mv (.t 0),
 oo 13 <| .mv (.t 58)]
def rQRX9 : List O := [
 oo 59 <| .mv (.t 13),
 oo 60 <| .bin .neq (.t 59) (.k (.int .u64 0))]
def rQRX10 : List O := [
 oo 65 <| .mv (.t 13),
 oo 66 <| .call nQI [(.t 65)],
 oo 14 <| .mv (.t 66)]
def rQRX11 : List O := [
 oo 67 <| .mv (.t 2),
 oo 68 <| .mv (.t 67),
 ⟨(some 69), (some (68, true)), .ld none (.t 3)⟩,
 ⟨(some 70), (some (68, true)), .len (.t 69)⟩,
 ⟨(some 71), (some (68, true)), .ld none (.t 4)⟩,
 ⟨(some 72), (some (68, true)), .len (.t 71)⟩,
 ⟨(some 73), (some (68, true)), .bin .lss (.t 70) (.t 72)⟩,
 oo 74 <| .pick (.t 68) (.t 73) (.k (.bool false)),
 oo 15 <| .mv (.t 74)]
def rQRX12 : List O := [
 oo 75 <| .mv (.t 15),
 oo 76 <| .mv (.t 75),
 ⟨(some 77), (some (76, true)), .mv (.t 14)⟩,
 ⟨(some 78), (some (76, true)), .ld none (.t 4)⟩,
 ⟨(some 79), (some (76, true)), .ld none (.t 3)⟩,
 ⟨(some 80), (some (76, true)), .len (.t 79)⟩,
 ⟨(some 81), (some (76, true)), .ixa 1 (.t 78) (.t 80)⟩,
 ⟨(some 82), (some (76, true)), .ld none (.t 81)⟩,
 ⟨(some 83), (some (76, true)), .bin .lss (.t 77) (.t 82)⟩,
 oo 84 <| .pick (.t 76) (.t 83) (.k (.bool false))]
def rQRX13 : List O := [
 oo 85 <| .mv (.t 15),
 oo 86 <| .mv (.t 85),
 ⟨(some 87), (some (86, true)), .mv (.t 14)⟩,
 ⟨(some 88), (some (86, true)), .ld none (.t 4)⟩,
 ⟨(some 89), (some (86, true)), .ld none (.t 3)⟩,
 ⟨(some 90), (some (86, true)), .len (.t 89)⟩,
 ⟨(some 91), (some (86, true)), .ixa 1 (.t 88) (.t 90)⟩,
 ⟨(some 92), (some (86, true)), .ld none (.t 91)⟩,
 ⟨(some 93), (some (86, true)), .bin .eql (.t 87) (.t 92)⟩,
 oo 94 <| .pick (.t 86) (.t 93) (.k (.bool false)),
 oo 15 <| .mv (.t 94)]
def rQRX14 : List O := [
 oo 95 <| .ld none (.t 3),
 oo 96 <| .mv (.t 14),
 oo 97 <| .bslice 1 1 [(.int .i64 0)] [(0, 1, (.t 96))],
 oo 98 <| .app 1 (.t 95) (.t 97),
 oz <| .st 1 (.t 3) (.t 98)]
def rQRX15 : List O := [
 oo 99 <| .mv (.t 14),
 oo 100 <| .bin .shl (.k (.int .u64 1)) (.t 99),
 oo 101 <| .bin .sub (.t 100) (.k (.int .u64 1)),
 oo 16 <| .mv (.t 101)]
def rQRX16 : List O := [
 oo 102 <| .ld none (.t 7),
 oo 103 <| .mv (.t 0),
 oo 104 <| .ld none (.t 6),
 oo 105 <| .mv (.t 14),
 oo 106 <| .ixa 1 (.t 104) (.t 105),
 oo 107 <| .ld none (.t 106),
 oo 108 <| .bin .and (.t 103) (.t 107),
 oo 109 <| .mv (.t 16),
 oo 110 <| .bin .andNot (.t 108) (.t 109),
 oo 111 <| .mv (.t 1),
 oo 112 <| .mv (.t 0),
 oo 113 <| .mv (.t 16),
 oo 114 <| .bin .and (.t 112) (.t 113),
 oo 115 <| .bin .or (.t 111) (.t 114),
 oo 116 <| .ld none (.t 6),
 oo 117 <| .mv (.t 14),
 oo 118 <| .ixa 1 (.t 116) (.t 117),
 oo 119 <| .ld none (.t 118),
 oo 120 <| .bin .and (.t 115) (.t 119),
 oo 121 <| .mv (.t 15),
 oo 122 <| .callv (.t 102) [(.t 110), (.t 120), (.t 121)],
 oo 17 <| .mv (.t 122)]
def rQRX17 : List O := [
 oo 123 <| .ld none (.t 3),
 oo 124 <| .ld none (.t 3),
 oo 125 <| .len (.t 124),
 oo 126 <| .bin .sub (.t 125) (ki 1),
 oo 127 <| .slc 1 (.t 123) none (some (.t 126)),
 oz <| .st 1 (.t 3) (.t 127)]
def rQRX18 : List O := [
 oo 128 <| .mv (.t 17),
 oo 129 <| .un .not (.t 128)]
def rQRX19 : List O := [
 oo 11 <| .mv (.k (.bool false))]
def rQRX20 : List O := [
 oo 61 <| .mv (.t 13),
 oo 62 <| .mv (.t 13),
 oo 63 <| .bin .sub (.t 62) (.k (.int .u64 1)),
 oo 64 <| .bin .and (.t 61) (.t 63),
 oo 13 <| .mv (.t 64)]
def lQRX1 : C := (.seq (.seq (.reg rQRX9 false [] [0, 1, 2, 3, 4, 6, 7, 13, 60]) (.cond (.t 60) .skip (.exit 2))) (.seq (.blk 3 (.seq (.reg rQRX10 false [] [0, 1, 2, 3, 4, 6, 7, 13, 14]) (.seq (.reg rQRX11 false [] [0, 1, 2, 3, 4, 6, 7, 13, 14, 15]) (.seq (.seq (.reg rQRX12 false [] [0, 1, 2, 3, 4, 6, 7, 13, 14, 15, 84]) (.cond (.t 84) (.exit 3) .skip)) (.seq (.reg rQRX13 false [] [0, 1, 2, 3, 4, 6, 7, 13, 14, 15]) (.seq (.reg rQRX14 false [] [0, 1, 2, 3, 4, 6, 7, 13, 14, 15]) (.seq (.reg rQRX15 false [] [0, 1, 2, 3, 4, 6, 7, 13, 14, 15, 16]) (.seq (.reg rQRX16 true [(20, 20), (21, 21), (0, 1), (0, 2), (1, 2), (0, 3), (2, 3), (0, 4), (0, 5), (1, 5), (0, 6), (0, 7), (2, 7), (5, 7), (0, 8), (0, 9), (2, 9), (5, 9), (0, 10), (2, 10), (5, 10), (0, 11), (2, 11), (5, 11), (0, 12), (2, 12), (5, 12), (0, 13), (2, 13), (5, 13), (0, 14), (1, 14), (2, 14), (3, 14), (4, 14), (5, 14), (6, 14), (7, 14), (8, 14), (9, 14), (10, 14), (11, 14), (12, 14), (13, 14), (0, 15), (2, 15), (5, 15), (14, 15), (0, 16), (2, 16), (5, 16), (0, 17), (1, 17), (2, 17), (3, 17), (4, 17), (5, 17), (6, 17), (7, 17), (8, 17), (9, 17), (10, 17), (11, 17), (12, 17), (13, 17), (0, 18), (2, 18), (5, 18), (0, 19), (2, 19), (5, 19), (14, 19), (17, 19)] [0, 1, 2, 3, 4, 6, 7, 13, 17]) (.seq (.reg rQRX17 false [] [0, 1, 2, 3, 4, 6, 7, 13, 17]) (.seq (.reg rQRX18 false [] [0, 1, 2, 3, 4, 6, 7, 13, 129]) (.cond (.t 129) (.seq (.reg rQRX19 false [] [11]) .ret) .skip))))))))))) (.reg rQRX20 false [] [0, 1, 2, 3, 4, 6, 7, 13])))
def rQRX21 : List O := [
 oo 11 <| .mv (.k (.bool true))]
def cQR : C := (.seq (.reg rQRX0 false [] [0, 1, 2, 3, 4, 5, 6, 7]) (.seq (.seq (.reg rQRX1 false [] [0, 1, 2, 3, 4, 5, 6, 7, 19]) (.cond (.t 19) (.seq (.reg rQRX2 true [(0, 0), (1, 1), (2, 2), (3, 3), (4, 4), (5, 5), (6, 6), (7, 7), (8, 8), (9, 9), (14, 14), (15, 15), (16, 16), (17, 17), (21, 21), (22, 22), (23, 23), (10, 12), (11, 12), (10, 13), (18, 19), (18, 20)] [11]) .ret) .skip)) (.seq (.seq (.reg rQRX3 false [] [0, 1, 2, 3, 4, 6, 7, 12]) (.blk 0 (.loop lQRX0))) (.seq (.seq (.reg rQRX8 false [] [0, 1, 2, 3, 4, 6, 7, 13]) (.blk 2 (.loop lQRX1))) (.seq (.reg rQRX21 false [] [11]) .ret)))))
def qQR : AFn := ⟨130, 3, [.t 11], cQR⟩
/- cohesion/cliques.all -/
def rQSX0 : List O := [
 oo 2 <| .mv (.k (.int .u64 0))]
def rQSX1 : List O := [
 oo 3 <| .mv (.t 0),
 oo 4 <| .bin .shl (.k (.int .u64 1)) (.t 3),
 oo 5 <| .bin .sub (.t 4) (.k (.int .u64 1)),
 oo 2 <| .mv (.t 5)]
def cQS : C := (.seq (.reg rQSX0 false [] [0]) (.seq (.reg rQSX1 false [] [2]) .ret))
def qQS : AFn := ⟨6, 1, [.t 2], cQS⟩
/- cmp.Or[int] -/
def rQTX0 : List O := [
 oo 2 <| .mv (ki 0)]
def rQTX1 : List O := [
 oo 3 <| .mv (ki 0)]
def rQTX2 : List O := [
 oo 6 <| .mv (.t 0),
 oo 7 <| .len (.t 6),
 oo 8 <| .mv (ki 0)]
def rQTX3 : List O := [
 oo 9 <| .bin .lss (.t 8) (.t 7)]
def rQTX4 : List O := [
 oo 10 <| .ixa 1 (.t 6) (.t 8),
 oo 11 <| .ld none (.t 10),
 oo 5 <| .mv (.t 11)]
def rQTX5 : List O := [
 oo 12 <| .mv (.t 5),
 oo 13 <| .mv (.t 3),
 oo 14 <| .bin .neq (.t 12) (.t 13)]
def rQTX6 : List O := [
 oo 15 <| .mv (.t 5),
 oo 2 <| .mv (.t 15)]
def rQTX7 : List O := [
 oo 16 <| .bin .add (.t 8) (ki 1),
 oo 8 <| .mv (.t 16)]
def lQTX0 : C := (.seq (.reg rQTX3 false [] [3, 6, 7, 8, 9]) (.seq (.cond (.t 9) .skip (.exit 0)) (.seq (.blk 1 (.seq (.reg rQTX4 false [] [3, 5, 6, 7, 8]) (.seq (.reg rQTX5 false [] [3, 5, 6, 7, 8, 14]) (.cond (.t 14) (.seq (.reg rQTX6 false [] [2]) .ret) .skip)))) (.reg rQTX7 false [] [3, 6, 7, 8]))))
def rQTX8 : List O := [
 oo 17 <| .mv (.t 3),
 oo 2 <| .mv (.t 17)]
def cQT : C := (.seq (.reg rQTX0 false [] [0]) (.seq (.reg rQTX1 false [] [0, 3]) (.seq (.seq (.reg rQTX2 false [] [3, 6, 7, 8]) (.blk 0 (.loop lQTX0))) (.seq (.reg rQTX8 false [] [2]) .ret))))
def qQT : AFn := ⟨18, 1, [.t 2], cQT⟩
/- cmp.Compare[int] -/
def rQUX0 : List O := [
 oo 4 <| .mv (ki 0)]
def rQUX1 : List O := [
 oo 7 <| .mv (.t 0),
 oo 8 <| .call nQW [(.t 7)],
 oo 5 <| .mv (.t 8)]
def rQUX2 : List O := [
 oo 9 <| .mv (.t 1),
 oo 10 <| .call nQW [(.t 9)],
 oo 6 <| .mv (.t 10)]
def rQUX3 : List O := [
 oo 11 <| .mv (.t 5)]
def rQUX4 : List O := [
 oo 12 <| .mv (.t 6)]
def rQUX5 : List O := [
 oo 4 <| .mv (ki 0)]
def rQUX6 : List O := [
 oo 4 <| .mv (.k (.int .i64 (-1)))]
def rQUX7 : List O := [
 oo 13 <| .mv (.t 6)]
def rQUX8 : List O := [
 oo 4 <| .mv (ki 1)]
def rQUX9 : List O := [
 oo 14 <| .mv (.t 0),
 oo 15 <| .mv (.t 1),
 oo 16 <| .bin .lss (.t 14) (.t 15)]
def rQUX10 : List O := [
 oo 4 <| .mv (.k (.int .i64 (-1)))]
def rQUX11 : List O := [
 oo 17 <| .mv (.t 0),
 oo 18 <| .mv (.t 1),
 oo 19 <| .bin .gtr (.t 17) (.t 18)]
def rQUX12 : List O := [
 oo 4 <| .mv (ki 1)]
def rQUX13 : List O := [
 oo 4 <| .mv (ki 0)]
def cQU : C := (.seq (.reg rQUX0 false [] [0, 1]) (.seq (.reg rQUX1 false [] [0, 1, 5]) (.seq (.reg rQUX2 false [] [0, 1, 5, 6]) (.seq (.seq (.reg rQUX3 false [] [0, 1, 6, 11]) (.cond (.t 11) (.seq (.seq (.reg rQUX4 false [] [12]) (.cond (.t 12) (.seq (.reg rQUX5 false [] [4]) .ret) .skip)) (.seq (.reg rQUX6 false [] [4]) .ret)) .skip)) (.seq (.seq (.reg rQUX7 false [] [0, 1, 13]) (.cond (.t 13) (.seq (.reg rQUX8 false [] [4]) .ret) .skip)) (.seq (.seq (.reg rQUX9 false [] [0, 1, 16]) (.cond (.t 16) (.seq (.reg rQUX10 false [] [4]) .ret) .skip)) (.seq (.seq (.reg rQUX11 false [] [19]) (.cond (.t 19) (.seq (.reg rQUX12 false [] [4]) .ret) .skip)) (.seq (.reg rQUX13 false [] [4]) .ret))))))))
def qQU : AFn := ⟨20, 2, [.t 4], cQU⟩
/- cohesion/cohesionref03.Before -/
def rQVX0 : List O := [
 oo 2 <| .box (.t 0),
 oo 3 <| .box (.t 1),
 oo 4 <| .mv (.k (.bool false))]
def rQVX1 : List O := [
 oo 5 <| .fad 0 (.t 2),
 oo 6 <| .ld none (.t 5),
 oo 7 <| .fad 0 (.t 3),
 oo 8 <| .ld none (.t 7),
 oo 9 <| .bin .lss (.t 6) (.t 8),
 oo 10 <| .mv (.t 9),
 ⟨(some 11), (some (10, false)), .fad 0 (.t 2)⟩,
 ⟨(some 12), (some (10, false)), .ld none (.t 11)⟩,
 ⟨(some 13), (some (10, false)), .fad 0 (.t 3)⟩,
 ⟨(some 14), (some (10, false)), .ld none (.t 13)⟩,
 ⟨(some 15), (some (10, false)), .bin .eql (.t 12) (.t 14)⟩,
 ⟨(some 16), (some (10, false)), .mv (.t 15)⟩,
 ⟨(some 17), (some (16, true)), .fad 1 (.t 2)⟩,
 ⟨(some 18), (some (16, true)), .ld none (.t 17)⟩,
 ⟨(some 19), (some (16, true)), .fad 1 (.t 3)⟩,
 ⟨(some 20), (some (16, true)), .ld none (.t 19)⟩,
 ⟨(some 21), (some (16, true)), .bin .lss (.t 18) (.t 20)⟩,
 ⟨(some 22), (some (10, false)), .pick (.t 16) (.t 21) (.k (.bool false))⟩,
 oo 23 <| .pick (.t 10) (.k (.bool true)) (.t 22),
 oo 4 <| .mv (.t 23)]
def cQV : C := (.seq (.reg rQVX0 false [] [2, 3]) (.seq (.reg rQVX1 false [] [4]) .ret))
def qQV : AFn := ⟨24, 2, [.t 4], cQV⟩
/- cmp.isNaN[int] -/
def rQWX0 : List O := [
 oo 2 <| .mv (.k (.bool false))]
def rQWX1 : List O := [
 oo 3 <| .mv (.t 0),
 oo 4 <| .mv (.t 0),
 oo 5 <| .bin .neq (.t 3) (.t 4),
 oo 2 <| .mv (.t 5)]
def cQW : C := (.seq (.reg rQWX0 false [] [0]) (.seq (.reg rQWX1 false [] [2]) .ret))
def qQW : AFn := ⟨6, 1, [.t 2], cQW⟩
abbrev Md := Go.Bm.Md
abbrev Cfg := Go.Bm.Cfg
def look : List (Nat × Md × AFn) -> Nat -> Option (Md × AFn)
 | [], _ => none
 | (j, m, q) :: r, i => if i = j then some (m, q) else look r i
def fns : List (Nat × Md × AFn) := [
 (nQa, ⟨false, false, true⟩, qQa),
 (nQb, ⟨false, false, true⟩, qQb),
 (nQc, ⟨false, false, true⟩, qQc),
 (nQd, ⟨true, false, false⟩, qQd),
 (nQe, ⟨true, false, false⟩, qQe),
 (nQf, ⟨false, false, false⟩, qQf),
 (nQg, ⟨false, false, true⟩, qQg),
 (nQh, ⟨false, false, false⟩, qQh),
 (nQi, ⟨false, false, true⟩, qQi),
 (nQj, ⟨false, false, true⟩, qQj),
 (nQk, ⟨false, false, false⟩, qQk),
 (nQl, ⟨false, false, false⟩, qQl),
 (nQm, ⟨true, false, false⟩, qQm),
 (nQn, ⟨false, false, true⟩, qQn),
 (nQo, ⟨false, false, false⟩, qQo),
 (nQp, ⟨false, false, true⟩, qQp),
 (nQq, ⟨false, false, false⟩, qQq),
 (nQr, ⟨false, false, true⟩, qQr),
 (nQs, ⟨true, false, false⟩, qQs),
 (nQt, ⟨false, false, true⟩, qQt),
 (nQu, ⟨true, false, false⟩, qQu),
 (nQv, ⟨true, false, false⟩, qQv),
 (nQw, ⟨false, false, true⟩, qQw),
 (nQx, ⟨false, false, false⟩, qQx),
 (nQy, ⟨false, false, true⟩, qQy),
 (nQz, ⟨false, false, false⟩, qQz),
 (nQA, ⟨false, false, true⟩, qQA),
 (nQB, ⟨false, false, true⟩, qQB),
 (nQC, ⟨false, false, false⟩, qQC),
 (nQD, ⟨false, false, true⟩, qQD),
 (nQE, ⟨false, false, false⟩, qQE),
 (nQF, ⟨false, false, true⟩, qQF),
 (nQG, ⟨false, false, true⟩, qQG),
 (nQH, ⟨false, true, true⟩, qQH),
 (nQI, ⟨false, false, true⟩, qQI),
 (nQJ, ⟨false, false, true⟩, qQJ),
 (nQK, ⟨false, false, true⟩, qQK),
 (nQL, ⟨false, false, true⟩, qQL),
 (nQM, ⟨false, false, false⟩, qQM),
 (nQN, ⟨false, false, false⟩, qQN),
 (nQO, ⟨true, false, false⟩, qQO),
 (nQP, ⟨false, false, true⟩, qQP),
 (nQQ, ⟨false, false, true⟩, qQQ),
 (nQR, ⟨true, false, false⟩, qQR),
 (nQS, ⟨false, false, true⟩, qQS),
 (nQT, ⟨false, false, true⟩, qQT),
 (nQU, ⟨false, false, true⟩, qQU),
 (nQV, ⟨false, false, true⟩, qQV),
 (nQW, ⟨false, false, true⟩, qQW)]
def nQX : Nat := 0
def tabZ : List Int := [0, 1, 56, 2, 57, 49, 28, 3, 61, 58, 42, 50, 38, 29, 17, 4, 62, 47, 59, 36, 45, 43, 51, 22, 53, 39, 33, 30, 24, 18, 12, 5, 63, 55, 48, 27, 60, 41, 37, 16, 46, 35, 44, 21, 52, 32, 23, 11, 54, 26, 40, 15, 34, 20, 31, 10, 25, 14, 19, 9, 13, 8, 7, 6]
def tabA : List AV := tabZ.map (AV.int .u8)
def cfg : Cfg := ⟨look fns, fun i => if i = nQX then tabA else [], fun _ => none, fun _ => none, fun _ => none, fun _ => false⟩
theorem kLaw24CliquesCover : chkFB Go.Proofs.Tryd.prog Go.Proofs.Tryd.f3 qQa = true := by kernel_rfl
theorem kMakeFew : chkFB Go.Proofs.Tryd.prog Go.Proofs.Tryd.f4 qQb = true := by kernel_rfl
theorem kLaw24Awake : chkFB Go.Proofs.Tryd.prog Go.Proofs.Tryd.f5 qQc = true := by kernel_rfl
theorem kMakeNew : chkFB Go.Proofs.Tryd.prog Go.Proofs.Tryd.f6 qQd = true := by kernel_rfl
theorem kMakeGraph : chkFB Go.Proofs.Tryd.prog Go.Proofs.Tryd.f7 qQe = true := by kernel_rfl
theorem kCliquesAll : chkFB Go.Proofs.Tryd.prog Go.Proofs.Tryd.f8 qQf = true := by kernel_rfl
theorem kCliquesMaximal : chkFB Go.Proofs.Tryd.prog Go.Proofs.Tryd.f9 qQg = true := by kernel_rfl
theorem kGraphOf : chkFB Go.Proofs.Tryd.prog Go.Proofs.Tryd.f10 qQh = true := by kernel_rfl
theorem kRef03Same : chkFB Go.Proofs.Tryd.prog Go.Proofs.Tryd.f11 qQi = true := by kernel_rfl
theorem kRef02Cmp : chkFB Go.Proofs.Tryd.prog Go.Proofs.Tryd.f12 qQj = true := by kernel_rfl
theorem kRef02Of : chkFB Go.Proofs.Tryd.prog Go.Proofs.Tryd.f13 qQk = true := by kernel_rfl
theorem kRef02Range : chkFB Go.Proofs.Tryd.prog Go.Proofs.Tryd.f14 qQl = true := by kernel_rfl
theorem kMakeSet : chkFB Go.Proofs.Tryd.prog Go.Proofs.Tryd.f15 qQm = true := by kernel_rfl
theorem kCliquesIs : chkFB Go.Proofs.Tryd.prog Go.Proofs.Tryd.f16 qQn = true := by kernel_rfl
theorem kCliquesExtend : chkFB Go.Proofs.Tryd.prog Go.Proofs.Tryd.f17 qQo = true := by kernel_rfl
theorem kRef02Within : chkFB Go.Proofs.Tryd.prog Go.Proofs.Tryd.f18 qQp = true := by kernel_rfl
theorem kRef03Of : chkFB Go.Proofs.Tryd.prog Go.Proofs.Tryd.f19 qQq = true := by kernel_rfl
theorem kCliquesCheck : chkFB Go.Proofs.Tryd.prog Go.Proofs.Tryd.f20 qQr = true := by kernel_rfl
theorem kMakeDeckNext : chkFB Go.Proofs.Tryd.prog Go.Proofs.Tryd.f21 qQs = true := by kernel_rfl
theorem kGraphCheck : chkFB Go.Proofs.Tryd.prog Go.Proofs.Tryd.f22 qQt = true := by kernel_rfl
theorem kCliquesEach : chkFB Go.Proofs.Tryd.prog Go.Proofs.Tryd.f23 qQu = true := by kernel_rfl
theorem kCliquesAll1 : chkFB Go.Proofs.Tryd.prog Go.Proofs.Tryd.f24 qQv = true := by kernel_rfl
theorem kCliquesCommon : chkFB Go.Proofs.Tryd.prog Go.Proofs.Tryd.f25 qQw = true := by kernel_rfl
theorem kCliquesMasks : chkFB Go.Proofs.Tryd.prog Go.Proofs.Tryd.f26 qQx = true := by kernel_rfl
theorem kGraphEnds : chkFB Go.Proofs.Tryd.prog Go.Proofs.Tryd.f27 qQy = true := by kernel_rfl
theorem kGraphEdge : chkFB Go.Proofs.Tryd.prog Go.Proofs.Tryd.f28 qQz = true := by kernel_rfl
theorem kSlicesSortFuncApiEdgeApiEdge : chkFB Go.Proofs.Tryd.prog Go.Proofs.Tryd.f29 qQA = true := by kernel_rfl
theorem kGraphOrder : chkFB Go.Proofs.Tryd.prog Go.Proofs.Tryd.f30 qQB = true := by kernel_rfl
theorem kSlicesCompactApiEdgeApiEdge : chkFB Go.Proofs.Tryd.prog Go.Proofs.Tryd.f31 qQC = true := by kernel_rfl
theorem kRef03SameEdges : chkFB Go.Proofs.Tryd.prog Go.Proofs.Tryd.f32 qQD = true := by kernel_rfl
theorem kRef02Put : chkFB Go.Proofs.Tryd.prog Go.Proofs.Tryd.f33 qQE = true := by kernel_rfl
theorem kNodesetValid : chkFB Go.Proofs.Tryd.prog Go.Proofs.Tryd.f34 qQF = true := by kernel_rfl
theorem kCliquesClique : chkFB Go.Proofs.Tryd.prog Go.Proofs.Tryd.f35 qQG = true := by kernel_rfl
theorem kSlicesCloneIntInt : chkFB Go.Proofs.Tryd.prog Go.Proofs.Tryd.f36 qQH = true := by kernel_rfl
theorem kMathBitsTrailingZeros64 : chkFB Go.Proofs.Tryd.prog Go.Proofs.Tryd.f37 qQI = true := by kernel_rfl
theorem kSlicesSortIntInt : chkFB Go.Proofs.Tryd.prog Go.Proofs.Tryd.f38 qQJ = true := by kernel_rfl
theorem kRef02Has : chkFB Go.Proofs.Tryd.prog Go.Proofs.Tryd.f39 qQK = true := by kernel_rfl
theorem kRef03Ends : chkFB Go.Proofs.Tryd.prog Go.Proofs.Tryd.f40 qQL = true := by kernel_rfl
theorem kRef03With : chkFB Go.Proofs.Tryd.prog Go.Proofs.Tryd.f41 qQM = true := by kernel_rfl
theorem kRef03Edge : chkFB Go.Proofs.Tryd.prog Go.Proofs.Tryd.f42 qQN = true := by kernel_rfl
theorem kCliquesCheck1 : chkFB Go.Proofs.Tryd.prog Go.Proofs.Tryd.f43 qQO = true := by kernel_rfl
theorem kSlicesEqualIntInt : chkFB Go.Proofs.Tryd.prog Go.Proofs.Tryd.f44 qQP = true := by kernel_rfl
theorem kMakeMod : chkFB Go.Proofs.Tryd.prog Go.Proofs.Tryd.f45 qQQ = true := by kernel_rfl
theorem kCliquesEach1 : chkFB Go.Proofs.Tryd.prog Go.Proofs.Tryd.f46 qQR = true := by kernel_rfl
theorem kCliquesAllN47 : chkFB Go.Proofs.Tryd.prog Go.Proofs.Tryd.f47 qQS = true := by kernel_rfl
theorem kCmpOrInt : chkFB Go.Proofs.Tryd.prog Go.Proofs.Tryd.f50 qQT = true := by kernel_rfl
theorem kCmpCompareInt : chkFB Go.Proofs.Tryd.prog Go.Proofs.Tryd.f51 qQU = true := by kernel_rfl
theorem kRef03Before : chkFB Go.Proofs.Tryd.prog Go.Proofs.Tryd.f53 qQV = true := by kernel_rfl
theorem kCmpIsNaNInt : chkFB Go.Proofs.Tryd.prog Go.Proofs.Tryd.f64 qQW = true := by kernel_rfl
theorem look_mem : ∀ {l : List (Nat × Md × AFn)} {f : Nat} {m : Md} {q : AFn}, look l f = some (m, q) -> (f, m, q) ∈ l
 | [], f, m, q, h => by simp [look] at h
 | (j, m', q') :: r, f, m, q, h => by
   unfold look at h
   split at h
   ·rename_i he; subst he; simp at h; obtain ⟨rfl, rfl⟩ := h; simp
   ·exact List.mem_cons_of_mem _ (look_mem h)
def Good (p : Nat × Md × AFn) : Prop := ∃ fn, Go.Proofs.Tryd.prog.funcs[p.1]? = some fn /\ chkFB Go.Proofs.Tryd.prog fn p.2.2 = true
def All (G : Nat × Md × AFn -> Prop) : List (Nat × Md × AFn) -> Prop
 | [] => True
 | p :: r => G p /\ All G r
theorem All.get {G : Nat × Md × AFn -> Prop} : ∀ {l : List (Nat × Md × AFn)}, All G l -> ∀ p ∈ l, G p
 | [], _, p, h => by simp at h
 | q :: r, h, p, hp => by
   rcases List.mem_cons.1 hp with e | e
   ·subst e; exact h.1
   ·exact All.get h.2 p e
theorem allGood : All Good fns := ⟨⟨_, Go.Proofs.Tryd.func3, kLaw24CliquesCover⟩, ⟨_, Go.Proofs.Tryd.func4, kMakeFew⟩, ⟨_, Go.Proofs.Tryd.func5, kLaw24Awake⟩, ⟨_, Go.Proofs.Tryd.func6, kMakeNew⟩, ⟨_, Go.Proofs.Tryd.func7, kMakeGraph⟩, ⟨_, Go.Proofs.Tryd.func8, kCliquesAll⟩, ⟨_, Go.Proofs.Tryd.func9, kCliquesMaximal⟩, ⟨_, Go.Proofs.Tryd.func10, kGraphOf⟩, ⟨_, Go.Proofs.Tryd.func11, kRef03Same⟩, ⟨_, Go.Proofs.Tryd.func12, kRef02Cmp⟩, ⟨_, Go.Proofs.Tryd.func13, kRef02Of⟩, ⟨_, Go.Proofs.Tryd.func14, kRef02Range⟩, ⟨_, Go.Proofs.Tryd.func15, kMakeSet⟩, ⟨_, Go.Proofs.Tryd.func16, kCliquesIs⟩, ⟨_, Go.Proofs.Tryd.func17, kCliquesExtend⟩, ⟨_, Go.Proofs.Tryd.func18, kRef02Within⟩, ⟨_, Go.Proofs.Tryd.func19, kRef03Of⟩, ⟨_, Go.Proofs.Tryd.func20, kCliquesCheck⟩, ⟨_, Go.Proofs.Tryd.func21, kMakeDeckNext⟩, ⟨_, Go.Proofs.Tryd.func22, kGraphCheck⟩, ⟨_, Go.Proofs.Tryd.func23, kCliquesEach⟩, ⟨_, Go.Proofs.Tryd.func24, kCliquesAll1⟩, ⟨_, Go.Proofs.Tryd.func25, kCliquesCommon⟩, ⟨_, Go.Proofs.Tryd.func26, kCliquesMasks⟩, ⟨_, Go.Proofs.Tryd.func27, kGraphEnds⟩, ⟨_, Go.Proofs.Tryd.func28, kGraphEdge⟩, ⟨_, Go.Proofs.Tryd.func29, kSlicesSortFuncApiEdgeApiEdge⟩, ⟨_, Go.Proofs.Tryd.func30, kGraphOrder⟩, ⟨_, Go.Proofs.Tryd.func31, kSlicesCompactApiEdgeApiEdge⟩, ⟨_, Go.Proofs.Tryd.func32, kRef03SameEdges⟩, ⟨_, Go.Proofs.Tryd.func33, kRef02Put⟩, ⟨_, Go.Proofs.Tryd.func34, kNodesetValid⟩, ⟨_, Go.Proofs.Tryd.func35, kCliquesClique⟩, ⟨_, Go.Proofs.Tryd.func36, kSlicesCloneIntInt⟩, ⟨_, Go.Proofs.Tryd.func37, kMathBitsTrailingZeros64⟩, ⟨_, Go.Proofs.Tryd.func38, kSlicesSortIntInt⟩, ⟨_, Go.Proofs.Tryd.func39, kRef02Has⟩, ⟨_, Go.Proofs.Tryd.func40, kRef03Ends⟩, ⟨_, Go.Proofs.Tryd.func41, kRef03With⟩, ⟨_, Go.Proofs.Tryd.func42, kRef03Edge⟩, ⟨_, Go.Proofs.Tryd.func43, kCliquesCheck1⟩, ⟨_, Go.Proofs.Tryd.func44, kSlicesEqualIntInt⟩, ⟨_, Go.Proofs.Tryd.func45, kMakeMod⟩, ⟨_, Go.Proofs.Tryd.func46, kCliquesEach1⟩, ⟨_, Go.Proofs.Tryd.func47, kCliquesAllN47⟩, ⟨_, Go.Proofs.Tryd.func50, kCmpOrInt⟩, ⟨_, Go.Proofs.Tryd.func51, kCmpCompareInt⟩, ⟨_, Go.Proofs.Tryd.func53, kRef03Before⟩, ⟨_, Go.Proofs.Tryd.func64, kCmpIsNaNInt⟩, trivial⟩
theorem cfgOK : CfgOKB Go.Proofs.Tryd.prog cfg := ⟨by kernel_rfl, fun f m q h => allGood.get _ (look_mem h)⟩
theorem gQa : cfg.fn nQa = some (⟨false, false, true⟩, qQa) := rfl
theorem gQb : cfg.fn nQb = some (⟨false, false, true⟩, qQb) := rfl
theorem gQc : cfg.fn nQc = some (⟨false, false, true⟩, qQc) := rfl
theorem gQd : cfg.fn nQd = some (⟨true, false, false⟩, qQd) := rfl
theorem gQe : cfg.fn nQe = some (⟨true, false, false⟩, qQe) := rfl
theorem gQf : cfg.fn nQf = some (⟨false, false, false⟩, qQf) := rfl
theorem gQg : cfg.fn nQg = some (⟨false, false, true⟩, qQg) := rfl
theorem gQh : cfg.fn nQh = some (⟨false, false, false⟩, qQh) := rfl
theorem gQi : cfg.fn nQi = some (⟨false, false, true⟩, qQi) := rfl
theorem gQj : cfg.fn nQj = some (⟨false, false, true⟩, qQj) := rfl
theorem gQk : cfg.fn nQk = some (⟨false, false, false⟩, qQk) := rfl
theorem gQl : cfg.fn nQl = some (⟨false, false, false⟩, qQl) := rfl
theorem gQm : cfg.fn nQm = some (⟨true, false, false⟩, qQm) := rfl
theorem gQn : cfg.fn nQn = some (⟨false, false, true⟩, qQn) := rfl
theorem gQo : cfg.fn nQo = some (⟨false, false, false⟩, qQo) := rfl
theorem gQp : cfg.fn nQp = some (⟨false, false, true⟩, qQp) := rfl
theorem gQs : cfg.fn nQs = some (⟨true, false, false⟩, qQs) := rfl
theorem gQt : cfg.fn nQt = some (⟨false, false, true⟩, qQt) := rfl
theorem gQu : cfg.fn nQu = some (⟨true, false, false⟩, qQu) := rfl
theorem gQv : cfg.fn nQv = some (⟨true, false, false⟩, qQv) := rfl
theorem gQw : cfg.fn nQw = some (⟨false, false, true⟩, qQw) := rfl
theorem gQx : cfg.fn nQx = some (⟨false, false, false⟩, qQx) := rfl
theorem gQy : cfg.fn nQy = some (⟨false, false, true⟩, qQy) := rfl
theorem gQz : cfg.fn nQz = some (⟨false, false, false⟩, qQz) := rfl
theorem gQA : cfg.fn nQA = some (⟨false, false, true⟩, qQA) := rfl
theorem gQB : cfg.fn nQB = some (⟨false, false, true⟩, qQB) := rfl
theorem gQC : cfg.fn nQC = some (⟨false, false, false⟩, qQC) := rfl
theorem gQD : cfg.fn nQD = some (⟨false, false, true⟩, qQD) := rfl
theorem gQE : cfg.fn nQE = some (⟨false, false, false⟩, qQE) := rfl
theorem gQF : cfg.fn nQF = some (⟨false, false, true⟩, qQF) := rfl
theorem gQG : cfg.fn nQG = some (⟨false, false, true⟩, qQG) := rfl
theorem gQH : cfg.fn nQH = some (⟨false, true, true⟩, qQH) := rfl
theorem gQI : cfg.fn nQI = some (⟨false, false, true⟩, qQI) := rfl
theorem gQJ : cfg.fn nQJ = some (⟨false, false, true⟩, qQJ) := rfl
theorem gQK : cfg.fn nQK = some (⟨false, false, true⟩, qQK) := rfl
theorem gQQ : cfg.fn nQQ = some (⟨false, false, true⟩, qQQ) := rfl
theorem gQR : cfg.fn nQR = some (⟨true, false, false⟩, qQR) := rfl
theorem gQS : cfg.fn nQS = some (⟨false, false, true⟩, qQS) := rfl
theorem gQT : cfg.fn nQT = some (⟨false, false, true⟩, qQT) := rfl
theorem gQU : cfg.fn nQU = some (⟨false, false, true⟩, qQU) := rfl
theorem gQW : cfg.fn nQW = some (⟨false, false, true⟩, qQW) := rfl
end Go.BmP
