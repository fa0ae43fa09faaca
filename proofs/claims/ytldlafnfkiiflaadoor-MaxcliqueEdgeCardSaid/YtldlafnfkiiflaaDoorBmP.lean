/- The compact code of the functions, printed by program off the translation. -/
import Derived.Test.YtldlafnfkiiflaaDoorChecked
import Derived.Test.YtldlafnfkiiflaaDoorBmA
import Derived.KernelRfl
set_option maxRecDepth 100000
namespace Go.BmP
open Go.Am Go.Bm
abbrev oo (d : Nat) (x : Kd) : O := ⟨some d, none, x⟩
abbrev oz (x : Kd) : O := ⟨none, none, x⟩
abbrev ki (n : Nat) : E := .k (.int .i64 n)
def nQa : Nat := 4
def nQb : Nat := 6
def nQc : Nat := 7
def nQd : Nat := 8
def nQe : Nat := 9
def nQf : Nat := 13
def nQg : Nat := 16
def nQh : Nat := 17
def nQi : Nat := 19
def nQj : Nat := 20
def nQk : Nat := 21
def nQl : Nat := 22
def nQm : Nat := 25
def nQn : Nat := 28
def nQo : Nat := 29
def nQp : Nat := 30
def nQq : Nat := 31
def nQr : Nat := 41
def nQs : Nat := 42
def nQt : Nat := 43
def nQu : Nat := 44
def nQv : Nat := 49
def nQw : Nat := 50
def nQx : Nat := 51
def nQy : Nat := 52
def nQz : Nat := 57
def nQA : Nat := 63
def nQB : Nat := 66
def nQC : Nat := 67
def nQD : Nat := 68
def nQE : Nat := 74
def nQF : Nat := 75
def nQG : Nat := 87
/- cohesion/cohesionlaw26.MaxcliqueEdge -/
def rQaX0 : List O := [
 oo 2 <| .mv (.k (.bool false))]
def rQaX1 : List O := [
 oo 18 <| .mv (.t 0),
 oo 19 <| .call nQb [(.t 18)],
 oo 20 <| .un .not (.t 19)]
def rQaX2 : List O := [
 oo 21 <| .call nQc [],
 oo 2 <| .mv (.t 21)]
def rQaX3 : List O := [
 oo 22 <| .mv (.t 0),
 oo 23 <| .call nQd [(.t 22)],
 oo 3 <| .mv (.t 23)]
def rQaX4 : List O := [
 oo 24 <| .mv (.t 3),
 oo 25 <| .call nQg [(.t 24), (ki 7)],
 oo 26 <| .mv (.t 3),
 oo 27 <| .call nQg [(.t 26), (ki 5)],
 oo 4 <| .new [(.int .i64 0), (.own 2 [])],
 oo 5 <| .new [(.int .i64 0), (.own 2 [])],
 oz <| .st 2 (.t 4) (.t 25),
 oz <| .st 2 (.t 5) (.t 27)]
def rQaX5 : List O := [
 oo 29 <| .ld (some 2) (.t 4),
 oo 30 <| .call nQj [(.t 29)],
 oo 28 <| .mv (.t 30),
 oo 31 <| .ext 0 (.t 28),
 oo 32 <| .ext 1 (.t 28),
 oo 6 <| .mv (.t 31),
 oo 7 <| .mv (.t 32)]
def rQaX6 : List O := [
 oo 34 <| .ld (some 2) (.t 5),
 oo 35 <| .call nQj [(.t 34)],
 oo 33 <| .mv (.t 35),
 oo 36 <| .ext 0 (.t 33),
 oo 37 <| .ext 1 (.t 33),
 oo 8 <| .mv (.t 36),
 oo 9 <| .mv (.t 37)]
def rQaX7 : List O := [
 oo 39 <| .ld (some 2) (.t 4),
 oo 40 <| .ld (some 2) (.t 5),
 oo 41 <| .call nQk [(.t 39), (.t 40)],
 oo 42 <| .call nQj [(.t 41)],
 oo 38 <| .mv (.t 42),
 oo 43 <| .ext 0 (.t 38),
 oo 44 <| .ext 1 (.t 38),
 oo 10 <| .mv (.t 43),
 oo 11 <| .mv (.t 44)]
def rQaX8 : List O := [
 oo 45 <| .mv (.t 3),
 oo 46 <| .call nQe [(.t 45), (ki 7)],
 oo 47 <| .mv (.t 3),
 oo 48 <| .call nQe [(.t 47), (ki 7)],
 oo 12 <| .mv (.t 46),
 oo 13 <| .mv (.t 48)]
def rQaX9 : List O := [
 oo 49 <| .mv (.t 7),
 oo 50 <| .bin .neq (.t 49) (ki 0),
 oo 51 <| .mv (.t 50),
 ⟨(some 52), (some (51, false)), .mv (.t 9)⟩,
 ⟨(some 53), (some (51, false)), .bin .neq (.t 52) (ki 0)⟩,
 oo 54 <| .pick (.t 51) (.k (.bool true)) (.t 53),
 oo 55 <| .mv (.t 54),
 ⟨(some 56), (some (55, false)), .mv (.t 11)⟩,
 ⟨(some 57), (some (55, false)), .bin .neq (.t 56) (ki 0)⟩,
 oo 58 <| .pick (.t 55) (.k (.bool true)) (.t 57),
 oo 59 <| .mv (.t 58),
 ⟨(some 60), (some (59, false)), .mv (.t 10)⟩,
 ⟨(some 61), (some (59, false)), .len (.t 60)⟩,
 ⟨(some 62), (some (59, false)), .mv (.t 6)⟩,
 ⟨(some 63), (some (59, false)), .len (.t 62)⟩,
 ⟨(some 64), (some (59, false)), .mv (.t 8)⟩,
 ⟨(some 65), (some (59, false)), .len (.t 64)⟩,
 ⟨(some 66), (some (59, false)), .max [(.t 63), (.t 65)]⟩,
 ⟨(some 67), (some (59, false)), .bin .neq (.t 61) (.t 66)⟩,
 oo 68 <| .pick (.t 59) (.k (.bool true)) (.t 67)]
def rQaX10 : List O := [
 oo 2 <| .mv (.k (.bool false))]
def rQaX11 : List O := [
 oo 70 <| .ld (some 2) (.t 4),
 oo 71 <| .mv (.t 12),
 oo 72 <| .mv (.t 13),
 oo 73 <| .call nQl [(.t 70), (.t 71), (.t 72)],
 oo 69 <| .mv (.t 73),
 oo 74 <| .ext 0 (.t 69),
 oo 75 <| .ext 1 (.t 69),
 oo 14 <| .new [(.int .i64 0), (.own 2 [])],
 oz <| .st 2 (.t 14) (.t 74),
 oo 15 <| .mv (.t 75)]
def rQaX12 : List O := [
 oo 76 <| .mv (.t 15),
 oo 77 <| .bin .neq (.t 76) (ki 0)]
def rQaX13 : List O := [
 oo 78 <| .call nQc [],
 oo 2 <| .mv (.t 78)]
def rQaX14 : List O := [
 oo 80 <| .ld (some 2) (.t 14),
 oo 81 <| .call nQj [(.t 80)],
 oo 79 <| .mv (.t 81),
 oo 82 <| .ext 0 (.t 79),
 oo 83 <| .ext 1 (.t 79),
 oo 16 <| .mv (.t 82),
 oo 17 <| .mv (.t 83)]
def rQaX15 : List O := [
 oo 84 <| .mv (.t 17),
 oo 85 <| .bin .eql (.t 84) (ki 0),
 oo 86 <| .mv (.t 85),
 ⟨(some 87), (some (86, true)), .mv (.t 16)⟩,
 ⟨(some 88), (some (86, true)), .len (.t 87)⟩,
 ⟨(some 89), (some (86, true)), .mv (.t 6)⟩,
 ⟨(some 90), (some (86, true)), .len (.t 89)⟩,
 ⟨(some 91), (some (86, true)), .bin .geq (.t 88) (.t 90)⟩,
 oo 92 <| .pick (.t 86) (.t 91) (.k (.bool false)),
 oo 93 <| .mv (.t 92),
 ⟨(some 94), (some (93, true)), .mv (.t 16)⟩,
 ⟨(some 95), (some (93, true)), .len (.t 94)⟩,
 ⟨(some 96), (some (93, true)), .mv (.t 6)⟩,
 ⟨(some 97), (some (93, true)), .len (.t 96)⟩,
 ⟨(some 98), (some (93, true)), .bin .add (.t 97) (ki 1)⟩,
 ⟨(some 99), (some (93, true)), .bin .leq (.t 95) (.t 98)⟩,
 oo 100 <| .pick (.t 93) (.t 99) (.k (.bool false)),
 oo 101 <| .mv (.t 100),
 ⟨(some 102), (some (101, true)), .mv (.t 16)⟩,
 ⟨(some 103), (some (101, true)), .len (.t 102)⟩,
 ⟨(some 104), (some (101, true)), .mv (.t 6)⟩,
 ⟨(some 105), (some (101, true)), .len (.t 104)⟩,
 ⟨(some 106), (some (101, true)), .bin .eql (.t 103) (.t 105)⟩,
 ⟨(some 107), (some (101, true)), .mv (.t 106)⟩,
 ⟨(some 108), (some (107, false)), .mv (.t 16)⟩,
 ⟨(some 109), (some (107, false)), .mv (.t 12)⟩,
 ⟨(some 110), (some (107, false)), .call nQf [(.t 108), (.t 109)]⟩,
 ⟨(some 111), (some (107, false)), .mv (.t 110)⟩,
 ⟨(some 112), (some (111, true)), .mv (.t 16)⟩,
 ⟨(some 113), (some (111, true)), .mv (.t 13)⟩,
 ⟨(some 114), (some (111, true)), .call nQf [(.t 112), (.t 113)]⟩,
 ⟨(some 115), (some (107, false)), .pick (.t 111) (.t 114) (.k (.bool false))⟩,
 ⟨(some 116), (some (101, true)), .pick (.t 107) (.k (.bool true)) (.t 115)⟩,
 oo 117 <| .pick (.t 101) (.t 116) (.k (.bool false)),
 oo 118 <| .mv (.t 117),
 ⟨(some 119), (some (118, true)), .call nQc []⟩,
 oo 120 <| .pick (.t 118) (.t 119) (.k (.bool false)),
 oo 2 <| .mv (.t 120)]
def cQa : C := (.seq (.reg rQaX0 false [] [0]) (.seq (.seq (.reg rQaX1 false [] [0, 20]) (.cond (.t 20) (.seq (.reg rQaX2 false [] [2]) .ret) .skip)) (.seq (.reg rQaX3 false [] [3]) (.seq (.reg rQaX4 false [] [3, 4, 5]) (.seq (.reg rQaX5 false [] [3, 4, 5, 6, 7]) (.seq (.reg rQaX6 false [] [3, 4, 5, 6, 7, 8, 9]) (.seq (.reg rQaX7 false [] [3, 4, 6, 7, 8, 9, 10, 11]) (.seq (.reg rQaX8 false [] [4, 6, 7, 8, 9, 10, 11, 12, 13]) (.seq (.seq (.reg rQaX9 false [] [4, 6, 12, 13, 68]) (.cond (.t 68) (.seq (.reg rQaX10 false [] [2]) .ret) .skip)) (.seq (.reg rQaX11 false [] [6, 12, 13, 14, 15]) (.seq (.seq (.reg rQaX12 false [] [6, 12, 13, 14, 77]) (.cond (.t 77) (.seq (.reg rQaX13 false [] [2]) .ret) .skip)) (.seq (.reg rQaX14 false [] [6, 12, 13, 16, 17]) (.seq (.reg rQaX15 false [] [2]) .ret)))))))))))))
def qQa : AFn := ⟨121, 1, [.t 2], cQa⟩
/- cohesion/cohesionmake.Few -/
def rQbX0 : List O := [
 oo 2 <| .mv (.k (.bool false))]
def rQbX1 : List O := [
 oo 3 <| .mv (.t 0),
 oo 4 <| .len (.t 3),
 oo 5 <| .bin .leq (.t 4) (ki 500),
 oo 2 <| .mv (.t 5)]
def cQb : C := (.seq (.reg rQbX0 false [] [0]) (.seq (.reg rQbX1 false [] [2]) .ret))
def qQb : AFn := ⟨6, 1, [.t 2], cQb⟩
/- cohesion/cohesionlaw26.awake -/
def rQcX0 : List O := [
 oo 0 <| .mv (.k (.bool false))]
def rQcX1 : List O := [
 oo 10 <| .build [(.int .i64 0), (.int .i64 0)] [(0, 1, (ki 0)), (1, 1, (ki 1))],
 oo 11 <| .build [(.int .i64 0), (.int .i64 0)] [(0, 1, (ki 1)), (1, 1, (ki 2))],
 oo 12 <| .build [(.int .i64 0), (.int .i64 0)] [(0, 1, (ki 2)), (1, 1, (ki 3))],
 oo 13 <| .build [(.int .i64 0), (.int .i64 0)] [(0, 1, (ki 3)), (1, 1, (ki 4))],
 oo 14 <| .build [(.int .i64 0), (.int .i64 0)] [(0, 1, (ki 4)), (1, 1, (ki 0))],
 oo 15 <| .bslice 2 5 [(.int .i64 0), (.int .i64 0)] [(0, 2, (.t 10)), (2, 2, (.t 11)), (4, 2, (.t 12)), (6, 2, (.t 13)), (8, 2, (.t 14))],
 oo 16 <| .call nQn [(ki 5), (.t 15)],
 oo 9 <| .mv (.t 16),
 oo 17 <| .ext 0 (.t 9),
 oo 18 <| .ext 1 (.t 9),
 oo 1 <| .new [(.int .i64 0), (.own 2 [])],
 oz <| .st 2 (.t 1) (.t 17),
 oo 2 <| .mv (.t 18)]
def rQcX2 : List O := [
 oo 20 <| .ld (some 2) (.t 1),
 oo 21 <| .call nQj [(.t 20)],
 oo 19 <| .mv (.t 21),
 oo 22 <| .ext 0 (.t 19),
 oo 23 <| .ext 1 (.t 19),
 oo 3 <| .mv (.t 22),
 oo 4 <| .mv (.t 23)]
def rQcX3 : List O := [
 oo 25 <| .ld (some 2) (.t 1),
 oo 26 <| .call nQo [(.t 25)],
 oo 24 <| .mv (.t 26),
 oo 27 <| .ext 0 (.t 24),
 oo 28 <| .ext 1 (.t 24),
 oo 5 <| .mv (.t 27),
 oo 6 <| .mv (.t 28)]
def rQcX4 : List O := [
 oo 30 <| .ld (some 2) (.t 1),
 oo 31 <| .call nQh [(.t 30)],
 oo 29 <| .mv (.t 31),
 oo 32 <| .ext 0 (.t 29),
 oo 33 <| .ext 1 (.t 29),
 oo 7 <| .mv (.t 32),
 oo 8 <| .mv (.t 33)]
def rQcX5 : List O := [
 oo 34 <| .mv (.t 4),
 oo 35 <| .bin .eql (.t 34) (ki 0),
 oo 36 <| .mv (.t 35),
 ⟨(some 37), (some (36, true)), .mv (.t 3)⟩,
 ⟨(some 38), (some (36, true)), .bslice 1 2 [(.int .i64 0)] [(0, 1, (ki 0)), (1, 1, (ki 1))]⟩,
 ⟨(some 39), (some (36, true)), .call nQm [(.t 37), (.t 38)]⟩,
 ⟨(some 40), (some (36, true)), .bin .eql (.t 39) (ki 0)⟩,
 oo 41 <| .pick (.t 36) (.t 40) (.k (.bool false)),
 oo 42 <| .mv (.t 41),
 ⟨(some 43), (some (42, true)), .mv (.t 6)⟩,
 ⟨(some 44), (some (42, true)), .bin .eql (.t 43) (ki 0)⟩,
 oo 45 <| .pick (.t 42) (.t 44) (.k (.bool false)),
 oo 46 <| .mv (.t 45),
 ⟨(some 47), (some (46, true)), .mv (.t 5)⟩,
 ⟨(some 48), (some (46, true)), .bin .eql (.t 47) (ki 3)⟩,
 oo 49 <| .pick (.t 46) (.t 48) (.k (.bool false)),
 oo 50 <| .mv (.t 49),
 ⟨(some 51), (some (50, true)), .mv (.t 8)⟩,
 ⟨(some 52), (some (50, true)), .bin .eql (.t 51) (ki 0)⟩,
 oo 53 <| .pick (.t 50) (.t 52) (.k (.bool false)),
 oo 54 <| .mv (.t 53),
 ⟨(some 55), (some (54, true)), .ld (some 2) (.t 1)⟩,
 ⟨(some 56), (some (54, true)), .mv (.t 7)⟩,
 ⟨(some 57), (some (54, true)), .call nQi [(.t 55), (.t 56)]⟩,
 oo 58 <| .pick (.t 54) (.t 57) (.k (.bool false)),
 oo 0 <| .mv (.t 58)]
def cQc : C := (.seq (.reg rQcX0 false [] []) (.seq (.reg rQcX1 false [] [1]) (.seq (.reg rQcX2 false [] [1, 3, 4]) (.seq (.reg rQcX3 false [] [1, 3, 4, 5, 6]) (.seq (.reg rQcX4 false [] [1, 3, 4, 5, 6, 7, 8]) (.seq (.reg rQcX5 false [] [0]) .ret))))))
def qQc : AFn := ⟨59, 0, [.t 0], cQc⟩
/- cohesion/cohesionmake.New -/
def rQdX0 : List O := [
 oo 2 <| .mv (.k .nilp)]
def rQdX1 : List O := [
 oo 3 <| .mv (.t 0),
 oo 4 <| .build [(.own 1 []), (.int .i64 0)] [(0, 1, (.t 3))],
 oo 5 <| .box (.t 4),
 oo 2 <| .mv (.t 5)]
def cQd : C := (.seq (.reg rQdX0 false [] [0]) (.seq (.reg rQdX1 false [] [2]) .ret))
def qQd : AFn := ⟨6, 1, [.t 2], cQd⟩
/- (*cohesion/cohesionmake.Deck).Next -/
def rQeX0 : List O := [
 oo 4 <| .mv (ki 0)]
def rQeX1 : List O := [
 oo 6 <| .mv (.t 1),
 oo 7 <| .bin .lss (.t 6) (ki 1),
 oo 8 <| .mv (.t 7),
 ⟨(some 9), (some (8, false)), .mv (.t 0)⟩,
 ⟨(some 10), (some (8, false)), .nilck (.t 9)⟩,
 ⟨(some 11), (some (8, false)), .fad 1 (.t 10)⟩,
 ⟨(some 12), (some (8, false)), .ld none (.t 11)⟩,
 ⟨(some 13), (some (8, false)), .mv (.t 0)⟩,
 ⟨(some 14), (some (8, false)), .nilck (.t 13)⟩,
 ⟨(some 15), (some (8, false)), .fad 0 (.t 14)⟩,
 ⟨(some 16), (some (8, false)), .ld none (.t 15)⟩,
 ⟨(some 17), (some (8, false)), .len (.t 16)⟩,
 ⟨(some 18), (some (8, false)), .bin .geq (.t 12) (.t 17)⟩,
 oo 19 <| .pick (.t 8) (.k (.bool true)) (.t 18)]
def rQeX2 : List O := [
 oo 4 <| .mv (ki 0)]
def rQeX3 : List O := [
 oo 20 <| .mv (.t 0),
 oo 21 <| .nilck (.t 20),
 oo 22 <| .fad 0 (.t 21),
 oo 23 <| .ld none (.t 22),
 oo 24 <| .mv (.t 0),
 oo 25 <| .nilck (.t 24),
 oo 26 <| .fad 1 (.t 25),
 oo 27 <| .ld none (.t 26),
 oo 28 <| .ixa 1 (.t 23) (.t 27),
 oo 29 <| .ld none (.t 28),
 oo 5 <| .mv (.t 29)]
def rQeX4 : List O := [
 oo 30 <| .mv (.t 0),
 oo 31 <| .nilck (.t 30),
 oo 32 <| .fad 1 (.t 31),
 oo 33 <| .ld none (.t 32),
 oo 34 <| .bin .add (.t 33) (ki 1),
 oo 35 <| .nilck (.t 30),
 oo 36 <| .fad 1 (.t 35),
 oz <| .st 1 (.t 36) (.t 34)]
def rQeX5 : List O := [
 oo 37 <| .mv (.t 5),
 oo 38 <| .mv (.t 1),
 oo 39 <| .call nQp [(.t 37), (.t 38)],
 oo 4 <| .mv (.t 39)]
def cQe : C := (.seq (.reg rQeX0 false [] [0, 1]) (.seq (.seq (.reg rQeX1 true [(0, 0), (1, 1), (2, 2), (12, 12), (13, 13), (6, 7), (6, 8), (6, 9), (3, 10), (4, 10), (5, 10), (6, 10), (6, 11)] [0, 1, 19]) (.cond (.t 19) (.seq (.reg rQeX2 false [] [4]) .ret) .skip)) (.seq (.reg rQeX3 true [(8, 8), (9, 9), (10, 10), (3, 4), (3, 5), (3, 6), (0, 7), (1, 7), (2, 7), (3, 7)] [0, 1, 5]) (.seq (.reg rQeX4 false [] [1, 5]) (.seq (.reg rQeX5 false [] [4]) .ret)))))
def qQe : AFn := ⟨40, 2, [.t 4], cQe⟩
/- cohesion/cohesionref02.Has -/
def rQfX0 : List O := [
 oo 4 <| .mv (.k (.bool false))]
def rQfX1 : List O := [
 oo 7 <| .mv (.t 0),
 oo 8 <| .len (.t 7),
 oo 9 <| .mv (ki 0)]
def rQfX2 : List O := [
 oo 10 <| .bin .lss (.t 9) (.t 8)]
def rQfX3 : List O := [
 oo 11 <| .ixa 1 (.t 7) (.t 9),
 oo 12 <| .ld none (.t 11),
 oo 6 <| .mv (.t 12)]
def rQfX4 : List O := [
 oo 13 <| .mv (.t 6),
 oo 14 <| .mv (.t 1),
 oo 15 <| .bin .eql (.t 13) (.t 14)]
def rQfX5 : List O := [
 oo 4 <| .mv (.k (.bool true))]
def rQfX6 : List O := [
 oo 16 <| .bin .add (.t 9) (ki 1),
 oo 9 <| .mv (.t 16)]
def lQfX0 : C := (.seq (.reg rQfX2 false [] [1, 7, 8, 9, 10]) (.seq (.cond (.t 10) .skip (.exit 0)) (.seq (.blk 1 (.seq (.reg rQfX3 false [] [1, 6, 7, 8, 9]) (.seq (.reg rQfX4 false [] [1, 7, 8, 9, 15]) (.cond (.t 15) (.seq (.reg rQfX5 false [] [4]) .ret) .skip)))) (.reg rQfX6 false [] [1, 7, 8, 9]))))
def rQfX7 : List O := [
 oo 4 <| .mv (.k (.bool false))]
def cQf : C := (.seq (.reg rQfX0 false [] [0, 1]) (.seq (.seq (.reg rQfX1 false [] [1, 7, 8, 9]) (.blk 0 (.loop lQfX0))) (.seq (.reg rQfX7 false [] [4]) .ret)))
def qQf : AFn := ⟨17, 2, [.t 4], cQf⟩
/- cohesion/cohesionmake.Graph -/
def rQgX0 : List O := [
 oo 4 <| .new [(.int .i64 0), (.own 2 [])]]
def rQgX1 : List O := [
 oo 9 <| .mv (.t 0),
 oo 10 <| .mv (.t 1),
 oo 11 <| .bin .add (.t 10) (ki 1),
 oo 12 <| .call nQe [(.t 9), (.t 11)],
 oo 13 <| .build [(.int .i64 0), (.own 2 [])] [(0, 1, (.t 12))],
 oo 5 <| .new [(.int .i64 0), (.own 2 [])],
 oz <| .st 2 (.t 5) (.t 13)]
def rQgX2 : List O := [
 oo 14 <| .fad 0 (.t 5),
 oo 15 <| .ld none (.t 14),
 oo 16 <| .bin .lss (.t 15) (ki 4)]
def rQgX3 : List O := [
 oo 17 <| .mv (.t 1),
 oo 18 <| .fad 0 (.t 5),
 oo 19 <| .ld none (.t 18),
 oo 20 <| .mv (.t 0),
 oo 21 <| .mv (.t 1),
 oo 22 <| .bin .add (.t 21) (ki 1),
 oo 23 <| .call nQe [(.t 20), (.t 22)],
 oo 24 <| .bin .add (.t 19) (.t 23),
 oo 25 <| .min [(.t 17), (.t 24)],
 oo 26 <| .fad 0 (.t 5),
 oz <| .st 1 (.t 26) (.t 25)]
def rQgX4 : List O := [
 oo 27 <| .mv (.t 0),
 oo 28 <| .call nQe [(.t 27), (ki 4)],
 oo 29 <| .bin .add (ki 1) (.t 28),
 oo 6 <| .mv (.t 29)]
def rQgX5 : List O := [
 oo 7 <| .mv (ki 0)]
def rQgX6 : List O := [
 oo 30 <| .mv (.t 7),
 oo 31 <| .fad 0 (.t 5),
 oo 32 <| .ld none (.t 31),
 oo 33 <| .bin .lss (.t 30) (.t 32)]
def rQgX7 : List O := [
 oo 36 <| .mv (.t 7),
 oo 37 <| .bin .add (.t 36) (ki 1),
 oo 8 <| .mv (.t 37)]
def rQgX8 : List O := [
 oo 38 <| .mv (.t 8),
 oo 39 <| .fad 0 (.t 5),
 oo 40 <| .ld none (.t 39),
 oo 41 <| .bin .lss (.t 38) (.t 40)]
def rQgX9 : List O := [
 oo 44 <| .mv (.t 0),
 oo 45 <| .call nQe [(.t 44), (ki 5)],
 oo 46 <| .mv (.t 6),
 oo 47 <| .bin .sub (ki 5) (.t 46),
 oo 48 <| .bin .geq (.t 45) (.t 47)]
def rQgX10 : List O := [
 oo 49 <| .fad 1 (.t 5),
 oo 50 <| .ld none (.t 49),
 oo 51 <| .mv (.t 7),
 oo 52 <| .mv (.t 8),
 oo 53 <| .build [(.int .i64 0), (.int .i64 0)] [(0, 1, (.t 51)), (1, 1, (.t 52))],
 oo 54 <| .bslice 2 1 [(.int .i64 0), (.int .i64 0)] [(0, 2, (.t 53))],
 oo 55 <| .app 2 (.t 50) (.t 54),
 oo 56 <| .fad 1 (.t 5),
 oz <| .st 1 (.t 56) (.t 55)]
def rQgX11 : List O := [
 oo 42 <| .mv (.t 8),
 oo 43 <| .bin .add (.t 42) (ki 1),
 oo 8 <| .mv (.t 43)]
def lQgX0 : C := (.seq (.seq (.reg rQgX8 false [] [0, 4, 5, 6, 7, 8, 41]) (.cond (.t 41) .skip (.exit 2))) (.seq (.blk 3 (.seq (.reg rQgX9 false [] [0, 4, 5, 6, 7, 8, 48]) (.cond (.t 48) (.reg rQgX10 false [] [0, 4, 5, 6, 7, 8]) .skip))) (.reg rQgX11 false [] [0, 4, 5, 6, 7, 8])))
def rQgX12 : List O := [
 oo 34 <| .mv (.t 7),
 oo 35 <| .bin .add (.t 34) (ki 1),
 oo 7 <| .mv (.t 35)]
def lQgX1 : C := (.seq (.seq (.reg rQgX6 false [] [0, 4, 5, 6, 7, 33]) (.cond (.t 33) .skip (.exit 0))) (.seq (.blk 1 (.seq (.reg rQgX7 false [] [0, 4, 5, 6, 7, 8]) (.blk 2 (.loop lQgX0)))) (.reg rQgX12 false [] [0, 4, 5, 6, 7])))
def rQgX13 : List O := [
 oo 57 <| .ld (some 2) (.t 5),
 oz <| .st 2 (.t 4) (.t 57)]
def cQg : C := (.seq (.reg rQgX0 false [] [0, 1, 4]) (.seq (.reg rQgX1 false [] [0, 1, 4, 5]) (.seq (.seq (.reg rQgX2 false [] [0, 1, 4, 5, 16]) (.cond (.t 16) (.reg rQgX3 true [(8, 8), (9, 9), (10, 10), (0, 2), (2, 3), (2, 4), (2, 5), (0, 6), (1, 6), (2, 6)] [0, 4, 5]) .skip)) (.seq (.reg rQgX4 false [] [0, 4, 5, 6]) (.seq (.seq (.reg rQgX5 false [] [0, 4, 5, 6, 7]) (.blk 0 (.loop lQgX1))) (.seq (.reg rQgX13 false [] [4]) .ret))))))
def qQg : AFn := ⟨58, 2, [.c 4 (some 2)], cQg⟩
/- cohesion/maxclique.Colours -/
def rQhX0 : List O := [
 oo 1 <| .box (.t 0),
 oo 2 <| .mv (.k (.own 1 [])),
 oo 3 <| .mv (ki 0)]
def rQhX1 : List O := [
 oo 7 <| .ld (some 2) (.t 1),
 oo 8 <| .call 39 [(.t 7)],
 oo 6 <| .mv (.t 8),
 oo 9 <| .ext 0 (.t 6),
 oo 10 <| .ext 1 (.t 6),
 oo 4 <| .mv (.t 9),
 oo 5 <| .mv (.t 10)]
def rQhX2 : List O := [
 oo 11 <| .mv (.t 5),
 oo 12 <| .bin .neq (.t 11) (ki 0)]
def rQhX3 : List O := [
 oo 13 <| .mv (.t 5),
 oo 2 <| .mv (.k (.own 1 [])),
 oo 3 <| .mv (.t 13)]
def rQhX4 : List O := [
 oo 14 <| .mv (.t 4),
 oo 15 <| .call 40 [(.t 14)]]
def rQhX5 : List O := [
 oo 16 <| .ld (some 2) (.t 1),
 oo 17 <| .mv (.t 4),
 oo 18 <| .call 14 [(.t 16), (.t 17)],
 oo 19 <| .ext 0 (.t 18),
 oo 20 <| .ext 1 (.t 18),
 oo 2 <| .mv (.t 19),
 oo 3 <| .mv (.t 20)]
def cQh : C := (.seq (.reg rQhX0 false [] [1]) (.seq (.reg rQhX1 false [] [1, 4, 5]) (.seq (.seq (.reg rQhX2 false [] [1, 4, 5, 12]) (.cond (.t 12) (.seq (.reg rQhX3 false [] [2, 3]) .ret) .skip)) (.seq (.reg rQhX4 false [] [1, 4]) (.seq (.reg rQhX5 false [] [2, 3]) .ret)))))
def qQh : AFn := ⟨21, 1, [.t 2, .t 3], cQh⟩
/- cohesion/maxclique.Proper -/
def rQiX0 : List O := [
 oo 2 <| .box (.t 0),
 oo 3 <| .box (.t 1),
 oo 4 <| .mv (.k (.bool false))]
def rQiX1 : List O := [
 oo 5 <| .ld (some 2) (.t 2),
 oo 6 <| .call nQq [(.t 5)],
 oo 7 <| .bin .neq (.t 6) (ki 0),
 oo 8 <| .mv (.t 7),
 ⟨(some 9), (some (8, false)), .ld none (.t 3)⟩,
 ⟨(some 10), (some (8, false)), .len (.t 9)⟩,
 ⟨(some 11), (some (8, false)), .fad 0 (.t 2)⟩,
 ⟨(some 12), (some (8, false)), .ld none (.t 11)⟩,
 ⟨(some 13), (some (8, false)), .bin .neq (.t 10) (.t 12)⟩,
 oo 14 <| .pick (.t 8) (.k (.bool true)) (.t 13),
 oo 15 <| .mv (.t 14),
 ⟨(some 16), (some (15, false)), .ld none (.t 3)⟩,
 ⟨(some 17), (some (15, false)), .call 45 [(.t 16), (.k (.func (.func 46) [] []))]⟩,
 oo 18 <| .pick (.t 15) (.k (.bool true)) (.t 17)]
def rQiX2 : List O := [
 oo 4 <| .mv (.k (.bool false))]
def rQiX3 : List O := [
 oo 19 <| .fad 1 (.t 2),
 oo 20 <| .ld none (.t 19),
 oo 21 <| .mkf (.func 48) [] [(.t 3)],
 oo 22 <| .call 47 [(.t 20), (.t 21)],
 oo 23 <| .un .not (.t 22),
 oo 4 <| .mv (.t 23)]
def cQi : C := (.seq (.reg rQiX0 false [] [2, 3]) (.seq (.seq (.reg rQiX1 false [] [2, 3, 18]) (.cond (.t 18) (.seq (.reg rQiX2 false [] [4]) .ret) .skip)) (.seq (.reg rQiX3 false [] [4]) .ret)))
def qQi : AFn := ⟨24, 2, [.t 4], cQi⟩
/- cohesion/maxclique.Best -/
def rQjX0 : List O := [
 oo 1 <| .box (.t 0),
 oo 2 <| .mv (.k (.own 1 [])),
 oo 3 <| .mv (ki 0)]
def rQjX1 : List O := [
 oo 12 <| .ld (some 2) (.t 1),
 oo 13 <| .call nQq [(.t 12)],
 oo 4 <| .mv (.t 13)]
def rQjX2 : List O := [
 oo 14 <| .mv (.t 4),
 oo 15 <| .bin .neq (.t 14) (ki 0)]
def rQjX3 : List O := [
 oo 16 <| .mv (.t 4),
 oo 2 <| .mv (.k (.own 1 [])),
 oo 3 <| .mv (.t 16)]
def rQjX4 : List O := [
 oo 17 <| .ld (some 2) (.t 1),
 oo 18 <| .call nQv [(.t 17)],
 oo 5 <| .mv (.t 18)]
def rQjX5 : List O := [
 oo 19 <| .fad 0 (.t 1),
 oo 20 <| .ld none (.t 19),
 oo 21 <| .bin .shl (.k (.int .u64 1)) (.t 20),
 oo 22 <| .bin .sub (.t 21) (.k (.int .u64 1)),
 oo 6 <| .mv (.t 22)]
def rQjX6 : List O := [
 oo 7 <| .mv (.k (.own 1 []))]
def rQjX7 : List O := [
 oo 23 <| .mv (.t 5),
 oo 24 <| .mv (.t 6),
 oo 25 <| .call nQw [(.t 23), (.t 24), (ki 0)],
 oo 8 <| .mv (.t 25)]
def rQjX8 : List O := [
 oo 26 <| .mv (.t 8),
 oo 27 <| .bin .gtr (.t 26) (ki 0)]
def rQjX9 : List O := [
 oo 30 <| .mv (.t 6),
 oo 9 <| .mv (.t 30)]
def rQjX10 : List O := [
 oo 31 <| .mv (.t 9),
 oo 32 <| .bin .neq (.t 31) (.k (.int .u64 0))]
def rQjX11 : List O := [
 oo 37 <| .mv (.t 9),
 oo 38 <| .call nQx [(.t 37)],
 oo 10 <| .mv (.t 38)]
def rQjX12 : List O := [
 oo 39 <| .mv (.t 9),
 oo 40 <| .mv (.t 10),
 oo 41 <| .bin .shl (.k (.int .u64 1)) (.t 40),
 oo 42 <| .bin .andNot (.t 39) (.t 41),
 oo 43 <| .mv (.t 5),
 oo 44 <| .mv (.t 10),
 oo 45 <| .ixa 1 (.t 43) (.t 44),
 oo 46 <| .ld none (.t 45),
 oo 47 <| .bin .and (.t 42) (.t 46),
 oo 11 <| .mv (.t 47)]
def rQjX13 : List O := [
 oo 48 <| .mv (.t 5),
 oo 49 <| .mv (.t 11),
 oo 50 <| .mv (.t 8),
 oo 51 <| .bin .sub (.t 50) (ki 2),
 oo 52 <| .call nQw [(.t 48), (.t 49), (.t 51)],
 oo 53 <| .mv (.t 8),
 oo 54 <| .bin .sub (.t 53) (ki 1),
 oo 55 <| .bin .geq (.t 52) (.t 54)]
def rQjX14 : List O := [
 oo 56 <| .mv (.t 7),
 oo 57 <| .mv (.t 10),
 oo 58 <| .bslice 1 1 [(.int .i64 0)] [(0, 1, (.t 57))],
 oo 59 <| .app 1 (.t 56) (.t 58),
 oo 60 <| .mv (.t 11),
 oo 7 <| .mv (.t 59),
 oo 6 <| .mv (.t 60)]
def rQjX15 : List O := [
 oo 33 <| .mv (.t 9),
 oo 34 <| .mv (.t 9),
 oo 35 <| .bin .sub (.t 34) (.k (.int .u64 1)),
 oo 36 <| .bin .and (.t 33) (.t 35),
 oo 9 <| .mv (.t 36)]
def lQjX0 : C := (.seq (.seq (.reg rQjX10 false [] [5, 6, 7, 8, 9, 32]) (.cond (.t 32) .skip (.exit 2))) (.seq (.blk 3 (.seq (.reg rQjX11 false [] [5, 6, 7, 8, 9, 10]) (.seq (.reg rQjX12 true [(8, 8), (9, 9), (0, 7), (1, 7), (2, 7), (3, 7)] [5, 6, 7, 8, 9, 10, 11]) (.seq (.reg rQjX13 false [] [5, 6, 7, 8, 9, 10, 11, 55]) (.cond (.t 55) (.seq (.reg rQjX14 false [] [5, 6, 7, 8]) (.exit 2)) .skip))))) (.reg rQjX15 false [] [5, 6, 7, 8, 9])))
def rQjX16 : List O := [
 oo 28 <| .mv (.t 8),
 oo 29 <| .bin .sub (.t 28) (ki 1),
 oo 8 <| .mv (.t 29)]
def lQjX1 : C := (.seq (.seq (.reg rQjX8 false [] [5, 6, 7, 8, 27]) (.cond (.t 27) .skip (.exit 0))) (.seq (.blk 1 (.seq (.reg rQjX9 false [] [5, 6, 7, 8, 9]) (.blk 2 (.loop lQjX0)))) (.reg rQjX16 false [] [5, 6, 7, 8])))
def rQjX17 : List O := [
 oo 61 <| .mv (.t 7),
 oo 2 <| .mv (.t 61),
 oo 3 <| .mv (ki 0)]
def cQj : C := (.seq (.reg rQjX0 false [] [1]) (.seq (.seq (.reg rQjX1 false [] [1, 4]) (.seq (.reg rQjX2 false [] [1, 4, 15]) (.cond (.t 15) (.seq (.reg rQjX3 false [] [2, 3]) .ret) .skip))) (.seq (.reg rQjX4 false [] [1, 5]) (.seq (.reg rQjX5 false [] [5, 6]) (.seq (.reg rQjX6 false [] [5, 6, 7]) (.seq (.seq (.reg rQjX7 false [] [5, 6, 7, 8]) (.blk 0 (.loop lQjX1))) (.seq (.reg rQjX17 false [] [2, 3]) .ret)))))))
def qQj : AFn := ⟨62, 1, [.t 2, .t 3], cQj⟩
/- cohesion/cohesionfield.Beside -/
def rQkX0 : List O := [
 oo 2 <| .box (.t 0),
 oo 3 <| .box (.t 1),
 oo 4 <| .new [(.int .i64 0), (.own 2 [])]]
def rQkX1 : List O := [
 oo 9 <| .fad 1 (.t 2),
 oo 10 <| .ld none (.t 9),
 oo 11 <| .app 2 (.k (.own 2 [])) (.t 10),
 oo 5 <| .mv (.t 11)]
def rQkX2 : List O := [
 oo 6 <| .mv (ki 0)]
def rQkX3 : List O := [
 oo 12 <| .mv (.t 6),
 oo 13 <| .fad 1 (.t 3),
 oo 14 <| .ld none (.t 13),
 oo 15 <| .len (.t 14),
 oo 16 <| .bin .lss (.t 12) (.t 15)]
def rQkX4 : List O := [
 oo 19 <| .mv (.t 5),
 oo 20 <| .fad 1 (.t 3),
 oo 21 <| .ld none (.t 20),
 oo 22 <| .mv (.t 6),
 oo 23 <| .ixa 2 (.t 21) (.t 22),
 oo 24 <| .fad 0 (.t 23),
 oo 25 <| .ld none (.t 24),
 oo 26 <| .fad 0 (.t 2),
 oo 27 <| .ld none (.t 26),
 oo 28 <| .bin .add (.t 25) (.t 27),
 oo 29 <| .fad 1 (.t 3),
 oo 30 <| .ld none (.t 29),
 oo 31 <| .mv (.t 6),
 oo 32 <| .ixa 2 (.t 30) (.t 31),
 oo 33 <| .fad 1 (.t 32),
 oo 34 <| .ld none (.t 33),
 oo 35 <| .fad 0 (.t 2),
 oo 36 <| .ld none (.t 35),
 oo 37 <| .bin .add (.t 34) (.t 36),
 oo 38 <| .build [(.int .i64 0), (.int .i64 0)] [(0, 1, (.t 28)), (1, 1, (.t 37))],
 oo 39 <| .bslice 2 1 [(.int .i64 0), (.int .i64 0)] [(0, 2, (.t 38))],
 oo 40 <| .app 2 (.t 19) (.t 39),
 oo 5 <| .mv (.t 40)]
def rQkX5 : List O := [
 oo 17 <| .mv (.t 6),
 oo 18 <| .bin .add (.t 17) (ki 1),
 oo 6 <| .mv (.t 18)]
def lQkX0 : C := (.seq (.seq (.reg rQkX3 false [] [2, 3, 4, 5, 6, 16]) (.cond (.t 16) .skip (.exit 0))) (.seq (.blk 1 (.reg rQkX4 true [(21, 21), (22, 22), (0, 2), (2, 3), (0, 6), (2, 7), (6, 7), (0, 8), (1, 8), (2, 8), (3, 8), (4, 8), (5, 8), (6, 8), (2, 10), (6, 10), (8, 10), (0, 11), (1, 11), (2, 11), (3, 11), (4, 11), (5, 11), (6, 11), (7, 11), (8, 11), (9, 11), (2, 12), (6, 12), (8, 12), (11, 12), (2, 13), (6, 13), (8, 13), (2, 14), (6, 14), (8, 14), (0, 15), (1, 15), (2, 15), (3, 15), (4, 15), (5, 15), (6, 15), (7, 15), (8, 15), (9, 15), (2, 16), (6, 16), (8, 16), (11, 16), (15, 16), (0, 17), (1, 17), (2, 17), (3, 17), (4, 17), (5, 17), (6, 17), (7, 17), (8, 17), (9, 17), (10, 17), (11, 17), (12, 17), (13, 17), (14, 17), (15, 17), (2, 18), (6, 18), (8, 18), (0, 20)] [2, 3, 4, 5, 6])) (.reg rQkX5 false [] [2, 3, 4, 5, 6])))
def rQkX6 : List O := [
 oo 42 <| .fad 0 (.t 2),
 oo 43 <| .ld none (.t 42),
 oo 44 <| .fad 0 (.t 3),
 oo 45 <| .ld none (.t 44),
 oo 46 <| .bin .add (.t 43) (.t 45),
 oo 47 <| .mv (.t 5),
 oo 48 <| .call nQn [(.t 46), (.t 47)],
 oo 41 <| .mv (.t 48),
 oo 49 <| .ext 0 (.t 41),
 oo 50 <| .ext 1 (.t 41),
 oo 7 <| .new [(.int .i64 0), (.own 2 [])],
 oz <| .st 2 (.t 7) (.t 49),
 oo 8 <| .mv (.t 50)]
def rQkX7 : List O := [
 oo 51 <| .ld (some 2) (.t 7),
 oz <| .st 2 (.t 4) (.t 51)]
def cQk : C := (.seq (.reg rQkX0 false [] [2, 3, 4]) (.seq (.reg rQkX1 false [] [2, 3, 4, 5]) (.seq (.seq (.reg rQkX2 false [] [2, 3, 4, 5, 6]) (.blk 0 (.loop lQkX0))) (.seq (.reg rQkX6 false [] [4, 7]) (.seq (.reg rQkX7 false [] [4]) .ret)))))
def qQk : AFn := ⟨52, 2, [.c 4 (some 2)], cQk⟩
/- cohesion/cohesionref03.Add -/
def rQlX0 : List O := [
 oo 3 <| .box (.t 0),
 oo 6 <| .new [(.int .i64 0), (.own 2 [])],
 oo 7 <| .mv (ki 0)]
def rQlX1 : List O := [
 oo 9 <| .ld (some 2) (.t 3),
 oo 10 <| .call nQr [(.t 9)],
 oo 8 <| .mv (.t 10)]
def rQlX2 : List O := [
 oo 11 <| .mv (.t 8),
 oo 12 <| .bin .neq (.t 11) (ki 0)]
def rQlX3 : List O := [
 oo 13 <| .build [(.int .i64 0), (.own 2 [])] [],
 oo 14 <| .mv (.t 8),
 oz <| .st 2 (.t 6) (.t 13),
 oo 7 <| .mv (.t 14)]
def rQlX4 : List O := [
 oo 15 <| .fad 0 (.t 3),
 oo 16 <| .ld none (.t 15),
 oo 17 <| .mv (.t 1),
 oo 18 <| .mv (.t 2),
 oo 19 <| .call nQs [(.t 16), (.t 17), (.t 18)],
 oo 20 <| .un .not (.t 19)]
def rQlX5 : List O := [
 oo 21 <| .build [(.int .i64 0), (.own 2 [])] [],
 oz <| .st 2 (.t 6) (.t 21),
 oo 7 <| .mv (ki 6)]
def rQlX6 : List O := [
 oo 22 <| .ld (some 2) (.t 3),
 oo 23 <| .mv (.t 1),
 oo 24 <| .mv (.t 2),
 oo 25 <| .call nQt [(.t 22), (.t 23), (.t 24)],
 oo 26 <| .bin .geq (.t 25) (ki 0)]
def rQlX7 : List O := [
 oo 27 <| .build [(.int .i64 0), (.own 2 [])] [],
 oz <| .st 2 (.t 6) (.t 27),
 oo 7 <| .mv (ki 15)]
def rQlX8 : List O := [
 oo 28 <| .fad 0 (.t 3),
 oo 29 <| .ld none (.t 28),
 oo 30 <| .fad 1 (.t 3),
 oo 31 <| .ld none (.t 30),
 oo 32 <| .mv (.t 1),
 oo 33 <| .mv (.t 2),
 oo 34 <| .call nQu [(.t 32), (.t 33)],
 oo 35 <| .call nQy [(.t 31), (.t 34)],
 oo 36 <| .app 2 (.k (.own 2 [])) (.t 35),
 oo 37 <| .build [(.int .i64 0), (.own 2 [])] [(0, 1, (.t 29)), (1, 1, (.t 36))],
 oz <| .st 2 (.t 6) (.t 37),
 oo 7 <| .mv (ki 0)]
def cQl : C := (.seq (.reg rQlX0 false [] [1, 2, 3, 6]) (.seq (.seq (.reg rQlX1 false [] [1, 2, 3, 6, 8]) (.seq (.reg rQlX2 false [] [1, 2, 3, 6, 8, 12]) (.cond (.t 12) (.seq (.reg rQlX3 false [] [6, 7]) .ret) .skip))) (.seq (.seq (.reg rQlX4 false [] [1, 2, 3, 6, 20]) (.cond (.t 20) (.seq (.reg rQlX5 false [] [6, 7]) .ret) .skip)) (.seq (.seq (.reg rQlX6 false [] [1, 2, 3, 6, 26]) (.cond (.t 26) (.seq (.reg rQlX7 false [] [6, 7]) .ret) .skip)) (.seq (.reg rQlX8 true [(9, 9), (10, 10), (11, 11), (1, 2), (0, 3), (1, 3), (1, 4), (3, 4), (1, 5), (3, 5), (0, 6), (1, 6), (2, 6), (3, 6), (0, 7), (1, 7), (0, 8), (1, 8)] [6, 7]) .ret)))))
def qQl : AFn := ⟨38, 3, [.c 6 (some 2), .t 7], cQl⟩
/- cohesion/cohesionref02.Cmp -/
def rQmX0 : List O := [
 oo 4 <| .mv (ki 0)]
def rQmX1 : List O := [
 oo 6 <| .mv (.t 0),
 oo 7 <| .len (.t 6),
 oo 8 <| .mv (ki 0)]
def rQmX2 : List O := [
 oo 9 <| .bin .lss (.t 8) (.t 7)]
def rQmX3 : List O := [
 oo 10 <| .mv (.t 8),
 oo 5 <| .mv (.t 10)]
def rQmX4 : List O := [
 oo 12 <| .mv (.t 5),
 oo 13 <| .mv (.t 1),
 oo 14 <| .len (.t 13),
 oo 15 <| .bin .geq (.t 12) (.t 14),
 oo 16 <| .mv (.t 15),
 ⟨(some 17), (some (16, false)), .mv (.t 0)⟩,
 ⟨(some 18), (some (16, false)), .mv (.t 5)⟩,
 ⟨(some 19), (some (16, false)), .ixa 1 (.t 17) (.t 18)⟩,
 ⟨(some 20), (some (16, false)), .ld none (.t 19)⟩,
 ⟨(some 21), (some (16, false)), .mv (.t 1)⟩,
 ⟨(some 22), (some (16, false)), .mv (.t 5)⟩,
 ⟨(some 23), (some (16, false)), .ixa 1 (.t 21) (.t 22)⟩,
 ⟨(some 24), (some (16, false)), .ld none (.t 23)⟩,
 ⟨(some 25), (some (16, false)), .bin .gtr (.t 20) (.t 24)⟩,
 oo 26 <| .pick (.t 16) (.k (.bool true)) (.t 25),
 oo 11 <| .mv (.t 26)]
def rQmX5 : List O := [
 oo 4 <| .mv (ki 1)]
def rQmX6 : List O := [
 oo 28 <| .mv (.t 0),
 oo 29 <| .mv (.t 5),
 oo 30 <| .ixa 1 (.t 28) (.t 29),
 oo 31 <| .ld none (.t 30),
 oo 32 <| .mv (.t 1),
 oo 33 <| .mv (.t 5),
 oo 34 <| .ixa 1 (.t 32) (.t 33),
 oo 35 <| .ld none (.t 34),
 oo 36 <| .bin .lss (.t 31) (.t 35),
 oo 27 <| .mv (.t 36)]
def rQmX7 : List O := [
 oo 4 <| .mv (.k (.int .i64 (-1)))]
def rQmX8 : List O := [
 oo 37 <| .bin .add (.t 8) (ki 1),
 oo 8 <| .mv (.t 37)]
def lQmX0 : C := (.seq (.reg rQmX2 false [] [0, 1, 7, 8, 9]) (.seq (.cond (.t 9) .skip (.exit 0)) (.seq (.blk 1 (.seq (.reg rQmX3 false [] [0, 1, 5, 7, 8]) (.blk 2 (.seq (.reg rQmX4 true [(3, 3), (4, 4), (13, 13), (14, 14), (15, 15), (8, 9), (8, 10), (8, 11), (5, 12), (6, 12), (7, 12), (8, 12)] [0, 1, 5, 7, 8, 11]) (.cond (.t 11) (.seq (.reg rQmX5 false [] [4]) .ret) (.seq (.reg rQmX6 true [(8, 8), (9, 9), (3, 4), (3, 5), (3, 6), (0, 7), (1, 7), (2, 7), (3, 7)] [0, 1, 7, 8, 27]) (.cond (.t 27) (.seq (.reg rQmX7 false [] [4]) .ret) .skip))))))) (.reg rQmX8 false [] [0, 1, 7, 8]))))
def rQmX9 : List O := [
 oo 38 <| .mv (.t 0),
 oo 39 <| .len (.t 38),
 oo 40 <| .mv (.t 1),
 oo 41 <| .len (.t 40),
 oo 42 <| .bin .lss (.t 39) (.t 41)]
def rQmX10 : List O := [
 oo 4 <| .mv (.k (.int .i64 (-1)))]
def rQmX11 : List O := [
 oo 4 <| .mv (ki 0)]
def cQm : C := (.seq (.reg rQmX0 false [] [0, 1]) (.seq (.seq (.reg rQmX1 false [] [0, 1, 7, 8]) (.blk 0 (.loop lQmX0))) (.seq (.seq (.reg rQmX9 false [] [42]) (.cond (.t 42) (.seq (.reg rQmX10 false [] [4]) .ret) .skip)) (.seq (.reg rQmX11 false [] [4]) .ret))))
def qQm : AFn := ⟨43, 2, [.t 4], cQm⟩
/- cohesion/cohesionref03.Of -/
def rQnX0 : List O := [
 oo 4 <| .new [(.int .i64 0), (.own 2 [])],
 oo 5 <| .mv (ki 0)]
def rQnX1 : List O := [
 oo 9 <| .mv (.t 0),
 oo 10 <| .bin .lss (.t 9) (ki 0),
 oo 11 <| .mv (.t 10),
 ⟨(some 12), (some (11, false)), .mv (.t 0)⟩,
 ⟨(some 13), (some (11, false)), .bin .gtr (.t 12) (ki 64)⟩,
 oo 14 <| .pick (.t 11) (.k (.bool true)) (.t 13)]
def rQnX2 : List O := [
 oo 15 <| .build [(.int .i64 0), (.own 2 [])] [],
 oz <| .st 2 (.t 4) (.t 15),
 oo 5 <| .mv (ki 1)]
def rQnX3 : List O := [
 oo 16 <| .mv (.t 0),
 oo 17 <| .build [(.int .i64 0), (.own 2 [])] [(0, 1, (.t 16))],
 oo 6 <| .new [(.int .i64 0), (.own 2 [])],
 oz <| .st 2 (.t 6) (.t 17)]
def rQnX4 : List O := [
 oo 18 <| .mv (.t 1),
 oo 19 <| .len (.t 18),
 oo 20 <| .mv (ki 0)]
def rQnX5 : List O := [
 oo 21 <| .bin .lss (.t 20) (.t 19)]
def rQnX6 : List O := [
 oo 22 <| .ixa 2 (.t 18) (.t 20),
 oo 23 <| .ld (some 2) (.t 22),
 oo 8 <| .new [(.int .i64 0), (.int .i64 0)],
 oz <| .st 2 (.t 8) (.t 23)]
def rQnX7 : List O := [
 oo 24 <| .mv (.t 0),
 oo 25 <| .fad 0 (.t 8),
 oo 26 <| .ld none (.t 25),
 oo 27 <| .fad 1 (.t 8),
 oo 28 <| .ld none (.t 27),
 oo 29 <| .call nQs [(.t 24), (.t 26), (.t 28)],
 oo 30 <| .un .not (.t 29)]
def rQnX8 : List O := [
 oo 31 <| .build [(.int .i64 0), (.own 2 [])] [],
 oz <| .st 2 (.t 4) (.t 31),
 oo 5 <| .mv (ki 6)]
def rQnX9 : List O := [
 oo 32 <| .fad 1 (.t 6),
 oo 33 <| .ld none (.t 32),
 oo 34 <| .fad 0 (.t 8),
 oo 35 <| .ld none (.t 34),
 oo 36 <| .fad 1 (.t 8),
 oo 37 <| .ld none (.t 36),
 oo 38 <| .call nQu [(.t 35), (.t 37)],
 oo 39 <| .call nQy [(.t 33), (.t 38)],
 oo 40 <| .fad 1 (.t 6),
 oz <| .st 1 (.t 40) (.t 39)]
def rQnX10 : List O := [
 oo 41 <| .bin .add (.t 20) (ki 1),
 oo 20 <| .mv (.t 41)]
def lQnX0 : C := (.seq (.reg rQnX5 false [] [0, 4, 6, 18, 19, 20, 21]) (.seq (.cond (.t 21) .skip (.exit 0)) (.seq (.blk 1 (.seq (.reg rQnX6 false [] [0, 4, 6, 8, 18, 19, 20]) (.seq (.seq (.reg rQnX7 false [] [0, 4, 6, 8, 18, 19, 20, 30]) (.cond (.t 30) (.seq (.reg rQnX8 false [] [4, 5]) .ret) .skip)) (.reg rQnX9 true [(7, 7), (8, 8), (9, 9), (1, 2), (0, 3), (1, 3), (1, 4), (3, 4), (0, 5), (1, 5), (2, 5), (3, 5), (0, 6), (1, 6)] [0, 4, 6, 18, 19, 20])))) (.reg rQnX10 false [] [0, 4, 6, 18, 19, 20]))))
def rQnX11 : List O := [
 oo 42 <| .ld (some 2) (.t 6),
 oz <| .st 2 (.t 4) (.t 42),
 oo 5 <| .mv (ki 0)]
def cQn : C := (.seq (.reg rQnX0 false [] [0, 1, 4]) (.seq (.seq (.reg rQnX1 false [] [0, 1, 4, 14]) (.cond (.t 14) (.seq (.reg rQnX2 false [] [4, 5]) .ret) .skip)) (.seq (.reg rQnX3 false [] [0, 1, 4, 6]) (.seq (.seq (.reg rQnX4 false [] [0, 4, 6, 18, 19, 20]) (.blk 0 (.loop lQnX0))) (.seq (.reg rQnX11 false [] [4, 5]) .ret)))))
def qQn : AFn := ⟨43, 2, [.c 4 (some 2), .t 5], cQn⟩
/- cohesion/maxclique.Bound -/
def rQoX0 : List O := [
 oo 1 <| .box (.t 0),
 oo 2 <| .mv (ki 0),
 oo 3 <| .mv (ki 0)]
def rQoX1 : List O := [
 oo 8 <| .ld (some 2) (.t 1),
 oo 9 <| .call nQh [(.t 8)],
 oo 7 <| .mv (.t 9),
 oo 10 <| .ext 0 (.t 7),
 oo 11 <| .ext 1 (.t 7),
 oo 4 <| .mv (.t 10),
 oo 5 <| .mv (.t 11)]
def rQoX2 : List O := [
 oo 12 <| .mv (.t 5),
 oo 13 <| .bin .neq (.t 12) (ki 0),
 oo 14 <| .mv (.t 13),
 ⟨(some 15), (some (14, false)), .fad 0 (.t 1)⟩,
 ⟨(some 16), (some (14, false)), .ld none (.t 15)⟩,
 ⟨(some 17), (some (14, false)), .bin .eql (.t 16) (ki 0)⟩,
 oo 18 <| .pick (.t 14) (.k (.bool true)) (.t 17)]
def rQoX3 : List O := [
 oo 19 <| .mv (.t 5),
 oo 2 <| .mv (ki 0),
 oo 3 <| .mv (.t 19)]
def rQoX4 : List O := [
 oo 21 <| .ld (some 2) (.t 1),
 oo 22 <| .call 56 [(.t 21)],
 oo 20 <| .mv (.t 22),
 oo 23 <| .ext 0 (.t 20),
 oo 24 <| .ext 1 (.t 20),
 oo 6 <| .mv (.t 23),
 oo 5 <| .mv (.t 24)]
def rQoX5 : List O := [
 oo 25 <| .mv (.t 5),
 oo 26 <| .bin .neq (.t 25) (ki 0)]
def rQoX6 : List O := [
 oo 27 <| .mv (.t 5),
 oo 2 <| .mv (ki 0),
 oo 3 <| .mv (.t 27)]
def rQoX7 : List O := [
 oo 28 <| .mv (.t 4),
 oo 29 <| .call 33 [(.t 28)],
 oo 30 <| .len (.t 29),
 oo 31 <| .mv (.t 6),
 oo 32 <| .bin .add (.t 31) (ki 1),
 oo 33 <| .min [(.t 30), (.t 32)],
 oo 2 <| .mv (.t 33),
 oo 3 <| .mv (ki 0)]
def cQo : C := (.seq (.reg rQoX0 false [] [1]) (.seq (.reg rQoX1 false [] [1, 4, 5]) (.seq (.seq (.reg rQoX2 false [] [1, 4, 5, 18]) (.cond (.t 18) (.seq (.reg rQoX3 false [] [2, 3]) .ret) .skip)) (.seq (.reg rQoX4 false [] [4, 5, 6]) (.seq (.seq (.reg rQoX5 false [] [4, 5, 6, 26]) (.cond (.t 26) (.seq (.reg rQoX6 false [] [2, 3]) .ret) .skip)) (.seq (.reg rQoX7 false [] [2, 3]) .ret))))))
def qQo : AFn := ⟨34, 1, [.t 2, .t 3], cQo⟩
/- cohesion/cohesionmake.Mod -/
def rQpX0 : List O := [
 oo 4 <| .mv (ki 0)]
def rQpX1 : List O := [
 oo 5 <| .mv (.t 0),
 oo 6 <| .mv (.t 1),
 oo 7 <| .bin .rem (.t 5) (.t 6),
 oo 8 <| .mv (.t 1),
 oo 9 <| .bin .add (.t 7) (.t 8),
 oo 10 <| .mv (.t 1),
 oo 11 <| .bin .rem (.t 9) (.t 10),
 oo 4 <| .mv (.t 11)]
def cQp : C := (.seq (.reg rQpX0 false [] [0, 1]) (.seq (.reg rQpX1 false [] [4]) .ret))
def qQp : AFn := ⟨12, 2, [.t 4], cQp⟩
/- cohesion/graph.Check -/
def rQqX0 : List O := [
 oo 1 <| .box (.t 0),
 oo 2 <| .mv (ki 0)]
def rQqX1 : List O := [
 oo 5 <| .fad 0 (.t 1),
 oo 6 <| .ld none (.t 5),
 oo 7 <| .bin .lss (.t 6) (ki 0),
 oo 8 <| .mv (.t 7),
 ⟨(some 9), (some (8, false)), .fad 0 (.t 1)⟩,
 ⟨(some 10), (some (8, false)), .ld none (.t 9)⟩,
 ⟨(some 11), (some (8, false)), .bin .gtr (.t 10) (ki 64)⟩,
 oo 12 <| .pick (.t 8) (.k (.bool true)) (.t 11)]
def rQqX2 : List O := [
 oo 2 <| .mv (ki 1)]
def rQqX3 : List O := [
 oo 13 <| .fad 1 (.t 1),
 oo 14 <| .ld none (.t 13),
 oo 15 <| .len (.t 14),
 oo 16 <| .mv (ki 0)]
def rQqX4 : List O := [
 oo 17 <| .bin .lss (.t 16) (.t 15)]
def rQqX5 : List O := [
 oo 18 <| .mv (.t 16),
 oo 19 <| .ixa 2 (.t 14) (.t 16),
 oo 20 <| .ld (some 2) (.t 19),
 oo 4 <| .new [(.int .i64 0), (.int .i64 0)],
 oo 3 <| .mv (.t 18),
 oz <| .st 2 (.t 4) (.t 20)]
def rQqX6 : List O := [
 oo 22 <| .fad 0 (.t 4),
 oo 23 <| .ld none (.t 22),
 oo 24 <| .bin .lss (.t 23) (ki 0),
 oo 25 <| .mv (.t 24),
 ⟨(some 26), (some (25, false)), .fad 0 (.t 4)⟩,
 ⟨(some 27), (some (25, false)), .ld none (.t 26)⟩,
 ⟨(some 28), (some (25, false)), .fad 1 (.t 4)⟩,
 ⟨(some 29), (some (25, false)), .ld none (.t 28)⟩,
 ⟨(some 30), (some (25, false)), .bin .geq (.t 27) (.t 29)⟩,
 oo 31 <| .pick (.t 25) (.k (.bool true)) (.t 30),
 oo 32 <| .mv (.t 31),
 ⟨(some 33), (some (32, false)), .fad 1 (.t 4)⟩,
 ⟨(some 34), (some (32, false)), .ld none (.t 33)⟩,
 ⟨(some 35), (some (32, false)), .fad 0 (.t 1)⟩,
 ⟨(some 36), (some (32, false)), .ld none (.t 35)⟩,
 ⟨(some 37), (some (32, false)), .bin .geq (.t 34) (.t 36)⟩,
 oo 38 <| .pick (.t 32) (.k (.bool true)) (.t 37),
 oo 21 <| .mv (.t 38)]
def rQqX7 : List O := [
 oo 2 <| .mv (ki 6)]
def rQqX8 : List O := [
 oo 40 <| .mv (.t 3),
 oo 41 <| .bin .gtr (.t 40) (ki 0),
 oo 42 <| .mv (.t 41),
 ⟨(some 43), (some (42, true)), .fad 1 (.t 1)⟩,
 ⟨(some 44), (some (42, true)), .ld none (.t 43)⟩,
 ⟨(some 45), (some (42, true)), .mv (.t 3)⟩,
 ⟨(some 46), (some (42, true)), .bin .sub (.t 45) (ki 1)⟩,
 ⟨(some 47), (some (42, true)), .ixa 2 (.t 44) (.t 46)⟩,
 ⟨(some 48), (some (42, true)), .ld (some 2) (.t 47)⟩,
 ⟨(some 49), (some (42, true)), .ld (some 2) (.t 4)⟩,
 ⟨(some 50), (some (42, true)), .call nQz [(.t 48), (.t 49)]⟩,
 ⟨(some 51), (some (42, true)), .bin .geq (.t 50) (ki 0)⟩,
 oo 52 <| .pick (.t 42) (.t 51) (.k (.bool false)),
 oo 39 <| .mv (.t 52)]
def rQqX9 : List O := [
 oo 2 <| .mv (ki 5)]
def rQqX10 : List O := [
 oo 53 <| .bin .add (.t 16) (ki 1),
 oo 16 <| .mv (.t 53)]
def lQqX0 : C := (.seq (.reg rQqX4 false [] [1, 14, 15, 16, 17]) (.seq (.cond (.t 17) .skip (.exit 0)) (.seq (.blk 1 (.seq (.reg rQqX5 false [] [1, 3, 4, 14, 15, 16]) (.blk 2 (.seq (.reg rQqX6 false [] [1, 3, 4, 14, 15, 16, 21]) (.cond (.t 21) (.seq (.reg rQqX7 false [] [2]) .ret) (.seq (.reg rQqX8 true [(0, 0), (1, 1), (2, 2), (10, 10), (11, 11), (12, 12), (13, 13), (4, 5), (4, 6), (3, 9), (4, 9), (5, 9), (6, 9), (7, 9), (8, 9)] [1, 14, 15, 16, 39]) (.cond (.t 39) (.seq (.reg rQqX9 false [] [2]) .ret) .skip))))))) (.reg rQqX10 false [] [1, 14, 15, 16]))))
def rQqX11 : List O := [
 oo 2 <| .mv (ki 0)]
def cQq : C := (.seq (.reg rQqX0 false [] [1]) (.seq (.seq (.reg rQqX1 false [] [1, 12]) (.cond (.t 12) (.seq (.reg rQqX2 false [] [2]) .ret) .skip)) (.seq (.seq (.reg rQqX3 false [] [1, 14, 15, 16]) (.blk 0 (.loop lQqX0))) (.seq (.reg rQqX11 false [] [2]) .ret))))
def qQq : AFn := ⟨54, 1, [.t 2], cQq⟩
/- cohesion/cohesionref03.Check -/
def rQrX0 : List O := [
 oo 1 <| .box (.t 0),
 oo 2 <| .mv (ki 0)]
def rQrX1 : List O := [
 oo 5 <| .fad 0 (.t 1),
 oo 6 <| .ld none (.t 5),
 oo 7 <| .bin .lss (.t 6) (ki 0),
 oo 8 <| .mv (.t 7),
 ⟨(some 9), (some (8, false)), .fad 0 (.t 1)⟩,
 ⟨(some 10), (some (8, false)), .ld none (.t 9)⟩,
 ⟨(some 11), (some (8, false)), .bin .gtr (.t 10) (ki 64)⟩,
 oo 12 <| .pick (.t 8) (.k (.bool true)) (.t 11)]
def rQrX2 : List O := [
 oo 2 <| .mv (ki 1)]
def rQrX3 : List O := [
 oo 13 <| .fad 1 (.t 1),
 oo 14 <| .ld none (.t 13),
 oo 15 <| .len (.t 14),
 oo 16 <| .mv (ki 0)]
def rQrX4 : List O := [
 oo 17 <| .bin .lss (.t 16) (.t 15)]
def rQrX5 : List O := [
 oo 18 <| .mv (.t 16),
 oo 19 <| .ixa 2 (.t 14) (.t 16),
 oo 20 <| .ld (some 2) (.t 19),
 oo 4 <| .new [(.int .i64 0), (.int .i64 0)],
 oo 3 <| .mv (.t 18),
 oz <| .st 2 (.t 4) (.t 20)]
def rQrX6 : List O := [
 oo 21 <| .fad 0 (.t 4),
 oo 22 <| .ld none (.t 21),
 oo 23 <| .bin .lss (.t 22) (ki 0),
 oo 24 <| .mv (.t 23),
 ⟨(some 25), (some (24, false)), .fad 0 (.t 4)⟩,
 ⟨(some 26), (some (24, false)), .ld none (.t 25)⟩,
 ⟨(some 27), (some (24, false)), .fad 1 (.t 4)⟩,
 ⟨(some 28), (some (24, false)), .ld none (.t 27)⟩,
 ⟨(some 29), (some (24, false)), .bin .geq (.t 26) (.t 28)⟩,
 oo 30 <| .pick (.t 24) (.k (.bool true)) (.t 29),
 oo 31 <| .mv (.t 30),
 ⟨(some 32), (some (31, false)), .fad 1 (.t 4)⟩,
 ⟨(some 33), (some (31, false)), .ld none (.t 32)⟩,
 ⟨(some 34), (some (31, false)), .fad 0 (.t 1)⟩,
 ⟨(some 35), (some (31, false)), .ld none (.t 34)⟩,
 ⟨(some 36), (some (31, false)), .bin .geq (.t 33) (.t 35)⟩,
 oo 37 <| .pick (.t 31) (.k (.bool true)) (.t 36)]
def rQrX7 : List O := [
 oo 2 <| .mv (ki 6)]
def rQrX8 : List O := [
 oo 38 <| .mv (.t 3),
 oo 39 <| .bin .gtr (.t 38) (ki 0),
 oo 40 <| .mv (.t 39),
 ⟨(some 41), (some (40, true)), .fad 1 (.t 1)⟩,
 ⟨(some 42), (some (40, true)), .ld none (.t 41)⟩,
 ⟨(some 43), (some (40, true)), .mv (.t 3)⟩,
 ⟨(some 44), (some (40, true)), .bin .sub (.t 43) (ki 1)⟩,
 ⟨(some 45), (some (40, true)), .ixa 2 (.t 42) (.t 44)⟩,
 ⟨(some 46), (some (40, true)), .ld (some 2) (.t 45)⟩,
 ⟨(some 47), (some (40, true)), .ld (some 2) (.t 4)⟩,
 ⟨(some 48), (some (40, true)), .call nQA [(.t 46), (.t 47)]⟩,
 ⟨(some 49), (some (40, true)), .un .not (.t 48)⟩,
 oo 50 <| .pick (.t 40) (.t 49) (.k (.bool false))]
def rQrX9 : List O := [
 oo 2 <| .mv (ki 5)]
def rQrX10 : List O := [
 oo 51 <| .bin .add (.t 16) (ki 1),
 oo 16 <| .mv (.t 51)]
def lQrX0 : C := (.seq (.reg rQrX4 false [] [1, 14, 15, 16, 17]) (.seq (.cond (.t 17) .skip (.exit 0)) (.seq (.blk 1 (.seq (.reg rQrX5 false [] [1, 3, 4, 14, 15, 16]) (.seq (.seq (.reg rQrX6 false [] [1, 3, 4, 14, 15, 16, 37]) (.cond (.t 37) (.seq (.reg rQrX7 false [] [2]) .ret) .skip)) (.seq (.reg rQrX8 true [(0, 0), (1, 1), (2, 2), (10, 10), (11, 11), (12, 12), (4, 5), (4, 6), (3, 9), (4, 9), (5, 9), (6, 9), (7, 9), (8, 9)] [1, 14, 15, 16, 50]) (.cond (.t 50) (.seq (.reg rQrX9 false [] [2]) .ret) .skip))))) (.reg rQrX10 false [] [1, 14, 15, 16]))))
def rQrX11 : List O := [
 oo 2 <| .mv (ki 0)]
def cQr : C := (.seq (.reg rQrX0 false [] [1]) (.seq (.seq (.reg rQrX1 false [] [1, 12]) (.cond (.t 12) (.seq (.reg rQrX2 false [] [2]) .ret) .skip)) (.seq (.seq (.reg rQrX3 false [] [1, 14, 15, 16]) (.blk 0 (.loop lQrX0))) (.seq (.reg rQrX11 false [] [2]) .ret))))
def qQr : AFn := ⟨52, 1, [.t 2], cQr⟩
/- cohesion/cohesionref03.ends -/
def rQsX0 : List O := [
 oo 6 <| .mv (.k (.bool false))]
def rQsX1 : List O := [
 oo 7 <| .mv (.t 1),
 oo 8 <| .bin .geq (.t 7) (ki 0),
 oo 9 <| .mv (.t 8),
 ⟨(some 10), (some (9, true)), .mv (.t 2)⟩,
 ⟨(some 11), (some (9, true)), .bin .geq (.t 10) (ki 0)⟩,
 oo 12 <| .pick (.t 9) (.t 11) (.k (.bool false)),
 oo 13 <| .mv (.t 12),
 ⟨(some 14), (some (13, true)), .mv (.t 1)⟩,
 ⟨(some 15), (some (13, true)), .mv (.t 0)⟩,
 ⟨(some 16), (some (13, true)), .bin .lss (.t 14) (.t 15)⟩,
 oo 17 <| .pick (.t 13) (.t 16) (.k (.bool false)),
 oo 18 <| .mv (.t 17),
 ⟨(some 19), (some (18, true)), .mv (.t 2)⟩,
 ⟨(some 20), (some (18, true)), .mv (.t 0)⟩,
 ⟨(some 21), (some (18, true)), .bin .lss (.t 19) (.t 20)⟩,
 oo 22 <| .pick (.t 18) (.t 21) (.k (.bool false)),
 oo 23 <| .mv (.t 22),
 ⟨(some 24), (some (23, true)), .mv (.t 1)⟩,
 ⟨(some 25), (some (23, true)), .mv (.t 2)⟩,
 ⟨(some 26), (some (23, true)), .bin .neq (.t 24) (.t 25)⟩,
 oo 27 <| .pick (.t 23) (.t 26) (.k (.bool false)),
 oo 6 <| .mv (.t 27)]
def cQs : C := (.seq (.reg rQsX0 false [] [0, 1, 2]) (.seq (.reg rQsX1 false [] [6]) .ret))
def qQs : AFn := ⟨28, 3, [.t 6], cQs⟩
/- cohesion/cohesionref03.Find -/
def rQtX0 : List O := [
 oo 3 <| .box (.t 0),
 oo 6 <| .mv (ki 0)]
def rQtX1 : List O := [
 oo 9 <| .ld (some 2) (.t 3),
 oo 10 <| .call nQr [(.t 9)],
 oo 11 <| .bin .neq (.t 10) (ki 0)]
def rQtX2 : List O := [
 oo 6 <| .mv (.k (.int .i64 (-1)))]
def rQtX3 : List O := [
 oo 12 <| .fad 1 (.t 3),
 oo 13 <| .ld none (.t 12),
 oo 14 <| .len (.t 13),
 oo 15 <| .mv (ki 0)]
def rQtX4 : List O := [
 oo 16 <| .bin .lss (.t 15) (.t 14)]
def rQtX5 : List O := [
 oo 17 <| .mv (.t 15),
 oo 18 <| .ixa 2 (.t 13) (.t 15),
 oo 19 <| .ld (some 2) (.t 18),
 oo 8 <| .new [(.int .i64 0), (.int .i64 0)],
 oo 7 <| .mv (.t 17),
 oz <| .st 2 (.t 8) (.t 19)]
def rQtX6 : List O := [
 oo 20 <| .ld (some 2) (.t 8),
 oo 21 <| .mv (.t 1),
 oo 22 <| .mv (.t 2),
 oo 23 <| .call nQu [(.t 21), (.t 22)],
 oo 24 <| .eq false (.str [true, true]) (.t 20) (.t 23)]
def rQtX7 : List O := [
 oo 25 <| .mv (.t 7),
 oo 6 <| .mv (.t 25)]
def rQtX8 : List O := [
 oo 26 <| .bin .add (.t 15) (ki 1),
 oo 15 <| .mv (.t 26)]
def lQtX0 : C := (.seq (.reg rQtX4 false [] [1, 2, 13, 14, 15, 16]) (.seq (.cond (.t 16) .skip (.exit 0)) (.seq (.blk 1 (.seq (.reg rQtX5 false [] [1, 2, 7, 8, 13, 14, 15]) (.seq (.reg rQtX6 true [(4, 4), (0, 1), (0, 2), (0, 3)] [1, 2, 7, 13, 14, 15, 24]) (.cond (.t 24) (.seq (.reg rQtX7 false [] [6]) .ret) .skip)))) (.reg rQtX8 false [] [1, 2, 13, 14, 15]))))
def rQtX9 : List O := [
 oo 6 <| .mv (.k (.int .i64 (-1)))]
def cQt : C := (.seq (.reg rQtX0 false [] [1, 2, 3]) (.seq (.seq (.reg rQtX1 false [] [1, 2, 3, 11]) (.cond (.t 11) (.seq (.reg rQtX2 false [] [6]) .ret) .skip)) (.seq (.seq (.reg rQtX3 false [] [1, 2, 13, 14, 15]) (.blk 0 (.loop lQtX0))) (.seq (.reg rQtX9 false [] [6]) .ret))))
def qQt : AFn := ⟨27, 3, [.t 6], cQt⟩
/- cohesion/cohesionref03.edge -/
def rQuX0 : List O := [
 oo 4 <| .new [(.int .i64 0), (.int .i64 0)]]
def rQuX1 : List O := [
 oo 5 <| .mv (.t 0),
 oo 6 <| .mv (.t 1),
 oo 7 <| .min [(.t 5), (.t 6)],
 oo 8 <| .mv (.t 0),
 oo 9 <| .mv (.t 1),
 oo 10 <| .max [(.t 8), (.t 9)],
 oo 11 <| .build [(.int .i64 0), (.int .i64 0)] [(0, 1, (.t 7)), (1, 1, (.t 10))],
 oz <| .st 2 (.t 4) (.t 11)]
def cQu : C := (.seq (.reg rQuX0 false [] [0, 1, 4]) (.seq (.reg rQuX1 false [] [4]) .ret))
def qQu : AFn := ⟨12, 2, [.c 4 (some 2)], cQu⟩
/- cohesion/maxclique.masks -/
def rQvX0 : List O := [
 oo 1 <| .box (.t 0),
 oo 2 <| .mv (.k (.own 1 []))]
def rQvX1 : List O := [
 oo 6 <| .fad 0 (.t 1),
 oo 7 <| .ld none (.t 6),
 oo 8 <| .mks 1 [(.int .u64 0)] (.t 7) (.t 7),
 oo 3 <| .mv (.t 8)]
def rQvX2 : List O := [
 oo 9 <| .fad 1 (.t 1),
 oo 10 <| .ld none (.t 9),
 oo 11 <| .len (.t 10),
 oo 12 <| .mv (ki 0)]
def rQvX3 : List O := [
 oo 13 <| .bin .lss (.t 12) (.t 11)]
def rQvX4 : List O := [
 oo 14 <| .ixa 2 (.t 10) (.t 12),
 oo 15 <| .ld (some 2) (.t 14),
 oo 5 <| .new [(.int .i64 0), (.int .i64 0)],
 oz <| .st 2 (.t 5) (.t 15)]
def rQvX5 : List O := [
 oo 16 <| .mv (.t 3),
 oo 17 <| .fad 0 (.t 5),
 oo 18 <| .ld none (.t 17),
 oo 19 <| .ixa 1 (.t 16) (.t 18),
 oo 20 <| .ld none (.t 19),
 oo 21 <| .fad 1 (.t 5),
 oo 22 <| .ld none (.t 21),
 oo 23 <| .bin .shl (.k (.int .u64 1)) (.t 22),
 oo 24 <| .bin .or (.t 20) (.t 23),
 oo 25 <| .ixa 1 (.t 16) (.t 18),
 oz <| .st 1 (.t 25) (.t 24)]
def rQvX6 : List O := [
 oo 26 <| .mv (.t 3),
 oo 27 <| .fad 1 (.t 5),
 oo 28 <| .ld none (.t 27),
 oo 29 <| .ixa 1 (.t 26) (.t 28),
 oo 30 <| .ld none (.t 29),
 oo 31 <| .fad 0 (.t 5),
 oo 32 <| .ld none (.t 31),
 oo 33 <| .bin .shl (.k (.int .u64 1)) (.t 32),
 oo 34 <| .bin .or (.t 30) (.t 33),
 oo 35 <| .ixa 1 (.t 26) (.t 28),
 oz <| .st 1 (.t 35) (.t 34)]
def rQvX7 : List O := [
 oo 36 <| .bin .add (.t 12) (ki 1),
 oo 12 <| .mv (.t 36)]
def lQvX0 : C := (.seq (.reg rQvX3 false [] [3, 10, 11, 12, 13]) (.seq (.cond (.t 13) .skip (.exit 0)) (.seq (.blk 1 (.seq (.reg rQvX4 false [] [3, 5, 10, 11, 12]) (.seq (.reg rQvX5 true [(8, 8), (9, 9), (10, 10), (0, 2), (2, 5), (4, 5), (0, 6), (1, 6), (2, 6), (3, 6), (4, 6), (2, 7), (4, 7)] [3, 5, 10, 11, 12]) (.reg rQvX6 true [(8, 8), (9, 9), (10, 10), (0, 2), (2, 5), (4, 5), (0, 6), (1, 6), (2, 6), (3, 6), (4, 6), (2, 7), (4, 7)] [3, 10, 11, 12])))) (.reg rQvX7 false [] [3, 10, 11, 12]))))
def rQvX8 : List O := [
 oo 37 <| .mv (.t 3),
 oo 2 <| .mv (.t 37)]
def cQv : C := (.seq (.reg rQvX0 false [] [1]) (.seq (.reg rQvX1 false [] [1, 3]) (.seq (.seq (.reg rQvX2 false [] [3, 10, 11, 12]) (.blk 0 (.loop lQvX0))) (.seq (.reg rQvX8 false [] [2]) .ret))))
def qQv : AFn := ⟨38, 1, [.t 2], cQv⟩
/- cohesion/maxclique.longest -/
def rQwX0 : List O := [
 oo 3 <| .box (.t 0),
 oo 6 <| .mv (ki 0)]
def rQwX1 : List O := [
 oo 9 <| .mv (.t 2),
 oo 7 <| .new [(.int .i64 0)],
 oz <| .st 1 (.t 7) (.t 9)]
def rQwX2 : List O := [
 oo 8 <| .new [.nilf]]
def rQwX3 : List O := [
 oo 10 <| .mkf (.func nQB) [] [(.t 7), (.t 3), (.t 8)],
 oz <| .st 1 (.t 8) (.t 10)]
def rQwX4 : List O := [
 oo 11 <| .ld none (.t 8),
 oo 12 <| .mv (.t 1),
 oo 13 <| .callv (.t 11) [(.t 12), (ki 0)]]
def rQwX5 : List O := [
 oo 14 <| .ld none (.t 7),
 oo 6 <| .mv (.t 14)]
def cQw : C := (.seq (.reg rQwX0 false [] [1, 2, 3]) (.seq (.reg rQwX1 false [] [1, 3, 7]) (.seq (.reg rQwX2 false [] [1, 3, 7, 8]) (.seq (.reg rQwX3 false [] [1, 7, 8]) (.seq (.reg rQwX4 false [] [7]) (.seq (.reg rQwX5 false [] [6]) .ret))))))
def qQw : AFn := ⟨15, 3, [.t 6], cQw⟩
/- math/bits.TrailingZeros64 -/
def rQxX0 : List O := [
 oo 2 <| .mv (ki 0)]
def rQxX1 : List O := [
 oo 3 <| .mv (.t 0),
 oo 4 <| .bin .eql (.t 3) (.k (.int .u64 0))]
def rQxX2 : List O := [
 oo 2 <| .mv (ki 64)]
def rQxX3 : List O := [
 oo 5 <| .mv (.t 0),
 oo 6 <| .mv (.t 0),
 oo 7 <| .un .neg (.t 6),
 oo 8 <| .bin .and (.t 5) (.t 7),
 oo 9 <| .bin .mul (.t 8) (.k (.int .u64 285870213051353865)),
 oo 10 <| .bin .shr (.t 9) (.k (.int .u64 58)),
 oo 11 <| .ixp 64 1 (.g 0) (.t 10),
 oo 12 <| .ld none (.t 11),
 oo 13 <| .cvt .i64 (.t 12),
 oo 2 <| .mv (.t 13)]
def cQx : C := (.seq (.reg rQxX0 false [] [0]) (.seq (.seq (.reg rQxX1 false [] [0, 4]) (.cond (.t 4) (.seq (.reg rQxX2 false [] [2]) .ret) .skip)) (.seq (.reg rQxX3 false [] [2]) .ret)))
def qQx : AFn := ⟨14, 1, [.t 2], cQx⟩
/- cohesion/cohesionref03.with -/
def rQyX0 : List O := [
 oo 3 <| .box (.t 1),
 oo 4 <| .mv (.k (.own 2 []))]
def rQyX1 : List O := [
 oo 5 <| .mv (ki 0)]
def rQyX2 : List O := [
 oo 7 <| .mv (.t 5),
 oo 8 <| .mv (.t 0),
 oo 9 <| .len (.t 8),
 oo 10 <| .bin .lss (.t 7) (.t 9),
 oo 11 <| .mv (.t 10),
 ⟨(some 12), (some (11, true)), .mv (.t 0)⟩,
 ⟨(some 13), (some (11, true)), .mv (.t 5)⟩,
 ⟨(some 14), (some (11, true)), .ixa 2 (.t 12) (.t 13)⟩,
 ⟨(some 15), (some (11, true)), .ld (some 2) (.t 14)⟩,
 ⟨(some 16), (some (11, true)), .ld (some 2) (.t 3)⟩,
 ⟨(some 17), (some (11, true)), .call nQA [(.t 15), (.t 16)]⟩,
 oo 18 <| .pick (.t 11) (.t 17) (.k (.bool false))]
def rQyX3 : List O := [
 oo 19 <| .mv (.t 5),
 oo 20 <| .bin .add (.t 19) (ki 1),
 oo 5 <| .mv (.t 20)]
def lQyX0 : C := (.seq (.seq (.reg rQyX2 true [(3, 3), (4, 4), (10, 10), (11, 11), (5, 9), (6, 9), (7, 9), (8, 9)] [0, 3, 5, 18]) (.cond (.t 18) .skip (.exit 0))) (.blk 1 (.reg rQyX3 false [] [0, 3, 5])))
def rQyX4 : List O := [
 oo 21 <| .mv (.t 5),
 oo 22 <| .mv (.t 0),
 oo 23 <| .len (.t 22),
 oo 24 <| .bin .lss (.t 21) (.t 23),
 oo 25 <| .mv (.t 24),
 ⟨(some 26), (some (25, true)), .mv (.t 0)⟩,
 ⟨(some 27), (some (25, true)), .mv (.t 5)⟩,
 ⟨(some 28), (some (25, true)), .ixa 2 (.t 26) (.t 27)⟩,
 ⟨(some 29), (some (25, true)), .ld (some 2) (.t 28)⟩,
 ⟨(some 30), (some (25, true)), .ld (some 2) (.t 3)⟩,
 ⟨(some 31), (some (25, true)), .eq false (.str [true, true]) (.t 29) (.t 30)⟩,
 oo 32 <| .pick (.t 25) (.t 31) (.k (.bool false))]
def rQyX5 : List O := [
 oo 33 <| .mv (.t 0),
 oo 4 <| .mv (.t 33)]
def rQyX6 : List O := [
 oo 34 <| .mv (.t 0),
 oo 35 <| .mv (.t 5),
 oo 36 <| .slc 2 (.t 34) none (some (.t 35)),
 oo 37 <| .app 2 (.k (.own 2 [])) (.t 36),
 oo 6 <| .mv (.t 37)]
def rQyX7 : List O := [
 oo 38 <| .mv (.t 6),
 oo 39 <| .ld (some 2) (.t 3),
 oo 40 <| .bslice 2 1 [(.int .i64 0), (.int .i64 0)] [(0, 2, (.t 39))],
 oo 41 <| .app 2 (.t 38) (.t 40),
 oo 42 <| .mv (.t 0),
 oo 43 <| .mv (.t 5),
 oo 44 <| .slc 2 (.t 42) (some (.t 43)) none,
 oo 45 <| .app 2 (.t 41) (.t 44),
 oo 4 <| .mv (.t 45)]
def cQy : C := (.seq (.reg rQyX0 false [] [0, 3]) (.seq (.reg rQyX1 false [] [0, 3, 5]) (.seq (.blk 0 (.loop lQyX0)) (.seq (.seq (.reg rQyX4 true [(3, 3), (4, 4), (10, 10), (11, 11), (5, 9), (6, 9), (7, 9), (8, 9)] [0, 3, 5, 32]) (.cond (.t 32) (.seq (.reg rQyX5 false [] [4]) .ret) .skip)) (.seq (.reg rQyX6 false [] [0, 3, 5, 6]) (.seq (.reg rQyX7 true [(7, 7), (8, 8), (0, 1), (0, 2), (1, 4), (2, 4), (3, 4), (1, 5), (2, 5), (3, 5), (1, 6), (2, 6), (3, 6)] [4]) .ret))))))
def qQy : AFn := ⟨46, 2, [.t 4], cQy⟩
/- cohesion/graph.Order -/
def rQzX0 : List O := [
 oo 2 <| .box (.t 0),
 oo 3 <| .box (.t 1),
 oo 4 <| .mv (ki 0)]
def rQzX1 : List O := [
 oo 5 <| .fad 0 (.t 2),
 oo 6 <| .ld none (.t 5),
 oo 7 <| .fad 0 (.t 3),
 oo 8 <| .ld none (.t 7),
 oo 9 <| .call nQF [(.t 6), (.t 8)],
 oo 10 <| .fad 1 (.t 2),
 oo 11 <| .ld none (.t 10),
 oo 12 <| .fad 1 (.t 3),
 oo 13 <| .ld none (.t 12),
 oo 14 <| .call nQF [(.t 11), (.t 13)],
 oo 15 <| .bslice 1 2 [(.int .i64 0)] [(0, 1, (.t 9)), (1, 1, (.t 14))],
 oo 16 <| .call nQE [(.t 15)],
 oo 4 <| .mv (.t 16)]
def cQz : C := (.seq (.reg rQzX0 false [] [2, 3]) (.seq (.reg rQzX1 true [(9, 9), (10, 10), (11, 11), (12, 12), (1, 2), (0, 3), (1, 3), (1, 5), (3, 5), (4, 5), (0, 6), (1, 6), (2, 6), (3, 6), (4, 6), (1, 7), (3, 7), (4, 7), (6, 7), (0, 8), (1, 8), (2, 8), (3, 8), (4, 8), (5, 8), (6, 8)] [4]) .ret))
def qQz : AFn := ⟨17, 2, [.t 4], cQz⟩
/- cohesion/cohesionref03.Before -/
def rQAX0 : List O := [
 oo 2 <| .box (.t 0),
 oo 3 <| .box (.t 1),
 oo 4 <| .mv (.k (.bool false))]
def rQAX1 : List O := [
 oo 5 <| .fad 0 (.t 2),
 oo 6 <| .ld none (.t 5),
 oo 7 <| .fad 0 (.t 3),
 oo 8 <| .ld none (.t 7),
 oo 9 <| .bin .lss (.t 6) (.t 8),
 oo 10 <| .mv (.t 9),
 ⟨(some 11), (some (10, false)), .fad 0 (.t 2)⟩,
 ⟨(some 12), (some (10, false)), .ld none (.t 11)⟩,
 ⟨(some 13), (some (10, false)), .fad 0 (.t 3)⟩,
 ⟨(some 14), (some (10, false)), .ld none (.t 13)⟩,
 ⟨(some 15), (some (10, false)), .bin .eql (.t 12) (.t 14)⟩,
 ⟨(some 16), (some (10, false)), .mv (.t 15)⟩,
 ⟨(some 17), (some (16, true)), .fad 1 (.t 2)⟩,
 ⟨(some 18), (some (16, true)), .ld none (.t 17)⟩,
 ⟨(some 19), (some (16, true)), .fad 1 (.t 3)⟩,
 ⟨(some 20), (some (16, true)), .ld none (.t 19)⟩,
 ⟨(some 21), (some (16, true)), .bin .lss (.t 18) (.t 20)⟩,
 ⟨(some 22), (some (10, false)), .pick (.t 16) (.t 21) (.k (.bool false))⟩,
 oo 23 <| .pick (.t 10) (.k (.bool true)) (.t 22),
 oo 4 <| .mv (.t 23)]
def cQA : C := (.seq (.reg rQAX0 false [] [2, 3]) (.seq (.reg rQAX1 false [] [4]) .ret))
def qQA : AFn := ⟨24, 2, [.t 4], cQA⟩
/- cohesion/maxclique.longest$1 -/
def rQBX0 : List O := [
 oo 8 <| .ld none (.t 2),
 oo 9 <| .mv (.t 1),
 oo 10 <| .max [(.t 8), (.t 9)],
 oz <| .st 1 (.t 2) (.t 10)]
def rQBX1 : List O := [
 oo 11 <| .mv (.t 0),
 oo 12 <| .bin .neq (.t 11) (.k (.int .u64 0))]
def rQBX2 : List O := [
 oo 13 <| .mv (.t 1),
 oo 14 <| .mv (.t 0),
 oo 15 <| .call nQC [(.t 14)],
 oo 16 <| .bin .add (.t 13) (.t 15),
 oo 17 <| .ld none (.t 2),
 oo 18 <| .bin .leq (.t 16) (.t 17),
 oo 19 <| .mv (.t 18),
 ⟨(some 20), (some (19, false)), .mv (.t 1)⟩,
 ⟨(some 21), (some (19, false)), .ld none (.t 3)⟩,
 ⟨(some 22), (some (19, false)), .mv (.t 0)⟩,
 ⟨(some 23), (some (19, false)), .call nQD [(.t 21), (.t 22)]⟩,
 ⟨(some 24), (some (19, false)), .bin .add (.t 20) (.t 23)⟩,
 ⟨(some 25), (some (19, false)), .ld none (.t 2)⟩,
 ⟨(some 26), (some (19, false)), .bin .leq (.t 24) (.t 25)⟩,
 oo 27 <| .pick (.t 19) (.k (.bool true)) (.t 26)]
def rQBX3 : List O := [
 oo 28 <| .mv (.t 0),
 oo 29 <| .call nQx [(.t 28)],
 oo 7 <| .mv (.t 29)]
def rQBX4 : List O := [
 oo 30 <| .mv (.t 0),
 oo 31 <| .mv (.t 7),
 oo 32 <| .bin .shl (.k (.int .u64 1)) (.t 31),
 oo 33 <| .bin .andNot (.t 30) (.t 32),
 oo 0 <| .mv (.t 33)]
def rQBX5 : List O := [
 oo 34 <| .ld none (.t 4),
 oo 35 <| .mv (.t 0),
 oo 36 <| .ld none (.t 3),
 oo 37 <| .mv (.t 7),
 oo 38 <| .ixa 1 (.t 36) (.t 37),
 oo 39 <| .ld none (.t 38),
 oo 40 <| .bin .and (.t 35) (.t 39),
 oo 41 <| .mv (.t 1),
 oo 42 <| .bin .add (.t 41) (ki 1),
 oo 43 <| .callv (.t 34) [(.t 40), (.t 42)]]
def lQBX0 : C := (.seq (.seq (.reg rQBX1 false [] [0, 1, 2, 3, 4, 12]) (.cond (.t 12) .skip (.exit 0))) (.blk 1 (.seq (.seq (.reg rQBX2 true [(5, 5), (6, 6), (13, 13), (14, 14), (0, 2), (0, 4), (1, 4), (2, 4), (3, 4), (7, 8), (8, 9), (7, 10), (7, 12), (8, 12), (9, 12), (10, 12), (11, 12)] [0, 1, 2, 3, 4, 27]) (.cond (.t 27) (.exit 0) .skip)) (.seq (.reg rQBX3 false [] [0, 1, 2, 3, 4, 7]) (.seq (.reg rQBX4 false [] [0, 1, 2, 3, 4, 7]) (.reg rQBX5 true [(9, 9), (0, 1), (0, 2), (1, 2), (0, 3), (2, 3), (0, 4), (0, 5), (1, 5), (0, 6), (0, 7), (2, 7), (5, 7), (0, 8), (2, 8), (5, 8)] [0, 1, 2, 3, 4]))))))
def cQB : C := (.seq .skip (.seq (.reg rQBX0 false [] [0, 1, 2, 3, 4]) (.seq .skip (.blk 0 (.loop lQBX0)))))
def qQB : AFn := ⟨44, 2, [], cQB⟩
/- math/bits.OnesCount64 -/
def rQCX0 : List O := [
 oo 2 <| .mv (ki 0)]
def rQCX1 : List O := [
 oo 3 <| .mv (.t 0),
 oo 4 <| .bin .shr (.t 3) (.k (.int .u64 1)),
 oo 5 <| .bin .and (.t 4) (.k (.int .u64 6148914691236517205)),
 oo 6 <| .mv (.t 0),
 oo 7 <| .bin .and (.t 6) (.k (.int .u64 6148914691236517205)),
 oo 8 <| .bin .add (.t 5) (.t 7),
 oo 0 <| .mv (.t 8)]
def rQCX2 : List O := [
 oo 9 <| .mv (.t 0),
 oo 10 <| .bin .shr (.t 9) (.k (.int .u64 2)),
 oo 11 <| .bin .and (.t 10) (.k (.int .u64 3689348814741910323)),
 oo 12 <| .mv (.t 0),
 oo 13 <| .bin .and (.t 12) (.k (.int .u64 3689348814741910323)),
 oo 14 <| .bin .add (.t 11) (.t 13),
 oo 0 <| .mv (.t 14)]
def rQCX3 : List O := [
 oo 15 <| .mv (.t 0),
 oo 16 <| .bin .shr (.t 15) (.k (.int .u64 4)),
 oo 17 <| .mv (.t 0),
 oo 18 <| .bin .add (.t 16) (.t 17),
 oo 19 <| .bin .and (.t 18) (.k (.int .u64 1085102592571150095)),
 oo 0 <| .mv (.t 19)]
def rQCX4 : List O := [
 oo 20 <| .mv (.t 0),
 oo 21 <| .mv (.t 0),
 oo 22 <| .bin .shr (.t 21) (.k (.int .u64 8)),
 oo 23 <| .bin .add (.t 20) (.t 22),
 oo 0 <| .mv (.t 23)]
def rQCX5 : List O := [
 oo 24 <| .mv (.t 0),
 oo 25 <| .mv (.t 0),
 oo 26 <| .bin .shr (.t 25) (.k (.int .u64 16)),
 oo 27 <| .bin .add (.t 24) (.t 26),
 oo 0 <| .mv (.t 27)]
def rQCX6 : List O := [
 oo 28 <| .mv (.t 0),
 oo 29 <| .mv (.t 0),
 oo 30 <| .bin .shr (.t 29) (.k (.int .u64 32)),
 oo 31 <| .bin .add (.t 28) (.t 30),
 oo 0 <| .mv (.t 31)]
def rQCX7 : List O := [
 oo 32 <| .mv (.t 0),
 oo 33 <| .cvt .i64 (.t 32),
 oo 34 <| .bin .and (.t 33) (ki 127),
 oo 2 <| .mv (.t 34)]
def cQC : C := (.seq (.reg rQCX0 false [] [0]) (.seq (.reg rQCX1 false [] [0]) (.seq (.reg rQCX2 false [] [0]) (.seq (.reg rQCX3 false [] [0]) (.seq (.reg rQCX4 false [] [0]) (.seq (.reg rQCX5 false [] [0]) (.seq (.reg rQCX6 false [] [0]) (.seq (.reg rQCX7 false [] [2]) .ret))))))))
def qQC : AFn := ⟨35, 1, [.t 2], cQC⟩
/- cohesion/maxclique.bound -/
def rQDX0 : List O := [
 oo 4 <| .mv (ki 0)]
def rQDX1 : List O := [
 oo 5 <| .mv (ki 0)]
def rQDX2 : List O := [
 oo 8 <| .mv (.t 1),
 oo 9 <| .bin .neq (.t 8) (.k (.int .u64 0))]
def rQDX3 : List O := [
 oo 12 <| .mv (.t 1),
 oo 6 <| .mv (.t 12)]
def rQDX4 : List O := [
 oo 13 <| .mv (.t 6),
 oo 14 <| .bin .neq (.t 13) (.k (.int .u64 0))]
def rQDX5 : List O := [
 oo 15 <| .mv (.t 6),
 oo 16 <| .call nQx [(.t 15)],
 oo 7 <| .mv (.t 16)]
def rQDX6 : List O := [
 oo 17 <| .mv (.t 1),
 oo 18 <| .mv (.t 7),
 oo 19 <| .bin .shl (.k (.int .u64 1)) (.t 18),
 oo 20 <| .bin .andNot (.t 17) (.t 19),
 oo 1 <| .mv (.t 20)]
def rQDX7 : List O := [
 oo 21 <| .mv (.t 6),
 oo 22 <| .mv (.t 7),
 oo 23 <| .bin .shl (.k (.int .u64 1)) (.t 22),
 oo 24 <| .mv (.t 0),
 oo 25 <| .mv (.t 7),
 oo 26 <| .ixa 1 (.t 24) (.t 25),
 oo 27 <| .ld none (.t 26),
 oo 28 <| .bin .or (.t 23) (.t 27),
 oo 29 <| .bin .andNot (.t 21) (.t 28),
 oo 6 <| .mv (.t 29)]
def lQDX0 : C := (.seq (.seq (.reg rQDX4 false [] [0, 1, 5, 6, 14]) (.cond (.t 14) .skip (.exit 2))) (.blk 3 (.seq (.reg rQDX5 false [] [0, 1, 5, 6, 7]) (.seq (.reg rQDX6 false [] [0, 1, 5, 6, 7]) (.reg rQDX7 true [(8, 8), (9, 9), (0, 6), (1, 6), (2, 6)] [0, 1, 5, 6])))))
def rQDX8 : List O := [
 oo 10 <| .mv (.t 5),
 oo 11 <| .bin .add (.t 10) (ki 1),
 oo 5 <| .mv (.t 11)]
def lQDX1 : C := (.seq (.seq (.reg rQDX2 false [] [0, 1, 5, 9]) (.cond (.t 9) .skip (.exit 0))) (.seq (.blk 1 (.seq (.reg rQDX3 false [] [0, 1, 5, 6]) (.blk 2 (.loop lQDX0)))) (.reg rQDX8 false [] [0, 1, 5])))
def rQDX9 : List O := [
 oo 30 <| .mv (.t 5),
 oo 4 <| .mv (.t 30)]
def cQD : C := (.seq (.reg rQDX0 false [] [0, 1]) (.seq (.reg rQDX1 false [] [0, 1, 5]) (.seq (.blk 0 (.loop lQDX1)) (.seq (.reg rQDX9 false [] [4]) .ret))))
def qQD : AFn := ⟨31, 2, [.t 4], cQD⟩
/- cmp.Or[int] -/
def rQEX0 : List O := [
 oo 2 <| .mv (ki 0)]
def rQEX1 : List O := [
 oo 3 <| .mv (ki 0)]
def rQEX2 : List O := [
 oo 6 <| .mv (.t 0),
 oo 7 <| .len (.t 6),
 oo 8 <| .mv (ki 0)]
def rQEX3 : List O := [
 oo 9 <| .bin .lss (.t 8) (.t 7)]
def rQEX4 : List O := [
 oo 10 <| .ixa 1 (.t 6) (.t 8),
 oo 11 <| .ld none (.t 10),
 oo 5 <| .mv (.t 11)]
def rQEX5 : List O := [
 oo 12 <| .mv (.t 5),
 oo 13 <| .mv (.t 3),
 oo 14 <| .bin .neq (.t 12) (.t 13)]
def rQEX6 : List O := [
 oo 15 <| .mv (.t 5),
 oo 2 <| .mv (.t 15)]
def rQEX7 : List O := [
 oo 16 <| .bin .add (.t 8) (ki 1),
 oo 8 <| .mv (.t 16)]
def lQEX0 : C := (.seq (.reg rQEX3 false [] [3, 6, 7, 8, 9]) (.seq (.cond (.t 9) .skip (.exit 0)) (.seq (.blk 1 (.seq (.reg rQEX4 false [] [3, 5, 6, 7, 8]) (.seq (.reg rQEX5 false [] [3, 5, 6, 7, 8, 14]) (.cond (.t 14) (.seq (.reg rQEX6 false [] [2]) .ret) .skip)))) (.reg rQEX7 false [] [3, 6, 7, 8]))))
def rQEX8 : List O := [
 oo 17 <| .mv (.t 3),
 oo 2 <| .mv (.t 17)]
def cQE : C := (.seq (.reg rQEX0 false [] [0]) (.seq (.reg rQEX1 false [] [0, 3]) (.seq (.seq (.reg rQEX2 false [] [3, 6, 7, 8]) (.blk 0 (.loop lQEX0))) (.seq (.reg rQEX8 false [] [2]) .ret))))
def qQE : AFn := ⟨18, 1, [.t 2], cQE⟩
/- cmp.Compare[int] -/
def rQFX0 : List O := [
 oo 4 <| .mv (ki 0)]
def rQFX1 : List O := [
 oo 7 <| .mv (.t 0),
 oo 8 <| .call nQG [(.t 7)],
 oo 5 <| .mv (.t 8)]
def rQFX2 : List O := [
 oo 9 <| .mv (.t 1),
 oo 10 <| .call nQG [(.t 9)],
 oo 6 <| .mv (.t 10)]
def rQFX3 : List O := [
 oo 11 <| .mv (.t 5)]
def rQFX4 : List O := [
 oo 12 <| .mv (.t 6)]
def rQFX5 : List O := [
 oo 4 <| .mv (ki 0)]
def rQFX6 : List O := [
 oo 4 <| .mv (.k (.int .i64 (-1)))]
def rQFX7 : List O := [
 oo 13 <| .mv (.t 6)]
def rQFX8 : List O := [
 oo 4 <| .mv (ki 1)]
def rQFX9 : List O := [
 oo 14 <| .mv (.t 0),
 oo 15 <| .mv (.t 1),
 oo 16 <| .bin .lss (.t 14) (.t 15)]
def rQFX10 : List O := [
 oo 4 <| .mv (.k (.int .i64 (-1)))]
def rQFX11 : List O := [
 oo 17 <| .mv (.t 0),
 oo 18 <| .mv (.t 1),
 oo 19 <| .bin .gtr (.t 17) (.t 18)]
def rQFX12 : List O := [
 oo 4 <| .mv (ki 1)]
def rQFX13 : List O := [
 oo 4 <| .mv (ki 0)]
def cQF : C := (.seq (.reg rQFX0 false [] [0, 1]) (.seq (.reg rQFX1 false [] [0, 1, 5]) (.seq (.reg rQFX2 false [] [0, 1, 5, 6]) (.seq (.seq (.reg rQFX3 false [] [0, 1, 6, 11]) (.cond (.t 11) (.seq (.seq (.reg rQFX4 false [] [12]) (.cond (.t 12) (.seq (.reg rQFX5 false [] [4]) .ret) .skip)) (.seq (.reg rQFX6 false [] [4]) .ret)) .skip)) (.seq (.seq (.reg rQFX7 false [] [0, 1, 13]) (.cond (.t 13) (.seq (.reg rQFX8 false [] [4]) .ret) .skip)) (.seq (.seq (.reg rQFX9 false [] [0, 1, 16]) (.cond (.t 16) (.seq (.reg rQFX10 false [] [4]) .ret) .skip)) (.seq (.seq (.reg rQFX11 false [] [19]) (.cond (.t 19) (.seq (.reg rQFX12 false [] [4]) .ret) .skip)) (.seq (.reg rQFX13 false [] [4]) .ret))))))))
def qQF : AFn := ⟨20, 2, [.t 4], cQF⟩
/- cmp.isNaN[int] -/
def rQGX0 : List O := [
 oo 2 <| .mv (.k (.bool false))]
def rQGX1 : List O := [
 oo 3 <| .mv (.t 0),
 oo 4 <| .mv (.t 0),
 oo 5 <| .bin .neq (.t 3) (.t 4),
 oo 2 <| .mv (.t 5)]
def cQG : C := (.seq (.reg rQGX0 false [] [0]) (.seq (.reg rQGX1 false [] [2]) .ret))
def qQG : AFn := ⟨6, 1, [.t 2], cQG⟩
abbrev Md := Go.Bm.Md
abbrev Cfg := Go.Bm.Cfg
def look : List (Nat × Md × AFn) -> Nat -> Option (Md × AFn)
 | [], _ => none
 | (j, m, q) :: r, i => if i = j then some (m, q) else look r i
def fns : List (Nat × Md × AFn) := [
 (nQa, ⟨false, false, true⟩, qQa),
 (nQb, ⟨false, false, true⟩, qQb),
 (nQc, ⟨false, false, true⟩, qQc),
 (nQd, ⟨true, false, false⟩, qQd),
 (nQe, ⟨true, false, false⟩, qQe),
 (nQf, ⟨false, false, true⟩, qQf),
 (nQg, ⟨true, false, false⟩, qQg),
 (nQh, ⟨false, false, false⟩, qQh),
 (nQi, ⟨false, false, true⟩, qQi),
 (nQj, ⟨false, false, false⟩, qQj),
 (nQk, ⟨false, false, false⟩, qQk),
 (nQl, ⟨false, false, false⟩, qQl),
 (nQm, ⟨false, false, true⟩, qQm),
 (nQn, ⟨false, false, false⟩, qQn),
 (nQo, ⟨false, false, true⟩, qQo),
 (nQp, ⟨false, false, true⟩, qQp),
 (nQq, ⟨false, false, true⟩, qQq),
 (nQr, ⟨false, false, true⟩, qQr),
 (nQs, ⟨false, false, true⟩, qQs),
 (nQt, ⟨false, false, true⟩, qQt),
 (nQu, ⟨false, false, false⟩, qQu),
 (nQv, ⟨false, false, false⟩, qQv),
 (nQw, ⟨false, false, true⟩, qQw),
 (nQx, ⟨false, false, true⟩, qQx),
 (nQy, ⟨false, false, false⟩, qQy),
 (nQz, ⟨false, false, true⟩, qQz),
 (nQA, ⟨false, false, true⟩, qQA),
 (nQB, ⟨true, false, false⟩, qQB),
 (nQC, ⟨false, false, true⟩, qQC),
 (nQD, ⟨false, false, true⟩, qQD),
 (nQE, ⟨false, false, true⟩, qQE),
 (nQF, ⟨false, false, true⟩, qQF),
 (nQG, ⟨false, false, true⟩, qQG)]
def nQH : Nat := 0
def tabZ : List Int := [0, 1, 56, 2, 57, 49, 28, 3, 61, 58, 42, 50, 38, 29, 17, 4, 62, 47, 59, 36, 45, 43, 51, 22, 53, 39, 33, 30, 24, 18, 12, 5, 63, 55, 48, 27, 60, 41, 37, 16, 46, 35, 44, 21, 52, 32, 23, 11, 54, 26, 40, 15, 34, 20, 31, 10, 25, 14, 19, 9, 13, 8, 7, 6]
def tabA : List AV := tabZ.map (AV.int .u8)
def cfg : Cfg := ⟨look fns, fun i => if i = nQH then tabA else [], fun _ => none, fun _ => none, fun _ => none, fun _ => false, fun _ => false⟩
theorem kLaw26MaxcliqueEdge : chkFB Go.Proofs.Tryd.prog Go.Proofs.Tryd.f4 qQa = true := by kernel_rfl
theorem kMakeFew : chkFB Go.Proofs.Tryd.prog Go.Proofs.Tryd.f6 qQb = true := by kernel_rfl
theorem kLaw26Awake : chkFB Go.Proofs.Tryd.prog Go.Proofs.Tryd.f7 qQc = true := by kernel_rfl
theorem kMakeNew : chkFB Go.Proofs.Tryd.prog Go.Proofs.Tryd.f8 qQd = true := by kernel_rfl
theorem kMakeDeckNext : chkFB Go.Proofs.Tryd.prog Go.Proofs.Tryd.f9 qQe = true := by kernel_rfl
theorem kRef02Has : chkFB Go.Proofs.Tryd.prog Go.Proofs.Tryd.f13 qQf = true := by kernel_rfl
theorem kMakeGraph : chkFB Go.Proofs.Tryd.prog Go.Proofs.Tryd.f16 qQg = true := by kernel_rfl
theorem kMaxcliqueColours : chkFB Go.Proofs.Tryd.prog Go.Proofs.Tryd.f17 qQh = true := by kernel_rfl
theorem kMaxcliqueProper : chkFB Go.Proofs.Tryd.prog Go.Proofs.Tryd.f19 qQi = true := by kernel_rfl
theorem kMaxcliqueBest : chkFB Go.Proofs.Tryd.prog Go.Proofs.Tryd.f20 qQj = true := by kernel_rfl
theorem kFieldBeside : chkFB Go.Proofs.Tryd.prog Go.Proofs.Tryd.f21 qQk = true := by kernel_rfl
theorem kRef03Add : chkFB Go.Proofs.Tryd.prog Go.Proofs.Tryd.f22 qQl = true := by kernel_rfl
theorem kRef02Cmp : chkFB Go.Proofs.Tryd.prog Go.Proofs.Tryd.f25 qQm = true := by kernel_rfl
theorem kRef03Of : chkFB Go.Proofs.Tryd.prog Go.Proofs.Tryd.f28 qQn = true := by kernel_rfl
theorem kMaxcliqueBound : chkFB Go.Proofs.Tryd.prog Go.Proofs.Tryd.f29 qQo = true := by kernel_rfl
theorem kMakeMod : chkFB Go.Proofs.Tryd.prog Go.Proofs.Tryd.f30 qQp = true := by kernel_rfl
theorem kGraphCheck : chkFB Go.Proofs.Tryd.prog Go.Proofs.Tryd.f31 qQq = true := by kernel_rfl
theorem kRef03Check : chkFB Go.Proofs.Tryd.prog Go.Proofs.Tryd.f41 qQr = true := by kernel_rfl
theorem kRef03Ends : chkFB Go.Proofs.Tryd.prog Go.Proofs.Tryd.f42 qQs = true := by kernel_rfl
theorem kRef03Find : chkFB Go.Proofs.Tryd.prog Go.Proofs.Tryd.f43 qQt = true := by kernel_rfl
theorem kRef03Edge : chkFB Go.Proofs.Tryd.prog Go.Proofs.Tryd.f44 qQu = true := by kernel_rfl
theorem kMaxcliqueMasks : chkFB Go.Proofs.Tryd.prog Go.Proofs.Tryd.f49 qQv = true := by kernel_rfl
theorem kMaxcliqueLongest : chkFB Go.Proofs.Tryd.prog Go.Proofs.Tryd.f50 qQw = true := by kernel_rfl
theorem kMathBitsTrailingZeros64 : chkFB Go.Proofs.Tryd.prog Go.Proofs.Tryd.f51 qQx = true := by kernel_rfl
theorem kRef03With : chkFB Go.Proofs.Tryd.prog Go.Proofs.Tryd.f52 qQy = true := by kernel_rfl
theorem kGraphOrder : chkFB Go.Proofs.Tryd.prog Go.Proofs.Tryd.f57 qQz = true := by kernel_rfl
theorem kRef03Before : chkFB Go.Proofs.Tryd.prog Go.Proofs.Tryd.f63 qQA = true := by kernel_rfl
theorem kMaxcliqueLongest1 : chkFB Go.Proofs.Tryd.prog Go.Proofs.Tryd.f66 qQB = true := by kernel_rfl
theorem kMathBitsOnesCount64 : chkFB Go.Proofs.Tryd.prog Go.Proofs.Tryd.f67 qQC = true := by kernel_rfl
theorem kMaxcliqueBoundN68 : chkFB Go.Proofs.Tryd.prog Go.Proofs.Tryd.f68 qQD = true := by kernel_rfl
theorem kCmpOrInt : chkFB Go.Proofs.Tryd.prog Go.Proofs.Tryd.f74 qQE = true := by kernel_rfl
theorem kCmpCompareInt : chkFB Go.Proofs.Tryd.prog Go.Proofs.Tryd.f75 qQF = true := by kernel_rfl
theorem kCmpIsNaNInt : chkFB Go.Proofs.Tryd.prog Go.Proofs.Tryd.f87 qQG = true := by kernel_rfl
theorem look_mem : ∀ {l : List (Nat × Md × AFn)} {f : Nat} {m : Md} {q : AFn}, look l f = some (m, q) -> (f, m, q) ∈ l
 | [], f, m, q, h => by simp [look] at h
 | (j, m', q') :: r, f, m, q, h => by
   unfold look at h
   split at h
   ·rename_i he; subst he; simp at h; obtain ⟨rfl, rfl⟩ := h; simp
   ·exact List.mem_cons_of_mem _ (look_mem h)
def Good (p : Nat × Md × AFn) : Prop := ∃ fn, Go.Proofs.Tryd.prog.funcs[p.1]? = some fn /\ chkFB Go.Proofs.Tryd.prog fn p.2.2 = true
def All (G : Nat × Md × AFn -> Prop) : List (Nat × Md × AFn) -> Prop
 | [] => True
 | p :: r => G p /\ All G r
theorem All.get {G : Nat × Md × AFn -> Prop} : ∀ {l : List (Nat × Md × AFn)}, All G l -> ∀ p ∈ l, G p
 | [], _, p, h => by simp at h
 | q :: r, h, p, hp => by
   rcases List.mem_cons.1 hp with e | e
   ·subst e; exact h.1
   ·exact All.get h.2 p e
theorem allGood : All Good fns := ⟨⟨_, Go.Proofs.Tryd.func4, kLaw26MaxcliqueEdge⟩, ⟨_, Go.Proofs.Tryd.func6, kMakeFew⟩, ⟨_, Go.Proofs.Tryd.func7, kLaw26Awake⟩, ⟨_, Go.Proofs.Tryd.func8, kMakeNew⟩, ⟨_, Go.Proofs.Tryd.func9, kMakeDeckNext⟩, ⟨_, Go.Proofs.Tryd.func13, kRef02Has⟩, ⟨_, Go.Proofs.Tryd.func16, kMakeGraph⟩, ⟨_, Go.Proofs.Tryd.func17, kMaxcliqueColours⟩, ⟨_, Go.Proofs.Tryd.func19, kMaxcliqueProper⟩, ⟨_, Go.Proofs.Tryd.func20, kMaxcliqueBest⟩, ⟨_, Go.Proofs.Tryd.func21, kFieldBeside⟩, ⟨_, Go.Proofs.Tryd.func22, kRef03Add⟩, ⟨_, Go.Proofs.Tryd.func25, kRef02Cmp⟩, ⟨_, Go.Proofs.Tryd.func28, kRef03Of⟩, ⟨_, Go.Proofs.Tryd.func29, kMaxcliqueBound⟩, ⟨_, Go.Proofs.Tryd.func30, kMakeMod⟩, ⟨_, Go.Proofs.Tryd.func31, kGraphCheck⟩, ⟨_, Go.Proofs.Tryd.func41, kRef03Check⟩, ⟨_, Go.Proofs.Tryd.func42, kRef03Ends⟩, ⟨_, Go.Proofs.Tryd.func43, kRef03Find⟩, ⟨_, Go.Proofs.Tryd.func44, kRef03Edge⟩, ⟨_, Go.Proofs.Tryd.func49, kMaxcliqueMasks⟩, ⟨_, Go.Proofs.Tryd.func50, kMaxcliqueLongest⟩, ⟨_, Go.Proofs.Tryd.func51, kMathBitsTrailingZeros64⟩, ⟨_, Go.Proofs.Tryd.func52, kRef03With⟩, ⟨_, Go.Proofs.Tryd.func57, kGraphOrder⟩, ⟨_, Go.Proofs.Tryd.func63, kRef03Before⟩, ⟨_, Go.Proofs.Tryd.func66, kMaxcliqueLongest1⟩, ⟨_, Go.Proofs.Tryd.func67, kMathBitsOnesCount64⟩, ⟨_, Go.Proofs.Tryd.func68, kMaxcliqueBoundN68⟩, ⟨_, Go.Proofs.Tryd.func74, kCmpOrInt⟩, ⟨_, Go.Proofs.Tryd.func75, kCmpCompareInt⟩, ⟨_, Go.Proofs.Tryd.func87, kCmpIsNaNInt⟩, trivial⟩
theorem cfgOK : CfgOKB Go.Proofs.Tryd.prog cfg := ⟨by kernel_rfl, fun f m q h => allGood.get _ (look_mem h)⟩
theorem gQa : cfg.fn nQa = some (⟨false, false, true⟩, qQa) := rfl
theorem gQb : cfg.fn nQb = some (⟨false, false, true⟩, qQb) := rfl
theorem gQc : cfg.fn nQc = some (⟨false, false, true⟩, qQc) := rfl
theorem gQd : cfg.fn nQd = some (⟨true, false, false⟩, qQd) := rfl
theorem gQe : cfg.fn nQe = some (⟨true, false, false⟩, qQe) := rfl
theorem gQf : cfg.fn nQf = some (⟨false, false, true⟩, qQf) := rfl
theorem gQg : cfg.fn nQg = some (⟨true, false, false⟩, qQg) := rfl
theorem gQh : cfg.fn nQh = some (⟨false, false, false⟩, qQh) := rfl
theorem gQi : cfg.fn nQi = some (⟨false, false, true⟩, qQi) := rfl
theorem gQj : cfg.fn nQj = some (⟨false, false, false⟩, qQj) := rfl
theorem gQk : cfg.fn nQk = some (⟨false, false, false⟩, qQk) := rfl
theorem gQl : cfg.fn nQl = some (⟨false, false, false⟩, qQl) := rfl
theorem gQn : cfg.fn nQn = some (⟨false, false, false⟩, qQn) := rfl
theorem gQo : cfg.fn nQo = some (⟨false, false, true⟩, qQo) := rfl
theorem gQp : cfg.fn nQp = some (⟨false, false, true⟩, qQp) := rfl
theorem gQq : cfg.fn nQq = some (⟨false, false, true⟩, qQq) := rfl
theorem gQr : cfg.fn nQr = some (⟨false, false, true⟩, qQr) := rfl
theorem gQs : cfg.fn nQs = some (⟨false, false, true⟩, qQs) := rfl
theorem gQt : cfg.fn nQt = some (⟨false, false, true⟩, qQt) := rfl
theorem gQu : cfg.fn nQu = some (⟨false, false, false⟩, qQu) := rfl
theorem gQv : cfg.fn nQv = some (⟨false, false, false⟩, qQv) := rfl
theorem gQw : cfg.fn nQw = some (⟨false, false, true⟩, qQw) := rfl
theorem gQx : cfg.fn nQx = some (⟨false, false, true⟩, qQx) := rfl
theorem gQy : cfg.fn nQy = some (⟨false, false, false⟩, qQy) := rfl
theorem gQz : cfg.fn nQz = some (⟨false, false, true⟩, qQz) := rfl
theorem gQA : cfg.fn nQA = some (⟨false, false, true⟩, qQA) := rfl
theorem gQB : cfg.fn nQB = some (⟨true, false, false⟩, qQB) := rfl
theorem gQC : cfg.fn nQC = some (⟨false, false, true⟩, qQC) := rfl
theorem gQD : cfg.fn nQD = some (⟨false, false, true⟩, qQD) := rfl
theorem gQE : cfg.fn nQE = some (⟨false, false, true⟩, qQE) := rfl
theorem gQF : cfg.fn nQF = some (⟨false, false, true⟩, qQF) := rfl
theorem gQG : cfg.fn nQG = some (⟨false, false, true⟩, qQG) := rfl
end Go.BmP
