/- The compact code of the functions, printed by program off the translation. -/
import Derived.Test.YtegmpkeejgflnaaChecked
import Derived.Test.YtegmpkeejgflnaaBmA
import Derived.KernelRfl
set_option maxRecDepth 100000
namespace Go.BmP
open Go.Am Go.Bm
abbrev oo (d : Nat) (x : Kd) : O := ⟨some d, none, x⟩
abbrev oz (x : Kd) : O := ⟨none, none, x⟩
abbrev ki (n : Nat) : E := .k (.int .i64 n)
def nQa : Nat := 3
def nQb : Nat := 4
def nQc : Nat := 5
def nQd : Nat := 6
def nQe : Nat := 7
def nQf : Nat := 8
def nQg : Nat := 9
def nQh : Nat := 10
def nQi : Nat := 11
def nQj : Nat := 12
def nQk : Nat := 13
def nQl : Nat := 14
def nQm : Nat := 15
def nQn : Nat := 16
def nQo : Nat := 17
def nQp : Nat := 18
def nQq : Nat := 19
def nQr : Nat := 20
def nQs : Nat := 21
def nQt : Nat := 22
def nQu : Nat := 23
def nQv : Nat := 24
def nQw : Nat := 25
def nQx : Nat := 26
def nQy : Nat := 27
def nQz : Nat := 28
def nQA : Nat := 30
def nQB : Nat := 31
def nQC : Nat := 32
def nQD : Nat := 33
def nQE : Nat := 34
def nQF : Nat := 39
def nQG : Nat := 40
def nQH : Nat := 41
def nQI : Nat := 54
def nQJ : Nat := 55
/- cohesion/cohesionlaw09.DegreeCounts -/
def rQaX0 : List O := [
 oo 3 <| .box (.t 0),
 oo 6 <| .mv (.k (.bool false))]
def rQaX1 : List O := [
 oo 22 <| .fad 1 (.t 3),
 oo 23 <| .ld none (.t 22),
 oo 24 <| .len (.t 23),
 oo 25 <| .bin .gtr (.t 24) (ki 100),
 oo 26 <| .mv (.t 25),
 ⟨(some 27), (some (26, false)), .mv (.t 1)⟩,
 ⟨(some 28), (some (26, false)), .len (.t 27)⟩,
 ⟨(some 29), (some (26, false)), .bin .gtr (.t 28) (ki 200)⟩,
 oo 30 <| .pick (.t 26) (.k (.bool true)) (.t 29)]
def rQaX2 : List O := [
 oo 31 <| .call nQb [],
 oo 6 <| .mv (.t 31)]
def rQaX3 : List O := [
 oo 32 <| .mv (.t 2),
 oo 33 <| .call nQd [(.t 32)],
 oo 34 <| .call nQc [(.t 33), (ki 9)],
 oo 7 <| .new [(.int .i64 0), (.own 2 [])],
 oz <| .st 2 (.t 7) (.t 34)]
def rQaX4 : List O := [
 oo 35 <| .ld (some 2) (.t 7),
 oo 36 <| .ld (some 2) (.t 3),
 oo 37 <| .bslice 2 2 [(.int .i64 0), (.own 2 [])] [(0, 2, (.t 35)), (2, 2, (.t 36))],
 oo 38 <| .len (.t 37),
 oo 39 <| .mv (ki 0)]
def rQaX5 : List O := [
 oo 40 <| .bin .lss (.t 39) (.t 38)]
def rQaX6 : List O := [
 oo 41 <| .ixa 2 (.t 37) (.t 39),
 oo 42 <| .ld (some 2) (.t 41),
 oo 9 <| .new [(.int .i64 0), (.own 2 [])],
 oz <| .st 2 (.t 9) (.t 42)]
def rQaX7 : List O := [
 oo 44 <| .ld (some 2) (.t 9),
 oo 45 <| .call nQe [(.t 44)],
 oo 43 <| .mv (.t 45),
 oo 46 <| .ext 0 (.t 43),
 oo 47 <| .ext 1 (.t 43),
 oo 10 <| .mv (.t 46),
 oo 11 <| .mv (.t 47)]
def rQaX8 : List O := [
 oo 49 <| .ld (some 2) (.t 9),
 oo 50 <| .call nQf [(.t 49)],
 oo 48 <| .mv (.t 50),
 oo 51 <| .ext 0 (.t 48),
 oo 52 <| .ext 1 (.t 48),
 oo 12 <| .mv (.t 51),
 oo 13 <| .mv (.t 52)]
def rQaX9 : List O := [
 oo 54 <| .ld (some 2) (.t 9),
 oo 55 <| .call nQg [(.t 54)],
 oo 53 <| .mv (.t 55),
 oo 56 <| .ext 0 (.t 53),
 oo 57 <| .ext 1 (.t 53),
 oo 14 <| .mv (.t 56),
 oo 15 <| .mv (.t 57)]
def rQaX10 : List O := [
 oo 59 <| .ld (some 2) (.t 9),
 oo 60 <| .call nQh [(.t 59)],
 oo 58 <| .mv (.t 60),
 oo 61 <| .ext 0 (.t 58),
 oo 62 <| .ext 1 (.t 58),
 oo 16 <| .mv (.t 61),
 oo 17 <| .mv (.t 62)]
def rQaX11 : List O := [
 oo 64 <| .ld (some 2) (.t 9),
 oo 65 <| .call nQi [(.t 64)],
 oo 63 <| .mv (.t 65),
 oo 66 <| .ext 0 (.t 63),
 oo 67 <| .ext 1 (.t 63),
 oo 18 <| .mv (.t 66),
 oo 19 <| .mv (.t 67)]
def rQaX12 : List O := [
 oo 69 <| .ld (some 2) (.t 9),
 oo 70 <| .call nQj [(.t 69)],
 oo 68 <| .mv (.t 70),
 oo 71 <| .ext 0 (.t 68),
 oo 72 <| .ext 1 (.t 68),
 oo 20 <| .mv (.t 71),
 oo 21 <| .mv (.t 72)]
def rQaX13 : List O := [
 oo 73 <| .mv (.t 11),
 oo 74 <| .mv (.t 13),
 oo 75 <| .bin .neq (.t 73) (.t 74),
 oo 76 <| .mv (.t 75),
 ⟨(some 77), (some (76, false)), .mv (.t 15)⟩,
 ⟨(some 78), (some (76, false)), .mv (.t 17)⟩,
 ⟨(some 79), (some (76, false)), .bin .neq (.t 77) (.t 78)⟩,
 oo 80 <| .pick (.t 76) (.k (.bool true)) (.t 79),
 oo 81 <| .mv (.t 80),
 ⟨(some 82), (some (81, false)), .mv (.t 19)⟩,
 ⟨(some 83), (some (81, false)), .mv (.t 21)⟩,
 ⟨(some 84), (some (81, false)), .bin .neq (.t 82) (.t 83)⟩,
 oo 85 <| .pick (.t 81) (.k (.bool true)) (.t 84),
 oo 86 <| .mv (.t 85),
 ⟨(some 87), (some (86, false)), .mv (.t 10)⟩,
 ⟨(some 88), (some (86, false)), .mv (.t 12)⟩,
 ⟨(some 89), (some (86, false)), .call nQk [(.t 87), (.t 88)]⟩,
 ⟨(some 90), (some (86, false)), .un .not (.t 89)⟩,
 oo 91 <| .pick (.t 86) (.k (.bool true)) (.t 90),
 oo 92 <| .mv (.t 91),
 ⟨(some 93), (some (92, false)), .mv (.t 14)⟩,
 ⟨(some 94), (some (92, false)), .mv (.t 16)⟩,
 ⟨(some 95), (some (92, false)), .call nQk [(.t 93), (.t 94)]⟩,
 ⟨(some 96), (some (92, false)), .un .not (.t 95)⟩,
 oo 97 <| .pick (.t 92) (.k (.bool true)) (.t 96),
 oo 98 <| .mv (.t 97),
 ⟨(some 99), (some (98, false)), .mv (.t 18)⟩,
 ⟨(some 100), (some (98, false)), .mv (.t 20)⟩,
 ⟨(some 101), (some (98, false)), .call nQk [(.t 99), (.t 100)]⟩,
 ⟨(some 102), (some (98, false)), .un .not (.t 101)⟩,
 oo 103 <| .pick (.t 98) (.k (.bool true)) (.t 102)]
def rQaX14 : List O := [
 oo 6 <| .mv (.k (.bool false))]
def rQaX15 : List O := [
 oo 104 <| .bin .add (.t 39) (ki 1),
 oo 39 <| .mv (.t 104)]
def lQaX0 : C := (.seq (.reg rQaX5 false [] [1, 37, 38, 39, 40]) (.seq (.cond (.t 40) .skip (.exit 0)) (.seq (.blk 1 (.seq (.reg rQaX6 false [] [1, 9, 37, 38, 39]) (.seq (.reg rQaX7 false [] [1, 9, 10, 11, 37, 38, 39]) (.seq (.reg rQaX8 false [] [1, 9, 10, 11, 12, 13, 37, 38, 39]) (.seq (.reg rQaX9 false [] [1, 9, 10, 11, 12, 13, 14, 15, 37, 38, 39]) (.seq (.reg rQaX10 false [] [1, 9, 10, 11, 12, 13, 14, 15, 16, 17, 37, 38, 39]) (.seq (.reg rQaX11 false [] [1, 9, 10, 11, 12, 13, 14, 15, 16, 17, 18, 19, 37, 38, 39]) (.seq (.reg rQaX12 false [] [1, 10, 11, 12, 13, 14, 15, 16, 17, 18, 19, 20, 21, 37, 38, 39]) (.seq (.reg rQaX13 false [] [1, 37, 38, 39, 103]) (.cond (.t 103) (.seq (.reg rQaX14 false [] [6]) .ret) .skip)))))))))) (.reg rQaX15 false [] [1, 37, 38, 39]))))
def rQaX16 : List O := [
 oo 105 <| .mv (.t 1),
 oo 106 <| .call nQl [(.t 105)],
 oo 107 <| .mv (.t 1),
 oo 108 <| .call nQm [(.t 107)],
 oo 109 <| .bin .eql (.t 106) (.t 108),
 oo 110 <| .mv (.t 109),
 ⟨(some 111), (some (110, true)), .call nQb []⟩,
 oo 112 <| .pick (.t 110) (.t 111) (.k (.bool false)),
 oo 6 <| .mv (.t 112)]
def cQa : C := (.seq (.reg rQaX0 false [] [1, 2, 3]) (.seq (.seq (.reg rQaX1 false [] [1, 2, 3, 30]) (.cond (.t 30) (.seq (.reg rQaX2 false [] [6]) .ret) .skip)) (.seq (.reg rQaX3 false [] [1, 3, 7]) (.seq (.seq (.reg rQaX4 false [] [1, 37, 38, 39]) (.blk 0 (.loop lQaX0))) (.seq (.reg rQaX16 false [] [6]) .ret)))))
def qQa : AFn := ⟨113, 3, [.t 6], cQa⟩
/- cohesion/cohesionlaw09.awake -/
def rQbX0 : List O := [
 oo 0 <| .mv (.k (.bool false))]
def rQbX1 : List O := [
 oo 4 <| .build [(.int .i64 0), (.int .i64 0)] [(0, 1, (ki 0)), (1, 1, (ki 2))],
 oo 5 <| .bslice 2 1 [(.int .i64 0), (.int .i64 0)] [(0, 2, (.t 4))],
 oo 6 <| .build [(.int .i64 0), (.own 2 [])] [(0, 1, (ki 3)), (1, 1, (.t 5))],
 oo 7 <| .call nQe [(.t 6)],
 oo 3 <| .mv (.t 7),
 oo 8 <| .ext 0 (.t 3),
 oo 9 <| .ext 1 (.t 3),
 oo 1 <| .mv (.t 8),
 oo 2 <| .mv (.t 9)]
def rQbX2 : List O := [
 oo 10 <| .mv (.t 2),
 oo 11 <| .bin .eql (.t 10) (ki 0),
 oo 12 <| .mv (.t 11),
 ⟨(some 13), (some (12, true)), .mv (.t 1)⟩,
 ⟨(some 14), (some (12, true)), .bslice 1 3 [(.int .i64 0)] [(0, 1, (ki 1)), (1, 1, (ki 0)), (2, 1, (ki 1))]⟩,
 ⟨(some 15), (some (12, true)), .call nQk [(.t 13), (.t 14)]⟩,
 oo 16 <| .pick (.t 12) (.t 15) (.k (.bool false)),
 oo 17 <| .mv (.t 16),
 ⟨(some 18), (some (17, true)), .bslice 1 5 [(.int .i64 0)] [(0, 1, (ki 3)), (1, 1, (ki 0)), (2, 1, (ki 6)), (3, 1, (ki 1)), (4, 1, (ki 5))]⟩,
 ⟨(some 19), (some (17, true)), .call nQl [(.t 18)]⟩,
 ⟨(some 20), (some (17, true)), .bin .eql (.t 19) (ki 3)⟩,
 oo 21 <| .pick (.t 17) (.t 20) (.k (.bool false)),
 oo 22 <| .mv (.t 21),
 ⟨(some 23), (some (22, true)), .bslice 1 4 [(.int .i64 0)] [(0, 1, (ki 3)), (1, 1, (ki 3)), (2, 1, (ki 1)), (3, 1, (ki 1))]⟩,
 ⟨(some 24), (some (22, true)), .call nQn [(.t 23)]⟩,
 ⟨(some 25), (some (22, true)), .un .not (.t 24)⟩,
 oo 26 <| .pick (.t 22) (.t 25) (.k (.bool false)),
 oo 27 <| .mv (.t 26),
 ⟨(some 28), (some (27, true)), .bslice 1 2 [(.int .i64 0)] [(0, 1, (ki 1)), (1, 1, (ki 1))]⟩,
 ⟨(some 29), (some (27, true)), .call nQn [(.t 28)]⟩,
 oo 30 <| .pick (.t 27) (.t 29) (.k (.bool false)),
 oo 0 <| .mv (.t 30)]
def cQb : C := (.seq (.reg rQbX0 false [] []) (.seq (.reg rQbX1 false [] [1, 2]) (.seq (.reg rQbX2 false [] [0]) .ret)))
def qQb : AFn := ⟨31, 0, [.t 0], cQb⟩
/- cohesion/cohesionmake.Graph -/
def rQcX0 : List O := [
 oo 4 <| .new [(.int .i64 0), (.own 2 [])]]
def rQcX1 : List O := [
 oo 9 <| .mv (.t 0),
 oo 10 <| .mv (.t 1),
 oo 11 <| .bin .add (.t 10) (ki 1),
 oo 12 <| .call nQo [(.t 9), (.t 11)],
 oo 13 <| .build [(.int .i64 0), (.own 2 [])] [(0, 1, (.t 12))],
 oo 5 <| .new [(.int .i64 0), (.own 2 [])],
 oz <| .st 2 (.t 5) (.t 13)]
def rQcX2 : List O := [
 oo 14 <| .fad 0 (.t 5),
 oo 15 <| .ld none (.t 14),
 oo 16 <| .bin .lss (.t 15) (ki 4)]
def rQcX3 : List O := [
 oo 17 <| .mv (.t 1),
 oo 18 <| .fad 0 (.t 5),
 oo 19 <| .ld none (.t 18),
 oo 20 <| .mv (.t 0),
 oo 21 <| .mv (.t 1),
 oo 22 <| .bin .add (.t 21) (ki 1),
 oo 23 <| .call nQo [(.t 20), (.t 22)],
 oo 24 <| .bin .add (.t 19) (.t 23),
 oo 25 <| .min [(.t 17), (.t 24)],
 oo 26 <| .fad 0 (.t 5),
 oz <| .st 1 (.t 26) (.t 25)]
def rQcX4 : List O := [
 oo 27 <| .mv (.t 0),
 oo 28 <| .call nQo [(.t 27), (ki 4)],
 oo 29 <| .bin .add (ki 1) (.t 28),
 oo 6 <| .mv (.t 29)]
def rQcX5 : List O := [
 oo 7 <| .mv (ki 0)]
def rQcX6 : List O := [
 oo 30 <| .mv (.t 7),
 oo 31 <| .fad 0 (.t 5),
 oo 32 <| .ld none (.t 31),
 oo 33 <| .bin .lss (.t 30) (.t 32)]
def rQcX7 : List O := [
 oo 36 <| .mv (.t 7),
 oo 37 <| .bin .add (.t 36) (ki 1),
 oo 8 <| .mv (.t 37)]
def rQcX8 : List O := [
 oo 38 <| .mv (.t 8),
 oo 39 <| .fad 0 (.t 5),
 oo 40 <| .ld none (.t 39),
 oo 41 <| .bin .lss (.t 38) (.t 40)]
def rQcX9 : List O := [
 oo 44 <| .mv (.t 0),
 oo 45 <| .call nQo [(.t 44), (ki 5)],
 oo 46 <| .mv (.t 6),
 oo 47 <| .bin .sub (ki 5) (.t 46),
 oo 48 <| .bin .geq (.t 45) (.t 47)]
def rQcX10 : List O := [
 oo 49 <| .fad 1 (.t 5),
 oo 50 <| .ld none (.t 49),
 oo 51 <| .mv (.t 7),
 oo 52 <| .mv (.t 8),
 oo 53 <| .build [(.int .i64 0), (.int .i64 0)] [(0, 1, (.t 51)), (1, 1, (.t 52))],
 oo 54 <| .bslice 2 1 [(.int .i64 0), (.int .i64 0)] [(0, 2, (.t 53))],
 oo 55 <| .app 2 (.t 50) (.t 54),
 oo 56 <| .fad 1 (.t 5),
 oz <| .st 1 (.t 56) (.t 55)]
def rQcX11 : List O := [
 oo 42 <| .mv (.t 8),
 oo 43 <| .bin .add (.t 42) (ki 1),
 oo 8 <| .mv (.t 43)]
def lQcX0 : C := (.seq (.seq (.reg rQcX8 false [] [0, 4, 5, 6, 7, 8, 41]) (.cond (.t 41) .skip (.exit 2))) (.seq (.blk 3 (.seq (.reg rQcX9 false [] [0, 4, 5, 6, 7, 8, 48]) (.cond (.t 48) (.reg rQcX10 false [] [0, 4, 5, 6, 7, 8]) .skip))) (.reg rQcX11 false [] [0, 4, 5, 6, 7, 8])))
def rQcX12 : List O := [
 oo 34 <| .mv (.t 7),
 oo 35 <| .bin .add (.t 34) (ki 1),
 oo 7 <| .mv (.t 35)]
def lQcX1 : C := (.seq (.seq (.reg rQcX6 false [] [0, 4, 5, 6, 7, 33]) (.cond (.t 33) .skip (.exit 0))) (.seq (.blk 1 (.seq (.reg rQcX7 false [] [0, 4, 5, 6, 7, 8]) (.blk 2 (.loop lQcX0)))) (.reg rQcX12 false [] [0, 4, 5, 6, 7])))
def rQcX13 : List O := [
 oo 57 <| .ld (some 2) (.t 5),
 oz <| .st 2 (.t 4) (.t 57)]
def cQc : C := (.seq (.reg rQcX0 false [] [0, 1, 4]) (.seq (.reg rQcX1 false [] [0, 1, 4, 5]) (.seq (.seq (.reg rQcX2 false [] [0, 1, 4, 5, 16]) (.cond (.t 16) (.reg rQcX3 true [(8, 8), (9, 9), (10, 10), (0, 2), (2, 3), (2, 4), (2, 5), (0, 6), (1, 6), (2, 6)] [0, 4, 5]) .skip)) (.seq (.reg rQcX4 false [] [0, 4, 5, 6]) (.seq (.seq (.reg rQcX5 false [] [0, 4, 5, 6, 7]) (.blk 0 (.loop lQcX1))) (.seq (.reg rQcX13 false [] [4]) .ret))))))
def qQc : AFn := ⟨58, 2, [.c 4 (some 2)], cQc⟩
/- cohesion/cohesionmake.New -/
def rQdX0 : List O := [
 oo 2 <| .mv (.k .nilp)]
def rQdX1 : List O := [
 oo 3 <| .mv (.t 0),
 oo 4 <| .build [(.own 1 []), (.int .i64 0)] [(0, 1, (.t 3))],
 oo 5 <| .box (.t 4),
 oo 2 <| .mv (.t 5)]
def cQd : C := (.seq (.reg rQdX0 false [] [0]) (.seq (.reg rQdX1 false [] [2]) .ret))
def qQd : AFn := ⟨6, 1, [.t 2], cQd⟩
/- cohesion/degree.Degrees -/
def rQeX0 : List O := [
 oo 1 <| .box (.t 0),
 oo 2 <| .mv (.k (.own 1 [])),
 oo 3 <| .mv (ki 0)]
def rQeX1 : List O := [
 oo 8 <| .ld (some 2) (.t 1),
 oo 9 <| .call nQp [(.t 8)],
 oo 4 <| .mv (.t 9)]
def rQeX2 : List O := [
 oo 10 <| .mv (.t 4),
 oo 11 <| .bin .neq (.t 10) (ki 0)]
def rQeX3 : List O := [
 oo 12 <| .mv (.t 4),
 oo 2 <| .mv (.k (.own 1 [])),
 oo 3 <| .mv (.t 12)]
def rQeX4 : List O := [
 oo 5 <| .mv (.k (.own 1 []))]
def rQeX5 : List O := [
 oo 13 <| .ld (some 2) (.t 1),
 oo 14 <| .call nQq [(.t 13)],
 oo 15 <| .len (.t 14),
 oo 16 <| .mv (ki 0)]
def rQeX6 : List O := [
 oo 17 <| .bin .lss (.t 16) (.t 15)]
def rQeX7 : List O := [
 oo 18 <| .ixa 1 (.t 14) (.t 16),
 oo 19 <| .ld none (.t 18),
 oo 7 <| .mv (.t 19)]
def rQeX8 : List O := [
 oo 20 <| .mv (.t 5),
 oo 21 <| .mv (.t 7),
 oo 22 <| .call nQr [(.t 21)],
 oo 23 <| .bslice 1 1 [(.int .i64 0)] [(0, 1, (.t 22))],
 oo 24 <| .app 1 (.t 20) (.t 23),
 oo 5 <| .mv (.t 24)]
def rQeX9 : List O := [
 oo 25 <| .bin .add (.t 16) (ki 1),
 oo 16 <| .mv (.t 25)]
def lQeX0 : C := (.seq (.reg rQeX6 false [] [5, 14, 15, 16, 17]) (.seq (.cond (.t 17) .skip (.exit 0)) (.seq (.blk 1 (.seq (.reg rQeX7 false [] [5, 7, 14, 15, 16]) (.reg rQeX8 false [] [5, 14, 15, 16]))) (.reg rQeX9 false [] [5, 14, 15, 16]))))
def rQeX10 : List O := [
 oo 26 <| .mv (.t 5),
 oo 2 <| .mv (.t 26),
 oo 3 <| .mv (ki 0)]
def cQe : C := (.seq (.reg rQeX0 false [] [1]) (.seq (.seq (.reg rQeX1 false [] [1, 4]) (.seq (.reg rQeX2 false [] [1, 4, 11]) (.cond (.t 11) (.seq (.reg rQeX3 false [] [2, 3]) .ret) .skip))) (.seq (.reg rQeX4 false [] [1, 5]) (.seq (.seq (.reg rQeX5 false [] [5, 14, 15, 16]) (.blk 0 (.loop lQeX0))) (.seq (.reg rQeX10 false [] [2, 3]) .ret)))))
def qQe : AFn := ⟨27, 1, [.t 2, .t 3], cQe⟩
/- cohesion/cohesionref09.Degrees -/
def rQfX0 : List O := [
 oo 1 <| .box (.t 0),
 oo 2 <| .mv (.k (.own 1 [])),
 oo 3 <| .mv (ki 0)]
def rQfX1 : List O := [
 oo 7 <| .ld (some 2) (.t 1),
 oo 8 <| .call nQs [(.t 7)],
 oo 4 <| .mv (.t 8)]
def rQfX2 : List O := [
 oo 9 <| .mv (.t 4),
 oo 10 <| .bin .neq (.t 9) (ki 0)]
def rQfX3 : List O := [
 oo 11 <| .mv (.t 4),
 oo 2 <| .mv (.k (.own 1 [])),
 oo 3 <| .mv (.t 11)]
def rQfX4 : List O := [
 oo 5 <| .mv (.k (.own 1 []))]
def rQfX5 : List O := [
 oo 12 <| .fad 0 (.t 1),
 oo 13 <| .ld none (.t 12),
 oo 14 <| .mv (ki 0)]
def rQfX6 : List O := [
 oo 15 <| .bin .lss (.t 14) (.t 13)]
def rQfX7 : List O := [
 oo 16 <| .mv (.t 14),
 oo 6 <| .mv (.t 16)]
def rQfX8 : List O := [
 oo 17 <| .mv (.t 5),
 oo 18 <| .ld (some 2) (.t 1),
 oo 19 <| .mv (.t 6),
 oo 20 <| .call nQt [(.t 18), (.t 19)],
 oo 21 <| .bslice 1 1 [(.int .i64 0)] [(0, 1, (.t 20))],
 oo 22 <| .app 1 (.t 17) (.t 21),
 oo 5 <| .mv (.t 22)]
def rQfX9 : List O := [
 oo 23 <| .bin .add (.t 14) (ki 1),
 oo 14 <| .mv (.t 23)]
def lQfX0 : C := (.seq (.reg rQfX6 false [] [1, 5, 13, 14, 15]) (.seq (.cond (.t 15) .skip (.exit 0)) (.seq (.blk 1 (.seq (.reg rQfX7 false [] [1, 5, 6, 13, 14]) (.reg rQfX8 false [] [1, 5, 13, 14]))) (.reg rQfX9 false [] [1, 5, 13, 14]))))
def rQfX10 : List O := [
 oo 24 <| .mv (.t 5),
 oo 2 <| .mv (.t 24),
 oo 3 <| .mv (ki 0)]
def cQf : C := (.seq (.reg rQfX0 false [] [1]) (.seq (.seq (.reg rQfX1 false [] [1, 4]) (.seq (.reg rQfX2 false [] [1, 4, 10]) (.cond (.t 10) (.seq (.reg rQfX3 false [] [2, 3]) .ret) .skip))) (.seq (.reg rQfX4 false [] [1, 5]) (.seq (.seq (.reg rQfX5 false [] [1, 5, 13, 14]) (.blk 0 (.loop lQfX0))) (.seq (.reg rQfX10 false [] [2, 3]) .ret)))))
def qQf : AFn := ⟨25, 1, [.t 2, .t 3], cQf⟩
/- cohesion/degree.Sequence -/
def rQgX0 : List O := [
 oo 1 <| .box (.t 0),
 oo 2 <| .mv (.k (.own 1 [])),
 oo 3 <| .mv (ki 0)]
def rQgX1 : List O := [
 oo 7 <| .ld (some 2) (.t 1),
 oo 8 <| .call nQe [(.t 7)],
 oo 6 <| .mv (.t 8),
 oo 9 <| .ext 0 (.t 6),
 oo 10 <| .ext 1 (.t 6),
 oo 4 <| .mv (.t 9),
 oo 5 <| .mv (.t 10)]
def rQgX2 : List O := [
 oo 11 <| .mv (.t 4),
 oo 12 <| .call nQu [(.t 11)]]
def rQgX3 : List O := [
 oo 13 <| .mv (.t 4),
 oo 14 <| .call nQv [(.t 13)]]
def rQgX4 : List O := [
 oo 15 <| .mv (.t 4),
 oo 16 <| .mv (.t 5),
 oo 2 <| .mv (.t 15),
 oo 3 <| .mv (.t 16)]
def cQg : C := (.seq (.reg rQgX0 false [] [1]) (.seq (.reg rQgX1 false [] [4, 5]) (.seq (.reg rQgX2 false [] [4, 5]) (.seq (.reg rQgX3 false [] [4, 5]) (.seq (.reg rQgX4 false [] [2, 3]) .ret)))))
def qQg : AFn := ⟨17, 1, [.t 2, .t 3], cQg⟩
/- cohesion/cohesionref09.Sequence -/
def rQhX0 : List O := [
 oo 1 <| .box (.t 0),
 oo 2 <| .mv (.k (.own 1 [])),
 oo 3 <| .mv (ki 0)]
def rQhX1 : List O := [
 oo 7 <| .ld (some 2) (.t 1),
 oo 8 <| .call nQf [(.t 7)],
 oo 6 <| .mv (.t 8),
 oo 9 <| .ext 0 (.t 6),
 oo 10 <| .ext 1 (.t 6),
 oo 4 <| .mv (.t 9),
 oo 5 <| .mv (.t 10)]
def rQhX2 : List O := [
 oo 11 <| .mv (.t 4),
 oo 12 <| .call nQw [(.t 11)],
 oo 13 <| .mv (.t 5),
 oo 2 <| .mv (.t 12),
 oo 3 <| .mv (.t 13)]
def cQh : C := (.seq (.reg rQhX0 false [] [1]) (.seq (.reg rQhX1 false [] [4, 5]) (.seq (.reg rQhX2 false [] [2, 3]) .ret)))
def qQh : AFn := ⟨14, 1, [.t 2, .t 3], cQh⟩
/- cohesion/degree.Histogram -/
def rQiX0 : List O := [
 oo 1 <| .box (.t 0),
 oo 2 <| .mv (.k (.own 1 [])),
 oo 3 <| .mv (ki 0)]
def rQiX1 : List O := [
 oo 10 <| .ld (some 2) (.t 1),
 oo 11 <| .call nQe [(.t 10)],
 oo 9 <| .mv (.t 11),
 oo 12 <| .ext 0 (.t 9),
 oo 13 <| .ext 1 (.t 9),
 oo 4 <| .mv (.t 12),
 oo 5 <| .mv (.t 13)]
def rQiX2 : List O := [
 oo 14 <| .mv (.t 5),
 oo 15 <| .bin .neq (.t 14) (ki 0),
 oo 16 <| .mv (.t 15),
 ⟨(some 17), (some (16, false)), .mv (.t 4)⟩,
 ⟨(some 18), (some (16, false)), .len (.t 17)⟩,
 ⟨(some 19), (some (16, false)), .bin .eql (.t 18) (ki 0)⟩,
 oo 20 <| .pick (.t 16) (.k (.bool true)) (.t 19)]
def rQiX3 : List O := [
 oo 21 <| .mv (.t 5),
 oo 2 <| .mv (.k (.own 1 [])),
 oo 3 <| .mv (.t 21)]
def rQiX4 : List O := [
 oo 6 <| .new [(.int .i64 0), (.int .i64 0), (.int .i64 0), (.int .i64 0), (.int .i64 0), (.int .i64 0), (.int .i64 0), (.int .i64 0), (.int .i64 0), (.int .i64 0), (.int .i64 0), (.int .i64 0), (.int .i64 0), (.int .i64 0), (.int .i64 0), (.int .i64 0), (.int .i64 0), (.int .i64 0), (.int .i64 0), (.int .i64 0), (.int .i64 0), (.int .i64 0), (.int .i64 0), (.int .i64 0), (.int .i64 0), (.int .i64 0), (.int .i64 0), (.int .i64 0), (.int .i64 0), (.int .i64 0), (.int .i64 0), (.int .i64 0), (.int .i64 0), (.int .i64 0), (.int .i64 0), (.int .i64 0), (.int .i64 0), (.int .i64 0), (.int .i64 0), (.int .i64 0), (.int .i64 0), (.int .i64 0), (.int .i64 0), (.int .i64 0), (.int .i64 0), (.int .i64 0), (.int .i64 0), (.int .i64 0), (.int .i64 0), (.int .i64 0), (.int .i64 0), (.int .i64 0), (.int .i64 0), (.int .i64 0), (.int .i64 0), (.int .i64 0), (.int .i64 0), (.int .i64 0), (.int .i64 0), (.int .i64 0), (.int .i64 0), (.int .i64 0), (.int .i64 0), (.int .i64 0)]]
def rQiX5 : List O := [
 oo 22 <| .mv (.t 4),
 oo 23 <| .len (.t 22),
 oo 24 <| .mv (ki 0)]
def rQiX6 : List O := [
 oo 25 <| .bin .lss (.t 24) (.t 23)]
def rQiX7 : List O := [
 oo 26 <| .ixa 1 (.t 22) (.t 24),
 oo 27 <| .ld none (.t 26),
 oo 8 <| .mv (.t 27)]
def rQiX8 : List O := [
 oo 28 <| .mv (.t 8),
 oo 29 <| .ixp 64 1 (.t 6) (.t 28),
 oo 30 <| .ld none (.t 29),
 oo 31 <| .bin .add (.t 30) (ki 1),
 oo 32 <| .ixp 64 1 (.t 6) (.t 28),
 oz <| .st 1 (.t 32) (.t 31)]
def rQiX9 : List O := [
 oo 33 <| .bin .add (.t 24) (ki 1),
 oo 24 <| .mv (.t 33)]
def lQiX0 : C := (.seq (.reg rQiX6 false [] [4, 6, 22, 23, 24, 25]) (.seq (.cond (.t 25) .skip (.exit 0)) (.seq (.blk 1 (.seq (.reg rQiX7 false [] [4, 6, 8, 22, 23, 24]) (.reg rQiX8 false [] [4, 6, 22, 23, 24]))) (.reg rQiX9 false [] [4, 6, 22, 23, 24]))))
def rQiX10 : List O := [
 oo 34 <| .mv (.t 4),
 oo 35 <| .call nQy [(.t 34)],
 oo 36 <| .bin .add (.t 35) (ki 1),
 oo 37 <| .asl 64 (.t 6) (some (.t 36)),
 oo 38 <| .call nQx [(.t 37)],
 oo 2 <| .mv (.t 38),
 oo 3 <| .mv (ki 0)]
def cQi : C := (.seq (.reg rQiX0 false [] [1]) (.seq (.reg rQiX1 false [] [4, 5]) (.seq (.seq (.reg rQiX2 false [] [4, 5, 20]) (.cond (.t 20) (.seq (.reg rQiX3 false [] [2, 3]) .ret) .skip)) (.seq (.reg rQiX4 false [] [4, 6]) (.seq (.seq (.reg rQiX5 false [] [4, 6, 22, 23, 24]) (.blk 0 (.loop lQiX0))) (.seq (.reg rQiX10 false [] [2, 3]) .ret))))))
def qQi : AFn := ⟨39, 1, [.t 2, .t 3], cQi⟩
/- cohesion/cohesionref09.Histogram -/
def rQjX0 : List O := [
 oo 1 <| .box (.t 0),
 oo 2 <| .mv (.k (.own 1 [])),
 oo 3 <| .mv (ki 0)]
def rQjX1 : List O := [
 oo 10 <| .ld (some 2) (.t 1),
 oo 11 <| .call nQf [(.t 10)],
 oo 9 <| .mv (.t 11),
 oo 12 <| .ext 0 (.t 9),
 oo 13 <| .ext 1 (.t 9),
 oo 4 <| .mv (.t 12),
 oo 5 <| .mv (.t 13)]
def rQjX2 : List O := [
 oo 14 <| .mv (.t 5),
 oo 15 <| .bin .neq (.t 14) (ki 0),
 oo 16 <| .mv (.t 15),
 ⟨(some 17), (some (16, false)), .mv (.t 4)⟩,
 ⟨(some 18), (some (16, false)), .len (.t 17)⟩,
 ⟨(some 19), (some (16, false)), .bin .eql (.t 18) (ki 0)⟩,
 oo 20 <| .pick (.t 16) (.k (.bool true)) (.t 19)]
def rQjX3 : List O := [
 oo 21 <| .mv (.t 5),
 oo 2 <| .mv (.k (.own 1 [])),
 oo 3 <| .mv (.t 21)]
def rQjX4 : List O := [
 oo 22 <| .mv (.t 4),
 oo 23 <| .call nQw [(.t 22)],
 oo 24 <| .ixa 1 (.t 23) (ki 0),
 oo 25 <| .ld none (.t 24),
 oo 26 <| .bin .add (.t 25) (ki 1),
 oo 27 <| .mks 1 [(.int .i64 0)] (.t 26) (.t 26),
 oo 6 <| .mv (.t 27)]
def rQjX5 : List O := [
 oo 28 <| .mv (.t 4),
 oo 29 <| .len (.t 28),
 oo 30 <| .mv (ki 0)]
def rQjX6 : List O := [
 oo 31 <| .bin .lss (.t 30) (.t 29)]
def rQjX7 : List O := [
 oo 32 <| .ixa 1 (.t 28) (.t 30),
 oo 33 <| .ld none (.t 32),
 oo 8 <| .mv (.t 33)]
def rQjX8 : List O := [
 oo 34 <| .mv (.t 6),
 oo 35 <| .mv (.t 8),
 oo 36 <| .ixa 1 (.t 34) (.t 35),
 oo 37 <| .ld none (.t 36),
 oo 38 <| .bin .add (.t 37) (ki 1),
 oo 39 <| .ixa 1 (.t 34) (.t 35),
 oz <| .st 1 (.t 39) (.t 38)]
def rQjX9 : List O := [
 oo 40 <| .bin .add (.t 30) (ki 1),
 oo 30 <| .mv (.t 40)]
def lQjX0 : C := (.seq (.reg rQjX6 false [] [6, 28, 29, 30, 31]) (.seq (.cond (.t 31) .skip (.exit 0)) (.seq (.blk 1 (.seq (.reg rQjX7 false [] [6, 8, 28, 29, 30]) (.reg rQjX8 false [] [6, 28, 29, 30]))) (.reg rQjX9 false [] [6, 28, 29, 30]))))
def rQjX10 : List O := [
 oo 41 <| .mv (.t 6),
 oo 2 <| .mv (.t 41),
 oo 3 <| .mv (ki 0)]
def cQj : C := (.seq (.reg rQjX0 false [] [1]) (.seq (.reg rQjX1 false [] [4, 5]) (.seq (.seq (.reg rQjX2 false [] [4, 5, 20]) (.cond (.t 20) (.seq (.reg rQjX3 false [] [2, 3]) .ret) .skip)) (.seq (.reg rQjX4 false [] [4, 6]) (.seq (.seq (.reg rQjX5 false [] [6, 28, 29, 30]) (.blk 0 (.loop lQjX0))) (.seq (.reg rQjX10 false [] [2, 3]) .ret))))))
def qQj : AFn := ⟨42, 1, [.t 2, .t 3], cQj⟩
/- cohesion/cohesionref02.Same -/
def rQkX0 : List O := [
 oo 4 <| .mv (.k (.bool false))]
def rQkX1 : List O := [
 oo 5 <| .mv (.t 0),
 oo 6 <| .len (.t 5),
 oo 7 <| .mv (.t 1),
 oo 8 <| .len (.t 7),
 oo 9 <| .bin .eql (.t 6) (.t 8),
 oo 10 <| .mv (.t 9),
 ⟨(some 11), (some (10, true)), .mv (.t 0)⟩,
 ⟨(some 12), (some (10, true)), .mv (.t 1)⟩,
 ⟨(some 13), (some (10, true)), .call nQz [(.t 11), (.t 12)]⟩,
 ⟨(some 14), (some (10, true)), .bin .eql (.t 13) (ki 0)⟩,
 oo 15 <| .pick (.t 10) (.t 14) (.k (.bool false)),
 oo 4 <| .mv (.t 15)]
def cQk : C := (.seq (.reg rQkX0 false [] [0, 1]) (.seq (.reg rQkX1 false [] [4]) .ret))
def qQk : AFn := ⟨16, 2, [.t 4], cQk⟩
/- cohesion/degree.H -/
def rQlX0 : List O := [
 oo 2 <| .mv (ki 0)]
def rQlX1 : List O := [
 oo 4 <| .mv (.t 0),
 oo 5 <| .call nQx [(.t 4)],
 oo 0 <| .mv (.t 5)]
def rQlX2 : List O := [
 oo 6 <| .mv (.t 0),
 oo 7 <| .call nQu [(.t 6)]]
def rQlX3 : List O := [
 oo 3 <| .mv (ki 0)]
def rQlX4 : List O := [
 oo 8 <| .mv (.t 3),
 oo 9 <| .mv (.t 0),
 oo 10 <| .len (.t 9),
 oo 11 <| .bin .lss (.t 8) (.t 10),
 oo 12 <| .mv (.t 11),
 ⟨(some 13), (some (12, true)), .mv (.t 0)⟩,
 ⟨(some 14), (some (12, true)), .mv (.t 0)⟩,
 ⟨(some 15), (some (12, true)), .len (.t 14)⟩,
 ⟨(some 16), (some (12, true)), .bin .sub (.t 15) (ki 1)⟩,
 ⟨(some 17), (some (12, true)), .mv (.t 3)⟩,
 ⟨(some 18), (some (12, true)), .bin .sub (.t 16) (.t 17)⟩,
 ⟨(some 19), (some (12, true)), .ixa 1 (.t 13) (.t 18)⟩,
 ⟨(some 20), (some (12, true)), .ld none (.t 19)⟩,
 ⟨(some 21), (some (12, true)), .mv (.t 3)⟩,
 ⟨(some 22), (some (12, true)), .bin .gtr (.t 20) (.t 21)⟩,
 oo 23 <| .pick (.t 12) (.t 22) (.k (.bool false))]
def rQlX5 : List O := [
 oo 24 <| .mv (.t 3),
 oo 25 <| .bin .add (.t 24) (ki 1),
 oo 3 <| .mv (.t 25)]
def lQlX0 : C := (.seq (.seq (.reg rQlX4 false [] [0, 3, 23]) (.cond (.t 23) .skip (.exit 0))) (.blk 1 (.reg rQlX5 false [] [0, 3])))
def rQlX6 : List O := [
 oo 26 <| .mv (.t 3),
 oo 2 <| .mv (.t 26)]
def cQl : C := (.seq (.reg rQlX0 false [] [0]) (.seq (.reg rQlX1 false [] [0]) (.seq (.reg rQlX2 false [] [0]) (.seq (.reg rQlX3 false [] [0, 3]) (.seq (.blk 0 (.loop lQlX0)) (.seq (.reg rQlX6 false [] [2]) .ret))))))
def qQl : AFn := ⟨27, 1, [.t 2], cQl⟩
/- cohesion/cohesionref09.H -/
def rQmX0 : List O := [
 oo 2 <| .mv (ki 0)]
def rQmX1 : List O := [
 oo 3 <| .mv (ki 0)]
def rQmX2 : List O := [
 oo 6 <| .mv (.t 0),
 oo 7 <| .call nQw [(.t 6)],
 oo 8 <| .len (.t 7),
 oo 9 <| .mv (ki 0)]
def rQmX3 : List O := [
 oo 10 <| .bin .lss (.t 9) (.t 8)]
def rQmX4 : List O := [
 oo 11 <| .mv (.t 9),
 oo 12 <| .ixa 1 (.t 7) (.t 9),
 oo 13 <| .ld none (.t 12),
 oo 4 <| .mv (.t 11),
 oo 5 <| .mv (.t 13)]
def rQmX5 : List O := [
 oo 14 <| .mv (.t 5),
 oo 15 <| .mv (.t 4),
 oo 16 <| .bin .add (.t 15) (ki 1),
 oo 17 <| .bin .geq (.t 14) (.t 16)]
def rQmX6 : List O := [
 oo 18 <| .mv (.t 4),
 oo 19 <| .bin .add (.t 18) (ki 1),
 oo 3 <| .mv (.t 19)]
def rQmX7 : List O := [
 oo 20 <| .bin .add (.t 9) (ki 1),
 oo 9 <| .mv (.t 20)]
def lQmX0 : C := (.seq (.reg rQmX3 false [] [3, 7, 8, 9, 10]) (.seq (.cond (.t 10) .skip (.exit 0)) (.seq (.blk 1 (.seq (.reg rQmX4 false [] [3, 4, 5, 7, 8, 9]) (.seq (.reg rQmX5 false [] [3, 4, 7, 8, 9, 17]) (.cond (.t 17) (.reg rQmX6 false [] [3, 7, 8, 9]) .skip)))) (.reg rQmX7 false [] [3, 7, 8, 9]))))
def rQmX8 : List O := [
 oo 21 <| .mv (.t 3),
 oo 2 <| .mv (.t 21)]
def cQm : C := (.seq (.reg rQmX0 false [] [0]) (.seq (.reg rQmX1 false [] [0, 3]) (.seq (.seq (.reg rQmX2 false [] [3, 7, 8, 9]) (.blk 0 (.loop lQmX0))) (.seq (.reg rQmX8 false [] [2]) .ret))))
def qQm : AFn := ⟨22, 1, [.t 2], cQm⟩
/- cohesion/degree.Graphic -/
def rQnX0 : List O := [
 oo 2 <| .mv (.k (.bool false))]
def rQnX1 : List O := [
 oo 5 <| .mv (.t 0),
 oo 6 <| .len (.t 5),
 oo 7 <| .bin .gtr (.t 6) (ki 64)]
def rQnX2 : List O := [
 oo 2 <| .mv (.k (.bool false))]
def rQnX3 : List O := [
 oo 9 <| .mv (.t 0),
 oo 10 <| .call 29 [(.t 9)],
 oo 8 <| .mv (.t 10),
 oo 11 <| .ext 0 (.t 8),
 oo 12 <| .ext 1 (.t 8),
 oo 3 <| .mv (.t 11),
 oo 4 <| .mv (.t 12)]
def rQnX4 : List O := [
 oo 13 <| .mv (.t 4),
 oo 2 <| .mv (.t 13)]
def cQn : C := (.seq (.reg rQnX0 false [] [0]) (.seq (.seq (.reg rQnX1 false [] [0, 7]) (.cond (.t 7) (.seq (.reg rQnX2 false [] [2]) .ret) .skip)) (.seq (.reg rQnX3 false [] [4]) (.seq (.reg rQnX4 false [] [2]) .ret))))
def qQn : AFn := ⟨14, 1, [.t 2], cQn⟩
/- (*cohesion/cohesionmake.Deck).Next -/
def rQoX0 : List O := [
 oo 4 <| .mv (ki 0)]
def rQoX1 : List O := [
 oo 6 <| .mv (.t 1),
 oo 7 <| .bin .lss (.t 6) (ki 1),
 oo 8 <| .mv (.t 7),
 ⟨(some 9), (some (8, false)), .mv (.t 0)⟩,
 ⟨(some 10), (some (8, false)), .nilck (.t 9)⟩,
 ⟨(some 11), (some (8, false)), .fad 1 (.t 10)⟩,
 ⟨(some 12), (some (8, false)), .ld none (.t 11)⟩,
 ⟨(some 13), (some (8, false)), .mv (.t 0)⟩,
 ⟨(some 14), (some (8, false)), .nilck (.t 13)⟩,
 ⟨(some 15), (some (8, false)), .fad 0 (.t 14)⟩,
 ⟨(some 16), (some (8, false)), .ld none (.t 15)⟩,
 ⟨(some 17), (some (8, false)), .len (.t 16)⟩,
 ⟨(some 18), (some (8, false)), .bin .geq (.t 12) (.t 17)⟩,
 oo 19 <| .pick (.t 8) (.k (.bool true)) (.t 18)]
def rQoX2 : List O := [
 oo 4 <| .mv (ki 0)]
def rQoX3 : List O := [
 oo 20 <| .mv (.t 0),
 oo 21 <| .nilck (.t 20),
 oo 22 <| .fad 0 (.t 21),
 oo 23 <| .ld none (.t 22),
 oo 24 <| .mv (.t 0),
 oo 25 <| .nilck (.t 24),
 oo 26 <| .fad 1 (.t 25),
 oo 27 <| .ld none (.t 26),
 oo 28 <| .ixa 1 (.t 23) (.t 27),
 oo 29 <| .ld none (.t 28),
 oo 5 <| .mv (.t 29)]
def rQoX4 : List O := [
 oo 30 <| .mv (.t 0),
 oo 31 <| .nilck (.t 30),
 oo 32 <| .fad 1 (.t 31),
 oo 33 <| .ld none (.t 32),
 oo 34 <| .bin .add (.t 33) (ki 1),
 oo 35 <| .nilck (.t 30),
 oo 36 <| .fad 1 (.t 35),
 oz <| .st 1 (.t 36) (.t 34)]
def rQoX5 : List O := [
 oo 37 <| .mv (.t 5),
 oo 38 <| .mv (.t 1),
 oo 39 <| .call nQA [(.t 37), (.t 38)],
 oo 4 <| .mv (.t 39)]
def cQo : C := (.seq (.reg rQoX0 false [] [0, 1]) (.seq (.seq (.reg rQoX1 true [(0, 0), (1, 1), (2, 2), (12, 12), (13, 13), (6, 7), (6, 8), (6, 9), (3, 10), (4, 10), (5, 10), (6, 10), (6, 11)] [0, 1, 19]) (.cond (.t 19) (.seq (.reg rQoX2 false [] [4]) .ret) .skip)) (.seq (.reg rQoX3 true [(8, 8), (9, 9), (10, 10), (3, 4), (3, 5), (3, 6), (0, 7), (1, 7), (2, 7), (3, 7)] [0, 1, 5]) (.seq (.reg rQoX4 false [] [1, 5]) (.seq (.reg rQoX5 false [] [4]) .ret)))))
def qQo : AFn := ⟨40, 2, [.t 4], cQo⟩
/- cohesion/graph.Check -/
def rQpX0 : List O := [
 oo 1 <| .box (.t 0),
 oo 2 <| .mv (ki 0)]
def rQpX1 : List O := [
 oo 5 <| .fad 0 (.t 1),
 oo 6 <| .ld none (.t 5),
 oo 7 <| .bin .lss (.t 6) (ki 0),
 oo 8 <| .mv (.t 7),
 ⟨(some 9), (some (8, false)), .fad 0 (.t 1)⟩,
 ⟨(some 10), (some (8, false)), .ld none (.t 9)⟩,
 ⟨(some 11), (some (8, false)), .bin .gtr (.t 10) (ki 64)⟩,
 oo 12 <| .pick (.t 8) (.k (.bool true)) (.t 11)]
def rQpX2 : List O := [
 oo 2 <| .mv (ki 1)]
def rQpX3 : List O := [
 oo 13 <| .fad 1 (.t 1),
 oo 14 <| .ld none (.t 13),
 oo 15 <| .len (.t 14),
 oo 16 <| .mv (ki 0)]
def rQpX4 : List O := [
 oo 17 <| .bin .lss (.t 16) (.t 15)]
def rQpX5 : List O := [
 oo 18 <| .mv (.t 16),
 oo 19 <| .ixa 2 (.t 14) (.t 16),
 oo 20 <| .ld (some 2) (.t 19),
 oo 4 <| .new [(.int .i64 0), (.int .i64 0)],
 oo 3 <| .mv (.t 18),
 oz <| .st 2 (.t 4) (.t 20)]
def rQpX6 : List O := [
 oo 22 <| .fad 0 (.t 4),
 oo 23 <| .ld none (.t 22),
 oo 24 <| .bin .lss (.t 23) (ki 0),
 oo 25 <| .mv (.t 24),
 ⟨(some 26), (some (25, false)), .fad 0 (.t 4)⟩,
 ⟨(some 27), (some (25, false)), .ld none (.t 26)⟩,
 ⟨(some 28), (some (25, false)), .fad 1 (.t 4)⟩,
 ⟨(some 29), (some (25, false)), .ld none (.t 28)⟩,
 ⟨(some 30), (some (25, false)), .bin .geq (.t 27) (.t 29)⟩,
 oo 31 <| .pick (.t 25) (.k (.bool true)) (.t 30),
 oo 32 <| .mv (.t 31),
 ⟨(some 33), (some (32, false)), .fad 1 (.t 4)⟩,
 ⟨(some 34), (some (32, false)), .ld none (.t 33)⟩,
 ⟨(some 35), (some (32, false)), .fad 0 (.t 1)⟩,
 ⟨(some 36), (some (32, false)), .ld none (.t 35)⟩,
 ⟨(some 37), (some (32, false)), .bin .geq (.t 34) (.t 36)⟩,
 oo 38 <| .pick (.t 32) (.k (.bool true)) (.t 37),
 oo 21 <| .mv (.t 38)]
def rQpX7 : List O := [
 oo 2 <| .mv (ki 6)]
def rQpX8 : List O := [
 oo 40 <| .mv (.t 3),
 oo 41 <| .bin .gtr (.t 40) (ki 0),
 oo 42 <| .mv (.t 41),
 ⟨(some 43), (some (42, true)), .fad 1 (.t 1)⟩,
 ⟨(some 44), (some (42, true)), .ld none (.t 43)⟩,
 ⟨(some 45), (some (42, true)), .mv (.t 3)⟩,
 ⟨(some 46), (some (42, true)), .bin .sub (.t 45) (ki 1)⟩,
 ⟨(some 47), (some (42, true)), .ixa 2 (.t 44) (.t 46)⟩,
 ⟨(some 48), (some (42, true)), .ld (some 2) (.t 47)⟩,
 ⟨(some 49), (some (42, true)), .ld (some 2) (.t 4)⟩,
 ⟨(some 50), (some (42, true)), .call nQB [(.t 48), (.t 49)]⟩,
 ⟨(some 51), (some (42, true)), .bin .geq (.t 50) (ki 0)⟩,
 oo 52 <| .pick (.t 42) (.t 51) (.k (.bool false)),
 oo 39 <| .mv (.t 52)]
def rQpX9 : List O := [
 oo 2 <| .mv (ki 5)]
def rQpX10 : List O := [
 oo 53 <| .bin .add (.t 16) (ki 1),
 oo 16 <| .mv (.t 53)]
def lQpX0 : C := (.seq (.reg rQpX4 false [] [1, 14, 15, 16, 17]) (.seq (.cond (.t 17) .skip (.exit 0)) (.seq (.blk 1 (.seq (.reg rQpX5 false [] [1, 3, 4, 14, 15, 16]) (.blk 2 (.seq (.reg rQpX6 false [] [1, 3, 4, 14, 15, 16, 21]) (.cond (.t 21) (.seq (.reg rQpX7 false [] [2]) .ret) (.seq (.reg rQpX8 true [(0, 0), (1, 1), (2, 2), (10, 10), (11, 11), (12, 12), (13, 13), (4, 5), (4, 6), (3, 9), (4, 9), (5, 9), (6, 9), (7, 9), (8, 9)] [1, 14, 15, 16, 39]) (.cond (.t 39) (.seq (.reg rQpX9 false [] [2]) .ret) .skip))))))) (.reg rQpX10 false [] [1, 14, 15, 16]))))
def rQpX11 : List O := [
 oo 2 <| .mv (ki 0)]
def cQp : C := (.seq (.reg rQpX0 false [] [1]) (.seq (.seq (.reg rQpX1 false [] [1, 12]) (.cond (.t 12) (.seq (.reg rQpX2 false [] [2]) .ret) .skip)) (.seq (.seq (.reg rQpX3 false [] [1, 14, 15, 16]) (.blk 0 (.loop lQpX0))) (.seq (.reg rQpX11 false [] [2]) .ret))))
def qQp : AFn := ⟨54, 1, [.t 2], cQp⟩
/- cohesion/masks.Rows -/
def rQqX0 : List O := [
 oo 1 <| .box (.t 0),
 oo 2 <| .mv (.k (.own 1 []))]
def rQqX1 : List O := [
 oo 6 <| .fad 0 (.t 1),
 oo 7 <| .ld none (.t 6),
 oo 8 <| .max [(.t 7), (ki 0)],
 oo 9 <| .min [(.t 8), (ki 64)],
 oo 10 <| .mks 1 [(.int .u64 0)] (.t 9) (.t 9),
 oo 3 <| .mv (.t 10)]
def rQqX2 : List O := [
 oo 11 <| .fad 1 (.t 1),
 oo 12 <| .ld none (.t 11),
 oo 13 <| .len (.t 12),
 oo 14 <| .mv (ki 0)]
def rQqX3 : List O := [
 oo 15 <| .bin .lss (.t 14) (.t 13)]
def rQqX4 : List O := [
 oo 16 <| .ixa 2 (.t 12) (.t 14),
 oo 17 <| .ld (some 2) (.t 16),
 oo 5 <| .new [(.int .i64 0), (.int .i64 0)],
 oz <| .st 2 (.t 5) (.t 17)]
def rQqX5 : List O := [
 oo 18 <| .fad 0 (.t 5),
 oo 19 <| .ld none (.t 18),
 oo 20 <| .bin .geq (.t 19) (ki 0),
 oo 21 <| .mv (.t 20),
 ⟨(some 22), (some (21, true)), .fad 0 (.t 5)⟩,
 ⟨(some 23), (some (21, true)), .ld none (.t 22)⟩,
 ⟨(some 24), (some (21, true)), .fad 1 (.t 5)⟩,
 ⟨(some 25), (some (21, true)), .ld none (.t 24)⟩,
 ⟨(some 26), (some (21, true)), .bin .lss (.t 23) (.t 25)⟩,
 oo 27 <| .pick (.t 21) (.t 26) (.k (.bool false)),
 oo 28 <| .mv (.t 27),
 ⟨(some 29), (some (28, true)), .fad 1 (.t 5)⟩,
 ⟨(some 30), (some (28, true)), .ld none (.t 29)⟩,
 ⟨(some 31), (some (28, true)), .mv (.t 3)⟩,
 ⟨(some 32), (some (28, true)), .len (.t 31)⟩,
 ⟨(some 33), (some (28, true)), .bin .lss (.t 30) (.t 32)⟩,
 oo 34 <| .pick (.t 28) (.t 33) (.k (.bool false))]
def rQqX6 : List O := [
 oo 35 <| .mv (.t 3),
 oo 36 <| .fad 0 (.t 5),
 oo 37 <| .ld none (.t 36),
 oo 38 <| .ixa 1 (.t 35) (.t 37),
 oo 39 <| .ld none (.t 38),
 oo 40 <| .fad 1 (.t 5),
 oo 41 <| .ld none (.t 40),
 oo 42 <| .bin .shl (.k (.int .u64 1)) (.t 41),
 oo 43 <| .bin .or (.t 39) (.t 42),
 oo 44 <| .ixa 1 (.t 35) (.t 37),
 oz <| .st 1 (.t 44) (.t 43)]
def rQqX7 : List O := [
 oo 45 <| .mv (.t 3),
 oo 46 <| .fad 1 (.t 5),
 oo 47 <| .ld none (.t 46),
 oo 48 <| .ixa 1 (.t 45) (.t 47),
 oo 49 <| .ld none (.t 48),
 oo 50 <| .fad 0 (.t 5),
 oo 51 <| .ld none (.t 50),
 oo 52 <| .bin .shl (.k (.int .u64 1)) (.t 51),
 oo 53 <| .bin .or (.t 49) (.t 52),
 oo 54 <| .ixa 1 (.t 45) (.t 47),
 oz <| .st 1 (.t 54) (.t 53)]
def rQqX8 : List O := [
 oo 55 <| .bin .add (.t 14) (ki 1),
 oo 14 <| .mv (.t 55)]
def lQqX0 : C := (.seq (.reg rQqX3 false [] [3, 12, 13, 14, 15]) (.seq (.cond (.t 15) .skip (.exit 0)) (.seq (.blk 1 (.seq (.reg rQqX4 false [] [3, 5, 12, 13, 14]) (.seq (.reg rQqX5 false [] [3, 5, 12, 13, 14, 34]) (.cond (.t 34) (.seq (.reg rQqX6 true [(8, 8), (9, 9), (10, 10), (0, 2), (2, 5), (4, 5), (0, 6), (1, 6), (2, 6), (3, 6), (4, 6), (2, 7), (4, 7)] [3, 5, 12, 13, 14]) (.reg rQqX7 true [(8, 8), (9, 9), (10, 10), (0, 2), (2, 5), (4, 5), (0, 6), (1, 6), (2, 6), (3, 6), (4, 6), (2, 7), (4, 7)] [3, 12, 13, 14])) .skip)))) (.reg rQqX8 false [] [3, 12, 13, 14]))))
def rQqX9 : List O := [
 oo 56 <| .mv (.t 3),
 oo 2 <| .mv (.t 56)]
def cQq : C := (.seq (.reg rQqX0 false [] [1]) (.seq (.reg rQqX1 false [] [1, 3]) (.seq (.seq (.reg rQqX2 false [] [3, 12, 13, 14]) (.blk 0 (.loop lQqX0))) (.seq (.reg rQqX9 false [] [2]) .ret))))
def qQq : AFn := ⟨57, 1, [.t 2], cQq⟩
/- cohesion/masks.Count -/
def rQrX0 : List O := [
 oo 2 <| .mv (ki 0)]
def rQrX1 : List O := [
 oo 3 <| .mv (.t 0),
 oo 4 <| .call nQC [(.t 3)],
 oo 2 <| .mv (.t 4)]
def cQr : C := (.seq (.reg rQrX0 false [] [0]) (.seq (.reg rQrX1 false [] [2]) .ret))
def qQr : AFn := ⟨5, 1, [.t 2], cQr⟩
/- cohesion/cohesionref03.Check -/
def rQsX0 : List O := [
 oo 1 <| .box (.t 0),
 oo 2 <| .mv (ki 0)]
def rQsX1 : List O := [
 oo 5 <| .fad 0 (.t 1),
 oo 6 <| .ld none (.t 5),
 oo 7 <| .bin .lss (.t 6) (ki 0),
 oo 8 <| .mv (.t 7),
 ⟨(some 9), (some (8, false)), .fad 0 (.t 1)⟩,
 ⟨(some 10), (some (8, false)), .ld none (.t 9)⟩,
 ⟨(some 11), (some (8, false)), .bin .gtr (.t 10) (ki 64)⟩,
 oo 12 <| .pick (.t 8) (.k (.bool true)) (.t 11)]
def rQsX2 : List O := [
 oo 2 <| .mv (ki 1)]
def rQsX3 : List O := [
 oo 13 <| .fad 1 (.t 1),
 oo 14 <| .ld none (.t 13),
 oo 15 <| .len (.t 14),
 oo 16 <| .mv (ki 0)]
def rQsX4 : List O := [
 oo 17 <| .bin .lss (.t 16) (.t 15)]
def rQsX5 : List O := [
 oo 18 <| .mv (.t 16),
 oo 19 <| .ixa 2 (.t 14) (.t 16),
 oo 20 <| .ld (some 2) (.t 19),
 oo 4 <| .new [(.int .i64 0), (.int .i64 0)],
 oo 3 <| .mv (.t 18),
 oz <| .st 2 (.t 4) (.t 20)]
def rQsX6 : List O := [
 oo 21 <| .fad 0 (.t 4),
 oo 22 <| .ld none (.t 21),
 oo 23 <| .bin .lss (.t 22) (ki 0),
 oo 24 <| .mv (.t 23),
 ⟨(some 25), (some (24, false)), .fad 0 (.t 4)⟩,
 ⟨(some 26), (some (24, false)), .ld none (.t 25)⟩,
 ⟨(some 27), (some (24, false)), .fad 1 (.t 4)⟩,
 ⟨(some 28), (some (24, false)), .ld none (.t 27)⟩,
 ⟨(some 29), (some (24, false)), .bin .geq (.t 26) (.t 28)⟩,
 oo 30 <| .pick (.t 24) (.k (.bool true)) (.t 29),
 oo 31 <| .mv (.t 30),
 ⟨(some 32), (some (31, false)), .fad 1 (.t 4)⟩,
 ⟨(some 33), (some (31, false)), .ld none (.t 32)⟩,
 ⟨(some 34), (some (31, false)), .fad 0 (.t 1)⟩,
 ⟨(some 35), (some (31, false)), .ld none (.t 34)⟩,
 ⟨(some 36), (some (31, false)), .bin .geq (.t 33) (.t 35)⟩,
 oo 37 <| .pick (.t 31) (.k (.bool true)) (.t 36)]
def rQsX7 : List O := [
 oo 2 <| .mv (ki 6)]
def rQsX8 : List O := [
 oo 38 <| .mv (.t 3),
 oo 39 <| .bin .gtr (.t 38) (ki 0),
 oo 40 <| .mv (.t 39),
 ⟨(some 41), (some (40, true)), .fad 1 (.t 1)⟩,
 ⟨(some 42), (some (40, true)), .ld none (.t 41)⟩,
 ⟨(some 43), (some (40, true)), .mv (.t 3)⟩,
 ⟨(some 44), (some (40, true)), .bin .sub (.t 43) (ki 1)⟩,
 ⟨(some 45), (some (40, true)), .ixa 2 (.t 42) (.t 44)⟩,
 ⟨(some 46), (some (40, true)), .ld (some 2) (.t 45)⟩,
 ⟨(some 47), (some (40, true)), .ld (some 2) (.t 4)⟩,
 ⟨(some 48), (some (40, true)), .call nQD [(.t 46), (.t 47)]⟩,
 ⟨(some 49), (some (40, true)), .un .not (.t 48)⟩,
 oo 50 <| .pick (.t 40) (.t 49) (.k (.bool false))]
def rQsX9 : List O := [
 oo 2 <| .mv (ki 5)]
def rQsX10 : List O := [
 oo 51 <| .bin .add (.t 16) (ki 1),
 oo 16 <| .mv (.t 51)]
def lQsX0 : C := (.seq (.reg rQsX4 false [] [1, 14, 15, 16, 17]) (.seq (.cond (.t 17) .skip (.exit 0)) (.seq (.blk 1 (.seq (.reg rQsX5 false [] [1, 3, 4, 14, 15, 16]) (.seq (.seq (.reg rQsX6 false [] [1, 3, 4, 14, 15, 16, 37]) (.cond (.t 37) (.seq (.reg rQsX7 false [] [2]) .ret) .skip)) (.seq (.reg rQsX8 true [(0, 0), (1, 1), (2, 2), (10, 10), (11, 11), (12, 12), (4, 5), (4, 6), (3, 9), (4, 9), (5, 9), (6, 9), (7, 9), (8, 9)] [1, 14, 15, 16, 50]) (.cond (.t 50) (.seq (.reg rQsX9 false [] [2]) .ret) .skip))))) (.reg rQsX10 false [] [1, 14, 15, 16]))))
def rQsX11 : List O := [
 oo 2 <| .mv (ki 0)]
def cQs : C := (.seq (.reg rQsX0 false [] [1]) (.seq (.seq (.reg rQsX1 false [] [1, 12]) (.cond (.t 12) (.seq (.reg rQsX2 false [] [2]) .ret) .skip)) (.seq (.seq (.reg rQsX3 false [] [1, 14, 15, 16]) (.blk 0 (.loop lQsX0))) (.seq (.reg rQsX11 false [] [2]) .ret))))
def qQs : AFn := ⟨52, 1, [.t 2], cQs⟩
/- cohesion/cohesionref03.Degree -/
def rQtX0 : List O := [
 oo 2 <| .box (.t 0),
 oo 4 <| .mv (ki 0)]
def rQtX1 : List O := [
 oo 5 <| .ld (some 2) (.t 2),
 oo 6 <| .mv (.t 1),
 oo 7 <| .call nQE [(.t 5), (.t 6)],
 oo 8 <| .len (.t 7),
 oo 4 <| .mv (.t 8)]
def cQt : C := (.seq (.reg rQtX0 false [] [1, 2]) (.seq (.reg rQtX1 false [] [4]) .ret))
def qQt : AFn := ⟨9, 2, [.t 4], cQt⟩
/- slices.Sort[[]int,int] -/
def rQuX0 : List O := [
 oo 3 <| .mv (.t 0),
 oo 4 <| .len (.t 3),
 oo 2 <| .mv (.t 4)]
def rQuX1 : List O := [
 oo 5 <| .mv (.t 0),
 oo 6 <| .mv (.t 2),
 oo 7 <| .mv (.t 2),
 oo 8 <| .cvt .u64 (.t 7),
 oo 9 <| .call 36 [(.t 8)],
 oo 10 <| .call 35 [(.t 5), (ki 0), (.t 6), (.t 9)]]
def cQu : C := (.seq (.reg rQuX0 false [] [0, 2]) (.reg rQuX1 false [] []))
def qQu : AFn := ⟨11, 1, [], cQu⟩
/- slices.Reverse[[]int,int] -/
def rQvX0 : List O := [
 oo 4 <| .mv (.t 0),
 oo 5 <| .len (.t 4),
 oo 6 <| .bin .sub (.t 5) (ki 1),
 oo 2 <| .mv (ki 0),
 oo 3 <| .mv (.t 6)]
def rQvX1 : List O := [
 oo 7 <| .mv (.t 2),
 oo 8 <| .mv (.t 3),
 oo 9 <| .bin .lss (.t 7) (.t 8)]
def rQvX2 : List O := [
 oo 14 <| .mv (.t 0),
 oo 15 <| .mv (.t 2),
 oo 16 <| .mv (.t 0),
 oo 17 <| .mv (.t 3),
 oo 18 <| .mv (.t 0),
 oo 19 <| .mv (.t 3),
 oo 20 <| .ixa 1 (.t 18) (.t 19),
 oo 21 <| .ld none (.t 20),
 oo 22 <| .mv (.t 0),
 oo 23 <| .mv (.t 2),
 oo 24 <| .ixa 1 (.t 22) (.t 23),
 oo 25 <| .ld none (.t 24),
 oo 26 <| .ixa 1 (.t 14) (.t 15),
 oz <| .st 1 (.t 26) (.t 21),
 oo 27 <| .ixa 1 (.t 16) (.t 17),
 oz <| .st 1 (.t 27) (.t 25)]
def rQvX3 : List O := [
 oo 10 <| .mv (.t 2),
 oo 11 <| .bin .add (.t 10) (ki 1),
 oo 12 <| .mv (.t 3),
 oo 13 <| .bin .sub (.t 12) (ki 1),
 oo 2 <| .mv (.t 11),
 oo 3 <| .mv (.t 13)]
def lQvX0 : C := (.seq (.seq (.reg rQvX1 false [] [0, 2, 3, 9]) (.cond (.t 9) .skip (.exit 0))) (.seq (.blk 1 (.reg rQvX2 true [(14, 14), (15, 15), (0, 7), (1, 7), (2, 7), (3, 7), (7, 8), (7, 9), (7, 10), (0, 11), (1, 11), (2, 11), (3, 11), (4, 11), (5, 11), (6, 11), (7, 11), (2, 13), (3, 13)] [0, 2, 3])) (.reg rQvX3 false [] [0, 2, 3])))
def cQv : C := (.seq (.reg rQvX0 false [] [0, 2, 3]) (.blk 0 (.loop lQvX0)))
def qQv : AFn := ⟨28, 1, [], cQv⟩
/- cohesion/cohesionref09.falling -/
def rQwX0 : List O := [
 oo 2 <| .mv (.k (.own 1 []))]
def rQwX1 : List O := [
 oo 3 <| .mv (.k (.own 1 []))]
def rQwX2 : List O := [
 oo 7 <| .mv (.t 0),
 oo 8 <| .len (.t 7),
 oo 9 <| .mv (ki 0)]
def rQwX3 : List O := [
 oo 10 <| .bin .lss (.t 9) (.t 8)]
def rQwX4 : List O := [
 oo 11 <| .ixa 1 (.t 7) (.t 9),
 oo 12 <| .ld none (.t 11),
 oo 5 <| .mv (.t 12)]
def rQwX5 : List O := [
 oo 13 <| .mv (.t 3),
 oo 14 <| .len (.t 13),
 oo 6 <| .mv (.t 14)]
def rQwX6 : List O := [
 oo 15 <| .mv (.t 6),
 oo 16 <| .bin .gtr (.t 15) (ki 0),
 oo 17 <| .mv (.t 16),
 ⟨(some 18), (some (17, true)), .mv (.t 3)⟩,
 ⟨(some 19), (some (17, true)), .mv (.t 6)⟩,
 ⟨(some 20), (some (17, true)), .bin .sub (.t 19) (ki 1)⟩,
 ⟨(some 21), (some (17, true)), .ixa 1 (.t 18) (.t 20)⟩,
 ⟨(some 22), (some (17, true)), .ld none (.t 21)⟩,
 ⟨(some 23), (some (17, true)), .mv (.t 5)⟩,
 ⟨(some 24), (some (17, true)), .bin .lss (.t 22) (.t 23)⟩,
 oo 25 <| .pick (.t 17) (.t 24) (.k (.bool false))]
def rQwX7 : List O := [
 oo 26 <| .mv (.t 6),
 oo 27 <| .bin .sub (.t 26) (ki 1),
 oo 6 <| .mv (.t 27)]
def lQwX0 : C := (.seq (.seq (.reg rQwX6 false [] [3, 5, 6, 7, 8, 9, 25]) (.cond (.t 25) .skip (.exit 2))) (.blk 3 (.reg rQwX7 false [] [3, 5, 6, 7, 8, 9])))
def rQwX8 : List O := [
 oo 28 <| .mv (.t 3),
 oo 29 <| .mv (.t 6),
 oo 30 <| .slc 1 (.t 28) none (some (.t 29)),
 oo 31 <| .mv (.t 5),
 oo 32 <| .bslice 1 1 [(.int .i64 0)] [(0, 1, (.t 31))],
 oo 33 <| .mv (.t 3),
 oo 34 <| .mv (.t 6),
 oo 35 <| .slc 1 (.t 33) (some (.t 34)) none,
 oo 36 <| .app 1 (.t 32) (.t 35),
 oo 37 <| .app 1 (.t 30) (.t 36),
 oo 3 <| .mv (.t 37)]
def rQwX9 : List O := [
 oo 38 <| .bin .add (.t 9) (ki 1),
 oo 9 <| .mv (.t 38)]
def lQwX1 : C := (.seq (.reg rQwX3 false [] [3, 7, 8, 9, 10]) (.seq (.cond (.t 10) .skip (.exit 0)) (.seq (.blk 1 (.seq (.reg rQwX4 false [] [3, 5, 7, 8, 9]) (.seq (.reg rQwX5 false [] [3, 5, 6, 7, 8, 9]) (.seq (.blk 2 (.loop lQwX0)) (.reg rQwX8 true [(9, 9), (10, 10), (0, 4), (1, 4), (2, 4), (4, 5), (4, 6), (4, 7), (0, 8), (1, 8), (2, 8)] [3, 7, 8, 9]))))) (.reg rQwX9 false [] [3, 7, 8, 9]))))
def rQwX10 : List O := [
 oo 39 <| .mv (.t 3),
 oo 2 <| .mv (.t 39)]
def cQw : C := (.seq (.reg rQwX0 false [] [0]) (.seq (.reg rQwX1 false [] [0, 3]) (.seq (.seq (.reg rQwX2 false [] [3, 7, 8, 9]) (.blk 0 (.loop lQwX1))) (.seq (.reg rQwX10 false [] [2]) .ret))))
def qQw : AFn := ⟨40, 1, [.t 2], cQw⟩
/- slices.Clone[[]int,int] -/
def rQxX0 : List O := [
 oo 2 <| .mv (.k (.own 1 []))]
def rQxX1 : List O := [
 oo 3 <| .mv (.t 0),
 oo 4 <| .eq false .nsl (.t 3) (.k (.own 1 []))]
def rQxX2 : List O := [
 oo 2 <| .mv (.k (.own 1 []))]
def rQxX3 : List O := [
 oo 5 <| .bslice 1 0 [(.int .i64 0)] [],
 oo 6 <| .mv (.t 0),
 oo 7 <| .app 1 (.t 5) (.t 6),
 oo 2 <| .mv (.t 7)]
def cQx : C := (.seq (.reg rQxX0 false [] [0]) (.seq (.seq (.reg rQxX1 false [] [0, 4]) (.cond (.t 4) (.seq (.reg rQxX2 false [] [2]) .ret) .skip)) (.seq (.reg rQxX3 false [] [2]) .ret)))
def qQx : AFn := ⟨8, 1, [.t 2], cQx⟩
/- slices.Max[[]int,int] -/
def rQyX0 : List O := [
 oo 2 <| .mv (ki 0)]
def rQyX1 : List O := [
 oo 5 <| .mv (.t 0),
 oo 6 <| .len (.t 5),
 oo 7 <| .bin .lss (.t 6) (ki 1)]
def rQyX2 : List O := [
 oo 8 <| .bad,
 oz <| .bad]
def rQyX3 : List O := [
 oo 9 <| .mv (.t 0),
 oo 10 <| .ixa 1 (.t 9) (ki 0),
 oo 11 <| .ld none (.t 10),
 oo 3 <| .mv (.t 11)]
def rQyX4 : List O := [
 oo 4 <| .mv (ki 1)]
def rQyX5 : List O := [
 oo 12 <| .mv (.t 4),
 oo 13 <| .mv (.t 0),
 oo 14 <| .len (.t 13),
 oo 15 <| .bin .lss (.t 12) (.t 14)]
def rQyX6 : List O := [
 oo 18 <| .mv (.t 3),
 oo 19 <| .mv (.t 0),
 oo 20 <| .mv (.t 4),
 oo 21 <| .ixa 1 (.t 19) (.t 20),
 oo 22 <| .ld none (.t 21),
 oo 23 <| .max [(.t 18), (.t 22)],
 oo 3 <| .mv (.t 23)]
def rQyX7 : List O := [
 oo 16 <| .mv (.t 4),
 oo 17 <| .bin .add (.t 16) (ki 1),
 oo 4 <| .mv (.t 17)]
def lQyX0 : C := (.seq (.seq (.reg rQyX5 false [] [0, 3, 4, 15]) (.cond (.t 15) .skip (.exit 0))) (.seq (.blk 1 (.reg rQyX6 false [] [0, 3, 4])) (.reg rQyX7 false [] [0, 3, 4])))
def rQyX8 : List O := [
 oo 24 <| .mv (.t 3),
 oo 2 <| .mv (.t 24)]
def cQy : C := (.seq (.reg rQyX0 false [] [0]) (.seq (.seq (.reg rQyX1 false [] [0, 7]) (.cond (.t 7) (.reg rQyX2 false [] [0]) .skip)) (.seq (.reg rQyX3 false [] [0, 3]) (.seq (.seq (.reg rQyX4 false [] [0, 3, 4]) (.blk 0 (.loop lQyX0))) (.seq (.reg rQyX8 false [] [2]) .ret)))))
def qQy : AFn := ⟨25, 1, [.t 2], cQy⟩
/- cohesion/cohesionref02.Cmp -/
def rQzX0 : List O := [
 oo 4 <| .mv (ki 0)]
def rQzX1 : List O := [
 oo 6 <| .mv (.t 0),
 oo 7 <| .len (.t 6),
 oo 8 <| .mv (ki 0)]
def rQzX2 : List O := [
 oo 9 <| .bin .lss (.t 8) (.t 7)]
def rQzX3 : List O := [
 oo 10 <| .mv (.t 8),
 oo 5 <| .mv (.t 10)]
def rQzX4 : List O := [
 oo 12 <| .mv (.t 5),
 oo 13 <| .mv (.t 1),
 oo 14 <| .len (.t 13),
 oo 15 <| .bin .geq (.t 12) (.t 14),
 oo 16 <| .mv (.t 15),
 ⟨(some 17), (some (16, false)), .mv (.t 0)⟩,
 ⟨(some 18), (some (16, false)), .mv (.t 5)⟩,
 ⟨(some 19), (some (16, false)), .ixa 1 (.t 17) (.t 18)⟩,
 ⟨(some 20), (some (16, false)), .ld none (.t 19)⟩,
 ⟨(some 21), (some (16, false)), .mv (.t 1)⟩,
 ⟨(some 22), (some (16, false)), .mv (.t 5)⟩,
 ⟨(some 23), (some (16, false)), .ixa 1 (.t 21) (.t 22)⟩,
 ⟨(some 24), (some (16, false)), .ld none (.t 23)⟩,
 ⟨(some 25), (some (16, false)), .bin .gtr (.t 20) (.t 24)⟩,
 oo 26 <| .pick (.t 16) (.k (.bool true)) (.t 25),
 oo 11 <| .mv (.t 26)]
def rQzX5 : List O := [
 oo 4 <| .mv (ki 1)]
def rQzX6 : List O := [
 oo 28 <| .mv (.t 0),
 oo 29 <| .mv (.t 5),
 oo 30 <| .ixa 1 (.t 28) (.t 29),
 oo 31 <| .ld none (.t 30),
 oo 32 <| .mv (.t 1),
 oo 33 <| .mv (.t 5),
 oo 34 <| .ixa 1 (.t 32) (.t 33),
 oo 35 <| .ld none (.t 34),
 oo 36 <| .bin .lss (.t 31) (.t 35),
 oo 27 <| .mv (.t 36)]
def rQzX7 : List O := [
 oo 4 <| .mv (.k (.int .i64 (-1)))]
def rQzX8 : List O := [
 oo 37 <| .bin .add (.t 8) (ki 1),
 oo 8 <| .mv (.t 37)]
def lQzX0 : C := (.seq (.reg rQzX2 false [] [0, 1, 7, 8, 9]) (.seq (.cond (.t 9) .skip (.exit 0)) (.seq (.blk 1 (.seq (.reg rQzX3 false [] [0, 1, 5, 7, 8]) (.blk 2 (.seq (.reg rQzX4 true [(3, 3), (4, 4), (13, 13), (14, 14), (15, 15), (8, 9), (8, 10), (8, 11), (5, 12), (6, 12), (7, 12), (8, 12)] [0, 1, 5, 7, 8, 11]) (.cond (.t 11) (.seq (.reg rQzX5 false [] [4]) .ret) (.seq (.reg rQzX6 true [(8, 8), (9, 9), (3, 4), (3, 5), (3, 6), (0, 7), (1, 7), (2, 7), (3, 7)] [0, 1, 7, 8, 27]) (.cond (.t 27) (.seq (.reg rQzX7 false [] [4]) .ret) .skip))))))) (.reg rQzX8 false [] [0, 1, 7, 8]))))
def rQzX9 : List O := [
 oo 38 <| .mv (.t 0),
 oo 39 <| .len (.t 38),
 oo 40 <| .mv (.t 1),
 oo 41 <| .len (.t 40),
 oo 42 <| .bin .lss (.t 39) (.t 41)]
def rQzX10 : List O := [
 oo 4 <| .mv (.k (.int .i64 (-1)))]
def rQzX11 : List O := [
 oo 4 <| .mv (ki 0)]
def cQz : C := (.seq (.reg rQzX0 false [] [0, 1]) (.seq (.seq (.reg rQzX1 false [] [0, 1, 7, 8]) (.blk 0 (.loop lQzX0))) (.seq (.seq (.reg rQzX9 false [] [42]) (.cond (.t 42) (.seq (.reg rQzX10 false [] [4]) .ret) .skip)) (.seq (.reg rQzX11 false [] [4]) .ret))))
def qQz : AFn := ⟨43, 2, [.t 4], cQz⟩
/- cohesion/cohesionmake.Mod -/
def rQAX0 : List O := [
 oo 4 <| .mv (ki 0)]
def rQAX1 : List O := [
 oo 5 <| .mv (.t 0),
 oo 6 <| .mv (.t 1),
 oo 7 <| .bin .rem (.t 5) (.t 6),
 oo 8 <| .mv (.t 1),
 oo 9 <| .bin .add (.t 7) (.t 8),
 oo 10 <| .mv (.t 1),
 oo 11 <| .bin .rem (.t 9) (.t 10),
 oo 4 <| .mv (.t 11)]
def cQA : C := (.seq (.reg rQAX0 false [] [0, 1]) (.seq (.reg rQAX1 false [] [4]) .ret))
def qQA : AFn := ⟨12, 2, [.t 4], cQA⟩
/- cohesion/graph.Order -/
def rQBX0 : List O := [
 oo 2 <| .box (.t 0),
 oo 3 <| .box (.t 1),
 oo 4 <| .mv (ki 0)]
def rQBX1 : List O := [
 oo 5 <| .fad 0 (.t 2),
 oo 6 <| .ld none (.t 5),
 oo 7 <| .fad 0 (.t 3),
 oo 8 <| .ld none (.t 7),
 oo 9 <| .call nQG [(.t 6), (.t 8)],
 oo 10 <| .fad 1 (.t 2),
 oo 11 <| .ld none (.t 10),
 oo 12 <| .fad 1 (.t 3),
 oo 13 <| .ld none (.t 12),
 oo 14 <| .call nQG [(.t 11), (.t 13)],
 oo 15 <| .bslice 1 2 [(.int .i64 0)] [(0, 1, (.t 9)), (1, 1, (.t 14))],
 oo 16 <| .call nQF [(.t 15)],
 oo 4 <| .mv (.t 16)]
def cQB : C := (.seq (.reg rQBX0 false [] [2, 3]) (.seq (.reg rQBX1 true [(9, 9), (10, 10), (11, 11), (12, 12), (1, 2), (0, 3), (1, 3), (1, 5), (3, 5), (4, 5), (0, 6), (1, 6), (2, 6), (3, 6), (4, 6), (1, 7), (3, 7), (4, 7), (6, 7), (0, 8), (1, 8), (2, 8), (3, 8), (4, 8), (5, 8), (6, 8)] [4]) .ret))
def qQB : AFn := ⟨17, 2, [.t 4], cQB⟩
/- math/bits.OnesCount64 -/
def rQCX0 : List O := [
 oo 2 <| .mv (ki 0)]
def rQCX1 : List O := [
 oo 3 <| .mv (.t 0),
 oo 4 <| .bin .shr (.t 3) (.k (.int .u64 1)),
 oo 5 <| .bin .and (.t 4) (.k (.int .u64 6148914691236517205)),
 oo 6 <| .mv (.t 0),
 oo 7 <| .bin .and (.t 6) (.k (.int .u64 6148914691236517205)),
 oo 8 <| .bin .add (.t 5) (.t 7),
 oo 0 <| .mv (.t 8)]
def rQCX2 : List O := [
 oo 9 <| .mv (.t 0),
 oo 10 <| .bin .shr (.t 9) (.k (.int .u64 2)),
 oo 11 <| .bin .and (.t 10) (.k (.int .u64 3689348814741910323)),
 oo 12 <| .mv (.t 0),
 oo 13 <| .bin .and (.t 12) (.k (.int .u64 3689348814741910323)),
 oo 14 <| .bin .add (.t 11) (.t 13),
 oo 0 <| .mv (.t 14)]
def rQCX3 : List O := [
 oo 15 <| .mv (.t 0),
 oo 16 <| .bin .shr (.t 15) (.k (.int .u64 4)),
 oo 17 <| .mv (.t 0),
 oo 18 <| .bin .add (.t 16) (.t 17),
 oo 19 <| .bin .and (.t 18) (.k (.int .u64 1085102592571150095)),
 oo 0 <| .mv (.t 19)]
def rQCX4 : List O := [
 oo 20 <| .mv (.t 0),
 oo 21 <| .mv (.t 0),
 oo 22 <| .bin .shr (.t 21) (.k (.int .u64 8)),
 oo 23 <| .bin .add (.t 20) (.t 22),
 oo 0 <| .mv (.t 23)]
def rQCX5 : List O := [
 oo 24 <| .mv (.t 0),
 oo 25 <| .mv (.t 0),
 oo 26 <| .bin .shr (.t 25) (.k (.int .u64 16)),
 oo 27 <| .bin .add (.t 24) (.t 26),
 oo 0 <| .mv (.t 27)]
def rQCX6 : List O := [
 oo 28 <| .mv (.t 0),
 oo 29 <| .mv (.t 0),
 oo 30 <| .bin .shr (.t 29) (.k (.int .u64 32)),
 oo 31 <| .bin .add (.t 28) (.t 30),
 oo 0 <| .mv (.t 31)]
def rQCX7 : List O := [
 oo 32 <| .mv (.t 0),
 oo 33 <| .cvt .i64 (.t 32),
 oo 34 <| .bin .and (.t 33) (ki 127),
 oo 2 <| .mv (.t 34)]
def cQC : C := (.seq (.reg rQCX0 false [] [0]) (.seq (.reg rQCX1 false [] [0]) (.seq (.reg rQCX2 false [] [0]) (.seq (.reg rQCX3 false [] [0]) (.seq (.reg rQCX4 false [] [0]) (.seq (.reg rQCX5 false [] [0]) (.seq (.reg rQCX6 false [] [0]) (.seq (.reg rQCX7 false [] [2]) .ret))))))))
def qQC : AFn := ⟨35, 1, [.t 2], cQC⟩
/- cohesion/cohesionref03.Before -/
def rQDX0 : List O := [
 oo 2 <| .box (.t 0),
 oo 3 <| .box (.t 1),
 oo 4 <| .mv (.k (.bool false))]
def rQDX1 : List O := [
 oo 5 <| .fad 0 (.t 2),
 oo 6 <| .ld none (.t 5),
 oo 7 <| .fad 0 (.t 3),
 oo 8 <| .ld none (.t 7),
 oo 9 <| .bin .lss (.t 6) (.t 8),
 oo 10 <| .mv (.t 9),
 ⟨(some 11), (some (10, false)), .fad 0 (.t 2)⟩,
 ⟨(some 12), (some (10, false)), .ld none (.t 11)⟩,
 ⟨(some 13), (some (10, false)), .fad 0 (.t 3)⟩,
 ⟨(some 14), (some (10, false)), .ld none (.t 13)⟩,
 ⟨(some 15), (some (10, false)), .bin .eql (.t 12) (.t 14)⟩,
 ⟨(some 16), (some (10, false)), .mv (.t 15)⟩,
 ⟨(some 17), (some (16, true)), .fad 1 (.t 2)⟩,
 ⟨(some 18), (some (16, true)), .ld none (.t 17)⟩,
 ⟨(some 19), (some (16, true)), .fad 1 (.t 3)⟩,
 ⟨(some 20), (some (16, true)), .ld none (.t 19)⟩,
 ⟨(some 21), (some (16, true)), .bin .lss (.t 18) (.t 20)⟩,
 ⟨(some 22), (some (10, false)), .pick (.t 16) (.t 21) (.k (.bool false))⟩,
 oo 23 <| .pick (.t 10) (.k (.bool true)) (.t 22),
 oo 4 <| .mv (.t 23)]
def cQD : C := (.seq (.reg rQDX0 false [] [2, 3]) (.seq (.reg rQDX1 false [] [4]) .ret))
def qQD : AFn := ⟨24, 2, [.t 4], cQD⟩
/- cohesion/cohesionref03.Neighbours -/
def rQEX0 : List O := [
 oo 2 <| .box (.t 0),
 oo 4 <| .mv (.k (.own 1 []))]
def rQEX1 : List O := [
 oo 8 <| .ld (some 2) (.t 2),
 oo 9 <| .call nQs [(.t 8)],
 oo 10 <| .bin .neq (.t 9) (ki 0)]
def rQEX2 : List O := [
 oo 4 <| .mv (.k (.own 1 []))]
def rQEX3 : List O := [
 oo 5 <| .mv (.k (.own 1 []))]
def rQEX4 : List O := [
 oo 11 <| .fad 1 (.t 2),
 oo 12 <| .ld none (.t 11),
 oo 13 <| .len (.t 12),
 oo 14 <| .mv (ki 0)]
def rQEX5 : List O := [
 oo 15 <| .bin .lss (.t 14) (.t 13)]
def rQEX6 : List O := [
 oo 16 <| .ixa 2 (.t 12) (.t 14),
 oo 17 <| .ld (some 2) (.t 16),
 oo 7 <| .new [(.int .i64 0), (.int .i64 0)],
 oz <| .st 2 (.t 7) (.t 17)]
def rQEX7 : List O := [
 oo 18 <| .fad 0 (.t 7),
 oo 19 <| .ld none (.t 18),
 oo 20 <| .mv (.t 1),
 oo 21 <| .bin .eql (.t 19) (.t 20)]
def rQEX8 : List O := [
 oo 22 <| .mv (.t 5),
 oo 23 <| .fad 1 (.t 7),
 oo 24 <| .ld none (.t 23),
 oo 25 <| .bslice 1 1 [(.int .i64 0)] [(0, 1, (.t 24))],
 oo 26 <| .app 1 (.t 22) (.t 25),
 oo 5 <| .mv (.t 26)]
def rQEX9 : List O := [
 oo 27 <| .fad 1 (.t 7),
 oo 28 <| .ld none (.t 27),
 oo 29 <| .mv (.t 1),
 oo 30 <| .bin .eql (.t 28) (.t 29)]
def rQEX10 : List O := [
 oo 31 <| .mv (.t 5),
 oo 32 <| .fad 0 (.t 7),
 oo 33 <| .ld none (.t 32),
 oo 34 <| .bslice 1 1 [(.int .i64 0)] [(0, 1, (.t 33))],
 oo 35 <| .app 1 (.t 31) (.t 34),
 oo 5 <| .mv (.t 35)]
def rQEX11 : List O := [
 oo 36 <| .bin .add (.t 14) (ki 1),
 oo 14 <| .mv (.t 36)]
def lQEX0 : C := (.seq (.reg rQEX5 false [] [1, 5, 12, 13, 14, 15]) (.seq (.cond (.t 15) .skip (.exit 0)) (.seq (.blk 1 (.seq (.reg rQEX6 false [] [1, 5, 7, 12, 13, 14]) (.seq (.seq (.reg rQEX7 false [] [1, 5, 7, 12, 13, 14, 21]) (.cond (.t 21) (.reg rQEX8 false [] [1, 5, 7, 12, 13, 14]) .skip)) (.seq (.reg rQEX9 false [] [1, 5, 7, 12, 13, 14, 30]) (.cond (.t 30) (.reg rQEX10 false [] [1, 5, 12, 13, 14]) .skip))))) (.reg rQEX11 false [] [1, 5, 12, 13, 14]))))
def rQEX12 : List O := [
 oo 37 <| .mv (.t 5),
 oo 38 <| .call nQH [(.t 37)],
 oo 4 <| .mv (.t 38)]
def cQE : C := (.seq (.reg rQEX0 false [] [1, 2]) (.seq (.seq (.reg rQEX1 false [] [1, 2, 10]) (.cond (.t 10) (.seq (.reg rQEX2 false [] [4]) .ret) .skip)) (.seq (.reg rQEX3 false [] [1, 2, 5]) (.seq (.seq (.reg rQEX4 false [] [1, 5, 12, 13, 14]) (.blk 0 (.loop lQEX0))) (.seq (.reg rQEX12 false [] [4]) .ret)))))
def qQE : AFn := ⟨39, 2, [.t 4], cQE⟩
/- cmp.Or[int] -/
def rQFX0 : List O := [
 oo 2 <| .mv (ki 0)]
def rQFX1 : List O := [
 oo 3 <| .mv (ki 0)]
def rQFX2 : List O := [
 oo 6 <| .mv (.t 0),
 oo 7 <| .len (.t 6),
 oo 8 <| .mv (ki 0)]
def rQFX3 : List O := [
 oo 9 <| .bin .lss (.t 8) (.t 7)]
def rQFX4 : List O := [
 oo 10 <| .ixa 1 (.t 6) (.t 8),
 oo 11 <| .ld none (.t 10),
 oo 5 <| .mv (.t 11)]
def rQFX5 : List O := [
 oo 12 <| .mv (.t 5),
 oo 13 <| .mv (.t 3),
 oo 14 <| .bin .neq (.t 12) (.t 13)]
def rQFX6 : List O := [
 oo 15 <| .mv (.t 5),
 oo 2 <| .mv (.t 15)]
def rQFX7 : List O := [
 oo 16 <| .bin .add (.t 8) (ki 1),
 oo 8 <| .mv (.t 16)]
def lQFX0 : C := (.seq (.reg rQFX3 false [] [3, 6, 7, 8, 9]) (.seq (.cond (.t 9) .skip (.exit 0)) (.seq (.blk 1 (.seq (.reg rQFX4 false [] [3, 5, 6, 7, 8]) (.seq (.reg rQFX5 false [] [3, 5, 6, 7, 8, 14]) (.cond (.t 14) (.seq (.reg rQFX6 false [] [2]) .ret) .skip)))) (.reg rQFX7 false [] [3, 6, 7, 8]))))
def rQFX8 : List O := [
 oo 17 <| .mv (.t 3),
 oo 2 <| .mv (.t 17)]
def cQF : C := (.seq (.reg rQFX0 false [] [0]) (.seq (.reg rQFX1 false [] [0, 3]) (.seq (.seq (.reg rQFX2 false [] [3, 6, 7, 8]) (.blk 0 (.loop lQFX0))) (.seq (.reg rQFX8 false [] [2]) .ret))))
def qQF : AFn := ⟨18, 1, [.t 2], cQF⟩
/- cmp.Compare[int] -/
def rQGX0 : List O := [
 oo 4 <| .mv (ki 0)]
def rQGX1 : List O := [
 oo 7 <| .mv (.t 0),
 oo 8 <| .call nQI [(.t 7)],
 oo 5 <| .mv (.t 8)]
def rQGX2 : List O := [
 oo 9 <| .mv (.t 1),
 oo 10 <| .call nQI [(.t 9)],
 oo 6 <| .mv (.t 10)]
def rQGX3 : List O := [
 oo 11 <| .mv (.t 5)]
def rQGX4 : List O := [
 oo 12 <| .mv (.t 6)]
def rQGX5 : List O := [
 oo 4 <| .mv (ki 0)]
def rQGX6 : List O := [
 oo 4 <| .mv (.k (.int .i64 (-1)))]
def rQGX7 : List O := [
 oo 13 <| .mv (.t 6)]
def rQGX8 : List O := [
 oo 4 <| .mv (ki 1)]
def rQGX9 : List O := [
 oo 14 <| .mv (.t 0),
 oo 15 <| .mv (.t 1),
 oo 16 <| .bin .lss (.t 14) (.t 15)]
def rQGX10 : List O := [
 oo 4 <| .mv (.k (.int .i64 (-1)))]
def rQGX11 : List O := [
 oo 17 <| .mv (.t 0),
 oo 18 <| .mv (.t 1),
 oo 19 <| .bin .gtr (.t 17) (.t 18)]
def rQGX12 : List O := [
 oo 4 <| .mv (ki 1)]
def rQGX13 : List O := [
 oo 4 <| .mv (ki 0)]
def cQG : C := (.seq (.reg rQGX0 false [] [0, 1]) (.seq (.reg rQGX1 false [] [0, 1, 5]) (.seq (.reg rQGX2 false [] [0, 1, 5, 6]) (.seq (.seq (.reg rQGX3 false [] [0, 1, 6, 11]) (.cond (.t 11) (.seq (.seq (.reg rQGX4 false [] [12]) (.cond (.t 12) (.seq (.reg rQGX5 false [] [4]) .ret) .skip)) (.seq (.reg rQGX6 false [] [4]) .ret)) .skip)) (.seq (.seq (.reg rQGX7 false [] [0, 1, 13]) (.cond (.t 13) (.seq (.reg rQGX8 false [] [4]) .ret) .skip)) (.seq (.seq (.reg rQGX9 false [] [0, 1, 16]) (.cond (.t 16) (.seq (.reg rQGX10 false [] [4]) .ret) .skip)) (.seq (.seq (.reg rQGX11 false [] [19]) (.cond (.t 19) (.seq (.reg rQGX12 false [] [4]) .ret) .skip)) (.seq (.reg rQGX13 false [] [4]) .ret))))))))
def qQG : AFn := ⟨20, 2, [.t 4], cQG⟩
/- cohesion/cohesionref02.Of -/
def rQHX0 : List O := [
 oo 2 <| .mv (.k (.own 1 []))]
def rQHX1 : List O := [
 oo 3 <| .mv (.k (.own 1 []))]
def rQHX2 : List O := [
 oo 6 <| .mv (.t 0),
 oo 7 <| .len (.t 6),
 oo 8 <| .mv (ki 0)]
def rQHX3 : List O := [
 oo 9 <| .bin .lss (.t 8) (.t 7)]
def rQHX4 : List O := [
 oo 10 <| .ixa 1 (.t 6) (.t 8),
 oo 11 <| .ld none (.t 10),
 oo 5 <| .mv (.t 11)]
def rQHX5 : List O := [
 oo 12 <| .mv (.t 3),
 oo 13 <| .mv (.t 5),
 oo 14 <| .call nQJ [(.t 12), (.t 13)],
 oo 3 <| .mv (.t 14)]
def rQHX6 : List O := [
 oo 15 <| .bin .add (.t 8) (ki 1),
 oo 8 <| .mv (.t 15)]
def lQHX0 : C := (.seq (.reg rQHX3 false [] [3, 6, 7, 8, 9]) (.seq (.cond (.t 9) .skip (.exit 0)) (.seq (.blk 1 (.seq (.reg rQHX4 false [] [3, 5, 6, 7, 8]) (.reg rQHX5 false [] [3, 6, 7, 8]))) (.reg rQHX6 false [] [3, 6, 7, 8]))))
def rQHX7 : List O := [
 oo 16 <| .mv (.t 3),
 oo 2 <| .mv (.t 16)]
def cQH : C := (.seq (.reg rQHX0 false [] [0]) (.seq (.reg rQHX1 false [] [0, 3]) (.seq (.seq (.reg rQHX2 false [] [3, 6, 7, 8]) (.blk 0 (.loop lQHX0))) (.seq (.reg rQHX7 false [] [2]) .ret))))
def qQH : AFn := ⟨17, 1, [.t 2], cQH⟩
/- cmp.isNaN[int] -/
def rQIX0 : List O := [
 oo 2 <| .mv (.k (.bool false))]
def rQIX1 : List O := [
 oo 3 <| .mv (.t 0),
 oo 4 <| .mv (.t 0),
 oo 5 <| .bin .neq (.t 3) (.t 4),
 oo 2 <| .mv (.t 5)]
def cQI : C := (.seq (.reg rQIX0 false [] [0]) (.seq (.reg rQIX1 false [] [2]) .ret))
def qQI : AFn := ⟨6, 1, [.t 2], cQI⟩
/- cohesion/cohesionref02.put -/
def rQJX0 : List O := [
 oo 4 <| .mv (.k (.own 1 []))]
def rQJX1 : List O := [
 oo 5 <| .mv (ki 0)]
def rQJX2 : List O := [
 oo 7 <| .mv (.t 5),
 oo 8 <| .mv (.t 0),
 oo 9 <| .len (.t 8),
 oo 10 <| .bin .lss (.t 7) (.t 9),
 oo 11 <| .mv (.t 10),
 ⟨(some 12), (some (11, true)), .mv (.t 0)⟩,
 ⟨(some 13), (some (11, true)), .mv (.t 5)⟩,
 ⟨(some 14), (some (11, true)), .ixa 1 (.t 12) (.t 13)⟩,
 ⟨(some 15), (some (11, true)), .ld none (.t 14)⟩,
 ⟨(some 16), (some (11, true)), .mv (.t 1)⟩,
 ⟨(some 17), (some (11, true)), .bin .lss (.t 15) (.t 16)⟩,
 oo 18 <| .pick (.t 11) (.t 17) (.k (.bool false))]
def rQJX3 : List O := [
 oo 19 <| .mv (.t 5),
 oo 20 <| .bin .add (.t 19) (ki 1),
 oo 5 <| .mv (.t 20)]
def lQJX0 : C := (.seq (.seq (.reg rQJX2 false [] [0, 1, 5, 18]) (.cond (.t 18) .skip (.exit 0))) (.blk 1 (.reg rQJX3 false [] [0, 1, 5])))
def rQJX4 : List O := [
 oo 21 <| .mv (.t 5),
 oo 22 <| .mv (.t 0),
 oo 23 <| .len (.t 22),
 oo 24 <| .bin .lss (.t 21) (.t 23),
 oo 25 <| .mv (.t 24),
 ⟨(some 26), (some (25, true)), .mv (.t 0)⟩,
 ⟨(some 27), (some (25, true)), .mv (.t 5)⟩,
 ⟨(some 28), (some (25, true)), .ixa 1 (.t 26) (.t 27)⟩,
 ⟨(some 29), (some (25, true)), .ld none (.t 28)⟩,
 ⟨(some 30), (some (25, true)), .mv (.t 1)⟩,
 ⟨(some 31), (some (25, true)), .bin .eql (.t 29) (.t 30)⟩,
 oo 32 <| .pick (.t 25) (.t 31) (.k (.bool false))]
def rQJX5 : List O := [
 oo 33 <| .mv (.t 0),
 oo 4 <| .mv (.t 33)]
def rQJX6 : List O := [
 oo 34 <| .mv (.t 0),
 oo 35 <| .mv (.t 5),
 oo 36 <| .slc 1 (.t 34) none (some (.t 35)),
 oo 37 <| .app 1 (.k (.own 1 [])) (.t 36),
 oo 6 <| .mv (.t 37)]
def rQJX7 : List O := [
 oo 38 <| .mv (.t 6),
 oo 39 <| .mv (.t 1),
 oo 40 <| .bslice 1 1 [(.int .i64 0)] [(0, 1, (.t 39))],
 oo 41 <| .app 1 (.t 38) (.t 40),
 oo 42 <| .mv (.t 0),
 oo 43 <| .mv (.t 5),
 oo 44 <| .slc 1 (.t 42) (some (.t 43)) none,
 oo 45 <| .app 1 (.t 41) (.t 44),
 oo 4 <| .mv (.t 45)]
def cQJ : C := (.seq (.reg rQJX0 false [] [0, 1]) (.seq (.reg rQJX1 false [] [0, 1, 5]) (.seq (.blk 0 (.loop lQJX0)) (.seq (.seq (.reg rQJX4 false [] [0, 1, 5, 32]) (.cond (.t 32) (.seq (.reg rQJX5 false [] [4]) .ret) .skip)) (.seq (.reg rQJX6 false [] [0, 1, 5, 6]) (.seq (.reg rQJX7 true [(7, 7), (8, 8), (0, 2), (2, 4), (3, 4), (2, 5), (3, 5), (2, 6), (3, 6)] [4]) .ret))))))
def qQJ : AFn := ⟨46, 2, [.t 4], cQJ⟩
abbrev Md := Go.Bm.Md
abbrev Cfg := Go.Bm.Cfg
def look : List (Nat × Md × AFn) -> Nat -> Option (Md × AFn)
 | [], _ => none
 | (j, m, q) :: r, i => if i = j then some (m, q) else look r i
def fns : List (Nat × Md × AFn) := [
 (nQa, ⟨false, false, true⟩, qQa),
 (nQb, ⟨false, false, true⟩, qQb),
 (nQc, ⟨true, false, false⟩, qQc),
 (nQd, ⟨true, false, false⟩, qQd),
 (nQe, ⟨true, true, false⟩, qQe),
 (nQf, ⟨false, false, false⟩, qQf),
 (nQg, ⟨false, false, false⟩, qQg),
 (nQh, ⟨false, false, false⟩, qQh),
 (nQi, ⟨false, false, false⟩, qQi),
 (nQj, ⟨false, false, false⟩, qQj),
 (nQk, ⟨false, false, true⟩, qQk),
 (nQl, ⟨false, false, true⟩, qQl),
 (nQm, ⟨false, false, true⟩, qQm),
 (nQn, ⟨false, false, true⟩, qQn),
 (nQo, ⟨true, false, false⟩, qQo),
 (nQp, ⟨false, false, true⟩, qQp),
 (nQq, ⟨false, false, false⟩, qQq),
 (nQr, ⟨false, false, true⟩, qQr),
 (nQs, ⟨false, false, true⟩, qQs),
 (nQt, ⟨false, false, true⟩, qQt),
 (nQu, ⟨false, false, true⟩, qQu),
 (nQv, ⟨false, false, true⟩, qQv),
 (nQw, ⟨false, false, false⟩, qQw),
 (nQx, ⟨false, true, true⟩, qQx),
 (nQy, ⟨false, false, true⟩, qQy),
 (nQz, ⟨false, false, true⟩, qQz),
 (nQA, ⟨false, false, true⟩, qQA),
 (nQB, ⟨false, false, true⟩, qQB),
 (nQC, ⟨false, false, true⟩, qQC),
 (nQD, ⟨false, false, true⟩, qQD),
 (nQE, ⟨false, false, false⟩, qQE),
 (nQF, ⟨false, false, true⟩, qQF),
 (nQG, ⟨false, false, true⟩, qQG),
 (nQH, ⟨false, false, false⟩, qQH),
 (nQI, ⟨false, false, true⟩, qQI),
 (nQJ, ⟨false, false, false⟩, qQJ)]
def cfg : Cfg := ⟨look fns, fun _ => [], fun _ => none, fun _ => none, fun _ => none, fun _ => false, fun _ => false, fun _ => none⟩
theorem kQa : chkFB Go.Proofs.Try.prog Go.Proofs.Try.f3 qQa = true := by kernel_rfl
theorem kQb : chkFB Go.Proofs.Try.prog Go.Proofs.Try.f4 qQb = true := by kernel_rfl
theorem kQc : chkFB Go.Proofs.Try.prog Go.Proofs.Try.f5 qQc = true := by kernel_rfl
theorem kQd : chkFB Go.Proofs.Try.prog Go.Proofs.Try.f6 qQd = true := by kernel_rfl
theorem kQe : chkFB Go.Proofs.Try.prog Go.Proofs.Try.f7 qQe = true := by kernel_rfl
theorem kQf : chkFB Go.Proofs.Try.prog Go.Proofs.Try.f8 qQf = true := by kernel_rfl
theorem kQg : chkFB Go.Proofs.Try.prog Go.Proofs.Try.f9 qQg = true := by kernel_rfl
theorem kQh : chkFB Go.Proofs.Try.prog Go.Proofs.Try.f10 qQh = true := by kernel_rfl
theorem kQi : chkFB Go.Proofs.Try.prog Go.Proofs.Try.f11 qQi = true := by kernel_rfl
theorem kQj : chkFB Go.Proofs.Try.prog Go.Proofs.Try.f12 qQj = true := by kernel_rfl
theorem kQk : chkFB Go.Proofs.Try.prog Go.Proofs.Try.f13 qQk = true := by kernel_rfl
theorem kQl : chkFB Go.Proofs.Try.prog Go.Proofs.Try.f14 qQl = true := by kernel_rfl
theorem kQm : chkFB Go.Proofs.Try.prog Go.Proofs.Try.f15 qQm = true := by kernel_rfl
theorem kQn : chkFB Go.Proofs.Try.prog Go.Proofs.Try.f16 qQn = true := by kernel_rfl
theorem kQo : chkFB Go.Proofs.Try.prog Go.Proofs.Try.f17 qQo = true := by kernel_rfl
theorem kQp : chkFB Go.Proofs.Try.prog Go.Proofs.Try.f18 qQp = true := by kernel_rfl
theorem kQq : chkFB Go.Proofs.Try.prog Go.Proofs.Try.f19 qQq = true := by kernel_rfl
theorem kQr : chkFB Go.Proofs.Try.prog Go.Proofs.Try.f20 qQr = true := by kernel_rfl
theorem kQs : chkFB Go.Proofs.Try.prog Go.Proofs.Try.f21 qQs = true := by kernel_rfl
theorem kQt : chkFB Go.Proofs.Try.prog Go.Proofs.Try.f22 qQt = true := by kernel_rfl
theorem kQu : chkFB Go.Proofs.Try.prog Go.Proofs.Try.f23 qQu = true := by kernel_rfl
theorem kQv : chkFB Go.Proofs.Try.prog Go.Proofs.Try.f24 qQv = true := by kernel_rfl
theorem kQw : chkFB Go.Proofs.Try.prog Go.Proofs.Try.f25 qQw = true := by kernel_rfl
theorem kQx : chkFB Go.Proofs.Try.prog Go.Proofs.Try.f26 qQx = true := by kernel_rfl
theorem kQy : chkFB Go.Proofs.Try.prog Go.Proofs.Try.f27 qQy = true := by kernel_rfl
theorem kQz : chkFB Go.Proofs.Try.prog Go.Proofs.Try.f28 qQz = true := by kernel_rfl
theorem kQA : chkFB Go.Proofs.Try.prog Go.Proofs.Try.f30 qQA = true := by kernel_rfl
theorem kQB : chkFB Go.Proofs.Try.prog Go.Proofs.Try.f31 qQB = true := by kernel_rfl
theorem kQC : chkFB Go.Proofs.Try.prog Go.Proofs.Try.f32 qQC = true := by kernel_rfl
theorem kQD : chkFB Go.Proofs.Try.prog Go.Proofs.Try.f33 qQD = true := by kernel_rfl
theorem kQE : chkFB Go.Proofs.Try.prog Go.Proofs.Try.f34 qQE = true := by kernel_rfl
theorem kQF : chkFB Go.Proofs.Try.prog Go.Proofs.Try.f39 qQF = true := by kernel_rfl
theorem kQG : chkFB Go.Proofs.Try.prog Go.Proofs.Try.f40 qQG = true := by kernel_rfl
theorem kQH : chkFB Go.Proofs.Try.prog Go.Proofs.Try.f41 qQH = true := by kernel_rfl
theorem kQI : chkFB Go.Proofs.Try.prog Go.Proofs.Try.f54 qQI = true := by kernel_rfl
theorem kQJ : chkFB Go.Proofs.Try.prog Go.Proofs.Try.f55 qQJ = true := by kernel_rfl
theorem look_mem : ∀ {l : List (Nat × Md × AFn)} {f : Nat} {m : Md} {q : AFn}, look l f = some (m, q) -> (f, m, q) ∈ l
 | [], f, m, q, h => by simp [look] at h
 | (j, m', q') :: r, f, m, q, h => by
   unfold look at h
   split at h
   ·rename_i he; subst he; simp at h; obtain ⟨rfl, rfl⟩ := h; simp
   ·exact List.mem_cons_of_mem _ (look_mem h)
def Good (p : Nat × Md × AFn) : Prop := ∃ fn, Go.Proofs.Try.prog.funcs[p.1]? = some fn /\ chkFB Go.Proofs.Try.prog fn p.2.2 = true
def All (G : Nat × Md × AFn -> Prop) : List (Nat × Md × AFn) -> Prop
 | [] => True
 | p :: r => G p /\ All G r
theorem All.get {G : Nat × Md × AFn -> Prop} : ∀ {l : List (Nat × Md × AFn)}, All G l -> ∀ p ∈ l, G p
 | [], _, p, h => by simp at h
 | q :: r, h, p, hp => by
   rcases List.mem_cons.1 hp with e | e
   ·subst e; exact h.1
   ·exact All.get h.2 p e
theorem allGood : All Good fns := ⟨⟨_, Go.Proofs.Try.func3, kQa⟩, ⟨_, Go.Proofs.Try.func4, kQb⟩, ⟨_, Go.Proofs.Try.func5, kQc⟩, ⟨_, Go.Proofs.Try.func6, kQd⟩, ⟨_, Go.Proofs.Try.func7, kQe⟩, ⟨_, Go.Proofs.Try.func8, kQf⟩, ⟨_, Go.Proofs.Try.func9, kQg⟩, ⟨_, Go.Proofs.Try.func10, kQh⟩, ⟨_, Go.Proofs.Try.func11, kQi⟩, ⟨_, Go.Proofs.Try.func12, kQj⟩, ⟨_, Go.Proofs.Try.func13, kQk⟩, ⟨_, Go.Proofs.Try.func14, kQl⟩, ⟨_, Go.Proofs.Try.func15, kQm⟩, ⟨_, Go.Proofs.Try.func16, kQn⟩, ⟨_, Go.Proofs.Try.func17, kQo⟩, ⟨_, Go.Proofs.Try.func18, kQp⟩, ⟨_, Go.Proofs.Try.func19, kQq⟩, ⟨_, Go.Proofs.Try.func20, kQr⟩, ⟨_, Go.Proofs.Try.func21, kQs⟩, ⟨_, Go.Proofs.Try.func22, kQt⟩, ⟨_, Go.Proofs.Try.func23, kQu⟩, ⟨_, Go.Proofs.Try.func24, kQv⟩, ⟨_, Go.Proofs.Try.func25, kQw⟩, ⟨_, Go.Proofs.Try.func26, kQx⟩, ⟨_, Go.Proofs.Try.func27, kQy⟩, ⟨_, Go.Proofs.Try.func28, kQz⟩, ⟨_, Go.Proofs.Try.func30, kQA⟩, ⟨_, Go.Proofs.Try.func31, kQB⟩, ⟨_, Go.Proofs.Try.func32, kQC⟩, ⟨_, Go.Proofs.Try.func33, kQD⟩, ⟨_, Go.Proofs.Try.func34, kQE⟩, ⟨_, Go.Proofs.Try.func39, kQF⟩, ⟨_, Go.Proofs.Try.func40, kQG⟩, ⟨_, Go.Proofs.Try.func41, kQH⟩, ⟨_, Go.Proofs.Try.func54, kQI⟩, ⟨_, Go.Proofs.Try.func55, kQJ⟩, trivial⟩
theorem cfgOK : CfgOKB Go.Proofs.Try.prog cfg := ⟨by kernel_rfl, fun f m q h => allGood.get _ (look_mem h)⟩
theorem gQa : cfg.fn nQa = some (⟨false, false, true⟩, qQa) := rfl
theorem gQb : cfg.fn nQb = some (⟨false, false, true⟩, qQb) := rfl
theorem gQc : cfg.fn nQc = some (⟨true, false, false⟩, qQc) := rfl
theorem gQd : cfg.fn nQd = some (⟨true, false, false⟩, qQd) := rfl
theorem gQe : cfg.fn nQe = some (⟨true, true, false⟩, qQe) := rfl
theorem gQf : cfg.fn nQf = some (⟨false, false, false⟩, qQf) := rfl
theorem gQg : cfg.fn nQg = some (⟨false, false, false⟩, qQg) := rfl
theorem gQh : cfg.fn nQh = some (⟨false, false, false⟩, qQh) := rfl
theorem gQi : cfg.fn nQi = some (⟨false, false, false⟩, qQi) := rfl
theorem gQj : cfg.fn nQj = some (⟨false, false, false⟩, qQj) := rfl
theorem gQk : cfg.fn nQk = some (⟨false, false, true⟩, qQk) := rfl
theorem gQl : cfg.fn nQl = some (⟨false, false, true⟩, qQl) := rfl
theorem gQm : cfg.fn nQm = some (⟨false, false, true⟩, qQm) := rfl
theorem gQn : cfg.fn nQn = some (⟨false, false, true⟩, qQn) := rfl
theorem gQo : cfg.fn nQo = some (⟨true, false, false⟩, qQo) := rfl
theorem gQp : cfg.fn nQp = some (⟨false, false, true⟩, qQp) := rfl
theorem gQq : cfg.fn nQq = some (⟨false, false, false⟩, qQq) := rfl
theorem gQr : cfg.fn nQr = some (⟨false, false, true⟩, qQr) := rfl
theorem gQs : cfg.fn nQs = some (⟨false, false, true⟩, qQs) := rfl
theorem gQt : cfg.fn nQt = some (⟨false, false, true⟩, qQt) := rfl
theorem gQu : cfg.fn nQu = some (⟨false, false, true⟩, qQu) := rfl
theorem gQv : cfg.fn nQv = some (⟨false, false, true⟩, qQv) := rfl
theorem gQw : cfg.fn nQw = some (⟨false, false, false⟩, qQw) := rfl
theorem gQx : cfg.fn nQx = some (⟨false, true, true⟩, qQx) := rfl
theorem gQy : cfg.fn nQy = some (⟨false, false, true⟩, qQy) := rfl
theorem gQz : cfg.fn nQz = some (⟨false, false, true⟩, qQz) := rfl
theorem gQA : cfg.fn nQA = some (⟨false, false, true⟩, qQA) := rfl
theorem gQB : cfg.fn nQB = some (⟨false, false, true⟩, qQB) := rfl
theorem gQC : cfg.fn nQC = some (⟨false, false, true⟩, qQC) := rfl
theorem gQD : cfg.fn nQD = some (⟨false, false, true⟩, qQD) := rfl
theorem gQE : cfg.fn nQE = some (⟨false, false, false⟩, qQE) := rfl
theorem gQF : cfg.fn nQF = some (⟨false, false, true⟩, qQF) := rfl
theorem gQG : cfg.fn nQG = some (⟨false, false, true⟩, qQG) := rfl
theorem gQH : cfg.fn nQH = some (⟨false, false, false⟩, qQH) := rfl
theorem gQI : cfg.fn nQI = some (⟨false, false, true⟩, qQI) := rfl
theorem gQJ : cfg.fn nQJ = some (⟨false, false, false⟩, qQJ) := rfl
end Go.BmP
