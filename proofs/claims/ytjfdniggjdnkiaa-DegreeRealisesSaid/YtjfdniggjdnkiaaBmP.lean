/- The compact code of the functions, printed by program off the translation. -/
import Derived.Test.YtjfdniggjdnkiaaChecked
import Derived.Test.YtjfdniggjdnkiaaBmA
import Derived.KernelRfl
set_option maxRecDepth 100000
namespace Go.BmP
open Go.Am Go.Bm
abbrev oo (d : Nat) (x : Kd) : O := ⟨some d, none, x⟩
abbrev oz (x : Kd) : O := ⟨none, none, x⟩
abbrev ki (n : Nat) : E := .k (.int .i64 n)
def nQa : Nat := 6
def nQb : Nat := 8
def nQc : Nat := 9
def nQd : Nat := 10
def nQe : Nat := 11
def nQf : Nat := 12
def nQg : Nat := 13
def nQh : Nat := 14
def nQi : Nat := 15
def nQj : Nat := 20
def nQk : Nat := 22
def nQl : Nat := 23
def nQm : Nat := 24
def nQn : Nat := 25
def nQo : Nat := 26
def nQp : Nat := 28
def nQq : Nat := 29
def nQr : Nat := 30
def nQs : Nat := 31
def nQt : Nat := 32
def nQu : Nat := 33
def nQv : Nat := 34
def nQw : Nat := 35
def nQx : Nat := 39
def nQy : Nat := 40
def nQz : Nat := 41
def nQA : Nat := 42
def nQB : Nat := 43
def nQC : Nat := 44
def nQD : Nat := 49
def nQE : Nat := 50
def nQF : Nat := 51
def nQG : Nat := 52
def nQH : Nat := 53
def nQI : Nat := 54
def nQJ : Nat := 55
def nQK : Nat := 56
def nQL : Nat := 57
def nQM : Nat := 58
def nQN : Nat := 59
def nQO : Nat := 72
def nQP : Nat := 73
def nQQ : Nat := 74
def nQR : Nat := 89
def nQS : Nat := 90
/- cohesion/cohesionlaw09.DegreeRealises -/
def rQaX0 : List O := [
 oo 4 <| .mv (.k (.bool false))]
def rQaX1 : List O := [
 oo 17 <| .mv (.t 0),
 oo 18 <| .len (.t 17),
 oo 19 <| .bin .gtr (.t 18) (ki 70)]
def rQaX2 : List O := [
 oo 20 <| .call nQd [],
 oo 4 <| .mv (.t 20)]
def rQaX3 : List O := [
 oo 21 <| .mv (.t 1),
 oo 22 <| .call nQg [(.t 21)],
 oo 5 <| .mv (.t 22)]
def rQaX4 : List O := [
 oo 24 <| .mv (.t 5),
 oo 25 <| .call nQf [(.t 24), (ki 9)],
 oo 26 <| .call nQi [(.t 25)],
 oo 23 <| .mv (.t 26),
 oo 27 <| .ext 0 (.t 23),
 oo 28 <| .ext 1 (.t 23),
 oo 6 <| .mv (.t 27),
 oo 7 <| .mv (.t 28)]
def rQaX5 : List O := [
 oo 29 <| .mv (.t 6),
 oo 30 <| .app 1 (.k (.own 1 [])) (.t 29),
 oo 8 <| .mv (.t 30)]
def rQaX6 : List O := [
 oo 31 <| .mv (.t 8),
 oo 32 <| .len (.t 31),
 oo 33 <| .bin .gtr (.t 32) (ki 0)]
def rQaX7 : List O := [
 oo 34 <| .mv (.t 8),
 oo 35 <| .mv (.t 5),
 oo 36 <| .mv (.t 8),
 oo 37 <| .len (.t 36),
 oo 38 <| .call nQk [(.t 35), (.t 37)],
 oo 39 <| .ixa 1 (.t 34) (.t 38),
 oo 40 <| .ld none (.t 39),
 oo 41 <| .mv (.t 5),
 oo 42 <| .call nQk [(.t 41), (ki 5)],
 oo 43 <| .bin .sub (.t 42) (ki 2),
 oo 44 <| .bin .add (.t 40) (.t 43),
 oo 45 <| .ixa 1 (.t 34) (.t 38),
 oz <| .st 1 (.t 45) (.t 44)]
def rQaX8 : List O := [
 oo 9 <| .mv (.k (.own 1 []))]
def rQaX9 : List O := [
 oo 46 <| .mv (.t 5),
 oo 47 <| .call nQk [(.t 46), (ki 9)],
 oo 10 <| .mv (.t 47)]
def rQaX10 : List O := [
 oo 48 <| .mv (.t 10),
 oo 49 <| .bin .gtr (.t 48) (ki 0)]
def rQaX11 : List O := [
 oo 52 <| .mv (.t 9),
 oo 53 <| .mv (.t 5),
 oo 54 <| .call nQk [(.t 53), (ki 6)],
 oo 55 <| .bslice 1 1 [(.int .i64 0)] [(0, 1, (.t 54))],
 oo 56 <| .app 1 (.t 52) (.t 55),
 oo 9 <| .mv (.t 56)]
def rQaX12 : List O := [
 oo 50 <| .mv (.t 10),
 oo 51 <| .bin .sub (.t 50) (ki 1),
 oo 10 <| .mv (.t 51)]
def lQaX0 : C := (.seq (.seq (.reg rQaX10 false [] [0, 5, 6, 8, 9, 10, 49]) (.cond (.t 49) .skip (.exit 0))) (.seq (.blk 1 (.reg rQaX11 false [] [0, 5, 6, 8, 9, 10])) (.reg rQaX12 false [] [0, 5, 6, 8, 9, 10])))
def rQaX13 : List O := [
 oo 57 <| .mv (.t 6),
 oo 58 <| .mv (.t 8),
 oo 59 <| .mv (.t 9),
 oo 60 <| .mv (.t 0),
 oo 61 <| .bslice 1 4 [(.own 1 [])] [(0, 1, (.t 57)), (1, 1, (.t 58)), (2, 1, (.t 59)), (3, 1, (.t 60))],
 oo 62 <| .len (.t 61),
 oo 63 <| .mv (ki 0)]
def rQaX14 : List O := [
 oo 64 <| .bin .lss (.t 63) (.t 62)]
def rQaX15 : List O := [
 oo 65 <| .ixa 1 (.t 61) (.t 63),
 oo 66 <| .ld none (.t 65),
 oo 12 <| .mv (.t 66)]
def rQaX16 : List O := [
 oo 68 <| .mv (.t 12),
 oo 69 <| .call nQl [(.t 68)],
 oo 67 <| .mv (.t 69),
 oo 70 <| .ext 0 (.t 67),
 oo 71 <| .ext 1 (.t 67),
 oo 13 <| .new [(.int .i64 0), (.own 2 [])],
 oz <| .st 2 (.t 13) (.t 70),
 oo 14 <| .mv (.t 71)]
def rQaX17 : List O := [
 oo 73 <| .mv (.t 12),
 oo 74 <| .call nQm [(.t 73)],
 oo 72 <| .mv (.t 74),
 oo 75 <| .ext 0 (.t 72),
 oo 76 <| .ext 1 (.t 72),
 oo 15 <| .new [(.int .i64 0), (.own 2 [])],
 oz <| .st 2 (.t 15) (.t 75),
 oo 16 <| .mv (.t 76)]
def rQaX18 : List O := [
 oo 77 <| .mv (.t 14),
 oo 78 <| .mv (.t 16),
 oo 79 <| .bin .neq (.t 77) (.t 78),
 oo 80 <| .mv (.t 79),
 ⟨(some 81), (some (80, false)), .ld (some 2) (.t 13)⟩,
 ⟨(some 82), (some (80, false)), .ld (some 2) (.t 15)⟩,
 ⟨(some 83), (some (80, false)), .call nQn [(.t 81), (.t 82)]⟩,
 ⟨(some 84), (some (80, false)), .un .not (.t 83)⟩,
 oo 85 <| .pick (.t 80) (.k (.bool true)) (.t 84),
 oo 86 <| .mv (.t 85),
 ⟨(some 87), (some (86, false)), .mv (.t 12)⟩,
 ⟨(some 88), (some (86, false)), .call nQc [(.t 87)]⟩,
 ⟨(some 89), (some (86, false)), .mv (.t 12)⟩,
 ⟨(some 90), (some (86, false)), .call nQo [(.t 89)]⟩,
 ⟨(some 91), (some (86, false)), .eq true .bool (.t 88) (.t 90)⟩,
 oo 92 <| .pick (.t 86) (.k (.bool true)) (.t 91)]
def rQaX19 : List O := [
 oo 4 <| .mv (.k (.bool false))]
def rQaX20 : List O := [
 oo 93 <| .bin .add (.t 63) (ki 1),
 oo 63 <| .mv (.t 93)]
def lQaX1 : C := (.seq (.reg rQaX14 false [] [6, 61, 62, 63, 64]) (.seq (.cond (.t 64) .skip (.exit 2)) (.seq (.blk 3 (.seq (.reg rQaX15 false [] [6, 12, 61, 62, 63]) (.seq (.reg rQaX16 false [] [6, 12, 13, 14, 61, 62, 63]) (.seq (.reg rQaX17 false [] [6, 12, 13, 14, 15, 16, 61, 62, 63]) (.seq (.reg rQaX18 false [] [6, 61, 62, 63, 92]) (.cond (.t 92) (.seq (.reg rQaX19 false [] [4]) .ret) .skip)))))) (.reg rQaX20 false [] [6, 61, 62, 63]))))
def rQaX21 : List O := [
 oo 94 <| .mv (.t 6),
 oo 95 <| .call nQc [(.t 94)],
 oo 96 <| .mv (.t 95),
 ⟨(some 97), (some (96, true)), .call nQd []⟩,
 oo 98 <| .pick (.t 96) (.t 97) (.k (.bool false)),
 oo 4 <| .mv (.t 98)]
def cQa : C := (.seq (.reg rQaX0 false [] [0, 1]) (.seq (.seq (.reg rQaX1 false [] [0, 1, 19]) (.cond (.t 19) (.seq (.reg rQaX2 false [] [4]) .ret) .skip)) (.seq (.reg rQaX3 false [] [0, 5]) (.seq (.reg rQaX4 false [] [0, 5, 6]) (.seq (.reg rQaX5 false [] [0, 5, 6, 8]) (.seq (.seq (.reg rQaX6 false [] [0, 5, 6, 8, 33]) (.cond (.t 33) (.reg rQaX7 true [(10, 10), (11, 11), (12, 12), (0, 4), (4, 7), (6, 7), (0, 8), (5, 8), (6, 8), (6, 9)] [0, 5, 6, 8]) .skip)) (.seq (.reg rQaX8 false [] [0, 5, 6, 8, 9]) (.seq (.seq (.reg rQaX9 false [] [0, 5, 6, 8, 9, 10]) (.blk 0 (.loop lQaX0))) (.seq (.seq (.reg rQaX13 false [] [6, 61, 62, 63]) (.blk 2 (.loop lQaX1))) (.seq (.reg rQaX21 false [] [4]) .ret))))))))))
def qQa : AFn := ⟨99, 2, [.t 4], cQa⟩
/- cohesion/cohesionmake.Mod -/
def rQbX0 : List O := [
 oo 4 <| .mv (ki 0)]
def rQbX1 : List O := [
 oo 5 <| .mv (.t 0),
 oo 6 <| .mv (.t 1),
 oo 7 <| .bin .rem (.t 5) (.t 6),
 oo 8 <| .mv (.t 1),
 oo 9 <| .bin .add (.t 7) (.t 8),
 oo 10 <| .mv (.t 1),
 oo 11 <| .bin .rem (.t 9) (.t 10),
 oo 4 <| .mv (.t 11)]
def cQb : C := (.seq (.reg rQbX0 false [] [0, 1]) (.seq (.reg rQbX1 false [] [4]) .ret))
def qQb : AFn := ⟨12, 2, [.t 4], cQb⟩
/- cohesion/degree.Graphic -/
def rQcX0 : List O := [
 oo 2 <| .mv (.k (.bool false))]
def rQcX1 : List O := [
 oo 5 <| .mv (.t 0),
 oo 6 <| .len (.t 5),
 oo 7 <| .bin .gtr (.t 6) (ki 64)]
def rQcX2 : List O := [
 oo 2 <| .mv (.k (.bool false))]
def rQcX3 : List O := [
 oo 9 <| .mv (.t 0),
 oo 10 <| .call nQq [(.t 9)],
 oo 8 <| .mv (.t 10),
 oo 11 <| .ext 0 (.t 8),
 oo 12 <| .ext 1 (.t 8),
 oo 3 <| .mv (.t 11),
 oo 4 <| .mv (.t 12)]
def rQcX4 : List O := [
 oo 13 <| .mv (.t 4),
 oo 2 <| .mv (.t 13)]
def cQc : C := (.seq (.reg rQcX0 false [] [0]) (.seq (.seq (.reg rQcX1 false [] [0, 7]) (.cond (.t 7) (.seq (.reg rQcX2 false [] [2]) .ret) .skip)) (.seq (.reg rQcX3 false [] [4]) (.seq (.reg rQcX4 false [] [2]) .ret))))
def qQc : AFn := ⟨14, 1, [.t 2], cQc⟩
/- cohesion/cohesionlaw09.awake -/
def rQdX0 : List O := [
 oo 0 <| .mv (.k (.bool false))]
def rQdX1 : List O := [
 oo 4 <| .build [(.int .i64 0), (.int .i64 0)] [(0, 1, (ki 0)), (1, 1, (ki 2))],
 oo 5 <| .bslice 2 1 [(.int .i64 0), (.int .i64 0)] [(0, 2, (.t 4))],
 oo 6 <| .build [(.int .i64 0), (.own 2 [])] [(0, 1, (ki 3)), (1, 1, (.t 5))],
 oo 7 <| .call nQh [(.t 6)],
 oo 3 <| .mv (.t 7),
 oo 8 <| .ext 0 (.t 3),
 oo 9 <| .ext 1 (.t 3),
 oo 1 <| .mv (.t 8),
 oo 2 <| .mv (.t 9)]
def rQdX2 : List O := [
 oo 10 <| .mv (.t 2),
 oo 11 <| .bin .eql (.t 10) (ki 0),
 oo 12 <| .mv (.t 11),
 ⟨(some 13), (some (12, true)), .mv (.t 1)⟩,
 ⟨(some 14), (some (12, true)), .bslice 1 3 [(.int .i64 0)] [(0, 1, (ki 1)), (1, 1, (ki 0)), (2, 1, (ki 1))]⟩,
 ⟨(some 15), (some (12, true)), .call nQj [(.t 13), (.t 14)]⟩,
 oo 16 <| .pick (.t 12) (.t 15) (.k (.bool false)),
 oo 17 <| .mv (.t 16),
 ⟨(some 18), (some (17, true)), .bslice 1 5 [(.int .i64 0)] [(0, 1, (ki 3)), (1, 1, (ki 0)), (2, 1, (ki 6)), (3, 1, (ki 1)), (4, 1, (ki 5))]⟩,
 ⟨(some 19), (some (17, true)), .call nQe [(.t 18)]⟩,
 ⟨(some 20), (some (17, true)), .bin .eql (.t 19) (ki 3)⟩,
 oo 21 <| .pick (.t 17) (.t 20) (.k (.bool false)),
 oo 22 <| .mv (.t 21),
 ⟨(some 23), (some (22, true)), .bslice 1 4 [(.int .i64 0)] [(0, 1, (ki 3)), (1, 1, (ki 3)), (2, 1, (ki 1)), (3, 1, (ki 1))]⟩,
 ⟨(some 24), (some (22, true)), .call nQc [(.t 23)]⟩,
 ⟨(some 25), (some (22, true)), .un .not (.t 24)⟩,
 oo 26 <| .pick (.t 22) (.t 25) (.k (.bool false)),
 oo 27 <| .mv (.t 26),
 ⟨(some 28), (some (27, true)), .bslice 1 2 [(.int .i64 0)] [(0, 1, (ki 1)), (1, 1, (ki 1))]⟩,
 ⟨(some 29), (some (27, true)), .call nQc [(.t 28)]⟩,
 oo 30 <| .pick (.t 27) (.t 29) (.k (.bool false)),
 oo 0 <| .mv (.t 30)]
def cQd : C := (.seq (.reg rQdX0 false [] []) (.seq (.reg rQdX1 false [] [1, 2]) (.seq (.reg rQdX2 false [] [0]) .ret)))
def qQd : AFn := ⟨31, 0, [.t 0], cQd⟩
/- cohesion/degree.H -/
def rQeX0 : List O := [
 oo 2 <| .mv (ki 0)]
def rQeX1 : List O := [
 oo 4 <| .mv (.t 0),
 oo 5 <| .call nQr [(.t 4)],
 oo 0 <| .mv (.t 5)]
def rQeX2 : List O := [
 oo 6 <| .mv (.t 0),
 oo 7 <| .call nQs [(.t 6)]]
def rQeX3 : List O := [
 oo 3 <| .mv (ki 0)]
def rQeX4 : List O := [
 oo 8 <| .mv (.t 3),
 oo 9 <| .mv (.t 0),
 oo 10 <| .len (.t 9),
 oo 11 <| .bin .lss (.t 8) (.t 10),
 oo 12 <| .mv (.t 11),
 ⟨(some 13), (some (12, true)), .mv (.t 0)⟩,
 ⟨(some 14), (some (12, true)), .mv (.t 0)⟩,
 ⟨(some 15), (some (12, true)), .len (.t 14)⟩,
 ⟨(some 16), (some (12, true)), .bin .sub (.t 15) (ki 1)⟩,
 ⟨(some 17), (some (12, true)), .mv (.t 3)⟩,
 ⟨(some 18), (some (12, true)), .bin .sub (.t 16) (.t 17)⟩,
 ⟨(some 19), (some (12, true)), .ixa 1 (.t 13) (.t 18)⟩,
 ⟨(some 20), (some (12, true)), .ld none (.t 19)⟩,
 ⟨(some 21), (some (12, true)), .mv (.t 3)⟩,
 ⟨(some 22), (some (12, true)), .bin .gtr (.t 20) (.t 21)⟩,
 oo 23 <| .pick (.t 12) (.t 22) (.k (.bool false))]
def rQeX5 : List O := [
 oo 24 <| .mv (.t 3),
 oo 25 <| .bin .add (.t 24) (ki 1),
 oo 3 <| .mv (.t 25)]
def lQeX0 : C := (.seq (.seq (.reg rQeX4 false [] [0, 3, 23]) (.cond (.t 23) .skip (.exit 0))) (.blk 1 (.reg rQeX5 false [] [0, 3])))
def rQeX6 : List O := [
 oo 26 <| .mv (.t 3),
 oo 2 <| .mv (.t 26)]
def cQe : C := (.seq (.reg rQeX0 false [] [0]) (.seq (.reg rQeX1 false [] [0]) (.seq (.reg rQeX2 false [] [0]) (.seq (.reg rQeX3 false [] [0, 3]) (.seq (.blk 0 (.loop lQeX0)) (.seq (.reg rQeX6 false [] [2]) .ret))))))
def qQe : AFn := ⟨27, 1, [.t 2], cQe⟩
/- cohesion/cohesionmake.Graph -/
def rQfX0 : List O := [
 oo 4 <| .new [(.int .i64 0), (.own 2 [])]]
def rQfX1 : List O := [
 oo 9 <| .mv (.t 0),
 oo 10 <| .mv (.t 1),
 oo 11 <| .bin .add (.t 10) (ki 1),
 oo 12 <| .call nQk [(.t 9), (.t 11)],
 oo 13 <| .build [(.int .i64 0), (.own 2 [])] [(0, 1, (.t 12))],
 oo 5 <| .new [(.int .i64 0), (.own 2 [])],
 oz <| .st 2 (.t 5) (.t 13)]
def rQfX2 : List O := [
 oo 14 <| .fad 0 (.t 5),
 oo 15 <| .ld none (.t 14),
 oo 16 <| .bin .lss (.t 15) (ki 4)]
def rQfX3 : List O := [
 oo 17 <| .mv (.t 1),
 oo 18 <| .fad 0 (.t 5),
 oo 19 <| .ld none (.t 18),
 oo 20 <| .mv (.t 0),
 oo 21 <| .mv (.t 1),
 oo 22 <| .bin .add (.t 21) (ki 1),
 oo 23 <| .call nQk [(.t 20), (.t 22)],
 oo 24 <| .bin .add (.t 19) (.t 23),
 oo 25 <| .min [(.t 17), (.t 24)],
 oo 26 <| .fad 0 (.t 5),
 oz <| .st 1 (.t 26) (.t 25)]
def rQfX4 : List O := [
 oo 27 <| .mv (.t 0),
 oo 28 <| .call nQk [(.t 27), (ki 4)],
 oo 29 <| .bin .add (ki 1) (.t 28),
 oo 6 <| .mv (.t 29)]
def rQfX5 : List O := [
 oo 7 <| .mv (ki 0)]
def rQfX6 : List O := [
 oo 30 <| .mv (.t 7),
 oo 31 <| .fad 0 (.t 5),
 oo 32 <| .ld none (.t 31),
 oo 33 <| .bin .lss (.t 30) (.t 32)]
def rQfX7 : List O := [
 oo 36 <| .mv (.t 7),
 oo 37 <| .bin .add (.t 36) (ki 1),
 oo 8 <| .mv (.t 37)]
def rQfX8 : List O := [
 oo 38 <| .mv (.t 8),
 oo 39 <| .fad 0 (.t 5),
 oo 40 <| .ld none (.t 39),
 oo 41 <| .bin .lss (.t 38) (.t 40)]
def rQfX9 : List O := [
 oo 44 <| .mv (.t 0),
 oo 45 <| .call nQk [(.t 44), (ki 5)],
 oo 46 <| .mv (.t 6),
 oo 47 <| .bin .sub (ki 5) (.t 46),
 oo 48 <| .bin .geq (.t 45) (.t 47)]
def rQfX10 : List O := [
 oo 49 <| .fad 1 (.t 5),
 oo 50 <| .ld none (.t 49),
 oo 51 <| .mv (.t 7),
 oo 52 <| .mv (.t 8),
 oo 53 <| .build [(.int .i64 0), (.int .i64 0)] [(0, 1, (.t 51)), (1, 1, (.t 52))],
 oo 54 <| .bslice 2 1 [(.int .i64 0), (.int .i64 0)] [(0, 2, (.t 53))],
 oo 55 <| .app 2 (.t 50) (.t 54),
 oo 56 <| .fad 1 (.t 5),
 oz <| .st 1 (.t 56) (.t 55)]
def rQfX11 : List O := [
 oo 42 <| .mv (.t 8),
 oo 43 <| .bin .add (.t 42) (ki 1),
 oo 8 <| .mv (.t 43)]
def lQfX0 : C := (.seq (.seq (.reg rQfX8 false [] [0, 4, 5, 6, 7, 8, 41]) (.cond (.t 41) .skip (.exit 2))) (.seq (.blk 3 (.seq (.reg rQfX9 false [] [0, 4, 5, 6, 7, 8, 48]) (.cond (.t 48) (.reg rQfX10 false [] [0, 4, 5, 6, 7, 8]) .skip))) (.reg rQfX11 false [] [0, 4, 5, 6, 7, 8])))
def rQfX12 : List O := [
 oo 34 <| .mv (.t 7),
 oo 35 <| .bin .add (.t 34) (ki 1),
 oo 7 <| .mv (.t 35)]
def lQfX1 : C := (.seq (.seq (.reg rQfX6 false [] [0, 4, 5, 6, 7, 33]) (.cond (.t 33) .skip (.exit 0))) (.seq (.blk 1 (.seq (.reg rQfX7 false [] [0, 4, 5, 6, 7, 8]) (.blk 2 (.loop lQfX0)))) (.reg rQfX12 false [] [0, 4, 5, 6, 7])))
def rQfX13 : List O := [
 oo 57 <| .ld (some 2) (.t 5),
 oz <| .st 2 (.t 4) (.t 57)]
def cQf : C := (.seq (.reg rQfX0 false [] [0, 1, 4]) (.seq (.reg rQfX1 false [] [0, 1, 4, 5]) (.seq (.seq (.reg rQfX2 false [] [0, 1, 4, 5, 16]) (.cond (.t 16) (.reg rQfX3 true [(8, 8), (9, 9), (10, 10), (0, 2), (2, 3), (2, 4), (2, 5), (0, 6), (1, 6), (2, 6)] [0, 4, 5]) .skip)) (.seq (.reg rQfX4 false [] [0, 4, 5, 6]) (.seq (.seq (.reg rQfX5 false [] [0, 4, 5, 6, 7]) (.blk 0 (.loop lQfX1))) (.seq (.reg rQfX13 false [] [4]) .ret))))))
def qQf : AFn := ⟨58, 2, [.c 4 (some 2)], cQf⟩
/- cohesion/cohesionmake.New -/
def rQgX0 : List O := [
 oo 2 <| .mv (.k .nilp)]
def rQgX1 : List O := [
 oo 3 <| .mv (.t 0),
 oo 4 <| .build [(.own 1 []), (.int .i64 0)] [(0, 1, (.t 3))],
 oo 5 <| .box (.t 4),
 oo 2 <| .mv (.t 5)]
def cQg : C := (.seq (.reg rQgX0 false [] [0]) (.seq (.reg rQgX1 false [] [2]) .ret))
def qQg : AFn := ⟨6, 1, [.t 2], cQg⟩
/- cohesion/degree.Degrees -/
def rQhX0 : List O := [
 oo 1 <| .box (.t 0),
 oo 2 <| .mv (.k (.own 1 [])),
 oo 3 <| .mv (ki 0)]
def rQhX1 : List O := [
 oo 8 <| .ld (some 2) (.t 1),
 oo 9 <| .call nQt [(.t 8)],
 oo 4 <| .mv (.t 9)]
def rQhX2 : List O := [
 oo 10 <| .mv (.t 4),
 oo 11 <| .bin .neq (.t 10) (ki 0)]
def rQhX3 : List O := [
 oo 12 <| .mv (.t 4),
 oo 2 <| .mv (.k (.own 1 [])),
 oo 3 <| .mv (.t 12)]
def rQhX4 : List O := [
 oo 5 <| .mv (.k (.own 1 []))]
def rQhX5 : List O := [
 oo 13 <| .ld (some 2) (.t 1),
 oo 14 <| .call nQu [(.t 13)],
 oo 15 <| .len (.t 14),
 oo 16 <| .mv (ki 0)]
def rQhX6 : List O := [
 oo 17 <| .bin .lss (.t 16) (.t 15)]
def rQhX7 : List O := [
 oo 18 <| .ixa 1 (.t 14) (.t 16),
 oo 19 <| .ld none (.t 18),
 oo 7 <| .mv (.t 19)]
def rQhX8 : List O := [
 oo 20 <| .mv (.t 5),
 oo 21 <| .mv (.t 7),
 oo 22 <| .call nQv [(.t 21)],
 oo 23 <| .bslice 1 1 [(.int .i64 0)] [(0, 1, (.t 22))],
 oo 24 <| .app 1 (.t 20) (.t 23),
 oo 5 <| .mv (.t 24)]
def rQhX9 : List O := [
 oo 25 <| .bin .add (.t 16) (ki 1),
 oo 16 <| .mv (.t 25)]
def lQhX0 : C := (.seq (.reg rQhX6 false [] [5, 14, 15, 16, 17]) (.seq (.cond (.t 17) .skip (.exit 0)) (.seq (.blk 1 (.seq (.reg rQhX7 false [] [5, 7, 14, 15, 16]) (.reg rQhX8 false [] [5, 14, 15, 16]))) (.reg rQhX9 false [] [5, 14, 15, 16]))))
def rQhX10 : List O := [
 oo 26 <| .mv (.t 5),
 oo 2 <| .mv (.t 26),
 oo 3 <| .mv (ki 0)]
def cQh : C := (.seq (.reg rQhX0 false [] [1]) (.seq (.seq (.reg rQhX1 false [] [1, 4]) (.seq (.reg rQhX2 false [] [1, 4, 11]) (.cond (.t 11) (.seq (.reg rQhX3 false [] [2, 3]) .ret) .skip))) (.seq (.reg rQhX4 false [] [1, 5]) (.seq (.seq (.reg rQhX5 false [] [5, 14, 15, 16]) (.blk 0 (.loop lQhX0))) (.seq (.reg rQhX10 false [] [2, 3]) .ret)))))
def qQh : AFn := ⟨27, 1, [.t 2, .t 3], cQh⟩
/- cohesion/cohesionref09.Degrees -/
def rQiX0 : List O := [
 oo 1 <| .box (.t 0),
 oo 2 <| .mv (.k (.own 1 [])),
 oo 3 <| .mv (ki 0)]
def rQiX1 : List O := [
 oo 7 <| .ld (some 2) (.t 1),
 oo 8 <| .call nQp [(.t 7)],
 oo 4 <| .mv (.t 8)]
def rQiX2 : List O := [
 oo 9 <| .mv (.t 4),
 oo 10 <| .bin .neq (.t 9) (ki 0)]
def rQiX3 : List O := [
 oo 11 <| .mv (.t 4),
 oo 2 <| .mv (.k (.own 1 [])),
 oo 3 <| .mv (.t 11)]
def rQiX4 : List O := [
 oo 5 <| .mv (.k (.own 1 []))]
def rQiX5 : List O := [
 oo 12 <| .fad 0 (.t 1),
 oo 13 <| .ld none (.t 12),
 oo 14 <| .mv (ki 0)]
def rQiX6 : List O := [
 oo 15 <| .bin .lss (.t 14) (.t 13)]
def rQiX7 : List O := [
 oo 16 <| .mv (.t 14),
 oo 6 <| .mv (.t 16)]
def rQiX8 : List O := [
 oo 17 <| .mv (.t 5),
 oo 18 <| .ld (some 2) (.t 1),
 oo 19 <| .mv (.t 6),
 oo 20 <| .call nQw [(.t 18), (.t 19)],
 oo 21 <| .bslice 1 1 [(.int .i64 0)] [(0, 1, (.t 20))],
 oo 22 <| .app 1 (.t 17) (.t 21),
 oo 5 <| .mv (.t 22)]
def rQiX9 : List O := [
 oo 23 <| .bin .add (.t 14) (ki 1),
 oo 14 <| .mv (.t 23)]
def lQiX0 : C := (.seq (.reg rQiX6 false [] [1, 5, 13, 14, 15]) (.seq (.cond (.t 15) .skip (.exit 0)) (.seq (.blk 1 (.seq (.reg rQiX7 false [] [1, 5, 6, 13, 14]) (.reg rQiX8 false [] [1, 5, 13, 14]))) (.reg rQiX9 false [] [1, 5, 13, 14]))))
def rQiX10 : List O := [
 oo 24 <| .mv (.t 5),
 oo 2 <| .mv (.t 24),
 oo 3 <| .mv (ki 0)]
def cQi : C := (.seq (.reg rQiX0 false [] [1]) (.seq (.seq (.reg rQiX1 false [] [1, 4]) (.seq (.reg rQiX2 false [] [1, 4, 10]) (.cond (.t 10) (.seq (.reg rQiX3 false [] [2, 3]) .ret) .skip))) (.seq (.reg rQiX4 false [] [1, 5]) (.seq (.seq (.reg rQiX5 false [] [1, 5, 13, 14]) (.blk 0 (.loop lQiX0))) (.seq (.reg rQiX10 false [] [2, 3]) .ret)))))
def qQi : AFn := ⟨25, 1, [.t 2, .t 3], cQi⟩
/- cohesion/cohesionref02.Same -/
def rQjX0 : List O := [
 oo 4 <| .mv (.k (.bool false))]
def rQjX1 : List O := [
 oo 5 <| .mv (.t 0),
 oo 6 <| .len (.t 5),
 oo 7 <| .mv (.t 1),
 oo 8 <| .len (.t 7),
 oo 9 <| .bin .eql (.t 6) (.t 8),
 oo 10 <| .mv (.t 9),
 ⟨(some 11), (some (10, true)), .mv (.t 0)⟩,
 ⟨(some 12), (some (10, true)), .mv (.t 1)⟩,
 ⟨(some 13), (some (10, true)), .call nQx [(.t 11), (.t 12)]⟩,
 ⟨(some 14), (some (10, true)), .bin .eql (.t 13) (ki 0)⟩,
 oo 15 <| .pick (.t 10) (.t 14) (.k (.bool false)),
 oo 4 <| .mv (.t 15)]
def cQj : C := (.seq (.reg rQjX0 false [] [0, 1]) (.seq (.reg rQjX1 false [] [4]) .ret))
def qQj : AFn := ⟨16, 2, [.t 4], cQj⟩
/- (*cohesion/cohesionmake.Deck).Next -/
def rQkX0 : List O := [
 oo 4 <| .mv (ki 0)]
def rQkX1 : List O := [
 oo 6 <| .mv (.t 1),
 oo 7 <| .bin .lss (.t 6) (ki 1),
 oo 8 <| .mv (.t 7),
 ⟨(some 9), (some (8, false)), .mv (.t 0)⟩,
 ⟨(some 10), (some (8, false)), .nilck (.t 9)⟩,
 ⟨(some 11), (some (8, false)), .fad 1 (.t 10)⟩,
 ⟨(some 12), (some (8, false)), .ld none (.t 11)⟩,
 ⟨(some 13), (some (8, false)), .mv (.t 0)⟩,
 ⟨(some 14), (some (8, false)), .nilck (.t 13)⟩,
 ⟨(some 15), (some (8, false)), .fad 0 (.t 14)⟩,
 ⟨(some 16), (some (8, false)), .ld none (.t 15)⟩,
 ⟨(some 17), (some (8, false)), .len (.t 16)⟩,
 ⟨(some 18), (some (8, false)), .bin .geq (.t 12) (.t 17)⟩,
 oo 19 <| .pick (.t 8) (.k (.bool true)) (.t 18)]
def rQkX2 : List O := [
 oo 4 <| .mv (ki 0)]
def rQkX3 : List O := [
 oo 20 <| .mv (.t 0),
 oo 21 <| .nilck (.t 20),
 oo 22 <| .fad 0 (.t 21),
 oo 23 <| .ld none (.t 22),
 oo 24 <| .mv (.t 0),
 oo 25 <| .nilck (.t 24),
 oo 26 <| .fad 1 (.t 25),
 oo 27 <| .ld none (.t 26),
 oo 28 <| .ixa 1 (.t 23) (.t 27),
 oo 29 <| .ld none (.t 28),
 oo 5 <| .mv (.t 29)]
def rQkX4 : List O := [
 oo 30 <| .mv (.t 0),
 oo 31 <| .nilck (.t 30),
 oo 32 <| .fad 1 (.t 31),
 oo 33 <| .ld none (.t 32),
 oo 34 <| .bin .add (.t 33) (ki 1),
 oo 35 <| .nilck (.t 30),
 oo 36 <| .fad 1 (.t 35),
 oz <| .st 1 (.t 36) (.t 34)]
def rQkX5 : List O := [
 oo 37 <| .mv (.t 5),
 oo 38 <| .mv (.t 1),
 oo 39 <| .call nQb [(.t 37), (.t 38)],
 oo 4 <| .mv (.t 39)]
def cQk : C := (.seq (.reg rQkX0 false [] [0, 1]) (.seq (.seq (.reg rQkX1 true [(0, 0), (1, 1), (2, 2), (12, 12), (13, 13), (6, 7), (6, 8), (6, 9), (3, 10), (4, 10), (5, 10), (6, 10), (6, 11)] [0, 1, 19]) (.cond (.t 19) (.seq (.reg rQkX2 false [] [4]) .ret) .skip)) (.seq (.reg rQkX3 true [(8, 8), (9, 9), (10, 10), (3, 4), (3, 5), (3, 6), (0, 7), (1, 7), (2, 7), (3, 7)] [0, 1, 5]) (.seq (.reg rQkX4 false [] [1, 5]) (.seq (.reg rQkX5 false [] [4]) .ret)))))
def qQk : AFn := ⟨40, 2, [.t 4], cQk⟩
/- cohesion/degree.Realise -/
def rQlX0 : List O := [
 oo 2 <| .new [(.int .i64 0), (.own 2 [])],
 oo 3 <| .mv (ki 0)]
def rQlX1 : List O := [
 oo 6 <| .mv (.t 0),
 oo 7 <| .len (.t 6),
 oo 8 <| .bin .gtr (.t 7) (ki 64)]
def rQlX2 : List O := [
 oo 9 <| .build [(.int .i64 0), (.own 2 [])] [],
 oz <| .st 2 (.t 2) (.t 9),
 oo 3 <| .mv (ki 3)]
def rQlX3 : List O := [
 oo 11 <| .mv (.t 0),
 oo 12 <| .call nQq [(.t 11)],
 oo 10 <| .mv (.t 12),
 oo 13 <| .ext 0 (.t 10),
 oo 14 <| .ext 1 (.t 10),
 oo 4 <| .mv (.t 13),
 oo 5 <| .mv (.t 14)]
def rQlX4 : List O := [
 oo 15 <| .mv (.t 5),
 oo 16 <| .un .not (.t 15)]
def rQlX5 : List O := [
 oo 17 <| .build [(.int .i64 0), (.own 2 [])] [],
 oz <| .st 2 (.t 2) (.t 17),
 oo 3 <| .mv (ki 13)]
def rQlX6 : List O := [
 oo 18 <| .mv (.t 0),
 oo 19 <| .len (.t 18),
 oo 20 <| .mv (.t 4),
 oo 21 <| .call nQy [(.t 19), (.t 20)],
 oo 22 <| .ext 0 (.t 21),
 oo 23 <| .ext 1 (.t 21),
 oz <| .st 2 (.t 2) (.t 22),
 oo 3 <| .mv (.t 23)]
def cQl : C := (.seq (.reg rQlX0 false [] [0, 2]) (.seq (.seq (.reg rQlX1 false [] [0, 2, 8]) (.cond (.t 8) (.seq (.reg rQlX2 false [] [2, 3]) .ret) .skip)) (.seq (.reg rQlX3 false [] [0, 2, 4, 5]) (.seq (.seq (.reg rQlX4 false [] [0, 2, 4, 16]) (.cond (.t 16) (.seq (.reg rQlX5 false [] [2, 3]) .ret) .skip)) (.seq (.reg rQlX6 false [] [2, 3]) .ret)))))
def qQl : AFn := ⟨24, 1, [.c 2 (some 2), .t 3], cQl⟩
/- cohesion/cohesionref09.Realise -/
def rQmX0 : List O := [
 oo 2 <| .new [(.int .i64 0), (.own 2 [])],
 oo 3 <| .mv (ki 0)]
def rQmX1 : List O := [
 oo 16 <| .mv (.t 0),
 oo 17 <| .len (.t 16),
 oo 18 <| .bin .gtr (.t 17) (ki 64)]
def rQmX2 : List O := [
 oo 19 <| .build [(.int .i64 0), (.own 2 [])] [],
 oz <| .st 2 (.t 2) (.t 19),
 oo 3 <| .mv (ki 3)]
def rQmX3 : List O := [
 oo 20 <| .mv (.t 0),
 oo 21 <| .len (.t 20),
 oo 22 <| .mv (ki 0)]
def rQmX4 : List O := [
 oo 23 <| .bin .lss (.t 22) (.t 21)]
def rQmX5 : List O := [
 oo 24 <| .ixa 1 (.t 20) (.t 22),
 oo 25 <| .ld none (.t 24),
 oo 5 <| .mv (.t 25)]
def rQmX6 : List O := [
 oo 26 <| .mv (.t 5),
 oo 27 <| .bin .lss (.t 26) (ki 0),
 oo 28 <| .mv (.t 27),
 ⟨(some 29), (some (28, false)), .mv (.t 5)⟩,
 ⟨(some 30), (some (28, false)), .mv (.t 0)⟩,
 ⟨(some 31), (some (28, false)), .len (.t 30)⟩,
 ⟨(some 32), (some (28, false)), .bin .geq (.t 29) (.t 31)⟩,
 oo 33 <| .pick (.t 28) (.k (.bool true)) (.t 32)]
def rQmX7 : List O := [
 oo 34 <| .build [(.int .i64 0), (.own 2 [])] [],
 oz <| .st 2 (.t 2) (.t 34),
 oo 3 <| .mv (ki 13)]
def rQmX8 : List O := [
 oo 35 <| .bin .add (.t 22) (ki 1),
 oo 22 <| .mv (.t 35)]
def lQmX0 : C := (.seq (.reg rQmX4 false [] [0, 2, 20, 21, 22, 23]) (.seq (.cond (.t 23) .skip (.exit 0)) (.seq (.blk 1 (.seq (.reg rQmX5 false [] [0, 2, 5, 20, 21, 22]) (.seq (.reg rQmX6 false [] [0, 2, 20, 21, 22, 33]) (.cond (.t 33) (.seq (.reg rQmX7 false [] [2, 3]) .ret) .skip)))) (.reg rQmX8 false [] [0, 2, 20, 21, 22]))))
def rQmX9 : List O := [
 oo 36 <| .mv (.t 0),
 oo 37 <| .app 1 (.k (.own 1 [])) (.t 36),
 oo 6 <| .mv (.t 37)]
def rQmX10 : List O := [
 oo 38 <| .mv (.t 0),
 oo 39 <| .len (.t 38),
 oo 40 <| .build [(.int .i64 0), (.own 2 [])] [(0, 1, (.t 39))],
 oo 7 <| .new [(.int .i64 0), (.own 2 [])],
 oz <| .st 2 (.t 7) (.t 40)]
def rQmX11 : List O := [
 oo 41 <| .mv (.t 6),
 oo 42 <| .call nQz [(.t 41), (.k (.own 1 []))],
 oo 8 <| .mv (.t 42)]
def rQmX12 : List O := [
 oo 43 <| .mv (.t 8),
 oo 44 <| .bin .lss (.t 43) (ki 0)]
def rQmX13 : List O := [
 oo 45 <| .mv (.t 6),
 oo 46 <| .mv (.t 8),
 oo 47 <| .ixa 1 (.t 45) (.t 46),
 oo 48 <| .ld none (.t 47),
 oo 9 <| .mv (.t 48)]
def rQmX14 : List O := [
 oo 49 <| .mv (.t 6),
 oo 50 <| .mv (.t 8),
 oo 51 <| .ixa 1 (.t 49) (.t 50),
 oz <| .st 1 (.t 51) (ki 0)]
def rQmX15 : List O := [
 oo 52 <| .mv (.t 8),
 oo 53 <| .bslice 1 1 [(.int .i64 0)] [(0, 1, (.t 52))],
 oo 10 <| .mv (.t 53)]
def rQmX16 : List O := [
 oo 54 <| .mv (.t 9),
 oo 55 <| .mv (ki 0)]
def rQmX17 : List O := [
 oo 56 <| .bin .lss (.t 55) (.t 54)]
def rQmX18 : List O := [
 oo 57 <| .mv (.t 6),
 oo 58 <| .mv (.t 10),
 oo 59 <| .call nQz [(.t 57), (.t 58)],
 oo 11 <| .mv (.t 59)]
def rQmX19 : List O := [
 oo 60 <| .mv (.t 11),
 oo 61 <| .bin .lss (.t 60) (ki 0)]
def rQmX20 : List O := [
 oo 62 <| .build [(.int .i64 0), (.own 2 [])] [],
 oz <| .st 2 (.t 2) (.t 62),
 oo 3 <| .mv (ki 13)]
def rQmX21 : List O := [
 oo 64 <| .ld (some 2) (.t 7),
 oo 65 <| .mv (.t 8),
 oo 66 <| .mv (.t 11),
 oo 67 <| .call nQA [(.t 64), (.t 65), (.t 66)],
 oo 63 <| .mv (.t 67),
 oo 68 <| .ext 0 (.t 63),
 oo 69 <| .ext 1 (.t 63),
 oo 12 <| .new [(.int .i64 0), (.own 2 [])],
 oz <| .st 2 (.t 12) (.t 68),
 oo 13 <| .mv (.t 69)]
def rQmX22 : List O := [
 oo 70 <| .mv (.t 13),
 oo 71 <| .bin .neq (.t 70) (ki 0)]
def rQmX23 : List O := [
 oo 72 <| .build [(.int .i64 0), (.own 2 [])] [],
 oz <| .st 2 (.t 2) (.t 72),
 oo 3 <| .mv (ki 13)]
def rQmX24 : List O := [
 oo 73 <| .ld (some 2) (.t 12),
 oz <| .st 2 (.t 7) (.t 73)]
def rQmX25 : List O := [
 oo 74 <| .mv (.t 6),
 oo 75 <| .mv (.t 11),
 oo 76 <| .ixa 1 (.t 74) (.t 75),
 oo 77 <| .ld none (.t 76),
 oo 78 <| .bin .sub (.t 77) (ki 1),
 oo 79 <| .ixa 1 (.t 74) (.t 75),
 oz <| .st 1 (.t 79) (.t 78)]
def rQmX26 : List O := [
 oo 80 <| .mv (.t 10),
 oo 81 <| .mv (.t 11),
 oo 82 <| .bslice 1 1 [(.int .i64 0)] [(0, 1, (.t 81))],
 oo 83 <| .app 1 (.t 80) (.t 82),
 oo 10 <| .mv (.t 83)]
def rQmX27 : List O := [
 oo 84 <| .bin .add (.t 55) (ki 1),
 oo 55 <| .mv (.t 84)]
def lQmX1 : C := (.seq (.reg rQmX17 false [] [2, 6, 7, 8, 10, 54, 55, 56]) (.seq (.cond (.t 56) .skip (.exit 4)) (.seq (.blk 5 (.seq (.reg rQmX18 false [] [2, 6, 7, 8, 10, 11, 54, 55]) (.seq (.seq (.reg rQmX19 false [] [2, 6, 7, 8, 10, 11, 54, 55, 61]) (.cond (.t 61) (.seq (.reg rQmX20 false [] [2, 3]) .ret) .skip)) (.seq (.reg rQmX21 false [] [2, 6, 7, 8, 10, 11, 12, 13, 54, 55]) (.seq (.seq (.reg rQmX22 false [] [2, 6, 7, 8, 10, 11, 12, 54, 55, 71]) (.cond (.t 71) (.seq (.reg rQmX23 false [] [2, 3]) .ret) .skip)) (.seq (.reg rQmX24 false [] [2, 6, 7, 8, 10, 11, 54, 55]) (.seq (.reg rQmX25 false [] [2, 6, 7, 8, 10, 11, 54, 55]) (.reg rQmX26 false [] [2, 6, 7, 8, 10, 54, 55])))))))) (.reg rQmX27 false [] [2, 6, 7, 8, 10, 54, 55]))))
def lQmX2 : C := (.blk 3 (.seq (.reg rQmX11 false [] [2, 6, 7, 8]) (.seq (.seq (.reg rQmX12 false [] [2, 6, 7, 8, 44]) (.cond (.t 44) (.exit 2) .skip)) (.seq (.reg rQmX13 false [] [2, 6, 7, 8, 9]) (.seq (.reg rQmX14 false [] [2, 6, 7, 8, 9]) (.seq (.reg rQmX15 false [] [2, 6, 7, 8, 9, 10]) (.seq (.reg rQmX16 false [] [2, 6, 7, 8, 10, 54, 55]) (.blk 4 (.loop lQmX1)))))))))
def rQmX28 : List O := [
 oo 85 <| .mv (.t 6),
 oo 86 <| .len (.t 85),
 oo 87 <| .mv (ki 0)]
def rQmX29 : List O := [
 oo 88 <| .bin .lss (.t 87) (.t 86)]
def rQmX30 : List O := [
 oo 89 <| .ixa 1 (.t 85) (.t 87),
 oo 90 <| .ld none (.t 89),
 oo 15 <| .mv (.t 90)]
def rQmX31 : List O := [
 oo 91 <| .mv (.t 15),
 oo 92 <| .bin .neq (.t 91) (ki 0)]
def rQmX32 : List O := [
 oo 93 <| .build [(.int .i64 0), (.own 2 [])] [],
 oz <| .st 2 (.t 2) (.t 93),
 oo 3 <| .mv (ki 13)]
def rQmX33 : List O := [
 oo 94 <| .bin .add (.t 87) (ki 1),
 oo 87 <| .mv (.t 94)]
def lQmX3 : C := (.seq (.reg rQmX29 false [] [2, 7, 85, 86, 87, 88]) (.seq (.cond (.t 88) .skip (.exit 6)) (.seq (.blk 7 (.seq (.reg rQmX30 false [] [2, 7, 15, 85, 86, 87]) (.seq (.reg rQmX31 false [] [2, 7, 85, 86, 87, 92]) (.cond (.t 92) (.seq (.reg rQmX32 false [] [2, 3]) .ret) .skip)))) (.reg rQmX33 false [] [2, 7, 85, 86, 87]))))
def rQmX34 : List O := [
 oo 95 <| .ld (some 2) (.t 7),
 oz <| .st 2 (.t 2) (.t 95),
 oo 3 <| .mv (ki 0)]
def cQm : C := (.seq (.reg rQmX0 false [] [0, 2]) (.seq (.seq (.reg rQmX1 false [] [0, 2, 18]) (.cond (.t 18) (.seq (.reg rQmX2 false [] [2, 3]) .ret) .skip)) (.seq (.seq (.reg rQmX3 false [] [0, 2, 20, 21, 22]) (.blk 0 (.loop lQmX0))) (.seq (.reg rQmX9 false [] [0, 2, 6]) (.seq (.reg rQmX10 false [] [2, 6, 7]) (.seq (.blk 2 (.loop lQmX2)) (.seq (.seq (.reg rQmX28 false [] [2, 7, 85, 86, 87]) (.blk 6 (.loop lQmX3))) (.seq (.reg rQmX34 false [] [2, 3]) .ret))))))))
def qQm : AFn := ⟨96, 1, [.c 2 (some 2), .t 3], cQm⟩
/- cohesion/cohesionref03.Same -/
def rQnX0 : List O := [
 oo 2 <| .box (.t 0),
 oo 3 <| .box (.t 1),
 oo 4 <| .mv (.k (.bool false))]
def rQnX1 : List O := [
 oo 5 <| .fad 0 (.t 2),
 oo 6 <| .ld none (.t 5),
 oo 7 <| .fad 0 (.t 3),
 oo 8 <| .ld none (.t 7),
 oo 9 <| .bin .eql (.t 6) (.t 8),
 oo 10 <| .mv (.t 9),
 ⟨(some 11), (some (10, true)), .fad 1 (.t 2)⟩,
 ⟨(some 12), (some (10, true)), .ld none (.t 11)⟩,
 ⟨(some 13), (some (10, true)), .fad 1 (.t 3)⟩,
 ⟨(some 14), (some (10, true)), .ld none (.t 13)⟩,
 ⟨(some 15), (some (10, true)), .call nQB [(.t 12), (.t 14)]⟩,
 oo 16 <| .pick (.t 10) (.t 15) (.k (.bool false)),
 oo 4 <| .mv (.t 16)]
def cQn : C := (.seq (.reg rQnX0 false [] [2, 3]) (.seq (.reg rQnX1 false [] [4]) .ret))
def qQn : AFn := ⟨17, 2, [.t 4], cQn⟩
/- cohesion/cohesionref09.Graphic -/
def rQoX0 : List O := [
 oo 2 <| .mv (.k (.bool false))]
def rQoX1 : List O := [
 oo 6 <| .mv (.t 0),
 oo 7 <| .call nQm [(.t 6)],
 oo 5 <| .mv (.t 7),
 oo 8 <| .ext 0 (.t 5),
 oo 9 <| .ext 1 (.t 5),
 oo 3 <| .new [(.int .i64 0), (.own 2 [])],
 oz <| .st 2 (.t 3) (.t 8),
 oo 4 <| .mv (.t 9)]
def rQoX2 : List O := [
 oo 10 <| .mv (.t 4),
 oo 11 <| .bin .eql (.t 10) (ki 0),
 oo 2 <| .mv (.t 11)]
def cQo : C := (.seq (.reg rQoX0 false [] [0]) (.seq (.reg rQoX1 false [] [4]) (.seq (.reg rQoX2 false [] [2]) .ret)))
def qQo : AFn := ⟨12, 1, [.t 2], cQo⟩
/- cohesion/cohesionref03.Check -/
def rQpX0 : List O := [
 oo 1 <| .box (.t 0),
 oo 2 <| .mv (ki 0)]
def rQpX1 : List O := [
 oo 5 <| .fad 0 (.t 1),
 oo 6 <| .ld none (.t 5),
 oo 7 <| .bin .lss (.t 6) (ki 0),
 oo 8 <| .mv (.t 7),
 ⟨(some 9), (some (8, false)), .fad 0 (.t 1)⟩,
 ⟨(some 10), (some (8, false)), .ld none (.t 9)⟩,
 ⟨(some 11), (some (8, false)), .bin .gtr (.t 10) (ki 64)⟩,
 oo 12 <| .pick (.t 8) (.k (.bool true)) (.t 11)]
def rQpX2 : List O := [
 oo 2 <| .mv (ki 1)]
def rQpX3 : List O := [
 oo 13 <| .fad 1 (.t 1),
 oo 14 <| .ld none (.t 13),
 oo 15 <| .len (.t 14),
 oo 16 <| .mv (ki 0)]
def rQpX4 : List O := [
 oo 17 <| .bin .lss (.t 16) (.t 15)]
def rQpX5 : List O := [
 oo 18 <| .mv (.t 16),
 oo 19 <| .ixa 2 (.t 14) (.t 16),
 oo 20 <| .ld (some 2) (.t 19),
 oo 4 <| .new [(.int .i64 0), (.int .i64 0)],
 oo 3 <| .mv (.t 18),
 oz <| .st 2 (.t 4) (.t 20)]
def rQpX6 : List O := [
 oo 21 <| .fad 0 (.t 4),
 oo 22 <| .ld none (.t 21),
 oo 23 <| .bin .lss (.t 22) (ki 0),
 oo 24 <| .mv (.t 23),
 ⟨(some 25), (some (24, false)), .fad 0 (.t 4)⟩,
 ⟨(some 26), (some (24, false)), .ld none (.t 25)⟩,
 ⟨(some 27), (some (24, false)), .fad 1 (.t 4)⟩,
 ⟨(some 28), (some (24, false)), .ld none (.t 27)⟩,
 ⟨(some 29), (some (24, false)), .bin .geq (.t 26) (.t 28)⟩,
 oo 30 <| .pick (.t 24) (.k (.bool true)) (.t 29),
 oo 31 <| .mv (.t 30),
 ⟨(some 32), (some (31, false)), .fad 1 (.t 4)⟩,
 ⟨(some 33), (some (31, false)), .ld none (.t 32)⟩,
 ⟨(some 34), (some (31, false)), .fad 0 (.t 1)⟩,
 ⟨(some 35), (some (31, false)), .ld none (.t 34)⟩,
 ⟨(some 36), (some (31, false)), .bin .geq (.t 33) (.t 35)⟩,
 oo 37 <| .pick (.t 31) (.k (.bool true)) (.t 36)]
def rQpX7 : List O := [
 oo 2 <| .mv (ki 6)]
def rQpX8 : List O := [
 oo 38 <| .mv (.t 3),
 oo 39 <| .bin .gtr (.t 38) (ki 0),
 oo 40 <| .mv (.t 39),
 ⟨(some 41), (some (40, true)), .fad 1 (.t 1)⟩,
 ⟨(some 42), (some (40, true)), .ld none (.t 41)⟩,
 ⟨(some 43), (some (40, true)), .mv (.t 3)⟩,
 ⟨(some 44), (some (40, true)), .bin .sub (.t 43) (ki 1)⟩,
 ⟨(some 45), (some (40, true)), .ixa 2 (.t 42) (.t 44)⟩,
 ⟨(some 46), (some (40, true)), .ld (some 2) (.t 45)⟩,
 ⟨(some 47), (some (40, true)), .ld (some 2) (.t 4)⟩,
 ⟨(some 48), (some (40, true)), .call nQC [(.t 46), (.t 47)]⟩,
 ⟨(some 49), (some (40, true)), .un .not (.t 48)⟩,
 oo 50 <| .pick (.t 40) (.t 49) (.k (.bool false))]
def rQpX9 : List O := [
 oo 2 <| .mv (ki 5)]
def rQpX10 : List O := [
 oo 51 <| .bin .add (.t 16) (ki 1),
 oo 16 <| .mv (.t 51)]
def lQpX0 : C := (.seq (.reg rQpX4 false [] [1, 14, 15, 16, 17]) (.seq (.cond (.t 17) .skip (.exit 0)) (.seq (.blk 1 (.seq (.reg rQpX5 false [] [1, 3, 4, 14, 15, 16]) (.seq (.seq (.reg rQpX6 false [] [1, 3, 4, 14, 15, 16, 37]) (.cond (.t 37) (.seq (.reg rQpX7 false [] [2]) .ret) .skip)) (.seq (.reg rQpX8 true [(0, 0), (1, 1), (2, 2), (10, 10), (11, 11), (12, 12), (4, 5), (4, 6), (3, 9), (4, 9), (5, 9), (6, 9), (7, 9), (8, 9)] [1, 14, 15, 16, 50]) (.cond (.t 50) (.seq (.reg rQpX9 false [] [2]) .ret) .skip))))) (.reg rQpX10 false [] [1, 14, 15, 16]))))
def rQpX11 : List O := [
 oo 2 <| .mv (ki 0)]
def cQp : C := (.seq (.reg rQpX0 false [] [1]) (.seq (.seq (.reg rQpX1 false [] [1, 12]) (.cond (.t 12) (.seq (.reg rQpX2 false [] [2]) .ret) .skip)) (.seq (.seq (.reg rQpX3 false [] [1, 14, 15, 16]) (.blk 0 (.loop lQpX0))) (.seq (.reg rQpX11 false [] [2]) .ret))))
def qQp : AFn := ⟨52, 1, [.t 2], cQp⟩
/- cohesion/degree.realise -/
def rQqX0 : List O := [
 oo 2 <| .mv (.k (.own 2 [])),
 oo 3 <| .mv (.k (.bool false))]
def rQqX1 : List O := [
 oo 4 <| .mv (.k (.own 2 []))]
def rQqX2 : List O := [
 oo 10 <| .mv (.t 0),
 oo 11 <| .len (.t 10),
 oo 12 <| .mv (ki 0)]
def rQqX3 : List O := [
 oo 13 <| .bin .lss (.t 12) (.t 11)]
def rQqX4 : List O := [
 oo 14 <| .mv (.t 12),
 oo 15 <| .ixa 1 (.t 10) (.t 12),
 oo 16 <| .ld none (.t 15),
 oo 5 <| .mv (.t 14),
 oo 6 <| .mv (.t 16)]
def rQqX5 : List O := [
 oo 17 <| .mv (.t 6),
 oo 18 <| .bin .lss (.t 17) (ki 0),
 oo 19 <| .mv (.t 18),
 ⟨(some 20), (some (19, false)), .mv (.t 6)⟩,
 ⟨(some 21), (some (19, false)), .mv (.t 0)⟩,
 ⟨(some 22), (some (19, false)), .len (.t 21)⟩,
 ⟨(some 23), (some (19, false)), .bin .geq (.t 20) (.t 22)⟩,
 oo 24 <| .pick (.t 19) (.k (.bool true)) (.t 23)]
def rQqX6 : List O := [
 oo 2 <| .mv (.k (.own 2 [])),
 oo 3 <| .mv (.k (.bool false))]
def rQqX7 : List O := [
 oo 25 <| .mv (.t 4),
 oo 26 <| .mv (.t 5),
 oo 27 <| .mv (.t 6),
 oo 28 <| .build [(.int .i64 0), (.int .i64 0)] [(0, 1, (.t 26)), (1, 1, (.t 27))],
 oo 29 <| .bslice 2 1 [(.int .i64 0), (.int .i64 0)] [(0, 2, (.t 28))],
 oo 30 <| .app 2 (.t 25) (.t 29),
 oo 4 <| .mv (.t 30)]
def rQqX8 : List O := [
 oo 31 <| .bin .add (.t 12) (ki 1),
 oo 12 <| .mv (.t 31)]
def lQqX0 : C := (.seq (.reg rQqX3 false [] [0, 4, 10, 11, 12, 13]) (.seq (.cond (.t 13) .skip (.exit 0)) (.seq (.blk 1 (.seq (.reg rQqX4 false [] [0, 4, 5, 6, 10, 11, 12]) (.seq (.seq (.reg rQqX5 false [] [0, 4, 5, 6, 10, 11, 12, 24]) (.cond (.t 24) (.seq (.reg rQqX6 false [] [2, 3]) .ret) .skip)) (.reg rQqX7 false [] [0, 4, 10, 11, 12])))) (.reg rQqX8 false [] [0, 4, 10, 11, 12]))))
def rQqX9 : List O := [
 oo 7 <| .mv (.k (.own 2 []))]
def rQqX10 : List O := [
 oo 32 <| .mv (.t 4),
 oo 33 <| .len (.t 32),
 oo 34 <| .bin .gtr (.t 33) (ki 0)]
def rQqX11 : List O := [
 oo 35 <| .mv (.t 4),
 oo 36 <| .call 45 [(.t 35), (.k (.func (.func 46) [] []))]]
def rQqX12 : List O := [
 oo 37 <| .mv (.t 4),
 oo 38 <| .ixa 2 (.t 37) (ki 0),
 oo 39 <| .ld (some 2) (.t 38),
 oo 8 <| .new [(.int .i64 0), (.int .i64 0)],
 oz <| .st 2 (.t 8) (.t 39)]
def rQqX13 : List O := [
 oo 40 <| .mv (.t 4),
 oo 41 <| .slc 2 (.t 40) (some (ki 1)) none,
 oo 4 <| .mv (.t 41)]
def rQqX14 : List O := [
 oo 42 <| .fad 1 (.t 8),
 oo 43 <| .ld none (.t 42),
 oo 44 <| .mv (.t 4),
 oo 45 <| .len (.t 44),
 oo 46 <| .bin .gtr (.t 43) (.t 45)]
def rQqX15 : List O := [
 oo 2 <| .mv (.k (.own 2 [])),
 oo 3 <| .mv (.k (.bool false))]
def rQqX16 : List O := [
 oo 47 <| .fad 1 (.t 8),
 oo 48 <| .ld none (.t 47),
 oo 49 <| .mv (ki 0)]
def rQqX17 : List O := [
 oo 50 <| .bin .lss (.t 49) (.t 48)]
def rQqX18 : List O := [
 oo 51 <| .mv (.t 49),
 oo 9 <| .mv (.t 51)]
def rQqX19 : List O := [
 oo 52 <| .mv (.t 4),
 oo 53 <| .mv (.t 9),
 oo 54 <| .ixa 2 (.t 52) (.t 53),
 oo 55 <| .fad 1 (.t 54),
 oo 56 <| .ld none (.t 55),
 oo 57 <| .bin .eql (.t 56) (ki 0)]
def rQqX20 : List O := [
 oo 2 <| .mv (.k (.own 2 [])),
 oo 3 <| .mv (.k (.bool false))]
def rQqX21 : List O := [
 oo 58 <| .mv (.t 4),
 oo 59 <| .mv (.t 9),
 oo 60 <| .ixa 2 (.t 58) (.t 59),
 oo 61 <| .fad 1 (.t 60),
 oo 62 <| .ld none (.t 61),
 oo 63 <| .bin .sub (.t 62) (ki 1),
 oo 64 <| .ixa 2 (.t 58) (.t 59),
 oo 65 <| .fad 1 (.t 64),
 oz <| .st 1 (.t 65) (.t 63)]
def rQqX22 : List O := [
 oo 66 <| .mv (.t 7),
 oo 67 <| .fad 0 (.t 8),
 oo 68 <| .ld none (.t 67),
 oo 69 <| .mv (.t 4),
 oo 70 <| .mv (.t 9),
 oo 71 <| .ixa 2 (.t 69) (.t 70),
 oo 72 <| .fad 0 (.t 71),
 oo 73 <| .ld none (.t 72),
 oo 74 <| .build [(.int .i64 0), (.int .i64 0)] [(0, 1, (.t 68)), (1, 1, (.t 73))],
 oo 75 <| .bslice 2 1 [(.int .i64 0), (.int .i64 0)] [(0, 2, (.t 74))],
 oo 76 <| .app 2 (.t 66) (.t 75),
 oo 7 <| .mv (.t 76)]
def rQqX23 : List O := [
 oo 77 <| .bin .add (.t 49) (ki 1),
 oo 49 <| .mv (.t 77)]
def lQqX1 : C := (.seq (.reg rQqX17 false [] [4, 7, 8, 48, 49, 50]) (.seq (.cond (.t 50) .skip (.exit 4)) (.seq (.blk 5 (.seq (.reg rQqX18 false [] [4, 7, 8, 9, 48, 49]) (.seq (.seq (.reg rQqX19 false [] [4, 7, 8, 9, 48, 49, 57]) (.cond (.t 57) (.seq (.reg rQqX20 false [] [2, 3]) .ret) .skip)) (.seq (.reg rQqX21 false [] [4, 7, 8, 9, 48, 49]) (.reg rQqX22 true [(10, 10), (11, 11), (0, 2), (2, 3), (2, 4), (2, 5), (2, 6), (0, 7), (1, 7), (2, 7), (0, 9)] [4, 7, 8, 48, 49]))))) (.reg rQqX23 false [] [4, 7, 8, 48, 49]))))
def lQqX2 : C := (.seq (.seq (.reg rQqX10 false [] [4, 7, 34]) (.cond (.t 34) .skip (.exit 2))) (.blk 3 (.seq (.reg rQqX11 false [] [4, 7]) (.seq (.reg rQqX12 false [] [4, 7, 8]) (.seq (.reg rQqX13 false [] [4, 7, 8]) (.seq (.seq (.reg rQqX14 false [] [4, 7, 8, 46]) (.cond (.t 46) (.seq (.reg rQqX15 false [] [2, 3]) .ret) .skip)) (.seq (.reg rQqX16 false [] [4, 7, 8, 48, 49]) (.blk 4 (.loop lQqX1)))))))))
def rQqX24 : List O := [
 oo 78 <| .mv (.t 7),
 oo 2 <| .mv (.t 78),
 oo 3 <| .mv (.k (.bool true))]
def cQq : C := (.seq (.reg rQqX0 false [] [0]) (.seq (.reg rQqX1 false [] [0, 4]) (.seq (.seq (.reg rQqX2 false [] [0, 4, 10, 11, 12]) (.blk 0 (.loop lQqX0))) (.seq (.reg rQqX9 false [] [4, 7]) (.seq (.blk 2 (.loop lQqX2)) (.seq (.reg rQqX24 false [] [2, 3]) .ret))))))
def qQq : AFn := ⟨79, 1, [.t 2, .t 3], cQq⟩
/- slices.Clone[[]int,int] -/
def rQrX0 : List O := [
 oo 2 <| .mv (.k (.own 1 []))]
def rQrX1 : List O := [
 oo 3 <| .mv (.t 0),
 oo 4 <| .eq false .nsl (.t 3) (.k (.own 1 []))]
def rQrX2 : List O := [
 oo 2 <| .mv (.k (.own 1 []))]
def rQrX3 : List O := [
 oo 5 <| .bslice 1 0 [(.int .i64 0)] [],
 oo 6 <| .mv (.t 0),
 oo 7 <| .app 1 (.t 5) (.t 6),
 oo 2 <| .mv (.t 7)]
def cQr : C := (.seq (.reg rQrX0 false [] [0]) (.seq (.seq (.reg rQrX1 false [] [0, 4]) (.cond (.t 4) (.seq (.reg rQrX2 false [] [2]) .ret) .skip)) (.seq (.reg rQrX3 false [] [2]) .ret)))
def qQr : AFn := ⟨8, 1, [.t 2], cQr⟩
/- slices.Sort[[]int,int] -/
def rQsX0 : List O := [
 oo 3 <| .mv (.t 0),
 oo 4 <| .len (.t 3),
 oo 2 <| .mv (.t 4)]
def rQsX1 : List O := [
 oo 5 <| .mv (.t 0),
 oo 6 <| .mv (.t 2),
 oo 7 <| .mv (.t 2),
 oo 8 <| .cvt .u64 (.t 7),
 oo 9 <| .call 48 [(.t 8)],
 oo 10 <| .call 47 [(.t 5), (ki 0), (.t 6), (.t 9)]]
def cQs : C := (.seq (.reg rQsX0 false [] [0, 2]) (.reg rQsX1 false [] []))
def qQs : AFn := ⟨11, 1, [], cQs⟩
/- cohesion/graph.Check -/
def rQtX0 : List O := [
 oo 1 <| .box (.t 0),
 oo 2 <| .mv (ki 0)]
def rQtX1 : List O := [
 oo 5 <| .fad 0 (.t 1),
 oo 6 <| .ld none (.t 5),
 oo 7 <| .bin .lss (.t 6) (ki 0),
 oo 8 <| .mv (.t 7),
 ⟨(some 9), (some (8, false)), .fad 0 (.t 1)⟩,
 ⟨(some 10), (some (8, false)), .ld none (.t 9)⟩,
 ⟨(some 11), (some (8, false)), .bin .gtr (.t 10) (ki 64)⟩,
 oo 12 <| .pick (.t 8) (.k (.bool true)) (.t 11)]
def rQtX2 : List O := [
 oo 2 <| .mv (ki 1)]
def rQtX3 : List O := [
 oo 13 <| .fad 1 (.t 1),
 oo 14 <| .ld none (.t 13),
 oo 15 <| .len (.t 14),
 oo 16 <| .mv (ki 0)]
def rQtX4 : List O := [
 oo 17 <| .bin .lss (.t 16) (.t 15)]
def rQtX5 : List O := [
 oo 18 <| .mv (.t 16),
 oo 19 <| .ixa 2 (.t 14) (.t 16),
 oo 20 <| .ld (some 2) (.t 19),
 oo 4 <| .new [(.int .i64 0), (.int .i64 0)],
 oo 3 <| .mv (.t 18),
 oz <| .st 2 (.t 4) (.t 20)]
def rQtX6 : List O := [
 oo 22 <| .fad 0 (.t 4),
 oo 23 <| .ld none (.t 22),
 oo 24 <| .bin .lss (.t 23) (ki 0),
 oo 25 <| .mv (.t 24),
 ⟨(some 26), (some (25, false)), .fad 0 (.t 4)⟩,
 ⟨(some 27), (some (25, false)), .ld none (.t 26)⟩,
 ⟨(some 28), (some (25, false)), .fad 1 (.t 4)⟩,
 ⟨(some 29), (some (25, false)), .ld none (.t 28)⟩,
 ⟨(some 30), (some (25, false)), .bin .geq (.t 27) (.t 29)⟩,
 oo 31 <| .pick (.t 25) (.k (.bool true)) (.t 30),
 oo 32 <| .mv (.t 31),
 ⟨(some 33), (some (32, false)), .fad 1 (.t 4)⟩,
 ⟨(some 34), (some (32, false)), .ld none (.t 33)⟩,
 ⟨(some 35), (some (32, false)), .fad 0 (.t 1)⟩,
 ⟨(some 36), (some (32, false)), .ld none (.t 35)⟩,
 ⟨(some 37), (some (32, false)), .bin .geq (.t 34) (.t 36)⟩,
 oo 38 <| .pick (.t 32) (.k (.bool true)) (.t 37),
 oo 21 <| .mv (.t 38)]
def rQtX7 : List O := [
 oo 2 <| .mv (ki 6)]
def rQtX8 : List O := [
 oo 40 <| .mv (.t 3),
 oo 41 <| .bin .gtr (.t 40) (ki 0),
 oo 42 <| .mv (.t 41),
 ⟨(some 43), (some (42, true)), .fad 1 (.t 1)⟩,
 ⟨(some 44), (some (42, true)), .ld none (.t 43)⟩,
 ⟨(some 45), (some (42, true)), .mv (.t 3)⟩,
 ⟨(some 46), (some (42, true)), .bin .sub (.t 45) (ki 1)⟩,
 ⟨(some 47), (some (42, true)), .ixa 2 (.t 44) (.t 46)⟩,
 ⟨(some 48), (some (42, true)), .ld (some 2) (.t 47)⟩,
 ⟨(some 49), (some (42, true)), .ld (some 2) (.t 4)⟩,
 ⟨(some 50), (some (42, true)), .call nQD [(.t 48), (.t 49)]⟩,
 ⟨(some 51), (some (42, true)), .bin .geq (.t 50) (ki 0)⟩,
 oo 52 <| .pick (.t 42) (.t 51) (.k (.bool false)),
 oo 39 <| .mv (.t 52)]
def rQtX9 : List O := [
 oo 2 <| .mv (ki 5)]
def rQtX10 : List O := [
 oo 53 <| .bin .add (.t 16) (ki 1),
 oo 16 <| .mv (.t 53)]
def lQtX0 : C := (.seq (.reg rQtX4 false [] [1, 14, 15, 16, 17]) (.seq (.cond (.t 17) .skip (.exit 0)) (.seq (.blk 1 (.seq (.reg rQtX5 false [] [1, 3, 4, 14, 15, 16]) (.blk 2 (.seq (.reg rQtX6 false [] [1, 3, 4, 14, 15, 16, 21]) (.cond (.t 21) (.seq (.reg rQtX7 false [] [2]) .ret) (.seq (.reg rQtX8 true [(0, 0), (1, 1), (2, 2), (10, 10), (11, 11), (12, 12), (13, 13), (4, 5), (4, 6), (3, 9), (4, 9), (5, 9), (6, 9), (7, 9), (8, 9)] [1, 14, 15, 16, 39]) (.cond (.t 39) (.seq (.reg rQtX9 false [] [2]) .ret) .skip))))))) (.reg rQtX10 false [] [1, 14, 15, 16]))))
def rQtX11 : List O := [
 oo 2 <| .mv (ki 0)]
def cQt : C := (.seq (.reg rQtX0 false [] [1]) (.seq (.seq (.reg rQtX1 false [] [1, 12]) (.cond (.t 12) (.seq (.reg rQtX2 false [] [2]) .ret) .skip)) (.seq (.seq (.reg rQtX3 false [] [1, 14, 15, 16]) (.blk 0 (.loop lQtX0))) (.seq (.reg rQtX11 false [] [2]) .ret))))
def qQt : AFn := ⟨54, 1, [.t 2], cQt⟩
/- cohesion/masks.Rows -/
def rQuX0 : List O := [
 oo 1 <| .box (.t 0),
 oo 2 <| .mv (.k (.own 1 []))]
def rQuX1 : List O := [
 oo 6 <| .fad 0 (.t 1),
 oo 7 <| .ld none (.t 6),
 oo 8 <| .max [(.t 7), (ki 0)],
 oo 9 <| .min [(.t 8), (ki 64)],
 oo 10 <| .mks 1 [(.int .u64 0)] (.t 9) (.t 9),
 oo 3 <| .mv (.t 10)]
def rQuX2 : List O := [
 oo 11 <| .fad 1 (.t 1),
 oo 12 <| .ld none (.t 11),
 oo 13 <| .len (.t 12),
 oo 14 <| .mv (ki 0)]
def rQuX3 : List O := [
 oo 15 <| .bin .lss (.t 14) (.t 13)]
def rQuX4 : List O := [
 oo 16 <| .ixa 2 (.t 12) (.t 14),
 oo 17 <| .ld (some 2) (.t 16),
 oo 5 <| .new [(.int .i64 0), (.int .i64 0)],
 oz <| .st 2 (.t 5) (.t 17)]
def rQuX5 : List O := [
 oo 18 <| .fad 0 (.t 5),
 oo 19 <| .ld none (.t 18),
 oo 20 <| .bin .geq (.t 19) (ki 0),
 oo 21 <| .mv (.t 20),
 ⟨(some 22), (some (21, true)), .fad 0 (.t 5)⟩,
 ⟨(some 23), (some (21, true)), .ld none (.t 22)⟩,
 ⟨(some 24), (some (21, true)), .fad 1 (.t 5)⟩,
 ⟨(some 25), (some (21, true)), .ld none (.t 24)⟩,
 ⟨(some 26), (some (21, true)), .bin .lss (.t 23) (.t 25)⟩,
 oo 27 <| .pick (.t 21) (.t 26) (.k (.bool false)),
 oo 28 <| .mv (.t 27),
 ⟨(some 29), (some (28, true)), .fad 1 (.t 5)⟩,
 ⟨(some 30), (some (28, true)), .ld none (.t 29)⟩,
 ⟨(some 31), (some (28, true)), .mv (.t 3)⟩,
 ⟨(some 32), (some (28, true)), .len (.t 31)⟩,
 ⟨(some 33), (some (28, true)), .bin .lss (.t 30) (.t 32)⟩,
 oo 34 <| .pick (.t 28) (.t 33) (.k (.bool false))]
def rQuX6 : List O := [
 oo 35 <| .mv (.t 3),
 oo 36 <| .fad 0 (.t 5),
 oo 37 <| .ld none (.t 36),
 oo 38 <| .ixa 1 (.t 35) (.t 37),
 oo 39 <| .ld none (.t 38),
 oo 40 <| .fad 1 (.t 5),
 oo 41 <| .ld none (.t 40),
 oo 42 <| .bin .shl (.k (.int .u64 1)) (.t 41),
 oo 43 <| .bin .or (.t 39) (.t 42),
 oo 44 <| .ixa 1 (.t 35) (.t 37),
 oz <| .st 1 (.t 44) (.t 43)]
def rQuX7 : List O := [
 oo 45 <| .mv (.t 3),
 oo 46 <| .fad 1 (.t 5),
 oo 47 <| .ld none (.t 46),
 oo 48 <| .ixa 1 (.t 45) (.t 47),
 oo 49 <| .ld none (.t 48),
 oo 50 <| .fad 0 (.t 5),
 oo 51 <| .ld none (.t 50),
 oo 52 <| .bin .shl (.k (.int .u64 1)) (.t 51),
 oo 53 <| .bin .or (.t 49) (.t 52),
 oo 54 <| .ixa 1 (.t 45) (.t 47),
 oz <| .st 1 (.t 54) (.t 53)]
def rQuX8 : List O := [
 oo 55 <| .bin .add (.t 14) (ki 1),
 oo 14 <| .mv (.t 55)]
def lQuX0 : C := (.seq (.reg rQuX3 false [] [3, 12, 13, 14, 15]) (.seq (.cond (.t 15) .skip (.exit 0)) (.seq (.blk 1 (.seq (.reg rQuX4 false [] [3, 5, 12, 13, 14]) (.seq (.reg rQuX5 false [] [3, 5, 12, 13, 14, 34]) (.cond (.t 34) (.seq (.reg rQuX6 true [(8, 8), (9, 9), (10, 10), (0, 2), (2, 5), (4, 5), (0, 6), (1, 6), (2, 6), (3, 6), (4, 6), (2, 7), (4, 7)] [3, 5, 12, 13, 14]) (.reg rQuX7 true [(8, 8), (9, 9), (10, 10), (0, 2), (2, 5), (4, 5), (0, 6), (1, 6), (2, 6), (3, 6), (4, 6), (2, 7), (4, 7)] [3, 12, 13, 14])) .skip)))) (.reg rQuX8 false [] [3, 12, 13, 14]))))
def rQuX9 : List O := [
 oo 56 <| .mv (.t 3),
 oo 2 <| .mv (.t 56)]
def cQu : C := (.seq (.reg rQuX0 false [] [1]) (.seq (.reg rQuX1 false [] [1, 3]) (.seq (.seq (.reg rQuX2 false [] [3, 12, 13, 14]) (.blk 0 (.loop lQuX0))) (.seq (.reg rQuX9 false [] [2]) .ret))))
def qQu : AFn := ⟨57, 1, [.t 2], cQu⟩
/- cohesion/masks.Count -/
def rQvX0 : List O := [
 oo 2 <| .mv (ki 0)]
def rQvX1 : List O := [
 oo 3 <| .mv (.t 0),
 oo 4 <| .call nQE [(.t 3)],
 oo 2 <| .mv (.t 4)]
def cQv : C := (.seq (.reg rQvX0 false [] [0]) (.seq (.reg rQvX1 false [] [2]) .ret))
def qQv : AFn := ⟨5, 1, [.t 2], cQv⟩
/- cohesion/cohesionref03.Degree -/
def rQwX0 : List O := [
 oo 2 <| .box (.t 0),
 oo 4 <| .mv (ki 0)]
def rQwX1 : List O := [
 oo 5 <| .ld (some 2) (.t 2),
 oo 6 <| .mv (.t 1),
 oo 7 <| .call nQF [(.t 5), (.t 6)],
 oo 8 <| .len (.t 7),
 oo 4 <| .mv (.t 8)]
def cQw : C := (.seq (.reg rQwX0 false [] [1, 2]) (.seq (.reg rQwX1 false [] [4]) .ret))
def qQw : AFn := ⟨9, 2, [.t 4], cQw⟩
/- cohesion/cohesionref02.Cmp -/
def rQxX0 : List O := [
 oo 4 <| .mv (ki 0)]
def rQxX1 : List O := [
 oo 6 <| .mv (.t 0),
 oo 7 <| .len (.t 6),
 oo 8 <| .mv (ki 0)]
def rQxX2 : List O := [
 oo 9 <| .bin .lss (.t 8) (.t 7)]
def rQxX3 : List O := [
 oo 10 <| .mv (.t 8),
 oo 5 <| .mv (.t 10)]
def rQxX4 : List O := [
 oo 12 <| .mv (.t 5),
 oo 13 <| .mv (.t 1),
 oo 14 <| .len (.t 13),
 oo 15 <| .bin .geq (.t 12) (.t 14),
 oo 16 <| .mv (.t 15),
 ⟨(some 17), (some (16, false)), .mv (.t 0)⟩,
 ⟨(some 18), (some (16, false)), .mv (.t 5)⟩,
 ⟨(some 19), (some (16, false)), .ixa 1 (.t 17) (.t 18)⟩,
 ⟨(some 20), (some (16, false)), .ld none (.t 19)⟩,
 ⟨(some 21), (some (16, false)), .mv (.t 1)⟩,
 ⟨(some 22), (some (16, false)), .mv (.t 5)⟩,
 ⟨(some 23), (some (16, false)), .ixa 1 (.t 21) (.t 22)⟩,
 ⟨(some 24), (some (16, false)), .ld none (.t 23)⟩,
 ⟨(some 25), (some (16, false)), .bin .gtr (.t 20) (.t 24)⟩,
 oo 26 <| .pick (.t 16) (.k (.bool true)) (.t 25),
 oo 11 <| .mv (.t 26)]
def rQxX5 : List O := [
 oo 4 <| .mv (ki 1)]
def rQxX6 : List O := [
 oo 28 <| .mv (.t 0),
 oo 29 <| .mv (.t 5),
 oo 30 <| .ixa 1 (.t 28) (.t 29),
 oo 31 <| .ld none (.t 30),
 oo 32 <| .mv (.t 1),
 oo 33 <| .mv (.t 5),
 oo 34 <| .ixa 1 (.t 32) (.t 33),
 oo 35 <| .ld none (.t 34),
 oo 36 <| .bin .lss (.t 31) (.t 35),
 oo 27 <| .mv (.t 36)]
def rQxX7 : List O := [
 oo 4 <| .mv (.k (.int .i64 (-1)))]
def rQxX8 : List O := [
 oo 37 <| .bin .add (.t 8) (ki 1),
 oo 8 <| .mv (.t 37)]
def lQxX0 : C := (.seq (.reg rQxX2 false [] [0, 1, 7, 8, 9]) (.seq (.cond (.t 9) .skip (.exit 0)) (.seq (.blk 1 (.seq (.reg rQxX3 false [] [0, 1, 5, 7, 8]) (.blk 2 (.seq (.reg rQxX4 true [(3, 3), (4, 4), (13, 13), (14, 14), (15, 15), (8, 9), (8, 10), (8, 11), (5, 12), (6, 12), (7, 12), (8, 12)] [0, 1, 5, 7, 8, 11]) (.cond (.t 11) (.seq (.reg rQxX5 false [] [4]) .ret) (.seq (.reg rQxX6 true [(8, 8), (9, 9), (3, 4), (3, 5), (3, 6), (0, 7), (1, 7), (2, 7), (3, 7)] [0, 1, 7, 8, 27]) (.cond (.t 27) (.seq (.reg rQxX7 false [] [4]) .ret) .skip))))))) (.reg rQxX8 false [] [0, 1, 7, 8]))))
def rQxX9 : List O := [
 oo 38 <| .mv (.t 0),
 oo 39 <| .len (.t 38),
 oo 40 <| .mv (.t 1),
 oo 41 <| .len (.t 40),
 oo 42 <| .bin .lss (.t 39) (.t 41)]
def rQxX10 : List O := [
 oo 4 <| .mv (.k (.int .i64 (-1)))]
def rQxX11 : List O := [
 oo 4 <| .mv (ki 0)]
def cQx : C := (.seq (.reg rQxX0 false [] [0, 1]) (.seq (.seq (.reg rQxX1 false [] [0, 1, 7, 8]) (.blk 0 (.loop lQxX0))) (.seq (.seq (.reg rQxX9 false [] [42]) (.cond (.t 42) (.seq (.reg rQxX10 false [] [4]) .ret) .skip)) (.seq (.reg rQxX11 false [] [4]) .ret))))
def qQx : AFn := ⟨43, 2, [.t 4], cQx⟩
/- cohesion/graph.Of -/
def rQyX0 : List O := [
 oo 4 <| .new [(.int .i64 0), (.own 2 [])],
 oo 5 <| .mv (ki 0)]
def rQyX1 : List O := [
 oo 9 <| .mv (.t 0),
 oo 10 <| .bin .lss (.t 9) (ki 0),
 oo 11 <| .mv (.t 10),
 ⟨(some 12), (some (11, false)), .mv (.t 0)⟩,
 ⟨(some 13), (some (11, false)), .bin .gtr (.t 12) (ki 64)⟩,
 oo 14 <| .pick (.t 11) (.k (.bool true)) (.t 13)]
def rQyX2 : List O := [
 oo 15 <| .build [(.int .i64 0), (.own 2 [])] [],
 oz <| .st 2 (.t 4) (.t 15),
 oo 5 <| .mv (ki 1)]
def rQyX3 : List O := [
 oo 16 <| .mv (.t 0),
 oo 17 <| .build [(.int .i64 0), (.own 2 [])] [(0, 1, (.t 16))],
 oo 6 <| .new [(.int .i64 0), (.own 2 [])],
 oz <| .st 2 (.t 6) (.t 17)]
def rQyX4 : List O := [
 oo 18 <| .mv (.t 1),
 oo 19 <| .len (.t 18),
 oo 20 <| .mv (ki 0)]
def rQyX5 : List O := [
 oo 21 <| .bin .lss (.t 20) (.t 19)]
def rQyX6 : List O := [
 oo 22 <| .ixa 2 (.t 18) (.t 20),
 oo 23 <| .ld (some 2) (.t 22),
 oo 8 <| .new [(.int .i64 0), (.int .i64 0)],
 oz <| .st 2 (.t 8) (.t 23)]
def rQyX7 : List O := [
 oo 24 <| .mv (.t 0),
 oo 25 <| .fad 0 (.t 8),
 oo 26 <| .ld none (.t 25),
 oo 27 <| .fad 1 (.t 8),
 oo 28 <| .ld none (.t 27),
 oo 29 <| .call nQG [(.t 24), (.t 26), (.t 28)],
 oo 30 <| .un .not (.t 29)]
def rQyX8 : List O := [
 oo 31 <| .build [(.int .i64 0), (.own 2 [])] [],
 oz <| .st 2 (.t 4) (.t 31),
 oo 5 <| .mv (ki 6)]
def rQyX9 : List O := [
 oo 32 <| .fad 1 (.t 6),
 oo 33 <| .ld none (.t 32),
 oo 34 <| .fad 0 (.t 8),
 oo 35 <| .ld none (.t 34),
 oo 36 <| .fad 1 (.t 8),
 oo 37 <| .ld none (.t 36),
 oo 38 <| .call nQH [(.t 35), (.t 37)],
 oo 39 <| .bslice 2 1 [(.int .i64 0), (.int .i64 0)] [(0, 2, (.t 38))],
 oo 40 <| .app 2 (.t 33) (.t 39),
 oo 41 <| .fad 1 (.t 6),
 oz <| .st 1 (.t 41) (.t 40)]
def rQyX10 : List O := [
 oo 42 <| .bin .add (.t 20) (ki 1),
 oo 20 <| .mv (.t 42)]
def lQyX0 : C := (.seq (.reg rQyX5 false [] [0, 4, 6, 18, 19, 20, 21]) (.seq (.cond (.t 21) .skip (.exit 0)) (.seq (.blk 1 (.seq (.reg rQyX6 false [] [0, 4, 6, 8, 18, 19, 20]) (.seq (.seq (.reg rQyX7 false [] [0, 4, 6, 8, 18, 19, 20, 30]) (.cond (.t 30) (.seq (.reg rQyX8 false [] [4, 5]) .ret) .skip)) (.reg rQyX9 true [(8, 8), (9, 9), (10, 10), (1, 2), (0, 3), (1, 3), (1, 4), (3, 4), (0, 5), (1, 5), (2, 5), (3, 5), (0, 6), (1, 6), (0, 7), (1, 7)] [0, 4, 6, 18, 19, 20])))) (.reg rQyX10 false [] [0, 4, 6, 18, 19, 20]))))
def rQyX11 : List O := [
 oo 43 <| .fad 1 (.t 6),
 oo 44 <| .ld none (.t 43),
 oo 45 <| .call nQI [(.t 44), (.k (.func (.func nQD) [] []))]]
def rQyX12 : List O := [
 oo 46 <| .fad 1 (.t 6),
 oo 47 <| .ld none (.t 46),
 oo 48 <| .call nQJ [(.t 47)],
 oo 49 <| .fad 1 (.t 6),
 oz <| .st 1 (.t 49) (.t 48)]
def rQyX13 : List O := [
 oo 50 <| .ld (some 2) (.t 6),
 oz <| .st 2 (.t 4) (.t 50),
 oo 5 <| .mv (ki 0)]
def cQy : C := (.seq (.reg rQyX0 false [] [0, 1, 4]) (.seq (.seq (.reg rQyX1 false [] [0, 1, 4, 14]) (.cond (.t 14) (.seq (.reg rQyX2 false [] [4, 5]) .ret) .skip)) (.seq (.reg rQyX3 false [] [0, 1, 4, 6]) (.seq (.seq (.reg rQyX4 false [] [0, 4, 6, 18, 19, 20]) (.blk 0 (.loop lQyX0))) (.seq (.reg rQyX11 false [] [4, 6]) (.seq (.reg rQyX12 false [] [4, 6]) (.seq (.reg rQyX13 false [] [4, 5]) .ret)))))))
def qQy : AFn := ⟨51, 2, [.c 4 (some 2), .t 5], cQy⟩
/- cohesion/cohesionref09.most -/
def rQzX0 : List O := [
 oo 4 <| .mv (ki 0)]
def rQzX1 : List O := [
 oo 5 <| .mv (.k (.int .i64 (-1)))]
def rQzX2 : List O := [
 oo 11 <| .mv (.t 0),
 oo 12 <| .len (.t 11),
 oo 13 <| .mv (ki 0)]
def rQzX3 : List O := [
 oo 14 <| .bin .lss (.t 13) (.t 12)]
def rQzX4 : List O := [
 oo 15 <| .mv (.t 13),
 oo 16 <| .ixa 1 (.t 11) (.t 13),
 oo 17 <| .ld none (.t 16),
 oo 6 <| .mv (.t 15),
 oo 7 <| .mv (.t 17)]
def rQzX5 : List O := [
 oo 8 <| .mv (.k (.bool false))]
def rQzX6 : List O := [
 oo 18 <| .mv (.t 1),
 oo 19 <| .len (.t 18),
 oo 20 <| .mv (ki 0)]
def rQzX7 : List O := [
 oo 21 <| .bin .lss (.t 20) (.t 19)]
def rQzX8 : List O := [
 oo 22 <| .ixa 1 (.t 18) (.t 20),
 oo 23 <| .ld none (.t 22),
 oo 10 <| .mv (.t 23)]
def rQzX9 : List O := [
 oo 24 <| .mv (.t 8),
 oo 25 <| .mv (.t 24),
 ⟨(some 26), (some (25, false)), .mv (.t 10)⟩,
 ⟨(some 27), (some (25, false)), .mv (.t 6)⟩,
 ⟨(some 28), (some (25, false)), .bin .eql (.t 26) (.t 27)⟩,
 oo 29 <| .pick (.t 25) (.k (.bool true)) (.t 28),
 oo 8 <| .mv (.t 29)]
def rQzX10 : List O := [
 oo 30 <| .bin .add (.t 20) (ki 1),
 oo 20 <| .mv (.t 30)]
def lQzX0 : C := (.seq (.reg rQzX7 false [] [0, 1, 5, 6, 7, 8, 11, 12, 13, 18, 19, 20, 21]) (.seq (.cond (.t 21) .skip (.exit 2)) (.seq (.blk 3 (.seq (.reg rQzX8 false [] [0, 1, 5, 6, 7, 8, 10, 11, 12, 13, 18, 19, 20]) (.reg rQzX9 false [] [0, 1, 5, 6, 7, 8, 11, 12, 13, 18, 19, 20]))) (.reg rQzX10 false [] [0, 1, 5, 6, 7, 8, 11, 12, 13, 18, 19, 20]))))
def rQzX11 : List O := [
 oo 31 <| .mv (.t 8),
 oo 32 <| .un .not (.t 31),
 oo 33 <| .mv (.t 32),
 ⟨(some 34), (some (33, true)), .mv (.t 7)⟩,
 ⟨(some 35), (some (33, true)), .bin .gtr (.t 34) (ki 0)⟩,
 oo 36 <| .pick (.t 33) (.t 35) (.k (.bool false)),
 oo 37 <| .mv (.t 36),
 ⟨(some 38), (some (37, true)), .mv (.t 5)⟩,
 ⟨(some 39), (some (37, true)), .bin .lss (.t 38) (ki 0)⟩,
 ⟨(some 40), (some (37, true)), .mv (.t 39)⟩,
 ⟨(some 41), (some (40, false)), .mv (.t 7)⟩,
 ⟨(some 42), (some (40, false)), .mv (.t 0)⟩,
 ⟨(some 43), (some (40, false)), .mv (.t 5)⟩,
 ⟨(some 44), (some (40, false)), .ixa 1 (.t 42) (.t 43)⟩,
 ⟨(some 45), (some (40, false)), .ld none (.t 44)⟩,
 ⟨(some 46), (some (40, false)), .bin .gtr (.t 41) (.t 45)⟩,
 ⟨(some 47), (some (37, true)), .pick (.t 40) (.k (.bool true)) (.t 46)⟩,
 oo 48 <| .pick (.t 37) (.t 47) (.k (.bool false))]
def rQzX12 : List O := [
 oo 49 <| .mv (.t 6),
 oo 5 <| .mv (.t 49)]
def rQzX13 : List O := [
 oo 50 <| .bin .add (.t 13) (ki 1),
 oo 13 <| .mv (.t 50)]
def lQzX1 : C := (.seq (.reg rQzX3 false [] [0, 1, 5, 11, 12, 13, 14]) (.seq (.cond (.t 14) .skip (.exit 0)) (.seq (.blk 1 (.seq (.reg rQzX4 false [] [0, 1, 5, 6, 7, 11, 12, 13]) (.seq (.reg rQzX5 false [] [0, 1, 5, 6, 7, 8, 11, 12, 13]) (.seq (.seq (.reg rQzX6 false [] [0, 1, 5, 6, 7, 8, 11, 12, 13, 18, 19, 20]) (.blk 2 (.loop lQzX0))) (.seq (.reg rQzX11 false [] [0, 1, 5, 6, 11, 12, 13, 48]) (.cond (.t 48) (.reg rQzX12 false [] [0, 1, 5, 11, 12, 13]) .skip)))))) (.reg rQzX13 false [] [0, 1, 5, 11, 12, 13]))))
def rQzX14 : List O := [
 oo 51 <| .mv (.t 5),
 oo 4 <| .mv (.t 51)]
def cQz : C := (.seq (.reg rQzX0 false [] [0, 1]) (.seq (.reg rQzX1 false [] [0, 1, 5]) (.seq (.seq (.reg rQzX2 false [] [0, 1, 5, 11, 12, 13]) (.blk 0 (.loop lQzX1))) (.seq (.reg rQzX14 false [] [4]) .ret))))
def qQz : AFn := ⟨52, 2, [.t 4], cQz⟩
/- cohesion/cohesionref03.Add -/
def rQAX0 : List O := [
 oo 3 <| .box (.t 0),
 oo 6 <| .new [(.int .i64 0), (.own 2 [])],
 oo 7 <| .mv (ki 0)]
def rQAX1 : List O := [
 oo 9 <| .ld (some 2) (.t 3),
 oo 10 <| .call nQp [(.t 9)],
 oo 8 <| .mv (.t 10)]
def rQAX2 : List O := [
 oo 11 <| .mv (.t 8),
 oo 12 <| .bin .neq (.t 11) (ki 0)]
def rQAX3 : List O := [
 oo 13 <| .build [(.int .i64 0), (.own 2 [])] [],
 oo 14 <| .mv (.t 8),
 oz <| .st 2 (.t 6) (.t 13),
 oo 7 <| .mv (.t 14)]
def rQAX4 : List O := [
 oo 15 <| .fad 0 (.t 3),
 oo 16 <| .ld none (.t 15),
 oo 17 <| .mv (.t 1),
 oo 18 <| .mv (.t 2),
 oo 19 <| .call nQK [(.t 16), (.t 17), (.t 18)],
 oo 20 <| .un .not (.t 19)]
def rQAX5 : List O := [
 oo 21 <| .build [(.int .i64 0), (.own 2 [])] [],
 oz <| .st 2 (.t 6) (.t 21),
 oo 7 <| .mv (ki 6)]
def rQAX6 : List O := [
 oo 22 <| .ld (some 2) (.t 3),
 oo 23 <| .mv (.t 1),
 oo 24 <| .mv (.t 2),
 oo 25 <| .call nQL [(.t 22), (.t 23), (.t 24)],
 oo 26 <| .bin .geq (.t 25) (ki 0)]
def rQAX7 : List O := [
 oo 27 <| .build [(.int .i64 0), (.own 2 [])] [],
 oz <| .st 2 (.t 6) (.t 27),
 oo 7 <| .mv (ki 15)]
def rQAX8 : List O := [
 oo 28 <| .fad 0 (.t 3),
 oo 29 <| .ld none (.t 28),
 oo 30 <| .fad 1 (.t 3),
 oo 31 <| .ld none (.t 30),
 oo 32 <| .mv (.t 1),
 oo 33 <| .mv (.t 2),
 oo 34 <| .call nQN [(.t 32), (.t 33)],
 oo 35 <| .call nQM [(.t 31), (.t 34)],
 oo 36 <| .app 2 (.k (.own 2 [])) (.t 35),
 oo 37 <| .build [(.int .i64 0), (.own 2 [])] [(0, 1, (.t 29)), (1, 1, (.t 36))],
 oz <| .st 2 (.t 6) (.t 37),
 oo 7 <| .mv (ki 0)]
def cQA : C := (.seq (.reg rQAX0 false [] [1, 2, 3, 6]) (.seq (.seq (.reg rQAX1 false [] [1, 2, 3, 6, 8]) (.seq (.reg rQAX2 false [] [1, 2, 3, 6, 8, 12]) (.cond (.t 12) (.seq (.reg rQAX3 false [] [6, 7]) .ret) .skip))) (.seq (.seq (.reg rQAX4 false [] [1, 2, 3, 6, 20]) (.cond (.t 20) (.seq (.reg rQAX5 false [] [6, 7]) .ret) .skip)) (.seq (.seq (.reg rQAX6 false [] [1, 2, 3, 6, 26]) (.cond (.t 26) (.seq (.reg rQAX7 false [] [6, 7]) .ret) .skip)) (.seq (.reg rQAX8 true [(9, 9), (10, 10), (11, 11), (1, 2), (0, 3), (1, 3), (1, 4), (3, 4), (1, 5), (3, 5), (0, 6), (1, 6), (2, 6), (3, 6), (0, 7), (1, 7), (0, 8), (1, 8)] [6, 7]) .ret)))))
def qQA : AFn := ⟨38, 3, [.c 6 (some 2), .t 7], cQA⟩
/- cohesion/cohesionref03.SameEdges -/
def rQBX0 : List O := [
 oo 4 <| .mv (.k (.bool false))]
def rQBX1 : List O := [
 oo 6 <| .mv (.t 0),
 oo 7 <| .len (.t 6),
 oo 8 <| .mv (.t 1),
 oo 9 <| .len (.t 8),
 oo 10 <| .bin .neq (.t 7) (.t 9)]
def rQBX2 : List O := [
 oo 4 <| .mv (.k (.bool false))]
def rQBX3 : List O := [
 oo 11 <| .mv (.t 0),
 oo 12 <| .len (.t 11),
 oo 13 <| .mv (ki 0)]
def rQBX4 : List O := [
 oo 14 <| .bin .lss (.t 13) (.t 12)]
def rQBX5 : List O := [
 oo 15 <| .mv (.t 13),
 oo 5 <| .mv (.t 15)]
def rQBX6 : List O := [
 oo 16 <| .mv (.t 0),
 oo 17 <| .mv (.t 5),
 oo 18 <| .ixa 2 (.t 16) (.t 17),
 oo 19 <| .ld (some 2) (.t 18),
 oo 20 <| .mv (.t 1),
 oo 21 <| .mv (.t 5),
 oo 22 <| .ixa 2 (.t 20) (.t 21),
 oo 23 <| .ld (some 2) (.t 22),
 oo 24 <| .eq true (.str [true, true]) (.t 19) (.t 23)]
def rQBX7 : List O := [
 oo 4 <| .mv (.k (.bool false))]
def rQBX8 : List O := [
 oo 25 <| .bin .add (.t 13) (ki 1),
 oo 13 <| .mv (.t 25)]
def lQBX0 : C := (.seq (.reg rQBX4 false [] [0, 1, 12, 13, 14]) (.seq (.cond (.t 14) .skip (.exit 0)) (.seq (.blk 1 (.seq (.reg rQBX5 false [] [0, 1, 5, 12, 13]) (.seq (.reg rQBX6 true [(8, 8), (3, 4), (3, 5), (3, 6), (0, 7), (1, 7), (2, 7), (3, 7)] [0, 1, 12, 13, 24]) (.cond (.t 24) (.seq (.reg rQBX7 false [] [4]) .ret) .skip)))) (.reg rQBX8 false [] [0, 1, 12, 13]))))
def rQBX9 : List O := [
 oo 4 <| .mv (.k (.bool true))]
def cQB : C := (.seq (.reg rQBX0 false [] [0, 1]) (.seq (.seq (.reg rQBX1 false [] [0, 1, 10]) (.cond (.t 10) (.seq (.reg rQBX2 false [] [4]) .ret) .skip)) (.seq (.seq (.reg rQBX3 false [] [0, 1, 12, 13]) (.blk 0 (.loop lQBX0))) (.seq (.reg rQBX9 false [] [4]) .ret))))
def qQB : AFn := ⟨26, 2, [.t 4], cQB⟩
/- cohesion/cohesionref03.Before -/
def rQCX0 : List O := [
 oo 2 <| .box (.t 0),
 oo 3 <| .box (.t 1),
 oo 4 <| .mv (.k (.bool false))]
def rQCX1 : List O := [
 oo 5 <| .fad 0 (.t 2),
 oo 6 <| .ld none (.t 5),
 oo 7 <| .fad 0 (.t 3),
 oo 8 <| .ld none (.t 7),
 oo 9 <| .bin .lss (.t 6) (.t 8),
 oo 10 <| .mv (.t 9),
 ⟨(some 11), (some (10, false)), .fad 0 (.t 2)⟩,
 ⟨(some 12), (some (10, false)), .ld none (.t 11)⟩,
 ⟨(some 13), (some (10, false)), .fad 0 (.t 3)⟩,
 ⟨(some 14), (some (10, false)), .ld none (.t 13)⟩,
 ⟨(some 15), (some (10, false)), .bin .eql (.t 12) (.t 14)⟩,
 ⟨(some 16), (some (10, false)), .mv (.t 15)⟩,
 ⟨(some 17), (some (16, true)), .fad 1 (.t 2)⟩,
 ⟨(some 18), (some (16, true)), .ld none (.t 17)⟩,
 ⟨(some 19), (some (16, true)), .fad 1 (.t 3)⟩,
 ⟨(some 20), (some (16, true)), .ld none (.t 19)⟩,
 ⟨(some 21), (some (16, true)), .bin .lss (.t 18) (.t 20)⟩,
 ⟨(some 22), (some (10, false)), .pick (.t 16) (.t 21) (.k (.bool false))⟩,
 oo 23 <| .pick (.t 10) (.k (.bool true)) (.t 22),
 oo 4 <| .mv (.t 23)]
def cQC : C := (.seq (.reg rQCX0 false [] [2, 3]) (.seq (.reg rQCX1 false [] [4]) .ret))
def qQC : AFn := ⟨24, 2, [.t 4], cQC⟩
/- cohesion/graph.Order -/
def rQDX0 : List O := [
 oo 2 <| .box (.t 0),
 oo 3 <| .box (.t 1),
 oo 4 <| .mv (ki 0)]
def rQDX1 : List O := [
 oo 5 <| .fad 0 (.t 2),
 oo 6 <| .ld none (.t 5),
 oo 7 <| .fad 0 (.t 3),
 oo 8 <| .ld none (.t 7),
 oo 9 <| .call nQP [(.t 6), (.t 8)],
 oo 10 <| .fad 1 (.t 2),
 oo 11 <| .ld none (.t 10),
 oo 12 <| .fad 1 (.t 3),
 oo 13 <| .ld none (.t 12),
 oo 14 <| .call nQP [(.t 11), (.t 13)],
 oo 15 <| .bslice 1 2 [(.int .i64 0)] [(0, 1, (.t 9)), (1, 1, (.t 14))],
 oo 16 <| .call nQO [(.t 15)],
 oo 4 <| .mv (.t 16)]
def cQD : C := (.seq (.reg rQDX0 false [] [2, 3]) (.seq (.reg rQDX1 true [(9, 9), (10, 10), (11, 11), (12, 12), (1, 2), (0, 3), (1, 3), (1, 5), (3, 5), (4, 5), (0, 6), (1, 6), (2, 6), (3, 6), (4, 6), (1, 7), (3, 7), (4, 7), (6, 7), (0, 8), (1, 8), (2, 8), (3, 8), (4, 8), (5, 8), (6, 8)] [4]) .ret))
def qQD : AFn := ⟨17, 2, [.t 4], cQD⟩
/- math/bits.OnesCount64 -/
def rQEX0 : List O := [
 oo 2 <| .mv (ki 0)]
def rQEX1 : List O := [
 oo 3 <| .mv (.t 0),
 oo 4 <| .bin .shr (.t 3) (.k (.int .u64 1)),
 oo 5 <| .bin .and (.t 4) (.k (.int .u64 6148914691236517205)),
 oo 6 <| .mv (.t 0),
 oo 7 <| .bin .and (.t 6) (.k (.int .u64 6148914691236517205)),
 oo 8 <| .bin .add (.t 5) (.t 7),
 oo 0 <| .mv (.t 8)]
def rQEX2 : List O := [
 oo 9 <| .mv (.t 0),
 oo 10 <| .bin .shr (.t 9) (.k (.int .u64 2)),
 oo 11 <| .bin .and (.t 10) (.k (.int .u64 3689348814741910323)),
 oo 12 <| .mv (.t 0),
 oo 13 <| .bin .and (.t 12) (.k (.int .u64 3689348814741910323)),
 oo 14 <| .bin .add (.t 11) (.t 13),
 oo 0 <| .mv (.t 14)]
def rQEX3 : List O := [
 oo 15 <| .mv (.t 0),
 oo 16 <| .bin .shr (.t 15) (.k (.int .u64 4)),
 oo 17 <| .mv (.t 0),
 oo 18 <| .bin .add (.t 16) (.t 17),
 oo 19 <| .bin .and (.t 18) (.k (.int .u64 1085102592571150095)),
 oo 0 <| .mv (.t 19)]
def rQEX4 : List O := [
 oo 20 <| .mv (.t 0),
 oo 21 <| .mv (.t 0),
 oo 22 <| .bin .shr (.t 21) (.k (.int .u64 8)),
 oo 23 <| .bin .add (.t 20) (.t 22),
 oo 0 <| .mv (.t 23)]
def rQEX5 : List O := [
 oo 24 <| .mv (.t 0),
 oo 25 <| .mv (.t 0),
 oo 26 <| .bin .shr (.t 25) (.k (.int .u64 16)),
 oo 27 <| .bin .add (.t 24) (.t 26),
 oo 0 <| .mv (.t 27)]
def rQEX6 : List O := [
 oo 28 <| .mv (.t 0),
 oo 29 <| .mv (.t 0),
 oo 30 <| .bin .shr (.t 29) (.k (.int .u64 32)),
 oo 31 <| .bin .add (.t 28) (.t 30),
 oo 0 <| .mv (.t 31)]
def rQEX7 : List O := [
 oo 32 <| .mv (.t 0),
 oo 33 <| .cvt .i64 (.t 32),
 oo 34 <| .bin .and (.t 33) (ki 127),
 oo 2 <| .mv (.t 34)]
def cQE : C := (.seq (.reg rQEX0 false [] [0]) (.seq (.reg rQEX1 false [] [0]) (.seq (.reg rQEX2 false [] [0]) (.seq (.reg rQEX3 false [] [0]) (.seq (.reg rQEX4 false [] [0]) (.seq (.reg rQEX5 false [] [0]) (.seq (.reg rQEX6 false [] [0]) (.seq (.reg rQEX7 false [] [2]) .ret))))))))
def qQE : AFn := ⟨35, 1, [.t 2], cQE⟩
/- cohesion/cohesionref03.Neighbours -/
def rQFX0 : List O := [
 oo 2 <| .box (.t 0),
 oo 4 <| .mv (.k (.own 1 []))]
def rQFX1 : List O := [
 oo 8 <| .ld (some 2) (.t 2),
 oo 9 <| .call nQp [(.t 8)],
 oo 10 <| .bin .neq (.t 9) (ki 0)]
def rQFX2 : List O := [
 oo 4 <| .mv (.k (.own 1 []))]
def rQFX3 : List O := [
 oo 5 <| .mv (.k (.own 1 []))]
def rQFX4 : List O := [
 oo 11 <| .fad 1 (.t 2),
 oo 12 <| .ld none (.t 11),
 oo 13 <| .len (.t 12),
 oo 14 <| .mv (ki 0)]
def rQFX5 : List O := [
 oo 15 <| .bin .lss (.t 14) (.t 13)]
def rQFX6 : List O := [
 oo 16 <| .ixa 2 (.t 12) (.t 14),
 oo 17 <| .ld (some 2) (.t 16),
 oo 7 <| .new [(.int .i64 0), (.int .i64 0)],
 oz <| .st 2 (.t 7) (.t 17)]
def rQFX7 : List O := [
 oo 18 <| .fad 0 (.t 7),
 oo 19 <| .ld none (.t 18),
 oo 20 <| .mv (.t 1),
 oo 21 <| .bin .eql (.t 19) (.t 20)]
def rQFX8 : List O := [
 oo 22 <| .mv (.t 5),
 oo 23 <| .fad 1 (.t 7),
 oo 24 <| .ld none (.t 23),
 oo 25 <| .bslice 1 1 [(.int .i64 0)] [(0, 1, (.t 24))],
 oo 26 <| .app 1 (.t 22) (.t 25),
 oo 5 <| .mv (.t 26)]
def rQFX9 : List O := [
 oo 27 <| .fad 1 (.t 7),
 oo 28 <| .ld none (.t 27),
 oo 29 <| .mv (.t 1),
 oo 30 <| .bin .eql (.t 28) (.t 29)]
def rQFX10 : List O := [
 oo 31 <| .mv (.t 5),
 oo 32 <| .fad 0 (.t 7),
 oo 33 <| .ld none (.t 32),
 oo 34 <| .bslice 1 1 [(.int .i64 0)] [(0, 1, (.t 33))],
 oo 35 <| .app 1 (.t 31) (.t 34),
 oo 5 <| .mv (.t 35)]
def rQFX11 : List O := [
 oo 36 <| .bin .add (.t 14) (ki 1),
 oo 14 <| .mv (.t 36)]
def lQFX0 : C := (.seq (.reg rQFX5 false [] [1, 5, 12, 13, 14, 15]) (.seq (.cond (.t 15) .skip (.exit 0)) (.seq (.blk 1 (.seq (.reg rQFX6 false [] [1, 5, 7, 12, 13, 14]) (.seq (.seq (.reg rQFX7 false [] [1, 5, 7, 12, 13, 14, 21]) (.cond (.t 21) (.reg rQFX8 false [] [1, 5, 7, 12, 13, 14]) .skip)) (.seq (.reg rQFX9 false [] [1, 5, 7, 12, 13, 14, 30]) (.cond (.t 30) (.reg rQFX10 false [] [1, 5, 12, 13, 14]) .skip))))) (.reg rQFX11 false [] [1, 5, 12, 13, 14]))))
def rQFX12 : List O := [
 oo 37 <| .mv (.t 5),
 oo 38 <| .call nQQ [(.t 37)],
 oo 4 <| .mv (.t 38)]
def cQF : C := (.seq (.reg rQFX0 false [] [1, 2]) (.seq (.seq (.reg rQFX1 false [] [1, 2, 10]) (.cond (.t 10) (.seq (.reg rQFX2 false [] [4]) .ret) .skip)) (.seq (.reg rQFX3 false [] [1, 2, 5]) (.seq (.seq (.reg rQFX4 false [] [1, 5, 12, 13, 14]) (.blk 0 (.loop lQFX0))) (.seq (.reg rQFX12 false [] [4]) .ret)))))
def qQF : AFn := ⟨39, 2, [.t 4], cQF⟩
/- cohesion/graph.Ends -/
def rQGX0 : List O := [
 oo 6 <| .mv (.k (.bool false))]
def rQGX1 : List O := [
 oo 7 <| .mv (.t 1),
 oo 8 <| .mv (.t 2),
 oo 9 <| .bin .neq (.t 7) (.t 8),
 oo 10 <| .mv (.t 9),
 ⟨(some 11), (some (10, true)), .mv (.t 1)⟩,
 ⟨(some 12), (some (10, true)), .mv (.t 2)⟩,
 ⟨(some 13), (some (10, true)), .min [(.t 11), (.t 12)]⟩,
 ⟨(some 14), (some (10, true)), .bin .geq (.t 13) (ki 0)⟩,
 oo 15 <| .pick (.t 10) (.t 14) (.k (.bool false)),
 oo 16 <| .mv (.t 15),
 ⟨(some 17), (some (16, true)), .mv (.t 1)⟩,
 ⟨(some 18), (some (16, true)), .mv (.t 2)⟩,
 ⟨(some 19), (some (16, true)), .max [(.t 17), (.t 18)]⟩,
 ⟨(some 20), (some (16, true)), .mv (.t 0)⟩,
 ⟨(some 21), (some (16, true)), .bin .lss (.t 19) (.t 20)⟩,
 oo 22 <| .pick (.t 16) (.t 21) (.k (.bool false)),
 oo 6 <| .mv (.t 22)]
def cQG : C := (.seq (.reg rQGX0 false [] [0, 1, 2]) (.seq (.reg rQGX1 false [] [6]) .ret))
def qQG : AFn := ⟨23, 3, [.t 6], cQG⟩
/- cohesion/graph.edge -/
def rQHX0 : List O := [
 oo 4 <| .new [(.int .i64 0), (.int .i64 0)]]
def rQHX1 : List O := [
 oo 5 <| .mv (.t 0),
 oo 6 <| .mv (.t 1),
 oo 7 <| .min [(.t 5), (.t 6)],
 oo 8 <| .mv (.t 0),
 oo 9 <| .mv (.t 1),
 oo 10 <| .max [(.t 8), (.t 9)],
 oo 11 <| .build [(.int .i64 0), (.int .i64 0)] [(0, 1, (.t 7)), (1, 1, (.t 10))],
 oz <| .st 2 (.t 4) (.t 11)]
def cQH : C := (.seq (.reg rQHX0 false [] [0, 1, 4]) (.seq (.reg rQHX1 false [] [4]) .ret))
def qQH : AFn := ⟨12, 2, [.c 4 (some 2)], cQH⟩
/- slices.SortFunc[[]cohesion/api.Edge,cohesion/api.Edge] -/
def rQIX0 : List O := [
 oo 5 <| .mv (.t 0),
 oo 6 <| .len (.t 5),
 oo 4 <| .mv (.t 6)]
def rQIX1 : List O := [
 oo 7 <| .mv (.t 0),
 oo 8 <| .mv (.t 4),
 oo 9 <| .mv (.t 4),
 oo 10 <| .cvt .u64 (.t 9),
 oo 11 <| .call 48 [(.t 10)],
 oo 12 <| .mv (.t 1),
 oo 13 <| .call 75 [(.t 7), (ki 0), (.t 8), (.t 11), (.t 12)]]
def cQI : C := (.seq (.reg rQIX0 false [] [0, 1, 4]) (.reg rQIX1 false [] []))
def qQI : AFn := ⟨14, 2, [], cQI⟩
/- slices.Compact[[]cohesion/api.Edge,cohesion/api.Edge] -/
def rQJX0 : List O := [
 oo 2 <| .mv (.k (.own 2 []))]
def rQJX1 : List O := [
 oo 6 <| .mv (.t 0),
 oo 7 <| .len (.t 6),
 oo 8 <| .bin .lss (.t 7) (ki 2)]
def rQJX2 : List O := [
 oo 9 <| .mv (.t 0),
 oo 2 <| .mv (.t 9)]
def rQJX3 : List O := [
 oo 3 <| .mv (ki 1)]
def rQJX4 : List O := [
 oo 10 <| .mv (.t 3),
 oo 11 <| .mv (.t 0),
 oo 12 <| .len (.t 11),
 oo 13 <| .bin .lss (.t 10) (.t 12)]
def rQJX5 : List O := [
 oo 16 <| .mv (.t 0),
 oo 17 <| .mv (.t 3),
 oo 18 <| .ixa 2 (.t 16) (.t 17),
 oo 19 <| .ld (some 2) (.t 18),
 oo 20 <| .mv (.t 0),
 oo 21 <| .mv (.t 3),
 oo 22 <| .bin .sub (.t 21) (ki 1),
 oo 23 <| .ixa 2 (.t 20) (.t 22),
 oo 24 <| .ld (some 2) (.t 23),
 oo 25 <| .eq false (.str [true, true]) (.t 19) (.t 24)]
def rQJX6 : List O := [
 oo 26 <| .mv (.t 0),
 oo 27 <| .mv (.t 3),
 oo 28 <| .slc 2 (.t 26) (some (.t 27)) none,
 oo 4 <| .mv (.t 28)]
def rQJX7 : List O := [
 oo 5 <| .mv (ki 1)]
def rQJX8 : List O := [
 oo 29 <| .mv (.t 5),
 oo 30 <| .mv (.t 4),
 oo 31 <| .len (.t 30),
 oo 32 <| .bin .lss (.t 29) (.t 31)]
def rQJX9 : List O := [
 oo 35 <| .mv (.t 4),
 oo 36 <| .mv (.t 5),
 oo 37 <| .ixa 2 (.t 35) (.t 36),
 oo 38 <| .ld (some 2) (.t 37),
 oo 39 <| .mv (.t 4),
 oo 40 <| .mv (.t 5),
 oo 41 <| .bin .sub (.t 40) (ki 1),
 oo 42 <| .ixa 2 (.t 39) (.t 41),
 oo 43 <| .ld (some 2) (.t 42),
 oo 44 <| .eq true (.str [true, true]) (.t 38) (.t 43)]
def rQJX10 : List O := [
 oo 45 <| .mv (.t 0),
 oo 46 <| .mv (.t 3),
 oo 47 <| .mv (.t 4),
 oo 48 <| .mv (.t 5),
 oo 49 <| .ixa 2 (.t 47) (.t 48),
 oo 50 <| .ld (some 2) (.t 49),
 oo 51 <| .ixa 2 (.t 45) (.t 46),
 oz <| .st 2 (.t 51) (.t 50)]
def rQJX11 : List O := [
 oo 52 <| .mv (.t 3),
 oo 53 <| .bin .add (.t 52) (ki 1),
 oo 3 <| .mv (.t 53)]
def rQJX12 : List O := [
 oo 33 <| .mv (.t 5),
 oo 34 <| .bin .add (.t 33) (ki 1),
 oo 5 <| .mv (.t 34)]
def lQJX0 : C := (.seq (.seq (.reg rQJX8 false [] [0, 3, 4, 5, 32]) (.cond (.t 32) .skip (.exit 2))) (.seq (.blk 3 (.seq (.reg rQJX9 true [(9, 9), (3, 4), (3, 5), (3, 6), (3, 7), (0, 8), (1, 8), (2, 8), (3, 8)] [0, 3, 4, 5, 44]) (.cond (.t 44) (.seq (.reg rQJX10 false [] [0, 3, 4, 5]) (.reg rQJX11 false [] [0, 3, 4, 5])) .skip))) (.reg rQJX12 false [] [0, 3, 4, 5])))
def rQJX13 : List O := [
 oo 54 <| .mv (.t 0),
 oo 55 <| .mv (.t 3),
 oo 56 <| .slc 2 (.t 54) (some (.t 55)) none,
 oz <| .clr 2 [(.int .i64 0), (.int .i64 0)] (.t 56)]
def rQJX14 : List O := [
 oo 57 <| .mv (.t 0),
 oo 58 <| .mv (.t 3),
 oo 59 <| .slc 2 (.t 57) none (some (.t 58)),
 oo 2 <| .mv (.t 59)]
def rQJX15 : List O := [
 oo 14 <| .mv (.t 3),
 oo 15 <| .bin .add (.t 14) (ki 1),
 oo 3 <| .mv (.t 15)]
def lQJX1 : C := (.seq (.seq (.reg rQJX4 false [] [0, 3, 13]) (.cond (.t 13) .skip (.exit 0))) (.seq (.blk 1 (.seq (.reg rQJX5 true [(9, 9), (3, 4), (3, 5), (3, 6), (3, 7), (0, 8), (1, 8), (2, 8), (3, 8)] [0, 3, 25]) (.cond (.t 25) (.seq (.reg rQJX6 false [] [0, 3, 4]) (.seq (.seq (.reg rQJX7 false [] [0, 3, 4, 5]) (.blk 2 (.loop lQJX0))) (.seq (.reg rQJX13 false [] [0, 3]) (.seq (.reg rQJX14 false [] [2]) .ret)))) .skip))) (.reg rQJX15 false [] [0, 3])))
def rQJX16 : List O := [
 oo 60 <| .mv (.t 0),
 oo 2 <| .mv (.t 60)]
def cQJ : C := (.seq (.reg rQJX0 false [] [0]) (.seq (.seq (.reg rQJX1 false [] [0, 8]) (.cond (.t 8) (.seq (.reg rQJX2 false [] [2]) .ret) .skip)) (.seq (.seq (.reg rQJX3 false [] [0, 3]) (.blk 0 (.loop lQJX1))) (.seq (.reg rQJX16 false [] [2]) .ret))))
def qQJ : AFn := ⟨61, 1, [.t 2], cQJ⟩
/- cohesion/cohesionref03.ends -/
def rQKX0 : List O := [
 oo 6 <| .mv (.k (.bool false))]
def rQKX1 : List O := [
 oo 7 <| .mv (.t 1),
 oo 8 <| .bin .geq (.t 7) (ki 0),
 oo 9 <| .mv (.t 8),
 ⟨(some 10), (some (9, true)), .mv (.t 2)⟩,
 ⟨(some 11), (some (9, true)), .bin .geq (.t 10) (ki 0)⟩,
 oo 12 <| .pick (.t 9) (.t 11) (.k (.bool false)),
 oo 13 <| .mv (.t 12),
 ⟨(some 14), (some (13, true)), .mv (.t 1)⟩,
 ⟨(some 15), (some (13, true)), .mv (.t 0)⟩,
 ⟨(some 16), (some (13, true)), .bin .lss (.t 14) (.t 15)⟩,
 oo 17 <| .pick (.t 13) (.t 16) (.k (.bool false)),
 oo 18 <| .mv (.t 17),
 ⟨(some 19), (some (18, true)), .mv (.t 2)⟩,
 ⟨(some 20), (some (18, true)), .mv (.t 0)⟩,
 ⟨(some 21), (some (18, true)), .bin .lss (.t 19) (.t 20)⟩,
 oo 22 <| .pick (.t 18) (.t 21) (.k (.bool false)),
 oo 23 <| .mv (.t 22),
 ⟨(some 24), (some (23, true)), .mv (.t 1)⟩,
 ⟨(some 25), (some (23, true)), .mv (.t 2)⟩,
 ⟨(some 26), (some (23, true)), .bin .neq (.t 24) (.t 25)⟩,
 oo 27 <| .pick (.t 23) (.t 26) (.k (.bool false)),
 oo 6 <| .mv (.t 27)]
def cQK : C := (.seq (.reg rQKX0 false [] [0, 1, 2]) (.seq (.reg rQKX1 false [] [6]) .ret))
def qQK : AFn := ⟨28, 3, [.t 6], cQK⟩
/- cohesion/cohesionref03.Find -/
def rQLX0 : List O := [
 oo 3 <| .box (.t 0),
 oo 6 <| .mv (ki 0)]
def rQLX1 : List O := [
 oo 9 <| .ld (some 2) (.t 3),
 oo 10 <| .call nQp [(.t 9)],
 oo 11 <| .bin .neq (.t 10) (ki 0)]
def rQLX2 : List O := [
 oo 6 <| .mv (.k (.int .i64 (-1)))]
def rQLX3 : List O := [
 oo 12 <| .fad 1 (.t 3),
 oo 13 <| .ld none (.t 12),
 oo 14 <| .len (.t 13),
 oo 15 <| .mv (ki 0)]
def rQLX4 : List O := [
 oo 16 <| .bin .lss (.t 15) (.t 14)]
def rQLX5 : List O := [
 oo 17 <| .mv (.t 15),
 oo 18 <| .ixa 2 (.t 13) (.t 15),
 oo 19 <| .ld (some 2) (.t 18),
 oo 8 <| .new [(.int .i64 0), (.int .i64 0)],
 oo 7 <| .mv (.t 17),
 oz <| .st 2 (.t 8) (.t 19)]
def rQLX6 : List O := [
 oo 20 <| .ld (some 2) (.t 8),
 oo 21 <| .mv (.t 1),
 oo 22 <| .mv (.t 2),
 oo 23 <| .call nQN [(.t 21), (.t 22)],
 oo 24 <| .eq false (.str [true, true]) (.t 20) (.t 23)]
def rQLX7 : List O := [
 oo 25 <| .mv (.t 7),
 oo 6 <| .mv (.t 25)]
def rQLX8 : List O := [
 oo 26 <| .bin .add (.t 15) (ki 1),
 oo 15 <| .mv (.t 26)]
def lQLX0 : C := (.seq (.reg rQLX4 false [] [1, 2, 13, 14, 15, 16]) (.seq (.cond (.t 16) .skip (.exit 0)) (.seq (.blk 1 (.seq (.reg rQLX5 false [] [1, 2, 7, 8, 13, 14, 15]) (.seq (.reg rQLX6 true [(4, 4), (0, 1), (0, 2), (0, 3)] [1, 2, 7, 13, 14, 15, 24]) (.cond (.t 24) (.seq (.reg rQLX7 false [] [6]) .ret) .skip)))) (.reg rQLX8 false [] [1, 2, 13, 14, 15]))))
def rQLX9 : List O := [
 oo 6 <| .mv (.k (.int .i64 (-1)))]
def cQL : C := (.seq (.reg rQLX0 false [] [1, 2, 3]) (.seq (.seq (.reg rQLX1 false [] [1, 2, 3, 11]) (.cond (.t 11) (.seq (.reg rQLX2 false [] [6]) .ret) .skip)) (.seq (.seq (.reg rQLX3 false [] [1, 2, 13, 14, 15]) (.blk 0 (.loop lQLX0))) (.seq (.reg rQLX9 false [] [6]) .ret))))
def qQL : AFn := ⟨27, 3, [.t 6], cQL⟩
/- cohesion/cohesionref03.with -/
def rQMX0 : List O := [
 oo 3 <| .box (.t 1),
 oo 4 <| .mv (.k (.own 2 []))]
def rQMX1 : List O := [
 oo 5 <| .mv (ki 0)]
def rQMX2 : List O := [
 oo 7 <| .mv (.t 5),
 oo 8 <| .mv (.t 0),
 oo 9 <| .len (.t 8),
 oo 10 <| .bin .lss (.t 7) (.t 9),
 oo 11 <| .mv (.t 10),
 ⟨(some 12), (some (11, true)), .mv (.t 0)⟩,
 ⟨(some 13), (some (11, true)), .mv (.t 5)⟩,
 ⟨(some 14), (some (11, true)), .ixa 2 (.t 12) (.t 13)⟩,
 ⟨(some 15), (some (11, true)), .ld (some 2) (.t 14)⟩,
 ⟨(some 16), (some (11, true)), .ld (some 2) (.t 3)⟩,
 ⟨(some 17), (some (11, true)), .call nQC [(.t 15), (.t 16)]⟩,
 oo 18 <| .pick (.t 11) (.t 17) (.k (.bool false))]
def rQMX3 : List O := [
 oo 19 <| .mv (.t 5),
 oo 20 <| .bin .add (.t 19) (ki 1),
 oo 5 <| .mv (.t 20)]
def lQMX0 : C := (.seq (.seq (.reg rQMX2 true [(3, 3), (4, 4), (10, 10), (11, 11), (5, 9), (6, 9), (7, 9), (8, 9)] [0, 3, 5, 18]) (.cond (.t 18) .skip (.exit 0))) (.blk 1 (.reg rQMX3 false [] [0, 3, 5])))
def rQMX4 : List O := [
 oo 21 <| .mv (.t 5),
 oo 22 <| .mv (.t 0),
 oo 23 <| .len (.t 22),
 oo 24 <| .bin .lss (.t 21) (.t 23),
 oo 25 <| .mv (.t 24),
 ⟨(some 26), (some (25, true)), .mv (.t 0)⟩,
 ⟨(some 27), (some (25, true)), .mv (.t 5)⟩,
 ⟨(some 28), (some (25, true)), .ixa 2 (.t 26) (.t 27)⟩,
 ⟨(some 29), (some (25, true)), .ld (some 2) (.t 28)⟩,
 ⟨(some 30), (some (25, true)), .ld (some 2) (.t 3)⟩,
 ⟨(some 31), (some (25, true)), .eq false (.str [true, true]) (.t 29) (.t 30)⟩,
 oo 32 <| .pick (.t 25) (.t 31) (.k (.bool false))]
def rQMX5 : List O := [
 oo 33 <| .mv (.t 0),
 oo 4 <| .mv (.t 33)]
def rQMX6 : List O := [
 oo 34 <| .mv (.t 0),
 oo 35 <| .mv (.t 5),
 oo 36 <| .slc 2 (.t 34) none (some (.t 35)),
 oo 37 <| .app 2 (.k (.own 2 [])) (.t 36),
 oo 6 <| .mv (.t 37)]
def rQMX7 : List O := [
 oo 38 <| .mv (.t 6),
 oo 39 <| .ld (some 2) (.t 3),
 oo 40 <| .bslice 2 1 [(.int .i64 0), (.int .i64 0)] [(0, 2, (.t 39))],
 oo 41 <| .app 2 (.t 38) (.t 40),
 oo 42 <| .mv (.t 0),
 oo 43 <| .mv (.t 5),
 oo 44 <| .slc 2 (.t 42) (some (.t 43)) none,
 oo 45 <| .app 2 (.t 41) (.t 44),
 oo 4 <| .mv (.t 45)]
def cQM : C := (.seq (.reg rQMX0 false [] [0, 3]) (.seq (.reg rQMX1 false [] [0, 3, 5]) (.seq (.blk 0 (.loop lQMX0)) (.seq (.seq (.reg rQMX4 true [(3, 3), (4, 4), (10, 10), (11, 11), (5, 9), (6, 9), (7, 9), (8, 9)] [0, 3, 5, 32]) (.cond (.t 32) (.seq (.reg rQMX5 false [] [4]) .ret) .skip)) (.seq (.reg rQMX6 false [] [0, 3, 5, 6]) (.seq (.reg rQMX7 true [(7, 7), (8, 8), (0, 1), (0, 2), (1, 4), (2, 4), (3, 4), (1, 5), (2, 5), (3, 5), (1, 6), (2, 6), (3, 6)] [4]) .ret))))))
def qQM : AFn := ⟨46, 2, [.t 4], cQM⟩
/- cohesion/cohesionref03.edge -/
def rQNX0 : List O := [
 oo 4 <| .new [(.int .i64 0), (.int .i64 0)]]
def rQNX1 : List O := [
 oo 5 <| .mv (.t 0),
 oo 6 <| .mv (.t 1),
 oo 7 <| .min [(.t 5), (.t 6)],
 oo 8 <| .mv (.t 0),
 oo 9 <| .mv (.t 1),
 oo 10 <| .max [(.t 8), (.t 9)],
 oo 11 <| .build [(.int .i64 0), (.int .i64 0)] [(0, 1, (.t 7)), (1, 1, (.t 10))],
 oz <| .st 2 (.t 4) (.t 11)]
def cQN : C := (.seq (.reg rQNX0 false [] [0, 1, 4]) (.seq (.reg rQNX1 false [] [4]) .ret))
def qQN : AFn := ⟨12, 2, [.c 4 (some 2)], cQN⟩
/- cmp.Or[int] -/
def rQOX0 : List O := [
 oo 2 <| .mv (ki 0)]
def rQOX1 : List O := [
 oo 3 <| .mv (ki 0)]
def rQOX2 : List O := [
 oo 6 <| .mv (.t 0),
 oo 7 <| .len (.t 6),
 oo 8 <| .mv (ki 0)]
def rQOX3 : List O := [
 oo 9 <| .bin .lss (.t 8) (.t 7)]
def rQOX4 : List O := [
 oo 10 <| .ixa 1 (.t 6) (.t 8),
 oo 11 <| .ld none (.t 10),
 oo 5 <| .mv (.t 11)]
def rQOX5 : List O := [
 oo 12 <| .mv (.t 5),
 oo 13 <| .mv (.t 3),
 oo 14 <| .bin .neq (.t 12) (.t 13)]
def rQOX6 : List O := [
 oo 15 <| .mv (.t 5),
 oo 2 <| .mv (.t 15)]
def rQOX7 : List O := [
 oo 16 <| .bin .add (.t 8) (ki 1),
 oo 8 <| .mv (.t 16)]
def lQOX0 : C := (.seq (.reg rQOX3 false [] [3, 6, 7, 8, 9]) (.seq (.cond (.t 9) .skip (.exit 0)) (.seq (.blk 1 (.seq (.reg rQOX4 false [] [3, 5, 6, 7, 8]) (.seq (.reg rQOX5 false [] [3, 5, 6, 7, 8, 14]) (.cond (.t 14) (.seq (.reg rQOX6 false [] [2]) .ret) .skip)))) (.reg rQOX7 false [] [3, 6, 7, 8]))))
def rQOX8 : List O := [
 oo 17 <| .mv (.t 3),
 oo 2 <| .mv (.t 17)]
def cQO : C := (.seq (.reg rQOX0 false [] [0]) (.seq (.reg rQOX1 false [] [0, 3]) (.seq (.seq (.reg rQOX2 false [] [3, 6, 7, 8]) (.blk 0 (.loop lQOX0))) (.seq (.reg rQOX8 false [] [2]) .ret))))
def qQO : AFn := ⟨18, 1, [.t 2], cQO⟩
/- cmp.Compare[int] -/
def rQPX0 : List O := [
 oo 4 <| .mv (ki 0)]
def rQPX1 : List O := [
 oo 7 <| .mv (.t 0),
 oo 8 <| .call nQR [(.t 7)],
 oo 5 <| .mv (.t 8)]
def rQPX2 : List O := [
 oo 9 <| .mv (.t 1),
 oo 10 <| .call nQR [(.t 9)],
 oo 6 <| .mv (.t 10)]
def rQPX3 : List O := [
 oo 11 <| .mv (.t 5)]
def rQPX4 : List O := [
 oo 12 <| .mv (.t 6)]
def rQPX5 : List O := [
 oo 4 <| .mv (ki 0)]
def rQPX6 : List O := [
 oo 4 <| .mv (.k (.int .i64 (-1)))]
def rQPX7 : List O := [
 oo 13 <| .mv (.t 6)]
def rQPX8 : List O := [
 oo 4 <| .mv (ki 1)]
def rQPX9 : List O := [
 oo 14 <| .mv (.t 0),
 oo 15 <| .mv (.t 1),
 oo 16 <| .bin .lss (.t 14) (.t 15)]
def rQPX10 : List O := [
 oo 4 <| .mv (.k (.int .i64 (-1)))]
def rQPX11 : List O := [
 oo 17 <| .mv (.t 0),
 oo 18 <| .mv (.t 1),
 oo 19 <| .bin .gtr (.t 17) (.t 18)]
def rQPX12 : List O := [
 oo 4 <| .mv (ki 1)]
def rQPX13 : List O := [
 oo 4 <| .mv (ki 0)]
def cQP : C := (.seq (.reg rQPX0 false [] [0, 1]) (.seq (.reg rQPX1 false [] [0, 1, 5]) (.seq (.reg rQPX2 false [] [0, 1, 5, 6]) (.seq (.seq (.reg rQPX3 false [] [0, 1, 6, 11]) (.cond (.t 11) (.seq (.seq (.reg rQPX4 false [] [12]) (.cond (.t 12) (.seq (.reg rQPX5 false [] [4]) .ret) .skip)) (.seq (.reg rQPX6 false [] [4]) .ret)) .skip)) (.seq (.seq (.reg rQPX7 false [] [0, 1, 13]) (.cond (.t 13) (.seq (.reg rQPX8 false [] [4]) .ret) .skip)) (.seq (.seq (.reg rQPX9 false [] [0, 1, 16]) (.cond (.t 16) (.seq (.reg rQPX10 false [] [4]) .ret) .skip)) (.seq (.seq (.reg rQPX11 false [] [19]) (.cond (.t 19) (.seq (.reg rQPX12 false [] [4]) .ret) .skip)) (.seq (.reg rQPX13 false [] [4]) .ret))))))))
def qQP : AFn := ⟨20, 2, [.t 4], cQP⟩
/- cohesion/cohesionref02.Of -/
def rQQX0 : List O := [
 oo 2 <| .mv (.k (.own 1 []))]
def rQQX1 : List O := [
 oo 3 <| .mv (.k (.own 1 []))]
def rQQX2 : List O := [
 oo 6 <| .mv (.t 0),
 oo 7 <| .len (.t 6),
 oo 8 <| .mv (ki 0)]
def rQQX3 : List O := [
 oo 9 <| .bin .lss (.t 8) (.t 7)]
def rQQX4 : List O := [
 oo 10 <| .ixa 1 (.t 6) (.t 8),
 oo 11 <| .ld none (.t 10),
 oo 5 <| .mv (.t 11)]
def rQQX5 : List O := [
 oo 12 <| .mv (.t 3),
 oo 13 <| .mv (.t 5),
 oo 14 <| .call nQS [(.t 12), (.t 13)],
 oo 3 <| .mv (.t 14)]
def rQQX6 : List O := [
 oo 15 <| .bin .add (.t 8) (ki 1),
 oo 8 <| .mv (.t 15)]
def lQQX0 : C := (.seq (.reg rQQX3 false [] [3, 6, 7, 8, 9]) (.seq (.cond (.t 9) .skip (.exit 0)) (.seq (.blk 1 (.seq (.reg rQQX4 false [] [3, 5, 6, 7, 8]) (.reg rQQX5 false [] [3, 6, 7, 8]))) (.reg rQQX6 false [] [3, 6, 7, 8]))))
def rQQX7 : List O := [
 oo 16 <| .mv (.t 3),
 oo 2 <| .mv (.t 16)]
def cQQ : C := (.seq (.reg rQQX0 false [] [0]) (.seq (.reg rQQX1 false [] [0, 3]) (.seq (.seq (.reg rQQX2 false [] [3, 6, 7, 8]) (.blk 0 (.loop lQQX0))) (.seq (.reg rQQX7 false [] [2]) .ret))))
def qQQ : AFn := ⟨17, 1, [.t 2], cQQ⟩
/- cmp.isNaN[int] -/
def rQRX0 : List O := [
 oo 2 <| .mv (.k (.bool false))]
def rQRX1 : List O := [
 oo 3 <| .mv (.t 0),
 oo 4 <| .mv (.t 0),
 oo 5 <| .bin .neq (.t 3) (.t 4),
 oo 2 <| .mv (.t 5)]
def cQR : C := (.seq (.reg rQRX0 false [] [0]) (.seq (.reg rQRX1 false [] [2]) .ret))
def qQR : AFn := ⟨6, 1, [.t 2], cQR⟩
/- cohesion/cohesionref02.put -/
def rQSX0 : List O := [
 oo 4 <| .mv (.k (.own 1 []))]
def rQSX1 : List O := [
 oo 5 <| .mv (ki 0)]
def rQSX2 : List O := [
 oo 7 <| .mv (.t 5),
 oo 8 <| .mv (.t 0),
 oo 9 <| .len (.t 8),
 oo 10 <| .bin .lss (.t 7) (.t 9),
 oo 11 <| .mv (.t 10),
 ⟨(some 12), (some (11, true)), .mv (.t 0)⟩,
 ⟨(some 13), (some (11, true)), .mv (.t 5)⟩,
 ⟨(some 14), (some (11, true)), .ixa 1 (.t 12) (.t 13)⟩,
 ⟨(some 15), (some (11, true)), .ld none (.t 14)⟩,
 ⟨(some 16), (some (11, true)), .mv (.t 1)⟩,
 ⟨(some 17), (some (11, true)), .bin .lss (.t 15) (.t 16)⟩,
 oo 18 <| .pick (.t 11) (.t 17) (.k (.bool false))]
def rQSX3 : List O := [
 oo 19 <| .mv (.t 5),
 oo 20 <| .bin .add (.t 19) (ki 1),
 oo 5 <| .mv (.t 20)]
def lQSX0 : C := (.seq (.seq (.reg rQSX2 false [] [0, 1, 5, 18]) (.cond (.t 18) .skip (.exit 0))) (.blk 1 (.reg rQSX3 false [] [0, 1, 5])))
def rQSX4 : List O := [
 oo 21 <| .mv (.t 5),
 oo 22 <| .mv (.t 0),
 oo 23 <| .len (.t 22),
 oo 24 <| .bin .lss (.t 21) (.t 23),
 oo 25 <| .mv (.t 24),
 ⟨(some 26), (some (25, true)), .mv (.t 0)⟩,
 ⟨(some 27), (some (25, true)), .mv (.t 5)⟩,
 ⟨(some 28), (some (25, true)), .ixa 1 (.t 26) (.t 27)⟩,
 ⟨(some 29), (some (25, true)), .ld none (.t 28)⟩,
 ⟨(some 30), (some (25, true)), .mv (.t 1)⟩,
 ⟨(some 31), (some (25, true)), .bin .eql (.t 29) (.t 30)⟩,
 oo 32 <| .pick (.t 25) (.t 31) (.k (.bool false))]
def rQSX5 : List O := [
 oo 33 <| .mv (.t 0),
 oo 4 <| .mv (.t 33)]
def rQSX6 : List O := [
 oo 34 <| .mv (.t 0),
 oo 35 <| .mv (.t 5),
 oo 36 <| .slc 1 (.t 34) none (some (.t 35)),
 oo 37 <| .app 1 (.k (.own 1 [])) (.t 36),
 oo 6 <| .mv (.t 37)]
def rQSX7 : List O := [
 oo 38 <| .mv (.t 6),
 oo 39 <| .mv (.t 1),
 oo 40 <| .bslice 1 1 [(.int .i64 0)] [(0, 1, (.t 39))],
 oo 41 <| .app 1 (.t 38) (.t 40),
 oo 42 <| .mv (.t 0),
 oo 43 <| .mv (.t 5),
 oo 44 <| .slc 1 (.t 42) (some (.t 43)) none,
 oo 45 <| .app 1 (.t 41) (.t 44),
 oo 4 <| .mv (.t 45)]
def cQS : C := (.seq (.reg rQSX0 false [] [0, 1]) (.seq (.reg rQSX1 false [] [0, 1, 5]) (.seq (.blk 0 (.loop lQSX0)) (.seq (.seq (.reg rQSX4 false [] [0, 1, 5, 32]) (.cond (.t 32) (.seq (.reg rQSX5 false [] [4]) .ret) .skip)) (.seq (.reg rQSX6 false [] [0, 1, 5, 6]) (.seq (.reg rQSX7 true [(7, 7), (8, 8), (0, 2), (2, 4), (3, 4), (2, 5), (3, 5), (2, 6), (3, 6)] [4]) .ret))))))
def qQS : AFn := ⟨46, 2, [.t 4], cQS⟩
abbrev Md := Go.Bm.Md
abbrev Cfg := Go.Bm.Cfg
def look : List (Nat × Md × AFn) -> Nat -> Option (Md × AFn)
 | [], _ => none
 | (j, m, q) :: r, i => if i = j then some (m, q) else look r i
def fns : List (Nat × Md × AFn) := [
 (nQa, ⟨false, false, true⟩, qQa),
 (nQb, ⟨false, false, true⟩, qQb),
 (nQc, ⟨false, false, true⟩, qQc),
 (nQd, ⟨false, false, true⟩, qQd),
 (nQe, ⟨false, false, true⟩, qQe),
 (nQf, ⟨true, false, false⟩, qQf),
 (nQg, ⟨true, false, false⟩, qQg),
 (nQh, ⟨false, false, false⟩, qQh),
 (nQi, ⟨false, false, false⟩, qQi),
 (nQj, ⟨false, false, true⟩, qQj),
 (nQk, ⟨true, false, false⟩, qQk),
 (nQl, ⟨false, false, false⟩, qQl),
 (nQm, ⟨false, false, false⟩, qQm),
 (nQn, ⟨false, false, true⟩, qQn),
 (nQo, ⟨false, false, true⟩, qQo),
 (nQp, ⟨false, false, true⟩, qQp),
 (nQq, ⟨false, false, false⟩, qQq),
 (nQr, ⟨false, true, true⟩, qQr),
 (nQs, ⟨false, false, true⟩, qQs),
 (nQt, ⟨false, false, true⟩, qQt),
 (nQu, ⟨false, false, false⟩, qQu),
 (nQv, ⟨false, false, true⟩, qQv),
 (nQw, ⟨false, false, true⟩, qQw),
 (nQx, ⟨false, false, true⟩, qQx),
 (nQy, ⟨false, false, false⟩, qQy),
 (nQz, ⟨false, false, true⟩, qQz),
 (nQA, ⟨false, false, false⟩, qQA),
 (nQB, ⟨false, false, true⟩, qQB),
 (nQC, ⟨false, false, true⟩, qQC),
 (nQD, ⟨false, false, true⟩, qQD),
 (nQE, ⟨false, false, true⟩, qQE),
 (nQF, ⟨false, false, false⟩, qQF),
 (nQG, ⟨false, false, true⟩, qQG),
 (nQH, ⟨false, false, false⟩, qQH),
 (nQI, ⟨false, false, true⟩, qQI),
 (nQJ, ⟨false, false, false⟩, qQJ),
 (nQK, ⟨false, false, true⟩, qQK),
 (nQL, ⟨false, false, true⟩, qQL),
 (nQM, ⟨false, false, false⟩, qQM),
 (nQN, ⟨false, false, false⟩, qQN),
 (nQO, ⟨false, false, true⟩, qQO),
 (nQP, ⟨false, false, true⟩, qQP),
 (nQQ, ⟨false, false, false⟩, qQQ),
 (nQR, ⟨false, false, true⟩, qQR),
 (nQS, ⟨false, false, false⟩, qQS)]
def cfg : Cfg := ⟨look fns, fun _ => [], fun _ => none, fun _ => none, fun _ => none, fun _ => false, fun _ => false⟩
theorem kLaw09DegreeRealises : chkFB Go.Proofs.Try.prog Go.Proofs.Try.f6 qQa = true := by kernel_rfl
theorem kMakeMod : chkFB Go.Proofs.Try.prog Go.Proofs.Try.f8 qQb = true := by kernel_rfl
theorem kDegreeGraphic : chkFB Go.Proofs.Try.prog Go.Proofs.Try.f9 qQc = true := by kernel_rfl
theorem kLaw09Awake : chkFB Go.Proofs.Try.prog Go.Proofs.Try.f10 qQd = true := by kernel_rfl
theorem kDegreeH : chkFB Go.Proofs.Try.prog Go.Proofs.Try.f11 qQe = true := by kernel_rfl
theorem kMakeGraph : chkFB Go.Proofs.Try.prog Go.Proofs.Try.f12 qQf = true := by kernel_rfl
theorem kMakeNew : chkFB Go.Proofs.Try.prog Go.Proofs.Try.f13 qQg = true := by kernel_rfl
theorem kDegreeDegrees : chkFB Go.Proofs.Try.prog Go.Proofs.Try.f14 qQh = true := by kernel_rfl
theorem kRef09Degrees : chkFB Go.Proofs.Try.prog Go.Proofs.Try.f15 qQi = true := by kernel_rfl
theorem kRef02Same : chkFB Go.Proofs.Try.prog Go.Proofs.Try.f20 qQj = true := by kernel_rfl
theorem kMakeDeckNext : chkFB Go.Proofs.Try.prog Go.Proofs.Try.f22 qQk = true := by kernel_rfl
theorem kDegreeRealise : chkFB Go.Proofs.Try.prog Go.Proofs.Try.f23 qQl = true := by kernel_rfl
theorem kRef09Realise : chkFB Go.Proofs.Try.prog Go.Proofs.Try.f24 qQm = true := by kernel_rfl
theorem kRef03Same : chkFB Go.Proofs.Try.prog Go.Proofs.Try.f25 qQn = true := by kernel_rfl
theorem kRef09Graphic : chkFB Go.Proofs.Try.prog Go.Proofs.Try.f26 qQo = true := by kernel_rfl
theorem kRef03Check : chkFB Go.Proofs.Try.prog Go.Proofs.Try.f28 qQp = true := by kernel_rfl
theorem kDegreeRealiseN29 : chkFB Go.Proofs.Try.prog Go.Proofs.Try.f29 qQq = true := by kernel_rfl
theorem kSlicesCloneIntInt : chkFB Go.Proofs.Try.prog Go.Proofs.Try.f30 qQr = true := by kernel_rfl
theorem kSlicesSortIntInt : chkFB Go.Proofs.Try.prog Go.Proofs.Try.f31 qQs = true := by kernel_rfl
theorem kGraphCheck : chkFB Go.Proofs.Try.prog Go.Proofs.Try.f32 qQt = true := by kernel_rfl
theorem kMasksRows : chkFB Go.Proofs.Try.prog Go.Proofs.Try.f33 qQu = true := by kernel_rfl
theorem kMasksCount : chkFB Go.Proofs.Try.prog Go.Proofs.Try.f34 qQv = true := by kernel_rfl
theorem kRef03Degree : chkFB Go.Proofs.Try.prog Go.Proofs.Try.f35 qQw = true := by kernel_rfl
theorem kRef02Cmp : chkFB Go.Proofs.Try.prog Go.Proofs.Try.f39 qQx = true := by kernel_rfl
theorem kGraphOf : chkFB Go.Proofs.Try.prog Go.Proofs.Try.f40 qQy = true := by kernel_rfl
theorem kRef09Most : chkFB Go.Proofs.Try.prog Go.Proofs.Try.f41 qQz = true := by kernel_rfl
theorem kRef03Add : chkFB Go.Proofs.Try.prog Go.Proofs.Try.f42 qQA = true := by kernel_rfl
theorem kRef03SameEdges : chkFB Go.Proofs.Try.prog Go.Proofs.Try.f43 qQB = true := by kernel_rfl
theorem kRef03Before : chkFB Go.Proofs.Try.prog Go.Proofs.Try.f44 qQC = true := by kernel_rfl
theorem kGraphOrder : chkFB Go.Proofs.Try.prog Go.Proofs.Try.f49 qQD = true := by kernel_rfl
theorem kMathBitsOnesCount64 : chkFB Go.Proofs.Try.prog Go.Proofs.Try.f50 qQE = true := by kernel_rfl
theorem kRef03Neighbours : chkFB Go.Proofs.Try.prog Go.Proofs.Try.f51 qQF = true := by kernel_rfl
theorem kGraphEnds : chkFB Go.Proofs.Try.prog Go.Proofs.Try.f52 qQG = true := by kernel_rfl
theorem kGraphEdge : chkFB Go.Proofs.Try.prog Go.Proofs.Try.f53 qQH = true := by kernel_rfl
theorem kSlicesSortFuncApiEdgeApiEdge : chkFB Go.Proofs.Try.prog Go.Proofs.Try.f54 qQI = true := by kernel_rfl
theorem kSlicesCompactApiEdgeApiEdge : chkFB Go.Proofs.Try.prog Go.Proofs.Try.f55 qQJ = true := by kernel_rfl
theorem kRef03Ends : chkFB Go.Proofs.Try.prog Go.Proofs.Try.f56 qQK = true := by kernel_rfl
theorem kRef03Find : chkFB Go.Proofs.Try.prog Go.Proofs.Try.f57 qQL = true := by kernel_rfl
theorem kRef03With : chkFB Go.Proofs.Try.prog Go.Proofs.Try.f58 qQM = true := by kernel_rfl
theorem kRef03Edge : chkFB Go.Proofs.Try.prog Go.Proofs.Try.f59 qQN = true := by kernel_rfl
theorem kCmpOrInt : chkFB Go.Proofs.Try.prog Go.Proofs.Try.f72 qQO = true := by kernel_rfl
theorem kCmpCompareInt : chkFB Go.Proofs.Try.prog Go.Proofs.Try.f73 qQP = true := by kernel_rfl
theorem kRef02Of : chkFB Go.Proofs.Try.prog Go.Proofs.Try.f74 qQQ = true := by kernel_rfl
theorem kCmpIsNaNInt : chkFB Go.Proofs.Try.prog Go.Proofs.Try.f89 qQR = true := by kernel_rfl
theorem kRef02Put : chkFB Go.Proofs.Try.prog Go.Proofs.Try.f90 qQS = true := by kernel_rfl
theorem look_mem : ∀ {l : List (Nat × Md × AFn)} {f : Nat} {m : Md} {q : AFn}, look l f = some (m, q) -> (f, m, q) ∈ l
 | [], f, m, q, h => by simp [look] at h
 | (j, m', q') :: r, f, m, q, h => by
   unfold look at h
   split at h
   ·rename_i he; subst he; simp at h; obtain ⟨rfl, rfl⟩ := h; simp
   ·exact List.mem_cons_of_mem _ (look_mem h)
def Good (p : Nat × Md × AFn) : Prop := ∃ fn, Go.Proofs.Try.prog.funcs[p.1]? = some fn /\ chkFB Go.Proofs.Try.prog fn p.2.2 = true
def All (G : Nat × Md × AFn -> Prop) : List (Nat × Md × AFn) -> Prop
 | [] => True
 | p :: r => G p /\ All G r
theorem All.get {G : Nat × Md × AFn -> Prop} : ∀ {l : List (Nat × Md × AFn)}, All G l -> ∀ p ∈ l, G p
 | [], _, p, h => by simp at h
 | q :: r, h, p, hp => by
   rcases List.mem_cons.1 hp with e | e
   ·subst e; exact h.1
   ·exact All.get h.2 p e
theorem allGood : All Good fns := ⟨⟨_, Go.Proofs.Try.func6, kLaw09DegreeRealises⟩, ⟨_, Go.Proofs.Try.func8, kMakeMod⟩, ⟨_, Go.Proofs.Try.func9, kDegreeGraphic⟩, ⟨_, Go.Proofs.Try.func10, kLaw09Awake⟩, ⟨_, Go.Proofs.Try.func11, kDegreeH⟩, ⟨_, Go.Proofs.Try.func12, kMakeGraph⟩, ⟨_, Go.Proofs.Try.func13, kMakeNew⟩, ⟨_, Go.Proofs.Try.func14, kDegreeDegrees⟩, ⟨_, Go.Proofs.Try.func15, kRef09Degrees⟩, ⟨_, Go.Proofs.Try.func20, kRef02Same⟩, ⟨_, Go.Proofs.Try.func22, kMakeDeckNext⟩, ⟨_, Go.Proofs.Try.func23, kDegreeRealise⟩, ⟨_, Go.Proofs.Try.func24, kRef09Realise⟩, ⟨_, Go.Proofs.Try.func25, kRef03Same⟩, ⟨_, Go.Proofs.Try.func26, kRef09Graphic⟩, ⟨_, Go.Proofs.Try.func28, kRef03Check⟩, ⟨_, Go.Proofs.Try.func29, kDegreeRealiseN29⟩, ⟨_, Go.Proofs.Try.func30, kSlicesCloneIntInt⟩, ⟨_, Go.Proofs.Try.func31, kSlicesSortIntInt⟩, ⟨_, Go.Proofs.Try.func32, kGraphCheck⟩, ⟨_, Go.Proofs.Try.func33, kMasksRows⟩, ⟨_, Go.Proofs.Try.func34, kMasksCount⟩, ⟨_, Go.Proofs.Try.func35, kRef03Degree⟩, ⟨_, Go.Proofs.Try.func39, kRef02Cmp⟩, ⟨_, Go.Proofs.Try.func40, kGraphOf⟩, ⟨_, Go.Proofs.Try.func41, kRef09Most⟩, ⟨_, Go.Proofs.Try.func42, kRef03Add⟩, ⟨_, Go.Proofs.Try.func43, kRef03SameEdges⟩, ⟨_, Go.Proofs.Try.func44, kRef03Before⟩, ⟨_, Go.Proofs.Try.func49, kGraphOrder⟩, ⟨_, Go.Proofs.Try.func50, kMathBitsOnesCount64⟩, ⟨_, Go.Proofs.Try.func51, kRef03Neighbours⟩, ⟨_, Go.Proofs.Try.func52, kGraphEnds⟩, ⟨_, Go.Proofs.Try.func53, kGraphEdge⟩, ⟨_, Go.Proofs.Try.func54, kSlicesSortFuncApiEdgeApiEdge⟩, ⟨_, Go.Proofs.Try.func55, kSlicesCompactApiEdgeApiEdge⟩, ⟨_, Go.Proofs.Try.func56, kRef03Ends⟩, ⟨_, Go.Proofs.Try.func57, kRef03Find⟩, ⟨_, Go.Proofs.Try.func58, kRef03With⟩, ⟨_, Go.Proofs.Try.func59, kRef03Edge⟩, ⟨_, Go.Proofs.Try.func72, kCmpOrInt⟩, ⟨_, Go.Proofs.Try.func73, kCmpCompareInt⟩, ⟨_, Go.Proofs.Try.func74, kRef02Of⟩, ⟨_, Go.Proofs.Try.func89, kCmpIsNaNInt⟩, ⟨_, Go.Proofs.Try.func90, kRef02Put⟩, trivial⟩
theorem cfgOK : CfgOKB Go.Proofs.Try.prog cfg := ⟨by kernel_rfl, fun f m q h => allGood.get _ (look_mem h)⟩
theorem gQa : cfg.fn nQa = some (⟨false, false, true⟩, qQa) := rfl
theorem gQb : cfg.fn nQb = some (⟨false, false, true⟩, qQb) := rfl
theorem gQc : cfg.fn nQc = some (⟨false, false, true⟩, qQc) := rfl
theorem gQd : cfg.fn nQd = some (⟨false, false, true⟩, qQd) := rfl
theorem gQf : cfg.fn nQf = some (⟨true, false, false⟩, qQf) := rfl
theorem gQg : cfg.fn nQg = some (⟨true, false, false⟩, qQg) := rfl
theorem gQi : cfg.fn nQi = some (⟨false, false, false⟩, qQi) := rfl
theorem gQk : cfg.fn nQk = some (⟨true, false, false⟩, qQk) := rfl
theorem gQl : cfg.fn nQl = some (⟨false, false, false⟩, qQl) := rfl
theorem gQm : cfg.fn nQm = some (⟨false, false, false⟩, qQm) := rfl
theorem gQn : cfg.fn nQn = some (⟨false, false, true⟩, qQn) := rfl
theorem gQo : cfg.fn nQo = some (⟨false, false, true⟩, qQo) := rfl
theorem gQp : cfg.fn nQp = some (⟨false, false, true⟩, qQp) := rfl
theorem gQq : cfg.fn nQq = some (⟨false, false, false⟩, qQq) := rfl
theorem gQs : cfg.fn nQs = some (⟨false, false, true⟩, qQs) := rfl
theorem gQw : cfg.fn nQw = some (⟨false, false, true⟩, qQw) := rfl
theorem gQy : cfg.fn nQy = some (⟨false, false, false⟩, qQy) := rfl
theorem gQz : cfg.fn nQz = some (⟨false, false, true⟩, qQz) := rfl
theorem gQA : cfg.fn nQA = some (⟨false, false, false⟩, qQA) := rfl
theorem gQB : cfg.fn nQB = some (⟨false, false, true⟩, qQB) := rfl
theorem gQC : cfg.fn nQC = some (⟨false, false, true⟩, qQC) := rfl
theorem gQD : cfg.fn nQD = some (⟨false, false, true⟩, qQD) := rfl
theorem gQF : cfg.fn nQF = some (⟨false, false, false⟩, qQF) := rfl
theorem gQG : cfg.fn nQG = some (⟨false, false, true⟩, qQG) := rfl
theorem gQH : cfg.fn nQH = some (⟨false, false, false⟩, qQH) := rfl
theorem gQI : cfg.fn nQI = some (⟨false, false, true⟩, qQI) := rfl
theorem gQJ : cfg.fn nQJ = some (⟨false, false, false⟩, qQJ) := rfl
theorem gQK : cfg.fn nQK = some (⟨false, false, true⟩, qQK) := rfl
theorem gQL : cfg.fn nQL = some (⟨false, false, true⟩, qQL) := rfl
theorem gQM : cfg.fn nQM = some (⟨false, false, false⟩, qQM) := rfl
theorem gQN : cfg.fn nQN = some (⟨false, false, false⟩, qQN) := rfl
theorem gQO : cfg.fn nQO = some (⟨false, false, true⟩, qQO) := rfl
theorem gQP : cfg.fn nQP = some (⟨false, false, true⟩, qQP) := rfl
theorem gQQ : cfg.fn nQQ = some (⟨false, false, false⟩, qQQ) := rfl
theorem gQR : cfg.fn nQR = some (⟨false, false, true⟩, qQR) := rfl
theorem gQS : cfg.fn nQS = some (⟨false, false, false⟩, qQS) := rfl
end Go.BmP
