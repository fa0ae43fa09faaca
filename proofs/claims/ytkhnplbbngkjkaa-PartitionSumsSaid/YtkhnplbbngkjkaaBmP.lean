/- The compact code of the functions, printed by program off the translation. -/
import Derived.Test.YtkhnplbbngkjkaaChecked
import Derived.Test.YtkhnplbbngkjkaaBmA
import Derived.KernelRfl
set_option maxRecDepth 100000
namespace Go.BmP
open Go.Am Go.Bm
abbrev oo (d : Nat) (x : Kd) : O := ⟨some d, none, x⟩
abbrev oz (x : Kd) : O := ⟨none, none, x⟩
abbrev ki (n : Nat) : E := .k (.int .i64 n)
def nQa : Nat := 3
def nQb : Nat := 4
def nQc : Nat := 5
def nQd : Nat := 6
def nQe : Nat := 7
def nQf : Nat := 8
def nQg : Nat := 9
def nQh : Nat := 10
def nQi : Nat := 11
def nQj : Nat := 12
def nQk : Nat := 13
def nQl : Nat := 14
def nQm : Nat := 15
def nQn : Nat := 16
def nQo : Nat := 17
def nQp : Nat := 18
def nQq : Nat := 19
def nQr : Nat := 20
def nQs : Nat := 21
def nQt : Nat := 22
def nQu : Nat := 23
def nQv : Nat := 24
def nQw : Nat := 25
def nQx : Nat := 26
def nQy : Nat := 27
def nQz : Nat := 28
def nQA : Nat := 29
def nQB : Nat := 30
def nQC : Nat := 31
def nQD : Nat := 32
def nQE : Nat := 33
def nQF : Nat := 34
def nQG : Nat := 35
def nQH : Nat := 36
def nQI : Nat := 37
def nQJ : Nat := 38
def nQK : Nat := 39
def nQL : Nat := 40
def nQM : Nat := 41
def nQN : Nat := 42
def nQO : Nat := 43
def nQP : Nat := 46
def nQQ : Nat := 47
def nQR : Nat := 48
def nQS : Nat := 49
def nQT : Nat := 50
def nQU : Nat := 51
def nQV : Nat := 52
def nQW : Nat := 53
def nQX : Nat := 54
def nQY : Nat := 65
def nQZ : Nat := 66
def nQ0 : Nat := 67
def nQ1 : Nat := 68
/- cohesion/cohesionlaw37.PartitionGhosts -/
def rQaX0 : List O := [
 oo 2 <| .mv (.k (.bool false))]
def rQaX1 : List O := [
 oo 15 <| .mv (.t 0),
 oo 16 <| .call nQc [(.t 15)],
 oo 17 <| .un .not (.t 16)]
def rQaX2 : List O := [
 oo 18 <| .call nQd [],
 oo 2 <| .mv (.t 18)]
def rQaX3 : List O := [
 oo 19 <| .mv (.t 0),
 oo 20 <| .call nQe [(.t 19)],
 oo 3 <| .mv (.t 20)]
def rQaX4 : List O := [
 oo 21 <| .mv (.t 3),
 oo 22 <| .call nQf [(.t 21), (ki 9)],
 oo 4 <| .new [(.int .i64 0), (.own 2 [])],
 oz <| .st 2 (.t 4) (.t 22)]
def rQaX5 : List O := [
 oo 23 <| .mv (.t 3),
 oo 24 <| .fad 0 (.t 4),
 oo 25 <| .ld none (.t 24),
 oo 26 <| .call nQg [(.t 23), (.t 25)],
 oo 5 <| .new [(.int .i64 0), (.own 1 []), (.own 1 [])],
 oz <| .st 3 (.t 5) (.t 26)]
def rQaX6 : List O := [
 oo 27 <| .fad 2 (.t 5),
 oz <| .st 1 (.t 27) (.k (.own 1 []))]
def rQaX7 : List O := [
 oo 6 <| .mv (ki 0)]
def rQaX8 : List O := [
 oo 28 <| .mv (.t 6),
 oo 29 <| .fad 0 (.t 5),
 oo 30 <| .ld none (.t 29),
 oo 31 <| .bin .lss (.t 28) (.t 30)]
def rQaX9 : List O := [
 oo 7 <| .mv (.k (.own 1 []))]
def rQaX10 : List O := [
 oo 8 <| .mv (ki 0)]
def rQaX11 : List O := [
 oo 34 <| .fad 1 (.t 4),
 oo 35 <| .ld none (.t 34),
 oo 36 <| .len (.t 35),
 oo 37 <| .mv (ki 0)]
def rQaX12 : List O := [
 oo 38 <| .bin .lss (.t 37) (.t 36)]
def rQaX13 : List O := [
 oo 39 <| .ixa 2 (.t 35) (.t 37),
 oo 40 <| .ld (some 2) (.t 39),
 oo 10 <| .new [(.int .i64 0), (.int .i64 0)],
 oz <| .st 2 (.t 10) (.t 40)]
def rQaX14 : List O := [
 oo 41 <| .fad 1 (.t 5),
 oo 42 <| .ld none (.t 41),
 oo 43 <| .fad 0 (.t 10),
 oo 44 <| .ld none (.t 43),
 oo 45 <| .ixa 1 (.t 42) (.t 44),
 oo 46 <| .ld none (.t 45),
 oo 47 <| .mv (.t 6),
 oo 48 <| .bin .eql (.t 46) (.t 47)]
def rQaX15 : List O := [
 oo 49 <| .mv (.t 8),
 oo 50 <| .bin .add (.t 49) (ki 1),
 oo 8 <| .mv (.t 50)]
def rQaX16 : List O := [
 oo 51 <| .fad 1 (.t 5),
 oo 52 <| .ld none (.t 51),
 oo 53 <| .fad 1 (.t 10),
 oo 54 <| .ld none (.t 53),
 oo 55 <| .ixa 1 (.t 52) (.t 54),
 oo 56 <| .ld none (.t 55),
 oo 57 <| .mv (.t 6),
 oo 58 <| .bin .neq (.t 56) (.t 57)]
def rQaX17 : List O := [
 oo 59 <| .mv (.t 7),
 oo 60 <| .fad 1 (.t 10),
 oo 61 <| .ld none (.t 60),
 oo 62 <| .bslice 1 1 [(.int .i64 0)] [(0, 1, (.t 61))],
 oo 63 <| .app 1 (.t 59) (.t 62),
 oo 7 <| .mv (.t 63)]
def rQaX18 : List O := [
 oo 64 <| .bin .add (.t 37) (ki 1),
 oo 37 <| .mv (.t 64)]
def lQaX0 : C := (.seq (.reg rQaX12 false [] [4, 5, 6, 7, 8, 35, 36, 37, 38]) (.seq (.cond (.t 38) .skip (.exit 2)) (.seq (.blk 3 (.seq (.reg rQaX13 false [] [4, 5, 6, 7, 8, 10, 35, 36, 37]) (.seq (.reg rQaX14 false [] [4, 5, 6, 7, 8, 10, 35, 36, 37, 48]) (.cond (.t 48) (.seq (.reg rQaX15 false [] [4, 5, 6, 7, 8, 10, 35, 36, 37]) (.seq (.reg rQaX16 false [] [4, 5, 6, 7, 8, 10, 35, 36, 37, 58]) (.cond (.t 58) (.reg rQaX17 false [] [4, 5, 6, 7, 8, 35, 36, 37]) .skip))) .skip)))) (.reg rQaX18 false [] [4, 5, 6, 7, 8, 35, 36, 37]))))
def rQaX19 : List O := [
 oo 66 <| .ld (some 2) (.t 4),
 oo 67 <| .ld (some 3) (.t 5),
 oo 68 <| .mv (.t 6),
 oo 69 <| .call nQh [(.t 66), (.t 67), (.t 68)],
 oo 65 <| .mv (.t 69),
 oo 70 <| .ext 0 (.t 65),
 oo 71 <| .ext 1 (.t 65),
 oo 11 <| .new [(.int .i64 0), (.own 2 [])],
 oz <| .st 2 (.t 11) (.t 70),
 oo 12 <| .mv (.t 71)]
def rQaX20 : List O := [
 oo 73 <| .ld (some 2) (.t 4),
 oo 74 <| .ld (some 3) (.t 5),
 oo 75 <| .mv (.t 6),
 oo 76 <| .call nQi [(.t 73), (.t 74), (.t 75)],
 oo 72 <| .mv (.t 76),
 oo 77 <| .ext 0 (.t 72),
 oo 78 <| .ext 1 (.t 72),
 oo 13 <| .mv (.t 77),
 oo 14 <| .mv (.t 78)]
def rQaX21 : List O := [
 oo 79 <| .mv (.t 12),
 oo 80 <| .bin .neq (.t 79) (ki 0),
 oo 81 <| .mv (.t 80),
 ⟨(some 82), (some (81, false)), .mv (.t 14)⟩,
 ⟨(some 83), (some (81, false)), .bin .neq (.t 82) (ki 0)⟩,
 oo 84 <| .pick (.t 81) (.k (.bool true)) (.t 83),
 oo 85 <| .mv (.t 84),
 ⟨(some 86), (some (85, false)), .fad 1 (.t 11)⟩,
 ⟨(some 87), (some (85, false)), .ld none (.t 86)⟩,
 ⟨(some 88), (some (85, false)), .len (.t 87)⟩,
 ⟨(some 89), (some (85, false)), .mv (.t 8)⟩,
 ⟨(some 90), (some (85, false)), .bin .neq (.t 88) (.t 89)⟩,
 oo 91 <| .pick (.t 85) (.k (.bool true)) (.t 90),
 oo 92 <| .mv (.t 91),
 ⟨(some 93), (some (92, false)), .mv (.t 13)⟩,
 ⟨(some 94), (some (92, false)), .mv (.t 7)⟩,
 ⟨(some 95), (some (92, false)), .call nQk [(.t 94)]⟩,
 ⟨(some 96), (some (92, false)), .call nQj [(.t 93), (.t 95)]⟩,
 ⟨(some 97), (some (92, false)), .bin .neq (.t 96) (ki 0)⟩,
 oo 98 <| .pick (.t 92) (.k (.bool true)) (.t 97)]
def rQaX22 : List O := [
 oo 2 <| .mv (.k (.bool false))]
def rQaX23 : List O := [
 oo 32 <| .mv (.t 6),
 oo 33 <| .bin .add (.t 32) (ki 1),
 oo 6 <| .mv (.t 33)]
def lQaX1 : C := (.seq (.seq (.reg rQaX8 false [] [4, 5, 6, 31]) (.cond (.t 31) .skip (.exit 0))) (.seq (.blk 1 (.seq (.reg rQaX9 false [] [4, 5, 6, 7]) (.seq (.reg rQaX10 false [] [4, 5, 6, 7, 8]) (.seq (.seq (.reg rQaX11 false [] [4, 5, 6, 7, 8, 35, 36, 37]) (.blk 2 (.loop lQaX0))) (.seq (.reg rQaX19 false [] [4, 5, 6, 7, 8, 11, 12]) (.seq (.reg rQaX20 false [] [4, 5, 6, 7, 8, 11, 12, 13, 14]) (.seq (.reg rQaX21 false [] [4, 5, 6, 98]) (.cond (.t 98) (.seq (.reg rQaX22 false [] [2]) .ret) .skip)))))))) (.reg rQaX23 false [] [4, 5, 6])))
def rQaX24 : List O := [
 oo 99 <| .call nQd [],
 oo 2 <| .mv (.t 99)]
def cQa : C := (.seq (.reg rQaX0 false [] [0]) (.seq (.seq (.reg rQaX1 false [] [0, 17]) (.cond (.t 17) (.seq (.reg rQaX2 false [] [2]) .ret) .skip)) (.seq (.reg rQaX3 false [] [3]) (.seq (.reg rQaX4 false [] [3, 4]) (.seq (.reg rQaX5 false [] [4, 5]) (.seq (.reg rQaX6 false [] [4, 5]) (.seq (.seq (.reg rQaX7 false [] [4, 5, 6]) (.blk 0 (.loop lQaX1))) (.seq (.reg rQaX24 false [] [2]) .ret))))))))
def qQa : AFn := ⟨100, 1, [.t 2], cQa⟩
/- cohesion/cohesionlaw37.PartitionSums -/
def rQbX0 : List O := [
 oo 2 <| .mv (.k (.bool false))]
def rQbX1 : List O := [
 oo 18 <| .mv (.t 0),
 oo 19 <| .call nQc [(.t 18)],
 oo 20 <| .un .not (.t 19)]
def rQbX2 : List O := [
 oo 21 <| .call nQd [],
 oo 2 <| .mv (.t 21)]
def rQbX3 : List O := [
 oo 22 <| .mv (.t 0),
 oo 23 <| .call nQe [(.t 22)],
 oo 3 <| .mv (.t 23)]
def rQbX4 : List O := [
 oo 24 <| .mv (.t 3),
 oo 25 <| .call nQf [(.t 24), (ki 9)],
 oo 4 <| .new [(.int .i64 0), (.own 2 [])],
 oz <| .st 2 (.t 4) (.t 25)]
def rQbX5 : List O := [
 oo 27 <| .ld (some 2) (.t 4),
 oo 28 <| .mv (.t 3),
 oo 29 <| .fad 0 (.t 4),
 oo 30 <| .ld none (.t 29),
 oo 31 <| .call nQg [(.t 28), (.t 30)],
 oo 32 <| .call nQl [(.t 27), (.t 31)],
 oo 26 <| .mv (.t 32),
 oo 33 <| .ext 0 (.t 26),
 oo 34 <| .ext 1 (.t 26),
 oo 5 <| .mv (.t 33),
 oo 6 <| .mv (.t 34)]
def rQbX6 : List O := [
 oo 7 <| .mv (ki 0)]
def rQbX7 : List O := [
 oo 35 <| .mv (.t 5),
 oo 36 <| .len (.t 35),
 oo 37 <| .mv (ki 0)]
def rQbX8 : List O := [
 oo 38 <| .bin .lss (.t 37) (.t 36)]
def rQbX9 : List O := [
 oo 39 <| .ixa 1 (.t 35) (.t 37),
 oo 40 <| .ld none (.t 39),
 oo 9 <| .mv (.t 40)]
def rQbX10 : List O := [
 oo 41 <| .mv (.t 7),
 oo 42 <| .mv (.t 9),
 oo 43 <| .bin .add (.t 41) (.t 42),
 oo 7 <| .mv (.t 43)]
def rQbX11 : List O := [
 oo 44 <| .bin .add (.t 37) (ki 1),
 oo 37 <| .mv (.t 44)]
def lQbX0 : C := (.seq (.reg rQbX8 false [] [3, 4, 6, 7, 35, 36, 37, 38]) (.seq (.cond (.t 38) .skip (.exit 0)) (.seq (.blk 1 (.seq (.reg rQbX9 false [] [3, 4, 6, 7, 9, 35, 36, 37]) (.reg rQbX10 false [] [3, 4, 6, 7, 35, 36, 37]))) (.reg rQbX11 false [] [3, 4, 6, 7, 35, 36, 37]))))
def rQbX12 : List O := [
 oo 46 <| .ld (some 2) (.t 4),
 oo 47 <| .call nQm [(.t 46), (ki 1), (ki 3)],
 oo 45 <| .mv (.t 47),
 oo 48 <| .ext 0 (.t 45),
 oo 49 <| .ext 1 (.t 45),
 oo 10 <| .new [(.int .i64 0), (.own 1 []), (.own 1 [])],
 oz <| .st 3 (.t 10) (.t 48),
 oo 11 <| .mv (.t 49)]
def rQbX13 : List O := [
 oo 51 <| .ld (some 2) (.t 4),
 oo 52 <| .ld (some 3) (.t 10),
 oo 53 <| .call nQh [(.t 51), (.t 52), (ki 0)],
 oo 50 <| .mv (.t 53),
 oo 54 <| .ext 0 (.t 50),
 oo 55 <| .ext 1 (.t 50),
 oo 12 <| .new [(.int .i64 0), (.own 2 [])],
 oz <| .st 2 (.t 12) (.t 54),
 oo 13 <| .mv (.t 55)]
def rQbX14 : List O := [
 oo 57 <| .ld (some 2) (.t 4),
 oo 58 <| .ld (some 3) (.t 10),
 oo 59 <| .call nQi [(.t 57), (.t 58), (ki 0)],
 oo 56 <| .mv (.t 59),
 oo 60 <| .ext 0 (.t 56),
 oo 61 <| .ext 1 (.t 56),
 oo 14 <| .mv (.t 60),
 oo 15 <| .mv (.t 61)]
def rQbX15 : List O := [
 oo 63 <| .fad 0 (.t 4),
 oo 64 <| .ld none (.t 63),
 oo 65 <| .build [(.int .i64 0), (.own 2 [])] [(0, 1, (.t 64))],
 oo 66 <| .mv (.t 3),
 oo 67 <| .call nQn [(.t 66), (ki 8)],
 oo 68 <| .bin .add (ki 1) (.t 67),
 oo 69 <| .call nQm [(.t 65), (.t 68), (ki 1)],
 oo 62 <| .mv (.t 69),
 oo 70 <| .ext 0 (.t 62),
 oo 71 <| .ext 1 (.t 62),
 oo 16 <| .new [(.int .i64 0), (.own 1 []), (.own 1 [])],
 oz <| .st 3 (.t 16) (.t 70),
 oo 17 <| .mv (.t 71)]
def rQbX16 : List O := [
 oo 72 <| .mv (.t 6),
 oo 73 <| .bin .eql (.t 72) (ki 0),
 oo 74 <| .mv (.t 73),
 ⟨(some 75), (some (74, true)), .mv (.t 11)⟩,
 ⟨(some 76), (some (74, true)), .bin .eql (.t 75) (ki 0)⟩,
 oo 77 <| .pick (.t 74) (.t 76) (.k (.bool false)),
 oo 78 <| .mv (.t 77),
 ⟨(some 79), (some (78, true)), .mv (.t 13)⟩,
 ⟨(some 80), (some (78, true)), .bin .eql (.t 79) (ki 0)⟩,
 oo 81 <| .pick (.t 78) (.t 80) (.k (.bool false)),
 oo 82 <| .mv (.t 81),
 ⟨(some 83), (some (82, true)), .mv (.t 15)⟩,
 ⟨(some 84), (some (82, true)), .bin .eql (.t 83) (ki 0)⟩,
 oo 85 <| .pick (.t 82) (.t 84) (.k (.bool false)),
 oo 86 <| .mv (.t 85),
 ⟨(some 87), (some (86, true)), .mv (.t 17)⟩,
 ⟨(some 88), (some (86, true)), .bin .eql (.t 87) (ki 0)⟩,
 oo 89 <| .pick (.t 86) (.t 88) (.k (.bool false)),
 oo 90 <| .mv (.t 89),
 ⟨(some 91), (some (90, true)), .mv (.t 7)⟩,
 ⟨(some 92), (some (90, true)), .fad 1 (.t 4)⟩,
 ⟨(some 93), (some (90, true)), .ld none (.t 92)⟩,
 ⟨(some 94), (some (90, true)), .len (.t 93)⟩,
 ⟨(some 95), (some (90, true)), .bin .eql (.t 91) (.t 94)⟩,
 oo 96 <| .pick (.t 90) (.t 95) (.k (.bool false)),
 oo 97 <| .mv (.t 96),
 ⟨(some 98), (some (97, true)), .ld (some 2) (.t 12)⟩,
 ⟨(some 99), (some (97, true)), .ld (some 2) (.t 4)⟩,
 ⟨(some 100), (some (97, true)), .call nQo [(.t 98), (.t 99)]⟩,
 oo 101 <| .pick (.t 97) (.t 100) (.k (.bool false)),
 oo 102 <| .mv (.t 101),
 ⟨(some 103), (some (102, true)), .mv (.t 14)⟩,
 ⟨(some 104), (some (102, true)), .len (.t 103)⟩,
 ⟨(some 105), (some (102, true)), .bin .eql (.t 104) (ki 0)⟩,
 oo 106 <| .pick (.t 102) (.t 105) (.k (.bool false)),
 oo 107 <| .mv (.t 106),
 ⟨(some 108), (some (107, true)), .fad 1 (.t 16)⟩,
 ⟨(some 109), (some (107, true)), .ld none (.t 108)⟩,
 ⟨(some 110), (some (107, true)), .fad 0 (.t 4)⟩,
 ⟨(some 111), (some (107, true)), .ld none (.t 110)⟩,
 ⟨(some 112), (some (107, true)), .mks 1 [(.int .i64 0)] (.t 111) (.t 111)⟩,
 ⟨(some 113), (some (107, true)), .call nQj [(.t 109), (.t 112)]⟩,
 ⟨(some 114), (some (107, true)), .bin .eql (.t 113) (ki 0)⟩,
 oo 115 <| .pick (.t 107) (.t 114) (.k (.bool false)),
 oo 116 <| .mv (.t 115),
 ⟨(some 117), (some (116, true)), .fad 2 (.t 16)⟩,
 ⟨(some 118), (some (116, true)), .ld none (.t 117)⟩,
 ⟨(some 119), (some (116, true)), .len (.t 118)⟩,
 ⟨(some 120), (some (116, true)), .bin .eql (.t 119) (ki 0)⟩,
 oo 121 <| .pick (.t 116) (.t 120) (.k (.bool false)),
 oo 122 <| .mv (.t 121),
 ⟨(some 123), (some (122, true)), .call nQd []⟩,
 oo 124 <| .pick (.t 122) (.t 123) (.k (.bool false)),
 oo 2 <| .mv (.t 124)]
def cQb : C := (.seq (.reg rQbX0 false [] [0]) (.seq (.seq (.reg rQbX1 false [] [0, 20]) (.cond (.t 20) (.seq (.reg rQbX2 false [] [2]) .ret) .skip)) (.seq (.reg rQbX3 false [] [3]) (.seq (.reg rQbX4 false [] [3, 4]) (.seq (.reg rQbX5 true [(5, 5), (6, 6), (10, 10), (0, 1), (0, 2), (0, 3), (1, 3), (0, 4)] [3, 4, 5, 6]) (.seq (.reg rQbX6 false [] [3, 4, 5, 6, 7]) (.seq (.seq (.reg rQbX7 false [] [3, 4, 6, 7, 35, 36, 37]) (.blk 0 (.loop lQbX0))) (.seq (.reg rQbX12 false [] [3, 4, 6, 7, 10, 11]) (.seq (.reg rQbX13 false [] [3, 4, 6, 7, 10, 11, 12, 13]) (.seq (.reg rQbX14 false [] [3, 4, 6, 7, 11, 12, 13, 14, 15]) (.seq (.reg rQbX15 true [(12, 12), (1, 3), (0, 4), (1, 4), (2, 4), (1, 5), (0, 10), (1, 10), (2, 10), (3, 10), (4, 10), (5, 10), (6, 10), (7, 10), (8, 10), (9, 10), (9, 11)] [4, 6, 7, 11, 12, 13, 14, 15, 16, 17]) (.seq (.reg rQbX16 true [(0, 0), (1, 1), (2, 2), (3, 3), (4, 4), (5, 5), (6, 6), (7, 7), (8, 8), (9, 9), (10, 10), (11, 11), (12, 12), (13, 13), (14, 14), (15, 15), (16, 16), (17, 17), (18, 18), (23, 23), (24, 24), (25, 25), (28, 28), (29, 29), (30, 30), (31, 31), (32, 32), (33, 33), (34, 34), (35, 35), (41, 41), (42, 42), (43, 43), (44, 44), (45, 45), (46, 46), (47, 47), (48, 48), (49, 49), (50, 50), (51, 51), (52, 52), (53, 53), (19, 21), (26, 27), (37, 38), (36, 39), (37, 39), (37, 40)] [2]) .ret))))))))))))
def qQb : AFn := ⟨125, 1, [.t 2], cQb⟩
/- cohesion/cohesionmake.Few -/
def rQcX0 : List O := [
 oo 2 <| .mv (.k (.bool false))]
def rQcX1 : List O := [
 oo 3 <| .mv (.t 0),
 oo 4 <| .len (.t 3),
 oo 5 <| .bin .leq (.t 4) (ki 500),
 oo 2 <| .mv (.t 5)]
def cQc : C := (.seq (.reg rQcX0 false [] [0]) (.seq (.reg rQcX1 false [] [2]) .ret))
def qQc : AFn := ⟨6, 1, [.t 2], cQc⟩
/- cohesion/cohesionlaw37.awake -/
def rQdX0 : List O := [
 oo 0 <| .mv (.k (.bool false))]
def rQdX1 : List O := [
 oo 4 <| .build [(.int .i64 0), (.int .i64 0)] [(0, 1, (ki 0)), (1, 1, (ki 1))],
 oo 5 <| .build [(.int .i64 0), (.int .i64 0)] [(0, 1, (ki 0)), (1, 1, (ki 2))],
 oo 6 <| .build [(.int .i64 0), (.int .i64 0)] [(0, 1, (ki 0)), (1, 1, (ki 3))],
 oo 7 <| .bslice 2 3 [(.int .i64 0), (.int .i64 0)] [(0, 2, (.t 4)), (2, 2, (.t 5)), (4, 2, (.t 6))],
 oo 8 <| .build [(.int .i64 0), (.own 2 [])] [(0, 1, (ki 4)), (1, 1, (.t 7))],
 oo 1 <| .new [(.int .i64 0), (.own 2 [])],
 oz <| .st 2 (.t 1) (.t 8)]
def rQdX2 : List O := [
 oo 10 <| .ld (some 2) (.t 1),
 oo 11 <| .call nQm [(.t 10), (ki 2), (ki 3)],
 oo 9 <| .mv (.t 11),
 oo 12 <| .ext 0 (.t 9),
 oo 13 <| .ext 1 (.t 9),
 oo 2 <| .new [(.int .i64 0), (.own 1 []), (.own 1 [])],
 oz <| .st 3 (.t 2) (.t 12),
 oo 3 <| .mv (.t 13)]
def rQdX3 : List O := [
 oo 14 <| .mv (.t 3),
 oo 15 <| .bin .eql (.t 14) (ki 0),
 oo 16 <| .mv (.t 15),
 ⟨(some 17), (some (16, true)), .fad 1 (.t 2)⟩,
 ⟨(some 18), (some (16, true)), .ld none (.t 17)⟩,
 ⟨(some 19), (some (16, true)), .bslice 1 4 [(.int .i64 0)] [(0, 1, (ki 0)), (1, 1, (ki 1)), (2, 1, (ki 1)), (3, 1, (ki 1))]⟩,
 ⟨(some 20), (some (16, true)), .call nQj [(.t 18), (.t 19)]⟩,
 ⟨(some 21), (some (16, true)), .bin .eql (.t 20) (ki 0)⟩,
 oo 22 <| .pick (.t 16) (.t 21) (.k (.bool false)),
 oo 23 <| .mv (.t 22),
 ⟨(some 24), (some (23, true)), .fad 2 (.t 2)⟩,
 ⟨(some 25), (some (23, true)), .ld none (.t 24)⟩,
 ⟨(some 26), (some (23, true)), .bslice 1 1 [(.int .i64 0)] [(0, 1, (ki 0))]⟩,
 ⟨(some 27), (some (23, true)), .call nQj [(.t 25), (.t 26)]⟩,
 ⟨(some 28), (some (23, true)), .bin .eql (.t 27) (ki 0)⟩,
 oo 29 <| .pick (.t 23) (.t 28) (.k (.bool false)),
 oo 30 <| .mv (.t 29),
 ⟨(some 31), (some (30, true)), .ld (some 3) (.t 2)⟩,
 ⟨(some 32), (some (30, true)), .call nQp [(.t 31), (ki 0), (ki 2)]⟩,
 ⟨(some 33), (some (30, true)), .bin .eql (.t 32) (ki 1)⟩,
 oo 34 <| .pick (.t 30) (.t 33) (.k (.bool false)),
 oo 0 <| .mv (.t 34)]
def cQd : C := (.seq (.reg rQdX0 false [] []) (.seq (.reg rQdX1 false [] [1]) (.seq (.reg rQdX2 false [] [2, 3]) (.seq (.reg rQdX3 false [] [0]) .ret))))
def qQd : AFn := ⟨35, 0, [.t 0], cQd⟩
/- cohesion/cohesionmake.New -/
def rQeX0 : List O := [
 oo 2 <| .mv (.k .nilp)]
def rQeX1 : List O := [
 oo 3 <| .mv (.t 0),
 oo 4 <| .build [(.own 1 []), (.int .i64 0)] [(0, 1, (.t 3))],
 oo 5 <| .box (.t 4),
 oo 2 <| .mv (.t 5)]
def cQe : C := (.seq (.reg rQeX0 false [] [0]) (.seq (.reg rQeX1 false [] [2]) .ret))
def qQe : AFn := ⟨6, 1, [.t 2], cQe⟩
/- cohesion/cohesionmake.Graph -/
def rQfX0 : List O := [
 oo 4 <| .new [(.int .i64 0), (.own 2 [])]]
def rQfX1 : List O := [
 oo 9 <| .mv (.t 0),
 oo 10 <| .mv (.t 1),
 oo 11 <| .bin .add (.t 10) (ki 1),
 oo 12 <| .call nQn [(.t 9), (.t 11)],
 oo 13 <| .build [(.int .i64 0), (.own 2 [])] [(0, 1, (.t 12))],
 oo 5 <| .new [(.int .i64 0), (.own 2 [])],
 oz <| .st 2 (.t 5) (.t 13)]
def rQfX2 : List O := [
 oo 14 <| .fad 0 (.t 5),
 oo 15 <| .ld none (.t 14),
 oo 16 <| .bin .lss (.t 15) (ki 4)]
def rQfX3 : List O := [
 oo 17 <| .mv (.t 1),
 oo 18 <| .fad 0 (.t 5),
 oo 19 <| .ld none (.t 18),
 oo 20 <| .mv (.t 0),
 oo 21 <| .mv (.t 1),
 oo 22 <| .bin .add (.t 21) (ki 1),
 oo 23 <| .call nQn [(.t 20), (.t 22)],
 oo 24 <| .bin .add (.t 19) (.t 23),
 oo 25 <| .min [(.t 17), (.t 24)],
 oo 26 <| .fad 0 (.t 5),
 oz <| .st 1 (.t 26) (.t 25)]
def rQfX4 : List O := [
 oo 27 <| .mv (.t 0),
 oo 28 <| .call nQn [(.t 27), (ki 4)],
 oo 29 <| .bin .add (ki 1) (.t 28),
 oo 6 <| .mv (.t 29)]
def rQfX5 : List O := [
 oo 7 <| .mv (ki 0)]
def rQfX6 : List O := [
 oo 30 <| .mv (.t 7),
 oo 31 <| .fad 0 (.t 5),
 oo 32 <| .ld none (.t 31),
 oo 33 <| .bin .lss (.t 30) (.t 32)]
def rQfX7 : List O := [
 oo 36 <| .mv (.t 7),
 oo 37 <| .bin .add (.t 36) (ki 1),
 oo 8 <| .mv (.t 37)]
def rQfX8 : List O := [
 oo 38 <| .mv (.t 8),
 oo 39 <| .fad 0 (.t 5),
 oo 40 <| .ld none (.t 39),
 oo 41 <| .bin .lss (.t 38) (.t 40)]
def rQfX9 : List O := [
 oo 44 <| .mv (.t 0),
 oo 45 <| .call nQn [(.t 44), (ki 5)],
 oo 46 <| .mv (.t 6),
 oo 47 <| .bin .sub (ki 5) (.t 46),
 oo 48 <| .bin .geq (.t 45) (.t 47)]
def rQfX10 : List O := [
 oo 49 <| .fad 1 (.t 5),
 oo 50 <| .ld none (.t 49),
 oo 51 <| .mv (.t 7),
 oo 52 <| .mv (.t 8),
 oo 53 <| .build [(.int .i64 0), (.int .i64 0)] [(0, 1, (.t 51)), (1, 1, (.t 52))],
 oo 54 <| .bslice 2 1 [(.int .i64 0), (.int .i64 0)] [(0, 2, (.t 53))],
 oo 55 <| .app 2 (.t 50) (.t 54),
 oo 56 <| .fad 1 (.t 5),
 oz <| .st 1 (.t 56) (.t 55)]
def rQfX11 : List O := [
 oo 42 <| .mv (.t 8),
 oo 43 <| .bin .add (.t 42) (ki 1),
 oo 8 <| .mv (.t 43)]
def lQfX0 : C := (.seq (.seq (.reg rQfX8 false [] [0, 4, 5, 6, 7, 8, 41]) (.cond (.t 41) .skip (.exit 2))) (.seq (.blk 3 (.seq (.reg rQfX9 false [] [0, 4, 5, 6, 7, 8, 48]) (.cond (.t 48) (.reg rQfX10 false [] [0, 4, 5, 6, 7, 8]) .skip))) (.reg rQfX11 false [] [0, 4, 5, 6, 7, 8])))
def rQfX12 : List O := [
 oo 34 <| .mv (.t 7),
 oo 35 <| .bin .add (.t 34) (ki 1),
 oo 7 <| .mv (.t 35)]
def lQfX1 : C := (.seq (.seq (.reg rQfX6 false [] [0, 4, 5, 6, 7, 33]) (.cond (.t 33) .skip (.exit 0))) (.seq (.blk 1 (.seq (.reg rQfX7 false [] [0, 4, 5, 6, 7, 8]) (.blk 2 (.loop lQfX0)))) (.reg rQfX12 false [] [0, 4, 5, 6, 7])))
def rQfX13 : List O := [
 oo 57 <| .ld (some 2) (.t 5),
 oz <| .st 2 (.t 4) (.t 57)]
def cQf : C := (.seq (.reg rQfX0 false [] [0, 1, 4]) (.seq (.reg rQfX1 false [] [0, 1, 4, 5]) (.seq (.seq (.reg rQfX2 false [] [0, 1, 4, 5, 16]) (.cond (.t 16) (.reg rQfX3 true [(8, 8), (9, 9), (10, 10), (0, 2), (2, 3), (2, 4), (2, 5), (0, 6), (1, 6), (2, 6)] [0, 4, 5]) .skip)) (.seq (.reg rQfX4 false [] [0, 4, 5, 6]) (.seq (.seq (.reg rQfX5 false [] [0, 4, 5, 6, 7]) (.blk 0 (.loop lQfX1))) (.seq (.reg rQfX13 false [] [4]) .ret))))))
def qQf : AFn := ⟨58, 2, [.c 4 (some 2)], cQf⟩
/- cohesion/cohesionfield.Plan -/
def rQgX0 : List O := [
 oo 4 <| .new [(.int .i64 0), (.own 1 []), (.own 1 [])]]
def rQgX1 : List O := [
 oo 6 <| .mv (.t 0),
 oo 7 <| .call nQn [(.t 6), (ki 4)],
 oo 8 <| .bin .add (ki 1) (.t 7),
 oo 9 <| .build [(.int .i64 0), (.own 1 []), (.own 1 [])] [(0, 1, (.t 8))],
 oo 5 <| .new [(.int .i64 0), (.own 1 []), (.own 1 [])],
 oz <| .st 3 (.t 5) (.t 9)]
def rQgX2 : List O := [
 oo 10 <| .mv (.t 0),
 oo 11 <| .mv (.t 1),
 oo 12 <| .fad 0 (.t 5),
 oo 13 <| .ld none (.t 12),
 oo 14 <| .call nQq [(.t 10), (.t 11), (.t 13)],
 oo 15 <| .fad 1 (.t 5),
 oz <| .st 1 (.t 15) (.t 14)]
def rQgX3 : List O := [
 oo 16 <| .mv (.t 0),
 oo 17 <| .call nQn [(.t 16), (ki 2)],
 oo 18 <| .bin .eql (.t 17) (ki 1)]
def rQgX4 : List O := [
 oo 19 <| .mv (.t 0),
 oo 20 <| .mv (.t 1),
 oo 21 <| .call nQr [(.t 19), (.t 20)],
 oo 22 <| .fad 2 (.t 5),
 oz <| .st 1 (.t 22) (.t 21)]
def rQgX5 : List O := [
 oo 23 <| .ld (some 3) (.t 5),
 oz <| .st 3 (.t 4) (.t 23)]
def cQg : C := (.seq (.reg rQgX0 false [] [0, 1, 4]) (.seq (.reg rQgX1 false [] [0, 1, 4, 5]) (.seq (.reg rQgX2 false [] [0, 1, 4, 5]) (.seq (.seq (.reg rQgX3 false [] [0, 1, 4, 5, 18]) (.cond (.t 18) (.reg rQgX4 false [] [4, 5]) .skip)) (.seq (.reg rQgX5 false [] [4]) .ret)))))
def qQg : AFn := ⟨24, 2, [.c 4 (some 3)], cQg⟩
/- cohesion/partition.Local -/
def rQhX0 : List O := [
 oo 3 <| .box (.t 0),
 oo 4 <| .box (.t 1),
 oo 6 <| .new [(.int .i64 0), (.own 2 [])],
 oo 7 <| .mv (ki 0)]
def rQhX1 : List O := [
 oo 12 <| .ld (some 2) (.t 3),
 oo 13 <| .ld (some 3) (.t 4),
 oo 14 <| .call nQs [(.t 12), (.t 13)],
 oo 8 <| .mv (.t 14)]
def rQhX2 : List O := [
 oo 15 <| .mv (.t 8),
 oo 16 <| .bin .neq (.t 15) (ki 0)]
def rQhX3 : List O := [
 oo 17 <| .build [(.int .i64 0), (.own 2 [])] [],
 oo 18 <| .mv (.t 8),
 oz <| .st 2 (.t 6) (.t 17),
 oo 7 <| .mv (.t 18)]
def rQhX4 : List O := [
 oo 19 <| .mv (.t 2),
 oo 20 <| .bin .lss (.t 19) (ki 0),
 oo 21 <| .mv (.t 20),
 ⟨(some 22), (some (21, false)), .mv (.t 2)⟩,
 ⟨(some 23), (some (21, false)), .fad 0 (.t 4)⟩,
 ⟨(some 24), (some (21, false)), .ld none (.t 23)⟩,
 ⟨(some 25), (some (21, false)), .bin .geq (.t 22) (.t 24)⟩,
 oo 26 <| .pick (.t 21) (.k (.bool true)) (.t 25)]
def rQhX5 : List O := [
 oo 27 <| .build [(.int .i64 0), (.own 2 [])] [],
 oz <| .st 2 (.t 6) (.t 27),
 oo 7 <| .mv (ki 1)]
def rQhX6 : List O := [
 oo 28 <| .fad 0 (.t 3),
 oo 29 <| .ld none (.t 28),
 oo 30 <| .build [(.int .i64 0), (.own 2 [])] [(0, 1, (.t 29))],
 oo 9 <| .new [(.int .i64 0), (.own 2 [])],
 oz <| .st 2 (.t 9) (.t 30)]
def rQhX7 : List O := [
 oo 31 <| .fad 1 (.t 3),
 oo 32 <| .ld none (.t 31),
 oo 33 <| .len (.t 32),
 oo 34 <| .mv (ki 0)]
def rQhX8 : List O := [
 oo 35 <| .bin .lss (.t 34) (.t 33)]
def rQhX9 : List O := [
 oo 36 <| .ixa 2 (.t 32) (.t 34),
 oo 37 <| .ld (some 2) (.t 36),
 oo 11 <| .new [(.int .i64 0), (.int .i64 0)],
 oz <| .st 2 (.t 11) (.t 37)]
def rQhX10 : List O := [
 oo 38 <| .ld (some 3) (.t 4),
 oo 39 <| .fad 0 (.t 11),
 oo 40 <| .ld none (.t 39),
 oo 41 <| .fad 1 (.t 11),
 oo 42 <| .ld none (.t 41),
 oo 43 <| .call nQt [(.t 38), (.t 40), (.t 42)],
 oo 44 <| .mv (.t 2),
 oo 45 <| .bin .eql (.t 43) (.t 44)]
def rQhX11 : List O := [
 oo 46 <| .fad 1 (.t 9),
 oo 47 <| .ld none (.t 46),
 oo 48 <| .ld (some 2) (.t 11),
 oo 49 <| .bslice 2 1 [(.int .i64 0), (.int .i64 0)] [(0, 2, (.t 48))],
 oo 50 <| .app 2 (.t 47) (.t 49),
 oo 51 <| .fad 1 (.t 9),
 oz <| .st 1 (.t 51) (.t 50)]
def rQhX12 : List O := [
 oo 52 <| .bin .add (.t 34) (ki 1),
 oo 34 <| .mv (.t 52)]
def lQhX0 : C := (.seq (.reg rQhX8 false [] [2, 4, 6, 9, 32, 33, 34, 35]) (.seq (.cond (.t 35) .skip (.exit 0)) (.seq (.blk 1 (.seq (.reg rQhX9 false [] [2, 4, 6, 9, 11, 32, 33, 34]) (.seq (.reg rQhX10 false [] [2, 4, 6, 9, 11, 32, 33, 34, 45]) (.cond (.t 45) (.reg rQhX11 false [] [2, 4, 6, 9, 32, 33, 34]) .skip)))) (.reg rQhX12 false [] [2, 4, 6, 9, 32, 33, 34]))))
def rQhX13 : List O := [
 oo 53 <| .ld (some 2) (.t 9),
 oz <| .st 2 (.t 6) (.t 53),
 oo 7 <| .mv (ki 0)]
def cQh : C := (.seq (.reg rQhX0 false [] [2, 3, 4, 6]) (.seq (.seq (.reg rQhX1 false [] [2, 3, 4, 6, 8]) (.seq (.reg rQhX2 false [] [2, 3, 4, 6, 8, 16]) (.cond (.t 16) (.seq (.reg rQhX3 false [] [6, 7]) .ret) .skip))) (.seq (.seq (.reg rQhX4 false [] [2, 3, 4, 6, 26]) (.cond (.t 26) (.seq (.reg rQhX5 false [] [6, 7]) .ret) .skip)) (.seq (.reg rQhX6 false [] [2, 3, 4, 6, 9]) (.seq (.seq (.reg rQhX7 false [] [2, 4, 6, 9, 32, 33, 34]) (.blk 0 (.loop lQhX0))) (.seq (.reg rQhX13 false [] [6, 7]) .ret))))))
def qQh : AFn := ⟨54, 3, [.c 6 (some 2), .t 7], cQh⟩
/- cohesion/partition.Ghosts -/
def rQiX0 : List O := [
 oo 3 <| .box (.t 0),
 oo 4 <| .box (.t 1),
 oo 5 <| .box (.t 2),
 oo 6 <| .mv (.k (.own 1 [])),
 oo 7 <| .mv (ki 0)]
def rQiX1 : List O := [
 oo 14 <| .ld (some 2) (.t 3),
 oo 15 <| .ld (some 3) (.t 4),
 oo 16 <| .ld none (.t 5),
 oo 17 <| .call nQh [(.t 14), (.t 15), (.t 16)],
 oo 13 <| .mv (.t 17),
 oo 18 <| .ext 0 (.t 13),
 oo 19 <| .ext 1 (.t 13),
 oo 8 <| .new [(.int .i64 0), (.own 2 [])],
 oz <| .st 2 (.t 8) (.t 18),
 oo 9 <| .mv (.t 19)]
def rQiX2 : List O := [
 oo 20 <| .mv (.t 9),
 oo 21 <| .bin .neq (.t 20) (ki 0)]
def rQiX3 : List O := [
 oo 22 <| .mv (.t 9),
 oo 6 <| .mv (.k (.own 1 [])),
 oo 7 <| .mv (.t 22)]
def rQiX4 : List O := [
 oo 10 <| .mv (.k (.own 1 []))]
def rQiX5 : List O := [
 oo 23 <| .fad 1 (.t 8),
 oo 24 <| .ld none (.t 23),
 oo 25 <| .len (.t 24),
 oo 26 <| .mv (ki 0)]
def rQiX6 : List O := [
 oo 27 <| .bin .lss (.t 26) (.t 25)]
def rQiX7 : List O := [
 oo 28 <| .ixa 2 (.t 24) (.t 26),
 oo 29 <| .ld (some 2) (.t 28),
 oo 12 <| .new [(.int .i64 0), (.int .i64 0)],
 oz <| .st 2 (.t 12) (.t 29)]
def rQiX8 : List O := [
 oo 30 <| .mv (.t 10),
 oo 31 <| .fad 0 (.t 12),
 oo 32 <| .ld none (.t 31),
 oo 33 <| .fad 1 (.t 12),
 oo 34 <| .ld none (.t 33),
 oo 35 <| .bslice 1 2 [(.int .i64 0)] [(0, 1, (.t 32)), (1, 1, (.t 34))],
 oo 36 <| .app 1 (.t 30) (.t 35),
 oo 10 <| .mv (.t 36)]
def rQiX9 : List O := [
 oo 37 <| .bin .add (.t 26) (ki 1),
 oo 26 <| .mv (.t 37)]
def lQiX0 : C := (.seq (.reg rQiX6 false [] [4, 5, 10, 24, 25, 26, 27]) (.seq (.cond (.t 27) .skip (.exit 0)) (.seq (.blk 1 (.seq (.reg rQiX7 false [] [4, 5, 10, 12, 24, 25, 26]) (.reg rQiX8 false [] [4, 5, 10, 24, 25, 26]))) (.reg rQiX9 false [] [4, 5, 10, 24, 25, 26]))))
def rQiX10 : List O := [
 oo 38 <| .mv (.t 10),
 oo 39 <| .mkf (.func nQw) [] [(.t 4), (.t 5)],
 oo 40 <| .call nQv [(.t 38), (.t 39)],
 oo 41 <| .call nQu [(.t 40)],
 oo 6 <| .mv (.t 41),
 oo 7 <| .mv (ki 0)]
def cQi : C := (.seq (.reg rQiX0 false [] [3, 4, 5]) (.seq (.reg rQiX1 false [] [4, 5, 8, 9]) (.seq (.seq (.reg rQiX2 false [] [4, 5, 8, 9, 21]) (.cond (.t 21) (.seq (.reg rQiX3 false [] [6, 7]) .ret) .skip)) (.seq (.reg rQiX4 false [] [4, 5, 8, 10]) (.seq (.seq (.reg rQiX5 false [] [4, 5, 10, 24, 25, 26]) (.blk 0 (.loop lQiX0))) (.seq (.reg rQiX10 false [] [6, 7]) .ret))))))
def qQi : AFn := ⟨42, 3, [.t 6, .t 7], cQi⟩
/- cohesion/cohesionref02.Cmp -/
def rQjX0 : List O := [
 oo 4 <| .mv (ki 0)]
def rQjX1 : List O := [
 oo 6 <| .mv (.t 0),
 oo 7 <| .len (.t 6),
 oo 8 <| .mv (ki 0)]
def rQjX2 : List O := [
 oo 9 <| .bin .lss (.t 8) (.t 7)]
def rQjX3 : List O := [
 oo 10 <| .mv (.t 8),
 oo 5 <| .mv (.t 10)]
def rQjX4 : List O := [
 oo 12 <| .mv (.t 5),
 oo 13 <| .mv (.t 1),
 oo 14 <| .len (.t 13),
 oo 15 <| .bin .geq (.t 12) (.t 14),
 oo 16 <| .mv (.t 15),
 ⟨(some 17), (some (16, false)), .mv (.t 0)⟩,
 ⟨(some 18), (some (16, false)), .mv (.t 5)⟩,
 ⟨(some 19), (some (16, false)), .ixa 1 (.t 17) (.t 18)⟩,
 ⟨(some 20), (some (16, false)), .ld none (.t 19)⟩,
 ⟨(some 21), (some (16, false)), .mv (.t 1)⟩,
 ⟨(some 22), (some (16, false)), .mv (.t 5)⟩,
 ⟨(some 23), (some (16, false)), .ixa 1 (.t 21) (.t 22)⟩,
 ⟨(some 24), (some (16, false)), .ld none (.t 23)⟩,
 ⟨(some 25), (some (16, false)), .bin .gtr (.t 20) (.t 24)⟩,
 oo 26 <| .pick (.t 16) (.k (.bool true)) (.t 25),
 oo 11 <| .mv (.t 26)]
def rQjX5 : List O := [
 oo 4 <| .mv (ki 1)]
def rQjX6 : List O := [
 oo 28 <| .mv (.t 0),
 oo 29 <| .mv (.t 5),
 oo 30 <| .ixa 1 (.t 28) (.t 29),
 oo 31 <| .ld none (.t 30),
 oo 32 <| .mv (.t 1),
 oo 33 <| .mv (.t 5),
 oo 34 <| .ixa 1 (.t 32) (.t 33),
 oo 35 <| .ld none (.t 34),
 oo 36 <| .bin .lss (.t 31) (.t 35),
 oo 27 <| .mv (.t 36)]
def rQjX7 : List O := [
 oo 4 <| .mv (.k (.int .i64 (-1)))]
def rQjX8 : List O := [
 oo 37 <| .bin .add (.t 8) (ki 1),
 oo 8 <| .mv (.t 37)]
def lQjX0 : C := (.seq (.reg rQjX2 false [] [0, 1, 7, 8, 9]) (.seq (.cond (.t 9) .skip (.exit 0)) (.seq (.blk 1 (.seq (.reg rQjX3 false [] [0, 1, 5, 7, 8]) (.blk 2 (.seq (.reg rQjX4 true [(3, 3), (4, 4), (13, 13), (14, 14), (15, 15), (8, 9), (8, 10), (8, 11), (5, 12), (6, 12), (7, 12), (8, 12)] [0, 1, 5, 7, 8, 11]) (.cond (.t 11) (.seq (.reg rQjX5 false [] [4]) .ret) (.seq (.reg rQjX6 true [(8, 8), (9, 9), (3, 4), (3, 5), (3, 6), (0, 7), (1, 7), (2, 7), (3, 7)] [0, 1, 7, 8, 27]) (.cond (.t 27) (.seq (.reg rQjX7 false [] [4]) .ret) .skip))))))) (.reg rQjX8 false [] [0, 1, 7, 8]))))
def rQjX9 : List O := [
 oo 38 <| .mv (.t 0),
 oo 39 <| .len (.t 38),
 oo 40 <| .mv (.t 1),
 oo 41 <| .len (.t 40),
 oo 42 <| .bin .lss (.t 39) (.t 41)]
def rQjX10 : List O := [
 oo 4 <| .mv (.k (.int .i64 (-1)))]
def rQjX11 : List O := [
 oo 4 <| .mv (ki 0)]
def cQj : C := (.seq (.reg rQjX0 false [] [0, 1]) (.seq (.seq (.reg rQjX1 false [] [0, 1, 7, 8]) (.blk 0 (.loop lQjX0))) (.seq (.seq (.reg rQjX9 false [] [42]) (.cond (.t 42) (.seq (.reg rQjX10 false [] [4]) .ret) .skip)) (.seq (.reg rQjX11 false [] [4]) .ret))))
def qQj : AFn := ⟨43, 2, [.t 4], cQj⟩
/- cohesion/cohesionref02.Of -/
def rQkX0 : List O := [
 oo 2 <| .mv (.k (.own 1 []))]
def rQkX1 : List O := [
 oo 3 <| .mv (.k (.own 1 []))]
def rQkX2 : List O := [
 oo 6 <| .mv (.t 0),
 oo 7 <| .len (.t 6),
 oo 8 <| .mv (ki 0)]
def rQkX3 : List O := [
 oo 9 <| .bin .lss (.t 8) (.t 7)]
def rQkX4 : List O := [
 oo 10 <| .ixa 1 (.t 6) (.t 8),
 oo 11 <| .ld none (.t 10),
 oo 5 <| .mv (.t 11)]
def rQkX5 : List O := [
 oo 12 <| .mv (.t 3),
 oo 13 <| .mv (.t 5),
 oo 14 <| .call nQx [(.t 12), (.t 13)],
 oo 3 <| .mv (.t 14)]
def rQkX6 : List O := [
 oo 15 <| .bin .add (.t 8) (ki 1),
 oo 8 <| .mv (.t 15)]
def lQkX0 : C := (.seq (.reg rQkX3 false [] [3, 6, 7, 8, 9]) (.seq (.cond (.t 9) .skip (.exit 0)) (.seq (.blk 1 (.seq (.reg rQkX4 false [] [3, 5, 6, 7, 8]) (.reg rQkX5 false [] [3, 6, 7, 8]))) (.reg rQkX6 false [] [3, 6, 7, 8]))))
def rQkX7 : List O := [
 oo 16 <| .mv (.t 3),
 oo 2 <| .mv (.t 16)]
def cQk : C := (.seq (.reg rQkX0 false [] [0]) (.seq (.reg rQkX1 false [] [0, 3]) (.seq (.seq (.reg rQkX2 false [] [3, 6, 7, 8]) (.blk 0 (.loop lQkX0))) (.seq (.reg rQkX7 false [] [2]) .ret))))
def qQk : AFn := ⟨17, 1, [.t 2], cQk⟩
/- cohesion/partition.Loads -/
def rQlX0 : List O := [
 oo 2 <| .box (.t 0),
 oo 3 <| .box (.t 1),
 oo 4 <| .mv (.k (.own 1 [])),
 oo 5 <| .mv (ki 0)]
def rQlX1 : List O := [
 oo 10 <| .ld (some 2) (.t 2),
 oo 11 <| .ld (some 3) (.t 3),
 oo 12 <| .call nQs [(.t 10), (.t 11)],
 oo 6 <| .mv (.t 12)]
def rQlX2 : List O := [
 oo 13 <| .mv (.t 6),
 oo 14 <| .bin .neq (.t 13) (ki 0)]
def rQlX3 : List O := [
 oo 15 <| .mv (.t 6),
 oo 4 <| .mv (.k (.own 1 [])),
 oo 5 <| .mv (.t 15)]
def rQlX4 : List O := [
 oo 16 <| .fad 0 (.t 3),
 oo 17 <| .ld none (.t 16),
 oo 18 <| .mks 1 [(.int .i64 0)] (.t 17) (.t 17),
 oo 7 <| .mv (.t 18)]
def rQlX5 : List O := [
 oo 19 <| .fad 1 (.t 2),
 oo 20 <| .ld none (.t 19),
 oo 21 <| .len (.t 20),
 oo 22 <| .mv (ki 0)]
def rQlX6 : List O := [
 oo 23 <| .bin .lss (.t 22) (.t 21)]
def rQlX7 : List O := [
 oo 24 <| .ixa 2 (.t 20) (.t 22),
 oo 25 <| .ld (some 2) (.t 24),
 oo 9 <| .new [(.int .i64 0), (.int .i64 0)],
 oz <| .st 2 (.t 9) (.t 25)]
def rQlX8 : List O := [
 oo 26 <| .mv (.t 7),
 oo 27 <| .ld (some 3) (.t 3),
 oo 28 <| .fad 0 (.t 9),
 oo 29 <| .ld none (.t 28),
 oo 30 <| .fad 1 (.t 9),
 oo 31 <| .ld none (.t 30),
 oo 32 <| .call nQt [(.t 27), (.t 29), (.t 31)],
 oo 33 <| .ixa 1 (.t 26) (.t 32),
 oo 34 <| .ld none (.t 33),
 oo 35 <| .bin .add (.t 34) (ki 1),
 oo 36 <| .ixa 1 (.t 26) (.t 32),
 oz <| .st 1 (.t 36) (.t 35)]
def rQlX9 : List O := [
 oo 37 <| .bin .add (.t 22) (ki 1),
 oo 22 <| .mv (.t 37)]
def lQlX0 : C := (.seq (.reg rQlX6 false [] [3, 7, 20, 21, 22, 23]) (.seq (.cond (.t 23) .skip (.exit 0)) (.seq (.blk 1 (.seq (.reg rQlX7 false [] [3, 7, 9, 20, 21, 22]) (.reg rQlX8 false [] [3, 7, 20, 21, 22]))) (.reg rQlX9 false [] [3, 7, 20, 21, 22]))))
def rQlX10 : List O := [
 oo 38 <| .mv (.t 7),
 oo 4 <| .mv (.t 38),
 oo 5 <| .mv (ki 0)]
def cQl : C := (.seq (.reg rQlX0 false [] [2, 3]) (.seq (.seq (.reg rQlX1 false [] [2, 3, 6]) (.seq (.reg rQlX2 false [] [2, 3, 6, 14]) (.cond (.t 14) (.seq (.reg rQlX3 false [] [4, 5]) .ret) .skip))) (.seq (.reg rQlX4 false [] [2, 3, 7]) (.seq (.seq (.reg rQlX5 false [] [3, 7, 20, 21, 22]) (.blk 0 (.loop lQlX0))) (.seq (.reg rQlX10 false [] [4, 5]) .ret)))))
def qQl : AFn := ⟨39, 2, [.t 4, .t 5], cQl⟩
/- cohesion/partition.Make -/
def rQmX0 : List O := [
 oo 3 <| .box (.t 0),
 oo 6 <| .new [(.int .i64 0), (.own 1 []), (.own 1 [])],
 oo 7 <| .mv (ki 0)]
def rQmX1 : List O := [
 oo 22 <| .ld (some 2) (.t 3),
 oo 23 <| .call nQy [(.t 22)],
 oo 21 <| .mv (.t 23),
 oo 24 <| .ext 0 (.t 21),
 oo 25 <| .ext 1 (.t 21),
 oo 8 <| .mv (.t 24),
 oo 9 <| .mv (.t 25)]
def rQmX2 : List O := [
 oo 26 <| .mv (.t 9),
 oo 27 <| .bin .neq (.t 26) (ki 0)]
def rQmX3 : List O := [
 oo 28 <| .build [(.int .i64 0), (.own 1 []), (.own 1 [])] [],
 oo 29 <| .mv (.t 9),
 oz <| .st 3 (.t 6) (.t 28),
 oo 7 <| .mv (.t 29)]
def rQmX4 : List O := [
 oo 30 <| .mv (.t 1),
 oo 31 <| .call nQz [(.t 30)],
 oo 32 <| .un .not (.t 31),
 oo 33 <| .mv (.t 32),
 ⟨(some 34), (some (33, false)), .mv (.t 2)⟩,
 ⟨(some 35), (some (33, false)), .bin .lss (.t 34) (ki 1)⟩,
 oo 36 <| .pick (.t 33) (.k (.bool true)) (.t 35)]
def rQmX5 : List O := [
 oo 37 <| .build [(.int .i64 0), (.own 1 []), (.own 1 [])] [],
 oz <| .st 3 (.t 6) (.t 37),
 oo 7 <| .mv (ki 1)]
def rQmX6 : List O := [
 oo 38 <| .mv (.t 1),
 oo 39 <| .fad 0 (.t 3),
 oo 40 <| .ld none (.t 39),
 oo 41 <| .mks 1 [(.int .i64 0)] (.t 40) (.t 40),
 oo 42 <| .build [(.int .i64 0), (.own 1 []), (.own 1 [])] [(0, 1, (.t 38)), (1, 1, (.t 41))],
 oo 10 <| .new [(.int .i64 0), (.own 1 []), (.own 1 [])],
 oz <| .st 3 (.t 10) (.t 42)]
def rQmX7 : List O := [
 oo 11 <| .mv (.k (.own 2 [])),
 oo 12 <| .mv (.k (.own 2 []))]
def rQmX8 : List O := [
 oo 43 <| .mv (.t 8),
 oo 44 <| .len (.t 43),
 oo 45 <| .mv (ki 0)]
def rQmX9 : List O := [
 oo 46 <| .bin .lss (.t 45) (.t 44)]
def rQmX10 : List O := [
 oo 47 <| .mv (.t 45),
 oo 48 <| .ixa 1 (.t 43) (.t 45),
 oo 49 <| .ld none (.t 48),
 oo 13 <| .mv (.t 47),
 oo 14 <| .mv (.t 49)]
def rQmX11 : List O := [
 oo 50 <| .mv (.t 11),
 oo 51 <| .mv (.t 14),
 oo 52 <| .mv (.t 13),
 oo 53 <| .build [(.int .i64 0), (.int .i64 0)] [(0, 1, (.t 51)), (1, 1, (.t 52))],
 oo 54 <| .bslice 2 1 [(.int .i64 0), (.int .i64 0)] [(0, 2, (.t 53))],
 oo 55 <| .app 2 (.t 50) (.t 54),
 oo 11 <| .mv (.t 55)]
def rQmX12 : List O := [
 oo 56 <| .mv (.t 14),
 oo 57 <| .mv (.t 2),
 oo 58 <| .bin .geq (.t 56) (.t 57)]
def rQmX13 : List O := [
 oo 59 <| .fad 2 (.t 10),
 oo 60 <| .ld none (.t 59),
 oo 61 <| .mv (.t 13),
 oo 62 <| .bslice 1 1 [(.int .i64 0)] [(0, 1, (.t 61))],
 oo 63 <| .app 1 (.t 60) (.t 62),
 oo 64 <| .fad 2 (.t 10),
 oz <| .st 1 (.t 64) (.t 63)]
def rQmX14 : List O := [
 oo 65 <| .bin .add (.t 45) (ki 1),
 oo 45 <| .mv (.t 65)]
def lQmX0 : C := (.seq (.reg rQmX9 false [] [1, 2, 6, 10, 11, 12, 43, 44, 45, 46]) (.seq (.cond (.t 46) .skip (.exit 0)) (.seq (.blk 1 (.seq (.reg rQmX10 false [] [1, 2, 6, 10, 11, 12, 13, 14, 43, 44, 45]) (.seq (.reg rQmX11 false [] [1, 2, 6, 10, 11, 12, 13, 14, 43, 44, 45]) (.seq (.reg rQmX12 false [] [1, 2, 6, 10, 11, 12, 13, 43, 44, 45, 58]) (.cond (.t 58) (.reg rQmX13 false [] [1, 2, 6, 10, 11, 12, 43, 44, 45]) .skip))))) (.reg rQmX14 false [] [1, 2, 6, 10, 11, 12, 43, 44, 45]))))
def rQmX15 : List O := [
 oo 66 <| .mv (.t 1),
 oo 67 <| .mv (ki 0)]
def rQmX16 : List O := [
 oo 68 <| .bin .lss (.t 67) (.t 66)]
def rQmX17 : List O := [
 oo 69 <| .mv (.t 67),
 oo 15 <| .mv (.t 69)]
def rQmX18 : List O := [
 oo 70 <| .mv (.t 12),
 oo 71 <| .mv (.t 15),
 oo 72 <| .build [(.int .i64 0), (.int .i64 0)] [(0, 1, (ki 0)), (1, 1, (.t 71))],
 oo 73 <| .bslice 2 1 [(.int .i64 0), (.int .i64 0)] [(0, 2, (.t 72))],
 oo 74 <| .app 2 (.t 70) (.t 73),
 oo 12 <| .mv (.t 74)]
def rQmX19 : List O := [
 oo 75 <| .bin .add (.t 67) (ki 1),
 oo 67 <| .mv (.t 75)]
def lQmX1 : C := (.seq (.reg rQmX16 false [] [6, 10, 11, 12, 66, 67, 68]) (.seq (.cond (.t 68) .skip (.exit 2)) (.seq (.blk 3 (.seq (.reg rQmX17 false [] [6, 10, 11, 12, 15, 66, 67]) (.reg rQmX18 false [] [6, 10, 11, 12, 66, 67]))) (.reg rQmX19 false [] [6, 10, 11, 12, 66, 67]))))
def rQmX20 : List O := [
 oo 76 <| .mv (.t 11),
 oo 77 <| .call nQA [(.t 76), (.k (.func (.func nQB) [] []))]]
def rQmX21 : List O := [
 oo 78 <| .mv (.t 11),
 oo 79 <| .len (.t 78),
 oo 80 <| .mv (ki 0)]
def rQmX22 : List O := [
 oo 81 <| .bin .lss (.t 80) (.t 79)]
def rQmX23 : List O := [
 oo 82 <| .ixa 2 (.t 78) (.t 80),
 oo 83 <| .ld (some 2) (.t 82),
 oo 17 <| .new [(.int .i64 0), (.int .i64 0)],
 oz <| .st 2 (.t 17) (.t 83)]
def rQmX24 : List O := [
 oo 84 <| .mv (.t 12),
 oo 85 <| .call nQE [(.t 84), (.k (.func (.func nQF) [] []))],
 oo 18 <| .new [(.int .i64 0), (.int .i64 0)],
 oz <| .st 2 (.t 18) (.t 85)]
def rQmX25 : List O := [
 oo 86 <| .mv (.t 12),
 oo 87 <| .len (.t 86),
 oo 88 <| .mv (ki 0)]
def rQmX26 : List O := [
 oo 89 <| .bin .lss (.t 88) (.t 87)]
def rQmX27 : List O := [
 oo 90 <| .mv (.t 88),
 oo 91 <| .ixa 2 (.t 86) (.t 88),
 oo 92 <| .ld (some 2) (.t 91),
 oo 20 <| .new [(.int .i64 0), (.int .i64 0)],
 oo 19 <| .mv (.t 90),
 oz <| .st 2 (.t 20) (.t 92)]
def rQmX28 : List O := [
 oo 93 <| .ld (some 2) (.t 20),
 oo 94 <| .ld (some 2) (.t 18),
 oo 95 <| .eq false (.str [true, true]) (.t 93) (.t 94)]
def rQmX29 : List O := [
 oo 96 <| .mv (.t 12),
 oo 97 <| .mv (.t 19),
 oo 98 <| .ixa 2 (.t 96) (.t 97),
 oo 99 <| .fad 0 (.t 98),
 oo 100 <| .ld none (.t 99),
 oo 101 <| .fad 0 (.t 17),
 oo 102 <| .ld none (.t 101),
 oo 103 <| .bin .add (.t 100) (.t 102),
 oo 104 <| .ixa 2 (.t 96) (.t 97),
 oo 105 <| .fad 0 (.t 104),
 oz <| .st 1 (.t 105) (.t 103)]
def rQmX30 : List O := [
 oo 106 <| .bin .add (.t 88) (ki 1),
 oo 88 <| .mv (.t 106)]
def lQmX2 : C := (.seq (.reg rQmX26 false [] [6, 10, 12, 17, 18, 78, 79, 80, 86, 87, 88, 89]) (.seq (.cond (.t 89) .skip (.exit 6)) (.seq (.blk 7 (.seq (.reg rQmX27 false [] [6, 10, 12, 17, 18, 19, 20, 78, 79, 80, 86, 87, 88]) (.seq (.reg rQmX28 false [] [6, 10, 12, 17, 18, 19, 78, 79, 80, 86, 87, 88, 95]) (.cond (.t 95) (.reg rQmX29 true [(7, 7), (8, 8), (9, 9), (10, 10), (4, 5), (0, 6), (1, 6), (2, 6), (3, 6), (4, 6)] [6, 10, 12, 17, 18, 78, 79, 80, 86, 87, 88]) .skip)))) (.reg rQmX30 false [] [6, 10, 12, 17, 18, 78, 79, 80, 86, 87, 88]))))
def rQmX31 : List O := [
 oo 107 <| .fad 1 (.t 10),
 oo 108 <| .ld none (.t 107),
 oo 109 <| .fad 1 (.t 17),
 oo 110 <| .ld none (.t 109),
 oo 111 <| .fad 1 (.t 18),
 oo 112 <| .ld none (.t 111),
 oo 113 <| .ixa 1 (.t 108) (.t 110),
 oz <| .st 1 (.t 113) (.t 112)]
def rQmX32 : List O := [
 oo 114 <| .bin .add (.t 80) (ki 1),
 oo 80 <| .mv (.t 114)]
def lQmX3 : C := (.seq (.reg rQmX22 false [] [6, 10, 12, 78, 79, 80, 81]) (.seq (.cond (.t 81) .skip (.exit 4)) (.seq (.blk 5 (.seq (.reg rQmX23 false [] [6, 10, 12, 17, 78, 79, 80]) (.seq (.reg rQmX24 false [] [6, 10, 12, 17, 18, 78, 79, 80]) (.seq (.seq (.reg rQmX25 false [] [6, 10, 12, 17, 18, 78, 79, 80, 86, 87, 88]) (.blk 6 (.loop lQmX2))) (.reg rQmX31 false [] [6, 10, 12, 78, 79, 80]))))) (.reg rQmX32 false [] [6, 10, 12, 78, 79, 80]))))
def rQmX33 : List O := [
 oo 115 <| .ld (some 3) (.t 10),
 oz <| .st 3 (.t 6) (.t 115),
 oo 7 <| .mv (ki 0)]
def cQm : C := (.seq (.reg rQmX0 false [] [1, 2, 3, 6]) (.seq (.reg rQmX1 false [] [1, 2, 3, 6, 8, 9]) (.seq (.seq (.reg rQmX2 false [] [1, 2, 3, 6, 8, 9, 27]) (.cond (.t 27) (.seq (.reg rQmX3 false [] [6, 7]) .ret) .skip)) (.seq (.seq (.reg rQmX4 false [] [1, 2, 3, 6, 8, 36]) (.cond (.t 36) (.seq (.reg rQmX5 false [] [6, 7]) .ret) .skip)) (.seq (.reg rQmX6 false [] [1, 2, 6, 8, 10]) (.seq (.reg rQmX7 false [] [1, 2, 6, 8, 10, 11, 12]) (.seq (.seq (.reg rQmX8 false [] [1, 2, 6, 10, 11, 12, 43, 44, 45]) (.blk 0 (.loop lQmX0))) (.seq (.seq (.reg rQmX15 false [] [6, 10, 11, 12, 66, 67]) (.blk 2 (.loop lQmX1))) (.seq (.reg rQmX20 false [] [6, 10, 11, 12]) (.seq (.seq (.reg rQmX21 false [] [6, 10, 12, 78, 79, 80]) (.blk 4 (.loop lQmX3))) (.seq (.reg rQmX33 false [] [6, 7]) .ret)))))))))))
def qQm : AFn := ⟨116, 3, [.c 6 (some 3), .t 7], cQm⟩
/- (*cohesion/cohesionmake.Deck).Next -/
def rQnX0 : List O := [
 oo 4 <| .mv (ki 0)]
def rQnX1 : List O := [
 oo 6 <| .mv (.t 1),
 oo 7 <| .bin .lss (.t 6) (ki 1),
 oo 8 <| .mv (.t 7),
 ⟨(some 9), (some (8, false)), .mv (.t 0)⟩,
 ⟨(some 10), (some (8, false)), .nilck (.t 9)⟩,
 ⟨(some 11), (some (8, false)), .fad 1 (.t 10)⟩,
 ⟨(some 12), (some (8, false)), .ld none (.t 11)⟩,
 ⟨(some 13), (some (8, false)), .mv (.t 0)⟩,
 ⟨(some 14), (some (8, false)), .nilck (.t 13)⟩,
 ⟨(some 15), (some (8, false)), .fad 0 (.t 14)⟩,
 ⟨(some 16), (some (8, false)), .ld none (.t 15)⟩,
 ⟨(some 17), (some (8, false)), .len (.t 16)⟩,
 ⟨(some 18), (some (8, false)), .bin .geq (.t 12) (.t 17)⟩,
 oo 19 <| .pick (.t 8) (.k (.bool true)) (.t 18)]
def rQnX2 : List O := [
 oo 4 <| .mv (ki 0)]
def rQnX3 : List O := [
 oo 20 <| .mv (.t 0),
 oo 21 <| .nilck (.t 20),
 oo 22 <| .fad 0 (.t 21),
 oo 23 <| .ld none (.t 22),
 oo 24 <| .mv (.t 0),
 oo 25 <| .nilck (.t 24),
 oo 26 <| .fad 1 (.t 25),
 oo 27 <| .ld none (.t 26),
 oo 28 <| .ixa 1 (.t 23) (.t 27),
 oo 29 <| .ld none (.t 28),
 oo 5 <| .mv (.t 29)]
def rQnX4 : List O := [
 oo 30 <| .mv (.t 0),
 oo 31 <| .nilck (.t 30),
 oo 32 <| .fad 1 (.t 31),
 oo 33 <| .ld none (.t 32),
 oo 34 <| .bin .add (.t 33) (ki 1),
 oo 35 <| .nilck (.t 30),
 oo 36 <| .fad 1 (.t 35),
 oz <| .st 1 (.t 36) (.t 34)]
def rQnX5 : List O := [
 oo 37 <| .mv (.t 5),
 oo 38 <| .mv (.t 1),
 oo 39 <| .call nQG [(.t 37), (.t 38)],
 oo 4 <| .mv (.t 39)]
def cQn : C := (.seq (.reg rQnX0 false [] [0, 1]) (.seq (.seq (.reg rQnX1 true [(0, 0), (1, 1), (2, 2), (12, 12), (13, 13), (6, 7), (6, 8), (6, 9), (3, 10), (4, 10), (5, 10), (6, 10), (6, 11)] [0, 1, 19]) (.cond (.t 19) (.seq (.reg rQnX2 false [] [4]) .ret) .skip)) (.seq (.reg rQnX3 true [(8, 8), (9, 9), (10, 10), (3, 4), (3, 5), (3, 6), (0, 7), (1, 7), (2, 7), (3, 7)] [0, 1, 5]) (.seq (.reg rQnX4 false [] [1, 5]) (.seq (.reg rQnX5 false [] [4]) .ret)))))
def qQn : AFn := ⟨40, 2, [.t 4], cQn⟩
/- cohesion/cohesionref03.Same -/
def rQoX0 : List O := [
 oo 2 <| .box (.t 0),
 oo 3 <| .box (.t 1),
 oo 4 <| .mv (.k (.bool false))]
def rQoX1 : List O := [
 oo 5 <| .fad 0 (.t 2),
 oo 6 <| .ld none (.t 5),
 oo 7 <| .fad 0 (.t 3),
 oo 8 <| .ld none (.t 7),
 oo 9 <| .bin .eql (.t 6) (.t 8),
 oo 10 <| .mv (.t 9),
 ⟨(some 11), (some (10, true)), .fad 1 (.t 2)⟩,
 ⟨(some 12), (some (10, true)), .ld none (.t 11)⟩,
 ⟨(some 13), (some (10, true)), .fad 1 (.t 3)⟩,
 ⟨(some 14), (some (10, true)), .ld none (.t 13)⟩,
 ⟨(some 15), (some (10, true)), .call nQH [(.t 12), (.t 14)]⟩,
 oo 16 <| .pick (.t 10) (.t 15) (.k (.bool false)),
 oo 4 <| .mv (.t 16)]
def cQo : C := (.seq (.reg rQoX0 false [] [2, 3]) (.seq (.reg rQoX1 false [] [4]) .ret))
def qQo : AFn := ⟨17, 2, [.t 4], cQo⟩
/- cohesion/partition.Home -/
def rQpX0 : List O := [
 oo 3 <| .box (.t 0),
 oo 6 <| .mv (ki 0)]
def rQpX1 : List O := [
 oo 7 <| .ld (some 3) (.t 3),
 oo 8 <| .fad 1 (.t 3),
 oo 9 <| .ld none (.t 8),
 oo 10 <| .len (.t 9),
 oo 11 <| .call nQI [(.t 7), (.t 10)],
 oo 12 <| .bin .neq (.t 11) (ki 0),
 oo 13 <| .mv (.t 12),
 ⟨(some 14), (some (13, false)), .mv (.t 1)⟩,
 ⟨(some 15), (some (13, false)), .bin .lss (.t 14) (ki 0)⟩,
 oo 16 <| .pick (.t 13) (.k (.bool true)) (.t 15),
 oo 17 <| .mv (.t 16),
 ⟨(some 18), (some (17, false)), .mv (.t 1)⟩,
 ⟨(some 19), (some (17, false)), .mv (.t 2)⟩,
 ⟨(some 20), (some (17, false)), .bin .geq (.t 18) (.t 19)⟩,
 oo 21 <| .pick (.t 17) (.k (.bool true)) (.t 20),
 oo 22 <| .mv (.t 21),
 ⟨(some 23), (some (22, false)), .mv (.t 2)⟩,
 ⟨(some 24), (some (22, false)), .fad 1 (.t 3)⟩,
 ⟨(some 25), (some (22, false)), .ld none (.t 24)⟩,
 ⟨(some 26), (some (22, false)), .len (.t 25)⟩,
 ⟨(some 27), (some (22, false)), .bin .geq (.t 23) (.t 26)⟩,
 oo 28 <| .pick (.t 22) (.k (.bool true)) (.t 27)]
def rQpX2 : List O := [
 oo 6 <| .mv (.k (.int .i64 (-1)))]
def rQpX3 : List O := [
 oo 29 <| .ld (some 3) (.t 3),
 oo 30 <| .mv (.t 1),
 oo 31 <| .mv (.t 2),
 oo 32 <| .call nQt [(.t 29), (.t 30), (.t 31)],
 oo 6 <| .mv (.t 32)]
def cQp : C := (.seq (.reg rQpX0 false [] [1, 2, 3]) (.seq (.seq (.reg rQpX1 false [] [1, 2, 3, 28]) (.cond (.t 28) (.seq (.reg rQpX2 false [] [6]) .ret) .skip)) (.seq (.reg rQpX3 false [] [6]) .ret)))
def qQp : AFn := ⟨33, 3, [.t 6], cQp⟩
/- cohesion/cohesionfield.Numbers -/
def rQqX0 : List O := [
 oo 6 <| .mv (.k (.own 1 []))]
def rQqX1 : List O := [
 oo 7 <| .mv (.k (.own 1 []))]
def rQqX2 : List O := [
 oo 8 <| .mv (ki 0)]
def rQqX3 : List O := [
 oo 9 <| .mv (.t 8),
 oo 10 <| .mv (.t 1),
 oo 11 <| .bin .lss (.t 9) (.t 10)]
def rQqX4 : List O := [
 oo 14 <| .mv (.t 7),
 oo 15 <| .mv (.t 0),
 oo 16 <| .mv (.t 2),
 oo 17 <| .call nQn [(.t 15), (.t 16)],
 oo 18 <| .bslice 1 1 [(.int .i64 0)] [(0, 1, (.t 17))],
 oo 19 <| .app 1 (.t 14) (.t 18),
 oo 7 <| .mv (.t 19)]
def rQqX5 : List O := [
 oo 12 <| .mv (.t 8),
 oo 13 <| .bin .add (.t 12) (ki 1),
 oo 8 <| .mv (.t 13)]
def lQqX0 : C := (.seq (.seq (.reg rQqX3 false [] [0, 1, 2, 7, 8, 11]) (.cond (.t 11) .skip (.exit 0))) (.seq (.blk 1 (.reg rQqX4 false [] [0, 1, 2, 7, 8])) (.reg rQqX5 false [] [0, 1, 2, 7, 8])))
def rQqX6 : List O := [
 oo 20 <| .mv (.t 7),
 oo 6 <| .mv (.t 20)]
def cQq : C := (.seq (.reg rQqX0 false [] [0, 1, 2]) (.seq (.reg rQqX1 false [] [0, 1, 2, 7]) (.seq (.seq (.reg rQqX2 false [] [0, 1, 2, 7, 8]) (.blk 0 (.loop lQqX0))) (.seq (.reg rQqX6 false [] [6]) .ret))))
def qQq : AFn := ⟨21, 3, [.t 6], cQq⟩
/- cohesion/cohesionmake.Set -/
def rQrX0 : List O := [
 oo 4 <| .mv (.k (.own 1 []))]
def rQrX1 : List O := [
 oo 5 <| .mv (.k (.own 1 []))]
def rQrX2 : List O := [
 oo 6 <| .mv (ki 0)]
def rQrX3 : List O := [
 oo 7 <| .mv (.t 6),
 oo 8 <| .mv (.t 1),
 oo 9 <| .bin .lss (.t 7) (.t 8)]
def rQrX4 : List O := [
 oo 12 <| .mv (.t 0),
 oo 13 <| .call nQn [(.t 12), (ki 2)],
 oo 14 <| .bin .eql (.t 13) (ki 1)]
def rQrX5 : List O := [
 oo 15 <| .mv (.t 5),
 oo 16 <| .mv (.t 6),
 oo 17 <| .bslice 1 1 [(.int .i64 0)] [(0, 1, (.t 16))],
 oo 18 <| .app 1 (.t 15) (.t 17),
 oo 5 <| .mv (.t 18)]
def rQrX6 : List O := [
 oo 10 <| .mv (.t 6),
 oo 11 <| .bin .add (.t 10) (ki 1),
 oo 6 <| .mv (.t 11)]
def lQrX0 : C := (.seq (.seq (.reg rQrX3 false [] [0, 1, 5, 6, 9]) (.cond (.t 9) .skip (.exit 0))) (.seq (.blk 1 (.seq (.reg rQrX4 false [] [0, 1, 5, 6, 14]) (.cond (.t 14) (.reg rQrX5 false [] [0, 1, 5, 6]) .skip))) (.reg rQrX6 false [] [0, 1, 5, 6])))
def rQrX7 : List O := [
 oo 19 <| .mv (.t 5),
 oo 4 <| .mv (.t 19)]
def cQr : C := (.seq (.reg rQrX0 false [] [0, 1]) (.seq (.reg rQrX1 false [] [0, 1, 5]) (.seq (.seq (.reg rQrX2 false [] [0, 1, 5, 6]) (.blk 0 (.loop lQrX0))) (.seq (.reg rQrX7 false [] [4]) .ret))))
def qQr : AFn := ⟨20, 2, [.t 4], cQr⟩
/- cohesion/partition.check -/
def rQsX0 : List O := [
 oo 2 <| .box (.t 0),
 oo 3 <| .box (.t 1),
 oo 4 <| .mv (ki 0)]
def rQsX1 : List O := [
 oo 6 <| .ld (some 2) (.t 2),
 oo 7 <| .call nQJ [(.t 6)],
 oo 5 <| .mv (.t 7)]
def rQsX2 : List O := [
 oo 8 <| .mv (.t 5),
 oo 9 <| .bin .neq (.t 8) (ki 0)]
def rQsX3 : List O := [
 oo 10 <| .mv (.t 5),
 oo 4 <| .mv (.t 10)]
def rQsX4 : List O := [
 oo 11 <| .ld (some 3) (.t 3),
 oo 12 <| .fad 0 (.t 2),
 oo 13 <| .ld none (.t 12),
 oo 14 <| .call nQI [(.t 11), (.t 13)],
 oo 4 <| .mv (.t 14)]
def cQs : C := (.seq (.reg rQsX0 false [] [2, 3]) (.seq (.seq (.reg rQsX1 false [] [2, 3, 5]) (.seq (.reg rQsX2 false [] [2, 3, 5, 9]) (.cond (.t 9) (.seq (.reg rQsX3 false [] [4]) .ret) .skip))) (.seq (.reg rQsX4 false [] [4]) .ret)))
def qQs : AFn := ⟨15, 2, [.t 4], cQs⟩
/- cohesion/partition.home -/
def rQtX0 : List O := [
 oo 3 <| .box (.t 0),
 oo 6 <| .mv (ki 0)]
def rQtX1 : List O := [
 oo 9 <| .fad 2 (.t 3),
 oo 10 <| .ld none (.t 9),
 oo 11 <| .mv (.t 1),
 oo 12 <| .call nQK [(.t 10), (.t 11)],
 oo 13 <| .fad 2 (.t 3),
 oo 14 <| .ld none (.t 13),
 oo 15 <| .mv (.t 2),
 oo 16 <| .call nQK [(.t 14), (.t 15)],
 oo 7 <| .mv (.t 12),
 oo 8 <| .mv (.t 16)]
def rQtX2 : List O := [
 oo 18 <| .mv (.t 7),
 oo 19 <| .mv (.t 18),
 ⟨(some 20), (some (19, true)), .mv (.t 8)⟩,
 oo 21 <| .pick (.t 19) (.t 20) (.k (.bool false)),
 oo 17 <| .mv (.t 21)]
def rQtX3 : List O := [
 oo 22 <| .mv (.t 1),
 oo 23 <| .mv (.t 2),
 oo 24 <| .bin .add (.t 22) (.t 23),
 oo 25 <| .fad 0 (.t 3),
 oo 26 <| .ld none (.t 25),
 oo 27 <| .bin .rem (.t 24) (.t 26),
 oo 6 <| .mv (.t 27)]
def rQtX4 : List O := [
 oo 29 <| .mv (.t 7),
 oo 28 <| .mv (.t 29)]
def rQtX5 : List O := [
 oo 30 <| .fad 1 (.t 3),
 oo 31 <| .ld none (.t 30),
 oo 32 <| .mv (.t 2),
 oo 33 <| .ixa 1 (.t 31) (.t 32),
 oo 34 <| .ld none (.t 33),
 oo 6 <| .mv (.t 34)]
def rQtX6 : List O := [
 oo 35 <| .fad 1 (.t 3),
 oo 36 <| .ld none (.t 35),
 oo 37 <| .mv (.t 1),
 oo 38 <| .ixa 1 (.t 36) (.t 37),
 oo 39 <| .ld none (.t 38),
 oo 6 <| .mv (.t 39)]
def cQt : C := (.seq (.reg rQtX0 false [] [1, 2, 3]) (.seq (.reg rQtX1 true [(7, 7), (8, 8), (9, 9), (1, 2), (1, 4), (3, 4), (0, 5), (1, 5), (2, 5), (3, 5), (1, 6), (3, 6), (5, 6)] [1, 2, 3, 7, 8]) (.seq (.blk 0 (.seq (.reg rQtX2 false [] [1, 2, 3, 7, 17]) (.cond (.t 17) (.seq (.reg rQtX3 false [] [6]) .ret) (.seq (.reg rQtX4 false [] [1, 2, 3, 28]) (.cond (.t 28) (.seq (.reg rQtX5 false [] [6]) .ret) .skip))))) (.seq (.reg rQtX6 false [] [6]) .ret))))
def qQt : AFn := ⟨40, 3, [.t 6], cQt⟩
/- cohesion/nodeset.Of -/
def rQuX0 : List O := [
 oo 2 <| .mv (.k (.own 1 []))]
def rQuX1 : List O := [
 oo 3 <| .mv (.t 0),
 oo 4 <| .call nQL [(.t 3), (.k (.own 1 []))],
 oo 2 <| .mv (.t 4)]
def cQu : C := (.seq (.reg rQuX0 false [] [0]) (.seq (.reg rQuX1 false [] [2]) .ret))
def qQu : AFn := ⟨5, 1, [.t 2], cQu⟩
/- slices.DeleteFunc[[]int,int] -/
def rQvX0 : List O := [
 oo 4 <| .mv (.k (.own 1 []))]
def rQvX1 : List O := [
 oo 8 <| .mv (.t 0),
 oo 9 <| .mv (.t 1),
 oo 10 <| .call nQM [(.t 8), (.t 9)],
 oo 5 <| .mv (.t 10)]
def rQvX2 : List O := [
 oo 11 <| .mv (.t 5),
 oo 12 <| .bin .eql (.t 11) (.k (.int .i64 (-1)))]
def rQvX3 : List O := [
 oo 13 <| .mv (.t 0),
 oo 4 <| .mv (.t 13)]
def rQvX4 : List O := [
 oo 14 <| .mv (.t 5),
 oo 15 <| .bin .add (.t 14) (ki 1),
 oo 6 <| .mv (.t 15)]
def rQvX5 : List O := [
 oo 16 <| .mv (.t 6),
 oo 17 <| .mv (.t 0),
 oo 18 <| .len (.t 17),
 oo 19 <| .bin .lss (.t 16) (.t 18)]
def rQvX6 : List O := [
 oo 22 <| .mv (.t 0),
 oo 23 <| .mv (.t 6),
 oo 24 <| .ixa 1 (.t 22) (.t 23),
 oo 25 <| .ld none (.t 24),
 oo 7 <| .mv (.t 25)]
def rQvX7 : List O := [
 oo 26 <| .mv (.t 1),
 oo 27 <| .mv (.t 7),
 oo 28 <| .callv (.t 26) [(.t 27)],
 oo 29 <| .un .not (.t 28)]
def rQvX8 : List O := [
 oo 30 <| .mv (.t 0),
 oo 31 <| .mv (.t 5),
 oo 32 <| .mv (.t 7),
 oo 33 <| .ixa 1 (.t 30) (.t 31),
 oz <| .st 1 (.t 33) (.t 32)]
def rQvX9 : List O := [
 oo 34 <| .mv (.t 5),
 oo 35 <| .bin .add (.t 34) (ki 1),
 oo 5 <| .mv (.t 35)]
def rQvX10 : List O := [
 oo 20 <| .mv (.t 6),
 oo 21 <| .bin .add (.t 20) (ki 1),
 oo 6 <| .mv (.t 21)]
def lQvX0 : C := (.seq (.seq (.reg rQvX5 false [] [0, 1, 5, 6, 19]) (.cond (.t 19) .skip (.exit 0))) (.seq (.blk 1 (.seq (.reg rQvX6 false [] [0, 1, 5, 6, 7]) (.seq (.reg rQvX7 false [] [0, 1, 5, 6, 7, 29]) (.cond (.t 29) (.seq (.reg rQvX8 false [] [0, 1, 5, 6]) (.reg rQvX9 false [] [0, 1, 5, 6])) .skip)))) (.reg rQvX10 false [] [0, 1, 5, 6])))
def rQvX11 : List O := [
 oo 36 <| .mv (.t 0),
 oo 37 <| .mv (.t 5),
 oo 38 <| .slc 1 (.t 36) (some (.t 37)) none,
 oz <| .clr 1 [(.int .i64 0)] (.t 38)]
def rQvX12 : List O := [
 oo 39 <| .mv (.t 0),
 oo 40 <| .mv (.t 5),
 oo 41 <| .slc 1 (.t 39) none (some (.t 40)),
 oo 4 <| .mv (.t 41)]
def cQv : C := (.seq (.reg rQvX0 false [] [0, 1]) (.seq (.reg rQvX1 false [] [0, 1, 5]) (.seq (.seq (.reg rQvX2 false [] [0, 1, 5, 12]) (.cond (.t 12) (.seq (.reg rQvX3 false [] [4]) .ret) .skip)) (.seq (.seq (.reg rQvX4 false [] [0, 1, 5, 6]) (.blk 0 (.loop lQvX0))) (.seq (.reg rQvX11 false [] [0, 5]) (.seq (.reg rQvX12 false [] [4]) .ret))))))
def qQv : AFn := ⟨42, 2, [.t 4], cQv⟩
/- cohesion/partition.Ghosts$1 -/
def rQwX0 : List O := [
 oo 4 <| .mv (.k (.bool false))]
def rQwX1 : List O := [
 oo 5 <| .fad 1 (.t 1),
 oo 6 <| .ld none (.t 5),
 oo 7 <| .mv (.t 0),
 oo 8 <| .ixa 1 (.t 6) (.t 7),
 oo 9 <| .ld none (.t 8),
 oo 10 <| .ld none (.t 2),
 oo 11 <| .bin .eql (.t 9) (.t 10),
 oo 4 <| .mv (.t 11)]
def cQw : C := (.seq (.reg rQwX0 false [] [0, 1, 2]) (.seq (.reg rQwX1 true [(6, 6), (7, 7), (1, 2), (0, 5), (1, 5), (2, 5), (3, 5), (4, 5)] [4]) .ret))
def qQw : AFn := ⟨12, 1, [.t 4], cQw⟩
/- cohesion/cohesionref02.put -/
def rQxX0 : List O := [
 oo 4 <| .mv (.k (.own 1 []))]
def rQxX1 : List O := [
 oo 5 <| .mv (ki 0)]
def rQxX2 : List O := [
 oo 7 <| .mv (.t 5),
 oo 8 <| .mv (.t 0),
 oo 9 <| .len (.t 8),
 oo 10 <| .bin .lss (.t 7) (.t 9),
 oo 11 <| .mv (.t 10),
 ⟨(some 12), (some (11, true)), .mv (.t 0)⟩,
 ⟨(some 13), (some (11, true)), .mv (.t 5)⟩,
 ⟨(some 14), (some (11, true)), .ixa 1 (.t 12) (.t 13)⟩,
 ⟨(some 15), (some (11, true)), .ld none (.t 14)⟩,
 ⟨(some 16), (some (11, true)), .mv (.t 1)⟩,
 ⟨(some 17), (some (11, true)), .bin .lss (.t 15) (.t 16)⟩,
 oo 18 <| .pick (.t 11) (.t 17) (.k (.bool false))]
def rQxX3 : List O := [
 oo 19 <| .mv (.t 5),
 oo 20 <| .bin .add (.t 19) (ki 1),
 oo 5 <| .mv (.t 20)]
def lQxX0 : C := (.seq (.seq (.reg rQxX2 false [] [0, 1, 5, 18]) (.cond (.t 18) .skip (.exit 0))) (.blk 1 (.reg rQxX3 false [] [0, 1, 5])))
def rQxX4 : List O := [
 oo 21 <| .mv (.t 5),
 oo 22 <| .mv (.t 0),
 oo 23 <| .len (.t 22),
 oo 24 <| .bin .lss (.t 21) (.t 23),
 oo 25 <| .mv (.t 24),
 ⟨(some 26), (some (25, true)), .mv (.t 0)⟩,
 ⟨(some 27), (some (25, true)), .mv (.t 5)⟩,
 ⟨(some 28), (some (25, true)), .ixa 1 (.t 26) (.t 27)⟩,
 ⟨(some 29), (some (25, true)), .ld none (.t 28)⟩,
 ⟨(some 30), (some (25, true)), .mv (.t 1)⟩,
 ⟨(some 31), (some (25, true)), .bin .eql (.t 29) (.t 30)⟩,
 oo 32 <| .pick (.t 25) (.t 31) (.k (.bool false))]
def rQxX5 : List O := [
 oo 33 <| .mv (.t 0),
 oo 4 <| .mv (.t 33)]
def rQxX6 : List O := [
 oo 34 <| .mv (.t 0),
 oo 35 <| .mv (.t 5),
 oo 36 <| .slc 1 (.t 34) none (some (.t 35)),
 oo 37 <| .app 1 (.k (.own 1 [])) (.t 36),
 oo 6 <| .mv (.t 37)]
def rQxX7 : List O := [
 oo 38 <| .mv (.t 6),
 oo 39 <| .mv (.t 1),
 oo 40 <| .bslice 1 1 [(.int .i64 0)] [(0, 1, (.t 39))],
 oo 41 <| .app 1 (.t 38) (.t 40),
 oo 42 <| .mv (.t 0),
 oo 43 <| .mv (.t 5),
 oo 44 <| .slc 1 (.t 42) (some (.t 43)) none,
 oo 45 <| .app 1 (.t 41) (.t 44),
 oo 4 <| .mv (.t 45)]
def cQx : C := (.seq (.reg rQxX0 false [] [0, 1]) (.seq (.reg rQxX1 false [] [0, 1, 5]) (.seq (.blk 0 (.loop lQxX0)) (.seq (.seq (.reg rQxX4 false [] [0, 1, 5, 32]) (.cond (.t 32) (.seq (.reg rQxX5 false [] [4]) .ret) .skip)) (.seq (.reg rQxX6 false [] [0, 1, 5, 6]) (.seq (.reg rQxX7 true [(7, 7), (8, 8), (0, 2), (2, 4), (3, 4), (2, 5), (3, 5), (2, 6), (3, 6)] [4]) .ret))))))
def qQx : AFn := ⟨46, 2, [.t 4], cQx⟩
/- cohesion/degree.Degrees -/
def rQyX0 : List O := [
 oo 1 <| .box (.t 0),
 oo 2 <| .mv (.k (.own 1 [])),
 oo 3 <| .mv (ki 0)]
def rQyX1 : List O := [
 oo 8 <| .ld (some 2) (.t 1),
 oo 9 <| .call nQJ [(.t 8)],
 oo 4 <| .mv (.t 9)]
def rQyX2 : List O := [
 oo 10 <| .mv (.t 4),
 oo 11 <| .bin .neq (.t 10) (ki 0)]
def rQyX3 : List O := [
 oo 12 <| .mv (.t 4),
 oo 2 <| .mv (.k (.own 1 [])),
 oo 3 <| .mv (.t 12)]
def rQyX4 : List O := [
 oo 5 <| .mv (.k (.own 1 []))]
def rQyX5 : List O := [
 oo 13 <| .ld (some 2) (.t 1),
 oo 14 <| .call nQN [(.t 13)],
 oo 15 <| .len (.t 14),
 oo 16 <| .mv (ki 0)]
def rQyX6 : List O := [
 oo 17 <| .bin .lss (.t 16) (.t 15)]
def rQyX7 : List O := [
 oo 18 <| .ixa 1 (.t 14) (.t 16),
 oo 19 <| .ld none (.t 18),
 oo 7 <| .mv (.t 19)]
def rQyX8 : List O := [
 oo 20 <| .mv (.t 5),
 oo 21 <| .mv (.t 7),
 oo 22 <| .call nQO [(.t 21)],
 oo 23 <| .bslice 1 1 [(.int .i64 0)] [(0, 1, (.t 22))],
 oo 24 <| .app 1 (.t 20) (.t 23),
 oo 5 <| .mv (.t 24)]
def rQyX9 : List O := [
 oo 25 <| .bin .add (.t 16) (ki 1),
 oo 16 <| .mv (.t 25)]
def lQyX0 : C := (.seq (.reg rQyX6 false [] [5, 14, 15, 16, 17]) (.seq (.cond (.t 17) .skip (.exit 0)) (.seq (.blk 1 (.seq (.reg rQyX7 false [] [5, 7, 14, 15, 16]) (.reg rQyX8 false [] [5, 14, 15, 16]))) (.reg rQyX9 false [] [5, 14, 15, 16]))))
def rQyX10 : List O := [
 oo 26 <| .mv (.t 5),
 oo 2 <| .mv (.t 26),
 oo 3 <| .mv (ki 0)]
def cQy : C := (.seq (.reg rQyX0 false [] [1]) (.seq (.seq (.reg rQyX1 false [] [1, 4]) (.seq (.reg rQyX2 false [] [1, 4, 11]) (.cond (.t 11) (.seq (.reg rQyX3 false [] [2, 3]) .ret) .skip))) (.seq (.reg rQyX4 false [] [1, 5]) (.seq (.seq (.reg rQyX5 false [] [5, 14, 15, 16]) (.blk 0 (.loop lQyX0))) (.seq (.reg rQyX10 false [] [2, 3]) .ret)))))
def qQy : AFn := ⟨27, 1, [.t 2, .t 3], cQy⟩
/- cohesion/partition.workers -/
def rQzX0 : List O := [
 oo 2 <| .mv (.k (.bool false))]
def rQzX1 : List O := [
 oo 3 <| .mv (.t 0),
 oo 4 <| .bin .geq (.t 3) (ki 1),
 oo 5 <| .mv (.t 4),
 ⟨(some 6), (some (5, true)), .mv (.t 0)⟩,
 ⟨(some 7), (some (5, true)), .bin .leq (.t 6) (ki 8)⟩,
 oo 8 <| .pick (.t 5) (.t 7) (.k (.bool false)),
 oo 2 <| .mv (.t 8)]
def cQz : C := (.seq (.reg rQzX0 false [] [0]) (.seq (.reg rQzX1 false [] [2]) .ret))
def qQz : AFn := ⟨9, 1, [.t 2], cQz⟩
/- slices.SortFunc[[]cohesion/partition.part,cohesion/partition.part] -/
def rQAX0 : List O := [
 oo 5 <| .mv (.t 0),
 oo 6 <| .len (.t 5),
 oo 4 <| .mv (.t 6)]
def rQAX1 : List O := [
 oo 7 <| .mv (.t 0),
 oo 8 <| .mv (.t 4),
 oo 9 <| .mv (.t 4),
 oo 10 <| .cvt .u64 (.t 9),
 oo 11 <| .call 45 [(.t 10)],
 oo 12 <| .mv (.t 1),
 oo 13 <| .call 44 [(.t 7), (ki 0), (.t 8), (.t 11), (.t 12)]]
def cQA : C := (.seq (.reg rQAX0 false [] [0, 1, 4]) (.reg rQAX1 false [] []))
def qQA : AFn := ⟨14, 2, [], cQA⟩
/- cohesion/partition.Make$1 -/
def rQBX0 : List O := [
 oo 2 <| .box (.t 0),
 oo 3 <| .box (.t 1),
 oo 4 <| .mv (ki 0)]
def rQBX1 : List O := [
 oo 5 <| .fad 0 (.t 3),
 oo 6 <| .ld none (.t 5),
 oo 7 <| .fad 0 (.t 2),
 oo 8 <| .ld none (.t 7),
 oo 9 <| .call nQD [(.t 6), (.t 8)],
 oo 10 <| .fad 1 (.t 2),
 oo 11 <| .ld none (.t 10),
 oo 12 <| .fad 1 (.t 3),
 oo 13 <| .ld none (.t 12),
 oo 14 <| .call nQD [(.t 11), (.t 13)],
 oo 15 <| .bslice 1 2 [(.int .i64 0)] [(0, 1, (.t 9)), (1, 1, (.t 14))],
 oo 16 <| .call nQC [(.t 15)],
 oo 4 <| .mv (.t 16)]
def cQB : C := (.seq (.reg rQBX0 false [] [2, 3]) (.seq (.reg rQBX1 true [(9, 9), (10, 10), (11, 11), (12, 12), (1, 2), (0, 3), (1, 3), (1, 5), (3, 5), (4, 5), (0, 6), (1, 6), (2, 6), (3, 6), (4, 6), (1, 7), (3, 7), (4, 7), (6, 7), (0, 8), (1, 8), (2, 8), (3, 8), (4, 8), (5, 8), (6, 8)] [4]) .ret))
def qQB : AFn := ⟨17, 2, [.t 4], cQB⟩
/- cmp.Or[int] -/
def rQCX0 : List O := [
 oo 2 <| .mv (ki 0)]
def rQCX1 : List O := [
 oo 3 <| .mv (ki 0)]
def rQCX2 : List O := [
 oo 6 <| .mv (.t 0),
 oo 7 <| .len (.t 6),
 oo 8 <| .mv (ki 0)]
def rQCX3 : List O := [
 oo 9 <| .bin .lss (.t 8) (.t 7)]
def rQCX4 : List O := [
 oo 10 <| .ixa 1 (.t 6) (.t 8),
 oo 11 <| .ld none (.t 10),
 oo 5 <| .mv (.t 11)]
def rQCX5 : List O := [
 oo 12 <| .mv (.t 5),
 oo 13 <| .mv (.t 3),
 oo 14 <| .bin .neq (.t 12) (.t 13)]
def rQCX6 : List O := [
 oo 15 <| .mv (.t 5),
 oo 2 <| .mv (.t 15)]
def rQCX7 : List O := [
 oo 16 <| .bin .add (.t 8) (ki 1),
 oo 8 <| .mv (.t 16)]
def lQCX0 : C := (.seq (.reg rQCX3 false [] [3, 6, 7, 8, 9]) (.seq (.cond (.t 9) .skip (.exit 0)) (.seq (.blk 1 (.seq (.reg rQCX4 false [] [3, 5, 6, 7, 8]) (.seq (.reg rQCX5 false [] [3, 5, 6, 7, 8, 14]) (.cond (.t 14) (.seq (.reg rQCX6 false [] [2]) .ret) .skip)))) (.reg rQCX7 false [] [3, 6, 7, 8]))))
def rQCX8 : List O := [
 oo 17 <| .mv (.t 3),
 oo 2 <| .mv (.t 17)]
def cQC : C := (.seq (.reg rQCX0 false [] [0]) (.seq (.reg rQCX1 false [] [0, 3]) (.seq (.seq (.reg rQCX2 false [] [3, 6, 7, 8]) (.blk 0 (.loop lQCX0))) (.seq (.reg rQCX8 false [] [2]) .ret))))
def qQC : AFn := ⟨18, 1, [.t 2], cQC⟩
/- cmp.Compare[int] -/
def rQDX0 : List O := [
 oo 4 <| .mv (ki 0)]
def rQDX1 : List O := [
 oo 7 <| .mv (.t 0),
 oo 8 <| .call nQP [(.t 7)],
 oo 5 <| .mv (.t 8)]
def rQDX2 : List O := [
 oo 9 <| .mv (.t 1),
 oo 10 <| .call nQP [(.t 9)],
 oo 6 <| .mv (.t 10)]
def rQDX3 : List O := [
 oo 11 <| .mv (.t 5)]
def rQDX4 : List O := [
 oo 12 <| .mv (.t 6)]
def rQDX5 : List O := [
 oo 4 <| .mv (ki 0)]
def rQDX6 : List O := [
 oo 4 <| .mv (.k (.int .i64 (-1)))]
def rQDX7 : List O := [
 oo 13 <| .mv (.t 6)]
def rQDX8 : List O := [
 oo 4 <| .mv (ki 1)]
def rQDX9 : List O := [
 oo 14 <| .mv (.t 0),
 oo 15 <| .mv (.t 1),
 oo 16 <| .bin .lss (.t 14) (.t 15)]
def rQDX10 : List O := [
 oo 4 <| .mv (.k (.int .i64 (-1)))]
def rQDX11 : List O := [
 oo 17 <| .mv (.t 0),
 oo 18 <| .mv (.t 1),
 oo 19 <| .bin .gtr (.t 17) (.t 18)]
def rQDX12 : List O := [
 oo 4 <| .mv (ki 1)]
def rQDX13 : List O := [
 oo 4 <| .mv (ki 0)]
def cQD : C := (.seq (.reg rQDX0 false [] [0, 1]) (.seq (.reg rQDX1 false [] [0, 1, 5]) (.seq (.reg rQDX2 false [] [0, 1, 5, 6]) (.seq (.seq (.reg rQDX3 false [] [0, 1, 6, 11]) (.cond (.t 11) (.seq (.seq (.reg rQDX4 false [] [12]) (.cond (.t 12) (.seq (.reg rQDX5 false [] [4]) .ret) .skip)) (.seq (.reg rQDX6 false [] [4]) .ret)) .skip)) (.seq (.seq (.reg rQDX7 false [] [0, 1, 13]) (.cond (.t 13) (.seq (.reg rQDX8 false [] [4]) .ret) .skip)) (.seq (.seq (.reg rQDX9 false [] [0, 1, 16]) (.cond (.t 16) (.seq (.reg rQDX10 false [] [4]) .ret) .skip)) (.seq (.seq (.reg rQDX11 false [] [19]) (.cond (.t 19) (.seq (.reg rQDX12 false [] [4]) .ret) .skip)) (.seq (.reg rQDX13 false [] [4]) .ret))))))))
def qQD : AFn := ⟨20, 2, [.t 4], cQD⟩
/- slices.MinFunc[[]cohesion/partition.part,cohesion/partition.part] -/
def rQEX0 : List O := [
 oo 4 <| .new [(.int .i64 0), (.int .i64 0)]]
def rQEX1 : List O := [
 oo 7 <| .mv (.t 0),
 oo 8 <| .len (.t 7),
 oo 9 <| .bin .lss (.t 8) (ki 1)]
def rQEX2 : List O := [
 oo 10 <| .bad,
 oz <| .bad]
def rQEX3 : List O := [
 oo 11 <| .mv (.t 0),
 oo 12 <| .ixa 2 (.t 11) (ki 0),
 oo 13 <| .ld (some 2) (.t 12),
 oo 5 <| .new [(.int .i64 0), (.int .i64 0)],
 oz <| .st 2 (.t 5) (.t 13)]
def rQEX4 : List O := [
 oo 6 <| .mv (ki 1)]
def rQEX5 : List O := [
 oo 14 <| .mv (.t 6),
 oo 15 <| .mv (.t 0),
 oo 16 <| .len (.t 15),
 oo 17 <| .bin .lss (.t 14) (.t 16)]
def rQEX6 : List O := [
 oo 20 <| .mv (.t 1),
 oo 21 <| .mv (.t 0),
 oo 22 <| .mv (.t 6),
 oo 23 <| .ixa 2 (.t 21) (.t 22),
 oo 24 <| .ld (some 2) (.t 23),
 oo 25 <| .ld (some 2) (.t 5),
 oo 26 <| .callv (.t 20) [(.t 24), (.t 25)],
 oo 27 <| .bin .lss (.t 26) (ki 0)]
def rQEX7 : List O := [
 oo 28 <| .mv (.t 0),
 oo 29 <| .mv (.t 6),
 oo 30 <| .ixa 2 (.t 28) (.t 29),
 oo 31 <| .ld (some 2) (.t 30),
 oz <| .st 2 (.t 5) (.t 31)]
def rQEX8 : List O := [
 oo 18 <| .mv (.t 6),
 oo 19 <| .bin .add (.t 18) (ki 1),
 oo 6 <| .mv (.t 19)]
def lQEX0 : C := (.seq (.seq (.reg rQEX5 false [] [0, 1, 4, 5, 6, 17]) (.cond (.t 17) .skip (.exit 0))) (.seq (.blk 1 (.seq (.reg rQEX6 true [(6, 6), (7, 7), (0, 4), (0, 5), (1, 5), (2, 5), (3, 5), (4, 5)] [0, 1, 4, 5, 6, 27]) (.cond (.t 27) (.reg rQEX7 false [] [0, 1, 4, 5, 6]) .skip))) (.reg rQEX8 false [] [0, 1, 4, 5, 6])))
def rQEX9 : List O := [
 oo 32 <| .ld (some 2) (.t 5),
 oz <| .st 2 (.t 4) (.t 32)]
def cQE : C := (.seq (.reg rQEX0 false [] [0, 1, 4]) (.seq (.seq (.reg rQEX1 false [] [0, 1, 4, 9]) (.cond (.t 9) (.reg rQEX2 false [] [0, 1, 4]) .skip)) (.seq (.reg rQEX3 false [] [0, 1, 4, 5]) (.seq (.seq (.reg rQEX4 false [] [0, 1, 4, 5, 6]) (.blk 0 (.loop lQEX0))) (.seq (.reg rQEX9 false [] [4]) .ret)))))
def qQE : AFn := ⟨33, 2, [.c 4 (some 2)], cQE⟩
/- cohesion/partition.Make$2 -/
def rQFX0 : List O := [
 oo 2 <| .box (.t 0),
 oo 3 <| .box (.t 1),
 oo 4 <| .mv (ki 0)]
def rQFX1 : List O := [
 oo 5 <| .fad 0 (.t 2),
 oo 6 <| .ld none (.t 5),
 oo 7 <| .fad 0 (.t 3),
 oo 8 <| .ld none (.t 7),
 oo 9 <| .call nQD [(.t 6), (.t 8)],
 oo 10 <| .fad 1 (.t 2),
 oo 11 <| .ld none (.t 10),
 oo 12 <| .fad 1 (.t 3),
 oo 13 <| .ld none (.t 12),
 oo 14 <| .call nQD [(.t 11), (.t 13)],
 oo 15 <| .bslice 1 2 [(.int .i64 0)] [(0, 1, (.t 9)), (1, 1, (.t 14))],
 oo 16 <| .call nQC [(.t 15)],
 oo 4 <| .mv (.t 16)]
def cQF : C := (.seq (.reg rQFX0 false [] [2, 3]) (.seq (.reg rQFX1 true [(9, 9), (10, 10), (11, 11), (12, 12), (1, 2), (0, 3), (1, 3), (1, 5), (3, 5), (4, 5), (0, 6), (1, 6), (2, 6), (3, 6), (4, 6), (1, 7), (3, 7), (4, 7), (6, 7), (0, 8), (1, 8), (2, 8), (3, 8), (4, 8), (5, 8), (6, 8)] [4]) .ret))
def qQF : AFn := ⟨17, 2, [.t 4], cQF⟩
/- cohesion/cohesionmake.Mod -/
def rQGX0 : List O := [
 oo 4 <| .mv (ki 0)]
def rQGX1 : List O := [
 oo 5 <| .mv (.t 0),
 oo 6 <| .mv (.t 1),
 oo 7 <| .bin .rem (.t 5) (.t 6),
 oo 8 <| .mv (.t 1),
 oo 9 <| .bin .add (.t 7) (.t 8),
 oo 10 <| .mv (.t 1),
 oo 11 <| .bin .rem (.t 9) (.t 10),
 oo 4 <| .mv (.t 11)]
def cQG : C := (.seq (.reg rQGX0 false [] [0, 1]) (.seq (.reg rQGX1 false [] [4]) .ret))
def qQG : AFn := ⟨12, 2, [.t 4], cQG⟩
/- cohesion/cohesionref03.SameEdges -/
def rQHX0 : List O := [
 oo 4 <| .mv (.k (.bool false))]
def rQHX1 : List O := [
 oo 6 <| .mv (.t 0),
 oo 7 <| .len (.t 6),
 oo 8 <| .mv (.t 1),
 oo 9 <| .len (.t 8),
 oo 10 <| .bin .neq (.t 7) (.t 9)]
def rQHX2 : List O := [
 oo 4 <| .mv (.k (.bool false))]
def rQHX3 : List O := [
 oo 11 <| .mv (.t 0),
 oo 12 <| .len (.t 11),
 oo 13 <| .mv (ki 0)]
def rQHX4 : List O := [
 oo 14 <| .bin .lss (.t 13) (.t 12)]
def rQHX5 : List O := [
 oo 15 <| .mv (.t 13),
 oo 5 <| .mv (.t 15)]
def rQHX6 : List O := [
 oo 16 <| .mv (.t 0),
 oo 17 <| .mv (.t 5),
 oo 18 <| .ixa 2 (.t 16) (.t 17),
 oo 19 <| .ld (some 2) (.t 18),
 oo 20 <| .mv (.t 1),
 oo 21 <| .mv (.t 5),
 oo 22 <| .ixa 2 (.t 20) (.t 21),
 oo 23 <| .ld (some 2) (.t 22),
 oo 24 <| .eq true (.str [true, true]) (.t 19) (.t 23)]
def rQHX7 : List O := [
 oo 4 <| .mv (.k (.bool false))]
def rQHX8 : List O := [
 oo 25 <| .bin .add (.t 13) (ki 1),
 oo 13 <| .mv (.t 25)]
def lQHX0 : C := (.seq (.reg rQHX4 false [] [0, 1, 12, 13, 14]) (.seq (.cond (.t 14) .skip (.exit 0)) (.seq (.blk 1 (.seq (.reg rQHX5 false [] [0, 1, 5, 12, 13]) (.seq (.reg rQHX6 true [(8, 8), (3, 4), (3, 5), (3, 6), (0, 7), (1, 7), (2, 7), (3, 7)] [0, 1, 12, 13, 24]) (.cond (.t 24) (.seq (.reg rQHX7 false [] [4]) .ret) .skip)))) (.reg rQHX8 false [] [0, 1, 12, 13]))))
def rQHX9 : List O := [
 oo 4 <| .mv (.k (.bool true))]
def cQH : C := (.seq (.reg rQHX0 false [] [0, 1]) (.seq (.seq (.reg rQHX1 false [] [0, 1, 10]) (.cond (.t 10) (.seq (.reg rQHX2 false [] [4]) .ret) .skip)) (.seq (.seq (.reg rQHX3 false [] [0, 1, 12, 13]) (.blk 0 (.loop lQHX0))) (.seq (.reg rQHX9 false [] [4]) .ret))))
def qQH : AFn := ⟨26, 2, [.t 4], cQH⟩
/- cohesion/partition.Check -/
def rQIX0 : List O := [
 oo 2 <| .box (.t 0),
 oo 4 <| .mv (ki 0)]
def rQIX1 : List O := [
 oo 6 <| .fad 0 (.t 2),
 oo 7 <| .ld none (.t 6),
 oo 8 <| .call nQz [(.t 7)],
 oo 9 <| .un .not (.t 8),
 oo 5 <| .mv (.t 9)]
def rQIX2 : List O := [
 oo 4 <| .mv (ki 1)]
def rQIX3 : List O := [
 oo 11 <| .fad 1 (.t 2),
 oo 12 <| .ld none (.t 11),
 oo 13 <| .len (.t 12),
 oo 14 <| .mv (.t 1),
 oo 15 <| .bin .neq (.t 13) (.t 14),
 oo 16 <| .mv (.t 15),
 ⟨(some 17), (some (16, false)), .fad 2 (.t 2)⟩,
 ⟨(some 18), (some (16, false)), .ld none (.t 17)⟩,
 ⟨(some 19), (some (16, false)), .mv (.t 1)⟩,
 ⟨(some 20), (some (16, false)), .call nQQ [(.t 18), (.t 19)]⟩,
 ⟨(some 21), (some (16, false)), .un .not (.t 20)⟩,
 oo 22 <| .pick (.t 16) (.k (.bool true)) (.t 21),
 oo 10 <| .mv (.t 22)]
def rQIX4 : List O := [
 oo 4 <| .mv (ki 4)]
def rQIX5 : List O := [
 oo 24 <| .fad 1 (.t 2),
 oo 25 <| .ld none (.t 24),
 oo 26 <| .mkf (.func nQS) [] [(.t 2)],
 oo 27 <| .call nQR [(.t 25), (.t 26)],
 oo 23 <| .mv (.t 27)]
def rQIX6 : List O := [
 oo 4 <| .mv (ki 30)]
def rQIX7 : List O := [
 oo 4 <| .mv (ki 0)]
def cQI : C := (.seq (.reg rQIX0 false [] [1, 2]) (.seq (.blk 0 (.seq (.reg rQIX1 false [] [1, 2, 5]) (.cond (.t 5) (.seq (.reg rQIX2 false [] [4]) .ret) (.seq (.reg rQIX3 false [] [2, 10]) (.cond (.t 10) (.seq (.reg rQIX4 false [] [4]) .ret) (.seq (.reg rQIX5 false [] [23]) (.cond (.t 23) (.seq (.reg rQIX6 false [] [4]) .ret) .skip))))))) (.seq (.reg rQIX7 false [] [4]) .ret)))
def qQI : AFn := ⟨28, 2, [.t 4], cQI⟩
/- cohesion/graph.Check -/
def rQJX0 : List O := [
 oo 1 <| .box (.t 0),
 oo 2 <| .mv (ki 0)]
def rQJX1 : List O := [
 oo 5 <| .fad 0 (.t 1),
 oo 6 <| .ld none (.t 5),
 oo 7 <| .bin .lss (.t 6) (ki 0),
 oo 8 <| .mv (.t 7),
 ⟨(some 9), (some (8, false)), .fad 0 (.t 1)⟩,
 ⟨(some 10), (some (8, false)), .ld none (.t 9)⟩,
 ⟨(some 11), (some (8, false)), .bin .gtr (.t 10) (ki 64)⟩,
 oo 12 <| .pick (.t 8) (.k (.bool true)) (.t 11)]
def rQJX2 : List O := [
 oo 2 <| .mv (ki 1)]
def rQJX3 : List O := [
 oo 13 <| .fad 1 (.t 1),
 oo 14 <| .ld none (.t 13),
 oo 15 <| .len (.t 14),
 oo 16 <| .mv (ki 0)]
def rQJX4 : List O := [
 oo 17 <| .bin .lss (.t 16) (.t 15)]
def rQJX5 : List O := [
 oo 18 <| .mv (.t 16),
 oo 19 <| .ixa 2 (.t 14) (.t 16),
 oo 20 <| .ld (some 2) (.t 19),
 oo 4 <| .new [(.int .i64 0), (.int .i64 0)],
 oo 3 <| .mv (.t 18),
 oz <| .st 2 (.t 4) (.t 20)]
def rQJX6 : List O := [
 oo 22 <| .fad 0 (.t 4),
 oo 23 <| .ld none (.t 22),
 oo 24 <| .bin .lss (.t 23) (ki 0),
 oo 25 <| .mv (.t 24),
 ⟨(some 26), (some (25, false)), .fad 0 (.t 4)⟩,
 ⟨(some 27), (some (25, false)), .ld none (.t 26)⟩,
 ⟨(some 28), (some (25, false)), .fad 1 (.t 4)⟩,
 ⟨(some 29), (some (25, false)), .ld none (.t 28)⟩,
 ⟨(some 30), (some (25, false)), .bin .geq (.t 27) (.t 29)⟩,
 oo 31 <| .pick (.t 25) (.k (.bool true)) (.t 30),
 oo 32 <| .mv (.t 31),
 ⟨(some 33), (some (32, false)), .fad 1 (.t 4)⟩,
 ⟨(some 34), (some (32, false)), .ld none (.t 33)⟩,
 ⟨(some 35), (some (32, false)), .fad 0 (.t 1)⟩,
 ⟨(some 36), (some (32, false)), .ld none (.t 35)⟩,
 ⟨(some 37), (some (32, false)), .bin .geq (.t 34) (.t 36)⟩,
 oo 38 <| .pick (.t 32) (.k (.bool true)) (.t 37),
 oo 21 <| .mv (.t 38)]
def rQJX7 : List O := [
 oo 2 <| .mv (ki 6)]
def rQJX8 : List O := [
 oo 40 <| .mv (.t 3),
 oo 41 <| .bin .gtr (.t 40) (ki 0),
 oo 42 <| .mv (.t 41),
 ⟨(some 43), (some (42, true)), .fad 1 (.t 1)⟩,
 ⟨(some 44), (some (42, true)), .ld none (.t 43)⟩,
 ⟨(some 45), (some (42, true)), .mv (.t 3)⟩,
 ⟨(some 46), (some (42, true)), .bin .sub (.t 45) (ki 1)⟩,
 ⟨(some 47), (some (42, true)), .ixa 2 (.t 44) (.t 46)⟩,
 ⟨(some 48), (some (42, true)), .ld (some 2) (.t 47)⟩,
 ⟨(some 49), (some (42, true)), .ld (some 2) (.t 4)⟩,
 ⟨(some 50), (some (42, true)), .call nQT [(.t 48), (.t 49)]⟩,
 ⟨(some 51), (some (42, true)), .bin .geq (.t 50) (ki 0)⟩,
 oo 52 <| .pick (.t 42) (.t 51) (.k (.bool false)),
 oo 39 <| .mv (.t 52)]
def rQJX9 : List O := [
 oo 2 <| .mv (ki 5)]
def rQJX10 : List O := [
 oo 53 <| .bin .add (.t 16) (ki 1),
 oo 16 <| .mv (.t 53)]
def lQJX0 : C := (.seq (.reg rQJX4 false [] [1, 14, 15, 16, 17]) (.seq (.cond (.t 17) .skip (.exit 0)) (.seq (.blk 1 (.seq (.reg rQJX5 false [] [1, 3, 4, 14, 15, 16]) (.blk 2 (.seq (.reg rQJX6 false [] [1, 3, 4, 14, 15, 16, 21]) (.cond (.t 21) (.seq (.reg rQJX7 false [] [2]) .ret) (.seq (.reg rQJX8 true [(0, 0), (1, 1), (2, 2), (10, 10), (11, 11), (12, 12), (13, 13), (4, 5), (4, 6), (3, 9), (4, 9), (5, 9), (6, 9), (7, 9), (8, 9)] [1, 14, 15, 16, 39]) (.cond (.t 39) (.seq (.reg rQJX9 false [] [2]) .ret) .skip))))))) (.reg rQJX10 false [] [1, 14, 15, 16]))))
def rQJX11 : List O := [
 oo 2 <| .mv (ki 0)]
def cQJ : C := (.seq (.reg rQJX0 false [] [1]) (.seq (.seq (.reg rQJX1 false [] [1, 12]) (.cond (.t 12) (.seq (.reg rQJX2 false [] [2]) .ret) .skip)) (.seq (.seq (.reg rQJX3 false [] [1, 14, 15, 16]) (.blk 0 (.loop lQJX0))) (.seq (.reg rQJX11 false [] [2]) .ret))))
def qQJ : AFn := ⟨54, 1, [.t 2], cQJ⟩
/- cohesion/nodeset.Has -/
def rQKX0 : List O := [
 oo 4 <| .mv (.k (.bool false))]
def rQKX1 : List O := [
 oo 5 <| .mv (.t 0),
 oo 6 <| .mv (.t 1),
 oo 7 <| .call nQU [(.t 5), (.t 6)],
 oo 4 <| .mv (.t 7)]
def cQK : C := (.seq (.reg rQKX0 false [] [0, 1]) (.seq (.reg rQKX1 false [] [4]) .ret))
def qQK : AFn := ⟨8, 2, [.t 4], cQK⟩
/- cohesion/nodeset.Union -/
def rQLX0 : List O := [
 oo 4 <| .mv (.k (.own 1 []))]
def rQLX1 : List O := [
 oo 5 <| .mv (.t 0),
 oo 6 <| .mv (.t 1),
 oo 7 <| .call nQV [(.t 5), (.t 6), (.k (.func (.func nQW) [] []))],
 oo 4 <| .mv (.t 7)]
def cQL : C := (.seq (.reg rQLX0 false [] [0, 1]) (.seq (.reg rQLX1 false [] [4]) .ret))
def qQL : AFn := ⟨8, 2, [.t 4], cQL⟩
/- slices.IndexFunc[[]int,int] -/
def rQMX0 : List O := [
 oo 4 <| .mv (ki 0)]
def rQMX1 : List O := [
 oo 6 <| .mv (.t 0),
 oo 7 <| .len (.t 6),
 oo 8 <| .mv (ki 0)]
def rQMX2 : List O := [
 oo 9 <| .bin .lss (.t 8) (.t 7)]
def rQMX3 : List O := [
 oo 10 <| .mv (.t 8),
 oo 5 <| .mv (.t 10)]
def rQMX4 : List O := [
 oo 11 <| .mv (.t 1),
 oo 12 <| .mv (.t 0),
 oo 13 <| .mv (.t 5),
 oo 14 <| .ixa 1 (.t 12) (.t 13),
 oo 15 <| .ld none (.t 14),
 oo 16 <| .callv (.t 11) [(.t 15)]]
def rQMX5 : List O := [
 oo 17 <| .mv (.t 5),
 oo 4 <| .mv (.t 17)]
def rQMX6 : List O := [
 oo 18 <| .bin .add (.t 8) (ki 1),
 oo 8 <| .mv (.t 18)]
def lQMX0 : C := (.seq (.reg rQMX2 false [] [0, 1, 7, 8, 9]) (.seq (.cond (.t 9) .skip (.exit 0)) (.seq (.blk 1 (.seq (.reg rQMX3 false [] [0, 1, 5, 7, 8]) (.seq (.reg rQMX4 false [] [0, 1, 5, 7, 8, 16]) (.cond (.t 16) (.seq (.reg rQMX5 false [] [4]) .ret) .skip)))) (.reg rQMX6 false [] [0, 1, 7, 8]))))
def rQMX7 : List O := [
 oo 4 <| .mv (.k (.int .i64 (-1)))]
def cQM : C := (.seq (.reg rQMX0 false [] [0, 1]) (.seq (.seq (.reg rQMX1 false [] [0, 1, 7, 8]) (.blk 0 (.loop lQMX0))) (.seq (.reg rQMX7 false [] [4]) .ret)))
def qQM : AFn := ⟨19, 2, [.t 4], cQM⟩
/- cohesion/masks.Rows -/
def rQNX0 : List O := [
 oo 1 <| .box (.t 0),
 oo 2 <| .mv (.k (.own 1 []))]
def rQNX1 : List O := [
 oo 6 <| .fad 0 (.t 1),
 oo 7 <| .ld none (.t 6),
 oo 8 <| .max [(.t 7), (ki 0)],
 oo 9 <| .min [(.t 8), (ki 64)],
 oo 10 <| .mks 1 [(.int .u64 0)] (.t 9) (.t 9),
 oo 3 <| .mv (.t 10)]
def rQNX2 : List O := [
 oo 11 <| .fad 1 (.t 1),
 oo 12 <| .ld none (.t 11),
 oo 13 <| .len (.t 12),
 oo 14 <| .mv (ki 0)]
def rQNX3 : List O := [
 oo 15 <| .bin .lss (.t 14) (.t 13)]
def rQNX4 : List O := [
 oo 16 <| .ixa 2 (.t 12) (.t 14),
 oo 17 <| .ld (some 2) (.t 16),
 oo 5 <| .new [(.int .i64 0), (.int .i64 0)],
 oz <| .st 2 (.t 5) (.t 17)]
def rQNX5 : List O := [
 oo 18 <| .fad 0 (.t 5),
 oo 19 <| .ld none (.t 18),
 oo 20 <| .bin .geq (.t 19) (ki 0),
 oo 21 <| .mv (.t 20),
 ⟨(some 22), (some (21, true)), .fad 0 (.t 5)⟩,
 ⟨(some 23), (some (21, true)), .ld none (.t 22)⟩,
 ⟨(some 24), (some (21, true)), .fad 1 (.t 5)⟩,
 ⟨(some 25), (some (21, true)), .ld none (.t 24)⟩,
 ⟨(some 26), (some (21, true)), .bin .lss (.t 23) (.t 25)⟩,
 oo 27 <| .pick (.t 21) (.t 26) (.k (.bool false)),
 oo 28 <| .mv (.t 27),
 ⟨(some 29), (some (28, true)), .fad 1 (.t 5)⟩,
 ⟨(some 30), (some (28, true)), .ld none (.t 29)⟩,
 ⟨(some 31), (some (28, true)), .mv (.t 3)⟩,
 ⟨(some 32), (some (28, true)), .len (.t 31)⟩,
 ⟨(some 33), (some (28, true)), .bin .lss (.t 30) (.t 32)⟩,
 oo 34 <| .pick (.t 28) (.t 33) (.k (.bool false))]
def rQNX6 : List O := [
 oo 35 <| .mv (.t 3),
 oo 36 <| .fad 0 (.t 5),
 oo 37 <| .ld none (.t 36),
 oo 38 <| .ixa 1 (.t 35) (.t 37),
 oo 39 <| .ld none (.t 38),
 oo 40 <| .fad 1 (.t 5),
 oo 41 <| .ld none (.t 40),
 oo 42 <| .bin .shl (.k (.int .u64 1)) (.t 41),
 oo 43 <| .bin .or (.t 39) (.t 42),
 oo 44 <| .ixa 1 (.t 35) (.t 37),
 oz <| .st 1 (.t 44) (.t 43)]
def rQNX7 : List O := [
 oo 45 <| .mv (.t 3),
 oo 46 <| .fad 1 (.t 5),
 oo 47 <| .ld none (.t 46),
 oo 48 <| .ixa 1 (.t 45) (.t 47),
 oo 49 <| .ld none (.t 48),
 oo 50 <| .fad 0 (.t 5),
 oo 51 <| .ld none (.t 50),
 oo 52 <| .bin .shl (.k (.int .u64 1)) (.t 51),
 oo 53 <| .bin .or (.t 49) (.t 52),
 oo 54 <| .ixa 1 (.t 45) (.t 47),
 oz <| .st 1 (.t 54) (.t 53)]
def rQNX8 : List O := [
 oo 55 <| .bin .add (.t 14) (ki 1),
 oo 14 <| .mv (.t 55)]
def lQNX0 : C := (.seq (.reg rQNX3 false [] [3, 12, 13, 14, 15]) (.seq (.cond (.t 15) .skip (.exit 0)) (.seq (.blk 1 (.seq (.reg rQNX4 false [] [3, 5, 12, 13, 14]) (.seq (.reg rQNX5 false [] [3, 5, 12, 13, 14, 34]) (.cond (.t 34) (.seq (.reg rQNX6 true [(8, 8), (9, 9), (10, 10), (0, 2), (2, 5), (4, 5), (0, 6), (1, 6), (2, 6), (3, 6), (4, 6), (2, 7), (4, 7)] [3, 5, 12, 13, 14]) (.reg rQNX7 true [(8, 8), (9, 9), (10, 10), (0, 2), (2, 5), (4, 5), (0, 6), (1, 6), (2, 6), (3, 6), (4, 6), (2, 7), (4, 7)] [3, 12, 13, 14])) .skip)))) (.reg rQNX8 false [] [3, 12, 13, 14]))))
def rQNX9 : List O := [
 oo 56 <| .mv (.t 3),
 oo 2 <| .mv (.t 56)]
def cQN : C := (.seq (.reg rQNX0 false [] [1]) (.seq (.reg rQNX1 false [] [1, 3]) (.seq (.seq (.reg rQNX2 false [] [3, 12, 13, 14]) (.blk 0 (.loop lQNX0))) (.seq (.reg rQNX9 false [] [2]) .ret))))
def qQN : AFn := ⟨57, 1, [.t 2], cQN⟩
/- cohesion/masks.Count -/
def rQOX0 : List O := [
 oo 2 <| .mv (ki 0)]
def rQOX1 : List O := [
 oo 3 <| .mv (.t 0),
 oo 4 <| .call nQX [(.t 3)],
 oo 2 <| .mv (.t 4)]
def cQO : C := (.seq (.reg rQOX0 false [] [0]) (.seq (.reg rQOX1 false [] [2]) .ret))
def qQO : AFn := ⟨5, 1, [.t 2], cQO⟩
/- cmp.isNaN[int] -/
def rQPX0 : List O := [
 oo 2 <| .mv (.k (.bool false))]
def rQPX1 : List O := [
 oo 3 <| .mv (.t 0),
 oo 4 <| .mv (.t 0),
 oo 5 <| .bin .neq (.t 3) (.t 4),
 oo 2 <| .mv (.t 5)]
def cQP : C := (.seq (.reg rQPX0 false [] [0]) (.seq (.reg rQPX1 false [] [2]) .ret))
def qQP : AFn := ⟨6, 1, [.t 2], cQP⟩
/- cohesion/nodeset.Valid -/
def rQQX0 : List O := [
 oo 4 <| .mv (.k (.bool false))]
def rQQX1 : List O := [
 oo 7 <| .mv (.t 0),
 oo 8 <| .len (.t 7),
 oo 9 <| .mv (ki 0)]
def rQQX2 : List O := [
 oo 10 <| .bin .lss (.t 9) (.t 8)]
def rQQX3 : List O := [
 oo 11 <| .mv (.t 9),
 oo 12 <| .ixa 1 (.t 7) (.t 9),
 oo 13 <| .ld none (.t 12),
 oo 5 <| .mv (.t 11),
 oo 6 <| .mv (.t 13)]
def rQQX4 : List O := [
 oo 14 <| .mv (.t 6),
 oo 15 <| .bin .lss (.t 14) (ki 0),
 oo 16 <| .mv (.t 15),
 ⟨(some 17), (some (16, false)), .mv (.t 6)⟩,
 ⟨(some 18), (some (16, false)), .mv (.t 1)⟩,
 ⟨(some 19), (some (16, false)), .bin .geq (.t 17) (.t 18)⟩,
 oo 20 <| .pick (.t 16) (.k (.bool true)) (.t 19),
 oo 21 <| .mv (.t 20),
 ⟨(some 22), (some (21, false)), .mv (.t 5)⟩,
 ⟨(some 23), (some (21, false)), .bin .gtr (.t 22) (ki 0)⟩,
 ⟨(some 24), (some (21, false)), .mv (.t 23)⟩,
 ⟨(some 25), (some (24, true)), .mv (.t 0)⟩,
 ⟨(some 26), (some (24, true)), .mv (.t 5)⟩,
 ⟨(some 27), (some (24, true)), .bin .sub (.t 26) (ki 1)⟩,
 ⟨(some 28), (some (24, true)), .ixa 1 (.t 25) (.t 27)⟩,
 ⟨(some 29), (some (24, true)), .ld none (.t 28)⟩,
 ⟨(some 30), (some (24, true)), .mv (.t 6)⟩,
 ⟨(some 31), (some (24, true)), .bin .geq (.t 29) (.t 30)⟩,
 ⟨(some 32), (some (21, false)), .pick (.t 24) (.t 31) (.k (.bool false))⟩,
 oo 33 <| .pick (.t 21) (.k (.bool true)) (.t 32)]
def rQQX5 : List O := [
 oo 4 <| .mv (.k (.bool false))]
def rQQX6 : List O := [
 oo 34 <| .bin .add (.t 9) (ki 1),
 oo 9 <| .mv (.t 34)]
def lQQX0 : C := (.seq (.reg rQQX2 false [] [0, 1, 7, 8, 9, 10]) (.seq (.cond (.t 10) .skip (.exit 0)) (.seq (.blk 1 (.seq (.reg rQQX3 false [] [0, 1, 5, 6, 7, 8, 9]) (.seq (.reg rQQX4 false [] [0, 1, 7, 8, 9, 33]) (.cond (.t 33) (.seq (.reg rQQX5 false [] [4]) .ret) .skip)))) (.reg rQQX6 false [] [0, 1, 7, 8, 9]))))
def rQQX7 : List O := [
 oo 4 <| .mv (.k (.bool true))]
def cQQ : C := (.seq (.reg rQQX0 false [] [0, 1]) (.seq (.seq (.reg rQQX1 false [] [0, 1, 7, 8, 9]) (.blk 0 (.loop lQQX0))) (.seq (.reg rQQX7 false [] [4]) .ret)))
def qQQ : AFn := ⟨35, 2, [.t 4], cQQ⟩
/- slices.ContainsFunc[[]int,int] -/
def rQRX0 : List O := [
 oo 4 <| .mv (.k (.bool false))]
def rQRX1 : List O := [
 oo 5 <| .mv (.t 0),
 oo 6 <| .mv (.t 1),
 oo 7 <| .call nQM [(.t 5), (.t 6)],
 oo 8 <| .bin .geq (.t 7) (ki 0),
 oo 4 <| .mv (.t 8)]
def cQR : C := (.seq (.reg rQRX0 false [] [0, 1]) (.seq (.reg rQRX1 false [] [4]) .ret))
def qQR : AFn := ⟨9, 2, [.t 4], cQR⟩
/- cohesion/partition.Check$1 -/
def rQSX0 : List O := [
 oo 3 <| .mv (.k (.bool false))]
def rQSX1 : List O := [
 oo 4 <| .mv (.t 0),
 oo 5 <| .bin .lss (.t 4) (ki 0),
 oo 6 <| .mv (.t 5),
 ⟨(some 7), (some (6, false)), .mv (.t 0)⟩,
 ⟨(some 8), (some (6, false)), .fad 0 (.t 1)⟩,
 ⟨(some 9), (some (6, false)), .ld none (.t 8)⟩,
 ⟨(some 10), (some (6, false)), .bin .geq (.t 7) (.t 9)⟩,
 oo 11 <| .pick (.t 6) (.k (.bool true)) (.t 10),
 oo 3 <| .mv (.t 11)]
def cQS : C := (.seq (.reg rQSX0 false [] [0, 1]) (.seq (.reg rQSX1 false [] [3]) .ret))
def qQS : AFn := ⟨12, 1, [.t 3], cQS⟩
/- cohesion/graph.Order -/
def rQTX0 : List O := [
 oo 2 <| .box (.t 0),
 oo 3 <| .box (.t 1),
 oo 4 <| .mv (ki 0)]
def rQTX1 : List O := [
 oo 5 <| .fad 0 (.t 2),
 oo 6 <| .ld none (.t 5),
 oo 7 <| .fad 0 (.t 3),
 oo 8 <| .ld none (.t 7),
 oo 9 <| .call nQD [(.t 6), (.t 8)],
 oo 10 <| .fad 1 (.t 2),
 oo 11 <| .ld none (.t 10),
 oo 12 <| .fad 1 (.t 3),
 oo 13 <| .ld none (.t 12),
 oo 14 <| .call nQD [(.t 11), (.t 13)],
 oo 15 <| .bslice 1 2 [(.int .i64 0)] [(0, 1, (.t 9)), (1, 1, (.t 14))],
 oo 16 <| .call nQC [(.t 15)],
 oo 4 <| .mv (.t 16)]
def cQT : C := (.seq (.reg rQTX0 false [] [2, 3]) (.seq (.reg rQTX1 true [(9, 9), (10, 10), (11, 11), (12, 12), (1, 2), (0, 3), (1, 3), (1, 5), (3, 5), (4, 5), (0, 6), (1, 6), (2, 6), (3, 6), (4, 6), (1, 7), (3, 7), (4, 7), (6, 7), (0, 8), (1, 8), (2, 8), (3, 8), (4, 8), (5, 8), (6, 8)] [4]) .ret))
def qQT : AFn := ⟨17, 2, [.t 4], cQT⟩
/- slices.Contains[[]int,int] -/
def rQUX0 : List O := [
 oo 4 <| .mv (.k (.bool false))]
def rQUX1 : List O := [
 oo 5 <| .mv (.t 0),
 oo 6 <| .mv (.t 1),
 oo 7 <| .call nQY [(.t 5), (.t 6)],
 oo 8 <| .bin .geq (.t 7) (ki 0),
 oo 4 <| .mv (.t 8)]
def cQU : C := (.seq (.reg rQUX0 false [] [0, 1]) (.seq (.reg rQUX1 false [] [4]) .ret))
def qQU : AFn := ⟨9, 2, [.t 4], cQU⟩
/- cohesion/nodeset.merged[int] -/
def rQVX0 : List O := [
 oo 6 <| .mv (.k (.own 1 []))]
def rQVX1 : List O := [
 oo 11 <| .mv (.t 0),
 oo 12 <| .call nQZ [(.t 11)],
 oo 13 <| .mv (.t 1),
 oo 14 <| .call nQZ [(.t 13)],
 oo 0 <| .mv (.t 12),
 oo 1 <| .mv (.t 14)]
def rQVX2 : List O := [
 oo 15 <| .mv (.t 0),
 oo 16 <| .call nQ0 [(.t 15)]]
def rQVX3 : List O := [
 oo 17 <| .mv (.t 1),
 oo 18 <| .call nQ0 [(.t 17)]]
def rQVX4 : List O := [
 oo 19 <| .mv (.t 0),
 oo 20 <| .call nQ1 [(.t 19)],
 oo 21 <| .mv (.t 1),
 oo 22 <| .call nQ1 [(.t 21)],
 oo 0 <| .mv (.t 20),
 oo 1 <| .mv (.t 22)]
def rQVX5 : List O := [
 oo 7 <| .mv (.k (.own 1 []))]
def rQVX6 : List O := [
 oo 23 <| .mv (.t 0),
 oo 24 <| .len (.t 23),
 oo 25 <| .bin .gtr (.t 24) (ki 0),
 oo 26 <| .mv (.t 25),
 ⟨(some 27), (some (26, false)), .mv (.t 1)⟩,
 ⟨(some 28), (some (26, false)), .len (.t 27)⟩,
 ⟨(some 29), (some (26, false)), .bin .gtr (.t 28) (ki 0)⟩,
 oo 30 <| .pick (.t 26) (.k (.bool true)) (.t 29)]
def rQVX7 : List O := [
 oo 31 <| .mv (.t 1),
 oo 32 <| .len (.t 31),
 oo 33 <| .bin .eql (.t 32) (ki 0),
 oo 34 <| .mv (.t 33),
 ⟨(some 35), (some (34, false)), .mv (.t 0)⟩,
 ⟨(some 36), (some (34, false)), .len (.t 35)⟩,
 ⟨(some 37), (some (34, false)), .bin .gtr (.t 36) (ki 0)⟩,
 ⟨(some 38), (some (34, false)), .mv (.t 37)⟩,
 ⟨(some 39), (some (38, true)), .mv (.t 0)⟩,
 ⟨(some 40), (some (38, true)), .ixa 1 (.t 39) (ki 0)⟩,
 ⟨(some 41), (some (38, true)), .ld none (.t 40)⟩,
 ⟨(some 42), (some (38, true)), .mv (.t 1)⟩,
 ⟨(some 43), (some (38, true)), .ixa 1 (.t 42) (ki 0)⟩,
 ⟨(some 44), (some (38, true)), .ld none (.t 43)⟩,
 ⟨(some 45), (some (38, true)), .bin .leq (.t 41) (.t 44)⟩,
 ⟨(some 46), (some (34, false)), .pick (.t 38) (.t 45) (.k (.bool false))⟩,
 oo 47 <| .pick (.t 34) (.k (.bool true)) (.t 46),
 oo 8 <| .mv (.t 47)]
def rQVX8 : List O := [
 oo 48 <| .mv (.t 0),
 oo 49 <| .len (.t 48),
 oo 50 <| .bin .eql (.t 49) (ki 0),
 oo 51 <| .mv (.t 50),
 ⟨(some 52), (some (51, false)), .mv (.t 1)⟩,
 ⟨(some 53), (some (51, false)), .len (.t 52)⟩,
 ⟨(some 54), (some (51, false)), .bin .gtr (.t 53) (ki 0)⟩,
 ⟨(some 55), (some (51, false)), .mv (.t 54)⟩,
 ⟨(some 56), (some (55, true)), .mv (.t 1)⟩,
 ⟨(some 57), (some (55, true)), .ixa 1 (.t 56) (ki 0)⟩,
 ⟨(some 58), (some (55, true)), .ld none (.t 57)⟩,
 ⟨(some 59), (some (55, true)), .mv (.t 0)⟩,
 ⟨(some 60), (some (55, true)), .ixa 1 (.t 59) (ki 0)⟩,
 ⟨(some 61), (some (55, true)), .ld none (.t 60)⟩,
 ⟨(some 62), (some (55, true)), .bin .leq (.t 58) (.t 61)⟩,
 ⟨(some 63), (some (51, false)), .pick (.t 55) (.t 62) (.k (.bool false))⟩,
 oo 64 <| .pick (.t 51) (.k (.bool true)) (.t 63),
 oo 9 <| .mv (.t 64)]
def rQVX9 : List O := [
 oo 10 <| .mv (ki 0)]
def rQVX10 : List O := [
 oo 65 <| .mv (.t 8)]
def rQVX11 : List O := [
 oo 66 <| .mv (.t 0),
 oo 67 <| .ixa 1 (.t 66) (ki 0),
 oo 68 <| .ld none (.t 67),
 oo 69 <| .mv (.t 0),
 oo 70 <| .slc 1 (.t 69) (some (ki 1)) none,
 oo 10 <| .mv (.t 68),
 oo 0 <| .mv (.t 70)]
def rQVX12 : List O := [
 oo 71 <| .mv (.t 9)]
def rQVX13 : List O := [
 oo 72 <| .mv (.t 1),
 oo 73 <| .ixa 1 (.t 72) (ki 0),
 oo 74 <| .ld none (.t 73),
 oo 75 <| .mv (.t 1),
 oo 76 <| .slc 1 (.t 75) (some (ki 1)) none,
 oo 10 <| .mv (.t 74),
 oo 1 <| .mv (.t 76)]
def rQVX14 : List O := [
 oo 77 <| .mv (.t 2),
 oo 78 <| .mv (.t 8),
 oo 79 <| .mv (.t 9),
 oo 80 <| .callv (.t 77) [(.t 78), (.t 79)]]
def rQVX15 : List O := [
 oo 81 <| .mv (.t 7),
 oo 82 <| .mv (.t 10),
 oo 83 <| .bslice 1 1 [(.int .i64 0)] [(0, 1, (.t 82))],
 oo 84 <| .app 1 (.t 81) (.t 83),
 oo 7 <| .mv (.t 84)]
def lQVX0 : C := (.seq (.seq (.reg rQVX6 false [] [0, 1, 2, 7, 30]) (.cond (.t 30) .skip (.exit 0))) (.blk 1 (.seq (.reg rQVX7 true [(0, 0), (1, 1), (2, 2), (3, 3), (4, 4), (5, 5), (6, 6), (7, 7), (14, 14), (15, 15), (16, 16), (17, 17), (10, 11), (10, 12), (8, 13), (9, 13), (10, 13)] [0, 1, 2, 7, 8]) (.seq (.reg rQVX8 true [(0, 0), (1, 1), (2, 2), (3, 3), (4, 4), (5, 5), (6, 6), (7, 7), (14, 14), (15, 15), (16, 16), (17, 17), (10, 11), (10, 12), (8, 13), (9, 13), (10, 13)] [0, 1, 2, 7, 8, 9]) (.seq (.reg rQVX9 false [] [0, 1, 2, 7, 8, 9, 10]) (.seq (.seq (.reg rQVX10 false [] [0, 1, 2, 7, 8, 9, 10, 65]) (.cond (.t 65) (.reg rQVX11 true [(6, 6), (2, 3), (2, 4)] [0, 1, 2, 7, 8, 9, 10]) .skip)) (.seq (.seq (.reg rQVX12 false [] [0, 1, 2, 7, 8, 9, 10, 71]) (.cond (.t 71) (.reg rQVX13 true [(6, 6), (2, 3), (2, 4)] [0, 1, 2, 7, 8, 9, 10]) .skip)) (.seq (.reg rQVX14 false [] [0, 1, 2, 7, 10, 80]) (.cond (.t 80) (.reg rQVX15 false [] [0, 1, 2, 7]) .skip)))))))))
def rQVX16 : List O := [
 oo 85 <| .mv (.t 7),
 oo 6 <| .mv (.t 85)]
def cQV : C := (.seq (.reg rQVX0 false [] [0, 1, 2]) (.seq (.reg rQVX1 false [] [0, 1, 2]) (.seq (.reg rQVX2 false [] [0, 1, 2]) (.seq (.reg rQVX3 false [] [0, 1, 2]) (.seq (.reg rQVX4 false [] [0, 1, 2]) (.seq (.reg rQVX5 false [] [0, 1, 2, 7]) (.seq (.blk 0 (.loop lQVX0)) (.seq (.reg rQVX16 false [] [6]) .ret))))))))
def qQV : AFn := ⟨86, 3, [.t 6], cQV⟩
/- cohesion/nodeset.Union$1 -/
def rQWX0 : List O := [
 oo 4 <| .mv (.k (.bool false))]
def rQWX1 : List O := [
 oo 4 <| .mv (.k (.bool true))]
def cQW : C := (.seq (.reg rQWX0 false [] []) (.seq (.reg rQWX1 false [] [4]) .ret))
def qQW : AFn := ⟨5, 2, [.t 4], cQW⟩
/- math/bits.OnesCount64 -/
def rQXX0 : List O := [
 oo 2 <| .mv (ki 0)]
def rQXX1 : List O := [
 oo 3 <| .mv (.t 0),
 oo 4 <| .bin .shr (.t 3) (.k (.int .u64 1)),
 oo 5 <| .bin .and (.t 4) (.k (.int .u64 6148914691236517205)),
 oo 6 <| .mv (.t 0),
 oo 7 <| .bin .and (.t 6) (.k (.int .u64 6148914691236517205)),
 oo 8 <| .bin .add (.t 5) (.t 7),
 oo 0 <| .mv (.t 8)]
def rQXX2 : List O := [
 oo 9 <| .mv (.t 0),
 oo 10 <| .bin .shr (.t 9) (.k (.int .u64 2)),
 oo 11 <| .bin .and (.t 10) (.k (.int .u64 3689348814741910323)),
 oo 12 <| .mv (.t 0),
 oo 13 <| .bin .and (.t 12) (.k (.int .u64 3689348814741910323)),
 oo 14 <| .bin .add (.t 11) (.t 13),
 oo 0 <| .mv (.t 14)]
def rQXX3 : List O := [
 oo 15 <| .mv (.t 0),
 oo 16 <| .bin .shr (.t 15) (.k (.int .u64 4)),
 oo 17 <| .mv (.t 0),
 oo 18 <| .bin .add (.t 16) (.t 17),
 oo 19 <| .bin .and (.t 18) (.k (.int .u64 1085102592571150095)),
 oo 0 <| .mv (.t 19)]
def rQXX4 : List O := [
 oo 20 <| .mv (.t 0),
 oo 21 <| .mv (.t 0),
 oo 22 <| .bin .shr (.t 21) (.k (.int .u64 8)),
 oo 23 <| .bin .add (.t 20) (.t 22),
 oo 0 <| .mv (.t 23)]
def rQXX5 : List O := [
 oo 24 <| .mv (.t 0),
 oo 25 <| .mv (.t 0),
 oo 26 <| .bin .shr (.t 25) (.k (.int .u64 16)),
 oo 27 <| .bin .add (.t 24) (.t 26),
 oo 0 <| .mv (.t 27)]
def rQXX6 : List O := [
 oo 28 <| .mv (.t 0),
 oo 29 <| .mv (.t 0),
 oo 30 <| .bin .shr (.t 29) (.k (.int .u64 32)),
 oo 31 <| .bin .add (.t 28) (.t 30),
 oo 0 <| .mv (.t 31)]
def rQXX7 : List O := [
 oo 32 <| .mv (.t 0),
 oo 33 <| .cvt .i64 (.t 32),
 oo 34 <| .bin .and (.t 33) (ki 127),
 oo 2 <| .mv (.t 34)]
def cQX : C := (.seq (.reg rQXX0 false [] [0]) (.seq (.reg rQXX1 false [] [0]) (.seq (.reg rQXX2 false [] [0]) (.seq (.reg rQXX3 false [] [0]) (.seq (.reg rQXX4 false [] [0]) (.seq (.reg rQXX5 false [] [0]) (.seq (.reg rQXX6 false [] [0]) (.seq (.reg rQXX7 false [] [2]) .ret))))))))
def qQX : AFn := ⟨35, 1, [.t 2], cQX⟩
/- slices.Index[[]int,int] -/
def rQYX0 : List O := [
 oo 4 <| .mv (ki 0)]
def rQYX1 : List O := [
 oo 6 <| .mv (.t 0),
 oo 7 <| .len (.t 6),
 oo 8 <| .mv (ki 0)]
def rQYX2 : List O := [
 oo 9 <| .bin .lss (.t 8) (.t 7)]
def rQYX3 : List O := [
 oo 10 <| .mv (.t 8),
 oo 5 <| .mv (.t 10)]
def rQYX4 : List O := [
 oo 11 <| .mv (.t 1),
 oo 12 <| .mv (.t 0),
 oo 13 <| .mv (.t 5),
 oo 14 <| .ixa 1 (.t 12) (.t 13),
 oo 15 <| .ld none (.t 14),
 oo 16 <| .bin .eql (.t 11) (.t 15)]
def rQYX5 : List O := [
 oo 17 <| .mv (.t 5),
 oo 4 <| .mv (.t 17)]
def rQYX6 : List O := [
 oo 18 <| .bin .add (.t 8) (ki 1),
 oo 8 <| .mv (.t 18)]
def lQYX0 : C := (.seq (.reg rQYX2 false [] [0, 1, 7, 8, 9]) (.seq (.cond (.t 9) .skip (.exit 0)) (.seq (.blk 1 (.seq (.reg rQYX3 false [] [0, 1, 5, 7, 8]) (.seq (.reg rQYX4 false [] [0, 1, 5, 7, 8, 16]) (.cond (.t 16) (.seq (.reg rQYX5 false [] [4]) .ret) .skip)))) (.reg rQYX6 false [] [0, 1, 7, 8]))))
def rQYX7 : List O := [
 oo 4 <| .mv (.k (.int .i64 (-1)))]
def cQY : C := (.seq (.reg rQYX0 false [] [0, 1]) (.seq (.seq (.reg rQYX1 false [] [0, 1, 7, 8]) (.blk 0 (.loop lQYX0))) (.seq (.reg rQYX7 false [] [4]) .ret)))
def qQY : AFn := ⟨19, 2, [.t 4], cQY⟩
/- slices.Clone[[]int,int] -/
def rQZX0 : List O := [
 oo 2 <| .mv (.k (.own 1 []))]
def rQZX1 : List O := [
 oo 3 <| .mv (.t 0),
 oo 4 <| .eq false .nsl (.t 3) (.k (.own 1 []))]
def rQZX2 : List O := [
 oo 2 <| .mv (.k (.own 1 []))]
def rQZX3 : List O := [
 oo 5 <| .bslice 1 0 [(.int .i64 0)] [],
 oo 6 <| .mv (.t 0),
 oo 7 <| .app 1 (.t 5) (.t 6),
 oo 2 <| .mv (.t 7)]
def cQZ : C := (.seq (.reg rQZX0 false [] [0]) (.seq (.seq (.reg rQZX1 false [] [0, 4]) (.cond (.t 4) (.seq (.reg rQZX2 false [] [2]) .ret) .skip)) (.seq (.reg rQZX3 false [] [2]) .ret)))
def qQZ : AFn := ⟨8, 1, [.t 2], cQZ⟩
/- slices.Sort[[]int,int] -/
def rQ0X0 : List O := [
 oo 3 <| .mv (.t 0),
 oo 4 <| .len (.t 3),
 oo 2 <| .mv (.t 4)]
def rQ0X1 : List O := [
 oo 5 <| .mv (.t 0),
 oo 6 <| .mv (.t 2),
 oo 7 <| .mv (.t 2),
 oo 8 <| .cvt .u64 (.t 7),
 oo 9 <| .call 45 [(.t 8)],
 oo 10 <| .call 74 [(.t 5), (ki 0), (.t 6), (.t 9)]]
def cQ0 : C := (.seq (.reg rQ0X0 false [] [0, 2]) (.reg rQ0X1 false [] []))
def qQ0 : AFn := ⟨11, 1, [], cQ0⟩
/- slices.Compact[[]int,int] -/
def rQ1X0 : List O := [
 oo 2 <| .mv (.k (.own 1 []))]
def rQ1X1 : List O := [
 oo 6 <| .mv (.t 0),
 oo 7 <| .len (.t 6),
 oo 8 <| .bin .lss (.t 7) (ki 2)]
def rQ1X2 : List O := [
 oo 9 <| .mv (.t 0),
 oo 2 <| .mv (.t 9)]
def rQ1X3 : List O := [
 oo 3 <| .mv (ki 1)]
def rQ1X4 : List O := [
 oo 10 <| .mv (.t 3),
 oo 11 <| .mv (.t 0),
 oo 12 <| .len (.t 11),
 oo 13 <| .bin .lss (.t 10) (.t 12)]
def rQ1X5 : List O := [
 oo 16 <| .mv (.t 0),
 oo 17 <| .mv (.t 3),
 oo 18 <| .ixa 1 (.t 16) (.t 17),
 oo 19 <| .ld none (.t 18),
 oo 20 <| .mv (.t 0),
 oo 21 <| .mv (.t 3),
 oo 22 <| .bin .sub (.t 21) (ki 1),
 oo 23 <| .ixa 1 (.t 20) (.t 22),
 oo 24 <| .ld none (.t 23),
 oo 25 <| .bin .eql (.t 19) (.t 24)]
def rQ1X6 : List O := [
 oo 26 <| .mv (.t 0),
 oo 27 <| .mv (.t 3),
 oo 28 <| .slc 1 (.t 26) (some (.t 27)) none,
 oo 4 <| .mv (.t 28)]
def rQ1X7 : List O := [
 oo 5 <| .mv (ki 1)]
def rQ1X8 : List O := [
 oo 29 <| .mv (.t 5),
 oo 30 <| .mv (.t 4),
 oo 31 <| .len (.t 30),
 oo 32 <| .bin .lss (.t 29) (.t 31)]
def rQ1X9 : List O := [
 oo 35 <| .mv (.t 4),
 oo 36 <| .mv (.t 5),
 oo 37 <| .ixa 1 (.t 35) (.t 36),
 oo 38 <| .ld none (.t 37),
 oo 39 <| .mv (.t 4),
 oo 40 <| .mv (.t 5),
 oo 41 <| .bin .sub (.t 40) (ki 1),
 oo 42 <| .ixa 1 (.t 39) (.t 41),
 oo 43 <| .ld none (.t 42),
 oo 44 <| .bin .neq (.t 38) (.t 43)]
def rQ1X10 : List O := [
 oo 45 <| .mv (.t 0),
 oo 46 <| .mv (.t 3),
 oo 47 <| .mv (.t 4),
 oo 48 <| .mv (.t 5),
 oo 49 <| .ixa 1 (.t 47) (.t 48),
 oo 50 <| .ld none (.t 49),
 oo 51 <| .ixa 1 (.t 45) (.t 46),
 oz <| .st 1 (.t 51) (.t 50)]
def rQ1X11 : List O := [
 oo 52 <| .mv (.t 3),
 oo 53 <| .bin .add (.t 52) (ki 1),
 oo 3 <| .mv (.t 53)]
def rQ1X12 : List O := [
 oo 33 <| .mv (.t 5),
 oo 34 <| .bin .add (.t 33) (ki 1),
 oo 5 <| .mv (.t 34)]
def lQ1X0 : C := (.seq (.seq (.reg rQ1X8 false [] [0, 3, 4, 5, 32]) (.cond (.t 32) .skip (.exit 2))) (.seq (.blk 3 (.seq (.reg rQ1X9 true [(9, 9), (3, 4), (3, 5), (3, 6), (3, 7), (0, 8), (1, 8), (2, 8), (3, 8)] [0, 3, 4, 5, 44]) (.cond (.t 44) (.seq (.reg rQ1X10 false [] [0, 3, 4, 5]) (.reg rQ1X11 false [] [0, 3, 4, 5])) .skip))) (.reg rQ1X12 false [] [0, 3, 4, 5])))
def rQ1X13 : List O := [
 oo 54 <| .mv (.t 0),
 oo 55 <| .mv (.t 3),
 oo 56 <| .slc 1 (.t 54) (some (.t 55)) none,
 oz <| .clr 1 [(.int .i64 0)] (.t 56)]
def rQ1X14 : List O := [
 oo 57 <| .mv (.t 0),
 oo 58 <| .mv (.t 3),
 oo 59 <| .slc 1 (.t 57) none (some (.t 58)),
 oo 2 <| .mv (.t 59)]
def rQ1X15 : List O := [
 oo 14 <| .mv (.t 3),
 oo 15 <| .bin .add (.t 14) (ki 1),
 oo 3 <| .mv (.t 15)]
def lQ1X1 : C := (.seq (.seq (.reg rQ1X4 false [] [0, 3, 13]) (.cond (.t 13) .skip (.exit 0))) (.seq (.blk 1 (.seq (.reg rQ1X5 true [(9, 9), (3, 4), (3, 5), (3, 6), (3, 7), (0, 8), (1, 8), (2, 8), (3, 8)] [0, 3, 25]) (.cond (.t 25) (.seq (.reg rQ1X6 false [] [0, 3, 4]) (.seq (.seq (.reg rQ1X7 false [] [0, 3, 4, 5]) (.blk 2 (.loop lQ1X0))) (.seq (.reg rQ1X13 false [] [0, 3]) (.seq (.reg rQ1X14 false [] [2]) .ret)))) .skip))) (.reg rQ1X15 false [] [0, 3])))
def rQ1X16 : List O := [
 oo 60 <| .mv (.t 0),
 oo 2 <| .mv (.t 60)]
def cQ1 : C := (.seq (.reg rQ1X0 false [] [0]) (.seq (.seq (.reg rQ1X1 false [] [0, 8]) (.cond (.t 8) (.seq (.reg rQ1X2 false [] [2]) .ret) .skip)) (.seq (.seq (.reg rQ1X3 false [] [0, 3]) (.blk 0 (.loop lQ1X1))) (.seq (.reg rQ1X16 false [] [2]) .ret))))
def qQ1 : AFn := ⟨61, 1, [.t 2], cQ1⟩
abbrev Md := Go.Bm.Md
abbrev Cfg := Go.Bm.Cfg
def look : List (Nat × Md × AFn) -> Nat -> Option (Md × AFn)
 | [], _ => none
 | (j, m, q) :: r, i => if i = j then some (m, q) else look r i
def fns : List (Nat × Md × AFn) := [
 (nQa, ⟨false, false, true⟩, qQa),
 (nQb, ⟨false, false, true⟩, qQb),
 (nQc, ⟨false, false, true⟩, qQc),
 (nQd, ⟨false, false, true⟩, qQd),
 (nQe, ⟨true, false, false⟩, qQe),
 (nQf, ⟨true, false, false⟩, qQf),
 (nQg, ⟨true, false, false⟩, qQg),
 (nQh, ⟨false, false, false⟩, qQh),
 (nQi, ⟨false, false, false⟩, qQi),
 (nQj, ⟨false, false, true⟩, qQj),
 (nQk, ⟨false, false, false⟩, qQk),
 (nQl, ⟨false, false, false⟩, qQl),
 (nQm, ⟨false, false, false⟩, qQm),
 (nQn, ⟨true, false, false⟩, qQn),
 (nQo, ⟨false, false, true⟩, qQo),
 (nQp, ⟨false, false, true⟩, qQp),
 (nQq, ⟨true, false, false⟩, qQq),
 (nQr, ⟨true, false, false⟩, qQr),
 (nQs, ⟨false, false, true⟩, qQs),
 (nQt, ⟨false, false, true⟩, qQt),
 (nQu, ⟨false, false, false⟩, qQu),
 (nQv, ⟨false, false, false⟩, qQv),
 (nQw, ⟨false, false, true⟩, qQw),
 (nQx, ⟨false, false, false⟩, qQx),
 (nQy, ⟨false, false, false⟩, qQy),
 (nQz, ⟨false, false, true⟩, qQz),
 (nQA, ⟨false, false, true⟩, qQA),
 (nQB, ⟨false, false, true⟩, qQB),
 (nQC, ⟨false, false, true⟩, qQC),
 (nQD, ⟨false, false, true⟩, qQD),
 (nQE, ⟨false, false, true⟩, qQE),
 (nQF, ⟨false, false, true⟩, qQF),
 (nQG, ⟨false, false, true⟩, qQG),
 (nQH, ⟨false, false, true⟩, qQH),
 (nQI, ⟨true, false, false⟩, qQI),
 (nQJ, ⟨false, false, true⟩, qQJ),
 (nQK, ⟨false, false, true⟩, qQK),
 (nQL, ⟨false, false, false⟩, qQL),
 (nQM, ⟨true, false, false⟩, qQM),
 (nQN, ⟨false, false, false⟩, qQN),
 (nQO, ⟨false, false, true⟩, qQO),
 (nQP, ⟨false, false, true⟩, qQP),
 (nQQ, ⟨false, false, true⟩, qQQ),
 (nQR, ⟨true, false, false⟩, qQR),
 (nQS, ⟨true, false, false⟩, qQS),
 (nQT, ⟨false, false, true⟩, qQT),
 (nQU, ⟨false, false, true⟩, qQU),
 (nQV, ⟨false, false, false⟩, qQV),
 (nQW, ⟨false, false, true⟩, qQW),
 (nQX, ⟨false, false, true⟩, qQX),
 (nQY, ⟨false, false, true⟩, qQY),
 (nQZ, ⟨false, true, true⟩, qQZ),
 (nQ0, ⟨false, false, true⟩, qQ0),
 (nQ1, ⟨false, false, false⟩, qQ1)]
def cfg : Cfg := ⟨look fns, fun _ => [], fun _ => none, fun _ => none, fun _ => none, fun _ => false, fun _ => false⟩
theorem kLaw37PartitionGhosts : chkFB Go.Proofs.Try.prog Go.Proofs.Try.f3 qQa = true := by kernel_rfl
theorem kLaw37PartitionSums : chkFB Go.Proofs.Try.prog Go.Proofs.Try.f4 qQb = true := by kernel_rfl
theorem kMakeFew : chkFB Go.Proofs.Try.prog Go.Proofs.Try.f5 qQc = true := by kernel_rfl
theorem kLaw37Awake : chkFB Go.Proofs.Try.prog Go.Proofs.Try.f6 qQd = true := by kernel_rfl
theorem kMakeNew : chkFB Go.Proofs.Try.prog Go.Proofs.Try.f7 qQe = true := by kernel_rfl
theorem kMakeGraph : chkFB Go.Proofs.Try.prog Go.Proofs.Try.f8 qQf = true := by kernel_rfl
theorem kFieldPlan : chkFB Go.Proofs.Try.prog Go.Proofs.Try.f9 qQg = true := by kernel_rfl
theorem kPartitionLocal : chkFB Go.Proofs.Try.prog Go.Proofs.Try.f10 qQh = true := by kernel_rfl
theorem kPartitionGhosts : chkFB Go.Proofs.Try.prog Go.Proofs.Try.f11 qQi = true := by kernel_rfl
theorem kRef02Cmp : chkFB Go.Proofs.Try.prog Go.Proofs.Try.f12 qQj = true := by kernel_rfl
theorem kRef02Of : chkFB Go.Proofs.Try.prog Go.Proofs.Try.f13 qQk = true := by kernel_rfl
theorem kPartitionLoads : chkFB Go.Proofs.Try.prog Go.Proofs.Try.f14 qQl = true := by kernel_rfl
theorem kPartitionMake : chkFB Go.Proofs.Try.prog Go.Proofs.Try.f15 qQm = true := by kernel_rfl
theorem kMakeDeckNext : chkFB Go.Proofs.Try.prog Go.Proofs.Try.f16 qQn = true := by kernel_rfl
theorem kRef03Same : chkFB Go.Proofs.Try.prog Go.Proofs.Try.f17 qQo = true := by kernel_rfl
theorem kPartitionHome : chkFB Go.Proofs.Try.prog Go.Proofs.Try.f18 qQp = true := by kernel_rfl
theorem kFieldNumbers : chkFB Go.Proofs.Try.prog Go.Proofs.Try.f19 qQq = true := by kernel_rfl
theorem kMakeSet : chkFB Go.Proofs.Try.prog Go.Proofs.Try.f20 qQr = true := by kernel_rfl
theorem kPartitionCheck : chkFB Go.Proofs.Try.prog Go.Proofs.Try.f21 qQs = true := by kernel_rfl
theorem kPartitionHomeN22 : chkFB Go.Proofs.Try.prog Go.Proofs.Try.f22 qQt = true := by kernel_rfl
theorem kNodesetOf : chkFB Go.Proofs.Try.prog Go.Proofs.Try.f23 qQu = true := by kernel_rfl
theorem kSlicesDeleteFuncIntInt : chkFB Go.Proofs.Try.prog Go.Proofs.Try.f24 qQv = true := by kernel_rfl
theorem kPartitionGhosts1 : chkFB Go.Proofs.Try.prog Go.Proofs.Try.f25 qQw = true := by kernel_rfl
theorem kRef02Put : chkFB Go.Proofs.Try.prog Go.Proofs.Try.f26 qQx = true := by kernel_rfl
theorem kDegreeDegrees : chkFB Go.Proofs.Try.prog Go.Proofs.Try.f27 qQy = true := by kernel_rfl
theorem kPartitionWorkers : chkFB Go.Proofs.Try.prog Go.Proofs.Try.f28 qQz = true := by kernel_rfl
theorem kSlicesSortFuncPartitionPartPartitionPart : chkFB Go.Proofs.Try.prog Go.Proofs.Try.f29 qQA = true := by kernel_rfl
theorem kPartitionMake1 : chkFB Go.Proofs.Try.prog Go.Proofs.Try.f30 qQB = true := by kernel_rfl
theorem kCmpOrInt : chkFB Go.Proofs.Try.prog Go.Proofs.Try.f31 qQC = true := by kernel_rfl
theorem kCmpCompareInt : chkFB Go.Proofs.Try.prog Go.Proofs.Try.f32 qQD = true := by kernel_rfl
theorem kSlicesMinFuncPartitionPartPartitionPart : chkFB Go.Proofs.Try.prog Go.Proofs.Try.f33 qQE = true := by kernel_rfl
theorem kPartitionMake2 : chkFB Go.Proofs.Try.prog Go.Proofs.Try.f34 qQF = true := by kernel_rfl
theorem kMakeMod : chkFB Go.Proofs.Try.prog Go.Proofs.Try.f35 qQG = true := by kernel_rfl
theorem kRef03SameEdges : chkFB Go.Proofs.Try.prog Go.Proofs.Try.f36 qQH = true := by kernel_rfl
theorem kPartitionCheckN37 : chkFB Go.Proofs.Try.prog Go.Proofs.Try.f37 qQI = true := by kernel_rfl
theorem kGraphCheck : chkFB Go.Proofs.Try.prog Go.Proofs.Try.f38 qQJ = true := by kernel_rfl
theorem kNodesetHas : chkFB Go.Proofs.Try.prog Go.Proofs.Try.f39 qQK = true := by kernel_rfl
theorem kNodesetUnion : chkFB Go.Proofs.Try.prog Go.Proofs.Try.f40 qQL = true := by kernel_rfl
theorem kSlicesIndexFuncIntInt : chkFB Go.Proofs.Try.prog Go.Proofs.Try.f41 qQM = true := by kernel_rfl
theorem kMasksRows : chkFB Go.Proofs.Try.prog Go.Proofs.Try.f42 qQN = true := by kernel_rfl
theorem kMasksCount : chkFB Go.Proofs.Try.prog Go.Proofs.Try.f43 qQO = true := by kernel_rfl
theorem kCmpIsNaNInt : chkFB Go.Proofs.Try.prog Go.Proofs.Try.f46 qQP = true := by kernel_rfl
theorem kNodesetValid : chkFB Go.Proofs.Try.prog Go.Proofs.Try.f47 qQQ = true := by kernel_rfl
theorem kSlicesContainsFuncIntInt : chkFB Go.Proofs.Try.prog Go.Proofs.Try.f48 qQR = true := by kernel_rfl
theorem kPartitionCheck1 : chkFB Go.Proofs.Try.prog Go.Proofs.Try.f49 qQS = true := by kernel_rfl
theorem kGraphOrder : chkFB Go.Proofs.Try.prog Go.Proofs.Try.f50 qQT = true := by kernel_rfl
theorem kSlicesContainsIntInt : chkFB Go.Proofs.Try.prog Go.Proofs.Try.f51 qQU = true := by kernel_rfl
theorem kNodesetMergedInt : chkFB Go.Proofs.Try.prog Go.Proofs.Try.f52 qQV = true := by kernel_rfl
theorem kNodesetUnion1 : chkFB Go.Proofs.Try.prog Go.Proofs.Try.f53 qQW = true := by kernel_rfl
theorem kMathBitsOnesCount64 : chkFB Go.Proofs.Try.prog Go.Proofs.Try.f54 qQX = true := by kernel_rfl
theorem kSlicesIndexIntInt : chkFB Go.Proofs.Try.prog Go.Proofs.Try.f65 qQY = true := by kernel_rfl
theorem kSlicesCloneIntInt : chkFB Go.Proofs.Try.prog Go.Proofs.Try.f66 qQZ = true := by kernel_rfl
theorem kSlicesSortIntInt : chkFB Go.Proofs.Try.prog Go.Proofs.Try.f67 qQ0 = true := by kernel_rfl
theorem kSlicesCompactIntInt : chkFB Go.Proofs.Try.prog Go.Proofs.Try.f68 qQ1 = true := by kernel_rfl
theorem look_mem : ∀ {l : List (Nat × Md × AFn)} {f : Nat} {m : Md} {q : AFn}, look l f = some (m, q) -> (f, m, q) ∈ l
 | [], f, m, q, h => by simp [look] at h
 | (j, m', q') :: r, f, m, q, h => by
   unfold look at h
   split at h
   ·rename_i he; subst he; simp at h; obtain ⟨rfl, rfl⟩ := h; simp
   ·exact List.mem_cons_of_mem _ (look_mem h)
def Good (p : Nat × Md × AFn) : Prop := ∃ fn, Go.Proofs.Try.prog.funcs[p.1]? = some fn /\ chkFB Go.Proofs.Try.prog fn p.2.2 = true
def All (G : Nat × Md × AFn -> Prop) : List (Nat × Md × AFn) -> Prop
 | [] => True
 | p :: r => G p /\ All G r
theorem All.get {G : Nat × Md × AFn -> Prop} : ∀ {l : List (Nat × Md × AFn)}, All G l -> ∀ p ∈ l, G p
 | [], _, p, h => by simp at h
 | q :: r, h, p, hp => by
   rcases List.mem_cons.1 hp with e | e
   ·subst e; exact h.1
   ·exact All.get h.2 p e
theorem allGood : All Good fns := ⟨⟨_, Go.Proofs.Try.func3, kLaw37PartitionGhosts⟩, ⟨_, Go.Proofs.Try.func4, kLaw37PartitionSums⟩, ⟨_, Go.Proofs.Try.func5, kMakeFew⟩, ⟨_, Go.Proofs.Try.func6, kLaw37Awake⟩, ⟨_, Go.Proofs.Try.func7, kMakeNew⟩, ⟨_, Go.Proofs.Try.func8, kMakeGraph⟩, ⟨_, Go.Proofs.Try.func9, kFieldPlan⟩, ⟨_, Go.Proofs.Try.func10, kPartitionLocal⟩, ⟨_, Go.Proofs.Try.func11, kPartitionGhosts⟩, ⟨_, Go.Proofs.Try.func12, kRef02Cmp⟩, ⟨_, Go.Proofs.Try.func13, kRef02Of⟩, ⟨_, Go.Proofs.Try.func14, kPartitionLoads⟩, ⟨_, Go.Proofs.Try.func15, kPartitionMake⟩, ⟨_, Go.Proofs.Try.func16, kMakeDeckNext⟩, ⟨_, Go.Proofs.Try.func17, kRef03Same⟩, ⟨_, Go.Proofs.Try.func18, kPartitionHome⟩, ⟨_, Go.Proofs.Try.func19, kFieldNumbers⟩, ⟨_, Go.Proofs.Try.func20, kMakeSet⟩, ⟨_, Go.Proofs.Try.func21, kPartitionCheck⟩, ⟨_, Go.Proofs.Try.func22, kPartitionHomeN22⟩, ⟨_, Go.Proofs.Try.func23, kNodesetOf⟩, ⟨_, Go.Proofs.Try.func24, kSlicesDeleteFuncIntInt⟩, ⟨_, Go.Proofs.Try.func25, kPartitionGhosts1⟩, ⟨_, Go.Proofs.Try.func26, kRef02Put⟩, ⟨_, Go.Proofs.Try.func27, kDegreeDegrees⟩, ⟨_, Go.Proofs.Try.func28, kPartitionWorkers⟩, ⟨_, Go.Proofs.Try.func29, kSlicesSortFuncPartitionPartPartitionPart⟩, ⟨_, Go.Proofs.Try.func30, kPartitionMake1⟩, ⟨_, Go.Proofs.Try.func31, kCmpOrInt⟩, ⟨_, Go.Proofs.Try.func32, kCmpCompareInt⟩, ⟨_, Go.Proofs.Try.func33, kSlicesMinFuncPartitionPartPartitionPart⟩, ⟨_, Go.Proofs.Try.func34, kPartitionMake2⟩, ⟨_, Go.Proofs.Try.func35, kMakeMod⟩, ⟨_, Go.Proofs.Try.func36, kRef03SameEdges⟩, ⟨_, Go.Proofs.Try.func37, kPartitionCheckN37⟩, ⟨_, Go.Proofs.Try.func38, kGraphCheck⟩, ⟨_, Go.Proofs.Try.func39, kNodesetHas⟩, ⟨_, Go.Proofs.Try.func40, kNodesetUnion⟩, ⟨_, Go.Proofs.Try.func41, kSlicesIndexFuncIntInt⟩, ⟨_, Go.Proofs.Try.func42, kMasksRows⟩, ⟨_, Go.Proofs.Try.func43, kMasksCount⟩, ⟨_, Go.Proofs.Try.func46, kCmpIsNaNInt⟩, ⟨_, Go.Proofs.Try.func47, kNodesetValid⟩, ⟨_, Go.Proofs.Try.func48, kSlicesContainsFuncIntInt⟩, ⟨_, Go.Proofs.Try.func49, kPartitionCheck1⟩, ⟨_, Go.Proofs.Try.func50, kGraphOrder⟩, ⟨_, Go.Proofs.Try.func51, kSlicesContainsIntInt⟩, ⟨_, Go.Proofs.Try.func52, kNodesetMergedInt⟩, ⟨_, Go.Proofs.Try.func53, kNodesetUnion1⟩, ⟨_, Go.Proofs.Try.func54, kMathBitsOnesCount64⟩, ⟨_, Go.Proofs.Try.func65, kSlicesIndexIntInt⟩, ⟨_, Go.Proofs.Try.func66, kSlicesCloneIntInt⟩, ⟨_, Go.Proofs.Try.func67, kSlicesSortIntInt⟩, ⟨_, Go.Proofs.Try.func68, kSlicesCompactIntInt⟩, trivial⟩
theorem cfgOK : CfgOKB Go.Proofs.Try.prog cfg := ⟨by kernel_rfl, fun f m q h => allGood.get _ (look_mem h)⟩
theorem gQb : cfg.fn nQb = some (⟨false, false, true⟩, qQb) := rfl
theorem gQc : cfg.fn nQc = some (⟨false, false, true⟩, qQc) := rfl
theorem gQd : cfg.fn nQd = some (⟨false, false, true⟩, qQd) := rfl
theorem gQe : cfg.fn nQe = some (⟨true, false, false⟩, qQe) := rfl
theorem gQf : cfg.fn nQf = some (⟨true, false, false⟩, qQf) := rfl
theorem gQg : cfg.fn nQg = some (⟨true, false, false⟩, qQg) := rfl
theorem gQh : cfg.fn nQh = some (⟨false, false, false⟩, qQh) := rfl
theorem gQi : cfg.fn nQi = some (⟨false, false, false⟩, qQi) := rfl
theorem gQj : cfg.fn nQj = some (⟨false, false, true⟩, qQj) := rfl
theorem gQl : cfg.fn nQl = some (⟨false, false, false⟩, qQl) := rfl
theorem gQm : cfg.fn nQm = some (⟨false, false, false⟩, qQm) := rfl
theorem gQn : cfg.fn nQn = some (⟨true, false, false⟩, qQn) := rfl
theorem gQo : cfg.fn nQo = some (⟨false, false, true⟩, qQo) := rfl
theorem gQq : cfg.fn nQq = some (⟨true, false, false⟩, qQq) := rfl
theorem gQr : cfg.fn nQr = some (⟨true, false, false⟩, qQr) := rfl
theorem gQs : cfg.fn nQs = some (⟨false, false, true⟩, qQs) := rfl
theorem gQt : cfg.fn nQt = some (⟨false, false, true⟩, qQt) := rfl
theorem gQu : cfg.fn nQu = some (⟨false, false, false⟩, qQu) := rfl
theorem gQv : cfg.fn nQv = some (⟨false, false, false⟩, qQv) := rfl
theorem gQy : cfg.fn nQy = some (⟨false, false, false⟩, qQy) := rfl
theorem gQz : cfg.fn nQz = some (⟨false, false, true⟩, qQz) := rfl
theorem gQA : cfg.fn nQA = some (⟨false, false, true⟩, qQA) := rfl
theorem gQB : cfg.fn nQB = some (⟨false, false, true⟩, qQB) := rfl
theorem gQC : cfg.fn nQC = some (⟨false, false, true⟩, qQC) := rfl
theorem gQD : cfg.fn nQD = some (⟨false, false, true⟩, qQD) := rfl
theorem gQE : cfg.fn nQE = some (⟨false, false, true⟩, qQE) := rfl
theorem gQF : cfg.fn nQF = some (⟨false, false, true⟩, qQF) := rfl
theorem gQG : cfg.fn nQG = some (⟨false, false, true⟩, qQG) := rfl
theorem gQH : cfg.fn nQH = some (⟨false, false, true⟩, qQH) := rfl
theorem gQI : cfg.fn nQI = some (⟨true, false, false⟩, qQI) := rfl
theorem gQJ : cfg.fn nQJ = some (⟨false, false, true⟩, qQJ) := rfl
theorem gQK : cfg.fn nQK = some (⟨false, false, true⟩, qQK) := rfl
theorem gQL : cfg.fn nQL = some (⟨false, false, false⟩, qQL) := rfl
theorem gQM : cfg.fn nQM = some (⟨true, false, false⟩, qQM) := rfl
theorem gQN : cfg.fn nQN = some (⟨false, false, false⟩, qQN) := rfl
theorem gQO : cfg.fn nQO = some (⟨false, false, true⟩, qQO) := rfl
theorem gQP : cfg.fn nQP = some (⟨false, false, true⟩, qQP) := rfl
theorem gQQ : cfg.fn nQQ = some (⟨false, false, true⟩, qQQ) := rfl
theorem gQR : cfg.fn nQR = some (⟨true, false, false⟩, qQR) := rfl
theorem gQS : cfg.fn nQS = some (⟨true, false, false⟩, qQS) := rfl
theorem gQT : cfg.fn nQT = some (⟨false, false, true⟩, qQT) := rfl
theorem gQU : cfg.fn nQU = some (⟨false, false, true⟩, qQU) := rfl
theorem gQV : cfg.fn nQV = some (⟨false, false, false⟩, qQV) := rfl
theorem gQW : cfg.fn nQW = some (⟨false, false, true⟩, qQW) := rfl
theorem gQX : cfg.fn nQX = some (⟨false, false, true⟩, qQX) := rfl
theorem gQY : cfg.fn nQY = some (⟨false, false, true⟩, qQY) := rfl
theorem gQZ : cfg.fn nQZ = some (⟨false, true, true⟩, qQZ) := rfl
theorem gQ0 : cfg.fn nQ0 = some (⟨false, false, true⟩, qQ0) := rfl
theorem gQ1 : cfg.fn nQ1 = some (⟨false, false, false⟩, qQ1) := rfl
end Go.BmP
