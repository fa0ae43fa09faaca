/- The compact code of the functions, printed by program off the translation. -/
import Derived.Test.YtoobjomjclombaaDoorChecked
import Derived.Test.YtoobjomjclombaaDoorBmA
import Derived.KernelRfl
set_option maxRecDepth 100000
namespace Go.BmP
open Go.Am Go.Bm
abbrev oo (d : Nat) (x : Kd) : O := ⟨some d,none,x⟩
abbrev oz (x : Kd) : O := ⟨none,none,x⟩
abbrev ki (n : Nat) : E := .k (.int .i64 n)
def nQa : Nat := 5
def nQb : Nat := 6
def nQc : Nat := 7
def nQd : Nat := 8
def nQe : Nat := 9
def nQf : Nat := 10
def nQg : Nat := 13
def nQh : Nat := 16
def nQi : Nat := 17
def nQj : Nat := 19
def nQk : Nat := 20
def nQl : Nat := 23
def nQm : Nat := 24
def nQn : Nat := 25
def nQo : Nat := 26
def nQp : Nat := 27
def nQq : Nat := 28
def nQr : Nat := 29
def nQs : Nat := 30
def nQt : Nat := 31
def nQu : Nat := 41
def nQv : Nat := 42
def nQw : Nat := 43
def nQx : Nat := 44
def nQy : Nat := 49
def nQz : Nat := 50
def nQA : Nat := 51
def nQB : Nat := 52
def nQC : Nat := 53
def nQD : Nat := 54
def nQE : Nat := 55
def nQF : Nat := 57
def nQG : Nat := 63
def nQH : Nat := 66
def nQI : Nat := 67
def nQJ : Nat := 68
def nQK : Nat := 69
def nQL : Nat := 70
def nQM : Nat := 71
def nQN : Nat := 72
def nQO : Nat := 74
def nQP : Nat := 75
def nQQ : Nat := 85
def nQR : Nat := 86
def nQS : Nat := 87
/- cohesion/cohesionlaw26.MaxcliqueAll -/
def rQaX0 : List O := [
 oo 4 <| .mv (.k (.bool false))]
def rQaX1 : List O := [
 oo 19 <| .mv (.t 0),
 oo 20 <| .call nQb [(.t 19)],
 oo 21 <| .un .not (.t 20)]
def rQaX2 : List O := [
 oo 22 <| .call nQc [],
 oo 4 <| .mv (.t 22)]
def rQaX3 : List O := [
 oo 23 <| .mv (.t 0),
 oo 24 <| .call nQd [(.t 23)],
 oo 5 <| .mv (.t 24)]
def rQaX4 : List O := [
 oo 25 <| .mv (.t 5),
 oo 26 <| .call nQh [(.t 25),(ki 8)],
 oo 6 <| .new [(.int .i64 0),(.own 2 [])],
 oz <| .st 2 (.t 6) (.t 26)]
def rQaX5 : List O := [
 oo 28 <| .ld (some 2) (.t 6),
 oo 29 <| .call nQl [(.t 28),(ki 4096)],
 oo 27 <| .mv (.t 29),
 oo 30 <| .ext 0 (.t 27),
 oo 31 <| .ext 1 (.t 27),
 oo 7 <| .mv (.t 30),
 oo 8 <| .mv (.t 31)]
def rQaX6 : List O := [
 oo 33 <| .ld (some 2) (.t 6),
 oo 34 <| .call nQk [(.t 33)],
 oo 32 <| .mv (.t 34),
 oo 35 <| .ext 0 (.t 32),
 oo 36 <| .ext 1 (.t 32),
 oo 9 <| .mv (.t 35),
 oo 10 <| .mv (.t 36)]
def rQaX7 : List O := [
 oo 37 <| .mv (.t 5),
 oo 38 <| .fad 0 (.t 6),
 oo 39 <| .ld none (.t 38),
 oo 40 <| .call nQf [(.t 37),(.t 39)],
 oo 11 <| .mv (.t 40)]
def rQaX8 : List O := [
 oo 41 <| .mv (.t 1),
 oo 42 <| .bin .rem (.t 41) (.k (.int .u8 6)),
 oo 43 <| .cvt .i64 (.t 42),
 oo 12 <| .mv (.t 43)]
def rQaX9 : List O := [
 oo 45 <| .ld (some 2) (.t 6),
 oo 46 <| .mv (.t 11),
 oo 47 <| .mv (.t 12),
 oo 48 <| .call nQm [(.t 45),(.t 46),(.t 47)],
 oo 44 <| .mv (.t 48),
 oo 49 <| .ext 0 (.t 44),
 oo 50 <| .ext 1 (.t 44),
 oo 13 <| .mv (.t 49),
 oo 14 <| .mv (.t 50)]
def rQaX10 : List O := [
 oo 15 <| .mv (.k (.bool true)),
 oo 16 <| .mv (.k (.bool false))]
def rQaX11 : List O := [
 oo 51 <| .mv (.t 7),
 oo 52 <| .len (.t 51),
 oo 53 <| .mv (ki 0)]
def rQaX12 : List O := [
 oo 54 <| .bin .lss (.t 53) (.t 52)]
def rQaX13 : List O := [
 oo 55 <| .ixa 1 (.t 51) (.t 53),
 oo 56 <| .ld none (.t 55),
 oo 18 <| .mv (.t 56)]
def rQaX14 : List O := [
 oo 57 <| .mv (.t 18),
 oo 58 <| .len (.t 57),
 oo 59 <| .mv (.t 9),
 oo 60 <| .len (.t 59),
 oo 61 <| .bin .gtr (.t 58) (.t 60),
 oo 62 <| .mv (.t 61),
 ⟨(some 63),(some (62,false)),.mv (.t 18)⟩,
 ⟨(some 64),(some (62,false)),.len (.t 63)⟩,
 ⟨(some 65),(some (62,false)),.mv (.t 9)⟩,
 ⟨(some 66),(some (62,false)),.len (.t 65)⟩,
 ⟨(some 67),(some (62,false)),.bin .eql (.t 64) (.t 66)⟩,
 ⟨(some 68),(some (62,false)),.mv (.t 67)⟩,
 ⟨(some 69),(some (68,true)),.mv (.t 18)⟩,
 ⟨(some 70),(some (68,true)),.mv (.t 9)⟩,
 ⟨(some 71),(some (68,true)),.call nQn [(.t 69),(.t 70)]⟩,
 ⟨(some 72),(some (68,true)),.bin .lss (.t 71) (ki 0)⟩,
 ⟨(some 73),(some (62,false)),.pick (.t 68) (.t 72) (.k (.bool false))⟩,
 oo 74 <| .pick (.t 62) (.k (.bool true)) (.t 73)]
def rQaX15 : List O := [
 oo 15 <| .mv (.k (.bool false))]
def rQaX16 : List O := [
 oo 75 <| .mv (.t 16),
 oo 76 <| .mv (.t 75),
 ⟨(some 77),(some (76,false)),.mv (.t 11)⟩,
 ⟨(some 78),(some (76,false)),.mv (.t 18)⟩,
 ⟨(some 79),(some (76,false)),.call nQo [(.t 77),(.t 78)]⟩,
 ⟨(some 80),(some (76,false)),.mv (.t 79)⟩,
 ⟨(some 81),(some (80,true)),.mv (.t 18)⟩,
 ⟨(some 82),(some (80,true)),.len (.t 81)⟩,
 ⟨(some 83),(some (80,true)),.mv (.t 12)⟩,
 ⟨(some 84),(some (80,true)),.bin .geq (.t 82) (.t 83)⟩,
 ⟨(some 85),(some (76,false)),.pick (.t 80) (.t 84) (.k (.bool false))⟩,
 oo 86 <| .pick (.t 76) (.k (.bool true)) (.t 85),
 oo 16 <| .mv (.t 86)]
def rQaX17 : List O := [
 oo 87 <| .bin .add (.t 53) (ki 1),
 oo 53 <| .mv (.t 87)]
def lQaX0 : C := (.seq (.reg rQaX12 false [] [6,9,10,11,12,13,14,15,16,51,52,53,54]) (.seq (.cond (.t 54) .skip (.exit 0)) (.seq (.blk 1 (.seq (.reg rQaX13 false [] [6,9,10,11,12,13,14,15,16,18,51,52,53]) (.seq (.seq (.reg rQaX14 false [] [6,9,10,11,12,13,14,15,16,18,51,52,53,74]) (.cond (.t 74) (.reg rQaX15 false [] [6,9,10,11,12,13,14,15,16,18,51,52,53]) .skip)) (.reg rQaX16 false [] [6,9,10,11,12,13,14,15,16,51,52,53])))) (.reg rQaX17 false [] [6,9,10,11,12,13,14,15,16,51,52,53]))))
def rQaX18 : List O := [
 oo 88 <| .ld (some 2) (.t 6),
 oo 89 <| .mv (.t 11),
 oo 90 <| .call nQp [(.t 88),(.t 89)],
 oo 91 <| .un .not (.t 90)]
def rQaX19 : List O := [
 oo 92 <| .mv (.t 10),
 oo 93 <| .bin .eql (.t 92) (ki 0),
 oo 94 <| .mv (.t 93),
 ⟨(some 95),(some (94,true)),.mv (.t 15)⟩,
 oo 96 <| .pick (.t 94) (.t 95) (.k (.bool false)),
 oo 97 <| .mv (.t 96),
 ⟨(some 98),(some (97,true)),.mv (.t 14)⟩,
 ⟨(some 99),(some (97,true)),.bin .eql (.t 98) (ki 4)⟩,
 oo 100 <| .pick (.t 97) (.t 99) (.k (.bool false)),
 oo 101 <| .mv (.t 100),
 ⟨(some 102),(some (101,true)),.call nQc []⟩,
 oo 103 <| .pick (.t 101) (.t 102) (.k (.bool false)),
 oo 4 <| .mv (.t 103)]
def rQaX20 : List O := [
 oo 104 <| .mv (.t 10),
 oo 105 <| .bin .eql (.t 104) (ki 0),
 oo 106 <| .mv (.t 105),
 ⟨(some 107),(some (106,true)),.mv (.t 15)⟩,
 oo 108 <| .pick (.t 106) (.t 107) (.k (.bool false)),
 oo 109 <| .mv (.t 108),
 ⟨(some 110),(some (109,true)),.mv (.t 14)⟩,
 ⟨(some 111),(some (109,true)),.bin .eql (.t 110) (ki 0)⟩,
 oo 112 <| .pick (.t 109) (.t 111) (.k (.bool false)),
 oo 113 <| .mv (.t 112),
 ⟨(some 114),(some (113,true)),.mv (.t 13)⟩,
 ⟨(some 115),(some (113,true)),.mv (.t 16)⟩,
 ⟨(some 116),(some (113,true)),.mv (.t 115)⟩,
 ⟨(some 117),(some (116,false)),.mv (.t 11)⟩,
 ⟨(some 118),(some (116,false)),.len (.t 117)⟩,
 ⟨(some 119),(some (116,false)),.mv (.t 12)⟩,
 ⟨(some 120),(some (116,false)),.bin .geq (.t 118) (.t 119)⟩,
 ⟨(some 121),(some (113,true)),.pick (.t 116) (.k (.bool true)) (.t 120)⟩,
 ⟨(some 122),(some (113,true)),.eq false .bool (.t 114) (.t 121)⟩,
 oo 123 <| .pick (.t 113) (.t 122) (.k (.bool false)),
 oo 124 <| .mv (.t 123),
 ⟨(some 125),(some (124,true)),.call nQc []⟩,
 oo 126 <| .pick (.t 124) (.t 125) (.k (.bool false)),
 oo 4 <| .mv (.t 126)]
def cQa : C := (.seq (.reg rQaX0 false [] [0,1]) (.seq (.seq (.reg rQaX1 false [] [0,1,21]) (.cond (.t 21) (.seq (.reg rQaX2 false [] [4]) .ret) .skip)) (.seq (.reg rQaX3 false [] [1,5]) (.seq (.reg rQaX4 false [] [1,5,6]) (.seq (.reg rQaX5 false [] [1,5,6,7]) (.seq (.reg rQaX6 false [] [1,5,6,7,9,10]) (.seq (.reg rQaX7 false [] [1,6,7,9,10,11]) (.seq (.reg rQaX8 false [] [6,7,9,10,11,12]) (.seq (.reg rQaX9 false [] [6,7,9,10,11,12,13,14]) (.seq (.reg rQaX10 false [] [6,7,9,10,11,12,13,14,15,16]) (.seq (.seq (.reg rQaX11 false [] [6,9,10,11,12,13,14,15,16,51,52,53]) (.blk 0 (.loop lQaX0))) (.seq (.seq (.reg rQaX18 false [] [10,11,12,13,14,15,16,91]) (.cond (.t 91) (.seq (.reg rQaX19 false [] [4]) .ret) .skip)) (.seq (.reg rQaX20 false [] [4]) .ret)))))))))))))
def qQa : AFn := ⟨127,2,[.t 4],cQa⟩
/- cohesion/cohesionmake.Few -/
def rQbX0 : List O := [
 oo 2 <| .mv (.k (.bool false))]
def rQbX1 : List O := [
 oo 3 <| .mv (.t 0),
 oo 4 <| .len (.t 3),
 oo 5 <| .bin .leq (.t 4) (ki 500),
 oo 2 <| .mv (.t 5)]
def cQb : C := (.seq (.reg rQbX0 false [] [0]) (.seq (.reg rQbX1 false [] [2]) .ret))
def qQb : AFn := ⟨6,1,[.t 2],cQb⟩
/- cohesion/cohesionlaw26.awake -/
def rQcX0 : List O := [
 oo 0 <| .mv (.k (.bool false))]
def rQcX1 : List O := [
 oo 10 <| .build [(.int .i64 0),(.int .i64 0)] [(0,1,(ki 0)),(1,1,(ki 1))],
 oo 11 <| .build [(.int .i64 0),(.int .i64 0)] [(0,1,(ki 1)),(1,1,(ki 2))],
 oo 12 <| .build [(.int .i64 0),(.int .i64 0)] [(0,1,(ki 2)),(1,1,(ki 3))],
 oo 13 <| .build [(.int .i64 0),(.int .i64 0)] [(0,1,(ki 3)),(1,1,(ki 4))],
 oo 14 <| .build [(.int .i64 0),(.int .i64 0)] [(0,1,(ki 4)),(1,1,(ki 0))],
 oo 15 <| .bslice 2 5 [(.int .i64 0),(.int .i64 0)] [(0,2,(.t 10)),(2,2,(.t 11)),(4,2,(.t 12)),(6,2,(.t 13)),(8,2,(.t 14))],
 oo 16 <| .call nQq [(ki 5),(.t 15)],
 oo 9 <| .mv (.t 16),
 oo 17 <| .ext 0 (.t 9),
 oo 18 <| .ext 1 (.t 9),
 oo 1 <| .new [(.int .i64 0),(.own 2 [])],
 oz <| .st 2 (.t 1) (.t 17),
 oo 2 <| .mv (.t 18)]
def rQcX2 : List O := [
 oo 20 <| .ld (some 2) (.t 1),
 oo 21 <| .call nQk [(.t 20)],
 oo 19 <| .mv (.t 21),
 oo 22 <| .ext 0 (.t 19),
 oo 23 <| .ext 1 (.t 19),
 oo 3 <| .mv (.t 22),
 oo 4 <| .mv (.t 23)]
def rQcX3 : List O := [
 oo 25 <| .ld (some 2) (.t 1),
 oo 26 <| .call nQr [(.t 25)],
 oo 24 <| .mv (.t 26),
 oo 27 <| .ext 0 (.t 24),
 oo 28 <| .ext 1 (.t 24),
 oo 5 <| .mv (.t 27),
 oo 6 <| .mv (.t 28)]
def rQcX4 : List O := [
 oo 30 <| .ld (some 2) (.t 1),
 oo 31 <| .call nQi [(.t 30)],
 oo 29 <| .mv (.t 31),
 oo 32 <| .ext 0 (.t 29),
 oo 33 <| .ext 1 (.t 29),
 oo 7 <| .mv (.t 32),
 oo 8 <| .mv (.t 33)]
def rQcX5 : List O := [
 oo 34 <| .mv (.t 4),
 oo 35 <| .bin .eql (.t 34) (ki 0),
 oo 36 <| .mv (.t 35),
 ⟨(some 37),(some (36,true)),.mv (.t 3)⟩,
 ⟨(some 38),(some (36,true)),.bslice 1 2 [(.int .i64 0)] [(0,1,(ki 0)),(1,1,(ki 1))]⟩,
 ⟨(some 39),(some (36,true)),.call nQn [(.t 37),(.t 38)]⟩,
 ⟨(some 40),(some (36,true)),.bin .eql (.t 39) (ki 0)⟩,
 oo 41 <| .pick (.t 36) (.t 40) (.k (.bool false)),
 oo 42 <| .mv (.t 41),
 ⟨(some 43),(some (42,true)),.mv (.t 6)⟩,
 ⟨(some 44),(some (42,true)),.bin .eql (.t 43) (ki 0)⟩,
 oo 45 <| .pick (.t 42) (.t 44) (.k (.bool false)),
 oo 46 <| .mv (.t 45),
 ⟨(some 47),(some (46,true)),.mv (.t 5)⟩,
 ⟨(some 48),(some (46,true)),.bin .eql (.t 47) (ki 3)⟩,
 oo 49 <| .pick (.t 46) (.t 48) (.k (.bool false)),
 oo 50 <| .mv (.t 49),
 ⟨(some 51),(some (50,true)),.mv (.t 8)⟩,
 ⟨(some 52),(some (50,true)),.bin .eql (.t 51) (ki 0)⟩,
 oo 53 <| .pick (.t 50) (.t 52) (.k (.bool false)),
 oo 54 <| .mv (.t 53),
 ⟨(some 55),(some (54,true)),.ld (some 2) (.t 1)⟩,
 ⟨(some 56),(some (54,true)),.mv (.t 7)⟩,
 ⟨(some 57),(some (54,true)),.call nQj [(.t 55),(.t 56)]⟩,
 oo 58 <| .pick (.t 54) (.t 57) (.k (.bool false)),
 oo 0 <| .mv (.t 58)]
def cQc : C := (.seq (.reg rQcX0 false [] []) (.seq (.reg rQcX1 false [] [1]) (.seq (.reg rQcX2 false [] [1,3,4]) (.seq (.reg rQcX3 false [] [1,3,4,5,6]) (.seq (.reg rQcX4 false [] [1,3,4,5,6,7,8]) (.seq (.reg rQcX5 false [] [0]) .ret))))))
def qQc : AFn := ⟨59,0,[.t 0],cQc⟩
/- cohesion/cohesionmake.New -/
def rQdX0 : List O := [
 oo 2 <| .mv (.k .nilp)]
def rQdX1 : List O := [
 oo 3 <| .mv (.t 0),
 oo 4 <| .build [(.own 1 []),(.int .i64 0)] [(0,1,(.t 3))],
 oo 5 <| .box (.t 4),
 oo 2 <| .mv (.t 5)]
def cQd : C := (.seq (.reg rQdX0 false [] [0]) (.seq (.reg rQdX1 false [] [2]) .ret))
def qQd : AFn := ⟨6,1,[.t 2],cQd⟩
/- (*cohesion/cohesionmake.Deck).Next -/
def rQeX0 : List O := [
 oo 4 <| .mv (ki 0)]
def rQeX1 : List O := [
 oo 6 <| .mv (.t 1),
 oo 7 <| .bin .lss (.t 6) (ki 1),
 oo 8 <| .mv (.t 7),
 ⟨(some 9),(some (8,false)),.mv (.t 0)⟩,
 ⟨(some 10),(some (8,false)),.nilck (.t 9)⟩,
 ⟨(some 11),(some (8,false)),.fad 1 (.t 10)⟩,
 ⟨(some 12),(some (8,false)),.ld none (.t 11)⟩,
 ⟨(some 13),(some (8,false)),.mv (.t 0)⟩,
 ⟨(some 14),(some (8,false)),.nilck (.t 13)⟩,
 ⟨(some 15),(some (8,false)),.fad 0 (.t 14)⟩,
 ⟨(some 16),(some (8,false)),.ld none (.t 15)⟩,
 ⟨(some 17),(some (8,false)),.len (.t 16)⟩,
 ⟨(some 18),(some (8,false)),.bin .geq (.t 12) (.t 17)⟩,
 oo 19 <| .pick (.t 8) (.k (.bool true)) (.t 18)]
def rQeX2 : List O := [
 oo 4 <| .mv (ki 0)]
def rQeX3 : List O := [
 oo 20 <| .mv (.t 0),
 oo 21 <| .nilck (.t 20),
 oo 22 <| .fad 0 (.t 21),
 oo 23 <| .ld none (.t 22),
 oo 24 <| .mv (.t 0),
 oo 25 <| .nilck (.t 24),
 oo 26 <| .fad 1 (.t 25),
 oo 27 <| .ld none (.t 26),
 oo 28 <| .ixa 1 (.t 23) (.t 27),
 oo 29 <| .ld none (.t 28),
 oo 5 <| .mv (.t 29)]
def rQeX4 : List O := [
 oo 30 <| .mv (.t 0),
 oo 31 <| .nilck (.t 30),
 oo 32 <| .fad 1 (.t 31),
 oo 33 <| .ld none (.t 32),
 oo 34 <| .bin .add (.t 33) (ki 1),
 oo 35 <| .nilck (.t 30),
 oo 36 <| .fad 1 (.t 35),
 oz <| .st 1 (.t 36) (.t 34)]
def rQeX5 : List O := [
 oo 37 <| .mv (.t 5),
 oo 38 <| .mv (.t 1),
 oo 39 <| .call nQs [(.t 37),(.t 38)],
 oo 4 <| .mv (.t 39)]
def cQe : C := (.seq (.reg rQeX0 false [] [0,1]) (.seq (.seq (.reg rQeX1 true [(0,0),(1,1),(2,2),(12,12),(13,13),(6,7),(6,8),(6,9),(3,10),(4,10),(5,10),(6,10),(6,11)] [0,1,19]) (.cond (.t 19) (.seq (.reg rQeX2 false [] [4]) .ret) .skip)) (.seq (.reg rQeX3 true [(8,8),(9,9),(10,10),(3,4),(3,5),(3,6),(0,7),(1,7),(2,7),(3,7)] [0,1,5]) (.seq (.reg rQeX4 false [] [1,5]) (.seq (.reg rQeX5 false [] [4]) .ret)))))
def qQe : AFn := ⟨40,2,[.t 4],cQe⟩
/- cohesion/cohesionmake.Set -/
def rQfX0 : List O := [
 oo 4 <| .mv (.k (.own 1 []))]
def rQfX1 : List O := [
 oo 5 <| .mv (.k (.own 1 []))]
def rQfX2 : List O := [
 oo 6 <| .mv (ki 0)]
def rQfX3 : List O := [
 oo 7 <| .mv (.t 6),
 oo 8 <| .mv (.t 1),
 oo 9 <| .bin .lss (.t 7) (.t 8)]
def rQfX4 : List O := [
 oo 12 <| .mv (.t 0),
 oo 13 <| .call nQe [(.t 12),(ki 2)],
 oo 14 <| .bin .eql (.t 13) (ki 1)]
def rQfX5 : List O := [
 oo 15 <| .mv (.t 5),
 oo 16 <| .mv (.t 6),
 oo 17 <| .bslice 1 1 [(.int .i64 0)] [(0,1,(.t 16))],
 oo 18 <| .app 1 (.t 15) (.t 17),
 oo 5 <| .mv (.t 18)]
def rQfX6 : List O := [
 oo 10 <| .mv (.t 6),
 oo 11 <| .bin .add (.t 10) (ki 1),
 oo 6 <| .mv (.t 11)]
def lQfX0 : C := (.seq (.seq (.reg rQfX3 false [] [0,1,5,6,9]) (.cond (.t 9) .skip (.exit 0))) (.seq (.blk 1 (.seq (.reg rQfX4 false [] [0,1,5,6,14]) (.cond (.t 14) (.reg rQfX5 false [] [0,1,5,6]) .skip))) (.reg rQfX6 false [] [0,1,5,6])))
def rQfX7 : List O := [
 oo 19 <| .mv (.t 5),
 oo 4 <| .mv (.t 19)]
def cQf : C := (.seq (.reg rQfX0 false [] [0,1]) (.seq (.reg rQfX1 false [] [0,1,5]) (.seq (.seq (.reg rQfX2 false [] [0,1,5,6]) (.blk 0 (.loop lQfX0))) (.seq (.reg rQfX7 false [] [4]) .ret))))
def qQf : AFn := ⟨20,2,[.t 4],cQf⟩
/- cohesion/cohesionref02.Has -/
def rQgX0 : List O := [
 oo 4 <| .mv (.k (.bool false))]
def rQgX1 : List O := [
 oo 7 <| .mv (.t 0),
 oo 8 <| .len (.t 7),
 oo 9 <| .mv (ki 0)]
def rQgX2 : List O := [
 oo 10 <| .bin .lss (.t 9) (.t 8)]
def rQgX3 : List O := [
 oo 11 <| .ixa 1 (.t 7) (.t 9),
 oo 12 <| .ld none (.t 11),
 oo 6 <| .mv (.t 12)]
def rQgX4 : List O := [
 oo 13 <| .mv (.t 6),
 oo 14 <| .mv (.t 1),
 oo 15 <| .bin .eql (.t 13) (.t 14)]
def rQgX5 : List O := [
 oo 4 <| .mv (.k (.bool true))]
def rQgX6 : List O := [
 oo 16 <| .bin .add (.t 9) (ki 1),
 oo 9 <| .mv (.t 16)]
def lQgX0 : C := (.seq (.reg rQgX2 false [] [1,7,8,9,10]) (.seq (.cond (.t 10) .skip (.exit 0)) (.seq (.blk 1 (.seq (.reg rQgX3 false [] [1,6,7,8,9]) (.seq (.reg rQgX4 false [] [1,7,8,9,15]) (.cond (.t 15) (.seq (.reg rQgX5 false [] [4]) .ret) .skip)))) (.reg rQgX6 false [] [1,7,8,9]))))
def rQgX7 : List O := [
 oo 4 <| .mv (.k (.bool false))]
def cQg : C := (.seq (.reg rQgX0 false [] [0,1]) (.seq (.seq (.reg rQgX1 false [] [1,7,8,9]) (.blk 0 (.loop lQgX0))) (.seq (.reg rQgX7 false [] [4]) .ret)))
def qQg : AFn := ⟨17,2,[.t 4],cQg⟩
/- cohesion/cohesionmake.Graph -/
def rQhX0 : List O := [
 oo 4 <| .new [(.int .i64 0),(.own 2 [])]]
def rQhX1 : List O := [
 oo 9 <| .mv (.t 0),
 oo 10 <| .mv (.t 1),
 oo 11 <| .bin .add (.t 10) (ki 1),
 oo 12 <| .call nQe [(.t 9),(.t 11)],
 oo 13 <| .build [(.int .i64 0),(.own 2 [])] [(0,1,(.t 12))],
 oo 5 <| .new [(.int .i64 0),(.own 2 [])],
 oz <| .st 2 (.t 5) (.t 13)]
def rQhX2 : List O := [
 oo 14 <| .fad 0 (.t 5),
 oo 15 <| .ld none (.t 14),
 oo 16 <| .bin .lss (.t 15) (ki 4)]
def rQhX3 : List O := [
 oo 17 <| .mv (.t 1),
 oo 18 <| .fad 0 (.t 5),
 oo 19 <| .ld none (.t 18),
 oo 20 <| .mv (.t 0),
 oo 21 <| .mv (.t 1),
 oo 22 <| .bin .add (.t 21) (ki 1),
 oo 23 <| .call nQe [(.t 20),(.t 22)],
 oo 24 <| .bin .add (.t 19) (.t 23),
 oo 25 <| .min [(.t 17),(.t 24)],
 oo 26 <| .fad 0 (.t 5),
 oz <| .st 1 (.t 26) (.t 25)]
def rQhX4 : List O := [
 oo 27 <| .mv (.t 0),
 oo 28 <| .call nQe [(.t 27),(ki 4)],
 oo 29 <| .bin .add (ki 1) (.t 28),
 oo 6 <| .mv (.t 29)]
def rQhX5 : List O := [
 oo 7 <| .mv (ki 0)]
def rQhX6 : List O := [
 oo 30 <| .mv (.t 7),
 oo 31 <| .fad 0 (.t 5),
 oo 32 <| .ld none (.t 31),
 oo 33 <| .bin .lss (.t 30) (.t 32)]
def rQhX7 : List O := [
 oo 36 <| .mv (.t 7),
 oo 37 <| .bin .add (.t 36) (ki 1),
 oo 8 <| .mv (.t 37)]
def rQhX8 : List O := [
 oo 38 <| .mv (.t 8),
 oo 39 <| .fad 0 (.t 5),
 oo 40 <| .ld none (.t 39),
 oo 41 <| .bin .lss (.t 38) (.t 40)]
def rQhX9 : List O := [
 oo 44 <| .mv (.t 0),
 oo 45 <| .call nQe [(.t 44),(ki 5)],
 oo 46 <| .mv (.t 6),
 oo 47 <| .bin .sub (ki 5) (.t 46),
 oo 48 <| .bin .geq (.t 45) (.t 47)]
def rQhX10 : List O := [
 oo 49 <| .fad 1 (.t 5),
 oo 50 <| .ld none (.t 49),
 oo 51 <| .mv (.t 7),
 oo 52 <| .mv (.t 8),
 oo 53 <| .build [(.int .i64 0),(.int .i64 0)] [(0,1,(.t 51)),(1,1,(.t 52))],
 oo 54 <| .bslice 2 1 [(.int .i64 0),(.int .i64 0)] [(0,2,(.t 53))],
 oo 55 <| .app 2 (.t 50) (.t 54),
 oo 56 <| .fad 1 (.t 5),
 oz <| .st 1 (.t 56) (.t 55)]
def rQhX11 : List O := [
 oo 42 <| .mv (.t 8),
 oo 43 <| .bin .add (.t 42) (ki 1),
 oo 8 <| .mv (.t 43)]
def lQhX0 : C := (.seq (.seq (.reg rQhX8 false [] [0,4,5,6,7,8,41]) (.cond (.t 41) .skip (.exit 2))) (.seq (.blk 3 (.seq (.reg rQhX9 false [] [0,4,5,6,7,8,48]) (.cond (.t 48) (.reg rQhX10 false [] [0,4,5,6,7,8]) .skip))) (.reg rQhX11 false [] [0,4,5,6,7,8])))
def rQhX12 : List O := [
 oo 34 <| .mv (.t 7),
 oo 35 <| .bin .add (.t 34) (ki 1),
 oo 7 <| .mv (.t 35)]
def lQhX1 : C := (.seq (.seq (.reg rQhX6 false [] [0,4,5,6,7,33]) (.cond (.t 33) .skip (.exit 0))) (.seq (.blk 1 (.seq (.reg rQhX7 false [] [0,4,5,6,7,8]) (.blk 2 (.loop lQhX0)))) (.reg rQhX12 false [] [0,4,5,6,7])))
def rQhX13 : List O := [
 oo 57 <| .ld (some 2) (.t 5),
 oz <| .st 2 (.t 4) (.t 57)]
def cQh : C := (.seq (.reg rQhX0 false [] [0,1,4]) (.seq (.reg rQhX1 false [] [0,1,4,5]) (.seq (.seq (.reg rQhX2 false [] [0,1,4,5,16]) (.cond (.t 16) (.reg rQhX3 true [(8,8),(9,9),(10,10),(0,2),(2,3),(2,4),(2,5),(0,6),(1,6),(2,6)] [0,4,5]) .skip)) (.seq (.reg rQhX4 false [] [0,4,5,6]) (.seq (.seq (.reg rQhX5 false [] [0,4,5,6,7]) (.blk 0 (.loop lQhX1))) (.seq (.reg rQhX13 false [] [4]) .ret))))))
def qQh : AFn := ⟨58,2,[.c 4 (some 2)],cQh⟩
/- cohesion/maxclique.Colours -/
def rQiX0 : List O := [
 oo 1 <| .box (.t 0),
 oo 2 <| .mv (.k (.own 1 [])),
 oo 3 <| .mv (ki 0)]
def rQiX1 : List O := [
 oo 7 <| .ld (some 2) (.t 1),
 oo 8 <| .call 39 [(.t 7)],
 oo 6 <| .mv (.t 8),
 oo 9 <| .ext 0 (.t 6),
 oo 10 <| .ext 1 (.t 6),
 oo 4 <| .mv (.t 9),
 oo 5 <| .mv (.t 10)]
def rQiX2 : List O := [
 oo 11 <| .mv (.t 5),
 oo 12 <| .bin .neq (.t 11) (ki 0)]
def rQiX3 : List O := [
 oo 13 <| .mv (.t 5),
 oo 2 <| .mv (.k (.own 1 [])),
 oo 3 <| .mv (.t 13)]
def rQiX4 : List O := [
 oo 14 <| .mv (.t 4),
 oo 15 <| .call 40 [(.t 14)]]
def rQiX5 : List O := [
 oo 16 <| .ld (some 2) (.t 1),
 oo 17 <| .mv (.t 4),
 oo 18 <| .call 14 [(.t 16),(.t 17)],
 oo 19 <| .ext 0 (.t 18),
 oo 20 <| .ext 1 (.t 18),
 oo 2 <| .mv (.t 19),
 oo 3 <| .mv (.t 20)]
def cQi : C := (.seq (.reg rQiX0 false [] [1]) (.seq (.reg rQiX1 false [] [1,4,5]) (.seq (.seq (.reg rQiX2 false [] [1,4,5,12]) (.cond (.t 12) (.seq (.reg rQiX3 false [] [2,3]) .ret) .skip)) (.seq (.reg rQiX4 false [] [1,4]) (.seq (.reg rQiX5 false [] [2,3]) .ret)))))
def qQi : AFn := ⟨21,1,[.t 2,.t 3],cQi⟩
/- cohesion/maxclique.Proper -/
def rQjX0 : List O := [
 oo 2 <| .box (.t 0),
 oo 3 <| .box (.t 1),
 oo 4 <| .mv (.k (.bool false))]
def rQjX1 : List O := [
 oo 5 <| .ld (some 2) (.t 2),
 oo 6 <| .call nQt [(.t 5)],
 oo 7 <| .bin .neq (.t 6) (ki 0),
 oo 8 <| .mv (.t 7),
 ⟨(some 9),(some (8,false)),.ld none (.t 3)⟩,
 ⟨(some 10),(some (8,false)),.len (.t 9)⟩,
 ⟨(some 11),(some (8,false)),.fad 0 (.t 2)⟩,
 ⟨(some 12),(some (8,false)),.ld none (.t 11)⟩,
 ⟨(some 13),(some (8,false)),.bin .neq (.t 10) (.t 12)⟩,
 oo 14 <| .pick (.t 8) (.k (.bool true)) (.t 13),
 oo 15 <| .mv (.t 14),
 ⟨(some 16),(some (15,false)),.ld none (.t 3)⟩,
 ⟨(some 17),(some (15,false)),.call 45 [(.t 16),(.k (.func (.func 46) [] []))]⟩,
 oo 18 <| .pick (.t 15) (.k (.bool true)) (.t 17)]
def rQjX2 : List O := [
 oo 4 <| .mv (.k (.bool false))]
def rQjX3 : List O := [
 oo 19 <| .fad 1 (.t 2),
 oo 20 <| .ld none (.t 19),
 oo 21 <| .mkf (.func 48) [] [(.t 3)],
 oo 22 <| .call 47 [(.t 20),(.t 21)],
 oo 23 <| .un .not (.t 22),
 oo 4 <| .mv (.t 23)]
def cQj : C := (.seq (.reg rQjX0 false [] [2,3]) (.seq (.seq (.reg rQjX1 false [] [2,3,18]) (.cond (.t 18) (.seq (.reg rQjX2 false [] [4]) .ret) .skip)) (.seq (.reg rQjX3 false [] [4]) .ret)))
def qQj : AFn := ⟨24,2,[.t 4],cQj⟩
/- cohesion/maxclique.Best -/
def rQkX0 : List O := [
 oo 1 <| .box (.t 0),
 oo 2 <| .mv (.k (.own 1 [])),
 oo 3 <| .mv (ki 0)]
def rQkX1 : List O := [
 oo 12 <| .ld (some 2) (.t 1),
 oo 13 <| .call nQt [(.t 12)],
 oo 4 <| .mv (.t 13)]
def rQkX2 : List O := [
 oo 14 <| .mv (.t 4),
 oo 15 <| .bin .neq (.t 14) (ki 0)]
def rQkX3 : List O := [
 oo 16 <| .mv (.t 4),
 oo 2 <| .mv (.k (.own 1 [])),
 oo 3 <| .mv (.t 16)]
def rQkX4 : List O := [
 oo 17 <| .ld (some 2) (.t 1),
 oo 18 <| .call nQy [(.t 17)],
 oo 5 <| .mv (.t 18)]
def rQkX5 : List O := [
 oo 19 <| .fad 0 (.t 1),
 oo 20 <| .ld none (.t 19),
 oo 21 <| .bin .shl (.k (.int .u64 1)) (.t 20),
 oo 22 <| .bin .sub (.t 21) (.k (.int .u64 1)),
 oo 6 <| .mv (.t 22)]
def rQkX6 : List O := [
 oo 7 <| .mv (.k (.own 1 []))]
def rQkX7 : List O := [
 oo 23 <| .mv (.t 5),
 oo 24 <| .mv (.t 6),
 oo 25 <| .call nQz [(.t 23),(.t 24),(ki 0)],
 oo 8 <| .mv (.t 25)]
def rQkX8 : List O := [
 oo 26 <| .mv (.t 8),
 oo 27 <| .bin .gtr (.t 26) (ki 0)]
def rQkX9 : List O := [
 oo 30 <| .mv (.t 6),
 oo 9 <| .mv (.t 30)]
def rQkX10 : List O := [
 oo 31 <| .mv (.t 9),
 oo 32 <| .bin .neq (.t 31) (.k (.int .u64 0))]
def rQkX11 : List O := [
 oo 37 <| .mv (.t 9),
 oo 38 <| .call nQA [(.t 37)],
 oo 10 <| .mv (.t 38)]
def rQkX12 : List O := [
 oo 39 <| .mv (.t 9),
 oo 40 <| .mv (.t 10),
 oo 41 <| .bin .shl (.k (.int .u64 1)) (.t 40),
 oo 42 <| .bin .andNot (.t 39) (.t 41),
 oo 43 <| .mv (.t 5),
 oo 44 <| .mv (.t 10),
 oo 45 <| .ixa 1 (.t 43) (.t 44),
 oo 46 <| .ld none (.t 45),
 oo 47 <| .bin .and (.t 42) (.t 46),
 oo 11 <| .mv (.t 47)]
def rQkX13 : List O := [
 oo 48 <| .mv (.t 5),
 oo 49 <| .mv (.t 11),
 oo 50 <| .mv (.t 8),
 oo 51 <| .bin .sub (.t 50) (ki 2),
 oo 52 <| .call nQz [(.t 48),(.t 49),(.t 51)],
 oo 53 <| .mv (.t 8),
 oo 54 <| .bin .sub (.t 53) (ki 1),
 oo 55 <| .bin .geq (.t 52) (.t 54)]
def rQkX14 : List O := [
 oo 56 <| .mv (.t 7),
 oo 57 <| .mv (.t 10),
 oo 58 <| .bslice 1 1 [(.int .i64 0)] [(0,1,(.t 57))],
 oo 59 <| .app 1 (.t 56) (.t 58),
 oo 60 <| .mv (.t 11),
 oo 7 <| .mv (.t 59),
 oo 6 <| .mv (.t 60)]
def rQkX15 : List O := [
 oo 33 <| .mv (.t 9),
 oo 34 <| .mv (.t 9),
 oo 35 <| .bin .sub (.t 34) (.k (.int .u64 1)),
 oo 36 <| .bin .and (.t 33) (.t 35),
 oo 9 <| .mv (.t 36)]
def lQkX0 : C := (.seq (.seq (.reg rQkX10 false [] [5,6,7,8,9,32]) (.cond (.t 32) .skip (.exit 2))) (.seq (.blk 3 (.seq (.reg rQkX11 false [] [5,6,7,8,9,10]) (.seq (.reg rQkX12 true [(8,8),(9,9),(0,7),(1,7),(2,7),(3,7)] [5,6,7,8,9,10,11]) (.seq (.reg rQkX13 false [] [5,6,7,8,9,10,11,55]) (.cond (.t 55) (.seq (.reg rQkX14 false [] [5,6,7,8]) (.exit 2)) .skip))))) (.reg rQkX15 false [] [5,6,7,8,9])))
def rQkX16 : List O := [
 oo 28 <| .mv (.t 8),
 oo 29 <| .bin .sub (.t 28) (ki 1),
 oo 8 <| .mv (.t 29)]
def lQkX1 : C := (.seq (.seq (.reg rQkX8 false [] [5,6,7,8,27]) (.cond (.t 27) .skip (.exit 0))) (.seq (.blk 1 (.seq (.reg rQkX9 false [] [5,6,7,8,9]) (.blk 2 (.loop lQkX0)))) (.reg rQkX16 false [] [5,6,7,8])))
def rQkX17 : List O := [
 oo 61 <| .mv (.t 7),
 oo 2 <| .mv (.t 61),
 oo 3 <| .mv (ki 0)]
def cQk : C := (.seq (.reg rQkX0 false [] [1]) (.seq (.seq (.reg rQkX1 false [] [1,4]) (.seq (.reg rQkX2 false [] [1,4,15]) (.cond (.t 15) (.seq (.reg rQkX3 false [] [2,3]) .ret) .skip))) (.seq (.reg rQkX4 false [] [1,5]) (.seq (.reg rQkX5 false [] [5,6]) (.seq (.reg rQkX6 false [] [5,6,7]) (.seq (.seq (.reg rQkX7 false [] [5,6,7,8]) (.blk 0 (.loop lQkX1))) (.seq (.reg rQkX17 false [] [2,3]) .ret)))))))
def qQk : AFn := ⟨62,1,[.t 2,.t 3],cQk⟩
/- cohesion/cohesionref24.All -/
def rQlX0 : List O := [
 oo 2 <| .box (.t 0),
 oo 4 <| .mv (.k (.own 1 [])),
 oo 5 <| .mv (ki 0)]
def rQlX1 : List O := [
 oo 8 <| .ld (some 2) (.t 2),
 oo 9 <| .call nQu [(.t 8)],
 oo 6 <| .mv (.t 9)]
def rQlX2 : List O := [
 oo 10 <| .mv (.t 6),
 oo 11 <| .bin .neq (.t 10) (ki 0)]
def rQlX3 : List O := [
 oo 12 <| .mv (.t 6),
 oo 4 <| .mv (.k (.own 1 [])),
 oo 5 <| .mv (.t 12)]
def rQlX4 : List O := [
 oo 13 <| .mv (.t 1),
 oo 14 <| .bin .lss (.t 13) (ki 0),
 oo 15 <| .mv (.t 14),
 ⟨(some 16),(some (15,false)),.mv (.t 1)⟩,
 ⟨(some 17),(some (15,false)),.bin .gtr (.t 16) (ki 4096)⟩,
 oo 18 <| .pick (.t 15) (.k (.bool true)) (.t 17)]
def rQlX5 : List O := [
 oo 4 <| .mv (.k (.own 1 [])),
 oo 5 <| .mv (ki 1)]
def rQlX6 : List O := [
 oo 19 <| .ld (some 2) (.t 2),
 oo 20 <| .mv (.t 1),
 oo 21 <| .call nQC [(.t 19),(.t 20)],
 oo 7 <| .mv (.t 21)]
def rQlX7 : List O := [
 oo 22 <| .mv (.t 7),
 oo 23 <| .len (.t 22),
 oo 24 <| .mv (.t 1),
 oo 25 <| .bin .gtr (.t 23) (.t 24)]
def rQlX8 : List O := [
 oo 4 <| .mv (.k (.own 1 [])),
 oo 5 <| .mv (ki 3)]
def rQlX9 : List O := [
 oo 26 <| .mv (.t 7),
 oo 4 <| .mv (.t 26),
 oo 5 <| .mv (ki 0)]
def cQl : C := (.seq (.reg rQlX0 false [] [1,2]) (.seq (.seq (.reg rQlX1 false [] [1,2,6]) (.seq (.reg rQlX2 false [] [1,2,6,11]) (.cond (.t 11) (.seq (.reg rQlX3 false [] [4,5]) .ret) .skip))) (.seq (.seq (.reg rQlX4 false [] [1,2,18]) (.cond (.t 18) (.seq (.reg rQlX5 false [] [4,5]) .ret) .skip)) (.seq (.reg rQlX6 false [] [1,7]) (.seq (.seq (.reg rQlX7 false [] [7,25]) (.cond (.t 25) (.seq (.reg rQlX8 false [] [4,5]) .ret) .skip)) (.seq (.reg rQlX9 false [] [4,5]) .ret))))))
def qQl : AFn := ⟨27,2,[.t 4,.t 5],cQl⟩
/- cohesion/maxclique.Above -/
def rQmX0 : List O := [
 oo 3 <| .box (.t 0),
 oo 6 <| .mv (.k (.bool false)),
 oo 7 <| .mv (ki 0)]
def rQmX1 : List O := [
 oo 13 <| .ld (some 2) (.t 3),
 oo 14 <| .call nQt [(.t 13)],
 oo 8 <| .mv (.t 14)]
def rQmX2 : List O := [
 oo 15 <| .mv (.t 8),
 oo 16 <| .bin .neq (.t 15) (ki 0)]
def rQmX3 : List O := [
 oo 17 <| .mv (.t 8),
 oo 6 <| .mv (.k (.bool false)),
 oo 7 <| .mv (.t 17)]
def rQmX4 : List O := [
 oo 18 <| .ld (some 2) (.t 3),
 oo 19 <| .mv (.t 1),
 oo 20 <| .call nQD [(.t 18),(.t 19)],
 oo 21 <| .un .not (.t 20)]
def rQmX5 : List O := [
 oo 6 <| .mv (.k (.bool false)),
 oo 7 <| .mv (ki 4)]
def rQmX6 : List O := [
 oo 22 <| .ld (some 2) (.t 3),
 oo 23 <| .call nQy [(.t 22)],
 oo 9 <| .mv (.t 23)]
def rQmX7 : List O := [
 oo 24 <| .fad 0 (.t 3),
 oo 25 <| .ld none (.t 24),
 oo 26 <| .bin .shl (.k (.int .u64 1)) (.t 25),
 oo 27 <| .bin .sub (.t 26) (.k (.int .u64 1)),
 oo 10 <| .mv (.t 27)]
def rQmX8 : List O := [
 oo 28 <| .mv (.t 1),
 oo 29 <| .len (.t 28),
 oo 30 <| .mv (ki 0)]
def rQmX9 : List O := [
 oo 31 <| .bin .lss (.t 30) (.t 29)]
def rQmX10 : List O := [
 oo 32 <| .ixa 1 (.t 28) (.t 30),
 oo 33 <| .ld none (.t 32),
 oo 12 <| .mv (.t 33)]
def rQmX11 : List O := [
 oo 34 <| .mv (.t 10),
 oo 35 <| .mv (.t 9),
 oo 36 <| .mv (.t 12),
 oo 37 <| .ixa 1 (.t 35) (.t 36),
 oo 38 <| .ld none (.t 37),
 oo 39 <| .bin .and (.t 34) (.t 38),
 oo 10 <| .mv (.t 39)]
def rQmX12 : List O := [
 oo 40 <| .bin .add (.t 30) (ki 1),
 oo 30 <| .mv (.t 40)]
def lQmX0 : C := (.seq (.reg rQmX9 false [] [1,2,9,10,28,29,30,31]) (.seq (.cond (.t 31) .skip (.exit 0)) (.seq (.blk 1 (.seq (.reg rQmX10 false [] [1,2,9,10,12,28,29,30]) (.reg rQmX11 false [] [1,2,9,10,28,29,30]))) (.reg rQmX12 false [] [1,2,9,10,28,29,30]))))
def rQmX13 : List O := [
 oo 41 <| .mv (.t 1),
 oo 42 <| .len (.t 41),
 oo 43 <| .mv (.t 9),
 oo 44 <| .mv (.t 10),
 oo 45 <| .call nQz [(.t 43),(.t 44),(ki 0)],
 oo 46 <| .bin .add (.t 42) (.t 45),
 oo 47 <| .mv (.t 2),
 oo 48 <| .bin .geq (.t 46) (.t 47),
 oo 6 <| .mv (.t 48),
 oo 7 <| .mv (ki 0)]
def cQm : C := (.seq (.reg rQmX0 false [] [1,2,3]) (.seq (.seq (.reg rQmX1 false [] [1,2,3,8]) (.seq (.reg rQmX2 false [] [1,2,3,8,16]) (.cond (.t 16) (.seq (.reg rQmX3 false [] [6,7]) .ret) .skip))) (.seq (.seq (.reg rQmX4 false [] [1,2,3,21]) (.cond (.t 21) (.seq (.reg rQmX5 false [] [6,7]) .ret) .skip)) (.seq (.reg rQmX6 false [] [1,2,3,9]) (.seq (.reg rQmX7 false [] [1,2,9,10]) (.seq (.seq (.reg rQmX8 false [] [1,2,9,10,28,29,30]) (.blk 0 (.loop lQmX0))) (.seq (.reg rQmX13 false [] [6,7]) .ret)))))))
def qQm : AFn := ⟨49,3,[.t 6,.t 7],cQm⟩
/- cohesion/cohesionref02.Cmp -/
def rQnX0 : List O := [
 oo 4 <| .mv (ki 0)]
def rQnX1 : List O := [
 oo 6 <| .mv (.t 0),
 oo 7 <| .len (.t 6),
 oo 8 <| .mv (ki 0)]
def rQnX2 : List O := [
 oo 9 <| .bin .lss (.t 8) (.t 7)]
def rQnX3 : List O := [
 oo 10 <| .mv (.t 8),
 oo 5 <| .mv (.t 10)]
def rQnX4 : List O := [
 oo 12 <| .mv (.t 5),
 oo 13 <| .mv (.t 1),
 oo 14 <| .len (.t 13),
 oo 15 <| .bin .geq (.t 12) (.t 14),
 oo 16 <| .mv (.t 15),
 ⟨(some 17),(some (16,false)),.mv (.t 0)⟩,
 ⟨(some 18),(some (16,false)),.mv (.t 5)⟩,
 ⟨(some 19),(some (16,false)),.ixa 1 (.t 17) (.t 18)⟩,
 ⟨(some 20),(some (16,false)),.ld none (.t 19)⟩,
 ⟨(some 21),(some (16,false)),.mv (.t 1)⟩,
 ⟨(some 22),(some (16,false)),.mv (.t 5)⟩,
 ⟨(some 23),(some (16,false)),.ixa 1 (.t 21) (.t 22)⟩,
 ⟨(some 24),(some (16,false)),.ld none (.t 23)⟩,
 ⟨(some 25),(some (16,false)),.bin .gtr (.t 20) (.t 24)⟩,
 oo 26 <| .pick (.t 16) (.k (.bool true)) (.t 25),
 oo 11 <| .mv (.t 26)]
def rQnX5 : List O := [
 oo 4 <| .mv (ki 1)]
def rQnX6 : List O := [
 oo 28 <| .mv (.t 0),
 oo 29 <| .mv (.t 5),
 oo 30 <| .ixa 1 (.t 28) (.t 29),
 oo 31 <| .ld none (.t 30),
 oo 32 <| .mv (.t 1),
 oo 33 <| .mv (.t 5),
 oo 34 <| .ixa 1 (.t 32) (.t 33),
 oo 35 <| .ld none (.t 34),
 oo 36 <| .bin .lss (.t 31) (.t 35),
 oo 27 <| .mv (.t 36)]
def rQnX7 : List O := [
 oo 4 <| .mv (.k (.int .i64 (-1)))]
def rQnX8 : List O := [
 oo 37 <| .bin .add (.t 8) (ki 1),
 oo 8 <| .mv (.t 37)]
def lQnX0 : C := (.seq (.reg rQnX2 false [] [0,1,7,8,9]) (.seq (.cond (.t 9) .skip (.exit 0)) (.seq (.blk 1 (.seq (.reg rQnX3 false [] [0,1,5,7,8]) (.blk 2 (.seq (.reg rQnX4 true [(3,3),(4,4),(13,13),(14,14),(15,15),(8,9),(8,10),(8,11),(5,12),(6,12),(7,12),(8,12)] [0,1,5,7,8,11]) (.cond (.t 11) (.seq (.reg rQnX5 false [] [4]) .ret) (.seq (.reg rQnX6 true [(8,8),(9,9),(3,4),(3,5),(3,6),(0,7),(1,7),(2,7),(3,7)] [0,1,7,8,27]) (.cond (.t 27) (.seq (.reg rQnX7 false [] [4]) .ret) .skip))))))) (.reg rQnX8 false [] [0,1,7,8]))))
def rQnX9 : List O := [
 oo 38 <| .mv (.t 0),
 oo 39 <| .len (.t 38),
 oo 40 <| .mv (.t 1),
 oo 41 <| .len (.t 40),
 oo 42 <| .bin .lss (.t 39) (.t 41)]
def rQnX10 : List O := [
 oo 4 <| .mv (.k (.int .i64 (-1)))]
def rQnX11 : List O := [
 oo 4 <| .mv (ki 0)]
def cQn : C := (.seq (.reg rQnX0 false [] [0,1]) (.seq (.seq (.reg rQnX1 false [] [0,1,7,8]) (.blk 0 (.loop lQnX0))) (.seq (.seq (.reg rQnX9 false [] [42]) (.cond (.t 42) (.seq (.reg rQnX10 false [] [4]) .ret) .skip)) (.seq (.reg rQnX11 false [] [4]) .ret))))
def qQn : AFn := ⟨43,2,[.t 4],cQn⟩
/- cohesion/cohesionref02.Within -/
def rQoX0 : List O := [
 oo 4 <| .mv (.k (.bool false))]
def rQoX1 : List O := [
 oo 7 <| .mv (.t 0),
 oo 8 <| .len (.t 7),
 oo 9 <| .mv (ki 0)]
def rQoX2 : List O := [
 oo 10 <| .bin .lss (.t 9) (.t 8)]
def rQoX3 : List O := [
 oo 11 <| .ixa 1 (.t 7) (.t 9),
 oo 12 <| .ld none (.t 11),
 oo 6 <| .mv (.t 12)]
def rQoX4 : List O := [
 oo 13 <| .mv (.t 1),
 oo 14 <| .mv (.t 6),
 oo 15 <| .call nQg [(.t 13),(.t 14)],
 oo 16 <| .un .not (.t 15)]
def rQoX5 : List O := [
 oo 4 <| .mv (.k (.bool false))]
def rQoX6 : List O := [
 oo 17 <| .bin .add (.t 9) (ki 1),
 oo 9 <| .mv (.t 17)]
def lQoX0 : C := (.seq (.reg rQoX2 false [] [1,7,8,9,10]) (.seq (.cond (.t 10) .skip (.exit 0)) (.seq (.blk 1 (.seq (.reg rQoX3 false [] [1,6,7,8,9]) (.seq (.reg rQoX4 false [] [1,7,8,9,16]) (.cond (.t 16) (.seq (.reg rQoX5 false [] [4]) .ret) .skip)))) (.reg rQoX6 false [] [1,7,8,9]))))
def rQoX7 : List O := [
 oo 4 <| .mv (.k (.bool true))]
def cQo : C := (.seq (.reg rQoX0 false [] [0,1]) (.seq (.seq (.reg rQoX1 false [] [1,7,8,9]) (.blk 0 (.loop lQoX0))) (.seq (.reg rQoX7 false [] [4]) .ret)))
def qQo : AFn := ⟨18,2,[.t 4],cQo⟩
/- cohesion/cohesionref24.Is -/
def rQpX0 : List O := [
 oo 2 <| .box (.t 0),
 oo 4 <| .mv (.k (.bool false))]
def rQpX1 : List O := [
 oo 7 <| .ld (some 2) (.t 2),
 oo 8 <| .call nQu [(.t 7)],
 oo 9 <| .bin .neq (.t 8) (ki 0),
 oo 10 <| .mv (.t 9),
 ⟨(some 11),(some (10,false)),.mv (.t 1)⟩,
 ⟨(some 12),(some (10,false)),.fad 0 (.t 2)⟩,
 ⟨(some 13),(some (10,false)),.ld none (.t 12)⟩,
 ⟨(some 14),(some (10,false)),.call nQE [(.t 11),(.t 13)]⟩,
 ⟨(some 15),(some (10,false)),.un .not (.t 14)⟩,
 oo 16 <| .pick (.t 10) (.k (.bool true)) (.t 15)]
def rQpX2 : List O := [
 oo 4 <| .mv (.k (.bool false))]
def rQpX3 : List O := [
 oo 5 <| .mv (ki 0)]
def rQpX4 : List O := [
 oo 17 <| .mv (.t 5),
 oo 18 <| .mv (.t 1),
 oo 19 <| .len (.t 18),
 oo 20 <| .bin .lss (.t 17) (.t 19)]
def rQpX5 : List O := [
 oo 23 <| .mv (.t 5),
 oo 24 <| .bin .add (.t 23) (ki 1),
 oo 6 <| .mv (.t 24)]
def rQpX6 : List O := [
 oo 25 <| .mv (.t 6),
 oo 26 <| .mv (.t 1),
 oo 27 <| .len (.t 26),
 oo 28 <| .bin .lss (.t 25) (.t 27)]
def rQpX7 : List O := [
 oo 31 <| .ld (some 2) (.t 2),
 oo 32 <| .mv (.t 1),
 oo 33 <| .mv (.t 5),
 oo 34 <| .ixa 1 (.t 32) (.t 33),
 oo 35 <| .ld none (.t 34),
 oo 36 <| .mv (.t 1),
 oo 37 <| .mv (.t 6),
 oo 38 <| .ixa 1 (.t 36) (.t 37),
 oo 39 <| .ld none (.t 38),
 oo 40 <| .call nQw [(.t 31),(.t 35),(.t 39)],
 oo 41 <| .bin .lss (.t 40) (ki 0)]
def rQpX8 : List O := [
 oo 4 <| .mv (.k (.bool false))]
def rQpX9 : List O := [
 oo 29 <| .mv (.t 6),
 oo 30 <| .bin .add (.t 29) (ki 1),
 oo 6 <| .mv (.t 30)]
def lQpX0 : C := (.seq (.seq (.reg rQpX6 false [] [1,2,5,6,28]) (.cond (.t 28) .skip (.exit 2))) (.seq (.blk 3 (.seq (.reg rQpX7 true [(9,9),(10,10),(0,1),(0,2),(0,3),(0,4),(0,5),(4,5),(0,6),(4,6),(0,7),(4,7),(0,8),(1,8),(2,8),(3,8),(4,8)] [1,2,5,6,41]) (.cond (.t 41) (.seq (.reg rQpX8 false [] [4]) .ret) .skip))) (.reg rQpX9 false [] [1,2,5,6])))
def rQpX10 : List O := [
 oo 21 <| .mv (.t 5),
 oo 22 <| .bin .add (.t 21) (ki 1),
 oo 5 <| .mv (.t 22)]
def lQpX1 : C := (.seq (.seq (.reg rQpX4 false [] [1,2,5,20]) (.cond (.t 20) .skip (.exit 0))) (.seq (.blk 1 (.seq (.reg rQpX5 false [] [1,2,5,6]) (.blk 2 (.loop lQpX0)))) (.reg rQpX10 false [] [1,2,5])))
def rQpX11 : List O := [
 oo 4 <| .mv (.k (.bool true))]
def cQp : C := (.seq (.reg rQpX0 false [] [1,2]) (.seq (.seq (.reg rQpX1 false [] [1,2,16]) (.cond (.t 16) (.seq (.reg rQpX2 false [] [4]) .ret) .skip)) (.seq (.seq (.reg rQpX3 false [] [1,2,5]) (.blk 0 (.loop lQpX1))) (.seq (.reg rQpX11 false [] [4]) .ret))))
def qQp : AFn := ⟨42,2,[.t 4],cQp⟩
/- cohesion/cohesionref03.Of -/
def rQqX0 : List O := [
 oo 4 <| .new [(.int .i64 0),(.own 2 [])],
 oo 5 <| .mv (ki 0)]
def rQqX1 : List O := [
 oo 9 <| .mv (.t 0),
 oo 10 <| .bin .lss (.t 9) (ki 0),
 oo 11 <| .mv (.t 10),
 ⟨(some 12),(some (11,false)),.mv (.t 0)⟩,
 ⟨(some 13),(some (11,false)),.bin .gtr (.t 12) (ki 64)⟩,
 oo 14 <| .pick (.t 11) (.k (.bool true)) (.t 13)]
def rQqX2 : List O := [
 oo 15 <| .build [(.int .i64 0),(.own 2 [])] [],
 oz <| .st 2 (.t 4) (.t 15),
 oo 5 <| .mv (ki 1)]
def rQqX3 : List O := [
 oo 16 <| .mv (.t 0),
 oo 17 <| .build [(.int .i64 0),(.own 2 [])] [(0,1,(.t 16))],
 oo 6 <| .new [(.int .i64 0),(.own 2 [])],
 oz <| .st 2 (.t 6) (.t 17)]
def rQqX4 : List O := [
 oo 18 <| .mv (.t 1),
 oo 19 <| .len (.t 18),
 oo 20 <| .mv (ki 0)]
def rQqX5 : List O := [
 oo 21 <| .bin .lss (.t 20) (.t 19)]
def rQqX6 : List O := [
 oo 22 <| .ixa 2 (.t 18) (.t 20),
 oo 23 <| .ld (some 2) (.t 22),
 oo 8 <| .new [(.int .i64 0),(.int .i64 0)],
 oz <| .st 2 (.t 8) (.t 23)]
def rQqX7 : List O := [
 oo 24 <| .mv (.t 0),
 oo 25 <| .fad 0 (.t 8),
 oo 26 <| .ld none (.t 25),
 oo 27 <| .fad 1 (.t 8),
 oo 28 <| .ld none (.t 27),
 oo 29 <| .call nQv [(.t 24),(.t 26),(.t 28)],
 oo 30 <| .un .not (.t 29)]
def rQqX8 : List O := [
 oo 31 <| .build [(.int .i64 0),(.own 2 [])] [],
 oz <| .st 2 (.t 4) (.t 31),
 oo 5 <| .mv (ki 6)]
def rQqX9 : List O := [
 oo 32 <| .fad 1 (.t 6),
 oo 33 <| .ld none (.t 32),
 oo 34 <| .fad 0 (.t 8),
 oo 35 <| .ld none (.t 34),
 oo 36 <| .fad 1 (.t 8),
 oo 37 <| .ld none (.t 36),
 oo 38 <| .call nQx [(.t 35),(.t 37)],
 oo 39 <| .call nQB [(.t 33),(.t 38)],
 oo 40 <| .fad 1 (.t 6),
 oz <| .st 1 (.t 40) (.t 39)]
def rQqX10 : List O := [
 oo 41 <| .bin .add (.t 20) (ki 1),
 oo 20 <| .mv (.t 41)]
def lQqX0 : C := (.seq (.reg rQqX5 false [] [0,4,6,18,19,20,21]) (.seq (.cond (.t 21) .skip (.exit 0)) (.seq (.blk 1 (.seq (.reg rQqX6 false [] [0,4,6,8,18,19,20]) (.seq (.seq (.reg rQqX7 false [] [0,4,6,8,18,19,20,30]) (.cond (.t 30) (.seq (.reg rQqX8 false [] [4,5]) .ret) .skip)) (.reg rQqX9 true [(7,7),(8,8),(9,9),(1,2),(0,3),(1,3),(1,4),(3,4),(0,5),(1,5),(2,5),(3,5),(0,6),(1,6)] [0,4,6,18,19,20])))) (.reg rQqX10 false [] [0,4,6,18,19,20]))))
def rQqX11 : List O := [
 oo 42 <| .ld (some 2) (.t 6),
 oz <| .st 2 (.t 4) (.t 42),
 oo 5 <| .mv (ki 0)]
def cQq : C := (.seq (.reg rQqX0 false [] [0,1,4]) (.seq (.seq (.reg rQqX1 false [] [0,1,4,14]) (.cond (.t 14) (.seq (.reg rQqX2 false [] [4,5]) .ret) .skip)) (.seq (.reg rQqX3 false [] [0,1,4,6]) (.seq (.seq (.reg rQqX4 false [] [0,4,6,18,19,20]) (.blk 0 (.loop lQqX0))) (.seq (.reg rQqX11 false [] [4,5]) .ret)))))
def qQq : AFn := ⟨43,2,[.c 4 (some 2),.t 5],cQq⟩
/- cohesion/maxclique.Bound -/
def rQrX0 : List O := [
 oo 1 <| .box (.t 0),
 oo 2 <| .mv (ki 0),
 oo 3 <| .mv (ki 0)]
def rQrX1 : List O := [
 oo 8 <| .ld (some 2) (.t 1),
 oo 9 <| .call nQi [(.t 8)],
 oo 7 <| .mv (.t 9),
 oo 10 <| .ext 0 (.t 7),
 oo 11 <| .ext 1 (.t 7),
 oo 4 <| .mv (.t 10),
 oo 5 <| .mv (.t 11)]
def rQrX2 : List O := [
 oo 12 <| .mv (.t 5),
 oo 13 <| .bin .neq (.t 12) (ki 0),
 oo 14 <| .mv (.t 13),
 ⟨(some 15),(some (14,false)),.fad 0 (.t 1)⟩,
 ⟨(some 16),(some (14,false)),.ld none (.t 15)⟩,
 ⟨(some 17),(some (14,false)),.bin .eql (.t 16) (ki 0)⟩,
 oo 18 <| .pick (.t 14) (.k (.bool true)) (.t 17)]
def rQrX3 : List O := [
 oo 19 <| .mv (.t 5),
 oo 2 <| .mv (ki 0),
 oo 3 <| .mv (.t 19)]
def rQrX4 : List O := [
 oo 21 <| .ld (some 2) (.t 1),
 oo 22 <| .call 56 [(.t 21)],
 oo 20 <| .mv (.t 22),
 oo 23 <| .ext 0 (.t 20),
 oo 24 <| .ext 1 (.t 20),
 oo 6 <| .mv (.t 23),
 oo 5 <| .mv (.t 24)]
def rQrX5 : List O := [
 oo 25 <| .mv (.t 5),
 oo 26 <| .bin .neq (.t 25) (ki 0)]
def rQrX6 : List O := [
 oo 27 <| .mv (.t 5),
 oo 2 <| .mv (ki 0),
 oo 3 <| .mv (.t 27)]
def rQrX7 : List O := [
 oo 28 <| .mv (.t 4),
 oo 29 <| .call 33 [(.t 28)],
 oo 30 <| .len (.t 29),
 oo 31 <| .mv (.t 6),
 oo 32 <| .bin .add (.t 31) (ki 1),
 oo 33 <| .min [(.t 30),(.t 32)],
 oo 2 <| .mv (.t 33),
 oo 3 <| .mv (ki 0)]
def cQr : C := (.seq (.reg rQrX0 false [] [1]) (.seq (.reg rQrX1 false [] [1,4,5]) (.seq (.seq (.reg rQrX2 false [] [1,4,5,18]) (.cond (.t 18) (.seq (.reg rQrX3 false [] [2,3]) .ret) .skip)) (.seq (.reg rQrX4 false [] [4,5,6]) (.seq (.seq (.reg rQrX5 false [] [4,5,6,26]) (.cond (.t 26) (.seq (.reg rQrX6 false [] [2,3]) .ret) .skip)) (.seq (.reg rQrX7 false [] [2,3]) .ret))))))
def qQr : AFn := ⟨34,1,[.t 2,.t 3],cQr⟩
/- cohesion/cohesionmake.Mod -/
def rQsX0 : List O := [
 oo 4 <| .mv (ki 0)]
def rQsX1 : List O := [
 oo 5 <| .mv (.t 0),
 oo 6 <| .mv (.t 1),
 oo 7 <| .bin .rem (.t 5) (.t 6),
 oo 8 <| .mv (.t 1),
 oo 9 <| .bin .add (.t 7) (.t 8),
 oo 10 <| .mv (.t 1),
 oo 11 <| .bin .rem (.t 9) (.t 10),
 oo 4 <| .mv (.t 11)]
def cQs : C := (.seq (.reg rQsX0 false [] [0,1]) (.seq (.reg rQsX1 false [] [4]) .ret))
def qQs : AFn := ⟨12,2,[.t 4],cQs⟩
/- cohesion/graph.Check -/
def rQtX0 : List O := [
 oo 1 <| .box (.t 0),
 oo 2 <| .mv (ki 0)]
def rQtX1 : List O := [
 oo 5 <| .fad 0 (.t 1),
 oo 6 <| .ld none (.t 5),
 oo 7 <| .bin .lss (.t 6) (ki 0),
 oo 8 <| .mv (.t 7),
 ⟨(some 9),(some (8,false)),.fad 0 (.t 1)⟩,
 ⟨(some 10),(some (8,false)),.ld none (.t 9)⟩,
 ⟨(some 11),(some (8,false)),.bin .gtr (.t 10) (ki 64)⟩,
 oo 12 <| .pick (.t 8) (.k (.bool true)) (.t 11)]
def rQtX2 : List O := [
 oo 2 <| .mv (ki 1)]
def rQtX3 : List O := [
 oo 13 <| .fad 1 (.t 1),
 oo 14 <| .ld none (.t 13),
 oo 15 <| .len (.t 14),
 oo 16 <| .mv (ki 0)]
def rQtX4 : List O := [
 oo 17 <| .bin .lss (.t 16) (.t 15)]
def rQtX5 : List O := [
 oo 18 <| .mv (.t 16),
 oo 19 <| .ixa 2 (.t 14) (.t 16),
 oo 20 <| .ld (some 2) (.t 19),
 oo 4 <| .new [(.int .i64 0),(.int .i64 0)],
 oo 3 <| .mv (.t 18),
 oz <| .st 2 (.t 4) (.t 20)]
def rQtX6 : List O := [
 oo 22 <| .fad 0 (.t 4),
 oo 23 <| .ld none (.t 22),
 oo 24 <| .bin .lss (.t 23) (ki 0),
 oo 25 <| .mv (.t 24),
 ⟨(some 26),(some (25,false)),.fad 0 (.t 4)⟩,
 ⟨(some 27),(some (25,false)),.ld none (.t 26)⟩,
 ⟨(some 28),(some (25,false)),.fad 1 (.t 4)⟩,
 ⟨(some 29),(some (25,false)),.ld none (.t 28)⟩,
 ⟨(some 30),(some (25,false)),.bin .geq (.t 27) (.t 29)⟩,
 oo 31 <| .pick (.t 25) (.k (.bool true)) (.t 30),
 oo 32 <| .mv (.t 31),
 ⟨(some 33),(some (32,false)),.fad 1 (.t 4)⟩,
 ⟨(some 34),(some (32,false)),.ld none (.t 33)⟩,
 ⟨(some 35),(some (32,false)),.fad 0 (.t 1)⟩,
 ⟨(some 36),(some (32,false)),.ld none (.t 35)⟩,
 ⟨(some 37),(some (32,false)),.bin .geq (.t 34) (.t 36)⟩,
 oo 38 <| .pick (.t 32) (.k (.bool true)) (.t 37),
 oo 21 <| .mv (.t 38)]
def rQtX7 : List O := [
 oo 2 <| .mv (ki 6)]
def rQtX8 : List O := [
 oo 40 <| .mv (.t 3),
 oo 41 <| .bin .gtr (.t 40) (ki 0),
 oo 42 <| .mv (.t 41),
 ⟨(some 43),(some (42,true)),.fad 1 (.t 1)⟩,
 ⟨(some 44),(some (42,true)),.ld none (.t 43)⟩,
 ⟨(some 45),(some (42,true)),.mv (.t 3)⟩,
 ⟨(some 46),(some (42,true)),.bin .sub (.t 45) (ki 1)⟩,
 ⟨(some 47),(some (42,true)),.ixa 2 (.t 44) (.t 46)⟩,
 ⟨(some 48),(some (42,true)),.ld (some 2) (.t 47)⟩,
 ⟨(some 49),(some (42,true)),.ld (some 2) (.t 4)⟩,
 ⟨(some 50),(some (42,true)),.call nQF [(.t 48),(.t 49)]⟩,
 ⟨(some 51),(some (42,true)),.bin .geq (.t 50) (ki 0)⟩,
 oo 52 <| .pick (.t 42) (.t 51) (.k (.bool false)),
 oo 39 <| .mv (.t 52)]
def rQtX9 : List O := [
 oo 2 <| .mv (ki 5)]
def rQtX10 : List O := [
 oo 53 <| .bin .add (.t 16) (ki 1),
 oo 16 <| .mv (.t 53)]
def lQtX0 : C := (.seq (.reg rQtX4 false [] [1,14,15,16,17]) (.seq (.cond (.t 17) .skip (.exit 0)) (.seq (.blk 1 (.seq (.reg rQtX5 false [] [1,3,4,14,15,16]) (.blk 2 (.seq (.reg rQtX6 false [] [1,3,4,14,15,16,21]) (.cond (.t 21) (.seq (.reg rQtX7 false [] [2]) .ret) (.seq (.reg rQtX8 true [(0,0),(1,1),(2,2),(10,10),(11,11),(12,12),(13,13),(4,5),(4,6),(3,9),(4,9),(5,9),(6,9),(7,9),(8,9)] [1,14,15,16,39]) (.cond (.t 39) (.seq (.reg rQtX9 false [] [2]) .ret) .skip))))))) (.reg rQtX10 false [] [1,14,15,16]))))
def rQtX11 : List O := [
 oo 2 <| .mv (ki 0)]
def cQt : C := (.seq (.reg rQtX0 false [] [1]) (.seq (.seq (.reg rQtX1 false [] [1,12]) (.cond (.t 12) (.seq (.reg rQtX2 false [] [2]) .ret) .skip)) (.seq (.seq (.reg rQtX3 false [] [1,14,15,16]) (.blk 0 (.loop lQtX0))) (.seq (.reg rQtX11 false [] [2]) .ret))))
def qQt : AFn := ⟨54,1,[.t 2],cQt⟩
/- cohesion/cohesionref03.Check -/
def rQuX0 : List O := [
 oo 1 <| .box (.t 0),
 oo 2 <| .mv (ki 0)]
def rQuX1 : List O := [
 oo 5 <| .fad 0 (.t 1),
 oo 6 <| .ld none (.t 5),
 oo 7 <| .bin .lss (.t 6) (ki 0),
 oo 8 <| .mv (.t 7),
 ⟨(some 9),(some (8,false)),.fad 0 (.t 1)⟩,
 ⟨(some 10),(some (8,false)),.ld none (.t 9)⟩,
 ⟨(some 11),(some (8,false)),.bin .gtr (.t 10) (ki 64)⟩,
 oo 12 <| .pick (.t 8) (.k (.bool true)) (.t 11)]
def rQuX2 : List O := [
 oo 2 <| .mv (ki 1)]
def rQuX3 : List O := [
 oo 13 <| .fad 1 (.t 1),
 oo 14 <| .ld none (.t 13),
 oo 15 <| .len (.t 14),
 oo 16 <| .mv (ki 0)]
def rQuX4 : List O := [
 oo 17 <| .bin .lss (.t 16) (.t 15)]
def rQuX5 : List O := [
 oo 18 <| .mv (.t 16),
 oo 19 <| .ixa 2 (.t 14) (.t 16),
 oo 20 <| .ld (some 2) (.t 19),
 oo 4 <| .new [(.int .i64 0),(.int .i64 0)],
 oo 3 <| .mv (.t 18),
 oz <| .st 2 (.t 4) (.t 20)]
def rQuX6 : List O := [
 oo 21 <| .fad 0 (.t 4),
 oo 22 <| .ld none (.t 21),
 oo 23 <| .bin .lss (.t 22) (ki 0),
 oo 24 <| .mv (.t 23),
 ⟨(some 25),(some (24,false)),.fad 0 (.t 4)⟩,
 ⟨(some 26),(some (24,false)),.ld none (.t 25)⟩,
 ⟨(some 27),(some (24,false)),.fad 1 (.t 4)⟩,
 ⟨(some 28),(some (24,false)),.ld none (.t 27)⟩,
 ⟨(some 29),(some (24,false)),.bin .geq (.t 26) (.t 28)⟩,
 oo 30 <| .pick (.t 24) (.k (.bool true)) (.t 29),
 oo 31 <| .mv (.t 30),
 ⟨(some 32),(some (31,false)),.fad 1 (.t 4)⟩,
 ⟨(some 33),(some (31,false)),.ld none (.t 32)⟩,
 ⟨(some 34),(some (31,false)),.fad 0 (.t 1)⟩,
 ⟨(some 35),(some (31,false)),.ld none (.t 34)⟩,
 ⟨(some 36),(some (31,false)),.bin .geq (.t 33) (.t 35)⟩,
 oo 37 <| .pick (.t 31) (.k (.bool true)) (.t 36)]
def rQuX7 : List O := [
 oo 2 <| .mv (ki 6)]
def rQuX8 : List O := [
 oo 38 <| .mv (.t 3),
 oo 39 <| .bin .gtr (.t 38) (ki 0),
 oo 40 <| .mv (.t 39),
 ⟨(some 41),(some (40,true)),.fad 1 (.t 1)⟩,
 ⟨(some 42),(some (40,true)),.ld none (.t 41)⟩,
 ⟨(some 43),(some (40,true)),.mv (.t 3)⟩,
 ⟨(some 44),(some (40,true)),.bin .sub (.t 43) (ki 1)⟩,
 ⟨(some 45),(some (40,true)),.ixa 2 (.t 42) (.t 44)⟩,
 ⟨(some 46),(some (40,true)),.ld (some 2) (.t 45)⟩,
 ⟨(some 47),(some (40,true)),.ld (some 2) (.t 4)⟩,
 ⟨(some 48),(some (40,true)),.call nQG [(.t 46),(.t 47)]⟩,
 ⟨(some 49),(some (40,true)),.un .not (.t 48)⟩,
 oo 50 <| .pick (.t 40) (.t 49) (.k (.bool false))]
def rQuX9 : List O := [
 oo 2 <| .mv (ki 5)]
def rQuX10 : List O := [
 oo 51 <| .bin .add (.t 16) (ki 1),
 oo 16 <| .mv (.t 51)]
def lQuX0 : C := (.seq (.reg rQuX4 false [] [1,14,15,16,17]) (.seq (.cond (.t 17) .skip (.exit 0)) (.seq (.blk 1 (.seq (.reg rQuX5 false [] [1,3,4,14,15,16]) (.seq (.seq (.reg rQuX6 false [] [1,3,4,14,15,16,37]) (.cond (.t 37) (.seq (.reg rQuX7 false [] [2]) .ret) .skip)) (.seq (.reg rQuX8 true [(0,0),(1,1),(2,2),(10,10),(11,11),(12,12),(4,5),(4,6),(3,9),(4,9),(5,9),(6,9),(7,9),(8,9)] [1,14,15,16,50]) (.cond (.t 50) (.seq (.reg rQuX9 false [] [2]) .ret) .skip))))) (.reg rQuX10 false [] [1,14,15,16]))))
def rQuX11 : List O := [
 oo 2 <| .mv (ki 0)]
def cQu : C := (.seq (.reg rQuX0 false [] [1]) (.seq (.seq (.reg rQuX1 false [] [1,12]) (.cond (.t 12) (.seq (.reg rQuX2 false [] [2]) .ret) .skip)) (.seq (.seq (.reg rQuX3 false [] [1,14,15,16]) (.blk 0 (.loop lQuX0))) (.seq (.reg rQuX11 false [] [2]) .ret))))
def qQu : AFn := ⟨52,1,[.t 2],cQu⟩
/- cohesion/cohesionref03.ends -/
def rQvX0 : List O := [
 oo 6 <| .mv (.k (.bool false))]
def rQvX1 : List O := [
 oo 7 <| .mv (.t 1),
 oo 8 <| .bin .geq (.t 7) (ki 0),
 oo 9 <| .mv (.t 8),
 ⟨(some 10),(some (9,true)),.mv (.t 2)⟩,
 ⟨(some 11),(some (9,true)),.bin .geq (.t 10) (ki 0)⟩,
 oo 12 <| .pick (.t 9) (.t 11) (.k (.bool false)),
 oo 13 <| .mv (.t 12),
 ⟨(some 14),(some (13,true)),.mv (.t 1)⟩,
 ⟨(some 15),(some (13,true)),.mv (.t 0)⟩,
 ⟨(some 16),(some (13,true)),.bin .lss (.t 14) (.t 15)⟩,
 oo 17 <| .pick (.t 13) (.t 16) (.k (.bool false)),
 oo 18 <| .mv (.t 17),
 ⟨(some 19),(some (18,true)),.mv (.t 2)⟩,
 ⟨(some 20),(some (18,true)),.mv (.t 0)⟩,
 ⟨(some 21),(some (18,true)),.bin .lss (.t 19) (.t 20)⟩,
 oo 22 <| .pick (.t 18) (.t 21) (.k (.bool false)),
 oo 23 <| .mv (.t 22),
 ⟨(some 24),(some (23,true)),.mv (.t 1)⟩,
 ⟨(some 25),(some (23,true)),.mv (.t 2)⟩,
 ⟨(some 26),(some (23,true)),.bin .neq (.t 24) (.t 25)⟩,
 oo 27 <| .pick (.t 23) (.t 26) (.k (.bool false)),
 oo 6 <| .mv (.t 27)]
def cQv : C := (.seq (.reg rQvX0 false [] [0,1,2]) (.seq (.reg rQvX1 false [] [6]) .ret))
def qQv : AFn := ⟨28,3,[.t 6],cQv⟩
/- cohesion/cohesionref03.Find -/
def rQwX0 : List O := [
 oo 3 <| .box (.t 0),
 oo 6 <| .mv (ki 0)]
def rQwX1 : List O := [
 oo 9 <| .ld (some 2) (.t 3),
 oo 10 <| .call nQu [(.t 9)],
 oo 11 <| .bin .neq (.t 10) (ki 0)]
def rQwX2 : List O := [
 oo 6 <| .mv (.k (.int .i64 (-1)))]
def rQwX3 : List O := [
 oo 12 <| .fad 1 (.t 3),
 oo 13 <| .ld none (.t 12),
 oo 14 <| .len (.t 13),
 oo 15 <| .mv (ki 0)]
def rQwX4 : List O := [
 oo 16 <| .bin .lss (.t 15) (.t 14)]
def rQwX5 : List O := [
 oo 17 <| .mv (.t 15),
 oo 18 <| .ixa 2 (.t 13) (.t 15),
 oo 19 <| .ld (some 2) (.t 18),
 oo 8 <| .new [(.int .i64 0),(.int .i64 0)],
 oo 7 <| .mv (.t 17),
 oz <| .st 2 (.t 8) (.t 19)]
def rQwX6 : List O := [
 oo 20 <| .ld (some 2) (.t 8),
 oo 21 <| .mv (.t 1),
 oo 22 <| .mv (.t 2),
 oo 23 <| .call nQx [(.t 21),(.t 22)],
 oo 24 <| .eq false (.str [true,true]) (.t 20) (.t 23)]
def rQwX7 : List O := [
 oo 25 <| .mv (.t 7),
 oo 6 <| .mv (.t 25)]
def rQwX8 : List O := [
 oo 26 <| .bin .add (.t 15) (ki 1),
 oo 15 <| .mv (.t 26)]
def lQwX0 : C := (.seq (.reg rQwX4 false [] [1,2,13,14,15,16]) (.seq (.cond (.t 16) .skip (.exit 0)) (.seq (.blk 1 (.seq (.reg rQwX5 false [] [1,2,7,8,13,14,15]) (.seq (.reg rQwX6 true [(4,4),(0,1),(0,2),(0,3)] [1,2,7,13,14,15,24]) (.cond (.t 24) (.seq (.reg rQwX7 false [] [6]) .ret) .skip)))) (.reg rQwX8 false [] [1,2,13,14,15]))))
def rQwX9 : List O := [
 oo 6 <| .mv (.k (.int .i64 (-1)))]
def cQw : C := (.seq (.reg rQwX0 false [] [1,2,3]) (.seq (.seq (.reg rQwX1 false [] [1,2,3,11]) (.cond (.t 11) (.seq (.reg rQwX2 false [] [6]) .ret) .skip)) (.seq (.seq (.reg rQwX3 false [] [1,2,13,14,15]) (.blk 0 (.loop lQwX0))) (.seq (.reg rQwX9 false [] [6]) .ret))))
def qQw : AFn := ⟨27,3,[.t 6],cQw⟩
/- cohesion/cohesionref03.edge -/
def rQxX0 : List O := [
 oo 4 <| .new [(.int .i64 0),(.int .i64 0)]]
def rQxX1 : List O := [
 oo 5 <| .mv (.t 0),
 oo 6 <| .mv (.t 1),
 oo 7 <| .min [(.t 5),(.t 6)],
 oo 8 <| .mv (.t 0),
 oo 9 <| .mv (.t 1),
 oo 10 <| .max [(.t 8),(.t 9)],
 oo 11 <| .build [(.int .i64 0),(.int .i64 0)] [(0,1,(.t 7)),(1,1,(.t 10))],
 oz <| .st 2 (.t 4) (.t 11)]
def cQx : C := (.seq (.reg rQxX0 false [] [0,1,4]) (.seq (.reg rQxX1 false [] [4]) .ret))
def qQx : AFn := ⟨12,2,[.c 4 (some 2)],cQx⟩
/- cohesion/maxclique.masks -/
def rQyX0 : List O := [
 oo 1 <| .box (.t 0),
 oo 2 <| .mv (.k (.own 1 []))]
def rQyX1 : List O := [
 oo 6 <| .fad 0 (.t 1),
 oo 7 <| .ld none (.t 6),
 oo 8 <| .mks 1 [(.int .u64 0)] (.t 7) (.t 7),
 oo 3 <| .mv (.t 8)]
def rQyX2 : List O := [
 oo 9 <| .fad 1 (.t 1),
 oo 10 <| .ld none (.t 9),
 oo 11 <| .len (.t 10),
 oo 12 <| .mv (ki 0)]
def rQyX3 : List O := [
 oo 13 <| .bin .lss (.t 12) (.t 11)]
def rQyX4 : List O := [
 oo 14 <| .ixa 2 (.t 10) (.t 12),
 oo 15 <| .ld (some 2) (.t 14),
 oo 5 <| .new [(.int .i64 0),(.int .i64 0)],
 oz <| .st 2 (.t 5) (.t 15)]
def rQyX5 : List O := [
 oo 16 <| .mv (.t 3),
 oo 17 <| .fad 0 (.t 5),
 oo 18 <| .ld none (.t 17),
 oo 19 <| .ixa 1 (.t 16) (.t 18),
 oo 20 <| .ld none (.t 19),
 oo 21 <| .fad 1 (.t 5),
 oo 22 <| .ld none (.t 21),
 oo 23 <| .bin .shl (.k (.int .u64 1)) (.t 22),
 oo 24 <| .bin .or (.t 20) (.t 23),
 oo 25 <| .ixa 1 (.t 16) (.t 18),
 oz <| .st 1 (.t 25) (.t 24)]
def rQyX6 : List O := [
 oo 26 <| .mv (.t 3),
 oo 27 <| .fad 1 (.t 5),
 oo 28 <| .ld none (.t 27),
 oo 29 <| .ixa 1 (.t 26) (.t 28),
 oo 30 <| .ld none (.t 29),
 oo 31 <| .fad 0 (.t 5),
 oo 32 <| .ld none (.t 31),
 oo 33 <| .bin .shl (.k (.int .u64 1)) (.t 32),
 oo 34 <| .bin .or (.t 30) (.t 33),
 oo 35 <| .ixa 1 (.t 26) (.t 28),
 oz <| .st 1 (.t 35) (.t 34)]
def rQyX7 : List O := [
 oo 36 <| .bin .add (.t 12) (ki 1),
 oo 12 <| .mv (.t 36)]
def lQyX0 : C := (.seq (.reg rQyX3 false [] [3,10,11,12,13]) (.seq (.cond (.t 13) .skip (.exit 0)) (.seq (.blk 1 (.seq (.reg rQyX4 false [] [3,5,10,11,12]) (.seq (.reg rQyX5 true [(8,8),(9,9),(10,10),(0,2),(2,5),(4,5),(0,6),(1,6),(2,6),(3,6),(4,6),(2,7),(4,7)] [3,5,10,11,12]) (.reg rQyX6 true [(8,8),(9,9),(10,10),(0,2),(2,5),(4,5),(0,6),(1,6),(2,6),(3,6),(4,6),(2,7),(4,7)] [3,10,11,12])))) (.reg rQyX7 false [] [3,10,11,12]))))
def rQyX8 : List O := [
 oo 37 <| .mv (.t 3),
 oo 2 <| .mv (.t 37)]
def cQy : C := (.seq (.reg rQyX0 false [] [1]) (.seq (.reg rQyX1 false [] [1,3]) (.seq (.seq (.reg rQyX2 false [] [3,10,11,12]) (.blk 0 (.loop lQyX0))) (.seq (.reg rQyX8 false [] [2]) .ret))))
def qQy : AFn := ⟨38,1,[.t 2],cQy⟩
/- cohesion/maxclique.longest -/
def rQzX0 : List O := [
 oo 3 <| .box (.t 0),
 oo 6 <| .mv (ki 0)]
def rQzX1 : List O := [
 oo 9 <| .mv (.t 2),
 oo 7 <| .new [(.int .i64 0)],
 oz <| .st 1 (.t 7) (.t 9)]
def rQzX2 : List O := [
 oo 8 <| .new [.nilf]]
def rQzX3 : List O := [
 oo 10 <| .mkf (.func nQH) [] [(.t 7),(.t 3),(.t 8)],
 oz <| .st 1 (.t 8) (.t 10)]
def rQzX4 : List O := [
 oo 11 <| .ld none (.t 8),
 oo 12 <| .mv (.t 1),
 oo 13 <| .callv (.t 11) [(.t 12),(ki 0)]]
def rQzX5 : List O := [
 oo 14 <| .ld none (.t 7),
 oo 6 <| .mv (.t 14)]
def cQz : C := (.seq (.reg rQzX0 false [] [1,2,3]) (.seq (.reg rQzX1 false [] [1,3,7]) (.seq (.reg rQzX2 false [] [1,3,7,8]) (.seq (.reg rQzX3 false [] [1,7,8]) (.seq (.reg rQzX4 false [] [7]) (.seq (.reg rQzX5 false [] [6]) .ret))))))
def qQz : AFn := ⟨15,3,[.t 6],cQz⟩
/- math/bits.TrailingZeros64 -/
def rQAX0 : List O := [
 oo 2 <| .mv (ki 0)]
def rQAX1 : List O := [
 oo 3 <| .mv (.t 0),
 oo 4 <| .bin .eql (.t 3) (.k (.int .u64 0))]
def rQAX2 : List O := [
 oo 2 <| .mv (ki 64)]
def rQAX3 : List O := [
 oo 5 <| .mv (.t 0),
 oo 6 <| .mv (.t 0),
 oo 7 <| .un .neg (.t 6),
 oo 8 <| .bin .and (.t 5) (.t 7),
 oo 9 <| .bin .mul (.t 8) (.k (.int .u64 285870213051353865)),
 oo 10 <| .bin .shr (.t 9) (.k (.int .u64 58)),
 oo 11 <| .ixp 64 1 (.g 0) (.t 10),
 oo 12 <| .ld none (.t 11),
 oo 13 <| .cvt .i64 (.t 12),
 oo 2 <| .mv (.t 13)]
def cQA : C := (.seq (.reg rQAX0 false [] [0]) (.seq (.seq (.reg rQAX1 false [] [0,4]) (.cond (.t 4) (.seq (.reg rQAX2 false [] [2]) .ret) .skip)) (.seq (.reg rQAX3 false [] [2]) .ret)))
def qQA : AFn := ⟨14,1,[.t 2],cQA⟩
/- cohesion/cohesionref03.with -/
def rQBX0 : List O := [
 oo 3 <| .box (.t 1),
 oo 4 <| .mv (.k (.own 2 []))]
def rQBX1 : List O := [
 oo 5 <| .mv (ki 0)]
def rQBX2 : List O := [
 oo 7 <| .mv (.t 5),
 oo 8 <| .mv (.t 0),
 oo 9 <| .len (.t 8),
 oo 10 <| .bin .lss (.t 7) (.t 9),
 oo 11 <| .mv (.t 10),
 ⟨(some 12),(some (11,true)),.mv (.t 0)⟩,
 ⟨(some 13),(some (11,true)),.mv (.t 5)⟩,
 ⟨(some 14),(some (11,true)),.ixa 2 (.t 12) (.t 13)⟩,
 ⟨(some 15),(some (11,true)),.ld (some 2) (.t 14)⟩,
 ⟨(some 16),(some (11,true)),.ld (some 2) (.t 3)⟩,
 ⟨(some 17),(some (11,true)),.call nQG [(.t 15),(.t 16)]⟩,
 oo 18 <| .pick (.t 11) (.t 17) (.k (.bool false))]
def rQBX3 : List O := [
 oo 19 <| .mv (.t 5),
 oo 20 <| .bin .add (.t 19) (ki 1),
 oo 5 <| .mv (.t 20)]
def lQBX0 : C := (.seq (.seq (.reg rQBX2 true [(3,3),(4,4),(10,10),(11,11),(5,9),(6,9),(7,9),(8,9)] [0,3,5,18]) (.cond (.t 18) .skip (.exit 0))) (.blk 1 (.reg rQBX3 false [] [0,3,5])))
def rQBX4 : List O := [
 oo 21 <| .mv (.t 5),
 oo 22 <| .mv (.t 0),
 oo 23 <| .len (.t 22),
 oo 24 <| .bin .lss (.t 21) (.t 23),
 oo 25 <| .mv (.t 24),
 ⟨(some 26),(some (25,true)),.mv (.t 0)⟩,
 ⟨(some 27),(some (25,true)),.mv (.t 5)⟩,
 ⟨(some 28),(some (25,true)),.ixa 2 (.t 26) (.t 27)⟩,
 ⟨(some 29),(some (25,true)),.ld (some 2) (.t 28)⟩,
 ⟨(some 30),(some (25,true)),.ld (some 2) (.t 3)⟩,
 ⟨(some 31),(some (25,true)),.eq false (.str [true,true]) (.t 29) (.t 30)⟩,
 oo 32 <| .pick (.t 25) (.t 31) (.k (.bool false))]
def rQBX5 : List O := [
 oo 33 <| .mv (.t 0),
 oo 4 <| .mv (.t 33)]
def rQBX6 : List O := [
 oo 34 <| .mv (.t 0),
 oo 35 <| .mv (.t 5),
 oo 36 <| .slc 2 (.t 34) none (some (.t 35)),
 oo 37 <| .app 2 (.k (.own 2 [])) (.t 36),
 oo 6 <| .mv (.t 37)]
def rQBX7 : List O := [
 oo 38 <| .mv (.t 6),
 oo 39 <| .ld (some 2) (.t 3),
 oo 40 <| .bslice 2 1 [(.int .i64 0),(.int .i64 0)] [(0,2,(.t 39))],
 oo 41 <| .app 2 (.t 38) (.t 40),
 oo 42 <| .mv (.t 0),
 oo 43 <| .mv (.t 5),
 oo 44 <| .slc 2 (.t 42) (some (.t 43)) none,
 oo 45 <| .app 2 (.t 41) (.t 44),
 oo 4 <| .mv (.t 45)]
def cQB : C := (.seq (.reg rQBX0 false [] [0,3]) (.seq (.reg rQBX1 false [] [0,3,5]) (.seq (.blk 0 (.loop lQBX0)) (.seq (.seq (.reg rQBX4 true [(3,3),(4,4),(10,10),(11,11),(5,9),(6,9),(7,9),(8,9)] [0,3,5,32]) (.cond (.t 32) (.seq (.reg rQBX5 false [] [4]) .ret) .skip)) (.seq (.reg rQBX6 false [] [0,3,5,6]) (.seq (.reg rQBX7 true [(7,7),(8,8),(0,1),(0,2),(1,4),(2,4),(3,4),(1,5),(2,5),(3,5),(1,6),(2,6),(3,6)] [4]) .ret))))))
def qQB : AFn := ⟨46,2,[.t 4],cQB⟩
/- cohesion/cohesionref24.List -/
def rQCX0 : List O := [
 oo 2 <| .box (.t 0),
 oo 4 <| .mv (.k (.own 1 []))]
def rQCX1 : List O := [
 oo 5 <| .mv (.k (.own 1 []))]
def rQCX2 : List O := [
 oo 7 <| .ld (some 2) (.t 2),
 oo 8 <| .mv (.t 5),
 oo 9 <| .mv (.t 1),
 oo 10 <| .call nQK [(.t 7),(.k (.own 1 [])),(ki 0),(.t 8),(.t 9)],
 oo 6 <| .mv (.t 10)]
def rQCX3 : List O := [
 oo 11 <| .mv (.t 6),
 oo 4 <| .mv (.t 11)]
def cQC : C := (.seq (.reg rQCX0 false [] [1,2]) (.seq (.reg rQCX1 false [] [1,2,5]) (.seq (.reg rQCX2 false [] [6]) (.seq (.reg rQCX3 false [] [4]) .ret))))
def qQC : AFn := ⟨12,2,[.t 4],cQC⟩
/- cohesion/cliques.Is -/
def rQDX0 : List O := [
 oo 2 <| .box (.t 0),
 oo 4 <| .mv (.k (.bool false))]
def rQDX1 : List O := [
 oo 5 <| .ld (some 2) (.t 2),
 oo 6 <| .call nQt [(.t 5)],
 oo 7 <| .bin .eql (.t 6) (ki 0),
 oo 8 <| .mv (.t 7),
 ⟨(some 9),(some (8,true)),.mv (.t 1)⟩,
 ⟨(some 10),(some (8,true)),.fad 0 (.t 2)⟩,
 ⟨(some 11),(some (8,true)),.ld none (.t 10)⟩,
 ⟨(some 12),(some (8,true)),.call nQL [(.t 9),(.t 11)]⟩,
 oo 13 <| .pick (.t 8) (.t 12) (.k (.bool false)),
 oo 14 <| .mv (.t 13),
 ⟨(some 15),(some (14,true)),.ld (some 2) (.t 2)⟩,
 ⟨(some 16),(some (14,true)),.call nQN [(.t 15)]⟩,
 ⟨(some 17),(some (14,true)),.mv (.t 1)⟩,
 ⟨(some 18),(some (14,true)),.call nQM [(.t 16),(.t 17)]⟩,
 oo 19 <| .pick (.t 14) (.t 18) (.k (.bool false)),
 oo 4 <| .mv (.t 19)]
def cQD : C := (.seq (.reg rQDX0 false [] [1,2]) (.seq (.reg rQDX1 false [] [4]) .ret))
def qQD : AFn := ⟨20,2,[.t 4],cQD⟩
/- cohesion/cohesionref02.Valid -/
def rQEX0 : List O := [
 oo 4 <| .mv (.k (.bool false))]
def rQEX1 : List O := [
 oo 7 <| .mv (.t 0),
 oo 8 <| .len (.t 7),
 oo 9 <| .mv (ki 0)]
def rQEX2 : List O := [
 oo 10 <| .bin .lss (.t 9) (.t 8)]
def rQEX3 : List O := [
 oo 11 <| .mv (.t 9),
 oo 12 <| .ixa 1 (.t 7) (.t 9),
 oo 13 <| .ld none (.t 12),
 oo 5 <| .mv (.t 11),
 oo 6 <| .mv (.t 13)]
def rQEX4 : List O := [
 oo 14 <| .mv (.t 6),
 oo 15 <| .bin .lss (.t 14) (ki 0),
 oo 16 <| .mv (.t 15),
 ⟨(some 17),(some (16,false)),.mv (.t 6)⟩,
 ⟨(some 18),(some (16,false)),.mv (.t 1)⟩,
 ⟨(some 19),(some (16,false)),.bin .geq (.t 17) (.t 18)⟩,
 oo 20 <| .pick (.t 16) (.k (.bool true)) (.t 19),
 oo 21 <| .mv (.t 20),
 ⟨(some 22),(some (21,false)),.mv (.t 5)⟩,
 ⟨(some 23),(some (21,false)),.bin .gtr (.t 22) (ki 0)⟩,
 ⟨(some 24),(some (21,false)),.mv (.t 23)⟩,
 ⟨(some 25),(some (24,true)),.mv (.t 0)⟩,
 ⟨(some 26),(some (24,true)),.mv (.t 5)⟩,
 ⟨(some 27),(some (24,true)),.bin .sub (.t 26) (ki 1)⟩,
 ⟨(some 28),(some (24,true)),.ixa 1 (.t 25) (.t 27)⟩,
 ⟨(some 29),(some (24,true)),.ld none (.t 28)⟩,
 ⟨(some 30),(some (24,true)),.mv (.t 6)⟩,
 ⟨(some 31),(some (24,true)),.bin .geq (.t 29) (.t 30)⟩,
 ⟨(some 32),(some (21,false)),.pick (.t 24) (.t 31) (.k (.bool false))⟩,
 oo 33 <| .pick (.t 21) (.k (.bool true)) (.t 32)]
def rQEX5 : List O := [
 oo 4 <| .mv (.k (.bool false))]
def rQEX6 : List O := [
 oo 34 <| .bin .add (.t 9) (ki 1),
 oo 9 <| .mv (.t 34)]
def lQEX0 : C := (.seq (.reg rQEX2 false [] [0,1,7,8,9,10]) (.seq (.cond (.t 10) .skip (.exit 0)) (.seq (.blk 1 (.seq (.reg rQEX3 false [] [0,1,5,6,7,8,9]) (.seq (.reg rQEX4 false [] [0,1,7,8,9,33]) (.cond (.t 33) (.seq (.reg rQEX5 false [] [4]) .ret) .skip)))) (.reg rQEX6 false [] [0,1,7,8,9]))))
def rQEX7 : List O := [
 oo 4 <| .mv (.k (.bool true))]
def cQE : C := (.seq (.reg rQEX0 false [] [0,1]) (.seq (.seq (.reg rQEX1 false [] [0,1,7,8,9]) (.blk 0 (.loop lQEX0))) (.seq (.reg rQEX7 false [] [4]) .ret)))
def qQE : AFn := ⟨35,2,[.t 4],cQE⟩
/- cohesion/graph.Order -/
def rQFX0 : List O := [
 oo 2 <| .box (.t 0),
 oo 3 <| .box (.t 1),
 oo 4 <| .mv (ki 0)]
def rQFX1 : List O := [
 oo 5 <| .fad 0 (.t 2),
 oo 6 <| .ld none (.t 5),
 oo 7 <| .fad 0 (.t 3),
 oo 8 <| .ld none (.t 7),
 oo 9 <| .call nQP [(.t 6),(.t 8)],
 oo 10 <| .fad 1 (.t 2),
 oo 11 <| .ld none (.t 10),
 oo 12 <| .fad 1 (.t 3),
 oo 13 <| .ld none (.t 12),
 oo 14 <| .call nQP [(.t 11),(.t 13)],
 oo 15 <| .bslice 1 2 [(.int .i64 0)] [(0,1,(.t 9)),(1,1,(.t 14))],
 oo 16 <| .call nQO [(.t 15)],
 oo 4 <| .mv (.t 16)]
def cQF : C := (.seq (.reg rQFX0 false [] [2,3]) (.seq (.reg rQFX1 true [(9,9),(10,10),(11,11),(12,12),(1,2),(0,3),(1,3),(1,5),(3,5),(4,5),(0,6),(1,6),(2,6),(3,6),(4,6),(1,7),(3,7),(4,7),(6,7),(0,8),(1,8),(2,8),(3,8),(4,8),(5,8),(6,8)] [4]) .ret))
def qQF : AFn := ⟨17,2,[.t 4],cQF⟩
/- cohesion/cohesionref03.Before -/
def rQGX0 : List O := [
 oo 2 <| .box (.t 0),
 oo 3 <| .box (.t 1),
 oo 4 <| .mv (.k (.bool false))]
def rQGX1 : List O := [
 oo 5 <| .fad 0 (.t 2),
 oo 6 <| .ld none (.t 5),
 oo 7 <| .fad 0 (.t 3),
 oo 8 <| .ld none (.t 7),
 oo 9 <| .bin .lss (.t 6) (.t 8),
 oo 10 <| .mv (.t 9),
 ⟨(some 11),(some (10,false)),.fad 0 (.t 2)⟩,
 ⟨(some 12),(some (10,false)),.ld none (.t 11)⟩,
 ⟨(some 13),(some (10,false)),.fad 0 (.t 3)⟩,
 ⟨(some 14),(some (10,false)),.ld none (.t 13)⟩,
 ⟨(some 15),(some (10,false)),.bin .eql (.t 12) (.t 14)⟩,
 ⟨(some 16),(some (10,false)),.mv (.t 15)⟩,
 ⟨(some 17),(some (16,true)),.fad 1 (.t 2)⟩,
 ⟨(some 18),(some (16,true)),.ld none (.t 17)⟩,
 ⟨(some 19),(some (16,true)),.fad 1 (.t 3)⟩,
 ⟨(some 20),(some (16,true)),.ld none (.t 19)⟩,
 ⟨(some 21),(some (16,true)),.bin .lss (.t 18) (.t 20)⟩,
 ⟨(some 22),(some (10,false)),.pick (.t 16) (.t 21) (.k (.bool false))⟩,
 oo 23 <| .pick (.t 10) (.k (.bool true)) (.t 22),
 oo 4 <| .mv (.t 23)]
def cQG : C := (.seq (.reg rQGX0 false [] [2,3]) (.seq (.reg rQGX1 false [] [4]) .ret))
def qQG : AFn := ⟨24,2,[.t 4],cQG⟩
/- cohesion/maxclique.longest$1 -/
def rQHX0 : List O := [
 oo 8 <| .ld none (.t 2),
 oo 9 <| .mv (.t 1),
 oo 10 <| .max [(.t 8),(.t 9)],
 oz <| .st 1 (.t 2) (.t 10)]
def rQHX1 : List O := [
 oo 11 <| .mv (.t 0),
 oo 12 <| .bin .neq (.t 11) (.k (.int .u64 0))]
def rQHX2 : List O := [
 oo 13 <| .mv (.t 1),
 oo 14 <| .mv (.t 0),
 oo 15 <| .call nQI [(.t 14)],
 oo 16 <| .bin .add (.t 13) (.t 15),
 oo 17 <| .ld none (.t 2),
 oo 18 <| .bin .leq (.t 16) (.t 17),
 oo 19 <| .mv (.t 18),
 ⟨(some 20),(some (19,false)),.mv (.t 1)⟩,
 ⟨(some 21),(some (19,false)),.ld none (.t 3)⟩,
 ⟨(some 22),(some (19,false)),.mv (.t 0)⟩,
 ⟨(some 23),(some (19,false)),.call nQJ [(.t 21),(.t 22)]⟩,
 ⟨(some 24),(some (19,false)),.bin .add (.t 20) (.t 23)⟩,
 ⟨(some 25),(some (19,false)),.ld none (.t 2)⟩,
 ⟨(some 26),(some (19,false)),.bin .leq (.t 24) (.t 25)⟩,
 oo 27 <| .pick (.t 19) (.k (.bool true)) (.t 26)]
def rQHX3 : List O := [
 oo 28 <| .mv (.t 0),
 oo 29 <| .call nQA [(.t 28)],
 oo 7 <| .mv (.t 29)]
def rQHX4 : List O := [
 oo 30 <| .mv (.t 0),
 oo 31 <| .mv (.t 7),
 oo 32 <| .bin .shl (.k (.int .u64 1)) (.t 31),
 oo 33 <| .bin .andNot (.t 30) (.t 32),
 oo 0 <| .mv (.t 33)]
def rQHX5 : List O := [
 oo 34 <| .ld none (.t 4),
 oo 35 <| .mv (.t 0),
 oo 36 <| .ld none (.t 3),
 oo 37 <| .mv (.t 7),
 oo 38 <| .ixa 1 (.t 36) (.t 37),
 oo 39 <| .ld none (.t 38),
 oo 40 <| .bin .and (.t 35) (.t 39),
 oo 41 <| .mv (.t 1),
 oo 42 <| .bin .add (.t 41) (ki 1),
 oo 43 <| .callv (.t 34) [(.t 40),(.t 42)]]
def lQHX0 : C := (.seq (.seq (.reg rQHX1 false [] [0,1,2,3,4,12]) (.cond (.t 12) .skip (.exit 0))) (.blk 1 (.seq (.seq (.reg rQHX2 true [(5,5),(6,6),(13,13),(14,14),(0,2),(0,4),(1,4),(2,4),(3,4),(7,8),(8,9),(7,10),(7,12),(8,12),(9,12),(10,12),(11,12)] [0,1,2,3,4,27]) (.cond (.t 27) (.exit 0) .skip)) (.seq (.reg rQHX3 false [] [0,1,2,3,4,7]) (.seq (.reg rQHX4 false [] [0,1,2,3,4,7]) (.reg rQHX5 true [(9,9),(0,1),(0,2),(1,2),(0,3),(2,3),(0,4),(0,5),(1,5),(0,6),(0,7),(2,7),(5,7),(0,8),(2,8),(5,8)] [0,1,2,3,4]))))))
def cQH : C := (.seq .skip (.seq (.reg rQHX0 false [] [0,1,2,3,4]) (.seq .skip (.blk 0 (.loop lQHX0)))))
def qQH : AFn := ⟨44,2,[],cQH⟩
/- math/bits.OnesCount64 -/
def rQIX0 : List O := [
 oo 2 <| .mv (ki 0)]
def rQIX1 : List O := [
 oo 3 <| .mv (.t 0),
 oo 4 <| .bin .shr (.t 3) (.k (.int .u64 1)),
 oo 5 <| .bin .and (.t 4) (.k (.int .u64 6148914691236517205)),
 oo 6 <| .mv (.t 0),
 oo 7 <| .bin .and (.t 6) (.k (.int .u64 6148914691236517205)),
 oo 8 <| .bin .add (.t 5) (.t 7),
 oo 0 <| .mv (.t 8)]
def rQIX2 : List O := [
 oo 9 <| .mv (.t 0),
 oo 10 <| .bin .shr (.t 9) (.k (.int .u64 2)),
 oo 11 <| .bin .and (.t 10) (.k (.int .u64 3689348814741910323)),
 oo 12 <| .mv (.t 0),
 oo 13 <| .bin .and (.t 12) (.k (.int .u64 3689348814741910323)),
 oo 14 <| .bin .add (.t 11) (.t 13),
 oo 0 <| .mv (.t 14)]
def rQIX3 : List O := [
 oo 15 <| .mv (.t 0),
 oo 16 <| .bin .shr (.t 15) (.k (.int .u64 4)),
 oo 17 <| .mv (.t 0),
 oo 18 <| .bin .add (.t 16) (.t 17),
 oo 19 <| .bin .and (.t 18) (.k (.int .u64 1085102592571150095)),
 oo 0 <| .mv (.t 19)]
def rQIX4 : List O := [
 oo 20 <| .mv (.t 0),
 oo 21 <| .mv (.t 0),
 oo 22 <| .bin .shr (.t 21) (.k (.int .u64 8)),
 oo 23 <| .bin .add (.t 20) (.t 22),
 oo 0 <| .mv (.t 23)]
def rQIX5 : List O := [
 oo 24 <| .mv (.t 0),
 oo 25 <| .mv (.t 0),
 oo 26 <| .bin .shr (.t 25) (.k (.int .u64 16)),
 oo 27 <| .bin .add (.t 24) (.t 26),
 oo 0 <| .mv (.t 27)]
def rQIX6 : List O := [
 oo 28 <| .mv (.t 0),
 oo 29 <| .mv (.t 0),
 oo 30 <| .bin .shr (.t 29) (.k (.int .u64 32)),
 oo 31 <| .bin .add (.t 28) (.t 30),
 oo 0 <| .mv (.t 31)]
def rQIX7 : List O := [
 oo 32 <| .mv (.t 0),
 oo 33 <| .cvt .i64 (.t 32),
 oo 34 <| .bin .and (.t 33) (ki 127),
 oo 2 <| .mv (.t 34)]
def cQI : C := (.seq (.reg rQIX0 false [] [0]) (.seq (.reg rQIX1 false [] [0]) (.seq (.reg rQIX2 false [] [0]) (.seq (.reg rQIX3 false [] [0]) (.seq (.reg rQIX4 false [] [0]) (.seq (.reg rQIX5 false [] [0]) (.seq (.reg rQIX6 false [] [0]) (.seq (.reg rQIX7 false [] [2]) .ret))))))))
def qQI : AFn := ⟨35,1,[.t 2],cQI⟩
/- cohesion/maxclique.bound -/
def rQJX0 : List O := [
 oo 4 <| .mv (ki 0)]
def rQJX1 : List O := [
 oo 5 <| .mv (ki 0)]
def rQJX2 : List O := [
 oo 8 <| .mv (.t 1),
 oo 9 <| .bin .neq (.t 8) (.k (.int .u64 0))]
def rQJX3 : List O := [
 oo 12 <| .mv (.t 1),
 oo 6 <| .mv (.t 12)]
def rQJX4 : List O := [
 oo 13 <| .mv (.t 6),
 oo 14 <| .bin .neq (.t 13) (.k (.int .u64 0))]
def rQJX5 : List O := [
 oo 15 <| .mv (.t 6),
 oo 16 <| .call nQA [(.t 15)],
 oo 7 <| .mv (.t 16)]
def rQJX6 : List O := [
 oo 17 <| .mv (.t 1),
 oo 18 <| .mv (.t 7),
 oo 19 <| .bin .shl (.k (.int .u64 1)) (.t 18),
 oo 20 <| .bin .andNot (.t 17) (.t 19),
 oo 1 <| .mv (.t 20)]
def rQJX7 : List O := [
 oo 21 <| .mv (.t 6),
 oo 22 <| .mv (.t 7),
 oo 23 <| .bin .shl (.k (.int .u64 1)) (.t 22),
 oo 24 <| .mv (.t 0),
 oo 25 <| .mv (.t 7),
 oo 26 <| .ixa 1 (.t 24) (.t 25),
 oo 27 <| .ld none (.t 26),
 oo 28 <| .bin .or (.t 23) (.t 27),
 oo 29 <| .bin .andNot (.t 21) (.t 28),
 oo 6 <| .mv (.t 29)]
def lQJX0 : C := (.seq (.seq (.reg rQJX4 false [] [0,1,5,6,14]) (.cond (.t 14) .skip (.exit 2))) (.blk 3 (.seq (.reg rQJX5 false [] [0,1,5,6,7]) (.seq (.reg rQJX6 false [] [0,1,5,6,7]) (.reg rQJX7 true [(8,8),(9,9),(0,6),(1,6),(2,6)] [0,1,5,6])))))
def rQJX8 : List O := [
 oo 10 <| .mv (.t 5),
 oo 11 <| .bin .add (.t 10) (ki 1),
 oo 5 <| .mv (.t 11)]
def lQJX1 : C := (.seq (.seq (.reg rQJX2 false [] [0,1,5,9]) (.cond (.t 9) .skip (.exit 0))) (.seq (.blk 1 (.seq (.reg rQJX3 false [] [0,1,5,6]) (.blk 2 (.loop lQJX0)))) (.reg rQJX8 false [] [0,1,5])))
def rQJX9 : List O := [
 oo 30 <| .mv (.t 5),
 oo 4 <| .mv (.t 30)]
def cQJ : C := (.seq (.reg rQJX0 false [] [0,1]) (.seq (.reg rQJX1 false [] [0,1,5]) (.seq (.blk 0 (.loop lQJX1)) (.seq (.reg rQJX9 false [] [4]) .ret))))
def qQJ : AFn := ⟨31,2,[.t 4],cQJ⟩
/- cohesion/cohesionref24.grow -/
def rQKX0 : List O := [
 oo 5 <| .box (.t 0),
 oo 10 <| .mv (.k (.own 1 []))]
def rQKX1 : List O := [
 oo 13 <| .mv (.t 2),
 oo 11 <| .mv (.t 13)]
def rQKX2 : List O := [
 oo 14 <| .mv (.t 11),
 oo 15 <| .fad 0 (.t 5),
 oo 16 <| .ld none (.t 15),
 oo 17 <| .bin .lss (.t 14) (.t 16)]
def rQKX3 : List O := [
 oo 20 <| .mv (.t 3),
 oo 21 <| .len (.t 20),
 oo 22 <| .mv (.t 4),
 oo 23 <| .bin .leq (.t 21) (.t 22),
 oo 24 <| .mv (.t 23),
 ⟨(some 25),(some (24,true)),.ld (some 2) (.t 5)⟩,
 ⟨(some 26),(some (24,true)),.mv (.t 1)⟩,
 ⟨(some 27),(some (24,true)),.mv (.t 11)⟩,
 ⟨(some 28),(some (24,true)),.call nQQ [(.t 25),(.t 26),(.t 27)]⟩,
 oo 29 <| .pick (.t 24) (.t 28) (.k (.bool false))]
def rQKX4 : List O := [
 oo 30 <| .mv (.t 1),
 oo 31 <| .app 1 (.k (.own 1 [])) (.t 30),
 oo 32 <| .mv (.t 11),
 oo 33 <| .bslice 1 1 [(.int .i64 0)] [(0,1,(.t 32))],
 oo 34 <| .app 1 (.t 31) (.t 33),
 oo 12 <| .mv (.t 34)]
def rQKX5 : List O := [
 oo 35 <| .ld (some 2) (.t 5),
 oo 36 <| .mv (.t 12),
 oo 37 <| .call nQR [(.t 35),(.t 36)]]
def rQKX6 : List O := [
 oo 38 <| .mv (.t 3),
 oo 39 <| .mv (.t 12),
 oo 40 <| .bslice 1 1 [(.own 1 [])] [(0,1,(.t 39))],
 oo 41 <| .app 1 (.t 38) (.t 40),
 oo 3 <| .mv (.t 41)]
def rQKX7 : List O := [
 oo 42 <| .ld (some 2) (.t 5),
 oo 43 <| .mv (.t 12),
 oo 44 <| .mv (.t 11),
 oo 45 <| .bin .add (.t 44) (ki 1),
 oo 46 <| .mv (.t 3),
 oo 47 <| .mv (.t 4),
 oo 48 <| .call nQK [(.t 42),(.t 43),(.t 45),(.t 46),(.t 47)],
 oo 3 <| .mv (.t 48)]
def rQKX8 : List O := [
 oo 18 <| .mv (.t 11),
 oo 19 <| .bin .add (.t 18) (ki 1),
 oo 11 <| .mv (.t 19)]
def lQKX0 : C := (.seq (.seq (.reg rQKX2 false [] [1,3,4,5,11,17]) (.cond (.t 17) .skip (.exit 0))) (.seq (.blk 1 (.seq (.reg rQKX3 false [] [1,3,4,5,11,29]) (.cond (.t 29) (.seq (.reg rQKX4 false [] [1,3,4,5,11,12]) (.seq (.reg rQKX5 false [] [1,3,4,5,11,12,37]) (.cond (.t 37) (.reg rQKX6 false [] [1,3,4,5,11]) (.reg rQKX7 false [] [1,3,4,5,11])))) .skip))) (.reg rQKX8 false [] [1,3,4,5,11])))
def rQKX9 : List O := [
 oo 49 <| .mv (.t 3),
 oo 10 <| .mv (.t 49)]
def cQK : C := (.seq (.reg rQKX0 false [] [1,2,3,4,5]) (.seq (.seq (.reg rQKX1 false [] [1,3,4,5,11]) (.blk 0 (.loop lQKX0))) (.seq (.reg rQKX9 false [] [10]) .ret)))
def qQK : AFn := ⟨50,5,[.t 10],cQK⟩
/- cohesion/nodeset.Valid -/
def rQLX0 : List O := [
 oo 4 <| .mv (.k (.bool false))]
def rQLX1 : List O := [
 oo 7 <| .mv (.t 0),
 oo 8 <| .len (.t 7),
 oo 9 <| .mv (ki 0)]
def rQLX2 : List O := [
 oo 10 <| .bin .lss (.t 9) (.t 8)]
def rQLX3 : List O := [
 oo 11 <| .mv (.t 9),
 oo 12 <| .ixa 1 (.t 7) (.t 9),
 oo 13 <| .ld none (.t 12),
 oo 5 <| .mv (.t 11),
 oo 6 <| .mv (.t 13)]
def rQLX4 : List O := [
 oo 14 <| .mv (.t 6),
 oo 15 <| .bin .lss (.t 14) (ki 0),
 oo 16 <| .mv (.t 15),
 ⟨(some 17),(some (16,false)),.mv (.t 6)⟩,
 ⟨(some 18),(some (16,false)),.mv (.t 1)⟩,
 ⟨(some 19),(some (16,false)),.bin .geq (.t 17) (.t 18)⟩,
 oo 20 <| .pick (.t 16) (.k (.bool true)) (.t 19),
 oo 21 <| .mv (.t 20),
 ⟨(some 22),(some (21,false)),.mv (.t 5)⟩,
 ⟨(some 23),(some (21,false)),.bin .gtr (.t 22) (ki 0)⟩,
 ⟨(some 24),(some (21,false)),.mv (.t 23)⟩,
 ⟨(some 25),(some (24,true)),.mv (.t 0)⟩,
 ⟨(some 26),(some (24,true)),.mv (.t 5)⟩,
 ⟨(some 27),(some (24,true)),.bin .sub (.t 26) (ki 1)⟩,
 ⟨(some 28),(some (24,true)),.ixa 1 (.t 25) (.t 27)⟩,
 ⟨(some 29),(some (24,true)),.ld none (.t 28)⟩,
 ⟨(some 30),(some (24,true)),.mv (.t 6)⟩,
 ⟨(some 31),(some (24,true)),.bin .geq (.t 29) (.t 30)⟩,
 ⟨(some 32),(some (21,false)),.pick (.t 24) (.t 31) (.k (.bool false))⟩,
 oo 33 <| .pick (.t 21) (.k (.bool true)) (.t 32)]
def rQLX5 : List O := [
 oo 4 <| .mv (.k (.bool false))]
def rQLX6 : List O := [
 oo 34 <| .bin .add (.t 9) (ki 1),
 oo 9 <| .mv (.t 34)]
def lQLX0 : C := (.seq (.reg rQLX2 false [] [0,1,7,8,9,10]) (.seq (.cond (.t 10) .skip (.exit 0)) (.seq (.blk 1 (.seq (.reg rQLX3 false [] [0,1,5,6,7,8,9]) (.seq (.reg rQLX4 false [] [0,1,7,8,9,33]) (.cond (.t 33) (.seq (.reg rQLX5 false [] [4]) .ret) .skip)))) (.reg rQLX6 false [] [0,1,7,8,9]))))
def rQLX7 : List O := [
 oo 4 <| .mv (.k (.bool true))]
def cQL : C := (.seq (.reg rQLX0 false [] [0,1]) (.seq (.seq (.reg rQLX1 false [] [0,1,7,8,9]) (.blk 0 (.loop lQLX0))) (.seq (.reg rQLX7 false [] [4]) .ret)))
def qQL : AFn := ⟨35,2,[.t 4],cQL⟩
/- cohesion/cliques.clique -/
def rQMX0 : List O := [
 oo 4 <| .mv (.k (.bool false))]
def rQMX1 : List O := [
 oo 9 <| .mv (.t 1),
 oo 10 <| .len (.t 9),
 oo 11 <| .mv (ki 0)]
def rQMX2 : List O := [
 oo 12 <| .bin .lss (.t 11) (.t 10)]
def rQMX3 : List O := [
 oo 13 <| .mv (.t 11),
 oo 14 <| .ixa 1 (.t 9) (.t 11),
 oo 15 <| .ld none (.t 14),
 oo 5 <| .mv (.t 13),
 oo 6 <| .mv (.t 15)]
def rQMX4 : List O := [
 oo 16 <| .mv (.t 1),
 oo 17 <| .mv (.t 5),
 oo 18 <| .slc 1 (.t 16) none (some (.t 17)),
 oo 19 <| .len (.t 18),
 oo 20 <| .mv (ki 0)]
def rQMX5 : List O := [
 oo 21 <| .bin .lss (.t 20) (.t 19)]
def rQMX6 : List O := [
 oo 22 <| .ixa 1 (.t 18) (.t 20),
 oo 23 <| .ld none (.t 22),
 oo 8 <| .mv (.t 23)]
def rQMX7 : List O := [
 oo 24 <| .mv (.t 0),
 oo 25 <| .mv (.t 6),
 oo 26 <| .ixa 1 (.t 24) (.t 25),
 oo 27 <| .ld none (.t 26),
 oo 28 <| .mv (.t 8),
 oo 29 <| .bin .shr (.t 27) (.t 28),
 oo 30 <| .bin .and (.t 29) (.k (.int .u64 1)),
 oo 31 <| .bin .eql (.t 30) (.k (.int .u64 0))]
def rQMX8 : List O := [
 oo 4 <| .mv (.k (.bool false))]
def rQMX9 : List O := [
 oo 32 <| .bin .add (.t 20) (ki 1),
 oo 20 <| .mv (.t 32)]
def lQMX0 : C := (.seq (.reg rQMX5 false [] [0,1,6,9,10,11,18,19,20,21]) (.seq (.cond (.t 21) .skip (.exit 2)) (.seq (.blk 3 (.seq (.reg rQMX6 false [] [0,1,6,8,9,10,11,18,19,20]) (.seq (.reg rQMX7 false [] [0,1,6,9,10,11,18,19,20,31]) (.cond (.t 31) (.seq (.reg rQMX8 false [] [4]) .ret) .skip)))) (.reg rQMX9 false [] [0,1,6,9,10,11,18,19,20]))))
def rQMX10 : List O := [
 oo 33 <| .bin .add (.t 11) (ki 1),
 oo 11 <| .mv (.t 33)]
def lQMX1 : C := (.seq (.reg rQMX2 false [] [0,1,9,10,11,12]) (.seq (.cond (.t 12) .skip (.exit 0)) (.seq (.blk 1 (.seq (.reg rQMX3 false [] [0,1,5,6,9,10,11]) (.seq (.reg rQMX4 false [] [0,1,6,9,10,11,18,19,20]) (.blk 2 (.loop lQMX0))))) (.reg rQMX10 false [] [0,1,9,10,11]))))
def rQMX11 : List O := [
 oo 4 <| .mv (.k (.bool true))]
def cQM : C := (.seq (.reg rQMX0 false [] [0,1]) (.seq (.seq (.reg rQMX1 false [] [0,1,9,10,11]) (.blk 0 (.loop lQMX1))) (.seq (.reg rQMX11 false [] [4]) .ret)))
def qQM : AFn := ⟨34,2,[.t 4],cQM⟩
/- cohesion/cliques.masks -/
def rQNX0 : List O := [
 oo 1 <| .box (.t 0),
 oo 2 <| .mv (.k (.own 1 []))]
def rQNX1 : List O := [
 oo 6 <| .fad 0 (.t 1),
 oo 7 <| .ld none (.t 6),
 oo 8 <| .mks 1 [(.int .u64 0)] (.t 7) (.t 7),
 oo 3 <| .mv (.t 8)]
def rQNX2 : List O := [
 oo 9 <| .fad 1 (.t 1),
 oo 10 <| .ld none (.t 9),
 oo 11 <| .len (.t 10),
 oo 12 <| .mv (ki 0)]
def rQNX3 : List O := [
 oo 13 <| .bin .lss (.t 12) (.t 11)]
def rQNX4 : List O := [
 oo 14 <| .ixa 2 (.t 10) (.t 12),
 oo 15 <| .ld (some 2) (.t 14),
 oo 5 <| .new [(.int .i64 0),(.int .i64 0)],
 oz <| .st 2 (.t 5) (.t 15)]
def rQNX5 : List O := [
 oo 16 <| .mv (.t 3),
 oo 17 <| .fad 0 (.t 5),
 oo 18 <| .ld none (.t 17),
 oo 19 <| .ixa 1 (.t 16) (.t 18),
 oo 20 <| .ld none (.t 19),
 oo 21 <| .fad 1 (.t 5),
 oo 22 <| .ld none (.t 21),
 oo 23 <| .bin .shl (.k (.int .u64 1)) (.t 22),
 oo 24 <| .bin .or (.t 20) (.t 23),
 oo 25 <| .ixa 1 (.t 16) (.t 18),
 oz <| .st 1 (.t 25) (.t 24)]
def rQNX6 : List O := [
 oo 26 <| .mv (.t 3),
 oo 27 <| .fad 1 (.t 5),
 oo 28 <| .ld none (.t 27),
 oo 29 <| .ixa 1 (.t 26) (.t 28),
 oo 30 <| .ld none (.t 29),
 oo 31 <| .fad 0 (.t 5),
 oo 32 <| .ld none (.t 31),
 oo 33 <| .bin .shl (.k (.int .u64 1)) (.t 32),
 oo 34 <| .bin .or (.t 30) (.t 33),
 oo 35 <| .ixa 1 (.t 26) (.t 28),
 oz <| .st 1 (.t 35) (.t 34)]
def rQNX7 : List O := [
 oo 36 <| .bin .add (.t 12) (ki 1),
 oo 12 <| .mv (.t 36)]
def lQNX0 : C := (.seq (.reg rQNX3 false [] [3,10,11,12,13]) (.seq (.cond (.t 13) .skip (.exit 0)) (.seq (.blk 1 (.seq (.reg rQNX4 false [] [3,5,10,11,12]) (.seq (.reg rQNX5 true [(8,8),(9,9),(10,10),(0,2),(2,5),(4,5),(0,6),(1,6),(2,6),(3,6),(4,6),(2,7),(4,7)] [3,5,10,11,12]) (.reg rQNX6 true [(8,8),(9,9),(10,10),(0,2),(2,5),(4,5),(0,6),(1,6),(2,6),(3,6),(4,6),(2,7),(4,7)] [3,10,11,12])))) (.reg rQNX7 false [] [3,10,11,12]))))
def rQNX8 : List O := [
 oo 37 <| .mv (.t 3),
 oo 2 <| .mv (.t 37)]
def cQN : C := (.seq (.reg rQNX0 false [] [1]) (.seq (.reg rQNX1 false [] [1,3]) (.seq (.seq (.reg rQNX2 false [] [3,10,11,12]) (.blk 0 (.loop lQNX0))) (.seq (.reg rQNX8 false [] [2]) .ret))))
def qQN : AFn := ⟨38,1,[.t 2],cQN⟩
/- cmp.Or[int] -/
def rQOX0 : List O := [
 oo 2 <| .mv (ki 0)]
def rQOX1 : List O := [
 oo 3 <| .mv (ki 0)]
def rQOX2 : List O := [
 oo 6 <| .mv (.t 0),
 oo 7 <| .len (.t 6),
 oo 8 <| .mv (ki 0)]
def rQOX3 : List O := [
 oo 9 <| .bin .lss (.t 8) (.t 7)]
def rQOX4 : List O := [
 oo 10 <| .ixa 1 (.t 6) (.t 8),
 oo 11 <| .ld none (.t 10),
 oo 5 <| .mv (.t 11)]
def rQOX5 : List O := [
 oo 12 <| .mv (.t 5),
 oo 13 <| .mv (.t 3),
 oo 14 <| .bin .neq (.t 12) (.t 13)]
def rQOX6 : List O := [
 oo 15 <| .mv (.t 5),
 oo 2 <| .mv (.t 15)]
def rQOX7 : List O := [
 oo 16 <| .bin .add (.t 8) (ki 1),
 oo 8 <| .mv (.t 16)]
def lQOX0 : C := (.seq (.reg rQOX3 false [] [3,6,7,8,9]) (.seq (.cond (.t 9) .skip (.exit 0)) (.seq (.blk 1 (.seq (.reg rQOX4 false [] [3,5,6,7,8]) (.seq (.reg rQOX5 false [] [3,5,6,7,8,14]) (.cond (.t 14) (.seq (.reg rQOX6 false [] [2]) .ret) .skip)))) (.reg rQOX7 false [] [3,6,7,8]))))
def rQOX8 : List O := [
 oo 17 <| .mv (.t 3),
 oo 2 <| .mv (.t 17)]
def cQO : C := (.seq (.reg rQOX0 false [] [0]) (.seq (.reg rQOX1 false [] [0,3]) (.seq (.seq (.reg rQOX2 false [] [3,6,7,8]) (.blk 0 (.loop lQOX0))) (.seq (.reg rQOX8 false [] [2]) .ret))))
def qQO : AFn := ⟨18,1,[.t 2],cQO⟩
/- cmp.Compare[int] -/
def rQPX0 : List O := [
 oo 4 <| .mv (ki 0)]
def rQPX1 : List O := [
 oo 7 <| .mv (.t 0),
 oo 8 <| .call nQS [(.t 7)],
 oo 5 <| .mv (.t 8)]
def rQPX2 : List O := [
 oo 9 <| .mv (.t 1),
 oo 10 <| .call nQS [(.t 9)],
 oo 6 <| .mv (.t 10)]
def rQPX3 : List O := [
 oo 11 <| .mv (.t 5)]
def rQPX4 : List O := [
 oo 12 <| .mv (.t 6)]
def rQPX5 : List O := [
 oo 4 <| .mv (ki 0)]
def rQPX6 : List O := [
 oo 4 <| .mv (.k (.int .i64 (-1)))]
def rQPX7 : List O := [
 oo 13 <| .mv (.t 6)]
def rQPX8 : List O := [
 oo 4 <| .mv (ki 1)]
def rQPX9 : List O := [
 oo 14 <| .mv (.t 0),
 oo 15 <| .mv (.t 1),
 oo 16 <| .bin .lss (.t 14) (.t 15)]
def rQPX10 : List O := [
 oo 4 <| .mv (.k (.int .i64 (-1)))]
def rQPX11 : List O := [
 oo 17 <| .mv (.t 0),
 oo 18 <| .mv (.t 1),
 oo 19 <| .bin .gtr (.t 17) (.t 18)]
def rQPX12 : List O := [
 oo 4 <| .mv (ki 1)]
def rQPX13 : List O := [
 oo 4 <| .mv (ki 0)]
def cQP : C := (.seq (.reg rQPX0 false [] [0,1]) (.seq (.reg rQPX1 false [] [0,1,5]) (.seq (.reg rQPX2 false [] [0,1,5,6]) (.seq (.seq (.reg rQPX3 false [] [0,1,6,11]) (.cond (.t 11) (.seq (.seq (.reg rQPX4 false [] [12]) (.cond (.t 12) (.seq (.reg rQPX5 false [] [4]) .ret) .skip)) (.seq (.reg rQPX6 false [] [4]) .ret)) .skip)) (.seq (.seq (.reg rQPX7 false [] [0,1,13]) (.cond (.t 13) (.seq (.reg rQPX8 false [] [4]) .ret) .skip)) (.seq (.seq (.reg rQPX9 false [] [0,1,16]) (.cond (.t 16) (.seq (.reg rQPX10 false [] [4]) .ret) .skip)) (.seq (.seq (.reg rQPX11 false [] [19]) (.cond (.t 19) (.seq (.reg rQPX12 false [] [4]) .ret) .skip)) (.seq (.reg rQPX13 false [] [4]) .ret))))))))
def qQP : AFn := ⟨20,2,[.t 4],cQP⟩
/- cohesion/cohesionref24.fits -/
def rQQX0 : List O := [
 oo 3 <| .box (.t 0),
 oo 6 <| .mv (.k (.bool false))]
def rQQX1 : List O := [
 oo 7 <| .mv (ki 0)]
def rQQX2 : List O := [
 oo 8 <| .mv (.t 7),
 oo 9 <| .mv (.t 1),
 oo 10 <| .len (.t 9),
 oo 11 <| .bin .lss (.t 8) (.t 10)]
def rQQX3 : List O := [
 oo 14 <| .mv (.t 1),
 oo 15 <| .mv (.t 7),
 oo 16 <| .ixa 1 (.t 14) (.t 15),
 oo 17 <| .ld none (.t 16),
 oo 18 <| .mv (.t 2),
 oo 19 <| .bin .eql (.t 17) (.t 18),
 oo 20 <| .mv (.t 19),
 ⟨(some 21),(some (20,false)),.ld (some 2) (.t 3)⟩,
 ⟨(some 22),(some (20,false)),.mv (.t 1)⟩,
 ⟨(some 23),(some (20,false)),.mv (.t 7)⟩,
 ⟨(some 24),(some (20,false)),.ixa 1 (.t 22) (.t 23)⟩,
 ⟨(some 25),(some (20,false)),.ld none (.t 24)⟩,
 ⟨(some 26),(some (20,false)),.mv (.t 2)⟩,
 ⟨(some 27),(some (20,false)),.call nQw [(.t 21),(.t 25),(.t 26)]⟩,
 ⟨(some 28),(some (20,false)),.bin .lss (.t 27) (ki 0)⟩,
 oo 29 <| .pick (.t 20) (.k (.bool true)) (.t 28)]
def rQQX4 : List O := [
 oo 6 <| .mv (.k (.bool false))]
def rQQX5 : List O := [
 oo 12 <| .mv (.t 7),
 oo 13 <| .bin .add (.t 12) (ki 1),
 oo 7 <| .mv (.t 13)]
def lQQX0 : C := (.seq (.seq (.reg rQQX2 false [] [1,2,3,7,11]) (.cond (.t 11) .skip (.exit 0))) (.seq (.blk 1 (.seq (.reg rQQX3 true [(5,5),(6,6),(13,13),(14,14),(15,15),(3,4),(7,8),(7,9),(7,10),(7,11),(7,12),(11,12)] [1,2,3,7,29]) (.cond (.t 29) (.seq (.reg rQQX4 false [] [6]) .ret) .skip))) (.reg rQQX5 false [] [1,2,3,7])))
def rQQX6 : List O := [
 oo 6 <| .mv (.k (.bool true))]
def cQQ : C := (.seq (.reg rQQX0 false [] [1,2,3]) (.seq (.seq (.reg rQQX1 false [] [1,2,3,7]) (.blk 0 (.loop lQQX0))) (.seq (.reg rQQX6 false [] [6]) .ret)))
def qQQ : AFn := ⟨30,3,[.t 6],cQQ⟩
/- cohesion/cohesionref24.Maximal -/
def rQRX0 : List O := [
 oo 2 <| .box (.t 0),
 oo 4 <| .mv (.k (.bool false))]
def rQRX1 : List O := [
 oo 6 <| .ld (some 2) (.t 2),
 oo 7 <| .mv (.t 1),
 oo 8 <| .call nQp [(.t 6),(.t 7)],
 oo 9 <| .un .not (.t 8),
 oo 10 <| .mv (.t 9),
 ⟨(some 11),(some (10,false)),.mv (.t 1)⟩,
 ⟨(some 12),(some (10,false)),.len (.t 11)⟩,
 ⟨(some 13),(some (10,false)),.bin .eql (.t 12) (ki 0)⟩,
 oo 14 <| .pick (.t 10) (.k (.bool true)) (.t 13)]
def rQRX2 : List O := [
 oo 4 <| .mv (.k (.bool false))]
def rQRX3 : List O := [
 oo 5 <| .mv (ki 0)]
def rQRX4 : List O := [
 oo 15 <| .mv (.t 5),
 oo 16 <| .fad 0 (.t 2),
 oo 17 <| .ld none (.t 16),
 oo 18 <| .bin .lss (.t 15) (.t 17)]
def rQRX5 : List O := [
 oo 21 <| .ld (some 2) (.t 2),
 oo 22 <| .mv (.t 1),
 oo 23 <| .mv (.t 5),
 oo 24 <| .call nQQ [(.t 21),(.t 22),(.t 23)]]
def rQRX6 : List O := [
 oo 4 <| .mv (.k (.bool false))]
def rQRX7 : List O := [
 oo 19 <| .mv (.t 5),
 oo 20 <| .bin .add (.t 19) (ki 1),
 oo 5 <| .mv (.t 20)]
def lQRX0 : C := (.seq (.seq (.reg rQRX4 false [] [1,2,5,18]) (.cond (.t 18) .skip (.exit 0))) (.seq (.blk 1 (.seq (.reg rQRX5 false [] [1,2,5,24]) (.cond (.t 24) (.seq (.reg rQRX6 false [] [4]) .ret) .skip))) (.reg rQRX7 false [] [1,2,5])))
def rQRX8 : List O := [
 oo 4 <| .mv (.k (.bool true))]
def cQR : C := (.seq (.reg rQRX0 false [] [1,2]) (.seq (.seq (.reg rQRX1 false [] [1,2,14]) (.cond (.t 14) (.seq (.reg rQRX2 false [] [4]) .ret) .skip)) (.seq (.seq (.reg rQRX3 false [] [1,2,5]) (.blk 0 (.loop lQRX0))) (.seq (.reg rQRX8 false [] [4]) .ret))))
def qQR : AFn := ⟨25,2,[.t 4],cQR⟩
/- cmp.isNaN[int] -/
def rQSX0 : List O := [
 oo 2 <| .mv (.k (.bool false))]
def rQSX1 : List O := [
 oo 3 <| .mv (.t 0),
 oo 4 <| .mv (.t 0),
 oo 5 <| .bin .neq (.t 3) (.t 4),
 oo 2 <| .mv (.t 5)]
def cQS : C := (.seq (.reg rQSX0 false [] [0]) (.seq (.reg rQSX1 false [] [2]) .ret))
def qQS : AFn := ⟨6,1,[.t 2],cQS⟩
abbrev Md := Go.Bm.Md
abbrev Cfg := Go.Bm.Cfg
def look : List (Nat × Md × AFn) -> Nat -> Option (Md × AFn)
 | [],_ => none
 | (j,m,q) :: r,i => if i = j then some (m,q) else look r i
def fns : List (Nat × Md × AFn) := [
 (nQa,⟨false,false,true⟩,qQa),
 (nQb,⟨false,false,true⟩,qQb),
 (nQc,⟨false,false,true⟩,qQc),
 (nQd,⟨true,false,false⟩,qQd),
 (nQe,⟨true,false,false⟩,qQe),
 (nQf,⟨true,false,false⟩,qQf),
 (nQg,⟨false,false,true⟩,qQg),
 (nQh,⟨true,false,false⟩,qQh),
 (nQi,⟨false,false,false⟩,qQi),
 (nQj,⟨false,false,true⟩,qQj),
 (nQk,⟨false,false,false⟩,qQk),
 (nQl,⟨false,false,false⟩,qQl),
 (nQm,⟨false,false,true⟩,qQm),
 (nQn,⟨false,false,true⟩,qQn),
 (nQo,⟨false,false,true⟩,qQo),
 (nQp,⟨false,false,true⟩,qQp),
 (nQq,⟨false,false,false⟩,qQq),
 (nQr,⟨false,false,true⟩,qQr),
 (nQs,⟨false,false,true⟩,qQs),
 (nQt,⟨false,false,true⟩,qQt),
 (nQu,⟨false,false,true⟩,qQu),
 (nQv,⟨false,false,true⟩,qQv),
 (nQw,⟨false,false,true⟩,qQw),
 (nQx,⟨false,false,false⟩,qQx),
 (nQy,⟨false,false,false⟩,qQy),
 (nQz,⟨false,false,true⟩,qQz),
 (nQA,⟨false,false,true⟩,qQA),
 (nQB,⟨false,false,false⟩,qQB),
 (nQC,⟨false,false,false⟩,qQC),
 (nQD,⟨false,false,true⟩,qQD),
 (nQE,⟨false,false,true⟩,qQE),
 (nQF,⟨false,false,true⟩,qQF),
 (nQG,⟨false,false,true⟩,qQG),
 (nQH,⟨true,false,false⟩,qQH),
 (nQI,⟨false,false,true⟩,qQI),
 (nQJ,⟨false,false,true⟩,qQJ),
 (nQK,⟨false,true,true⟩,qQK),
 (nQL,⟨false,false,true⟩,qQL),
 (nQM,⟨false,false,true⟩,qQM),
 (nQN,⟨false,false,false⟩,qQN),
 (nQO,⟨false,false,true⟩,qQO),
 (nQP,⟨false,false,true⟩,qQP),
 (nQQ,⟨false,false,true⟩,qQQ),
 (nQR,⟨false,false,true⟩,qQR),
 (nQS,⟨false,false,true⟩,qQS)]
def nQT : Nat := 0
def tabZ : List Int := [0,1,56,2,57,49,28,3,61,58,42,50,38,29,17,4,62,47,59,36,45,43,51,22,53,39,33,30,24,18,12,5,63,55,48,27,60,41,37,16,46,35,44,21,52,32,23,11,54,26,40,15,34,20,31,10,25,14,19,9,13,8,7,6]
def tabA : List AV := tabZ.map (AV.int .u8)
def cfg : Cfg := ⟨look fns,fun i => if i = nQT then tabA else [],fun _ => none,fun _ => none,fun _ => none,fun _ => false,fun _ => false,fun _ => none⟩
theorem kQa : chkFB Go.Proofs.Tryd.prog Go.Proofs.Tryd.f5 qQa = true := by kernel_rfl
theorem kQb : chkFB Go.Proofs.Tryd.prog Go.Proofs.Tryd.f6 qQb = true := by kernel_rfl
theorem kQc : chkFB Go.Proofs.Tryd.prog Go.Proofs.Tryd.f7 qQc = true := by kernel_rfl
theorem kQd : chkFB Go.Proofs.Tryd.prog Go.Proofs.Tryd.f8 qQd = true := by kernel_rfl
theorem kQe : chkFB Go.Proofs.Tryd.prog Go.Proofs.Tryd.f9 qQe = true := by kernel_rfl
theorem kQf : chkFB Go.Proofs.Tryd.prog Go.Proofs.Tryd.f10 qQf = true := by kernel_rfl
theorem kQg : chkFB Go.Proofs.Tryd.prog Go.Proofs.Tryd.f13 qQg = true := by kernel_rfl
theorem kQh : chkFB Go.Proofs.Tryd.prog Go.Proofs.Tryd.f16 qQh = true := by kernel_rfl
theorem kQi : chkFB Go.Proofs.Tryd.prog Go.Proofs.Tryd.f17 qQi = true := by kernel_rfl
theorem kQj : chkFB Go.Proofs.Tryd.prog Go.Proofs.Tryd.f19 qQj = true := by kernel_rfl
theorem kQk : chkFB Go.Proofs.Tryd.prog Go.Proofs.Tryd.f20 qQk = true := by kernel_rfl
theorem kQl : chkFB Go.Proofs.Tryd.prog Go.Proofs.Tryd.f23 qQl = true := by kernel_rfl
theorem kQm : chkFB Go.Proofs.Tryd.prog Go.Proofs.Tryd.f24 qQm = true := by kernel_rfl
theorem kQn : chkFB Go.Proofs.Tryd.prog Go.Proofs.Tryd.f25 qQn = true := by kernel_rfl
theorem kQo : chkFB Go.Proofs.Tryd.prog Go.Proofs.Tryd.f26 qQo = true := by kernel_rfl
theorem kQp : chkFB Go.Proofs.Tryd.prog Go.Proofs.Tryd.f27 qQp = true := by kernel_rfl
theorem kQq : chkFB Go.Proofs.Tryd.prog Go.Proofs.Tryd.f28 qQq = true := by kernel_rfl
theorem kQr : chkFB Go.Proofs.Tryd.prog Go.Proofs.Tryd.f29 qQr = true := by kernel_rfl
theorem kQs : chkFB Go.Proofs.Tryd.prog Go.Proofs.Tryd.f30 qQs = true := by kernel_rfl
theorem kQt : chkFB Go.Proofs.Tryd.prog Go.Proofs.Tryd.f31 qQt = true := by kernel_rfl
theorem kQu : chkFB Go.Proofs.Tryd.prog Go.Proofs.Tryd.f41 qQu = true := by kernel_rfl
theorem kQv : chkFB Go.Proofs.Tryd.prog Go.Proofs.Tryd.f42 qQv = true := by kernel_rfl
theorem kQw : chkFB Go.Proofs.Tryd.prog Go.Proofs.Tryd.f43 qQw = true := by kernel_rfl
theorem kQx : chkFB Go.Proofs.Tryd.prog Go.Proofs.Tryd.f44 qQx = true := by kernel_rfl
theorem kQy : chkFB Go.Proofs.Tryd.prog Go.Proofs.Tryd.f49 qQy = true := by kernel_rfl
theorem kQz : chkFB Go.Proofs.Tryd.prog Go.Proofs.Tryd.f50 qQz = true := by kernel_rfl
theorem kQA : chkFB Go.Proofs.Tryd.prog Go.Proofs.Tryd.f51 qQA = true := by kernel_rfl
theorem kQB : chkFB Go.Proofs.Tryd.prog Go.Proofs.Tryd.f52 qQB = true := by kernel_rfl
theorem kQC : chkFB Go.Proofs.Tryd.prog Go.Proofs.Tryd.f53 qQC = true := by kernel_rfl
theorem kQD : chkFB Go.Proofs.Tryd.prog Go.Proofs.Tryd.f54 qQD = true := by kernel_rfl
theorem kQE : chkFB Go.Proofs.Tryd.prog Go.Proofs.Tryd.f55 qQE = true := by kernel_rfl
theorem kQF : chkFB Go.Proofs.Tryd.prog Go.Proofs.Tryd.f57 qQF = true := by kernel_rfl
theorem kQG : chkFB Go.Proofs.Tryd.prog Go.Proofs.Tryd.f63 qQG = true := by kernel_rfl
theorem kQH : chkFB Go.Proofs.Tryd.prog Go.Proofs.Tryd.f66 qQH = true := by kernel_rfl
theorem kQI : chkFB Go.Proofs.Tryd.prog Go.Proofs.Tryd.f67 qQI = true := by kernel_rfl
theorem kQJ : chkFB Go.Proofs.Tryd.prog Go.Proofs.Tryd.f68 qQJ = true := by kernel_rfl
theorem kQK : chkFB Go.Proofs.Tryd.prog Go.Proofs.Tryd.f69 qQK = true := by kernel_rfl
theorem kQL : chkFB Go.Proofs.Tryd.prog Go.Proofs.Tryd.f70 qQL = true := by kernel_rfl
theorem kQM : chkFB Go.Proofs.Tryd.prog Go.Proofs.Tryd.f71 qQM = true := by kernel_rfl
theorem kQN : chkFB Go.Proofs.Tryd.prog Go.Proofs.Tryd.f72 qQN = true := by kernel_rfl
theorem kQO : chkFB Go.Proofs.Tryd.prog Go.Proofs.Tryd.f74 qQO = true := by kernel_rfl
theorem kQP : chkFB Go.Proofs.Tryd.prog Go.Proofs.Tryd.f75 qQP = true := by kernel_rfl
theorem kQQ : chkFB Go.Proofs.Tryd.prog Go.Proofs.Tryd.f85 qQQ = true := by kernel_rfl
theorem kQR : chkFB Go.Proofs.Tryd.prog Go.Proofs.Tryd.f86 qQR = true := by kernel_rfl
theorem kQS : chkFB Go.Proofs.Tryd.prog Go.Proofs.Tryd.f87 qQS = true := by kernel_rfl
theorem look_mem : ∀ {l : List (Nat × Md × AFn)} {f : Nat} {m : Md} {q : AFn},look l f = some (m,q) -> (f,m,q) ∈ l
 | [],f,m,q,h => by simp [look] at h
 | (j,m',q') :: r,f,m,q,h => by
   unfold look at h
   split at h
   ·rename_i he; subst he; simp at h; obtain ⟨rfl,rfl⟩ := h; simp
   ·exact List.mem_cons_of_mem _ (look_mem h)
def Good (p : Nat × Md × AFn) : Prop := ∃ fn,Go.Proofs.Tryd.prog.funcs[p.1]? = some fn /\ chkFB Go.Proofs.Tryd.prog fn p.2.2 = true
def All (G : Nat × Md × AFn -> Prop) : List (Nat × Md × AFn) -> Prop
 | [] => True
 | p :: r => G p /\ All G r
theorem All.get {G : Nat × Md × AFn -> Prop} : ∀ {l : List (Nat × Md × AFn)},All G l -> ∀ p ∈ l,G p
 | [],_,p,h => by simp at h
 | q :: r,h,p,hp => by
   rcases List.mem_cons.1 hp with e | e
   ·subst e; exact h.1
   ·exact All.get h.2 p e
theorem allGood : All Good fns := ⟨⟨_,Go.Proofs.Tryd.func5,kQa⟩,⟨_,Go.Proofs.Tryd.func6,kQb⟩,⟨_,Go.Proofs.Tryd.func7,kQc⟩,⟨_,Go.Proofs.Tryd.func8,kQd⟩,⟨_,Go.Proofs.Tryd.func9,kQe⟩,⟨_,Go.Proofs.Tryd.func10,kQf⟩,⟨_,Go.Proofs.Tryd.func13,kQg⟩,⟨_,Go.Proofs.Tryd.func16,kQh⟩,⟨_,Go.Proofs.Tryd.func17,kQi⟩,⟨_,Go.Proofs.Tryd.func19,kQj⟩,⟨_,Go.Proofs.Tryd.func20,kQk⟩,⟨_,Go.Proofs.Tryd.func23,kQl⟩,⟨_,Go.Proofs.Tryd.func24,kQm⟩,⟨_,Go.Proofs.Tryd.func25,kQn⟩,⟨_,Go.Proofs.Tryd.func26,kQo⟩,⟨_,Go.Proofs.Tryd.func27,kQp⟩,⟨_,Go.Proofs.Tryd.func28,kQq⟩,⟨_,Go.Proofs.Tryd.func29,kQr⟩,⟨_,Go.Proofs.Tryd.func30,kQs⟩,⟨_,Go.Proofs.Tryd.func31,kQt⟩,⟨_,Go.Proofs.Tryd.func41,kQu⟩,⟨_,Go.Proofs.Tryd.func42,kQv⟩,⟨_,Go.Proofs.Tryd.func43,kQw⟩,⟨_,Go.Proofs.Tryd.func44,kQx⟩,⟨_,Go.Proofs.Tryd.func49,kQy⟩,⟨_,Go.Proofs.Tryd.func50,kQz⟩,⟨_,Go.Proofs.Tryd.func51,kQA⟩,⟨_,Go.Proofs.Tryd.func52,kQB⟩,⟨_,Go.Proofs.Tryd.func53,kQC⟩,⟨_,Go.Proofs.Tryd.func54,kQD⟩,⟨_,Go.Proofs.Tryd.func55,kQE⟩,⟨_,Go.Proofs.Tryd.func57,kQF⟩,⟨_,Go.Proofs.Tryd.func63,kQG⟩,⟨_,Go.Proofs.Tryd.func66,kQH⟩,⟨_,Go.Proofs.Tryd.func67,kQI⟩,⟨_,Go.Proofs.Tryd.func68,kQJ⟩,⟨_,Go.Proofs.Tryd.func69,kQK⟩,⟨_,Go.Proofs.Tryd.func70,kQL⟩,⟨_,Go.Proofs.Tryd.func71,kQM⟩,⟨_,Go.Proofs.Tryd.func72,kQN⟩,⟨_,Go.Proofs.Tryd.func74,kQO⟩,⟨_,Go.Proofs.Tryd.func75,kQP⟩,⟨_,Go.Proofs.Tryd.func85,kQQ⟩,⟨_,Go.Proofs.Tryd.func86,kQR⟩,⟨_,Go.Proofs.Tryd.func87,kQS⟩,trivial⟩
theorem cfgOK : CfgOKB Go.Proofs.Tryd.prog cfg := ⟨by kernel_rfl,fun f m q h => allGood.get _ (look_mem h)⟩
theorem gQa : cfg.fn nQa = some (⟨false,false,true⟩,qQa) := rfl
theorem gQb : cfg.fn nQb = some (⟨false,false,true⟩,qQb) := rfl
theorem gQc : cfg.fn nQc = some (⟨false,false,true⟩,qQc) := rfl
theorem gQd : cfg.fn nQd = some (⟨true,false,false⟩,qQd) := rfl
theorem gQe : cfg.fn nQe = some (⟨true,false,false⟩,qQe) := rfl
theorem gQf : cfg.fn nQf = some (⟨true,false,false⟩,qQf) := rfl
theorem gQg : cfg.fn nQg = some (⟨false,false,true⟩,qQg) := rfl
theorem gQh : cfg.fn nQh = some (⟨true,false,false⟩,qQh) := rfl
theorem gQi : cfg.fn nQi = some (⟨false,false,false⟩,qQi) := rfl
theorem gQj : cfg.fn nQj = some (⟨false,false,true⟩,qQj) := rfl
theorem gQk : cfg.fn nQk = some (⟨false,false,false⟩,qQk) := rfl
theorem gQl : cfg.fn nQl = some (⟨false,false,false⟩,qQl) := rfl
theorem gQm : cfg.fn nQm = some (⟨false,false,true⟩,qQm) := rfl
theorem gQn : cfg.fn nQn = some (⟨false,false,true⟩,qQn) := rfl
theorem gQo : cfg.fn nQo = some (⟨false,false,true⟩,qQo) := rfl
theorem gQp : cfg.fn nQp = some (⟨false,false,true⟩,qQp) := rfl
theorem gQr : cfg.fn nQr = some (⟨false,false,true⟩,qQr) := rfl
theorem gQs : cfg.fn nQs = some (⟨false,false,true⟩,qQs) := rfl
theorem gQt : cfg.fn nQt = some (⟨false,false,true⟩,qQt) := rfl
theorem gQu : cfg.fn nQu = some (⟨false,false,true⟩,qQu) := rfl
theorem gQw : cfg.fn nQw = some (⟨false,false,true⟩,qQw) := rfl
theorem gQx : cfg.fn nQx = some (⟨false,false,false⟩,qQx) := rfl
theorem gQy : cfg.fn nQy = some (⟨false,false,false⟩,qQy) := rfl
theorem gQz : cfg.fn nQz = some (⟨false,false,true⟩,qQz) := rfl
theorem gQA : cfg.fn nQA = some (⟨false,false,true⟩,qQA) := rfl
theorem gQC : cfg.fn nQC = some (⟨false,false,false⟩,qQC) := rfl
theorem gQD : cfg.fn nQD = some (⟨false,false,true⟩,qQD) := rfl
theorem gQE : cfg.fn nQE = some (⟨false,false,true⟩,qQE) := rfl
theorem gQF : cfg.fn nQF = some (⟨false,false,true⟩,qQF) := rfl
theorem gQG : cfg.fn nQG = some (⟨false,false,true⟩,qQG) := rfl
theorem gQH : cfg.fn nQH = some (⟨true,false,false⟩,qQH) := rfl
theorem gQI : cfg.fn nQI = some (⟨false,false,true⟩,qQI) := rfl
theorem gQJ : cfg.fn nQJ = some (⟨false,false,true⟩,qQJ) := rfl
theorem gQK : cfg.fn nQK = some (⟨false,true,true⟩,qQK) := rfl
theorem gQL : cfg.fn nQL = some (⟨false,false,true⟩,qQL) := rfl
theorem gQM : cfg.fn nQM = some (⟨false,false,true⟩,qQM) := rfl
theorem gQN : cfg.fn nQN = some (⟨false,false,false⟩,qQN) := rfl
theorem gQO : cfg.fn nQO = some (⟨false,false,true⟩,qQO) := rfl
theorem gQP : cfg.fn nQP = some (⟨false,false,true⟩,qQP) := rfl
theorem gQQ : cfg.fn nQQ = some (⟨false,false,true⟩,qQQ) := rfl
theorem gQR : cfg.fn nQR = some (⟨false,false,true⟩,qQR) := rfl
theorem gQS : cfg.fn nQS = some (⟨false,false,true⟩,qQS) := rfl
end Go.BmP
