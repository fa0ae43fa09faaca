/- The compact code of the functions, printed by program off the translation. -/
import Derived.Test.YtoobjomjclombaaDoorChecked
import Derived.Test.YtoobjomjclombaaDoorBmA
import Derived.KernelRfl
set_option maxRecDepth 100000
namespace Go.BmP
open Go.Am Go.Bm
abbrev oo (d : Nat) (x : Kd) : O := ⟨some d,none,x⟩
abbrev oz (x : Kd) : O := ⟨none,none,x⟩
abbrev ki (n : Nat) : E := .k (.int .i64 n)
def nQa : Nat := 3
def nQb : Nat := 6
def nQc : Nat := 7
def nQd : Nat := 8
def nQe : Nat := 9
def nQf : Nat := 10
def nQg : Nat := 11
def nQh : Nat := 12
def nQi : Nat := 13
def nQj : Nat := 14
def nQk : Nat := 15
def nQl : Nat := 16
def nQm : Nat := 17
def nQn : Nat := 18
def nQo : Nat := 19
def nQp : Nat := 20
def nQq : Nat := 25
def nQr : Nat := 28
def nQs : Nat := 29
def nQt : Nat := 30
def nQu : Nat := 31
def nQv : Nat := 32
def nQw : Nat := 33
def nQx : Nat := 34
def nQy : Nat := 35
def nQz : Nat := 36
def nQA : Nat := 37
def nQB : Nat := 38
def nQC : Nat := 39
def nQD : Nat := 40
def nQE : Nat := 41
def nQF : Nat := 42
def nQG : Nat := 43
def nQH : Nat := 44
def nQI : Nat := 45
def nQJ : Nat := 46
def nQK : Nat := 47
def nQL : Nat := 48
def nQM : Nat := 49
def nQN : Nat := 50
def nQO : Nat := 51
def nQP : Nat := 52
def nQQ : Nat := 56
def nQR : Nat := 57
def nQS : Nat := 58
def nQT : Nat := 59
def nQU : Nat := 60
def nQV : Nat := 61
def nQW : Nat := 62
def nQX : Nat := 63
def nQY : Nat := 64
def nQZ : Nat := 65
def nQ0 : Nat := 66
def nQ1 : Nat := 67
def nQ2 : Nat := 68
def nQ3 : Nat := 73
def nQ4 : Nat := 74
def nQ5 : Nat := 75
def nQ6 : Nat := 76
def nQ7 : Nat := 77
def nQ8 : Nat := 78
def nQ9 : Nat := 79
def nQa0 : Nat := 80
def nQa1 : Nat := 81
def nQa2 : Nat := 82
def nQa3 : Nat := 83
def nQa4 : Nat := 84
def nQa5 : Nat := 87
def nQa6 : Nat := 88
def nQa7 : Nat := 89
def nQa8 : Nat := 90
/- cohesion/cohesionlaw26.MaxcliqueSides -/
def rQaX0 : List O := [
 oo 2 <| .mv (.k (.bool false))]
def rQaX1 : List O := [
 oo 16 <| .mv (.t 0),
 oo 17 <| .call nQb [(.t 16)],
 oo 18 <| .un .not (.t 17)]
def rQaX2 : List O := [
 oo 19 <| .call nQc [],
 oo 2 <| .mv (.t 19)]
def rQaX3 : List O := [
 oo 20 <| .mv (.t 0),
 oo 21 <| .call nQd [(.t 20)],
 oo 3 <| .mv (.t 21)]
def rQaX4 : List O := [
 oo 22 <| .mv (.t 3),
 oo 23 <| .call nQe [(.t 22),(ki 9)],
 oo 4 <| .mv (.t 23)]
def rQaX5 : List O := [
 oo 24 <| .mv (.t 3),
 oo 25 <| .mv (.t 4),
 oo 26 <| .call nQf [(.t 24),(.t 25)],
 oo 5 <| .mv (.t 26)]
def rQaX6 : List O := [
 oo 27 <| .mv (.t 4),
 oo 28 <| .call nQh [(.t 27)],
 oo 29 <| .mv (.t 5),
 oo 30 <| .call nQg [(.t 28),(.t 29)],
 oo 6 <| .mv (.t 30)]
def rQaX7 : List O := [
 oo 31 <| .mv (.t 4),
 oo 32 <| .build [(.int .i64 0),(.own 2 [])] [(0,1,(.t 31))],
 oo 7 <| .new [(.int .i64 0),(.own 2 [])],
 oz <| .st 2 (.t 7) (.t 32)]
def rQaX8 : List O := [
 oo 8 <| .mv (ki 0)]
def rQaX9 : List O := [
 oo 33 <| .mv (.t 8),
 oo 34 <| .mv (.t 4),
 oo 35 <| .bin .lss (.t 33) (.t 34)]
def rQaX10 : List O := [
 oo 38 <| .mv (.t 8),
 oo 39 <| .bin .add (.t 38) (ki 1),
 oo 9 <| .mv (.t 39)]
def rQaX11 : List O := [
 oo 40 <| .mv (.t 9),
 oo 41 <| .mv (.t 4),
 oo 42 <| .bin .lss (.t 40) (.t 41)]
def rQaX12 : List O := [
 oo 45 <| .mv (.t 5),
 oo 46 <| .mv (.t 8),
 oo 47 <| .call nQi [(.t 45),(.t 46)],
 oo 48 <| .mv (.t 5),
 oo 49 <| .mv (.t 9),
 oo 50 <| .call nQi [(.t 48),(.t 49)],
 oo 51 <| .eq true .bool (.t 47) (.t 50),
 oo 52 <| .mv (.t 51),
 ⟨(some 53),(some (52,true)),.mv (.t 3)⟩,
 ⟨(some 54),(some (52,true)),.call nQe [(.t 53),(ki 3)]⟩,
 ⟨(some 55),(some (52,true)),.bin .gtr (.t 54) (ki 0)⟩,
 oo 56 <| .pick (.t 52) (.t 55) (.k (.bool false))]
def rQaX13 : List O := [
 oo 57 <| .fad 1 (.t 7),
 oo 58 <| .ld none (.t 57),
 oo 59 <| .mv (.t 8),
 oo 60 <| .mv (.t 9),
 oo 61 <| .build [(.int .i64 0),(.int .i64 0)] [(0,1,(.t 59)),(1,1,(.t 60))],
 oo 62 <| .bslice 2 1 [(.int .i64 0),(.int .i64 0)] [(0,2,(.t 61))],
 oo 63 <| .app 2 (.t 58) (.t 62),
 oo 64 <| .fad 1 (.t 7),
 oz <| .st 1 (.t 64) (.t 63)]
def rQaX14 : List O := [
 oo 43 <| .mv (.t 9),
 oo 44 <| .bin .add (.t 43) (ki 1),
 oo 9 <| .mv (.t 44)]
def lQaX0 : C := (.seq (.seq (.reg rQaX11 false [] [3,4,5,6,7,8,9,42]) (.cond (.t 42) .skip (.exit 2))) (.seq (.blk 3 (.seq (.reg rQaX12 false [] [3,4,5,6,7,8,9,56]) (.cond (.t 56) (.reg rQaX13 false [] [3,4,5,6,7,8,9]) .skip))) (.reg rQaX14 false [] [3,4,5,6,7,8,9])))
def rQaX15 : List O := [
 oo 36 <| .mv (.t 8),
 oo 37 <| .bin .add (.t 36) (ki 1),
 oo 8 <| .mv (.t 37)]
def lQaX1 : C := (.seq (.seq (.reg rQaX9 false [] [3,4,5,6,7,8,35]) (.cond (.t 35) .skip (.exit 0))) (.seq (.blk 1 (.seq (.reg rQaX10 false [] [3,4,5,6,7,8,9]) (.blk 2 (.loop lQaX0)))) (.reg rQaX15 false [] [3,4,5,6,7,8])))
def rQaX16 : List O := [
 oo 66 <| .ld (some 2) (.t 7),
 oo 67 <| .mv (.t 5),
 oo 68 <| .app 1 (.k (.own 1 [])) (.t 67),
 oo 69 <| .mv (.t 6),
 oo 70 <| .app 1 (.t 68) (.t 69),
 oo 71 <| .call nQj [(.t 66),(.t 70)],
 oo 65 <| .mv (.t 71),
 oo 72 <| .ext 0 (.t 65),
 oo 73 <| .ext 1 (.t 65),
 oo 10 <| .mv (.t 72),
 oo 11 <| .mv (.t 73)]
def rQaX17 : List O := [
 oo 74 <| .mv (.t 11),
 oo 75 <| .bin .neq (.t 74) (ki 0),
 oo 76 <| .mv (.t 75),
 ⟨(some 77),(some (76,false)),.mv (.t 10)⟩,
 ⟨(some 78),(some (76,false)),.call nQk [(.t 77)]⟩,
 ⟨(some 79),(some (76,false)),.len (.t 78)⟩,
 ⟨(some 80),(some (76,false)),.bin .gtr (.t 79) (ki 2)⟩,
 oo 81 <| .pick (.t 76) (.k (.bool true)) (.t 80)]
def rQaX18 : List O := [
 oo 2 <| .mv (.k (.bool false))]
def rQaX19 : List O := [
 oo 82 <| .mv (.t 3),
 oo 83 <| .call nQl [(.t 82),(ki 8)],
 oo 12 <| .new [(.int .i64 0),(.own 2 [])],
 oz <| .st 2 (.t 12) (.t 83)]
def rQaX20 : List O := [
 oo 85 <| .ld (some 2) (.t 12),
 oo 86 <| .call nQm [(.t 85)],
 oo 84 <| .mv (.t 86),
 oo 87 <| .ext 0 (.t 84),
 oo 88 <| .ext 1 (.t 84),
 oo 13 <| .mv (.t 87),
 oo 14 <| .mv (.t 88)]
def rQaX21 : List O := [
 oo 89 <| .fad 1 (.t 12),
 oo 90 <| .ld none (.t 89),
 oo 91 <| .len (.t 90),
 oo 92 <| .bin .gtr (.t 91) (ki 0)]
def rQaX22 : List O := [
 oo 93 <| .fad 1 (.t 12),
 oo 94 <| .ld none (.t 93),
 oo 95 <| .mv (.t 3),
 oo 96 <| .fad 1 (.t 12),
 oo 97 <| .ld none (.t 96),
 oo 98 <| .len (.t 97),
 oo 99 <| .call nQe [(.t 95),(.t 98)],
 oo 100 <| .ixa 2 (.t 94) (.t 99),
 oo 101 <| .ld (some 2) (.t 100),
 oo 15 <| .new [(.int .i64 0),(.int .i64 0)],
 oz <| .st 2 (.t 15) (.t 101)]
def rQaX23 : List O := [
 oo 103 <| .ld (some 2) (.t 12),
 oo 104 <| .fad 0 (.t 15),
 oo 105 <| .ld none (.t 104),
 oo 106 <| .fad 1 (.t 15),
 oo 107 <| .ld none (.t 106),
 oo 108 <| .call nQn [(.t 103),(.t 105),(.t 107)],
 oo 102 <| .mv (.t 108),
 oo 109 <| .ext 0 (.t 102),
 oo 110 <| .ext 1 (.t 102),
 oz <| .st 2 (.t 12) (.t 109)]
def rQaX24 : List O := [
 oo 111 <| .mv (.t 14),
 oo 112 <| .bin .eql (.t 111) (ki 0),
 oo 113 <| .mv (.t 112),
 ⟨(some 114),(some (113,true)),.ld (some 2) (.t 12)⟩,
 ⟨(some 115),(some (113,true)),.mv (.t 13)⟩,
 ⟨(some 116),(some (113,true)),.call nQo [(.t 114),(.t 115)]⟩,
 oo 117 <| .pick (.t 113) (.t 116) (.k (.bool false)),
 oo 118 <| .mv (.t 117),
 ⟨(some 119),(some (118,true)),.call nQc []⟩,
 oo 120 <| .pick (.t 118) (.t 119) (.k (.bool false)),
 oo 2 <| .mv (.t 120)]
def cQa : C := (.seq (.reg rQaX0 false [] [0]) (.seq (.seq (.reg rQaX1 false [] [0,18]) (.cond (.t 18) (.seq (.reg rQaX2 false [] [2]) .ret) .skip)) (.seq (.reg rQaX3 false [] [3]) (.seq (.reg rQaX4 false [] [3,4]) (.seq (.reg rQaX5 false [] [3,4,5]) (.seq (.reg rQaX6 false [] [3,4,5,6]) (.seq (.reg rQaX7 false [] [3,4,5,6,7]) (.seq (.seq (.reg rQaX8 false [] [3,4,5,6,7,8]) (.blk 0 (.loop lQaX1))) (.seq (.reg rQaX16 true [(5,5),(6,6),(10,10),(0,1),(0,2),(0,3),(2,3),(0,4)] [3,10,11]) (.seq (.seq (.reg rQaX17 false [] [3,81]) (.cond (.t 81) (.seq (.reg rQaX18 false [] [2]) .ret) .skip)) (.seq (.reg rQaX19 false [] [3,12]) (.seq (.reg rQaX20 false [] [3,12,13,14]) (.seq (.seq (.reg rQaX21 false [] [3,12,13,14,92]) (.cond (.t 92) (.seq (.reg rQaX22 true [(10,10),(1,2),(1,3),(0,4),(1,4),(2,4),(1,5),(0,6),(1,6),(0,9),(1,9),(2,9),(3,9),(4,9),(5,9),(6,9),(7,9),(8,9)] [12,13,14,15]) (.reg rQaX23 false [] [12,13,14])) .skip)) (.seq (.reg rQaX24 false [] [2]) .ret))))))))))))))
def qQa : AFn := ⟨121,1,[.t 2],cQa⟩
/- cohesion/cohesionmake.Few -/
def rQbX0 : List O := [
 oo 2 <| .mv (.k (.bool false))]
def rQbX1 : List O := [
 oo 3 <| .mv (.t 0),
 oo 4 <| .len (.t 3),
 oo 5 <| .bin .leq (.t 4) (ki 500),
 oo 2 <| .mv (.t 5)]
def cQb : C := (.seq (.reg rQbX0 false [] [0]) (.seq (.reg rQbX1 false [] [2]) .ret))
def qQb : AFn := ⟨6,1,[.t 2],cQb⟩
/- cohesion/cohesionlaw26.awake -/
def rQcX0 : List O := [
 oo 0 <| .mv (.k (.bool false))]
def rQcX1 : List O := [
 oo 10 <| .build [(.int .i64 0),(.int .i64 0)] [(0,1,(ki 0)),(1,1,(ki 1))],
 oo 11 <| .build [(.int .i64 0),(.int .i64 0)] [(0,1,(ki 1)),(1,1,(ki 2))],
 oo 12 <| .build [(.int .i64 0),(.int .i64 0)] [(0,1,(ki 2)),(1,1,(ki 3))],
 oo 13 <| .build [(.int .i64 0),(.int .i64 0)] [(0,1,(ki 3)),(1,1,(ki 4))],
 oo 14 <| .build [(.int .i64 0),(.int .i64 0)] [(0,1,(ki 4)),(1,1,(ki 0))],
 oo 15 <| .bslice 2 5 [(.int .i64 0),(.int .i64 0)] [(0,2,(.t 10)),(2,2,(.t 11)),(4,2,(.t 12)),(6,2,(.t 13)),(8,2,(.t 14))],
 oo 16 <| .call nQr [(ki 5),(.t 15)],
 oo 9 <| .mv (.t 16),
 oo 17 <| .ext 0 (.t 9),
 oo 18 <| .ext 1 (.t 9),
 oo 1 <| .new [(.int .i64 0),(.own 2 [])],
 oz <| .st 2 (.t 1) (.t 17),
 oo 2 <| .mv (.t 18)]
def rQcX2 : List O := [
 oo 20 <| .ld (some 2) (.t 1),
 oo 21 <| .call nQp [(.t 20)],
 oo 19 <| .mv (.t 21),
 oo 22 <| .ext 0 (.t 19),
 oo 23 <| .ext 1 (.t 19),
 oo 3 <| .mv (.t 22),
 oo 4 <| .mv (.t 23)]
def rQcX3 : List O := [
 oo 25 <| .ld (some 2) (.t 1),
 oo 26 <| .call nQs [(.t 25)],
 oo 24 <| .mv (.t 26),
 oo 27 <| .ext 0 (.t 24),
 oo 28 <| .ext 1 (.t 24),
 oo 5 <| .mv (.t 27),
 oo 6 <| .mv (.t 28)]
def rQcX4 : List O := [
 oo 30 <| .ld (some 2) (.t 1),
 oo 31 <| .call nQm [(.t 30)],
 oo 29 <| .mv (.t 31),
 oo 32 <| .ext 0 (.t 29),
 oo 33 <| .ext 1 (.t 29),
 oo 7 <| .mv (.t 32),
 oo 8 <| .mv (.t 33)]
def rQcX5 : List O := [
 oo 34 <| .mv (.t 4),
 oo 35 <| .bin .eql (.t 34) (ki 0),
 oo 36 <| .mv (.t 35),
 ⟨(some 37),(some (36,true)),.mv (.t 3)⟩,
 ⟨(some 38),(some (36,true)),.bslice 1 2 [(.int .i64 0)] [(0,1,(ki 0)),(1,1,(ki 1))]⟩,
 ⟨(some 39),(some (36,true)),.call nQq [(.t 37),(.t 38)]⟩,
 ⟨(some 40),(some (36,true)),.bin .eql (.t 39) (ki 0)⟩,
 oo 41 <| .pick (.t 36) (.t 40) (.k (.bool false)),
 oo 42 <| .mv (.t 41),
 ⟨(some 43),(some (42,true)),.mv (.t 6)⟩,
 ⟨(some 44),(some (42,true)),.bin .eql (.t 43) (ki 0)⟩,
 oo 45 <| .pick (.t 42) (.t 44) (.k (.bool false)),
 oo 46 <| .mv (.t 45),
 ⟨(some 47),(some (46,true)),.mv (.t 5)⟩,
 ⟨(some 48),(some (46,true)),.bin .eql (.t 47) (ki 3)⟩,
 oo 49 <| .pick (.t 46) (.t 48) (.k (.bool false)),
 oo 50 <| .mv (.t 49),
 ⟨(some 51),(some (50,true)),.mv (.t 8)⟩,
 ⟨(some 52),(some (50,true)),.bin .eql (.t 51) (ki 0)⟩,
 oo 53 <| .pick (.t 50) (.t 52) (.k (.bool false)),
 oo 54 <| .mv (.t 53),
 ⟨(some 55),(some (54,true)),.ld (some 2) (.t 1)⟩,
 ⟨(some 56),(some (54,true)),.mv (.t 7)⟩,
 ⟨(some 57),(some (54,true)),.call nQo [(.t 55),(.t 56)]⟩,
 oo 58 <| .pick (.t 54) (.t 57) (.k (.bool false)),
 oo 0 <| .mv (.t 58)]
def cQc : C := (.seq (.reg rQcX0 false [] []) (.seq (.reg rQcX1 false [] [1]) (.seq (.reg rQcX2 false [] [1,3,4]) (.seq (.reg rQcX3 false [] [1,3,4,5,6]) (.seq (.reg rQcX4 false [] [1,3,4,5,6,7,8]) (.seq (.reg rQcX5 false [] [0]) .ret))))))
def qQc : AFn := ⟨59,0,[.t 0],cQc⟩
/- cohesion/cohesionmake.New -/
def rQdX0 : List O := [
 oo 2 <| .mv (.k .nilp)]
def rQdX1 : List O := [
 oo 3 <| .mv (.t 0),
 oo 4 <| .build [(.own 1 []),(.int .i64 0)] [(0,1,(.t 3))],
 oo 5 <| .box (.t 4),
 oo 2 <| .mv (.t 5)]
def cQd : C := (.seq (.reg rQdX0 false [] [0]) (.seq (.reg rQdX1 false [] [2]) .ret))
def qQd : AFn := ⟨6,1,[.t 2],cQd⟩
/- (*cohesion/cohesionmake.Deck).Next -/
def rQeX0 : List O := [
 oo 4 <| .mv (ki 0)]
def rQeX1 : List O := [
 oo 6 <| .mv (.t 1),
 oo 7 <| .bin .lss (.t 6) (ki 1),
 oo 8 <| .mv (.t 7),
 ⟨(some 9),(some (8,false)),.mv (.t 0)⟩,
 ⟨(some 10),(some (8,false)),.nilck (.t 9)⟩,
 ⟨(some 11),(some (8,false)),.fad 1 (.t 10)⟩,
 ⟨(some 12),(some (8,false)),.ld none (.t 11)⟩,
 ⟨(some 13),(some (8,false)),.mv (.t 0)⟩,
 ⟨(some 14),(some (8,false)),.nilck (.t 13)⟩,
 ⟨(some 15),(some (8,false)),.fad 0 (.t 14)⟩,
 ⟨(some 16),(some (8,false)),.ld none (.t 15)⟩,
 ⟨(some 17),(some (8,false)),.len (.t 16)⟩,
 ⟨(some 18),(some (8,false)),.bin .geq (.t 12) (.t 17)⟩,
 oo 19 <| .pick (.t 8) (.k (.bool true)) (.t 18)]
def rQeX2 : List O := [
 oo 4 <| .mv (ki 0)]
def rQeX3 : List O := [
 oo 20 <| .mv (.t 0),
 oo 21 <| .nilck (.t 20),
 oo 22 <| .fad 0 (.t 21),
 oo 23 <| .ld none (.t 22),
 oo 24 <| .mv (.t 0),
 oo 25 <| .nilck (.t 24),
 oo 26 <| .fad 1 (.t 25),
 oo 27 <| .ld none (.t 26),
 oo 28 <| .ixa 1 (.t 23) (.t 27),
 oo 29 <| .ld none (.t 28),
 oo 5 <| .mv (.t 29)]
def rQeX4 : List O := [
 oo 30 <| .mv (.t 0),
 oo 31 <| .nilck (.t 30),
 oo 32 <| .fad 1 (.t 31),
 oo 33 <| .ld none (.t 32),
 oo 34 <| .bin .add (.t 33) (ki 1),
 oo 35 <| .nilck (.t 30),
 oo 36 <| .fad 1 (.t 35),
 oz <| .st 1 (.t 36) (.t 34)]
def rQeX5 : List O := [
 oo 37 <| .mv (.t 5),
 oo 38 <| .mv (.t 1),
 oo 39 <| .call nQt [(.t 37),(.t 38)],
 oo 4 <| .mv (.t 39)]
def cQe : C := (.seq (.reg rQeX0 false [] [0,1]) (.seq (.seq (.reg rQeX1 true [(0,0),(1,1),(2,2),(12,12),(13,13),(6,7),(6,8),(6,9),(3,10),(4,10),(5,10),(6,10),(6,11)] [0,1,19]) (.cond (.t 19) (.seq (.reg rQeX2 false [] [4]) .ret) .skip)) (.seq (.reg rQeX3 true [(8,8),(9,9),(10,10),(3,4),(3,5),(3,6),(0,7),(1,7),(2,7),(3,7)] [0,1,5]) (.seq (.reg rQeX4 false [] [1,5]) (.seq (.reg rQeX5 false [] [4]) .ret)))))
def qQe : AFn := ⟨40,2,[.t 4],cQe⟩
/- cohesion/cohesionmake.Set -/
def rQfX0 : List O := [
 oo 4 <| .mv (.k (.own 1 []))]
def rQfX1 : List O := [
 oo 5 <| .mv (.k (.own 1 []))]
def rQfX2 : List O := [
 oo 6 <| .mv (ki 0)]
def rQfX3 : List O := [
 oo 7 <| .mv (.t 6),
 oo 8 <| .mv (.t 1),
 oo 9 <| .bin .lss (.t 7) (.t 8)]
def rQfX4 : List O := [
 oo 12 <| .mv (.t 0),
 oo 13 <| .call nQe [(.t 12),(ki 2)],
 oo 14 <| .bin .eql (.t 13) (ki 1)]
def rQfX5 : List O := [
 oo 15 <| .mv (.t 5),
 oo 16 <| .mv (.t 6),
 oo 17 <| .bslice 1 1 [(.int .i64 0)] [(0,1,(.t 16))],
 oo 18 <| .app 1 (.t 15) (.t 17),
 oo 5 <| .mv (.t 18)]
def rQfX6 : List O := [
 oo 10 <| .mv (.t 6),
 oo 11 <| .bin .add (.t 10) (ki 1),
 oo 6 <| .mv (.t 11)]
def lQfX0 : C := (.seq (.seq (.reg rQfX3 false [] [0,1,5,6,9]) (.cond (.t 9) .skip (.exit 0))) (.seq (.blk 1 (.seq (.reg rQfX4 false [] [0,1,5,6,14]) (.cond (.t 14) (.reg rQfX5 false [] [0,1,5,6]) .skip))) (.reg rQfX6 false [] [0,1,5,6])))
def rQfX7 : List O := [
 oo 19 <| .mv (.t 5),
 oo 4 <| .mv (.t 19)]
def cQf : C := (.seq (.reg rQfX0 false [] [0,1]) (.seq (.reg rQfX1 false [] [0,1,5]) (.seq (.seq (.reg rQfX2 false [] [0,1,5,6]) (.blk 0 (.loop lQfX0))) (.seq (.reg rQfX7 false [] [4]) .ret))))
def qQf : AFn := ⟨20,2,[.t 4],cQf⟩
/- cohesion/cohesionref02.Minus -/
def rQgX0 : List O := [
 oo 4 <| .mv (.k (.own 1 []))]
def rQgX1 : List O := [
 oo 5 <| .mv (.k (.own 1 []))]
def rQgX2 : List O := [
 oo 8 <| .mv (.t 0),
 oo 9 <| .call nQk [(.t 8)],
 oo 10 <| .len (.t 9),
 oo 11 <| .mv (ki 0)]
def rQgX3 : List O := [
 oo 12 <| .bin .lss (.t 11) (.t 10)]
def rQgX4 : List O := [
 oo 13 <| .ixa 1 (.t 9) (.t 11),
 oo 14 <| .ld none (.t 13),
 oo 7 <| .mv (.t 14)]
def rQgX5 : List O := [
 oo 15 <| .mv (.t 1),
 oo 16 <| .mv (.t 7),
 oo 17 <| .call nQi [(.t 15),(.t 16)],
 oo 18 <| .un .not (.t 17)]
def rQgX6 : List O := [
 oo 19 <| .mv (.t 5),
 oo 20 <| .mv (.t 7),
 oo 21 <| .bslice 1 1 [(.int .i64 0)] [(0,1,(.t 20))],
 oo 22 <| .app 1 (.t 19) (.t 21),
 oo 5 <| .mv (.t 22)]
def rQgX7 : List O := [
 oo 23 <| .bin .add (.t 11) (ki 1),
 oo 11 <| .mv (.t 23)]
def lQgX0 : C := (.seq (.reg rQgX3 false [] [1,5,9,10,11,12]) (.seq (.cond (.t 12) .skip (.exit 0)) (.seq (.blk 1 (.seq (.reg rQgX4 false [] [1,5,7,9,10,11]) (.seq (.reg rQgX5 false [] [1,5,7,9,10,11,18]) (.cond (.t 18) (.reg rQgX6 false [] [1,5,9,10,11]) .skip)))) (.reg rQgX7 false [] [1,5,9,10,11]))))
def rQgX8 : List O := [
 oo 24 <| .mv (.t 5),
 oo 4 <| .mv (.t 24)]
def cQg : C := (.seq (.reg rQgX0 false [] [0,1]) (.seq (.reg rQgX1 false [] [0,1,5]) (.seq (.seq (.reg rQgX2 false [] [1,5,9,10,11]) (.blk 0 (.loop lQgX0))) (.seq (.reg rQgX8 false [] [4]) .ret))))
def qQg : AFn := ⟨25,2,[.t 4],cQg⟩
/- cohesion/cohesionref02.Range -/
def rQhX0 : List O := [
 oo 2 <| .mv (.k (.own 1 []))]
def rQhX1 : List O := [
 oo 3 <| .mv (.k (.own 1 []))]
def rQhX2 : List O := [
 oo 4 <| .mv (ki 0)]
def rQhX3 : List O := [
 oo 5 <| .mv (.t 4),
 oo 6 <| .mv (.t 0),
 oo 7 <| .bin .lss (.t 5) (.t 6),
 oo 8 <| .mv (.t 7),
 ⟨(some 9),(some (8,true)),.mv (.t 4)⟩,
 ⟨(some 10),(some (8,true)),.bin .lss (.t 9) (ki 64)⟩,
 oo 11 <| .pick (.t 8) (.t 10) (.k (.bool false))]
def rQhX4 : List O := [
 oo 14 <| .mv (.t 3),
 oo 15 <| .mv (.t 4),
 oo 16 <| .bslice 1 1 [(.int .i64 0)] [(0,1,(.t 15))],
 oo 17 <| .app 1 (.t 14) (.t 16),
 oo 3 <| .mv (.t 17)]
def rQhX5 : List O := [
 oo 12 <| .mv (.t 4),
 oo 13 <| .bin .add (.t 12) (ki 1),
 oo 4 <| .mv (.t 13)]
def lQhX0 : C := (.seq (.seq (.reg rQhX3 false [] [0,3,4,11]) (.cond (.t 11) .skip (.exit 0))) (.seq (.blk 1 (.reg rQhX4 false [] [0,3,4])) (.reg rQhX5 false [] [0,3,4])))
def rQhX6 : List O := [
 oo 18 <| .mv (.t 3),
 oo 2 <| .mv (.t 18)]
def cQh : C := (.seq (.reg rQhX0 false [] [0]) (.seq (.reg rQhX1 false [] [0,3]) (.seq (.seq (.reg rQhX2 false [] [0,3,4]) (.blk 0 (.loop lQhX0))) (.seq (.reg rQhX6 false [] [2]) .ret))))
def qQh : AFn := ⟨19,1,[.t 2],cQh⟩
/- cohesion/cohesionref02.Has -/
def rQiX0 : List O := [
 oo 4 <| .mv (.k (.bool false))]
def rQiX1 : List O := [
 oo 7 <| .mv (.t 0),
 oo 8 <| .len (.t 7),
 oo 9 <| .mv (ki 0)]
def rQiX2 : List O := [
 oo 10 <| .bin .lss (.t 9) (.t 8)]
def rQiX3 : List O := [
 oo 11 <| .ixa 1 (.t 7) (.t 9),
 oo 12 <| .ld none (.t 11),
 oo 6 <| .mv (.t 12)]
def rQiX4 : List O := [
 oo 13 <| .mv (.t 6),
 oo 14 <| .mv (.t 1),
 oo 15 <| .bin .eql (.t 13) (.t 14)]
def rQiX5 : List O := [
 oo 4 <| .mv (.k (.bool true))]
def rQiX6 : List O := [
 oo 16 <| .bin .add (.t 9) (ki 1),
 oo 9 <| .mv (.t 16)]
def lQiX0 : C := (.seq (.reg rQiX2 false [] [1,7,8,9,10]) (.seq (.cond (.t 10) .skip (.exit 0)) (.seq (.blk 1 (.seq (.reg rQiX3 false [] [1,6,7,8,9]) (.seq (.reg rQiX4 false [] [1,7,8,9,15]) (.cond (.t 15) (.seq (.reg rQiX5 false [] [4]) .ret) .skip)))) (.reg rQiX6 false [] [1,7,8,9]))))
def rQiX7 : List O := [
 oo 4 <| .mv (.k (.bool false))]
def cQi : C := (.seq (.reg rQiX0 false [] [0,1]) (.seq (.seq (.reg rQiX1 false [] [1,7,8,9]) (.blk 0 (.loop lQiX0))) (.seq (.reg rQiX7 false [] [4]) .ret)))
def qQi : AFn := ⟨17,2,[.t 4],cQi⟩
/- cohesion/maxclique.Colour -/
def rQjX0 : List O := [
 oo 2 <| .box (.t 0),
 oo 4 <| .mv (.k (.own 1 [])),
 oo 5 <| .mv (ki 0)]
def rQjX1 : List O := [
 oo 13 <| .ld (some 2) (.t 2),
 oo 14 <| .call nQu [(.t 13)],
 oo 6 <| .mv (.t 14)]
def rQjX2 : List O := [
 oo 15 <| .mv (.t 6),
 oo 16 <| .bin .neq (.t 15) (ki 0)]
def rQjX3 : List O := [
 oo 17 <| .mv (.t 6),
 oo 4 <| .mv (.k (.own 1 [])),
 oo 5 <| .mv (.t 17)]
def rQjX4 : List O := [
 oo 18 <| .mv (.t 1),
 oo 19 <| .len (.t 18),
 oo 20 <| .fad 0 (.t 2),
 oo 21 <| .ld none (.t 20),
 oo 22 <| .bin .neq (.t 19) (.t 21),
 oo 23 <| .mv (.t 22),
 ⟨(some 24),(some (23,false)),.mv (.t 1)⟩,
 ⟨(some 25),(some (23,false)),.call nQw [(.t 24)]⟩,
 ⟨(some 26),(some (23,false)),.fad 0 (.t 2)⟩,
 ⟨(some 27),(some (23,false)),.ld none (.t 26)⟩,
 ⟨(some 28),(some (23,false)),.call nQx [(.t 27)]⟩,
 ⟨(some 29),(some (23,false)),.call nQv [(.t 25),(.t 28)]⟩,
 ⟨(some 30),(some (23,false)),.un .not (.t 29)⟩,
 oo 31 <| .pick (.t 23) (.k (.bool true)) (.t 30)]
def rQjX5 : List O := [
 oo 4 <| .mv (.k (.own 1 [])),
 oo 5 <| .mv (ki 4)]
def rQjX6 : List O := [
 oo 32 <| .bslice 1 1 [(.int .i64 0)] [(0,1,(.k (.int .i64 (-1))))],
 oo 33 <| .fad 0 (.t 2),
 oo 34 <| .ld none (.t 33),
 oo 35 <| .call nQy [(.t 32),(.t 34)],
 oo 7 <| .mv (.t 35)]
def rQjX7 : List O := [
 oo 36 <| .mv (.t 1),
 oo 37 <| .len (.t 36),
 oo 38 <| .mv (ki 0)]
def rQjX8 : List O := [
 oo 39 <| .bin .lss (.t 38) (.t 37)]
def rQjX9 : List O := [
 oo 40 <| .ixa 1 (.t 36) (.t 38),
 oo 41 <| .ld none (.t 40),
 oo 9 <| .mv (.t 41)]
def rQjX10 : List O := [
 oo 10 <| .new [(.bool false),(.bool false),(.bool false),(.bool false),(.bool false),(.bool false),(.bool false),(.bool false),(.bool false),(.bool false),(.bool false),(.bool false),(.bool false),(.bool false),(.bool false),(.bool false),(.bool false),(.bool false),(.bool false),(.bool false),(.bool false),(.bool false),(.bool false),(.bool false),(.bool false),(.bool false),(.bool false),(.bool false),(.bool false),(.bool false),(.bool false),(.bool false),(.bool false),(.bool false),(.bool false),(.bool false),(.bool false),(.bool false),(.bool false),(.bool false),(.bool false),(.bool false),(.bool false),(.bool false),(.bool false),(.bool false),(.bool false),(.bool false),(.bool false),(.bool false),(.bool false),(.bool false),(.bool false),(.bool false),(.bool false),(.bool false),(.bool false),(.bool false),(.bool false),(.bool false),(.bool false),(.bool false),(.bool false),(.bool false),(.bool false)]]
def rQjX11 : List O := [
 oo 42 <| .ld (some 2) (.t 2),
 oo 43 <| .mv (.t 9),
 oo 44 <| .call nQz [(.t 42),(.t 43)],
 oo 45 <| .len (.t 44),
 oo 46 <| .mv (ki 0)]
def rQjX12 : List O := [
 oo 47 <| .bin .lss (.t 46) (.t 45)]
def rQjX13 : List O := [
 oo 48 <| .ixa 1 (.t 44) (.t 46),
 oo 49 <| .ld none (.t 48),
 oo 12 <| .mv (.t 49)]
def rQjX14 : List O := [
 oo 50 <| .mv (.t 7),
 oo 51 <| .mv (.t 12),
 oo 52 <| .ixa 1 (.t 50) (.t 51),
 oo 53 <| .ld none (.t 52),
 oo 54 <| .bin .geq (.t 53) (ki 0)]
def rQjX15 : List O := [
 oo 55 <| .mv (.t 7),
 oo 56 <| .mv (.t 12),
 oo 57 <| .ixa 1 (.t 55) (.t 56),
 oo 58 <| .ld none (.t 57),
 oo 59 <| .ixp 65 1 (.t 10) (.t 58),
 oz <| .st 1 (.t 59) (.k (.bool true))]
def rQjX16 : List O := [
 oo 60 <| .bin .add (.t 46) (ki 1),
 oo 46 <| .mv (.t 60)]
def lQjX0 : C := (.seq (.reg rQjX12 false [] [2,7,9,10,36,37,38,44,45,46,47]) (.seq (.cond (.t 47) .skip (.exit 2)) (.seq (.blk 3 (.seq (.reg rQjX13 false [] [2,7,9,10,12,36,37,38,44,45,46]) (.seq (.reg rQjX14 false [] [2,7,9,10,12,36,37,38,44,45,46,54]) (.cond (.t 54) (.reg rQjX15 false [] [2,7,9,10,36,37,38,44,45,46]) .skip)))) (.reg rQjX16 false [] [2,7,9,10,36,37,38,44,45,46]))))
def rQjX17 : List O := [
 oo 61 <| .mv (.t 7),
 oo 62 <| .mv (.t 9),
 oo 63 <| .asl 65 (.t 10) none,
 oo 64 <| .call nQA [(.t 63),(.k (.bool false))],
 oo 65 <| .ixa 1 (.t 61) (.t 62),
 oz <| .st 1 (.t 65) (.t 64)]
def rQjX18 : List O := [
 oo 66 <| .bin .add (.t 38) (ki 1),
 oo 38 <| .mv (.t 66)]
def lQjX1 : C := (.seq (.reg rQjX8 false [] [2,7,36,37,38,39]) (.seq (.cond (.t 39) .skip (.exit 0)) (.seq (.blk 1 (.seq (.reg rQjX9 false [] [2,7,9,36,37,38]) (.seq (.reg rQjX10 false [] [2,7,9,10,36,37,38]) (.seq (.seq (.reg rQjX11 false [] [2,7,9,10,36,37,38,44,45,46]) (.blk 2 (.loop lQjX0))) (.reg rQjX17 false [] [2,7,36,37,38]))))) (.reg rQjX18 false [] [2,7,36,37,38]))))
def rQjX19 : List O := [
 oo 67 <| .mv (.t 7),
 oo 4 <| .mv (.t 67),
 oo 5 <| .mv (ki 0)]
def cQj : C := (.seq (.reg rQjX0 false [] [1,2]) (.seq (.seq (.reg rQjX1 false [] [1,2,6]) (.seq (.reg rQjX2 false [] [1,2,6,16]) (.cond (.t 16) (.seq (.reg rQjX3 false [] [4,5]) .ret) .skip))) (.seq (.seq (.reg rQjX4 true [(4,4),(5,5),(10,10),(11,11),(12,12),(13,13),(0,3),(1,3),(7,8),(6,9),(7,9)] [1,2,31]) (.cond (.t 31) (.seq (.reg rQjX5 false [] [4,5]) .ret) .skip)) (.seq (.reg rQjX6 false [] [1,2,7]) (.seq (.seq (.reg rQjX7 false [] [2,7,36,37,38]) (.blk 0 (.loop lQjX1))) (.seq (.reg rQjX19 false [] [4,5]) .ret))))))
def qQj : AFn := ⟨68,2,[.t 4,.t 5],cQj⟩
/- cohesion/cohesionref02.Of -/
def rQkX0 : List O := [
 oo 2 <| .mv (.k (.own 1 []))]
def rQkX1 : List O := [
 oo 3 <| .mv (.k (.own 1 []))]
def rQkX2 : List O := [
 oo 6 <| .mv (.t 0),
 oo 7 <| .len (.t 6),
 oo 8 <| .mv (ki 0)]
def rQkX3 : List O := [
 oo 9 <| .bin .lss (.t 8) (.t 7)]
def rQkX4 : List O := [
 oo 10 <| .ixa 1 (.t 6) (.t 8),
 oo 11 <| .ld none (.t 10),
 oo 5 <| .mv (.t 11)]
def rQkX5 : List O := [
 oo 12 <| .mv (.t 3),
 oo 13 <| .mv (.t 5),
 oo 14 <| .call nQB [(.t 12),(.t 13)],
 oo 3 <| .mv (.t 14)]
def rQkX6 : List O := [
 oo 15 <| .bin .add (.t 8) (ki 1),
 oo 8 <| .mv (.t 15)]
def lQkX0 : C := (.seq (.reg rQkX3 false [] [3,6,7,8,9]) (.seq (.cond (.t 9) .skip (.exit 0)) (.seq (.blk 1 (.seq (.reg rQkX4 false [] [3,5,6,7,8]) (.reg rQkX5 false [] [3,6,7,8]))) (.reg rQkX6 false [] [3,6,7,8]))))
def rQkX7 : List O := [
 oo 16 <| .mv (.t 3),
 oo 2 <| .mv (.t 16)]
def cQk : C := (.seq (.reg rQkX0 false [] [0]) (.seq (.reg rQkX1 false [] [0,3]) (.seq (.seq (.reg rQkX2 false [] [3,6,7,8]) (.blk 0 (.loop lQkX0))) (.seq (.reg rQkX7 false [] [2]) .ret))))
def qQk : AFn := ⟨17,1,[.t 2],cQk⟩
/- cohesion/cohesionmake.Graph -/
def rQlX0 : List O := [
 oo 4 <| .new [(.int .i64 0),(.own 2 [])]]
def rQlX1 : List O := [
 oo 9 <| .mv (.t 0),
 oo 10 <| .mv (.t 1),
 oo 11 <| .bin .add (.t 10) (ki 1),
 oo 12 <| .call nQe [(.t 9),(.t 11)],
 oo 13 <| .build [(.int .i64 0),(.own 2 [])] [(0,1,(.t 12))],
 oo 5 <| .new [(.int .i64 0),(.own 2 [])],
 oz <| .st 2 (.t 5) (.t 13)]
def rQlX2 : List O := [
 oo 14 <| .fad 0 (.t 5),
 oo 15 <| .ld none (.t 14),
 oo 16 <| .bin .lss (.t 15) (ki 4)]
def rQlX3 : List O := [
 oo 17 <| .mv (.t 1),
 oo 18 <| .fad 0 (.t 5),
 oo 19 <| .ld none (.t 18),
 oo 20 <| .mv (.t 0),
 oo 21 <| .mv (.t 1),
 oo 22 <| .bin .add (.t 21) (ki 1),
 oo 23 <| .call nQe [(.t 20),(.t 22)],
 oo 24 <| .bin .add (.t 19) (.t 23),
 oo 25 <| .min [(.t 17),(.t 24)],
 oo 26 <| .fad 0 (.t 5),
 oz <| .st 1 (.t 26) (.t 25)]
def rQlX4 : List O := [
 oo 27 <| .mv (.t 0),
 oo 28 <| .call nQe [(.t 27),(ki 4)],
 oo 29 <| .bin .add (ki 1) (.t 28),
 oo 6 <| .mv (.t 29)]
def rQlX5 : List O := [
 oo 7 <| .mv (ki 0)]
def rQlX6 : List O := [
 oo 30 <| .mv (.t 7),
 oo 31 <| .fad 0 (.t 5),
 oo 32 <| .ld none (.t 31),
 oo 33 <| .bin .lss (.t 30) (.t 32)]
def rQlX7 : List O := [
 oo 36 <| .mv (.t 7),
 oo 37 <| .bin .add (.t 36) (ki 1),
 oo 8 <| .mv (.t 37)]
def rQlX8 : List O := [
 oo 38 <| .mv (.t 8),
 oo 39 <| .fad 0 (.t 5),
 oo 40 <| .ld none (.t 39),
 oo 41 <| .bin .lss (.t 38) (.t 40)]
def rQlX9 : List O := [
 oo 44 <| .mv (.t 0),
 oo 45 <| .call nQe [(.t 44),(ki 5)],
 oo 46 <| .mv (.t 6),
 oo 47 <| .bin .sub (ki 5) (.t 46),
 oo 48 <| .bin .geq (.t 45) (.t 47)]
def rQlX10 : List O := [
 oo 49 <| .fad 1 (.t 5),
 oo 50 <| .ld none (.t 49),
 oo 51 <| .mv (.t 7),
 oo 52 <| .mv (.t 8),
 oo 53 <| .build [(.int .i64 0),(.int .i64 0)] [(0,1,(.t 51)),(1,1,(.t 52))],
 oo 54 <| .bslice 2 1 [(.int .i64 0),(.int .i64 0)] [(0,2,(.t 53))],
 oo 55 <| .app 2 (.t 50) (.t 54),
 oo 56 <| .fad 1 (.t 5),
 oz <| .st 1 (.t 56) (.t 55)]
def rQlX11 : List O := [
 oo 42 <| .mv (.t 8),
 oo 43 <| .bin .add (.t 42) (ki 1),
 oo 8 <| .mv (.t 43)]
def lQlX0 : C := (.seq (.seq (.reg rQlX8 false [] [0,4,5,6,7,8,41]) (.cond (.t 41) .skip (.exit 2))) (.seq (.blk 3 (.seq (.reg rQlX9 false [] [0,4,5,6,7,8,48]) (.cond (.t 48) (.reg rQlX10 false [] [0,4,5,6,7,8]) .skip))) (.reg rQlX11 false [] [0,4,5,6,7,8])))
def rQlX12 : List O := [
 oo 34 <| .mv (.t 7),
 oo 35 <| .bin .add (.t 34) (ki 1),
 oo 7 <| .mv (.t 35)]
def lQlX1 : C := (.seq (.seq (.reg rQlX6 false [] [0,4,5,6,7,33]) (.cond (.t 33) .skip (.exit 0))) (.seq (.blk 1 (.seq (.reg rQlX7 false [] [0,4,5,6,7,8]) (.blk 2 (.loop lQlX0)))) (.reg rQlX12 false [] [0,4,5,6,7])))
def rQlX13 : List O := [
 oo 57 <| .ld (some 2) (.t 5),
 oz <| .st 2 (.t 4) (.t 57)]
def cQl : C := (.seq (.reg rQlX0 false [] [0,1,4]) (.seq (.reg rQlX1 false [] [0,1,4,5]) (.seq (.seq (.reg rQlX2 false [] [0,1,4,5,16]) (.cond (.t 16) (.reg rQlX3 true [(8,8),(9,9),(10,10),(0,2),(2,3),(2,4),(2,5),(0,6),(1,6),(2,6)] [0,4,5]) .skip)) (.seq (.reg rQlX4 false [] [0,4,5,6]) (.seq (.seq (.reg rQlX5 false [] [0,4,5,6,7]) (.blk 0 (.loop lQlX1))) (.seq (.reg rQlX13 false [] [4]) .ret))))))
def qQl : AFn := ⟨58,2,[.c 4 (some 2)],cQl⟩
/- cohesion/maxclique.Colours -/
def rQmX0 : List O := [
 oo 1 <| .box (.t 0),
 oo 2 <| .mv (.k (.own 1 [])),
 oo 3 <| .mv (ki 0)]
def rQmX1 : List O := [
 oo 7 <| .ld (some 2) (.t 1),
 oo 8 <| .call nQC [(.t 7)],
 oo 6 <| .mv (.t 8),
 oo 9 <| .ext 0 (.t 6),
 oo 10 <| .ext 1 (.t 6),
 oo 4 <| .mv (.t 9),
 oo 5 <| .mv (.t 10)]
def rQmX2 : List O := [
 oo 11 <| .mv (.t 5),
 oo 12 <| .bin .neq (.t 11) (ki 0)]
def rQmX3 : List O := [
 oo 13 <| .mv (.t 5),
 oo 2 <| .mv (.k (.own 1 [])),
 oo 3 <| .mv (.t 13)]
def rQmX4 : List O := [
 oo 14 <| .mv (.t 4),
 oo 15 <| .call nQD [(.t 14)]]
def rQmX5 : List O := [
 oo 16 <| .ld (some 2) (.t 1),
 oo 17 <| .mv (.t 4),
 oo 18 <| .call nQj [(.t 16),(.t 17)],
 oo 19 <| .ext 0 (.t 18),
 oo 20 <| .ext 1 (.t 18),
 oo 2 <| .mv (.t 19),
 oo 3 <| .mv (.t 20)]
def cQm : C := (.seq (.reg rQmX0 false [] [1]) (.seq (.reg rQmX1 false [] [1,4,5]) (.seq (.seq (.reg rQmX2 false [] [1,4,5,12]) (.cond (.t 12) (.seq (.reg rQmX3 false [] [2,3]) .ret) .skip)) (.seq (.reg rQmX4 false [] [1,4]) (.seq (.reg rQmX5 false [] [2,3]) .ret)))))
def qQm : AFn := ⟨21,1,[.t 2,.t 3],cQm⟩
/- cohesion/cohesionref03.Remove -/
def rQnX0 : List O := [
 oo 3 <| .box (.t 0),
 oo 6 <| .new [(.int .i64 0),(.own 2 [])],
 oo 7 <| .mv (ki 0)]
def rQnX1 : List O := [
 oo 12 <| .ld (some 2) (.t 3),
 oo 13 <| .call nQE [(.t 12)],
 oo 8 <| .mv (.t 13)]
def rQnX2 : List O := [
 oo 14 <| .mv (.t 8),
 oo 15 <| .bin .neq (.t 14) (ki 0)]
def rQnX3 : List O := [
 oo 16 <| .build [(.int .i64 0),(.own 2 [])] [],
 oo 17 <| .mv (.t 8),
 oz <| .st 2 (.t 6) (.t 16),
 oo 7 <| .mv (.t 17)]
def rQnX4 : List O := [
 oo 18 <| .fad 0 (.t 3),
 oo 19 <| .ld none (.t 18),
 oo 20 <| .mv (.t 1),
 oo 21 <| .mv (.t 2),
 oo 22 <| .call nQF [(.t 19),(.t 20),(.t 21)],
 oo 23 <| .un .not (.t 22)]
def rQnX5 : List O := [
 oo 24 <| .build [(.int .i64 0),(.own 2 [])] [],
 oz <| .st 2 (.t 6) (.t 24),
 oo 7 <| .mv (ki 6)]
def rQnX6 : List O := [
 oo 25 <| .ld (some 2) (.t 3),
 oo 26 <| .mv (.t 1),
 oo 27 <| .mv (.t 2),
 oo 28 <| .call nQG [(.t 25),(.t 26),(.t 27)],
 oo 29 <| .bin .lss (.t 28) (ki 0)]
def rQnX7 : List O := [
 oo 30 <| .build [(.int .i64 0),(.own 2 [])] [],
 oz <| .st 2 (.t 6) (.t 30),
 oo 7 <| .mv (ki 7)]
def rQnX8 : List O := [
 oo 31 <| .fad 0 (.t 3),
 oo 32 <| .ld none (.t 31),
 oo 33 <| .build [(.int .i64 0),(.own 2 [])] [(0,1,(.t 32))],
 oo 9 <| .new [(.int .i64 0),(.own 2 [])],
 oz <| .st 2 (.t 9) (.t 33)]
def rQnX9 : List O := [
 oo 34 <| .fad 1 (.t 3),
 oo 35 <| .ld none (.t 34),
 oo 36 <| .len (.t 35),
 oo 37 <| .mv (ki 0)]
def rQnX10 : List O := [
 oo 38 <| .bin .lss (.t 37) (.t 36)]
def rQnX11 : List O := [
 oo 39 <| .ixa 2 (.t 35) (.t 37),
 oo 40 <| .ld (some 2) (.t 39),
 oo 11 <| .new [(.int .i64 0),(.int .i64 0)],
 oz <| .st 2 (.t 11) (.t 40)]
def rQnX12 : List O := [
 oo 41 <| .ld (some 2) (.t 11),
 oo 42 <| .mv (.t 1),
 oo 43 <| .mv (.t 2),
 oo 44 <| .call nQH [(.t 42),(.t 43)],
 oo 45 <| .eq true (.str [true,true]) (.t 41) (.t 44)]
def rQnX13 : List O := [
 oo 46 <| .fad 1 (.t 9),
 oo 47 <| .ld none (.t 46),
 oo 48 <| .ld (some 2) (.t 11),
 oo 49 <| .bslice 2 1 [(.int .i64 0),(.int .i64 0)] [(0,2,(.t 48))],
 oo 50 <| .app 2 (.t 47) (.t 49),
 oo 51 <| .fad 1 (.t 9),
 oz <| .st 1 (.t 51) (.t 50)]
def rQnX14 : List O := [
 oo 52 <| .bin .add (.t 37) (ki 1),
 oo 37 <| .mv (.t 52)]
def lQnX0 : C := (.seq (.reg rQnX10 false [] [1,2,6,9,35,36,37,38]) (.seq (.cond (.t 38) .skip (.exit 0)) (.seq (.blk 1 (.seq (.reg rQnX11 false [] [1,2,6,9,11,35,36,37]) (.seq (.reg rQnX12 true [(4,4),(0,1),(0,2),(0,3)] [1,2,6,9,11,35,36,37,45]) (.cond (.t 45) (.reg rQnX13 false [] [1,2,6,9,35,36,37]) .skip)))) (.reg rQnX14 false [] [1,2,6,9,35,36,37]))))
def rQnX15 : List O := [
 oo 53 <| .ld (some 2) (.t 9),
 oz <| .st 2 (.t 6) (.t 53),
 oo 7 <| .mv (ki 0)]
def cQn : C := (.seq (.reg rQnX0 false [] [1,2,3,6]) (.seq (.seq (.reg rQnX1 false [] [1,2,3,6,8]) (.seq (.reg rQnX2 false [] [1,2,3,6,8,15]) (.cond (.t 15) (.seq (.reg rQnX3 false [] [6,7]) .ret) .skip))) (.seq (.seq (.reg rQnX4 false [] [1,2,3,6,23]) (.cond (.t 23) (.seq (.reg rQnX5 false [] [6,7]) .ret) .skip)) (.seq (.seq (.reg rQnX6 false [] [1,2,3,6,29]) (.cond (.t 29) (.seq (.reg rQnX7 false [] [6,7]) .ret) .skip)) (.seq (.reg rQnX8 false [] [1,2,3,6,9]) (.seq (.seq (.reg rQnX9 false [] [1,2,6,9,35,36,37]) (.blk 0 (.loop lQnX0))) (.seq (.reg rQnX15 false [] [6,7]) .ret)))))))
def qQn : AFn := ⟨54,3,[.c 6 (some 2),.t 7],cQn⟩
/- cohesion/maxclique.Proper -/
def rQoX0 : List O := [
 oo 2 <| .box (.t 0),
 oo 3 <| .box (.t 1),
 oo 4 <| .mv (.k (.bool false))]
def rQoX1 : List O := [
 oo 5 <| .ld (some 2) (.t 2),
 oo 6 <| .call nQu [(.t 5)],
 oo 7 <| .bin .neq (.t 6) (ki 0),
 oo 8 <| .mv (.t 7),
 ⟨(some 9),(some (8,false)),.ld none (.t 3)⟩,
 ⟨(some 10),(some (8,false)),.len (.t 9)⟩,
 ⟨(some 11),(some (8,false)),.fad 0 (.t 2)⟩,
 ⟨(some 12),(some (8,false)),.ld none (.t 11)⟩,
 ⟨(some 13),(some (8,false)),.bin .neq (.t 10) (.t 12)⟩,
 oo 14 <| .pick (.t 8) (.k (.bool true)) (.t 13),
 oo 15 <| .mv (.t 14),
 ⟨(some 16),(some (15,false)),.ld none (.t 3)⟩,
 ⟨(some 17),(some (15,false)),.call nQI [(.t 16),(.k (.func (.func nQJ) [] []))]⟩,
 oo 18 <| .pick (.t 15) (.k (.bool true)) (.t 17)]
def rQoX2 : List O := [
 oo 4 <| .mv (.k (.bool false))]
def rQoX3 : List O := [
 oo 19 <| .fad 1 (.t 2),
 oo 20 <| .ld none (.t 19),
 oo 21 <| .mkf (.func nQL) [] [(.t 3)],
 oo 22 <| .call nQK [(.t 20),(.t 21)],
 oo 23 <| .un .not (.t 22),
 oo 4 <| .mv (.t 23)]
def cQo : C := (.seq (.reg rQoX0 false [] [2,3]) (.seq (.seq (.reg rQoX1 false [] [2,3,18]) (.cond (.t 18) (.seq (.reg rQoX2 false [] [4]) .ret) .skip)) (.seq (.reg rQoX3 false [] [4]) .ret)))
def qQo : AFn := ⟨24,2,[.t 4],cQo⟩
/- cohesion/maxclique.Best -/
def rQpX0 : List O := [
 oo 1 <| .box (.t 0),
 oo 2 <| .mv (.k (.own 1 [])),
 oo 3 <| .mv (ki 0)]
def rQpX1 : List O := [
 oo 12 <| .ld (some 2) (.t 1),
 oo 13 <| .call nQu [(.t 12)],
 oo 4 <| .mv (.t 13)]
def rQpX2 : List O := [
 oo 14 <| .mv (.t 4),
 oo 15 <| .bin .neq (.t 14) (ki 0)]
def rQpX3 : List O := [
 oo 16 <| .mv (.t 4),
 oo 2 <| .mv (.k (.own 1 [])),
 oo 3 <| .mv (.t 16)]
def rQpX4 : List O := [
 oo 17 <| .ld (some 2) (.t 1),
 oo 18 <| .call nQM [(.t 17)],
 oo 5 <| .mv (.t 18)]
def rQpX5 : List O := [
 oo 19 <| .fad 0 (.t 1),
 oo 20 <| .ld none (.t 19),
 oo 21 <| .bin .shl (.k (.int .u64 1)) (.t 20),
 oo 22 <| .bin .sub (.t 21) (.k (.int .u64 1)),
 oo 6 <| .mv (.t 22)]
def rQpX6 : List O := [
 oo 7 <| .mv (.k (.own 1 []))]
def rQpX7 : List O := [
 oo 23 <| .mv (.t 5),
 oo 24 <| .mv (.t 6),
 oo 25 <| .call nQN [(.t 23),(.t 24),(ki 0)],
 oo 8 <| .mv (.t 25)]
def rQpX8 : List O := [
 oo 26 <| .mv (.t 8),
 oo 27 <| .bin .gtr (.t 26) (ki 0)]
def rQpX9 : List O := [
 oo 30 <| .mv (.t 6),
 oo 9 <| .mv (.t 30)]
def rQpX10 : List O := [
 oo 31 <| .mv (.t 9),
 oo 32 <| .bin .neq (.t 31) (.k (.int .u64 0))]
def rQpX11 : List O := [
 oo 37 <| .mv (.t 9),
 oo 38 <| .call nQO [(.t 37)],
 oo 10 <| .mv (.t 38)]
def rQpX12 : List O := [
 oo 39 <| .mv (.t 9),
 oo 40 <| .mv (.t 10),
 oo 41 <| .bin .shl (.k (.int .u64 1)) (.t 40),
 oo 42 <| .bin .andNot (.t 39) (.t 41),
 oo 43 <| .mv (.t 5),
 oo 44 <| .mv (.t 10),
 oo 45 <| .ixa 1 (.t 43) (.t 44),
 oo 46 <| .ld none (.t 45),
 oo 47 <| .bin .and (.t 42) (.t 46),
 oo 11 <| .mv (.t 47)]
def rQpX13 : List O := [
 oo 48 <| .mv (.t 5),
 oo 49 <| .mv (.t 11),
 oo 50 <| .mv (.t 8),
 oo 51 <| .bin .sub (.t 50) (ki 2),
 oo 52 <| .call nQN [(.t 48),(.t 49),(.t 51)],
 oo 53 <| .mv (.t 8),
 oo 54 <| .bin .sub (.t 53) (ki 1),
 oo 55 <| .bin .geq (.t 52) (.t 54)]
def rQpX14 : List O := [
 oo 56 <| .mv (.t 7),
 oo 57 <| .mv (.t 10),
 oo 58 <| .bslice 1 1 [(.int .i64 0)] [(0,1,(.t 57))],
 oo 59 <| .app 1 (.t 56) (.t 58),
 oo 60 <| .mv (.t 11),
 oo 7 <| .mv (.t 59),
 oo 6 <| .mv (.t 60)]
def rQpX15 : List O := [
 oo 33 <| .mv (.t 9),
 oo 34 <| .mv (.t 9),
 oo 35 <| .bin .sub (.t 34) (.k (.int .u64 1)),
 oo 36 <| .bin .and (.t 33) (.t 35),
 oo 9 <| .mv (.t 36)]
def lQpX0 : C := (.seq (.seq (.reg rQpX10 false [] [5,6,7,8,9,32]) (.cond (.t 32) .skip (.exit 2))) (.seq (.blk 3 (.seq (.reg rQpX11 false [] [5,6,7,8,9,10]) (.seq (.reg rQpX12 true [(8,8),(9,9),(0,7),(1,7),(2,7),(3,7)] [5,6,7,8,9,10,11]) (.seq (.reg rQpX13 false [] [5,6,7,8,9,10,11,55]) (.cond (.t 55) (.seq (.reg rQpX14 false [] [5,6,7,8]) (.exit 2)) .skip))))) (.reg rQpX15 false [] [5,6,7,8,9])))
def rQpX16 : List O := [
 oo 28 <| .mv (.t 8),
 oo 29 <| .bin .sub (.t 28) (ki 1),
 oo 8 <| .mv (.t 29)]
def lQpX1 : C := (.seq (.seq (.reg rQpX8 false [] [5,6,7,8,27]) (.cond (.t 27) .skip (.exit 0))) (.seq (.blk 1 (.seq (.reg rQpX9 false [] [5,6,7,8,9]) (.blk 2 (.loop lQpX0)))) (.reg rQpX16 false [] [5,6,7,8])))
def rQpX17 : List O := [
 oo 61 <| .mv (.t 7),
 oo 2 <| .mv (.t 61),
 oo 3 <| .mv (ki 0)]
def cQp : C := (.seq (.reg rQpX0 false [] [1]) (.seq (.seq (.reg rQpX1 false [] [1,4]) (.seq (.reg rQpX2 false [] [1,4,15]) (.cond (.t 15) (.seq (.reg rQpX3 false [] [2,3]) .ret) .skip))) (.seq (.reg rQpX4 false [] [1,5]) (.seq (.reg rQpX5 false [] [5,6]) (.seq (.reg rQpX6 false [] [5,6,7]) (.seq (.seq (.reg rQpX7 false [] [5,6,7,8]) (.blk 0 (.loop lQpX1))) (.seq (.reg rQpX17 false [] [2,3]) .ret)))))))
def qQp : AFn := ⟨62,1,[.t 2,.t 3],cQp⟩
/- cohesion/cohesionref02.Cmp -/
def rQqX0 : List O := [
 oo 4 <| .mv (ki 0)]
def rQqX1 : List O := [
 oo 6 <| .mv (.t 0),
 oo 7 <| .len (.t 6),
 oo 8 <| .mv (ki 0)]
def rQqX2 : List O := [
 oo 9 <| .bin .lss (.t 8) (.t 7)]
def rQqX3 : List O := [
 oo 10 <| .mv (.t 8),
 oo 5 <| .mv (.t 10)]
def rQqX4 : List O := [
 oo 12 <| .mv (.t 5),
 oo 13 <| .mv (.t 1),
 oo 14 <| .len (.t 13),
 oo 15 <| .bin .geq (.t 12) (.t 14),
 oo 16 <| .mv (.t 15),
 ⟨(some 17),(some (16,false)),.mv (.t 0)⟩,
 ⟨(some 18),(some (16,false)),.mv (.t 5)⟩,
 ⟨(some 19),(some (16,false)),.ixa 1 (.t 17) (.t 18)⟩,
 ⟨(some 20),(some (16,false)),.ld none (.t 19)⟩,
 ⟨(some 21),(some (16,false)),.mv (.t 1)⟩,
 ⟨(some 22),(some (16,false)),.mv (.t 5)⟩,
 ⟨(some 23),(some (16,false)),.ixa 1 (.t 21) (.t 22)⟩,
 ⟨(some 24),(some (16,false)),.ld none (.t 23)⟩,
 ⟨(some 25),(some (16,false)),.bin .gtr (.t 20) (.t 24)⟩,
 oo 26 <| .pick (.t 16) (.k (.bool true)) (.t 25),
 oo 11 <| .mv (.t 26)]
def rQqX5 : List O := [
 oo 4 <| .mv (ki 1)]
def rQqX6 : List O := [
 oo 28 <| .mv (.t 0),
 oo 29 <| .mv (.t 5),
 oo 30 <| .ixa 1 (.t 28) (.t 29),
 oo 31 <| .ld none (.t 30),
 oo 32 <| .mv (.t 1),
 oo 33 <| .mv (.t 5),
 oo 34 <| .ixa 1 (.t 32) (.t 33),
 oo 35 <| .ld none (.t 34),
 oo 36 <| .bin .lss (.t 31) (.t 35),
 oo 27 <| .mv (.t 36)]
def rQqX7 : List O := [
 oo 4 <| .mv (.k (.int .i64 (-1)))]
def rQqX8 : List O := [
 oo 37 <| .bin .add (.t 8) (ki 1),
 oo 8 <| .mv (.t 37)]
def lQqX0 : C := (.seq (.reg rQqX2 false [] [0,1,7,8,9]) (.seq (.cond (.t 9) .skip (.exit 0)) (.seq (.blk 1 (.seq (.reg rQqX3 false [] [0,1,5,7,8]) (.blk 2 (.seq (.reg rQqX4 true [(3,3),(4,4),(13,13),(14,14),(15,15),(8,9),(8,10),(8,11),(5,12),(6,12),(7,12),(8,12)] [0,1,5,7,8,11]) (.cond (.t 11) (.seq (.reg rQqX5 false [] [4]) .ret) (.seq (.reg rQqX6 true [(8,8),(9,9),(3,4),(3,5),(3,6),(0,7),(1,7),(2,7),(3,7)] [0,1,7,8,27]) (.cond (.t 27) (.seq (.reg rQqX7 false [] [4]) .ret) .skip))))))) (.reg rQqX8 false [] [0,1,7,8]))))
def rQqX9 : List O := [
 oo 38 <| .mv (.t 0),
 oo 39 <| .len (.t 38),
 oo 40 <| .mv (.t 1),
 oo 41 <| .len (.t 40),
 oo 42 <| .bin .lss (.t 39) (.t 41)]
def rQqX10 : List O := [
 oo 4 <| .mv (.k (.int .i64 (-1)))]
def rQqX11 : List O := [
 oo 4 <| .mv (ki 0)]
def cQq : C := (.seq (.reg rQqX0 false [] [0,1]) (.seq (.seq (.reg rQqX1 false [] [0,1,7,8]) (.blk 0 (.loop lQqX0))) (.seq (.seq (.reg rQqX9 false [] [42]) (.cond (.t 42) (.seq (.reg rQqX10 false [] [4]) .ret) .skip)) (.seq (.reg rQqX11 false [] [4]) .ret))))
def qQq : AFn := ⟨43,2,[.t 4],cQq⟩
/- cohesion/cohesionref03.Of -/
def rQrX0 : List O := [
 oo 4 <| .new [(.int .i64 0),(.own 2 [])],
 oo 5 <| .mv (ki 0)]
def rQrX1 : List O := [
 oo 9 <| .mv (.t 0),
 oo 10 <| .bin .lss (.t 9) (ki 0),
 oo 11 <| .mv (.t 10),
 ⟨(some 12),(some (11,false)),.mv (.t 0)⟩,
 ⟨(some 13),(some (11,false)),.bin .gtr (.t 12) (ki 64)⟩,
 oo 14 <| .pick (.t 11) (.k (.bool true)) (.t 13)]
def rQrX2 : List O := [
 oo 15 <| .build [(.int .i64 0),(.own 2 [])] [],
 oz <| .st 2 (.t 4) (.t 15),
 oo 5 <| .mv (ki 1)]
def rQrX3 : List O := [
 oo 16 <| .mv (.t 0),
 oo 17 <| .build [(.int .i64 0),(.own 2 [])] [(0,1,(.t 16))],
 oo 6 <| .new [(.int .i64 0),(.own 2 [])],
 oz <| .st 2 (.t 6) (.t 17)]
def rQrX4 : List O := [
 oo 18 <| .mv (.t 1),
 oo 19 <| .len (.t 18),
 oo 20 <| .mv (ki 0)]
def rQrX5 : List O := [
 oo 21 <| .bin .lss (.t 20) (.t 19)]
def rQrX6 : List O := [
 oo 22 <| .ixa 2 (.t 18) (.t 20),
 oo 23 <| .ld (some 2) (.t 22),
 oo 8 <| .new [(.int .i64 0),(.int .i64 0)],
 oz <| .st 2 (.t 8) (.t 23)]
def rQrX7 : List O := [
 oo 24 <| .mv (.t 0),
 oo 25 <| .fad 0 (.t 8),
 oo 26 <| .ld none (.t 25),
 oo 27 <| .fad 1 (.t 8),
 oo 28 <| .ld none (.t 27),
 oo 29 <| .call nQF [(.t 24),(.t 26),(.t 28)],
 oo 30 <| .un .not (.t 29)]
def rQrX8 : List O := [
 oo 31 <| .build [(.int .i64 0),(.own 2 [])] [],
 oz <| .st 2 (.t 4) (.t 31),
 oo 5 <| .mv (ki 6)]
def rQrX9 : List O := [
 oo 32 <| .fad 1 (.t 6),
 oo 33 <| .ld none (.t 32),
 oo 34 <| .fad 0 (.t 8),
 oo 35 <| .ld none (.t 34),
 oo 36 <| .fad 1 (.t 8),
 oo 37 <| .ld none (.t 36),
 oo 38 <| .call nQH [(.t 35),(.t 37)],
 oo 39 <| .call nQP [(.t 33),(.t 38)],
 oo 40 <| .fad 1 (.t 6),
 oz <| .st 1 (.t 40) (.t 39)]
def rQrX10 : List O := [
 oo 41 <| .bin .add (.t 20) (ki 1),
 oo 20 <| .mv (.t 41)]
def lQrX0 : C := (.seq (.reg rQrX5 false [] [0,4,6,18,19,20,21]) (.seq (.cond (.t 21) .skip (.exit 0)) (.seq (.blk 1 (.seq (.reg rQrX6 false [] [0,4,6,8,18,19,20]) (.seq (.seq (.reg rQrX7 false [] [0,4,6,8,18,19,20,30]) (.cond (.t 30) (.seq (.reg rQrX8 false [] [4,5]) .ret) .skip)) (.reg rQrX9 true [(7,7),(8,8),(9,9),(1,2),(0,3),(1,3),(1,4),(3,4),(0,5),(1,5),(2,5),(3,5),(0,6),(1,6)] [0,4,6,18,19,20])))) (.reg rQrX10 false [] [0,4,6,18,19,20]))))
def rQrX11 : List O := [
 oo 42 <| .ld (some 2) (.t 6),
 oz <| .st 2 (.t 4) (.t 42),
 oo 5 <| .mv (ki 0)]
def cQr : C := (.seq (.reg rQrX0 false [] [0,1,4]) (.seq (.seq (.reg rQrX1 false [] [0,1,4,14]) (.cond (.t 14) (.seq (.reg rQrX2 false [] [4,5]) .ret) .skip)) (.seq (.reg rQrX3 false [] [0,1,4,6]) (.seq (.seq (.reg rQrX4 false [] [0,4,6,18,19,20]) (.blk 0 (.loop lQrX0))) (.seq (.reg rQrX11 false [] [4,5]) .ret)))))
def qQr : AFn := ⟨43,2,[.c 4 (some 2),.t 5],cQr⟩
/- cohesion/maxclique.Bound -/
def rQsX0 : List O := [
 oo 1 <| .box (.t 0),
 oo 2 <| .mv (ki 0),
 oo 3 <| .mv (ki 0)]
def rQsX1 : List O := [
 oo 8 <| .ld (some 2) (.t 1),
 oo 9 <| .call nQm [(.t 8)],
 oo 7 <| .mv (.t 9),
 oo 10 <| .ext 0 (.t 7),
 oo 11 <| .ext 1 (.t 7),
 oo 4 <| .mv (.t 10),
 oo 5 <| .mv (.t 11)]
def rQsX2 : List O := [
 oo 12 <| .mv (.t 5),
 oo 13 <| .bin .neq (.t 12) (ki 0),
 oo 14 <| .mv (.t 13),
 ⟨(some 15),(some (14,false)),.fad 0 (.t 1)⟩,
 ⟨(some 16),(some (14,false)),.ld none (.t 15)⟩,
 ⟨(some 17),(some (14,false)),.bin .eql (.t 16) (ki 0)⟩,
 oo 18 <| .pick (.t 14) (.k (.bool true)) (.t 17)]
def rQsX3 : List O := [
 oo 19 <| .mv (.t 5),
 oo 2 <| .mv (ki 0),
 oo 3 <| .mv (.t 19)]
def rQsX4 : List O := [
 oo 21 <| .ld (some 2) (.t 1),
 oo 22 <| .call nQQ [(.t 21)],
 oo 20 <| .mv (.t 22),
 oo 23 <| .ext 0 (.t 20),
 oo 24 <| .ext 1 (.t 20),
 oo 6 <| .mv (.t 23),
 oo 5 <| .mv (.t 24)]
def rQsX5 : List O := [
 oo 25 <| .mv (.t 5),
 oo 26 <| .bin .neq (.t 25) (ki 0)]
def rQsX6 : List O := [
 oo 27 <| .mv (.t 5),
 oo 2 <| .mv (ki 0),
 oo 3 <| .mv (.t 27)]
def rQsX7 : List O := [
 oo 28 <| .mv (.t 4),
 oo 29 <| .call nQw [(.t 28)],
 oo 30 <| .len (.t 29),
 oo 31 <| .mv (.t 6),
 oo 32 <| .bin .add (.t 31) (ki 1),
 oo 33 <| .min [(.t 30),(.t 32)],
 oo 2 <| .mv (.t 33),
 oo 3 <| .mv (ki 0)]
def cQs : C := (.seq (.reg rQsX0 false [] [1]) (.seq (.reg rQsX1 false [] [1,4,5]) (.seq (.seq (.reg rQsX2 false [] [1,4,5,18]) (.cond (.t 18) (.seq (.reg rQsX3 false [] [2,3]) .ret) .skip)) (.seq (.reg rQsX4 false [] [4,5,6]) (.seq (.seq (.reg rQsX5 false [] [4,5,6,26]) (.cond (.t 26) (.seq (.reg rQsX6 false [] [2,3]) .ret) .skip)) (.seq (.reg rQsX7 false [] [2,3]) .ret))))))
def qQs : AFn := ⟨34,1,[.t 2,.t 3],cQs⟩
/- cohesion/cohesionmake.Mod -/
def rQtX0 : List O := [
 oo 4 <| .mv (ki 0)]
def rQtX1 : List O := [
 oo 5 <| .mv (.t 0),
 oo 6 <| .mv (.t 1),
 oo 7 <| .bin .rem (.t 5) (.t 6),
 oo 8 <| .mv (.t 1),
 oo 9 <| .bin .add (.t 7) (.t 8),
 oo 10 <| .mv (.t 1),
 oo 11 <| .bin .rem (.t 9) (.t 10),
 oo 4 <| .mv (.t 11)]
def cQt : C := (.seq (.reg rQtX0 false [] [0,1]) (.seq (.reg rQtX1 false [] [4]) .ret))
def qQt : AFn := ⟨12,2,[.t 4],cQt⟩
/- cohesion/graph.Check -/
def rQuX0 : List O := [
 oo 1 <| .box (.t 0),
 oo 2 <| .mv (ki 0)]
def rQuX1 : List O := [
 oo 5 <| .fad 0 (.t 1),
 oo 6 <| .ld none (.t 5),
 oo 7 <| .bin .lss (.t 6) (ki 0),
 oo 8 <| .mv (.t 7),
 ⟨(some 9),(some (8,false)),.fad 0 (.t 1)⟩,
 ⟨(some 10),(some (8,false)),.ld none (.t 9)⟩,
 ⟨(some 11),(some (8,false)),.bin .gtr (.t 10) (ki 64)⟩,
 oo 12 <| .pick (.t 8) (.k (.bool true)) (.t 11)]
def rQuX2 : List O := [
 oo 2 <| .mv (ki 1)]
def rQuX3 : List O := [
 oo 13 <| .fad 1 (.t 1),
 oo 14 <| .ld none (.t 13),
 oo 15 <| .len (.t 14),
 oo 16 <| .mv (ki 0)]
def rQuX4 : List O := [
 oo 17 <| .bin .lss (.t 16) (.t 15)]
def rQuX5 : List O := [
 oo 18 <| .mv (.t 16),
 oo 19 <| .ixa 2 (.t 14) (.t 16),
 oo 20 <| .ld (some 2) (.t 19),
 oo 4 <| .new [(.int .i64 0),(.int .i64 0)],
 oo 3 <| .mv (.t 18),
 oz <| .st 2 (.t 4) (.t 20)]
def rQuX6 : List O := [
 oo 22 <| .fad 0 (.t 4),
 oo 23 <| .ld none (.t 22),
 oo 24 <| .bin .lss (.t 23) (ki 0),
 oo 25 <| .mv (.t 24),
 ⟨(some 26),(some (25,false)),.fad 0 (.t 4)⟩,
 ⟨(some 27),(some (25,false)),.ld none (.t 26)⟩,
 ⟨(some 28),(some (25,false)),.fad 1 (.t 4)⟩,
 ⟨(some 29),(some (25,false)),.ld none (.t 28)⟩,
 ⟨(some 30),(some (25,false)),.bin .geq (.t 27) (.t 29)⟩,
 oo 31 <| .pick (.t 25) (.k (.bool true)) (.t 30),
 oo 32 <| .mv (.t 31),
 ⟨(some 33),(some (32,false)),.fad 1 (.t 4)⟩,
 ⟨(some 34),(some (32,false)),.ld none (.t 33)⟩,
 ⟨(some 35),(some (32,false)),.fad 0 (.t 1)⟩,
 ⟨(some 36),(some (32,false)),.ld none (.t 35)⟩,
 ⟨(some 37),(some (32,false)),.bin .geq (.t 34) (.t 36)⟩,
 oo 38 <| .pick (.t 32) (.k (.bool true)) (.t 37),
 oo 21 <| .mv (.t 38)]
def rQuX7 : List O := [
 oo 2 <| .mv (ki 6)]
def rQuX8 : List O := [
 oo 40 <| .mv (.t 3),
 oo 41 <| .bin .gtr (.t 40) (ki 0),
 oo 42 <| .mv (.t 41),
 ⟨(some 43),(some (42,true)),.fad 1 (.t 1)⟩,
 ⟨(some 44),(some (42,true)),.ld none (.t 43)⟩,
 ⟨(some 45),(some (42,true)),.mv (.t 3)⟩,
 ⟨(some 46),(some (42,true)),.bin .sub (.t 45) (ki 1)⟩,
 ⟨(some 47),(some (42,true)),.ixa 2 (.t 44) (.t 46)⟩,
 ⟨(some 48),(some (42,true)),.ld (some 2) (.t 47)⟩,
 ⟨(some 49),(some (42,true)),.ld (some 2) (.t 4)⟩,
 ⟨(some 50),(some (42,true)),.call nQR [(.t 48),(.t 49)]⟩,
 ⟨(some 51),(some (42,true)),.bin .geq (.t 50) (ki 0)⟩,
 oo 52 <| .pick (.t 42) (.t 51) (.k (.bool false)),
 oo 39 <| .mv (.t 52)]
def rQuX9 : List O := [
 oo 2 <| .mv (ki 5)]
def rQuX10 : List O := [
 oo 53 <| .bin .add (.t 16) (ki 1),
 oo 16 <| .mv (.t 53)]
def lQuX0 : C := (.seq (.reg rQuX4 false [] [1,14,15,16,17]) (.seq (.cond (.t 17) .skip (.exit 0)) (.seq (.blk 1 (.seq (.reg rQuX5 false [] [1,3,4,14,15,16]) (.blk 2 (.seq (.reg rQuX6 false [] [1,3,4,14,15,16,21]) (.cond (.t 21) (.seq (.reg rQuX7 false [] [2]) .ret) (.seq (.reg rQuX8 true [(0,0),(1,1),(2,2),(10,10),(11,11),(12,12),(13,13),(4,5),(4,6),(3,9),(4,9),(5,9),(6,9),(7,9),(8,9)] [1,14,15,16,39]) (.cond (.t 39) (.seq (.reg rQuX9 false [] [2]) .ret) .skip))))))) (.reg rQuX10 false [] [1,14,15,16]))))
def rQuX11 : List O := [
 oo 2 <| .mv (ki 0)]
def cQu : C := (.seq (.reg rQuX0 false [] [1]) (.seq (.seq (.reg rQuX1 false [] [1,12]) (.cond (.t 12) (.seq (.reg rQuX2 false [] [2]) .ret) .skip)) (.seq (.seq (.reg rQuX3 false [] [1,14,15,16]) (.blk 0 (.loop lQuX0))) (.seq (.reg rQuX11 false [] [2]) .ret))))
def qQu : AFn := ⟨54,1,[.t 2],cQu⟩
/- slices.Equal[[]int,int] -/
def rQvX0 : List O := [
 oo 4 <| .mv (.k (.bool false))]
def rQvX1 : List O := [
 oo 6 <| .mv (.t 0),
 oo 7 <| .len (.t 6),
 oo 8 <| .mv (.t 1),
 oo 9 <| .len (.t 8),
 oo 10 <| .bin .neq (.t 7) (.t 9)]
def rQvX2 : List O := [
 oo 4 <| .mv (.k (.bool false))]
def rQvX3 : List O := [
 oo 11 <| .mv (.t 0),
 oo 12 <| .len (.t 11),
 oo 13 <| .mv (ki 0)]
def rQvX4 : List O := [
 oo 14 <| .bin .lss (.t 13) (.t 12)]
def rQvX5 : List O := [
 oo 15 <| .mv (.t 13),
 oo 5 <| .mv (.t 15)]
def rQvX6 : List O := [
 oo 16 <| .mv (.t 0),
 oo 17 <| .mv (.t 5),
 oo 18 <| .ixa 1 (.t 16) (.t 17),
 oo 19 <| .ld none (.t 18),
 oo 20 <| .mv (.t 1),
 oo 21 <| .mv (.t 5),
 oo 22 <| .ixa 1 (.t 20) (.t 21),
 oo 23 <| .ld none (.t 22),
 oo 24 <| .bin .neq (.t 19) (.t 23)]
def rQvX7 : List O := [
 oo 4 <| .mv (.k (.bool false))]
def rQvX8 : List O := [
 oo 25 <| .bin .add (.t 13) (ki 1),
 oo 13 <| .mv (.t 25)]
def lQvX0 : C := (.seq (.reg rQvX4 false [] [0,1,12,13,14]) (.seq (.cond (.t 14) .skip (.exit 0)) (.seq (.blk 1 (.seq (.reg rQvX5 false [] [0,1,5,12,13]) (.seq (.reg rQvX6 true [(8,8),(3,4),(3,5),(3,6),(0,7),(1,7),(2,7),(3,7)] [0,1,12,13,24]) (.cond (.t 24) (.seq (.reg rQvX7 false [] [4]) .ret) .skip)))) (.reg rQvX8 false [] [0,1,12,13]))))
def rQvX9 : List O := [
 oo 4 <| .mv (.k (.bool true))]
def cQv : C := (.seq (.reg rQvX0 false [] [0,1]) (.seq (.seq (.reg rQvX1 false [] [0,1,10]) (.cond (.t 10) (.seq (.reg rQvX2 false [] [4]) .ret) .skip)) (.seq (.seq (.reg rQvX3 false [] [0,1,12,13]) (.blk 0 (.loop lQvX0))) (.seq (.reg rQvX9 false [] [4]) .ret))))
def qQv : AFn := ⟨26,2,[.t 4],cQv⟩
/- cohesion/nodeset.Of -/
def rQwX0 : List O := [
 oo 2 <| .mv (.k (.own 1 []))]
def rQwX1 : List O := [
 oo 3 <| .mv (.t 0),
 oo 4 <| .call nQS [(.t 3),(.k (.own 1 []))],
 oo 2 <| .mv (.t 4)]
def cQw : C := (.seq (.reg rQwX0 false [] [0]) (.seq (.reg rQwX1 false [] [2]) .ret))
def qQw : AFn := ⟨5,1,[.t 2],cQw⟩
/- cohesion/nodeset.Range -/
def rQxX0 : List O := [
 oo 2 <| .mv (.k (.own 1 []))]
def rQxX1 : List O := [
 oo 3 <| .mv (.k (.own 1 []))]
def rQxX2 : List O := [
 oo 5 <| .mv (.t 0),
 oo 6 <| .max [(.t 5),(ki 0)],
 oo 7 <| .min [(.t 6),(ki 64)],
 oo 8 <| .mv (ki 0)]
def rQxX3 : List O := [
 oo 9 <| .bin .lss (.t 8) (.t 7)]
def rQxX4 : List O := [
 oo 10 <| .mv (.t 8),
 oo 4 <| .mv (.t 10)]
def rQxX5 : List O := [
 oo 11 <| .mv (.t 3),
 oo 12 <| .mv (.t 4),
 oo 13 <| .bslice 1 1 [(.int .i64 0)] [(0,1,(.t 12))],
 oo 14 <| .app 1 (.t 11) (.t 13),
 oo 3 <| .mv (.t 14)]
def rQxX6 : List O := [
 oo 15 <| .bin .add (.t 8) (ki 1),
 oo 8 <| .mv (.t 15)]
def lQxX0 : C := (.seq (.reg rQxX3 false [] [3,7,8,9]) (.seq (.cond (.t 9) .skip (.exit 0)) (.seq (.blk 1 (.seq (.reg rQxX4 false [] [3,4,7,8]) (.reg rQxX5 false [] [3,7,8]))) (.reg rQxX6 false [] [3,7,8]))))
def rQxX7 : List O := [
 oo 16 <| .mv (.t 3),
 oo 2 <| .mv (.t 16)]
def cQx : C := (.seq (.reg rQxX0 false [] [0]) (.seq (.reg rQxX1 false [] [0,3]) (.seq (.seq (.reg rQxX2 false [] [3,7,8]) (.blk 0 (.loop lQxX0))) (.seq (.reg rQxX7 false [] [2]) .ret))))
def qQx : AFn := ⟨17,1,[.t 2],cQx⟩
/- slices.Repeat[[]int,int] -/
def rQyX0 : List O := [
 oo 4 <| .mv (.k (.own 1 []))]
def rQyX1 : List O := [
 oo 9 <| .mv (.t 1),
 oo 10 <| .bin .lss (.t 9) (ki 0)]
def rQyX2 : List O := [
 oo 11 <| .bad,
 oz <| .bad]
def rQyX3 : List O := [
 oo 13 <| .mv (.t 0),
 oo 14 <| .len (.t 13),
 oo 15 <| .cvt .u64 (.t 14),
 oo 16 <| .mv (.t 1),
 oo 17 <| .cvt .u64 (.t 16),
 oo 18 <| .call nQT [(.t 15),(.t 17)],
 oo 12 <| .mv (.t 18),
 oo 19 <| .ext 0 (.t 12),
 oo 20 <| .ext 1 (.t 12),
 oo 5 <| .mv (.t 19),
 oo 6 <| .mv (.t 20)]
def rQyX4 : List O := [
 oo 21 <| .mv (.t 5),
 oo 22 <| .bin .gtr (.t 21) (.k (.int .u64 0)),
 oo 23 <| .mv (.t 22),
 ⟨(some 24),(some (23,false)),.mv (.t 6)⟩,
 ⟨(some 25),(some (23,false)),.bin .gtr (.t 24) (.k (.int .u64 9223372036854775807))⟩,
 oo 26 <| .pick (.t 23) (.k (.bool true)) (.t 25)]
def rQyX5 : List O := [
 oo 27 <| .bad,
 oz <| .bad]
def rQyX6 : List O := [
 oo 28 <| .mv (.t 6),
 oo 29 <| .cvt .i64 (.t 28),
 oo 30 <| .mks 1 [(.int .i64 0)] (.t 29) (.t 29),
 oo 7 <| .mv (.t 30)]
def rQyX7 : List O := [
 oo 31 <| .mv (.t 7),
 oo 32 <| .mv (.t 0),
 oo 33 <| .copy 1 (.t 31) (.t 32),
 oo 8 <| .mv (.t 33)]
def rQyX8 : List O := [
 oo 34 <| .mv (.t 8),
 oo 35 <| .mv (.t 7),
 oo 36 <| .len (.t 35),
 oo 37 <| .bin .lss (.t 34) (.t 36)]
def rQyX9 : List O := [
 oo 38 <| .mv (.t 8),
 oo 39 <| .mv (.t 7),
 oo 40 <| .mv (.t 8),
 oo 41 <| .slc 1 (.t 39) (some (.t 40)) none,
 oo 42 <| .mv (.t 7),
 oo 43 <| .mv (.t 8),
 oo 44 <| .slc 1 (.t 42) none (some (.t 43)),
 oo 45 <| .copy 1 (.t 41) (.t 44),
 oo 46 <| .bin .add (.t 38) (.t 45),
 oo 8 <| .mv (.t 46)]
def lQyX0 : C := (.seq (.seq (.reg rQyX8 false [] [7,8,37]) (.cond (.t 37) .skip (.exit 0))) (.blk 1 (.reg rQyX9 true [(8,8),(9,9),(0,7)] [7,8])))
def rQyX10 : List O := [
 oo 47 <| .mv (.t 7),
 oo 4 <| .mv (.t 47)]
def cQy : C := (.seq (.reg rQyX0 false [] [0,1]) (.seq (.seq (.reg rQyX1 false [] [0,1,10]) (.cond (.t 10) (.reg rQyX2 false [] [0,1]) .skip)) (.seq (.reg rQyX3 false [] [0,5,6]) (.seq (.seq (.reg rQyX4 false [] [0,6,26]) (.cond (.t 26) (.reg rQyX5 false [] [0,6]) .skip)) (.seq (.reg rQyX6 false [] [0,7]) (.seq (.reg rQyX7 false [] [7,8]) (.seq (.blk 0 (.loop lQyX0)) (.seq (.reg rQyX10 false [] [4]) .ret))))))))
def qQy : AFn := ⟨48,2,[.t 4],cQy⟩
/- cohesion/graph.Neighbours -/
def rQzX0 : List O := [
 oo 2 <| .box (.t 0),
 oo 4 <| .mv (.k (.own 1 []))]
def rQzX1 : List O := [
 oo 5 <| .ld (some 2) (.t 2),
 oo 6 <| .mv (.t 1),
 oo 7 <| .call nQV [(.t 5),(.t 6)],
 oo 8 <| .call nQU [(.t 7)],
 oo 4 <| .mv (.t 8)]
def cQz : C := (.seq (.reg rQzX0 false [] [1,2]) (.seq (.reg rQzX1 false [] [4]) .ret))
def qQz : AFn := ⟨9,2,[.t 4],cQz⟩
/- slices.Index[[]bool,bool] -/
def rQAX0 : List O := [
 oo 4 <| .mv (ki 0)]
def rQAX1 : List O := [
 oo 6 <| .mv (.t 0),
 oo 7 <| .len (.t 6),
 oo 8 <| .mv (ki 0)]
def rQAX2 : List O := [
 oo 9 <| .bin .lss (.t 8) (.t 7)]
def rQAX3 : List O := [
 oo 10 <| .mv (.t 8),
 oo 5 <| .mv (.t 10)]
def rQAX4 : List O := [
 oo 11 <| .mv (.t 1),
 oo 12 <| .mv (.t 0),
 oo 13 <| .mv (.t 5),
 oo 14 <| .ixa 1 (.t 12) (.t 13),
 oo 15 <| .ld none (.t 14),
 oo 16 <| .eq false .bool (.t 11) (.t 15)]
def rQAX5 : List O := [
 oo 17 <| .mv (.t 5),
 oo 4 <| .mv (.t 17)]
def rQAX6 : List O := [
 oo 18 <| .bin .add (.t 8) (ki 1),
 oo 8 <| .mv (.t 18)]
def lQAX0 : C := (.seq (.reg rQAX2 false [] [0,1,7,8,9]) (.seq (.cond (.t 9) .skip (.exit 0)) (.seq (.blk 1 (.seq (.reg rQAX3 false [] [0,1,5,7,8]) (.seq (.reg rQAX4 false [] [0,1,5,7,8,16]) (.cond (.t 16) (.seq (.reg rQAX5 false [] [4]) .ret) .skip)))) (.reg rQAX6 false [] [0,1,7,8]))))
def rQAX7 : List O := [
 oo 4 <| .mv (.k (.int .i64 (-1)))]
def cQA : C := (.seq (.reg rQAX0 false [] [0,1]) (.seq (.seq (.reg rQAX1 false [] [0,1,7,8]) (.blk 0 (.loop lQAX0))) (.seq (.reg rQAX7 false [] [4]) .ret)))
def qQA : AFn := ⟨19,2,[.t 4],cQA⟩
/- cohesion/cohesionref02.put -/
def rQBX0 : List O := [
 oo 4 <| .mv (.k (.own 1 []))]
def rQBX1 : List O := [
 oo 5 <| .mv (ki 0)]
def rQBX2 : List O := [
 oo 7 <| .mv (.t 5),
 oo 8 <| .mv (.t 0),
 oo 9 <| .len (.t 8),
 oo 10 <| .bin .lss (.t 7) (.t 9),
 oo 11 <| .mv (.t 10),
 ⟨(some 12),(some (11,true)),.mv (.t 0)⟩,
 ⟨(some 13),(some (11,true)),.mv (.t 5)⟩,
 ⟨(some 14),(some (11,true)),.ixa 1 (.t 12) (.t 13)⟩,
 ⟨(some 15),(some (11,true)),.ld none (.t 14)⟩,
 ⟨(some 16),(some (11,true)),.mv (.t 1)⟩,
 ⟨(some 17),(some (11,true)),.bin .lss (.t 15) (.t 16)⟩,
 oo 18 <| .pick (.t 11) (.t 17) (.k (.bool false))]
def rQBX3 : List O := [
 oo 19 <| .mv (.t 5),
 oo 20 <| .bin .add (.t 19) (ki 1),
 oo 5 <| .mv (.t 20)]
def lQBX0 : C := (.seq (.seq (.reg rQBX2 false [] [0,1,5,18]) (.cond (.t 18) .skip (.exit 0))) (.blk 1 (.reg rQBX3 false [] [0,1,5])))
def rQBX4 : List O := [
 oo 21 <| .mv (.t 5),
 oo 22 <| .mv (.t 0),
 oo 23 <| .len (.t 22),
 oo 24 <| .bin .lss (.t 21) (.t 23),
 oo 25 <| .mv (.t 24),
 ⟨(some 26),(some (25,true)),.mv (.t 0)⟩,
 ⟨(some 27),(some (25,true)),.mv (.t 5)⟩,
 ⟨(some 28),(some (25,true)),.ixa 1 (.t 26) (.t 27)⟩,
 ⟨(some 29),(some (25,true)),.ld none (.t 28)⟩,
 ⟨(some 30),(some (25,true)),.mv (.t 1)⟩,
 ⟨(some 31),(some (25,true)),.bin .eql (.t 29) (.t 30)⟩,
 oo 32 <| .pick (.t 25) (.t 31) (.k (.bool false))]
def rQBX5 : List O := [
 oo 33 <| .mv (.t 0),
 oo 4 <| .mv (.t 33)]
def rQBX6 : List O := [
 oo 34 <| .mv (.t 0),
 oo 35 <| .mv (.t 5),
 oo 36 <| .slc 1 (.t 34) none (some (.t 35)),
 oo 37 <| .app 1 (.k (.own 1 [])) (.t 36),
 oo 6 <| .mv (.t 37)]
def rQBX7 : List O := [
 oo 38 <| .mv (.t 6),
 oo 39 <| .mv (.t 1),
 oo 40 <| .bslice 1 1 [(.int .i64 0)] [(0,1,(.t 39))],
 oo 41 <| .app 1 (.t 38) (.t 40),
 oo 42 <| .mv (.t 0),
 oo 43 <| .mv (.t 5),
 oo 44 <| .slc 1 (.t 42) (some (.t 43)) none,
 oo 45 <| .app 1 (.t 41) (.t 44),
 oo 4 <| .mv (.t 45)]
def cQB : C := (.seq (.reg rQBX0 false [] [0,1]) (.seq (.reg rQBX1 false [] [0,1,5]) (.seq (.blk 0 (.loop lQBX0)) (.seq (.seq (.reg rQBX4 false [] [0,1,5,32]) (.cond (.t 32) (.seq (.reg rQBX5 false [] [4]) .ret) .skip)) (.seq (.reg rQBX6 false [] [0,1,5,6]) (.seq (.reg rQBX7 true [(7,7),(8,8),(0,2),(2,4),(3,4),(2,5),(3,5),(2,6),(3,6)] [4]) .ret))))))
def qQB : AFn := ⟨46,2,[.t 4],cQB⟩
/- cohesion/core.Order -/
def rQCX0 : List O := [
 oo 1 <| .box (.t 0),
 oo 2 <| .mv (.k (.own 1 [])),
 oo 3 <| .mv (ki 0)]
def rQCX1 : List O := [
 oo 7 <| .ld (some 2) (.t 1),
 oo 8 <| .call nQu [(.t 7)],
 oo 4 <| .mv (.t 8)]
def rQCX2 : List O := [
 oo 9 <| .mv (.t 4),
 oo 10 <| .bin .neq (.t 9) (ki 0)]
def rQCX3 : List O := [
 oo 11 <| .mv (.t 4),
 oo 2 <| .mv (.k (.own 1 [])),
 oo 3 <| .mv (.t 11)]
def rQCX4 : List O := [
 oo 13 <| .ld (some 2) (.t 1),
 oo 14 <| .call nQW [(.t 13)],
 oo 12 <| .mv (.t 14),
 oo 15 <| .ext 0 (.t 12),
 oo 16 <| .ext 1 (.t 12),
 oo 5 <| .mv (.t 15),
 oo 6 <| .mv (.t 16)]
def rQCX5 : List O := [
 oo 17 <| .mv (.t 5),
 oo 2 <| .mv (.t 17),
 oo 3 <| .mv (ki 0)]
def cQC : C := (.seq (.reg rQCX0 false [] [1]) (.seq (.seq (.reg rQCX1 false [] [1,4]) (.seq (.reg rQCX2 false [] [1,4,10]) (.cond (.t 10) (.seq (.reg rQCX3 false [] [2,3]) .ret) .skip))) (.seq (.reg rQCX4 false [] [5]) (.seq (.reg rQCX5 false [] [2,3]) .ret))))
def qQC : AFn := ⟨18,1,[.t 2,.t 3],cQC⟩
/- slices.Reverse[[]int,int] -/
def rQDX0 : List O := [
 oo 4 <| .mv (.t 0),
 oo 5 <| .len (.t 4),
 oo 6 <| .bin .sub (.t 5) (ki 1),
 oo 2 <| .mv (ki 0),
 oo 3 <| .mv (.t 6)]
def rQDX1 : List O := [
 oo 7 <| .mv (.t 2),
 oo 8 <| .mv (.t 3),
 oo 9 <| .bin .lss (.t 7) (.t 8)]
def rQDX2 : List O := [
 oo 14 <| .mv (.t 0),
 oo 15 <| .mv (.t 2),
 oo 16 <| .mv (.t 0),
 oo 17 <| .mv (.t 3),
 oo 18 <| .mv (.t 0),
 oo 19 <| .mv (.t 3),
 oo 20 <| .ixa 1 (.t 18) (.t 19),
 oo 21 <| .ld none (.t 20),
 oo 22 <| .mv (.t 0),
 oo 23 <| .mv (.t 2),
 oo 24 <| .ixa 1 (.t 22) (.t 23),
 oo 25 <| .ld none (.t 24),
 oo 26 <| .ixa 1 (.t 14) (.t 15),
 oz <| .st 1 (.t 26) (.t 21),
 oo 27 <| .ixa 1 (.t 16) (.t 17),
 oz <| .st 1 (.t 27) (.t 25)]
def rQDX3 : List O := [
 oo 10 <| .mv (.t 2),
 oo 11 <| .bin .add (.t 10) (ki 1),
 oo 12 <| .mv (.t 3),
 oo 13 <| .bin .sub (.t 12) (ki 1),
 oo 2 <| .mv (.t 11),
 oo 3 <| .mv (.t 13)]
def lQDX0 : C := (.seq (.seq (.reg rQDX1 false [] [0,2,3,9]) (.cond (.t 9) .skip (.exit 0))) (.seq (.blk 1 (.reg rQDX2 true [(14,14),(15,15),(0,7),(1,7),(2,7),(3,7),(7,8),(7,9),(7,10),(0,11),(1,11),(2,11),(3,11),(4,11),(5,11),(6,11),(7,11),(2,13),(3,13)] [0,2,3])) (.reg rQDX3 false [] [0,2,3])))
def cQD : C := (.seq (.reg rQDX0 false [] [0,2,3]) (.blk 0 (.loop lQDX0)))
def qQD : AFn := ⟨28,1,[],cQD⟩
/- cohesion/cohesionref03.Check -/
def rQEX0 : List O := [
 oo 1 <| .box (.t 0),
 oo 2 <| .mv (ki 0)]
def rQEX1 : List O := [
 oo 5 <| .fad 0 (.t 1),
 oo 6 <| .ld none (.t 5),
 oo 7 <| .bin .lss (.t 6) (ki 0),
 oo 8 <| .mv (.t 7),
 ⟨(some 9),(some (8,false)),.fad 0 (.t 1)⟩,
 ⟨(some 10),(some (8,false)),.ld none (.t 9)⟩,
 ⟨(some 11),(some (8,false)),.bin .gtr (.t 10) (ki 64)⟩,
 oo 12 <| .pick (.t 8) (.k (.bool true)) (.t 11)]
def rQEX2 : List O := [
 oo 2 <| .mv (ki 1)]
def rQEX3 : List O := [
 oo 13 <| .fad 1 (.t 1),
 oo 14 <| .ld none (.t 13),
 oo 15 <| .len (.t 14),
 oo 16 <| .mv (ki 0)]
def rQEX4 : List O := [
 oo 17 <| .bin .lss (.t 16) (.t 15)]
def rQEX5 : List O := [
 oo 18 <| .mv (.t 16),
 oo 19 <| .ixa 2 (.t 14) (.t 16),
 oo 20 <| .ld (some 2) (.t 19),
 oo 4 <| .new [(.int .i64 0),(.int .i64 0)],
 oo 3 <| .mv (.t 18),
 oz <| .st 2 (.t 4) (.t 20)]
def rQEX6 : List O := [
 oo 21 <| .fad 0 (.t 4),
 oo 22 <| .ld none (.t 21),
 oo 23 <| .bin .lss (.t 22) (ki 0),
 oo 24 <| .mv (.t 23),
 ⟨(some 25),(some (24,false)),.fad 0 (.t 4)⟩,
 ⟨(some 26),(some (24,false)),.ld none (.t 25)⟩,
 ⟨(some 27),(some (24,false)),.fad 1 (.t 4)⟩,
 ⟨(some 28),(some (24,false)),.ld none (.t 27)⟩,
 ⟨(some 29),(some (24,false)),.bin .geq (.t 26) (.t 28)⟩,
 oo 30 <| .pick (.t 24) (.k (.bool true)) (.t 29),
 oo 31 <| .mv (.t 30),
 ⟨(some 32),(some (31,false)),.fad 1 (.t 4)⟩,
 ⟨(some 33),(some (31,false)),.ld none (.t 32)⟩,
 ⟨(some 34),(some (31,false)),.fad 0 (.t 1)⟩,
 ⟨(some 35),(some (31,false)),.ld none (.t 34)⟩,
 ⟨(some 36),(some (31,false)),.bin .geq (.t 33) (.t 35)⟩,
 oo 37 <| .pick (.t 31) (.k (.bool true)) (.t 36)]
def rQEX7 : List O := [
 oo 2 <| .mv (ki 6)]
def rQEX8 : List O := [
 oo 38 <| .mv (.t 3),
 oo 39 <| .bin .gtr (.t 38) (ki 0),
 oo 40 <| .mv (.t 39),
 ⟨(some 41),(some (40,true)),.fad 1 (.t 1)⟩,
 ⟨(some 42),(some (40,true)),.ld none (.t 41)⟩,
 ⟨(some 43),(some (40,true)),.mv (.t 3)⟩,
 ⟨(some 44),(some (40,true)),.bin .sub (.t 43) (ki 1)⟩,
 ⟨(some 45),(some (40,true)),.ixa 2 (.t 42) (.t 44)⟩,
 ⟨(some 46),(some (40,true)),.ld (some 2) (.t 45)⟩,
 ⟨(some 47),(some (40,true)),.ld (some 2) (.t 4)⟩,
 ⟨(some 48),(some (40,true)),.call nQX [(.t 46),(.t 47)]⟩,
 ⟨(some 49),(some (40,true)),.un .not (.t 48)⟩,
 oo 50 <| .pick (.t 40) (.t 49) (.k (.bool false))]
def rQEX9 : List O := [
 oo 2 <| .mv (ki 5)]
def rQEX10 : List O := [
 oo 51 <| .bin .add (.t 16) (ki 1),
 oo 16 <| .mv (.t 51)]
def lQEX0 : C := (.seq (.reg rQEX4 false [] [1,14,15,16,17]) (.seq (.cond (.t 17) .skip (.exit 0)) (.seq (.blk 1 (.seq (.reg rQEX5 false [] [1,3,4,14,15,16]) (.seq (.seq (.reg rQEX6 false [] [1,3,4,14,15,16,37]) (.cond (.t 37) (.seq (.reg rQEX7 false [] [2]) .ret) .skip)) (.seq (.reg rQEX8 true [(0,0),(1,1),(2,2),(10,10),(11,11),(12,12),(4,5),(4,6),(3,9),(4,9),(5,9),(6,9),(7,9),(8,9)] [1,14,15,16,50]) (.cond (.t 50) (.seq (.reg rQEX9 false [] [2]) .ret) .skip))))) (.reg rQEX10 false [] [1,14,15,16]))))
def rQEX11 : List O := [
 oo 2 <| .mv (ki 0)]
def cQE : C := (.seq (.reg rQEX0 false [] [1]) (.seq (.seq (.reg rQEX1 false [] [1,12]) (.cond (.t 12) (.seq (.reg rQEX2 false [] [2]) .ret) .skip)) (.seq (.seq (.reg rQEX3 false [] [1,14,15,16]) (.blk 0 (.loop lQEX0))) (.seq (.reg rQEX11 false [] [2]) .ret))))
def qQE : AFn := ⟨52,1,[.t 2],cQE⟩
/- cohesion/cohesionref03.ends -/
def rQFX0 : List O := [
 oo 6 <| .mv (.k (.bool false))]
def rQFX1 : List O := [
 oo 7 <| .mv (.t 1),
 oo 8 <| .bin .geq (.t 7) (ki 0),
 oo 9 <| .mv (.t 8),
 ⟨(some 10),(some (9,true)),.mv (.t 2)⟩,
 ⟨(some 11),(some (9,true)),.bin .geq (.t 10) (ki 0)⟩,
 oo 12 <| .pick (.t 9) (.t 11) (.k (.bool false)),
 oo 13 <| .mv (.t 12),
 ⟨(some 14),(some (13,true)),.mv (.t 1)⟩,
 ⟨(some 15),(some (13,true)),.mv (.t 0)⟩,
 ⟨(some 16),(some (13,true)),.bin .lss (.t 14) (.t 15)⟩,
 oo 17 <| .pick (.t 13) (.t 16) (.k (.bool false)),
 oo 18 <| .mv (.t 17),
 ⟨(some 19),(some (18,true)),.mv (.t 2)⟩,
 ⟨(some 20),(some (18,true)),.mv (.t 0)⟩,
 ⟨(some 21),(some (18,true)),.bin .lss (.t 19) (.t 20)⟩,
 oo 22 <| .pick (.t 18) (.t 21) (.k (.bool false)),
 oo 23 <| .mv (.t 22),
 ⟨(some 24),(some (23,true)),.mv (.t 1)⟩,
 ⟨(some 25),(some (23,true)),.mv (.t 2)⟩,
 ⟨(some 26),(some (23,true)),.bin .neq (.t 24) (.t 25)⟩,
 oo 27 <| .pick (.t 23) (.t 26) (.k (.bool false)),
 oo 6 <| .mv (.t 27)]
def cQF : C := (.seq (.reg rQFX0 false [] [0,1,2]) (.seq (.reg rQFX1 false [] [6]) .ret))
def qQF : AFn := ⟨28,3,[.t 6],cQF⟩
/- cohesion/cohesionref03.Find -/
def rQGX0 : List O := [
 oo 3 <| .box (.t 0),
 oo 6 <| .mv (ki 0)]
def rQGX1 : List O := [
 oo 9 <| .ld (some 2) (.t 3),
 oo 10 <| .call nQE [(.t 9)],
 oo 11 <| .bin .neq (.t 10) (ki 0)]
def rQGX2 : List O := [
 oo 6 <| .mv (.k (.int .i64 (-1)))]
def rQGX3 : List O := [
 oo 12 <| .fad 1 (.t 3),
 oo 13 <| .ld none (.t 12),
 oo 14 <| .len (.t 13),
 oo 15 <| .mv (ki 0)]
def rQGX4 : List O := [
 oo 16 <| .bin .lss (.t 15) (.t 14)]
def rQGX5 : List O := [
 oo 17 <| .mv (.t 15),
 oo 18 <| .ixa 2 (.t 13) (.t 15),
 oo 19 <| .ld (some 2) (.t 18),
 oo 8 <| .new [(.int .i64 0),(.int .i64 0)],
 oo 7 <| .mv (.t 17),
 oz <| .st 2 (.t 8) (.t 19)]
def rQGX6 : List O := [
 oo 20 <| .ld (some 2) (.t 8),
 oo 21 <| .mv (.t 1),
 oo 22 <| .mv (.t 2),
 oo 23 <| .call nQH [(.t 21),(.t 22)],
 oo 24 <| .eq false (.str [true,true]) (.t 20) (.t 23)]
def rQGX7 : List O := [
 oo 25 <| .mv (.t 7),
 oo 6 <| .mv (.t 25)]
def rQGX8 : List O := [
 oo 26 <| .bin .add (.t 15) (ki 1),
 oo 15 <| .mv (.t 26)]
def lQGX0 : C := (.seq (.reg rQGX4 false [] [1,2,13,14,15,16]) (.seq (.cond (.t 16) .skip (.exit 0)) (.seq (.blk 1 (.seq (.reg rQGX5 false [] [1,2,7,8,13,14,15]) (.seq (.reg rQGX6 true [(4,4),(0,1),(0,2),(0,3)] [1,2,7,13,14,15,24]) (.cond (.t 24) (.seq (.reg rQGX7 false [] [6]) .ret) .skip)))) (.reg rQGX8 false [] [1,2,13,14,15]))))
def rQGX9 : List O := [
 oo 6 <| .mv (.k (.int .i64 (-1)))]
def cQG : C := (.seq (.reg rQGX0 false [] [1,2,3]) (.seq (.seq (.reg rQGX1 false [] [1,2,3,11]) (.cond (.t 11) (.seq (.reg rQGX2 false [] [6]) .ret) .skip)) (.seq (.seq (.reg rQGX3 false [] [1,2,13,14,15]) (.blk 0 (.loop lQGX0))) (.seq (.reg rQGX9 false [] [6]) .ret))))
def qQG : AFn := ⟨27,3,[.t 6],cQG⟩
/- cohesion/cohesionref03.edge -/
def rQHX0 : List O := [
 oo 4 <| .new [(.int .i64 0),(.int .i64 0)]]
def rQHX1 : List O := [
 oo 5 <| .mv (.t 0),
 oo 6 <| .mv (.t 1),
 oo 7 <| .min [(.t 5),(.t 6)],
 oo 8 <| .mv (.t 0),
 oo 9 <| .mv (.t 1),
 oo 10 <| .max [(.t 8),(.t 9)],
 oo 11 <| .build [(.int .i64 0),(.int .i64 0)] [(0,1,(.t 7)),(1,1,(.t 10))],
 oz <| .st 2 (.t 4) (.t 11)]
def cQH : C := (.seq (.reg rQHX0 false [] [0,1,4]) (.seq (.reg rQHX1 false [] [4]) .ret))
def qQH : AFn := ⟨12,2,[.c 4 (some 2)],cQH⟩
/- slices.ContainsFunc[[]int,int] -/
def rQIX0 : List O := [
 oo 4 <| .mv (.k (.bool false))]
def rQIX1 : List O := [
 oo 5 <| .mv (.t 0),
 oo 6 <| .mv (.t 1),
 oo 7 <| .call nQY [(.t 5),(.t 6)],
 oo 8 <| .bin .geq (.t 7) (ki 0),
 oo 4 <| .mv (.t 8)]
def cQI : C := (.seq (.reg rQIX0 false [] [0,1]) (.seq (.reg rQIX1 false [] [4]) .ret))
def qQI : AFn := ⟨9,2,[.t 4],cQI⟩
/- cohesion/maxclique.Proper$1 -/
def rQJX0 : List O := [
 oo 2 <| .mv (.k (.bool false))]
def rQJX1 : List O := [
 oo 3 <| .mv (.t 0),
 oo 4 <| .bin .lss (.t 3) (ki 0),
 oo 2 <| .mv (.t 4)]
def cQJ : C := (.seq (.reg rQJX0 false [] [0]) (.seq (.reg rQJX1 false [] [2]) .ret))
def qQJ : AFn := ⟨5,1,[.t 2],cQJ⟩
/- slices.ContainsFunc[[]cohesion/api.Edge,cohesion/api.Edge] -/
def rQKX0 : List O := [
 oo 4 <| .mv (.k (.bool false))]
def rQKX1 : List O := [
 oo 5 <| .mv (.t 0),
 oo 6 <| .mv (.t 1),
 oo 7 <| .call nQZ [(.t 5),(.t 6)],
 oo 8 <| .bin .geq (.t 7) (ki 0),
 oo 4 <| .mv (.t 8)]
def cQK : C := (.seq (.reg rQKX0 false [] [0,1]) (.seq (.reg rQKX1 false [] [4]) .ret))
def qQK : AFn := ⟨9,2,[.t 4],cQK⟩
/- cohesion/maxclique.Proper$2 -/
def rQLX0 : List O := [
 oo 2 <| .box (.t 0),
 oo 3 <| .mv (.k (.bool false))]
def rQLX1 : List O := [
 oo 4 <| .ld none (.t 1),
 oo 5 <| .fad 0 (.t 2),
 oo 6 <| .ld none (.t 5),
 oo 7 <| .ixa 1 (.t 4) (.t 6),
 oo 8 <| .ld none (.t 7),
 oo 9 <| .ld none (.t 1),
 oo 10 <| .fad 1 (.t 2),
 oo 11 <| .ld none (.t 10),
 oo 12 <| .ixa 1 (.t 9) (.t 11),
 oo 13 <| .ld none (.t 12),
 oo 14 <| .bin .eql (.t 8) (.t 13),
 oo 3 <| .mv (.t 14)]
def cQL : C := (.seq (.reg rQLX0 false [] [1,2]) (.seq (.reg rQLX1 true [(10,10),(11,11),(0,1),(0,2),(0,5),(1,5),(2,5),(3,5),(4,5),(0,6),(2,6),(4,6),(5,6),(0,7),(1,7),(2,7),(3,7),(4,7),(5,7),(0,8),(2,8),(4,8),(0,9),(1,9),(2,9),(3,9),(4,9)] [3]) .ret))
def qQL : AFn := ⟨15,1,[.t 3],cQL⟩
/- cohesion/maxclique.masks -/
def rQMX0 : List O := [
 oo 1 <| .box (.t 0),
 oo 2 <| .mv (.k (.own 1 []))]
def rQMX1 : List O := [
 oo 6 <| .fad 0 (.t 1),
 oo 7 <| .ld none (.t 6),
 oo 8 <| .mks 1 [(.int .u64 0)] (.t 7) (.t 7),
 oo 3 <| .mv (.t 8)]
def rQMX2 : List O := [
 oo 9 <| .fad 1 (.t 1),
 oo 10 <| .ld none (.t 9),
 oo 11 <| .len (.t 10),
 oo 12 <| .mv (ki 0)]
def rQMX3 : List O := [
 oo 13 <| .bin .lss (.t 12) (.t 11)]
def rQMX4 : List O := [
 oo 14 <| .ixa 2 (.t 10) (.t 12),
 oo 15 <| .ld (some 2) (.t 14),
 oo 5 <| .new [(.int .i64 0),(.int .i64 0)],
 oz <| .st 2 (.t 5) (.t 15)]
def rQMX5 : List O := [
 oo 16 <| .mv (.t 3),
 oo 17 <| .fad 0 (.t 5),
 oo 18 <| .ld none (.t 17),
 oo 19 <| .ixa 1 (.t 16) (.t 18),
 oo 20 <| .ld none (.t 19),
 oo 21 <| .fad 1 (.t 5),
 oo 22 <| .ld none (.t 21),
 oo 23 <| .bin .shl (.k (.int .u64 1)) (.t 22),
 oo 24 <| .bin .or (.t 20) (.t 23),
 oo 25 <| .ixa 1 (.t 16) (.t 18),
 oz <| .st 1 (.t 25) (.t 24)]
def rQMX6 : List O := [
 oo 26 <| .mv (.t 3),
 oo 27 <| .fad 1 (.t 5),
 oo 28 <| .ld none (.t 27),
 oo 29 <| .ixa 1 (.t 26) (.t 28),
 oo 30 <| .ld none (.t 29),
 oo 31 <| .fad 0 (.t 5),
 oo 32 <| .ld none (.t 31),
 oo 33 <| .bin .shl (.k (.int .u64 1)) (.t 32),
 oo 34 <| .bin .or (.t 30) (.t 33),
 oo 35 <| .ixa 1 (.t 26) (.t 28),
 oz <| .st 1 (.t 35) (.t 34)]
def rQMX7 : List O := [
 oo 36 <| .bin .add (.t 12) (ki 1),
 oo 12 <| .mv (.t 36)]
def lQMX0 : C := (.seq (.reg rQMX3 false [] [3,10,11,12,13]) (.seq (.cond (.t 13) .skip (.exit 0)) (.seq (.blk 1 (.seq (.reg rQMX4 false [] [3,5,10,11,12]) (.seq (.reg rQMX5 true [(8,8),(9,9),(10,10),(0,2),(2,5),(4,5),(0,6),(1,6),(2,6),(3,6),(4,6),(2,7),(4,7)] [3,5,10,11,12]) (.reg rQMX6 true [(8,8),(9,9),(10,10),(0,2),(2,5),(4,5),(0,6),(1,6),(2,6),(3,6),(4,6),(2,7),(4,7)] [3,10,11,12])))) (.reg rQMX7 false [] [3,10,11,12]))))
def rQMX8 : List O := [
 oo 37 <| .mv (.t 3),
 oo 2 <| .mv (.t 37)]
def cQM : C := (.seq (.reg rQMX0 false [] [1]) (.seq (.reg rQMX1 false [] [1,3]) (.seq (.seq (.reg rQMX2 false [] [3,10,11,12]) (.blk 0 (.loop lQMX0))) (.seq (.reg rQMX8 false [] [2]) .ret))))
def qQM : AFn := ⟨38,1,[.t 2],cQM⟩
/- cohesion/maxclique.longest -/
def rQNX0 : List O := [
 oo 3 <| .box (.t 0),
 oo 6 <| .mv (ki 0)]
def rQNX1 : List O := [
 oo 9 <| .mv (.t 2),
 oo 7 <| .new [(.int .i64 0)],
 oz <| .st 1 (.t 7) (.t 9)]
def rQNX2 : List O := [
 oo 8 <| .new [.nilf]]
def rQNX3 : List O := [
 oo 10 <| .mkf (.func nQ0) [] [(.t 7),(.t 3),(.t 8)],
 oz <| .st 1 (.t 8) (.t 10)]
def rQNX4 : List O := [
 oo 11 <| .ld none (.t 8),
 oo 12 <| .mv (.t 1),
 oo 13 <| .callv (.t 11) [(.t 12),(ki 0)]]
def rQNX5 : List O := [
 oo 14 <| .ld none (.t 7),
 oo 6 <| .mv (.t 14)]
def cQN : C := (.seq (.reg rQNX0 false [] [1,2,3]) (.seq (.reg rQNX1 false [] [1,3,7]) (.seq (.reg rQNX2 false [] [1,3,7,8]) (.seq (.reg rQNX3 false [] [1,7,8]) (.seq (.reg rQNX4 false [] [7]) (.seq (.reg rQNX5 false [] [6]) .ret))))))
def qQN : AFn := ⟨15,3,[.t 6],cQN⟩
/- math/bits.TrailingZeros64 -/
def rQOX0 : List O := [
 oo 2 <| .mv (ki 0)]
def rQOX1 : List O := [
 oo 3 <| .mv (.t 0),
 oo 4 <| .bin .eql (.t 3) (.k (.int .u64 0))]
def rQOX2 : List O := [
 oo 2 <| .mv (ki 64)]
def rQOX3 : List O := [
 oo 5 <| .mv (.t 0),
 oo 6 <| .mv (.t 0),
 oo 7 <| .un .neg (.t 6),
 oo 8 <| .bin .and (.t 5) (.t 7),
 oo 9 <| .bin .mul (.t 8) (.k (.int .u64 285870213051353865)),
 oo 10 <| .bin .shr (.t 9) (.k (.int .u64 58)),
 oo 11 <| .ixp 64 1 (.g 0) (.t 10),
 oo 12 <| .ld none (.t 11),
 oo 13 <| .cvt .i64 (.t 12),
 oo 2 <| .mv (.t 13)]
def cQO : C := (.seq (.reg rQOX0 false [] [0]) (.seq (.seq (.reg rQOX1 false [] [0,4]) (.cond (.t 4) (.seq (.reg rQOX2 false [] [2]) .ret) .skip)) (.seq (.reg rQOX3 false [] [2]) .ret)))
def qQO : AFn := ⟨14,1,[.t 2],cQO⟩
/- cohesion/cohesionref03.with -/
def rQPX0 : List O := [
 oo 3 <| .box (.t 1),
 oo 4 <| .mv (.k (.own 2 []))]
def rQPX1 : List O := [
 oo 5 <| .mv (ki 0)]
def rQPX2 : List O := [
 oo 7 <| .mv (.t 5),
 oo 8 <| .mv (.t 0),
 oo 9 <| .len (.t 8),
 oo 10 <| .bin .lss (.t 7) (.t 9),
 oo 11 <| .mv (.t 10),
 ⟨(some 12),(some (11,true)),.mv (.t 0)⟩,
 ⟨(some 13),(some (11,true)),.mv (.t 5)⟩,
 ⟨(some 14),(some (11,true)),.ixa 2 (.t 12) (.t 13)⟩,
 ⟨(some 15),(some (11,true)),.ld (some 2) (.t 14)⟩,
 ⟨(some 16),(some (11,true)),.ld (some 2) (.t 3)⟩,
 ⟨(some 17),(some (11,true)),.call nQX [(.t 15),(.t 16)]⟩,
 oo 18 <| .pick (.t 11) (.t 17) (.k (.bool false))]
def rQPX3 : List O := [
 oo 19 <| .mv (.t 5),
 oo 20 <| .bin .add (.t 19) (ki 1),
 oo 5 <| .mv (.t 20)]
def lQPX0 : C := (.seq (.seq (.reg rQPX2 true [(3,3),(4,4),(10,10),(11,11),(5,9),(6,9),(7,9),(8,9)] [0,3,5,18]) (.cond (.t 18) .skip (.exit 0))) (.blk 1 (.reg rQPX3 false [] [0,3,5])))
def rQPX4 : List O := [
 oo 21 <| .mv (.t 5),
 oo 22 <| .mv (.t 0),
 oo 23 <| .len (.t 22),
 oo 24 <| .bin .lss (.t 21) (.t 23),
 oo 25 <| .mv (.t 24),
 ⟨(some 26),(some (25,true)),.mv (.t 0)⟩,
 ⟨(some 27),(some (25,true)),.mv (.t 5)⟩,
 ⟨(some 28),(some (25,true)),.ixa 2 (.t 26) (.t 27)⟩,
 ⟨(some 29),(some (25,true)),.ld (some 2) (.t 28)⟩,
 ⟨(some 30),(some (25,true)),.ld (some 2) (.t 3)⟩,
 ⟨(some 31),(some (25,true)),.eq false (.str [true,true]) (.t 29) (.t 30)⟩,
 oo 32 <| .pick (.t 25) (.t 31) (.k (.bool false))]
def rQPX5 : List O := [
 oo 33 <| .mv (.t 0),
 oo 4 <| .mv (.t 33)]
def rQPX6 : List O := [
 oo 34 <| .mv (.t 0),
 oo 35 <| .mv (.t 5),
 oo 36 <| .slc 2 (.t 34) none (some (.t 35)),
 oo 37 <| .app 2 (.k (.own 2 [])) (.t 36),
 oo 6 <| .mv (.t 37)]
def rQPX7 : List O := [
 oo 38 <| .mv (.t 6),
 oo 39 <| .ld (some 2) (.t 3),
 oo 40 <| .bslice 2 1 [(.int .i64 0),(.int .i64 0)] [(0,2,(.t 39))],
 oo 41 <| .app 2 (.t 38) (.t 40),
 oo 42 <| .mv (.t 0),
 oo 43 <| .mv (.t 5),
 oo 44 <| .slc 2 (.t 42) (some (.t 43)) none,
 oo 45 <| .app 2 (.t 41) (.t 44),
 oo 4 <| .mv (.t 45)]
def cQP : C := (.seq (.reg rQPX0 false [] [0,3]) (.seq (.reg rQPX1 false [] [0,3,5]) (.seq (.blk 0 (.loop lQPX0)) (.seq (.seq (.reg rQPX4 true [(3,3),(4,4),(10,10),(11,11),(5,9),(6,9),(7,9),(8,9)] [0,3,5,32]) (.cond (.t 32) (.seq (.reg rQPX5 false [] [4]) .ret) .skip)) (.seq (.reg rQPX6 false [] [0,3,5,6]) (.seq (.reg rQPX7 true [(7,7),(8,8),(0,1),(0,2),(1,4),(2,4),(3,4),(1,5),(2,5),(3,5),(1,6),(2,6),(3,6)] [4]) .ret))))))
def qQP : AFn := ⟨46,2,[.t 4],cQP⟩
/- cohesion/core.Degeneracy -/
def rQQX0 : List O := [
 oo 1 <| .box (.t 0),
 oo 2 <| .mv (ki 0),
 oo 3 <| .mv (ki 0)]
def rQQX1 : List O := [
 oo 10 <| .ld (some 2) (.t 1),
 oo 11 <| .call nQ3 [(.t 10)],
 oo 9 <| .mv (.t 11),
 oo 12 <| .ext 0 (.t 9),
 oo 13 <| .ext 1 (.t 9),
 oo 4 <| .mv (.t 12),
 oo 5 <| .mv (.t 13)]
def rQQX2 : List O := [
 oo 6 <| .mv (ki 0)]
def rQQX3 : List O := [
 oo 14 <| .mv (.t 4),
 oo 15 <| .len (.t 14),
 oo 16 <| .mv (ki 0)]
def rQQX4 : List O := [
 oo 17 <| .bin .lss (.t 16) (.t 15)]
def rQQX5 : List O := [
 oo 18 <| .ixa 1 (.t 14) (.t 16),
 oo 19 <| .ld none (.t 18),
 oo 8 <| .mv (.t 19)]
def rQQX6 : List O := [
 oo 20 <| .mv (.t 6),
 oo 21 <| .mv (.t 8),
 oo 22 <| .max [(.t 20),(.t 21)],
 oo 6 <| .mv (.t 22)]
def rQQX7 : List O := [
 oo 23 <| .bin .add (.t 16) (ki 1),
 oo 16 <| .mv (.t 23)]
def lQQX0 : C := (.seq (.reg rQQX4 false [] [5,6,14,15,16,17]) (.seq (.cond (.t 17) .skip (.exit 0)) (.seq (.blk 1 (.seq (.reg rQQX5 false [] [5,6,8,14,15,16]) (.reg rQQX6 false [] [5,6,14,15,16]))) (.reg rQQX7 false [] [5,6,14,15,16]))))
def rQQX8 : List O := [
 oo 24 <| .mv (.t 6),
 oo 25 <| .mv (.t 5),
 oo 2 <| .mv (.t 24),
 oo 3 <| .mv (.t 25)]
def cQQ : C := (.seq (.reg rQQX0 false [] [1]) (.seq (.reg rQQX1 false [] [4,5]) (.seq (.reg rQQX2 false [] [4,5,6]) (.seq (.seq (.reg rQQX3 false [] [5,6,14,15,16]) (.blk 0 (.loop lQQX0))) (.seq (.reg rQQX8 false [] [2,3]) .ret)))))
def qQQ : AFn := ⟨26,1,[.t 2,.t 3],cQQ⟩
/- cohesion/graph.Order -/
def rQRX0 : List O := [
 oo 2 <| .box (.t 0),
 oo 3 <| .box (.t 1),
 oo 4 <| .mv (ki 0)]
def rQRX1 : List O := [
 oo 5 <| .fad 0 (.t 2),
 oo 6 <| .ld none (.t 5),
 oo 7 <| .fad 0 (.t 3),
 oo 8 <| .ld none (.t 7),
 oo 9 <| .call nQ5 [(.t 6),(.t 8)],
 oo 10 <| .fad 1 (.t 2),
 oo 11 <| .ld none (.t 10),
 oo 12 <| .fad 1 (.t 3),
 oo 13 <| .ld none (.t 12),
 oo 14 <| .call nQ5 [(.t 11),(.t 13)],
 oo 15 <| .bslice 1 2 [(.int .i64 0)] [(0,1,(.t 9)),(1,1,(.t 14))],
 oo 16 <| .call nQ4 [(.t 15)],
 oo 4 <| .mv (.t 16)]
def cQR : C := (.seq (.reg rQRX0 false [] [2,3]) (.seq (.reg rQRX1 true [(9,9),(10,10),(11,11),(12,12),(1,2),(0,3),(1,3),(1,5),(3,5),(4,5),(0,6),(1,6),(2,6),(3,6),(4,6),(1,7),(3,7),(4,7),(6,7),(0,8),(1,8),(2,8),(3,8),(4,8),(5,8),(6,8)] [4]) .ret))
def qQR : AFn := ⟨17,2,[.t 4],cQR⟩
/- cohesion/nodeset.Union -/
def rQSX0 : List O := [
 oo 4 <| .mv (.k (.own 1 []))]
def rQSX1 : List O := [
 oo 5 <| .mv (.t 0),
 oo 6 <| .mv (.t 1),
 oo 7 <| .call nQ6 [(.t 5),(.t 6),(.k (.func (.func nQ7) [] []))],
 oo 4 <| .mv (.t 7)]
def cQS : C := (.seq (.reg rQSX0 false [] [0,1]) (.seq (.reg rQSX1 false [] [4]) .ret))
def qQS : AFn := ⟨8,2,[.t 4],cQS⟩
/- math/bits.Mul -/
def rQTX0 : List O := [
 oo 4 <| .mv (.k (.int .u64 0)),
 oo 5 <| .mv (.k (.int .u64 0))]
def rQTX1 : List O := [
 oo 11 <| .mv (.t 0),
 oo 12 <| .cvt .u32 (.t 11),
 oo 13 <| .mv (.t 1),
 oo 14 <| .cvt .u32 (.t 13),
 oo 15 <| .call nQ8 [(.t 12),(.t 14)],
 oo 10 <| .mv (.t 15),
 oo 16 <| .ext 0 (.t 10),
 oo 17 <| .ext 1 (.t 10),
 oo 6 <| .mv (.t 16),
 oo 7 <| .mv (.t 17)]
def rQTX2 : List O := [
 oo 18 <| .mv (.t 6),
 oo 19 <| .cvt .u64 (.t 18),
 oo 20 <| .mv (.t 7),
 oo 21 <| .cvt .u64 (.t 20),
 oo 4 <| .mv (.t 19),
 oo 5 <| .mv (.t 21)]
def rQTX3 : List O := [
 oo 23 <| .mv (.t 0),
 oo 24 <| .mv (.t 1),
 oo 25 <| .call nQ9 [(.t 23),(.t 24)],
 oo 22 <| .mv (.t 25),
 oo 26 <| .ext 0 (.t 22),
 oo 27 <| .ext 1 (.t 22),
 oo 8 <| .mv (.t 26),
 oo 9 <| .mv (.t 27)]
def rQTX4 : List O := [
 oo 28 <| .mv (.t 8),
 oo 29 <| .mv (.t 9),
 oo 4 <| .mv (.t 28),
 oo 5 <| .mv (.t 29)]
def cQT : C := (.seq (.reg rQTX0 false [] [0,1]) (.seq (.cond (.k (.bool false)) (.seq (.reg rQTX1 false [] [6,7]) (.seq (.reg rQTX2 false [] [4,5]) .ret)) .skip) (.seq (.reg rQTX3 false [] [8,9]) (.seq (.reg rQTX4 false [] [4,5]) .ret))))
def qQT : AFn := ⟨30,2,[.t 4,.t 5],cQT⟩
/- cohesion/masks.List -/
def rQUX0 : List O := [
 oo 2 <| .mv (.k (.own 1 []))]
def rQUX1 : List O := [
 oo 3 <| .mv (.k (.own 1 []))]
def rQUX2 : List O := [
 oo 4 <| .mv (.t 0),
 oo 5 <| .bin .neq (.t 4) (.k (.int .u64 0))]
def rQUX3 : List O := [
 oo 10 <| .mv (.t 3),
 oo 11 <| .mv (.t 0),
 oo 12 <| .call nQO [(.t 11)],
 oo 13 <| .bslice 1 1 [(.int .i64 0)] [(0,1,(.t 12))],
 oo 14 <| .app 1 (.t 10) (.t 13),
 oo 3 <| .mv (.t 14)]
def rQUX4 : List O := [
 oo 6 <| .mv (.t 0),
 oo 7 <| .mv (.t 0),
 oo 8 <| .bin .sub (.t 7) (.k (.int .u64 1)),
 oo 9 <| .bin .and (.t 6) (.t 8),
 oo 0 <| .mv (.t 9)]
def lQUX0 : C := (.seq (.seq (.reg rQUX2 false [] [0,3,5]) (.cond (.t 5) .skip (.exit 0))) (.seq (.blk 1 (.reg rQUX3 false [] [0,3])) (.reg rQUX4 false [] [0,3])))
def rQUX5 : List O := [
 oo 15 <| .mv (.t 3),
 oo 2 <| .mv (.t 15)]
def cQU : C := (.seq (.reg rQUX0 false [] [0]) (.seq (.reg rQUX1 false [] [0,3]) (.seq (.blk 0 (.loop lQUX0)) (.seq (.reg rQUX5 false [] [2]) .ret))))
def qQU : AFn := ⟨16,1,[.t 2],cQU⟩
/- cohesion/graph.row -/
def rQVX0 : List O := [
 oo 2 <| .box (.t 0),
 oo 4 <| .mv (.k (.int .u64 0))]
def rQVX1 : List O := [
 oo 6 <| .ld (some 2) (.t 2),
 oo 7 <| .call nQa0 [(.t 6)],
 oo 5 <| .mv (.t 7)]
def rQVX2 : List O := [
 oo 8 <| .mv (.t 1),
 oo 9 <| .bin .lss (.t 8) (ki 0),
 oo 10 <| .mv (.t 9),
 ⟨(some 11),(some (10,false)),.mv (.t 1)⟩,
 ⟨(some 12),(some (10,false)),.mv (.t 5)⟩,
 ⟨(some 13),(some (10,false)),.len (.t 12)⟩,
 ⟨(some 14),(some (10,false)),.bin .geq (.t 11) (.t 13)⟩,
 oo 15 <| .pick (.t 10) (.k (.bool true)) (.t 14),
 oo 16 <| .mv (.t 15),
 ⟨(some 17),(some (16,false)),.ld (some 2) (.t 2)⟩,
 ⟨(some 18),(some (16,false)),.call nQu [(.t 17)]⟩,
 ⟨(some 19),(some (16,false)),.bin .neq (.t 18) (ki 0)⟩,
 oo 20 <| .pick (.t 16) (.k (.bool true)) (.t 19)]
def rQVX3 : List O := [
 oo 4 <| .mv (.k (.int .u64 0))]
def rQVX4 : List O := [
 oo 21 <| .mv (.t 5),
 oo 22 <| .mv (.t 1),
 oo 23 <| .ixa 1 (.t 21) (.t 22),
 oo 24 <| .ld none (.t 23),
 oo 4 <| .mv (.t 24)]
def cQV : C := (.seq (.reg rQVX0 false [] [1,2]) (.seq (.reg rQVX1 false [] [1,2,5]) (.seq (.seq (.reg rQVX2 false [] [1,5,20]) (.cond (.t 20) (.seq (.reg rQVX3 false [] [4]) .ret) .skip)) (.seq (.reg rQVX4 false [] [4]) .ret))))
def qQV : AFn := ⟨25,2,[.t 4],cQV⟩
/- cohesion/core.peel -/
def rQWX0 : List O := [
 oo 1 <| .box (.t 0),
 oo 2 <| .mv (.k (.own 1 [])),
 oo 3 <| .mv (.k (.own 1 []))]
def rQWX1 : List O := [
 oo 15 <| .ld (some 2) (.t 1),
 oo 16 <| .call nQa0 [(.t 15)],
 oo 4 <| .mv (.t 16)]
def rQWX2 : List O := [
 oo 5 <| .new [(.int .u64 0),(.int .u64 0),(.int .u64 0),(.int .u64 0),(.int .u64 0),(.int .u64 0),(.int .u64 0),(.int .u64 0),(.int .u64 0),(.int .u64 0),(.int .u64 0),(.int .u64 0),(.int .u64 0),(.int .u64 0),(.int .u64 0),(.int .u64 0),(.int .u64 0),(.int .u64 0),(.int .u64 0),(.int .u64 0),(.int .u64 0),(.int .u64 0),(.int .u64 0),(.int .u64 0),(.int .u64 0),(.int .u64 0),(.int .u64 0),(.int .u64 0),(.int .u64 0),(.int .u64 0),(.int .u64 0),(.int .u64 0),(.int .u64 0),(.int .u64 0),(.int .u64 0),(.int .u64 0),(.int .u64 0),(.int .u64 0),(.int .u64 0),(.int .u64 0),(.int .u64 0),(.int .u64 0),(.int .u64 0),(.int .u64 0),(.int .u64 0),(.int .u64 0),(.int .u64 0),(.int .u64 0),(.int .u64 0),(.int .u64 0),(.int .u64 0),(.int .u64 0),(.int .u64 0),(.int .u64 0),(.int .u64 0),(.int .u64 0),(.int .u64 0),(.int .u64 0),(.int .u64 0),(.int .u64 0),(.int .u64 0),(.int .u64 0),(.int .u64 0),(.int .u64 0)]]
def rQWX3 : List O := [
 oo 17 <| .mv (.t 4),
 oo 18 <| .len (.t 17),
 oo 19 <| .mks 1 [(.int .i64 0)] (.t 18) (.t 18),
 oo 6 <| .mv (.t 19)]
def rQWX4 : List O := [
 oo 20 <| .mv (.t 4),
 oo 21 <| .len (.t 20),
 oo 22 <| .mv (ki 0)]
def rQWX5 : List O := [
 oo 23 <| .bin .lss (.t 22) (.t 21)]
def rQWX6 : List O := [
 oo 24 <| .mv (.t 22),
 oo 25 <| .ixa 1 (.t 20) (.t 22),
 oo 26 <| .ld none (.t 25),
 oo 7 <| .mv (.t 24),
 oo 8 <| .mv (.t 26)]
def rQWX7 : List O := [
 oo 27 <| .mv (.t 6),
 oo 28 <| .mv (.t 7),
 oo 29 <| .mv (.t 8),
 oo 30 <| .call nQa1 [(.t 29)],
 oo 31 <| .ixa 1 (.t 27) (.t 28),
 oz <| .st 1 (.t 31) (.t 30)]
def rQWX8 : List O := [
 oo 32 <| .mv (.t 6),
 oo 33 <| .mv (.t 7),
 oo 34 <| .ixa 1 (.t 32) (.t 33),
 oo 35 <| .ld none (.t 34),
 oo 36 <| .ixp 64 1 (.t 5) (.t 35),
 oo 37 <| .ld none (.t 36),
 oo 38 <| .mv (.t 7),
 oo 39 <| .call nQa2 [(.t 38)],
 oo 40 <| .bin .or (.t 37) (.t 39),
 oo 41 <| .ixp 64 1 (.t 5) (.t 35),
 oz <| .st 1 (.t 41) (.t 40)]
def rQWX9 : List O := [
 oo 42 <| .bin .add (.t 22) (ki 1),
 oo 22 <| .mv (.t 42)]
def lQWX0 : C := (.seq (.reg rQWX5 false [] [2,4,5,6,20,21,22,23]) (.seq (.cond (.t 23) .skip (.exit 0)) (.seq (.blk 1 (.seq (.reg rQWX6 false [] [2,4,5,6,7,8,20,21,22]) (.seq (.reg rQWX7 false [] [2,4,5,6,7,20,21,22]) (.reg rQWX8 true [(8,8),(9,9),(10,10),(3,6),(5,6),(0,7),(1,7),(2,7),(3,7),(4,7),(5,7)] [2,4,5,6,20,21,22])))) (.reg rQWX9 false [] [2,4,5,6,20,21,22]))))
def rQWX10 : List O := [
 oo 43 <| .mv (.t 4),
 oo 44 <| .len (.t 43),
 oo 45 <| .mks 1 [(.int .i64 0)] (.t 44) (.t 44),
 oo 3 <| .mv (.t 45)]
def rQWX11 : List O := [
 oo 46 <| .mv (.t 4),
 oo 47 <| .len (.t 46),
 oo 48 <| .call nQa3 [(.t 47)],
 oo 9 <| .mv (.t 48)]
def rQWX12 : List O := [
 oo 10 <| .mv (ki 0)]
def rQWX13 : List O := [
 oo 49 <| .mv (.t 9),
 oo 50 <| .bin .neq (.t 49) (.k (.int .u64 0))]
def rQWX14 : List O := [
 oo 51 <| .mv (ki 0)]
def rQWX15 : List O := [
 oo 52 <| .bin .lss (.t 51) (ki 64)]
def rQWX16 : List O := [
 oo 53 <| .mv (.t 51),
 oo 11 <| .mv (.t 53)]
def rQWX17 : List O := [
 oo 54 <| .mv (.t 11),
 oo 55 <| .ixp 64 1 (.t 5) (.t 54),
 oo 56 <| .ld none (.t 55),
 oo 57 <| .bin .eql (.t 56) (.k (.int .u64 0))]
def rQWX18 : List O := [
 oo 58 <| .mv (.t 11),
 oo 59 <| .ixp 64 1 (.t 5) (.t 58),
 oo 60 <| .ld none (.t 59),
 oo 61 <| .call nQa4 [(.t 60)],
 oo 12 <| .mv (.t 61)]
def rQWX19 : List O := [
 oo 62 <| .mv (.t 10),
 oo 63 <| .mv (.t 11),
 oo 64 <| .max [(.t 62),(.t 63)],
 oo 10 <| .mv (.t 64)]
def rQWX20 : List O := [
 oo 65 <| .mv (.t 3),
 oo 66 <| .mv (.t 12),
 oo 67 <| .mv (.t 10),
 oo 68 <| .ixa 1 (.t 65) (.t 66),
 oz <| .st 1 (.t 68) (.t 67)]
def rQWX21 : List O := [
 oo 69 <| .mv (.t 2),
 oo 70 <| .mv (.t 12),
 oo 71 <| .bslice 1 1 [(.int .i64 0)] [(0,1,(.t 70))],
 oo 72 <| .app 1 (.t 69) (.t 71),
 oo 2 <| .mv (.t 72)]
def rQWX22 : List O := [
 oo 73 <| .mv (.t 9),
 oo 74 <| .mv (.t 12),
 oo 75 <| .call nQa2 [(.t 74)],
 oo 76 <| .bin .andNot (.t 73) (.t 75),
 oo 9 <| .mv (.t 76)]
def rQWX23 : List O := [
 oo 77 <| .mv (.t 11),
 oo 78 <| .ixp 64 1 (.t 5) (.t 77),
 oo 79 <| .ld none (.t 78),
 oo 80 <| .mv (.t 12),
 oo 81 <| .call nQa2 [(.t 80)],
 oo 82 <| .bin .andNot (.t 79) (.t 81),
 oo 83 <| .ixp 64 1 (.t 5) (.t 77),
 oz <| .st 1 (.t 83) (.t 82)]
def rQWX24 : List O := [
 oo 84 <| .mv (.t 4),
 oo 85 <| .mv (.t 12),
 oo 86 <| .ixa 1 (.t 84) (.t 85),
 oo 87 <| .ld none (.t 86),
 oo 88 <| .mv (.t 9),
 oo 89 <| .bin .and (.t 87) (.t 88),
 oo 90 <| .call nQU [(.t 89)],
 oo 91 <| .len (.t 90),
 oo 92 <| .mv (ki 0)]
def rQWX25 : List O := [
 oo 93 <| .bin .lss (.t 92) (.t 91)]
def rQWX26 : List O := [
 oo 94 <| .ixa 1 (.t 90) (.t 92),
 oo 95 <| .ld none (.t 94),
 oo 14 <| .mv (.t 95)]
def rQWX27 : List O := [
 oo 96 <| .mv (.t 6),
 oo 97 <| .mv (.t 14),
 oo 98 <| .ixa 1 (.t 96) (.t 97),
 oo 99 <| .ld none (.t 98),
 oo 100 <| .ixp 64 1 (.t 5) (.t 99),
 oo 101 <| .ld none (.t 100),
 oo 102 <| .mv (.t 14),
 oo 103 <| .call nQa2 [(.t 102)],
 oo 104 <| .bin .andNot (.t 101) (.t 103),
 oo 105 <| .ixp 64 1 (.t 5) (.t 99),
 oz <| .st 1 (.t 105) (.t 104)]
def rQWX28 : List O := [
 oo 106 <| .mv (.t 6),
 oo 107 <| .mv (.t 14),
 oo 108 <| .ixa 1 (.t 106) (.t 107),
 oo 109 <| .ld none (.t 108),
 oo 110 <| .bin .sub (.t 109) (ki 1),
 oo 111 <| .ixa 1 (.t 106) (.t 107),
 oz <| .st 1 (.t 111) (.t 110)]
def rQWX29 : List O := [
 oo 112 <| .mv (.t 6),
 oo 113 <| .mv (.t 14),
 oo 114 <| .ixa 1 (.t 112) (.t 113),
 oo 115 <| .ld none (.t 114),
 oo 116 <| .ixp 64 1 (.t 5) (.t 115),
 oo 117 <| .ld none (.t 116),
 oo 118 <| .mv (.t 14),
 oo 119 <| .call nQa2 [(.t 118)],
 oo 120 <| .bin .or (.t 117) (.t 119),
 oo 121 <| .ixp 64 1 (.t 5) (.t 115),
 oz <| .st 1 (.t 121) (.t 120)]
def rQWX30 : List O := [
 oo 122 <| .bin .add (.t 92) (ki 1),
 oo 92 <| .mv (.t 122)]
def lQWX1 : C := (.seq (.reg rQWX25 false [] [2,3,4,5,6,9,10,90,91,92,93]) (.seq (.cond (.t 93) .skip (.exit 6)) (.seq (.blk 7 (.seq (.reg rQWX26 false [] [2,3,4,5,6,9,10,14,90,91,92]) (.seq (.reg rQWX27 true [(8,8),(9,9),(10,10),(3,6),(5,6),(0,7),(1,7),(2,7),(3,7),(4,7),(5,7)] [2,3,4,5,6,9,10,14,90,91,92]) (.seq (.reg rQWX28 false [] [2,3,4,5,6,9,10,14,90,91,92]) (.reg rQWX29 true [(8,8),(9,9),(10,10),(3,6),(5,6),(0,7),(1,7),(2,7),(3,7),(4,7),(5,7)] [2,3,4,5,6,9,10,90,91,92]))))) (.reg rQWX30 false [] [2,3,4,5,6,9,10,90,91,92]))))
def rQWX31 : List O := [
 oo 123 <| .bin .add (.t 51) (ki 1),
 oo 51 <| .mv (.t 123)]
def lQWX2 : C := (.seq (.reg rQWX15 false [] [2,3,4,5,6,9,10,51,52]) (.seq (.cond (.t 52) .skip (.exit 4)) (.seq (.blk 5 (.seq (.reg rQWX16 false [] [2,3,4,5,6,9,10,11,51]) (.seq (.seq (.reg rQWX17 false [] [2,3,4,5,6,9,10,11,51,57]) (.cond (.t 57) (.exit 5) .skip)) (.seq (.reg rQWX18 false [] [2,3,4,5,6,9,10,11,12]) (.seq (.reg rQWX19 false [] [2,3,4,5,6,9,10,11,12]) (.seq (.reg rQWX20 false [] [2,3,4,5,6,9,10,11,12]) (.seq (.reg rQWX21 false [] [2,3,4,5,6,9,10,11,12]) (.seq (.reg rQWX22 false [] [2,3,4,5,6,9,10,11,12]) (.seq (.reg rQWX23 true [(5,5),(6,6),(7,7),(2,3),(0,4),(1,4),(2,4)] [2,3,4,5,6,9,10,12]) (.seq (.seq (.reg rQWX24 false [] [2,3,4,5,6,9,10,90,91,92]) (.blk 6 (.loop lQWX1))) (.exit 3))))))))))) (.reg rQWX31 false [] [2,3,4,5,6,9,10,51]))))
def lQWX3 : C := (.seq (.seq (.reg rQWX13 false [] [2,3,4,5,6,9,10,50]) (.cond (.t 50) .skip (.exit 2))) (.blk 3 (.seq (.reg rQWX14 false [] [2,3,4,5,6,9,10,51]) (.blk 4 (.loop lQWX2)))))
def rQWX32 : List O := [
 oo 124 <| .mv (.t 2),
 oo 125 <| .mv (.t 3),
 oo 2 <| .mv (.t 124),
 oo 3 <| .mv (.t 125)]
def cQW : C := (.seq (.reg rQWX0 false [] [1,2]) (.seq .skip (.seq (.reg rQWX1 false [] [2,4]) (.seq (.reg rQWX2 false [] [2,4,5]) (.seq (.reg rQWX3 false [] [2,4,5,6]) (.seq (.seq (.reg rQWX4 false [] [2,4,5,6,20,21,22]) (.blk 0 (.loop lQWX0))) (.seq (.reg rQWX10 false [] [2,3,4,5,6]) (.seq (.reg rQWX11 false [] [2,3,4,5,6,9]) (.seq (.reg rQWX12 false [] [2,3,4,5,6,9,10]) (.seq .skip (.seq (.blk 2 (.loop lQWX3)) (.seq (.reg rQWX32 false [] [2,3]) .ret))))))))))))
def qQW : AFn := ⟨126,1,[.t 2,.t 3],cQW⟩
/- cohesion/cohesionref03.Before -/
def rQXX0 : List O := [
 oo 2 <| .box (.t 0),
 oo 3 <| .box (.t 1),
 oo 4 <| .mv (.k (.bool false))]
def rQXX1 : List O := [
 oo 5 <| .fad 0 (.t 2),
 oo 6 <| .ld none (.t 5),
 oo 7 <| .fad 0 (.t 3),
 oo 8 <| .ld none (.t 7),
 oo 9 <| .bin .lss (.t 6) (.t 8),
 oo 10 <| .mv (.t 9),
 ⟨(some 11),(some (10,false)),.fad 0 (.t 2)⟩,
 ⟨(some 12),(some (10,false)),.ld none (.t 11)⟩,
 ⟨(some 13),(some (10,false)),.fad 0 (.t 3)⟩,
 ⟨(some 14),(some (10,false)),.ld none (.t 13)⟩,
 ⟨(some 15),(some (10,false)),.bin .eql (.t 12) (.t 14)⟩,
 ⟨(some 16),(some (10,false)),.mv (.t 15)⟩,
 ⟨(some 17),(some (16,true)),.fad 1 (.t 2)⟩,
 ⟨(some 18),(some (16,true)),.ld none (.t 17)⟩,
 ⟨(some 19),(some (16,true)),.fad 1 (.t 3)⟩,
 ⟨(some 20),(some (16,true)),.ld none (.t 19)⟩,
 ⟨(some 21),(some (16,true)),.bin .lss (.t 18) (.t 20)⟩,
 ⟨(some 22),(some (10,false)),.pick (.t 16) (.t 21) (.k (.bool false))⟩,
 oo 23 <| .pick (.t 10) (.k (.bool true)) (.t 22),
 oo 4 <| .mv (.t 23)]
def cQX : C := (.seq (.reg rQXX0 false [] [2,3]) (.seq (.reg rQXX1 false [] [4]) .ret))
def qQX : AFn := ⟨24,2,[.t 4],cQX⟩
/- slices.IndexFunc[[]int,int] -/
def rQYX0 : List O := [
 oo 4 <| .mv (ki 0)]
def rQYX1 : List O := [
 oo 6 <| .mv (.t 0),
 oo 7 <| .len (.t 6),
 oo 8 <| .mv (ki 0)]
def rQYX2 : List O := [
 oo 9 <| .bin .lss (.t 8) (.t 7)]
def rQYX3 : List O := [
 oo 10 <| .mv (.t 8),
 oo 5 <| .mv (.t 10)]
def rQYX4 : List O := [
 oo 11 <| .mv (.t 1),
 oo 12 <| .mv (.t 0),
 oo 13 <| .mv (.t 5),
 oo 14 <| .ixa 1 (.t 12) (.t 13),
 oo 15 <| .ld none (.t 14),
 oo 16 <| .callv (.t 11) [(.t 15)]]
def rQYX5 : List O := [
 oo 17 <| .mv (.t 5),
 oo 4 <| .mv (.t 17)]
def rQYX6 : List O := [
 oo 18 <| .bin .add (.t 8) (ki 1),
 oo 8 <| .mv (.t 18)]
def lQYX0 : C := (.seq (.reg rQYX2 false [] [0,1,7,8,9]) (.seq (.cond (.t 9) .skip (.exit 0)) (.seq (.blk 1 (.seq (.reg rQYX3 false [] [0,1,5,7,8]) (.seq (.reg rQYX4 false [] [0,1,5,7,8,16]) (.cond (.t 16) (.seq (.reg rQYX5 false [] [4]) .ret) .skip)))) (.reg rQYX6 false [] [0,1,7,8]))))
def rQYX7 : List O := [
 oo 4 <| .mv (.k (.int .i64 (-1)))]
def cQY : C := (.seq (.reg rQYX0 false [] [0,1]) (.seq (.seq (.reg rQYX1 false [] [0,1,7,8]) (.blk 0 (.loop lQYX0))) (.seq (.reg rQYX7 false [] [4]) .ret)))
def qQY : AFn := ⟨19,2,[.t 4],cQY⟩
/- slices.IndexFunc[[]cohesion/api.Edge,cohesion/api.Edge] -/
def rQZX0 : List O := [
 oo 4 <| .mv (ki 0)]
def rQZX1 : List O := [
 oo 6 <| .mv (.t 0),
 oo 7 <| .len (.t 6),
 oo 8 <| .mv (ki 0)]
def rQZX2 : List O := [
 oo 9 <| .bin .lss (.t 8) (.t 7)]
def rQZX3 : List O := [
 oo 10 <| .mv (.t 8),
 oo 5 <| .mv (.t 10)]
def rQZX4 : List O := [
 oo 11 <| .mv (.t 1),
 oo 12 <| .mv (.t 0),
 oo 13 <| .mv (.t 5),
 oo 14 <| .ixa 2 (.t 12) (.t 13),
 oo 15 <| .ld (some 2) (.t 14),
 oo 16 <| .callv (.t 11) [(.t 15)]]
def rQZX5 : List O := [
 oo 17 <| .mv (.t 5),
 oo 4 <| .mv (.t 17)]
def rQZX6 : List O := [
 oo 18 <| .bin .add (.t 8) (ki 1),
 oo 8 <| .mv (.t 18)]
def lQZX0 : C := (.seq (.reg rQZX2 false [] [0,1,7,8,9]) (.seq (.cond (.t 9) .skip (.exit 0)) (.seq (.blk 1 (.seq (.reg rQZX3 false [] [0,1,5,7,8]) (.seq (.reg rQZX4 false [] [0,1,5,7,8,16]) (.cond (.t 16) (.seq (.reg rQZX5 false [] [4]) .ret) .skip)))) (.reg rQZX6 false [] [0,1,7,8]))))
def rQZX7 : List O := [
 oo 4 <| .mv (.k (.int .i64 (-1)))]
def cQZ : C := (.seq (.reg rQZX0 false [] [0,1]) (.seq (.seq (.reg rQZX1 false [] [0,1,7,8]) (.blk 0 (.loop lQZX0))) (.seq (.reg rQZX7 false [] [4]) .ret)))
def qQZ : AFn := ⟨19,2,[.t 4],cQZ⟩
/- cohesion/maxclique.longest$1 -/
def rQ0X0 : List O := [
 oo 8 <| .ld none (.t 2),
 oo 9 <| .mv (.t 1),
 oo 10 <| .max [(.t 8),(.t 9)],
 oz <| .st 1 (.t 2) (.t 10)]
def rQ0X1 : List O := [
 oo 11 <| .mv (.t 0),
 oo 12 <| .bin .neq (.t 11) (.k (.int .u64 0))]
def rQ0X2 : List O := [
 oo 13 <| .mv (.t 1),
 oo 14 <| .mv (.t 0),
 oo 15 <| .call nQ1 [(.t 14)],
 oo 16 <| .bin .add (.t 13) (.t 15),
 oo 17 <| .ld none (.t 2),
 oo 18 <| .bin .leq (.t 16) (.t 17),
 oo 19 <| .mv (.t 18),
 ⟨(some 20),(some (19,false)),.mv (.t 1)⟩,
 ⟨(some 21),(some (19,false)),.ld none (.t 3)⟩,
 ⟨(some 22),(some (19,false)),.mv (.t 0)⟩,
 ⟨(some 23),(some (19,false)),.call nQ2 [(.t 21),(.t 22)]⟩,
 ⟨(some 24),(some (19,false)),.bin .add (.t 20) (.t 23)⟩,
 ⟨(some 25),(some (19,false)),.ld none (.t 2)⟩,
 ⟨(some 26),(some (19,false)),.bin .leq (.t 24) (.t 25)⟩,
 oo 27 <| .pick (.t 19) (.k (.bool true)) (.t 26)]
def rQ0X3 : List O := [
 oo 28 <| .mv (.t 0),
 oo 29 <| .call nQO [(.t 28)],
 oo 7 <| .mv (.t 29)]
def rQ0X4 : List O := [
 oo 30 <| .mv (.t 0),
 oo 31 <| .mv (.t 7),
 oo 32 <| .bin .shl (.k (.int .u64 1)) (.t 31),
 oo 33 <| .bin .andNot (.t 30) (.t 32),
 oo 0 <| .mv (.t 33)]
def rQ0X5 : List O := [
 oo 34 <| .ld none (.t 4),
 oo 35 <| .mv (.t 0),
 oo 36 <| .ld none (.t 3),
 oo 37 <| .mv (.t 7),
 oo 38 <| .ixa 1 (.t 36) (.t 37),
 oo 39 <| .ld none (.t 38),
 oo 40 <| .bin .and (.t 35) (.t 39),
 oo 41 <| .mv (.t 1),
 oo 42 <| .bin .add (.t 41) (ki 1),
 oo 43 <| .callv (.t 34) [(.t 40),(.t 42)]]
def lQ0X0 : C := (.seq (.seq (.reg rQ0X1 false [] [0,1,2,3,4,12]) (.cond (.t 12) .skip (.exit 0))) (.blk 1 (.seq (.seq (.reg rQ0X2 true [(5,5),(6,6),(13,13),(14,14),(0,2),(0,4),(1,4),(2,4),(3,4),(7,8),(8,9),(7,10),(7,12),(8,12),(9,12),(10,12),(11,12)] [0,1,2,3,4,27]) (.cond (.t 27) (.exit 0) .skip)) (.seq (.reg rQ0X3 false [] [0,1,2,3,4,7]) (.seq (.reg rQ0X4 false [] [0,1,2,3,4,7]) (.reg rQ0X5 true [(9,9),(0,1),(0,2),(1,2),(0,3),(2,3),(0,4),(0,5),(1,5),(0,6),(0,7),(2,7),(5,7),(0,8),(2,8),(5,8)] [0,1,2,3,4]))))))
def cQ0 : C := (.seq .skip (.seq (.reg rQ0X0 false [] [0,1,2,3,4]) (.seq .skip (.blk 0 (.loop lQ0X0)))))
def qQ0 : AFn := ⟨44,2,[],cQ0⟩
/- math/bits.OnesCount64 -/
def rQ1X0 : List O := [
 oo 2 <| .mv (ki 0)]
def rQ1X1 : List O := [
 oo 3 <| .mv (.t 0),
 oo 4 <| .bin .shr (.t 3) (.k (.int .u64 1)),
 oo 5 <| .bin .and (.t 4) (.k (.int .u64 6148914691236517205)),
 oo 6 <| .mv (.t 0),
 oo 7 <| .bin .and (.t 6) (.k (.int .u64 6148914691236517205)),
 oo 8 <| .bin .add (.t 5) (.t 7),
 oo 0 <| .mv (.t 8)]
def rQ1X2 : List O := [
 oo 9 <| .mv (.t 0),
 oo 10 <| .bin .shr (.t 9) (.k (.int .u64 2)),
 oo 11 <| .bin .and (.t 10) (.k (.int .u64 3689348814741910323)),
 oo 12 <| .mv (.t 0),
 oo 13 <| .bin .and (.t 12) (.k (.int .u64 3689348814741910323)),
 oo 14 <| .bin .add (.t 11) (.t 13),
 oo 0 <| .mv (.t 14)]
def rQ1X3 : List O := [
 oo 15 <| .mv (.t 0),
 oo 16 <| .bin .shr (.t 15) (.k (.int .u64 4)),
 oo 17 <| .mv (.t 0),
 oo 18 <| .bin .add (.t 16) (.t 17),
 oo 19 <| .bin .and (.t 18) (.k (.int .u64 1085102592571150095)),
 oo 0 <| .mv (.t 19)]
def rQ1X4 : List O := [
 oo 20 <| .mv (.t 0),
 oo 21 <| .mv (.t 0),
 oo 22 <| .bin .shr (.t 21) (.k (.int .u64 8)),
 oo 23 <| .bin .add (.t 20) (.t 22),
 oo 0 <| .mv (.t 23)]
def rQ1X5 : List O := [
 oo 24 <| .mv (.t 0),
 oo 25 <| .mv (.t 0),
 oo 26 <| .bin .shr (.t 25) (.k (.int .u64 16)),
 oo 27 <| .bin .add (.t 24) (.t 26),
 oo 0 <| .mv (.t 27)]
def rQ1X6 : List O := [
 oo 28 <| .mv (.t 0),
 oo 29 <| .mv (.t 0),
 oo 30 <| .bin .shr (.t 29) (.k (.int .u64 32)),
 oo 31 <| .bin .add (.t 28) (.t 30),
 oo 0 <| .mv (.t 31)]
def rQ1X7 : List O := [
 oo 32 <| .mv (.t 0),
 oo 33 <| .cvt .i64 (.t 32),
 oo 34 <| .bin .and (.t 33) (ki 127),
 oo 2 <| .mv (.t 34)]
def cQ1 : C := (.seq (.reg rQ1X0 false [] [0]) (.seq (.reg rQ1X1 false [] [0]) (.seq (.reg rQ1X2 false [] [0]) (.seq (.reg rQ1X3 false [] [0]) (.seq (.reg rQ1X4 false [] [0]) (.seq (.reg rQ1X5 false [] [0]) (.seq (.reg rQ1X6 false [] [0]) (.seq (.reg rQ1X7 false [] [2]) .ret))))))))
def qQ1 : AFn := ⟨35,1,[.t 2],cQ1⟩
/- cohesion/maxclique.bound -/
def rQ2X0 : List O := [
 oo 4 <| .mv (ki 0)]
def rQ2X1 : List O := [
 oo 5 <| .mv (ki 0)]
def rQ2X2 : List O := [
 oo 8 <| .mv (.t 1),
 oo 9 <| .bin .neq (.t 8) (.k (.int .u64 0))]
def rQ2X3 : List O := [
 oo 12 <| .mv (.t 1),
 oo 6 <| .mv (.t 12)]
def rQ2X4 : List O := [
 oo 13 <| .mv (.t 6),
 oo 14 <| .bin .neq (.t 13) (.k (.int .u64 0))]
def rQ2X5 : List O := [
 oo 15 <| .mv (.t 6),
 oo 16 <| .call nQO [(.t 15)],
 oo 7 <| .mv (.t 16)]
def rQ2X6 : List O := [
 oo 17 <| .mv (.t 1),
 oo 18 <| .mv (.t 7),
 oo 19 <| .bin .shl (.k (.int .u64 1)) (.t 18),
 oo 20 <| .bin .andNot (.t 17) (.t 19),
 oo 1 <| .mv (.t 20)]
def rQ2X7 : List O := [
 oo 21 <| .mv (.t 6),
 oo 22 <| .mv (.t 7),
 oo 23 <| .bin .shl (.k (.int .u64 1)) (.t 22),
 oo 24 <| .mv (.t 0),
 oo 25 <| .mv (.t 7),
 oo 26 <| .ixa 1 (.t 24) (.t 25),
 oo 27 <| .ld none (.t 26),
 oo 28 <| .bin .or (.t 23) (.t 27),
 oo 29 <| .bin .andNot (.t 21) (.t 28),
 oo 6 <| .mv (.t 29)]
def lQ2X0 : C := (.seq (.seq (.reg rQ2X4 false [] [0,1,5,6,14]) (.cond (.t 14) .skip (.exit 2))) (.blk 3 (.seq (.reg rQ2X5 false [] [0,1,5,6,7]) (.seq (.reg rQ2X6 false [] [0,1,5,6,7]) (.reg rQ2X7 true [(8,8),(9,9),(0,6),(1,6),(2,6)] [0,1,5,6])))))
def rQ2X8 : List O := [
 oo 10 <| .mv (.t 5),
 oo 11 <| .bin .add (.t 10) (ki 1),
 oo 5 <| .mv (.t 11)]
def lQ2X1 : C := (.seq (.seq (.reg rQ2X2 false [] [0,1,5,9]) (.cond (.t 9) .skip (.exit 0))) (.seq (.blk 1 (.seq (.reg rQ2X3 false [] [0,1,5,6]) (.blk 2 (.loop lQ2X0)))) (.reg rQ2X8 false [] [0,1,5])))
def rQ2X9 : List O := [
 oo 30 <| .mv (.t 5),
 oo 4 <| .mv (.t 30)]
def cQ2 : C := (.seq (.reg rQ2X0 false [] [0,1]) (.seq (.reg rQ2X1 false [] [0,1,5]) (.seq (.blk 0 (.loop lQ2X1)) (.seq (.reg rQ2X9 false [] [4]) .ret))))
def qQ2 : AFn := ⟨31,2,[.t 4],cQ2⟩
/- cohesion/core.Numbers -/
def rQ3X0 : List O := [
 oo 1 <| .box (.t 0),
 oo 2 <| .mv (.k (.own 1 [])),
 oo 3 <| .mv (ki 0)]
def rQ3X1 : List O := [
 oo 7 <| .ld (some 2) (.t 1),
 oo 8 <| .call nQu [(.t 7)],
 oo 4 <| .mv (.t 8)]
def rQ3X2 : List O := [
 oo 9 <| .mv (.t 4),
 oo 10 <| .bin .neq (.t 9) (ki 0)]
def rQ3X3 : List O := [
 oo 11 <| .mv (.t 4),
 oo 2 <| .mv (.k (.own 1 [])),
 oo 3 <| .mv (.t 11)]
def rQ3X4 : List O := [
 oo 13 <| .ld (some 2) (.t 1),
 oo 14 <| .call nQW [(.t 13)],
 oo 12 <| .mv (.t 14),
 oo 15 <| .ext 0 (.t 12),
 oo 16 <| .ext 1 (.t 12),
 oo 5 <| .mv (.t 15),
 oo 6 <| .mv (.t 16)]
def rQ3X5 : List O := [
 oo 17 <| .mv (.t 6),
 oo 2 <| .mv (.t 17),
 oo 3 <| .mv (ki 0)]
def cQ3 : C := (.seq (.reg rQ3X0 false [] [1]) (.seq (.seq (.reg rQ3X1 false [] [1,4]) (.seq (.reg rQ3X2 false [] [1,4,10]) (.cond (.t 10) (.seq (.reg rQ3X3 false [] [2,3]) .ret) .skip))) (.seq (.reg rQ3X4 false [] [6]) (.seq (.reg rQ3X5 false [] [2,3]) .ret))))
def qQ3 : AFn := ⟨18,1,[.t 2,.t 3],cQ3⟩
/- cmp.Or[int] -/
def rQ4X0 : List O := [
 oo 2 <| .mv (ki 0)]
def rQ4X1 : List O := [
 oo 3 <| .mv (ki 0)]
def rQ4X2 : List O := [
 oo 6 <| .mv (.t 0),
 oo 7 <| .len (.t 6),
 oo 8 <| .mv (ki 0)]
def rQ4X3 : List O := [
 oo 9 <| .bin .lss (.t 8) (.t 7)]
def rQ4X4 : List O := [
 oo 10 <| .ixa 1 (.t 6) (.t 8),
 oo 11 <| .ld none (.t 10),
 oo 5 <| .mv (.t 11)]
def rQ4X5 : List O := [
 oo 12 <| .mv (.t 5),
 oo 13 <| .mv (.t 3),
 oo 14 <| .bin .neq (.t 12) (.t 13)]
def rQ4X6 : List O := [
 oo 15 <| .mv (.t 5),
 oo 2 <| .mv (.t 15)]
def rQ4X7 : List O := [
 oo 16 <| .bin .add (.t 8) (ki 1),
 oo 8 <| .mv (.t 16)]
def lQ4X0 : C := (.seq (.reg rQ4X3 false [] [3,6,7,8,9]) (.seq (.cond (.t 9) .skip (.exit 0)) (.seq (.blk 1 (.seq (.reg rQ4X4 false [] [3,5,6,7,8]) (.seq (.reg rQ4X5 false [] [3,5,6,7,8,14]) (.cond (.t 14) (.seq (.reg rQ4X6 false [] [2]) .ret) .skip)))) (.reg rQ4X7 false [] [3,6,7,8]))))
def rQ4X8 : List O := [
 oo 17 <| .mv (.t 3),
 oo 2 <| .mv (.t 17)]
def cQ4 : C := (.seq (.reg rQ4X0 false [] [0]) (.seq (.reg rQ4X1 false [] [0,3]) (.seq (.seq (.reg rQ4X2 false [] [3,6,7,8]) (.blk 0 (.loop lQ4X0))) (.seq (.reg rQ4X8 false [] [2]) .ret))))
def qQ4 : AFn := ⟨18,1,[.t 2],cQ4⟩
/- cmp.Compare[int] -/
def rQ5X0 : List O := [
 oo 4 <| .mv (ki 0)]
def rQ5X1 : List O := [
 oo 7 <| .mv (.t 0),
 oo 8 <| .call nQa5 [(.t 7)],
 oo 5 <| .mv (.t 8)]
def rQ5X2 : List O := [
 oo 9 <| .mv (.t 1),
 oo 10 <| .call nQa5 [(.t 9)],
 oo 6 <| .mv (.t 10)]
def rQ5X3 : List O := [
 oo 11 <| .mv (.t 5)]
def rQ5X4 : List O := [
 oo 12 <| .mv (.t 6)]
def rQ5X5 : List O := [
 oo 4 <| .mv (ki 0)]
def rQ5X6 : List O := [
 oo 4 <| .mv (.k (.int .i64 (-1)))]
def rQ5X7 : List O := [
 oo 13 <| .mv (.t 6)]
def rQ5X8 : List O := [
 oo 4 <| .mv (ki 1)]
def rQ5X9 : List O := [
 oo 14 <| .mv (.t 0),
 oo 15 <| .mv (.t 1),
 oo 16 <| .bin .lss (.t 14) (.t 15)]
def rQ5X10 : List O := [
 oo 4 <| .mv (.k (.int .i64 (-1)))]
def rQ5X11 : List O := [
 oo 17 <| .mv (.t 0),
 oo 18 <| .mv (.t 1),
 oo 19 <| .bin .gtr (.t 17) (.t 18)]
def rQ5X12 : List O := [
 oo 4 <| .mv (ki 1)]
def rQ5X13 : List O := [
 oo 4 <| .mv (ki 0)]
def cQ5 : C := (.seq (.reg rQ5X0 false [] [0,1]) (.seq (.reg rQ5X1 false [] [0,1,5]) (.seq (.reg rQ5X2 false [] [0,1,5,6]) (.seq (.seq (.reg rQ5X3 false [] [0,1,6,11]) (.cond (.t 11) (.seq (.seq (.reg rQ5X4 false [] [12]) (.cond (.t 12) (.seq (.reg rQ5X5 false [] [4]) .ret) .skip)) (.seq (.reg rQ5X6 false [] [4]) .ret)) .skip)) (.seq (.seq (.reg rQ5X7 false [] [0,1,13]) (.cond (.t 13) (.seq (.reg rQ5X8 false [] [4]) .ret) .skip)) (.seq (.seq (.reg rQ5X9 false [] [0,1,16]) (.cond (.t 16) (.seq (.reg rQ5X10 false [] [4]) .ret) .skip)) (.seq (.seq (.reg rQ5X11 false [] [19]) (.cond (.t 19) (.seq (.reg rQ5X12 false [] [4]) .ret) .skip)) (.seq (.reg rQ5X13 false [] [4]) .ret))))))))
def qQ5 : AFn := ⟨20,2,[.t 4],cQ5⟩
/- cohesion/nodeset.merged[int] -/
def rQ6X0 : List O := [
 oo 6 <| .mv (.k (.own 1 []))]
def rQ6X1 : List O := [
 oo 11 <| .mv (.t 0),
 oo 12 <| .call nQa6 [(.t 11)],
 oo 13 <| .mv (.t 1),
 oo 14 <| .call nQa6 [(.t 13)],
 oo 0 <| .mv (.t 12),
 oo 1 <| .mv (.t 14)]
def rQ6X2 : List O := [
 oo 15 <| .mv (.t 0),
 oo 16 <| .call nQa7 [(.t 15)]]
def rQ6X3 : List O := [
 oo 17 <| .mv (.t 1),
 oo 18 <| .call nQa7 [(.t 17)]]
def rQ6X4 : List O := [
 oo 19 <| .mv (.t 0),
 oo 20 <| .call nQa8 [(.t 19)],
 oo 21 <| .mv (.t 1),
 oo 22 <| .call nQa8 [(.t 21)],
 oo 0 <| .mv (.t 20),
 oo 1 <| .mv (.t 22)]
def rQ6X5 : List O := [
 oo 7 <| .mv (.k (.own 1 []))]
def rQ6X6 : List O := [
 oo 23 <| .mv (.t 0),
 oo 24 <| .len (.t 23),
 oo 25 <| .bin .gtr (.t 24) (ki 0),
 oo 26 <| .mv (.t 25),
 ⟨(some 27),(some (26,false)),.mv (.t 1)⟩,
 ⟨(some 28),(some (26,false)),.len (.t 27)⟩,
 ⟨(some 29),(some (26,false)),.bin .gtr (.t 28) (ki 0)⟩,
 oo 30 <| .pick (.t 26) (.k (.bool true)) (.t 29)]
def rQ6X7 : List O := [
 oo 31 <| .mv (.t 1),
 oo 32 <| .len (.t 31),
 oo 33 <| .bin .eql (.t 32) (ki 0),
 oo 34 <| .mv (.t 33),
 ⟨(some 35),(some (34,false)),.mv (.t 0)⟩,
 ⟨(some 36),(some (34,false)),.len (.t 35)⟩,
 ⟨(some 37),(some (34,false)),.bin .gtr (.t 36) (ki 0)⟩,
 ⟨(some 38),(some (34,false)),.mv (.t 37)⟩,
 ⟨(some 39),(some (38,true)),.mv (.t 0)⟩,
 ⟨(some 40),(some (38,true)),.ixa 1 (.t 39) (ki 0)⟩,
 ⟨(some 41),(some (38,true)),.ld none (.t 40)⟩,
 ⟨(some 42),(some (38,true)),.mv (.t 1)⟩,
 ⟨(some 43),(some (38,true)),.ixa 1 (.t 42) (ki 0)⟩,
 ⟨(some 44),(some (38,true)),.ld none (.t 43)⟩,
 ⟨(some 45),(some (38,true)),.bin .leq (.t 41) (.t 44)⟩,
 ⟨(some 46),(some (34,false)),.pick (.t 38) (.t 45) (.k (.bool false))⟩,
 oo 47 <| .pick (.t 34) (.k (.bool true)) (.t 46),
 oo 8 <| .mv (.t 47)]
def rQ6X8 : List O := [
 oo 48 <| .mv (.t 0),
 oo 49 <| .len (.t 48),
 oo 50 <| .bin .eql (.t 49) (ki 0),
 oo 51 <| .mv (.t 50),
 ⟨(some 52),(some (51,false)),.mv (.t 1)⟩,
 ⟨(some 53),(some (51,false)),.len (.t 52)⟩,
 ⟨(some 54),(some (51,false)),.bin .gtr (.t 53) (ki 0)⟩,
 ⟨(some 55),(some (51,false)),.mv (.t 54)⟩,
 ⟨(some 56),(some (55,true)),.mv (.t 1)⟩,
 ⟨(some 57),(some (55,true)),.ixa 1 (.t 56) (ki 0)⟩,
 ⟨(some 58),(some (55,true)),.ld none (.t 57)⟩,
 ⟨(some 59),(some (55,true)),.mv (.t 0)⟩,
 ⟨(some 60),(some (55,true)),.ixa 1 (.t 59) (ki 0)⟩,
 ⟨(some 61),(some (55,true)),.ld none (.t 60)⟩,
 ⟨(some 62),(some (55,true)),.bin .leq (.t 58) (.t 61)⟩,
 ⟨(some 63),(some (51,false)),.pick (.t 55) (.t 62) (.k (.bool false))⟩,
 oo 64 <| .pick (.t 51) (.k (.bool true)) (.t 63),
 oo 9 <| .mv (.t 64)]
def rQ6X9 : List O := [
 oo 10 <| .mv (ki 0)]
def rQ6X10 : List O := [
 oo 65 <| .mv (.t 8)]
def rQ6X11 : List O := [
 oo 66 <| .mv (.t 0),
 oo 67 <| .ixa 1 (.t 66) (ki 0),
 oo 68 <| .ld none (.t 67),
 oo 69 <| .mv (.t 0),
 oo 70 <| .slc 1 (.t 69) (some (ki 1)) none,
 oo 10 <| .mv (.t 68),
 oo 0 <| .mv (.t 70)]
def rQ6X12 : List O := [
 oo 71 <| .mv (.t 9)]
def rQ6X13 : List O := [
 oo 72 <| .mv (.t 1),
 oo 73 <| .ixa 1 (.t 72) (ki 0),
 oo 74 <| .ld none (.t 73),
 oo 75 <| .mv (.t 1),
 oo 76 <| .slc 1 (.t 75) (some (ki 1)) none,
 oo 10 <| .mv (.t 74),
 oo 1 <| .mv (.t 76)]
def rQ6X14 : List O := [
 oo 77 <| .mv (.t 2),
 oo 78 <| .mv (.t 8),
 oo 79 <| .mv (.t 9),
 oo 80 <| .callv (.t 77) [(.t 78),(.t 79)]]
def rQ6X15 : List O := [
 oo 81 <| .mv (.t 7),
 oo 82 <| .mv (.t 10),
 oo 83 <| .bslice 1 1 [(.int .i64 0)] [(0,1,(.t 82))],
 oo 84 <| .app 1 (.t 81) (.t 83),
 oo 7 <| .mv (.t 84)]
def lQ6X0 : C := (.seq (.seq (.reg rQ6X6 false [] [0,1,2,7,30]) (.cond (.t 30) .skip (.exit 0))) (.blk 1 (.seq (.reg rQ6X7 true [(0,0),(1,1),(2,2),(3,3),(4,4),(5,5),(6,6),(7,7),(14,14),(15,15),(16,16),(17,17),(10,11),(10,12),(8,13),(9,13),(10,13)] [0,1,2,7,8]) (.seq (.reg rQ6X8 true [(0,0),(1,1),(2,2),(3,3),(4,4),(5,5),(6,6),(7,7),(14,14),(15,15),(16,16),(17,17),(10,11),(10,12),(8,13),(9,13),(10,13)] [0,1,2,7,8,9]) (.seq (.reg rQ6X9 false [] [0,1,2,7,8,9,10]) (.seq (.seq (.reg rQ6X10 false [] [0,1,2,7,8,9,10,65]) (.cond (.t 65) (.reg rQ6X11 true [(6,6),(2,3),(2,4)] [0,1,2,7,8,9,10]) .skip)) (.seq (.seq (.reg rQ6X12 false [] [0,1,2,7,8,9,10,71]) (.cond (.t 71) (.reg rQ6X13 true [(6,6),(2,3),(2,4)] [0,1,2,7,8,9,10]) .skip)) (.seq (.reg rQ6X14 false [] [0,1,2,7,10,80]) (.cond (.t 80) (.reg rQ6X15 false [] [0,1,2,7]) .skip)))))))))
def rQ6X16 : List O := [
 oo 85 <| .mv (.t 7),
 oo 6 <| .mv (.t 85)]
def cQ6 : C := (.seq (.reg rQ6X0 false [] [0,1,2]) (.seq (.reg rQ6X1 false [] [0,1,2]) (.seq (.reg rQ6X2 false [] [0,1,2]) (.seq (.reg rQ6X3 false [] [0,1,2]) (.seq (.reg rQ6X4 false [] [0,1,2]) (.seq (.reg rQ6X5 false [] [0,1,2,7]) (.seq (.blk 0 (.loop lQ6X0)) (.seq (.reg rQ6X16 false [] [6]) .ret))))))))
def qQ6 : AFn := ⟨86,3,[.t 6],cQ6⟩
/- cohesion/nodeset.Union$1 -/
def rQ7X0 : List O := [
 oo 4 <| .mv (.k (.bool false))]
def rQ7X1 : List O := [
 oo 4 <| .mv (.k (.bool true))]
def cQ7 : C := (.seq (.reg rQ7X0 false [] []) (.seq (.reg rQ7X1 false [] [4]) .ret))
def qQ7 : AFn := ⟨5,2,[.t 4],cQ7⟩
/- math/bits.Mul32 -/
def rQ8X0 : List O := [
 oo 4 <| .mv (.k (.int .u32 0)),
 oo 5 <| .mv (.k (.int .u32 0))]
def rQ8X1 : List O := [
 oo 7 <| .mv (.t 0),
 oo 8 <| .cvt .u64 (.t 7),
 oo 9 <| .mv (.t 1),
 oo 10 <| .cvt .u64 (.t 9),
 oo 11 <| .bin .mul (.t 8) (.t 10),
 oo 6 <| .mv (.t 11)]
def rQ8X2 : List O := [
 oo 12 <| .mv (.t 6),
 oo 13 <| .bin .shr (.t 12) (.k (.int .u64 32)),
 oo 14 <| .cvt .u32 (.t 13),
 oo 15 <| .mv (.t 6),
 oo 16 <| .cvt .u32 (.t 15),
 oo 4 <| .mv (.t 14),
 oo 5 <| .mv (.t 16)]
def cQ8 : C := (.seq (.reg rQ8X0 false [] [0,1]) (.seq (.reg rQ8X1 false [] [6]) (.seq (.reg rQ8X2 false [] [4,5]) .ret)))
def qQ8 : AFn := ⟨17,2,[.t 4,.t 5],cQ8⟩
/- math/bits.Mul64 -/
def rQ9X0 : List O := [
 oo 4 <| .mv (.k (.int .u64 0)),
 oo 5 <| .mv (.k (.int .u64 0))]
def rQ9X1 : List O := [
 oo 14 <| .mv (.t 0),
 oo 15 <| .bin .and (.t 14) (.k (.int .u64 4294967295)),
 oo 6 <| .mv (.t 15)]
def rQ9X2 : List O := [
 oo 16 <| .mv (.t 0),
 oo 17 <| .bin .shr (.t 16) (.k (.int .u64 32)),
 oo 7 <| .mv (.t 17)]
def rQ9X3 : List O := [
 oo 18 <| .mv (.t 1),
 oo 19 <| .bin .and (.t 18) (.k (.int .u64 4294967295)),
 oo 8 <| .mv (.t 19)]
def rQ9X4 : List O := [
 oo 20 <| .mv (.t 1),
 oo 21 <| .bin .shr (.t 20) (.k (.int .u64 32)),
 oo 9 <| .mv (.t 21)]
def rQ9X5 : List O := [
 oo 22 <| .mv (.t 6),
 oo 23 <| .mv (.t 8),
 oo 24 <| .bin .mul (.t 22) (.t 23),
 oo 10 <| .mv (.t 24)]
def rQ9X6 : List O := [
 oo 25 <| .mv (.t 7),
 oo 26 <| .mv (.t 8),
 oo 27 <| .bin .mul (.t 25) (.t 26),
 oo 28 <| .mv (.t 10),
 oo 29 <| .bin .shr (.t 28) (.k (.int .u64 32)),
 oo 30 <| .bin .add (.t 27) (.t 29),
 oo 11 <| .mv (.t 30)]
def rQ9X7 : List O := [
 oo 31 <| .mv (.t 11),
 oo 32 <| .bin .and (.t 31) (.k (.int .u64 4294967295)),
 oo 12 <| .mv (.t 32)]
def rQ9X8 : List O := [
 oo 33 <| .mv (.t 11),
 oo 34 <| .bin .shr (.t 33) (.k (.int .u64 32)),
 oo 13 <| .mv (.t 34)]
def rQ9X9 : List O := [
 oo 35 <| .mv (.t 12),
 oo 36 <| .mv (.t 6),
 oo 37 <| .mv (.t 9),
 oo 38 <| .bin .mul (.t 36) (.t 37),
 oo 39 <| .bin .add (.t 35) (.t 38),
 oo 12 <| .mv (.t 39)]
def rQ9X10 : List O := [
 oo 40 <| .mv (.t 7),
 oo 41 <| .mv (.t 9),
 oo 42 <| .bin .mul (.t 40) (.t 41),
 oo 43 <| .mv (.t 13),
 oo 44 <| .bin .add (.t 42) (.t 43),
 oo 45 <| .mv (.t 12),
 oo 46 <| .bin .shr (.t 45) (.k (.int .u64 32)),
 oo 47 <| .bin .add (.t 44) (.t 46),
 oo 4 <| .mv (.t 47)]
def rQ9X11 : List O := [
 oo 48 <| .mv (.t 0),
 oo 49 <| .mv (.t 1),
 oo 50 <| .bin .mul (.t 48) (.t 49),
 oo 5 <| .mv (.t 50)]
def cQ9 : C := (.seq (.reg rQ9X0 false [] [0,1]) (.seq (.reg rQ9X1 false [] [0,1,6]) (.seq (.reg rQ9X2 false [] [0,1,6,7]) (.seq (.reg rQ9X3 false [] [0,1,6,7,8]) (.seq (.reg rQ9X4 false [] [0,1,6,7,8,9]) (.seq (.reg rQ9X5 false [] [0,1,6,7,8,9,10]) (.seq (.reg rQ9X6 false [] [0,1,6,7,9,11]) (.seq (.reg rQ9X7 false [] [0,1,6,7,9,11,12]) (.seq (.reg rQ9X8 false [] [0,1,6,7,9,12,13]) (.seq (.reg rQ9X9 false [] [0,1,7,9,12,13]) (.seq (.reg rQ9X10 false [] [0,1,4]) (.seq (.reg rQ9X11 false [] [4,5]) .ret))))))))))))
def qQ9 : AFn := ⟨51,2,[.t 4,.t 5],cQ9⟩
/- cohesion/masks.Rows -/
def rQa0X0 : List O := [
 oo 1 <| .box (.t 0),
 oo 2 <| .mv (.k (.own 1 []))]
def rQa0X1 : List O := [
 oo 6 <| .fad 0 (.t 1),
 oo 7 <| .ld none (.t 6),
 oo 8 <| .max [(.t 7),(ki 0)],
 oo 9 <| .min [(.t 8),(ki 64)],
 oo 10 <| .mks 1 [(.int .u64 0)] (.t 9) (.t 9),
 oo 3 <| .mv (.t 10)]
def rQa0X2 : List O := [
 oo 11 <| .fad 1 (.t 1),
 oo 12 <| .ld none (.t 11),
 oo 13 <| .len (.t 12),
 oo 14 <| .mv (ki 0)]
def rQa0X3 : List O := [
 oo 15 <| .bin .lss (.t 14) (.t 13)]
def rQa0X4 : List O := [
 oo 16 <| .ixa 2 (.t 12) (.t 14),
 oo 17 <| .ld (some 2) (.t 16),
 oo 5 <| .new [(.int .i64 0),(.int .i64 0)],
 oz <| .st 2 (.t 5) (.t 17)]
def rQa0X5 : List O := [
 oo 18 <| .fad 0 (.t 5),
 oo 19 <| .ld none (.t 18),
 oo 20 <| .bin .geq (.t 19) (ki 0),
 oo 21 <| .mv (.t 20),
 ⟨(some 22),(some (21,true)),.fad 0 (.t 5)⟩,
 ⟨(some 23),(some (21,true)),.ld none (.t 22)⟩,
 ⟨(some 24),(some (21,true)),.fad 1 (.t 5)⟩,
 ⟨(some 25),(some (21,true)),.ld none (.t 24)⟩,
 ⟨(some 26),(some (21,true)),.bin .lss (.t 23) (.t 25)⟩,
 oo 27 <| .pick (.t 21) (.t 26) (.k (.bool false)),
 oo 28 <| .mv (.t 27),
 ⟨(some 29),(some (28,true)),.fad 1 (.t 5)⟩,
 ⟨(some 30),(some (28,true)),.ld none (.t 29)⟩,
 ⟨(some 31),(some (28,true)),.mv (.t 3)⟩,
 ⟨(some 32),(some (28,true)),.len (.t 31)⟩,
 ⟨(some 33),(some (28,true)),.bin .lss (.t 30) (.t 32)⟩,
 oo 34 <| .pick (.t 28) (.t 33) (.k (.bool false))]
def rQa0X6 : List O := [
 oo 35 <| .mv (.t 3),
 oo 36 <| .fad 0 (.t 5),
 oo 37 <| .ld none (.t 36),
 oo 38 <| .ixa 1 (.t 35) (.t 37),
 oo 39 <| .ld none (.t 38),
 oo 40 <| .fad 1 (.t 5),
 oo 41 <| .ld none (.t 40),
 oo 42 <| .bin .shl (.k (.int .u64 1)) (.t 41),
 oo 43 <| .bin .or (.t 39) (.t 42),
 oo 44 <| .ixa 1 (.t 35) (.t 37),
 oz <| .st 1 (.t 44) (.t 43)]
def rQa0X7 : List O := [
 oo 45 <| .mv (.t 3),
 oo 46 <| .fad 1 (.t 5),
 oo 47 <| .ld none (.t 46),
 oo 48 <| .ixa 1 (.t 45) (.t 47),
 oo 49 <| .ld none (.t 48),
 oo 50 <| .fad 0 (.t 5),
 oo 51 <| .ld none (.t 50),
 oo 52 <| .bin .shl (.k (.int .u64 1)) (.t 51),
 oo 53 <| .bin .or (.t 49) (.t 52),
 oo 54 <| .ixa 1 (.t 45) (.t 47),
 oz <| .st 1 (.t 54) (.t 53)]
def rQa0X8 : List O := [
 oo 55 <| .bin .add (.t 14) (ki 1),
 oo 14 <| .mv (.t 55)]
def lQa0X0 : C := (.seq (.reg rQa0X3 false [] [3,12,13,14,15]) (.seq (.cond (.t 15) .skip (.exit 0)) (.seq (.blk 1 (.seq (.reg rQa0X4 false [] [3,5,12,13,14]) (.seq (.reg rQa0X5 false [] [3,5,12,13,14,34]) (.cond (.t 34) (.seq (.reg rQa0X6 true [(8,8),(9,9),(10,10),(0,2),(2,5),(4,5),(0,6),(1,6),(2,6),(3,6),(4,6),(2,7),(4,7)] [3,5,12,13,14]) (.reg rQa0X7 true [(8,8),(9,9),(10,10),(0,2),(2,5),(4,5),(0,6),(1,6),(2,6),(3,6),(4,6),(2,7),(4,7)] [3,12,13,14])) .skip)))) (.reg rQa0X8 false [] [3,12,13,14]))))
def rQa0X9 : List O := [
 oo 56 <| .mv (.t 3),
 oo 2 <| .mv (.t 56)]
def cQa0 : C := (.seq (.reg rQa0X0 false [] [1]) (.seq (.reg rQa0X1 false [] [1,3]) (.seq (.seq (.reg rQa0X2 false [] [3,12,13,14]) (.blk 0 (.loop lQa0X0))) (.seq (.reg rQa0X9 false [] [2]) .ret))))
def qQa0 : AFn := ⟨57,1,[.t 2],cQa0⟩
/- cohesion/masks.Count -/
def rQa1X0 : List O := [
 oo 2 <| .mv (ki 0)]
def rQa1X1 : List O := [
 oo 3 <| .mv (.t 0),
 oo 4 <| .call nQ1 [(.t 3)],
 oo 2 <| .mv (.t 4)]
def cQa1 : C := (.seq (.reg rQa1X0 false [] [0]) (.seq (.reg rQa1X1 false [] [2]) .ret))
def qQa1 : AFn := ⟨5,1,[.t 2],cQa1⟩
/- cohesion/masks.Bit -/
def rQa2X0 : List O := [
 oo 2 <| .mv (.k (.int .u64 0))]
def rQa2X1 : List O := [
 oo 3 <| .mv (.t 0),
 oo 4 <| .bin .lss (.t 3) (ki 0),
 oo 5 <| .mv (.t 4),
 ⟨(some 6),(some (5,false)),.mv (.t 0)⟩,
 ⟨(some 7),(some (5,false)),.bin .geq (.t 6) (ki 64)⟩,
 oo 8 <| .pick (.t 5) (.k (.bool true)) (.t 7)]
def rQa2X2 : List O := [
 oo 2 <| .mv (.k (.int .u64 0))]
def rQa2X3 : List O := [
 oo 9 <| .mv (.t 0),
 oo 10 <| .bin .shl (.k (.int .u64 1)) (.t 9),
 oo 2 <| .mv (.t 10)]
def cQa2 : C := (.seq (.reg rQa2X0 false [] [0]) (.seq (.seq (.reg rQa2X1 false [] [0,8]) (.cond (.t 8) (.seq (.reg rQa2X2 false [] [2]) .ret) .skip)) (.seq (.reg rQa2X3 false [] [2]) .ret)))
def qQa2 : AFn := ⟨11,1,[.t 2],cQa2⟩
/- cohesion/masks.All -/
def rQa3X0 : List O := [
 oo 2 <| .mv (.k (.int .u64 0))]
def rQa3X1 : List O := [
 oo 4 <| .mv (.t 0),
 oo 5 <| .bin .leq (.t 4) (ki 0),
 oo 3 <| .mv (.t 5)]
def rQa3X2 : List O := [
 oo 2 <| .mv (.k (.int .u64 0))]
def rQa3X3 : List O := [
 oo 7 <| .mv (.t 0),
 oo 8 <| .bin .geq (.t 7) (ki 64),
 oo 6 <| .mv (.t 8)]
def rQa3X4 : List O := [
 oo 2 <| .mv (.k (.int .u64 18446744073709551615))]
def rQa3X5 : List O := [
 oo 9 <| .mv (.t 0),
 oo 10 <| .bin .shl (.k (.int .u64 1)) (.t 9),
 oo 11 <| .bin .sub (.t 10) (.k (.int .u64 1)),
 oo 2 <| .mv (.t 11)]
def cQa3 : C := (.seq (.reg rQa3X0 false [] [0]) (.seq (.blk 0 (.seq (.reg rQa3X1 false [] [0,3]) (.cond (.t 3) (.seq (.reg rQa3X2 false [] [2]) .ret) (.seq (.reg rQa3X3 false [] [0,6]) (.cond (.t 6) (.seq (.reg rQa3X4 false [] [2]) .ret) .skip))))) (.seq (.reg rQa3X5 false [] [2]) .ret)))
def qQa3 : AFn := ⟨12,1,[.t 2],cQa3⟩
/- cohesion/masks.Least -/
def rQa4X0 : List O := [
 oo 2 <| .mv (ki 0)]
def rQa4X1 : List O := [
 oo 3 <| .mv (.t 0),
 oo 4 <| .call nQO [(.t 3)],
 oo 2 <| .mv (.t 4)]
def cQa4 : C := (.seq (.reg rQa4X0 false [] [0]) (.seq (.reg rQa4X1 false [] [2]) .ret))
def qQa4 : AFn := ⟨5,1,[.t 2],cQa4⟩
/- cmp.isNaN[int] -/
def rQa5X0 : List O := [
 oo 2 <| .mv (.k (.bool false))]
def rQa5X1 : List O := [
 oo 3 <| .mv (.t 0),
 oo 4 <| .mv (.t 0),
 oo 5 <| .bin .neq (.t 3) (.t 4),
 oo 2 <| .mv (.t 5)]
def cQa5 : C := (.seq (.reg rQa5X0 false [] [0]) (.seq (.reg rQa5X1 false [] [2]) .ret))
def qQa5 : AFn := ⟨6,1,[.t 2],cQa5⟩
/- slices.Clone[[]int,int] -/
def rQa6X0 : List O := [
 oo 2 <| .mv (.k (.own 1 []))]
def rQa6X1 : List O := [
 oo 3 <| .mv (.t 0),
 oo 4 <| .eq false .nsl (.t 3) (.k (.own 1 []))]
def rQa6X2 : List O := [
 oo 2 <| .mv (.k (.own 1 []))]
def rQa6X3 : List O := [
 oo 5 <| .bslice 1 0 [(.int .i64 0)] [],
 oo 6 <| .mv (.t 0),
 oo 7 <| .app 1 (.t 5) (.t 6),
 oo 2 <| .mv (.t 7)]
def cQa6 : C := (.seq (.reg rQa6X0 false [] [0]) (.seq (.seq (.reg rQa6X1 false [] [0,4]) (.cond (.t 4) (.seq (.reg rQa6X2 false [] [2]) .ret) .skip)) (.seq (.reg rQa6X3 false [] [2]) .ret)))
def qQa6 : AFn := ⟨8,1,[.t 2],cQa6⟩
/- slices.Sort[[]int,int] -/
def rQa7X0 : List O := [
 oo 3 <| .mv (.t 0),
 oo 4 <| .len (.t 3),
 oo 2 <| .mv (.t 4)]
def rQa7X1 : List O := [
 oo 5 <| .mv (.t 0),
 oo 6 <| .mv (.t 2),
 oo 7 <| .mv (.t 2),
 oo 8 <| .cvt .u64 (.t 7),
 oo 9 <| .call 92 [(.t 8)],
 oo 10 <| .call 91 [(.t 5),(ki 0),(.t 6),(.t 9)]]
def cQa7 : C := (.seq (.reg rQa7X0 false [] [0,2]) (.reg rQa7X1 false [] []))
def qQa7 : AFn := ⟨11,1,[],cQa7⟩
/- slices.Compact[[]int,int] -/
def rQa8X0 : List O := [
 oo 2 <| .mv (.k (.own 1 []))]
def rQa8X1 : List O := [
 oo 6 <| .mv (.t 0),
 oo 7 <| .len (.t 6),
 oo 8 <| .bin .lss (.t 7) (ki 2)]
def rQa8X2 : List O := [
 oo 9 <| .mv (.t 0),
 oo 2 <| .mv (.t 9)]
def rQa8X3 : List O := [
 oo 3 <| .mv (ki 1)]
def rQa8X4 : List O := [
 oo 10 <| .mv (.t 3),
 oo 11 <| .mv (.t 0),
 oo 12 <| .len (.t 11),
 oo 13 <| .bin .lss (.t 10) (.t 12)]
def rQa8X5 : List O := [
 oo 16 <| .mv (.t 0),
 oo 17 <| .mv (.t 3),
 oo 18 <| .ixa 1 (.t 16) (.t 17),
 oo 19 <| .ld none (.t 18),
 oo 20 <| .mv (.t 0),
 oo 21 <| .mv (.t 3),
 oo 22 <| .bin .sub (.t 21) (ki 1),
 oo 23 <| .ixa 1 (.t 20) (.t 22),
 oo 24 <| .ld none (.t 23),
 oo 25 <| .bin .eql (.t 19) (.t 24)]
def rQa8X6 : List O := [
 oo 26 <| .mv (.t 0),
 oo 27 <| .mv (.t 3),
 oo 28 <| .slc 1 (.t 26) (some (.t 27)) none,
 oo 4 <| .mv (.t 28)]
def rQa8X7 : List O := [
 oo 5 <| .mv (ki 1)]
def rQa8X8 : List O := [
 oo 29 <| .mv (.t 5),
 oo 30 <| .mv (.t 4),
 oo 31 <| .len (.t 30),
 oo 32 <| .bin .lss (.t 29) (.t 31)]
def rQa8X9 : List O := [
 oo 35 <| .mv (.t 4),
 oo 36 <| .mv (.t 5),
 oo 37 <| .ixa 1 (.t 35) (.t 36),
 oo 38 <| .ld none (.t 37),
 oo 39 <| .mv (.t 4),
 oo 40 <| .mv (.t 5),
 oo 41 <| .bin .sub (.t 40) (ki 1),
 oo 42 <| .ixa 1 (.t 39) (.t 41),
 oo 43 <| .ld none (.t 42),
 oo 44 <| .bin .neq (.t 38) (.t 43)]
def rQa8X10 : List O := [
 oo 45 <| .mv (.t 0),
 oo 46 <| .mv (.t 3),
 oo 47 <| .mv (.t 4),
 oo 48 <| .mv (.t 5),
 oo 49 <| .ixa 1 (.t 47) (.t 48),
 oo 50 <| .ld none (.t 49),
 oo 51 <| .ixa 1 (.t 45) (.t 46),
 oz <| .st 1 (.t 51) (.t 50)]
def rQa8X11 : List O := [
 oo 52 <| .mv (.t 3),
 oo 53 <| .bin .add (.t 52) (ki 1),
 oo 3 <| .mv (.t 53)]
def rQa8X12 : List O := [
 oo 33 <| .mv (.t 5),
 oo 34 <| .bin .add (.t 33) (ki 1),
 oo 5 <| .mv (.t 34)]
def lQa8X0 : C := (.seq (.seq (.reg rQa8X8 false [] [0,3,4,5,32]) (.cond (.t 32) .skip (.exit 2))) (.seq (.blk 3 (.seq (.reg rQa8X9 true [(9,9),(3,4),(3,5),(3,6),(3,7),(0,8),(1,8),(2,8),(3,8)] [0,3,4,5,44]) (.cond (.t 44) (.seq (.reg rQa8X10 false [] [0,3,4,5]) (.reg rQa8X11 false [] [0,3,4,5])) .skip))) (.reg rQa8X12 false [] [0,3,4,5])))
def rQa8X13 : List O := [
 oo 54 <| .mv (.t 0),
 oo 55 <| .mv (.t 3),
 oo 56 <| .slc 1 (.t 54) (some (.t 55)) none,
 oz <| .clr 1 [(.int .i64 0)] (.t 56)]
def rQa8X14 : List O := [
 oo 57 <| .mv (.t 0),
 oo 58 <| .mv (.t 3),
 oo 59 <| .slc 1 (.t 57) none (some (.t 58)),
 oo 2 <| .mv (.t 59)]
def rQa8X15 : List O := [
 oo 14 <| .mv (.t 3),
 oo 15 <| .bin .add (.t 14) (ki 1),
 oo 3 <| .mv (.t 15)]
def lQa8X1 : C := (.seq (.seq (.reg rQa8X4 false [] [0,3,13]) (.cond (.t 13) .skip (.exit 0))) (.seq (.blk 1 (.seq (.reg rQa8X5 true [(9,9),(3,4),(3,5),(3,6),(3,7),(0,8),(1,8),(2,8),(3,8)] [0,3,25]) (.cond (.t 25) (.seq (.reg rQa8X6 false [] [0,3,4]) (.seq (.seq (.reg rQa8X7 false [] [0,3,4,5]) (.blk 2 (.loop lQa8X0))) (.seq (.reg rQa8X13 false [] [0,3]) (.seq (.reg rQa8X14 false [] [2]) .ret)))) .skip))) (.reg rQa8X15 false [] [0,3])))
def rQa8X16 : List O := [
 oo 60 <| .mv (.t 0),
 oo 2 <| .mv (.t 60)]
def cQa8 : C := (.seq (.reg rQa8X0 false [] [0]) (.seq (.seq (.reg rQa8X1 false [] [0,8]) (.cond (.t 8) (.seq (.reg rQa8X2 false [] [2]) .ret) .skip)) (.seq (.seq (.reg rQa8X3 false [] [0,3]) (.blk 0 (.loop lQa8X1))) (.seq (.reg rQa8X16 false [] [2]) .ret))))
def qQa8 : AFn := ⟨61,1,[.t 2],cQa8⟩
abbrev Md := Go.Bm.Md
abbrev Cfg := Go.Bm.Cfg
def look : List (Nat × Md × AFn) -> Nat -> Option (Md × AFn)
 | [],_ => none
 | (j,m,q) :: r,i => if i = j then some (m,q) else look r i
def fns : List (Nat × Md × AFn) := [
 (nQa,⟨false,false,true⟩,qQa),
 (nQb,⟨false,false,true⟩,qQb),
 (nQc,⟨false,false,true⟩,qQc),
 (nQd,⟨true,false,false⟩,qQd),
 (nQe,⟨true,false,false⟩,qQe),
 (nQf,⟨true,false,false⟩,qQf),
 (nQg,⟨false,false,false⟩,qQg),
 (nQh,⟨false,false,false⟩,qQh),
 (nQi,⟨false,false,true⟩,qQi),
 (nQj,⟨false,false,false⟩,qQj),
 (nQk,⟨false,false,false⟩,qQk),
 (nQl,⟨true,false,false⟩,qQl),
 (nQm,⟨false,false,false⟩,qQm),
 (nQn,⟨false,false,false⟩,qQn),
 (nQo,⟨false,false,true⟩,qQo),
 (nQp,⟨false,false,false⟩,qQp),
 (nQq,⟨false,false,true⟩,qQq),
 (nQr,⟨false,false,false⟩,qQr),
 (nQs,⟨false,false,true⟩,qQs),
 (nQt,⟨false,false,true⟩,qQt),
 (nQu,⟨false,false,true⟩,qQu),
 (nQv,⟨false,false,true⟩,qQv),
 (nQw,⟨false,false,false⟩,qQw),
 (nQx,⟨false,false,false⟩,qQx),
 (nQy,⟨false,true,true⟩,qQy),
 (nQz,⟨false,false,false⟩,qQz),
 (nQA,⟨false,false,true⟩,qQA),
 (nQB,⟨false,false,false⟩,qQB),
 (nQC,⟨true,true,false⟩,qQC),
 (nQD,⟨false,false,true⟩,qQD),
 (nQE,⟨false,false,true⟩,qQE),
 (nQF,⟨false,false,true⟩,qQF),
 (nQG,⟨false,false,true⟩,qQG),
 (nQH,⟨false,false,false⟩,qQH),
 (nQI,⟨true,false,false⟩,qQI),
 (nQJ,⟨true,false,false⟩,qQJ),
 (nQK,⟨true,false,false⟩,qQK),
 (nQL,⟨true,false,false⟩,qQL),
 (nQM,⟨false,false,false⟩,qQM),
 (nQN,⟨false,false,true⟩,qQN),
 (nQO,⟨false,false,true⟩,qQO),
 (nQP,⟨false,false,false⟩,qQP),
 (nQQ,⟨false,false,true⟩,qQQ),
 (nQR,⟨false,false,true⟩,qQR),
 (nQS,⟨false,false,false⟩,qQS),
 (nQT,⟨false,false,true⟩,qQT),
 (nQU,⟨false,false,false⟩,qQU),
 (nQV,⟨false,false,true⟩,qQV),
 (nQW,⟨true,true,false⟩,qQW),
 (nQX,⟨false,false,true⟩,qQX),
 (nQY,⟨true,false,false⟩,qQY),
 (nQZ,⟨true,false,false⟩,qQZ),
 (nQ0,⟨true,false,false⟩,qQ0),
 (nQ1,⟨false,false,true⟩,qQ1),
 (nQ2,⟨false,false,true⟩,qQ2),
 (nQ3,⟨false,false,false⟩,qQ3),
 (nQ4,⟨false,false,true⟩,qQ4),
 (nQ5,⟨false,false,true⟩,qQ5),
 (nQ6,⟨false,false,false⟩,qQ6),
 (nQ7,⟨false,false,true⟩,qQ7),
 (nQ8,⟨false,false,true⟩,qQ8),
 (nQ9,⟨false,false,true⟩,qQ9),
 (nQa0,⟨false,false,false⟩,qQa0),
 (nQa1,⟨false,false,true⟩,qQa1),
 (nQa2,⟨false,false,true⟩,qQa2),
 (nQa3,⟨false,false,true⟩,qQa3),
 (nQa4,⟨false,false,true⟩,qQa4),
 (nQa5,⟨false,false,true⟩,qQa5),
 (nQa6,⟨false,true,true⟩,qQa6),
 (nQa7,⟨false,false,true⟩,qQa7),
 (nQa8,⟨false,false,false⟩,qQa8)]
def nQa9 : Nat := 0
def tabZ : List Int := [0,1,56,2,57,49,28,3,61,58,42,50,38,29,17,4,62,47,59,36,45,43,51,22,53,39,33,30,24,18,12,5,63,55,48,27,60,41,37,16,46,35,44,21,52,32,23,11,54,26,40,15,34,20,31,10,25,14,19,9,13,8,7,6]
def tabA : List AV := tabZ.map (AV.int .u8)
def cfg : Cfg := ⟨look fns,fun i => if i = nQa9 then tabA else [],fun _ => none,fun _ => none,fun _ => none,fun _ => false,fun _ => false,fun _ => none⟩
theorem kQa : chkFB Go.Proofs.Tryd.prog Go.Proofs.Tryd.f3 qQa = true := by kernel_rfl
theorem kQb : chkFB Go.Proofs.Tryd.prog Go.Proofs.Tryd.f6 qQb = true := by kernel_rfl
theorem kQc : chkFB Go.Proofs.Tryd.prog Go.Proofs.Tryd.f7 qQc = true := by kernel_rfl
theorem kQd : chkFB Go.Proofs.Tryd.prog Go.Proofs.Tryd.f8 qQd = true := by kernel_rfl
theorem kQe : chkFB Go.Proofs.Tryd.prog Go.Proofs.Tryd.f9 qQe = true := by kernel_rfl
theorem kQf : chkFB Go.Proofs.Tryd.prog Go.Proofs.Tryd.f10 qQf = true := by kernel_rfl
theorem kQg : chkFB Go.Proofs.Tryd.prog Go.Proofs.Tryd.f11 qQg = true := by kernel_rfl
theorem kQh : chkFB Go.Proofs.Tryd.prog Go.Proofs.Tryd.f12 qQh = true := by kernel_rfl
theorem kQi : chkFB Go.Proofs.Tryd.prog Go.Proofs.Tryd.f13 qQi = true := by kernel_rfl
theorem kQj : chkFB Go.Proofs.Tryd.prog Go.Proofs.Tryd.f14 qQj = true := by kernel_rfl
theorem kQk : chkFB Go.Proofs.Tryd.prog Go.Proofs.Tryd.f15 qQk = true := by kernel_rfl
theorem kQl : chkFB Go.Proofs.Tryd.prog Go.Proofs.Tryd.f16 qQl = true := by kernel_rfl
theorem kQm : chkFB Go.Proofs.Tryd.prog Go.Proofs.Tryd.f17 qQm = true := by kernel_rfl
theorem kQn : chkFB Go.Proofs.Tryd.prog Go.Proofs.Tryd.f18 qQn = true := by kernel_rfl
theorem kQo : chkFB Go.Proofs.Tryd.prog Go.Proofs.Tryd.f19 qQo = true := by kernel_rfl
theorem kQp : chkFB Go.Proofs.Tryd.prog Go.Proofs.Tryd.f20 qQp = true := by kernel_rfl
theorem kQq : chkFB Go.Proofs.Tryd.prog Go.Proofs.Tryd.f25 qQq = true := by kernel_rfl
theorem kQr : chkFB Go.Proofs.Tryd.prog Go.Proofs.Tryd.f28 qQr = true := by kernel_rfl
theorem kQs : chkFB Go.Proofs.Tryd.prog Go.Proofs.Tryd.f29 qQs = true := by kernel_rfl
theorem kQt : chkFB Go.Proofs.Tryd.prog Go.Proofs.Tryd.f30 qQt = true := by kernel_rfl
theorem kQu : chkFB Go.Proofs.Tryd.prog Go.Proofs.Tryd.f31 qQu = true := by kernel_rfl
theorem kQv : chkFB Go.Proofs.Tryd.prog Go.Proofs.Tryd.f32 qQv = true := by kernel_rfl
theorem kQw : chkFB Go.Proofs.Tryd.prog Go.Proofs.Tryd.f33 qQw = true := by kernel_rfl
theorem kQx : chkFB Go.Proofs.Tryd.prog Go.Proofs.Tryd.f34 qQx = true := by kernel_rfl
theorem kQy : chkFB Go.Proofs.Tryd.prog Go.Proofs.Tryd.f35 qQy = true := by kernel_rfl
theorem kQz : chkFB Go.Proofs.Tryd.prog Go.Proofs.Tryd.f36 qQz = true := by kernel_rfl
theorem kQA : chkFB Go.Proofs.Tryd.prog Go.Proofs.Tryd.f37 qQA = true := by kernel_rfl
theorem kQB : chkFB Go.Proofs.Tryd.prog Go.Proofs.Tryd.f38 qQB = true := by kernel_rfl
theorem kQC : chkFB Go.Proofs.Tryd.prog Go.Proofs.Tryd.f39 qQC = true := by kernel_rfl
theorem kQD : chkFB Go.Proofs.Tryd.prog Go.Proofs.Tryd.f40 qQD = true := by kernel_rfl
theorem kQE : chkFB Go.Proofs.Tryd.prog Go.Proofs.Tryd.f41 qQE = true := by kernel_rfl
theorem kQF : chkFB Go.Proofs.Tryd.prog Go.Proofs.Tryd.f42 qQF = true := by kernel_rfl
theorem kQG : chkFB Go.Proofs.Tryd.prog Go.Proofs.Tryd.f43 qQG = true := by kernel_rfl
theorem kQH : chkFB Go.Proofs.Tryd.prog Go.Proofs.Tryd.f44 qQH = true := by kernel_rfl
theorem kQI : chkFB Go.Proofs.Tryd.prog Go.Proofs.Tryd.f45 qQI = true := by kernel_rfl
theorem kQJ : chkFB Go.Proofs.Tryd.prog Go.Proofs.Tryd.f46 qQJ = true := by kernel_rfl
theorem kQK : chkFB Go.Proofs.Tryd.prog Go.Proofs.Tryd.f47 qQK = true := by kernel_rfl
theorem kQL : chkFB Go.Proofs.Tryd.prog Go.Proofs.Tryd.f48 qQL = true := by kernel_rfl
theorem kQM : chkFB Go.Proofs.Tryd.prog Go.Proofs.Tryd.f49 qQM = true := by kernel_rfl
theorem kQN : chkFB Go.Proofs.Tryd.prog Go.Proofs.Tryd.f50 qQN = true := by kernel_rfl
theorem kQO : chkFB Go.Proofs.Tryd.prog Go.Proofs.Tryd.f51 qQO = true := by kernel_rfl
theorem kQP : chkFB Go.Proofs.Tryd.prog Go.Proofs.Tryd.f52 qQP = true := by kernel_rfl
theorem kQQ : chkFB Go.Proofs.Tryd.prog Go.Proofs.Tryd.f56 qQQ = true := by kernel_rfl
theorem kQR : chkFB Go.Proofs.Tryd.prog Go.Proofs.Tryd.f57 qQR = true := by kernel_rfl
theorem kQS : chkFB Go.Proofs.Tryd.prog Go.Proofs.Tryd.f58 qQS = true := by kernel_rfl
theorem kQT : chkFB Go.Proofs.Tryd.prog Go.Proofs.Tryd.f59 qQT = true := by kernel_rfl
theorem kQU : chkFB Go.Proofs.Tryd.prog Go.Proofs.Tryd.f60 qQU = true := by kernel_rfl
theorem kQV : chkFB Go.Proofs.Tryd.prog Go.Proofs.Tryd.f61 qQV = true := by kernel_rfl
theorem kQW : chkFB Go.Proofs.Tryd.prog Go.Proofs.Tryd.f62 qQW = true := by kernel_rfl
theorem kQX : chkFB Go.Proofs.Tryd.prog Go.Proofs.Tryd.f63 qQX = true := by kernel_rfl
theorem kQY : chkFB Go.Proofs.Tryd.prog Go.Proofs.Tryd.f64 qQY = true := by kernel_rfl
theorem kQZ : chkFB Go.Proofs.Tryd.prog Go.Proofs.Tryd.f65 qQZ = true := by kernel_rfl
theorem kQ0 : chkFB Go.Proofs.Tryd.prog Go.Proofs.Tryd.f66 qQ0 = true := by kernel_rfl
theorem kQ1 : chkFB Go.Proofs.Tryd.prog Go.Proofs.Tryd.f67 qQ1 = true := by kernel_rfl
theorem kQ2 : chkFB Go.Proofs.Tryd.prog Go.Proofs.Tryd.f68 qQ2 = true := by kernel_rfl
theorem kQ3 : chkFB Go.Proofs.Tryd.prog Go.Proofs.Tryd.f73 qQ3 = true := by kernel_rfl
theorem kQ4 : chkFB Go.Proofs.Tryd.prog Go.Proofs.Tryd.f74 qQ4 = true := by kernel_rfl
theorem kQ5 : chkFB Go.Proofs.Tryd.prog Go.Proofs.Tryd.f75 qQ5 = true := by kernel_rfl
theorem kQ6 : chkFB Go.Proofs.Tryd.prog Go.Proofs.Tryd.f76 qQ6 = true := by kernel_rfl
theorem kQ7 : chkFB Go.Proofs.Tryd.prog Go.Proofs.Tryd.f77 qQ7 = true := by kernel_rfl
theorem kQ8 : chkFB Go.Proofs.Tryd.prog Go.Proofs.Tryd.f78 qQ8 = true := by kernel_rfl
theorem kQ9 : chkFB Go.Proofs.Tryd.prog Go.Proofs.Tryd.f79 qQ9 = true := by kernel_rfl
theorem kQa0 : chkFB Go.Proofs.Tryd.prog Go.Proofs.Tryd.f80 qQa0 = true := by kernel_rfl
theorem kQa1 : chkFB Go.Proofs.Tryd.prog Go.Proofs.Tryd.f81 qQa1 = true := by kernel_rfl
theorem kQa2 : chkFB Go.Proofs.Tryd.prog Go.Proofs.Tryd.f82 qQa2 = true := by kernel_rfl
theorem kQa3 : chkFB Go.Proofs.Tryd.prog Go.Proofs.Tryd.f83 qQa3 = true := by kernel_rfl
theorem kQa4 : chkFB Go.Proofs.Tryd.prog Go.Proofs.Tryd.f84 qQa4 = true := by kernel_rfl
theorem kQa5 : chkFB Go.Proofs.Tryd.prog Go.Proofs.Tryd.f87 qQa5 = true := by kernel_rfl
theorem kQa6 : chkFB Go.Proofs.Tryd.prog Go.Proofs.Tryd.f88 qQa6 = true := by kernel_rfl
theorem kQa7 : chkFB Go.Proofs.Tryd.prog Go.Proofs.Tryd.f89 qQa7 = true := by kernel_rfl
theorem kQa8 : chkFB Go.Proofs.Tryd.prog Go.Proofs.Tryd.f90 qQa8 = true := by kernel_rfl
theorem look_mem : ∀ {l : List (Nat × Md × AFn)} {f : Nat} {m : Md} {q : AFn},look l f = some (m,q) -> (f,m,q) ∈ l
 | [],f,m,q,h => by simp [look] at h
 | (j,m',q') :: r,f,m,q,h => by
   unfold look at h;split at h
   ·rename_i he; subst he; simp at h; obtain ⟨rfl,rfl⟩ := h; simp
   ·exact List.mem_cons_of_mem _ (look_mem h)
def Good (p : Nat × Md × AFn) : Prop := ∃ fn,Go.Proofs.Tryd.prog.funcs[p.1]? = some fn /\ chkFB Go.Proofs.Tryd.prog fn p.2.2 = true
def All (G : Nat × Md × AFn -> Prop) : List (Nat × Md × AFn) -> Prop
 | [] => True
 | p :: r => G p /\ All G r
theorem All.get {G : Nat × Md × AFn -> Prop} : ∀ {l : List (Nat × Md × AFn)},All G l -> ∀ p ∈ l,G p
 | [],_,p,h => by simp at h
 | q :: r,h,p,hp => by
   rcases List.mem_cons.1 hp with e | e
   ·subst e; exact h.1
   ·exact All.get h.2 p e
theorem allGood : All Good fns := ⟨⟨_,Go.Proofs.Tryd.func3,kQa⟩,⟨_,Go.Proofs.Tryd.func6,kQb⟩,⟨_,Go.Proofs.Tryd.func7,kQc⟩,⟨_,Go.Proofs.Tryd.func8,kQd⟩,⟨_,Go.Proofs.Tryd.func9,kQe⟩,⟨_,Go.Proofs.Tryd.func10,kQf⟩,⟨_,Go.Proofs.Tryd.func11,kQg⟩,⟨_,Go.Proofs.Tryd.func12,kQh⟩,⟨_,Go.Proofs.Tryd.func13,kQi⟩,⟨_,Go.Proofs.Tryd.func14,kQj⟩,⟨_,Go.Proofs.Tryd.func15,kQk⟩,⟨_,Go.Proofs.Tryd.func16,kQl⟩,⟨_,Go.Proofs.Tryd.func17,kQm⟩,⟨_,Go.Proofs.Tryd.func18,kQn⟩,⟨_,Go.Proofs.Tryd.func19,kQo⟩,⟨_,Go.Proofs.Tryd.func20,kQp⟩,⟨_,Go.Proofs.Tryd.func25,kQq⟩,⟨_,Go.Proofs.Tryd.func28,kQr⟩,⟨_,Go.Proofs.Tryd.func29,kQs⟩,⟨_,Go.Proofs.Tryd.func30,kQt⟩,⟨_,Go.Proofs.Tryd.func31,kQu⟩,⟨_,Go.Proofs.Tryd.func32,kQv⟩,⟨_,Go.Proofs.Tryd.func33,kQw⟩,⟨_,Go.Proofs.Tryd.func34,kQx⟩,⟨_,Go.Proofs.Tryd.func35,kQy⟩,⟨_,Go.Proofs.Tryd.func36,kQz⟩,⟨_,Go.Proofs.Tryd.func37,kQA⟩,⟨_,Go.Proofs.Tryd.func38,kQB⟩,⟨_,Go.Proofs.Tryd.func39,kQC⟩,⟨_,Go.Proofs.Tryd.func40,kQD⟩,⟨_,Go.Proofs.Tryd.func41,kQE⟩,⟨_,Go.Proofs.Tryd.func42,kQF⟩,⟨_,Go.Proofs.Tryd.func43,kQG⟩,⟨_,Go.Proofs.Tryd.func44,kQH⟩,⟨_,Go.Proofs.Tryd.func45,kQI⟩,⟨_,Go.Proofs.Tryd.func46,kQJ⟩,⟨_,Go.Proofs.Tryd.func47,kQK⟩,⟨_,Go.Proofs.Tryd.func48,kQL⟩,⟨_,Go.Proofs.Tryd.func49,kQM⟩,⟨_,Go.Proofs.Tryd.func50,kQN⟩,⟨_,Go.Proofs.Tryd.func51,kQO⟩,⟨_,Go.Proofs.Tryd.func52,kQP⟩,⟨_,Go.Proofs.Tryd.func56,kQQ⟩,⟨_,Go.Proofs.Tryd.func57,kQR⟩,⟨_,Go.Proofs.Tryd.func58,kQS⟩,⟨_,Go.Proofs.Tryd.func59,kQT⟩,⟨_,Go.Proofs.Tryd.func60,kQU⟩,⟨_,Go.Proofs.Tryd.func61,kQV⟩,⟨_,Go.Proofs.Tryd.func62,kQW⟩,⟨_,Go.Proofs.Tryd.func63,kQX⟩,⟨_,Go.Proofs.Tryd.func64,kQY⟩,⟨_,Go.Proofs.Tryd.func65,kQZ⟩,⟨_,Go.Proofs.Tryd.func66,kQ0⟩,⟨_,Go.Proofs.Tryd.func67,kQ1⟩,⟨_,Go.Proofs.Tryd.func68,kQ2⟩,⟨_,Go.Proofs.Tryd.func73,kQ3⟩,⟨_,Go.Proofs.Tryd.func74,kQ4⟩,⟨_,Go.Proofs.Tryd.func75,kQ5⟩,⟨_,Go.Proofs.Tryd.func76,kQ6⟩,⟨_,Go.Proofs.Tryd.func77,kQ7⟩,⟨_,Go.Proofs.Tryd.func78,kQ8⟩,⟨_,Go.Proofs.Tryd.func79,kQ9⟩,⟨_,Go.Proofs.Tryd.func80,kQa0⟩,⟨_,Go.Proofs.Tryd.func81,kQa1⟩,⟨_,Go.Proofs.Tryd.func82,kQa2⟩,⟨_,Go.Proofs.Tryd.func83,kQa3⟩,⟨_,Go.Proofs.Tryd.func84,kQa4⟩,⟨_,Go.Proofs.Tryd.func87,kQa5⟩,⟨_,Go.Proofs.Tryd.func88,kQa6⟩,⟨_,Go.Proofs.Tryd.func89,kQa7⟩,⟨_,Go.Proofs.Tryd.func90,kQa8⟩,trivial⟩
theorem cfgOK : CfgOKB Go.Proofs.Tryd.prog cfg := ⟨by kernel_rfl,fun f m q h => allGood.get _ (look_mem h)⟩
end Go.BmP
