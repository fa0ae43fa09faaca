/- The compact code of the functions, printed by program off the translation. -/
import Derived.Test.YtholnjkicdifdaaDoorChecked
import Derived.Test.YtholnjkicdifdaaDoorBmA
import Derived.KernelRfl
set_option maxRecDepth 100000
namespace Go.BmP
open Go.Am Go.Bm
abbrev oo (d : Nat) (x : Kd) : O := ⟨some d,none,x⟩
abbrev oz (x : Kd) : O := ⟨none,none,x⟩
abbrev ki (n : Nat) : E := .k (.int .i64 n)
def nQa : Nat := 3
def nQb : Nat := 4
def nQc : Nat := 5
def nQd : Nat := 6
def nQe : Nat := 7
def nQf : Nat := 8
def nQg : Nat := 9
def nQh : Nat := 10
def nQi : Nat := 11
def nQj : Nat := 12
def nQk : Nat := 13
def nQl : Nat := 14
def nQm : Nat := 15
def nQn : Nat := 16
def nQo : Nat := 17
def nQp : Nat := 18
def nQq : Nat := 19
def nQr : Nat := 20
def nQs : Nat := 21
def nQt : Nat := 22
def nQu : Nat := 23
def nQv : Nat := 24
def nQw : Nat := 25
def nQx : Nat := 26
def nQy : Nat := 27
def nQz : Nat := 28
def nQA : Nat := 29
def nQB : Nat := 30
def nQC : Nat := 31
def nQD : Nat := 32
def nQE : Nat := 33
def nQF : Nat := 34
def nQG : Nat := 35
def nQH : Nat := 36
def nQI : Nat := 37
def nQJ : Nat := 38
def nQK : Nat := 39
def nQL : Nat := 40
def nQM : Nat := 41
def nQN : Nat := 42
def nQO : Nat := 43
def nQP : Nat := 44
def nQQ : Nat := 45
def nQR : Nat := 46
def nQS : Nat := 47
def nQT : Nat := 48
def nQU : Nat := 49
def nQV : Nat := 50
def nQW : Nat := 51
def nQX : Nat := 54
def nQY : Nat := 55
def nQZ : Nat := 56
def nQ0 : Nat := 57
def nQ1 : Nat := 58
def nQ2 : Nat := 59
def nQ3 : Nat := 71
/- cohesion/cohesionlaw24.CliquesAnswers -/
def rQaX0 : List O := [
 oo 7 <| .box (.t 2),
 oo 10 <| .mv (.k (.bool false))]
def rQaX1 : List O := [
 oo 33 <| .mv (.t 0),
 oo 34 <| .call nQb [(.t 33)],
 oo 35 <| .un .not (.t 34),
 oo 36 <| .mv (.t 35),
 ⟨(some 37),(some (36,false)),.mv (.t 1)⟩,
 ⟨(some 38),(some (36,false)),.len (.t 37)⟩,
 ⟨(some 39),(some (36,false)),.bin .gtr (.t 38) (ki 20)⟩,
 oo 40 <| .pick (.t 36) (.k (.bool true)) (.t 39),
 oo 41 <| .mv (.t 40),
 ⟨(some 42),(some (41,false)),.ld (some 2) (.t 7)⟩,
 ⟨(some 43),(some (41,false)),.call nQc [(.t 42),(ki 9)]⟩,
 ⟨(some 44),(some (41,false)),.un .not (.t 43)⟩,
 oo 45 <| .pick (.t 41) (.k (.bool true)) (.t 44),
 oo 46 <| .mv (.t 45),
 ⟨(some 47),(some (46,false)),.mv (.t 3)⟩,
 ⟨(some 48),(some (46,false)),.len (.t 47)⟩,
 ⟨(some 49),(some (46,false)),.bin .gtr (.t 48) (ki 40)⟩,
 oo 50 <| .pick (.t 46) (.k (.bool true)) (.t 49)]
def rQaX2 : List O := [
 oo 51 <| .call nQd [],
 oo 10 <| .mv (.t 51)]
def rQaX3 : List O := [
 oo 52 <| .mv (.t 0),
 oo 53 <| .call nQe [(.t 52)],
 oo 11 <| .mv (.t 53)]
def rQaX4 : List O := [
 oo 54 <| .mv (.t 11),
 oo 55 <| .call nQf [(.t 54),(ki 8)],
 oo 12 <| .new [(.int .i64 0),(.own 2 [])],
 oz <| .st 2 (.t 12) (.t 55)]
def rQaX5 : List O := [
 oo 56 <| .ld (some 2) (.t 12),
 oo 57 <| .ld (some 2) (.t 7),
 oo 58 <| .mv (.t 11),
 oo 59 <| .ld (some 2) (.t 12),
 oo 60 <| .call nQg [(.t 58),(.t 59)],
 oo 61 <| .bslice 2 3 [(.int .i64 0),(.own 2 [])] [(0,2,(.t 56)),(2,2,(.t 57)),(4,2,(.t 60))],
 oo 62 <| .len (.t 61),
 oo 63 <| .mv (ki 0)]
def rQaX6 : List O := [
 oo 64 <| .bin .lss (.t 63) (.t 62)]
def rQaX7 : List O := [
 oo 65 <| .ixa 2 (.t 61) (.t 63),
 oo 66 <| .ld (some 2) (.t 65),
 oo 14 <| .new [(.int .i64 0),(.own 2 [])],
 oz <| .st 2 (.t 14) (.t 66)]
def rQaX8 : List O := [
 oo 67 <| .ld (some 2) (.t 14),
 oo 68 <| .call nQc [(.t 67),(ki 70)],
 oo 69 <| .un .not (.t 68),
 oo 70 <| .mv (.t 69),
 ⟨(some 71),(some (70,false)),.fad 1 (.t 14)⟩,
 ⟨(some 72),(some (70,false)),.ld none (.t 71)⟩,
 ⟨(some 73),(some (70,false)),.len (.t 72)⟩,
 ⟨(some 74),(some (70,false)),.bin .gtr (.t 73) (ki 40)⟩,
 oo 75 <| .pick (.t 70) (.k (.bool true)) (.t 74)]
def rQaX9 : List O := [
 oo 76 <| .mv (.t 1),
 oo 77 <| .mv (.t 11),
 oo 78 <| .call nQh [(.t 77),(ki 8)],
 oo 79 <| .mv (.t 11),
 oo 80 <| .call nQi [(.t 79),(ki 8)],
 oo 81 <| .bslice 1 1 [(.int .i64 0)] [(0,1,(.t 80))],
 oo 82 <| .bslice 1 4 [(.own 1 [])] [(0,1,(.t 76)),(1,1,(.t 78)),(2,1,(.t 81)),(3,1,(.k (.own 1 [])))],
 oo 83 <| .len (.t 82),
 oo 84 <| .mv (ki 0)]
def rQaX10 : List O := [
 oo 85 <| .bin .lss (.t 84) (.t 83)]
def rQaX11 : List O := [
 oo 86 <| .ixa 1 (.t 82) (.t 84),
 oo 87 <| .ld none (.t 86),
 oo 16 <| .mv (.t 87)]
def rQaX12 : List O := [
 oo 89 <| .ld (some 2) (.t 14),
 oo 90 <| .mv (.t 16),
 oo 91 <| .call nQj [(.t 89),(.t 90)],
 oo 88 <| .mv (.t 91),
 oo 92 <| .ext 0 (.t 88),
 oo 93 <| .ext 1 (.t 88),
 oo 17 <| .mv (.t 92),
 oo 18 <| .mv (.t 93)]
def rQaX13 : List O := [
 oo 95 <| .ld (some 2) (.t 14),
 oo 96 <| .mv (.t 16),
 oo 97 <| .call nQk [(.t 95),(.t 96)],
 oo 94 <| .mv (.t 97),
 oo 98 <| .ext 0 (.t 94),
 oo 99 <| .ext 1 (.t 94),
 oo 19 <| .mv (.t 98),
 oo 20 <| .mv (.t 99)]
def rQaX14 : List O := [
 oo 101 <| .ld (some 2) (.t 14),
 oo 102 <| .mv (.t 16),
 oo 103 <| .call nQl [(.t 101),(.t 102)],
 oo 100 <| .mv (.t 103),
 oo 104 <| .ext 0 (.t 100),
 oo 105 <| .ext 1 (.t 100),
 oo 106 <| .ext 2 (.t 100),
 oo 21 <| .mv (.t 104),
 oo 22 <| .mv (.t 105),
 oo 23 <| .mv (.t 106)]
def rQaX15 : List O := [
 oo 108 <| .ld (some 2) (.t 14),
 oo 109 <| .mv (.t 16),
 oo 110 <| .call nQm [(.t 108),(.t 109)],
 oo 107 <| .mv (.t 110),
 oo 111 <| .ext 0 (.t 107),
 oo 112 <| .ext 1 (.t 107),
 oo 113 <| .ext 2 (.t 107),
 oo 24 <| .mv (.t 111),
 oo 25 <| .mv (.t 112),
 oo 26 <| .mv (.t 113)]
def rQaX16 : List O := [
 oo 114 <| .ld (some 2) (.t 14),
 oo 115 <| .mv (.t 16),
 oo 116 <| .call nQn [(.t 114),(.t 115)],
 oo 117 <| .ld (some 2) (.t 14),
 oo 118 <| .mv (.t 16),
 oo 119 <| .call nQo [(.t 117),(.t 118)],
 oo 120 <| .eq true .bool (.t 116) (.t 119),
 oo 121 <| .mv (.t 120),
 ⟨(some 122),(some (121,false)),.ld (some 2) (.t 14)⟩,
 ⟨(some 123),(some (121,false)),.mv (.t 16)⟩,
 ⟨(some 124),(some (121,false)),.call nQp [(.t 122),(.t 123)]⟩,
 ⟨(some 125),(some (121,false)),.ld (some 2) (.t 14)⟩,
 ⟨(some 126),(some (121,false)),.mv (.t 16)⟩,
 ⟨(some 127),(some (121,false)),.call nQq [(.t 125),(.t 126)]⟩,
 ⟨(some 128),(some (121,false)),.eq true .bool (.t 124) (.t 127)⟩,
 oo 129 <| .pick (.t 121) (.k (.bool true)) (.t 128),
 oo 130 <| .mv (.t 129),
 ⟨(some 131),(some (130,false)),.mv (.t 18)⟩,
 ⟨(some 132),(some (130,false)),.mv (.t 20)⟩,
 ⟨(some 133),(some (130,false)),.bin .neq (.t 131) (.t 132)⟩,
 oo 134 <| .pick (.t 130) (.k (.bool true)) (.t 133),
 oo 135 <| .mv (.t 134),
 ⟨(some 136),(some (135,false)),.mv (.t 17)⟩,
 ⟨(some 137),(some (135,false)),.mv (.t 19)⟩,
 ⟨(some 138),(some (135,false)),.call nQr [(.t 136),(.t 137)]⟩,
 ⟨(some 139),(some (135,false)),.bin .neq (.t 138) (ki 0)⟩,
 oo 140 <| .pick (.t 135) (.k (.bool true)) (.t 139),
 oo 141 <| .mv (.t 140),
 ⟨(some 142),(some (141,false)),.mv (.t 22)⟩,
 ⟨(some 143),(some (141,false)),.mv (.t 25)⟩,
 ⟨(some 144),(some (141,false)),.eq true .bool (.t 142) (.t 143)⟩,
 oo 145 <| .pick (.t 141) (.k (.bool true)) (.t 144),
 oo 146 <| .mv (.t 145),
 ⟨(some 147),(some (146,false)),.mv (.t 23)⟩,
 ⟨(some 148),(some (146,false)),.mv (.t 26)⟩,
 ⟨(some 149),(some (146,false)),.bin .neq (.t 147) (.t 148)⟩,
 oo 150 <| .pick (.t 146) (.k (.bool true)) (.t 149),
 oo 151 <| .mv (.t 150),
 ⟨(some 152),(some (151,false)),.mv (.t 21)⟩,
 ⟨(some 153),(some (151,false)),.mv (.t 24)⟩,
 ⟨(some 154),(some (151,false)),.call nQr [(.t 152),(.t 153)]⟩,
 ⟨(some 155),(some (151,false)),.bin .neq (.t 154) (ki 0)⟩,
 oo 156 <| .pick (.t 151) (.k (.bool true)) (.t 155)]
def rQaX17 : List O := [
 oo 10 <| .mv (.k (.bool false))]
def rQaX18 : List O := [
 oo 157 <| .bin .add (.t 84) (ki 1),
 oo 84 <| .mv (.t 157)]
def lQaX0 : C := (.seq (.reg rQaX10 false [] [1,3,4,11,14,61,62,63,82,83,84,85]) (.seq (.cond (.t 85) .skip (.exit 2)) (.seq (.blk 3 (.seq (.reg rQaX11 false [] [1,3,4,11,14,16,61,62,63,82,83,84]) (.seq (.reg rQaX12 false [] [1,3,4,11,14,16,17,18,61,62,63,82,83,84]) (.seq (.reg rQaX13 false [] [1,3,4,11,14,16,17,18,19,20,61,62,63,82,83,84]) (.seq (.reg rQaX14 false [] [1,3,4,11,14,16,17,18,19,20,21,22,23,61,62,63,82,83,84]) (.seq (.reg rQaX15 false [] [1,3,4,11,14,16,17,18,19,20,21,22,23,24,25,26,61,62,63,82,83,84]) (.seq (.reg rQaX16 true [(5,5),(6,6),(7,7),(13,13),(14,14),(15,15),(16,16),(19,19),(20,20),(21,21),(24,24),(25,25),(26,26),(27,27),(30,30),(31,31),(32,32),(35,35),(36,36),(37,37),(40,40),(41,41),(42,42),(0,1),(0,3),(1,3),(2,3),(0,4),(2,4),(3,4),(8,9),(8,11),(9,11),(10,11),(8,12),(10,12),(11,12)] [1,3,4,11,14,61,62,63,82,83,84,156]) (.cond (.t 156) (.seq (.reg rQaX17 false [] [10]) .ret) .skip)))))))) (.reg rQaX18 false [] [1,3,4,11,14,61,62,63,82,83,84]))))
def rQaX19 : List O := [
 oo 158 <| .mv (.t 4),
 oo 159 <| .mv (.t 11),
 oo 160 <| .call nQi [(.t 159),(ki 9)],
 oo 161 <| .bslice 1 3 [(.int .i64 0)] [(0,1,(.t 158)),(1,1,(.t 160)),(2,1,(ki 4096))],
 oo 162 <| .len (.t 161),
 oo 163 <| .mv (ki 0)]
def rQaX20 : List O := [
 oo 164 <| .bin .lss (.t 163) (.t 162)]
def rQaX21 : List O := [
 oo 165 <| .ixa 1 (.t 161) (.t 163),
 oo 166 <| .ld none (.t 165),
 oo 28 <| .mv (.t 166)]
def rQaX22 : List O := [
 oo 168 <| .ld (some 2) (.t 14),
 oo 169 <| .mv (.t 28),
 oo 170 <| .call nQs [(.t 168),(.t 169)],
 oo 167 <| .mv (.t 170),
 oo 171 <| .ext 0 (.t 167),
 oo 172 <| .ext 1 (.t 167),
 oo 29 <| .mv (.t 171),
 oo 30 <| .mv (.t 172)]
def rQaX23 : List O := [
 oo 174 <| .ld (some 2) (.t 14),
 oo 175 <| .mv (.t 28),
 oo 176 <| .call nQt [(.t 174),(.t 175)],
 oo 173 <| .mv (.t 176),
 oo 177 <| .ext 0 (.t 173),
 oo 178 <| .ext 1 (.t 173),
 oo 31 <| .mv (.t 177),
 oo 32 <| .mv (.t 178)]
def rQaX24 : List O := [
 oo 179 <| .mv (.t 30),
 oo 180 <| .mv (.t 32),
 oo 181 <| .bin .neq (.t 179) (.t 180),
 oo 182 <| .mv (.t 181),
 ⟨(some 183),(some (182,false)),.mv (.t 29)⟩,
 ⟨(some 184),(some (182,false)),.mv (.t 31)⟩,
 ⟨(some 185),(some (182,false)),.call nQu [(.t 183),(.t 184)]⟩,
 ⟨(some 186),(some (182,false)),.un .not (.t 185)⟩,
 oo 187 <| .pick (.t 182) (.k (.bool true)) (.t 186)]
def rQaX25 : List O := [
 oo 10 <| .mv (.k (.bool false))]
def rQaX26 : List O := [
 oo 188 <| .bin .add (.t 163) (ki 1),
 oo 163 <| .mv (.t 188)]
def lQaX1 : C := (.seq (.reg rQaX20 false [] [1,3,4,11,14,61,62,63,161,162,163,164]) (.seq (.cond (.t 164) .skip (.exit 4)) (.seq (.blk 5 (.seq (.reg rQaX21 false [] [1,3,4,11,14,28,61,62,63,161,162,163]) (.seq (.reg rQaX22 false [] [1,3,4,11,14,28,29,30,61,62,63,161,162,163]) (.seq (.reg rQaX23 false [] [1,3,4,11,14,29,30,31,32,61,62,63,161,162,163]) (.seq (.reg rQaX24 false [] [1,3,4,11,14,61,62,63,161,162,163,187]) (.cond (.t 187) (.seq (.reg rQaX25 false [] [10]) .ret) .skip)))))) (.reg rQaX26 false [] [1,3,4,11,14,61,62,63,161,162,163]))))
def rQaX27 : List O := [
 oo 189 <| .ld (some 2) (.t 14),
 oo 190 <| .mv (.t 3),
 oo 191 <| .call nQv [(.t 189),(.t 190)],
 oo 192 <| .ld (some 2) (.t 14),
 oo 193 <| .mv (.t 3),
 oo 194 <| .call nQw [(.t 192),(.t 193)],
 oo 195 <| .eq true .bool (.t 191) (.t 194)]
def rQaX28 : List O := [
 oo 10 <| .mv (.k (.bool false))]
def rQaX29 : List O := [
 oo 196 <| .bin .add (.t 63) (ki 1),
 oo 63 <| .mv (.t 196)]
def lQaX2 : C := (.seq (.reg rQaX6 false [] [1,3,4,11,61,62,63,64]) (.seq (.cond (.t 64) .skip (.exit 0)) (.seq (.blk 1 (.seq (.reg rQaX7 false [] [1,3,4,11,14,61,62,63]) (.seq (.seq (.reg rQaX8 false [] [1,3,4,11,14,61,62,63,75]) (.cond (.t 75) (.exit 1) .skip)) (.seq (.seq (.reg rQaX9 false [] [1,3,4,11,14,61,62,63,82,83,84]) (.blk 2 (.loop lQaX0))) (.seq (.seq (.reg rQaX19 false [] [1,3,4,11,14,61,62,63,161,162,163]) (.blk 4 (.loop lQaX1))) (.seq (.reg rQaX27 true [(5,5),(6,6),(0,1),(0,3),(1,3),(2,3),(0,4),(2,4),(3,4)] [1,3,4,11,61,62,63,195]) (.cond (.t 195) (.seq (.reg rQaX28 false [] [10]) .ret) .skip))))))) (.reg rQaX29 false [] [1,3,4,11,61,62,63]))))
def rQaX30 : List O := [
 oo 197 <| .call nQd [],
 oo 10 <| .mv (.t 197)]
def cQa : C := (.seq (.reg rQaX0 false [] [0,1,3,4,7]) (.seq (.seq (.reg rQaX1 false [] [0,1,3,4,7,50]) (.cond (.t 50) (.seq (.reg rQaX2 false [] [10]) .ret) .skip)) (.seq (.reg rQaX3 false [] [1,3,4,7,11]) (.seq (.reg rQaX4 false [] [1,3,4,7,11,12]) (.seq (.seq (.reg rQaX5 true [(0,1),(0,2),(1,2),(0,3),(1,3),(2,3),(0,4),(1,4),(0,7),(1,7),(3,7),(4,7),(5,7)] [1,3,4,11,61,62,63]) (.blk 0 (.loop lQaX2))) (.seq (.reg rQaX30 false [] [10]) .ret))))))
def qQa : AFn := ⟨198,5,[.t 10],cQa⟩
/- cohesion/cohesionmake.Few -/
def rQbX0 : List O := [
 oo 2 <| .mv (.k (.bool false))]
def rQbX1 : List O := [
 oo 3 <| .mv (.t 0),
 oo 4 <| .len (.t 3),
 oo 5 <| .bin .leq (.t 4) (ki 500),
 oo 2 <| .mv (.t 5)]
def cQb : C := (.seq (.reg rQbX0 false [] [0]) (.seq (.reg rQbX1 false [] [2]) .ret))
def qQb : AFn := ⟨6,1,[.t 2],cQb⟩
/- cohesion/cohesionmake.Light -/
def rQcX0 : List O := [
 oo 2 <| .box (.t 0),
 oo 4 <| .mv (.k (.bool false))]
def rQcX1 : List O := [
 oo 5 <| .fad 0 (.t 2),
 oo 6 <| .ld none (.t 5),
 oo 7 <| .mv (.t 1),
 oo 8 <| .bin .leq (.t 6) (.t 7),
 oo 9 <| .mv (.t 8),
 ⟨(some 10),(some (9,true)),.fad 1 (.t 2)⟩,
 ⟨(some 11),(some (9,true)),.ld none (.t 10)⟩,
 ⟨(some 12),(some (9,true)),.len (.t 11)⟩,
 ⟨(some 13),(some (9,true)),.mv (.t 1)⟩,
 ⟨(some 14),(some (9,true)),.mv (.t 1)⟩,
 ⟨(some 15),(some (9,true)),.bin .mul (.t 13) (.t 14)⟩,
 ⟨(some 16),(some (9,true)),.bin .leq (.t 12) (.t 15)⟩,
 oo 17 <| .pick (.t 9) (.t 16) (.k (.bool false)),
 oo 4 <| .mv (.t 17)]
def cQc : C := (.seq (.reg rQcX0 false [] [1,2]) (.seq (.reg rQcX1 false [] [4]) .ret))
def qQc : AFn := ⟨18,2,[.t 4],cQc⟩
/- cohesion/cohesionlaw24.awake -/
def rQdX0 : List O := [
 oo 0 <| .mv (.k (.bool false))]
def rQdX1 : List O := [
 oo 8 <| .build [(.int .i64 0),(.int .i64 0)] [(0,1,(ki 0)),(1,1,(ki 1))],
 oo 9 <| .build [(.int .i64 0),(.int .i64 0)] [(0,1,(ki 1)),(1,1,(ki 2))],
 oo 10 <| .bslice 2 2 [(.int .i64 0),(.int .i64 0)] [(0,2,(.t 8)),(2,2,(.t 9))],
 oo 11 <| .call nQx [(ki 4),(.t 10)],
 oo 7 <| .mv (.t 11),
 oo 12 <| .ext 0 (.t 7),
 oo 13 <| .ext 1 (.t 7),
 oo 1 <| .new [(.int .i64 0),(.own 2 [])],
 oz <| .st 2 (.t 1) (.t 12),
 oo 2 <| .mv (.t 13)]
def rQdX2 : List O := [
 oo 15 <| .ld (some 2) (.t 1),
 oo 16 <| .call nQs [(.t 15),(ki 9)],
 oo 14 <| .mv (.t 16),
 oo 17 <| .ext 0 (.t 14),
 oo 18 <| .ext 1 (.t 14),
 oo 3 <| .mv (.t 17),
 oo 4 <| .mv (.t 18)]
def rQdX3 : List O := [
 oo 20 <| .ld (some 2) (.t 1),
 oo 21 <| .bslice 1 1 [(.int .i64 0)] [(0,1,(ki 2))],
 oo 22 <| .call nQj [(.t 20),(.t 21)],
 oo 19 <| .mv (.t 22),
 oo 23 <| .ext 0 (.t 19),
 oo 24 <| .ext 1 (.t 19),
 oo 5 <| .mv (.t 23),
 oo 6 <| .mv (.t 24)]
def rQdX4 : List O := [
 oo 25 <| .mv (.t 4),
 oo 26 <| .bin .eql (.t 25) (ki 0),
 oo 27 <| .mv (.t 26),
 ⟨(some 28),(some (27,true)),.mv (.t 3)⟩,
 ⟨(some 29),(some (27,true)),.len (.t 28)⟩,
 ⟨(some 30),(some (27,true)),.bin .eql (.t 29) (ki 3)⟩,
 oo 31 <| .pick (.t 27) (.t 30) (.k (.bool false)),
 oo 32 <| .mv (.t 31),
 ⟨(some 33),(some (32,true)),.mv (.t 3)⟩,
 ⟨(some 34),(some (32,true)),.ixa 1 (.t 33) (ki 1)⟩,
 ⟨(some 35),(some (32,true)),.ld none (.t 34)⟩,
 ⟨(some 36),(some (32,true)),.bslice 1 2 [(.int .i64 0)] [(0,1,(ki 1)),(1,1,(ki 2))]⟩,
 ⟨(some 37),(some (32,true)),.call nQr [(.t 35),(.t 36)]⟩,
 ⟨(some 38),(some (32,true)),.bin .eql (.t 37) (ki 0)⟩,
 oo 39 <| .pick (.t 32) (.t 38) (.k (.bool false)),
 oo 40 <| .mv (.t 39),
 ⟨(some 41),(some (40,true)),.mv (.t 3)⟩,
 ⟨(some 42),(some (40,true)),.ixa 1 (.t 41) (ki 2)⟩,
 ⟨(some 43),(some (40,true)),.ld none (.t 42)⟩,
 ⟨(some 44),(some (40,true)),.bslice 1 1 [(.int .i64 0)] [(0,1,(ki 3))]⟩,
 ⟨(some 45),(some (40,true)),.call nQr [(.t 43),(.t 44)]⟩,
 ⟨(some 46),(some (40,true)),.bin .eql (.t 45) (ki 0)⟩,
 oo 47 <| .pick (.t 40) (.t 46) (.k (.bool false)),
 oo 48 <| .mv (.t 47),
 ⟨(some 49),(some (48,true)),.mv (.t 6)⟩,
 ⟨(some 50),(some (48,true)),.bin .eql (.t 49) (ki 0)⟩,
 oo 51 <| .pick (.t 48) (.t 50) (.k (.bool false)),
 oo 52 <| .mv (.t 51),
 ⟨(some 53),(some (52,true)),.mv (.t 5)⟩,
 ⟨(some 54),(some (52,true)),.bslice 1 2 [(.int .i64 0)] [(0,1,(ki 1)),(1,1,(ki 2))]⟩,
 ⟨(some 55),(some (52,true)),.call nQr [(.t 53),(.t 54)]⟩,
 ⟨(some 56),(some (52,true)),.bin .eql (.t 55) (ki 0)⟩,
 oo 57 <| .pick (.t 52) (.t 56) (.k (.bool false)),
 oo 58 <| .mv (.t 57),
 ⟨(some 59),(some (58,true)),.ld (some 2) (.t 1)⟩,
 ⟨(some 60),(some (58,true)),.mv (.t 3)⟩,
 ⟨(some 61),(some (58,true)),.call nQv [(.t 59),(.t 60)]⟩,
 oo 62 <| .pick (.t 58) (.t 61) (.k (.bool false)),
 oo 0 <| .mv (.t 62)]
def cQd : C := (.seq (.reg rQdX0 false [] []) (.seq (.reg rQdX1 false [] [1]) (.seq (.reg rQdX2 false [] [1,3,4]) (.seq (.reg rQdX3 false [] [1,3,4,5,6]) (.seq (.reg rQdX4 false [] [0]) .ret)))))
def qQd : AFn := ⟨63,0,[.t 0],cQd⟩
/- cohesion/cohesionmake.New -/
def rQeX0 : List O := [
 oo 2 <| .mv (.k .nilp)]
def rQeX1 : List O := [
 oo 3 <| .mv (.t 0),
 oo 4 <| .build [(.own 1 []),(.int .i64 0)] [(0,1,(.t 3))],
 oo 5 <| .box (.t 4),
 oo 2 <| .mv (.t 5)]
def cQe : C := (.seq (.reg rQeX0 false [] [0]) (.seq (.reg rQeX1 false [] [2]) .ret))
def qQe : AFn := ⟨6,1,[.t 2],cQe⟩
/- cohesion/cohesionmake.Graph -/
def rQfX0 : List O := [
 oo 4 <| .new [(.int .i64 0),(.own 2 [])]]
def rQfX1 : List O := [
 oo 9 <| .mv (.t 0),
 oo 10 <| .mv (.t 1),
 oo 11 <| .bin .add (.t 10) (ki 1),
 oo 12 <| .call nQi [(.t 9),(.t 11)],
 oo 13 <| .build [(.int .i64 0),(.own 2 [])] [(0,1,(.t 12))],
 oo 5 <| .new [(.int .i64 0),(.own 2 [])],
 oz <| .st 2 (.t 5) (.t 13)]
def rQfX2 : List O := [
 oo 14 <| .fad 0 (.t 5),
 oo 15 <| .ld none (.t 14),
 oo 16 <| .bin .lss (.t 15) (ki 4)]
def rQfX3 : List O := [
 oo 17 <| .mv (.t 1),
 oo 18 <| .fad 0 (.t 5),
 oo 19 <| .ld none (.t 18),
 oo 20 <| .mv (.t 0),
 oo 21 <| .mv (.t 1),
 oo 22 <| .bin .add (.t 21) (ki 1),
 oo 23 <| .call nQi [(.t 20),(.t 22)],
 oo 24 <| .bin .add (.t 19) (.t 23),
 oo 25 <| .min [(.t 17),(.t 24)],
 oo 26 <| .fad 0 (.t 5),
 oz <| .st 1 (.t 26) (.t 25)]
def rQfX4 : List O := [
 oo 27 <| .mv (.t 0),
 oo 28 <| .call nQi [(.t 27),(ki 4)],
 oo 29 <| .bin .add (ki 1) (.t 28),
 oo 6 <| .mv (.t 29)]
def rQfX5 : List O := [
 oo 7 <| .mv (ki 0)]
def rQfX6 : List O := [
 oo 30 <| .mv (.t 7),
 oo 31 <| .fad 0 (.t 5),
 oo 32 <| .ld none (.t 31),
 oo 33 <| .bin .lss (.t 30) (.t 32)]
def rQfX7 : List O := [
 oo 36 <| .mv (.t 7),
 oo 37 <| .bin .add (.t 36) (ki 1),
 oo 8 <| .mv (.t 37)]
def rQfX8 : List O := [
 oo 38 <| .mv (.t 8),
 oo 39 <| .fad 0 (.t 5),
 oo 40 <| .ld none (.t 39),
 oo 41 <| .bin .lss (.t 38) (.t 40)]
def rQfX9 : List O := [
 oo 44 <| .mv (.t 0),
 oo 45 <| .call nQi [(.t 44),(ki 5)],
 oo 46 <| .mv (.t 6),
 oo 47 <| .bin .sub (ki 5) (.t 46),
 oo 48 <| .bin .geq (.t 45) (.t 47)]
def rQfX10 : List O := [
 oo 49 <| .fad 1 (.t 5),
 oo 50 <| .ld none (.t 49),
 oo 51 <| .mv (.t 7),
 oo 52 <| .mv (.t 8),
 oo 53 <| .build [(.int .i64 0),(.int .i64 0)] [(0,1,(.t 51)),(1,1,(.t 52))],
 oo 54 <| .bslice 2 1 [(.int .i64 0),(.int .i64 0)] [(0,2,(.t 53))],
 oo 55 <| .app 2 (.t 50) (.t 54),
 oo 56 <| .fad 1 (.t 5),
 oz <| .st 1 (.t 56) (.t 55)]
def rQfX11 : List O := [
 oo 42 <| .mv (.t 8),
 oo 43 <| .bin .add (.t 42) (ki 1),
 oo 8 <| .mv (.t 43)]
def lQfX0 : C := (.seq (.seq (.reg rQfX8 false [] [0,4,5,6,7,8,41]) (.cond (.t 41) .skip (.exit 2))) (.seq (.blk 3 (.seq (.reg rQfX9 false [] [0,4,5,6,7,8,48]) (.cond (.t 48) (.reg rQfX10 false [] [0,4,5,6,7,8]) .skip))) (.reg rQfX11 false [] [0,4,5,6,7,8])))
def rQfX12 : List O := [
 oo 34 <| .mv (.t 7),
 oo 35 <| .bin .add (.t 34) (ki 1),
 oo 7 <| .mv (.t 35)]
def lQfX1 : C := (.seq (.seq (.reg rQfX6 false [] [0,4,5,6,7,33]) (.cond (.t 33) .skip (.exit 0))) (.seq (.blk 1 (.seq (.reg rQfX7 false [] [0,4,5,6,7,8]) (.blk 2 (.loop lQfX0)))) (.reg rQfX12 false [] [0,4,5,6,7])))
def rQfX13 : List O := [
 oo 57 <| .ld (some 2) (.t 5),
 oz <| .st 2 (.t 4) (.t 57)]
def cQf : C := (.seq (.reg rQfX0 false [] [0,1,4]) (.seq (.reg rQfX1 false [] [0,1,4,5]) (.seq (.seq (.reg rQfX2 false [] [0,1,4,5,16]) (.cond (.t 16) (.reg rQfX3 true [(8,8),(9,9),(10,10),(0,2),(2,3),(2,4),(2,5),(0,6),(1,6),(2,6)] [0,4,5]) .skip)) (.seq (.reg rQfX4 false [] [0,4,5,6]) (.seq (.seq (.reg rQfX5 false [] [0,4,5,6,7]) (.blk 0 (.loop lQfX1))) (.seq (.reg rQfX13 false [] [4]) .ret))))))
def qQf : AFn := ⟨58,2,[.c 4 (some 2)],cQf⟩
/- cohesion/cohesionmake.Spoilt -/
def rQgX0 : List O := [
 oo 3 <| .box (.t 1),
 oo 4 <| .new [(.int .i64 0),(.own 2 [])]]
def rQgX1 : List O := [
 oo 7 <| .fad 1 (.t 3),
 oo 8 <| .ld none (.t 7),
 oo 9 <| .app 2 (.k (.own 2 [])) (.t 8),
 oo 10 <| .fad 1 (.t 3),
 oz <| .st 1 (.t 10) (.t 9)]
def rQgX2 : List O := [
 oo 11 <| .fad 1 (.t 3),
 oo 12 <| .ld none (.t 11),
 oo 13 <| .len (.t 12),
 oo 5 <| .mv (.t 13)]
def rQgX3 : List O := [
 oo 14 <| .mv (.t 0),
 oo 15 <| .call nQi [(.t 14),(ki 6)]]
def rQgX4 : List O := [
 oo 17 <| .bin .eql (.t 15) (ki 0),
 oo 16 <| .mv (.t 17)]
def rQgX5 : List O := [
 oo 18 <| .mv (.t 0),
 oo 19 <| .call nQi [(.t 18),(ki 70)],
 oo 20 <| .bin .sub (.t 19) (ki 2),
 oo 21 <| .fad 0 (.t 3),
 oz <| .st 1 (.t 21) (.t 20)]
def rQgX6 : List O := [
 oo 23 <| .bin .eql (.t 15) (ki 1),
 oo 22 <| .mv (.t 23)]
def rQgX7 : List O := [
 oo 24 <| .mv (.t 5),
 oo 25 <| .bin .gtr (.t 24) (ki 0)]
def rQgX8 : List O := [
 oo 26 <| .mv (.t 0),
 oo 27 <| .mv (.t 5),
 oo 28 <| .call nQi [(.t 26),(.t 27)],
 oo 6 <| .mv (.t 28)]
def rQgX9 : List O := [
 oo 29 <| .fad 1 (.t 3),
 oo 30 <| .ld none (.t 29),
 oo 31 <| .mv (.t 6),
 oo 32 <| .fad 1 (.t 3),
 oo 33 <| .ld none (.t 32),
 oo 34 <| .mv (.t 6),
 oo 35 <| .fad 1 (.t 3),
 oo 36 <| .ld none (.t 35),
 oo 37 <| .mv (.t 6),
 oo 38 <| .ixa 2 (.t 36) (.t 37),
 oo 39 <| .fad 1 (.t 38),
 oo 40 <| .ld none (.t 39),
 oo 41 <| .fad 1 (.t 3),
 oo 42 <| .ld none (.t 41),
 oo 43 <| .mv (.t 6),
 oo 44 <| .ixa 2 (.t 42) (.t 43),
 oo 45 <| .fad 0 (.t 44),
 oo 46 <| .ld none (.t 45),
 oo 47 <| .ixa 2 (.t 30) (.t 31),
 oo 48 <| .fad 0 (.t 47),
 oz <| .st 1 (.t 48) (.t 40),
 oo 49 <| .ixa 2 (.t 33) (.t 34),
 oo 50 <| .fad 1 (.t 49),
 oz <| .st 1 (.t 50) (.t 46)]
def rQgX10 : List O := [
 oo 52 <| .bin .eql (.t 15) (ki 2),
 oo 51 <| .mv (.t 52)]
def rQgX11 : List O := [
 oo 53 <| .mv (.t 5),
 oo 54 <| .bin .gtr (.t 53) (ki 1)]
def rQgX12 : List O := [
 oo 55 <| .fad 1 (.t 3),
 oo 56 <| .ld none (.t 55),
 oo 57 <| .fad 1 (.t 3),
 oo 58 <| .ld none (.t 57),
 oo 59 <| .mv (.t 5),
 oo 60 <| .bin .sub (.t 59) (ki 1),
 oo 61 <| .fad 1 (.t 3),
 oo 62 <| .ld none (.t 61),
 oo 63 <| .mv (.t 5),
 oo 64 <| .bin .sub (.t 63) (ki 1),
 oo 65 <| .ixa 2 (.t 62) (.t 64),
 oo 66 <| .ld (some 2) (.t 65),
 oo 67 <| .fad 1 (.t 3),
 oo 68 <| .ld none (.t 67),
 oo 69 <| .ixa 2 (.t 68) (ki 0),
 oo 70 <| .ld (some 2) (.t 69),
 oo 71 <| .ixa 2 (.t 56) (ki 0),
 oz <| .st 2 (.t 71) (.t 66),
 oo 72 <| .ixa 2 (.t 58) (.t 60),
 oz <| .st 2 (.t 72) (.t 70)]
def rQgX13 : List O := [
 oo 74 <| .bin .eql (.t 15) (ki 3),
 oo 73 <| .mv (.t 74)]
def rQgX14 : List O := [
 oo 75 <| .mv (.t 5),
 oo 76 <| .bin .gtr (.t 75) (ki 0)]
def rQgX15 : List O := [
 oo 77 <| .fad 1 (.t 3),
 oo 78 <| .ld none (.t 77),
 oo 79 <| .fad 1 (.t 3),
 oo 80 <| .ld none (.t 79),
 oo 81 <| .mv (.t 5),
 oo 82 <| .bin .sub (.t 81) (ki 1),
 oo 83 <| .ixa 2 (.t 80) (.t 82),
 oo 84 <| .ld (some 2) (.t 83),
 oo 85 <| .bslice 2 1 [(.int .i64 0),(.int .i64 0)] [(0,2,(.t 84))],
 oo 86 <| .app 2 (.t 78) (.t 85),
 oo 87 <| .fad 1 (.t 3),
 oz <| .st 1 (.t 87) (.t 86)]
def rQgX16 : List O := [
 oo 89 <| .bin .eql (.t 15) (ki 4),
 oo 88 <| .mv (.t 89)]
def rQgX17 : List O := [
 oo 90 <| .mv (.t 5),
 oo 91 <| .bin .gtr (.t 90) (ki 0)]
def rQgX18 : List O := [
 oo 92 <| .fad 1 (.t 3),
 oo 93 <| .ld none (.t 92),
 oo 94 <| .mv (.t 0),
 oo 95 <| .mv (.t 5),
 oo 96 <| .call nQi [(.t 94),(.t 95)],
 oo 97 <| .ixa 2 (.t 93) (.t 96),
 oo 98 <| .fad 1 (.t 97),
 oo 99 <| .ld none (.t 98),
 oo 100 <| .mv (.t 0),
 oo 101 <| .call nQi [(.t 100),(ki 5)],
 oo 102 <| .bin .sub (.t 101) (ki 2),
 oo 103 <| .bin .add (.t 99) (.t 102),
 oo 104 <| .ixa 2 (.t 93) (.t 96),
 oo 105 <| .fad 1 (.t 104),
 oz <| .st 1 (.t 105) (.t 103)]
def rQgX19 : List O := [
 oo 106 <| .ld (some 2) (.t 3),
 oz <| .st 2 (.t 4) (.t 106)]
def cQg : C := (.seq (.reg rQgX0 false [] [0,3,4]) (.seq (.reg rQgX1 false [] [0,3,4]) (.seq (.seq (.reg rQgX2 false [] [0,3,4,5]) (.seq (.reg rQgX3 false [] [0,3,4,5,15]) (.blk 0 (.seq (.reg rQgX4 false [] [0,3,4,5,15,16]) (.cond (.t 16) (.reg rQgX5 false [] [3,4]) (.seq (.reg rQgX6 false [] [0,3,4,5,15,22]) (.cond (.t 22) (.seq (.reg rQgX7 false [] [0,3,4,5,25]) (.cond (.t 25) (.seq (.reg rQgX8 false [] [3,4,6]) (.reg rQgX9 true [(21,21),(22,22),(23,23),(1,2),(1,3),(0,4),(1,4),(2,4),(1,5),(4,5),(1,6),(4,6),(0,7),(1,7),(2,7),(3,7),(4,7),(5,7),(1,8),(4,8),(7,8),(1,9),(4,9),(1,10),(4,10),(0,11),(1,11),(2,11),(3,11),(4,11),(5,11),(1,12),(4,12),(7,12),(11,12),(0,13),(1,13),(2,13),(3,13),(4,13),(5,13),(6,13),(7,13),(8,13),(9,13),(10,13),(11,13),(1,14),(4,14),(7,14),(11,14),(13,14),(1,15),(4,15),(7,15),(11,15),(1,16),(4,16),(7,16),(11,16),(0,17),(1,17),(2,17),(3,17),(4,17),(5,17),(6,17),(7,17),(8,17),(9,17),(10,17),(11,17),(4,18),(4,19),(3,20),(4,20),(5,20)] [3,4])) .skip)) (.seq (.reg rQgX10 false [] [0,3,4,5,15,51]) (.cond (.t 51) (.seq (.reg rQgX11 false [] [3,4,5,54]) (.cond (.t 54) (.reg rQgX12 true [(18,18),(19,19),(1,2),(0,3),(1,3),(1,4),(3,4),(1,5),(3,5),(1,6),(3,6),(0,7),(1,7),(2,7),(3,7),(4,7),(5,7),(1,8),(3,8),(7,8),(1,9),(3,9),(7,9),(1,10),(3,10),(0,11),(1,11),(2,11),(3,11),(4,11),(5,11),(1,12),(3,12),(7,12),(11,12),(0,13),(1,13),(2,13),(3,13),(4,13),(5,13),(6,13),(7,13),(8,13),(9,13),(10,13),(11,13),(1,14),(3,14),(7,14),(11,14),(0,15),(1,15),(2,15),(3,15),(4,15),(5,15),(6,15),(7,15),(8,15),(9,15),(10,15),(11,15),(3,16),(2,17),(3,17),(4,17),(5,17)] [3,4]) .skip)) (.seq (.reg rQgX13 false [] [0,3,4,5,15,73]) (.cond (.t 73) (.seq (.reg rQgX14 false [] [3,4,5,76]) (.cond (.t 76) (.reg rQgX15 true [(9,9),(10,10),(11,11),(1,2),(0,3),(1,3),(1,4),(3,4),(1,5),(3,5),(1,6),(0,7),(1,7),(0,8),(1,8)] [3,4]) .skip)) (.seq (.reg rQgX16 false [] [0,3,4,5,88]) (.cond (.t 88) (.seq (.reg rQgX17 false [] [0,3,4,5,91]) (.cond (.t 91) (.reg rQgX18 true [(11,11),(12,12),(13,13),(14,14),(1,2),(1,3),(0,4),(1,4),(1,8),(4,8),(7,8),(0,9),(1,9),(5,9),(6,9),(7,9),(1,10),(7,10)] [3,4]) .skip)) .skip))))))))))))) (.seq (.reg rQgX19 false [] [4]) .ret))))
def qQg : AFn := ⟨107,2,[.c 4 (some 2)],cQg⟩
/- cohesion/cohesionmake.Set -/
def rQhX0 : List O := [
 oo 4 <| .mv (.k (.own 1 []))]
def rQhX1 : List O := [
 oo 5 <| .mv (.k (.own 1 []))]
def rQhX2 : List O := [
 oo 6 <| .mv (ki 0)]
def rQhX3 : List O := [
 oo 7 <| .mv (.t 6),
 oo 8 <| .mv (.t 1),
 oo 9 <| .bin .lss (.t 7) (.t 8)]
def rQhX4 : List O := [
 oo 12 <| .mv (.t 0),
 oo 13 <| .call nQi [(.t 12),(ki 2)],
 oo 14 <| .bin .eql (.t 13) (ki 1)]
def rQhX5 : List O := [
 oo 15 <| .mv (.t 5),
 oo 16 <| .mv (.t 6),
 oo 17 <| .bslice 1 1 [(.int .i64 0)] [(0,1,(.t 16))],
 oo 18 <| .app 1 (.t 15) (.t 17),
 oo 5 <| .mv (.t 18)]
def rQhX6 : List O := [
 oo 10 <| .mv (.t 6),
 oo 11 <| .bin .add (.t 10) (ki 1),
 oo 6 <| .mv (.t 11)]
def lQhX0 : C := (.seq (.seq (.reg rQhX3 false [] [0,1,5,6,9]) (.cond (.t 9) .skip (.exit 0))) (.seq (.blk 1 (.seq (.reg rQhX4 false [] [0,1,5,6,14]) (.cond (.t 14) (.reg rQhX5 false [] [0,1,5,6]) .skip))) (.reg rQhX6 false [] [0,1,5,6])))
def rQhX7 : List O := [
 oo 19 <| .mv (.t 5),
 oo 4 <| .mv (.t 19)]
def cQh : C := (.seq (.reg rQhX0 false [] [0,1]) (.seq (.reg rQhX1 false [] [0,1,5]) (.seq (.seq (.reg rQhX2 false [] [0,1,5,6]) (.blk 0 (.loop lQhX0))) (.seq (.reg rQhX7 false [] [4]) .ret))))
def qQh : AFn := ⟨20,2,[.t 4],cQh⟩
/- (*cohesion/cohesionmake.Deck).Next -/
def rQiX0 : List O := [
 oo 4 <| .mv (ki 0)]
def rQiX1 : List O := [
 oo 6 <| .mv (.t 1),
 oo 7 <| .bin .lss (.t 6) (ki 1),
 oo 8 <| .mv (.t 7),
 ⟨(some 9),(some (8,false)),.mv (.t 0)⟩,
 ⟨(some 10),(some (8,false)),.nilck (.t 9)⟩,
 ⟨(some 11),(some (8,false)),.fad 1 (.t 10)⟩,
 ⟨(some 12),(some (8,false)),.ld none (.t 11)⟩,
 ⟨(some 13),(some (8,false)),.mv (.t 0)⟩,
 ⟨(some 14),(some (8,false)),.nilck (.t 13)⟩,
 ⟨(some 15),(some (8,false)),.fad 0 (.t 14)⟩,
 ⟨(some 16),(some (8,false)),.ld none (.t 15)⟩,
 ⟨(some 17),(some (8,false)),.len (.t 16)⟩,
 ⟨(some 18),(some (8,false)),.bin .geq (.t 12) (.t 17)⟩,
 oo 19 <| .pick (.t 8) (.k (.bool true)) (.t 18)]
def rQiX2 : List O := [
 oo 4 <| .mv (ki 0)]
def rQiX3 : List O := [
 oo 20 <| .mv (.t 0),
 oo 21 <| .nilck (.t 20),
 oo 22 <| .fad 0 (.t 21),
 oo 23 <| .ld none (.t 22),
 oo 24 <| .mv (.t 0),
 oo 25 <| .nilck (.t 24),
 oo 26 <| .fad 1 (.t 25),
 oo 27 <| .ld none (.t 26),
 oo 28 <| .ixa 1 (.t 23) (.t 27),
 oo 29 <| .ld none (.t 28),
 oo 5 <| .mv (.t 29)]
def rQiX4 : List O := [
 oo 30 <| .mv (.t 0),
 oo 31 <| .nilck (.t 30),
 oo 32 <| .fad 1 (.t 31),
 oo 33 <| .ld none (.t 32),
 oo 34 <| .bin .add (.t 33) (ki 1),
 oo 35 <| .nilck (.t 30),
 oo 36 <| .fad 1 (.t 35),
 oz <| .st 1 (.t 36) (.t 34)]
def rQiX5 : List O := [
 oo 37 <| .mv (.t 5),
 oo 38 <| .mv (.t 1),
 oo 39 <| .call nQy [(.t 37),(.t 38)],
 oo 4 <| .mv (.t 39)]
def cQi : C := (.seq (.reg rQiX0 false [] [0,1]) (.seq (.seq (.reg rQiX1 true [(0,0),(1,1),(2,2),(12,12),(13,13),(6,7),(6,8),(6,9),(3,10),(4,10),(5,10),(6,10),(6,11)] [0,1,19]) (.cond (.t 19) (.seq (.reg rQiX2 false [] [4]) .ret) .skip)) (.seq (.reg rQiX3 true [(8,8),(9,9),(10,10),(3,4),(3,5),(3,6),(0,7),(1,7),(2,7),(3,7)] [0,1,5]) (.seq (.reg rQiX4 false [] [1,5]) (.seq (.reg rQiX5 false [] [4]) .ret)))))
def qQi : AFn := ⟨40,2,[.t 4],cQi⟩
/- cohesion/cliques.Extend -/
def rQjX0 : List O := [
 oo 2 <| .box (.t 0),
 oo 4 <| .mv (.k (.own 1 [])),
 oo 5 <| .mv (ki 0)]
def rQjX1 : List O := [
 oo 11 <| .ld (some 2) (.t 2),
 oo 12 <| .call nQz [(.t 11)],
 oo 6 <| .mv (.t 12)]
def rQjX2 : List O := [
 oo 13 <| .mv (.t 6),
 oo 14 <| .bin .neq (.t 13) (ki 0)]
def rQjX3 : List O := [
 oo 15 <| .mv (.t 6),
 oo 4 <| .mv (.k (.own 1 [])),
 oo 5 <| .mv (.t 15)]
def rQjX4 : List O := [
 oo 16 <| .ld (some 2) (.t 2),
 oo 17 <| .mv (.t 1),
 oo 18 <| .call nQn [(.t 16),(.t 17)],
 oo 19 <| .un .not (.t 18)]
def rQjX5 : List O := [
 oo 4 <| .mv (.k (.own 1 [])),
 oo 5 <| .mv (ki 4)]
def rQjX6 : List O := [
 oo 20 <| .fad 0 (.t 2),
 oo 21 <| .ld none (.t 20),
 oo 22 <| .bin .eql (.t 21) (ki 0)]
def rQjX7 : List O := [
 oo 4 <| .mv (.k (.own 1 [])),
 oo 5 <| .mv (ki 13)]
def rQjX8 : List O := [
 oo 23 <| .ld (some 2) (.t 2),
 oo 24 <| .call nQA [(.t 23)],
 oo 25 <| .mv (.t 1),
 oo 26 <| .call nQB [(.t 25)],
 oo 7 <| .mv (.t 24),
 oo 8 <| .mv (.t 26)]
def rQjX9 : List O := [
 oo 27 <| .mv (.t 7),
 oo 28 <| .mv (.t 8),
 oo 29 <| .call nQC [(.t 27),(.t 28)],
 oo 9 <| .mv (.t 29)]
def rQjX10 : List O := [
 oo 30 <| .mv (.t 9),
 oo 31 <| .bin .neq (.t 30) (.k (.int .u64 0))]
def rQjX11 : List O := [
 oo 32 <| .mv (.t 9),
 oo 33 <| .call nQD [(.t 32)],
 oo 10 <| .mv (.t 33)]
def rQjX12 : List O := [
 oo 34 <| .mv (.t 8),
 oo 35 <| .mv (.t 10),
 oo 36 <| .bslice 1 1 [(.int .i64 0)] [(0,1,(.t 35))],
 oo 37 <| .app 1 (.t 34) (.t 36),
 oo 8 <| .mv (.t 37)]
def rQjX13 : List O := [
 oo 38 <| .mv (.t 9),
 oo 39 <| .mv (.t 7),
 oo 40 <| .mv (.t 10),
 oo 41 <| .ixa 1 (.t 39) (.t 40),
 oo 42 <| .ld none (.t 41),
 oo 43 <| .bin .and (.t 38) (.t 42),
 oo 9 <| .mv (.t 43)]
def lQjX0 : C := (.seq (.seq (.reg rQjX10 false [] [7,8,9,31]) (.cond (.t 31) .skip (.exit 0))) (.blk 1 (.seq (.reg rQjX11 false [] [7,8,9,10]) (.seq (.reg rQjX12 false [] [7,8,9,10]) (.reg rQjX13 false [] [7,8,9])))))
def rQjX14 : List O := [
 oo 44 <| .mv (.t 8),
 oo 45 <| .call nQE [(.t 44)]]
def rQjX15 : List O := [
 oo 46 <| .mv (.t 8),
 oo 4 <| .mv (.t 46),
 oo 5 <| .mv (ki 0)]
def cQj : C := (.seq (.reg rQjX0 false [] [1,2]) (.seq (.seq (.reg rQjX1 false [] [1,2,6]) (.seq (.reg rQjX2 false [] [1,2,6,14]) (.cond (.t 14) (.seq (.reg rQjX3 false [] [4,5]) .ret) .skip))) (.seq (.seq (.reg rQjX4 false [] [1,2,19]) (.cond (.t 19) (.seq (.reg rQjX5 false [] [4,5]) .ret) .skip)) (.seq (.seq (.reg rQjX6 false [] [1,2,22]) (.cond (.t 22) (.seq (.reg rQjX7 false [] [4,5]) .ret) .skip)) (.seq (.reg rQjX8 false [] [7,8]) (.seq (.seq (.reg rQjX9 false [] [7,8,9]) (.blk 0 (.loop lQjX0))) (.seq (.reg rQjX14 false [] [8]) (.seq (.reg rQjX15 false [] [4,5]) .ret))))))))
def qQj : AFn := ⟨47,2,[.t 4,.t 5],cQj⟩
/- cohesion/cohesionref24.Extend -/
def rQkX0 : List O := [
 oo 2 <| .box (.t 0),
 oo 4 <| .mv (.k (.own 1 [])),
 oo 5 <| .mv (ki 0)]
def rQkX1 : List O := [
 oo 9 <| .ld (some 2) (.t 2),
 oo 10 <| .call nQF [(.t 9)],
 oo 6 <| .mv (.t 10)]
def rQkX2 : List O := [
 oo 11 <| .mv (.t 6),
 oo 12 <| .bin .neq (.t 11) (ki 0)]
def rQkX3 : List O := [
 oo 13 <| .mv (.t 6),
 oo 4 <| .mv (.k (.own 1 [])),
 oo 5 <| .mv (.t 13)]
def rQkX4 : List O := [
 oo 14 <| .ld (some 2) (.t 2),
 oo 15 <| .mv (.t 1),
 oo 16 <| .call nQo [(.t 14),(.t 15)],
 oo 17 <| .un .not (.t 16)]
def rQkX5 : List O := [
 oo 4 <| .mv (.k (.own 1 [])),
 oo 5 <| .mv (ki 4)]
def rQkX6 : List O := [
 oo 18 <| .fad 0 (.t 2),
 oo 19 <| .ld none (.t 18),
 oo 20 <| .bin .eql (.t 19) (ki 0)]
def rQkX7 : List O := [
 oo 4 <| .mv (.k (.own 1 [])),
 oo 5 <| .mv (ki 13)]
def rQkX8 : List O := [
 oo 21 <| .mv (.t 1),
 oo 22 <| .app 1 (.k (.own 1 [])) (.t 21),
 oo 7 <| .mv (.t 22)]
def rQkX9 : List O := [
 oo 8 <| .mv (ki 0)]
def rQkX10 : List O := [
 oo 23 <| .mv (.t 8),
 oo 24 <| .fad 0 (.t 2),
 oo 25 <| .ld none (.t 24),
 oo 26 <| .bin .lss (.t 23) (.t 25)]
def rQkX11 : List O := [
 oo 29 <| .ld (some 2) (.t 2),
 oo 30 <| .mv (.t 7),
 oo 31 <| .mv (.t 8),
 oo 32 <| .call nQG [(.t 29),(.t 30),(.t 31)]]
def rQkX12 : List O := [
 oo 33 <| .mv (.t 7),
 oo 34 <| .mv (.t 8),
 oo 35 <| .bslice 1 1 [(.int .i64 0)] [(0,1,(.t 34))],
 oo 36 <| .app 1 (.t 33) (.t 35),
 oo 7 <| .mv (.t 36)]
def rQkX13 : List O := [
 oo 27 <| .mv (.t 8),
 oo 28 <| .bin .add (.t 27) (ki 1),
 oo 8 <| .mv (.t 28)]
def lQkX0 : C := (.seq (.seq (.reg rQkX10 false [] [2,7,8,26]) (.cond (.t 26) .skip (.exit 0))) (.seq (.blk 1 (.seq (.reg rQkX11 false [] [2,7,8,32]) (.cond (.t 32) (.reg rQkX12 false [] [2,7,8]) .skip))) (.reg rQkX13 false [] [2,7,8])))
def rQkX14 : List O := [
 oo 37 <| .mv (.t 7),
 oo 38 <| .call nQH [(.t 37)],
 oo 4 <| .mv (.t 38),
 oo 5 <| .mv (ki 0)]
def cQk : C := (.seq (.reg rQkX0 false [] [1,2]) (.seq (.seq (.reg rQkX1 false [] [1,2,6]) (.seq (.reg rQkX2 false [] [1,2,6,12]) (.cond (.t 12) (.seq (.reg rQkX3 false [] [4,5]) .ret) .skip))) (.seq (.seq (.reg rQkX4 false [] [1,2,17]) (.cond (.t 17) (.seq (.reg rQkX5 false [] [4,5]) .ret) .skip)) (.seq (.seq (.reg rQkX6 false [] [1,2,20]) (.cond (.t 20) (.seq (.reg rQkX7 false [] [4,5]) .ret) .skip)) (.seq (.reg rQkX8 false [] [2,7]) (.seq (.seq (.reg rQkX9 false [] [2,7,8]) (.blk 0 (.loop lQkX0))) (.seq (.reg rQkX14 false [] [4,5]) .ret)))))))
def qQk : AFn := ⟨39,2,[.t 4,.t 5],cQk⟩
/- cohesion/cliques.Next -/
def rQlX0 : List O := [
 oo 2 <| .box (.t 0),
 oo 4 <| .mv (.k .nils),
 oo 5 <| .mv (.k (.bool false)),
 oo 6 <| .mv (ki 0)]
def rQlX1 : List O := [
 oo 9 <| .ld (some 2) (.t 2),
 oo 10 <| .call nQz [(.t 9)],
 oo 7 <| .mv (.t 10)]
def rQlX2 : List O := [
 oo 11 <| .mv (.t 7),
 oo 12 <| .bin .neq (.t 11) (ki 0)]
def rQlX3 : List O := [
 oo 13 <| .mv (.t 7),
 oo 4 <| .mv (.k .nils),
 oo 5 <| .mv (.k (.bool false)),
 oo 6 <| .mv (.t 13)]
def rQlX4 : List O := [
 oo 8 <| .new [.nils]]
def rQlX5 : List O := [
 oo 14 <| .ld (some 2) (.t 2),
 oo 15 <| .mv (.t 1),
 oo 16 <| .mkf (.func nQJ) [] [(.t 8)],
 oo 17 <| .call nQI [(.t 14),(.t 15),(.t 16)]]
def rQlX6 : List O := [
 oo 18 <| .ld none (.t 8),
 oo 19 <| .ld none (.t 8),
 oo 20 <| .eq true .nsl (.t 19) (.k (.own 1 [])),
 oo 4 <| .mv (.t 18),
 oo 5 <| .mv (.t 20),
 oo 6 <| .mv (ki 0)]
def cQl : C := (.seq (.reg rQlX0 false [] [1,2]) (.seq (.seq (.reg rQlX1 false [] [1,2,7]) (.seq (.reg rQlX2 false [] [1,2,7,12]) (.cond (.t 12) (.seq (.reg rQlX3 false [] [4,5,6]) .ret) .skip))) (.seq (.reg rQlX4 false [] [1,2,8]) (.seq (.reg rQlX5 false [] [8]) (.seq (.reg rQlX6 true [(4,4),(5,5),(0,1),(0,2),(1,3)] [4,5,6]) .ret)))))
def qQl : AFn := ⟨21,2,[.t 4,.t 5,.t 6],cQl⟩
/- cohesion/cohesionref24.Next -/
def rQmX0 : List O := [
 oo 2 <| .box (.t 0),
 oo 4 <| .mv (.k (.own 1 [])),
 oo 5 <| .mv (.k (.bool false)),
 oo 6 <| .mv (ki 0)]
def rQmX1 : List O := [
 oo 10 <| .ld (some 2) (.t 2),
 oo 11 <| .call nQF [(.t 10)],
 oo 7 <| .mv (.t 11)]
def rQmX2 : List O := [
 oo 12 <| .mv (.t 7),
 oo 13 <| .bin .neq (.t 12) (ki 0)]
def rQmX3 : List O := [
 oo 14 <| .mv (.t 7),
 oo 4 <| .mv (.k (.own 1 [])),
 oo 5 <| .mv (.k (.bool false)),
 oo 6 <| .mv (.t 14)]
def rQmX4 : List O := [
 oo 15 <| .ld (some 2) (.t 2),
 oo 16 <| .call nQK [(.t 15),(ki 1048576)],
 oo 8 <| .mv (.t 16)]
def rQmX5 : List O := [
 oo 9 <| .mv (ki 0)]
def rQmX6 : List O := [
 oo 17 <| .mv (.t 9),
 oo 18 <| .mv (.t 8),
 oo 19 <| .len (.t 18),
 oo 20 <| .bin .lss (.t 17) (.t 19)]
def rQmX7 : List O := [
 oo 23 <| .mv (.t 8),
 oo 24 <| .mv (.t 9),
 oo 25 <| .ixa 1 (.t 23) (.t 24),
 oo 26 <| .ld none (.t 25),
 oo 27 <| .mv (.t 1),
 oo 28 <| .call nQr [(.t 26),(.t 27)],
 oo 29 <| .bin .gtr (.t 28) (ki 0)]
def rQmX8 : List O := [
 oo 30 <| .mv (.t 8),
 oo 31 <| .mv (.t 9),
 oo 32 <| .ixa 1 (.t 30) (.t 31),
 oo 33 <| .ld none (.t 32),
 oo 4 <| .mv (.t 33),
 oo 5 <| .mv (.k (.bool true)),
 oo 6 <| .mv (ki 0)]
def rQmX9 : List O := [
 oo 21 <| .mv (.t 9),
 oo 22 <| .bin .add (.t 21) (ki 1),
 oo 9 <| .mv (.t 22)]
def lQmX0 : C := (.seq (.seq (.reg rQmX6 false [] [1,8,9,20]) (.cond (.t 20) .skip (.exit 0))) (.seq (.blk 1 (.seq (.reg rQmX7 false [] [1,8,9,29]) (.cond (.t 29) (.seq (.reg rQmX8 false [] [4,5,6]) .ret) .skip))) (.reg rQmX9 false [] [1,8,9])))
def rQmX10 : List O := [
 oo 4 <| .mv (.k (.own 1 [])),
 oo 5 <| .mv (.k (.bool false)),
 oo 6 <| .mv (ki 0)]
def cQm : C := (.seq (.reg rQmX0 false [] [1,2]) (.seq (.seq (.reg rQmX1 false [] [1,2,7]) (.seq (.reg rQmX2 false [] [1,2,7,13]) (.cond (.t 13) (.seq (.reg rQmX3 false [] [4,5,6]) .ret) .skip))) (.seq (.reg rQmX4 false [] [1,8]) (.seq (.seq (.reg rQmX5 false [] [1,8,9]) (.blk 0 (.loop lQmX0))) (.seq (.reg rQmX10 false [] [4,5,6]) .ret)))))
def qQm : AFn := ⟨34,2,[.t 4,.t 5,.t 6],cQm⟩
/- cohesion/cliques.Is -/
def rQnX0 : List O := [
 oo 2 <| .box (.t 0),
 oo 4 <| .mv (.k (.bool false))]
def rQnX1 : List O := [
 oo 5 <| .ld (some 2) (.t 2),
 oo 6 <| .call nQz [(.t 5)],
 oo 7 <| .bin .eql (.t 6) (ki 0),
 oo 8 <| .mv (.t 7),
 ⟨(some 9),(some (8,true)),.mv (.t 1)⟩,
 ⟨(some 10),(some (8,true)),.fad 0 (.t 2)⟩,
 ⟨(some 11),(some (8,true)),.ld none (.t 10)⟩,
 ⟨(some 12),(some (8,true)),.call nQL [(.t 9),(.t 11)]⟩,
 oo 13 <| .pick (.t 8) (.t 12) (.k (.bool false)),
 oo 14 <| .mv (.t 13),
 ⟨(some 15),(some (14,true)),.ld (some 2) (.t 2)⟩,
 ⟨(some 16),(some (14,true)),.call nQA [(.t 15)]⟩,
 ⟨(some 17),(some (14,true)),.mv (.t 1)⟩,
 ⟨(some 18),(some (14,true)),.call nQM [(.t 16),(.t 17)]⟩,
 oo 19 <| .pick (.t 14) (.t 18) (.k (.bool false)),
 oo 4 <| .mv (.t 19)]
def cQn : C := (.seq (.reg rQnX0 false [] [1,2]) (.seq (.reg rQnX1 false [] [4]) .ret))
def qQn : AFn := ⟨20,2,[.t 4],cQn⟩
/- cohesion/cohesionref24.Is -/
def rQoX0 : List O := [
 oo 2 <| .box (.t 0),
 oo 4 <| .mv (.k (.bool false))]
def rQoX1 : List O := [
 oo 7 <| .ld (some 2) (.t 2),
 oo 8 <| .call nQF [(.t 7)],
 oo 9 <| .bin .neq (.t 8) (ki 0),
 oo 10 <| .mv (.t 9),
 ⟨(some 11),(some (10,false)),.mv (.t 1)⟩,
 ⟨(some 12),(some (10,false)),.fad 0 (.t 2)⟩,
 ⟨(some 13),(some (10,false)),.ld none (.t 12)⟩,
 ⟨(some 14),(some (10,false)),.call nQN [(.t 11),(.t 13)]⟩,
 ⟨(some 15),(some (10,false)),.un .not (.t 14)⟩,
 oo 16 <| .pick (.t 10) (.k (.bool true)) (.t 15)]
def rQoX2 : List O := [
 oo 4 <| .mv (.k (.bool false))]
def rQoX3 : List O := [
 oo 5 <| .mv (ki 0)]
def rQoX4 : List O := [
 oo 17 <| .mv (.t 5),
 oo 18 <| .mv (.t 1),
 oo 19 <| .len (.t 18),
 oo 20 <| .bin .lss (.t 17) (.t 19)]
def rQoX5 : List O := [
 oo 23 <| .mv (.t 5),
 oo 24 <| .bin .add (.t 23) (ki 1),
 oo 6 <| .mv (.t 24)]
def rQoX6 : List O := [
 oo 25 <| .mv (.t 6),
 oo 26 <| .mv (.t 1),
 oo 27 <| .len (.t 26),
 oo 28 <| .bin .lss (.t 25) (.t 27)]
def rQoX7 : List O := [
 oo 31 <| .ld (some 2) (.t 2),
 oo 32 <| .mv (.t 1),
 oo 33 <| .mv (.t 5),
 oo 34 <| .ixa 1 (.t 32) (.t 33),
 oo 35 <| .ld none (.t 34),
 oo 36 <| .mv (.t 1),
 oo 37 <| .mv (.t 6),
 oo 38 <| .ixa 1 (.t 36) (.t 37),
 oo 39 <| .ld none (.t 38),
 oo 40 <| .call nQO [(.t 31),(.t 35),(.t 39)],
 oo 41 <| .bin .lss (.t 40) (ki 0)]
def rQoX8 : List O := [
 oo 4 <| .mv (.k (.bool false))]
def rQoX9 : List O := [
 oo 29 <| .mv (.t 6),
 oo 30 <| .bin .add (.t 29) (ki 1),
 oo 6 <| .mv (.t 30)]
def lQoX0 : C := (.seq (.seq (.reg rQoX6 false [] [1,2,5,6,28]) (.cond (.t 28) .skip (.exit 2))) (.seq (.blk 3 (.seq (.reg rQoX7 true [(9,9),(10,10),(0,1),(0,2),(0,3),(0,4),(0,5),(4,5),(0,6),(4,6),(0,7),(4,7),(0,8),(1,8),(2,8),(3,8),(4,8)] [1,2,5,6,41]) (.cond (.t 41) (.seq (.reg rQoX8 false [] [4]) .ret) .skip))) (.reg rQoX9 false [] [1,2,5,6])))
def rQoX10 : List O := [
 oo 21 <| .mv (.t 5),
 oo 22 <| .bin .add (.t 21) (ki 1),
 oo 5 <| .mv (.t 22)]
def lQoX1 : C := (.seq (.seq (.reg rQoX4 false [] [1,2,5,20]) (.cond (.t 20) .skip (.exit 0))) (.seq (.blk 1 (.seq (.reg rQoX5 false [] [1,2,5,6]) (.blk 2 (.loop lQoX0)))) (.reg rQoX10 false [] [1,2,5])))
def rQoX11 : List O := [
 oo 4 <| .mv (.k (.bool true))]
def cQo : C := (.seq (.reg rQoX0 false [] [1,2]) (.seq (.seq (.reg rQoX1 false [] [1,2,16]) (.cond (.t 16) (.seq (.reg rQoX2 false [] [4]) .ret) .skip)) (.seq (.seq (.reg rQoX3 false [] [1,2,5]) (.blk 0 (.loop lQoX1))) (.seq (.reg rQoX11 false [] [4]) .ret))))
def qQo : AFn := ⟨42,2,[.t 4],cQo⟩
/- cohesion/cliques.Maximal -/
def rQpX0 : List O := [
 oo 2 <| .box (.t 0),
 oo 4 <| .mv (.k (.bool false))]
def rQpX1 : List O := [
 oo 5 <| .mv (.t 1),
 oo 6 <| .len (.t 5),
 oo 7 <| .bin .gtr (.t 6) (ki 0),
 oo 8 <| .mv (.t 7),
 ⟨(some 9),(some (8,true)),.ld (some 2) (.t 2)⟩,
 ⟨(some 10),(some (8,true)),.mv (.t 1)⟩,
 ⟨(some 11),(some (8,true)),.call nQn [(.t 9),(.t 10)]⟩,
 oo 12 <| .pick (.t 8) (.t 11) (.k (.bool false)),
 oo 13 <| .mv (.t 12),
 ⟨(some 14),(some (13,true)),.ld (some 2) (.t 2)⟩,
 ⟨(some 15),(some (13,true)),.call nQA [(.t 14)]⟩,
 ⟨(some 16),(some (13,true)),.mv (.t 1)⟩,
 ⟨(some 17),(some (13,true)),.call nQC [(.t 15),(.t 16)]⟩,
 ⟨(some 18),(some (13,true)),.bin .eql (.t 17) (.k (.int .u64 0))⟩,
 oo 19 <| .pick (.t 13) (.t 18) (.k (.bool false)),
 oo 4 <| .mv (.t 19)]
def cQp : C := (.seq (.reg rQpX0 false [] [1,2]) (.seq (.reg rQpX1 false [] [4]) .ret))
def qQp : AFn := ⟨20,2,[.t 4],cQp⟩
/- cohesion/cohesionref24.Maximal -/
def rQqX0 : List O := [
 oo 2 <| .box (.t 0),
 oo 4 <| .mv (.k (.bool false))]
def rQqX1 : List O := [
 oo 6 <| .ld (some 2) (.t 2),
 oo 7 <| .mv (.t 1),
 oo 8 <| .call nQo [(.t 6),(.t 7)],
 oo 9 <| .un .not (.t 8),
 oo 10 <| .mv (.t 9),
 ⟨(some 11),(some (10,false)),.mv (.t 1)⟩,
 ⟨(some 12),(some (10,false)),.len (.t 11)⟩,
 ⟨(some 13),(some (10,false)),.bin .eql (.t 12) (ki 0)⟩,
 oo 14 <| .pick (.t 10) (.k (.bool true)) (.t 13)]
def rQqX2 : List O := [
 oo 4 <| .mv (.k (.bool false))]
def rQqX3 : List O := [
 oo 5 <| .mv (ki 0)]
def rQqX4 : List O := [
 oo 15 <| .mv (.t 5),
 oo 16 <| .fad 0 (.t 2),
 oo 17 <| .ld none (.t 16),
 oo 18 <| .bin .lss (.t 15) (.t 17)]
def rQqX5 : List O := [
 oo 21 <| .ld (some 2) (.t 2),
 oo 22 <| .mv (.t 1),
 oo 23 <| .mv (.t 5),
 oo 24 <| .call nQG [(.t 21),(.t 22),(.t 23)]]
def rQqX6 : List O := [
 oo 4 <| .mv (.k (.bool false))]
def rQqX7 : List O := [
 oo 19 <| .mv (.t 5),
 oo 20 <| .bin .add (.t 19) (ki 1),
 oo 5 <| .mv (.t 20)]
def lQqX0 : C := (.seq (.seq (.reg rQqX4 false [] [1,2,5,18]) (.cond (.t 18) .skip (.exit 0))) (.seq (.blk 1 (.seq (.reg rQqX5 false [] [1,2,5,24]) (.cond (.t 24) (.seq (.reg rQqX6 false [] [4]) .ret) .skip))) (.reg rQqX7 false [] [1,2,5])))
def rQqX8 : List O := [
 oo 4 <| .mv (.k (.bool true))]
def cQq : C := (.seq (.reg rQqX0 false [] [1,2]) (.seq (.seq (.reg rQqX1 false [] [1,2,14]) (.cond (.t 14) (.seq (.reg rQqX2 false [] [4]) .ret) .skip)) (.seq (.seq (.reg rQqX3 false [] [1,2,5]) (.blk 0 (.loop lQqX0))) (.seq (.reg rQqX8 false [] [4]) .ret))))
def qQq : AFn := ⟨25,2,[.t 4],cQq⟩
/- cohesion/cohesionref02.Cmp -/
def rQrX0 : List O := [
 oo 4 <| .mv (ki 0)]
def rQrX1 : List O := [
 oo 6 <| .mv (.t 0),
 oo 7 <| .len (.t 6),
 oo 8 <| .mv (ki 0)]
def rQrX2 : List O := [
 oo 9 <| .bin .lss (.t 8) (.t 7)]
def rQrX3 : List O := [
 oo 10 <| .mv (.t 8),
 oo 5 <| .mv (.t 10)]
def rQrX4 : List O := [
 oo 12 <| .mv (.t 5),
 oo 13 <| .mv (.t 1),
 oo 14 <| .len (.t 13),
 oo 15 <| .bin .geq (.t 12) (.t 14),
 oo 16 <| .mv (.t 15),
 ⟨(some 17),(some (16,false)),.mv (.t 0)⟩,
 ⟨(some 18),(some (16,false)),.mv (.t 5)⟩,
 ⟨(some 19),(some (16,false)),.ixa 1 (.t 17) (.t 18)⟩,
 ⟨(some 20),(some (16,false)),.ld none (.t 19)⟩,
 ⟨(some 21),(some (16,false)),.mv (.t 1)⟩,
 ⟨(some 22),(some (16,false)),.mv (.t 5)⟩,
 ⟨(some 23),(some (16,false)),.ixa 1 (.t 21) (.t 22)⟩,
 ⟨(some 24),(some (16,false)),.ld none (.t 23)⟩,
 ⟨(some 25),(some (16,false)),.bin .gtr (.t 20) (.t 24)⟩,
 oo 26 <| .pick (.t 16) (.k (.bool true)) (.t 25),
 oo 11 <| .mv (.t 26)]
def rQrX5 : List O := [
 oo 4 <| .mv (ki 1)]
def rQrX6 : List O := [
 oo 28 <| .mv (.t 0),
 oo 29 <| .mv (.t 5),
 oo 30 <| .ixa 1 (.t 28) (.t 29),
 oo 31 <| .ld none (.t 30),
 oo 32 <| .mv (.t 1),
 oo 33 <| .mv (.t 5),
 oo 34 <| .ixa 1 (.t 32) (.t 33),
 oo 35 <| .ld none (.t 34),
 oo 36 <| .bin .lss (.t 31) (.t 35),
 oo 27 <| .mv (.t 36)]
def rQrX7 : List O := [
 oo 4 <| .mv (.k (.int .i64 (-1)))]
def rQrX8 : List O := [
 oo 37 <| .bin .add (.t 8) (ki 1),
 oo 8 <| .mv (.t 37)]
def lQrX0 : C := (.seq (.reg rQrX2 false [] [0,1,7,8,9]) (.seq (.cond (.t 9) .skip (.exit 0)) (.seq (.blk 1 (.seq (.reg rQrX3 false [] [0,1,5,7,8]) (.blk 2 (.seq (.reg rQrX4 true [(3,3),(4,4),(13,13),(14,14),(15,15),(8,9),(8,10),(8,11),(5,12),(6,12),(7,12),(8,12)] [0,1,5,7,8,11]) (.cond (.t 11) (.seq (.reg rQrX5 false [] [4]) .ret) (.seq (.reg rQrX6 true [(8,8),(9,9),(3,4),(3,5),(3,6),(0,7),(1,7),(2,7),(3,7)] [0,1,7,8,27]) (.cond (.t 27) (.seq (.reg rQrX7 false [] [4]) .ret) .skip))))))) (.reg rQrX8 false [] [0,1,7,8]))))
def rQrX9 : List O := [
 oo 38 <| .mv (.t 0),
 oo 39 <| .len (.t 38),
 oo 40 <| .mv (.t 1),
 oo 41 <| .len (.t 40),
 oo 42 <| .bin .lss (.t 39) (.t 41)]
def rQrX10 : List O := [
 oo 4 <| .mv (.k (.int .i64 (-1)))]
def rQrX11 : List O := [
 oo 4 <| .mv (ki 0)]
def cQr : C := (.seq (.reg rQrX0 false [] [0,1]) (.seq (.seq (.reg rQrX1 false [] [0,1,7,8]) (.blk 0 (.loop lQrX0))) (.seq (.seq (.reg rQrX9 false [] [42]) (.cond (.t 42) (.seq (.reg rQrX10 false [] [4]) .ret) .skip)) (.seq (.reg rQrX11 false [] [4]) .ret))))
def qQr : AFn := ⟨43,2,[.t 4],cQr⟩
/- cohesion/cliques.All -/
def rQsX0 : List O := [
 oo 2 <| .box (.t 0),
 oo 3 <| .box (.t 1),
 oo 4 <| .mv (.k (.own 1 [])),
 oo 5 <| .mv (ki 0)]
def rQsX1 : List O := [
 oo 8 <| .ld (some 2) (.t 2),
 oo 9 <| .call nQz [(.t 8)],
 oo 6 <| .mv (.t 9)]
def rQsX2 : List O := [
 oo 10 <| .mv (.t 6),
 oo 11 <| .bin .neq (.t 10) (ki 0)]
def rQsX3 : List O := [
 oo 12 <| .mv (.t 6),
 oo 4 <| .mv (.k (.own 1 [])),
 oo 5 <| .mv (.t 12)]
def rQsX4 : List O := [
 oo 13 <| .ld none (.t 3),
 oo 14 <| .bin .lss (.t 13) (ki 0),
 oo 15 <| .mv (.t 14),
 ⟨(some 16),(some (15,false)),.ld none (.t 3)⟩,
 ⟨(some 17),(some (15,false)),.bin .gtr (.t 16) (ki 4096)⟩,
 oo 18 <| .pick (.t 15) (.k (.bool true)) (.t 17)]
def rQsX5 : List O := [
 oo 4 <| .mv (.k (.own 1 [])),
 oo 5 <| .mv (ki 1)]
def rQsX6 : List O := [
 oo 7 <| .new [(.own 1 [])]]
def rQsX7 : List O := [
 oo 19 <| .ld (some 2) (.t 2),
 oo 20 <| .mkf (.func nQP) [] [(.t 7),(.t 3)],
 oo 21 <| .call nQI [(.t 19),(.k (.own 1 [])),(.t 20)]]
def rQsX8 : List O := [
 oo 22 <| .ld none (.t 7),
 oo 23 <| .len (.t 22),
 oo 24 <| .ld none (.t 3),
 oo 25 <| .bin .gtr (.t 23) (.t 24)]
def rQsX9 : List O := [
 oo 4 <| .mv (.k (.own 1 [])),
 oo 5 <| .mv (ki 3)]
def rQsX10 : List O := [
 oo 26 <| .ld none (.t 7),
 oo 4 <| .mv (.t 26),
 oo 5 <| .mv (ki 0)]
def cQs : C := (.seq (.reg rQsX0 false [] [2,3]) (.seq (.seq (.reg rQsX1 false [] [2,3,6]) (.seq (.reg rQsX2 false [] [2,3,6,11]) (.cond (.t 11) (.seq (.reg rQsX3 false [] [4,5]) .ret) .skip))) (.seq (.seq (.reg rQsX4 false [] [2,3,18]) (.cond (.t 18) (.seq (.reg rQsX5 false [] [4,5]) .ret) .skip)) (.seq (.reg rQsX6 false [] [2,3,7]) (.seq (.reg rQsX7 false [] [3,7]) (.seq (.seq (.reg rQsX8 false [] [7,25]) (.cond (.t 25) (.seq (.reg rQsX9 false [] [4,5]) .ret) .skip)) (.seq (.reg rQsX10 false [] [4,5]) .ret)))))))
def qQs : AFn := ⟨27,2,[.t 4,.t 5],cQs⟩
/- cohesion/cohesionref24.All -/
def rQtX0 : List O := [
 oo 2 <| .box (.t 0),
 oo 4 <| .mv (.k (.own 1 [])),
 oo 5 <| .mv (ki 0)]
def rQtX1 : List O := [
 oo 8 <| .ld (some 2) (.t 2),
 oo 9 <| .call nQF [(.t 8)],
 oo 6 <| .mv (.t 9)]
def rQtX2 : List O := [
 oo 10 <| .mv (.t 6),
 oo 11 <| .bin .neq (.t 10) (ki 0)]
def rQtX3 : List O := [
 oo 12 <| .mv (.t 6),
 oo 4 <| .mv (.k (.own 1 [])),
 oo 5 <| .mv (.t 12)]
def rQtX4 : List O := [
 oo 13 <| .mv (.t 1),
 oo 14 <| .bin .lss (.t 13) (ki 0),
 oo 15 <| .mv (.t 14),
 ⟨(some 16),(some (15,false)),.mv (.t 1)⟩,
 ⟨(some 17),(some (15,false)),.bin .gtr (.t 16) (ki 4096)⟩,
 oo 18 <| .pick (.t 15) (.k (.bool true)) (.t 17)]
def rQtX5 : List O := [
 oo 4 <| .mv (.k (.own 1 [])),
 oo 5 <| .mv (ki 1)]
def rQtX6 : List O := [
 oo 19 <| .ld (some 2) (.t 2),
 oo 20 <| .mv (.t 1),
 oo 21 <| .call nQK [(.t 19),(.t 20)],
 oo 7 <| .mv (.t 21)]
def rQtX7 : List O := [
 oo 22 <| .mv (.t 7),
 oo 23 <| .len (.t 22),
 oo 24 <| .mv (.t 1),
 oo 25 <| .bin .gtr (.t 23) (.t 24)]
def rQtX8 : List O := [
 oo 4 <| .mv (.k (.own 1 [])),
 oo 5 <| .mv (ki 3)]
def rQtX9 : List O := [
 oo 26 <| .mv (.t 7),
 oo 4 <| .mv (.t 26),
 oo 5 <| .mv (ki 0)]
def cQt : C := (.seq (.reg rQtX0 false [] [1,2]) (.seq (.seq (.reg rQtX1 false [] [1,2,6]) (.seq (.reg rQtX2 false [] [1,2,6,11]) (.cond (.t 11) (.seq (.reg rQtX3 false [] [4,5]) .ret) .skip))) (.seq (.seq (.reg rQtX4 false [] [1,2,18]) (.cond (.t 18) (.seq (.reg rQtX5 false [] [4,5]) .ret) .skip)) (.seq (.reg rQtX6 false [] [1,7]) (.seq (.seq (.reg rQtX7 false [] [7,25]) (.cond (.t 25) (.seq (.reg rQtX8 false [] [4,5]) .ret) .skip)) (.seq (.reg rQtX9 false [] [4,5]) .ret))))))
def qQt : AFn := ⟨27,2,[.t 4,.t 5],cQt⟩
/- cohesion/cohesionref24.Same -/
def rQuX0 : List O := [
 oo 4 <| .mv (.k (.bool false))]
def rQuX1 : List O := [
 oo 6 <| .mv (.t 0),
 oo 7 <| .len (.t 6),
 oo 8 <| .mv (.t 1),
 oo 9 <| .len (.t 8),
 oo 10 <| .bin .neq (.t 7) (.t 9)]
def rQuX2 : List O := [
 oo 4 <| .mv (.k (.bool false))]
def rQuX3 : List O := [
 oo 5 <| .mv (ki 0)]
def rQuX4 : List O := [
 oo 11 <| .mv (.t 5),
 oo 12 <| .mv (.t 0),
 oo 13 <| .len (.t 12),
 oo 14 <| .bin .lss (.t 11) (.t 13)]
def rQuX5 : List O := [
 oo 17 <| .mv (.t 0),
 oo 18 <| .mv (.t 5),
 oo 19 <| .ixa 1 (.t 17) (.t 18),
 oo 20 <| .ld none (.t 19),
 oo 21 <| .mv (.t 1),
 oo 22 <| .mv (.t 5),
 oo 23 <| .ixa 1 (.t 21) (.t 22),
 oo 24 <| .ld none (.t 23),
 oo 25 <| .call nQr [(.t 20),(.t 24)],
 oo 26 <| .bin .neq (.t 25) (ki 0)]
def rQuX6 : List O := [
 oo 4 <| .mv (.k (.bool false))]
def rQuX7 : List O := [
 oo 15 <| .mv (.t 5),
 oo 16 <| .bin .add (.t 15) (ki 1),
 oo 5 <| .mv (.t 16)]
def lQuX0 : C := (.seq (.seq (.reg rQuX4 false [] [0,1,5,14]) (.cond (.t 14) .skip (.exit 0))) (.seq (.blk 1 (.seq (.reg rQuX5 true [(8,8),(9,9),(3,4),(3,5),(3,6),(0,7),(1,7),(2,7),(3,7)] [0,1,5,26]) (.cond (.t 26) (.seq (.reg rQuX6 false [] [4]) .ret) .skip))) (.reg rQuX7 false [] [0,1,5])))
def rQuX8 : List O := [
 oo 4 <| .mv (.k (.bool true))]
def cQu : C := (.seq (.reg rQuX0 false [] [0,1]) (.seq (.seq (.reg rQuX1 false [] [0,1,10]) (.cond (.t 10) (.seq (.reg rQuX2 false [] [4]) .ret) .skip)) (.seq (.seq (.reg rQuX3 false [] [0,1,5]) (.blk 0 (.loop lQuX0))) (.seq (.reg rQuX8 false [] [4]) .ret))))
def qQu : AFn := ⟨27,2,[.t 4],cQu⟩
/- cohesion/cliques.Check -/
def rQvX0 : List O := [
 oo 2 <| .box (.t 0),
 oo 3 <| .box (.t 1),
 oo 4 <| .mv (.k (.bool false))]
def rQvX1 : List O := [
 oo 7 <| .ld (some 2) (.t 2),
 oo 8 <| .call nQz [(.t 7)],
 oo 9 <| .bin .neq (.t 8) (ki 0)]
def rQvX2 : List O := [
 oo 4 <| .mv (.k (.bool false))]
def rQvX3 : List O := [
 oo 5 <| .new [(.int .i64 0)],
 oo 6 <| .new [(.bool false)],
 oz <| .st 1 (.t 5) (ki 0),
 oz <| .st 1 (.t 6) (.k (.bool true))]
def rQvX4 : List O := [
 oo 10 <| .ld (some 2) (.t 2),
 oo 11 <| .mkf (.func nQQ) [] [(.t 5),(.t 3),(.t 6)],
 oo 12 <| .call nQI [(.t 10),(.k (.own 1 [])),(.t 11)]]
def rQvX5 : List O := [
 oo 13 <| .ld none (.t 6),
 oo 14 <| .mv (.t 13),
 ⟨(some 15),(some (14,true)),.ld none (.t 5)⟩,
 ⟨(some 16),(some (14,true)),.ld none (.t 3)⟩,
 ⟨(some 17),(some (14,true)),.len (.t 16)⟩,
 ⟨(some 18),(some (14,true)),.bin .eql (.t 15) (.t 17)⟩,
 oo 19 <| .pick (.t 14) (.t 18) (.k (.bool false)),
 oo 4 <| .mv (.t 19)]
def cQv : C := (.seq (.reg rQvX0 false [] [2,3]) (.seq (.seq (.reg rQvX1 false [] [2,3,9]) (.cond (.t 9) (.seq (.reg rQvX2 false [] [4]) .ret) .skip)) (.seq (.reg rQvX3 false [] [2,3,5,6]) (.seq (.reg rQvX4 false [] [3,5,6]) (.seq (.reg rQvX5 false [] [4]) .ret)))))
def qQv : AFn := ⟨20,2,[.t 4],cQv⟩
/- cohesion/cohesionref24.Check -/
def rQwX0 : List O := [
 oo 2 <| .box (.t 0),
 oo 4 <| .mv (.k (.bool false))]
def rQwX1 : List O := [
 oo 5 <| .ld (some 2) (.t 2),
 oo 6 <| .call nQF [(.t 5)],
 oo 7 <| .bin .eql (.t 6) (ki 0),
 oo 8 <| .mv (.t 7),
 ⟨(some 9),(some (8,true)),.mv (.t 1)⟩,
 ⟨(some 10),(some (8,true)),.ld (some 2) (.t 2)⟩,
 ⟨(some 11),(some (8,true)),.mv (.t 1)⟩,
 ⟨(some 12),(some (8,true)),.len (.t 11)⟩,
 ⟨(some 13),(some (8,true)),.call nQK [(.t 10),(.t 12)]⟩,
 ⟨(some 14),(some (8,true)),.call nQu [(.t 9),(.t 13)]⟩,
 oo 15 <| .pick (.t 8) (.t 14) (.k (.bool false)),
 oo 4 <| .mv (.t 15)]
def cQw : C := (.seq (.reg rQwX0 false [] [1,2]) (.seq (.reg rQwX1 false [] [4]) .ret))
def qQw : AFn := ⟨16,2,[.t 4],cQw⟩
/- cohesion/cohesionref03.Of -/
def rQxX0 : List O := [
 oo 4 <| .new [(.int .i64 0),(.own 2 [])],
 oo 5 <| .mv (ki 0)]
def rQxX1 : List O := [
 oo 9 <| .mv (.t 0),
 oo 10 <| .bin .lss (.t 9) (ki 0),
 oo 11 <| .mv (.t 10),
 ⟨(some 12),(some (11,false)),.mv (.t 0)⟩,
 ⟨(some 13),(some (11,false)),.bin .gtr (.t 12) (ki 64)⟩,
 oo 14 <| .pick (.t 11) (.k (.bool true)) (.t 13)]
def rQxX2 : List O := [
 oo 15 <| .build [(.int .i64 0),(.own 2 [])] [],
 oz <| .st 2 (.t 4) (.t 15),
 oo 5 <| .mv (ki 1)]
def rQxX3 : List O := [
 oo 16 <| .mv (.t 0),
 oo 17 <| .build [(.int .i64 0),(.own 2 [])] [(0,1,(.t 16))],
 oo 6 <| .new [(.int .i64 0),(.own 2 [])],
 oz <| .st 2 (.t 6) (.t 17)]
def rQxX4 : List O := [
 oo 18 <| .mv (.t 1),
 oo 19 <| .len (.t 18),
 oo 20 <| .mv (ki 0)]
def rQxX5 : List O := [
 oo 21 <| .bin .lss (.t 20) (.t 19)]
def rQxX6 : List O := [
 oo 22 <| .ixa 2 (.t 18) (.t 20),
 oo 23 <| .ld (some 2) (.t 22),
 oo 8 <| .new [(.int .i64 0),(.int .i64 0)],
 oz <| .st 2 (.t 8) (.t 23)]
def rQxX7 : List O := [
 oo 24 <| .mv (.t 0),
 oo 25 <| .fad 0 (.t 8),
 oo 26 <| .ld none (.t 25),
 oo 27 <| .fad 1 (.t 8),
 oo 28 <| .ld none (.t 27),
 oo 29 <| .call nQS [(.t 24),(.t 26),(.t 28)],
 oo 30 <| .un .not (.t 29)]
def rQxX8 : List O := [
 oo 31 <| .build [(.int .i64 0),(.own 2 [])] [],
 oz <| .st 2 (.t 4) (.t 31),
 oo 5 <| .mv (ki 6)]
def rQxX9 : List O := [
 oo 32 <| .fad 1 (.t 6),
 oo 33 <| .ld none (.t 32),
 oo 34 <| .fad 0 (.t 8),
 oo 35 <| .ld none (.t 34),
 oo 36 <| .fad 1 (.t 8),
 oo 37 <| .ld none (.t 36),
 oo 38 <| .call nQU [(.t 35),(.t 37)],
 oo 39 <| .call nQT [(.t 33),(.t 38)],
 oo 40 <| .fad 1 (.t 6),
 oz <| .st 1 (.t 40) (.t 39)]
def rQxX10 : List O := [
 oo 41 <| .bin .add (.t 20) (ki 1),
 oo 20 <| .mv (.t 41)]
def lQxX0 : C := (.seq (.reg rQxX5 false [] [0,4,6,18,19,20,21]) (.seq (.cond (.t 21) .skip (.exit 0)) (.seq (.blk 1 (.seq (.reg rQxX6 false [] [0,4,6,8,18,19,20]) (.seq (.seq (.reg rQxX7 false [] [0,4,6,8,18,19,20,30]) (.cond (.t 30) (.seq (.reg rQxX8 false [] [4,5]) .ret) .skip)) (.reg rQxX9 true [(7,7),(8,8),(9,9),(1,2),(0,3),(1,3),(1,4),(3,4),(0,5),(1,5),(2,5),(3,5),(0,6),(1,6)] [0,4,6,18,19,20])))) (.reg rQxX10 false [] [0,4,6,18,19,20]))))
def rQxX11 : List O := [
 oo 42 <| .ld (some 2) (.t 6),
 oz <| .st 2 (.t 4) (.t 42),
 oo 5 <| .mv (ki 0)]
def cQx : C := (.seq (.reg rQxX0 false [] [0,1,4]) (.seq (.seq (.reg rQxX1 false [] [0,1,4,14]) (.cond (.t 14) (.seq (.reg rQxX2 false [] [4,5]) .ret) .skip)) (.seq (.reg rQxX3 false [] [0,1,4,6]) (.seq (.seq (.reg rQxX4 false [] [0,4,6,18,19,20]) (.blk 0 (.loop lQxX0))) (.seq (.reg rQxX11 false [] [4,5]) .ret)))))
def qQx : AFn := ⟨43,2,[.c 4 (some 2),.t 5],cQx⟩
/- cohesion/cohesionmake.Mod -/
def rQyX0 : List O := [
 oo 4 <| .mv (ki 0)]
def rQyX1 : List O := [
 oo 5 <| .mv (.t 0),
 oo 6 <| .mv (.t 1),
 oo 7 <| .bin .rem (.t 5) (.t 6),
 oo 8 <| .mv (.t 1),
 oo 9 <| .bin .add (.t 7) (.t 8),
 oo 10 <| .mv (.t 1),
 oo 11 <| .bin .rem (.t 9) (.t 10),
 oo 4 <| .mv (.t 11)]
def cQy : C := (.seq (.reg rQyX0 false [] [0,1]) (.seq (.reg rQyX1 false [] [4]) .ret))
def qQy : AFn := ⟨12,2,[.t 4],cQy⟩
/- cohesion/graph.Check -/
def rQzX0 : List O := [
 oo 1 <| .box (.t 0),
 oo 2 <| .mv (ki 0)]
def rQzX1 : List O := [
 oo 5 <| .fad 0 (.t 1),
 oo 6 <| .ld none (.t 5),
 oo 7 <| .bin .lss (.t 6) (ki 0),
 oo 8 <| .mv (.t 7),
 ⟨(some 9),(some (8,false)),.fad 0 (.t 1)⟩,
 ⟨(some 10),(some (8,false)),.ld none (.t 9)⟩,
 ⟨(some 11),(some (8,false)),.bin .gtr (.t 10) (ki 64)⟩,
 oo 12 <| .pick (.t 8) (.k (.bool true)) (.t 11)]
def rQzX2 : List O := [
 oo 2 <| .mv (ki 1)]
def rQzX3 : List O := [
 oo 13 <| .fad 1 (.t 1),
 oo 14 <| .ld none (.t 13),
 oo 15 <| .len (.t 14),
 oo 16 <| .mv (ki 0)]
def rQzX4 : List O := [
 oo 17 <| .bin .lss (.t 16) (.t 15)]
def rQzX5 : List O := [
 oo 18 <| .mv (.t 16),
 oo 19 <| .ixa 2 (.t 14) (.t 16),
 oo 20 <| .ld (some 2) (.t 19),
 oo 4 <| .new [(.int .i64 0),(.int .i64 0)],
 oo 3 <| .mv (.t 18),
 oz <| .st 2 (.t 4) (.t 20)]
def rQzX6 : List O := [
 oo 22 <| .fad 0 (.t 4),
 oo 23 <| .ld none (.t 22),
 oo 24 <| .bin .lss (.t 23) (ki 0),
 oo 25 <| .mv (.t 24),
 ⟨(some 26),(some (25,false)),.fad 0 (.t 4)⟩,
 ⟨(some 27),(some (25,false)),.ld none (.t 26)⟩,
 ⟨(some 28),(some (25,false)),.fad 1 (.t 4)⟩,
 ⟨(some 29),(some (25,false)),.ld none (.t 28)⟩,
 ⟨(some 30),(some (25,false)),.bin .geq (.t 27) (.t 29)⟩,
 oo 31 <| .pick (.t 25) (.k (.bool true)) (.t 30),
 oo 32 <| .mv (.t 31),
 ⟨(some 33),(some (32,false)),.fad 1 (.t 4)⟩,
 ⟨(some 34),(some (32,false)),.ld none (.t 33)⟩,
 ⟨(some 35),(some (32,false)),.fad 0 (.t 1)⟩,
 ⟨(some 36),(some (32,false)),.ld none (.t 35)⟩,
 ⟨(some 37),(some (32,false)),.bin .geq (.t 34) (.t 36)⟩,
 oo 38 <| .pick (.t 32) (.k (.bool true)) (.t 37),
 oo 21 <| .mv (.t 38)]
def rQzX7 : List O := [
 oo 2 <| .mv (ki 6)]
def rQzX8 : List O := [
 oo 40 <| .mv (.t 3),
 oo 41 <| .bin .gtr (.t 40) (ki 0),
 oo 42 <| .mv (.t 41),
 ⟨(some 43),(some (42,true)),.fad 1 (.t 1)⟩,
 ⟨(some 44),(some (42,true)),.ld none (.t 43)⟩,
 ⟨(some 45),(some (42,true)),.mv (.t 3)⟩,
 ⟨(some 46),(some (42,true)),.bin .sub (.t 45) (ki 1)⟩,
 ⟨(some 47),(some (42,true)),.ixa 2 (.t 44) (.t 46)⟩,
 ⟨(some 48),(some (42,true)),.ld (some 2) (.t 47)⟩,
 ⟨(some 49),(some (42,true)),.ld (some 2) (.t 4)⟩,
 ⟨(some 50),(some (42,true)),.call nQV [(.t 48),(.t 49)]⟩,
 ⟨(some 51),(some (42,true)),.bin .geq (.t 50) (ki 0)⟩,
 oo 52 <| .pick (.t 42) (.t 51) (.k (.bool false)),
 oo 39 <| .mv (.t 52)]
def rQzX9 : List O := [
 oo 2 <| .mv (ki 5)]
def rQzX10 : List O := [
 oo 53 <| .bin .add (.t 16) (ki 1),
 oo 16 <| .mv (.t 53)]
def lQzX0 : C := (.seq (.reg rQzX4 false [] [1,14,15,16,17]) (.seq (.cond (.t 17) .skip (.exit 0)) (.seq (.blk 1 (.seq (.reg rQzX5 false [] [1,3,4,14,15,16]) (.blk 2 (.seq (.reg rQzX6 false [] [1,3,4,14,15,16,21]) (.cond (.t 21) (.seq (.reg rQzX7 false [] [2]) .ret) (.seq (.reg rQzX8 true [(0,0),(1,1),(2,2),(10,10),(11,11),(12,12),(13,13),(4,5),(4,6),(3,9),(4,9),(5,9),(6,9),(7,9),(8,9)] [1,14,15,16,39]) (.cond (.t 39) (.seq (.reg rQzX9 false [] [2]) .ret) .skip))))))) (.reg rQzX10 false [] [1,14,15,16]))))
def rQzX11 : List O := [
 oo 2 <| .mv (ki 0)]
def cQz : C := (.seq (.reg rQzX0 false [] [1]) (.seq (.seq (.reg rQzX1 false [] [1,12]) (.cond (.t 12) (.seq (.reg rQzX2 false [] [2]) .ret) .skip)) (.seq (.seq (.reg rQzX3 false [] [1,14,15,16]) (.blk 0 (.loop lQzX0))) (.seq (.reg rQzX11 false [] [2]) .ret))))
def qQz : AFn := ⟨54,1,[.t 2],cQz⟩
/- cohesion/cliques.masks -/
def rQAX0 : List O := [
 oo 1 <| .box (.t 0),
 oo 2 <| .mv (.k (.own 1 []))]
def rQAX1 : List O := [
 oo 6 <| .fad 0 (.t 1),
 oo 7 <| .ld none (.t 6),
 oo 8 <| .mks 1 [(.int .u64 0)] (.t 7) (.t 7),
 oo 3 <| .mv (.t 8)]
def rQAX2 : List O := [
 oo 9 <| .fad 1 (.t 1),
 oo 10 <| .ld none (.t 9),
 oo 11 <| .len (.t 10),
 oo 12 <| .mv (ki 0)]
def rQAX3 : List O := [
 oo 13 <| .bin .lss (.t 12) (.t 11)]
def rQAX4 : List O := [
 oo 14 <| .ixa 2 (.t 10) (.t 12),
 oo 15 <| .ld (some 2) (.t 14),
 oo 5 <| .new [(.int .i64 0),(.int .i64 0)],
 oz <| .st 2 (.t 5) (.t 15)]
def rQAX5 : List O := [
 oo 16 <| .mv (.t 3),
 oo 17 <| .fad 0 (.t 5),
 oo 18 <| .ld none (.t 17),
 oo 19 <| .ixa 1 (.t 16) (.t 18),
 oo 20 <| .ld none (.t 19),
 oo 21 <| .fad 1 (.t 5),
 oo 22 <| .ld none (.t 21),
 oo 23 <| .bin .shl (.k (.int .u64 1)) (.t 22),
 oo 24 <| .bin .or (.t 20) (.t 23),
 oo 25 <| .ixa 1 (.t 16) (.t 18),
 oz <| .st 1 (.t 25) (.t 24)]
def rQAX6 : List O := [
 oo 26 <| .mv (.t 3),
 oo 27 <| .fad 1 (.t 5),
 oo 28 <| .ld none (.t 27),
 oo 29 <| .ixa 1 (.t 26) (.t 28),
 oo 30 <| .ld none (.t 29),
 oo 31 <| .fad 0 (.t 5),
 oo 32 <| .ld none (.t 31),
 oo 33 <| .bin .shl (.k (.int .u64 1)) (.t 32),
 oo 34 <| .bin .or (.t 30) (.t 33),
 oo 35 <| .ixa 1 (.t 26) (.t 28),
 oz <| .st 1 (.t 35) (.t 34)]
def rQAX7 : List O := [
 oo 36 <| .bin .add (.t 12) (ki 1),
 oo 12 <| .mv (.t 36)]
def lQAX0 : C := (.seq (.reg rQAX3 false [] [3,10,11,12,13]) (.seq (.cond (.t 13) .skip (.exit 0)) (.seq (.blk 1 (.seq (.reg rQAX4 false [] [3,5,10,11,12]) (.seq (.reg rQAX5 true [(8,8),(9,9),(10,10),(0,2),(2,5),(4,5),(0,6),(1,6),(2,6),(3,6),(4,6),(2,7),(4,7)] [3,5,10,11,12]) (.reg rQAX6 true [(8,8),(9,9),(10,10),(0,2),(2,5),(4,5),(0,6),(1,6),(2,6),(3,6),(4,6),(2,7),(4,7)] [3,10,11,12])))) (.reg rQAX7 false [] [3,10,11,12]))))
def rQAX8 : List O := [
 oo 37 <| .mv (.t 3),
 oo 2 <| .mv (.t 37)]
def cQA : C := (.seq (.reg rQAX0 false [] [1]) (.seq (.reg rQAX1 false [] [1,3]) (.seq (.seq (.reg rQAX2 false [] [3,10,11,12]) (.blk 0 (.loop lQAX0))) (.seq (.reg rQAX8 false [] [2]) .ret))))
def qQA : AFn := ⟨38,1,[.t 2],cQA⟩
/- slices.Clone[[]int,int] -/
def rQBX0 : List O := [
 oo 2 <| .mv (.k (.own 1 []))]
def rQBX1 : List O := [
 oo 3 <| .mv (.t 0),
 oo 4 <| .eq false .nsl (.t 3) (.k (.own 1 []))]
def rQBX2 : List O := [
 oo 2 <| .mv (.k (.own 1 []))]
def rQBX3 : List O := [
 oo 5 <| .bslice 1 0 [(.int .i64 0)] [],
 oo 6 <| .mv (.t 0),
 oo 7 <| .app 1 (.t 5) (.t 6),
 oo 2 <| .mv (.t 7)]
def cQB : C := (.seq (.reg rQBX0 false [] [0]) (.seq (.seq (.reg rQBX1 false [] [0,4]) (.cond (.t 4) (.seq (.reg rQBX2 false [] [2]) .ret) .skip)) (.seq (.reg rQBX3 false [] [2]) .ret)))
def qQB : AFn := ⟨8,1,[.t 2],cQB⟩
/- cohesion/cliques.common -/
def rQCX0 : List O := [
 oo 4 <| .mv (.k (.int .u64 0))]
def rQCX1 : List O := [
 oo 8 <| .mv (.t 0),
 oo 9 <| .len (.t 8),
 oo 10 <| .call nQW [(.t 9)],
 oo 5 <| .mv (.t 10)]
def rQCX2 : List O := [
 oo 11 <| .mv (.t 1),
 oo 12 <| .len (.t 11),
 oo 13 <| .mv (ki 0)]
def rQCX3 : List O := [
 oo 14 <| .bin .lss (.t 13) (.t 12)]
def rQCX4 : List O := [
 oo 15 <| .ixa 1 (.t 11) (.t 13),
 oo 16 <| .ld none (.t 15),
 oo 7 <| .mv (.t 16)]
def rQCX5 : List O := [
 oo 17 <| .mv (.t 5),
 oo 18 <| .mv (.t 0),
 oo 19 <| .mv (.t 7),
 oo 20 <| .ixa 1 (.t 18) (.t 19),
 oo 21 <| .ld none (.t 20),
 oo 22 <| .bin .and (.t 17) (.t 21),
 oo 5 <| .mv (.t 22)]
def rQCX6 : List O := [
 oo 23 <| .bin .add (.t 13) (ki 1),
 oo 13 <| .mv (.t 23)]
def lQCX0 : C := (.seq (.reg rQCX3 false [] [0,5,11,12,13,14]) (.seq (.cond (.t 14) .skip (.exit 0)) (.seq (.blk 1 (.seq (.reg rQCX4 false [] [0,5,7,11,12,13]) (.reg rQCX5 false [] [0,5,11,12,13]))) (.reg rQCX6 false [] [0,5,11,12,13]))))
def rQCX7 : List O := [
 oo 24 <| .mv (.t 5),
 oo 4 <| .mv (.t 24)]
def cQC : C := (.seq (.reg rQCX0 false [] [0,1]) (.seq (.reg rQCX1 false [] [0,1,5]) (.seq (.seq (.reg rQCX2 false [] [0,5,11,12,13]) (.blk 0 (.loop lQCX0))) (.seq (.reg rQCX7 false [] [4]) .ret))))
def qQC : AFn := ⟨25,2,[.t 4],cQC⟩
/- math/bits.TrailingZeros64 -/
def rQDX0 : List O := [
 oo 2 <| .mv (ki 0)]
def rQDX1 : List O := [
 oo 3 <| .mv (.t 0),
 oo 4 <| .bin .eql (.t 3) (.k (.int .u64 0))]
def rQDX2 : List O := [
 oo 2 <| .mv (ki 64)]
def rQDX3 : List O := [
 oo 5 <| .mv (.t 0),
 oo 6 <| .mv (.t 0),
 oo 7 <| .un .neg (.t 6),
 oo 8 <| .bin .and (.t 5) (.t 7),
 oo 9 <| .bin .mul (.t 8) (.k (.int .u64 285870213051353865)),
 oo 10 <| .bin .shr (.t 9) (.k (.int .u64 58)),
 oo 11 <| .ixp 64 1 (.g 0) (.t 10),
 oo 12 <| .ld none (.t 11),
 oo 13 <| .cvt .i64 (.t 12),
 oo 2 <| .mv (.t 13)]
def cQD : C := (.seq (.reg rQDX0 false [] [0]) (.seq (.seq (.reg rQDX1 false [] [0,4]) (.cond (.t 4) (.seq (.reg rQDX2 false [] [2]) .ret) .skip)) (.seq (.reg rQDX3 false [] [2]) .ret)))
def qQD : AFn := ⟨14,1,[.t 2],cQD⟩
/- slices.Sort[[]int,int] -/
def rQEX0 : List O := [
 oo 3 <| .mv (.t 0),
 oo 4 <| .len (.t 3),
 oo 2 <| .mv (.t 4)]
def rQEX1 : List O := [
 oo 5 <| .mv (.t 0),
 oo 6 <| .mv (.t 2),
 oo 7 <| .mv (.t 2),
 oo 8 <| .cvt .u64 (.t 7),
 oo 9 <| .call 53 [(.t 8)],
 oo 10 <| .call 52 [(.t 5),(ki 0),(.t 6),(.t 9)]]
def cQE : C := (.seq (.reg rQEX0 false [] [0,2]) (.reg rQEX1 false [] []))
def qQE : AFn := ⟨11,1,[],cQE⟩
/- cohesion/cohesionref03.Check -/
def rQFX0 : List O := [
 oo 1 <| .box (.t 0),
 oo 2 <| .mv (ki 0)]
def rQFX1 : List O := [
 oo 5 <| .fad 0 (.t 1),
 oo 6 <| .ld none (.t 5),
 oo 7 <| .bin .lss (.t 6) (ki 0),
 oo 8 <| .mv (.t 7),
 ⟨(some 9),(some (8,false)),.fad 0 (.t 1)⟩,
 ⟨(some 10),(some (8,false)),.ld none (.t 9)⟩,
 ⟨(some 11),(some (8,false)),.bin .gtr (.t 10) (ki 64)⟩,
 oo 12 <| .pick (.t 8) (.k (.bool true)) (.t 11)]
def rQFX2 : List O := [
 oo 2 <| .mv (ki 1)]
def rQFX3 : List O := [
 oo 13 <| .fad 1 (.t 1),
 oo 14 <| .ld none (.t 13),
 oo 15 <| .len (.t 14),
 oo 16 <| .mv (ki 0)]
def rQFX4 : List O := [
 oo 17 <| .bin .lss (.t 16) (.t 15)]
def rQFX5 : List O := [
 oo 18 <| .mv (.t 16),
 oo 19 <| .ixa 2 (.t 14) (.t 16),
 oo 20 <| .ld (some 2) (.t 19),
 oo 4 <| .new [(.int .i64 0),(.int .i64 0)],
 oo 3 <| .mv (.t 18),
 oz <| .st 2 (.t 4) (.t 20)]
def rQFX6 : List O := [
 oo 21 <| .fad 0 (.t 4),
 oo 22 <| .ld none (.t 21),
 oo 23 <| .bin .lss (.t 22) (ki 0),
 oo 24 <| .mv (.t 23),
 ⟨(some 25),(some (24,false)),.fad 0 (.t 4)⟩,
 ⟨(some 26),(some (24,false)),.ld none (.t 25)⟩,
 ⟨(some 27),(some (24,false)),.fad 1 (.t 4)⟩,
 ⟨(some 28),(some (24,false)),.ld none (.t 27)⟩,
 ⟨(some 29),(some (24,false)),.bin .geq (.t 26) (.t 28)⟩,
 oo 30 <| .pick (.t 24) (.k (.bool true)) (.t 29),
 oo 31 <| .mv (.t 30),
 ⟨(some 32),(some (31,false)),.fad 1 (.t 4)⟩,
 ⟨(some 33),(some (31,false)),.ld none (.t 32)⟩,
 ⟨(some 34),(some (31,false)),.fad 0 (.t 1)⟩,
 ⟨(some 35),(some (31,false)),.ld none (.t 34)⟩,
 ⟨(some 36),(some (31,false)),.bin .geq (.t 33) (.t 35)⟩,
 oo 37 <| .pick (.t 31) (.k (.bool true)) (.t 36)]
def rQFX7 : List O := [
 oo 2 <| .mv (ki 6)]
def rQFX8 : List O := [
 oo 38 <| .mv (.t 3),
 oo 39 <| .bin .gtr (.t 38) (ki 0),
 oo 40 <| .mv (.t 39),
 ⟨(some 41),(some (40,true)),.fad 1 (.t 1)⟩,
 ⟨(some 42),(some (40,true)),.ld none (.t 41)⟩,
 ⟨(some 43),(some (40,true)),.mv (.t 3)⟩,
 ⟨(some 44),(some (40,true)),.bin .sub (.t 43) (ki 1)⟩,
 ⟨(some 45),(some (40,true)),.ixa 2 (.t 42) (.t 44)⟩,
 ⟨(some 46),(some (40,true)),.ld (some 2) (.t 45)⟩,
 ⟨(some 47),(some (40,true)),.ld (some 2) (.t 4)⟩,
 ⟨(some 48),(some (40,true)),.call nQX [(.t 46),(.t 47)]⟩,
 ⟨(some 49),(some (40,true)),.un .not (.t 48)⟩,
 oo 50 <| .pick (.t 40) (.t 49) (.k (.bool false))]
def rQFX9 : List O := [
 oo 2 <| .mv (ki 5)]
def rQFX10 : List O := [
 oo 51 <| .bin .add (.t 16) (ki 1),
 oo 16 <| .mv (.t 51)]
def lQFX0 : C := (.seq (.reg rQFX4 false [] [1,14,15,16,17]) (.seq (.cond (.t 17) .skip (.exit 0)) (.seq (.blk 1 (.seq (.reg rQFX5 false [] [1,3,4,14,15,16]) (.seq (.seq (.reg rQFX6 false [] [1,3,4,14,15,16,37]) (.cond (.t 37) (.seq (.reg rQFX7 false [] [2]) .ret) .skip)) (.seq (.reg rQFX8 true [(0,0),(1,1),(2,2),(10,10),(11,11),(12,12),(4,5),(4,6),(3,9),(4,9),(5,9),(6,9),(7,9),(8,9)] [1,14,15,16,50]) (.cond (.t 50) (.seq (.reg rQFX9 false [] [2]) .ret) .skip))))) (.reg rQFX10 false [] [1,14,15,16]))))
def rQFX11 : List O := [
 oo 2 <| .mv (ki 0)]
def cQF : C := (.seq (.reg rQFX0 false [] [1]) (.seq (.seq (.reg rQFX1 false [] [1,12]) (.cond (.t 12) (.seq (.reg rQFX2 false [] [2]) .ret) .skip)) (.seq (.seq (.reg rQFX3 false [] [1,14,15,16]) (.blk 0 (.loop lQFX0))) (.seq (.reg rQFX11 false [] [2]) .ret))))
def qQF : AFn := ⟨52,1,[.t 2],cQF⟩
/- cohesion/cohesionref24.fits -/
def rQGX0 : List O := [
 oo 3 <| .box (.t 0),
 oo 6 <| .mv (.k (.bool false))]
def rQGX1 : List O := [
 oo 7 <| .mv (ki 0)]
def rQGX2 : List O := [
 oo 8 <| .mv (.t 7),
 oo 9 <| .mv (.t 1),
 oo 10 <| .len (.t 9),
 oo 11 <| .bin .lss (.t 8) (.t 10)]
def rQGX3 : List O := [
 oo 14 <| .mv (.t 1),
 oo 15 <| .mv (.t 7),
 oo 16 <| .ixa 1 (.t 14) (.t 15),
 oo 17 <| .ld none (.t 16),
 oo 18 <| .mv (.t 2),
 oo 19 <| .bin .eql (.t 17) (.t 18),
 oo 20 <| .mv (.t 19),
 ⟨(some 21),(some (20,false)),.ld (some 2) (.t 3)⟩,
 ⟨(some 22),(some (20,false)),.mv (.t 1)⟩,
 ⟨(some 23),(some (20,false)),.mv (.t 7)⟩,
 ⟨(some 24),(some (20,false)),.ixa 1 (.t 22) (.t 23)⟩,
 ⟨(some 25),(some (20,false)),.ld none (.t 24)⟩,
 ⟨(some 26),(some (20,false)),.mv (.t 2)⟩,
 ⟨(some 27),(some (20,false)),.call nQO [(.t 21),(.t 25),(.t 26)]⟩,
 ⟨(some 28),(some (20,false)),.bin .lss (.t 27) (ki 0)⟩,
 oo 29 <| .pick (.t 20) (.k (.bool true)) (.t 28)]
def rQGX4 : List O := [
 oo 6 <| .mv (.k (.bool false))]
def rQGX5 : List O := [
 oo 12 <| .mv (.t 7),
 oo 13 <| .bin .add (.t 12) (ki 1),
 oo 7 <| .mv (.t 13)]
def lQGX0 : C := (.seq (.seq (.reg rQGX2 false [] [1,2,3,7,11]) (.cond (.t 11) .skip (.exit 0))) (.seq (.blk 1 (.seq (.reg rQGX3 true [(5,5),(6,6),(13,13),(14,14),(15,15),(3,4),(7,8),(7,9),(7,10),(7,11),(7,12),(11,12)] [1,2,3,7,29]) (.cond (.t 29) (.seq (.reg rQGX4 false [] [6]) .ret) .skip))) (.reg rQGX5 false [] [1,2,3,7])))
def rQGX6 : List O := [
 oo 6 <| .mv (.k (.bool true))]
def cQG : C := (.seq (.reg rQGX0 false [] [1,2,3]) (.seq (.seq (.reg rQGX1 false [] [1,2,3,7]) (.blk 0 (.loop lQGX0))) (.seq (.reg rQGX6 false [] [6]) .ret)))
def qQG : AFn := ⟨30,3,[.t 6],cQG⟩
/- cohesion/cohesionref02.Of -/
def rQHX0 : List O := [
 oo 2 <| .mv (.k (.own 1 []))]
def rQHX1 : List O := [
 oo 3 <| .mv (.k (.own 1 []))]
def rQHX2 : List O := [
 oo 6 <| .mv (.t 0),
 oo 7 <| .len (.t 6),
 oo 8 <| .mv (ki 0)]
def rQHX3 : List O := [
 oo 9 <| .bin .lss (.t 8) (.t 7)]
def rQHX4 : List O := [
 oo 10 <| .ixa 1 (.t 6) (.t 8),
 oo 11 <| .ld none (.t 10),
 oo 5 <| .mv (.t 11)]
def rQHX5 : List O := [
 oo 12 <| .mv (.t 3),
 oo 13 <| .mv (.t 5),
 oo 14 <| .call nQY [(.t 12),(.t 13)],
 oo 3 <| .mv (.t 14)]
def rQHX6 : List O := [
 oo 15 <| .bin .add (.t 8) (ki 1),
 oo 8 <| .mv (.t 15)]
def lQHX0 : C := (.seq (.reg rQHX3 false [] [3,6,7,8,9]) (.seq (.cond (.t 9) .skip (.exit 0)) (.seq (.blk 1 (.seq (.reg rQHX4 false [] [3,5,6,7,8]) (.reg rQHX5 false [] [3,6,7,8]))) (.reg rQHX6 false [] [3,6,7,8]))))
def rQHX7 : List O := [
 oo 16 <| .mv (.t 3),
 oo 2 <| .mv (.t 16)]
def cQH : C := (.seq (.reg rQHX0 false [] [0]) (.seq (.reg rQHX1 false [] [0,3]) (.seq (.seq (.reg rQHX2 false [] [3,6,7,8]) (.blk 0 (.loop lQHX0))) (.seq (.reg rQHX7 false [] [2]) .ret))))
def qQH : AFn := ⟨17,1,[.t 2],cQH⟩
/- cohesion/cliques.each -/
def rQIX0 : List O := [
 oo 3 <| .box (.t 0),
 oo 4 <| .box (.t 1),
 oo 5 <| .box (.t 2)]
def rQIX1 : List O := [
 oo 9 <| .ld (some 2) (.t 3),
 oo 10 <| .call nQA [(.t 9)],
 oo 6 <| .new [(.own 1 [])],
 oz <| .st 1 (.t 6) (.t 10)]
def rQIX2 : List O := [
 oo 7 <| .new [(.own 1 [])]]
def rQIX3 : List O := [
 oo 8 <| .new [.nilf]]
def rQIX4 : List O := [
 oo 11 <| .mkf (.func nQZ) [] [(.t 7),(.t 4),(.t 5),(.t 6),(.t 8)],
 oz <| .st 1 (.t 8) (.t 11)]
def rQIX5 : List O := [
 oo 12 <| .ld none (.t 8),
 oo 13 <| .fad 0 (.t 3),
 oo 14 <| .ld none (.t 13),
 oo 15 <| .call nQW [(.t 14)],
 oo 16 <| .callv (.t 12) [(.t 15),(.k (.int .u64 0)),(.k (.bool true))]]
def cQI : C := (.seq (.reg rQIX0 false [] [3,4,5]) (.seq (.reg rQIX1 false [] [3,4,5,6]) (.seq (.reg rQIX2 false [] [3,4,5,6,7]) (.seq (.reg rQIX3 false [] [3,4,5,6,7,8]) (.seq (.reg rQIX4 false [] [3,8]) (.reg rQIX5 true [(4,4),(0,1),(0,2),(0,3)] []))))))
def qQI : AFn := ⟨17,3,[],cQI⟩
/- cohesion/cliques.Next$1 -/
def rQJX0 : List O := [
 oo 3 <| .mv (.k (.bool false))]
def rQJX1 : List O := [
 oo 4 <| .mv (.t 0),
 oz <| .st 1 (.t 1) (.t 4)]
def rQJX2 : List O := [
 oo 3 <| .mv (.k (.bool false))]
def cQJ : C := (.seq (.reg rQJX0 false [] [0,1]) (.seq (.reg rQJX1 false [] []) (.seq (.reg rQJX2 false [] [3]) .ret)))
def qQJ : AFn := ⟨5,1,[.t 3],cQJ⟩
/- cohesion/cohesionref24.List -/
def rQKX0 : List O := [
 oo 2 <| .box (.t 0),
 oo 4 <| .mv (.k (.own 1 []))]
def rQKX1 : List O := [
 oo 5 <| .mv (.k (.own 1 []))]
def rQKX2 : List O := [
 oo 7 <| .ld (some 2) (.t 2),
 oo 8 <| .mv (.t 5),
 oo 9 <| .mv (.t 1),
 oo 10 <| .call nQ0 [(.t 7),(.k (.own 1 [])),(ki 0),(.t 8),(.t 9)],
 oo 6 <| .mv (.t 10)]
def rQKX3 : List O := [
 oo 11 <| .mv (.t 6),
 oo 4 <| .mv (.t 11)]
def cQK : C := (.seq (.reg rQKX0 false [] [1,2]) (.seq (.reg rQKX1 false [] [1,2,5]) (.seq (.reg rQKX2 false [] [6]) (.seq (.reg rQKX3 false [] [4]) .ret))))
def qQK : AFn := ⟨12,2,[.t 4],cQK⟩
/- cohesion/nodeset.Valid -/
def rQLX0 : List O := [
 oo 4 <| .mv (.k (.bool false))]
def rQLX1 : List O := [
 oo 7 <| .mv (.t 0),
 oo 8 <| .len (.t 7),
 oo 9 <| .mv (ki 0)]
def rQLX2 : List O := [
 oo 10 <| .bin .lss (.t 9) (.t 8)]
def rQLX3 : List O := [
 oo 11 <| .mv (.t 9),
 oo 12 <| .ixa 1 (.t 7) (.t 9),
 oo 13 <| .ld none (.t 12),
 oo 5 <| .mv (.t 11),
 oo 6 <| .mv (.t 13)]
def rQLX4 : List O := [
 oo 14 <| .mv (.t 6),
 oo 15 <| .bin .lss (.t 14) (ki 0),
 oo 16 <| .mv (.t 15),
 ⟨(some 17),(some (16,false)),.mv (.t 6)⟩,
 ⟨(some 18),(some (16,false)),.mv (.t 1)⟩,
 ⟨(some 19),(some (16,false)),.bin .geq (.t 17) (.t 18)⟩,
 oo 20 <| .pick (.t 16) (.k (.bool true)) (.t 19),
 oo 21 <| .mv (.t 20),
 ⟨(some 22),(some (21,false)),.mv (.t 5)⟩,
 ⟨(some 23),(some (21,false)),.bin .gtr (.t 22) (ki 0)⟩,
 ⟨(some 24),(some (21,false)),.mv (.t 23)⟩,
 ⟨(some 25),(some (24,true)),.mv (.t 0)⟩,
 ⟨(some 26),(some (24,true)),.mv (.t 5)⟩,
 ⟨(some 27),(some (24,true)),.bin .sub (.t 26) (ki 1)⟩,
 ⟨(some 28),(some (24,true)),.ixa 1 (.t 25) (.t 27)⟩,
 ⟨(some 29),(some (24,true)),.ld none (.t 28)⟩,
 ⟨(some 30),(some (24,true)),.mv (.t 6)⟩,
 ⟨(some 31),(some (24,true)),.bin .geq (.t 29) (.t 30)⟩,
 ⟨(some 32),(some (21,false)),.pick (.t 24) (.t 31) (.k (.bool false))⟩,
 oo 33 <| .pick (.t 21) (.k (.bool true)) (.t 32)]
def rQLX5 : List O := [
 oo 4 <| .mv (.k (.bool false))]
def rQLX6 : List O := [
 oo 34 <| .bin .add (.t 9) (ki 1),
 oo 9 <| .mv (.t 34)]
def lQLX0 : C := (.seq (.reg rQLX2 false [] [0,1,7,8,9,10]) (.seq (.cond (.t 10) .skip (.exit 0)) (.seq (.blk 1 (.seq (.reg rQLX3 false [] [0,1,5,6,7,8,9]) (.seq (.reg rQLX4 false [] [0,1,7,8,9,33]) (.cond (.t 33) (.seq (.reg rQLX5 false [] [4]) .ret) .skip)))) (.reg rQLX6 false [] [0,1,7,8,9]))))
def rQLX7 : List O := [
 oo 4 <| .mv (.k (.bool true))]
def cQL : C := (.seq (.reg rQLX0 false [] [0,1]) (.seq (.seq (.reg rQLX1 false [] [0,1,7,8,9]) (.blk 0 (.loop lQLX0))) (.seq (.reg rQLX7 false [] [4]) .ret)))
def qQL : AFn := ⟨35,2,[.t 4],cQL⟩
/- cohesion/cliques.clique -/
def rQMX0 : List O := [
 oo 4 <| .mv (.k (.bool false))]
def rQMX1 : List O := [
 oo 9 <| .mv (.t 1),
 oo 10 <| .len (.t 9),
 oo 11 <| .mv (ki 0)]
def rQMX2 : List O := [
 oo 12 <| .bin .lss (.t 11) (.t 10)]
def rQMX3 : List O := [
 oo 13 <| .mv (.t 11),
 oo 14 <| .ixa 1 (.t 9) (.t 11),
 oo 15 <| .ld none (.t 14),
 oo 5 <| .mv (.t 13),
 oo 6 <| .mv (.t 15)]
def rQMX4 : List O := [
 oo 16 <| .mv (.t 1),
 oo 17 <| .mv (.t 5),
 oo 18 <| .slc 1 (.t 16) none (some (.t 17)),
 oo 19 <| .len (.t 18),
 oo 20 <| .mv (ki 0)]
def rQMX5 : List O := [
 oo 21 <| .bin .lss (.t 20) (.t 19)]
def rQMX6 : List O := [
 oo 22 <| .ixa 1 (.t 18) (.t 20),
 oo 23 <| .ld none (.t 22),
 oo 8 <| .mv (.t 23)]
def rQMX7 : List O := [
 oo 24 <| .mv (.t 0),
 oo 25 <| .mv (.t 6),
 oo 26 <| .ixa 1 (.t 24) (.t 25),
 oo 27 <| .ld none (.t 26),
 oo 28 <| .mv (.t 8),
 oo 29 <| .bin .shr (.t 27) (.t 28),
 oo 30 <| .bin .and (.t 29) (.k (.int .u64 1)),
 oo 31 <| .bin .eql (.t 30) (.k (.int .u64 0))]
def rQMX8 : List O := [
 oo 4 <| .mv (.k (.bool false))]
def rQMX9 : List O := [
 oo 32 <| .bin .add (.t 20) (ki 1),
 oo 20 <| .mv (.t 32)]
def lQMX0 : C := (.seq (.reg rQMX5 false [] [0,1,6,9,10,11,18,19,20,21]) (.seq (.cond (.t 21) .skip (.exit 2)) (.seq (.blk 3 (.seq (.reg rQMX6 false [] [0,1,6,8,9,10,11,18,19,20]) (.seq (.reg rQMX7 false [] [0,1,6,9,10,11,18,19,20,31]) (.cond (.t 31) (.seq (.reg rQMX8 false [] [4]) .ret) .skip)))) (.reg rQMX9 false [] [0,1,6,9,10,11,18,19,20]))))
def rQMX10 : List O := [
 oo 33 <| .bin .add (.t 11) (ki 1),
 oo 11 <| .mv (.t 33)]
def lQMX1 : C := (.seq (.reg rQMX2 false [] [0,1,9,10,11,12]) (.seq (.cond (.t 12) .skip (.exit 0)) (.seq (.blk 1 (.seq (.reg rQMX3 false [] [0,1,5,6,9,10,11]) (.seq (.reg rQMX4 false [] [0,1,6,9,10,11,18,19,20]) (.blk 2 (.loop lQMX0))))) (.reg rQMX10 false [] [0,1,9,10,11]))))
def rQMX11 : List O := [
 oo 4 <| .mv (.k (.bool true))]
def cQM : C := (.seq (.reg rQMX0 false [] [0,1]) (.seq (.seq (.reg rQMX1 false [] [0,1,9,10,11]) (.blk 0 (.loop lQMX1))) (.seq (.reg rQMX11 false [] [4]) .ret)))
def qQM : AFn := ⟨34,2,[.t 4],cQM⟩
/- cohesion/cohesionref02.Valid -/
def rQNX0 : List O := [
 oo 4 <| .mv (.k (.bool false))]
def rQNX1 : List O := [
 oo 7 <| .mv (.t 0),
 oo 8 <| .len (.t 7),
 oo 9 <| .mv (ki 0)]
def rQNX2 : List O := [
 oo 10 <| .bin .lss (.t 9) (.t 8)]
def rQNX3 : List O := [
 oo 11 <| .mv (.t 9),
 oo 12 <| .ixa 1 (.t 7) (.t 9),
 oo 13 <| .ld none (.t 12),
 oo 5 <| .mv (.t 11),
 oo 6 <| .mv (.t 13)]
def rQNX4 : List O := [
 oo 14 <| .mv (.t 6),
 oo 15 <| .bin .lss (.t 14) (ki 0),
 oo 16 <| .mv (.t 15),
 ⟨(some 17),(some (16,false)),.mv (.t 6)⟩,
 ⟨(some 18),(some (16,false)),.mv (.t 1)⟩,
 ⟨(some 19),(some (16,false)),.bin .geq (.t 17) (.t 18)⟩,
 oo 20 <| .pick (.t 16) (.k (.bool true)) (.t 19),
 oo 21 <| .mv (.t 20),
 ⟨(some 22),(some (21,false)),.mv (.t 5)⟩,
 ⟨(some 23),(some (21,false)),.bin .gtr (.t 22) (ki 0)⟩,
 ⟨(some 24),(some (21,false)),.mv (.t 23)⟩,
 ⟨(some 25),(some (24,true)),.mv (.t 0)⟩,
 ⟨(some 26),(some (24,true)),.mv (.t 5)⟩,
 ⟨(some 27),(some (24,true)),.bin .sub (.t 26) (ki 1)⟩,
 ⟨(some 28),(some (24,true)),.ixa 1 (.t 25) (.t 27)⟩,
 ⟨(some 29),(some (24,true)),.ld none (.t 28)⟩,
 ⟨(some 30),(some (24,true)),.mv (.t 6)⟩,
 ⟨(some 31),(some (24,true)),.bin .geq (.t 29) (.t 30)⟩,
 ⟨(some 32),(some (21,false)),.pick (.t 24) (.t 31) (.k (.bool false))⟩,
 oo 33 <| .pick (.t 21) (.k (.bool true)) (.t 32)]
def rQNX5 : List O := [
 oo 4 <| .mv (.k (.bool false))]
def rQNX6 : List O := [
 oo 34 <| .bin .add (.t 9) (ki 1),
 oo 9 <| .mv (.t 34)]
def lQNX0 : C := (.seq (.reg rQNX2 false [] [0,1,7,8,9,10]) (.seq (.cond (.t 10) .skip (.exit 0)) (.seq (.blk 1 (.seq (.reg rQNX3 false [] [0,1,5,6,7,8,9]) (.seq (.reg rQNX4 false [] [0,1,7,8,9,33]) (.cond (.t 33) (.seq (.reg rQNX5 false [] [4]) .ret) .skip)))) (.reg rQNX6 false [] [0,1,7,8,9]))))
def rQNX7 : List O := [
 oo 4 <| .mv (.k (.bool true))]
def cQN : C := (.seq (.reg rQNX0 false [] [0,1]) (.seq (.seq (.reg rQNX1 false [] [0,1,7,8,9]) (.blk 0 (.loop lQNX0))) (.seq (.reg rQNX7 false [] [4]) .ret)))
def qQN : AFn := ⟨35,2,[.t 4],cQN⟩
/- cohesion/cohesionref03.Find -/
def rQOX0 : List O := [
 oo 3 <| .box (.t 0),
 oo 6 <| .mv (ki 0)]
def rQOX1 : List O := [
 oo 9 <| .ld (some 2) (.t 3),
 oo 10 <| .call nQF [(.t 9)],
 oo 11 <| .bin .neq (.t 10) (ki 0)]
def rQOX2 : List O := [
 oo 6 <| .mv (.k (.int .i64 (-1)))]
def rQOX3 : List O := [
 oo 12 <| .fad 1 (.t 3),
 oo 13 <| .ld none (.t 12),
 oo 14 <| .len (.t 13),
 oo 15 <| .mv (ki 0)]
def rQOX4 : List O := [
 oo 16 <| .bin .lss (.t 15) (.t 14)]
def rQOX5 : List O := [
 oo 17 <| .mv (.t 15),
 oo 18 <| .ixa 2 (.t 13) (.t 15),
 oo 19 <| .ld (some 2) (.t 18),
 oo 8 <| .new [(.int .i64 0),(.int .i64 0)],
 oo 7 <| .mv (.t 17),
 oz <| .st 2 (.t 8) (.t 19)]
def rQOX6 : List O := [
 oo 20 <| .ld (some 2) (.t 8),
 oo 21 <| .mv (.t 1),
 oo 22 <| .mv (.t 2),
 oo 23 <| .call nQU [(.t 21),(.t 22)],
 oo 24 <| .eq false (.str [true,true]) (.t 20) (.t 23)]
def rQOX7 : List O := [
 oo 25 <| .mv (.t 7),
 oo 6 <| .mv (.t 25)]
def rQOX8 : List O := [
 oo 26 <| .bin .add (.t 15) (ki 1),
 oo 15 <| .mv (.t 26)]
def lQOX0 : C := (.seq (.reg rQOX4 false [] [1,2,13,14,15,16]) (.seq (.cond (.t 16) .skip (.exit 0)) (.seq (.blk 1 (.seq (.reg rQOX5 false [] [1,2,7,8,13,14,15]) (.seq (.reg rQOX6 true [(4,4),(0,1),(0,2),(0,3)] [1,2,7,13,14,15,24]) (.cond (.t 24) (.seq (.reg rQOX7 false [] [6]) .ret) .skip)))) (.reg rQOX8 false [] [1,2,13,14,15]))))
def rQOX9 : List O := [
 oo 6 <| .mv (.k (.int .i64 (-1)))]
def cQO : C := (.seq (.reg rQOX0 false [] [1,2,3]) (.seq (.seq (.reg rQOX1 false [] [1,2,3,11]) (.cond (.t 11) (.seq (.reg rQOX2 false [] [6]) .ret) .skip)) (.seq (.seq (.reg rQOX3 false [] [1,2,13,14,15]) (.blk 0 (.loop lQOX0))) (.seq (.reg rQOX9 false [] [6]) .ret))))
def qQO : AFn := ⟨27,3,[.t 6],cQO⟩
/- cohesion/cliques.All$1 -/
def rQPX0 : List O := [
 oo 4 <| .mv (.k (.bool false))]
def rQPX1 : List O := [
 oo 5 <| .ld none (.t 1),
 oo 6 <| .mv (.t 0),
 oo 7 <| .bslice 1 1 [(.own 1 [])] [(0,1,(.t 6))],
 oo 8 <| .app 1 (.t 5) (.t 7),
 oz <| .st 1 (.t 1) (.t 8)]
def rQPX2 : List O := [
 oo 9 <| .ld none (.t 1),
 oo 10 <| .len (.t 9),
 oo 11 <| .ld none (.t 2),
 oo 12 <| .bin .leq (.t 10) (.t 11),
 oo 4 <| .mv (.t 12)]
def cQP : C := (.seq (.reg rQPX0 false [] [0,1,2]) (.seq (.reg rQPX1 false [] [1,2]) (.seq (.reg rQPX2 false [] [4]) .ret)))
def qQP : AFn := ⟨13,1,[.t 4],cQP⟩
/- cohesion/cliques.Check$1 -/
def rQQX0 : List O := [
 oo 5 <| .mv (.k (.bool false))]
def rQQX1 : List O := [
 oo 6 <| .ld none (.t 1),
 oo 7 <| .ld none (.t 2),
 oo 8 <| .len (.t 7),
 oo 9 <| .bin .lss (.t 6) (.t 8),
 oo 10 <| .mv (.t 9),
 ⟨(some 11),(some (10,true)),.mv (.t 0)⟩,
 ⟨(some 12),(some (10,true)),.ld none (.t 2)⟩,
 ⟨(some 13),(some (10,true)),.ld none (.t 1)⟩,
 ⟨(some 14),(some (10,true)),.ixa 1 (.t 12) (.t 13)⟩,
 ⟨(some 15),(some (10,true)),.ld none (.t 14)⟩,
 ⟨(some 16),(some (10,true)),.call nQR [(.t 11),(.t 15)]⟩,
 oo 17 <| .pick (.t 10) (.t 16) (.k (.bool false)),
 oz <| .st 1 (.t 3) (.t 17)]
def rQQX2 : List O := [
 oo 18 <| .ld none (.t 1),
 oo 19 <| .bin .add (.t 18) (ki 1),
 oz <| .st 1 (.t 1) (.t 19)]
def rQQX3 : List O := [
 oo 20 <| .ld none (.t 3),
 oo 5 <| .mv (.t 20)]
def cQQ : C := (.seq (.reg rQQX0 false [] [0,1,2,3]) (.seq (.reg rQQX1 false [] [1,3]) (.seq (.reg rQQX2 false [] [3]) (.seq (.reg rQQX3 false [] [5]) .ret))))
def qQQ : AFn := ⟨21,1,[.t 5],cQQ⟩
/- slices.Equal[[]int,int] -/
def rQRX0 : List O := [
 oo 4 <| .mv (.k (.bool false))]
def rQRX1 : List O := [
 oo 6 <| .mv (.t 0),
 oo 7 <| .len (.t 6),
 oo 8 <| .mv (.t 1),
 oo 9 <| .len (.t 8),
 oo 10 <| .bin .neq (.t 7) (.t 9)]
def rQRX2 : List O := [
 oo 4 <| .mv (.k (.bool false))]
def rQRX3 : List O := [
 oo 11 <| .mv (.t 0),
 oo 12 <| .len (.t 11),
 oo 13 <| .mv (ki 0)]
def rQRX4 : List O := [
 oo 14 <| .bin .lss (.t 13) (.t 12)]
def rQRX5 : List O := [
 oo 15 <| .mv (.t 13),
 oo 5 <| .mv (.t 15)]
def rQRX6 : List O := [
 oo 16 <| .mv (.t 0),
 oo 17 <| .mv (.t 5),
 oo 18 <| .ixa 1 (.t 16) (.t 17),
 oo 19 <| .ld none (.t 18),
 oo 20 <| .mv (.t 1),
 oo 21 <| .mv (.t 5),
 oo 22 <| .ixa 1 (.t 20) (.t 21),
 oo 23 <| .ld none (.t 22),
 oo 24 <| .bin .neq (.t 19) (.t 23)]
def rQRX7 : List O := [
 oo 4 <| .mv (.k (.bool false))]
def rQRX8 : List O := [
 oo 25 <| .bin .add (.t 13) (ki 1),
 oo 13 <| .mv (.t 25)]
def lQRX0 : C := (.seq (.reg rQRX4 false [] [0,1,12,13,14]) (.seq (.cond (.t 14) .skip (.exit 0)) (.seq (.blk 1 (.seq (.reg rQRX5 false [] [0,1,5,12,13]) (.seq (.reg rQRX6 true [(8,8),(3,4),(3,5),(3,6),(0,7),(1,7),(2,7),(3,7)] [0,1,12,13,24]) (.cond (.t 24) (.seq (.reg rQRX7 false [] [4]) .ret) .skip)))) (.reg rQRX8 false [] [0,1,12,13]))))
def rQRX9 : List O := [
 oo 4 <| .mv (.k (.bool true))]
def cQR : C := (.seq (.reg rQRX0 false [] [0,1]) (.seq (.seq (.reg rQRX1 false [] [0,1,10]) (.cond (.t 10) (.seq (.reg rQRX2 false [] [4]) .ret) .skip)) (.seq (.seq (.reg rQRX3 false [] [0,1,12,13]) (.blk 0 (.loop lQRX0))) (.seq (.reg rQRX9 false [] [4]) .ret))))
def qQR : AFn := ⟨26,2,[.t 4],cQR⟩
/- cohesion/cohesionref03.ends -/
def rQSX0 : List O := [
 oo 6 <| .mv (.k (.bool false))]
def rQSX1 : List O := [
 oo 7 <| .mv (.t 1),
 oo 8 <| .bin .geq (.t 7) (ki 0),
 oo 9 <| .mv (.t 8),
 ⟨(some 10),(some (9,true)),.mv (.t 2)⟩,
 ⟨(some 11),(some (9,true)),.bin .geq (.t 10) (ki 0)⟩,
 oo 12 <| .pick (.t 9) (.t 11) (.k (.bool false)),
 oo 13 <| .mv (.t 12),
 ⟨(some 14),(some (13,true)),.mv (.t 1)⟩,
 ⟨(some 15),(some (13,true)),.mv (.t 0)⟩,
 ⟨(some 16),(some (13,true)),.bin .lss (.t 14) (.t 15)⟩,
 oo 17 <| .pick (.t 13) (.t 16) (.k (.bool false)),
 oo 18 <| .mv (.t 17),
 ⟨(some 19),(some (18,true)),.mv (.t 2)⟩,
 ⟨(some 20),(some (18,true)),.mv (.t 0)⟩,
 ⟨(some 21),(some (18,true)),.bin .lss (.t 19) (.t 20)⟩,
 oo 22 <| .pick (.t 18) (.t 21) (.k (.bool false)),
 oo 23 <| .mv (.t 22),
 ⟨(some 24),(some (23,true)),.mv (.t 1)⟩,
 ⟨(some 25),(some (23,true)),.mv (.t 2)⟩,
 ⟨(some 26),(some (23,true)),.bin .neq (.t 24) (.t 25)⟩,
 oo 27 <| .pick (.t 23) (.t 26) (.k (.bool false)),
 oo 6 <| .mv (.t 27)]
def cQS : C := (.seq (.reg rQSX0 false [] [0,1,2]) (.seq (.reg rQSX1 false [] [6]) .ret))
def qQS : AFn := ⟨28,3,[.t 6],cQS⟩
/- cohesion/cohesionref03.with -/
def rQTX0 : List O := [
 oo 3 <| .box (.t 1),
 oo 4 <| .mv (.k (.own 2 []))]
def rQTX1 : List O := [
 oo 5 <| .mv (ki 0)]
def rQTX2 : List O := [
 oo 7 <| .mv (.t 5),
 oo 8 <| .mv (.t 0),
 oo 9 <| .len (.t 8),
 oo 10 <| .bin .lss (.t 7) (.t 9),
 oo 11 <| .mv (.t 10),
 ⟨(some 12),(some (11,true)),.mv (.t 0)⟩,
 ⟨(some 13),(some (11,true)),.mv (.t 5)⟩,
 ⟨(some 14),(some (11,true)),.ixa 2 (.t 12) (.t 13)⟩,
 ⟨(some 15),(some (11,true)),.ld (some 2) (.t 14)⟩,
 ⟨(some 16),(some (11,true)),.ld (some 2) (.t 3)⟩,
 ⟨(some 17),(some (11,true)),.call nQX [(.t 15),(.t 16)]⟩,
 oo 18 <| .pick (.t 11) (.t 17) (.k (.bool false))]
def rQTX3 : List O := [
 oo 19 <| .mv (.t 5),
 oo 20 <| .bin .add (.t 19) (ki 1),
 oo 5 <| .mv (.t 20)]
def lQTX0 : C := (.seq (.seq (.reg rQTX2 true [(3,3),(4,4),(10,10),(11,11),(5,9),(6,9),(7,9),(8,9)] [0,3,5,18]) (.cond (.t 18) .skip (.exit 0))) (.blk 1 (.reg rQTX3 false [] [0,3,5])))
def rQTX4 : List O := [
 oo 21 <| .mv (.t 5),
 oo 22 <| .mv (.t 0),
 oo 23 <| .len (.t 22),
 oo 24 <| .bin .lss (.t 21) (.t 23),
 oo 25 <| .mv (.t 24),
 ⟨(some 26),(some (25,true)),.mv (.t 0)⟩,
 ⟨(some 27),(some (25,true)),.mv (.t 5)⟩,
 ⟨(some 28),(some (25,true)),.ixa 2 (.t 26) (.t 27)⟩,
 ⟨(some 29),(some (25,true)),.ld (some 2) (.t 28)⟩,
 ⟨(some 30),(some (25,true)),.ld (some 2) (.t 3)⟩,
 ⟨(some 31),(some (25,true)),.eq false (.str [true,true]) (.t 29) (.t 30)⟩,
 oo 32 <| .pick (.t 25) (.t 31) (.k (.bool false))]
def rQTX5 : List O := [
 oo 33 <| .mv (.t 0),
 oo 4 <| .mv (.t 33)]
def rQTX6 : List O := [
 oo 34 <| .mv (.t 0),
 oo 35 <| .mv (.t 5),
 oo 36 <| .slc 2 (.t 34) none (some (.t 35)),
 oo 37 <| .app 2 (.k (.own 2 [])) (.t 36),
 oo 6 <| .mv (.t 37)]
def rQTX7 : List O := [
 oo 38 <| .mv (.t 6),
 oo 39 <| .ld (some 2) (.t 3),
 oo 40 <| .bslice 2 1 [(.int .i64 0),(.int .i64 0)] [(0,2,(.t 39))],
 oo 41 <| .app 2 (.t 38) (.t 40),
 oo 42 <| .mv (.t 0),
 oo 43 <| .mv (.t 5),
 oo 44 <| .slc 2 (.t 42) (some (.t 43)) none,
 oo 45 <| .app 2 (.t 41) (.t 44),
 oo 4 <| .mv (.t 45)]
def cQT : C := (.seq (.reg rQTX0 false [] [0,3]) (.seq (.reg rQTX1 false [] [0,3,5]) (.seq (.blk 0 (.loop lQTX0)) (.seq (.seq (.reg rQTX4 true [(3,3),(4,4),(10,10),(11,11),(5,9),(6,9),(7,9),(8,9)] [0,3,5,32]) (.cond (.t 32) (.seq (.reg rQTX5 false [] [4]) .ret) .skip)) (.seq (.reg rQTX6 false [] [0,3,5,6]) (.seq (.reg rQTX7 true [(7,7),(8,8),(0,1),(0,2),(1,4),(2,4),(3,4),(1,5),(2,5),(3,5),(1,6),(2,6),(3,6)] [4]) .ret))))))
def qQT : AFn := ⟨46,2,[.t 4],cQT⟩
/- cohesion/cohesionref03.edge -/
def rQUX0 : List O := [
 oo 4 <| .new [(.int .i64 0),(.int .i64 0)]]
def rQUX1 : List O := [
 oo 5 <| .mv (.t 0),
 oo 6 <| .mv (.t 1),
 oo 7 <| .min [(.t 5),(.t 6)],
 oo 8 <| .mv (.t 0),
 oo 9 <| .mv (.t 1),
 oo 10 <| .max [(.t 8),(.t 9)],
 oo 11 <| .build [(.int .i64 0),(.int .i64 0)] [(0,1,(.t 7)),(1,1,(.t 10))],
 oz <| .st 2 (.t 4) (.t 11)]
def cQU : C := (.seq (.reg rQUX0 false [] [0,1,4]) (.seq (.reg rQUX1 false [] [4]) .ret))
def qQU : AFn := ⟨12,2,[.c 4 (some 2)],cQU⟩
/- cohesion/graph.Order -/
def rQVX0 : List O := [
 oo 2 <| .box (.t 0),
 oo 3 <| .box (.t 1),
 oo 4 <| .mv (ki 0)]
def rQVX1 : List O := [
 oo 5 <| .fad 0 (.t 2),
 oo 6 <| .ld none (.t 5),
 oo 7 <| .fad 0 (.t 3),
 oo 8 <| .ld none (.t 7),
 oo 9 <| .call nQ2 [(.t 6),(.t 8)],
 oo 10 <| .fad 1 (.t 2),
 oo 11 <| .ld none (.t 10),
 oo 12 <| .fad 1 (.t 3),
 oo 13 <| .ld none (.t 12),
 oo 14 <| .call nQ2 [(.t 11),(.t 13)],
 oo 15 <| .bslice 1 2 [(.int .i64 0)] [(0,1,(.t 9)),(1,1,(.t 14))],
 oo 16 <| .call nQ1 [(.t 15)],
 oo 4 <| .mv (.t 16)]
def cQV : C := (.seq (.reg rQVX0 false [] [2,3]) (.seq (.reg rQVX1 true [(9,9),(10,10),(11,11),(12,12),(1,2),(0,3),(1,3),(1,5),(3,5),(4,5),(0,6),(1,6),(2,6),(3,6),(4,6),(1,7),(3,7),(4,7),(6,7),(0,8),(1,8),(2,8),(3,8),(4,8),(5,8),(6,8)] [4]) .ret))
def qQV : AFn := ⟨17,2,[.t 4],cQV⟩
/- cohesion/cliques.all -/
def rQWX0 : List O := [
 oo 2 <| .mv (.k (.int .u64 0))]
def rQWX1 : List O := [
 oo 3 <| .mv (.t 0),
 oo 4 <| .bin .shl (.k (.int .u64 1)) (.t 3),
 oo 5 <| .bin .sub (.t 4) (.k (.int .u64 1)),
 oo 2 <| .mv (.t 5)]
def cQW : C := (.seq (.reg rQWX0 false [] [0]) (.seq (.reg rQWX1 false [] [2]) .ret))
def qQW : AFn := ⟨6,1,[.t 2],cQW⟩
/- cohesion/cohesionref03.Before -/
def rQXX0 : List O := [
 oo 2 <| .box (.t 0),
 oo 3 <| .box (.t 1),
 oo 4 <| .mv (.k (.bool false))]
def rQXX1 : List O := [
 oo 5 <| .fad 0 (.t 2),
 oo 6 <| .ld none (.t 5),
 oo 7 <| .fad 0 (.t 3),
 oo 8 <| .ld none (.t 7),
 oo 9 <| .bin .lss (.t 6) (.t 8),
 oo 10 <| .mv (.t 9),
 ⟨(some 11),(some (10,false)),.fad 0 (.t 2)⟩,
 ⟨(some 12),(some (10,false)),.ld none (.t 11)⟩,
 ⟨(some 13),(some (10,false)),.fad 0 (.t 3)⟩,
 ⟨(some 14),(some (10,false)),.ld none (.t 13)⟩,
 ⟨(some 15),(some (10,false)),.bin .eql (.t 12) (.t 14)⟩,
 ⟨(some 16),(some (10,false)),.mv (.t 15)⟩,
 ⟨(some 17),(some (16,true)),.fad 1 (.t 2)⟩,
 ⟨(some 18),(some (16,true)),.ld none (.t 17)⟩,
 ⟨(some 19),(some (16,true)),.fad 1 (.t 3)⟩,
 ⟨(some 20),(some (16,true)),.ld none (.t 19)⟩,
 ⟨(some 21),(some (16,true)),.bin .lss (.t 18) (.t 20)⟩,
 ⟨(some 22),(some (10,false)),.pick (.t 16) (.t 21) (.k (.bool false))⟩,
 oo 23 <| .pick (.t 10) (.k (.bool true)) (.t 22),
 oo 4 <| .mv (.t 23)]
def cQX : C := (.seq (.reg rQXX0 false [] [2,3]) (.seq (.reg rQXX1 false [] [4]) .ret))
def qQX : AFn := ⟨24,2,[.t 4],cQX⟩
/- cohesion/cohesionref02.put -/
def rQYX0 : List O := [
 oo 4 <| .mv (.k (.own 1 []))]
def rQYX1 : List O := [
 oo 5 <| .mv (ki 0)]
def rQYX2 : List O := [
 oo 7 <| .mv (.t 5),
 oo 8 <| .mv (.t 0),
 oo 9 <| .len (.t 8),
 oo 10 <| .bin .lss (.t 7) (.t 9),
 oo 11 <| .mv (.t 10),
 ⟨(some 12),(some (11,true)),.mv (.t 0)⟩,
 ⟨(some 13),(some (11,true)),.mv (.t 5)⟩,
 ⟨(some 14),(some (11,true)),.ixa 1 (.t 12) (.t 13)⟩,
 ⟨(some 15),(some (11,true)),.ld none (.t 14)⟩,
 ⟨(some 16),(some (11,true)),.mv (.t 1)⟩,
 ⟨(some 17),(some (11,true)),.bin .lss (.t 15) (.t 16)⟩,
 oo 18 <| .pick (.t 11) (.t 17) (.k (.bool false))]
def rQYX3 : List O := [
 oo 19 <| .mv (.t 5),
 oo 20 <| .bin .add (.t 19) (ki 1),
 oo 5 <| .mv (.t 20)]
def lQYX0 : C := (.seq (.seq (.reg rQYX2 false [] [0,1,5,18]) (.cond (.t 18) .skip (.exit 0))) (.blk 1 (.reg rQYX3 false [] [0,1,5])))
def rQYX4 : List O := [
 oo 21 <| .mv (.t 5),
 oo 22 <| .mv (.t 0),
 oo 23 <| .len (.t 22),
 oo 24 <| .bin .lss (.t 21) (.t 23),
 oo 25 <| .mv (.t 24),
 ⟨(some 26),(some (25,true)),.mv (.t 0)⟩,
 ⟨(some 27),(some (25,true)),.mv (.t 5)⟩,
 ⟨(some 28),(some (25,true)),.ixa 1 (.t 26) (.t 27)⟩,
 ⟨(some 29),(some (25,true)),.ld none (.t 28)⟩,
 ⟨(some 30),(some (25,true)),.mv (.t 1)⟩,
 ⟨(some 31),(some (25,true)),.bin .eql (.t 29) (.t 30)⟩,
 oo 32 <| .pick (.t 25) (.t 31) (.k (.bool false))]
def rQYX5 : List O := [
 oo 33 <| .mv (.t 0),
 oo 4 <| .mv (.t 33)]
def rQYX6 : List O := [
 oo 34 <| .mv (.t 0),
 oo 35 <| .mv (.t 5),
 oo 36 <| .slc 1 (.t 34) none (some (.t 35)),
 oo 37 <| .app 1 (.k (.own 1 [])) (.t 36),
 oo 6 <| .mv (.t 37)]
def rQYX7 : List O := [
 oo 38 <| .mv (.t 6),
 oo 39 <| .mv (.t 1),
 oo 40 <| .bslice 1 1 [(.int .i64 0)] [(0,1,(.t 39))],
 oo 41 <| .app 1 (.t 38) (.t 40),
 oo 42 <| .mv (.t 0),
 oo 43 <| .mv (.t 5),
 oo 44 <| .slc 1 (.t 42) (some (.t 43)) none,
 oo 45 <| .app 1 (.t 41) (.t 44),
 oo 4 <| .mv (.t 45)]
def cQY : C := (.seq (.reg rQYX0 false [] [0,1]) (.seq (.reg rQYX1 false [] [0,1,5]) (.seq (.blk 0 (.loop lQYX0)) (.seq (.seq (.reg rQYX4 false [] [0,1,5,32]) (.cond (.t 32) (.seq (.reg rQYX5 false [] [4]) .ret) .skip)) (.seq (.reg rQYX6 false [] [0,1,5,6]) (.seq (.reg rQYX7 true [(7,7),(8,8),(0,2),(2,4),(3,4),(2,5),(3,5),(2,6),(3,6)] [4]) .ret))))))
def qQY : AFn := ⟨46,2,[.t 4],cQY⟩
/- cohesion/cliques.each$1 -/
def rQZX0 : List O := [
 oo 11 <| .mv (.k (.bool false))]
def rQZX1 : List O := [
 oo 18 <| .mv (.t 0),
 oo 19 <| .bin .eql (.t 18) (.k (.int .u64 0))]
def rQZX2 : List O := [
 oo 20 <| .mv (.t 1),
 oo 21 <| .bin .neq (.t 20) (.k (.int .u64 0)),
 oo 22 <| .mv (.t 21),
 ⟨(some 23),(some (22,false)),.ld none (.t 3)⟩,
 ⟨(some 24),(some (22,false)),.len (.t 23)⟩,
 ⟨(some 25),(some (22,false)),.bin .eql (.t 24) (ki 0)⟩,
 oo 26 <| .pick (.t 22) (.k (.bool true)) (.t 25),
 oo 27 <| .mv (.t 26),
 ⟨(some 28),(some (27,false)),.mv (.t 2)⟩,
 ⟨(some 29),(some (27,false)),.mv (.t 28)⟩,
 ⟨(some 30),(some (29,true)),.ld none (.t 3)⟩,
 ⟨(some 31),(some (29,true)),.len (.t 30)⟩,
 ⟨(some 32),(some (29,true)),.ld none (.t 4)⟩,
 ⟨(some 33),(some (29,true)),.len (.t 32)⟩,
 ⟨(some 34),(some (29,true)),.bin .leq (.t 31) (.t 33)⟩,
 ⟨(some 35),(some (27,false)),.pick (.t 29) (.t 34) (.k (.bool false))⟩,
 oo 36 <| .pick (.t 27) (.k (.bool true)) (.t 35),
 oo 37 <| .mv (.t 36),
 ⟨(some 38),(some (37,false)),.ld none (.t 5)⟩,
 ⟨(some 39),(some (37,false)),.ld none (.t 3)⟩,
 ⟨(some 40),(some (37,false)),.call nQB [(.t 39)]⟩,
 ⟨(some 41),(some (37,false)),.callv (.t 38) [(.t 40)]⟩,
 oo 42 <| .pick (.t 37) (.k (.bool true)) (.t 41),
 oo 11 <| .mv (.t 42)]
def rQZX3 : List O := [
 oo 43 <| .mv (.t 1),
 oo 12 <| .mv (.t 43)]
def rQZX4 : List O := [
 oo 44 <| .mv (.t 12),
 oo 45 <| .bin .neq (.t 44) (.k (.int .u64 0))]
def rQZX5 : List O := [
 oo 50 <| .mv (.t 0),
 oo 51 <| .ld none (.t 6),
 oo 52 <| .mv (.t 12),
 oo 53 <| .call nQD [(.t 52)],
 oo 54 <| .ixa 1 (.t 51) (.t 53),
 oo 55 <| .ld none (.t 54),
 oo 56 <| .bin .andNot (.t 50) (.t 55),
 oo 57 <| .bin .eql (.t 56) (.k (.int .u64 0))]
def rQZX6 : List O := [
 oo 11 <| .mv (.k (.bool true))]
def rQZX7 : List O := [
 oo 46 <| .mv (.t 12),
 oo 47 <| .mv (.t 12),
 oo 48 <| .bin .sub (.t 47) (.k (.int .u64 1)),
 oo 49 <| .bin .and (.t 46) (.t 48),
 oo 12 <| .mv (.t 49)]
def lQZX0 : C := (.seq (.seq (.reg rQZX4 false [] [0,1,2,3,4,6,7,12,45]) (.cond (.t 45) .skip (.exit 0))) (.seq (.blk 1 (.seq (.reg rQZX5 true [(6,6),(7,7),(0,1),(1,2),(0,3),(1,3),(0,5)] [0,1,2,3,4,6,7,12,57]) (.cond (.t 57) (.seq (.reg rQZX6 false [] [11]) .ret) .skip))) (.reg rQZX7 false [] [0,1,2,3,4,6,7,12])))
def rQZX8 : List O := [
 oo 58 <| .mv (.t 0),
 oo 13 <| .mv (.t 58)]
def rQZX9 : List O := [
 oo 59 <| .mv (.t 13),
 oo 60 <| .bin .neq (.t 59) (.k (.int .u64 0))]
def rQZX10 : List O := [
 oo 65 <| .mv (.t 13),
 oo 66 <| .call nQD [(.t 65)],
 oo 14 <| .mv (.t 66)]
def rQZX11 : List O := [
 oo 67 <| .mv (.t 2),
 oo 68 <| .mv (.t 67),
 ⟨(some 69),(some (68,true)),.ld none (.t 3)⟩,
 ⟨(some 70),(some (68,true)),.len (.t 69)⟩,
 ⟨(some 71),(some (68,true)),.ld none (.t 4)⟩,
 ⟨(some 72),(some (68,true)),.len (.t 71)⟩,
 ⟨(some 73),(some (68,true)),.bin .lss (.t 70) (.t 72)⟩,
 oo 74 <| .pick (.t 68) (.t 73) (.k (.bool false)),
 oo 15 <| .mv (.t 74)]
def rQZX12 : List O := [
 oo 75 <| .mv (.t 15),
 oo 76 <| .mv (.t 75),
 ⟨(some 77),(some (76,true)),.mv (.t 14)⟩,
 ⟨(some 78),(some (76,true)),.ld none (.t 4)⟩,
 ⟨(some 79),(some (76,true)),.ld none (.t 3)⟩,
 ⟨(some 80),(some (76,true)),.len (.t 79)⟩,
 ⟨(some 81),(some (76,true)),.ixa 1 (.t 78) (.t 80)⟩,
 ⟨(some 82),(some (76,true)),.ld none (.t 81)⟩,
 ⟨(some 83),(some (76,true)),.bin .lss (.t 77) (.t 82)⟩,
 oo 84 <| .pick (.t 76) (.t 83) (.k (.bool false))]
def rQZX13 : List O := [
 oo 85 <| .mv (.t 15),
 oo 86 <| .mv (.t 85),
 ⟨(some 87),(some (86,true)),.mv (.t 14)⟩,
 ⟨(some 88),(some (86,true)),.ld none (.t 4)⟩,
 ⟨(some 89),(some (86,true)),.ld none (.t 3)⟩,
 ⟨(some 90),(some (86,true)),.len (.t 89)⟩,
 ⟨(some 91),(some (86,true)),.ixa 1 (.t 88) (.t 90)⟩,
 ⟨(some 92),(some (86,true)),.ld none (.t 91)⟩,
 ⟨(some 93),(some (86,true)),.bin .eql (.t 87) (.t 92)⟩,
 oo 94 <| .pick (.t 86) (.t 93) (.k (.bool false)),
 oo 15 <| .mv (.t 94)]
def rQZX14 : List O := [
 oo 95 <| .ld none (.t 3),
 oo 96 <| .mv (.t 14),
 oo 97 <| .bslice 1 1 [(.int .i64 0)] [(0,1,(.t 96))],
 oo 98 <| .app 1 (.t 95) (.t 97),
 oz <| .st 1 (.t 3) (.t 98)]
def rQZX15 : List O := [
 oo 99 <| .mv (.t 14),
 oo 100 <| .bin .shl (.k (.int .u64 1)) (.t 99),
 oo 101 <| .bin .sub (.t 100) (.k (.int .u64 1)),
 oo 16 <| .mv (.t 101)]
def rQZX16 : List O := [
 oo 102 <| .ld none (.t 7),
 oo 103 <| .mv (.t 0),
 oo 104 <| .ld none (.t 6),
 oo 105 <| .mv (.t 14),
 oo 106 <| .ixa 1 (.t 104) (.t 105),
 oo 107 <| .ld none (.t 106),
 oo 108 <| .bin .and (.t 103) (.t 107),
 oo 109 <| .mv (.t 16),
 oo 110 <| .bin .andNot (.t 108) (.t 109),
 oo 111 <| .mv (.t 1),
 oo 112 <| .mv (.t 0),
 oo 113 <| .mv (.t 16),
 oo 114 <| .bin .and (.t 112) (.t 113),
 oo 115 <| .bin .or (.t 111) (.t 114),
 oo 116 <| .ld none (.t 6),
 oo 117 <| .mv (.t 14),
 oo 118 <| .ixa 1 (.t 116) (.t 117),
 oo 119 <| .ld none (.t 118),
 oo 120 <| .bin .and (.t 115) (.t 119),
 oo 121 <| .mv (.t 15),
 oo 122 <| .callv (.t 102) [(.t 110),(.t 120),(.t 121)],
 oo 17 <| .mv (.t 122)]
def rQZX17 : List O := [
 oo 123 <| .ld none (.t 3),
 oo 124 <| .ld none (.t 3),
 oo 125 <| .len (.t 124),
 oo 126 <| .bin .sub (.t 125) (ki 1),
 oo 127 <| .slc 1 (.t 123) none (some (.t 126)),
 oz <| .st 1 (.t 3) (.t 127)]
def rQZX18 : List O := [
 oo 128 <| .mv (.t 17),
 oo 129 <| .un .not (.t 128)]
def rQZX19 : List O := [
 oo 11 <| .mv (.k (.bool false))]
def rQZX20 : List O := [
 oo 61 <| .mv (.t 13),
 oo 62 <| .mv (.t 13),
 oo 63 <| .bin .sub (.t 62) (.k (.int .u64 1)),
 oo 64 <| .bin .and (.t 61) (.t 63),
 oo 13 <| .mv (.t 64)]
def lQZX1 : C := (.seq (.seq (.reg rQZX9 false [] [0,1,2,3,4,6,7,13,60]) (.cond (.t 60) .skip (.exit 2))) (.seq (.blk 3 (.seq (.reg rQZX10 false [] [0,1,2,3,4,6,7,13,14]) (.seq (.reg rQZX11 false [] [0,1,2,3,4,6,7,13,14,15]) (.seq (.seq (.reg rQZX12 false [] [0,1,2,3,4,6,7,13,14,15,84]) (.cond (.t 84) (.exit 3) .skip)) (.seq (.reg rQZX13 false [] [0,1,2,3,4,6,7,13,14,15]) (.seq (.reg rQZX14 false [] [0,1,2,3,4,6,7,13,14,15]) (.seq (.reg rQZX15 false [] [0,1,2,3,4,6,7,13,14,15,16]) (.seq (.reg rQZX16 true [(20,20),(21,21),(0,1),(0,2),(1,2),(0,3),(2,3),(0,4),(0,5),(1,5),(0,6),(0,7),(2,7),(5,7),(0,8),(0,9),(2,9),(5,9),(0,10),(2,10),(5,10),(0,11),(2,11),(5,11),(0,12),(2,12),(5,12),(0,13),(2,13),(5,13),(0,14),(1,14),(2,14),(3,14),(4,14),(5,14),(6,14),(7,14),(8,14),(9,14),(10,14),(11,14),(12,14),(13,14),(0,15),(2,15),(5,15),(14,15),(0,16),(2,16),(5,16),(0,17),(1,17),(2,17),(3,17),(4,17),(5,17),(6,17),(7,17),(8,17),(9,17),(10,17),(11,17),(12,17),(13,17),(0,18),(2,18),(5,18),(0,19),(2,19),(5,19),(14,19),(17,19)] [0,1,2,3,4,6,7,13,17]) (.seq (.reg rQZX17 false [] [0,1,2,3,4,6,7,13,17]) (.seq (.reg rQZX18 false [] [0,1,2,3,4,6,7,13,129]) (.cond (.t 129) (.seq (.reg rQZX19 false [] [11]) .ret) .skip))))))))))) (.reg rQZX20 false [] [0,1,2,3,4,6,7,13])))
def rQZX21 : List O := [
 oo 11 <| .mv (.k (.bool true))]
def cQZ : C := (.seq (.reg rQZX0 false [] [0,1,2,3,4,5,6,7]) (.seq (.seq (.reg rQZX1 false [] [0,1,2,3,4,5,6,7,19]) (.cond (.t 19) (.seq (.reg rQZX2 true [(0,0),(1,1),(2,2),(3,3),(4,4),(5,5),(6,6),(7,7),(8,8),(9,9),(14,14),(15,15),(16,16),(17,17),(21,21),(22,22),(23,23),(10,12),(11,12),(10,13),(18,19),(18,20)] [11]) .ret) .skip)) (.seq (.seq (.reg rQZX3 false [] [0,1,2,3,4,6,7,12]) (.blk 0 (.loop lQZX0))) (.seq (.seq (.reg rQZX8 false [] [0,1,2,3,4,6,7,13]) (.blk 2 (.loop lQZX1))) (.seq (.reg rQZX21 false [] [11]) .ret)))))
def qQZ : AFn := ⟨130,3,[.t 11],cQZ⟩
/- cohesion/cohesionref24.grow -/
def rQ0X0 : List O := [
 oo 5 <| .box (.t 0),
 oo 10 <| .mv (.k (.own 1 []))]
def rQ0X1 : List O := [
 oo 13 <| .mv (.t 2),
 oo 11 <| .mv (.t 13)]
def rQ0X2 : List O := [
 oo 14 <| .mv (.t 11),
 oo 15 <| .fad 0 (.t 5),
 oo 16 <| .ld none (.t 15),
 oo 17 <| .bin .lss (.t 14) (.t 16)]
def rQ0X3 : List O := [
 oo 20 <| .mv (.t 3),
 oo 21 <| .len (.t 20),
 oo 22 <| .mv (.t 4),
 oo 23 <| .bin .leq (.t 21) (.t 22),
 oo 24 <| .mv (.t 23),
 ⟨(some 25),(some (24,true)),.ld (some 2) (.t 5)⟩,
 ⟨(some 26),(some (24,true)),.mv (.t 1)⟩,
 ⟨(some 27),(some (24,true)),.mv (.t 11)⟩,
 ⟨(some 28),(some (24,true)),.call nQG [(.t 25),(.t 26),(.t 27)]⟩,
 oo 29 <| .pick (.t 24) (.t 28) (.k (.bool false))]
def rQ0X4 : List O := [
 oo 30 <| .mv (.t 1),
 oo 31 <| .app 1 (.k (.own 1 [])) (.t 30),
 oo 32 <| .mv (.t 11),
 oo 33 <| .bslice 1 1 [(.int .i64 0)] [(0,1,(.t 32))],
 oo 34 <| .app 1 (.t 31) (.t 33),
 oo 12 <| .mv (.t 34)]
def rQ0X5 : List O := [
 oo 35 <| .ld (some 2) (.t 5),
 oo 36 <| .mv (.t 12),
 oo 37 <| .call nQq [(.t 35),(.t 36)]]
def rQ0X6 : List O := [
 oo 38 <| .mv (.t 3),
 oo 39 <| .mv (.t 12),
 oo 40 <| .bslice 1 1 [(.own 1 [])] [(0,1,(.t 39))],
 oo 41 <| .app 1 (.t 38) (.t 40),
 oo 3 <| .mv (.t 41)]
def rQ0X7 : List O := [
 oo 42 <| .ld (some 2) (.t 5),
 oo 43 <| .mv (.t 12),
 oo 44 <| .mv (.t 11),
 oo 45 <| .bin .add (.t 44) (ki 1),
 oo 46 <| .mv (.t 3),
 oo 47 <| .mv (.t 4),
 oo 48 <| .call nQ0 [(.t 42),(.t 43),(.t 45),(.t 46),(.t 47)],
 oo 3 <| .mv (.t 48)]
def rQ0X8 : List O := [
 oo 18 <| .mv (.t 11),
 oo 19 <| .bin .add (.t 18) (ki 1),
 oo 11 <| .mv (.t 19)]
def lQ0X0 : C := (.seq (.seq (.reg rQ0X2 false [] [1,3,4,5,11,17]) (.cond (.t 17) .skip (.exit 0))) (.seq (.blk 1 (.seq (.reg rQ0X3 false [] [1,3,4,5,11,29]) (.cond (.t 29) (.seq (.reg rQ0X4 false [] [1,3,4,5,11,12]) (.seq (.reg rQ0X5 false [] [1,3,4,5,11,12,37]) (.cond (.t 37) (.reg rQ0X6 false [] [1,3,4,5,11]) (.reg rQ0X7 false [] [1,3,4,5,11])))) .skip))) (.reg rQ0X8 false [] [1,3,4,5,11])))
def rQ0X9 : List O := [
 oo 49 <| .mv (.t 3),
 oo 10 <| .mv (.t 49)]
def cQ0 : C := (.seq (.reg rQ0X0 false [] [1,2,3,4,5]) (.seq (.seq (.reg rQ0X1 false [] [1,3,4,5,11]) (.blk 0 (.loop lQ0X0))) (.seq (.reg rQ0X9 false [] [10]) .ret)))
def qQ0 : AFn := ⟨50,5,[.t 10],cQ0⟩
/- cmp.Or[int] -/
def rQ1X0 : List O := [
 oo 2 <| .mv (ki 0)]
def rQ1X1 : List O := [
 oo 3 <| .mv (ki 0)]
def rQ1X2 : List O := [
 oo 6 <| .mv (.t 0),
 oo 7 <| .len (.t 6),
 oo 8 <| .mv (ki 0)]
def rQ1X3 : List O := [
 oo 9 <| .bin .lss (.t 8) (.t 7)]
def rQ1X4 : List O := [
 oo 10 <| .ixa 1 (.t 6) (.t 8),
 oo 11 <| .ld none (.t 10),
 oo 5 <| .mv (.t 11)]
def rQ1X5 : List O := [
 oo 12 <| .mv (.t 5),
 oo 13 <| .mv (.t 3),
 oo 14 <| .bin .neq (.t 12) (.t 13)]
def rQ1X6 : List O := [
 oo 15 <| .mv (.t 5),
 oo 2 <| .mv (.t 15)]
def rQ1X7 : List O := [
 oo 16 <| .bin .add (.t 8) (ki 1),
 oo 8 <| .mv (.t 16)]
def lQ1X0 : C := (.seq (.reg rQ1X3 false [] [3,6,7,8,9]) (.seq (.cond (.t 9) .skip (.exit 0)) (.seq (.blk 1 (.seq (.reg rQ1X4 false [] [3,5,6,7,8]) (.seq (.reg rQ1X5 false [] [3,5,6,7,8,14]) (.cond (.t 14) (.seq (.reg rQ1X6 false [] [2]) .ret) .skip)))) (.reg rQ1X7 false [] [3,6,7,8]))))
def rQ1X8 : List O := [
 oo 17 <| .mv (.t 3),
 oo 2 <| .mv (.t 17)]
def cQ1 : C := (.seq (.reg rQ1X0 false [] [0]) (.seq (.reg rQ1X1 false [] [0,3]) (.seq (.seq (.reg rQ1X2 false [] [3,6,7,8]) (.blk 0 (.loop lQ1X0))) (.seq (.reg rQ1X8 false [] [2]) .ret))))
def qQ1 : AFn := ⟨18,1,[.t 2],cQ1⟩
/- cmp.Compare[int] -/
def rQ2X0 : List O := [
 oo 4 <| .mv (ki 0)]
def rQ2X1 : List O := [
 oo 7 <| .mv (.t 0),
 oo 8 <| .call nQ3 [(.t 7)],
 oo 5 <| .mv (.t 8)]
def rQ2X2 : List O := [
 oo 9 <| .mv (.t 1),
 oo 10 <| .call nQ3 [(.t 9)],
 oo 6 <| .mv (.t 10)]
def rQ2X3 : List O := [
 oo 11 <| .mv (.t 5)]
def rQ2X4 : List O := [
 oo 12 <| .mv (.t 6)]
def rQ2X5 : List O := [
 oo 4 <| .mv (ki 0)]
def rQ2X6 : List O := [
 oo 4 <| .mv (.k (.int .i64 (-1)))]
def rQ2X7 : List O := [
 oo 13 <| .mv (.t 6)]
def rQ2X8 : List O := [
 oo 4 <| .mv (ki 1)]
def rQ2X9 : List O := [
 oo 14 <| .mv (.t 0),
 oo 15 <| .mv (.t 1),
 oo 16 <| .bin .lss (.t 14) (.t 15)]
def rQ2X10 : List O := [
 oo 4 <| .mv (.k (.int .i64 (-1)))]
def rQ2X11 : List O := [
 oo 17 <| .mv (.t 0),
 oo 18 <| .mv (.t 1),
 oo 19 <| .bin .gtr (.t 17) (.t 18)]
def rQ2X12 : List O := [
 oo 4 <| .mv (ki 1)]
def rQ2X13 : List O := [
 oo 4 <| .mv (ki 0)]
def cQ2 : C := (.seq (.reg rQ2X0 false [] [0,1]) (.seq (.reg rQ2X1 false [] [0,1,5]) (.seq (.reg rQ2X2 false [] [0,1,5,6]) (.seq (.seq (.reg rQ2X3 false [] [0,1,6,11]) (.cond (.t 11) (.seq (.seq (.reg rQ2X4 false [] [12]) (.cond (.t 12) (.seq (.reg rQ2X5 false [] [4]) .ret) .skip)) (.seq (.reg rQ2X6 false [] [4]) .ret)) .skip)) (.seq (.seq (.reg rQ2X7 false [] [0,1,13]) (.cond (.t 13) (.seq (.reg rQ2X8 false [] [4]) .ret) .skip)) (.seq (.seq (.reg rQ2X9 false [] [0,1,16]) (.cond (.t 16) (.seq (.reg rQ2X10 false [] [4]) .ret) .skip)) (.seq (.seq (.reg rQ2X11 false [] [19]) (.cond (.t 19) (.seq (.reg rQ2X12 false [] [4]) .ret) .skip)) (.seq (.reg rQ2X13 false [] [4]) .ret))))))))
def qQ2 : AFn := ⟨20,2,[.t 4],cQ2⟩
/- cmp.isNaN[int] -/
def rQ3X0 : List O := [
 oo 2 <| .mv (.k (.bool false))]
def rQ3X1 : List O := [
 oo 3 <| .mv (.t 0),
 oo 4 <| .mv (.t 0),
 oo 5 <| .bin .neq (.t 3) (.t 4),
 oo 2 <| .mv (.t 5)]
def cQ3 : C := (.seq (.reg rQ3X0 false [] [0]) (.seq (.reg rQ3X1 false [] [2]) .ret))
def qQ3 : AFn := ⟨6,1,[.t 2],cQ3⟩
abbrev Md := Go.Bm.Md
abbrev Cfg := Go.Bm.Cfg
def look : List (Nat × Md × AFn) -> Nat -> Option (Md × AFn)
 | [],_ => none
 | (j,m,q) :: r,i => if i = j then some (m,q) else look r i
def fns : List (Nat × Md × AFn) := [
 (nQa,⟨false,false,true⟩,qQa),
 (nQb,⟨false,false,true⟩,qQb),
 (nQc,⟨false,false,true⟩,qQc),
 (nQd,⟨false,false,true⟩,qQd),
 (nQe,⟨true,false,false⟩,qQe),
 (nQf,⟨true,false,false⟩,qQf),
 (nQg,⟨true,false,false⟩,qQg),
 (nQh,⟨true,false,false⟩,qQh),
 (nQi,⟨true,false,false⟩,qQi),
 (nQj,⟨false,false,false⟩,qQj),
 (nQk,⟨false,false,false⟩,qQk),
 (nQl,⟨false,false,false⟩,qQl),
 (nQm,⟨false,false,false⟩,qQm),
 (nQn,⟨false,false,true⟩,qQn),
 (nQo,⟨false,false,true⟩,qQo),
 (nQp,⟨false,false,true⟩,qQp),
 (nQq,⟨false,false,true⟩,qQq),
 (nQr,⟨false,false,true⟩,qQr),
 (nQs,⟨false,false,false⟩,qQs),
 (nQt,⟨false,false,false⟩,qQt),
 (nQu,⟨false,false,true⟩,qQu),
 (nQv,⟨false,false,true⟩,qQv),
 (nQw,⟨false,false,true⟩,qQw),
 (nQx,⟨false,false,false⟩,qQx),
 (nQy,⟨false,false,true⟩,qQy),
 (nQz,⟨false,false,true⟩,qQz),
 (nQA,⟨false,false,false⟩,qQA),
 (nQB,⟨false,true,true⟩,qQB),
 (nQC,⟨false,false,true⟩,qQC),
 (nQD,⟨false,false,true⟩,qQD),
 (nQE,⟨false,false,true⟩,qQE),
 (nQF,⟨false,false,true⟩,qQF),
 (nQG,⟨false,false,true⟩,qQG),
 (nQH,⟨false,false,false⟩,qQH),
 (nQI,⟨true,false,false⟩,qQI),
 (nQJ,⟨true,false,false⟩,qQJ),
 (nQK,⟨false,false,false⟩,qQK),
 (nQL,⟨false,false,true⟩,qQL),
 (nQM,⟨false,false,true⟩,qQM),
 (nQN,⟨false,false,true⟩,qQN),
 (nQO,⟨false,false,true⟩,qQO),
 (nQP,⟨true,false,false⟩,qQP),
 (nQQ,⟨true,false,false⟩,qQQ),
 (nQR,⟨false,false,true⟩,qQR),
 (nQS,⟨false,false,true⟩,qQS),
 (nQT,⟨false,false,false⟩,qQT),
 (nQU,⟨false,false,false⟩,qQU),
 (nQV,⟨false,false,true⟩,qQV),
 (nQW,⟨false,false,true⟩,qQW),
 (nQX,⟨false,false,true⟩,qQX),
 (nQY,⟨false,false,false⟩,qQY),
 (nQZ,⟨true,false,false⟩,qQZ),
 (nQ0,⟨false,true,true⟩,qQ0),
 (nQ1,⟨false,false,true⟩,qQ1),
 (nQ2,⟨false,false,true⟩,qQ2),
 (nQ3,⟨false,false,true⟩,qQ3)]
def nQ4 : Nat := 0
def tabZ : List Int := [0,1,56,2,57,49,28,3,61,58,42,50,38,29,17,4,62,47,59,36,45,43,51,22,53,39,33,30,24,18,12,5,63,55,48,27,60,41,37,16,46,35,44,21,52,32,23,11,54,26,40,15,34,20,31,10,25,14,19,9,13,8,7,6]
def tabA : List AV := tabZ.map (AV.int .u8)
def cfg : Cfg := ⟨look fns,fun i => if i = nQ4 then tabA else [],fun _ => none,fun _ => none,fun _ => none,fun _ => false,fun _ => false,fun _ => none⟩
theorem kQa : chkFB Go.Proofs.Tryd.prog Go.Proofs.Tryd.f3 qQa = true := by kernel_rfl
theorem kQb : chkFB Go.Proofs.Tryd.prog Go.Proofs.Tryd.f4 qQb = true := by kernel_rfl
theorem kQc : chkFB Go.Proofs.Tryd.prog Go.Proofs.Tryd.f5 qQc = true := by kernel_rfl
theorem kQd : chkFB Go.Proofs.Tryd.prog Go.Proofs.Tryd.f6 qQd = true := by kernel_rfl
theorem kQe : chkFB Go.Proofs.Tryd.prog Go.Proofs.Tryd.f7 qQe = true := by kernel_rfl
theorem kQf : chkFB Go.Proofs.Tryd.prog Go.Proofs.Tryd.f8 qQf = true := by kernel_rfl
theorem kQg : chkFB Go.Proofs.Tryd.prog Go.Proofs.Tryd.f9 qQg = true := by kernel_rfl
theorem kQh : chkFB Go.Proofs.Tryd.prog Go.Proofs.Tryd.f10 qQh = true := by kernel_rfl
theorem kQi : chkFB Go.Proofs.Tryd.prog Go.Proofs.Tryd.f11 qQi = true := by kernel_rfl
theorem kQj : chkFB Go.Proofs.Tryd.prog Go.Proofs.Tryd.f12 qQj = true := by kernel_rfl
theorem kQk : chkFB Go.Proofs.Tryd.prog Go.Proofs.Tryd.f13 qQk = true := by kernel_rfl
theorem kQl : chkFB Go.Proofs.Tryd.prog Go.Proofs.Tryd.f14 qQl = true := by kernel_rfl
theorem kQm : chkFB Go.Proofs.Tryd.prog Go.Proofs.Tryd.f15 qQm = true := by kernel_rfl
theorem kQn : chkFB Go.Proofs.Tryd.prog Go.Proofs.Tryd.f16 qQn = true := by kernel_rfl
theorem kQo : chkFB Go.Proofs.Tryd.prog Go.Proofs.Tryd.f17 qQo = true := by kernel_rfl
theorem kQp : chkFB Go.Proofs.Tryd.prog Go.Proofs.Tryd.f18 qQp = true := by kernel_rfl
theorem kQq : chkFB Go.Proofs.Tryd.prog Go.Proofs.Tryd.f19 qQq = true := by kernel_rfl
theorem kQr : chkFB Go.Proofs.Tryd.prog Go.Proofs.Tryd.f20 qQr = true := by kernel_rfl
theorem kQs : chkFB Go.Proofs.Tryd.prog Go.Proofs.Tryd.f21 qQs = true := by kernel_rfl
theorem kQt : chkFB Go.Proofs.Tryd.prog Go.Proofs.Tryd.f22 qQt = true := by kernel_rfl
theorem kQu : chkFB Go.Proofs.Tryd.prog Go.Proofs.Tryd.f23 qQu = true := by kernel_rfl
theorem kQv : chkFB Go.Proofs.Tryd.prog Go.Proofs.Tryd.f24 qQv = true := by kernel_rfl
theorem kQw : chkFB Go.Proofs.Tryd.prog Go.Proofs.Tryd.f25 qQw = true := by kernel_rfl
theorem kQx : chkFB Go.Proofs.Tryd.prog Go.Proofs.Tryd.f26 qQx = true := by kernel_rfl
theorem kQy : chkFB Go.Proofs.Tryd.prog Go.Proofs.Tryd.f27 qQy = true := by kernel_rfl
theorem kQz : chkFB Go.Proofs.Tryd.prog Go.Proofs.Tryd.f28 qQz = true := by kernel_rfl
theorem kQA : chkFB Go.Proofs.Tryd.prog Go.Proofs.Tryd.f29 qQA = true := by kernel_rfl
theorem kQB : chkFB Go.Proofs.Tryd.prog Go.Proofs.Tryd.f30 qQB = true := by kernel_rfl
theorem kQC : chkFB Go.Proofs.Tryd.prog Go.Proofs.Tryd.f31 qQC = true := by kernel_rfl
theorem kQD : chkFB Go.Proofs.Tryd.prog Go.Proofs.Tryd.f32 qQD = true := by kernel_rfl
theorem kQE : chkFB Go.Proofs.Tryd.prog Go.Proofs.Tryd.f33 qQE = true := by kernel_rfl
theorem kQF : chkFB Go.Proofs.Tryd.prog Go.Proofs.Tryd.f34 qQF = true := by kernel_rfl
theorem kQG : chkFB Go.Proofs.Tryd.prog Go.Proofs.Tryd.f35 qQG = true := by kernel_rfl
theorem kQH : chkFB Go.Proofs.Tryd.prog Go.Proofs.Tryd.f36 qQH = true := by kernel_rfl
theorem kQI : chkFB Go.Proofs.Tryd.prog Go.Proofs.Tryd.f37 qQI = true := by kernel_rfl
theorem kQJ : chkFB Go.Proofs.Tryd.prog Go.Proofs.Tryd.f38 qQJ = true := by kernel_rfl
theorem kQK : chkFB Go.Proofs.Tryd.prog Go.Proofs.Tryd.f39 qQK = true := by kernel_rfl
theorem kQL : chkFB Go.Proofs.Tryd.prog Go.Proofs.Tryd.f40 qQL = true := by kernel_rfl
theorem kQM : chkFB Go.Proofs.Tryd.prog Go.Proofs.Tryd.f41 qQM = true := by kernel_rfl
theorem kQN : chkFB Go.Proofs.Tryd.prog Go.Proofs.Tryd.f42 qQN = true := by kernel_rfl
theorem kQO : chkFB Go.Proofs.Tryd.prog Go.Proofs.Tryd.f43 qQO = true := by kernel_rfl
theorem kQP : chkFB Go.Proofs.Tryd.prog Go.Proofs.Tryd.f44 qQP = true := by kernel_rfl
theorem kQQ : chkFB Go.Proofs.Tryd.prog Go.Proofs.Tryd.f45 qQQ = true := by kernel_rfl
theorem kQR : chkFB Go.Proofs.Tryd.prog Go.Proofs.Tryd.f46 qQR = true := by kernel_rfl
theorem kQS : chkFB Go.Proofs.Tryd.prog Go.Proofs.Tryd.f47 qQS = true := by kernel_rfl
theorem kQT : chkFB Go.Proofs.Tryd.prog Go.Proofs.Tryd.f48 qQT = true := by kernel_rfl
theorem kQU : chkFB Go.Proofs.Tryd.prog Go.Proofs.Tryd.f49 qQU = true := by kernel_rfl
theorem kQV : chkFB Go.Proofs.Tryd.prog Go.Proofs.Tryd.f50 qQV = true := by kernel_rfl
theorem kQW : chkFB Go.Proofs.Tryd.prog Go.Proofs.Tryd.f51 qQW = true := by kernel_rfl
theorem kQX : chkFB Go.Proofs.Tryd.prog Go.Proofs.Tryd.f54 qQX = true := by kernel_rfl
theorem kQY : chkFB Go.Proofs.Tryd.prog Go.Proofs.Tryd.f55 qQY = true := by kernel_rfl
theorem kQZ : chkFB Go.Proofs.Tryd.prog Go.Proofs.Tryd.f56 qQZ = true := by kernel_rfl
theorem kQ0 : chkFB Go.Proofs.Tryd.prog Go.Proofs.Tryd.f57 qQ0 = true := by kernel_rfl
theorem kQ1 : chkFB Go.Proofs.Tryd.prog Go.Proofs.Tryd.f58 qQ1 = true := by kernel_rfl
theorem kQ2 : chkFB Go.Proofs.Tryd.prog Go.Proofs.Tryd.f59 qQ2 = true := by kernel_rfl
theorem kQ3 : chkFB Go.Proofs.Tryd.prog Go.Proofs.Tryd.f71 qQ3 = true := by kernel_rfl
theorem look_mem : ∀ {l : List (Nat × Md × AFn)} {f : Nat} {m : Md} {q : AFn},look l f = some (m,q) -> (f,m,q) ∈ l
 | [],f,m,q,h => by simp [look] at h
 | (j,m',q') :: r,f,m,q,h => by
   unfold look at h;split at h
   ·rename_i he; subst he; simp at h; obtain ⟨rfl,rfl⟩ := h; simp
   ·exact List.mem_cons_of_mem _ (look_mem h)
def Good (p : Nat × Md × AFn) : Prop := ∃ fn,Go.Proofs.Tryd.prog.funcs[p.1]? = some fn /\ chkFB Go.Proofs.Tryd.prog fn p.2.2 = true
def All (G : Nat × Md × AFn -> Prop) : List (Nat × Md × AFn) -> Prop
 | [] => True
 | p :: r => G p /\ All G r
theorem All.get {G : Nat × Md × AFn -> Prop} : ∀ {l : List (Nat × Md × AFn)},All G l -> ∀ p ∈ l,G p
 | [],_,p,h => by simp at h
 | q :: r,h,p,hp => by
   rcases List.mem_cons.1 hp with e | e
   ·subst e; exact h.1
   ·exact All.get h.2 p e
theorem allGood : All Good fns := ⟨⟨_,Go.Proofs.Tryd.func3,kQa⟩,⟨_,Go.Proofs.Tryd.func4,kQb⟩,⟨_,Go.Proofs.Tryd.func5,kQc⟩,⟨_,Go.Proofs.Tryd.func6,kQd⟩,⟨_,Go.Proofs.Tryd.func7,kQe⟩,⟨_,Go.Proofs.Tryd.func8,kQf⟩,⟨_,Go.Proofs.Tryd.func9,kQg⟩,⟨_,Go.Proofs.Tryd.func10,kQh⟩,⟨_,Go.Proofs.Tryd.func11,kQi⟩,⟨_,Go.Proofs.Tryd.func12,kQj⟩,⟨_,Go.Proofs.Tryd.func13,kQk⟩,⟨_,Go.Proofs.Tryd.func14,kQl⟩,⟨_,Go.Proofs.Tryd.func15,kQm⟩,⟨_,Go.Proofs.Tryd.func16,kQn⟩,⟨_,Go.Proofs.Tryd.func17,kQo⟩,⟨_,Go.Proofs.Tryd.func18,kQp⟩,⟨_,Go.Proofs.Tryd.func19,kQq⟩,⟨_,Go.Proofs.Tryd.func20,kQr⟩,⟨_,Go.Proofs.Tryd.func21,kQs⟩,⟨_,Go.Proofs.Tryd.func22,kQt⟩,⟨_,Go.Proofs.Tryd.func23,kQu⟩,⟨_,Go.Proofs.Tryd.func24,kQv⟩,⟨_,Go.Proofs.Tryd.func25,kQw⟩,⟨_,Go.Proofs.Tryd.func26,kQx⟩,⟨_,Go.Proofs.Tryd.func27,kQy⟩,⟨_,Go.Proofs.Tryd.func28,kQz⟩,⟨_,Go.Proofs.Tryd.func29,kQA⟩,⟨_,Go.Proofs.Tryd.func30,kQB⟩,⟨_,Go.Proofs.Tryd.func31,kQC⟩,⟨_,Go.Proofs.Tryd.func32,kQD⟩,⟨_,Go.Proofs.Tryd.func33,kQE⟩,⟨_,Go.Proofs.Tryd.func34,kQF⟩,⟨_,Go.Proofs.Tryd.func35,kQG⟩,⟨_,Go.Proofs.Tryd.func36,kQH⟩,⟨_,Go.Proofs.Tryd.func37,kQI⟩,⟨_,Go.Proofs.Tryd.func38,kQJ⟩,⟨_,Go.Proofs.Tryd.func39,kQK⟩,⟨_,Go.Proofs.Tryd.func40,kQL⟩,⟨_,Go.Proofs.Tryd.func41,kQM⟩,⟨_,Go.Proofs.Tryd.func42,kQN⟩,⟨_,Go.Proofs.Tryd.func43,kQO⟩,⟨_,Go.Proofs.Tryd.func44,kQP⟩,⟨_,Go.Proofs.Tryd.func45,kQQ⟩,⟨_,Go.Proofs.Tryd.func46,kQR⟩,⟨_,Go.Proofs.Tryd.func47,kQS⟩,⟨_,Go.Proofs.Tryd.func48,kQT⟩,⟨_,Go.Proofs.Tryd.func49,kQU⟩,⟨_,Go.Proofs.Tryd.func50,kQV⟩,⟨_,Go.Proofs.Tryd.func51,kQW⟩,⟨_,Go.Proofs.Tryd.func54,kQX⟩,⟨_,Go.Proofs.Tryd.func55,kQY⟩,⟨_,Go.Proofs.Tryd.func56,kQZ⟩,⟨_,Go.Proofs.Tryd.func57,kQ0⟩,⟨_,Go.Proofs.Tryd.func58,kQ1⟩,⟨_,Go.Proofs.Tryd.func59,kQ2⟩,⟨_,Go.Proofs.Tryd.func71,kQ3⟩,trivial⟩
theorem cfgOK : CfgOKB Go.Proofs.Tryd.prog cfg := ⟨by kernel_rfl,fun f m q h => allGood.get _ (look_mem h)⟩
end Go.BmP
