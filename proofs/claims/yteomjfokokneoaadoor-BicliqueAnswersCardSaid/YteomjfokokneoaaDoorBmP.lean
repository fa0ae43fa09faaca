/- The compact code of the functions, printed by program off the translation. -/
import Derived.Test.YteomjfokokneoaaDoorChecked
import Derived.Test.YteomjfokokneoaaDoorBmA
import Derived.KernelRfl
set_option maxRecDepth 100000
open Go.Proofs.Tryd renaming func73 → TD, func74 → TC, func75 → TB, prog → aq
namespace Go.BmP
open Go.Am Go.Bm
abbrev oo (d : Nat) (x : Kd) : O := ⟨some d,none,x⟩
abbrev oz (x : Kd) : O := ⟨none,none,x⟩
abbrev ki (n : Nat) : E := .k (.int .i64 n)
def nJa : Nat := 3
def nJb : Nat := 4
def nJc : Nat := 5
def nJd : Nat := 6
def nJe : Nat := 7
def nJf : Nat := 8
def W8 : Nat := 9
def Sn : Nat := 10
def Uk : Nat := 11
def Zc : Nat := 12
def W7 : Nat := 13
def nJl : Nat := 14
def Zb : Nat := 15
def Vv : Nat := 16
def nJo : Nat := 17
def nJp : Nat := 18
def Uj : Nat := 19
def Ui : Nat := 20
def Za : Nat := 21
def nJt : Nat := 22
def nJu : Nat := 23
def nJv : Nat := 24
def nJw : Nat := 25
def nJx : Nat := 26
def Vu : Nat := 27
def nJz : Nat := 28
def nJA : Nat := 29
def Um : Nat := 30
def nJC : Nat := 31
def Pw : Nat := 32
def nJE : Nat := 33
def nJF : Nat := 34
def Xb : Nat := 35
def Xa : Nat := 36
def nJI : Nat := 37
def nJJ : Nat := 38
def Zd : Nat := 39
def nJL : Nat := 40
def nJM : Nat := 41
def nJN : Nat := 42
def nJO : Nat := 43
def nJP : Nat := 44
def nJQ : Nat := 45
def nJR : Nat := 46
def nJS : Nat := 47
def nJT : Nat := 48
def nJU : Nat := 49
def nJV : Nat := 50
def nJW : Nat := 51
def nJX : Nat := 52
def nJY : Nat := 53
def nJZ : Nat := 54
def nJ0 : Nat := 55
def nJ1 : Nat := 56
def nJ2 : Nat := 57
def nJ3 : Nat := 58
def nJ4 : Nat := 59
def nJ5 : Nat := 60
def nJ6 : Nat := 61
def nJ7 : Nat := 62
def nJ8 : Nat := 63
def nJ9 : Nat := 64
def E6 : Nat := 65
def Pv : Nat := 66
def Cq : Nat := 67
def Pu : Nat := 68
def Pt : Nat := 69
def Mu : Nat := 70
def Ps : Nat := 71
def Ul : Nat := 72
def Mt : Nat := 73
def Pr : Nat := 74
def Pq : Nat := 75
/- cohesion/cohesionlaw27.BicliqueAnswers -/
def rH : List O := [
 oo 7 <| .box (.t 2),
 oo 8 <| .box (.t 3),
 oo 10 <| .mv (.k (.bool false))]
def rG : List O := [
 oo 38 <| .mv (.t 0),
 oo 39 <| .call nJb [(.t 38)],
 oo 40 <| .un .not (.t 39),
 oo 41 <| .mv (.t 40),
 ⟨(some 42),(some (41,false)),.mv (.t 1)⟩,
 ⟨(some 43),(some (41,false)),.len (.t 42)⟩,
 ⟨(some 44),(some (41,false)),.bin .gtr (.t 43) (ki 20)⟩,
 oo 45 <| .pick (.t 41) (.k (.bool true)) (.t 44),
 oo 46 <| .mv (.t 45),
 ⟨(some 47),(some (46,false)),.dt 0 (.t 7)⟩,
 ⟨(some 48),(some (46,false)),.ld (some 2) (.t 47)⟩,
 ⟨(some 49),(some (46,false)),.call nJc [(.t 48),(ki 9)]⟩,
 ⟨(some 50),(some (46,false)),.un .not (.t 49)⟩,
 oo 51 <| .pick (.t 46) (.k (.bool true)) (.t 50),
 oo 52 <| .mv (.t 51),
 ⟨(some 53),(some (52,false)),.dt 2 (.t 7)⟩,
 ⟨(some 54),(some (52,false)),.ld none (.t 53)⟩,
 ⟨(some 55),(some (52,false)),.len (.t 54)⟩,
 ⟨(some 56),(some (52,false)),.bin .gtr (.t 55) (ki 12)⟩,
 oo 57 <| .pick (.t 52) (.k (.bool true)) (.t 56),
 oo 58 <| .mv (.t 57),
 ⟨(some 59),(some (58,false)),.dt 0 (.t 8)⟩,
 ⟨(some 60),(some (58,false)),.ld none (.t 59)⟩,
 ⟨(some 61),(some (58,false)),.len (.t 60)⟩,
 ⟨(some 62),(some (58,false)),.dt 1 (.t 8)⟩,
 ⟨(some 63),(some (58,false)),.ld none (.t 62)⟩,
 ⟨(some 64),(some (58,false)),.len (.t 63)⟩,
 ⟨(some 65),(some (58,false)),.bin .add (.t 61) (.t 64)⟩,
 ⟨(some 66),(some (58,false)),.bin .gtr (.t 65) (ki 40)⟩,
 oo 67 <| .pick (.t 58) (.k (.bool true)) (.t 66)]
def rF : List O := [
 oo 68 <| .call nJd [],
 oo 10 <| .mv (.t 68)]
def rE : List O := [
 oo 69 <| .mv (.t 0),
 oo 70 <| .call nJe [(.t 69)],
 oo 11 <| .mv (.t 70)]
def rD : List O := [
 oo 71 <| .mv (.t 11),
 oo 72 <| .call nJf [(.t 71),(ki 8)],
 oo 12 <| .new [(.int .i64 0),(.own 2 []),(.own 1 [])],
 oz <| .st 3 (.t 12) (.t 72)]
def rC : List O := [
 oo 73 <| .ld (some 3) (.t 12),
 oo 13 <| .new [(.int .i64 0),(.own 2 []),(.own 1 [])],
 oz <| .st 3 (.t 13) (.t 73)]
def rB : List O := [
 oo 74 <| .mv (.t 11),
 oo 75 <| .call W8 [(.t 74),(ki 8)],
 oo 76 <| .dt 2 (.t 13),
 oz <| .st 1 (.t 76) (.t 75)]
def rA : List O := [
 oo 77 <| .ld (some 3) (.t 12),
 oo 78 <| .ld (some 3) (.t 7),
 oo 79 <| .ld (some 3) (.t 13),
 oo 80 <| .dh 3 3 [(.int .i64 0),(.own 2 []),(.own 1 [])] [(0,3,(.t 77)),(3,3,(.t 78)),(6,3,(.t 79))],
 oo 81 <| .len (.t 80),
 oo 82 <| .mv (ki 0)]
def rz : List O := [
 oo 83 <| .bin .lss (.t 82) (.t 81)]
def rq : List O := [
 oo 84 <| .gq 3 (.t 80) (.t 82),
 oo 85 <| .ld (some 3) (.t 84),
 oo 15 <| .new [(.int .i64 0),(.own 2 []),(.own 1 [])],
 oz <| .st 3 (.t 15) (.t 85)]
def mJ : List O := [
 oo 86 <| .ld (some 3) (.t 15),
 oo 87 <| .call Sn [(.t 86)],
 oo 88 <| .ld (some 3) (.t 15),
 oo 89 <| .call Uk [(.t 88)],
 oo 90 <| .bin .neq (.t 87) (.t 89),
 oo 91 <| .mv (.t 90),
 ⟨(some 92),(some (91,false)),.ld (some 3) (.t 15)⟩,
 ⟨(some 93),(some (91,false)),.ld (some 2) (.t 8)⟩,
 ⟨(some 94),(some (91,false)),.call Zc [(.t 92),(.t 93)]⟩,
 ⟨(some 95),(some (91,false)),.ld (some 3) (.t 15)⟩,
 ⟨(some 96),(some (91,false)),.ld (some 2) (.t 8)⟩,
 ⟨(some 97),(some (91,false)),.call W7 [(.t 95),(.t 96)]⟩,
 ⟨(some 98),(some (91,false)),.eq true .bool (.t 94) (.t 97)⟩,
 oo 99 <| .pick (.t 91) (.k (.bool true)) (.t 98)]
def mI : List O := [
 oo 10 <| .mv (.k (.bool false))]
def mH : List O := [
 oo 100 <| .mv (.t 1),
 oo 101 <| .mv (.t 11),
 oo 102 <| .call W8 [(.t 101),(ki 8)],
 oo 103 <| .mv (.t 11),
 oo 104 <| .call W8 [(.t 103),(ki 8)],
 oo 105 <| .dt 2 (.t 15),
 oo 106 <| .ld none (.t 105),
 oo 107 <| .call nJl [(.t 104),(.t 106)],
 oo 108 <| .dh 1 4 [(.own 1 [])] [(0,1,(.t 100)),(1,1,(.t 102)),(2,1,(.t 107)),(3,1,(.k (.own 1 [])))],
 oo 109 <| .len (.t 108),
 oo 110 <| .mv (ki 0)]
def mG : List O := [
 oo 111 <| .bin .lss (.t 110) (.t 109)]
def mF : List O := [
 oo 112 <| .gq 1 (.t 108) (.t 110),
 oo 113 <| .ld none (.t 112),
 oo 17 <| .mv (.t 113)]
def mE : List O := [
 oo 115 <| .ld (some 3) (.t 15),
 oo 116 <| .mv (.t 17),
 oo 117 <| .call Zb [(.t 115),(.t 116)],
 oo 114 <| .mv (.t 117),
 oo 118 <| .ext 0 (.t 114),
 oo 119 <| .ext 1 (.t 114),
 oo 18 <| .new [(.own 1 []),(.own 1 [])],
 oz <| .st 2 (.t 18) (.t 118),
 oo 19 <| .mv (.t 119)]
def mD : List O := [
 oo 121 <| .ld (some 3) (.t 15),
 oo 122 <| .mv (.t 17),
 oo 123 <| .call Vv [(.t 121),(.t 122)],
 oo 120 <| .mv (.t 123),
 oo 124 <| .ext 0 (.t 120),
 oo 125 <| .ext 1 (.t 120),
 oo 20 <| .new [(.own 1 []),(.own 1 [])],
 oz <| .st 2 (.t 20) (.t 124),
 oo 21 <| .mv (.t 125)]
def mC : List O := [
 oo 127 <| .ld (some 3) (.t 15),
 oo 128 <| .mv (.t 17),
 oo 129 <| .call nJo [(.t 127),(.t 128)],
 oo 126 <| .mv (.t 129),
 oo 130 <| .ext 0 (.t 126),
 oo 131 <| .ext 1 (.t 126),
 oo 132 <| .ext 2 (.t 126),
 oo 22 <| .new [(.own 1 []),(.own 1 [])],
 oz <| .st 2 (.t 22) (.t 130),
 oo 23 <| .mv (.t 131),
 oo 24 <| .mv (.t 132)]
def mB : List O := [
 oo 134 <| .ld (some 3) (.t 15),
 oo 135 <| .mv (.t 17),
 oo 136 <| .call nJp [(.t 134),(.t 135)],
 oo 133 <| .mv (.t 136),
 oo 137 <| .ext 0 (.t 133),
 oo 138 <| .ext 1 (.t 133),
 oo 139 <| .ext 2 (.t 133),
 oo 25 <| .new [(.own 1 []),(.own 1 [])],
 oz <| .st 2 (.t 25) (.t 137),
 oo 26 <| .mv (.t 138),
 oo 27 <| .mv (.t 139)]
def mz : List O := [
 oo 140 <| .mv (.t 19),
 oo 141 <| .mv (.t 21),
 oo 142 <| .bin .neq (.t 140) (.t 141),
 oo 143 <| .mv (.t 142),
 ⟨(some 144),(some (143,false)),.ld (some 2) (.t 18)⟩,
 ⟨(some 145),(some (143,false)),.ld (some 2) (.t 20)⟩,
 ⟨(some 146),(some (143,false)),.call Uj [(.t 144),(.t 145)]⟩,
 ⟨(some 147),(some (143,false)),.un .not (.t 146)⟩,
 oo 148 <| .pick (.t 143) (.k (.bool true)) (.t 147),
 oo 149 <| .mv (.t 148),
 ⟨(some 150),(some (149,false)),.mv (.t 23)⟩,
 ⟨(some 151),(some (149,false)),.mv (.t 26)⟩,
 ⟨(some 152),(some (149,false)),.eq true .bool (.t 150) (.t 151)⟩,
 oo 153 <| .pick (.t 149) (.k (.bool true)) (.t 152),
 oo 154 <| .mv (.t 153),
 ⟨(some 155),(some (154,false)),.mv (.t 24)⟩,
 ⟨(some 156),(some (154,false)),.mv (.t 27)⟩,
 ⟨(some 157),(some (154,false)),.bin .neq (.t 155) (.t 156)⟩,
 oo 158 <| .pick (.t 154) (.k (.bool true)) (.t 157),
 oo 159 <| .mv (.t 158),
 ⟨(some 160),(some (159,false)),.ld (some 2) (.t 22)⟩,
 ⟨(some 161),(some (159,false)),.ld (some 2) (.t 25)⟩,
 ⟨(some 162),(some (159,false)),.call Uj [(.t 160),(.t 161)]⟩,
 ⟨(some 163),(some (159,false)),.un .not (.t 162)⟩,
 oo 164 <| .pick (.t 159) (.k (.bool true)) (.t 163),
 oo 165 <| .mv (.t 164),
 ⟨(some 166),(some (165,false)),.ld (some 3) (.t 15)⟩,
 ⟨(some 167),(some (165,false)),.ld (some 2) (.t 18)⟩,
 ⟨(some 168),(some (165,false)),.call Zc [(.t 166),(.t 167)]⟩,
 ⟨(some 169),(some (165,false)),.ld (some 3) (.t 15)⟩,
 ⟨(some 170),(some (165,false)),.ld (some 2) (.t 18)⟩,
 ⟨(some 171),(some (165,false)),.call W7 [(.t 169),(.t 170)]⟩,
 ⟨(some 172),(some (165,false)),.eq true .bool (.t 168) (.t 171)⟩,
 oo 173 <| .pick (.t 165) (.k (.bool true)) (.t 172)]
def my : List O := [
 oo 10 <| .mv (.k (.bool false))]
def mw : List O := [
 oo 174 <| .bin .add (.t 110) (ki 1),
 oo 110 <| .mv (.t 174)]
def MU : C := (.seq (.aO mG false [] [1,4,8,11,15,80,81,82,108,109,110,111]) (.seq (.cond (.t 111) .skip (.exit 2)) (.seq (.aH 3 (.seq (.aO mF false [] [1,4,8,11,15,17,80,81,82,108,109,110]) (.seq (.aO mE false [] [1,4,8,11,15,17,18,19,80,81,82,108,109,110]) (.seq (.aO mD false [] [1,4,8,11,15,17,18,19,20,21,80,81,82,108,109,110]) (.seq (.aO mC false [] [1,4,8,11,15,17,18,19,20,21,22,23,24,80,81,82,108,109,110]) (.seq (.aO mB false [] [1,4,8,11,15,18,19,20,21,22,23,24,25,26,27,80,81,82,108,109,110]) (.seq (.aO mz true [(2,2),(3,3),(6,6),(7,7),(8,8),(9,9),(12,12),(13,13),(14,14),(17,17),(18,18),(19,19),(22,22),(23,23),(24,24),(25,25),(31,31),(32,32),(33,33),(4,5),(20,21),(26,27),(26,29),(27,29),(28,29),(26,30),(27,30),(28,30),(29,30)] [1,4,8,11,15,80,81,82,108,109,110,173]) (.cond (.t 173) (.seq (.aO my false [] [10]) .ret) .skip)))))))) (.aO mw false [] [1,4,8,11,15,80,81,82,108,109,110]))))
def mu : List O := [
 oo 175 <| .mv (.t 4),
 oo 176 <| .mv (.t 11),
 oo 177 <| .call Ui [(.t 176),(ki 7)],
 oo 178 <| .dh 1 3 [(.int .i64 0)] [(0,1,(.t 175)),(1,1,(.t 177)),(2,1,(ki 4096))],
 oo 179 <| .len (.t 178),
 oo 180 <| .mv (ki 0)]
def mr : List O := [
 oo 181 <| .bin .lss (.t 180) (.t 179)]
def mq : List O := [
 oo 182 <| .gq 1 (.t 178) (.t 180),
 oo 183 <| .ld none (.t 182),
 oo 29 <| .mv (.t 183)]
def mo : List O := [
 oo 185 <| .ld (some 3) (.t 15),
 oo 186 <| .mv (.t 29),
 oo 187 <| .call Za [(.t 185),(.t 186)],
 oo 184 <| .mv (.t 187),
 oo 188 <| .ext 0 (.t 184),
 oo 189 <| .ext 1 (.t 184),
 oo 30 <| .mv (.t 188),
 oo 31 <| .mv (.t 189)]
def mn : List O := [
 oo 191 <| .ld (some 3) (.t 15),
 oo 192 <| .mv (.t 29),
 oo 193 <| .call nJt [(.t 191),(.t 192)],
 oo 190 <| .mv (.t 193),
 oo 194 <| .ext 0 (.t 190),
 oo 195 <| .ext 1 (.t 190),
 oo 32 <| .mv (.t 194),
 oo 33 <| .mv (.t 195)]
def mm : List O := [
 oo 196 <| .mv (.t 31),
 oo 197 <| .mv (.t 33),
 oo 198 <| .bin .neq (.t 196) (.t 197),
 oo 199 <| .mv (.t 198),
 ⟨(some 200),(some (199,false)),.mv (.t 30)⟩,
 ⟨(some 201),(some (199,false)),.mv (.t 32)⟩,
 ⟨(some 202),(some (199,false)),.call nJu [(.t 200),(.t 201)]⟩,
 ⟨(some 203),(some (199,false)),.un .not (.t 202)⟩,
 oo 204 <| .pick (.t 199) (.k (.bool true)) (.t 203)]
def mj : List O := [
 oo 10 <| .mv (.k (.bool false))]
def mi : List O := [
 oo 205 <| .bin .add (.t 180) (ki 1),
 oo 180 <| .mv (.t 205)]
def MT : C := (.seq (.aO mr false [] [1,4,8,11,15,80,81,82,178,179,180,181]) (.seq (.cond (.t 181) .skip (.exit 4)) (.seq (.aH 5 (.seq (.aO mq false [] [1,4,8,11,15,29,80,81,82,178,179,180]) (.seq (.aO mo false [] [1,4,8,11,15,29,30,31,80,81,82,178,179,180]) (.seq (.aO mn false [] [1,4,8,11,15,30,31,32,33,80,81,82,178,179,180]) (.seq (.aO mm false [] [1,4,8,11,15,80,81,82,178,179,180,204]) (.cond (.t 204) (.seq (.aO mj false [] [10]) .ret) .skip)))))) (.aO mi false [] [1,4,8,11,15,80,81,82,178,179,180]))))
def mh : List O := [
 oo 207 <| .ld (some 3) (.t 15),
 oo 208 <| .call nJv [(.t 207)],
 oo 206 <| .mv (.t 208),
 oo 209 <| .ext 0 (.t 206),
 oo 210 <| .ext 1 (.t 206),
 oo 34 <| .new [(.own 1 []),(.own 1 [])],
 oz <| .st 2 (.t 34) (.t 209),
 oo 35 <| .mv (.t 210)]
def mg : List O := [
 oo 212 <| .ld (some 3) (.t 15),
 oo 213 <| .call nJw [(.t 212)],
 oo 211 <| .mv (.t 213),
 oo 214 <| .ext 0 (.t 211),
 oo 215 <| .ext 1 (.t 211),
 oo 36 <| .new [(.own 1 []),(.own 1 [])],
 oz <| .st 2 (.t 36) (.t 214),
 oo 37 <| .mv (.t 215)]
def mf : List O := [
 oo 216 <| .mv (.t 35),
 oo 217 <| .mv (.t 37),
 oo 218 <| .bin .neq (.t 216) (.t 217),
 oo 219 <| .mv (.t 218),
 ⟨(some 220),(some (219,false)),.ld (some 2) (.t 34)⟩,
 ⟨(some 221),(some (219,false)),.ld (some 2) (.t 36)⟩,
 ⟨(some 222),(some (219,false)),.call Uj [(.t 220),(.t 221)]⟩,
 ⟨(some 223),(some (219,false)),.un .not (.t 222)⟩,
 oo 224 <| .pick (.t 219) (.k (.bool true)) (.t 223)]
def mc : List O := [
 oo 10 <| .mv (.k (.bool false))]
def mb : List O := [
 oo 225 <| .bin .add (.t 82) (ki 1),
 oo 82 <| .mv (.t 225)]
def MS : C := (.seq (.aO rz false [] [1,4,8,11,80,81,82,83]) (.seq (.cond (.t 83) .skip (.exit 0)) (.seq (.aH 1 (.seq (.aO rq false [] [1,4,8,11,15,80,81,82]) (.seq (.seq (.aO mJ true [(3,3),(4,4),(5,5),(11,11),(12,12),(13,13),(0,2),(1,2),(6,7),(6,9),(7,9),(8,9),(6,10),(7,10),(8,10),(9,10)] [1,4,8,11,15,80,81,82,99]) (.cond (.t 99) (.seq (.aO mI false [] [10]) .ret) .skip)) (.seq (.seq (.aO mH true [(0,2),(2,3),(0,4),(2,5),(4,5),(0,6),(1,6),(2,6),(3,6),(4,6),(0,7),(2,10),(4,10),(6,10),(7,10),(8,10)] [1,4,8,11,15,80,81,82,108,109,110]) (.aH 2 (.loop MU))) (.seq (.seq (.aO mu false [] [1,4,8,11,15,80,81,82,178,179,180]) (.aH 4 (.loop MT))) (.seq (.aO mh false [] [1,4,8,11,15,34,35,80,81,82]) (.seq (.aO mg false [] [1,4,8,11,34,35,36,37,80,81,82]) (.seq (.aO mf false [] [1,4,8,11,80,81,82,224]) (.cond (.t 224) (.seq (.aO mc false [] [10]) .ret) .skip))))))))) (.aO mb false [] [1,4,8,11,80,81,82]))))
def ma : List O := [
 oo 226 <| .call nJd [],
 oo 10 <| .mv (.t 226)]
def cJa : C := (.seq (.aO rH false [] [0,1,4,7,8]) (.seq (.seq (.aO rG false [] [0,1,4,7,8,67]) (.cond (.t 67) (.seq (.aO rF false [] [10]) .ret) .skip)) (.seq (.aO rE false [] [1,4,7,8,11]) (.seq (.aO rD false [] [1,4,7,8,11,12]) (.seq (.aO rC false [] [1,4,7,8,11,12,13]) (.seq (.aO rB false [] [1,4,7,8,11,12,13]) (.seq (.seq (.aO rA false [] [1,4,8,11,80,81,82]) (.aH 0 (.loop MS))) (.seq (.aO ma false [] [10]) .ret))))))))
def Z5 : fO := ⟨227,5,[.t 10],cJa⟩
/- cohesion/cohesionmake.Few -/
def abM : List O := [
 oo 2 <| .mv (.k (.bool false))]
def abL : List O := [
 oo 3 <| .mv (.t 0),
 oo 4 <| .len (.t 3),
 oo 5 <| .bin .leq (.t 4) (ki 500),
 oo 2 <| .mv (.t 5)]
def cJb : C := (.seq (.aO abM false [] [0]) (.seq (.aO abL false [] [2]) .ret))
def qJb : fO := ⟨6,1,[.t 2],cJb⟩
/- cohesion/cohesionmake.Light -/
def Rl : List O := [
 oo 2 <| .box (.t 0),
 oo 4 <| .mv (.k (.bool false))]
def Rk : List O := [
 oo 5 <| .dt 0 (.t 2),
 oo 6 <| .ld none (.t 5),
 oo 7 <| .mv (.t 1),
 oo 8 <| .bin .leq (.t 6) (.t 7),
 oo 9 <| .mv (.t 8),
 ⟨(some 10),(some (9,true)),.dt 1 (.t 2)⟩,
 ⟨(some 11),(some (9,true)),.ld none (.t 10)⟩,
 ⟨(some 12),(some (9,true)),.len (.t 11)⟩,
 ⟨(some 13),(some (9,true)),.mv (.t 1)⟩,
 ⟨(some 14),(some (9,true)),.mv (.t 1)⟩,
 ⟨(some 15),(some (9,true)),.bin .mul (.t 13) (.t 14)⟩,
 ⟨(some 16),(some (9,true)),.bin .leq (.t 12) (.t 15)⟩,
 oo 17 <| .pick (.t 9) (.t 16) (.k (.bool false)),
 oo 4 <| .mv (.t 17)]
def cJc : C := (.seq (.aO Rl false [] [1,2]) (.seq (.aO Rk false [] [4]) .ret))
def qJc : fO := ⟨18,2,[.t 4],cJc⟩
/- cohesion/cohesionlaw27.awake -/
def aez : List O := [
 oo 0 <| .mv (.k (.bool false))]
def aey : List O := [
 oo 6 <| .build [(.int .i64 0),(.int .i64 0)] [(0,1,(ki 0)),(1,1,(ki 2))],
 oo 7 <| .build [(.int .i64 0),(.int .i64 0)] [(0,1,(ki 1)),(1,1,(ki 2))],
 oo 8 <| .dh 2 2 [(.int .i64 0),(.int .i64 0)] [(0,2,(.t 6)),(2,2,(.t 7))],
 oo 9 <| .call nJx [(ki 3),(.t 8)],
 oo 5 <| .mv (.t 9),
 oo 10 <| .ext 0 (.t 5),
 oo 11 <| .ext 1 (.t 5),
 oo 1 <| .new [(.int .i64 0),(.own 2 [])],
 oz <| .st 2 (.t 1) (.t 10),
 oo 2 <| .mv (.t 11)]
def aex : List O := [
 oo 13 <| .ld (some 2) (.t 1),
 oo 14 <| .dh 1 2 [(.int .i64 0)] [(0,1,(ki 0)),(1,1,(ki 1))],
 oo 15 <| .build [(.int .i64 0),(.own 2 []),(.own 1 [])] [(0,2,(.t 13)),(2,1,(.t 14))],
 oo 16 <| .call Za [(.t 15),(ki 9)],
 oo 12 <| .mv (.t 16),
 oo 17 <| .ext 0 (.t 12),
 oo 18 <| .ext 1 (.t 12),
 oo 3 <| .mv (.t 17),
 oo 4 <| .mv (.t 18)]
def aew : List O := [
 oo 19 <| .mv (.t 4),
 oo 20 <| .bin .eql (.t 19) (ki 0),
 oo 21 <| .mv (.t 20),
 ⟨(some 22),(some (21,true)),.mv (.t 3)⟩,
 ⟨(some 23),(some (21,true)),.len (.t 22)⟩,
 ⟨(some 24),(some (21,true)),.bin .eql (.t 23) (ki 1)⟩,
 oo 25 <| .pick (.t 21) (.t 24) (.k (.bool false)),
 oo 26 <| .mv (.t 25),
 ⟨(some 27),(some (26,true)),.mv (.t 3)⟩,
 ⟨(some 28),(some (26,true)),.gq 2 (.t 27) (ki 0)⟩,
 ⟨(some 29),(some (26,true)),.dt 0 (.t 28)⟩,
 ⟨(some 30),(some (26,true)),.ld none (.t 29)⟩,
 ⟨(some 31),(some (26,true)),.dh 1 2 [(.int .i64 0)] [(0,1,(ki 0)),(1,1,(ki 1))]⟩,
 ⟨(some 32),(some (26,true)),.call Vu [(.t 30),(.t 31)]⟩,
 ⟨(some 33),(some (26,true)),.bin .eql (.t 32) (ki 0)⟩,
 oo 34 <| .pick (.t 26) (.t 33) (.k (.bool false)),
 oo 35 <| .mv (.t 34),
 ⟨(some 36),(some (35,true)),.mv (.t 3)⟩,
 ⟨(some 37),(some (35,true)),.gq 2 (.t 36) (ki 0)⟩,
 ⟨(some 38),(some (35,true)),.dt 1 (.t 37)⟩,
 ⟨(some 39),(some (35,true)),.ld none (.t 38)⟩,
 ⟨(some 40),(some (35,true)),.dh 1 1 [(.int .i64 0)] [(0,1,(ki 2))]⟩,
 ⟨(some 41),(some (35,true)),.call Vu [(.t 39),(.t 40)]⟩,
 ⟨(some 42),(some (35,true)),.bin .eql (.t 41) (ki 0)⟩,
 oo 43 <| .pick (.t 35) (.t 42) (.k (.bool false)),
 oo 0 <| .mv (.t 43)]
def cJd : C := (.seq (.aO aez false [] []) (.seq (.aO aey false [] [1]) (.seq (.aO aex false [] [3,4]) (.seq (.aO aew false [] [0]) .ret))))
def qJd : fO := ⟨44,0,[.t 0],cJd⟩
/- cohesion/cohesionmake.New -/
def abK : List O := [
 oo 2 <| .mv (.k .fi)]
def abJ : List O := [
 oo 3 <| .mv (.t 0),
 oo 4 <| .build [(.own 1 []),(.int .i64 0)] [(0,1,(.t 3))],
 oo 5 <| .box (.t 4),
 oo 2 <| .mv (.t 5)]
def cJe : C := (.seq (.aO abK false [] [0]) (.seq (.aO abJ false [] [2]) .ret))
def qJe : fO := ⟨6,1,[.t 2],cJe⟩
/- cohesion/cohesionfield.Sided -/
def rn : List O := [
 oo 4 <| .new [(.int .i64 0),(.own 2 []),(.own 1 [])]]
def rl : List O := [
 oo 13 <| .mv (.t 0),
 oo 14 <| .mv (.t 1),
 oo 15 <| .bin .add (.t 14) (ki 1),
 oo 16 <| .call Ui [(.t 13),(.t 15)],
 oo 5 <| .mv (.t 16)]
def rk : List O := [
 oo 17 <| .mv (.t 0),
 oo 18 <| .mv (.t 5),
 oo 19 <| .call W8 [(.t 17),(.t 18)],
 oo 20 <| .build [(.int .i64 0),(.own 2 []),(.own 1 [])] [(2,1,(.t 19))],
 oo 6 <| .new [(.int .i64 0),(.own 2 []),(.own 1 [])],
 oz <| .st 3 (.t 6) (.t 20)]
def rj : List O := [
 oo 7 <| .mv (.k (.own 2 []))]
def rh : List O := [
 oo 21 <| .mv (.t 5),
 oo 22 <| .MA 1 [(.bool false)] (.t 21) (.t 21),
 oo 8 <| .mv (.t 22)]
def rf : List O := [
 oo 9 <| .mv (ki 0)]
def re : List O := [
 oo 23 <| .mv (.t 9),
 oo 24 <| .dt 2 (.t 6),
 oo 25 <| .ld none (.t 24),
 oo 26 <| .len (.t 25),
 oo 27 <| .bin .lss (.t 23) (.t 26)]
def rb : List O := [
 oo 30 <| .mv (.t 8),
 oo 31 <| .dt 2 (.t 6),
 oo 32 <| .ld none (.t 31),
 oo 33 <| .mv (.t 9),
 oo 34 <| .gq 1 (.t 32) (.t 33),
 oo 35 <| .ld none (.t 34),
 oo 36 <| .gq 1 (.t 30) (.t 35),
 oz <| .st 1 (.t 36) (.k (.bool true))]
def q9 : List O := [
 oo 28 <| .mv (.t 9),
 oo 29 <| .bin .add (.t 28) (ki 1),
 oo 9 <| .mv (.t 29)]
def SC : C := (.seq (.seq (.aO re false [] [0,4,5,6,7,8,9,27]) (.cond (.t 27) .skip (.exit 0))) (.seq (.aH 1 (.aO rb false [] [0,4,5,6,7,8,9])) (.aO q9 false [] [0,4,5,6,7,8,9])))
def q8 : List O := [
 oo 37 <| .mv (.t 0),
 oo 38 <| .call Ui [(.t 37),(ki 4)],
 oo 39 <| .bin .add (ki 1) (.t 38),
 oo 10 <| .mv (.t 39)]
def l9 : List O := [
 oo 11 <| .mv (ki 0)]
def l8 : List O := [
 oo 40 <| .mv (.t 11),
 oo 41 <| .mv (.t 5),
 oo 42 <| .bin .lss (.t 40) (.t 41)]
def l7 : List O := [
 oo 45 <| .mv (.t 11),
 oo 46 <| .bin .add (.t 45) (ki 1),
 oo 12 <| .mv (.t 46)]
def l6 : List O := [
 oo 47 <| .mv (.t 12),
 oo 48 <| .mv (.t 5),
 oo 49 <| .bin .lss (.t 47) (.t 48)]
def l5 : List O := [
 oo 52 <| .mv (.t 8),
 oo 53 <| .mv (.t 11),
 oo 54 <| .gq 1 (.t 52) (.t 53),
 oo 55 <| .ld none (.t 54),
 oo 56 <| .mv (.t 8),
 oo 57 <| .mv (.t 12),
 oo 58 <| .gq 1 (.t 56) (.t 57),
 oo 59 <| .ld none (.t 58),
 oo 60 <| .eq true .bool (.t 55) (.t 59),
 oo 61 <| .mv (.t 60),
 ⟨(some 62),(some (61,true)),.mv (.t 0)⟩,
 ⟨(some 63),(some (61,true)),.call Ui [(.t 62),(ki 5)]⟩,
 ⟨(some 64),(some (61,true)),.mv (.t 10)⟩,
 ⟨(some 65),(some (61,true)),.bin .lss (.t 63) (.t 64)⟩,
 oo 66 <| .pick (.t 61) (.t 65) (.k (.bool false))]
def lZ : List O := [
 oo 67 <| .mv (.t 7),
 oo 68 <| .mv (.t 11),
 oo 69 <| .mv (.t 12),
 oo 70 <| .build [(.int .i64 0),(.int .i64 0)] [(0,1,(.t 68)),(1,1,(.t 69))],
 oo 71 <| .dh 2 1 [(.int .i64 0),(.int .i64 0)] [(0,2,(.t 70))],
 oo 72 <| .app 2 (.t 67) (.t 71),
 oo 7 <| .mv (.t 72)]
def lY : List O := [
 oo 50 <| .mv (.t 12),
 oo 51 <| .bin .add (.t 50) (ki 1),
 oo 12 <| .mv (.t 51)]
def uM : C := (.seq (.seq (.aO l6 false [] [0,4,5,6,7,8,10,11,12,49]) (.cond (.t 49) .skip (.exit 4))) (.seq (.aH 5 (.seq (.aO l5 true [(8,8),(9,9),(13,13),(14,14),(3,4),(3,5),(3,6),(0,7),(1,7),(2,7),(3,7),(11,12)] [0,4,5,6,7,8,10,11,12,66]) (.cond (.t 66) (.aO lZ false [] [0,4,5,6,7,8,10,11,12]) .skip))) (.aO lY false [] [0,4,5,6,7,8,10,11,12])))
def lX : List O := [
 oo 43 <| .mv (.t 11),
 oo 44 <| .bin .add (.t 43) (ki 1),
 oo 11 <| .mv (.t 44)]
def SA : C := (.seq (.seq (.aO l8 false [] [0,4,5,6,7,8,10,11,42]) (.cond (.t 42) .skip (.exit 2))) (.seq (.aH 3 (.seq (.aO l7 false [] [0,4,5,6,7,8,10,11,12]) (.aH 4 (.loop uM)))) (.aO lX false [] [0,4,5,6,7,8,10,11])))
def lW : List O := [
 oo 74 <| .mv (.t 5),
 oo 75 <| .mv (.t 7),
 oo 76 <| .call nJx [(.t 74),(.t 75)],
 oo 73 <| .mv (.t 76),
 oo 77 <| .ext 0 (.t 73),
 oo 78 <| .ext 1 (.t 73),
 oo 79 <| .dt 0 (.t 6),
 oz <| .st 2 (.t 79) (.t 77)]
def lV : List O := [
 oo 80 <| .ld (some 3) (.t 6),
 oz <| .st 3 (.t 4) (.t 80)]
def cJf : C := (.seq (.aO rn false [] [0,1,4]) (.seq (.aO rl false [] [0,4,5]) (.seq (.aO rk false [] [0,4,5,6]) (.seq (.aO rj false [] [0,4,5,6,7]) (.seq (.aO rh false [] [0,4,5,6,7,8]) (.seq (.seq (.aO rf false [] [0,4,5,6,7,8,9]) (.aH 0 (.loop SC))) (.seq (.aO q8 false [] [0,4,5,6,7,8,10]) (.seq (.seq (.aO l9 false [] [0,4,5,6,7,8,10,11]) (.aH 2 (.loop SA))) (.seq (.aO lW false [] [4,6]) (.seq (.aO lV false [] [4]) .ret))))))))))
def qJf : fO := ⟨81,2,[.c 4 (some 3)],cJf⟩
/- cohesion/cohesionmake.Set -/
def LD : List O := [
 oo 4 <| .mv (.k (.own 1 []))]
def LC : List O := [
 oo 5 <| .mv (.k (.own 1 []))]
def LB : List O := [
 oo 6 <| .mv (ki 0)]
def LA : List O := [
 oo 7 <| .mv (.t 6),
 oo 8 <| .mv (.t 1),
 oo 9 <| .bin .lss (.t 7) (.t 8)]
def Lx : List O := [
 oo 12 <| .mv (.t 0),
 oo 13 <| .call Ui [(.t 12),(ki 2)],
 oo 14 <| .bin .eql (.t 13) (ki 1)]
def Lw : List O := [
 oo 15 <| .mv (.t 5),
 oo 16 <| .mv (.t 6),
 oo 17 <| .dh 1 1 [(.int .i64 0)] [(0,1,(.t 16))],
 oo 18 <| .app 1 (.t 15) (.t 17),
 oo 5 <| .mv (.t 18)]
def Lv : List O := [
 oo 10 <| .mv (.t 6),
 oo 11 <| .bin .add (.t 10) (ki 1),
 oo 6 <| .mv (.t 11)]
def MR : C := (.seq (.seq (.aO LA false [] [0,1,5,6,9]) (.cond (.t 9) .skip (.exit 0))) (.seq (.aH 1 (.seq (.aO Lx false [] [0,1,5,6,14]) (.cond (.t 14) (.aO Lw false [] [0,1,5,6]) .skip))) (.aO Lv false [] [0,1,5,6])))
def Lu : List O := [
 oo 19 <| .mv (.t 5),
 oo 4 <| .mv (.t 19)]
def cJg : C := (.seq (.aO LD false [] [0,1]) (.seq (.aO LC false [] [0,1,5]) (.seq (.seq (.aO LB false [] [0,1,5,6]) (.aH 0 (.loop MR))) (.seq (.aO Lu false [] [4]) .ret))))
def qJg : fO := ⟨20,2,[.t 4],cJg⟩
/- cohesion/biclique.Check -/
def Lt : List O := [
 oo 1 <| .box (.t 0),
 oo 2 <| .mv (ki 0)]
def Ls : List O := [
 oo 5 <| .dt 0 (.t 1),
 oo 6 <| .ld (some 2) (.t 5),
 oo 7 <| .call nJz [(.t 6)],
 oo 3 <| .mv (.t 7)]
def Lr : List O := [
 oo 8 <| .mv (.t 3),
 oo 9 <| .bin .neq (.t 8) (ki 0)]
def Lq : List O := [
 oo 10 <| .mv (.t 3),
 oo 2 <| .mv (.t 10)]
def Lp : List O := [
 oo 11 <| .dt 2 (.t 1),
 oo 12 <| .ld none (.t 11),
 oo 13 <| .dt 0 (.t 1),
 oo 14 <| .dt 0 (.t 13),
 oo 15 <| .ld none (.t 14),
 oo 16 <| .call nJA [(.t 12),(.t 15)],
 oo 17 <| .un .not (.t 16)]
def Lo : List O := [
 oo 2 <| .mv (ki 4)]
def Ln : List O := [
 oo 18 <| .dt 2 (.t 1),
 oo 19 <| .ld none (.t 18),
 oo 20 <| .call Um [(.t 19)],
 oo 4 <| .new [(.int .u64 0)],
 oz <| .st 1 (.t 4) (.t 20)]
def Lm : List O := [
 oo 21 <| .dt 0 (.t 1),
 oo 22 <| .dt 1 (.t 21),
 oo 23 <| .ld none (.t 22),
 oo 24 <| .GC (.func Pw) [] [(.t 4)],
 oo 25 <| .call nJC [(.t 23),(.t 24)]]
def Ll : List O := [
 oo 2 <| .mv (ki 7)]
def Lk : List O := [
 oo 2 <| .mv (ki 0)]
def cJh : C := (.seq (.aO Lt false [] [1]) (.seq (.seq (.aO Ls false [] [1,3]) (.seq (.aO Lr false [] [1,3,9]) (.cond (.t 9) (.seq (.aO Lq false [] [2]) .ret) .skip))) (.seq (.seq (.aO Lp false [] [1,17]) (.cond (.t 17) (.seq (.aO Lo false [] [2]) .ret) .skip)) (.seq (.aO Ln false [] [1,4]) (.seq (.seq (.aO Lm false [] [25]) (.cond (.t 25) (.seq (.aO Ll false [] [2]) .ret) .skip)) (.seq (.aO Lk false [] [2]) .ret))))))
def qJh : fO := ⟨26,1,[.t 2],cJh⟩
/- cohesion/cohesionref27.Check -/
def wP : List O := [
 oo 1 <| .box (.t 0),
 oo 2 <| .mv (ki 0)]
def wO : List O := [
 oo 5 <| .dt 0 (.t 1),
 oo 6 <| .ld (some 2) (.t 5),
 oo 7 <| .call nJE [(.t 6)],
 oo 3 <| .mv (.t 7)]
def wN : List O := [
 oo 8 <| .mv (.t 3),
 oo 9 <| .bin .neq (.t 8) (ki 0)]
def wM : List O := [
 oo 10 <| .mv (.t 3),
 oo 2 <| .mv (.t 10)]
def wL : List O := [
 oo 11 <| .dt 2 (.t 1),
 oo 12 <| .ld none (.t 11),
 oo 13 <| .dt 0 (.t 1),
 oo 14 <| .dt 0 (.t 13),
 oo 15 <| .ld none (.t 14),
 oo 16 <| .call nJF [(.t 12),(.t 15)],
 oo 17 <| .un .not (.t 16)]
def wK : List O := [
 oo 2 <| .mv (ki 4)]
def wJ : List O := [
 oo 4 <| .mv (ki 0)]
def wI : List O := [
 oo 18 <| .mv (.t 4),
 oo 19 <| .dt 0 (.t 1),
 oo 20 <| .dt 1 (.t 19),
 oo 21 <| .ld none (.t 20),
 oo 22 <| .len (.t 21),
 oo 23 <| .bin .lss (.t 18) (.t 22)]
def wH : List O := [
 oo 26 <| .dt 2 (.t 1),
 oo 27 <| .ld none (.t 26),
 oo 28 <| .dt 0 (.t 1),
 oo 29 <| .dt 1 (.t 28),
 oo 30 <| .ld none (.t 29),
 oo 31 <| .mv (.t 4),
 oo 32 <| .gq 2 (.t 30) (.t 31),
 oo 33 <| .dt 0 (.t 32),
 oo 34 <| .ld none (.t 33),
 oo 35 <| .call Xb [(.t 27),(.t 34)],
 oo 36 <| .dt 2 (.t 1),
 oo 37 <| .ld none (.t 36),
 oo 38 <| .dt 0 (.t 1),
 oo 39 <| .dt 1 (.t 38),
 oo 40 <| .ld none (.t 39),
 oo 41 <| .mv (.t 4),
 oo 42 <| .gq 2 (.t 40) (.t 41),
 oo 43 <| .dt 1 (.t 42),
 oo 44 <| .ld none (.t 43),
 oo 45 <| .call Xb [(.t 37),(.t 44)],
 oo 46 <| .eq false .bool (.t 35) (.t 45)]
def wG : List O := [
 oo 2 <| .mv (ki 7)]
def qw : List O := [
 oo 24 <| .mv (.t 4),
 oo 25 <| .bin .add (.t 24) (ki 1),
 oo 4 <| .mv (.t 25)]
def MQ : C := (.seq (.seq (.aO wI false [] [1,4,23]) (.cond (.t 23) .skip (.exit 0))) (.seq (.aH 1 (.seq (.aO wH true [(19,19),(20,20),(1,2),(1,3),(0,4),(1,4),(1,5),(4,5),(1,6),(1,7),(0,8),(1,8),(1,10),(4,10),(8,10),(9,10),(0,11),(1,11),(2,11),(3,11),(4,11),(5,11),(6,11),(7,11),(8,11),(9,11),(1,12),(4,12),(8,12),(9,12),(11,12),(1,13),(4,13),(8,13),(9,13),(11,13),(0,14),(1,14),(2,14),(3,14),(4,14),(5,14),(6,14),(7,14),(8,14),(9,14),(10,14),(11,14),(1,15),(4,15),(8,15),(9,15),(11,15),(14,15),(1,16),(4,16),(8,16),(9,16),(11,16),(1,17),(4,17),(8,17),(9,17),(11,17),(0,18),(1,18),(2,18),(3,18),(4,18),(5,18),(6,18),(7,18),(8,18),(9,18),(10,18),(11,18)] [1,4,46]) (.cond (.t 46) (.seq (.aO wG false [] [2]) .ret) .skip))) (.aO qw false [] [1,4])))
def qv : List O := [
 oo 2 <| .mv (ki 0)]
def cJi : C := (.seq (.aO wP false [] [1]) (.seq (.seq (.aO wO false [] [1,3]) (.seq (.aO wN false [] [1,3,9]) (.cond (.t 9) (.seq (.aO wM false [] [2]) .ret) .skip))) (.seq (.seq (.aO wL false [] [1,17]) (.cond (.t 17) (.seq (.aO wK false [] [2]) .ret) .skip)) (.seq (.seq (.aO wJ false [] [1,4]) (.aH 0 (.loop MQ))) (.seq (.aO qv false [] [2]) .ret)))))
def qJi : fO := ⟨47,1,[.t 2],cJi⟩
/- cohesion/biclique.Maximal -/
def q7 : List O := [
 oo 2 <| .box (.t 0),
 oo 3 <| .box (.t 1),
 oo 4 <| .mv (.k (.bool false))]
def q6 : List O := [
 oo 9 <| .ld (some 3) (.t 2),
 oo 10 <| .call Sn [(.t 9)],
 oo 11 <| .bin .neq (.t 10) (ki 0),
 oo 12 <| .mv (.t 11),
 ⟨(some 13),(some (12,false)),.dt 0 (.t 3)⟩,
 ⟨(some 14),(some (12,false)),.ld none (.t 13)⟩,
 ⟨(some 15),(some (12,false)),.len (.t 14)⟩,
 ⟨(some 16),(some (12,false)),.bin .eql (.t 15) (ki 0)⟩,
 oo 17 <| .pick (.t 12) (.k (.bool true)) (.t 16),
 oo 18 <| .mv (.t 17),
 ⟨(some 19),(some (18,false)),.dt 1 (.t 3)⟩,
 ⟨(some 20),(some (18,false)),.ld none (.t 19)⟩,
 ⟨(some 21),(some (18,false)),.len (.t 20)⟩,
 ⟨(some 22),(some (18,false)),.bin .eql (.t 21) (ki 0)⟩,
 oo 23 <| .pick (.t 18) (.k (.bool true)) (.t 22)]
def q5 : List O := [
 oo 4 <| .mv (.k (.bool false))]
def qZ : List O := [
 oo 24 <| .ld (some 3) (.t 2),
 oo 25 <| .call Xa [(.t 24)],
 oo 5 <| .new [(.own 1 []),(.int .u64 0),(.int .u64 0)],
 oz <| .st 3 (.t 5) (.t 25)]
def qY : List O := [
 oo 26 <| .GC (.func nJI) [] [(.t 2)],
 oo 6 <| .mv (.t 26)]
def qX : List O := [
 oo 27 <| .mv (.t 6),
 oo 28 <| .dt 0 (.t 3),
 oo 29 <| .ld none (.t 28),
 oo 30 <| .dt 1 (.t 5),
 oo 31 <| .ld none (.t 30),
 oo 32 <| .gw (.t 27) [(.t 29),(.t 31)],
 oo 33 <| .un .not (.t 32),
 oo 34 <| .mv (.t 33),
 ⟨(some 35),(some (34,false)),.mv (.t 6)⟩,
 ⟨(some 36),(some (34,false)),.dt 1 (.t 3)⟩,
 ⟨(some 37),(some (34,false)),.ld none (.t 36)⟩,
 ⟨(some 38),(some (34,false)),.dt 2 (.t 5)⟩,
 ⟨(some 39),(some (34,false)),.ld none (.t 38)⟩,
 ⟨(some 40),(some (34,false)),.gw (.t 35) [(.t 37),(.t 39)]⟩,
 ⟨(some 41),(some (34,false)),.un .not (.t 40)⟩,
 oo 42 <| .pick (.t 34) (.k (.bool true)) (.t 41)]
def qW : List O := [
 oo 4 <| .mv (.k (.bool false))]
def qV : List O := [
 oo 43 <| .ld (some 3) (.t 5),
 oo 44 <| .GC (.func nJJ) [(.t 43)] [],
 oo 45 <| .dt 0 (.t 3),
 oo 46 <| .ld none (.t 45),
 oo 47 <| .dt 1 (.t 3),
 oo 48 <| .ld none (.t 47),
 oo 49 <| .build [.eV,(.own 1 []),(.own 1 [])] [(0,1,(.t 44)),(1,1,(.t 46)),(2,1,(.t 48))],
 oo 50 <| .ld (some 3) (.t 5),
 oo 51 <| .GC (.func Zd) [(.t 50)] [],
 oo 52 <| .dt 1 (.t 3),
 oo 53 <| .ld none (.t 52),
 oo 54 <| .dt 0 (.t 3),
 oo 55 <| .ld none (.t 54),
 oo 56 <| .build [.eV,(.own 1 []),(.own 1 [])] [(0,1,(.t 51)),(1,1,(.t 53)),(2,1,(.t 55))],
 oo 57 <| .dh 3 2 [.eV,(.own 1 []),(.own 1 [])] [(0,3,(.t 49)),(3,3,(.t 56))],
 oo 58 <| .len (.t 57),
 oo 59 <| .mv (ki 0)]
def qU : List O := [
 oo 60 <| .bin .lss (.t 59) (.t 58)]
def qT : List O := [
 oo 61 <| .gq 3 (.t 57) (.t 59),
 oo 62 <| .ld (some 3) (.t 61),
 oo 8 <| .new [.eV,(.own 1 []),(.own 1 [])],
 oz <| .st 3 (.t 8) (.t 62)]
def lU : List O := [
 oo 63 <| .dt 0 (.t 8),
 oo 64 <| .ld none (.t 63),
 oo 65 <| .dt 1 (.t 8),
 oo 66 <| .ld none (.t 65),
 oo 67 <| .call Um [(.t 66)],
 oo 68 <| .gw (.t 64) [(.t 67)],
 oo 69 <| .dt 2 (.t 8),
 oo 70 <| .ld none (.t 69),
 oo 71 <| .call Um [(.t 70)],
 oo 72 <| .bin .neq (.t 68) (.t 71)]
def lR : List O := [
 oo 4 <| .mv (.k (.bool false))]
def lO : List O := [
 oo 73 <| .bin .add (.t 59) (ki 1),
 oo 59 <| .mv (.t 73)]
def Fi : C := (.seq (.aO qU false [] [57,58,59,60]) (.seq (.cond (.t 60) .skip (.exit 0)) (.seq (.aH 1 (.seq (.aO qT false [] [8,57,58,59]) (.seq (.aO lU true [(8,8),(9,9),(1,2),(0,3),(1,3),(0,4),(1,4),(1,6),(3,6),(4,6),(5,6),(0,7),(1,7),(2,7),(3,7),(4,7),(5,7)] [57,58,59,72]) (.cond (.t 72) (.seq (.aO lR false [] [4]) .ret) .skip)))) (.aO lO false [] [57,58,59]))))
def lN : List O := [
 oo 4 <| .mv (.k (.bool true))]
def cJj : C := (.seq (.aO q7 false [] [2,3]) (.seq (.seq (.aO q6 false [] [2,3,23]) (.cond (.t 23) (.seq (.aO q5 false [] [4]) .ret) .skip)) (.seq (.aO qZ false [] [2,3,5]) (.seq (.aO qY false [] [3,5,6]) (.seq (.seq (.aO qX false [] [3,5,42]) (.cond (.t 42) (.seq (.aO qW false [] [4]) .ret) .skip)) (.seq (.seq (.aO qV false [] [57,58,59]) (.aH 0 (.loop Fi))) (.seq (.aO lN false [] [4]) .ret)))))))
def ZV : fO := ⟨74,2,[.t 4],cJj⟩
/- cohesion/cohesionref27.Maximal -/
def HJ : List O := [
 oo 2 <| .box (.t 0),
 oo 3 <| .box (.t 1),
 oo 4 <| .mv (.k (.bool false))]
def HI : List O := [
 oo 8 <| .ld (some 3) (.t 2),
 oo 9 <| .dt 0 (.t 3),
 oo 10 <| .ld none (.t 9),
 oo 11 <| .call Vv [(.t 8),(.t 10)],
 oo 7 <| .mv (.t 11),
 oo 12 <| .ext 0 (.t 7),
 oo 13 <| .ext 1 (.t 7),
 oo 5 <| .new [(.own 1 []),(.own 1 [])],
 oz <| .st 2 (.t 5) (.t 12),
 oo 6 <| .mv (.t 13)]
def HH : List O := [
 oo 14 <| .mv (.t 6),
 oo 15 <| .bin .eql (.t 14) (ki 0),
 oo 16 <| .mv (.t 15),
 ⟨(some 17),(some (16,true)),.dt 0 (.t 3)⟩,
 ⟨(some 18),(some (16,true)),.ld none (.t 17)⟩,
 ⟨(some 19),(some (16,true)),.len (.t 18)⟩,
 ⟨(some 20),(some (16,true)),.bin .gtr (.t 19) (ki 0)⟩,
 oo 21 <| .pick (.t 16) (.t 20) (.k (.bool false)),
 oo 22 <| .mv (.t 21),
 ⟨(some 23),(some (22,true)),.dt 1 (.t 3)⟩,
 ⟨(some 24),(some (22,true)),.ld none (.t 23)⟩,
 ⟨(some 25),(some (22,true)),.len (.t 24)⟩,
 ⟨(some 26),(some (22,true)),.bin .gtr (.t 25) (ki 0)⟩,
 oo 27 <| .pick (.t 22) (.t 26) (.k (.bool false)),
 oo 28 <| .mv (.t 27),
 ⟨(some 29),(some (28,true)),.ld (some 2) (.t 5)⟩,
 ⟨(some 30),(some (28,true)),.ld (some 2) (.t 3)⟩,
 ⟨(some 31),(some (28,true)),.call Uj [(.t 29),(.t 30)]⟩,
 oo 32 <| .pick (.t 28) (.t 31) (.k (.bool false)),
 oo 4 <| .mv (.t 32)]
def cJk : C := (.seq (.aO HJ false [] [2,3]) (.seq (.aO HI false [] [3,5,6]) (.seq (.aO HH false [] [4]) .ret)))
def qJk : fO := ⟨33,2,[.t 4],cJk⟩
/- cohesion/cohesionref02.Meet -/
def Lj : List O := [
 oo 4 <| .mv (.k (.own 1 []))]
def Li : List O := [
 oo 5 <| .mv (.k (.own 1 []))]
def Lh : List O := [
 oo 8 <| .mv (.t 0),
 oo 9 <| .call nJL [(.t 8)],
 oo 10 <| .len (.t 9),
 oo 11 <| .mv (ki 0)]
def Lg : List O := [
 oo 12 <| .bin .lss (.t 11) (.t 10)]
def Ld : List O := [
 oo 13 <| .gq 1 (.t 9) (.t 11),
 oo 14 <| .ld none (.t 13),
 oo 7 <| .mv (.t 14)]
def Lc : List O := [
 oo 15 <| .mv (.t 1),
 oo 16 <| .mv (.t 7),
 oo 17 <| .call Xb [(.t 15),(.t 16)]]
def Lb : List O := [
 oo 18 <| .mv (.t 5),
 oo 19 <| .mv (.t 7),
 oo 20 <| .dh 1 1 [(.int .i64 0)] [(0,1,(.t 19))],
 oo 21 <| .app 1 (.t 18) (.t 20),
 oo 5 <| .mv (.t 21)]
def La : List O := [
 oo 22 <| .bin .add (.t 11) (ki 1),
 oo 11 <| .mv (.t 22)]
def MP : C := (.seq (.aO Lg false [] [1,5,9,10,11,12]) (.seq (.cond (.t 12) .skip (.exit 0)) (.seq (.aH 1 (.seq (.aO Ld false [] [1,5,7,9,10,11]) (.seq (.aO Lc false [] [1,5,7,9,10,11,17]) (.cond (.t 17) (.aO Lb false [] [1,5,9,10,11]) .skip)))) (.aO La false [] [1,5,9,10,11]))))
def K9 : List O := [
 oo 23 <| .mv (.t 5),
 oo 4 <| .mv (.t 23)]
def cJl : C := (.seq (.aO Lj false [] [0,1]) (.seq (.aO Li false [] [0,1,5]) (.seq (.seq (.aO Lh false [] [1,5,9,10,11]) (.aH 0 (.loop MP))) (.seq (.aO K9 false [] [4]) .ret))))
def qJl : fO := ⟨24,2,[.t 4],cJl⟩
/- cohesion/biclique.Close -/
def K8 : List O := [
 oo 2 <| .box (.t 0),
 oo 4 <| .new [(.own 1 []),(.own 1 [])],
 oo 5 <| .mv (ki 0)]
def K7 : List O := [
 oo 9 <| .ld (some 3) (.t 2),
 oo 10 <| .call Sn [(.t 9)],
 oo 6 <| .mv (.t 10)]
def K6 : List O := [
 oo 11 <| .mv (.t 6),
 oo 12 <| .bin .neq (.t 11) (ki 0)]
def K5 : List O := [
 oo 13 <| .build [(.own 1 []),(.own 1 [])] [],
 oo 14 <| .mv (.t 6),
 oz <| .st 2 (.t 4) (.t 13),
 oo 5 <| .mv (.t 14)]
def K4 : List O := [
 oo 15 <| .mv (.t 1),
 oo 16 <| .dt 0 (.t 2),
 oo 17 <| .dt 0 (.t 16),
 oo 18 <| .ld none (.t 17),
 oo 19 <| .call nJA [(.t 15),(.t 18)],
 oo 20 <| .un .not (.t 19),
 oo 21 <| .mv (.t 20),
 ⟨(some 22),(some (21,false)),.mv (.t 1)⟩,
 ⟨(some 23),(some (21,false)),.dt 2 (.t 2)⟩,
 ⟨(some 24),(some (21,false)),.ld none (.t 23)⟩,
 ⟨(some 25),(some (21,false)),.call nJM [(.t 22),(.t 24)]⟩,
 ⟨(some 26),(some (21,false)),.un .not (.t 25)⟩,
 oo 27 <| .pick (.t 21) (.k (.bool true)) (.t 26)]
def K3 : List O := [
 oo 28 <| .build [(.own 1 []),(.own 1 [])] [],
 oz <| .st 2 (.t 4) (.t 28),
 oo 5 <| .mv (ki 4)]
def K2 : List O := [
 oo 29 <| .ld (some 3) (.t 2),
 oo 30 <| .call Xa [(.t 29)],
 oo 7 <| .new [(.own 1 []),(.int .u64 0),(.int .u64 0)],
 oz <| .st 3 (.t 7) (.t 30)]
def K1 : List O := [
 oo 31 <| .ld (some 3) (.t 7),
 oo 32 <| .mv (.t 1),
 oo 33 <| .call Um [(.t 32)],
 oo 34 <| .call nJJ [(.t 31),(.t 33)],
 oo 8 <| .mv (.t 34)]
def K0 : List O := [
 oo 35 <| .ld (some 3) (.t 7),
 oo 36 <| .mv (.t 8),
 oo 37 <| .call Zd [(.t 35),(.t 36)],
 oo 38 <| .call nJN [(.t 37)],
 oo 39 <| .mv (.t 8),
 oo 40 <| .call nJN [(.t 39)],
 oo 41 <| .build [(.own 1 []),(.own 1 [])] [(0,1,(.t 38)),(1,1,(.t 40))],
 oz <| .st 2 (.t 4) (.t 41),
 oo 5 <| .mv (ki 0)]
def cJm : C := (.seq (.aO K8 false [] [1,2,4]) (.seq (.seq (.aO K7 false [] [1,2,4,6]) (.seq (.aO K6 false [] [1,2,4,6,12]) (.cond (.t 12) (.seq (.aO K5 false [] [4,5]) .ret) .skip))) (.seq (.seq (.aO K4 false [] [1,2,4,27]) (.cond (.t 27) (.seq (.aO K3 false [] [4,5]) .ret) .skip)) (.seq (.aO K2 false [] [1,4,7]) (.seq (.aO K1 true [(3,3),(4,4),(0,1),(0,2)] [4,7,8]) (.seq (.aO K0 false [] [4,5]) .ret))))))
def qJm : fO := ⟨42,2,[.c 4 (some 2),.t 5],cJm⟩
/- cohesion/cohesionref27.Close -/
def KZ : List O := [
 oo 2 <| .box (.t 0),
 oo 4 <| .new [(.own 1 []),(.own 1 [])],
 oo 5 <| .mv (ki 0)]
def KY : List O := [
 oo 8 <| .ld (some 3) (.t 2),
 oo 9 <| .call Uk [(.t 8)],
 oo 6 <| .mv (.t 9)]
def KX : List O := [
 oo 10 <| .mv (.t 6),
 oo 11 <| .bin .neq (.t 10) (ki 0)]
def KW : List O := [
 oo 12 <| .build [(.own 1 []),(.own 1 [])] [],
 oo 13 <| .mv (.t 6),
 oz <| .st 2 (.t 4) (.t 12),
 oo 5 <| .mv (.t 13)]
def KV : List O := [
 oo 14 <| .mv (.t 1),
 oo 15 <| .dt 0 (.t 2),
 oo 16 <| .dt 0 (.t 15),
 oo 17 <| .ld none (.t 16),
 oo 18 <| .call nJF [(.t 14),(.t 17)],
 oo 19 <| .un .not (.t 18),
 oo 20 <| .mv (.t 19),
 ⟨(some 21),(some (20,false)),.mv (.t 1)⟩,
 ⟨(some 22),(some (20,false)),.dt 2 (.t 2)⟩,
 ⟨(some 23),(some (20,false)),.ld none (.t 22)⟩,
 ⟨(some 24),(some (20,false)),.call nJO [(.t 21),(.t 23)]⟩,
 ⟨(some 25),(some (20,false)),.un .not (.t 24)⟩,
 oo 26 <| .pick (.t 20) (.k (.bool true)) (.t 25)]
def KU : List O := [
 oo 27 <| .build [(.own 1 []),(.own 1 [])] [],
 oz <| .st 2 (.t 4) (.t 27),
 oo 5 <| .mv (ki 4)]
def KT : List O := [
 oo 28 <| .dt 0 (.t 2),
 oo 29 <| .ld (some 2) (.t 28),
 oo 30 <| .ld (some 3) (.t 2),
 oo 31 <| .call nJQ [(.t 30)],
 oo 32 <| .mv (.t 1),
 oo 33 <| .call nJP [(.t 29),(.t 31),(.t 32)],
 oo 7 <| .mv (.t 33)]
def KS : List O := [
 oo 34 <| .dt 0 (.t 2),
 oo 35 <| .ld (some 2) (.t 34),
 oo 36 <| .dt 2 (.t 2),
 oo 37 <| .ld none (.t 36),
 oo 38 <| .mv (.t 7),
 oo 39 <| .call nJP [(.t 35),(.t 37),(.t 38)],
 oo 40 <| .mv (.t 7),
 oo 41 <| .build [(.own 1 []),(.own 1 [])] [(0,1,(.t 39)),(1,1,(.t 40))],
 oz <| .st 2 (.t 4) (.t 41),
 oo 5 <| .mv (ki 0)]
def cJn : C := (.seq (.aO KZ false [] [1,2,4]) (.seq (.seq (.aO KY false [] [1,2,4,6]) (.seq (.aO KX false [] [1,2,4,6,11]) (.cond (.t 11) (.seq (.aO KW false [] [4,5]) .ret) .skip))) (.seq (.seq (.aO KV false [] [1,2,4,26]) (.cond (.t 26) (.seq (.aO KU false [] [4,5]) .ret) .skip)) (.seq (.aO KT true [(5,5),(6,6),(0,2),(1,2),(0,3),(1,3),(1,4),(2,4),(3,4)] [2,4,7]) (.seq (.aO KS false [] [4,5]) .ret)))))
def qJn : fO := ⟨42,2,[.c 4 (some 2),.t 5],cJn⟩
/- cohesion/biclique.Next -/
def Rj : List O := [
 oo 2 <| .box (.t 0),
 oo 4 <| .new [(.own 1 []),(.own 1 [])],
 oo 5 <| .mv (.k (.bool false)),
 oo 6 <| .mv (ki 0)]
def Ri : List O := [
 oo 9 <| .ld (some 3) (.t 2),
 oo 10 <| .call Sn [(.t 9)],
 oo 7 <| .mv (.t 10)]
def Rh : List O := [
 oo 11 <| .mv (.t 7),
 oo 12 <| .bin .neq (.t 11) (ki 0)]
def Rg : List O := [
 oo 13 <| .build [(.own 1 []),(.own 1 [])] [],
 oo 14 <| .mv (.t 7),
 oz <| .st 2 (.t 4) (.t 13),
 oo 5 <| .mv (.k (.bool false)),
 oo 6 <| .mv (.t 14)]
def Rf : List O := [
 oo 8 <| .new [(.own 1 []),(.own 1 [])]]
def Re : List O := [
 oo 15 <| .ld (some 3) (.t 2),
 oo 16 <| .call Xa [(.t 15)],
 oo 17 <| .mv (.t 1),
 oo 18 <| .GC (.func nJS) [] [(.t 8)],
 oo 19 <| .call nJR [(.t 16),(.t 17),(.t 18)]]
def Rc : List O := [
 oo 20 <| .ld (some 2) (.t 8),
 oo 21 <| .dt 0 (.t 8),
 oo 22 <| .ld none (.t 21),
 oo 23 <| .len (.t 22),
 oo 24 <| .bin .gtr (.t 23) (ki 0),
 oz <| .st 2 (.t 4) (.t 20),
 oo 5 <| .mv (.t 24),
 oo 6 <| .mv (ki 0)]
def cJo : C := (.seq (.aO Rj false [] [1,2,4]) (.seq (.seq (.aO Ri false [] [1,2,4,7]) (.seq (.aO Rh false [] [1,2,4,7,12]) (.cond (.t 12) (.seq (.aO Rg false [] [4,5,6]) .ret) .skip))) (.seq (.aO Rf false [] [1,2,4,8]) (.seq (.aO Re false [] [4,8]) (.seq (.aO Rc true [(6,6),(7,7),(0,1),(0,2),(0,3),(0,4),(1,5),(2,5),(3,5),(4,5)] [4,5,6]) .ret)))))
def qJo : fO := ⟨25,2,[.c 4 (some 2),.t 5,.t 6],cJo⟩
/- cohesion/cohesionref27.Next -/
def DX : List O := [
 oo 2 <| .box (.t 0),
 oo 4 <| .new [(.own 1 []),(.own 1 [])],
 oo 5 <| .mv (.k (.bool false)),
 oo 6 <| .mv (ki 0)]
def DW : List O := [
 oo 10 <| .ld (some 3) (.t 2),
 oo 11 <| .call Uk [(.t 10)],
 oo 7 <| .mv (.t 11)]
def DV : List O := [
 oo 12 <| .mv (.t 7),
 oo 13 <| .bin .neq (.t 12) (ki 0)]
def DU : List O := [
 oo 14 <| .build [(.own 1 []),(.own 1 [])] [],
 oo 15 <| .mv (.t 7),
 oz <| .st 2 (.t 4) (.t 14),
 oo 5 <| .mv (.k (.bool false)),
 oo 6 <| .mv (.t 15)]
def DT : List O := [
 oo 16 <| .ld (some 3) (.t 2),
 oo 17 <| .call nJT [(.t 16)],
 oo 8 <| .mv (.t 17)]
def DS : List O := [
 oo 9 <| .mv (ki 0)]
def DR : List O := [
 oo 18 <| .mv (.t 9),
 oo 19 <| .mv (.t 8),
 oo 20 <| .len (.t 19),
 oo 21 <| .bin .lss (.t 18) (.t 20)]
def DQ : List O := [
 oo 24 <| .mv (.t 8),
 oo 25 <| .mv (.t 9),
 oo 26 <| .gq 2 (.t 24) (.t 25),
 oo 27 <| .dt 0 (.t 26),
 oo 28 <| .ld none (.t 27),
 oo 29 <| .mv (.t 1),
 oo 30 <| .call Vu [(.t 28),(.t 29)],
 oo 31 <| .bin .gtr (.t 30) (ki 0)]
def DP : List O := [
 oo 32 <| .mv (.t 8),
 oo 33 <| .mv (.t 9),
 oo 34 <| .gq 2 (.t 32) (.t 33),
 oo 35 <| .ld (some 2) (.t 34),
 oz <| .st 2 (.t 4) (.t 35),
 oo 5 <| .mv (.k (.bool true)),
 oo 6 <| .mv (ki 0)]
def DO : List O := [
 oo 22 <| .mv (.t 9),
 oo 23 <| .bin .add (.t 22) (ki 1),
 oo 9 <| .mv (.t 23)]
def MO : C := (.seq (.seq (.aO DR false [] [1,4,8,9,21]) (.cond (.t 21) .skip (.exit 0))) (.seq (.aH 1 (.seq (.aO DQ false [] [1,4,8,9,31]) (.cond (.t 31) (.seq (.aO DP false [] [4,5,6]) .ret) .skip))) (.aO DO false [] [1,4,8,9])))
def xj : List O := [
 oo 36 <| .build [(.own 1 []),(.own 1 [])] [],
 oz <| .st 2 (.t 4) (.t 36),
 oo 5 <| .mv (.k (.bool false)),
 oo 6 <| .mv (ki 0)]
def cJp : C := (.seq (.aO DX false [] [1,2,4]) (.seq (.seq (.aO DW false [] [1,2,4,7]) (.seq (.aO DV false [] [1,2,4,7,13]) (.cond (.t 13) (.seq (.aO DU false [] [4,5,6]) .ret) .skip))) (.seq (.aO DT false [] [1,4,8]) (.seq (.seq (.aO DS false [] [1,4,8,9]) (.aH 0 (.loop MO))) (.seq (.aO xj false [] [4,5,6]) .ret)))))
def qJp : fO := ⟨37,2,[.c 4 (some 2),.t 5,.t 6],cJp⟩
/- cohesion/cohesionref27.Same -/
def Rb : List O := [
 oo 2 <| .box (.t 0),
 oo 3 <| .box (.t 1),
 oo 4 <| .mv (.k (.bool false))]
def Ra : List O := [
 oo 5 <| .dt 0 (.t 2),
 oo 6 <| .ld none (.t 5),
 oo 7 <| .dt 0 (.t 3),
 oo 8 <| .ld none (.t 7),
 oo 9 <| .call Vu [(.t 6),(.t 8)],
 oo 10 <| .bin .eql (.t 9) (ki 0),
 oo 11 <| .mv (.t 10),
 ⟨(some 12),(some (11,true)),.dt 1 (.t 2)⟩,
 ⟨(some 13),(some (11,true)),.ld none (.t 12)⟩,
 ⟨(some 14),(some (11,true)),.dt 1 (.t 3)⟩,
 ⟨(some 15),(some (11,true)),.ld none (.t 14)⟩,
 ⟨(some 16),(some (11,true)),.call Vu [(.t 13),(.t 15)]⟩,
 ⟨(some 17),(some (11,true)),.bin .eql (.t 16) (ki 0)⟩,
 oo 18 <| .pick (.t 11) (.t 17) (.k (.bool false)),
 oo 4 <| .mv (.t 18)]
def cJq : C := (.seq (.aO Rb false [] [2,3]) (.seq (.aO Ra false [] [4]) .ret))
def qJq : fO := ⟨19,2,[.t 4],cJq⟩
/- (*cohesion/cohesionmake.Deck).Next -/
def Q9 : List O := [
 oo 4 <| .mv (ki 0)]
def Q8 : List O := [
 oo 6 <| .mv (.t 1),
 oo 7 <| .bin .lss (.t 6) (ki 1),
 oo 8 <| .mv (.t 7),
 ⟨(some 9),(some (8,false)),.mv (.t 0)⟩,
 ⟨(some 10),(some (8,false)),.kP (.t 9)⟩,
 ⟨(some 11),(some (8,false)),.dt 1 (.t 10)⟩,
 ⟨(some 12),(some (8,false)),.ld none (.t 11)⟩,
 ⟨(some 13),(some (8,false)),.mv (.t 0)⟩,
 ⟨(some 14),(some (8,false)),.kP (.t 13)⟩,
 ⟨(some 15),(some (8,false)),.dt 0 (.t 14)⟩,
 ⟨(some 16),(some (8,false)),.ld none (.t 15)⟩,
 ⟨(some 17),(some (8,false)),.len (.t 16)⟩,
 ⟨(some 18),(some (8,false)),.bin .geq (.t 12) (.t 17)⟩,
 oo 19 <| .pick (.t 8) (.k (.bool true)) (.t 18)]
def Q7 : List O := [
 oo 4 <| .mv (ki 0)]
def Q6 : List O := [
 oo 20 <| .mv (.t 0),
 oo 21 <| .kP (.t 20),
 oo 22 <| .dt 0 (.t 21),
 oo 23 <| .ld none (.t 22),
 oo 24 <| .mv (.t 0),
 oo 25 <| .kP (.t 24),
 oo 26 <| .dt 1 (.t 25),
 oo 27 <| .ld none (.t 26),
 oo 28 <| .gq 1 (.t 23) (.t 27),
 oo 29 <| .ld none (.t 28),
 oo 5 <| .mv (.t 29)]
def Q5 : List O := [
 oo 30 <| .mv (.t 0),
 oo 31 <| .kP (.t 30),
 oo 32 <| .dt 1 (.t 31),
 oo 33 <| .ld none (.t 32),
 oo 34 <| .bin .add (.t 33) (ki 1),
 oo 35 <| .kP (.t 30),
 oo 36 <| .dt 1 (.t 35),
 oz <| .st 1 (.t 36) (.t 34)]
def Q4 : List O := [
 oo 37 <| .mv (.t 5),
 oo 38 <| .mv (.t 1),
 oo 39 <| .call nJU [(.t 37),(.t 38)],
 oo 4 <| .mv (.t 39)]
def cJr : C := (.seq (.aO Q9 false [] [0,1]) (.seq (.seq (.aO Q8 true [(0,0),(1,1),(2,2),(12,12),(13,13),(6,7),(6,8),(6,9),(3,10),(4,10),(5,10),(6,10),(6,11)] [0,1,19]) (.cond (.t 19) (.seq (.aO Q7 false [] [4]) .ret) .skip)) (.seq (.aO Q6 true [(8,8),(9,9),(10,10),(3,4),(3,5),(3,6),(0,7),(1,7),(2,7),(3,7)] [0,1,5]) (.seq (.aO Q5 false [] [1,5]) (.seq (.aO Q4 false [] [4]) .ret)))))
def qJr : fO := ⟨40,2,[.t 4],cJr⟩
/- cohesion/biclique.All -/
def HG : List O := [
 oo 2 <| .box (.t 0),
 oo 3 <| .box (.t 1),
 oo 4 <| .mv (.k (.own 2 [])),
 oo 5 <| .mv (ki 0)]
def HF : List O := [
 oo 8 <| .ld (some 3) (.t 2),
 oo 9 <| .call Sn [(.t 8)],
 oo 6 <| .mv (.t 9)]
def HE : List O := [
 oo 10 <| .mv (.t 6),
 oo 11 <| .bin .neq (.t 10) (ki 0)]
def HD : List O := [
 oo 12 <| .mv (.t 6),
 oo 4 <| .mv (.k (.own 2 [])),
 oo 5 <| .mv (.t 12)]
def HB : List O := [
 oo 13 <| .ld none (.t 3),
 oo 14 <| .bin .lss (.t 13) (ki 0),
 oo 15 <| .mv (.t 14),
 ⟨(some 16),(some (15,false)),.ld none (.t 3)⟩,
 ⟨(some 17),(some (15,false)),.bin .gtr (.t 16) (ki 4096)⟩,
 oo 18 <| .pick (.t 15) (.k (.bool true)) (.t 17)]
def HA : List O := [
 oo 4 <| .mv (.k (.own 2 [])),
 oo 5 <| .mv (ki 1)]
def Hz : List O := [
 oo 7 <| .new [(.own 2 [])]]
def Hy : List O := [
 oo 19 <| .ld (some 3) (.t 2),
 oo 20 <| .call Xa [(.t 19)],
 oo 21 <| .GC (.func nJV) [] [(.t 7),(.t 3)],
 oo 22 <| .call nJR [(.t 20),(.k (.own 1 [])),(.t 21)]]
def Hw : List O := [
 oo 23 <| .ld none (.t 7),
 oo 24 <| .len (.t 23),
 oo 25 <| .ld none (.t 3),
 oo 26 <| .bin .gtr (.t 24) (.t 25)]
def Hv : List O := [
 oo 4 <| .mv (.k (.own 2 [])),
 oo 5 <| .mv (ki 3)]
def AF : List O := [
 oo 27 <| .ld none (.t 7),
 oo 4 <| .mv (.t 27),
 oo 5 <| .mv (ki 0)]
def cJs : C := (.seq (.aO HG false [] [2,3]) (.seq (.seq (.aO HF false [] [2,3,6]) (.seq (.aO HE false [] [2,3,6,11]) (.cond (.t 11) (.seq (.aO HD false [] [4,5]) .ret) .skip))) (.seq (.seq (.aO HB false [] [2,3,18]) (.cond (.t 18) (.seq (.aO HA false [] [4,5]) .ret) .skip)) (.seq (.aO Hz false [] [2,3,7]) (.seq (.aO Hy false [] [3,7]) (.seq (.seq (.aO Hw false [] [7,26]) (.cond (.t 26) (.seq (.aO Hv false [] [4,5]) .ret) .skip)) (.seq (.aO AF false [] [4,5]) .ret)))))))
def qJs : fO := ⟨28,2,[.t 4,.t 5],cJs⟩
/- cohesion/cohesionref27.All -/
def Hu : List O := [
 oo 2 <| .box (.t 0),
 oo 4 <| .mv (.k (.own 2 [])),
 oo 5 <| .mv (ki 0)]
def Hs : List O := [
 oo 8 <| .ld (some 3) (.t 2),
 oo 9 <| .call Uk [(.t 8)],
 oo 6 <| .mv (.t 9)]
def Hr : List O := [
 oo 10 <| .mv (.t 6),
 oo 11 <| .bin .neq (.t 10) (ki 0)]
def Hp : List O := [
 oo 12 <| .mv (.t 6),
 oo 4 <| .mv (.k (.own 2 [])),
 oo 5 <| .mv (.t 12)]
def Ho : List O := [
 oo 13 <| .mv (.t 1),
 oo 14 <| .bin .lss (.t 13) (ki 0),
 oo 15 <| .mv (.t 14),
 ⟨(some 16),(some (15,false)),.mv (.t 1)⟩,
 ⟨(some 17),(some (15,false)),.bin .gtr (.t 16) (ki 4096)⟩,
 oo 18 <| .pick (.t 15) (.k (.bool true)) (.t 17)]
def Hn : List O := [
 oo 4 <| .mv (.k (.own 2 [])),
 oo 5 <| .mv (ki 1)]
def Hm : List O := [
 oo 19 <| .ld (some 3) (.t 2),
 oo 20 <| .call nJT [(.t 19)],
 oo 7 <| .mv (.t 20)]
def Hk : List O := [
 oo 21 <| .mv (.t 7),
 oo 22 <| .len (.t 21),
 oo 23 <| .mv (.t 1),
 oo 24 <| .bin .gtr (.t 22) (.t 23)]
def Hj : List O := [
 oo 4 <| .mv (.k (.own 2 [])),
 oo 5 <| .mv (ki 3)]
def Hi : List O := [
 oo 25 <| .mv (.t 7),
 oo 4 <| .mv (.t 25),
 oo 5 <| .mv (ki 0)]
def cJt : C := (.seq (.aO Hu false [] [1,2]) (.seq (.seq (.aO Hs false [] [1,2,6]) (.seq (.aO Hr false [] [1,2,6,11]) (.cond (.t 11) (.seq (.aO Hp false [] [4,5]) .ret) .skip))) (.seq (.seq (.aO Ho false [] [1,2,18]) (.cond (.t 18) (.seq (.aO Hn false [] [4,5]) .ret) .skip)) (.seq (.aO Hm false [] [1,7]) (.seq (.seq (.aO Hk false [] [7,24]) (.cond (.t 24) (.seq (.aO Hj false [] [4,5]) .ret) .skip)) (.seq (.aO Hi false [] [4,5]) .ret))))))
def qJt : fO := ⟨26,2,[.t 4,.t 5],cJt⟩
/- cohesion/cohesionlaw27.same -/
def Q3 : List O := [
 oo 4 <| .mv (.k (.bool false))]
def Q2 : List O := [
 oo 6 <| .mv (.t 0),
 oo 7 <| .len (.t 6),
 oo 8 <| .mv (.t 1),
 oo 9 <| .len (.t 8),
 oo 10 <| .bin .neq (.t 7) (.t 9)]
def Q0 : List O := [
 oo 4 <| .mv (.k (.bool false))]
def QZ : List O := [
 oo 11 <| .mv (.t 0),
 oo 12 <| .len (.t 11),
 oo 13 <| .mv (ki 0)]
def QY : List O := [
 oo 14 <| .bin .lss (.t 13) (.t 12)]
def QX : List O := [
 oo 15 <| .mv (.t 13),
 oo 5 <| .mv (.t 15)]
def QW : List O := [
 oo 16 <| .mv (.t 0),
 oo 17 <| .mv (.t 5),
 oo 18 <| .gq 2 (.t 16) (.t 17),
 oo 19 <| .ld (some 2) (.t 18),
 oo 20 <| .mv (.t 1),
 oo 21 <| .mv (.t 5),
 oo 22 <| .gq 2 (.t 20) (.t 21),
 oo 23 <| .ld (some 2) (.t 22),
 oo 24 <| .call Uj [(.t 19),(.t 23)],
 oo 25 <| .un .not (.t 24)]
def QV : List O := [
 oo 4 <| .mv (.k (.bool false))]
def QU : List O := [
 oo 26 <| .bin .add (.t 13) (ki 1),
 oo 13 <| .mv (.t 26)]
def Sz : C := (.seq (.aO QY false [] [0,1,12,13,14]) (.seq (.cond (.t 14) .skip (.exit 0)) (.seq (.aH 1 (.seq (.aO QX false [] [0,1,5,12,13]) (.seq (.aO QW true [(8,8),(9,9),(3,4),(3,5),(3,6),(0,7),(1,7),(2,7),(3,7)] [0,1,12,13,25]) (.cond (.t 25) (.seq (.aO QV false [] [4]) .ret) .skip)))) (.aO QU false [] [0,1,12,13]))))
def QT : List O := [
 oo 4 <| .mv (.k (.bool true))]
def cJu : C := (.seq (.aO Q3 false [] [0,1]) (.seq (.seq (.aO Q2 false [] [0,1,10]) (.cond (.t 10) (.seq (.aO Q0 false [] [4]) .ret) .skip)) (.seq (.seq (.aO QZ false [] [0,1,12,13]) (.aH 0 (.loop Sz))) (.seq (.aO QT false [] [4]) .ret))))
def qJu : fO := ⟨27,2,[.t 4],cJu⟩
/- cohesion/biclique.Best -/
def QS : List O := [
 oo 1 <| .box (.t 0),
 oo 2 <| .new [(.own 1 []),(.own 1 [])],
 oo 3 <| .mv (ki 0)]
def QR : List O := [
 oo 6 <| .ld (some 3) (.t 1),
 oo 7 <| .call Sn [(.t 6)],
 oo 4 <| .mv (.t 7)]
def QQ : List O := [
 oo 8 <| .mv (.t 4),
 oo 9 <| .bin .neq (.t 8) (ki 0)]
def QP : List O := [
 oo 10 <| .build [(.own 1 []),(.own 1 [])] [],
 oo 11 <| .mv (.t 4),
 oz <| .st 2 (.t 2) (.t 10),
 oo 3 <| .mv (.t 11)]
def QO : List O := [
 oo 5 <| .new [(.own 1 []),(.own 1 [])]]
def QN : List O := [
 oo 12 <| .ld (some 3) (.t 1),
 oo 13 <| .call Xa [(.t 12)],
 oo 14 <| .GC (.func nJW) [] [(.t 5)],
 oo 15 <| .call nJR [(.t 13),(.k (.own 1 [])),(.t 14)]]
def QM : List O := [
 oo 16 <| .dt 0 (.t 5),
 oo 17 <| .ld none (.t 16),
 oo 18 <| .len (.t 17),
 oo 19 <| .bin .eql (.t 18) (ki 0)]
def QL : List O := [
 oo 20 <| .build [(.own 1 []),(.own 1 [])] [],
 oz <| .st 2 (.t 2) (.t 20),
 oo 3 <| .mv (ki 13)]
def QK : List O := [
 oo 21 <| .ld (some 2) (.t 5),
 oz <| .st 2 (.t 2) (.t 21),
 oo 3 <| .mv (ki 0)]
def cJv : C := (.seq (.aO QS false [] [1,2]) (.seq (.seq (.aO QR false [] [1,2,4]) (.seq (.aO QQ false [] [1,2,4,9]) (.cond (.t 9) (.seq (.aO QP false [] [2,3]) .ret) .skip))) (.seq (.aO QO false [] [1,2,5]) (.seq (.aO QN false [] [2,5]) (.seq (.seq (.aO QM false [] [2,5,19]) (.cond (.t 19) (.seq (.aO QL false [] [2,3]) .ret) .skip)) (.seq (.aO QK false [] [2,3]) .ret))))))
def qJv : fO := ⟨22,1,[.c 2 (some 2),.t 3],cJv⟩
/- cohesion/cohesionref27.Best -/
def wF : List O := [
 oo 1 <| .box (.t 0),
 oo 2 <| .new [(.own 1 []),(.own 1 [])],
 oo 3 <| .mv (ki 0)]
def wE : List O := [
 oo 8 <| .ld (some 3) (.t 1),
 oo 9 <| .call Uk [(.t 8)],
 oo 4 <| .mv (.t 9)]
def wD : List O := [
 oo 10 <| .mv (.t 4),
 oo 11 <| .bin .neq (.t 10) (ki 0)]
def wC : List O := [
 oo 12 <| .build [(.own 1 []),(.own 1 [])] [],
 oo 13 <| .mv (.t 4),
 oz <| .st 2 (.t 2) (.t 12),
 oo 3 <| .mv (.t 13)]
def wB : List O := [
 oo 14 <| .dt 0 (.t 1),
 oo 15 <| .dt 1 (.t 14),
 oo 16 <| .ld none (.t 15),
 oo 17 <| .len (.t 16),
 oo 18 <| .bin .eql (.t 17) (ki 0)]
def wA : List O := [
 oo 19 <| .build [(.own 1 []),(.own 1 [])] [],
 oz <| .st 2 (.t 2) (.t 19),
 oo 3 <| .mv (ki 13)]
def wz : List O := [
 oo 5 <| .new [(.own 1 []),(.own 1 [])]]
def wy : List O := [
 oo 20 <| .ld (some 3) (.t 1),
 oo 21 <| .call nJT [(.t 20)],
 oo 6 <| .mv (.t 21)]
def wx : List O := [
 oo 7 <| .mv (ki 0)]
def wv : List O := [
 oo 22 <| .mv (.t 7),
 oo 23 <| .mv (.t 6),
 oo 24 <| .len (.t 23),
 oo 25 <| .bin .lss (.t 22) (.t 24)]
def qu : List O := [
 oo 28 <| .mv (.t 6),
 oo 29 <| .mv (.t 7),
 oo 30 <| .gq 2 (.t 28) (.t 29),
 oo 31 <| .dt 0 (.t 30),
 oo 32 <| .ld none (.t 31),
 oo 33 <| .len (.t 32),
 oo 34 <| .mv (.t 6),
 oo 35 <| .mv (.t 7),
 oo 36 <| .gq 2 (.t 34) (.t 35),
 oo 37 <| .dt 1 (.t 36),
 oo 38 <| .ld none (.t 37),
 oo 39 <| .len (.t 38),
 oo 40 <| .bin .mul (.t 33) (.t 39),
 oo 41 <| .dt 0 (.t 5),
 oo 42 <| .ld none (.t 41),
 oo 43 <| .len (.t 42),
 oo 44 <| .dt 1 (.t 5),
 oo 45 <| .ld none (.t 44),
 oo 46 <| .len (.t 45),
 oo 47 <| .bin .mul (.t 43) (.t 46),
 oo 48 <| .bin .gtr (.t 40) (.t 47)]
def qt : List O := [
 oo 49 <| .mv (.t 6),
 oo 50 <| .mv (.t 7),
 oo 51 <| .gq 2 (.t 49) (.t 50),
 oo 52 <| .ld (some 2) (.t 51),
 oz <| .st 2 (.t 5) (.t 52)]
def qq : List O := [
 oo 26 <| .mv (.t 7),
 oo 27 <| .bin .add (.t 26) (ki 1),
 oo 7 <| .mv (.t 27)]
def BX : C := (.seq (.seq (.aO wv false [] [2,5,6,7,25]) (.cond (.t 25) .skip (.exit 0))) (.seq (.aH 1 (.seq (.aO qu true [(20,20),(4,6),(4,7),(4,8),(4,9),(0,10),(1,10),(2,10),(3,10),(4,10),(5,10),(4,11),(4,13),(10,13),(0,14),(1,14),(2,14),(3,14),(4,14),(5,14),(6,14),(7,14),(8,14),(9,14),(10,14),(11,14),(12,14),(4,15),(10,15),(4,16),(10,16),(14,16),(0,17),(1,17),(2,17),(3,17),(4,17),(5,17),(6,17),(7,17),(8,17),(9,17),(10,17),(11,17),(12,17),(13,17),(14,17),(15,17),(4,18),(10,18),(14,18),(4,19),(10,19)] [2,5,6,7,48]) (.cond (.t 48) (.aO qt false [] [2,5,6,7]) .skip))) (.aO qq false [] [2,5,6,7])))
def qp : List O := [
 oo 53 <| .ld (some 2) (.t 5),
 oz <| .st 2 (.t 2) (.t 53),
 oo 3 <| .mv (ki 0)]
def cJw : C := (.seq (.aO wF false [] [1,2]) (.seq (.seq (.aO wE false [] [1,2,4]) (.seq (.aO wD false [] [1,2,4,11]) (.cond (.t 11) (.seq (.aO wC false [] [2,3]) .ret) .skip))) (.seq (.seq (.aO wB false [] [1,2,18]) (.cond (.t 18) (.seq (.aO wA false [] [2,3]) .ret) .skip)) (.seq (.aO wz false [] [1,2,5]) (.seq (.aO wy false [] [2,5,6]) (.seq (.seq (.aO wx false [] [2,5,6,7]) (.aH 0 (.loop BX))) (.seq (.aO qp false [] [2,3]) .ret)))))))
def qJw : fO := ⟨54,1,[.c 2 (some 2),.t 3],cJw⟩
/- cohesion/cohesionref03.Of -/
def DN : List O := [
 oo 4 <| .new [(.int .i64 0),(.own 2 [])],
 oo 5 <| .mv (ki 0)]
def DM : List O := [
 oo 9 <| .mv (.t 0),
 oo 10 <| .bin .lss (.t 9) (ki 0),
 oo 11 <| .mv (.t 10),
 ⟨(some 12),(some (11,false)),.mv (.t 0)⟩,
 ⟨(some 13),(some (11,false)),.bin .gtr (.t 12) (ki 64)⟩,
 oo 14 <| .pick (.t 11) (.k (.bool true)) (.t 13)]
def DL : List O := [
 oo 15 <| .build [(.int .i64 0),(.own 2 [])] [],
 oz <| .st 2 (.t 4) (.t 15),
 oo 5 <| .mv (ki 1)]
def DK : List O := [
 oo 16 <| .mv (.t 0),
 oo 17 <| .build [(.int .i64 0),(.own 2 [])] [(0,1,(.t 16))],
 oo 6 <| .new [(.int .i64 0),(.own 2 [])],
 oz <| .st 2 (.t 6) (.t 17)]
def DJ : List O := [
 oo 18 <| .mv (.t 1),
 oo 19 <| .len (.t 18),
 oo 20 <| .mv (ki 0)]
def DI : List O := [
 oo 21 <| .bin .lss (.t 20) (.t 19)]
def DH : List O := [
 oo 22 <| .gq 2 (.t 18) (.t 20),
 oo 23 <| .ld (some 2) (.t 22),
 oo 8 <| .new [(.int .i64 0),(.int .i64 0)],
 oz <| .st 2 (.t 8) (.t 23)]
def DG : List O := [
 oo 24 <| .mv (.t 0),
 oo 25 <| .dt 0 (.t 8),
 oo 26 <| .ld none (.t 25),
 oo 27 <| .dt 1 (.t 8),
 oo 28 <| .ld none (.t 27),
 oo 29 <| .call nJX [(.t 24),(.t 26),(.t 28)],
 oo 30 <| .un .not (.t 29)]
def DF : List O := [
 oo 31 <| .build [(.int .i64 0),(.own 2 [])] [],
 oz <| .st 2 (.t 4) (.t 31),
 oo 5 <| .mv (ki 6)]
def DE : List O := [
 oo 32 <| .dt 1 (.t 6),
 oo 33 <| .ld none (.t 32),
 oo 34 <| .dt 0 (.t 8),
 oo 35 <| .ld none (.t 34),
 oo 36 <| .dt 1 (.t 8),
 oo 37 <| .ld none (.t 36),
 oo 38 <| .call nJZ [(.t 35),(.t 37)],
 oo 39 <| .call nJY [(.t 33),(.t 38)],
 oo 40 <| .dt 1 (.t 6),
 oz <| .st 1 (.t 40) (.t 39)]
def xh : List O := [
 oo 41 <| .bin .add (.t 20) (ki 1),
 oo 20 <| .mv (.t 41)]
def wS : C := (.seq (.aO DI false [] [0,4,6,18,19,20,21]) (.seq (.cond (.t 21) .skip (.exit 0)) (.seq (.aH 1 (.seq (.aO DH false [] [0,4,6,8,18,19,20]) (.seq (.seq (.aO DG false [] [0,4,6,8,18,19,20,30]) (.cond (.t 30) (.seq (.aO DF false [] [4,5]) .ret) .skip)) (.aO DE true [(7,7),(8,8),(9,9),(1,2),(0,3),(1,3),(1,4),(3,4),(0,5),(1,5),(2,5),(3,5),(0,6),(1,6)] [0,4,6,18,19,20])))) (.aO xh false [] [0,4,6,18,19,20]))))
def xg : List O := [
 oo 42 <| .ld (some 2) (.t 6),
 oz <| .st 2 (.t 4) (.t 42),
 oo 5 <| .mv (ki 0)]
def cJx : C := (.seq (.aO DN false [] [0,1,4]) (.seq (.seq (.aO DM false [] [0,1,4,14]) (.cond (.t 14) (.seq (.aO DL false [] [4,5]) .ret) .skip)) (.seq (.aO DK false [] [0,1,4,6]) (.seq (.seq (.aO DJ false [] [0,4,6,18,19,20]) (.aH 0 (.loop wS))) (.seq (.aO xg false [] [4,5]) .ret)))))
def qJx : fO := ⟨43,2,[.c 4 (some 2),.t 5],cJx⟩
/- cohesion/cohesionref02.Cmp -/
def yH : List O := [
 oo 4 <| .mv (ki 0)]
def yG : List O := [
 oo 6 <| .mv (.t 0),
 oo 7 <| .len (.t 6),
 oo 8 <| .mv (ki 0)]
def yF : List O := [
 oo 9 <| .bin .lss (.t 8) (.t 7)]
def yE : List O := [
 oo 10 <| .mv (.t 8),
 oo 5 <| .mv (.t 10)]
def yD : List O := [
 oo 12 <| .mv (.t 5),
 oo 13 <| .mv (.t 1),
 oo 14 <| .len (.t 13),
 oo 15 <| .bin .geq (.t 12) (.t 14),
 oo 16 <| .mv (.t 15),
 ⟨(some 17),(some (16,false)),.mv (.t 0)⟩,
 ⟨(some 18),(some (16,false)),.mv (.t 5)⟩,
 ⟨(some 19),(some (16,false)),.gq 1 (.t 17) (.t 18)⟩,
 ⟨(some 20),(some (16,false)),.ld none (.t 19)⟩,
 ⟨(some 21),(some (16,false)),.mv (.t 1)⟩,
 ⟨(some 22),(some (16,false)),.mv (.t 5)⟩,
 ⟨(some 23),(some (16,false)),.gq 1 (.t 21) (.t 22)⟩,
 ⟨(some 24),(some (16,false)),.ld none (.t 23)⟩,
 ⟨(some 25),(some (16,false)),.bin .gtr (.t 20) (.t 24)⟩,
 oo 26 <| .pick (.t 16) (.k (.bool true)) (.t 25),
 oo 11 <| .mv (.t 26)]
def yC : List O := [
 oo 4 <| .mv (ki 1)]
def yB : List O := [
 oo 28 <| .mv (.t 0),
 oo 29 <| .mv (.t 5),
 oo 30 <| .gq 1 (.t 28) (.t 29),
 oo 31 <| .ld none (.t 30),
 oo 32 <| .mv (.t 1),
 oo 33 <| .mv (.t 5),
 oo 34 <| .gq 1 (.t 32) (.t 33),
 oo 35 <| .ld none (.t 34),
 oo 36 <| .bin .lss (.t 31) (.t 35),
 oo 27 <| .mv (.t 36)]
def yA : List O := [
 oo 4 <| .mv (.k (.int .i64 (-1)))]
def yz : List O := [
 oo 37 <| .bin .add (.t 8) (ki 1),
 oo 8 <| .mv (.t 37)]
def Fh : C := (.seq (.aO yF false [] [0,1,7,8,9]) (.seq (.cond (.t 9) .skip (.exit 0)) (.seq (.aH 1 (.seq (.aO yE false [] [0,1,5,7,8]) (.aH 2 (.seq (.aO yD true [(3,3),(4,4),(13,13),(14,14),(15,15),(8,9),(8,10),(8,11),(5,12),(6,12),(7,12),(8,12)] [0,1,5,7,8,11]) (.cond (.t 11) (.seq (.aO yC false [] [4]) .ret) (.seq (.aO yB true [(8,8),(9,9),(3,4),(3,5),(3,6),(0,7),(1,7),(2,7),(3,7)] [0,1,7,8,27]) (.cond (.t 27) (.seq (.aO yA false [] [4]) .ret) .skip))))))) (.aO yz false [] [0,1,7,8]))))
def yy : List O := [
 oo 38 <| .mv (.t 0),
 oo 39 <| .len (.t 38),
 oo 40 <| .mv (.t 1),
 oo 41 <| .len (.t 40),
 oo 42 <| .bin .lss (.t 39) (.t 41)]
def sB : List O := [
 oo 4 <| .mv (.k (.int .i64 (-1)))]
def sA : List O := [
 oo 4 <| .mv (ki 0)]
def cJy : C := (.seq (.aO yH false [] [0,1]) (.seq (.seq (.aO yG false [] [0,1,7,8]) (.aH 0 (.loop Fh))) (.seq (.seq (.aO yy false [] [42]) (.cond (.t 42) (.seq (.aO sB false [] [4]) .ret) .skip)) (.seq (.aO sA false [] [4]) .ret))))
def qJy : fO := ⟨43,2,[.t 4],cJy⟩
/- cohesion/graph.Check -/
def tx : List O := [
 oo 1 <| .box (.t 0),
 oo 2 <| .mv (ki 0)]
def tw : List O := [
 oo 5 <| .dt 0 (.t 1),
 oo 6 <| .ld none (.t 5),
 oo 7 <| .bin .lss (.t 6) (ki 0),
 oo 8 <| .mv (.t 7),
 ⟨(some 9),(some (8,false)),.dt 0 (.t 1)⟩,
 ⟨(some 10),(some (8,false)),.ld none (.t 9)⟩,
 ⟨(some 11),(some (8,false)),.bin .gtr (.t 10) (ki 64)⟩,
 oo 12 <| .pick (.t 8) (.k (.bool true)) (.t 11)]
def tv : List O := [
 oo 2 <| .mv (ki 1)]
def tu : List O := [
 oo 13 <| .dt 1 (.t 1),
 oo 14 <| .ld none (.t 13),
 oo 15 <| .len (.t 14),
 oo 16 <| .mv (ki 0)]
def tt : List O := [
 oo 17 <| .bin .lss (.t 16) (.t 15)]
def tr : List O := [
 oo 18 <| .mv (.t 16),
 oo 19 <| .gq 2 (.t 14) (.t 16),
 oo 20 <| .ld (some 2) (.t 19),
 oo 4 <| .new [(.int .i64 0),(.int .i64 0)],
 oo 3 <| .mv (.t 18),
 oz <| .st 2 (.t 4) (.t 20)]
def tq : List O := [
 oo 22 <| .dt 0 (.t 4),
 oo 23 <| .ld none (.t 22),
 oo 24 <| .bin .lss (.t 23) (ki 0),
 oo 25 <| .mv (.t 24),
 ⟨(some 26),(some (25,false)),.dt 0 (.t 4)⟩,
 ⟨(some 27),(some (25,false)),.ld none (.t 26)⟩,
 ⟨(some 28),(some (25,false)),.dt 1 (.t 4)⟩,
 ⟨(some 29),(some (25,false)),.ld none (.t 28)⟩,
 ⟨(some 30),(some (25,false)),.bin .geq (.t 27) (.t 29)⟩,
 oo 31 <| .pick (.t 25) (.k (.bool true)) (.t 30),
 oo 32 <| .mv (.t 31),
 ⟨(some 33),(some (32,false)),.dt 1 (.t 4)⟩,
 ⟨(some 34),(some (32,false)),.ld none (.t 33)⟩,
 ⟨(some 35),(some (32,false)),.dt 0 (.t 1)⟩,
 ⟨(some 36),(some (32,false)),.ld none (.t 35)⟩,
 ⟨(some 37),(some (32,false)),.bin .geq (.t 34) (.t 36)⟩,
 oo 38 <| .pick (.t 32) (.k (.bool true)) (.t 37),
 oo 21 <| .mv (.t 38)]
def tn : List O := [
 oo 2 <| .mv (ki 6)]
def tl : List O := [
 oo 40 <| .mv (.t 3),
 oo 41 <| .bin .gtr (.t 40) (ki 0),
 oo 42 <| .mv (.t 41),
 ⟨(some 43),(some (42,true)),.dt 1 (.t 1)⟩,
 ⟨(some 44),(some (42,true)),.ld none (.t 43)⟩,
 ⟨(some 45),(some (42,true)),.mv (.t 3)⟩,
 ⟨(some 46),(some (42,true)),.bin .sub (.t 45) (ki 1)⟩,
 ⟨(some 47),(some (42,true)),.gq 2 (.t 44) (.t 46)⟩,
 ⟨(some 48),(some (42,true)),.ld (some 2) (.t 47)⟩,
 ⟨(some 49),(some (42,true)),.ld (some 2) (.t 4)⟩,
 ⟨(some 50),(some (42,true)),.call nJ0 [(.t 48),(.t 49)]⟩,
 ⟨(some 51),(some (42,true)),.bin .geq (.t 50) (ki 0)⟩,
 oo 52 <| .pick (.t 42) (.t 51) (.k (.bool false)),
 oo 39 <| .mv (.t 52)]
def tj : List O := [
 oo 2 <| .mv (ki 5)]
def nM : List O := [
 oo 53 <| .bin .add (.t 16) (ki 1),
 oo 16 <| .mv (.t 53)]
def zI : C := (.seq (.aO tt false [] [1,14,15,16,17]) (.seq (.cond (.t 17) .skip (.exit 0)) (.seq (.aH 1 (.seq (.aO tr false [] [1,3,4,14,15,16]) (.aH 2 (.seq (.aO tq false [] [1,3,4,14,15,16,21]) (.cond (.t 21) (.seq (.aO tn false [] [2]) .ret) (.seq (.aO tl true [(0,0),(1,1),(2,2),(10,10),(11,11),(12,12),(13,13),(4,5),(4,6),(3,9),(4,9),(5,9),(6,9),(7,9),(8,9)] [1,14,15,16,39]) (.cond (.t 39) (.seq (.aO tj false [] [2]) .ret) .skip))))))) (.aO nM false [] [1,14,15,16]))))
def nK : List O := [
 oo 2 <| .mv (ki 0)]
def cJz : C := (.seq (.aO tx false [] [1]) (.seq (.seq (.aO tw false [] [1,12]) (.cond (.t 12) (.seq (.aO tv false [] [2]) .ret) .skip)) (.seq (.seq (.aO tu false [] [1,14,15,16]) (.aH 0 (.loop zI))) (.seq (.aO nK false [] [2]) .ret))))
def qJz : fO := ⟨54,1,[.t 2],cJz⟩
/- cohesion/nodeset.Valid -/
def zm : List O := [
 oo 4 <| .mv (.k (.bool false))]
def zl : List O := [
 oo 7 <| .mv (.t 0),
 oo 8 <| .len (.t 7),
 oo 9 <| .mv (ki 0)]
def zk : List O := [
 oo 10 <| .bin .lss (.t 9) (.t 8)]
def zj : List O := [
 oo 11 <| .mv (.t 9),
 oo 12 <| .gq 1 (.t 7) (.t 9),
 oo 13 <| .ld none (.t 12),
 oo 5 <| .mv (.t 11),
 oo 6 <| .mv (.t 13)]
def zi : List O := [
 oo 14 <| .mv (.t 6),
 oo 15 <| .bin .lss (.t 14) (ki 0),
 oo 16 <| .mv (.t 15),
 ⟨(some 17),(some (16,false)),.mv (.t 6)⟩,
 ⟨(some 18),(some (16,false)),.mv (.t 1)⟩,
 ⟨(some 19),(some (16,false)),.bin .geq (.t 17) (.t 18)⟩,
 oo 20 <| .pick (.t 16) (.k (.bool true)) (.t 19),
 oo 21 <| .mv (.t 20),
 ⟨(some 22),(some (21,false)),.mv (.t 5)⟩,
 ⟨(some 23),(some (21,false)),.bin .gtr (.t 22) (ki 0)⟩,
 ⟨(some 24),(some (21,false)),.mv (.t 23)⟩,
 ⟨(some 25),(some (24,true)),.mv (.t 0)⟩,
 ⟨(some 26),(some (24,true)),.mv (.t 5)⟩,
 ⟨(some 27),(some (24,true)),.bin .sub (.t 26) (ki 1)⟩,
 ⟨(some 28),(some (24,true)),.gq 1 (.t 25) (.t 27)⟩,
 ⟨(some 29),(some (24,true)),.ld none (.t 28)⟩,
 ⟨(some 30),(some (24,true)),.mv (.t 6)⟩,
 ⟨(some 31),(some (24,true)),.bin .geq (.t 29) (.t 30)⟩,
 ⟨(some 32),(some (21,false)),.pick (.t 24) (.t 31) (.k (.bool false))⟩,
 oo 33 <| .pick (.t 21) (.k (.bool true)) (.t 32)]
def zh : List O := [
 oo 4 <| .mv (.k (.bool false))]
def zg : List O := [
 oo 34 <| .bin .add (.t 9) (ki 1),
 oo 9 <| .mv (.t 34)]
def B0 : C := (.seq (.aO zk false [] [0,1,7,8,9,10]) (.seq (.cond (.t 10) .skip (.exit 0)) (.seq (.aH 1 (.seq (.aO zj false [] [0,1,5,6,7,8,9]) (.seq (.aO zi false [] [0,1,7,8,9,33]) (.cond (.t 33) (.seq (.aO zh false [] [4]) .ret) .skip)))) (.aO zg false [] [0,1,7,8,9]))))
def zf : List O := [
 oo 4 <| .mv (.k (.bool true))]
def cJA : C := (.seq (.aO zm false [] [0,1]) (.seq (.seq (.aO zl false [] [0,1,7,8,9]) (.aH 0 (.loop B0))) (.seq (.aO zf false [] [4]) .ret)))
def qJA : fO := ⟨35,2,[.t 4],cJA⟩
/- cohesion/biclique.mask -/
def RL : List O := [
 oo 2 <| .mv (.k (.int .u64 0))]
def RK : List O := [
 oo 3 <| .mv (.k (.int .u64 0))]
def RJ : List O := [
 oo 6 <| .mv (.t 0),
 oo 7 <| .len (.t 6),
 oo 8 <| .mv (ki 0)]
def RI : List O := [
 oo 9 <| .bin .lss (.t 8) (.t 7)]
def RH : List O := [
 oo 10 <| .gq 1 (.t 6) (.t 8),
 oo 11 <| .ld none (.t 10),
 oo 5 <| .mv (.t 11)]
def RG : List O := [
 oo 12 <| .mv (.t 3),
 oo 13 <| .mv (.t 5),
 oo 14 <| .bin .shl (.k (.int .u64 1)) (.t 13),
 oo 15 <| .bin .or (.t 12) (.t 14),
 oo 3 <| .mv (.t 15)]
def RF : List O := [
 oo 16 <| .bin .add (.t 8) (ki 1),
 oo 8 <| .mv (.t 16)]
def SG : C := (.seq (.aO RI false [] [3,6,7,8,9]) (.seq (.cond (.t 9) .skip (.exit 0)) (.seq (.aH 1 (.seq (.aO RH false [] [3,5,6,7,8]) (.aO RG false [] [3,6,7,8]))) (.aO RF false [] [3,6,7,8]))))
def RE : List O := [
 oo 17 <| .mv (.t 3),
 oo 2 <| .mv (.t 17)]
def cJB : C := (.seq (.aO RL false [] [0]) (.seq (.aO RK false [] [0,3]) (.seq (.seq (.aO RJ false [] [3,6,7,8]) (.aH 0 (.loop SG))) (.seq (.aO RE false [] [2]) .ret))))
def qJB : fO := ⟨18,1,[.t 2],cJB⟩
/- slices.ContainsFunc[[]cohesion/api.Edge,cohesion/api.Edge] -/
def Ww : List O := [
 oo 4 <| .mv (.k (.bool false))]
def Wv : List O := [
 oo 5 <| .mv (.t 0),
 oo 6 <| .mv (.t 1),
 oo 7 <| .call nJ1 [(.t 5),(.t 6)],
 oo 8 <| .bin .geq (.t 7) (ki 0),
 oo 4 <| .mv (.t 8)]
def cJC : C := (.seq (.aO Ww false [] [0,1]) (.seq (.aO Wv false [] [4]) .ret))
def qJC : fO := ⟨9,2,[.t 4],cJC⟩
/- cohesion/biclique.Check$1 -/
def LK : List O := [
 oo 2 <| .box (.t 0),
 oo 3 <| .mv (.k (.bool false))]
def LJ : List O := [
 oo 4 <| .ld none (.t 1),
 oo 5 <| .dt 0 (.t 2),
 oo 6 <| .ld none (.t 5),
 oo 7 <| .bin .shr (.t 4) (.t 6),
 oo 8 <| .bin .and (.t 7) (.k (.int .u64 1)),
 oo 9 <| .ld none (.t 1),
 oo 10 <| .dt 1 (.t 2),
 oo 11 <| .ld none (.t 10),
 oo 12 <| .bin .shr (.t 9) (.t 11),
 oo 13 <| .bin .and (.t 12) (.k (.int .u64 1)),
 oo 14 <| .bin .eql (.t 8) (.t 13),
 oo 3 <| .mv (.t 14)]
def cJD : C := (.seq (.aO LK false [] [1,2]) (.seq (.aO LJ true [(10,10),(11,11),(0,1),(0,2),(0,5),(1,5),(2,5),(3,5),(4,5),(0,6),(2,6),(5,6),(0,7),(1,7),(2,7),(3,7),(4,7),(5,7),(0,8),(2,8),(0,9),(2,9)] [3]) .ret))
def qJD : fO := ⟨15,1,[.t 3],cJD⟩
/- cohesion/cohesionref03.Check -/
def tJ : List O := [
 oo 1 <| .box (.t 0),
 oo 2 <| .mv (ki 0)]
def tI : List O := [
 oo 5 <| .dt 0 (.t 1),
 oo 6 <| .ld none (.t 5),
 oo 7 <| .bin .lss (.t 6) (ki 0),
 oo 8 <| .mv (.t 7),
 ⟨(some 9),(some (8,false)),.dt 0 (.t 1)⟩,
 ⟨(some 10),(some (8,false)),.ld none (.t 9)⟩,
 ⟨(some 11),(some (8,false)),.bin .gtr (.t 10) (ki 64)⟩,
 oo 12 <| .pick (.t 8) (.k (.bool true)) (.t 11)]
def tH : List O := [
 oo 2 <| .mv (ki 1)]
def tG : List O := [
 oo 13 <| .dt 1 (.t 1),
 oo 14 <| .ld none (.t 13),
 oo 15 <| .len (.t 14),
 oo 16 <| .mv (ki 0)]
def tF : List O := [
 oo 17 <| .bin .lss (.t 16) (.t 15)]
def tE : List O := [
 oo 18 <| .mv (.t 16),
 oo 19 <| .gq 2 (.t 14) (.t 16),
 oo 20 <| .ld (some 2) (.t 19),
 oo 4 <| .new [(.int .i64 0),(.int .i64 0)],
 oo 3 <| .mv (.t 18),
 oz <| .st 2 (.t 4) (.t 20)]
def tD : List O := [
 oo 21 <| .dt 0 (.t 4),
 oo 22 <| .ld none (.t 21),
 oo 23 <| .bin .lss (.t 22) (ki 0),
 oo 24 <| .mv (.t 23),
 ⟨(some 25),(some (24,false)),.dt 0 (.t 4)⟩,
 ⟨(some 26),(some (24,false)),.ld none (.t 25)⟩,
 ⟨(some 27),(some (24,false)),.dt 1 (.t 4)⟩,
 ⟨(some 28),(some (24,false)),.ld none (.t 27)⟩,
 ⟨(some 29),(some (24,false)),.bin .geq (.t 26) (.t 28)⟩,
 oo 30 <| .pick (.t 24) (.k (.bool true)) (.t 29),
 oo 31 <| .mv (.t 30),
 ⟨(some 32),(some (31,false)),.dt 1 (.t 4)⟩,
 ⟨(some 33),(some (31,false)),.ld none (.t 32)⟩,
 ⟨(some 34),(some (31,false)),.dt 0 (.t 1)⟩,
 ⟨(some 35),(some (31,false)),.ld none (.t 34)⟩,
 ⟨(some 36),(some (31,false)),.bin .geq (.t 33) (.t 35)⟩,
 oo 37 <| .pick (.t 31) (.k (.bool true)) (.t 36)]
def tC : List O := [
 oo 2 <| .mv (ki 6)]
def tB : List O := [
 oo 38 <| .mv (.t 3),
 oo 39 <| .bin .gtr (.t 38) (ki 0),
 oo 40 <| .mv (.t 39),
 ⟨(some 41),(some (40,true)),.dt 1 (.t 1)⟩,
 ⟨(some 42),(some (40,true)),.ld none (.t 41)⟩,
 ⟨(some 43),(some (40,true)),.mv (.t 3)⟩,
 ⟨(some 44),(some (40,true)),.bin .sub (.t 43) (ki 1)⟩,
 ⟨(some 45),(some (40,true)),.gq 2 (.t 42) (.t 44)⟩,
 ⟨(some 46),(some (40,true)),.ld (some 2) (.t 45)⟩,
 ⟨(some 47),(some (40,true)),.ld (some 2) (.t 4)⟩,
 ⟨(some 48),(some (40,true)),.call nJ2 [(.t 46),(.t 47)]⟩,
 ⟨(some 49),(some (40,true)),.un .not (.t 48)⟩,
 oo 50 <| .pick (.t 40) (.t 49) (.k (.bool false))]
def tA : List O := [
 oo 2 <| .mv (ki 5)]
def nP : List O := [
 oo 51 <| .bin .add (.t 16) (ki 1),
 oo 16 <| .mv (.t 51)]
def zJ : C := (.seq (.aO tF false [] [1,14,15,16,17]) (.seq (.cond (.t 17) .skip (.exit 0)) (.seq (.aH 1 (.seq (.aO tE false [] [1,3,4,14,15,16]) (.seq (.seq (.aO tD false [] [1,3,4,14,15,16,37]) (.cond (.t 37) (.seq (.aO tC false [] [2]) .ret) .skip)) (.seq (.aO tB true [(0,0),(1,1),(2,2),(10,10),(11,11),(12,12),(4,5),(4,6),(3,9),(4,9),(5,9),(6,9),(7,9),(8,9)] [1,14,15,16,50]) (.cond (.t 50) (.seq (.aO tA false [] [2]) .ret) .skip))))) (.aO nP false [] [1,14,15,16]))))
def nO : List O := [
 oo 2 <| .mv (ki 0)]
def cJE : C := (.seq (.aO tJ false [] [1]) (.seq (.seq (.aO tI false [] [1,12]) (.cond (.t 12) (.seq (.aO tH false [] [2]) .ret) .skip)) (.seq (.seq (.aO tG false [] [1,14,15,16]) (.aH 0 (.loop zJ))) (.seq (.aO nO false [] [2]) .ret))))
def qJE : fO := ⟨52,1,[.t 2],cJE⟩
/- cohesion/cohesionref02.Valid -/
def ze : List O := [
 oo 4 <| .mv (.k (.bool false))]
def zd : List O := [
 oo 7 <| .mv (.t 0),
 oo 8 <| .len (.t 7),
 oo 9 <| .mv (ki 0)]
def zc : List O := [
 oo 10 <| .bin .lss (.t 9) (.t 8)]
def zb : List O := [
 oo 11 <| .mv (.t 9),
 oo 12 <| .gq 1 (.t 7) (.t 9),
 oo 13 <| .ld none (.t 12),
 oo 5 <| .mv (.t 11),
 oo 6 <| .mv (.t 13)]
def za : List O := [
 oo 14 <| .mv (.t 6),
 oo 15 <| .bin .lss (.t 14) (ki 0),
 oo 16 <| .mv (.t 15),
 ⟨(some 17),(some (16,false)),.mv (.t 6)⟩,
 ⟨(some 18),(some (16,false)),.mv (.t 1)⟩,
 ⟨(some 19),(some (16,false)),.bin .geq (.t 17) (.t 18)⟩,
 oo 20 <| .pick (.t 16) (.k (.bool true)) (.t 19),
 oo 21 <| .mv (.t 20),
 ⟨(some 22),(some (21,false)),.mv (.t 5)⟩,
 ⟨(some 23),(some (21,false)),.bin .gtr (.t 22) (ki 0)⟩,
 ⟨(some 24),(some (21,false)),.mv (.t 23)⟩,
 ⟨(some 25),(some (24,true)),.mv (.t 0)⟩,
 ⟨(some 26),(some (24,true)),.mv (.t 5)⟩,
 ⟨(some 27),(some (24,true)),.bin .sub (.t 26) (ki 1)⟩,
 ⟨(some 28),(some (24,true)),.gq 1 (.t 25) (.t 27)⟩,
 ⟨(some 29),(some (24,true)),.ld none (.t 28)⟩,
 ⟨(some 30),(some (24,true)),.mv (.t 6)⟩,
 ⟨(some 31),(some (24,true)),.bin .geq (.t 29) (.t 30)⟩,
 ⟨(some 32),(some (21,false)),.pick (.t 24) (.t 31) (.k (.bool false))⟩,
 oo 33 <| .pick (.t 21) (.k (.bool true)) (.t 32)]
def y9 : List O := [
 oo 4 <| .mv (.k (.bool false))]
def y8 : List O := [
 oo 34 <| .bin .add (.t 9) (ki 1),
 oo 9 <| .mv (.t 34)]
def BZ : C := (.seq (.aO zc false [] [0,1,7,8,9,10]) (.seq (.cond (.t 10) .skip (.exit 0)) (.seq (.aH 1 (.seq (.aO zb false [] [0,1,5,6,7,8,9]) (.seq (.aO za false [] [0,1,7,8,9,33]) (.cond (.t 33) (.seq (.aO y9 false [] [4]) .ret) .skip)))) (.aO y8 false [] [0,1,7,8,9]))))
def y7 : List O := [
 oo 4 <| .mv (.k (.bool true))]
def cJF : C := (.seq (.aO ze false [] [0,1]) (.seq (.seq (.aO zd false [] [0,1,7,8,9]) (.aH 0 (.loop BZ))) (.seq (.aO y7 false [] [4]) .ret)))
def qJF : fO := ⟨35,2,[.t 4],cJF⟩
/- cohesion/cohesionref02.Has -/
def H6 : List O := [
 oo 4 <| .mv (.k (.bool false))]
def H5 : List O := [
 oo 7 <| .mv (.t 0),
 oo 8 <| .len (.t 7),
 oo 9 <| .mv (ki 0)]
def HZ : List O := [
 oo 10 <| .bin .lss (.t 9) (.t 8)]
def HY : List O := [
 oo 11 <| .gq 1 (.t 7) (.t 9),
 oo 12 <| .ld none (.t 11),
 oo 6 <| .mv (.t 12)]
def HX : List O := [
 oo 13 <| .mv (.t 6),
 oo 14 <| .mv (.t 1),
 oo 15 <| .bin .eql (.t 13) (.t 14)]
def HV : List O := [
 oo 4 <| .mv (.k (.bool true))]
def HU : List O := [
 oo 16 <| .bin .add (.t 9) (ki 1),
 oo 9 <| .mv (.t 16)]
def MZ : C := (.seq (.aO HZ false [] [1,7,8,9,10]) (.seq (.cond (.t 10) .skip (.exit 0)) (.seq (.aH 1 (.seq (.aO HY false [] [1,6,7,8,9]) (.seq (.aO HX false [] [1,7,8,9,15]) (.cond (.t 15) (.seq (.aO HV false [] [4]) .ret) .skip)))) (.aO HU false [] [1,7,8,9]))))
def HT : List O := [
 oo 4 <| .mv (.k (.bool false))]
def cJG : C := (.seq (.aO H6 false [] [0,1]) (.seq (.seq (.aO H5 false [] [1,7,8,9]) (.aH 0 (.loop MZ))) (.seq (.aO HT false [] [4]) .ret)))
def qJG : fO := ⟨17,2,[.t 4],cJG⟩
/- cohesion/biclique.of -/
def RD : List O := [
 oo 1 <| .box (.t 0),
 oo 2 <| .new [(.own 1 []),(.int .u64 0),(.int .u64 0)]]
def RC : List O := [
 oo 6 <| .dt 0 (.t 1),
 oo 7 <| .dt 0 (.t 6),
 oo 8 <| .ld none (.t 7),
 oo 9 <| .MA 1 [(.int .u64 0)] (.t 8) (.t 8),
 oo 10 <| .dt 2 (.t 1),
 oo 11 <| .ld none (.t 10),
 oo 12 <| .call Um [(.t 11)],
 oo 13 <| .build [(.own 1 []),(.int .u64 0),(.int .u64 0)] [(0,1,(.t 9)),(1,1,(.t 12))],
 oo 3 <| .new [(.own 1 []),(.int .u64 0),(.int .u64 0)],
 oz <| .st 3 (.t 3) (.t 13)]
def RB : List O := [
 oo 14 <| .dt 0 (.t 1),
 oo 15 <| .dt 0 (.t 14),
 oo 16 <| .ld none (.t 15),
 oo 17 <| .bin .shl (.k (.int .u64 1)) (.t 16),
 oo 18 <| .bin .sub (.t 17) (.k (.int .u64 1)),
 oo 19 <| .dt 1 (.t 3),
 oo 20 <| .ld none (.t 19),
 oo 21 <| .bin .andNot (.t 18) (.t 20),
 oo 22 <| .dt 2 (.t 3),
 oz <| .st 1 (.t 22) (.t 21)]
def RA : List O := [
 oo 23 <| .dt 0 (.t 1),
 oo 24 <| .dt 1 (.t 23),
 oo 25 <| .ld none (.t 24),
 oo 26 <| .len (.t 25),
 oo 27 <| .mv (ki 0)]
def Rz : List O := [
 oo 28 <| .bin .lss (.t 27) (.t 26)]
def Ry : List O := [
 oo 29 <| .gq 2 (.t 25) (.t 27),
 oo 30 <| .ld (some 2) (.t 29),
 oo 5 <| .new [(.int .i64 0),(.int .i64 0)],
 oz <| .st 2 (.t 5) (.t 30)]
def Rx : List O := [
 oo 31 <| .dt 0 (.t 3),
 oo 32 <| .ld none (.t 31),
 oo 33 <| .dt 0 (.t 5),
 oo 34 <| .ld none (.t 33),
 oo 35 <| .gq 1 (.t 32) (.t 34),
 oo 36 <| .ld none (.t 35),
 oo 37 <| .dt 1 (.t 5),
 oo 38 <| .ld none (.t 37),
 oo 39 <| .bin .shl (.k (.int .u64 1)) (.t 38),
 oo 40 <| .bin .or (.t 36) (.t 39),
 oo 41 <| .gq 1 (.t 32) (.t 34),
 oz <| .st 1 (.t 41) (.t 40)]
def Rw : List O := [
 oo 42 <| .dt 0 (.t 3),
 oo 43 <| .ld none (.t 42),
 oo 44 <| .dt 1 (.t 5),
 oo 45 <| .ld none (.t 44),
 oo 46 <| .gq 1 (.t 43) (.t 45),
 oo 47 <| .ld none (.t 46),
 oo 48 <| .dt 0 (.t 5),
 oo 49 <| .ld none (.t 48),
 oo 50 <| .bin .shl (.k (.int .u64 1)) (.t 49),
 oo 51 <| .bin .or (.t 47) (.t 50),
 oo 52 <| .gq 1 (.t 43) (.t 45),
 oz <| .st 1 (.t 52) (.t 51)]
def Ru : List O := [
 oo 53 <| .bin .add (.t 27) (ki 1),
 oo 27 <| .mv (.t 53)]
def SF : C := (.seq (.aO Rz false [] [2,3,25,26,27,28]) (.seq (.cond (.t 28) .skip (.exit 0)) (.seq (.aH 1 (.seq (.aO Ry false [] [2,3,5,25,26,27]) (.seq (.aO Rx true [(9,9),(10,10),(11,11),(1,2),(0,3),(1,3),(1,6),(3,6),(5,6),(0,7),(1,7),(2,7),(3,7),(4,7),(5,7),(1,8),(3,8),(5,8)] [2,3,5,25,26,27]) (.aO Rw true [(9,9),(10,10),(11,11),(1,2),(0,3),(1,3),(1,6),(3,6),(5,6),(0,7),(1,7),(2,7),(3,7),(4,7),(5,7),(1,8),(3,8),(5,8)] [2,3,25,26,27])))) (.aO Ru false [] [2,3,25,26,27]))))
def Rs : List O := [
 oo 54 <| .ld (some 3) (.t 3),
 oz <| .st 3 (.t 2) (.t 54)]
def cJH : C := (.seq (.aO RD false [] [1,2]) (.seq (.aO RC true [(9,9),(2,4),(0,5),(1,5),(2,5),(3,5),(0,6),(1,6),(2,6),(3,6),(0,8),(1,8),(2,8),(3,8),(4,8),(5,8),(6,8),(7,8)] [1,2,3]) (.seq (.aO RB true [(7,7),(8,8),(9,9),(2,5),(0,6),(1,6),(2,6),(3,6),(4,6)] [1,2,3]) (.seq (.seq (.aO RA false [] [2,3,25,26,27]) (.aH 0 (.loop SF))) (.seq (.aO Rs false [] [2]) .ret)))))
def qJH : fO := ⟨55,1,[.c 2 (some 3)],cJH⟩
/- cohesion/biclique.Maximal$1 -/
def Wu : List O := [
 oo 5 <| .mv (.k (.bool false))]
def Wt : List O := [
 oo 6 <| .mv (.t 0),
 oo 7 <| .dt 0 (.t 2),
 oo 8 <| .dt 0 (.t 7),
 oo 9 <| .ld none (.t 8),
 oo 10 <| .call nJA [(.t 6),(.t 9)],
 oo 11 <| .mv (.t 10),
 ⟨(some 12),(some (11,true)),.mv (.t 0)⟩,
 ⟨(some 13),(some (11,true)),.call Um [(.t 12)]⟩,
 ⟨(some 14),(some (11,true)),.mv (.t 1)⟩,
 ⟨(some 15),(some (11,true)),.bin .andNot (.t 13) (.t 14)⟩,
 ⟨(some 16),(some (11,true)),.bin .eql (.t 15) (.k (.int .u64 0))⟩,
 oo 17 <| .pick (.t 11) (.t 16) (.k (.bool false)),
 oo 5 <| .mv (.t 17)]
def cJI : C := (.seq (.aO Wu false [] [0,1,2]) (.seq (.aO Wt false [] [5]) .ret))
def qJI : fO := ⟨18,2,[.t 5],cJI⟩
/- (cohesion/biclique.sides).onRight -/
def ab7 : List O := [
 oo 2 <| .box (.t 0),
 oo 4 <| .mv (.k (.int .u64 0))]
def ab6 : List O := [
 oo 5 <| .ld (some 3) (.t 2),
 oo 6 <| .dt 2 (.t 2),
 oo 7 <| .ld none (.t 6),
 oo 8 <| .mv (.t 1),
 oo 9 <| .call nJ3 [(.t 5),(.t 7),(.t 8)],
 oo 4 <| .mv (.t 9)]
def cJJ : C := (.seq (.aO ab7 false [] [1,2]) (.seq (.aO ab6 false [] [4]) .ret))
def qJJ : fO := ⟨10,2,[.t 4],cJJ⟩
/- (cohesion/biclique.sides).onLeft -/
def ab5 : List O := [
 oo 2 <| .box (.t 0),
 oo 4 <| .mv (.k (.int .u64 0))]
def ab4 : List O := [
 oo 5 <| .ld (some 3) (.t 2),
 oo 6 <| .dt 1 (.t 2),
 oo 7 <| .ld none (.t 6),
 oo 8 <| .mv (.t 1),
 oo 9 <| .call nJ3 [(.t 5),(.t 7),(.t 8)],
 oo 4 <| .mv (.t 9)]
def cJK : C := (.seq (.aO ab5 false [] [1,2]) (.seq (.aO ab4 false [] [4]) .ret))
def qJK : fO := ⟨10,2,[.t 4],cJK⟩
/- cohesion/cohesionref02.Of -/
def D9 : List O := [
 oo 2 <| .mv (.k (.own 1 []))]
def D8 : List O := [
 oo 3 <| .mv (.k (.own 1 []))]
def D7 : List O := [
 oo 6 <| .mv (.t 0),
 oo 7 <| .len (.t 6),
 oo 8 <| .mv (ki 0)]
def D6 : List O := [
 oo 9 <| .bin .lss (.t 8) (.t 7)]
def D5 : List O := [
 oo 10 <| .gq 1 (.t 6) (.t 8),
 oo 11 <| .ld none (.t 10),
 oo 5 <| .mv (.t 11)]
def D4 : List O := [
 oo 12 <| .mv (.t 3),
 oo 13 <| .mv (.t 5),
 oo 14 <| .call nJ4 [(.t 12),(.t 13)],
 oo 3 <| .mv (.t 14)]
def D3 : List O := [
 oo 15 <| .bin .add (.t 8) (ki 1),
 oo 8 <| .mv (.t 15)]
def Fl : C := (.seq (.aO D6 false [] [3,6,7,8,9]) (.seq (.cond (.t 9) .skip (.exit 0)) (.seq (.aH 1 (.seq (.aO D5 false [] [3,5,6,7,8]) (.aO D4 false [] [3,6,7,8]))) (.aO D3 false [] [3,6,7,8]))))
def D2 : List O := [
 oo 16 <| .mv (.t 3),
 oo 2 <| .mv (.t 16)]
def cJL : C := (.seq (.aO D9 false [] [0]) (.seq (.aO D8 false [] [0,3]) (.seq (.seq (.aO D7 false [] [3,6,7,8]) (.aH 0 (.loop Fl))) (.seq (.aO D2 false [] [2]) .ret))))
def qJL : fO := ⟨17,1,[.t 2],cJL⟩
/- cohesion/nodeset.Within -/
def Ws : List O := [
 oo 4 <| .mv (.k (.bool false))]
def Wr : List O := [
 oo 5 <| .mv (.t 0),
 oo 6 <| .mv (.t 1),
 oo 7 <| .call nJ5 [(.t 5),(.t 6)],
 oo 8 <| .len (.t 7),
 oo 9 <| .bin .eql (.t 8) (ki 0),
 oo 4 <| .mv (.t 9)]
def cJM : C := (.seq (.aO Ws false [] [0,1]) (.seq (.aO Wr false [] [4]) .ret))
def qJM : fO := ⟨10,2,[.t 4],cJM⟩
/- cohesion/biclique.list -/
def Rr : List O := [
 oo 2 <| .mv (.k (.own 1 []))]
def Rq : List O := [
 oo 3 <| .mv (.k (.own 1 []))]
def Rp : List O := [
 oo 4 <| .mv (.t 0),
 oo 5 <| .bin .neq (.t 4) (.k (.int .u64 0))]
def Ro : List O := [
 oo 10 <| .mv (.t 3),
 oo 11 <| .mv (.t 0),
 oo 12 <| .call nJ6 [(.t 11)],
 oo 13 <| .dh 1 1 [(.int .i64 0)] [(0,1,(.t 12))],
 oo 14 <| .app 1 (.t 10) (.t 13),
 oo 3 <| .mv (.t 14)]
def Rn : List O := [
 oo 6 <| .mv (.t 0),
 oo 7 <| .mv (.t 0),
 oo 8 <| .bin .sub (.t 7) (.k (.int .u64 1)),
 oo 9 <| .bin .and (.t 6) (.t 8),
 oo 0 <| .mv (.t 9)]
def SE : C := (.seq (.seq (.aO Rp false [] [0,3,5]) (.cond (.t 5) .skip (.exit 0))) (.seq (.aH 1 (.aO Ro false [] [0,3])) (.aO Rn false [] [0,3])))
def Rm : List O := [
 oo 15 <| .mv (.t 3),
 oo 2 <| .mv (.t 15)]
def cJN : C := (.seq (.aO Rr false [] [0]) (.seq (.aO Rq false [] [0,3]) (.seq (.aH 0 (.loop SE)) (.seq (.aO Rm false [] [2]) .ret))))
def qJN : fO := ⟨16,1,[.t 2],cJN⟩
/- cohesion/cohesionref02.Within -/
def HS : List O := [
 oo 4 <| .mv (.k (.bool false))]
def HR : List O := [
 oo 7 <| .mv (.t 0),
 oo 8 <| .len (.t 7),
 oo 9 <| .mv (ki 0)]
def HQ : List O := [
 oo 10 <| .bin .lss (.t 9) (.t 8)]
def HP : List O := [
 oo 11 <| .gq 1 (.t 7) (.t 9),
 oo 12 <| .ld none (.t 11),
 oo 6 <| .mv (.t 12)]
def HO : List O := [
 oo 13 <| .mv (.t 1),
 oo 14 <| .mv (.t 6),
 oo 15 <| .call Xb [(.t 13),(.t 14)],
 oo 16 <| .un .not (.t 15)]
def HN : List O := [
 oo 4 <| .mv (.k (.bool false))]
def HM : List O := [
 oo 17 <| .bin .add (.t 9) (ki 1),
 oo 9 <| .mv (.t 17)]
def MY : C := (.seq (.aO HQ false [] [1,7,8,9,10]) (.seq (.cond (.t 10) .skip (.exit 0)) (.seq (.aH 1 (.seq (.aO HP false [] [1,6,7,8,9]) (.seq (.aO HO false [] [1,7,8,9,16]) (.cond (.t 16) (.seq (.aO HN false [] [4]) .ret) .skip)))) (.aO HM false [] [1,7,8,9]))))
def HK : List O := [
 oo 4 <| .mv (.k (.bool true))]
def cJO : C := (.seq (.aO HS false [] [0,1]) (.seq (.seq (.aO HR false [] [1,7,8,9]) (.aH 0 (.loop MY))) (.seq (.aO HK false [] [4]) .ret)))
def qJO : fO := ⟨18,2,[.t 4],cJO⟩
/- cohesion/cohesionref27.common -/
def y6 : List O := [
 oo 3 <| .box (.t 0),
 oo 6 <| .mv (.k (.own 1 []))]
def y5 : List O := [
 oo 7 <| .mv (.k (.own 1 []))]
def yZ : List O := [
 oo 8 <| .mv (ki 0)]
def yY : List O := [
 oo 11 <| .mv (.t 8),
 oo 12 <| .mv (.t 1),
 oo 13 <| .len (.t 12),
 oo 14 <| .bin .lss (.t 11) (.t 13)]
def yX : List O := [
 oo 9 <| .mv (.k (.bool true))]
def yW : List O := [
 oo 10 <| .mv (ki 0)]
def yV : List O := [
 oo 17 <| .mv (.t 10),
 oo 18 <| .mv (.t 2),
 oo 19 <| .len (.t 18),
 oo 20 <| .bin .lss (.t 17) (.t 19)]
def yU : List O := [
 oo 23 <| .mv (.t 9),
 oo 24 <| .mv (.t 23),
 ⟨(some 25),(some (24,true)),.ld (some 2) (.t 3)⟩,
 ⟨(some 26),(some (24,true)),.mv (.t 1)⟩,
 ⟨(some 27),(some (24,true)),.mv (.t 8)⟩,
 ⟨(some 28),(some (24,true)),.gq 1 (.t 26) (.t 27)⟩,
 ⟨(some 29),(some (24,true)),.ld none (.t 28)⟩,
 ⟨(some 30),(some (24,true)),.mv (.t 2)⟩,
 ⟨(some 31),(some (24,true)),.mv (.t 10)⟩,
 ⟨(some 32),(some (24,true)),.gq 1 (.t 30) (.t 31)⟩,
 ⟨(some 33),(some (24,true)),.ld none (.t 32)⟩,
 ⟨(some 34),(some (24,true)),.call nJ7 [(.t 25),(.t 29),(.t 33)]⟩,
 ⟨(some 35),(some (24,true)),.bin .geq (.t 34) (ki 0)⟩,
 oo 36 <| .pick (.t 24) (.t 35) (.k (.bool false)),
 oo 9 <| .mv (.t 36)]
def yT : List O := [
 oo 21 <| .mv (.t 10),
 oo 22 <| .bin .add (.t 21) (ki 1),
 oo 10 <| .mv (.t 22)]
def Iv : C := (.seq (.seq (.aO yV false [] [1,2,3,7,8,9,10,20]) (.cond (.t 20) .skip (.exit 2))) (.seq (.aH 3 (.aO yU true [(0,0),(1,1),(11,11),(12,12),(13,13),(14,14),(2,3),(2,4),(2,5),(2,6),(2,7),(6,7),(2,8),(6,8),(2,9),(6,9),(2,10),(3,10),(4,10),(5,10),(6,10)] [1,2,3,7,8,9,10])) (.aO yT false [] [1,2,3,7,8,9,10])))
def yS : List O := [
 oo 37 <| .mv (.t 9)]
def sN : List O := [
 oo 38 <| .mv (.t 7),
 oo 39 <| .mv (.t 1),
 oo 40 <| .mv (.t 8),
 oo 41 <| .gq 1 (.t 39) (.t 40),
 oo 42 <| .ld none (.t 41),
 oo 43 <| .dh 1 1 [(.int .i64 0)] [(0,1,(.t 42))],
 oo 44 <| .app 1 (.t 38) (.t 43),
 oo 7 <| .mv (.t 44)]
def sM : List O := [
 oo 15 <| .mv (.t 8),
 oo 16 <| .bin .add (.t 15) (ki 1),
 oo 8 <| .mv (.t 16)]
def MX : C := (.seq (.seq (.aO yY false [] [1,2,3,7,8,14]) (.cond (.t 14) .skip (.exit 0))) (.seq (.aH 1 (.seq (.aO yX false [] [1,2,3,7,8,9]) (.seq (.seq (.aO yW false [] [1,2,3,7,8,9,10]) (.aH 2 (.loop Iv))) (.seq (.aO yS false [] [1,2,3,7,8,37]) (.cond (.t 37) (.aO sN false [] [1,2,3,7,8]) .skip))))) (.aO sM false [] [1,2,3,7,8])))
def sL : List O := [
 oo 45 <| .mv (.t 7),
 oo 6 <| .mv (.t 45)]
def cJP : C := (.seq (.aO y6 false [] [1,2,3]) (.seq (.aO y5 false [] [1,2,3,7]) (.seq (.seq (.aO yZ false [] [1,2,3,7,8]) (.aH 0 (.loop MX))) (.seq (.aO sL false [] [6]) .ret))))
def qJP : fO := ⟨46,3,[.t 6],cJP⟩
/- cohesion/cohesionref27.right -/
def ab3 : List O := [
 oo 1 <| .box (.t 0),
 oo 2 <| .mv (.k (.own 1 []))]
def ab2 : List O := [
 oo 3 <| .dt 0 (.t 1),
 oo 4 <| .dt 0 (.t 3),
 oo 5 <| .ld none (.t 4),
 oo 6 <| .call nJ9 [(.t 5)],
 oo 7 <| .dt 2 (.t 1),
 oo 8 <| .ld none (.t 7),
 oo 9 <| .call nJ8 [(.t 6),(.t 8)],
 oo 2 <| .mv (.t 9)]
def cJQ : C := (.seq (.aO ab3 false [] [1]) (.seq (.aO ab2 true [(6,6),(7,7),(2,4),(3,4),(0,5),(1,5),(2,5),(3,5)] [2]) .ret))
def qJQ : fO := ⟨10,1,[.t 2],cJQ⟩
/- (cohesion/biclique.sides).each -/
def ab1 : List O := [
 oo 3 <| .box (.t 0),
 oo 4 <| .box (.t 1),
 oo 5 <| .box (.t 2)]
def ab0 : List O := [
 oo 6 <| .new [(.own 1 [])]]
def abZ : List O := [
 oo 7 <| .new [.eV]]
def abY : List O := [
 oo 8 <| .GC (.func E6) [] [(.t 3),(.t 6),(.t 4),(.t 5),(.t 7)],
 oz <| .st 1 (.t 7) (.t 8)]
def abX : List O := [
 oo 9 <| .ld none (.t 7),
 oo 10 <| .dt 2 (.t 3),
 oo 11 <| .ld none (.t 10),
 oo 12 <| .gw (.t 9) [(.t 11),(.k (.bool true))]]
def cJR : C := (.seq (.aO ab1 false [] [3,4,5]) (.seq (.aO ab0 false [] [3,4,5,6]) (.seq (.aO abZ false [] [3,4,5,6,7]) (.seq (.aO abY false [] [3,7]) (.aO abX false [] [])))))
def qJR : fO := ⟨13,3,[],cJR⟩
/- cohesion/biclique.Next$1 -/
def abW : List O := [
 oo 2 <| .box (.t 0),
 oo 3 <| .mv (.k (.bool false))]
def abV : List O := [
 oo 4 <| .ld (some 2) (.t 2),
 oz <| .st 2 (.t 1) (.t 4)]
def abU : List O := [
 oo 3 <| .mv (.k (.bool false))]
def cJS : C := (.seq (.aO abW false [] [1,2]) (.seq (.aO abV false [] []) (.seq (.aO abU false [] [3]) .ret)))
def qJS : fO := ⟨5,1,[.t 3],cJS⟩
/- cohesion/cohesionref27.List -/
def yR : List O := [
 oo 1 <| .box (.t 0),
 oo 2 <| .mv (.k (.own 2 []))]
def yQ : List O := [
 oo 3 <| .mv (.k (.own 2 []))]
def yP : List O := [
 oo 11 <| .dh 1 1 [(.own 1 [])] [(0,1,(.k (.own 1 [])))],
 oo 4 <| .mv (.t 11)]
def yO : List O := [
 oo 5 <| .mv (ki 0)]
def yN : List O := [
 oo 12 <| .mv (.t 5),
 oo 13 <| .dt 2 (.t 1),
 oo 14 <| .ld none (.t 13),
 oo 15 <| .len (.t 14),
 oo 16 <| .bin .lss (.t 12) (.t 15)]
def yM : List O := [
 oo 19 <| .mv (.t 4),
 oo 20 <| .len (.t 19),
 oo 6 <| .mv (.t 20)]
def yL : List O := [
 oo 7 <| .mv (ki 0)]
def yK : List O := [
 oo 21 <| .mv (.t 7),
 oo 22 <| .mv (.t 6),
 oo 23 <| .bin .lss (.t 21) (.t 22)]
def yJ : List O := [
 oo 26 <| .mv (.t 4),
 oo 27 <| .mv (.t 4),
 oo 28 <| .mv (.t 7),
 oo 29 <| .gq 1 (.t 27) (.t 28),
 oo 30 <| .ld none (.t 29),
 oo 31 <| .app 1 (.k (.own 1 [])) (.t 30),
 oo 32 <| .dt 2 (.t 1),
 oo 33 <| .ld none (.t 32),
 oo 34 <| .mv (.t 5),
 oo 35 <| .gq 1 (.t 33) (.t 34),
 oo 36 <| .ld none (.t 35),
 oo 37 <| .dh 1 1 [(.int .i64 0)] [(0,1,(.t 36))],
 oo 38 <| .app 1 (.t 31) (.t 37),
 oo 39 <| .dh 1 1 [(.own 1 [])] [(0,1,(.t 38))],
 oo 40 <| .app 1 (.t 26) (.t 39),
 oo 4 <| .mv (.t 40)]
def yI : List O := [
 oo 24 <| .mv (.t 7),
 oo 25 <| .bin .add (.t 24) (ki 1),
 oo 7 <| .mv (.t 25)]
def MW : C := (.seq (.seq (.aO yK false [] [1,3,4,5,6,7,23]) (.cond (.t 23) .skip (.exit 2))) (.seq (.aH 3 (.aO yJ true [(14,14),(15,15),(0,4),(0,5),(4,6),(5,6),(0,7),(1,7),(2,7),(3,7),(4,7),(5,7),(4,8),(5,8),(7,8),(4,9),(5,9),(0,10),(1,10),(2,10),(3,10),(4,10),(5,10),(0,11),(1,11),(2,11),(3,11),(4,11),(5,11),(0,12),(0,13)] [1,3,4,5,6,7])) (.aO yI false [] [1,3,4,5,6,7])))
def sK : List O := [
 oo 17 <| .mv (.t 5),
 oo 18 <| .bin .add (.t 17) (ki 1),
 oo 5 <| .mv (.t 18)]
def SD : C := (.seq (.seq (.aO yN false [] [1,3,4,5,16]) (.cond (.t 16) .skip (.exit 0))) (.seq (.aH 1 (.seq (.aO yM false [] [1,3,4,5,6]) (.seq (.aO yL false [] [1,3,4,5,6,7]) (.aH 2 (.loop MW))))) (.aO sK false [] [1,3,4,5])))
def sJ : List O := [
 oo 8 <| .mv (ki 0)]
def sI : List O := [
 oo 41 <| .mv (.t 8),
 oo 42 <| .mv (.t 4),
 oo 43 <| .len (.t 42),
 oo 44 <| .bin .lss (.t 41) (.t 43)]
def sG : List O := [
 oo 48 <| .ld (some 3) (.t 1),
 oo 49 <| .mv (.t 4),
 oo 50 <| .mv (.t 8),
 oo 51 <| .gq 1 (.t 49) (.t 50),
 oo 52 <| .ld none (.t 51),
 oo 53 <| .call Vv [(.t 48),(.t 52)],
 oo 47 <| .mv (.t 53),
 oo 54 <| .ext 0 (.t 47),
 oo 55 <| .ext 1 (.t 47),
 oo 9 <| .new [(.own 1 []),(.own 1 [])],
 oz <| .st 2 (.t 9) (.t 54),
 oo 10 <| .mv (.t 55)]
def sF : List O := [
 oo 56 <| .ld (some 3) (.t 1),
 oo 57 <| .ld (some 2) (.t 9),
 oo 58 <| .call W7 [(.t 56),(.t 57)]]
def sE : List O := [
 oo 59 <| .mv (.t 3),
 oo 60 <| .ld (some 2) (.t 9),
 oo 61 <| .call Pu [(.t 59),(.t 60)],
 oo 3 <| .mv (.t 61)]
def sD : List O := [
 oo 45 <| .mv (.t 8),
 oo 46 <| .bin .add (.t 45) (ki 1),
 oo 8 <| .mv (.t 46)]
def Iu : C := (.seq (.seq (.aO sI false [] [1,3,4,8,44]) (.cond (.t 44) .skip (.exit 4))) (.seq (.aH 5 (.seq (.aO sG true [(11,11),(0,1),(0,2),(0,3),(0,4),(0,9),(1,9),(2,9),(3,9),(4,9),(5,9),(6,9),(7,9),(8,9),(8,10)] [1,3,4,8,9]) (.seq (.aO sF false [] [1,3,4,8,9,58]) (.cond (.t 58) (.aO sE false [] [1,3,4,8]) .skip)))) (.aO sD false [] [1,3,4,8])))
def sC : List O := [
 oo 62 <| .mv (.t 3),
 oo 2 <| .mv (.t 62)]
def cJT : C := (.seq (.aO yR false [] [1]) (.seq (.aO yQ false [] [1,3]) (.seq (.aO yP false [] [1,3,4]) (.seq (.seq (.aO yO false [] [1,3,4,5]) (.aH 0 (.loop SD))) (.seq (.seq (.aO sJ false [] [1,3,4,8]) (.aH 4 (.loop Iu))) (.seq (.aO sC false [] [2]) .ret))))))
def qJT : fO := ⟨63,1,[.t 2],cJT⟩
/- cohesion/cohesionmake.Mod -/
def abT : List O := [
 oo 4 <| .mv (ki 0)]
def abS : List O := [
 oo 5 <| .mv (.t 0),
 oo 6 <| .mv (.t 1),
 oo 7 <| .bin .rem (.t 5) (.t 6),
 oo 8 <| .mv (.t 1),
 oo 9 <| .bin .add (.t 7) (.t 8),
 oo 10 <| .mv (.t 1),
 oo 11 <| .bin .rem (.t 9) (.t 10),
 oo 4 <| .mv (.t 11)]
def cJU : C := (.seq (.aO abT false [] [0,1]) (.seq (.aO abS false [] [4]) .ret))
def qJU : fO := ⟨12,2,[.t 4],cJU⟩
/- cohesion/biclique.All$1 -/
def abR : List O := [
 oo 3 <| .box (.t 0),
 oo 4 <| .mv (.k (.bool false))]
def abQ : List O := [
 oo 5 <| .ld none (.t 1),
 oo 6 <| .ld (some 2) (.t 3),
 oo 7 <| .dh 2 1 [(.own 1 []),(.own 1 [])] [(0,2,(.t 6))],
 oo 8 <| .app 2 (.t 5) (.t 7),
 oz <| .st 1 (.t 1) (.t 8)]
def abP : List O := [
 oo 9 <| .ld none (.t 1),
 oo 10 <| .len (.t 9),
 oo 11 <| .ld none (.t 2),
 oo 12 <| .bin .leq (.t 10) (.t 11),
 oo 4 <| .mv (.t 12)]
def cJV : C := (.seq (.aO abR false [] [1,2,3]) (.seq (.aO abQ false [] [1,2]) (.seq (.aO abP false [] [4]) .ret)))
def qJV : fO := ⟨13,1,[.t 4],cJV⟩
/- cohesion/biclique.Best$1 -/
def LI : List O := [
 oo 2 <| .box (.t 0),
 oo 3 <| .mv (.k (.bool false))]
def LH : List O := [
 oo 4 <| .dt 0 (.t 2),
 oo 5 <| .ld none (.t 4),
 oo 6 <| .len (.t 5),
 oo 7 <| .dt 1 (.t 2),
 oo 8 <| .ld none (.t 7),
 oo 9 <| .len (.t 8),
 oo 10 <| .bin .mul (.t 6) (.t 9),
 oo 11 <| .dt 0 (.t 1),
 oo 12 <| .ld none (.t 11),
 oo 13 <| .len (.t 12),
 oo 14 <| .dt 1 (.t 1),
 oo 15 <| .ld none (.t 14),
 oo 16 <| .len (.t 15),
 oo 17 <| .bin .mul (.t 13) (.t 16),
 oo 18 <| .bin .gtr (.t 10) (.t 17)]
def LG : List O := [
 oo 19 <| .ld (some 2) (.t 2),
 oz <| .st 2 (.t 1) (.t 19)]
def LF : List O := [
 oo 3 <| .mv (.k (.bool true))]
def cJW : C := (.seq (.aO LI false [] [1,2]) (.seq (.seq (.aO LH false [] [1,2,18]) (.cond (.t 18) (.aO LG false [] []) .skip)) (.seq (.aO LF false [] [3]) .ret)))
def qJW : fO := ⟨20,1,[.t 3],cJW⟩
/- cohesion/cohesionref03.ends -/
def DZ : List O := [
 oo 6 <| .mv (.k (.bool false))]
def DY : List O := [
 oo 7 <| .mv (.t 1),
 oo 8 <| .bin .geq (.t 7) (ki 0),
 oo 9 <| .mv (.t 8),
 ⟨(some 10),(some (9,true)),.mv (.t 2)⟩,
 ⟨(some 11),(some (9,true)),.bin .geq (.t 10) (ki 0)⟩,
 oo 12 <| .pick (.t 9) (.t 11) (.k (.bool false)),
 oo 13 <| .mv (.t 12),
 ⟨(some 14),(some (13,true)),.mv (.t 1)⟩,
 ⟨(some 15),(some (13,true)),.mv (.t 0)⟩,
 ⟨(some 16),(some (13,true)),.bin .lss (.t 14) (.t 15)⟩,
 oo 17 <| .pick (.t 13) (.t 16) (.k (.bool false)),
 oo 18 <| .mv (.t 17),
 ⟨(some 19),(some (18,true)),.mv (.t 2)⟩,
 ⟨(some 20),(some (18,true)),.mv (.t 0)⟩,
 ⟨(some 21),(some (18,true)),.bin .lss (.t 19) (.t 20)⟩,
 oo 22 <| .pick (.t 18) (.t 21) (.k (.bool false)),
 oo 23 <| .mv (.t 22),
 ⟨(some 24),(some (23,true)),.mv (.t 1)⟩,
 ⟨(some 25),(some (23,true)),.mv (.t 2)⟩,
 ⟨(some 26),(some (23,true)),.bin .neq (.t 24) (.t 25)⟩,
 oo 27 <| .pick (.t 23) (.t 26) (.k (.bool false)),
 oo 6 <| .mv (.t 27)]
def cJX : C := (.seq (.aO DZ false [] [0,1,2]) (.seq (.aO DY false [] [6]) .ret))
def qJX : fO := ⟨28,3,[.t 6],cJX⟩
/- cohesion/cohesionref03.with -/
def BO : List O := [
 oo 3 <| .box (.t 1),
 oo 4 <| .mv (.k (.own 2 []))]
def BN : List O := [
 oo 5 <| .mv (ki 0)]
def BM : List O := [
 oo 7 <| .mv (.t 5),
 oo 8 <| .mv (.t 0),
 oo 9 <| .len (.t 8),
 oo 10 <| .bin .lss (.t 7) (.t 9),
 oo 11 <| .mv (.t 10),
 ⟨(some 12),(some (11,true)),.mv (.t 0)⟩,
 ⟨(some 13),(some (11,true)),.mv (.t 5)⟩,
 ⟨(some 14),(some (11,true)),.gq 2 (.t 12) (.t 13)⟩,
 ⟨(some 15),(some (11,true)),.ld (some 2) (.t 14)⟩,
 ⟨(some 16),(some (11,true)),.ld (some 2) (.t 3)⟩,
 ⟨(some 17),(some (11,true)),.call nJ2 [(.t 15),(.t 16)]⟩,
 oo 18 <| .pick (.t 11) (.t 17) (.k (.bool false))]
def BL : List O := [
 oo 19 <| .mv (.t 5),
 oo 20 <| .bin .add (.t 19) (ki 1),
 oo 5 <| .mv (.t 20)]
def MV : C := (.seq (.seq (.aO BM true [(3,3),(4,4),(10,10),(11,11),(5,9),(6,9),(7,9),(8,9)] [0,3,5,18]) (.cond (.t 18) .skip (.exit 0))) (.aH 1 (.aO BL false [] [0,3,5])))
def BK : List O := [
 oo 21 <| .mv (.t 5),
 oo 22 <| .mv (.t 0),
 oo 23 <| .len (.t 22),
 oo 24 <| .bin .lss (.t 21) (.t 23),
 oo 25 <| .mv (.t 24),
 ⟨(some 26),(some (25,true)),.mv (.t 0)⟩,
 ⟨(some 27),(some (25,true)),.mv (.t 5)⟩,
 ⟨(some 28),(some (25,true)),.gq 2 (.t 26) (.t 27)⟩,
 ⟨(some 29),(some (25,true)),.ld (some 2) (.t 28)⟩,
 ⟨(some 30),(some (25,true)),.ld (some 2) (.t 3)⟩,
 ⟨(some 31),(some (25,true)),.eq false (.str [true,true]) (.t 29) (.t 30)⟩,
 oo 32 <| .pick (.t 25) (.t 31) (.k (.bool false))]
def BJ : List O := [
 oo 33 <| .mv (.t 0),
 oo 4 <| .mv (.t 33)]
def BI : List O := [
 oo 34 <| .mv (.t 0),
 oo 35 <| .mv (.t 5),
 oo 36 <| .Av 2 (.t 34) none (some (.t 35)),
 oo 37 <| .app 2 (.k (.own 2 [])) (.t 36),
 oo 6 <| .mv (.t 37)]
def BH : List O := [
 oo 38 <| .mv (.t 6),
 oo 39 <| .ld (some 2) (.t 3),
 oo 40 <| .dh 2 1 [(.int .i64 0),(.int .i64 0)] [(0,2,(.t 39))],
 oo 41 <| .app 2 (.t 38) (.t 40),
 oo 42 <| .mv (.t 0),
 oo 43 <| .mv (.t 5),
 oo 44 <| .Av 2 (.t 42) (some (.t 43)) none,
 oo 45 <| .app 2 (.t 41) (.t 44),
 oo 4 <| .mv (.t 45)]
def cJY : C := (.seq (.aO BO false [] [0,3]) (.seq (.aO BN false [] [0,3,5]) (.seq (.aH 0 (.loop MV)) (.seq (.seq (.aO BK true [(3,3),(4,4),(10,10),(11,11),(5,9),(6,9),(7,9),(8,9)] [0,3,5,32]) (.cond (.t 32) (.seq (.aO BJ false [] [4]) .ret) .skip)) (.seq (.aO BI false [] [0,3,5,6]) (.seq (.aO BH true [(7,7),(8,8),(0,1),(0,2),(1,4),(2,4),(3,4),(1,5),(2,5),(3,5),(1,6),(2,6),(3,6)] [4]) .ret))))))
def qJY : fO := ⟨46,2,[.t 4],cJY⟩
/- cohesion/cohesionref03.edge -/
def abO : List O := [
 oo 4 <| .new [(.int .i64 0),(.int .i64 0)]]
def abN : List O := [
 oo 5 <| .mv (.t 0),
 oo 6 <| .mv (.t 1),
 oo 7 <| .min [(.t 5),(.t 6)],
 oo 8 <| .mv (.t 0),
 oo 9 <| .mv (.t 1),
 oo 10 <| .max [(.t 8),(.t 9)],
 oo 11 <| .build [(.int .i64 0),(.int .i64 0)] [(0,1,(.t 7)),(1,1,(.t 10))],
 oz <| .st 2 (.t 4) (.t 11)]
def cJZ : C := (.seq (.aO abO false [] [0,1,4]) (.seq (.aO abN false [] [4]) .ret))
def qJZ : fO := ⟨12,2,[.c 4 (some 2)],cJZ⟩
/- cohesion/graph.Order -/
def acb : List O := [
 oo 2 <| .box (.t 0),
 oo 3 <| .box (.t 1),
 oo 4 <| .mv (ki 0)]
def aca : List O := [
 oo 5 <| .dt 0 (.t 2),
 oo 6 <| .ld none (.t 5),
 oo 7 <| .dt 0 (.t 3),
 oo 8 <| .ld none (.t 7),
 oo 9 <| .call Mu [(.t 6),(.t 8)],
 oo 10 <| .dt 1 (.t 2),
 oo 11 <| .ld none (.t 10),
 oo 12 <| .dt 1 (.t 3),
 oo 13 <| .ld none (.t 12),
 oo 14 <| .call Mu [(.t 11),(.t 13)],
 oo 15 <| .dh 1 2 [(.int .i64 0)] [(0,1,(.t 9)),(1,1,(.t 14))],
 oo 16 <| .call Pt [(.t 15)],
 oo 4 <| .mv (.t 16)]
def cJ0 : C := (.seq (.aO acb false [] [2,3]) (.seq (.aO aca true [(9,9),(10,10),(11,11),(12,12),(1,2),(0,3),(1,3),(1,5),(3,5),(4,5),(0,6),(1,6),(2,6),(3,6),(4,6),(1,7),(3,7),(4,7),(6,7),(0,8),(1,8),(2,8),(3,8),(4,8),(5,8),(6,8)] [4]) .ret))
def qJ0 : fO := ⟨17,2,[.t 4],cJ0⟩
/- slices.IndexFunc[[]cohesion/api.Edge,cohesion/api.Edge] -/
def EF : List O := [
 oo 4 <| .mv (ki 0)]
def EE : List O := [
 oo 6 <| .mv (.t 0),
 oo 7 <| .len (.t 6),
 oo 8 <| .mv (ki 0)]
def ED : List O := [
 oo 9 <| .bin .lss (.t 8) (.t 7)]
def EC : List O := [
 oo 10 <| .mv (.t 8),
 oo 5 <| .mv (.t 10)]
def EB : List O := [
 oo 11 <| .mv (.t 1),
 oo 12 <| .mv (.t 0),
 oo 13 <| .mv (.t 5),
 oo 14 <| .gq 2 (.t 12) (.t 13),
 oo 15 <| .ld (some 2) (.t 14),
 oo 16 <| .gw (.t 11) [(.t 15)]]
def EA : List O := [
 oo 17 <| .mv (.t 5),
 oo 4 <| .mv (.t 17)]
def Ez : List O := [
 oo 18 <| .bin .add (.t 8) (ki 1),
 oo 8 <| .mv (.t 18)]
def Fm : C := (.seq (.aO ED false [] [0,1,7,8,9]) (.seq (.cond (.t 9) .skip (.exit 0)) (.seq (.aH 1 (.seq (.aO EC false [] [0,1,5,7,8]) (.seq (.aO EB false [] [0,1,5,7,8,16]) (.cond (.t 16) (.seq (.aO EA false [] [4]) .ret) .skip)))) (.aO Ez false [] [0,1,7,8]))))
def Ey : List O := [
 oo 4 <| .mv (.k (.int .i64 (-1)))]
def cJ1 : C := (.seq (.aO EF false [] [0,1]) (.seq (.seq (.aO EE false [] [0,1,7,8]) (.aH 0 (.loop Fm))) (.seq (.aO Ey false [] [4]) .ret)))
def qJ1 : fO := ⟨19,2,[.t 4],cJ1⟩
/- cohesion/cohesionref03.Before -/
def Ma : List O := [
 oo 2 <| .box (.t 0),
 oo 3 <| .box (.t 1),
 oo 4 <| .mv (.k (.bool false))]
def L9 : List O := [
 oo 5 <| .dt 0 (.t 2),
 oo 6 <| .ld none (.t 5),
 oo 7 <| .dt 0 (.t 3),
 oo 8 <| .ld none (.t 7),
 oo 9 <| .bin .lss (.t 6) (.t 8),
 oo 10 <| .mv (.t 9),
 ⟨(some 11),(some (10,false)),.dt 0 (.t 2)⟩,
 ⟨(some 12),(some (10,false)),.ld none (.t 11)⟩,
 ⟨(some 13),(some (10,false)),.dt 0 (.t 3)⟩,
 ⟨(some 14),(some (10,false)),.ld none (.t 13)⟩,
 ⟨(some 15),(some (10,false)),.bin .eql (.t 12) (.t 14)⟩,
 ⟨(some 16),(some (10,false)),.mv (.t 15)⟩,
 ⟨(some 17),(some (16,true)),.dt 1 (.t 2)⟩,
 ⟨(some 18),(some (16,true)),.ld none (.t 17)⟩,
 ⟨(some 19),(some (16,true)),.dt 1 (.t 3)⟩,
 ⟨(some 20),(some (16,true)),.ld none (.t 19)⟩,
 ⟨(some 21),(some (16,true)),.bin .lss (.t 18) (.t 20)⟩,
 ⟨(some 22),(some (10,false)),.pick (.t 16) (.t 21) (.k (.bool false))⟩,
 oo 23 <| .pick (.t 10) (.k (.bool true)) (.t 22),
 oo 4 <| .mv (.t 23)]
def cJ2 : C := (.seq (.aO Ma false [] [2,3]) (.seq (.aO L9 false [] [4]) .ret))
def qJ2 : fO := ⟨24,2,[.t 4],cJ2⟩
/- (cohesion/biclique.sides).common -/
def RQ : List O := [
 oo 3 <| .box (.t 0),
 oo 6 <| .mv (.k (.int .u64 0))]
def RP : List O := [
 oo 7 <| .mv (.t 2),
 oo 8 <| .bin .neq (.t 7) (.k (.int .u64 0))]
def RO : List O := [
 oo 13 <| .mv (.t 1),
 oo 14 <| .dt 0 (.t 3),
 oo 15 <| .ld none (.t 14),
 oo 16 <| .mv (.t 2),
 oo 17 <| .call nJ6 [(.t 16)],
 oo 18 <| .gq 1 (.t 15) (.t 17),
 oo 19 <| .ld none (.t 18),
 oo 20 <| .bin .and (.t 13) (.t 19),
 oo 1 <| .mv (.t 20)]
def RN : List O := [
 oo 9 <| .mv (.t 2),
 oo 10 <| .mv (.t 2),
 oo 11 <| .bin .sub (.t 10) (.k (.int .u64 1)),
 oo 12 <| .bin .and (.t 9) (.t 11),
 oo 2 <| .mv (.t 12)]
def SH : C := (.seq (.seq (.aO RP false [] [1,2,3,8]) (.cond (.t 8) .skip (.exit 0))) (.seq (.aH 1 (.aO RO true [(7,7),(8,8),(0,2),(2,3),(0,4),(1,4),(2,4),(0,6)] [1,2,3])) (.aO RN false [] [1,2,3])))
def RM : List O := [
 oo 21 <| .mv (.t 1),
 oo 6 <| .mv (.t 21)]
def cJ3 : C := (.seq (.aO RQ false [] [1,2,3]) (.seq (.aH 0 (.loop SH)) (.seq (.aO RM false [] [6]) .ret)))
def qJ3 : fO := ⟨22,3,[.t 6],cJ3⟩
/- cohesion/cohesionref02.put -/
def Ew : List O := [
 oo 4 <| .mv (.k (.own 1 []))]
def Eu : List O := [
 oo 5 <| .mv (ki 0)]
def Er : List O := [
 oo 7 <| .mv (.t 5),
 oo 8 <| .mv (.t 0),
 oo 9 <| .len (.t 8),
 oo 10 <| .bin .lss (.t 7) (.t 9),
 oo 11 <| .mv (.t 10),
 ⟨(some 12),(some (11,true)),.mv (.t 0)⟩,
 ⟨(some 13),(some (11,true)),.mv (.t 5)⟩,
 ⟨(some 14),(some (11,true)),.gq 1 (.t 12) (.t 13)⟩,
 ⟨(some 15),(some (11,true)),.ld none (.t 14)⟩,
 ⟨(some 16),(some (11,true)),.mv (.t 1)⟩,
 ⟨(some 17),(some (11,true)),.bin .lss (.t 15) (.t 16)⟩,
 oo 18 <| .pick (.t 11) (.t 17) (.k (.bool false))]
def Ep : List O := [
 oo 19 <| .mv (.t 5),
 oo 20 <| .bin .add (.t 19) (ki 1),
 oo 5 <| .mv (.t 20)]
def M4 : C := (.seq (.seq (.aO Er false [] [0,1,5,18]) (.cond (.t 18) .skip (.exit 0))) (.aH 1 (.aO Ep false [] [0,1,5])))
def Eo : List O := [
 oo 21 <| .mv (.t 5),
 oo 22 <| .mv (.t 0),
 oo 23 <| .len (.t 22),
 oo 24 <| .bin .lss (.t 21) (.t 23),
 oo 25 <| .mv (.t 24),
 ⟨(some 26),(some (25,true)),.mv (.t 0)⟩,
 ⟨(some 27),(some (25,true)),.mv (.t 5)⟩,
 ⟨(some 28),(some (25,true)),.gq 1 (.t 26) (.t 27)⟩,
 ⟨(some 29),(some (25,true)),.ld none (.t 28)⟩,
 ⟨(some 30),(some (25,true)),.mv (.t 1)⟩,
 ⟨(some 31),(some (25,true)),.bin .eql (.t 29) (.t 30)⟩,
 oo 32 <| .pick (.t 25) (.t 31) (.k (.bool false))]
def En : List O := [
 oo 33 <| .mv (.t 0),
 oo 4 <| .mv (.t 33)]
def Em : List O := [
 oo 34 <| .mv (.t 0),
 oo 35 <| .mv (.t 5),
 oo 36 <| .Av 1 (.t 34) none (some (.t 35)),
 oo 37 <| .app 1 (.k (.own 1 [])) (.t 36),
 oo 6 <| .mv (.t 37)]
def El : List O := [
 oo 38 <| .mv (.t 6),
 oo 39 <| .mv (.t 1),
 oo 40 <| .dh 1 1 [(.int .i64 0)] [(0,1,(.t 39))],
 oo 41 <| .app 1 (.t 38) (.t 40),
 oo 42 <| .mv (.t 0),
 oo 43 <| .mv (.t 5),
 oo 44 <| .Av 1 (.t 42) (some (.t 43)) none,
 oo 45 <| .app 1 (.t 41) (.t 44),
 oo 4 <| .mv (.t 45)]
def cJ4 : C := (.seq (.aO Ew false [] [0,1]) (.seq (.aO Eu false [] [0,1,5]) (.seq (.aH 0 (.loop M4)) (.seq (.seq (.aO Eo false [] [0,1,5,32]) (.cond (.t 32) (.seq (.aO En false [] [4]) .ret) .skip)) (.seq (.aO Em false [] [0,1,5,6]) (.seq (.aO El true [(7,7),(8,8),(0,2),(2,4),(3,4),(2,5),(3,5),(2,6),(3,6)] [4]) .ret))))))
def qJ4 : fO := ⟨46,2,[.t 4],cJ4⟩
/- cohesion/nodeset.Minus -/
def ab9 : List O := [
 oo 4 <| .mv (.k (.own 1 []))]
def ab8 : List O := [
 oo 5 <| .mv (.t 0),
 oo 6 <| .mv (.t 1),
 oo 7 <| .call Ps [(.t 5),(.t 6),(.k (.func (.func Ul) [] []))],
 oo 4 <| .mv (.t 7)]
def cJ5 : C := (.seq (.aO ab9 false [] [0,1]) (.seq (.aO ab8 false [] [4]) .ret))
def qJ5 : fO := ⟨8,2,[.t 4],cJ5⟩
/- math/bits.TrailingZeros64 -/
def L8 : List O := [
 oo 2 <| .mv (ki 0)]
def L7 : List O := [
 oo 3 <| .mv (.t 0),
 oo 4 <| .bin .eql (.t 3) (.k (.int .u64 0))]
def Wx : List O := [
 oo 2 <| .mv (ki 64)]
def BP : List O := [
 oo 5 <| .mv (.t 0),
 oo 6 <| .mv (.t 0),
 oo 7 <| .un .neg (.t 6),
 oo 8 <| .bin .and (.t 5) (.t 7),
 oo 9 <| .bin .mul (.t 8) (.k (.int .u64 285870213051353865)),
 oo 10 <| .bin .shr (.t 9) (.k (.int .u64 58)),
 oo 11 <| .SJ 64 1 (.g 0) (.t 10),
 oo 12 <| .ld none (.t 11),
 oo 13 <| .S7 .i64 (.t 12),
 oo 2 <| .mv (.t 13)]
def cJ6 : C := (.seq (.aO L8 false [] [0]) (.seq (.seq (.aO L7 false [] [0,4]) (.cond (.t 4) (.seq (.aO Wx false [] [2]) .ret) .skip)) (.seq (.aO BP false [] [2]) .ret)))
def qJ6 : fO := ⟨14,1,[.t 2],cJ6⟩
/- cohesion/cohesionref03.Find -/
def Ek : List O := [
 oo 3 <| .box (.t 0),
 oo 6 <| .mv (ki 0)]
def Ej : List O := [
 oo 9 <| .ld (some 2) (.t 3),
 oo 10 <| .call nJE [(.t 9)],
 oo 11 <| .bin .neq (.t 10) (ki 0)]
def Ei : List O := [
 oo 6 <| .mv (.k (.int .i64 (-1)))]
def Eh : List O := [
 oo 12 <| .dt 1 (.t 3),
 oo 13 <| .ld none (.t 12),
 oo 14 <| .len (.t 13),
 oo 15 <| .mv (ki 0)]
def Eg : List O := [
 oo 16 <| .bin .lss (.t 15) (.t 14)]
def Ef : List O := [
 oo 17 <| .mv (.t 15),
 oo 18 <| .gq 2 (.t 13) (.t 15),
 oo 19 <| .ld (some 2) (.t 18),
 oo 8 <| .new [(.int .i64 0),(.int .i64 0)],
 oo 7 <| .mv (.t 17),
 oz <| .st 2 (.t 8) (.t 19)]
def Ee : List O := [
 oo 20 <| .ld (some 2) (.t 8),
 oo 21 <| .mv (.t 1),
 oo 22 <| .mv (.t 2),
 oo 23 <| .call nJZ [(.t 21),(.t 22)],
 oo 24 <| .eq false (.str [true,true]) (.t 20) (.t 23)]
def Ec : List O := [
 oo 25 <| .mv (.t 7),
 oo 6 <| .mv (.t 25)]
def Eb : List O := [
 oo 26 <| .bin .add (.t 15) (ki 1),
 oo 15 <| .mv (.t 26)]
def Iw : C := (.seq (.aO Eg false [] [1,2,13,14,15,16]) (.seq (.cond (.t 16) .skip (.exit 0)) (.seq (.aH 1 (.seq (.aO Ef false [] [1,2,7,8,13,14,15]) (.seq (.aO Ee true [(4,4),(0,1),(0,2),(0,3)] [1,2,7,13,14,15,24]) (.cond (.t 24) (.seq (.aO Ec false [] [6]) .ret) .skip)))) (.aO Eb false [] [1,2,13,14,15]))))
def Ea : List O := [
 oo 6 <| .mv (.k (.int .i64 (-1)))]
def cJ7 : C := (.seq (.aO Ek false [] [1,2,3]) (.seq (.seq (.aO Ej false [] [1,2,3,11]) (.cond (.t 11) (.seq (.aO Ei false [] [6]) .ret) .skip)) (.seq (.seq (.aO Eh false [] [1,2,13,14,15]) (.aH 0 (.loop Iw))) (.seq (.aO Ea false [] [6]) .ret))))
def qJ7 : fO := ⟨27,3,[.t 6],cJ7⟩
/- cohesion/cohesionref02.Minus -/
def L6 : List O := [
 oo 4 <| .mv (.k (.own 1 []))]
def L5 : List O := [
 oo 5 <| .mv (.k (.own 1 []))]
def L4 : List O := [
 oo 8 <| .mv (.t 0),
 oo 9 <| .call nJL [(.t 8)],
 oo 10 <| .len (.t 9),
 oo 11 <| .mv (ki 0)]
def LZ : List O := [
 oo 12 <| .bin .lss (.t 11) (.t 10)]
def LY : List O := [
 oo 13 <| .gq 1 (.t 9) (.t 11),
 oo 14 <| .ld none (.t 13),
 oo 7 <| .mv (.t 14)]
def LX : List O := [
 oo 15 <| .mv (.t 1),
 oo 16 <| .mv (.t 7),
 oo 17 <| .call Xb [(.t 15),(.t 16)],
 oo 18 <| .un .not (.t 17)]
def LV : List O := [
 oo 19 <| .mv (.t 5),
 oo 20 <| .mv (.t 7),
 oo 21 <| .dh 1 1 [(.int .i64 0)] [(0,1,(.t 20))],
 oo 22 <| .app 1 (.t 19) (.t 21),
 oo 5 <| .mv (.t 22)]
def LU : List O := [
 oo 23 <| .bin .add (.t 11) (ki 1),
 oo 11 <| .mv (.t 23)]
def M3 : C := (.seq (.aO LZ false [] [1,5,9,10,11,12]) (.seq (.cond (.t 12) .skip (.exit 0)) (.seq (.aH 1 (.seq (.aO LY false [] [1,5,7,9,10,11]) (.seq (.aO LX false [] [1,5,7,9,10,11,18]) (.cond (.t 18) (.aO LV false [] [1,5,9,10,11]) .skip)))) (.aO LU false [] [1,5,9,10,11]))))
def LS : List O := [
 oo 24 <| .mv (.t 5),
 oo 4 <| .mv (.t 24)]
def cJ8 : C := (.seq (.aO L6 false [] [0,1]) (.seq (.aO L5 false [] [0,1,5]) (.seq (.seq (.aO L4 false [] [1,5,9,10,11]) (.aH 0 (.loop M3))) (.seq (.aO LS false [] [4]) .ret))))
def qJ8 : fO := ⟨25,2,[.t 4],cJ8⟩
/- cohesion/cohesionref02.Range -/
def LR : List O := [
 oo 2 <| .mv (.k (.own 1 []))]
def LQ : List O := [
 oo 3 <| .mv (.k (.own 1 []))]
def LP : List O := [
 oo 4 <| .mv (ki 0)]
def LO : List O := [
 oo 5 <| .mv (.t 4),
 oo 6 <| .mv (.t 0),
 oo 7 <| .bin .lss (.t 5) (.t 6),
 oo 8 <| .mv (.t 7),
 ⟨(some 9),(some (8,true)),.mv (.t 4)⟩,
 ⟨(some 10),(some (8,true)),.bin .lss (.t 9) (ki 64)⟩,
 oo 11 <| .pick (.t 8) (.t 10) (.k (.bool false))]
def LN : List O := [
 oo 14 <| .mv (.t 3),
 oo 15 <| .mv (.t 4),
 oo 16 <| .dh 1 1 [(.int .i64 0)] [(0,1,(.t 15))],
 oo 17 <| .app 1 (.t 14) (.t 16),
 oo 3 <| .mv (.t 17)]
def LM : List O := [
 oo 12 <| .mv (.t 4),
 oo 13 <| .bin .add (.t 12) (ki 1),
 oo 4 <| .mv (.t 13)]
def M0 : C := (.seq (.seq (.aO LO false [] [0,3,4,11]) (.cond (.t 11) .skip (.exit 0))) (.seq (.aH 1 (.aO LN false [] [0,3,4])) (.aO LM false [] [0,3,4])))
def LL : List O := [
 oo 18 <| .mv (.t 3),
 oo 2 <| .mv (.t 18)]
def cJ9 : C := (.seq (.aO LR false [] [0]) (.seq (.aO LQ false [] [0,3]) (.seq (.seq (.aO LP false [] [0,3,4]) (.aH 0 (.loop M0))) (.seq (.aO LL false [] [2]) .ret))))
def qJ9 : fO := ⟨19,1,[.t 2],cJ9⟩
/- (cohesion/biclique.sides).each$1 -/
def eU : List O := [
 oo 9 <| .mv (.k (.bool false))]
def eS : List O := [
 oo 15 <| .dt 1 (.t 2),
 oo 16 <| .ld none (.t 15),
 oo 17 <| .ld none (.t 3),
 oo 18 <| .call Pv [(.t 17)],
 oo 19 <| .bin .andNot (.t 16) (.t 18),
 oo 10 <| .mv (.t 19)]
def eE : List O := [
 oo 20 <| .mv (.t 10),
 oo 21 <| .bin .neq (.t 20) (.k (.int .u64 0))]
def eR : List O := [
 oo 26 <| .mv (.t 10),
 oo 27 <| .call nJ6 [(.t 26)],
 oo 11 <| .mv (.t 27)]
def eQ : List O := [
 oo 28 <| .mv (.t 1),
 oo 29 <| .mv (.t 28),
 ⟨(some 30),(some (29,true)),.ld none (.t 3)⟩,
 ⟨(some 31),(some (29,true)),.len (.t 30)⟩,
 ⟨(some 32),(some (29,true)),.ld none (.t 4)⟩,
 ⟨(some 33),(some (29,true)),.len (.t 32)⟩,
 ⟨(some 34),(some (29,true)),.bin .lss (.t 31) (.t 33)⟩,
 oo 35 <| .pick (.t 29) (.t 34) (.k (.bool false)),
 oo 12 <| .mv (.t 35)]
def eP : List O := [
 oo 36 <| .mv (.t 12),
 oo 37 <| .mv (.t 36),
 ⟨(some 38),(some (37,true)),.mv (.t 11)⟩,
 ⟨(some 39),(some (37,true)),.ld none (.t 4)⟩,
 ⟨(some 40),(some (37,true)),.ld none (.t 3)⟩,
 ⟨(some 41),(some (37,true)),.len (.t 40)⟩,
 ⟨(some 42),(some (37,true)),.gq 1 (.t 39) (.t 41)⟩,
 ⟨(some 43),(some (37,true)),.ld none (.t 42)⟩,
 ⟨(some 44),(some (37,true)),.bin .lss (.t 38) (.t 43)⟩,
 oo 45 <| .pick (.t 37) (.t 44) (.k (.bool false)),
 oo 46 <| .mv (.t 45),
 ⟨(some 47),(some (46,false)),.mv (.t 0)⟩,
 ⟨(some 48),(some (46,false)),.dt 0 (.t 2)⟩,
 ⟨(some 49),(some (46,false)),.ld none (.t 48)⟩,
 ⟨(some 50),(some (46,false)),.mv (.t 11)⟩,
 ⟨(some 51),(some (46,false)),.gq 1 (.t 49) (.t 50)⟩,
 ⟨(some 52),(some (46,false)),.ld none (.t 51)⟩,
 ⟨(some 53),(some (46,false)),.bin .and (.t 47) (.t 52)⟩,
 ⟨(some 54),(some (46,false)),.bin .eql (.t 53) (.k (.int .u64 0))⟩,
 oo 55 <| .pick (.t 46) (.k (.bool true)) (.t 54)]
def eO : List O := [
 oo 56 <| .mv (.t 12),
 oo 57 <| .mv (.t 56),
 ⟨(some 58),(some (57,true)),.mv (.t 11)⟩,
 ⟨(some 59),(some (57,true)),.ld none (.t 4)⟩,
 ⟨(some 60),(some (57,true)),.ld none (.t 3)⟩,
 ⟨(some 61),(some (57,true)),.len (.t 60)⟩,
 ⟨(some 62),(some (57,true)),.gq 1 (.t 59) (.t 61)⟩,
 ⟨(some 63),(some (57,true)),.ld none (.t 62)⟩,
 ⟨(some 64),(some (57,true)),.bin .eql (.t 58) (.t 63)⟩,
 oo 65 <| .pick (.t 57) (.t 64) (.k (.bool false)),
 oo 12 <| .mv (.t 65)]
def eN : List O := [
 oo 66 <| .ld (some 3) (.t 2),
 oo 67 <| .mv (.t 0),
 oo 68 <| .dt 0 (.t 2),
 oo 69 <| .ld none (.t 68),
 oo 70 <| .mv (.t 11),
 oo 71 <| .gq 1 (.t 69) (.t 70),
 oo 72 <| .ld none (.t 71),
 oo 73 <| .bin .and (.t 67) (.t 72),
 oo 74 <| .call Zd [(.t 66),(.t 73)],
 oo 75 <| .ld none (.t 3),
 oo 76 <| .call Um [(.t 75)],
 oo 77 <| .mv (.t 11),
 oo 78 <| .bin .shl (.k (.int .u64 1)) (.t 77),
 oo 79 <| .bin .or (.t 76) (.t 78),
 oo 13 <| .mv (.t 74),
 oo 14 <| .mv (.t 79)]
def eM : List O := [
 oo 80 <| .mv (.t 13),
 oo 81 <| .mv (.t 11),
 oo 82 <| .bin .shl (.k (.int .u64 1)) (.t 81),
 oo 83 <| .bin .sub (.t 82) (.k (.int .u64 1)),
 oo 84 <| .bin .and (.t 80) (.t 83),
 oo 85 <| .mv (.t 14),
 oo 86 <| .mv (.t 11),
 oo 87 <| .bin .shl (.k (.int .u64 1)) (.t 86),
 oo 88 <| .bin .sub (.t 87) (.k (.int .u64 1)),
 oo 89 <| .bin .and (.t 85) (.t 88),
 oo 90 <| .bin .neq (.t 84) (.t 89)]
def eL : List O := [
 oo 91 <| .ld none (.t 3),
 oo 92 <| .mv (.t 11),
 oo 93 <| .dh 1 1 [(.int .i64 0)] [(0,1,(.t 92))],
 oo 94 <| .app 1 (.t 91) (.t 93),
 oz <| .st 1 (.t 3) (.t 94)]
def dn : List O := [
 oo 95 <| .mv (.t 13),
 oo 96 <| .mv (.t 14),
 oo 97 <| .bin .eql (.t 95) (.t 96),
 oo 98 <| .mv (.t 97),
 ⟨(some 99),(some (98,true)),.mv (.t 12)⟩,
 ⟨(some 100),(some (98,true)),.mv (.t 99)⟩,
 ⟨(some 101),(some (100,true)),.ld none (.t 3)⟩,
 ⟨(some 102),(some (100,true)),.len (.t 101)⟩,
 ⟨(some 103),(some (100,true)),.ld none (.t 4)⟩,
 ⟨(some 104),(some (100,true)),.len (.t 103)⟩,
 ⟨(some 105),(some (100,true)),.bin .leq (.t 102) (.t 104)⟩,
 ⟨(some 106),(some (98,true)),.pick (.t 100) (.t 105) (.k (.bool false))⟩,
 ⟨(some 107),(some (98,true)),.un .not (.t 106)⟩,
 oo 108 <| .pick (.t 98) (.t 107) (.k (.bool false)),
 oo 109 <| .mv (.t 108),
 ⟨(some 110),(some (109,true)),.ld none (.t 5)⟩,
 ⟨(some 111),(some (109,true)),.ld none (.t 3)⟩,
 ⟨(some 112),(some (109,true)),.call Cq [(.t 111)]⟩,
 ⟨(some 113),(some (109,true)),.mv (.t 0)⟩,
 ⟨(some 114),(some (109,true)),.dt 0 (.t 2)⟩,
 ⟨(some 115),(some (109,true)),.ld none (.t 114)⟩,
 ⟨(some 116),(some (109,true)),.mv (.t 11)⟩,
 ⟨(some 117),(some (109,true)),.gq 1 (.t 115) (.t 116)⟩,
 ⟨(some 118),(some (109,true)),.ld none (.t 117)⟩,
 ⟨(some 119),(some (109,true)),.bin .and (.t 113) (.t 118)⟩,
 ⟨(some 120),(some (109,true)),.call nJN [(.t 119)]⟩,
 ⟨(some 121),(some (109,true)),.build [(.own 1 []),(.own 1 [])] [(0,1,(.t 112)),(1,1,(.t 120))]⟩,
 ⟨(some 122),(some (109,true)),.gw (.t 110) [(.t 121)]⟩,
 ⟨(some 123),(some (109,true)),.un .not (.t 122)⟩,
 oo 124 <| .pick (.t 109) (.t 123) (.k (.bool false)),
 oo 125 <| .mv (.t 124),
 ⟨(some 126),(some (125,false)),.ld none (.t 6)⟩,
 ⟨(some 127),(some (125,false)),.mv (.t 0)⟩,
 ⟨(some 128),(some (125,false)),.dt 0 (.t 2)⟩,
 ⟨(some 129),(some (125,false)),.ld none (.t 128)⟩,
 ⟨(some 130),(some (125,false)),.mv (.t 11)⟩,
 ⟨(some 131),(some (125,false)),.gq 1 (.t 129) (.t 130)⟩,
 ⟨(some 132),(some (125,false)),.ld none (.t 131)⟩,
 ⟨(some 133),(some (125,false)),.bin .and (.t 127) (.t 132)⟩,
 ⟨(some 134),(some (125,false)),.mv (.t 12)⟩,
 ⟨(some 135),(some (125,false)),.gw (.t 126) [(.t 133),(.t 134)]⟩,
 ⟨(some 136),(some (125,false)),.un .not (.t 135)⟩,
 oo 137 <| .pick (.t 125) (.k (.bool true)) (.t 136)]
def dE : List O := [
 oo 9 <| .mv (.k (.bool false))]
def dD : List O := [
 oo 138 <| .ld none (.t 3),
 oo 139 <| .ld none (.t 3),
 oo 140 <| .len (.t 139),
 oo 141 <| .bin .sub (.t 140) (ki 1),
 oo 142 <| .Av 1 (.t 138) none (some (.t 141)),
 oz <| .st 1 (.t 3) (.t 142)]
def dC : List O := [
 oo 22 <| .mv (.t 10),
 oo 23 <| .mv (.t 10),
 oo 24 <| .bin .sub (.t 23) (.k (.int .u64 1)),
 oo 25 <| .bin .and (.t 22) (.t 24),
 oo 10 <| .mv (.t 25)]
def mQ : C := (.seq (.seq (.aO eE false [] [0,1,2,3,4,5,6,10,21]) (.cond (.t 21) .skip (.exit 0))) (.seq (.aH 1 (.seq (.aO eR false [] [0,1,2,3,4,5,6,10,11]) (.seq (.aO eQ false [] [0,1,2,3,4,5,6,10,11,12]) (.seq (.seq (.aO eP false [] [0,1,2,3,4,5,6,10,11,12,55]) (.cond (.t 55) (.exit 1) .skip)) (.seq (.aO eO false [] [0,1,2,3,4,5,6,10,11,12]) (.seq (.aO eN true [(15,15),(0,1),(0,2),(0,3),(1,3),(0,4),(3,4),(0,5),(0,6),(1,6),(0,7),(0,9),(1,9),(2,9),(3,9),(4,9),(5,9),(6,9),(7,9),(8,9),(0,11),(3,11),(6,11),(8,11),(9,11),(10,11),(0,12),(3,12),(6,12),(8,12),(9,12),(10,12)] [0,1,2,3,4,5,6,10,11,12,13,14]) (.seq (.seq (.aO eM true [(10,10)] [0,1,2,3,4,5,6,10,11,12,13,14,90]) (.cond (.t 90) (.exit 1) .skip)) (.seq (.aO eL false [] [0,1,2,3,4,5,6,10,11,12,13,14]) (.seq (.seq (.aO dn true [(2,2),(3,3),(4,4),(5,5),(10,10),(11,11),(12,12),(13,13),(14,14),(27,27),(28,28),(29,29),(30,30),(40,40),(41,41),(42,42),(6,8),(7,8),(6,9),(15,16),(15,17),(15,18),(16,18),(17,18),(15,19),(16,19),(17,19),(15,20),(16,20),(17,20),(18,20),(15,21),(16,21),(17,21),(20,21),(15,22),(16,22),(17,22),(15,23),(16,23),(17,23),(18,23),(15,24),(16,24),(17,24),(15,25),(15,26),(31,32),(31,33),(31,34),(32,34),(31,35),(34,35),(31,36),(31,37),(32,37),(31,38),(31,39),(34,39),(37,39)] [0,1,2,3,4,5,6,10,137]) (.cond (.t 137) (.seq (.aO dE false [] [9]) .ret) .skip)) (.aO dD false [] [0,1,2,3,4,5,6,10])))))))))) (.aO dC false [] [0,1,2,3,4,5,6,10])))
def dz : List O := [
 oo 9 <| .mv (.k (.bool true))]
def cJa0 : C := (.seq (.aO eU false [] [0,1,2,3,4,5,6]) (.seq (.seq (.aO eS true [(4,4),(5,5),(0,2),(1,2),(0,3),(1,3)] [0,1,2,3,4,5,6,10]) (.aH 0 (.loop mQ))) (.seq (.aO dz false [] [9]) .ret)))
def T3 : fO := ⟨143,2,[.t 9],cJa0⟩
/- cohesion/biclique.behind -/
def O0 : List O := [
 oo 2 <| .mv (.k (.int .u64 0))]
def OZ : List O := [
 oo 3 <| .mv (.t 0),
 oo 4 <| .len (.t 3),
 oo 5 <| .bin .eql (.t 4) (ki 0)]
def OY : List O := [
 oo 2 <| .mv (.k (.int .u64 0))]
def OX : List O := [
 oo 6 <| .mv (.t 0),
 oo 7 <| .mv (.t 0),
 oo 8 <| .len (.t 7),
 oo 9 <| .bin .sub (.t 8) (ki 1),
 oo 10 <| .gq 1 (.t 6) (.t 9),
 oo 11 <| .ld none (.t 10),
 oo 12 <| .bin .shl (.k (.int .u64 2)) (.t 11),
 oo 13 <| .bin .sub (.t 12) (.k (.int .u64 1)),
 oo 2 <| .mv (.t 13)]
def cJa1 : C := (.seq (.aO O0 false [] [0]) (.seq (.seq (.aO OZ false [] [0,5]) (.cond (.t 5) (.seq (.aO OY false [] [2]) .ret) .skip)) (.seq (.aO OX false [] [2]) .ret)))
def Wz : fO := ⟨14,1,[.t 2],cJa1⟩
/- slices.Clone[[]int,int] -/
def Wq : List O := [
 oo 2 <| .mv (.k (.own 1 []))]
def Wp : List O := [
 oo 3 <| .mv (.t 0),
 oo 4 <| .eq false .Pj (.t 3) (.k (.own 1 []))]
def Wo : List O := [
 oo 2 <| .mv (.k (.own 1 []))]
def Wn : List O := [
 oo 5 <| .dh 1 0 [(.int .i64 0)] [],
 oo 6 <| .mv (.t 0),
 oo 7 <| .app 1 (.t 5) (.t 6),
 oo 2 <| .mv (.t 7)]
def cJa2 : C := (.seq (.aO Wq false [] [0]) (.seq (.seq (.aO Wp false [] [0,4]) (.cond (.t 4) (.seq (.aO Wo false [] [2]) .ret) .skip)) (.seq (.aO Wn false [] [2]) .ret)))
def Z4 : fO := ⟨8,1,[.t 2],cJa2⟩
/- cohesion/cohesionref27.insert -/
def xv : List O := [
 oo 3 <| .box (.t 1),
 oo 4 <| .mv (.k (.own 2 []))]
def xt : List O := [
 oo 5 <| .mv (ki 0)]
def xq : List O := [
 oo 7 <| .mv (.t 5),
 oo 8 <| .mv (.t 0),
 oo 9 <| .len (.t 8),
 oo 10 <| .bin .lss (.t 7) (.t 9),
 oo 11 <| .mv (.t 10),
 ⟨(some 12),(some (11,true)),.mv (.t 0)⟩,
 ⟨(some 13),(some (11,true)),.mv (.t 5)⟩,
 ⟨(some 14),(some (11,true)),.gq 2 (.t 12) (.t 13)⟩,
 ⟨(some 15),(some (11,true)),.dt 0 (.t 14)⟩,
 ⟨(some 16),(some (11,true)),.ld none (.t 15)⟩,
 ⟨(some 17),(some (11,true)),.dt 0 (.t 3)⟩,
 ⟨(some 18),(some (11,true)),.ld none (.t 17)⟩,
 ⟨(some 19),(some (11,true)),.call Vu [(.t 16),(.t 18)]⟩,
 ⟨(some 20),(some (11,true)),.bin .lss (.t 19) (ki 0)⟩,
 oo 21 <| .pick (.t 11) (.t 20) (.k (.bool false))]
def xp : List O := [
 oo 22 <| .mv (.t 5),
 oo 23 <| .bin .add (.t 22) (ki 1),
 oo 5 <| .mv (.t 23)]
def Fk : C := (.seq (.seq (.aO xq true [(3,3),(4,4),(12,12),(13,13),(14,14),(9,10),(5,11),(6,11),(7,11),(8,11),(9,11)] [0,3,5,21]) (.cond (.t 21) .skip (.exit 0))) (.aH 1 (.aO xp false [] [0,3,5])))
def xn : List O := [
 oo 24 <| .mv (.t 5),
 oo 25 <| .mv (.t 0),
 oo 26 <| .len (.t 25),
 oo 27 <| .bin .lss (.t 24) (.t 26),
 oo 28 <| .mv (.t 27),
 ⟨(some 29),(some (28,true)),.mv (.t 0)⟩,
 ⟨(some 30),(some (28,true)),.mv (.t 5)⟩,
 ⟨(some 31),(some (28,true)),.gq 2 (.t 29) (.t 30)⟩,
 ⟨(some 32),(some (28,true)),.ld (some 2) (.t 31)⟩,
 ⟨(some 33),(some (28,true)),.ld (some 2) (.t 3)⟩,
 ⟨(some 34),(some (28,true)),.call Uj [(.t 32),(.t 33)]⟩,
 oo 35 <| .pick (.t 28) (.t 34) (.k (.bool false))]
def xm : List O := [
 oo 36 <| .mv (.t 0),
 oo 4 <| .mv (.t 36)]
def xl : List O := [
 oo 37 <| .mv (.t 0),
 oo 38 <| .mv (.t 5),
 oo 39 <| .Av 2 (.t 37) none (some (.t 38)),
 oo 40 <| .app 2 (.k (.own 2 [])) (.t 39),
 oo 41 <| .ld (some 2) (.t 3),
 oo 42 <| .dh 2 1 [(.own 1 []),(.own 1 [])] [(0,2,(.t 41))],
 oo 43 <| .app 2 (.t 40) (.t 42),
 oo 6 <| .mv (.t 43)]
def xk : List O := [
 oo 44 <| .mv (.t 6),
 oo 45 <| .mv (.t 0),
 oo 46 <| .mv (.t 5),
 oo 47 <| .Av 2 (.t 45) (some (.t 46)) none,
 oo 48 <| .app 2 (.t 44) (.t 47),
 oo 4 <| .mv (.t 48)]
def cJa3 : C := (.seq (.aO xv false [] [0,3]) (.seq (.aO xt false [] [0,3,5]) (.seq (.aH 0 (.loop Fk)) (.seq (.seq (.aO xn true [(3,3),(4,4),(10,10),(11,11),(5,9),(6,9),(7,9),(8,9)] [0,3,5,35]) (.cond (.t 35) (.seq (.aO xm false [] [4]) .ret) .skip)) (.seq (.aO xl true [(6,6),(7,7),(0,4),(1,4),(2,4),(3,4),(0,5),(1,5),(2,5),(3,5)] [0,5,6]) (.seq (.aO xk false [] [4]) .ret))))))
def T2 : fO := ⟨49,2,[.t 4],cJa3⟩
/- cmp.Or[int] -/
def pd : List O := [
 oo 2 <| .mv (ki 0)]
def pc : List O := [
 oo 3 <| .mv (ki 0)]
def o9 : List O := [
 oo 6 <| .mv (.t 0),
 oo 7 <| .len (.t 6),
 oo 8 <| .mv (ki 0)]
def o8 : List O := [
 oo 9 <| .bin .lss (.t 8) (.t 7)]
def o7 : List O := [
 oo 10 <| .gq 1 (.t 6) (.t 8),
 oo 11 <| .ld none (.t 10),
 oo 5 <| .mv (.t 11)]
def oZ : List O := [
 oo 12 <| .mv (.t 5),
 oo 13 <| .mv (.t 3),
 oo 14 <| .bin .neq (.t 12) (.t 13)]
def oY : List O := [
 oo 15 <| .mv (.t 5),
 oo 2 <| .mv (.t 15)]
def oX : List O := [
 oo 16 <| .bin .add (.t 8) (ki 1),
 oo 8 <| .mv (.t 16)]
def sV : C := (.seq (.aO o8 false [] [3,6,7,8,9]) (.seq (.cond (.t 9) .skip (.exit 0)) (.seq (.aH 1 (.seq (.aO o7 false [] [3,5,6,7,8]) (.seq (.aO oZ false [] [3,5,6,7,8,14]) (.cond (.t 14) (.seq (.aO oY false [] [2]) .ret) .skip)))) (.aO oX false [] [3,6,7,8]))))
def oW : List O := [
 oo 17 <| .mv (.t 3),
 oo 2 <| .mv (.t 17)]
def cJa4 : C := (.seq (.aO pd false [] [0]) (.seq (.aO pc false [] [0,3]) (.seq (.seq (.aO o9 false [] [3,6,7,8]) (.aH 0 (.loop sV))) (.seq (.aO oW false [] [2]) .ret))))
def ZZ : fO := ⟨18,1,[.t 2],cJa4⟩
/- cmp.Compare[int] -/
def JA : List O := [
 oo 4 <| .mv (ki 0)]
def Jz : List O := [
 oo 7 <| .mv (.t 0),
 oo 8 <| .call Mt [(.t 7)],
 oo 5 <| .mv (.t 8)]
def Jy : List O := [
 oo 9 <| .mv (.t 1),
 oo 10 <| .call Mt [(.t 9)],
 oo 6 <| .mv (.t 10)]
def Jx : List O := [
 oo 11 <| .mv (.t 5)]
def Jw : List O := [
 oo 12 <| .mv (.t 6)]
def Jv : List O := [
 oo 4 <| .mv (ki 0)]
def Ju : List O := [
 oo 4 <| .mv (.k (.int .i64 (-1)))]
def Jt : List O := [
 oo 13 <| .mv (.t 6)]
def Js : List O := [
 oo 4 <| .mv (ki 1)]
def Jr : List O := [
 oo 14 <| .mv (.t 0),
 oo 15 <| .mv (.t 1),
 oo 16 <| .bin .lss (.t 14) (.t 15)]
def CU : List O := [
 oo 4 <| .mv (.k (.int .i64 (-1)))]
def CT : List O := [
 oo 17 <| .mv (.t 0),
 oo 18 <| .mv (.t 1),
 oo 19 <| .bin .gtr (.t 17) (.t 18)]
def CS : List O := [
 oo 4 <| .mv (ki 1)]
def CR : List O := [
 oo 4 <| .mv (ki 0)]
def cJa5 : C := (.seq (.aO JA false [] [0,1]) (.seq (.aO Jz false [] [0,1,5]) (.seq (.aO Jy false [] [0,1,5,6]) (.seq (.seq (.aO Jx false [] [0,1,6,11]) (.cond (.t 11) (.seq (.seq (.aO Jw false [] [12]) (.cond (.t 12) (.seq (.aO Jv false [] [4]) .ret) .skip)) (.seq (.aO Ju false [] [4]) .ret)) .skip)) (.seq (.seq (.aO Jt false [] [0,1,13]) (.cond (.t 13) (.seq (.aO Js false [] [4]) .ret) .skip)) (.seq (.seq (.aO Jr false [] [0,1,16]) (.cond (.t 16) (.seq (.aO CU false [] [4]) .ret) .skip)) (.seq (.seq (.aO CT false [] [19]) (.cond (.t 19) (.seq (.aO CS false [] [4]) .ret) .skip)) (.seq (.aO CR false [] [4]) .ret))))))))
def ZY : fO := ⟨20,2,[.t 4],cJa5⟩
/- cohesion/nodeset.merged[int] -/
def il : List O := [
 oo 6 <| .mv (.k (.own 1 []))]
def ik : List O := [
 oo 11 <| .mv (.t 0),
 oo 12 <| .call Cq [(.t 11)],
 oo 13 <| .mv (.t 1),
 oo 14 <| .call Cq [(.t 13)],
 oo 0 <| .mv (.t 12),
 oo 1 <| .mv (.t 14)]
def ij : List O := [
 oo 15 <| .mv (.t 0),
 oo 16 <| .call Pr [(.t 15)]]
def ig : List O := [
 oo 17 <| .mv (.t 1),
 oo 18 <| .call Pr [(.t 17)]]
def ib : List O := [
 oo 19 <| .mv (.t 0),
 oo 20 <| .call Pq [(.t 19)],
 oo 21 <| .mv (.t 1),
 oo 22 <| .call Pq [(.t 21)],
 oo 0 <| .mv (.t 20),
 oo 1 <| .mv (.t 22)]
def ia : List O := [
 oo 7 <| .mv (.k (.own 1 []))]
def gT : List O := [
 oo 23 <| .mv (.t 0),
 oo 24 <| .len (.t 23),
 oo 25 <| .bin .gtr (.t 24) (ki 0),
 oo 26 <| .mv (.t 25),
 ⟨(some 27),(some (26,false)),.mv (.t 1)⟩,
 ⟨(some 28),(some (26,false)),.len (.t 27)⟩,
 ⟨(some 29),(some (26,false)),.bin .gtr (.t 28) (ki 0)⟩,
 oo 30 <| .pick (.t 26) (.k (.bool true)) (.t 29)]
def iI : List O := [
 oo 31 <| .mv (.t 1),
 oo 32 <| .len (.t 31),
 oo 33 <| .bin .eql (.t 32) (ki 0),
 oo 34 <| .mv (.t 33),
 ⟨(some 35),(some (34,false)),.mv (.t 0)⟩,
 ⟨(some 36),(some (34,false)),.len (.t 35)⟩,
 ⟨(some 37),(some (34,false)),.bin .gtr (.t 36) (ki 0)⟩,
 ⟨(some 38),(some (34,false)),.mv (.t 37)⟩,
 ⟨(some 39),(some (38,true)),.mv (.t 0)⟩,
 ⟨(some 40),(some (38,true)),.gq 1 (.t 39) (ki 0)⟩,
 ⟨(some 41),(some (38,true)),.ld none (.t 40)⟩,
 ⟨(some 42),(some (38,true)),.mv (.t 1)⟩,
 ⟨(some 43),(some (38,true)),.gq 1 (.t 42) (ki 0)⟩,
 ⟨(some 44),(some (38,true)),.ld none (.t 43)⟩,
 ⟨(some 45),(some (38,true)),.bin .leq (.t 41) (.t 44)⟩,
 ⟨(some 46),(some (34,false)),.pick (.t 38) (.t 45) (.k (.bool false))⟩,
 oo 47 <| .pick (.t 34) (.k (.bool true)) (.t 46),
 oo 8 <| .mv (.t 47)]
def iH : List O := [
 oo 48 <| .mv (.t 0),
 oo 49 <| .len (.t 48),
 oo 50 <| .bin .eql (.t 49) (ki 0),
 oo 51 <| .mv (.t 50),
 ⟨(some 52),(some (51,false)),.mv (.t 1)⟩,
 ⟨(some 53),(some (51,false)),.len (.t 52)⟩,
 ⟨(some 54),(some (51,false)),.bin .gtr (.t 53) (ki 0)⟩,
 ⟨(some 55),(some (51,false)),.mv (.t 54)⟩,
 ⟨(some 56),(some (55,true)),.mv (.t 1)⟩,
 ⟨(some 57),(some (55,true)),.gq 1 (.t 56) (ki 0)⟩,
 ⟨(some 58),(some (55,true)),.ld none (.t 57)⟩,
 ⟨(some 59),(some (55,true)),.mv (.t 0)⟩,
 ⟨(some 60),(some (55,true)),.gq 1 (.t 59) (ki 0)⟩,
 ⟨(some 61),(some (55,true)),.ld none (.t 60)⟩,
 ⟨(some 62),(some (55,true)),.bin .leq (.t 58) (.t 61)⟩,
 ⟨(some 63),(some (51,false)),.pick (.t 55) (.t 62) (.k (.bool false))⟩,
 oo 64 <| .pick (.t 51) (.k (.bool true)) (.t 63),
 oo 9 <| .mv (.t 64)]
def iF : List O := [
 oo 10 <| .mv (ki 0)]
def fU : List O := [
 oo 65 <| .mv (.t 8)]
def fT : List O := [
 oo 66 <| .mv (.t 0),
 oo 67 <| .gq 1 (.t 66) (ki 0),
 oo 68 <| .ld none (.t 67),
 oo 69 <| .mv (.t 0),
 oo 70 <| .Av 1 (.t 69) (some (ki 1)) none,
 oo 10 <| .mv (.t 68),
 oo 0 <| .mv (.t 70)]
def fS : List O := [
 oo 71 <| .mv (.t 9)]
def fR : List O := [
 oo 72 <| .mv (.t 1),
 oo 73 <| .gq 1 (.t 72) (ki 0),
 oo 74 <| .ld none (.t 73),
 oo 75 <| .mv (.t 1),
 oo 76 <| .Av 1 (.t 75) (some (ki 1)) none,
 oo 10 <| .mv (.t 74),
 oo 1 <| .mv (.t 76)]
def fQ : List O := [
 oo 77 <| .mv (.t 2),
 oo 78 <| .mv (.t 8),
 oo 79 <| .mv (.t 9),
 oo 80 <| .gw (.t 77) [(.t 78),(.t 79)]]
def fP : List O := [
 oo 81 <| .mv (.t 7),
 oo 82 <| .mv (.t 10),
 oo 83 <| .dh 1 1 [(.int .i64 0)] [(0,1,(.t 82))],
 oo 84 <| .app 1 (.t 81) (.t 83),
 oo 7 <| .mv (.t 84)]
def iq : C := (.seq (.seq (.aO gT false [] [0,1,2,7,30]) (.cond (.t 30) .skip (.exit 0))) (.aH 1 (.seq (.aO iI true [(0,0),(1,1),(2,2),(3,3),(4,4),(5,5),(6,6),(7,7),(14,14),(15,15),(16,16),(17,17),(10,11),(10,12),(8,13),(9,13),(10,13)] [0,1,2,7,8]) (.seq (.aO iH true [(0,0),(1,1),(2,2),(3,3),(4,4),(5,5),(6,6),(7,7),(14,14),(15,15),(16,16),(17,17),(10,11),(10,12),(8,13),(9,13),(10,13)] [0,1,2,7,8,9]) (.seq (.aO iF false [] [0,1,2,7,8,9,10]) (.seq (.seq (.aO fU false [] [0,1,2,7,8,9,10,65]) (.cond (.t 65) (.aO fT true [(6,6),(2,3),(2,4)] [0,1,2,7,8,9,10]) .skip)) (.seq (.seq (.aO fS false [] [0,1,2,7,8,9,10,71]) (.cond (.t 71) (.aO fR true [(6,6),(2,3),(2,4)] [0,1,2,7,8,9,10]) .skip)) (.seq (.aO fQ false [] [0,1,2,7,10,80]) (.cond (.t 80) (.aO fP false [] [0,1,2,7]) .skip)))))))))
def fJ : List O := [
 oo 85 <| .mv (.t 7),
 oo 6 <| .mv (.t 85)]
def cJa6 : C := (.seq (.aO il false [] [0,1,2]) (.seq (.aO ik false [] [0,1,2]) (.seq (.aO ij false [] [0,1,2]) (.seq (.aO ig false [] [0,1,2]) (.seq (.aO ib false [] [0,1,2]) (.seq (.aO ia false [] [0,1,2,7]) (.seq (.aH 0 (.loop iq)) (.seq (.aO fJ false [] [6]) .ret))))))))
def Wy : fO := ⟨86,3,[.t 6],cJa6⟩
/- cohesion/nodeset.Minus$1 -/
def Wm : List O := [
 oo 4 <| .mv (.k (.bool false))]
def Wl : List O := [
 oo 5 <| .mv (.t 1),
 oo 6 <| .un .not (.t 5),
 oo 4 <| .mv (.t 6)]
def cJa7 : C := (.seq (.aO Wm false [] [1]) (.seq (.aO Wl false [] [4]) .ret))
def ZX : fO := ⟨7,2,[.t 4],cJa7⟩
/- cmp.isNaN[int] -/
def Wk : List O := [
 oo 2 <| .mv (.k (.bool false))]
def Wj : List O := [
 oo 3 <| .mv (.t 0),
 oo 4 <| .mv (.t 0),
 oo 5 <| .bin .neq (.t 3) (.t 4),
 oo 2 <| .mv (.t 5)]
def cJa8 : C := (.seq (.aO Wk false [] [0]) (.seq (.aO Wj false [] [2]) .ret))
def ZW : fO := ⟨6,1,[.t 2],cJa8⟩
/- slices.Sort[[]int,int] -/
def ac1 : List O := [
 oo 3 <| .mv (.t 0),
 oo 4 <| .len (.t 3),
 oo 2 <| .mv (.t 4)]
def ac0 : List O := [
 oo 5 <| .mv (.t 0),
 oo 6 <| .mv (.t 2),
 oo 7 <| .mv (.t 2),
 oo 8 <| .S7 .u64 (.t 7),
 oo 9 <| .call 77 [(.t 8)],
 oo 10 <| .call 76 [(.t 5),(ki 0),(.t 6),(.t 9)]]
def cJa9 : C := (.seq (.aO ac1 false [] [0,2]) (.aO ac0 false [] []))
def qJa9 : fO := ⟨11,1,[],cJa9⟩
/- slices.Compact[[]int,int] -/
def acZ : List O := [
 oo 2 <| .mv (.k (.own 1 []))]
def acY : List O := [
 oo 6 <| .mv (.t 0),
 oo 7 <| .len (.t 6),
 oo 8 <| .bin .lss (.t 7) (ki 2)]
def acX : List O := [
 oo 9 <| .mv (.t 0),
 oo 2 <| .mv (.t 9)]
def acW : List O := [
 oo 3 <| .mv (ki 1)]
def acV : List O := [
 oo 10 <| .mv (.t 3),
 oo 11 <| .mv (.t 0),
 oo 12 <| .len (.t 11),
 oo 13 <| .bin .lss (.t 10) (.t 12)]
def acU : List O := [
 oo 16 <| .mv (.t 0),
 oo 17 <| .mv (.t 3),
 oo 18 <| .gq 1 (.t 16) (.t 17),
 oo 19 <| .ld none (.t 18),
 oo 20 <| .mv (.t 0),
 oo 21 <| .mv (.t 3),
 oo 22 <| .bin .sub (.t 21) (ki 1),
 oo 23 <| .gq 1 (.t 20) (.t 22),
 oo 24 <| .ld none (.t 23),
 oo 25 <| .bin .eql (.t 19) (.t 24)]
def acT : List O := [
 oo 26 <| .mv (.t 0),
 oo 27 <| .mv (.t 3),
 oo 28 <| .Av 1 (.t 26) (some (.t 27)) none,
 oo 4 <| .mv (.t 28)]
def acS : List O := [
 oo 5 <| .mv (ki 1)]
def acR : List O := [
 oo 29 <| .mv (.t 5),
 oo 30 <| .mv (.t 4),
 oo 31 <| .len (.t 30),
 oo 32 <| .bin .lss (.t 29) (.t 31)]
def acQ : List O := [
 oo 35 <| .mv (.t 4),
 oo 36 <| .mv (.t 5),
 oo 37 <| .gq 1 (.t 35) (.t 36),
 oo 38 <| .ld none (.t 37),
 oo 39 <| .mv (.t 4),
 oo 40 <| .mv (.t 5),
 oo 41 <| .bin .sub (.t 40) (ki 1),
 oo 42 <| .gq 1 (.t 39) (.t 41),
 oo 43 <| .ld none (.t 42),
 oo 44 <| .bin .neq (.t 38) (.t 43)]
def ZU : List O := [
 oo 45 <| .mv (.t 0),
 oo 46 <| .mv (.t 3),
 oo 47 <| .mv (.t 4),
 oo 48 <| .mv (.t 5),
 oo 49 <| .gq 1 (.t 47) (.t 48),
 oo 50 <| .ld none (.t 49),
 oo 51 <| .gq 1 (.t 45) (.t 46),
 oz <| .st 1 (.t 51) (.t 50)]
def ZT : List O := [
 oo 52 <| .mv (.t 3),
 oo 53 <| .bin .add (.t 52) (ki 1),
 oo 3 <| .mv (.t 53)]
def ZS : List O := [
 oo 33 <| .mv (.t 5),
 oo 34 <| .bin .add (.t 33) (ki 1),
 oo 5 <| .mv (.t 34)]
def adP : C := (.seq (.seq (.aO acR false [] [0,3,4,5,32]) (.cond (.t 32) .skip (.exit 2))) (.seq (.aH 3 (.seq (.aO acQ true [(9,9),(3,4),(3,5),(3,6),(3,7),(0,8),(1,8),(2,8),(3,8)] [0,3,4,5,44]) (.cond (.t 44) (.seq (.aO ZU false [] [0,3,4,5]) (.aO ZT false [] [0,3,4,5])) .skip))) (.aO ZS false [] [0,3,4,5])))
def ZR : List O := [
 oo 54 <| .mv (.t 0),
 oo 55 <| .mv (.t 3),
 oo 56 <| .Av 1 (.t 54) (some (.t 55)) none,
 oz <| .Td 1 [(.int .i64 0)] (.t 56)]
def ZQ : List O := [
 oo 57 <| .mv (.t 0),
 oo 58 <| .mv (.t 3),
 oo 59 <| .Av 1 (.t 57) none (some (.t 58)),
 oo 2 <| .mv (.t 59)]
def ZP : List O := [
 oo 14 <| .mv (.t 3),
 oo 15 <| .bin .add (.t 14) (ki 1),
 oo 3 <| .mv (.t 15)]
def adO : C := (.seq (.seq (.aO acV false [] [0,3,13]) (.cond (.t 13) .skip (.exit 0))) (.seq (.aH 1 (.seq (.aO acU true [(9,9),(3,4),(3,5),(3,6),(3,7),(0,8),(1,8),(2,8),(3,8)] [0,3,25]) (.cond (.t 25) (.seq (.aO acT false [] [0,3,4]) (.seq (.seq (.aO acS false [] [0,3,4,5]) (.aH 2 (.loop adP))) (.seq (.aO ZR false [] [0,3]) (.seq (.aO ZQ false [] [2]) .ret)))) .skip))) (.aO ZP false [] [0,3])))
def ZO : List O := [
 oo 60 <| .mv (.t 0),
 oo 2 <| .mv (.t 60)]
def cJb0 : C := (.seq (.aO acZ false [] [0]) (.seq (.seq (.aO acY false [] [0,8]) (.cond (.t 8) (.seq (.aO acX false [] [2]) .ret) .skip)) (.seq (.seq (.aO acW false [] [0,3]) (.aH 0 (.loop adO))) (.seq (.aO ZO false [] [2]) .ret))))
def qJb0 : fO := ⟨61,1,[.t 2],cJb0⟩
abbrev Md := Go.Bm.Md
abbrev dN := Go.Bm.dN
def look : List (Nat × Md × fO) -> Nat -> Option (Md × fO)
 | [],_ => none
 | (j,m,q) :: r,i => if i = j then some (m,q) else look r i
def fns : List (Nat × Md × fO) := [
 (nJa,⟨false,false,true⟩,Z5),
 (nJb,⟨false,false,true⟩,qJb),
 (nJc,⟨false,false,true⟩,qJc),
 (nJd,⟨false,false,true⟩,qJd),
 (nJe,⟨true,false,false⟩,qJe),
 (nJf,⟨true,false,false⟩,qJf),
 (W8,⟨true,false,false⟩,qJg),
 (Sn,⟨false,false,true⟩,qJh),
 (Uk,⟨false,false,true⟩,qJi),
 (Zc,⟨false,false,true⟩,ZV),
 (W7,⟨false,false,true⟩,qJk),
 (nJl,⟨false,false,false⟩,qJl),
 (Zb,⟨false,false,false⟩,qJm),
 (Vv,⟨false,false,false⟩,qJn),
 (nJo,⟨false,false,false⟩,qJo),
 (nJp,⟨false,false,false⟩,qJp),
 (Uj,⟨false,false,true⟩,qJq),
 (Ui,⟨true,false,false⟩,qJr),
 (Za,⟨false,false,false⟩,qJs),
 (nJt,⟨false,false,false⟩,qJt),
 (nJu,⟨false,false,true⟩,qJu),
 (nJv,⟨false,false,false⟩,qJv),
 (nJw,⟨false,false,false⟩,qJw),
 (nJx,⟨false,false,false⟩,qJx),
 (Vu,⟨false,false,true⟩,qJy),
 (nJz,⟨false,false,true⟩,qJz),
 (nJA,⟨false,false,true⟩,qJA),
 (Um,⟨false,false,true⟩,qJB),
 (nJC,⟨true,false,false⟩,qJC),
 (Pw,⟨true,false,false⟩,qJD),
 (nJE,⟨false,false,true⟩,qJE),
 (nJF,⟨false,false,true⟩,qJF),
 (Xb,⟨false,false,true⟩,qJG),
 (Xa,⟨false,false,false⟩,qJH),
 (nJI,⟨true,false,false⟩,qJI),
 (nJJ,⟨false,false,true⟩,qJJ),
 (Zd,⟨false,false,true⟩,qJK),
 (nJL,⟨false,false,false⟩,qJL),
 (nJM,⟨false,false,true⟩,qJM),
 (nJN,⟨false,false,false⟩,qJN),
 (nJO,⟨false,false,true⟩,qJO),
 (nJP,⟨false,false,false⟩,qJP),
 (nJQ,⟨false,false,false⟩,qJQ),
 (nJR,⟨true,false,false⟩,qJR),
 (nJS,⟨true,false,false⟩,qJS),
 (nJT,⟨false,false,false⟩,qJT),
 (nJU,⟨false,false,true⟩,qJU),
 (nJV,⟨true,false,false⟩,qJV),
 (nJW,⟨true,false,false⟩,qJW),
 (nJX,⟨false,false,true⟩,qJX),
 (nJY,⟨false,false,false⟩,qJY),
 (nJZ,⟨false,false,false⟩,qJZ),
 (nJ0,⟨false,false,true⟩,qJ0),
 (nJ1,⟨true,false,false⟩,qJ1),
 (nJ2,⟨false,false,true⟩,qJ2),
 (nJ3,⟨false,false,true⟩,qJ3),
 (nJ4,⟨false,false,false⟩,qJ4),
 (nJ5,⟨false,false,false⟩,qJ5),
 (nJ6,⟨false,false,true⟩,qJ6),
 (nJ7,⟨false,false,true⟩,qJ7),
 (nJ8,⟨false,false,false⟩,qJ8),
 (nJ9,⟨false,false,false⟩,qJ9),
 (E6,⟨true,false,false⟩,T3),
 (Pv,⟨false,false,true⟩,Wz),
 (Cq,⟨false,true,true⟩,Z4),
 (Pu,⟨false,false,false⟩,T2),
 (Pt,⟨false,false,true⟩,ZZ),
 (Mu,⟨false,false,true⟩,ZY),
 (Ps,⟨false,false,false⟩,Wy),
 (Ul,⟨false,false,true⟩,ZX),
 (Mt,⟨false,false,true⟩,ZW),
 (Pr,⟨false,false,true⟩,qJa9),
 (Pq,⟨false,false,false⟩,qJb0)]
def W9 : Nat := 0
def KA : List Int := [0,1,56,2,57,49,28,3,61,58,42,50,38,29,17,4,62,47,59,36,45,43,51,22,53,39,33,30,24,18,12,5,63,55,48,27,60,41,37,16,46,35,44,21,52,32,23,11,54,26,40,15,34,20,31,10,25,14,19,9,13,8,7,6]
def tabA : List AV := KA.map (AV.int .u8)
def cfg : dN := ⟨look fns,fun i => if i = W9 then tabA else [],fun _ => none,fun _ => none,fun _ => none,fun _ => false,fun _ => false,fun _ => none⟩
theorem kJa : cj aq Go.Proofs.Tryd.f3 Z5 = true := by kernel_rfl
theorem kJb : cj aq Go.Proofs.Tryd.f4 qJb = true := by kernel_rfl
theorem kJc : cj aq Go.Proofs.Tryd.f5 qJc = true := by kernel_rfl
theorem kJd : cj aq Go.Proofs.Tryd.f6 qJd = true := by kernel_rfl
theorem kJe : cj aq Go.Proofs.Tryd.f7 qJe = true := by kernel_rfl
theorem kJf : cj aq Go.Proofs.Tryd.f8 qJf = true := by kernel_rfl
theorem kJg : cj aq Go.Proofs.Tryd.f9 qJg = true := by kernel_rfl
theorem kJh : cj aq Go.Proofs.Tryd.f10 qJh = true := by kernel_rfl
theorem kJi : cj aq Go.Proofs.Tryd.f11 qJi = true := by kernel_rfl
theorem kJj : cj aq Go.Proofs.Tryd.f12 ZV = true := by kernel_rfl
theorem kJk : cj aq Go.Proofs.Tryd.f13 qJk = true := by kernel_rfl
theorem kJl : cj aq Go.Proofs.Tryd.f14 qJl = true := by kernel_rfl
theorem kJm : cj aq Go.Proofs.Tryd.f15 qJm = true := by kernel_rfl
theorem kJn : cj aq Go.Proofs.Tryd.f16 qJn = true := by kernel_rfl
theorem kJo : cj aq Go.Proofs.Tryd.f17 qJo = true := by kernel_rfl
theorem kJp : cj aq Go.Proofs.Tryd.f18 qJp = true := by kernel_rfl
theorem kJq : cj aq Go.Proofs.Tryd.f19 qJq = true := by kernel_rfl
theorem kJr : cj aq Go.Proofs.Tryd.f20 qJr = true := by kernel_rfl
theorem kJs : cj aq Go.Proofs.Tryd.f21 qJs = true := by kernel_rfl
theorem kJt : cj aq Go.Proofs.Tryd.f22 qJt = true := by kernel_rfl
theorem kJu : cj aq Go.Proofs.Tryd.f23 qJu = true := by kernel_rfl
theorem kJv : cj aq Go.Proofs.Tryd.f24 qJv = true := by kernel_rfl
theorem kJw : cj aq Go.Proofs.Tryd.f25 qJw = true := by kernel_rfl
theorem kJx : cj aq Go.Proofs.Tryd.f26 qJx = true := by kernel_rfl
theorem kJy : cj aq Go.Proofs.Tryd.f27 qJy = true := by kernel_rfl
theorem kJz : cj aq Go.Proofs.Tryd.f28 qJz = true := by kernel_rfl
theorem kJA : cj aq Go.Proofs.Tryd.f29 qJA = true := by kernel_rfl
theorem kJB : cj aq Go.Proofs.Tryd.f30 qJB = true := by kernel_rfl
theorem kJC : cj aq Go.Proofs.Tryd.f31 qJC = true := by kernel_rfl
theorem kJD : cj aq Go.Proofs.Tryd.f32 qJD = true := by kernel_rfl
theorem kJE : cj aq Go.Proofs.Tryd.f33 qJE = true := by kernel_rfl
theorem kJF : cj aq Go.Proofs.Tryd.f34 qJF = true := by kernel_rfl
theorem kJG : cj aq Go.Proofs.Tryd.f35 qJG = true := by kernel_rfl
theorem kJH : cj aq Go.Proofs.Tryd.f36 qJH = true := by kernel_rfl
theorem kJI : cj aq Go.Proofs.Tryd.f37 qJI = true := by kernel_rfl
theorem kJJ : cj aq Go.Proofs.Tryd.f38 qJJ = true := by kernel_rfl
theorem kJK : cj aq Go.Proofs.Tryd.f39 qJK = true := by kernel_rfl
theorem kJL : cj aq Go.Proofs.Tryd.f40 qJL = true := by kernel_rfl
theorem kJM : cj aq Go.Proofs.Tryd.f41 qJM = true := by kernel_rfl
theorem kJN : cj aq Go.Proofs.Tryd.f42 qJN = true := by kernel_rfl
theorem kJO : cj aq Go.Proofs.Tryd.f43 qJO = true := by kernel_rfl
theorem kJP : cj aq Go.Proofs.Tryd.f44 qJP = true := by kernel_rfl
theorem kJQ : cj aq Go.Proofs.Tryd.f45 qJQ = true := by kernel_rfl
theorem kJR : cj aq Go.Proofs.Tryd.f46 qJR = true := by kernel_rfl
theorem kJS : cj aq Go.Proofs.Tryd.f47 qJS = true := by kernel_rfl
theorem kJT : cj aq Go.Proofs.Tryd.f48 qJT = true := by kernel_rfl
theorem kJU : cj aq Go.Proofs.Tryd.f49 qJU = true := by kernel_rfl
theorem kJV : cj aq Go.Proofs.Tryd.f50 qJV = true := by kernel_rfl
theorem kJW : cj aq Go.Proofs.Tryd.f51 qJW = true := by kernel_rfl
theorem kJX : cj aq Go.Proofs.Tryd.f52 qJX = true := by kernel_rfl
theorem kJY : cj aq Go.Proofs.Tryd.f53 qJY = true := by kernel_rfl
theorem kJZ : cj aq Go.Proofs.Tryd.f54 qJZ = true := by kernel_rfl
theorem kJ0 : cj aq Go.Proofs.Tryd.f55 qJ0 = true := by kernel_rfl
theorem kJ1 : cj aq Go.Proofs.Tryd.f56 qJ1 = true := by kernel_rfl
theorem kJ2 : cj aq Go.Proofs.Tryd.f57 qJ2 = true := by kernel_rfl
theorem kJ3 : cj aq Go.Proofs.Tryd.f58 qJ3 = true := by kernel_rfl
theorem kJ4 : cj aq Go.Proofs.Tryd.f59 qJ4 = true := by kernel_rfl
theorem kJ5 : cj aq Go.Proofs.Tryd.f60 qJ5 = true := by kernel_rfl
theorem kJ6 : cj aq Go.Proofs.Tryd.f61 qJ6 = true := by kernel_rfl
theorem kJ7 : cj aq Go.Proofs.Tryd.f62 qJ7 = true := by kernel_rfl
theorem kJ8 : cj aq Go.Proofs.Tryd.f63 qJ8 = true := by kernel_rfl
theorem kJ9 : cj aq Go.Proofs.Tryd.f64 qJ9 = true := by kernel_rfl
theorem kJa0 : cj aq Go.Proofs.Tryd.f65 T3 = true := by kernel_rfl
theorem kJa1 : cj aq Go.Proofs.Tryd.f66 Wz = true := by kernel_rfl
theorem kJa2 : cj aq Go.Proofs.Tryd.f67 Z4 = true := by kernel_rfl
theorem kJa3 : cj aq Go.Proofs.Tryd.f68 T2 = true := by kernel_rfl
theorem kJa4 : cj aq Go.Proofs.Tryd.f69 ZZ = true := by kernel_rfl
theorem kJa5 : cj aq Go.Proofs.Tryd.f70 ZY = true := by kernel_rfl
theorem kJa6 : cj aq Go.Proofs.Tryd.f71 Wy = true := by kernel_rfl
theorem kJa7 : cj aq Go.Proofs.Tryd.f72 ZX = true := by kernel_rfl
theorem kJa8 : cj aq Go.Proofs.Tryd.f73 ZW = true := by kernel_rfl
theorem kJa9 : cj aq Go.Proofs.Tryd.f74 qJa9 = true := by kernel_rfl
theorem kJb0 : cj aq Go.Proofs.Tryd.f75 qJb0 = true := by kernel_rfl
theorem MI : ∀ {l : List (Nat × Md × fO)} {f : Nat} {m : Md} {q : fO},look l f = some (m,q) -> (f,m,q) ∈ l
 | [],f,m,q,h => by simp [look] at h
 | (j,m',q') :: r,f,m,q,h => by
   unfold look at h;split at h
   ·rename_i he; subst he; simp at h; obtain ⟨rfl,rfl⟩ := h; simp
   ·exact List.mem_cons_of_mem _ (MI h)
def Good (p : Nat × Md × fO) : Prop := ∃ fn,aq.funcs[p.1]? = some fn /\ cj aq fn p.2.2 = true
def All (G : Nat × Md × fO -> Prop) : List (Nat × Md × fO) -> Prop
 | [] => True
 | p :: r => G p /\ All G r
theorem All.get {G : Nat × Md × fO -> Prop} : ∀ {l : List (Nat × Md × fO)},All G l -> ∀ p ∈ l,G p
 | [],_,p,h => by simp at h
 | q :: r,h,p,hp => by
   rcases List.mem_cons.1 hp with e | e
   ·subst e; exact h.1
   ·exact All.get h.2 p e
theorem abA : All Good fns := ⟨⟨_,Go.Proofs.Tryd.func3,kJa⟩,⟨_,Go.Proofs.Tryd.func4,kJb⟩,⟨_,Go.Proofs.Tryd.func5,kJc⟩,⟨_,Go.Proofs.Tryd.func6,kJd⟩,⟨_,Go.Proofs.Tryd.func7,kJe⟩,⟨_,Go.Proofs.Tryd.func8,kJf⟩,⟨_,Go.Proofs.Tryd.func9,kJg⟩,⟨_,Go.Proofs.Tryd.func10,kJh⟩,⟨_,Go.Proofs.Tryd.func11,kJi⟩,⟨_,Go.Proofs.Tryd.func12,kJj⟩,⟨_,Go.Proofs.Tryd.func13,kJk⟩,⟨_,Go.Proofs.Tryd.func14,kJl⟩,⟨_,Go.Proofs.Tryd.func15,kJm⟩,⟨_,Go.Proofs.Tryd.func16,kJn⟩,⟨_,Go.Proofs.Tryd.func17,kJo⟩,⟨_,Go.Proofs.Tryd.func18,kJp⟩,⟨_,Go.Proofs.Tryd.func19,kJq⟩,⟨_,Go.Proofs.Tryd.func20,kJr⟩,⟨_,Go.Proofs.Tryd.func21,kJs⟩,⟨_,Go.Proofs.Tryd.func22,kJt⟩,⟨_,Go.Proofs.Tryd.func23,kJu⟩,⟨_,Go.Proofs.Tryd.func24,kJv⟩,⟨_,Go.Proofs.Tryd.func25,kJw⟩,⟨_,Go.Proofs.Tryd.func26,kJx⟩,⟨_,Go.Proofs.Tryd.func27,kJy⟩,⟨_,Go.Proofs.Tryd.func28,kJz⟩,⟨_,Go.Proofs.Tryd.func29,kJA⟩,⟨_,Go.Proofs.Tryd.func30,kJB⟩,⟨_,Go.Proofs.Tryd.func31,kJC⟩,⟨_,Go.Proofs.Tryd.func32,kJD⟩,⟨_,Go.Proofs.Tryd.func33,kJE⟩,⟨_,Go.Proofs.Tryd.func34,kJF⟩,⟨_,Go.Proofs.Tryd.func35,kJG⟩,⟨_,Go.Proofs.Tryd.func36,kJH⟩,⟨_,Go.Proofs.Tryd.func37,kJI⟩,⟨_,Go.Proofs.Tryd.func38,kJJ⟩,⟨_,Go.Proofs.Tryd.func39,kJK⟩,⟨_,Go.Proofs.Tryd.func40,kJL⟩,⟨_,Go.Proofs.Tryd.func41,kJM⟩,⟨_,Go.Proofs.Tryd.func42,kJN⟩,⟨_,Go.Proofs.Tryd.func43,kJO⟩,⟨_,Go.Proofs.Tryd.func44,kJP⟩,⟨_,Go.Proofs.Tryd.func45,kJQ⟩,⟨_,Go.Proofs.Tryd.func46,kJR⟩,⟨_,Go.Proofs.Tryd.func47,kJS⟩,⟨_,Go.Proofs.Tryd.func48,kJT⟩,⟨_,Go.Proofs.Tryd.func49,kJU⟩,⟨_,Go.Proofs.Tryd.func50,kJV⟩,⟨_,Go.Proofs.Tryd.func51,kJW⟩,⟨_,Go.Proofs.Tryd.func52,kJX⟩,⟨_,Go.Proofs.Tryd.func53,kJY⟩,⟨_,Go.Proofs.Tryd.func54,kJZ⟩,⟨_,Go.Proofs.Tryd.func55,kJ0⟩,⟨_,Go.Proofs.Tryd.func56,kJ1⟩,⟨_,Go.Proofs.Tryd.func57,kJ2⟩,⟨_,Go.Proofs.Tryd.func58,kJ3⟩,⟨_,Go.Proofs.Tryd.func59,kJ4⟩,⟨_,Go.Proofs.Tryd.func60,kJ5⟩,⟨_,Go.Proofs.Tryd.func61,kJ6⟩,⟨_,Go.Proofs.Tryd.func62,kJ7⟩,⟨_,Go.Proofs.Tryd.func63,kJ8⟩,⟨_,Go.Proofs.Tryd.func64,kJ9⟩,⟨_,Go.Proofs.Tryd.func65,kJa0⟩,⟨_,Go.Proofs.Tryd.func66,kJa1⟩,⟨_,Go.Proofs.Tryd.func67,kJa2⟩,⟨_,Go.Proofs.Tryd.func68,kJa3⟩,⟨_,Go.Proofs.Tryd.func69,kJa4⟩,⟨_,Go.Proofs.Tryd.func70,kJa5⟩,⟨_,Go.Proofs.Tryd.func71,kJa6⟩,⟨_,Go.Proofs.Tryd.func72,kJa7⟩,⟨_,TD,kJa8⟩,⟨_,TC,kJa9⟩,⟨_,TB,kJb0⟩,trivial⟩
theorem acw : fk aq cfg := ⟨by kernel_rfl,fun f m q h => abA.get _ (MI h)⟩
end Go.BmP
