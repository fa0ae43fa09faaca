/- The compact code of the functions, printed by program off the translation. -/
import Derived.Test.YtmildmgogdmknaaGreatDoorChecked
import Derived.Test.YtmildmgogdmknaaGreatDoorBmA
import Derived.KernelRfl
set_option maxRecDepth 100000
open Go.Proofs.Tryz renaming prog → aj
namespace Go.BmP
open Go.Am Go.Bm
abbrev oo (d:Nat) (x:Kd):O:=⟨some d,none,x⟩
abbrev gf (d g:Nat) (k:Kd):O:=⟨some d,some (g,false),k⟩
abbrev gt (d g:Nat) (k:Kd):O:=⟨some d,some (g,true),k⟩
abbrev oz (x:Kd):O:=⟨none,none,x⟩
abbrev ki (n:Nat):E:=.k (.int .i64 n)
abbrev cS (d a:Nat):O:=⟨some d,none,.mv (.t a)⟩
abbrev pT (d a:Nat):O:=⟨some d,none,.ld none (.t a)⟩
abbrev pX (d n:Nat):O:=⟨some d,none,.mv (.k (.int .i64 n))⟩
abbrev FG (d k a b:Nat):O:=⟨some d,none,.fm k (.t a) (.t b)⟩
abbrev Gl (d k a:Nat):O:=⟨some d,none,.fk k (.t a)⟩
abbrev OY (d a:Nat):O:=⟨some d,none,.len (.t a)⟩
abbrev PO (d k a:Nat):O:=⟨some d,none,.ld (some k) (.t a)⟩
abbrev PR (d a n:Nat):O:=⟨some d,none,.bin .add (.t a) (.k (.int .i64 n))⟩
abbrev Rj (d a b:Nat):O:=⟨some d,none,.bin .lss (.t a) (.t b)⟩
abbrev Rl (d k:Nat):O:=⟨some d,none,.mv (.k (.own k []))⟩
abbrev PQ (d f a:Nat):O:=⟨some d,none,.call f [.t a]⟩
abbrev Al (d f a b:Nat):O:=⟨some d,none,.call f [.t a,.t b]⟩
abbrev Rm (d k a:Nat):O:=⟨some d,none,.ext k (.t a)⟩
abbrev cL (d g a:Nat):O:=⟨some d,some (g,false),.mv (.t a)⟩
abbrev sK (d g a:Nat):O:=⟨some d,some (g,true),.mv (.t a)⟩
abbrev kR (k a b:Nat):O:=⟨none,none,.st k (.t a) (.t b)⟩
abbrev Rk (d:Nat) (b:Bool):O:=⟨some d,none,.mv (.k (.bool b))⟩
abbrev oW (d a:Nat):O:=⟨some d,none,.box (.t a)⟩
abbrev yV (d a b:Nat):O:=⟨some d,none,.pick (.t a) (.k (.bool true)) (.t b)⟩
abbrev O6 (d a b:Nat):O:=⟨some d,none,.pick (.t a) (.t b) (.k (.bool false))⟩
abbrev Hq (d g a:Nat):O:=⟨some d,some (g,false),.ld none (.t a)⟩
abbrev Sq (d g a:Nat):O:=⟨some d,some (g,true),.ld none (.t a)⟩
abbrev L4 (d k a b:Nat):O:=⟨some d,none,.app k (.t a) (.t b)⟩
abbrev Pv (d g k a:Nat):O:=⟨some d,some (g,false),.fk k (.t a)⟩
abbrev PJ (d a n:Nat):O:=⟨some d,none,.bin .neq (.t a) (.k (.int .i64 n))⟩
abbrev R5 (d a n:Nat):O:=⟨some d,none,.bin .lss (.t a) (.k (.int .i64 n))⟩
abbrev cU (r:List O) (l:List Nat) (x:C):C:=.seq (.aN r false [] l) x
abbrev Nr (r:List O) (l:List Nat):C:=.aN r false [] l
abbrev PS (g e:Nat):C:=.cond (.t g) .skip (.exit e)
def nQa:Nat:=3
def nQb:Nat:=4
def nQc:Nat:=5
def nQd:Nat:=6
def nQe:Nat:=7
def nQf:Nat:=8
def nQg:Nat:=9
def WU:Nat:=10
def nQi:Nat:=11
def TU:Nat:=12
def nQk:Nat:=13
def Sd:Nat:=14
def nQm:Nat:=15
def TR:Nat:=16
def nQo:Nat:=17
def nQp:Nat:=18
def Z2:Nat:=19
def Z0:Nat:=20
def TQ:Nat:=21
def nQt:Nat:=22
def KF:Nat:=23
def nQv:Nat:=24
def nQw:Nat:=25
def nQx:Nat:=26
def TP:Nat:=27
def nQz:Nat:=28
def nQA:Nat:=29
def Z4:Nat:=30
def Sg:Nat:=31
def nQD:Nat:=32
def nQE:Nat:=33
def nQF:Nat:=34
def nQG:Nat:=35
def Z3:Nat:=36
def nQI:Nat:=37
def nQJ:Nat:=38
def nQK:Nat:=39
def nQL:Nat:=40
def nQM:Nat:=41
def nQN:Nat:=42
def nQO:Nat:=43
def nQP:Nat:=44
def nQQ:Nat:=45
def nQR:Nat:=46
def nQS:Nat:=47
def nQT:Nat:=48
def Sf:Nat:=49
def nQV:Nat:=50
def Se:Nat:=51
def nQX:Nat:=52
def nQY:Nat:=53
def nQZ:Nat:=54
def nQ0:Nat:=55
def nQ1:Nat:=56
def nQ2:Nat:=57
def nQ3:Nat:=58
def nQ4:Nat:=59
def nQ5:Nat:=60
def nQ6:Nat:=61
def nQ7:Nat:=62
def nQ8:Nat:=63
def ij:Nat:=64
def MU:Nat:=65
def MT:Nat:=66
def MS:Nat:=67
def MR:Nat:=68
def KO:Nat:=69
def KN:Nat:=70
def F7:Nat:=71
def nQa7:Nat:=72
def KM:Nat:=73
def MQ:Nat:=74
def KL:Nat:=75
def KK:Nat:=76
def MP:Nat:=77
def MO:Nat:=78
def MN:Nat:=79
def MM:Nat:=80
def Ic:Nat:=81
def ML:Nat:=82
def KJ:Nat:=83
def KI:Nat:=84
def MK:Nat:=85
def MJ:Nat:=86
def nQc2:Nat:=87
def MI:Nat:=88
def KH:Nat:=89
def MH:Nat:=90
def ES:Nat:=91
def MG:Nat:=92
def MF:Nat:=93
def nQc9:Nat:=94
def nQd0:Nat:=95
def KG:Nat:=96
def F6:Nat:=97
def ME:Nat:=98
def MD:Nat:=99
def yq:List O:=[oW 6 2,Rk 8 false]
def yp:List O:=[cS 37 0,PQ 38 nQb 37,oo 39<|.un .not (.t 38),cS 40 39,cL 41 40 1,gf 42 40<|.len (.t 41),gf 43 40<|.bin .gtr (.t 42) (ki 70),yV 44 40 43,cS 45 44,gf 46 45<|.ld (some 2) (.t 6),gf 47 45<|.call nQc [.t 46,ki 9],gf 48 45<|.un .not (.t 47),yV 49 45 48]
def yn:List O:=[oo 50<|.call nQd [],cS 8 50]
def ym:List O:=[cS 51 0,PQ 52 nQe 51,cS 9 52]
def yl:List O:=[cS 53 9,oo 54<|.call nQf [.t 53,ki 8],oo 10<|.new [.int .i64 0,.own 2 []],kR 2 10 54]
def yk:List O:=[PO 55 2 10,PO 56 2 6,cS 57 9,PO 58 2 10,Al 59 nQg 57 58,oo 60<|.dK 2 3 [.int .i64 0,.own 2 []] [(0,2,.t 55),(2,2,.t 56),(4,2,.t 59)],OY 61 60,pX 62 0]
def yj:List O:=[Rj 63 62 61]
def yh:List O:=[FG 64 2 60 62,PO 65 2 64,oo 12<|.new [.int .i64 0,.own 2 []],kR 2 12 65]
def yg:List O:=[Gl 66 1 12,pT 67 66,OY 68 67,oo 69<|.bin .gtr (.t 68) (ki 40)]
def yf:List O:=[PO 71 2 12,PQ 72 WU 71,cS 70 72,Rm 73 0 70,Rm 74 1 70,cS 13 73,cS 14 74]
def re:List O:=[PO 76 2 12,PQ 77 nQi 76,cS 75 77,Rm 78 0 75,Rm 79 1 75,cS 15 78,cS 16 79]
def q9:List O:=[PO 81 2 12,PQ 82 TU 81,cS 80 82,Rm 83 0 80,Rm 84 1 80,cS 17 83,cS 18 84]
def q8:List O:=[PO 86 2 12,PQ 87 nQk 86,cS 85 87,Rm 88 0 85,Rm 89 1 85,cS 19 88,cS 20 89]
def q7:List O:=[PO 91 2 12,PQ 92 Sd 91,cS 90 92,Rm 93 0 90,Rm 94 1 90,cS 21 93,cS 22 94]
def q6:List O:=[PO 96 2 12,PQ 97 nQm 96,cS 95 97,Rm 98 0 95,Rm 99 1 95,cS 23 98,cS 24 99]
def q5:List O:=[cS 100 14,cS 101 16,oo 102<|.bin .neq (.t 100) (.t 101),cS 103 102,cL 104 103 18,cL 105 103 20,gf 106 103<|.bin .neq (.t 104) (.t 105),yV 107 103 106,cS 108 107,cL 109 108 22,cL 110 108 24,gf 111 108<|.bin .neq (.t 109) (.t 110),yV 112 108 111,cS 113 112,cL 114 113 17,cL 115 113 19,gf 116 113<|.bin .neq (.t 114) (.t 115),yV 117 113 116,cS 118 117,cL 119 118 13,cL 120 118 15,gf 121 118<|.call TR [.t 119,.t 120],gf 122 118<|.bin .neq (.t 121) (ki 0),yV 123 118 122,cS 124 123,cL 125 124 21,cL 126 124 23,gf 127 124<|.call TR [.t 125,.t 126],gf 128 124<|.bin .neq (.t 127) (ki 0),yV 129 124 128]
def qZ:List O:=[Rk 8 false]
def qY:List O:=[cS 130 1,cS 131 9,Gl 132 0 12,pT 133 132,oo 134<|.min [.t 133,ki 70],oo 135<|.max [ki 0,.t 134],Al 136 nQo 131 135,cS 137 9,oo 138<|.call nQp [.t 137,ki 5],oo 139<|.dK 1 3 [.own 1 []] [(0,1,.t 130),(1,1,.t 136),(2,1,.t 138)],OY 140 139,pX 141 0]
def qX:List O:=[Rj 142 141 140]
def qW:List O:=[FG 143 1 139 141,pT 144 143,cS 26 144]
def qV:List O:=[PO 146 2 12,cS 147 26,Al 148 Z2 146 147,cS 145 148,Rm 149 0 145,Rm 150 1 145,cS 27 149,cS 28 150]
def qU:List O:=[PO 152 2 12,cS 153 26,Al 154 Z0 152 153,cS 151 154,Rm 155 0 151,Rm 156 1 151,cS 29 155,cS 30 156]
def qT:List O:=[cS 157 28,cS 158 30,oo 159<|.bin .neq (.t 157) (.t 158),cS 160 159,cL 161 160 27,cL 162 160 29,gf 163 160<|.call TR [.t 161,.t 162],gf 164 160<|.bin .neq (.t 163) (ki 0),yV 165 160 164,cS 166 165,gf 167 166<|.ld (some 2) (.t 12),cL 168 166 26,gf 169 166<|.call TQ [.t 167,.t 168],gf 170 166<|.ld (some 2) (.t 12),cL 171 166 26,gf 172 166<|.call nQt [.t 170,.t 171],gf 173 166<|.eq true .bool (.t 169) (.t 172),yV 174 166 173,cS 175 174,gf 176 175<|.ld (some 2) (.t 12),cL 177 175 27,gf 178 175<|.call TQ [.t 176,.t 177],gf 179 175<|.ld (some 2) (.t 12),cL 180 175 27,gf 181 175<|.call nQt [.t 179,.t 180],gf 182 175<|.eq true .bool (.t 178) (.t 181),yV 183 175 182]
def qS:List O:=[Rk 8 false]
def qR:List O:=[cS 184 3,cS 185 9,oo 186<|.call KF [.t 185,ki 7],oo 187<|.dK 1 2 [.int .i64 0] [(0,1,.t 184),(1,1,.t 186)],OY 188 187,pX 189 0]
def qQ:List O:=[Rj 190 189 188]
def qP:List O:=[FG 191 1 187 189,pT 192 191,cS 32 192]
def qO:List O:=[PO 194 2 12,cS 195 26,cS 196 32,oo 197<|.call nQv [.t 194,.t 195,.t 196],cS 193 197,Rm 198 0 193,Rm 199 1 193,cS 33 198,cS 34 199]
def qN:List O:=[PO 201 2 12,cS 202 26,cS 203 32,oo 204<|.call nQw [.t 201,.t 202,.t 203],cS 200 204,Rm 205 0 200,Rm 206 1 200,cS 35 205,cS 36 206]
def qM:List O:=[cS 207 34,cS 208 36,oo 209<|.bin .neq (.t 207) (.t 208),cS 210 209,cL 211 210 33,cL 212 210 35,gf 213 210<|.eq true .bool (.t 211) (.t 212),yV 214 210 213]
def qL:List O:=[Rk 8 false]
def qK:List O:=[PR 215 189 1,cS 189 215]
def Uo:C:=(cU qQ [1,3,9,12,26,60,61,62,139,140,141,187,188,189,190] (.seq (PS 190 4) (.seq (.aO 5 (cU qP [1,3,9,12,26,32,60,61,62,139,140,141,187,188,189] (cU qO [1,3,9,12,26,32,33,34,60,61,62,139,140,141,187,188,189] (cU qN [1,3,9,12,26,33,34,35,36,60,61,62,139,140,141,187,188,189] (cU qM [1,3,9,12,26,60,61,62,139,140,141,187,188,189,214] (.cond (.t 214) (cU qL [8] .ret) .skip)))))) (Nr qK [1,3,9,12,26,60,61,62,139,140,141,187,188,189]))))
def qJ:List O:=[PR 216 141 1,cS 141 216]
def Un:C:=(cU qX [1,3,9,12,60,61,62,139,140,141,142] (.seq (PS 142 2) (.seq (.aO 3 (cU qW [1,3,9,12,26,60,61,62,139,140,141] (cU qV [1,3,9,12,26,27,28,60,61,62,139,140,141] (cU qU [1,3,9,12,26,27,28,29,30,60,61,62,139,140,141] (.seq (.seq (.aN qT true [(2,2),(3,3),(6,6),(7,7),(8,8),(9,9),(15,15),(16,16),(17,17),(18,18),(24,24),(25,25),(26,26),(10,11),(10,13),(11,13),(12,13),(10,14),(12,14),(13,14),(19,20),(19,22),(20,22),(21,22),(19,23),(21,23),(22,23)] [1,3,9,12,26,60,61,62,139,140,141,183]) (.cond (.t 183) (cU qS [8] .ret) .skip)) (cU qR [1,3,9,12,26,60,61,62,139,140,141,187,188,189] (.aO 4 (.loop Uo)))))))) (Nr qJ [1,3,9,12,60,61,62,139,140,141]))))
def qI:List O:=[PR 217 62 1,cS 62 217]
def O3:C:=(cU yj [1,3,9,60,61,62,63] (.seq (PS 63 0) (.seq (.aO 1 (cU yh [1,3,9,12,60,61,62] (.seq (cU yg [1,3,9,12,60,61,62,69] (.cond (.t 69) (.exit 1) .skip)) (cU yf [1,3,9,12,13,14,60,61,62] (cU re [1,3,9,12,13,14,15,16,60,61,62] (cU q9 [1,3,9,12,13,14,15,16,17,18,60,61,62] (cU q8 [1,3,9,12,13,14,15,16,17,18,19,20,60,61,62] (cU q7 [1,3,9,12,13,14,15,16,17,18,19,20,21,22,60,61,62] (cU q6 [1,3,9,12,13,14,15,16,17,18,19,20,21,22,23,24,60,61,62] (.seq (cU q5 [1,3,9,12,60,61,62,129] (.cond (.t 129) (cU qZ [8] .ret) .skip)) (cU qY [1,3,9,12,60,61,62,139,140,141] (.aO 2 (.loop Un))))))))))))) (Nr qI [1,3,9,60,61,62]))))
def qH:List O:=[oo 218<|.call nQd [],cS 8 218]
def cQa:C:=(cU yq [0,1,3,6] (.seq (cU yp [0,1,3,6,49] (.cond (.t 49) (cU yn [8] .ret) .skip)) (cU ym [1,3,6,9] (cU yl [1,3,6,9,10] (.seq (.seq (.aN yk true [(0,1),(0,2),(1,2),(0,3),(1,3),(2,3),(0,4),(1,4),(0,7),(1,7),(3,7),(4,7),(5,7)] [1,3,9,60,61,62]) (.aO 0 (.loop O3))) (cU qH [8] .ret))))))
def qQa:fK:=⟨219,4,[.t 8],cQa⟩
def aiB:List O:=[Rk 2 false]
def aiA:List O:=[cS 3 0,OY 4 3,oo 5<|.bin .leq (.t 4) (ki 500),cS 2 5]
def cQb:C:=(cU aiB [0] (cU aiA [2] .ret))
def qQb:fK:=⟨6,1,[.t 2],cQb⟩
def YV:List O:=[oW 2 0,Rk 4 false]
def YU:List O:=[Gl 5 0 2,pT 6 5,cS 7 1,oo 8<|.bin .leq (.t 6) (.t 7),cS 9 8,gt 10 9<|.fk 1 (.t 2),Sq 11 9 10,gt 12 9<|.len (.t 11),sK 13 9 1,sK 14 9 1,gt 15 9<|.bin .mul (.t 13) (.t 14),gt 16 9<|.bin .leq (.t 12) (.t 15),O6 17 9 16,cS 4 17]
def cQc:C:=(cU YV [1,2] (cU YU [4] .ret))
def qQc:fK:=⟨18,2,[.t 4],cQc⟩
def aiz:List O:=[Rk 0 false]
def aiy:List O:=[oo 10<|.build [.int .i64 0,.int .i64 0] [(0,1,ki 0),(1,1,ki 1)],oo 11<|.build [.int .i64 0,.int .i64 0] [(0,1,ki 1),(1,1,ki 2)],oo 12<|.build [.int .i64 0,.int .i64 0] [(0,1,ki 2),(1,1,ki 3)],oo 13<|.build [.int .i64 0,.int .i64 0] [(0,1,ki 3),(1,1,ki 4)],oo 14<|.build [.int .i64 0,.int .i64 0] [(0,1,ki 4),(1,1,ki 0)],oo 15<|.dK 2 5 [.int .i64 0,.int .i64 0] [(0,2,.t 10),(2,2,.t 11),(4,2,.t 12),(6,2,.t 13),(8,2,.t 14)],oo 16<|.call nQx [ki 5,.t 15],cS 9 16,Rm 17 0 9,Rm 18 1 9,oo 1<|.new [.int .i64 0,.own 2 []],kR 2 1 17,cS 2 18]
def aix:List O:=[PO 20 2 1,PQ 21 WU 20,cS 19 21,Rm 22 0 19,Rm 23 1 19,cS 3 22,cS 4 23]
def aiw:List O:=[PO 25 2 1,PQ 26 TU 25,cS 24 26,Rm 27 0 24,Rm 28 1 24,cS 5 27,cS 6 28]
def aiv:List O:=[PO 30 2 1,PQ 31 Sd 30,cS 29 31,Rm 32 0 29,Rm 33 1 29,cS 7 32,cS 8 33]
def aiu:List O:=[cS 34 4,oo 35<|.bin .eql (.t 34) (ki 0),cS 36 35,sK 37 36 3,gt 38 36<|.dK 1 2 [.int .i64 0] [(0,1,ki 0),(1,1,ki 1)],gt 39 36<|.call TR [.t 37,.t 38],gt 40 36<|.bin .eql (.t 39) (ki 0),O6 41 36 40,cS 42 41,sK 43 42 6,gt 44 42<|.bin .eql (.t 43) (ki 0),O6 45 42 44,cS 46 45,sK 47 46 5,gt 48 46<|.bin .eql (.t 47) (ki 3),O6 49 46 48,cS 50 49,sK 51 50 8,gt 52 50<|.bin .eql (.t 51) (ki 0),O6 53 50 52,cS 54 53,gt 55 54<|.ld (some 2) (.t 1),sK 56 54 7,gt 57 54<|.call TQ [.t 55,.t 56],O6 58 54 57,cS 0 58]
def cQd:C:=(cU aiz [] (cU aiy [1] (cU aix [1,3,4] (cU aiw [1,3,4,5,6] (cU aiv [1,3,4,5,6,7,8] (cU aiu [0] .ret))))))
def qQd:fK:=⟨59,0,[.t 0],cQd⟩
def ait:List O:=[oo 2<|.mv (.k .gq)]
def ais:List O:=[cS 3 0,oo 4<|.build [.own 1 [],.int .i64 0] [(0,1,.t 3)],oW 5 4,cS 2 5]
def cQe:C:=(cU ait [0] (cU ais [2] .ret))
def qQe:fK:=⟨6,1,[.t 2],cQe⟩
def G2:List O:=[oo 4<|.new [.int .i64 0,.own 2 []]]
def G1:List O:=[cS 9 0,cS 10 1,PR 11 10 1,Al 12 KF 9 11,oo 13<|.build [.int .i64 0,.own 2 []] [(0,1,.t 12)],oo 5<|.new [.int .i64 0,.own 2 []],kR 2 5 13]
def G0:List O:=[Gl 14 0 5,pT 15 14,R5 16 15 4]
def GZ:List O:=[cS 17 1,Gl 18 0 5,pT 19 18,cS 20 0,cS 21 1,PR 22 21 1,Al 23 KF 20 22,oo 24<|.bin .add (.t 19) (.t 23),oo 25<|.min [.t 17,.t 24],Gl 26 0 5,kR 1 26 25]
def GY:List O:=[cS 27 0,oo 28<|.call KF [.t 27,ki 4],oo 29<|.bin .add (ki 1) (.t 28),cS 6 29]
def GX:List O:=[pX 7 0]
def GW:List O:=[cS 30 7,Gl 31 0 5,pT 32 31,Rj 33 30 32]
def GV:List O:=[cS 36 7,PR 37 36 1,cS 8 37]
def GU:List O:=[cS 38 8,Gl 39 0 5,pT 40 39,Rj 41 38 40]
def GR:List O:=[cS 44 0,oo 45<|.call KF [.t 44,ki 5],cS 46 6,oo 47<|.bin .sub (ki 5) (.t 46),oo 48<|.bin .geq (.t 45) (.t 47)]
def zh:List O:=[Gl 49 1 5,pT 50 49,cS 51 7,cS 52 8,oo 53<|.build [.int .i64 0,.int .i64 0] [(0,1,.t 51),(1,1,.t 52)],oo 54<|.dK 2 1 [.int .i64 0,.int .i64 0] [(0,2,.t 53)],L4 55 2 50 54,Gl 56 1 5,kR 1 56 55]
def zg:List O:=[cS 42 8,PR 43 42 1,cS 8 43]
def K5:C:=(.seq (cU GU [0,4,5,6,7,8,41] (PS 41 2)) (.seq (.aO 3 (cU GR [0,4,5,6,7,8,48] (.cond (.t 48) (Nr zh [0,4,5,6,7,8]) .skip))) (Nr zg [0,4,5,6,7,8])))
def zf:List O:=[cS 34 7,PR 35 34 1,cS 7 35]
def Um:C:=(.seq (cU GW [0,4,5,6,7,33] (PS 33 0)) (.seq (.aO 1 (cU GV [0,4,5,6,7,8] (.aO 2 (.loop K5)))) (Nr zf [0,4,5,6,7])))
def ze:List O:=[PO 57 2 5,kR 2 4 57]
def cQf:C:=(cU G2 [0,1,4] (cU G1 [0,1,4,5] (.seq (cU G0 [0,1,4,5,16] (.cond (.t 16) (.aN GZ true [(8,8),(9,9),(10,10),(0,2),(2,3),(2,4),(2,5),(0,6),(1,6),(2,6)] [0,4,5]) .skip)) (cU GY [0,4,5,6] (.seq (cU GX [0,4,5,6,7] (.aO 0 (.loop Um))) (cU ze [4] .ret))))))
def qQf:fK:=⟨58,2,[.c 4 (some 2)],cQf⟩
def ye:List O:=[oW 3 1,oo 4<|.new [.int .i64 0,.own 2 []]]
def yd:List O:=[Gl 7 1 3,pT 8 7,oo 9<|.app 2 (.k (.own 2 [])) (.t 8),Gl 10 1 3,kR 1 10 9]
def yc:List O:=[Gl 11 1 3,pT 12 11,OY 13 12,cS 5 13]
def yb:List O:=[cS 14 0,oo 15<|.call KF [.t 14,ki 6]]
def ya:List O:=[oo 17<|.bin .eql (.t 15) (ki 0),cS 16 17]
def xZ:List O:=[cS 18 0,oo 19<|.call KF [.t 18,ki 70],oo 20<|.bin .sub (.t 19) (ki 2),Gl 21 0 3,kR 1 21 20]
def xY:List O:=[oo 23<|.bin .eql (.t 15) (ki 1),cS 22 23]
def xX:List O:=[cS 24 5,oo 25<|.bin .gtr (.t 24) (ki 0)]
def xW:List O:=[cS 26 0,cS 27 5,Al 28 KF 26 27,cS 6 28]
def xV:List O:=[Gl 29 1 3,pT 30 29,cS 31 6,Gl 32 1 3,pT 33 32,cS 34 6,Gl 35 1 3,pT 36 35,cS 37 6,FG 38 2 36 37,Gl 39 1 38,pT 40 39,Gl 41 1 3,pT 42 41,cS 43 6,FG 44 2 42 43,Gl 45 0 44,pT 46 45,FG 47 2 30 31,Gl 48 0 47,kR 1 48 40,FG 49 2 33 34,Gl 50 1 49,kR 1 50 46]
def qG:List O:=[oo 52<|.bin .eql (.t 15) (ki 2),cS 51 52]
def qF:List O:=[cS 53 5,oo 54<|.bin .gtr (.t 53) (ki 1)]
def qE:List O:=[Gl 55 1 3,pT 56 55,Gl 57 1 3,pT 58 57,cS 59 5,oo 60<|.bin .sub (.t 59) (ki 1),Gl 61 1 3,pT 62 61,cS 63 5,oo 64<|.bin .sub (.t 63) (ki 1),FG 65 2 62 64,PO 66 2 65,Gl 67 1 3,pT 68 67,oo 69<|.fm 2 (.t 68) (ki 0),PO 70 2 69,oo 71<|.fm 2 (.t 56) (ki 0),kR 2 71 66,FG 72 2 58 60,kR 2 72 70]
def qD:List O:=[oo 74<|.bin .eql (.t 15) (ki 3),cS 73 74]
def qC:List O:=[cS 75 5,oo 76<|.bin .gtr (.t 75) (ki 0)]
def qB:List O:=[Gl 77 1 3,pT 78 77,Gl 79 1 3,pT 80 79,cS 81 5,oo 82<|.bin .sub (.t 81) (ki 1),FG 83 2 80 82,PO 84 2 83,oo 85<|.dK 2 1 [.int .i64 0,.int .i64 0] [(0,2,.t 84)],L4 86 2 78 85,Gl 87 1 3,kR 1 87 86]
def qA:List O:=[oo 89<|.bin .eql (.t 15) (ki 4),cS 88 89]
def qz:List O:=[cS 90 5,oo 91<|.bin .gtr (.t 90) (ki 0)]
def qy:List O:=[Gl 92 1 3,pT 93 92,cS 94 0,cS 95 5,Al 96 KF 94 95,FG 97 2 93 96,Gl 98 1 97,pT 99 98,cS 100 0,oo 101<|.call KF [.t 100,ki 5],oo 102<|.bin .sub (.t 101) (ki 2),oo 103<|.bin .add (.t 99) (.t 102),FG 104 2 93 96,Gl 105 1 104,kR 1 105 103]
def qx:List O:=[PO 106 2 3,kR 2 4 106]
def cQg:C:=(cU ye [0,3,4] (cU yd [0,3,4] (.seq (cU yc [0,3,4,5] (cU yb [0,3,4,5,15] (.aO 0 (cU ya [0,3,4,5,15,16] (.cond (.t 16) (Nr xZ [3,4]) (cU xY [0,3,4,5,15,22] (.cond (.t 22) (cU xX [0,3,4,5,25] (.cond (.t 25) (cU xW [3,4,6] (.aN xV true [(21,21),(22,22),(23,23),(1,2),(1,3),(0,4),(1,4),(2,4),(1,5),(4,5),(1,6),(4,6),(0,7),(1,7),(2,7),(3,7),(4,7),(5,7),(1,8),(4,8),(7,8),(1,9),(4,9),(1,10),(4,10),(0,11),(1,11),(2,11),(3,11),(4,11),(5,11),(1,12),(4,12),(7,12),(11,12),(0,13),(1,13),(2,13),(3,13),(4,13),(5,13),(6,13),(7,13),(8,13),(9,13),(10,13),(11,13),(1,14),(4,14),(7,14),(11,14),(13,14),(1,15),(4,15),(7,15),(11,15),(1,16),(4,16),(7,16),(11,16),(0,17),(1,17),(2,17),(3,17),(4,17),(5,17),(6,17),(7,17),(8,17),(9,17),(10,17),(11,17),(4,18),(4,19),(3,20),(4,20),(5,20)] [3,4])) .skip)) (cU qG [0,3,4,5,15,51] (.cond (.t 51) (cU qF [3,4,5,54] (.cond (.t 54) (.aN qE true [(18,18),(19,19),(1,2),(0,3),(1,3),(1,4),(3,4),(1,5),(3,5),(1,6),(3,6),(0,7),(1,7),(2,7),(3,7),(4,7),(5,7),(1,8),(3,8),(7,8),(1,9),(3,9),(7,9),(1,10),(3,10),(0,11),(1,11),(2,11),(3,11),(4,11),(5,11),(1,12),(3,12),(7,12),(11,12),(0,13),(1,13),(2,13),(3,13),(4,13),(5,13),(6,13),(7,13),(8,13),(9,13),(10,13),(11,13),(1,14),(3,14),(7,14),(11,14),(0,15),(1,15),(2,15),(3,15),(4,15),(5,15),(6,15),(7,15),(8,15),(9,15),(10,15),(11,15),(3,16),(2,17),(3,17),(4,17),(5,17)] [3,4]) .skip)) (cU qD [0,3,4,5,15,73] (.cond (.t 73) (cU qC [3,4,5,76] (.cond (.t 76) (.aN qB true [(9,9),(10,10),(11,11),(1,2),(0,3),(1,3),(1,4),(3,4),(1,5),(3,5),(1,6),(0,7),(1,7),(0,8),(1,8)] [3,4]) .skip)) (cU qA [0,3,4,5,88] (.cond (.t 88) (cU qz [0,3,4,5,91] (.cond (.t 91) (.aN qy true [(11,11),(12,12),(13,13),(14,14),(1,2),(1,3),(0,4),(1,4),(1,8),(4,8),(7,8),(0,9),(1,9),(5,9),(6,9),(7,9),(1,10),(7,10)] [3,4]) .skip)) .skip))))))))))))) (cU qx [4] .ret))))
def Zq:fK:=⟨107,2,[.c 4 (some 2)],cQg⟩
def JE:List O:=[oW 1 0,Rl 2 1,pX 3 0]
def JD:List O:=[PO 12 2 1,PQ 13 TP 12,cS 4 13]
def JC:List O:=[cS 14 4,PJ 15 14 0]
def JB:List O:=[cS 16 4,Rl 2 1,cS 3 16]
def JA:List O:=[PO 17 2 1,PQ 18 nQz 17,cS 5 18]
def Jz:List O:=[Gl 19 0 1,pT 20 19,oo 21<|.bin .shl (.k (.int .u64 1)) (.t 20),oo 22<|.bin .sub (.t 21) (.k (.int .u64 1)),cS 6 22]
def Jy:List O:=[Rl 7 1]
def Jx:List O:=[cS 23 5,cS 24 6,oo 25<|.call nQA [.t 23,.t 24,ki 0],cS 8 25]
def Jw:List O:=[cS 26 8,oo 27<|.bin .gtr (.t 26) (ki 0)]
def Jv:List O:=[cS 30 6,cS 9 30]
def Cr:List O:=[cS 31 9,oo 32<|.bin .neq (.t 31) (.k (.int .u64 0))]
def Cq:List O:=[cS 37 9,PQ 38 Z4 37,cS 10 38]
def Cp:List O:=[cS 39 9,cS 40 10,oo 41<|.bin .shl (.k (.int .u64 1)) (.t 40),oo 42<|.bin .andNot (.t 39) (.t 41),cS 43 5,cS 44 10,FG 45 1 43 44,pT 46 45,oo 47<|.bin .and (.t 42) (.t 46),cS 11 47]
def Co:List O:=[cS 48 5,cS 49 11,cS 50 8,oo 51<|.bin .sub (.t 50) (ki 2),oo 52<|.call nQA [.t 48,.t 49,.t 51],cS 53 8,oo 54<|.bin .sub (.t 53) (ki 1),oo 55<|.bin .geq (.t 52) (.t 54)]
def Cn:List O:=[cS 56 7,cS 57 10,oo 58<|.dK 1 1 [.int .i64 0] [(0,1,.t 57)],L4 59 1 56 58,cS 60 11,cS 7 59,cS 6 60]
def Cm:List O:=[cS 33 9,cS 34 9,oo 35<|.bin .sub (.t 34) (.k (.int .u64 1)),oo 36<|.bin .and (.t 33) (.t 35),cS 9 36]
def aao:C:=(.seq (cU Cr [5,6,7,8,9,32] (PS 32 2)) (.seq (.aO 3 (cU Cq [5,6,7,8,9,10] (.seq (.aN Cp true [(8,8),(9,9),(0,7),(1,7),(2,7),(3,7)] [5,6,7,8,9,10,11]) (cU Co [5,6,7,8,9,10,11,55] (.cond (.t 55) (cU Cn [5,6,7,8] (.exit 2)) .skip))))) (Nr Cm [5,6,7,8,9])))
def Cl:List O:=[cS 28 8,oo 29<|.bin .sub (.t 28) (ki 1),cS 8 29]
def aan:C:=(.seq (cU Jw [5,6,7,8,27] (PS 27 0)) (.seq (.aO 1 (cU Jv [5,6,7,8,9] (.aO 2 (.loop aao)))) (Nr Cl [5,6,7,8])))
def Ck:List O:=[cS 61 7,cS 2 61,pX 3 0]
def cQh:C:=(cU JE [1] (.seq (cU JD [1,4] (cU JC [1,4,15] (.cond (.t 15) (cU JB [2,3] .ret) .skip))) (cU JA [1,5] (cU Jz [5,6] (cU Jy [5,6,7] (.seq (cU Jx [5,6,7,8] (.aO 0 (.loop aan))) (cU Ck [2,3] .ret)))))))
def qQh:fK:=⟨62,1,[.t 2,.t 3],cQh⟩
def EA:List O:=[oW 1 0,Rl 2 1,pX 3 0]
def Ez:List O:=[PO 8 2 1,PQ 9 Sg 8,cS 4 9]
def Ey:List O:=[cS 10 4,PJ 11 10 0]
def Ew:List O:=[cS 12 4,Rl 2 1,cS 3 12]
def Eu:List O:=[Rl 5 1]
def Er:List O:=[PO 13 2 1,oo 14<|.call nQD [.t 13,ki 1048576],cS 6 14]
def Ep:List O:=[pX 7 0]
def Eo:List O:=[cS 15 7,cS 16 6,OY 17 16,Rj 18 15 17]
def En:List O:=[cS 21 6,cS 22 7,FG 23 1 21 22,pT 24 23,OY 25 24,cS 26 5,OY 27 26,oo 28<|.bin .gtr (.t 25) (.t 27)]
def Em:List O:=[cS 29 6,cS 30 7,FG 31 1 29 30,pT 32 31,cS 5 32]
def wj:List O:=[cS 19 7,PR 20 19 1,cS 7 20]
def Ul:C:=(.seq (cU Eo [5,6,7,18] (PS 18 0)) (.seq (.aO 1 (cU En [5,6,7,28] (.cond (.t 28) (Nr Em [5,6,7]) .skip))) (Nr wj [5,6,7])))
def wi:List O:=[cS 33 5,cS 2 33,pX 3 0]
def cQi:C:=(cU EA [1] (.seq (cU Ez [1,4] (cU Ey [1,4,11] (.cond (.t 11) (cU Ew [2,3] .ret) .skip))) (cU Eu [1,5] (cU Er [5,6] (.seq (cU Ep [5,6,7] (.aO 0 (.loop Ul))) (cU wi [2,3] .ret))))))
def qQi:fK:=⟨34,1,[.t 2,.t 3],cQi⟩
def Tl:List O:=[oW 1 0,pX 2 0,pX 3 0]
def Tk:List O:=[PO 8 2 1,PQ 9 Sd 8,cS 7 9,Rm 10 0 7,Rm 11 1 7,cS 4 10,cS 5 11]
def Tj:List O:=[cS 12 5,PJ 13 12 0,cS 14 13,Pv 15 14 0 1,Hq 16 14 15,gf 17 14<|.bin .eql (.t 16) (ki 0),yV 18 14 17]
def Ti:List O:=[cS 19 5,pX 2 0,cS 3 19]
def Th:List O:=[PO 21 2 1,PQ 22 nQE 21,cS 20 22,Rm 23 0 20,Rm 24 1 20,cS 6 23,cS 5 24]
def Tg:List O:=[cS 25 5,PJ 26 25 0]
def Tf:List O:=[cS 27 5,pX 2 0,cS 3 27]
def Te:List O:=[cS 28 4,PQ 29 nQF 28,OY 30 29,cS 31 6,PR 32 31 1,oo 33<|.min [.t 30,.t 32],cS 2 33,pX 3 0]
def cQj:C:=(cU Tl [1] (cU Tk [1,4,5] (.seq (cU Tj [1,4,5,18] (.cond (.t 18) (cU Ti [2,3] .ret) .skip)) (cU Th [4,5,6] (.seq (cU Tg [4,5,6,26] (.cond (.t 26) (cU Tf [2,3] .ret) .skip)) (cU Te [2,3] .ret))))))
def qQj:fK:=⟨34,1,[.t 2,.t 3],cQj⟩
def NY:List O:=[oW 1 0,pX 2 0,pX 3 0]
def NX:List O:=[PO 9 2 1,PQ 10 nQm 9,cS 8 10,Rm 11 0 8,Rm 12 1 8,cS 4 11,cS 5 12]
def NW:List O:=[cS 13 5,PJ 14 13 0,cS 15 14,Pv 16 15 0 1,Hq 17 15 16,gf 18 15<|.bin .eql (.t 17) (ki 0),yV 19 15 18]
def NV:List O:=[cS 20 5,pX 2 0,cS 3 20]
def NU:List O:=[PO 22 2 1,PQ 23 nQG 22,cS 21 23,Rm 24 0 21,Rm 25 1 21,cS 6 24,cS 7 25]
def NT:List O:=[cS 26 4,PQ 27 Z3 26,OY 28 27,cS 29 6,PR 30 29 1,oo 31<|.min [.t 28,.t 30],cS 2 31,pX 3 0]
def cQk:C:=(cU NY [1] (cU NX [1,4,5] (.seq (cU NW [1,4,5,19] (.cond (.t 19) (cU NV [2,3] .ret) .skip)) (cU NU [4,6] (cU NT [2,3] .ret)))))
def qQk:fK:=⟨32,1,[.t 2,.t 3],cQk⟩
def acT:List O:=[oW 1 0,Rl 2 1,pX 3 0]
def acS:List O:=[PO 7 2 1,PQ 8 nQI 7,cS 6 8,Rm 9 0 6,Rm 10 1 6,cS 4 9,cS 5 10]
def acR:List O:=[cS 11 5,PJ 12 11 0]
def acQ:List O:=[cS 13 5,Rl 2 1,cS 3 13]
def acP:List O:=[cS 14 4,PQ 15 nQJ 14]
def acO:List O:=[PO 16 2 1,cS 17 4,Al 18 Z2 16 17,Rm 19 0 18,Rm 20 1 18,cS 2 19,cS 3 20]
def cQl:C:=(cU acT [1] (cU acS [1,4,5] (.seq (cU acR [1,4,5,12] (.cond (.t 12) (cU acQ [2,3] .ret) .skip)) (cU acP [1,4] (cU acO [2,3] .ret)))))
def qQl:fK:=⟨21,1,[.t 2,.t 3],cQl⟩
def Td:List O:=[oW 1 0,Rl 2 1,pX 3 0]
def Tc:List O:=[PO 9 2 1,PQ 10 nQK 9,cS 8 10,Rm 11 0 8,Rm 12 1 8,cS 4 11,cS 5 12]
def Tb:List O:=[cS 13 5,PJ 14 13 0]
def Ta:List O:=[cS 15 5,Rl 2 1,cS 3 15]
def S9:List O:=[Rl 6 1]
def S8:List O:=[cS 16 4,OY 17 16,oo 18<|.bin .sub (.t 17) (ki 1),cS 7 18]
def S7:List O:=[cS 19 7,oo 20<|.bin .geq (.t 19) (ki 0)]
def S6:List O:=[cS 23 6,cS 24 4,cS 25 7,FG 26 1 24 25,pT 27 26,oo 28<|.dK 1 1 [.int .i64 0] [(0,1,.t 27)],L4 29 1 23 28,cS 6 29]
def S5:List O:=[cS 21 7,oo 22<|.bin .sub (.t 21) (ki 1),cS 7 22]
def aam:C:=(.seq (cU S7 [1,4,6,7,20] (PS 20 0)) (.seq (.aO 1 (Nr S6 [1,4,6,7])) (Nr S5 [1,4,6,7])))
def S4:List O:=[PO 30 2 1,cS 31 6,Al 32 Z0 30 31,Rm 33 0 32,Rm 34 1 32,cS 2 33,cS 3 34]
def cQm:C:=(cU Td [1] (cU Tc [1,4,5] (.seq (cU Tb [1,4,5,14] (.cond (.t 14) (cU Ta [2,3] .ret) .skip)) (cU S9 [1,4,6] (.seq (cU S8 [1,4,6,7] (.aO 0 (.loop aam))) (cU S4 [2,3] .ret))))))
def qQm:fK:=⟨35,1,[.t 2,.t 3],cQm⟩
def El:List O:=[pX 4 0]
def Ek:List O:=[cS 6 0,OY 7 6,pX 8 0]
def Ej:List O:=[Rj 9 8 7]
def Ei:List O:=[cS 10 8,cS 5 10]
def Eh:List O:=[cS 12 5,cS 13 1,OY 14 13,oo 15<|.bin .geq (.t 12) (.t 14),cS 16 15,cL 17 16 0,cL 18 16 5,gf 19 16<|.fm 1 (.t 17) (.t 18),Hq 20 16 19,cL 21 16 1,cL 22 16 5,gf 23 16<|.fm 1 (.t 21) (.t 22),Hq 24 16 23,gf 25 16<|.bin .gtr (.t 20) (.t 24),yV 26 16 25,cS 11 26]
def Eg:List O:=[pX 4 1]
def Ef:List O:=[cS 28 0,cS 29 5,FG 30 1 28 29,pT 31 30,cS 32 1,cS 33 5,FG 34 1 32 33,pT 35 34,Rj 36 31 35,cS 27 36]
def Ee:List O:=[oo 4<|.mv (.k (.int .i64 (-1)))]
def Ec:List O:=[PR 37 8 1,cS 8 37]
def K4:C:=(cU Ej [0,1,7,8,9] (.seq (PS 9 0) (.seq (.aO 1 (cU Ei [0,1,5,7,8] (.aO 2 (.seq (.aN Eh true [(3,3),(4,4),(13,13),(14,14),(15,15),(8,9),(8,10),(8,11),(5,12),(6,12),(7,12),(8,12)] [0,1,5,7,8,11]) (.cond (.t 11) (cU Eg [4] .ret) (.seq (.aN Ef true [(8,8),(9,9),(3,4),(3,5),(3,6),(0,7),(1,7),(2,7),(3,7)] [0,1,7,8,27]) (.cond (.t 27) (cU Ee [4] .ret) .skip))))))) (Nr Ec [0,1,7,8]))))
def Eb:List O:=[cS 38 0,OY 39 38,cS 40 1,OY 41 40,Rj 42 39 41]
def wh:List O:=[oo 4<|.mv (.k (.int .i64 (-1)))]
def wg:List O:=[pX 4 0]
def cQn:C:=(cU El [0,1] (.seq (cU Ek [0,1,7,8] (.aO 0 (.loop K4))) (.seq (cU Eb [42] (.cond (.t 42) (cU wh [4] .ret) .skip)) (cU wg [4] .ret))))
def qQn:fK:=⟨43,2,[.t 4],cQn⟩
def YT:List O:=[Rl 4 1]
def YS:List O:=[Rl 5 1]
def YR:List O:=[pX 6 0]
def YQ:List O:=[cS 8 6,cS 9 1,Rj 10 8 9]
def YP:List O:=[cS 13 0,cS 14 6,PR 15 14 1,Al 16 KF 13 15,cS 7 16]
def YO:List O:=[cS 17 5,cS 18 7,oo 19<|.D5 1 (.t 17) none (some (.t 18)),cS 20 6,oo 21<|.dK 1 1 [.int .i64 0] [(0,1,.t 20)],cS 22 5,cS 23 7,oo 24<|.D5 1 (.t 22) (some (.t 23)) none,L4 25 1 21 24,L4 26 1 19 25,cS 5 26]
def YN:List O:=[cS 11 6,PR 12 11 1,cS 6 12]
def Uk:C:=(.seq (cU YQ [0,1,5,6,10] (PS 10 0)) (.seq (.aO 1 (cU YP [0,1,5,6,7] (.aN YO true [(9,9),(10,10),(0,4),(1,4),(2,4),(4,5),(4,6),(4,7),(0,8),(1,8),(2,8)] [0,1,5,6]))) (Nr YN [0,1,5,6])))
def YM:List O:=[cS 27 5,cS 4 27]
def cQo:C:=(cU YT [0,1] (cU YS [0,1,5] (.seq (cU YR [0,1,5,6] (.aO 0 (.loop Uk))) (cU YM [4] .ret))))
def qQo:fK:=⟨28,2,[.t 4],cQo⟩
def S3:List O:=[Rl 4 1]
def S2:List O:=[Rl 5 1]
def S0:List O:=[pX 6 0]
def SZ:List O:=[cS 7 6,cS 8 1,Rj 9 7 8]
def SY:List O:=[cS 12 0,oo 13<|.call KF [.t 12,ki 2],oo 14<|.bin .eql (.t 13) (ki 1)]
def SX:List O:=[cS 15 5,cS 16 6,oo 17<|.dK 1 1 [.int .i64 0] [(0,1,.t 16)],L4 18 1 15 17,cS 5 18]
def SW:List O:=[cS 10 6,PR 11 10 1,cS 6 11]
def Uj:C:=(.seq (cU SZ [0,1,5,6,9] (PS 9 0)) (.seq (.aO 1 (cU SY [0,1,5,6,14] (.cond (.t 14) (Nr SX [0,1,5,6]) .skip))) (Nr SW [0,1,5,6])))
def SV:List O:=[cS 19 5,cS 4 19]
def cQp:C:=(cU S3 [0,1] (cU S2 [0,1,5] (.seq (cU S0 [0,1,5,6] (.aO 0 (.loop Uj))) (cU SV [4] .ret))))
def qQp:fK:=⟨20,2,[.t 4],cQp⟩
def BU:List O:=[oW 2 0,Rl 4 1,pX 5 0]
def BT:List O:=[PO 13 2 2,PQ 14 TP 13,cS 6 14]
def BS:List O:=[cS 15 6,PJ 16 15 0]
def BR:List O:=[cS 17 6,Rl 4 1,cS 5 17]
def BQ:List O:=[cS 18 1,OY 19 18,Gl 20 0 2,pT 21 20,oo 22<|.bin .neq (.t 19) (.t 21),cS 23 22,cL 24 23 1,gf 25 23<|.call nQF [.t 24],Pv 26 23 0 2,Hq 27 23 26,gf 28 23<|.call nQM [.t 27],gf 29 23<|.call nQL [.t 25,.t 28],gf 30 23<|.un .not (.t 29),yV 31 23 30]
def BP:List O:=[Rl 4 1,pX 5 4]
def BO:List O:=[oo 32<|.dK 1 1 [.int .i64 0] [(0,1,.k (.int .i64 (-1)))],Gl 33 0 2,pT 34 33,Al 35 nQN 32 34,cS 7 35]
def BN:List O:=[cS 36 1,OY 37 36,pX 38 0]
def BM:List O:=[Rj 39 38 37]
def BL:List O:=[FG 40 1 36 38,pT 41 40,cS 9 41]
def uD:List O:=[oo 10<|.new [.bool false,.bool false,.bool false,.bool false,.bool false,.bool false,.bool false,.bool false,.bool false,.bool false,.bool false,.bool false,.bool false,.bool false,.bool false,.bool false,.bool false,.bool false,.bool false,.bool false,.bool false,.bool false,.bool false,.bool false,.bool false,.bool false,.bool false,.bool false,.bool false,.bool false,.bool false,.bool false,.bool false,.bool false,.bool false,.bool false,.bool false,.bool false,.bool false,.bool false,.bool false,.bool false,.bool false,.bool false,.bool false,.bool false,.bool false,.bool false,.bool false,.bool false,.bool false,.bool false,.bool false,.bool false,.bool false,.bool false,.bool false,.bool false,.bool false,.bool false,.bool false,.bool false,.bool false,.bool false,.bool false]]
def uC:List O:=[PO 42 2 2,cS 43 9,Al 44 nQO 42 43,OY 45 44,pX 46 0]
def uB:List O:=[Rj 47 46 45]
def uA:List O:=[FG 48 1 44 46,pT 49 48,cS 12 49]
def uz:List O:=[cS 50 7,cS 51 12,FG 52 1 50 51,pT 53 52,oo 54<|.bin .geq (.t 53) (ki 0)]
def uy:List O:=[cS 55 7,cS 56 12,FG 57 1 55 56,pT 58 57,oo 59<|.Ig 65 1 (.t 10) (.t 58),oz<|.st 1 (.t 59) (.k (.bool true))]
def ux:List O:=[PR 60 46 1,cS 46 60]
def O0:C:=(cU uB [2,7,9,10,36,37,38,44,45,46,47] (.seq (PS 47 2) (.seq (.aO 3 (cU uA [2,7,9,10,12,36,37,38,44,45,46] (cU uz [2,7,9,10,12,36,37,38,44,45,46,54] (.cond (.t 54) (Nr uy [2,7,9,10,36,37,38,44,45,46]) .skip)))) (Nr ux [2,7,9,10,36,37,38,44,45,46]))))
def uw:List O:=[cS 61 7,cS 62 9,oo 63<|.Nd 65 (.t 10) none,oo 64<|.call nQP [.t 63,.k (.bool false)],FG 65 1 61 62,kR 1 65 64]
def uu:List O:=[PR 66 38 1,cS 38 66]
def Ui:C:=(cU BM [2,7,36,37,38,39] (.seq (PS 39 0) (.seq (.aO 1 (cU BL [2,7,9,36,37,38] (cU uD [2,7,9,10,36,37,38] (.seq (cU uC [2,7,9,10,36,37,38,44,45,46] (.aO 2 (.loop O0))) (Nr uw [2,7,36,37,38]))))) (Nr uu [2,7,36,37,38]))))
def ur:List O:=[cS 67 7,cS 4 67,pX 5 0]
def cQq:C:=(cU BU [1,2] (.seq (cU BT [1,2,6] (cU BS [1,2,6,16] (.cond (.t 16) (cU BR [4,5] .ret) .skip))) (.seq (.seq (.aN BQ true [(4,4),(5,5),(10,10),(11,11),(12,12),(13,13),(0,3),(1,3),(7,8),(6,9),(7,9)] [1,2,31]) (.cond (.t 31) (cU BP [4,5] .ret) .skip)) (cU BO [1,2,7] (.seq (cU BN [2,7,36,37,38] (.aO 0 (.loop Ui))) (cU ur [4,5] .ret))))))
def qQq:fK:=⟨68,2,[.t 4,.t 5],cQq⟩
def vp:List O:=[oW 2 0,Rl 4 1,pX 5 0]
def vo:List O:=[PO 14 2 2,PQ 15 Sg 14,cS 6 15]
def vm:List O:=[cS 16 6,PJ 17 16 0]
def vk:List O:=[cS 18 6,Rl 4 1,cS 5 18]
def vj:List O:=[cS 19 1,OY 20 19,Gl 21 0 2,pT 22 21,oo 23<|.bin .neq (.t 20) (.t 22),cS 24 23,cL 25 24 1,gf 26 24<|.call Z3 [.t 25],Pv 27 24 0 2,Hq 28 24 27,gf 29 24<|.call nQQ [.t 28],gf 30 24<|.call TR [.t 26,.t 29],gf 31 24<|.bin .neq (.t 30) (ki 0),yV 32 24 31]
def vh:List O:=[Rl 4 1,pX 5 4]
def vf:List O:=[Gl 33 0 2,pT 34 33,oo 35<|.KR 1 [.int .i64 0] (.t 34) (.t 34),cS 7 35]
def ve:List O:=[pX 8 0]
def vd:List O:=[cS 36 8,cS 37 7,OY 38 37,Rj 39 36 38]
def vc:List O:=[cS 42 7,cS 43 8,FG 44 1 42 43,oz<|.st 1 (.t 44) (.k (.int .i64 (-1)))]
def oN:List O:=[cS 40 8,PR 41 40 1,cS 8 41]
def aal:C:=(.seq (cU vd [1,2,7,8,39] (PS 39 0)) (.seq (.aO 1 (Nr vc [1,2,7,8])) (Nr oN [1,2,7,8])))
def oM:List O:=[pX 9 0]
def oL:List O:=[cS 45 9,cS 46 1,OY 47 46,Rj 48 45 47]
def oK:List O:=[Rl 10 1]
def oJ:List O:=[PO 51 2 2,cS 52 1,cS 53 9,FG 54 1 52 53,pT 55 54,Al 56 nQR 51 55,cS 11 56]
def oI:List O:=[pX 12 0]
def oH:List O:=[cS 57 12,cS 58 11,OY 59 58,Rj 60 57 59]
def oG:List O:=[cS 63 10,cS 64 7,cS 65 11,cS 66 12,FG 67 1 65 66,pT 68 67,FG 69 1 64 68,pT 70 69,oo 71<|.dK 1 1 [.int .i64 0] [(0,1,.t 70)],L4 72 1 63 71,cS 10 72]
def oF:List O:=[cS 61 12,PR 62 61 1,cS 12 62]
def aak:C:=(.seq (cU oH [1,2,7,9,10,11,12,60] (PS 60 4)) (.seq (.aO 5 (Nr oG [1,2,7,9,10,11,12])) (Nr oF [1,2,7,9,10,11,12])))
def oE:List O:=[pX 13 0]
def oD:List O:=[cS 73 10,cS 74 13,Al 75 nQS 73 74]
def oC:List O:=[cS 76 13,PR 77 76 1,cS 13 77]
def aaj:C:=(.seq (cU oD [1,2,7,9,10,13,75] (PS 75 6)) (.aO 7 (Nr oC [1,2,7,9,10,13])))
def oB:List O:=[cS 78 7,cS 79 1,cS 80 9,FG 81 1 79 80,pT 82 81,cS 83 13,FG 84 1 78 82,kR 1 84 83]
def oA:List O:=[cS 49 9,PR 50 49 1,cS 9 50]
def Uh:C:=(.seq (cU oL [1,2,7,9,48] (PS 48 2)) (.seq (.aO 3 (cU oK [1,2,7,9,10] (.seq (.aN oJ true [(5,5),(6,6),(0,1),(0,2),(0,3),(0,4)] [1,2,7,9,10,11]) (.seq (cU oI [1,2,7,9,10,11,12] (.aO 4 (.loop aak))) (cU oE [1,2,7,9,10,13] (.seq (.aO 6 (.loop aaj)) (Nr oB [1,2,7,9]))))))) (Nr oA [1,2,7,9])))
def ox:List O:=[cS 85 7,cS 4 85,pX 5 0]
def cQr:C:=(cU vp [1,2] (.seq (cU vo [1,2,6] (cU vm [1,2,6,17] (.cond (.t 17) (cU vk [4,5] .ret) .skip))) (.seq (.seq (.aN vj true [(4,4),(5,5),(10,10),(11,11),(12,12),(13,13),(0,3),(1,3),(7,8),(6,9),(7,9)] [1,2,32]) (.cond (.t 32) (cU vh [4,5] .ret) .skip)) (cU vf [1,2,7] (.seq (cU ve [1,2,7,8] (.aO 0 (.loop aal))) (.seq (cU oM [1,2,7,9] (.aO 2 (.loop Uh))) (cU ox [4,5] .ret)))))))
def qQr:fK:=⟨86,2,[.t 4,.t 5],cQr⟩
def NR:List O:=[oW 2 0,oW 3 1,Rk 4 false]
def NQ:List O:=[PO 5 2 2,PQ 6 TP 5,PJ 7 6 0,cS 8 7,Hq 9 8 3,gf 10 8<|.len (.t 9),Pv 11 8 0 2,Hq 12 8 11,gf 13 8<|.bin .neq (.t 10) (.t 12),yV 14 8 13,cS 15 14,Hq 16 15 3,gf 17 15<|.call nQT [.t 16,.k (.func (.func Sf) [] [])],yV 18 15 17]
def NP:List O:=[Rk 4 false]
def NO:List O:=[Gl 19 1 2,pT 20 19,oo 21<|.VP (.func Se) [] [.t 3],Al 22 nQV 20 21,oo 23<|.un .not (.t 22),cS 4 23]
def cQs:C:=(cU NR [2,3] (.seq (cU NQ [2,3,18] (.cond (.t 18) (cU NP [4] .ret) .skip)) (cU NO [4] .ret)))
def qQs:fK:=⟨24,2,[.t 4],cQs⟩
def xU:List O:=[oW 2 0,Rk 4 false]
def xT:List O:=[PO 7 2 2,PQ 8 Sg 7,PJ 9 8 0,cS 10 9,cL 11 10 1,gf 12 10<|.len (.t 11),Pv 13 10 0 2,Hq 14 10 13,gf 15 10<|.bin .neq (.t 12) (.t 14),yV 16 10 15]
def xS:List O:=[Rk 4 false]
def xR:List O:=[pX 5 0]
def xQ:List O:=[cS 17 5,cS 18 1,OY 19 18,Rj 20 17 19]
def xP:List O:=[cS 23 1,cS 24 5,FG 25 1 23 24,pT 26 25,R5 27 26 0]
def xO:List O:=[Rk 4 false]
def xN:List O:=[cS 21 5,PR 22 21 1,cS 5 22]
def Ug:C:=(.seq (cU xQ [1,2,5,20] (PS 20 0)) (.seq (.aO 1 (cU xP [1,2,5,27] (.cond (.t 27) (cU xO [4] .ret) .skip))) (Nr xN [1,2,5])))
def xM:List O:=[pX 6 0]
def xL:List O:=[cS 28 6,Gl 29 1 2,pT 30 29,OY 31 30,Rj 32 28 31]
def qw:List O:=[cS 35 1,Gl 36 1 2,pT 37 36,cS 38 6,FG 39 2 37 38,Gl 40 0 39,pT 41 40,FG 42 1 35 41,pT 43 42,cS 44 1,Gl 45 1 2,pT 46 45,cS 47 6,FG 48 2 46 47,Gl 49 1 48,pT 50 49,FG 51 1 44 50,pT 52 51,oo 53<|.bin .eql (.t 43) (.t 52)]
def qv:List O:=[Rk 4 false]
def qu:List O:=[cS 33 6,PR 34 33 1,cS 6 34]
def Uf:C:=(.seq (cU xL [1,2,6,32] (PS 32 2)) (.seq (.aO 3 (.seq (.aN qw true [(18,18),(0,2),(2,3),(0,6),(2,9),(6,9),(8,9),(2,10),(6,10),(8,10),(0,11),(1,11),(2,11),(3,11),(4,11),(5,11),(6,11),(7,11),(8,11),(9,11),(2,12),(6,12),(8,12),(11,12),(2,13),(6,13),(8,13),(2,14),(6,14),(8,14),(0,15),(1,15),(2,15),(3,15),(4,15),(5,15),(6,15),(7,15),(8,15),(9,15),(2,16),(6,16),(8,16),(0,17),(1,17),(2,17),(3,17),(4,17),(5,17),(6,17),(7,17),(8,17)] [1,2,6,53]) (.cond (.t 53) (cU qv [4] .ret) .skip))) (Nr qu [1,2,6])))
def qt:List O:=[Rk 4 true]
def cQt:C:=(cU xU [1,2] (.seq (cU xT [1,2,16] (.cond (.t 16) (cU xS [4] .ret) .skip)) (.seq (cU xR [1,2,5] (.aO 0 (.loop Ug))) (.seq (cU xM [1,2,6] (.aO 2 (.loop Uf))) (cU qt [4] .ret)))))
def qQt:fK:=⟨54,2,[.t 4],cQt⟩
def YL:List O:=[pX 4 0]
def YK:List O:=[cS 6 1,R5 7 6 1,cS 8 7,cL 9 8 0,gf 10 8<|.nK (.t 9),Pv 11 8 1 10,Hq 12 8 11,cL 13 8 0,gf 14 8<|.nK (.t 13),Pv 15 8 0 14,Hq 16 8 15,gf 17 8<|.len (.t 16),gf 18 8<|.bin .geq (.t 12) (.t 17),yV 19 8 18]
def YJ:List O:=[pX 4 0]
def YI:List O:=[cS 20 0,oo 21<|.nK (.t 20),Gl 22 0 21,pT 23 22,cS 24 0,oo 25<|.nK (.t 24),Gl 26 1 25,pT 27 26,FG 28 1 23 27,pT 29 28,cS 5 29]
def YH:List O:=[cS 30 0,oo 31<|.nK (.t 30),Gl 32 1 31,pT 33 32,PR 34 33 1,oo 35<|.nK (.t 30),Gl 36 1 35,kR 1 36 34]
def YG:List O:=[cS 37 5,cS 38 1,Al 39 nQX 37 38,cS 4 39]
def cQu:C:=(cU YL [0,1] (.seq (.seq (.aN YK true [(0,0),(1,1),(2,2),(12,12),(13,13),(6,7),(6,8),(6,9),(3,10),(4,10),(5,10),(6,10),(6,11)] [0,1,19]) (.cond (.t 19) (cU YJ [4] .ret) .skip)) (.seq (.aN YI true [(8,8),(9,9),(10,10),(3,4),(3,5),(3,6),(0,7),(1,7),(2,7),(3,7)] [0,1,5]) (cU YH [1,5] (cU YG [4] .ret)))))
def qQu:fK:=⟨40,2,[.t 4],cQu⟩
def NN:List O:=[oW 3 0,Rk 6 false,pX 7 0]
def NM:List O:=[PO 13 2 3,PQ 14 TP 13,cS 8 14]
def NL:List O:=[cS 15 8,PJ 16 15 0]
def NK:List O:=[cS 17 8,Rk 6 false,cS 7 17]
def NJ:List O:=[PO 18 2 3,cS 19 1,Al 20 nQY 18 19,oo 21<|.un .not (.t 20)]
def NI:List O:=[Rk 6 false,pX 7 4]
def NH:List O:=[PO 22 2 3,PQ 23 nQz 22,cS 9 23]
def NG:List O:=[Gl 24 0 3,pT 25 24,oo 26<|.bin .shl (.k (.int .u64 1)) (.t 25),oo 27<|.bin .sub (.t 26) (.k (.int .u64 1)),cS 10 27]
def NF:List O:=[cS 28 1,OY 29 28,pX 30 0]
def ND:List O:=[Rj 31 30 29]
def FT:List O:=[FG 32 1 28 30,pT 33 32,cS 12 33]
def FR:List O:=[cS 34 10,cS 35 9,cS 36 12,FG 37 1 35 36,pT 38 37,oo 39<|.bin .and (.t 34) (.t 38),cS 10 39]
def FQ:List O:=[PR 40 30 1,cS 30 40]
def aai:C:=(cU ND [1,2,9,10,28,29,30,31] (.seq (PS 31 0) (.seq (.aO 1 (cU FT [1,2,9,10,12,28,29,30] (Nr FR [1,2,9,10,28,29,30]))) (Nr FQ [1,2,9,10,28,29,30]))))
def FP:List O:=[cS 41 1,OY 42 41,cS 43 9,cS 44 10,oo 45<|.call nQA [.t 43,.t 44,ki 0],oo 46<|.bin .add (.t 42) (.t 45),cS 47 2,oo 48<|.bin .geq (.t 46) (.t 47),cS 6 48,pX 7 0]
def cQv:C:=(cU NN [1,2,3] (.seq (cU NM [1,2,3,8] (cU NL [1,2,3,8,16] (.cond (.t 16) (cU NK [6,7] .ret) .skip))) (.seq (cU NJ [1,2,3,21] (.cond (.t 21) (cU NI [6,7] .ret) .skip)) (cU NH [1,2,3,9] (cU NG [1,2,9,10] (.seq (cU NF [1,2,9,10,28,29,30] (.aO 0 (.loop aai))) (cU FP [6,7] .ret)))))))
def qQv:fK:=⟨49,3,[.t 6,.t 7],cQv⟩
def BK:List O:=[oW 3 0,Rk 6 false,pX 7 0]
def BJ:List O:=[PO 11 2 3,PQ 12 Sg 11,cS 8 12]
def BI:List O:=[cS 13 8,PJ 14 13 0]
def BH:List O:=[cS 15 8,Rk 6 false,cS 7 15]
def BG:List O:=[PO 16 2 3,cS 17 1,Al 18 nQZ 16 17,oo 19<|.un .not (.t 18)]
def BF:List O:=[Rk 6 false,pX 7 4]
def BE:List O:=[cS 20 1,OY 21 20,cS 22 2,oo 23<|.bin .geq (.t 21) (.t 22)]
def BD:List O:=[Rk 6 true,pX 7 0]
def BC:List O:=[PO 24 2 3,oo 25<|.call nQD [.t 24,ki 1048576],cS 9 25]
def BB:List O:=[pX 10 0]
def uq:List O:=[cS 26 10,cS 27 9,OY 28 27,Rj 29 26 28]
def um:List O:=[cS 32 9,cS 33 10,FG 34 1 32 33,pT 35 34,OY 36 35,cS 37 2,oo 38<|.bin .geq (.t 36) (.t 37),cS 39 38,sK 40 39 1,sK 41 39 9,sK 42 39 10,gt 43 39<|.fm 1 (.t 41) (.t 42),Sq 44 39 43,gt 45 39<|.call nQ0 [.t 40,.t 44],O6 46 39 45]
def uk:List O:=[Rk 6 true,pX 7 0]
def uj:List O:=[cS 30 10,PR 31 30 1,cS 10 31]
def OZ:C:=(.seq (cU uq [1,2,9,10,29] (PS 29 0)) (.seq (.aO 1 (cU um [1,2,9,10,46] (.cond (.t 46) (cU uk [6,7] .ret) .skip))) (Nr uj [1,2,9,10])))
def ui:List O:=[Rk 6 false,pX 7 0]
def cQw:C:=(cU BK [1,2,3] (.seq (cU BJ [1,2,3,8] (cU BI [1,2,3,8,14] (.cond (.t 14) (cU BH [6,7] .ret) .skip))) (.seq (cU BG [1,2,3,19] (.cond (.t 19) (cU BF [6,7] .ret) .skip)) (.seq (cU BE [1,2,3,23] (.cond (.t 23) (cU BD [6,7] .ret) .skip)) (cU BC [1,2,9] (.seq (cU BB [1,2,9,10] (.aO 0 (.loop OZ))) (cU ui [6,7] .ret)))))))
def qQw:fK:=⟨47,3,[.t 6,.t 7],cQw⟩
def amA:List O:=[oo 4<|.new [.int .i64 0,.own 2 []],pX 5 0]
def amz:List O:=[cS 9 0,R5 10 9 0,cS 11 10,cL 12 11 0,gf 13 11<|.bin .gtr (.t 12) (ki 64),yV 14 11 13]
def amy:List O:=[oo 15<|.build [.int .i64 0,.own 2 []] [],kR 2 4 15,pX 5 1]
def amx:List O:=[cS 16 0,oo 17<|.build [.int .i64 0,.own 2 []] [(0,1,.t 16)],oo 6<|.new [.int .i64 0,.own 2 []],kR 2 6 17]
def amw:List O:=[cS 18 1,OY 19 18,pX 20 0]
def amv:List O:=[Rj 21 20 19]
def amu:List O:=[FG 22 2 18 20,PO 23 2 22,oo 8<|.new [.int .i64 0,.int .i64 0],kR 2 8 23]
def amt:List O:=[cS 24 0,Gl 25 0 8,pT 26 25,Gl 27 1 8,pT 28 27,oo 29<|.call nQ1 [.t 24,.t 26,.t 28],oo 30<|.un .not (.t 29)]
def ams:List O:=[oo 31<|.build [.int .i64 0,.own 2 []] [],kR 2 4 31,pX 5 6]
def amr:List O:=[Gl 32 1 6,pT 33 32,Gl 34 0 8,pT 35 34,Gl 36 1 8,pT 37 36,Al 38 nQ3 35 37,Al 39 nQ2 33 38,Gl 40 1 6,kR 1 40 39]
def ajR:List O:=[PR 41 20 1,cS 20 41]
def ang:C:=(cU amv [0,4,6,18,19,20,21] (.seq (PS 21 0) (.seq (.aO 1 (cU amu [0,4,6,8,18,19,20] (.seq (cU amt [0,4,6,8,18,19,20,30] (.cond (.t 30) (cU ams [4,5] .ret) .skip)) (.aN amr true [(7,7),(8,8),(9,9),(1,2),(0,3),(1,3),(1,4),(3,4),(0,5),(1,5),(2,5),(3,5),(0,6),(1,6)] [0,4,6,18,19,20])))) (Nr ajR [0,4,6,18,19,20]))))
def ajQ:List O:=[PO 42 2 6,kR 2 4 42,pX 5 0]
def cQx:C:=(cU amA [0,1,4] (.seq (cU amz [0,1,4,14] (.cond (.t 14) (cU amy [4,5] .ret) .skip)) (cU amx [0,1,4,6] (.seq (cU amw [0,4,6,18,19,20] (.aO 0 (.loop ang))) (cU ajQ [4,5] .ret)))))
def qQx:fK:=⟨43,2,[.c 4 (some 2),.t 5],cQx⟩
def xK:List O:=[oW 1 0,pX 2 0]
def xJ:List O:=[Gl 5 0 1,pT 6 5,R5 7 6 0,cS 8 7,Pv 9 8 0 1,Hq 10 8 9,gf 11 8<|.bin .gtr (.t 10) (ki 64),yV 12 8 11]
def xI:List O:=[pX 2 1]
def xH:List O:=[Gl 13 1 1,pT 14 13,OY 15 14,pX 16 0]
def xG:List O:=[Rj 17 16 15]
def xF:List O:=[cS 18 16,FG 19 2 14 16,PO 20 2 19,oo 4<|.new [.int .i64 0,.int .i64 0],cS 3 18,kR 2 4 20]
def xE:List O:=[Gl 22 0 4,pT 23 22,R5 24 23 0,cS 25 24,Pv 26 25 0 4,Hq 27 25 26,Pv 28 25 1 4,Hq 29 25 28,gf 30 25<|.bin .geq (.t 27) (.t 29),yV 31 25 30,cS 32 31,Pv 33 32 1 4,Hq 34 32 33,Pv 35 32 0 1,Hq 36 32 35,gf 37 32<|.bin .geq (.t 34) (.t 36),yV 38 32 37,cS 21 38]
def xD:List O:=[pX 2 6]
def xC:List O:=[cS 40 3,oo 41<|.bin .gtr (.t 40) (ki 0),cS 42 41,gt 43 42<|.fk 1 (.t 1),Sq 44 42 43,sK 45 42 3,gt 46 42<|.bin .sub (.t 45) (ki 1),gt 47 42<|.fm 2 (.t 44) (.t 46),gt 48 42<|.ld (some 2) (.t 47),gt 49 42<|.ld (some 2) (.t 4),gt 50 42<|.call nQ4 [.t 48,.t 49],gt 51 42<|.bin .geq (.t 50) (ki 0),O6 52 42 51,cS 39 52]
def xB:List O:=[pX 2 5]
def qq:List O:=[PR 53 16 1,cS 16 53]
def EX:C:=(cU xG [1,14,15,16,17] (.seq (PS 17 0) (.seq (.aO 1 (cU xF [1,3,4,14,15,16] (.aO 2 (cU xE [1,3,4,14,15,16,21] (.cond (.t 21) (cU xD [2] .ret) (.seq (.aN xC true [(0,0),(1,1),(2,2),(10,10),(11,11),(12,12),(13,13),(4,5),(4,6),(3,9),(4,9),(5,9),(6,9),(7,9),(8,9)] [1,14,15,16,39]) (.cond (.t 39) (cU xB [2] .ret) .skip))))))) (Nr qq [1,14,15,16]))))
def qp:List O:=[pX 2 0]
def cQy:C:=(cU xK [1] (.seq (cU xJ [1,12] (.cond (.t 12) (cU xI [2] .ret) .skip)) (.seq (cU xH [1,14,15,16] (.aO 0 (.loop EX))) (cU qp [2] .ret))))
def qQy:fK:=⟨54,1,[.t 2],cQy⟩
def YF:List O:=[oW 1 0,Rl 2 1]
def YD:List O:=[Gl 6 0 1,pT 7 6,oo 8<|.KR 1 [.int .u64 0] (.t 7) (.t 7),cS 3 8]
def YC:List O:=[Gl 9 1 1,pT 10 9,OY 11 10,pX 12 0]
def YB:List O:=[Rj 13 12 11]
def YA:List O:=[FG 14 2 10 12,PO 15 2 14,oo 5<|.new [.int .i64 0,.int .i64 0],kR 2 5 15]
def Yz:List O:=[cS 16 3,Gl 17 0 5,pT 18 17,FG 19 1 16 18,pT 20 19,Gl 21 1 5,pT 22 21,oo 23<|.bin .shl (.k (.int .u64 1)) (.t 22),oo 24<|.bin .or (.t 20) (.t 23),FG 25 1 16 18,kR 1 25 24]
def Yy:List O:=[cS 26 3,Gl 27 1 5,pT 28 27,FG 29 1 26 28,pT 30 29,Gl 31 0 5,pT 32 31,oo 33<|.bin .shl (.k (.int .u64 1)) (.t 32),oo 34<|.bin .or (.t 30) (.t 33),FG 35 1 26 28,kR 1 35 34]
def Yx:List O:=[PR 36 12 1,cS 12 36]
def aah:C:=(cU YB [3,10,11,12,13] (.seq (PS 13 0) (.seq (.aO 1 (cU YA [3,5,10,11,12] (.seq (.aN Yz true [(8,8),(9,9),(10,10),(0,2),(2,5),(4,5),(0,6),(1,6),(2,6),(3,6),(4,6),(2,7),(4,7)] [3,5,10,11,12]) (.aN Yy true [(8,8),(9,9),(10,10),(0,2),(2,5),(4,5),(0,6),(1,6),(2,6),(3,6),(4,6),(2,7),(4,7)] [3,10,11,12])))) (Nr Yx [3,10,11,12]))))
def Yw:List O:=[cS 37 3,cS 2 37]
def cQz:C:=(cU YF [1] (cU YD [1,3] (.seq (cU YC [3,10,11,12] (.aO 0 (.loop aah))) (cU Yw [2] .ret))))
def qQz:fK:=⟨38,1,[.t 2],cQz⟩
def aiR:List O:=[oW 3 0,pX 6 0]
def aiQ:List O:=[cS 9 2,oo 7<|.new [.int .i64 0],kR 1 7 9]
def aiP:List O:=[oo 8<|.new [.gz]]
def aiO:List O:=[oo 10<|.VP (.func nQ5) [] [.t 7,.t 3,.t 8],kR 1 8 10]
def aiN:List O:=[pT 11 8,cS 12 1,oo 13<|.jM (.t 11) [.t 12,ki 0]]
def aiM:List O:=[pT 14 7,cS 6 14]
def cQA:C:=(cU aiR [1,2,3] (cU aiQ [1,3,7] (cU aiP [1,3,7,8] (cU aiO [1,7,8] (cU aiN [7] (cU aiM [6] .ret))))))
def qQA:fK:=⟨15,3,[.t 6],cQA⟩
def Tu:List O:=[pX 2 0]
def Tt:List O:=[cS 3 0,oo 4<|.bin .eql (.t 3) (.k (.int .u64 0))]
def adD:List O:=[pX 2 64]
def Hr:List O:=[cS 5 0,cS 6 0,oo 7<|.un .neg (.t 6),oo 8<|.bin .and (.t 5) (.t 7),oo 9<|.bin .mul (.t 8) (.k (.int .u64 285870213051353865)),oo 10<|.bin .shr (.t 9) (.k (.int .u64 58)),oo 11<|.Ig 64 1 (.g 0) (.t 10),pT 12 11,oo 13<|.HX .i64 (.t 12),cS 2 13]
def cQB:C:=(cU Tu [0] (.seq (cU Tt [0,4] (.cond (.t 4) (cU adD [2] .ret) .skip)) (cU Hr [2] .ret)))
def qQB:fK:=⟨14,1,[.t 2],cQB⟩
def yD:List O:=[oW 1 0,pX 2 0]
def yC:List O:=[Gl 5 0 1,pT 6 5,R5 7 6 0,cS 8 7,Pv 9 8 0 1,Hq 10 8 9,gf 11 8<|.bin .gtr (.t 10) (ki 64),yV 12 8 11]
def yB:List O:=[pX 2 1]
def yA:List O:=[Gl 13 1 1,pT 14 13,OY 15 14,pX 16 0]
def yz:List O:=[Rj 17 16 15]
def yy:List O:=[cS 18 16,FG 19 2 14 16,PO 20 2 19,oo 4<|.new [.int .i64 0,.int .i64 0],cS 3 18,kR 2 4 20]
def yx:List O:=[Gl 21 0 4,pT 22 21,R5 23 22 0,cS 24 23,Pv 25 24 0 4,Hq 26 24 25,Pv 27 24 1 4,Hq 28 24 27,gf 29 24<|.bin .geq (.t 26) (.t 28),yV 30 24 29,cS 31 30,Pv 32 31 1 4,Hq 33 31 32,Pv 34 31 0 1,Hq 35 31 34,gf 36 31<|.bin .geq (.t 33) (.t 35),yV 37 31 36]
def yw:List O:=[pX 2 6]
def yu:List O:=[cS 38 3,oo 39<|.bin .gtr (.t 38) (ki 0),cS 40 39,gt 41 40<|.fk 1 (.t 1),Sq 42 40 41,sK 43 40 3,gt 44 40<|.bin .sub (.t 43) (ki 1),gt 45 40<|.fm 2 (.t 42) (.t 44),gt 46 40<|.ld (some 2) (.t 45),gt 47 40<|.ld (some 2) (.t 4),gt 48 40<|.call nQ8 [.t 46,.t 47],gt 49 40<|.un .not (.t 48),O6 50 40 49]
def yt:List O:=[pX 2 5]
def rD:List O:=[PR 51 16 1,cS 16 51]
def EY:C:=(cU yz [1,14,15,16,17] (.seq (PS 17 0) (.seq (.aO 1 (cU yy [1,3,4,14,15,16] (.seq (cU yx [1,3,4,14,15,16,37] (.cond (.t 37) (cU yw [2] .ret) .skip)) (.seq (.aN yu true [(0,0),(1,1),(2,2),(10,10),(11,11),(12,12),(4,5),(4,6),(3,9),(4,9),(5,9),(6,9),(7,9),(8,9)] [1,14,15,16,50]) (.cond (.t 50) (cU yt [2] .ret) .skip))))) (Nr rD [1,14,15,16]))))
def rC:List O:=[pX 2 0]
def cQC:C:=(cU yD [1] (.seq (cU yC [1,12] (.cond (.t 12) (cU yB [2] .ret) .skip)) (.seq (cU yA [1,14,15,16] (.aO 0 (.loop EY))) (cU rC [2] .ret))))
def qQC:fK:=⟨52,1,[.t 2],cQC⟩
def aiL:List O:=[oW 2 0,Rl 4 1]
def aiK:List O:=[Rl 5 1]
def aiJ:List O:=[PO 7 2 2,cS 8 5,cS 9 1,oo 10<|.call ij [.t 7,.k (.own 1 []),ki 0,.t 8,.t 9],cS 6 10]
def aiI:List O:=[cS 11 6,cS 4 11]
def cQD:C:=(cU aiL [1,2] (cU aiK [1,2,5] (cU aiJ [6] (cU aiI [4] .ret))))
def qQD:fK:=⟨12,2,[.t 4],cQD⟩
def Zp:List O:=[oW 1 0,pX 2 0,pX 3 0]
def Zo:List O:=[PO 10 2 1,PQ 11 MU 10,cS 9 11,Rm 12 0 9,Rm 13 1 9,cS 4 12,cS 5 13]
def Zn:List O:=[pX 6 0]
def Zm:List O:=[cS 14 4,OY 15 14,pX 16 0]
def Zl:List O:=[Rj 17 16 15]
def Zk:List O:=[FG 18 1 14 16,pT 19 18,cS 8 19]
def Zj:List O:=[cS 20 6,cS 21 8,oo 22<|.max [.t 20,.t 21],cS 6 22]
def Zi:List O:=[PR 23 16 1,cS 16 23]
def aat:C:=(cU Zl [5,6,14,15,16,17] (.seq (PS 17 0) (.seq (.aO 1 (cU Zk [5,6,8,14,15,16] (Nr Zj [5,6,14,15,16]))) (Nr Zi [5,6,14,15,16]))))
def Zh:List O:=[cS 24 6,cS 25 5,cS 2 24,cS 3 25]
def cQE:C:=(cU Zp [1] (cU Zo [4,5] (cU Zn [4,5,6] (.seq (cU Zm [5,6,14,15,16] (.aO 0 (.loop aat))) (cU Zh [2,3] .ret)))))
def qQE:fK:=⟨26,1,[.t 2,.t 3],cQE⟩
def aiH:List O:=[Rl 2 1]
def aiG:List O:=[cS 3 0,oo 4<|.call MT [.t 3,.k (.own 1 [])],cS 2 4]
def cQF:C:=(cU aiH [0] (cU aiG [2] .ret))
def qQF:fK:=⟨5,1,[.t 2],cQF⟩
def Zg:List O:=[oW 1 0,pX 2 0,pX 3 0]
def Zf:List O:=[PO 10 2 1,PQ 11 MS 10,cS 9 11,Rm 12 0 9,Rm 13 1 9,cS 4 12,cS 5 13]
def Ze:List O:=[pX 6 0]
def Zd:List O:=[cS 14 4,OY 15 14,pX 16 0]
def Zc:List O:=[Rj 17 16 15]
def Zb:List O:=[FG 18 1 14 16,pT 19 18,cS 8 19]
def Za:List O:=[cS 20 6,cS 21 8,oo 22<|.max [.t 20,.t 21],cS 6 22]
def Y9:List O:=[PR 23 16 1,cS 16 23]
def aas:C:=(cU Zc [5,6,14,15,16,17] (.seq (PS 17 0) (.seq (.aO 1 (cU Zb [5,6,8,14,15,16] (Nr Za [5,6,14,15,16]))) (Nr Y9 [5,6,14,15,16]))))
def Y8:List O:=[cS 24 6,cS 25 5,cS 2 24,cS 3 25]
def cQG:C:=(cU Zg [1] (cU Zf [4,5] (cU Ze [4,5,6] (.seq (cU Zd [5,6,14,15,16] (.aO 0 (.loop aas))) (cU Y8 [2,3] .ret)))))
def qQG:fK:=⟨26,1,[.t 2,.t 3],cQG⟩
def Kf:List O:=[Rl 2 1]
def Ke:List O:=[Rl 3 1]
def Kc:List O:=[cS 6 0,OY 7 6,pX 8 0]
def Kb:List O:=[Rj 9 8 7]
def Ka:List O:=[FG 10 1 6 8,pT 11 10,cS 5 11]
def J9:List O:=[cS 12 3,cS 13 5,Al 14 MR 12 13,cS 3 14]
def J8:List O:=[PR 15 8 1,cS 8 15]
def Lh:C:=(cU Kb [3,6,7,8,9] (.seq (PS 9 0) (.seq (.aO 1 (cU Ka [3,5,6,7,8] (Nr J9 [3,6,7,8]))) (Nr J8 [3,6,7,8]))))
def J7:List O:=[cS 16 3,cS 2 16]
def cQH:C:=(cU Kf [0] (cU Ke [0,3] (.seq (cU Kc [3,6,7,8] (.aO 0 (.loop Lh))) (cU J7 [2] .ret))))
def qQH:fK:=⟨17,1,[.t 2],cQH⟩
def adC:List O:=[oW 1 0,Rl 2 1,pX 3 0]
def adB:List O:=[PO 7 2 1,PQ 8 TP 7,cS 4 8]
def adA:List O:=[cS 9 4,PJ 10 9 0]
def adz:List O:=[cS 11 4,Rl 2 1,cS 3 11]
def adx:List O:=[PO 13 2 1,PQ 14 KO 13,cS 12 14,Rm 15 0 12,Rm 16 1 12,cS 5 15,cS 6 16]
def adw:List O:=[cS 17 5,cS 2 17,pX 3 0]
def cQI:C:=(cU adC [1] (.seq (cU adB [1,4] (cU adA [1,4,10] (.cond (.t 10) (cU adz [2,3] .ret) .skip))) (cU adx [5] (cU adw [2,3] .ret))))
def qQI:fK:=⟨18,1,[.t 2,.t 3],cQI⟩
def amO:List O:=[cS 4 0,OY 5 4,oo 6<|.bin .sub (.t 5) (ki 1),pX 2 0,cS 3 6]
def amN:List O:=[cS 7 2,cS 8 3,Rj 9 7 8]
def amM:List O:=[cS 14 0,cS 15 2,cS 16 0,cS 17 3,cS 18 0,cS 19 3,FG 20 1 18 19,pT 21 20,cS 22 0,cS 23 2,FG 24 1 22 23,pT 25 24,FG 26 1 14 15,kR 1 26 21,FG 27 1 16 17,kR 1 27 25]
def amL:List O:=[cS 10 2,PR 11 10 1,cS 12 3,oo 13<|.bin .sub (.t 12) (ki 1),cS 2 11,cS 3 13]
def ani:C:=(.seq (cU amN [0,2,3,9] (PS 9 0)) (.seq (.aO 1 (.aN amM true [(14,14),(15,15),(0,7),(1,7),(2,7),(3,7),(7,8),(7,9),(7,10),(0,11),(1,11),(2,11),(3,11),(4,11),(5,11),(6,11),(7,11),(2,13),(3,13)] [0,2,3])) (Nr amL [0,2,3])))
def cQJ:C:=(cU amO [0,2,3] (.aO 0 (.loop ani)))
def qQJ:fK:=⟨28,1,[],cQJ⟩
def Hp:List O:=[oW 1 0,Rl 2 1,pX 3 0]
def Ho:List O:=[PO 12 2 1,PQ 13 Sg 12,cS 4 13]
def Hn:List O:=[cS 14 4,PJ 15 14 0]
def Hm:List O:=[cS 16 4,Rl 2 1,cS 3 16]
def Hk:List O:=[Gl 17 0 1,pT 18 17,PQ 19 nQQ 18,cS 5 19]
def Hj:List O:=[Rl 6 1]
def Hi:List O:=[cS 20 5,OY 21 20,oo 22<|.bin .gtr (.t 21) (ki 0)]
def Hh:List O:=[oo 7<|.mv (.k (.int .i64 (-1))),pX 8 0]
def Hg:List O:=[cS 23 5,OY 24 23,pX 25 0]
def Hf:List O:=[Rj 26 25 24]
def zN:List O:=[FG 27 1 23 25,pT 28 27,cS 10 28]
def zM:List O:=[PO 29 2 1,cS 30 10,Al 31 nQR 29 30,cS 32 5,Al 33 KN 31 32,OY 34 33,cS 11 34]
def zL:List O:=[cS 35 7,R5 36 35 0,cS 37 36,cL 38 37 11,cL 39 37 8,gf 40 37<|.bin .lss (.t 38) (.t 39),yV 41 37 40]
def zK:List O:=[cS 42 10,cS 43 11,cS 7 42,cS 8 43]
def zJ:List O:=[PR 44 25 1,cS 25 44]
def aar:C:=(cU Hf [1,5,6,7,8,23,24,25,26] (.seq (PS 26 2) (.seq (.aO 3 (cU zN [1,5,6,7,8,10,23,24,25] (cU zM [1,5,6,7,8,10,11,23,24,25] (cU zL [1,5,6,7,8,10,11,23,24,25,41] (.cond (.t 41) (Nr zK [1,5,6,7,8,23,24,25]) .skip))))) (Nr zJ [1,5,6,7,8,23,24,25]))))
def zI:List O:=[cS 45 6,cS 46 7,oo 47<|.dK 1 1 [.int .i64 0] [(0,1,.t 46)],L4 48 1 45 47,cS 49 5,cS 50 7,oo 51<|.dK 1 1 [.int .i64 0] [(0,1,.t 50)],Al 52 F7 49 51,cS 6 48,cS 5 52]
def Uw:C:=(.seq (cU Hi [1,5,6,22] (PS 22 0)) (.aO 1 (cU Hh [1,5,6,7,8] (.seq (cU Hg [1,5,6,7,8,23,24,25] (.aO 2 (.loop aar))) (Nr zI [1,5,6])))))
def zH:List O:=[cS 53 6,cS 2 53,pX 3 0]
def cQK:C:=(cU Hp [1] (.seq (cU Ho [1,4] (cU Hn [1,4,15] (.cond (.t 15) (cU Hm [2,3] .ret) .skip))) (cU Hk [1,5] (cU Hj [1,5,6] (.seq (.aO 0 (.loop Uw)) (cU zH [2,3] .ret))))))
def qQK:fK:=⟨54,1,[.t 2,.t 3],cQK⟩
def J6:List O:=[Rk 4 false]
def J5:List O:=[cS 6 0,OY 7 6,cS 8 1,OY 9 8,oo 10<|.bin .neq (.t 7) (.t 9)]
def J4:List O:=[Rk 4 false]
def J3:List O:=[cS 11 0,OY 12 11,pX 13 0]
def J2:List O:=[Rj 14 13 12]
def J1:List O:=[cS 15 13,cS 5 15]
def J0:List O:=[cS 16 0,cS 17 5,FG 18 1 16 17,pT 19 18,cS 20 1,cS 21 5,FG 22 1 20 21,pT 23 22,oo 24<|.bin .neq (.t 19) (.t 23)]
def JZ:List O:=[Rk 4 false]
def JY:List O:=[PR 25 13 1,cS 13 25]
def Uv:C:=(cU J2 [0,1,12,13,14] (.seq (PS 14 0) (.seq (.aO 1 (cU J1 [0,1,5,12,13] (.seq (.aN J0 true [(8,8),(3,4),(3,5),(3,6),(0,7),(1,7),(2,7),(3,7)] [0,1,12,13,24]) (.cond (.t 24) (cU JZ [4] .ret) .skip)))) (Nr JY [0,1,12,13]))))
def JX:List O:=[Rk 4 true]
def cQL:C:=(cU J6 [0,1] (.seq (cU J5 [0,1,10] (.cond (.t 10) (cU J4 [4] .ret) .skip)) (.seq (cU J3 [0,1,12,13] (.aO 0 (.loop Uv))) (cU JX [4] .ret))))
def qQL:fK:=⟨26,2,[.t 4],cQL⟩
def Oh:List O:=[Rl 2 1]
def Og:List O:=[Rl 3 1]
def Of:List O:=[cS 5 0,oo 6<|.max [.t 5,ki 0],oo 7<|.min [.t 6,ki 64],pX 8 0]
def Oe:List O:=[Rj 9 8 7]
def Od:List O:=[cS 10 8,cS 4 10]
def Oc:List O:=[cS 11 3,cS 12 4,oo 13<|.dK 1 1 [.int .i64 0] [(0,1,.t 12)],L4 14 1 11 13,cS 3 14]
def Ob:List O:=[PR 15 8 1,cS 8 15]
def aaq:C:=(cU Oe [3,7,8,9] (.seq (PS 9 0) (.seq (.aO 1 (cU Od [3,4,7,8] (Nr Oc [3,7,8]))) (Nr Ob [3,7,8]))))
def Oa:List O:=[cS 16 3,cS 2 16]
def cQM:C:=(cU Oh [0] (cU Og [0,3] (.seq (cU Of [3,7,8] (.aO 0 (.loop aaq))) (cU Oa [2] .ret))))
def qQM:fK:=⟨17,1,[.t 2],cQM⟩
def amK:List O:=[Rl 4 1]
def amJ:List O:=[cS 9 1,R5 10 9 0]
def amI:List O:=[oo 11<|.bad,oz<|.bad]
def amH:List O:=[cS 13 0,OY 14 13,oo 15<|.HX .u64 (.t 14),cS 16 1,oo 17<|.HX .u64 (.t 16),Al 18 nQa7 15 17,cS 12 18,Rm 19 0 12,Rm 20 1 12,cS 5 19,cS 6 20]
def amG:List O:=[cS 21 5,oo 22<|.bin .gtr (.t 21) (.k (.int .u64 0)),cS 23 22,cL 24 23 6,gf 25 23<|.bin .gtr (.t 24) (.k (.int .u64 9223372036854775807)),yV 26 23 25]
def amF:List O:=[oo 27<|.bad,oz<|.bad]
def amE:List O:=[cS 28 6,oo 29<|.HX .i64 (.t 28),oo 30<|.KR 1 [.int .i64 0] (.t 29) (.t 29),cS 7 30]
def amD:List O:=[cS 31 7,cS 32 0,oo 33<|.copy 1 (.t 31) (.t 32),cS 8 33]
def amC:List O:=[cS 34 8,cS 35 7,OY 36 35,Rj 37 34 36]
def amB:List O:=[cS 38 8,cS 39 7,cS 40 8,oo 41<|.D5 1 (.t 39) (some (.t 40)) none,cS 42 7,cS 43 8,oo 44<|.D5 1 (.t 42) none (some (.t 43)),oo 45<|.copy 1 (.t 41) (.t 44),oo 46<|.bin .add (.t 38) (.t 45),cS 8 46]
def anh:C:=(.seq (cU amC [7,8,37] (PS 37 0)) (.aO 1 (.aN amB true [(8,8),(9,9),(0,7)] [7,8])))
def akw:List O:=[cS 47 7,cS 4 47]
def cQN:C:=(cU amK [0,1] (.seq (cU amJ [0,1,10] (.cond (.t 10) (Nr amI [0,1]) .skip)) (cU amH [0,5,6] (.seq (cU amG [0,6,26] (.cond (.t 26) (Nr amF [0,6]) .skip)) (cU amE [0,7] (cU amD [7,8] (.seq (.aO 0 (.loop anh)) (cU akw [4] .ret))))))))
def qQN:fK:=⟨48,2,[.t 4],cQN⟩
def aiF:List O:=[oW 2 0,Rl 4 1]
def aiE:List O:=[PO 5 2 2,cS 6 1,Al 7 MQ 5 6,PQ 8 KM 7,cS 4 8]
def cQO:C:=(cU aiF [1,2] (cU aiE [4] .ret))
def qQO:fK:=⟨9,2,[.t 4],cQO⟩
def Y7:List O:=[pX 4 0]
def Y6:List O:=[cS 6 0,OY 7 6,pX 8 0]
def Y5:List O:=[Rj 9 8 7]
def Y4:List O:=[cS 10 8,cS 5 10]
def YZ:List O:=[cS 11 1,cS 12 0,cS 13 5,FG 14 1 12 13,pT 15 14,oo 16<|.eq false .bool (.t 11) (.t 15)]
def YY:List O:=[cS 17 5,cS 4 17]
def YX:List O:=[PR 18 8 1,cS 8 18]
def aap:C:=(cU Y5 [0,1,7,8,9] (.seq (PS 9 0) (.seq (.aO 1 (cU Y4 [0,1,5,7,8] (cU YZ [0,1,5,7,8,16] (.cond (.t 16) (cU YY [4] .ret) .skip)))) (Nr YX [0,1,7,8]))))
def YW:List O:=[oo 4<|.mv (.k (.int .i64 (-1)))]
def cQP:C:=(cU Y7 [0,1] (.seq (cU Y6 [0,1,7,8] (.aO 0 (.loop aap))) (cU YW [4] .ret)))
def qQP:fK:=⟨19,2,[.t 4],cQP⟩
def Ts:List O:=[Rl 2 1]
def Tr:List O:=[Rl 3 1]
def Tq:List O:=[pX 4 0]
def Tp:List O:=[cS 5 4,cS 6 0,Rj 7 5 6,cS 8 7,sK 9 8 4,gt 10 8<|.bin .lss (.t 9) (ki 64),O6 11 8 10]
def To:List O:=[cS 14 3,cS 15 4,oo 16<|.dK 1 1 [.int .i64 0] [(0,1,.t 15)],L4 17 1 14 16,cS 3 17]
def Tn:List O:=[cS 12 4,PR 13 12 1,cS 4 13]
def Uu:C:=(.seq (cU Tp [0,3,4,11] (PS 11 0)) (.seq (.aO 1 (Nr To [0,3,4])) (Nr Tn [0,3,4])))
def Tm:List O:=[cS 18 3,cS 2 18]
def cQQ:C:=(cU Ts [0] (cU Tr [0,3] (.seq (cU Tq [0,3,4] (.aO 0 (.loop Uu))) (cU Tm [2] .ret))))
def qQQ:fK:=⟨19,1,[.t 2],cQQ⟩
def He:List O:=[oW 2 0,Rl 4 1]
def Hd:List O:=[PO 8 2 2,PQ 9 Sg 8,PJ 10 9 0]
def Hc:List O:=[Rl 4 1]
def Hb:List O:=[Rl 5 1]
def G8:List O:=[Gl 11 1 2,pT 12 11,OY 13 12,pX 14 0]
def G7:List O:=[Rj 15 14 13]
def G6:List O:=[FG 16 2 12 14,PO 17 2 16,oo 7<|.new [.int .i64 0,.int .i64 0],kR 2 7 17]
def G5:List O:=[Gl 18 0 7,pT 19 18,cS 20 1,oo 21<|.bin .eql (.t 19) (.t 20)]
def G4:List O:=[cS 22 5,Gl 23 1 7,pT 24 23,oo 25<|.dK 1 1 [.int .i64 0] [(0,1,.t 24)],L4 26 1 22 25,cS 5 26]
def G3:List O:=[Gl 27 1 7,pT 28 27,cS 29 1,oo 30<|.bin .eql (.t 28) (.t 29)]
def zG:List O:=[cS 31 5,Gl 32 0 7,pT 33 32,oo 34<|.dK 1 1 [.int .i64 0] [(0,1,.t 33)],L4 35 1 31 34,cS 5 35]
def zF:List O:=[PR 36 14 1,cS 14 36]
def Ut:C:=(cU G7 [1,5,12,13,14,15] (.seq (PS 15 0) (.seq (.aO 1 (cU G6 [1,5,7,12,13,14] (.seq (cU G5 [1,5,7,12,13,14,21] (.cond (.t 21) (Nr G4 [1,5,7,12,13,14]) .skip)) (cU G3 [1,5,7,12,13,14,30] (.cond (.t 30) (Nr zG [1,5,12,13,14]) .skip))))) (Nr zF [1,5,12,13,14]))))
def zE:List O:=[cS 37 5,PQ 38 Z3 37,cS 4 38]
def cQR:C:=(cU He [1,2] (.seq (cU Hd [1,2,10] (.cond (.t 10) (cU Hc [4] .ret) .skip)) (cU Hb [1,2,5] (.seq (cU G8 [1,5,12,13,14] (.aO 0 (.loop Ut))) (cU zE [4] .ret)))))
def qQR:fK:=⟨39,2,[.t 4],cQR⟩
def N9:List O:=[Rk 4 false]
def N8:List O:=[cS 7 0,OY 8 7,pX 9 0]
def N7:List O:=[Rj 10 9 8]
def N6:List O:=[FG 11 1 7 9,pT 12 11,cS 6 12]
def N5:List O:=[cS 13 6,cS 14 1,oo 15<|.bin .eql (.t 13) (.t 14)]
def N3:List O:=[Rk 4 true]
def N0:List O:=[PR 16 9 1,cS 9 16]
def Us:C:=(cU N7 [1,7,8,9,10] (.seq (PS 10 0) (.seq (.aO 1 (cU N6 [1,6,7,8,9] (cU N5 [1,7,8,9,15] (.cond (.t 15) (cU N3 [4] .ret) .skip)))) (Nr N0 [1,7,8,9]))))
def NZ:List O:=[Rk 4 false]
def cQS:C:=(cU N9 [0,1] (.seq (cU N8 [1,7,8,9] (.aO 0 (.loop Us))) (cU NZ [4] .ret)))
def qQS:fK:=⟨17,2,[.t 4],cQS⟩
def adu:List O:=[Rk 4 false]
def adt:List O:=[cS 5 0,cS 6 1,Al 7 KL 5 6,oo 8<|.bin .geq (.t 7) (ki 0),cS 4 8]
def cQT:C:=(cU adu [0,1] (cU adt [4] .ret))
def qQT:fK:=⟨9,2,[.t 4],cQT⟩
def ads:List O:=[Rk 2 false]
def adr:List O:=[cS 3 0,R5 4 3 0,cS 2 4]
def cQU:C:=(cU ads [0] (cU adr [2] .ret))
def qQU:fK:=⟨5,1,[.t 2],cQU⟩
def adq:List O:=[Rk 4 false]
def adp:List O:=[cS 5 0,cS 6 1,Al 7 KK 5 6,oo 8<|.bin .geq (.t 7) (ki 0),cS 4 8]
def cQV:C:=(cU adq [0,1] (cU adp [4] .ret))
def qQV:fK:=⟨9,2,[.t 4],cQV⟩
def ado:List O:=[oW 2 0,Rk 3 false]
def adn:List O:=[pT 4 1,Gl 5 0 2,pT 6 5,FG 7 1 4 6,pT 8 7,pT 9 1,Gl 10 1 2,pT 11 10,FG 12 1 9 11,pT 13 12,oo 14<|.bin .eql (.t 8) (.t 13),cS 3 14]
def cQW:C:=(cU ado [1,2] (.seq (.aN adn true [(10,10),(11,11),(0,1),(0,2),(0,5),(1,5),(2,5),(3,5),(4,5),(0,6),(2,6),(4,6),(5,6),(0,7),(1,7),(2,7),(3,7),(4,7),(5,7),(0,8),(2,8),(4,8),(0,9),(1,9),(2,9),(3,9),(4,9)] [3]) .ret))
def qQW:fK:=⟨15,1,[.t 3],cQW⟩
def aiD:List O:=[pX 4 0]
def aiC:List O:=[cS 5 0,cS 6 1,oo 7<|.bin .rem (.t 5) (.t 6),cS 8 1,oo 9<|.bin .add (.t 7) (.t 8),cS 10 1,oo 11<|.bin .rem (.t 9) (.t 10),cS 4 11]
def cQX:C:=(cU aiD [0,1] (cU aiC [4] .ret))
def qQX:fK:=⟨12,2,[.t 4],cQX⟩
def adm:List O:=[oW 2 0,Rk 4 false]
def adl:List O:=[PO 5 2 2,PQ 6 TP 5,oo 7<|.bin .eql (.t 6) (ki 0),cS 8 7,sK 9 8 1,gt 10 8<|.fk 0 (.t 2),Sq 11 8 10,gt 12 8<|.call MP [.t 9,.t 11],O6 13 8 12,cS 14 13,gt 15 14<|.ld (some 2) (.t 2),gt 16 14<|.call MN [.t 15],sK 17 14 1,gt 18 14<|.call MO [.t 16,.t 17],O6 19 14 18,cS 4 19]
def cQY:C:=(cU adm [1,2] (cU adl [4] .ret))
def qQY:fK:=⟨20,2,[.t 4],cQY⟩
def B7:List O:=[oW 2 0,Rk 4 false]
def B6:List O:=[PO 7 2 2,PQ 8 Sg 7,PJ 9 8 0,cS 10 9,cL 11 10 1,Pv 12 10 0 2,Hq 13 10 12,gf 14 10<|.call MM [.t 11,.t 13],gf 15 10<|.un .not (.t 14),yV 16 10 15]
def B5:List O:=[Rk 4 false]
def B4:List O:=[pX 5 0]
def B3:List O:=[cS 17 5,cS 18 1,OY 19 18,Rj 20 17 19]
def B0:List O:=[cS 23 5,PR 24 23 1,cS 6 24]
def BZ:List O:=[cS 25 6,cS 26 1,OY 27 26,Rj 28 25 27]
def BX:List O:=[PO 31 2 2,cS 32 1,cS 33 5,FG 34 1 32 33,pT 35 34,cS 36 1,cS 37 6,FG 38 1 36 37,pT 39 38,oo 40<|.call Ic [.t 31,.t 35,.t 39],R5 41 40 0]
def BW:List O:=[Rk 4 false]
def BV:List O:=[cS 29 6,PR 30 29 1,cS 6 30]
def Ur:C:=(.seq (cU BZ [1,2,5,6,28] (PS 28 2)) (.seq (.aO 3 (.seq (.aN BX true [(9,9),(10,10),(0,1),(0,2),(0,3),(0,4),(0,5),(4,5),(0,6),(4,6),(0,7),(4,7),(0,8),(1,8),(2,8),(3,8),(4,8)] [1,2,5,6,41]) (.cond (.t 41) (cU BW [4] .ret) .skip))) (Nr BV [1,2,5,6])))
def uF:List O:=[cS 21 5,PR 22 21 1,cS 5 22]
def Uq:C:=(.seq (cU B3 [1,2,5,20] (PS 20 0)) (.seq (.aO 1 (cU B0 [1,2,5,6] (.aO 2 (.loop Ur)))) (Nr uF [1,2,5])))
def uE:List O:=[Rk 4 true]
def cQZ:C:=(cU B7 [1,2] (.seq (cU B6 [1,2,16] (.cond (.t 16) (cU B5 [4] .ret) .skip)) (.seq (cU B4 [1,2,5] (.aO 0 (.loop Uq))) (cU uE [4] .ret))))
def qQZ:fK:=⟨42,2,[.t 4],cQZ⟩
def OD:List O:=[Rk 4 false]
def OC:List O:=[cS 7 0,OY 8 7,pX 9 0]
def OB:List O:=[Rj 10 9 8]
def OA:List O:=[FG 11 1 7 9,pT 12 11,cS 6 12]
def Oz:List O:=[cS 13 1,cS 14 6,Al 15 nQS 13 14,oo 16<|.un .not (.t 15)]
def Oy:List O:=[Rk 4 false]
def Ox:List O:=[PR 17 9 1,cS 9 17]
def Ux:C:=(cU OB [1,7,8,9,10] (.seq (PS 10 0) (.seq (.aO 1 (cU OA [1,6,7,8,9] (cU Oz [1,7,8,9,16] (.cond (.t 16) (cU Oy [4] .ret) .skip)))) (Nr Ox [1,7,8,9]))))
def Ow:List O:=[Rk 4 true]
def cQ0:C:=(cU OD [0,1] (.seq (cU OC [1,7,8,9] (.aO 0 (.loop Ux))) (cU Ow [4] .ret)))
def qQ0:fK:=⟨18,2,[.t 4],cQ0⟩
def amY:List O:=[Rk 6 false]
def amX:List O:=[cS 7 1,oo 8<|.bin .geq (.t 7) (ki 0),cS 9 8,sK 10 9 2,gt 11 9<|.bin .geq (.t 10) (ki 0),O6 12 9 11,cS 13 12,sK 14 13 1,sK 15 13 0,gt 16 13<|.bin .lss (.t 14) (.t 15),O6 17 13 16,cS 18 17,sK 19 18 2,sK 20 18 0,gt 21 18<|.bin .lss (.t 19) (.t 20),O6 22 18 21,cS 23 22,sK 24 23 1,sK 25 23 2,gt 26 23<|.bin .neq (.t 24) (.t 25),O6 27 23 26,cS 6 27]
def cQ1:C:=(cU amY [0,1,2] (cU amX [6] .ret))
def qQ1:fK:=⟨28,3,[.t 6],cQ1⟩
def amW:List O:=[oW 3 1,Rl 4 2]
def amV:List O:=[pX 5 0]
def amU:List O:=[cS 7 5,cS 8 0,OY 9 8,Rj 10 7 9,cS 11 10,sK 12 11 0,sK 13 11 5,gt 14 11<|.fm 2 (.t 12) (.t 13),gt 15 11<|.ld (some 2) (.t 14),gt 16 11<|.ld (some 2) (.t 3),gt 17 11<|.call nQ8 [.t 15,.t 16],O6 18 11 17]
def amT:List O:=[cS 19 5,PR 20 19 1,cS 5 20]
def anj:C:=(.seq (.seq (.aN amU true [(3,3),(4,4),(10,10),(11,11),(5,9),(6,9),(7,9),(8,9)] [0,3,5,18]) (PS 18 0)) (.aO 1 (Nr amT [0,3,5])))
def amS:List O:=[cS 21 5,cS 22 0,OY 23 22,Rj 24 21 23,cS 25 24,sK 26 25 0,sK 27 25 5,gt 28 25<|.fm 2 (.t 26) (.t 27),gt 29 25<|.ld (some 2) (.t 28),gt 30 25<|.ld (some 2) (.t 3),gt 31 25<|.eq false (.str [true,true]) (.t 29) (.t 30),O6 32 25 31]
def amR:List O:=[cS 33 0,cS 4 33]
def amQ:List O:=[cS 34 0,cS 35 5,oo 36<|.D5 2 (.t 34) none (some (.t 35)),oo 37<|.app 2 (.k (.own 2 [])) (.t 36),cS 6 37]
def amP:List O:=[cS 38 6,PO 39 2 3,oo 40<|.dK 2 1 [.int .i64 0,.int .i64 0] [(0,2,.t 39)],L4 41 2 38 40,cS 42 0,cS 43 5,oo 44<|.D5 2 (.t 42) (some (.t 43)) none,L4 45 2 41 44,cS 4 45]
def cQ2:C:=(cU amW [0,3] (cU amV [0,3,5] (.seq (.aO 0 (.loop anj)) (.seq (.seq (.aN amS true [(3,3),(4,4),(10,10),(11,11),(5,9),(6,9),(7,9),(8,9)] [0,3,5,32]) (.cond (.t 32) (cU amR [4] .ret) .skip)) (cU amQ [0,3,5,6] (.seq (.aN amP true [(7,7),(8,8),(0,1),(0,2),(1,4),(2,4),(3,4),(1,5),(2,5),(3,5),(1,6),(2,6),(3,6)] [4]) .ret))))))
def qQ2:fK:=⟨46,2,[.t 4],cQ2⟩
def ai3:List O:=[oo 4<|.new [.int .i64 0,.int .i64 0]]
def ai2:List O:=[cS 5 0,cS 6 1,oo 7<|.min [.t 5,.t 6],cS 8 0,cS 9 1,oo 10<|.max [.t 8,.t 9],oo 11<|.build [.int .i64 0,.int .i64 0] [(0,1,.t 7),(1,1,.t 10)],kR 2 4 11]
def cQ3:C:=(cU ai3 [0,1,4] (cU ai2 [4] .ret))
def qQ3:fK:=⟨12,2,[.c 4 (some 2)],cQ3⟩
def ai1:List O:=[oW 2 0,oW 3 1,pX 4 0]
def ai0:List O:=[Gl 5 0 2,pT 6 5,Gl 7 0 3,pT 8 7,Al 9 KJ 6 8,Gl 10 1 2,pT 11 10,Gl 12 1 3,pT 13 12,Al 14 KJ 11 13,oo 15<|.dK 1 2 [.int .i64 0] [(0,1,.t 9),(1,1,.t 14)],PQ 16 ML 15,cS 4 16]
def cQ4:C:=(cU ai1 [2,3] (.seq (.aN ai0 true [(9,9),(10,10),(11,11),(12,12),(1,2),(0,3),(1,3),(1,5),(3,5),(4,5),(0,6),(1,6),(2,6),(3,6),(4,6),(1,7),(3,7),(4,7),(6,7),(0,8),(1,8),(2,8),(3,8),(4,8),(5,8),(6,8)] [4]) .ret))
def qQ4:fK:=⟨17,2,[.t 4],cQ4⟩
def vw:List O:=[pT 8 2,cS 9 1,oo 10<|.max [.t 8,.t 9],kR 1 2 10]
def tW:List O:=[cS 11 0,oo 12<|.bin .neq (.t 11) (.k (.int .u64 0))]
def sY:List O:=[cS 13 1,cS 14 0,PQ 15 nQ6 14,oo 16<|.bin .add (.t 13) (.t 15),pT 17 2,oo 18<|.bin .leq (.t 16) (.t 17),cS 19 18,cL 20 19 1,Hq 21 19 3,cL 22 19 0,gf 23 19<|.call nQ7 [.t 21,.t 22],gf 24 19<|.bin .add (.t 20) (.t 23),Hq 25 19 2,gf 26 19<|.bin .leq (.t 24) (.t 25),yV 27 19 26]
def vu:List O:=[cS 28 0,PQ 29 Z4 28,cS 7 29]
def vt:List O:=[cS 30 0,cS 31 7,oo 32<|.bin .shl (.k (.int .u64 1)) (.t 31),oo 33<|.bin .andNot (.t 30) (.t 32),cS 0 33]
def vq:List O:=[pT 34 4,cS 35 0,pT 36 3,cS 37 7,FG 38 1 36 37,pT 39 38,oo 40<|.bin .and (.t 35) (.t 39),cS 41 1,PR 42 41 1,oo 43<|.jM (.t 34) [.t 40,.t 42]]
def Li:C:=(.seq (cU tW [0,1,2,3,4,12] (PS 12 0)) (.aO 1 (.seq (.seq (.aN sY true [(5,5),(6,6),(13,13),(14,14),(0,2),(0,4),(1,4),(2,4),(3,4),(7,8),(8,9),(7,10),(7,12),(8,12),(9,12),(10,12),(11,12)] [0,1,2,3,4,27]) (.cond (.t 27) (.exit 0) .skip)) (cU vu [0,1,2,3,4,7] (cU vt [0,1,2,3,4,7] (.aN vq true [(9,9),(0,1),(0,2),(1,2),(0,3),(2,3),(0,4),(0,5),(1,5),(0,6),(0,7),(2,7),(5,7),(0,8),(2,8),(5,8)] [0,1,2,3,4]))))))
def cQ5:C:=(.seq .skip (cU vw [0,1,2,3,4] (.seq .skip (.aO 0 (.loop Li)))))
def qQ5:fK:=⟨44,2,[],cQ5⟩
def aiZ:List O:=[pX 2 0]
def aiY:List O:=[cS 3 0,oo 4<|.bin .shr (.t 3) (.k (.int .u64 1)),oo 5<|.bin .and (.t 4) (.k (.int .u64 6148914691236517205)),cS 6 0,oo 7<|.bin .and (.t 6) (.k (.int .u64 6148914691236517205)),oo 8<|.bin .add (.t 5) (.t 7),cS 0 8]
def aiX:List O:=[cS 9 0,oo 10<|.bin .shr (.t 9) (.k (.int .u64 2)),oo 11<|.bin .and (.t 10) (.k (.int .u64 3689348814741910323)),cS 12 0,oo 13<|.bin .and (.t 12) (.k (.int .u64 3689348814741910323)),oo 14<|.bin .add (.t 11) (.t 13),cS 0 14]
def aiW:List O:=[cS 15 0,oo 16<|.bin .shr (.t 15) (.k (.int .u64 4)),cS 17 0,oo 18<|.bin .add (.t 16) (.t 17),oo 19<|.bin .and (.t 18) (.k (.int .u64 1085102592571150095)),cS 0 19]
def aiV:List O:=[cS 20 0,cS 21 0,oo 22<|.bin .shr (.t 21) (.k (.int .u64 8)),oo 23<|.bin .add (.t 20) (.t 22),cS 0 23]
def aiU:List O:=[cS 24 0,cS 25 0,oo 26<|.bin .shr (.t 25) (.k (.int .u64 16)),oo 27<|.bin .add (.t 24) (.t 26),cS 0 27]
def aiT:List O:=[cS 28 0,cS 29 0,oo 30<|.bin .shr (.t 29) (.k (.int .u64 32)),oo 31<|.bin .add (.t 28) (.t 30),cS 0 31]
def aiS:List O:=[cS 32 0,oo 33<|.HX .i64 (.t 32),oo 34<|.bin .and (.t 33) (ki 127),cS 2 34]
def cQ6:C:=(cU aiZ [0] (cU aiY [0] (cU aiX [0] (cU aiW [0] (cU aiV [0] (cU aiU [0] (cU aiT [0] (cU aiS [2] .ret))))))))
def qQ6:fK:=⟨35,1,[.t 2],cQ6⟩
def Ov:List O:=[pX 4 0]
def Ou:List O:=[pX 5 0]
def Ot:List O:=[cS 8 1,oo 9<|.bin .neq (.t 8) (.k (.int .u64 0))]
def Oq:List O:=[cS 12 1,cS 6 12]
def Oo:List O:=[cS 13 6,oo 14<|.bin .neq (.t 13) (.k (.int .u64 0))]
def On:List O:=[cS 15 6,PQ 16 Z4 15,cS 7 16]
def Om:List O:=[cS 17 1,cS 18 7,oo 19<|.bin .shl (.k (.int .u64 1)) (.t 18),oo 20<|.bin .andNot (.t 17) (.t 19),cS 1 20]
def Ol:List O:=[cS 21 6,cS 22 7,oo 23<|.bin .shl (.k (.int .u64 1)) (.t 22),cS 24 0,cS 25 7,FG 26 1 24 25,pT 27 26,oo 28<|.bin .or (.t 23) (.t 27),oo 29<|.bin .andNot (.t 21) (.t 28),cS 6 29]
def aav:C:=(.seq (cU Oo [0,1,5,6,14] (PS 14 2)) (.aO 3 (cU On [0,1,5,6,7] (cU Om [0,1,5,6,7] (.aN Ol true [(8,8),(9,9),(0,6),(1,6),(2,6)] [0,1,5,6])))))
def Oj:List O:=[cS 10 5,PR 11 10 1,cS 5 11]
def aau:C:=(.seq (cU Ot [0,1,5,9] (PS 9 0)) (.seq (.aO 1 (cU Oq [0,1,5,6] (.aO 2 (.loop aav)))) (Nr Oj [0,1,5])))
def Oi:List O:=[cS 30 5,cS 4 30]
def cQ7:C:=(cU Ov [0,1] (cU Ou [0,1,5] (.seq (.aO 0 (.loop aau)) (cU Oi [4] .ret))))
def qQ7:fK:=⟨31,2,[.t 4],cQ7⟩
def Tw:List O:=[oW 2 0,oW 3 1,Rk 4 false]
def Tv:List O:=[Gl 5 0 2,pT 6 5,Gl 7 0 3,pT 8 7,Rj 9 6 8,cS 10 9,Pv 11 10 0 2,Hq 12 10 11,Pv 13 10 0 3,Hq 14 10 13,gf 15 10<|.bin .eql (.t 12) (.t 14),cL 16 10 15,gt 17 16<|.fk 1 (.t 2),Sq 18 16 17,gt 19 16<|.fk 1 (.t 3),Sq 20 16 19,gt 21 16<|.bin .lss (.t 18) (.t 20),gf 22 10<|.pick (.t 16) (.t 21) (.k (.bool false)),yV 23 10 22,cS 4 23]
def cQ8:C:=(cU Tw [2,3] (cU Tv [4] .ret))
def qQ8:fK:=⟨24,2,[.t 4],cQ8⟩
def HE:List O:=[oW 5 0,Rl 10 1]
def HD:List O:=[cS 13 2,cS 11 13]
def HB:List O:=[cS 14 11,Gl 15 0 5,pT 16 15,Rj 17 14 16]
def HA:List O:=[cS 20 3,OY 21 20,cS 22 4,oo 23<|.bin .leq (.t 21) (.t 22),cS 24 23,gt 25 24<|.ld (some 2) (.t 5),sK 26 24 1,sK 27 24 11,gt 28 24<|.call KI [.t 25,.t 26,.t 27],O6 29 24 28]
def Hz:List O:=[cS 30 1,oo 31<|.app 1 (.k (.own 1 [])) (.t 30),cS 32 11,oo 33<|.dK 1 1 [.int .i64 0] [(0,1,.t 32)],L4 34 1 31 33,cS 12 34]
def Hy:List O:=[PO 35 2 5,cS 36 12,Al 37 MK 35 36]
def Hw:List O:=[cS 38 3,cS 39 12,oo 40<|.dK 1 1 [.own 1 []] [(0,1,.t 39)],L4 41 1 38 40,cS 3 41]
def Hv:List O:=[PO 42 2 5,cS 43 12,cS 44 11,PR 45 44 1,cS 46 3,cS 47 4,oo 48<|.call ij [.t 42,.t 43,.t 45,.t 46,.t 47],cS 3 48]
def Hu:List O:=[cS 18 11,PR 19 18 1,cS 11 19]
def yE:C:=(.seq (cU HB [1,3,4,5,11,17] (PS 17 0)) (.seq (.aO 1 (cU HA [1,3,4,5,11,29] (.cond (.t 29) (cU Hz [1,3,4,5,11,12] (cU Hy [1,3,4,5,11,12,37] (.cond (.t 37) (Nr Hw [1,3,4,5,11]) (Nr Hv [1,3,4,5,11])))) .skip))) (Nr Hu [1,3,4,5,11])))
def Hs:List O:=[cS 49 3,cS 10 49]
def cQ9:C:=(cU HE [1,2,3,4,5] (.seq (cU HD [1,3,4,5,11] (.aO 0 (.loop yE))) (cU Hs [10] .ret)))
def qQ9:fK:=⟨50,5,[.t 10],cQ9⟩
def adk:List O:=[oW 1 0,Rl 2 1,pX 3 0]
def adj:List O:=[PO 7 2 1,PQ 8 TP 7,cS 4 8]
def adi:List O:=[cS 9 4,PJ 10 9 0]
def adh:List O:=[cS 11 4,Rl 2 1,cS 3 11]
def adg:List O:=[PO 13 2 1,PQ 14 KO 13,cS 12 14,Rm 15 0 12,Rm 16 1 12,cS 5 15,cS 6 16]
def adf:List O:=[cS 17 6,cS 2 17,pX 3 0]
def cQa0:C:=(cU adk [1] (.seq (cU adj [1,4] (cU adi [1,4,10] (.cond (.t 10) (cU adh [2,3] .ret) .skip))) (cU adg [6] (cU adf [2,3] .ret))))
def qQa0:fK:=⟨18,1,[.t 2,.t 3],cQa0⟩
def ade:List O:=[Rl 4 1]
def adb:List O:=[cS 5 0,cS 6 1,oo 7<|.call MJ [.t 5,.t 6,.k (.func (.func nQc2) [] [])],cS 4 7]
def cQa1:C:=(cU ade [0,1] (cU adb [4] .ret))
def qQa1:fK:=⟨8,2,[.t 4],cQa1⟩
def Di:List O:=[oW 1 0,Rl 2 1,pX 3 0]
def Dh:List O:=[PO 9 2 1,PQ 10 Sg 9,cS 4 10]
def Dg:List O:=[cS 11 4,PJ 12 11 0]
def Df:List O:=[cS 13 4,Rl 2 1,cS 3 13]
def De:List O:=[Gl 14 0 1,pT 15 14,oo 16<|.KR 1 [.int .i64 0] (.t 15) (.t 15),cS 5 16]
def Dd:List O:=[pX 6 1]
def Dc:List O:=[cS 17 6,Gl 18 0 1,pT 19 18,Rj 20 17 19]
def Db:List O:=[PO 23 2 1,cS 24 6,Al 25 MI 23 24,OY 26 25,pX 27 0]
def Da:List O:=[Rj 28 27 26]
def C9:List O:=[FG 29 1 25 27,pT 30 29,cS 8 30]
def wX:List O:=[cS 31 5,cS 32 8,cS 33 6,FG 34 1 31 32,kR 1 34 33]
def wW:List O:=[PR 35 27 1,cS 27 35]
def Rq:C:=(cU Da [1,5,6,25,26,27,28] (.seq (PS 28 2) (.seq (.aO 3 (cU C9 [1,5,6,8,25,26,27] (Nr wX [1,5,6,25,26,27]))) (Nr wW [1,5,6,25,26,27]))))
def wV:List O:=[cS 21 6,PR 22 21 1,cS 6 22]
def Gk:C:=(.seq (cU Dc [1,5,6,20] (PS 20 0)) (.seq (.aO 1 (cU Db [1,5,6,25,26,27] (.aO 2 (.loop Rq)))) (Nr wV [1,5,6])))
def wU:List O:=[cS 36 5,cS 2 36,pX 3 0]
def cQa2:C:=(cU Di [1] (.seq (cU Dh [1,4] (cU Dg [1,4,12] (.cond (.t 12) (cU Df [2,3] .ret) .skip))) (cU De [1,5] (.seq (cU Dd [1,5,6] (.aO 0 (.loop Gk))) (cU wU [2,3] .ret)))))
def qQa2:fK:=⟨37,1,[.t 2,.t 3],cQa2⟩
def C8:List O:=[Rl 4 1]
def C7:List O:=[pX 5 0]
def C6:List O:=[cS 7 5,cS 8 0,OY 9 8,Rj 10 7 9,cS 11 10,sK 12 11 0,sK 13 11 5,gt 14 11<|.fm 1 (.t 12) (.t 13),Sq 15 11 14,sK 16 11 1,gt 17 11<|.bin .lss (.t 15) (.t 16),O6 18 11 17]
def C5:List O:=[cS 19 5,PR 20 19 1,cS 5 20]
def Lg:C:=(.seq (cU C6 [0,1,5,18] (PS 18 0)) (.aO 1 (Nr C5 [0,1,5])))
def C4:List O:=[cS 21 5,cS 22 0,OY 23 22,Rj 24 21 23,cS 25 24,sK 26 25 0,sK 27 25 5,gt 28 25<|.fm 1 (.t 26) (.t 27),Sq 29 25 28,sK 30 25 1,gt 31 25<|.bin .eql (.t 29) (.t 30),O6 32 25 31]
def C3:List O:=[cS 33 0,cS 4 33]
def C2:List O:=[cS 34 0,cS 35 5,oo 36<|.D5 1 (.t 34) none (some (.t 35)),oo 37<|.app 1 (.k (.own 1 [])) (.t 36),cS 6 37]
def C0:List O:=[cS 38 6,cS 39 1,oo 40<|.dK 1 1 [.int .i64 0] [(0,1,.t 39)],L4 41 1 38 40,cS 42 0,cS 43 5,oo 44<|.D5 1 (.t 42) (some (.t 43)) none,L4 45 1 41 44,cS 4 45]
def cQa3:C:=(cU C8 [0,1] (cU C7 [0,1,5] (.seq (.aO 0 (.loop Lg)) (.seq (cU C4 [0,1,5,32] (.cond (.t 32) (cU C3 [4] .ret) .skip)) (cU C2 [0,1,5,6] (.seq (.aN C0 true [(7,7),(8,8),(0,2),(2,4),(3,4),(2,5),(3,5),(2,6),(3,6)] [4]) .ret))))))
def qQa3:fK:=⟨46,2,[.t 4],cQa3⟩
def rB:List O:=[oW 1 0,Rl 2 1,Rl 3 1]
def rA:List O:=[PO 15 2 1,PQ 16 KH 15,cS 4 16]
def rz:List O:=[oo 5<|.new [.int .u64 0,.int .u64 0,.int .u64 0,.int .u64 0,.int .u64 0,.int .u64 0,.int .u64 0,.int .u64 0,.int .u64 0,.int .u64 0,.int .u64 0,.int .u64 0,.int .u64 0,.int .u64 0,.int .u64 0,.int .u64 0,.int .u64 0,.int .u64 0,.int .u64 0,.int .u64 0,.int .u64 0,.int .u64 0,.int .u64 0,.int .u64 0,.int .u64 0,.int .u64 0,.int .u64 0,.int .u64 0,.int .u64 0,.int .u64 0,.int .u64 0,.int .u64 0,.int .u64 0,.int .u64 0,.int .u64 0,.int .u64 0,.int .u64 0,.int .u64 0,.int .u64 0,.int .u64 0,.int .u64 0,.int .u64 0,.int .u64 0,.int .u64 0,.int .u64 0,.int .u64 0,.int .u64 0,.int .u64 0,.int .u64 0,.int .u64 0,.int .u64 0,.int .u64 0,.int .u64 0,.int .u64 0,.int .u64 0,.int .u64 0,.int .u64 0,.int .u64 0,.int .u64 0,.int .u64 0,.int .u64 0,.int .u64 0,.int .u64 0,.int .u64 0]]
def rq:List O:=[cS 17 4,OY 18 17,oo 19<|.KR 1 [.int .i64 0] (.t 18) (.t 18),cS 6 19]
def rn:List O:=[cS 20 4,OY 21 20,pX 22 0]
def rm:List O:=[Rj 23 22 21]
def rk:List O:=[cS 24 22,FG 25 1 20 22,pT 26 25,cS 7 24,cS 8 26]
def rj:List O:=[cS 27 6,cS 28 7,cS 29 8,PQ 30 MH 29,FG 31 1 27 28,kR 1 31 30]
def rh:List O:=[cS 32 6,cS 33 7,FG 34 1 32 33,pT 35 34,oo 36<|.Ig 64 1 (.t 5) (.t 35),pT 37 36,cS 38 7,PQ 39 ES 38,oo 40<|.bin .or (.t 37) (.t 39),oo 41<|.Ig 64 1 (.t 5) (.t 35),kR 1 41 40]
def rf:List O:=[PR 42 22 1,cS 22 42]
def Ld:C:=(cU rm [2,4,5,6,20,21,22,23] (.seq (PS 23 0) (.seq (.aO 1 (cU rk [2,4,5,6,7,8,20,21,22] (cU rj [2,4,5,6,7,20,21,22] (.aN rh true [(8,8),(9,9),(10,10),(3,6),(5,6),(0,7),(1,7),(2,7),(3,7),(4,7),(5,7)] [2,4,5,6,20,21,22])))) (Nr rf [2,4,5,6,20,21,22]))))
def mP:List O:=[cS 43 4,OY 44 43,oo 45<|.KR 1 [.int .i64 0] (.t 44) (.t 44),cS 3 45]
def mO:List O:=[cS 46 4,OY 47 46,PQ 48 MG 47,cS 9 48]
def mN:List O:=[pX 10 0]
def mM:List O:=[cS 49 9,oo 50<|.bin .neq (.t 49) (.k (.int .u64 0))]
def mL:List O:=[pX 51 0]
def mK:List O:=[R5 52 51 64]
def mJ:List O:=[cS 53 51,cS 11 53]
def mI:List O:=[cS 54 11,oo 55<|.Ig 64 1 (.t 5) (.t 54),pT 56 55,oo 57<|.bin .eql (.t 56) (.k (.int .u64 0))]
def mH:List O:=[cS 58 11,oo 59<|.Ig 64 1 (.t 5) (.t 58),pT 60 59,PQ 61 MF 60,cS 12 61]
def mG:List O:=[cS 62 10,cS 63 11,oo 64<|.max [.t 62,.t 63],cS 10 64]
def mF:List O:=[cS 65 3,cS 66 12,cS 67 10,FG 68 1 65 66,kR 1 68 67]
def mD:List O:=[cS 69 2,cS 70 12,oo 71<|.dK 1 1 [.int .i64 0] [(0,1,.t 70)],L4 72 1 69 71,cS 2 72]
def mC:List O:=[cS 73 9,cS 74 12,PQ 75 ES 74,oo 76<|.bin .andNot (.t 73) (.t 75),cS 9 76]
def mB:List O:=[cS 77 11,oo 78<|.Ig 64 1 (.t 5) (.t 77),pT 79 78,cS 80 12,PQ 81 ES 80,oo 82<|.bin .andNot (.t 79) (.t 81),oo 83<|.Ig 64 1 (.t 5) (.t 77),kR 1 83 82]
def mA:List O:=[cS 84 4,cS 85 12,FG 86 1 84 85,pT 87 86,cS 88 9,oo 89<|.bin .and (.t 87) (.t 88),PQ 90 KM 89,OY 91 90,pX 92 0]
def mz:List O:=[Rj 93 92 91]
def my:List O:=[FG 94 1 90 92,pT 95 94,cS 14 95]
def mw:List O:=[cS 96 6,cS 97 14,FG 98 1 96 97,pT 99 98,oo 100<|.Ig 64 1 (.t 5) (.t 99),pT 101 100,cS 102 14,PQ 103 ES 102,oo 104<|.bin .andNot (.t 101) (.t 103),oo 105<|.Ig 64 1 (.t 5) (.t 99),kR 1 105 104]
def mu:List O:=[cS 106 6,cS 107 14,FG 108 1 106 107,pT 109 108,oo 110<|.bin .sub (.t 109) (ki 1),FG 111 1 106 107,kR 1 111 110]
def mq:List O:=[cS 112 6,cS 113 14,FG 114 1 112 113,pT 115 114,oo 116<|.Ig 64 1 (.t 5) (.t 115),pT 117 116,cS 118 14,PQ 119 ES 118,oo 120<|.bin .or (.t 117) (.t 119),oo 121<|.Ig 64 1 (.t 5) (.t 115),kR 1 121 120]
def mn:List O:=[PR 122 92 1,cS 92 122]
def Lc:C:=(cU mz [2,3,4,5,6,9,10,90,91,92,93] (.seq (PS 93 6) (.seq (.aO 7 (cU my [2,3,4,5,6,9,10,14,90,91,92] (.seq (.aN mw true [(8,8),(9,9),(10,10),(3,6),(5,6),(0,7),(1,7),(2,7),(3,7),(4,7),(5,7)] [2,3,4,5,6,9,10,14,90,91,92]) (cU mu [2,3,4,5,6,9,10,14,90,91,92] (.aN mq true [(8,8),(9,9),(10,10),(3,6),(5,6),(0,7),(1,7),(2,7),(3,7),(4,7),(5,7)] [2,3,4,5,6,9,10,90,91,92]))))) (Nr mn [2,3,4,5,6,9,10,90,91,92]))))
def mj:List O:=[PR 123 51 1,cS 51 123]
def Dw:C:=(cU mK [2,3,4,5,6,9,10,51,52] (.seq (PS 52 4) (.seq (.aO 5 (cU mJ [2,3,4,5,6,9,10,11,51] (.seq (cU mI [2,3,4,5,6,9,10,11,51,57] (.cond (.t 57) (.exit 5) .skip)) (cU mH [2,3,4,5,6,9,10,11,12] (cU mG [2,3,4,5,6,9,10,11,12] (cU mF [2,3,4,5,6,9,10,11,12] (cU mD [2,3,4,5,6,9,10,11,12] (cU mC [2,3,4,5,6,9,10,11,12] (.seq (.aN mB true [(5,5),(6,6),(7,7),(2,3),(0,4),(1,4),(2,4)] [2,3,4,5,6,9,10,12]) (.seq (cU mA [2,3,4,5,6,9,10,90,91,92] (.aO 6 (.loop Lc))) (.exit 3))))))))))) (Nr mj [2,3,4,5,6,9,10,51]))))
def Ad:C:=(.seq (cU mM [2,3,4,5,6,9,10,50] (PS 50 2)) (.aO 3 (cU mL [2,3,4,5,6,9,10,51] (.aO 4 (.loop Dw)))))
def mh:List O:=[cS 124 2,cS 125 3,cS 2 124,cS 3 125]
def cQa4:C:=(cU rB [1,2] (.seq .skip (cU rA [2,4] (cU rz [2,4,5] (cU rq [2,4,5,6] (.seq (cU rn [2,4,5,6,20,21,22] (.aO 0 (.loop Ld))) (cU mP [2,3,4,5,6] (cU mO [2,3,4,5,6,9] (cU mN [2,3,4,5,6,9,10] (.seq .skip (.seq (.aO 2 (.loop Ad)) (cU mh [2,3] .ret))))))))))))
def qQa4:fK:=⟨126,1,[.t 2,.t 3],cQa4⟩
def JW:List O:=[Rl 4 1]
def JV:List O:=[Rl 5 1]
def JU:List O:=[cS 8 0,PQ 9 Z3 8,OY 10 9,pX 11 0]
def JT:List O:=[Rj 12 11 10]
def JS:List O:=[FG 13 1 9 11,pT 14 13,cS 7 14]
def JR:List O:=[cS 15 1,cS 16 7,Al 17 nQS 15 16]
def JQ:List O:=[cS 18 5,cS 19 7,oo 20<|.dK 1 1 [.int .i64 0] [(0,1,.t 19)],L4 21 1 18 20,cS 5 21]
def JP:List O:=[PR 22 11 1,cS 11 22]
def Lb:C:=(cU JT [1,5,9,10,11,12] (.seq (PS 12 0) (.seq (.aO 1 (cU JS [1,5,7,9,10,11] (cU JR [1,5,7,9,10,11,17] (.cond (.t 17) (Nr JQ [1,5,9,10,11]) .skip)))) (Nr JP [1,5,9,10,11]))))
def JO:List O:=[cS 23 5,cS 4 23]
def cQa5:C:=(cU JW [0,1] (cU JV [0,1,5] (.seq (cU JU [1,5,9,10,11] (.aO 0 (.loop Lb))) (cU JO [4] .ret))))
def qQa5:fK:=⟨24,2,[.t 4],cQa5⟩
def JN:List O:=[Rl 4 1]
def JM:List O:=[Rl 5 1]
def JL:List O:=[cS 8 0,PQ 9 Z3 8,OY 10 9,pX 11 0]
def JK:List O:=[Rj 12 11 10]
def JJ:List O:=[FG 13 1 9 11,pT 14 13,cS 7 14]
def JI:List O:=[cS 15 1,cS 16 7,Al 17 nQS 15 16,oo 18<|.un .not (.t 17)]
def JH:List O:=[cS 19 5,cS 20 7,oo 21<|.dK 1 1 [.int .i64 0] [(0,1,.t 20)],L4 22 1 19 21,cS 5 22]
def JG:List O:=[PR 23 11 1,cS 11 23]
def La:C:=(cU JK [1,5,9,10,11,12] (.seq (PS 12 0) (.seq (.aO 1 (cU JJ [1,5,7,9,10,11] (cU JI [1,5,7,9,10,11,18] (.cond (.t 18) (Nr JH [1,5,9,10,11]) .skip)))) (Nr JG [1,5,9,10,11]))))
def JF:List O:=[cS 24 5,cS 4 24]
def cQa6:C:=(cU JN [0,1] (cU JM [0,1,5] (.seq (cU JL [1,5,9,10,11] (.aO 0 (.loop La))) (cU JF [4] .ret))))
def qQa6:fK:=⟨25,2,[.t 4],cQa6⟩
def akv:List O:=[oo 4<|.mv (.k (.int .u64 0)),oo 5<|.mv (.k (.int .u64 0))]
def aku:List O:=[cS 11 0,oo 12<|.HX .u32 (.t 11),cS 13 1,oo 14<|.HX .u32 (.t 13),Al 15 nQc9 12 14,cS 10 15,Rm 16 0 10,Rm 17 1 10,cS 6 16,cS 7 17]
def akt:List O:=[cS 18 6,oo 19<|.HX .u64 (.t 18),cS 20 7,oo 21<|.HX .u64 (.t 20),cS 4 19,cS 5 21]
def aks:List O:=[cS 23 0,cS 24 1,Al 25 nQd0 23 24,cS 22 25,Rm 26 0 22,Rm 27 1 22,cS 8 26,cS 9 27]
def akr:List O:=[cS 28 8,cS 29 9,cS 4 28,cS 5 29]
def cQa7:C:=(cU akv [0,1] (.seq (.cond (.k (.bool false)) (cU aku [6,7] (cU akt [4,5] .ret)) .skip) (cU aks [8,9] (cU akr [4,5] .ret))))
def qQa7:fK:=⟨30,2,[.t 4,.t 5],cQa7⟩
def QJ:List O:=[Rl 2 1]
def QI:List O:=[Rl 3 1]
def QH:List O:=[cS 4 0,oo 5<|.bin .neq (.t 4) (.k (.int .u64 0))]
def QG:List O:=[cS 10 3,cS 11 0,PQ 12 Z4 11,oo 13<|.dK 1 1 [.int .i64 0] [(0,1,.t 12)],L4 14 1 10 13,cS 3 14]
def QF:List O:=[cS 6 0,cS 7 0,oo 8<|.bin .sub (.t 7) (.k (.int .u64 1)),oo 9<|.bin .and (.t 6) (.t 8),cS 0 9]
def Rp:C:=(.seq (cU QH [0,3,5] (PS 5 0)) (.seq (.aO 1 (Nr QG [0,3])) (Nr QF [0,3])))
def QE:List O:=[cS 15 3,cS 2 15]
def cQa8:C:=(cU QJ [0] (cU QI [0,3] (.seq (.aO 0 (.loop Rp)) (cU QE [2] .ret))))
def qQa8:fK:=⟨16,1,[.t 2],cQa8⟩
def ada:List O:=[oW 2 0,oo 4<|.mv (.k (.int .u64 0))]
def ac9:List O:=[PO 6 2 2,PQ 7 KH 6,cS 5 7]
def ac8:List O:=[cS 8 1,R5 9 8 0,cS 10 9,cL 11 10 1,cL 12 10 5,gf 13 10<|.len (.t 12),gf 14 10<|.bin .geq (.t 11) (.t 13),yV 15 10 14,cS 16 15,gf 17 16<|.ld (some 2) (.t 2),gf 18 16<|.call TP [.t 17],gf 19 16<|.bin .neq (.t 18) (ki 0),yV 20 16 19]
def ac7:List O:=[oo 4<|.mv (.k (.int .u64 0))]
def ac6:List O:=[cS 21 5,cS 22 1,FG 23 1 21 22,pT 24 23,cS 4 24]
def cQa9:C:=(cU ada [1,2] (cU ac9 [1,2,5] (.seq (cU ac8 [1,5,20] (.cond (.t 20) (cU ac7 [4] .ret) .skip)) (cU ac6 [4] .ret))))
def qQa9:fK:=⟨25,2,[.t 4],cQa9⟩
def CZ:List O:=[pX 4 0]
def CY:List O:=[cS 6 0,OY 7 6,pX 8 0]
def CX:List O:=[Rj 9 8 7]
def CW:List O:=[cS 10 8,cS 5 10]
def CV:List O:=[cS 11 1,cS 12 0,cS 13 5,FG 14 1 12 13,pT 15 14,oo 16<|.jM (.t 11) [.t 15]]
def CU:List O:=[cS 17 5,cS 4 17]
def CT:List O:=[PR 18 8 1,cS 8 18]
def Dv:C:=(cU CX [0,1,7,8,9] (.seq (PS 9 0) (.seq (.aO 1 (cU CW [0,1,5,7,8] (cU CV [0,1,5,7,8,16] (.cond (.t 16) (cU CU [4] .ret) .skip)))) (Nr CT [0,1,7,8]))))
def CS:List O:=[oo 4<|.mv (.k (.int .i64 (-1)))]
def cQb0:C:=(cU CZ [0,1] (.seq (cU CY [0,1,7,8] (.aO 0 (.loop Dv))) (cU CS [4] .ret)))
def qQb0:fK:=⟨19,2,[.t 4],cQb0⟩
def CR:List O:=[pX 4 0]
def CQ:List O:=[cS 6 0,OY 7 6,pX 8 0]
def CP:List O:=[Rj 9 8 7]
def CO:List O:=[cS 10 8,cS 5 10]
def CN:List O:=[cS 11 1,cS 12 0,cS 13 5,FG 14 2 12 13,PO 15 2 14,oo 16<|.jM (.t 11) [.t 15]]
def CM:List O:=[cS 17 5,cS 4 17]
def CL:List O:=[PR 18 8 1,cS 8 18]
def Du:C:=(cU CP [0,1,7,8,9] (.seq (PS 9 0) (.seq (.aO 1 (cU CO [0,1,5,7,8] (cU CN [0,1,5,7,8,16] (.cond (.t 16) (cU CM [4] .ret) .skip)))) (Nr CL [0,1,7,8]))))
def CK:List O:=[oo 4<|.mv (.k (.int .i64 (-1)))]
def cQb1:C:=(cU CR [0,1] (.seq (cU CQ [0,1,7,8] (.aO 0 (.loop Du))) (cU CK [4] .ret)))
def qQb1:fK:=⟨19,2,[.t 4],cQb1⟩
def wT:List O:=[Rk 4 false]
def wS:List O:=[cS 7 0,OY 8 7,pX 9 0]
def wR:List O:=[Rj 10 9 8]
def wQ:List O:=[cS 11 9,FG 12 1 7 9,pT 13 12,cS 5 11,cS 6 13]
def wP:List O:=[cS 14 6,R5 15 14 0,cS 16 15,cL 17 16 6,cL 18 16 1,gf 19 16<|.bin .geq (.t 17) (.t 18),yV 20 16 19,cS 21 20,cL 22 21 5,gf 23 21<|.bin .gtr (.t 22) (ki 0),cL 24 21 23,sK 25 24 0,sK 26 24 5,gt 27 24<|.bin .sub (.t 26) (ki 1),gt 28 24<|.fm 1 (.t 25) (.t 27),Sq 29 24 28,sK 30 24 6,gt 31 24<|.bin .geq (.t 29) (.t 30),gf 32 21<|.pick (.t 24) (.t 31) (.k (.bool false)),yV 33 21 32]
def wO:List O:=[Rk 4 false]
def wN:List O:=[PR 34 9 1,cS 9 34]
def Ac:C:=(cU wR [0,1,7,8,9,10] (.seq (PS 10 0) (.seq (.aO 1 (cU wQ [0,1,5,6,7,8,9] (cU wP [0,1,7,8,9,33] (.cond (.t 33) (cU wO [4] .ret) .skip)))) (Nr wN [0,1,7,8,9]))))
def wM:List O:=[Rk 4 true]
def cQb2:C:=(cU wT [0,1] (.seq (cU wS [0,1,7,8,9] (.aO 0 (.loop Ac))) (cU wM [4] .ret)))
def qQb2:fK:=⟨35,2,[.t 4],cQb2⟩
def wL:List O:=[Rk 4 false]
def wK:List O:=[cS 9 1,OY 10 9,pX 11 0]
def wJ:List O:=[Rj 12 11 10]
def wI:List O:=[cS 13 11,FG 14 1 9 11,pT 15 14,cS 5 13,cS 6 15]
def wH:List O:=[cS 16 1,cS 17 5,oo 18<|.D5 1 (.t 16) none (some (.t 17)),OY 19 18,pX 20 0]
def wG:List O:=[Rj 21 20 19]
def wF:List O:=[FG 22 1 18 20,pT 23 22,cS 8 23]
def wE:List O:=[cS 24 0,cS 25 6,FG 26 1 24 25,pT 27 26,cS 28 8,oo 29<|.bin .shr (.t 27) (.t 28),oo 30<|.bin .and (.t 29) (.k (.int .u64 1)),oo 31<|.bin .eql (.t 30) (.k (.int .u64 0))]
def wC:List O:=[Rk 4 false]
def wB:List O:=[PR 32 20 1,cS 20 32]
def K9:C:=(cU wG [0,1,6,9,10,11,18,19,20,21] (.seq (PS 21 2) (.seq (.aO 3 (cU wF [0,1,6,8,9,10,11,18,19,20] (cU wE [0,1,6,9,10,11,18,19,20,31] (.cond (.t 31) (cU wC [4] .ret) .skip)))) (Nr wB [0,1,6,9,10,11,18,19,20]))))
def rT:List O:=[PR 33 11 1,cS 11 33]
def K8:C:=(cU wJ [0,1,9,10,11,12] (.seq (PS 12 0) (.seq (.aO 1 (cU wI [0,1,5,6,9,10,11] (cU wH [0,1,6,9,10,11,18,19,20] (.aO 2 (.loop K9))))) (Nr rT [0,1,9,10,11]))))
def rS:List O:=[Rk 4 true]
def cQb3:C:=(cU wL [0,1] (.seq (cU wK [0,1,9,10,11] (.aO 0 (.loop K8))) (cU rS [4] .ret)))
def qQb3:fK:=⟨34,2,[.t 4],cQb3⟩
def QD:List O:=[oW 1 0,Rl 2 1]
def QC:List O:=[Gl 6 0 1,pT 7 6,oo 8<|.KR 1 [.int .u64 0] (.t 7) (.t 7),cS 3 8]
def QB:List O:=[Gl 9 1 1,pT 10 9,OY 11 10,pX 12 0]
def QA:List O:=[Rj 13 12 11]
def Qz:List O:=[FG 14 2 10 12,PO 15 2 14,oo 5<|.new [.int .i64 0,.int .i64 0],kR 2 5 15]
def Qy:List O:=[cS 16 3,Gl 17 0 5,pT 18 17,FG 19 1 16 18,pT 20 19,Gl 21 1 5,pT 22 21,oo 23<|.bin .shl (.k (.int .u64 1)) (.t 22),oo 24<|.bin .or (.t 20) (.t 23),FG 25 1 16 18,kR 1 25 24]
def Qx:List O:=[cS 26 3,Gl 27 1 5,pT 28 27,FG 29 1 26 28,pT 30 29,Gl 31 0 5,pT 32 31,oo 33<|.bin .shl (.k (.int .u64 1)) (.t 32),oo 34<|.bin .or (.t 30) (.t 33),FG 35 1 26 28,kR 1 35 34]
def Qw:List O:=[PR 36 12 1,cS 12 36]
def Ro:C:=(cU QA [3,10,11,12,13] (.seq (PS 13 0) (.seq (.aO 1 (cU Qz [3,5,10,11,12] (.seq (.aN Qy true [(8,8),(9,9),(10,10),(0,2),(2,5),(4,5),(0,6),(1,6),(2,6),(3,6),(4,6),(2,7),(4,7)] [3,5,10,11,12]) (.aN Qx true [(8,8),(9,9),(10,10),(0,2),(2,5),(4,5),(0,6),(1,6),(2,6),(3,6),(4,6),(2,7),(4,7)] [3,10,11,12])))) (Nr Qw [3,10,11,12]))))
def Qv:List O:=[cS 37 3,cS 2 37]
def cQb4:C:=(cU QD [1] (cU QC [1,3] (.seq (cU QB [3,10,11,12] (.aO 0 (.loop Ro))) (cU Qv [2] .ret))))
def qQb4:fK:=⟨38,1,[.t 2],cQb4⟩
def wA:List O:=[Rk 4 false]
def wz:List O:=[cS 7 0,OY 8 7,pX 9 0]
def wy:List O:=[Rj 10 9 8]
def wx:List O:=[cS 11 9,FG 12 1 7 9,pT 13 12,cS 5 11,cS 6 13]
def wv:List O:=[cS 14 6,R5 15 14 0,cS 16 15,cL 17 16 6,cL 18 16 1,gf 19 16<|.bin .geq (.t 17) (.t 18),yV 20 16 19,cS 21 20,cL 22 21 5,gf 23 21<|.bin .gtr (.t 22) (ki 0),cL 24 21 23,sK 25 24 0,sK 26 24 5,gt 27 24<|.bin .sub (.t 26) (ki 1),gt 28 24<|.fm 1 (.t 25) (.t 27),Sq 29 24 28,sK 30 24 6,gt 31 24<|.bin .geq (.t 29) (.t 30),gf 32 21<|.pick (.t 24) (.t 31) (.k (.bool false)),yV 33 21 32]
def wu:List O:=[Rk 4 false]
def wq:List O:=[PR 34 9 1,cS 9 34]
def Ab:C:=(cU wy [0,1,7,8,9,10] (.seq (PS 10 0) (.seq (.aO 1 (cU wx [0,1,5,6,7,8,9] (cU wv [0,1,7,8,9,33] (.cond (.t 33) (cU wu [4] .ret) .skip)))) (Nr wq [0,1,7,8,9]))))
def wk:List O:=[Rk 4 true]
def cQb5:C:=(cU wA [0,1] (.seq (cU wz [0,1,7,8,9] (.aO 0 (.loop Ab))) (cU wk [4] .ret)))
def qQb5:fK:=⟨35,2,[.t 4],cQb5⟩
def CJ:List O:=[oW 3 0,pX 6 0]
def CI:List O:=[PO 9 2 3,PQ 10 Sg 9,PJ 11 10 0]
def CH:List O:=[oo 6<|.mv (.k (.int .i64 (-1)))]
def CG:List O:=[Gl 12 1 3,pT 13 12,OY 14 13,pX 15 0]
def CF:List O:=[Rj 16 15 14]
def CE:List O:=[cS 17 15,FG 18 2 13 15,PO 19 2 18,oo 8<|.new [.int .i64 0,.int .i64 0],cS 7 17,kR 2 8 19]
def CD:List O:=[PO 20 2 8,cS 21 1,cS 22 2,Al 23 nQ3 21 22,oo 24<|.eq false (.str [true,true]) (.t 20) (.t 23)]
def CC:List O:=[cS 25 7,cS 6 25]
def CB:List O:=[PR 26 15 1,cS 15 26]
def Gj:C:=(cU CF [1,2,13,14,15,16] (.seq (PS 16 0) (.seq (.aO 1 (cU CE [1,2,7,8,13,14,15] (.seq (.aN CD true [(4,4),(0,1),(0,2),(0,3)] [1,2,7,13,14,15,24]) (.cond (.t 24) (cU CC [6] .ret) .skip)))) (Nr CB [1,2,13,14,15]))))
def CA:List O:=[oo 6<|.mv (.k (.int .i64 (-1)))]
def cQb6:C:=(cU CJ [1,2,3] (.seq (cU CI [1,2,3,11] (.cond (.t 11) (cU CH [6] .ret) .skip)) (.seq (cU CG [1,2,13,14,15] (.aO 0 (.loop Gj))) (cU CA [6] .ret))))
def qQb6:fK:=⟨27,3,[.t 6],cQb6⟩
def sX:List O:=[pX 2 0]
def sW:List O:=[pX 3 0]
def sV:List O:=[cS 6 0,OY 7 6,pX 8 0]
def sU:List O:=[Rj 9 8 7]
def sT:List O:=[FG 10 1 6 8,pT 11 10,cS 5 11]
def sS:List O:=[cS 12 5,cS 13 3,oo 14<|.bin .neq (.t 12) (.t 13)]
def sR:List O:=[cS 15 5,cS 2 15]
def sQ:List O:=[PR 16 8 1,cS 8 16]
def xc:C:=(cU sU [3,6,7,8,9] (.seq (PS 9 0) (.seq (.aO 1 (cU sT [3,5,6,7,8] (cU sS [3,5,6,7,8,14] (.cond (.t 14) (cU sR [2] .ret) .skip)))) (Nr sQ [3,6,7,8]))))
def sP:List O:=[cS 17 3,cS 2 17]
def cQb7:C:=(cU sX [0] (cU sW [0,3] (.seq (cU sV [3,6,7,8] (.aO 0 (.loop xc))) (cU sP [2] .ret))))
def qQb7:fK:=⟨18,1,[.t 2],cQb7⟩
def Qu:List O:=[pX 4 0]
def Qt:List O:=[cS 7 0,PQ 8 KG 7,cS 5 8]
def Qs:List O:=[cS 9 1,PQ 10 KG 9,cS 6 10]
def Qr:List O:=[cS 11 5]
def Qq:List O:=[cS 12 6]
def Qp:List O:=[pX 4 0]
def Qo:List O:=[oo 4<|.mv (.k (.int .i64 (-1)))]
def Qn:List O:=[cS 13 6]
def Qm:List O:=[pX 4 1]
def Ql:List O:=[cS 14 0,cS 15 1,Rj 16 14 15]
def IA:List O:=[oo 4<|.mv (.k (.int .i64 (-1)))]
def Iz:List O:=[cS 17 0,cS 18 1,oo 19<|.bin .gtr (.t 17) (.t 18)]
def Iy:List O:=[pX 4 1]
def Ix:List O:=[pX 4 0]
def cQb8:C:=(cU Qu [0,1] (cU Qt [0,1,5] (cU Qs [0,1,5,6] (.seq (cU Qr [0,1,6,11] (.cond (.t 11) (.seq (cU Qq [12] (.cond (.t 12) (cU Qp [4] .ret) .skip)) (cU Qo [4] .ret)) .skip)) (.seq (cU Qn [0,1,13] (.cond (.t 13) (cU Qm [4] .ret) .skip)) (.seq (cU Ql [0,1,16] (.cond (.t 16) (cU IA [4] .ret) .skip)) (.seq (cU Iz [19] (.cond (.t 19) (cU Iy [4] .ret) .skip)) (cU Ix [4] .ret))))))))
def qQb8:fK:=⟨20,2,[.t 4],cQb8⟩
def Cz:List O:=[oW 3 0,Rk 6 false]
def Cy:List O:=[pX 7 0]
def Cx:List O:=[cS 8 7,cS 9 1,OY 10 9,Rj 11 8 10]
def Cw:List O:=[cS 14 1,cS 15 7,FG 16 1 14 15,pT 17 16,cS 18 2,oo 19<|.bin .eql (.t 17) (.t 18),cS 20 19,gf 21 20<|.ld (some 2) (.t 3),cL 22 20 1,cL 23 20 7,gf 24 20<|.fm 1 (.t 22) (.t 23),Hq 25 20 24,cL 26 20 2,gf 27 20<|.call Ic [.t 21,.t 25,.t 26],gf 28 20<|.bin .lss (.t 27) (ki 0),yV 29 20 28]
def Cv:List O:=[Rk 6 false]
def Cu:List O:=[cS 12 7,PR 13 12 1,cS 7 13]
def Gi:C:=(.seq (cU Cx [1,2,3,7,11] (PS 11 0)) (.seq (.aO 1 (.seq (.aN Cw true [(5,5),(6,6),(13,13),(14,14),(15,15),(3,4),(7,8),(7,9),(7,10),(7,11),(7,12),(11,12)] [1,2,3,7,29]) (.cond (.t 29) (cU Cv [6] .ret) .skip))) (Nr Cu [1,2,3,7])))
def Ct:List O:=[Rk 6 true]
def cQb9:C:=(cU Cz [1,2,3] (.seq (cU Cy [1,2,3,7] (.aO 0 (.loop Gi))) (cU Ct [6] .ret)))
def qQb9:fK:=⟨30,3,[.t 6],cQb9⟩
def zD:List O:=[oW 2 0,Rk 4 false]
def zC:List O:=[PO 6 2 2,cS 7 1,Al 8 nQZ 6 7,oo 9<|.un .not (.t 8),cS 10 9,cL 11 10 1,gf 12 10<|.len (.t 11),gf 13 10<|.bin .eql (.t 12) (ki 0),yV 14 10 13]
def zB:List O:=[Rk 4 false]
def zA:List O:=[pX 5 0]
def zy:List O:=[cS 15 5,Gl 16 0 2,pT 17 16,Rj 18 15 17]
def zx:List O:=[PO 21 2 2,cS 22 1,cS 23 5,oo 24<|.call KI [.t 21,.t 22,.t 23]]
def zw:List O:=[Rk 4 false]
def zv:List O:=[cS 19 5,PR 20 19 1,cS 5 20]
def K7:C:=(.seq (cU zy [1,2,5,18] (PS 18 0)) (.seq (.aO 1 (cU zx [1,2,5,24] (.cond (.t 24) (cU zw [4] .ret) .skip))) (Nr zv [1,2,5])))
def zu:List O:=[Rk 4 true]
def cQc0:C:=(cU zD [1,2] (.seq (cU zC [1,2,14] (.cond (.t 14) (cU zB [4] .ret) .skip)) (.seq (cU zA [1,2,5] (.aO 0 (.loop K7))) (cU zu [4] .ret))))
def Wx:fK:=⟨25,2,[.t 4],cQc0⟩
def jG:List O:=[Rl 6 1]
def jF:List O:=[cS 11 0,PQ 12 F6 11,cS 13 1,PQ 14 F6 13,cS 0 12,cS 1 14]
def jE:List O:=[cS 15 0,PQ 16 ME 15]
def jD:List O:=[cS 17 1,PQ 18 ME 17]
def jC:List O:=[cS 19 0,PQ 20 MD 19,cS 21 1,PQ 22 MD 21,cS 0 20,cS 1 22]
def jB:List O:=[Rl 7 1]
def jq:List O:=[cS 23 0,OY 24 23,oo 25<|.bin .gtr (.t 24) (ki 0),cS 26 25,cL 27 26 1,gf 28 26<|.len (.t 27),gf 29 26<|.bin .gtr (.t 28) (ki 0),yV 30 26 29]
def j7:List O:=[cS 31 1,OY 32 31,oo 33<|.bin .eql (.t 32) (ki 0),cS 34 33,cL 35 34 0,gf 36 34<|.len (.t 35),gf 37 34<|.bin .gtr (.t 36) (ki 0),cL 38 34 37,sK 39 38 0,gt 40 38<|.fm 1 (.t 39) (ki 0),Sq 41 38 40,sK 42 38 1,gt 43 38<|.fm 1 (.t 42) (ki 0),Sq 44 38 43,gt 45 38<|.bin .leq (.t 41) (.t 44),gf 46 34<|.pick (.t 38) (.t 45) (.k (.bool false)),yV 47 34 46,cS 8 47]
def j5:List O:=[cS 48 0,OY 49 48,oo 50<|.bin .eql (.t 49) (ki 0),cS 51 50,cL 52 51 1,gf 53 51<|.len (.t 52),gf 54 51<|.bin .gtr (.t 53) (ki 0),cL 55 51 54,sK 56 55 1,gt 57 55<|.fm 1 (.t 56) (ki 0),Sq 58 55 57,sK 59 55 0,gt 60 55<|.fm 1 (.t 59) (ki 0),Sq 61 55 60,gt 62 55<|.bin .leq (.t 58) (.t 61),gf 63 51<|.pick (.t 55) (.t 62) (.k (.bool false)),yV 64 51 63,cS 9 64]
def jZ:List O:=[pX 10 0]
def iA:List O:=[cS 65 8]
def iz:List O:=[cS 66 0,oo 67<|.fm 1 (.t 66) (ki 0),pT 68 67,cS 69 0,oo 70<|.D5 1 (.t 69) (some (ki 1)) none,cS 10 68,cS 0 70]
def iy:List O:=[cS 71 9]
def iw:List O:=[cS 72 1,oo 73<|.fm 1 (.t 72) (ki 0),pT 74 73,cS 75 1,oo 76<|.D5 1 (.t 75) (some (ki 1)) none,cS 10 74,cS 1 76]
def iv:List O:=[cS 77 2,cS 78 8,cS 79 9,oo 80<|.jM (.t 77) [.t 78,.t 79]]
def iu:List O:=[cS 81 7,cS 82 10,oo 83<|.dK 1 1 [.int .i64 0] [(0,1,.t 82)],L4 84 1 81 83,cS 7 84]
def jJ:C:=(.seq (cU jq [0,1,2,7,30] (PS 30 0)) (.aO 1 (.seq (.aN j7 true [(0,0),(1,1),(2,2),(3,3),(4,4),(5,5),(6,6),(7,7),(14,14),(15,15),(16,16),(17,17),(10,11),(10,12),(8,13),(9,13),(10,13)] [0,1,2,7,8]) (.seq (.aN j5 true [(0,0),(1,1),(2,2),(3,3),(4,4),(5,5),(6,6),(7,7),(14,14),(15,15),(16,16),(17,17),(10,11),(10,12),(8,13),(9,13),(10,13)] [0,1,2,7,8,9]) (cU jZ [0,1,2,7,8,9,10] (.seq (cU iA [0,1,2,7,8,9,10,65] (.cond (.t 65) (.aN iz true [(6,6),(2,3),(2,4)] [0,1,2,7,8,9,10]) .skip)) (.seq (cU iy [0,1,2,7,8,9,10,71] (.cond (.t 71) (.aN iw true [(6,6),(2,3),(2,4)] [0,1,2,7,8,9,10]) .skip)) (cU iv [0,1,2,7,10,80] (.cond (.t 80) (Nr iu [0,1,2,7]) .skip)))))))))
def gX:List O:=[cS 85 7,cS 6 85]
def cQc1:C:=(cU jG [0,1,2] (cU jF [0,1,2] (cU jE [0,1,2] (cU jD [0,1,2] (cU jC [0,1,2] (cU jB [0,1,2,7] (.seq (.aO 0 (.loop jJ)) (cU gX [6] .ret))))))))
def qQc1:fK:=⟨86,3,[.t 6],cQc1⟩
def ac5:List O:=[Rk 4 false]
def ac4:List O:=[Rk 4 true]
def cQc2:C:=(cU ac5 [] (cU ac4 [4] .ret))
def qQc2:fK:=⟨5,2,[.t 4],cQc2⟩
def zt:List O:=[oW 2 0,Rl 4 1]
def zr:List O:=[Gl 9 0 2,pT 10 9,PQ 11 nQQ 10,cS 5 11]
def zq:List O:=[Rk 6 true]
def zp:List O:=[cS 12 6]
def zo:List O:=[Rk 6 false]
def zn:List O:=[cS 13 5,OY 14 13,pX 15 0]
def zm:List O:=[Rj 16 15 14]
def zl:List O:=[FG 17 1 13 15,pT 18 17,cS 8 18]
def zj:List O:=[PO 19 2 2,cS 20 8,Al 21 nQR 19 20,cS 22 5,Al 23 KN 21 22,OY 24 23,cS 25 1,Rj 26 24 25]
def zi:List O:=[cS 27 5,cS 28 8,oo 29<|.dK 1 1 [.int .i64 0] [(0,1,.t 28)],Al 30 F7 27 29,cS 5 30,Rk 6 true]
def tV:List O:=[PR 31 15 1,cS 15 31]
def K6:C:=(cU zm [1,2,5,6,13,14,15,16] (.seq (PS 16 2) (.seq (.aO 3 (cU zl [1,2,5,6,8,13,14,15] (cU zj [1,2,5,6,8,13,14,15,26] (.cond (.t 26) (Nr zi [1,2,5,6,13,14,15]) .skip)))) (Nr tV [1,2,5,6,13,14,15]))))
def Gh:C:=(.seq (cU zp [1,2,5,12] (PS 12 0)) (.aO 1 (cU zo [1,2,5,6] (cU zn [1,2,5,6,13,14,15] (.aO 2 (.loop K6))))))
def tU:List O:=[cS 32 5,cS 4 32]
def cQc3:C:=(cU zt [1,2] (cU zr [1,2,5] (.seq (cU zq [1,2,5,6] (.aO 0 (.loop Gh))) (cU tU [4] .ret))))
def qQc3:fK:=⟨33,2,[.t 4],cQc3⟩
def Qk:List O:=[oW 1 0,Rl 2 1]
def Qj:List O:=[Gl 6 0 1,pT 7 6,oo 8<|.max [.t 7,ki 0],oo 9<|.min [.t 8,ki 64],oo 10<|.KR 1 [.int .u64 0] (.t 9) (.t 9),cS 3 10]
def Qi:List O:=[Gl 11 1 1,pT 12 11,OY 13 12,pX 14 0]
def Qh:List O:=[Rj 15 14 13]
def Qg:List O:=[FG 16 2 12 14,PO 17 2 16,oo 5<|.new [.int .i64 0,.int .i64 0],kR 2 5 17]
def Qf:List O:=[Gl 18 0 5,pT 19 18,oo 20<|.bin .geq (.t 19) (ki 0),cS 21 20,gt 22 21<|.fk 0 (.t 5),Sq 23 21 22,gt 24 21<|.fk 1 (.t 5),Sq 25 21 24,gt 26 21<|.bin .lss (.t 23) (.t 25),O6 27 21 26,cS 28 27,gt 29 28<|.fk 1 (.t 5),Sq 30 28 29,sK 31 28 3,gt 32 28<|.len (.t 31),gt 33 28<|.bin .lss (.t 30) (.t 32),O6 34 28 33]
def Qe:List O:=[cS 35 3,Gl 36 0 5,pT 37 36,FG 38 1 35 37,pT 39 38,Gl 40 1 5,pT 41 40,oo 42<|.bin .shl (.k (.int .u64 1)) (.t 41),oo 43<|.bin .or (.t 39) (.t 42),FG 44 1 35 37,kR 1 44 43]
def Qd:List O:=[cS 45 3,Gl 46 1 5,pT 47 46,FG 48 1 45 47,pT 49 48,Gl 50 0 5,pT 51 50,oo 52<|.bin .shl (.k (.int .u64 1)) (.t 51),oo 53<|.bin .or (.t 49) (.t 52),FG 54 1 45 47,kR 1 54 53]
def Qc:List O:=[PR 55 14 1,cS 14 55]
def Rn:C:=(cU Qh [3,12,13,14,15] (.seq (PS 15 0) (.seq (.aO 1 (cU Qg [3,5,12,13,14] (cU Qf [3,5,12,13,14,34] (.cond (.t 34) (.seq (.aN Qe true [(8,8),(9,9),(10,10),(0,2),(2,5),(4,5),(0,6),(1,6),(2,6),(3,6),(4,6),(2,7),(4,7)] [3,5,12,13,14]) (.aN Qd true [(8,8),(9,9),(10,10),(0,2),(2,5),(4,5),(0,6),(1,6),(2,6),(3,6),(4,6),(2,7),(4,7)] [3,12,13,14])) .skip)))) (Nr Qc [3,12,13,14]))))
def Qb:List O:=[cS 56 3,cS 2 56]
def cQc4:C:=(cU Qk [1] (cU Qj [1,3] (.seq (cU Qi [3,12,13,14] (.aO 0 (.loop Rn))) (cU Qb [2] .ret))))
def qQc4:fK:=⟨57,1,[.t 2],cQc4⟩
def ac3:List O:=[pX 2 0]
def ac2:List O:=[cS 3 0,PQ 4 nQ6 3,cS 2 4]
def cQc5:C:=(cU ac3 [0] (cU ac2 [2] .ret))
def qQc5:fK:=⟨5,1,[.t 2],cQc5⟩
def akq:List O:=[oo 2<|.mv (.k (.int .u64 0))]
def akp:List O:=[cS 3 0,R5 4 3 0,cS 5 4,cL 6 5 0,gf 7 5<|.bin .geq (.t 6) (ki 64),yV 8 5 7]
def ako:List O:=[oo 2<|.mv (.k (.int .u64 0))]
def akn:List O:=[cS 9 0,oo 10<|.bin .shl (.k (.int .u64 1)) (.t 9),cS 2 10]
def cQc6:C:=(cU akq [0] (.seq (cU akp [0,8] (.cond (.t 8) (cU ako [2] .ret) .skip)) (cU akn [2] .ret)))
def qQc6:fK:=⟨11,1,[.t 2],cQc6⟩
def akm:List O:=[oo 2<|.mv (.k (.int .u64 0))]
def akl:List O:=[cS 4 0,oo 5<|.bin .leq (.t 4) (ki 0),cS 3 5]
def akk:List O:=[oo 2<|.mv (.k (.int .u64 0))]
def akj:List O:=[cS 7 0,oo 8<|.bin .geq (.t 7) (ki 64),cS 6 8]
def aki:List O:=[oo 2<|.mv (.k (.int .u64 18446744073709551615))]
def akh:List O:=[cS 9 0,oo 10<|.bin .shl (.k (.int .u64 1)) (.t 9),oo 11<|.bin .sub (.t 10) (.k (.int .u64 1)),cS 2 11]
def cQc7:C:=(cU akm [0] (.seq (.aO 0 (cU akl [0,3] (.cond (.t 3) (cU akk [2] .ret) (cU akj [0,6] (.cond (.t 6) (cU aki [2] .ret) .skip))))) (cU akh [2] .ret)))
def qQc7:fK:=⟨12,1,[.t 2],cQc7⟩
def ac1:List O:=[pX 2 0]
def ac0:List O:=[cS 3 0,PQ 4 Z4 3,cS 2 4]
def cQc8:C:=(cU ac1 [0] (cU ac0 [2] .ret))
def qQc8:fK:=⟨5,1,[.t 2],cQc8⟩
def akg:List O:=[oo 4<|.mv (.k (.int .u32 0)),oo 5<|.mv (.k (.int .u32 0))]
def akf:List O:=[cS 7 0,oo 8<|.HX .u64 (.t 7),cS 9 1,oo 10<|.HX .u64 (.t 9),oo 11<|.bin .mul (.t 8) (.t 10),cS 6 11]
def ake:List O:=[cS 12 6,oo 13<|.bin .shr (.t 12) (.k (.int .u64 32)),oo 14<|.HX .u32 (.t 13),cS 15 6,oo 16<|.HX .u32 (.t 15),cS 4 14,cS 5 16]
def cQc9:C:=(cU akg [0,1] (cU akf [6] (cU ake [4,5] .ret)))
def qQc9:fK:=⟨17,2,[.t 4,.t 5],cQc9⟩
def akd:List O:=[oo 4<|.mv (.k (.int .u64 0)),oo 5<|.mv (.k (.int .u64 0))]
def akc:List O:=[cS 14 0,oo 15<|.bin .and (.t 14) (.k (.int .u64 4294967295)),cS 6 15]
def akb:List O:=[cS 16 0,oo 17<|.bin .shr (.t 16) (.k (.int .u64 32)),cS 7 17]
def aka:List O:=[cS 18 1,oo 19<|.bin .and (.t 18) (.k (.int .u64 4294967295)),cS 8 19]
def aj9:List O:=[cS 20 1,oo 21<|.bin .shr (.t 20) (.k (.int .u64 32)),cS 9 21]
def aj8:List O:=[cS 22 6,cS 23 8,oo 24<|.bin .mul (.t 22) (.t 23),cS 10 24]
def aj7:List O:=[cS 25 7,cS 26 8,oo 27<|.bin .mul (.t 25) (.t 26),cS 28 10,oo 29<|.bin .shr (.t 28) (.k (.int .u64 32)),oo 30<|.bin .add (.t 27) (.t 29),cS 11 30]
def aj6:List O:=[cS 31 11,oo 32<|.bin .and (.t 31) (.k (.int .u64 4294967295)),cS 12 32]
def aj5:List O:=[cS 33 11,oo 34<|.bin .shr (.t 33) (.k (.int .u64 32)),cS 13 34]
def aj4:List O:=[cS 35 12,cS 36 6,cS 37 9,oo 38<|.bin .mul (.t 36) (.t 37),oo 39<|.bin .add (.t 35) (.t 38),cS 12 39]
def agx:List O:=[cS 40 7,cS 41 9,oo 42<|.bin .mul (.t 40) (.t 41),cS 43 13,oo 44<|.bin .add (.t 42) (.t 43),cS 45 12,oo 46<|.bin .shr (.t 45) (.k (.int .u64 32)),oo 47<|.bin .add (.t 44) (.t 46),cS 4 47]
def agw:List O:=[cS 48 0,cS 49 1,oo 50<|.bin .mul (.t 48) (.t 49),cS 5 50]
def cQd0:C:=(cU akd [0,1] (cU akc [0,1,6] (cU akb [0,1,6,7] (cU aka [0,1,6,7,8] (cU aj9 [0,1,6,7,8,9] (cU aj8 [0,1,6,7,8,9,10] (cU aj7 [0,1,6,7,9,11] (cU aj6 [0,1,6,7,9,11,12] (cU aj5 [0,1,6,7,9,12,13] (cU aj4 [0,1,7,9,12,13] (cU agx [0,1,4] (cU agw [4,5] .ret))))))))))))
def qQd0:fK:=⟨51,2,[.t 4,.t 5],cQd0⟩
def acZ:List O:=[Rk 2 false]
def acY:List O:=[cS 3 0,cS 4 0,oo 5<|.bin .neq (.t 3) (.t 4),cS 2 5]
def cQd1:C:=(cU acZ [0] (cU acY [2] .ret))
def qQd1:fK:=⟨6,1,[.t 2],cQd1⟩
def acX:List O:=[Rl 2 1]
def acW:List O:=[cS 3 0,oo 4<|.eq false .WN (.t 3) (.k (.own 1 []))]
def acV:List O:=[Rl 2 1]
def acU:List O:=[oo 5<|.dK 1 0 [.int .i64 0] [],cS 6 0,L4 7 1 5 6,cS 2 7]
def cQd2:C:=(cU acX [0] (.seq (cU acW [0,4] (.cond (.t 4) (cU acV [2] .ret) .skip)) (cU acU [2] .ret)))
def qQd2:fK:=⟨8,1,[.t 2],cQd2⟩
def aj3:List O:=[cS 3 0,OY 4 3,cS 2 4]
def aj2:List O:=[cS 5 0,cS 6 2,cS 7 2,oo 8<|.HX .u64 (.t 7),PQ 9 101 8,oo 10<|.call 100 [.t 5,ki 0,.t 6,.t 9]]
def cQd3:C:=(cU aj3 [0,2] (Nr aj2 []))
def qQd3:fK:=⟨11,1,[],cQd3⟩
def aj1:List O:=[Rl 2 1]
def aj0:List O:=[cS 6 0,OY 7 6,R5 8 7 2]
def ajZ:List O:=[cS 9 0,cS 2 9]
def ajY:List O:=[pX 3 1]
def ajX:List O:=[cS 10 3,cS 11 0,OY 12 11,Rj 13 10 12]
def ajW:List O:=[cS 16 0,cS 17 3,FG 18 1 16 17,pT 19 18,cS 20 0,cS 21 3,oo 22<|.bin .sub (.t 21) (ki 1),FG 23 1 20 22,pT 24 23,oo 25<|.bin .eql (.t 19) (.t 24)]
def ajV:List O:=[cS 26 0,cS 27 3,oo 28<|.D5 1 (.t 26) (some (.t 27)) none,cS 4 28]
def ajU:List O:=[pX 5 1]
def ajT:List O:=[cS 29 5,cS 30 4,OY 31 30,Rj 32 29 31]
def ajS:List O:=[cS 35 4,cS 36 5,FG 37 1 35 36,pT 38 37,cS 39 4,cS 40 5,oo 41<|.bin .sub (.t 40) (ki 1),FG 42 1 39 41,pT 43 42,oo 44<|.bin .neq (.t 38) (.t 43)]
def agv:List O:=[cS 45 0,cS 46 3,cS 47 4,cS 48 5,FG 49 1 47 48,pT 50 49,FG 51 1 45 46,kR 1 51 50]
def agu:List O:=[cS 52 3,PR 53 52 1,cS 3 53]
def agt:List O:=[cS 33 5,PR 34 33 1,cS 5 34]
def alC:C:=(.seq (cU ajT [0,3,4,5,32] (PS 32 2)) (.seq (.aO 3 (.seq (.aN ajS true [(9,9),(3,4),(3,5),(3,6),(3,7),(0,8),(1,8),(2,8),(3,8)] [0,3,4,5,44]) (.cond (.t 44) (cU agv [0,3,4,5] (Nr agu [0,3,4,5])) .skip))) (Nr agt [0,3,4,5])))
def ags:List O:=[cS 54 0,cS 55 3,oo 56<|.D5 1 (.t 54) (some (.t 55)) none,oz<|.Vv 1 [.int .i64 0] (.t 56)]
def agr:List O:=[cS 57 0,cS 58 3,oo 59<|.D5 1 (.t 57) none (some (.t 58)),cS 2 59]
def agq:List O:=[cS 14 3,PR 15 14 1,cS 3 15]
def alB:C:=(.seq (cU ajX [0,3,13] (PS 13 0)) (.seq (.aO 1 (.seq (.aN ajW true [(9,9),(3,4),(3,5),(3,6),(3,7),(0,8),(1,8),(2,8),(3,8)] [0,3,25]) (.cond (.t 25) (cU ajV [0,3,4] (.seq (cU ajU [0,3,4,5] (.aO 2 (.loop alC))) (cU ags [0,3] (cU agr [2] .ret)))) .skip))) (Nr agq [0,3])))
def agp:List O:=[cS 60 0,cS 2 60]
def cQd4:C:=(cU aj1 [0] (.seq (cU aj0 [0,8] (.cond (.t 8) (cU ajZ [2] .ret) .skip)) (.seq (cU ajY [0,3] (.aO 0 (.loop alB))) (cU agp [2] .ret))))
def qQd4:fK:=⟨61,1,[.t 2],cQd4⟩
abbrev Md:=Go.Bm.Md
abbrev fe:=Go.Bm.fe
def look:List (Nat × Md × fK)->Nat->Option (Md × fK)
 |[],_=>none
 |(j,m,q)::r,i=>if i=j then some (m,q) else look r i
def fns:List (Nat × Md × fK):=[
 (nQa,⟨false,false,true⟩,qQa),
 (nQb,⟨false,false,true⟩,qQb),
 (nQc,⟨false,false,true⟩,qQc),
 (nQd,⟨false,false,true⟩,qQd),
 (nQe,⟨true,false,false⟩,qQe),
 (nQf,⟨true,false,false⟩,qQf),
 (nQg,⟨true,false,false⟩,Zq),
 (WU,⟨false,false,false⟩,qQh),
 (nQi,⟨false,false,false⟩,qQi),
 (TU,⟨false,false,true⟩,qQj),
 (nQk,⟨false,false,true⟩,qQk),
 (Sd,⟨false,false,false⟩,qQl),
 (nQm,⟨false,false,false⟩,qQm),
 (TR,⟨false,false,true⟩,qQn),
 (nQo,⟨true,false,false⟩,qQo),
 (nQp,⟨true,false,false⟩,qQp),
 (Z2,⟨false,false,false⟩,qQq),
 (Z0,⟨false,false,false⟩,qQr),
 (TQ,⟨false,false,true⟩,qQs),
 (nQt,⟨false,false,true⟩,qQt),
 (KF,⟨true,false,false⟩,qQu),
 (nQv,⟨false,false,true⟩,qQv),
 (nQw,⟨false,false,true⟩,qQw),
 (nQx,⟨false,false,false⟩,qQx),
 (TP,⟨false,false,true⟩,qQy),
 (nQz,⟨false,false,false⟩,qQz),
 (nQA,⟨false,false,true⟩,qQA),
 (Z4,⟨false,false,true⟩,qQB),
 (Sg,⟨false,false,true⟩,qQC),
 (nQD,⟨false,false,false⟩,qQD),
 (nQE,⟨false,false,true⟩,qQE),
 (nQF,⟨false,false,false⟩,qQF),
 (nQG,⟨false,false,true⟩,qQG),
 (Z3,⟨false,false,false⟩,qQH),
 (nQI,⟨true,true,false⟩,qQI),
 (nQJ,⟨false,false,true⟩,qQJ),
 (nQK,⟨false,false,false⟩,qQK),
 (nQL,⟨false,false,true⟩,qQL),
 (nQM,⟨false,false,false⟩,qQM),
 (nQN,⟨false,true,true⟩,qQN),
 (nQO,⟨false,false,false⟩,qQO),
 (nQP,⟨false,false,true⟩,qQP),
 (nQQ,⟨false,false,false⟩,qQQ),
 (nQR,⟨false,false,false⟩,qQR),
 (nQS,⟨false,false,true⟩,qQS),
 (nQT,⟨true,false,false⟩,qQT),
 (Sf,⟨true,false,false⟩,qQU),
 (nQV,⟨true,false,false⟩,qQV),
 (Se,⟨true,false,false⟩,qQW),
 (nQX,⟨false,false,true⟩,qQX),
 (nQY,⟨false,false,true⟩,qQY),
 (nQZ,⟨false,false,true⟩,qQZ),
 (nQ0,⟨false,false,true⟩,qQ0),
 (nQ1,⟨false,false,true⟩,qQ1),
 (nQ2,⟨false,false,false⟩,qQ2),
 (nQ3,⟨false,false,false⟩,qQ3),
 (nQ4,⟨false,false,true⟩,qQ4),
 (nQ5,⟨true,false,false⟩,qQ5),
 (nQ6,⟨false,false,true⟩,qQ6),
 (nQ7,⟨false,false,true⟩,qQ7),
 (nQ8,⟨false,false,true⟩,qQ8),
 (ij,⟨false,true,true⟩,qQ9),
 (MU,⟨true,true,false⟩,qQa0),
 (MT,⟨false,false,false⟩,qQa1),
 (MS,⟨false,false,false⟩,qQa2),
 (MR,⟨false,false,false⟩,qQa3),
 (KO,⟨true,true,false⟩,qQa4),
 (KN,⟨false,false,false⟩,qQa5),
 (F7,⟨false,false,false⟩,qQa6),
 (nQa7,⟨false,false,true⟩,qQa7),
 (KM,⟨false,false,false⟩,qQa8),
 (MQ,⟨false,false,true⟩,qQa9),
 (KL,⟨true,false,false⟩,qQb0),
 (KK,⟨true,false,false⟩,qQb1),
 (MP,⟨false,false,true⟩,qQb2),
 (MO,⟨false,false,true⟩,qQb3),
 (MN,⟨false,false,false⟩,qQb4),
 (MM,⟨false,false,true⟩,qQb5),
 (Ic,⟨false,false,true⟩,qQb6),
 (ML,⟨false,false,true⟩,qQb7),
 (KJ,⟨false,false,true⟩,qQb8),
 (KI,⟨false,false,true⟩,qQb9),
 (MK,⟨false,false,true⟩,Wx),
 (MJ,⟨false,false,false⟩,qQc1),
 (nQc2,⟨false,false,true⟩,qQc2),
 (MI,⟨false,false,false⟩,qQc3),
 (KH,⟨false,false,false⟩,qQc4),
 (MH,⟨false,false,true⟩,qQc5),
 (ES,⟨false,false,true⟩,qQc6),
 (MG,⟨false,false,true⟩,qQc7),
 (MF,⟨false,false,true⟩,qQc8),
 (nQc9,⟨false,false,true⟩,qQc9),
 (nQd0,⟨false,false,true⟩,qQd0),
 (KG,⟨false,false,true⟩,qQd1),
 (F6,⟨false,true,true⟩,qQd2),
 (ME,⟨false,false,true⟩,qQd3),
 (MD,⟨false,false,false⟩,qQd4)]
def nQd5:Nat:=0
def Sz:List Int:=[0,1,56,2,57,49,28,3,61,58,42,50,38,29,17,4,62,47,59,36,45,43,51,22,53,39,33,30,24,18,12,5,63,55,48,27,60,41,37,16,46,35,44,21,52,32,23,11,54,26,40,15,34,20,31,10,25,14,19,9,13,8,7,6]
def tabA:List AV:=Sz.map (AV.int .u8)
def cfg:fe:=⟨look fns,fun i=>if i=nQd5 then tabA else[],fun _=>none,fun _=>none,fun _=>none,fun _=>false,fun _=>false,fun _=>none⟩
theorem kQa:cj aj Go.Proofs.Tryz.f3 qQa=true:=by kernel_rfl
theorem kQb:cj aj Go.Proofs.Tryz.f4 qQb=true:=by kernel_rfl
theorem kQc:cj aj Go.Proofs.Tryz.f5 qQc=true:=by kernel_rfl
theorem kQd:cj aj Go.Proofs.Tryz.f6 qQd=true:=by kernel_rfl
theorem kQe:cj aj Go.Proofs.Tryz.f7 qQe=true:=by kernel_rfl
theorem kQf:cj aj Go.Proofs.Tryz.f8 qQf=true:=by kernel_rfl
theorem kQg:cj aj Go.Proofs.Tryz.f9 Zq=true:=by kernel_rfl
theorem kQh:cj aj Go.Proofs.Tryz.f10 qQh=true:=by kernel_rfl
theorem kQi:cj aj Go.Proofs.Tryz.f11 qQi=true:=by kernel_rfl
theorem kQj:cj aj Go.Proofs.Tryz.f12 qQj=true:=by kernel_rfl
theorem kQk:cj aj Go.Proofs.Tryz.f13 qQk=true:=by kernel_rfl
theorem kQl:cj aj Go.Proofs.Tryz.f14 qQl=true:=by kernel_rfl
theorem kQm:cj aj Go.Proofs.Tryz.f15 qQm=true:=by kernel_rfl
theorem kQn:cj aj Go.Proofs.Tryz.f16 qQn=true:=by kernel_rfl
theorem kQo:cj aj Go.Proofs.Tryz.f17 qQo=true:=by kernel_rfl
theorem kQp:cj aj Go.Proofs.Tryz.f18 qQp=true:=by kernel_rfl
theorem kQq:cj aj Go.Proofs.Tryz.f19 qQq=true:=by kernel_rfl
theorem kQr:cj aj Go.Proofs.Tryz.f20 qQr=true:=by kernel_rfl
theorem kQs:cj aj Go.Proofs.Tryz.f21 qQs=true:=by kernel_rfl
theorem kQt:cj aj Go.Proofs.Tryz.f22 qQt=true:=by kernel_rfl
theorem kQu:cj aj Go.Proofs.Tryz.f23 qQu=true:=by kernel_rfl
theorem kQv:cj aj Go.Proofs.Tryz.f24 qQv=true:=by kernel_rfl
theorem kQw:cj aj Go.Proofs.Tryz.f25 qQw=true:=by kernel_rfl
theorem kQx:cj aj Go.Proofs.Tryz.f26 qQx=true:=by kernel_rfl
theorem kQy:cj aj Go.Proofs.Tryz.f27 qQy=true:=by kernel_rfl
theorem kQz:cj aj Go.Proofs.Tryz.f28 qQz=true:=by kernel_rfl
theorem kQA:cj aj Go.Proofs.Tryz.f29 qQA=true:=by kernel_rfl
theorem kQB:cj aj Go.Proofs.Tryz.f30 qQB=true:=by kernel_rfl
theorem kQC:cj aj Go.Proofs.Tryz.f31 qQC=true:=by kernel_rfl
theorem kQD:cj aj Go.Proofs.Tryz.f32 qQD=true:=by kernel_rfl
theorem kQE:cj aj Go.Proofs.Tryz.f33 qQE=true:=by kernel_rfl
theorem kQF:cj aj Go.Proofs.Tryz.f34 qQF=true:=by kernel_rfl
theorem kQG:cj aj Go.Proofs.Tryz.f35 qQG=true:=by kernel_rfl
theorem kQH:cj aj Go.Proofs.Tryz.f36 qQH=true:=by kernel_rfl
theorem kQI:cj aj Go.Proofs.Tryz.f37 qQI=true:=by kernel_rfl
theorem kQJ:cj aj Go.Proofs.Tryz.f38 qQJ=true:=by kernel_rfl
theorem kQK:cj aj Go.Proofs.Tryz.f39 qQK=true:=by kernel_rfl
theorem kQL:cj aj Go.Proofs.Tryz.f40 qQL=true:=by kernel_rfl
theorem kQM:cj aj Go.Proofs.Tryz.f41 qQM=true:=by kernel_rfl
theorem kQN:cj aj Go.Proofs.Tryz.f42 qQN=true:=by kernel_rfl
theorem kQO:cj aj Go.Proofs.Tryz.f43 qQO=true:=by kernel_rfl
theorem kQP:cj aj Go.Proofs.Tryz.f44 qQP=true:=by kernel_rfl
theorem kQQ:cj aj Go.Proofs.Tryz.f45 qQQ=true:=by kernel_rfl
theorem kQR:cj aj Go.Proofs.Tryz.f46 qQR=true:=by kernel_rfl
theorem kQS:cj aj Go.Proofs.Tryz.f47 qQS=true:=by kernel_rfl
theorem kQT:cj aj Go.Proofs.Tryz.f48 qQT=true:=by kernel_rfl
theorem kQU:cj aj Go.Proofs.Tryz.f49 qQU=true:=by kernel_rfl
theorem kQV:cj aj Go.Proofs.Tryz.f50 qQV=true:=by kernel_rfl
theorem kQW:cj aj Go.Proofs.Tryz.f51 qQW=true:=by kernel_rfl
theorem kQX:cj aj Go.Proofs.Tryz.f52 qQX=true:=by kernel_rfl
theorem kQY:cj aj Go.Proofs.Tryz.f53 qQY=true:=by kernel_rfl
theorem kQZ:cj aj Go.Proofs.Tryz.f54 qQZ=true:=by kernel_rfl
theorem kQ0:cj aj Go.Proofs.Tryz.f55 qQ0=true:=by kernel_rfl
theorem kQ1:cj aj Go.Proofs.Tryz.f56 qQ1=true:=by kernel_rfl
theorem kQ2:cj aj Go.Proofs.Tryz.f57 qQ2=true:=by kernel_rfl
theorem kQ3:cj aj Go.Proofs.Tryz.f58 qQ3=true:=by kernel_rfl
theorem kQ4:cj aj Go.Proofs.Tryz.f59 qQ4=true:=by kernel_rfl
theorem kQ5:cj aj Go.Proofs.Tryz.f60 qQ5=true:=by kernel_rfl
theorem kQ6:cj aj Go.Proofs.Tryz.f61 qQ6=true:=by kernel_rfl
theorem kQ7:cj aj Go.Proofs.Tryz.f62 qQ7=true:=by kernel_rfl
theorem kQ8:cj aj Go.Proofs.Tryz.f63 qQ8=true:=by kernel_rfl
theorem kQ9:cj aj Go.Proofs.Tryz.f64 qQ9=true:=by kernel_rfl
theorem kQa0:cj aj Go.Proofs.Tryz.f65 qQa0=true:=by kernel_rfl
theorem kQa1:cj aj Go.Proofs.Tryz.f66 qQa1=true:=by kernel_rfl
theorem kQa2:cj aj Go.Proofs.Tryz.f67 qQa2=true:=by kernel_rfl
theorem kQa3:cj aj Go.Proofs.Tryz.f68 qQa3=true:=by kernel_rfl
theorem kQa4:cj aj Go.Proofs.Tryz.f69 qQa4=true:=by kernel_rfl
theorem kQa5:cj aj Go.Proofs.Tryz.f70 qQa5=true:=by kernel_rfl
theorem kQa6:cj aj Go.Proofs.Tryz.f71 qQa6=true:=by kernel_rfl
theorem kQa7:cj aj Go.Proofs.Tryz.f72 qQa7=true:=by kernel_rfl
theorem kQa8:cj aj Go.Proofs.Tryz.f73 qQa8=true:=by kernel_rfl
theorem kQa9:cj aj Go.Proofs.Tryz.f74 qQa9=true:=by kernel_rfl
theorem kQb0:cj aj Go.Proofs.Tryz.f75 qQb0=true:=by kernel_rfl
theorem kQb1:cj aj Go.Proofs.Tryz.f76 qQb1=true:=by kernel_rfl
theorem kQb2:cj aj Go.Proofs.Tryz.f77 qQb2=true:=by kernel_rfl
theorem kQb3:cj aj Go.Proofs.Tryz.f78 qQb3=true:=by kernel_rfl
theorem kQb4:cj aj Go.Proofs.Tryz.f79 qQb4=true:=by kernel_rfl
theorem kQb5:cj aj Go.Proofs.Tryz.f80 qQb5=true:=by kernel_rfl
theorem kQb6:cj aj Go.Proofs.Tryz.f81 qQb6=true:=by kernel_rfl
theorem kQb7:cj aj Go.Proofs.Tryz.f82 qQb7=true:=by kernel_rfl
theorem kQb8:cj aj Go.Proofs.Tryz.f83 qQb8=true:=by kernel_rfl
theorem kQb9:cj aj Go.Proofs.Tryz.f84 qQb9=true:=by kernel_rfl
theorem kQc0:cj aj Go.Proofs.Tryz.f85 Wx=true:=by kernel_rfl
theorem kQc1:cj aj Go.Proofs.Tryz.f86 qQc1=true:=by kernel_rfl
theorem kQc2:cj aj Go.Proofs.Tryz.f87 qQc2=true:=by kernel_rfl
theorem kQc3:cj aj Go.Proofs.Tryz.f88 qQc3=true:=by kernel_rfl
theorem kQc4:cj aj Go.Proofs.Tryz.f89 qQc4=true:=by kernel_rfl
theorem kQc5:cj aj Go.Proofs.Tryz.f90 qQc5=true:=by kernel_rfl
theorem kQc6:cj aj Go.Proofs.Tryz.f91 qQc6=true:=by kernel_rfl
theorem kQc7:cj aj Go.Proofs.Tryz.f92 qQc7=true:=by kernel_rfl
theorem kQc8:cj aj Go.Proofs.Tryz.f93 qQc8=true:=by kernel_rfl
theorem kQc9:cj aj Go.Proofs.Tryz.f94 qQc9=true:=by kernel_rfl
theorem kQd0:cj aj Go.Proofs.Tryz.f95 qQd0=true:=by kernel_rfl
theorem kQd1:cj aj Go.Proofs.Tryz.f96 qQd1=true:=by kernel_rfl
theorem kQd2:cj aj Go.Proofs.Tryz.f97 qQd2=true:=by kernel_rfl
theorem kQd3:cj aj Go.Proofs.Tryz.f98 qQd3=true:=by kernel_rfl
theorem kQd4:cj aj Go.Proofs.Tryz.f99 qQd4=true:=by kernel_rfl
theorem T9:∀{l:List (Nat × Md × fK)} {f:Nat} {m:Md} {q:fK},look l f=some (m,q)->(f,m,q)∈l
 |[],f,m,q,h=>by simp[look] at h
 |(j,m',q')::r,f,m,q,h=>by
   unfold look at h;split at h
   ·rename_i he; subst he; simp at h; obtain⟨rfl,rfl⟩:=h; simp
   ·exact List.mem_cons_of_mem _ (T9 h)
def Good (p:Nat × Md × fK):Prop:=∃fn,aj.funcs[p.1]?=some fn/\cj aj fn p.2.2=true
def All (G:Nat × Md × fK->Prop):List (Nat × Md × fK)->Prop
 |[]=>True
 |p::r=>G p/\All G r
theorem All.get {G:Nat × Md × fK->Prop}:∀{l:List (Nat × Md × fK)},All G l->∀p∈l,G p
 |[],_,p,h=>by simp at h
 |q::r,h,p,hp=>by
   rcases List.mem_cons.1 hp with e|e
   ·subst e; exact h.1
   ·exact All.get h.2 p e
theorem aij:All Good fns:=⟨⟨_,Go.Proofs.Tryz.func3,kQa⟩,⟨_,Go.Proofs.Tryz.func4,kQb⟩,⟨_,Go.Proofs.Tryz.func5,kQc⟩,⟨_,Go.Proofs.Tryz.func6,kQd⟩,⟨_,Go.Proofs.Tryz.func7,kQe⟩,⟨_,Go.Proofs.Tryz.func8,kQf⟩,⟨_,Go.Proofs.Tryz.func9,kQg⟩,⟨_,Go.Proofs.Tryz.func10,kQh⟩,⟨_,Go.Proofs.Tryz.func11,kQi⟩,⟨_,Go.Proofs.Tryz.func12,kQj⟩,⟨_,Go.Proofs.Tryz.func13,kQk⟩,⟨_,Go.Proofs.Tryz.func14,kQl⟩,⟨_,Go.Proofs.Tryz.func15,kQm⟩,⟨_,Go.Proofs.Tryz.func16,kQn⟩,⟨_,Go.Proofs.Tryz.func17,kQo⟩,⟨_,Go.Proofs.Tryz.func18,kQp⟩,⟨_,Go.Proofs.Tryz.func19,kQq⟩,⟨_,Go.Proofs.Tryz.func20,kQr⟩,⟨_,Go.Proofs.Tryz.func21,kQs⟩,⟨_,Go.Proofs.Tryz.func22,kQt⟩,⟨_,Go.Proofs.Tryz.func23,kQu⟩,⟨_,Go.Proofs.Tryz.func24,kQv⟩,⟨_,Go.Proofs.Tryz.func25,kQw⟩,⟨_,Go.Proofs.Tryz.func26,kQx⟩,⟨_,Go.Proofs.Tryz.func27,kQy⟩,⟨_,Go.Proofs.Tryz.func28,kQz⟩,⟨_,Go.Proofs.Tryz.func29,kQA⟩,⟨_,Go.Proofs.Tryz.func30,kQB⟩,⟨_,Go.Proofs.Tryz.func31,kQC⟩,⟨_,Go.Proofs.Tryz.func32,kQD⟩,⟨_,Go.Proofs.Tryz.func33,kQE⟩,⟨_,Go.Proofs.Tryz.func34,kQF⟩,⟨_,Go.Proofs.Tryz.func35,kQG⟩,⟨_,Go.Proofs.Tryz.func36,kQH⟩,⟨_,Go.Proofs.Tryz.func37,kQI⟩,⟨_,Go.Proofs.Tryz.func38,kQJ⟩,⟨_,Go.Proofs.Tryz.func39,kQK⟩,⟨_,Go.Proofs.Tryz.func40,kQL⟩,⟨_,Go.Proofs.Tryz.func41,kQM⟩,⟨_,Go.Proofs.Tryz.func42,kQN⟩,⟨_,Go.Proofs.Tryz.func43,kQO⟩,⟨_,Go.Proofs.Tryz.func44,kQP⟩,⟨_,Go.Proofs.Tryz.func45,kQQ⟩,⟨_,Go.Proofs.Tryz.func46,kQR⟩,⟨_,Go.Proofs.Tryz.func47,kQS⟩,⟨_,Go.Proofs.Tryz.func48,kQT⟩,⟨_,Go.Proofs.Tryz.func49,kQU⟩,⟨_,Go.Proofs.Tryz.func50,kQV⟩,⟨_,Go.Proofs.Tryz.func51,kQW⟩,⟨_,Go.Proofs.Tryz.func52,kQX⟩,⟨_,Go.Proofs.Tryz.func53,kQY⟩,⟨_,Go.Proofs.Tryz.func54,kQZ⟩,⟨_,Go.Proofs.Tryz.func55,kQ0⟩,⟨_,Go.Proofs.Tryz.func56,kQ1⟩,⟨_,Go.Proofs.Tryz.func57,kQ2⟩,⟨_,Go.Proofs.Tryz.func58,kQ3⟩,⟨_,Go.Proofs.Tryz.func59,kQ4⟩,⟨_,Go.Proofs.Tryz.func60,kQ5⟩,⟨_,Go.Proofs.Tryz.func61,kQ6⟩,⟨_,Go.Proofs.Tryz.func62,kQ7⟩,⟨_,Go.Proofs.Tryz.func63,kQ8⟩,⟨_,Go.Proofs.Tryz.func64,kQ9⟩,⟨_,Go.Proofs.Tryz.func65,kQa0⟩,⟨_,Go.Proofs.Tryz.func66,kQa1⟩,⟨_,Go.Proofs.Tryz.func67,kQa2⟩,⟨_,Go.Proofs.Tryz.func68,kQa3⟩,⟨_,Go.Proofs.Tryz.func69,kQa4⟩,⟨_,Go.Proofs.Tryz.func70,kQa5⟩,⟨_,Go.Proofs.Tryz.func71,kQa6⟩,⟨_,Go.Proofs.Tryz.func72,kQa7⟩,⟨_,Go.Proofs.Tryz.func73,kQa8⟩,⟨_,Go.Proofs.Tryz.func74,kQa9⟩,⟨_,Go.Proofs.Tryz.func75,kQb0⟩,⟨_,Go.Proofs.Tryz.func76,kQb1⟩,⟨_,Go.Proofs.Tryz.func77,kQb2⟩,⟨_,Go.Proofs.Tryz.func78,kQb3⟩,⟨_,Go.Proofs.Tryz.func79,kQb4⟩,⟨_,Go.Proofs.Tryz.func80,kQb5⟩,⟨_,Go.Proofs.Tryz.func81,kQb6⟩,⟨_,Go.Proofs.Tryz.func82,kQb7⟩,⟨_,Go.Proofs.Tryz.func83,kQb8⟩,⟨_,Go.Proofs.Tryz.func84,kQb9⟩,⟨_,Go.Proofs.Tryz.func85,kQc0⟩,⟨_,Go.Proofs.Tryz.func86,kQc1⟩,⟨_,Go.Proofs.Tryz.func87,kQc2⟩,⟨_,Go.Proofs.Tryz.func88,kQc3⟩,⟨_,Go.Proofs.Tryz.func89,kQc4⟩,⟨_,Go.Proofs.Tryz.func90,kQc5⟩,⟨_,Go.Proofs.Tryz.func91,kQc6⟩,⟨_,Go.Proofs.Tryz.func92,kQc7⟩,⟨_,Go.Proofs.Tryz.func93,kQc8⟩,⟨_,Go.Proofs.Tryz.func94,kQc9⟩,⟨_,Go.Proofs.Tryz.func95,kQd0⟩,⟨_,Go.Proofs.Tryz.func96,kQd1⟩,⟨_,Go.Proofs.Tryz.func97,kQd2⟩,⟨_,Go.Proofs.Tryz.func98,kQd3⟩,⟨_,Go.Proofs.Tryz.func99,kQd4⟩,trivial⟩
theorem ajr:gF aj cfg:=⟨by kernel_rfl,fun f m q h=>aij.get _ (T9 h)⟩
end Go.BmP
