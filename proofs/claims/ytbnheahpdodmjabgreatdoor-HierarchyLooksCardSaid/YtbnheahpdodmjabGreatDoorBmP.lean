/- The compact code of the functions, printed by program off the translation. -/
import Derived.Test.YtbnheahpdodmjabGreatDoorChecked
import Derived.Test.YtbnheahpdodmjabGreatDoorBmA
import Derived.KernelRfl
set_option maxRecDepth 100000
open Go.Proofs.Tryz renaming prog → ak
namespace Go.BmP
open Go.Am Go.Bm
abbrev oo (d:Nat) (x:Kd):O:=⟨some d,none,x⟩
abbrev gf (d g:Nat) (k:Kd):O:=⟨some d,some (g,false),k⟩
abbrev gt (d g:Nat) (k:Kd):O:=⟨some d,some (g,true),k⟩
abbrev oz (x:Kd):O:=⟨none,none,x⟩
abbrev ki (n:Nat):E:=.k (.int .i64 n)
abbrev aD (d a:Nat):O:=⟨some d,none,.mv (.t a)⟩
abbrev fw (d a:Nat):O:=⟨some d,none,.ld none (.t a)⟩
abbrev fS (d n:Nat):O:=⟨some d,none,.mv (.k (.int .i64 n))⟩
abbrev jO (d k a b:Nat):O:=⟨some d,none,.ti k (.t a) (.t b)⟩
abbrev ko (d k a:Nat):O:=⟨some d,none,.vL k (.t a)⟩
abbrev jN (d a:Nat):O:=⟨some d,none,.len (.t a)⟩
abbrev tG (d k a:Nat):O:=⟨some d,none,.ld (some k) (.t a)⟩
abbrev nk (d a n:Nat):O:=⟨some d,none,.bin .add (.t a) (.k (.int .i64 n))⟩
abbrev nJ (d a b:Nat):O:=⟨some d,none,.bin .lss (.t a) (.t b)⟩
abbrev mQ (d k:Nat):O:=⟨some d,none,.mv (.k (.own k []))⟩
abbrev oT (d f a:Nat):O:=⟨some d,none,.call f [.t a]⟩
abbrev tl (d f a b:Nat):O:=⟨some d,none,.call f [.t a,.t b]⟩
abbrev Fw (d k a:Nat):O:=⟨some d,none,.ext k (.t a)⟩
abbrev p8 (d g a:Nat):O:=⟨some d,some (g,false),.mv (.t a)⟩
abbrev tF (d g a:Nat):O:=⟨some d,some (g,true),.mv (.t a)⟩
abbrev uW (k a b:Nat):O:=⟨none,none,.st k (.t a) (.t b)⟩
abbrev Cc (d:Nat) (b:Bool):O:=⟨some d,none,.mv (.k (.bool b))⟩
abbrev AD (d a:Nat):O:=⟨some d,none,.box (.t a)⟩
abbrev Fv (d a b:Nat):O:=⟨some d,none,.pick (.t a) (.k (.bool true)) (.t b)⟩
abbrev DJ (d a b:Nat):O:=⟨some d,none,.pick (.t a) (.t b) (.k (.bool false))⟩
abbrev uV (d g a:Nat):O:=⟨some d,some (g,false),.ld none (.t a)⟩
abbrev zg (d g a:Nat):O:=⟨some d,some (g,true),.ld none (.t a)⟩
abbrev GH (d k a b:Nat):O:=⟨some d,none,.app k (.t a) (.t b)⟩
abbrev BF (d g k a:Nat):O:=⟨some d,some (g,false),.vL k (.t a)⟩
abbrev bzY (d a n:Nat):O:=⟨some d,none,.bin .neq (.t a) (.k (.int .i64 n))⟩
abbrev SI (d a n:Nat):O:=⟨some d,none,.bin .lss (.t a) (.k (.int .i64 n))⟩
abbrev aY (r:List O) (l:List Nat) (x:C):C:=.seq (.qT r false [] l) x
abbrev gW (r:List O) (l:List Nat):C:=.qT r false [] l
abbrev mR (g e:Nat):C:=.cond (.t g) .skip (.exit e)
def nQa:Nat:=3
def nQb:Nat:=4
def nQc:Nat:=5
def nQd:Nat:=6
def nQe:Nat:=7
def Nx:Nat:=8
def nQg:Nat:=9
def nQh:Nat:=10
def nQi:Nat:=11
def nQj:Nat:=12
def Xy:Nat:=13
def nQl:Nat:=14
def nQm:Nat:=15
def nQn:Nat:=16
def nQo:Nat:=17
def nQp:Nat:=18
def nQq:Nat:=19
def nQr:Nat:=20
def nQs:Nat:=21
def nQt:Nat:=22
def nQu:Nat:=23
def nQv:Nat:=24
def nQw:Nat:=25
def tN:Nat:=26
def nQy:Nat:=27
def nQz:Nat:=28
def nQA:Nat:=29
def nQB:Nat:=30
def nQC:Nat:=31
def Wp:Nat:=32
def nQE:Nat:=33
def nQF:Nat:=34
def nQG:Nat:=35
def nQH:Nat:=36
def nQI:Nat:=37
def nQJ:Nat:=38
def nQK:Nat:=39
def nQL:Nat:=40
def nQM:Nat:=41
def nQN:Nat:=42
def nQO:Nat:=43
def nQP:Nat:=44
def nQQ:Nat:=45
def nQR:Nat:=46
def nQS:Nat:=47
def nQT:Nat:=48
def nQU:Nat:=49
def nQV:Nat:=50
def nQW:Nat:=51
def nQX:Nat:=52
def nQY:Nat:=53
def nQZ:Nat:=54
def nQ0:Nat:=55
def nQ1:Nat:=56
def nQ2:Nat:=57
def nQ3:Nat:=58
def Pw:Nat:=59
def Ny:Nat:=60
def Rq:Nat:=61
def nQ7:Nat:=62
def nQ8:Nat:=63
def nQ9:Nat:=64
def Ud:Nat:=65
def XI:Nat:=66
def Uc:Nat:=67
def Ub:Nat:=68
def NQ:Nat:=69
def XH:Nat:=70
def XG:Nat:=71
def XF:Nat:=72
def XE:Nat:=73
def XD:Nat:=74
def Ua:Nat:=75
def T9:Nat:=76
def T8:Nat:=77
def wx:Nat:=80
def xn:Nat:=81
def XC:Nat:=82
def T7:Nat:=83
def XB:Nat:=84
def T6:Nat:=85
def XA:Nat:=86
def Xz:Nat:=97
def nQc1:Nat:=98
def Rp:Nat:=99
def LI:Nat:=105
def T5:Nat:=106
def T4:Nat:=107
def ub:List O:=[Cc 12 false]
def ua:List O:=[aD 30 0,jN 31 30,oo 32<|.bin .gtr (.t 31) (ki 20)]
def tZ:List O:=[oo 33<|.call nQb [],aD 12 33]
def tY:List O:=[aD 34 0,jN 35 34,fS 36 0]
def tX:List O:=[nJ 37 36 35]
def tW:List O:=[jO 38 3 34 36,tG 39 3 38,oo 14<|.new [.int .i64 0,.int .i64 0,.own 1 []],uW 3 14 39]
def tV:List O:=[ko 40 2 14,fw 41 40,jN 42 41,oo 43<|.bin .gtr (.t 42) (ki 40)]
def tU:List O:=[oo 44<|.call nQb [],aD 12 44]
def tT:List O:=[nk 45 36 1,aD 36 45]
def UK:C:=(aY tX [0,1,2,3,4,5,34,35,36,37] (.seq (mR 37 0) (.seq (.aH 1 (aY tW [0,1,2,3,4,5,14,34,35,36] (aY tV [0,1,2,3,4,5,34,35,36,43] (.cond (.t 43) (aY tU [12] .ret) .skip)))) (gW tT [0,1,2,3,4,5,34,35,36]))))
def tS:List O:=[aD 46 1,oT 47 nQc 46,aD 15 47]
def ox:List O:=[aD 49 15,oo 50<|.call nQe [.t 49,ki 8],oT 51 nQd 50,aD 48 51,Fw 52 0 48,Fw 53 1 48,aD 16 52,aD 17 53]
def ot:List O:=[aD 55 15,oo 56<|.call nQe [.t 55,ki 8],oT 57 nQd 56,aD 54 57,Fw 58 0 54,Fw 59 1 54,aD 18 58,aD 19 59]
def oq:List O:=[aD 60 16,aD 61 0,oo 62<|.dw 1 2 [.own 3 []] [(0,1,.t 60),(1,1,.t 61)],jN 63 62,fS 64 0]
def om:List O:=[nJ 65 64 63]
def oi:List O:=[jO 66 1 62 64,fw 67 66,aD 21 67]
def oh:List O:=[aD 68 2,aD 69 3,aD 70 4,aD 71 5,oo 72<|.build [.int .i64 0,.int .i64 0,.int .i64 0,.int .i64 0] [(0,1,.t 68),(1,1,.t 69),(2,1,.t 70),(3,1,.t 71)],aD 73 15,oo 74<|.call Nx [.t 73,ki 8],aD 75 15,oo 76<|.call Nx [.t 75,ki 8],aD 77 15,oo 78<|.call Nx [.t 77,ki 5],aD 79 15,aD 80 21,jN 81 80,nk 82 81 2,tl 83 Nx 79 82,oo 84<|.bin .sub (.t 83) (ki 1),oo 85<|.build [.int .i64 0,.int .i64 0,.int .i64 0,.int .i64 0] [(0,1,.t 74),(1,1,.t 76),(2,1,.t 78),(3,1,.t 84)],oo 86<|.dw 4 2 [.int .i64 0,.int .i64 0,.int .i64 0,.int .i64 0] [(0,4,.t 72),(4,4,.t 85)],jN 87 86,fS 88 0]
def oe:List O:=[nJ 89 88 87]
def od:List O:=[jO 90 4 86 88,tG 91 4 90,oo 23<|.new [.int .i64 0,.int .i64 0,.int .i64 0,.int .i64 0],uW 4 23 91]
def ob:List O:=[aD 92 21,oo 93<|.wC 4 1 (.t 23) (ki 0),fw 94 93,oo 95<|.wC 4 1 (.t 23) (ki 2),fw 96 95,oo 97<|.call nQg [.t 92,.t 94,.t 96],aD 98 21,oo 99<|.wC 4 1 (.t 23) (ki 0),fw 100 99,oo 101<|.wC 4 1 (.t 23) (ki 2),fw 102 101,oo 103<|.call nQh [.t 98,.t 100,.t 102],oo 104<|.bin .neq (.t 97) (.t 103),aD 105 104,p8 106 105 21,gf 107 105<|.wC 4 1 (.t 23) (ki 0),uV 108 105 107,gf 109 105<|.wC 4 1 (.t 23) (ki 1),uV 110 105 109,gf 111 105<|.call nQi [.t 106,.t 108,.t 110],p8 112 105 21,gf 113 105<|.wC 4 1 (.t 23) (ki 0),uV 114 105 113,gf 115 105<|.wC 4 1 (.t 23) (ki 1),uV 116 105 115,gf 117 105<|.call nQj [.t 112,.t 114,.t 116],gf 118 105<|.bin .neq (.t 111) (.t 117),Fv 119 105 118,aD 120 119,p8 121 120 21,gf 122 120<|.wC 4 1 (.t 23) (ki 3),uV 123 120 122,gf 124 120<|.call nQl [.t 121,.t 123],p8 125 120 21,gf 126 120<|.wC 4 1 (.t 23) (ki 3),uV 127 120 126,gf 128 120<|.call nQm [.t 125,.t 127],gf 129 120<|.call Xy [.t 124,.t 128],gf 130 120<|.un .not (.t 129),Fv 131 120 130,aD 132 131,p8 133 132 21,gf 134 132<|.wC 4 1 (.t 23) (ki 3),uV 135 132 134,gf 136 132<|.call nQn [.t 133,.t 135],p8 137 132 21,gf 138 132<|.wC 4 1 (.t 23) (ki 3),uV 139 132 138,gf 140 132<|.call nQo [.t 137,.t 139],gf 141 132<|.call Xy [.t 136,.t 140],gf 142 132<|.un .not (.t 141),Fv 143 132 142]
def oa:List O:=[Cc 12 false]
def n9:List O:=[nk 144 88 1,aD 88 144]
def UJ:C:=(aY oe [0,2,3,4,5,15,16,18,21,62,63,64,86,87,88,89] (.seq (mR 89 4) (.seq (.aH 5 (aY od [0,2,3,4,5,15,16,18,21,23,62,63,64,86,87,88] (.seq (.qT ob true [(11,11),(12,12),(13,13),(25,25),(26,26),(27,27),(28,28),(36,36),(37,37),(38,38),(39,39),(40,40),(48,48),(49,49),(50,50),(51,51),(0,2),(2,3),(0,4),(1,4),(2,4),(2,6),(4,6),(5,6),(2,7),(4,7),(5,7),(0,8),(1,8),(2,8),(3,8),(4,8),(5,8),(6,8),(2,9),(4,9),(5,9),(8,9),(0,10),(1,10),(2,10),(3,10),(4,10),(5,10),(6,10),(7,10),(8,10),(14,16),(16,17),(14,18),(15,18),(16,18),(16,20),(18,20),(19,20),(16,21),(18,21),(19,21),(14,22),(15,22),(16,22),(17,22),(18,22),(19,22),(20,22),(16,23),(18,23),(19,23),(22,23),(14,24),(15,24),(16,24),(17,24),(18,24),(19,24),(20,24),(21,24),(22,24),(29,31),(31,33),(32,33),(31,34),(32,34),(29,35),(30,35),(31,35),(32,35),(33,35),(41,43),(43,45),(44,45),(43,46),(44,46),(41,47),(42,47),(43,47),(44,47),(45,47)] [0,2,3,4,5,15,16,18,21,62,63,64,86,87,88,143]) (.cond (.t 143) (aY oa [12] .ret) .skip)))) (gW n9 [0,2,3,4,5,15,16,18,21,62,63,64,86,87,88]))))
def nZ:List O:=[nk 145 64 1,aD 64 145]
def PJ:C:=(aY om [0,2,3,4,5,15,16,18,62,63,64,65] (.seq (mR 65 2) (.seq (.aH 3 (aY oi [0,2,3,4,5,15,16,18,21,62,63,64] (aY oh [0,2,3,4,5,15,16,18,21,62,63,64,86,87,88] (.aH 4 (.loop UJ))))) (gW nZ [0,2,3,4,5,15,16,18,62,63,64]))))
def nY:List O:=[aD 146 16,aD 147 18,oo 148<|.build [.own 3 [],.own 3 []] [(0,1,.t 146),(1,1,.t 147)],aD 149 0,aD 150 16,oo 151<|.build [.own 3 [],.own 3 []] [(0,1,.t 149),(1,1,.t 150)],oo 152<|.dw 2 2 [.own 3 [],.own 3 []] [(0,2,.t 148),(2,2,.t 151)],jN 153 152,fS 154 0]
def nX:List O:=[nJ 155 154 153]
def nW:List O:=[jO 156 2 152 154,tG 157 2 156,oo 25<|.new [.own 3 [],.own 3 []],uW 2 25 157]
def nV:List O:=[oo 159<|.wC 2 1 (.t 25) (ki 0),fw 160 159,oo 161<|.wC 2 1 (.t 25) (ki 1),fw 162 161,tl 163 nQp 160 162,aD 158 163,Fw 164 0 158,Fw 165 1 158,aD 26 164,aD 27 165]
def nU:List O:=[oo 167<|.wC 2 1 (.t 25) (ki 0),fw 168 167,oo 169<|.wC 2 1 (.t 25) (ki 1),fw 170 169,tl 171 nQq 168 170,aD 166 171,Fw 172 0 166,Fw 173 1 166,aD 28 172,aD 29 173]
def nT:List O:=[aD 174 26,aD 175 28,tl 176 Xy 174 175,oo 177<|.un .not (.t 176),aD 178 177,p8 179 178 27,p8 180 178 29,gf 181 178<|.call Xy [.t 179,.t 180],gf 182 178<|.un .not (.t 181),Fv 183 178 182]
def nS:List O:=[Cc 12 false]
def nQ:List O:=[nk 184 154 1,aD 154 184]
def PI:C:=(aY nX [152,153,154,155] (.seq (mR 155 6) (.seq (.aH 7 (aY nW [25,152,153,154] (aY nV [25,26,27,152,153,154] (aY nU [26,27,28,29,152,153,154] (aY nT [152,153,154,183] (.cond (.t 183) (aY nS [12] .ret) .skip)))))) (gW nQ [152,153,154]))))
def nP:List O:=[oo 185<|.call nQb [],aD 12 185]
def cQa:C:=(aY ub [0,1,2,3,4,5] (.seq (aY ua [0,1,2,3,4,5,32] (.cond (.t 32) (aY tZ [12] .ret) .skip)) (.seq (aY tY [0,1,2,3,4,5,34,35,36] (.aH 0 (.loop UK))) (aY tS [0,2,3,4,5,15] (aY ox [0,2,3,4,5,15,16] (aY ot [0,2,3,4,5,15,16,18] (.seq (aY oq [0,2,3,4,5,15,16,18,62,63,64] (.aH 2 (.loop PJ))) (.seq (aY nY [152,153,154] (.aH 6 (.loop PI))) (aY nP [12] .ret)))))))))
def qQa:fM:=⟨186,6,[.t 12],cQa⟩
def ans:List O:=[Cc 0 false]
def anr:List O:=[oo 4<|.build [.int .i64 0,.int .i64 0] [(0,1,ki 0),(1,1,ki 1)],oo 5<|.build [.int .i64 0,.int .i64 0] [(0,1,ki 0),(1,1,ki 2)],oo 6<|.build [.int .i64 0,.int .i64 0] [(0,1,ki 1),(1,1,ki 2)],oo 7<|.build [.int .i64 0,.int .i64 0] [(0,1,ki 2),(1,1,ki 3)],oo 8<|.dw 2 4 [.int .i64 0,.int .i64 0] [(0,2,.t 4),(2,2,.t 5),(4,2,.t 6),(6,2,.t 7)],oo 9<|.build [.int .i64 0,.own 2 []] [(0,1,ki 4),(1,1,.t 8)],oo 1<|.new [.int .i64 0,.own 2 []],uW 2 1 9]
def anq:List O:=[tG 11 2 1,oT 12 nQr 11,aD 10 12,Fw 13 0 10,Fw 14 1 10,aD 2 13,aD 3 14]
def anp:List O:=[aD 15 3,oo 16<|.bin .eql (.t 15) (ki 0),aD 17 16,tF 18 17 2,gt 19 17<|.len (.t 18),gt 20 17<|.bin .eql (.t 19) (ki 2),DJ 21 17 20,aD 22 21,tF 23 22 2,gt 24 22<|.ti 3 (.t 23) (ki 0),gt 25 22<|.vL 0 (.t 24),zg 26 22 25,gt 27 22<|.bin .eql (.t 26) (ki 1),DJ 28 22 27,aD 29 28,tF 30 29 2,gt 31 29<|.ti 3 (.t 30) (ki 0),gt 32 29<|.vL 1 (.t 31),zg 33 29 32,gt 34 29<|.bin .eql (.t 33) (.k (.int .i64 (-1))),DJ 35 29 34,aD 36 35,tF 37 36 2,gt 38 36<|.ti 3 (.t 37) (ki 1),gt 39 36<|.vL 2 (.t 38),zg 40 36 39,gt 41 36<|.dw 1 3 [.int .i64 0] [(0,1,ki 0),(1,1,ki 1),(2,1,ki 2)],gt 42 36<|.call Xy [.t 40,.t 41],DJ 43 36 42,aD 44 43,tF 45 44 2,gt 46 44<|.ti 3 (.t 45) (ki 1),gt 47 44<|.vL 0 (.t 46),zg 48 44 47,gt 49 44<|.bin .eql (.t 48) (ki 2),DJ 50 44 49,aD 51 50,tF 52 51 2,gt 53 51<|.ti 3 (.t 52) (ki 1),gt 54 51<|.vL 1 (.t 53),zg 55 51 54,gt 56 51<|.bin .eql (.t 55) (ki 0),DJ 57 51 56,aD 58 57,tF 59 58 2,gt 60 58<|.call nQg [.t 59,ki 3,ki 9],gt 61 58<|.bin .eql (.t 60) (ki 0),DJ 62 58 61,aD 0 62]
def cQb:C:=(aY ans [] (aY anr [1] (aY anq [2,3] (aY anp [0] .ret))))
def qQb:fM:=⟨63,0,[.t 0],cQb⟩
def aki:List O:=[oo 2<|.mv (.k .fY)]
def akh:List O:=[aD 3 0,oo 4<|.build [.own 1 [],.int .i64 0] [(0,1,.t 3)],AD 5 4,aD 2 5]
def cQc:C:=(aY aki [0] (aY akh [2] .ret))
def qQc:fM:=⟨6,1,[.t 2],cQc⟩
def Kv:List O:=[AD 1 0,mQ 2 3,fS 3 0]
def Ku:List O:=[tG 17 2 1,oT 18 nQs 17,aD 16 18,Fw 19 0 16,Fw 20 1 16,aD 4 19,aD 5 20]
def Ks:List O:=[aD 21 5,bzY 22 21 0]
def Kr:List O:=[aD 23 5,mQ 2 3,aD 3 23]
def Kp:List O:=[mQ 6 3]
def Ko:List O:=[fS 7 0]
def Kn:List O:=[aD 24 7,aD 25 4,oo 26<|.bin .leq (.t 24) (.t 25)]
def Km:List O:=[tG 30 2 1,aD 31 7,tl 32 nQt 30 31,aD 29 32,Fw 33 0 29,Fw 34 1 29,aD 8 33,aD 9 34]
def Kl:List O:=[tG 36 2 1,aD 37 8,tl 38 nQu 36 37,aD 35 38,Fw 39 0 35,Fw 40 1 35,oo 10<|.new [.int .i64 0,.own 2 []],uW 2 10 39,aD 11 40]
def Kk:List O:=[tG 42 2 10,oT 43 nQv 42,aD 41 43,Fw 44 0 41,Fw 45 1 41,aD 12 44,aD 13 45]
def Cy:List O:=[aD 46 12,jN 47 46,fS 48 0]
def Cx:List O:=[nJ 49 48 47]
def Cw:List O:=[jO 50 1 46 48,fw 51 50,aD 15 51]
def Cu:List O:=[aD 52 15,aD 53 8,tl 54 nQw 52 53]
def Ct:List O:=[aD 55 6,aD 56 7,aD 57 15,oo 58<|.call tN [.t 55,.t 56,.t 57],aD 6 58]
def Cr:List O:=[nk 59 48 1,aD 48 59]
def PH:C:=(aY Cx [1,4,6,7,8,46,47,48,49] (.seq (mR 49 2) (.seq (.aH 3 (aY Cw [1,4,6,7,8,15,46,47,48] (aY Cu [1,4,6,7,8,15,46,47,48,54] (.cond (.t 54) (gW Ct [1,4,6,7,8,46,47,48]) .skip)))) (gW Cr [1,4,6,7,8,46,47,48]))))
def Cq:List O:=[aD 27 7,nk 28 27 1,aD 7 28]
def UI:C:=(.seq (aY Kn [1,4,6,7,26] (mR 26 0)) (.seq (.aH 1 (aY Km [1,4,6,7,8] (aY Kl [1,4,6,7,8,10] (aY Kk [1,4,6,7,8,12] (aY Cy [1,4,6,7,8,46,47,48] (.aH 2 (.loop PH))))))) (gW Cq [1,4,6,7])))
def Cp:List O:=[aD 60 6,oT 61 nQy 60,aD 2 61,fS 3 0]
def cQd:C:=(aY Kv [1] (aY Ku [1,4,5] (.seq (aY Ks [1,4,5,22] (.cond (.t 22) (aY Kr [2,3] .ret) .skip)) (aY Kp [1,4,6] (.seq (aY Ko [1,4,6,7] (.aH 0 (.loop UI))) (aY Cp [2,3] .ret))))))
def qQd:fM:=⟨62,1,[.t 2,.t 3],cQd⟩
def Hu:List O:=[oo 4<|.new [.int .i64 0,.own 2 []]]
def Hs:List O:=[aD 9 0,aD 10 1,nk 11 10 1,tl 12 Nx 9 11,oo 13<|.build [.int .i64 0,.own 2 []] [(0,1,.t 12)],oo 5<|.new [.int .i64 0,.own 2 []],uW 2 5 13]
def Hr:List O:=[ko 14 0 5,fw 15 14,SI 16 15 4]
def Hp:List O:=[aD 17 1,ko 18 0 5,fw 19 18,aD 20 0,aD 21 1,nk 22 21 1,tl 23 Nx 20 22,oo 24<|.bin .add (.t 19) (.t 23),oo 25<|.min [.t 17,.t 24],ko 26 0 5,uW 1 26 25]
def Ho:List O:=[aD 27 0,oo 28<|.call Nx [.t 27,ki 4],oo 29<|.bin .add (ki 1) (.t 28),aD 6 29]
def Hn:List O:=[fS 7 0]
def Hm:List O:=[aD 30 7,ko 31 0 5,fw 32 31,nJ 33 30 32]
def Hk:List O:=[aD 36 7,nk 37 36 1,aD 8 37]
def Hj:List O:=[aD 38 8,ko 39 0 5,fw 40 39,nJ 41 38 40]
def Hi:List O:=[aD 44 0,oo 45<|.call Nx [.t 44,ki 5],aD 46 6,oo 47<|.bin .sub (ki 5) (.t 46),oo 48<|.bin .geq (.t 45) (.t 47)]
def zD:List O:=[ko 49 1 5,fw 50 49,aD 51 7,aD 52 8,oo 53<|.build [.int .i64 0,.int .i64 0] [(0,1,.t 51),(1,1,.t 52)],oo 54<|.dw 2 1 [.int .i64 0,.int .i64 0] [(0,2,.t 53)],GH 55 2 50 54,ko 56 1 5,uW 1 56 55]
def zC:List O:=[aD 42 8,nk 43 42 1,aD 8 43]
def L3:C:=(.seq (aY Hj [0,4,5,6,7,8,41] (mR 41 2)) (.seq (.aH 3 (aY Hi [0,4,5,6,7,8,48] (.cond (.t 48) (gW zD [0,4,5,6,7,8]) .skip))) (gW zC [0,4,5,6,7,8])))
def zB:List O:=[aD 34 7,nk 35 34 1,aD 7 35]
def UH:C:=(.seq (aY Hm [0,4,5,6,7,33] (mR 33 0)) (.seq (.aH 1 (aY Hk [0,4,5,6,7,8] (.aH 2 (.loop L3)))) (gW zB [0,4,5,6,7])))
def zA:List O:=[tG 57 2 5,uW 2 4 57]
def cQe:C:=(aY Hu [0,1,4] (aY Hs [0,1,4,5] (.seq (aY Hr [0,1,4,5,16] (.cond (.t 16) (.qT Hp true [(8,8),(9,9),(10,10),(0,2),(2,3),(2,4),(2,5),(0,6),(1,6),(2,6)] [0,4,5]) .skip)) (aY Ho [0,4,5,6] (.seq (aY Hn [0,4,5,6,7] (.aH 0 (.loop UH))) (aY zA [4] .ret))))))
def qQe:fM:=⟨58,2,[.c 4 (some 2)],cQe⟩
def ZV:List O:=[fS 4 0]
def ZU:List O:=[aD 6 1,SI 7 6 1,aD 8 7,p8 9 8 0,gf 10 8<|.pD (.t 9),BF 11 8 1 10,uV 12 8 11,p8 13 8 0,gf 14 8<|.pD (.t 13),BF 15 8 0 14,uV 16 8 15,gf 17 8<|.len (.t 16),gf 18 8<|.bin .geq (.t 12) (.t 17),Fv 19 8 18]
def ZT:List O:=[fS 4 0]
def ZS:List O:=[aD 20 0,oo 21<|.pD (.t 20),ko 22 0 21,fw 23 22,aD 24 0,oo 25<|.pD (.t 24),ko 26 1 25,fw 27 26,jO 28 1 23 27,fw 29 28,aD 5 29]
def ZR:List O:=[aD 30 0,oo 31<|.pD (.t 30),ko 32 1 31,fw 33 32,nk 34 33 1,oo 35<|.pD (.t 30),ko 36 1 35,uW 1 36 34]
def ZQ:List O:=[aD 37 5,aD 38 1,tl 39 nQz 37 38,aD 4 39]
def cQf:C:=(aY ZV [0,1] (.seq (.seq (.qT ZU true [(0,0),(1,1),(2,2),(12,12),(13,13),(6,7),(6,8),(6,9),(3,10),(4,10),(5,10),(6,10),(6,11)] [0,1,19]) (.cond (.t 19) (aY ZT [4] .ret) .skip)) (.seq (.qT ZS true [(8,8),(9,9),(10,10),(3,4),(3,5),(3,6),(0,7),(1,7),(2,7),(3,7)] [0,1,5]) (aY ZR [1,5] (aY ZQ [4] .ret)))))
def qQf:fM:=⟨40,2,[.t 4],cQf⟩
def akg:List O:=[AD 4 1,AD 5 2,fS 6 0]
def akf:List O:=[aD 7 0,oo 8<|.Sy (.func nQB) [] [.t 5,.t 4],tl 9 nQA 7 8,aD 6 9]
def cQg:C:=(aY akg [0,4,5] (aY akf [6] .ret))
def qQg:fM:=⟨10,3,[.t 6],cQg⟩
def Hh:List O:=[fS 6 0]
def Hg:List O:=[oo 7<|.mv (.k (.int .i64 (-1)))]
def Hf:List O:=[aD 10 0,jN 11 10,fS 12 0]
def He:List O:=[nJ 13 12 11]
def Hd:List O:=[aD 14 12,jO 15 3 10 12,tG 16 3 15,oo 9<|.new [.int .i64 0,.int .i64 0,.own 1 []],aD 8 14,uW 3 9 16]
def Hc:List O:=[ko 17 0 9,fw 18 17,aD 19 2,oo 20<|.bin .leq (.t 18) (.t 19),aD 21 20,gt 22 21<|.vL 2 (.t 9),zg 23 21 22,tF 24 21 1,gt 25 21<|.call Wp [.t 23,.t 24],DJ 26 21 25,aD 27 26,tF 28 27 7,gt 29 27<|.bin .lss (.t 28) (ki 0),tF 30 27 29,BF 31 30 0 9,uV 32 30 31,p8 33 30 0,p8 34 30 7,gf 35 30<|.ti 3 (.t 33) (.t 34),BF 36 30 0 35,uV 37 30 36,gf 38 30<|.bin .geq (.t 32) (.t 37),gt 39 27<|.pick (.t 30) (.k (.bool true)) (.t 38),DJ 40 27 39]
def Hb:List O:=[aD 41 8,aD 7 41]
def G9:List O:=[nk 42 12 1,aD 12 42]
def E5:C:=(aY He [0,1,2,7,10,11,12,13] (.seq (mR 13 0) (.seq (.aH 1 (aY Hd [0,1,2,7,8,9,10,11,12] (.seq (.qT Hc true [(3,3),(4,4),(8,8),(9,9),(10,10),(11,11),(12,12),(13,13),(21,21),(22,22),(23,23),(1,2),(6,7),(15,16),(15,17),(15,18),(15,19),(14,20),(15,20)] [0,1,2,7,8,10,11,12,40]) (.cond (.t 40) (gW Hb [0,1,2,7,10,11,12]) .skip)))) (gW G9 [0,1,2,7,10,11,12]))))
def G8:List O:=[aD 43 7,aD 6 43]
def cQh:C:=(aY Hh [0,1,2] (aY Hg [0,1,2,7] (.seq (aY Hf [0,1,2,7,10,11,12] (.aH 0 (.loop E5))) (aY G8 [6] .ret))))
def qQh:fM:=⟨44,3,[.t 6],cQh⟩
def ake:List O:=[AD 4 1,AD 5 2,fS 6 0]
def akd:List O:=[aD 7 0,oo 8<|.Sy (.func nQE) [] [.t 4,.t 5],tl 9 nQA 7 8,aD 6 9]
def cQi:C:=(aY ake [0,4,5] (aY akd [6] .ret))
def qQi:fM:=⟨10,3,[.t 6],cQi⟩
def G7:List O:=[fS 6 0]
def G6:List O:=[oo 7<|.mv (.k (.int .i64 (-1)))]
def G5:List O:=[aD 10 0,jN 11 10,fS 12 0]
def G4:List O:=[nJ 13 12 11]
def G3:List O:=[aD 14 12,jO 15 3 10 12,tG 16 3 15,oo 9<|.new [.int .i64 0,.int .i64 0,.own 1 []],aD 8 14,uW 3 9 16]
def G2:List O:=[ko 17 2 9,fw 18 17,aD 19 1,tl 20 Wp 18 19,aD 21 20,gt 22 21<|.vL 2 (.t 9),zg 23 21 22,tF 24 21 2,gt 25 21<|.call Wp [.t 23,.t 24],DJ 26 21 25,aD 27 26,tF 28 27 7,gt 29 27<|.bin .lss (.t 28) (ki 0),tF 30 27 29,BF 31 30 0 9,uV 32 30 31,p8 33 30 0,p8 34 30 7,gf 35 30<|.ti 3 (.t 33) (.t 34),BF 36 30 0 35,uV 37 30 36,gf 38 30<|.bin .geq (.t 32) (.t 37),gt 39 27<|.pick (.t 30) (.k (.bool true)) (.t 38),DJ 40 27 39]
def G0:List O:=[aD 41 8,aD 7 41]
def GZ:List O:=[nk 42 12 1,aD 12 42]
def E4:C:=(aY G4 [0,1,2,7,10,11,12,13] (.seq (mR 13 0) (.seq (.aH 1 (aY G3 [0,1,2,7,8,9,10,11,12] (.seq (.qT G2 true [(3,3),(4,4),(8,8),(9,9),(10,10),(11,11),(12,12),(13,13),(21,21),(22,22),(23,23),(1,2),(6,7),(15,16),(15,17),(15,18),(15,19),(14,20),(15,20)] [0,1,2,7,8,10,11,12,40]) (.cond (.t 40) (gW G0 [0,1,2,7,10,11,12]) .skip)))) (gW GZ [0,1,2,7,10,11,12]))))
def GY:List O:=[aD 43 7,aD 6 43]
def cQj:C:=(aY G7 [0,1,2] (aY G6 [0,1,2,7] (.seq (aY G5 [0,1,2,7,10,11,12] (.aH 0 (.loop E4))) (aY GY [6] .ret))))
def qQj:fM:=⟨44,3,[.t 6],cQj⟩
def ZP:List O:=[Cc 4 false]
def ZO:List O:=[aD 5 0,jN 6 5,aD 7 1,jN 8 7,oo 9<|.bin .eql (.t 6) (.t 8),aD 10 9,tF 11 10 0,tF 12 10 1,gt 13 10<|.call nQF [.t 11,.t 12],gt 14 10<|.bin .eql (.t 13) (ki 0),DJ 15 10 14,aD 4 15]
def cQk:C:=(aY ZP [0,1] (aY ZO [4] .ret))
def qQk:fM:=⟨16,2,[.t 4],cQk⟩
def Kj:List O:=[mQ 4 1]
def Ki:List O:=[mQ 5 1]
def Kh:List O:=[aD 7 1,SI 8 7 0,aD 9 8,p8 10 9 1,p8 11 9 0,gf 12 9<|.len (.t 11),gf 13 9<|.bin .geq (.t 10) (.t 12),Fv 14 9 13]
def Kg:List O:=[mQ 4 1]
def Kf:List O:=[aD 15 5,aD 16 1,oo 17<|.dw 1 1 [.int .i64 0] [(0,1,.t 16)],GH 18 1 15 17,aD 5 18]
def Ke:List O:=[aD 19 0,aD 20 1,jO 21 3 19 20,ko 22 1 21,fw 23 22,aD 6 23]
def Kc:List O:=[aD 24 6,SI 25 24 0,aD 26 25,p8 27 26 6,p8 28 26 1,gf 29 26<|.bin .geq (.t 27) (.t 28),Fv 30 26 29]
def Kb:List O:=[aD 31 5,aD 4 31]
def Ka:List O:=[aD 32 6,aD 1 32]
def abJ:C:=(.aH 1 (aY Kf [0,1,5] (aY Ke [0,1,5,6] (.seq (aY Kc [0,5,6,30] (.cond (.t 30) (aY Kb [4] .ret) .skip)) (gW Ka [0,1,5])))))
def cQl:C:=(aY Kj [0,1] (aY Ki [0,1,5] (.seq (aY Kh [0,1,5,14] (.cond (.t 14) (aY Kg [4] .ret) .skip)) (.aH 0 (.loop abJ)))))
def qQl:fM:=⟨33,2,[.t 4],cQl⟩
def J9:List O:=[mQ 4 1]
def J8:List O:=[aD 6 1,SI 7 6 0,aD 8 7,p8 9 8 1,p8 10 8 0,gf 11 8<|.len (.t 10),gf 12 8<|.bin .geq (.t 9) (.t 11),Fv 13 8 12]
def J7:List O:=[mQ 4 1]
def J6:List O:=[aD 14 1,oo 15<|.dw 1 1 [.int .i64 0] [(0,1,.t 14)],aD 5 15]
def J5:List O:=[aD 16 0,aD 17 1,jO 18 3 16 17,ko 19 1 18,fw 20 19,oo 21<|.bin .geq (.t 20) (ki 0),aD 22 21,tF 23 22 0,tF 24 22 1,gt 25 22<|.ti 3 (.t 23) (.t 24),gt 26 22<|.vL 1 (.t 25),zg 27 22 26,tF 28 22 1,gt 29 22<|.bin .lss (.t 27) (.t 28),DJ 30 22 29]
def J4:List O:=[aD 31 0,aD 32 1,jO 33 3 31 32,ko 34 1 33,fw 35 34,aD 1 35]
def J3:List O:=[aD 36 5,aD 37 1,oo 38<|.dw 1 1 [.int .i64 0] [(0,1,.t 37)],GH 39 1 36 38,aD 5 39]
def abI:C:=(.seq (aY J5 [0,1,5,30] (mR 30 0)) (.aH 1 (aY J4 [0,1,5] (gW J3 [0,1,5]))))
def J2:List O:=[aD 40 5,aD 4 40]
def cQm:C:=(aY J9 [0,1] (.seq (aY J8 [0,1,13] (.cond (.t 13) (aY J7 [4] .ret) .skip)) (aY J6 [0,1,5] (.seq (.aH 0 (.loop abI)) (aY J2 [4] .ret)))))
def qQm:fM:=⟨41,2,[.t 4],cQm⟩
def J1:List O:=[mQ 4 1]
def J0:List O:=[mQ 5 1]
def JZ:List O:=[aD 8 1,oo 9<|.bin .lss (.t 8) (.k (.int .i64 (-1))),aD 10 9,p8 11 10 1,p8 12 10 0,gf 13 10<|.len (.t 12),gf 14 10<|.bin .geq (.t 11) (.t 13),Fv 15 10 14]
def JY:List O:=[mQ 4 1]
def JX:List O:=[aD 16 0,jN 17 16,fS 18 0]
def JW:List O:=[nJ 19 18 17]
def JV:List O:=[aD 20 18,jO 21 3 16 18,tG 22 3 21,oo 7<|.new [.int .i64 0,.int .i64 0,.own 1 []],aD 6 20,uW 3 7 22]
def JU:List O:=[ko 23 1 7,fw 24 23,aD 25 1,oo 26<|.bin .eql (.t 24) (.t 25)]
def JT:List O:=[aD 27 5,aD 28 6,oo 29<|.dw 1 1 [.int .i64 0] [(0,1,.t 28)],GH 30 1 27 29,aD 5 30]
def JS:List O:=[nk 31 18 1,aD 18 31]
def PG:C:=(aY JW [1,5,16,17,18,19] (.seq (mR 19 0) (.seq (.aH 1 (aY JV [1,5,6,7,16,17,18] (aY JU [1,5,6,16,17,18,26] (.cond (.t 26) (gW JT [1,5,16,17,18]) .skip)))) (gW JS [1,5,16,17,18]))))
def Co:List O:=[aD 32 5,aD 4 32]
def cQn:C:=(aY J1 [0,1] (aY J0 [0,1,5] (.seq (aY JZ [0,1,5,15] (.cond (.t 15) (aY JY [4] .ret) .skip)) (.seq (aY JX [1,5,16,17,18] (.aH 0 (.loop PG))) (aY Co [4] .ret)))))
def qQn:fM:=⟨33,2,[.t 4],cQn⟩
def JR:List O:=[mQ 4 1]
def JQ:List O:=[aD 8 1,oo 9<|.bin .lss (.t 8) (.k (.int .i64 (-1))),aD 10 9,p8 11 10 1,p8 12 10 0,gf 13 10<|.len (.t 12),gf 14 10<|.bin .geq (.t 11) (.t 13),Fv 15 10 14]
def JP:List O:=[mQ 4 1]
def JO:List O:=[mQ 5 1]
def JN:List O:=[aD 16 0,jN 17 16,fS 18 0]
def JM:List O:=[nJ 19 18 17]
def JL:List O:=[aD 20 18,jO 21 3 16 18,tG 22 3 21,oo 7<|.new [.int .i64 0,.int .i64 0,.own 1 []],aD 6 20,uW 3 7 22]
def JK:List O:=[ko 23 1 7,fw 24 23,aD 25 1,oo 26<|.bin .eql (.t 24) (.t 25)]
def JJ:List O:=[aD 27 5,aD 28 6,oo 29<|.dw 1 1 [.int .i64 0] [(0,1,.t 28)],GH 30 1 27 29,aD 5 30]
def JI:List O:=[nk 31 18 1,aD 18 31]
def PF:C:=(aY JM [1,5,16,17,18,19] (.seq (mR 19 0) (.seq (.aH 1 (aY JL [1,5,6,7,16,17,18] (aY JK [1,5,6,16,17,18,26] (.cond (.t 26) (gW JJ [1,5,16,17,18]) .skip)))) (gW JI [1,5,16,17,18]))))
def Cn:List O:=[aD 32 5,aD 4 32]
def cQo:C:=(aY JR [0,1] (.seq (aY JQ [0,1,15] (.cond (.t 15) (aY JP [4] .ret) .skip)) (aY JO [0,1,5] (.seq (aY JN [1,5,16,17,18] (.aH 0 (.loop PF))) (aY Cn [4] .ret)))))
def qQo:fM:=⟨33,2,[.t 4],cQo⟩
def akc:List O:=[mQ 4 1,mQ 5 1]
def akb:List O:=[aD 6 0,aD 7 1,tl 8 nQG 6 7,aD 9 1,aD 10 0,tl 11 nQG 9 10,aD 4 8,aD 5 11]
def cQp:C:=(aY akc [0,1] (aY akb [4,5] .ret))
def qQp:fM:=⟨12,2,[.t 4,.t 5],cQp⟩
def aka:List O:=[mQ 4 1,mQ 5 1]
def aj9:List O:=[aD 6 0,aD 7 1,tl 8 nQH 6 7,aD 9 1,aD 10 0,tl 11 nQH 9 10,aD 4 8,aD 5 11]
def cQq:C:=(aY aka [0,1] (aY aj9 [4,5] .ret))
def qQq:fM:=⟨12,2,[.t 4,.t 5],cQq⟩
def aj8:List O:=[AD 1 0,mQ 2 3,fS 3 0]
def aj7:List O:=[tG 7 2 1,oT 8 nQI 7,aD 6 8,Fw 9 0 6,Fw 10 1 6,oo 4<|.new [.own 1 []],uW 1 4 9,aD 5 10]
def aj6:List O:=[aD 11 5,bzY 12 11 0,aD 13 12,uV 14 13 4,gf 15 13<|.len (.t 14),gf 16 13<|.bin .eql (.t 15) (ki 0),Fv 17 13 16]
def aj5:List O:=[aD 18 5,mQ 2 3,aD 3 18]
def aj4:List O:=[fw 19 4,oT 20 nQK 19,oo 21<|.Sy (.func nQL) [] [.t 4,.t 1],tl 22 nQJ 20 21,aD 2 22,fS 3 0]
def cQr:C:=(aY aj8 [1] (aY aj7 [1,4,5] (.seq (aY aj6 [1,4,5,17] (.cond (.t 17) (aY aj5 [2,3] .ret) .skip)) (aY aj4 [2,3] .ret))))
def qQr:fM:=⟨23,1,[.t 2,.t 3],cQr⟩
def ZN:List O:=[AD 1 0,fS 2 0,fS 3 0]
def ZM:List O:=[tG 10 2 1,oT 11 nQO 10,aD 9 11,Fw 12 0 9,Fw 13 1 9,aD 4 12,aD 5 13]
def ZL:List O:=[fS 6 0]
def ZK:List O:=[aD 14 4,jN 15 14,fS 16 0]
def ZJ:List O:=[nJ 17 16 15]
def ZI:List O:=[jO 18 1 14 16,fw 19 18,aD 8 19]
def ZH:List O:=[aD 20 6,aD 21 8,oo 22<|.max [.t 20,.t 21],aD 6 22]
def ZG:List O:=[nk 23 16 1,aD 16 23]
def abH:C:=(aY ZJ [5,6,14,15,16,17] (.seq (mR 17 0) (.seq (.aH 1 (aY ZI [5,6,8,14,15,16] (gW ZH [5,6,14,15,16]))) (gW ZG [5,6,14,15,16]))))
def ZF:List O:=[aD 24 6,aD 25 5,aD 2 24,aD 3 25]
def cQs:C:=(aY ZN [1] (aY ZM [4,5] (aY ZL [4,5,6] (.seq (aY ZK [5,6,14,15,16] (.aH 0 (.loop abH))) (aY ZF [2,3] .ret)))))
def qQs:fM:=⟨26,1,[.t 2,.t 3],cQs⟩
def aj3:List O:=[AD 2 0,mQ 4 1,fS 5 0]
def aj2:List O:=[tG 7 2 2,oT 8 nQP 7,aD 6 8]
def aj1:List O:=[aD 9 6,bzY 10 9 0]
def aj0:List O:=[aD 11 6,mQ 4 1,aD 5 11]
def ajZ:List O:=[tG 12 2 2,aD 13 1,tl 14 nQQ 12 13,aD 4 14,fS 5 0]
def cQt:C:=(aY aj3 [1,2] (.seq (aY aj2 [1,2,6] (aY aj1 [1,2,6,10] (.cond (.t 10) (aY aj0 [4,5] .ret) .skip))) (aY ajZ [4,5] .ret)))
def qQt:fM:=⟨15,2,[.t 4,.t 5],cQt⟩
def O5:List O:=[AD 2 0,oo 4<|.new [.int .i64 0,.own 2 []],fS 5 0]
def O4:List O:=[tG 10 2 2,oT 11 nQP 10,aD 6 11]
def O0:List O:=[aD 12 6,bzY 13 12 0]
def OZ:List O:=[oo 14<|.build [.int .i64 0,.own 2 []] [],aD 15 6,uW 2 4 14,aD 5 15]
def OY:List O:=[ko 16 0 2,fw 17 16,oo 18<|.build [.int .i64 0,.own 2 []] [(0,1,.t 17)],oo 7<|.new [.int .i64 0,.own 2 []],uW 2 7 18]
def OX:List O:=[ko 19 1 2,fw 20 19,jN 21 20,fS 22 0]
def OW:List O:=[nJ 23 22 21]
def OV:List O:=[jO 24 2 20 22,tG 25 2 24,oo 9<|.new [.int .i64 0,.int .i64 0],uW 2 9 25]
def OU:List O:=[aD 26 1,ko 27 0 9,fw 28 27,tl 29 Wp 26 28,aD 30 29,tF 31 30 1,gt 32 30<|.vL 1 (.t 9),zg 33 30 32,gt 34 30<|.call Wp [.t 31,.t 33],DJ 35 30 34]
def OT:List O:=[ko 36 1 7,fw 37 36,tG 38 2 9,oo 39<|.dw 2 1 [.int .i64 0,.int .i64 0] [(0,2,.t 38)],GH 40 2 37 39,ko 41 1 7,uW 1 41 40]
def FQ:List O:=[nk 42 22 1,aD 22 42]
def L0:C:=(aY OW [1,4,7,20,21,22,23] (.seq (mR 23 0) (.seq (.aH 1 (aY OV [1,4,7,9,20,21,22] (aY OU [1,4,7,9,20,21,22,35] (.cond (.t 35) (gW OT [1,4,7,20,21,22]) .skip)))) (gW FQ [1,4,7,20,21,22]))))
def FP:List O:=[tG 43 2 7,uW 2 4 43,fS 5 0]
def cQu:C:=(aY O5 [1,2,4] (.seq (aY O4 [1,2,4,6] (aY O0 [1,2,4,6,13] (.cond (.t 13) (aY OZ [4,5] .ret) .skip))) (aY OY [1,2,4,7] (.seq (aY OX [1,4,7,20,21,22] (.aH 0 (.loop L0))) (aY FP [4,5] .ret)))))
def qQu:fM:=⟨44,2,[.c 4 (some 2),.t 5],cQu⟩
def ZE:List O:=[AD 1 0,mQ 2 1,fS 3 0]
def ZD:List O:=[tG 8 2 1,oT 9 nQP 8,aD 4 9]
def ZC:List O:=[aD 10 4,bzY 11 10 0]
def ZB:List O:=[aD 12 4,mQ 2 1,aD 3 12]
def ZA:List O:=[mQ 5 1]
def Zz:List O:=[ko 13 0 1,fw 14 13,oT 15 nQR 14,aD 6 15]
def Zy:List O:=[aD 16 6,jN 17 16,oo 18<|.bin .gtr (.t 17) (ki 0)]
def Zx:List O:=[tG 19 2 1,aD 20 6,oo 21<|.Io 1 (.t 20) none (some (ki 1)),aD 22 6,oo 23<|.call nQS [.t 19,.t 21,.t 22],aD 7 23]
def Zw:List O:=[aD 24 5,aD 25 7,oo 26<|.dw 1 1 [.own 1 []] [(0,1,.t 25)],GH 27 1 24 26,aD 28 6,aD 29 7,tl 30 nQT 28 29,aD 5 27,aD 6 30]
def UG:C:=(.seq (aY Zy [1,5,6,18] (mR 18 0)) (.aH 1 (.seq (.qT Zx true [(4,4),(5,5),(0,1),(0,2),(0,3)] [1,5,6,7]) (gW Zw [1,5,6]))))
def Zu:List O:=[aD 31 5,aD 2 31,fS 3 0]
def cQv:C:=(aY ZE [1] (.seq (aY ZD [1,4] (aY ZC [1,4,11] (.cond (.t 11) (aY ZB [2,3] .ret) .skip))) (aY ZA [1,5] (aY Zz [1,5,6] (.seq (.aH 0 (.loop UG)) (aY Zu [2,3] .ret))))))
def qQv:fM:=⟨32,1,[.t 2,.t 3],cQv⟩
def OS:List O:=[Cc 4 false]
def OR:List O:=[aD 7 0,jN 8 7,fS 9 0]
def OQ:List O:=[nJ 10 9 8]
def OP:List O:=[jO 11 1 7 9,fw 12 11,aD 6 12]
def OO:List O:=[aD 13 1,aD 14 6,tl 15 Wp 13 14,oo 16<|.un .not (.t 15)]
def ON:List O:=[Cc 4 false]
def OM:List O:=[nk 17 9 1,aD 9 17]
def UF:C:=(aY OQ [1,7,8,9,10] (.seq (mR 10 0) (.seq (.aH 1 (aY OP [1,6,7,8,9] (aY OO [1,7,8,9,16] (.cond (.t 16) (aY ON [4] .ret) .skip)))) (gW OM [1,7,8,9]))))
def OL:List O:=[Cc 4 true]
def cQw:C:=(aY OS [0,1] (.seq (aY OR [1,7,8,9] (.aH 0 (.loop UF))) (aY OL [4] .ret)))
def qQw:fM:=⟨18,2,[.t 4],cQw⟩
def JH:List O:=[mQ 6 3]
def JG:List O:=[aD 8 0,jN 9 8,fS 10 0]
def JF:List O:=[nJ 11 10 9]
def JE:List O:=[aD 12 10,aD 7 12]
def JD:List O:=[aD 13 0,aD 14 7,jO 15 3 13 14,ko 16 2 15,fw 17 16,aD 18 2,tl 19 Xy 17 18]
def JC:List O:=[aD 20 0,aD 21 7,aD 22 0,aD 23 7,jO 24 3 22 23,ko 25 0 24,fw 26 25,aD 27 1,oo 28<|.max [.t 26,.t 27],jO 29 3 20 21,ko 30 0 29,uW 1 30 28]
def JB:List O:=[aD 31 0,aD 6 31]
def JA:List O:=[nk 32 10 1,aD 10 32]
def LZ:C:=(aY JF [0,1,2,9,10,11] (.seq (mR 11 0) (.seq (.aH 1 (aY JE [0,1,2,7,9,10] (aY JD [0,1,2,7,9,10,19] (.cond (.t 19) (aY JC [0] (aY JB [6] .ret)) .skip)))) (gW JA [0,1,2,9,10]))))
def Jz:List O:=[aD 33 0,aD 34 1,aD 35 2,oo 36<|.build [.int .i64 0,.int .i64 0,.own 1 []] [(0,1,.t 34),(2,1,.t 35)],oo 37<|.dw 3 1 [.int .i64 0,.int .i64 0,.own 1 []] [(0,3,.t 36)],GH 38 3 33 37,aD 6 38]
def cQx:C:=(aY JH [0,1,2] (.seq (aY JG [0,1,2,9,10] (.aH 0 (.loop LZ))) (aY Jz [6] .ret)))
def qQx:fM:=⟨39,3,[.t 6],cQx⟩
def ta:List O:=[mQ 2 3]
def s9:List O:=[mQ 3 3]
def s8:List O:=[aD 10 0,jN 11 10,fS 12 0]
def s7:List O:=[nJ 13 12 11]
def s6:List O:=[jO 14 3 10 12,tG 15 3 14,oo 5<|.new [.int .i64 0,.int .i64 0,.own 1 []],uW 3 5 15]
def sZ:List O:=[aD 16 3,jN 17 16,aD 6 17]
def sY:List O:=[aD 18 6,oo 19<|.bin .gtr (.t 18) (ki 0),aD 20 19,gt 21 20<|.ld (some 3) (.t 5),tF 22 20 3,tF 23 20 6,gt 24 20<|.bin .sub (.t 23) (ki 1),gt 25 20<|.ti 3 (.t 22) (.t 24),gt 26 20<|.ld (some 3) (.t 25),gt 27 20<|.call nQU [.t 21,.t 26],DJ 28 20 27]
def sX:List O:=[aD 29 6,oo 30<|.bin .sub (.t 29) (ki 1),aD 6 30]
def UE:C:=(.seq (.seq (.qT sY true [(0,0),(1,1),(2,2),(9,9),(10,10),(3,4),(3,5),(3,6),(3,7),(3,8)] [3,5,6,10,11,12,28]) (mR 28 2)) (.aH 3 (gW sX [3,5,6,10,11,12])))
def sW:List O:=[aD 31 3,aD 32 6,oo 33<|.Io 3 (.t 31) none (some (.t 32)),tG 34 3 5,oo 35<|.dw 3 1 [.int .i64 0,.int .i64 0,.own 1 []] [(0,3,.t 34)],aD 36 3,aD 37 6,oo 38<|.Io 3 (.t 36) (some (.t 37)) none,GH 39 3 35 38,GH 40 3 33 39,aD 3 40]
def sV:List O:=[nk 41 12 1,aD 12 41]
def UD:C:=(aY s7 [3,10,11,12,13] (.seq (mR 13 0) (.seq (.aH 1 (aY s6 [3,5,10,11,12] (aY sZ [3,5,6,10,11,12] (.seq (.aH 2 (.loop UE)) (.qT sW true [(9,9),(10,10),(0,3),(1,3),(2,3),(0,4),(1,4),(2,4),(3,5),(4,5),(3,6),(4,6),(3,7),(4,7),(0,8),(1,8),(2,8)] [3,10,11,12]))))) (gW sV [3,10,11,12]))))
def mO:List O:=[aD 42 3,jN 43 42,fS 44 0]
def mN:List O:=[nJ 45 44 43]
def mM:List O:=[aD 46 44,aD 7 46]
def mL:List O:=[aD 47 3,aD 48 7,jO 49 3 47 48,ko 50 1 49,oz<|.st 1 (.t 50) (.k (.int .i64 (-1)))]
def mK:List O:=[aD 51 3,jN 52 51,fS 53 0]
def mJ:List O:=[nJ 54 53 52]
def mI:List O:=[aD 55 53,aD 8 55]
def mH:List O:=[aD 56 8,aD 57 7,oo 58<|.bin .eql (.t 56) (.t 57),aD 59 58,p8 60 59 3,p8 61 59 8,gf 62 59<|.ti 3 (.t 60) (.t 61),BF 63 59 2 62,uV 64 59 63,gf 65 59<|.len (.t 64),p8 66 59 3,p8 67 59 7,gf 68 59<|.ti 3 (.t 66) (.t 67),BF 69 59 2 68,uV 70 59 69,gf 71 59<|.len (.t 70),gf 72 59<|.bin .leq (.t 65) (.t 71),Fv 73 59 72,aD 74 73,p8 75 74 3,p8 76 74 7,gf 77 74<|.ti 3 (.t 75) (.t 76),BF 78 74 2 77,uV 79 74 78,p8 80 74 3,p8 81 74 8,gf 82 74<|.ti 3 (.t 80) (.t 81),BF 83 74 2 82,uV 84 74 83,gf 85 74<|.call nQw [.t 79,.t 84],gf 86 74<|.un .not (.t 85),Fv 87 74 86]
def mG:List O:=[aD 88 3,aD 89 7,jO 90 3 88 89,ko 91 1 90,fw 92 91,aD 9 92]
def mF:List O:=[aD 93 9,SI 94 93 0,aD 95 94,p8 96 95 3,p8 97 95 8,gf 98 95<|.ti 3 (.t 96) (.t 97),BF 99 95 2 98,uV 100 95 99,gf 101 95<|.len (.t 100),p8 102 95 3,p8 103 95 9,gf 104 95<|.ti 3 (.t 102) (.t 103),BF 105 95 2 104,uV 106 95 105,gf 107 95<|.len (.t 106),gf 108 95<|.bin .lss (.t 101) (.t 107),Fv 109 95 108]
def mE:List O:=[aD 110 3,aD 111 7,aD 112 8,jO 113 3 110 111,ko 114 1 113,uW 1 114 112]
def mD:List O:=[nk 115 53 1,aD 53 115]
def B6:C:=(aY mJ [3,7,43,44,52,53,54] (.seq (mR 54 6) (.seq (.aH 7 (aY mI [3,7,8,43,44,52,53] (.seq (.seq (.qT mH true [(2,2),(3,3),(16,16),(17,17),(18,18),(29,29),(30,30),(31,31),(8,10),(8,11),(8,12),(8,13),(4,14),(5,14),(6,14),(7,14),(8,14),(9,14),(8,15),(23,24),(23,25),(23,26),(23,27),(19,28),(20,28),(21,28),(22,28),(23,28)] [3,7,8,43,44,52,53,87]) (.cond (.t 87) (.exit 7) .skip)) (aY mG [3,7,8,9,43,44,52,53] (.seq (.qT mF true [(0,0),(1,1),(2,2),(15,15),(16,16),(7,9),(7,10),(7,11),(7,12),(3,13),(4,13),(5,13),(6,13),(7,13),(8,13),(7,14)] [3,7,8,43,44,52,53,109]) (.cond (.t 109) (gW mE [3,7,43,44,52,53]) .skip)))))) (gW mD [3,7,43,44,52,53]))))
def mC:List O:=[nk 116 44 1,aD 44 116]
def UC:C:=(aY mN [3,43,44,45] (.seq (mR 45 4) (.seq (.aH 5 (aY mM [3,7,43,44] (aY mL [3,7,43,44] (aY mK [3,7,43,44,52,53] (.aH 6 (.loop B6)))))) (gW mC [3,43,44]))))
def mB:List O:=[aD 117 3,aD 2 117]
def cQy:C:=(aY ta [0] (aY s9 [0,3] (.seq (aY s8 [3,10,11,12] (.aH 0 (.loop UD))) (.seq (aY mO [3,43,44] (.aH 4 (.loop UC))) (aY mB [2] .ret)))))
def qQy:fM:=⟨118,1,[.t 2],cQy⟩
def ajY:List O:=[fS 4 0]
def ajX:List O:=[aD 5 0,aD 6 1,oo 7<|.bin .rem (.t 5) (.t 6),aD 8 1,oo 9<|.bin .add (.t 7) (.t 8),aD 10 1,oo 11<|.bin .rem (.t 9) (.t 10),aD 4 11]
def cQz:C:=(aY ajY [0,1] (aY ajX [4] .ret))
def qQz:fM:=⟨12,2,[.t 4],cQz⟩
def wh:List O:=[fS 4 0]
def wg:List O:=[oo 5<|.mv (.k (.int .i64 (-1)))]
def we:List O:=[aD 8 0,jN 9 8,fS 10 0]
def wc:List O:=[nJ 11 10 9]
def wa:List O:=[aD 12 10,jO 13 3 8 10,tG 14 3 13,oo 7<|.new [.int .i64 0,.int .i64 0,.own 1 []],aD 6 12,uW 3 7 14]
def v8:List O:=[aD 15 1,tG 16 3 7,oo 17<|.jM (.t 15) [.t 16],aD 18 17,tF 19 18 5,gt 20 18<|.bin .lss (.t 19) (ki 0),tF 21 18 20,BF 22 21 0 7,uV 23 21 22,p8 24 21 0,p8 25 21 5,gf 26 21<|.ti 3 (.t 24) (.t 25),BF 27 21 0 26,uV 28 21 27,gf 29 21<|.bin .geq (.t 23) (.t 28),gt 30 18<|.pick (.t 21) (.k (.bool true)) (.t 29),DJ 31 18 30]
def v7:List O:=[aD 32 6,aD 5 32]
def vZ:List O:=[nk 33 10 1,aD 10 33]
def ux:C:=(aY wc [0,1,5,8,9,10,11] (.seq (mR 11 0) (.seq (.aH 1 (aY wa [0,1,5,6,7,8,9,10] (.seq (.qT v8 true [(2,2),(3,3),(4,4),(5,5),(6,6),(14,14),(15,15),(16,16),(0,1),(8,9),(8,10),(8,11),(8,12),(7,13),(8,13)] [0,1,5,6,8,9,10,31]) (.cond (.t 31) (gW v7 [0,1,5,8,9,10]) .skip)))) (gW vZ [0,1,5,8,9,10]))))
def vY:List O:=[aD 34 5,aD 4 34]
def cQA:C:=(aY wh [0,1] (aY wg [0,1,5] (.seq (aY we [0,1,5,8,9,10] (.aH 0 (.loop ux))) (aY vY [4] .ret))))
def qQA:fM:=⟨35,2,[.t 4],cQA⟩
def aeW:List O:=[AD 3 0,Cc 4 false]
def aeV:List O:=[ko 5 0 3,fw 6 5,fw 7 1,oo 8<|.bin .leq (.t 6) (.t 7),aD 9 8,gt 10 9<|.vL 2 (.t 3),zg 11 9 10,zg 12 9 2,gt 13 9<|.call nQC [.t 11,.t 12],DJ 14 9 13,aD 4 14]
def cQB:C:=(aY aeW [1,2,3] (aY aeV [4] .ret))
def qQB:fM:=⟨15,1,[.t 4],cQB⟩
def aks:List O:=[Cc 4 false]
def akr:List O:=[aD 5 0,aD 6 1,tl 7 nQV 5 6,aD 4 7]
def cQC:C:=(aY aks [0,1] (aY akr [4] .ret))
def qQC:fM:=⟨8,2,[.t 4],cQC⟩
def Pf:List O:=[Cc 4 false]
def Pe:List O:=[aD 7 0,jN 8 7,fS 9 0]
def Pd:List O:=[nJ 10 9 8]
def Pc:List O:=[jO 11 1 7 9,fw 12 11,aD 6 12]
def O9:List O:=[aD 13 6,aD 14 1,oo 15<|.bin .eql (.t 13) (.t 14)]
def O8:List O:=[Cc 4 true]
def O7:List O:=[nk 16 9 1,aD 9 16]
def UT:C:=(aY Pd [1,7,8,9,10] (.seq (mR 10 0) (.seq (.aH 1 (aY Pc [1,6,7,8,9] (aY O9 [1,7,8,9,15] (.cond (.t 15) (aY O8 [4] .ret) .skip)))) (gW O7 [1,7,8,9]))))
def O6:List O:=[Cc 4 false]
def cQD:C:=(aY Pf [0,1] (.seq (aY Pe [1,7,8,9] (.aH 0 (.loop UT))) (aY O6 [4] .ret)))
def qQD:fM:=⟨17,2,[.t 4],cQD⟩
def aeU:List O:=[AD 3 0,Cc 4 false]
def aeT:List O:=[ko 5 2 3,fw 6 5,fw 7 1,tl 8 nQC 6 7,aD 9 8,gt 10 9<|.vL 2 (.t 3),zg 11 9 10,zg 12 9 2,gt 13 9<|.call nQC [.t 11,.t 12],DJ 14 9 13,aD 4 14]
def cQE:C:=(aY aeU [1,2,3] (aY aeT [4] .ret))
def qQE:fM:=⟨15,1,[.t 4],cQE⟩
def Ez:List O:=[fS 4 0]
def Ey:List O:=[aD 6 0,jN 7 6,fS 8 0]
def Ew:List O:=[nJ 9 8 7]
def Eu:List O:=[aD 10 8,aD 5 10]
def Er:List O:=[aD 12 5,aD 13 1,jN 14 13,oo 15<|.bin .geq (.t 12) (.t 14),aD 16 15,p8 17 16 0,p8 18 16 5,gf 19 16<|.ti 1 (.t 17) (.t 18),uV 20 16 19,p8 21 16 1,p8 22 16 5,gf 23 16<|.ti 1 (.t 21) (.t 22),uV 24 16 23,gf 25 16<|.bin .gtr (.t 20) (.t 24),Fv 26 16 25,aD 11 26]
def Ep:List O:=[fS 4 1]
def Eo:List O:=[aD 28 0,aD 29 5,jO 30 1 28 29,fw 31 30,aD 32 1,aD 33 5,jO 34 1 32 33,fw 35 34,nJ 36 31 35,aD 27 36]
def En:List O:=[oo 4<|.mv (.k (.int .i64 (-1)))]
def Em:List O:=[nk 37 8 1,aD 8 37]
def Mc:C:=(aY Ew [0,1,7,8,9] (.seq (mR 9 0) (.seq (.aH 1 (aY Eu [0,1,5,7,8] (.aH 2 (.seq (.qT Er true [(3,3),(4,4),(13,13),(14,14),(15,15),(8,9),(8,10),(8,11),(5,12),(6,12),(7,12),(8,12)] [0,1,5,7,8,11]) (.cond (.t 11) (aY Ep [4] .ret) (.seq (.qT Eo true [(8,8),(9,9),(3,4),(3,5),(3,6),(0,7),(1,7),(2,7),(3,7)] [0,1,7,8,27]) (.cond (.t 27) (aY En [4] .ret) .skip))))))) (gW Em [0,1,7,8]))))
def El:List O:=[aD 38 0,jN 39 38,aD 40 1,jN 41 40,nJ 42 39 41]
def xe:List O:=[oo 4<|.mv (.k (.int .i64 (-1)))]
def xd:List O:=[fS 4 0]
def cQF:C:=(aY Ez [0,1] (.seq (aY Ey [0,1,7,8] (.aH 0 (.loop Mc))) (.seq (aY El [42] (.cond (.t 42) (aY xe [4] .ret) .skip)) (aY xd [4] .ret))))
def qQF:fM:=⟨43,2,[.t 4],cQF⟩
def TI:List O:=[mQ 4 1]
def TH:List O:=[mQ 5 1]
def TG:List O:=[aD 8 0,jN 9 8,fS 10 0]
def TF:List O:=[nJ 11 10 9]
def TE:List O:=[aD 12 10,jO 13 3 8 10,tG 14 3 13,oo 7<|.new [.int .i64 0,.int .i64 0,.own 1 []],aD 6 12,uW 3 7 14]
def TD:List O:=[aD 15 1,oo 16<|.Sy (.func nQX) [] [.t 7],tl 17 nQW 15 16,oo 18<|.un .not (.t 17)]
def TC:List O:=[aD 19 5,aD 20 6,oo 21<|.dw 1 1 [.int .i64 0] [(0,1,.t 20)],GH 22 1 19 21,aD 5 22]
def TB:List O:=[nk 23 10 1,aD 10 23]
def PO:C:=(aY TF [1,5,8,9,10,11] (.seq (mR 11 0) (.seq (.aH 1 (aY TE [1,5,6,7,8,9,10] (aY TD [1,5,6,8,9,10,18] (.cond (.t 18) (gW TC [1,5,8,9,10]) .skip)))) (gW TB [1,5,8,9,10]))))
def TA:List O:=[aD 24 5,aD 4 24]
def cQG:C:=(aY TI [0,1] (aY TH [0,1,5] (.seq (aY TG [1,5,8,9,10] (.aH 0 (.loop PO))) (aY TA [4] .ret))))
def qQG:fM:=⟨25,2,[.t 4],cQG⟩
def Ek:List O:=[mQ 4 1]
def Ej:List O:=[mQ 5 1]
def Ei:List O:=[aD 11 0,jN 12 11,fS 13 0]
def Eh:List O:=[nJ 14 13 12]
def Eg:List O:=[aD 15 13,jO 16 3 11 13,tG 17 3 16,oo 7<|.new [.int .i64 0,.int .i64 0,.own 1 []],aD 6 15,uW 3 7 17]
def Ef:List O:=[Cc 8 false]
def Ee:List O:=[aD 18 1,jN 19 18,fS 20 0]
def Ec:List O:=[nJ 21 20 19]
def Eb:List O:=[jO 22 3 18 20,tG 23 3 22,oo 10<|.new [.int .i64 0,.int .i64 0,.own 1 []],uW 3 10 23]
def Ea:List O:=[aD 24 8,aD 25 24,BF 26 25 0 7,uV 27 25 26,BF 28 25 0 10,uV 29 25 28,gf 30 25<|.bin .eql (.t 27) (.t 29),p8 31 25 30,gt 32 31<|.vL 2 (.t 7),zg 33 31 32,gt 34 31<|.vL 2 (.t 10),zg 35 31 34,gt 36 31<|.call Xy [.t 33,.t 35],gf 37 25<|.pick (.t 31) (.t 36) (.k (.bool false)),Fv 38 25 37,aD 8 38]
def xc:List O:=[nk 39 20 1,aD 20 39]
def US:C:=(aY Ec [1,5,6,7,8,11,12,13,18,19,20,21] (.seq (mR 21 2) (.seq (.aH 3 (aY Eb [1,5,6,7,8,10,11,12,13,18,19,20] (gW Ea [1,5,6,7,8,11,12,13,18,19,20]))) (gW xc [1,5,6,7,8,11,12,13,18,19,20]))))
def xb:List O:=[aD 40 8,oo 41<|.un .not (.t 40)]
def w9:List O:=[aD 42 5,aD 43 6,oo 44<|.dw 1 1 [.int .i64 0] [(0,1,.t 43)],GH 45 1 42 44,aD 5 45]
def w8:List O:=[nk 46 13 1,aD 13 46]
def PN:C:=(aY Eh [1,5,11,12,13,14] (.seq (mR 14 0) (.seq (.aH 1 (aY Eg [1,5,6,7,11,12,13] (aY Ef [1,5,6,7,8,11,12,13] (.seq (aY Ee [1,5,6,7,8,11,12,13,18,19,20] (.aH 2 (.loop US))) (aY xb [1,5,6,11,12,13,41] (.cond (.t 41) (gW w9 [1,5,11,12,13]) .skip)))))) (gW w8 [1,5,11,12,13]))))
def w7:List O:=[aD 47 5,aD 4 47]
def cQH:C:=(aY Ek [0,1] (aY Ej [0,1,5] (.seq (aY Ei [1,5,11,12,13] (.aH 0 (.loop PN))) (aY w7 [4] .ret))))
def qQH:fM:=⟨48,2,[.t 4],cQH⟩
def akq:List O:=[AD 1 0,mQ 2 1,fS 3 0]
def akp:List O:=[tG 7 2 1,oT 8 nQZ 7,aD 4 8]
def ako:List O:=[aD 9 4,bzY 10 9 0]
def akn:List O:=[aD 11 4,mQ 2 1,aD 3 11]
def akm:List O:=[tG 13 2 1,oT 14 nQ0 13,aD 12 14,Fw 15 0 12,Fw 16 1 12,aD 5 15,aD 6 16]
def akl:List O:=[aD 17 6,aD 2 17,fS 3 0]
def cQI:C:=(aY akq [1] (.seq (aY akp [1,4] (aY ako [1,4,10] (.cond (.t 10) (aY akn [2,3] .ret) .skip))) (aY akm [6] (aY akl [2,3] .ret))))
def qQI:fM:=⟨18,1,[.t 2,.t 3],cQI⟩
def rf:List O:=[mQ 4 3]
def rb:List O:=[oo 15<|.Ga,aD 5 15]
def q9:List O:=[mQ 6 3]
def q8:List O:=[aD 16 0,nk 17 16 1,fS 18 0]
def q7:List O:=[nJ 19 18 17]
def q6:List O:=[aD 20 18,aD 7 20]
def qZ:List O:=[aD 21 1,aD 22 7,oo 23<|.jM (.t 21) [.t 22],jN 24 23,fS 25 0]
def qY:List O:=[nJ 26 25 24]
def qX:List O:=[jO 27 1 23 25,fw 28 27,aD 9 28]
def qW:List O:=[aD 30 5,aD 31 9,oT 32 nQ1 31,oo 33<|.BP .Du true (.int .i64 0) (.t 30) (.t 32),aD 29 33,Fw 34 0 29,Fw 35 1 29,aD 10 34,aD 11 35]
def lC:List O:=[aD 36 11,oo 37<|.un .not (.t 36)]
def lx:List O:=[aD 38 6,aD 39 9,oo 40<|.build [.int .i64 0,.int .i64 0,.own 1 []] [(1,1,.k (.int .i64 (-1))),(2,1,.t 39)],oo 41<|.dw 3 1 [.int .i64 0,.int .i64 0,.own 1 []] [(0,3,.t 40)],GH 42 3 38 41,aD 6 42]
def lr:List O:=[aD 43 5,aD 44 9,oT 45 nQ1 44,aD 46 7,oz<|.Df .Du (.t 43) (.t 45) (.t 46)]
def lk:List O:=[nk 47 25 1,aD 25 47]
def Mb:C:=(aY qY [1,5,6,7,17,18,23,24,25,26] (.seq (mR 26 2) (.seq (.aH 3 (aY qX [1,5,6,7,9,17,18,23,24,25] (.seq (aY qW [1,5,6,7,9,11,17,18,23,24,25] (aY lC [1,5,6,7,9,17,18,23,24,25,37] (.cond (.t 37) (gW lx [1,5,6,7,9,17,18,23,24,25]) .skip))) (gW lr [1,5,6,7,17,18,23,24,25])))) (gW lk [1,5,6,7,17,18,23,24,25]))))
def lj:List O:=[nk 48 18 1,aD 18 48]
def PM:C:=(aY q7 [1,5,6,17,18,19] (.seq (mR 19 0) (.seq (.aH 1 (aY q6 [1,5,6,7,17,18] (aY qZ [1,5,6,7,17,18,23,24,25] (.aH 2 (.loop Mb))))) (gW lj [1,5,6,17,18]))))
def lg:List O:=[aD 49 6,jN 50 49,fS 51 0]
def k9:List O:=[nJ 52 51 50]
def k8:List O:=[aD 53 51,aD 12 53]
def k7:List O:=[aD 54 6,aD 55 12,aD 56 5,aD 57 6,aD 58 12,jO 59 3 57 58,ko 60 2 59,fw 61 60,oT 62 nQ1 61,oo 63<|.BP .Du false (.int .i64 0) (.t 56) (.t 62),jO 64 3 54 55,ko 65 0 64,uW 1 65 63]
def kZ:List O:=[nk 66 51 1,aD 51 66]
def UR:C:=(aY k9 [5,6,50,51,52] (.seq (mR 52 4) (.seq (.aH 5 (aY k8 [5,6,12,50,51] (gW k7 [5,6,50,51]))) (gW kZ [5,6,50,51]))))
def kY:List O:=[aD 67 6,oo 68<|.call nQ2 [.t 67,.k (.func (.func nQ3) [] [])]]
def kX:List O:=[aD 69 6,jN 70 69,fS 71 0]
def kW:List O:=[nJ 72 71 70]
def kV:List O:=[aD 73 71,aD 13 73]
def kU:List O:=[aD 74 13,fS 75 0]
def kT:List O:=[nJ 76 75 74]
def kS:List O:=[aD 77 75,aD 14 77]
def kR:List O:=[aD 78 6,aD 79 14,jO 80 3 78 79,ko 81 2 80,fw 82 81,jN 83 82,aD 84 6,aD 85 13,jO 86 3 84 85,ko 87 2 86,fw 88 87,jN 89 88,oo 90<|.bin .gtr (.t 83) (.t 89),aD 91 90,tF 92 91 6,tF 93 91 13,gt 94 91<|.ti 3 (.t 92) (.t 93),gt 95 91<|.vL 2 (.t 94),zg 96 91 95,tF 97 91 6,tF 98 91 14,gt 99 91<|.ti 3 (.t 97) (.t 98),gt 100 91<|.vL 2 (.t 99),zg 101 91 100,gt 102 91<|.call nQ7 [.t 96,.t 101],DJ 103 91 102,aD 104 103,tF 105 104 6,tF 106 104 13,gt 107 104<|.ti 3 (.t 105) (.t 106),gt 108 104<|.vL 1 (.t 107),zg 109 104 108,gt 110 104<|.bin .lss (.t 109) (ki 0),tF 111 104 110,p8 112 111 6,p8 113 111 14,gf 114 111<|.ti 3 (.t 112) (.t 113),BF 115 111 2 114,uV 116 111 115,gf 117 111<|.len (.t 116),p8 118 111 6,p8 119 111 6,p8 120 111 13,gf 121 111<|.ti 3 (.t 119) (.t 120),BF 122 111 1 121,uV 123 111 122,gf 124 111<|.ti 3 (.t 118) (.t 123),BF 125 111 2 124,uV 126 111 125,gf 127 111<|.len (.t 126),gf 128 111<|.bin .lss (.t 117) (.t 127),gt 129 104<|.pick (.t 111) (.k (.bool true)) (.t 128),DJ 130 104 129]
def kQ:List O:=[aD 131 6,aD 132 13,aD 133 14,jO 134 3 131 132,ko 135 1 134,uW 1 135 133]
def kP:List O:=[nk 136 75 1,aD 75 136]
def vk:C:=(aY kT [6,13,70,71,74,75,76] (.seq (mR 76 8) (.seq (.aH 9 (aY kS [6,13,14,70,71,74,75] (.seq (.qT kR true [(12,12),(13,13),(24,24),(25,25),(26,26),(29,29),(30,30),(31,31),(32,32),(33,33),(50,50),(51,51),(52,52),(4,6),(4,7),(4,8),(4,9),(0,10),(1,10),(2,10),(3,10),(4,10),(5,10),(4,11),(18,19),(18,20),(18,21),(18,22),(14,23),(15,23),(16,23),(17,23),(18,23),(38,40),(38,41),(38,42),(38,43),(38,44),(34,45),(35,45),(36,45),(37,45),(38,45),(39,45),(40,45),(38,46),(38,47),(34,48),(35,48),(36,48),(37,48),(38,48),(39,48),(38,49)] [6,13,14,70,71,74,75,130]) (.cond (.t 130) (gW kQ [6,13,70,71,74,75]) .skip)))) (gW kP [6,13,70,71,74,75]))))
def kO:List O:=[nk 137 71 1,aD 71 137]
def UQ:C:=(aY kW [6,70,71,72] (.seq (mR 72 6) (.seq (.aH 7 (aY kV [6,13,70,71] (aY kU [6,13,70,71,74,75] (.aH 8 (.loop vk))))) (gW kO [6,70,71]))))
def kN:List O:=[aD 138 6,aD 4 138]
def cQJ:C:=(aY rf [0,1] (aY rb [0,1,5] (aY q9 [0,1,5,6] (.seq (aY q8 [1,5,6,17,18] (.aH 0 (.loop PM))) (.seq (aY lg [5,6,50,51] (.aH 4 (.loop UR))) (aY kY [6] (.seq (aY kX [6,70,71] (.aH 6 (.loop UQ))) (aY kN [4] .ret))))))))
def qQJ:fM:=⟨139,2,[.t 4],cQJ⟩
def aar:List O:=[fS 2 0]
def aaq:List O:=[aD 5 0,jN 6 5,SI 7 6 1]
def aap:List O:=[oo 8<|.bad,oz<|.bad]
def aao:List O:=[aD 9 0,oo 10<|.ti 1 (.t 9) (ki 0),fw 11 10,aD 3 11]
def aan:List O:=[fS 4 1]
def aam:List O:=[aD 12 4,aD 13 0,jN 14 13,nJ 15 12 14]
def aal:List O:=[aD 18 3,aD 19 0,aD 20 4,jO 21 1 19 20,fw 22 21,oo 23<|.max [.t 18,.t 22],aD 3 23]
def aak:List O:=[aD 16 4,nk 17 16 1,aD 4 17]
def abM:C:=(.seq (aY aam [0,3,4,15] (mR 15 0)) (.seq (.aH 1 (gW aal [0,3,4])) (gW aak [0,3,4])))
def aaj:List O:=[aD 24 3,aD 2 24]
def cQK:C:=(aY aar [0] (.seq (aY aaq [0,7] (.cond (.t 7) (gW aap [0]) .skip)) (aY aao [0,3] (.seq (aY aan [0,3,4] (.aH 0 (.loop abM))) (aY aaj [2] .ret)))))
def qQK:fM:=⟨25,1,[.t 2],cQK⟩
def aai:List O:=[mQ 4 1]
def aah:List O:=[oo 5<|.mv (.k (.int .u64 0))]
def aag:List O:=[fw 8 1,jN 9 8,fS 10 0]
def aaf:List O:=[nJ 11 10 9]
def aae:List O:=[aD 12 10,jO 13 1 8 10,fw 14 13,aD 6 12,aD 7 14]
def aad:List O:=[aD 15 7,aD 16 0,oo 17<|.bin .geq (.t 15) (.t 16)]
def aac:List O:=[aD 18 5,aD 19 6,oT 20 nQM 19,oo 21<|.bin .or (.t 18) (.t 20),aD 5 21]
def aab:List O:=[nk 22 10 1,aD 10 22]
def abL:C:=(aY aaf [0,2,5,8,9,10,11] (.seq (mR 11 0) (.seq (.aH 1 (aY aae [0,2,5,6,7,8,9,10] (aY aad [0,2,5,6,8,9,10,17] (.cond (.t 17) (gW aac [0,2,5,8,9,10]) .skip)))) (gW aab [0,2,5,8,9,10]))))
def aaa:List O:=[tG 23 2 2,aD 24 5,tl 25 nQN 23 24,aD 4 25]
def cQL:C:=(aY aai [0,1,2] (aY aah [0,1,2,5] (.seq (aY aag [0,2,5,8,9,10] (.aH 0 (.loop abL))) (aY aaa [4] .ret))))
def qQL:fM:=⟨26,1,[.t 4],cQL⟩
def anw:List O:=[oo 2<|.mv (.k (.int .u64 0))]
def anv:List O:=[aD 3 0,SI 4 3 0,aD 5 4,p8 6 5 0,gf 7 5<|.bin .geq (.t 6) (ki 64),Fv 8 5 7]
def anu:List O:=[oo 2<|.mv (.k (.int .u64 0))]
def ant:List O:=[aD 9 0,oo 10<|.bin .shl (.k (.int .u64 1)) (.t 9),aD 2 10]
def cQM:C:=(aY anw [0] (.seq (aY anv [0,8] (.cond (.t 8) (aY anu [2] .ret) .skip)) (aY ant [2] .ret)))
def qQM:fM:=⟨11,1,[.t 2],cQM⟩
def Z9:List O:=[AD 2 0,mQ 4 1]
def Z8:List O:=[tG 9 2 2,oT 10 nQ8 9,aD 5 10]
def Z7:List O:=[mQ 6 1]
def Z6:List O:=[aD 11 1,aD 7 11]
def Z5:List O:=[aD 12 7,oo 13<|.bin .neq (.t 12) (.k (.int .u64 0))]
def Z4:List O:=[aD 14 5,aD 15 7,aD 16 7,oo 17<|.un .neg (.t 16),oo 18<|.bin .and (.t 15) (.t 17),aD 19 1,oo 20<|.call nQ9 [.t 14,.t 18,.t 19],aD 8 20]
def Z3:List O:=[aD 21 6,aD 22 8,oT 23 Ud 22,oo 24<|.dw 1 1 [.own 1 []] [(0,1,.t 23)],GH 25 1 21 24,aD 6 25]
def ZZ:List O:=[aD 26 7,aD 27 8,oo 28<|.bin .andNot (.t 26) (.t 27),aD 7 28]
def UP:C:=(.seq (aY Z5 [1,5,6,7,13] (mR 13 0)) (.aH 1 (aY Z4 [1,5,6,7,8] (aY Z3 [1,5,6,7,8] (gW ZZ [1,5,6,7])))))
def ZY:List O:=[aD 29 6,aD 4 29]
def cQN:C:=(aY Z9 [1,2] (aY Z8 [1,5] (aY Z7 [1,5,6] (.seq (aY Z6 [1,5,6,7] (.aH 0 (.loop UP))) (aY ZY [4] .ret)))))
def qQN:fM:=⟨30,2,[.t 4],cQN⟩
def K0:List O:=[AD 1 0,mQ 2 1,fS 3 0]
def KZ:List O:=[tG 9 2 1,oT 10 nQP 9,aD 4 10]
def KY:List O:=[aD 11 4,bzY 12 11 0]
def KX:List O:=[aD 13 4,mQ 2 1,aD 3 13]
def KW:List O:=[ko 14 0 1,fw 15 14,oo 16<|.Rr 1 [.int .i64 0] (.t 15) (.t 15),aD 5 16]
def KV:List O:=[fS 6 1]
def KU:List O:=[aD 17 6,ko 18 0 1,fw 19 18,nJ 20 17 19]
def KT:List O:=[tG 23 2 1,aD 24 6,tl 25 nQQ 23 24,jN 26 25,fS 27 0]
def KS:List O:=[nJ 28 27 26]
def KR:List O:=[jO 29 1 25 27,fw 30 29,aD 8 30]
def C4:List O:=[aD 31 5,aD 32 8,aD 33 6,jO 34 1 31 32,uW 1 34 33]
def C3:List O:=[nk 35 27 1,aD 27 35]
def abK:C:=(aY KS [1,5,6,25,26,27,28] (.seq (mR 28 2) (.seq (.aH 3 (aY KR [1,5,6,8,25,26,27] (gW C4 [1,5,6,25,26,27]))) (gW C3 [1,5,6,25,26,27]))))
def C0:List O:=[aD 21 6,nk 22 21 1,aD 6 22]
def PL:C:=(.seq (aY KU [1,5,6,20] (mR 20 0)) (.seq (.aH 1 (aY KT [1,5,6,25,26,27] (.aH 2 (.loop abK)))) (gW C0 [1,5,6])))
def CZ:List O:=[aD 36 5,aD 2 36,fS 3 0]
def cQO:C:=(aY K0 [1] (.seq (aY KZ [1,4] (aY KY [1,4,12] (.cond (.t 12) (aY KX [2,3] .ret) .skip))) (aY KW [1,5] (.seq (aY KV [1,5,6] (.aH 0 (.loop PL))) (aY CZ [2,3] .ret)))))
def qQO:fM:=⟨37,1,[.t 2,.t 3],cQO⟩
def yt:List O:=[AD 1 0,fS 2 0]
def yq:List O:=[ko 5 0 1,fw 6 5,SI 7 6 0,aD 8 7,BF 9 8 0 1,uV 10 8 9,gf 11 8<|.bin .gtr (.t 10) (ki 64),Fv 12 8 11]
def yp:List O:=[fS 2 1]
def yn:List O:=[ko 13 1 1,fw 14 13,jN 15 14,fS 16 0]
def ym:List O:=[nJ 17 16 15]
def yl:List O:=[aD 18 16,jO 19 2 14 16,tG 20 2 19,oo 4<|.new [.int .i64 0,.int .i64 0],aD 3 18,uW 2 4 20]
def yk:List O:=[ko 21 0 4,fw 22 21,SI 23 22 0,aD 24 23,BF 25 24 0 4,uV 26 24 25,BF 27 24 1 4,uV 28 24 27,gf 29 24<|.bin .geq (.t 26) (.t 28),Fv 30 24 29,aD 31 30,BF 32 31 1 4,uV 33 31 32,BF 34 31 0 1,uV 35 31 34,gf 36 31<|.bin .geq (.t 33) (.t 35),Fv 37 31 36]
def yj:List O:=[fS 2 6]
def yh:List O:=[aD 38 3,oo 39<|.bin .gtr (.t 38) (ki 0),aD 40 39,gt 41 40<|.vL 1 (.t 1),zg 42 40 41,tF 43 40 3,gt 44 40<|.bin .sub (.t 43) (ki 1),gt 45 40<|.ti 2 (.t 42) (.t 44),gt 46 40<|.ld (some 2) (.t 45),gt 47 40<|.ld (some 2) (.t 4),gt 48 40<|.call XI [.t 46,.t 47],gt 49 40<|.un .not (.t 48),DJ 50 40 49]
def yg:List O:=[fS 2 5]
def rT:List O:=[nk 51 16 1,aD 16 51]
def E7:C:=(aY ym [1,14,15,16,17] (.seq (mR 17 0) (.seq (.aH 1 (aY yl [1,3,4,14,15,16] (.seq (aY yk [1,3,4,14,15,16,37] (.cond (.t 37) (aY yj [2] .ret) .skip)) (.seq (.qT yh true [(0,0),(1,1),(2,2),(10,10),(11,11),(12,12),(4,5),(4,6),(3,9),(4,9),(5,9),(6,9),(7,9),(8,9)] [1,14,15,16,50]) (.cond (.t 50) (aY yg [2] .ret) .skip))))) (gW rT [1,14,15,16]))))
def rS:List O:=[fS 2 0]
def cQP:C:=(aY yt [1] (.seq (aY yq [1,12] (.cond (.t 12) (aY yp [2] .ret) .skip)) (.seq (aY yn [1,14,15,16] (.aH 0 (.loop E7))) (aY rS [2] .ret))))
def qQP:fM:=⟨52,1,[.t 2],cQP⟩
def HR:List O:=[AD 2 0,mQ 4 1]
def HQ:List O:=[ko 9 0 2,fw 10 9,oT 11 nQR 10,aD 5 11]
def HP:List O:=[Cc 6 true]
def HO:List O:=[aD 12 6]
def HN:List O:=[Cc 6 false]
def HM:List O:=[aD 13 5,jN 14 13,fS 15 0]
def HK:List O:=[nJ 16 15 14]
def HJ:List O:=[jO 17 1 13 15,fw 18 17,aD 8 18]
def HI:List O:=[tG 19 2 2,aD 20 8,tl 21 Ub 19 20,aD 22 5,tl 23 Uc 21 22,jN 24 23,aD 25 1,nJ 26 24 25]
def HH:List O:=[aD 27 5,aD 28 8,oo 29<|.dw 1 1 [.int .i64 0] [(0,1,.t 28)],tl 30 nQT 27 29,aD 5 30,Cc 6 true]
def zT:List O:=[nk 31 15 1,aD 15 31]
def UO:C:=(aY HK [1,2,5,6,13,14,15,16] (.seq (mR 16 2) (.seq (.aH 3 (aY HJ [1,2,5,6,8,13,14,15] (aY HI [1,2,5,6,8,13,14,15,26] (.cond (.t 26) (gW HH [1,2,5,6,13,14,15]) .skip)))) (gW zT [1,2,5,6,13,14,15]))))
def PK:C:=(.seq (aY HO [1,2,5,12] (mR 12 0)) (.aH 1 (aY HN [1,2,5,6] (aY HM [1,2,5,6,13,14,15] (.aH 2 (.loop UO))))))
def zS:List O:=[aD 32 5,aD 4 32]
def cQQ:C:=(aY HR [1,2] (aY HQ [1,2,5] (.seq (aY HP [1,2,5,6] (.aH 0 (.loop PK))) (aY zS [4] .ret))))
def qQQ:fM:=⟨33,2,[.t 4],cQQ⟩
def Tz:List O:=[mQ 2 1]
def Ty:List O:=[mQ 3 1]
def Tx:List O:=[fS 4 0]
def Tw:List O:=[aD 5 4,aD 6 0,nJ 7 5 6,aD 8 7,tF 9 8 4,gt 10 8<|.bin .lss (.t 9) (ki 64),DJ 11 8 10]
def Tv:List O:=[aD 14 3,aD 15 4,oo 16<|.dw 1 1 [.int .i64 0] [(0,1,.t 15)],GH 17 1 14 16,aD 3 17]
def Tu:List O:=[aD 12 4,nk 13 12 1,aD 4 13]
def UN:C:=(.seq (aY Tw [0,3,4,11] (mR 11 0)) (.seq (.aH 1 (gW Tv [0,3,4])) (gW Tu [0,3,4])))
def Tt:List O:=[aD 18 3,aD 2 18]
def cQR:C:=(aY Tz [0] (aY Ty [0,3] (.seq (aY Tx [0,3,4] (.aH 0 (.loop UN))) (aY Tt [2] .ret))))
def qQR:fM:=⟨19,1,[.t 2],cQR⟩
def HG:List O:=[AD 3 0,mQ 6 1]
def HF:List O:=[aD 11 1,aD 12 2,tl 13 Uc 11 12,aD 7 13]
def HE:List O:=[fS 8 0]
def HD:List O:=[aD 14 8,aD 15 7,jN 16 15,nJ 17 14 16]
def HB:List O:=[tG 20 2 3,aD 21 7,aD 22 8,jO 23 1 21 22,fw 24 23,tl 25 Ub 20 24,jN 26 25,fS 27 0]
def HA:List O:=[nJ 28 27 26]
def Hz:List O:=[jO 29 1 25 27,fw 30 29,aD 10 30]
def Hy:List O:=[aD 31 2,aD 32 10,tl 33 Wp 31 32,aD 34 33,tF 35 34 7,tF 36 34 10,gt 37 34<|.call Wp [.t 35,.t 36],gt 38 34<|.un .not (.t 37),DJ 39 34 38]
def Hw:List O:=[aD 40 7,aD 41 10,oo 42<|.dw 1 1 [.int .i64 0] [(0,1,.t 41)],GH 43 1 40 42,aD 7 43]
def Hv:List O:=[nk 44 27 1,aD 27 44]
def Ma:C:=(aY HA [2,3,7,8,25,26,27,28] (.seq (mR 28 2) (.seq (.aH 3 (aY Hz [2,3,7,8,10,25,26,27] (aY Hy [2,3,7,8,10,25,26,27,39] (.cond (.t 39) (gW Hw [2,3,7,8,25,26,27]) .skip)))) (gW Hv [2,3,7,8,25,26,27]))))
def zR:List O:=[aD 18 8,nk 19 18 1,aD 8 19]
def UM:C:=(.seq (aY HD [2,3,7,8,17] (mR 17 0)) (.seq (.aH 1 (.seq (.qT HB true [(0,1),(0,2),(0,3),(0,4),(0,7),(4,7),(5,7)] [2,3,7,8,25,26,27]) (.aH 2 (.loop Ma)))) (gW zR [2,3,7,8])))
def zQ:List O:=[aD 45 7,oT 46 NQ 45,aD 6 46]
def cQS:C:=(aY HG [1,2,3] (aY HF [2,3,7] (.seq (aY HE [2,3,7,8] (.aH 0 (.loop UM))) (aY zQ [6] .ret))))
def qQS:fM:=⟨47,3,[.t 6],cQS⟩
def Ts:List O:=[mQ 4 1]
def Tr:List O:=[mQ 5 1]
def Tq:List O:=[aD 8 0,oT 9 NQ 8,jN 10 9,fS 11 0]
def Tp:List O:=[nJ 12 11 10]
def To:List O:=[jO 13 1 9 11,fw 14 13,aD 7 14]
def Tn:List O:=[aD 15 1,aD 16 7,tl 17 Wp 15 16,oo 18<|.un .not (.t 17)]
def Tm:List O:=[aD 19 5,aD 20 7,oo 21<|.dw 1 1 [.int .i64 0] [(0,1,.t 20)],GH 22 1 19 21,aD 5 22]
def Tl:List O:=[nk 23 11 1,aD 11 23]
def UL:C:=(aY Tp [1,5,9,10,11,12] (.seq (mR 12 0) (.seq (.aH 1 (aY To [1,5,7,9,10,11] (aY Tn [1,5,7,9,10,11,18] (.cond (.t 18) (gW Tm [1,5,9,10,11]) .skip)))) (gW Tl [1,5,9,10,11]))))
def Tk:List O:=[aD 24 5,aD 4 24]
def cQT:C:=(aY Ts [0,1] (aY Tr [0,1,5] (.seq (aY Tq [1,5,9,10,11] (.aH 0 (.loop UL))) (aY Tk [4] .ret))))
def qQT:fM:=⟨25,2,[.t 4],cQT⟩
def ZX:List O:=[AD 2 0,AD 3 1,Cc 4 false]
def ZW:List O:=[ko 5 0 2,fw 6 5,ko 7 0 3,fw 8 7,nJ 9 6 8,aD 10 9,BF 11 10 0 2,uV 12 10 11,BF 13 10 0 3,uV 14 10 13,gf 15 10<|.bin .eql (.t 12) (.t 14),p8 16 10 15,gt 17 16<|.vL 2 (.t 2),zg 18 16 17,gt 19 16<|.vL 2 (.t 3),zg 20 16 19,gt 21 16<|.call nQF [.t 18,.t 20],gt 22 16<|.bin .lss (.t 21) (ki 0),gf 23 10<|.pick (.t 16) (.t 22) (.k (.bool false)),Fv 24 10 23,aD 4 24]
def cQU:C:=(aY ZX [2,3] (aY ZW [4] .ret))
def qQU:fM:=⟨25,2,[.t 4],cQU⟩
def aeS:List O:=[Cc 4 false]
def aeR:List O:=[aD 5 0,aD 6 1,tl 7 XH 5 6,oo 8<|.bin .geq (.t 7) (ki 0),aD 4 8]
def cQV:C:=(aY aeS [0,1] (aY aeR [4] .ret))
def qQV:fM:=⟨9,2,[.t 4],cQV⟩
def aeQ:List O:=[Cc 4 false]
def aeP:List O:=[aD 5 0,aD 6 1,tl 7 XG 5 6,oo 8<|.bin .geq (.t 7) (ki 0),aD 4 8]
def cQW:C:=(aY aeQ [0,1] (aY aeP [4] .ret))
def qQW:fM:=⟨9,2,[.t 4],cQW⟩
def akk:List O:=[AD 2 0,Cc 3 false]
def akj:List O:=[tG 4 3 1,tG 5 3 2,tl 6 nQY 4 5,aD 3 6]
def cQX:C:=(aY akk [1,2] (aY akj [3] .ret))
def qQX:fM:=⟨7,1,[.t 3],cQX⟩
def aeO:List O:=[AD 2 0,AD 3 1,Cc 4 false]
def aeN:List O:=[ko 5 0 2,fw 6 5,ko 7 0 3,fw 8 7,oo 9<|.bin .eql (.t 6) (.t 8),aD 10 9,gt 11 10<|.vL 2 (.t 2),zg 12 10 11,gt 13 10<|.vL 2 (.t 3),zg 14 10 13,gt 15 10<|.call XF [.t 12,.t 14],DJ 16 10 15,aD 4 16]
def cQY:C:=(aY aeO [2,3] (aY aeN [4] .ret))
def qQY:fM:=⟨17,2,[.t 4],cQY⟩
def yf:List O:=[AD 1 0,fS 2 0]
def ye:List O:=[ko 5 0 1,fw 6 5,SI 7 6 0,aD 8 7,BF 9 8 0 1,uV 10 8 9,gf 11 8<|.bin .gtr (.t 10) (ki 64),Fv 12 8 11]
def yd:List O:=[fS 2 1]
def yc:List O:=[ko 13 1 1,fw 14 13,jN 15 14,fS 16 0]
def yb:List O:=[nJ 17 16 15]
def ya:List O:=[aD 18 16,jO 19 2 14 16,tG 20 2 19,oo 4<|.new [.int .i64 0,.int .i64 0],aD 3 18,uW 2 4 20]
def xZ:List O:=[ko 22 0 4,fw 23 22,SI 24 23 0,aD 25 24,BF 26 25 0 4,uV 27 25 26,BF 28 25 1 4,uV 29 25 28,gf 30 25<|.bin .geq (.t 27) (.t 29),Fv 31 25 30,aD 32 31,BF 33 32 1 4,uV 34 32 33,BF 35 32 0 1,uV 36 32 35,gf 37 32<|.bin .geq (.t 34) (.t 36),Fv 38 32 37,aD 21 38]
def xY:List O:=[fS 2 6]
def xX:List O:=[aD 40 3,oo 41<|.bin .gtr (.t 40) (ki 0),aD 42 41,gt 43 42<|.vL 1 (.t 1),zg 44 42 43,tF 45 42 3,gt 46 42<|.bin .sub (.t 45) (ki 1),gt 47 42<|.ti 2 (.t 44) (.t 46),gt 48 42<|.ld (some 2) (.t 47),gt 49 42<|.ld (some 2) (.t 4),gt 50 42<|.call XE [.t 48,.t 49],gt 51 42<|.bin .geq (.t 50) (ki 0),DJ 52 42 51,aD 39 52]
def xW:List O:=[fS 2 5]
def rR:List O:=[nk 53 16 1,aD 16 53]
def E6:C:=(aY yb [1,14,15,16,17] (.seq (mR 17 0) (.seq (.aH 1 (aY ya [1,3,4,14,15,16] (.aH 2 (aY xZ [1,3,4,14,15,16,21] (.cond (.t 21) (aY xY [2] .ret) (.seq (.qT xX true [(0,0),(1,1),(2,2),(10,10),(11,11),(12,12),(13,13),(4,5),(4,6),(3,9),(4,9),(5,9),(6,9),(7,9),(8,9)] [1,14,15,16,39]) (.cond (.t 39) (aY xW [2] .ret) .skip))))))) (gW rR [1,14,15,16]))))
def rQ:List O:=[fS 2 0]
def cQZ:C:=(aY yf [1] (.seq (aY ye [1,12] (.cond (.t 12) (aY yd [2] .ret) .skip)) (.seq (aY yc [1,14,15,16] (.aH 0 (.loop E6))) (aY rQ [2] .ret))))
def qQZ:fM:=⟨54,1,[.t 2],cQZ⟩
def yE:List O:=[AD 1 0,mQ 2 1,mQ 3 1]
def yD:List O:=[tG 15 2 1,oT 16 nQ8 15,aD 4 16]
def yC:List O:=[oo 5<|.new [.int .u64 0,.int .u64 0,.int .u64 0,.int .u64 0,.int .u64 0,.int .u64 0,.int .u64 0,.int .u64 0,.int .u64 0,.int .u64 0,.int .u64 0,.int .u64 0,.int .u64 0,.int .u64 0,.int .u64 0,.int .u64 0,.int .u64 0,.int .u64 0,.int .u64 0,.int .u64 0,.int .u64 0,.int .u64 0,.int .u64 0,.int .u64 0,.int .u64 0,.int .u64 0,.int .u64 0,.int .u64 0,.int .u64 0,.int .u64 0,.int .u64 0,.int .u64 0,.int .u64 0,.int .u64 0,.int .u64 0,.int .u64 0,.int .u64 0,.int .u64 0,.int .u64 0,.int .u64 0,.int .u64 0,.int .u64 0,.int .u64 0,.int .u64 0,.int .u64 0,.int .u64 0,.int .u64 0,.int .u64 0,.int .u64 0,.int .u64 0,.int .u64 0,.int .u64 0,.int .u64 0,.int .u64 0,.int .u64 0,.int .u64 0,.int .u64 0,.int .u64 0,.int .u64 0,.int .u64 0,.int .u64 0,.int .u64 0,.int .u64 0,.int .u64 0]]
def yB:List O:=[aD 17 4,jN 18 17,oo 19<|.Rr 1 [.int .i64 0] (.t 18) (.t 18),aD 6 19]
def yA:List O:=[aD 20 4,jN 21 20,fS 22 0]
def yz:List O:=[nJ 23 22 21]
def yy:List O:=[aD 24 22,jO 25 1 20 22,fw 26 25,aD 7 24,aD 8 26]
def yx:List O:=[aD 27 6,aD 28 7,aD 29 8,oT 30 XD 29,jO 31 1 27 28,uW 1 31 30]
def yw:List O:=[aD 32 6,aD 33 7,jO 34 1 32 33,fw 35 34,oo 36<|.wC 64 1 (.t 5) (.t 35),fw 37 36,aD 38 7,oT 39 nQM 38,oo 40<|.bin .or (.t 37) (.t 39),oo 41<|.wC 64 1 (.t 5) (.t 35),uW 1 41 40]
def yu:List O:=[nk 42 22 1,aD 22 42]
def UX:C:=(aY yz [2,4,5,6,20,21,22,23] (.seq (mR 23 0) (.seq (.aH 1 (aY yy [2,4,5,6,7,8,20,21,22] (aY yx [2,4,5,6,7,20,21,22] (.qT yw true [(8,8),(9,9),(10,10),(3,6),(5,6),(0,7),(1,7),(2,7),(3,7),(4,7),(5,7)] [2,4,5,6,20,21,22])))) (gW yu [2,4,5,6,20,21,22]))))
def sJ:List O:=[aD 43 4,jN 44 43,oo 45<|.Rr 1 [.int .i64 0] (.t 44) (.t 44),aD 3 45]
def sI:List O:=[aD 46 4,jN 47 46,oT 48 Ua 47,aD 9 48]
def sG:List O:=[fS 10 0]
def sF:List O:=[aD 49 9,oo 50<|.bin .neq (.t 49) (.k (.int .u64 0))]
def sE:List O:=[fS 51 0]
def sC:List O:=[SI 52 51 64]
def sB:List O:=[aD 53 51,aD 11 53]
def sy:List O:=[aD 54 11,oo 55<|.wC 64 1 (.t 5) (.t 54),fw 56 55,oo 57<|.bin .eql (.t 56) (.k (.int .u64 0))]
def sx:List O:=[aD 58 11,oo 59<|.wC 64 1 (.t 5) (.t 58),fw 60 59,oT 61 T9 60,aD 12 61]
def ss:List O:=[aD 62 10,aD 63 11,oo 64<|.max [.t 62,.t 63],aD 10 64]
def sr:List O:=[aD 65 3,aD 66 12,aD 67 10,jO 68 1 65 66,uW 1 68 67]
def sk:List O:=[aD 69 2,aD 70 12,oo 71<|.dw 1 1 [.int .i64 0] [(0,1,.t 70)],GH 72 1 69 71,aD 2 72]
def sj:List O:=[aD 73 9,aD 74 12,oT 75 nQM 74,oo 76<|.bin .andNot (.t 73) (.t 75),aD 9 76]
def si:List O:=[aD 77 11,oo 78<|.wC 64 1 (.t 5) (.t 77),fw 79 78,aD 80 12,oT 81 nQM 80,oo 82<|.bin .andNot (.t 79) (.t 81),oo 83<|.wC 64 1 (.t 5) (.t 77),uW 1 83 82]
def sg:List O:=[aD 84 4,aD 85 12,jO 86 1 84 85,fw 87 86,aD 88 9,oo 89<|.bin .and (.t 87) (.t 88),oT 90 Ud 89,jN 91 90,fS 92 0]
def sd:List O:=[nJ 93 92 91]
def sa:List O:=[jO 94 1 90 92,fw 95 94,aD 14 95]
def rZ:List O:=[aD 96 6,aD 97 14,jO 98 1 96 97,fw 99 98,oo 100<|.wC 64 1 (.t 5) (.t 99),fw 101 100,aD 102 14,oT 103 nQM 102,oo 104<|.bin .andNot (.t 101) (.t 103),oo 105<|.wC 64 1 (.t 5) (.t 99),uW 1 105 104]
def rY:List O:=[aD 106 6,aD 107 14,jO 108 1 106 107,fw 109 108,oo 110<|.bin .sub (.t 109) (ki 1),jO 111 1 106 107,uW 1 111 110]
def rX:List O:=[aD 112 6,aD 113 14,jO 114 1 112 113,fw 115 114,oo 116<|.wC 64 1 (.t 5) (.t 115),fw 117 116,aD 118 14,oT 119 nQM 118,oo 120<|.bin .or (.t 117) (.t 119),oo 121<|.wC 64 1 (.t 5) (.t 115),uW 1 121 120]
def rW:List O:=[nk 122 92 1,aD 92 122]
def UW:C:=(aY sd [2,3,4,5,6,9,10,90,91,92,93] (.seq (mR 93 6) (.seq (.aH 7 (aY sa [2,3,4,5,6,9,10,14,90,91,92] (.seq (.qT rZ true [(8,8),(9,9),(10,10),(3,6),(5,6),(0,7),(1,7),(2,7),(3,7),(4,7),(5,7)] [2,3,4,5,6,9,10,14,90,91,92]) (aY rY [2,3,4,5,6,9,10,14,90,91,92] (.qT rX true [(8,8),(9,9),(10,10),(3,6),(5,6),(0,7),(1,7),(2,7),(3,7),(4,7),(5,7)] [2,3,4,5,6,9,10,90,91,92]))))) (gW rW [2,3,4,5,6,9,10,90,91,92]))))
def rV:List O:=[nk 123 51 1,aD 51 123]
def Me:C:=(aY sC [2,3,4,5,6,9,10,51,52] (.seq (mR 52 4) (.seq (.aH 5 (aY sB [2,3,4,5,6,9,10,11,51] (.seq (aY sy [2,3,4,5,6,9,10,11,51,57] (.cond (.t 57) (.exit 5) .skip)) (aY sx [2,3,4,5,6,9,10,11,12] (aY ss [2,3,4,5,6,9,10,11,12] (aY sr [2,3,4,5,6,9,10,11,12] (aY sk [2,3,4,5,6,9,10,11,12] (aY sj [2,3,4,5,6,9,10,11,12] (.seq (.qT si true [(5,5),(6,6),(7,7),(2,3),(0,4),(1,4),(2,4)] [2,3,4,5,6,9,10,12]) (.seq (aY sg [2,3,4,5,6,9,10,90,91,92] (.aH 6 (.loop UW))) (.exit 3))))))))))) (gW rV [2,3,4,5,6,9,10,51]))))
def HZ:C:=(.seq (aY sF [2,3,4,5,6,9,10,50] (mR 50 2)) (.aH 3 (aY sE [2,3,4,5,6,9,10,51] (.aH 4 (.loop Me)))))
def rU:List O:=[aD 124 2,aD 125 3,aD 2 124,aD 3 125]
def cQ0:C:=(aY yE [1,2] (.seq .skip (aY yD [2,4] (aY yC [2,4,5] (aY yB [2,4,5,6] (.seq (aY yA [2,4,5,6,20,21,22] (.aH 0 (.loop UX))) (aY sJ [2,3,4,5,6] (aY sI [2,3,4,5,6,9] (aY sG [2,3,4,5,6,9,10] (.seq .skip (.seq (.aH 2 (.loop HZ)) (aY rU [2,3] .ret))))))))))))
def qQ0:fM:=⟨126,1,[.t 2,.t 3],cQ0⟩
def aaT:List O:=[oo 2<|.mv (.k (.str ⟨#[]⟩))]
def aaS:List O:=[oo 3<|.mv (.k (.str ⟨#[]⟩))]
def aaR:List O:=[aD 6 0,jN 7 6,fS 8 0]
def aaQ:List O:=[nJ 9 8 7]
def aaP:List O:=[jO 10 1 6 8,fw 11 10,aD 5 11]
def aaO:List O:=[aD 12 3,aD 13 5,oT 14 T8 13,oo 15<|.bin .add (.t 14) (.k (.str ⟨#[32]⟩)),oo 16<|.bin .add (.t 12) (.t 15),aD 3 16]
def aaN:List O:=[nk 17 8 1,aD 8 17]
def abO:C:=(aY aaQ [3,6,7,8,9] (.seq (mR 9 0) (.seq (.aH 1 (aY aaP [3,5,6,7,8] (gW aaO [3,6,7,8]))) (gW aaN [3,6,7,8]))))
def aaM:List O:=[aD 18 3,aD 2 18]
def cQ1:C:=(aY aaT [0] (aY aaS [0,3] (.seq (aY aaR [3,6,7,8] (.aH 0 (.loop abO))) (aY aaM [2] .ret))))
def qQ1:fM:=⟨19,1,[.t 2],cQ1⟩
def anz:List O:=[aD 5 0,jN 6 5,aD 4 6]
def anx:List O:=[aD 7 0,aD 8 4,aD 9 4,oo 10<|.SH .u64 (.t 9),oT 11 79 10,aD 12 1,oo 13<|.call 78 [.t 7,ki 0,.t 8,.t 11,.t 12]]
def cQ2:C:=(aY anz [0,1,4] (gW anx []))
def qQ2:fM:=⟨14,2,[],cQ2⟩
def aku:List O:=[AD 2 0,AD 3 1,fS 4 0]
def akt:List O:=[ko 5 0 2,fw 6 5,ko 7 0 3,fw 8 7,tl 9 Ny 6 8,ko 10 2 2,fw 11 10,ko 12 2 3,fw 13 12,tl 14 Rq 11 13,oo 15<|.dw 1 2 [.int .i64 0] [(0,1,.t 9),(1,1,.t 14)],oT 16 Pw 15,aD 4 16]
def cQ3:C:=(aY aku [2,3] (.seq (.qT akt true [(9,9),(10,10),(11,11),(12,12),(1,2),(0,3),(1,3),(1,5),(3,5),(4,5),(0,6),(1,6),(2,6),(3,6),(4,6),(1,7),(3,7),(4,7),(6,7),(0,8),(1,8),(2,8),(3,8),(4,8),(5,8),(6,8)] [4]) .ret))
def qQ3:fM:=⟨17,2,[.t 4],cQ3⟩
def pw:List O:=[fS 2 0]
def pq:List O:=[fS 3 0]
def po:List O:=[aD 6 0,jN 7 6,fS 8 0]
def pk:List O:=[nJ 9 8 7]
def pj:List O:=[jO 10 1 6 8,fw 11 10,aD 5 11]
def ph:List O:=[aD 12 5,aD 13 3,oo 14<|.bin .neq (.t 12) (.t 13)]
def pg:List O:=[aD 15 5,aD 2 15]
def pf:List O:=[nk 16 8 1,aD 8 16]
def rj:C:=(aY pk [3,6,7,8,9] (.seq (mR 9 0) (.seq (.aH 1 (aY pj [3,5,6,7,8] (aY ph [3,5,6,7,8,14] (.cond (.t 14) (aY pg [2] .ret) .skip)))) (gW pf [3,6,7,8]))))
def pe:List O:=[aD 17 3,aD 2 17]
def cQ4:C:=(aY pw [0] (aY pq [0,3] (.seq (aY po [3,6,7,8] (.aH 0 (.loop rj))) (aY pe [2] .ret))))
def qQ4:fM:=⟨18,1,[.t 2],cQ4⟩
def La:List O:=[fS 4 0]
def K9:List O:=[aD 7 0,oT 8 wx 7,aD 5 8]
def K8:List O:=[aD 9 1,oT 10 wx 9,aD 6 10]
def K7:List O:=[aD 11 5]
def K6:List O:=[aD 12 6]
def K5:List O:=[fS 4 0]
def K4:List O:=[oo 4<|.mv (.k (.int .i64 (-1)))]
def K3:List O:=[aD 13 6]
def K2:List O:=[fS 4 1]
def K1:List O:=[aD 14 0,aD 15 1,nJ 16 14 15]
def C8:List O:=[oo 4<|.mv (.k (.int .i64 (-1)))]
def C7:List O:=[aD 17 0,aD 18 1,oo 19<|.bin .gtr (.t 17) (.t 18)]
def C6:List O:=[fS 4 1]
def C5:List O:=[fS 4 0]
def cQ5:C:=(aY La [0,1] (aY K9 [0,1,5] (aY K8 [0,1,5,6] (.seq (aY K7 [0,1,6,11] (.cond (.t 11) (.seq (aY K6 [12] (.cond (.t 12) (aY K5 [4] .ret) .skip)) (aY K4 [4] .ret)) .skip)) (.seq (aY K3 [0,1,13] (.cond (.t 13) (aY K2 [4] .ret) .skip)) (.seq (aY K1 [0,1,16] (.cond (.t 16) (aY C8 [4] .ret) .skip)) (.seq (aY C7 [19] (.cond (.t 19) (aY C6 [4] .ret) .skip)) (aY C5 [4] .ret))))))))
def qQ5:fM:=⟨20,2,[.t 4],cQ5⟩
def ae0:List O:=[fS 4 0]
def aeZ:List O:=[aD 5 0,aD 6 1,tl 7 xn 5 6,aD 4 7]
def cQ6:C:=(aY ae0 [0,1] (aY aeZ [4] .ret))
def qQ6:fM:=⟨8,2,[.t 4],cQ6⟩
def aeY:List O:=[Cc 4 false]
def aeX:List O:=[aD 5 0,aD 6 1,tl 7 XC 5 6,jN 8 7,oo 9<|.bin .eql (.t 8) (ki 0),aD 4 9]
def cQ7:C:=(aY aeY [0,1] (aY aeX [4] .ret))
def qQ7:fM:=⟨10,2,[.t 4],cQ7⟩
def aaL:List O:=[AD 1 0,mQ 2 1]
def aaK:List O:=[ko 6 0 1,fw 7 6,oo 8<|.max [.t 7,ki 0],oo 9<|.min [.t 8,ki 64],oo 10<|.Rr 1 [.int .u64 0] (.t 9) (.t 9),aD 3 10]
def aaJ:List O:=[ko 11 1 1,fw 12 11,jN 13 12,fS 14 0]
def aaI:List O:=[nJ 15 14 13]
def aaH:List O:=[jO 16 2 12 14,tG 17 2 16,oo 5<|.new [.int .i64 0,.int .i64 0],uW 2 5 17]
def aaG:List O:=[ko 18 0 5,fw 19 18,oo 20<|.bin .geq (.t 19) (ki 0),aD 21 20,gt 22 21<|.vL 0 (.t 5),zg 23 21 22,gt 24 21<|.vL 1 (.t 5),zg 25 21 24,gt 26 21<|.bin .lss (.t 23) (.t 25),DJ 27 21 26,aD 28 27,gt 29 28<|.vL 1 (.t 5),zg 30 28 29,tF 31 28 3,gt 32 28<|.len (.t 31),gt 33 28<|.bin .lss (.t 30) (.t 32),DJ 34 28 33]
def aaF:List O:=[aD 35 3,ko 36 0 5,fw 37 36,jO 38 1 35 37,fw 39 38,ko 40 1 5,fw 41 40,oo 42<|.bin .shl (.k (.int .u64 1)) (.t 41),oo 43<|.bin .or (.t 39) (.t 42),jO 44 1 35 37,uW 1 44 43]
def aaE:List O:=[aD 45 3,ko 46 1 5,fw 47 46,jO 48 1 45 47,fw 49 48,ko 50 0 5,fw 51 50,oo 52<|.bin .shl (.k (.int .u64 1)) (.t 51),oo 53<|.bin .or (.t 49) (.t 52),jO 54 1 45 47,uW 1 54 53]
def aaD:List O:=[nk 55 14 1,aD 14 55]
def abN:C:=(aY aaI [3,12,13,14,15] (.seq (mR 15 0) (.seq (.aH 1 (aY aaH [3,5,12,13,14] (aY aaG [3,5,12,13,14,34] (.cond (.t 34) (.seq (.qT aaF true [(8,8),(9,9),(10,10),(0,2),(2,5),(4,5),(0,6),(1,6),(2,6),(3,6),(4,6),(2,7),(4,7)] [3,5,12,13,14]) (.qT aaE true [(8,8),(9,9),(10,10),(0,2),(2,5),(4,5),(0,6),(1,6),(2,6),(3,6),(4,6),(2,7),(4,7)] [3,12,13,14])) .skip)))) (gW aaD [3,12,13,14]))))
def aaC:List O:=[aD 56 3,aD 2 56]
def cQ8:C:=(aY aaL [1] (aY aaK [1,3] (.seq (aY aaJ [3,12,13,14] (.aH 0 (.loop abN))) (aY aaC [2] .ret))))
def qQ8:fM:=⟨57,1,[.t 2],cQ8⟩
def aaB:List O:=[oo 6<|.mv (.k (.int .u64 0))]
def aaA:List O:=[aD 10 1,aD 11 2,oo 12<|.bin .and (.t 10) (.t 11),aD 1 12]
def aaz:List O:=[aD 13 1,aD 7 13]
def aay:List O:=[aD 14 7,oo 15<|.bin .neq (.t 14) (.k (.int .u64 0))]
def aax:List O:=[aD 16 7,oT 17 T9 16,aD 8 17]
def aaw:List O:=[aD 18 7,aD 19 7,oo 20<|.bin .sub (.t 19) (.k (.int .u64 1)),oo 21<|.bin .and (.t 18) (.t 20),aD 7 21]
def aav:List O:=[aD 22 0,aD 23 8,jO 24 1 22 23,fw 25 24,aD 26 2,oo 27<|.bin .and (.t 25) (.t 26),aD 28 1,oo 29<|.bin .andNot (.t 27) (.t 28),aD 9 29]
def aau:List O:=[aD 30 1,aD 31 9,oo 32<|.bin .or (.t 30) (.t 31),aD 1 32]
def aat:List O:=[aD 33 7,aD 34 9,oo 35<|.bin .or (.t 33) (.t 34),aD 7 35]
def UU:C:=(.seq (aY aay [0,1,2,7,15] (mR 15 0)) (.aH 1 (aY aax [0,1,2,7,8] (aY aaw [0,1,2,7,8] (aY aav [0,1,2,7,9] (aY aau [0,1,2,7,9] (gW aat [0,1,2,7])))))))
def aas:List O:=[aD 36 1,aD 6 36]
def cQ9:C:=(aY aaB [0,1,2] (aY aaA [0,1,2] (.seq (aY aaz [0,1,2,7] (.aH 0 (.loop UU))) (aY aas [6] .ret))))
def qQ9:fM:=⟨37,3,[.t 6],cQ9⟩
def Q7:List O:=[mQ 2 1]
def Q6:List O:=[mQ 3 1]
def Q5:List O:=[aD 4 0,oo 5<|.bin .neq (.t 4) (.k (.int .u64 0))]
def Q4:List O:=[aD 10 3,aD 11 0,oT 12 T7 11,oo 13<|.dw 1 1 [.int .i64 0] [(0,1,.t 12)],GH 14 1 10 13,aD 3 14]
def Q3:List O:=[aD 6 0,aD 7 0,oo 8<|.bin .sub (.t 7) (.k (.int .u64 1)),oo 9<|.bin .and (.t 6) (.t 8),aD 0 9]
def RB:C:=(.seq (aY Q5 [0,3,5] (mR 5 0)) (.seq (.aH 1 (gW Q4 [0,3])) (gW Q3 [0,3])))
def Q2:List O:=[aD 15 3,aD 2 15]
def cQa0:C:=(aY Q7 [0] (aY Q6 [0,3] (.seq (.aH 0 (.loop RB)) (aY Q2 [2] .ret))))
def qQa0:fM:=⟨16,1,[.t 2],cQa0⟩
def KQ:List O:=[AD 2 0,AD 3 1,Cc 4 false]
def KP:List O:=[ko 5 0 2,fw 6 5,ko 7 0 3,fw 8 7,nJ 9 6 8,aD 10 9,BF 11 10 0 2,uV 12 10 11,BF 13 10 0 3,uV 14 10 13,gf 15 10<|.bin .eql (.t 12) (.t 14),p8 16 10 15,gt 17 16<|.vL 1 (.t 2),zg 18 16 17,gt 19 16<|.vL 1 (.t 3),zg 20 16 19,gt 21 16<|.bin .lss (.t 18) (.t 20),gf 22 10<|.pick (.t 16) (.t 21) (.k (.bool false)),Fv 23 10 22,aD 4 23]
def cQa1:C:=(aY KQ [2,3] (aY KP [4] .ret))
def qQa1:fM:=⟨24,2,[.t 4],cQa1⟩
def KO:List O:=[mQ 4 1]
def KN:List O:=[mQ 5 1]
def KM:List O:=[aD 8 0,oT 9 NQ 8,jN 10 9,fS 11 0]
def KL:List O:=[nJ 12 11 10]
def KK:List O:=[jO 13 1 9 11,fw 14 13,aD 7 14]
def KJ:List O:=[aD 15 1,aD 16 7,tl 17 Wp 15 16]
def KI:List O:=[aD 18 5,aD 19 7,oo 20<|.dw 1 1 [.int .i64 0] [(0,1,.t 19)],GH 21 1 18 20,aD 5 21]
def KH:List O:=[nk 22 11 1,aD 11 22]
def L9:C:=(aY KL [1,5,9,10,11,12] (.seq (mR 12 0) (.seq (.aH 1 (aY KK [1,5,7,9,10,11] (aY KJ [1,5,7,9,10,11,17] (.cond (.t 17) (gW KI [1,5,9,10,11]) .skip)))) (gW KH [1,5,9,10,11]))))
def KG:List O:=[aD 23 5,aD 4 23]
def cQa2:C:=(aY KO [0,1] (aY KN [0,1,5] (.seq (aY KM [1,5,9,10,11] (.aH 0 (.loop L9))) (aY KG [4] .ret))))
def qQa2:fM:=⟨24,2,[.t 4],cQa2⟩
def zP:List O:=[AD 2 0,mQ 4 1]
def zO:List O:=[tG 8 2 2,oT 9 nQP 8,bzY 10 9 0]
def zN:List O:=[mQ 4 1]
def zM:List O:=[mQ 5 1]
def zL:List O:=[ko 11 1 2,fw 12 11,jN 13 12,fS 14 0]
def zK:List O:=[nJ 15 14 13]
def zJ:List O:=[jO 16 2 12 14,tG 17 2 16,oo 7<|.new [.int .i64 0,.int .i64 0],uW 2 7 17]
def zI:List O:=[ko 18 0 7,fw 19 18,aD 20 1,oo 21<|.bin .eql (.t 19) (.t 20)]
def zH:List O:=[aD 22 5,ko 23 1 7,fw 24 23,oo 25<|.dw 1 1 [.int .i64 0] [(0,1,.t 24)],GH 26 1 22 25,aD 5 26]
def zG:List O:=[ko 27 1 7,fw 28 27,aD 29 1,oo 30<|.bin .eql (.t 28) (.t 29)]
def vc:List O:=[aD 31 5,ko 32 0 7,fw 33 32,oo 34<|.dw 1 1 [.int .i64 0] [(0,1,.t 33)],GH 35 1 31 34,aD 5 35]
def u9:List O:=[nk 36 14 1,aD 14 36]
def L8:C:=(aY zK [1,5,12,13,14,15] (.seq (mR 15 0) (.seq (.aH 1 (aY zJ [1,5,7,12,13,14] (.seq (aY zI [1,5,7,12,13,14,21] (.cond (.t 21) (gW zH [1,5,7,12,13,14]) .skip)) (aY zG [1,5,7,12,13,14,30] (.cond (.t 30) (gW vc [1,5,12,13,14]) .skip))))) (gW u9 [1,5,12,13,14]))))
def u7:List O:=[aD 37 5,oT 38 NQ 37,aD 4 38]
def cQa3:C:=(aY zP [1,2] (.seq (aY zO [1,2,10] (.cond (.t 10) (aY zN [4] .ret) .skip)) (aY zM [1,2,5] (.seq (aY zL [1,5,12,13,14] (.aH 0 (.loop L8))) (aY u7 [4] .ret)))))
def qQa3:fM:=⟨39,2,[.t 4],cQa3⟩
def CY:List O:=[mQ 2 1]
def CX:List O:=[mQ 3 1]
def CW:List O:=[aD 6 0,jN 7 6,fS 8 0]
def CV:List O:=[nJ 9 8 7]
def CU:List O:=[jO 10 1 6 8,fw 11 10,aD 5 11]
def CT:List O:=[aD 12 3,aD 13 5,tl 14 XB 12 13,aD 3 14]
def CS:List O:=[nk 15 8 1,aD 8 15]
def Dt:C:=(aY CV [3,6,7,8,9] (.seq (mR 9 0) (.seq (.aH 1 (aY CU [3,5,6,7,8] (gW CT [3,6,7,8]))) (gW CS [3,6,7,8]))))
def CR:List O:=[aD 16 3,aD 2 16]
def cQa4:C:=(aY CY [0] (aY CX [0,3] (.seq (aY CW [3,6,7,8] (.aH 0 (.loop Dt))) (aY CR [2] .ret))))
def qQa4:fM:=⟨17,1,[.t 2],cQa4⟩
def FZ:List O:=[fS 4 0]
def FY:List O:=[aD 6 0,jN 7 6,fS 8 0]
def FX:List O:=[nJ 9 8 7]
def FW:List O:=[aD 10 8,aD 5 10]
def FV:List O:=[aD 11 1,aD 12 0,aD 13 5,jO 14 1 12 13,fw 15 14,oo 16<|.bin .eql (.t 11) (.t 15)]
def FU:List O:=[aD 17 5,aD 4 17]
def FT:List O:=[nk 18 8 1,aD 8 18]
def L7:C:=(aY FX [0,1,7,8,9] (.seq (mR 9 0) (.seq (.aH 1 (aY FW [0,1,5,7,8] (aY FV [0,1,5,7,8,16] (.cond (.t 16) (aY FU [4] .ret) .skip)))) (gW FT [0,1,7,8]))))
def FR:List O:=[oo 4<|.mv (.k (.int .i64 (-1)))]
def cQa5:C:=(aY FZ [0,1] (.seq (aY FY [0,1,7,8] (.aH 0 (.loop L7))) (aY FR [4] .ret)))
def qQa5:fM:=⟨19,2,[.t 4],cQa5⟩
def KF:List O:=[fS 4 0]
def KE:List O:=[aD 6 0,jN 7 6,fS 8 0]
def KD:List O:=[nJ 9 8 7]
def KC:List O:=[aD 10 8,aD 5 10]
def KB:List O:=[aD 11 1,aD 12 0,aD 13 5,jO 14 3 12 13,tG 15 3 14,oo 16<|.jM (.t 11) [.t 15]]
def KA:List O:=[aD 17 5,aD 4 17]
def Kz:List O:=[nk 18 8 1,aD 8 18]
def L6:C:=(aY KD [0,1,7,8,9] (.seq (mR 9 0) (.seq (.aH 1 (aY KC [0,1,5,7,8] (aY KB [0,1,5,7,8,16] (.cond (.t 16) (aY KA [4] .ret) .skip)))) (gW Kz [0,1,7,8]))))
def Ky:List O:=[oo 4<|.mv (.k (.int .i64 (-1)))]
def cQa6:C:=(aY KF [0,1] (.seq (aY KE [0,1,7,8] (.aH 0 (.loop L6))) (aY Ky [4] .ret)))
def qQa6:fM:=⟨19,2,[.t 4],cQa6⟩
def CQ:List O:=[Cc 4 false]
def CP:List O:=[aD 6 0,jN 7 6,aD 8 1,jN 9 8,oo 10<|.bin .neq (.t 7) (.t 9)]
def CO:List O:=[Cc 4 false]
def CN:List O:=[aD 11 0,jN 12 11,fS 13 0]
def CM:List O:=[nJ 14 13 12]
def CL:List O:=[aD 15 13,aD 5 15]
def CK:List O:=[aD 16 0,aD 17 5,jO 18 1 16 17,fw 19 18,aD 20 1,aD 21 5,jO 22 1 20 21,fw 23 22,oo 24<|.bin .neq (.t 19) (.t 23)]
def CJ:List O:=[Cc 4 false]
def CI:List O:=[nk 25 13 1,aD 13 25]
def L5:C:=(aY CM [0,1,12,13,14] (.seq (mR 14 0) (.seq (.aH 1 (aY CL [0,1,5,12,13] (.seq (.qT CK true [(8,8),(3,4),(3,5),(3,6),(0,7),(1,7),(2,7),(3,7)] [0,1,12,13,24]) (.cond (.t 24) (aY CJ [4] .ret) .skip)))) (gW CI [0,1,12,13]))))
def CH:List O:=[Cc 4 true]
def cQa7:C:=(aY CQ [0,1] (.seq (aY CP [0,1,10] (.cond (.t 10) (aY CO [4] .ret) .skip)) (.seq (aY CN [0,1,12,13] (.aH 0 (.loop L5))) (aY CH [4] .ret))))
def qQa7:fM:=⟨26,2,[.t 4],cQa7⟩
def aeM:List O:=[AD 2 0,AD 3 1,fS 4 0]
def aeL:List O:=[ko 5 0 2,fw 6 5,ko 7 0 3,fw 8 7,tl 9 Ny 6 8,ko 10 1 2,fw 11 10,ko 12 1 3,fw 13 12,tl 14 Ny 11 13,oo 15<|.dw 1 2 [.int .i64 0] [(0,1,.t 9),(1,1,.t 14)],oT 16 Pw 15,aD 4 16]
def cQa8:C:=(aY aeM [2,3] (.seq (.qT aeL true [(9,9),(10,10),(11,11),(12,12),(1,2),(0,3),(1,3),(1,5),(3,5),(4,5),(0,6),(1,6),(2,6),(3,6),(4,6),(1,7),(3,7),(4,7),(6,7),(0,8),(1,8),(2,8),(3,8),(4,8),(5,8),(6,8)] [4]) .ret))
def qQa8:fM:=⟨17,2,[.t 4],cQa8⟩
def aeK:List O:=[fS 2 0]
def aeJ:List O:=[aD 3 0,oT 4 T6 3,aD 2 4]
def cQa9:C:=(aY aeK [0] (aY aeJ [2] .ret))
def qQa9:fM:=⟨5,1,[.t 2],cQa9⟩
def alx:List O:=[oo 2<|.mv (.k (.int .u64 0))]
def alw:List O:=[aD 4 0,oo 5<|.bin .leq (.t 4) (ki 0),aD 3 5]
def alv:List O:=[oo 2<|.mv (.k (.int .u64 0))]
def alu:List O:=[aD 7 0,oo 8<|.bin .geq (.t 7) (ki 64),aD 6 8]
def als:List O:=[oo 2<|.mv (.k (.int .u64 18446744073709551615))]
def alr:List O:=[aD 9 0,oo 10<|.bin .shl (.k (.int .u64 1)) (.t 9),oo 11<|.bin .sub (.t 10) (.k (.int .u64 1)),aD 2 11]
def cQb0:C:=(aY alx [0] (.seq (.aH 0 (aY alw [0,3] (.cond (.t 3) (aY alv [2] .ret) (aY alu [0,6] (.cond (.t 6) (aY als [2] .ret) .skip))))) (aY alr [2] .ret)))
def qQb0:fM:=⟨12,1,[.t 2],cQb0⟩
def aeI:List O:=[fS 2 0]
def aeH:List O:=[aD 3 0,oT 4 T7 3,aD 2 4]
def cQb1:C:=(aY aeI [0] (aY aeH [2] .ret))
def qQb1:fM:=⟨5,1,[.t 2],cQb1⟩
def aeG:List O:=[oo 2<|.mv (.k (.str ⟨#[]⟩))]
def aeF:List O:=[aD 3 0,oT 4 XA 3,aD 2 4]
def cQb2:C:=(aY aeG [0] (aY aeF [2] .ret))
def qQb2:fM:=⟨5,1,[.t 2],cQb2⟩
def Xe:List O:=[Cc 2 false]
def Xd:List O:=[aD 3 0,aD 4 0,oo 5<|.bin .neq (.t 3) (.t 4),aD 2 5]
def cQb3:C:=(aY Xe [0] (aY Xd [2] .ret))
def Xg:fM:=⟨6,1,[.t 2],cQb3⟩
def kM:List O:=[fS 4 0]
def kL:List O:=[aD 9 0,jN 10 9,fS 11 0]
def kK:List O:=[nJ 12 11 10]
def kJ:List O:=[aD 13 11,jO 14 1 9 11,fw 15 14,aD 5 13,aD 6 15]
def kI:List O:=[aD 16 5,aD 17 1,jN 18 17,oo 19<|.bin .geq (.t 16) (.t 18)]
def kH:List O:=[fS 4 1]
def kG:List O:=[aD 20 1,aD 21 5,jO 22 1 20 21,fw 23 22,aD 7 23]
def kF:List O:=[aD 24 6,aD 25 7,tl 26 Ny 24 25,aD 8 26]
def kD:List O:=[aD 27 8,bzY 28 27 0]
def kC:List O:=[aD 29 8,aD 4 29]
def iV:List O:=[nk 30 11 1,aD 11 30]
def qt:C:=(aY kK [0,1,9,10,11,12] (.seq (mR 12 0) (.seq (.aH 1 (aY kJ [0,1,5,6,9,10,11] (.seq (aY kI [0,1,5,6,9,10,11,19] (.cond (.t 19) (aY kH [4] .ret) .skip)) (aY kG [0,1,6,7,9,10,11] (aY kF [0,1,8,9,10,11] (aY kD [0,1,8,9,10,11,28] (.cond (.t 28) (aY kC [4] .ret) .skip))))))) (gW iV [0,1,9,10,11]))))
def iU:List O:=[aD 31 0,jN 32 31,aD 33 1,jN 34 33,nJ 35 32 34]
def iT:List O:=[oo 4<|.mv (.k (.int .i64 (-1)))]
def iS:List O:=[fS 4 0]
def cQb4:C:=(aY kM [0,1] (.seq (aY kL [0,1,9,10,11] (.aH 0 (.loop qt))) (.seq (aY iU [35] (.cond (.t 35) (aY iT [4] .ret) .skip)) (aY iS [4] .ret))))
def Xf:fM:=⟨36,2,[.t 4],cQb4⟩
def aeE:List O:=[mQ 4 1]
def aeD:List O:=[aD 5 0,aD 6 1,oo 7<|.call Xz [.t 5,.t 6,.k (.func (.func nQc1) [] [])],aD 4 7]
def cQb5:C:=(aY aeE [0,1] (aY aeD [4] .ret))
def qQb5:fM:=⟨8,2,[.t 4],cQb5⟩
def Kx:List O:=[fS 2 0]
def Kw:List O:=[aD 3 0,oo 4<|.bin .eql (.t 3) (.k (.int .u64 0))]
def Xc:List O:=[fS 2 64]
def zF:List O:=[aD 5 0,aD 6 0,oo 7<|.un .neg (.t 6),oo 8<|.bin .and (.t 5) (.t 7),oo 9<|.bin .mul (.t 8) (.k (.int .u64 285870213051353865)),oo 10<|.bin .shr (.t 9) (.k (.int .u64 58)),oo 11<|.wC 64 1 (.g 0) (.t 10),fw 12 11,oo 13<|.SH .i64 (.t 12),aD 2 13]
def cQb6:C:=(aY Kx [0] (.seq (aY Kw [0,4] (.cond (.t 4) (aY Xc [2] .ret) .skip)) (aY zF [2] .ret)))
def qQb6:fM:=⟨14,1,[.t 2],cQb6⟩
def CG:List O:=[mQ 4 1]
def CF:List O:=[fS 5 0]
def CE:List O:=[aD 7 5,aD 8 0,jN 9 8,nJ 10 7 9,aD 11 10,tF 12 11 0,tF 13 11 5,gt 14 11<|.ti 1 (.t 12) (.t 13),zg 15 11 14,tF 16 11 1,gt 17 11<|.bin .lss (.t 15) (.t 16),DJ 18 11 17]
def CD:List O:=[aD 19 5,nk 20 19 1,aD 5 20]
def L4:C:=(.seq (aY CE [0,1,5,18] (mR 18 0)) (.aH 1 (gW CD [0,1,5])))
def CC:List O:=[aD 21 5,aD 22 0,jN 23 22,nJ 24 21 23,aD 25 24,tF 26 25 0,tF 27 25 5,gt 28 25<|.ti 1 (.t 26) (.t 27),zg 29 25 28,tF 30 25 1,gt 31 25<|.bin .eql (.t 29) (.t 30),DJ 32 25 31]
def CB:List O:=[aD 33 0,aD 4 33]
def CA:List O:=[aD 34 0,aD 35 5,oo 36<|.Io 1 (.t 34) none (some (.t 35)),oo 37<|.app 1 (.k (.own 1 [])) (.t 36),aD 6 37]
def Cz:List O:=[aD 38 6,aD 39 1,oo 40<|.dw 1 1 [.int .i64 0] [(0,1,.t 39)],GH 41 1 38 40,aD 42 0,aD 43 5,oo 44<|.Io 1 (.t 42) (some (.t 43)) none,GH 45 1 41 44,aD 4 45]
def cQb7:C:=(aY CG [0,1] (aY CF [0,1,5] (.seq (.aH 0 (.loop L4)) (.seq (aY CC [0,1,5,32] (.cond (.t 32) (aY CB [4] .ret) .skip)) (aY CA [0,1,5,6] (.seq (.qT Cz true [(7,7),(8,8),(0,2),(2,4),(3,4),(2,5),(3,5),(2,6),(3,6)] [4]) .ret))))))
def qQb7:fM:=⟨46,2,[.t 4],cQb7⟩
def aeC:List O:=[fS 2 0]
def aeB:List O:=[aD 3 0,oo 4<|.bin .shr (.t 3) (.k (.int .u64 1)),oo 5<|.bin .and (.t 4) (.k (.int .u64 6148914691236517205)),aD 6 0,oo 7<|.bin .and (.t 6) (.k (.int .u64 6148914691236517205)),oo 8<|.bin .add (.t 5) (.t 7),aD 0 8]
def aeA:List O:=[aD 9 0,oo 10<|.bin .shr (.t 9) (.k (.int .u64 2)),oo 11<|.bin .and (.t 10) (.k (.int .u64 3689348814741910323)),aD 12 0,oo 13<|.bin .and (.t 12) (.k (.int .u64 3689348814741910323)),oo 14<|.bin .add (.t 11) (.t 13),aD 0 14]
def aez:List O:=[aD 15 0,oo 16<|.bin .shr (.t 15) (.k (.int .u64 4)),aD 17 0,oo 18<|.bin .add (.t 16) (.t 17),oo 19<|.bin .and (.t 18) (.k (.int .u64 1085102592571150095)),aD 0 19]
def aey:List O:=[aD 20 0,aD 21 0,oo 22<|.bin .shr (.t 21) (.k (.int .u64 8)),oo 23<|.bin .add (.t 20) (.t 22),aD 0 23]
def aex:List O:=[aD 24 0,aD 25 0,oo 26<|.bin .shr (.t 25) (.k (.int .u64 16)),oo 27<|.bin .add (.t 24) (.t 26),aD 0 27]
def aew:List O:=[aD 28 0,aD 29 0,oo 30<|.bin .shr (.t 29) (.k (.int .u64 32)),oo 31<|.bin .add (.t 28) (.t 30),aD 0 31]
def aev:List O:=[aD 32 0,oo 33<|.SH .i64 (.t 32),oo 34<|.bin .and (.t 33) (ki 127),aD 2 34]
def cQb8:C:=(aY aeC [0] (aY aeB [0] (aY aeA [0] (aY aez [0] (aY aey [0] (aY aex [0] (aY aew [0] (aY aev [2] .ret))))))))
def qQb8:fM:=⟨35,1,[.t 2],cQb8⟩
def aeu:List O:=[oo 2<|.mv (.k (.str ⟨#[]⟩))]
def aet:List O:=[aD 3 0,oo 4<|.call Rp [.t 3,ki 10],aD 2 4]
def cQb9:C:=(aY aeu [0] (aY aet [2] .ret))
def qQb9:fM:=⟨5,1,[.t 2],cQb9⟩
def jw:List O:=[mQ 6 1]
def jv:List O:=[aD 11 0,oT 12 LI 11,aD 13 1,oT 14 LI 13,aD 0 12,aD 1 14]
def ju:List O:=[aD 15 0,oT 16 T5 15]
def jt:List O:=[aD 17 1,oT 18 T5 17]
def js:List O:=[aD 19 0,oT 20 T4 19,aD 21 1,oT 22 T4 21,aD 0 20,aD 1 22]
def jr:List O:=[mQ 7 1]
def je:List O:=[aD 23 0,jN 24 23,oo 25<|.bin .gtr (.t 24) (ki 0),aD 26 25,p8 27 26 1,gf 28 26<|.len (.t 27),gf 29 26<|.bin .gtr (.t 28) (ki 0),Fv 30 26 29]
def jT:List O:=[aD 31 1,jN 32 31,oo 33<|.bin .eql (.t 32) (ki 0),aD 34 33,p8 35 34 0,gf 36 34<|.len (.t 35),gf 37 34<|.bin .gtr (.t 36) (ki 0),p8 38 34 37,tF 39 38 0,gt 40 38<|.ti 1 (.t 39) (ki 0),zg 41 38 40,tF 42 38 1,gt 43 38<|.ti 1 (.t 42) (ki 0),zg 44 38 43,gt 45 38<|.bin .leq (.t 41) (.t 44),gf 46 34<|.pick (.t 38) (.t 45) (.k (.bool false)),Fv 47 34 46,aD 8 47]
def jS:List O:=[aD 48 0,jN 49 48,oo 50<|.bin .eql (.t 49) (ki 0),aD 51 50,p8 52 51 1,gf 53 51<|.len (.t 52),gf 54 51<|.bin .gtr (.t 53) (ki 0),p8 55 51 54,tF 56 55 1,gt 57 55<|.ti 1 (.t 56) (ki 0),zg 58 55 57,tF 59 55 0,gt 60 55<|.ti 1 (.t 59) (ki 0),zg 61 55 60,gt 62 55<|.bin .leq (.t 58) (.t 61),gf 63 51<|.pick (.t 55) (.t 62) (.k (.bool false)),Fv 64 51 63,aD 9 64]
def jR:List O:=[fS 10 0]
def ig:List O:=[aD 65 8]
def ib:List O:=[aD 66 0,oo 67<|.ti 1 (.t 66) (ki 0),fw 68 67,aD 69 0,oo 70<|.Io 1 (.t 69) (some (ki 1)) none,aD 10 68,aD 0 70]
def ia:List O:=[aD 71 9]
def hU:List O:=[aD 72 1,oo 73<|.ti 1 (.t 72) (ki 0),fw 74 73,aD 75 1,oo 76<|.Io 1 (.t 75) (some (ki 1)) none,aD 10 74,aD 1 76]
def gY:List O:=[aD 77 2,aD 78 8,aD 79 9,oo 80<|.jM (.t 77) [.t 78,.t 79]]
def gX:List O:=[aD 81 7,aD 82 10,oo 83<|.dw 1 1 [.int .i64 0] [(0,1,.t 82)],GH 84 1 81 83,aD 7 84]
def jy:C:=(.seq (aY je [0,1,2,7,30] (mR 30 0)) (.aH 1 (.seq (.qT jT true [(0,0),(1,1),(2,2),(3,3),(4,4),(5,5),(6,6),(7,7),(14,14),(15,15),(16,16),(17,17),(10,11),(10,12),(8,13),(9,13),(10,13)] [0,1,2,7,8]) (.seq (.qT jS true [(0,0),(1,1),(2,2),(3,3),(4,4),(5,5),(6,6),(7,7),(14,14),(15,15),(16,16),(17,17),(10,11),(10,12),(8,13),(9,13),(10,13)] [0,1,2,7,8,9]) (aY jR [0,1,2,7,8,9,10] (.seq (aY ig [0,1,2,7,8,9,10,65] (.cond (.t 65) (.qT ib true [(6,6),(2,3),(2,4)] [0,1,2,7,8,9,10]) .skip)) (.seq (aY ia [0,1,2,7,8,9,10,71] (.cond (.t 71) (.qT hU true [(6,6),(2,3),(2,4)] [0,1,2,7,8,9,10]) .skip)) (aY gY [0,1,2,7,10,80] (.cond (.t 80) (gW gX [0,1,2,7]) .skip)))))))))
def gN:List O:=[aD 85 7,aD 6 85]
def cQc0:C:=(aY jw [0,1,2] (aY jv [0,1,2] (aY ju [0,1,2] (aY jt [0,1,2] (aY js [0,1,2] (aY jr [0,1,2,7] (.seq (.aH 0 (.loop jy)) (aY gN [6] .ret))))))))
def qQc0:fM:=⟨86,3,[.t 6],cQc0⟩
def aes:List O:=[Cc 4 false]
def aer:List O:=[aD 5 1,oo 6<|.un .not (.t 5),aD 4 6]
def cQc1:C:=(aY aes [1] (aY aer [4] .ret))
def qQc1:fM:=⟨7,2,[.t 4],cQc1⟩
def alq:List O:=[oo 4<|.mv (.k (.str ⟨#[]⟩))]
def alp:List O:=[aD 10 1,oo 11<|.bin .eql (.t 10) (ki 10)]
def alo:List O:=[aD 12 0,oo 13<|.bin .leq (ki 0) (.t 12),aD 14 13,tF 15 14 0,gt 16 14<|.bin .lss (.t 15) (ki 100),DJ 17 14 16]
def aln:List O:=[aD 18 0,oT 19 108 18,aD 4 19]
def alm:List O:=[oo 5<|.new [.int .u8 0,.int .u8 0,.int .u8 0,.int .u8 0,.int .u8 0,.int .u8 0,.int .u8 0,.int .u8 0,.int .u8 0,.int .u8 0,.int .u8 0,.int .u8 0,.int .u8 0,.int .u8 0,.int .u8 0,.int .u8 0,.int .u8 0,.int .u8 0,.int .u8 0,.int .u8 0,.int .u8 0,.int .u8 0,.int .u8 0,.int .u8 0]]
def alk:List O:=[aD 20 0,oo 21<|.SH .u64 (.t 20),aD 6 21]
def alj:List O:=[aD 22 0,SI 23 22 0]
def ali:List O:=[aD 24 6,oo 25<|.un .neg (.t 24),aD 6 25]
def alh:List O:=[aD 26 6,oT 27 109 26,aD 7 27]
def alg:List O:=[aD 28 7,oo 29<|.bin .add (ki 1) (.t 28),oo 30<|.bad,aD 31 6,tl 32 110 30 31]
def ahX:List O:=[aD 33 0,SI 34 33 0]
def ahW:List O:=[oo 35<|.wC 24 1 (.t 5) (ki 0),oz<|.st 1 (.t 35) (.k (.int .u8 45))]
def ahV:List O:=[aD 36 7,oo 37<|.bin .add (ki 1) (.t 36),oo 38<|.Of 24 (.t 5) (some (.t 37)),oo 39<|.bad,aD 4 39]
def ahU:List O:=[aD 40 7,oo 41<|.bin .add (ki 1) (.t 40),oo 42<|.bad,oo 43<|.bad,aD 4 43]
def ahT:List O:=[aD 45 0,oo 46<|.SH .u64 (.t 45),aD 47 1,aD 48 0,SI 49 48 0,oo 50<|.call 111 [.k (.own 1 []),.t 46,.t 47,.t 49,.k (.bool false)],aD 44 50,Fw 51 0 44,Fw 52 1 44,aD 8 51,aD 9 52]
def ahS:List O:=[aD 53 9,aD 4 53]
def cQc2:C:=(aY alq [0,1] (.seq (aY alp [0,1,11] (.cond (.t 11) (.seq (aY alo [0,17] (.cond (.t 17) (aY aln [4] .ret) .skip)) (aY alm [0,5] (aY alk [0,5,6] (.seq (aY alj [0,5,6,23] (.cond (.t 23) (gW ali [0,5,6]) .skip)) (aY alh [0,5,6,7] (aY alg [0,5,7] (.seq (aY ahX [5,7,34] (.cond (.t 34) (aY ahW [5,7] (aY ahV [4] .ret)) .skip)) (aY ahU [4] .ret)))))))) .skip)) (aY ahT [9] (aY ahS [4] .ret))))
def qQc2:fM:=⟨54,2,[.t 4],cQc2⟩
def aeq:List O:=[mQ 2 1]
def aep:List O:=[aD 3 0,oo 4<|.eq false .Xs (.t 3) (.k (.own 1 []))]
def aeo:List O:=[mQ 2 1]
def aen:List O:=[oo 5<|.dw 1 0 [.int .i64 0] [],aD 6 0,GH 7 1 5 6,aD 2 7]
def cQc3:C:=(aY aeq [0] (.seq (aY aep [0,4] (.cond (.t 4) (aY aeo [2] .ret) .skip)) (aY aen [2] .ret)))
def qQc3:fM:=⟨8,1,[.t 2],cQc3⟩
def alf:List O:=[aD 3 0,jN 4 3,aD 2 4]
def ale:List O:=[aD 5 0,aD 6 2,aD 7 2,oo 8<|.SH .u64 (.t 7),oT 9 79 8,oo 10<|.call 113 [.t 5,ki 0,.t 6,.t 9]]
def cQc4:C:=(aY alf [0,2] (gW ale []))
def qQc4:fM:=⟨11,1,[],cQc4⟩
def ald:List O:=[mQ 2 1]
def alc:List O:=[aD 6 0,jN 7 6,SI 8 7 2]
def alb:List O:=[aD 9 0,aD 2 9]
def ala:List O:=[fS 3 1]
def ak9:List O:=[aD 10 3,aD 11 0,jN 12 11,nJ 13 10 12]
def ak8:List O:=[aD 16 0,aD 17 3,jO 18 1 16 17,fw 19 18,aD 20 0,aD 21 3,oo 22<|.bin .sub (.t 21) (ki 1),jO 23 1 20 22,fw 24 23,oo 25<|.bin .eql (.t 19) (.t 24)]
def ak7:List O:=[aD 26 0,aD 27 3,oo 28<|.Io 1 (.t 26) (some (.t 27)) none,aD 4 28]
def ak6:List O:=[fS 5 1]
def ak5:List O:=[aD 29 5,aD 30 4,jN 31 30,nJ 32 29 31]
def ak4:List O:=[aD 35 4,aD 36 5,jO 37 1 35 36,fw 38 37,aD 39 4,aD 40 5,oo 41<|.bin .sub (.t 40) (ki 1),jO 42 1 39 41,fw 43 42,oo 44<|.bin .neq (.t 38) (.t 43)]
def ahR:List O:=[aD 45 0,aD 46 3,aD 47 4,aD 48 5,jO 49 1 47 48,fw 50 49,jO 51 1 45 46,uW 1 51 50]
def ahQ:List O:=[aD 52 3,nk 53 52 1,aD 3 53]
def ahP:List O:=[aD 33 5,nk 34 33 1,aD 5 34]
def amw:C:=(.seq (aY ak5 [0,3,4,5,32] (mR 32 2)) (.seq (.aH 3 (.seq (.qT ak4 true [(9,9),(3,4),(3,5),(3,6),(3,7),(0,8),(1,8),(2,8),(3,8)] [0,3,4,5,44]) (.cond (.t 44) (aY ahR [0,3,4,5] (gW ahQ [0,3,4,5])) .skip))) (gW ahP [0,3,4,5])))
def ahO:List O:=[aD 54 0,aD 55 3,oo 56<|.Io 1 (.t 54) (some (.t 55)) none,oz<|.Rg 1 [.int .i64 0] (.t 56)]
def ahN:List O:=[aD 57 0,aD 58 3,oo 59<|.Io 1 (.t 57) none (some (.t 58)),aD 2 59]
def ahM:List O:=[aD 14 3,nk 15 14 1,aD 3 15]
def amv:C:=(.seq (aY ak9 [0,3,13] (mR 13 0)) (.seq (.aH 1 (.seq (.qT ak8 true [(9,9),(3,4),(3,5),(3,6),(3,7),(0,8),(1,8),(2,8),(3,8)] [0,3,25]) (.cond (.t 25) (aY ak7 [0,3,4] (.seq (aY ak6 [0,3,4,5] (.aH 2 (.loop amw))) (aY ahO [0,3] (aY ahN [2] .ret)))) .skip))) (gW ahM [0,3])))
def ahL:List O:=[aD 60 0,aD 2 60]
def cQc5:C:=(aY ald [0] (.seq (aY alc [0,8] (.cond (.t 8) (aY alb [2] .ret) .skip)) (.seq (aY ala [0,3] (.aH 0 (.loop amv))) (aY ahL [2] .ret))))
def qQc5:fM:=⟨61,1,[.t 2],cQc5⟩
abbrev Md:=Go.Bm.Md
abbrev eS:=Go.Bm.eS
def look:List (Nat × Md × fM)->Nat->Option (Md × fM)
 |[],_=>none
 |(j,m,q)::r,i=>if i=j then some (m,q) else look r i
def fns:List (Nat × Md × fM):=[
 (nQa,⟨false,false,true⟩,qQa),
 (nQb,⟨false,false,true⟩,qQb),
 (nQc,⟨true,false,false⟩,qQc),
 (nQd,⟨false,false,false⟩,qQd),
 (nQe,⟨true,false,false⟩,qQe),
 (Nx,⟨true,false,false⟩,qQf),
 (nQg,⟨false,false,true⟩,qQg),
 (nQh,⟨false,false,true⟩,qQh),
 (nQi,⟨false,false,true⟩,qQi),
 (nQj,⟨false,false,true⟩,qQj),
 (Xy,⟨false,false,true⟩,qQk),
 (nQl,⟨false,false,false⟩,qQl),
 (nQm,⟨false,false,false⟩,qQm),
 (nQn,⟨false,false,false⟩,qQn),
 (nQo,⟨false,false,false⟩,qQo),
 (nQp,⟨false,false,false⟩,qQp),
 (nQq,⟨false,false,false⟩,qQq),
 (nQr,⟨false,false,false⟩,qQr),
 (nQs,⟨false,false,true⟩,qQs),
 (nQt,⟨false,false,false⟩,qQt),
 (nQu,⟨false,false,false⟩,qQu),
 (nQv,⟨false,false,false⟩,qQv),
 (nQw,⟨false,false,true⟩,qQw),
 (tN,⟨false,true,true⟩,qQx),
 (nQy,⟨false,false,false⟩,qQy),
 (nQz,⟨false,false,true⟩,qQz),
 (nQA,⟨true,false,false⟩,qQA),
 (nQB,⟨true,false,false⟩,qQB),
 (nQC,⟨false,false,true⟩,qQC),
 (Wp,⟨false,false,true⟩,qQD),
 (nQE,⟨true,false,false⟩,qQE),
 (nQF,⟨false,false,true⟩,qQF),
 (nQG,⟨false,false,false⟩,qQG),
 (nQH,⟨false,false,false⟩,qQH),
 (nQI,⟨true,true,false⟩,qQI),
 (nQJ,⟨true,false,false⟩,qQJ),
 (nQK,⟨false,false,true⟩,qQK),
 (nQL,⟨true,false,false⟩,qQL),
 (nQM,⟨false,false,true⟩,qQM),
 (nQN,⟨false,false,false⟩,qQN),
 (nQO,⟨false,false,false⟩,qQO),
 (nQP,⟨false,false,true⟩,qQP),
 (nQQ,⟨false,false,false⟩,qQQ),
 (nQR,⟨false,false,false⟩,qQR),
 (nQS,⟨false,false,false⟩,qQS),
 (nQT,⟨false,false,false⟩,qQT),
 (nQU,⟨false,false,true⟩,qQU),
 (nQV,⟨false,false,true⟩,qQV),
 (nQW,⟨true,false,false⟩,qQW),
 (nQX,⟨true,false,false⟩,qQX),
 (nQY,⟨false,false,true⟩,qQY),
 (nQZ,⟨false,false,true⟩,qQZ),
 (nQ0,⟨true,true,false⟩,qQ0),
 (nQ1,⟨false,false,false⟩,qQ1),
 (nQ2,⟨false,true,true⟩,qQ2),
 (nQ3,⟨false,false,true⟩,qQ3),
 (Pw,⟨false,false,true⟩,qQ4),
 (Ny,⟨false,false,true⟩,qQ5),
 (Rq,⟨false,false,true⟩,qQ6),
 (nQ7,⟨false,false,true⟩,qQ7),
 (nQ8,⟨false,false,false⟩,qQ8),
 (nQ9,⟨false,false,true⟩,qQ9),
 (Ud,⟨false,false,false⟩,qQa0),
 (XI,⟨false,false,true⟩,qQa1),
 (Uc,⟨false,true,true⟩,qQa2),
 (Ub,⟨false,false,false⟩,qQa3),
 (NQ,⟨false,false,false⟩,qQa4),
 (XH,⟨false,false,true⟩,qQa5),
 (XG,⟨true,false,false⟩,qQa6),
 (XF,⟨false,false,true⟩,qQa7),
 (XE,⟨false,false,true⟩,qQa8),
 (XD,⟨false,false,true⟩,qQa9),
 (Ua,⟨false,false,true⟩,qQb0),
 (T9,⟨false,false,true⟩,qQb1),
 (T8,⟨false,false,false⟩,qQb2),
 (wx,⟨false,false,true⟩,Xg),
 (xn,⟨false,false,true⟩,Xf),
 (XC,⟨false,false,false⟩,qQb5),
 (T7,⟨false,false,true⟩,qQb6),
 (XB,⟨false,false,false⟩,qQb7),
 (T6,⟨false,false,true⟩,qQb8),
 (XA,⟨false,false,false⟩,qQb9),
 (Xz,⟨false,false,false⟩,qQc0),
 (nQc1,⟨false,false,true⟩,qQc1),
 (Rp,⟨false,true,true⟩,qQc2),
 (LI,⟨false,true,true⟩,qQc3),
 (T5,⟨false,false,true⟩,qQc4),
 (T4,⟨false,false,false⟩,qQc5)]
def nQc6:Nat:=0
def SU:List Int:=[0,1,56,2,57,49,28,3,61,58,42,50,38,29,17,4,62,47,59,36,45,43,51,22,53,39,33,30,24,18,12,5,63,55,48,27,60,41,37,16,46,35,44,21,52,32,23,11,54,26,40,15,34,20,31,10,25,14,19,9,13,8,7,6]
def tabA:List AV:=SU.map (AV.int .u8)
def cfg:eS:=⟨look fns,fun i=>if i=nQc6 then tabA else[],fun _=>none,fun _=>none,fun _=>none,fun _=>false,fun _=>false,fun _=>none⟩
theorem kQa:cC ak Go.Proofs.Tryz.f3 qQa=true:=by kernel_rfl
theorem kQb:cC ak Go.Proofs.Tryz.f4 qQb=true:=by kernel_rfl
theorem kQc:cC ak Go.Proofs.Tryz.f5 qQc=true:=by kernel_rfl
theorem kQd:cC ak Go.Proofs.Tryz.f6 qQd=true:=by kernel_rfl
theorem kQe:cC ak Go.Proofs.Tryz.f7 qQe=true:=by kernel_rfl
theorem kQf:cC ak Go.Proofs.Tryz.f8 qQf=true:=by kernel_rfl
theorem kQg:cC ak Go.Proofs.Tryz.f9 qQg=true:=by kernel_rfl
theorem kQh:cC ak Go.Proofs.Tryz.f10 qQh=true:=by kernel_rfl
theorem kQi:cC ak Go.Proofs.Tryz.f11 qQi=true:=by kernel_rfl
theorem kQj:cC ak Go.Proofs.Tryz.f12 qQj=true:=by kernel_rfl
theorem kQk:cC ak Go.Proofs.Tryz.f13 qQk=true:=by kernel_rfl
theorem kQl:cC ak Go.Proofs.Tryz.f14 qQl=true:=by kernel_rfl
theorem kQm:cC ak Go.Proofs.Tryz.f15 qQm=true:=by kernel_rfl
theorem kQn:cC ak Go.Proofs.Tryz.f16 qQn=true:=by kernel_rfl
theorem kQo:cC ak Go.Proofs.Tryz.f17 qQo=true:=by kernel_rfl
theorem kQp:cC ak Go.Proofs.Tryz.f18 qQp=true:=by kernel_rfl
theorem kQq:cC ak Go.Proofs.Tryz.f19 qQq=true:=by kernel_rfl
theorem kQr:cC ak Go.Proofs.Tryz.f20 qQr=true:=by kernel_rfl
theorem kQs:cC ak Go.Proofs.Tryz.f21 qQs=true:=by kernel_rfl
theorem kQt:cC ak Go.Proofs.Tryz.f22 qQt=true:=by kernel_rfl
theorem kQu:cC ak Go.Proofs.Tryz.f23 qQu=true:=by kernel_rfl
theorem kQv:cC ak Go.Proofs.Tryz.f24 qQv=true:=by kernel_rfl
theorem kQw:cC ak Go.Proofs.Tryz.f25 qQw=true:=by kernel_rfl
theorem kQx:cC ak Go.Proofs.Tryz.f26 qQx=true:=by kernel_rfl
theorem kQy:cC ak Go.Proofs.Tryz.f27 qQy=true:=by kernel_rfl
theorem kQz:cC ak Go.Proofs.Tryz.f28 qQz=true:=by kernel_rfl
theorem kQA:cC ak Go.Proofs.Tryz.f29 qQA=true:=by kernel_rfl
theorem kQB:cC ak Go.Proofs.Tryz.f30 qQB=true:=by kernel_rfl
theorem kQC:cC ak Go.Proofs.Tryz.f31 qQC=true:=by kernel_rfl
theorem kQD:cC ak Go.Proofs.Tryz.f32 qQD=true:=by kernel_rfl
theorem kQE:cC ak Go.Proofs.Tryz.f33 qQE=true:=by kernel_rfl
theorem kQF:cC ak Go.Proofs.Tryz.f34 qQF=true:=by kernel_rfl
theorem kQG:cC ak Go.Proofs.Tryz.f35 qQG=true:=by kernel_rfl
theorem kQH:cC ak Go.Proofs.Tryz.f36 qQH=true:=by kernel_rfl
theorem kQI:cC ak Go.Proofs.Tryz.f37 qQI=true:=by kernel_rfl
theorem kQJ:cC ak Go.Proofs.Tryz.f38 qQJ=true:=by kernel_rfl
theorem kQK:cC ak Go.Proofs.Tryz.f39 qQK=true:=by kernel_rfl
theorem kQL:cC ak Go.Proofs.Tryz.f40 qQL=true:=by kernel_rfl
theorem kQM:cC ak Go.Proofs.Tryz.f41 qQM=true:=by kernel_rfl
theorem kQN:cC ak Go.Proofs.Tryz.f42 qQN=true:=by kernel_rfl
theorem kQO:cC ak Go.Proofs.Tryz.f43 qQO=true:=by kernel_rfl
theorem kQP:cC ak Go.Proofs.Tryz.f44 qQP=true:=by kernel_rfl
theorem kQQ:cC ak Go.Proofs.Tryz.f45 qQQ=true:=by kernel_rfl
theorem kQR:cC ak Go.Proofs.Tryz.f46 qQR=true:=by kernel_rfl
theorem kQS:cC ak Go.Proofs.Tryz.f47 qQS=true:=by kernel_rfl
theorem kQT:cC ak Go.Proofs.Tryz.f48 qQT=true:=by kernel_rfl
theorem kQU:cC ak Go.Proofs.Tryz.f49 qQU=true:=by kernel_rfl
theorem kQV:cC ak Go.Proofs.Tryz.f50 qQV=true:=by kernel_rfl
theorem kQW:cC ak Go.Proofs.Tryz.f51 qQW=true:=by kernel_rfl
theorem kQX:cC ak Go.Proofs.Tryz.f52 qQX=true:=by kernel_rfl
theorem kQY:cC ak Go.Proofs.Tryz.f53 qQY=true:=by kernel_rfl
theorem kQZ:cC ak Go.Proofs.Tryz.f54 qQZ=true:=by kernel_rfl
theorem kQ0:cC ak Go.Proofs.Tryz.f55 qQ0=true:=by kernel_rfl
theorem kQ1:cC ak Go.Proofs.Tryz.f56 qQ1=true:=by kernel_rfl
theorem kQ2:cC ak Go.Proofs.Tryz.f57 qQ2=true:=by kernel_rfl
theorem kQ3:cC ak Go.Proofs.Tryz.f58 qQ3=true:=by kernel_rfl
theorem kQ4:cC ak Go.Proofs.Tryz.f59 qQ4=true:=by kernel_rfl
theorem kQ5:cC ak Go.Proofs.Tryz.f60 qQ5=true:=by kernel_rfl
theorem kQ6:cC ak Go.Proofs.Tryz.f61 qQ6=true:=by kernel_rfl
theorem kQ7:cC ak Go.Proofs.Tryz.f62 qQ7=true:=by kernel_rfl
theorem kQ8:cC ak Go.Proofs.Tryz.f63 qQ8=true:=by kernel_rfl
theorem kQ9:cC ak Go.Proofs.Tryz.f64 qQ9=true:=by kernel_rfl
theorem kQa0:cC ak Go.Proofs.Tryz.f65 qQa0=true:=by kernel_rfl
theorem kQa1:cC ak Go.Proofs.Tryz.f66 qQa1=true:=by kernel_rfl
theorem kQa2:cC ak Go.Proofs.Tryz.f67 qQa2=true:=by kernel_rfl
theorem kQa3:cC ak Go.Proofs.Tryz.f68 qQa3=true:=by kernel_rfl
theorem kQa4:cC ak Go.Proofs.Tryz.f69 qQa4=true:=by kernel_rfl
theorem kQa5:cC ak Go.Proofs.Tryz.f70 qQa5=true:=by kernel_rfl
theorem kQa6:cC ak Go.Proofs.Tryz.f71 qQa6=true:=by kernel_rfl
theorem kQa7:cC ak Go.Proofs.Tryz.f72 qQa7=true:=by kernel_rfl
theorem kQa8:cC ak Go.Proofs.Tryz.f73 qQa8=true:=by kernel_rfl
theorem kQa9:cC ak Go.Proofs.Tryz.f74 qQa9=true:=by kernel_rfl
theorem kQb0:cC ak Go.Proofs.Tryz.f75 qQb0=true:=by kernel_rfl
theorem kQb1:cC ak Go.Proofs.Tryz.f76 qQb1=true:=by kernel_rfl
theorem kQb2:cC ak Go.Proofs.Tryz.f77 qQb2=true:=by kernel_rfl
theorem kQb3:cC ak Go.Proofs.Tryz.f80 Xg=true:=by kernel_rfl
theorem kQb4:cC ak Go.Proofs.Tryz.f81 Xf=true:=by kernel_rfl
theorem kQb5:cC ak Go.Proofs.Tryz.f82 qQb5=true:=by kernel_rfl
theorem kQb6:cC ak Go.Proofs.Tryz.f83 qQb6=true:=by kernel_rfl
theorem kQb7:cC ak Go.Proofs.Tryz.f84 qQb7=true:=by kernel_rfl
theorem kQb8:cC ak Go.Proofs.Tryz.f85 qQb8=true:=by kernel_rfl
theorem kQb9:cC ak Go.Proofs.Tryz.f86 qQb9=true:=by kernel_rfl
theorem kQc0:cC ak Go.Proofs.Tryz.f97 qQc0=true:=by kernel_rfl
theorem kQc1:cC ak Go.Proofs.Tryz.f98 qQc1=true:=by kernel_rfl
theorem kQc2:cC ak Go.Proofs.Tryz.f99 qQc2=true:=by kernel_rfl
theorem kQc3:cC ak Go.Proofs.Tryz.f105 qQc3=true:=by kernel_rfl
theorem kQc4:cC ak Go.Proofs.Tryz.f106 qQc4=true:=by kernel_rfl
theorem kQc5:cC ak Go.Proofs.Tryz.f107 qQc5=true:=by kernel_rfl
theorem Uu:∀{l:List (Nat × Md × fM)} {f:Nat} {m:Md} {q:fM},look l f=some (m,q)->(f,m,q)∈l
 |[],f,m,q,h=>by simp[look] at h
 |(j,m',q')::r,f,m,q,h=>by
   unfold look at h;split at h
   ·rename_i he; subst he; simp at h; obtain⟨rfl,rfl⟩:=h; simp
   ·exact List.mem_cons_of_mem _ (Uu h)
def Good (p:Nat × Md × fM):Prop:=∃fn,ak.funcs[p.1]?=some fn/\cC ak fn p.2.2=true
def All (G:Nat × Md × fM->Prop):List (Nat × Md × fM)->Prop
 |[]=>True
 |p::r=>G p/\All G r
theorem All.get {G:Nat × Md × fM->Prop}:∀{l:List (Nat × Md × fM)},All G l->∀p∈l,G p
 |[],_,p,h=>by simp at h
 |q::r,h,p,hp=>by
   rcases List.mem_cons.1 hp with e|e
   ·subst e; exact h.1
   ·exact All.get h.2 p e
theorem ajP:All Good fns:=⟨⟨_,Go.Proofs.Tryz.func3,kQa⟩,⟨_,Go.Proofs.Tryz.func4,kQb⟩,⟨_,Go.Proofs.Tryz.func5,kQc⟩,⟨_,Go.Proofs.Tryz.func6,kQd⟩,⟨_,Go.Proofs.Tryz.func7,kQe⟩,⟨_,Go.Proofs.Tryz.func8,kQf⟩,⟨_,Go.Proofs.Tryz.func9,kQg⟩,⟨_,Go.Proofs.Tryz.func10,kQh⟩,⟨_,Go.Proofs.Tryz.func11,kQi⟩,⟨_,Go.Proofs.Tryz.func12,kQj⟩,⟨_,Go.Proofs.Tryz.func13,kQk⟩,⟨_,Go.Proofs.Tryz.func14,kQl⟩,⟨_,Go.Proofs.Tryz.func15,kQm⟩,⟨_,Go.Proofs.Tryz.func16,kQn⟩,⟨_,Go.Proofs.Tryz.func17,kQo⟩,⟨_,Go.Proofs.Tryz.func18,kQp⟩,⟨_,Go.Proofs.Tryz.func19,kQq⟩,⟨_,Go.Proofs.Tryz.func20,kQr⟩,⟨_,Go.Proofs.Tryz.func21,kQs⟩,⟨_,Go.Proofs.Tryz.func22,kQt⟩,⟨_,Go.Proofs.Tryz.func23,kQu⟩,⟨_,Go.Proofs.Tryz.func24,kQv⟩,⟨_,Go.Proofs.Tryz.func25,kQw⟩,⟨_,Go.Proofs.Tryz.func26,kQx⟩,⟨_,Go.Proofs.Tryz.func27,kQy⟩,⟨_,Go.Proofs.Tryz.func28,kQz⟩,⟨_,Go.Proofs.Tryz.func29,kQA⟩,⟨_,Go.Proofs.Tryz.func30,kQB⟩,⟨_,Go.Proofs.Tryz.func31,kQC⟩,⟨_,Go.Proofs.Tryz.func32,kQD⟩,⟨_,Go.Proofs.Tryz.func33,kQE⟩,⟨_,Go.Proofs.Tryz.func34,kQF⟩,⟨_,Go.Proofs.Tryz.func35,kQG⟩,⟨_,Go.Proofs.Tryz.func36,kQH⟩,⟨_,Go.Proofs.Tryz.func37,kQI⟩,⟨_,Go.Proofs.Tryz.func38,kQJ⟩,⟨_,Go.Proofs.Tryz.func39,kQK⟩,⟨_,Go.Proofs.Tryz.func40,kQL⟩,⟨_,Go.Proofs.Tryz.func41,kQM⟩,⟨_,Go.Proofs.Tryz.func42,kQN⟩,⟨_,Go.Proofs.Tryz.func43,kQO⟩,⟨_,Go.Proofs.Tryz.func44,kQP⟩,⟨_,Go.Proofs.Tryz.func45,kQQ⟩,⟨_,Go.Proofs.Tryz.func46,kQR⟩,⟨_,Go.Proofs.Tryz.func47,kQS⟩,⟨_,Go.Proofs.Tryz.func48,kQT⟩,⟨_,Go.Proofs.Tryz.func49,kQU⟩,⟨_,Go.Proofs.Tryz.func50,kQV⟩,⟨_,Go.Proofs.Tryz.func51,kQW⟩,⟨_,Go.Proofs.Tryz.func52,kQX⟩,⟨_,Go.Proofs.Tryz.func53,kQY⟩,⟨_,Go.Proofs.Tryz.func54,kQZ⟩,⟨_,Go.Proofs.Tryz.func55,kQ0⟩,⟨_,Go.Proofs.Tryz.func56,kQ1⟩,⟨_,Go.Proofs.Tryz.func57,kQ2⟩,⟨_,Go.Proofs.Tryz.func58,kQ3⟩,⟨_,Go.Proofs.Tryz.func59,kQ4⟩,⟨_,Go.Proofs.Tryz.func60,kQ5⟩,⟨_,Go.Proofs.Tryz.func61,kQ6⟩,⟨_,Go.Proofs.Tryz.func62,kQ7⟩,⟨_,Go.Proofs.Tryz.func63,kQ8⟩,⟨_,Go.Proofs.Tryz.func64,kQ9⟩,⟨_,Go.Proofs.Tryz.func65,kQa0⟩,⟨_,Go.Proofs.Tryz.func66,kQa1⟩,⟨_,Go.Proofs.Tryz.func67,kQa2⟩,⟨_,Go.Proofs.Tryz.func68,kQa3⟩,⟨_,Go.Proofs.Tryz.func69,kQa4⟩,⟨_,Go.Proofs.Tryz.func70,kQa5⟩,⟨_,Go.Proofs.Tryz.func71,kQa6⟩,⟨_,Go.Proofs.Tryz.func72,kQa7⟩,⟨_,Go.Proofs.Tryz.func73,kQa8⟩,⟨_,Go.Proofs.Tryz.func74,kQa9⟩,⟨_,Go.Proofs.Tryz.func75,kQb0⟩,⟨_,Go.Proofs.Tryz.func76,kQb1⟩,⟨_,Go.Proofs.Tryz.func77,kQb2⟩,⟨_,Go.Proofs.Tryz.func80,kQb3⟩,⟨_,Go.Proofs.Tryz.func81,kQb4⟩,⟨_,Go.Proofs.Tryz.func82,kQb5⟩,⟨_,Go.Proofs.Tryz.func83,kQb6⟩,⟨_,Go.Proofs.Tryz.func84,kQb7⟩,⟨_,Go.Proofs.Tryz.func85,kQb8⟩,⟨_,Go.Proofs.Tryz.func86,kQb9⟩,⟨_,Go.Proofs.Tryz.func97,kQc0⟩,⟨_,Go.Proofs.Tryz.func98,kQc1⟩,⟨_,Go.Proofs.Tryz.func99,kQc2⟩,⟨_,Go.Proofs.Tryz.func105,kQc3⟩,⟨_,Go.Proofs.Tryz.func106,kQc4⟩,⟨_,Go.Proofs.Tryz.func107,kQc5⟩,trivial⟩
theorem acr:fy ak cfg:=⟨by kernel_rfl,fun f m q h=>ajP.get _ (Uu h)⟩
theorem gQ3:cfg.fn nQ3=some (⟨false,false,true⟩,qQ3):=rfl
theorem gQ4:cfg.fn Pw=some (⟨false,false,true⟩,qQ4):=rfl
theorem gQ5:cfg.fn Ny=some (⟨false,false,true⟩,qQ5):=rfl
theorem gQ6:cfg.fn Rq=some (⟨false,false,true⟩,qQ6):=rfl
theorem gQb3:cfg.fn wx=some (⟨false,false,true⟩,Xg):=rfl
theorem gQb4:cfg.fn xn=some (⟨false,false,true⟩,Xf):=rfl
end Go.BmP
