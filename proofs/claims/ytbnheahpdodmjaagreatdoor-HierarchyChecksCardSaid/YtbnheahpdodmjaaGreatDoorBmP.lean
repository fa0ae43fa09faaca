/- The compact code of the functions, printed by program off the translation. -/
import Derived.Test.YtbnheahpdodmjaaGreatDoorChecked
import Derived.Test.YtbnheahpdodmjaaGreatDoorBmA
import Derived.KernelRfl
set_option maxRecDepth 100000
open Go.Proofs.Tryz renaming prog → aj
namespace Go.BmP
open Go.Am Go.Bm
abbrev oo (d:Nat) (x:Kd):O:=⟨some d,none,x⟩
abbrev gf (d g:Nat) (k:Kd):O:=⟨some d,some (g,false),k⟩
abbrev gt (d g:Nat) (k:Kd):O:=⟨some d,some (g,true),k⟩
abbrev oz (x:Kd):O:=⟨none,none,x⟩
abbrev ki (n:Nat):E:=.k (.int .i64 n)
abbrev aD (d a:Nat):O:=⟨some d,none,.mv (.t a)⟩
abbrev fI (d a:Nat):O:=⟨some d,none,.ld none (.t a)⟩
abbrev fH (d n:Nat):O:=⟨some d,none,.mv (.k (.int .i64 n))⟩
abbrev jE (d k a b:Nat):O:=⟨some d,none,.qc k (.t a) (.t b)⟩
abbrev jY (d k a:Nat):O:=⟨some d,none,.yf k (.t a)⟩
abbrev jD (d a:Nat):O:=⟨some d,none,.len (.t a)⟩
abbrev rX (d k a:Nat):O:=⟨some d,none,.ld (some k) (.t a)⟩
abbrev nX (d a n:Nat):O:=⟨some d,none,.bin .add (.t a) (.k (.int .i64 n))⟩
abbrev om (d a b:Nat):O:=⟨some d,none,.bin .lss (.t a) (.t b)⟩
abbrev sF (d k:Nat):O:=⟨some d,none,.mv (.k (.own k []))⟩
abbrev oe (d f a:Nat):O:=⟨some d,none,.call f [.t a]⟩
abbrev uG (d f a b:Nat):O:=⟨some d,none,.call f [.t a,.t b]⟩
abbrev F8 (d k a:Nat):O:=⟨some d,none,.ext k (.t a)⟩
abbrev qT (d g a:Nat):O:=⟨some d,some (g,false),.mv (.t a)⟩
abbrev ub (d g a:Nat):O:=⟨some d,some (g,true),.mv (.t a)⟩
abbrev ua (k a b:Nat):O:=⟨none,none,.st k (.t a) (.t b)⟩
abbrev vm (d:Nat) (b:Bool):O:=⟨some d,none,.mv (.k (.bool b))⟩
abbrev Ae (d a:Nat):O:=⟨some d,none,.box (.t a)⟩
abbrev EU (d a b:Nat):O:=⟨some d,none,.pick (.t a) (.k (.bool true)) (.t b)⟩
abbrev F7 (d a b:Nat):O:=⟨some d,none,.pick (.t a) (.t b) (.k (.bool false))⟩
abbrev xd (d g a:Nat):O:=⟨some d,some (g,false),.ld none (.t a)⟩
abbrev Bw (d g a:Nat):O:=⟨some d,some (g,true),.ld none (.t a)⟩
abbrev L6 (d k a b:Nat):O:=⟨some d,none,.app k (.t a) (.t b)⟩
abbrev yI (d g k a:Nat):O:=⟨some d,some (g,false),.yf k (.t a)⟩
abbrev bzY (d a n:Nat):O:=⟨some d,none,.bin .neq (.t a) (.k (.int .i64 n))⟩
abbrev UD (d a n:Nat):O:=⟨some d,none,.bin .lss (.t a) (.k (.int .i64 n))⟩
abbrev aX (r:List O) (l:List Nat) (x:C):C:=.seq (.pI r false [] l) x
abbrev iD (r:List O) (l:List Nat):C:=.pI r false [] l
abbrev nY (g e:Nat):C:=.cond (.t g) .skip (.exit e)
def nQa:Nat:=3
def nQb:Nat:=4
def nQc:Nat:=5
def nQd:Nat:=6
def Of:Nat:=7
def KP:Nat:=8
def nQg:Nat:=9
def nQh:Nat:=10
def nQi:Nat:=11
def Oe:Nat:=12
def nQk:Nat:=13
def nQl:Nat:=14
def nQm:Nat:=15
def nQn:Nat:=16
def nQo:Nat:=17
def nQp:Nat:=18
def nQq:Nat:=19
def nQr:Nat:=20
def nQs:Nat:=21
def nQt:Nat:=22
def nQu:Nat:=23
def nQv:Nat:=24
def nQw:Nat:=25
def nQx:Nat:=26
def nQy:Nat:=27
def nQz:Nat:=28
def nQA:Nat:=29
def nQB:Nat:=30
def nQC:Nat:=31
def nQD:Nat:=32
def nQE:Nat:=33
def nQF:Nat:=34
def nQG:Nat:=35
def nQH:Nat:=36
def nQI:Nat:=37
def nQJ:Nat:=38
def nQK:Nat:=39
def nQL:Nat:=40
def nQM:Nat:=41
def nQN:Nat:=42
def nQO:Nat:=43
def nQP:Nat:=44
def nQQ:Nat:=45
def nQR:Nat:=46
def nQS:Nat:=47
def nQT:Nat:=48
def nQU:Nat:=49
def nQV:Nat:=50
def nQW:Nat:=51
def nQX:Nat:=52
def Og:Nat:=53
def MA:Nat:=54
def P5:Nat:=55
def nQ1:Nat:=56
def nQ2:Nat:=57
def nQ3:Nat:=58
def nQ4:Nat:=59
def nQ5:Nat:=60
def nQ6:Nat:=61
def nQ7:Nat:=62
def nQ8:Nat:=63
def nQ9:Nat:=64
def Wk:Nat:=65
def Wj:Nat:=66
def SF:Nat:=67
def SE:Nat:=68
def SD:Nat:=69
def vL:Nat:=72
def wI:Nat:=73
def Wi:Nat:=74
def SC:Nat:=75
def nQa9:Nat:=76
def Wh:Nat:=77
def SA:Nat:=78
def Wg:Nat:=79
def Wf:Nat:=90
def nQb4:Nat:=91
def P4:Nat:=92
def KQ:Nat:=98
def Sz:Nat:=99
def Sy:Nat:=100
def BQ:List O:=[vm 4 false]
def BP:List O:=[aD 13 0,jD 14 13,oo 15<|.bin .gtr (.t 14) (ki 20)]
def BO:List O:=[oo 16<|.call nQb [],aD 4 16]
def BN:List O:=[aD 17 1,oe 18 nQc 17,aD 5 18]
def BM:List O:=[aD 19 5,oo 20<|.call nQd [.t 19,ki 8],oo 6<|.new [.int .i64 0,.own 2 []],ua 2 6 20]
def BL:List O:=[rX 22 2 6,oe 23 Of 22,aD 21 23,F8 24 0 21,F8 25 1 21,aD 7 24,aD 8 25]
def BK:List O:=[aD 26 7,oo 27<|.app 3 (.k (.own 3 [])) (.t 26),aD 9 27]
def BJ:List O:=[aD 28 9,jD 29 28,oo 30<|.bin .gtr (.t 29) (ki 0)]
def BI:List O:=[aD 31 5,aD 32 9,jD 33 32,uG 34 KP 31 33,aD 10 34]
def BH:List O:=[aD 35 5,oo 36<|.call KP [.t 35,ki 5]]
def u6:List O:=[oo 38<|.bin .eql (.t 36) (ki 0),aD 37 38]
def u5:List O:=[aD 39 9,aD 40 10,jE 41 3 39 40,jY 42 0 41,fI 43 42,aD 44 5,oo 45<|.call KP [.t 44,ki 3],oo 46<|.bin .sub (.t 45) (ki 1),oo 47<|.bin .add (.t 43) (.t 46),jE 48 3 39 40,jY 49 0 48,ua 1 49 47]
def u4:List O:=[oo 51<|.bin .eql (.t 36) (ki 1),aD 50 51]
def uZ:List O:=[aD 52 9,aD 53 10,aD 54 5,aD 55 9,jD 56 55,nX 57 56 1,uG 58 KP 54 57,oo 59<|.bin .sub (.t 58) (ki 1),jE 60 3 52 53,jY 61 1 60,ua 1 61 59]
def uY:List O:=[oo 63<|.bin .eql (.t 36) (ki 2),aD 62 63]
def uX:List O:=[aD 64 9,aD 65 10,aD 66 5,oo 67<|.call nQg [.t 66,ki 8],jE 68 3 64 65,jY 69 2 68,ua 1 69 67]
def uW:List O:=[oo 71<|.bin .eql (.t 36) (ki 3),aD 70 71]
def uV:List O:=[aD 72 9,aD 73 10,oo 74<|.Fc 3 (.t 72) none (some (.t 73)),aD 75 9,aD 76 10,nX 77 76 1,oo 78<|.Fc 3 (.t 75) (some (.t 77)) none,L6 79 3 74 78,aD 9 79]
def uU:List O:=[oo 81<|.bin .eql (.t 36) (ki 4),aD 80 81]
def uT:List O:=[aD 82 9,aD 83 9,aD 84 10,aD 85 9,aD 86 10,jE 87 3 85 86,rX 88 3 87,aD 89 9,oo 90<|.qc 3 (.t 89) (ki 0),rX 91 3 90,oo 92<|.qc 3 (.t 82) (ki 0),ua 3 92 88,jE 93 3 83 84,ua 3 93 91]
def uS:List O:=[aD 94 7,aD 95 9,aD 96 0,oo 97<|.dK 1 3 [.own 3 []] [(0,1,.t 94),(1,1,.t 95),(2,1,.t 96)],jD 98 97,fH 99 0]
def uR:List O:=[om 100 99 98]
def uQ:List O:=[jE 101 1 97 99,fI 102 101,aD 12 102]
def uP:List O:=[rX 103 2 6,aD 104 12,uG 105 nQh 103 104,rX 106 2 6,aD 107 12,uG 108 nQi 106 107,oo 109<|.bin .neq (.t 105) (.t 108)]
def uO:List O:=[vm 4 false]
def uM:List O:=[nX 110 99 1,aD 99 110]
def Tj:C:=(aX uR [6,7,97,98,99,100] (.seq (nY 100 1) (.seq (.aJ 2 (aX uQ [6,7,12,97,98,99] (.seq (.pI uP true [(5,5),(6,6),(0,1),(0,3),(1,3),(2,3),(0,4),(2,4),(3,4)] [6,7,97,98,99,109]) (.cond (.t 109) (aX uO [4] .ret) .skip)))) (iD uM [6,7,97,98,99]))))
def uL:List O:=[rX 111 2 6,aD 112 7,uG 113 nQh 111 112,oo 114<|.bin .eql (.t 113) (ki 0),aD 115 114,gt 116 115<|.call nQb [],F7 117 115 116,aD 4 117]
def cQa:C:=(aX BQ [0,1] (.seq (aX BP [0,1,15] (.cond (.t 15) (aX BO [4] .ret) .skip)) (aX BN [0,5] (aX BM [0,5,6] (aX BL [0,5,6,7] (aX BK [0,5,6,7,9] (.seq (aX BJ [0,5,6,7,9,30] (.cond (.t 30) (aX BI [0,5,6,7,9,10] (aX BH [0,5,6,7,9,10,36] (.aJ 0 (aX u6 [0,5,6,7,9,10,36,37] (.cond (.t 37) (.pI u5 true [(8,8),(9,9),(10,10),(11,11),(4,5),(0,6),(1,6),(2,6),(3,6),(4,6),(4,7)] [0,6,7,9]) (aX u4 [0,5,6,7,9,10,36,50] (.cond (.t 50) (iD uZ [0,6,7,9]) (aX uY [0,5,6,7,9,10,36,62] (.cond (.t 62) (iD uX [0,6,7,9]) (aX uW [0,6,7,9,10,36,70] (.cond (.t 70) (.pI uV true [(7,7),(8,8)] [0,6,7,9]) (aX uU [0,6,7,9,10,80] (.cond (.t 80) (.pI uT true [(12,12),(13,13),(0,6),(1,6),(2,6),(6,7),(6,8),(0,9),(1,9),(2,9),(3,9),(4,9),(5,9),(6,9),(1,11),(2,11)] [0,6,7,9]) .skip))))))))))))) .skip)) (.seq (aX uS [6,7,97,98,99] (.aJ 1 (.loop Tj))) (aX uL [4] .ret)))))))))
def qQa:fW:=⟨118,2,[.t 4],cQa⟩
def alT:List O:=[vm 0 false]
def alS:List O:=[oo 4<|.build [.int .i64 0,.int .i64 0] [(0,1,ki 0),(1,1,ki 1)],oo 5<|.build [.int .i64 0,.int .i64 0] [(0,1,ki 0),(1,1,ki 2)],oo 6<|.build [.int .i64 0,.int .i64 0] [(0,1,ki 1),(1,1,ki 2)],oo 7<|.build [.int .i64 0,.int .i64 0] [(0,1,ki 2),(1,1,ki 3)],oo 8<|.dK 2 4 [.int .i64 0,.int .i64 0] [(0,2,.t 4),(2,2,.t 5),(4,2,.t 6),(6,2,.t 7)],oo 9<|.build [.int .i64 0,.own 2 []] [(0,1,ki 4),(1,1,.t 8)],oo 1<|.new [.int .i64 0,.own 2 []],ua 2 1 9]
def alR:List O:=[rX 11 2 1,oe 12 Oe 11,aD 10 12,F8 13 0 10,F8 14 1 10,aD 2 13,aD 3 14]
def alQ:List O:=[aD 15 3,oo 16<|.bin .eql (.t 15) (ki 0),aD 17 16,ub 18 17 2,gt 19 17<|.len (.t 18),gt 20 17<|.bin .eql (.t 19) (ki 2),F7 21 17 20,aD 22 21,ub 23 22 2,gt 24 22<|.qc 3 (.t 23) (ki 0),gt 25 22<|.yf 0 (.t 24),Bw 26 22 25,gt 27 22<|.bin .eql (.t 26) (ki 1),F7 28 22 27,aD 29 28,ub 30 29 2,gt 31 29<|.qc 3 (.t 30) (ki 0),gt 32 29<|.yf 1 (.t 31),Bw 33 29 32,gt 34 29<|.bin .eql (.t 33) (.k (.int .i64 (-1))),F7 35 29 34,aD 36 35,ub 37 36 2,gt 38 36<|.qc 3 (.t 37) (ki 1),gt 39 36<|.yf 2 (.t 38),Bw 40 36 39,gt 41 36<|.dK 1 3 [.int .i64 0] [(0,1,ki 0),(1,1,ki 1),(2,1,ki 2)],gt 42 36<|.call nQk [.t 40,.t 41],F7 43 36 42,aD 44 43,ub 45 44 2,gt 46 44<|.qc 3 (.t 45) (ki 1),gt 47 44<|.yf 0 (.t 46),Bw 48 44 47,gt 49 44<|.bin .eql (.t 48) (ki 2),F7 50 44 49,aD 51 50,ub 52 51 2,gt 53 51<|.qc 3 (.t 52) (ki 1),gt 54 51<|.yf 1 (.t 53),Bw 55 51 54,gt 56 51<|.bin .eql (.t 55) (ki 0),F7 57 51 56,aD 58 57,ub 59 58 2,gt 60 58<|.call nQl [.t 59,ki 3,ki 9],gt 61 58<|.bin .eql (.t 60) (ki 0),F7 62 58 61,aD 0 62]
def cQb:C:=(aX alT [] (aX alS [1] (aX alR [2,3] (aX alQ [0] .ret))))
def qQb:fW:=⟨63,0,[.t 0],cQb⟩
def aiF:List O:=[oo 2<|.mv (.k .fN)]
def aiE:List O:=[aD 3 0,oo 4<|.build [.own 1 [],.int .i64 0] [(0,1,.t 3)],Ae 5 4,aD 2 5]
def cQc:C:=(aX aiF [0] (aX aiE [2] .ret))
def qQc:fW:=⟨6,1,[.t 2],cQc⟩
def G2:List O:=[oo 4<|.new [.int .i64 0,.own 2 []]]
def G0:List O:=[aD 9 0,aD 10 1,nX 11 10 1,uG 12 KP 9 11,oo 13<|.build [.int .i64 0,.own 2 []] [(0,1,.t 12)],oo 5<|.new [.int .i64 0,.own 2 []],ua 2 5 13]
def GZ:List O:=[jY 14 0 5,fI 15 14,UD 16 15 4]
def GY:List O:=[aD 17 1,jY 18 0 5,fI 19 18,aD 20 0,aD 21 1,nX 22 21 1,uG 23 KP 20 22,oo 24<|.bin .add (.t 19) (.t 23),oo 25<|.min [.t 17,.t 24],jY 26 0 5,ua 1 26 25]
def GX:List O:=[aD 27 0,oo 28<|.call KP [.t 27,ki 4],oo 29<|.bin .add (ki 1) (.t 28),aD 6 29]
def GW:List O:=[fH 7 0]
def GV:List O:=[aD 30 7,jY 31 0 5,fI 32 31,om 33 30 32]
def GU:List O:=[aD 36 7,nX 37 36 1,aD 8 37]
def GS:List O:=[aD 38 8,jY 39 0 5,fI 40 39,om 41 38 40]
def GR:List O:=[aD 44 0,oo 45<|.call KP [.t 44,ki 5],aD 46 6,oo 47<|.bin .sub (ki 5) (.t 46),oo 48<|.bin .geq (.t 45) (.t 47)]
def zm:List O:=[jY 49 1 5,fI 50 49,aD 51 7,aD 52 8,oo 53<|.build [.int .i64 0,.int .i64 0] [(0,1,.t 51),(1,1,.t 52)],oo 54<|.dK 2 1 [.int .i64 0,.int .i64 0] [(0,2,.t 53)],L6 55 2 50 54,jY 56 1 5,ua 1 56 55]
def zk:List O:=[aD 42 8,nX 43 42 1,aD 8 43]
def K7:C:=(.seq (aX GS [0,4,5,6,7,8,41] (nY 41 2)) (.seq (.aJ 3 (aX GR [0,4,5,6,7,8,48] (.cond (.t 48) (iD zm [0,4,5,6,7,8]) .skip))) (iD zk [0,4,5,6,7,8])))
def zj:List O:=[aD 34 7,nX 35 34 1,aD 7 35]
def Ti:C:=(.seq (aX GV [0,4,5,6,7,33] (nY 33 0)) (.seq (.aJ 1 (aX GU [0,4,5,6,7,8] (.aJ 2 (.loop K7)))) (iD zj [0,4,5,6,7])))
def zi:List O:=[rX 57 2 5,ua 2 4 57]
def cQd:C:=(aX G2 [0,1,4] (aX G0 [0,1,4,5] (.seq (aX GZ [0,1,4,5,16] (.cond (.t 16) (.pI GY true [(8,8),(9,9),(10,10),(0,2),(2,3),(2,4),(2,5),(0,6),(1,6),(2,6)] [0,4,5]) .skip)) (aX GX [0,4,5,6] (.seq (aX GW [0,4,5,6,7] (.aJ 0 (.loop Ti))) (aX zi [4] .ret))))))
def qQd:fW:=⟨58,2,[.c 4 (some 2)],cQd⟩
def JL:List O:=[Ae 1 0,sF 2 3,fH 3 0]
def JK:List O:=[rX 17 2 1,oe 18 nQm 17,aD 16 18,F8 19 0 16,F8 20 1 16,aD 4 19,aD 5 20]
def JJ:List O:=[aD 21 5,bzY 22 21 0]
def JI:List O:=[aD 23 5,sF 2 3,aD 3 23]
def JH:List O:=[sF 6 3]
def JG:List O:=[fH 7 0]
def JF:List O:=[aD 24 7,aD 25 4,oo 26<|.bin .leq (.t 24) (.t 25)]
def JE:List O:=[rX 30 2 1,aD 31 7,uG 32 nQn 30 31,aD 29 32,F8 33 0 29,F8 34 1 29,aD 8 33,aD 9 34]
def JD:List O:=[rX 36 2 1,aD 37 8,uG 38 nQo 36 37,aD 35 38,F8 39 0 35,F8 40 1 35,oo 10<|.new [.int .i64 0,.own 2 []],ua 2 10 39,aD 11 40]
def JC:List O:=[rX 42 2 10,oe 43 nQp 42,aD 41 43,F8 44 0 41,F8 45 1 41,aD 12 44,aD 13 45]
def Cj:List O:=[aD 46 12,jD 47 46,fH 48 0]
def Ci:List O:=[om 49 48 47]
def Ch:List O:=[jE 50 1 46 48,fI 51 50,aD 15 51]
def Cg:List O:=[aD 52 15,aD 53 8,uG 54 nQq 52 53]
def Cf:List O:=[aD 55 6,aD 56 7,aD 57 15,oo 58<|.call nQr [.t 55,.t 56,.t 57],aD 6 58]
def Ce:List O:=[nX 59 48 1,aD 48 59]
def Ot:C:=(aX Ci [1,4,6,7,8,46,47,48,49] (.seq (nY 49 2) (.seq (.aJ 3 (aX Ch [1,4,6,7,8,15,46,47,48] (aX Cg [1,4,6,7,8,15,46,47,48,54] (.cond (.t 54) (iD Cf [1,4,6,7,8,46,47,48]) .skip)))) (iD Ce [1,4,6,7,8,46,47,48]))))
def Cd:List O:=[aD 27 7,nX 28 27 1,aD 7 28]
def Th:C:=(.seq (aX JF [1,4,6,7,26] (nY 26 0)) (.seq (.aJ 1 (aX JE [1,4,6,7,8] (aX JD [1,4,6,7,8,10] (aX JC [1,4,6,7,8,12] (aX Cj [1,4,6,7,8,46,47,48] (.aJ 2 (.loop Ot))))))) (iD Cd [1,4,6,7])))
def Cc:List O:=[aD 60 6,oe 61 nQs 60,aD 2 61,fH 3 0]
def cQe:C:=(aX JL [1] (aX JK [1,4,5] (.seq (aX JJ [1,4,5,22] (.cond (.t 22) (aX JI [2,3] .ret) .skip)) (aX JH [1,4,6] (.seq (aX JG [1,4,6,7] (.aJ 0 (.loop Th))) (aX Cc [2,3] .ret))))))
def qQe:fW:=⟨62,1,[.t 2,.t 3],cQe⟩
def Yz:List O:=[fH 4 0]
def Yy:List O:=[aD 6 1,UD 7 6 1,aD 8 7,qT 9 8 0,gf 10 8<|.oS (.t 9),yI 11 8 1 10,xd 12 8 11,qT 13 8 0,gf 14 8<|.oS (.t 13),yI 15 8 0 14,xd 16 8 15,gf 17 8<|.len (.t 16),gf 18 8<|.bin .geq (.t 12) (.t 17),EU 19 8 18]
def Yx:List O:=[fH 4 0]
def Yw:List O:=[aD 20 0,oo 21<|.oS (.t 20),jY 22 0 21,fI 23 22,aD 24 0,oo 25<|.oS (.t 24),jY 26 1 25,fI 27 26,jE 28 1 23 27,fI 29 28,aD 5 29]
def Yv:List O:=[aD 30 0,oo 31<|.oS (.t 30),jY 32 1 31,fI 33 32,nX 34 33 1,oo 35<|.oS (.t 30),jY 36 1 35,ua 1 36 34]
def Yu:List O:=[aD 37 5,aD 38 1,uG 39 nQt 37 38,aD 4 39]
def cQf:C:=(aX Yz [0,1] (.seq (.seq (.pI Yy true [(0,0),(1,1),(2,2),(12,12),(13,13),(6,7),(6,8),(6,9),(3,10),(4,10),(5,10),(6,10),(6,11)] [0,1,19]) (.cond (.t 19) (aX Yx [4] .ret) .skip)) (.seq (.pI Yw true [(8,8),(9,9),(10,10),(3,4),(3,5),(3,6),(0,7),(1,7),(2,7),(3,7)] [0,1,5]) (aX Yv [1,5] (aX Yu [4] .ret)))))
def qQf:fW:=⟨40,2,[.t 4],cQf⟩
def RK:List O:=[sF 4 1]
def RJ:List O:=[sF 5 1]
def RI:List O:=[fH 6 0]
def RH:List O:=[aD 7 6,aD 8 1,om 9 7 8]
def RG:List O:=[aD 12 0,oo 13<|.call KP [.t 12,ki 2],oo 14<|.bin .eql (.t 13) (ki 1)]
def RF:List O:=[aD 15 5,aD 16 6,oo 17<|.dK 1 1 [.int .i64 0] [(0,1,.t 16)],L6 18 1 15 17,aD 5 18]
def RE:List O:=[aD 10 6,nX 11 10 1,aD 6 11]
def Tg:C:=(.seq (aX RH [0,1,5,6,9] (nY 9 0)) (.seq (.aJ 1 (aX RG [0,1,5,6,14] (.cond (.t 14) (iD RF [0,1,5,6]) .skip))) (iD RE [0,1,5,6])))
def RD:List O:=[aD 19 5,aD 4 19]
def cQg:C:=(aX RK [0,1] (aX RJ [0,1,5] (.seq (aX RI [0,1,5,6] (.aJ 0 (.loop Tg))) (aX RD [4] .ret))))
def qQg:fW:=⟨20,2,[.t 4],cQg⟩
def GQ:List O:=[Ae 2 0,fH 4 0]
def GP:List O:=[rX 10 2 2,oe 11 Oe 10,aD 9 11,F8 12 0 9,F8 13 1 9,aD 5 12,aD 6 13]
def GO:List O:=[aD 14 6,bzY 15 14 0]
def GN:List O:=[aD 16 6,aD 4 16]
def GM:List O:=[aD 17 1,jD 18 17,fH 19 0]
def GL:List O:=[om 20 19 18]
def GK:List O:=[aD 21 19,jE 22 3 17 19,rX 23 3 22,oo 8<|.new [.int .i64 0,.int .i64 0,.own 1 []],aD 7 21,ua 3 8 23]
def GJ:List O:=[jY 24 2 8,fI 25 24,jY 26 0 2,fI 27 26,uG 28 nQu 25 27,oo 29<|.un .not (.t 28),aD 30 29,yI 31 30 1 8,xd 32 30 31,gf 33 30<|.bin .lss (.t 32) (.k (.int .i64 (-1))),EU 34 30 33,aD 35 34,yI 36 35 1 8,xd 37 35 36,qT 38 35 7,gf 39 35<|.bin .geq (.t 37) (.t 38),EU 40 35 39]
def GI:List O:=[fH 4 4]
def GH:List O:=[nX 41 19 1,aD 19 41]
def Tf:C:=(aX GL [1,2,5,17,18,19,20] (.seq (nY 20 0) (.seq (.aJ 1 (aX GK [1,2,5,7,8,17,18,19] (aX GJ [1,2,5,17,18,19,40] (.cond (.t 40) (aX GI [4] .ret) .skip)))) (iD GH [1,2,5,17,18,19]))))
def zh:List O:=[aD 42 1,aD 43 5,oo 44<|.call nQv [.t 42,.t 43,.k (.func (.func nQw) [] [])],oo 45<|.un .not (.t 44)]
def zg:List O:=[fH 4 12]
def zf:List O:=[fH 4 0]
def cQh:C:=(aX GQ [1,2] (aX GP [1,2,5,6] (.seq (aX GO [1,2,5,6,15] (.cond (.t 15) (aX GN [4] .ret) .skip)) (.seq (aX GM [1,2,5,17,18,19] (.aJ 0 (.loop Tf))) (.seq (aX zh [45] (.cond (.t 45) (aX zg [4] .ret) .skip)) (aX zf [4] .ret))))))
def qQh:fW:=⟨46,2,[.t 4],cQh⟩
def GG:List O:=[Ae 2 0,fH 4 0]
def GF:List O:=[rX 10 2 2,oe 11 Of 10,aD 9 11,F8 12 0 9,F8 13 1 9,aD 5 12,aD 6 13]
def GD:List O:=[aD 14 6,bzY 15 14 0]
def GC:List O:=[aD 16 6,aD 4 16]
def GB:List O:=[aD 17 1,jD 18 17,fH 19 0]
def GA:List O:=[om 20 19 18]
def Gz:List O:=[aD 21 19,jE 22 3 17 19,rX 23 3 22,oo 8<|.new [.int .i64 0,.int .i64 0,.own 1 []],aD 7 21,ua 3 8 23]
def Gy:List O:=[jY 24 2 8,fI 25 24,jY 26 0 2,fI 27 26,uG 28 nQy 25 27,oo 29<|.un .not (.t 28),aD 30 29,yI 31 30 1 8,xd 32 30 31,gf 33 30<|.bin .lss (.t 32) (.k (.int .i64 (-1))),EU 34 30 33,aD 35 34,yI 36 35 1 8,xd 37 35 36,qT 38 35 7,gf 39 35<|.bin .geq (.t 37) (.t 38),EU 40 35 39]
def Gx:List O:=[fH 4 4]
def Gw:List O:=[nX 41 19 1,aD 19 41]
def Te:C:=(aX GA [1,2,5,17,18,19,20] (.seq (nY 20 0) (.seq (.aJ 1 (aX Gz [1,2,5,7,8,17,18,19] (aX Gy [1,2,5,17,18,19,40] (.cond (.t 40) (aX Gx [4] .ret) .skip)))) (iD Gw [1,2,5,17,18,19]))))
def ze:List O:=[aD 42 1,aD 43 5,uG 44 nQz 42 43,oo 45<|.un .not (.t 44)]
def zd:List O:=[fH 4 12]
def yZ:List O:=[fH 4 0]
def cQi:C:=(aX GG [1,2] (aX GF [1,2,5,6] (.seq (aX GD [1,2,5,6,15] (.cond (.t 15) (aX GC [4] .ret) .skip)) (.seq (aX GB [1,2,5,17,18,19] (.aJ 0 (.loop Te))) (.seq (aX ze [45] (.cond (.t 45) (aX zd [4] .ret) .skip)) (aX yZ [4] .ret))))))
def qQi:fW:=⟨46,2,[.t 4],cQi⟩
def aiD:List O:=[Ae 1 0,sF 2 3,fH 3 0]
def aiC:List O:=[rX 7 2 1,oe 8 nQA 7,aD 6 8,F8 9 0 6,F8 10 1 6,oo 4<|.new [.own 1 []],ua 1 4 9,aD 5 10]
def aiB:List O:=[aD 11 5,bzY 12 11 0,aD 13 12,xd 14 13 4,gf 15 13<|.len (.t 14),gf 16 13<|.bin .eql (.t 15) (ki 0),EU 17 13 16]
def aiA:List O:=[aD 18 5,sF 2 3,aD 3 18]
def aiz:List O:=[fI 19 4,oe 20 nQC 19,oo 21<|.U0 (.func nQD) [] [.t 4,.t 1],uG 22 nQB 20 21,aD 2 22,fH 3 0]
def cQj:C:=(aX aiD [1] (aX aiC [1,4,5] (.seq (aX aiB [1,4,5,17] (.cond (.t 17) (aX aiA [2,3] .ret) .skip)) (aX aiz [2,3] .ret))))
def qQj:fW:=⟨23,1,[.t 2,.t 3],cQj⟩
def Yt:List O:=[vm 4 false]
def Ys:List O:=[aD 5 0,jD 6 5,aD 7 1,jD 8 7,oo 9<|.bin .eql (.t 6) (.t 8),aD 10 9,ub 11 10 0,ub 12 10 1,gt 13 10<|.call nQG [.t 11,.t 12],gt 14 10<|.bin .eql (.t 13) (ki 0),F7 15 10 14,aD 4 15]
def cQk:C:=(aX Yt [0,1] (aX Ys [4] .ret))
def qQk:fW:=⟨16,2,[.t 4],cQk⟩
def alP:List O:=[Ae 4 1,Ae 5 2,fH 6 0]
def alO:List O:=[aD 7 0,oo 8<|.U0 (.func nQI) [] [.t 5,.t 4],uG 9 nQH 7 8,aD 6 9]
def cQl:C:=(aX alP [0,4,5] (aX alO [6] .ret))
def qQl:fW:=⟨10,3,[.t 6],cQl⟩
def Yr:List O:=[Ae 1 0,fH 2 0,fH 3 0]
def Yq:List O:=[rX 10 2 1,oe 11 nQK 10,aD 9 11,F8 12 0 9,F8 13 1 9,aD 4 12,aD 5 13]
def Yp:List O:=[fH 6 0]
def Yo:List O:=[aD 14 4,jD 15 14,fH 16 0]
def Yn:List O:=[om 17 16 15]
def Ym:List O:=[jE 18 1 14 16,fI 19 18,aD 8 19]
def Yl:List O:=[aD 20 6,aD 21 8,oo 22<|.max [.t 20,.t 21],aD 6 22]
def Yk:List O:=[nX 23 16 1,aD 16 23]
def aav:C:=(aX Yn [5,6,14,15,16,17] (.seq (nY 17 0) (.seq (.aJ 1 (aX Ym [5,6,8,14,15,16] (iD Yl [5,6,14,15,16]))) (iD Yk [5,6,14,15,16]))))
def Yj:List O:=[aD 24 6,aD 25 5,aD 2 24,aD 3 25]
def cQm:C:=(aX Yr [1] (aX Yq [4,5] (aX Yp [4,5,6] (.seq (aX Yo [5,6,14,15,16] (.aJ 0 (.loop aav))) (aX Yj [2,3] .ret)))))
def qQm:fW:=⟨26,1,[.t 2,.t 3],cQm⟩
def aiy:List O:=[Ae 2 0,sF 4 1,fH 5 0]
def aix:List O:=[rX 7 2 2,oe 8 nQL 7,aD 6 8]
def aiw:List O:=[aD 9 6,bzY 10 9 0]
def aiv:List O:=[aD 11 6,sF 4 1,aD 5 11]
def aiu:List O:=[rX 12 2 2,aD 13 1,uG 14 nQM 12 13,aD 4 14,fH 5 0]
def cQn:C:=(aX aiy [1,2] (.seq (aX aix [1,2,6] (aX aiw [1,2,6,10] (.cond (.t 10) (aX aiv [4,5] .ret) .skip))) (aX aiu [4,5] .ret)))
def qQn:fW:=⟨15,2,[.t 4,.t 5],cQn⟩
def NT:List O:=[Ae 2 0,oo 4<|.new [.int .i64 0,.own 2 []],fH 5 0]
def NS:List O:=[rX 10 2 2,oe 11 nQL 10,aD 6 11]
def NR:List O:=[aD 12 6,bzY 13 12 0]
def NQ:List O:=[oo 14<|.build [.int .i64 0,.own 2 []] [],aD 15 6,ua 2 4 14,aD 5 15]
def NP:List O:=[jY 16 0 2,fI 17 16,oo 18<|.build [.int .i64 0,.own 2 []] [(0,1,.t 17)],oo 7<|.new [.int .i64 0,.own 2 []],ua 2 7 18]
def NO:List O:=[jY 19 1 2,fI 20 19,jD 21 20,fH 22 0]
def NN:List O:=[om 23 22 21]
def NM:List O:=[jE 24 2 20 22,rX 25 2 24,oo 9<|.new [.int .i64 0,.int .i64 0],ua 2 9 25]
def NL:List O:=[aD 26 1,jY 27 0 9,fI 28 27,uG 29 nQN 26 28,aD 30 29,ub 31 30 1,gt 32 30<|.yf 1 (.t 9),Bw 33 30 32,gt 34 30<|.call nQN [.t 31,.t 33],F7 35 30 34]
def NK:List O:=[jY 36 1 7,fI 37 36,rX 38 2 9,oo 39<|.dK 2 1 [.int .i64 0,.int .i64 0] [(0,2,.t 38)],L6 40 2 37 39,jY 41 1 7,ua 1 41 40]
def Fl:List O:=[nX 42 22 1,aD 22 42]
def K6:C:=(aX NN [1,4,7,20,21,22,23] (.seq (nY 23 0) (.seq (.aJ 1 (aX NM [1,4,7,9,20,21,22] (aX NL [1,4,7,9,20,21,22,35] (.cond (.t 35) (iD NK [1,4,7,20,21,22]) .skip)))) (iD Fl [1,4,7,20,21,22]))))
def Fk:List O:=[rX 43 2 7,ua 2 4 43,fH 5 0]
def cQo:C:=(aX NT [1,2,4] (.seq (aX NS [1,2,4,6] (aX NR [1,2,4,6,13] (.cond (.t 13) (aX NQ [4,5] .ret) .skip))) (aX NP [1,2,4,7] (.seq (aX NO [1,4,7,20,21,22] (.aJ 0 (.loop K6))) (aX Fk [4,5] .ret)))))
def qQo:fW:=⟨44,2,[.c 4 (some 2),.t 5],cQo⟩
def Yi:List O:=[Ae 1 0,sF 2 1,fH 3 0]
def Yh:List O:=[rX 8 2 1,oe 9 nQL 8,aD 4 9]
def Yg:List O:=[aD 10 4,bzY 11 10 0]
def Yf:List O:=[aD 12 4,sF 2 1,aD 3 12]
def Ye:List O:=[sF 5 1]
def Yd:List O:=[jY 13 0 1,fI 14 13,oe 15 nQO 14,aD 6 15]
def Yc:List O:=[aD 16 6,jD 17 16,oo 18<|.bin .gtr (.t 17) (ki 0)]
def Yb:List O:=[rX 19 2 1,aD 20 6,oo 21<|.Fc 1 (.t 20) none (some (ki 1)),aD 22 6,oo 23<|.call nQP [.t 19,.t 21,.t 22],aD 7 23]
def Ya:List O:=[aD 24 5,aD 25 7,oo 26<|.dK 1 1 [.own 1 []] [(0,1,.t 25)],L6 27 1 24 26,aD 28 6,aD 29 7,uG 30 nQQ 28 29,aD 5 27,aD 6 30]
def Td:C:=(.seq (aX Yc [1,5,6,18] (nY 18 0)) (.aJ 1 (.seq (.pI Yb true [(4,4),(5,5),(0,1),(0,2),(0,3)] [1,5,6,7]) (iD Ya [1,5,6]))))
def X9:List O:=[aD 31 5,aD 2 31,fH 3 0]
def cQp:C:=(aX Yi [1] (.seq (aX Yh [1,4] (aX Yg [1,4,11] (.cond (.t 11) (aX Yf [2,3] .ret) .skip))) (aX Ye [1,5] (aX Yd [1,5,6] (.seq (.aJ 0 (.loop Td)) (aX X9 [2,3] .ret))))))
def qQp:fW:=⟨32,1,[.t 2,.t 3],cQp⟩
def NJ:List O:=[vm 4 false]
def NI:List O:=[aD 7 0,jD 8 7,fH 9 0]
def NH:List O:=[om 10 9 8]
def NG:List O:=[jE 11 1 7 9,fI 12 11,aD 6 12]
def NF:List O:=[aD 13 1,aD 14 6,uG 15 nQN 13 14,oo 16<|.un .not (.t 15)]
def ND:List O:=[vm 4 false]
def NC:List O:=[nX 17 9 1,aD 9 17]
def Tc:C:=(aX NH [1,7,8,9,10] (.seq (nY 10 0) (.seq (.aJ 1 (aX NG [1,6,7,8,9] (aX NF [1,7,8,9,16] (.cond (.t 16) (aX ND [4] .ret) .skip)))) (iD NC [1,7,8,9]))))
def NB:List O:=[vm 4 true]
def cQq:C:=(aX NJ [0,1] (.seq (aX NI [1,7,8,9] (.aJ 0 (.loop Tc))) (aX NB [4] .ret)))
def qQq:fW:=⟨18,2,[.t 4],cQq⟩
def JB:List O:=[sF 6 3]
def JA:List O:=[aD 8 0,jD 9 8,fH 10 0]
def Jz:List O:=[om 11 10 9]
def Jy:List O:=[aD 12 10,aD 7 12]
def Jx:List O:=[aD 13 0,aD 14 7,jE 15 3 13 14,jY 16 2 15,fI 17 16,aD 18 2,uG 19 nQk 17 18]
def Jw:List O:=[aD 20 0,aD 21 7,aD 22 0,aD 23 7,jE 24 3 22 23,jY 25 0 24,fI 26 25,aD 27 1,oo 28<|.max [.t 26,.t 27],jE 29 3 20 21,jY 30 0 29,ua 1 30 28]
def Jv:List O:=[aD 31 0,aD 6 31]
def Ju:List O:=[nX 32 10 1,aD 10 32]
def K5:C:=(aX Jz [0,1,2,9,10,11] (.seq (nY 11 0) (.seq (.aJ 1 (aX Jy [0,1,2,7,9,10] (aX Jx [0,1,2,7,9,10,19] (.cond (.t 19) (aX Jw [0] (aX Jv [6] .ret)) .skip)))) (iD Ju [0,1,2,9,10]))))
def Jt:List O:=[aD 33 0,aD 34 1,aD 35 2,oo 36<|.build [.int .i64 0,.int .i64 0,.own 1 []] [(0,1,.t 34),(2,1,.t 35)],oo 37<|.dK 3 1 [.int .i64 0,.int .i64 0,.own 1 []] [(0,3,.t 36)],L6 38 3 33 37,aD 6 38]
def cQr:C:=(aX JB [0,1,2] (.seq (aX JA [0,1,2,9,10] (.aJ 0 (.loop K5))) (aX Jt [6] .ret)))
def qQr:fW:=⟨39,3,[.t 6],cQr⟩
def sC:List O:=[sF 2 3]
def sB:List O:=[sF 3 3]
def sy:List O:=[aD 10 0,jD 11 10,fH 12 0]
def sx:List O:=[om 13 12 11]
def ss:List O:=[jE 14 3 10 12,rX 15 3 14,oo 5<|.new [.int .i64 0,.int .i64 0,.own 1 []],ua 3 5 15]
def sr:List O:=[aD 16 3,jD 17 16,aD 6 17]
def sk:List O:=[aD 18 6,oo 19<|.bin .gtr (.t 18) (ki 0),aD 20 19,gt 21 20<|.ld (some 3) (.t 5),ub 22 20 3,ub 23 20 6,gt 24 20<|.bin .sub (.t 23) (ki 1),gt 25 20<|.qc 3 (.t 22) (.t 24),gt 26 20<|.ld (some 3) (.t 25),gt 27 20<|.call nQR [.t 21,.t 26],F7 28 20 27]
def sj:List O:=[aD 29 6,oo 30<|.bin .sub (.t 29) (ki 1),aD 6 30]
def Tb:C:=(.seq (.seq (.pI sk true [(0,0),(1,1),(2,2),(9,9),(10,10),(3,4),(3,5),(3,6),(3,7),(3,8)] [3,5,6,10,11,12,28]) (nY 28 2)) (.aJ 3 (iD sj [3,5,6,10,11,12])))
def si:List O:=[aD 31 3,aD 32 6,oo 33<|.Fc 3 (.t 31) none (some (.t 32)),rX 34 3 5,oo 35<|.dK 3 1 [.int .i64 0,.int .i64 0,.own 1 []] [(0,3,.t 34)],aD 36 3,aD 37 6,oo 38<|.Fc 3 (.t 36) (some (.t 37)) none,L6 39 3 35 38,L6 40 3 33 39,aD 3 40]
def sg:List O:=[nX 41 12 1,aD 12 41]
def Ta:C:=(aX sx [3,10,11,12,13] (.seq (nY 13 0) (.seq (.aJ 1 (aX ss [3,5,10,11,12] (aX sr [3,5,6,10,11,12] (.seq (.aJ 2 (.loop Tb)) (.pI si true [(9,9),(10,10),(0,3),(1,3),(2,3),(0,4),(1,4),(2,4),(3,5),(4,5),(3,6),(4,6),(3,7),(4,7),(0,8),(1,8),(2,8)] [3,10,11,12]))))) (iD sg [3,10,11,12]))))
def mK:List O:=[aD 42 3,jD 43 42,fH 44 0]
def mJ:List O:=[om 45 44 43]
def mI:List O:=[aD 46 44,aD 7 46]
def mH:List O:=[aD 47 3,aD 48 7,jE 49 3 47 48,jY 50 1 49,oz<|.st 1 (.t 50) (.k (.int .i64 (-1)))]
def mG:List O:=[aD 51 3,jD 52 51,fH 53 0]
def mF:List O:=[om 54 53 52]
def mE:List O:=[aD 55 53,aD 8 55]
def mD:List O:=[aD 56 8,aD 57 7,oo 58<|.bin .eql (.t 56) (.t 57),aD 59 58,qT 60 59 3,qT 61 59 8,gf 62 59<|.qc 3 (.t 60) (.t 61),yI 63 59 2 62,xd 64 59 63,gf 65 59<|.len (.t 64),qT 66 59 3,qT 67 59 7,gf 68 59<|.qc 3 (.t 66) (.t 67),yI 69 59 2 68,xd 70 59 69,gf 71 59<|.len (.t 70),gf 72 59<|.bin .leq (.t 65) (.t 71),EU 73 59 72,aD 74 73,qT 75 74 3,qT 76 74 7,gf 77 74<|.qc 3 (.t 75) (.t 76),yI 78 74 2 77,xd 79 74 78,qT 80 74 3,qT 81 74 8,gf 82 74<|.qc 3 (.t 80) (.t 81),yI 83 74 2 82,xd 84 74 83,gf 85 74<|.call nQq [.t 79,.t 84],gf 86 74<|.un .not (.t 85),EU 87 74 86]
def mC:List O:=[aD 88 3,aD 89 7,jE 90 3 88 89,jY 91 1 90,fI 92 91,aD 9 92]
def mB:List O:=[aD 93 9,UD 94 93 0,aD 95 94,qT 96 95 3,qT 97 95 8,gf 98 95<|.qc 3 (.t 96) (.t 97),yI 99 95 2 98,xd 100 95 99,gf 101 95<|.len (.t 100),qT 102 95 3,qT 103 95 9,gf 104 95<|.qc 3 (.t 102) (.t 103),yI 105 95 2 104,xd 106 95 105,gf 107 95<|.len (.t 106),gf 108 95<|.bin .lss (.t 101) (.t 107),EU 109 95 108]
def mA:List O:=[aD 110 3,aD 111 7,aD 112 8,jE 113 3 110 111,jY 114 1 113,ua 1 114 112]
def mz:List O:=[nX 115 53 1,aD 53 115]
def BS:C:=(aX mF [3,7,43,44,52,53,54] (.seq (nY 54 6) (.seq (.aJ 7 (aX mE [3,7,8,43,44,52,53] (.seq (.seq (.pI mD true [(2,2),(3,3),(16,16),(17,17),(18,18),(29,29),(30,30),(31,31),(8,10),(8,11),(8,12),(8,13),(4,14),(5,14),(6,14),(7,14),(8,14),(9,14),(8,15),(23,24),(23,25),(23,26),(23,27),(19,28),(20,28),(21,28),(22,28),(23,28)] [3,7,8,43,44,52,53,87]) (.cond (.t 87) (.exit 7) .skip)) (aX mC [3,7,8,9,43,44,52,53] (.seq (.pI mB true [(0,0),(1,1),(2,2),(15,15),(16,16),(7,9),(7,10),(7,11),(7,12),(3,13),(4,13),(5,13),(6,13),(7,13),(8,13),(7,14)] [3,7,8,43,44,52,53,109]) (.cond (.t 109) (iD mA [3,7,43,44,52,53]) .skip)))))) (iD mz [3,7,43,44,52,53]))))
def my:List O:=[nX 116 44 1,aD 44 116]
def S9:C:=(aX mJ [3,43,44,45] (.seq (nY 45 4) (.seq (.aJ 5 (aX mI [3,7,43,44] (aX mH [3,7,43,44] (aX mG [3,7,43,44,52,53] (.aJ 6 (.loop BS)))))) (iD my [3,43,44]))))
def mw:List O:=[aD 117 3,aD 2 117]
def cQs:C:=(aX sC [0] (aX sB [0,3] (.seq (aX sy [3,10,11,12] (.aJ 0 (.loop Ta))) (.seq (aX mK [3,43,44] (.aJ 4 (.loop S9))) (aX mw [2] .ret)))))
def qQs:fW:=⟨118,1,[.t 2],cQs⟩
def ait:List O:=[fH 4 0]
def ais:List O:=[aD 5 0,aD 6 1,oo 7<|.bin .rem (.t 5) (.t 6),aD 8 1,oo 9<|.bin .add (.t 7) (.t 8),aD 10 1,oo 11<|.bin .rem (.t 9) (.t 10),aD 4 11]
def cQt:C:=(aX ait [0,1] (aX ais [4] .ret))
def qQt:fW:=⟨12,2,[.t 4],cQt⟩
def DN:List O:=[vm 4 false]
def DM:List O:=[aD 7 0,jD 8 7,fH 9 0]
def DL:List O:=[om 10 9 8]
def DK:List O:=[aD 11 9,jE 12 1 7 9,fI 13 12,aD 5 11,aD 6 13]
def DJ:List O:=[aD 14 6,UD 15 14 0,aD 16 15,qT 17 16 6,qT 18 16 1,gf 19 16<|.bin .geq (.t 17) (.t 18),EU 20 16 19,aD 21 20,qT 22 21 5,gf 23 21<|.bin .gtr (.t 22) (ki 0),qT 24 21 23,ub 25 24 0,ub 26 24 5,gt 27 24<|.bin .sub (.t 26) (ki 1),gt 28 24<|.qc 1 (.t 25) (.t 27),Bw 29 24 28,ub 30 24 6,gt 31 24<|.bin .geq (.t 29) (.t 30),gf 32 21<|.pick (.t 24) (.t 31) (.k (.bool false)),EU 33 21 32]
def DI:List O:=[vm 4 false]
def DH:List O:=[nX 34 9 1,aD 9 34]
def HM:C:=(aX DL [0,1,7,8,9,10] (.seq (nY 10 0) (.seq (.aJ 1 (aX DK [0,1,5,6,7,8,9] (aX DJ [0,1,7,8,9,33] (.cond (.t 33) (aX DI [4] .ret) .skip)))) (iD DH [0,1,7,8,9]))))
def DG:List O:=[vm 4 true]
def cQu:C:=(aX DN [0,1] (.seq (aX DM [0,1,7,8,9] (.aJ 0 (.loop HM))) (aX DG [4] .ret)))
def qQu:fW:=⟨35,2,[.t 4],cQu⟩
def Js:List O:=[vm 6 false]
def Jr:List O:=[aD 10 0,jD 11 10,aD 12 1,jD 13 12,oo 14<|.bin .neq (.t 11) (.t 13)]
def Jq:List O:=[vm 6 false]
def Jp:List O:=[aD 15 0,jD 16 15,fH 17 0]
def Jo:List O:=[om 18 17 16]
def Jn:List O:=[aD 19 17,jE 20 3 15 17,rX 21 3 20,oo 8<|.new [.int .i64 0,.int .i64 0,.own 1 []],aD 7 19,ua 3 8 21]
def Jm:List O:=[aD 22 1,aD 23 7,jE 24 3 22 23,rX 25 3 24,oo 9<|.new [.int .i64 0,.int .i64 0,.own 1 []],ua 3 9 25]
def Jl:List O:=[aD 26 2,rX 27 3 8,rX 28 3 9,oo 29<|.jC (.t 26) [.t 27,.t 28],oo 30<|.un .not (.t 29)]
def Jk:List O:=[vm 6 false]
def Jj:List O:=[nX 31 17 1,aD 17 31]
def S8:C:=(aX Jo [1,2,15,16,17,18] (.seq (nY 18 0) (.seq (.aJ 1 (aX Jn [1,2,7,8,15,16,17] (aX Jm [1,2,8,9,15,16,17] (aX Jl [1,2,15,16,17,30] (.cond (.t 30) (aX Jk [6] .ret) .skip))))) (iD Jj [1,2,15,16,17]))))
def Cb:List O:=[vm 6 true]
def cQv:C:=(aX Js [0,1,2] (.seq (aX Jr [0,1,2,14] (.cond (.t 14) (aX Jq [6] .ret) .skip)) (.seq (aX Jp [1,2,15,16,17] (.aJ 0 (.loop S8))) (aX Cb [6] .ret))))
def qQv:fW:=⟨32,3,[.t 6],cQv⟩
def X8:List O:=[Ae 2 0,Ae 3 1,vm 4 false]
def X7:List O:=[rX 5 3 2,rX 6 3 3,uG 7 nQx 5 6,aD 8 7,gt 9 8<|.yf 1 (.t 2),Bw 10 8 9,gt 11 8<|.yf 1 (.t 3),Bw 12 8 11,gt 13 8<|.bin .eql (.t 10) (.t 12),F7 14 8 13,aD 4 14]
def cQw:C:=(aX X8 [2,3] (aX X7 [4] .ret))
def qQw:fW:=⟨15,2,[.t 4],cQw⟩
def acQ:List O:=[Ae 2 0,Ae 3 1,vm 4 false]
def acP:List O:=[jY 5 0 2,fI 6 5,jY 7 0 3,fI 8 7,oo 9<|.bin .eql (.t 6) (.t 8),aD 10 9,gt 11 10<|.yf 2 (.t 2),Bw 12 10 11,gt 13 10<|.yf 2 (.t 3),Bw 14 10 13,gt 15 10<|.call nQS [.t 12,.t 14],F7 16 10 15,aD 4 16]
def cQx:C:=(aX acQ [2,3] (aX acP [4] .ret))
def qQx:fW:=⟨17,2,[.t 4],cQx⟩
def DF:List O:=[vm 4 false]
def DE:List O:=[aD 7 0,jD 8 7,fH 9 0]
def DD:List O:=[om 10 9 8]
def DC:List O:=[aD 11 9,jE 12 1 7 9,fI 13 12,aD 5 11,aD 6 13]
def DB:List O:=[aD 14 6,UD 15 14 0,aD 16 15,qT 17 16 6,qT 18 16 1,gf 19 16<|.bin .geq (.t 17) (.t 18),EU 20 16 19,aD 21 20,qT 22 21 5,gf 23 21<|.bin .gtr (.t 22) (ki 0),qT 24 21 23,ub 25 24 0,ub 26 24 5,gt 27 24<|.bin .sub (.t 26) (ki 1),gt 28 24<|.qc 1 (.t 25) (.t 27),Bw 29 24 28,ub 30 24 6,gt 31 24<|.bin .geq (.t 29) (.t 30),gf 32 21<|.pick (.t 24) (.t 31) (.k (.bool false)),EU 33 21 32]
def DA:List O:=[vm 4 false]
def Dz:List O:=[nX 34 9 1,aD 9 34]
def HK:C:=(aX DD [0,1,7,8,9,10] (.seq (nY 10 0) (.seq (.aJ 1 (aX DC [0,1,5,6,7,8,9] (aX DB [0,1,7,8,9,33] (.cond (.t 33) (aX DA [4] .ret) .skip)))) (iD Dz [0,1,7,8,9]))))
def Dy:List O:=[vm 4 true]
def cQy:C:=(aX DF [0,1] (.seq (aX DE [0,1,7,8,9] (.aJ 0 (.loop HK))) (aX Dy [4] .ret)))
def qQy:fW:=⟨35,2,[.t 4],cQy⟩
def Gv:List O:=[vm 4 false]
def Gu:List O:=[aD 6 0,jD 7 6,aD 8 1,jD 9 8,oo 10<|.bin .neq (.t 7) (.t 9)]
def Gt:List O:=[vm 4 false]
def Gs:List O:=[aD 11 0,jD 12 11,fH 13 0]
def Gr:List O:=[om 14 13 12]
def Gq:List O:=[aD 15 13,aD 5 15]
def Gp:List O:=[aD 16 0,aD 17 5,jE 18 3 16 17,jY 19 0 18,fI 20 19,aD 21 1,aD 22 5,jE 23 3 21 22,jY 24 0 23,fI 25 24,oo 26<|.bin .neq (.t 20) (.t 25),aD 27 26,qT 28 27 0,qT 29 27 5,gf 30 27<|.qc 3 (.t 28) (.t 29),yI 31 27 1 30,xd 32 27 31,qT 33 27 1,qT 34 27 5,gf 35 27<|.qc 3 (.t 33) (.t 34),yI 36 27 1 35,xd 37 27 36,gf 38 27<|.bin .neq (.t 32) (.t 37),EU 39 27 38,aD 40 39,qT 41 40 0,qT 42 40 5,gf 43 40<|.qc 3 (.t 41) (.t 42),yI 44 40 2 43,xd 45 40 44,qT 46 40 1,qT 47 40 5,gf 48 40<|.qc 3 (.t 46) (.t 47),yI 49 40 2 48,xd 50 40 49,gf 51 40<|.call nQk [.t 45,.t 50],gf 52 40<|.un .not (.t 51),EU 53 40 52]
def Gn:List O:=[vm 4 false]
def Gm:List O:=[nX 54 13 1,aD 13 54]
def S7:C:=(aX Gr [0,1,12,13,14] (.seq (nY 14 0) (.seq (.aJ 1 (aX Gq [0,1,5,12,13] (.seq (.pI Gp true [(10,10),(11,11),(22,22),(23,23),(24,24),(35,35),(36,36),(37,37),(4,5),(4,6),(4,7),(4,8),(0,9),(1,9),(2,9),(3,9),(4,9),(16,17),(16,18),(16,19),(16,20),(12,21),(13,21),(14,21),(15,21),(16,21),(29,30),(29,31),(29,32),(29,33),(25,34),(26,34),(27,34),(28,34),(29,34)] [0,1,12,13,53]) (.cond (.t 53) (aX Gn [4] .ret) .skip)))) (iD Gm [0,1,12,13]))))
def Gl:List O:=[vm 4 true]
def cQz:C:=(aX Gv [0,1] (.seq (aX Gu [0,1,10] (.cond (.t 10) (aX Gt [4] .ret) .skip)) (.seq (aX Gs [0,1,12,13] (.aJ 0 (.loop S7))) (aX Gl [4] .ret))))
def qQz:fW:=⟨55,2,[.t 4],cQz⟩
def aiN:List O:=[Ae 1 0,sF 2 1,fH 3 0]
def aiM:List O:=[rX 7 2 1,oe 8 nQT 7,aD 4 8]
def aiL:List O:=[aD 9 4,bzY 10 9 0]
def aiK:List O:=[aD 11 4,sF 2 1,aD 3 11]
def aiJ:List O:=[rX 13 2 1,oe 14 nQU 13,aD 12 14,F8 15 0 12,F8 16 1 12,aD 5 15,aD 6 16]
def aiI:List O:=[aD 17 6,aD 2 17,fH 3 0]
def cQA:C:=(aX aiN [1] (.seq (aX aiM [1,4] (aX aiL [1,4,10] (.cond (.t 10) (aX aiK [2,3] .ret) .skip))) (aX aiJ [6] (aX aiI [2,3] .ret))))
def qQA:fW:=⟨18,1,[.t 2,.t 3],cQA⟩
def qG:List O:=[sF 4 3]
def qF:List O:=[oo 15<|.FA,aD 5 15]
def qE:List O:=[sF 6 3]
def qD:List O:=[aD 16 0,nX 17 16 1,fH 18 0]
def qC:List O:=[om 19 18 17]
def qB:List O:=[aD 20 18,aD 7 20]
def qA:List O:=[aD 21 1,aD 22 7,oo 23<|.jC (.t 21) [.t 22],jD 24 23,fH 25 0]
def qz:List O:=[om 26 25 24]
def qy:List O:=[jE 27 1 23 25,fI 28 27,aD 9 28]
def qx:List O:=[aD 30 5,aD 31 9,oe 32 nQV 31,oo 33<|.Bs .CR true (.int .i64 0) (.t 30) (.t 32),aD 29 33,F8 34 0 29,F8 35 1 29,aD 10 34,aD 11 35]
def k8:List O:=[aD 36 11,oo 37<|.un .not (.t 36)]
def k7:List O:=[aD 38 6,aD 39 9,oo 40<|.build [.int .i64 0,.int .i64 0,.own 1 []] [(1,1,.k (.int .i64 (-1))),(2,1,.t 39)],oo 41<|.dK 3 1 [.int .i64 0,.int .i64 0,.own 1 []] [(0,3,.t 40)],L6 42 3 38 41,aD 6 42]
def kZ:List O:=[aD 43 5,aD 44 9,oe 45 nQV 44,aD 46 7,oz<|.CH .CR (.t 43) (.t 45) (.t 46)]
def kY:List O:=[nX 47 25 1,aD 25 47]
def Lc:C:=(aX qz [1,5,6,7,17,18,23,24,25,26] (.seq (nY 26 2) (.seq (.aJ 3 (aX qy [1,5,6,7,9,17,18,23,24,25] (.seq (aX qx [1,5,6,7,9,11,17,18,23,24,25] (aX k8 [1,5,6,7,9,17,18,23,24,25,37] (.cond (.t 37) (iD k7 [1,5,6,7,9,17,18,23,24,25]) .skip))) (iD kZ [1,5,6,7,17,18,23,24,25])))) (iD kY [1,5,6,7,17,18,23,24,25]))))
def kX:List O:=[nX 48 18 1,aD 18 48]
def Ow:C:=(aX qC [1,5,6,17,18,19] (.seq (nY 19 0) (.seq (.aJ 1 (aX qB [1,5,6,7,17,18] (aX qA [1,5,6,7,17,18,23,24,25] (.aJ 2 (.loop Lc))))) (iD kX [1,5,6,17,18]))))
def kW:List O:=[aD 49 6,jD 50 49,fH 51 0]
def kV:List O:=[om 52 51 50]
def kU:List O:=[aD 53 51,aD 12 53]
def kT:List O:=[aD 54 6,aD 55 12,aD 56 5,aD 57 6,aD 58 12,jE 59 3 57 58,jY 60 2 59,fI 61 60,oe 62 nQV 61,oo 63<|.Bs .CR false (.int .i64 0) (.t 56) (.t 62),jE 64 3 54 55,jY 65 0 64,ua 1 65 63]
def kS:List O:=[nX 66 51 1,aD 51 66]
def Tu:C:=(aX kV [5,6,50,51,52] (.seq (nY 52 4) (.seq (.aJ 5 (aX kU [5,6,12,50,51] (iD kT [5,6,50,51]))) (iD kS [5,6,50,51]))))
def kR:List O:=[aD 67 6,oo 68<|.call nQW [.t 67,.k (.func (.func nQX) [] [])]]
def kQ:List O:=[aD 69 6,jD 70 69,fH 71 0]
def kP:List O:=[om 72 71 70]
def kO:List O:=[aD 73 71,aD 13 73]
def kN:List O:=[aD 74 13,fH 75 0]
def kM:List O:=[om 76 75 74]
def kK:List O:=[aD 77 75,aD 14 77]
def kJ:List O:=[aD 78 6,aD 79 14,jE 80 3 78 79,jY 81 2 80,fI 82 81,jD 83 82,aD 84 6,aD 85 13,jE 86 3 84 85,jY 87 2 86,fI 88 87,jD 89 88,oo 90<|.bin .gtr (.t 83) (.t 89),aD 91 90,ub 92 91 6,ub 93 91 13,gt 94 91<|.qc 3 (.t 92) (.t 93),gt 95 91<|.yf 2 (.t 94),Bw 96 91 95,ub 97 91 6,ub 98 91 14,gt 99 91<|.qc 3 (.t 97) (.t 98),gt 100 91<|.yf 2 (.t 99),Bw 101 91 100,gt 102 91<|.call nQ1 [.t 96,.t 101],F7 103 91 102,aD 104 103,ub 105 104 6,ub 106 104 13,gt 107 104<|.qc 3 (.t 105) (.t 106),gt 108 104<|.yf 1 (.t 107),Bw 109 104 108,gt 110 104<|.bin .lss (.t 109) (ki 0),ub 111 104 110,qT 112 111 6,qT 113 111 14,gf 114 111<|.qc 3 (.t 112) (.t 113),yI 115 111 2 114,xd 116 111 115,gf 117 111<|.len (.t 116),qT 118 111 6,qT 119 111 6,qT 120 111 13,gf 121 111<|.qc 3 (.t 119) (.t 120),yI 122 111 1 121,xd 123 111 122,gf 124 111<|.qc 3 (.t 118) (.t 123),yI 125 111 2 124,xd 126 111 125,gf 127 111<|.len (.t 126),gf 128 111<|.bin .lss (.t 117) (.t 127),gt 129 104<|.pick (.t 111) (.k (.bool true)) (.t 128),F7 130 104 129]
def kI:List O:=[aD 131 6,aD 132 13,aD 133 14,jE 134 3 131 132,jY 135 1 134,ua 1 135 133]
def kH:List O:=[nX 136 75 1,aD 75 136]
def uy:C:=(aX kM [6,13,70,71,74,75,76] (.seq (nY 76 8) (.seq (.aJ 9 (aX kK [6,13,14,70,71,74,75] (.seq (.pI kJ true [(12,12),(13,13),(24,24),(25,25),(26,26),(29,29),(30,30),(31,31),(32,32),(33,33),(50,50),(51,51),(52,52),(4,6),(4,7),(4,8),(4,9),(0,10),(1,10),(2,10),(3,10),(4,10),(5,10),(4,11),(18,19),(18,20),(18,21),(18,22),(14,23),(15,23),(16,23),(17,23),(18,23),(38,40),(38,41),(38,42),(38,43),(38,44),(34,45),(35,45),(36,45),(37,45),(38,45),(39,45),(40,45),(38,46),(38,47),(34,48),(35,48),(36,48),(37,48),(38,48),(39,48),(38,49)] [6,13,14,70,71,74,75,130]) (.cond (.t 130) (iD kI [6,13,70,71,74,75]) .skip)))) (iD kH [6,13,70,71,74,75]))))
def kG:List O:=[nX 137 71 1,aD 71 137]
def Tt:C:=(aX kP [6,70,71,72] (.seq (nY 72 6) (.seq (.aJ 7 (aX kO [6,13,70,71] (aX kN [6,13,70,71,74,75] (.aJ 8 (.loop uy))))) (iD kG [6,70,71]))))
def kF:List O:=[aD 138 6,aD 4 138]
def cQB:C:=(aX qG [0,1] (aX qF [0,1,5] (aX qE [0,1,5,6] (.seq (aX qD [1,5,6,17,18] (.aJ 0 (.loop Ow))) (.seq (aX kW [5,6,50,51] (.aJ 4 (.loop Tu))) (aX kR [6] (.seq (aX kQ [6,70,71] (.aJ 6 (.loop Tt))) (aX kF [4] .ret))))))))
def qQB:fW:=⟨139,2,[.t 4],cQB⟩
def Zb:List O:=[fH 2 0]
def Za:List O:=[aD 5 0,jD 6 5,UD 7 6 1]
def Y9:List O:=[oo 8<|.bad,oz<|.bad]
def Y8:List O:=[aD 9 0,oo 10<|.qc 1 (.t 9) (ki 0),fI 11 10,aD 3 11]
def Y7:List O:=[fH 4 1]
def Y6:List O:=[aD 12 4,aD 13 0,jD 14 13,om 15 12 14]
def Y5:List O:=[aD 18 3,aD 19 0,aD 20 4,jE 21 1 19 20,fI 22 21,oo 23<|.max [.t 18,.t 22],aD 3 23]
def Y4:List O:=[aD 16 4,nX 17 16 1,aD 4 17]
def aaz:C:=(.seq (aX Y6 [0,3,4,15] (nY 15 0)) (.seq (.aJ 1 (iD Y5 [0,3,4])) (iD Y4 [0,3,4])))
def Y3:List O:=[aD 24 3,aD 2 24]
def cQC:C:=(aX Zb [0] (.seq (aX Za [0,7] (.cond (.t 7) (iD Y9 [0]) .skip)) (aX Y8 [0,3] (.seq (aX Y7 [0,3,4] (.aJ 0 (.loop aaz))) (aX Y3 [2] .ret)))))
def qQC:fW:=⟨25,1,[.t 2],cQC⟩
def Y1:List O:=[sF 4 1]
def Y0:List O:=[oo 5<|.mv (.k (.int .u64 0))]
def YZ:List O:=[fI 8 1,jD 9 8,fH 10 0]
def YY:List O:=[om 11 10 9]
def YX:List O:=[aD 12 10,jE 13 1 8 10,fI 14 13,aD 6 12,aD 7 14]
def YW:List O:=[aD 15 7,aD 16 0,oo 17<|.bin .geq (.t 15) (.t 16)]
def YV:List O:=[aD 18 5,aD 19 6,oe 20 nQE 19,oo 21<|.bin .or (.t 18) (.t 20),aD 5 21]
def YU:List O:=[nX 22 10 1,aD 10 22]
def aay:C:=(aX YY [0,2,5,8,9,10,11] (.seq (nY 11 0) (.seq (.aJ 1 (aX YX [0,2,5,6,7,8,9,10] (aX YW [0,2,5,6,8,9,10,17] (.cond (.t 17) (iD YV [0,2,5,8,9,10]) .skip)))) (iD YU [0,2,5,8,9,10]))))
def YT:List O:=[rX 23 2 2,aD 24 5,uG 25 nQF 23 24,aD 4 25]
def cQD:C:=(aX Y1 [0,1,2] (aX Y0 [0,1,2,5] (.seq (aX YZ [0,2,5,8,9,10] (.aJ 0 (.loop aay))) (aX YT [4] .ret))))
def qQD:fW:=⟨26,1,[.t 4],cQD⟩
def ame:List O:=[oo 2<|.mv (.k (.int .u64 0))]
def amd:List O:=[aD 3 0,UD 4 3 0,aD 5 4,qT 6 5 0,gf 7 5<|.bin .geq (.t 6) (ki 64),EU 8 5 7]
def amc:List O:=[oo 2<|.mv (.k (.int .u64 0))]
def amb:List O:=[aD 9 0,oo 10<|.bin .shl (.k (.int .u64 1)) (.t 9),aD 2 10]
def cQE:C:=(aX ame [0] (.seq (aX amd [0,8] (.cond (.t 8) (aX amc [2] .ret) .skip)) (aX amb [2] .ret)))
def qQE:fW:=⟨11,1,[.t 2],cQE⟩
def YS:List O:=[Ae 2 0,sF 4 1]
def YR:List O:=[rX 9 2 2,oe 10 nQ2 9,aD 5 10]
def YQ:List O:=[sF 6 1]
def YP:List O:=[aD 11 1,aD 7 11]
def YO:List O:=[aD 12 7,oo 13<|.bin .neq (.t 12) (.k (.int .u64 0))]
def YN:List O:=[aD 14 5,aD 15 7,aD 16 7,oo 17<|.un .neg (.t 16),oo 18<|.bin .and (.t 15) (.t 17),aD 19 1,oo 20<|.call nQ3 [.t 14,.t 18,.t 19],aD 8 20]
def YM:List O:=[aD 21 6,aD 22 8,oe 23 nQ4 22,oo 24<|.dK 1 1 [.own 1 []] [(0,1,.t 23)],L6 25 1 21 24,aD 6 25]
def YL:List O:=[aD 26 7,aD 27 8,oo 28<|.bin .andNot (.t 26) (.t 27),aD 7 28]
def Ts:C:=(.seq (aX YO [1,5,6,7,13] (nY 13 0)) (.aJ 1 (aX YN [1,5,6,7,8] (aX YM [1,5,6,7,8] (iD YL [1,5,6,7])))))
def YK:List O:=[aD 29 6,aD 4 29]
def cQF:C:=(aX YS [1,2] (aX YR [1,5] (aX YQ [1,5,6] (.seq (aX YP [1,5,6,7] (.aJ 0 (.loop Ts))) (aX YK [4] .ret)))))
def qQF:fW:=⟨30,2,[.t 4],cQF⟩
def DX:List O:=[fH 4 0]
def DW:List O:=[aD 6 0,jD 7 6,fH 8 0]
def DV:List O:=[om 9 8 7]
def DU:List O:=[aD 10 8,aD 5 10]
def DT:List O:=[aD 12 5,aD 13 1,jD 14 13,oo 15<|.bin .geq (.t 12) (.t 14),aD 16 15,qT 17 16 0,qT 18 16 5,gf 19 16<|.qc 1 (.t 17) (.t 18),xd 20 16 19,qT 21 16 1,qT 22 16 5,gf 23 16<|.qc 1 (.t 21) (.t 22),xd 24 16 23,gf 25 16<|.bin .gtr (.t 20) (.t 24),EU 26 16 25,aD 11 26]
def DS:List O:=[fH 4 1]
def DR:List O:=[aD 28 0,aD 29 5,jE 30 1 28 29,fI 31 30,aD 32 1,aD 33 5,jE 34 1 32 33,fI 35 34,om 36 31 35,aD 27 36]
def DQ:List O:=[oo 4<|.mv (.k (.int .i64 (-1)))]
def DP:List O:=[nX 37 8 1,aD 8 37]
def Lb:C:=(aX DV [0,1,7,8,9] (.seq (nY 9 0) (.seq (.aJ 1 (aX DU [0,1,5,7,8] (.aJ 2 (.seq (.pI DT true [(3,3),(4,4),(13,13),(14,14),(15,15),(8,9),(8,10),(8,11),(5,12),(6,12),(7,12),(8,12)] [0,1,5,7,8,11]) (.cond (.t 11) (aX DS [4] .ret) (.seq (.pI DR true [(8,8),(9,9),(3,4),(3,5),(3,6),(0,7),(1,7),(2,7),(3,7)] [0,1,7,8,27]) (.cond (.t 27) (aX DQ [4] .ret) .skip))))))) (iD DP [0,1,7,8]))))
def DO:List O:=[aD 38 0,jD 39 38,aD 40 1,jD 41 40,om 42 39 41]
def wA:List O:=[oo 4<|.mv (.k (.int .i64 (-1)))]
def wz:List O:=[fH 4 0]
def cQG:C:=(aX DX [0,1] (.seq (aX DW [0,1,7,8] (.aJ 0 (.loop Lb))) (.seq (aX DO [42] (.cond (.t 42) (aX wA [4] .ret) .skip)) (aX wz [4] .ret))))
def qQG:fW:=⟨43,2,[.t 4],cQG⟩
def ama:List O:=[fH 4 0]
def al9:List O:=[oo 5<|.mv (.k (.int .i64 (-1)))]
def al8:List O:=[aD 8 0,jD 9 8,fH 10 0]
def al7:List O:=[om 11 10 9]
def al6:List O:=[aD 12 10,jE 13 3 8 10,rX 14 3 13,oo 7<|.new [.int .i64 0,.int .i64 0,.own 1 []],aD 6 12,ua 3 7 14]
def al5:List O:=[aD 15 1,rX 16 3 7,oo 17<|.jC (.t 15) [.t 16],aD 18 17,ub 19 18 5,gt 20 18<|.bin .lss (.t 19) (ki 0),ub 21 18 20,yI 22 21 0 7,xd 23 21 22,qT 24 21 0,qT 25 21 5,gf 26 21<|.qc 3 (.t 24) (.t 25),yI 27 21 0 26,xd 28 21 27,gf 29 21<|.bin .geq (.t 23) (.t 28),gt 30 18<|.pick (.t 21) (.k (.bool true)) (.t 29),F7 31 18 30]
def al4:List O:=[aD 32 6,aD 5 32]
def al3:List O:=[nX 33 10 1,aD 10 33]
def amw:C:=(aX al7 [0,1,5,8,9,10,11] (.seq (nY 11 0) (.seq (.aJ 1 (aX al6 [0,1,5,6,7,8,9,10] (.seq (.pI al5 true [(2,2),(3,3),(4,4),(5,5),(6,6),(14,14),(15,15),(16,16),(0,1),(8,9),(8,10),(8,11),(8,12),(7,13),(8,13)] [0,1,5,6,8,9,10,31]) (.cond (.t 31) (iD al4 [0,1,5,8,9,10]) .skip)))) (iD al3 [0,1,5,8,9,10]))))
def al0:List O:=[aD 34 5,aD 4 34]
def cQH:C:=(aX ama [0,1] (aX al9 [0,1,5] (.seq (aX al8 [0,1,5,8,9,10] (.aJ 0 (.loop amw))) (aX al0 [4] .ret))))
def qQH:fW:=⟨35,2,[.t 4],cQH⟩
def alZ:List O:=[Ae 3 0,vm 4 false]
def alY:List O:=[jY 5 0 3,fI 6 5,fI 7 1,oo 8<|.bin .leq (.t 6) (.t 7),aD 9 8,gt 10 9<|.yf 2 (.t 3),Bw 11 9 10,Bw 12 9 2,gt 13 9<|.call nQJ [.t 11,.t 12],F7 14 9 13,aD 4 14]
def cQI:C:=(aX alZ [1,2,3] (aX alY [4] .ret))
def qQI:fW:=⟨15,1,[.t 4],cQI⟩
def alX:List O:=[vm 4 false]
def alW:List O:=[aD 5 0,aD 6 1,uG 7 nQ5 5 6,aD 4 7]
def cQJ:C:=(aX alX [0,1] (aX alW [4] .ret))
def qQJ:fW:=⟨8,2,[.t 4],cQJ⟩
def Ki:List O:=[Ae 1 0,sF 2 1,fH 3 0]
def Kh:List O:=[rX 9 2 1,oe 10 nQL 9,aD 4 10]
def Kg:List O:=[aD 11 4,bzY 12 11 0]
def Kf:List O:=[aD 13 4,sF 2 1,aD 3 13]
def Ke:List O:=[jY 14 0 1,fI 15 14,oo 16<|.P6 1 [.int .i64 0] (.t 15) (.t 15),aD 5 16]
def Kc:List O:=[fH 6 1]
def Kb:List O:=[aD 17 6,jY 18 0 1,fI 19 18,om 20 17 19]
def Ka:List O:=[rX 23 2 1,aD 24 6,uG 25 nQM 23 24,jD 26 25,fH 27 0]
def J9:List O:=[om 28 27 26]
def J8:List O:=[jE 29 1 25 27,fI 30 29,aD 8 30]
def CA:List O:=[aD 31 5,aD 32 8,aD 33 6,jE 34 1 31 32,ua 1 34 33]
def Cz:List O:=[nX 35 27 1,aD 27 35]
def aax:C:=(aX J9 [1,5,6,25,26,27,28] (.seq (nY 28 2) (.seq (.aJ 3 (aX J8 [1,5,6,8,25,26,27] (iD CA [1,5,6,25,26,27]))) (iD Cz [1,5,6,25,26,27]))))
def Cy:List O:=[aD 21 6,nX 22 21 1,aD 6 22]
def Ov:C:=(.seq (aX Kb [1,5,6,20] (nY 20 0)) (.seq (.aJ 1 (aX Ka [1,5,6,25,26,27] (.aJ 2 (.loop aax)))) (iD Cy [1,5,6])))
def Cx:List O:=[aD 36 5,aD 2 36,fH 3 0]
def cQK:C:=(aX Ki [1] (.seq (aX Kh [1,4] (aX Kg [1,4,12] (.cond (.t 12) (aX Kf [2,3] .ret) .skip))) (aX Ke [1,5] (.seq (aX Kc [1,5,6] (.aJ 0 (.loop Ov))) (aX Cx [2,3] .ret)))))
def qQK:fW:=⟨37,1,[.t 2,.t 3],cQK⟩
def xZ:List O:=[Ae 1 0,fH 2 0]
def xY:List O:=[jY 5 0 1,fI 6 5,UD 7 6 0,aD 8 7,yI 9 8 0 1,xd 10 8 9,gf 11 8<|.bin .gtr (.t 10) (ki 64),EU 12 8 11]
def xX:List O:=[fH 2 1]
def xW:List O:=[jY 13 1 1,fI 14 13,jD 15 14,fH 16 0]
def xV:List O:=[om 17 16 15]
def xU:List O:=[aD 18 16,jE 19 2 14 16,rX 20 2 19,oo 4<|.new [.int .i64 0,.int .i64 0],aD 3 18,ua 2 4 20]
def xT:List O:=[jY 21 0 4,fI 22 21,UD 23 22 0,aD 24 23,yI 25 24 0 4,xd 26 24 25,yI 27 24 1 4,xd 28 24 27,gf 29 24<|.bin .geq (.t 26) (.t 28),EU 30 24 29,aD 31 30,yI 32 31 1 4,xd 33 31 32,yI 34 31 0 1,xd 35 31 34,gf 36 31<|.bin .geq (.t 33) (.t 35),EU 37 31 36]
def xS:List O:=[fH 2 6]
def xR:List O:=[aD 38 3,oo 39<|.bin .gtr (.t 38) (ki 0),aD 40 39,gt 41 40<|.yf 1 (.t 1),Bw 42 40 41,ub 43 40 3,gt 44 40<|.bin .sub (.t 43) (ki 1),gt 45 40<|.qc 2 (.t 42) (.t 44),gt 46 40<|.ld (some 2) (.t 45),gt 47 40<|.ld (some 2) (.t 4),gt 48 40<|.call nQ6 [.t 46,.t 47],gt 49 40<|.un .not (.t 48),F7 50 40 49]
def xQ:List O:=[fH 2 5]
def rQ:List O:=[nX 51 16 1,aD 16 51]
def Eu:C:=(aX xV [1,14,15,16,17] (.seq (nY 17 0) (.seq (.aJ 1 (aX xU [1,3,4,14,15,16] (.seq (aX xT [1,3,4,14,15,16,37] (.cond (.t 37) (aX xS [2] .ret) .skip)) (.seq (.pI xR true [(0,0),(1,1),(2,2),(10,10),(11,11),(12,12),(4,5),(4,6),(3,9),(4,9),(5,9),(6,9),(7,9),(8,9)] [1,14,15,16,50]) (.cond (.t 50) (aX xQ [2] .ret) .skip))))) (iD rQ [1,14,15,16]))))
def rP:List O:=[fH 2 0]
def cQL:C:=(aX xZ [1] (.seq (aX xY [1,12] (.cond (.t 12) (aX xX [2] .ret) .skip)) (.seq (aX xW [1,14,15,16] (.aJ 0 (.loop Eu))) (aX rP [2] .ret))))
def qQL:fW:=⟨52,1,[.t 2],cQL⟩
def Ho:List O:=[Ae 2 0,sF 4 1]
def Hn:List O:=[jY 9 0 2,fI 10 9,oe 11 nQO 10,aD 5 11]
def Hm:List O:=[vm 6 true]
def Hk:List O:=[aD 12 6]
def Hj:List O:=[vm 6 false]
def Hi:List O:=[aD 13 5,jD 14 13,fH 15 0]
def Hh:List O:=[om 16 15 14]
def Hg:List O:=[jE 17 1 13 15,fI 18 17,aD 8 18]
def Hf:List O:=[rX 19 2 2,aD 20 8,uG 21 nQ8 19 20,aD 22 5,uG 23 nQ7 21 22,jD 24 23,aD 25 1,om 26 24 25]
def He:List O:=[aD 27 5,aD 28 8,oo 29<|.dK 1 1 [.int .i64 0] [(0,1,.t 28)],uG 30 nQQ 27 29,aD 5 30,vm 6 true]
def zr:List O:=[nX 31 15 1,aD 15 31]
def Tr:C:=(aX Hh [1,2,5,6,13,14,15,16] (.seq (nY 16 2) (.seq (.aJ 3 (aX Hg [1,2,5,6,8,13,14,15] (aX Hf [1,2,5,6,8,13,14,15,26] (.cond (.t 26) (iD He [1,2,5,6,13,14,15]) .skip)))) (iD zr [1,2,5,6,13,14,15]))))
def Ou:C:=(.seq (aX Hk [1,2,5,12] (nY 12 0)) (.aJ 1 (aX Hj [1,2,5,6] (aX Hi [1,2,5,6,13,14,15] (.aJ 2 (.loop Tr))))))
def zq:List O:=[aD 32 5,aD 4 32]
def cQM:C:=(aX Ho [1,2] (aX Hn [1,2,5] (.seq (aX Hm [1,2,5,6] (.aJ 0 (.loop Ou))) (aX zq [4] .ret))))
def qQM:fW:=⟨33,2,[.t 4],cQM⟩
def N3:List O:=[vm 4 false]
def N0:List O:=[aD 7 0,jD 8 7,fH 9 0]
def NZ:List O:=[om 10 9 8]
def NY:List O:=[jE 11 1 7 9,fI 12 11,aD 6 12]
def NX:List O:=[aD 13 6,aD 14 1,oo 15<|.bin .eql (.t 13) (.t 14)]
def NW:List O:=[vm 4 true]
def NV:List O:=[nX 16 9 1,aD 9 16]
def Tq:C:=(aX NZ [1,7,8,9,10] (.seq (nY 10 0) (.seq (.aJ 1 (aX NY [1,6,7,8,9] (aX NX [1,7,8,9,15] (.cond (.t 15) (aX NW [4] .ret) .skip)))) (iD NV [1,7,8,9]))))
def NU:List O:=[vm 4 false]
def cQN:C:=(aX N3 [0,1] (.seq (aX N0 [1,7,8,9] (.aJ 0 (.loop Tq))) (aX NU [4] .ret)))
def qQN:fW:=⟨17,2,[.t 4],cQN⟩
def R0:List O:=[sF 2 1]
def RZ:List O:=[sF 3 1]
def RY:List O:=[fH 4 0]
def RX:List O:=[aD 5 4,aD 6 0,om 7 5 6,aD 8 7,ub 9 8 4,gt 10 8<|.bin .lss (.t 9) (ki 64),F7 11 8 10]
def RW:List O:=[aD 14 3,aD 15 4,oo 16<|.dK 1 1 [.int .i64 0] [(0,1,.t 15)],L6 17 1 14 16,aD 3 17]
def RV:List O:=[aD 12 4,nX 13 12 1,aD 4 13]
def Tp:C:=(.seq (aX RX [0,3,4,11] (nY 11 0)) (.seq (.aJ 1 (iD RW [0,3,4])) (iD RV [0,3,4])))
def RU:List O:=[aD 18 3,aD 2 18]
def cQO:C:=(aX R0 [0] (aX RZ [0,3] (.seq (aX RY [0,3,4] (.aJ 0 (.loop Tp))) (aX RU [2] .ret))))
def qQO:fW:=⟨19,1,[.t 2],cQO⟩
def Hd:List O:=[Ae 3 0,sF 6 1]
def Hc:List O:=[aD 11 1,aD 12 2,uG 13 nQ7 11 12,aD 7 13]
def Hb:List O:=[fH 8 0]
def G9:List O:=[aD 14 8,aD 15 7,jD 16 15,om 17 14 16]
def G8:List O:=[rX 20 2 3,aD 21 7,aD 22 8,jE 23 1 21 22,fI 24 23,uG 25 nQ8 20 24,jD 26 25,fH 27 0]
def G7:List O:=[om 28 27 26]
def G6:List O:=[jE 29 1 25 27,fI 30 29,aD 10 30]
def G5:List O:=[aD 31 2,aD 32 10,uG 33 nQN 31 32,aD 34 33,ub 35 34 7,ub 36 34 10,gt 37 34<|.call nQN [.t 35,.t 36],gt 38 34<|.un .not (.t 37),F7 39 34 38]
def G4:List O:=[aD 40 7,aD 41 10,oo 42<|.dK 1 1 [.int .i64 0] [(0,1,.t 41)],L6 43 1 40 42,aD 7 43]
def G3:List O:=[nX 44 27 1,aD 27 44]
def La:C:=(aX G7 [2,3,7,8,25,26,27,28] (.seq (nY 28 2) (.seq (.aJ 3 (aX G6 [2,3,7,8,10,25,26,27] (aX G5 [2,3,7,8,10,25,26,27,39] (.cond (.t 39) (iD G4 [2,3,7,8,25,26,27]) .skip)))) (iD G3 [2,3,7,8,25,26,27]))))
def zp:List O:=[aD 18 8,nX 19 18 1,aD 8 19]
def To:C:=(.seq (aX G9 [2,3,7,8,17] (nY 17 0)) (.seq (.aJ 1 (.seq (.pI G8 true [(0,1),(0,2),(0,3),(0,4),(0,7),(4,7),(5,7)] [2,3,7,8,25,26,27]) (.aJ 2 (.loop La)))) (iD zp [2,3,7,8])))
def zo:List O:=[aD 45 7,oe 46 nQ9 45,aD 6 46]
def cQP:C:=(aX Hd [1,2,3] (aX Hc [2,3,7] (.seq (aX Hb [2,3,7,8] (.aJ 0 (.loop To))) (aX zo [6] .ret))))
def qQP:fW:=⟨47,3,[.t 6],cQP⟩
def RT:List O:=[sF 4 1]
def RS:List O:=[sF 5 1]
def RR:List O:=[aD 8 0,oe 9 nQ9 8,jD 10 9,fH 11 0]
def RQ:List O:=[om 12 11 10]
def RP:List O:=[jE 13 1 9 11,fI 14 13,aD 7 14]
def RO:List O:=[aD 15 1,aD 16 7,uG 17 nQN 15 16,oo 18<|.un .not (.t 17)]
def RN:List O:=[aD 19 5,aD 20 7,oo 21<|.dK 1 1 [.int .i64 0] [(0,1,.t 20)],L6 22 1 19 21,aD 5 22]
def RM:List O:=[nX 23 11 1,aD 11 23]
def Tn:C:=(aX RQ [1,5,9,10,11,12] (.seq (nY 12 0) (.seq (.aJ 1 (aX RP [1,5,7,9,10,11] (aX RO [1,5,7,9,10,11,18] (.cond (.t 18) (iD RN [1,5,9,10,11]) .skip)))) (iD RM [1,5,9,10,11]))))
def RL:List O:=[aD 24 5,aD 4 24]
def cQQ:C:=(aX RT [0,1] (aX RS [0,1,5] (.seq (aX RR [1,5,9,10,11] (.aJ 0 (.loop Tn))) (aX RL [4] .ret))))
def qQQ:fW:=⟨25,2,[.t 4],cQQ⟩
def YJ:List O:=[Ae 2 0,Ae 3 1,vm 4 false]
def YI:List O:=[jY 5 0 2,fI 6 5,jY 7 0 3,fI 8 7,om 9 6 8,aD 10 9,yI 11 10 0 2,xd 12 10 11,yI 13 10 0 3,xd 14 10 13,gf 15 10<|.bin .eql (.t 12) (.t 14),qT 16 10 15,gt 17 16<|.yf 2 (.t 2),Bw 18 16 17,gt 19 16<|.yf 2 (.t 3),Bw 20 16 19,gt 21 16<|.call nQG [.t 18,.t 20],gt 22 16<|.bin .lss (.t 21) (ki 0),gf 23 10<|.pick (.t 16) (.t 22) (.k (.bool false)),EU 24 10 23,aD 4 24]
def cQR:C:=(aX YJ [2,3] (aX YI [4] .ret))
def qQR:fW:=⟨25,2,[.t 4],cQR⟩
def J7:List O:=[vm 4 false]
def J6:List O:=[aD 6 0,jD 7 6,aD 8 1,jD 9 8,oo 10<|.bin .neq (.t 7) (.t 9)]
def J5:List O:=[vm 4 false]
def J4:List O:=[aD 11 0,jD 12 11,fH 13 0]
def J3:List O:=[om 14 13 12]
def J2:List O:=[aD 15 13,aD 5 15]
def J1:List O:=[aD 16 0,aD 17 5,jE 18 1 16 17,fI 19 18,aD 20 1,aD 21 5,jE 22 1 20 21,fI 23 22,oo 24<|.bin .neq (.t 19) (.t 23)]
def J0:List O:=[vm 4 false]
def JZ:List O:=[nX 25 13 1,aD 13 25]
def Tm:C:=(aX J3 [0,1,12,13,14] (.seq (nY 14 0) (.seq (.aJ 1 (aX J2 [0,1,5,12,13] (.seq (.pI J1 true [(8,8),(3,4),(3,5),(3,6),(0,7),(1,7),(2,7),(3,7)] [0,1,12,13,24]) (.cond (.t 24) (aX J0 [4] .ret) .skip)))) (iD JZ [0,1,12,13]))))
def JY:List O:=[vm 4 true]
def cQS:C:=(aX J7 [0,1] (.seq (aX J6 [0,1,10] (.cond (.t 10) (aX J5 [4] .ret) .skip)) (.seq (aX J4 [0,1,12,13] (.aJ 0 (.loop Tm))) (aX JY [4] .ret))))
def qQS:fW:=⟨26,2,[.t 4],cQS⟩
def xP:List O:=[Ae 1 0,fH 2 0]
def xO:List O:=[jY 5 0 1,fI 6 5,UD 7 6 0,aD 8 7,yI 9 8 0 1,xd 10 8 9,gf 11 8<|.bin .gtr (.t 10) (ki 64),EU 12 8 11]
def xN:List O:=[fH 2 1]
def xM:List O:=[jY 13 1 1,fI 14 13,jD 15 14,fH 16 0]
def xL:List O:=[om 17 16 15]
def xK:List O:=[aD 18 16,jE 19 2 14 16,rX 20 2 19,oo 4<|.new [.int .i64 0,.int .i64 0],aD 3 18,ua 2 4 20]
def xJ:List O:=[jY 22 0 4,fI 23 22,UD 24 23 0,aD 25 24,yI 26 25 0 4,xd 27 25 26,yI 28 25 1 4,xd 29 25 28,gf 30 25<|.bin .geq (.t 27) (.t 29),EU 31 25 30,aD 32 31,yI 33 32 1 4,xd 34 32 33,yI 35 32 0 1,xd 36 32 35,gf 37 32<|.bin .geq (.t 34) (.t 36),EU 38 32 37,aD 21 38]
def xI:List O:=[fH 2 6]
def xH:List O:=[aD 40 3,oo 41<|.bin .gtr (.t 40) (ki 0),aD 42 41,gt 43 42<|.yf 1 (.t 1),Bw 44 42 43,ub 45 42 3,gt 46 42<|.bin .sub (.t 45) (ki 1),gt 47 42<|.qc 2 (.t 44) (.t 46),gt 48 42<|.ld (some 2) (.t 47),gt 49 42<|.ld (some 2) (.t 4),gt 50 42<|.call Wk [.t 48,.t 49],gt 51 42<|.bin .geq (.t 50) (ki 0),F7 52 42 51,aD 39 52]
def xG:List O:=[fH 2 5]
def rO:List O:=[nX 53 16 1,aD 16 53]
def Er:C:=(aX xL [1,14,15,16,17] (.seq (nY 17 0) (.seq (.aJ 1 (aX xK [1,3,4,14,15,16] (.aJ 2 (aX xJ [1,3,4,14,15,16,21] (.cond (.t 21) (aX xI [2] .ret) (.seq (.pI xH true [(0,0),(1,1),(2,2),(10,10),(11,11),(12,12),(13,13),(4,5),(4,6),(3,9),(4,9),(5,9),(6,9),(7,9),(8,9)] [1,14,15,16,39]) (.cond (.t 39) (aX xG [2] .ret) .skip))))))) (iD rO [1,14,15,16]))))
def rN:List O:=[fH 2 0]
def cQT:C:=(aX xP [1] (.seq (aX xO [1,12] (.cond (.t 12) (aX xN [2] .ret) .skip)) (.seq (aX xM [1,14,15,16] (.aJ 0 (.loop Er))) (aX rN [2] .ret))))
def qQT:fW:=⟨54,1,[.t 2],cQT⟩
def xF:List O:=[Ae 1 0,sF 2 1,sF 3 1]
def xE:List O:=[rX 15 2 1,oe 16 nQ2 15,aD 4 16]
def xD:List O:=[oo 5<|.new [.int .u64 0,.int .u64 0,.int .u64 0,.int .u64 0,.int .u64 0,.int .u64 0,.int .u64 0,.int .u64 0,.int .u64 0,.int .u64 0,.int .u64 0,.int .u64 0,.int .u64 0,.int .u64 0,.int .u64 0,.int .u64 0,.int .u64 0,.int .u64 0,.int .u64 0,.int .u64 0,.int .u64 0,.int .u64 0,.int .u64 0,.int .u64 0,.int .u64 0,.int .u64 0,.int .u64 0,.int .u64 0,.int .u64 0,.int .u64 0,.int .u64 0,.int .u64 0,.int .u64 0,.int .u64 0,.int .u64 0,.int .u64 0,.int .u64 0,.int .u64 0,.int .u64 0,.int .u64 0,.int .u64 0,.int .u64 0,.int .u64 0,.int .u64 0,.int .u64 0,.int .u64 0,.int .u64 0,.int .u64 0,.int .u64 0,.int .u64 0,.int .u64 0,.int .u64 0,.int .u64 0,.int .u64 0,.int .u64 0,.int .u64 0,.int .u64 0,.int .u64 0,.int .u64 0,.int .u64 0,.int .u64 0,.int .u64 0,.int .u64 0,.int .u64 0]]
def xC:List O:=[aD 17 4,jD 18 17,oo 19<|.P6 1 [.int .i64 0] (.t 18) (.t 18),aD 6 19]
def xB:List O:=[aD 20 4,jD 21 20,fH 22 0]
def xA:List O:=[om 23 22 21]
def xz:List O:=[aD 24 22,jE 25 1 20 22,fI 26 25,aD 7 24,aD 8 26]
def xy:List O:=[aD 27 6,aD 28 7,aD 29 8,oe 30 Wj 29,jE 31 1 27 28,ua 1 31 30]
def xx:List O:=[aD 32 6,aD 33 7,jE 34 1 32 33,fI 35 34,oo 36<|.Ic 64 1 (.t 5) (.t 35),fI 37 36,aD 38 7,oe 39 nQE 38,oo 40<|.bin .or (.t 37) (.t 39),oo 41<|.Ic 64 1 (.t 5) (.t 35),ua 1 41 40]
def xw:List O:=[nX 42 22 1,aD 22 42]
def Tl:C:=(aX xA [2,4,5,6,20,21,22,23] (.seq (nY 23 0) (.seq (.aJ 1 (aX xz [2,4,5,6,7,8,20,21,22] (aX xy [2,4,5,6,7,20,21,22] (.pI xx true [(8,8),(9,9),(10,10),(3,6),(5,6),(0,7),(1,7),(2,7),(3,7),(4,7),(5,7)] [2,4,5,6,20,21,22])))) (iD xw [2,4,5,6,20,21,22]))))
def rM:List O:=[aD 43 4,jD 44 43,oo 45<|.P6 1 [.int .i64 0] (.t 44) (.t 44),aD 3 45]
def rL:List O:=[aD 46 4,jD 47 46,oe 48 SF 47,aD 9 48]
def rK:List O:=[fH 10 0]
def rJ:List O:=[aD 49 9,oo 50<|.bin .neq (.t 49) (.k (.int .u64 0))]
def rI:List O:=[fH 51 0]
def rH:List O:=[UD 52 51 64]
def rG:List O:=[aD 53 51,aD 11 53]
def rF:List O:=[aD 54 11,oo 55<|.Ic 64 1 (.t 5) (.t 54),fI 56 55,oo 57<|.bin .eql (.t 56) (.k (.int .u64 0))]
def rE:List O:=[aD 58 11,oo 59<|.Ic 64 1 (.t 5) (.t 58),fI 60 59,oe 61 SE 60,aD 12 61]
def rD:List O:=[aD 62 10,aD 63 11,oo 64<|.max [.t 62,.t 63],aD 10 64]
def rC:List O:=[aD 65 3,aD 66 12,aD 67 10,jE 68 1 65 66,ua 1 68 67]
def rB:List O:=[aD 69 2,aD 70 12,oo 71<|.dK 1 1 [.int .i64 0] [(0,1,.t 70)],L6 72 1 69 71,aD 2 72]
def rA:List O:=[aD 73 9,aD 74 12,oe 75 nQE 74,oo 76<|.bin .andNot (.t 73) (.t 75),aD 9 76]
def rq:List O:=[aD 77 11,oo 78<|.Ic 64 1 (.t 5) (.t 77),fI 79 78,aD 80 12,oe 81 nQE 80,oo 82<|.bin .andNot (.t 79) (.t 81),oo 83<|.Ic 64 1 (.t 5) (.t 77),ua 1 83 82]
def rn:List O:=[aD 84 4,aD 85 12,jE 86 1 84 85,fI 87 86,aD 88 9,oo 89<|.bin .and (.t 87) (.t 88),oe 90 nQ4 89,jD 91 90,fH 92 0]
def rj:List O:=[om 93 92 91]
def rh:List O:=[jE 94 1 90 92,fI 95 94,aD 14 95]
def rf:List O:=[aD 96 6,aD 97 14,jE 98 1 96 97,fI 99 98,oo 100<|.Ic 64 1 (.t 5) (.t 99),fI 101 100,aD 102 14,oe 103 nQE 102,oo 104<|.bin .andNot (.t 101) (.t 103),oo 105<|.Ic 64 1 (.t 5) (.t 99),ua 1 105 104]
def rb:List O:=[aD 106 6,aD 107 14,jE 108 1 106 107,fI 109 108,oo 110<|.bin .sub (.t 109) (ki 1),jE 111 1 106 107,ua 1 111 110]
def q9:List O:=[aD 112 6,aD 113 14,jE 114 1 112 113,fI 115 114,oo 116<|.Ic 64 1 (.t 5) (.t 115),fI 117 116,aD 118 14,oe 119 nQE 118,oo 120<|.bin .or (.t 117) (.t 119),oo 121<|.Ic 64 1 (.t 5) (.t 115),ua 1 121 120]
def q8:List O:=[nX 122 92 1,aD 92 122]
def Tk:C:=(aX rj [2,3,4,5,6,9,10,90,91,92,93] (.seq (nY 93 6) (.seq (.aJ 7 (aX rh [2,3,4,5,6,9,10,14,90,91,92] (.seq (.pI rf true [(8,8),(9,9),(10,10),(3,6),(5,6),(0,7),(1,7),(2,7),(3,7),(4,7),(5,7)] [2,3,4,5,6,9,10,14,90,91,92]) (aX rb [2,3,4,5,6,9,10,14,90,91,92] (.pI q9 true [(8,8),(9,9),(10,10),(3,6),(5,6),(0,7),(1,7),(2,7),(3,7),(4,7),(5,7)] [2,3,4,5,6,9,10,90,91,92]))))) (iD q8 [2,3,4,5,6,9,10,90,91,92]))))
def q7:List O:=[nX 123 51 1,aD 51 123]
def K9:C:=(aX rH [2,3,4,5,6,9,10,51,52] (.seq (nY 52 4) (.seq (.aJ 5 (aX rG [2,3,4,5,6,9,10,11,51] (.seq (aX rF [2,3,4,5,6,9,10,11,51,57] (.cond (.t 57) (.exit 5) .skip)) (aX rE [2,3,4,5,6,9,10,11,12] (aX rD [2,3,4,5,6,9,10,11,12] (aX rC [2,3,4,5,6,9,10,11,12] (aX rB [2,3,4,5,6,9,10,11,12] (aX rA [2,3,4,5,6,9,10,11,12] (.seq (.pI rq true [(5,5),(6,6),(7,7),(2,3),(0,4),(1,4),(2,4)] [2,3,4,5,6,9,10,12]) (.seq (aX rn [2,3,4,5,6,9,10,90,91,92] (.aJ 6 (.loop Tk))) (.exit 3))))))))))) (iD q7 [2,3,4,5,6,9,10,51]))))
def HN:C:=(.seq (aX rJ [2,3,4,5,6,9,10,50] (nY 50 2)) (.aJ 3 (aX rI [2,3,4,5,6,9,10,51] (.aJ 4 (.loop K9)))))
def q6:List O:=[aD 124 2,aD 125 3,aD 2 124,aD 3 125]
def cQU:C:=(aX xF [1,2] (.seq .skip (aX xE [2,4] (aX xD [2,4,5] (aX xC [2,4,5,6] (.seq (aX xB [2,4,5,6,20,21,22] (.aJ 0 (.loop Tl))) (aX rM [2,3,4,5,6] (aX rL [2,3,4,5,6,9] (aX rK [2,3,4,5,6,9,10] (.seq .skip (.seq (.aJ 2 (.loop HN)) (aX q6 [2,3] .ret))))))))))))
def qQU:fW:=⟨126,1,[.t 2,.t 3],cQU⟩
def YH:List O:=[oo 2<|.mv (.k (.str ⟨#[]⟩))]
def YG:List O:=[oo 3<|.mv (.k (.str ⟨#[]⟩))]
def YF:List O:=[aD 6 0,jD 7 6,fH 8 0]
def YE:List O:=[om 9 8 7]
def YD:List O:=[jE 10 1 6 8,fI 11 10,aD 5 11]
def YC:List O:=[aD 12 3,aD 13 5,oe 14 SD 13,oo 15<|.bin .add (.t 14) (.k (.str ⟨#[32]⟩)),oo 16<|.bin .add (.t 12) (.t 15),aD 3 16]
def YB:List O:=[nX 17 8 1,aD 8 17]
def aaw:C:=(aX YE [3,6,7,8,9] (.seq (nY 9 0) (.seq (.aJ 1 (aX YD [3,5,6,7,8] (iD YC [3,6,7,8]))) (iD YB [3,6,7,8]))))
def YA:List O:=[aD 18 3,aD 2 18]
def cQV:C:=(aX YH [0] (aX YG [0,3] (.seq (aX YF [3,6,7,8] (.aJ 0 (.loop aaw))) (aX YA [2] .ret))))
def qQV:fW:=⟨19,1,[.t 2],cQV⟩
def alV:List O:=[aD 5 0,jD 6 5,aD 4 6]
def alU:List O:=[aD 7 0,aD 8 4,aD 9 4,oo 10<|.Q5 .u64 (.t 9),oe 11 71 10,aD 12 1,oo 13<|.call 70 [.t 7,ki 0,.t 8,.t 11,.t 12]]
def cQW:C:=(aX alV [0,1,4] (iD alU []))
def qQW:fW:=⟨14,2,[],cQW⟩
def aiH:List O:=[Ae 2 0,Ae 3 1,fH 4 0]
def aiG:List O:=[jY 5 0 2,fI 6 5,jY 7 0 3,fI 8 7,uG 9 MA 6 8,jY 10 2 2,fI 11 10,jY 12 2 3,fI 13 12,uG 14 P5 11 13,oo 15<|.dK 1 2 [.int .i64 0] [(0,1,.t 9),(1,1,.t 14)],oe 16 Og 15,aD 4 16]
def cQX:C:=(aX aiH [2,3] (.seq (.pI aiG true [(9,9),(10,10),(11,11),(12,12),(1,2),(0,3),(1,3),(1,5),(3,5),(4,5),(0,6),(1,6),(2,6),(3,6),(4,6),(1,7),(3,7),(4,7),(6,7),(0,8),(1,8),(2,8),(3,8),(4,8),(5,8),(6,8)] [4]) .ret))
def qQX:fW:=⟨17,2,[.t 4],cQX⟩
def oO:List O:=[fH 2 0]
def oN:List O:=[fH 3 0]
def oM:List O:=[aD 6 0,jD 7 6,fH 8 0]
def oL:List O:=[om 9 8 7]
def oK:List O:=[jE 10 1 6 8,fI 11 10,aD 5 11]
def oJ:List O:=[aD 12 5,aD 13 3,oo 14<|.bin .neq (.t 12) (.t 13)]
def oI:List O:=[aD 15 5,aD 2 15]
def oH:List O:=[nX 16 8 1,aD 8 16]
def qI:C:=(aX oL [3,6,7,8,9] (.seq (nY 9 0) (.seq (.aJ 1 (aX oK [3,5,6,7,8] (aX oJ [3,5,6,7,8,14] (.cond (.t 14) (aX oI [2] .ret) .skip)))) (iD oH [3,6,7,8]))))
def oG:List O:=[aD 17 3,aD 2 17]
def cQY:C:=(aX oO [0] (aX oN [0,3] (.seq (aX oM [3,6,7,8] (.aJ 0 (.loop qI))) (aX oG [2] .ret))))
def qQY:fW:=⟨18,1,[.t 2],cQY⟩
def JX:List O:=[fH 4 0]
def JW:List O:=[aD 7 0,oe 8 vL 7,aD 5 8]
def JV:List O:=[aD 9 1,oe 10 vL 9,aD 6 10]
def JU:List O:=[aD 11 5]
def JT:List O:=[aD 12 6]
def JS:List O:=[fH 4 0]
def JR:List O:=[oo 4<|.mv (.k (.int .i64 (-1)))]
def JQ:List O:=[aD 13 6]
def JP:List O:=[fH 4 1]
def JO:List O:=[aD 14 0,aD 15 1,om 16 14 15]
def Cw:List O:=[oo 4<|.mv (.k (.int .i64 (-1)))]
def Cv:List O:=[aD 17 0,aD 18 1,oo 19<|.bin .gtr (.t 17) (.t 18)]
def Cu:List O:=[fH 4 1]
def Ct:List O:=[fH 4 0]
def cQZ:C:=(aX JX [0,1] (aX JW [0,1,5] (aX JV [0,1,5,6] (.seq (aX JU [0,1,6,11] (.cond (.t 11) (.seq (aX JT [12] (.cond (.t 12) (aX JS [4] .ret) .skip)) (aX JR [4] .ret)) .skip)) (.seq (aX JQ [0,1,13] (.cond (.t 13) (aX JP [4] .ret) .skip)) (.seq (aX JO [0,1,16] (.cond (.t 16) (aX Cw [4] .ret) .skip)) (.seq (aX Cv [19] (.cond (.t 19) (aX Cu [4] .ret) .skip)) (aX Ct [4] .ret))))))))
def qQZ:fW:=⟨20,2,[.t 4],cQZ⟩
def adm:List O:=[fH 4 0]
def adl:List O:=[aD 5 0,aD 6 1,uG 7 wI 5 6,aD 4 7]
def cQ0:C:=(aX adm [0,1] (aX adl [4] .ret))
def qQ0:fW:=⟨8,2,[.t 4],cQ0⟩
def adk:List O:=[vm 4 false]
def adj:List O:=[aD 5 0,aD 6 1,uG 7 Wi 5 6,jD 8 7,oo 9<|.bin .eql (.t 8) (ki 0),aD 4 9]
def cQ1:C:=(aX adk [0,1] (aX adj [4] .ret))
def qQ1:fW:=⟨10,2,[.t 4],cQ1⟩
def ZD:List O:=[Ae 1 0,sF 2 1]
def ZC:List O:=[jY 6 0 1,fI 7 6,oo 8<|.max [.t 7,ki 0],oo 9<|.min [.t 8,ki 64],oo 10<|.P6 1 [.int .u64 0] (.t 9) (.t 9),aD 3 10]
def ZB:List O:=[jY 11 1 1,fI 12 11,jD 13 12,fH 14 0]
def ZA:List O:=[om 15 14 13]
def Zz:List O:=[jE 16 2 12 14,rX 17 2 16,oo 5<|.new [.int .i64 0,.int .i64 0],ua 2 5 17]
def Zy:List O:=[jY 18 0 5,fI 19 18,oo 20<|.bin .geq (.t 19) (ki 0),aD 21 20,gt 22 21<|.yf 0 (.t 5),Bw 23 21 22,gt 24 21<|.yf 1 (.t 5),Bw 25 21 24,gt 26 21<|.bin .lss (.t 23) (.t 25),F7 27 21 26,aD 28 27,gt 29 28<|.yf 1 (.t 5),Bw 30 28 29,ub 31 28 3,gt 32 28<|.len (.t 31),gt 33 28<|.bin .lss (.t 30) (.t 32),F7 34 28 33]
def Zx:List O:=[aD 35 3,jY 36 0 5,fI 37 36,jE 38 1 35 37,fI 39 38,jY 40 1 5,fI 41 40,oo 42<|.bin .shl (.k (.int .u64 1)) (.t 41),oo 43<|.bin .or (.t 39) (.t 42),jE 44 1 35 37,ua 1 44 43]
def Zw:List O:=[aD 45 3,jY 46 1 5,fI 47 46,jE 48 1 45 47,fI 49 48,jY 50 0 5,fI 51 50,oo 52<|.bin .shl (.k (.int .u64 1)) (.t 51),oo 53<|.bin .or (.t 49) (.t 52),jE 54 1 45 47,ua 1 54 53]
def Zu:List O:=[nX 55 14 1,aD 14 55]
def aaB:C:=(aX ZA [3,12,13,14,15] (.seq (nY 15 0) (.seq (.aJ 1 (aX Zz [3,5,12,13,14] (aX Zy [3,5,12,13,14,34] (.cond (.t 34) (.seq (.pI Zx true [(8,8),(9,9),(10,10),(0,2),(2,5),(4,5),(0,6),(1,6),(2,6),(3,6),(4,6),(2,7),(4,7)] [3,5,12,13,14]) (.pI Zw true [(8,8),(9,9),(10,10),(0,2),(2,5),(4,5),(0,6),(1,6),(2,6),(3,6),(4,6),(2,7),(4,7)] [3,12,13,14])) .skip)))) (iD Zu [3,12,13,14]))))
def Zt:List O:=[aD 56 3,aD 2 56]
def cQ2:C:=(aX ZD [1] (aX ZC [1,3] (.seq (aX ZB [3,12,13,14] (.aJ 0 (.loop aaB))) (aX Zt [2] .ret))))
def qQ2:fW:=⟨57,1,[.t 2],cQ2⟩
def Zr:List O:=[oo 6<|.mv (.k (.int .u64 0))]
def Zq:List O:=[aD 10 1,aD 11 2,oo 12<|.bin .and (.t 10) (.t 11),aD 1 12]
def Zp:List O:=[aD 13 1,aD 7 13]
def Zo:List O:=[aD 14 7,oo 15<|.bin .neq (.t 14) (.k (.int .u64 0))]
def Zn:List O:=[aD 16 7,oe 17 SE 16,aD 8 17]
def Zm:List O:=[aD 18 7,aD 19 7,oo 20<|.bin .sub (.t 19) (.k (.int .u64 1)),oo 21<|.bin .and (.t 18) (.t 20),aD 7 21]
def Zl:List O:=[aD 22 0,aD 23 8,jE 24 1 22 23,fI 25 24,aD 26 2,oo 27<|.bin .and (.t 25) (.t 26),aD 28 1,oo 29<|.bin .andNot (.t 27) (.t 28),aD 9 29]
def Zk:List O:=[aD 30 1,aD 31 9,oo 32<|.bin .or (.t 30) (.t 31),aD 1 32]
def Zj:List O:=[aD 33 7,aD 34 9,oo 35<|.bin .or (.t 33) (.t 34),aD 7 35]
def Tx:C:=(.seq (aX Zo [0,1,2,7,15] (nY 15 0)) (.aJ 1 (aX Zn [0,1,2,7,8] (aX Zm [0,1,2,7,8] (aX Zl [0,1,2,7,9] (aX Zk [0,1,2,7,9] (iD Zj [0,1,2,7])))))))
def Zi:List O:=[aD 36 1,aD 6 36]
def cQ3:C:=(aX Zr [0,1,2] (aX Zq [0,1,2] (.seq (aX Zp [0,1,2,7] (.aJ 0 (.loop Tx))) (aX Zi [6] .ret))))
def qQ3:fW:=⟨37,3,[.t 6],cQ3⟩
def Zh:List O:=[sF 2 1]
def Zg:List O:=[sF 3 1]
def Zf:List O:=[aD 4 0,oo 5<|.bin .neq (.t 4) (.k (.int .u64 0))]
def Ze:List O:=[aD 10 3,aD 11 0,oe 12 SC 11,oo 13<|.dK 1 1 [.int .i64 0] [(0,1,.t 12)],L6 14 1 10 13,aD 3 14]
def Zd:List O:=[aD 6 0,aD 7 0,oo 8<|.bin .sub (.t 7) (.k (.int .u64 1)),oo 9<|.bin .and (.t 6) (.t 8),aD 0 9]
def aaA:C:=(.seq (aX Zf [0,3,5] (nY 5 0)) (.seq (.aJ 1 (iD Ze [0,3])) (iD Zd [0,3])))
def Zc:List O:=[aD 15 3,aD 2 15]
def cQ4:C:=(aX Zh [0] (aX Zg [0,3] (.seq (.aJ 0 (.loop aaA)) (aX Zc [2] .ret))))
def qQ4:fW:=⟨16,1,[.t 2],cQ4⟩
def amg:List O:=[vm 4 false]
def amf:List O:=[aD 5 0,aD 6 1,uG 7 nQa9 5 6,oo 8<|.bin .geq (.t 7) (ki 0),aD 4 8]
def cQ5:C:=(aX amg [0,1] (aX amf [4] .ret))
def qQ5:fW:=⟨9,2,[.t 4],cQ5⟩
def Sd:List O:=[Ae 2 0,Ae 3 1,vm 4 false]
def Sc:List O:=[jY 5 0 2,fI 6 5,jY 7 0 3,fI 8 7,om 9 6 8,aD 10 9,yI 11 10 0 2,xd 12 10 11,yI 13 10 0 3,xd 14 10 13,gf 15 10<|.bin .eql (.t 12) (.t 14),qT 16 10 15,gt 17 16<|.yf 1 (.t 2),Bw 18 16 17,gt 19 16<|.yf 1 (.t 3),Bw 20 16 19,gt 21 16<|.bin .lss (.t 18) (.t 20),gf 22 10<|.pick (.t 16) (.t 21) (.k (.bool false)),EU 23 10 22,aD 4 23]
def cQ6:C:=(aX Sd [2,3] (aX Sc [4] .ret))
def qQ6:fW:=⟨24,2,[.t 4],cQ6⟩
def Sb:List O:=[sF 4 1]
def Sa:List O:=[sF 5 1]
def R9:List O:=[aD 8 0,oe 9 nQ9 8,jD 10 9,fH 11 0]
def R8:List O:=[om 12 11 10]
def R7:List O:=[jE 13 1 9 11,fI 14 13,aD 7 14]
def R6:List O:=[aD 15 1,aD 16 7,uG 17 nQN 15 16]
def R5:List O:=[aD 18 5,aD 19 7,oo 20<|.dK 1 1 [.int .i64 0] [(0,1,.t 19)],L6 21 1 18 20,aD 5 21]
def R4:List O:=[nX 22 11 1,aD 11 22]
def Tw:C:=(aX R8 [1,5,9,10,11,12] (.seq (nY 12 0) (.seq (.aJ 1 (aX R7 [1,5,7,9,10,11] (aX R6 [1,5,7,9,10,11,17] (.cond (.t 17) (iD R5 [1,5,9,10,11]) .skip)))) (iD R4 [1,5,9,10,11]))))
def R3:List O:=[aD 23 5,aD 4 23]
def cQ7:C:=(aX Sb [0,1] (aX Sa [0,1,5] (.seq (aX R9 [1,5,9,10,11] (.aJ 0 (.loop Tw))) (aX R3 [4] .ret))))
def qQ7:fW:=⟨24,2,[.t 4],cQ7⟩
def HB:List O:=[Ae 2 0,sF 4 1]
def HA:List O:=[rX 8 2 2,oe 9 nQL 8,bzY 10 9 0]
def Hz:List O:=[sF 4 1]
def Hy:List O:=[sF 5 1]
def Hw:List O:=[jY 11 1 2,fI 12 11,jD 13 12,fH 14 0]
def Hv:List O:=[om 15 14 13]
def Hu:List O:=[jE 16 2 12 14,rX 17 2 16,oo 7<|.new [.int .i64 0,.int .i64 0],ua 2 7 17]
def Hs:List O:=[jY 18 0 7,fI 19 18,aD 20 1,oo 21<|.bin .eql (.t 19) (.t 20)]
def Hr:List O:=[aD 22 5,jY 23 1 7,fI 24 23,oo 25<|.dK 1 1 [.int .i64 0] [(0,1,.t 24)],L6 26 1 22 25,aD 5 26]
def Hp:List O:=[jY 27 1 7,fI 28 27,aD 29 1,oo 30<|.bin .eql (.t 28) (.t 29)]
def zw:List O:=[aD 31 5,jY 32 0 7,fI 33 32,oo 34<|.dK 1 1 [.int .i64 0] [(0,1,.t 33)],L6 35 1 31 34,aD 5 35]
def zu:List O:=[nX 36 14 1,aD 14 36]
def Tv:C:=(aX Hv [1,5,12,13,14,15] (.seq (nY 15 0) (.seq (.aJ 1 (aX Hu [1,5,7,12,13,14] (.seq (aX Hs [1,5,7,12,13,14,21] (.cond (.t 21) (iD Hr [1,5,7,12,13,14]) .skip)) (aX Hp [1,5,7,12,13,14,30] (.cond (.t 30) (iD zw [1,5,12,13,14]) .skip))))) (iD zu [1,5,12,13,14]))))
def zt:List O:=[aD 37 5,oe 38 nQ9 37,aD 4 38]
def cQ8:C:=(aX HB [1,2] (.seq (aX HA [1,2,10] (.cond (.t 10) (aX Hz [4] .ret) .skip)) (aX Hy [1,2,5] (.seq (aX Hw [1,5,12,13,14] (.aJ 0 (.loop Tv))) (aX zt [4] .ret)))))
def qQ8:fW:=⟨39,2,[.t 4],cQ8⟩
def Kr:List O:=[sF 2 1]
def Kp:List O:=[sF 3 1]
def Ko:List O:=[aD 6 0,jD 7 6,fH 8 0]
def Kn:List O:=[om 9 8 7]
def Km:List O:=[jE 10 1 6 8,fI 11 10,aD 5 11]
def Kl:List O:=[aD 12 3,aD 13 5,uG 14 Wh 12 13,aD 3 14]
def Kk:List O:=[nX 15 8 1,aD 8 15]
def Ld:C:=(aX Kn [3,6,7,8,9] (.seq (nY 9 0) (.seq (.aJ 1 (aX Km [3,5,6,7,8] (iD Kl [3,6,7,8]))) (iD Kk [3,6,7,8]))))
def Kj:List O:=[aD 16 3,aD 2 16]
def cQ9:C:=(aX Kr [0] (aX Kp [0,3] (.seq (aX Ko [3,6,7,8] (.aJ 0 (.loop Ld))) (aX Kj [2] .ret))))
def qQ9:fW:=⟨17,1,[.t 2],cQ9⟩
def adi:List O:=[Ae 2 0,Ae 3 1,fH 4 0]
def adh:List O:=[jY 5 0 2,fI 6 5,jY 7 0 3,fI 8 7,uG 9 MA 6 8,jY 10 1 2,fI 11 10,jY 12 1 3,fI 13 12,uG 14 MA 11 13,oo 15<|.dK 1 2 [.int .i64 0] [(0,1,.t 9),(1,1,.t 14)],oe 16 Og 15,aD 4 16]
def cQa0:C:=(aX adi [2,3] (.seq (.pI adh true [(9,9),(10,10),(11,11),(12,12),(1,2),(0,3),(1,3),(1,5),(3,5),(4,5),(0,6),(1,6),(2,6),(3,6),(4,6),(1,7),(3,7),(4,7),(6,7),(0,8),(1,8),(2,8),(3,8),(4,8),(5,8),(6,8)] [4]) .ret))
def qQa0:fW:=⟨17,2,[.t 4],cQa0⟩
def adg:List O:=[fH 2 0]
def adf:List O:=[aD 3 0,oe 4 SA 3,aD 2 4]
def cQa1:C:=(aX adg [0] (aX adf [2] .ret))
def qQa1:fW:=⟨5,1,[.t 2],cQa1⟩
def ajX:List O:=[oo 2<|.mv (.k (.int .u64 0))]
def ajW:List O:=[aD 4 0,oo 5<|.bin .leq (.t 4) (ki 0),aD 3 5]
def ajV:List O:=[oo 2<|.mv (.k (.int .u64 0))]
def ajU:List O:=[aD 7 0,oo 8<|.bin .geq (.t 7) (ki 64),aD 6 8]
def ajT:List O:=[oo 2<|.mv (.k (.int .u64 18446744073709551615))]
def ajS:List O:=[aD 9 0,oo 10<|.bin .shl (.k (.int .u64 1)) (.t 9),oo 11<|.bin .sub (.t 10) (.k (.int .u64 1)),aD 2 11]
def cQa2:C:=(aX ajX [0] (.seq (.aJ 0 (aX ajW [0,3] (.cond (.t 3) (aX ajV [2] .ret) (aX ajU [0,6] (.cond (.t 6) (aX ajT [2] .ret) .skip))))) (aX ajS [2] .ret)))
def qQa2:fW:=⟨12,1,[.t 2],cQa2⟩
def ade:List O:=[fH 2 0]
def adb:List O:=[aD 3 0,oe 4 SC 3,aD 2 4]
def cQa3:C:=(aX ade [0] (aX adb [2] .ret))
def qQa3:fW:=⟨5,1,[.t 2],cQa3⟩
def ada:List O:=[oo 2<|.mv (.k (.str ⟨#[]⟩))]
def ac9:List O:=[aD 3 0,oe 4 Wg 3,aD 2 4]
def cQa4:C:=(aX ada [0] (aX ac9 [2] .ret))
def qQa4:fW:=⟨5,1,[.t 2],cQa4⟩
def VR:List O:=[vm 2 false]
def VQ:List O:=[aD 3 0,aD 4 0,oo 5<|.bin .neq (.t 3) (.t 4),aD 2 5]
def cQa5:C:=(aX VR [0] (aX VQ [2] .ret))
def VT:fW:=⟨6,1,[.t 2],cQa5⟩
def kD:List O:=[fH 4 0]
def kC:List O:=[aD 9 0,jD 10 9,fH 11 0]
def kB:List O:=[om 12 11 10]
def kA:List O:=[aD 13 11,jE 14 1 9 11,fI 15 14,aD 5 13,aD 6 15]
def kz:List O:=[aD 16 5,aD 17 1,jD 18 17,oo 19<|.bin .geq (.t 16) (.t 18)]
def ku:List O:=[fH 4 1]
def ks:List O:=[aD 20 1,aD 21 5,jE 22 1 20 21,fI 23 22,aD 7 23]
def ko:List O:=[aD 24 6,aD 25 7,uG 26 MA 24 25,aD 8 26]
def km:List O:=[aD 27 8,bzY 28 27 0]
def kj:List O:=[aD 29 8,aD 4 29]
def iM:List O:=[nX 30 11 1,aD 11 30]
def pS:C:=(aX kB [0,1,9,10,11,12] (.seq (nY 12 0) (.seq (.aJ 1 (aX kA [0,1,5,6,9,10,11] (.seq (aX kz [0,1,5,6,9,10,11,19] (.cond (.t 19) (aX ku [4] .ret) .skip)) (aX ks [0,1,6,7,9,10,11] (aX ko [0,1,8,9,10,11] (aX km [0,1,8,9,10,11,28] (.cond (.t 28) (aX kj [4] .ret) .skip))))))) (iD iM [0,1,9,10,11]))))
def iL:List O:=[aD 31 0,jD 32 31,aD 33 1,jD 34 33,om 35 32 34]
def iK:List O:=[oo 4<|.mv (.k (.int .i64 (-1)))]
def iJ:List O:=[fH 4 0]
def cQa6:C:=(aX kD [0,1] (.seq (aX kC [0,1,9,10,11] (.aJ 0 (.loop pS))) (.seq (aX iL [35] (.cond (.t 35) (aX iK [4] .ret) .skip)) (aX iJ [4] .ret))))
def VS:fW:=⟨36,2,[.t 4],cQa6⟩
def ac8:List O:=[sF 4 1]
def ac7:List O:=[aD 5 0,aD 6 1,oo 7<|.call Wf [.t 5,.t 6,.k (.func (.func nQb4) [] [])],aD 4 7]
def cQa7:C:=(aX ac8 [0,1] (aX ac7 [4] .ret))
def qQa7:fW:=⟨8,2,[.t 4],cQa7⟩
def JN:List O:=[fH 2 0]
def JM:List O:=[aD 3 0,oo 4<|.bin .eql (.t 3) (.k (.int .u64 0))]
def VP:List O:=[fH 2 64]
def zn:List O:=[aD 5 0,aD 6 0,oo 7<|.un .neg (.t 6),oo 8<|.bin .and (.t 5) (.t 7),oo 9<|.bin .mul (.t 8) (.k (.int .u64 285870213051353865)),oo 10<|.bin .shr (.t 9) (.k (.int .u64 58)),oo 11<|.Ic 64 1 (.g 0) (.t 10),fI 12 11,oo 13<|.Q5 .i64 (.t 12),aD 2 13]
def cQa8:C:=(aX JN [0] (.seq (aX JM [0,4] (.cond (.t 4) (aX VP [2] .ret) .skip)) (aX zn [2] .ret)))
def qQa8:fW:=⟨14,1,[.t 2],cQa8⟩
def ajR:List O:=[fH 4 0]
def ajQ:List O:=[aD 6 0,jD 7 6,fH 8 0]
def ajP:List O:=[om 9 8 7]
def ajO:List O:=[aD 10 8,aD 5 10]
def ajN:List O:=[aD 11 1,aD 12 0,aD 13 5,jE 14 1 12 13,fI 15 14,oo 16<|.bin .eql (.t 11) (.t 15)]
def ajM:List O:=[aD 17 5,aD 4 17]
def ajL:List O:=[nX 18 8 1,aD 8 18]
def akV:C:=(aX ajP [0,1,7,8,9] (.seq (nY 9 0) (.seq (.aJ 1 (aX ajO [0,1,5,7,8] (aX ajN [0,1,5,7,8,16] (.cond (.t 16) (aX ajM [4] .ret) .skip)))) (iD ajL [0,1,7,8]))))
def ajK:List O:=[oo 4<|.mv (.k (.int .i64 (-1)))]
def cQa9:C:=(aX ajR [0,1] (.seq (aX ajQ [0,1,7,8] (.aJ 0 (.loop akV))) (aX ajK [4] .ret)))
def qQa9:fW:=⟨19,2,[.t 4],cQa9⟩
def Cr:List O:=[sF 4 1]
def Cq:List O:=[fH 5 0]
def Cp:List O:=[aD 7 5,aD 8 0,jD 9 8,om 10 7 9,aD 11 10,ub 12 11 0,ub 13 11 5,gt 14 11<|.qc 1 (.t 12) (.t 13),Bw 15 11 14,ub 16 11 1,gt 17 11<|.bin .lss (.t 15) (.t 16),F7 18 11 17]
def Co:List O:=[aD 19 5,nX 20 19 1,aD 5 20]
def K8:C:=(.seq (aX Cp [0,1,5,18] (nY 18 0)) (.aJ 1 (iD Co [0,1,5])))
def Cn:List O:=[aD 21 5,aD 22 0,jD 23 22,om 24 21 23,aD 25 24,ub 26 25 0,ub 27 25 5,gt 28 25<|.qc 1 (.t 26) (.t 27),Bw 29 25 28,ub 30 25 1,gt 31 25<|.bin .eql (.t 29) (.t 30),F7 32 25 31]
def Cm:List O:=[aD 33 0,aD 4 33]
def Cl:List O:=[aD 34 0,aD 35 5,oo 36<|.Fc 1 (.t 34) none (some (.t 35)),oo 37<|.app 1 (.k (.own 1 [])) (.t 36),aD 6 37]
def Ck:List O:=[aD 38 6,aD 39 1,oo 40<|.dK 1 1 [.int .i64 0] [(0,1,.t 39)],L6 41 1 38 40,aD 42 0,aD 43 5,oo 44<|.Fc 1 (.t 42) (some (.t 43)) none,L6 45 1 41 44,aD 4 45]
def cQb0:C:=(aX Cr [0,1] (aX Cq [0,1,5] (.seq (.aJ 0 (.loop K8)) (.seq (aX Cn [0,1,5,32] (.cond (.t 32) (aX Cm [4] .ret) .skip)) (aX Cl [0,1,5,6] (.seq (.pI Ck true [(7,7),(8,8),(0,2),(2,4),(3,4),(2,5),(3,5),(2,6),(3,6)] [4]) .ret))))))
def qQb0:fW:=⟨46,2,[.t 4],cQb0⟩
def ac6:List O:=[fH 2 0]
def ac5:List O:=[aD 3 0,oo 4<|.bin .shr (.t 3) (.k (.int .u64 1)),oo 5<|.bin .and (.t 4) (.k (.int .u64 6148914691236517205)),aD 6 0,oo 7<|.bin .and (.t 6) (.k (.int .u64 6148914691236517205)),oo 8<|.bin .add (.t 5) (.t 7),aD 0 8]
def ac4:List O:=[aD 9 0,oo 10<|.bin .shr (.t 9) (.k (.int .u64 2)),oo 11<|.bin .and (.t 10) (.k (.int .u64 3689348814741910323)),aD 12 0,oo 13<|.bin .and (.t 12) (.k (.int .u64 3689348814741910323)),oo 14<|.bin .add (.t 11) (.t 13),aD 0 14]
def ac3:List O:=[aD 15 0,oo 16<|.bin .shr (.t 15) (.k (.int .u64 4)),aD 17 0,oo 18<|.bin .add (.t 16) (.t 17),oo 19<|.bin .and (.t 18) (.k (.int .u64 1085102592571150095)),aD 0 19]
def ac2:List O:=[aD 20 0,aD 21 0,oo 22<|.bin .shr (.t 21) (.k (.int .u64 8)),oo 23<|.bin .add (.t 20) (.t 22),aD 0 23]
def ac1:List O:=[aD 24 0,aD 25 0,oo 26<|.bin .shr (.t 25) (.k (.int .u64 16)),oo 27<|.bin .add (.t 24) (.t 26),aD 0 27]
def ac0:List O:=[aD 28 0,aD 29 0,oo 30<|.bin .shr (.t 29) (.k (.int .u64 32)),oo 31<|.bin .add (.t 28) (.t 30),aD 0 31]
def acZ:List O:=[aD 32 0,oo 33<|.Q5 .i64 (.t 32),oo 34<|.bin .and (.t 33) (ki 127),aD 2 34]
def cQb1:C:=(aX ac6 [0] (aX ac5 [0] (aX ac4 [0] (aX ac3 [0] (aX ac2 [0] (aX ac1 [0] (aX ac0 [0] (aX acZ [2] .ret))))))))
def qQb1:fW:=⟨35,1,[.t 2],cQb1⟩
def acY:List O:=[oo 2<|.mv (.k (.str ⟨#[]⟩))]
def acX:List O:=[aD 3 0,oo 4<|.call P4 [.t 3,ki 10],aD 2 4]
def cQb2:C:=(aX acY [0] (aX acX [2] .ret))
def qQb2:fW:=⟨5,1,[.t 2],cQb2⟩
def jo:List O:=[sF 6 1]
def jm:List O:=[aD 11 0,oe 12 KQ 11,aD 13 1,oe 14 KQ 13,aD 0 12,aD 1 14]
def jl:List O:=[aD 15 0,oe 16 Sz 15]
def jj:List O:=[aD 17 1,oe 18 Sz 17]
def ji:List O:=[aD 19 0,oe 20 Sy 19,aD 21 1,oe 22 Sy 21,aD 0 20,aD 1 22]
def jh:List O:=[sF 7 1]
def iX:List O:=[aD 23 0,jD 24 23,oo 25<|.bin .gtr (.t 24) (ki 0),aD 26 25,qT 27 26 1,gf 28 26<|.len (.t 27),gf 29 26<|.bin .gtr (.t 28) (ki 0),EU 30 26 29]
def jJ:List O:=[aD 31 1,jD 32 31,oo 33<|.bin .eql (.t 32) (ki 0),aD 34 33,qT 35 34 0,gf 36 34<|.len (.t 35),gf 37 34<|.bin .gtr (.t 36) (ki 0),qT 38 34 37,ub 39 38 0,gt 40 38<|.qc 1 (.t 39) (ki 0),Bw 41 38 40,ub 42 38 1,gt 43 38<|.qc 1 (.t 42) (ki 0),Bw 44 38 43,gt 45 38<|.bin .leq (.t 41) (.t 44),gf 46 34<|.pick (.t 38) (.t 45) (.k (.bool false)),EU 47 34 46,aD 8 47]
def jI:List O:=[aD 48 0,jD 49 48,oo 50<|.bin .eql (.t 49) (ki 0),aD 51 50,qT 52 51 1,gf 53 51<|.len (.t 52),gf 54 51<|.bin .gtr (.t 53) (ki 0),qT 55 51 54,ub 56 55 1,gt 57 55<|.qc 1 (.t 56) (ki 0),Bw 58 55 57,ub 59 55 0,gt 60 55<|.qc 1 (.t 59) (ki 0),Bw 61 55 60,gt 62 55<|.bin .leq (.t 58) (.t 61),gf 63 51<|.pick (.t 55) (.t 62) (.k (.bool false)),EU 64 51 63,aD 9 64]
def jH:List O:=[fH 10 0]
def gT:List O:=[aD 65 8]
def gS:List O:=[aD 66 0,oo 67<|.qc 1 (.t 66) (ki 0),fI 68 67,aD 69 0,oo 70<|.Fc 1 (.t 69) (some (ki 1)) none,aD 10 68,aD 0 70]
def gR:List O:=[aD 71 9]
def gQ:List O:=[aD 72 1,oo 73<|.qc 1 (.t 72) (ki 0),fI 74 73,aD 75 1,oo 76<|.Fc 1 (.t 75) (some (ki 1)) none,aD 10 74,aD 1 76]
def gP:List O:=[aD 77 2,aD 78 8,aD 79 9,oo 80<|.jC (.t 77) [.t 78,.t 79]]
def gO:List O:=[aD 81 7,aD 82 10,oo 83<|.dK 1 1 [.int .i64 0] [(0,1,.t 82)],L6 84 1 81 83,aD 7 84]
def jr:C:=(.seq (aX iX [0,1,2,7,30] (nY 30 0)) (.aJ 1 (.seq (.pI jJ true [(0,0),(1,1),(2,2),(3,3),(4,4),(5,5),(6,6),(7,7),(14,14),(15,15),(16,16),(17,17),(10,11),(10,12),(8,13),(9,13),(10,13)] [0,1,2,7,8]) (.seq (.pI jI true [(0,0),(1,1),(2,2),(3,3),(4,4),(5,5),(6,6),(7,7),(14,14),(15,15),(16,16),(17,17),(10,11),(10,12),(8,13),(9,13),(10,13)] [0,1,2,7,8,9]) (aX jH [0,1,2,7,8,9,10] (.seq (aX gT [0,1,2,7,8,9,10,65] (.cond (.t 65) (.pI gS true [(6,6),(2,3),(2,4)] [0,1,2,7,8,9,10]) .skip)) (.seq (aX gR [0,1,2,7,8,9,10,71] (.cond (.t 71) (.pI gQ true [(6,6),(2,3),(2,4)] [0,1,2,7,8,9,10]) .skip)) (aX gP [0,1,2,7,10,80] (.cond (.t 80) (iD gO [0,1,2,7]) .skip)))))))))
def gC:List O:=[aD 85 7,aD 6 85]
def cQb3:C:=(aX jo [0,1,2] (aX jm [0,1,2] (aX jl [0,1,2] (aX jj [0,1,2] (aX ji [0,1,2] (aX jh [0,1,2,7] (.seq (.aJ 0 (.loop jr)) (aX gC [6] .ret))))))))
def qQb3:fW:=⟨86,3,[.t 6],cQb3⟩
def acW:List O:=[vm 4 false]
def acV:List O:=[aD 5 1,oo 6<|.un .not (.t 5),aD 4 6]
def cQb4:C:=(aX acW [1] (aX acV [4] .ret))
def qQb4:fW:=⟨7,2,[.t 4],cQb4⟩
def ajJ:List O:=[oo 4<|.mv (.k (.str ⟨#[]⟩))]
def ajI:List O:=[aD 10 1,oo 11<|.bin .eql (.t 10) (ki 10)]
def ajH:List O:=[aD 12 0,oo 13<|.bin .leq (ki 0) (.t 12),aD 14 13,ub 15 14 0,gt 16 14<|.bin .lss (.t 15) (ki 100),F7 17 14 16]
def ajG:List O:=[aD 18 0,oe 19 101 18,aD 4 19]
def ajF:List O:=[oo 5<|.new [.int .u8 0,.int .u8 0,.int .u8 0,.int .u8 0,.int .u8 0,.int .u8 0,.int .u8 0,.int .u8 0,.int .u8 0,.int .u8 0,.int .u8 0,.int .u8 0,.int .u8 0,.int .u8 0,.int .u8 0,.int .u8 0,.int .u8 0,.int .u8 0,.int .u8 0,.int .u8 0,.int .u8 0,.int .u8 0,.int .u8 0,.int .u8 0]]
def ajE:List O:=[aD 20 0,oo 21<|.Q5 .u64 (.t 20),aD 6 21]
def ajD:List O:=[aD 22 0,UD 23 22 0]
def ajC:List O:=[aD 24 6,oo 25<|.un .neg (.t 24),aD 6 25]
def ajB:List O:=[aD 26 6,oe 27 102 26,aD 7 27]
def ajA:List O:=[aD 28 7,oo 29<|.bin .add (ki 1) (.t 28),oo 30<|.bad,aD 31 6,uG 32 103 30 31]
def agp:List O:=[aD 33 0,UD 34 33 0]
def ago:List O:=[oo 35<|.Ic 24 1 (.t 5) (ki 0),oz<|.st 1 (.t 35) (.k (.int .u8 45))]
def agn:List O:=[aD 36 7,oo 37<|.bin .add (ki 1) (.t 36),oo 38<|.Na 24 (.t 5) (some (.t 37)),oo 39<|.bad,aD 4 39]
def agm:List O:=[aD 40 7,oo 41<|.bin .add (ki 1) (.t 40),oo 42<|.bad,oo 43<|.bad,aD 4 43]
def agl:List O:=[aD 45 0,oo 46<|.Q5 .u64 (.t 45),aD 47 1,aD 48 0,UD 49 48 0,oo 50<|.call 104 [.k (.own 1 []),.t 46,.t 47,.t 49,.k (.bool false)],aD 44 50,F8 51 0 44,F8 52 1 44,aD 8 51,aD 9 52]
def agk:List O:=[aD 53 9,aD 4 53]
def cQb5:C:=(aX ajJ [0,1] (.seq (aX ajI [0,1,11] (.cond (.t 11) (.seq (aX ajH [0,17] (.cond (.t 17) (aX ajG [4] .ret) .skip)) (aX ajF [0,5] (aX ajE [0,5,6] (.seq (aX ajD [0,5,6,23] (.cond (.t 23) (iD ajC [0,5,6]) .skip)) (aX ajB [0,5,6,7] (aX ajA [0,5,7] (.seq (aX agp [5,7,34] (.cond (.t 34) (aX ago [5,7] (aX agn [4] .ret)) .skip)) (aX agm [4] .ret)))))))) .skip)) (aX agl [9] (aX agk [4] .ret))))
def qQb5:fW:=⟨54,2,[.t 4],cQb5⟩
def acU:List O:=[sF 2 1]
def acT:List O:=[aD 3 0,oo 4<|.eq false .V8 (.t 3) (.k (.own 1 []))]
def acS:List O:=[sF 2 1]
def acR:List O:=[oo 5<|.dK 1 0 [.int .i64 0] [],aD 6 0,L6 7 1 5 6,aD 2 7]
def cQb6:C:=(aX acU [0] (.seq (aX acT [0,4] (.cond (.t 4) (aX acS [2] .ret) .skip)) (aX acR [2] .ret)))
def qQb6:fW:=⟨8,1,[.t 2],cQb6⟩
def ajz:List O:=[aD 3 0,jD 4 3,aD 2 4]
def ajy:List O:=[aD 5 0,aD 6 2,aD 7 2,oo 8<|.Q5 .u64 (.t 7),oe 9 71 8,oo 10<|.call 106 [.t 5,ki 0,.t 6,.t 9]]
def cQb7:C:=(aX ajz [0,2] (iD ajy []))
def qQb7:fW:=⟨11,1,[],cQb7⟩
def ajx:List O:=[sF 2 1]
def ajw:List O:=[aD 6 0,jD 7 6,UD 8 7 2]
def ajv:List O:=[aD 9 0,aD 2 9]
def aju:List O:=[fH 3 1]
def ajt:List O:=[aD 10 3,aD 11 0,jD 12 11,om 13 10 12]
def ajs:List O:=[aD 16 0,aD 17 3,jE 18 1 16 17,fI 19 18,aD 20 0,aD 21 3,oo 22<|.bin .sub (.t 21) (ki 1),jE 23 1 20 22,fI 24 23,oo 25<|.bin .eql (.t 19) (.t 24)]
def ajr:List O:=[aD 26 0,aD 27 3,oo 28<|.Fc 1 (.t 26) (some (.t 27)) none,aD 4 28]
def ajq:List O:=[fH 5 1]
def ajp:List O:=[aD 29 5,aD 30 4,jD 31 30,om 32 29 31]
def ajo:List O:=[aD 35 4,aD 36 5,jE 37 1 35 36,fI 38 37,aD 39 4,aD 40 5,oo 41<|.bin .sub (.t 40) (ki 1),jE 42 1 39 41,fI 43 42,oo 44<|.bin .neq (.t 38) (.t 43)]
def agj:List O:=[aD 45 0,aD 46 3,aD 47 4,aD 48 5,jE 49 1 47 48,fI 50 49,jE 51 1 45 46,ua 1 51 50]
def agi:List O:=[aD 52 3,nX 53 52 1,aD 3 53]
def agh:List O:=[aD 33 5,nX 34 33 1,aD 5 34]
def akU:C:=(.seq (aX ajp [0,3,4,5,32] (nY 32 2)) (.seq (.aJ 3 (.seq (.pI ajo true [(9,9),(3,4),(3,5),(3,6),(3,7),(0,8),(1,8),(2,8),(3,8)] [0,3,4,5,44]) (.cond (.t 44) (aX agj [0,3,4,5] (iD agi [0,3,4,5])) .skip))) (iD agh [0,3,4,5])))
def agf:List O:=[aD 54 0,aD 55 3,oo 56<|.Fc 1 (.t 54) (some (.t 55)) none,oz<|.clr 1 [.int .i64 0] (.t 56)]
def age:List O:=[aD 57 0,aD 58 3,oo 59<|.Fc 1 (.t 57) none (some (.t 58)),aD 2 59]
def agd:List O:=[aD 14 3,nX 15 14 1,aD 3 15]
def akT:C:=(.seq (aX ajt [0,3,13] (nY 13 0)) (.seq (.aJ 1 (.seq (.pI ajs true [(9,9),(3,4),(3,5),(3,6),(3,7),(0,8),(1,8),(2,8),(3,8)] [0,3,25]) (.cond (.t 25) (aX ajr [0,3,4] (.seq (aX ajq [0,3,4,5] (.aJ 2 (.loop akU))) (aX agf [0,3] (aX age [2] .ret)))) .skip))) (iD agd [0,3])))
def agc:List O:=[aD 60 0,aD 2 60]
def cQb8:C:=(aX ajx [0] (.seq (aX ajw [0,8] (.cond (.t 8) (aX ajv [2] .ret) .skip)) (.seq (aX aju [0,3] (.aJ 0 (.loop akT))) (aX agc [2] .ret))))
def qQb8:fW:=⟨61,1,[.t 2],cQb8⟩
abbrev Md:=Go.Bm.Md
abbrev eI:=Go.Bm.eI
def look:List (Nat × Md × fW)->Nat->Option (Md × fW)
 |[],_=>none
 |(j,m,q)::r,i=>if i=j then some (m,q) else look r i
def fns:List (Nat × Md × fW):=[
 (nQa,⟨false,false,true⟩,qQa),
 (nQb,⟨false,false,true⟩,qQb),
 (nQc,⟨true,false,false⟩,qQc),
 (nQd,⟨true,false,false⟩,qQd),
 (Of,⟨false,false,false⟩,qQe),
 (KP,⟨true,false,false⟩,qQf),
 (nQg,⟨true,false,false⟩,qQg),
 (nQh,⟨false,false,true⟩,qQh),
 (nQi,⟨false,false,true⟩,qQi),
 (Oe,⟨false,false,false⟩,qQj),
 (nQk,⟨false,false,true⟩,qQk),
 (nQl,⟨false,false,true⟩,qQl),
 (nQm,⟨false,false,true⟩,qQm),
 (nQn,⟨false,false,false⟩,qQn),
 (nQo,⟨false,false,false⟩,qQo),
 (nQp,⟨false,false,false⟩,qQp),
 (nQq,⟨false,false,true⟩,qQq),
 (nQr,⟨false,true,true⟩,qQr),
 (nQs,⟨false,false,false⟩,qQs),
 (nQt,⟨false,false,true⟩,qQt),
 (nQu,⟨false,false,true⟩,qQu),
 (nQv,⟨false,false,true⟩,qQv),
 (nQw,⟨false,false,true⟩,qQw),
 (nQx,⟨false,false,true⟩,qQx),
 (nQy,⟨false,false,true⟩,qQy),
 (nQz,⟨false,false,true⟩,qQz),
 (nQA,⟨true,true,false⟩,qQA),
 (nQB,⟨true,false,false⟩,qQB),
 (nQC,⟨false,false,true⟩,qQC),
 (nQD,⟨true,false,false⟩,qQD),
 (nQE,⟨false,false,true⟩,qQE),
 (nQF,⟨false,false,false⟩,qQF),
 (nQG,⟨false,false,true⟩,qQG),
 (nQH,⟨true,false,false⟩,qQH),
 (nQI,⟨true,false,false⟩,qQI),
 (nQJ,⟨false,false,true⟩,qQJ),
 (nQK,⟨false,false,false⟩,qQK),
 (nQL,⟨false,false,true⟩,qQL),
 (nQM,⟨false,false,false⟩,qQM),
 (nQN,⟨false,false,true⟩,qQN),
 (nQO,⟨false,false,false⟩,qQO),
 (nQP,⟨false,false,false⟩,qQP),
 (nQQ,⟨false,false,false⟩,qQQ),
 (nQR,⟨false,false,true⟩,qQR),
 (nQS,⟨false,false,true⟩,qQS),
 (nQT,⟨false,false,true⟩,qQT),
 (nQU,⟨true,true,false⟩,qQU),
 (nQV,⟨false,false,false⟩,qQV),
 (nQW,⟨false,true,true⟩,qQW),
 (nQX,⟨false,false,true⟩,qQX),
 (Og,⟨false,false,true⟩,qQY),
 (MA,⟨false,false,true⟩,qQZ),
 (P5,⟨false,false,true⟩,qQ0),
 (nQ1,⟨false,false,true⟩,qQ1),
 (nQ2,⟨false,false,false⟩,qQ2),
 (nQ3,⟨false,false,true⟩,qQ3),
 (nQ4,⟨false,false,false⟩,qQ4),
 (nQ5,⟨false,false,true⟩,qQ5),
 (nQ6,⟨false,false,true⟩,qQ6),
 (nQ7,⟨false,true,true⟩,qQ7),
 (nQ8,⟨false,false,false⟩,qQ8),
 (nQ9,⟨false,false,false⟩,qQ9),
 (Wk,⟨false,false,true⟩,qQa0),
 (Wj,⟨false,false,true⟩,qQa1),
 (SF,⟨false,false,true⟩,qQa2),
 (SE,⟨false,false,true⟩,qQa3),
 (SD,⟨false,false,false⟩,qQa4),
 (vL,⟨false,false,true⟩,VT),
 (wI,⟨false,false,true⟩,VS),
 (Wi,⟨false,false,false⟩,qQa7),
 (SC,⟨false,false,true⟩,qQa8),
 (nQa9,⟨false,false,true⟩,qQa9),
 (Wh,⟨false,false,false⟩,qQb0),
 (SA,⟨false,false,true⟩,qQb1),
 (Wg,⟨false,false,false⟩,qQb2),
 (Wf,⟨false,false,false⟩,qQb3),
 (nQb4,⟨false,false,true⟩,qQb4),
 (P4,⟨false,true,true⟩,qQb5),
 (KQ,⟨false,true,true⟩,qQb6),
 (Sz,⟨false,false,true⟩,qQb7),
 (Sy,⟨false,false,false⟩,qQb8)]
def nQb9:Nat:=0
def Rh:List Int:=[0,1,56,2,57,49,28,3,61,58,42,50,38,29,17,4,62,47,59,36,45,43,51,22,53,39,33,30,24,18,12,5,63,55,48,27,60,41,37,16,46,35,44,21,52,32,23,11,54,26,40,15,34,20,31,10,25,14,19,9,13,8,7,6]
def tabA:List AV:=Rh.map (AV.int .u8)
def cfg:eI:=⟨look fns,fun i=>if i=nQb9 then tabA else[],fun _=>none,fun _=>none,fun _=>none,fun _=>false,fun _=>false,fun _=>none⟩
theorem kQa:cI aj Go.Proofs.Tryz.f3 qQa=true:=by kernel_rfl
theorem kQb:cI aj Go.Proofs.Tryz.f4 qQb=true:=by kernel_rfl
theorem kQc:cI aj Go.Proofs.Tryz.f5 qQc=true:=by kernel_rfl
theorem kQd:cI aj Go.Proofs.Tryz.f6 qQd=true:=by kernel_rfl
theorem kQe:cI aj Go.Proofs.Tryz.f7 qQe=true:=by kernel_rfl
theorem kQf:cI aj Go.Proofs.Tryz.f8 qQf=true:=by kernel_rfl
theorem kQg:cI aj Go.Proofs.Tryz.f9 qQg=true:=by kernel_rfl
theorem kQh:cI aj Go.Proofs.Tryz.f10 qQh=true:=by kernel_rfl
theorem kQi:cI aj Go.Proofs.Tryz.f11 qQi=true:=by kernel_rfl
theorem kQj:cI aj Go.Proofs.Tryz.f12 qQj=true:=by kernel_rfl
theorem kQk:cI aj Go.Proofs.Tryz.f13 qQk=true:=by kernel_rfl
theorem kQl:cI aj Go.Proofs.Tryz.f14 qQl=true:=by kernel_rfl
theorem kQm:cI aj Go.Proofs.Tryz.f15 qQm=true:=by kernel_rfl
theorem kQn:cI aj Go.Proofs.Tryz.f16 qQn=true:=by kernel_rfl
theorem kQo:cI aj Go.Proofs.Tryz.f17 qQo=true:=by kernel_rfl
theorem kQp:cI aj Go.Proofs.Tryz.f18 qQp=true:=by kernel_rfl
theorem kQq:cI aj Go.Proofs.Tryz.f19 qQq=true:=by kernel_rfl
theorem kQr:cI aj Go.Proofs.Tryz.f20 qQr=true:=by kernel_rfl
theorem kQs:cI aj Go.Proofs.Tryz.f21 qQs=true:=by kernel_rfl
theorem kQt:cI aj Go.Proofs.Tryz.f22 qQt=true:=by kernel_rfl
theorem kQu:cI aj Go.Proofs.Tryz.f23 qQu=true:=by kernel_rfl
theorem kQv:cI aj Go.Proofs.Tryz.f24 qQv=true:=by kernel_rfl
theorem kQw:cI aj Go.Proofs.Tryz.f25 qQw=true:=by kernel_rfl
theorem kQx:cI aj Go.Proofs.Tryz.f26 qQx=true:=by kernel_rfl
theorem kQy:cI aj Go.Proofs.Tryz.f27 qQy=true:=by kernel_rfl
theorem kQz:cI aj Go.Proofs.Tryz.f28 qQz=true:=by kernel_rfl
theorem kQA:cI aj Go.Proofs.Tryz.f29 qQA=true:=by kernel_rfl
theorem kQB:cI aj Go.Proofs.Tryz.f30 qQB=true:=by kernel_rfl
theorem kQC:cI aj Go.Proofs.Tryz.f31 qQC=true:=by kernel_rfl
theorem kQD:cI aj Go.Proofs.Tryz.f32 qQD=true:=by kernel_rfl
theorem kQE:cI aj Go.Proofs.Tryz.f33 qQE=true:=by kernel_rfl
theorem kQF:cI aj Go.Proofs.Tryz.f34 qQF=true:=by kernel_rfl
theorem kQG:cI aj Go.Proofs.Tryz.f35 qQG=true:=by kernel_rfl
theorem kQH:cI aj Go.Proofs.Tryz.f36 qQH=true:=by kernel_rfl
theorem kQI:cI aj Go.Proofs.Tryz.f37 qQI=true:=by kernel_rfl
theorem kQJ:cI aj Go.Proofs.Tryz.f38 qQJ=true:=by kernel_rfl
theorem kQK:cI aj Go.Proofs.Tryz.f39 qQK=true:=by kernel_rfl
theorem kQL:cI aj Go.Proofs.Tryz.f40 qQL=true:=by kernel_rfl
theorem kQM:cI aj Go.Proofs.Tryz.f41 qQM=true:=by kernel_rfl
theorem kQN:cI aj Go.Proofs.Tryz.f42 qQN=true:=by kernel_rfl
theorem kQO:cI aj Go.Proofs.Tryz.f43 qQO=true:=by kernel_rfl
theorem kQP:cI aj Go.Proofs.Tryz.f44 qQP=true:=by kernel_rfl
theorem kQQ:cI aj Go.Proofs.Tryz.f45 qQQ=true:=by kernel_rfl
theorem kQR:cI aj Go.Proofs.Tryz.f46 qQR=true:=by kernel_rfl
theorem kQS:cI aj Go.Proofs.Tryz.f47 qQS=true:=by kernel_rfl
theorem kQT:cI aj Go.Proofs.Tryz.f48 qQT=true:=by kernel_rfl
theorem kQU:cI aj Go.Proofs.Tryz.f49 qQU=true:=by kernel_rfl
theorem kQV:cI aj Go.Proofs.Tryz.f50 qQV=true:=by kernel_rfl
theorem kQW:cI aj Go.Proofs.Tryz.f51 qQW=true:=by kernel_rfl
theorem kQX:cI aj Go.Proofs.Tryz.f52 qQX=true:=by kernel_rfl
theorem kQY:cI aj Go.Proofs.Tryz.f53 qQY=true:=by kernel_rfl
theorem kQZ:cI aj Go.Proofs.Tryz.f54 qQZ=true:=by kernel_rfl
theorem kQ0:cI aj Go.Proofs.Tryz.f55 qQ0=true:=by kernel_rfl
theorem kQ1:cI aj Go.Proofs.Tryz.f56 qQ1=true:=by kernel_rfl
theorem kQ2:cI aj Go.Proofs.Tryz.f57 qQ2=true:=by kernel_rfl
theorem kQ3:cI aj Go.Proofs.Tryz.f58 qQ3=true:=by kernel_rfl
theorem kQ4:cI aj Go.Proofs.Tryz.f59 qQ4=true:=by kernel_rfl
theorem kQ5:cI aj Go.Proofs.Tryz.f60 qQ5=true:=by kernel_rfl
theorem kQ6:cI aj Go.Proofs.Tryz.f61 qQ6=true:=by kernel_rfl
theorem kQ7:cI aj Go.Proofs.Tryz.f62 qQ7=true:=by kernel_rfl
theorem kQ8:cI aj Go.Proofs.Tryz.f63 qQ8=true:=by kernel_rfl
theorem kQ9:cI aj Go.Proofs.Tryz.f64 qQ9=true:=by kernel_rfl
theorem kQa0:cI aj Go.Proofs.Tryz.f65 qQa0=true:=by kernel_rfl
theorem kQa1:cI aj Go.Proofs.Tryz.f66 qQa1=true:=by kernel_rfl
theorem kQa2:cI aj Go.Proofs.Tryz.f67 qQa2=true:=by kernel_rfl
theorem kQa3:cI aj Go.Proofs.Tryz.f68 qQa3=true:=by kernel_rfl
theorem kQa4:cI aj Go.Proofs.Tryz.f69 qQa4=true:=by kernel_rfl
theorem kQa5:cI aj Go.Proofs.Tryz.f72 VT=true:=by kernel_rfl
theorem kQa6:cI aj Go.Proofs.Tryz.f73 VS=true:=by kernel_rfl
theorem kQa7:cI aj Go.Proofs.Tryz.f74 qQa7=true:=by kernel_rfl
theorem kQa8:cI aj Go.Proofs.Tryz.f75 qQa8=true:=by kernel_rfl
theorem kQa9:cI aj Go.Proofs.Tryz.f76 qQa9=true:=by kernel_rfl
theorem kQb0:cI aj Go.Proofs.Tryz.f77 qQb0=true:=by kernel_rfl
theorem kQb1:cI aj Go.Proofs.Tryz.f78 qQb1=true:=by kernel_rfl
theorem kQb2:cI aj Go.Proofs.Tryz.f79 qQb2=true:=by kernel_rfl
theorem kQb3:cI aj Go.Proofs.Tryz.f90 qQb3=true:=by kernel_rfl
theorem kQb4:cI aj Go.Proofs.Tryz.f91 qQb4=true:=by kernel_rfl
theorem kQb5:cI aj Go.Proofs.Tryz.f92 qQb5=true:=by kernel_rfl
theorem kQb6:cI aj Go.Proofs.Tryz.f98 qQb6=true:=by kernel_rfl
theorem kQb7:cI aj Go.Proofs.Tryz.f99 qQb7=true:=by kernel_rfl
theorem kQb8:cI aj Go.Proofs.Tryz.f100 qQb8=true:=by kernel_rfl
theorem SX:∀{l:List (Nat × Md × fW)} {f:Nat} {m:Md} {q:fW},look l f=some (m,q)->(f,m,q)∈l
 |[],f,m,q,h=>by simp[look] at h
 |(j,m',q')::r,f,m,q,h=>by
   unfold look at h;split at h
   ·rename_i he; subst he; simp at h; obtain⟨rfl,rfl⟩:=h; simp
   ·exact List.mem_cons_of_mem _ (SX h)
def Good (p:Nat × Md × fW):Prop:=∃fn,aj.funcs[p.1]?=some fn/\cI aj fn p.2.2=true
def All (G:Nat × Md × fW->Prop):List (Nat × Md × fW)->Prop
 |[]=>True
 |p::r=>G p/\All G r
theorem All.get {G:Nat × Md × fW->Prop}:∀{l:List (Nat × Md × fW)},All G l->∀p∈l,G p
 |[],_,p,h=>by simp at h
 |q::r,h,p,hp=>by
   rcases List.mem_cons.1 hp with e|e
   ·subst e; exact h.1
   ·exact All.get h.2 p e
theorem aik:All Good fns:=⟨⟨_,Go.Proofs.Tryz.func3,kQa⟩,⟨_,Go.Proofs.Tryz.func4,kQb⟩,⟨_,Go.Proofs.Tryz.func5,kQc⟩,⟨_,Go.Proofs.Tryz.func6,kQd⟩,⟨_,Go.Proofs.Tryz.func7,kQe⟩,⟨_,Go.Proofs.Tryz.func8,kQf⟩,⟨_,Go.Proofs.Tryz.func9,kQg⟩,⟨_,Go.Proofs.Tryz.func10,kQh⟩,⟨_,Go.Proofs.Tryz.func11,kQi⟩,⟨_,Go.Proofs.Tryz.func12,kQj⟩,⟨_,Go.Proofs.Tryz.func13,kQk⟩,⟨_,Go.Proofs.Tryz.func14,kQl⟩,⟨_,Go.Proofs.Tryz.func15,kQm⟩,⟨_,Go.Proofs.Tryz.func16,kQn⟩,⟨_,Go.Proofs.Tryz.func17,kQo⟩,⟨_,Go.Proofs.Tryz.func18,kQp⟩,⟨_,Go.Proofs.Tryz.func19,kQq⟩,⟨_,Go.Proofs.Tryz.func20,kQr⟩,⟨_,Go.Proofs.Tryz.func21,kQs⟩,⟨_,Go.Proofs.Tryz.func22,kQt⟩,⟨_,Go.Proofs.Tryz.func23,kQu⟩,⟨_,Go.Proofs.Tryz.func24,kQv⟩,⟨_,Go.Proofs.Tryz.func25,kQw⟩,⟨_,Go.Proofs.Tryz.func26,kQx⟩,⟨_,Go.Proofs.Tryz.func27,kQy⟩,⟨_,Go.Proofs.Tryz.func28,kQz⟩,⟨_,Go.Proofs.Tryz.func29,kQA⟩,⟨_,Go.Proofs.Tryz.func30,kQB⟩,⟨_,Go.Proofs.Tryz.func31,kQC⟩,⟨_,Go.Proofs.Tryz.func32,kQD⟩,⟨_,Go.Proofs.Tryz.func33,kQE⟩,⟨_,Go.Proofs.Tryz.func34,kQF⟩,⟨_,Go.Proofs.Tryz.func35,kQG⟩,⟨_,Go.Proofs.Tryz.func36,kQH⟩,⟨_,Go.Proofs.Tryz.func37,kQI⟩,⟨_,Go.Proofs.Tryz.func38,kQJ⟩,⟨_,Go.Proofs.Tryz.func39,kQK⟩,⟨_,Go.Proofs.Tryz.func40,kQL⟩,⟨_,Go.Proofs.Tryz.func41,kQM⟩,⟨_,Go.Proofs.Tryz.func42,kQN⟩,⟨_,Go.Proofs.Tryz.func43,kQO⟩,⟨_,Go.Proofs.Tryz.func44,kQP⟩,⟨_,Go.Proofs.Tryz.func45,kQQ⟩,⟨_,Go.Proofs.Tryz.func46,kQR⟩,⟨_,Go.Proofs.Tryz.func47,kQS⟩,⟨_,Go.Proofs.Tryz.func48,kQT⟩,⟨_,Go.Proofs.Tryz.func49,kQU⟩,⟨_,Go.Proofs.Tryz.func50,kQV⟩,⟨_,Go.Proofs.Tryz.func51,kQW⟩,⟨_,Go.Proofs.Tryz.func52,kQX⟩,⟨_,Go.Proofs.Tryz.func53,kQY⟩,⟨_,Go.Proofs.Tryz.func54,kQZ⟩,⟨_,Go.Proofs.Tryz.func55,kQ0⟩,⟨_,Go.Proofs.Tryz.func56,kQ1⟩,⟨_,Go.Proofs.Tryz.func57,kQ2⟩,⟨_,Go.Proofs.Tryz.func58,kQ3⟩,⟨_,Go.Proofs.Tryz.func59,kQ4⟩,⟨_,Go.Proofs.Tryz.func60,kQ5⟩,⟨_,Go.Proofs.Tryz.func61,kQ6⟩,⟨_,Go.Proofs.Tryz.func62,kQ7⟩,⟨_,Go.Proofs.Tryz.func63,kQ8⟩,⟨_,Go.Proofs.Tryz.func64,kQ9⟩,⟨_,Go.Proofs.Tryz.func65,kQa0⟩,⟨_,Go.Proofs.Tryz.func66,kQa1⟩,⟨_,Go.Proofs.Tryz.func67,kQa2⟩,⟨_,Go.Proofs.Tryz.func68,kQa3⟩,⟨_,Go.Proofs.Tryz.func69,kQa4⟩,⟨_,Go.Proofs.Tryz.func72,kQa5⟩,⟨_,Go.Proofs.Tryz.func73,kQa6⟩,⟨_,Go.Proofs.Tryz.func74,kQa7⟩,⟨_,Go.Proofs.Tryz.func75,kQa8⟩,⟨_,Go.Proofs.Tryz.func76,kQa9⟩,⟨_,Go.Proofs.Tryz.func77,kQb0⟩,⟨_,Go.Proofs.Tryz.func78,kQb1⟩,⟨_,Go.Proofs.Tryz.func79,kQb2⟩,⟨_,Go.Proofs.Tryz.func90,kQb3⟩,⟨_,Go.Proofs.Tryz.func91,kQb4⟩,⟨_,Go.Proofs.Tryz.func92,kQb5⟩,⟨_,Go.Proofs.Tryz.func98,kQb6⟩,⟨_,Go.Proofs.Tryz.func99,kQb7⟩,⟨_,Go.Proofs.Tryz.func100,kQb8⟩,trivial⟩
theorem aa9:fj aj cfg:=⟨by kernel_rfl,fun f m q h=>aik.get _ (SX h)⟩
theorem gQX:cfg.fn nQX=some (⟨false,false,true⟩,qQX):=rfl
theorem gQY:cfg.fn Og=some (⟨false,false,true⟩,qQY):=rfl
theorem gQZ:cfg.fn MA=some (⟨false,false,true⟩,qQZ):=rfl
theorem gQ0:cfg.fn P5=some (⟨false,false,true⟩,qQ0):=rfl
theorem gQa5:cfg.fn vL=some (⟨false,false,true⟩,VT):=rfl
theorem gQa6:cfg.fn wI=some (⟨false,false,true⟩,VS):=rfl
end Go.BmP
