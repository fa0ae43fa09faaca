/- The compact code of the functions, printed by program off the translation. -/
import Derived.Test.YtpimmjklbakckaaGreatDoorChecked
import Derived.Test.YtpimmjklbakckaaGreatDoorBmA
import Derived.KernelRfl
set_option maxRecDepth 100000
open Go.Proofs.Tryz renaming func32 → VE, func33 → VD, func54 → VB, func57 → VA, func73 → Vy, func80 → Vu, func81 → Vt, prog → aj
namespace Go.BmP
open Go.Am Go.Bm
abbrev oo (d:Nat) (x:Kd):O:=⟨some d,none,x⟩
abbrev gf (d g:Nat) (k:Kd):O:=⟨some d,some (g,false),k⟩
abbrev gt (d g:Nat) (k:Kd):O:=⟨some d,some (g,true),k⟩
abbrev oz (x:Kd):O:=⟨none,none,x⟩
abbrev ki (n:Nat):E:=.k (.int .i64 n)
abbrev aG (d a:Nat):O:=⟨some d,none,.mv (.t a)⟩
abbrev fW (d a:Nat):O:=⟨some d,none,.ld none (.t a)⟩
abbrev hZ (d n:Nat):O:=⟨some d,none,.mv (.k (.int .i64 n))⟩
abbrev nK (d k a b:Nat):O:=⟨some d,none,.sU k (.t a) (.t b)⟩
abbrev mZ (d k a:Nat):O:=⟨some d,none,.yn k (.t a)⟩
abbrev mR (d a:Nat):O:=⟨some d,none,.len (.t a)⟩
abbrev Er (d k a:Nat):O:=⟨some d,none,.ld (some k) (.t a)⟩
abbrev sa (d a n:Nat):O:=⟨some d,none,.bin .add (.t a) (.k (.int .i64 n))⟩
abbrev rV (d a b:Nat):O:=⟨some d,none,.bin .lss (.t a) (.t b)⟩
abbrev vV (d k:Nat):O:=⟨some d,none,.mv (.k (.own k []))⟩
abbrev qI (d f a:Nat):O:=⟨some d,none,.call f [.t a]⟩
abbrev BG (d f a b:Nat):O:=⟨some d,none,.call f [.t a,.t b]⟩
abbrev Rf (d k a:Nat):O:=⟨some d,none,.ext k (.t a)⟩
abbrev Ao (d g a:Nat):O:=⟨some d,some (g,false),.mv (.t a)⟩
abbrev ur (d g a:Nat):O:=⟨some d,some (g,true),.mv (.t a)⟩
abbrev Bu (k a b:Nat):O:=⟨none,none,.st k (.t a) (.t b)⟩
abbrev DI (d:Nat) (b:Bool):O:=⟨some d,none,.mv (.k (.bool b))⟩
abbrev Ia (d a:Nat):O:=⟨some d,none,.box (.t a)⟩
abbrev LG (d a b:Nat):O:=⟨some d,none,.pick (.t a) (.k (.bool true)) (.t b)⟩
abbrev G7 (d a b:Nat):O:=⟨some d,none,.pick (.t a) (.t b) (.k (.bool false))⟩
abbrev Bt (d g a:Nat):O:=⟨some d,some (g,false),.ld none (.t a)⟩
abbrev CD (d g a:Nat):O:=⟨some d,some (g,true),.ld none (.t a)⟩
abbrev Re (d k a b:Nat):O:=⟨some d,none,.app k (.t a) (.t b)⟩
abbrev DH (d g k a:Nat):O:=⟨some d,some (g,false),.yn k (.t a)⟩
abbrev bzY (d a n:Nat):O:=⟨some d,none,.bin .neq (.t a) (.k (.int .i64 n))⟩
abbrev Rc (d a n:Nat):O:=⟨some d,none,.bin .lss (.t a) (.k (.int .i64 n))⟩
abbrev bn (r:List O) (l:List Nat) (x:C):C:=.seq (.rX r false [] l) x
abbrev ke (r:List O) (l:List Nat):C:=.rX r false [] l
abbrev sd (g e:Nat):C:=.cond (.t g) .skip (.exit e)
def nQa:Nat:=3
def nQb:Nat:=4
def nQc:Nat:=5
def nQd:Nat:=6
def nQe:Nat:=7
def nQf:Nat:=8
def nQg:Nat:=9
def nQh:Nat:=10
def nQi:Nat:=11
def nQj:Nat:=12
def MV:Nat:=13
def nQl:Nat:=14
def nQm:Nat:=15
def nQn:Nat:=16
def nQo:Nat:=17
def W7:Nat:=18
def nQq:Nat:=19
def nQr:Nat:=20
def nQs:Nat:=21
def nQt:Nat:=22
def nQu:Nat:=23
def nQv:Nat:=24
def nQw:Nat:=25
def nQx:Nat:=26
def nQy:Nat:=27
def nQz:Nat:=28
def nQA:Nat:=29
def nQB:Nat:=30
def nQC:Nat:=31
def nQD:Nat:=32
def V6:Nat:=33
def O6:Nat:=34
def Lw:Nat:=35
def Qn:Nat:=36
def nQI:Nat:=37
def nQJ:Nat:=38
def nQK:Nat:=39
def nQL:Nat:=40
def nQM:Nat:=41
def nQN:Nat:=42
def nQO:Nat:=43
def nQP:Nat:=44
def nQQ:Nat:=45
def nQR:Nat:=46
def nQS:Nat:=47
def nQT:Nat:=48
def nQU:Nat:=49
def nQV:Nat:=50
def nQW:Nat:=51
def O5:Nat:=54
def Qm:Nat:=55
def nQZ:Nat:=56
def nQ0:Nat:=57
def nQ1:Nat:=58
def nQ2:Nat:=59
def nQ3:Nat:=60
def nQ4:Nat:=71
def nQ5:Nat:=72
def nQ6:Nat:=73
def nQ7:Nat:=79
def nQ8:Nat:=80
def nQ9:Nat:=81
def uZ:List O:=[DI 2 false]
def uY:List O:=[aG 19 0,qI 20 nQc 19,oo 21<|.call nQb [.t 20,ki 9],oo 3<|.new [.int .i64 0,.own 2 []],Bu 2 3 21]
def uX:List O:=[Er 23 2 3,qI 24 nQd 23,aG 22 24,Rf 25 0 22,Rf 26 1 22,aG 4 25,aG 5 26]
def uW:List O:=[Er 28 2 3,qI 29 nQe 28,aG 27 29,Rf 30 0 27,Rf 31 1 27,aG 6 30,aG 7 31]
def uV:List O:=[aG 32 5,bzY 33 32 0]
def uU:List O:=[DI 2 false]
def uT:List O:=[aG 34 4,mR 35 34,hZ 36 0]
def uS:List O:=[rV 37 36 35]
def uR:List O:=[aG 38 36,nK 39 3 34 36,Er 40 3 39,oo 9<|.new [.int .i64 0,.int .i64 0,.own 1 []],aG 8 38,Bu 3 9 40]
def uQ:List O:=[mZ 41 1 9,fW 42 41,aG 43 8,oo 44<|.bin .geq (.t 42) (.t 43),aG 45 44,DH 46 45 1 9,Bt 47 45 46,gf 48 45<|.bin .lss (.t 47) (.k (.int .i64 (-1))),LG 49 45 48]
def p9:List O:=[DI 2 false]
def p8:List O:=[mZ 50 1 9,fW 51 50,aG 10 51]
def p7:List O:=[aG 52 10,oo 53<|.bin .geq (.t 52) (ki 0),aG 54 53,ur 55 54 4,ur 56 54 10,gt 57 54<|.sU 3 (.t 55) (.t 56),gt 58 54<|.yn 0 (.t 57),CD 59 54 58,gt 60 54<|.yn 0 (.t 9),CD 61 54 60,gt 62 54<|.bin .geq (.t 59) (.t 61),ur 63 54 62,DH 64 63 2 9,Bt 65 63 64,Ao 66 63 4,Ao 67 63 10,gf 68 63<|.sU 3 (.t 66) (.t 67),DH 69 63 2 68,Bt 70 63 69,gf 71 63<|.call nQf [.t 65,.t 70],gf 72 63<|.un .not (.t 71),gt 73 54<|.pick (.t 63) (.k (.bool true)) (.t 72),ur 74 54 73,Ao 75 74 4,Ao 76 74 10,gf 77 74<|.sU 3 (.t 75) (.t 76),DH 78 74 2 77,Bt 79 74 78,gf 80 74<|.len (.t 79),DH 81 74 2 9,Bt 82 74 81,gf 83 74<|.len (.t 82),gf 84 74<|.bin .leq (.t 80) (.t 83),gt 85 54<|.pick (.t 74) (.k (.bool true)) (.t 84),G7 86 54 85]
def pZ:List O:=[DI 2 false]
def pY:List O:=[aG 87 4,aG 88 8,oo 89<|.EN 3 (.t 87) none (some (.t 88)),mR 90 89,hZ 91 0]
def pX:List O:=[rV 92 91 90]
def pW:List O:=[nK 93 3 89 91,Er 94 3 93,oo 12<|.new [.int .i64 0,.int .i64 0,.own 1 []],Bu 3 12 94]
def pT:List O:=[mZ 95 2 9,fW 96 95,mZ 97 2 12,fW 98 97,BG 99 nQg 96 98,mR 100 99,aG 13 100]
def pS:List O:=[aG 101 13,oo 102<|.bin .gtr (.t 101) (ki 0),aG 103 102,ur 104 103 13,gt 105 103<|.yn 2 (.t 9),CD 106 103 105,gt 107 103<|.len (.t 106),gt 108 103<|.bin .neq (.t 104) (.t 107),G7 109 103 108]
def pR:List O:=[DI 2 false]
def pQ:List O:=[sa 110 91 1,aG 91 110]
def Nz:C:=(bn pX [3,4,6,9,34,35,36,89,90,91,92] (.seq (sd 92 2) (.seq (.aJ 3 (bn pW [3,4,6,9,12,34,35,36,89,90,91] (bn pT [3,4,6,9,13,34,35,36,89,90,91] (bn pS [3,4,6,9,34,35,36,89,90,91,109] (.cond (.t 109) (bn pR [2] .ret) .skip))))) (ke pQ [3,4,6,9,34,35,36,89,90,91]))))
def pP:List O:=[mZ 111 2 9,fW 112 111,mR 113 112,hZ 114 0]
def pO:List O:=[rV 115 114 113]
def pN:List O:=[nK 116 1 112 114,fW 117 116,aG 15 117]
def pK:List O:=[Er 118 2 3,aG 119 15,BG 120 nQh 118 119,mZ 121 2 9,fW 122 121,BG 123 nQg 120 122,mR 124 123,mZ 125 0 9,fW 126 125,rV 127 124 126]
def pJ:List O:=[DI 2 false]
def pI:List O:=[sa 128 114 1,aG 114 128]
def Ny:C:=(bn pO [3,4,6,9,34,35,36,112,113,114,115] (.seq (sd 115 4) (.seq (.aJ 5 (bn pN [3,4,6,9,15,34,35,36,112,113,114] (.seq (.rX pK true [(9,9),(0,1),(0,3),(2,3),(0,4),(1,4),(2,4),(0,7),(2,7),(4,7),(5,7),(0,8),(1,8),(2,8),(3,8),(4,8),(5,8),(6,8)] [3,4,6,9,34,35,36,112,113,114,127]) (.cond (.t 127) (bn pJ [2] .ret) .skip)))) (ke pI [3,4,6,9,34,35,36,112,113,114]))))
def pH:List O:=[sa 129 36 1,aG 36 129]
def Jl:C:=(bn uS [3,4,6,34,35,36,37] (.seq (sd 37 0) (.seq (.aJ 1 (bn uR [3,4,6,8,9,34,35,36] (.seq (bn uQ [3,4,6,8,9,34,35,36,49] (.cond (.t 49) (bn p9 [2] .ret) .skip)) (.seq (bn p8 [3,4,6,8,9,10,34,35,36] (.seq (.rX p7 true [(0,0),(1,1),(2,2),(10,10),(11,11),(19,19),(20,20),(21,21),(22,22),(32,32),(33,33),(34,34),(7,8),(3,9),(4,9),(5,9),(6,9),(7,9),(13,14),(13,15),(13,16),(13,17),(12,18),(13,18),(27,29),(23,30),(24,30),(25,30),(26,30),(27,30),(28,30),(27,31)] [3,4,6,8,9,34,35,36,86]) (.cond (.t 86) (bn pZ [2] .ret) .skip))) (.seq (bn pY [3,4,6,9,34,35,36,89,90,91] (.aJ 2 (.loop Nz))) (bn pP [3,4,6,9,34,35,36,112,113,114] (.aJ 4 (.loop Ny)))))))) (ke pH [3,4,6,34,35,36]))))
def pG:List O:=[aG 130 6,mR 131 130,hZ 132 0]
def pF:List O:=[rV 133 132 131]
def pE:List O:=[aG 134 132,nK 135 1 130 132,fW 136 135,aG 16 134,aG 17 136]
def pD:List O:=[aG 137 4,aG 138 16,oo 139<|.call nQi [.t 137,.t 138,ki 64],aG 18 139]
def pB:List O:=[aG 140 18,Rc 141 140 0,aG 142 141,Ao 143 142 18,Ao 144 142 4,gf 145 142<|.len (.t 144),gf 146 142<|.bin .geq (.t 143) (.t 145),LG 147 142 146,aG 148 147,Ao 149 148 4,Ao 150 148 18,gf 151 148<|.sU 3 (.t 149) (.t 150),DH 152 148 0 151,Bt 153 148 152,Ao 154 148 17,gf 155 148<|.bin .neq (.t 153) (.t 154),LG 156 148 155]
def pz:List O:=[DI 2 false]
def py:List O:=[sa 157 132 1,aG 132 157]
def Nx:C:=(bn pF [4,130,131,132,133] (.seq (sd 133 6) (.seq (.aJ 7 (bn pE [4,16,17,130,131,132] (bn pD [4,17,18,130,131,132] (bn pB [4,130,131,132,156] (.cond (.t 156) (bn pz [2] .ret) .skip))))) (ke py [4,130,131,132]))))
def px:List O:=[oo 158<|.call nQj [],aG 2 158]
def cQa:C:=(bn uZ [0] (bn uY [3] (bn uX [3,4,5] (bn uW [3,4,5,6] (.seq (bn uV [3,4,6,33] (.cond (.t 33) (bn uU [2] .ret) .skip)) (.seq (bn uT [3,4,6,34,35,36] (.aJ 0 (.loop Jl))) (.seq (bn pG [4,130,131,132] (.aJ 6 (.loop Nx))) (bn px [2] .ret))))))))
def qQa:gH:=⟨159,1,[.t 2],cQa⟩
def Di:List O:=[oo 4<|.new [.int .i64 0,.own 2 []]]
def Dh:List O:=[aG 9 0,aG 10 1,sa 11 10 1,BG 12 MV 9 11,oo 13<|.build [.int .i64 0,.own 2 []] [(0,1,.t 12)],oo 5<|.new [.int .i64 0,.own 2 []],Bu 2 5 13]
def Dg:List O:=[mZ 14 0 5,fW 15 14,Rc 16 15 4]
def Df:List O:=[aG 17 1,mZ 18 0 5,fW 19 18,aG 20 0,aG 21 1,sa 22 21 1,BG 23 MV 20 22,oo 24<|.bin .add (.t 19) (.t 23),oo 25<|.min [.t 17,.t 24],mZ 26 0 5,Bu 1 26 25]
def De:List O:=[aG 27 0,oo 28<|.call MV [.t 27,ki 4],oo 29<|.bin .add (ki 1) (.t 28),aG 6 29]
def Dd:List O:=[hZ 7 0]
def Dc:List O:=[aG 30 7,mZ 31 0 5,fW 32 31,rV 33 30 32]
def Db:List O:=[aG 36 7,sa 37 36 1,aG 8 37]
def Da:List O:=[aG 38 8,mZ 39 0 5,fW 40 39,rV 41 38 40]
def C9:List O:=[aG 44 0,oo 45<|.call MV [.t 44,ki 5],aG 46 6,oo 47<|.bin .sub (ki 5) (.t 46),oo 48<|.bin .geq (.t 45) (.t 47)]
def wB:List O:=[mZ 49 1 5,fW 50 49,aG 51 7,aG 52 8,oo 53<|.build [.int .i64 0,.int .i64 0] [(0,1,.t 51),(1,1,.t 52)],oo 54<|.dV 2 1 [.int .i64 0,.int .i64 0] [(0,2,.t 53)],Re 55 2 50 54,mZ 56 1 5,Bu 1 56 55]
def wA:List O:=[aG 42 8,sa 43 42 1,aG 8 43]
def Gs:C:=(.seq (bn Da [0,4,5,6,7,8,41] (sd 41 2)) (.seq (.aJ 3 (bn C9 [0,4,5,6,7,8,48] (.cond (.t 48) (ke wB [0,4,5,6,7,8]) .skip))) (ke wA [0,4,5,6,7,8])))
def wz:List O:=[aG 34 7,sa 35 34 1,aG 7 35]
def Nw:C:=(.seq (bn Dc [0,4,5,6,7,33] (sd 33 0)) (.seq (.aJ 1 (bn Db [0,4,5,6,7,8] (.aJ 2 (.loop Gs)))) (ke wz [0,4,5,6,7])))
def wy:List O:=[Er 57 2 5,Bu 2 4 57]
def cQb:C:=(bn Di [0,1,4] (bn Dh [0,1,4,5] (.seq (bn Dg [0,1,4,5,16] (.cond (.t 16) (.rX Df true [(8,8),(9,9),(10,10),(0,2),(2,3),(2,4),(2,5),(0,6),(1,6),(2,6)] [0,4,5]) .skip)) (bn De [0,4,5,6] (.seq (bn Dd [0,4,5,6,7] (.aJ 0 (.loop Nw))) (bn wy [4] .ret))))))
def qQb:gH:=⟨58,2,[.c 4 (some 2)],cQb⟩
def ac9:List O:=[oo 2<|.mv (.k .fo)]
def ac8:List O:=[aG 3 0,oo 4<|.build [.own 1 [],.int .i64 0] [(0,1,.t 3)],Ia 5 4,aG 2 5]
def cQc:C:=(bn ac9 [0] (bn ac8 [2] .ret))
def qQc:gH:=⟨6,1,[.t 2],cQc⟩
def ac7:List O:=[Ia 1 0,vV 2 3,hZ 3 0]
def ac6:List O:=[Er 7 2 1,qI 8 nQl 7,aG 6 8,Rf 9 0 6,Rf 10 1 6,oo 4<|.new [.own 1 []],Bu 1 4 9,aG 5 10]
def ac5:List O:=[aG 11 5,bzY 12 11 0,aG 13 12,Bt 14 13 4,gf 15 13<|.len (.t 14),gf 16 13<|.bin .eql (.t 15) (ki 0),LG 17 13 16]
def ac4:List O:=[aG 18 5,vV 2 3,aG 3 18]
def ac3:List O:=[fW 19 4,qI 20 nQn 19,oo 21<|.O7 (.func nQo) [] [.t 4,.t 1],BG 22 nQm 20 21,aG 2 22,hZ 3 0]
def cQd:C:=(bn ac7 [1] (bn ac6 [1,4,5] (.seq (bn ac5 [1,4,5,17] (.cond (.t 17) (bn ac4 [2,3] .ret) .skip)) (bn ac3 [2,3] .ret))))
def qQd:gH:=⟨23,1,[.t 2,.t 3],cQd⟩
def Ft:List O:=[Ia 1 0,vV 2 1,hZ 3 0]
def Fs:List O:=[Er 9 2 1,qI 10 nQr 9,aG 4 10]
def Fo:List O:=[aG 11 4,bzY 12 11 0]
def Fm:List O:=[aG 13 4,vV 2 1,aG 3 13]
def Fl:List O:=[mZ 14 0 1,fW 15 14,oo 16<|.Kx 1 [.int .i64 0] (.t 15) (.t 15),aG 5 16]
def Fk:List O:=[hZ 6 1]
def Fj:List O:=[aG 17 6,mZ 18 0 1,fW 19 18,rV 20 17 19]
def Fi:List O:=[Er 23 2 1,aG 24 6,BG 25 nQs 23 24,mR 26 25,hZ 27 0]
def Fh:List O:=[rV 28 27 26]
def Fg:List O:=[nK 29 1 25 27,fW 30 29,aG 8 30]
def zo:List O:=[aG 31 5,aG 32 8,aG 33 6,nK 34 1 31 32,Bu 1 34 33]
def zn:List O:=[sa 35 27 1,aG 27 35]
def T6:C:=(bn Fh [1,5,6,25,26,27,28] (.seq (sd 28 2) (.seq (.aJ 3 (bn Fg [1,5,6,8,25,26,27] (ke zo [1,5,6,25,26,27]))) (ke zn [1,5,6,25,26,27]))))
def zm:List O:=[aG 21 6,sa 22 21 1,aG 6 22]
def Jk:C:=(.seq (bn Fj [1,5,6,20] (sd 20 0)) (.seq (.aJ 1 (bn Fi [1,5,6,25,26,27] (.aJ 2 (.loop T6)))) (ke zm [1,5,6])))
def zk:List O:=[aG 36 5,aG 2 36,hZ 3 0]
def cQe:C:=(bn Ft [1] (.seq (bn Fs [1,4] (bn Fo [1,4,12] (.cond (.t 12) (bn Fm [2,3] .ret) .skip))) (bn Fl [1,5] (.seq (bn Fk [1,5,6] (.aJ 0 (.loop Jk))) (bn zk [2,3] .ret)))))
def qQe:gH:=⟨37,1,[.t 2,.t 3],cQe⟩
def IP:List O:=[DI 4 false]
def IM:List O:=[aG 7 0,mR 8 7,hZ 9 0]
def IL:List O:=[rV 10 9 8]
def IK:List O:=[nK 11 1 7 9,fW 12 11,aG 6 12]
def IJ:List O:=[aG 13 1,aG 14 6,BG 15 nQt 13 14,oo 16<|.un .not (.t 15)]
def II:List O:=[DI 4 false]
def IH:List O:=[sa 17 9 1,aG 9 17]
def Nv:C:=(bn IL [1,7,8,9,10] (.seq (sd 10 0) (.seq (.aJ 1 (bn IK [1,6,7,8,9] (bn IJ [1,7,8,9,16] (.cond (.t 16) (bn II [4] .ret) .skip)))) (ke IH [1,7,8,9]))))
def IG:List O:=[DI 4 true]
def cQf:C:=(bn IP [0,1] (.seq (bn IM [1,7,8,9] (.aJ 0 (.loop Nv))) (bn IG [4] .ret)))
def qQf:gH:=⟨18,2,[.t 4],cQf⟩
def Mj:List O:=[vV 4 1]
def Mi:List O:=[vV 5 1]
def Mh:List O:=[aG 8 0,qI 9 nQu 8,mR 10 9,hZ 11 0]
def Mg:List O:=[rV 12 11 10]
def Mf:List O:=[nK 13 1 9 11,fW 14 13,aG 7 14]
def Me:List O:=[aG 15 1,aG 16 7,BG 17 nQt 15 16]
def Mc:List O:=[aG 18 5,aG 19 7,oo 20<|.dV 1 1 [.int .i64 0] [(0,1,.t 19)],Re 21 1 18 20,aG 5 21]
def Mb:List O:=[sa 22 11 1,aG 11 22]
def Nu:C:=(bn Mg [1,5,9,10,11,12] (.seq (sd 12 0) (.seq (.aJ 1 (bn Mf [1,5,7,9,10,11] (bn Me [1,5,7,9,10,11,17] (.cond (.t 17) (ke Mc [1,5,9,10,11]) .skip)))) (ke Mb [1,5,9,10,11]))))
def Ma:List O:=[aG 23 5,aG 4 23]
def cQg:C:=(bn Mj [0,1] (bn Mi [0,1,5] (.seq (bn Mh [1,5,9,10,11] (.aJ 0 (.loop Nu))) (bn Ma [4] .ret))))
def qQg:gH:=⟨24,2,[.t 4],cQg⟩
def C8:List O:=[Ia 2 0,vV 4 1]
def C7:List O:=[Er 8 2 2,qI 9 nQr 8,bzY 10 9 0]
def C6:List O:=[vV 4 1]
def C5:List O:=[vV 5 1]
def C4:List O:=[mZ 11 1 2,fW 12 11,mR 13 12,hZ 14 0]
def C3:List O:=[rV 15 14 13]
def C2:List O:=[nK 16 2 12 14,Er 17 2 16,oo 7<|.new [.int .i64 0,.int .i64 0],Bu 2 7 17]
def C0:List O:=[mZ 18 0 7,fW 19 18,aG 20 1,oo 21<|.bin .eql (.t 19) (.t 20)]
def CZ:List O:=[aG 22 5,mZ 23 1 7,fW 24 23,oo 25<|.dV 1 1 [.int .i64 0] [(0,1,.t 24)],Re 26 1 22 25,aG 5 26]
def CY:List O:=[mZ 27 1 7,fW 28 27,aG 29 1,oo 30<|.bin .eql (.t 28) (.t 29)]
def wx:List O:=[aG 31 5,mZ 32 0 7,fW 33 32,oo 34<|.dV 1 1 [.int .i64 0] [(0,1,.t 33)],Re 35 1 31 34,aG 5 35]
def wv:List O:=[sa 36 14 1,aG 14 36]
def Nt:C:=(bn C3 [1,5,12,13,14,15] (.seq (sd 15 0) (.seq (.aJ 1 (bn C2 [1,5,7,12,13,14] (.seq (bn C0 [1,5,7,12,13,14,21] (.cond (.t 21) (ke CZ [1,5,7,12,13,14]) .skip)) (bn CY [1,5,7,12,13,14,30] (.cond (.t 30) (ke wx [1,5,12,13,14]) .skip))))) (ke wv [1,5,12,13,14]))))
def wu:List O:=[aG 37 5,qI 38 nQu 37,aG 4 38]
def cQh:C:=(bn C8 [1,2] (.seq (bn C7 [1,2,10] (.cond (.t 10) (bn C6 [4] .ret) .skip)) (bn C5 [1,2,5] (.seq (bn C4 [1,5,12,13,14] (.aJ 0 (.loop Nt))) (bn wu [4] .ret)))))
def qQh:gH:=⟨39,2,[.t 4],cQh⟩
def ac2:List O:=[Ia 4 1,Ia 5 2,hZ 6 0]
def ac1:List O:=[aG 7 0,oo 8<|.O7 (.func nQw) [] [.t 5,.t 4],BG 9 nQv 7 8,aG 6 9]
def cQi:C:=(bn ac2 [0,4,5] (bn ac1 [6] .ret))
def qQi:gH:=⟨10,3,[.t 6],cQi⟩
def agm:List O:=[DI 0 false]
def agl:List O:=[oo 4<|.build [.int .i64 0,.int .i64 0] [(0,1,ki 0),(1,1,ki 1)],oo 5<|.build [.int .i64 0,.int .i64 0] [(0,1,ki 0),(1,1,ki 2)],oo 6<|.build [.int .i64 0,.int .i64 0] [(0,1,ki 1),(1,1,ki 2)],oo 7<|.build [.int .i64 0,.int .i64 0] [(0,1,ki 2),(1,1,ki 3)],oo 8<|.dV 2 4 [.int .i64 0,.int .i64 0] [(0,2,.t 4),(2,2,.t 5),(4,2,.t 6),(6,2,.t 7)],oo 9<|.build [.int .i64 0,.own 2 []] [(0,1,ki 4),(1,1,.t 8)],oo 1<|.new [.int .i64 0,.own 2 []],Bu 2 1 9]
def agk:List O:=[Er 11 2 1,qI 12 nQd 11,aG 10 12,Rf 13 0 10,Rf 14 1 10,aG 2 13,aG 3 14]
def agj:List O:=[aG 15 3,oo 16<|.bin .eql (.t 15) (ki 0),aG 17 16,ur 18 17 2,gt 19 17<|.len (.t 18),gt 20 17<|.bin .eql (.t 19) (ki 2),G7 21 17 20,aG 22 21,ur 23 22 2,gt 24 22<|.sU 3 (.t 23) (ki 0),gt 25 22<|.yn 0 (.t 24),CD 26 22 25,gt 27 22<|.bin .eql (.t 26) (ki 1),G7 28 22 27,aG 29 28,ur 30 29 2,gt 31 29<|.sU 3 (.t 30) (ki 0),gt 32 29<|.yn 1 (.t 31),CD 33 29 32,gt 34 29<|.bin .eql (.t 33) (.k (.int .i64 (-1))),G7 35 29 34,aG 36 35,ur 37 36 2,gt 38 36<|.sU 3 (.t 37) (ki 1),gt 39 36<|.yn 2 (.t 38),CD 40 36 39,gt 41 36<|.dV 1 3 [.int .i64 0] [(0,1,ki 0),(1,1,ki 1),(2,1,ki 2)],gt 42 36<|.call nQy [.t 40,.t 41],G7 43 36 42,aG 44 43,ur 45 44 2,gt 46 44<|.sU 3 (.t 45) (ki 1),gt 47 44<|.yn 0 (.t 46),CD 48 44 47,gt 49 44<|.bin .eql (.t 48) (ki 2),G7 50 44 49,aG 51 50,ur 52 51 2,gt 53 51<|.sU 3 (.t 52) (ki 1),gt 54 51<|.yn 1 (.t 53),CD 55 51 54,gt 56 51<|.bin .eql (.t 55) (ki 0),G7 57 51 56,aG 58 57,ur 59 58 2,gt 60 58<|.call nQi [.t 59,ki 3,ki 9],gt 61 58<|.bin .eql (.t 60) (ki 0),G7 62 58 61,aG 0 62]
def cQj:C:=(bn agm [] (bn agl [1] (bn agk [2,3] (bn agj [0] .ret))))
def qQj:gH:=⟨63,0,[.t 0],cQj⟩
def Sv:List O:=[hZ 4 0]
def Su:List O:=[aG 6 1,Rc 7 6 1,aG 8 7,Ao 9 8 0,gf 10 8<|.mB (.t 9),DH 11 8 1 10,Bt 12 8 11,Ao 13 8 0,gf 14 8<|.mB (.t 13),DH 15 8 0 14,Bt 16 8 15,gf 17 8<|.len (.t 16),gf 18 8<|.bin .geq (.t 12) (.t 17),LG 19 8 18]
def Ss:List O:=[hZ 4 0]
def Sr:List O:=[aG 20 0,oo 21<|.mB (.t 20),mZ 22 0 21,fW 23 22,aG 24 0,oo 25<|.mB (.t 24),mZ 26 1 25,fW 27 26,nK 28 1 23 27,fW 29 28,aG 5 29]
def Sq:List O:=[aG 30 0,oo 31<|.mB (.t 30),mZ 32 1 31,fW 33 32,sa 34 33 1,oo 35<|.mB (.t 30),mZ 36 1 35,Bu 1 36 34]
def Sp:List O:=[aG 37 5,aG 38 1,BG 39 nQz 37 38,aG 4 39]
def cQk:C:=(bn Sv [0,1] (.seq (.seq (.rX Su true [(0,0),(1,1),(2,2),(12,12),(13,13),(6,7),(6,8),(6,9),(3,10),(4,10),(5,10),(6,10),(6,11)] [0,1,19]) (.cond (.t 19) (bn Ss [4] .ret) .skip)) (.seq (.rX Sr true [(8,8),(9,9),(10,10),(3,4),(3,5),(3,6),(0,7),(1,7),(2,7),(3,7)] [0,1,5]) (bn Sq [1,5] (bn Sp [4] .ret)))))
def qQk:gH:=⟨40,2,[.t 4],cQk⟩
def ac0:List O:=[Ia 1 0,vV 2 1,hZ 3 0]
def acZ:List O:=[Er 7 2 1,qI 8 nQA 7,aG 4 8]
def acY:List O:=[aG 9 4,bzY 10 9 0]
def acX:List O:=[aG 11 4,vV 2 1,aG 3 11]
def acW:List O:=[Er 13 2 1,qI 14 nQB 13,aG 12 14,Rf 15 0 12,Rf 16 1 12,aG 5 15,aG 6 16]
def acV:List O:=[aG 17 6,aG 2 17,hZ 3 0]
def cQl:C:=(bn ac0 [1] (.seq (bn acZ [1,4] (bn acY [1,4,10] (.cond (.t 10) (bn acX [2,3] .ret) .skip))) (bn acW [6] (bn acV [2,3] .ret))))
def qQl:gH:=⟨18,1,[.t 2,.t 3],cQl⟩
def oF:List O:=[vV 4 3]
def oE:List O:=[oo 15<|.B4,aG 5 15]
def oD:List O:=[vV 6 3]
def oC:List O:=[aG 16 0,sa 17 16 1,hZ 18 0]
def oB:List O:=[rV 19 18 17]
def oA:List O:=[aG 20 18,aG 7 20]
def ox:List O:=[aG 21 1,aG 22 7,oo 23<|.iR (.t 21) [.t 22],mR 24 23,hZ 25 0]
def ot:List O:=[rV 26 25 24]
def oq:List O:=[nK 27 1 23 25,fW 28 27,aG 9 28]
def om:List O:=[aG 30 5,aG 31 9,qI 32 nQC 31,oo 33<|.yH .zM true (.int .i64 0) (.t 30) (.t 32),aG 29 33,Rf 34 0 29,Rf 35 1 29,aG 10 34,aG 11 35]
def jC:List O:=[aG 36 11,oo 37<|.un .not (.t 36)]
def jB:List O:=[aG 38 6,aG 39 9,oo 40<|.build [.int .i64 0,.int .i64 0,.own 1 []] [(1,1,.k (.int .i64 (-1))),(2,1,.t 39)],oo 41<|.dV 3 1 [.int .i64 0,.int .i64 0,.own 1 []] [(0,3,.t 40)],Re 42 3 38 41,aG 6 42]
def jA:List O:=[aG 43 5,aG 44 9,qI 45 nQC 44,aG 46 7,oz<|.zB .zM (.t 43) (.t 45) (.t 46)]
def jz:List O:=[sa 47 25 1,aG 25 47]
def Gr:C:=(bn ot [1,5,6,7,17,18,23,24,25,26] (.seq (sd 26 2) (.seq (.aJ 3 (bn oq [1,5,6,7,9,17,18,23,24,25] (.seq (bn om [1,5,6,7,9,11,17,18,23,24,25] (bn jC [1,5,6,7,9,17,18,23,24,25,37] (.cond (.t 37) (ke jB [1,5,6,7,9,17,18,23,24,25]) .skip))) (ke jA [1,5,6,7,17,18,23,24,25])))) (ke jz [1,5,6,7,17,18,23,24,25]))))
def jy:List O:=[sa 48 18 1,aG 18 48]
def Jj:C:=(bn oB [1,5,6,17,18,19] (.seq (sd 19 0) (.seq (.aJ 1 (bn oA [1,5,6,7,17,18] (bn ox [1,5,6,7,17,18,23,24,25] (.aJ 2 (.loop Gr))))) (ke jy [1,5,6,17,18]))))
def jx:List O:=[aG 49 6,mR 50 49,hZ 51 0]
def jw:List O:=[rV 52 51 50]
def jv:List O:=[aG 53 51,aG 12 53]
def ju:List O:=[aG 54 6,aG 55 12,aG 56 5,aG 57 6,aG 58 12,nK 59 3 57 58,mZ 60 2 59,fW 61 60,qI 62 nQC 61,oo 63<|.yH .zM false (.int .i64 0) (.t 56) (.t 62),nK 64 3 54 55,mZ 65 0 64,Bu 1 65 63]
def jt:List O:=[sa 66 51 1,aG 51 66]
def Ns:C:=(bn jw [5,6,50,51,52] (.seq (sd 52 4) (.seq (.aJ 5 (bn jv [5,6,12,50,51] (ke ju [5,6,50,51]))) (ke jt [5,6,50,51]))))
def js:List O:=[aG 67 6,oo 68<|.call nQD [.t 67,.k (.func (.func V6) [] [])]]
def jr:List O:=[aG 69 6,mR 70 69,hZ 71 0]
def jq:List O:=[rV 72 71 70]
def jo:List O:=[aG 73 71,aG 13 73]
def jm:List O:=[aG 74 13,hZ 75 0]
def jl:List O:=[rV 76 75 74]
def jj:List O:=[aG 77 75,aG 14 77]
def ji:List O:=[aG 78 6,aG 79 14,nK 80 3 78 79,mZ 81 2 80,fW 82 81,mR 83 82,aG 84 6,aG 85 13,nK 86 3 84 85,mZ 87 2 86,fW 88 87,mR 89 88,oo 90<|.bin .gtr (.t 83) (.t 89),aG 91 90,ur 92 91 6,ur 93 91 13,gt 94 91<|.sU 3 (.t 92) (.t 93),gt 95 91<|.yn 2 (.t 94),CD 96 91 95,ur 97 91 6,ur 98 91 14,gt 99 91<|.sU 3 (.t 97) (.t 98),gt 100 91<|.yn 2 (.t 99),CD 101 91 100,gt 102 91<|.call nQI [.t 96,.t 101],G7 103 91 102,aG 104 103,ur 105 104 6,ur 106 104 13,gt 107 104<|.sU 3 (.t 105) (.t 106),gt 108 104<|.yn 1 (.t 107),CD 109 104 108,gt 110 104<|.bin .lss (.t 109) (ki 0),ur 111 104 110,Ao 112 111 6,Ao 113 111 14,gf 114 111<|.sU 3 (.t 112) (.t 113),DH 115 111 2 114,Bt 116 111 115,gf 117 111<|.len (.t 116),Ao 118 111 6,Ao 119 111 6,Ao 120 111 13,gf 121 111<|.sU 3 (.t 119) (.t 120),DH 122 111 1 121,Bt 123 111 122,gf 124 111<|.sU 3 (.t 118) (.t 123),DH 125 111 2 124,Bt 126 111 125,gf 127 111<|.len (.t 126),gf 128 111<|.bin .lss (.t 117) (.t 127),gt 129 104<|.pick (.t 111) (.k (.bool true)) (.t 128),G7 130 104 129]
def jh:List O:=[aG 131 6,aG 132 13,aG 133 14,nK 134 3 131 132,mZ 135 1 134,Bu 1 135 133]
def jg:List O:=[sa 136 75 1,aG 75 136]
def sC:C:=(bn jl [6,13,70,71,74,75,76] (.seq (sd 76 8) (.seq (.aJ 9 (bn jj [6,13,14,70,71,74,75] (.seq (.rX ji true [(12,12),(13,13),(24,24),(25,25),(26,26),(29,29),(30,30),(31,31),(32,32),(33,33),(50,50),(51,51),(52,52),(4,6),(4,7),(4,8),(4,9),(0,10),(1,10),(2,10),(3,10),(4,10),(5,10),(4,11),(18,19),(18,20),(18,21),(18,22),(14,23),(15,23),(16,23),(17,23),(18,23),(38,40),(38,41),(38,42),(38,43),(38,44),(34,45),(35,45),(36,45),(37,45),(38,45),(39,45),(40,45),(38,46),(38,47),(34,48),(35,48),(36,48),(37,48),(38,48),(39,48),(38,49)] [6,13,14,70,71,74,75,130]) (.cond (.t 130) (ke jh [6,13,70,71,74,75]) .skip)))) (ke jg [6,13,70,71,74,75]))))
def jf:List O:=[sa 137 71 1,aG 71 137]
def Nr:C:=(bn jq [6,70,71,72] (.seq (sd 72 6) (.seq (.aJ 7 (bn jo [6,13,70,71] (bn jm [6,13,70,71,74,75] (.aJ 8 (.loop sC))))) (ke jf [6,70,71]))))
def je:List O:=[aG 138 6,aG 4 138]
def cQm:C:=(bn oF [0,1] (bn oE [0,1,5] (bn oD [0,1,5,6] (.seq (bn oC [1,5,6,17,18] (.aJ 0 (.loop Jj))) (.seq (bn jx [5,6,50,51] (.aJ 4 (.loop Ns))) (bn js [6] (.seq (bn jr [6,70,71] (.aJ 6 (.loop Nr))) (bn je [4] .ret))))))))
def qQm:gH:=⟨139,2,[.t 4],cQm⟩
def Sn:List O:=[hZ 2 0]
def Sm:List O:=[aG 5 0,mR 6 5,Rc 7 6 1]
def Sl:List O:=[oo 8<|.bad,oz<|.bad]
def Sk:List O:=[aG 9 0,oo 10<|.sU 1 (.t 9) (ki 0),fW 11 10,aG 3 11]
def Sj:List O:=[hZ 4 1]
def Si:List O:=[aG 12 4,aG 13 0,mR 14 13,rV 15 12 14]
def Sh:List O:=[aG 18 3,aG 19 0,aG 20 4,nK 21 1 19 20,fW 22 21,oo 23<|.max [.t 18,.t 22],aG 3 23]
def Sg:List O:=[aG 16 4,sa 17 16 1,aG 4 17]
def T5:C:=(.seq (bn Si [0,3,4,15] (sd 15 0)) (.seq (.aJ 1 (ke Sh [0,3,4])) (ke Sg [0,3,4])))
def Sf:List O:=[aG 24 3,aG 2 24]
def cQn:C:=(bn Sn [0] (.seq (bn Sm [0,7] (.cond (.t 7) (ke Sl [0]) .skip)) (bn Sk [0,3] (.seq (bn Sj [0,3,4] (.aJ 0 (.loop T5))) (bn Sf [2] .ret)))))
def qQn:gH:=⟨25,1,[.t 2],cQn⟩
def Se:List O:=[vV 4 1]
def Sd:List O:=[oo 5<|.mv (.k (.int .u64 0))]
def Sc:List O:=[fW 8 1,mR 9 8,hZ 10 0]
def Sb:List O:=[rV 11 10 9]
def Sa:List O:=[aG 12 10,nK 13 1 8 10,fW 14 13,aG 6 12,aG 7 14]
def R9:List O:=[aG 15 7,aG 16 0,oo 17<|.bin .geq (.t 15) (.t 16)]
def R8:List O:=[aG 18 5,aG 19 6,qI 20 W7 19,oo 21<|.bin .or (.t 18) (.t 20),aG 5 21]
def R7:List O:=[sa 22 10 1,aG 10 22]
def T4:C:=(bn Sb [0,2,5,8,9,10,11] (.seq (sd 11 0) (.seq (.aJ 1 (bn Sa [0,2,5,6,7,8,9,10] (bn R9 [0,2,5,6,8,9,10,17] (.cond (.t 17) (ke R8 [0,2,5,8,9,10]) .skip)))) (ke R7 [0,2,5,8,9,10]))))
def R6:List O:=[Er 23 2 2,aG 24 5,BG 25 nQq 23 24,aG 4 25]
def cQo:C:=(bn Se [0,1,2] (bn Sd [0,1,2,5] (.seq (bn Sc [0,2,5,8,9,10] (.aJ 0 (.loop T4))) (bn R6 [4] .ret))))
def qQo:gH:=⟨26,1,[.t 4],cQo⟩
def agi:List O:=[oo 2<|.mv (.k (.int .u64 0))]
def agh:List O:=[aG 3 0,Rc 4 3 0,aG 5 4,Ao 6 5 0,gf 7 5<|.bin .geq (.t 6) (ki 64),LG 8 5 7]
def agf:List O:=[oo 2<|.mv (.k (.int .u64 0))]
def age:List O:=[aG 9 0,oo 10<|.bin .shl (.k (.int .u64 1)) (.t 9),aG 2 10]
def cQp:C:=(bn agi [0] (.seq (bn agh [0,8] (.cond (.t 8) (bn agf [2] .ret) .skip)) (bn age [2] .ret)))
def qQp:gH:=⟨11,1,[.t 2],cQp⟩
def R5:List O:=[Ia 2 0,vV 4 1]
def R4:List O:=[Er 9 2 2,qI 10 nQJ 9,aG 5 10]
def R3:List O:=[vV 6 1]
def R0:List O:=[aG 11 1,aG 7 11]
def RZ:List O:=[aG 12 7,oo 13<|.bin .neq (.t 12) (.k (.int .u64 0))]
def RY:List O:=[aG 14 5,aG 15 7,aG 16 7,oo 17<|.un .neg (.t 16),oo 18<|.bin .and (.t 15) (.t 17),aG 19 1,oo 20<|.call nQK [.t 14,.t 18,.t 19],aG 8 20]
def RX:List O:=[aG 21 6,aG 22 8,qI 23 nQL 22,oo 24<|.dV 1 1 [.own 1 []] [(0,1,.t 23)],Re 25 1 21 24,aG 6 25]
def RW:List O:=[aG 26 7,aG 27 8,oo 28<|.bin .andNot (.t 26) (.t 27),aG 7 28]
def Nq:C:=(.seq (bn RZ [1,5,6,7,13] (sd 13 0)) (.aJ 1 (bn RY [1,5,6,7,8] (bn RX [1,5,6,7,8] (ke RW [1,5,6,7])))))
def RV:List O:=[aG 29 6,aG 4 29]
def cQq:C:=(bn R5 [1,2] (bn R4 [1,5] (bn R3 [1,5,6] (.seq (bn R0 [1,5,6,7] (.aJ 0 (.loop Nq))) (bn RV [4] .ret)))))
def qQq:gH:=⟨30,2,[.t 4],cQq⟩
def uP:List O:=[Ia 1 0,hZ 2 0]
def uO:List O:=[mZ 5 0 1,fW 6 5,Rc 7 6 0,aG 8 7,DH 9 8 0 1,Bt 10 8 9,gf 11 8<|.bin .gtr (.t 10) (ki 64),LG 12 8 11]
def uM:List O:=[hZ 2 1]
def uL:List O:=[mZ 13 1 1,fW 14 13,mR 15 14,hZ 16 0]
def uK:List O:=[rV 17 16 15]
def uJ:List O:=[aG 18 16,nK 19 2 14 16,Er 20 2 19,oo 4<|.new [.int .i64 0,.int .i64 0],aG 3 18,Bu 2 4 20]
def uI:List O:=[mZ 21 0 4,fW 22 21,Rc 23 22 0,aG 24 23,DH 25 24 0 4,Bt 26 24 25,DH 27 24 1 4,Bt 28 24 27,gf 29 24<|.bin .geq (.t 26) (.t 28),LG 30 24 29,aG 31 30,DH 32 31 1 4,Bt 33 31 32,DH 34 31 0 1,Bt 35 31 34,gf 36 31<|.bin .geq (.t 33) (.t 35),LG 37 31 36]
def uH:List O:=[hZ 2 6]
def uG:List O:=[aG 38 3,oo 39<|.bin .gtr (.t 38) (ki 0),aG 40 39,gt 41 40<|.yn 1 (.t 1),CD 42 40 41,ur 43 40 3,gt 44 40<|.bin .sub (.t 43) (ki 1),gt 45 40<|.sU 2 (.t 42) (.t 44),gt 46 40<|.ld (some 2) (.t 45),gt 47 40<|.ld (some 2) (.t 4),gt 48 40<|.call nQM [.t 46,.t 47],gt 49 40<|.un .not (.t 48),G7 50 40 49]
def uF:List O:=[hZ 2 5]
def pw:List O:=[sa 51 16 1,aG 16 51]
def A7:C:=(bn uK [1,14,15,16,17] (.seq (sd 17 0) (.seq (.aJ 1 (bn uJ [1,3,4,14,15,16] (.seq (bn uI [1,3,4,14,15,16,37] (.cond (.t 37) (bn uH [2] .ret) .skip)) (.seq (.rX uG true [(0,0),(1,1),(2,2),(10,10),(11,11),(12,12),(4,5),(4,6),(3,9),(4,9),(5,9),(6,9),(7,9),(8,9)] [1,14,15,16,50]) (.cond (.t 50) (bn uF [2] .ret) .skip))))) (ke pw [1,14,15,16]))))
def pq:List O:=[hZ 2 0]
def cQr:C:=(bn uP [1] (.seq (bn uO [1,12] (.cond (.t 12) (bn uM [2] .ret) .skip)) (.seq (bn uL [1,14,15,16] (.aJ 0 (.loop A7))) (bn pq [2] .ret))))
def qQr:gH:=⟨52,1,[.t 2],cQr⟩
def CX:List O:=[Ia 2 0,vV 4 1]
def CW:List O:=[mZ 9 0 2,fW 10 9,qI 11 nQN 10,aG 5 11]
def CV:List O:=[DI 6 true]
def CU:List O:=[aG 12 6]
def CT:List O:=[DI 6 false]
def CS:List O:=[aG 13 5,mR 14 13,hZ 15 0]
def CR:List O:=[rV 16 15 14]
def CQ:List O:=[nK 17 1 13 15,fW 18 17,aG 8 18]
def CP:List O:=[Er 19 2 2,aG 20 8,BG 21 nQh 19 20,aG 22 5,BG 23 nQg 21 22,mR 24 23,aG 25 1,rV 26 24 25]
def CO:List O:=[aG 27 5,aG 28 8,oo 29<|.dV 1 1 [.int .i64 0] [(0,1,.t 28)],BG 30 nQO 27 29,aG 5 30,DI 6 true]
def wq:List O:=[sa 31 15 1,aG 15 31]
def Np:C:=(bn CR [1,2,5,6,13,14,15,16] (.seq (sd 16 2) (.seq (.aJ 3 (bn CQ [1,2,5,6,8,13,14,15] (bn CP [1,2,5,6,8,13,14,15,26] (.cond (.t 26) (ke CO [1,2,5,6,13,14,15]) .skip)))) (ke wq [1,2,5,6,13,14,15]))))
def Ji:C:=(.seq (bn CU [1,2,5,12] (sd 12 0)) (.aJ 1 (bn CT [1,2,5,6] (bn CS [1,2,5,6,13,14,15] (.aJ 2 (.loop Np))))))
def wk:List O:=[aG 32 5,aG 4 32]
def cQs:C:=(bn CX [1,2] (bn CW [1,2,5] (.seq (bn CV [1,2,5,6] (.aJ 0 (.loop Ji))) (bn wk [4] .ret))))
def qQs:gH:=⟨33,2,[.t 4],cQs⟩
def IF:List O:=[DI 4 false]
def IE:List O:=[aG 7 0,mR 8 7,hZ 9 0]
def ID:List O:=[rV 10 9 8]
def IC:List O:=[nK 11 1 7 9,fW 12 11,aG 6 12]
def IA:List O:=[aG 13 6,aG 14 1,oo 15<|.bin .eql (.t 13) (.t 14)]
def Iz:List O:=[DI 4 true]
def Iy:List O:=[sa 16 9 1,aG 9 16]
def Nn:C:=(bn ID [1,7,8,9,10] (.seq (sd 10 0) (.seq (.aJ 1 (bn IC [1,6,7,8,9] (bn IA [1,7,8,9,15] (.cond (.t 15) (bn Iz [4] .ret) .skip)))) (ke Iy [1,7,8,9]))))
def Ix:List O:=[DI 4 false]
def cQt:C:=(bn IF [0,1] (.seq (bn IE [1,7,8,9] (.aJ 0 (.loop Nn))) (bn Ix [4] .ret)))
def qQt:gH:=⟨17,2,[.t 4],cQt⟩
def Ff:List O:=[vV 2 1]
def Fe:List O:=[vV 3 1]
def Fc:List O:=[aG 6 0,mR 7 6,hZ 8 0]
def Fb:List O:=[rV 9 8 7]
def Fa:List O:=[nK 10 1 6 8,fW 11 10,aG 5 11]
def E9:List O:=[aG 12 3,aG 13 5,BG 14 nQP 12 13,aG 3 14]
def E8:List O:=[sa 15 8 1,aG 8 15]
def Gq:C:=(bn Fb [3,6,7,8,9] (.seq (sd 9 0) (.seq (.aJ 1 (bn Fa [3,5,6,7,8] (ke E9 [3,6,7,8]))) (ke E8 [3,6,7,8]))))
def E7:List O:=[aG 16 3,aG 2 16]
def cQu:C:=(bn Ff [0] (bn Fe [0,3] (.seq (bn Fc [3,6,7,8] (.aJ 0 (.loop Gq))) (bn E7 [2] .ret))))
def qQu:gH:=⟨17,1,[.t 2],cQu⟩
def E6:List O:=[hZ 4 0]
def E5:List O:=[oo 5<|.mv (.k (.int .i64 (-1)))]
def E4:List O:=[aG 8 0,mR 9 8,hZ 10 0]
def E3:List O:=[rV 11 10 9]
def E0:List O:=[aG 12 10,nK 13 3 8 10,Er 14 3 13,oo 7<|.new [.int .i64 0,.int .i64 0,.own 1 []],aG 6 12,Bu 3 7 14]
def EZ:List O:=[aG 15 1,Er 16 3 7,oo 17<|.iR (.t 15) [.t 16],aG 18 17,ur 19 18 5,gt 20 18<|.bin .lss (.t 19) (ki 0),ur 21 18 20,DH 22 21 0 7,Bt 23 21 22,Ao 24 21 0,Ao 25 21 5,gf 26 21<|.sU 3 (.t 24) (.t 25),DH 27 21 0 26,Bt 28 21 27,gf 29 21<|.bin .geq (.t 23) (.t 28),gt 30 18<|.pick (.t 21) (.k (.bool true)) (.t 29),G7 31 18 30]
def EY:List O:=[aG 32 6,aG 5 32]
def EX:List O:=[sa 33 10 1,aG 10 33]
def Dr:C:=(bn E3 [0,1,5,8,9,10,11] (.seq (sd 11 0) (.seq (.aJ 1 (bn E0 [0,1,5,6,7,8,9,10] (.seq (.rX EZ true [(2,2),(3,3),(4,4),(5,5),(6,6),(14,14),(15,15),(16,16),(0,1),(8,9),(8,10),(8,11),(8,12),(7,13),(8,13)] [0,1,5,6,8,9,10,31]) (.cond (.t 31) (ke EY [0,1,5,8,9,10]) .skip)))) (ke EX [0,1,5,8,9,10]))))
def EW:List O:=[aG 34 5,aG 4 34]
def cQv:C:=(bn E6 [0,1] (bn E5 [0,1,5] (.seq (bn E4 [0,1,5,8,9,10] (.aJ 0 (.loop Dr))) (bn EW [4] .ret))))
def qQv:gH:=⟨35,2,[.t 4],cQv⟩
def XS:List O:=[Ia 3 0,DI 4 false]
def XR:List O:=[mZ 5 0 3,fW 6 5,fW 7 1,oo 8<|.bin .leq (.t 6) (.t 7),aG 9 8,gt 10 9<|.yn 2 (.t 3),CD 11 9 10,CD 12 9 2,gt 13 9<|.call nQx [.t 11,.t 12],G7 14 9 13,aG 4 14]
def cQw:C:=(bn XS [1,2,3] (bn XR [4] .ret))
def qQw:gH:=⟨15,1,[.t 4],cQw⟩
def acU:List O:=[DI 4 false]
def acT:List O:=[aG 5 0,aG 6 1,BG 7 nQQ 5 6,aG 4 7]
def cQx:C:=(bn acU [0,1] (bn acT [4] .ret))
def qQx:gH:=⟨8,2,[.t 4],cQx⟩
def agd:List O:=[DI 4 false]
def agc:List O:=[aG 5 0,mR 6 5,aG 7 1,mR 8 7,oo 9<|.bin .eql (.t 6) (.t 8),aG 10 9,ur 11 10 0,ur 12 10 1,gt 13 10<|.call nQR [.t 11,.t 12],gt 14 10<|.bin .eql (.t 13) (ki 0),G7 15 10 14,aG 4 15]
def cQy:C:=(bn agd [0,1] (bn agc [4] .ret))
def qQy:gH:=⟨16,2,[.t 4],cQy⟩
def acS:List O:=[hZ 4 0]
def acR:List O:=[aG 5 0,aG 6 1,oo 7<|.bin .rem (.t 5) (.t 6),aG 8 1,oo 9<|.bin .add (.t 7) (.t 8),aG 10 1,oo 11<|.bin .rem (.t 9) (.t 10),aG 4 11]
def cQz:C:=(bn acS [0,1] (bn acR [4] .ret))
def qQz:gH:=⟨12,2,[.t 4],cQz⟩
def vu:List O:=[Ia 1 0,hZ 2 0]
def vt:List O:=[mZ 5 0 1,fW 6 5,Rc 7 6 0,aG 8 7,DH 9 8 0 1,Bt 10 8 9,gf 11 8<|.bin .gtr (.t 10) (ki 64),LG 12 8 11]
def vq:List O:=[hZ 2 1]
def vp:List O:=[mZ 13 1 1,fW 14 13,mR 15 14,hZ 16 0]
def vo:List O:=[rV 17 16 15]
def vm:List O:=[aG 18 16,nK 19 2 14 16,Er 20 2 19,oo 4<|.new [.int .i64 0,.int .i64 0],aG 3 18,Bu 2 4 20]
def vl:List O:=[mZ 22 0 4,fW 23 22,Rc 24 23 0,aG 25 24,DH 26 25 0 4,Bt 27 25 26,DH 28 25 1 4,Bt 29 25 28,gf 30 25<|.bin .geq (.t 27) (.t 29),LG 31 25 30,aG 32 31,DH 33 32 1 4,Bt 34 32 33,DH 35 32 0 1,Bt 36 32 35,gf 37 32<|.bin .geq (.t 34) (.t 36),LG 38 32 37,aG 21 38]
def vk:List O:=[hZ 2 6]
def vj:List O:=[aG 40 3,oo 41<|.bin .gtr (.t 40) (ki 0),aG 42 41,gt 43 42<|.yn 1 (.t 1),CD 44 42 43,ur 45 42 3,gt 46 42<|.bin .sub (.t 45) (ki 1),gt 47 42<|.sU 2 (.t 44) (.t 46),gt 48 42<|.ld (some 2) (.t 47),gt 49 42<|.ld (some 2) (.t 4),gt 50 42<|.call nQS [.t 48,.t 49],gt 51 42<|.bin .geq (.t 50) (ki 0),G7 52 42 51,aG 39 52]
def vi:List O:=[hZ 2 5]
def qD:List O:=[sa 53 16 1,aG 16 53]
def A8:C:=(bn vo [1,14,15,16,17] (.seq (sd 17 0) (.seq (.aJ 1 (bn vm [1,3,4,14,15,16] (.aJ 2 (bn vl [1,3,4,14,15,16,21] (.cond (.t 21) (bn vk [2] .ret) (.seq (.rX vj true [(0,0),(1,1),(2,2),(10,10),(11,11),(12,12),(13,13),(4,5),(4,6),(3,9),(4,9),(5,9),(6,9),(7,9),(8,9)] [1,14,15,16,39]) (.cond (.t 39) (bn vi [2] .ret) .skip))))))) (ke qD [1,14,15,16]))))
def qC:List O:=[hZ 2 0]
def cQA:C:=(bn vu [1] (.seq (bn vt [1,12] (.cond (.t 12) (bn vq [2] .ret) .skip)) (.seq (bn vp [1,14,15,16] (.aJ 0 (.loop A8))) (bn qC [2] .ret))))
def qQA:gH:=⟨54,1,[.t 2],cQA⟩
def vh:List O:=[Ia 1 0,vV 2 1,vV 3 1]
def vf:List O:=[Er 15 2 1,qI 16 nQJ 15,aG 4 16]
def ve:List O:=[oo 5<|.new [.int .u64 0,.int .u64 0,.int .u64 0,.int .u64 0,.int .u64 0,.int .u64 0,.int .u64 0,.int .u64 0,.int .u64 0,.int .u64 0,.int .u64 0,.int .u64 0,.int .u64 0,.int .u64 0,.int .u64 0,.int .u64 0,.int .u64 0,.int .u64 0,.int .u64 0,.int .u64 0,.int .u64 0,.int .u64 0,.int .u64 0,.int .u64 0,.int .u64 0,.int .u64 0,.int .u64 0,.int .u64 0,.int .u64 0,.int .u64 0,.int .u64 0,.int .u64 0,.int .u64 0,.int .u64 0,.int .u64 0,.int .u64 0,.int .u64 0,.int .u64 0,.int .u64 0,.int .u64 0,.int .u64 0,.int .u64 0,.int .u64 0,.int .u64 0,.int .u64 0,.int .u64 0,.int .u64 0,.int .u64 0,.int .u64 0,.int .u64 0,.int .u64 0,.int .u64 0,.int .u64 0,.int .u64 0,.int .u64 0,.int .u64 0,.int .u64 0,.int .u64 0,.int .u64 0,.int .u64 0,.int .u64 0,.int .u64 0,.int .u64 0,.int .u64 0]]
def vd:List O:=[aG 17 4,mR 18 17,oo 19<|.Kx 1 [.int .i64 0] (.t 18) (.t 18),aG 6 19]
def vc:List O:=[aG 20 4,mR 21 20,hZ 22 0]
def u9:List O:=[rV 23 22 21]
def u7:List O:=[aG 24 22,nK 25 1 20 22,fW 26 25,aG 7 24,aG 8 26]
def u6:List O:=[aG 27 6,aG 28 7,aG 29 8,qI 30 nQT 29,nK 31 1 27 28,Bu 1 31 30]
def u5:List O:=[aG 32 6,aG 33 7,nK 34 1 32 33,fW 35 34,oo 36<|.DU 64 1 (.t 5) (.t 35),fW 37 36,aG 38 7,qI 39 W7 38,oo 40<|.bin .or (.t 37) (.t 39),oo 41<|.DU 64 1 (.t 5) (.t 35),Bu 1 41 40]
def u4:List O:=[sa 42 22 1,aG 22 42]
def NG:C:=(bn u9 [2,4,5,6,20,21,22,23] (.seq (sd 23 0) (.seq (.aJ 1 (bn u7 [2,4,5,6,7,8,20,21,22] (bn u6 [2,4,5,6,7,20,21,22] (.rX u5 true [(8,8),(9,9),(10,10),(3,6),(5,6),(0,7),(1,7),(2,7),(3,7),(4,7),(5,7)] [2,4,5,6,20,21,22])))) (ke u4 [2,4,5,6,20,21,22]))))
def qB:List O:=[aG 43 4,mR 44 43,oo 45<|.Kx 1 [.int .i64 0] (.t 44) (.t 44),aG 3 45]
def qA:List O:=[aG 46 4,mR 47 46,qI 48 nQU 47,aG 9 48]
def qz:List O:=[hZ 10 0]
def qx:List O:=[aG 49 9,oo 50<|.bin .neq (.t 49) (.k (.int .u64 0))]
def qw:List O:=[hZ 51 0]
def qv:List O:=[Rc 52 51 64]
def qu:List O:=[aG 53 51,aG 11 53]
def qt:List O:=[aG 54 11,oo 55<|.DU 64 1 (.t 5) (.t 54),fW 56 55,oo 57<|.bin .eql (.t 56) (.k (.int .u64 0))]
def qq:List O:=[aG 58 11,oo 59<|.DU 64 1 (.t 5) (.t 58),fW 60 59,qI 61 nQV 60,aG 12 61]
def qp:List O:=[aG 62 10,aG 63 11,oo 64<|.max [.t 62,.t 63],aG 10 64]
def qo:List O:=[aG 65 3,aG 66 12,aG 67 10,nK 68 1 65 66,Bu 1 68 67]
def ql:List O:=[aG 69 2,aG 70 12,oo 71<|.dV 1 1 [.int .i64 0] [(0,1,.t 70)],Re 72 1 69 71,aG 2 72]
def qk:List O:=[aG 73 9,aG 74 12,qI 75 W7 74,oo 76<|.bin .andNot (.t 73) (.t 75),aG 9 76]
def qj:List O:=[aG 77 11,oo 78<|.DU 64 1 (.t 5) (.t 77),fW 79 78,aG 80 12,qI 81 W7 80,oo 82<|.bin .andNot (.t 79) (.t 81),oo 83<|.DU 64 1 (.t 5) (.t 77),Bu 1 83 82]
def qi:List O:=[aG 84 4,aG 85 12,nK 86 1 84 85,fW 87 86,aG 88 9,oo 89<|.bin .and (.t 87) (.t 88),qI 90 nQL 89,mR 91 90,hZ 92 0]
def qh:List O:=[rV 93 92 91]
def qg:List O:=[nK 94 1 90 92,fW 95 94,aG 14 95]
def qf:List O:=[aG 96 6,aG 97 14,nK 98 1 96 97,fW 99 98,oo 100<|.DU 64 1 (.t 5) (.t 99),fW 101 100,aG 102 14,qI 103 W7 102,oo 104<|.bin .andNot (.t 101) (.t 103),oo 105<|.DU 64 1 (.t 5) (.t 99),Bu 1 105 104]
def qe:List O:=[aG 106 6,aG 107 14,nK 108 1 106 107,fW 109 108,oo 110<|.bin .sub (.t 109) (ki 1),nK 111 1 106 107,Bu 1 111 110]
def qd:List O:=[aG 112 6,aG 113 14,nK 114 1 112 113,fW 115 114,oo 116<|.DU 64 1 (.t 5) (.t 115),fW 117 116,aG 118 14,qI 119 W7 118,oo 120<|.bin .or (.t 117) (.t 119),oo 121<|.DU 64 1 (.t 5) (.t 115),Bu 1 121 120]
def qc:List O:=[sa 122 92 1,aG 92 122]
def NF:C:=(bn qh [2,3,4,5,6,9,10,90,91,92,93] (.seq (sd 93 6) (.seq (.aJ 7 (bn qg [2,3,4,5,6,9,10,14,90,91,92] (.seq (.rX qf true [(8,8),(9,9),(10,10),(3,6),(5,6),(0,7),(1,7),(2,7),(3,7),(4,7),(5,7)] [2,3,4,5,6,9,10,14,90,91,92]) (bn qe [2,3,4,5,6,9,10,14,90,91,92] (.rX qd true [(8,8),(9,9),(10,10),(3,6),(5,6),(0,7),(1,7),(2,7),(3,7),(4,7),(5,7)] [2,3,4,5,6,9,10,90,91,92]))))) (ke qc [2,3,4,5,6,9,10,90,91,92]))))
def qb:List O:=[sa 123 51 1,aG 51 123]
def Gt:C:=(bn qv [2,3,4,5,6,9,10,51,52] (.seq (sd 52 4) (.seq (.aJ 5 (bn qu [2,3,4,5,6,9,10,11,51] (.seq (bn qt [2,3,4,5,6,9,10,11,51,57] (.cond (.t 57) (.exit 5) .skip)) (bn qq [2,3,4,5,6,9,10,11,12] (bn qp [2,3,4,5,6,9,10,11,12] (bn qo [2,3,4,5,6,9,10,11,12] (bn ql [2,3,4,5,6,9,10,11,12] (bn qk [2,3,4,5,6,9,10,11,12] (.seq (.rX qj true [(5,5),(6,6),(7,7),(2,3),(0,4),(1,4),(2,4)] [2,3,4,5,6,9,10,12]) (.seq (bn qi [2,3,4,5,6,9,10,90,91,92] (.aJ 6 (.loop NF))) (.exit 3))))))))))) (ke qb [2,3,4,5,6,9,10,51]))))
def Dt:C:=(.seq (bn qx [2,3,4,5,6,9,10,50] (sd 50 2)) (.aJ 3 (bn qw [2,3,4,5,6,9,10,51] (.aJ 4 (.loop Gt)))))
def qa:List O:=[aG 124 2,aG 125 3,aG 2 124,aG 3 125]
def cQB:C:=(bn vh [1,2] (.seq .skip (bn vf [2,4] (bn ve [2,4,5] (bn vd [2,4,5,6] (.seq (bn vc [2,4,5,6,20,21,22] (.aJ 0 (.loop NG))) (bn qB [2,3,4,5,6] (bn qA [2,3,4,5,6,9] (bn qz [2,3,4,5,6,9,10] (.seq .skip (.seq (.aJ 2 (.loop Dt)) (bn qa [2,3] .ret))))))))))))
def qQB:gH:=⟨126,1,[.t 2,.t 3],cQB⟩
def S9:List O:=[oo 2<|.mv (.k (.str ⟨#[]⟩))]
def S8:List O:=[oo 3<|.mv (.k (.str ⟨#[]⟩))]
def S7:List O:=[aG 6 0,mR 7 6,hZ 8 0]
def S6:List O:=[rV 9 8 7]
def S5:List O:=[nK 10 1 6 8,fW 11 10,aG 5 11]
def S4:List O:=[aG 12 3,aG 13 5,qI 14 nQW 13,oo 15<|.bin .add (.t 14) (.k (.str ⟨#[32]⟩)),oo 16<|.bin .add (.t 12) (.t 15),aG 3 16]
def S0:List O:=[sa 17 8 1,aG 8 17]
def T9:C:=(bn S6 [3,6,7,8,9] (.seq (sd 9 0) (.seq (.aJ 1 (bn S5 [3,5,6,7,8] (ke S4 [3,6,7,8]))) (ke S0 [3,6,7,8]))))
def SZ:List O:=[aG 18 3,aG 2 18]
def cQC:C:=(bn S9 [0] (bn S8 [0,3] (.seq (bn S7 [3,6,7,8] (.aJ 0 (.loop T9))) (bn SZ [2] .ret))))
def qQC:gH:=⟨19,1,[.t 2],cQC⟩
def agE:List O:=[aG 5 0,mR 6 5,aG 4 6]
def agD:List O:=[aG 7 0,aG 8 4,aG 9 4,oo 10<|.LF .u64 (.t 9),qI 11 53 10,aG 12 1,oo 13<|.call 52 [.t 7,ki 0,.t 8,.t 11,.t 12]]
def cQD:C:=(bn agE [0,1,4] (ke agD []))
def qQD:gH:=⟨14,2,[],cQD⟩
def adn:List O:=[Ia 2 0,Ia 3 1,hZ 4 0]
def adm:List O:=[mZ 5 0 2,fW 6 5,mZ 7 0 3,fW 8 7,BG 9 Lw 6 8,mZ 10 2 2,fW 11 10,mZ 12 2 3,fW 13 12,BG 14 Qn 11 13,oo 15<|.dV 1 2 [.int .i64 0] [(0,1,.t 9),(1,1,.t 14)],qI 16 O6 15,aG 4 16]
def cQE:C:=(bn adn [2,3] (.seq (.rX adm true [(9,9),(10,10),(11,11),(12,12),(1,2),(0,3),(1,3),(1,5),(3,5),(4,5),(0,6),(1,6),(2,6),(3,6),(4,6),(1,7),(3,7),(4,7),(6,7),(0,8),(1,8),(2,8),(3,8),(4,8),(5,8),(6,8)] [4]) .ret))
def qQE:gH:=⟨17,2,[.t 4],cQE⟩
def mj:List O:=[hZ 2 0]
def mh:List O:=[hZ 3 0]
def mg:List O:=[aG 6 0,mR 7 6,hZ 8 0]
def me:List O:=[rV 9 8 7]
def l9:List O:=[nK 10 1 6 8,fW 11 10,aG 5 11]
def l8:List O:=[aG 12 5,aG 13 3,oo 14<|.bin .neq (.t 12) (.t 13)]
def l7:List O:=[aG 15 5,aG 2 15]
def l6:List O:=[sa 16 8 1,aG 8 16]
def oR:C:=(bn me [3,6,7,8,9] (.seq (sd 9 0) (.seq (.aJ 1 (bn l9 [3,5,6,7,8] (bn l8 [3,5,6,7,8,14] (.cond (.t 14) (bn l7 [2] .ret) .skip)))) (ke l6 [3,6,7,8]))))
def l5:List O:=[aG 17 3,aG 2 17]
def cQF:C:=(bn mj [0] (bn mh [0,3] (.seq (bn mg [3,6,7,8] (.aJ 0 (.loop oR))) (bn l5 [2] .ret))))
def qQF:gH:=⟨18,1,[.t 2],cQF⟩
def FL:List O:=[hZ 4 0]
def FK:List O:=[aG 7 0,qI 8 O5 7,aG 5 8]
def FJ:List O:=[aG 9 1,qI 10 O5 9,aG 6 10]
def FI:List O:=[aG 11 5]
def FH:List O:=[aG 12 6]
def FG:List O:=[hZ 4 0]
def FF:List O:=[oo 4<|.mv (.k (.int .i64 (-1)))]
def FE:List O:=[aG 13 6]
def FD:List O:=[hZ 4 1]
def FC:List O:=[aG 14 0,aG 15 1,rV 16 14 15]
def zt:List O:=[oo 4<|.mv (.k (.int .i64 (-1)))]
def zr:List O:=[aG 17 0,aG 18 1,oo 19<|.bin .gtr (.t 17) (.t 18)]
def zq:List O:=[hZ 4 1]
def zp:List O:=[hZ 4 0]
def cQG:C:=(bn FL [0,1] (bn FK [0,1,5] (bn FJ [0,1,5,6] (.seq (bn FI [0,1,6,11] (.cond (.t 11) (.seq (bn FH [12] (.cond (.t 12) (bn FG [4] .ret) .skip)) (bn FF [4] .ret)) .skip)) (.seq (bn FE [0,1,13] (.cond (.t 13) (bn FD [4] .ret) .skip)) (.seq (bn FC [0,1,16] (.cond (.t 16) (bn zt [4] .ret) .skip)) (.seq (bn zr [19] (.cond (.t 19) (bn zq [4] .ret) .skip)) (bn zp [4] .ret))))))))
def qQG:gH:=⟨20,2,[.t 4],cQG⟩
def X0:List O:=[hZ 4 0]
def XZ:List O:=[aG 5 0,aG 6 1,BG 7 Qm 5 6,aG 4 7]
def cQH:C:=(bn X0 [0,1] (bn XZ [4] .ret))
def qQH:gH:=⟨8,2,[.t 4],cQH⟩
def XY:List O:=[DI 4 false]
def XX:List O:=[aG 5 0,aG 6 1,BG 7 nQZ 5 6,mR 8 7,oo 9<|.bin .eql (.t 8) (ki 0),aG 4 9]
def cQI:C:=(bn XY [0,1] (bn XX [4] .ret))
def qQI:gH:=⟨10,2,[.t 4],cQI⟩
def SY:List O:=[Ia 1 0,vV 2 1]
def SX:List O:=[mZ 6 0 1,fW 7 6,oo 8<|.max [.t 7,ki 0],oo 9<|.min [.t 8,ki 64],oo 10<|.Kx 1 [.int .u64 0] (.t 9) (.t 9),aG 3 10]
def SV:List O:=[mZ 11 1 1,fW 12 11,mR 13 12,hZ 14 0]
def SU:List O:=[rV 15 14 13]
def SS:List O:=[nK 16 2 12 14,Er 17 2 16,oo 5<|.new [.int .i64 0,.int .i64 0],Bu 2 5 17]
def SR:List O:=[mZ 18 0 5,fW 19 18,oo 20<|.bin .geq (.t 19) (ki 0),aG 21 20,gt 22 21<|.yn 0 (.t 5),CD 23 21 22,gt 24 21<|.yn 1 (.t 5),CD 25 21 24,gt 26 21<|.bin .lss (.t 23) (.t 25),G7 27 21 26,aG 28 27,gt 29 28<|.yn 1 (.t 5),CD 30 28 29,ur 31 28 3,gt 32 28<|.len (.t 31),gt 33 28<|.bin .lss (.t 30) (.t 32),G7 34 28 33]
def SQ:List O:=[aG 35 3,mZ 36 0 5,fW 37 36,nK 38 1 35 37,fW 39 38,mZ 40 1 5,fW 41 40,oo 42<|.bin .shl (.k (.int .u64 1)) (.t 41),oo 43<|.bin .or (.t 39) (.t 42),nK 44 1 35 37,Bu 1 44 43]
def SP:List O:=[aG 45 3,mZ 46 1 5,fW 47 46,nK 48 1 45 47,fW 49 48,mZ 50 0 5,fW 51 50,oo 52<|.bin .shl (.k (.int .u64 1)) (.t 51),oo 53<|.bin .or (.t 49) (.t 52),nK 54 1 45 47,Bu 1 54 53]
def SO:List O:=[sa 55 14 1,aG 14 55]
def T8:C:=(bn SU [3,12,13,14,15] (.seq (sd 15 0) (.seq (.aJ 1 (bn SS [3,5,12,13,14] (bn SR [3,5,12,13,14,34] (.cond (.t 34) (.seq (.rX SQ true [(8,8),(9,9),(10,10),(0,2),(2,5),(4,5),(0,6),(1,6),(2,6),(3,6),(4,6),(2,7),(4,7)] [3,5,12,13,14]) (.rX SP true [(8,8),(9,9),(10,10),(0,2),(2,5),(4,5),(0,6),(1,6),(2,6),(3,6),(4,6),(2,7),(4,7)] [3,12,13,14])) .skip)))) (ke SO [3,12,13,14]))))
def SN:List O:=[aG 56 3,aG 2 56]
def cQJ:C:=(bn SY [1] (bn SX [1,3] (.seq (bn SV [3,12,13,14] (.aJ 0 (.loop T8))) (bn SN [2] .ret))))
def qQJ:gH:=⟨57,1,[.t 2],cQJ⟩
def SM:List O:=[oo 6<|.mv (.k (.int .u64 0))]
def SL:List O:=[aG 10 1,aG 11 2,oo 12<|.bin .and (.t 10) (.t 11),aG 1 12]
def SK:List O:=[aG 13 1,aG 7 13]
def SJ:List O:=[aG 14 7,oo 15<|.bin .neq (.t 14) (.k (.int .u64 0))]
def SI:List O:=[aG 16 7,qI 17 nQV 16,aG 8 17]
def SH:List O:=[aG 18 7,aG 19 7,oo 20<|.bin .sub (.t 19) (.k (.int .u64 1)),oo 21<|.bin .and (.t 18) (.t 20),aG 7 21]
def SG:List O:=[aG 22 0,aG 23 8,nK 24 1 22 23,fW 25 24,aG 26 2,oo 27<|.bin .and (.t 25) (.t 26),aG 28 1,oo 29<|.bin .andNot (.t 27) (.t 28),aG 9 29]
def SF:List O:=[aG 30 1,aG 31 9,oo 32<|.bin .or (.t 30) (.t 31),aG 1 32]
def SE:List O:=[aG 33 7,aG 34 9,oo 35<|.bin .or (.t 33) (.t 34),aG 7 35]
def ND:C:=(.seq (bn SJ [0,1,2,7,15] (sd 15 0)) (.aJ 1 (bn SI [0,1,2,7,8] (bn SH [0,1,2,7,8] (bn SG [0,1,2,7,9] (bn SF [0,1,2,7,9] (ke SE [0,1,2,7])))))))
def SD:List O:=[aG 36 1,aG 6 36]
def cQK:C:=(bn SM [0,1,2] (bn SL [0,1,2] (.seq (bn SK [0,1,2,7] (.aJ 0 (.loop ND))) (bn SD [6] .ret))))
def qQK:gH:=⟨37,3,[.t 6],cQK⟩
def SC:List O:=[vV 2 1]
def SA:List O:=[vV 3 1]
def Sz:List O:=[aG 4 0,oo 5<|.bin .neq (.t 4) (.k (.int .u64 0))]
def Sy:List O:=[aG 10 3,aG 11 0,qI 12 nQ0 11,oo 13<|.dV 1 1 [.int .i64 0] [(0,1,.t 12)],Re 14 1 10 13,aG 3 14]
def Sx:List O:=[aG 6 0,aG 7 0,oo 8<|.bin .sub (.t 7) (.k (.int .u64 1)),oo 9<|.bin .and (.t 6) (.t 8),aG 0 9]
def T7:C:=(.seq (bn Sz [0,3,5] (sd 5 0)) (.seq (.aJ 1 (ke Sy [0,3])) (ke Sx [0,3])))
def Sw:List O:=[aG 15 3,aG 2 15]
def cQL:C:=(bn SC [0] (bn SA [0,3] (.seq (.aJ 0 (.loop T7)) (bn Sw [2] .ret))))
def qQL:gH:=⟨16,1,[.t 2],cQL⟩
def MB:List O:=[Ia 2 0,Ia 3 1,DI 4 false]
def MA:List O:=[mZ 5 0 2,fW 6 5,mZ 7 0 3,fW 8 7,rV 9 6 8,aG 10 9,DH 11 10 0 2,Bt 12 10 11,DH 13 10 0 3,Bt 14 10 13,gf 15 10<|.bin .eql (.t 12) (.t 14),Ao 16 10 15,gt 17 16<|.yn 1 (.t 2),CD 18 16 17,gt 19 16<|.yn 1 (.t 3),CD 20 16 19,gt 21 16<|.bin .lss (.t 18) (.t 20),gf 22 10<|.pick (.t 16) (.t 21) (.k (.bool false)),LG 23 10 22,aG 4 23]
def cQM:C:=(bn MB [2,3] (bn MA [4] .ret))
def qQM:gH:=⟨24,2,[.t 4],cQM⟩
def Mz:List O:=[vV 2 1]
def My:List O:=[vV 3 1]
def Mx:List O:=[hZ 4 0]
def Mw:List O:=[aG 5 4,aG 6 0,rV 7 5 6,aG 8 7,ur 9 8 4,gt 10 8<|.bin .lss (.t 9) (ki 64),G7 11 8 10]
def Mv:List O:=[aG 14 3,aG 15 4,oo 16<|.dV 1 1 [.int .i64 0] [(0,1,.t 15)],Re 17 1 14 16,aG 3 17]
def Mu:List O:=[aG 12 4,sa 13 12 1,aG 4 13]
def NC:C:=(.seq (bn Mw [0,3,4,11] (sd 11 0)) (.seq (.aJ 1 (ke Mv [0,3,4])) (ke Mu [0,3,4])))
def Mt:List O:=[aG 18 3,aG 2 18]
def cQN:C:=(bn Mz [0] (bn My [0,3] (.seq (bn Mx [0,3,4] (.aJ 0 (.loop NC))) (bn Mt [2] .ret))))
def qQN:gH:=⟨19,1,[.t 2],cQN⟩
def Ms:List O:=[vV 4 1]
def Mr:List O:=[vV 5 1]
def Mq:List O:=[aG 8 0,qI 9 nQu 8,mR 10 9,hZ 11 0]
def Mp:List O:=[rV 12 11 10]
def Mo:List O:=[nK 13 1 9 11,fW 14 13,aG 7 14]
def Mn:List O:=[aG 15 1,aG 16 7,BG 17 nQt 15 16,oo 18<|.un .not (.t 17)]
def Mm:List O:=[aG 19 5,aG 20 7,oo 21<|.dV 1 1 [.int .i64 0] [(0,1,.t 20)],Re 22 1 19 21,aG 5 22]
def Ml:List O:=[sa 23 11 1,aG 11 23]
def NB:C:=(bn Mp [1,5,9,10,11,12] (.seq (sd 12 0) (.seq (.aJ 1 (bn Mo [1,5,7,9,10,11] (bn Mn [1,5,7,9,10,11,18] (.cond (.t 18) (ke Mm [1,5,9,10,11]) .skip)))) (ke Ml [1,5,9,10,11]))))
def Mk:List O:=[aG 24 5,aG 4 24]
def cQO:C:=(bn Ms [0,1] (bn Mr [0,1,5] (.seq (bn Mq [1,5,9,10,11] (.aJ 0 (.loop NB))) (bn Mk [4] .ret))))
def qQO:gH:=⟨25,2,[.t 4],cQO⟩
def FB:List O:=[vV 4 1]
def FA:List O:=[hZ 5 0]
def Fz:List O:=[aG 7 5,aG 8 0,mR 9 8,rV 10 7 9,aG 11 10,ur 12 11 0,ur 13 11 5,gt 14 11<|.sU 1 (.t 12) (.t 13),CD 15 11 14,ur 16 11 1,gt 17 11<|.bin .lss (.t 15) (.t 16),G7 18 11 17]
def Fy:List O:=[aG 19 5,sa 20 19 1,aG 5 20]
def NA:C:=(.seq (bn Fz [0,1,5,18] (sd 18 0)) (.aJ 1 (ke Fy [0,1,5])))
def Fx:List O:=[aG 21 5,aG 22 0,mR 23 22,rV 24 21 23,aG 25 24,ur 26 25 0,ur 27 25 5,gt 28 25<|.sU 1 (.t 26) (.t 27),CD 29 25 28,ur 30 25 1,gt 31 25<|.bin .eql (.t 29) (.t 30),G7 32 25 31]
def Fw:List O:=[aG 33 0,aG 4 33]
def Fv:List O:=[aG 34 0,aG 35 5,oo 36<|.EN 1 (.t 34) none (some (.t 35)),oo 37<|.app 1 (.k (.own 1 [])) (.t 36),aG 6 37]
def Fu:List O:=[aG 38 6,aG 39 1,oo 40<|.dV 1 1 [.int .i64 0] [(0,1,.t 39)],Re 41 1 38 40,aG 42 0,aG 43 5,oo 44<|.EN 1 (.t 42) (some (.t 43)) none,Re 45 1 41 44,aG 4 45]
def cQP:C:=(bn FB [0,1] (bn FA [0,1,5] (.seq (.aJ 0 (.loop NA)) (.seq (bn Fx [0,1,5,32] (.cond (.t 32) (bn Fw [4] .ret) .skip)) (bn Fv [0,1,5,6] (.seq (.rX Fu true [(7,7),(8,8),(0,2),(2,4),(3,4),(2,5),(3,5),(2,6),(3,6)] [4]) .ret))))))
def qQP:gH:=⟨46,2,[.t 4],cQP⟩
def XW:List O:=[DI 4 false]
def XV:List O:=[aG 5 0,aG 6 1,BG 7 nQ1 5 6,oo 8<|.bin .geq (.t 7) (ki 0),aG 4 8]
def cQQ:C:=(bn XW [0,1] (bn XV [4] .ret))
def qQQ:gH:=⟨9,2,[.t 4],cQQ⟩
def agC:List O:=[hZ 4 0]
def agB:List O:=[aG 6 0,mR 7 6,hZ 8 0]
def agA:List O:=[rV 9 8 7]
def agz:List O:=[aG 10 8,aG 5 10]
def agy:List O:=[aG 12 5,aG 13 1,mR 14 13,oo 15<|.bin .geq (.t 12) (.t 14),aG 16 15,Ao 17 16 0,Ao 18 16 5,gf 19 16<|.sU 1 (.t 17) (.t 18),Bt 20 16 19,Ao 21 16 1,Ao 22 16 5,gf 23 16<|.sU 1 (.t 21) (.t 22),Bt 24 16 23,gf 25 16<|.bin .gtr (.t 20) (.t 24),LG 26 16 25,aG 11 26]
def agx:List O:=[hZ 4 1]
def agw:List O:=[aG 28 0,aG 29 5,nK 30 1 28 29,fW 31 30,aG 32 1,aG 33 5,nK 34 1 32 33,fW 35 34,rV 36 31 35,aG 27 36]
def agv:List O:=[oo 4<|.mv (.k (.int .i64 (-1)))]
def agu:List O:=[sa 37 8 1,aG 8 37]
def ahf:C:=(bn agA [0,1,7,8,9] (.seq (sd 9 0) (.seq (.aJ 1 (bn agz [0,1,5,7,8] (.aJ 2 (.seq (.rX agy true [(3,3),(4,4),(13,13),(14,14),(15,15),(8,9),(8,10),(8,11),(5,12),(6,12),(7,12),(8,12)] [0,1,5,7,8,11]) (.cond (.t 11) (bn agx [4] .ret) (.seq (.rX agw true [(8,8),(9,9),(3,4),(3,5),(3,6),(0,7),(1,7),(2,7),(3,7)] [0,1,7,8,27]) (.cond (.t 27) (bn agv [4] .ret) .skip))))))) (ke agu [0,1,7,8]))))
def agt:List O:=[aG 38 0,mR 39 38,aG 40 1,mR 41 40,rV 42 39 41]
def aek:List O:=[oo 4<|.mv (.k (.int .i64 (-1)))]
def aej:List O:=[hZ 4 0]
def cQR:C:=(bn agC [0,1] (.seq (bn agB [0,1,7,8] (.aJ 0 (.loop ahf))) (.seq (bn agt [42] (.cond (.t 42) (bn aek [4] .ret) .skip)) (bn aej [4] .ret))))
def qQR:gH:=⟨43,2,[.t 4],cQR⟩
def adl:List O:=[Ia 2 0,Ia 3 1,hZ 4 0]
def adk:List O:=[mZ 5 0 2,fW 6 5,mZ 7 0 3,fW 8 7,BG 9 Lw 6 8,mZ 10 1 2,fW 11 10,mZ 12 1 3,fW 13 12,BG 14 Lw 11 13,oo 15<|.dV 1 2 [.int .i64 0] [(0,1,.t 9),(1,1,.t 14)],qI 16 O6 15,aG 4 16]
def cQS:C:=(bn adl [2,3] (.seq (.rX adk true [(9,9),(10,10),(11,11),(12,12),(1,2),(0,3),(1,3),(1,5),(3,5),(4,5),(0,6),(1,6),(2,6),(3,6),(4,6),(1,7),(3,7),(4,7),(6,7),(0,8),(1,8),(2,8),(3,8),(4,8),(5,8),(6,8)] [4]) .ret))
def qQS:gH:=⟨17,2,[.t 4],cQS⟩
def adj:List O:=[hZ 2 0]
def adi:List O:=[aG 3 0,qI 4 nQ2 3,aG 2 4]
def cQT:C:=(bn adj [0] (bn adi [2] .ret))
def qQT:gH:=⟨5,1,[.t 2],cQT⟩
def ags:List O:=[oo 2<|.mv (.k (.int .u64 0))]
def agr:List O:=[aG 4 0,oo 5<|.bin .leq (.t 4) (ki 0),aG 3 5]
def agq:List O:=[oo 2<|.mv (.k (.int .u64 0))]
def agp:List O:=[aG 7 0,oo 8<|.bin .geq (.t 7) (ki 64),aG 6 8]
def ago:List O:=[oo 2<|.mv (.k (.int .u64 18446744073709551615))]
def agn:List O:=[aG 9 0,oo 10<|.bin .shl (.k (.int .u64 1)) (.t 9),oo 11<|.bin .sub (.t 10) (.k (.int .u64 1)),aG 2 11]
def cQU:C:=(bn ags [0] (.seq (.aJ 0 (bn agr [0,3] (.cond (.t 3) (bn agq [2] .ret) (bn agp [0,6] (.cond (.t 6) (bn ago [2] .ret) .skip))))) (bn agn [2] .ret)))
def qQU:gH:=⟨12,1,[.t 2],cQU⟩
def adh:List O:=[hZ 2 0]
def adg:List O:=[aG 3 0,qI 4 nQ0 3,aG 2 4]
def cQV:C:=(bn adh [0] (bn adg [2] .ret))
def qQV:gH:=⟨5,1,[.t 2],cQV⟩
def adf:List O:=[oo 2<|.mv (.k (.str ⟨#[]⟩))]
def ade:List O:=[aG 3 0,qI 4 nQ3 3,aG 2 4]
def cQW:C:=(bn adf [0] (bn ade [2] .ret))
def qQW:gH:=⟨5,1,[.t 2],cQW⟩
def XU:List O:=[DI 2 false]
def XT:List O:=[aG 3 0,aG 4 0,oo 5<|.bin .neq (.t 3) (.t 4),aG 2 5]
def cQX:C:=(bn XU [0] (bn XT [2] .ret))
def qQX:gH:=⟨6,1,[.t 2],cQX⟩
def oP:List O:=[hZ 4 0]
def oO:List O:=[aG 9 0,mR 10 9,hZ 11 0]
def oN:List O:=[rV 12 11 10]
def oM:List O:=[aG 13 11,nK 14 1 9 11,fW 15 14,aG 5 13,aG 6 15]
def oL:List O:=[aG 16 5,aG 17 1,mR 18 17,oo 19<|.bin .geq (.t 16) (.t 18)]
def oK:List O:=[hZ 4 1]
def oJ:List O:=[aG 20 1,aG 21 5,nK 22 1 20 21,fW 23 22,aG 7 23]
def oI:List O:=[aG 24 6,aG 25 7,BG 26 Lw 24 25,aG 8 26]
def oH:List O:=[aG 27 8,bzY 28 27 0]
def oG:List O:=[aG 29 8,aG 4 29]
def jG:List O:=[sa 30 11 1,aG 11 30]
def tA:C:=(bn oN [0,1,9,10,11,12] (.seq (sd 12 0) (.seq (.aJ 1 (bn oM [0,1,5,6,9,10,11] (.seq (bn oL [0,1,5,6,9,10,11,19] (.cond (.t 19) (bn oK [4] .ret) .skip)) (bn oJ [0,1,6,7,9,10,11] (bn oI [0,1,8,9,10,11] (bn oH [0,1,8,9,10,11,28] (.cond (.t 28) (bn oG [4] .ret) .skip))))))) (ke jG [0,1,9,10,11]))))
def jF:List O:=[aG 31 0,mR 32 31,aG 33 1,mR 34 33,rV 35 32 34]
def jE:List O:=[oo 4<|.mv (.k (.int .i64 (-1)))]
def jD:List O:=[hZ 4 0]
def cQY:C:=(bn oP [0,1] (.seq (bn oO [0,1,9,10,11] (.aJ 0 (.loop tA))) (.seq (bn jF [35] (.cond (.t 35) (bn jE [4] .ret) .skip)) (bn jD [4] .ret))))
def qQY:gH:=⟨36,2,[.t 4],cQY⟩
def adb:List O:=[vV 4 1]
def ada:List O:=[aG 5 0,aG 6 1,oo 7<|.call nQ4 [.t 5,.t 6,.k (.func (.func nQ5) [] [])],aG 4 7]
def cQZ:C:=(bn adb [0,1] (bn ada [4] .ret))
def qQZ:gH:=⟨8,2,[.t 4],cQZ⟩
def MD:List O:=[hZ 2 0]
def MC:List O:=[aG 3 0,oo 4<|.bin .eql (.t 3) (.k (.int .u64 0))]
def X1:List O:=[hZ 2 64]
def Dj:List O:=[aG 5 0,aG 6 0,oo 7<|.un .neg (.t 6),oo 8<|.bin .and (.t 5) (.t 7),oo 9<|.bin .mul (.t 8) (.k (.int .u64 285870213051353865)),oo 10<|.bin .shr (.t 9) (.k (.int .u64 58)),oo 11<|.DU 64 1 (.g 0) (.t 10),fW 12 11,oo 13<|.LF .i64 (.t 12),aG 2 13]
def cQ0:C:=(bn MD [0] (.seq (bn MC [0,4] (.cond (.t 4) (bn X1 [2] .ret) .skip)) (bn Dj [2] .ret)))
def qQ0:gH:=⟨14,1,[.t 2],cQ0⟩
def I0:List O:=[hZ 4 0]
def IZ:List O:=[aG 6 0,mR 7 6,hZ 8 0]
def IY:List O:=[rV 9 8 7]
def IX:List O:=[aG 10 8,aG 5 10]
def IW:List O:=[aG 11 1,aG 12 0,aG 13 5,nK 14 1 12 13,fW 15 14,oo 16<|.bin .eql (.t 11) (.t 15)]
def IV:List O:=[aG 17 5,aG 4 17]
def IU:List O:=[sa 18 8 1,aG 8 18]
def NH:C:=(bn IY [0,1,7,8,9] (.seq (sd 9 0) (.seq (.aJ 1 (bn IX [0,1,5,7,8] (bn IW [0,1,5,7,8,16] (.cond (.t 16) (bn IV [4] .ret) .skip)))) (ke IU [0,1,7,8]))))
def IQ:List O:=[oo 4<|.mv (.k (.int .i64 (-1)))]
def cQ1:C:=(bn I0 [0,1] (.seq (bn IZ [0,1,7,8] (.aJ 0 (.loop NH))) (bn IQ [4] .ret)))
def qQ1:gH:=⟨19,2,[.t 4],cQ1⟩
def adG:List O:=[hZ 2 0]
def adE:List O:=[aG 3 0,oo 4<|.bin .shr (.t 3) (.k (.int .u64 1)),oo 5<|.bin .and (.t 4) (.k (.int .u64 6148914691236517205)),aG 6 0,oo 7<|.bin .and (.t 6) (.k (.int .u64 6148914691236517205)),oo 8<|.bin .add (.t 5) (.t 7),aG 0 8]
def adD:List O:=[aG 9 0,oo 10<|.bin .shr (.t 9) (.k (.int .u64 2)),oo 11<|.bin .and (.t 10) (.k (.int .u64 3689348814741910323)),aG 12 0,oo 13<|.bin .and (.t 12) (.k (.int .u64 3689348814741910323)),oo 14<|.bin .add (.t 11) (.t 13),aG 0 14]
def adC:List O:=[aG 15 0,oo 16<|.bin .shr (.t 15) (.k (.int .u64 4)),aG 17 0,oo 18<|.bin .add (.t 16) (.t 17),oo 19<|.bin .and (.t 18) (.k (.int .u64 1085102592571150095)),aG 0 19]
def adB:List O:=[aG 20 0,aG 21 0,oo 22<|.bin .shr (.t 21) (.k (.int .u64 8)),oo 23<|.bin .add (.t 20) (.t 22),aG 0 23]
def adA:List O:=[aG 24 0,aG 25 0,oo 26<|.bin .shr (.t 25) (.k (.int .u64 16)),oo 27<|.bin .add (.t 24) (.t 26),aG 0 27]
def adz:List O:=[aG 28 0,aG 29 0,oo 30<|.bin .shr (.t 29) (.k (.int .u64 32)),oo 31<|.bin .add (.t 28) (.t 30),aG 0 31]
def adx:List O:=[aG 32 0,oo 33<|.LF .i64 (.t 32),oo 34<|.bin .and (.t 33) (ki 127),aG 2 34]
def cQ2:C:=(bn adG [0] (bn adE [0] (bn adD [0] (bn adC [0] (bn adB [0] (bn adA [0] (bn adz [0] (bn adx [2] .ret))))))))
def qQ2:gH:=⟨35,1,[.t 2],cQ2⟩
def adw:List O:=[oo 2<|.mv (.k (.str ⟨#[]⟩))]
def adu:List O:=[aG 3 0,oo 4<|.call nQ6 [.t 3,ki 10],aG 2 4]
def cQ3:C:=(bn adw [0] (bn adu [2] .ret))
def qQ3:gH:=⟨5,1,[.t 2],cQ3⟩
def lr:List O:=[vV 6 1]
def lk:List O:=[aG 11 0,qI 12 nQ7 11,aG 13 1,qI 14 nQ7 13,aG 0 12,aG 1 14]
def lg:List O:=[aG 15 0,qI 16 nQ8 15]
def k9:List O:=[aG 17 1,qI 18 nQ8 17]
def k8:List O:=[aG 19 0,qI 20 nQ9 19,aG 21 1,qI 22 nQ9 21,aG 0 20,aG 1 22]
def k7:List O:=[vV 7 1]
def km:List O:=[aG 23 0,mR 24 23,oo 25<|.bin .gtr (.t 24) (ki 0),aG 26 25,Ao 27 26 1,gf 28 26<|.len (.t 27),gf 29 26<|.bin .gtr (.t 28) (ki 0),LG 30 26 29]
def mq:List O:=[aG 31 1,mR 32 31,oo 33<|.bin .eql (.t 32) (ki 0),aG 34 33,Ao 35 34 0,gf 36 34<|.len (.t 35),gf 37 34<|.bin .gtr (.t 36) (ki 0),Ao 38 34 37,ur 39 38 0,gt 40 38<|.sU 1 (.t 39) (ki 0),CD 41 38 40,ur 42 38 1,gt 43 38<|.sU 1 (.t 42) (ki 0),CD 44 38 43,gt 45 38<|.bin .leq (.t 41) (.t 44),gf 46 34<|.pick (.t 38) (.t 45) (.k (.bool false)),LG 47 34 46,aG 8 47]
def mo:List O:=[aG 48 0,mR 49 48,oo 50<|.bin .eql (.t 49) (ki 0),aG 51 50,Ao 52 51 1,gf 53 51<|.len (.t 52),gf 54 51<|.bin .gtr (.t 53) (ki 0),Ao 55 51 54,ur 56 55 1,gt 57 55<|.sU 1 (.t 56) (ki 0),CD 58 55 57,ur 59 55 0,gt 60 55<|.sU 1 (.t 59) (ki 0),CD 61 55 60,gt 62 55<|.bin .leq (.t 58) (.t 61),gf 63 51<|.pick (.t 55) (.t 62) (.k (.bool false)),LG 64 51 63,aG 9 64]
def mn:List O:=[hZ 10 0]
def iG:List O:=[aG 65 8]
def iF:List O:=[aG 66 0,oo 67<|.sU 1 (.t 66) (ki 0),fW 68 67,aG 69 0,oo 70<|.EN 1 (.t 69) (some (ki 1)) none,aG 10 68,aG 0 70]
def iE:List O:=[aG 71 9]
def iD:List O:=[aG 72 1,oo 73<|.sU 1 (.t 72) (ki 0),fW 74 73,aG 75 1,oo 76<|.EN 1 (.t 75) (some (ki 1)) none,aG 10 74,aG 1 76]
def iC:List O:=[aG 77 2,aG 78 8,aG 79 9,oo 80<|.iR (.t 77) [.t 78,.t 79]]
def iB:List O:=[aG 81 7,aG 82 10,oo 83<|.dV 1 1 [.int .i64 0] [(0,1,.t 82)],Re 84 1 81 83,aG 7 84]
def lC:C:=(.seq (bn km [0,1,2,7,30] (sd 30 0)) (.aJ 1 (.seq (.rX mq true [(0,0),(1,1),(2,2),(3,3),(4,4),(5,5),(6,6),(7,7),(14,14),(15,15),(16,16),(17,17),(10,11),(10,12),(8,13),(9,13),(10,13)] [0,1,2,7,8]) (.seq (.rX mo true [(0,0),(1,1),(2,2),(3,3),(4,4),(5,5),(6,6),(7,7),(14,14),(15,15),(16,16),(17,17),(10,11),(10,12),(8,13),(9,13),(10,13)] [0,1,2,7,8,9]) (bn mn [0,1,2,7,8,9,10] (.seq (bn iG [0,1,2,7,8,9,10,65] (.cond (.t 65) (.rX iF true [(6,6),(2,3),(2,4)] [0,1,2,7,8,9,10]) .skip)) (.seq (bn iE [0,1,2,7,8,9,10,71] (.cond (.t 71) (.rX iD true [(6,6),(2,3),(2,4)] [0,1,2,7,8,9,10]) .skip)) (bn iC [0,1,2,7,10,80] (.cond (.t 80) (ke iB [0,1,2,7]) .skip)))))))))
def ig:List O:=[aG 85 7,aG 6 85]
def cQ4:C:=(bn lr [0,1,2] (bn lk [0,1,2] (bn lg [0,1,2] (bn k9 [0,1,2] (bn k8 [0,1,2] (bn k7 [0,1,2,7] (.seq (.aJ 0 (.loop lC)) (bn ig [6] .ret))))))))
def qQ4:gH:=⟨86,3,[.t 6],cQ4⟩
def adt:List O:=[DI 4 false]
def ads:List O:=[aG 5 1,oo 6<|.un .not (.t 5),aG 4 6]
def cQ5:C:=(bn adt [1] (bn ads [4] .ret))
def qQ5:gH:=⟨7,2,[.t 4],cQ5⟩
def ag0:List O:=[oo 4<|.mv (.k (.str ⟨#[]⟩))]
def agZ:List O:=[aG 10 1,oo 11<|.bin .eql (.t 10) (ki 10)]
def agY:List O:=[aG 12 0,oo 13<|.bin .leq (ki 0) (.t 12),aG 14 13,ur 15 14 0,gt 16 14<|.bin .lss (.t 15) (ki 100),G7 17 14 16]
def agX:List O:=[aG 18 0,qI 19 82 18,aG 4 19]
def agW:List O:=[oo 5<|.new [.int .u8 0,.int .u8 0,.int .u8 0,.int .u8 0,.int .u8 0,.int .u8 0,.int .u8 0,.int .u8 0,.int .u8 0,.int .u8 0,.int .u8 0,.int .u8 0,.int .u8 0,.int .u8 0,.int .u8 0,.int .u8 0,.int .u8 0,.int .u8 0,.int .u8 0,.int .u8 0,.int .u8 0,.int .u8 0,.int .u8 0,.int .u8 0]]
def agV:List O:=[aG 20 0,oo 21<|.LF .u64 (.t 20),aG 6 21]
def agU:List O:=[aG 22 0,Rc 23 22 0]
def agT:List O:=[aG 24 6,oo 25<|.un .neg (.t 24),aG 6 25]
def agS:List O:=[aG 26 6,qI 27 83 26,aG 7 27]
def agR:List O:=[aG 28 7,oo 29<|.bin .add (ki 1) (.t 28),oo 30<|.bad,aG 31 6,BG 32 84 30 31]
def aex:List O:=[aG 33 0,Rc 34 33 0]
def aew:List O:=[oo 35<|.DU 24 1 (.t 5) (ki 0),oz<|.st 1 (.t 35) (.k (.int .u8 45))]
def aev:List O:=[aG 36 7,oo 37<|.bin .add (ki 1) (.t 36),oo 38<|.Ic 24 (.t 5) (some (.t 37)),oo 39<|.bad,aG 4 39]
def aeu:List O:=[aG 40 7,oo 41<|.bin .add (ki 1) (.t 40),oo 42<|.bad,oo 43<|.bad,aG 4 43]
def aet:List O:=[aG 45 0,oo 46<|.LF .u64 (.t 45),aG 47 1,aG 48 0,Rc 49 48 0,oo 50<|.call 85 [.k (.own 1 []),.t 46,.t 47,.t 49,.k (.bool false)],aG 44 50,Rf 51 0 44,Rf 52 1 44,aG 8 51,aG 9 52]
def aes:List O:=[aG 53 9,aG 4 53]
def cQ6:C:=(bn ag0 [0,1] (.seq (bn agZ [0,1,11] (.cond (.t 11) (.seq (bn agY [0,17] (.cond (.t 17) (bn agX [4] .ret) .skip)) (bn agW [0,5] (bn agV [0,5,6] (.seq (bn agU [0,5,6,23] (.cond (.t 23) (ke agT [0,5,6]) .skip)) (bn agS [0,5,6,7] (bn agR [0,5,7] (.seq (bn aex [5,7,34] (.cond (.t 34) (bn aew [5,7] (bn aev [4] .ret)) .skip)) (bn aeu [4] .ret)))))))) .skip)) (bn aet [9] (bn aes [4] .ret))))
def qQ6:gH:=⟨54,2,[.t 4],cQ6⟩
def adr:List O:=[vV 2 1]
def adq:List O:=[aG 3 0,oo 4<|.eq false .Qg (.t 3) (.k (.own 1 []))]
def adp:List O:=[vV 2 1]
def ado:List O:=[oo 5<|.dV 1 0 [.int .i64 0] [],aG 6 0,Re 7 1 5 6,aG 2 7]
def cQ7:C:=(bn adr [0] (.seq (bn adq [0,4] (.cond (.t 4) (bn adp [2] .ret) .skip)) (bn ado [2] .ret)))
def qQ7:gH:=⟨8,1,[.t 2],cQ7⟩
def agQ:List O:=[aG 3 0,mR 4 3,aG 2 4]
def agP:List O:=[aG 5 0,aG 6 2,aG 7 2,oo 8<|.LF .u64 (.t 7),qI 9 53 8,oo 10<|.call 87 [.t 5,ki 0,.t 6,.t 9]]
def cQ8:C:=(bn agQ [0,2] (ke agP []))
def qQ8:gH:=⟨11,1,[],cQ8⟩
def agO:List O:=[vV 2 1]
def agN:List O:=[aG 6 0,mR 7 6,Rc 8 7 2]
def agM:List O:=[aG 9 0,aG 2 9]
def agL:List O:=[hZ 3 1]
def agK:List O:=[aG 10 3,aG 11 0,mR 12 11,rV 13 10 12]
def agJ:List O:=[aG 16 0,aG 17 3,nK 18 1 16 17,fW 19 18,aG 20 0,aG 21 3,oo 22<|.bin .sub (.t 21) (ki 1),nK 23 1 20 22,fW 24 23,oo 25<|.bin .eql (.t 19) (.t 24)]
def agI:List O:=[aG 26 0,aG 27 3,oo 28<|.EN 1 (.t 26) (some (.t 27)) none,aG 4 28]
def agH:List O:=[hZ 5 1]
def agG:List O:=[aG 29 5,aG 30 4,mR 31 30,rV 32 29 31]
def agF:List O:=[aG 35 4,aG 36 5,nK 37 1 35 36,fW 38 37,aG 39 4,aG 40 5,oo 41<|.bin .sub (.t 40) (ki 1),nK 42 1 39 41,fW 43 42,oo 44<|.bin .neq (.t 38) (.t 43)]
def aer:List O:=[aG 45 0,aG 46 3,aG 47 4,aG 48 5,nK 49 1 47 48,fW 50 49,nK 51 1 45 46,Bu 1 51 50]
def aeq:List O:=[aG 52 3,sa 53 52 1,aG 3 53]
def aep:List O:=[aG 33 5,sa 34 33 1,aG 5 34]
def ahh:C:=(.seq (bn agG [0,3,4,5,32] (sd 32 2)) (.seq (.aJ 3 (.seq (.rX agF true [(9,9),(3,4),(3,5),(3,6),(3,7),(0,8),(1,8),(2,8),(3,8)] [0,3,4,5,44]) (.cond (.t 44) (bn aer [0,3,4,5] (ke aeq [0,3,4,5])) .skip))) (ke aep [0,3,4,5])))
def aeo:List O:=[aG 54 0,aG 55 3,oo 56<|.EN 1 (.t 54) (some (.t 55)) none,oz<|.UC 1 [.int .i64 0] (.t 56)]
def aen:List O:=[aG 57 0,aG 58 3,oo 59<|.EN 1 (.t 57) none (some (.t 58)),aG 2 59]
def aem:List O:=[aG 14 3,sa 15 14 1,aG 3 15]
def ahg:C:=(.seq (bn agK [0,3,13] (sd 13 0)) (.seq (.aJ 1 (.seq (.rX agJ true [(9,9),(3,4),(3,5),(3,6),(3,7),(0,8),(1,8),(2,8),(3,8)] [0,3,25]) (.cond (.t 25) (bn agI [0,3,4] (.seq (bn agH [0,3,4,5] (.aJ 2 (.loop ahh))) (bn aeo [0,3] (bn aen [2] .ret)))) .skip))) (ke aem [0,3])))
def ael:List O:=[aG 60 0,aG 2 60]
def cQ9:C:=(bn agO [0] (.seq (bn agN [0,8] (.cond (.t 8) (bn agM [2] .ret) .skip)) (.seq (bn agL [0,3] (.aJ 0 (.loop ahg))) (bn ael [2] .ret))))
def qQ9:gH:=⟨61,1,[.t 2],cQ9⟩
abbrev Md:=Go.Bm.Md
abbrev dO:=Go.Bm.dO
def look:List (Nat × Md × gH)->Nat->Option (Md × gH)
 |[],_=>none
 |(j,m,q)::r,i=>if i=j then some (m,q) else look r i
def fns:List (Nat × Md × gH):=[
 (nQa,⟨false,false,true⟩,qQa),
 (nQb,⟨true,false,false⟩,qQb),
 (nQc,⟨true,false,false⟩,qQc),
 (nQd,⟨false,false,false⟩,qQd),
 (nQe,⟨false,false,false⟩,qQe),
 (nQf,⟨false,false,true⟩,qQf),
 (nQg,⟨false,false,false⟩,qQg),
 (nQh,⟨false,false,false⟩,qQh),
 (nQi,⟨false,false,true⟩,qQi),
 (nQj,⟨false,false,true⟩,qQj),
 (MV,⟨true,false,false⟩,qQk),
 (nQl,⟨true,true,false⟩,qQl),
 (nQm,⟨true,false,false⟩,qQm),
 (nQn,⟨false,false,true⟩,qQn),
 (nQo,⟨true,false,false⟩,qQo),
 (W7,⟨false,false,true⟩,qQp),
 (nQq,⟨false,false,false⟩,qQq),
 (nQr,⟨false,false,true⟩,qQr),
 (nQs,⟨false,false,false⟩,qQs),
 (nQt,⟨false,false,true⟩,qQt),
 (nQu,⟨false,false,false⟩,qQu),
 (nQv,⟨true,false,false⟩,qQv),
 (nQw,⟨true,false,false⟩,qQw),
 (nQx,⟨false,false,true⟩,qQx),
 (nQy,⟨false,false,true⟩,qQy),
 (nQz,⟨false,false,true⟩,qQz),
 (nQA,⟨false,false,true⟩,qQA),
 (nQB,⟨true,true,false⟩,qQB),
 (nQC,⟨false,false,false⟩,qQC),
 (nQD,⟨false,true,true⟩,qQD),
 (V6,⟨false,false,true⟩,qQE),
 (O6,⟨false,false,true⟩,qQF),
 (Lw,⟨false,false,true⟩,qQG),
 (Qn,⟨false,false,true⟩,qQH),
 (nQI,⟨false,false,true⟩,qQI),
 (nQJ,⟨false,false,false⟩,qQJ),
 (nQK,⟨false,false,true⟩,qQK),
 (nQL,⟨false,false,false⟩,qQL),
 (nQM,⟨false,false,true⟩,qQM),
 (nQN,⟨false,false,false⟩,qQN),
 (nQO,⟨false,false,false⟩,qQO),
 (nQP,⟨false,false,false⟩,qQP),
 (nQQ,⟨false,false,true⟩,qQQ),
 (nQR,⟨false,false,true⟩,qQR),
 (nQS,⟨false,false,true⟩,qQS),
 (nQT,⟨false,false,true⟩,qQT),
 (nQU,⟨false,false,true⟩,qQU),
 (nQV,⟨false,false,true⟩,qQV),
 (nQW,⟨false,false,false⟩,qQW),
 (O5,⟨false,false,true⟩,qQX),
 (Qm,⟨false,false,true⟩,qQY),
 (nQZ,⟨false,false,false⟩,qQZ),
 (nQ0,⟨false,false,true⟩,qQ0),
 (nQ1,⟨false,false,true⟩,qQ1),
 (nQ2,⟨false,false,true⟩,qQ2),
 (nQ3,⟨false,false,false⟩,qQ3),
 (nQ4,⟨false,false,false⟩,qQ4),
 (nQ5,⟨false,false,true⟩,qQ5),
 (nQ6,⟨false,true,true⟩,qQ6),
 (nQ7,⟨false,true,true⟩,qQ7),
 (nQ8,⟨false,false,true⟩,qQ8),
 (nQ9,⟨false,false,false⟩,qQ9)]
def YQ:Nat:=0
def LQ:List Int:=[0,1,56,2,57,49,28,3,61,58,42,50,38,29,17,4,62,47,59,36,45,43,51,22,53,39,33,30,24,18,12,5,63,55,48,27,60,41,37,16,46,35,44,21,52,32,23,11,54,26,40,15,34,20,31,10,25,14,19,9,13,8,7,6]
def tabA:List AV:=LQ.map (AV.int .u8)
def cfg:dO:=⟨look fns,fun i=>if i=YQ then tabA else[],fun _=>none,fun _=>none,fun _=>none,fun _=>false,fun _=>false,fun _=>none⟩
theorem kQa:cV aj Go.Proofs.Tryz.f3 qQa=true:=by kernel_rfl
theorem kQb:cV aj Go.Proofs.Tryz.f4 qQb=true:=by kernel_rfl
theorem kQc:cV aj Go.Proofs.Tryz.f5 qQc=true:=by kernel_rfl
theorem kQd:cV aj Go.Proofs.Tryz.f6 qQd=true:=by kernel_rfl
theorem kQe:cV aj Go.Proofs.Tryz.f7 qQe=true:=by kernel_rfl
theorem kQf:cV aj Go.Proofs.Tryz.f8 qQf=true:=by kernel_rfl
theorem kQg:cV aj Go.Proofs.Tryz.f9 qQg=true:=by kernel_rfl
theorem kQh:cV aj Go.Proofs.Tryz.f10 qQh=true:=by kernel_rfl
theorem kQi:cV aj Go.Proofs.Tryz.f11 qQi=true:=by kernel_rfl
theorem kQj:cV aj Go.Proofs.Tryz.f12 qQj=true:=by kernel_rfl
theorem kQk:cV aj Go.Proofs.Tryz.f13 qQk=true:=by kernel_rfl
theorem kQl:cV aj Go.Proofs.Tryz.f14 qQl=true:=by kernel_rfl
theorem kQm:cV aj Go.Proofs.Tryz.f15 qQm=true:=by kernel_rfl
theorem kQn:cV aj Go.Proofs.Tryz.f16 qQn=true:=by kernel_rfl
theorem kQo:cV aj Go.Proofs.Tryz.f17 qQo=true:=by kernel_rfl
theorem kQp:cV aj Go.Proofs.Tryz.f18 qQp=true:=by kernel_rfl
theorem kQq:cV aj Go.Proofs.Tryz.f19 qQq=true:=by kernel_rfl
theorem kQr:cV aj Go.Proofs.Tryz.f20 qQr=true:=by kernel_rfl
theorem kQs:cV aj Go.Proofs.Tryz.f21 qQs=true:=by kernel_rfl
theorem kQt:cV aj Go.Proofs.Tryz.f22 qQt=true:=by kernel_rfl
theorem kQu:cV aj Go.Proofs.Tryz.f23 qQu=true:=by kernel_rfl
theorem kQv:cV aj Go.Proofs.Tryz.f24 qQv=true:=by kernel_rfl
theorem kQw:cV aj Go.Proofs.Tryz.f25 qQw=true:=by kernel_rfl
theorem kQx:cV aj Go.Proofs.Tryz.f26 qQx=true:=by kernel_rfl
theorem kQy:cV aj Go.Proofs.Tryz.f27 qQy=true:=by kernel_rfl
theorem kQz:cV aj Go.Proofs.Tryz.f28 qQz=true:=by kernel_rfl
theorem kQA:cV aj Go.Proofs.Tryz.f29 qQA=true:=by kernel_rfl
theorem kQB:cV aj Go.Proofs.Tryz.f30 qQB=true:=by kernel_rfl
theorem kQC:cV aj Go.Proofs.Tryz.f31 qQC=true:=by kernel_rfl
theorem kQD:cV aj Go.Proofs.Tryz.f32 qQD=true:=by kernel_rfl
theorem kQE:cV aj Go.Proofs.Tryz.f33 qQE=true:=by kernel_rfl
theorem kQF:cV aj Go.Proofs.Tryz.f34 qQF=true:=by kernel_rfl
theorem kQG:cV aj Go.Proofs.Tryz.f35 qQG=true:=by kernel_rfl
theorem kQH:cV aj Go.Proofs.Tryz.f36 qQH=true:=by kernel_rfl
theorem kQI:cV aj Go.Proofs.Tryz.f37 qQI=true:=by kernel_rfl
theorem kQJ:cV aj Go.Proofs.Tryz.f38 qQJ=true:=by kernel_rfl
theorem kQK:cV aj Go.Proofs.Tryz.f39 qQK=true:=by kernel_rfl
theorem kQL:cV aj Go.Proofs.Tryz.f40 qQL=true:=by kernel_rfl
theorem kQM:cV aj Go.Proofs.Tryz.f41 qQM=true:=by kernel_rfl
theorem kQN:cV aj Go.Proofs.Tryz.f42 qQN=true:=by kernel_rfl
theorem kQO:cV aj Go.Proofs.Tryz.f43 qQO=true:=by kernel_rfl
theorem kQP:cV aj Go.Proofs.Tryz.f44 qQP=true:=by kernel_rfl
theorem kQQ:cV aj Go.Proofs.Tryz.f45 qQQ=true:=by kernel_rfl
theorem kQR:cV aj Go.Proofs.Tryz.f46 qQR=true:=by kernel_rfl
theorem kQS:cV aj Go.Proofs.Tryz.f47 qQS=true:=by kernel_rfl
theorem kQT:cV aj Go.Proofs.Tryz.f48 qQT=true:=by kernel_rfl
theorem kQU:cV aj Go.Proofs.Tryz.f49 qQU=true:=by kernel_rfl
theorem kQV:cV aj Go.Proofs.Tryz.f50 qQV=true:=by kernel_rfl
theorem kQW:cV aj Go.Proofs.Tryz.f51 qQW=true:=by kernel_rfl
theorem kQX:cV aj Go.Proofs.Tryz.f54 qQX=true:=by kernel_rfl
theorem kQY:cV aj Go.Proofs.Tryz.f55 qQY=true:=by kernel_rfl
theorem kQZ:cV aj Go.Proofs.Tryz.f56 qQZ=true:=by kernel_rfl
theorem kQ0:cV aj Go.Proofs.Tryz.f57 qQ0=true:=by kernel_rfl
theorem kQ1:cV aj Go.Proofs.Tryz.f58 qQ1=true:=by kernel_rfl
theorem kQ2:cV aj Go.Proofs.Tryz.f59 qQ2=true:=by kernel_rfl
theorem kQ3:cV aj Go.Proofs.Tryz.f60 qQ3=true:=by kernel_rfl
theorem kQ4:cV aj Go.Proofs.Tryz.f71 qQ4=true:=by kernel_rfl
theorem kQ5:cV aj Go.Proofs.Tryz.f72 qQ5=true:=by kernel_rfl
theorem kQ6:cV aj Go.Proofs.Tryz.f73 qQ6=true:=by kernel_rfl
theorem kQ7:cV aj Go.Proofs.Tryz.f79 qQ7=true:=by kernel_rfl
theorem kQ8:cV aj Go.Proofs.Tryz.f80 qQ8=true:=by kernel_rfl
theorem kQ9:cV aj Go.Proofs.Tryz.f81 qQ9=true:=by kernel_rfl
theorem Ng:∀{l:List (Nat × Md × gH)} {f:Nat} {m:Md} {q:gH},look l f=some (m,q)->(f,m,q)∈l
 |[],f,m,q,h=>by simp[look] at h
 |(j,m',q')::r,f,m,q,h=>by
   unfold look at h;split at h
   ·rename_i he; subst he; simp at h; obtain⟨rfl,rfl⟩:=h; simp
   ·exact List.mem_cons_of_mem _ (Ng h)
def Good (p:Nat × Md × gH):Prop:=∃fn,aj.funcs[p.1]?=some fn/\cV aj fn p.2.2=true
def All (G:Nat × Md × gH->Prop):List (Nat × Md × gH)->Prop
 |[]=>True
 |p::r=>G p/\All G r
theorem All.get {G:Nat × Md × gH->Prop}:∀{l:List (Nat × Md × gH)},All G l->∀p∈l,G p
 |[],_,p,h=>by simp at h
 |q::r,h,p,hp=>by
   rcases List.mem_cons.1 hp with e|e
   ·subst e; exact h.1
   ·exact All.get h.2 p e
theorem acH:All Good fns:=⟨⟨_,Go.Proofs.Tryz.func3,kQa⟩,⟨_,Go.Proofs.Tryz.func4,kQb⟩,⟨_,Go.Proofs.Tryz.func5,kQc⟩,⟨_,Go.Proofs.Tryz.func6,kQd⟩,⟨_,Go.Proofs.Tryz.func7,kQe⟩,⟨_,Go.Proofs.Tryz.func8,kQf⟩,⟨_,Go.Proofs.Tryz.func9,kQg⟩,⟨_,Go.Proofs.Tryz.func10,kQh⟩,⟨_,Go.Proofs.Tryz.func11,kQi⟩,⟨_,Go.Proofs.Tryz.func12,kQj⟩,⟨_,Go.Proofs.Tryz.func13,kQk⟩,⟨_,Go.Proofs.Tryz.func14,kQl⟩,⟨_,Go.Proofs.Tryz.func15,kQm⟩,⟨_,Go.Proofs.Tryz.func16,kQn⟩,⟨_,Go.Proofs.Tryz.func17,kQo⟩,⟨_,Go.Proofs.Tryz.func18,kQp⟩,⟨_,Go.Proofs.Tryz.func19,kQq⟩,⟨_,Go.Proofs.Tryz.func20,kQr⟩,⟨_,Go.Proofs.Tryz.func21,kQs⟩,⟨_,Go.Proofs.Tryz.func22,kQt⟩,⟨_,Go.Proofs.Tryz.func23,kQu⟩,⟨_,Go.Proofs.Tryz.func24,kQv⟩,⟨_,Go.Proofs.Tryz.func25,kQw⟩,⟨_,Go.Proofs.Tryz.func26,kQx⟩,⟨_,Go.Proofs.Tryz.func27,kQy⟩,⟨_,Go.Proofs.Tryz.func28,kQz⟩,⟨_,Go.Proofs.Tryz.func29,kQA⟩,⟨_,Go.Proofs.Tryz.func30,kQB⟩,⟨_,Go.Proofs.Tryz.func31,kQC⟩,⟨_,VE,kQD⟩,⟨_,VD,kQE⟩,⟨_,Go.Proofs.Tryz.func34,kQF⟩,⟨_,Go.Proofs.Tryz.func35,kQG⟩,⟨_,Go.Proofs.Tryz.func36,kQH⟩,⟨_,Go.Proofs.Tryz.func37,kQI⟩,⟨_,Go.Proofs.Tryz.func38,kQJ⟩,⟨_,Go.Proofs.Tryz.func39,kQK⟩,⟨_,Go.Proofs.Tryz.func40,kQL⟩,⟨_,Go.Proofs.Tryz.func41,kQM⟩,⟨_,Go.Proofs.Tryz.func42,kQN⟩,⟨_,Go.Proofs.Tryz.func43,kQO⟩,⟨_,Go.Proofs.Tryz.func44,kQP⟩,⟨_,Go.Proofs.Tryz.func45,kQQ⟩,⟨_,Go.Proofs.Tryz.func46,kQR⟩,⟨_,Go.Proofs.Tryz.func47,kQS⟩,⟨_,Go.Proofs.Tryz.func48,kQT⟩,⟨_,Go.Proofs.Tryz.func49,kQU⟩,⟨_,Go.Proofs.Tryz.func50,kQV⟩,⟨_,Go.Proofs.Tryz.func51,kQW⟩,⟨_,VB,kQX⟩,⟨_,Go.Proofs.Tryz.func55,kQY⟩,⟨_,Go.Proofs.Tryz.func56,kQZ⟩,⟨_,VA,kQ0⟩,⟨_,Go.Proofs.Tryz.func58,kQ1⟩,⟨_,Go.Proofs.Tryz.func59,kQ2⟩,⟨_,Go.Proofs.Tryz.func60,kQ3⟩,⟨_,Go.Proofs.Tryz.func71,kQ4⟩,⟨_,Go.Proofs.Tryz.func72,kQ5⟩,⟨_,Vy,kQ6⟩,⟨_,Go.Proofs.Tryz.func79,kQ7⟩,⟨_,Vu,kQ8⟩,⟨_,Vt,kQ9⟩,trivial⟩
theorem UH:eR aj cfg:=⟨by kernel_rfl,fun f m q h=>acH.get _ (Ng h)⟩
theorem gQE:cfg.fn V6=some (⟨false,false,true⟩,qQE):=rfl
theorem gQF:cfg.fn O6=some (⟨false,false,true⟩,qQF):=rfl
theorem gQG:cfg.fn Lw=some (⟨false,false,true⟩,qQG):=rfl
theorem gQH:cfg.fn Qn=some (⟨false,false,true⟩,qQH):=rfl
theorem gQX:cfg.fn O5=some (⟨false,false,true⟩,qQX):=rfl
theorem gQY:cfg.fn Qm=some (⟨false,false,true⟩,qQY):=rfl
end Go.BmP
