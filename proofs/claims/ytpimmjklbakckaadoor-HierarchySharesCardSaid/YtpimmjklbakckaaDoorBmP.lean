/- The compact code of the functions, printed by program off the translation. -/
import Derived.Test.YtpimmjklbakckaaDoorChecked
import Derived.Test.YtpimmjklbakckaaDoorBmA
import Derived.KernelRfl
set_option maxRecDepth 100000
open Go.Proofs.Tryd renaming func30 → S6, func31 → S5, func49 → S0, func52 → SZ, func68 → SX, func75 → SS, func76 → SR, prog → ak
namespace Go.BmP
open Go.Am Go.Bm
abbrev oo (d:Nat) (x:Kd):O:=⟨some d,none,x⟩
abbrev gf (d g:Nat) (k:Kd):O:=⟨some d,some (g,false),k⟩
abbrev gt (d g:Nat) (k:Kd):O:=⟨some d,some (g,true),k⟩
abbrev oz (x:Kd):O:=⟨none,none,x⟩
abbrev ki (n:Nat):E:=.k (.int .i64 n)
abbrev aH (d a:Nat):O:=⟨some d,none,.mv (.t a)⟩
abbrev iI (d a:Nat):O:=⟨some d,none,.ld none (.t a)⟩
abbrev kc (d n:Nat):O:=⟨some d,none,.mv (.k (.int .i64 n))⟩
abbrev rm (d k a b:Nat):O:=⟨some d,none,.tH k (.t a) (.t b)⟩
abbrev tf (d k a:Nat):O:=⟨some d,none,.Aa k (.t a)⟩
abbrev re (d a:Nat):O:=⟨some d,none,.len (.t a)⟩
abbrev R8 (d k a:Nat):O:=⟨some d,none,.ld (some k) (.t a)⟩
abbrev xB (d a n:Nat):O:=⟨some d,none,.bin .add (.t a) (.k (.int .i64 n))⟩
abbrev yW (d a b:Nat):O:=⟨some d,none,.bin .lss (.t a) (.t b)⟩
abbrev Ag (d k:Nat):O:=⟨some d,none,.mv (.k (.own k []))⟩
abbrev rl (d f a:Nat):O:=⟨some d,none,.call f [.t a]⟩
abbrev Bq (d f a b:Nat):O:=⟨some d,none,.call f [.t a,.t b]⟩
abbrev Ue (d k a:Nat):O:=⟨some d,none,.ext k (.t a)⟩
abbrev CM (d g a:Nat):O:=⟨some d,some (g,false),.mv (.t a)⟩
abbrev vZ (d g a:Nat):O:=⟨some d,some (g,true),.mv (.t a)⟩
abbrev CL (k a b:Nat):O:=⟨none,none,.st k (.t a) (.t b)⟩
abbrev OD (d:Nat) (b:Bool):O:=⟨some d,none,.mv (.k (.bool b))⟩
abbrev Jx (d a:Nat):O:=⟨some d,none,.box (.t a)⟩
abbrev Ud (d a b:Nat):O:=⟨some d,none,.pick (.t a) (.k (.bool true)) (.t b)⟩
abbrev CK (d a b:Nat):O:=⟨some d,none,.pick (.t a) (.t b) (.k (.bool false))⟩
abbrev ML (d g a:Nat):O:=⟨some d,some (g,false),.ld none (.t a)⟩
abbrev CJ (d g a:Nat):O:=⟨some d,some (g,true),.ld none (.t a)⟩
abbrev Uy (d k a b:Nat):O:=⟨some d,none,.app k (.t a) (.t b)⟩
abbrev Uc (d g k a:Nat):O:=⟨some d,some (g,false),.Aa k (.t a)⟩
abbrev bzY (d a n:Nat):O:=⟨some d,none,.bin .neq (.t a) (.k (.int .i64 n))⟩
abbrev OC (d a n:Nat):O:=⟨some d,none,.bin .lss (.t a) (.k (.int .i64 n))⟩
abbrev bE (r:List O) (l:List Nat) (x:C):C:=.seq (.rW r false [] l) x
abbrev qh (r:List O) (l:List Nat):C:=.rW r false [] l
abbrev xS (g e:Nat):C:=.cond (.t g) .skip (.exit e)
def nQa:Nat:=3
def nQb:Nat:=4
def nQc:Nat:=5
def Yc:Nat:=6
def Zl:Nat:=7
def It:Nat:=8
def nQg:Nat:=9
def nQh:Nat:=10
def nQi:Nat:=11
def nQj:Nat:=12
def nQk:Nat:=13
def nQl:Nat:=14
def nQm:Nat:=15
def nQn:Nat:=16
def nQo:Nat:=17
def Uq:Nat:=18
def nQq:Nat:=19
def nQr:Nat:=20
def nQs:Nat:=21
def nQt:Nat:=22
def nQu:Nat:=23
def nQv:Nat:=24
def nQw:Nat:=25
def nQx:Nat:=26
def nQy:Nat:=27
def nQz:Nat:=28
def nQA:Nat:=29
def nQB:Nat:=30
def Ts:Nat:=31
def MC:Nat:=32
def Jp:Nat:=33
def NF:Nat:=34
def nQG:Nat:=35
def nQH:Nat:=36
def nQI:Nat:=37
def nQJ:Nat:=38
def nQK:Nat:=39
def nQL:Nat:=40
def nQM:Nat:=41
def nQN:Nat:=42
def nQO:Nat:=43
def nQP:Nat:=44
def nQQ:Nat:=45
def nQR:Nat:=46
def MB:Nat:=49
def ND:Nat:=50
def nQU:Nat:=51
def nQV:Nat:=52
def nQW:Nat:=53
def nQX:Nat:=54
def nQY:Nat:=55
def nQZ:Nat:=66
def nQ0:Nat:=67
def nQ1:Nat:=68
def Yd:Nat:=74
def nQ3:Nat:=75
def nQ4:Nat:=76
def P5:List O:=[OD 2 false]
def P4:List O:=[aH 13 0,rl 14 nQb 13,aH 3 14]
def P3:List O:=[aH 15 3,oo 16<|.call nQc [.t 15,ki 9],oo 4<|.new [.int .i64 0,.own 2 []],CL 2 4 16]
def P0:List O:=[R8 18 2 4,rl 19 Yc 18,aH 17 19,Ue 20 0 17,Ue 21 1 17,aH 5 20,aH 6 21]
def PZ:List O:=[aH 22 6,bzY 23 22 0]
def PY:List O:=[OD 2 false]
def PX:List O:=[tf 24 0 4,iI 25 24,oo 26<|.bin .eql (.t 25) (ki 0)]
def PW:List O:=[aH 27 5,re 28 27,oo 29<|.bin .eql (.t 28) (ki 0),aH 30 29,gt 31 30<|.call Zl [],CK 32 30 31,aH 2 32]
def PV:List O:=[aH 33 3,tf 34 0 4,iI 35 34,Bq 36 It 33 35,aH 37 3,tf 38 0 4,iI 39 38,Bq 40 It 37 39,aH 7 36,aH 8 40]
def PU:List O:=[aH 41 5,aH 42 7,aH 43 8,oo 44<|.call nQg [.t 41,.t 42,.t 43],aH 9 44]
def Ic:List O:=[aH 45 5,aH 46 5,aH 47 7,oo 48<|.call nQi [.t 46,.t 47,ki 64],Bq 49 nQh 45 48,aH 50 5,aH 51 5,aH 52 8,oo 53<|.call nQi [.t 51,.t 52,ki 64],Bq 54 nQh 50 53,aH 10 49,aH 11 54]
def Ib:List O:=[aH 55 10,aH 56 11,Bq 57 nQj 55 56,aH 12 57]
def Ia:List O:=[aH 58 9,OC 59 58 0]
def H9:List O:=[aH 60 12,re 61 60,oo 62<|.bin .eql (.t 61) (ki 0),aH 63 62,gt 64 63<|.call Zl [],CK 65 63 64,aH 2 65]
def H8:List O:=[aH 66 12,aH 67 9,Bq 68 nQk 66 67,aH 69 68,vZ 70 69 12,vZ 71 69 12,gt 72 69<|.len (.t 71),gt 73 69<|.bin .sub (.t 72) (ki 1),gt 74 69<|.tH 1 (.t 70) (.t 73),CJ 75 69 74,vZ 76 69 9,gt 77 69<|.bin .eql (.t 75) (.t 76),CK 78 69 77,aH 79 78,gt 80 79<|.call Zl [],CK 81 79 80,aH 2 81]
def cQa:C:=(bE P5 [0] (bE P4 [3] (bE P3 [3,4] (bE P0 [3,4,5,6] (.seq (bE PZ [3,4,5,23] (.cond (.t 23) (bE PY [2] .ret) .skip)) (.seq (bE PX [3,4,5,26] (.cond (.t 26) (bE PW [2] .ret) .skip)) (.seq (.rW PV true [(7,7),(8,8),(9,9),(0,2),(2,4),(3,4),(2,5),(3,5),(0,6),(1,6),(2,6),(3,6),(4,6)] [5,7,8]) (bE PU [5,7,8,9] (bE Ic [9,10,11] (bE Ib [9,12] (.seq (bE Ia [9,12,59] (.cond (.t 59) (bE H9 [2] .ret) .skip)) (bE H8 [2] .ret))))))))))))
def qQa:gR:=⟨82,1,[.t 2],cQa⟩
def abm:List O:=[oo 2<|.mv (.k .fg)]
def abl:List O:=[aH 3 0,oo 4<|.build [.own 1 [],.int .i64 0] [(0,1,.t 3)],Jx 5 4,aH 2 5]
def cQb:C:=(bE abm [0] (bE abl [2] .ret))
def qQb:gR:=⟨6,1,[.t 2],cQb⟩
def BL:List O:=[oo 4<|.new [.int .i64 0,.own 2 []]]
def BK:List O:=[aH 9 0,aH 10 1,xB 11 10 1,Bq 12 It 9 11,oo 13<|.build [.int .i64 0,.own 2 []] [(0,1,.t 12)],oo 5<|.new [.int .i64 0,.own 2 []],CL 2 5 13]
def BJ:List O:=[tf 14 0 5,iI 15 14,OC 16 15 4]
def BI:List O:=[aH 17 1,tf 18 0 5,iI 19 18,aH 20 0,aH 21 1,xB 22 21 1,Bq 23 It 20 22,oo 24<|.bin .add (.t 19) (.t 23),oo 25<|.min [.t 17,.t 24],tf 26 0 5,CL 1 26 25]
def BH:List O:=[aH 27 0,oo 28<|.call It [.t 27,ki 4],oo 29<|.bin .add (ki 1) (.t 28),aH 6 29]
def BG:List O:=[kc 7 0]
def BF:List O:=[aH 30 7,tf 31 0 5,iI 32 31,yW 33 30 32]
def BE:List O:=[aH 36 7,xB 37 36 1,aH 8 37]
def BD:List O:=[aH 38 8,tf 39 0 5,iI 40 39,yW 41 38 40]
def BC:List O:=[aH 44 0,oo 45<|.call It [.t 44,ki 5],aH 46 6,oo 47<|.bin .sub (ki 5) (.t 46),oo 48<|.bin .geq (.t 45) (.t 47)]
def vo:List O:=[tf 49 1 5,iI 50 49,aH 51 7,aH 52 8,oo 53<|.build [.int .i64 0,.int .i64 0] [(0,1,.t 51),(1,1,.t 52)],oo 54<|.eL 2 1 [.int .i64 0,.int .i64 0] [(0,2,.t 53)],Uy 55 2 50 54,tf 56 1 5,CL 1 56 55]
def vm:List O:=[aH 42 8,xB 43 42 1,aH 8 43]
def En:C:=(.seq (bE BD [0,4,5,6,7,8,41] (xS 41 2)) (.seq (.aN 3 (bE BC [0,4,5,6,7,8,48] (.cond (.t 48) (qh vo [0,4,5,6,7,8]) .skip))) (qh vm [0,4,5,6,7,8])))
def vl:List O:=[aH 34 7,xB 35 34 1,aH 7 35]
def K6:C:=(.seq (bE BF [0,4,5,6,7,33] (xS 33 0)) (.seq (.aN 1 (bE BE [0,4,5,6,7,8] (.aN 2 (.loop En)))) (qh vl [0,4,5,6,7])))
def vk:List O:=[R8 57 2 5,CL 2 4 57]
def cQc:C:=(bE BL [0,1,4] (bE BK [0,1,4,5] (.seq (bE BJ [0,1,4,5,16] (.cond (.t 16) (.rW BI true [(8,8),(9,9),(10,10),(0,2),(2,3),(2,4),(2,5),(0,6),(1,6),(2,6)] [0,4,5]) .skip)) (bE BH [0,4,5,6] (.seq (bE BG [0,4,5,6,7] (.aN 0 (.loop K6))) (bE vk [4] .ret))))))
def qQc:gR:=⟨58,2,[.c 4 (some 2)],cQc⟩
def abk:List O:=[Jx 1 0,Ag 2 3,kc 3 0]
def abj:List O:=[R8 7 2 1,rl 8 nQl 7,aH 6 8,Ue 9 0 6,Ue 10 1 6,oo 4<|.new [.own 1 []],CL 1 4 9,aH 5 10]
def abi:List O:=[aH 11 5,bzY 12 11 0,aH 13 12,ML 14 13 4,gf 15 13<|.len (.t 14),gf 16 13<|.bin .eql (.t 15) (ki 0),Ud 17 13 16]
def abh:List O:=[aH 18 5,Ag 2 3,aH 3 18]
def abg:List O:=[iI 19 4,rl 20 nQn 19,oo 21<|.KJ (.func nQo) [] [.t 4,.t 1],Bq 22 nQm 20 21,aH 2 22,kc 3 0]
def cQd:C:=(bE abk [1] (bE abj [1,4,5] (.seq (bE abi [1,4,5,17] (.cond (.t 17) (bE abh [2,3] .ret) .skip)) (bE abg [2,3] .ret))))
def qQd:gR:=⟨23,1,[.t 2,.t 3],cQd⟩
def aeD:List O:=[OD 0 false]
def aeC:List O:=[oo 4<|.build [.int .i64 0,.int .i64 0] [(0,1,ki 0),(1,1,ki 1)],oo 5<|.build [.int .i64 0,.int .i64 0] [(0,1,ki 0),(1,1,ki 2)],oo 6<|.build [.int .i64 0,.int .i64 0] [(0,1,ki 1),(1,1,ki 2)],oo 7<|.build [.int .i64 0,.int .i64 0] [(0,1,ki 2),(1,1,ki 3)],oo 8<|.eL 2 4 [.int .i64 0,.int .i64 0] [(0,2,.t 4),(2,2,.t 5),(4,2,.t 6),(6,2,.t 7)],oo 9<|.build [.int .i64 0,.own 2 []] [(0,1,ki 4),(1,1,.t 8)],oo 1<|.new [.int .i64 0,.own 2 []],CL 2 1 9]
def aeB:List O:=[R8 11 2 1,rl 12 Yc 11,aH 10 12,Ue 13 0 10,Ue 14 1 10,aH 2 13,aH 3 14]
def aeA:List O:=[aH 15 3,oo 16<|.bin .eql (.t 15) (ki 0),aH 17 16,vZ 18 17 2,gt 19 17<|.len (.t 18),gt 20 17<|.bin .eql (.t 19) (ki 2),CK 21 17 20,aH 22 21,vZ 23 22 2,gt 24 22<|.tH 3 (.t 23) (ki 0),gt 25 22<|.Aa 0 (.t 24),CJ 26 22 25,gt 27 22<|.bin .eql (.t 26) (ki 1),CK 28 22 27,aH 29 28,vZ 30 29 2,gt 31 29<|.tH 3 (.t 30) (ki 0),gt 32 29<|.Aa 1 (.t 31),CJ 33 29 32,gt 34 29<|.bin .eql (.t 33) (.k (.int .i64 (-1))),CK 35 29 34,aH 36 35,vZ 37 36 2,gt 38 36<|.tH 3 (.t 37) (ki 1),gt 39 36<|.Aa 2 (.t 38),CJ 40 36 39,gt 41 36<|.eL 1 3 [.int .i64 0] [(0,1,ki 0),(1,1,ki 1),(2,1,ki 2)],gt 42 36<|.call nQr [.t 40,.t 41],CK 43 36 42,aH 44 43,vZ 45 44 2,gt 46 44<|.tH 3 (.t 45) (ki 1),gt 47 44<|.Aa 0 (.t 46),CJ 48 44 47,gt 49 44<|.bin .eql (.t 48) (ki 2),CK 50 44 49,aH 51 50,vZ 52 51 2,gt 53 51<|.tH 3 (.t 52) (ki 1),gt 54 51<|.Aa 1 (.t 53),CJ 55 51 54,gt 56 51<|.bin .eql (.t 55) (ki 0),CK 57 51 56,aH 58 57,vZ 59 58 2,gt 60 58<|.call nQi [.t 59,ki 3,ki 9],gt 61 58<|.bin .eql (.t 60) (ki 0),CK 62 58 61,aH 0 62]
def cQe:C:=(bE aeD [] (bE aeC [1] (bE aeB [2,3] (bE aeA [0] .ret))))
def qQe:gR:=⟨63,0,[.t 0],cQe⟩
def PT:List O:=[kc 4 0]
def PS:List O:=[aH 6 1,OC 7 6 1,aH 8 7,CM 9 8 0,gf 10 8<|.mA (.t 9),Uc 11 8 1 10,ML 12 8 11,CM 13 8 0,gf 14 8<|.mA (.t 13),Uc 15 8 0 14,ML 16 8 15,gf 17 8<|.len (.t 16),gf 18 8<|.bin .geq (.t 12) (.t 17),Ud 19 8 18]
def PR:List O:=[kc 4 0]
def PQ:List O:=[aH 20 0,oo 21<|.mA (.t 20),tf 22 0 21,iI 23 22,aH 24 0,oo 25<|.mA (.t 24),tf 26 1 25,iI 27 26,rm 28 1 23 27,iI 29 28,aH 5 29]
def PO:List O:=[aH 30 0,oo 31<|.mA (.t 30),tf 32 1 31,iI 33 32,xB 34 33 1,oo 35<|.mA (.t 30),tf 36 1 35,CL 1 36 34]
def PN:List O:=[aH 37 5,aH 38 1,Bq 39 nQs 37 38,aH 4 39]
def cQf:C:=(bE PT [0,1] (.seq (.seq (.rW PS true [(0,0),(1,1),(2,2),(12,12),(13,13),(6,7),(6,8),(6,9),(3,10),(4,10),(5,10),(6,10),(6,11)] [0,1,19]) (.cond (.t 19) (bE PR [4] .ret) .skip)) (.seq (.rW PQ true [(8,8),(9,9),(10,10),(3,4),(3,5),(3,6),(0,7),(1,7),(2,7),(3,7)] [0,1,5]) (bE PO [1,5] (bE PN [4] .ret)))))
def qQf:gR:=⟨40,2,[.t 4],cQf⟩
def abf:List O:=[Jx 4 1,Jx 5 2,kc 6 0]
def abe:List O:=[aH 7 0,oo 8<|.KJ (.func nQu) [] [.t 4,.t 5],Bq 9 nQt 7 8,aH 6 9]
def cQg:C:=(bE abf [0,4,5] (bE abe [6] .ret))
def qQg:gR:=⟨10,3,[.t 6],cQg⟩
def Kh:List O:=[Ag 4 1]
def Kg:List O:=[Ag 5 1]
def Kf:List O:=[aH 7 1,OC 8 7 0,aH 9 8,CM 10 9 1,CM 11 9 0,gf 12 9<|.len (.t 11),gf 13 9<|.bin .geq (.t 10) (.t 12),Ud 14 9 13]
def Ke:List O:=[Ag 4 1]
def Kc:List O:=[aH 15 5,aH 16 1,oo 17<|.eL 1 1 [.int .i64 0] [(0,1,.t 16)],Uy 18 1 15 17,aH 5 18]
def Kb:List O:=[aH 19 0,aH 20 1,rm 21 3 19 20,tf 22 1 21,iI 23 22,aH 6 23]
def Ka:List O:=[aH 24 6,OC 25 24 0,aH 26 25,CM 27 26 6,CM 28 26 1,gf 29 26<|.bin .geq (.t 27) (.t 28),Ud 30 26 29]
def J9:List O:=[aH 31 5,aH 4 31]
def J8:List O:=[aH 32 6,aH 1 32]
def Rw:C:=(.aN 1 (bE Kc [0,1,5] (bE Kb [0,1,5,6] (.seq (bE Ka [0,5,6,30] (.cond (.t 30) (bE J9 [4] .ret) .skip)) (qh J8 [0,1,5])))))
def cQh:C:=(bE Kh [0,1] (bE Kg [0,1,5] (.seq (bE Kf [0,1,5,14] (.cond (.t 14) (bE Ke [4] .ret) .skip)) (.aN 0 (.loop Rw)))))
def qQh:gR:=⟨33,2,[.t 4],cQh⟩
def abd:List O:=[Jx 4 1,Jx 5 2,kc 6 0]
def abc:List O:=[aH 7 0,oo 8<|.KJ (.func nQw) [] [.t 5,.t 4],Bq 9 nQt 7 8,aH 6 9]
def cQi:C:=(bE abd [0,4,5] (bE abc [6] .ret))
def qQi:gR:=⟨10,3,[.t 6],cQi⟩
def J7:List O:=[Ag 4 1]
def J6:List O:=[Ag 5 1]
def J5:List O:=[aH 8 0,rl 9 nQx 8,re 10 9,kc 11 0]
def J4:List O:=[yW 12 11 10]
def J3:List O:=[rm 13 1 9 11,iI 14 13,aH 7 14]
def J2:List O:=[aH 15 1,aH 16 7,Bq 17 nQk 15 16]
def J1:List O:=[aH 18 5,aH 19 7,oo 20<|.eL 1 1 [.int .i64 0] [(0,1,.t 19)],Uy 21 1 18 20,aH 5 21]
def J0:List O:=[xB 22 11 1,aH 11 22]
def K5:C:=(bE J4 [1,5,9,10,11,12] (.seq (xS 12 0) (.seq (.aN 1 (bE J3 [1,5,7,9,10,11] (bE J2 [1,5,7,9,10,11,17] (.cond (.t 17) (qh J1 [1,5,9,10,11]) .skip)))) (qh J0 [1,5,9,10,11]))))
def JZ:List O:=[aH 23 5,aH 4 23]
def cQj:C:=(bE J7 [0,1] (bE J6 [0,1,5] (.seq (bE J5 [1,5,9,10,11] (.aN 0 (.loop K5))) (bE JZ [4] .ret))))
def qQj:gR:=⟨24,2,[.t 4],cQj⟩
def Gx:List O:=[OD 4 false]
def Gw:List O:=[aH 7 0,re 8 7,kc 9 0]
def Gv:List O:=[yW 10 9 8]
def Gu:List O:=[rm 11 1 7 9,iI 12 11,aH 6 12]
def Gt:List O:=[aH 13 6,aH 14 1,oo 15<|.bin .eql (.t 13) (.t 14)]
def Gs:List O:=[OD 4 true]
def Gr:List O:=[xB 16 9 1,aH 9 16]
def K4:C:=(bE Gv [1,7,8,9,10] (.seq (xS 10 0) (.seq (.aN 1 (bE Gu [1,6,7,8,9] (bE Gt [1,7,8,9,15] (.cond (.t 15) (bE Gs [4] .ret) .skip)))) (qh Gr [1,7,8,9]))))
def Gq:List O:=[OD 4 false]
def cQk:C:=(bE Gx [0,1] (.seq (bE Gw [1,7,8,9] (.aN 0 (.loop K4))) (bE Gq [4] .ret)))
def qQk:gR:=⟨17,2,[.t 4],cQk⟩
def abb:List O:=[Jx 1 0,Ag 2 1,kc 3 0]
def aba:List O:=[R8 7 2 1,rl 8 nQy 7,aH 4 8]
def aa9:List O:=[aH 9 4,bzY 10 9 0]
def aa8:List O:=[aH 11 4,Ag 2 1,aH 3 11]
def aa7:List O:=[R8 13 2 1,rl 14 nQz 13,aH 12 14,Ue 15 0 12,Ue 16 1 12,aH 5 15,aH 6 16]
def aa6:List O:=[aH 17 6,aH 2 17,kc 3 0]
def cQl:C:=(bE abb [1] (.seq (bE aba [1,4] (bE aa9 [1,4,10] (.cond (.t 10) (bE aa8 [2,3] .ret) .skip))) (bE aa7 [6] (bE aa6 [2,3] .ret))))
def qQl:gR:=⟨18,1,[.t 2,.t 3],cQl⟩
def oC:List O:=[Ag 4 3]
def oB:List O:=[oo 15<|.AO,aH 5 15]
def oA:List O:=[Ag 6 3]
def ox:List O:=[aH 16 0,xB 17 16 1,kc 18 0]
def ot:List O:=[yW 19 18 17]
def oq:List O:=[aH 20 18,aH 7 20]
def om:List O:=[aH 21 1,aH 22 7,oo 23<|.iR (.t 21) [.t 22],re 24 23,kc 25 0]
def oi:List O:=[yW 26 25 24]
def oh:List O:=[rm 27 1 23 25,iI 28 27,aH 9 28]
def oe:List O:=[aH 30 5,aH 31 9,rl 32 nQA 31,oo 33<|.xz .yE true (.int .i64 0) (.t 30) (.t 32),aH 29 33,Ue 34 0 29,Ue 35 1 29,aH 10 34,aH 11 35]
def jA:List O:=[aH 36 11,oo 37<|.un .not (.t 36)]
def jz:List O:=[aH 38 6,aH 39 9,oo 40<|.build [.int .i64 0,.int .i64 0,.own 1 []] [(1,1,.k (.int .i64 (-1))),(2,1,.t 39)],oo 41<|.eL 3 1 [.int .i64 0,.int .i64 0,.own 1 []] [(0,3,.t 40)],Uy 42 3 38 41,aH 6 42]
def jy:List O:=[aH 43 5,aH 44 9,rl 45 nQA 44,aH 46 7,oz<|.yu .yE (.t 43) (.t 45) (.t 46)]
def jx:List O:=[xB 47 25 1,aH 25 47]
def Em:C:=(bE oi [1,5,6,7,17,18,23,24,25,26] (.seq (xS 26 2) (.seq (.aN 3 (bE oh [1,5,6,7,9,17,18,23,24,25] (.seq (bE oe [1,5,6,7,9,11,17,18,23,24,25] (bE jA [1,5,6,7,9,17,18,23,24,25,37] (.cond (.t 37) (qh jz [1,5,6,7,9,17,18,23,24,25]) .skip))) (qh jy [1,5,6,7,17,18,23,24,25])))) (qh jx [1,5,6,7,17,18,23,24,25]))))
def jw:List O:=[xB 48 18 1,aH 18 48]
def G0:C:=(bE ot [1,5,6,17,18,19] (.seq (xS 19 0) (.seq (.aN 1 (bE oq [1,5,6,7,17,18] (bE om [1,5,6,7,17,18,23,24,25] (.aN 2 (.loop Em))))) (qh jw [1,5,6,17,18]))))
def jv:List O:=[aH 49 6,re 50 49,kc 51 0]
def ju:List O:=[yW 52 51 50]
def jt:List O:=[aH 53 51,aH 12 53]
def js:List O:=[aH 54 6,aH 55 12,aH 56 5,aH 57 6,aH 58 12,rm 59 3 57 58,tf 60 2 59,iI 61 60,rl 62 nQA 61,oo 63<|.xz .yE false (.int .i64 0) (.t 56) (.t 62),rm 64 3 54 55,tf 65 0 64,CL 1 65 63]
def jr:List O:=[xB 66 51 1,aH 51 66]
def K3:C:=(bE ju [5,6,50,51,52] (.seq (xS 52 4) (.seq (.aN 5 (bE jt [5,6,12,50,51] (qh js [5,6,50,51]))) (qh jr [5,6,50,51]))))
def jq:List O:=[aH 67 6,oo 68<|.call nQB [.t 67,.k (.func (.func Ts) [] [])]]
def jo:List O:=[aH 69 6,re 70 69,kc 71 0]
def jm:List O:=[yW 72 71 70]
def jl:List O:=[aH 73 71,aH 13 73]
def jj:List O:=[aH 74 13,kc 75 0]
def ji:List O:=[yW 76 75 74]
def jh:List O:=[aH 77 75,aH 14 77]
def jg:List O:=[aH 78 6,aH 79 14,rm 80 3 78 79,tf 81 2 80,iI 82 81,re 83 82,aH 84 6,aH 85 13,rm 86 3 84 85,tf 87 2 86,iI 88 87,re 89 88,oo 90<|.bin .gtr (.t 83) (.t 89),aH 91 90,vZ 92 91 6,vZ 93 91 13,gt 94 91<|.tH 3 (.t 92) (.t 93),gt 95 91<|.Aa 2 (.t 94),CJ 96 91 95,vZ 97 91 6,vZ 98 91 14,gt 99 91<|.tH 3 (.t 97) (.t 98),gt 100 91<|.Aa 2 (.t 99),CJ 101 91 100,gt 102 91<|.call nQG [.t 96,.t 101],CK 103 91 102,aH 104 103,vZ 105 104 6,vZ 106 104 13,gt 107 104<|.tH 3 (.t 105) (.t 106),gt 108 104<|.Aa 1 (.t 107),CJ 109 104 108,gt 110 104<|.bin .lss (.t 109) (ki 0),vZ 111 104 110,CM 112 111 6,CM 113 111 14,gf 114 111<|.tH 3 (.t 112) (.t 113),Uc 115 111 2 114,ML 116 111 115,gf 117 111<|.len (.t 116),CM 118 111 6,CM 119 111 6,CM 120 111 13,gf 121 111<|.tH 3 (.t 119) (.t 120),Uc 122 111 1 121,ML 123 111 122,gf 124 111<|.tH 3 (.t 118) (.t 123),Uc 125 111 2 124,ML 126 111 125,gf 127 111<|.len (.t 126),gf 128 111<|.bin .lss (.t 117) (.t 127),gt 129 104<|.pick (.t 111) (.k (.bool true)) (.t 128),CK 130 104 129]
def jf:List O:=[aH 131 6,aH 132 13,aH 133 14,rm 134 3 131 132,tf 135 1 134,CL 1 135 133]
def je:List O:=[xB 136 75 1,aH 75 136]
def rI:C:=(bE ji [6,13,70,71,74,75,76] (.seq (xS 76 8) (.seq (.aN 9 (bE jh [6,13,14,70,71,74,75] (.seq (.rW jg true [(12,12),(13,13),(24,24),(25,25),(26,26),(29,29),(30,30),(31,31),(32,32),(33,33),(50,50),(51,51),(52,52),(4,6),(4,7),(4,8),(4,9),(0,10),(1,10),(2,10),(3,10),(4,10),(5,10),(4,11),(18,19),(18,20),(18,21),(18,22),(14,23),(15,23),(16,23),(17,23),(18,23),(38,40),(38,41),(38,42),(38,43),(38,44),(34,45),(35,45),(36,45),(37,45),(38,45),(39,45),(40,45),(38,46),(38,47),(34,48),(35,48),(36,48),(37,48),(38,48),(39,48),(38,49)] [6,13,14,70,71,74,75,130]) (.cond (.t 130) (qh jf [6,13,70,71,74,75]) .skip)))) (qh je [6,13,70,71,74,75]))))
def jd:List O:=[xB 137 71 1,aH 71 137]
def K2:C:=(bE jm [6,70,71,72] (.seq (xS 72 6) (.seq (.aN 7 (bE jl [6,13,70,71] (bE jj [6,13,70,71,74,75] (.aN 8 (.loop rI))))) (qh jd [6,70,71]))))
def jc:List O:=[aH 138 6,aH 4 138]
def cQm:C:=(bE oC [0,1] (bE oB [0,1,5] (bE oA [0,1,5,6] (.seq (bE ox [1,5,6,17,18] (.aN 0 (.loop G0))) (.seq (bE jv [5,6,50,51] (.aN 4 (.loop K3))) (bE jq [6] (.seq (bE jo [6,70,71] (.aN 6 (.loop K2))) (bE jc [4] .ret))))))))
def qQm:gR:=⟨139,2,[.t 4],cQm⟩
def PM:List O:=[kc 2 0]
def PL:List O:=[aH 5 0,re 6 5,OC 7 6 1]
def PK:List O:=[oo 8<|.bad,oz<|.bad]
def PJ:List O:=[aH 9 0,oo 10<|.tH 1 (.t 9) (ki 0),iI 11 10,aH 3 11]
def PI:List O:=[kc 4 1]
def PH:List O:=[aH 12 4,aH 13 0,re 14 13,yW 15 12 14]
def PG:List O:=[aH 18 3,aH 19 0,aH 20 4,rm 21 1 19 20,iI 22 21,oo 23<|.max [.t 18,.t 22],aH 3 23]
def PF:List O:=[aH 16 4,xB 17 16 1,aH 4 17]
def Ru:C:=(.seq (bE PH [0,3,4,15] (xS 15 0)) (.seq (.aN 1 (qh PG [0,3,4])) (qh PF [0,3,4])))
def PE:List O:=[aH 24 3,aH 2 24]
def cQn:C:=(bE PM [0] (.seq (bE PL [0,7] (.cond (.t 7) (qh PK [0]) .skip)) (bE PJ [0,3] (.seq (bE PI [0,3,4] (.aN 0 (.loop Ru))) (bE PE [2] .ret)))))
def qQn:gR:=⟨25,1,[.t 2],cQn⟩
def PD:List O:=[Ag 4 1]
def PC:List O:=[oo 5<|.mv (.k (.int .u64 0))]
def PB:List O:=[iI 8 1,re 9 8,kc 10 0]
def PA:List O:=[yW 11 10 9]
def Pz:List O:=[aH 12 10,rm 13 1 8 10,iI 14 13,aH 6 12,aH 7 14]
def Py:List O:=[aH 15 7,aH 16 0,oo 17<|.bin .geq (.t 15) (.t 16)]
def Px:List O:=[aH 18 5,aH 19 6,rl 20 Uq 19,oo 21<|.bin .or (.t 18) (.t 20),aH 5 21]
def Pw:List O:=[xB 22 10 1,aH 10 22]
def Rs:C:=(bE PA [0,2,5,8,9,10,11] (.seq (xS 11 0) (.seq (.aN 1 (bE Pz [0,2,5,6,7,8,9,10] (bE Py [0,2,5,6,8,9,10,17] (.cond (.t 17) (qh Px [0,2,5,8,9,10]) .skip)))) (qh Pw [0,2,5,8,9,10]))))
def Pu:List O:=[R8 23 2 2,aH 24 5,Bq 25 nQq 23 24,aH 4 25]
def cQo:C:=(bE PD [0,1,2] (bE PC [0,1,2,5] (.seq (bE PB [0,2,5,8,9,10] (.aN 0 (.loop Rs))) (bE Pu [4] .ret))))
def qQo:gR:=⟨26,1,[.t 4],cQo⟩
def aez:List O:=[oo 2<|.mv (.k (.int .u64 0))]
def aey:List O:=[aH 3 0,OC 4 3 0,aH 5 4,CM 6 5 0,gf 7 5<|.bin .geq (.t 6) (ki 64),Ud 8 5 7]
def aex:List O:=[oo 2<|.mv (.k (.int .u64 0))]
def aew:List O:=[aH 9 0,oo 10<|.bin .shl (.k (.int .u64 1)) (.t 9),aH 2 10]
def cQp:C:=(bE aez [0] (.seq (bE aey [0,8] (.cond (.t 8) (bE aex [2] .ret) .skip)) (bE aew [2] .ret)))
def qQp:gR:=⟨11,1,[.t 2],cQp⟩
def Ps:List O:=[Jx 2 0,Ag 4 1]
def Pr:List O:=[R8 9 2 2,rl 10 nQH 9,aH 5 10]
def Pq:List O:=[Ag 6 1]
def Po:List O:=[aH 11 1,aH 7 11]
def Pn:List O:=[aH 12 7,oo 13<|.bin .neq (.t 12) (.k (.int .u64 0))]
def Pm:List O:=[aH 14 5,aH 15 7,aH 16 7,oo 17<|.un .neg (.t 16),oo 18<|.bin .and (.t 15) (.t 17),aH 19 1,oo 20<|.call nQI [.t 14,.t 18,.t 19],aH 8 20]
def Pk:List O:=[aH 21 6,aH 22 8,rl 23 nQJ 22,oo 24<|.eL 1 1 [.own 1 []] [(0,1,.t 23)],Uy 25 1 21 24,aH 6 25]
def Pj:List O:=[aH 26 7,aH 27 8,oo 28<|.bin .andNot (.t 26) (.t 27),aH 7 28]
def K1:C:=(.seq (bE Pn [1,5,6,7,13] (xS 13 0)) (.aN 1 (bE Pm [1,5,6,7,8] (bE Pk [1,5,6,7,8] (qh Pj [1,5,6,7])))))
def Pg:List O:=[aH 29 6,aH 4 29]
def cQq:C:=(bE Ps [1,2] (bE Pr [1,5] (bE Pq [1,5,6] (.seq (bE Po [1,5,6,7] (.aN 0 (.loop K1))) (bE Pg [4] .ret)))))
def qQq:gR:=⟨30,2,[.t 4],cQq⟩
def aev:List O:=[OD 4 false]
def aeu:List O:=[aH 5 0,re 6 5,aH 7 1,re 8 7,oo 9<|.bin .eql (.t 6) (.t 8),aH 10 9,vZ 11 10 0,vZ 12 10 1,gt 13 10<|.call nQK [.t 11,.t 12],gt 14 10<|.bin .eql (.t 13) (ki 0),CK 15 10 14,aH 4 15]
def cQr:C:=(bE aev [0,1] (bE aeu [4] .ret))
def qQr:gR:=⟨16,2,[.t 4],cQr⟩
def aa5:List O:=[kc 4 0]
def aa4:List O:=[aH 5 0,aH 6 1,oo 7<|.bin .rem (.t 5) (.t 6),aH 8 1,oo 9<|.bin .add (.t 7) (.t 8),aH 10 1,oo 11<|.bin .rem (.t 9) (.t 10),aH 4 11]
def cQs:C:=(bE aa5 [0,1] (bE aa4 [4] .ret))
def qQs:gR:=⟨12,2,[.t 4],cQs⟩
def sS:List O:=[kc 4 0]
def sR:List O:=[oo 5<|.mv (.k (.int .i64 (-1)))]
def sQ:List O:=[aH 8 0,re 9 8,kc 10 0]
def sP:List O:=[yW 11 10 9]
def sO:List O:=[aH 12 10,rm 13 3 8 10,R8 14 3 13,oo 7<|.new [.int .i64 0,.int .i64 0,.own 1 []],aH 6 12,CL 3 7 14]
def sN:List O:=[aH 15 1,R8 16 3 7,oo 17<|.iR (.t 15) [.t 16],aH 18 17,vZ 19 18 5,gt 20 18<|.bin .lss (.t 19) (ki 0),vZ 21 18 20,Uc 22 21 0 7,ML 23 21 22,CM 24 21 0,CM 25 21 5,gf 26 21<|.tH 3 (.t 24) (.t 25),Uc 27 21 0 26,ML 28 21 27,gf 29 21<|.bin .geq (.t 23) (.t 28),gt 30 18<|.pick (.t 21) (.k (.bool true)) (.t 29),CK 31 18 30]
def sM:List O:=[aH 32 6,aH 5 32]
def sK:List O:=[xB 33 10 1,aH 10 33]
def qN:C:=(bE sP [0,1,5,8,9,10,11] (.seq (xS 11 0) (.seq (.aN 1 (bE sO [0,1,5,6,7,8,9,10] (.seq (.rW sN true [(2,2),(3,3),(4,4),(5,5),(6,6),(14,14),(15,15),(16,16),(0,1),(8,9),(8,10),(8,11),(8,12),(7,13),(8,13)] [0,1,5,6,8,9,10,31]) (.cond (.t 31) (qh sM [0,1,5,8,9,10]) .skip)))) (qh sK [0,1,5,8,9,10]))))
def sJ:List O:=[aH 34 5,aH 4 34]
def cQt:C:=(bE sS [0,1] (bE sR [0,1,5] (.seq (bE sQ [0,1,5,8,9,10] (.aN 0 (.loop qN))) (bE sJ [4] .ret))))
def qQt:gR:=⟨35,2,[.t 4],cQt⟩
def Vd:List O:=[Jx 3 0,OD 4 false]
def Vc:List O:=[tf 5 2 3,iI 6 5,iI 7 1,Bq 8 nQv 6 7,aH 9 8,gt 10 9<|.Aa 2 (.t 3),CJ 11 9 10,CJ 12 9 2,gt 13 9<|.call nQv [.t 11,.t 12],CK 14 9 13,aH 4 14]
def cQu:C:=(bE Vd [1,2,3] (bE Vc [4] .ret))
def qQu:gR:=⟨15,1,[.t 4],cQu⟩
def aa3:List O:=[OD 4 false]
def aa2:List O:=[aH 5 0,aH 6 1,Bq 7 nQL 5 6,aH 4 7]
def cQv:C:=(bE aa3 [0,1] (bE aa2 [4] .ret))
def qQv:gR:=⟨8,2,[.t 4],cQv⟩
def Vb:List O:=[Jx 3 0,OD 4 false]
def Va:List O:=[tf 5 0 3,iI 6 5,iI 7 1,oo 8<|.bin .leq (.t 6) (.t 7),aH 9 8,gt 10 9<|.Aa 2 (.t 3),CJ 11 9 10,CJ 12 9 2,gt 13 9<|.call nQv [.t 11,.t 12],CK 14 9 13,aH 4 14]
def cQw:C:=(bE Vb [1,2,3] (bE Va [4] .ret))
def qQw:gR:=⟨15,1,[.t 4],cQw⟩
def Dh:List O:=[Ag 2 1]
def Dg:List O:=[Ag 3 1]
def Df:List O:=[aH 6 0,re 7 6,kc 8 0]
def De:List O:=[yW 9 8 7]
def Dd:List O:=[rm 10 1 6 8,iI 11 10,aH 5 11]
def Dc:List O:=[aH 12 3,aH 13 5,Bq 14 nQM 12 13,aH 3 14]
def Db:List O:=[xB 15 8 1,aH 8 15]
def El:C:=(bE De [3,6,7,8,9] (.seq (xS 9 0) (.seq (.aN 1 (bE Dd [3,5,6,7,8] (qh Dc [3,6,7,8]))) (qh Db [3,6,7,8]))))
def Da:List O:=[aH 16 3,aH 2 16]
def cQx:C:=(bE Dh [0] (bE Dg [0,3] (.seq (bE Df [3,6,7,8] (.aN 0 (.loop El))) (bE Da [2] .ret))))
def qQx:gR:=⟨17,1,[.t 2],cQx⟩
def uD:List O:=[Jx 1 0,kc 2 0]
def uC:List O:=[tf 5 0 1,iI 6 5,OC 7 6 0,aH 8 7,Uc 9 8 0 1,ML 10 8 9,gf 11 8<|.bin .gtr (.t 10) (ki 64),Ud 12 8 11]
def uB:List O:=[kc 2 1]
def uA:List O:=[tf 13 1 1,iI 14 13,re 15 14,kc 16 0]
def uz:List O:=[yW 17 16 15]
def uy:List O:=[aH 18 16,rm 19 2 14 16,R8 20 2 19,oo 4<|.new [.int .i64 0,.int .i64 0],aH 3 18,CL 2 4 20]
def ux:List O:=[tf 22 0 4,iI 23 22,OC 24 23 0,aH 25 24,Uc 26 25 0 4,ML 27 25 26,Uc 28 25 1 4,ML 29 25 28,gf 30 25<|.bin .geq (.t 27) (.t 29),Ud 31 25 30,aH 32 31,Uc 33 32 1 4,ML 34 32 33,Uc 35 32 0 1,ML 36 32 35,gf 37 32<|.bin .geq (.t 34) (.t 36),Ud 38 32 37,aH 21 38]
def uw:List O:=[kc 2 6]
def uu:List O:=[aH 40 3,oo 41<|.bin .gtr (.t 40) (ki 0),aH 42 41,gt 43 42<|.Aa 1 (.t 1),CJ 44 42 43,vZ 45 42 3,gt 46 42<|.bin .sub (.t 45) (ki 1),gt 47 42<|.tH 2 (.t 44) (.t 46),gt 48 42<|.ld (some 2) (.t 47),gt 49 42<|.ld (some 2) (.t 4),gt 50 42<|.call nQN [.t 48,.t 49],gt 51 42<|.bin .geq (.t 50) (ki 0),CK 52 42 51,aH 39 52]
def ur:List O:=[kc 2 5]
def pQ:List O:=[xB 53 16 1,aH 16 53]
def zQ:C:=(bE uz [1,14,15,16,17] (.seq (xS 17 0) (.seq (.aN 1 (bE uy [1,3,4,14,15,16] (.aN 2 (bE ux [1,3,4,14,15,16,21] (.cond (.t 21) (bE uw [2] .ret) (.seq (.rW uu true [(0,0),(1,1),(2,2),(10,10),(11,11),(12,12),(13,13),(4,5),(4,6),(3,9),(4,9),(5,9),(6,9),(7,9),(8,9)] [1,14,15,16,39]) (.cond (.t 39) (bE ur [2] .ret) .skip))))))) (qh pQ [1,14,15,16]))))
def pP:List O:=[kc 2 0]
def cQy:C:=(bE uD [1] (.seq (bE uC [1,12] (.cond (.t 12) (bE uB [2] .ret) .skip)) (.seq (bE uA [1,14,15,16] (.aN 0 (.loop zQ))) (bE pP [2] .ret))))
def qQy:gR:=⟨54,1,[.t 2],cQy⟩
def uq:List O:=[Jx 1 0,Ag 2 1,Ag 3 1]
def um:List O:=[R8 15 2 1,rl 16 nQH 15,aH 4 16]
def uk:List O:=[oo 5<|.new [.int .u64 0,.int .u64 0,.int .u64 0,.int .u64 0,.int .u64 0,.int .u64 0,.int .u64 0,.int .u64 0,.int .u64 0,.int .u64 0,.int .u64 0,.int .u64 0,.int .u64 0,.int .u64 0,.int .u64 0,.int .u64 0,.int .u64 0,.int .u64 0,.int .u64 0,.int .u64 0,.int .u64 0,.int .u64 0,.int .u64 0,.int .u64 0,.int .u64 0,.int .u64 0,.int .u64 0,.int .u64 0,.int .u64 0,.int .u64 0,.int .u64 0,.int .u64 0,.int .u64 0,.int .u64 0,.int .u64 0,.int .u64 0,.int .u64 0,.int .u64 0,.int .u64 0,.int .u64 0,.int .u64 0,.int .u64 0,.int .u64 0,.int .u64 0,.int .u64 0,.int .u64 0,.int .u64 0,.int .u64 0,.int .u64 0,.int .u64 0,.int .u64 0,.int .u64 0,.int .u64 0,.int .u64 0,.int .u64 0,.int .u64 0,.int .u64 0,.int .u64 0,.int .u64 0,.int .u64 0,.int .u64 0,.int .u64 0,.int .u64 0,.int .u64 0]]
def uj:List O:=[aH 17 4,re 18 17,oo 19<|.Jq 1 [.int .i64 0] (.t 18) (.t 18),aH 6 19]
def ui:List O:=[aH 20 4,re 21 20,kc 22 0]
def uh:List O:=[yW 23 22 21]
def ug:List O:=[aH 24 22,rm 25 1 20 22,iI 26 25,aH 7 24,aH 8 26]
def uf:List O:=[aH 27 6,aH 28 7,aH 29 8,rl 30 nQO 29,rm 31 1 27 28,CL 1 31 30]
def ue:List O:=[aH 32 6,aH 33 7,rm 34 1 32 33,iI 35 34,oo 36<|.Ci 64 1 (.t 5) (.t 35),iI 37 36,aH 38 7,rl 39 Uq 38,oo 40<|.bin .or (.t 37) (.t 39),oo 41<|.Ci 64 1 (.t 5) (.t 35),CL 1 41 40]
def ud:List O:=[xB 42 22 1,aH 22 42]
def K0:C:=(bE uh [2,4,5,6,20,21,22,23] (.seq (xS 23 0) (.seq (.aN 1 (bE ug [2,4,5,6,7,8,20,21,22] (bE uf [2,4,5,6,7,20,21,22] (.rW ue true [(8,8),(9,9),(10,10),(3,6),(5,6),(0,7),(1,7),(2,7),(3,7),(4,7),(5,7)] [2,4,5,6,20,21,22])))) (qh ud [2,4,5,6,20,21,22]))))
def pO:List O:=[aH 43 4,re 44 43,oo 45<|.Jq 1 [.int .i64 0] (.t 44) (.t 44),aH 3 45]
def pN:List O:=[aH 46 4,re 47 46,rl 48 nQP 47,aH 9 48]
def pM:List O:=[kc 10 0]
def pL:List O:=[aH 49 9,oo 50<|.bin .neq (.t 49) (.k (.int .u64 0))]
def pK:List O:=[kc 51 0]
def pJ:List O:=[OC 52 51 64]
def pI:List O:=[aH 53 51,aH 11 53]
def pH:List O:=[aH 54 11,oo 55<|.Ci 64 1 (.t 5) (.t 54),iI 56 55,oo 57<|.bin .eql (.t 56) (.k (.int .u64 0))]
def pG:List O:=[aH 58 11,oo 59<|.Ci 64 1 (.t 5) (.t 58),iI 60 59,rl 61 nQQ 60,aH 12 61]
def pF:List O:=[aH 62 10,aH 63 11,oo 64<|.max [.t 62,.t 63],aH 10 64]
def pE:List O:=[aH 65 3,aH 66 12,aH 67 10,rm 68 1 65 66,CL 1 68 67]
def pD:List O:=[aH 69 2,aH 70 12,oo 71<|.eL 1 1 [.int .i64 0] [(0,1,.t 70)],Uy 72 1 69 71,aH 2 72]
def pC:List O:=[aH 73 9,aH 74 12,rl 75 Uq 74,oo 76<|.bin .andNot (.t 73) (.t 75),aH 9 76]
def pB:List O:=[aH 77 11,oo 78<|.Ci 64 1 (.t 5) (.t 77),iI 79 78,aH 80 12,rl 81 Uq 80,oo 82<|.bin .andNot (.t 79) (.t 81),oo 83<|.Ci 64 1 (.t 5) (.t 77),CL 1 83 82]
def pz:List O:=[aH 84 4,aH 85 12,rm 86 1 84 85,iI 87 86,aH 88 9,oo 89<|.bin .and (.t 87) (.t 88),rl 90 nQJ 89,re 91 90,kc 92 0]
def py:List O:=[yW 93 92 91]
def px:List O:=[rm 94 1 90 92,iI 95 94,aH 14 95]
def pw:List O:=[aH 96 6,aH 97 14,rm 98 1 96 97,iI 99 98,oo 100<|.Ci 64 1 (.t 5) (.t 99),iI 101 100,aH 102 14,rl 103 Uq 102,oo 104<|.bin .andNot (.t 101) (.t 103),oo 105<|.Ci 64 1 (.t 5) (.t 99),CL 1 105 104]
def pq:List O:=[aH 106 6,aH 107 14,rm 108 1 106 107,iI 109 108,oo 110<|.bin .sub (.t 109) (ki 1),rm 111 1 106 107,CL 1 111 110]
def po:List O:=[aH 112 6,aH 113 14,rm 114 1 112 113,iI 115 114,oo 116<|.Ci 64 1 (.t 5) (.t 115),iI 117 116,aH 118 14,rl 119 Uq 118,oo 120<|.bin .or (.t 117) (.t 119),oo 121<|.Ci 64 1 (.t 5) (.t 115),CL 1 121 120]
def pk:List O:=[xB 122 92 1,aH 92 122]
def KZ:C:=(bE py [2,3,4,5,6,9,10,90,91,92,93] (.seq (xS 93 6) (.seq (.aN 7 (bE px [2,3,4,5,6,9,10,14,90,91,92] (.seq (.rW pw true [(8,8),(9,9),(10,10),(3,6),(5,6),(0,7),(1,7),(2,7),(3,7),(4,7),(5,7)] [2,3,4,5,6,9,10,14,90,91,92]) (bE pq [2,3,4,5,6,9,10,14,90,91,92] (.rW po true [(8,8),(9,9),(10,10),(3,6),(5,6),(0,7),(1,7),(2,7),(3,7),(4,7),(5,7)] [2,3,4,5,6,9,10,90,91,92]))))) (qh pk [2,3,4,5,6,9,10,90,91,92]))))
def pj:List O:=[xB 123 51 1,aH 51 123]
def Ek:C:=(bE pJ [2,3,4,5,6,9,10,51,52] (.seq (xS 52 4) (.seq (.aN 5 (bE pI [2,3,4,5,6,9,10,11,51] (.seq (bE pH [2,3,4,5,6,9,10,11,51,57] (.cond (.t 57) (.exit 5) .skip)) (bE pG [2,3,4,5,6,9,10,11,12] (bE pF [2,3,4,5,6,9,10,11,12] (bE pE [2,3,4,5,6,9,10,11,12] (bE pD [2,3,4,5,6,9,10,11,12] (bE pC [2,3,4,5,6,9,10,11,12] (.seq (.rW pB true [(5,5),(6,6),(7,7),(2,3),(0,4),(1,4),(2,4)] [2,3,4,5,6,9,10,12]) (.seq (bE pz [2,3,4,5,6,9,10,90,91,92] (.aN 6 (.loop KZ))) (.exit 3))))))))))) (qh pj [2,3,4,5,6,9,10,51]))))
def BR:C:=(.seq (bE pL [2,3,4,5,6,9,10,50] (xS 50 2)) (.aN 3 (bE pK [2,3,4,5,6,9,10,51] (.aN 4 (.loop Ek)))))
def ph:List O:=[aH 124 2,aH 125 3,aH 2 124,aH 3 125]
def cQz:C:=(bE uq [1,2] (.seq .skip (bE um [2,4] (bE uk [2,4,5] (bE uj [2,4,5,6] (.seq (bE ui [2,4,5,6,20,21,22] (.aN 0 (.loop K0))) (bE pO [2,3,4,5,6] (bE pN [2,3,4,5,6,9] (bE pM [2,3,4,5,6,9,10] (.seq .skip (.seq (.aN 2 (.loop BR)) (bE ph [2,3] .ret))))))))))))
def qQz:gR:=⟨126,1,[.t 2,.t 3],cQz⟩
def QD:List O:=[oo 2<|.mv (.k (.str ⟨#[]⟩))]
def QC:List O:=[oo 3<|.mv (.k (.str ⟨#[]⟩))]
def QB:List O:=[aH 6 0,re 7 6,kc 8 0]
def QA:List O:=[yW 9 8 7]
def Qz:List O:=[rm 10 1 6 8,iI 11 10,aH 5 11]
def Qy:List O:=[aH 12 3,aH 13 5,rl 14 nQR 13,oo 15<|.bin .add (.t 14) (.k (.str ⟨#[32]⟩)),oo 16<|.bin .add (.t 12) (.t 15),aH 3 16]
def Qx:List O:=[xB 17 8 1,aH 8 17]
def Rz:C:=(bE QA [3,6,7,8,9] (.seq (xS 9 0) (.seq (.aN 1 (bE Qz [3,5,6,7,8] (qh Qy [3,6,7,8]))) (qh Qx [3,6,7,8]))))
def Qw:List O:=[aH 18 3,aH 2 18]
def cQA:C:=(bE QD [0] (bE QC [0,3] (.seq (bE QB [3,6,7,8] (.aN 0 (.loop Rz))) (bE Qw [2] .ret))))
def qQA:gR:=⟨19,1,[.t 2],cQA⟩
def aeV:List O:=[aH 5 0,re 6 5,aH 4 6]
def aeU:List O:=[aH 7 0,aH 8 4,aH 9 4,oo 10<|.Jw .u64 (.t 9),rl 11 48 10,aH 12 1,oo 13<|.call 47 [.t 7,ki 0,.t 8,.t 11,.t 12]]
def cQB:C:=(bE aeV [0,1,4] (qh aeU []))
def qQB:gR:=⟨14,2,[],cQB⟩
def abJ:List O:=[Jx 2 0,Jx 3 1,kc 4 0]
def abI:List O:=[tf 5 0 2,iI 6 5,tf 7 0 3,iI 8 7,Bq 9 Jp 6 8,tf 10 2 2,iI 11 10,tf 12 2 3,iI 13 12,Bq 14 NF 11 13,oo 15<|.eL 1 2 [.int .i64 0] [(0,1,.t 9),(1,1,.t 14)],rl 16 MC 15,aH 4 16]
def cQC:C:=(bE abJ [2,3] (.seq (.rW abI true [(9,9),(10,10),(11,11),(12,12),(1,2),(0,3),(1,3),(1,5),(3,5),(4,5),(0,6),(1,6),(2,6),(3,6),(4,6),(1,7),(3,7),(4,7),(6,7),(0,8),(1,8),(2,8),(3,8),(4,8),(5,8),(6,8)] [4]) .ret))
def qQC:gR:=⟨17,2,[.t 4],cQC⟩
def mw:List O:=[kc 2 0]
def mq:List O:=[kc 3 0]
def mo:List O:=[aH 6 0,re 7 6,kc 8 0]
def mj:List O:=[yW 9 8 7]
def mi:List O:=[rm 10 1 6 8,iI 11 10,aH 5 11]
def mh:List O:=[aH 12 5,aH 13 3,oo 14<|.bin .neq (.t 12) (.t 13)]
def mg:List O:=[aH 15 5,aH 2 15]
def me:List O:=[xB 16 8 1,aH 8 16]
def oP:C:=(bE mj [3,6,7,8,9] (.seq (xS 9 0) (.seq (.aN 1 (bE mi [3,5,6,7,8] (bE mh [3,5,6,7,8,14] (.cond (.t 14) (bE mg [2] .ret) .skip)))) (qh me [3,6,7,8]))))
def l9:List O:=[aH 17 3,aH 2 17]
def cQD:C:=(bE mw [0] (bE mq [0,3] (.seq (bE mo [3,6,7,8] (.aN 0 (.loop oP))) (bE l9 [2] .ret))))
def qQD:gR:=⟨18,1,[.t 2],cQD⟩
def DD:List O:=[kc 4 0]
def DC:List O:=[aH 7 0,rl 8 MB 7,aH 5 8]
def DB:List O:=[aH 9 1,rl 10 MB 9,aH 6 10]
def DA:List O:=[aH 11 5]
def Dz:List O:=[aH 12 6]
def Dy:List O:=[kc 4 0]
def Dx:List O:=[oo 4<|.mv (.k (.int .i64 (-1)))]
def Dw:List O:=[aH 13 6]
def Dv:List O:=[kc 4 1]
def Du:List O:=[aH 14 0,aH 15 1,yW 16 14 15]
def yj:List O:=[oo 4<|.mv (.k (.int .i64 (-1)))]
def yh:List O:=[aH 17 0,aH 18 1,oo 19<|.bin .gtr (.t 17) (.t 18)]
def yg:List O:=[kc 4 1]
def yf:List O:=[kc 4 0]
def cQE:C:=(bE DD [0,1] (bE DC [0,1,5] (bE DB [0,1,5,6] (.seq (bE DA [0,1,6,11] (.cond (.t 11) (.seq (bE Dz [12] (.cond (.t 12) (bE Dy [4] .ret) .skip)) (bE Dx [4] .ret)) .skip)) (.seq (bE Dw [0,1,13] (.cond (.t 13) (bE Dv [4] .ret) .skip)) (.seq (bE Du [0,1,16] (.cond (.t 16) (bE yj [4] .ret) .skip)) (.seq (bE yh [19] (.cond (.t 19) (bE yg [4] .ret) .skip)) (bE yf [4] .ret))))))))
def qQE:gR:=⟨20,2,[.t 4],cQE⟩
def Vm:List O:=[kc 4 0]
def Vl:List O:=[aH 5 0,aH 6 1,Bq 7 ND 5 6,aH 4 7]
def cQF:C:=(bE Vm [0,1] (bE Vl [4] .ret))
def qQF:gR:=⟨8,2,[.t 4],cQF⟩
def Vk:List O:=[OD 4 false]
def Vj:List O:=[aH 5 0,aH 6 1,Bq 7 nQU 5 6,re 8 7,oo 9<|.bin .eql (.t 8) (ki 0),aH 4 9]
def cQG:C:=(bE Vk [0,1] (bE Vj [4] .ret))
def qQG:gR:=⟨10,2,[.t 4],cQG⟩
def Qv:List O:=[Jx 1 0,Ag 2 1]
def Qu:List O:=[tf 6 0 1,iI 7 6,oo 8<|.max [.t 7,ki 0],oo 9<|.min [.t 8,ki 64],oo 10<|.Jq 1 [.int .u64 0] (.t 9) (.t 9),aH 3 10]
def Qt:List O:=[tf 11 1 1,iI 12 11,re 13 12,kc 14 0]
def Qs:List O:=[yW 15 14 13]
def Qr:List O:=[rm 16 2 12 14,R8 17 2 16,oo 5<|.new [.int .i64 0,.int .i64 0],CL 2 5 17]
def Qq:List O:=[tf 18 0 5,iI 19 18,oo 20<|.bin .geq (.t 19) (ki 0),aH 21 20,gt 22 21<|.Aa 0 (.t 5),CJ 23 21 22,gt 24 21<|.Aa 1 (.t 5),CJ 25 21 24,gt 26 21<|.bin .lss (.t 23) (.t 25),CK 27 21 26,aH 28 27,gt 29 28<|.Aa 1 (.t 5),CJ 30 28 29,vZ 31 28 3,gt 32 28<|.len (.t 31),gt 33 28<|.bin .lss (.t 30) (.t 32),CK 34 28 33]
def Qp:List O:=[aH 35 3,tf 36 0 5,iI 37 36,rm 38 1 35 37,iI 39 38,tf 40 1 5,iI 41 40,oo 42<|.bin .shl (.k (.int .u64 1)) (.t 41),oo 43<|.bin .or (.t 39) (.t 42),rm 44 1 35 37,CL 1 44 43]
def Qo:List O:=[aH 45 3,tf 46 1 5,iI 47 46,rm 48 1 45 47,iI 49 48,tf 50 0 5,iI 51 50,oo 52<|.bin .shl (.k (.int .u64 1)) (.t 51),oo 53<|.bin .or (.t 49) (.t 52),rm 54 1 45 47,CL 1 54 53]
def Qn:List O:=[xB 55 14 1,aH 14 55]
def Ry:C:=(bE Qs [3,12,13,14,15] (.seq (xS 15 0) (.seq (.aN 1 (bE Qr [3,5,12,13,14] (bE Qq [3,5,12,13,14,34] (.cond (.t 34) (.seq (.rW Qp true [(8,8),(9,9),(10,10),(0,2),(2,5),(4,5),(0,6),(1,6),(2,6),(3,6),(4,6),(2,7),(4,7)] [3,5,12,13,14]) (.rW Qo true [(8,8),(9,9),(10,10),(0,2),(2,5),(4,5),(0,6),(1,6),(2,6),(3,6),(4,6),(2,7),(4,7)] [3,12,13,14])) .skip)))) (qh Qn [3,12,13,14]))))
def Qm:List O:=[aH 56 3,aH 2 56]
def cQH:C:=(bE Qv [1] (bE Qu [1,3] (.seq (bE Qt [3,12,13,14] (.aN 0 (.loop Ry))) (bE Qm [2] .ret))))
def qQH:gR:=⟨57,1,[.t 2],cQH⟩
def Ql:List O:=[oo 6<|.mv (.k (.int .u64 0))]
def Qk:List O:=[aH 10 1,aH 11 2,oo 12<|.bin .and (.t 10) (.t 11),aH 1 12]
def Qj:List O:=[aH 13 1,aH 7 13]
def Qi:List O:=[aH 14 7,oo 15<|.bin .neq (.t 14) (.k (.int .u64 0))]
def Qh:List O:=[aH 16 7,rl 17 nQQ 16,aH 8 17]
def Qg:List O:=[aH 18 7,aH 19 7,oo 20<|.bin .sub (.t 19) (.k (.int .u64 1)),oo 21<|.bin .and (.t 18) (.t 20),aH 7 21]
def Qf:List O:=[aH 22 0,aH 23 8,rm 24 1 22 23,iI 25 24,aH 26 2,oo 27<|.bin .and (.t 25) (.t 26),aH 28 1,oo 29<|.bin .andNot (.t 27) (.t 28),aH 9 29]
def Qe:List O:=[aH 30 1,aH 31 9,oo 32<|.bin .or (.t 30) (.t 31),aH 1 32]
def Qd:List O:=[aH 33 7,aH 34 9,oo 35<|.bin .or (.t 33) (.t 34),aH 7 35]
def K9:C:=(.seq (bE Qi [0,1,2,7,15] (xS 15 0)) (.aN 1 (bE Qh [0,1,2,7,8] (bE Qg [0,1,2,7,8] (bE Qf [0,1,2,7,9] (bE Qe [0,1,2,7,9] (qh Qd [0,1,2,7])))))))
def Qc:List O:=[aH 36 1,aH 6 36]
def cQI:C:=(bE Ql [0,1,2] (bE Qk [0,1,2] (.seq (bE Qj [0,1,2,7] (.aN 0 (.loop K9))) (bE Qc [6] .ret))))
def qQI:gR:=⟨37,3,[.t 6],cQI⟩
def Qb:List O:=[Ag 2 1]
def Qa:List O:=[Ag 3 1]
def P9:List O:=[aH 4 0,oo 5<|.bin .neq (.t 4) (.k (.int .u64 0))]
def P8:List O:=[aH 10 3,aH 11 0,rl 12 nQV 11,oo 13<|.eL 1 1 [.int .i64 0] [(0,1,.t 12)],Uy 14 1 10 13,aH 3 14]
def P7:List O:=[aH 6 0,aH 7 0,oo 8<|.bin .sub (.t 7) (.k (.int .u64 1)),oo 9<|.bin .and (.t 6) (.t 8),aH 0 9]
def Rx:C:=(.seq (bE P9 [0,3,5] (xS 5 0)) (.seq (.aN 1 (qh P8 [0,3])) (qh P7 [0,3])))
def P6:List O:=[aH 15 3,aH 2 15]
def cQJ:C:=(bE Qb [0] (bE Qa [0,3] (.seq (.aN 0 (.loop Rx)) (bE P6 [2] .ret))))
def qQJ:gR:=⟨16,1,[.t 2],cQJ⟩
def aeT:List O:=[kc 4 0]
def aeS:List O:=[aH 6 0,re 7 6,kc 8 0]
def aeR:List O:=[yW 9 8 7]
def aeQ:List O:=[aH 10 8,aH 5 10]
def aeP:List O:=[aH 12 5,aH 13 1,re 14 13,oo 15<|.bin .geq (.t 12) (.t 14),aH 16 15,CM 17 16 0,CM 18 16 5,gf 19 16<|.tH 1 (.t 17) (.t 18),ML 20 16 19,CM 21 16 1,CM 22 16 5,gf 23 16<|.tH 1 (.t 21) (.t 22),ML 24 16 23,gf 25 16<|.bin .gtr (.t 20) (.t 24),Ud 26 16 25,aH 11 26]
def aeO:List O:=[kc 4 1]
def aeN:List O:=[aH 28 0,aH 29 5,rm 30 1 28 29,iI 31 30,aH 32 1,aH 33 5,rm 34 1 32 33,iI 35 34,yW 36 31 35,aH 27 36]
def aeM:List O:=[oo 4<|.mv (.k (.int .i64 (-1)))]
def aeL:List O:=[xB 37 8 1,aH 8 37]
def afw:C:=(bE aeR [0,1,7,8,9] (.seq (xS 9 0) (.seq (.aN 1 (bE aeQ [0,1,5,7,8] (.aN 2 (.seq (.rW aeP true [(3,3),(4,4),(13,13),(14,14),(15,15),(8,9),(8,10),(8,11),(5,12),(6,12),(7,12),(8,12)] [0,1,5,7,8,11]) (.cond (.t 11) (bE aeO [4] .ret) (.seq (.rW aeN true [(8,8),(9,9),(3,4),(3,5),(3,6),(0,7),(1,7),(2,7),(3,7)] [0,1,7,8,27]) (.cond (.t 27) (bE aeM [4] .ret) .skip))))))) (qh aeL [0,1,7,8]))))
def aeK:List O:=[aH 38 0,re 39 38,aH 40 1,re 41 40,yW 42 39 41]
def acs:List O:=[oo 4<|.mv (.k (.int .i64 (-1)))]
def acr:List O:=[kc 4 0]
def cQK:C:=(bE aeT [0,1] (.seq (bE aeS [0,1,7,8] (.aN 0 (.loop afw))) (.seq (bE aeK [42] (.cond (.t 42) (bE acs [4] .ret) .skip)) (bE acr [4] .ret))))
def qQK:gR:=⟨43,2,[.t 4],cQK⟩
def Vi:List O:=[OD 4 false]
def Vh:List O:=[aH 5 0,aH 6 1,Bq 7 nQW 5 6,oo 8<|.bin .geq (.t 7) (ki 0),aH 4 8]
def cQL:C:=(bE Vi [0,1] (bE Vh [4] .ret))
def qQL:gR:=⟨9,2,[.t 4],cQL⟩
def Dt:List O:=[Ag 4 1]
def Dr:List O:=[kc 5 0]
def Dq:List O:=[aH 7 5,aH 8 0,re 9 8,yW 10 7 9,aH 11 10,vZ 12 11 0,vZ 13 11 5,gt 14 11<|.tH 1 (.t 12) (.t 13),CJ 15 11 14,vZ 16 11 1,gt 17 11<|.bin .lss (.t 15) (.t 16),CK 18 11 17]
def Dn:List O:=[aH 19 5,xB 20 19 1,aH 5 20]
def K8:C:=(.seq (bE Dq [0,1,5,18] (xS 18 0)) (.aN 1 (qh Dn [0,1,5])))
def Dm:List O:=[aH 21 5,aH 22 0,re 23 22,yW 24 21 23,aH 25 24,vZ 26 25 0,vZ 27 25 5,gt 28 25<|.tH 1 (.t 26) (.t 27),CJ 29 25 28,vZ 30 25 1,gt 31 25<|.bin .eql (.t 29) (.t 30),CK 32 25 31]
def Dk:List O:=[aH 33 0,aH 4 33]
def Dj:List O:=[aH 34 0,aH 35 5,oo 36<|.FC 1 (.t 34) none (some (.t 35)),oo 37<|.app 1 (.k (.own 1 [])) (.t 36),aH 6 37]
def Di:List O:=[aH 38 6,aH 39 1,oo 40<|.eL 1 1 [.int .i64 0] [(0,1,.t 39)],Uy 41 1 38 40,aH 42 0,aH 43 5,oo 44<|.FC 1 (.t 42) (some (.t 43)) none,Uy 45 1 41 44,aH 4 45]
def cQM:C:=(bE Dt [0,1] (bE Dr [0,1,5] (.seq (.aN 0 (.loop K8)) (.seq (bE Dm [0,1,5,32] (.cond (.t 32) (bE Dk [4] .ret) .skip)) (bE Dj [0,1,5,6] (.seq (.rW Di true [(7,7),(8,8),(0,2),(2,4),(3,4),(2,5),(3,5),(2,6),(3,6)] [4]) .ret))))))
def qQM:gR:=⟨46,2,[.t 4],cQM⟩
def abH:List O:=[Jx 2 0,Jx 3 1,kc 4 0]
def abG:List O:=[tf 5 0 2,iI 6 5,tf 7 0 3,iI 8 7,Bq 9 Jp 6 8,tf 10 1 2,iI 11 10,tf 12 1 3,iI 13 12,Bq 14 Jp 11 13,oo 15<|.eL 1 2 [.int .i64 0] [(0,1,.t 9),(1,1,.t 14)],rl 16 MC 15,aH 4 16]
def cQN:C:=(bE abH [2,3] (.seq (.rW abG true [(9,9),(10,10),(11,11),(12,12),(1,2),(0,3),(1,3),(1,5),(3,5),(4,5),(0,6),(1,6),(2,6),(3,6),(4,6),(1,7),(3,7),(4,7),(6,7),(0,8),(1,8),(2,8),(3,8),(4,8),(5,8),(6,8)] [4]) .ret))
def qQN:gR:=⟨17,2,[.t 4],cQN⟩
def abF:List O:=[kc 2 0]
def abE:List O:=[aH 3 0,rl 4 nQX 3,aH 2 4]
def cQO:C:=(bE abF [0] (bE abE [2] .ret))
def qQO:gR:=⟨5,1,[.t 2],cQO⟩
def aeJ:List O:=[oo 2<|.mv (.k (.int .u64 0))]
def aeI:List O:=[aH 4 0,oo 5<|.bin .leq (.t 4) (ki 0),aH 3 5]
def aeH:List O:=[oo 2<|.mv (.k (.int .u64 0))]
def aeG:List O:=[aH 7 0,oo 8<|.bin .geq (.t 7) (ki 64),aH 6 8]
def aeF:List O:=[oo 2<|.mv (.k (.int .u64 18446744073709551615))]
def aeE:List O:=[aH 9 0,oo 10<|.bin .shl (.k (.int .u64 1)) (.t 9),oo 11<|.bin .sub (.t 10) (.k (.int .u64 1)),aH 2 11]
def cQP:C:=(bE aeJ [0] (.seq (.aN 0 (bE aeI [0,3] (.cond (.t 3) (bE aeH [2] .ret) (bE aeG [0,6] (.cond (.t 6) (bE aeF [2] .ret) .skip))))) (bE aeE [2] .ret)))
def qQP:gR:=⟨12,1,[.t 2],cQP⟩
def abD:List O:=[kc 2 0]
def abC:List O:=[aH 3 0,rl 4 nQV 3,aH 2 4]
def cQQ:C:=(bE abD [0] (bE abC [2] .ret))
def qQQ:gR:=⟨5,1,[.t 2],cQQ⟩
def abB:List O:=[oo 2<|.mv (.k (.str ⟨#[]⟩))]
def abA:List O:=[aH 3 0,rl 4 nQY 3,aH 2 4]
def cQR:C:=(bE abB [0] (bE abA [2] .ret))
def qQR:gR:=⟨5,1,[.t 2],cQR⟩
def Vg:List O:=[OD 2 false]
def Vf:List O:=[aH 3 0,aH 4 0,oo 5<|.bin .neq (.t 3) (.t 4),aH 2 5]
def cQS:C:=(bE Vg [0] (bE Vf [2] .ret))
def qQS:gR:=⟨6,1,[.t 2],cQS⟩
def oM:List O:=[kc 4 0]
def oL:List O:=[aH 9 0,re 10 9,kc 11 0]
def oK:List O:=[yW 12 11 10]
def oJ:List O:=[aH 13 11,rm 14 1 9 11,iI 15 14,aH 5 13,aH 6 15]
def oI:List O:=[aH 16 5,aH 17 1,re 18 17,oo 19<|.bin .geq (.t 16) (.t 18)]
def oH:List O:=[kc 4 1]
def oG:List O:=[aH 20 1,aH 21 5,rm 22 1 20 21,iI 23 22,aH 7 23]
def oF:List O:=[aH 24 6,aH 25 7,Bq 26 Jp 24 25,aH 8 26]
def oE:List O:=[aH 27 8,bzY 28 27 0]
def oD:List O:=[aH 29 8,aH 4 29]
def jE:List O:=[xB 30 11 1,aH 11 30]
def s6:C:=(bE oK [0,1,9,10,11,12] (.seq (xS 12 0) (.seq (.aN 1 (bE oJ [0,1,5,6,9,10,11] (.seq (bE oI [0,1,5,6,9,10,11,19] (.cond (.t 19) (bE oH [4] .ret) .skip)) (bE oG [0,1,6,7,9,10,11] (bE oF [0,1,8,9,10,11] (bE oE [0,1,8,9,10,11,28] (.cond (.t 28) (bE oD [4] .ret) .skip))))))) (qh jE [0,1,9,10,11]))))
def jD:List O:=[aH 31 0,re 32 31,aH 33 1,re 34 33,yW 35 32 34]
def jC:List O:=[oo 4<|.mv (.k (.int .i64 (-1)))]
def jB:List O:=[kc 4 0]
def cQT:C:=(bE oM [0,1] (.seq (bE oL [0,1,9,10,11] (.aN 0 (.loop s6))) (.seq (bE jD [35] (.cond (.t 35) (bE jC [4] .ret) .skip)) (bE jB [4] .ret))))
def qQT:gR:=⟨36,2,[.t 4],cQT⟩
def abz:List O:=[Ag 4 1]
def aby:List O:=[aH 5 0,aH 6 1,oo 7<|.call nQZ [.t 5,.t 6,.k (.func (.func nQ0) [] [])],aH 4 7]
def cQU:C:=(bE abz [0,1] (bE aby [4] .ret))
def qQU:gR:=⟨8,2,[.t 4],cQU⟩
def Kj:List O:=[kc 2 0]
def Ki:List O:=[aH 3 0,oo 4<|.bin .eql (.t 3) (.k (.int .u64 0))]
def Ve:List O:=[kc 2 64]
def BM:List O:=[aH 5 0,aH 6 0,oo 7<|.un .neg (.t 6),oo 8<|.bin .and (.t 5) (.t 7),oo 9<|.bin .mul (.t 8) (.k (.int .u64 285870213051353865)),oo 10<|.bin .shr (.t 9) (.k (.int .u64 58)),oo 11<|.Ci 64 1 (.g 0) (.t 10),iI 12 11,oo 13<|.Jw .i64 (.t 12),aH 2 13]
def cQV:C:=(bE Kj [0] (.seq (bE Ki [0,4] (.cond (.t 4) (bE Ve [2] .ret) .skip)) (bE BM [2] .ret)))
def qQV:gR:=⟨14,1,[.t 2],cQV⟩
def GG:List O:=[kc 4 0]
def GF:List O:=[aH 6 0,re 7 6,kc 8 0]
def GD:List O:=[yW 9 8 7]
def GC:List O:=[aH 10 8,aH 5 10]
def GB:List O:=[aH 11 1,aH 12 0,aH 13 5,rm 14 1 12 13,iI 15 14,oo 16<|.bin .eql (.t 11) (.t 15)]
def GA:List O:=[aH 17 5,aH 4 17]
def Gz:List O:=[xB 18 8 1,aH 8 18]
def K7:C:=(bE GD [0,1,7,8,9] (.seq (xS 9 0) (.seq (.aN 1 (bE GC [0,1,5,7,8] (bE GB [0,1,5,7,8,16] (.cond (.t 16) (bE GA [4] .ret) .skip)))) (qh Gz [0,1,7,8]))))
def Gy:List O:=[oo 4<|.mv (.k (.int .i64 (-1)))]
def cQW:C:=(bE GG [0,1] (.seq (bE GF [0,1,7,8] (.aN 0 (.loop K7))) (bE Gy [4] .ret)))
def qQW:gR:=⟨19,2,[.t 4],cQW⟩
def abx:List O:=[kc 2 0]
def abw:List O:=[aH 3 0,oo 4<|.bin .shr (.t 3) (.k (.int .u64 1)),oo 5<|.bin .and (.t 4) (.k (.int .u64 6148914691236517205)),aH 6 0,oo 7<|.bin .and (.t 6) (.k (.int .u64 6148914691236517205)),oo 8<|.bin .add (.t 5) (.t 7),aH 0 8]
def abv:List O:=[aH 9 0,oo 10<|.bin .shr (.t 9) (.k (.int .u64 2)),oo 11<|.bin .and (.t 10) (.k (.int .u64 3689348814741910323)),aH 12 0,oo 13<|.bin .and (.t 12) (.k (.int .u64 3689348814741910323)),oo 14<|.bin .add (.t 11) (.t 13),aH 0 14]
def abu:List O:=[aH 15 0,oo 16<|.bin .shr (.t 15) (.k (.int .u64 4)),aH 17 0,oo 18<|.bin .add (.t 16) (.t 17),oo 19<|.bin .and (.t 18) (.k (.int .u64 1085102592571150095)),aH 0 19]
def abt:List O:=[aH 20 0,aH 21 0,oo 22<|.bin .shr (.t 21) (.k (.int .u64 8)),oo 23<|.bin .add (.t 20) (.t 22),aH 0 23]
def abr:List O:=[aH 24 0,aH 25 0,oo 26<|.bin .shr (.t 25) (.k (.int .u64 16)),oo 27<|.bin .add (.t 24) (.t 26),aH 0 27]
def abq:List O:=[aH 28 0,aH 29 0,oo 30<|.bin .shr (.t 29) (.k (.int .u64 32)),oo 31<|.bin .add (.t 28) (.t 30),aH 0 31]
def abp:List O:=[aH 32 0,oo 33<|.Jw .i64 (.t 32),oo 34<|.bin .and (.t 33) (ki 127),aH 2 34]
def cQX:C:=(bE abx [0] (bE abw [0] (bE abv [0] (bE abu [0] (bE abt [0] (bE abr [0] (bE abq [0] (bE abp [2] .ret))))))))
def qQX:gR:=⟨35,1,[.t 2],cQX⟩
def abo:List O:=[oo 2<|.mv (.k (.str ⟨#[]⟩))]
def abn:List O:=[aH 3 0,oo 4<|.call nQ1 [.t 3,ki 10],aH 2 4]
def cQY:C:=(bE abo [0] (bE abn [2] .ret))
def qQY:gR:=⟨5,1,[.t 2],cQY⟩
def lx:List O:=[Ag 6 1]
def lr:List O:=[aH 11 0,rl 12 Yd 11,aH 13 1,rl 14 Yd 13,aH 0 12,aH 1 14]
def lk:List O:=[aH 15 0,rl 16 nQ3 15]
def lj:List O:=[aH 17 1,rl 18 nQ3 17]
def lg:List O:=[aH 19 0,rl 20 nQ4 19,aH 21 1,rl 22 nQ4 21,aH 0 20,aH 1 22]
def k9:List O:=[Ag 7 1]
def km:List O:=[aH 23 0,re 24 23,oo 25<|.bin .gtr (.t 24) (ki 0),aH 26 25,CM 27 26 1,gf 28 26<|.len (.t 27),gf 29 26<|.bin .gtr (.t 28) (ki 0),Ud 30 26 29]
def l8:List O:=[aH 31 1,re 32 31,oo 33<|.bin .eql (.t 32) (ki 0),aH 34 33,CM 35 34 0,gf 36 34<|.len (.t 35),gf 37 34<|.bin .gtr (.t 36) (ki 0),CM 38 34 37,vZ 39 38 0,gt 40 38<|.tH 1 (.t 39) (ki 0),CJ 41 38 40,vZ 42 38 1,gt 43 38<|.tH 1 (.t 42) (ki 0),CJ 44 38 43,gt 45 38<|.bin .leq (.t 41) (.t 44),gf 46 34<|.pick (.t 38) (.t 45) (.k (.bool false)),Ud 47 34 46,aH 8 47]
def l7:List O:=[aH 48 0,re 49 48,oo 50<|.bin .eql (.t 49) (ki 0),aH 51 50,CM 52 51 1,gf 53 51<|.len (.t 52),gf 54 51<|.bin .gtr (.t 53) (ki 0),CM 55 51 54,vZ 56 55 1,gt 57 55<|.tH 1 (.t 56) (ki 0),CJ 58 55 57,vZ 59 55 0,gt 60 55<|.tH 1 (.t 59) (ki 0),CJ 61 55 60,gt 62 55<|.bin .leq (.t 58) (.t 61),gf 63 51<|.pick (.t 55) (.t 62) (.k (.bool false)),Ud 64 51 63,aH 9 64]
def l6:List O:=[kc 10 0]
def iF:List O:=[aH 65 8]
def iE:List O:=[aH 66 0,oo 67<|.tH 1 (.t 66) (ki 0),iI 68 67,aH 69 0,oo 70<|.FC 1 (.t 69) (some (ki 1)) none,aH 10 68,aH 0 70]
def iD:List O:=[aH 71 9]
def iC:List O:=[aH 72 1,oo 73<|.tH 1 (.t 72) (ki 0),iI 74 73,aH 75 1,oo 76<|.FC 1 (.t 75) (some (ki 1)) none,aH 10 74,aH 1 76]
def iB:List O:=[aH 77 2,aH 78 8,aH 79 9,oo 80<|.iR (.t 77) [.t 78,.t 79]]
def iA:List O:=[aH 81 7,aH 82 10,oo 83<|.eL 1 1 [.int .i64 0] [(0,1,.t 82)],Uy 84 1 81 83,aH 7 84]
def lE:C:=(.seq (bE km [0,1,2,7,30] (xS 30 0)) (.aN 1 (.seq (.rW l8 true [(0,0),(1,1),(2,2),(3,3),(4,4),(5,5),(6,6),(7,7),(14,14),(15,15),(16,16),(17,17),(10,11),(10,12),(8,13),(9,13),(10,13)] [0,1,2,7,8]) (.seq (.rW l7 true [(0,0),(1,1),(2,2),(3,3),(4,4),(5,5),(6,6),(7,7),(14,14),(15,15),(16,16),(17,17),(10,11),(10,12),(8,13),(9,13),(10,13)] [0,1,2,7,8,9]) (bE l6 [0,1,2,7,8,9,10] (.seq (bE iF [0,1,2,7,8,9,10,65] (.cond (.t 65) (.rW iE true [(6,6),(2,3),(2,4)] [0,1,2,7,8,9,10]) .skip)) (.seq (bE iD [0,1,2,7,8,9,10,71] (.cond (.t 71) (.rW iC true [(6,6),(2,3),(2,4)] [0,1,2,7,8,9,10]) .skip)) (bE iB [0,1,2,7,10,80] (.cond (.t 80) (qh iA [0,1,2,7]) .skip)))))))))
def ig:List O:=[aH 85 7,aH 6 85]
def cQZ:C:=(bE lx [0,1,2] (bE lr [0,1,2] (bE lk [0,1,2] (bE lj [0,1,2] (bE lg [0,1,2] (bE k9 [0,1,2,7] (.seq (.aN 0 (.loop lE)) (bE ig [6] .ret))))))))
def qQZ:gR:=⟨86,3,[.t 6],cQZ⟩
def abP:List O:=[OD 4 false]
def abO:List O:=[aH 5 1,oo 6<|.un .not (.t 5),aH 4 6]
def cQ0:C:=(bE abP [1] (bE abO [4] .ret))
def qQ0:gR:=⟨7,2,[.t 4],cQ0⟩
def afh:List O:=[oo 4<|.mv (.k (.str ⟨#[]⟩))]
def afg:List O:=[aH 10 1,oo 11<|.bin .eql (.t 10) (ki 10)]
def aff:List O:=[aH 12 0,oo 13<|.bin .leq (ki 0) (.t 12),aH 14 13,vZ 15 14 0,gt 16 14<|.bin .lss (.t 15) (ki 100),CK 17 14 16]
def afe:List O:=[aH 18 0,rl 19 77 18,aH 4 19]
def afd:List O:=[oo 5<|.new [.int .u8 0,.int .u8 0,.int .u8 0,.int .u8 0,.int .u8 0,.int .u8 0,.int .u8 0,.int .u8 0,.int .u8 0,.int .u8 0,.int .u8 0,.int .u8 0,.int .u8 0,.int .u8 0,.int .u8 0,.int .u8 0,.int .u8 0,.int .u8 0,.int .u8 0,.int .u8 0,.int .u8 0,.int .u8 0,.int .u8 0,.int .u8 0]]
def afc:List O:=[aH 20 0,oo 21<|.Jw .u64 (.t 20),aH 6 21]
def afb:List O:=[aH 22 0,OC 23 22 0]
def afa:List O:=[aH 24 6,oo 25<|.un .neg (.t 24),aH 6 25]
def ae9:List O:=[aH 26 6,rl 27 78 26,aH 7 27]
def ae8:List O:=[aH 28 7,oo 29<|.bin .add (ki 1) (.t 28),oo 30<|.bad,aH 31 6,Bq 32 79 30 31]
def acG:List O:=[aH 33 0,OC 34 33 0]
def acF:List O:=[oo 35<|.Ci 24 1 (.t 5) (ki 0),oz<|.st 1 (.t 35) (.k (.int .u8 45))]
def acE:List O:=[aH 36 7,oo 37<|.bin .add (ki 1) (.t 36),oo 38<|.F9 24 (.t 5) (some (.t 37)),oo 39<|.bad,aH 4 39]
def acD:List O:=[aH 40 7,oo 41<|.bin .add (ki 1) (.t 40),oo 42<|.bad,oo 43<|.bad,aH 4 43]
def acC:List O:=[aH 45 0,oo 46<|.Jw .u64 (.t 45),aH 47 1,aH 48 0,OC 49 48 0,oo 50<|.call 80 [.k (.own 1 []),.t 46,.t 47,.t 49,.k (.bool false)],aH 44 50,Ue 51 0 44,Ue 52 1 44,aH 8 51,aH 9 52]
def acB:List O:=[aH 53 9,aH 4 53]
def cQ1:C:=(bE afh [0,1] (.seq (bE afg [0,1,11] (.cond (.t 11) (.seq (bE aff [0,17] (.cond (.t 17) (bE afe [4] .ret) .skip)) (bE afd [0,5] (bE afc [0,5,6] (.seq (bE afb [0,5,6,23] (.cond (.t 23) (qh afa [0,5,6]) .skip)) (bE ae9 [0,5,6,7] (bE ae8 [0,5,7] (.seq (bE acG [5,7,34] (.cond (.t 34) (bE acF [5,7] (bE acE [4] .ret)) .skip)) (bE acD [4] .ret)))))))) .skip)) (bE acC [9] (bE acB [4] .ret))))
def qQ1:gR:=⟨54,2,[.t 4],cQ1⟩
def abN:List O:=[Ag 2 1]
def abM:List O:=[aH 3 0,oo 4<|.eq false .Nz (.t 3) (.k (.own 1 []))]
def abL:List O:=[Ag 2 1]
def abK:List O:=[oo 5<|.eL 1 0 [.int .i64 0] [],aH 6 0,Uy 7 1 5 6,aH 2 7]
def cQ2:C:=(bE abN [0] (.seq (bE abM [0,4] (.cond (.t 4) (bE abL [2] .ret) .skip)) (bE abK [2] .ret)))
def qQ2:gR:=⟨8,1,[.t 2],cQ2⟩
def ae7:List O:=[aH 3 0,re 4 3,aH 2 4]
def ae6:List O:=[aH 5 0,aH 6 2,aH 7 2,oo 8<|.Jw .u64 (.t 7),rl 9 48 8,oo 10<|.call 82 [.t 5,ki 0,.t 6,.t 9]]
def cQ3:C:=(bE ae7 [0,2] (qh ae6 []))
def qQ3:gR:=⟨11,1,[],cQ3⟩
def ae5:List O:=[Ag 2 1]
def ae4:List O:=[aH 6 0,re 7 6,OC 8 7 2]
def ae3:List O:=[aH 9 0,aH 2 9]
def ae2:List O:=[kc 3 1]
def ae1:List O:=[aH 10 3,aH 11 0,re 12 11,yW 13 10 12]
def ae0:List O:=[aH 16 0,aH 17 3,rm 18 1 16 17,iI 19 18,aH 20 0,aH 21 3,oo 22<|.bin .sub (.t 21) (ki 1),rm 23 1 20 22,iI 24 23,oo 25<|.bin .eql (.t 19) (.t 24)]
def aeZ:List O:=[aH 26 0,aH 27 3,oo 28<|.FC 1 (.t 26) (some (.t 27)) none,aH 4 28]
def aeY:List O:=[kc 5 1]
def aeX:List O:=[aH 29 5,aH 30 4,re 31 30,yW 32 29 31]
def aeW:List O:=[aH 35 4,aH 36 5,rm 37 1 35 36,iI 38 37,aH 39 4,aH 40 5,oo 41<|.bin .sub (.t 40) (ki 1),rm 42 1 39 41,iI 43 42,oo 44<|.bin .neq (.t 38) (.t 43)]
def acA:List O:=[aH 45 0,aH 46 3,aH 47 4,aH 48 5,rm 49 1 47 48,iI 50 49,rm 51 1 45 46,CL 1 51 50]
def acz:List O:=[aH 52 3,xB 53 52 1,aH 3 53]
def acy:List O:=[aH 33 5,xB 34 33 1,aH 5 34]
def afy:C:=(.seq (bE aeX [0,3,4,5,32] (xS 32 2)) (.seq (.aN 3 (.seq (.rW aeW true [(9,9),(3,4),(3,5),(3,6),(3,7),(0,8),(1,8),(2,8),(3,8)] [0,3,4,5,44]) (.cond (.t 44) (bE acA [0,3,4,5] (qh acz [0,3,4,5])) .skip))) (qh acy [0,3,4,5])))
def acx:List O:=[aH 54 0,aH 55 3,oo 56<|.FC 1 (.t 54) (some (.t 55)) none,oz<|.RZ 1 [.int .i64 0] (.t 56)]
def acw:List O:=[aH 57 0,aH 58 3,oo 59<|.FC 1 (.t 57) none (some (.t 58)),aH 2 59]
def acv:List O:=[aH 14 3,xB 15 14 1,aH 3 15]
def afx:C:=(.seq (bE ae1 [0,3,13] (xS 13 0)) (.seq (.aN 1 (.seq (.rW ae0 true [(9,9),(3,4),(3,5),(3,6),(3,7),(0,8),(1,8),(2,8),(3,8)] [0,3,25]) (.cond (.t 25) (bE aeZ [0,3,4] (.seq (bE aeY [0,3,4,5] (.aN 2 (.loop afy))) (bE acx [0,3] (bE acw [2] .ret)))) .skip))) (qh acv [0,3])))
def acu:List O:=[aH 60 0,aH 2 60]
def cQ4:C:=(bE ae5 [0] (.seq (bE ae4 [0,8] (.cond (.t 8) (bE ae3 [2] .ret) .skip)) (.seq (bE ae2 [0,3] (.aN 0 (.loop afx))) (bE acu [2] .ret))))
def qQ4:gR:=⟨61,1,[.t 2],cQ4⟩
abbrev Md:=Go.Bm.Md
abbrev dM:=Go.Bm.dM
def look:List (Nat × Md × gR)->Nat->Option (Md × gR)
 |[],_=>none
 |(j,m,q)::r,i=>if i=j then some (m,q) else look r i
def fns:List (Nat × Md × gR):=[
 (nQa,⟨false,false,true⟩,qQa),
 (nQb,⟨true,false,false⟩,qQb),
 (nQc,⟨true,false,false⟩,qQc),
 (Yc,⟨false,false,false⟩,qQd),
 (Zl,⟨false,false,true⟩,qQe),
 (It,⟨true,false,false⟩,qQf),
 (nQg,⟨false,false,true⟩,qQg),
 (nQh,⟨false,false,false⟩,qQh),
 (nQi,⟨false,false,true⟩,qQi),
 (nQj,⟨false,false,false⟩,qQj),
 (nQk,⟨false,false,true⟩,qQk),
 (nQl,⟨true,true,false⟩,qQl),
 (nQm,⟨true,false,false⟩,qQm),
 (nQn,⟨false,false,true⟩,qQn),
 (nQo,⟨true,false,false⟩,qQo),
 (Uq,⟨false,false,true⟩,qQp),
 (nQq,⟨false,false,false⟩,qQq),
 (nQr,⟨false,false,true⟩,qQr),
 (nQs,⟨false,false,true⟩,qQs),
 (nQt,⟨true,false,false⟩,qQt),
 (nQu,⟨true,false,false⟩,qQu),
 (nQv,⟨false,false,true⟩,qQv),
 (nQw,⟨true,false,false⟩,qQw),
 (nQx,⟨false,false,false⟩,qQx),
 (nQy,⟨false,false,true⟩,qQy),
 (nQz,⟨true,true,false⟩,qQz),
 (nQA,⟨false,false,false⟩,qQA),
 (nQB,⟨false,true,true⟩,qQB),
 (Ts,⟨false,false,true⟩,qQC),
 (MC,⟨false,false,true⟩,qQD),
 (Jp,⟨false,false,true⟩,qQE),
 (NF,⟨false,false,true⟩,qQF),
 (nQG,⟨false,false,true⟩,qQG),
 (nQH,⟨false,false,false⟩,qQH),
 (nQI,⟨false,false,true⟩,qQI),
 (nQJ,⟨false,false,false⟩,qQJ),
 (nQK,⟨false,false,true⟩,qQK),
 (nQL,⟨false,false,true⟩,qQL),
 (nQM,⟨false,false,false⟩,qQM),
 (nQN,⟨false,false,true⟩,qQN),
 (nQO,⟨false,false,true⟩,qQO),
 (nQP,⟨false,false,true⟩,qQP),
 (nQQ,⟨false,false,true⟩,qQQ),
 (nQR,⟨false,false,false⟩,qQR),
 (MB,⟨false,false,true⟩,qQS),
 (ND,⟨false,false,true⟩,qQT),
 (nQU,⟨false,false,false⟩,qQU),
 (nQV,⟨false,false,true⟩,qQV),
 (nQW,⟨false,false,true⟩,qQW),
 (nQX,⟨false,false,true⟩,qQX),
 (nQY,⟨false,false,false⟩,qQY),
 (nQZ,⟨false,false,false⟩,qQZ),
 (nQ0,⟨false,false,true⟩,qQ0),
 (nQ1,⟨false,true,true⟩,qQ1),
 (Yd,⟨false,true,true⟩,qQ2),
 (nQ3,⟨false,false,true⟩,qQ3),
 (nQ4,⟨false,false,false⟩,qQ4)]
def nQ5:Nat:=0
def JI:List Int:=[0,1,56,2,57,49,28,3,61,58,42,50,38,29,17,4,62,47,59,36,45,43,51,22,53,39,33,30,24,18,12,5,63,55,48,27,60,41,37,16,46,35,44,21,52,32,23,11,54,26,40,15,34,20,31,10,25,14,19,9,13,8,7,6]
def tabA:List AV:=JI.map (AV.int .u8)
def cfg:dM:=⟨look fns,fun i=>if i=nQ5 then tabA else[],fun _=>none,fun _=>none,fun _=>none,fun _=>false,fun _=>false,fun _=>none⟩
theorem kQa:cY ak Go.Proofs.Tryd.f3 qQa=true:=by kernel_rfl
theorem kQb:cY ak Go.Proofs.Tryd.f4 qQb=true:=by kernel_rfl
theorem kQc:cY ak Go.Proofs.Tryd.f5 qQc=true:=by kernel_rfl
theorem kQd:cY ak Go.Proofs.Tryd.f6 qQd=true:=by kernel_rfl
theorem kQe:cY ak Go.Proofs.Tryd.f7 qQe=true:=by kernel_rfl
theorem kQf:cY ak Go.Proofs.Tryd.f8 qQf=true:=by kernel_rfl
theorem kQg:cY ak Go.Proofs.Tryd.f9 qQg=true:=by kernel_rfl
theorem kQh:cY ak Go.Proofs.Tryd.f10 qQh=true:=by kernel_rfl
theorem kQi:cY ak Go.Proofs.Tryd.f11 qQi=true:=by kernel_rfl
theorem kQj:cY ak Go.Proofs.Tryd.f12 qQj=true:=by kernel_rfl
theorem kQk:cY ak Go.Proofs.Tryd.f13 qQk=true:=by kernel_rfl
theorem kQl:cY ak Go.Proofs.Tryd.f14 qQl=true:=by kernel_rfl
theorem kQm:cY ak Go.Proofs.Tryd.f15 qQm=true:=by kernel_rfl
theorem kQn:cY ak Go.Proofs.Tryd.f16 qQn=true:=by kernel_rfl
theorem kQo:cY ak Go.Proofs.Tryd.f17 qQo=true:=by kernel_rfl
theorem kQp:cY ak Go.Proofs.Tryd.f18 qQp=true:=by kernel_rfl
theorem kQq:cY ak Go.Proofs.Tryd.f19 qQq=true:=by kernel_rfl
theorem kQr:cY ak Go.Proofs.Tryd.f20 qQr=true:=by kernel_rfl
theorem kQs:cY ak Go.Proofs.Tryd.f21 qQs=true:=by kernel_rfl
theorem kQt:cY ak Go.Proofs.Tryd.f22 qQt=true:=by kernel_rfl
theorem kQu:cY ak Go.Proofs.Tryd.f23 qQu=true:=by kernel_rfl
theorem kQv:cY ak Go.Proofs.Tryd.f24 qQv=true:=by kernel_rfl
theorem kQw:cY ak Go.Proofs.Tryd.f25 qQw=true:=by kernel_rfl
theorem kQx:cY ak Go.Proofs.Tryd.f26 qQx=true:=by kernel_rfl
theorem kQy:cY ak Go.Proofs.Tryd.f27 qQy=true:=by kernel_rfl
theorem kQz:cY ak Go.Proofs.Tryd.f28 qQz=true:=by kernel_rfl
theorem kQA:cY ak Go.Proofs.Tryd.f29 qQA=true:=by kernel_rfl
theorem kQB:cY ak Go.Proofs.Tryd.f30 qQB=true:=by kernel_rfl
theorem kQC:cY ak Go.Proofs.Tryd.f31 qQC=true:=by kernel_rfl
theorem kQD:cY ak Go.Proofs.Tryd.f32 qQD=true:=by kernel_rfl
theorem kQE:cY ak Go.Proofs.Tryd.f33 qQE=true:=by kernel_rfl
theorem kQF:cY ak Go.Proofs.Tryd.f34 qQF=true:=by kernel_rfl
theorem kQG:cY ak Go.Proofs.Tryd.f35 qQG=true:=by kernel_rfl
theorem kQH:cY ak Go.Proofs.Tryd.f36 qQH=true:=by kernel_rfl
theorem kQI:cY ak Go.Proofs.Tryd.f37 qQI=true:=by kernel_rfl
theorem kQJ:cY ak Go.Proofs.Tryd.f38 qQJ=true:=by kernel_rfl
theorem kQK:cY ak Go.Proofs.Tryd.f39 qQK=true:=by kernel_rfl
theorem kQL:cY ak Go.Proofs.Tryd.f40 qQL=true:=by kernel_rfl
theorem kQM:cY ak Go.Proofs.Tryd.f41 qQM=true:=by kernel_rfl
theorem kQN:cY ak Go.Proofs.Tryd.f42 qQN=true:=by kernel_rfl
theorem kQO:cY ak Go.Proofs.Tryd.f43 qQO=true:=by kernel_rfl
theorem kQP:cY ak Go.Proofs.Tryd.f44 qQP=true:=by kernel_rfl
theorem kQQ:cY ak Go.Proofs.Tryd.f45 qQQ=true:=by kernel_rfl
theorem kQR:cY ak Go.Proofs.Tryd.f46 qQR=true:=by kernel_rfl
theorem kQS:cY ak Go.Proofs.Tryd.f49 qQS=true:=by kernel_rfl
theorem kQT:cY ak Go.Proofs.Tryd.f50 qQT=true:=by kernel_rfl
theorem kQU:cY ak Go.Proofs.Tryd.f51 qQU=true:=by kernel_rfl
theorem kQV:cY ak Go.Proofs.Tryd.f52 qQV=true:=by kernel_rfl
theorem kQW:cY ak Go.Proofs.Tryd.f53 qQW=true:=by kernel_rfl
theorem kQX:cY ak Go.Proofs.Tryd.f54 qQX=true:=by kernel_rfl
theorem kQY:cY ak Go.Proofs.Tryd.f55 qQY=true:=by kernel_rfl
theorem kQZ:cY ak Go.Proofs.Tryd.f66 qQZ=true:=by kernel_rfl
theorem kQ0:cY ak Go.Proofs.Tryd.f67 qQ0=true:=by kernel_rfl
theorem kQ1:cY ak Go.Proofs.Tryd.f68 qQ1=true:=by kernel_rfl
theorem kQ2:cY ak Go.Proofs.Tryd.f74 qQ2=true:=by kernel_rfl
theorem kQ3:cY ak Go.Proofs.Tryd.f75 qQ3=true:=by kernel_rfl
theorem kQ4:cY ak Go.Proofs.Tryd.f76 qQ4=true:=by kernel_rfl
theorem KT:∀{l:List (Nat × Md × gR)} {f:Nat} {m:Md} {q:gR},look l f=some (m,q)->(f,m,q)∈l
 |[],f,m,q,h=>by simp[look] at h
 |(j,m',q')::r,f,m,q,h=>by
   unfold look at h;split at h
   ·rename_i he; subst he; simp at h; obtain⟨rfl,rfl⟩:=h; simp
   ·exact List.mem_cons_of_mem _ (KT h)
def Good (p:Nat × Md × gR):Prop:=∃fn,ak.funcs[p.1]?=some fn/\cY ak fn p.2.2=true
def All (G:Nat × Md × gR->Prop):List (Nat × Md × gR)->Prop
 |[]=>True
 |p::r=>G p/\All G r
theorem All.get {G:Nat × Md × gR->Prop}:∀{l:List (Nat × Md × gR)},All G l->∀p∈l,G p
 |[],_,p,h=>by simp at h
 |q::r,h,p,hp=>by
   rcases List.mem_cons.1 hp with e|e
   ·subst e; exact h.1
   ·exact All.get h.2 p e
theorem aaU:All Good fns:=⟨⟨_,Go.Proofs.Tryd.func3,kQa⟩,⟨_,Go.Proofs.Tryd.func4,kQb⟩,⟨_,Go.Proofs.Tryd.func5,kQc⟩,⟨_,Go.Proofs.Tryd.func6,kQd⟩,⟨_,Go.Proofs.Tryd.func7,kQe⟩,⟨_,Go.Proofs.Tryd.func8,kQf⟩,⟨_,Go.Proofs.Tryd.func9,kQg⟩,⟨_,Go.Proofs.Tryd.func10,kQh⟩,⟨_,Go.Proofs.Tryd.func11,kQi⟩,⟨_,Go.Proofs.Tryd.func12,kQj⟩,⟨_,Go.Proofs.Tryd.func13,kQk⟩,⟨_,Go.Proofs.Tryd.func14,kQl⟩,⟨_,Go.Proofs.Tryd.func15,kQm⟩,⟨_,Go.Proofs.Tryd.func16,kQn⟩,⟨_,Go.Proofs.Tryd.func17,kQo⟩,⟨_,Go.Proofs.Tryd.func18,kQp⟩,⟨_,Go.Proofs.Tryd.func19,kQq⟩,⟨_,Go.Proofs.Tryd.func20,kQr⟩,⟨_,Go.Proofs.Tryd.func21,kQs⟩,⟨_,Go.Proofs.Tryd.func22,kQt⟩,⟨_,Go.Proofs.Tryd.func23,kQu⟩,⟨_,Go.Proofs.Tryd.func24,kQv⟩,⟨_,Go.Proofs.Tryd.func25,kQw⟩,⟨_,Go.Proofs.Tryd.func26,kQx⟩,⟨_,Go.Proofs.Tryd.func27,kQy⟩,⟨_,Go.Proofs.Tryd.func28,kQz⟩,⟨_,Go.Proofs.Tryd.func29,kQA⟩,⟨_,S6,kQB⟩,⟨_,S5,kQC⟩,⟨_,Go.Proofs.Tryd.func32,kQD⟩,⟨_,Go.Proofs.Tryd.func33,kQE⟩,⟨_,Go.Proofs.Tryd.func34,kQF⟩,⟨_,Go.Proofs.Tryd.func35,kQG⟩,⟨_,Go.Proofs.Tryd.func36,kQH⟩,⟨_,Go.Proofs.Tryd.func37,kQI⟩,⟨_,Go.Proofs.Tryd.func38,kQJ⟩,⟨_,Go.Proofs.Tryd.func39,kQK⟩,⟨_,Go.Proofs.Tryd.func40,kQL⟩,⟨_,Go.Proofs.Tryd.func41,kQM⟩,⟨_,Go.Proofs.Tryd.func42,kQN⟩,⟨_,Go.Proofs.Tryd.func43,kQO⟩,⟨_,Go.Proofs.Tryd.func44,kQP⟩,⟨_,Go.Proofs.Tryd.func45,kQQ⟩,⟨_,Go.Proofs.Tryd.func46,kQR⟩,⟨_,S0,kQS⟩,⟨_,Go.Proofs.Tryd.func50,kQT⟩,⟨_,Go.Proofs.Tryd.func51,kQU⟩,⟨_,SZ,kQV⟩,⟨_,Go.Proofs.Tryd.func53,kQW⟩,⟨_,Go.Proofs.Tryd.func54,kQX⟩,⟨_,Go.Proofs.Tryd.func55,kQY⟩,⟨_,Go.Proofs.Tryd.func66,kQZ⟩,⟨_,Go.Proofs.Tryd.func67,kQ0⟩,⟨_,SX,kQ1⟩,⟨_,Go.Proofs.Tryd.func74,kQ2⟩,⟨_,SS,kQ3⟩,⟨_,SR,kQ4⟩,trivial⟩
theorem R6:eM ak cfg:=⟨by kernel_rfl,fun f m q h=>aaU.get _ (KT h)⟩
theorem gQC:cfg.fn Ts=some (⟨false,false,true⟩,qQC):=rfl
theorem gQD:cfg.fn MC=some (⟨false,false,true⟩,qQD):=rfl
theorem gQE:cfg.fn Jp=some (⟨false,false,true⟩,qQE):=rfl
theorem gQF:cfg.fn NF=some (⟨false,false,true⟩,qQF):=rfl
theorem gQS:cfg.fn MB=some (⟨false,false,true⟩,qQS):=rfl
theorem gQT:cfg.fn ND=some (⟨false,false,true⟩,qQT):=rfl
end Go.BmP
