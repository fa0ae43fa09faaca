/- The compact code of the functions, printed by program off the translation. -/
import Derived.Test.YtppmiehidnpgbaaGreatDoorChecked
import Derived.Test.YtppmiehidnpgbaaGreatDoorBmA
import Derived.KernelRfl
set_option maxRecDepth 100000
open Go.Proofs.Tryz renaming func28 → Vi, func82 → Vh, func84 → Vg, func85 → Vf, prog → ai
namespace Go.BmP
open Go.Am Go.Bm
abbrev oo (d : Nat) (x : Kd) : O := ⟨some d,none,x⟩
abbrev gf (d g : Nat) (k : Kd) : O := ⟨some d,some (g,false),k⟩
abbrev gt (d g : Nat) (k : Kd) : O := ⟨some d,some (g,true),k⟩
abbrev oz (x : Kd) : O := ⟨none,none,x⟩
abbrev ki (n : Nat) : E := .k (.int .i64 n)
def nQa : Nat := 3
def nQb : Nat := 4
def nQc : Nat := 5
def nQd : Nat := 6
def nQe : Nat := 7
def VQ : Nat := 8
def VP : Nat := 9
def MQ : Nat := 10
def YI : Nat := 11
def nQj : Nat := 12
def nQk : Nat := 13
def TU : Nat := 14
def nQm : Nat := 15
def VO : Nat := 16
def TR : Nat := 17
def nQp : Nat := 18
def nQq : Nat := 19
def VN : Nat := 20
def TQ : Nat := 21
def nQt : Nat := 22
def nQu : Nat := 23
def YH : Nat := 24
def nQw : Nat := 25
def nQx : Nat := 26
def nQy : Nat := 27
def nQz : Nat := 28
def nQA : Nat := 29
def nQB : Nat := 30
def nQC : Nat := 31
def nQD : Nat := 32
def nQE : Nat := 33
def nQF : Nat := 34
def nQG : Nat := 35
def nQH : Nat := 36
def nQI : Nat := 37
def nQJ : Nat := 38
def YL : Nat := 39
def nQL : Nat := 40
def YK : Nat := 41
def nQN : Nat := 42
def nQO : Nat := 43
def nQP : Nat := 44
def nQQ : Nat := 45
def nQR : Nat := 46
def nQS : Nat := 47
def nQT : Nat := 48
def nQU : Nat := 49
def nQV : Nat := 50
def nQW : Nat := 51
def nQX : Nat := 52
def nQY : Nat := 53
def nQZ : Nat := 54
def nQ0 : Nat := 55
def nQ1 : Nat := 56
def nQ2 : Nat := 57
def nQ3 : Nat := 58
def nQ4 : Nat := 59
def nQ5 : Nat := 60
def nQ6 : Nat := 61
def nQ7 : Nat := 62
def nQ8 : Nat := 63
def nQ9 : Nat := 64
def P5 : Nat := 65
def MW : Nat := 66
def P4 : Nat := 67
def MV : Nat := 68
def P3 : Nat := 69
def VR : Nat := 70
def MU : Nat := 71
def P1 : Nat := 72
def FL : Nat := 73
def P0 : Nat := 74
def PZ : Nat := 75
def nQb1 : Nat := 76
def nQb2 : Nat := 77
def PY : Nat := 78
def PX : Nat := 79
def PW : Nat := 80
def MT : Nat := 81
def MS : Nat := 82
def Hu : Nat := 83
def PV : Nat := 84
def PU : Nat := 85
def MR : Nat := 86
/- cohesion/cohesionlaw26.MaxcliqueBounds -/
def SI : List O :=[oo 2<|.mv (.k (.bool false))]
def SH : List O :=[oo 19<|.mv (.t 0),oo 20<|.call nQb [.t 19],oo 21<|.un .not (.t 20)]
def SG : List O :=[oo 22<|.call nQc [],oo 2<|.mv (.t 22)]
def SF : List O :=[oo 23<|.mv (.t 0),oo 24<|.call nQd [.t 23],oo 3<|.mv (.t 24)]
def SE : List O :=[oo 25<|.mv (.t 3),oo 26<|.call nQe [.t 25,ki 8],oo 4<|.new [.int .i64 0,.own 2 []],oz<|.st 2 (.t 4) (.t 26)]
def SD : List O :=[oo 28<|.ld (some 2) (.t 4),oo 29<|.call VQ [.t 28],oo 27<|.mv (.t 29),oo 30<|.ext 0 (.t 27),oo 31<|.ext 1 (.t 27),oo 5<|.mv (.t 30),oo 6<|.mv (.t 31)]
def SC : List O :=[oo 33<|.ld (some 2) (.t 4),oo 34<|.call VP [.t 33],oo 32<|.mv (.t 34),oo 35<|.ext 0 (.t 32),oo 36<|.ext 1 (.t 32),oo 7<|.mv (.t 35),oo 8<|.mv (.t 36)]
def SA : List O :=[oo 38<|.ld (some 2) (.t 4),oo 39<|.call MQ [.t 38],oo 37<|.mv (.t 39),oo 40<|.ext 0 (.t 37),oo 41<|.ext 1 (.t 37),oo 9<|.mv (.t 40),oo 10<|.mv (.t 41)]
def Sz : List O :=[oo 43<|.ld (some 2) (.t 4),oo 44<|.mv (.t 3),oo 45<|.fX 0 (.t 4),oo 46<|.ld none (.t 45),oo 47<|.call nQj [.t 44,.t 46],oo 48<|.call YI [.t 43,.t 47],oo 42<|.mv (.t 48),oo 49<|.ext 0 (.t 42),oo 50<|.ext 1 (.t 42),oo 11<|.mv (.t 49),oo 12<|.mv (.t 50)]
def Sy : List O :=[oo 52<|.ld (some 2) (.t 4),oo 53<|.call nQk [.t 52],oo 51<|.mv (.t 53),oo 54<|.ext 0 (.t 51),oo 55<|.ext 1 (.t 51),oo 13<|.mv (.t 54),oo 14<|.mv (.t 55)]
def Kf : List O :=[oo 57<|.ld (some 2) (.t 4),oo 58<|.mv (.t 5),oo 59<|.len (.t 58),oo 60<|.call TU [.t 57,.k (.own 1 []),.t 59],oo 56<|.mv (.t 60),oo 61<|.ext 0 (.t 56),oo 62<|.ext 1 (.t 56),oo 15<|.mv (.t 61),oo 16<|.mv (.t 62)]
def Ke : List O :=[oo 64<|.ld (some 2) (.t 4),oo 65<|.mv (.t 5),oo 66<|.len (.t 65),oo 67<|.bin .add (.t 66) (ki 1),oo 68<|.call TU [.t 64,.k (.own 1 []),.t 67],oo 63<|.mv (.t 68),oo 69<|.ext 0 (.t 63),oo 70<|.ext 1 (.t 63),oo 17<|.mv (.t 69),oo 18<|.mv (.t 70)]
def Kc : List O :=[oo 71<|.mv (.t 6),oo 72<|.bin .neq (.t 71) (ki 0),oo 73<|.mv (.t 72),gf 74 73<|.mv (.t 8),gf 75 73<|.bin .neq (.t 74) (ki 0),oo 76<|.pick (.t 73) (.k (.bool true)) (.t 75),oo 77<|.mv (.t 76),gf 78 77<|.mv (.t 10),gf 79 77<|.bin .neq (.t 78) (ki 0),oo 80<|.pick (.t 77) (.k (.bool true)) (.t 79),oo 81<|.mv (.t 80),gf 82 81<|.mv (.t 12),gf 83 81<|.bin .neq (.t 82) (ki 0),oo 84<|.pick (.t 81) (.k (.bool true)) (.t 83),oo 85<|.mv (.t 84),gf 86 85<|.mv (.t 16),gf 87 85<|.bin .neq (.t 86) (ki 0),oo 88<|.pick (.t 85) (.k (.bool true)) (.t 87),oo 89<|.mv (.t 88),gf 90 89<|.mv (.t 18),gf 91 89<|.bin .neq (.t 90) (ki 0),oo 92<|.pick (.t 89) (.k (.bool true)) (.t 91),oo 93<|.mv (.t 92),gf 94 93<|.mv (.t 15),gf 95 93<|.un .not (.t 94),oo 96<|.pick (.t 93) (.k (.bool true)) (.t 95),oo 97<|.mv (.t 96),gf 98 97<|.mv (.t 17),oo 99<|.pick (.t 97) (.k (.bool true)) (.t 98)]
def Kb : List O :=[oo 2<|.mv (.k (.bool false))]
def Ka : List O :=[oo 100<|.fX 0 (.t 4),oo 101<|.ld none (.t 100),oo 102<|.bin .eql (.t 101) (ki 0)]
def J9 : List O :=[oo 103<|.mv (.t 5),oo 104<|.len (.t 103),oo 105<|.bin .eql (.t 104) (ki 0),oo 106<|.mv (.t 105),gt 107 106<|.mv (.t 7),gt 108 106<|.bin .eql (.t 107) (ki 0),oo 109<|.pick (.t 106) (.t 108) (.k (.bool false)),oo 110<|.mv (.t 109),gt 111 110<|.call nQc [],oo 112<|.pick (.t 110) (.t 111) (.k (.bool false)),oo 2<|.mv (.t 112)]
def J8 : List O :=[oo 113<|.ld (some 2) (.t 4),oo 114<|.mv (.t 5),oo 115<|.call nQm [.t 113,.t 114],oo 116<|.mv (.t 115),gt 117 116<|.mv (.t 5),gt 118 116<|.len (.t 117),gt 119 116<|.mv (.t 7),gt 120 116<|.bin .leq (.t 118) (.t 119),oo 121<|.pick (.t 116) (.t 120) (.k (.bool false)),oo 122<|.mv (.t 121),gt 123 122<|.ld (some 2) (.t 4),gt 124 122<|.mv (.t 9),gt 125 122<|.call VO [.t 123,.t 124],oo 126<|.pick (.t 122) (.t 125) (.k (.bool false)),oo 127<|.mv (.t 126),gt 128 127<|.ld (some 2) (.t 4),gt 129 127<|.mv (.t 11),gt 130 127<|.call VO [.t 128,.t 129],oo 131<|.pick (.t 127) (.t 130) (.k (.bool false)),oo 132<|.mv (.t 131),gt 133 132<|.mv (.t 9),gt 134 132<|.call TR [.t 133],gt 135 132<|.len (.t 134),gt 136 132<|.mv (.t 5),gt 137 132<|.len (.t 136),gt 138 132<|.bin .geq (.t 135) (.t 137),oo 139<|.pick (.t 132) (.t 138) (.k (.bool false)),oo 140<|.mv (.t 139),gt 141 140<|.mv (.t 11),gt 142 140<|.call TR [.t 141],gt 143 140<|.len (.t 142),gt 144 140<|.mv (.t 5),gt 145 140<|.len (.t 144),gt 146 140<|.bin .geq (.t 143) (.t 145),oo 147<|.pick (.t 140) (.t 146) (.k (.bool false)),oo 148<|.mv (.t 147),gt 149 148<|.mv (.t 9),gt 150 148<|.call TR [.t 149],gt 151 148<|.len (.t 150),gt 152 148<|.mv (.t 13),gt 153 148<|.bin .add (.t 152) (ki 1),gt 154 148<|.bin .leq (.t 151) (.t 153),oo 155<|.pick (.t 148) (.t 154) (.k (.bool false)),oo 156<|.mv (.t 155),gt 157 156<|.call nQc [],oo 158<|.pick (.t 156) (.t 157) (.k (.bool false)),oo 2<|.mv (.t 158)]
def cQa : C := (.seq (.aO SI false [] [0]) (.seq (.seq (.aO SH false [] [0,21]) (.cond (.t 21) (.seq (.aO SG false [] [2]) .ret) .skip)) (.seq (.aO SF false [] [3]) (.seq (.aO SE false [] [3,4]) (.seq (.aO SD false [] [3,4,5,6]) (.seq (.aO SC false [] [3,4,5,6,7,8]) (.seq (.aO SA false [] [3,4,5,6,7,8,9,10]) (.seq (.aO Sz true [(5,5),(6,6),(10,10),(0,1),(0,2),(0,3),(1,3),(0,4)] [4,5,6,7,8,9,10,11,12]) (.seq (.aO Sy false [] [4,5,6,7,8,9,10,11,12,13]) (.seq (.aO Kf false [] [4,5,6,7,8,9,10,11,12,13,15,16]) (.seq (.aO Ke false [] [4,5,6,7,8,9,10,11,12,13,15,16,17,18]) (.seq (.seq (.aO Kc false [] [4,5,7,9,11,13,99]) (.cond (.t 99) (.seq (.aO Kb false [] [2]) .ret) .skip)) (.seq (.seq (.aO Ka false [] [4,5,7,9,11,13,102]) (.cond (.t 102) (.seq (.aO J9 false [] [2]) .ret) .skip)) (.seq (.aO J8 false [] [2]) .ret))))))))))))))
def qQa : fK := ⟨159,1,[.t 2],cQa⟩
/- cohesion/cohesionmake.Few -/
def adG : List O :=[oo 2<|.mv (.k (.bool false))]
def adE : List O :=[oo 3<|.mv (.t 0),oo 4<|.len (.t 3),oo 5<|.bin .leq (.t 4) (ki 500),oo 2<|.mv (.t 5)]
def cQb : C := (.seq (.aO adG false [] [0]) (.seq (.aO adE false [] [2]) .ret))
def qQb : fK := ⟨6,1,[.t 2],cQb⟩
/- cohesion/cohesionlaw26.awake -/
def adD : List O :=[oo 0<|.mv (.k (.bool false))]
def adC : List O :=[oo 10<|.build [.int .i64 0,.int .i64 0] [(0,1,ki 0),(1,1,ki 1)],oo 11<|.build [.int .i64 0,.int .i64 0] [(0,1,ki 1),(1,1,ki 2)],oo 12<|.build [.int .i64 0,.int .i64 0] [(0,1,ki 2),(1,1,ki 3)],oo 13<|.build [.int .i64 0,.int .i64 0] [(0,1,ki 3),(1,1,ki 4)],oo 14<|.build [.int .i64 0,.int .i64 0] [(0,1,ki 4),(1,1,ki 0)],oo 15<|.dY 2 5 [.int .i64 0,.int .i64 0] [(0,2,.t 10),(2,2,.t 11),(4,2,.t 12),(6,2,.t 13),(8,2,.t 14)],oo 16<|.call nQp [ki 5,.t 15],oo 9<|.mv (.t 16),oo 17<|.ext 0 (.t 9),oo 18<|.ext 1 (.t 9),oo 1<|.new [.int .i64 0,.own 2 []],oz<|.st 2 (.t 1) (.t 17),oo 2<|.mv (.t 18)]
def adB : List O :=[oo 20<|.ld (some 2) (.t 1),oo 21<|.call VQ [.t 20],oo 19<|.mv (.t 21),oo 22<|.ext 0 (.t 19),oo 23<|.ext 1 (.t 19),oo 3<|.mv (.t 22),oo 4<|.mv (.t 23)]
def adA : List O :=[oo 25<|.ld (some 2) (.t 1),oo 26<|.call VP [.t 25],oo 24<|.mv (.t 26),oo 27<|.ext 0 (.t 24),oo 28<|.ext 1 (.t 24),oo 5<|.mv (.t 27),oo 6<|.mv (.t 28)]
def adz : List O :=[oo 30<|.ld (some 2) (.t 1),oo 31<|.call MQ [.t 30],oo 29<|.mv (.t 31),oo 32<|.ext 0 (.t 29),oo 33<|.ext 1 (.t 29),oo 7<|.mv (.t 32),oo 8<|.mv (.t 33)]
def adx : List O :=[oo 34<|.mv (.t 4),oo 35<|.bin .eql (.t 34) (ki 0),oo 36<|.mv (.t 35),gt 37 36<|.mv (.t 3),gt 38 36<|.dY 1 2 [.int .i64 0] [(0,1,ki 0),(1,1,ki 1)],gt 39 36<|.call nQq [.t 37,.t 38],gt 40 36<|.bin .eql (.t 39) (ki 0),oo 41<|.pick (.t 36) (.t 40) (.k (.bool false)),oo 42<|.mv (.t 41),gt 43 42<|.mv (.t 6),gt 44 42<|.bin .eql (.t 43) (ki 0),oo 45<|.pick (.t 42) (.t 44) (.k (.bool false)),oo 46<|.mv (.t 45),gt 47 46<|.mv (.t 5),gt 48 46<|.bin .eql (.t 47) (ki 3),oo 49<|.pick (.t 46) (.t 48) (.k (.bool false)),oo 50<|.mv (.t 49),gt 51 50<|.mv (.t 8),gt 52 50<|.bin .eql (.t 51) (ki 0),oo 53<|.pick (.t 50) (.t 52) (.k (.bool false)),oo 54<|.mv (.t 53),gt 55 54<|.ld (some 2) (.t 1),gt 56 54<|.mv (.t 7),gt 57 54<|.call VO [.t 55,.t 56],oo 58<|.pick (.t 54) (.t 57) (.k (.bool false)),oo 0<|.mv (.t 58)]
def cQc : C := (.seq (.aO adD false [] []) (.seq (.aO adC false [] [1]) (.seq (.aO adB false [] [1,3,4]) (.seq (.aO adA false [] [1,3,4,5,6]) (.seq (.aO adz false [] [1,3,4,5,6,7,8]) (.seq (.aO adx false [] [0]) .ret))))))
def qQc : fK := ⟨59,0,[.t 0],cQc⟩
/- cohesion/cohesionmake.New -/
def adw : List O :=[oo 2<|.mv (.k .fy)]
def adu : List O :=[oo 3<|.mv (.t 0),oo 4<|.build [.own 1 [],.int .i64 0] [(0,1,.t 3)],oo 5<|.box (.t 4),oo 2<|.mv (.t 5)]
def cQd : C := (.seq (.aO adw false [] [0]) (.seq (.aO adu false [] [2]) .ret))
def qQd : fK := ⟨6,1,[.t 2],cQd⟩
/- cohesion/cohesionmake.Graph -/
def BM : List O :=[oo 4<|.new [.int .i64 0,.own 2 []]]
def BL : List O :=[oo 9<|.mv (.t 0),oo 10<|.mv (.t 1),oo 11<|.bin .add (.t 10) (ki 1),oo 12<|.call VN [.t 9,.t 11],oo 13<|.build [.int .i64 0,.own 2 []] [(0,1,.t 12)],oo 5<|.new [.int .i64 0,.own 2 []],oz<|.st 2 (.t 5) (.t 13)]
def BK : List O :=[oo 14<|.fX 0 (.t 5),oo 15<|.ld none (.t 14),oo 16<|.bin .lss (.t 15) (ki 4)]
def BJ : List O :=[oo 17<|.mv (.t 1),oo 18<|.fX 0 (.t 5),oo 19<|.ld none (.t 18),oo 20<|.mv (.t 0),oo 21<|.mv (.t 1),oo 22<|.bin .add (.t 21) (ki 1),oo 23<|.call VN [.t 20,.t 22],oo 24<|.bin .add (.t 19) (.t 23),oo 25<|.min [.t 17,.t 24],oo 26<|.fX 0 (.t 5),oz<|.st 1 (.t 26) (.t 25)]
def BI : List O :=[oo 27<|.mv (.t 0),oo 28<|.call VN [.t 27,ki 4],oo 29<|.bin .add (ki 1) (.t 28),oo 6<|.mv (.t 29)]
def BH : List O :=[oo 7<|.mv (ki 0)]
def BG : List O :=[oo 30<|.mv (.t 7),oo 31<|.fX 0 (.t 5),oo 32<|.ld none (.t 31),oo 33<|.bin .lss (.t 30) (.t 32)]
def BF : List O :=[oo 36<|.mv (.t 7),oo 37<|.bin .add (.t 36) (ki 1),oo 8<|.mv (.t 37)]
def BE : List O :=[oo 38<|.mv (.t 8),oo 39<|.fX 0 (.t 5),oo 40<|.ld none (.t 39),oo 41<|.bin .lss (.t 38) (.t 40)]
def BD : List O :=[oo 44<|.mv (.t 0),oo 45<|.call VN [.t 44,ki 5],oo 46<|.mv (.t 6),oo 47<|.bin .sub (ki 5) (.t 46),oo 48<|.bin .geq (.t 45) (.t 47)]
def uJ : List O :=[oo 49<|.fX 1 (.t 5),oo 50<|.ld none (.t 49),oo 51<|.mv (.t 7),oo 52<|.mv (.t 8),oo 53<|.build [.int .i64 0,.int .i64 0] [(0,1,.t 51),(1,1,.t 52)],oo 54<|.dY 2 1 [.int .i64 0,.int .i64 0] [(0,2,.t 53)],oo 55<|.app 2 (.t 50) (.t 54),oo 56<|.fX 1 (.t 5),oz<|.st 1 (.t 56) (.t 55)]
def uI : List O :=[oo 42<|.mv (.t 8),oo 43<|.bin .add (.t 42) (ki 1),oo 8<|.mv (.t 43)]
def F0 : C := (.seq (.seq (.aO BE false [] [0,4,5,6,7,8,41]) (.cond (.t 41) .skip (.exit 2))) (.seq (.aN 3 (.seq (.aO BD false [] [0,4,5,6,7,8,48]) (.cond (.t 48) (.aO uJ false [] [0,4,5,6,7,8]) .skip))) (.aO uI false [] [0,4,5,6,7,8])))
def uH : List O :=[oo 34<|.mv (.t 7),oo 35<|.bin .add (.t 34) (ki 1),oo 7<|.mv (.t 35)]
def Nn : C := (.seq (.seq (.aO BG false [] [0,4,5,6,7,33]) (.cond (.t 33) .skip (.exit 0))) (.seq (.aN 1 (.seq (.aO BF false [] [0,4,5,6,7,8]) (.aN 2 (.loop F0)))) (.aO uH false [] [0,4,5,6,7])))
def uG : List O :=[oo 57<|.ld (some 2) (.t 5),oz<|.st 2 (.t 4) (.t 57)]
def cQe : C := (.seq (.aO BM false [] [0,1,4]) (.seq (.aO BL false [] [0,1,4,5]) (.seq (.seq (.aO BK false [] [0,1,4,5,16]) (.cond (.t 16) (.aO BJ true [(8,8),(9,9),(10,10),(0,2),(2,3),(2,4),(2,5),(0,6),(1,6),(2,6)] [0,4,5]) .skip)) (.seq (.aO BI false [] [0,4,5,6]) (.seq (.seq (.aO BH false [] [0,4,5,6,7]) (.aN 0 (.loop Nn))) (.seq (.aO uG false [] [4]) .ret))))))
def qQe : fK := ⟨58,2,[.c 4 (some 2)],cQe⟩
/- cohesion/maxclique.Best -/
def Ik : List O :=[oo 1<|.box (.t 0),oo 2<|.mv (.k (.own 1 [])),oo 3<|.mv (ki 0)]
def Ij : List O :=[oo 12<|.ld (some 2) (.t 1),oo 13<|.call TQ [.t 12],oo 4<|.mv (.t 13)]
def Ii : List O :=[oo 14<|.mv (.t 4),oo 15<|.bin .neq (.t 14) (ki 0)]
def Ih : List O :=[oo 16<|.mv (.t 4),oo 2<|.mv (.k (.own 1 [])),oo 3<|.mv (.t 16)]
def Ig : List O :=[oo 17<|.ld (some 2) (.t 1),oo 18<|.call nQt [.t 17],oo 5<|.mv (.t 18)]
def Ie : List O :=[oo 19<|.fX 0 (.t 1),oo 20<|.ld none (.t 19),oo 21<|.bin .shl (.k (.int .u64 1)) (.t 20),oo 22<|.bin .sub (.t 21) (.k (.int .u64 1)),oo 6<|.mv (.t 22)]
def Ic : List O :=[oo 7<|.mv (.k (.own 1 []))]
def Ib : List O :=[oo 23<|.mv (.t 5),oo 24<|.mv (.t 6),oo 25<|.call nQu [.t 23,.t 24,ki 0],oo 8<|.mv (.t 25)]
def Ia : List O :=[oo 26<|.mv (.t 8),oo 27<|.bin .gtr (.t 26) (ki 0)]
def H9 : List O :=[oo 30<|.mv (.t 6),oo 9<|.mv (.t 30)]
def Av : List O :=[oo 31<|.mv (.t 9),oo 32<|.bin .neq (.t 31) (.k (.int .u64 0))]
def Au : List O :=[oo 37<|.mv (.t 9),oo 38<|.call YH [.t 37],oo 10<|.mv (.t 38)]
def As : List O :=[oo 39<|.mv (.t 9),oo 40<|.mv (.t 10),oo 41<|.bin .shl (.k (.int .u64 1)) (.t 40),oo 42<|.bin .andNot (.t 39) (.t 41),oo 43<|.mv (.t 5),oo 44<|.mv (.t 10),oo 45<|.fO 1 (.t 43) (.t 44),oo 46<|.ld none (.t 45),oo 47<|.bin .and (.t 42) (.t 46),oo 11<|.mv (.t 47)]
def Ar : List O :=[oo 48<|.mv (.t 5),oo 49<|.mv (.t 11),oo 50<|.mv (.t 8),oo 51<|.bin .sub (.t 50) (ki 2),oo 52<|.call nQu [.t 48,.t 49,.t 51],oo 53<|.mv (.t 8),oo 54<|.bin .sub (.t 53) (ki 1),oo 55<|.bin .geq (.t 52) (.t 54)]
def Aq : List O :=[oo 56<|.mv (.t 7),oo 57<|.mv (.t 10),oo 58<|.dY 1 1 [.int .i64 0] [(0,1,.t 57)],oo 59<|.app 1 (.t 56) (.t 58),oo 60<|.mv (.t 11),oo 7<|.mv (.t 59),oo 6<|.mv (.t 60)]
def Ap : List O :=[oo 33<|.mv (.t 9),oo 34<|.mv (.t 9),oo 35<|.bin .sub (.t 34) (.k (.int .u64 1)),oo 36<|.bin .and (.t 33) (.t 35),oo 9<|.mv (.t 36)]
def T9 : C := (.seq (.seq (.aO Av false [] [5,6,7,8,9,32]) (.cond (.t 32) .skip (.exit 2))) (.seq (.aN 3 (.seq (.aO Au false [] [5,6,7,8,9,10]) (.seq (.aO As true [(8,8),(9,9),(0,7),(1,7),(2,7),(3,7)] [5,6,7,8,9,10,11]) (.seq (.aO Ar false [] [5,6,7,8,9,10,11,55]) (.cond (.t 55) (.seq (.aO Aq false [] [5,6,7,8]) (.exit 2)) .skip))))) (.aO Ap false [] [5,6,7,8,9])))
def Ao : List O :=[oo 28<|.mv (.t 8),oo 29<|.bin .sub (.t 28) (ki 1),oo 8<|.mv (.t 29)]
def T8 : C := (.seq (.seq (.aO Ia false [] [5,6,7,8,27]) (.cond (.t 27) .skip (.exit 0))) (.seq (.aN 1 (.seq (.aO H9 false [] [5,6,7,8,9]) (.aN 2 (.loop T9)))) (.aO Ao false [] [5,6,7,8])))
def An : List O :=[oo 61<|.mv (.t 7),oo 2<|.mv (.t 61),oo 3<|.mv (ki 0)]
def cQf : C := (.seq (.aO Ik false [] [1]) (.seq (.seq (.aO Ij false [] [1,4]) (.seq (.aO Ii false [] [1,4,15]) (.cond (.t 15) (.seq (.aO Ih false [] [2,3]) .ret) .skip))) (.seq (.aO Ig false [] [1,5]) (.seq (.aO Ie false [] [5,6]) (.seq (.aO Ic false [] [5,6,7]) (.seq (.seq (.aO Ib false [] [5,6,7,8]) (.aN 0 (.loop T8))) (.seq (.aO An false [] [2,3]) .ret)))))))
def qQf : fK := ⟨62,1,[.t 2,.t 3],cQf⟩
/- cohesion/maxclique.Bound -/
def Sx : List O :=[oo 1<|.box (.t 0),oo 2<|.mv (ki 0),oo 3<|.mv (ki 0)]
def Sw : List O :=[oo 8<|.ld (some 2) (.t 1),oo 9<|.call MQ [.t 8],oo 7<|.mv (.t 9),oo 10<|.ext 0 (.t 7),oo 11<|.ext 1 (.t 7),oo 4<|.mv (.t 10),oo 5<|.mv (.t 11)]
def Sv : List O :=[oo 12<|.mv (.t 5),oo 13<|.bin .neq (.t 12) (ki 0),oo 14<|.mv (.t 13),gf 15 14<|.fX 0 (.t 1),gf 16 14<|.ld none (.t 15),gf 17 14<|.bin .eql (.t 16) (ki 0),oo 18<|.pick (.t 14) (.k (.bool true)) (.t 17)]
def Su : List O :=[oo 19<|.mv (.t 5),oo 2<|.mv (ki 0),oo 3<|.mv (.t 19)]
def Ss : List O :=[oo 21<|.ld (some 2) (.t 1),oo 22<|.call nQw [.t 21],oo 20<|.mv (.t 22),oo 23<|.ext 0 (.t 20),oo 24<|.ext 1 (.t 20),oo 6<|.mv (.t 23),oo 5<|.mv (.t 24)]
def Sr : List O :=[oo 25<|.mv (.t 5),oo 26<|.bin .neq (.t 25) (ki 0)]
def Sq : List O :=[oo 27<|.mv (.t 5),oo 2<|.mv (ki 0),oo 3<|.mv (.t 27)]
def Sp : List O :=[oo 28<|.mv (.t 4),oo 29<|.call nQx [.t 28],oo 30<|.len (.t 29),oo 31<|.mv (.t 6),oo 32<|.bin .add (.t 31) (ki 1),oo 33<|.min [.t 30,.t 32],oo 2<|.mv (.t 33),oo 3<|.mv (ki 0)]
def cQg : C := (.seq (.aO Sx false [] [1]) (.seq (.aO Sw false [] [1,4,5]) (.seq (.seq (.aO Sv false [] [1,4,5,18]) (.cond (.t 18) (.seq (.aO Su false [] [2,3]) .ret) .skip)) (.seq (.aO Ss false [] [4,5,6]) (.seq (.seq (.aO Sr false [] [4,5,6,26]) (.cond (.t 26) (.seq (.aO Sq false [] [2,3]) .ret) .skip)) (.seq (.aO Sp false [] [2,3]) .ret))))))
def qQg : fK := ⟨34,1,[.t 2,.t 3],cQg⟩
/- cohesion/maxclique.Colours -/
def adt : List O :=[oo 1<|.box (.t 0),oo 2<|.mv (.k (.own 1 [])),oo 3<|.mv (ki 0)]
def ads : List O :=[oo 7<|.ld (some 2) (.t 1),oo 8<|.call nQy [.t 7],oo 6<|.mv (.t 8),oo 9<|.ext 0 (.t 6),oo 10<|.ext 1 (.t 6),oo 4<|.mv (.t 9),oo 5<|.mv (.t 10)]
def adr : List O :=[oo 11<|.mv (.t 5),oo 12<|.bin .neq (.t 11) (ki 0)]
def adq : List O :=[oo 13<|.mv (.t 5),oo 2<|.mv (.k (.own 1 [])),oo 3<|.mv (.t 13)]
def adp : List O :=[oo 14<|.mv (.t 4),oo 15<|.call nQz [.t 14]]
def ado : List O :=[oo 16<|.ld (some 2) (.t 1),oo 17<|.mv (.t 4),oo 18<|.call YI [.t 16,.t 17],oo 19<|.ext 0 (.t 18),oo 20<|.ext 1 (.t 18),oo 2<|.mv (.t 19),oo 3<|.mv (.t 20)]
def cQh : C := (.seq (.aO adt false [] [1]) (.seq (.aO ads false [] [1,4,5]) (.seq (.seq (.aO adr false [] [1,4,5,12]) (.cond (.t 12) (.seq (.aO adq false [] [2,3]) .ret) .skip)) (.seq (.aO adp false [] [1,4]) (.seq (.aO ado false [] [2,3]) .ret)))))
def qQh : fK := ⟨21,1,[.t 2,.t 3],cQh⟩
/- cohesion/maxclique.Colour -/
def DT : List O :=[oo 2<|.box (.t 0),oo 4<|.mv (.k (.own 1 [])),oo 5<|.mv (ki 0)]
def DS : List O :=[oo 13<|.ld (some 2) (.t 2),oo 14<|.call TQ [.t 13],oo 6<|.mv (.t 14)]
def DR : List O :=[oo 15<|.mv (.t 6),oo 16<|.bin .neq (.t 15) (ki 0)]
def DQ : List O :=[oo 17<|.mv (.t 6),oo 4<|.mv (.k (.own 1 [])),oo 5<|.mv (.t 17)]
def DP : List O :=[oo 18<|.mv (.t 1),oo 19<|.len (.t 18),oo 20<|.fX 0 (.t 2),oo 21<|.ld none (.t 20),oo 22<|.bin .neq (.t 19) (.t 21),oo 23<|.mv (.t 22),gf 24 23<|.mv (.t 1),gf 25 23<|.call nQx [.t 24],gf 26 23<|.fX 0 (.t 2),gf 27 23<|.ld none (.t 26),gf 28 23<|.call nQB [.t 27],gf 29 23<|.call nQA [.t 25,.t 28],gf 30 23<|.un .not (.t 29),oo 31<|.pick (.t 23) (.k (.bool true)) (.t 30)]
def DO : List O :=[oo 4<|.mv (.k (.own 1 [])),oo 5<|.mv (ki 4)]
def DN : List O :=[oo 32<|.dY 1 1 [.int .i64 0] [(0,1,.k (.int .i64 (-1)))],oo 33<|.fX 0 (.t 2),oo 34<|.ld none (.t 33),oo 35<|.call nQC [.t 32,.t 34],oo 7<|.mv (.t 35)]
def DM : List O :=[oo 36<|.mv (.t 1),oo 37<|.len (.t 36),oo 38<|.mv (ki 0)]
def DL : List O :=[oo 39<|.bin .lss (.t 38) (.t 37)]
def DK : List O :=[oo 40<|.fO 1 (.t 36) (.t 38),oo 41<|.ld none (.t 40),oo 9<|.mv (.t 41)]
def xH : List O :=[oo 10<|.new [.bool false,.bool false,.bool false,.bool false,.bool false,.bool false,.bool false,.bool false,.bool false,.bool false,.bool false,.bool false,.bool false,.bool false,.bool false,.bool false,.bool false,.bool false,.bool false,.bool false,.bool false,.bool false,.bool false,.bool false,.bool false,.bool false,.bool false,.bool false,.bool false,.bool false,.bool false,.bool false,.bool false,.bool false,.bool false,.bool false,.bool false,.bool false,.bool false,.bool false,.bool false,.bool false,.bool false,.bool false,.bool false,.bool false,.bool false,.bool false,.bool false,.bool false,.bool false,.bool false,.bool false,.bool false,.bool false,.bool false,.bool false,.bool false,.bool false,.bool false,.bool false,.bool false,.bool false,.bool false,.bool false]]
def xG : List O :=[oo 42<|.ld (some 2) (.t 2),oo 43<|.mv (.t 9),oo 44<|.call nQD [.t 42,.t 43],oo 45<|.len (.t 44),oo 46<|.mv (ki 0)]
def xF : List O :=[oo 47<|.bin .lss (.t 46) (.t 45)]
def xE : List O :=[oo 48<|.fO 1 (.t 44) (.t 46),oo 49<|.ld none (.t 48),oo 12<|.mv (.t 49)]
def xD : List O :=[oo 50<|.mv (.t 7),oo 51<|.mv (.t 12),oo 52<|.fO 1 (.t 50) (.t 51),oo 53<|.ld none (.t 52),oo 54<|.bin .geq (.t 53) (ki 0)]
def xC : List O :=[oo 55<|.mv (.t 7),oo 56<|.mv (.t 12),oo 57<|.fO 1 (.t 55) (.t 56),oo 58<|.ld none (.t 57),oo 59<|.Cy 65 1 (.t 10) (.t 58),oz<|.st 1 (.t 59) (.k (.bool true))]
def xB : List O :=[oo 60<|.bin .add (.t 46) (ki 1),oo 46<|.mv (.t 60)]
def I4 : C := (.seq (.aO xF false [] [2,7,9,10,36,37,38,44,45,46,47]) (.seq (.cond (.t 47) .skip (.exit 2)) (.seq (.aN 3 (.seq (.aO xE false [] [2,7,9,10,12,36,37,38,44,45,46]) (.seq (.aO xD false [] [2,7,9,10,12,36,37,38,44,45,46,54]) (.cond (.t 54) (.aO xC false [] [2,7,9,10,36,37,38,44,45,46]) .skip)))) (.aO xB false [] [2,7,9,10,36,37,38,44,45,46]))))
def xA : List O :=[oo 61<|.mv (.t 7),oo 62<|.mv (.t 9),oo 63<|.HK 65 (.t 10) none,oo 64<|.call nQE [.t 63,.k (.bool false)],oo 65<|.fO 1 (.t 61) (.t 62),oz<|.st 1 (.t 65) (.t 64)]
def xz : List O :=[oo 66<|.bin .add (.t 38) (ki 1),oo 38<|.mv (.t 66)]
def Nl : C := (.seq (.aO DL false [] [2,7,36,37,38,39]) (.seq (.cond (.t 39) .skip (.exit 0)) (.seq (.aN 1 (.seq (.aO DK false [] [2,7,9,36,37,38]) (.seq (.aO xH false [] [2,7,9,10,36,37,38]) (.seq (.seq (.aO xG false [] [2,7,9,10,36,37,38,44,45,46]) (.aN 2 (.loop I4))) (.aO xA false [] [2,7,36,37,38]))))) (.aO xz false [] [2,7,36,37,38]))))
def xy : List O :=[oo 67<|.mv (.t 7),oo 4<|.mv (.t 67),oo 5<|.mv (ki 0)]
def cQi : C := (.seq (.aO DT false [] [1,2]) (.seq (.seq (.aO DS false [] [1,2,6]) (.seq (.aO DR false [] [1,2,6,16]) (.cond (.t 16) (.seq (.aO DQ false [] [4,5]) .ret) .skip))) (.seq (.seq (.aO DP true [(4,4),(5,5),(10,10),(11,11),(12,12),(13,13),(0,3),(1,3),(7,8),(6,9),(7,9)] [1,2,31]) (.cond (.t 31) (.seq (.aO DO false [] [4,5]) .ret) .skip)) (.seq (.aO DN false [] [1,2,7]) (.seq (.seq (.aO DM false [] [2,7,36,37,38]) (.aN 0 (.loop Nl))) (.seq (.aO xy false [] [4,5]) .ret))))))
def qQi : fK := ⟨68,2,[.t 4,.t 5],cQi⟩
/- cohesion/cohesionmake.Order -/
def Sn : List O :=[oo 4<|.mv (.k (.own 1 []))]
def Sm : List O :=[oo 5<|.mv (.k (.own 1 []))]
def Sl : List O :=[oo 6<|.mv (ki 0)]
def Sk : List O :=[oo 8<|.mv (.t 6),oo 9<|.mv (.t 1),oo 10<|.bin .lss (.t 8) (.t 9)]
def Sj : List O :=[oo 13<|.mv (.t 0),oo 14<|.mv (.t 6),oo 15<|.bin .add (.t 14) (ki 1),oo 16<|.call VN [.t 13,.t 15],oo 7<|.mv (.t 16)]
def Si : List O :=[oo 17<|.mv (.t 5),oo 18<|.mv (.t 7),oo 19<|.yG 1 (.t 17) none (some (.t 18)),oo 20<|.mv (.t 6),oo 21<|.dY 1 1 [.int .i64 0] [(0,1,.t 20)],oo 22<|.mv (.t 5),oo 23<|.mv (.t 7),oo 24<|.yG 1 (.t 22) (some (.t 23)) none,oo 25<|.app 1 (.t 21) (.t 24),oo 26<|.app 1 (.t 19) (.t 25),oo 5<|.mv (.t 26)]
def Sh : List O :=[oo 11<|.mv (.t 6),oo 12<|.bin .add (.t 11) (ki 1),oo 6<|.mv (.t 12)]
def Nk : C := (.seq (.seq (.aO Sk false [] [0,1,5,6,10]) (.cond (.t 10) .skip (.exit 0))) (.seq (.aN 1 (.seq (.aO Sj false [] [0,1,5,6,7]) (.aO Si true [(9,9),(10,10),(0,4),(1,4),(2,4),(4,5),(4,6),(4,7),(0,8),(1,8),(2,8)] [0,1,5,6]))) (.aO Sh false [] [0,1,5,6])))
def Sg : List O :=[oo 27<|.mv (.t 5),oo 4<|.mv (.t 27)]
def cQj : C := (.seq (.aO Sn false [] [0,1]) (.seq (.aO Sm false [] [0,1,5]) (.seq (.seq (.aO Sl false [] [0,1,5,6]) (.aN 0 (.loop Nk))) (.seq (.aO Sg false [] [4]) .ret))))
def qQj : fK := ⟨28,2,[.t 4],cQj⟩
/- cohesion/cohesionref10.Degeneracy -/
def Sf : List O :=[oo 1<|.box (.t 0),oo 2<|.mv (ki 0),oo 3<|.mv (ki 0)]
def Se : List O :=[oo 10<|.ld (some 2) (.t 1),oo 11<|.call nQF [.t 10],oo 9<|.mv (.t 11),oo 12<|.ext 0 (.t 9),oo 13<|.ext 1 (.t 9),oo 4<|.mv (.t 12),oo 5<|.mv (.t 13)]
def Sd : List O :=[oo 6<|.mv (ki 0)]
def Sc : List O :=[oo 14<|.mv (.t 4),oo 15<|.len (.t 14),oo 16<|.mv (ki 0)]
def Sb : List O :=[oo 17<|.bin .lss (.t 16) (.t 15)]
def Sa : List O :=[oo 18<|.fO 1 (.t 14) (.t 16),oo 19<|.ld none (.t 18),oo 8<|.mv (.t 19)]
def R9 : List O :=[oo 20<|.mv (.t 6),oo 21<|.mv (.t 8),oo 22<|.max [.t 20,.t 21],oo 6<|.mv (.t 22)]
def R8 : List O :=[oo 23<|.bin .add (.t 16) (ki 1),oo 16<|.mv (.t 23)]
def T7 : C := (.seq (.aO Sb false [] [5,6,14,15,16,17]) (.seq (.cond (.t 17) .skip (.exit 0)) (.seq (.aN 1 (.seq (.aO Sa false [] [5,6,8,14,15,16]) (.aO R9 false [] [5,6,14,15,16]))) (.aO R8 false [] [5,6,14,15,16]))))
def R7 : List O :=[oo 24<|.mv (.t 6),oo 25<|.mv (.t 5),oo 2<|.mv (.t 24),oo 3<|.mv (.t 25)]
def cQk : C := (.seq (.aO Sf false [] [1]) (.seq (.aO Se false [] [4,5]) (.seq (.aO Sd false [] [4,5,6]) (.seq (.seq (.aO Sc false [] [5,6,14,15,16]) (.aN 0 (.loop T7))) (.seq (.aO R7 false [] [2,3]) .ret)))))
def qQk : fK := ⟨26,1,[.t 2,.t 3],cQk⟩
/- cohesion/maxclique.Above -/
def R6 : List O :=[oo 3<|.box (.t 0),oo 6<|.mv (.k (.bool false)),oo 7<|.mv (ki 0)]
def R5 : List O :=[oo 13<|.ld (some 2) (.t 3),oo 14<|.call TQ [.t 13],oo 8<|.mv (.t 14)]
def R4 : List O :=[oo 15<|.mv (.t 8),oo 16<|.bin .neq (.t 15) (ki 0)]
def R0 : List O :=[oo 17<|.mv (.t 8),oo 6<|.mv (.k (.bool false)),oo 7<|.mv (.t 17)]
def RZ : List O :=[oo 18<|.ld (some 2) (.t 3),oo 19<|.mv (.t 1),oo 20<|.call nQG [.t 18,.t 19],oo 21<|.un .not (.t 20)]
def RY : List O :=[oo 6<|.mv (.k (.bool false)),oo 7<|.mv (ki 4)]
def RX : List O :=[oo 22<|.ld (some 2) (.t 3),oo 23<|.call nQt [.t 22],oo 9<|.mv (.t 23)]
def RW : List O :=[oo 24<|.fX 0 (.t 3),oo 25<|.ld none (.t 24),oo 26<|.bin .shl (.k (.int .u64 1)) (.t 25),oo 27<|.bin .sub (.t 26) (.k (.int .u64 1)),oo 10<|.mv (.t 27)]
def RV : List O :=[oo 28<|.mv (.t 1),oo 29<|.len (.t 28),oo 30<|.mv (ki 0)]
def RU : List O :=[oo 31<|.bin .lss (.t 30) (.t 29)]
def J7 : List O :=[oo 32<|.fO 1 (.t 28) (.t 30),oo 33<|.ld none (.t 32),oo 12<|.mv (.t 33)]
def J6 : List O :=[oo 34<|.mv (.t 10),oo 35<|.mv (.t 9),oo 36<|.mv (.t 12),oo 37<|.fO 1 (.t 35) (.t 36),oo 38<|.ld none (.t 37),oo 39<|.bin .and (.t 34) (.t 38),oo 10<|.mv (.t 39)]
def J5 : List O :=[oo 40<|.bin .add (.t 30) (ki 1),oo 30<|.mv (.t 40)]
def T6 : C := (.seq (.aO RU false [] [1,2,9,10,28,29,30,31]) (.seq (.cond (.t 31) .skip (.exit 0)) (.seq (.aN 1 (.seq (.aO J7 false [] [1,2,9,10,12,28,29,30]) (.aO J6 false [] [1,2,9,10,28,29,30]))) (.aO J5 false [] [1,2,9,10,28,29,30]))))
def J4 : List O :=[oo 41<|.mv (.t 1),oo 42<|.len (.t 41),oo 43<|.mv (.t 9),oo 44<|.mv (.t 10),oo 45<|.call nQu [.t 43,.t 44,ki 0],oo 46<|.bin .add (.t 42) (.t 45),oo 47<|.mv (.t 2),oo 48<|.bin .geq (.t 46) (.t 47),oo 6<|.mv (.t 48),oo 7<|.mv (ki 0)]
def cQl : C := (.seq (.aO R6 false [] [1,2,3]) (.seq (.seq (.aO R5 false [] [1,2,3,8]) (.seq (.aO R4 false [] [1,2,3,8,16]) (.cond (.t 16) (.seq (.aO R0 false [] [6,7]) .ret) .skip))) (.seq (.seq (.aO RZ false [] [1,2,3,21]) (.cond (.t 21) (.seq (.aO RY false [] [6,7]) .ret) .skip)) (.seq (.aO RX false [] [1,2,3,9]) (.seq (.aO RW false [] [1,2,9,10]) (.seq (.seq (.aO RV false [] [1,2,9,10,28,29,30]) (.aN 0 (.loop T6))) (.seq (.aO J4 false [] [6,7]) .ret)))))))
def qQl : fK := ⟨49,3,[.t 6,.t 7],cQl⟩
/- cohesion/cohesionref24.Maximal -/
def BC : List O :=[oo 2<|.box (.t 0),oo 4<|.mv (.k (.bool false))]
def BB : List O :=[oo 6<|.ld (some 2) (.t 2),oo 7<|.mv (.t 1),oo 8<|.call nQH [.t 6,.t 7],oo 9<|.un .not (.t 8),oo 10<|.mv (.t 9),gf 11 10<|.mv (.t 1),gf 12 10<|.len (.t 11),gf 13 10<|.bin .eql (.t 12) (ki 0),oo 14<|.pick (.t 10) (.k (.bool true)) (.t 13)]
def BA : List O :=[oo 4<|.mv (.k (.bool false))]
def Bz : List O :=[oo 5<|.mv (ki 0)]
def Bw : List O :=[oo 15<|.mv (.t 5),oo 16<|.fX 0 (.t 2),oo 17<|.ld none (.t 16),oo 18<|.bin .lss (.t 15) (.t 17)]
def Bv : List O :=[oo 21<|.ld (some 2) (.t 2),oo 22<|.mv (.t 1),oo 23<|.mv (.t 5),oo 24<|.call nQI [.t 21,.t 22,.t 23]]
def Bu : List O :=[oo 4<|.mv (.k (.bool false))]
def Bt : List O :=[oo 19<|.mv (.t 5),oo 20<|.bin .add (.t 19) (ki 1),oo 5<|.mv (.t 20)]
def Nj : C := (.seq (.seq (.aO Bw false [] [1,2,5,18]) (.cond (.t 18) .skip (.exit 0))) (.seq (.aN 1 (.seq (.aO Bv false [] [1,2,5,24]) (.cond (.t 24) (.seq (.aO Bu false [] [4]) .ret) .skip))) (.aO Bt false [] [1,2,5])))
def Bs : List O :=[oo 4<|.mv (.k (.bool true))]
def cQm : C := (.seq (.aO BC false [] [1,2]) (.seq (.seq (.aO BB false [] [1,2,14]) (.cond (.t 14) (.seq (.aO BA false [] [4]) .ret) .skip)) (.seq (.seq (.aO Bz false [] [1,2,5]) (.aN 0 (.loop Nj))) (.seq (.aO Bs false [] [4]) .ret))))
def qQm : fK := ⟨25,2,[.t 4],cQm⟩
/- cohesion/maxclique.Proper -/
def adn : List O :=[oo 2<|.box (.t 0),oo 3<|.box (.t 1),oo 4<|.mv (.k (.bool false))]
def adm : List O :=[oo 5<|.ld (some 2) (.t 2),oo 6<|.call TQ [.t 5],oo 7<|.bin .neq (.t 6) (ki 0),oo 8<|.mv (.t 7),gf 9 8<|.ld none (.t 3),gf 10 8<|.len (.t 9),gf 11 8<|.fX 0 (.t 2),gf 12 8<|.ld none (.t 11),gf 13 8<|.bin .neq (.t 10) (.t 12),oo 14<|.pick (.t 8) (.k (.bool true)) (.t 13),oo 15<|.mv (.t 14),gf 16 15<|.ld none (.t 3),gf 17 15<|.call nQJ [.t 16,.k (.func (.func YL) [] [])],oo 18<|.pick (.t 15) (.k (.bool true)) (.t 17)]
def adl : List O :=[oo 4<|.mv (.k (.bool false))]
def adk : List O :=[oo 19<|.fX 1 (.t 2),oo 20<|.ld none (.t 19),oo 21<|.OS (.func YK) [] [.t 3],oo 22<|.call nQL [.t 20,.t 21],oo 23<|.un .not (.t 22),oo 4<|.mv (.t 23)]
def cQn : C := (.seq (.aO adn false [] [2,3]) (.seq (.seq (.aO adm false [] [2,3,18]) (.cond (.t 18) (.seq (.aO adl false [] [4]) .ret) .skip)) (.seq (.aO adk false [] [4]) .ret)))
def qQn : fK := ⟨24,2,[.t 4],cQn⟩
/- cohesion/cohesionref02.Of -/
def DJ : List O :=[oo 2<|.mv (.k (.own 1 []))]
def DI : List O :=[oo 3<|.mv (.k (.own 1 []))]
def DH : List O :=[oo 6<|.mv (.t 0),oo 7<|.len (.t 6),oo 8<|.mv (ki 0)]
def DG : List O :=[oo 9<|.bin .lss (.t 8) (.t 7)]
def DF : List O :=[oo 10<|.fO 1 (.t 6) (.t 8),oo 11<|.ld none (.t 10),oo 5<|.mv (.t 11)]
def DE : List O :=[oo 12<|.mv (.t 3),oo 13<|.mv (.t 5),oo 14<|.call nQN [.t 12,.t 13],oo 3<|.mv (.t 14)]
def DD : List O :=[oo 15<|.bin .add (.t 8) (ki 1),oo 8<|.mv (.t 15)]
def FZ : C := (.seq (.aO DG false [] [3,6,7,8,9]) (.seq (.cond (.t 9) .skip (.exit 0)) (.seq (.aN 1 (.seq (.aO DF false [] [3,5,6,7,8]) (.aO DE false [] [3,6,7,8]))) (.aO DD false [] [3,6,7,8]))))
def DC : List O :=[oo 16<|.mv (.t 3),oo 2<|.mv (.t 16)]
def cQo : C := (.seq (.aO DJ false [] [0]) (.seq (.aO DI false [] [0,3]) (.seq (.seq (.aO DH false [] [3,6,7,8]) (.aN 0 (.loop FZ))) (.seq (.aO DC false [] [2]) .ret))))
def qQo : fK := ⟨17,1,[.t 2],cQo⟩
/- cohesion/cohesionref03.Of -/
def ahT : List O :=[oo 4<|.new [.int .i64 0,.own 2 []],oo 5<|.mv (ki 0)]
def ahS : List O :=[oo 9<|.mv (.t 0),oo 10<|.bin .lss (.t 9) (ki 0),oo 11<|.mv (.t 10),gf 12 11<|.mv (.t 0),gf 13 11<|.bin .gtr (.t 12) (ki 64),oo 14<|.pick (.t 11) (.k (.bool true)) (.t 13)]
def ahR : List O :=[oo 15<|.build [.int .i64 0,.own 2 []] [],oz<|.st 2 (.t 4) (.t 15),oo 5<|.mv (ki 1)]
def ahQ : List O :=[oo 16<|.mv (.t 0),oo 17<|.build [.int .i64 0,.own 2 []] [(0,1,.t 16)],oo 6<|.new [.int .i64 0,.own 2 []],oz<|.st 2 (.t 6) (.t 17)]
def ahP : List O :=[oo 18<|.mv (.t 1),oo 19<|.len (.t 18),oo 20<|.mv (ki 0)]
def ahO : List O :=[oo 21<|.bin .lss (.t 20) (.t 19)]
def ahN : List O :=[oo 22<|.fO 2 (.t 18) (.t 20),oo 23<|.ld (some 2) (.t 22),oo 8<|.new [.int .i64 0,.int .i64 0],oz<|.st 2 (.t 8) (.t 23)]
def ahM : List O :=[oo 24<|.mv (.t 0),oo 25<|.fX 0 (.t 8),oo 26<|.ld none (.t 25),oo 27<|.fX 1 (.t 8),oo 28<|.ld none (.t 27),oo 29<|.call nQO [.t 24,.t 26,.t 28],oo 30<|.un .not (.t 29)]
def ahL : List O :=[oo 31<|.build [.int .i64 0,.own 2 []] [],oz<|.st 2 (.t 4) (.t 31),oo 5<|.mv (ki 6)]
def ahK : List O :=[oo 32<|.fX 1 (.t 6),oo 33<|.ld none (.t 32),oo 34<|.fX 0 (.t 8),oo 35<|.ld none (.t 34),oo 36<|.fX 1 (.t 8),oo 37<|.ld none (.t 36),oo 38<|.call nQQ [.t 35,.t 37],oo 39<|.call nQP [.t 33,.t 38],oo 40<|.fX 1 (.t 6),oz<|.st 1 (.t 40) (.t 39)]
def ae8 : List O :=[oo 41<|.bin .add (.t 20) (ki 1),oo 20<|.mv (.t 41)]
def aiy : C := (.seq (.aO ahO false [] [0,4,6,18,19,20,21]) (.seq (.cond (.t 21) .skip (.exit 0)) (.seq (.aN 1 (.seq (.aO ahN false [] [0,4,6,8,18,19,20]) (.seq (.seq (.aO ahM false [] [0,4,6,8,18,19,20,30]) (.cond (.t 30) (.seq (.aO ahL false [] [4,5]) .ret) .skip)) (.aO ahK true [(7,7),(8,8),(9,9),(1,2),(0,3),(1,3),(1,4),(3,4),(0,5),(1,5),(2,5),(3,5),(0,6),(1,6)] [0,4,6,18,19,20])))) (.aO ae8 false [] [0,4,6,18,19,20]))))
def ae7 : List O :=[oo 42<|.ld (some 2) (.t 6),oz<|.st 2 (.t 4) (.t 42),oo 5<|.mv (ki 0)]
def cQp : C := (.seq (.aO ahT false [] [0,1,4]) (.seq (.seq (.aO ahS false [] [0,1,4,14]) (.cond (.t 14) (.seq (.aO ahR false [] [4,5]) .ret) .skip)) (.seq (.aO ahQ false [] [0,1,4,6]) (.seq (.seq (.aO ahP false [] [0,4,6,18,19,20]) (.aN 0 (.loop aiy))) (.seq (.aO ae7 false [] [4,5]) .ret)))))
def qQp : fK := ⟨43,2,[.c 4 (some 2),.t 5],cQp⟩
/- cohesion/cohesionref02.Cmp -/
def ahJ : List O :=[oo 4<|.mv (ki 0)]
def ahI : List O :=[oo 6<|.mv (.t 0),oo 7<|.len (.t 6),oo 8<|.mv (ki 0)]
def ahH : List O :=[oo 9<|.bin .lss (.t 8) (.t 7)]
def ahG : List O :=[oo 10<|.mv (.t 8),oo 5<|.mv (.t 10)]
def ahF : List O :=[oo 12<|.mv (.t 5),oo 13<|.mv (.t 1),oo 14<|.len (.t 13),oo 15<|.bin .geq (.t 12) (.t 14),oo 16<|.mv (.t 15),gf 17 16<|.mv (.t 0),gf 18 16<|.mv (.t 5),gf 19 16<|.fO 1 (.t 17) (.t 18),gf 20 16<|.ld none (.t 19),gf 21 16<|.mv (.t 1),gf 22 16<|.mv (.t 5),gf 23 16<|.fO 1 (.t 21) (.t 22),gf 24 16<|.ld none (.t 23),gf 25 16<|.bin .gtr (.t 20) (.t 24),oo 26<|.pick (.t 16) (.k (.bool true)) (.t 25),oo 11<|.mv (.t 26)]
def ahE : List O :=[oo 4<|.mv (ki 1)]
def ahD : List O :=[oo 28<|.mv (.t 0),oo 29<|.mv (.t 5),oo 30<|.fO 1 (.t 28) (.t 29),oo 31<|.ld none (.t 30),oo 32<|.mv (.t 1),oo 33<|.mv (.t 5),oo 34<|.fO 1 (.t 32) (.t 33),oo 35<|.ld none (.t 34),oo 36<|.bin .lss (.t 31) (.t 35),oo 27<|.mv (.t 36)]
def ahC : List O :=[oo 4<|.mv (.k (.int .i64 (-1)))]
def ahB : List O :=[oo 37<|.bin .add (.t 8) (ki 1),oo 8<|.mv (.t 37)]
def aix : C := (.seq (.aO ahH false [] [0,1,7,8,9]) (.seq (.cond (.t 9) .skip (.exit 0)) (.seq (.aN 1 (.seq (.aO ahG false [] [0,1,5,7,8]) (.aN 2 (.seq (.aO ahF true [(3,3),(4,4),(13,13),(14,14),(15,15),(8,9),(8,10),(8,11),(5,12),(6,12),(7,12),(8,12)] [0,1,5,7,8,11]) (.cond (.t 11) (.seq (.aO ahE false [] [4]) .ret) (.seq (.aO ahD true [(8,8),(9,9),(3,4),(3,5),(3,6),(0,7),(1,7),(2,7),(3,7)] [0,1,7,8,27]) (.cond (.t 27) (.seq (.aO ahC false [] [4]) .ret) .skip))))))) (.aO ahB false [] [0,1,7,8]))))
def ahA : List O :=[oo 38<|.mv (.t 0),oo 39<|.len (.t 38),oo 40<|.mv (.t 1),oo 41<|.len (.t 40),oo 42<|.bin .lss (.t 39) (.t 41)]
def ae6 : List O :=[oo 4<|.mv (.k (.int .i64 (-1)))]
def ae5 : List O :=[oo 4<|.mv (ki 0)]
def cQq : C := (.seq (.aO ahJ false [] [0,1]) (.seq (.seq (.aO ahI false [] [0,1,7,8]) (.aN 0 (.loop aix))) (.seq (.seq (.aO ahA false [] [42]) (.cond (.t 42) (.seq (.aO ae6 false [] [4]) .ret) .skip)) (.seq (.aO ae5 false [] [4]) .ret))))
def qQq : fK := ⟨43,2,[.t 4],cQq⟩
/- (*cohesion/cohesionmake.Deck).Next -/
def RT : List O :=[oo 4<|.mv (ki 0)]
def RS : List O :=[oo 6<|.mv (.t 1),oo 7<|.bin .lss (.t 6) (ki 1),oo 8<|.mv (.t 7),gf 9 8<|.mv (.t 0),gf 10 8<|.lK (.t 9),gf 11 8<|.fX 1 (.t 10),gf 12 8<|.ld none (.t 11),gf 13 8<|.mv (.t 0),gf 14 8<|.lK (.t 13),gf 15 8<|.fX 0 (.t 14),gf 16 8<|.ld none (.t 15),gf 17 8<|.len (.t 16),gf 18 8<|.bin .geq (.t 12) (.t 17),oo 19<|.pick (.t 8) (.k (.bool true)) (.t 18)]
def RR : List O :=[oo 4<|.mv (ki 0)]
def RQ : List O :=[oo 20<|.mv (.t 0),oo 21<|.lK (.t 20),oo 22<|.fX 0 (.t 21),oo 23<|.ld none (.t 22),oo 24<|.mv (.t 0),oo 25<|.lK (.t 24),oo 26<|.fX 1 (.t 25),oo 27<|.ld none (.t 26),oo 28<|.fO 1 (.t 23) (.t 27),oo 29<|.ld none (.t 28),oo 5<|.mv (.t 29)]
def RP : List O :=[oo 30<|.mv (.t 0),oo 31<|.lK (.t 30),oo 32<|.fX 1 (.t 31),oo 33<|.ld none (.t 32),oo 34<|.bin .add (.t 33) (ki 1),oo 35<|.lK (.t 30),oo 36<|.fX 1 (.t 35),oz<|.st 1 (.t 36) (.t 34)]
def RO : List O :=[oo 37<|.mv (.t 5),oo 38<|.mv (.t 1),oo 39<|.call nQR [.t 37,.t 38],oo 4<|.mv (.t 39)]
def cQr : C := (.seq (.aO RT false [] [0,1]) (.seq (.seq (.aO RS true [(0,0),(1,1),(2,2),(12,12),(13,13),(6,7),(6,8),(6,9),(3,10),(4,10),(5,10),(6,10),(6,11)] [0,1,19]) (.cond (.t 19) (.seq (.aO RR false [] [4]) .ret) .skip)) (.seq (.aO RQ true [(8,8),(9,9),(10,10),(3,4),(3,5),(3,6),(0,7),(1,7),(2,7),(3,7)] [0,1,5]) (.seq (.aO RP false [] [1,5]) (.seq (.aO RO false [] [4]) .ret)))))
def qQr : fK := ⟨40,2,[.t 4],cQr⟩
/- cohesion/graph.Check -/
def tA : List O :=[oo 1<|.box (.t 0),oo 2<|.mv (ki 0)]
def tx : List O :=[oo 5<|.fX 0 (.t 1),oo 6<|.ld none (.t 5),oo 7<|.bin .lss (.t 6) (ki 0),oo 8<|.mv (.t 7),gf 9 8<|.fX 0 (.t 1),gf 10 8<|.ld none (.t 9),gf 11 8<|.bin .gtr (.t 10) (ki 64),oo 12<|.pick (.t 8) (.k (.bool true)) (.t 11)]
def tw : List O :=[oo 2<|.mv (ki 1)]
def tv : List O :=[oo 13<|.fX 1 (.t 1),oo 14<|.ld none (.t 13),oo 15<|.len (.t 14),oo 16<|.mv (ki 0)]
def tu : List O :=[oo 17<|.bin .lss (.t 16) (.t 15)]
def tt : List O :=[oo 18<|.mv (.t 16),oo 19<|.fO 2 (.t 14) (.t 16),oo 20<|.ld (some 2) (.t 19),oo 4<|.new [.int .i64 0,.int .i64 0],oo 3<|.mv (.t 18),oz<|.st 2 (.t 4) (.t 20)]
def tr : List O :=[oo 22<|.fX 0 (.t 4),oo 23<|.ld none (.t 22),oo 24<|.bin .lss (.t 23) (ki 0),oo 25<|.mv (.t 24),gf 26 25<|.fX 0 (.t 4),gf 27 25<|.ld none (.t 26),gf 28 25<|.fX 1 (.t 4),gf 29 25<|.ld none (.t 28),gf 30 25<|.bin .geq (.t 27) (.t 29),oo 31<|.pick (.t 25) (.k (.bool true)) (.t 30),oo 32<|.mv (.t 31),gf 33 32<|.fX 1 (.t 4),gf 34 32<|.ld none (.t 33),gf 35 32<|.fX 0 (.t 1),gf 36 32<|.ld none (.t 35),gf 37 32<|.bin .geq (.t 34) (.t 36),oo 38<|.pick (.t 32) (.k (.bool true)) (.t 37),oo 21<|.mv (.t 38)]
def tq : List O :=[oo 2<|.mv (ki 6)]
def tp : List O :=[oo 40<|.mv (.t 3),oo 41<|.bin .gtr (.t 40) (ki 0),oo 42<|.mv (.t 41),gt 43 42<|.fX 1 (.t 1),gt 44 42<|.ld none (.t 43),gt 45 42<|.mv (.t 3),gt 46 42<|.bin .sub (.t 45) (ki 1),gt 47 42<|.fO 2 (.t 44) (.t 46),gt 48 42<|.ld (some 2) (.t 47),gt 49 42<|.ld (some 2) (.t 4),gt 50 42<|.call nQS [.t 48,.t 49],gt 51 42<|.bin .geq (.t 50) (ki 0),oo 52<|.pick (.t 42) (.t 51) (.k (.bool false)),oo 39<|.mv (.t 52)]
def tn : List O :=[oo 2<|.mv (ki 5)]
def n7 : List O :=[oo 53<|.bin .add (.t 16) (ki 1),oo 16<|.mv (.t 53)]
def zF : C := (.seq (.aO tu false [] [1,14,15,16,17]) (.seq (.cond (.t 17) .skip (.exit 0)) (.seq (.aN 1 (.seq (.aO tt false [] [1,3,4,14,15,16]) (.aN 2 (.seq (.aO tr false [] [1,3,4,14,15,16,21]) (.cond (.t 21) (.seq (.aO tq false [] [2]) .ret) (.seq (.aO tp true [(0,0),(1,1),(2,2),(10,10),(11,11),(12,12),(13,13),(4,5),(4,6),(3,9),(4,9),(5,9),(6,9),(7,9),(8,9)] [1,14,15,16,39]) (.cond (.t 39) (.seq (.aO tn false [] [2]) .ret) .skip))))))) (.aO n7 false [] [1,14,15,16]))))
def nZ : List O :=[oo 2<|.mv (ki 0)]
def cQs : C := (.seq (.aO tA false [] [1]) (.seq (.seq (.aO tx false [] [1,12]) (.cond (.t 12) (.seq (.aO tw false [] [2]) .ret) .skip)) (.seq (.seq (.aO tv false [] [1,14,15,16]) (.aN 0 (.loop zF))) (.seq (.aO nZ false [] [2]) .ret))))
def qQs : fK := ⟨54,1,[.t 2],cQs⟩
/- cohesion/maxclique.masks -/
def RN : List O :=[oo 1<|.box (.t 0),oo 2<|.mv (.k (.own 1 []))]
def RM : List O :=[oo 6<|.fX 0 (.t 1),oo 7<|.ld none (.t 6),oo 8<|.Hd 1 [.int .u64 0] (.t 7) (.t 7),oo 3<|.mv (.t 8)]
def RL : List O :=[oo 9<|.fX 1 (.t 1),oo 10<|.ld none (.t 9),oo 11<|.len (.t 10),oo 12<|.mv (ki 0)]
def RK : List O :=[oo 13<|.bin .lss (.t 12) (.t 11)]
def RJ : List O :=[oo 14<|.fO 2 (.t 10) (.t 12),oo 15<|.ld (some 2) (.t 14),oo 5<|.new [.int .i64 0,.int .i64 0],oz<|.st 2 (.t 5) (.t 15)]
def RI : List O :=[oo 16<|.mv (.t 3),oo 17<|.fX 0 (.t 5),oo 18<|.ld none (.t 17),oo 19<|.fO 1 (.t 16) (.t 18),oo 20<|.ld none (.t 19),oo 21<|.fX 1 (.t 5),oo 22<|.ld none (.t 21),oo 23<|.bin .shl (.k (.int .u64 1)) (.t 22),oo 24<|.bin .or (.t 20) (.t 23),oo 25<|.fO 1 (.t 16) (.t 18),oz<|.st 1 (.t 25) (.t 24)]
def RH : List O :=[oo 26<|.mv (.t 3),oo 27<|.fX 1 (.t 5),oo 28<|.ld none (.t 27),oo 29<|.fO 1 (.t 26) (.t 28),oo 30<|.ld none (.t 29),oo 31<|.fX 0 (.t 5),oo 32<|.ld none (.t 31),oo 33<|.bin .shl (.k (.int .u64 1)) (.t 32),oo 34<|.bin .or (.t 30) (.t 33),oo 35<|.fO 1 (.t 26) (.t 28),oz<|.st 1 (.t 35) (.t 34)]
def RG : List O :=[oo 36<|.bin .add (.t 12) (ki 1),oo 12<|.mv (.t 36)]
def T5 : C := (.seq (.aO RK false [] [3,10,11,12,13]) (.seq (.cond (.t 13) .skip (.exit 0)) (.seq (.aN 1 (.seq (.aO RJ false [] [3,5,10,11,12]) (.seq (.aO RI true [(8,8),(9,9),(10,10),(0,2),(2,5),(4,5),(0,6),(1,6),(2,6),(3,6),(4,6),(2,7),(4,7)] [3,5,10,11,12]) (.aO RH true [(8,8),(9,9),(10,10),(0,2),(2,5),(4,5),(0,6),(1,6),(2,6),(3,6),(4,6),(2,7),(4,7)] [3,10,11,12])))) (.aO RG false [] [3,10,11,12]))))
def RF : List O :=[oo 37<|.mv (.t 3),oo 2<|.mv (.t 37)]
def cQt : C := (.seq (.aO RN false [] [1]) (.seq (.aO RM false [] [1,3]) (.seq (.seq (.aO RL false [] [3,10,11,12]) (.aN 0 (.loop T5))) (.seq (.aO RF false [] [2]) .ret))))
def qQt : fK := ⟨38,1,[.t 2],cQt⟩
/- cohesion/maxclique.longest -/
def adj : List O :=[oo 3<|.box (.t 0),oo 6<|.mv (ki 0)]
def adi : List O :=[oo 9<|.mv (.t 2),oo 7<|.new [.int .i64 0],oz<|.st 1 (.t 7) (.t 9)]
def adh : List O :=[oo 8<|.new [.fD]]
def adg : List O :=[oo 10<|.OS (.func nQT) [] [.t 7,.t 3,.t 8],oz<|.st 1 (.t 8) (.t 10)]
def adf : List O :=[oo 11<|.ld none (.t 8),oo 12<|.mv (.t 1),oo 13<|.jc (.t 11) [.t 12,ki 0]]
def ade : List O :=[oo 14<|.ld none (.t 7),oo 6<|.mv (.t 14)]
def cQu : C := (.seq (.aO adj false [] [1,2,3]) (.seq (.aO adi false [] [1,3,7]) (.seq (.aO adh false [] [1,3,7,8]) (.seq (.aO adg false [] [1,7,8]) (.seq (.aO adf false [] [7]) (.seq (.aO ade false [] [6]) .ret))))))
def qQu : fK := ⟨15,3,[.t 6],cQu⟩
/- math/bits.TrailingZeros64 -/
def Mv : List O :=[oo 2<|.mv (ki 0)]
def Mu : List O :=[oo 3<|.mv (.t 0),oo 4<|.bin .eql (.t 3) (.k (.int .u64 0))]
def XP : List O :=[oo 2<|.mv (ki 64)]
def Br : List O :=[oo 5<|.mv (.t 0),oo 6<|.mv (.t 0),oo 7<|.un .neg (.t 6),oo 8<|.bin .and (.t 5) (.t 7),oo 9<|.bin .mul (.t 8) (.k (.int .u64 285870213051353865)),oo 10<|.bin .shr (.t 9) (.k (.int .u64 58)),oo 11<|.Cy 64 1 (.g 0) (.t 10),oo 12<|.ld none (.t 11),oo 13<|.Ci .i64 (.t 12),oo 2<|.mv (.t 13)]
def cQv : C := (.seq (.aO Mv false [] [0]) (.seq (.seq (.aO Mu false [] [0,4]) (.cond (.t 4) (.seq (.aO XP false [] [2]) .ret) .skip)) (.seq (.aO Br false [] [2]) .ret)))
def qQv : fK := ⟨14,1,[.t 2],cQv⟩
/- cohesion/core.Degeneracy -/
def RE : List O :=[oo 1<|.box (.t 0),oo 2<|.mv (ki 0),oo 3<|.mv (ki 0)]
def RD : List O :=[oo 10<|.ld (some 2) (.t 1),oo 11<|.call nQW [.t 10],oo 9<|.mv (.t 11),oo 12<|.ext 0 (.t 9),oo 13<|.ext 1 (.t 9),oo 4<|.mv (.t 12),oo 5<|.mv (.t 13)]
def RC : List O :=[oo 6<|.mv (ki 0)]
def RB : List O :=[oo 14<|.mv (.t 4),oo 15<|.len (.t 14),oo 16<|.mv (ki 0)]
def RA : List O :=[oo 17<|.bin .lss (.t 16) (.t 15)]
def Rz : List O :=[oo 18<|.fO 1 (.t 14) (.t 16),oo 19<|.ld none (.t 18),oo 8<|.mv (.t 19)]
def Ry : List O :=[oo 20<|.mv (.t 6),oo 21<|.mv (.t 8),oo 22<|.max [.t 20,.t 21],oo 6<|.mv (.t 22)]
def Rx : List O :=[oo 23<|.bin .add (.t 16) (ki 1),oo 16<|.mv (.t 23)]
def T4 : C := (.seq (.aO RA false [] [5,6,14,15,16,17]) (.seq (.cond (.t 17) .skip (.exit 0)) (.seq (.aN 1 (.seq (.aO Rz false [] [5,6,8,14,15,16]) (.aO Ry false [] [5,6,14,15,16]))) (.aO Rx false [] [5,6,14,15,16]))))
def Rw : List O :=[oo 24<|.mv (.t 6),oo 25<|.mv (.t 5),oo 2<|.mv (.t 24),oo 3<|.mv (.t 25)]
def cQw : C := (.seq (.aO RE false [] [1]) (.seq (.aO RD false [] [4,5]) (.seq (.aO RC false [] [4,5,6]) (.seq (.seq (.aO RB false [] [5,6,14,15,16]) (.aN 0 (.loop T4))) (.seq (.aO Rw false [] [2,3]) .ret)))))
def qQw : fK := ⟨26,1,[.t 2,.t 3],cQw⟩
/- cohesion/nodeset.Of -/
def adb : List O :=[oo 2<|.mv (.k (.own 1 []))]
def ada : List O :=[oo 3<|.mv (.t 0),oo 4<|.call nQX [.t 3,.k (.own 1 [])],oo 2<|.mv (.t 4)]
def cQx : C := (.seq (.aO adb false [] [0]) (.seq (.aO ada false [] [2]) .ret))
def qQx : fK := ⟨5,1,[.t 2],cQx⟩
/- cohesion/core.Order -/
def ac9 : List O :=[oo 1<|.box (.t 0),oo 2<|.mv (.k (.own 1 [])),oo 3<|.mv (ki 0)]
def ac8 : List O :=[oo 7<|.ld (some 2) (.t 1),oo 8<|.call TQ [.t 7],oo 4<|.mv (.t 8)]
def ac7 : List O :=[oo 9<|.mv (.t 4),oo 10<|.bin .neq (.t 9) (ki 0)]
def ac6 : List O :=[oo 11<|.mv (.t 4),oo 2<|.mv (.k (.own 1 [])),oo 3<|.mv (.t 11)]
def ac5 : List O :=[oo 13<|.ld (some 2) (.t 1),oo 14<|.call nQY [.t 13],oo 12<|.mv (.t 14),oo 15<|.ext 0 (.t 12),oo 16<|.ext 1 (.t 12),oo 5<|.mv (.t 15),oo 6<|.mv (.t 16)]
def ac4 : List O :=[oo 17<|.mv (.t 5),oo 2<|.mv (.t 17),oo 3<|.mv (ki 0)]
def cQy : C := (.seq (.aO ac9 false [] [1]) (.seq (.seq (.aO ac8 false [] [1,4]) (.seq (.aO ac7 false [] [1,4,10]) (.cond (.t 10) (.seq (.aO ac6 false [] [2,3]) .ret) .skip))) (.seq (.aO ac5 false [] [5]) (.seq (.aO ac4 false [] [2,3]) .ret))))
def qQy : fK := ⟨18,1,[.t 2,.t 3],cQy⟩
/- slices.Reverse[[]int,int] -/
def ahz : List O :=[oo 4<|.mv (.t 0),oo 5<|.len (.t 4),oo 6<|.bin .sub (.t 5) (ki 1),oo 2<|.mv (ki 0),oo 3<|.mv (.t 6)]
def ahy : List O :=[oo 7<|.mv (.t 2),oo 8<|.mv (.t 3),oo 9<|.bin .lss (.t 7) (.t 8)]
def ahx : List O :=[oo 14<|.mv (.t 0),oo 15<|.mv (.t 2),oo 16<|.mv (.t 0),oo 17<|.mv (.t 3),oo 18<|.mv (.t 0),oo 19<|.mv (.t 3),oo 20<|.fO 1 (.t 18) (.t 19),oo 21<|.ld none (.t 20),oo 22<|.mv (.t 0),oo 23<|.mv (.t 2),oo 24<|.fO 1 (.t 22) (.t 23),oo 25<|.ld none (.t 24),oo 26<|.fO 1 (.t 14) (.t 15),oz<|.st 1 (.t 26) (.t 21),oo 27<|.fO 1 (.t 16) (.t 17),oz<|.st 1 (.t 27) (.t 25)]
def ahw : List O :=[oo 10<|.mv (.t 2),oo 11<|.bin .add (.t 10) (ki 1),oo 12<|.mv (.t 3),oo 13<|.bin .sub (.t 12) (ki 1),oo 2<|.mv (.t 11),oo 3<|.mv (.t 13)]
def aiw : C := (.seq (.seq (.aO ahy false [] [0,2,3,9]) (.cond (.t 9) .skip (.exit 0))) (.seq (.aN 1 (.aO ahx true [(14,14),(15,15),(0,7),(1,7),(2,7),(3,7),(7,8),(7,9),(7,10),(0,11),(1,11),(2,11),(3,11),(4,11),(5,11),(6,11),(7,11),(2,13),(3,13)] [0,2,3])) (.aO ahw false [] [0,2,3])))
def cQz : C := (.seq (.aO ahz false [] [0,2,3]) (.aN 0 (.loop aiw)))
def qQz : fK := ⟨28,1,[],cQz⟩
/- slices.Equal[[]int,int] -/
def E4 : List O :=[oo 4<|.mv (.k (.bool false))]
def E3 : List O :=[oo 6<|.mv (.t 0),oo 7<|.len (.t 6),oo 8<|.mv (.t 1),oo 9<|.len (.t 8),oo 10<|.bin .neq (.t 7) (.t 9)]
def E2 : List O :=[oo 4<|.mv (.k (.bool false))]
def E0 : List O :=[oo 11<|.mv (.t 0),oo 12<|.len (.t 11),oo 13<|.mv (ki 0)]
def EZ : List O :=[oo 14<|.bin .lss (.t 13) (.t 12)]
def EY : List O :=[oo 15<|.mv (.t 13),oo 5<|.mv (.t 15)]
def EX : List O :=[oo 16<|.mv (.t 0),oo 17<|.mv (.t 5),oo 18<|.fO 1 (.t 16) (.t 17),oo 19<|.ld none (.t 18),oo 20<|.mv (.t 1),oo 21<|.mv (.t 5),oo 22<|.fO 1 (.t 20) (.t 21),oo 23<|.ld none (.t 22),oo 24<|.bin .neq (.t 19) (.t 23)]
def EW : List O :=[oo 4<|.mv (.k (.bool false))]
def EV : List O :=[oo 25<|.bin .add (.t 13) (ki 1),oo 13<|.mv (.t 25)]
def Nu : C := (.seq (.aO EZ false [] [0,1,12,13,14]) (.seq (.cond (.t 14) .skip (.exit 0)) (.seq (.aN 1 (.seq (.aO EY false [] [0,1,5,12,13]) (.seq (.aO EX true [(8,8),(3,4),(3,5),(3,6),(0,7),(1,7),(2,7),(3,7)] [0,1,12,13,24]) (.cond (.t 24) (.seq (.aO EW false [] [4]) .ret) .skip)))) (.aO EV false [] [0,1,12,13]))))
def EU : List O :=[oo 4<|.mv (.k (.bool true))]
def cQA : C := (.seq (.aO E4 false [] [0,1]) (.seq (.seq (.aO E3 false [] [0,1,10]) (.cond (.t 10) (.seq (.aO E2 false [] [4]) .ret) .skip)) (.seq (.seq (.aO E0 false [] [0,1,12,13]) (.aN 0 (.loop Nu))) (.seq (.aO EU false [] [4]) .ret))))
def qQA : fK := ⟨26,2,[.t 4],cQA⟩
/- cohesion/nodeset.Range -/
def ID : List O :=[oo 2<|.mv (.k (.own 1 []))]
def IC : List O :=[oo 3<|.mv (.k (.own 1 []))]
def IB : List O :=[oo 5<|.mv (.t 0),oo 6<|.max [.t 5,ki 0],oo 7<|.min [.t 6,ki 64],oo 8<|.mv (ki 0)]
def IA : List O :=[oo 9<|.bin .lss (.t 8) (.t 7)]
def Iz : List O :=[oo 10<|.mv (.t 8),oo 4<|.mv (.t 10)]
def Iy : List O :=[oo 11<|.mv (.t 3),oo 12<|.mv (.t 4),oo 13<|.dY 1 1 [.int .i64 0] [(0,1,.t 12)],oo 14<|.app 1 (.t 11) (.t 13),oo 3<|.mv (.t 14)]
def Ix : List O :=[oo 15<|.bin .add (.t 8) (ki 1),oo 8<|.mv (.t 15)]
def Ue : C := (.seq (.aO IA false [] [3,7,8,9]) (.seq (.cond (.t 9) .skip (.exit 0)) (.seq (.aN 1 (.seq (.aO Iz false [] [3,4,7,8]) (.aO Iy false [] [3,7,8]))) (.aO Ix false [] [3,7,8]))))
def Iw : List O :=[oo 16<|.mv (.t 3),oo 2<|.mv (.t 16)]
def cQB : C := (.seq (.aO ID false [] [0]) (.seq (.aO IC false [] [0,3]) (.seq (.seq (.aO IB false [] [3,7,8]) (.aN 0 (.loop Ue))) (.seq (.aO Iw false [] [2]) .ret))))
def qQB : fK := ⟨17,1,[.t 2],cQB⟩
/- slices.Repeat[[]int,int] -/
def aij : List O :=[oo 4<|.mv (.k (.own 1 []))]
def aii : List O :=[oo 9<|.mv (.t 1),oo 10<|.bin .lss (.t 9) (ki 0)]
def aih : List O :=[oo 11<|.bad,oz<|.bad]
def aif : List O :=[oo 13<|.mv (.t 0),oo 14<|.len (.t 13),oo 15<|.Ci .u64 (.t 14),oo 16<|.mv (.t 1),oo 17<|.Ci .u64 (.t 16),oo 18<|.call nQZ [.t 15,.t 17],oo 12<|.mv (.t 18),oo 19<|.ext 0 (.t 12),oo 20<|.ext 1 (.t 12),oo 5<|.mv (.t 19),oo 6<|.mv (.t 20)]
def aie : List O :=[oo 21<|.mv (.t 5),oo 22<|.bin .gtr (.t 21) (.k (.int .u64 0)),oo 23<|.mv (.t 22),gf 24 23<|.mv (.t 6),gf 25 23<|.bin .gtr (.t 24) (.k (.int .u64 9223372036854775807)),oo 26<|.pick (.t 23) (.k (.bool true)) (.t 25)]
def aid : List O :=[oo 27<|.bad,oz<|.bad]
def aic : List O :=[oo 28<|.mv (.t 6),oo 29<|.Ci .i64 (.t 28),oo 30<|.Hd 1 [.int .i64 0] (.t 29) (.t 29),oo 7<|.mv (.t 30)]
def aib : List O :=[oo 31<|.mv (.t 7),oo 32<|.mv (.t 0),oo 33<|.copy 1 (.t 31) (.t 32),oo 8<|.mv (.t 33)]
def aia : List O :=[oo 34<|.mv (.t 8),oo 35<|.mv (.t 7),oo 36<|.len (.t 35),oo 37<|.bin .lss (.t 34) (.t 36)]
def ah9 : List O :=[oo 38<|.mv (.t 8),oo 39<|.mv (.t 7),oo 40<|.mv (.t 8),oo 41<|.yG 1 (.t 39) (some (.t 40)) none,oo 42<|.mv (.t 7),oo 43<|.mv (.t 8),oo 44<|.yG 1 (.t 42) none (some (.t 43)),oo 45<|.copy 1 (.t 41) (.t 44),oo 46<|.bin .add (.t 38) (.t 45),oo 8<|.mv (.t 46)]
def aiA : C := (.seq (.seq (.aO aia false [] [7,8,37]) (.cond (.t 37) .skip (.exit 0))) (.aN 1 (.aO ah9 true [(8,8),(9,9),(0,7)] [7,8])))
def afI : List O :=[oo 47<|.mv (.t 7),oo 4<|.mv (.t 47)]
def cQC : C := (.seq (.aO aij false [] [0,1]) (.seq (.seq (.aO aii false [] [0,1,10]) (.cond (.t 10) (.aO aih false [] [0,1]) .skip)) (.seq (.aO aif false [] [0,5,6]) (.seq (.seq (.aO aie false [] [0,6,26]) (.cond (.t 26) (.aO aid false [] [0,6]) .skip)) (.seq (.aO aic false [] [0,7]) (.seq (.aO aib false [] [7,8]) (.seq (.aN 0 (.loop aiA)) (.seq (.aO afI false [] [4]) .ret))))))))
def qQC : fK := ⟨48,2,[.t 4],cQC⟩
/- cohesion/graph.Neighbours -/
def aee : List O :=[oo 2<|.box (.t 0),oo 4<|.mv (.k (.own 1 []))]
def aed : List O :=[oo 5<|.ld (some 2) (.t 2),oo 6<|.mv (.t 1),oo 7<|.call nQ1 [.t 5,.t 6],oo 8<|.call nQ0 [.t 7],oo 4<|.mv (.t 8)]
def cQD : C := (.seq (.aO aee false [] [1,2]) (.seq (.aO aed false [] [4]) .ret))
def qQD : fK := ⟨9,2,[.t 4],cQD⟩
/- slices.Index[[]bool,bool] -/
def SQ : List O :=[oo 4<|.mv (ki 0)]
def SP : List O :=[oo 6<|.mv (.t 0),oo 7<|.len (.t 6),oo 8<|.mv (ki 0)]
def SO : List O :=[oo 9<|.bin .lss (.t 8) (.t 7)]
def SN : List O :=[oo 10<|.mv (.t 8),oo 5<|.mv (.t 10)]
def SM : List O :=[oo 11<|.mv (.t 1),oo 12<|.mv (.t 0),oo 13<|.mv (.t 5),oo 14<|.fO 1 (.t 12) (.t 13),oo 15<|.ld none (.t 14),oo 16<|.eq false .bool (.t 11) (.t 15)]
def SL : List O :=[oo 17<|.mv (.t 5),oo 4<|.mv (.t 17)]
def SK : List O :=[oo 18<|.bin .add (.t 8) (ki 1),oo 8<|.mv (.t 18)]
def Ud : C := (.seq (.aO SO false [] [0,1,7,8,9]) (.seq (.cond (.t 9) .skip (.exit 0)) (.seq (.aN 1 (.seq (.aO SN false [] [0,1,5,7,8]) (.seq (.aO SM false [] [0,1,5,7,8,16]) (.cond (.t 16) (.seq (.aO SL false [] [4]) .ret) .skip)))) (.aO SK false [] [0,1,7,8]))))
def SJ : List O :=[oo 4<|.mv (.k (.int .i64 (-1)))]
def cQE : C := (.seq (.aO SQ false [] [0,1]) (.seq (.seq (.aO SP false [] [0,1,7,8]) (.aN 0 (.loop Ud))) (.seq (.aO SJ false [] [4]) .ret)))
def qQE : fK := ⟨19,2,[.t 4],cQE⟩
/- cohesion/cohesionref10.Numbers -/
def ET : List O :=[oo 1<|.box (.t 0),oo 2<|.mv (.k (.own 1 [])),oo 3<|.mv (ki 0)]
def ES : List O :=[oo 9<|.ld (some 2) (.t 1),oo 10<|.call nQ2 [.t 9],oo 4<|.mv (.t 10)]
def ER : List O :=[oo 11<|.mv (.t 4),oo 12<|.bin .neq (.t 11) (ki 0)]
def EP : List O :=[oo 13<|.mv (.t 4),oo 2<|.mv (.k (.own 1 [])),oo 3<|.mv (.t 13)]
def EN : List O :=[oo 14<|.fX 0 (.t 1),oo 15<|.ld none (.t 14),oo 16<|.Hd 1 [.int .i64 0] (.t 15) (.t 15),oo 5<|.mv (.t 16)]
def EM : List O :=[oo 6<|.mv (ki 1)]
def EL : List O :=[oo 17<|.mv (.t 6),oo 18<|.fX 0 (.t 1),oo 19<|.ld none (.t 18),oo 20<|.bin .lss (.t 17) (.t 19)]
def EK : List O :=[oo 23<|.ld (some 2) (.t 1),oo 24<|.mv (.t 6),oo 25<|.call nQ3 [.t 23,.t 24],oo 26<|.len (.t 25),oo 27<|.mv (ki 0)]
def EJ : List O :=[oo 28<|.bin .lss (.t 27) (.t 26)]
def EI : List O :=[oo 29<|.fO 1 (.t 25) (.t 27),oo 30<|.ld none (.t 29),oo 8<|.mv (.t 30)]
def xL : List O :=[oo 31<|.mv (.t 5),oo 32<|.mv (.t 8),oo 33<|.mv (.t 6),oo 34<|.fO 1 (.t 31) (.t 32),oz<|.st 1 (.t 34) (.t 33)]
def xK : List O :=[oo 35<|.bin .add (.t 27) (ki 1),oo 27<|.mv (.t 35)]
def Uc : C := (.seq (.aO EJ false [] [1,5,6,25,26,27,28]) (.seq (.cond (.t 28) .skip (.exit 2)) (.seq (.aN 3 (.seq (.aO EI false [] [1,5,6,8,25,26,27]) (.aO xL false [] [1,5,6,25,26,27]))) (.aO xK false [] [1,5,6,25,26,27]))))
def xJ : List O :=[oo 21<|.mv (.t 6),oo 22<|.bin .add (.t 21) (ki 1),oo 6<|.mv (.t 22)]
def I6 : C := (.seq (.seq (.aO EL false [] [1,5,6,20]) (.cond (.t 20) .skip (.exit 0))) (.seq (.aN 1 (.seq (.aO EK false [] [1,5,6,25,26,27]) (.aN 2 (.loop Uc)))) (.aO xJ false [] [1,5,6])))
def xI : List O :=[oo 36<|.mv (.t 5),oo 2<|.mv (.t 36),oo 3<|.mv (ki 0)]
def cQF : C := (.seq (.aO ET false [] [1]) (.seq (.seq (.aO ES false [] [1,4]) (.seq (.aO ER false [] [1,4,12]) (.cond (.t 12) (.seq (.aO EP false [] [2,3]) .ret) .skip))) (.seq (.aO EN false [] [1,5]) (.seq (.seq (.aO EM false [] [1,5,6]) (.aN 0 (.loop I6))) (.seq (.aO xI false [] [2,3]) .ret)))))
def qQF : fK := ⟨37,1,[.t 2,.t 3],cQF⟩
/- cohesion/cliques.Is -/
def X3 : List O :=[oo 2<|.box (.t 0),oo 4<|.mv (.k (.bool false))]
def X2 : List O :=[oo 5<|.ld (some 2) (.t 2),oo 6<|.call TQ [.t 5],oo 7<|.bin .eql (.t 6) (ki 0),oo 8<|.mv (.t 7),gt 9 8<|.mv (.t 1),gt 10 8<|.fX 0 (.t 2),gt 11 8<|.ld none (.t 10),gt 12 8<|.call nQ4 [.t 9,.t 11],oo 13<|.pick (.t 8) (.t 12) (.k (.bool false)),oo 14<|.mv (.t 13),gt 15 14<|.ld (some 2) (.t 2),gt 16 14<|.call nQ6 [.t 15],gt 17 14<|.mv (.t 1),gt 18 14<|.call nQ5 [.t 16,.t 17],oo 19<|.pick (.t 14) (.t 18) (.k (.bool false)),oo 4<|.mv (.t 19)]
def cQG : C := (.seq (.aO X3 false [] [1,2]) (.seq (.aO X2 false [] [4]) .ret))
def qQG : fK := ⟨20,2,[.t 4],cQG⟩
/- cohesion/cohesionref24.Is -/
def xb : List O :=[oo 2<|.box (.t 0),oo 4<|.mv (.k (.bool false))]
def w9 : List O :=[oo 7<|.ld (some 2) (.t 2),oo 8<|.call nQ2 [.t 7],oo 9<|.bin .neq (.t 8) (ki 0),oo 10<|.mv (.t 9),gf 11 10<|.mv (.t 1),gf 12 10<|.fX 0 (.t 2),gf 13 10<|.ld none (.t 12),gf 14 10<|.call nQ7 [.t 11,.t 13],gf 15 10<|.un .not (.t 14),oo 16<|.pick (.t 10) (.k (.bool true)) (.t 15)]
def w8 : List O :=[oo 4<|.mv (.k (.bool false))]
def w7 : List O :=[oo 5<|.mv (ki 0)]
def w6 : List O :=[oo 17<|.mv (.t 5),oo 18<|.mv (.t 1),oo 19<|.len (.t 18),oo 20<|.bin .lss (.t 17) (.t 19)]
def wZ : List O :=[oo 23<|.mv (.t 5),oo 24<|.bin .add (.t 23) (ki 1),oo 6<|.mv (.t 24)]
def wY : List O :=[oo 25<|.mv (.t 6),oo 26<|.mv (.t 1),oo 27<|.len (.t 26),oo 28<|.bin .lss (.t 25) (.t 27)]
def wX : List O :=[oo 31<|.ld (some 2) (.t 2),oo 32<|.mv (.t 1),oo 33<|.mv (.t 5),oo 34<|.fO 1 (.t 32) (.t 33),oo 35<|.ld none (.t 34),oo 36<|.mv (.t 1),oo 37<|.mv (.t 6),oo 38<|.fO 1 (.t 36) (.t 37),oo 39<|.ld none (.t 38),oo 40<|.call nQ8 [.t 31,.t 35,.t 39],oo 41<|.bin .lss (.t 40) (ki 0)]
def wW : List O :=[oo 4<|.mv (.k (.bool false))]
def wV : List O :=[oo 29<|.mv (.t 6),oo 30<|.bin .add (.t 29) (ki 1),oo 6<|.mv (.t 30)]
def Nt : C := (.seq (.seq (.aO wY false [] [1,2,5,6,28]) (.cond (.t 28) .skip (.exit 2))) (.seq (.aN 3 (.seq (.aO wX true [(9,9),(10,10),(0,1),(0,2),(0,3),(0,4),(0,5),(4,5),(0,6),(4,6),(0,7),(4,7),(0,8),(1,8),(2,8),(3,8),(4,8)] [1,2,5,6,41]) (.cond (.t 41) (.seq (.aO wW false [] [4]) .ret) .skip))) (.aO wV false [] [1,2,5,6])))
def q5 : List O :=[oo 21<|.mv (.t 5),oo 22<|.bin .add (.t 21) (ki 1),oo 5<|.mv (.t 22)]
def Ns : C := (.seq (.seq (.aO w6 false [] [1,2,5,20]) (.cond (.t 20) .skip (.exit 0))) (.seq (.aN 1 (.seq (.aO wZ false [] [1,2,5,6]) (.aN 2 (.loop Nt)))) (.aO q5 false [] [1,2,5])))
def qZ : List O :=[oo 4<|.mv (.k (.bool true))]
def cQH : C := (.seq (.aO xb false [] [1,2]) (.seq (.seq (.aO w9 false [] [1,2,16]) (.cond (.t 16) (.seq (.aO w8 false [] [4]) .ret) .skip)) (.seq (.seq (.aO w7 false [] [1,2,5]) (.aN 0 (.loop Ns))) (.seq (.aO qZ false [] [4]) .ret))))
def qQH : fK := ⟨42,2,[.t 4],cQH⟩
/- cohesion/cohesionref24.fits -/
def EH : List O :=[oo 3<|.box (.t 0),oo 6<|.mv (.k (.bool false))]
def EG : List O :=[oo 7<|.mv (ki 0)]
def EF : List O :=[oo 8<|.mv (.t 7),oo 9<|.mv (.t 1),oo 10<|.len (.t 9),oo 11<|.bin .lss (.t 8) (.t 10)]
def EE : List O :=[oo 14<|.mv (.t 1),oo 15<|.mv (.t 7),oo 16<|.fO 1 (.t 14) (.t 15),oo 17<|.ld none (.t 16),oo 18<|.mv (.t 2),oo 19<|.bin .eql (.t 17) (.t 18),oo 20<|.mv (.t 19),gf 21 20<|.ld (some 2) (.t 3),gf 22 20<|.mv (.t 1),gf 23 20<|.mv (.t 7),gf 24 20<|.fO 1 (.t 22) (.t 23),gf 25 20<|.ld none (.t 24),gf 26 20<|.mv (.t 2),gf 27 20<|.call nQ8 [.t 21,.t 25,.t 26],gf 28 20<|.bin .lss (.t 27) (ki 0),oo 29<|.pick (.t 20) (.k (.bool true)) (.t 28)]
def ED : List O :=[oo 6<|.mv (.k (.bool false))]
def EC : List O :=[oo 12<|.mv (.t 7),oo 13<|.bin .add (.t 12) (ki 1),oo 7<|.mv (.t 13)]
def I5 : C := (.seq (.seq (.aO EF false [] [1,2,3,7,11]) (.cond (.t 11) .skip (.exit 0))) (.seq (.aN 1 (.seq (.aO EE true [(5,5),(6,6),(13,13),(14,14),(15,15),(3,4),(7,8),(7,9),(7,10),(7,11),(7,12),(11,12)] [1,2,3,7,29]) (.cond (.t 29) (.seq (.aO ED false [] [6]) .ret) .skip))) (.aO EC false [] [1,2,3,7])))
def EB : List O :=[oo 6<|.mv (.k (.bool true))]
def cQI : C := (.seq (.aO EH false [] [1,2,3]) (.seq (.seq (.aO EG false [] [1,2,3,7]) (.aN 0 (.loop I5))) (.seq (.aO EB false [] [6]) .ret)))
def qQI : fK := ⟨30,3,[.t 6],cQI⟩
/- slices.ContainsFunc[[]int,int] -/
def aec : List O :=[oo 4<|.mv (.k (.bool false))]
def aeb : List O :=[oo 5<|.mv (.t 0),oo 6<|.mv (.t 1),oo 7<|.call nQ9 [.t 5,.t 6],oo 8<|.bin .geq (.t 7) (ki 0),oo 4<|.mv (.t 8)]
def cQJ : C := (.seq (.aO aec false [] [0,1]) (.seq (.aO aeb false [] [4]) .ret))
def qQJ : fK := ⟨9,2,[.t 4],cQJ⟩
/- cohesion/maxclique.Proper$1 -/
def aea : List O :=[oo 2<|.mv (.k (.bool false))]
def ad9 : List O :=[oo 3<|.mv (.t 0),oo 4<|.bin .lss (.t 3) (ki 0),oo 2<|.mv (.t 4)]
def cQK : C := (.seq (.aO aea false [] [0]) (.seq (.aO ad9 false [] [2]) .ret))
def qQK : fK := ⟨5,1,[.t 2],cQK⟩
/- slices.ContainsFunc[[]cohesion/api.Edge,cohesion/api.Edge] -/
def ad8 : List O :=[oo 4<|.mv (.k (.bool false))]
def ad7 : List O :=[oo 5<|.mv (.t 0),oo 6<|.mv (.t 1),oo 7<|.call P5 [.t 5,.t 6],oo 8<|.bin .geq (.t 7) (ki 0),oo 4<|.mv (.t 8)]
def cQL : C := (.seq (.aO ad8 false [] [0,1]) (.seq (.aO ad7 false [] [4]) .ret))
def qQL : fK := ⟨9,2,[.t 4],cQL⟩
/- cohesion/maxclique.Proper$2 -/
def ad6 : List O :=[oo 2<|.box (.t 0),oo 3<|.mv (.k (.bool false))]
def ad5 : List O :=[oo 4<|.ld none (.t 1),oo 5<|.fX 0 (.t 2),oo 6<|.ld none (.t 5),oo 7<|.fO 1 (.t 4) (.t 6),oo 8<|.ld none (.t 7),oo 9<|.ld none (.t 1),oo 10<|.fX 1 (.t 2),oo 11<|.ld none (.t 10),oo 12<|.fO 1 (.t 9) (.t 11),oo 13<|.ld none (.t 12),oo 14<|.bin .eql (.t 8) (.t 13),oo 3<|.mv (.t 14)]
def cQM : C := (.seq (.aO ad6 false [] [1,2]) (.seq (.aO ad5 true [(10,10),(11,11),(0,1),(0,2),(0,5),(1,5),(2,5),(3,5),(4,5),(0,6),(2,6),(4,6),(5,6),(0,7),(1,7),(2,7),(3,7),(4,7),(5,7),(0,8),(2,8),(4,8),(0,9),(1,9),(2,9),(3,9),(4,9)] [3]) .ret))
def qQM : fK := ⟨15,1,[.t 3],cQM⟩
/- cohesion/cohesionref02.put -/
def EA : List O :=[oo 4<|.mv (.k (.own 1 []))]
def Ez : List O :=[oo 5<|.mv (ki 0)]
def Ey : List O :=[oo 7<|.mv (.t 5),oo 8<|.mv (.t 0),oo 9<|.len (.t 8),oo 10<|.bin .lss (.t 7) (.t 9),oo 11<|.mv (.t 10),gt 12 11<|.mv (.t 0),gt 13 11<|.mv (.t 5),gt 14 11<|.fO 1 (.t 12) (.t 13),gt 15 11<|.ld none (.t 14),gt 16 11<|.mv (.t 1),gt 17 11<|.bin .lss (.t 15) (.t 16),oo 18<|.pick (.t 11) (.t 17) (.k (.bool false))]
def Ew : List O :=[oo 19<|.mv (.t 5),oo 20<|.bin .add (.t 19) (ki 1),oo 5<|.mv (.t 20)]
def Nr : C := (.seq (.seq (.aO Ey false [] [0,1,5,18]) (.cond (.t 18) .skip (.exit 0))) (.aN 1 (.aO Ew false [] [0,1,5])))
def Eu : List O :=[oo 21<|.mv (.t 5),oo 22<|.mv (.t 0),oo 23<|.len (.t 22),oo 24<|.bin .lss (.t 21) (.t 23),oo 25<|.mv (.t 24),gt 26 25<|.mv (.t 0),gt 27 25<|.mv (.t 5),gt 28 25<|.fO 1 (.t 26) (.t 27),gt 29 25<|.ld none (.t 28),gt 30 25<|.mv (.t 1),gt 31 25<|.bin .eql (.t 29) (.t 30),oo 32<|.pick (.t 25) (.t 31) (.k (.bool false))]
def Er : List O :=[oo 33<|.mv (.t 0),oo 4<|.mv (.t 33)]
def Ep : List O :=[oo 34<|.mv (.t 0),oo 35<|.mv (.t 5),oo 36<|.yG 1 (.t 34) none (some (.t 35)),oo 37<|.app 1 (.k (.own 1 [])) (.t 36),oo 6<|.mv (.t 37)]
def Eo : List O :=[oo 38<|.mv (.t 6),oo 39<|.mv (.t 1),oo 40<|.dY 1 1 [.int .i64 0] [(0,1,.t 39)],oo 41<|.app 1 (.t 38) (.t 40),oo 42<|.mv (.t 0),oo 43<|.mv (.t 5),oo 44<|.yG 1 (.t 42) (some (.t 43)) none,oo 45<|.app 1 (.t 41) (.t 44),oo 4<|.mv (.t 45)]
def cQN : C := (.seq (.aO EA false [] [0,1]) (.seq (.aO Ez false [] [0,1,5]) (.seq (.aN 0 (.loop Nr)) (.seq (.seq (.aO Eu false [] [0,1,5,32]) (.cond (.t 32) (.seq (.aO Er false [] [4]) .ret) .skip)) (.seq (.aO Ep false [] [0,1,5,6]) (.seq (.aO Eo true [(7,7),(8,8),(0,2),(2,4),(3,4),(2,5),(3,5),(2,6),(3,6)] [4]) .ret))))))
def qQN : fK := ⟨46,2,[.t 4],cQN⟩
/- cohesion/cohesionref03.ends -/
def ah8 : List O :=[oo 6<|.mv (.k (.bool false))]
def ah7 : List O :=[oo 7<|.mv (.t 1),oo 8<|.bin .geq (.t 7) (ki 0),oo 9<|.mv (.t 8),gt 10 9<|.mv (.t 2),gt 11 9<|.bin .geq (.t 10) (ki 0),oo 12<|.pick (.t 9) (.t 11) (.k (.bool false)),oo 13<|.mv (.t 12),gt 14 13<|.mv (.t 1),gt 15 13<|.mv (.t 0),gt 16 13<|.bin .lss (.t 14) (.t 15),oo 17<|.pick (.t 13) (.t 16) (.k (.bool false)),oo 18<|.mv (.t 17),gt 19 18<|.mv (.t 2),gt 20 18<|.mv (.t 0),gt 21 18<|.bin .lss (.t 19) (.t 20),oo 22<|.pick (.t 18) (.t 21) (.k (.bool false)),oo 23<|.mv (.t 22),gt 24 23<|.mv (.t 1),gt 25 23<|.mv (.t 2),gt 26 23<|.bin .neq (.t 24) (.t 25),oo 27<|.pick (.t 23) (.t 26) (.k (.bool false)),oo 6<|.mv (.t 27)]
def cQO : C := (.seq (.aO ah8 false [] [0,1,2]) (.seq (.aO ah7 false [] [6]) .ret))
def qQO : fK := ⟨28,3,[.t 6],cQO⟩
/- cohesion/cohesionref03.with -/
def ah6 : List O :=[oo 3<|.box (.t 1),oo 4<|.mv (.k (.own 2 []))]
def ah5 : List O :=[oo 5<|.mv (ki 0)]
def ah4 : List O :=[oo 7<|.mv (.t 5),oo 8<|.mv (.t 0),oo 9<|.len (.t 8),oo 10<|.bin .lss (.t 7) (.t 9),oo 11<|.mv (.t 10),gt 12 11<|.mv (.t 0),gt 13 11<|.mv (.t 5),gt 14 11<|.fO 2 (.t 12) (.t 13),gt 15 11<|.ld (some 2) (.t 14),gt 16 11<|.ld (some 2) (.t 3),gt 17 11<|.call MW [.t 15,.t 16],oo 18<|.pick (.t 11) (.t 17) (.k (.bool false))]
def ah3 : List O :=[oo 19<|.mv (.t 5),oo 20<|.bin .add (.t 19) (ki 1),oo 5<|.mv (.t 20)]
def aiz : C := (.seq (.seq (.aO ah4 true [(3,3),(4,4),(10,10),(11,11),(5,9),(6,9),(7,9),(8,9)] [0,3,5,18]) (.cond (.t 18) .skip (.exit 0))) (.aN 1 (.aO ah3 false [] [0,3,5])))
def ah2 : List O :=[oo 21<|.mv (.t 5),oo 22<|.mv (.t 0),oo 23<|.len (.t 22),oo 24<|.bin .lss (.t 21) (.t 23),oo 25<|.mv (.t 24),gt 26 25<|.mv (.t 0),gt 27 25<|.mv (.t 5),gt 28 25<|.fO 2 (.t 26) (.t 27),gt 29 25<|.ld (some 2) (.t 28),gt 30 25<|.ld (some 2) (.t 3),gt 31 25<|.eq false (.str [true,true]) (.t 29) (.t 30),oo 32<|.pick (.t 25) (.t 31) (.k (.bool false))]
def ah1 : List O :=[oo 33<|.mv (.t 0),oo 4<|.mv (.t 33)]
def ah0 : List O :=[oo 34<|.mv (.t 0),oo 35<|.mv (.t 5),oo 36<|.yG 2 (.t 34) none (some (.t 35)),oo 37<|.app 2 (.k (.own 2 [])) (.t 36),oo 6<|.mv (.t 37)]
def ahZ : List O :=[oo 38<|.mv (.t 6),oo 39<|.ld (some 2) (.t 3),oo 40<|.dY 2 1 [.int .i64 0,.int .i64 0] [(0,2,.t 39)],oo 41<|.app 2 (.t 38) (.t 40),oo 42<|.mv (.t 0),oo 43<|.mv (.t 5),oo 44<|.yG 2 (.t 42) (some (.t 43)) none,oo 45<|.app 2 (.t 41) (.t 44),oo 4<|.mv (.t 45)]
def cQP : C := (.seq (.aO ah6 false [] [0,3]) (.seq (.aO ah5 false [] [0,3,5]) (.seq (.aN 0 (.loop aiz)) (.seq (.seq (.aO ah2 true [(3,3),(4,4),(10,10),(11,11),(5,9),(6,9),(7,9),(8,9)] [0,3,5,32]) (.cond (.t 32) (.seq (.aO ah1 false [] [4]) .ret) .skip)) (.seq (.aO ah0 false [] [0,3,5,6]) (.seq (.aO ahZ true [(7,7),(8,8),(0,1),(0,2),(1,4),(2,4),(3,4),(1,5),(2,5),(3,5),(1,6),(2,6),(3,6)] [4]) .ret))))))
def qQP : fK := ⟨46,2,[.t 4],cQP⟩
/- cohesion/cohesionref03.edge -/
def ad4 : List O :=[oo 4<|.new [.int .i64 0,.int .i64 0]]
def ad3 : List O :=[oo 5<|.mv (.t 0),oo 6<|.mv (.t 1),oo 7<|.min [.t 5,.t 6],oo 8<|.mv (.t 0),oo 9<|.mv (.t 1),oo 10<|.max [.t 8,.t 9],oo 11<|.build [.int .i64 0,.int .i64 0] [(0,1,.t 7),(1,1,.t 10)],oz<|.st 2 (.t 4) (.t 11)]
def cQQ : C := (.seq (.aO ad4 false [] [0,1,4]) (.seq (.aO ad3 false [] [4]) .ret))
def qQQ : fK := ⟨12,2,[.c 4 (some 2)],cQQ⟩
/- cohesion/cohesionmake.Mod -/
def ad0 : List O :=[oo 4<|.mv (ki 0)]
def adZ : List O :=[oo 5<|.mv (.t 0),oo 6<|.mv (.t 1),oo 7<|.bin .rem (.t 5) (.t 6),oo 8<|.mv (.t 1),oo 9<|.bin .add (.t 7) (.t 8),oo 10<|.mv (.t 1),oo 11<|.bin .rem (.t 9) (.t 10),oo 4<|.mv (.t 11)]
def cQR : C := (.seq (.aO ad0 false [] [0,1]) (.seq (.aO adZ false [] [4]) .ret))
def qQR : fK := ⟨12,2,[.t 4],cQR⟩
/- cohesion/graph.Order -/
def adY : List O :=[oo 2<|.box (.t 0),oo 3<|.box (.t 1),oo 4<|.mv (ki 0)]
def adX : List O :=[oo 5<|.fX 0 (.t 2),oo 6<|.ld none (.t 5),oo 7<|.fX 0 (.t 3),oo 8<|.ld none (.t 7),oo 9<|.call MV [.t 6,.t 8],oo 10<|.fX 1 (.t 2),oo 11<|.ld none (.t 10),oo 12<|.fX 1 (.t 3),oo 13<|.ld none (.t 12),oo 14<|.call MV [.t 11,.t 13],oo 15<|.dY 1 2 [.int .i64 0] [(0,1,.t 9),(1,1,.t 14)],oo 16<|.call P4 [.t 15],oo 4<|.mv (.t 16)]
def cQS : C := (.seq (.aO adY false [] [2,3]) (.seq (.aO adX true [(9,9),(10,10),(11,11),(12,12),(1,2),(0,3),(1,3),(1,5),(3,5),(4,5),(0,6),(1,6),(2,6),(3,6),(4,6),(1,7),(3,7),(4,7),(6,7),(0,8),(1,8),(2,8),(3,8),(4,8),(5,8),(6,8)] [4]) .ret))
def qQS : fK := ⟨17,2,[.t 4],cQS⟩
/- cohesion/maxclique.longest$1 -/
def rK : List O :=[oo 8<|.ld none (.t 2),oo 9<|.mv (.t 1),oo 10<|.max [.t 8,.t 9],oz<|.st 1 (.t 2) (.t 10)]
def qM : List O :=[oo 11<|.mv (.t 0),oo 12<|.bin .neq (.t 11) (.k (.int .u64 0))]
def p7 : List O :=[oo 13<|.mv (.t 1),oo 14<|.mv (.t 0),oo 15<|.call nQU [.t 14],oo 16<|.bin .add (.t 13) (.t 15),oo 17<|.ld none (.t 2),oo 18<|.bin .leq (.t 16) (.t 17),oo 19<|.mv (.t 18),gf 20 19<|.mv (.t 1),gf 21 19<|.ld none (.t 3),gf 22 19<|.mv (.t 0),gf 23 19<|.call nQV [.t 21,.t 22],gf 24 19<|.bin .add (.t 20) (.t 23),gf 25 19<|.ld none (.t 2),gf 26 19<|.bin .leq (.t 24) (.t 25),oo 27<|.pick (.t 19) (.k (.bool true)) (.t 26)]
def rJ : List O :=[oo 28<|.mv (.t 0),oo 29<|.call YH [.t 28],oo 7<|.mv (.t 29)]
def rI : List O :=[oo 30<|.mv (.t 0),oo 31<|.mv (.t 7),oo 32<|.bin .shl (.k (.int .u64 1)) (.t 31),oo 33<|.bin .andNot (.t 30) (.t 32),oo 0<|.mv (.t 33)]
def rH : List O :=[oo 34<|.ld none (.t 4),oo 35<|.mv (.t 0),oo 36<|.ld none (.t 3),oo 37<|.mv (.t 7),oo 38<|.fO 1 (.t 36) (.t 37),oo 39<|.ld none (.t 38),oo 40<|.bin .and (.t 35) (.t 39),oo 41<|.mv (.t 1),oo 42<|.bin .add (.t 41) (ki 1),oo 43<|.jc (.t 34) [.t 40,.t 42]]
def F7 : C := (.seq (.seq (.aO qM false [] [0,1,2,3,4,12]) (.cond (.t 12) .skip (.exit 0))) (.aN 1 (.seq (.seq (.aO p7 true [(5,5),(6,6),(13,13),(14,14),(0,2),(0,4),(1,4),(2,4),(3,4),(7,8),(8,9),(7,10),(7,12),(8,12),(9,12),(10,12),(11,12)] [0,1,2,3,4,27]) (.cond (.t 27) (.exit 0) .skip)) (.seq (.aO rJ false [] [0,1,2,3,4,7]) (.seq (.aO rI false [] [0,1,2,3,4,7]) (.aO rH true [(9,9),(0,1),(0,2),(1,2),(0,3),(2,3),(0,4),(0,5),(1,5),(0,6),(0,7),(2,7),(5,7),(0,8),(2,8),(5,8)] [0,1,2,3,4]))))))
def cQT : C := (.seq .skip (.seq (.aO rK false [] [0,1,2,3,4]) (.seq .skip (.aN 0 (.loop F7)))))
def qQT : fK := ⟨44,2,[],cQT⟩
/- math/bits.OnesCount64 -/
def adW : List O :=[oo 2<|.mv (ki 0)]
def adV : List O :=[oo 3<|.mv (.t 0),oo 4<|.bin .shr (.t 3) (.k (.int .u64 1)),oo 5<|.bin .and (.t 4) (.k (.int .u64 6148914691236517205)),oo 6<|.mv (.t 0),oo 7<|.bin .and (.t 6) (.k (.int .u64 6148914691236517205)),oo 8<|.bin .add (.t 5) (.t 7),oo 0<|.mv (.t 8)]
def adU : List O :=[oo 9<|.mv (.t 0),oo 10<|.bin .shr (.t 9) (.k (.int .u64 2)),oo 11<|.bin .and (.t 10) (.k (.int .u64 3689348814741910323)),oo 12<|.mv (.t 0),oo 13<|.bin .and (.t 12) (.k (.int .u64 3689348814741910323)),oo 14<|.bin .add (.t 11) (.t 13),oo 0<|.mv (.t 14)]
def adT : List O :=[oo 15<|.mv (.t 0),oo 16<|.bin .shr (.t 15) (.k (.int .u64 4)),oo 17<|.mv (.t 0),oo 18<|.bin .add (.t 16) (.t 17),oo 19<|.bin .and (.t 18) (.k (.int .u64 1085102592571150095)),oo 0<|.mv (.t 19)]
def adS : List O :=[oo 20<|.mv (.t 0),oo 21<|.mv (.t 0),oo 22<|.bin .shr (.t 21) (.k (.int .u64 8)),oo 23<|.bin .add (.t 20) (.t 22),oo 0<|.mv (.t 23)]
def adR : List O :=[oo 24<|.mv (.t 0),oo 25<|.mv (.t 0),oo 26<|.bin .shr (.t 25) (.k (.int .u64 16)),oo 27<|.bin .add (.t 24) (.t 26),oo 0<|.mv (.t 27)]
def adQ : List O :=[oo 28<|.mv (.t 0),oo 29<|.mv (.t 0),oo 30<|.bin .shr (.t 29) (.k (.int .u64 32)),oo 31<|.bin .add (.t 28) (.t 30),oo 0<|.mv (.t 31)]
def adP : List O :=[oo 32<|.mv (.t 0),oo 33<|.Ci .i64 (.t 32),oo 34<|.bin .and (.t 33) (ki 127),oo 2<|.mv (.t 34)]
def cQU : C := (.seq (.aO adW false [] [0]) (.seq (.aO adV false [] [0]) (.seq (.aO adU false [] [0]) (.seq (.aO adT false [] [0]) (.seq (.aO adS false [] [0]) (.seq (.aO adR false [] [0]) (.seq (.aO adQ false [] [0]) (.seq (.aO adP false [] [2]) .ret))))))))
def qQU : fK := ⟨35,1,[.t 2],cQU⟩
/- cohesion/maxclique.bound -/
def Iv : List O :=[oo 4<|.mv (ki 0)]
def Iu : List O :=[oo 5<|.mv (ki 0)]
def It : List O :=[oo 8<|.mv (.t 1),oo 9<|.bin .neq (.t 8) (.k (.int .u64 0))]
def Is : List O :=[oo 12<|.mv (.t 1),oo 6<|.mv (.t 12)]
def Ir : List O :=[oo 13<|.mv (.t 6),oo 14<|.bin .neq (.t 13) (.k (.int .u64 0))]
def Iq : List O :=[oo 15<|.mv (.t 6),oo 16<|.call YH [.t 15],oo 7<|.mv (.t 16)]
def Ip : List O :=[oo 17<|.mv (.t 1),oo 18<|.mv (.t 7),oo 19<|.bin .shl (.k (.int .u64 1)) (.t 18),oo 20<|.bin .andNot (.t 17) (.t 19),oo 1<|.mv (.t 20)]
def Io : List O :=[oo 21<|.mv (.t 6),oo 22<|.mv (.t 7),oo 23<|.bin .shl (.k (.int .u64 1)) (.t 22),oo 24<|.mv (.t 0),oo 25<|.mv (.t 7),oo 26<|.fO 1 (.t 24) (.t 25),oo 27<|.ld none (.t 26),oo 28<|.bin .or (.t 23) (.t 27),oo 29<|.bin .andNot (.t 21) (.t 28),oo 6<|.mv (.t 29)]
def Ub : C := (.seq (.seq (.aO Ir false [] [0,1,5,6,14]) (.cond (.t 14) .skip (.exit 2))) (.aN 3 (.seq (.aO Iq false [] [0,1,5,6,7]) (.seq (.aO Ip false [] [0,1,5,6,7]) (.aO Io true [(8,8),(9,9),(0,6),(1,6),(2,6)] [0,1,5,6])))))
def Im : List O :=[oo 10<|.mv (.t 5),oo 11<|.bin .add (.t 10) (ki 1),oo 5<|.mv (.t 11)]
def Ua : C := (.seq (.seq (.aO It false [] [0,1,5,9]) (.cond (.t 9) .skip (.exit 0))) (.seq (.aN 1 (.seq (.aO Is false [] [0,1,5,6]) (.aN 2 (.loop Ub)))) (.aO Im false [] [0,1,5])))
def Il : List O :=[oo 30<|.mv (.t 5),oo 4<|.mv (.t 30)]
def cQV : C := (.seq (.aO Iv false [] [0,1]) (.seq (.aO Iu false [] [0,1,5]) (.seq (.aN 0 (.loop Ua)) (.seq (.aO Il false [] [4]) .ret))))
def qQV : fK := ⟨31,2,[.t 4],cQV⟩
/- cohesion/core.Numbers -/
def adO : List O :=[oo 1<|.box (.t 0),oo 2<|.mv (.k (.own 1 [])),oo 3<|.mv (ki 0)]
def adN : List O :=[oo 7<|.ld (some 2) (.t 1),oo 8<|.call TQ [.t 7],oo 4<|.mv (.t 8)]
def adM : List O :=[oo 9<|.mv (.t 4),oo 10<|.bin .neq (.t 9) (ki 0)]
def adL : List O :=[oo 11<|.mv (.t 4),oo 2<|.mv (.k (.own 1 [])),oo 3<|.mv (.t 11)]
def adK : List O :=[oo 13<|.ld (some 2) (.t 1),oo 14<|.call nQY [.t 13],oo 12<|.mv (.t 14),oo 15<|.ext 0 (.t 12),oo 16<|.ext 1 (.t 12),oo 5<|.mv (.t 15),oo 6<|.mv (.t 16)]
def adJ : List O :=[oo 17<|.mv (.t 6),oo 2<|.mv (.t 17),oo 3<|.mv (ki 0)]
def cQW : C := (.seq (.aO adO false [] [1]) (.seq (.seq (.aO adN false [] [1,4]) (.seq (.aO adM false [] [1,4,10]) (.cond (.t 10) (.seq (.aO adL false [] [2,3]) .ret) .skip))) (.seq (.aO adK false [] [6]) (.seq (.aO adJ false [] [2,3]) .ret))))
def qQW : fK := ⟨18,1,[.t 2,.t 3],cQW⟩
/- cohesion/nodeset.Union -/
def adI : List O :=[oo 4<|.mv (.k (.own 1 []))]
def adH : List O :=[oo 5<|.mv (.t 0),oo 6<|.mv (.t 1),oo 7<|.call P3 [.t 5,.t 6,.k (.func (.func VR) [] [])],oo 4<|.mv (.t 7)]
def cQX : C := (.seq (.aO adI false [] [0,1]) (.seq (.aO adH false [] [4]) .ret))
def qQX : fK := ⟨8,2,[.t 4],cQX⟩
/- cohesion/core.peel -/
def tK : List O :=[oo 1<|.box (.t 0),oo 2<|.mv (.k (.own 1 [])),oo 3<|.mv (.k (.own 1 []))]
def tJ : List O :=[oo 15<|.ld (some 2) (.t 1),oo 16<|.call MU [.t 15],oo 4<|.mv (.t 16)]
def tI : List O :=[oo 5<|.new [.int .u64 0,.int .u64 0,.int .u64 0,.int .u64 0,.int .u64 0,.int .u64 0,.int .u64 0,.int .u64 0,.int .u64 0,.int .u64 0,.int .u64 0,.int .u64 0,.int .u64 0,.int .u64 0,.int .u64 0,.int .u64 0,.int .u64 0,.int .u64 0,.int .u64 0,.int .u64 0,.int .u64 0,.int .u64 0,.int .u64 0,.int .u64 0,.int .u64 0,.int .u64 0,.int .u64 0,.int .u64 0,.int .u64 0,.int .u64 0,.int .u64 0,.int .u64 0,.int .u64 0,.int .u64 0,.int .u64 0,.int .u64 0,.int .u64 0,.int .u64 0,.int .u64 0,.int .u64 0,.int .u64 0,.int .u64 0,.int .u64 0,.int .u64 0,.int .u64 0,.int .u64 0,.int .u64 0,.int .u64 0,.int .u64 0,.int .u64 0,.int .u64 0,.int .u64 0,.int .u64 0,.int .u64 0,.int .u64 0,.int .u64 0,.int .u64 0,.int .u64 0,.int .u64 0,.int .u64 0,.int .u64 0,.int .u64 0,.int .u64 0,.int .u64 0]]
def tH : List O :=[oo 17<|.mv (.t 4),oo 18<|.len (.t 17),oo 19<|.Hd 1 [.int .i64 0] (.t 18) (.t 18),oo 6<|.mv (.t 19)]
def tG : List O :=[oo 20<|.mv (.t 4),oo 21<|.len (.t 20),oo 22<|.mv (ki 0)]
def tF : List O :=[oo 23<|.bin .lss (.t 22) (.t 21)]
def tE : List O :=[oo 24<|.mv (.t 22),oo 25<|.fO 1 (.t 20) (.t 22),oo 26<|.ld none (.t 25),oo 7<|.mv (.t 24),oo 8<|.mv (.t 26)]
def tD : List O :=[oo 27<|.mv (.t 6),oo 28<|.mv (.t 7),oo 29<|.mv (.t 8),oo 30<|.call P1 [.t 29],oo 31<|.fO 1 (.t 27) (.t 28),oz<|.st 1 (.t 31) (.t 30)]
def tC : List O :=[oo 32<|.mv (.t 6),oo 33<|.mv (.t 7),oo 34<|.fO 1 (.t 32) (.t 33),oo 35<|.ld none (.t 34),oo 36<|.Cy 64 1 (.t 5) (.t 35),oo 37<|.ld none (.t 36),oo 38<|.mv (.t 7),oo 39<|.call FL [.t 38],oo 40<|.bin .or (.t 37) (.t 39),oo 41<|.Cy 64 1 (.t 5) (.t 35),oz<|.st 1 (.t 41) (.t 40)]
def tB : List O :=[oo 42<|.bin .add (.t 22) (ki 1),oo 22<|.mv (.t 42)]
def Nq : C := (.seq (.aO tF false [] [2,4,5,6,20,21,22,23]) (.seq (.cond (.t 23) .skip (.exit 0)) (.seq (.aN 1 (.seq (.aO tE false [] [2,4,5,6,7,8,20,21,22]) (.seq (.aO tD false [] [2,4,5,6,7,20,21,22]) (.aO tC true [(8,8),(9,9),(10,10),(3,6),(5,6),(0,7),(1,7),(2,7),(3,7),(4,7),(5,7)] [2,4,5,6,20,21,22])))) (.aO tB false [] [2,4,5,6,20,21,22]))))
def oL : List O :=[oo 43<|.mv (.t 4),oo 44<|.len (.t 43),oo 45<|.Hd 1 [.int .i64 0] (.t 44) (.t 44),oo 3<|.mv (.t 45)]
def oK : List O :=[oo 46<|.mv (.t 4),oo 47<|.len (.t 46),oo 48<|.call P0 [.t 47],oo 9<|.mv (.t 48)]
def oJ : List O :=[oo 10<|.mv (ki 0)]
def oI : List O :=[oo 49<|.mv (.t 9),oo 50<|.bin .neq (.t 49) (.k (.int .u64 0))]
def oH : List O :=[oo 51<|.mv (ki 0)]
def oG : List O :=[oo 52<|.bin .lss (.t 51) (ki 64)]
def oF : List O :=[oo 53<|.mv (.t 51),oo 11<|.mv (.t 53)]
def oE : List O :=[oo 54<|.mv (.t 11),oo 55<|.Cy 64 1 (.t 5) (.t 54),oo 56<|.ld none (.t 55),oo 57<|.bin .eql (.t 56) (.k (.int .u64 0))]
def oD : List O :=[oo 58<|.mv (.t 11),oo 59<|.Cy 64 1 (.t 5) (.t 58),oo 60<|.ld none (.t 59),oo 61<|.call PZ [.t 60],oo 12<|.mv (.t 61)]
def oC : List O :=[oo 62<|.mv (.t 10),oo 63<|.mv (.t 11),oo 64<|.max [.t 62,.t 63],oo 10<|.mv (.t 64)]
def oB : List O :=[oo 65<|.mv (.t 3),oo 66<|.mv (.t 12),oo 67<|.mv (.t 10),oo 68<|.fO 1 (.t 65) (.t 66),oz<|.st 1 (.t 68) (.t 67)]
def oA : List O :=[oo 69<|.mv (.t 2),oo 70<|.mv (.t 12),oo 71<|.dY 1 1 [.int .i64 0] [(0,1,.t 70)],oo 72<|.app 1 (.t 69) (.t 71),oo 2<|.mv (.t 72)]
def ox : List O :=[oo 73<|.mv (.t 9),oo 74<|.mv (.t 12),oo 75<|.call FL [.t 74],oo 76<|.bin .andNot (.t 73) (.t 75),oo 9<|.mv (.t 76)]
def ot : List O :=[oo 77<|.mv (.t 11),oo 78<|.Cy 64 1 (.t 5) (.t 77),oo 79<|.ld none (.t 78),oo 80<|.mv (.t 12),oo 81<|.call FL [.t 80],oo 82<|.bin .andNot (.t 79) (.t 81),oo 83<|.Cy 64 1 (.t 5) (.t 77),oz<|.st 1 (.t 83) (.t 82)]
def oq : List O :=[oo 84<|.mv (.t 4),oo 85<|.mv (.t 12),oo 86<|.fO 1 (.t 84) (.t 85),oo 87<|.ld none (.t 86),oo 88<|.mv (.t 9),oo 89<|.bin .and (.t 87) (.t 88),oo 90<|.call nQ0 [.t 89],oo 91<|.len (.t 90),oo 92<|.mv (ki 0)]
def oi : List O :=[oo 93<|.bin .lss (.t 92) (.t 91)]
def oh : List O :=[oo 94<|.fO 1 (.t 90) (.t 92),oo 95<|.ld none (.t 94),oo 14<|.mv (.t 95)]
def oe : List O :=[oo 96<|.mv (.t 6),oo 97<|.mv (.t 14),oo 98<|.fO 1 (.t 96) (.t 97),oo 99<|.ld none (.t 98),oo 100<|.Cy 64 1 (.t 5) (.t 99),oo 101<|.ld none (.t 100),oo 102<|.mv (.t 14),oo 103<|.call FL [.t 102],oo 104<|.bin .andNot (.t 101) (.t 103),oo 105<|.Cy 64 1 (.t 5) (.t 99),oz<|.st 1 (.t 105) (.t 104)]
def od : List O :=[oo 106<|.mv (.t 6),oo 107<|.mv (.t 14),oo 108<|.fO 1 (.t 106) (.t 107),oo 109<|.ld none (.t 108),oo 110<|.bin .sub (.t 109) (ki 1),oo 111<|.fO 1 (.t 106) (.t 107),oz<|.st 1 (.t 111) (.t 110)]
def ob : List O :=[oo 112<|.mv (.t 6),oo 113<|.mv (.t 14),oo 114<|.fO 1 (.t 112) (.t 113),oo 115<|.ld none (.t 114),oo 116<|.Cy 64 1 (.t 5) (.t 115),oo 117<|.ld none (.t 116),oo 118<|.mv (.t 14),oo 119<|.call FL [.t 118],oo 120<|.bin .or (.t 117) (.t 119),oo 121<|.Cy 64 1 (.t 5) (.t 115),oz<|.st 1 (.t 121) (.t 120)]
def oa : List O :=[oo 122<|.bin .add (.t 92) (ki 1),oo 92<|.mv (.t 122)]
def Np : C := (.seq (.aO oi false [] [2,3,4,5,6,9,10,90,91,92,93]) (.seq (.cond (.t 93) .skip (.exit 6)) (.seq (.aN 7 (.seq (.aO oh false [] [2,3,4,5,6,9,10,14,90,91,92]) (.seq (.aO oe true [(8,8),(9,9),(10,10),(3,6),(5,6),(0,7),(1,7),(2,7),(3,7),(4,7),(5,7)] [2,3,4,5,6,9,10,14,90,91,92]) (.seq (.aO od false [] [2,3,4,5,6,9,10,14,90,91,92]) (.aO ob true [(8,8),(9,9),(10,10),(3,6),(5,6),(0,7),(1,7),(2,7),(3,7),(4,7),(5,7)] [2,3,4,5,6,9,10,90,91,92]))))) (.aO oa false [] [2,3,4,5,6,9,10,90,91,92]))))
def n9 : List O :=[oo 123<|.bin .add (.t 51) (ki 1),oo 51<|.mv (.t 123)]
def F6 : C := (.seq (.aO oG false [] [2,3,4,5,6,9,10,51,52]) (.seq (.cond (.t 52) .skip (.exit 4)) (.seq (.aN 5 (.seq (.aO oF false [] [2,3,4,5,6,9,10,11,51]) (.seq (.seq (.aO oE false [] [2,3,4,5,6,9,10,11,51,57]) (.cond (.t 57) (.exit 5) .skip)) (.seq (.aO oD false [] [2,3,4,5,6,9,10,11,12]) (.seq (.aO oC false [] [2,3,4,5,6,9,10,11,12]) (.seq (.aO oB false [] [2,3,4,5,6,9,10,11,12]) (.seq (.aO oA false [] [2,3,4,5,6,9,10,11,12]) (.seq (.aO ox false [] [2,3,4,5,6,9,10,11,12]) (.seq (.aO ot true [(5,5),(6,6),(7,7),(2,3),(0,4),(1,4),(2,4)] [2,3,4,5,6,9,10,12]) (.seq (.seq (.aO oq false [] [2,3,4,5,6,9,10,90,91,92]) (.aN 6 (.loop Np))) (.exit 3))))))))))) (.aO n9 false [] [2,3,4,5,6,9,10,51]))))
def B6 : C := (.seq (.seq (.aO oI false [] [2,3,4,5,6,9,10,50]) (.cond (.t 50) .skip (.exit 2))) (.aN 3 (.seq (.aO oH false [] [2,3,4,5,6,9,10,51]) (.aN 4 (.loop F6)))))
def n8 : List O :=[oo 124<|.mv (.t 2),oo 125<|.mv (.t 3),oo 2<|.mv (.t 124),oo 3<|.mv (.t 125)]
def cQY : C := (.seq (.aO tK false [] [1,2]) (.seq .skip (.seq (.aO tJ false [] [2,4]) (.seq (.aO tI false [] [2,4,5]) (.seq (.aO tH false [] [2,4,5,6]) (.seq (.seq (.aO tG false [] [2,4,5,6,20,21,22]) (.aN 0 (.loop Nq))) (.seq (.aO oL false [] [2,3,4,5,6]) (.seq (.aO oK false [] [2,3,4,5,6,9]) (.seq (.aO oJ false [] [2,3,4,5,6,9,10]) (.seq .skip (.seq (.aN 2 (.loop B6)) (.seq (.aO n8 false [] [2,3]) .ret))))))))))))
def qQY : fK := ⟨126,1,[.t 2,.t 3],cQY⟩
/- math/bits.Mul -/
def ahY : List O :=[oo 4<|.mv (.k (.int .u64 0)),oo 5<|.mv (.k (.int .u64 0))]
def ahX : List O :=[oo 11<|.mv (.t 0),oo 12<|.Ci .u32 (.t 11),oo 13<|.mv (.t 1),oo 14<|.Ci .u32 (.t 13),oo 15<|.call nQb1 [.t 12,.t 14],oo 10<|.mv (.t 15),oo 16<|.ext 0 (.t 10),oo 17<|.ext 1 (.t 10),oo 6<|.mv (.t 16),oo 7<|.mv (.t 17)]
def ahW : List O :=[oo 18<|.mv (.t 6),oo 19<|.Ci .u64 (.t 18),oo 20<|.mv (.t 7),oo 21<|.Ci .u64 (.t 20),oo 4<|.mv (.t 19),oo 5<|.mv (.t 21)]
def ahV : List O :=[oo 23<|.mv (.t 0),oo 24<|.mv (.t 1),oo 25<|.call nQb2 [.t 23,.t 24],oo 22<|.mv (.t 25),oo 26<|.ext 0 (.t 22),oo 27<|.ext 1 (.t 22),oo 8<|.mv (.t 26),oo 9<|.mv (.t 27)]
def ahU : List O :=[oo 28<|.mv (.t 8),oo 29<|.mv (.t 9),oo 4<|.mv (.t 28),oo 5<|.mv (.t 29)]
def cQZ : C := (.seq (.aO ahY false [] [0,1]) (.seq (.cond (.k (.bool false)) (.seq (.aO ahX false [] [6,7]) (.seq (.aO ahW false [] [4,5]) .ret)) .skip) (.seq (.aO ahV false [] [8,9]) (.seq (.aO ahU false [] [4,5]) .ret))))
def qQZ : fK := ⟨30,2,[.t 4,.t 5],cQZ⟩
/- cohesion/masks.List -/
def Tg : List O :=[oo 2<|.mv (.k (.own 1 []))]
def Tf : List O :=[oo 3<|.mv (.k (.own 1 []))]
def Te : List O :=[oo 4<|.mv (.t 0),oo 5<|.bin .neq (.t 4) (.k (.int .u64 0))]
def Td : List O :=[oo 10<|.mv (.t 3),oo 11<|.mv (.t 0),oo 12<|.call YH [.t 11],oo 13<|.dY 1 1 [.int .i64 0] [(0,1,.t 12)],oo 14<|.app 1 (.t 10) (.t 13),oo 3<|.mv (.t 14)]
def Tc : List O :=[oo 6<|.mv (.t 0),oo 7<|.mv (.t 0),oo 8<|.bin .sub (.t 7) (.k (.int .u64 1)),oo 9<|.bin .and (.t 6) (.t 8),oo 0<|.mv (.t 9)]
def Uh : C := (.seq (.seq (.aO Te false [] [0,3,5]) (.cond (.t 5) .skip (.exit 0))) (.seq (.aN 1 (.aO Td false [] [0,3])) (.aO Tc false [] [0,3])))
def Tb : List O :=[oo 15<|.mv (.t 3),oo 2<|.mv (.t 15)]
def cQ0 : C := (.seq (.aO Tg false [] [0]) (.seq (.aO Tf false [] [0,3]) (.seq (.aN 0 (.loop Uh)) (.seq (.aO Tb false [] [2]) .ret))))
def qQ0 : fK := ⟨16,1,[.t 2],cQ0⟩
/- cohesion/graph.row -/
def aej : List O :=[oo 2<|.box (.t 0),oo 4<|.mv (.k (.int .u64 0))]
def aei : List O :=[oo 6<|.ld (some 2) (.t 2),oo 7<|.call MU [.t 6],oo 5<|.mv (.t 7)]
def aeh : List O :=[oo 8<|.mv (.t 1),oo 9<|.bin .lss (.t 8) (ki 0),oo 10<|.mv (.t 9),gf 11 10<|.mv (.t 1),gf 12 10<|.mv (.t 5),gf 13 10<|.len (.t 12),gf 14 10<|.bin .geq (.t 11) (.t 13),oo 15<|.pick (.t 10) (.k (.bool true)) (.t 14),oo 16<|.mv (.t 15),gf 17 16<|.ld (some 2) (.t 2),gf 18 16<|.call TQ [.t 17],gf 19 16<|.bin .neq (.t 18) (ki 0),oo 20<|.pick (.t 16) (.k (.bool true)) (.t 19)]
def aeg : List O :=[oo 4<|.mv (.k (.int .u64 0))]
def aef : List O :=[oo 21<|.mv (.t 5),oo 22<|.mv (.t 1),oo 23<|.fO 1 (.t 21) (.t 22),oo 24<|.ld none (.t 23),oo 4<|.mv (.t 24)]
def cQ1 : C := (.seq (.aO aej false [] [1,2]) (.seq (.aO aei false [] [1,2,5]) (.seq (.seq (.aO aeh false [] [1,5,20]) (.cond (.t 20) (.seq (.aO aeg false [] [4]) .ret) .skip)) (.seq (.aO aef false [] [4]) .ret))))
def qQ1 : fK := ⟨25,2,[.t 4],cQ1⟩
/- cohesion/cohesionref03.Check -/
def tW : List O :=[oo 1<|.box (.t 0),oo 2<|.mv (ki 0)]
def tV : List O :=[oo 5<|.fX 0 (.t 1),oo 6<|.ld none (.t 5),oo 7<|.bin .lss (.t 6) (ki 0),oo 8<|.mv (.t 7),gf 9 8<|.fX 0 (.t 1),gf 10 8<|.ld none (.t 9),gf 11 8<|.bin .gtr (.t 10) (ki 64),oo 12<|.pick (.t 8) (.k (.bool true)) (.t 11)]
def tU : List O :=[oo 2<|.mv (ki 1)]
def tS : List O :=[oo 13<|.fX 1 (.t 1),oo 14<|.ld none (.t 13),oo 15<|.len (.t 14),oo 16<|.mv (ki 0)]
def tR : List O :=[oo 17<|.bin .lss (.t 16) (.t 15)]
def tQ : List O :=[oo 18<|.mv (.t 16),oo 19<|.fO 2 (.t 14) (.t 16),oo 20<|.ld (some 2) (.t 19),oo 4<|.new [.int .i64 0,.int .i64 0],oo 3<|.mv (.t 18),oz<|.st 2 (.t 4) (.t 20)]
def tP : List O :=[oo 21<|.fX 0 (.t 4),oo 22<|.ld none (.t 21),oo 23<|.bin .lss (.t 22) (ki 0),oo 24<|.mv (.t 23),gf 25 24<|.fX 0 (.t 4),gf 26 24<|.ld none (.t 25),gf 27 24<|.fX 1 (.t 4),gf 28 24<|.ld none (.t 27),gf 29 24<|.bin .geq (.t 26) (.t 28),oo 30<|.pick (.t 24) (.k (.bool true)) (.t 29),oo 31<|.mv (.t 30),gf 32 31<|.fX 1 (.t 4),gf 33 31<|.ld none (.t 32),gf 34 31<|.fX 0 (.t 1),gf 35 31<|.ld none (.t 34),gf 36 31<|.bin .geq (.t 33) (.t 35),oo 37<|.pick (.t 31) (.k (.bool true)) (.t 36)]
def tN : List O :=[oo 2<|.mv (ki 6)]
def tM : List O :=[oo 38<|.mv (.t 3),oo 39<|.bin .gtr (.t 38) (ki 0),oo 40<|.mv (.t 39),gt 41 40<|.fX 1 (.t 1),gt 42 40<|.ld none (.t 41),gt 43 40<|.mv (.t 3),gt 44 40<|.bin .sub (.t 43) (ki 1),gt 45 40<|.fO 2 (.t 42) (.t 44),gt 46 40<|.ld (some 2) (.t 45),gt 47 40<|.ld (some 2) (.t 4),gt 48 40<|.call MW [.t 46,.t 47],gt 49 40<|.un .not (.t 48),oo 50<|.pick (.t 40) (.t 49) (.k (.bool false))]
def tL : List O :=[oo 2<|.mv (ki 5)]
def oN : List O :=[oo 51<|.bin .add (.t 16) (ki 1),oo 16<|.mv (.t 51)]
def zG : C := (.seq (.aO tR false [] [1,14,15,16,17]) (.seq (.cond (.t 17) .skip (.exit 0)) (.seq (.aN 1 (.seq (.aO tQ false [] [1,3,4,14,15,16]) (.seq (.seq (.aO tP false [] [1,3,4,14,15,16,37]) (.cond (.t 37) (.seq (.aO tN false [] [2]) .ret) .skip)) (.seq (.aO tM true [(0,0),(1,1),(2,2),(10,10),(11,11),(12,12),(4,5),(4,6),(3,9),(4,9),(5,9),(6,9),(7,9),(8,9)] [1,14,15,16,50]) (.cond (.t 50) (.seq (.aO tL false [] [2]) .ret) .skip))))) (.aO oN false [] [1,14,15,16]))))
def oM : List O :=[oo 2<|.mv (ki 0)]
def cQ2 : C := (.seq (.aO tW false [] [1]) (.seq (.seq (.aO tV false [] [1,12]) (.cond (.t 12) (.seq (.aO tU false [] [2]) .ret) .skip)) (.seq (.seq (.aO tS false [] [1,14,15,16]) (.aN 0 (.loop zG))) (.seq (.aO oM false [] [2]) .ret))))
def qQ2 : fK := ⟨52,1,[.t 2],cQ2⟩
/- cohesion/cohesionref10.core -/
def BW : List O :=[oo 2<|.box (.t 0),oo 4<|.mv (.k (.own 1 []))]
def BV : List O :=[oo 9<|.fX 0 (.t 2),oo 10<|.ld none (.t 9),oo 11<|.call PY [.t 10],oo 5<|.mv (.t 11)]
def BU : List O :=[oo 6<|.mv (.k (.bool true))]
def BT : List O :=[oo 12<|.mv (.t 6)]
def BS : List O :=[oo 6<|.mv (.k (.bool false))]
def BR : List O :=[oo 13<|.mv (.t 5),oo 14<|.len (.t 13),oo 15<|.mv (ki 0)]
def BQ : List O :=[oo 16<|.bin .lss (.t 15) (.t 14)]
def BP : List O :=[oo 17<|.fO 1 (.t 13) (.t 15),oo 18<|.ld none (.t 17),oo 8<|.mv (.t 18)]
def BO : List O :=[oo 19<|.ld (some 2) (.t 2),oo 20<|.mv (.t 8),oo 21<|.call PW [.t 19,.t 20],oo 22<|.mv (.t 5),oo 23<|.call PX [.t 21,.t 22],oo 24<|.len (.t 23),oo 25<|.mv (.t 1),oo 26<|.bin .lss (.t 24) (.t 25)]
def BN : List O :=[oo 27<|.mv (.t 5),oo 28<|.mv (.t 8),oo 29<|.dY 1 1 [.int .i64 0] [(0,1,.t 28)],oo 30<|.call MT [.t 27,.t 29],oo 5<|.mv (.t 30),oo 6<|.mv (.k (.bool true))]
def uW : List O :=[oo 31<|.bin .add (.t 15) (ki 1),oo 15<|.mv (.t 31)]
def Nx : C := (.seq (.aO BQ false [] [1,2,5,6,13,14,15,16]) (.seq (.cond (.t 16) .skip (.exit 2)) (.seq (.aN 3 (.seq (.aO BP false [] [1,2,5,6,8,13,14,15]) (.seq (.aO BO false [] [1,2,5,6,8,13,14,15,26]) (.cond (.t 26) (.aO BN false [] [1,2,5,6,13,14,15]) .skip)))) (.aO uW false [] [1,2,5,6,13,14,15]))))
def I8 : C := (.seq (.seq (.aO BT false [] [1,2,5,12]) (.cond (.t 12) .skip (.exit 0))) (.aN 1 (.seq (.aO BS false [] [1,2,5,6]) (.seq (.aO BR false [] [1,2,5,6,13,14,15]) (.aN 2 (.loop Nx))))))
def uV : List O :=[oo 32<|.mv (.t 5),oo 4<|.mv (.t 32)]
def cQ3 : C := (.seq (.aO BW false [] [1,2]) (.seq (.aO BV false [] [1,2,5]) (.seq (.seq (.aO BU false [] [1,2,5,6]) (.aN 0 (.loop I8))) (.seq (.aO uV false [] [4]) .ret))))
def qQ3 : fK := ⟨33,2,[.t 4],cQ3⟩
/- cohesion/nodeset.Valid -/
def zl : List O :=[oo 4<|.mv (.k (.bool false))]
def zk : List O :=[oo 7<|.mv (.t 0),oo 8<|.len (.t 7),oo 9<|.mv (ki 0)]
def zj : List O :=[oo 10<|.bin .lss (.t 9) (.t 8)]
def zi : List O :=[oo 11<|.mv (.t 9),oo 12<|.fO 1 (.t 7) (.t 9),oo 13<|.ld none (.t 12),oo 5<|.mv (.t 11),oo 6<|.mv (.t 13)]
def zh : List O :=[oo 14<|.mv (.t 6),oo 15<|.bin .lss (.t 14) (ki 0),oo 16<|.mv (.t 15),gf 17 16<|.mv (.t 6),gf 18 16<|.mv (.t 1),gf 19 16<|.bin .geq (.t 17) (.t 18),oo 20<|.pick (.t 16) (.k (.bool true)) (.t 19),oo 21<|.mv (.t 20),gf 22 21<|.mv (.t 5),gf 23 21<|.bin .gtr (.t 22) (ki 0),gf 24 21<|.mv (.t 23),gt 25 24<|.mv (.t 0),gt 26 24<|.mv (.t 5),gt 27 24<|.bin .sub (.t 26) (ki 1),gt 28 24<|.fO 1 (.t 25) (.t 27),gt 29 24<|.ld none (.t 28),gt 30 24<|.mv (.t 6),gt 31 24<|.bin .geq (.t 29) (.t 30),gf 32 21<|.pick (.t 24) (.t 31) (.k (.bool false)),oo 33<|.pick (.t 21) (.k (.bool true)) (.t 32)]
def zg : List O :=[oo 4<|.mv (.k (.bool false))]
def zf : List O :=[oo 34<|.bin .add (.t 9) (ki 1),oo 9<|.mv (.t 34)]
def B8 : C := (.seq (.aO zj false [] [0,1,7,8,9,10]) (.seq (.cond (.t 10) .skip (.exit 0)) (.seq (.aN 1 (.seq (.aO zi false [] [0,1,5,6,7,8,9]) (.seq (.aO zh false [] [0,1,7,8,9,33]) (.cond (.t 33) (.seq (.aO zg false [] [4]) .ret) .skip)))) (.aO zf false [] [0,1,7,8,9]))))
def ze : List O :=[oo 4<|.mv (.k (.bool true))]
def cQ4 : C := (.seq (.aO zl false [] [0,1]) (.seq (.seq (.aO zk false [] [0,1,7,8,9]) (.aN 0 (.loop B8))) (.seq (.aO ze false [] [4]) .ret)))
def qQ4 : fK := ⟨35,2,[.t 4],cQ4⟩
/- cohesion/cliques.clique -/
def zd : List O :=[oo 4<|.mv (.k (.bool false))]
def zc : List O :=[oo 9<|.mv (.t 1),oo 10<|.len (.t 9),oo 11<|.mv (ki 0)]
def zb : List O :=[oo 12<|.bin .lss (.t 11) (.t 10)]
def za : List O :=[oo 13<|.mv (.t 11),oo 14<|.fO 1 (.t 9) (.t 11),oo 15<|.ld none (.t 14),oo 5<|.mv (.t 13),oo 6<|.mv (.t 15)]
def y0 : List O :=[oo 16<|.mv (.t 1),oo 17<|.mv (.t 5),oo 18<|.yG 1 (.t 16) none (some (.t 17)),oo 19<|.len (.t 18),oo 20<|.mv (ki 0)]
def yZ : List O :=[oo 21<|.bin .lss (.t 20) (.t 19)]
def yY : List O :=[oo 22<|.fO 1 (.t 18) (.t 20),oo 23<|.ld none (.t 22),oo 8<|.mv (.t 23)]
def yX : List O :=[oo 24<|.mv (.t 0),oo 25<|.mv (.t 6),oo 26<|.fO 1 (.t 24) (.t 25),oo 27<|.ld none (.t 26),oo 28<|.mv (.t 8),oo 29<|.bin .shr (.t 27) (.t 28),oo 30<|.bin .and (.t 29) (.k (.int .u64 1)),oo 31<|.bin .eql (.t 30) (.k (.int .u64 0))]
def yW : List O :=[oo 4<|.mv (.k (.bool false))]
def yV : List O :=[oo 32<|.bin .add (.t 20) (ki 1),oo 20<|.mv (.t 32)]
def Nw : C := (.seq (.aO yZ false [] [0,1,6,9,10,11,18,19,20,21]) (.seq (.cond (.t 21) .skip (.exit 2)) (.seq (.aN 3 (.seq (.aO yY false [] [0,1,6,8,9,10,11,18,19,20]) (.seq (.aO yX false [] [0,1,6,9,10,11,18,19,20,31]) (.cond (.t 31) (.seq (.aO yW false [] [4]) .ret) .skip)))) (.aO yV false [] [0,1,6,9,10,11,18,19,20]))))
def sP : List O :=[oo 33<|.bin .add (.t 11) (ki 1),oo 11<|.mv (.t 33)]
def Nv : C := (.seq (.aO zb false [] [0,1,9,10,11,12]) (.seq (.cond (.t 12) .skip (.exit 0)) (.seq (.aN 1 (.seq (.aO za false [] [0,1,5,6,9,10,11]) (.seq (.aO y0 false [] [0,1,6,9,10,11,18,19,20]) (.aN 2 (.loop Nw))))) (.aO sP false [] [0,1,9,10,11]))))
def sO : List O :=[oo 4<|.mv (.k (.bool true))]
def cQ5 : C := (.seq (.aO zd false [] [0,1]) (.seq (.seq (.aO zc false [] [0,1,9,10,11]) (.aN 0 (.loop Nv))) (.seq (.aO sO false [] [4]) .ret)))
def qQ5 : fK := ⟨34,2,[.t 4],cQ5⟩
/- cohesion/cliques.masks -/
def Ta : List O :=[oo 1<|.box (.t 0),oo 2<|.mv (.k (.own 1 []))]
def S9 : List O :=[oo 6<|.fX 0 (.t 1),oo 7<|.ld none (.t 6),oo 8<|.Hd 1 [.int .u64 0] (.t 7) (.t 7),oo 3<|.mv (.t 8)]
def S8 : List O :=[oo 9<|.fX 1 (.t 1),oo 10<|.ld none (.t 9),oo 11<|.len (.t 10),oo 12<|.mv (ki 0)]
def S7 : List O :=[oo 13<|.bin .lss (.t 12) (.t 11)]
def S6 : List O :=[oo 14<|.fO 2 (.t 10) (.t 12),oo 15<|.ld (some 2) (.t 14),oo 5<|.new [.int .i64 0,.int .i64 0],oz<|.st 2 (.t 5) (.t 15)]
def S5 : List O :=[oo 16<|.mv (.t 3),oo 17<|.fX 0 (.t 5),oo 18<|.ld none (.t 17),oo 19<|.fO 1 (.t 16) (.t 18),oo 20<|.ld none (.t 19),oo 21<|.fX 1 (.t 5),oo 22<|.ld none (.t 21),oo 23<|.bin .shl (.k (.int .u64 1)) (.t 22),oo 24<|.bin .or (.t 20) (.t 23),oo 25<|.fO 1 (.t 16) (.t 18),oz<|.st 1 (.t 25) (.t 24)]
def S4 : List O :=[oo 26<|.mv (.t 3),oo 27<|.fX 1 (.t 5),oo 28<|.ld none (.t 27),oo 29<|.fO 1 (.t 26) (.t 28),oo 30<|.ld none (.t 29),oo 31<|.fX 0 (.t 5),oo 32<|.ld none (.t 31),oo 33<|.bin .shl (.k (.int .u64 1)) (.t 32),oo 34<|.bin .or (.t 30) (.t 33),oo 35<|.fO 1 (.t 26) (.t 28),oz<|.st 1 (.t 35) (.t 34)]
def S3 : List O :=[oo 36<|.bin .add (.t 12) (ki 1),oo 12<|.mv (.t 36)]
def Ug : C := (.seq (.aO S7 false [] [3,10,11,12,13]) (.seq (.cond (.t 13) .skip (.exit 0)) (.seq (.aN 1 (.seq (.aO S6 false [] [3,5,10,11,12]) (.seq (.aO S5 true [(8,8),(9,9),(10,10),(0,2),(2,5),(4,5),(0,6),(1,6),(2,6),(3,6),(4,6),(2,7),(4,7)] [3,5,10,11,12]) (.aO S4 true [(8,8),(9,9),(10,10),(0,2),(2,5),(4,5),(0,6),(1,6),(2,6),(3,6),(4,6),(2,7),(4,7)] [3,10,11,12])))) (.aO S3 false [] [3,10,11,12]))))
def S0 : List O :=[oo 37<|.mv (.t 3),oo 2<|.mv (.t 37)]
def cQ6 : C := (.seq (.aO Ta false [] [1]) (.seq (.aO S9 false [] [1,3]) (.seq (.seq (.aO S8 false [] [3,10,11,12]) (.aN 0 (.loop Ug))) (.seq (.aO S0 false [] [2]) .ret))))
def qQ6 : fK := ⟨38,1,[.t 2],cQ6⟩
/- cohesion/cohesionref02.Valid -/
def yU : List O :=[oo 4<|.mv (.k (.bool false))]
def yT : List O :=[oo 7<|.mv (.t 0),oo 8<|.len (.t 7),oo 9<|.mv (ki 0)]
def yS : List O :=[oo 10<|.bin .lss (.t 9) (.t 8)]
def yR : List O :=[oo 11<|.mv (.t 9),oo 12<|.fO 1 (.t 7) (.t 9),oo 13<|.ld none (.t 12),oo 5<|.mv (.t 11),oo 6<|.mv (.t 13)]
def yQ : List O :=[oo 14<|.mv (.t 6),oo 15<|.bin .lss (.t 14) (ki 0),oo 16<|.mv (.t 15),gf 17 16<|.mv (.t 6),gf 18 16<|.mv (.t 1),gf 19 16<|.bin .geq (.t 17) (.t 18),oo 20<|.pick (.t 16) (.k (.bool true)) (.t 19),oo 21<|.mv (.t 20),gf 22 21<|.mv (.t 5),gf 23 21<|.bin .gtr (.t 22) (ki 0),gf 24 21<|.mv (.t 23),gt 25 24<|.mv (.t 0),gt 26 24<|.mv (.t 5),gt 27 24<|.bin .sub (.t 26) (ki 1),gt 28 24<|.fO 1 (.t 25) (.t 27),gt 29 24<|.ld none (.t 28),gt 30 24<|.mv (.t 6),gt 31 24<|.bin .geq (.t 29) (.t 30),gf 32 21<|.pick (.t 24) (.t 31) (.k (.bool false)),oo 33<|.pick (.t 21) (.k (.bool true)) (.t 32)]
def yP : List O :=[oo 4<|.mv (.k (.bool false))]
def yO : List O :=[oo 34<|.bin .add (.t 9) (ki 1),oo 9<|.mv (.t 34)]
def B7 : C := (.seq (.aO yS false [] [0,1,7,8,9,10]) (.seq (.cond (.t 10) .skip (.exit 0)) (.seq (.aN 1 (.seq (.aO yR false [] [0,1,5,6,7,8,9]) (.seq (.aO yQ false [] [0,1,7,8,9,33]) (.cond (.t 33) (.seq (.aO yP false [] [4]) .ret) .skip)))) (.aO yO false [] [0,1,7,8,9]))))
def yN : List O :=[oo 4<|.mv (.k (.bool true))]
def cQ7 : C := (.seq (.aO yU false [] [0,1]) (.seq (.seq (.aO yT false [] [0,1,7,8,9]) (.aN 0 (.loop B7))) (.seq (.aO yN false [] [4]) .ret)))
def qQ7 : fK := ⟨35,2,[.t 4],cQ7⟩
/- cohesion/cohesionref03.Find -/
def Ff : List O :=[oo 3<|.box (.t 0),oo 6<|.mv (ki 0)]
def Fe : List O :=[oo 9<|.ld (some 2) (.t 3),oo 10<|.call nQ2 [.t 9],oo 11<|.bin .neq (.t 10) (ki 0)]
def Fc : List O :=[oo 6<|.mv (.k (.int .i64 (-1)))]
def Fb : List O :=[oo 12<|.fX 1 (.t 3),oo 13<|.ld none (.t 12),oo 14<|.len (.t 13),oo 15<|.mv (ki 0)]
def Fa : List O :=[oo 16<|.bin .lss (.t 15) (.t 14)]
def E9 : List O :=[oo 17<|.mv (.t 15),oo 18<|.fO 2 (.t 13) (.t 15),oo 19<|.ld (some 2) (.t 18),oo 8<|.new [.int .i64 0,.int .i64 0],oo 7<|.mv (.t 17),oz<|.st 2 (.t 8) (.t 19)]
def E8 : List O :=[oo 20<|.ld (some 2) (.t 8),oo 21<|.mv (.t 1),oo 22<|.mv (.t 2),oo 23<|.call nQQ [.t 21,.t 22],oo 24<|.eq false (.str [true,true]) (.t 20) (.t 23)]
def E7 : List O :=[oo 25<|.mv (.t 7),oo 6<|.mv (.t 25)]
def E6 : List O :=[oo 26<|.bin .add (.t 15) (ki 1),oo 15<|.mv (.t 26)]
def I7 : C := (.seq (.aO Fa false [] [1,2,13,14,15,16]) (.seq (.cond (.t 16) .skip (.exit 0)) (.seq (.aN 1 (.seq (.aO E9 false [] [1,2,7,8,13,14,15]) (.seq (.aO E8 true [(4,4),(0,1),(0,2),(0,3)] [1,2,7,13,14,15,24]) (.cond (.t 24) (.seq (.aO E7 false [] [6]) .ret) .skip)))) (.aO E6 false [] [1,2,13,14,15]))))
def E5 : List O :=[oo 6<|.mv (.k (.int .i64 (-1)))]
def cQ8 : C := (.seq (.aO Ff false [] [1,2,3]) (.seq (.seq (.aO Fe false [] [1,2,3,11]) (.cond (.t 11) (.seq (.aO Fc false [] [6]) .ret) .skip)) (.seq (.seq (.aO Fb false [] [1,2,13,14,15]) (.aN 0 (.loop I7))) (.seq (.aO E5 false [] [6]) .ret))))
def qQ8 : fK := ⟨27,3,[.t 6],cQ8⟩
/- slices.IndexFunc[[]int,int] -/
def SZ : List O :=[oo 4<|.mv (ki 0)]
def SY : List O :=[oo 6<|.mv (.t 0),oo 7<|.len (.t 6),oo 8<|.mv (ki 0)]
def SX : List O :=[oo 9<|.bin .lss (.t 8) (.t 7)]
def SW : List O :=[oo 10<|.mv (.t 8),oo 5<|.mv (.t 10)]
def SV : List O :=[oo 11<|.mv (.t 1),oo 12<|.mv (.t 0),oo 13<|.mv (.t 5),oo 14<|.fO 1 (.t 12) (.t 13),oo 15<|.ld none (.t 14),oo 16<|.jc (.t 11) [.t 15]]
def SU : List O :=[oo 17<|.mv (.t 5),oo 4<|.mv (.t 17)]
def SS : List O :=[oo 18<|.bin .add (.t 8) (ki 1),oo 8<|.mv (.t 18)]
def Uf : C := (.seq (.aO SX false [] [0,1,7,8,9]) (.seq (.cond (.t 9) .skip (.exit 0)) (.seq (.aN 1 (.seq (.aO SW false [] [0,1,5,7,8]) (.seq (.aO SV false [] [0,1,5,7,8,16]) (.cond (.t 16) (.seq (.aO SU false [] [4]) .ret) .skip)))) (.aO SS false [] [0,1,7,8]))))
def SR : List O :=[oo 4<|.mv (.k (.int .i64 (-1)))]
def cQ9 : C := (.seq (.aO SZ false [] [0,1]) (.seq (.seq (.aO SY false [] [0,1,7,8]) (.aN 0 (.loop Uf))) (.seq (.aO SR false [] [4]) .ret)))
def qQ9 : fK := ⟨19,2,[.t 4],cQ9⟩
/- slices.IndexFunc[[]cohesion/api.Edge,cohesion/api.Edge] -/
def KI : List O :=[oo 4<|.mv (ki 0)]
def KH : List O :=[oo 6<|.mv (.t 0),oo 7<|.len (.t 6),oo 8<|.mv (ki 0)]
def KG : List O :=[oo 9<|.bin .lss (.t 8) (.t 7)]
def KF : List O :=[oo 10<|.mv (.t 8),oo 5<|.mv (.t 10)]
def KE : List O :=[oo 11<|.mv (.t 1),oo 12<|.mv (.t 0),oo 13<|.mv (.t 5),oo 14<|.fO 2 (.t 12) (.t 13),oo 15<|.ld (some 2) (.t 14),oo 16<|.jc (.t 11) [.t 15]]
def KD : List O :=[oo 17<|.mv (.t 5),oo 4<|.mv (.t 17)]
def KC : List O :=[oo 18<|.bin .add (.t 8) (ki 1),oo 8<|.mv (.t 18)]
def K9 : C := (.seq (.aO KG false [] [0,1,7,8,9]) (.seq (.cond (.t 9) .skip (.exit 0)) (.seq (.aN 1 (.seq (.aO KF false [] [0,1,5,7,8]) (.seq (.aO KE false [] [0,1,5,7,8,16]) (.cond (.t 16) (.seq (.aO KD false [] [4]) .ret) .skip)))) (.aO KC false [] [0,1,7,8]))))
def KB : List O :=[oo 4<|.mv (.k (.int .i64 (-1)))]
def cQa0 : C := (.seq (.aO KI false [] [0,1]) (.seq (.seq (.aO KH false [] [0,1,7,8]) (.aN 0 (.loop K9))) (.seq (.aO KB false [] [4]) .ret)))
def qQa0 : fK := ⟨19,2,[.t 4],cQa0⟩
/- cohesion/cohesionref03.Before -/
def En : List O :=[oo 2<|.box (.t 0),oo 3<|.box (.t 1),oo 4<|.mv (.k (.bool false))]
def Em : List O :=[oo 5<|.fX 0 (.t 2),oo 6<|.ld none (.t 5),oo 7<|.fX 0 (.t 3),oo 8<|.ld none (.t 7),oo 9<|.bin .lss (.t 6) (.t 8),oo 10<|.mv (.t 9),gf 11 10<|.fX 0 (.t 2),gf 12 10<|.ld none (.t 11),gf 13 10<|.fX 0 (.t 3),gf 14 10<|.ld none (.t 13),gf 15 10<|.bin .eql (.t 12) (.t 14),gf 16 10<|.mv (.t 15),gt 17 16<|.fX 1 (.t 2),gt 18 16<|.ld none (.t 17),gt 19 16<|.fX 1 (.t 3),gt 20 16<|.ld none (.t 19),gt 21 16<|.bin .lss (.t 18) (.t 20),gf 22 10<|.pick (.t 16) (.t 21) (.k (.bool false)),oo 23<|.pick (.t 10) (.k (.bool true)) (.t 22),oo 4<|.mv (.t 23)]
def cQa1 : C := (.seq (.aO En false [] [2,3]) (.seq (.aO Em false [] [4]) .ret))
def qQa1 : fK := ⟨24,2,[.t 4],cQa1⟩
/- cmp.Or[int] -/
def pZ : List O :=[oo 2<|.mv (ki 0)]
def pY : List O :=[oo 3<|.mv (ki 0)]
def pX : List O :=[oo 6<|.mv (.t 0),oo 7<|.len (.t 6),oo 8<|.mv (ki 0)]
def pT : List O :=[oo 9<|.bin .lss (.t 8) (.t 7)]
def pS : List O :=[oo 10<|.fO 1 (.t 6) (.t 8),oo 11<|.ld none (.t 10),oo 5<|.mv (.t 11)]
def pQ : List O :=[oo 12<|.mv (.t 5),oo 13<|.mv (.t 3),oo 14<|.bin .neq (.t 12) (.t 13)]
def pP : List O :=[oo 15<|.mv (.t 5),oo 2<|.mv (.t 15)]
def pN : List O :=[oo 16<|.bin .add (.t 8) (ki 1),oo 8<|.mv (.t 16)]
def sX : C := (.seq (.aO pT false [] [3,6,7,8,9]) (.seq (.cond (.t 9) .skip (.exit 0)) (.seq (.aN 1 (.seq (.aO pS false [] [3,5,6,7,8]) (.seq (.aO pQ false [] [3,5,6,7,8,14]) (.cond (.t 14) (.seq (.aO pP false [] [2]) .ret) .skip)))) (.aO pN false [] [3,6,7,8]))))
def pK : List O :=[oo 17<|.mv (.t 3),oo 2<|.mv (.t 17)]
def cQa2 : C := (.seq (.aO pZ false [] [0]) (.seq (.aO pY false [] [0,3]) (.seq (.seq (.aO pX false [] [3,6,7,8]) (.aN 0 (.loop sX))) (.seq (.aO pK false [] [2]) .ret))))
def qQa2 : fK := ⟨18,1,[.t 2],cQa2⟩
/- cmp.Compare[int] -/
def KA : List O :=[oo 4<|.mv (ki 0)]
def Kz : List O :=[oo 7<|.mv (.t 0),oo 8<|.call MS [.t 7],oo 5<|.mv (.t 8)]
def Ky : List O :=[oo 9<|.mv (.t 1),oo 10<|.call MS [.t 9],oo 6<|.mv (.t 10)]
def Kx : List O :=[oo 11<|.mv (.t 5)]
def Kw : List O :=[oo 12<|.mv (.t 6)]
def Kv : List O :=[oo 4<|.mv (ki 0)]
def Ku : List O :=[oo 4<|.mv (.k (.int .i64 (-1)))]
def Kt : List O :=[oo 13<|.mv (.t 6)]
def Ks : List O :=[oo 4<|.mv (ki 1)]
def Kr : List O :=[oo 14<|.mv (.t 0),oo 15<|.mv (.t 1),oo 16<|.bin .lss (.t 14) (.t 15)]
def CQ : List O :=[oo 4<|.mv (.k (.int .i64 (-1)))]
def CP : List O :=[oo 17<|.mv (.t 0),oo 18<|.mv (.t 1),oo 19<|.bin .gtr (.t 17) (.t 18)]
def CO : List O :=[oo 4<|.mv (ki 1)]
def CN : List O :=[oo 4<|.mv (ki 0)]
def cQa3 : C := (.seq (.aO KA false [] [0,1]) (.seq (.aO Kz false [] [0,1,5]) (.seq (.aO Ky false [] [0,1,5,6]) (.seq (.seq (.aO Kx false [] [0,1,6,11]) (.cond (.t 11) (.seq (.seq (.aO Kw false [] [12]) (.cond (.t 12) (.seq (.aO Kv false [] [4]) .ret) .skip)) (.seq (.aO Ku false [] [4]) .ret)) .skip)) (.seq (.seq (.aO Kt false [] [0,1,13]) (.cond (.t 13) (.seq (.aO Ks false [] [4]) .ret) .skip)) (.seq (.seq (.aO Kr false [] [0,1,16]) (.cond (.t 16) (.seq (.aO CQ false [] [4]) .ret) .skip)) (.seq (.seq (.aO CP false [] [19]) (.cond (.t 19) (.seq (.aO CO false [] [4]) .ret) .skip)) (.seq (.aO CN false [] [4]) .ret))))))))
def qQa3 : fK := ⟨20,2,[.t 4],cQa3⟩
/- cohesion/nodeset.merged[int] -/
def iY : List O :=[oo 6<|.mv (.k (.own 1 []))]
def iX : List O :=[oo 11<|.mv (.t 0),oo 12<|.call Hu [.t 11],oo 13<|.mv (.t 1),oo 14<|.call Hu [.t 13],oo 0<|.mv (.t 12),oo 1<|.mv (.t 14)]
def iW : List O :=[oo 15<|.mv (.t 0),oo 16<|.call PV [.t 15]]
def iV : List O :=[oo 17<|.mv (.t 1),oo 18<|.call PV [.t 17]]
def iU : List O :=[oo 19<|.mv (.t 0),oo 20<|.call PU [.t 19],oo 21<|.mv (.t 1),oo 22<|.call PU [.t 21],oo 0<|.mv (.t 20),oo 1<|.mv (.t 22)]
def iT : List O :=[oo 7<|.mv (.k (.own 1 []))]
def iJ : List O :=[oo 23<|.mv (.t 0),oo 24<|.len (.t 23),oo 25<|.bin .gtr (.t 24) (ki 0),oo 26<|.mv (.t 25),gf 27 26<|.mv (.t 1),gf 28 26<|.len (.t 27),gf 29 26<|.bin .gtr (.t 28) (ki 0),oo 30<|.pick (.t 26) (.k (.bool true)) (.t 29)]
def jo : List O :=[oo 31<|.mv (.t 1),oo 32<|.len (.t 31),oo 33<|.bin .eql (.t 32) (ki 0),oo 34<|.mv (.t 33),gf 35 34<|.mv (.t 0),gf 36 34<|.len (.t 35),gf 37 34<|.bin .gtr (.t 36) (ki 0),gf 38 34<|.mv (.t 37),gt 39 38<|.mv (.t 0),gt 40 38<|.fO 1 (.t 39) (ki 0),gt 41 38<|.ld none (.t 40),gt 42 38<|.mv (.t 1),gt 43 38<|.fO 1 (.t 42) (ki 0),gt 44 38<|.ld none (.t 43),gt 45 38<|.bin .leq (.t 41) (.t 44),gf 46 34<|.pick (.t 38) (.t 45) (.k (.bool false)),oo 47<|.pick (.t 34) (.k (.bool true)) (.t 46),oo 8<|.mv (.t 47)]
def jm : List O :=[oo 48<|.mv (.t 0),oo 49<|.len (.t 48),oo 50<|.bin .eql (.t 49) (ki 0),oo 51<|.mv (.t 50),gf 52 51<|.mv (.t 1),gf 53 51<|.len (.t 52),gf 54 51<|.bin .gtr (.t 53) (ki 0),gf 55 51<|.mv (.t 54),gt 56 55<|.mv (.t 1),gt 57 55<|.fO 1 (.t 56) (ki 0),gt 58 55<|.ld none (.t 57),gt 59 55<|.mv (.t 0),gt 60 55<|.fO 1 (.t 59) (ki 0),gt 61 55<|.ld none (.t 60),gt 62 55<|.bin .leq (.t 58) (.t 61),gf 63 51<|.pick (.t 55) (.t 62) (.k (.bool false)),oo 64<|.pick (.t 51) (.k (.bool true)) (.t 63),oo 9<|.mv (.t 64)]
def jl : List O :=[oo 10<|.mv (ki 0)]
def gR : List O :=[oo 65<|.mv (.t 8)]
def gQ : List O :=[oo 66<|.mv (.t 0),oo 67<|.fO 1 (.t 66) (ki 0),oo 68<|.ld none (.t 67),oo 69<|.mv (.t 0),oo 70<|.yG 1 (.t 69) (some (ki 1)) none,oo 10<|.mv (.t 68),oo 0<|.mv (.t 70)]
def gP : List O :=[oo 71<|.mv (.t 9)]
def gO : List O :=[oo 72<|.mv (.t 1),oo 73<|.fO 1 (.t 72) (ki 0),oo 74<|.ld none (.t 73),oo 75<|.mv (.t 1),oo 76<|.yG 1 (.t 75) (some (ki 1)) none,oo 10<|.mv (.t 74),oo 1<|.mv (.t 76)]
def gN : List O :=[oo 77<|.mv (.t 2),oo 78<|.mv (.t 8),oo 79<|.mv (.t 9),oo 80<|.jc (.t 77) [.t 78,.t 79]]
def gM : List O :=[oo 81<|.mv (.t 7),oo 82<|.mv (.t 10),oo 83<|.dY 1 1 [.int .i64 0] [(0,1,.t 82)],oo 84<|.app 1 (.t 81) (.t 83),oo 7<|.mv (.t 84)]
def ja : C := (.seq (.seq (.aO iJ false [] [0,1,2,7,30]) (.cond (.t 30) .skip (.exit 0))) (.aN 1 (.seq (.aO jo true [(0,0),(1,1),(2,2),(3,3),(4,4),(5,5),(6,6),(7,7),(14,14),(15,15),(16,16),(17,17),(10,11),(10,12),(8,13),(9,13),(10,13)] [0,1,2,7,8]) (.seq (.aO jm true [(0,0),(1,1),(2,2),(3,3),(4,4),(5,5),(6,6),(7,7),(14,14),(15,15),(16,16),(17,17),(10,11),(10,12),(8,13),(9,13),(10,13)] [0,1,2,7,8,9]) (.seq (.aO jl false [] [0,1,2,7,8,9,10]) (.seq (.seq (.aO gR false [] [0,1,2,7,8,9,10,65]) (.cond (.t 65) (.aO gQ true [(6,6),(2,3),(2,4)] [0,1,2,7,8,9,10]) .skip)) (.seq (.seq (.aO gP false [] [0,1,2,7,8,9,10,71]) (.cond (.t 71) (.aO gO true [(6,6),(2,3),(2,4)] [0,1,2,7,8,9,10]) .skip)) (.seq (.aO gN false [] [0,1,2,7,10,80]) (.cond (.t 80) (.aO gM false [] [0,1,2,7]) .skip)))))))))
def gh : List O :=[oo 85<|.mv (.t 7),oo 6<|.mv (.t 85)]
def cQa4 : C := (.seq (.aO iY false [] [0,1,2]) (.seq (.aO iX false [] [0,1,2]) (.seq (.aO iW false [] [0,1,2]) (.seq (.aO iV false [] [0,1,2]) (.seq (.aO iU false [] [0,1,2]) (.seq (.aO iT false [] [0,1,2,7]) (.seq (.aN 0 (.loop ja)) (.seq (.aO gh false [] [6]) .ret))))))))
def X4 : fK := ⟨86,3,[.t 6],cQa4⟩
/- cohesion/nodeset.Union$1 -/
def X1 : List O :=[oo 4<|.mv (.k (.bool false))]
def X0 : List O :=[oo 4<|.mv (.k (.bool true))]
def cQa5 : C := (.seq (.aO X1 false [] []) (.seq (.aO X0 false [] [4]) .ret))
def qQa5 : fK := ⟨5,2,[.t 4],cQa5⟩
/- cohesion/masks.Rows -/
def Kp : List O :=[oo 1<|.box (.t 0),oo 2<|.mv (.k (.own 1 []))]
def Ko : List O :=[oo 6<|.fX 0 (.t 1),oo 7<|.ld none (.t 6),oo 8<|.max [.t 7,ki 0],oo 9<|.min [.t 8,ki 64],oo 10<|.Hd 1 [.int .u64 0] (.t 9) (.t 9),oo 3<|.mv (.t 10)]
def Kn : List O :=[oo 11<|.fX 1 (.t 1),oo 12<|.ld none (.t 11),oo 13<|.len (.t 12),oo 14<|.mv (ki 0)]
def Km : List O :=[oo 15<|.bin .lss (.t 14) (.t 13)]
def Kl : List O :=[oo 16<|.fO 2 (.t 12) (.t 14),oo 17<|.ld (some 2) (.t 16),oo 5<|.new [.int .i64 0,.int .i64 0],oz<|.st 2 (.t 5) (.t 17)]
def Kk : List O :=[oo 18<|.fX 0 (.t 5),oo 19<|.ld none (.t 18),oo 20<|.bin .geq (.t 19) (ki 0),oo 21<|.mv (.t 20),gt 22 21<|.fX 0 (.t 5),gt 23 21<|.ld none (.t 22),gt 24 21<|.fX 1 (.t 5),gt 25 21<|.ld none (.t 24),gt 26 21<|.bin .lss (.t 23) (.t 25),oo 27<|.pick (.t 21) (.t 26) (.k (.bool false)),oo 28<|.mv (.t 27),gt 29 28<|.fX 1 (.t 5),gt 30 28<|.ld none (.t 29),gt 31 28<|.mv (.t 3),gt 32 28<|.len (.t 31),gt 33 28<|.bin .lss (.t 30) (.t 32),oo 34<|.pick (.t 28) (.t 33) (.k (.bool false))]
def Kj : List O :=[oo 35<|.mv (.t 3),oo 36<|.fX 0 (.t 5),oo 37<|.ld none (.t 36),oo 38<|.fO 1 (.t 35) (.t 37),oo 39<|.ld none (.t 38),oo 40<|.fX 1 (.t 5),oo 41<|.ld none (.t 40),oo 42<|.bin .shl (.k (.int .u64 1)) (.t 41),oo 43<|.bin .or (.t 39) (.t 42),oo 44<|.fO 1 (.t 35) (.t 37),oz<|.st 1 (.t 44) (.t 43)]
def Ki : List O :=[oo 45<|.mv (.t 3),oo 46<|.fX 1 (.t 5),oo 47<|.ld none (.t 46),oo 48<|.fO 1 (.t 45) (.t 47),oo 49<|.ld none (.t 48),oo 50<|.fX 0 (.t 5),oo 51<|.ld none (.t 50),oo 52<|.bin .shl (.k (.int .u64 1)) (.t 51),oo 53<|.bin .or (.t 49) (.t 52),oo 54<|.fO 1 (.t 45) (.t 47),oz<|.st 1 (.t 54) (.t 53)]
def Kh : List O :=[oo 55<|.bin .add (.t 14) (ki 1),oo 14<|.mv (.t 55)]
def K8 : C := (.seq (.aO Km false [] [3,12,13,14,15]) (.seq (.cond (.t 15) .skip (.exit 0)) (.seq (.aN 1 (.seq (.aO Kl false [] [3,5,12,13,14]) (.seq (.aO Kk false [] [3,5,12,13,14,34]) (.cond (.t 34) (.seq (.aO Kj true [(8,8),(9,9),(10,10),(0,2),(2,5),(4,5),(0,6),(1,6),(2,6),(3,6),(4,6),(2,7),(4,7)] [3,5,12,13,14]) (.aO Ki true [(8,8),(9,9),(10,10),(0,2),(2,5),(4,5),(0,6),(1,6),(2,6),(3,6),(4,6),(2,7),(4,7)] [3,12,13,14])) .skip)))) (.aO Kh false [] [3,12,13,14]))))
def Kg : List O :=[oo 56<|.mv (.t 3),oo 2<|.mv (.t 56)]
def cQa6 : C := (.seq (.aO Kp false [] [1]) (.seq (.aO Ko false [] [1,3]) (.seq (.seq (.aO Kn false [] [3,12,13,14]) (.aN 0 (.loop K8))) (.seq (.aO Kg false [] [2]) .ret))))
def qQa6 : fK := ⟨57,1,[.t 2],cQa6⟩
/- cohesion/masks.Count -/
def XZ : List O :=[oo 2<|.mv (ki 0)]
def XY : List O :=[oo 3<|.mv (.t 0),oo 4<|.call nQU [.t 3],oo 2<|.mv (.t 4)]
def cQa7 : C := (.seq (.aO XZ false [] [0]) (.seq (.aO XY false [] [2]) .ret))
def qQa7 : fK := ⟨5,1,[.t 2],cQa7⟩
/- cohesion/masks.Bit -/
def afH : List O :=[oo 2<|.mv (.k (.int .u64 0))]
def afG : List O :=[oo 3<|.mv (.t 0),oo 4<|.bin .lss (.t 3) (ki 0),oo 5<|.mv (.t 4),gf 6 5<|.mv (.t 0),gf 7 5<|.bin .geq (.t 6) (ki 64),oo 8<|.pick (.t 5) (.k (.bool true)) (.t 7)]
def afF : List O :=[oo 2<|.mv (.k (.int .u64 0))]
def afE : List O :=[oo 9<|.mv (.t 0),oo 10<|.bin .shl (.k (.int .u64 1)) (.t 9),oo 2<|.mv (.t 10)]
def cQa8 : C := (.seq (.aO afH false [] [0]) (.seq (.seq (.aO afG false [] [0,8]) (.cond (.t 8) (.seq (.aO afF false [] [2]) .ret) .skip)) (.seq (.aO afE false [] [2]) .ret)))
def qQa8 : fK := ⟨11,1,[.t 2],cQa8⟩
/- cohesion/masks.All -/
def afD : List O :=[oo 2<|.mv (.k (.int .u64 0))]
def afC : List O :=[oo 4<|.mv (.t 0),oo 5<|.bin .leq (.t 4) (ki 0),oo 3<|.mv (.t 5)]
def afB : List O :=[oo 2<|.mv (.k (.int .u64 0))]
def afA : List O :=[oo 7<|.mv (.t 0),oo 8<|.bin .geq (.t 7) (ki 64),oo 6<|.mv (.t 8)]
def afz : List O :=[oo 2<|.mv (.k (.int .u64 18446744073709551615))]
def afy : List O :=[oo 9<|.mv (.t 0),oo 10<|.bin .shl (.k (.int .u64 1)) (.t 9),oo 11<|.bin .sub (.t 10) (.k (.int .u64 1)),oo 2<|.mv (.t 11)]
def cQa9 : C := (.seq (.aO afD false [] [0]) (.seq (.aN 0 (.seq (.aO afC false [] [0,3]) (.cond (.t 3) (.seq (.aO afB false [] [2]) .ret) (.seq (.aO afA false [] [0,6]) (.cond (.t 6) (.seq (.aO afz false [] [2]) .ret) .skip))))) (.seq (.aO afy false [] [2]) .ret)))
def qQa9 : fK := ⟨12,1,[.t 2],cQa9⟩
/- cohesion/masks.Least -/
def XX : List O :=[oo 2<|.mv (ki 0)]
def XW : List O :=[oo 3<|.mv (.t 0),oo 4<|.call YH [.t 3],oo 2<|.mv (.t 4)]
def cQb0 : C := (.seq (.aO XX false [] [0]) (.seq (.aO XW false [] [2]) .ret))
def qQb0 : fK := ⟨5,1,[.t 2],cQb0⟩
/- math/bits.Mul32 -/
def afx : List O :=[oo 4<|.mv (.k (.int .u32 0)),oo 5<|.mv (.k (.int .u32 0))]
def afw : List O :=[oo 7<|.mv (.t 0),oo 8<|.Ci .u64 (.t 7),oo 9<|.mv (.t 1),oo 10<|.Ci .u64 (.t 9),oo 11<|.bin .mul (.t 8) (.t 10),oo 6<|.mv (.t 11)]
def afv : List O :=[oo 12<|.mv (.t 6),oo 13<|.bin .shr (.t 12) (.k (.int .u64 32)),oo 14<|.Ci .u32 (.t 13),oo 15<|.mv (.t 6),oo 16<|.Ci .u32 (.t 15),oo 4<|.mv (.t 14),oo 5<|.mv (.t 16)]
def cQb1 : C := (.seq (.aO afx false [] [0,1]) (.seq (.aO afw false [] [6]) (.seq (.aO afv false [] [4,5]) .ret)))
def qQb1 : fK := ⟨17,2,[.t 4,.t 5],cQb1⟩
/- math/bits.Mul64 -/
def afu : List O :=[oo 4<|.mv (.k (.int .u64 0)),oo 5<|.mv (.k (.int .u64 0))]
def aft : List O :=[oo 14<|.mv (.t 0),oo 15<|.bin .and (.t 14) (.k (.int .u64 4294967295)),oo 6<|.mv (.t 15)]
def afs : List O :=[oo 16<|.mv (.t 0),oo 17<|.bin .shr (.t 16) (.k (.int .u64 32)),oo 7<|.mv (.t 17)]
def afr : List O :=[oo 18<|.mv (.t 1),oo 19<|.bin .and (.t 18) (.k (.int .u64 4294967295)),oo 8<|.mv (.t 19)]
def afq : List O :=[oo 20<|.mv (.t 1),oo 21<|.bin .shr (.t 20) (.k (.int .u64 32)),oo 9<|.mv (.t 21)]
def afp : List O :=[oo 22<|.mv (.t 6),oo 23<|.mv (.t 8),oo 24<|.bin .mul (.t 22) (.t 23),oo 10<|.mv (.t 24)]
def afo : List O :=[oo 25<|.mv (.t 7),oo 26<|.mv (.t 8),oo 27<|.bin .mul (.t 25) (.t 26),oo 28<|.mv (.t 10),oo 29<|.bin .shr (.t 28) (.k (.int .u64 32)),oo 30<|.bin .add (.t 27) (.t 29),oo 11<|.mv (.t 30)]
def afn : List O :=[oo 31<|.mv (.t 11),oo 32<|.bin .and (.t 31) (.k (.int .u64 4294967295)),oo 12<|.mv (.t 32)]
def afm : List O :=[oo 33<|.mv (.t 11),oo 34<|.bin .shr (.t 33) (.k (.int .u64 32)),oo 13<|.mv (.t 34)]
def afl : List O :=[oo 35<|.mv (.t 12),oo 36<|.mv (.t 6),oo 37<|.mv (.t 9),oo 38<|.bin .mul (.t 36) (.t 37),oo 39<|.bin .add (.t 35) (.t 38),oo 12<|.mv (.t 39)]
def aa5 : List O :=[oo 40<|.mv (.t 7),oo 41<|.mv (.t 9),oo 42<|.bin .mul (.t 40) (.t 41),oo 43<|.mv (.t 13),oo 44<|.bin .add (.t 42) (.t 43),oo 45<|.mv (.t 12),oo 46<|.bin .shr (.t 45) (.k (.int .u64 32)),oo 47<|.bin .add (.t 44) (.t 46),oo 4<|.mv (.t 47)]
def aa4 : List O :=[oo 48<|.mv (.t 0),oo 49<|.mv (.t 1),oo 50<|.bin .mul (.t 48) (.t 49),oo 5<|.mv (.t 50)]
def cQb2 : C := (.seq (.aO afu false [] [0,1]) (.seq (.aO aft false [] [0,1,6]) (.seq (.aO afs false [] [0,1,6,7]) (.seq (.aO afr false [] [0,1,6,7,8]) (.seq (.aO afq false [] [0,1,6,7,8,9]) (.seq (.aO afp false [] [0,1,6,7,8,9,10]) (.seq (.aO afo false [] [0,1,6,7,9,11]) (.seq (.aO afn false [] [0,1,6,7,9,11,12]) (.seq (.aO afm false [] [0,1,6,7,9,12,13]) (.seq (.aO afl false [] [0,1,7,9,12,13]) (.seq (.aO aa5 false [] [0,1,4]) (.seq (.aO aa4 false [] [4,5]) .ret))))))))))))
def qQb2 : fK := ⟨51,2,[.t 4,.t 5],cQb2⟩
/- cohesion/cohesionref02.Range -/
def El : List O :=[oo 2<|.mv (.k (.own 1 []))]
def Ek : List O :=[oo 3<|.mv (.k (.own 1 []))]
def Ej : List O :=[oo 4<|.mv (ki 0)]
def Ei : List O :=[oo 5<|.mv (.t 4),oo 6<|.mv (.t 0),oo 7<|.bin .lss (.t 5) (.t 6),oo 8<|.mv (.t 7),gt 9 8<|.mv (.t 4),gt 10 8<|.bin .lss (.t 9) (ki 64),oo 11<|.pick (.t 8) (.t 10) (.k (.bool false))]
def Eh : List O :=[oo 14<|.mv (.t 3),oo 15<|.mv (.t 4),oo 16<|.dY 1 1 [.int .i64 0] [(0,1,.t 15)],oo 17<|.app 1 (.t 14) (.t 16),oo 3<|.mv (.t 17)]
def Eg : List O :=[oo 12<|.mv (.t 4),oo 13<|.bin .add (.t 12) (ki 1),oo 4<|.mv (.t 13)]
def F5 : C := (.seq (.seq (.aO Ei false [] [0,3,4,11]) (.cond (.t 11) .skip (.exit 0))) (.seq (.aN 1 (.aO Eh false [] [0,3,4])) (.aO Eg false [] [0,3,4])))
def Ef : List O :=[oo 18<|.mv (.t 3),oo 2<|.mv (.t 18)]
def cQb3 : C := (.seq (.aO El false [] [0]) (.seq (.aO Ek false [] [0,3]) (.seq (.seq (.aO Ej false [] [0,3,4]) (.aN 0 (.loop F5))) (.seq (.aO Ef false [] [2]) .ret))))
def qQb3 : fK := ⟨19,1,[.t 2],cQb3⟩
/- cohesion/cohesionref02.Meet -/
def Ee : List O :=[oo 4<|.mv (.k (.own 1 []))]
def Ec : List O :=[oo 5<|.mv (.k (.own 1 []))]
def Eb : List O :=[oo 8<|.mv (.t 0),oo 9<|.call TR [.t 8],oo 10<|.len (.t 9),oo 11<|.mv (ki 0)]
def Ea : List O :=[oo 12<|.bin .lss (.t 11) (.t 10)]
def D9 : List O :=[oo 13<|.fO 1 (.t 9) (.t 11),oo 14<|.ld none (.t 13),oo 7<|.mv (.t 14)]
def D8 : List O :=[oo 15<|.mv (.t 1),oo 16<|.mv (.t 7),oo 17<|.call MR [.t 15,.t 16]]
def D7 : List O :=[oo 18<|.mv (.t 5),oo 19<|.mv (.t 7),oo 20<|.dY 1 1 [.int .i64 0] [(0,1,.t 19)],oo 21<|.app 1 (.t 18) (.t 20),oo 5<|.mv (.t 21)]
def D6 : List O :=[oo 22<|.bin .add (.t 11) (ki 1),oo 11<|.mv (.t 22)]
def F4 : C := (.seq (.aO Ea false [] [1,5,9,10,11,12]) (.seq (.cond (.t 12) .skip (.exit 0)) (.seq (.aN 1 (.seq (.aO D9 false [] [1,5,7,9,10,11]) (.seq (.aO D8 false [] [1,5,7,9,10,11,17]) (.cond (.t 17) (.aO D7 false [] [1,5,9,10,11]) .skip)))) (.aO D6 false [] [1,5,9,10,11]))))
def D5 : List O :=[oo 23<|.mv (.t 5),oo 4<|.mv (.t 23)]
def cQb4 : C := (.seq (.aO Ee false [] [0,1]) (.seq (.aO Ec false [] [0,1,5]) (.seq (.seq (.aO Eb false [] [1,5,9,10,11]) (.aN 0 (.loop F4))) (.seq (.aO D5 false [] [4]) .ret))))
def qQb4 : fK := ⟨24,2,[.t 4],cQb4⟩
/- cohesion/cohesionref03.Neighbours -/
def uU : List O :=[oo 2<|.box (.t 0),oo 4<|.mv (.k (.own 1 []))]
def uT : List O :=[oo 8<|.ld (some 2) (.t 2),oo 9<|.call nQ2 [.t 8],oo 10<|.bin .neq (.t 9) (ki 0)]
def uS : List O :=[oo 4<|.mv (.k (.own 1 []))]
def uR : List O :=[oo 5<|.mv (.k (.own 1 []))]
def uQ : List O :=[oo 11<|.fX 1 (.t 2),oo 12<|.ld none (.t 11),oo 13<|.len (.t 12),oo 14<|.mv (ki 0)]
def uP : List O :=[oo 15<|.bin .lss (.t 14) (.t 13)]
def uO : List O :=[oo 16<|.fO 2 (.t 12) (.t 14),oo 17<|.ld (some 2) (.t 16),oo 7<|.new [.int .i64 0,.int .i64 0],oz<|.st 2 (.t 7) (.t 17)]
def uM : List O :=[oo 18<|.fX 0 (.t 7),oo 19<|.ld none (.t 18),oo 20<|.mv (.t 1),oo 21<|.bin .eql (.t 19) (.t 20)]
def uL : List O :=[oo 22<|.mv (.t 5),oo 23<|.fX 1 (.t 7),oo 24<|.ld none (.t 23),oo 25<|.dY 1 1 [.int .i64 0] [(0,1,.t 24)],oo 26<|.app 1 (.t 22) (.t 25),oo 5<|.mv (.t 26)]
def uK : List O :=[oo 27<|.fX 1 (.t 7),oo 28<|.ld none (.t 27),oo 29<|.mv (.t 1),oo 30<|.bin .eql (.t 28) (.t 29)]
def qL : List O :=[oo 31<|.mv (.t 5),oo 32<|.fX 0 (.t 7),oo 33<|.ld none (.t 32),oo 34<|.dY 1 1 [.int .i64 0] [(0,1,.t 33)],oo 35<|.app 1 (.t 31) (.t 34),oo 5<|.mv (.t 35)]
def qK : List O :=[oo 36<|.bin .add (.t 14) (ki 1),oo 14<|.mv (.t 36)]
def F3 : C := (.seq (.aO uP false [] [1,5,12,13,14,15]) (.seq (.cond (.t 15) .skip (.exit 0)) (.seq (.aN 1 (.seq (.aO uO false [] [1,5,7,12,13,14]) (.seq (.seq (.aO uM false [] [1,5,7,12,13,14,21]) (.cond (.t 21) (.aO uL false [] [1,5,7,12,13,14]) .skip)) (.seq (.aO uK false [] [1,5,7,12,13,14,30]) (.cond (.t 30) (.aO qL false [] [1,5,12,13,14]) .skip))))) (.aO qK false [] [1,5,12,13,14]))))
def qJ : List O :=[oo 37<|.mv (.t 5),oo 38<|.call TR [.t 37],oo 4<|.mv (.t 38)]
def cQb5 : C := (.seq (.aO uU false [] [1,2]) (.seq (.seq (.aO uT false [] [1,2,10]) (.cond (.t 10) (.seq (.aO uS false [] [4]) .ret) .skip)) (.seq (.aO uR false [] [1,2,5]) (.seq (.seq (.aO uQ false [] [1,5,12,13,14]) (.aN 0 (.loop F3))) (.seq (.aO qJ false [] [4]) .ret)))))
def qQb5 : fK := ⟨39,2,[.t 4],cQb5⟩
/- cohesion/cohesionref02.Minus -/
def D4 : List O :=[oo 4<|.mv (.k (.own 1 []))]
def D3 : List O :=[oo 5<|.mv (.k (.own 1 []))]
def D0 : List O :=[oo 8<|.mv (.t 0),oo 9<|.call TR [.t 8],oo 10<|.len (.t 9),oo 11<|.mv (ki 0)]
def DZ : List O :=[oo 12<|.bin .lss (.t 11) (.t 10)]
def DY : List O :=[oo 13<|.fO 1 (.t 9) (.t 11),oo 14<|.ld none (.t 13),oo 7<|.mv (.t 14)]
def DX : List O :=[oo 15<|.mv (.t 1),oo 16<|.mv (.t 7),oo 17<|.call MR [.t 15,.t 16],oo 18<|.un .not (.t 17)]
def DW : List O :=[oo 19<|.mv (.t 5),oo 20<|.mv (.t 7),oo 21<|.dY 1 1 [.int .i64 0] [(0,1,.t 20)],oo 22<|.app 1 (.t 19) (.t 21),oo 5<|.mv (.t 22)]
def DV : List O :=[oo 23<|.bin .add (.t 11) (ki 1),oo 11<|.mv (.t 23)]
def F2 : C := (.seq (.aO DZ false [] [1,5,9,10,11,12]) (.seq (.cond (.t 12) .skip (.exit 0)) (.seq (.aN 1 (.seq (.aO DY false [] [1,5,7,9,10,11]) (.seq (.aO DX false [] [1,5,7,9,10,11,18]) (.cond (.t 18) (.aO DW false [] [1,5,9,10,11]) .skip)))) (.aO DV false [] [1,5,9,10,11]))))
def DU : List O :=[oo 24<|.mv (.t 5),oo 4<|.mv (.t 24)]
def cQb6 : C := (.seq (.aO D4 false [] [0,1]) (.seq (.aO D3 false [] [0,1,5]) (.seq (.seq (.aO D0 false [] [1,5,9,10,11]) (.aN 0 (.loop F2))) (.seq (.aO DU false [] [4]) .ret))))
def qQb6 : fK := ⟨25,2,[.t 4],cQb6⟩
/- cmp.isNaN[int] -/
def XV : List O :=[oo 2<|.mv (.k (.bool false))]
def XU : List O :=[oo 3<|.mv (.t 0),oo 4<|.mv (.t 0),oo 5<|.bin .neq (.t 3) (.t 4),oo 2<|.mv (.t 5)]
def cQb7 : C := (.seq (.aO XV false [] [0]) (.seq (.aO XU false [] [2]) .ret))
def qQb7 : fK := ⟨6,1,[.t 2],cQb7⟩
/- slices.Clone[[]int,int] -/
def XT : List O :=[oo 2<|.mv (.k (.own 1 []))]
def XS : List O :=[oo 3<|.mv (.t 0),oo 4<|.eq false .PM (.t 3) (.k (.own 1 []))]
def XR : List O :=[oo 2<|.mv (.k (.own 1 []))]
def XQ : List O :=[oo 5<|.dY 1 0 [.int .i64 0] [],oo 6<|.mv (.t 0),oo 7<|.app 1 (.t 5) (.t 6),oo 2<|.mv (.t 7)]
def cQb8 : C := (.seq (.aO XT false [] [0]) (.seq (.seq (.aO XS false [] [0,4]) (.cond (.t 4) (.seq (.aO XR false [] [2]) .ret) .skip)) (.seq (.aO XQ false [] [2]) .ret)))
def qQb8 : fK := ⟨8,1,[.t 2],cQb8⟩
/- slices.Sort[[]int,int] -/
def afk : List O :=[oo 3<|.mv (.t 0),oo 4<|.len (.t 3),oo 2<|.mv (.t 4)]
def afj : List O :=[oo 5<|.mv (.t 0),oo 6<|.mv (.t 2),oo 7<|.mv (.t 2),oo 8<|.Ci .u64 (.t 7),oo 9<|.call 88 [.t 8],oo 10<|.call 87 [.t 5,ki 0,.t 6,.t 9]]
def cQb9 : C := (.seq (.aO afk false [] [0,2]) (.aO afj false [] []))
def qQb9 : fK := ⟨11,1,[],cQb9⟩
/- slices.Compact[[]int,int] -/
def afi : List O :=[oo 2<|.mv (.k (.own 1 []))]
def afh : List O :=[oo 6<|.mv (.t 0),oo 7<|.len (.t 6),oo 8<|.bin .lss (.t 7) (ki 2)]
def afg : List O :=[oo 9<|.mv (.t 0),oo 2<|.mv (.t 9)]
def aff : List O :=[oo 3<|.mv (ki 1)]
def afe : List O :=[oo 10<|.mv (.t 3),oo 11<|.mv (.t 0),oo 12<|.len (.t 11),oo 13<|.bin .lss (.t 10) (.t 12)]
def afd : List O :=[oo 16<|.mv (.t 0),oo 17<|.mv (.t 3),oo 18<|.fO 1 (.t 16) (.t 17),oo 19<|.ld none (.t 18),oo 20<|.mv (.t 0),oo 21<|.mv (.t 3),oo 22<|.bin .sub (.t 21) (ki 1),oo 23<|.fO 1 (.t 20) (.t 22),oo 24<|.ld none (.t 23),oo 25<|.bin .eql (.t 19) (.t 24)]
def afc : List O :=[oo 26<|.mv (.t 0),oo 27<|.mv (.t 3),oo 28<|.yG 1 (.t 26) (some (.t 27)) none,oo 4<|.mv (.t 28)]
def afb : List O :=[oo 5<|.mv (ki 1)]
def afa : List O :=[oo 29<|.mv (.t 5),oo 30<|.mv (.t 4),oo 31<|.len (.t 30),oo 32<|.bin .lss (.t 29) (.t 31)]
def ae9 : List O :=[oo 35<|.mv (.t 4),oo 36<|.mv (.t 5),oo 37<|.fO 1 (.t 35) (.t 36),oo 38<|.ld none (.t 37),oo 39<|.mv (.t 4),oo 40<|.mv (.t 5),oo 41<|.bin .sub (.t 40) (ki 1),oo 42<|.fO 1 (.t 39) (.t 41),oo 43<|.ld none (.t 42),oo 44<|.bin .neq (.t 38) (.t 43)]
def aa3 : List O :=[oo 45<|.mv (.t 0),oo 46<|.mv (.t 3),oo 47<|.mv (.t 4),oo 48<|.mv (.t 5),oo 49<|.fO 1 (.t 47) (.t 48),oo 50<|.ld none (.t 49),oo 51<|.fO 1 (.t 45) (.t 46),oz<|.st 1 (.t 51) (.t 50)]
def aa2 : List O :=[oo 52<|.mv (.t 3),oo 53<|.bin .add (.t 52) (ki 1),oo 3<|.mv (.t 53)]
def aa1 : List O :=[oo 33<|.mv (.t 5),oo 34<|.bin .add (.t 33) (ki 1),oo 5<|.mv (.t 34)]
def agG : C := (.seq (.seq (.aO afa false [] [0,3,4,5,32]) (.cond (.t 32) .skip (.exit 2))) (.seq (.aN 3 (.seq (.aO ae9 true [(9,9),(3,4),(3,5),(3,6),(3,7),(0,8),(1,8),(2,8),(3,8)] [0,3,4,5,44]) (.cond (.t 44) (.seq (.aO aa3 false [] [0,3,4,5]) (.aO aa2 false [] [0,3,4,5])) .skip))) (.aO aa1 false [] [0,3,4,5])))
def aa0 : List O :=[oo 54<|.mv (.t 0),oo 55<|.mv (.t 3),oo 56<|.yG 1 (.t 54) (some (.t 55)) none,oz<|.Ov 1 [.int .i64 0] (.t 56)]
def aaZ : List O :=[oo 57<|.mv (.t 0),oo 58<|.mv (.t 3),oo 59<|.yG 1 (.t 57) none (some (.t 58)),oo 2<|.mv (.t 59)]
def aaY : List O :=[oo 14<|.mv (.t 3),oo 15<|.bin .add (.t 14) (ki 1),oo 3<|.mv (.t 15)]
def agF : C := (.seq (.seq (.aO afe false [] [0,3,13]) (.cond (.t 13) .skip (.exit 0))) (.seq (.aN 1 (.seq (.aO afd true [(9,9),(3,4),(3,5),(3,6),(3,7),(0,8),(1,8),(2,8),(3,8)] [0,3,25]) (.cond (.t 25) (.seq (.aO afc false [] [0,3,4]) (.seq (.seq (.aO afb false [] [0,3,4,5]) (.aN 2 (.loop agG))) (.seq (.aO aa0 false [] [0,3]) (.seq (.aO aaZ false [] [2]) .ret)))) .skip))) (.aO aaY false [] [0,3])))
def aaX : List O :=[oo 60<|.mv (.t 0),oo 2<|.mv (.t 60)]
def cQc0 : C := (.seq (.aO afi false [] [0]) (.seq (.seq (.aO afh false [] [0,8]) (.cond (.t 8) (.seq (.aO afg false [] [2]) .ret) .skip)) (.seq (.seq (.aO aff false [] [0,3]) (.aN 0 (.loop agF))) (.seq (.aO aaX false [] [2]) .ret))))
def qQc0 : fK := ⟨61,1,[.t 2],cQc0⟩
/- cohesion/cohesionref02.Has -/
def AF : List O :=[oo 4<|.mv (.k (.bool false))]
def AE : List O :=[oo 7<|.mv (.t 0),oo 8<|.len (.t 7),oo 9<|.mv (ki 0)]
def AD : List O :=[oo 10<|.bin .lss (.t 9) (.t 8)]
def AB : List O :=[oo 11<|.fO 1 (.t 7) (.t 9),oo 12<|.ld none (.t 11),oo 6<|.mv (.t 12)]
def Az : List O :=[oo 13<|.mv (.t 6),oo 14<|.mv (.t 1),oo 15<|.bin .eql (.t 13) (.t 14)]
def Ay : List O :=[oo 4<|.mv (.k (.bool true))]
def Ax : List O :=[oo 16<|.bin .add (.t 9) (ki 1),oo 9<|.mv (.t 16)]
def F1 : C := (.seq (.aO AD false [] [1,7,8,9,10]) (.seq (.cond (.t 10) .skip (.exit 0)) (.seq (.aN 1 (.seq (.aO AB false [] [1,6,7,8,9]) (.seq (.aO Az false [] [1,7,8,9,15]) (.cond (.t 15) (.seq (.aO Ay false [] [4]) .ret) .skip)))) (.aO Ax false [] [1,7,8,9]))))
def Aw : List O :=[oo 4<|.mv (.k (.bool false))]
def cQc1 : C := (.seq (.aO AF false [] [0,1]) (.seq (.seq (.aO AE false [] [1,7,8,9]) (.aN 0 (.loop F1))) (.seq (.aO Aw false [] [4]) .ret)))
def qQc1 : fK := ⟨17,2,[.t 4],cQc1⟩
abbrev Md := Go.Bm.Md
abbrev eE := Go.Bm.eE
def look : List (Nat × Md × fK) -> Nat -> Option (Md × fK)
 | [],_ => none
 | (j,m,q) :: r,i => if i = j then some (m,q) else look r i
def fns : List (Nat × Md × fK) := [
 (nQa,⟨false,false,true⟩,qQa),
 (nQb,⟨false,false,true⟩,qQb),
 (nQc,⟨false,false,true⟩,qQc),
 (nQd,⟨true,false,false⟩,qQd),
 (nQe,⟨true,false,false⟩,qQe),
 (VQ,⟨false,false,false⟩,qQf),
 (VP,⟨false,false,true⟩,qQg),
 (MQ,⟨false,false,false⟩,qQh),
 (YI,⟨false,false,false⟩,qQi),
 (nQj,⟨true,false,false⟩,qQj),
 (nQk,⟨false,false,true⟩,qQk),
 (TU,⟨false,false,true⟩,qQl),
 (nQm,⟨false,false,true⟩,qQm),
 (VO,⟨false,false,true⟩,qQn),
 (TR,⟨false,false,false⟩,qQo),
 (nQp,⟨false,false,false⟩,qQp),
 (nQq,⟨false,false,true⟩,qQq),
 (VN,⟨true,false,false⟩,qQr),
 (TQ,⟨false,false,true⟩,qQs),
 (nQt,⟨false,false,false⟩,qQt),
 (nQu,⟨false,false,true⟩,qQu),
 (YH,⟨false,false,true⟩,qQv),
 (nQw,⟨false,false,true⟩,qQw),
 (nQx,⟨false,false,false⟩,qQx),
 (nQy,⟨true,true,false⟩,qQy),
 (nQz,⟨false,false,true⟩,qQz),
 (nQA,⟨false,false,true⟩,qQA),
 (nQB,⟨false,false,false⟩,qQB),
 (nQC,⟨false,true,true⟩,qQC),
 (nQD,⟨false,false,false⟩,qQD),
 (nQE,⟨false,false,true⟩,qQE),
 (nQF,⟨false,false,false⟩,qQF),
 (nQG,⟨false,false,true⟩,qQG),
 (nQH,⟨false,false,true⟩,qQH),
 (nQI,⟨false,false,true⟩,qQI),
 (nQJ,⟨true,false,false⟩,qQJ),
 (YL,⟨true,false,false⟩,qQK),
 (nQL,⟨true,false,false⟩,qQL),
 (YK,⟨true,false,false⟩,qQM),
 (nQN,⟨false,false,false⟩,qQN),
 (nQO,⟨false,false,true⟩,qQO),
 (nQP,⟨false,false,false⟩,qQP),
 (nQQ,⟨false,false,false⟩,qQQ),
 (nQR,⟨false,false,true⟩,qQR),
 (nQS,⟨false,false,true⟩,qQS),
 (nQT,⟨true,false,false⟩,qQT),
 (nQU,⟨false,false,true⟩,qQU),
 (nQV,⟨false,false,true⟩,qQV),
 (nQW,⟨true,true,false⟩,qQW),
 (nQX,⟨false,false,false⟩,qQX),
 (nQY,⟨true,true,false⟩,qQY),
 (nQZ,⟨false,false,true⟩,qQZ),
 (nQ0,⟨false,false,false⟩,qQ0),
 (nQ1,⟨false,false,true⟩,qQ1),
 (nQ2,⟨false,false,true⟩,qQ2),
 (nQ3,⟨false,false,false⟩,qQ3),
 (nQ4,⟨false,false,true⟩,qQ4),
 (nQ5,⟨false,false,true⟩,qQ5),
 (nQ6,⟨false,false,false⟩,qQ6),
 (nQ7,⟨false,false,true⟩,qQ7),
 (nQ8,⟨false,false,true⟩,qQ8),
 (nQ9,⟨true,false,false⟩,qQ9),
 (P5,⟨true,false,false⟩,qQa0),
 (MW,⟨false,false,true⟩,qQa1),
 (P4,⟨false,false,true⟩,qQa2),
 (MV,⟨false,false,true⟩,qQa3),
 (P3,⟨false,false,false⟩,X4),
 (VR,⟨false,false,true⟩,qQa5),
 (MU,⟨false,false,false⟩,qQa6),
 (P1,⟨false,false,true⟩,qQa7),
 (FL,⟨false,false,true⟩,qQa8),
 (P0,⟨false,false,true⟩,qQa9),
 (PZ,⟨false,false,true⟩,qQb0),
 (nQb1,⟨false,false,true⟩,qQb1),
 (nQb2,⟨false,false,true⟩,qQb2),
 (PY,⟨false,false,false⟩,qQb3),
 (PX,⟨false,false,false⟩,qQb4),
 (PW,⟨false,false,false⟩,qQb5),
 (MT,⟨false,false,false⟩,qQb6),
 (MS,⟨false,false,true⟩,qQb7),
 (Hu,⟨false,true,true⟩,qQb8),
 (PV,⟨false,false,true⟩,qQb9),
 (PU,⟨false,false,false⟩,qQc0),
 (MR,⟨false,false,true⟩,qQc1)]
def YJ : Nat := 0
def Mb : List Int := [0,1,56,2,57,49,28,3,61,58,42,50,38,29,17,4,62,47,59,36,45,43,51,22,53,39,33,30,24,18,12,5,63,55,48,27,60,41,37,16,46,35,44,21,52,32,23,11,54,26,40,15,34,20,31,10,25,14,19,9,13,8,7,6]
def tabA : List AV := Mb.map (AV.int .u8)
def cfg : eE := ⟨look fns,fun i => if i = YJ then tabA else [],fun _ => none,fun _ => none,fun _ => none,fun _ => false,fun _ => false,fun _ => none⟩
theorem kQa : ct ai Go.Proofs.Tryz.f3 qQa = true := by kernel_rfl
theorem kQb : ct ai Go.Proofs.Tryz.f4 qQb = true := by kernel_rfl
theorem kQc : ct ai Go.Proofs.Tryz.f5 qQc = true := by kernel_rfl
theorem kQd : ct ai Go.Proofs.Tryz.f6 qQd = true := by kernel_rfl
theorem kQe : ct ai Go.Proofs.Tryz.f7 qQe = true := by kernel_rfl
theorem kQf : ct ai Go.Proofs.Tryz.f8 qQf = true := by kernel_rfl
theorem kQg : ct ai Go.Proofs.Tryz.f9 qQg = true := by kernel_rfl
theorem kQh : ct ai Go.Proofs.Tryz.f10 qQh = true := by kernel_rfl
theorem kQi : ct ai Go.Proofs.Tryz.f11 qQi = true := by kernel_rfl
theorem kQj : ct ai Go.Proofs.Tryz.f12 qQj = true := by kernel_rfl
theorem kQk : ct ai Go.Proofs.Tryz.f13 qQk = true := by kernel_rfl
theorem kQl : ct ai Go.Proofs.Tryz.f14 qQl = true := by kernel_rfl
theorem kQm : ct ai Go.Proofs.Tryz.f15 qQm = true := by kernel_rfl
theorem kQn : ct ai Go.Proofs.Tryz.f16 qQn = true := by kernel_rfl
theorem kQo : ct ai Go.Proofs.Tryz.f17 qQo = true := by kernel_rfl
theorem kQp : ct ai Go.Proofs.Tryz.f18 qQp = true := by kernel_rfl
theorem kQq : ct ai Go.Proofs.Tryz.f19 qQq = true := by kernel_rfl
theorem kQr : ct ai Go.Proofs.Tryz.f20 qQr = true := by kernel_rfl
theorem kQs : ct ai Go.Proofs.Tryz.f21 qQs = true := by kernel_rfl
theorem kQt : ct ai Go.Proofs.Tryz.f22 qQt = true := by kernel_rfl
theorem kQu : ct ai Go.Proofs.Tryz.f23 qQu = true := by kernel_rfl
theorem kQv : ct ai Go.Proofs.Tryz.f24 qQv = true := by kernel_rfl
theorem kQw : ct ai Go.Proofs.Tryz.f25 qQw = true := by kernel_rfl
theorem kQx : ct ai Go.Proofs.Tryz.f26 qQx = true := by kernel_rfl
theorem kQy : ct ai Go.Proofs.Tryz.f27 qQy = true := by kernel_rfl
theorem kQz : ct ai Go.Proofs.Tryz.f28 qQz = true := by kernel_rfl
theorem kQA : ct ai Go.Proofs.Tryz.f29 qQA = true := by kernel_rfl
theorem kQB : ct ai Go.Proofs.Tryz.f30 qQB = true := by kernel_rfl
theorem kQC : ct ai Go.Proofs.Tryz.f31 qQC = true := by kernel_rfl
theorem kQD : ct ai Go.Proofs.Tryz.f32 qQD = true := by kernel_rfl
theorem kQE : ct ai Go.Proofs.Tryz.f33 qQE = true := by kernel_rfl
theorem kQF : ct ai Go.Proofs.Tryz.f34 qQF = true := by kernel_rfl
theorem kQG : ct ai Go.Proofs.Tryz.f35 qQG = true := by kernel_rfl
theorem kQH : ct ai Go.Proofs.Tryz.f36 qQH = true := by kernel_rfl
theorem kQI : ct ai Go.Proofs.Tryz.f37 qQI = true := by kernel_rfl
theorem kQJ : ct ai Go.Proofs.Tryz.f38 qQJ = true := by kernel_rfl
theorem kQK : ct ai Go.Proofs.Tryz.f39 qQK = true := by kernel_rfl
theorem kQL : ct ai Go.Proofs.Tryz.f40 qQL = true := by kernel_rfl
theorem kQM : ct ai Go.Proofs.Tryz.f41 qQM = true := by kernel_rfl
theorem kQN : ct ai Go.Proofs.Tryz.f42 qQN = true := by kernel_rfl
theorem kQO : ct ai Go.Proofs.Tryz.f43 qQO = true := by kernel_rfl
theorem kQP : ct ai Go.Proofs.Tryz.f44 qQP = true := by kernel_rfl
theorem kQQ : ct ai Go.Proofs.Tryz.f45 qQQ = true := by kernel_rfl
theorem kQR : ct ai Go.Proofs.Tryz.f46 qQR = true := by kernel_rfl
theorem kQS : ct ai Go.Proofs.Tryz.f47 qQS = true := by kernel_rfl
theorem kQT : ct ai Go.Proofs.Tryz.f48 qQT = true := by kernel_rfl
theorem kQU : ct ai Go.Proofs.Tryz.f49 qQU = true := by kernel_rfl
theorem kQV : ct ai Go.Proofs.Tryz.f50 qQV = true := by kernel_rfl
theorem kQW : ct ai Go.Proofs.Tryz.f51 qQW = true := by kernel_rfl
theorem kQX : ct ai Go.Proofs.Tryz.f52 qQX = true := by kernel_rfl
theorem kQY : ct ai Go.Proofs.Tryz.f53 qQY = true := by kernel_rfl
theorem kQZ : ct ai Go.Proofs.Tryz.f54 qQZ = true := by kernel_rfl
theorem kQ0 : ct ai Go.Proofs.Tryz.f55 qQ0 = true := by kernel_rfl
theorem kQ1 : ct ai Go.Proofs.Tryz.f56 qQ1 = true := by kernel_rfl
theorem kQ2 : ct ai Go.Proofs.Tryz.f57 qQ2 = true := by kernel_rfl
theorem kQ3 : ct ai Go.Proofs.Tryz.f58 qQ3 = true := by kernel_rfl
theorem kQ4 : ct ai Go.Proofs.Tryz.f59 qQ4 = true := by kernel_rfl
theorem kQ5 : ct ai Go.Proofs.Tryz.f60 qQ5 = true := by kernel_rfl
theorem kQ6 : ct ai Go.Proofs.Tryz.f61 qQ6 = true := by kernel_rfl
theorem kQ7 : ct ai Go.Proofs.Tryz.f62 qQ7 = true := by kernel_rfl
theorem kQ8 : ct ai Go.Proofs.Tryz.f63 qQ8 = true := by kernel_rfl
theorem kQ9 : ct ai Go.Proofs.Tryz.f64 qQ9 = true := by kernel_rfl
theorem kQa0 : ct ai Go.Proofs.Tryz.f65 qQa0 = true := by kernel_rfl
theorem kQa1 : ct ai Go.Proofs.Tryz.f66 qQa1 = true := by kernel_rfl
theorem kQa2 : ct ai Go.Proofs.Tryz.f67 qQa2 = true := by kernel_rfl
theorem kQa3 : ct ai Go.Proofs.Tryz.f68 qQa3 = true := by kernel_rfl
theorem kQa4 : ct ai Go.Proofs.Tryz.f69 X4 = true := by kernel_rfl
theorem kQa5 : ct ai Go.Proofs.Tryz.f70 qQa5 = true := by kernel_rfl
theorem kQa6 : ct ai Go.Proofs.Tryz.f71 qQa6 = true := by kernel_rfl
theorem kQa7 : ct ai Go.Proofs.Tryz.f72 qQa7 = true := by kernel_rfl
theorem kQa8 : ct ai Go.Proofs.Tryz.f73 qQa8 = true := by kernel_rfl
theorem kQa9 : ct ai Go.Proofs.Tryz.f74 qQa9 = true := by kernel_rfl
theorem kQb0 : ct ai Go.Proofs.Tryz.f75 qQb0 = true := by kernel_rfl
theorem kQb1 : ct ai Go.Proofs.Tryz.f76 qQb1 = true := by kernel_rfl
theorem kQb2 : ct ai Go.Proofs.Tryz.f77 qQb2 = true := by kernel_rfl
theorem kQb3 : ct ai Go.Proofs.Tryz.f78 qQb3 = true := by kernel_rfl
theorem kQb4 : ct ai Go.Proofs.Tryz.f79 qQb4 = true := by kernel_rfl
theorem kQb5 : ct ai Go.Proofs.Tryz.f80 qQb5 = true := by kernel_rfl
theorem kQb6 : ct ai Go.Proofs.Tryz.f81 qQb6 = true := by kernel_rfl
theorem kQb7 : ct ai Go.Proofs.Tryz.f82 qQb7 = true := by kernel_rfl
theorem kQb8 : ct ai Go.Proofs.Tryz.f83 qQb8 = true := by kernel_rfl
theorem kQb9 : ct ai Go.Proofs.Tryz.f84 qQb9 = true := by kernel_rfl
theorem kQc0 : ct ai Go.Proofs.Tryz.f85 qQc0 = true := by kernel_rfl
theorem kQc1 : ct ai Go.Proofs.Tryz.f86 qQc1 = true := by kernel_rfl
theorem Nc : ∀ {l : List (Nat × Md × fK)} {f : Nat} {m : Md} {q : fK},look l f = some (m,q) -> (f,m,q) ∈ l
 | [],f,m,q,h => by simp [look] at h
 | (j,m',q') :: r,f,m,q,h => by
   unfold look at h;split at h
   ·rename_i he; subst he; simp at h; obtain ⟨rfl,rfl⟩ := h; simp
   ·exact List.mem_cons_of_mem _ (Nc h)
def Good (p : Nat × Md × fK) : Prop := ∃ fn,ai.funcs[p.1]? = some fn /\ ct ai fn p.2.2 = true
def All (G : Nat × Md × fK -> Prop) : List (Nat × Md × fK) -> Prop
 | [] => True
 | p :: r => G p /\ All G r
theorem All.get {G : Nat × Md × fK -> Prop} : ∀ {l : List (Nat × Md × fK)},All G l -> ∀ p ∈ l,G p
 | [],_,p,h => by simp at h
 | q :: r,h,p,hp => by
   rcases List.mem_cons.1 hp with e | e
   ·subst e; exact h.1
   ·exact All.get h.2 p e
theorem acV : All Good fns := ⟨⟨_,Go.Proofs.Tryz.func3,kQa⟩,⟨_,Go.Proofs.Tryz.func4,kQb⟩,⟨_,Go.Proofs.Tryz.func5,kQc⟩,⟨_,Go.Proofs.Tryz.func6,kQd⟩,⟨_,Go.Proofs.Tryz.func7,kQe⟩,⟨_,Go.Proofs.Tryz.func8,kQf⟩,⟨_,Go.Proofs.Tryz.func9,kQg⟩,⟨_,Go.Proofs.Tryz.func10,kQh⟩,⟨_,Go.Proofs.Tryz.func11,kQi⟩,⟨_,Go.Proofs.Tryz.func12,kQj⟩,⟨_,Go.Proofs.Tryz.func13,kQk⟩,⟨_,Go.Proofs.Tryz.func14,kQl⟩,⟨_,Go.Proofs.Tryz.func15,kQm⟩,⟨_,Go.Proofs.Tryz.func16,kQn⟩,⟨_,Go.Proofs.Tryz.func17,kQo⟩,⟨_,Go.Proofs.Tryz.func18,kQp⟩,⟨_,Go.Proofs.Tryz.func19,kQq⟩,⟨_,Go.Proofs.Tryz.func20,kQr⟩,⟨_,Go.Proofs.Tryz.func21,kQs⟩,⟨_,Go.Proofs.Tryz.func22,kQt⟩,⟨_,Go.Proofs.Tryz.func23,kQu⟩,⟨_,Go.Proofs.Tryz.func24,kQv⟩,⟨_,Go.Proofs.Tryz.func25,kQw⟩,⟨_,Go.Proofs.Tryz.func26,kQx⟩,⟨_,Go.Proofs.Tryz.func27,kQy⟩,⟨_,Vi,kQz⟩,⟨_,Go.Proofs.Tryz.func29,kQA⟩,⟨_,Go.Proofs.Tryz.func30,kQB⟩,⟨_,Go.Proofs.Tryz.func31,kQC⟩,⟨_,Go.Proofs.Tryz.func32,kQD⟩,⟨_,Go.Proofs.Tryz.func33,kQE⟩,⟨_,Go.Proofs.Tryz.func34,kQF⟩,⟨_,Go.Proofs.Tryz.func35,kQG⟩,⟨_,Go.Proofs.Tryz.func36,kQH⟩,⟨_,Go.Proofs.Tryz.func37,kQI⟩,⟨_,Go.Proofs.Tryz.func38,kQJ⟩,⟨_,Go.Proofs.Tryz.func39,kQK⟩,⟨_,Go.Proofs.Tryz.func40,kQL⟩,⟨_,Go.Proofs.Tryz.func41,kQM⟩,⟨_,Go.Proofs.Tryz.func42,kQN⟩,⟨_,Go.Proofs.Tryz.func43,kQO⟩,⟨_,Go.Proofs.Tryz.func44,kQP⟩,⟨_,Go.Proofs.Tryz.func45,kQQ⟩,⟨_,Go.Proofs.Tryz.func46,kQR⟩,⟨_,Go.Proofs.Tryz.func47,kQS⟩,⟨_,Go.Proofs.Tryz.func48,kQT⟩,⟨_,Go.Proofs.Tryz.func49,kQU⟩,⟨_,Go.Proofs.Tryz.func50,kQV⟩,⟨_,Go.Proofs.Tryz.func51,kQW⟩,⟨_,Go.Proofs.Tryz.func52,kQX⟩,⟨_,Go.Proofs.Tryz.func53,kQY⟩,⟨_,Go.Proofs.Tryz.func54,kQZ⟩,⟨_,Go.Proofs.Tryz.func55,kQ0⟩,⟨_,Go.Proofs.Tryz.func56,kQ1⟩,⟨_,Go.Proofs.Tryz.func57,kQ2⟩,⟨_,Go.Proofs.Tryz.func58,kQ3⟩,⟨_,Go.Proofs.Tryz.func59,kQ4⟩,⟨_,Go.Proofs.Tryz.func60,kQ5⟩,⟨_,Go.Proofs.Tryz.func61,kQ6⟩,⟨_,Go.Proofs.Tryz.func62,kQ7⟩,⟨_,Go.Proofs.Tryz.func63,kQ8⟩,⟨_,Go.Proofs.Tryz.func64,kQ9⟩,⟨_,Go.Proofs.Tryz.func65,kQa0⟩,⟨_,Go.Proofs.Tryz.func66,kQa1⟩,⟨_,Go.Proofs.Tryz.func67,kQa2⟩,⟨_,Go.Proofs.Tryz.func68,kQa3⟩,⟨_,Go.Proofs.Tryz.func69,kQa4⟩,⟨_,Go.Proofs.Tryz.func70,kQa5⟩,⟨_,Go.Proofs.Tryz.func71,kQa6⟩,⟨_,Go.Proofs.Tryz.func72,kQa7⟩,⟨_,Go.Proofs.Tryz.func73,kQa8⟩,⟨_,Go.Proofs.Tryz.func74,kQa9⟩,⟨_,Go.Proofs.Tryz.func75,kQb0⟩,⟨_,Go.Proofs.Tryz.func76,kQb1⟩,⟨_,Go.Proofs.Tryz.func77,kQb2⟩,⟨_,Go.Proofs.Tryz.func78,kQb3⟩,⟨_,Go.Proofs.Tryz.func79,kQb4⟩,⟨_,Go.Proofs.Tryz.func80,kQb5⟩,⟨_,Go.Proofs.Tryz.func81,kQb6⟩,⟨_,Vh,kQb7⟩,⟨_,Go.Proofs.Tryz.func83,kQb8⟩,⟨_,Vg,kQb9⟩,⟨_,Vf,kQc0⟩,⟨_,Go.Proofs.Tryz.func86,kQc1⟩,trivial⟩
theorem aeG : fE ai cfg := ⟨by kernel_rfl,fun f m q h => acV.get _ (Nc h)⟩
end Go.BmP
