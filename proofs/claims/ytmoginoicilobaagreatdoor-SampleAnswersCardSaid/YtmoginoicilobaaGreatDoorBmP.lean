/- The compact code of the functions, printed by program off the translation. -/
import Derived.Test.YtmoginoicilobaaGreatDoorChecked
import Derived.Test.YtmoginoicilobaaGreatDoorBmA
import Derived.KernelRfl
set_option maxRecDepth 100000
open Go.Proofs.Tryz renaming func47 → TW, func91 → TV, prog → ah
namespace Go.BmP
open Go.Am Go.Bm
abbrev oo (d : Nat) (x : Kd) : O := ⟨some d,none,x⟩
abbrev gf (d g : Nat) (k : Kd) : O := ⟨some d,some (g,false),k⟩
abbrev gt (d g : Nat) (k : Kd) : O := ⟨some d,some (g,true),k⟩
abbrev oz (x : Kd) : O := ⟨none,none,x⟩
abbrev ki (n : Nat) : E := .k (.int .i64 n)
def nQa : Nat := 3
def nQb : Nat := 4
def nQc : Nat := 5
def nQd : Nat := 6
def nQe : Nat := 7
def nQf : Nat := 8
def nQg : Nat := 9
def Cw : Nat := 10
def nQi : Nat := 11
def nQj : Nat := 12
def VH : Nat := 13
def Yh : Nat := 14
def VG : Nat := 15
def nQn : Nat := 16
def Yg : Nat := 17
def nQp : Nat := 18
def nQq : Nat := 19
def nQr : Nat := 20
def nQs : Nat := 21
def nQt : Nat := 22
def nQu : Nat := 23
def nQv : Nat := 24
def Yf : Nat := 25
def nQx : Nat := 26
def nQy : Nat := 27
def nQz : Nat := 28
def nQA : Nat := 29
def UE : Nat := 30
def nQC : Nat := 31
def UD : Nat := 32
def nQE : Nat := 33
def nQF : Nat := 34
def UC : Nat := 35
def nQH : Nat := 36
def nQI : Nat := 37
def nQJ : Nat := 38
def nQK : Nat := 39
def nQL : Nat := 40
def nQM : Nat := 41
def nQN : Nat := 42
def nQO : Nat := 43
def nQP : Nat := 44
def nQQ : Nat := 45
def nQR : Nat := 46
def nQS : Nat := 47
def nQT : Nat := 48
def nQU : Nat := 49
def nQV : Nat := 50
def nQW : Nat := 51
def nQX : Nat := 52
def nQY : Nat := 53
def nQZ : Nat := 54
def nQ0 : Nat := 55
def nQ1 : Nat := 56
def nQ2 : Nat := 57
def nQ3 : Nat := 58
def nQ4 : Nat := 59
def nQ5 : Nat := 60
def nQ6 : Nat := 61
def nQ7 : Nat := 64
def VI : Nat := 65
def nQ9 : Nat := 66
def PF : Nat := 67
def PE : Nat := 68
def PD : Nat := 69
def PC : Nat := 70
def PB : Nat := 71
def PA : Nat := 72
def MG : Nat := 73
def nQa7 : Nat := 74
def nQa8 : Nat := 75
def nQa9 : Nat := 76
def nQb0 : Nat := 77
def Pz : Nat := 78
def Py : Nat := 79
def MF : Nat := 91
def Px : Nat := 92
def Pw : Nat := 93
def Pv : Nat := 94
def Pu : Nat := 95
def Pt : Nat := 96
def UB : Nat := 97
def Yk : Nat := 98
def Yj : Nat := 99
def nQc2 : Nat := 100
def nQc3 : Nat := 101
def nQc4 : Nat := 102
def Ps : Nat := 103
def ME : Nat := 104
def Pr : Nat := 110
def nQc8 : Nat := 111
def Pq : Nat := 112
def KE : Nat := 113
def MD : Nat := 115
def Po : Nat := 116
def MC : Nat := 117
/- cohesion/cohesionlaw33.SampleAnswers -/
def kz : List O :=[oo 8<|.box (.t 2),oo 12<|.mv (.k (.bool false))]
def kt : List O :=[oo 64<|.mv (.t 0),oo 65<|.call nQb [.t 64],oo 66<|.un .not (.t 65),oo 67<|.mv (.t 66),gf 68 67<|.mv (.t 1),gf 69 67<|.len (.t 68),gf 70 67<|.bin .gtr (.t 69) (ki 60),oo 71<|.pick (.t 67) (.k (.bool true)) (.t 70),oo 72<|.mv (.t 71),gf 73 72<|.mv (.t 3),gf 74 72<|.len (.t 73),gf 75 72<|.bin .gtr (.t 74) (ki 80),oo 76<|.pick (.t 72) (.k (.bool true)) (.t 75),oo 77<|.mv (.t 76),gf 78 77<|.ld (some 2) (.t 8),gf 79 77<|.call nQc [.t 78,ki 9],gf 80 77<|.un .not (.t 79),oo 81<|.pick (.t 77) (.k (.bool true)) (.t 80)]
def ks : List O :=[oo 82<|.call nQd [],oo 12<|.mv (.t 82)]
def kr : List O :=[oo 83<|.mv (.t 0),oo 84<|.call nQe [.t 83],oo 13<|.mv (.t 84)]
def kq : List O :=[oo 85<|.mv (.t 13),oo 86<|.call nQf [.t 85,ki 8],oo 14<|.new [.int .i64 0,.own 2 []],oz<|.st 2 (.t 14) (.t 86)]
def ko : List O :=[oo 87<|.ld (some 2) (.t 14),oo 88<|.ld (some 2) (.t 8),oo 89<|.mv (.t 13),oo 90<|.ld (some 2) (.t 14),oo 91<|.call nQg [.t 89,.t 90],oo 92<|.c5 2 3 [.int .i64 0,.own 2 []] [(0,2,.t 87),(2,2,.t 88),(4,2,.t 91)],oo 93<|.len (.t 92),oo 94<|.mv (ki 0)]
def kn : List O :=[oo 95<|.bin .lss (.t 94) (.t 93)]
def km : List O :=[oo 96<|.fa 2 (.t 92) (.t 94),oo 97<|.ld (some 2) (.t 96),oo 16<|.new [.int .i64 0,.own 2 []],oz<|.st 2 (.t 16) (.t 97)]
def kl : List O :=[oo 98<|.cH 0 (.t 16),oo 99<|.ld none (.t 98),oo 100<|.min [.t 99,ki 70],oo 101<|.max [ki 0,.t 100],oo 17<|.mv (.t 101)]
def kj : List O :=[oo 18<|.mv (ki 0)]
def iz : List O :=[oo 102<|.mv (.t 18),oo 103<|.bin .lss (.t 102) (ki 2)]
def iy : List O :=[oo 106<|.mv (.t 1),oo 107<|.mv (.t 4),oo 108<|.mv (.t 3),oo 19<|.mv (.t 106),oo 20<|.mv (.t 107),oo 21<|.mv (.t 108)]
def iw : List O :=[oo 109<|.mv (.t 18),oo 110<|.bin .eql (.t 109) (ki 1)]
def iv : List O :=[oo 111<|.mv (.t 13),oo 112<|.call Cw [.t 111,ki 3],oo 113<|.bin .add (ki 1) (.t 112),oo 20<|.mv (.t 113)]
def iu : List O :=[oo 114<|.mv (.t 13),oo 115<|.mv (.t 17),oo 116<|.mv (.t 20),oo 117<|.mv (.t 13),oo 118<|.call Cw [.t 117,ki 9],oo 119<|.bin .quo (.t 118) (ki 8),oo 120<|.bin .add (.t 116) (.t 119),oo 121<|.call nQi [.t 114,.t 115,.t 120],oo 122<|.mv (.t 13),oo 123<|.cH 1 (.t 16),oo 124<|.ld none (.t 123),oo 125<|.len (.t 124),oo 126<|.call nQj [.t 122,.t 125],oo 19<|.mv (.t 121),oo 21<|.mv (.t 126)]
def iq : List O :=[oo 128<|.ld (some 2) (.t 16),oo 129<|.mv (.t 19),oo 130<|.mv (.t 20),oo 131<|.call VH [.t 128,.t 129,.t 130],oo 127<|.mv (.t 131),oo 132<|.ext 0 (.t 127),oo 133<|.ext 1 (.t 127),oo 22<|.new [.int .i64 0,.own 2 []],oz<|.st 2 (.t 22) (.t 132),oo 23<|.mv (.t 133)]
def im : List O :=[oo 135<|.ld (some 2) (.t 16),oo 136<|.mv (.t 19),oo 137<|.mv (.t 20),oo 138<|.call Yh [.t 135,.t 136,.t 137],oo 134<|.mv (.t 138),oo 139<|.ext 0 (.t 134),oo 140<|.ext 1 (.t 134),oo 24<|.new [.int .i64 0,.own 2 []],oz<|.st 2 (.t 24) (.t 139),oo 25<|.mv (.t 140)]
def ik : List O :=[oo 142<|.ld (some 2) (.t 16),oo 143<|.mv (.t 19),oo 144<|.mv (.t 20),oo 145<|.call VG [.t 142,.t 143,.t 144],oo 141<|.mv (.t 145),oo 146<|.ext 0 (.t 141),oo 147<|.ext 1 (.t 141),oo 26<|.mv (.t 146),oo 27<|.mv (.t 147)]
def ij : List O :=[oo 149<|.ld (some 2) (.t 16),oo 150<|.mv (.t 19),oo 151<|.mv (.t 20),oo 152<|.call nQn [.t 149,.t 150,.t 151],oo 148<|.mv (.t 152),oo 153<|.ext 0 (.t 148),oo 154<|.ext 1 (.t 148),oo 28<|.mv (.t 153),oo 29<|.mv (.t 154)]
def ig : List O :=[oo 156<|.ld (some 2) (.t 16),oo 157<|.mv (.t 21),oo 158<|.call Yg [.t 156,.t 157],oo 155<|.mv (.t 158),oo 159<|.ext 0 (.t 155),oo 160<|.ext 1 (.t 155),oo 30<|.new [.int .i64 0,.own 2 []],oz<|.st 2 (.t 30) (.t 159),oo 31<|.mv (.t 160)]
def ia : List O :=[oo 162<|.ld (some 2) (.t 16),oo 163<|.mv (.t 21),oo 164<|.call nQp [.t 162,.t 163],oo 161<|.mv (.t 164),oo 165<|.ext 0 (.t 161),oo 166<|.ext 1 (.t 161),oo 32<|.new [.int .i64 0,.own 2 []],oz<|.st 2 (.t 32) (.t 165),oo 33<|.mv (.t 166)]
def hZ : List O :=[oo 168<|.ld (some 2) (.t 16),oo 169<|.mv (.t 21),oo 170<|.call nQq [.t 168,.t 169],oo 167<|.mv (.t 170),oo 171<|.ext 0 (.t 167),oo 172<|.ext 1 (.t 167),oo 34<|.mv (.t 171),oo 35<|.mv (.t 172)]
def hO : List O :=[oo 174<|.ld (some 2) (.t 16),oo 175<|.mv (.t 21),oo 176<|.call nQr [.t 174,.t 175],oo 173<|.mv (.t 176),oo 177<|.ext 0 (.t 173),oo 178<|.ext 1 (.t 173),oo 36<|.mv (.t 177),oo 37<|.mv (.t 178)]
def hJ : List O :=[oo 179<|.mv (.t 23),oo 180<|.mv (.t 25),oo 181<|.bin .neq (.t 179) (.t 180),oo 182<|.mv (.t 181),gf 183 182<|.mv (.t 27),gf 184 182<|.mv (.t 29),gf 185 182<|.bin .neq (.t 183) (.t 184),oo 186<|.pick (.t 182) (.k (.bool true)) (.t 185),oo 187<|.mv (.t 186),gf 188 187<|.mv (.t 31),gf 189 187<|.mv (.t 33),gf 190 187<|.bin .neq (.t 188) (.t 189),oo 191<|.pick (.t 187) (.k (.bool true)) (.t 190),oo 192<|.mv (.t 191),gf 193 192<|.mv (.t 35),gf 194 192<|.mv (.t 37),gf 195 192<|.bin .neq (.t 193) (.t 194),oo 196<|.pick (.t 192) (.k (.bool true)) (.t 195),oo 197<|.mv (.t 196),gf 198 197<|.ld (some 2) (.t 22),gf 199 197<|.ld (some 2) (.t 24),gf 200 197<|.call nQs [.t 198,.t 199],gf 201 197<|.un .not (.t 200),oo 202<|.pick (.t 197) (.k (.bool true)) (.t 201),oo 203<|.mv (.t 202),gf 204 203<|.mv (.t 26),gf 205 203<|.mv (.t 28),gf 206 203<|.bin .neq (.t 204) (.t 205),oo 207<|.pick (.t 203) (.k (.bool true)) (.t 206),oo 208<|.mv (.t 207),gf 209 208<|.ld (some 2) (.t 30),gf 210 208<|.ld (some 2) (.t 32),gf 211 208<|.call nQs [.t 209,.t 210],gf 212 208<|.un .not (.t 211),oo 213<|.pick (.t 208) (.k (.bool true)) (.t 212),oo 214<|.mv (.t 213),gf 215 214<|.mv (.t 34),gf 216 214<|.mv (.t 36),gf 217 214<|.bin .neq (.t 215) (.t 216),oo 218<|.pick (.t 214) (.k (.bool true)) (.t 217)]
def gY : List O :=[oo 12<|.mv (.k (.bool false))]
def gX : List O :=[oo 104<|.mv (.t 18),oo 105<|.bin .add (.t 104) (ki 1),oo 18<|.mv (.t 105)]
def FN : C := (.seq (.seq (.aH iz false [] [1,3,4,5,13,16,17,18,92,93,94,103]) (.cond (.t 103) .skip (.exit 2))) (.seq (.aJ 3 (.seq (.aH iy false [] [1,3,4,5,13,16,17,18,19,20,21,92,93,94]) (.seq (.seq (.aH iw false [] [1,3,4,5,13,16,17,18,19,20,21,92,93,94,110]) (.cond (.t 110) (.seq (.aH iv false [] [1,3,4,5,13,16,17,18,20,92,93,94]) (.aH iu true [(12,12),(13,13),(14,14),(0,4),(1,4),(2,4),(4,8),(7,8),(4,9),(7,9),(0,10),(1,10),(2,10),(3,10),(4,10),(5,10),(6,10),(7,10),(8,10),(4,11),(7,11)] [1,3,4,5,13,16,17,18,19,20,21,92,93,94])) .skip)) (.seq (.aH iq false [] [1,3,4,5,13,16,17,18,19,20,21,22,23,92,93,94]) (.seq (.aH im false [] [1,3,4,5,13,16,17,18,19,20,21,22,23,24,25,92,93,94]) (.seq (.aH ik false [] [1,3,4,5,13,16,17,18,19,20,21,22,23,24,25,26,27,92,93,94]) (.seq (.aH ij false [] [1,3,4,5,13,16,17,18,21,22,23,24,25,26,27,28,29,92,93,94]) (.seq (.aH ig false [] [1,3,4,5,13,16,17,18,21,22,23,24,25,26,27,28,29,30,31,92,93,94]) (.seq (.aH ia false [] [1,3,4,5,13,16,17,18,21,22,23,24,25,26,27,28,29,30,31,32,33,92,93,94]) (.seq (.aH hZ false [] [1,3,4,5,13,16,17,18,21,22,23,24,25,26,27,28,29,30,31,32,33,34,35,92,93,94]) (.seq (.aH hO false [] [1,3,4,5,13,16,17,18,22,23,24,25,26,27,28,29,30,31,32,33,34,35,36,37,92,93,94]) (.seq (.aH hJ false [] [1,3,4,5,13,16,17,18,92,93,94,218]) (.cond (.t 218) (.seq (.aH gY false [] [12]) .ret) .skip))))))))))))) (.aH gX false [] [1,3,4,5,13,16,17,18,92,93,94])))
def gW : List O :=[oo 219<|.mv (.t 13),oo 220<|.call nQi [.t 219,ki 4,ki 9],oo 38<|.mv (.t 220)]
def gV : List O :=[oo 221<|.mv (.t 1),oo 222<|.mv (.t 38),oo 223<|.c5 1 2 [.own 1 []] [(0,1,.t 221),(1,1,.t 222)],oo 224<|.len (.t 223),oo 225<|.mv (ki 0)]
def gU : List O :=[oo 226<|.bin .lss (.t 225) (.t 224)]
def gS : List O :=[oo 227<|.fa 1 (.t 223) (.t 225),oo 228<|.ld none (.t 227),oo 40<|.mv (.t 228)]
def gQ : List O :=[oo 230<|.ld (some 2) (.t 16),oo 231<|.mv (.t 40),oo 232<|.call nQt [.t 230,.t 231],oo 229<|.mv (.t 232),oo 233<|.ext 0 (.t 229),oo 234<|.ext 1 (.t 229),oo 41<|.new [.int .i64 0,.int .i64 0],oz<|.st 2 (.t 41) (.t 233),oo 42<|.mv (.t 234)]
def gO : List O :=[oo 236<|.ld (some 2) (.t 16),oo 237<|.mv (.t 40),oo 238<|.call nQu [.t 236,.t 237],oo 235<|.mv (.t 238),oo 239<|.ext 0 (.t 235),oo 240<|.ext 1 (.t 235),oo 43<|.new [.int .i64 0,.int .i64 0],oz<|.st 2 (.t 43) (.t 239),oo 44<|.mv (.t 240)]
def gN : List O :=[oo 241<|.mv (.t 42),oo 242<|.mv (.t 44),oo 243<|.bin .neq (.t 241) (.t 242),oo 244<|.mv (.t 243),gf 245 244<|.ld (some 2) (.t 41),gf 246 244<|.ld (some 2) (.t 43),gf 247 244<|.eq true (.str [true,true]) (.t 245) (.t 246),oo 248<|.pick (.t 244) (.k (.bool true)) (.t 247)]
def gM : List O :=[oo 12<|.mv (.k (.bool false))]
def gL : List O :=[oo 249<|.bin .add (.t 225) (ki 1),oo 225<|.mv (.t 249)]
def M1 : C := (.seq (.aH gU false [] [1,3,4,5,13,16,92,93,94,223,224,225,226]) (.seq (.cond (.t 226) .skip (.exit 4)) (.seq (.aJ 5 (.seq (.aH gS false [] [1,3,4,5,13,16,40,92,93,94,223,224,225]) (.seq (.aH gQ false [] [1,3,4,5,13,16,40,41,42,92,93,94,223,224,225]) (.seq (.aH gO false [] [1,3,4,5,13,16,41,42,43,44,92,93,94,223,224,225]) (.seq (.aH gN false [] [1,3,4,5,13,16,92,93,94,223,224,225,248]) (.cond (.t 248) (.seq (.aH gM false [] [12]) .ret) .skip)))))) (.aH gL false [] [1,3,4,5,13,16,92,93,94,223,224,225]))))
def gK : List O :=[oo 250<|.mv (.t 5),oo 251<|.mv (.t 13),oo 252<|.call Cw [.t 251,ki 30],oo 253<|.c5 1 2 [.int .i64 0] [(0,1,.t 250),(1,1,.t 252)],oo 254<|.len (.t 253),oo 255<|.mv (ki 0)]
def gJ : List O :=[oo 256<|.bin .lss (.t 255) (.t 254)]
def gI : List O :=[oo 257<|.fa 1 (.t 253) (.t 255),oo 258<|.ld none (.t 257),oo 46<|.mv (.t 258)]
def gH : List O :=[oo 260<|.ld (some 2) (.t 16),oo 261<|.mv (.t 46),oo 262<|.call nQv [.t 260,.t 261],oo 259<|.mv (.t 262),oo 263<|.ext 0 (.t 259),oo 264<|.ext 1 (.t 259),oo 265<|.ext 2 (.t 259),oo 47<|.mv (.t 263),oo 48<|.mv (.t 264),oo 49<|.mv (.t 265)]
def gG : List O :=[oo 267<|.ld (some 2) (.t 16),oo 268<|.mv (.t 46),oo 269<|.call Yf [.t 267,.t 268],oo 266<|.mv (.t 269),oo 270<|.ext 0 (.t 266),oo 271<|.ext 1 (.t 266),oo 272<|.ext 2 (.t 266),oo 50<|.mv (.t 270),oo 51<|.mv (.t 271),oo 52<|.mv (.t 272)]
def gF : List O :=[oo 273<|.mv (.t 49),oo 274<|.mv (.t 52),oo 275<|.bin .neq (.t 273) (.t 274),oo 276<|.mv (.t 275),gf 277 276<|.mv (.t 48),gf 278 276<|.mv (.t 51),gf 279 276<|.eq true .bool (.t 277) (.t 278),oo 280<|.pick (.t 276) (.k (.bool true)) (.t 279),oo 281<|.mv (.t 280),gf 282 281<|.mv (.t 47),gf 283 281<|.mv (.t 50),gf 284 281<|.call nQx [.t 282,.t 283],gf 285 281<|.bin .neq (.t 284) (ki 0),oo 286<|.pick (.t 281) (.k (.bool true)) (.t 285)]
def gD : List O :=[oo 12<|.mv (.k (.bool false))]
def gC : List O :=[oo 287<|.bin .add (.t 255) (ki 1),oo 255<|.mv (.t 287)]
def M0 : C := (.seq (.aH gJ false [] [1,3,4,5,13,16,92,93,94,253,254,255,256]) (.seq (.cond (.t 256) .skip (.exit 6)) (.seq (.aJ 7 (.seq (.aH gI false [] [1,3,4,5,13,16,46,92,93,94,253,254,255]) (.seq (.aH gH false [] [1,3,4,5,13,16,46,47,48,49,92,93,94,253,254,255]) (.seq (.aH gG false [] [1,3,4,5,13,16,47,48,49,50,51,52,92,93,94,253,254,255]) (.seq (.aH gF false [] [1,3,4,5,13,16,92,93,94,253,254,255,286]) (.cond (.t 286) (.seq (.aH gD false [] [12]) .ret) .skip)))))) (.aH gC false [] [1,3,4,5,13,16,92,93,94,253,254,255]))))
def gz : List O :=[oo 288<|.bin .add (.t 94) (ki 1),oo 94<|.mv (.t 288)]
def MZ : C := (.seq (.aH kn false [] [1,3,4,5,13,92,93,94,95]) (.seq (.cond (.t 95) .skip (.exit 0)) (.seq (.aJ 1 (.seq (.aH km false [] [1,3,4,5,13,16,92,93,94]) (.seq (.aH kl false [] [1,3,4,5,13,16,17,92,93,94]) (.seq (.seq (.aH kj false [] [1,3,4,5,13,16,17,18,92,93,94]) (.aJ 2 (.loop FN))) (.seq (.aH gW false [] [1,3,4,5,13,16,38,92,93,94]) (.seq (.seq (.aH gV false [] [1,3,4,5,13,16,92,93,94,223,224,225]) (.aJ 4 (.loop M1))) (.seq (.aH gK false [] [1,3,4,5,13,16,92,93,94,253,254,255]) (.aJ 6 (.loop M0))))))))) (.aH gz false [] [1,3,4,5,13,92,93,94]))))
def gw : List O :=[oo 289<|.mv (.t 13),oo 290<|.call Cw [.t 289,ki 9],oo 291<|.mv (.t 13),oo 292<|.call Cw [.t 291,ki 5],oo 293<|.bin .add (ki 1) (.t 292),oo 53<|.mv (.t 290),oo 54<|.mv (.t 293)]
def gr : List O :=[oo 55<|.mv (.k (.own 1 []))]
def gq : List O :=[oo 294<|.mv (.t 54),oo 56<|.mv (.t 294)]
def gk : List O :=[oo 295<|.mv (.t 56),oo 296<|.mv (.t 53),oo 297<|.bin .lss (.t 295) (.t 296)]
def gh : List O :=[oo 300<|.mv (.t 55),oo 301<|.mv (.t 13),oo 302<|.mv (.t 56),oo 303<|.bin .add (.t 302) (ki 1),oo 304<|.call Cw [.t 301,.t 303],oo 305<|.c5 1 1 [.int .i64 0] [(0,1,.t 304)],oo 306<|.app 1 (.t 300) (.t 305),oo 55<|.mv (.t 306)]
def ga : List O :=[oo 298<|.mv (.t 56),oo 299<|.bin .add (.t 298) (ki 1),oo 56<|.mv (.t 299)]
def Tf : C := (.seq (.seq (.aH gk false [] [1,4,5,13,53,54,55,56,297]) (.cond (.t 297) .skip (.exit 8))) (.seq (.aJ 9 (.aH gh false [] [1,4,5,13,53,54,55,56])) (.aH ga false [] [1,4,5,13,53,54,55,56])))
def fZ : List O :=[oo 307<|.mv (.t 13),oo 308<|.call Cw [.t 307,ki 8],oo 309<|.bin .eql (.t 308) (ki 7)]
def fY : List O :=[oo 310<|.mv (.t 55),oo 311<|.c5 1 1 [.int .i64 0] [(0,1,ki 3)],oo 312<|.app 1 (.t 310) (.t 311),oo 55<|.mv (.t 312)]
def fX : List O :=[oo 313<|.mv (.t 5),oo 314<|.mv (.t 4),oo 315<|.build [.int .i64 0,.int .i64 0,.int .i64 0] [(0,1,.t 313),(1,1,.t 314),(2,1,ki 0)],oo 316<|.mv (.t 53),oo 317<|.mv (.t 54),oo 318<|.build [.int .i64 0,.int .i64 0,.int .i64 0] [(0,1,.t 316),(1,1,.t 317),(2,1,ki 1)],oo 319<|.mv (.t 1),oo 320<|.len (.t 319),oo 321<|.bin .add (.t 320) (ki 2),oo 322<|.build [.int .i64 0,.int .i64 0,.int .i64 0] [(0,1,.t 321),(1,1,ki 2),(2,1,ki 0)],oo 323<|.c5 3 3 [.int .i64 0,.int .i64 0,.int .i64 0] [(0,3,.t 315),(3,3,.t 318),(6,3,.t 322)],oo 324<|.len (.t 323),oo 325<|.mv (ki 0)]
def fW : List O :=[oo 326<|.bin .lss (.t 325) (.t 324)]
def fV : List O :=[oo 327<|.fa 3 (.t 323) (.t 325),oo 328<|.ld (some 3) (.t 327),oo 58<|.new [.int .i64 0,.int .i64 0,.int .i64 0],oz<|.st 3 (.t 58) (.t 328)]
def fU : List O :=[oo 329<|.mv (.t 1),oo 59<|.mv (.t 329)]
def fT : List O :=[oo 330<|.He 3 1 (.t 58) (ki 2),oo 331<|.ld none (.t 330),oo 332<|.bin .eql (.t 331) (ki 1)]
def fS : List O :=[oo 333<|.mv (.t 55),oo 59<|.mv (.t 333)]
def fR : List O :=[oo 335<|.He 3 1 (.t 58) (ki 0),oo 336<|.ld none (.t 335),oo 337<|.He 3 1 (.t 58) (ki 1),oo 338<|.ld none (.t 337),oo 339<|.mv (.t 59),oo 340<|.call nQy [.t 336,.t 338,.t 339],oo 334<|.mv (.t 340),oo 341<|.ext 0 (.t 334),oo 342<|.ext 1 (.t 334),oo 60<|.mv (.t 341),oo 61<|.mv (.t 342)]
def fQ : List O :=[oo 344<|.He 3 1 (.t 58) (ki 0),oo 345<|.ld none (.t 344),oo 346<|.He 3 1 (.t 58) (ki 1),oo 347<|.ld none (.t 346),oo 348<|.mv (.t 59),oo 349<|.call nQz [.t 345,.t 347,.t 348],oo 343<|.mv (.t 349),oo 350<|.ext 0 (.t 343),oo 351<|.ext 1 (.t 343),oo 62<|.mv (.t 350),oo 63<|.mv (.t 351)]
def fP : List O :=[oo 352<|.mv (.t 61),oo 353<|.mv (.t 63),oo 354<|.bin .neq (.t 352) (.t 353),oo 355<|.mv (.t 354),gf 356 355<|.mv (.t 60),gf 357 355<|.mv (.t 62),gf 358 355<|.call nQx [.t 356,.t 357],gf 359 355<|.bin .neq (.t 358) (ki 0),oo 360<|.pick (.t 355) (.k (.bool true)) (.t 359)]
def fO : List O :=[oo 12<|.mv (.k (.bool false))]
def fN : List O :=[oo 361<|.bin .add (.t 325) (ki 1),oo 325<|.mv (.t 361)]
def zM : C := (.seq (.aH fW false [] [1,55,323,324,325,326]) (.seq (.cond (.t 326) .skip (.exit 10)) (.seq (.aJ 11 (.seq (.aH fV false [] [1,55,58,323,324,325]) (.seq (.aH fU false [] [1,55,58,59,323,324,325]) (.seq (.seq (.aH fT false [] [1,55,58,59,323,324,325,332]) (.cond (.t 332) (.aH fS false [] [1,55,58,59,323,324,325]) .skip)) (.seq (.aH fR false [] [1,55,58,59,60,61,323,324,325]) (.seq (.aH fQ false [] [1,55,60,61,62,63,323,324,325]) (.seq (.aH fP false [] [1,55,323,324,325,360]) (.cond (.t 360) (.seq (.aH fO false [] [12]) .ret) .skip)))))))) (.aH fN false [] [1,55,323,324,325]))))
def fM : List O :=[oo 362<|.call nQd [],oo 12<|.mv (.t 362)]
def cQa : C := (.seq (.aH kz false [] [0,1,3,4,5,8]) (.seq (.seq (.aH kt false [] [0,1,3,4,5,8,81]) (.cond (.t 81) (.seq (.aH ks false [] [12]) .ret) .skip)) (.seq (.aH kr false [] [1,3,4,5,8,13]) (.seq (.aH kq false [] [1,3,4,5,8,13,14]) (.seq (.seq (.aH ko true [(0,1),(0,2),(1,2),(0,3),(1,3),(2,3),(0,4),(1,4),(0,7),(1,7),(3,7),(4,7),(5,7)] [1,3,4,5,13,92,93,94]) (.aJ 0 (.loop MZ))) (.seq (.aH gw false [] [1,4,5,13,53,54]) (.seq (.aH gr false [] [1,4,5,13,53,54,55]) (.seq (.seq (.aH gq false [] [1,4,5,13,53,54,55,56]) (.aJ 8 (.loop Tf))) (.seq (.seq (.aH fZ false [] [1,4,5,53,54,55,309]) (.cond (.t 309) (.aH fY false [] [1,4,5,53,54,55]) .skip)) (.seq (.seq (.aH fX false [] [1,55,323,324,325]) (.aJ 10 (.loop zM))) (.seq (.aH fM false [] [12]) .ret)))))))))))
def qQa : eB := ⟨363,6,[.t 12],cQa⟩
/- cohesion/cohesionmake.Few -/
def acA : List O :=[oo 2<|.mv (.k (.bool false))]
def acz : List O :=[oo 3<|.mv (.t 0),oo 4<|.len (.t 3),oo 5<|.bin .leq (.t 4) (ki 500),oo 2<|.mv (.t 5)]
def cQb : C := (.seq (.aH acA false [] [0]) (.seq (.aH acz false [] [2]) .ret))
def qQb : eB := ⟨6,1,[.t 2],cQb⟩
/- cohesion/cohesionmake.Light -/
def RX : List O :=[oo 2<|.box (.t 0),oo 4<|.mv (.k (.bool false))]
def RW : List O :=[oo 5<|.cH 0 (.t 2),oo 6<|.ld none (.t 5),oo 7<|.mv (.t 1),oo 8<|.bin .leq (.t 6) (.t 7),oo 9<|.mv (.t 8),gt 10 9<|.cH 1 (.t 2),gt 11 9<|.ld none (.t 10),gt 12 9<|.len (.t 11),gt 13 9<|.mv (.t 1),gt 14 9<|.mv (.t 1),gt 15 9<|.bin .mul (.t 13) (.t 14),gt 16 9<|.bin .leq (.t 12) (.t 15),oo 17<|.pick (.t 9) (.t 16) (.k (.bool false)),oo 4<|.mv (.t 17)]
def cQc : C := (.seq (.aH RX false [] [1,2]) (.seq (.aH RW false [] [4]) .ret))
def qQc : eB := ⟨18,2,[.t 4],cQc⟩
/- cohesion/cohesionlaw33.awake -/
def agh : List O :=[oo 0<|.mv (.k (.bool false))]
def agf : List O :=[oo 7<|.c5 1 1 [.int .i64 0] [(0,1,ki 1)],oo 8<|.call nQy [ki 3,ki 2,.t 7],oo 6<|.mv (.t 8),oo 9<|.ext 0 (.t 6),oo 10<|.ext 1 (.t 6),oo 1<|.mv (.t 9),oo 2<|.mv (.t 10)]
def age : List O :=[oo 11<|.build [.int .i64 0,.int .i64 0] [(0,1,ki 0),(1,1,ki 1)],oo 12<|.build [.int .i64 0,.int .i64 0] [(0,1,ki 0),(1,1,ki 2)],oo 13<|.build [.int .i64 0,.int .i64 0] [(0,1,ki 1),(1,1,ki 2)],oo 14<|.c5 2 3 [.int .i64 0,.int .i64 0] [(0,2,.t 11),(2,2,.t 12),(4,2,.t 13)],oo 15<|.build [.int .i64 0,.own 2 []] [(0,1,ki 3),(1,1,.t 14)],oo 3<|.new [.int .i64 0,.own 2 []],oz<|.st 2 (.t 3) (.t 15)]
def agd : List O :=[oo 17<|.ld (some 2) (.t 3),oo 18<|.c5 1 3 [.int .i64 0] [(0,1,ki 0),(1,1,ki 0),(2,1,ki 0)],oo 19<|.call VG [.t 17,.t 18,ki 1],oo 16<|.mv (.t 19),oo 20<|.ext 0 (.t 16),oo 21<|.ext 1 (.t 16),oo 4<|.mv (.t 20),oo 5<|.mv (.t 21)]
def agc : List O :=[oo 22<|.mv (.t 2),oo 23<|.bin .eql (.t 22) (ki 0),oo 24<|.mv (.t 23),gt 25 24<|.mv (.t 1),gt 26 24<|.c5 1 2 [.int .i64 0] [(0,1,ki 0),(1,1,ki 2)],gt 27 24<|.call nQx [.t 25,.t 26],gt 28 24<|.bin .eql (.t 27) (ki 0),oo 29<|.pick (.t 24) (.t 28) (.k (.bool false)),oo 30<|.mv (.t 29),gt 31 30<|.mv (.t 5),gt 32 30<|.bin .eql (.t 31) (ki 0),oo 33<|.pick (.t 30) (.t 32) (.k (.bool false)),oo 34<|.mv (.t 33),gt 35 34<|.mv (.t 4),gt 36 34<|.bin .eql (.t 35) (ki 1),oo 37<|.pick (.t 34) (.t 36) (.k (.bool false)),oo 0<|.mv (.t 37)]
def cQd : C := (.seq (.aH agh false [] []) (.seq (.aH agf false [] [1,2]) (.seq (.aH age false [] [1,2,3]) (.seq (.aH agd false [] [1,2,4,5]) (.seq (.aH agc false [] [0]) .ret)))))
def qQd : eB := ⟨38,0,[.t 0],cQd⟩
/- cohesion/cohesionmake.New -/
def acy : List O :=[oo 2<|.mv (.k .eP)]
def acx : List O :=[oo 3<|.mv (.t 0),oo 4<|.build [.own 1 [],.int .i64 0] [(0,1,.t 3)],oo 5<|.box (.t 4),oo 2<|.mv (.t 5)]
def cQe : C := (.seq (.aH acy false [] [0]) (.seq (.aH acx false [] [2]) .ret))
def qQe : eB := ⟨6,1,[.t 2],cQe⟩
/- cohesion/cohesionmake.Graph -/
def B5 : List O :=[oo 4<|.new [.int .i64 0,.own 2 []]]
def B4 : List O :=[oo 9<|.mv (.t 0),oo 10<|.mv (.t 1),oo 11<|.bin .add (.t 10) (ki 1),oo 12<|.call Cw [.t 9,.t 11],oo 13<|.build [.int .i64 0,.own 2 []] [(0,1,.t 12)],oo 5<|.new [.int .i64 0,.own 2 []],oz<|.st 2 (.t 5) (.t 13)]
def B3 : List O :=[oo 14<|.cH 0 (.t 5),oo 15<|.ld none (.t 14),oo 16<|.bin .lss (.t 15) (ki 4)]
def B0 : List O :=[oo 17<|.mv (.t 1),oo 18<|.cH 0 (.t 5),oo 19<|.ld none (.t 18),oo 20<|.mv (.t 0),oo 21<|.mv (.t 1),oo 22<|.bin .add (.t 21) (ki 1),oo 23<|.call Cw [.t 20,.t 22],oo 24<|.bin .add (.t 19) (.t 23),oo 25<|.min [.t 17,.t 24],oo 26<|.cH 0 (.t 5),oz<|.st 1 (.t 26) (.t 25)]
def BZ : List O :=[oo 27<|.mv (.t 0),oo 28<|.call Cw [.t 27,ki 4],oo 29<|.bin .add (ki 1) (.t 28),oo 6<|.mv (.t 29)]
def BX : List O :=[oo 7<|.mv (ki 0)]
def BW : List O :=[oo 30<|.mv (.t 7),oo 31<|.cH 0 (.t 5),oo 32<|.ld none (.t 31),oo 33<|.bin .lss (.t 30) (.t 32)]
def BV : List O :=[oo 36<|.mv (.t 7),oo 37<|.bin .add (.t 36) (ki 1),oo 8<|.mv (.t 37)]
def BU : List O :=[oo 38<|.mv (.t 8),oo 39<|.cH 0 (.t 5),oo 40<|.ld none (.t 39),oo 41<|.bin .lss (.t 38) (.t 40)]
def BT : List O :=[oo 44<|.mv (.t 0),oo 45<|.call Cw [.t 44,ki 5],oo 46<|.mv (.t 6),oo 47<|.bin .sub (ki 5) (.t 46),oo 48<|.bin .geq (.t 45) (.t 47)]
def uF : List O :=[oo 49<|.cH 1 (.t 5),oo 50<|.ld none (.t 49),oo 51<|.mv (.t 7),oo 52<|.mv (.t 8),oo 53<|.build [.int .i64 0,.int .i64 0] [(0,1,.t 51),(1,1,.t 52)],oo 54<|.c5 2 1 [.int .i64 0,.int .i64 0] [(0,2,.t 53)],oo 55<|.app 2 (.t 50) (.t 54),oo 56<|.cH 1 (.t 5),oz<|.st 1 (.t 56) (.t 55)]
def uE : List O :=[oo 42<|.mv (.t 8),oo 43<|.bin .add (.t 42) (ki 1),oo 8<|.mv (.t 43)]
def FI : C := (.seq (.seq (.aH BU false [] [0,4,5,6,7,8,41]) (.cond (.t 41) .skip (.exit 2))) (.seq (.aJ 3 (.seq (.aH BT false [] [0,4,5,6,7,8,48]) (.cond (.t 48) (.aH uF false [] [0,4,5,6,7,8]) .skip))) (.aH uE false [] [0,4,5,6,7,8])))
def uD : List O :=[oo 34<|.mv (.t 7),oo 35<|.bin .add (.t 34) (ki 1),oo 7<|.mv (.t 35)]
def MY : C := (.seq (.seq (.aH BW false [] [0,4,5,6,7,33]) (.cond (.t 33) .skip (.exit 0))) (.seq (.aJ 1 (.seq (.aH BV false [] [0,4,5,6,7,8]) (.aJ 2 (.loop FI)))) (.aH uD false [] [0,4,5,6,7])))
def uC : List O :=[oo 57<|.ld (some 2) (.t 5),oz<|.st 2 (.t 4) (.t 57)]
def cQf : C := (.seq (.aH B5 false [] [0,1,4]) (.seq (.aH B4 false [] [0,1,4,5]) (.seq (.seq (.aH B3 false [] [0,1,4,5,16]) (.cond (.t 16) (.aH B0 true [(8,8),(9,9),(10,10),(0,2),(2,3),(2,4),(2,5),(0,6),(1,6),(2,6)] [0,4,5]) .skip)) (.seq (.aH BZ false [] [0,4,5,6]) (.seq (.seq (.aH BX false [] [0,4,5,6,7]) (.aJ 0 (.loop MY))) (.seq (.aH uC false [] [4]) .ret))))))
def qQf : eB := ⟨58,2,[.c 4 (some 2)],cQf⟩
/- cohesion/cohesionmake.Spoilt -/
def tl : List O :=[oo 3<|.box (.t 1),oo 4<|.new [.int .i64 0,.own 2 []]]
def tj : List O :=[oo 7<|.cH 1 (.t 3),oo 8<|.ld none (.t 7),oo 9<|.app 2 (.k (.own 2 [])) (.t 8),oo 10<|.cH 1 (.t 3),oz<|.st 1 (.t 10) (.t 9)]
def ti : List O :=[oo 11<|.cH 1 (.t 3),oo 12<|.ld none (.t 11),oo 13<|.len (.t 12),oo 5<|.mv (.t 13)]
def th : List O :=[oo 14<|.mv (.t 0),oo 15<|.call Cw [.t 14,ki 6]]
def tf : List O :=[oo 17<|.bin .eql (.t 15) (ki 0),oo 16<|.mv (.t 17)]
def td : List O :=[oo 18<|.mv (.t 0),oo 19<|.call Cw [.t 18,ki 70],oo 20<|.bin .sub (.t 19) (ki 2),oo 21<|.cH 0 (.t 3),oz<|.st 1 (.t 21) (.t 20)]
def tc : List O :=[oo 23<|.bin .eql (.t 15) (ki 1),oo 22<|.mv (.t 23)]
def tb : List O :=[oo 24<|.mv (.t 5),oo 25<|.bin .gtr (.t 24) (ki 0)]
def ta : List O :=[oo 26<|.mv (.t 0),oo 27<|.mv (.t 5),oo 28<|.call Cw [.t 26,.t 27],oo 6<|.mv (.t 28)]
def s9 : List O :=[oo 29<|.cH 1 (.t 3),oo 30<|.ld none (.t 29),oo 31<|.mv (.t 6),oo 32<|.cH 1 (.t 3),oo 33<|.ld none (.t 32),oo 34<|.mv (.t 6),oo 35<|.cH 1 (.t 3),oo 36<|.ld none (.t 35),oo 37<|.mv (.t 6),oo 38<|.fa 2 (.t 36) (.t 37),oo 39<|.cH 1 (.t 38),oo 40<|.ld none (.t 39),oo 41<|.cH 1 (.t 3),oo 42<|.ld none (.t 41),oo 43<|.mv (.t 6),oo 44<|.fa 2 (.t 42) (.t 43),oo 45<|.cH 0 (.t 44),oo 46<|.ld none (.t 45),oo 47<|.fa 2 (.t 30) (.t 31),oo 48<|.cH 0 (.t 47),oz<|.st 1 (.t 48) (.t 40),oo 49<|.fa 2 (.t 33) (.t 34),oo 50<|.cH 1 (.t 49),oz<|.st 1 (.t 50) (.t 46)]
def oC : List O :=[oo 52<|.bin .eql (.t 15) (ki 2),oo 51<|.mv (.t 52)]
def oB : List O :=[oo 53<|.mv (.t 5),oo 54<|.bin .gtr (.t 53) (ki 1)]
def oA : List O :=[oo 55<|.cH 1 (.t 3),oo 56<|.ld none (.t 55),oo 57<|.cH 1 (.t 3),oo 58<|.ld none (.t 57),oo 59<|.mv (.t 5),oo 60<|.bin .sub (.t 59) (ki 1),oo 61<|.cH 1 (.t 3),oo 62<|.ld none (.t 61),oo 63<|.mv (.t 5),oo 64<|.bin .sub (.t 63) (ki 1),oo 65<|.fa 2 (.t 62) (.t 64),oo 66<|.ld (some 2) (.t 65),oo 67<|.cH 1 (.t 3),oo 68<|.ld none (.t 67),oo 69<|.fa 2 (.t 68) (ki 0),oo 70<|.ld (some 2) (.t 69),oo 71<|.fa 2 (.t 56) (ki 0),oz<|.st 2 (.t 71) (.t 66),oo 72<|.fa 2 (.t 58) (.t 60),oz<|.st 2 (.t 72) (.t 70)]
def ox : List O :=[oo 74<|.bin .eql (.t 15) (ki 3),oo 73<|.mv (.t 74)]
def ot : List O :=[oo 75<|.mv (.t 5),oo 76<|.bin .gtr (.t 75) (ki 0)]
def oq : List O :=[oo 77<|.cH 1 (.t 3),oo 78<|.ld none (.t 77),oo 79<|.cH 1 (.t 3),oo 80<|.ld none (.t 79),oo 81<|.mv (.t 5),oo 82<|.bin .sub (.t 81) (ki 1),oo 83<|.fa 2 (.t 80) (.t 82),oo 84<|.ld (some 2) (.t 83),oo 85<|.c5 2 1 [.int .i64 0,.int .i64 0] [(0,2,.t 84)],oo 86<|.app 2 (.t 78) (.t 85),oo 87<|.cH 1 (.t 3),oz<|.st 1 (.t 87) (.t 86)]
def om : List O :=[oo 89<|.bin .eql (.t 15) (ki 4),oo 88<|.mv (.t 89)]
def oi : List O :=[oo 90<|.mv (.t 5),oo 91<|.bin .gtr (.t 90) (ki 0)]
def oh : List O :=[oo 92<|.cH 1 (.t 3),oo 93<|.ld none (.t 92),oo 94<|.mv (.t 0),oo 95<|.mv (.t 5),oo 96<|.call Cw [.t 94,.t 95],oo 97<|.fa 2 (.t 93) (.t 96),oo 98<|.cH 1 (.t 97),oo 99<|.ld none (.t 98),oo 100<|.mv (.t 0),oo 101<|.call Cw [.t 100,ki 5],oo 102<|.bin .sub (.t 101) (ki 2),oo 103<|.bin .add (.t 99) (.t 102),oo 104<|.fa 2 (.t 93) (.t 96),oo 105<|.cH 1 (.t 104),oz<|.st 1 (.t 105) (.t 103)]
def oe : List O :=[oo 106<|.ld (some 2) (.t 3),oz<|.st 2 (.t 4) (.t 106)]
def VM : C := (.seq (.aH tl false [] [0,3,4]) (.seq (.aH tj false [] [0,3,4]) (.seq (.seq (.aH ti false [] [0,3,4,5]) (.seq (.aH th false [] [0,3,4,5,15]) (.aJ 0 (.seq (.aH tf false [] [0,3,4,5,15,16]) (.cond (.t 16) (.aH td false [] [3,4]) (.seq (.aH tc false [] [0,3,4,5,15,22]) (.cond (.t 22) (.seq (.aH tb false [] [0,3,4,5,25]) (.cond (.t 25) (.seq (.aH ta false [] [3,4,6]) (.aH s9 true [(21,21),(22,22),(23,23),(1,2),(1,3),(0,4),(1,4),(2,4),(1,5),(4,5),(1,6),(4,6),(0,7),(1,7),(2,7),(3,7),(4,7),(5,7),(1,8),(4,8),(7,8),(1,9),(4,9),(1,10),(4,10),(0,11),(1,11),(2,11),(3,11),(4,11),(5,11),(1,12),(4,12),(7,12),(11,12),(0,13),(1,13),(2,13),(3,13),(4,13),(5,13),(6,13),(7,13),(8,13),(9,13),(10,13),(11,13),(1,14),(4,14),(7,14),(11,14),(13,14),(1,15),(4,15),(7,15),(11,15),(1,16),(4,16),(7,16),(11,16),(0,17),(1,17),(2,17),(3,17),(4,17),(5,17),(6,17),(7,17),(8,17),(9,17),(10,17),(11,17),(4,18),(4,19),(3,20),(4,20),(5,20)] [3,4])) .skip)) (.seq (.aH oC false [] [0,3,4,5,15,51]) (.cond (.t 51) (.seq (.aH oB false [] [3,4,5,54]) (.cond (.t 54) (.aH oA true [(18,18),(19,19),(1,2),(0,3),(1,3),(1,4),(3,4),(1,5),(3,5),(1,6),(3,6),(0,7),(1,7),(2,7),(3,7),(4,7),(5,7),(1,8),(3,8),(7,8),(1,9),(3,9),(7,9),(1,10),(3,10),(0,11),(1,11),(2,11),(3,11),(4,11),(5,11),(1,12),(3,12),(7,12),(11,12),(0,13),(1,13),(2,13),(3,13),(4,13),(5,13),(6,13),(7,13),(8,13),(9,13),(10,13),(11,13),(1,14),(3,14),(7,14),(11,14),(0,15),(1,15),(2,15),(3,15),(4,15),(5,15),(6,15),(7,15),(8,15),(9,15),(10,15),(11,15),(3,16),(2,17),(3,17),(4,17),(5,17)] [3,4]) .skip)) (.seq (.aH ox false [] [0,3,4,5,15,73]) (.cond (.t 73) (.seq (.aH ot false [] [3,4,5,76]) (.cond (.t 76) (.aH oq true [(9,9),(10,10),(11,11),(1,2),(0,3),(1,3),(1,4),(3,4),(1,5),(3,5),(1,6),(0,7),(1,7),(0,8),(1,8)] [3,4]) .skip)) (.seq (.aH om false [] [0,3,4,5,88]) (.cond (.t 88) (.seq (.aH oi false [] [0,3,4,5,91]) (.cond (.t 91) (.aH oh true [(11,11),(12,12),(13,13),(14,14),(1,2),(1,3),(0,4),(1,4),(1,8),(4,8),(7,8),(0,9),(1,9),(5,9),(6,9),(7,9),(1,10),(7,10)] [3,4]) .skip)) .skip))))))))))))) (.seq (.aH oe false [] [4]) .ret))))
def Sw : eB := ⟨107,2,[.c 4 (some 2)],VM⟩
/- (*cohesion/cohesionmake.Deck).Next -/
def RV : List O :=[oo 4<|.mv (ki 0)]
def RU : List O :=[oo 6<|.mv (.t 1),oo 7<|.bin .lss (.t 6) (ki 1),oo 8<|.mv (.t 7),gf 9 8<|.mv (.t 0),gf 10 8<|.mu (.t 9),gf 11 8<|.cH 1 (.t 10),gf 12 8<|.ld none (.t 11),gf 13 8<|.mv (.t 0),gf 14 8<|.mu (.t 13),gf 15 8<|.cH 0 (.t 14),gf 16 8<|.ld none (.t 15),gf 17 8<|.len (.t 16),gf 18 8<|.bin .geq (.t 12) (.t 17),oo 19<|.pick (.t 8) (.k (.bool true)) (.t 18)]
def RT : List O :=[oo 4<|.mv (ki 0)]
def RS : List O :=[oo 20<|.mv (.t 0),oo 21<|.mu (.t 20),oo 22<|.cH 0 (.t 21),oo 23<|.ld none (.t 22),oo 24<|.mv (.t 0),oo 25<|.mu (.t 24),oo 26<|.cH 1 (.t 25),oo 27<|.ld none (.t 26),oo 28<|.fa 1 (.t 23) (.t 27),oo 29<|.ld none (.t 28),oo 5<|.mv (.t 29)]
def RR : List O :=[oo 30<|.mv (.t 0),oo 31<|.mu (.t 30),oo 32<|.cH 1 (.t 31),oo 33<|.ld none (.t 32),oo 34<|.bin .add (.t 33) (ki 1),oo 35<|.mu (.t 30),oo 36<|.cH 1 (.t 35),oz<|.st 1 (.t 36) (.t 34)]
def RQ : List O :=[oo 37<|.mv (.t 5),oo 38<|.mv (.t 1),oo 39<|.call nQA [.t 37,.t 38],oo 4<|.mv (.t 39)]
def cQh : C := (.seq (.aH RV false [] [0,1]) (.seq (.seq (.aH RU true [(0,0),(1,1),(2,2),(12,12),(13,13),(6,7),(6,8),(6,9),(3,10),(4,10),(5,10),(6,10),(6,11)] [0,1,19]) (.cond (.t 19) (.seq (.aH RT false [] [4]) .ret) .skip)) (.seq (.aH RS true [(8,8),(9,9),(10,10),(3,4),(3,5),(3,6),(0,7),(1,7),(2,7),(3,7)] [0,1,5]) (.seq (.aH RR false [] [1,5]) (.seq (.aH RQ false [] [4]) .ret)))))
def qQh : eB := ⟨40,2,[.t 4],cQh⟩
/- cohesion/cohesionfield.Numbers -/
def RP : List O :=[oo 6<|.mv (.k (.own 1 []))]
def RO : List O :=[oo 7<|.mv (.k (.own 1 []))]
def RN : List O :=[oo 8<|.mv (ki 0)]
def RM : List O :=[oo 9<|.mv (.t 8),oo 10<|.mv (.t 1),oo 11<|.bin .lss (.t 9) (.t 10)]
def RL : List O :=[oo 14<|.mv (.t 7),oo 15<|.mv (.t 0),oo 16<|.mv (.t 2),oo 17<|.call Cw [.t 15,.t 16],oo 18<|.c5 1 1 [.int .i64 0] [(0,1,.t 17)],oo 19<|.app 1 (.t 14) (.t 18),oo 7<|.mv (.t 19)]
def RK : List O :=[oo 12<|.mv (.t 8),oo 13<|.bin .add (.t 12) (ki 1),oo 8<|.mv (.t 13)]
def Te : C := (.seq (.seq (.aH RM false [] [0,1,2,7,8,11]) (.cond (.t 11) .skip (.exit 0))) (.seq (.aJ 1 (.aH RL false [] [0,1,2,7,8])) (.aH RK false [] [0,1,2,7,8])))
def RJ : List O :=[oo 20<|.mv (.t 7),oo 6<|.mv (.t 20)]
def cQi : C := (.seq (.aH RP false [] [0,1,2]) (.seq (.aH RO false [] [0,1,2,7]) (.seq (.seq (.aH RN false [] [0,1,2,7,8]) (.aJ 0 (.loop Te))) (.seq (.aH RJ false [] [6]) .ret))))
def qQi : eB := ⟨21,3,[.t 6],cQi⟩
/- cohesion/cohesionfield.Bits -/
def RI : List O :=[oo 4<|.mv (.k (.own 1 []))]
def RH : List O :=[oo 5<|.mv (.k (.own 1 []))]
def RG : List O :=[oo 6<|.mv (ki 0)]
def RF : List O :=[oo 7<|.mv (.t 6),oo 8<|.mv (.t 1),oo 9<|.bin .lss (.t 7) (.t 8)]
def RE : List O :=[oo 12<|.mv (.t 5),oo 13<|.mv (.t 0),oo 14<|.call Cw [.t 13,ki 2],oo 15<|.bin .eql (.t 14) (ki 1),oo 16<|.c5 1 1 [.bool false] [(0,1,.t 15)],oo 17<|.app 1 (.t 12) (.t 16),oo 5<|.mv (.t 17)]
def RD : List O :=[oo 10<|.mv (.t 6),oo 11<|.bin .add (.t 10) (ki 1),oo 6<|.mv (.t 11)]
def Td : C := (.seq (.seq (.aH RF false [] [0,1,5,6,9]) (.cond (.t 9) .skip (.exit 0))) (.seq (.aJ 1 (.aH RE false [] [0,1,5,6])) (.aH RD false [] [0,1,5,6])))
def RC : List O :=[oo 18<|.mv (.t 5),oo 4<|.mv (.t 18)]
def cQj : C := (.seq (.aH RI false [] [0,1]) (.seq (.aH RH false [] [0,1,5]) (.seq (.seq (.aH RG false [] [0,1,5,6]) (.aJ 0 (.loop Td))) (.seq (.aH RC false [] [4]) .ret))))
def qQj : eB := ⟨19,2,[.t 4],cQj⟩
/- cohesion/sample.Mono -/
def En : List O :=[oo 3<|.box (.t 0),oo 4<|.box (.t 1),oo 5<|.box (.t 2),oo 6<|.new [.int .i64 0,.own 2 []],oo 7<|.mv (ki 0)]
def Em : List O :=[oo 9<|.ld (some 2) (.t 3),oo 10<|.call UE [.t 9],oo 8<|.mv (.t 10)]
def El : List O :=[oo 11<|.mv (.t 8),oo 12<|.bin .neq (.t 11) (ki 0)]
def Ek : List O :=[oo 13<|.build [.int .i64 0,.own 2 []] [],oo 14<|.mv (.t 8),oz<|.st 2 (.t 6) (.t 13),oo 7<|.mv (.t 14)]
def Ej : List O :=[oo 15<|.ld none (.t 4),oo 16<|.len (.t 15),oo 17<|.cH 0 (.t 3),oo 18<|.ld none (.t 17),oo 19<|.bin .neq (.t 16) (.t 18)]
def Ei : List O :=[oo 20<|.build [.int .i64 0,.own 2 []] [],oz<|.st 2 (.t 6) (.t 20),oo 7<|.mv (ki 4)]
def Eh : List O :=[oo 21<|.ld none (.t 5),oo 22<|.bin .lss (.t 21) (ki 1),oo 23<|.mv (.t 22),gf 24 23<|.ld none (.t 5),gf 25 23<|.bin .gtr (.t 24) (ki 64),oo 26<|.pick (.t 23) (.k (.bool true)) (.t 25),oo 27<|.mv (.t 26),gf 28 27<|.ld none (.t 4),gf 29 27<|.MK (.func UD) [] [.t 5],gf 30 27<|.call nQC [.t 28,.t 29],oo 31<|.pick (.t 27) (.k (.bool true)) (.t 30)]
def Eg : List O :=[oo 32<|.build [.int .i64 0,.own 2 []] [],oz<|.st 2 (.t 6) (.t 32),oo 7<|.mv (ki 1)]
def Ef : List O :=[oo 33<|.ld (some 2) (.t 3),oo 34<|.MK (.func nQF) [] [.t 4],oo 35<|.call nQE [.t 33,.t 34],oz<|.st 2 (.t 6) (.t 35),oo 7<|.mv (ki 0)]
def cQk : C := (.seq (.aH En false [] [3,4,5,6]) (.seq (.seq (.aH Em false [] [3,4,5,6,8]) (.seq (.aH El false [] [3,4,5,6,8,12]) (.cond (.t 12) (.seq (.aH Ek false [] [6,7]) .ret) .skip))) (.seq (.seq (.aH Ej false [] [3,4,5,6,19]) (.cond (.t 19) (.seq (.aH Ei false [] [6,7]) .ret) .skip)) (.seq (.seq (.aH Eh false [] [3,4,6,31]) (.cond (.t 31) (.seq (.aH Eg false [] [6,7]) .ret) .skip)) (.seq (.aH Ef false [] [6,7]) .ret)))))
def qQk : eB := ⟨36,3,[.c 6 (some 2),.t 7],cQk⟩
/- cohesion/cohesionref33.Mono -/
def qz : List O :=[oo 3<|.box (.t 0),oo 6<|.new [.int .i64 0,.own 2 []],oo 7<|.mv (ki 0)]
def qy : List O :=[oo 12<|.ld (some 2) (.t 3),oo 13<|.call UC [.t 12],oo 8<|.mv (.t 13)]
def qx : List O :=[oo 14<|.mv (.t 8),oo 15<|.bin .neq (.t 14) (ki 0)]
def qw : List O :=[oo 16<|.build [.int .i64 0,.own 2 []] [],oo 17<|.mv (.t 8),oz<|.st 2 (.t 6) (.t 16),oo 7<|.mv (.t 17)]
def qv : List O :=[oo 18<|.mv (.t 1),oo 19<|.len (.t 18),oo 20<|.cH 0 (.t 3),oo 21<|.ld none (.t 20),oo 22<|.bin .neq (.t 19) (.t 21)]
def qu : List O :=[oo 23<|.build [.int .i64 0,.own 2 []] [],oz<|.st 2 (.t 6) (.t 23),oo 7<|.mv (ki 4)]
def qt : List O :=[oo 24<|.mv (.t 2),oo 25<|.bin .lss (.t 24) (ki 1),oo 26<|.mv (.t 25),gf 27 26<|.mv (.t 2),gf 28 26<|.bin .gtr (.t 27) (ki 64),oo 29<|.pick (.t 26) (.k (.bool true)) (.t 28)]
def qp : List O :=[oo 30<|.build [.int .i64 0,.own 2 []] [],oz<|.st 2 (.t 6) (.t 30),oo 7<|.mv (ki 1)]
def qo : List O :=[oo 9<|.mv (ki 0)]
def qm : List O :=[oo 31<|.mv (.t 9),oo 32<|.mv (.t 1),oo 33<|.len (.t 32),oo 34<|.bin .lss (.t 31) (.t 33)]
def mi : List O :=[oo 37<|.mv (.t 1),oo 38<|.mv (.t 9),oo 39<|.fa 1 (.t 37) (.t 38),oo 40<|.ld none (.t 39),oo 41<|.bin .lss (.t 40) (ki 0),oo 42<|.mv (.t 41),gf 43 42<|.mv (.t 1),gf 44 42<|.mv (.t 9),gf 45 42<|.fa 1 (.t 43) (.t 44),gf 46 42<|.ld none (.t 45),gf 47 42<|.mv (.t 2),gf 48 42<|.bin .geq (.t 46) (.t 47),oo 49<|.pick (.t 42) (.k (.bool true)) (.t 48)]
def mh : List O :=[oo 50<|.build [.int .i64 0,.own 2 []] [],oz<|.st 2 (.t 6) (.t 50),oo 7<|.mv (ki 1)]
def mg : List O :=[oo 35<|.mv (.t 9),oo 36<|.bin .add (.t 35) (ki 1),oo 9<|.mv (.t 36)]
def IG : C := (.seq (.seq (.aH qm false [] [1,2,3,6,9,34]) (.cond (.t 34) .skip (.exit 0))) (.seq (.aJ 1 (.seq (.aH mi false [] [1,2,3,6,9,49]) (.cond (.t 49) (.seq (.aH mh false [] [6,7]) .ret) .skip))) (.aH mg false [] [1,2,3,6,9])))
def mf : List O :=[oo 51<|.cH 0 (.t 3),oo 52<|.ld none (.t 51),oo 53<|.build [.int .i64 0,.own 2 []] [(0,1,.t 52)],oo 10<|.new [.int .i64 0,.own 2 []],oz<|.st 2 (.t 10) (.t 53)]
def me : List O :=[oo 11<|.mv (ki 0)]
def mc : List O :=[oo 54<|.mv (.t 11),oo 55<|.cH 1 (.t 3),oo 56<|.ld none (.t 55),oo 57<|.len (.t 56),oo 58<|.bin .lss (.t 54) (.t 57)]
def mb : List O :=[oo 61<|.mv (.t 1),oo 62<|.cH 1 (.t 3),oo 63<|.ld none (.t 62),oo 64<|.mv (.t 11),oo 65<|.fa 2 (.t 63) (.t 64),oo 66<|.cH 0 (.t 65),oo 67<|.ld none (.t 66),oo 68<|.fa 1 (.t 61) (.t 67),oo 69<|.ld none (.t 68),oo 70<|.mv (.t 1),oo 71<|.cH 1 (.t 3),oo 72<|.ld none (.t 71),oo 73<|.mv (.t 11),oo 74<|.fa 2 (.t 72) (.t 73),oo 75<|.cH 1 (.t 74),oo 76<|.ld none (.t 75),oo 77<|.fa 1 (.t 70) (.t 76),oo 78<|.ld none (.t 77),oo 79<|.bin .eql (.t 69) (.t 78)]
def ma : List O :=[oo 80<|.cH 1 (.t 10),oo 81<|.ld none (.t 80),oo 82<|.cH 1 (.t 3),oo 83<|.ld none (.t 82),oo 84<|.mv (.t 11),oo 85<|.fa 2 (.t 83) (.t 84),oo 86<|.ld (some 2) (.t 85),oo 87<|.c5 2 1 [.int .i64 0,.int .i64 0] [(0,2,.t 86)],oo 88<|.app 2 (.t 81) (.t 87),oo 89<|.cH 1 (.t 10),oz<|.st 1 (.t 89) (.t 88)]
def l9 : List O :=[oo 59<|.mv (.t 11),oo 60<|.bin .add (.t 59) (ki 1),oo 11<|.mv (.t 60)]
def IF : C := (.seq (.seq (.aH mc false [] [1,3,6,10,11,58]) (.cond (.t 58) .skip (.exit 2))) (.seq (.aJ 3 (.seq (.aH mb true [(18,18),(0,2),(2,3),(0,6),(2,9),(6,9),(8,9),(2,10),(6,10),(8,10),(0,11),(1,11),(2,11),(3,11),(4,11),(5,11),(6,11),(7,11),(8,11),(9,11),(2,12),(6,12),(8,12),(11,12),(2,13),(6,13),(8,13),(2,14),(6,14),(8,14),(0,15),(1,15),(2,15),(3,15),(4,15),(5,15),(6,15),(7,15),(8,15),(9,15),(2,16),(6,16),(8,16),(0,17),(1,17),(2,17),(3,17),(4,17),(5,17),(6,17),(7,17),(8,17)] [1,3,6,10,11,79]) (.cond (.t 79) (.aH ma true [(8,8),(9,9),(10,10),(1,2),(0,3),(1,3),(1,4),(3,4),(1,5),(0,6),(1,6),(0,7),(1,7)] [1,3,6,10,11]) .skip))) (.aH l9 false [] [1,3,6,10,11])))
def l8 : List O :=[oo 90<|.ld (some 2) (.t 10),oz<|.st 2 (.t 6) (.t 90),oo 7<|.mv (ki 0)]
def cQl : C := (.seq (.aH qz false [] [1,2,3,6]) (.seq (.seq (.aH qy false [] [1,2,3,6,8]) (.seq (.aH qx false [] [1,2,3,6,8,15]) (.cond (.t 15) (.seq (.aH qw false [] [6,7]) .ret) .skip))) (.seq (.seq (.aH qv false [] [1,2,3,6,22]) (.cond (.t 22) (.seq (.aH qu false [] [6,7]) .ret) .skip)) (.seq (.seq (.aH qt false [] [1,2,3,6,29]) (.cond (.t 29) (.seq (.aH qp false [] [6,7]) .ret) .skip)) (.seq (.seq (.aH qo false [] [1,2,3,6,9]) (.aJ 0 (.loop IG))) (.seq (.aH mf false [] [1,3,6,10]) (.seq (.seq (.aH me false [] [1,3,6,10,11]) (.aJ 2 (.loop IF))) (.seq (.aH l8 false [] [6,7]) .ret))))))))
def qQl : eB := ⟨91,3,[.c 6 (some 2),.t 7],cQl⟩
/- cohesion/sample.ByColours -/
def RB : List O :=[oo 3<|.box (.t 0),oo 6<|.mv (ki 0),oo 7<|.mv (ki 0)]
def RA : List O :=[oo 12<|.ld (some 2) (.t 3),oo 13<|.mv (.t 1),oo 14<|.mv (.t 2),oo 15<|.call VH [.t 12,.t 13,.t 14],oo 11<|.mv (.t 15),oo 16<|.ext 0 (.t 11),oo 17<|.ext 1 (.t 11),oo 8<|.new [.int .i64 0,.own 2 []],oz<|.st 2 (.t 8) (.t 16),oo 9<|.mv (.t 17)]
def Rx : List O :=[oo 18<|.mv (.t 9),oo 19<|.bin .neq (.t 18) (ki 0)]
def Rw : List O :=[oo 20<|.mv (.t 9),oo 6<|.mv (ki 0),oo 7<|.mv (.t 20)]
def Rs : List O :=[oo 22<|.ld (some 2) (.t 8),oo 23<|.call nQH [.t 22],oo 21<|.mv (.t 23),oo 24<|.ext 0 (.t 21),oo 25<|.ext 1 (.t 21),oo 10<|.mv (.t 24),oo 9<|.mv (.t 25)]
def Rr : List O :=[oo 26<|.mv (.t 2),oo 27<|.mv (.t 2),oo 28<|.bin .mul (.t 26) (.t 27),oo 29<|.mv (.t 10),oo 30<|.bin .mul (.t 28) (.t 29),oo 31<|.mv (.t 9),oo 6<|.mv (.t 30),oo 7<|.mv (.t 31)]
def cQm : C := (.seq (.aH RB false [] [1,2,3]) (.seq (.aH RA false [] [2,8,9]) (.seq (.seq (.aH Rx false [] [2,8,9,19]) (.cond (.t 19) (.seq (.aH Rw false [] [6,7]) .ret) .skip)) (.seq (.aH Rs false [] [2,9,10]) (.seq (.aH Rr false [] [6,7]) .ret)))))
def qQm : eB := ⟨32,3,[.t 6,.t 7],cQm⟩
/- cohesion/cohesionref33.ByColours -/
def Rq : List O :=[oo 3<|.box (.t 0),oo 6<|.mv (ki 0),oo 7<|.mv (ki 0)]
def Rp : List O :=[oo 13<|.ld (some 2) (.t 3),oo 14<|.mv (.t 1),oo 15<|.mv (.t 2),oo 16<|.call Yh [.t 13,.t 14,.t 15],oo 12<|.mv (.t 16),oo 17<|.ext 0 (.t 12),oo 18<|.ext 1 (.t 12),oo 8<|.new [.int .i64 0,.own 2 []],oz<|.st 2 (.t 8) (.t 17),oo 9<|.mv (.t 18)]
def Ro : List O :=[oo 19<|.mv (.t 9),oo 20<|.bin .neq (.t 19) (ki 0)]
def Rn : List O :=[oo 21<|.mv (.t 9),oo 6<|.mv (ki 0),oo 7<|.mv (.t 21)]
def Rm : List O :=[oo 23<|.ld (some 2) (.t 8),oo 24<|.call nQI [.t 23],oo 22<|.mv (.t 24),oo 25<|.ext 0 (.t 22),oo 26<|.ext 1 (.t 22),oo 10<|.mv (.t 25),oo 11<|.mv (.t 26)]
def Rl : List O :=[oo 27<|.mv (.t 2),oo 28<|.mv (.t 2),oo 29<|.bin .mul (.t 27) (.t 28),oo 30<|.mv (.t 10),oo 31<|.bin .mul (.t 29) (.t 30),oo 6<|.mv (.t 31),oo 7<|.mv (ki 0)]
def cQn : C := (.seq (.aH Rq false [] [1,2,3]) (.seq (.aH Rp false [] [2,8,9]) (.seq (.seq (.aH Ro false [] [2,8,9,20]) (.cond (.t 20) (.seq (.aH Rn false [] [6,7]) .ret) .skip)) (.seq (.aH Rm false [] [2,10]) (.seq (.aH Rl false [] [6,7]) .ret)))))
def qQn : eB := ⟨32,3,[.t 6,.t 7],cQn⟩
/- cohesion/sample.Keep -/
def Rk : List O :=[oo 2<|.box (.t 0),oo 3<|.box (.t 1),oo 4<|.new [.int .i64 0,.own 2 []],oo 5<|.mv (ki 0)]
def Rj : List O :=[oo 7<|.ld (some 2) (.t 2),oo 8<|.call UE [.t 7],oo 6<|.mv (.t 8)]
def Ri : List O :=[oo 9<|.mv (.t 6),oo 10<|.bin .neq (.t 9) (ki 0)]
def Rh : List O :=[oo 11<|.build [.int .i64 0,.own 2 []] [],oo 12<|.mv (.t 6),oz<|.st 2 (.t 4) (.t 11),oo 5<|.mv (.t 12)]
def Rg : List O :=[oo 13<|.ld none (.t 3),oo 14<|.len (.t 13),oo 15<|.cH 1 (.t 2),oo 16<|.ld none (.t 15),oo 17<|.len (.t 16),oo 18<|.bin .neq (.t 14) (.t 17)]
def Rf : List O :=[oo 19<|.build [.int .i64 0,.own 2 []] [],oz<|.st 2 (.t 4) (.t 19),oo 5<|.mv (ki 4)]
def Re : List O :=[oo 20<|.ld (some 2) (.t 2),oo 21<|.MK (.func nQJ) [] [.t 3],oo 22<|.call nQE [.t 20,.t 21],oz<|.st 2 (.t 4) (.t 22),oo 5<|.mv (ki 0)]
def cQo : C := (.seq (.aH Rk false [] [2,3,4]) (.seq (.seq (.aH Rj false [] [2,3,4,6]) (.seq (.aH Ri false [] [2,3,4,6,10]) (.cond (.t 10) (.seq (.aH Rh false [] [4,5]) .ret) .skip))) (.seq (.seq (.aH Rg false [] [2,3,4,18]) (.cond (.t 18) (.seq (.aH Rf false [] [4,5]) .ret) .skip)) (.seq (.aH Re false [] [4,5]) .ret))))
def qQo : eB := ⟨23,2,[.c 4 (some 2),.t 5],cQo⟩
/- cohesion/cohesionref33.Keep -/
def Ee : List O :=[oo 2<|.box (.t 0),oo 4<|.new [.int .i64 0,.own 2 []],oo 5<|.mv (ki 0)]
def Ec : List O :=[oo 9<|.ld (some 2) (.t 2),oo 10<|.call UC [.t 9],oo 6<|.mv (.t 10)]
def Eb : List O :=[oo 11<|.mv (.t 6),oo 12<|.bin .neq (.t 11) (ki 0)]
def Ea : List O :=[oo 13<|.build [.int .i64 0,.own 2 []] [],oo 14<|.mv (.t 6),oz<|.st 2 (.t 4) (.t 13),oo 5<|.mv (.t 14)]
def D9 : List O :=[oo 15<|.mv (.t 1),oo 16<|.len (.t 15),oo 17<|.cH 1 (.t 2),oo 18<|.ld none (.t 17),oo 19<|.len (.t 18),oo 20<|.bin .neq (.t 16) (.t 19)]
def D8 : List O :=[oo 21<|.build [.int .i64 0,.own 2 []] [],oz<|.st 2 (.t 4) (.t 21),oo 5<|.mv (ki 4)]
def D7 : List O :=[oo 22<|.cH 0 (.t 2),oo 23<|.ld none (.t 22),oo 24<|.build [.int .i64 0,.own 2 []] [(0,1,.t 23)],oo 7<|.new [.int .i64 0,.own 2 []],oz<|.st 2 (.t 7) (.t 24)]
def D6 : List O :=[oo 8<|.mv (ki 0)]
def D5 : List O :=[oo 25<|.mv (.t 8),oo 26<|.mv (.t 1),oo 27<|.len (.t 26),oo 28<|.bin .lss (.t 25) (.t 27)]
def D4 : List O :=[oo 31<|.mv (.t 1),oo 32<|.mv (.t 8),oo 33<|.fa 1 (.t 31) (.t 32),oo 34<|.ld none (.t 33)]
def xA : List O :=[oo 35<|.cH 1 (.t 7),oo 36<|.ld none (.t 35),oo 37<|.cH 1 (.t 2),oo 38<|.ld none (.t 37),oo 39<|.mv (.t 8),oo 40<|.fa 2 (.t 38) (.t 39),oo 41<|.ld (some 2) (.t 40),oo 42<|.c5 2 1 [.int .i64 0,.int .i64 0] [(0,2,.t 41)],oo 43<|.app 2 (.t 36) (.t 42),oo 44<|.cH 1 (.t 7),oz<|.st 1 (.t 44) (.t 43)]
def xz : List O :=[oo 29<|.mv (.t 8),oo 30<|.bin .add (.t 29) (ki 1),oo 8<|.mv (.t 30)]
def IE : C := (.seq (.seq (.aH D5 false [] [1,2,4,7,8,28]) (.cond (.t 28) .skip (.exit 0))) (.seq (.aJ 1 (.seq (.aH D4 false [] [1,2,4,7,8,34]) (.cond (.t 34) (.aH xA true [(8,8),(9,9),(10,10),(1,2),(0,3),(1,3),(1,4),(3,4),(1,5),(0,6),(1,6),(0,7),(1,7)] [1,2,4,7,8]) .skip))) (.aH xz false [] [1,2,4,7,8])))
def xy : List O :=[oo 45<|.ld (some 2) (.t 7),oz<|.st 2 (.t 4) (.t 45),oo 5<|.mv (ki 0)]
def cQp : C := (.seq (.aH Ee false [] [1,2,4]) (.seq (.seq (.aH Ec false [] [1,2,4,6]) (.seq (.aH Eb false [] [1,2,4,6,12]) (.cond (.t 12) (.seq (.aH Ea false [] [4,5]) .ret) .skip))) (.seq (.seq (.aH D9 false [] [1,2,4,20]) (.cond (.t 20) (.seq (.aH D8 false [] [4,5]) .ret) .skip)) (.seq (.aH D7 false [] [1,2,4,7]) (.seq (.seq (.aH D6 false [] [1,2,4,7,8]) (.aJ 0 (.loop IE))) (.seq (.aH xy false [] [4,5]) .ret))))))
def qQp : eB := ⟨46,2,[.c 4 (some 2),.t 5],cQp⟩
/- cohesion/sample.ByEdges -/
def Rc : List O :=[oo 2<|.box (.t 0),oo 4<|.mv (ki 0),oo 5<|.mv (ki 0)]
def Rb : List O :=[oo 10<|.ld (some 2) (.t 2),oo 11<|.mv (.t 1),oo 12<|.call Yg [.t 10,.t 11],oo 9<|.mv (.t 12),oo 13<|.ext 0 (.t 9),oo 14<|.ext 1 (.t 9),oo 6<|.new [.int .i64 0,.own 2 []],oz<|.st 2 (.t 6) (.t 13),oo 7<|.mv (.t 14)]
def Ra : List O :=[oo 15<|.mv (.t 7),oo 16<|.bin .neq (.t 15) (ki 0)]
def Q9 : List O :=[oo 17<|.mv (.t 7),oo 4<|.mv (ki 0),oo 5<|.mv (.t 17)]
def Q8 : List O :=[oo 19<|.ld (some 2) (.t 6),oo 20<|.call nQH [.t 19],oo 18<|.mv (.t 20),oo 21<|.ext 0 (.t 18),oo 22<|.ext 1 (.t 18),oo 8<|.mv (.t 21),oo 7<|.mv (.t 22)]
def Q7 : List O :=[oo 23<|.mv (.t 8),oo 24<|.bin .mul (ki 8) (.t 23),oo 25<|.mv (.t 7),oo 4<|.mv (.t 24),oo 5<|.mv (.t 25)]
def cQq : C := (.seq (.aH Rc false [] [1,2]) (.seq (.aH Rb false [] [6,7]) (.seq (.seq (.aH Ra false [] [6,7,16]) (.cond (.t 16) (.seq (.aH Q9 false [] [4,5]) .ret) .skip)) (.seq (.aH Q8 false [] [7,8]) (.seq (.aH Q7 false [] [4,5]) .ret)))))
def qQq : eB := ⟨26,2,[.t 4,.t 5],cQq⟩
/- cohesion/cohesionref33.ByEdges -/
def Q6 : List O :=[oo 2<|.box (.t 0),oo 4<|.mv (ki 0),oo 5<|.mv (ki 0)]
def Q5 : List O :=[oo 11<|.ld (some 2) (.t 2),oo 12<|.mv (.t 1),oo 13<|.call nQp [.t 11,.t 12],oo 10<|.mv (.t 13),oo 14<|.ext 0 (.t 10),oo 15<|.ext 1 (.t 10),oo 6<|.new [.int .i64 0,.own 2 []],oz<|.st 2 (.t 6) (.t 14),oo 7<|.mv (.t 15)]
def Q4 : List O :=[oo 16<|.mv (.t 7),oo 17<|.bin .neq (.t 16) (ki 0)]
def Q2 : List O :=[oo 18<|.mv (.t 7),oo 4<|.mv (ki 0),oo 5<|.mv (.t 18)]
def Q1 : List O :=[oo 20<|.ld (some 2) (.t 6),oo 21<|.call nQI [.t 20],oo 19<|.mv (.t 21),oo 22<|.ext 0 (.t 19),oo 23<|.ext 1 (.t 19),oo 8<|.mv (.t 22),oo 9<|.mv (.t 23)]
def Q0 : List O :=[oo 24<|.mv (.t 8),oo 25<|.bin .mul (ki 8) (.t 24),oo 4<|.mv (.t 25),oo 5<|.mv (ki 0)]
def cQr : C := (.seq (.aH Q6 false [] [1,2]) (.seq (.aH Q5 false [] [6,7]) (.seq (.seq (.aH Q4 false [] [6,7,17]) (.cond (.t 17) (.seq (.aH Q2 false [] [4,5]) .ret) .skip)) (.seq (.aH Q1 false [] [8]) (.seq (.aH Q0 false [] [4,5]) .ret)))))
def qQr : eB := ⟨26,2,[.t 4,.t 5],cQr⟩
/- cohesion/cohesionref03.Same -/
def acw : List O :=[oo 2<|.box (.t 0),oo 3<|.box (.t 1),oo 4<|.mv (.k (.bool false))]
def acv : List O :=[oo 5<|.cH 0 (.t 2),oo 6<|.ld none (.t 5),oo 7<|.cH 0 (.t 3),oo 8<|.ld none (.t 7),oo 9<|.bin .eql (.t 6) (.t 8),oo 10<|.mv (.t 9),gt 11 10<|.cH 1 (.t 2),gt 12 10<|.ld none (.t 11),gt 13 10<|.cH 1 (.t 3),gt 14 10<|.ld none (.t 13),gt 15 10<|.call nQK [.t 12,.t 14],oo 16<|.pick (.t 10) (.t 15) (.k (.bool false)),oo 4<|.mv (.t 16)]
def cQs : C := (.seq (.aH acw false [] [2,3]) (.seq (.aH acv false [] [4]) .ret))
def qQs : eB := ⟨17,2,[.t 4],cQs⟩
/- cohesion/sample.ByWedges -/
def zj : List O :=[oo 2<|.box (.t 0),oo 4<|.new [.int .i64 0,.int .i64 0],oo 5<|.mv (ki 0)]
def zi : List O :=[oo 11<|.ld (some 2) (.t 2),oo 12<|.call UE [.t 11],oo 6<|.mv (.t 12)]
def zh : List O :=[oo 13<|.mv (.t 6),oo 14<|.bin .neq (.t 13) (ki 0)]
def zg : List O :=[oo 15<|.build [.int .i64 0,.int .i64 0] [],oo 16<|.mv (.t 6),oz<|.st 2 (.t 4) (.t 15),oo 5<|.mv (.t 16)]
def zf : List O :=[oo 17<|.ld (some 2) (.t 2),oo 18<|.call nQL [.t 17],oo 7<|.mv (.t 18)]
def ze : List O :=[oo 8<|.mv (ki 0)]
def zd : List O :=[oo 19<|.mv (.t 1),oo 20<|.len (.t 19),oo 21<|.mv (ki 0)]
def zc : List O :=[oo 22<|.bin .lss (.t 21) (.t 20)]
def zb : List O :=[oo 23<|.fa 1 (.t 19) (.t 21),oo 24<|.ld none (.t 23),oo 10<|.mv (.t 24)]
def za : List O :=[oo 25<|.mv (.t 10),oo 26<|.bin .lss (.t 25) (ki 0),oo 27<|.mv (.t 26),gf 28 27<|.mv (.t 10),gf 29 27<|.mv (.t 7),gf 30 27<|.len (.t 29),gf 31 27<|.bin .geq (.t 28) (.t 30),oo 32<|.pick (.t 27) (.k (.bool true)) (.t 31)]
def sA : List O :=[oo 33<|.build [.int .i64 0,.int .i64 0] [],oz<|.st 2 (.t 4) (.t 33),oo 5<|.mv (ki 1)]
def sx : List O :=[oo 34<|.ld (some 2) (.t 2),oo 35<|.mv (.t 7),oo 36<|.mv (.t 10),oo 37<|.fa 3 (.t 35) (.t 36),oo 38<|.ld (some 3) (.t 37),oo 39<|.call nQM [.t 34,.t 38]]
def ss : List O :=[oo 40<|.mv (.t 8),oo 41<|.bin .add (.t 40) (ki 1),oo 8<|.mv (.t 41)]
def sq : List O :=[oo 42<|.bin .add (.t 21) (ki 1),oo 21<|.mv (.t 42)]
def FH : C := (.seq (.aH zc false [] [1,2,4,7,8,19,20,21,22]) (.seq (.cond (.t 22) .skip (.exit 0)) (.seq (.aJ 1 (.seq (.aH zb false [] [1,2,4,7,8,10,19,20,21]) (.seq (.seq (.aH za false [] [1,2,4,7,8,10,19,20,21,32]) (.cond (.t 32) (.seq (.aH sA false [] [4,5]) .ret) .skip)) (.seq (.aH sx true [(5,5),(0,1),(0,2),(0,3),(0,4)] [1,2,4,7,8,19,20,21,39]) (.cond (.t 39) (.aH ss false [] [1,2,4,7,8,19,20,21]) .skip))))) (.aH sq false [] [1,2,4,7,8,19,20,21]))))
def sk : List O :=[oo 43<|.mv (.t 8),oo 44<|.mv (.t 1),oo 45<|.len (.t 44),oo 46<|.max [.t 45,ki 1],oo 47<|.call nQN [.t 43,.t 46],oo 48<|.ext 0 (.t 47),oo 49<|.ext 1 (.t 47),oz<|.st 2 (.t 4) (.t 48),oo 5<|.mv (.t 49)]
def cQt : C := (.seq (.aH zj false [] [1,2,4]) (.seq (.seq (.aH zi false [] [1,2,4,6]) (.seq (.aH zh false [] [1,2,4,6,14]) (.cond (.t 14) (.seq (.aH zg false [] [4,5]) .ret) .skip))) (.seq (.aH zf false [] [1,2,4,7]) (.seq (.aH ze false [] [1,2,4,7,8]) (.seq (.seq (.aH zd false [] [1,2,4,7,8,19,20,21]) (.aJ 0 (.loop FH))) (.seq (.aH sk false [] [4,5]) .ret))))))
def qQt : eB := ⟨50,2,[.c 4 (some 2),.t 5],cQt⟩
/- cohesion/cohesionref33.ByWedges -/
def BR : List O :=[oo 2<|.box (.t 0),oo 4<|.new [.int .i64 0,.int .i64 0],oo 5<|.mv (ki 0)]
def BQ : List O :=[oo 12<|.ld (some 2) (.t 2),oo 13<|.call UC [.t 12],oo 6<|.mv (.t 13)]
def BP : List O :=[oo 14<|.mv (.t 6),oo 15<|.bin .neq (.t 14) (ki 0)]
def BO : List O :=[oo 16<|.build [.int .i64 0,.int .i64 0] [],oo 17<|.mv (.t 6),oz<|.st 2 (.t 4) (.t 16),oo 5<|.mv (.t 17)]
def BN : List O :=[oo 7<|.mv (ki 0)]
def BM : List O :=[oo 8<|.mv (ki 0)]
def BL : List O :=[oo 18<|.mv (.t 8),oo 19<|.mv (.t 1),oo 20<|.len (.t 19),oo 21<|.bin .lss (.t 18) (.t 20)]
def BK : List O :=[oo 25<|.ld (some 2) (.t 2),oo 26<|.mv (.t 1),oo 27<|.mv (.t 8),oo 28<|.fa 1 (.t 26) (.t 27),oo 29<|.ld none (.t 28),oo 30<|.call Yf [.t 25,.t 29],oo 24<|.mv (.t 30),oo 31<|.ext 0 (.t 24),oo 32<|.ext 1 (.t 24),oo 33<|.ext 2 (.t 24),oo 9<|.mv (.t 31),oo 10<|.mv (.t 32),oo 11<|.mv (.t 33)]
def BJ : List O :=[oo 34<|.mv (.t 11),oo 35<|.bin .neq (.t 34) (ki 0)]
def BI : List O :=[oo 36<|.build [.int .i64 0,.int .i64 0] [],oo 37<|.mv (.t 11),oz<|.st 2 (.t 4) (.t 36),oo 5<|.mv (.t 37)]
def uB : List O :=[oo 38<|.mv (.t 10)]
def uA : List O :=[oo 39<|.mv (.t 7),oo 40<|.bin .add (.t 39) (ki 1),oo 7<|.mv (.t 40)]
def uz : List O :=[oo 22<|.mv (.t 8),oo 23<|.bin .add (.t 22) (ki 1),oo 8<|.mv (.t 23)]
def FG : C := (.seq (.seq (.aH BL false [] [1,2,4,7,8,21]) (.cond (.t 21) .skip (.exit 0))) (.seq (.aJ 1 (.seq (.aH BK true [(5,5),(6,6),(12,12),(0,1),(0,2),(0,3),(0,4)] [1,2,4,7,8,10,11]) (.seq (.seq (.aH BJ false [] [1,2,4,7,8,10,11,35]) (.cond (.t 35) (.seq (.aH BI false [] [4,5]) .ret) .skip)) (.seq (.aH uB false [] [1,2,4,7,8,38]) (.cond (.t 38) (.aH uA false [] [1,2,4,7,8]) .skip))))) (.aH uz false [] [1,2,4,7,8])))
def uy : List O :=[oo 41<|.mv (.t 7),oo 42<|.mv (.t 1),oo 43<|.len (.t 42),oo 44<|.call nQO [.t 41,.t 43],oz<|.st 2 (.t 4) (.t 44),oo 5<|.mv (ki 0)]
def cQu : C := (.seq (.aH BR false [] [1,2,4]) (.seq (.seq (.aH BQ false [] [1,2,4,6]) (.seq (.aH BP false [] [1,2,4,6,15]) (.cond (.t 15) (.seq (.aH BO false [] [4,5]) .ret) .skip))) (.seq (.aH BN false [] [1,2,4,7]) (.seq (.seq (.aH BM false [] [1,2,4,7,8]) (.aJ 0 (.loop FG))) (.seq (.aH uy false [] [4,5]) .ret)))))
def qQu : eB := ⟨45,2,[.c 4 (some 2),.t 5],cQu⟩
/- cohesion/sample.Wedge -/
def Mn : List O :=[oo 2<|.box (.t 0),oo 4<|.mv (.k (.own 1 [])),oo 5<|.mv (.k (.bool false)),oo 6<|.mv (ki 0)]
def Mm : List O :=[oo 9<|.ld (some 2) (.t 2),oo 10<|.call UE [.t 9],oo 7<|.mv (.t 10)]
def Ml : List O :=[oo 11<|.mv (.t 7),oo 12<|.bin .neq (.t 11) (ki 0)]
def Mk : List O :=[oo 13<|.mv (.t 7),oo 4<|.mv (.k (.own 1 [])),oo 5<|.mv (.k (.bool false)),oo 6<|.mv (.t 13)]
def Mj : List O :=[oo 14<|.ld (some 2) (.t 2),oo 15<|.call nQL [.t 14],oo 8<|.mv (.t 15)]
def Mi : List O :=[oo 16<|.mv (.t 1),oo 17<|.bin .lss (.t 16) (ki 0),oo 18<|.mv (.t 17),gf 19 18<|.mv (.t 1),gf 20 18<|.mv (.t 8),gf 21 18<|.len (.t 20),gf 22 18<|.bin .geq (.t 19) (.t 21),oo 23<|.pick (.t 18) (.k (.bool true)) (.t 22)]
def Mh : List O :=[oo 4<|.mv (.k (.own 1 [])),oo 5<|.mv (.k (.bool false)),oo 6<|.mv (ki 1)]
def Mg : List O :=[oo 24<|.mv (.t 8),oo 25<|.mv (.t 1),oo 26<|.fa 3 (.t 24) (.t 25),oo 27<|.Hw 3 (.t 26) none,oo 28<|.call nQP [.t 27],oo 29<|.ld (some 2) (.t 2),oo 30<|.mv (.t 8),oo 31<|.mv (.t 1),oo 32<|.fa 3 (.t 30) (.t 31),oo 33<|.ld (some 3) (.t 32),oo 34<|.call nQM [.t 29,.t 33],oo 4<|.mv (.t 28),oo 5<|.mv (.t 34),oo 6<|.mv (ki 0)]
def cQv : C := (.seq (.aH Mn false [] [1,2]) (.seq (.seq (.aH Mm false [] [1,2,7]) (.seq (.aH Ml false [] [1,2,7,12]) (.cond (.t 12) (.seq (.aH Mk false [] [4,5,6]) .ret) .skip))) (.seq (.aH Mj false [] [1,2,8]) (.seq (.seq (.aH Mi false [] [1,2,8,23]) (.cond (.t 23) (.seq (.aH Mh false [] [4,5,6]) .ret) .skip)) (.seq (.aH Mg true [(10,10),(11,11),(12,12),(13,13),(0,5),(1,5),(2,5),(3,5),(4,5),(3,6),(4,6),(5,6),(3,7),(4,7),(5,7),(3,8),(4,8),(5,8),(0,9),(1,9),(2,9),(3,9),(4,9),(5,9)] [4,5,6]) .ret)))))
def qQv : eB := ⟨35,2,[.t 4,.t 5,.t 6],cQv⟩
/- cohesion/cohesionref33.Wedge -/
def rI : List O :=[oo 2<|.box (.t 0),oo 4<|.mv (.k (.own 1 [])),oo 5<|.mv (.k (.bool false)),oo 6<|.mv (ki 0)]
def rH : List O :=[oo 13<|.ld (some 2) (.t 2),oo 14<|.call UC [.t 13],oo 7<|.mv (.t 14)]
def rG : List O :=[oo 15<|.mv (.t 7),oo 16<|.bin .neq (.t 15) (ki 0)]
def rF : List O :=[oo 17<|.mv (.t 7),oo 4<|.mv (.k (.own 1 [])),oo 5<|.mv (.k (.bool false)),oo 6<|.mv (.t 17)]
def rE : List O :=[oo 8<|.mv (ki 0)]
def rD : List O :=[oo 9<|.mv (ki 0)]
def rC : List O :=[oo 18<|.mv (.t 9),oo 19<|.cH 0 (.t 2),oo 20<|.ld none (.t 19),oo 21<|.bin .lss (.t 18) (.t 20)]
def rB : List O :=[oo 24<|.ld (some 2) (.t 2),oo 25<|.mv (.t 9),oo 26<|.call nQQ [.t 24,.t 25],oo 10<|.mv (.t 26)]
def rA : List O :=[oo 11<|.mv (ki 0)]
def rz : List O :=[oo 27<|.mv (.t 11),oo 28<|.mv (.t 10),oo 29<|.len (.t 28),oo 30<|.bin .lss (.t 27) (.t 29)]
def nf : List O :=[oo 33<|.mv (.t 11),oo 34<|.bin .add (.t 33) (ki 1),oo 12<|.mv (.t 34)]
def m9 : List O :=[oo 35<|.mv (.t 12),oo 36<|.mv (.t 10),oo 37<|.len (.t 36),oo 38<|.bin .lss (.t 35) (.t 37)]
def m8 : List O :=[oo 41<|.mv (.t 8),oo 42<|.mv (.t 1),oo 43<|.bin .eql (.t 41) (.t 42)]
def m7 : List O :=[oo 44<|.mv (.t 10),oo 45<|.mv (.t 11),oo 46<|.fa 1 (.t 44) (.t 45),oo 47<|.ld none (.t 46),oo 48<|.mv (.t 9),oo 49<|.mv (.t 10),oo 50<|.mv (.t 12),oo 51<|.fa 1 (.t 49) (.t 50),oo 52<|.ld none (.t 51),oo 53<|.c5 1 3 [.int .i64 0] [(0,1,.t 47),(1,1,.t 48),(2,1,.t 52)],oo 54<|.ld (some 2) (.t 2),oo 55<|.mv (.t 10),oo 56<|.mv (.t 11),oo 57<|.fa 1 (.t 55) (.t 56),oo 58<|.ld none (.t 57),oo 59<|.mv (.t 10),oo 60<|.mv (.t 12),oo 61<|.fa 1 (.t 59) (.t 60),oo 62<|.ld none (.t 61),oo 63<|.call nQR [.t 54,.t 58,.t 62],oo 64<|.bin .geq (.t 63) (ki 0),oo 4<|.mv (.t 53),oo 5<|.mv (.t 64),oo 6<|.mv (ki 0)]
def m6 : List O :=[oo 65<|.mv (.t 8),oo 66<|.bin .add (.t 65) (ki 1),oo 8<|.mv (.t 66)]
def m5 : List O :=[oo 39<|.mv (.t 12),oo 40<|.bin .add (.t 39) (ki 1),oo 12<|.mv (.t 40)]
def MX : C := (.seq (.seq (.aH m9 false [] [1,2,8,9,10,11,12,38]) (.cond (.t 38) .skip (.exit 4))) (.seq (.aJ 5 (.seq (.seq (.aH m8 false [] [1,2,8,9,10,11,12,43]) (.cond (.t 43) (.seq (.aH m7 true [(22,22),(23,23),(3,4),(3,5),(3,6),(3,7),(0,8),(1,8),(2,8),(3,8),(4,8),(0,10),(1,10),(2,10),(3,10),(4,10),(5,10),(6,10),(7,10),(8,10),(9,10),(3,11),(8,11),(9,11),(10,11),(3,12),(8,12),(9,12),(10,12),(3,13),(8,13),(9,13),(10,13),(0,14),(1,14),(2,14),(3,14),(4,14),(5,14),(6,14),(7,14),(8,14),(9,14),(10,14),(3,15),(8,15),(9,15),(10,15),(14,15),(3,16),(8,16),(9,16),(10,16),(14,16),(3,17),(8,17),(9,17),(10,17),(14,17),(0,18),(1,18),(2,18),(3,18),(4,18),(5,18),(6,18),(7,18),(8,18),(9,18),(10,18),(11,18),(12,18),(13,18),(14,18),(0,19),(1,19),(2,19),(3,19),(4,19),(5,19),(6,19),(7,19),(8,19),(9,19),(3,20),(8,20),(9,20)] [4,5,6]) .ret) .skip)) (.aH m6 false [] [1,2,8,9,10,11,12]))) (.aH m5 false [] [1,2,8,9,10,11,12])))
def m4 : List O :=[oo 31<|.mv (.t 11),oo 32<|.bin .add (.t 31) (ki 1),oo 11<|.mv (.t 32)]
def MW : C := (.seq (.seq (.aH rz false [] [1,2,8,9,10,11,30]) (.cond (.t 30) .skip (.exit 2))) (.seq (.aJ 3 (.seq (.aH nf false [] [1,2,8,9,10,11,12]) (.aJ 4 (.loop MX)))) (.aH m4 false [] [1,2,8,9,10,11])))
def mZ : List O :=[oo 22<|.mv (.t 9),oo 23<|.bin .add (.t 22) (ki 1),oo 9<|.mv (.t 23)]
def ID : C := (.seq (.seq (.aH rC false [] [1,2,8,9,21]) (.cond (.t 21) .skip (.exit 0))) (.seq (.aJ 1 (.seq (.aH rB false [] [1,2,8,9,10]) (.seq (.aH rA false [] [1,2,8,9,10,11]) (.aJ 2 (.loop MW))))) (.aH mZ false [] [1,2,8,9])))
def mY : List O :=[oo 4<|.mv (.k (.own 1 [])),oo 5<|.mv (.k (.bool false)),oo 6<|.mv (ki 1)]
def cQw : C := (.seq (.aH rI false [] [1,2]) (.seq (.seq (.aH rH false [] [1,2,7]) (.seq (.aH rG false [] [1,2,7,16]) (.cond (.t 16) (.seq (.aH rF false [] [4,5,6]) .ret) .skip))) (.seq (.aH rE false [] [1,2,8]) (.seq (.seq (.aH rD false [] [1,2,8,9]) (.aJ 0 (.loop ID))) (.seq (.aH mY false [] [4,5,6]) .ret)))))
def qQw : eB := ⟨67,2,[.t 4,.t 5,.t 6],cQw⟩
/- cohesion/cohesionref02.Cmp -/
def y9 : List O :=[oo 4<|.mv (ki 0)]
def y8 : List O :=[oo 6<|.mv (.t 0),oo 7<|.len (.t 6),oo 8<|.mv (ki 0)]
def y7 : List O :=[oo 9<|.bin .lss (.t 8) (.t 7)]
def y6 : List O :=[oo 10<|.mv (.t 8),oo 5<|.mv (.t 10)]
def y5 : List O :=[oo 12<|.mv (.t 5),oo 13<|.mv (.t 1),oo 14<|.len (.t 13),oo 15<|.bin .geq (.t 12) (.t 14),oo 16<|.mv (.t 15),gf 17 16<|.mv (.t 0),gf 18 16<|.mv (.t 5),gf 19 16<|.fa 1 (.t 17) (.t 18),gf 20 16<|.ld none (.t 19),gf 21 16<|.mv (.t 1),gf 22 16<|.mv (.t 5),gf 23 16<|.fa 1 (.t 21) (.t 22),gf 24 16<|.ld none (.t 23),gf 25 16<|.bin .gtr (.t 20) (.t 24),oo 26<|.pick (.t 16) (.k (.bool true)) (.t 25),oo 11<|.mv (.t 26)]
def yZ : List O :=[oo 4<|.mv (ki 1)]
def yY : List O :=[oo 28<|.mv (.t 0),oo 29<|.mv (.t 5),oo 30<|.fa 1 (.t 28) (.t 29),oo 31<|.ld none (.t 30),oo 32<|.mv (.t 1),oo 33<|.mv (.t 5),oo 34<|.fa 1 (.t 32) (.t 33),oo 35<|.ld none (.t 34),oo 36<|.bin .lss (.t 31) (.t 35),oo 27<|.mv (.t 36)]
def yX : List O :=[oo 4<|.mv (.k (.int .i64 (-1)))]
def yW : List O :=[oo 37<|.bin .add (.t 8) (ki 1),oo 8<|.mv (.t 37)]
def FF : C := (.seq (.aH y7 false [] [0,1,7,8,9]) (.seq (.cond (.t 9) .skip (.exit 0)) (.seq (.aJ 1 (.seq (.aH y6 false [] [0,1,5,7,8]) (.aJ 2 (.seq (.aH y5 true [(3,3),(4,4),(13,13),(14,14),(15,15),(8,9),(8,10),(8,11),(5,12),(6,12),(7,12),(8,12)] [0,1,5,7,8,11]) (.cond (.t 11) (.seq (.aH yZ false [] [4]) .ret) (.seq (.aH yY true [(8,8),(9,9),(3,4),(3,5),(3,6),(0,7),(1,7),(2,7),(3,7)] [0,1,7,8,27]) (.cond (.t 27) (.seq (.aH yX false [] [4]) .ret) .skip))))))) (.aH yW false [] [0,1,7,8]))))
def yV : List O :=[oo 38<|.mv (.t 0),oo 39<|.len (.t 38),oo 40<|.mv (.t 1),oo 41<|.len (.t 40),oo 42<|.bin .lss (.t 39) (.t 41)]
def sj : List O :=[oo 4<|.mv (.k (.int .i64 (-1)))]
def si : List O :=[oo 4<|.mv (ki 0)]
def cQx : C := (.seq (.aH y9 false [] [0,1]) (.seq (.seq (.aH y8 false [] [0,1,7,8]) (.aJ 0 (.loop FF))) (.seq (.seq (.aH yV false [] [42]) (.cond (.t 42) (.seq (.aH sj false [] [4]) .ret) .skip)) (.seq (.aH si false [] [4]) .ret))))
def qQx : eB := ⟨43,2,[.t 4],cQx⟩
/- cohesion/sample.Reservoir -/
def ql : List O :=[oo 6<|.mv (.k (.own 1 [])),oo 7<|.mv (ki 0)]
def qk : List O :=[oo 11<|.mv (.t 0),oo 12<|.bin .lss (.t 11) (ki 0),oo 13<|.mv (.t 12),gf 14 13<|.mv (.t 0),gf 15 13<|.bin .gtr (.t 14) (ki 4096),oo 16<|.pick (.t 13) (.k (.bool true)) (.t 15),oo 17<|.mv (.t 16),gf 18 17<|.mv (.t 1),gf 19 17<|.bin .lss (.t 18) (ki 1),oo 20<|.pick (.t 17) (.k (.bool true)) (.t 19),oo 21<|.mv (.t 20),gf 22 21<|.mv (.t 1),gf 23 21<|.bin .gtr (.t 22) (ki 4096),oo 24<|.pick (.t 21) (.k (.bool true)) (.t 23)]
def qj : List O :=[oo 6<|.mv (.k (.own 1 [])),oo 7<|.mv (ki 1)]
def qi : List O :=[oo 25<|.mv (.t 2),oo 26<|.len (.t 25),oo 27<|.mv (.t 0),oo 28<|.mv (.t 1),oo 29<|.bin .sub (.t 27) (.t 28),oo 30<|.max [.t 29,ki 0],oo 31<|.bin .neq (.t 26) (.t 30)]
def qh : List O :=[oo 6<|.mv (.k (.own 1 [])),oo 7<|.mv (ki 4)]
def qg : List O :=[oo 8<|.mv (.k (.own 1 []))]
def qf : List O :=[oo 32<|.mv (.t 0),oo 33<|.mv (ki 0)]
def qe : List O :=[oo 34<|.bin .lss (.t 33) (.t 32)]
def qd : List O :=[oo 35<|.mv (.t 33),oo 9<|.mv (.t 35)]
def qc : List O :=[oo 36<|.mv (.t 9),oo 37<|.mv (.t 1),oo 38<|.bin .lss (.t 36) (.t 37)]
def l7 : List O :=[oo 39<|.mv (.t 8),oo 40<|.mv (.t 9),oo 41<|.c5 1 1 [.int .i64 0] [(0,1,.t 40)],oo 42<|.app 1 (.t 39) (.t 41),oo 8<|.mv (.t 42)]
def l6 : List O :=[oo 43<|.mv (.t 2),oo 44<|.mv (.t 9),oo 45<|.mv (.t 1),oo 46<|.bin .sub (.t 44) (.t 45),oo 47<|.fa 1 (.t 43) (.t 46),oo 48<|.ld none (.t 47),oo 10<|.mv (.t 48)]
def l5 : List O :=[oo 49<|.mv (.t 10),oo 50<|.bin .lss (.t 49) (ki 0),oo 51<|.mv (.t 50),gf 52 51<|.mv (.t 10),gf 53 51<|.mv (.t 9),gf 54 51<|.bin .gtr (.t 52) (.t 53),oo 55<|.pick (.t 51) (.k (.bool true)) (.t 54)]
def l4 : List O :=[oo 6<|.mv (.k (.own 1 [])),oo 7<|.mv (ki 1)]
def lZ : List O :=[oo 56<|.mv (.t 10),oo 57<|.mv (.t 1),oo 58<|.bin .lss (.t 56) (.t 57)]
def lY : List O :=[oo 59<|.mv (.t 8),oo 60<|.mv (.t 10),oo 61<|.mv (.t 9),oo 62<|.fa 1 (.t 59) (.t 60),oz<|.st 1 (.t 62) (.t 61)]
def lX : List O :=[oo 63<|.bin .add (.t 33) (ki 1),oo 33<|.mv (.t 63)]
def CB : C := (.seq (.aH qe false [] [1,2,8,32,33,34]) (.seq (.cond (.t 34) .skip (.exit 0)) (.seq (.aJ 1 (.seq (.aH qd false [] [1,2,8,9,32,33]) (.seq (.seq (.aH qc false [] [1,2,8,9,32,33,38]) (.cond (.t 38) (.seq (.aH l7 false [] [1,2,8,32,33]) (.exit 1)) .skip)) (.seq (.aH l6 false [] [1,2,8,9,10,32,33]) (.seq (.seq (.aH l5 false [] [1,2,8,9,10,32,33,55]) (.cond (.t 55) (.seq (.aH l4 false [] [6,7]) .ret) .skip)) (.seq (.aH lZ false [] [1,2,8,9,10,32,33,58]) (.cond (.t 58) (.aH lY false [] [1,2,8,32,33]) .skip))))))) (.aH lX false [] [1,2,8,32,33]))))
def lW : List O :=[oo 64<|.mv (.t 8),oo 65<|.call nQS [.t 64]]
def lV : List O :=[oo 66<|.mv (.t 8),oo 6<|.mv (.t 66),oo 7<|.mv (ki 0)]
def cQy : C := (.seq (.aH ql false [] [0,1,2]) (.seq (.seq (.aH qk false [] [0,1,2,24]) (.cond (.t 24) (.seq (.aH qj false [] [6,7]) .ret) .skip)) (.seq (.seq (.aH qi false [] [0,1,2,31]) (.cond (.t 31) (.seq (.aH qh false [] [6,7]) .ret) .skip)) (.seq (.aH qg false [] [0,1,2,8]) (.seq (.seq (.aH qf false [] [1,2,8,32,33]) (.aJ 0 (.loop CB))) (.seq (.aH lW false [] [8]) (.seq (.aH lV false [] [6,7]) .ret)))))))
def qQy : eB := ⟨67,3,[.t 6,.t 7],cQy⟩
/- cohesion/cohesionref33.Reservoir -/
def lU : List O :=[oo 6<|.mv (.k (.own 1 [])),oo 7<|.mv (ki 0)]
def lR : List O :=[oo 14<|.mv (.t 0),oo 15<|.bin .lss (.t 14) (ki 0),oo 16<|.mv (.t 15),gf 17 16<|.mv (.t 0),gf 18 16<|.bin .gtr (.t 17) (ki 4096),oo 19<|.pick (.t 16) (.k (.bool true)) (.t 18),oo 20<|.mv (.t 19),gf 21 20<|.mv (.t 1),gf 22 20<|.bin .lss (.t 21) (ki 1),oo 23<|.pick (.t 20) (.k (.bool true)) (.t 22),oo 24<|.mv (.t 23),gf 25 24<|.mv (.t 1),gf 26 24<|.bin .gtr (.t 25) (ki 4096),oo 27<|.pick (.t 24) (.k (.bool true)) (.t 26)]
def lQ : List O :=[oo 6<|.mv (.k (.own 1 [])),oo 7<|.mv (ki 1)]
def lO : List O :=[oo 28<|.mv (.t 2),oo 29<|.len (.t 28),oo 30<|.mv (.t 0),oo 31<|.mv (.t 1),oo 32<|.bin .sub (.t 30) (.t 31),oo 33<|.max [ki 0,.t 32],oo 34<|.bin .neq (.t 29) (.t 33)]
def lN : List O :=[oo 6<|.mv (.k (.own 1 [])),oo 7<|.mv (ki 4)]
def lM : List O :=[oo 8<|.mv (.k (.own 1 []))]
def lL : List O :=[oo 9<|.mv (ki 0)]
def lK : List O :=[oo 35<|.mv (.t 9),oo 36<|.mv (.t 0),oo 37<|.bin .lss (.t 35) (.t 36)]
def lJ : List O :=[oo 40<|.mv (.t 9),oo 41<|.mv (.t 1),oo 42<|.bin .lss (.t 40) (.t 41)]
def lH : List O :=[oo 43<|.mv (.t 8),oo 44<|.mv (.t 9),oo 45<|.c5 1 1 [.int .i64 0] [(0,1,.t 44)],oo 46<|.app 1 (.t 43) (.t 45),oo 8<|.mv (.t 46)]
def jG : List O :=[oo 47<|.mv (.t 2),oo 48<|.mv (.t 9),oo 49<|.mv (.t 1),oo 50<|.bin .sub (.t 48) (.t 49),oo 51<|.fa 1 (.t 47) (.t 50),oo 52<|.ld none (.t 51),oo 10<|.mv (.t 52)]
def jF : List O :=[oo 53<|.mv (.t 10),oo 54<|.bin .lss (.t 53) (ki 0),oo 55<|.mv (.t 54),gf 56 55<|.mv (.t 10),gf 57 55<|.mv (.t 9),gf 58 55<|.bin .gtr (.t 56) (.t 57),oo 59<|.pick (.t 55) (.k (.bool true)) (.t 58)]
def jE : List O :=[oo 6<|.mv (.k (.own 1 [])),oo 7<|.mv (ki 1)]
def jD : List O :=[oo 60<|.mv (.t 10),oo 61<|.mv (.t 1),oo 62<|.bin .lss (.t 60) (.t 61)]
def jC : List O :=[oo 63<|.mv (.t 8),oo 64<|.mv (.t 10),oo 65<|.mv (.t 9),oo 66<|.fa 1 (.t 63) (.t 64),oz<|.st 1 (.t 66) (.t 65)]
def jB : List O :=[oo 38<|.mv (.t 9),oo 39<|.bin .add (.t 38) (ki 1),oo 9<|.mv (.t 39)]
def CA : C := (.seq (.seq (.aH lK false [] [0,1,2,8,9,37]) (.cond (.t 37) .skip (.exit 0))) (.seq (.aJ 1 (.seq (.seq (.aH lJ false [] [0,1,2,8,9,42]) (.cond (.t 42) (.seq (.aH lH false [] [0,1,2,8,9]) (.exit 1)) .skip)) (.seq (.aH jG false [] [0,1,2,8,9,10]) (.seq (.seq (.aH jF false [] [0,1,2,8,9,10,59]) (.cond (.t 59) (.seq (.aH jE false [] [6,7]) .ret) .skip)) (.seq (.aH jD false [] [0,1,2,8,9,10,62]) (.cond (.t 62) (.aH jC false [] [0,1,2,8,9]) .skip)))))) (.aH jB false [] [0,1,2,8,9])))
def jA : List O :=[oo 11<|.mv (.k (.own 1 []))]
def jz : List O :=[oo 12<|.mv (ki 0)]
def jy : List O :=[oo 67<|.mv (.t 12),oo 68<|.mv (.t 0),oo 69<|.bin .lss (.t 67) (.t 68)]
def jx : List O :=[oo 13<|.mv (ki 0)]
def jw : List O :=[oo 72<|.mv (.t 13),oo 73<|.mv (.t 8),oo 74<|.len (.t 73),oo 75<|.bin .lss (.t 72) (.t 74)]
def jv : List O :=[oo 78<|.mv (.t 8),oo 79<|.mv (.t 13),oo 80<|.fa 1 (.t 78) (.t 79),oo 81<|.ld none (.t 80),oo 82<|.mv (.t 12),oo 83<|.bin .eql (.t 81) (.t 82)]
def ju : List O :=[oo 84<|.mv (.t 11),oo 85<|.mv (.t 12),oo 86<|.c5 1 1 [.int .i64 0] [(0,1,.t 85)],oo 87<|.app 1 (.t 84) (.t 86),oo 11<|.mv (.t 87)]
def jt : List O :=[oo 76<|.mv (.t 13),oo 77<|.bin .add (.t 76) (ki 1),oo 13<|.mv (.t 77)]
def MV : C := (.seq (.seq (.aH jw false [] [0,8,11,12,13,75]) (.cond (.t 75) .skip (.exit 4))) (.seq (.aJ 5 (.seq (.aH jv false [] [0,8,11,12,13,83]) (.cond (.t 83) (.aH ju false [] [0,8,11,12,13]) .skip))) (.aH jt false [] [0,8,11,12,13])))
def js : List O :=[oo 70<|.mv (.t 12),oo 71<|.bin .add (.t 70) (ki 1),oo 12<|.mv (.t 71)]
def Tc : C := (.seq (.seq (.aH jy false [] [0,8,11,12,69]) (.cond (.t 69) .skip (.exit 2))) (.seq (.aJ 3 (.seq (.aH jx false [] [0,8,11,12,13]) (.aJ 4 (.loop MV)))) (.aH js false [] [0,8,11,12])))
def jr : List O :=[oo 88<|.mv (.t 11),oo 6<|.mv (.t 88),oo 7<|.mv (ki 0)]
def cQz : C := (.seq (.aH lU false [] [0,1,2]) (.seq (.seq (.aH lR false [] [0,1,2,27]) (.cond (.t 27) (.seq (.aH lQ false [] [6,7]) .ret) .skip)) (.seq (.seq (.aH lO false [] [0,1,2,34]) (.cond (.t 34) (.seq (.aH lN false [] [6,7]) .ret) .skip)) (.seq (.aH lM false [] [0,1,2,8]) (.seq (.seq (.aH lL false [] [0,1,2,8,9]) (.aJ 0 (.loop CA))) (.seq (.aH jA false [] [0,8,11]) (.seq (.seq (.aH jz false [] [0,8,11,12]) (.aJ 2 (.loop Tc))) (.seq (.aH jr false [] [6,7]) .ret))))))))
def qQz : eB := ⟨89,3,[.t 6,.t 7],cQz⟩
/- cohesion/cohesionmake.Mod -/
def ac0 : List O :=[oo 4<|.mv (ki 0)]
def acZ : List O :=[oo 5<|.mv (.t 0),oo 6<|.mv (.t 1),oo 7<|.bin .rem (.t 5) (.t 6),oo 8<|.mv (.t 1),oo 9<|.bin .add (.t 7) (.t 8),oo 10<|.mv (.t 1),oo 11<|.bin .rem (.t 9) (.t 10),oo 4<|.mv (.t 11)]
def cQA : C := (.seq (.aH ac0 false [] [0,1]) (.seq (.aH acZ false [] [4]) .ret))
def qQA : eB := ⟨12,2,[.t 4],cQA⟩
/- cohesion/graph.Check -/
def tM : List O :=[oo 1<|.box (.t 0),oo 2<|.mv (ki 0)]
def tL : List O :=[oo 5<|.cH 0 (.t 1),oo 6<|.ld none (.t 5),oo 7<|.bin .lss (.t 6) (ki 0),oo 8<|.mv (.t 7),gf 9 8<|.cH 0 (.t 1),gf 10 8<|.ld none (.t 9),gf 11 8<|.bin .gtr (.t 10) (ki 64),oo 12<|.pick (.t 8) (.k (.bool true)) (.t 11)]
def tK : List O :=[oo 2<|.mv (ki 1)]
def tJ : List O :=[oo 13<|.cH 1 (.t 1),oo 14<|.ld none (.t 13),oo 15<|.len (.t 14),oo 16<|.mv (ki 0)]
def tI : List O :=[oo 17<|.bin .lss (.t 16) (.t 15)]
def tH : List O :=[oo 18<|.mv (.t 16),oo 19<|.fa 2 (.t 14) (.t 16),oo 20<|.ld (some 2) (.t 19),oo 4<|.new [.int .i64 0,.int .i64 0],oo 3<|.mv (.t 18),oz<|.st 2 (.t 4) (.t 20)]
def tG : List O :=[oo 22<|.cH 0 (.t 4),oo 23<|.ld none (.t 22),oo 24<|.bin .lss (.t 23) (ki 0),oo 25<|.mv (.t 24),gf 26 25<|.cH 0 (.t 4),gf 27 25<|.ld none (.t 26),gf 28 25<|.cH 1 (.t 4),gf 29 25<|.ld none (.t 28),gf 30 25<|.bin .geq (.t 27) (.t 29),oo 31<|.pick (.t 25) (.k (.bool true)) (.t 30),oo 32<|.mv (.t 31),gf 33 32<|.cH 1 (.t 4),gf 34 32<|.ld none (.t 33),gf 35 32<|.cH 0 (.t 1),gf 36 32<|.ld none (.t 35),gf 37 32<|.bin .geq (.t 34) (.t 36),oo 38<|.pick (.t 32) (.k (.bool true)) (.t 37),oo 21<|.mv (.t 38)]
def tF : List O :=[oo 2<|.mv (ki 6)]
def tD : List O :=[oo 40<|.mv (.t 3),oo 41<|.bin .gtr (.t 40) (ki 0),oo 42<|.mv (.t 41),gt 43 42<|.cH 1 (.t 1),gt 44 42<|.ld none (.t 43),gt 45 42<|.mv (.t 3),gt 46 42<|.bin .sub (.t 45) (ki 1),gt 47 42<|.fa 2 (.t 44) (.t 46),gt 48 42<|.ld (some 2) (.t 47),gt 49 42<|.ld (some 2) (.t 4),gt 50 42<|.call nQT [.t 48,.t 49],gt 51 42<|.bin .geq (.t 50) (ki 0),oo 52<|.pick (.t 42) (.t 51) (.k (.bool false)),oo 39<|.mv (.t 52)]
def tC : List O :=[oo 2<|.mv (ki 5)]
def oG : List O :=[oo 53<|.bin .add (.t 16) (ki 1),oo 16<|.mv (.t 53)]
def zO : C := (.seq (.aH tI false [] [1,14,15,16,17]) (.seq (.cond (.t 17) .skip (.exit 0)) (.seq (.aJ 1 (.seq (.aH tH false [] [1,3,4,14,15,16]) (.aJ 2 (.seq (.aH tG false [] [1,3,4,14,15,16,21]) (.cond (.t 21) (.seq (.aH tF false [] [2]) .ret) (.seq (.aH tD true [(0,0),(1,1),(2,2),(10,10),(11,11),(12,12),(13,13),(4,5),(4,6),(3,9),(4,9),(5,9),(6,9),(7,9),(8,9)] [1,14,15,16,39]) (.cond (.t 39) (.seq (.aH tC false [] [2]) .ret) .skip))))))) (.aH oG false [] [1,14,15,16]))))
def oF : List O :=[oo 2<|.mv (ki 0)]
def cQB : C := (.seq (.aH tM false [] [1]) (.seq (.seq (.aH tL false [] [1,12]) (.cond (.t 12) (.seq (.aH tK false [] [2]) .ret) .skip)) (.seq (.seq (.aH tJ false [] [1,14,15,16]) (.aJ 0 (.loop zO))) (.seq (.aH oF false [] [2]) .ret))))
def qQB : eB := ⟨54,1,[.t 2],cQB⟩
/- slices.ContainsFunc[[]int,int] -/
def XK : List O :=[oo 4<|.mv (.k (.bool false))]
def XJ : List O :=[oo 5<|.mv (.t 0),oo 6<|.mv (.t 1),oo 7<|.call nQU [.t 5,.t 6],oo 8<|.bin .geq (.t 7) (ki 0),oo 4<|.mv (.t 8)]
def cQC : C := (.seq (.aH XK false [] [0,1]) (.seq (.aH XJ false [] [4]) .ret))
def qQC : eB := ⟨9,2,[.t 4],cQC⟩
/- cohesion/sample.Mono$1 -/
def Sj : List O :=[oo 3<|.mv (.k (.bool false))]
def Si : List O :=[oo 4<|.mv (.t 0),oo 5<|.bin .lss (.t 4) (ki 0),oo 6<|.mv (.t 5),gf 7 6<|.mv (.t 0),gf 8 6<|.ld none (.t 1),gf 9 6<|.bin .geq (.t 7) (.t 8),oo 10<|.pick (.t 6) (.k (.bool true)) (.t 9),oo 3<|.mv (.t 10)]
def cQD : C := (.seq (.aH Sj false [] [0,1]) (.seq (.aH Si false [] [3]) .ret))
def qQD : eB := ⟨11,1,[.t 3],cQD⟩
/- cohesion/sample.some -/
def zt : List O :=[oo 2<|.box (.t 0),oo 4<|.new [.int .i64 0,.own 2 []]]
def zr : List O :=[oo 8<|.cH 0 (.t 2),oo 9<|.ld none (.t 8),oo 10<|.build [.int .i64 0,.own 2 []] [(0,1,.t 9)],oo 5<|.new [.int .i64 0,.own 2 []],oz<|.st 2 (.t 5) (.t 10)]
def zq : List O :=[oo 11<|.cH 1 (.t 2),oo 12<|.ld none (.t 11),oo 13<|.len (.t 12),oo 14<|.mv (ki 0)]
def zp : List O :=[oo 15<|.bin .lss (.t 14) (.t 13)]
def zo : List O :=[oo 16<|.mv (.t 14),oo 17<|.fa 2 (.t 12) (.t 14),oo 18<|.ld (some 2) (.t 17),oo 7<|.new [.int .i64 0,.int .i64 0],oo 6<|.mv (.t 16),oz<|.st 2 (.t 7) (.t 18)]
def zn : List O :=[oo 19<|.mv (.t 1),oo 20<|.mv (.t 6),oo 21<|.ld (some 2) (.t 7),oo 22<|.jm (.t 19) [.t 20,.t 21]]
def zm : List O :=[oo 23<|.cH 1 (.t 5),oo 24<|.ld none (.t 23),oo 25<|.ld (some 2) (.t 7),oo 26<|.c5 2 1 [.int .i64 0,.int .i64 0] [(0,2,.t 25)],oo 27<|.app 2 (.t 24) (.t 26),oo 28<|.cH 1 (.t 5),oz<|.st 1 (.t 28) (.t 27)]
def zl : List O :=[oo 29<|.bin .add (.t 14) (ki 1),oo 14<|.mv (.t 29)]
def vq : C := (.seq (.aH zp false [] [1,4,5,12,13,14,15]) (.seq (.cond (.t 15) .skip (.exit 0)) (.seq (.aJ 1 (.seq (.aH zo false [] [1,4,5,6,7,12,13,14]) (.seq (.aH zn false [] [1,4,5,7,12,13,14,22]) (.cond (.t 22) (.aH zm false [] [1,4,5,12,13,14]) .skip)))) (.aH zl false [] [1,4,5,12,13,14]))))
def zk : List O :=[oo 30<|.ld (some 2) (.t 5),oz<|.st 2 (.t 4) (.t 30)]
def cQE : C := (.seq (.aH zt false [] [1,2,4]) (.seq (.aH zr false [] [1,2,4,5]) (.seq (.seq (.aH zq false [] [1,4,5,12,13,14]) (.aJ 0 (.loop vq))) (.seq (.aH zk false [] [4]) .ret))))
def qQE : eB := ⟨31,2,[.c 4 (some 2)],cQE⟩
/- cohesion/sample.Mono$2 -/
def acY : List O :=[oo 4<|.box (.t 1),oo 5<|.mv (.k (.bool false))]
def acX : List O :=[oo 6<|.ld none (.t 2),oo 7<|.cH 0 (.t 4),oo 8<|.ld none (.t 7),oo 9<|.fa 1 (.t 6) (.t 8),oo 10<|.ld none (.t 9),oo 11<|.ld none (.t 2),oo 12<|.cH 1 (.t 4),oo 13<|.ld none (.t 12),oo 14<|.fa 1 (.t 11) (.t 13),oo 15<|.ld none (.t 14),oo 16<|.bin .eql (.t 10) (.t 15),oo 5<|.mv (.t 16)]
def cQF : C := (.seq (.aH acY false [] [2,4]) (.seq (.aH acX true [(10,10),(11,11),(0,1),(0,2),(0,5),(1,5),(2,5),(3,5),(4,5),(0,6),(2,6),(4,6),(5,6),(0,7),(1,7),(2,7),(3,7),(4,7),(5,7),(0,8),(2,8),(4,8),(0,9),(1,9),(2,9),(3,9),(4,9)] [5]) .ret))
def qQF : eB := ⟨17,2,[.t 5],cQF⟩
/- cohesion/cohesionref03.Check -/
def tB : List O :=[oo 1<|.box (.t 0),oo 2<|.mv (ki 0)]
def tA : List O :=[oo 5<|.cH 0 (.t 1),oo 6<|.ld none (.t 5),oo 7<|.bin .lss (.t 6) (ki 0),oo 8<|.mv (.t 7),gf 9 8<|.cH 0 (.t 1),gf 10 8<|.ld none (.t 9),gf 11 8<|.bin .gtr (.t 10) (ki 64),oo 12<|.pick (.t 8) (.k (.bool true)) (.t 11)]
def tx : List O :=[oo 2<|.mv (ki 1)]
def tw : List O :=[oo 13<|.cH 1 (.t 1),oo 14<|.ld none (.t 13),oo 15<|.len (.t 14),oo 16<|.mv (ki 0)]
def tv : List O :=[oo 17<|.bin .lss (.t 16) (.t 15)]
def tu : List O :=[oo 18<|.mv (.t 16),oo 19<|.fa 2 (.t 14) (.t 16),oo 20<|.ld (some 2) (.t 19),oo 4<|.new [.int .i64 0,.int .i64 0],oo 3<|.mv (.t 18),oz<|.st 2 (.t 4) (.t 20)]
def tt : List O :=[oo 21<|.cH 0 (.t 4),oo 22<|.ld none (.t 21),oo 23<|.bin .lss (.t 22) (ki 0),oo 24<|.mv (.t 23),gf 25 24<|.cH 0 (.t 4),gf 26 24<|.ld none (.t 25),gf 27 24<|.cH 1 (.t 4),gf 28 24<|.ld none (.t 27),gf 29 24<|.bin .geq (.t 26) (.t 28),oo 30<|.pick (.t 24) (.k (.bool true)) (.t 29),oo 31<|.mv (.t 30),gf 32 31<|.cH 1 (.t 4),gf 33 31<|.ld none (.t 32),gf 34 31<|.cH 0 (.t 1),gf 35 31<|.ld none (.t 34),gf 36 31<|.bin .geq (.t 33) (.t 35),oo 37<|.pick (.t 31) (.k (.bool true)) (.t 36)]
def tr : List O :=[oo 2<|.mv (ki 6)]
def tq : List O :=[oo 38<|.mv (.t 3),oo 39<|.bin .gtr (.t 38) (ki 0),oo 40<|.mv (.t 39),gt 41 40<|.cH 1 (.t 1),gt 42 40<|.ld none (.t 41),gt 43 40<|.mv (.t 3),gt 44 40<|.bin .sub (.t 43) (ki 1),gt 45 40<|.fa 2 (.t 42) (.t 44),gt 46 40<|.ld (some 2) (.t 45),gt 47 40<|.ld (some 2) (.t 4),gt 48 40<|.call nQV [.t 46,.t 47],gt 49 40<|.un .not (.t 48),oo 50<|.pick (.t 40) (.t 49) (.k (.bool false))]
def tp : List O :=[oo 2<|.mv (ki 5)]
def oE : List O :=[oo 51<|.bin .add (.t 16) (ki 1),oo 16<|.mv (.t 51)]
def zN : C := (.seq (.aH tv false [] [1,14,15,16,17]) (.seq (.cond (.t 17) .skip (.exit 0)) (.seq (.aJ 1 (.seq (.aH tu false [] [1,3,4,14,15,16]) (.seq (.seq (.aH tt false [] [1,3,4,14,15,16,37]) (.cond (.t 37) (.seq (.aH tr false [] [2]) .ret) .skip)) (.seq (.aH tq true [(0,0),(1,1),(2,2),(10,10),(11,11),(12,12),(4,5),(4,6),(3,9),(4,9),(5,9),(6,9),(7,9),(8,9)] [1,14,15,16,50]) (.cond (.t 50) (.seq (.aH tp false [] [2]) .ret) .skip))))) (.aH oE false [] [1,14,15,16]))))
def oD : List O :=[oo 2<|.mv (ki 0)]
def cQG : C := (.seq (.aH tB false [] [1]) (.seq (.seq (.aH tA false [] [1,12]) (.cond (.t 12) (.seq (.aH tx false [] [2]) .ret) .skip)) (.seq (.seq (.aH tw false [] [1,14,15,16]) (.aJ 0 (.loop zN))) (.seq (.aH oD false [] [2]) .ret))))
def qQG : eB := ⟨52,1,[.t 2],cQG⟩
/- cohesion/triangles.Count -/
def acW : List O :=[oo 1<|.box (.t 0),oo 2<|.mv (ki 0),oo 3<|.mv (ki 0)]
def acV : List O :=[oo 7<|.ld (some 2) (.t 1),oo 8<|.call UE [.t 7],oo 4<|.mv (.t 8)]
def acU : List O :=[oo 9<|.mv (.t 4),oo 10<|.bin .neq (.t 9) (ki 0)]
def acT : List O :=[oo 11<|.mv (.t 4),oo 2<|.mv (ki 0),oo 3<|.mv (.t 11)]
def acS : List O :=[oo 13<|.ld (some 2) (.t 1),oo 14<|.call nQW [.t 13],oo 12<|.mv (.t 14),oo 15<|.ext 0 (.t 12),oo 16<|.ext 1 (.t 12),oo 5<|.mv (.t 15),oo 6<|.mv (.t 16)]
def acR : List O :=[oo 17<|.mv (.t 5),oo 2<|.mv (.t 17),oo 3<|.mv (ki 0)]
def cQH : C := (.seq (.aH acW false [] [1]) (.seq (.seq (.aH acV false [] [1,4]) (.seq (.aH acU false [] [1,4,10]) (.cond (.t 10) (.seq (.aH acT false [] [2,3]) .ret) .skip))) (.seq (.aH acS false [] [5]) (.seq (.aH acR false [] [2,3]) .ret))))
def qQH : eB := ⟨18,1,[.t 2,.t 3],cQH⟩
/- cohesion/cohesionref29.Count -/
def Sh : List O :=[oo 1<|.box (.t 0),oo 2<|.mv (ki 0),oo 3<|.mv (ki 0)]
def Sg : List O :=[oo 9<|.ld (some 2) (.t 1),oo 10<|.call nQX [.t 9],oo 8<|.mv (.t 10),oo 11<|.ext 0 (.t 8),oo 12<|.ext 1 (.t 8),oo 4<|.mv (.t 11),oo 5<|.mv (.t 12)]
def Sf : List O :=[oo 6<|.mv (ki 0)]
def Se : List O :=[oo 7<|.mv (ki 0)]
def Sd : List O :=[oo 13<|.mv (.t 7),oo 14<|.mv (.t 4),oo 15<|.len (.t 14),oo 16<|.bin .lss (.t 13) (.t 15)]
def Sc : List O :=[oo 19<|.mv (.t 6),oo 20<|.mv (.t 4),oo 21<|.mv (.t 7),oo 22<|.fa 1 (.t 20) (.t 21),oo 23<|.ld none (.t 22),oo 24<|.bin .add (.t 19) (.t 23),oo 6<|.mv (.t 24)]
def Sb : List O :=[oo 17<|.mv (.t 7),oo 18<|.bin .add (.t 17) (ki 1),oo 7<|.mv (.t 18)]
def Tl : C := (.seq (.seq (.aH Sd false [] [4,5,6,7,16]) (.cond (.t 16) .skip (.exit 0))) (.seq (.aJ 1 (.aH Sc false [] [4,5,6,7])) (.aH Sb false [] [4,5,6,7])))
def Sa : List O :=[oo 25<|.mv (.t 6),oo 26<|.bin .quo (.t 25) (ki 3),oo 27<|.mv (.t 5),oo 2<|.mv (.t 26),oo 3<|.mv (.t 27)]
def cQI : C := (.seq (.aH Sh false [] [1]) (.seq (.aH Sg false [] [4,5]) (.seq (.aH Sf false [] [4,5,6]) (.seq (.seq (.aH Se false [] [4,5,6,7]) (.aJ 0 (.loop Tl))) (.seq (.aH Sa false [] [2,3]) .ret)))))
def qQI : eB := ⟨28,1,[.t 2,.t 3],cQI⟩
/- cohesion/sample.Keep$1 -/
def acQ : List O :=[oo 4<|.box (.t 1),oo 5<|.mv (.k (.bool false))]
def acP : List O :=[oo 6<|.ld none (.t 2),oo 7<|.mv (.t 0),oo 8<|.fa 1 (.t 6) (.t 7),oo 9<|.ld none (.t 8),oo 5<|.mv (.t 9)]
def cQJ : C := (.seq (.aH acQ false [] [0,2]) (.seq (.aH acP false [] [5]) .ret))
def qQJ : eB := ⟨10,2,[.t 5],cQJ⟩
/- cohesion/cohesionref03.SameEdges -/
def R9 : List O :=[oo 4<|.mv (.k (.bool false))]
def R8 : List O :=[oo 6<|.mv (.t 0),oo 7<|.len (.t 6),oo 8<|.mv (.t 1),oo 9<|.len (.t 8),oo 10<|.bin .neq (.t 7) (.t 9)]
def R7 : List O :=[oo 4<|.mv (.k (.bool false))]
def R6 : List O :=[oo 11<|.mv (.t 0),oo 12<|.len (.t 11),oo 13<|.mv (ki 0)]
def R5 : List O :=[oo 14<|.bin .lss (.t 13) (.t 12)]
def R4 : List O :=[oo 15<|.mv (.t 13),oo 5<|.mv (.t 15)]
def R3 : List O :=[oo 16<|.mv (.t 0),oo 17<|.mv (.t 5),oo 18<|.fa 2 (.t 16) (.t 17),oo 19<|.ld (some 2) (.t 18),oo 20<|.mv (.t 1),oo 21<|.mv (.t 5),oo 22<|.fa 2 (.t 20) (.t 21),oo 23<|.ld (some 2) (.t 22),oo 24<|.eq true (.str [true,true]) (.t 19) (.t 23)]
def R0 : List O :=[oo 4<|.mv (.k (.bool false))]
def RZ : List O :=[oo 25<|.bin .add (.t 13) (ki 1),oo 13<|.mv (.t 25)]
def Tk : C := (.seq (.aH R5 false [] [0,1,12,13,14]) (.seq (.cond (.t 14) .skip (.exit 0)) (.seq (.aJ 1 (.seq (.aH R4 false [] [0,1,5,12,13]) (.seq (.aH R3 true [(8,8),(3,4),(3,5),(3,6),(0,7),(1,7),(2,7),(3,7)] [0,1,12,13,24]) (.cond (.t 24) (.seq (.aH R0 false [] [4]) .ret) .skip)))) (.aH RZ false [] [0,1,12,13]))))
def RY : List O :=[oo 4<|.mv (.k (.bool true))]
def cQK : C := (.seq (.aH R9 false [] [0,1]) (.seq (.seq (.aH R8 false [] [0,1,10]) (.cond (.t 10) (.seq (.aH R7 false [] [4]) .ret) .skip)) (.seq (.seq (.aH R6 false [] [0,1,12,13]) (.aJ 0 (.loop Tk))) (.seq (.aH RY false [] [4]) .ret))))
def qQK : eB := ⟨26,2,[.t 4],cQK⟩
/- cohesion/sample.wedges -/
def Cp : List O :=[oo 1<|.box (.t 0),oo 2<|.mv (.k (.own 3 []))]
def Co : List O :=[oo 3<|.mv (.k (.own 3 []))]
def Cn : List O :=[oo 10<|.cH 0 (.t 1),oo 11<|.ld none (.t 10),oo 12<|.mv (ki 0)]
def Cm : List O :=[oo 13<|.bin .lss (.t 12) (.t 11)]
def Cl : List O :=[oo 14<|.mv (.t 12),oo 4<|.mv (.t 14)]
def Ck : List O :=[oo 15<|.ld (some 2) (.t 1),oo 16<|.mv (.t 4),oo 17<|.call nQY [.t 15,.t 16],oo 5<|.mv (.t 17)]
def Cj : List O :=[oo 18<|.mv (.t 5),oo 19<|.len (.t 18),oo 20<|.mv (ki 0)]
def Ci : List O :=[oo 21<|.bin .lss (.t 20) (.t 19)]
def Ch : List O :=[oo 22<|.mv (.t 20),oo 23<|.fa 1 (.t 18) (.t 20),oo 24<|.ld none (.t 23),oo 6<|.mv (.t 22),oo 7<|.mv (.t 24)]
def Cg : List O :=[oo 25<|.mv (.t 5),oo 26<|.mv (.t 6),oo 27<|.bin .add (.t 26) (ki 1),oo 28<|.GY 1 (.t 25) (some (.t 27)) none,oo 29<|.len (.t 28),oo 30<|.mv (ki 0)]
def uR : List O :=[oo 31<|.bin .lss (.t 30) (.t 29)]
def uQ : List O :=[oo 32<|.fa 1 (.t 28) (.t 30),oo 33<|.ld none (.t 32),oo 9<|.mv (.t 33)]
def uP : List O :=[oo 34<|.mv (.t 3),oo 35<|.mv (.t 7),oo 36<|.mv (.t 4),oo 37<|.mv (.t 9),oo 38<|.build [.int .i64 0,.int .i64 0,.int .i64 0] [(0,1,.t 35),(1,1,.t 36),(2,1,.t 37)],oo 39<|.c5 3 1 [.int .i64 0,.int .i64 0,.int .i64 0] [(0,3,.t 38)],oo 40<|.app 3 (.t 34) (.t 39),oo 3<|.mv (.t 40)]
def uO : List O :=[oo 41<|.bin .add (.t 30) (ki 1),oo 30<|.mv (.t 41)]
def Tj : C := (.seq (.aH uR false [] [1,3,4,5,7,11,12,18,19,20,28,29,30,31]) (.seq (.cond (.t 31) .skip (.exit 4)) (.seq (.aJ 5 (.seq (.aH uQ false [] [1,3,4,5,7,9,11,12,18,19,20,28,29,30]) (.aH uP false [] [1,3,4,5,7,11,12,18,19,20,28,29,30]))) (.aH uO false [] [1,3,4,5,7,11,12,18,19,20,28,29,30]))))
def uM : List O :=[oo 42<|.bin .add (.t 20) (ki 1),oo 20<|.mv (.t 42)]
def Ti : C := (.seq (.aH Ci false [] [1,3,4,5,11,12,18,19,20,21]) (.seq (.cond (.t 21) .skip (.exit 2)) (.seq (.aJ 3 (.seq (.aH Ch false [] [1,3,4,5,6,7,11,12,18,19,20]) (.seq (.aH Cg false [] [1,3,4,5,7,11,12,18,19,20,28,29,30]) (.aJ 4 (.loop Tj))))) (.aH uM false [] [1,3,4,5,11,12,18,19,20]))))
def uL : List O :=[oo 43<|.bin .add (.t 12) (ki 1),oo 12<|.mv (.t 43)]
def Th : C := (.seq (.aH Cm false [] [1,3,11,12,13]) (.seq (.cond (.t 13) .skip (.exit 0)) (.seq (.aJ 1 (.seq (.aH Cl false [] [1,3,4,11,12]) (.seq (.aH Ck false [] [1,3,4,5,11,12]) (.seq (.aH Cj false [] [1,3,4,5,11,12,18,19,20]) (.aJ 2 (.loop Ti)))))) (.aH uL false [] [1,3,11,12]))))
def uK : List O :=[oo 44<|.mv (.t 3),oo 2<|.mv (.t 44)]
def cQL : C := (.seq (.aH Cp false [] [1]) (.seq (.aH Co false [] [1,3]) (.seq (.seq (.aH Cn false [] [1,3,11,12]) (.aJ 0 (.loop Th))) (.seq (.aH uK false [] [2]) .ret))))
def qQL : eB := ⟨45,1,[.t 2],cQL⟩
/- cohesion/sample.closed -/
def XI : List O :=[oo 2<|.box (.t 0),oo 3<|.box (.t 1),oo 4<|.mv (.k (.bool false))]
def XH : List O :=[oo 5<|.ld (some 2) (.t 2),oo 6<|.He 3 1 (.t 3) (ki 0),oo 7<|.ld none (.t 6),oo 8<|.He 3 1 (.t 3) (ki 2),oo 9<|.ld none (.t 8),oo 10<|.call nQZ [.t 5,.t 7,.t 9],oo 11<|.bin .geq (.t 10) (ki 0),oo 4<|.mv (.t 11)]
def cQM : C := (.seq (.aH XI false [] [2,3]) (.seq (.aH XH false [] [4]) .ret))
def qQM : eB := ⟨12,2,[.t 4],cQM⟩
/- cohesion/ratio.Make -/
def acO : List O :=[oo 4<|.new [.int .i64 0,.int .i64 0],oo 5<|.mv (ki 0)]
def acN : List O :=[oo 7<|.mv (.t 1),oo 8<|.bin .eql (.t 7) (ki 0),oo 6<|.mv (.t 8)]
def acM : List O :=[oo 9<|.build [.int .i64 0,.int .i64 0] [],oz<|.st 2 (.t 4) (.t 9),oo 5<|.mv (ki 2)]
def acL : List O :=[oo 11<|.mv (.t 0),oo 12<|.call nQ0 [.t 11,ki 4611686018427387904],oo 13<|.mv (.t 12),gt 14 13<|.mv (.t 1),gt 15 13<|.call nQ0 [.t 14,ki 4611686018427387904],oo 16<|.pick (.t 13) (.t 15) (.k (.bool false)),oo 10<|.mv (.t 16)]
def acK : List O :=[oo 17<|.mv (.t 0),oo 18<|.mv (.t 1),oo 19<|.call nQ1 [.t 17,.t 18],oo 20<|.ext 0 (.t 19),oo 21<|.ext 1 (.t 19),oz<|.st 2 (.t 4) (.t 20),oo 5<|.mv (.t 21)]
def acJ : List O :=[oo 22<|.mv (.t 0),oo 23<|.call nQ3 [.t 22],oo 24<|.mv (.t 1),oo 25<|.call nQ3 [.t 24],oo 26<|.call nQ2 [.t 23,.t 25],oo 27<|.ext 0 (.t 26),oo 28<|.ext 1 (.t 26),oz<|.st 2 (.t 4) (.t 27),oo 5<|.mv (.t 28)]
def cQN : C := (.seq (.aH acO false [] [0,1,4]) (.seq (.aJ 0 (.seq (.aH acN false [] [0,1,4,6]) (.cond (.t 6) (.seq (.aH acM false [] [4,5]) .ret) (.seq (.aH acL false [] [0,1,4,10]) (.cond (.t 10) (.seq (.aH acK false [] [4,5]) .ret) .skip))))) (.seq (.aH acJ false [] [4,5]) .ret)))
def qQN : eB := ⟨29,2,[.c 4 (some 2),.t 5],cQN⟩
/- cohesion/cohesionref29.Share -/
def XG : List O :=[oo 4<|.new [.int .i64 0,.int .i64 0]]
def XF : List O :=[oo 5<|.mv (.t 1),oo 6<|.bin .eql (.t 5) (ki 0)]
def XE : List O :=[oo 7<|.build [.int .i64 0,.int .i64 0] [(0,1,ki 0),(1,1,ki 1)],oz<|.st 2 (.t 4) (.t 7)]
def XD : List O :=[oo 8<|.mv (.t 0),oo 9<|.mv (.t 1),oo 10<|.call nQ4 [.t 8,.t 9],oz<|.st 2 (.t 4) (.t 10)]
def cQO : C := (.seq (.aH XG false [] [0,1,4]) (.seq (.seq (.aH XF false [] [0,1,4,6]) (.cond (.t 6) (.seq (.aH XE false [] [4]) .ret) .skip)) (.seq (.aH XD false [] [4]) .ret)))
def qQO : eB := ⟨11,2,[.c 4 (some 2)],cQO⟩
/- slices.Clone[[]int,int] -/
def acI : List O :=[oo 2<|.mv (.k (.own 1 []))]
def acH : List O :=[oo 3<|.mv (.t 0),oo 4<|.eq false .Pj (.t 3) (.k (.own 1 []))]
def acG : List O :=[oo 2<|.mv (.k (.own 1 []))]
def acF : List O :=[oo 5<|.c5 1 0 [.int .i64 0] [],oo 6<|.mv (.t 0),oo 7<|.app 1 (.t 5) (.t 6),oo 2<|.mv (.t 7)]
def cQP : C := (.seq (.aH acI false [] [0]) (.seq (.seq (.aH acH false [] [0,4]) (.cond (.t 4) (.seq (.aH acG false [] [2]) .ret) .skip)) (.seq (.aH acF false [] [2]) .ret)))
def qQP : eB := ⟨8,1,[.t 2],cQP⟩
/- cohesion/cohesionref03.Neighbours -/
def Cf : List O :=[oo 2<|.box (.t 0),oo 4<|.mv (.k (.own 1 []))]
def Ce : List O :=[oo 8<|.ld (some 2) (.t 2),oo 9<|.call UC [.t 8],oo 10<|.bin .neq (.t 9) (ki 0)]
def Cd : List O :=[oo 4<|.mv (.k (.own 1 []))]
def Cc : List O :=[oo 5<|.mv (.k (.own 1 []))]
def Cb : List O :=[oo 11<|.cH 1 (.t 2),oo 12<|.ld none (.t 11),oo 13<|.len (.t 12),oo 14<|.mv (ki 0)]
def Ca : List O :=[oo 15<|.bin .lss (.t 14) (.t 13)]
def B9 : List O :=[oo 16<|.fa 2 (.t 12) (.t 14),oo 17<|.ld (some 2) (.t 16),oo 7<|.new [.int .i64 0,.int .i64 0],oz<|.st 2 (.t 7) (.t 17)]
def B8 : List O :=[oo 18<|.cH 0 (.t 7),oo 19<|.ld none (.t 18),oo 20<|.mv (.t 1),oo 21<|.bin .eql (.t 19) (.t 20)]
def B7 : List O :=[oo 22<|.mv (.t 5),oo 23<|.cH 1 (.t 7),oo 24<|.ld none (.t 23),oo 25<|.c5 1 1 [.int .i64 0] [(0,1,.t 24)],oo 26<|.app 1 (.t 22) (.t 25),oo 5<|.mv (.t 26)]
def B6 : List O :=[oo 27<|.cH 1 (.t 7),oo 28<|.ld none (.t 27),oo 29<|.mv (.t 1),oo 30<|.bin .eql (.t 28) (.t 29)]
def uJ : List O :=[oo 31<|.mv (.t 5),oo 32<|.cH 0 (.t 7),oo 33<|.ld none (.t 32),oo 34<|.c5 1 1 [.int .i64 0] [(0,1,.t 33)],oo 35<|.app 1 (.t 31) (.t 34),oo 5<|.mv (.t 35)]
def uI : List O :=[oo 36<|.bin .add (.t 14) (ki 1),oo 14<|.mv (.t 36)]
def M6 : C := (.seq (.aH Ca false [] [1,5,12,13,14,15]) (.seq (.cond (.t 15) .skip (.exit 0)) (.seq (.aJ 1 (.seq (.aH B9 false [] [1,5,7,12,13,14]) (.seq (.seq (.aH B8 false [] [1,5,7,12,13,14,21]) (.cond (.t 21) (.aH B7 false [] [1,5,7,12,13,14]) .skip)) (.seq (.aH B6 false [] [1,5,7,12,13,14,30]) (.cond (.t 30) (.aH uJ false [] [1,5,12,13,14]) .skip))))) (.aH uI false [] [1,5,12,13,14]))))
def uH : List O :=[oo 37<|.mv (.t 5),oo 38<|.call nQ5 [.t 37],oo 4<|.mv (.t 38)]
def cQQ : C := (.seq (.aH Cf false [] [1,2]) (.seq (.seq (.aH Ce false [] [1,2,10]) (.cond (.t 10) (.seq (.aH Cd false [] [4]) .ret) .skip)) (.seq (.aH Cc false [] [1,2,5]) (.seq (.seq (.aH Cb false [] [1,5,12,13,14]) (.aJ 0 (.loop M6))) (.seq (.aH uH false [] [4]) .ret)))))
def qQQ : eB := ⟨39,2,[.t 4],cQQ⟩
/- cohesion/cohesionref03.Find -/
def E1 : List O :=[oo 3<|.box (.t 0),oo 6<|.mv (ki 0)]
def E0 : List O :=[oo 9<|.ld (some 2) (.t 3),oo 10<|.call UC [.t 9],oo 11<|.bin .neq (.t 10) (ki 0)]
def EZ : List O :=[oo 6<|.mv (.k (.int .i64 (-1)))]
def EY : List O :=[oo 12<|.cH 1 (.t 3),oo 13<|.ld none (.t 12),oo 14<|.len (.t 13),oo 15<|.mv (ki 0)]
def EX : List O :=[oo 16<|.bin .lss (.t 15) (.t 14)]
def EW : List O :=[oo 17<|.mv (.t 15),oo 18<|.fa 2 (.t 13) (.t 15),oo 19<|.ld (some 2) (.t 18),oo 8<|.new [.int .i64 0,.int .i64 0],oo 7<|.mv (.t 17),oz<|.st 2 (.t 8) (.t 19)]
def EV : List O :=[oo 20<|.ld (some 2) (.t 8),oo 21<|.mv (.t 1),oo 22<|.mv (.t 2),oo 23<|.call nQ6 [.t 21,.t 22],oo 24<|.eq false (.str [true,true]) (.t 20) (.t 23)]
def EU : List O :=[oo 25<|.mv (.t 7),oo 6<|.mv (.t 25)]
def ET : List O :=[oo 26<|.bin .add (.t 15) (ki 1),oo 15<|.mv (.t 26)]
def IH : C := (.seq (.aH EX false [] [1,2,13,14,15,16]) (.seq (.cond (.t 16) .skip (.exit 0)) (.seq (.aJ 1 (.seq (.aH EW false [] [1,2,7,8,13,14,15]) (.seq (.aH EV true [(4,4),(0,1),(0,2),(0,3)] [1,2,7,13,14,15,24]) (.cond (.t 24) (.seq (.aH EU false [] [6]) .ret) .skip)))) (.aH ET false [] [1,2,13,14,15]))))
def ES : List O :=[oo 6<|.mv (.k (.int .i64 (-1)))]
def cQR : C := (.seq (.aH E1 false [] [1,2,3]) (.seq (.seq (.aH E0 false [] [1,2,3,11]) (.cond (.t 11) (.seq (.aH EZ false [] [6]) .ret) .skip)) (.seq (.seq (.aH EY false [] [1,2,13,14,15]) (.aJ 0 (.loop IH))) (.seq (.aH ES false [] [6]) .ret))))
def qQR : eB := ⟨27,3,[.t 6],cQR⟩
/- slices.Sort[[]int,int] -/
def agj : List O :=[oo 3<|.mv (.t 0),oo 4<|.len (.t 3),oo 2<|.mv (.t 4)]
def agi : List O :=[oo 5<|.mv (.t 0),oo 6<|.mv (.t 2),oo 7<|.mv (.t 2),oo 8<|.De .u64 (.t 7),oo 9<|.call 63 [.t 8],oo 10<|.call 62 [.t 5,ki 0,.t 6,.t 9]]
def cQS : C := (.seq (.aH agj false [] [0,2]) (.aH agi false [] []))
def qQS : eB := ⟨11,1,[],cQS⟩
/- cohesion/graph.Order -/
def acE : List O :=[oo 2<|.box (.t 0),oo 3<|.box (.t 1),oo 4<|.mv (ki 0)]
def acD : List O :=[oo 5<|.cH 0 (.t 2),oo 6<|.ld none (.t 5),oo 7<|.cH 0 (.t 3),oo 8<|.ld none (.t 7),oo 9<|.call VI [.t 6,.t 8],oo 10<|.cH 1 (.t 2),oo 11<|.ld none (.t 10),oo 12<|.cH 1 (.t 3),oo 13<|.ld none (.t 12),oo 14<|.call VI [.t 11,.t 13],oo 15<|.c5 1 2 [.int .i64 0] [(0,1,.t 9),(1,1,.t 14)],oo 16<|.call nQ7 [.t 15],oo 4<|.mv (.t 16)]
def cQT : C := (.seq (.aH acE false [] [2,3]) (.seq (.aH acD true [(9,9),(10,10),(11,11),(12,12),(1,2),(0,3),(1,3),(1,5),(3,5),(4,5),(0,6),(1,6),(2,6),(3,6),(4,6),(1,7),(3,7),(4,7),(6,7),(0,8),(1,8),(2,8),(3,8),(4,8),(5,8),(6,8)] [4]) .ret))
def qQT : eB := ⟨17,2,[.t 4],cQT⟩
/- slices.IndexFunc[[]int,int] -/
def ER : List O :=[oo 4<|.mv (ki 0)]
def EP : List O :=[oo 6<|.mv (.t 0),oo 7<|.len (.t 6),oo 8<|.mv (ki 0)]
def EN : List O :=[oo 9<|.bin .lss (.t 8) (.t 7)]
def EM : List O :=[oo 10<|.mv (.t 8),oo 5<|.mv (.t 10)]
def EL : List O :=[oo 11<|.mv (.t 1),oo 12<|.mv (.t 0),oo 13<|.mv (.t 5),oo 14<|.fa 1 (.t 12) (.t 13),oo 15<|.ld none (.t 14),oo 16<|.jm (.t 11) [.t 15]]
def EK : List O :=[oo 17<|.mv (.t 5),oo 4<|.mv (.t 17)]
def EJ : List O :=[oo 18<|.bin .add (.t 8) (ki 1),oo 8<|.mv (.t 18)]
def FO : C := (.seq (.aH EN false [] [0,1,7,8,9]) (.seq (.cond (.t 9) .skip (.exit 0)) (.seq (.aJ 1 (.seq (.aH EM false [] [0,1,5,7,8]) (.seq (.aH EL false [] [0,1,5,7,8,16]) (.cond (.t 16) (.seq (.aH EK false [] [4]) .ret) .skip)))) (.aH EJ false [] [0,1,7,8]))))
def EI : List O :=[oo 4<|.mv (.k (.int .i64 (-1)))]
def cQU : C := (.seq (.aH ER false [] [0,1]) (.seq (.seq (.aH EP false [] [0,1,7,8]) (.aJ 0 (.loop FO))) (.seq (.aH EI false [] [4]) .ret)))
def qQU : eB := ⟨19,2,[.t 4],cQU⟩
/- cohesion/cohesionref03.Before -/
def Mp : List O :=[oo 2<|.box (.t 0),oo 3<|.box (.t 1),oo 4<|.mv (.k (.bool false))]
def Mo : List O :=[oo 5<|.cH 0 (.t 2),oo 6<|.ld none (.t 5),oo 7<|.cH 0 (.t 3),oo 8<|.ld none (.t 7),oo 9<|.bin .lss (.t 6) (.t 8),oo 10<|.mv (.t 9),gf 11 10<|.cH 0 (.t 2),gf 12 10<|.ld none (.t 11),gf 13 10<|.cH 0 (.t 3),gf 14 10<|.ld none (.t 13),gf 15 10<|.bin .eql (.t 12) (.t 14),gf 16 10<|.mv (.t 15),gt 17 16<|.cH 1 (.t 2),gt 18 16<|.ld none (.t 17),gt 19 16<|.cH 1 (.t 3),gt 20 16<|.ld none (.t 19),gt 21 16<|.bin .lss (.t 18) (.t 20),gf 22 10<|.pick (.t 16) (.t 21) (.k (.bool false)),oo 23<|.pick (.t 10) (.k (.bool true)) (.t 22),oo 4<|.mv (.t 23)]
def cQV : C := (.seq (.aH Mp false [] [2,3]) (.seq (.aH Mo false [] [4]) .ret))
def qQV : eB := ⟨24,2,[.t 4],cQV⟩
/- cohesion/triangles.counts -/
def Ig : List O :=[oo 1<|.box (.t 0),oo 2<|.mv (ki 0),oo 3<|.mv (.k (.own 1 []))]
def Ie : List O :=[oo 11<|.ld (some 2) (.t 1),oo 12<|.call nQ9 [.t 11],oo 4<|.mv (.t 12)]
def Ic : List O :=[oo 13<|.cH 0 (.t 1),oo 14<|.ld none (.t 13),oo 15<|.KF 1 [.int .i64 0] (.t 14) (.t 14),oo 5<|.mv (ki 0),oo 6<|.mv (.t 15)]
def Ib : List O :=[oo 16<|.cH 1 (.t 1),oo 17<|.ld none (.t 16),oo 18<|.len (.t 17),oo 19<|.mv (ki 0)]
def Ia : List O :=[oo 20<|.bin .lss (.t 19) (.t 18)]
def H9 : List O :=[oo 21<|.fa 2 (.t 17) (.t 19),oo 22<|.ld (some 2) (.t 21),oo 8<|.new [.int .i64 0,.int .i64 0],oz<|.st 2 (.t 8) (.t 22)]
def H8 : List O :=[oo 23<|.mv (.t 4),oo 24<|.cH 0 (.t 8),oo 25<|.ld none (.t 24),oo 26<|.fa 1 (.t 23) (.t 25),oo 27<|.ld none (.t 26),oo 28<|.mv (.t 4),oo 29<|.cH 1 (.t 8),oo 30<|.ld none (.t 29),oo 31<|.fa 1 (.t 28) (.t 30),oo 32<|.ld none (.t 31),oo 33<|.call PF [.t 27,.t 32],oo 34<|.len (.t 33),oo 35<|.mv (ki 0)]
def H7 : List O :=[oo 36<|.bin .lss (.t 35) (.t 34)]
def H6 : List O :=[oo 37<|.fa 1 (.t 33) (.t 35),oo 38<|.ld none (.t 37),oo 10<|.mv (.t 38)]
def H5 : List O :=[oo 39<|.mv (.t 6),oo 40<|.mv (.t 10),oo 41<|.fa 1 (.t 39) (.t 40),oo 42<|.ld none (.t 41),oo 43<|.bin .add (.t 42) (ki 1),oo 44<|.fa 1 (.t 39) (.t 40),oz<|.st 1 (.t 44) (.t 43)]
def AQ : List O :=[oo 45<|.mv (.t 5),oo 46<|.bin .add (.t 45) (ki 1),oo 5<|.mv (.t 46)]
def AP : List O :=[oo 47<|.bin .add (.t 35) (ki 1),oo 35<|.mv (.t 47)]
def M5 : C := (.seq (.aH H7 false [] [4,5,6,17,18,19,33,34,35,36]) (.seq (.cond (.t 36) .skip (.exit 2)) (.seq (.aJ 3 (.seq (.aH H6 false [] [4,5,6,10,17,18,19,33,34,35]) (.seq (.aH H5 false [] [4,5,6,17,18,19,33,34,35]) (.aH AQ false [] [4,5,6,17,18,19,33,34,35])))) (.aH AP false [] [4,5,6,17,18,19,33,34,35]))))
def AO : List O :=[oo 48<|.bin .add (.t 19) (ki 1),oo 19<|.mv (.t 48)]
def M4 : C := (.seq (.aH Ia false [] [4,5,6,17,18,19,20]) (.seq (.cond (.t 20) .skip (.exit 0)) (.seq (.aJ 1 (.seq (.aH H9 false [] [4,5,6,8,17,18,19]) (.seq (.aH H8 true [(0,2),(2,5),(4,5),(2,6),(4,6),(0,7),(1,7),(2,7),(3,7),(4,7),(5,7),(2,8),(4,8),(0,9),(1,9),(2,9),(3,9),(4,9),(2,12),(4,12),(7,12),(9,12),(10,12)] [4,5,6,17,18,19,33,34,35]) (.aJ 2 (.loop M5))))) (.aH AO false [] [4,5,6,17,18,19]))))
def AN : List O :=[oo 49<|.mv (.t 5),oo 50<|.bin .quo (.t 49) (ki 3),oo 51<|.mv (.t 6),oo 2<|.mv (.t 50),oo 3<|.mv (.t 51)]
def cQW : C := (.seq (.aH Ig false [] [1]) (.seq (.aH Ie false [] [1,4]) (.seq (.aH Ic true [(4,4),(1,3)] [1,4,5,6]) (.seq (.seq (.aH Ib false [] [4,5,6,17,18,19]) (.aJ 0 (.loop M4))) (.seq (.aH AN false [] [2,3]) .ret)))))
def qQW : eB := ⟨52,1,[.t 2,.t 3],cQW⟩
/- cohesion/cohesionref29.Nodes -/
def H0 : List O :=[oo 1<|.box (.t 0),oo 2<|.mv (.k (.own 1 [])),oo 3<|.mv (ki 0)]
def HZ : List O :=[oo 9<|.ld (some 2) (.t 1),oo 10<|.call UC [.t 9],oo 4<|.mv (.t 10)]
def HY : List O :=[oo 11<|.mv (.t 4),oo 12<|.bin .neq (.t 11) (ki 0)]
def HX : List O :=[oo 13<|.mv (.t 4),oo 2<|.mv (.k (.own 1 [])),oo 3<|.mv (.t 13)]
def HV : List O :=[oo 14<|.cH 0 (.t 1),oo 15<|.ld none (.t 14),oo 16<|.KF 1 [.int .i64 0] (.t 15) (.t 15),oo 5<|.mv (.t 16)]
def HU : List O :=[oo 6<|.mv (ki 0)]
def HT : List O :=[oo 17<|.mv (.t 6),oo 18<|.cH 1 (.t 1),oo 19<|.ld none (.t 18),oo 20<|.len (.t 19),oo 21<|.bin .lss (.t 17) (.t 20)]
def HS : List O :=[oo 24<|.ld (some 2) (.t 1),oo 25<|.cH 1 (.t 1),oo 26<|.ld none (.t 25),oo 27<|.mv (.t 6),oo 28<|.fa 2 (.t 26) (.t 27),oo 29<|.cH 0 (.t 28),oo 30<|.ld none (.t 29),oo 31<|.cH 1 (.t 1),oo 32<|.ld none (.t 31),oo 33<|.mv (.t 6),oo 34<|.fa 2 (.t 32) (.t 33),oo 35<|.cH 1 (.t 34),oo 36<|.ld none (.t 35),oo 37<|.call PE [.t 24,.t 30,.t 36],oo 7<|.mv (.t 37)]
def HR : List O :=[oo 8<|.mv (ki 0)]
def HQ : List O :=[oo 38<|.mv (.t 8),oo 39<|.mv (.t 7),oo 40<|.len (.t 39),oo 41<|.bin .lss (.t 38) (.t 40)]
def AM : List O :=[oo 44<|.mv (.t 5),oo 45<|.mv (.t 7),oo 46<|.mv (.t 8),oo 47<|.fa 1 (.t 45) (.t 46),oo 48<|.ld none (.t 47),oo 49<|.fa 1 (.t 44) (.t 48),oo 50<|.ld none (.t 49),oo 51<|.bin .add (.t 50) (ki 1),oo 52<|.fa 1 (.t 44) (.t 48),oz<|.st 1 (.t 52) (.t 51)]
def AL : List O :=[oo 42<|.mv (.t 8),oo 43<|.bin .add (.t 42) (ki 1),oo 8<|.mv (.t 43)]
def M3 : C := (.seq (.seq (.aH HQ false [] [1,5,6,7,8,41]) (.cond (.t 41) .skip (.exit 2))) (.seq (.aJ 3 (.aH AM false [] [1,5,6,7,8])) (.aH AL false [] [1,5,6,7,8])))
def AK : List O :=[oo 22<|.mv (.t 6),oo 23<|.bin .add (.t 22) (ki 1),oo 6<|.mv (.t 23)]
def Tg : C := (.seq (.seq (.aH HT false [] [1,5,6,21]) (.cond (.t 21) .skip (.exit 0))) (.seq (.aJ 1 (.seq (.aH HS true [(13,13),(14,14),(0,1),(0,2),(0,3),(2,3),(0,4),(0,5),(0,6),(0,7),(2,7),(6,7),(0,8),(1,8),(2,8),(3,8),(4,8),(5,8),(6,8),(0,9),(2,9),(6,9),(8,9),(0,10),(2,10),(6,10),(0,11),(2,11),(6,11),(0,12),(1,12),(2,12),(3,12),(4,12),(5,12),(6,12)] [1,5,6,7]) (.seq (.aH HR false [] [1,5,6,7,8]) (.aJ 2 (.loop M3))))) (.aH AK false [] [1,5,6])))
def AJ : List O :=[oo 53<|.mv (.t 5),oo 2<|.mv (.t 53),oo 3<|.mv (ki 0)]
def cQX : C := (.seq (.aH H0 false [] [1]) (.seq (.seq (.aH HZ false [] [1,4]) (.seq (.aH HY false [] [1,4,12]) (.cond (.t 12) (.seq (.aH HX false [] [2,3]) .ret) .skip))) (.seq (.aH HV false [] [1,5]) (.seq (.seq (.aH HU false [] [1,5,6]) (.aJ 0 (.loop Tg))) (.seq (.aH AJ false [] [2,3]) .ret)))))
def qQX : eB := ⟨54,1,[.t 2,.t 3],cQX⟩
/- cohesion/graph.Neighbours -/
def acC : List O :=[oo 2<|.box (.t 0),oo 4<|.mv (.k (.own 1 []))]
def acB : List O :=[oo 5<|.ld (some 2) (.t 2),oo 6<|.mv (.t 1),oo 7<|.call PC [.t 5,.t 6],oo 8<|.call PD [.t 7],oo 4<|.mv (.t 8)]
def cQY : C := (.seq (.aH acC false [] [1,2]) (.seq (.aH acB false [] [4]) .ret))
def qQY : eB := ⟨9,2,[.t 4],cQY⟩
/- cohesion/graph.Find -/
def XC : List O :=[oo 3<|.box (.t 0),oo 6<|.mv (ki 0)]
def XB : List O :=[oo 10<|.ld (some 2) (.t 3),oo 11<|.mv (.t 1),oo 12<|.mv (.t 2),oo 13<|.call PB [.t 10,.t 11,.t 12],oo 9<|.mv (.t 13),oo 14<|.ext 0 (.t 9),oo 15<|.ext 1 (.t 9),oo 7<|.mv (.t 14),oo 8<|.mv (.t 15)]
def XA : List O :=[oo 16<|.mv (.t 8),oo 17<|.mv (.t 16),gt 18 17<|.ld (some 2) (.t 3),gt 19 17<|.call UE [.t 18],gt 20 17<|.bin .eql (.t 19) (ki 0),oo 21<|.pick (.t 17) (.t 20) (.k (.bool false))]
def Xz : List O :=[oo 22<|.mv (.t 7),oo 6<|.mv (.t 22)]
def Xy : List O :=[oo 6<|.mv (.k (.int .i64 (-1)))]
def cQZ : C := (.seq (.aH XC false [] [1,2,3]) (.seq (.seq (.aH XB false [] [3,7,8]) (.seq (.aH XA false [] [7,21]) (.cond (.t 21) (.seq (.aH Xz false [] [6]) .ret) .skip))) (.seq (.aH Xy false [] [6]) .ret)))
def qQZ : eB := ⟨23,3,[.t 6],cQZ⟩
/- cohesion/ratio.within -/
def ade : List O :=[oo 4<|.mv (.k (.bool false))]
def adb : List O :=[oo 5<|.mv (.t 0),oo 6<|.mv (.t 1),oo 7<|.un .neg (.t 6),oo 8<|.bin .geq (.t 5) (.t 7),oo 9<|.mv (.t 8),gt 10 9<|.mv (.t 0),gt 11 9<|.mv (.t 1),gt 12 9<|.bin .leq (.t 10) (.t 11),oo 13<|.pick (.t 9) (.t 12) (.k (.bool false)),oo 4<|.mv (.t 13)]
def cQ0 : C := (.seq (.aH ade false [] [0,1]) (.seq (.aH adb false [] [4]) .ret))
def qQ0 : eB := ⟨14,2,[.t 4],cQ0⟩
/- cohesion/ratio.lowest -/
def ada : List O :=[oo 4<|.new [.int .i64 0,.int .i64 0],oo 5<|.mv (ki 0)]
def ac9 : List O :=[oo 7<|.mv (.t 1),oo 8<|.bin .lss (.t 7) (ki 0)]
def ac8 : List O :=[oo 9<|.mv (.t 0),oo 10<|.un .neg (.t 9),oo 11<|.mv (.t 1),oo 12<|.un .neg (.t 11),oo 0<|.mv (.t 10),oo 1<|.mv (.t 12)]
def ac7 : List O :=[oo 13<|.mv (.t 0),oo 14<|.mv (.t 0),oo 15<|.un .neg (.t 14),oo 16<|.max [.t 13,.t 15],oo 17<|.mv (.t 1),oo 18<|.call PA [.t 16,.t 17],oo 6<|.mv (.t 18)]
def ac6 : List O :=[oo 19<|.mv (.t 0),oo 20<|.mv (.t 6),oo 21<|.bin .quo (.t 19) (.t 20),oo 22<|.mv (.t 1),oo 23<|.mv (.t 6),oo 24<|.bin .quo (.t 22) (.t 23),oo 25<|.build [.int .i64 0,.int .i64 0] [(0,1,.t 21),(1,1,.t 24)],oo 26<|.call MG [.t 25],oo 27<|.ext 0 (.t 26),oo 28<|.ext 1 (.t 26),oz<|.st 2 (.t 4) (.t 27),oo 5<|.mv (.t 28)]
def cQ1 : C := (.seq (.aH ada false [] [0,1,4]) (.seq (.seq (.aH ac9 false [] [0,1,4,8]) (.cond (.t 8) (.aH ac8 false [] [0,1,4]) .skip)) (.seq (.aH ac7 false [] [0,1,4,6]) (.seq (.aH ac6 true [(6,6),(7,7),(10,10),(11,11)] [4,5]) .ret))))
def qQ1 : eB := ⟨29,2,[.c 4 (some 2),.t 5],cQ1⟩
/- cohesion/ratio.exact -/
def agu : List O :=[oo 2<|.box (.t 0),oo 3<|.box (.t 1),oo 4<|.new [.int .i64 0,.int .i64 0],oo 5<|.mv (ki 0)]
def agt : List O :=[oo 11<|.ld (some 3) (.t 2),oo 12<|.ld (some 3) (.t 3),oo 13<|.call nQa7 [.t 11,.t 12],oo 6<|.new [.int .u64 0,.int .u64 0,.bool false],oz<|.st 3 (.t 6) (.t 13)]
def ags : List O :=[oo 15<|.ld (some 3) (.t 2),oo 16<|.ld (some 3) (.t 6),oo 17<|.call nQa8 [.t 15,.t 16],oo 14<|.mv (.t 17),oo 18<|.ext 0 (.t 14),oo 19<|.ext 1 (.t 14),oo 7<|.mv (.t 18),oo 8<|.mv (.t 19)]
def agr : List O :=[oo 21<|.ld (some 3) (.t 3),oo 22<|.ld (some 3) (.t 6),oo 23<|.call nQa8 [.t 21,.t 22],oo 20<|.mv (.t 23),oo 24<|.ext 0 (.t 20),oo 25<|.ext 1 (.t 20),oo 9<|.mv (.t 24),oo 10<|.mv (.t 25)]
def agq : List O :=[oo 26<|.mv (.t 8),oo 27<|.un .not (.t 26),oo 28<|.mv (.t 27),gf 29 28<|.mv (.t 10),gf 30 28<|.un .not (.t 29),oo 31<|.pick (.t 28) (.k (.bool true)) (.t 30)]
def agp : List O :=[oo 32<|.build [.int .i64 0,.int .i64 0] [],oz<|.st 2 (.t 4) (.t 32),oo 5<|.mv (ki 3)]
def ago : List O :=[oo 33<|.ld (some 3) (.t 2),oo 34<|.call nQa9 [.t 33],oo 35<|.ld (some 3) (.t 3),oo 36<|.call nQa9 [.t 35],oo 37<|.eq true .bool (.t 34) (.t 36)]
def agn : List O :=[oo 38<|.mv (.t 7),oo 39<|.un .neg (.t 38),oo 7<|.mv (.t 39)]
def agm : List O :=[oo 40<|.mv (.t 7),oo 41<|.mv (.t 9),oo 42<|.build [.int .i64 0,.int .i64 0] [(0,1,.t 40),(1,1,.t 41)],oo 43<|.call MG [.t 42],oo 44<|.ext 0 (.t 43),oo 45<|.ext 1 (.t 43),oz<|.st 2 (.t 4) (.t 44),oo 5<|.mv (.t 45)]
def cQ2 : C := (.seq (.aH agu false [] [2,3,4]) (.seq (.aH agt false [] [2,3,4,6]) (.seq (.aH ags false [] [2,3,4,6,7,8]) (.seq (.aH agr false [] [2,3,4,7,8,9,10]) (.seq (.seq (.aH agq false [] [2,3,4,7,9,31]) (.cond (.t 31) (.seq (.aH agp false [] [4,5]) .ret) .skip)) (.seq (.seq (.aH ago true [(3,3),(4,4),(0,2),(1,2)] [4,7,9,37]) (.cond (.t 37) (.aH agn false [] [4,7,9]) .skip)) (.seq (.aH agm false [] [4,5]) .ret)))))))
def qQ2 : eB := ⟨46,2,[.c 4 (some 2),.t 5],cQ2⟩
/- cohesion/wide.Of -/
def agl : List O :=[oo 2<|.new [.int .u64 0,.int .u64 0,.bool false]]
def agk : List O :=[oo 3<|.mv (.t 0),oo 4<|.call nQb0 [.t 3],oo 5<|.mv (.t 0),oo 6<|.bin .lss (.t 5) (ki 0),oo 7<|.build [.int .u64 0,.int .u64 0,.bool false] [(1,1,.t 4),(2,1,.t 6)],oz<|.st 3 (.t 2) (.t 7)]
def cQ3 : C := (.seq (.aH agl false [] [0,2]) (.seq (.aH agk false [] [2]) .ret))
def qQ3 : eB := ⟨8,1,[.c 2 (some 3)],cQ3⟩
/- cohesion/cohesionref01.Of -/
def ac5 : List O :=[oo 4<|.new [.int .i64 0,.int .i64 0]]
def ac4 : List O :=[oo 8<|.mv (.t 0),oo 9<|.mv (.t 1),oo 10<|.call Pz [.t 8,.t 9],oo 7<|.mv (.t 10),oo 11<|.ext 0 (.t 7),oo 12<|.ext 1 (.t 7),oo 5<|.new [.int .i64 0,.int .i64 0],oz<|.st 2 (.t 5) (.t 11),oo 6<|.mv (.t 12)]
def ac3 : List O :=[oo 13<|.ld (some 2) (.t 5),oz<|.st 2 (.t 4) (.t 13)]
def cQ4 : C := (.seq (.aH ac5 false [] [0,1,4]) (.seq (.aH ac4 false [] [4,5]) (.seq (.aH ac3 false [] [4]) .ret)))
def qQ4 : eB := ⟨14,2,[.c 4 (some 2)],cQ4⟩
/- cohesion/cohesionref02.Of -/
def Fa : List O :=[oo 2<|.mv (.k (.own 1 []))]
def E9 : List O :=[oo 3<|.mv (.k (.own 1 []))]
def E8 : List O :=[oo 6<|.mv (.t 0),oo 7<|.len (.t 6),oo 8<|.mv (ki 0)]
def E7 : List O :=[oo 9<|.bin .lss (.t 8) (.t 7)]
def E6 : List O :=[oo 10<|.fa 1 (.t 6) (.t 8),oo 11<|.ld none (.t 10),oo 5<|.mv (.t 11)]
def E5 : List O :=[oo 12<|.mv (.t 3),oo 13<|.mv (.t 5),oo 14<|.call Py [.t 12,.t 13],oo 3<|.mv (.t 14)]
def E4 : List O :=[oo 15<|.bin .add (.t 8) (ki 1),oo 8<|.mv (.t 15)]
def FP : C := (.seq (.aH E7 false [] [3,6,7,8,9]) (.seq (.cond (.t 9) .skip (.exit 0)) (.seq (.aJ 1 (.seq (.aH E6 false [] [3,5,6,7,8]) (.aH E5 false [] [3,6,7,8]))) (.aH E4 false [] [3,6,7,8]))))
def E3 : List O :=[oo 16<|.mv (.t 3),oo 2<|.mv (.t 16)]
def cQ5 : C := (.seq (.aH Fa false [] [0]) (.seq (.aH E9 false [] [0,3]) (.seq (.seq (.aH E8 false [] [3,6,7,8]) (.aJ 0 (.loop FP))) (.seq (.aH E3 false [] [2]) .ret))))
def qQ5 : eB := ⟨17,1,[.t 2],cQ5⟩
/- cohesion/cohesionref03.edge -/
def ac2 : List O :=[oo 4<|.new [.int .i64 0,.int .i64 0]]
def ac1 : List O :=[oo 5<|.mv (.t 0),oo 6<|.mv (.t 1),oo 7<|.min [.t 5,.t 6],oo 8<|.mv (.t 0),oo 9<|.mv (.t 1),oo 10<|.max [.t 8,.t 9],oo 11<|.build [.int .i64 0,.int .i64 0] [(0,1,.t 7),(1,1,.t 10)],oz<|.st 2 (.t 4) (.t 11)]
def cQ6 : C := (.seq (.aH ac2 false [] [0,1,4]) (.seq (.aH ac1 false [] [4]) .ret))
def qQ6 : eB := ⟨12,2,[.c 4 (some 2)],cQ6⟩
/- cmp.Or[int] -/
def u4 : List O :=[oo 2<|.mv (ki 0)]
def uZ : List O :=[oo 3<|.mv (ki 0)]
def uY : List O :=[oo 6<|.mv (.t 0),oo 7<|.len (.t 6),oo 8<|.mv (ki 0)]
def uX : List O :=[oo 9<|.bin .lss (.t 8) (.t 7)]
def uW : List O :=[oo 10<|.fa 1 (.t 6) (.t 8),oo 11<|.ld none (.t 10),oo 5<|.mv (.t 11)]
def uV : List O :=[oo 12<|.mv (.t 5),oo 13<|.mv (.t 3),oo 14<|.bin .neq (.t 12) (.t 13)]
def uU : List O :=[oo 15<|.mv (.t 5),oo 2<|.mv (.t 15)]
def uT : List O :=[oo 16<|.bin .add (.t 8) (ki 1),oo 8<|.mv (.t 16)]
def zP : C := (.seq (.aH uX false [] [3,6,7,8,9]) (.seq (.cond (.t 9) .skip (.exit 0)) (.seq (.aJ 1 (.seq (.aH uW false [] [3,5,6,7,8]) (.seq (.aH uV false [] [3,5,6,7,8,14]) (.cond (.t 14) (.seq (.aH uU false [] [2]) .ret) .skip)))) (.aH uT false [] [3,6,7,8]))))
def uS : List O :=[oo 17<|.mv (.t 3),oo 2<|.mv (.t 17)]
def cQ7 : C := (.seq (.aH u4 false [] [0]) (.seq (.aH uZ false [] [0,3]) (.seq (.seq (.aH uY false [] [3,6,7,8]) (.aJ 0 (.loop zP))) (.seq (.aH uS false [] [2]) .ret))))
def qQ7 : eB := ⟨18,1,[.t 2],cQ7⟩
/- cmp.Compare[int] -/
def Sv : List O :=[oo 4<|.mv (ki 0)]
def Su : List O :=[oo 7<|.mv (.t 0),oo 8<|.call MF [.t 7],oo 5<|.mv (.t 8)]
def Ss : List O :=[oo 9<|.mv (.t 1),oo 10<|.call MF [.t 9],oo 6<|.mv (.t 10)]
def Sr : List O :=[oo 11<|.mv (.t 5)]
def Sq : List O :=[oo 12<|.mv (.t 6)]
def Sp : List O :=[oo 4<|.mv (ki 0)]
def Sn : List O :=[oo 4<|.mv (.k (.int .i64 (-1)))]
def Sm : List O :=[oo 13<|.mv (.t 6)]
def Sl : List O :=[oo 4<|.mv (ki 1)]
def Sk : List O :=[oo 14<|.mv (.t 0),oo 15<|.mv (.t 1),oo 16<|.bin .lss (.t 14) (.t 15)]
def Kr : List O :=[oo 4<|.mv (.k (.int .i64 (-1)))]
def Kq : List O :=[oo 17<|.mv (.t 0),oo 18<|.mv (.t 1),oo 19<|.bin .gtr (.t 17) (.t 18)]
def Kp : List O :=[oo 4<|.mv (ki 1)]
def Ko : List O :=[oo 4<|.mv (ki 0)]
def cQ8 : C := (.seq (.aH Sv false [] [0,1]) (.seq (.aH Su false [] [0,1,5]) (.seq (.aH Ss false [] [0,1,5,6]) (.seq (.seq (.aH Sr false [] [0,1,6,11]) (.cond (.t 11) (.seq (.seq (.aH Sq false [] [12]) (.cond (.t 12) (.seq (.aH Sp false [] [4]) .ret) .skip)) (.seq (.aH Sn false [] [4]) .ret)) .skip)) (.seq (.seq (.aH Sm false [] [0,1,13]) (.cond (.t 13) (.seq (.aH Sl false [] [4]) .ret) .skip)) (.seq (.seq (.aH Sk false [] [0,1,16]) (.cond (.t 16) (.seq (.aH Kr false [] [4]) .ret) .skip)) (.seq (.seq (.aH Kq false [] [19]) (.cond (.t 19) (.seq (.aH Kp false [] [4]) .ret) .skip)) (.seq (.aH Ko false [] [4]) .ret))))))))
def qQ8 : eB := ⟨20,2,[.t 4],cQ8⟩
/- cohesion/triangles.lists -/
def Im : List O :=[oo 1<|.box (.t 0),oo 2<|.mv (.k (.own 1 []))]
def Il : List O :=[oo 8<|.cH 0 (.t 1),oo 9<|.ld none (.t 8),oo 10<|.KF 1 [.own 1001 []] (.t 9) (.t 9),oo 3<|.mv (.t 10)]
def Ik : List O :=[oo 11<|.cH 1 (.t 1),oo 12<|.ld none (.t 11),oo 13<|.len (.t 12),oo 14<|.mv (ki 0)]
def Cu : List O :=[oo 15<|.bin .lss (.t 14) (.t 13)]
def Ct : List O :=[oo 16<|.fa 2 (.t 12) (.t 14),oo 17<|.ld (some 2) (.t 16),oo 5<|.new [.int .i64 0,.int .i64 0],oz<|.st 2 (.t 5) (.t 17)]
def Cr : List O :=[oo 18<|.mv (.t 3),oo 19<|.cH 0 (.t 5),oo 20<|.ld none (.t 19),oo 21<|.mv (.t 3),oo 22<|.cH 1 (.t 5),oo 23<|.ld none (.t 22),oo 24<|.mv (.t 3),oo 25<|.cH 0 (.t 5),oo 26<|.ld none (.t 25),oo 27<|.fa 1 (.t 24) (.t 26),oo 28<|.ld none (.t 27),oo 29<|.cH 1 (.t 5),oo 30<|.ld none (.t 29),oo 31<|.c5 1 1 [.int .i64 0] [(0,1,.t 30)],oo 32<|.app 1 (.t 28) (.t 31),oo 33<|.mv (.t 3),oo 34<|.cH 1 (.t 5),oo 35<|.ld none (.t 34),oo 36<|.fa 1 (.t 33) (.t 35),oo 37<|.ld none (.t 36),oo 38<|.cH 0 (.t 5),oo 39<|.ld none (.t 38),oo 40<|.c5 1 1 [.int .i64 0] [(0,1,.t 39)],oo 41<|.app 1 (.t 37) (.t 40),oo 42<|.fa 1 (.t 18) (.t 20),oz<|.st 1 (.t 42) (.t 32),oo 43<|.fa 1 (.t 21) (.t 23),oz<|.st 1 (.t 43) (.t 41)]
def Cq : List O :=[oo 44<|.bin .add (.t 14) (ki 1),oo 14<|.mv (.t 44)]
def M8 : C := (.seq (.aH Cu false [] [3,12,13,14,15]) (.seq (.cond (.t 15) .skip (.exit 0)) (.seq (.aJ 1 (.seq (.aH Ct false [] [3,5,12,13,14]) (.aH Cr true [(26,26),(27,27),(0,2),(2,3),(2,4),(0,5),(1,5),(2,5),(3,5),(2,6),(5,6),(2,7),(5,7),(0,8),(1,8),(2,8),(3,8),(4,8),(5,8),(6,8),(2,9),(5,9),(0,10),(1,10),(2,10),(3,10),(4,10),(5,10),(2,11),(5,11),(8,11),(10,11),(0,12),(1,12),(2,12),(3,12),(4,12),(5,12),(6,12),(7,12),(8,12),(9,12),(10,12),(0,13),(1,13),(2,13),(3,13),(4,13),(5,13),(6,13),(7,13),(8,13),(9,13),(10,13),(0,14),(1,14),(2,14),(3,14),(4,14),(5,14),(2,15),(5,15),(8,15),(10,15),(12,15),(13,15),(14,15),(2,16),(5,16),(8,16),(10,16),(12,16),(13,16),(14,16),(0,17),(1,17),(2,17),(3,17),(4,17),(5,17),(6,17),(7,17),(8,17),(9,17),(10,17),(11,17),(12,17),(13,17),(14,17),(15,17),(2,18),(5,18),(8,18),(10,18),(12,18),(13,18),(14,18),(0,19),(1,19),(2,19),(3,19),(4,19),(5,19),(6,19),(7,19),(8,19),(9,19),(10,19),(11,19),(12,19),(13,19),(14,19),(2,20),(5,20),(8,20),(10,20),(12,20),(13,20),(14,20),(17,20),(19,20),(0,21),(1,21),(2,21),(3,21),(4,21),(5,21),(6,21),(7,21),(8,21),(9,21),(10,21),(11,21),(12,21),(13,21),(14,21),(15,21),(16,21),(17,21),(18,21),(19,21),(0,22),(1,22),(2,22),(3,22),(4,22),(5,22),(6,22),(7,22),(8,22),(9,22),(10,22),(11,22),(12,22),(13,22),(14,22),(15,22),(16,22),(17,22),(18,22),(19,22),(0,23),(1,23),(2,23),(3,23),(4,23),(5,23),(5,24),(3,25),(4,25),(5,25)] [3,12,13,14]))) (.aH Cq false [] [3,12,13,14]))))
def Ij : List O :=[oo 45<|.mv (.t 3),oo 46<|.len (.t 45),oo 47<|.mv (ki 0)]
def Ii : List O :=[oo 48<|.bin .lss (.t 47) (.t 46)]
def Ih : List O :=[oo 49<|.fa 1 (.t 45) (.t 47),oo 50<|.ld none (.t 49),oo 7<|.mv (.t 50)]
def AW : List O :=[oo 51<|.mv (.t 7),oo 52<|.call nQS [.t 51]]
def AU : List O :=[oo 53<|.bin .add (.t 47) (ki 1),oo 47<|.mv (.t 53)]
def M7 : C := (.seq (.aH Ii false [] [3,45,46,47,48]) (.seq (.cond (.t 48) .skip (.exit 2)) (.seq (.aJ 3 (.seq (.aH Ih false [] [3,7,45,46,47]) (.aH AW false [] [3,45,46,47]))) (.aH AU false [] [3,45,46,47]))))
def AR : List O :=[oo 54<|.mv (.t 3),oo 2<|.mv (.t 54)]
def cQ9 : C := (.seq (.aH Im false [] [1]) (.seq (.aH Il false [] [1,3]) (.seq (.seq (.aH Ik false [] [3,12,13,14]) (.aJ 0 (.loop M8))) (.seq (.seq (.aH Ij false [] [3,45,46,47]) (.aJ 2 (.loop M7))) (.seq (.aH AR false [] [2]) .ret)))))
def qQ9 : eB := ⟨55,1,[.t 2],cQ9⟩
/- cohesion/triangles.shared[int] -/
def x8 : List O :=[oo 4<|.mv (.k (.own 1 []))]
def x7 : List O :=[oo 5<|.mv (.k (.own 1 []))]
def xZ : List O :=[oo 6<|.mv (.t 0),oo 7<|.len (.t 6),oo 8<|.bin .gtr (.t 7) (ki 0),oo 9<|.mv (.t 8),gt 10 9<|.mv (.t 1),gt 11 9<|.len (.t 10),gt 12 9<|.bin .gtr (.t 11) (ki 0),oo 13<|.pick (.t 9) (.t 12) (.k (.bool false))]
def xY : List O :=[oo 14<|.mv (.t 0),oo 15<|.fa 1 (.t 14) (ki 0),oo 16<|.ld none (.t 15),oo 17<|.mv (.t 1),oo 18<|.fa 1 (.t 17) (ki 0),oo 19<|.ld none (.t 18),oo 20<|.call VI [.t 16,.t 19]]
def xX : List O :=[oo 32<|.bin .eql (.t 20) (.k (.int .i64 (-1))),oo 31<|.mv (.t 32)]
def xW : List O :=[oo 33<|.mv (.t 0),oo 34<|.GY 1 (.t 33) (some (ki 1)) none,oo 0<|.mv (.t 34)]
def xV : List O :=[oo 36<|.bin .eql (.t 20) (ki 1),oo 35<|.mv (.t 36)]
def xU : List O :=[oo 37<|.mv (.t 1),oo 38<|.GY 1 (.t 37) (some (ki 1)) none,oo 1<|.mv (.t 38)]
def xT : List O :=[oo 21<|.mv (.t 5),oo 22<|.mv (.t 0),oo 23<|.fa 1 (.t 22) (ki 0),oo 24<|.ld none (.t 23),oo 25<|.c5 1 1 [.int .i64 0] [(0,1,.t 24)],oo 26<|.app 1 (.t 21) (.t 25),oo 5<|.mv (.t 26)]
def xS : List O :=[oo 27<|.mv (.t 0),oo 28<|.GY 1 (.t 27) (some (ki 1)) none,oo 29<|.mv (.t 1),oo 30<|.GY 1 (.t 29) (some (ki 1)) none,oo 0<|.mv (.t 28),oo 1<|.mv (.t 30)]
def qT : C := (.seq (.seq (.aH xZ false [] [0,1,5,13]) (.cond (.t 13) .skip (.exit 0))) (.aJ 1 (.seq (.aH xY true [(6,6),(2,3),(2,4),(0,5),(1,5),(2,5)] [0,1,5,20]) (.aJ 2 (.seq (.aH xX false [] [0,1,5,20,31]) (.cond (.t 31) (.aH xW false [] [0,1,5]) (.seq (.aH xV false [] [0,1,5,35]) (.cond (.t 35) (.aH xU false [] [0,1,5]) (.seq (.aH xT false [] [0,1,5]) (.aH xS true [(5,5)] [0,1,5]))))))))))
def sN : List O :=[oo 39<|.mv (.t 5),oo 4<|.mv (.t 39)]
def cQa0 : C := (.seq (.aH x8 false [] [0,1]) (.seq (.aH x7 false [] [0,1,5]) (.seq (.aJ 0 (.loop qT)) (.seq (.aH sN false [] [4]) .ret))))
def qQa0 : eB := ⟨40,2,[.t 4],cQa0⟩
/- cohesion/cohesionref03.Common -/
def Xx : List O :=[oo 3<|.box (.t 0),oo 6<|.mv (.k (.own 1 []))]
def Xw : List O :=[oo 7<|.mv (.t 1),oo 8<|.mv (.t 2),oo 9<|.bin .eql (.t 7) (.t 8)]
def Xv : List O :=[oo 6<|.mv (.k (.own 1 []))]
def Xu : List O :=[oo 10<|.ld (some 2) (.t 3),oo 11<|.mv (.t 1),oo 12<|.call nQQ [.t 10,.t 11],oo 13<|.ld (some 2) (.t 3),oo 14<|.mv (.t 2),oo 15<|.call nQQ [.t 13,.t 14],oo 16<|.call Px [.t 12,.t 15],oo 6<|.mv (.t 16)]
def cQa1 : C := (.seq (.aH Xx false [] [1,2,3]) (.seq (.seq (.aH Xw false [] [1,2,3,9]) (.cond (.t 9) (.seq (.aH Xv false [] [6]) .ret) .skip)) (.seq (.aH Xu true [(5,5),(6,6),(7,7),(0,1),(0,3),(1,3),(2,3),(0,4),(2,4),(3,4)] [6]) .ret)))
def qQa1 : eB := ⟨17,3,[.t 6],cQa1⟩
/- cohesion/masks.List -/
def Kn : List O :=[oo 2<|.mv (.k (.own 1 []))]
def Km : List O :=[oo 3<|.mv (.k (.own 1 []))]
def Kl : List O :=[oo 4<|.mv (.t 0),oo 5<|.bin .neq (.t 4) (.k (.int .u64 0))]
def Kk : List O :=[oo 10<|.mv (.t 3),oo 11<|.mv (.t 0),oo 12<|.call Pw [.t 11],oo 13<|.c5 1 1 [.int .i64 0] [(0,1,.t 12)],oo 14<|.app 1 (.t 10) (.t 13),oo 3<|.mv (.t 14)]
def Kj : List O :=[oo 6<|.mv (.t 0),oo 7<|.mv (.t 0),oo 8<|.bin .sub (.t 7) (.k (.int .u64 1)),oo 9<|.bin .and (.t 6) (.t 8),oo 0<|.mv (.t 9)]
def KP : C := (.seq (.seq (.aH Kl false [] [0,3,5]) (.cond (.t 5) .skip (.exit 0))) (.seq (.aJ 1 (.aH Kk false [] [0,3])) (.aH Kj false [] [0,3])))
def Ki : List O :=[oo 15<|.mv (.t 3),oo 2<|.mv (.t 15)]
def cQa2 : C := (.seq (.aH Kn false [] [0]) (.seq (.aH Km false [] [0,3]) (.seq (.aJ 0 (.loop KP)) (.seq (.aH Ki false [] [2]) .ret))))
def qQa2 : eB := ⟨16,1,[.t 2],cQa2⟩
/- cohesion/graph.row -/
def Xt : List O :=[oo 2<|.box (.t 0),oo 4<|.mv (.k (.int .u64 0))]
def Xs : List O :=[oo 6<|.ld (some 2) (.t 2),oo 7<|.call Pv [.t 6],oo 5<|.mv (.t 7)]
def Xr : List O :=[oo 8<|.mv (.t 1),oo 9<|.bin .lss (.t 8) (ki 0),oo 10<|.mv (.t 9),gf 11 10<|.mv (.t 1),gf 12 10<|.mv (.t 5),gf 13 10<|.len (.t 12),gf 14 10<|.bin .geq (.t 11) (.t 13),oo 15<|.pick (.t 10) (.k (.bool true)) (.t 14),oo 16<|.mv (.t 15),gf 17 16<|.ld (some 2) (.t 2),gf 18 16<|.call UE [.t 17],gf 19 16<|.bin .neq (.t 18) (ki 0),oo 20<|.pick (.t 16) (.k (.bool true)) (.t 19)]
def Xq : List O :=[oo 4<|.mv (.k (.int .u64 0))]
def Xp : List O :=[oo 21<|.mv (.t 5),oo 22<|.mv (.t 1),oo 23<|.fa 1 (.t 21) (.t 22),oo 24<|.ld none (.t 23),oo 4<|.mv (.t 24)]
def cQa3 : C := (.seq (.aH Xt false [] [1,2]) (.seq (.aH Xs false [] [1,2,5]) (.seq (.seq (.aH Xr false [] [1,5,20]) (.cond (.t 20) (.seq (.aH Xq false [] [4]) .ret) .skip)) (.seq (.aH Xp false [] [4]) .ret))))
def qQa3 : eB := ⟨25,2,[.t 4],cQa3⟩
/- cohesion/graph.place -/
def EH : List O :=[oo 3<|.box (.t 0),oo 6<|.mv (ki 0),oo 7<|.mv (.k (.bool false))]
def EG : List O :=[oo 11<|.mv (.t 1),oo 12<|.mv (.t 2),oo 13<|.call Pu [.t 11,.t 12],oo 8<|.new [.int .i64 0,.int .i64 0],oz<|.st 2 (.t 8) (.t 13)]
def EF : List O :=[oo 15<|.cH 1 (.t 3),oo 16<|.ld none (.t 15),oo 17<|.ld (some 2) (.t 8),oo 18<|.call Pt [.t 16,.t 17,.k (.func (.func nQT) [] [])],oo 14<|.mv (.t 18),oo 19<|.ext 0 (.t 14),oo 20<|.ext 1 (.t 14),oo 9<|.mv (.t 19),oo 10<|.mv (.t 20)]
def EE : List O :=[oo 21<|.mv (.t 9),oo 22<|.mv (.t 9),oo 23<|.cH 1 (.t 3),oo 24<|.ld none (.t 23),oo 25<|.len (.t 24),oo 26<|.bin .lss (.t 22) (.t 25),oo 27<|.mv (.t 26),gt 28 27<|.cH 1 (.t 3),gt 29 27<|.ld none (.t 28),gt 30 27<|.mv (.t 9),gt 31 27<|.fa 2 (.t 29) (.t 30),gt 32 27<|.ld (some 2) (.t 31),gt 33 27<|.ld (some 2) (.t 8),gt 34 27<|.eq false (.str [true,true]) (.t 32) (.t 33),oo 35<|.pick (.t 27) (.t 34) (.k (.bool false)),oo 6<|.mv (.t 21),oo 7<|.mv (.t 35)]
def cQa4 : C := (.seq (.aH EH false [] [1,2,3]) (.seq (.aH EG false [] [3,8]) (.seq (.aH EF false [] [3,8,9]) (.seq (.aH EE true [(16,16),(0,3),(1,3),(0,8),(8,9),(0,11),(0,12),(7,12),(8,12),(9,12),(10,12),(11,12),(8,15),(11,15),(12,15)] [6,7]) .ret))))
def qQa4 : eB := ⟨36,3,[.t 6,.t 7],cQa4⟩
/- cohesion/ratio.common -/
def Kh : List O :=[oo 4<|.mv (ki 0)]
def Kg : List O :=[oo 5<|.mv (.t 1),oo 6<|.bin .neq (.t 5) (ki 0)]
def Kf : List O :=[oo 7<|.mv (.t 1),oo 8<|.mv (.t 0),oo 9<|.mv (.t 1),oo 10<|.bin .rem (.t 8) (.t 9),oo 0<|.mv (.t 7),oo 1<|.mv (.t 10)]
def KO : C := (.seq (.seq (.aH Kg false [] [0,1,6]) (.cond (.t 6) .skip (.exit 0))) (.aJ 1 (.aH Kf true [(5,5)] [0,1])))
def Ke : List O :=[oo 11<|.mv (.t 0),oo 4<|.mv (.t 11)]
def cQa5 : C := (.seq (.aH Kh false [] [0,1]) (.seq (.aJ 0 (.loop KO)) (.seq (.aH Ke false [] [4]) .ret)))
def qQa5 : eB := ⟨12,2,[.t 4],cQa5⟩
/- cohesion/ratio.checked -/
def Xo : List O :=[oo 1<|.box (.t 0),oo 2<|.new [.int .i64 0,.int .i64 0],oo 3<|.mv (ki 0)]
def Xn : List O :=[oo 4<|.cH 0 (.t 1),oo 5<|.ld none (.t 4),oo 6<|.call nQ0 [.t 5,ki 1152921504606846976],oo 7<|.un .not (.t 6),oo 8<|.mv (.t 7),gf 9 8<|.cH 1 (.t 1),gf 10 8<|.ld none (.t 9),gf 11 8<|.bin .gtr (.t 10) (ki 1152921504606846976),oo 12<|.pick (.t 8) (.k (.bool true)) (.t 11)]
def Xm : List O :=[oo 13<|.build [.int .i64 0,.int .i64 0] [],oz<|.st 2 (.t 2) (.t 13),oo 3<|.mv (ki 3)]
def Xl : List O :=[oo 14<|.ld (some 2) (.t 1),oz<|.st 2 (.t 2) (.t 14),oo 3<|.mv (ki 0)]
def cQa6 : C := (.seq (.aH Xo false [] [1,2]) (.seq (.seq (.aH Xn false [] [1,2,12]) (.cond (.t 12) (.seq (.aH Xm false [] [2,3]) .ret) .skip)) (.seq (.aH Xl false [] [2,3]) .ret)))
def qQa6 : eB := ⟨15,1,[.c 2 (some 2),.t 3],cQa6⟩
/- cohesion/wide.Common -/
def aeB : List O :=[oo 2<|.box (.t 0),oo 3<|.box (.t 1),oo 4<|.new [.int .u64 0,.int .u64 0,.bool false]]
def aeA : List O :=[oo 6<|.cH 2 (.t 2),oz<|.st 1 (.t 6) (.k (.bool false)),oo 7<|.cH 2 (.t 3),oz<|.st 1 (.t 7) (.k (.bool false))]
def aez : List O :=[oo 8<|.ld (some 3) (.t 2),oo 9<|.call UB [.t 8]]
def aey : List O :=[oo 10<|.ld (some 3) (.t 3),oz<|.st 3 (.t 4) (.t 10)]
def aex : List O :=[oo 11<|.ld (some 3) (.t 3),oo 12<|.call UB [.t 11]]
def aew : List O :=[oo 13<|.ld (some 3) (.t 2),oz<|.st 3 (.t 4) (.t 13)]
def aev : List O :=[oo 5<|.mv (ki 0)]
def aeu : List O :=[oo 14<|.ld (some 3) (.t 2),oo 15<|.call Yk [.t 14],oo 16<|.mv (.t 15),gt 17 16<|.ld (some 3) (.t 3),gt 18 16<|.call Yk [.t 17],oo 19<|.pick (.t 16) (.t 18) (.k (.bool false))]
def aet : List O :=[oo 20<|.ld (some 3) (.t 2),oo 21<|.call Yj [.t 20],oo 22<|.ld (some 3) (.t 3),oo 23<|.call Yj [.t 22],oo 24<|.mv (.t 5),oo 25<|.bin .add (.t 24) (ki 1),oz<|.st 3 (.t 2) (.t 21),oz<|.st 3 (.t 3) (.t 23),oo 5<|.mv (.t 25)]
def afi : C := (.seq (.seq (.aH aeu false [] [2,3,4,5,19]) (.cond (.t 19) .skip (.exit 0))) (.aJ 1 (.aH aet true [(8,8),(0,2),(1,2),(0,4),(1,4),(2,4),(3,4),(0,5),(1,5),(2,5),(3,5),(4,6),(5,6),(4,7),(5,7)] [2,3,4,5])))
def aes : List O :=[oo 26<|.ld (some 3) (.t 2),oo 27<|.call Yk [.t 26]]
def aaU : List O :=[oo 28<|.ld (some 3) (.t 2),oo 29<|.call Yj [.t 28],oz<|.st 3 (.t 2) (.t 29)]
def afh : C := (.seq (.seq (.aH aes false [] [2,3,4,5,27]) (.cond (.t 27) .skip (.exit 2))) (.aJ 3 (.aH aaU false [] [2,3,4,5])))
def aaT : List O :=[oo 30<|.ld (some 3) (.t 3),oo 31<|.call UB [.t 30],oo 32<|.un .not (.t 31)]
def aaS : List O :=[oo 33<|.ld (some 3) (.t 3),oo 34<|.call Yk [.t 33]]
def aaR : List O :=[oo 35<|.ld (some 3) (.t 3),oo 36<|.call Yj [.t 35],oz<|.st 3 (.t 3) (.t 36)]
def afg : C := (.seq (.seq (.aH aaS false [] [2,3,4,5,34]) (.cond (.t 34) .skip (.exit 6))) (.aJ 7 (.aH aaR false [] [2,3,4,5])))
def aaQ : List O :=[oo 37<|.ld (some 3) (.t 3),oo 38<|.ld (some 3) (.t 2),oo 39<|.call nQc2 [.t 37,.t 38]]
def aaP : List O :=[oo 40<|.ld (some 3) (.t 3),oo 41<|.ld (some 3) (.t 2),oz<|.st 3 (.t 2) (.t 40),oz<|.st 3 (.t 3) (.t 41)]
def aaO : List O :=[oo 42<|.ld (some 3) (.t 3),oo 43<|.ld (some 3) (.t 2),oo 44<|.call nQc3 [.t 42,.t 43],oz<|.st 3 (.t 3) (.t 44)]
def aff : C := (.seq (.seq (.aH aaT false [] [2,3,4,5,32]) (.cond (.t 32) .skip (.exit 4))) (.aJ 5 (.seq (.aJ 6 (.loop afg)) (.seq (.seq (.aH aaQ false [] [2,3,4,5,39]) (.cond (.t 39) (.aH aaP false [] [2,3,4,5]) .skip)) (.aH aaO false [] [2,3,4,5])))))
def aaN : List O :=[oo 45<|.mv (.t 5),oo 46<|.mv (ki 0)]
def aaM : List O :=[oo 47<|.bin .lss (.t 46) (.t 45)]
def aaL : List O :=[oo 48<|.ld (some 3) (.t 2),oo 49<|.call nQc4 [.t 48],oz<|.st 3 (.t 2) (.t 49)]
def aaK : List O :=[oo 50<|.bin .add (.t 46) (ki 1),oo 46<|.mv (.t 50)]
def afe : C := (.seq (.aH aaM false [] [2,4,45,46,47]) (.seq (.cond (.t 47) .skip (.exit 8)) (.seq (.aJ 9 (.aH aaL false [] [2,4,45,46])) (.aH aaK false [] [2,4,45,46]))))
def aaJ : List O :=[oo 51<|.ld (some 3) (.t 2),oz<|.st 3 (.t 4) (.t 51)]
def cQa7 : C := (.seq (.aH aeB false [] [2,3,4]) (.seq (.aH aeA false [] [2,3,4]) (.seq (.seq (.aH aez false [] [2,3,4,9]) (.cond (.t 9) (.seq (.aH aey false [] [4]) .ret) .skip)) (.seq (.seq (.aH aex false [] [2,3,4,12]) (.cond (.t 12) (.seq (.aH aew false [] [4]) .ret) .skip)) (.seq (.aH aev false [] [2,3,4,5]) (.seq (.aJ 0 (.loop afi)) (.seq (.aJ 2 (.loop afh)) (.seq (.aJ 4 (.loop aff)) (.seq (.seq (.aH aaN false [] [2,4,45,46]) (.aJ 8 (.loop afe))) (.seq (.aH aaJ false [] [4]) .ret))))))))))
def qQa7 : eB := ⟨52,2,[.c 4 (some 3)],cQa7⟩
/- (cohesion/wide.Number).Over -/
def aer : List O :=[oo 2<|.box (.t 0),oo 3<|.box (.t 1),oo 4<|.mv (ki 0),oo 5<|.mv (.k (.bool false))]
def aeq : List O :=[oo 6<|.new [.int .u64 0,.int .u64 0,.bool false],oo 7<|.new [.int .u64 0,.int .u64 0,.bool false]]
def aep : List O :=[oo 10<|.ld (some 3) (.t 3),oo 11<|.call UB [.t 10]]
def aeo : List O :=[oo 4<|.mv (ki 0),oo 5<|.mv (.k (.bool false))]
def aen : List O :=[oo 8<|.mv (ki 127)]
def aem : List O :=[oo 12<|.mv (.t 8),oo 13<|.bin .geq (.t 12) (ki 0)]
def ael : List O :=[oo 16<|.ld (some 3) (.t 6),oo 17<|.call nQc4 [.t 16],oo 18<|.ld (some 3) (.t 7),oo 19<|.call nQc4 [.t 18],oz<|.st 3 (.t 6) (.t 17),oz<|.st 3 (.t 7) (.t 19)]
def aek : List O :=[oo 20<|.cH 1 (.t 2),oo 21<|.ld none (.t 20),oo 22<|.mv (.t 8),oo 23<|.bin .shr (.t 21) (.t 22),oo 24<|.bin .and (.t 23) (.k (.int .u64 1)),oo 9<|.mv (.t 24)]
def aej : List O :=[oo 25<|.mv (.t 8),oo 26<|.bin .gtr (.t 25) (ki 63)]
def aei : List O :=[oo 27<|.cH 0 (.t 2),oo 28<|.ld none (.t 27),oo 29<|.mv (.t 8),oo 30<|.bin .sub (.t 29) (ki 64),oo 31<|.bin .shr (.t 28) (.t 30),oo 32<|.bin .and (.t 31) (.k (.int .u64 1)),oo 9<|.mv (.t 32)]
def aaI : List O :=[oo 33<|.cH 1 (.t 6),oo 34<|.ld none (.t 33),oo 35<|.mv (.t 9),oo 36<|.bin .or (.t 34) (.t 35),oo 37<|.cH 1 (.t 6),oz<|.st 1 (.t 37) (.t 36)]
def aaH : List O :=[oo 38<|.ld (some 3) (.t 6),oo 39<|.ld (some 3) (.t 3),oo 40<|.call nQc2 [.t 38,.t 39],oo 41<|.un .not (.t 40)]
def aaG : List O :=[oo 42<|.ld (some 3) (.t 6),oo 43<|.ld (some 3) (.t 3),oo 44<|.call nQc3 [.t 42,.t 43],oz<|.st 3 (.t 6) (.t 44)]
def aaF : List O :=[oo 45<|.cH 1 (.t 7),oo 46<|.ld none (.t 45),oo 47<|.bin .or (.t 46) (.k (.int .u64 1)),oo 48<|.cH 1 (.t 7),oz<|.st 1 (.t 48) (.t 47)]
def aaE : List O :=[oo 14<|.mv (.t 8),oo 15<|.bin .sub (.t 14) (ki 1),oo 8<|.mv (.t 15)]
def afd : C := (.seq (.seq (.aH aem false [] [2,3,6,7,8,13]) (.cond (.t 13) .skip (.exit 0))) (.seq (.aJ 1 (.seq (.aH ael true [(3,3),(4,4),(5,5),(0,2),(1,2)] [2,3,6,7,8]) (.seq (.aH aek false [] [2,3,6,7,8,9]) (.seq (.seq (.aH aej false [] [2,3,6,7,8,9,26]) (.cond (.t 26) (.aH aei false [] [2,3,6,7,8,9]) .skip)) (.seq (.aH aaI false [] [2,3,6,7,8]) (.seq (.aH aaH false [] [2,3,6,7,8,41]) (.cond (.t 41) (.seq (.aH aaG false [] [2,3,6,7,8]) (.aH aaF false [] [2,3,6,7,8])) .skip))))))) (.aH aaE false [] [2,3,6,7,8])))
def aaD : List O :=[oo 49<|.cH 1 (.t 7),oo 50<|.ld none (.t 49),oo 51<|.bin .and (.t 50) (.k (.int .u64 4611686018427387903)),oo 52<|.De .i64 (.t 51),oo 53<|.cH 0 (.t 7),oo 54<|.ld none (.t 53),oo 55<|.bin .eql (.t 54) (.k (.int .u64 0)),oo 56<|.mv (.t 55),gt 57 56<|.cH 1 (.t 7),gt 58 56<|.ld none (.t 57),gt 59 56<|.bin .lss (.t 58) (.k (.int .u64 4611686018427387904)),oo 60<|.pick (.t 56) (.t 59) (.k (.bool false)),oo 4<|.mv (.t 52),oo 5<|.mv (.t 60)]
def cQa8 : C := (.seq (.aH aer false [] [2,3]) (.seq (.aH aeq false [] [2,3,6,7]) (.seq (.seq (.aH aep false [] [2,3,6,7,11]) (.cond (.t 11) (.seq (.aH aeo false [] [4,5]) .ret) .skip)) (.seq (.seq (.aH aen false [] [2,3,6,7,8]) (.aJ 0 (.loop afd))) (.seq (.aH aaD true [(13,13),(1,4),(0,5),(1,5),(2,5),(3,5),(1,6),(1,7),(1,8),(0,9),(1,9),(2,9),(3,9),(1,10),(1,11),(9,12)] [4,5]) .ret)))))
def qQa8 : eB := ⟨61,2,[.t 4,.t 5],cQa8⟩
/- (cohesion/wide.Number).Negative -/
def aeh : List O :=[oo 1<|.box (.t 0),oo 2<|.mv (.k (.bool false))]
def aeg : List O :=[oo 3<|.cH 2 (.t 1),oo 4<|.ld none (.t 3),oo 5<|.mv (.t 4),gt 6 5<|.ld (some 3) (.t 1),gt 7 5<|.call UB [.t 6],gt 8 5<|.un .not (.t 7),oo 9<|.pick (.t 5) (.t 8) (.k (.bool false)),oo 2<|.mv (.t 9)]
def cQa9 : C := (.seq (.aH aeh false [] [1]) (.seq (.aH aeg false [] [2]) .ret))
def qQa9 : eB := ⟨10,1,[.t 2],cQa9⟩
/- cohesion/wide.size -/
def aef : List O :=[oo 2<|.mv (.k (.int .u64 0))]
def aee : List O :=[oo 3<|.mv (.t 0),oo 4<|.bin .lss (.t 3) (ki 0)]
def aed : List O :=[oo 5<|.mv (.t 0),oo 6<|.un .neg (.t 5),oo 7<|.De .u64 (.t 6),oo 2<|.mv (.t 7)]
def aec : List O :=[oo 8<|.mv (.t 0),oo 9<|.De .u64 (.t 8),oo 2<|.mv (.t 9)]
def cQb0 : C := (.seq (.aH aef false [] [0]) (.seq (.seq (.aH aee false [] [0,4]) (.cond (.t 4) (.seq (.aH aed false [] [2]) .ret) .skip)) (.seq (.aH aec false [] [2]) .ret)))
def qQb0 : eB := ⟨10,1,[.t 2],cQb0⟩
/- cohesion/cohesionref01.Make -/
def Xk : List O :=[oo 4<|.new [.int .i64 0,.int .i64 0],oo 5<|.mv (ki 0)]
def Xj : List O :=[oo 6<|.mv (.t 1),oo 7<|.bin .eql (.t 6) (ki 0)]
def Xi : List O :=[oo 8<|.build [.int .i64 0,.int .i64 0] [],oz<|.st 2 (.t 4) (.t 8),oo 5<|.mv (ki 2)]
def Xh : List O :=[oo 9<|.mv (.t 0),oo 10<|.bin .lss (.t 9) (ki 0),oo 11<|.mv (.t 1),oo 12<|.bin .lss (.t 11) (ki 0),oo 13<|.eq true .bool (.t 10) (.t 12),oo 14<|.mv (.t 0),oo 15<|.call ME [.t 14],oo 16<|.build [.int .u64 0,.int .u64 0] [(0,1,.k (.int .u64 0)),(1,1,.t 15)],oo 17<|.mv (.t 1),oo 18<|.call ME [.t 17],oo 19<|.build [.int .u64 0,.int .u64 0] [(0,1,.k (.int .u64 0)),(1,1,.t 18)],oo 20<|.call Ps [.t 13,.t 16,.t 19],oo 21<|.ext 0 (.t 20),oo 22<|.ext 1 (.t 20),oz<|.st 2 (.t 4) (.t 21),oo 5<|.mv (.t 22)]
def cQb1 : C := (.seq (.aH Xk false [] [0,1,4]) (.seq (.seq (.aH Xj false [] [0,1,4,7]) (.cond (.t 7) (.seq (.aH Xi false [] [4,5]) .ret) .skip)) (.seq (.aH Xh false [] [4,5]) .ret)))
def qQb1 : eB := ⟨23,2,[.c 4 (some 2),.t 5],cQb1⟩
/- cohesion/cohesionref02.put -/
def xR : List O :=[oo 4<|.mv (.k (.own 1 []))]
def xQ : List O :=[oo 5<|.mv (ki 0)]
def xP : List O :=[oo 7<|.mv (.t 5),oo 8<|.mv (.t 0),oo 9<|.len (.t 8),oo 10<|.bin .lss (.t 7) (.t 9),oo 11<|.mv (.t 10),gt 12 11<|.mv (.t 0),gt 13 11<|.mv (.t 5),gt 14 11<|.fa 1 (.t 12) (.t 13),gt 15 11<|.ld none (.t 14),gt 16 11<|.mv (.t 1),gt 17 11<|.bin .lss (.t 15) (.t 16),oo 18<|.pick (.t 11) (.t 17) (.k (.bool false))]
def xO : List O :=[oo 19<|.mv (.t 5),oo 20<|.bin .add (.t 19) (ki 1),oo 5<|.mv (.t 20)]
def FM : C := (.seq (.seq (.aH xP false [] [0,1,5,18]) (.cond (.t 18) .skip (.exit 0))) (.aJ 1 (.aH xO false [] [0,1,5])))
def xN : List O :=[oo 21<|.mv (.t 5),oo 22<|.mv (.t 0),oo 23<|.len (.t 22),oo 24<|.bin .lss (.t 21) (.t 23),oo 25<|.mv (.t 24),gt 26 25<|.mv (.t 0),gt 27 25<|.mv (.t 5),gt 28 25<|.fa 1 (.t 26) (.t 27),gt 29 25<|.ld none (.t 28),gt 30 25<|.mv (.t 1),gt 31 25<|.bin .eql (.t 29) (.t 30),oo 32<|.pick (.t 25) (.t 31) (.k (.bool false))]
def xM : List O :=[oo 33<|.mv (.t 0),oo 4<|.mv (.t 33)]
def xL : List O :=[oo 34<|.mv (.t 0),oo 35<|.mv (.t 5),oo 36<|.GY 1 (.t 34) none (some (.t 35)),oo 37<|.app 1 (.k (.own 1 [])) (.t 36),oo 6<|.mv (.t 37)]
def xK : List O :=[oo 38<|.mv (.t 6),oo 39<|.mv (.t 1),oo 40<|.c5 1 1 [.int .i64 0] [(0,1,.t 39)],oo 41<|.app 1 (.t 38) (.t 40),oo 42<|.mv (.t 0),oo 43<|.mv (.t 5),oo 44<|.GY 1 (.t 42) (some (.t 43)) none,oo 45<|.app 1 (.t 41) (.t 44),oo 4<|.mv (.t 45)]
def cQb2 : C := (.seq (.aH xR false [] [0,1]) (.seq (.aH xQ false [] [0,1,5]) (.seq (.aJ 0 (.loop FM)) (.seq (.seq (.aH xN false [] [0,1,5,32]) (.cond (.t 32) (.seq (.aH xM false [] [4]) .ret) .skip)) (.seq (.aH xL false [] [0,1,5,6]) (.seq (.aH xK true [(7,7),(8,8),(0,2),(2,4),(3,4),(2,5),(3,5),(2,6),(3,6)] [4]) .ret))))))
def qQb2 : eB := ⟨46,2,[.t 4],cQb2⟩
/- cmp.isNaN[int] -/
def Xg : List O :=[oo 2<|.mv (.k (.bool false))]
def Xf : List O :=[oo 3<|.mv (.t 0),oo 4<|.mv (.t 0),oo 5<|.bin .neq (.t 3) (.t 4),oo 2<|.mv (.t 5)]
def cQb3 : C := (.seq (.aH Xg false [] [0]) (.seq (.aH Xf false [] [2]) .ret))
def qQb3 : eB := ⟨6,1,[.t 2],cQb3⟩
/- cohesion/cohesionref02.Meet -/
def ED : List O :=[oo 4<|.mv (.k (.own 1 []))]
def EC : List O :=[oo 5<|.mv (.k (.own 1 []))]
def EB : List O :=[oo 8<|.mv (.t 0),oo 9<|.call nQ5 [.t 8],oo 10<|.len (.t 9),oo 11<|.mv (ki 0)]
def EA : List O :=[oo 12<|.bin .lss (.t 11) (.t 10)]
def Ez : List O :=[oo 13<|.fa 1 (.t 9) (.t 11),oo 14<|.ld none (.t 13),oo 7<|.mv (.t 14)]
def Ey : List O :=[oo 15<|.mv (.t 1),oo 16<|.mv (.t 7),oo 17<|.call Pr [.t 15,.t 16]]
def Ew : List O :=[oo 18<|.mv (.t 5),oo 19<|.mv (.t 7),oo 20<|.c5 1 1 [.int .i64 0] [(0,1,.t 19)],oo 21<|.app 1 (.t 18) (.t 20),oo 5<|.mv (.t 21)]
def Eu : List O :=[oo 22<|.bin .add (.t 11) (ki 1),oo 11<|.mv (.t 22)]
def FL : C := (.seq (.aH EA false [] [1,5,9,10,11,12]) (.seq (.cond (.t 12) .skip (.exit 0)) (.seq (.aJ 1 (.seq (.aH Ez false [] [1,5,7,9,10,11]) (.seq (.aH Ey false [] [1,5,7,9,10,11,17]) (.cond (.t 17) (.aH Ew false [] [1,5,9,10,11]) .skip)))) (.aH Eu false [] [1,5,9,10,11]))))
def Er : List O :=[oo 23<|.mv (.t 5),oo 4<|.mv (.t 23)]
def cQb4 : C := (.seq (.aH ED false [] [0,1]) (.seq (.aH EC false [] [0,1,5]) (.seq (.seq (.aH EB false [] [1,5,9,10,11]) (.aJ 0 (.loop FL))) (.seq (.aH Er false [] [4]) .ret))))
def qQb4 : eB := ⟨24,2,[.t 4],cQb4⟩
/- math/bits.TrailingZeros64 -/
def Ep : List O :=[oo 2<|.mv (ki 0)]
def Eo : List O :=[oo 3<|.mv (.t 0),oo 4<|.bin .eql (.t 3) (.k (.int .u64 0))]
def O1 : List O :=[oo 2<|.mv (ki 64)]
def uG : List O :=[oo 5<|.mv (.t 0),oo 6<|.mv (.t 0),oo 7<|.un .neg (.t 6),oo 8<|.bin .and (.t 5) (.t 7),oo 9<|.bin .mul (.t 8) (.k (.int .u64 285870213051353865)),oo 10<|.bin .shr (.t 9) (.k (.int .u64 58)),oo 11<|.He 64 1 (.g 0) (.t 10),oo 12<|.ld none (.t 11),oo 13<|.De .i64 (.t 12),oo 2<|.mv (.t 13)]
def cQb5 : C := (.seq (.aH Ep false [] [0]) (.seq (.seq (.aH Eo false [] [0,4]) (.cond (.t 4) (.seq (.aH O1 false [] [2]) .ret) .skip)) (.seq (.aH uG false [] [2]) .ret)))
def qQb5 : eB := ⟨14,1,[.t 2],cQb5⟩
/- cohesion/masks.Rows -/
def Kc : List O :=[oo 1<|.box (.t 0),oo 2<|.mv (.k (.own 1 []))]
def Kb : List O :=[oo 6<|.cH 0 (.t 1),oo 7<|.ld none (.t 6),oo 8<|.max [.t 7,ki 0],oo 9<|.min [.t 8,ki 64],oo 10<|.KF 1 [.int .u64 0] (.t 9) (.t 9),oo 3<|.mv (.t 10)]
def Ka : List O :=[oo 11<|.cH 1 (.t 1),oo 12<|.ld none (.t 11),oo 13<|.len (.t 12),oo 14<|.mv (ki 0)]
def J9 : List O :=[oo 15<|.bin .lss (.t 14) (.t 13)]
def J8 : List O :=[oo 16<|.fa 2 (.t 12) (.t 14),oo 17<|.ld (some 2) (.t 16),oo 5<|.new [.int .i64 0,.int .i64 0],oz<|.st 2 (.t 5) (.t 17)]
def J7 : List O :=[oo 18<|.cH 0 (.t 5),oo 19<|.ld none (.t 18),oo 20<|.bin .geq (.t 19) (ki 0),oo 21<|.mv (.t 20),gt 22 21<|.cH 0 (.t 5),gt 23 21<|.ld none (.t 22),gt 24 21<|.cH 1 (.t 5),gt 25 21<|.ld none (.t 24),gt 26 21<|.bin .lss (.t 23) (.t 25),oo 27<|.pick (.t 21) (.t 26) (.k (.bool false)),oo 28<|.mv (.t 27),gt 29 28<|.cH 1 (.t 5),gt 30 28<|.ld none (.t 29),gt 31 28<|.mv (.t 3),gt 32 28<|.len (.t 31),gt 33 28<|.bin .lss (.t 30) (.t 32),oo 34<|.pick (.t 28) (.t 33) (.k (.bool false))]
def J6 : List O :=[oo 35<|.mv (.t 3),oo 36<|.cH 0 (.t 5),oo 37<|.ld none (.t 36),oo 38<|.fa 1 (.t 35) (.t 37),oo 39<|.ld none (.t 38),oo 40<|.cH 1 (.t 5),oo 41<|.ld none (.t 40),oo 42<|.bin .shl (.k (.int .u64 1)) (.t 41),oo 43<|.bin .or (.t 39) (.t 42),oo 44<|.fa 1 (.t 35) (.t 37),oz<|.st 1 (.t 44) (.t 43)]
def J5 : List O :=[oo 45<|.mv (.t 3),oo 46<|.cH 1 (.t 5),oo 47<|.ld none (.t 46),oo 48<|.fa 1 (.t 45) (.t 47),oo 49<|.ld none (.t 48),oo 50<|.cH 0 (.t 5),oo 51<|.ld none (.t 50),oo 52<|.bin .shl (.k (.int .u64 1)) (.t 51),oo 53<|.bin .or (.t 49) (.t 52),oo 54<|.fa 1 (.t 45) (.t 47),oz<|.st 1 (.t 54) (.t 53)]
def J4 : List O :=[oo 55<|.bin .add (.t 14) (ki 1),oo 14<|.mv (.t 55)]
def KN : C := (.seq (.aH J9 false [] [3,12,13,14,15]) (.seq (.cond (.t 15) .skip (.exit 0)) (.seq (.aJ 1 (.seq (.aH J8 false [] [3,5,12,13,14]) (.seq (.aH J7 false [] [3,5,12,13,14,34]) (.cond (.t 34) (.seq (.aH J6 true [(8,8),(9,9),(10,10),(0,2),(2,5),(4,5),(0,6),(1,6),(2,6),(3,6),(4,6),(2,7),(4,7)] [3,5,12,13,14]) (.aH J5 true [(8,8),(9,9),(10,10),(0,2),(2,5),(4,5),(0,6),(1,6),(2,6),(3,6),(4,6),(2,7),(4,7)] [3,12,13,14])) .skip)))) (.aH J4 false [] [3,12,13,14]))))
def J3 : List O :=[oo 56<|.mv (.t 3),oo 2<|.mv (.t 56)]
def cQb6 : C := (.seq (.aH Kc false [] [1]) (.seq (.aH Kb false [] [1,3]) (.seq (.seq (.aH Ka false [] [3,12,13,14]) (.aJ 0 (.loop KN))) (.seq (.aH J3 false [] [2]) .ret))))
def qQb6 : eB := ⟨57,1,[.t 2],cQb6⟩
/- cohesion/graph.edge -/
def Xe : List O :=[oo 4<|.new [.int .i64 0,.int .i64 0]]
def Xd : List O :=[oo 5<|.mv (.t 0),oo 6<|.mv (.t 1),oo 7<|.min [.t 5,.t 6],oo 8<|.mv (.t 0),oo 9<|.mv (.t 1),oo 10<|.max [.t 8,.t 9],oo 11<|.build [.int .i64 0,.int .i64 0] [(0,1,.t 7),(1,1,.t 10)],oz<|.st 2 (.t 4) (.t 11)]
def cQb7 : C := (.seq (.aH Xe false [] [0,1,4]) (.seq (.aH Xd false [] [4]) .ret))
def qQb7 : eB := ⟨12,2,[.c 4 (some 2)],cQb7⟩
/- slices.BinarySearchFunc[[]cohesion/api.Edge,cohesion/api.Edge,cohesion/api.Edge] -/
def xJ : List O :=[oo 4<|.box (.t 1),oo 6<|.mv (ki 0),oo 7<|.mv (.k (.bool false))]
def xI : List O :=[oo 12<|.mv (.t 0),oo 13<|.len (.t 12),oo 8<|.mv (.t 13)]
def xH : List O :=[oo 14<|.mv (.t 8),oo 9<|.mv (ki 0),oo 10<|.mv (.t 14)]
def xG : List O :=[oo 15<|.mv (.t 9),oo 16<|.mv (.t 10),oo 17<|.bin .lss (.t 15) (.t 16)]
def xF : List O :=[oo 18<|.mv (.t 9),oo 19<|.mv (.t 10),oo 20<|.bin .add (.t 18) (.t 19),oo 21<|.De .u64 (.t 20),oo 22<|.bin .shr (.t 21) (.k (.int .u64 1)),oo 23<|.De .i64 (.t 22),oo 11<|.mv (.t 23)]
def xE : List O :=[oo 24<|.mv (.t 2),oo 25<|.mv (.t 0),oo 26<|.mv (.t 11),oo 27<|.fa 2 (.t 25) (.t 26),oo 28<|.ld (some 2) (.t 27),oo 29<|.ld (some 2) (.t 4),oo 30<|.jm (.t 24) [.t 28,.t 29],oo 31<|.bin .lss (.t 30) (ki 0)]
def xD : List O :=[oo 32<|.mv (.t 11),oo 33<|.bin .add (.t 32) (ki 1),oo 9<|.mv (.t 33)]
def xC : List O :=[oo 34<|.mv (.t 11),oo 10<|.mv (.t 34)]
def FK : C := (.seq (.seq (.aH xG false [] [0,2,4,8,9,10,17]) (.cond (.t 17) .skip (.exit 0))) (.aJ 1 (.seq (.aH xF false [] [0,2,4,8,9,10,11]) (.seq (.aH xE true [(6,6),(7,7),(0,4),(0,5),(1,5),(2,5),(3,5),(4,5)] [0,2,4,8,9,10,11,31]) (.cond (.t 31) (.aH xD false [] [0,2,4,8,9,10]) (.aH xC false [] [0,2,4,8,9,10]))))))
def xB : List O :=[oo 35<|.mv (.t 9),oo 36<|.mv (.t 9),oo 37<|.mv (.t 8),oo 38<|.bin .lss (.t 36) (.t 37),oo 39<|.mv (.t 38),gt 40 39<|.mv (.t 2),gt 41 39<|.mv (.t 0),gt 42 39<|.mv (.t 9),gt 43 39<|.fa 2 (.t 41) (.t 42),gt 44 39<|.ld (some 2) (.t 43),gt 45 39<|.ld (some 2) (.t 4),gt 46 39<|.jm (.t 40) [.t 44,.t 45],gt 47 39<|.bin .eql (.t 46) (ki 0),oo 48<|.pick (.t 39) (.t 47) (.k (.bool false)),oo 6<|.mv (.t 35),oo 7<|.mv (.t 48)]
def cQb8 : C := (.seq (.aH xJ false [] [0,2,4]) (.seq (.aH xI false [] [0,2,4,8]) (.seq (.aH xH false [] [0,2,4,8,9,10]) (.seq (.aJ 0 (.loop FK)) (.seq (.aH xB true [(15,15),(0,9),(5,9),(0,10),(5,10),(6,10),(7,10),(8,10),(9,10),(0,11)] [6,7]) .ret)))))
def qQb8 : eB := ⟨49,3,[.t 6,.t 7],cQb8⟩
/- (cohesion/wide.Number).Zero -/
def aeb : List O :=[oo 1<|.box (.t 0),oo 2<|.mv (.k (.bool false))]
def aea : List O :=[oo 3<|.cH 0 (.t 1),oo 4<|.ld none (.t 3),oo 5<|.bin .eql (.t 4) (.k (.int .u64 0)),oo 6<|.mv (.t 5),gt 7 6<|.cH 1 (.t 1),gt 8 6<|.ld none (.t 7),gt 9 6<|.bin .eql (.t 8) (.k (.int .u64 0)),oo 10<|.pick (.t 6) (.t 9) (.k (.bool false)),oo 2<|.mv (.t 10)]
def cQb9 : C := (.seq (.aH aeb false [] [1]) (.seq (.aH aea false [] [2]) .ret))
def qQb9 : eB := ⟨11,1,[.t 2],cQb9⟩
/- (cohesion/wide.Number).even -/
def ad9 : List O :=[oo 1<|.box (.t 0),oo 2<|.mv (.k (.bool false))]
def ad8 : List O :=[oo 3<|.cH 1 (.t 1),oo 4<|.ld none (.t 3),oo 5<|.bin .and (.t 4) (.k (.int .u64 1)),oo 6<|.bin .eql (.t 5) (.k (.int .u64 0)),oo 2<|.mv (.t 6)]
def cQc0 : C := (.seq (.aH ad9 false [] [1]) (.seq (.aH ad8 false [] [2]) .ret))
def qQc0 : eB := ⟨7,1,[.t 2],cQc0⟩
/- (cohesion/wide.Number).half -/
def ad7 : List O :=[oo 1<|.box (.t 0),oo 2<|.new [.int .u64 0,.int .u64 0,.bool false]]
def ad6 : List O :=[oo 3<|.cH 0 (.t 1),oo 4<|.ld none (.t 3),oo 5<|.bin .shr (.t 4) (.k (.int .u64 1)),oo 6<|.cH 1 (.t 1),oo 7<|.ld none (.t 6),oo 8<|.bin .shr (.t 7) (.k (.int .u64 1)),oo 9<|.cH 0 (.t 1),oo 10<|.ld none (.t 9),oo 11<|.bin .shl (.t 10) (.k (.int .u64 63)),oo 12<|.bin .or (.t 8) (.t 11),oo 13<|.cH 2 (.t 1),oo 14<|.ld none (.t 13),oo 15<|.build [.int .u64 0,.int .u64 0,.bool false] [(0,1,.t 5),(1,1,.t 12),(2,1,.t 14)],oz<|.st 3 (.t 2) (.t 15)]
def cQc1 : C := (.seq (.aH ad7 false [] [1,2]) (.seq (.aH ad6 false [] [2]) .ret))
def qQc1 : eB := ⟨16,1,[.c 2 (some 3)],cQc1⟩
/- (cohesion/wide.Number).below -/
def ad5 : List O :=[oo 2<|.box (.t 0),oo 3<|.box (.t 1),oo 4<|.mv (.k (.bool false))]
def ad4 : List O :=[oo 5<|.cH 0 (.t 2),oo 6<|.ld none (.t 5),oo 7<|.cH 0 (.t 3),oo 8<|.ld none (.t 7),oo 9<|.bin .lss (.t 6) (.t 8),oo 10<|.mv (.t 9),gf 11 10<|.cH 0 (.t 2),gf 12 10<|.ld none (.t 11),gf 13 10<|.cH 0 (.t 3),gf 14 10<|.ld none (.t 13),gf 15 10<|.bin .eql (.t 12) (.t 14),gf 16 10<|.mv (.t 15),gt 17 16<|.cH 1 (.t 2),gt 18 16<|.ld none (.t 17),gt 19 16<|.cH 1 (.t 3),gt 20 16<|.ld none (.t 19),gt 21 16<|.bin .lss (.t 18) (.t 20),gf 22 10<|.pick (.t 16) (.t 21) (.k (.bool false)),oo 23<|.pick (.t 10) (.k (.bool true)) (.t 22),oo 4<|.mv (.t 23)]
def cQc2 : C := (.seq (.aH ad5 false [] [2,3]) (.seq (.aH ad4 false [] [4]) .ret))
def qQc2 : eB := ⟨24,2,[.t 4],cQc2⟩
/- (cohesion/wide.Number).less -/
def ad3 : List O :=[oo 2<|.box (.t 0),oo 3<|.box (.t 1),oo 4<|.new [.int .u64 0,.int .u64 0,.bool false]]
def ad0 : List O :=[oo 10<|.cH 1 (.t 2),oo 11<|.ld none (.t 10),oo 12<|.cH 1 (.t 3),oo 13<|.ld none (.t 12),oo 14<|.call nQc8 [.t 11,.t 13,.k (.int .u64 0)],oo 9<|.mv (.t 14),oo 15<|.ext 0 (.t 9),oo 16<|.ext 1 (.t 9),oo 5<|.mv (.t 15),oo 6<|.mv (.t 16)]
def adZ : List O :=[oo 18<|.cH 0 (.t 2),oo 19<|.ld none (.t 18),oo 20<|.cH 0 (.t 3),oo 21<|.ld none (.t 20),oo 22<|.mv (.t 6),oo 23<|.call nQc8 [.t 19,.t 21,.t 22],oo 17<|.mv (.t 23),oo 24<|.ext 0 (.t 17),oo 25<|.ext 1 (.t 17),oo 7<|.mv (.t 24),oo 8<|.mv (.t 25)]
def adY : List O :=[oo 26<|.mv (.t 7),oo 27<|.mv (.t 5),oo 28<|.cH 2 (.t 2),oo 29<|.ld none (.t 28),oo 30<|.build [.int .u64 0,.int .u64 0,.bool false] [(0,1,.t 26),(1,1,.t 27),(2,1,.t 29)],oz<|.st 3 (.t 4) (.t 30)]
def cQc3 : C := (.seq (.aH ad3 false [] [2,3,4]) (.seq (.aH ad0 false [] [2,3,4,5,6]) (.seq (.aH adZ false [] [2,4,5,7]) (.seq (.aH adY false [] [4]) .ret))))
def qQc3 : eB := ⟨31,2,[.c 4 (some 3)],cQc3⟩
/- (cohesion/wide.Number).twice -/
def adX : List O :=[oo 1<|.box (.t 0),oo 2<|.new [.int .u64 0,.int .u64 0,.bool false]]
def adW : List O :=[oo 3<|.cH 0 (.t 1),oo 4<|.ld none (.t 3),oo 5<|.bin .shl (.t 4) (.k (.int .u64 1)),oo 6<|.cH 1 (.t 1),oo 7<|.ld none (.t 6),oo 8<|.bin .shr (.t 7) (.k (.int .u64 63)),oo 9<|.bin .or (.t 5) (.t 8),oo 10<|.cH 1 (.t 1),oo 11<|.ld none (.t 10),oo 12<|.bin .shl (.t 11) (.k (.int .u64 1)),oo 13<|.cH 2 (.t 1),oo 14<|.ld none (.t 13),oo 15<|.build [.int .u64 0,.int .u64 0,.bool false] [(0,1,.t 9),(1,1,.t 12),(2,1,.t 14)],oz<|.st 3 (.t 2) (.t 15)]
def cQc4 : C := (.seq (.aH adX false [] [1,2]) (.seq (.aH adW false [] [2]) .ret))
def qQc4 : eB := ⟨16,1,[.c 2 (some 3)],cQc4⟩
/- cohesion/cohesionref01.reduce -/
def O0 : List O :=[oo 4<|.box (.t 1),oo 5<|.box (.t 2),oo 6<|.new [.int .i64 0,.int .i64 0],oo 7<|.mv (ki 0)]
def OZ : List O :=[oo 14<|.ld (some 2) (.t 4),oo 15<|.build [.int .u64 0,.int .u64 0] [],oo 16<|.eq false (.str [true,true]) (.t 14) (.t 15)]
def OY : List O :=[oo 17<|.build [.int .i64 0,.int .i64 0] [(1,1,ki 1)],oz<|.st 2 (.t 6) (.t 17),oo 7<|.mv (ki 0)]
def OX : List O :=[oo 18<|.ld (some 2) (.t 4),oo 19<|.ld (some 2) (.t 5),oo 20<|.call Pq [.t 18,.t 19],oo 8<|.new [.int .u64 0,.int .u64 0],oz<|.st 2 (.t 8) (.t 20)]
def OW : List O :=[oo 22<|.ld (some 2) (.t 4),oo 23<|.ld (some 2) (.t 8),oo 24<|.call KE [.t 22,.t 23],oo 21<|.mv (.t 24),oo 25<|.ext 0 (.t 21),oo 26<|.ext 1 (.t 21),oo 9<|.new [.int .u64 0,.int .u64 0],oo 10<|.new [.int .u64 0,.int .u64 0],oz<|.st 2 (.t 9) (.t 25),oz<|.st 2 (.t 10) (.t 26)]
def OV : List O :=[oo 28<|.ld (some 2) (.t 5),oo 29<|.ld (some 2) (.t 8),oo 30<|.call KE [.t 28,.t 29],oo 27<|.mv (.t 30),oo 31<|.ext 0 (.t 27),oo 32<|.ext 1 (.t 27),oo 11<|.new [.int .u64 0,.int .u64 0],oo 12<|.new [.int .u64 0,.int .u64 0],oz<|.st 2 (.t 11) (.t 31),oz<|.st 2 (.t 12) (.t 32)]
def OU : List O :=[oo 33<|.cH 0 (.t 9),oo 34<|.ld none (.t 33),oo 35<|.bin .gtr (.t 34) (.k (.int .u64 0)),oo 36<|.mv (.t 35),gf 37 36<|.cH 0 (.t 11),gf 38 36<|.ld none (.t 37),gf 39 36<|.bin .gtr (.t 38) (.k (.int .u64 0)),oo 40<|.pick (.t 36) (.k (.bool true)) (.t 39),oo 41<|.mv (.t 40),gf 42 41<|.cH 1 (.t 9),gf 43 41<|.ld none (.t 42),gf 44 41<|.bin .gtr (.t 43) (.k (.int .u64 1152921504606846976)),oo 45<|.pick (.t 41) (.k (.bool true)) (.t 44),oo 46<|.mv (.t 45),gf 47 46<|.cH 1 (.t 11),gf 48 46<|.ld none (.t 47),gf 49 46<|.bin .gtr (.t 48) (.k (.int .u64 1152921504606846976)),oo 50<|.pick (.t 46) (.k (.bool true)) (.t 49)]
def OT : List O :=[oo 51<|.build [.int .i64 0,.int .i64 0] [],oz<|.st 2 (.t 6) (.t 51),oo 7<|.mv (ki 3)]
def OS : List O :=[oo 52<|.cH 1 (.t 9),oo 53<|.ld none (.t 52),oo 54<|.De .i64 (.t 53),oo 55<|.cH 1 (.t 11),oo 56<|.ld none (.t 55),oo 57<|.De .i64 (.t 56),oo 58<|.build [.int .i64 0,.int .i64 0] [(0,1,.t 54),(1,1,.t 57)],oo 13<|.new [.int .i64 0,.int .i64 0],oz<|.st 2 (.t 13) (.t 58)]
def OR : List O :=[oo 59<|.mv (.t 0)]
def J2 : List O :=[oo 60<|.cH 0 (.t 13),oo 61<|.ld none (.t 60),oo 62<|.un .neg (.t 61),oo 63<|.cH 0 (.t 13),oz<|.st 1 (.t 63) (.t 62)]
def J1 : List O :=[oo 64<|.ld (some 2) (.t 13),oz<|.st 2 (.t 6) (.t 64),oo 7<|.mv (ki 0)]
def cQc5 : C := (.seq (.aH O0 false [] [0,4,5,6]) (.seq (.seq (.aH OZ false [] [0,4,5,6,16]) (.cond (.t 16) (.seq (.aH OY false [] [6,7]) .ret) .skip)) (.seq (.aH OX false [] [0,4,5,6,8]) (.seq (.aH OW false [] [0,5,6,8,9]) (.seq (.aH OV false [] [0,6,9,11]) (.seq (.seq (.aH OU false [] [0,6,9,11,50]) (.cond (.t 50) (.seq (.aH OT false [] [6,7]) .ret) .skip)) (.seq (.aH OS false [] [0,6,13]) (.seq (.seq (.aH OR false [] [6,13,59]) (.cond (.t 59) (.aH J2 false [] [6,13]) .skip)) (.seq (.aH J1 false [] [6,7]) .ret)))))))))
def XL : eB := ⟨65,3,[.c 6 (some 2),.t 7],cQc5⟩
/- cohesion/cohesionref01.size -/
def Xc : List O :=[oo 2<|.mv (.k (.int .u64 0))]
def Xb : List O :=[oo 3<|.mv (.t 0),oo 4<|.bin .lss (.t 3) (ki 0)]
def Xa : List O :=[oo 5<|.mv (.t 0),oo 6<|.De .u64 (.t 5),oo 7<|.un .neg (.t 6),oo 2<|.mv (.t 7)]
def W9 : List O :=[oo 8<|.mv (.t 0),oo 9<|.De .u64 (.t 8),oo 2<|.mv (.t 9)]
def cQc6 : C := (.seq (.aH Xc false [] [0]) (.seq (.seq (.aH Xb false [] [0,4]) (.cond (.t 4) (.seq (.aH Xa false [] [2]) .ret) .skip)) (.seq (.aH W9 false [] [2]) .ret)))
def qQc6 : eB := ⟨10,1,[.t 2],cQc6⟩
/- cohesion/cohesionref02.Has -/
def AH : List O :=[oo 4<|.mv (.k (.bool false))]
def AG : List O :=[oo 7<|.mv (.t 0),oo 8<|.len (.t 7),oo 9<|.mv (ki 0)]
def AF : List O :=[oo 10<|.bin .lss (.t 9) (.t 8)]
def AE : List O :=[oo 11<|.fa 1 (.t 7) (.t 9),oo 12<|.ld none (.t 11),oo 6<|.mv (.t 12)]
def AD : List O :=[oo 13<|.mv (.t 6),oo 14<|.mv (.t 1),oo 15<|.bin .eql (.t 13) (.t 14)]
def AB : List O :=[oo 4<|.mv (.k (.bool true))]
def AA : List O :=[oo 16<|.bin .add (.t 9) (ki 1),oo 9<|.mv (.t 16)]
def FJ : C := (.seq (.aH AF false [] [1,7,8,9,10]) (.seq (.cond (.t 10) .skip (.exit 0)) (.seq (.aJ 1 (.seq (.aH AE false [] [1,6,7,8,9]) (.seq (.aH AD false [] [1,7,8,9,15]) (.cond (.t 15) (.seq (.aH AB false [] [4]) .ret) .skip)))) (.aH AA false [] [1,7,8,9]))))
def Az : List O :=[oo 4<|.mv (.k (.bool false))]
def cQc7 : C := (.seq (.aH AH false [] [0,1]) (.seq (.seq (.aH AG false [] [1,7,8,9]) (.aJ 0 (.loop FJ))) (.seq (.aH Az false [] [4]) .ret)))
def qQc7 : eB := ⟨17,2,[.t 4],cQc7⟩
/- cohesion/cohesionref01.gcd -/
def J0 : List O :=[oo 2<|.box (.t 0),oo 3<|.box (.t 1),oo 4<|.new [.int .u64 0,.int .u64 0]]
def JZ : List O :=[oo 7<|.ld (some 2) (.t 3),oo 8<|.build [.int .u64 0,.int .u64 0] [],oo 9<|.eq true (.str [true,true]) (.t 7) (.t 8)]
def JY : List O :=[oo 11<|.ld (some 2) (.t 2),oo 12<|.ld (some 2) (.t 3),oo 13<|.call KE [.t 11,.t 12],oo 10<|.mv (.t 13),oo 14<|.ext 0 (.t 10),oo 15<|.ext 1 (.t 10),oo 5<|.new [.int .u64 0,.int .u64 0],oo 6<|.new [.int .u64 0,.int .u64 0],oz<|.st 2 (.t 5) (.t 14),oz<|.st 2 (.t 6) (.t 15)]
def JX : List O :=[oo 16<|.ld (some 2) (.t 3),oo 17<|.ld (some 2) (.t 6),oz<|.st 2 (.t 2) (.t 16),oz<|.st 2 (.t 3) (.t 17)]
def KM : C := (.seq (.seq (.aH JZ false [] [2,3,4,9]) (.cond (.t 9) .skip (.exit 0))) (.aJ 1 (.seq (.aH JY false [] [2,3,4,6]) (.aH JX true [(3,3),(0,1),(1,2)] [2,3,4]))))
def JW : List O :=[oo 18<|.ld (some 2) (.t 2),oz<|.st 2 (.t 4) (.t 18)]
def cQc9 : C := (.seq (.aH J0 false [] [2,3,4]) (.seq (.aJ 0 (.loop KM)) (.seq (.aH JW false [] [4]) .ret)))
def qQc9 : eB := ⟨19,2,[.c 4 (some 2)],cQc9⟩
/- cohesion/cohesionref01.divide -/
def sM : List O :=[oo 2<|.box (.t 0),oo 3<|.box (.t 1),oo 4<|.new [.int .u64 0,.int .u64 0],oo 5<|.new [.int .u64 0,.int .u64 0]]
def sL : List O :=[oo 6<|.new [.int .u64 0,.int .u64 0],oo 7<|.new [.int .u64 0,.int .u64 0]]
def sK : List O :=[oo 8<|.mv (ki 127)]
def sJ : List O :=[oo 9<|.mv (.t 8),oo 10<|.bin .geq (.t 9) (ki 0)]
def sI : List O :=[oo 13<|.ld (some 2) (.t 7),oo 14<|.call MD [.t 13],oz<|.st 2 (.t 7) (.t 14)]
def sG : List O :=[oo 15<|.mv (.t 8),oo 16<|.bin .geq (.t 15) (ki 64),oo 17<|.mv (.t 16),gt 18 17<|.cH 0 (.t 2),gt 19 17<|.ld none (.t 18),gt 20 17<|.mv (.t 8),gt 21 17<|.bin .sub (.t 20) (ki 64),gt 22 17<|.De .u64 (.t 21),gt 23 17<|.bin .shr (.t 19) (.t 22),gt 24 17<|.bin .and (.t 23) (.k (.int .u64 1)),gt 25 17<|.bin .eql (.t 24) (.k (.int .u64 1)),oo 26<|.pick (.t 17) (.t 25) (.k (.bool false)),oo 27<|.mv (.t 26),gf 28 27<|.mv (.t 8),gf 29 27<|.bin .lss (.t 28) (ki 64),gf 30 27<|.mv (.t 29),gt 31 30<|.cH 1 (.t 2),gt 32 30<|.ld none (.t 31),gt 33 30<|.mv (.t 8),gt 34 30<|.De .u64 (.t 33),gt 35 30<|.bin .shr (.t 32) (.t 34),gt 36 30<|.bin .and (.t 35) (.k (.int .u64 1)),gt 37 30<|.bin .eql (.t 36) (.k (.int .u64 1)),gf 38 27<|.pick (.t 30) (.t 37) (.k (.bool false)),oo 39<|.pick (.t 27) (.k (.bool true)) (.t 38)]
def sF : List O :=[oo 40<|.cH 1 (.t 7),oo 41<|.ld none (.t 40),oo 42<|.bin .or (.t 41) (.k (.int .u64 1)),oo 43<|.cH 1 (.t 7),oz<|.st 1 (.t 43) (.t 42)]
def sD : List O :=[oo 44<|.ld (some 2) (.t 6),oo 45<|.call MD [.t 44],oz<|.st 2 (.t 6) (.t 45)]
def sC : List O :=[oo 46<|.ld (some 2) (.t 7),oo 47<|.ld (some 2) (.t 3),oo 48<|.call Po [.t 46,.t 47],oo 49<|.un .not (.t 48)]
def sB : List O :=[oo 50<|.ld (some 2) (.t 7),oo 51<|.ld (some 2) (.t 3),oo 52<|.call MC [.t 50,.t 51],oz<|.st 2 (.t 7) (.t 52)]
def o8 : List O :=[oo 53<|.cH 1 (.t 6),oo 54<|.ld none (.t 53),oo 55<|.bin .or (.t 54) (.k (.int .u64 1)),oo 56<|.cH 1 (.t 6),oz<|.st 1 (.t 56) (.t 55)]
def o7 : List O :=[oo 11<|.mv (.t 8),oo 12<|.bin .sub (.t 11) (ki 1),oo 8<|.mv (.t 12)]
def qS : C := (.seq (.seq (.aH sJ false [] [2,3,4,5,6,7,8,10]) (.cond (.t 10) .skip (.exit 0))) (.seq (.aJ 1 (.seq (.aH sI false [] [2,3,4,5,6,7,8]) (.seq (.seq (.aH sG false [] [2,3,4,5,6,7,8,39]) (.cond (.t 39) (.aH sF false [] [2,3,4,5,6,7,8]) .skip)) (.seq (.aH sD false [] [2,3,4,5,6,7,8]) (.seq (.aH sC false [] [2,3,4,5,6,7,8,49]) (.cond (.t 49) (.seq (.aH sB false [] [2,3,4,5,6,7,8]) (.aH o8 false [] [2,3,4,5,6,7,8])) .skip)))))) (.aH o7 false [] [2,3,4,5,6,7,8])))
def oZ : List O :=[oo 57<|.ld (some 2) (.t 6),oo 58<|.ld (some 2) (.t 7),oz<|.st 2 (.t 4) (.t 57),oz<|.st 2 (.t 5) (.t 58)]
def cQd0 : C := (.seq (.aH sM false [] [2,3,4,5]) (.seq (.aH sL false [] [2,3,4,5,6,7]) (.seq (.seq (.aH sK false [] [2,3,4,5,6,7,8]) (.aJ 0 (.loop qS))) (.seq (.aH oZ true [(3,3),(0,1),(1,2)] [4,5]) .ret))))
def qQd0 : eB := ⟨59,2,[.c 4 (some 2),.c 5 (some 2)],cQd0⟩
/- cohesion/cohesionref01.double -/
def W8 : List O :=[oo 1<|.box (.t 0),oo 2<|.new [.int .u64 0,.int .u64 0]]
def W7 : List O :=[oo 3<|.cH 0 (.t 1),oo 4<|.ld none (.t 3),oo 5<|.bin .shl (.t 4) (.k (.int .u64 1)),oo 6<|.cH 1 (.t 1),oo 7<|.ld none (.t 6),oo 8<|.bin .shr (.t 7) (.k (.int .u64 63)),oo 9<|.bin .or (.t 5) (.t 8),oo 10<|.cH 1 (.t 1),oo 11<|.ld none (.t 10),oo 12<|.bin .shl (.t 11) (.k (.int .u64 1)),oo 13<|.build [.int .u64 0,.int .u64 0] [(0,1,.t 9),(1,1,.t 12)],oz<|.st 2 (.t 2) (.t 13)]
def cQd1 : C := (.seq (.aH W8 false [] [1,2]) (.seq (.aH W7 false [] [2]) .ret))
def qQd1 : eB := ⟨14,1,[.c 2 (some 2)],cQd1⟩
/- cohesion/cohesionref01.less -/
def W6 : List O :=[oo 2<|.box (.t 0),oo 3<|.box (.t 1),oo 4<|.mv (.k (.bool false))]
def W5 : List O :=[oo 5<|.cH 0 (.t 2),oo 6<|.ld none (.t 5),oo 7<|.cH 0 (.t 3),oo 8<|.ld none (.t 7),oo 9<|.bin .lss (.t 6) (.t 8),oo 10<|.mv (.t 9),gf 11 10<|.cH 0 (.t 2),gf 12 10<|.ld none (.t 11),gf 13 10<|.cH 0 (.t 3),gf 14 10<|.ld none (.t 13),gf 15 10<|.bin .eql (.t 12) (.t 14),gf 16 10<|.mv (.t 15),gt 17 16<|.cH 1 (.t 2),gt 18 16<|.ld none (.t 17),gt 19 16<|.cH 1 (.t 3),gt 20 16<|.ld none (.t 19),gt 21 16<|.bin .lss (.t 18) (.t 20),gf 22 10<|.pick (.t 16) (.t 21) (.k (.bool false)),oo 23<|.pick (.t 10) (.k (.bool true)) (.t 22),oo 4<|.mv (.t 23)]
def cQd2 : C := (.seq (.aH W6 false [] [2,3]) (.seq (.aH W5 false [] [4]) .ret))
def qQd2 : eB := ⟨24,2,[.t 4],cQd2⟩
/- cohesion/cohesionref01.sub -/
def W4 : List O :=[oo 2<|.box (.t 0),oo 3<|.box (.t 1),oo 4<|.new [.int .u64 0,.int .u64 0]]
def W3 : List O :=[oo 6<|.cH 0 (.t 2),oo 7<|.ld none (.t 6),oo 8<|.cH 0 (.t 3),oo 9<|.ld none (.t 8),oo 10<|.bin .sub (.t 7) (.t 9),oo 5<|.mv (.t 10)]
def W0 : List O :=[oo 11<|.cH 1 (.t 2),oo 12<|.ld none (.t 11),oo 13<|.cH 1 (.t 3),oo 14<|.ld none (.t 13),oo 15<|.bin .lss (.t 12) (.t 14)]
def WZ : List O :=[oo 16<|.mv (.t 5),oo 17<|.bin .sub (.t 16) (.k (.int .u64 1)),oo 5<|.mv (.t 17)]
def WY : List O :=[oo 18<|.mv (.t 5),oo 19<|.cH 1 (.t 2),oo 20<|.ld none (.t 19),oo 21<|.cH 1 (.t 3),oo 22<|.ld none (.t 21),oo 23<|.bin .sub (.t 20) (.t 22),oo 24<|.build [.int .u64 0,.int .u64 0] [(0,1,.t 18),(1,1,.t 23)],oz<|.st 2 (.t 4) (.t 24)]
def cQd3 : C := (.seq (.aH W4 false [] [2,3,4]) (.seq (.aH W3 false [] [2,3,4,5]) (.seq (.seq (.aH W0 false [] [2,3,4,5,15]) (.cond (.t 15) (.aH WZ false [] [2,3,4,5]) .skip)) (.seq (.aH WY false [] [4]) .ret))))
def qQd3 : eB := ⟨25,2,[.c 4 (some 2)],cQd3⟩
abbrev Md := Go.Bm.Md
abbrev dR := Go.Bm.dR
def look : List (Nat × Md × eB) -> Nat -> Option (Md × eB)
 | [],_ => none
 | (j,m,q) :: r,i => if i = j then some (m,q) else look r i
def fns : List (Nat × Md × eB) := [
 (nQa,⟨false,false,true⟩,qQa),
 (nQb,⟨false,false,true⟩,qQb),
 (nQc,⟨false,false,true⟩,qQc),
 (nQd,⟨false,false,true⟩,qQd),
 (nQe,⟨true,false,false⟩,qQe),
 (nQf,⟨true,false,false⟩,qQf),
 (nQg,⟨true,false,false⟩,Sw),
 (Cw,⟨true,false,false⟩,qQh),
 (nQi,⟨true,false,false⟩,qQi),
 (nQj,⟨true,false,false⟩,qQj),
 (VH,⟨false,false,false⟩,qQk),
 (Yh,⟨false,false,false⟩,qQl),
 (VG,⟨false,false,true⟩,qQm),
 (nQn,⟨false,false,true⟩,qQn),
 (Yg,⟨false,false,false⟩,qQo),
 (nQp,⟨false,false,false⟩,qQp),
 (nQq,⟨false,false,true⟩,qQq),
 (nQr,⟨false,false,true⟩,qQr),
 (nQs,⟨false,false,true⟩,qQs),
 (nQt,⟨false,false,false⟩,qQt),
 (nQu,⟨false,false,false⟩,qQu),
 (nQv,⟨false,false,false⟩,qQv),
 (Yf,⟨false,false,false⟩,qQw),
 (nQx,⟨false,false,true⟩,qQx),
 (nQy,⟨false,false,false⟩,qQy),
 (nQz,⟨false,false,false⟩,qQz),
 (nQA,⟨false,false,true⟩,qQA),
 (UE,⟨false,false,true⟩,qQB),
 (nQC,⟨true,false,false⟩,qQC),
 (UD,⟨true,false,false⟩,qQD),
 (nQE,⟨true,false,false⟩,qQE),
 (nQF,⟨true,false,false⟩,qQF),
 (UC,⟨false,false,true⟩,qQG),
 (nQH,⟨false,false,true⟩,qQH),
 (nQI,⟨false,false,true⟩,qQI),
 (nQJ,⟨true,false,false⟩,qQJ),
 (nQK,⟨false,false,true⟩,qQK),
 (nQL,⟨false,false,false⟩,qQL),
 (nQM,⟨false,false,true⟩,qQM),
 (nQN,⟨false,false,false⟩,qQN),
 (nQO,⟨false,false,false⟩,qQO),
 (nQP,⟨false,true,true⟩,qQP),
 (nQQ,⟨false,false,false⟩,qQQ),
 (nQR,⟨false,false,true⟩,qQR),
 (nQS,⟨false,false,true⟩,qQS),
 (nQT,⟨false,false,true⟩,qQT),
 (nQU,⟨true,false,false⟩,qQU),
 (nQV,⟨false,false,true⟩,qQV),
 (nQW,⟨false,false,false⟩,qQW),
 (nQX,⟨false,false,false⟩,qQX),
 (nQY,⟨false,false,false⟩,qQY),
 (nQZ,⟨false,false,true⟩,qQZ),
 (nQ0,⟨false,false,true⟩,qQ0),
 (nQ1,⟨false,false,false⟩,qQ1),
 (nQ2,⟨false,false,false⟩,qQ2),
 (nQ3,⟨false,false,false⟩,qQ3),
 (nQ4,⟨false,false,false⟩,qQ4),
 (nQ5,⟨false,false,false⟩,qQ5),
 (nQ6,⟨false,false,false⟩,qQ6),
 (nQ7,⟨false,false,true⟩,qQ7),
 (VI,⟨false,false,true⟩,qQ8),
 (nQ9,⟨false,false,false⟩,qQ9),
 (PF,⟨false,false,false⟩,qQa0),
 (PE,⟨false,false,false⟩,qQa1),
 (PD,⟨false,false,false⟩,qQa2),
 (PC,⟨false,false,true⟩,qQa3),
 (PB,⟨false,false,true⟩,qQa4),
 (PA,⟨false,false,true⟩,qQa5),
 (MG,⟨false,false,false⟩,qQa6),
 (nQa7,⟨false,false,false⟩,qQa7),
 (nQa8,⟨false,false,true⟩,qQa8),
 (nQa9,⟨false,false,true⟩,qQa9),
 (nQb0,⟨false,false,true⟩,qQb0),
 (Pz,⟨false,false,false⟩,qQb1),
 (Py,⟨false,false,false⟩,qQb2),
 (MF,⟨false,false,true⟩,qQb3),
 (Px,⟨false,false,false⟩,qQb4),
 (Pw,⟨false,false,true⟩,qQb5),
 (Pv,⟨false,false,false⟩,qQb6),
 (Pu,⟨false,false,false⟩,qQb7),
 (Pt,⟨false,false,true⟩,qQb8),
 (UB,⟨false,false,true⟩,qQb9),
 (Yk,⟨false,false,true⟩,qQc0),
 (Yj,⟨false,false,false⟩,qQc1),
 (nQc2,⟨false,false,true⟩,qQc2),
 (nQc3,⟨false,false,false⟩,qQc3),
 (nQc4,⟨false,false,false⟩,qQc4),
 (Ps,⟨false,false,false⟩,XL),
 (ME,⟨false,false,true⟩,qQc6),
 (Pr,⟨false,false,true⟩,qQc7),
 (Pq,⟨false,false,false⟩,qQc9),
 (KE,⟨false,false,false⟩,qQd0),
 (MD,⟨false,false,false⟩,qQd1),
 (Po,⟨false,false,true⟩,qQd2),
 (MC,⟨false,false,false⟩,qQd3)]
def Yi : Nat := 0
def LG : List Int := [0,1,56,2,57,49,28,3,61,58,42,50,38,29,17,4,62,47,59,36,45,43,51,22,53,39,33,30,24,18,12,5,63,55,48,27,60,41,37,16,46,35,44,21,52,32,23,11,54,26,40,15,34,20,31,10,25,14,19,9,13,8,7,6]
def tabA : List AV := LG.map (AV.int .u8)
def cfg : dR := ⟨look fns,fun i => if i = Yi then tabA else [],fun _ => none,fun _ => none,fun _ => none,fun _ => false,fun _ => false,fun _ => none⟩
theorem kQa : bK ah Go.Proofs.Tryz.f3 qQa = true := by kernel_rfl
theorem kQb : bK ah Go.Proofs.Tryz.f4 qQb = true := by kernel_rfl
theorem kQc : bK ah Go.Proofs.Tryz.f5 qQc = true := by kernel_rfl
theorem kQd : bK ah Go.Proofs.Tryz.f6 qQd = true := by kernel_rfl
theorem kQe : bK ah Go.Proofs.Tryz.f7 qQe = true := by kernel_rfl
theorem kQf : bK ah Go.Proofs.Tryz.f8 qQf = true := by kernel_rfl
theorem kQg : bK ah Go.Proofs.Tryz.f9 Sw = true := by kernel_rfl
theorem kQh : bK ah Go.Proofs.Tryz.f10 qQh = true := by kernel_rfl
theorem kQi : bK ah Go.Proofs.Tryz.f11 qQi = true := by kernel_rfl
theorem kQj : bK ah Go.Proofs.Tryz.f12 qQj = true := by kernel_rfl
theorem kQk : bK ah Go.Proofs.Tryz.f13 qQk = true := by kernel_rfl
theorem kQl : bK ah Go.Proofs.Tryz.f14 qQl = true := by kernel_rfl
theorem kQm : bK ah Go.Proofs.Tryz.f15 qQm = true := by kernel_rfl
theorem kQn : bK ah Go.Proofs.Tryz.f16 qQn = true := by kernel_rfl
theorem kQo : bK ah Go.Proofs.Tryz.f17 qQo = true := by kernel_rfl
theorem kQp : bK ah Go.Proofs.Tryz.f18 qQp = true := by kernel_rfl
theorem kQq : bK ah Go.Proofs.Tryz.f19 qQq = true := by kernel_rfl
theorem kQr : bK ah Go.Proofs.Tryz.f20 qQr = true := by kernel_rfl
theorem kQs : bK ah Go.Proofs.Tryz.f21 qQs = true := by kernel_rfl
theorem kQt : bK ah Go.Proofs.Tryz.f22 qQt = true := by kernel_rfl
theorem kQu : bK ah Go.Proofs.Tryz.f23 qQu = true := by kernel_rfl
theorem kQv : bK ah Go.Proofs.Tryz.f24 qQv = true := by kernel_rfl
theorem kQw : bK ah Go.Proofs.Tryz.f25 qQw = true := by kernel_rfl
theorem kQx : bK ah Go.Proofs.Tryz.f26 qQx = true := by kernel_rfl
theorem kQy : bK ah Go.Proofs.Tryz.f27 qQy = true := by kernel_rfl
theorem kQz : bK ah Go.Proofs.Tryz.f28 qQz = true := by kernel_rfl
theorem kQA : bK ah Go.Proofs.Tryz.f29 qQA = true := by kernel_rfl
theorem kQB : bK ah Go.Proofs.Tryz.f30 qQB = true := by kernel_rfl
theorem kQC : bK ah Go.Proofs.Tryz.f31 qQC = true := by kernel_rfl
theorem kQD : bK ah Go.Proofs.Tryz.f32 qQD = true := by kernel_rfl
theorem kQE : bK ah Go.Proofs.Tryz.f33 qQE = true := by kernel_rfl
theorem kQF : bK ah Go.Proofs.Tryz.f34 qQF = true := by kernel_rfl
theorem kQG : bK ah Go.Proofs.Tryz.f35 qQG = true := by kernel_rfl
theorem kQH : bK ah Go.Proofs.Tryz.f36 qQH = true := by kernel_rfl
theorem kQI : bK ah Go.Proofs.Tryz.f37 qQI = true := by kernel_rfl
theorem kQJ : bK ah Go.Proofs.Tryz.f38 qQJ = true := by kernel_rfl
theorem kQK : bK ah Go.Proofs.Tryz.f39 qQK = true := by kernel_rfl
theorem kQL : bK ah Go.Proofs.Tryz.f40 qQL = true := by kernel_rfl
theorem kQM : bK ah Go.Proofs.Tryz.f41 qQM = true := by kernel_rfl
theorem kQN : bK ah Go.Proofs.Tryz.f42 qQN = true := by kernel_rfl
theorem kQO : bK ah Go.Proofs.Tryz.f43 qQO = true := by kernel_rfl
theorem kQP : bK ah Go.Proofs.Tryz.f44 qQP = true := by kernel_rfl
theorem kQQ : bK ah Go.Proofs.Tryz.f45 qQQ = true := by kernel_rfl
theorem kQR : bK ah Go.Proofs.Tryz.f46 qQR = true := by kernel_rfl
theorem kQS : bK ah Go.Proofs.Tryz.f47 qQS = true := by kernel_rfl
theorem kQT : bK ah Go.Proofs.Tryz.f48 qQT = true := by kernel_rfl
theorem kQU : bK ah Go.Proofs.Tryz.f49 qQU = true := by kernel_rfl
theorem kQV : bK ah Go.Proofs.Tryz.f50 qQV = true := by kernel_rfl
theorem kQW : bK ah Go.Proofs.Tryz.f51 qQW = true := by kernel_rfl
theorem kQX : bK ah Go.Proofs.Tryz.f52 qQX = true := by kernel_rfl
theorem kQY : bK ah Go.Proofs.Tryz.f53 qQY = true := by kernel_rfl
theorem kQZ : bK ah Go.Proofs.Tryz.f54 qQZ = true := by kernel_rfl
theorem kQ0 : bK ah Go.Proofs.Tryz.f55 qQ0 = true := by kernel_rfl
theorem kQ1 : bK ah Go.Proofs.Tryz.f56 qQ1 = true := by kernel_rfl
theorem kQ2 : bK ah Go.Proofs.Tryz.f57 qQ2 = true := by kernel_rfl
theorem kQ3 : bK ah Go.Proofs.Tryz.f58 qQ3 = true := by kernel_rfl
theorem kQ4 : bK ah Go.Proofs.Tryz.f59 qQ4 = true := by kernel_rfl
theorem kQ5 : bK ah Go.Proofs.Tryz.f60 qQ5 = true := by kernel_rfl
theorem kQ6 : bK ah Go.Proofs.Tryz.f61 qQ6 = true := by kernel_rfl
theorem kQ7 : bK ah Go.Proofs.Tryz.f64 qQ7 = true := by kernel_rfl
theorem kQ8 : bK ah Go.Proofs.Tryz.f65 qQ8 = true := by kernel_rfl
theorem kQ9 : bK ah Go.Proofs.Tryz.f66 qQ9 = true := by kernel_rfl
theorem kQa0 : bK ah Go.Proofs.Tryz.f67 qQa0 = true := by kernel_rfl
theorem kQa1 : bK ah Go.Proofs.Tryz.f68 qQa1 = true := by kernel_rfl
theorem kQa2 : bK ah Go.Proofs.Tryz.f69 qQa2 = true := by kernel_rfl
theorem kQa3 : bK ah Go.Proofs.Tryz.f70 qQa3 = true := by kernel_rfl
theorem kQa4 : bK ah Go.Proofs.Tryz.f71 qQa4 = true := by kernel_rfl
theorem kQa5 : bK ah Go.Proofs.Tryz.f72 qQa5 = true := by kernel_rfl
theorem kQa6 : bK ah Go.Proofs.Tryz.f73 qQa6 = true := by kernel_rfl
theorem kQa7 : bK ah Go.Proofs.Tryz.f74 qQa7 = true := by kernel_rfl
theorem kQa8 : bK ah Go.Proofs.Tryz.f75 qQa8 = true := by kernel_rfl
theorem kQa9 : bK ah Go.Proofs.Tryz.f76 qQa9 = true := by kernel_rfl
theorem kQb0 : bK ah Go.Proofs.Tryz.f77 qQb0 = true := by kernel_rfl
theorem kQb1 : bK ah Go.Proofs.Tryz.f78 qQb1 = true := by kernel_rfl
theorem kQb2 : bK ah Go.Proofs.Tryz.f79 qQb2 = true := by kernel_rfl
theorem kQb3 : bK ah Go.Proofs.Tryz.f91 qQb3 = true := by kernel_rfl
theorem kQb4 : bK ah Go.Proofs.Tryz.f92 qQb4 = true := by kernel_rfl
theorem kQb5 : bK ah Go.Proofs.Tryz.f93 qQb5 = true := by kernel_rfl
theorem kQb6 : bK ah Go.Proofs.Tryz.f94 qQb6 = true := by kernel_rfl
theorem kQb7 : bK ah Go.Proofs.Tryz.f95 qQb7 = true := by kernel_rfl
theorem kQb8 : bK ah Go.Proofs.Tryz.f96 qQb8 = true := by kernel_rfl
theorem kQb9 : bK ah Go.Proofs.Tryz.f97 qQb9 = true := by kernel_rfl
theorem kQc0 : bK ah Go.Proofs.Tryz.f98 qQc0 = true := by kernel_rfl
theorem kQc1 : bK ah Go.Proofs.Tryz.f99 qQc1 = true := by kernel_rfl
theorem kQc2 : bK ah Go.Proofs.Tryz.f100 qQc2 = true := by kernel_rfl
theorem kQc3 : bK ah Go.Proofs.Tryz.f101 qQc3 = true := by kernel_rfl
theorem kQc4 : bK ah Go.Proofs.Tryz.f102 qQc4 = true := by kernel_rfl
theorem kQc5 : bK ah Go.Proofs.Tryz.f103 XL = true := by kernel_rfl
theorem kQc6 : bK ah Go.Proofs.Tryz.f104 qQc6 = true := by kernel_rfl
theorem kQc7 : bK ah Go.Proofs.Tryz.f110 qQc7 = true := by kernel_rfl
theorem kQc9 : bK ah Go.Proofs.Tryz.f112 qQc9 = true := by kernel_rfl
theorem kQd0 : bK ah Go.Proofs.Tryz.f113 qQd0 = true := by kernel_rfl
theorem kQd1 : bK ah Go.Proofs.Tryz.f115 qQd1 = true := by kernel_rfl
theorem kQd2 : bK ah Go.Proofs.Tryz.f116 qQd2 = true := by kernel_rfl
theorem kQd3 : bK ah Go.Proofs.Tryz.f117 qQd3 = true := by kernel_rfl
theorem MR : ∀ {l : List (Nat × Md × eB)} {f : Nat} {m : Md} {q : eB},look l f = some (m,q) -> (f,m,q) ∈ l
 | [],f,m,q,h => by simp [look] at h
 | (j,m',q') :: r,f,m,q,h => by
   unfold look at h;split at h
   ·rename_i he; subst he; simp at h; obtain ⟨rfl,rfl⟩ := h; simp
   ·exact List.mem_cons_of_mem _ (MR h)
def Good (p : Nat × Md × eB) : Prop := ∃ fn,ah.funcs[p.1]? = some fn /\ bK ah fn p.2.2 = true
def All (G : Nat × Md × eB -> Prop) : List (Nat × Md × eB) -> Prop
 | [] => True
 | p :: r => G p /\ All G r
theorem All.get {G : Nat × Md × eB -> Prop} : ∀ {l : List (Nat × Md × eB)},All G l -> ∀ p ∈ l,G p
 | [],_,p,h => by simp at h
 | q :: r,h,p,hp => by
   rcases List.mem_cons.1 hp with e | e
   ·subst e; exact h.1
   ·exact All.get h.2 p e
theorem ace : All Good fns := ⟨⟨_,Go.Proofs.Tryz.func3,kQa⟩,⟨_,Go.Proofs.Tryz.func4,kQb⟩,⟨_,Go.Proofs.Tryz.func5,kQc⟩,⟨_,Go.Proofs.Tryz.func6,kQd⟩,⟨_,Go.Proofs.Tryz.func7,kQe⟩,⟨_,Go.Proofs.Tryz.func8,kQf⟩,⟨_,Go.Proofs.Tryz.func9,kQg⟩,⟨_,Go.Proofs.Tryz.func10,kQh⟩,⟨_,Go.Proofs.Tryz.func11,kQi⟩,⟨_,Go.Proofs.Tryz.func12,kQj⟩,⟨_,Go.Proofs.Tryz.func13,kQk⟩,⟨_,Go.Proofs.Tryz.func14,kQl⟩,⟨_,Go.Proofs.Tryz.func15,kQm⟩,⟨_,Go.Proofs.Tryz.func16,kQn⟩,⟨_,Go.Proofs.Tryz.func17,kQo⟩,⟨_,Go.Proofs.Tryz.func18,kQp⟩,⟨_,Go.Proofs.Tryz.func19,kQq⟩,⟨_,Go.Proofs.Tryz.func20,kQr⟩,⟨_,Go.Proofs.Tryz.func21,kQs⟩,⟨_,Go.Proofs.Tryz.func22,kQt⟩,⟨_,Go.Proofs.Tryz.func23,kQu⟩,⟨_,Go.Proofs.Tryz.func24,kQv⟩,⟨_,Go.Proofs.Tryz.func25,kQw⟩,⟨_,Go.Proofs.Tryz.func26,kQx⟩,⟨_,Go.Proofs.Tryz.func27,kQy⟩,⟨_,Go.Proofs.Tryz.func28,kQz⟩,⟨_,Go.Proofs.Tryz.func29,kQA⟩,⟨_,Go.Proofs.Tryz.func30,kQB⟩,⟨_,Go.Proofs.Tryz.func31,kQC⟩,⟨_,Go.Proofs.Tryz.func32,kQD⟩,⟨_,Go.Proofs.Tryz.func33,kQE⟩,⟨_,Go.Proofs.Tryz.func34,kQF⟩,⟨_,Go.Proofs.Tryz.func35,kQG⟩,⟨_,Go.Proofs.Tryz.func36,kQH⟩,⟨_,Go.Proofs.Tryz.func37,kQI⟩,⟨_,Go.Proofs.Tryz.func38,kQJ⟩,⟨_,Go.Proofs.Tryz.func39,kQK⟩,⟨_,Go.Proofs.Tryz.func40,kQL⟩,⟨_,Go.Proofs.Tryz.func41,kQM⟩,⟨_,Go.Proofs.Tryz.func42,kQN⟩,⟨_,Go.Proofs.Tryz.func43,kQO⟩,⟨_,Go.Proofs.Tryz.func44,kQP⟩,⟨_,Go.Proofs.Tryz.func45,kQQ⟩,⟨_,Go.Proofs.Tryz.func46,kQR⟩,⟨_,TW,kQS⟩,⟨_,Go.Proofs.Tryz.func48,kQT⟩,⟨_,Go.Proofs.Tryz.func49,kQU⟩,⟨_,Go.Proofs.Tryz.func50,kQV⟩,⟨_,Go.Proofs.Tryz.func51,kQW⟩,⟨_,Go.Proofs.Tryz.func52,kQX⟩,⟨_,Go.Proofs.Tryz.func53,kQY⟩,⟨_,Go.Proofs.Tryz.func54,kQZ⟩,⟨_,Go.Proofs.Tryz.func55,kQ0⟩,⟨_,Go.Proofs.Tryz.func56,kQ1⟩,⟨_,Go.Proofs.Tryz.func57,kQ2⟩,⟨_,Go.Proofs.Tryz.func58,kQ3⟩,⟨_,Go.Proofs.Tryz.func59,kQ4⟩,⟨_,Go.Proofs.Tryz.func60,kQ5⟩,⟨_,Go.Proofs.Tryz.func61,kQ6⟩,⟨_,Go.Proofs.Tryz.func64,kQ7⟩,⟨_,Go.Proofs.Tryz.func65,kQ8⟩,⟨_,Go.Proofs.Tryz.func66,kQ9⟩,⟨_,Go.Proofs.Tryz.func67,kQa0⟩,⟨_,Go.Proofs.Tryz.func68,kQa1⟩,⟨_,Go.Proofs.Tryz.func69,kQa2⟩,⟨_,Go.Proofs.Tryz.func70,kQa3⟩,⟨_,Go.Proofs.Tryz.func71,kQa4⟩,⟨_,Go.Proofs.Tryz.func72,kQa5⟩,⟨_,Go.Proofs.Tryz.func73,kQa6⟩,⟨_,Go.Proofs.Tryz.func74,kQa7⟩,⟨_,Go.Proofs.Tryz.func75,kQa8⟩,⟨_,Go.Proofs.Tryz.func76,kQa9⟩,⟨_,Go.Proofs.Tryz.func77,kQb0⟩,⟨_,Go.Proofs.Tryz.func78,kQb1⟩,⟨_,Go.Proofs.Tryz.func79,kQb2⟩,⟨_,TV,kQb3⟩,⟨_,Go.Proofs.Tryz.func92,kQb4⟩,⟨_,Go.Proofs.Tryz.func93,kQb5⟩,⟨_,Go.Proofs.Tryz.func94,kQb6⟩,⟨_,Go.Proofs.Tryz.func95,kQb7⟩,⟨_,Go.Proofs.Tryz.func96,kQb8⟩,⟨_,Go.Proofs.Tryz.func97,kQb9⟩,⟨_,Go.Proofs.Tryz.func98,kQc0⟩,⟨_,Go.Proofs.Tryz.func99,kQc1⟩,⟨_,Go.Proofs.Tryz.func100,kQc2⟩,⟨_,Go.Proofs.Tryz.func101,kQc3⟩,⟨_,Go.Proofs.Tryz.func102,kQc4⟩,⟨_,Go.Proofs.Tryz.func103,kQc5⟩,⟨_,Go.Proofs.Tryz.func104,kQc6⟩,⟨_,Go.Proofs.Tryz.func110,kQc7⟩,⟨_,Go.Proofs.Tryz.func112,kQc9⟩,⟨_,Go.Proofs.Tryz.func113,kQd0⟩,⟨_,Go.Proofs.Tryz.func115,kQd1⟩,⟨_,Go.Proofs.Tryz.func116,kQd2⟩,⟨_,Go.Proofs.Tryz.func117,kQd3⟩,trivial⟩
theorem ads : eQ ah cfg := ⟨by kernel_rfl,fun f m q h => ace.get _ (MR h)⟩
end Go.BmP
