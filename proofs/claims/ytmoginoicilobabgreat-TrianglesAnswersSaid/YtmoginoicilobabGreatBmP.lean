/- The compact code of the functions, printed by program off the translation. -/
import Derived.Test.YtmoginoicilobabGreatChecked
import Derived.Test.YtmoginoicilobabGreatBmA
import Derived.KernelRfl
set_option maxRecDepth 100000
open Go.Proofs.Tryz renaming func57 → UI, func89 → UH, prog → af
namespace Go.BmP
open Go.Am Go.Bm
abbrev oo (d : Nat) (x : Kd) : O := ⟨some d,none,x⟩
abbrev gf (d g : Nat) (k : Kd) : O := ⟨some d,some (g,false),k⟩
abbrev gt (d g : Nat) (k : Kd) : O := ⟨some d,some (g,true),k⟩
abbrev oz (x : Kd) : O := ⟨none,none,x⟩
abbrev ki (n : Nat) : E := .k (.int .i64 n)
def nQa : Nat := 3
def nQb : Nat := 4
def nQc : Nat := 5
def nQd : Nat := 6
def nQe : Nat := 7
def nQf : Nat := 8
def TJ : Nat := 9
def CQ : Nat := 10
def nQi : Nat := 11
def ZU : Nat := 12
def WL : Nat := 13
def nQl : Nat := 14
def Vs : Nat := 15
def ZT : Nat := 16
def nQo : Nat := 17
def nQp : Nat := 18
def nQq : Nat := 19
def ZS : Nat := 20
def TI : Nat := 21
def TH : Nat := 22
def ZR : Nat := 23
def ZQ : Nat := 24
def ZP : Nat := 25
def nQx : Nat := 26
def ZO : Nat := 27
def nQz : Nat := 28
def nQA : Nat := 29
def nQB : Nat := 30
def QJ : Nat := 31
def Vu : Nat := 32
def WM : Nat := 33
def nQF : Nat := 34
def nQG : Nat := 35
def nQH : Nat := 36
def nQI : Nat := 37
def nQJ : Nat := 38
def nQK : Nat := 39
def nQL : Nat := 40
def nQM : Nat := 41
def nQN : Nat := 42
def nQO : Nat := 43
def nQP : Nat := 44
def nQQ : Nat := 45
def Z0 : Nat := 46
def nQS : Nat := 47
def ZZ : Nat := 48
def nQU : Nat := 49
def nQV : Nat := 50
def ZY : Nat := 51
def ZX : Nat := 52
def nQY : Nat := 53
def nQZ : Nat := 54
def nQ0 : Nat := 55
def nQ1 : Nat := 56
def nQ2 : Nat := 57
def nQ3 : Nat := 58
def nQ4 : Nat := 59
def nQ5 : Nat := 60
def Z1 : Nat := 61
def nQ7 : Nat := 62
def nQ8 : Nat := 63
def nQ9 : Nat := 64
def Km : Nat := 65
def Kl : Nat := 66
def QI : Nat := 67
def Kk : Nat := 68
def Kj : Nat := 69
def Ki : Nat := 70
def QH : Nat := 71
def NT : Nat := 72
def Ao : Nat := 73
def Kh : Nat := 74
def NS : Nat := 75
def GS : Nat := 78
def NR : Nat := 79
def nQb3 : Nat := 80
def nQb4 : Nat := 81
def NQ : Nat := 82
def Kg : Nat := 83
def NP : Nat := 84
def NO : Nat := 85
def NM : Nat := 86
def Kf : Nat := 89
def NL : Nat := 90
def NK : Nat := 102
def Ke : Nat := 103
def nQc4 : Nat := 104
def nQc5 : Nat := 105
def nQc6 : Nat := 106
def nQc7 : Nat := 107
def NJ : Nat := 108
def Kc : Nat := 109
def Vt : Nat := 116
def ZW : Nat := 117
def ZV : Nat := 118
def nQd3 : Nat := 119
def nQd4 : Nat := 120
def nQd5 : Nat := 121
def NI : Nat := 122
def GR : Nat := 123
def nQd8 : Nat := 126
def Kb : Nat := 127
def NH : Nat := 128
def Ka : Nat := 129
/- cohesion/cohesionlaw29.TrianglesAnswers -/
def tK : List O :=[oo 5<|.box (.t 1),oo 8<|.mv (.k (.bool false))]
def tJ : List O :=[oo 50<|.mv (.t 0),oo 51<|.call nQb [.t 50],oo 52<|.un .not (.t 51),oo 53<|.mv (.t 52),gf 54 53<|.cC 0 (.t 5),gf 55 53<|.ld (some 2) (.t 54),gf 56 53<|.call nQc [.t 55,ki 10],gf 57 53<|.un .not (.t 56),oo 58<|.pick (.t 53) (.k (.bool true)) (.t 57),oo 59<|.mv (.t 58),gf 60 59<|.cC 3 (.t 5),gf 61 59<|.ld none (.t 60),gf 62 59<|.len (.t 61),gf 63 59<|.bin .gtr (.t 62) (ki 80),oo 64<|.pick (.t 59) (.k (.bool true)) (.t 63)]
def tI : List O :=[oo 65<|.call nQd [],oo 8<|.mv (.t 65)]
def tH : List O :=[oo 66<|.mv (.t 0),oo 67<|.call nQe [.t 66],oo 9<|.mv (.t 67)]
def tG : List O :=[oo 68<|.mv (.t 9),oo 69<|.call nQf [.t 68,ki 9],oo 10<|.new [.int .i64 0,.own 2 []],oz<|.st 2 (.t 10) (.t 69)]
def tF : List O :=[oo 71<|.ld (some 2) (.t 10),oo 72<|.call TJ [.t 71],oo 70<|.mv (.t 72),oo 73<|.ext 0 (.t 70),oo 74<|.ext 1 (.t 70),oo 11<|.new [.int .i64 0,.own 2 [],.int .i64 0,.own 1 []],oz<|.st 4 (.t 11) (.t 73),oo 12<|.mv (.t 74)]
def tD : List O :=[oo 75<|.ld (some 4) (.t 11),oo 13<|.new [.int .i64 0,.own 2 [],.int .i64 0,.own 1 []],oz<|.st 4 (.t 13) (.t 75)]
def tC : List O :=[oo 76<|.cC 3 (.t 11),oo 77<|.ld none (.t 76),oo 78<|.app 1 (.k (.own 1 [])) (.t 77),oo 79<|.cC 3 (.t 13),oz<|.st 1 (.t 79) (.t 78)]
def tB : List O :=[oo 80<|.cC 3 (.t 13),oo 81<|.ld none (.t 80),oo 82<|.len (.t 81),oo 83<|.bin .gtr (.t 82) (ki 0),oo 84<|.mv (.t 83),gt 85 84<|.mv (.t 9),gt 86 84<|.call CQ [.t 85,ki 2],gt 87 84<|.bin .eql (.t 86) (ki 1),oo 88<|.pick (.t 84) (.t 87) (.k (.bool false))]
def tA : List O :=[oo 89<|.cC 3 (.t 13),oo 90<|.ld none (.t 89),oo 91<|.mv (.t 9),oo 92<|.cC 3 (.t 13),oo 93<|.ld none (.t 92),oo 94<|.len (.t 93),oo 95<|.call CQ [.t 91,.t 94],oo 96<|.gw 1 (.t 90) (.t 95),oo 97<|.ld none (.t 96),oo 98<|.bin .add (.t 97) (ki 1),oo 99<|.gw 1 (.t 90) (.t 95),oz<|.st 1 (.t 99) (.t 98)]
def oD : List O :=[oo 100<|.cC 2 (.t 13),oo 101<|.ld none (.t 100),oo 102<|.bin .add (.t 101) (ki 1),oo 103<|.cC 2 (.t 13),oz<|.st 1 (.t 103) (.t 102)]
def oC : List O :=[oo 104<|.ld (some 4) (.t 11),oo 105<|.ld (some 4) (.t 5),oo 106<|.ld (some 4) (.t 13),oo 107<|.mv (.t 9),oo 108<|.ld (some 2) (.t 10),oo 109<|.call nQi [.t 107,.t 108],oo 110<|.cC 2 (.t 11),oo 111<|.ld none (.t 110),oo 112<|.cC 3 (.t 11),oo 113<|.ld none (.t 112),oo 114<|.build [.int .i64 0,.own 2 [],.int .i64 0,.own 1 []] [(0,2,.t 109),(2,1,.t 111),(3,1,.t 113)],oo 115<|.eE 4 4 [.int .i64 0,.own 2 [],.int .i64 0,.own 1 []] [(0,4,.t 104),(4,4,.t 105),(8,4,.t 106),(12,4,.t 114)],oo 116<|.len (.t 115),oo 117<|.mv (ki 0)]
def oB : List O :=[oo 118<|.bin .lss (.t 117) (.t 116)]
def oA : List O :=[oo 119<|.gw 4 (.t 115) (.t 117),oo 120<|.ld (some 4) (.t 119),oo 15<|.new [.int .i64 0,.own 2 [],.int .i64 0,.own 1 []],oz<|.st 4 (.t 15) (.t 120)]
def ox : List O :=[oo 122<|.cC 0 (.t 15),oo 123<|.ld (some 2) (.t 122),oo 124<|.call ZU [.t 123],oo 121<|.mv (.t 124),oo 125<|.ext 0 (.t 121),oo 126<|.ext 1 (.t 121),oo 16<|.mv (.t 125),oo 17<|.mv (.t 126)]
def ot : List O :=[oo 128<|.cC 0 (.t 15),oo 129<|.ld (some 2) (.t 128),oo 130<|.call WL [.t 129],oo 127<|.mv (.t 130),oo 131<|.ext 0 (.t 127),oo 132<|.ext 1 (.t 127),oo 18<|.mv (.t 131),oo 19<|.mv (.t 132)]
def oq : List O :=[oo 134<|.cC 0 (.t 15),oo 135<|.ld (some 2) (.t 134),oo 136<|.call nQl [.t 135],oo 133<|.mv (.t 136),oo 137<|.ext 0 (.t 133),oo 138<|.ext 1 (.t 133),oo 20<|.mv (.t 137),oo 21<|.mv (.t 138)]
def om : List O :=[oo 140<|.cC 0 (.t 15),oo 141<|.ld (some 2) (.t 140),oo 142<|.call Vs [.t 141],oo 139<|.mv (.t 142),oo 143<|.ext 0 (.t 139),oo 144<|.ext 1 (.t 139),oo 22<|.mv (.t 143),oo 23<|.mv (.t 144)]
def oi : List O :=[oo 146<|.cC 0 (.t 15),oo 147<|.ld (some 2) (.t 146),oo 148<|.call ZT [.t 147],oo 145<|.mv (.t 148),oo 149<|.ext 0 (.t 145),oo 150<|.ext 1 (.t 145),oo 24<|.new [.int .i64 0,.int .i64 0],oz<|.st 2 (.t 24) (.t 149),oo 25<|.mv (.t 150)]
def oh : List O :=[oo 152<|.cC 0 (.t 15),oo 153<|.ld (some 2) (.t 152),oo 154<|.call nQo [.t 153],oo 151<|.mv (.t 154),oo 155<|.ext 0 (.t 151),oo 156<|.ext 1 (.t 151),oo 26<|.new [.int .i64 0,.int .i64 0],oz<|.st 2 (.t 26) (.t 155),oo 27<|.mv (.t 156)]
def oe : List O :=[oo 158<|.cC 0 (.t 15),oo 159<|.ld (some 2) (.t 158),oo 160<|.call nQp [.t 159],oo 157<|.mv (.t 160),oo 161<|.ext 0 (.t 157),oo 162<|.ext 1 (.t 157),oo 28<|.new [.int .i64 0,.own 2 [],.int .i64 0,.own 1 []],oz<|.st 4 (.t 28) (.t 161),oo 29<|.mv (.t 162)]
def od : List O :=[oo 164<|.cC 0 (.t 15),oo 165<|.ld (some 2) (.t 164),oo 166<|.call TJ [.t 165],oo 163<|.mv (.t 166),oo 167<|.ext 0 (.t 163),oo 168<|.ext 1 (.t 163),oo 30<|.new [.int .i64 0,.own 2 [],.int .i64 0,.own 1 []],oz<|.st 4 (.t 30) (.t 167),oo 31<|.mv (.t 168)]
def ob : List O :=[oo 169<|.mv (.t 17),oo 170<|.mv (.t 19),oo 171<|.bin .neq (.t 169) (.t 170),oo 172<|.mv (.t 171),gf 173 172<|.mv (.t 21),gf 174 172<|.mv (.t 23),gf 175 172<|.bin .neq (.t 173) (.t 174),oo 176<|.pick (.t 172) (.k (.bool true)) (.t 175),oo 177<|.mv (.t 176),gf 178 177<|.mv (.t 25),gf 179 177<|.mv (.t 27),gf 180 177<|.bin .neq (.t 178) (.t 179),oo 181<|.pick (.t 177) (.k (.bool true)) (.t 180),oo 182<|.mv (.t 181),gf 183 182<|.mv (.t 29),gf 184 182<|.mv (.t 31),gf 185 182<|.bin .neq (.t 183) (.t 184),oo 186<|.pick (.t 182) (.k (.bool true)) (.t 185),oo 187<|.mv (.t 186),gf 188 187<|.mv (.t 16),gf 189 187<|.mv (.t 18),gf 190 187<|.bin .neq (.t 188) (.t 189),oo 191<|.pick (.t 187) (.k (.bool true)) (.t 190),oo 192<|.mv (.t 191),gf 193 192<|.mv (.t 20),gf 194 192<|.mv (.t 22),gf 195 192<|.call nQq [.t 193,.t 194],gf 196 192<|.un .not (.t 195),oo 197<|.pick (.t 192) (.k (.bool true)) (.t 196),oo 198<|.mv (.t 197),gf 199 198<|.ld (some 2) (.t 24),gf 200 198<|.ld (some 2) (.t 26),gf 201 198<|.eq true (.str [true,true]) (.t 199) (.t 200),oo 202<|.pick (.t 198) (.k (.bool true)) (.t 201),oo 203<|.mv (.t 202),gf 204 203<|.ld (some 4) (.t 28),gf 205 203<|.ld (some 4) (.t 30),gf 206 203<|.call ZS [.t 204,.t 205],gf 207 203<|.un .not (.t 206),oo 208<|.pick (.t 203) (.k (.bool true)) (.t 207),oo 209<|.mv (.t 208),gf 210 209<|.ld (some 4) (.t 15),gf 211 209<|.call TI [.t 210],gf 212 209<|.ld (some 4) (.t 15),gf 213 209<|.call TH [.t 212],gf 214 209<|.eq true .bool (.t 211) (.t 213),oo 215<|.pick (.t 209) (.k (.bool true)) (.t 214)]
def oa : List O :=[oo 8<|.mv (.k (.bool false))]
def n9 : List O :=[oo 216<|.mv (.t 2),oo 217<|.mv (.t 3),oo 218<|.build [.int .i64 0,.int .i64 0] [(0,1,.t 216),(1,1,.t 217)],oo 219<|.mv (.t 9),oo 220<|.call CQ [.t 219,ki 10],oo 221<|.mv (.t 9),oo 222<|.call CQ [.t 221,ki 9],oo 223<|.build [.int .i64 0,.int .i64 0] [(0,1,.t 220),(1,1,.t 222)],oo 224<|.mv (.t 9),oo 225<|.call CQ [.t 224,ki 9],oo 226<|.mv (.t 9),oo 227<|.call CQ [.t 226,ki 9],oo 228<|.build [.int .i64 0,.int .i64 0] [(0,1,.t 225),(1,1,.t 227)],oo 229<|.eE 2 3 [.int .i64 0,.int .i64 0] [(0,2,.t 218),(2,2,.t 223),(4,2,.t 228)],oo 230<|.len (.t 229),oo 231<|.mv (ki 0)]
def n8 : List O :=[oo 232<|.bin .lss (.t 231) (.t 230)]
def n7 : List O :=[oo 233<|.gw 2 (.t 229) (.t 231),oo 234<|.ld (some 2) (.t 233),oo 33<|.new [.int .i64 0,.int .i64 0],oz<|.st 2 (.t 33) (.t 234)]
def n6 : List O :=[oo 236<|.cC 0 (.t 15),oo 237<|.ld (some 2) (.t 236),oo 238<|.Fi 2 1 (.t 33) (ki 0),oo 239<|.ld none (.t 238),oo 240<|.call ZR [.t 237,.t 239],oo 235<|.mv (.t 240),oo 241<|.ext 0 (.t 235),oo 242<|.ext 1 (.t 235),oo 34<|.new [.int .i64 0,.int .i64 0],oz<|.st 2 (.t 34) (.t 241),oo 35<|.mv (.t 242)]
def nZ : List O :=[oo 244<|.cC 0 (.t 15),oo 245<|.ld (some 2) (.t 244),oo 246<|.Fi 2 1 (.t 33) (ki 0),oo 247<|.ld none (.t 246),oo 248<|.call ZQ [.t 245,.t 247],oo 243<|.mv (.t 248),oo 249<|.ext 0 (.t 243),oo 250<|.ext 1 (.t 243),oo 36<|.new [.int .i64 0,.int .i64 0],oz<|.st 2 (.t 36) (.t 249),oo 37<|.mv (.t 250)]
def nY : List O :=[oo 252<|.ld (some 4) (.t 15),oo 253<|.Fi 2 1 (.t 33) (ki 0),oo 254<|.ld none (.t 253),oo 255<|.Fi 2 1 (.t 33) (ki 1),oo 256<|.ld none (.t 255),oo 257<|.call ZP [.t 252,.t 254,.t 256],oo 251<|.mv (.t 257),oo 258<|.ext 0 (.t 251),oo 259<|.ext 1 (.t 251),oo 260<|.ext 2 (.t 251),oo 38<|.new [.int .i64 0,.own 2 [],.int .i64 0,.own 1 []],oz<|.st 4 (.t 38) (.t 258),oo 39<|.mv (.t 259),oo 40<|.mv (.t 260)]
def nX : List O :=[oo 262<|.ld (some 4) (.t 15),oo 263<|.Fi 2 1 (.t 33) (ki 0),oo 264<|.ld none (.t 263),oo 265<|.Fi 2 1 (.t 33) (ki 1),oo 266<|.ld none (.t 265),oo 267<|.call nQx [.t 262,.t 264,.t 266],oo 261<|.mv (.t 267),oo 268<|.ext 0 (.t 261),oo 269<|.ext 1 (.t 261),oo 270<|.ext 2 (.t 261),oo 41<|.new [.int .i64 0,.own 2 [],.int .i64 0,.own 1 []],oz<|.st 4 (.t 41) (.t 268),oo 42<|.mv (.t 269),oo 43<|.mv (.t 270)]
def nW : List O :=[oo 272<|.ld (some 4) (.t 15),oo 273<|.Fi 2 1 (.t 33) (ki 0),oo 274<|.ld none (.t 273),oo 275<|.Fi 2 1 (.t 33) (ki 1),oo 276<|.ld none (.t 275),oo 277<|.call ZO [.t 272,.t 274,.t 276],oo 271<|.mv (.t 277),oo 278<|.ext 0 (.t 271),oo 279<|.ext 1 (.t 271),oo 280<|.ext 2 (.t 271),oo 44<|.new [.int .i64 0,.own 2 [],.int .i64 0,.own 1 []],oz<|.st 4 (.t 44) (.t 278),oo 45<|.mv (.t 279),oo 46<|.mv (.t 280)]
def nV : List O :=[oo 282<|.ld (some 4) (.t 15),oo 283<|.Fi 2 1 (.t 33) (ki 0),oo 284<|.ld none (.t 283),oo 285<|.Fi 2 1 (.t 33) (ki 1),oo 286<|.ld none (.t 285),oo 287<|.call nQz [.t 282,.t 284,.t 286],oo 281<|.mv (.t 287),oo 288<|.ext 0 (.t 281),oo 289<|.ext 1 (.t 281),oo 290<|.ext 2 (.t 281),oo 47<|.new [.int .i64 0,.own 2 [],.int .i64 0,.own 1 []],oz<|.st 4 (.t 47) (.t 288),oo 48<|.mv (.t 289),oo 49<|.mv (.t 290)]
def nU : List O :=[oo 291<|.mv (.t 35),oo 292<|.mv (.t 37),oo 293<|.bin .neq (.t 291) (.t 292),oo 294<|.mv (.t 293),gf 295 294<|.ld (some 2) (.t 34),gf 296 294<|.ld (some 2) (.t 36),gf 297 294<|.eq true (.str [true,true]) (.t 295) (.t 296),oo 298<|.pick (.t 294) (.k (.bool true)) (.t 297),oo 299<|.mv (.t 298),gf 300 299<|.mv (.t 40),gf 301 299<|.mv (.t 43),gf 302 299<|.bin .neq (.t 300) (.t 301),oo 303<|.pick (.t 299) (.k (.bool true)) (.t 302),oo 304<|.mv (.t 303),gf 305 304<|.mv (.t 39),gf 306 304<|.mv (.t 42),gf 307 304<|.bin .neq (.t 305) (.t 306),oo 308<|.pick (.t 304) (.k (.bool true)) (.t 307),oo 309<|.mv (.t 308),gf 310 309<|.ld (some 4) (.t 38),gf 311 309<|.ld (some 4) (.t 41),gf 312 309<|.call ZS [.t 310,.t 311],gf 313 309<|.un .not (.t 312),oo 314<|.pick (.t 309) (.k (.bool true)) (.t 313),oo 315<|.mv (.t 314),gf 316 315<|.mv (.t 46),gf 317 315<|.mv (.t 49),gf 318 315<|.bin .neq (.t 316) (.t 317),oo 319<|.pick (.t 315) (.k (.bool true)) (.t 318),oo 320<|.mv (.t 319),gf 321 320<|.mv (.t 45),gf 322 320<|.mv (.t 48),gf 323 320<|.bin .neq (.t 321) (.t 322),oo 324<|.pick (.t 320) (.k (.bool true)) (.t 323),oo 325<|.mv (.t 324),gf 326 325<|.ld (some 4) (.t 44),gf 327 325<|.ld (some 4) (.t 47),gf 328 325<|.call ZS [.t 326,.t 327],gf 329 325<|.un .not (.t 328),oo 330<|.pick (.t 325) (.k (.bool true)) (.t 329)]
def nT : List O :=[oo 8<|.mv (.k (.bool false))]
def nS : List O :=[oo 331<|.bin .add (.t 231) (ki 1),oo 231<|.mv (.t 331)]
def Oj : C := (.seq (.aH n8 false [] [2,3,9,15,115,116,117,229,230,231,232]) (.seq (.cond (.t 232) .skip (.exit 2)) (.seq (.aJ 3 (.seq (.aH n7 false [] [2,3,9,15,33,115,116,117,229,230,231]) (.seq (.aH n6 false [] [2,3,9,15,33,34,35,115,116,117,229,230,231]) (.seq (.aH nZ false [] [2,3,9,15,33,34,35,36,37,115,116,117,229,230,231]) (.seq (.aH nY false [] [2,3,9,15,33,34,35,36,37,38,39,40,115,116,117,229,230,231]) (.seq (.aH nX false [] [2,3,9,15,33,34,35,36,37,38,39,40,41,42,43,115,116,117,229,230,231]) (.seq (.aH nW false [] [2,3,9,15,33,34,35,36,37,38,39,40,41,42,43,44,45,46,115,116,117,229,230,231]) (.seq (.aH nV false [] [2,3,9,15,34,35,36,37,38,39,40,41,42,43,44,45,46,47,48,49,115,116,117,229,230,231]) (.seq (.aH nU false [] [2,3,9,15,115,116,117,229,230,231,330]) (.cond (.t 330) (.seq (.aH nT false [] [8]) .ret) .skip)))))))))) (.aH nS false [] [2,3,9,15,115,116,117,229,230,231]))))
def nQ : List O :=[oo 332<|.bin .add (.t 117) (ki 1),oo 117<|.mv (.t 332)]
def Oi : C := (.seq (.aH oB false [] [2,3,9,115,116,117,118]) (.seq (.cond (.t 118) .skip (.exit 0)) (.seq (.aJ 1 (.seq (.aH oA false [] [2,3,9,15,115,116,117]) (.seq (.aH ox false [] [2,3,9,15,16,17,115,116,117]) (.seq (.aH ot false [] [2,3,9,15,16,17,18,19,115,116,117]) (.seq (.aH oq false [] [2,3,9,15,16,17,18,19,20,21,115,116,117]) (.seq (.aH om false [] [2,3,9,15,16,17,18,19,20,21,22,23,115,116,117]) (.seq (.aH oi false [] [2,3,9,15,16,17,18,19,20,21,22,23,24,25,115,116,117]) (.seq (.aH oh false [] [2,3,9,15,16,17,18,19,20,21,22,23,24,25,26,27,115,116,117]) (.seq (.aH oe false [] [2,3,9,15,16,17,18,19,20,21,22,23,24,25,26,27,28,29,115,116,117]) (.seq (.aH od false [] [2,3,9,15,16,17,18,19,20,21,22,23,24,25,26,27,28,29,30,31,115,116,117]) (.seq (.seq (.aH ob true [(2,2),(3,3),(6,6),(7,7),(8,8),(11,11),(12,12),(13,13),(16,16),(17,17),(18,18),(21,21),(22,22),(23,23),(26,26),(27,27),(28,28),(29,29),(32,32),(33,33),(34,34),(37,37),(38,38),(39,39),(40,40),(44,44),(45,45),(46,46),(30,31),(35,36),(41,43),(42,43)] [2,3,9,15,115,116,117,215]) (.cond (.t 215) (.seq (.aH oa false [] [8]) .ret) .skip)) (.seq (.aH n9 false [] [2,3,9,15,115,116,117,229,230,231]) (.aJ 2 (.loop Oj)))))))))))))) (.aH nQ false [] [2,3,9,115,116,117]))))
def nP : List O :=[oo 333<|.call nQd [],oo 8<|.mv (.t 333)]
def cQa : C := (.seq (.aH tK false [] [0,2,3,5]) (.seq (.seq (.aH tJ false [] [0,2,3,5,64]) (.cond (.t 64) (.seq (.aH tI false [] [8]) .ret) .skip)) (.seq (.aH tH false [] [2,3,5,9]) (.seq (.aH tG false [] [2,3,5,9,10]) (.seq (.aH tF false [] [2,3,5,9,10,11]) (.seq (.aH tD false [] [2,3,5,9,10,11,13]) (.seq (.aH tC false [] [2,3,5,9,10,11,13]) (.seq (.seq (.aH tB false [] [2,3,5,9,10,11,13,88]) (.cond (.t 88) (.aH tA true [(7,7),(8,8),(9,9),(10,10),(11,11),(1,2),(1,3),(0,4),(1,4),(2,4),(1,5),(0,6),(1,6)] [2,3,5,9,10,11,13]) (.aH oD false [] [2,3,5,9,10,11,13]))) (.seq (.seq (.aH oC true [(0,1),(0,2),(1,2),(0,3),(1,3),(2,3),(0,4),(1,4),(2,4),(3,4),(0,5),(1,5),(2,5),(0,6),(1,6),(2,6),(4,6),(5,6),(0,7),(1,7),(2,7),(3,7),(4,7),(5,7),(0,8),(1,8),(2,8),(4,8),(5,8),(7,8),(0,9),(1,9),(2,9),(3,9),(4,9),(5,9),(6,9),(7,9),(0,10),(1,10),(2,10),(0,13),(1,13),(2,13),(4,13),(5,13),(7,13),(9,13),(11,13)] [2,3,9,115,116,117]) (.aJ 0 (.loop Oi))) (.seq (.aH nP false [] [8]) .ret))))))))))
def qQa : eR := ⟨334,4,[.t 8],cQa⟩
/- cohesion/cohesionmake.Few -/
def adQ : List O :=[oo 2<|.mv (.k (.bool false))]
def adP : List O :=[oo 3<|.mv (.t 0),oo 4<|.len (.t 3),oo 5<|.bin .leq (.t 4) (ki 500),oo 2<|.mv (.t 5)]
def cQb : C := (.seq (.aH adQ false [] [0]) (.seq (.aH adP false [] [2]) .ret))
def qQb : eR := ⟨6,1,[.t 2],cQb⟩
/- cohesion/cohesionmake.Light -/
def Sr : List O :=[oo 2<|.box (.t 0),oo 4<|.mv (.k (.bool false))]
def Sq : List O :=[oo 5<|.cC 0 (.t 2),oo 6<|.ld none (.t 5),oo 7<|.mv (.t 1),oo 8<|.bin .leq (.t 6) (.t 7),oo 9<|.mv (.t 8),gt 10 9<|.cC 1 (.t 2),gt 11 9<|.ld none (.t 10),gt 12 9<|.len (.t 11),gt 13 9<|.mv (.t 1),gt 14 9<|.mv (.t 1),gt 15 9<|.bin .mul (.t 13) (.t 14),gt 16 9<|.bin .leq (.t 12) (.t 15),oo 17<|.pick (.t 9) (.t 16) (.k (.bool false)),oo 4<|.mv (.t 17)]
def cQc : C := (.seq (.aH Sr false [] [1,2]) (.seq (.aH Sq false [] [4]) .ret))
def qQc : eR := ⟨18,2,[.t 4],cQc⟩
/- cohesion/cohesionlaw29.awake -/
def ahY : List O :=[oo 0<|.mv (.k (.bool false))]
def ahX : List O :=[oo 8<|.build [.int .i64 0,.int .i64 0] [(0,1,ki 0),(1,1,ki 1)],oo 9<|.build [.int .i64 0,.int .i64 0] [(0,1,ki 0),(1,1,ki 2)],oo 10<|.build [.int .i64 0,.int .i64 0] [(0,1,ki 1),(1,1,ki 2)],oo 11<|.build [.int .i64 0,.int .i64 0] [(0,1,ki 1),(1,1,ki 3)],oo 12<|.build [.int .i64 0,.int .i64 0] [(0,1,ki 2),(1,1,ki 3)],oo 13<|.eE 2 5 [.int .i64 0,.int .i64 0] [(0,2,.t 8),(2,2,.t 9),(4,2,.t 10),(6,2,.t 11),(8,2,.t 12)],oo 14<|.call nQA [ki 4,.t 13],oo 7<|.mv (.t 14),oo 15<|.ext 0 (.t 7),oo 16<|.ext 1 (.t 7),oo 1<|.new [.int .i64 0,.own 2 []],oz<|.st 2 (.t 1) (.t 15),oo 2<|.mv (.t 16)]
def ahW : List O :=[oo 18<|.ld (some 2) (.t 1),oo 19<|.call ZU [.t 18],oo 17<|.mv (.t 19),oo 20<|.ext 0 (.t 17),oo 21<|.ext 1 (.t 17),oo 3<|.mv (.t 20),oo 4<|.mv (.t 21)]
def ahV : List O :=[oo 23<|.ld (some 2) (.t 1),oo 24<|.call ZT [.t 23],oo 22<|.mv (.t 24),oo 25<|.ext 0 (.t 22),oo 26<|.ext 1 (.t 22),oo 5<|.new [.int .i64 0,.int .i64 0],oz<|.st 2 (.t 5) (.t 25),oo 6<|.mv (.t 26)]
def ahU : List O :=[oo 27<|.mv (.t 4),oo 28<|.bin .eql (.t 27) (ki 0),oo 29<|.mv (.t 28),gt 30 29<|.mv (.t 3),gt 31 29<|.bin .eql (.t 30) (ki 2),oo 32<|.pick (.t 29) (.t 31) (.k (.bool false)),oo 33<|.mv (.t 32),gt 34 33<|.mv (.t 6),gt 35 33<|.bin .eql (.t 34) (ki 0),oo 36<|.pick (.t 33) (.t 35) (.k (.bool false)),oo 37<|.mv (.t 36),gt 38 37<|.ld (some 2) (.t 5),gt 39 37<|.build [.int .i64 0,.int .i64 0] [(0,1,ki 3),(1,1,ki 4)],gt 40 37<|.eq false (.str [true,true]) (.t 38) (.t 39),oo 41<|.pick (.t 37) (.t 40) (.k (.bool false)),oo 0<|.mv (.t 41)]
def cQd : C := (.seq (.aH ahY false [] []) (.seq (.aH ahX false [] [1]) (.seq (.aH ahW false [] [1,3,4]) (.seq (.aH ahV false [] [3,4,5,6]) (.seq (.aH ahU false [] [0]) .ret)))))
def qQd : eR := ⟨42,0,[.t 0],cQd⟩
/- cohesion/cohesionmake.New -/
def adO : List O :=[oo 2<|.mv (.k .fk)]
def adN : List O :=[oo 3<|.mv (.t 0),oo 4<|.build [.own 1 [],.int .i64 0] [(0,1,.t 3)],oo 5<|.box (.t 4),oo 2<|.mv (.t 5)]
def cQe : C := (.seq (.aH adO false [] [0]) (.seq (.aH adN false [] [2]) .ret))
def qQe : eR := ⟨6,1,[.t 2],cQe⟩
/- cohesion/cohesionmake.Graph -/
def BB : List O :=[oo 4<|.new [.int .i64 0,.own 2 []]]
def BA : List O :=[oo 9<|.mv (.t 0),oo 10<|.mv (.t 1),oo 11<|.bin .add (.t 10) (ki 1),oo 12<|.call CQ [.t 9,.t 11],oo 13<|.build [.int .i64 0,.own 2 []] [(0,1,.t 12)],oo 5<|.new [.int .i64 0,.own 2 []],oz<|.st 2 (.t 5) (.t 13)]
def Bz : List O :=[oo 14<|.cC 0 (.t 5),oo 15<|.ld none (.t 14),oo 16<|.bin .lss (.t 15) (ki 4)]
def Bx : List O :=[oo 17<|.mv (.t 1),oo 18<|.cC 0 (.t 5),oo 19<|.ld none (.t 18),oo 20<|.mv (.t 0),oo 21<|.mv (.t 1),oo 22<|.bin .add (.t 21) (ki 1),oo 23<|.call CQ [.t 20,.t 22],oo 24<|.bin .add (.t 19) (.t 23),oo 25<|.min [.t 17,.t 24],oo 26<|.cC 0 (.t 5),oz<|.st 1 (.t 26) (.t 25)]
def Bw : List O :=[oo 27<|.mv (.t 0),oo 28<|.call CQ [.t 27,ki 4],oo 29<|.bin .add (ki 1) (.t 28),oo 6<|.mv (.t 29)]
def Bv : List O :=[oo 7<|.mv (ki 0)]
def Bu : List O :=[oo 30<|.mv (.t 7),oo 31<|.cC 0 (.t 5),oo 32<|.ld none (.t 31),oo 33<|.bin .lss (.t 30) (.t 32)]
def Bt : List O :=[oo 36<|.mv (.t 7),oo 37<|.bin .add (.t 36) (ki 1),oo 8<|.mv (.t 37)]
def Bs : List O :=[oo 38<|.mv (.t 8),oo 39<|.cC 0 (.t 5),oo 40<|.ld none (.t 39),oo 41<|.bin .lss (.t 38) (.t 40)]
def Br : List O :=[oo 44<|.mv (.t 0),oo 45<|.call CQ [.t 44,ki 5],oo 46<|.mv (.t 6),oo 47<|.bin .sub (ki 5) (.t 46),oo 48<|.bin .geq (.t 45) (.t 47)]
def tx : List O :=[oo 49<|.cC 1 (.t 5),oo 50<|.ld none (.t 49),oo 51<|.mv (.t 7),oo 52<|.mv (.t 8),oo 53<|.build [.int .i64 0,.int .i64 0] [(0,1,.t 51),(1,1,.t 52)],oo 54<|.eE 2 1 [.int .i64 0,.int .i64 0] [(0,2,.t 53)],oo 55<|.app 2 (.t 50) (.t 54),oo 56<|.cC 1 (.t 5),oz<|.st 1 (.t 56) (.t 55)]
def tw : List O :=[oo 42<|.mv (.t 8),oo 43<|.bin .add (.t 42) (ki 1),oo 8<|.mv (.t 43)]
def Fe : C := (.seq (.seq (.aH Bs false [] [0,4,5,6,7,8,41]) (.cond (.t 41) .skip (.exit 2))) (.seq (.aJ 3 (.seq (.aH Br false [] [0,4,5,6,7,8,48]) (.cond (.t 48) (.aH tx false [] [0,4,5,6,7,8]) .skip))) (.aH tw false [] [0,4,5,6,7,8])))
def tv : List O :=[oo 34<|.mv (.t 7),oo 35<|.bin .add (.t 34) (ki 1),oo 7<|.mv (.t 35)]
def Oh : C := (.seq (.seq (.aH Bu false [] [0,4,5,6,7,33]) (.cond (.t 33) .skip (.exit 0))) (.seq (.aJ 1 (.seq (.aH Bt false [] [0,4,5,6,7,8]) (.aJ 2 (.loop Fe)))) (.aH tv false [] [0,4,5,6,7])))
def tu : List O :=[oo 57<|.ld (some 2) (.t 5),oz<|.st 2 (.t 4) (.t 57)]
def cQf : C := (.seq (.aH BB false [] [0,1,4]) (.seq (.aH BA false [] [0,1,4,5]) (.seq (.seq (.aH Bz false [] [0,1,4,5,16]) (.cond (.t 16) (.aH Bx true [(8,8),(9,9),(10,10),(0,2),(2,3),(2,4),(2,5),(0,6),(1,6),(2,6)] [0,4,5]) .skip)) (.seq (.aH Bw false [] [0,4,5,6]) (.seq (.seq (.aH Bv false [] [0,4,5,6,7]) (.aJ 0 (.loop Oh))) (.seq (.aH tu false [] [4]) .ret))))))
def qQf : eR := ⟨58,2,[.c 4 (some 2)],cQf⟩
/- cohesion/cohesionref29.Open -/
def Yr : List O :=[oo 1<|.box (.t 0),oo 2<|.new [.int .i64 0,.own 2 [],.int .i64 0,.own 1 []],oo 3<|.mv (ki 0)]
def Yq : List O :=[oo 9<|.ld (some 2) (.t 1),oo 10<|.call Vs [.t 9],oo 8<|.mv (.t 10),oo 11<|.ext 0 (.t 8),oo 12<|.ext 1 (.t 8),oo 4<|.mv (.t 11),oo 5<|.mv (.t 12)]
def Yp : List O :=[oo 13<|.mv (.t 5),oo 14<|.bin .neq (.t 13) (ki 0)]
def Yo : List O :=[oo 15<|.build [.int .i64 0,.own 2 [],.int .i64 0,.own 1 []] [],oo 16<|.mv (.t 5),oz<|.st 4 (.t 2) (.t 15),oo 3<|.mv (.t 16)]
def Yn : List O :=[oo 18<|.ld (some 2) (.t 1),oo 19<|.call WL [.t 18],oo 17<|.mv (.t 19),oo 20<|.ext 0 (.t 17),oo 21<|.ext 1 (.t 17),oo 6<|.mv (.t 20),oo 7<|.mv (.t 21)]
def Ym : List O :=[oo 22<|.ld (some 2) (.t 1),oo 23<|.mv (.t 6),oo 24<|.mv (.t 4),oo 25<|.build [.int .i64 0,.own 2 [],.int .i64 0,.own 1 []] [(0,2,.t 22),(2,1,.t 23),(3,1,.t 24)],oz<|.st 4 (.t 2) (.t 25),oo 3<|.mv (ki 0)]
def cQg : C := (.seq (.aH Yr false [] [1,2]) (.seq (.aH Yq false [] [1,2,4,5]) (.seq (.seq (.aH Yp false [] [1,2,4,5,14]) (.cond (.t 14) (.seq (.aH Yo false [] [2,3]) .ret) .skip)) (.seq (.aH Yn false [] [1,2,4,6]) (.seq (.aH Ym false [] [2,3]) .ret)))))
def qQg : eR := ⟨26,1,[.c 2 (some 4),.t 3],cQg⟩
/- (*cohesion/cohesionmake.Deck).Next -/
def Sp : List O :=[oo 4<|.mv (ki 0)]
def Sn : List O :=[oo 6<|.mv (.t 1),oo 7<|.bin .lss (.t 6) (ki 1),oo 8<|.mv (.t 7),gf 9 8<|.mv (.t 0),gf 10 8<|.kU (.t 9),gf 11 8<|.cC 1 (.t 10),gf 12 8<|.ld none (.t 11),gf 13 8<|.mv (.t 0),gf 14 8<|.kU (.t 13),gf 15 8<|.cC 0 (.t 14),gf 16 8<|.ld none (.t 15),gf 17 8<|.len (.t 16),gf 18 8<|.bin .geq (.t 12) (.t 17),oo 19<|.pick (.t 8) (.k (.bool true)) (.t 18)]
def Sm : List O :=[oo 4<|.mv (ki 0)]
def Sl : List O :=[oo 20<|.mv (.t 0),oo 21<|.kU (.t 20),oo 22<|.cC 0 (.t 21),oo 23<|.ld none (.t 22),oo 24<|.mv (.t 0),oo 25<|.kU (.t 24),oo 26<|.cC 1 (.t 25),oo 27<|.ld none (.t 26),oo 28<|.gw 1 (.t 23) (.t 27),oo 29<|.ld none (.t 28),oo 5<|.mv (.t 29)]
def Sk : List O :=[oo 30<|.mv (.t 0),oo 31<|.kU (.t 30),oo 32<|.cC 1 (.t 31),oo 33<|.ld none (.t 32),oo 34<|.bin .add (.t 33) (ki 1),oo 35<|.kU (.t 30),oo 36<|.cC 1 (.t 35),oz<|.st 1 (.t 36) (.t 34)]
def Sj : List O :=[oo 37<|.mv (.t 5),oo 38<|.mv (.t 1),oo 39<|.call nQB [.t 37,.t 38],oo 4<|.mv (.t 39)]
def cQh : C := (.seq (.aH Sp false [] [0,1]) (.seq (.seq (.aH Sn true [(0,0),(1,1),(2,2),(12,12),(13,13),(6,7),(6,8),(6,9),(3,10),(4,10),(5,10),(6,10),(6,11)] [0,1,19]) (.cond (.t 19) (.seq (.aH Sm false [] [4]) .ret) .skip)) (.seq (.aH Sl true [(8,8),(9,9),(10,10),(3,4),(3,5),(3,6),(0,7),(1,7),(2,7),(3,7)] [0,1,5]) (.seq (.aH Sk false [] [1,5]) (.seq (.aH Sj false [] [4]) .ret)))))
def qQh : eR := ⟨40,2,[.t 4],cQh⟩
/- cohesion/cohesionmake.Spoilt -/
def sa : List O :=[oo 3<|.box (.t 1),oo 4<|.new [.int .i64 0,.own 2 []]]
def r9 : List O :=[oo 7<|.cC 1 (.t 3),oo 8<|.ld none (.t 7),oo 9<|.app 2 (.k (.own 2 [])) (.t 8),oo 10<|.cC 1 (.t 3),oz<|.st 1 (.t 10) (.t 9)]
def r8 : List O :=[oo 11<|.cC 1 (.t 3),oo 12<|.ld none (.t 11),oo 13<|.len (.t 12),oo 5<|.mv (.t 13)]
def r7 : List O :=[oo 14<|.mv (.t 0),oo 15<|.call CQ [.t 14,ki 6]]
def rZ : List O :=[oo 17<|.bin .eql (.t 15) (ki 0),oo 16<|.mv (.t 17)]
def rY : List O :=[oo 18<|.mv (.t 0),oo 19<|.call CQ [.t 18,ki 70],oo 20<|.bin .sub (.t 19) (ki 2),oo 21<|.cC 0 (.t 3),oz<|.st 1 (.t 21) (.t 20)]
def rX : List O :=[oo 23<|.bin .eql (.t 15) (ki 1),oo 22<|.mv (.t 23)]
def rW : List O :=[oo 24<|.mv (.t 5),oo 25<|.bin .gtr (.t 24) (ki 0)]
def rV : List O :=[oo 26<|.mv (.t 0),oo 27<|.mv (.t 5),oo 28<|.call CQ [.t 26,.t 27],oo 6<|.mv (.t 28)]
def rU : List O :=[oo 29<|.cC 1 (.t 3),oo 30<|.ld none (.t 29),oo 31<|.mv (.t 6),oo 32<|.cC 1 (.t 3),oo 33<|.ld none (.t 32),oo 34<|.mv (.t 6),oo 35<|.cC 1 (.t 3),oo 36<|.ld none (.t 35),oo 37<|.mv (.t 6),oo 38<|.gw 2 (.t 36) (.t 37),oo 39<|.cC 1 (.t 38),oo 40<|.ld none (.t 39),oo 41<|.cC 1 (.t 3),oo 42<|.ld none (.t 41),oo 43<|.mv (.t 6),oo 44<|.gw 2 (.t 42) (.t 43),oo 45<|.cC 0 (.t 44),oo 46<|.ld none (.t 45),oo 47<|.gw 2 (.t 30) (.t 31),oo 48<|.cC 0 (.t 47),oz<|.st 1 (.t 48) (.t 40),oo 49<|.gw 2 (.t 33) (.t 34),oo 50<|.cC 1 (.t 49),oz<|.st 1 (.t 50) (.t 46)]
def mS : List O :=[oo 52<|.bin .eql (.t 15) (ki 2),oo 51<|.mv (.t 52)]
def mR : List O :=[oo 53<|.mv (.t 5),oo 54<|.bin .gtr (.t 53) (ki 1)]
def mQ : List O :=[oo 55<|.cC 1 (.t 3),oo 56<|.ld none (.t 55),oo 57<|.cC 1 (.t 3),oo 58<|.ld none (.t 57),oo 59<|.mv (.t 5),oo 60<|.bin .sub (.t 59) (ki 1),oo 61<|.cC 1 (.t 3),oo 62<|.ld none (.t 61),oo 63<|.mv (.t 5),oo 64<|.bin .sub (.t 63) (ki 1),oo 65<|.gw 2 (.t 62) (.t 64),oo 66<|.ld (some 2) (.t 65),oo 67<|.cC 1 (.t 3),oo 68<|.ld none (.t 67),oo 69<|.gw 2 (.t 68) (ki 0),oo 70<|.ld (some 2) (.t 69),oo 71<|.gw 2 (.t 56) (ki 0),oz<|.st 2 (.t 71) (.t 66),oo 72<|.gw 2 (.t 58) (.t 60),oz<|.st 2 (.t 72) (.t 70)]
def mP : List O :=[oo 74<|.bin .eql (.t 15) (ki 3),oo 73<|.mv (.t 74)]
def mO : List O :=[oo 75<|.mv (.t 5),oo 76<|.bin .gtr (.t 75) (ki 0)]
def mN : List O :=[oo 77<|.cC 1 (.t 3),oo 78<|.ld none (.t 77),oo 79<|.cC 1 (.t 3),oo 80<|.ld none (.t 79),oo 81<|.mv (.t 5),oo 82<|.bin .sub (.t 81) (ki 1),oo 83<|.gw 2 (.t 80) (.t 82),oo 84<|.ld (some 2) (.t 83),oo 85<|.eE 2 1 [.int .i64 0,.int .i64 0] [(0,2,.t 84)],oo 86<|.app 2 (.t 78) (.t 85),oo 87<|.cC 1 (.t 3),oz<|.st 1 (.t 87) (.t 86)]
def mM : List O :=[oo 89<|.bin .eql (.t 15) (ki 4),oo 88<|.mv (.t 89)]
def mL : List O :=[oo 90<|.mv (.t 5),oo 91<|.bin .gtr (.t 90) (ki 0)]
def mK : List O :=[oo 92<|.cC 1 (.t 3),oo 93<|.ld none (.t 92),oo 94<|.mv (.t 0),oo 95<|.mv (.t 5),oo 96<|.call CQ [.t 94,.t 95],oo 97<|.gw 2 (.t 93) (.t 96),oo 98<|.cC 1 (.t 97),oo 99<|.ld none (.t 98),oo 100<|.mv (.t 0),oo 101<|.call CQ [.t 100,ki 5],oo 102<|.bin .sub (.t 101) (ki 2),oo 103<|.bin .add (.t 99) (.t 102),oo 104<|.gw 2 (.t 93) (.t 96),oo 105<|.cC 1 (.t 104),oz<|.st 1 (.t 105) (.t 103)]
def mJ : List O :=[oo 106<|.ld (some 2) (.t 3),oz<|.st 2 (.t 4) (.t 106)]
def WT : C := (.seq (.aH sa false [] [0,3,4]) (.seq (.aH r9 false [] [0,3,4]) (.seq (.seq (.aH r8 false [] [0,3,4,5]) (.seq (.aH r7 false [] [0,3,4,5,15]) (.aJ 0 (.seq (.aH rZ false [] [0,3,4,5,15,16]) (.cond (.t 16) (.aH rY false [] [3,4]) (.seq (.aH rX false [] [0,3,4,5,15,22]) (.cond (.t 22) (.seq (.aH rW false [] [0,3,4,5,25]) (.cond (.t 25) (.seq (.aH rV false [] [3,4,6]) (.aH rU true [(21,21),(22,22),(23,23),(1,2),(1,3),(0,4),(1,4),(2,4),(1,5),(4,5),(1,6),(4,6),(0,7),(1,7),(2,7),(3,7),(4,7),(5,7),(1,8),(4,8),(7,8),(1,9),(4,9),(1,10),(4,10),(0,11),(1,11),(2,11),(3,11),(4,11),(5,11),(1,12),(4,12),(7,12),(11,12),(0,13),(1,13),(2,13),(3,13),(4,13),(5,13),(6,13),(7,13),(8,13),(9,13),(10,13),(11,13),(1,14),(4,14),(7,14),(11,14),(13,14),(1,15),(4,15),(7,15),(11,15),(1,16),(4,16),(7,16),(11,16),(0,17),(1,17),(2,17),(3,17),(4,17),(5,17),(6,17),(7,17),(8,17),(9,17),(10,17),(11,17),(4,18),(4,19),(3,20),(4,20),(5,20)] [3,4])) .skip)) (.seq (.aH mS false [] [0,3,4,5,15,51]) (.cond (.t 51) (.seq (.aH mR false [] [3,4,5,54]) (.cond (.t 54) (.aH mQ true [(18,18),(19,19),(1,2),(0,3),(1,3),(1,4),(3,4),(1,5),(3,5),(1,6),(3,6),(0,7),(1,7),(2,7),(3,7),(4,7),(5,7),(1,8),(3,8),(7,8),(1,9),(3,9),(7,9),(1,10),(3,10),(0,11),(1,11),(2,11),(3,11),(4,11),(5,11),(1,12),(3,12),(7,12),(11,12),(0,13),(1,13),(2,13),(3,13),(4,13),(5,13),(6,13),(7,13),(8,13),(9,13),(10,13),(11,13),(1,14),(3,14),(7,14),(11,14),(0,15),(1,15),(2,15),(3,15),(4,15),(5,15),(6,15),(7,15),(8,15),(9,15),(10,15),(11,15),(3,16),(2,17),(3,17),(4,17),(5,17)] [3,4]) .skip)) (.seq (.aH mP false [] [0,3,4,5,15,73]) (.cond (.t 73) (.seq (.aH mO false [] [3,4,5,76]) (.cond (.t 76) (.aH mN true [(9,9),(10,10),(11,11),(1,2),(0,3),(1,3),(1,4),(3,4),(1,5),(3,5),(1,6),(0,7),(1,7),(0,8),(1,8)] [3,4]) .skip)) (.seq (.aH mM false [] [0,3,4,5,88]) (.cond (.t 88) (.seq (.aH mL false [] [0,3,4,5,91]) (.cond (.t 91) (.aH mK true [(11,11),(12,12),(13,13),(14,14),(1,2),(1,3),(0,4),(1,4),(1,8),(4,8),(7,8),(0,9),(1,9),(5,9),(6,9),(7,9),(1,10),(7,10)] [3,4]) .skip)) .skip))))))))))))) (.seq (.aH mJ false [] [4]) .ret))))
def Tf : eR := ⟨107,2,[.c 4 (some 2)],WT⟩
/- cohesion/triangles.Count -/
def Yl : List O :=[oo 1<|.box (.t 0),oo 2<|.mv (ki 0),oo 3<|.mv (ki 0)]
def Yk : List O :=[oo 7<|.ld (some 2) (.t 1),oo 8<|.call QJ [.t 7],oo 4<|.mv (.t 8)]
def Yj : List O :=[oo 9<|.mv (.t 4),oo 10<|.bin .neq (.t 9) (ki 0)]
def Yi : List O :=[oo 11<|.mv (.t 4),oo 2<|.mv (ki 0),oo 3<|.mv (.t 11)]
def Yh : List O :=[oo 13<|.ld (some 2) (.t 1),oo 14<|.call Vu [.t 13],oo 12<|.mv (.t 14),oo 15<|.ext 0 (.t 12),oo 16<|.ext 1 (.t 12),oo 5<|.mv (.t 15),oo 6<|.mv (.t 16)]
def Yg : List O :=[oo 17<|.mv (.t 5),oo 2<|.mv (.t 17),oo 3<|.mv (ki 0)]
def cQj : C := (.seq (.aH Yl false [] [1]) (.seq (.seq (.aH Yk false [] [1,4]) (.seq (.aH Yj false [] [1,4,10]) (.cond (.t 10) (.seq (.aH Yi false [] [2,3]) .ret) .skip))) (.seq (.aH Yh false [] [5]) (.seq (.aH Yg false [] [2,3]) .ret))))
def qQj : eR := ⟨18,1,[.t 2,.t 3],cQj⟩
/- cohesion/cohesionref29.Count -/
def Nc : List O :=[oo 1<|.box (.t 0),oo 2<|.mv (ki 0),oo 3<|.mv (ki 0)]
def Na : List O :=[oo 9<|.ld (some 2) (.t 1),oo 10<|.call Vs [.t 9],oo 8<|.mv (.t 10),oo 11<|.ext 0 (.t 8),oo 12<|.ext 1 (.t 8),oo 4<|.mv (.t 11),oo 5<|.mv (.t 12)]
def M9 : List O :=[oo 6<|.mv (ki 0)]
def M8 : List O :=[oo 7<|.mv (ki 0)]
def M7 : List O :=[oo 13<|.mv (.t 7),oo 14<|.mv (.t 4),oo 15<|.len (.t 14),oo 16<|.bin .lss (.t 13) (.t 15)]
def M6 : List O :=[oo 19<|.mv (.t 6),oo 20<|.mv (.t 4),oo 21<|.mv (.t 7),oo 22<|.gw 1 (.t 20) (.t 21),oo 23<|.ld none (.t 22),oo 24<|.bin .add (.t 19) (.t 23),oo 6<|.mv (.t 24)]
def M5 : List O :=[oo 17<|.mv (.t 7),oo 18<|.bin .add (.t 17) (ki 1),oo 7<|.mv (.t 18)]
def TZ : C := (.seq (.seq (.aH M7 false [] [4,5,6,7,16]) (.cond (.t 16) .skip (.exit 0))) (.seq (.aJ 1 (.aH M6 false [] [4,5,6,7])) (.aH M5 false [] [4,5,6,7])))
def M4 : List O :=[oo 25<|.mv (.t 6),oo 26<|.bin .quo (.t 25) (ki 3),oo 27<|.mv (.t 5),oo 2<|.mv (.t 26),oo 3<|.mv (.t 27)]
def cQk : C := (.seq (.aH Nc false [] [1]) (.seq (.aH Na false [] [4,5]) (.seq (.aH M9 false [] [4,5,6]) (.seq (.seq (.aH M8 false [] [4,5,6,7]) (.aJ 0 (.loop TZ))) (.seq (.aH M4 false [] [2,3]) .ret)))))
def qQk : eR := ⟨28,1,[.t 2,.t 3],cQk⟩
/- cohesion/triangles.Nodes -/
def Yf : List O :=[oo 1<|.box (.t 0),oo 2<|.mv (.k (.own 1 [])),oo 3<|.mv (ki 0)]
def Ye : List O :=[oo 7<|.ld (some 2) (.t 1),oo 8<|.call QJ [.t 7],oo 4<|.mv (.t 8)]
def Yd : List O :=[oo 9<|.mv (.t 4),oo 10<|.bin .neq (.t 9) (ki 0)]
def Yc : List O :=[oo 11<|.mv (.t 4),oo 2<|.mv (.k (.own 1 [])),oo 3<|.mv (.t 11)]
def Yb : List O :=[oo 13<|.ld (some 2) (.t 1),oo 14<|.call Vu [.t 13],oo 12<|.mv (.t 14),oo 15<|.ext 0 (.t 12),oo 16<|.ext 1 (.t 12),oo 5<|.mv (.t 15),oo 6<|.mv (.t 16)]
def Ya : List O :=[oo 17<|.mv (.t 6),oo 2<|.mv (.t 17),oo 3<|.mv (ki 0)]
def cQl : C := (.seq (.aH Yf false [] [1]) (.seq (.seq (.aH Ye false [] [1,4]) (.seq (.aH Yd false [] [1,4,10]) (.cond (.t 10) (.seq (.aH Yc false [] [2,3]) .ret) .skip))) (.seq (.aH Yb false [] [6]) (.seq (.aH Ya false [] [2,3]) .ret))))
def qQl : eR := ⟨18,1,[.t 2,.t 3],cQl⟩
/- cohesion/cohesionref29.Nodes -/
def DX : List O :=[oo 1<|.box (.t 0),oo 2<|.mv (.k (.own 1 [])),oo 3<|.mv (ki 0)]
def DW : List O :=[oo 9<|.ld (some 2) (.t 1),oo 10<|.call WM [.t 9],oo 4<|.mv (.t 10)]
def DV : List O :=[oo 11<|.mv (.t 4),oo 12<|.bin .neq (.t 11) (ki 0)]
def DU : List O :=[oo 13<|.mv (.t 4),oo 2<|.mv (.k (.own 1 [])),oo 3<|.mv (.t 13)]
def DT : List O :=[oo 14<|.cC 0 (.t 1),oo 15<|.ld none (.t 14),oo 16<|.Kn 1 [.int .i64 0] (.t 15) (.t 15),oo 5<|.mv (.t 16)]
def DS : List O :=[oo 6<|.mv (ki 0)]
def DR : List O :=[oo 17<|.mv (.t 6),oo 18<|.cC 1 (.t 1),oo 19<|.ld none (.t 18),oo 20<|.len (.t 19),oo 21<|.bin .lss (.t 17) (.t 20)]
def DQ : List O :=[oo 24<|.ld (some 2) (.t 1),oo 25<|.cC 1 (.t 1),oo 26<|.ld none (.t 25),oo 27<|.mv (.t 6),oo 28<|.gw 2 (.t 26) (.t 27),oo 29<|.cC 0 (.t 28),oo 30<|.ld none (.t 29),oo 31<|.cC 1 (.t 1),oo 32<|.ld none (.t 31),oo 33<|.mv (.t 6),oo 34<|.gw 2 (.t 32) (.t 33),oo 35<|.cC 1 (.t 34),oo 36<|.ld none (.t 35),oo 37<|.call nQF [.t 24,.t 30,.t 36],oo 7<|.mv (.t 37)]
def DP : List O :=[oo 8<|.mv (ki 0)]
def DO : List O :=[oo 38<|.mv (.t 8),oo 39<|.mv (.t 7),oo 40<|.len (.t 39),oo 41<|.bin .lss (.t 38) (.t 40)]
def wE : List O :=[oo 44<|.mv (.t 5),oo 45<|.mv (.t 7),oo 46<|.mv (.t 8),oo 47<|.gw 1 (.t 45) (.t 46),oo 48<|.ld none (.t 47),oo 49<|.gw 1 (.t 44) (.t 48),oo 50<|.ld none (.t 49),oo 51<|.bin .add (.t 50) (ki 1),oo 52<|.gw 1 (.t 44) (.t 48),oz<|.st 1 (.t 52) (.t 51)]
def wC : List O :=[oo 42<|.mv (.t 8),oo 43<|.bin .add (.t 42) (ki 1),oo 8<|.mv (.t 43)]
def Og : C := (.seq (.seq (.aH DO false [] [1,5,6,7,8,41]) (.cond (.t 41) .skip (.exit 2))) (.seq (.aJ 3 (.aH wE false [] [1,5,6,7,8])) (.aH wC false [] [1,5,6,7,8])))
def wB : List O :=[oo 22<|.mv (.t 6),oo 23<|.bin .add (.t 22) (ki 1),oo 6<|.mv (.t 23)]
def TY : C := (.seq (.seq (.aH DR false [] [1,5,6,21]) (.cond (.t 21) .skip (.exit 0))) (.seq (.aJ 1 (.seq (.aH DQ true [(13,13),(14,14),(0,1),(0,2),(0,3),(2,3),(0,4),(0,5),(0,6),(0,7),(2,7),(6,7),(0,8),(1,8),(2,8),(3,8),(4,8),(5,8),(6,8),(0,9),(2,9),(6,9),(8,9),(0,10),(2,10),(6,10),(0,11),(2,11),(6,11),(0,12),(1,12),(2,12),(3,12),(4,12),(5,12),(6,12)] [1,5,6,7]) (.seq (.aH DP false [] [1,5,6,7,8]) (.aJ 2 (.loop Og))))) (.aH wB false [] [1,5,6])))
def wA : List O :=[oo 53<|.mv (.t 5),oo 2<|.mv (.t 53),oo 3<|.mv (ki 0)]
def cQm : C := (.seq (.aH DX false [] [1]) (.seq (.seq (.aH DW false [] [1,4]) (.seq (.aH DV false [] [1,4,12]) (.cond (.t 12) (.seq (.aH DU false [] [2,3]) .ret) .skip))) (.seq (.aH DT false [] [1,5]) (.seq (.seq (.aH DS false [] [1,5,6]) (.aJ 0 (.loop TY))) (.seq (.aH wA false [] [2,3]) .ret)))))
def qQm : eR := ⟨54,1,[.t 2,.t 3],cQm⟩
/- cohesion/triangles.Whole -/
def M3 : List O :=[oo 1<|.box (.t 0),oo 2<|.new [.int .i64 0,.int .i64 0],oo 3<|.mv (ki 0)]
def M1 : List O :=[oo 10<|.ld (some 2) (.t 1),oo 11<|.call QJ [.t 10],oo 4<|.mv (.t 11)]
def M0 : List O :=[oo 12<|.mv (.t 4),oo 13<|.bin .neq (.t 12) (ki 0)]
def MZ : List O :=[oo 14<|.build [.int .i64 0,.int .i64 0] [],oo 15<|.mv (.t 4),oz<|.st 2 (.t 2) (.t 14),oo 3<|.mv (.t 15)]
def MY : List O :=[oo 17<|.ld (some 2) (.t 1),oo 18<|.call Vu [.t 17],oo 16<|.mv (.t 18),oo 19<|.ext 0 (.t 16),oo 20<|.ext 1 (.t 16),oo 5<|.mv (.t 19),oo 6<|.mv (.t 20)]
def MX : List O :=[oo 7<|.mv (ki 0)]
def MW : List O :=[oo 21<|.ld (some 2) (.t 1),oo 22<|.call nQG [.t 21],oo 23<|.len (.t 22),oo 24<|.mv (ki 0)]
def MV : List O :=[oo 25<|.bin .lss (.t 24) (.t 23)]
def MU : List O :=[oo 26<|.gw 1 (.t 22) (.t 24),oo 27<|.ld none (.t 26),oo 9<|.mv (.t 27)]
def MT : List O :=[oo 28<|.mv (.t 7),oo 29<|.mv (.t 9),oo 30<|.len (.t 29),oo 31<|.call nQH [.t 30],oo 32<|.bin .add (.t 28) (.t 31),oo 7<|.mv (.t 32)]
def DN : List O :=[oo 33<|.bin .add (.t 24) (ki 1),oo 24<|.mv (.t 33)]
def TX : C := (.seq (.aH MV false [] [2,5,7,22,23,24,25]) (.seq (.cond (.t 25) .skip (.exit 0)) (.seq (.aJ 1 (.seq (.aH MU false [] [2,5,7,9,22,23,24]) (.aH MT false [] [2,5,7,22,23,24]))) (.aH DN false [] [2,5,7,22,23,24]))))
def DM : List O :=[oo 34<|.mv (.t 5),oo 35<|.bin .mul (ki 3) (.t 34),oo 36<|.mv (.t 7),oo 37<|.call nQI [.t 35,.t 36],oo 38<|.ext 0 (.t 37),oo 39<|.ext 1 (.t 37),oz<|.st 2 (.t 2) (.t 38),oo 3<|.mv (.t 39)]
def cQn : C := (.seq (.aH M3 false [] [1,2]) (.seq (.seq (.aH M1 false [] [1,2,4]) (.seq (.aH M0 false [] [1,2,4,13]) (.cond (.t 13) (.seq (.aH MZ false [] [2,3]) .ret) .skip))) (.seq (.aH MY false [] [1,2,5]) (.seq (.aH MX false [] [1,2,5,7]) (.seq (.seq (.aH MW false [] [2,5,7,22,23,24]) (.aJ 0 (.loop TX))) (.seq (.aH DM false [] [2,3]) .ret))))))
def qQn : eR := ⟨40,1,[.c 2 (some 2),.t 3],cQn⟩
/- cohesion/cohesionref29.Whole -/
def MS : List O :=[oo 1<|.box (.t 0),oo 2<|.new [.int .i64 0,.int .i64 0],oo 3<|.mv (ki 0)]
def MR : List O :=[oo 9<|.ld (some 2) (.t 1),oo 10<|.call WL [.t 9],oo 8<|.mv (.t 10),oo 11<|.ext 0 (.t 8),oo 12<|.ext 1 (.t 8),oo 4<|.mv (.t 11),oo 5<|.mv (.t 12)]
def MQ : List O :=[oo 13<|.mv (.t 5),oo 14<|.bin .neq (.t 13) (ki 0)]
def MP : List O :=[oo 15<|.build [.int .i64 0,.int .i64 0] [],oo 16<|.mv (.t 5),oz<|.st 2 (.t 2) (.t 15),oo 3<|.mv (.t 16)]
def MO : List O :=[oo 6<|.mv (ki 0)]
def MN : List O :=[oo 7<|.mv (ki 0)]
def MM : List O :=[oo 17<|.mv (.t 7),oo 18<|.cC 0 (.t 1),oo 19<|.ld none (.t 18),oo 20<|.bin .lss (.t 17) (.t 19)]
def ML : List O :=[oo 23<|.mv (.t 6),oo 24<|.ld (some 2) (.t 1),oo 25<|.mv (.t 7),oo 26<|.call nQJ [.t 24,.t 25],oo 27<|.bin .add (.t 23) (.t 26),oo 6<|.mv (.t 27)]
def MK : List O :=[oo 21<|.mv (.t 7),oo 22<|.bin .add (.t 21) (ki 1),oo 7<|.mv (.t 22)]
def TW : C := (.seq (.seq (.aH MM false [] [1,2,4,6,7,20]) (.cond (.t 20) .skip (.exit 0))) (.seq (.aJ 1 (.aH ML false [] [1,2,4,6,7])) (.aH MK false [] [1,2,4,6,7])))
def MJ : List O :=[oo 28<|.mv (.t 4),oo 29<|.bin .mul (ki 3) (.t 28),oo 30<|.mv (.t 6),oo 31<|.call nQK [.t 29,.t 30],oz<|.st 2 (.t 2) (.t 31),oo 3<|.mv (ki 0)]
def cQo : C := (.seq (.aH MS false [] [1,2]) (.seq (.aH MR false [] [1,2,4,5]) (.seq (.seq (.aH MQ false [] [1,2,4,5,14]) (.cond (.t 14) (.seq (.aH MP false [] [2,3]) .ret) .skip)) (.seq (.aH MO false [] [1,2,4,6]) (.seq (.seq (.aH MN false [] [1,2,4,6,7]) (.aJ 0 (.loop TW))) (.seq (.aH MJ false [] [2,3]) .ret))))))
def qQo : eR := ⟨32,1,[.c 2 (some 2),.t 3],cQo⟩
/- cohesion/triangles.Open -/
def X9 : List O :=[oo 1<|.box (.t 0),oo 2<|.new [.int .i64 0,.own 2 [],.int .i64 0,.own 1 []],oo 3<|.mv (ki 0)]
def X8 : List O :=[oo 7<|.ld (some 2) (.t 1),oo 8<|.call QJ [.t 7],oo 4<|.mv (.t 8)]
def X7 : List O :=[oo 9<|.mv (.t 4),oo 10<|.bin .neq (.t 9) (ki 0)]
def X6 : List O :=[oo 11<|.build [.int .i64 0,.own 2 [],.int .i64 0,.own 1 []] [],oo 12<|.mv (.t 4),oz<|.st 4 (.t 2) (.t 11),oo 3<|.mv (.t 12)]
def X5 : List O :=[oo 14<|.ld (some 2) (.t 1),oo 15<|.call Vu [.t 14],oo 13<|.mv (.t 15),oo 16<|.ext 0 (.t 13),oo 17<|.ext 1 (.t 13),oo 5<|.mv (.t 16),oo 6<|.mv (.t 17)]
def X4 : List O :=[oo 18<|.ld (some 2) (.t 1),oo 19<|.call nQL [.t 18],oo 20<|.mv (.t 5),oo 21<|.mv (.t 6),oo 22<|.build [.int .i64 0,.own 2 [],.int .i64 0,.own 1 []] [(0,2,.t 19),(2,1,.t 20),(3,1,.t 21)],oz<|.st 4 (.t 2) (.t 22),oo 3<|.mv (ki 0)]
def cQp : C := (.seq (.aH X9 false [] [1,2]) (.seq (.seq (.aH X8 false [] [1,2,4]) (.seq (.aH X7 false [] [1,2,4,10]) (.cond (.t 10) (.seq (.aH X6 false [] [2,3]) .ret) .skip))) (.seq (.aH X5 false [] [1,2,5,6]) (.seq (.aH X4 false [] [2,3]) .ret))))
def qQp : eR := ⟨23,1,[.c 2 (some 4),.t 3],cQp⟩
/- cohesion/cohesionlaw29.ints -/
def DL : List O :=[oo 4<|.mv (.k (.bool false))]
def DK : List O :=[oo 6<|.mv (.t 0),oo 7<|.len (.t 6),oo 8<|.mv (.t 1),oo 9<|.len (.t 8),oo 10<|.bin .neq (.t 7) (.t 9)]
def DJ : List O :=[oo 4<|.mv (.k (.bool false))]
def DI : List O :=[oo 11<|.mv (.t 0),oo 12<|.len (.t 11),oo 13<|.mv (ki 0)]
def DH : List O :=[oo 14<|.bin .lss (.t 13) (.t 12)]
def DG : List O :=[oo 15<|.mv (.t 13),oo 5<|.mv (.t 15)]
def DF : List O :=[oo 16<|.mv (.t 0),oo 17<|.mv (.t 5),oo 18<|.gw 1 (.t 16) (.t 17),oo 19<|.ld none (.t 18),oo 20<|.mv (.t 1),oo 21<|.mv (.t 5),oo 22<|.gw 1 (.t 20) (.t 21),oo 23<|.ld none (.t 22),oo 24<|.bin .neq (.t 19) (.t 23)]
def DE : List O :=[oo 4<|.mv (.k (.bool false))]
def DD : List O :=[oo 25<|.bin .add (.t 13) (ki 1),oo 13<|.mv (.t 25)]
def Of : C := (.seq (.aH DH false [] [0,1,12,13,14]) (.seq (.cond (.t 14) .skip (.exit 0)) (.seq (.aJ 1 (.seq (.aH DG false [] [0,1,5,12,13]) (.seq (.aH DF true [(8,8),(3,4),(3,5),(3,6),(0,7),(1,7),(2,7),(3,7)] [0,1,12,13,24]) (.cond (.t 24) (.seq (.aH DE false [] [4]) .ret) .skip)))) (.aH DD false [] [0,1,12,13]))))
def DC : List O :=[oo 4<|.mv (.k (.bool true))]
def cQq : C := (.seq (.aH DL false [] [0,1]) (.seq (.seq (.aH DK false [] [0,1,10]) (.cond (.t 10) (.seq (.aH DJ false [] [4]) .ret) .skip)) (.seq (.seq (.aH DI false [] [0,1,12,13]) (.aJ 0 (.loop Of))) (.seq (.aH DC false [] [4]) .ret))))
def qQq : eR := ⟨26,2,[.t 4],cQq⟩
/- cohesion/cohesionref29.Same -/
def Bq : List O :=[oo 2<|.box (.t 0),oo 3<|.box (.t 1),oo 4<|.mv (.k (.bool false))]
def Bp : List O :=[oo 6<|.cC 0 (.t 2),oo 7<|.ld (some 2) (.t 6),oo 8<|.cC 0 (.t 3),oo 9<|.ld (some 2) (.t 8),oo 10<|.call nQM [.t 7,.t 9],oo 11<|.un .not (.t 10),oo 12<|.mv (.t 11),gf 13 12<|.cC 2 (.t 2),gf 14 12<|.ld none (.t 13),gf 15 12<|.cC 2 (.t 3),gf 16 12<|.ld none (.t 15),gf 17 12<|.bin .neq (.t 14) (.t 16),oo 18<|.pick (.t 12) (.k (.bool true)) (.t 17),oo 19<|.mv (.t 18),gf 20 19<|.cC 3 (.t 2),gf 21 19<|.ld none (.t 20),gf 22 19<|.len (.t 21),gf 23 19<|.cC 3 (.t 3),gf 24 19<|.ld none (.t 23),gf 25 19<|.len (.t 24),gf 26 19<|.bin .neq (.t 22) (.t 25),oo 27<|.pick (.t 19) (.k (.bool true)) (.t 26)]
def Bo : List O :=[oo 4<|.mv (.k (.bool false))]
def Bn : List O :=[oo 5<|.mv (ki 0)]
def Bl : List O :=[oo 28<|.mv (.t 5),oo 29<|.cC 3 (.t 2),oo 30<|.ld none (.t 29),oo 31<|.len (.t 30),oo 32<|.bin .lss (.t 28) (.t 31)]
def Bk : List O :=[oo 35<|.cC 3 (.t 2),oo 36<|.ld none (.t 35),oo 37<|.mv (.t 5),oo 38<|.gw 1 (.t 36) (.t 37),oo 39<|.ld none (.t 38),oo 40<|.cC 3 (.t 3),oo 41<|.ld none (.t 40),oo 42<|.mv (.t 5),oo 43<|.gw 1 (.t 41) (.t 42),oo 44<|.ld none (.t 43),oo 45<|.bin .neq (.t 39) (.t 44)]
def Bj : List O :=[oo 4<|.mv (.k (.bool false))]
def Bi : List O :=[oo 33<|.mv (.t 5),oo 34<|.bin .add (.t 33) (ki 1),oo 5<|.mv (.t 34)]
def Oe : C := (.seq (.seq (.aH Bl false [] [2,3,5,32]) (.cond (.t 32) .skip (.exit 0))) (.seq (.aJ 1 (.seq (.aH Bk true [(10,10),(1,2),(1,5),(4,5),(0,6),(1,6),(2,6),(3,6),(4,6),(1,7),(4,7),(6,7),(1,8),(4,8),(0,9),(1,9),(2,9),(3,9),(4,9)] [2,3,5,45]) (.cond (.t 45) (.seq (.aH Bj false [] [4]) .ret) .skip))) (.aH Bi false [] [2,3,5])))
def Bh : List O :=[oo 4<|.mv (.k (.bool true))]
def cQr : C := (.seq (.aH Bq false [] [2,3]) (.seq (.seq (.aH Bp false [] [2,3,27]) (.cond (.t 27) (.seq (.aH Bo false [] [4]) .ret) .skip)) (.seq (.seq (.aH Bn false [] [2,3,5]) (.aJ 0 (.loop Oe))) (.seq (.aH Bh false [] [4]) .ret))))
def qQr : eR := ⟨46,2,[.t 4],cQr⟩
/- cohesion/triangles.Valid -/
def Si : List O :=[oo 1<|.box (.t 0),oo 2<|.mv (.k (.bool false))]
def Sh : List O :=[oo 5<|.cC 0 (.t 1),oo 6<|.ld (some 2) (.t 5),oo 7<|.call QJ [.t 6],oo 8<|.bin .neq (.t 7) (ki 0)]
def Sg : List O :=[oo 2<|.mv (.k (.bool false))]
def Sf : List O :=[oo 10<|.cC 0 (.t 1),oo 11<|.ld (some 2) (.t 10),oo 12<|.call Vu [.t 11],oo 9<|.mv (.t 12),oo 13<|.ext 0 (.t 9),oo 14<|.ext 1 (.t 9),oo 3<|.mv (.t 13),oo 4<|.mv (.t 14)]
def Se : List O :=[oo 15<|.cC 2 (.t 1),oo 16<|.ld none (.t 15),oo 17<|.mv (.t 3),oo 18<|.bin .eql (.t 16) (.t 17),oo 19<|.mv (.t 18),gt 20 19<|.cC 3 (.t 1),gt 21 19<|.ld none (.t 20),gt 22 19<|.mv (.t 4),gt 23 19<|.call nQN [.t 21,.t 22],oo 24<|.pick (.t 19) (.t 23) (.k (.bool false)),oo 2<|.mv (.t 24)]
def cQs : C := (.seq (.aH Si false [] [1]) (.seq (.seq (.aH Sh false [] [1,8]) (.cond (.t 8) (.seq (.aH Sg false [] [2]) .ret) .skip)) (.seq (.aH Sf false [] [1,3,4]) (.seq (.aH Se false [] [2]) .ret))))
def qQs : eR := ⟨25,1,[.t 2],cQs⟩
/- cohesion/cohesionref29.Valid -/
def X3 : List O :=[oo 1<|.box (.t 0),oo 2<|.mv (.k (.bool false))]
def X2 : List O :=[oo 6<|.cC 0 (.t 1),oo 7<|.ld (some 2) (.t 6),oo 8<|.call TJ [.t 7],oo 5<|.mv (.t 8),oo 9<|.ext 0 (.t 5),oo 10<|.ext 1 (.t 5),oo 3<|.new [.int .i64 0,.own 2 [],.int .i64 0,.own 1 []],oz<|.st 4 (.t 3) (.t 9),oo 4<|.mv (.t 10)]
def X0 : List O :=[oo 11<|.mv (.t 4),oo 12<|.bin .eql (.t 11) (ki 0),oo 13<|.mv (.t 12),gt 14 13<|.ld (some 4) (.t 3),gt 15 13<|.ld (some 4) (.t 1),gt 16 13<|.call ZS [.t 14,.t 15],oo 17<|.pick (.t 13) (.t 16) (.k (.bool false)),oo 2<|.mv (.t 17)]
def cQt : C := (.seq (.aH X3 false [] [1]) (.seq (.aH X2 false [] [1,3,4]) (.seq (.aH X0 false [] [2]) .ret)))
def qQt : eR := ⟨18,1,[.t 2],cQt⟩
/- cohesion/triangles.Local -/
def MI : List O :=[oo 2<|.box (.t 0),oo 4<|.new [.int .i64 0,.int .i64 0],oo 5<|.mv (ki 0)]
def MH : List O :=[oo 9<|.ld (some 2) (.t 2),oo 10<|.call QJ [.t 9],oo 6<|.mv (.t 10)]
def MG : List O :=[oo 11<|.mv (.t 6),oo 12<|.bin .neq (.t 11) (ki 0)]
def MF : List O :=[oo 13<|.build [.int .i64 0,.int .i64 0] [],oo 14<|.mv (.t 6),oz<|.st 2 (.t 4) (.t 13),oo 5<|.mv (.t 14)]
def ME : List O :=[oo 15<|.mv (.t 1),oo 16<|.bin .lss (.t 15) (ki 0),oo 17<|.mv (.t 16),gf 18 17<|.mv (.t 1),gf 19 17<|.cC 0 (.t 2),gf 20 17<|.ld none (.t 19),gf 21 17<|.bin .geq (.t 18) (.t 20),oo 22<|.pick (.t 17) (.k (.bool true)) (.t 21)]
def MD : List O :=[oo 23<|.build [.int .i64 0,.int .i64 0] [],oz<|.st 2 (.t 4) (.t 23),oo 5<|.mv (ki 6)]
def MC : List O :=[oo 25<|.ld (some 2) (.t 2),oo 26<|.call Vu [.t 25],oo 24<|.mv (.t 26),oo 27<|.ext 0 (.t 24),oo 28<|.ext 1 (.t 24),oo 7<|.mv (.t 27),oo 8<|.mv (.t 28)]
def MB : List O :=[oo 29<|.mv (.t 8),oo 30<|.mv (.t 1),oo 31<|.gw 1 (.t 29) (.t 30),oo 32<|.ld none (.t 31),oo 33<|.ld (some 2) (.t 2),oo 34<|.mv (.t 1),oo 35<|.call nQO [.t 33,.t 34],oo 36<|.call nQH [.t 35],oo 37<|.call nQI [.t 32,.t 36],oo 38<|.ext 0 (.t 37),oo 39<|.ext 1 (.t 37),oz<|.st 2 (.t 4) (.t 38),oo 5<|.mv (.t 39)]
def cQu : C := (.seq (.aH MI false [] [1,2,4]) (.seq (.seq (.aH MH false [] [1,2,4,6]) (.seq (.aH MG false [] [1,2,4,6,12]) (.cond (.t 12) (.seq (.aH MF false [] [4,5]) .ret) .skip))) (.seq (.seq (.aH ME false [] [1,2,4,22]) (.cond (.t 22) (.seq (.aH MD false [] [4,5]) .ret) .skip)) (.seq (.aH MC false [] [1,2,4,8]) (.seq (.aH MB true [(8,8),(11,11),(12,12),(0,4),(1,4),(2,4),(3,4),(3,5),(4,5),(0,6),(1,6),(2,6),(3,6),(0,7),(1,7),(2,7),(3,7)] [4,5]) .ret)))))
def qQu : eR := ⟨40,2,[.c 4 (some 2),.t 5],cQu⟩
/- cohesion/cohesionref29.Local -/
def MA : List O :=[oo 2<|.box (.t 0),oo 4<|.new [.int .i64 0,.int .i64 0],oo 5<|.mv (ki 0)]
def Mz : List O :=[oo 9<|.ld (some 2) (.t 2),oo 10<|.call Vs [.t 9],oo 8<|.mv (.t 10),oo 11<|.ext 0 (.t 8),oo 12<|.ext 1 (.t 8),oo 6<|.mv (.t 11),oo 7<|.mv (.t 12)]
def My : List O :=[oo 13<|.mv (.t 7),oo 14<|.bin .neq (.t 13) (ki 0)]
def Mx : List O :=[oo 15<|.build [.int .i64 0,.int .i64 0] [],oo 16<|.mv (.t 7),oz<|.st 2 (.t 4) (.t 15),oo 5<|.mv (.t 16)]
def Mw : List O :=[oo 17<|.mv (.t 1),oo 18<|.bin .lss (.t 17) (ki 0),oo 19<|.mv (.t 18),gf 20 19<|.mv (.t 1),gf 21 19<|.cC 0 (.t 2),gf 22 19<|.ld none (.t 21),gf 23 19<|.bin .geq (.t 20) (.t 22),oo 24<|.pick (.t 19) (.k (.bool true)) (.t 23)]
def Mv : List O :=[oo 25<|.build [.int .i64 0,.int .i64 0] [],oz<|.st 2 (.t 4) (.t 25),oo 5<|.mv (ki 6)]
def Mu : List O :=[oo 26<|.mv (.t 6),oo 27<|.mv (.t 1),oo 28<|.gw 1 (.t 26) (.t 27),oo 29<|.ld none (.t 28),oo 30<|.ld (some 2) (.t 2),oo 31<|.mv (.t 1),oo 32<|.call nQJ [.t 30,.t 31],oo 33<|.call nQK [.t 29,.t 32],oz<|.st 2 (.t 4) (.t 33),oo 5<|.mv (ki 0)]
def cQv : C := (.seq (.aH MA false [] [1,2,4]) (.seq (.aH Mz false [] [1,2,4,6,7]) (.seq (.seq (.aH My false [] [1,2,4,6,7,14]) (.cond (.t 14) (.seq (.aH Mx false [] [4,5]) .ret) .skip)) (.seq (.seq (.aH Mw false [] [1,2,4,6,24]) (.cond (.t 24) (.seq (.aH Mv false [] [4,5]) .ret) .skip)) (.seq (.aH Mu true [(7,7),(8,8),(9,9),(0,4),(1,4),(2,4),(3,4),(3,5),(4,5),(0,6),(1,6),(2,6),(3,6)] [4,5]) .ret)))))
def qQv : eR := ⟨34,2,[.c 4 (some 2),.t 5],cQv⟩
/- cohesion/triangles.Insert -/
def Mt : List O :=[oo 3<|.box (.t 0),oo 6<|.new [.int .i64 0,.own 2 [],.int .i64 0,.own 1 []],oo 7<|.mv (ki 0),oo 8<|.mv (ki 0)]
def Ms : List O :=[oo 11<|.ld (some 4) (.t 3),oo 12<|.call TI [.t 11],oo 13<|.un .not (.t 12)]
def Mr : List O :=[oo 14<|.build [.int .i64 0,.own 2 [],.int .i64 0,.own 1 []] [],oz<|.st 4 (.t 6) (.t 14),oo 7<|.mv (ki 0),oo 8<|.mv (ki 35)]
def Mq : List O :=[oo 16<|.cC 0 (.t 3),oo 17<|.ld (some 2) (.t 16),oo 18<|.mv (.t 1),oo 19<|.mv (.t 2),oo 20<|.call nQP [.t 17,.t 18,.t 19],oo 15<|.mv (.t 20),oo 21<|.ext 0 (.t 15),oo 22<|.ext 1 (.t 15),oo 9<|.new [.int .i64 0,.own 2 []],oz<|.st 2 (.t 9) (.t 21),oo 10<|.mv (.t 22)]
def Mp : List O :=[oo 23<|.mv (.t 10),oo 24<|.bin .neq (.t 23) (ki 0)]
def Mo : List O :=[oo 25<|.build [.int .i64 0,.own 2 [],.int .i64 0,.own 1 []] [],oo 26<|.mv (.t 10),oz<|.st 4 (.t 6) (.t 25),oo 7<|.mv (ki 0),oo 8<|.mv (.t 26)]
def Mn : List O :=[oo 27<|.ld (some 4) (.t 3),oo 28<|.ld (some 2) (.t 9),oo 29<|.mv (.t 1),oo 30<|.mv (.t 2),oo 31<|.call nQQ [.t 27,.t 28,.t 29,.t 30,ki 1],oo 32<|.ext 0 (.t 31),oo 33<|.ext 1 (.t 31),oo 34<|.ext 2 (.t 31),oz<|.st 4 (.t 6) (.t 32),oo 7<|.mv (.t 33),oo 8<|.mv (.t 34)]
def cQw : C := (.seq (.aH Mt false [] [1,2,3,6]) (.seq (.seq (.aH Ms false [] [1,2,3,6,13]) (.cond (.t 13) (.seq (.aH Mr false [] [6,7,8]) .ret) .skip)) (.seq (.aH Mq false [] [1,2,3,6,9,10]) (.seq (.seq (.aH Mp false [] [1,2,3,6,9,10,24]) (.cond (.t 24) (.seq (.aH Mo false [] [6,7,8]) .ret) .skip)) (.seq (.aH Mn false [] [6,7,8]) .ret)))))
def qQw : eR := ⟨35,3,[.c 6 (some 4),.t 7,.t 8],cQw⟩
/- cohesion/cohesionref29.Insert -/
def Mm : List O :=[oo 3<|.box (.t 0),oo 6<|.new [.int .i64 0,.own 2 [],.int .i64 0,.own 1 []],oo 7<|.mv (ki 0),oo 8<|.mv (ki 0)]
def Ml : List O :=[oo 13<|.ld (some 4) (.t 3),oo 14<|.call TH [.t 13],oo 15<|.un .not (.t 14)]
def Mk : List O :=[oo 16<|.build [.int .i64 0,.own 2 [],.int .i64 0,.own 1 []] [],oz<|.st 4 (.t 6) (.t 16),oo 7<|.mv (ki 0),oo 8<|.mv (ki 35)]
def Mj : List O :=[oo 18<|.cC 0 (.t 3),oo 19<|.ld (some 2) (.t 18),oo 20<|.mv (.t 1),oo 21<|.mv (.t 2),oo 22<|.call Z0 [.t 19,.t 20,.t 21],oo 17<|.mv (.t 22),oo 23<|.ext 0 (.t 17),oo 24<|.ext 1 (.t 17),oo 9<|.new [.int .i64 0,.own 2 []],oz<|.st 2 (.t 9) (.t 23),oo 10<|.mv (.t 24)]
def Mi : List O :=[oo 25<|.mv (.t 10),oo 26<|.bin .neq (.t 25) (ki 0)]
def Mh : List O :=[oo 27<|.build [.int .i64 0,.own 2 [],.int .i64 0,.own 1 []] [],oo 28<|.mv (.t 10),oz<|.st 4 (.t 6) (.t 27),oo 7<|.mv (ki 0),oo 8<|.mv (.t 28)]
def Mg : List O :=[oo 30<|.ld (some 2) (.t 9),oo 31<|.call TJ [.t 30],oo 29<|.mv (.t 31),oo 32<|.ext 0 (.t 29),oo 33<|.ext 1 (.t 29),oo 11<|.new [.int .i64 0,.own 2 [],.int .i64 0,.own 1 []],oz<|.st 4 (.t 11) (.t 32),oo 12<|.mv (.t 33)]
def Mf : List O :=[oo 34<|.ld (some 4) (.t 11),oo 35<|.cC 2 (.t 11),oo 36<|.ld none (.t 35),oo 37<|.cC 2 (.t 3),oo 38<|.ld none (.t 37),oo 39<|.bin .sub (.t 36) (.t 38),oz<|.st 4 (.t 6) (.t 34),oo 7<|.mv (.t 39),oo 8<|.mv (ki 0)]
def cQx : C := (.seq (.aH Mm false [] [1,2,3,6]) (.seq (.seq (.aH Ml false [] [1,2,3,6,15]) (.cond (.t 15) (.seq (.aH Mk false [] [6,7,8]) .ret) .skip)) (.seq (.aH Mj false [] [3,6,9,10]) (.seq (.seq (.aH Mi false [] [3,6,9,10,26]) (.cond (.t 26) (.seq (.aH Mh false [] [6,7,8]) .ret) .skip)) (.seq (.aH Mg false [] [3,6,11]) (.seq (.aH Mf true [(7,7),(8,8),(0,1),(0,2),(0,3),(2,3),(0,4),(1,4),(2,4),(0,5),(1,6),(2,6),(3,6),(4,6),(5,6)] [6,7,8]) .ret))))))
def qQx : eR := ⟨40,3,[.c 6 (some 4),.t 7,.t 8],cQx⟩
/- cohesion/triangles.Delete -/
def Me : List O :=[oo 3<|.box (.t 0),oo 6<|.new [.int .i64 0,.own 2 [],.int .i64 0,.own 1 []],oo 7<|.mv (ki 0),oo 8<|.mv (ki 0)]
def Mc : List O :=[oo 11<|.ld (some 4) (.t 3),oo 12<|.call TI [.t 11],oo 13<|.un .not (.t 12)]
def Mb : List O :=[oo 14<|.build [.int .i64 0,.own 2 [],.int .i64 0,.own 1 []] [],oz<|.st 4 (.t 6) (.t 14),oo 7<|.mv (ki 0),oo 8<|.mv (ki 35)]
def Ma : List O :=[oo 16<|.cC 0 (.t 3),oo 17<|.ld (some 2) (.t 16),oo 18<|.mv (.t 1),oo 19<|.mv (.t 2),oo 20<|.call nQS [.t 17,.t 18,.t 19],oo 15<|.mv (.t 20),oo 21<|.ext 0 (.t 15),oo 22<|.ext 1 (.t 15),oo 9<|.new [.int .i64 0,.own 2 []],oz<|.st 2 (.t 9) (.t 21),oo 10<|.mv (.t 22)]
def L9 : List O :=[oo 23<|.mv (.t 10),oo 24<|.bin .neq (.t 23) (ki 0)]
def L8 : List O :=[oo 25<|.build [.int .i64 0,.own 2 [],.int .i64 0,.own 1 []] [],oo 26<|.mv (.t 10),oz<|.st 4 (.t 6) (.t 25),oo 7<|.mv (ki 0),oo 8<|.mv (.t 26)]
def L7 : List O :=[oo 27<|.ld (some 4) (.t 3),oo 28<|.ld (some 2) (.t 9),oo 29<|.mv (.t 1),oo 30<|.mv (.t 2),oo 31<|.call nQQ [.t 27,.t 28,.t 29,.t 30,.k (.int .i64 (-1))],oo 32<|.ext 0 (.t 31),oo 33<|.ext 1 (.t 31),oo 34<|.ext 2 (.t 31),oz<|.st 4 (.t 6) (.t 32),oo 7<|.mv (.t 33),oo 8<|.mv (.t 34)]
def cQy : C := (.seq (.aH Me false [] [1,2,3,6]) (.seq (.seq (.aH Mc false [] [1,2,3,6,13]) (.cond (.t 13) (.seq (.aH Mb false [] [6,7,8]) .ret) .skip)) (.seq (.aH Ma false [] [1,2,3,6,9,10]) (.seq (.seq (.aH L9 false [] [1,2,3,6,9,10,24]) (.cond (.t 24) (.seq (.aH L8 false [] [6,7,8]) .ret) .skip)) (.seq (.aH L7 false [] [6,7,8]) .ret)))))
def qQy : eR := ⟨35,3,[.c 6 (some 4),.t 7,.t 8],cQy⟩
/- cohesion/cohesionref29.Delete -/
def L6 : List O :=[oo 3<|.box (.t 0),oo 6<|.new [.int .i64 0,.own 2 [],.int .i64 0,.own 1 []],oo 7<|.mv (ki 0),oo 8<|.mv (ki 0)]
def L5 : List O :=[oo 13<|.ld (some 4) (.t 3),oo 14<|.call TH [.t 13],oo 15<|.un .not (.t 14)]
def L4 : List O :=[oo 16<|.build [.int .i64 0,.own 2 [],.int .i64 0,.own 1 []] [],oz<|.st 4 (.t 6) (.t 16),oo 7<|.mv (ki 0),oo 8<|.mv (ki 35)]
def L3 : List O :=[oo 18<|.cC 0 (.t 3),oo 19<|.ld (some 2) (.t 18),oo 20<|.mv (.t 1),oo 21<|.mv (.t 2),oo 22<|.call ZZ [.t 19,.t 20,.t 21],oo 17<|.mv (.t 22),oo 23<|.ext 0 (.t 17),oo 24<|.ext 1 (.t 17),oo 9<|.new [.int .i64 0,.own 2 []],oz<|.st 2 (.t 9) (.t 23),oo 10<|.mv (.t 24)]
def L2 : List O :=[oo 25<|.mv (.t 10),oo 26<|.bin .neq (.t 25) (ki 0)]
def L0 : List O :=[oo 27<|.build [.int .i64 0,.own 2 [],.int .i64 0,.own 1 []] [],oo 28<|.mv (.t 10),oz<|.st 4 (.t 6) (.t 27),oo 7<|.mv (ki 0),oo 8<|.mv (.t 28)]
def LZ : List O :=[oo 30<|.ld (some 2) (.t 9),oo 31<|.call TJ [.t 30],oo 29<|.mv (.t 31),oo 32<|.ext 0 (.t 29),oo 33<|.ext 1 (.t 29),oo 11<|.new [.int .i64 0,.own 2 [],.int .i64 0,.own 1 []],oz<|.st 4 (.t 11) (.t 32),oo 12<|.mv (.t 33)]
def LY : List O :=[oo 34<|.ld (some 4) (.t 11),oo 35<|.cC 2 (.t 3),oo 36<|.ld none (.t 35),oo 37<|.cC 2 (.t 11),oo 38<|.ld none (.t 37),oo 39<|.bin .sub (.t 36) (.t 38),oz<|.st 4 (.t 6) (.t 34),oo 7<|.mv (.t 39),oo 8<|.mv (ki 0)]
def cQz : C := (.seq (.aH L6 false [] [1,2,3,6]) (.seq (.seq (.aH L5 false [] [1,2,3,6,15]) (.cond (.t 15) (.seq (.aH L4 false [] [6,7,8]) .ret) .skip)) (.seq (.aH L3 false [] [3,6,9,10]) (.seq (.seq (.aH L2 false [] [3,6,9,10,26]) (.cond (.t 26) (.seq (.aH L0 false [] [6,7,8]) .ret) .skip)) (.seq (.aH LZ false [] [3,6,11]) (.seq (.aH LY true [(7,7),(8,8),(0,1),(0,2),(0,3),(2,3),(0,4),(1,4),(2,4),(0,5),(1,6),(2,6),(3,6),(4,6),(5,6)] [6,7,8]) .ret))))))
def qQz : eR := ⟨40,3,[.c 6 (some 4),.t 7,.t 8],cQz⟩
/- cohesion/cohesionref03.Of -/
def ah8 : List O :=[oo 4<|.new [.int .i64 0,.own 2 []],oo 5<|.mv (ki 0)]
def ah7 : List O :=[oo 9<|.mv (.t 0),oo 10<|.bin .lss (.t 9) (ki 0),oo 11<|.mv (.t 10),gf 12 11<|.mv (.t 0),gf 13 11<|.bin .gtr (.t 12) (ki 64),oo 14<|.pick (.t 11) (.k (.bool true)) (.t 13)]
def ah6 : List O :=[oo 15<|.build [.int .i64 0,.own 2 []] [],oz<|.st 2 (.t 4) (.t 15),oo 5<|.mv (ki 1)]
def ah5 : List O :=[oo 16<|.mv (.t 0),oo 17<|.build [.int .i64 0,.own 2 []] [(0,1,.t 16)],oo 6<|.new [.int .i64 0,.own 2 []],oz<|.st 2 (.t 6) (.t 17)]
def ah4 : List O :=[oo 18<|.mv (.t 1),oo 19<|.len (.t 18),oo 20<|.mv (ki 0)]
def ah3 : List O :=[oo 21<|.bin .lss (.t 20) (.t 19)]
def ah2 : List O :=[oo 22<|.gw 2 (.t 18) (.t 20),oo 23<|.ld (some 2) (.t 22),oo 8<|.new [.int .i64 0,.int .i64 0],oz<|.st 2 (.t 8) (.t 23)]
def ah1 : List O :=[oo 24<|.mv (.t 0),oo 25<|.cC 0 (.t 8),oo 26<|.ld none (.t 25),oo 27<|.cC 1 (.t 8),oo 28<|.ld none (.t 27),oo 29<|.call nQU [.t 24,.t 26,.t 28],oo 30<|.un .not (.t 29)]
def ah0 : List O :=[oo 31<|.build [.int .i64 0,.own 2 []] [],oz<|.st 2 (.t 4) (.t 31),oo 5<|.mv (ki 6)]
def ahZ : List O :=[oo 32<|.cC 1 (.t 6),oo 33<|.ld none (.t 32),oo 34<|.cC 0 (.t 8),oo 35<|.ld none (.t 34),oo 36<|.cC 1 (.t 8),oo 37<|.ld none (.t 36),oo 38<|.call ZY [.t 35,.t 37],oo 39<|.call nQV [.t 33,.t 38],oo 40<|.cC 1 (.t 6),oz<|.st 1 (.t 40) (.t 39)]
def ago : List O :=[oo 41<|.bin .add (.t 20) (ki 1),oo 20<|.mv (.t 41)]
def ail : C := (.seq (.aH ah3 false [] [0,4,6,18,19,20,21]) (.seq (.cond (.t 21) .skip (.exit 0)) (.seq (.aJ 1 (.seq (.aH ah2 false [] [0,4,6,8,18,19,20]) (.seq (.seq (.aH ah1 false [] [0,4,6,8,18,19,20,30]) (.cond (.t 30) (.seq (.aH ah0 false [] [4,5]) .ret) .skip)) (.aH ahZ true [(7,7),(8,8),(9,9),(1,2),(0,3),(1,3),(1,4),(3,4),(0,5),(1,5),(2,5),(3,5),(0,6),(1,6)] [0,4,6,18,19,20])))) (.aH ago false [] [0,4,6,18,19,20]))))
def agn : List O :=[oo 42<|.ld (some 2) (.t 6),oz<|.st 2 (.t 4) (.t 42),oo 5<|.mv (ki 0)]
def cQA : C := (.seq (.aH ah8 false [] [0,1,4]) (.seq (.seq (.aH ah7 false [] [0,1,4,14]) (.cond (.t 14) (.seq (.aH ah6 false [] [4,5]) .ret) .skip)) (.seq (.aH ah5 false [] [0,1,4,6]) (.seq (.seq (.aH ah4 false [] [0,4,6,18,19,20]) (.aJ 0 (.loop ail))) (.seq (.aH agn false [] [4,5]) .ret)))))
def qQA : eR := ⟨43,2,[.c 4 (some 2),.t 5],cQA⟩
/- cohesion/cohesionmake.Mod -/
def aeg : List O :=[oo 4<|.mv (ki 0)]
def aef : List O :=[oo 5<|.mv (.t 0),oo 6<|.mv (.t 1),oo 7<|.bin .rem (.t 5) (.t 6),oo 8<|.mv (.t 1),oo 9<|.bin .add (.t 7) (.t 8),oo 10<|.mv (.t 1),oo 11<|.bin .rem (.t 9) (.t 10),oo 4<|.mv (.t 11)]
def cQB : C := (.seq (.aH aeg false [] [0,1]) (.seq (.aH aef false [] [4]) .ret))
def qQB : eR := ⟨12,2,[.t 4],cQB⟩
/- cohesion/graph.Check -/
def sN : List O :=[oo 1<|.box (.t 0),oo 2<|.mv (ki 0)]
def sM : List O :=[oo 5<|.cC 0 (.t 1),oo 6<|.ld none (.t 5),oo 7<|.bin .lss (.t 6) (ki 0),oo 8<|.mv (.t 7),gf 9 8<|.cC 0 (.t 1),gf 10 8<|.ld none (.t 9),gf 11 8<|.bin .gtr (.t 10) (ki 64),oo 12<|.pick (.t 8) (.k (.bool true)) (.t 11)]
def sL : List O :=[oo 2<|.mv (ki 1)]
def sK : List O :=[oo 13<|.cC 1 (.t 1),oo 14<|.ld none (.t 13),oo 15<|.len (.t 14),oo 16<|.mv (ki 0)]
def sJ : List O :=[oo 17<|.bin .lss (.t 16) (.t 15)]
def sI : List O :=[oo 18<|.mv (.t 16),oo 19<|.gw 2 (.t 14) (.t 16),oo 20<|.ld (some 2) (.t 19),oo 4<|.new [.int .i64 0,.int .i64 0],oo 3<|.mv (.t 18),oz<|.st 2 (.t 4) (.t 20)]
def sG : List O :=[oo 22<|.cC 0 (.t 4),oo 23<|.ld none (.t 22),oo 24<|.bin .lss (.t 23) (ki 0),oo 25<|.mv (.t 24),gf 26 25<|.cC 0 (.t 4),gf 27 25<|.ld none (.t 26),gf 28 25<|.cC 1 (.t 4),gf 29 25<|.ld none (.t 28),gf 30 25<|.bin .geq (.t 27) (.t 29),oo 31<|.pick (.t 25) (.k (.bool true)) (.t 30),oo 32<|.mv (.t 31),gf 33 32<|.cC 1 (.t 4),gf 34 32<|.ld none (.t 33),gf 35 32<|.cC 0 (.t 1),gf 36 32<|.ld none (.t 35),gf 37 32<|.bin .geq (.t 34) (.t 36),oo 38<|.pick (.t 32) (.k (.bool true)) (.t 37),oo 21<|.mv (.t 38)]
def sF : List O :=[oo 2<|.mv (ki 6)]
def sD : List O :=[oo 40<|.mv (.t 3),oo 41<|.bin .gtr (.t 40) (ki 0),oo 42<|.mv (.t 41),gt 43 42<|.cC 1 (.t 1),gt 44 42<|.ld none (.t 43),gt 45 42<|.mv (.t 3),gt 46 42<|.bin .sub (.t 45) (ki 1),gt 47 42<|.gw 2 (.t 44) (.t 46),gt 48 42<|.ld (some 2) (.t 47),gt 49 42<|.ld (some 2) (.t 4),gt 50 42<|.call ZX [.t 48,.t 49],gt 51 42<|.bin .geq (.t 50) (ki 0),oo 52<|.pick (.t 42) (.t 51) (.k (.bool false)),oo 39<|.mv (.t 52)]
def sC : List O :=[oo 2<|.mv (ki 5)]
def mW : List O :=[oo 53<|.bin .add (.t 16) (ki 1),oo 16<|.mv (.t 53)]
def y5 : C := (.seq (.aH sJ false [] [1,14,15,16,17]) (.seq (.cond (.t 17) .skip (.exit 0)) (.seq (.aJ 1 (.seq (.aH sI false [] [1,3,4,14,15,16]) (.aJ 2 (.seq (.aH sG false [] [1,3,4,14,15,16,21]) (.cond (.t 21) (.seq (.aH sF false [] [2]) .ret) (.seq (.aH sD true [(0,0),(1,1),(2,2),(10,10),(11,11),(12,12),(13,13),(4,5),(4,6),(3,9),(4,9),(5,9),(6,9),(7,9),(8,9)] [1,14,15,16,39]) (.cond (.t 39) (.seq (.aH sC false [] [2]) .ret) .skip))))))) (.aH mW false [] [1,14,15,16]))))
def mV : List O :=[oo 2<|.mv (ki 0)]
def cQC : C := (.seq (.aH sN false [] [1]) (.seq (.seq (.aH sM false [] [1,12]) (.cond (.t 12) (.seq (.aH sL false [] [2]) .ret) .skip)) (.seq (.seq (.aH sK false [] [1,14,15,16]) (.aJ 0 (.loop y5))) (.seq (.aH mV false [] [2]) .ret))))
def qQC : eR := ⟨54,1,[.t 2],cQC⟩
/- cohesion/triangles.counts -/
def HM : List O :=[oo 1<|.box (.t 0),oo 2<|.mv (ki 0),oo 3<|.mv (.k (.own 1 []))]
def HK : List O :=[oo 11<|.ld (some 2) (.t 1),oo 12<|.call nQG [.t 11],oo 4<|.mv (.t 12)]
def HJ : List O :=[oo 13<|.cC 0 (.t 1),oo 14<|.ld none (.t 13),oo 15<|.Kn 1 [.int .i64 0] (.t 14) (.t 14),oo 5<|.mv (ki 0),oo 6<|.mv (.t 15)]
def HI : List O :=[oo 16<|.cC 1 (.t 1),oo 17<|.ld none (.t 16),oo 18<|.len (.t 17),oo 19<|.mv (ki 0)]
def HH : List O :=[oo 20<|.bin .lss (.t 19) (.t 18)]
def HF : List O :=[oo 21<|.gw 2 (.t 17) (.t 19),oo 22<|.ld (some 2) (.t 21),oo 8<|.new [.int .i64 0,.int .i64 0],oz<|.st 2 (.t 8) (.t 22)]
def HE : List O :=[oo 23<|.mv (.t 4),oo 24<|.cC 0 (.t 8),oo 25<|.ld none (.t 24),oo 26<|.gw 1 (.t 23) (.t 25),oo 27<|.ld none (.t 26),oo 28<|.mv (.t 4),oo 29<|.cC 1 (.t 8),oo 30<|.ld none (.t 29),oo 31<|.gw 1 (.t 28) (.t 30),oo 32<|.ld none (.t 31),oo 33<|.call nQY [.t 27,.t 32],oo 34<|.len (.t 33),oo 35<|.mv (ki 0)]
def HB : List O :=[oo 36<|.bin .lss (.t 35) (.t 34)]
def Hz : List O :=[oo 37<|.gw 1 (.t 33) (.t 35),oo 38<|.ld none (.t 37),oo 10<|.mv (.t 38)]
def Hy : List O :=[oo 39<|.mv (.t 6),oo 40<|.mv (.t 10),oo 41<|.gw 1 (.t 39) (.t 40),oo 42<|.ld none (.t 41),oo 43<|.bin .add (.t 42) (ki 1),oo 44<|.gw 1 (.t 39) (.t 40),oz<|.st 1 (.t 44) (.t 43)]
def Ad : List O :=[oo 45<|.mv (.t 5),oo 46<|.bin .add (.t 45) (ki 1),oo 5<|.mv (.t 46)]
def Ac : List O :=[oo 47<|.bin .add (.t 35) (ki 1),oo 35<|.mv (.t 47)]
def Ot : C := (.seq (.aH HB false [] [4,5,6,17,18,19,33,34,35,36]) (.seq (.cond (.t 36) .skip (.exit 2)) (.seq (.aJ 3 (.seq (.aH Hz false [] [4,5,6,10,17,18,19,33,34,35]) (.seq (.aH Hy false [] [4,5,6,17,18,19,33,34,35]) (.aH Ad false [] [4,5,6,17,18,19,33,34,35])))) (.aH Ac false [] [4,5,6,17,18,19,33,34,35]))))
def Ab : List O :=[oo 48<|.bin .add (.t 19) (ki 1),oo 19<|.mv (.t 48)]
def Oq : C := (.seq (.aH HH false [] [4,5,6,17,18,19,20]) (.seq (.cond (.t 20) .skip (.exit 0)) (.seq (.aJ 1 (.seq (.aH HF false [] [4,5,6,8,17,18,19]) (.seq (.aH HE true [(0,2),(2,5),(4,5),(2,6),(4,6),(0,7),(1,7),(2,7),(3,7),(4,7),(5,7),(2,8),(4,8),(0,9),(1,9),(2,9),(3,9),(4,9),(2,12),(4,12),(7,12),(9,12),(10,12)] [4,5,6,17,18,19,33,34,35]) (.aJ 2 (.loop Ot))))) (.aH Ab false [] [4,5,6,17,18,19]))))
def Aa : List O :=[oo 49<|.mv (.t 5),oo 50<|.bin .quo (.t 49) (ki 3),oo 51<|.mv (.t 6),oo 2<|.mv (.t 50),oo 3<|.mv (.t 51)]
def cQD : C := (.seq (.aH HM false [] [1]) (.seq (.aH HK false [] [1,4]) (.seq (.aH HJ true [(4,4),(1,3)] [1,4,5,6]) (.seq (.seq (.aH HI false [] [4,5,6,17,18,19]) (.aJ 0 (.loop Oq))) (.seq (.aH Aa false [] [2,3]) .ret)))))
def qQD : eR := ⟨52,1,[.t 2,.t 3],cQD⟩
/- cohesion/cohesionref03.Check -/
def sB : List O :=[oo 1<|.box (.t 0),oo 2<|.mv (ki 0)]
def sA : List O :=[oo 5<|.cC 0 (.t 1),oo 6<|.ld none (.t 5),oo 7<|.bin .lss (.t 6) (ki 0),oo 8<|.mv (.t 7),gf 9 8<|.cC 0 (.t 1),gf 10 8<|.ld none (.t 9),gf 11 8<|.bin .gtr (.t 10) (ki 64),oo 12<|.pick (.t 8) (.k (.bool true)) (.t 11)]
def sx : List O :=[oo 2<|.mv (ki 1)]
def ss : List O :=[oo 13<|.cC 1 (.t 1),oo 14<|.ld none (.t 13),oo 15<|.len (.t 14),oo 16<|.mv (ki 0)]
def sq : List O :=[oo 17<|.bin .lss (.t 16) (.t 15)]
def sk : List O :=[oo 18<|.mv (.t 16),oo 19<|.gw 2 (.t 14) (.t 16),oo 20<|.ld (some 2) (.t 19),oo 4<|.new [.int .i64 0,.int .i64 0],oo 3<|.mv (.t 18),oz<|.st 2 (.t 4) (.t 20)]
def sj : List O :=[oo 21<|.cC 0 (.t 4),oo 22<|.ld none (.t 21),oo 23<|.bin .lss (.t 22) (ki 0),oo 24<|.mv (.t 23),gf 25 24<|.cC 0 (.t 4),gf 26 24<|.ld none (.t 25),gf 27 24<|.cC 1 (.t 4),gf 28 24<|.ld none (.t 27),gf 29 24<|.bin .geq (.t 26) (.t 28),oo 30<|.pick (.t 24) (.k (.bool true)) (.t 29),oo 31<|.mv (.t 30),gf 32 31<|.cC 1 (.t 4),gf 33 31<|.ld none (.t 32),gf 34 31<|.cC 0 (.t 1),gf 35 31<|.ld none (.t 34),gf 36 31<|.bin .geq (.t 33) (.t 35),oo 37<|.pick (.t 31) (.k (.bool true)) (.t 36)]
def si : List O :=[oo 2<|.mv (ki 6)]
def sg : List O :=[oo 38<|.mv (.t 3),oo 39<|.bin .gtr (.t 38) (ki 0),oo 40<|.mv (.t 39),gt 41 40<|.cC 1 (.t 1),gt 42 40<|.ld none (.t 41),gt 43 40<|.mv (.t 3),gt 44 40<|.bin .sub (.t 43) (ki 1),gt 45 40<|.gw 2 (.t 42) (.t 44),gt 46 40<|.ld (some 2) (.t 45),gt 47 40<|.ld (some 2) (.t 4),gt 48 40<|.call nQZ [.t 46,.t 47],gt 49 40<|.un .not (.t 48),oo 50<|.pick (.t 40) (.t 49) (.k (.bool false))]
def sd : List O :=[oo 2<|.mv (ki 5)]
def mU : List O :=[oo 51<|.bin .add (.t 16) (ki 1),oo 16<|.mv (.t 51)]
def yZ : C := (.seq (.aH sq false [] [1,14,15,16,17]) (.seq (.cond (.t 17) .skip (.exit 0)) (.seq (.aJ 1 (.seq (.aH sk false [] [1,3,4,14,15,16]) (.seq (.seq (.aH sj false [] [1,3,4,14,15,16,37]) (.cond (.t 37) (.seq (.aH si false [] [2]) .ret) .skip)) (.seq (.aH sg true [(0,0),(1,1),(2,2),(10,10),(11,11),(12,12),(4,5),(4,6),(3,9),(4,9),(5,9),(6,9),(7,9),(8,9)] [1,14,15,16,50]) (.cond (.t 50) (.seq (.aH sd false [] [2]) .ret) .skip))))) (.aH mU false [] [1,14,15,16]))))
def mT : List O :=[oo 2<|.mv (ki 0)]
def cQE : C := (.seq (.aH sB false [] [1]) (.seq (.seq (.aH sA false [] [1,12]) (.cond (.t 12) (.seq (.aH sx false [] [2]) .ret) .skip)) (.seq (.seq (.aH ss false [] [1,14,15,16]) (.aJ 0 (.loop yZ))) (.seq (.aH mT false [] [2]) .ret))))
def qQE : eR := ⟨52,1,[.t 2],cQE⟩
/- cohesion/cohesionref03.Common -/
def aee : List O :=[oo 3<|.box (.t 0),oo 6<|.mv (.k (.own 1 []))]
def aed : List O :=[oo 7<|.mv (.t 1),oo 8<|.mv (.t 2),oo 9<|.bin .eql (.t 7) (.t 8)]
def aec : List O :=[oo 6<|.mv (.k (.own 1 []))]
def aeb : List O :=[oo 10<|.ld (some 2) (.t 3),oo 11<|.mv (.t 1),oo 12<|.call nQ1 [.t 10,.t 11],oo 13<|.ld (some 2) (.t 3),oo 14<|.mv (.t 2),oo 15<|.call nQ1 [.t 13,.t 14],oo 16<|.call nQ0 [.t 12,.t 15],oo 6<|.mv (.t 16)]
def cQF : C := (.seq (.aH aee false [] [1,2,3]) (.seq (.seq (.aH aed false [] [1,2,3,9]) (.cond (.t 9) (.seq (.aH aec false [] [6]) .ret) .skip)) (.seq (.aH aeb true [(5,5),(6,6),(7,7),(0,1),(0,3),(1,3),(2,3),(0,4),(2,4),(3,4)] [6]) .ret)))
def qQF : eR := ⟨17,3,[.t 6],cQF⟩
/- cohesion/triangles.lists -/
def Hw : List O :=[oo 1<|.box (.t 0),oo 2<|.mv (.k (.own 1 []))]
def Hv : List O :=[oo 8<|.cC 0 (.t 1),oo 9<|.ld none (.t 8),oo 10<|.Kn 1 [.own 1001 []] (.t 9) (.t 9),oo 3<|.mv (.t 10)]
def Hu : List O :=[oo 11<|.cC 1 (.t 1),oo 12<|.ld none (.t 11),oo 13<|.len (.t 12),oo 14<|.mv (ki 0)]
def BN : List O :=[oo 15<|.bin .lss (.t 14) (.t 13)]
def BM : List O :=[oo 16<|.gw 2 (.t 12) (.t 14),oo 17<|.ld (some 2) (.t 16),oo 5<|.new [.int .i64 0,.int .i64 0],oz<|.st 2 (.t 5) (.t 17)]
def BL : List O :=[oo 18<|.mv (.t 3),oo 19<|.cC 0 (.t 5),oo 20<|.ld none (.t 19),oo 21<|.mv (.t 3),oo 22<|.cC 1 (.t 5),oo 23<|.ld none (.t 22),oo 24<|.mv (.t 3),oo 25<|.cC 0 (.t 5),oo 26<|.ld none (.t 25),oo 27<|.gw 1 (.t 24) (.t 26),oo 28<|.ld none (.t 27),oo 29<|.cC 1 (.t 5),oo 30<|.ld none (.t 29),oo 31<|.eE 1 1 [.int .i64 0] [(0,1,.t 30)],oo 32<|.app 1 (.t 28) (.t 31),oo 33<|.mv (.t 3),oo 34<|.cC 1 (.t 5),oo 35<|.ld none (.t 34),oo 36<|.gw 1 (.t 33) (.t 35),oo 37<|.ld none (.t 36),oo 38<|.cC 0 (.t 5),oo 39<|.ld none (.t 38),oo 40<|.eE 1 1 [.int .i64 0] [(0,1,.t 39)],oo 41<|.app 1 (.t 37) (.t 40),oo 42<|.gw 1 (.t 18) (.t 20),oz<|.st 1 (.t 42) (.t 32),oo 43<|.gw 1 (.t 21) (.t 23),oz<|.st 1 (.t 43) (.t 41)]
def BK : List O :=[oo 44<|.bin .add (.t 14) (ki 1),oo 14<|.mv (.t 44)]
def Oo : C := (.seq (.aH BN false [] [3,12,13,14,15]) (.seq (.cond (.t 15) .skip (.exit 0)) (.seq (.aJ 1 (.seq (.aH BM false [] [3,5,12,13,14]) (.aH BL true [(26,26),(27,27),(0,2),(2,3),(2,4),(0,5),(1,5),(2,5),(3,5),(2,6),(5,6),(2,7),(5,7),(0,8),(1,8),(2,8),(3,8),(4,8),(5,8),(6,8),(2,9),(5,9),(0,10),(1,10),(2,10),(3,10),(4,10),(5,10),(2,11),(5,11),(8,11),(10,11),(0,12),(1,12),(2,12),(3,12),(4,12),(5,12),(6,12),(7,12),(8,12),(9,12),(10,12),(0,13),(1,13),(2,13),(3,13),(4,13),(5,13),(6,13),(7,13),(8,13),(9,13),(10,13),(0,14),(1,14),(2,14),(3,14),(4,14),(5,14),(2,15),(5,15),(8,15),(10,15),(12,15),(13,15),(14,15),(2,16),(5,16),(8,16),(10,16),(12,16),(13,16),(14,16),(0,17),(1,17),(2,17),(3,17),(4,17),(5,17),(6,17),(7,17),(8,17),(9,17),(10,17),(11,17),(12,17),(13,17),(14,17),(15,17),(2,18),(5,18),(8,18),(10,18),(12,18),(13,18),(14,18),(0,19),(1,19),(2,19),(3,19),(4,19),(5,19),(6,19),(7,19),(8,19),(9,19),(10,19),(11,19),(12,19),(13,19),(14,19),(2,20),(5,20),(8,20),(10,20),(12,20),(13,20),(14,20),(17,20),(19,20),(0,21),(1,21),(2,21),(3,21),(4,21),(5,21),(6,21),(7,21),(8,21),(9,21),(10,21),(11,21),(12,21),(13,21),(14,21),(15,21),(16,21),(17,21),(18,21),(19,21),(0,22),(1,22),(2,22),(3,22),(4,22),(5,22),(6,22),(7,22),(8,22),(9,22),(10,22),(11,22),(12,22),(13,22),(14,22),(15,22),(16,22),(17,22),(18,22),(19,22),(0,23),(1,23),(2,23),(3,23),(4,23),(5,23),(5,24),(3,25),(4,25),(5,25)] [3,12,13,14]))) (.aH BK false [] [3,12,13,14]))))
def Hs : List O :=[oo 45<|.mv (.t 3),oo 46<|.len (.t 45),oo 47<|.mv (ki 0)]
def Hr : List O :=[oo 48<|.bin .lss (.t 47) (.t 46)]
def Hp : List O :=[oo 49<|.gw 1 (.t 45) (.t 47),oo 50<|.ld none (.t 49),oo 7<|.mv (.t 50)]
def z8 : List O :=[oo 51<|.mv (.t 7),oo 52<|.call nQ2 [.t 51]]
def z7 : List O :=[oo 53<|.bin .add (.t 47) (ki 1),oo 47<|.mv (.t 53)]
def On : C := (.seq (.aH Hr false [] [3,45,46,47,48]) (.seq (.cond (.t 48) .skip (.exit 2)) (.seq (.aJ 3 (.seq (.aH Hp false [] [3,7,45,46,47]) (.aH z8 false [] [3,45,46,47]))) (.aH z7 false [] [3,45,46,47]))))
def zZ : List O :=[oo 54<|.mv (.t 3),oo 2<|.mv (.t 54)]
def cQG : C := (.seq (.aH Hw false [] [1]) (.seq (.aH Hv false [] [1,3]) (.seq (.seq (.aH Hu false [] [3,12,13,14]) (.aJ 0 (.loop Oo))) (.seq (.seq (.aH Hs false [] [3,45,46,47]) (.aJ 2 (.loop On))) (.seq (.aH zZ false [] [2]) .ret)))))
def qQG : eR := ⟨55,1,[.t 2],cQG⟩
/- cohesion/triangles.pairs -/
def aea : List O :=[oo 2<|.mv (ki 0)]
def ad9 : List O :=[oo 3<|.mv (.t 0),oo 4<|.mv (.t 0),oo 5<|.bin .sub (.t 4) (ki 1),oo 6<|.bin .mul (.t 3) (.t 5),oo 7<|.bin .quo (.t 6) (ki 2),oo 2<|.mv (.t 7)]
def cQH : C := (.seq (.aH aea false [] [0]) (.seq (.aH ad9 false [] [2]) .ret))
def qQH : eR := ⟨8,1,[.t 2],cQH⟩
/- cohesion/triangles.share -/
def ad8 : List O :=[oo 4<|.new [.int .i64 0,.int .i64 0],oo 5<|.mv (ki 0)]
def ad7 : List O :=[oo 6<|.mv (.t 0),oo 7<|.mv (.t 1),oo 8<|.max [.t 7,ki 1],oo 9<|.call nQ3 [.t 6,.t 8],oo 10<|.ext 0 (.t 9),oo 11<|.ext 1 (.t 9),oz<|.st 2 (.t 4) (.t 10),oo 5<|.mv (.t 11)]
def cQI : C := (.seq (.aH ad8 false [] [0,1,4]) (.seq (.aH ad7 false [] [4,5]) .ret))
def qQI : eR := ⟨12,2,[.c 4 (some 2),.t 5],cQI⟩
/- cohesion/cohesionref29.pairs -/
def ad6 : List O :=[oo 2<|.box (.t 0),oo 4<|.mv (ki 0)]
def ad5 : List O :=[oo 6<|.ld (some 2) (.t 2),oo 7<|.mv (.t 1),oo 8<|.call nQ4 [.t 6,.t 7],oo 5<|.mv (.t 8)]
def ad4 : List O :=[oo 9<|.mv (.t 5),oo 10<|.mv (.t 5),oo 11<|.bin .sub (.t 10) (ki 1),oo 12<|.bin .mul (.t 9) (.t 11),oo 13<|.bin .quo (.t 12) (ki 2),oo 4<|.mv (.t 13)]
def cQJ : C := (.seq (.aH ad6 false [] [1,2]) (.seq (.aH ad5 false [] [5]) (.seq (.aH ad4 false [] [4]) .ret)))
def qQJ : eR := ⟨14,2,[.t 4],cQJ⟩
/- cohesion/cohesionref29.Share -/
def Zh : List O :=[oo 4<|.new [.int .i64 0,.int .i64 0]]
def Zg : List O :=[oo 5<|.mv (.t 1),oo 6<|.bin .eql (.t 5) (ki 0)]
def Zf : List O :=[oo 7<|.build [.int .i64 0,.int .i64 0] [(0,1,ki 0),(1,1,ki 1)],oz<|.st 2 (.t 4) (.t 7)]
def Ze : List O :=[oo 8<|.mv (.t 0),oo 9<|.mv (.t 1),oo 10<|.call nQ5 [.t 8,.t 9],oz<|.st 2 (.t 4) (.t 10)]
def cQK : C := (.seq (.aH Zh false [] [0,1,4]) (.seq (.seq (.aH Zg false [] [0,1,4,6]) (.cond (.t 6) (.seq (.aH Zf false [] [4]) .ret) .skip)) (.seq (.aH Ze false [] [4]) .ret)))
def qQK : eR := ⟨11,2,[.c 4 (some 2)],cQK⟩
/- cohesion/triangles.copied -/
def ad3 : List O :=[oo 1<|.box (.t 0),oo 2<|.new [.int .i64 0,.own 2 []]]
def ad0 : List O :=[oo 3<|.cC 1 (.t 1),oo 4<|.ld none (.t 3),oo 5<|.call Z1 [.t 4],oo 6<|.cC 1 (.t 1),oz<|.st 1 (.t 6) (.t 5)]
def adZ : List O :=[oo 7<|.ld (some 2) (.t 1),oz<|.st 2 (.t 2) (.t 7)]
def cQL : C := (.seq (.aH ad3 false [] [1,2]) (.seq (.aH ad0 false [] [1,2]) (.seq (.aH adZ false [] [2]) .ret)))
def qQL : eR := ⟨8,1,[.c 2 (some 2)],cQL⟩
/- cohesion/cohesionref03.Same -/
def adY : List O :=[oo 2<|.box (.t 0),oo 3<|.box (.t 1),oo 4<|.mv (.k (.bool false))]
def adX : List O :=[oo 5<|.cC 0 (.t 2),oo 6<|.ld none (.t 5),oo 7<|.cC 0 (.t 3),oo 8<|.ld none (.t 7),oo 9<|.bin .eql (.t 6) (.t 8),oo 10<|.mv (.t 9),gt 11 10<|.cC 1 (.t 2),gt 12 10<|.ld none (.t 11),gt 13 10<|.cC 1 (.t 3),gt 14 10<|.ld none (.t 13),gt 15 10<|.call nQ7 [.t 12,.t 14],oo 16<|.pick (.t 10) (.t 15) (.k (.bool false)),oo 4<|.mv (.t 16)]
def cQM : C := (.seq (.aH adY false [] [2,3]) (.seq (.aH adX false [] [4]) .ret))
def qQM : eR := ⟨17,2,[.t 4],cQM⟩
/- slices.Equal[[]int,int] -/
def EF : List O :=[oo 4<|.mv (.k (.bool false))]
def EE : List O :=[oo 6<|.mv (.t 0),oo 7<|.len (.t 6),oo 8<|.mv (.t 1),oo 9<|.len (.t 8),oo 10<|.bin .neq (.t 7) (.t 9)]
def ED : List O :=[oo 4<|.mv (.k (.bool false))]
def EC : List O :=[oo 11<|.mv (.t 0),oo 12<|.len (.t 11),oo 13<|.mv (ki 0)]
def EB : List O :=[oo 14<|.bin .lss (.t 13) (.t 12)]
def EA : List O :=[oo 15<|.mv (.t 13),oo 5<|.mv (.t 15)]
def Ez : List O :=[oo 16<|.mv (.t 0),oo 17<|.mv (.t 5),oo 18<|.gw 1 (.t 16) (.t 17),oo 19<|.ld none (.t 18),oo 20<|.mv (.t 1),oo 21<|.mv (.t 5),oo 22<|.gw 1 (.t 20) (.t 21),oo 23<|.ld none (.t 22),oo 24<|.bin .neq (.t 19) (.t 23)]
def Ey : List O :=[oo 4<|.mv (.k (.bool false))]
def Ew : List O :=[oo 25<|.bin .add (.t 13) (ki 1),oo 13<|.mv (.t 25)]
def Om : C := (.seq (.aH EB false [] [0,1,12,13,14]) (.seq (.cond (.t 14) .skip (.exit 0)) (.seq (.aJ 1 (.seq (.aH EA false [] [0,1,5,12,13]) (.seq (.aH Ez true [(8,8),(3,4),(3,5),(3,6),(0,7),(1,7),(2,7),(3,7)] [0,1,12,13,24]) (.cond (.t 24) (.seq (.aH Ey false [] [4]) .ret) .skip)))) (.aH Ew false [] [0,1,12,13]))))
def Eu : List O :=[oo 4<|.mv (.k (.bool true))]
def cQN : C := (.seq (.aH EF false [] [0,1]) (.seq (.seq (.aH EE false [] [0,1,10]) (.cond (.t 10) (.seq (.aH ED false [] [4]) .ret) .skip)) (.seq (.seq (.aH EC false [] [0,1,12,13]) (.aJ 0 (.loop Om))) (.seq (.aH Eu false [] [4]) .ret))))
def qQN : eR := ⟨26,2,[.t 4],cQN⟩
/- cohesion/graph.Degree -/
def adW : List O :=[oo 2<|.box (.t 0),oo 4<|.mv (ki 0)]
def adV : List O :=[oo 5<|.ld (some 2) (.t 2),oo 6<|.mv (.t 1),oo 7<|.call nQ9 [.t 5,.t 6],oo 8<|.call nQ8 [.t 7],oo 4<|.mv (.t 8)]
def cQO : C := (.seq (.aH adW false [] [1,2]) (.seq (.aH adV false [] [4]) .ret))
def qQO : eR := ⟨9,2,[.t 4],cQO⟩
/- cohesion/graph.Add -/
def S4 : List O :=[oo 3<|.box (.t 0),oo 6<|.new [.int .i64 0,.own 2 []],oo 7<|.mv (ki 0)]
def S3 : List O :=[oo 11<|.ld (some 2) (.t 3),oo 12<|.mv (.t 1),oo 13<|.mv (.t 2),oo 14<|.call Km [.t 11,.t 12,.t 13],oo 8<|.mv (.t 14)]
def S2 : List O :=[oo 15<|.mv (.t 8),oo 16<|.bin .neq (.t 15) (ki 0)]
def S1 : List O :=[oo 17<|.build [.int .i64 0,.own 2 []] [],oo 18<|.mv (.t 8),oz<|.st 2 (.t 6) (.t 17),oo 7<|.mv (.t 18)]
def S0 : List O :=[oo 20<|.ld (some 2) (.t 3),oo 21<|.mv (.t 1),oo 22<|.mv (.t 2),oo 23<|.call Kl [.t 20,.t 21,.t 22],oo 19<|.mv (.t 23),oo 24<|.ext 0 (.t 19),oo 25<|.ext 1 (.t 19),oo 9<|.mv (.t 24),oo 10<|.mv (.t 25)]
def SZ : List O :=[oo 26<|.mv (.t 10)]
def SY : List O :=[oo 27<|.build [.int .i64 0,.own 2 []] [],oz<|.st 2 (.t 6) (.t 27),oo 7<|.mv (ki 15)]
def SX : List O :=[oo 28<|.cC 0 (.t 3),oo 29<|.ld none (.t 28),oo 30<|.cC 1 (.t 3),oo 31<|.ld none (.t 30),oo 32<|.call Z1 [.t 31],oo 33<|.mv (.t 9),oo 34<|.mv (.t 1),oo 35<|.mv (.t 2),oo 36<|.call Kk [.t 34,.t 35],oo 37<|.eE 2 1 [.int .i64 0,.int .i64 0] [(0,2,.t 36)],oo 38<|.call QI [.t 32,.t 33,.t 37],oo 39<|.build [.int .i64 0,.own 2 []] [(0,1,.t 29),(1,1,.t 38)],oz<|.st 2 (.t 6) (.t 39),oo 7<|.mv (ki 0)]
def cQP : C := (.seq (.aH S4 false [] [1,2,3,6]) (.seq (.seq (.aH S3 false [] [1,2,3,6,8]) (.seq (.aH S2 false [] [1,2,3,6,8,16]) (.cond (.t 16) (.seq (.aH S1 false [] [6,7]) .ret) .skip))) (.seq (.aH S0 false [] [1,2,3,6,9,10]) (.seq (.seq (.aH SZ false [] [1,2,3,6,9,26]) (.cond (.t 26) (.seq (.aH SY false [] [6,7]) .ret) .skip)) (.seq (.aH SX true [(11,11),(12,12),(13,13),(1,2),(0,3),(1,3),(0,4),(1,4),(1,5),(3,5),(4,5),(1,6),(3,6),(4,6),(1,7),(3,7),(4,7),(0,8),(1,8),(5,8),(0,9),(1,9),(5,9),(0,10),(1,10)] [6,7]) .ret)))))
def qQP : eR := ⟨40,3,[.c 6 (some 2),.t 7],cQP⟩
/- cohesion/triangles.changed -/
def SW : List O :=[oo 5<|.box (.t 0),oo 6<|.box (.t 1),oo 10<|.new [.int .i64 0,.own 2 [],.int .i64 0,.own 1 []],oo 11<|.mv (ki 0),oo 12<|.mv (ki 0)]
def SV : List O :=[oo 18<|.cC 0 (.t 5),oo 19<|.ld (some 2) (.t 18),oo 20<|.call nQG [.t 19],oo 13<|.mv (.t 20)]
def SU : List O :=[oo 21<|.mv (.t 13),oo 22<|.mv (.t 2),oo 23<|.gw 1 (.t 21) (.t 22),oo 24<|.ld none (.t 23),oo 25<|.mv (.t 13),oo 26<|.mv (.t 3),oo 27<|.gw 1 (.t 25) (.t 26),oo 28<|.ld none (.t 27),oo 29<|.call nQY [.t 24,.t 28],oo 14<|.mv (.t 29)]
def SR : List O :=[oo 30<|.ld (some 2) (.t 6),oo 31<|.cC 2 (.t 5),oo 32<|.ld none (.t 31),oo 33<|.mv (.t 4),oo 34<|.mv (.t 14),oo 35<|.len (.t 34),oo 36<|.bin .mul (.t 33) (.t 35),oo 37<|.bin .add (.t 32) (.t 36),oo 38<|.cC 3 (.t 5),oo 39<|.ld none (.t 38),oo 40<|.call Kj [.t 39],oo 41<|.build [.int .i64 0,.own 2 [],.int .i64 0,.own 1 []] [(0,2,.t 30),(2,1,.t 37),(3,1,.t 40)],oo 15<|.new [.int .i64 0,.own 2 [],.int .i64 0,.own 1 []],oz<|.st 4 (.t 15) (.t 41)]
def SQ : List O :=[oo 42<|.mv (.t 14),oo 43<|.len (.t 42),oo 44<|.mv (ki 0)]
def SP : List O :=[oo 45<|.bin .lss (.t 44) (.t 43)]
def SO : List O :=[oo 46<|.gw 1 (.t 42) (.t 44),oo 47<|.ld none (.t 46),oo 17<|.mv (.t 47)]
def SN : List O :=[oo 48<|.cC 3 (.t 15),oo 49<|.ld none (.t 48),oo 50<|.mv (.t 17),oo 51<|.gw 1 (.t 49) (.t 50),oo 52<|.ld none (.t 51),oo 53<|.mv (.t 4),oo 54<|.bin .add (.t 52) (.t 53),oo 55<|.gw 1 (.t 49) (.t 50),oz<|.st 1 (.t 55) (.t 54)]
def SM : List O :=[oo 56<|.bin .add (.t 44) (ki 1),oo 44<|.mv (.t 56)]
def T0 : C := (.seq (.aH SP false [] [2,3,4,10,14,15,42,43,44,45]) (.seq (.cond (.t 45) .skip (.exit 0)) (.seq (.aJ 1 (.seq (.aH SO false [] [2,3,4,10,14,15,17,42,43,44]) (.aH SN false [] [2,3,4,10,14,15,42,43,44]))) (.aH SM false [] [2,3,4,10,14,15,42,43,44]))))
def SL : List O :=[oo 57<|.cC 3 (.t 15),oo 58<|.ld none (.t 57),oo 59<|.mv (.t 2),oo 60<|.gw 1 (.t 58) (.t 59),oo 61<|.ld none (.t 60),oo 62<|.mv (.t 4),oo 63<|.mv (.t 14),oo 64<|.len (.t 63),oo 65<|.bin .mul (.t 62) (.t 64),oo 66<|.bin .add (.t 61) (.t 65),oo 67<|.gw 1 (.t 58) (.t 59),oz<|.st 1 (.t 67) (.t 66)]
def JV : List O :=[oo 68<|.cC 3 (.t 15),oo 69<|.ld none (.t 68),oo 70<|.mv (.t 3),oo 71<|.gw 1 (.t 69) (.t 70),oo 72<|.ld none (.t 71),oo 73<|.mv (.t 4),oo 74<|.mv (.t 14),oo 75<|.len (.t 74),oo 76<|.bin .mul (.t 73) (.t 75),oo 77<|.bin .add (.t 72) (.t 76),oo 78<|.gw 1 (.t 69) (.t 70),oz<|.st 1 (.t 78) (.t 77)]
def JU : List O :=[oo 79<|.ld (some 4) (.t 15),oo 80<|.mv (.t 14),oo 81<|.len (.t 80),oz<|.st 4 (.t 10) (.t 79),oo 11<|.mv (.t 81),oo 12<|.mv (ki 0)]
def cQQ : C := (.seq (.aH SW false [] [2,3,4,5,6,10]) (.seq (.aH SV false [] [2,3,4,5,6,10,13]) (.seq (.aH SU true [(8,8),(9,9),(3,4),(3,5),(3,6),(0,7),(1,7),(2,7),(3,7)] [2,3,4,5,6,10,14]) (.seq (.aH SR true [(13,13),(0,1),(0,2),(0,3),(2,3),(0,4),(2,4),(0,5),(2,5),(0,6),(2,6),(0,7),(0,8),(2,8),(0,9),(1,9),(2,9),(3,9),(4,9),(5,9),(6,9),(7,9),(0,10),(1,10),(2,10),(3,10),(4,10),(5,10),(6,10),(7,10),(0,12),(1,12),(2,12),(3,12),(4,12),(5,12),(6,12),(7,12),(8,12),(9,12),(10,12),(11,12)] [2,3,4,10,14,15]) (.seq (.seq (.aH SQ false [] [2,3,4,10,14,15,42,43,44]) (.aJ 0 (.loop T0))) (.seq (.aH SL false [] [3,4,10,14,15]) (.seq (.aH JV false [] [10,14,15]) (.seq (.aH JU false [] [10,11,12]) .ret))))))))
def qQQ : eR := ⟨82,5,[.c 10 (some 4),.t 11,.t 12],cQQ⟩
/- cohesion/cohesionref03.Add -/
def SK : List O :=[oo 3<|.box (.t 0),oo 6<|.new [.int .i64 0,.own 2 []],oo 7<|.mv (ki 0)]
def SJ : List O :=[oo 9<|.ld (some 2) (.t 3),oo 10<|.call WM [.t 9],oo 8<|.mv (.t 10)]
def SI : List O :=[oo 11<|.mv (.t 8),oo 12<|.bin .neq (.t 11) (ki 0)]
def SH : List O :=[oo 13<|.build [.int .i64 0,.own 2 []] [],oo 14<|.mv (.t 8),oz<|.st 2 (.t 6) (.t 13),oo 7<|.mv (.t 14)]
def SG : List O :=[oo 15<|.cC 0 (.t 3),oo 16<|.ld none (.t 15),oo 17<|.mv (.t 1),oo 18<|.mv (.t 2),oo 19<|.call nQU [.t 16,.t 17,.t 18],oo 20<|.un .not (.t 19)]
def SF : List O :=[oo 21<|.build [.int .i64 0,.own 2 []] [],oz<|.st 2 (.t 6) (.t 21),oo 7<|.mv (ki 6)]
def SE : List O :=[oo 22<|.ld (some 2) (.t 3),oo 23<|.mv (.t 1),oo 24<|.mv (.t 2),oo 25<|.call Ki [.t 22,.t 23,.t 24],oo 26<|.bin .geq (.t 25) (ki 0)]
def SD : List O :=[oo 27<|.build [.int .i64 0,.own 2 []] [],oz<|.st 2 (.t 6) (.t 27),oo 7<|.mv (ki 15)]
def SC : List O :=[oo 28<|.cC 0 (.t 3),oo 29<|.ld none (.t 28),oo 30<|.cC 1 (.t 3),oo 31<|.ld none (.t 30),oo 32<|.mv (.t 1),oo 33<|.mv (.t 2),oo 34<|.call ZY [.t 32,.t 33],oo 35<|.call nQV [.t 31,.t 34],oo 36<|.app 2 (.k (.own 2 [])) (.t 35),oo 37<|.build [.int .i64 0,.own 2 []] [(0,1,.t 29),(1,1,.t 36)],oz<|.st 2 (.t 6) (.t 37),oo 7<|.mv (ki 0)]
def cQR : C := (.seq (.aH SK false [] [1,2,3,6]) (.seq (.seq (.aH SJ false [] [1,2,3,6,8]) (.seq (.aH SI false [] [1,2,3,6,8,12]) (.cond (.t 12) (.seq (.aH SH false [] [6,7]) .ret) .skip))) (.seq (.seq (.aH SG false [] [1,2,3,6,20]) (.cond (.t 20) (.seq (.aH SF false [] [6,7]) .ret) .skip)) (.seq (.seq (.aH SE false [] [1,2,3,6,26]) (.cond (.t 26) (.seq (.aH SD false [] [6,7]) .ret) .skip)) (.seq (.aH SC true [(9,9),(10,10),(11,11),(1,2),(0,3),(1,3),(1,4),(3,4),(1,5),(3,5),(0,6),(1,6),(2,6),(3,6),(0,7),(1,7),(0,8),(1,8)] [6,7]) .ret)))))
def qQR : eR := ⟨38,3,[.c 6 (some 2),.t 7],cQR⟩
/- cohesion/graph.Remove -/
def SA : List O :=[oo 3<|.box (.t 0),oo 6<|.new [.int .i64 0,.own 2 []],oo 7<|.mv (ki 0)]
def Sz : List O :=[oo 11<|.ld (some 2) (.t 3),oo 12<|.mv (.t 1),oo 13<|.mv (.t 2),oo 14<|.call Km [.t 11,.t 12,.t 13],oo 8<|.mv (.t 14)]
def Sy : List O :=[oo 15<|.mv (.t 8),oo 16<|.bin .neq (.t 15) (ki 0)]
def Sx : List O :=[oo 17<|.build [.int .i64 0,.own 2 []] [],oo 18<|.mv (.t 8),oz<|.st 2 (.t 6) (.t 17),oo 7<|.mv (.t 18)]
def Sw : List O :=[oo 20<|.ld (some 2) (.t 3),oo 21<|.mv (.t 1),oo 22<|.mv (.t 2),oo 23<|.call Kl [.t 20,.t 21,.t 22],oo 19<|.mv (.t 23),oo 24<|.ext 0 (.t 19),oo 25<|.ext 1 (.t 19),oo 9<|.mv (.t 24),oo 10<|.mv (.t 25)]
def Sv : List O :=[oo 26<|.mv (.t 10),oo 27<|.un .not (.t 26)]
def Su : List O :=[oo 28<|.build [.int .i64 0,.own 2 []] [],oz<|.st 2 (.t 6) (.t 28),oo 7<|.mv (ki 7)]
def Ss : List O :=[oo 29<|.cC 0 (.t 3),oo 30<|.ld none (.t 29),oo 31<|.cC 1 (.t 3),oo 32<|.ld none (.t 31),oo 33<|.call Z1 [.t 32],oo 34<|.mv (.t 9),oo 35<|.mv (.t 9),oo 36<|.bin .add (.t 35) (ki 1),oo 37<|.call QH [.t 33,.t 34,.t 36],oo 38<|.build [.int .i64 0,.own 2 []] [(0,1,.t 30),(1,1,.t 37)],oz<|.st 2 (.t 6) (.t 38),oo 7<|.mv (ki 0)]
def cQS : C := (.seq (.aH SA false [] [1,2,3,6]) (.seq (.seq (.aH Sz false [] [1,2,3,6,8]) (.seq (.aH Sy false [] [1,2,3,6,8,16]) (.cond (.t 16) (.seq (.aH Sx false [] [6,7]) .ret) .skip))) (.seq (.aH Sw false [] [3,6,9,10]) (.seq (.seq (.aH Sv false [] [3,6,9,27]) (.cond (.t 27) (.seq (.aH Su false [] [6,7]) .ret) .skip)) (.seq (.aH Ss true [(9,9),(10,10),(11,11),(1,2),(0,3),(1,3),(0,4),(1,4),(1,5),(3,5),(4,5),(1,6),(3,6),(4,6),(1,7),(3,7),(4,7),(0,8),(1,8)] [6,7]) .ret)))))
def qQS : eR := ⟨39,3,[.c 6 (some 2),.t 7],cQS⟩
/- cohesion/cohesionref03.Remove -/
def Er : List O :=[oo 3<|.box (.t 0),oo 6<|.new [.int .i64 0,.own 2 []],oo 7<|.mv (ki 0)]
def Ep : List O :=[oo 12<|.ld (some 2) (.t 3),oo 13<|.call WM [.t 12],oo 8<|.mv (.t 13)]
def Eo : List O :=[oo 14<|.mv (.t 8),oo 15<|.bin .neq (.t 14) (ki 0)]
def En : List O :=[oo 16<|.build [.int .i64 0,.own 2 []] [],oo 17<|.mv (.t 8),oz<|.st 2 (.t 6) (.t 16),oo 7<|.mv (.t 17)]
def Em : List O :=[oo 18<|.cC 0 (.t 3),oo 19<|.ld none (.t 18),oo 20<|.mv (.t 1),oo 21<|.mv (.t 2),oo 22<|.call nQU [.t 19,.t 20,.t 21],oo 23<|.un .not (.t 22)]
def El : List O :=[oo 24<|.build [.int .i64 0,.own 2 []] [],oz<|.st 2 (.t 6) (.t 24),oo 7<|.mv (ki 6)]
def Ek : List O :=[oo 25<|.ld (some 2) (.t 3),oo 26<|.mv (.t 1),oo 27<|.mv (.t 2),oo 28<|.call Ki [.t 25,.t 26,.t 27],oo 29<|.bin .lss (.t 28) (ki 0)]
def Ej : List O :=[oo 30<|.build [.int .i64 0,.own 2 []] [],oz<|.st 2 (.t 6) (.t 30),oo 7<|.mv (ki 7)]
def Ei : List O :=[oo 31<|.cC 0 (.t 3),oo 32<|.ld none (.t 31),oo 33<|.build [.int .i64 0,.own 2 []] [(0,1,.t 32)],oo 9<|.new [.int .i64 0,.own 2 []],oz<|.st 2 (.t 9) (.t 33)]
def Eh : List O :=[oo 34<|.cC 1 (.t 3),oo 35<|.ld none (.t 34),oo 36<|.len (.t 35),oo 37<|.mv (ki 0)]
def xB : List O :=[oo 38<|.bin .lss (.t 37) (.t 36)]
def xA : List O :=[oo 39<|.gw 2 (.t 35) (.t 37),oo 40<|.ld (some 2) (.t 39),oo 11<|.new [.int .i64 0,.int .i64 0],oz<|.st 2 (.t 11) (.t 40)]
def xz : List O :=[oo 41<|.ld (some 2) (.t 11),oo 42<|.mv (.t 1),oo 43<|.mv (.t 2),oo 44<|.call ZY [.t 42,.t 43],oo 45<|.eq true (.str [true,true]) (.t 41) (.t 44)]
def xy : List O :=[oo 46<|.cC 1 (.t 9),oo 47<|.ld none (.t 46),oo 48<|.ld (some 2) (.t 11),oo 49<|.eE 2 1 [.int .i64 0,.int .i64 0] [(0,2,.t 48)],oo 50<|.app 2 (.t 47) (.t 49),oo 51<|.cC 1 (.t 9),oz<|.st 1 (.t 51) (.t 50)]
def xx : List O :=[oo 52<|.bin .add (.t 37) (ki 1),oo 37<|.mv (.t 52)]
def H5 : C := (.seq (.aH xB false [] [1,2,6,9,35,36,37,38]) (.seq (.cond (.t 38) .skip (.exit 0)) (.seq (.aJ 1 (.seq (.aH xA false [] [1,2,6,9,11,35,36,37]) (.seq (.aH xz true [(4,4),(0,1),(0,2),(0,3)] [1,2,6,9,11,35,36,37,45]) (.cond (.t 45) (.aH xy false [] [1,2,6,9,35,36,37]) .skip)))) (.aH xx false [] [1,2,6,9,35,36,37]))))
def xw : List O :=[oo 53<|.ld (some 2) (.t 9),oz<|.st 2 (.t 6) (.t 53),oo 7<|.mv (ki 0)]
def cQT : C := (.seq (.aH Er false [] [1,2,3,6]) (.seq (.seq (.aH Ep false [] [1,2,3,6,8]) (.seq (.aH Eo false [] [1,2,3,6,8,15]) (.cond (.t 15) (.seq (.aH En false [] [6,7]) .ret) .skip))) (.seq (.seq (.aH Em false [] [1,2,3,6,23]) (.cond (.t 23) (.seq (.aH El false [] [6,7]) .ret) .skip)) (.seq (.seq (.aH Ek false [] [1,2,3,6,29]) (.cond (.t 29) (.seq (.aH Ej false [] [6,7]) .ret) .skip)) (.seq (.aH Ei false [] [1,2,3,6,9]) (.seq (.seq (.aH Eh false [] [1,2,6,9,35,36,37]) (.aJ 0 (.loop H5))) (.seq (.aH xw false [] [6,7]) .ret)))))))
def qQT : eR := ⟨54,3,[.c 6 (some 2),.t 7],cQT⟩
/- cohesion/cohesionref03.ends -/
def Eg : List O :=[oo 6<|.mv (.k (.bool false))]
def Ef : List O :=[oo 7<|.mv (.t 1),oo 8<|.bin .geq (.t 7) (ki 0),oo 9<|.mv (.t 8),gt 10 9<|.mv (.t 2),gt 11 9<|.bin .geq (.t 10) (ki 0),oo 12<|.pick (.t 9) (.t 11) (.k (.bool false)),oo 13<|.mv (.t 12),gt 14 13<|.mv (.t 1),gt 15 13<|.mv (.t 0),gt 16 13<|.bin .lss (.t 14) (.t 15),oo 17<|.pick (.t 13) (.t 16) (.k (.bool false)),oo 18<|.mv (.t 17),gt 19 18<|.mv (.t 2),gt 20 18<|.mv (.t 0),gt 21 18<|.bin .lss (.t 19) (.t 20),oo 22<|.pick (.t 18) (.t 21) (.k (.bool false)),oo 23<|.mv (.t 22),gt 24 23<|.mv (.t 1),gt 25 23<|.mv (.t 2),gt 26 23<|.bin .neq (.t 24) (.t 25),oo 27<|.pick (.t 23) (.t 26) (.k (.bool false)),oo 6<|.mv (.t 27)]
def cQU : C := (.seq (.aH Eg false [] [0,1,2]) (.seq (.aH Ef false [] [6]) .ret))
def qQU : eR := ⟨28,3,[.t 6],cQU⟩
/- cohesion/cohesionref03.with -/
def BJ : List O :=[oo 3<|.box (.t 1),oo 4<|.mv (.k (.own 2 []))]
def BI : List O :=[oo 5<|.mv (ki 0)]
def BH : List O :=[oo 7<|.mv (.t 5),oo 8<|.mv (.t 0),oo 9<|.len (.t 8),oo 10<|.bin .lss (.t 7) (.t 9),oo 11<|.mv (.t 10),gt 12 11<|.mv (.t 0),gt 13 11<|.mv (.t 5),gt 14 11<|.gw 2 (.t 12) (.t 13),gt 15 11<|.ld (some 2) (.t 14),gt 16 11<|.ld (some 2) (.t 3),gt 17 11<|.call nQZ [.t 15,.t 16],oo 18<|.pick (.t 11) (.t 17) (.k (.bool false))]
def BG : List O :=[oo 19<|.mv (.t 5),oo 20<|.bin .add (.t 19) (ki 1),oo 5<|.mv (.t 20)]
def Ol : C := (.seq (.seq (.aH BH true [(3,3),(4,4),(10,10),(11,11),(5,9),(6,9),(7,9),(8,9)] [0,3,5,18]) (.cond (.t 18) .skip (.exit 0))) (.aJ 1 (.aH BG false [] [0,3,5])))
def BF : List O :=[oo 21<|.mv (.t 5),oo 22<|.mv (.t 0),oo 23<|.len (.t 22),oo 24<|.bin .lss (.t 21) (.t 23),oo 25<|.mv (.t 24),gt 26 25<|.mv (.t 0),gt 27 25<|.mv (.t 5),gt 28 25<|.gw 2 (.t 26) (.t 27),gt 29 25<|.ld (some 2) (.t 28),gt 30 25<|.ld (some 2) (.t 3),gt 31 25<|.eq false (.str [true,true]) (.t 29) (.t 30),oo 32<|.pick (.t 25) (.t 31) (.k (.bool false))]
def BE : List O :=[oo 33<|.mv (.t 0),oo 4<|.mv (.t 33)]
def BD : List O :=[oo 34<|.mv (.t 0),oo 35<|.mv (.t 5),oo 36<|.rT 2 (.t 34) none (some (.t 35)),oo 37<|.app 2 (.k (.own 2 [])) (.t 36),oo 6<|.mv (.t 37)]
def BC : List O :=[oo 38<|.mv (.t 6),oo 39<|.ld (some 2) (.t 3),oo 40<|.eE 2 1 [.int .i64 0,.int .i64 0] [(0,2,.t 39)],oo 41<|.app 2 (.t 38) (.t 40),oo 42<|.mv (.t 0),oo 43<|.mv (.t 5),oo 44<|.rT 2 (.t 42) (some (.t 43)) none,oo 45<|.app 2 (.t 41) (.t 44),oo 4<|.mv (.t 45)]
def cQV : C := (.seq (.aH BJ false [] [0,3]) (.seq (.aH BI false [] [0,3,5]) (.seq (.aJ 0 (.loop Ol)) (.seq (.seq (.aH BF true [(3,3),(4,4),(10,10),(11,11),(5,9),(6,9),(7,9),(8,9)] [0,3,5,32]) (.cond (.t 32) (.seq (.aH BE false [] [4]) .ret) .skip)) (.seq (.aH BD false [] [0,3,5,6]) (.seq (.aH BC true [(7,7),(8,8),(0,1),(0,2),(1,4),(2,4),(3,4),(1,5),(2,5),(3,5),(1,6),(2,6),(3,6)] [4]) .ret))))))
def qQV : eR := ⟨46,2,[.t 4],cQV⟩
/- cohesion/cohesionref03.edge -/
def adU : List O :=[oo 4<|.new [.int .i64 0,.int .i64 0]]
def adT : List O :=[oo 5<|.mv (.t 0),oo 6<|.mv (.t 1),oo 7<|.min [.t 5,.t 6],oo 8<|.mv (.t 0),oo 9<|.mv (.t 1),oo 10<|.max [.t 8,.t 9],oo 11<|.build [.int .i64 0,.int .i64 0] [(0,1,.t 7),(1,1,.t 10)],oz<|.st 2 (.t 4) (.t 11)]
def cQW : C := (.seq (.aH adU false [] [0,1,4]) (.seq (.aH adT false [] [4]) .ret))
def qQW : eR := ⟨12,2,[.c 4 (some 2)],cQW⟩
/- cohesion/graph.Order -/
def adS : List O :=[oo 2<|.box (.t 0),oo 3<|.box (.t 1),oo 4<|.mv (ki 0)]
def adR : List O :=[oo 5<|.cC 0 (.t 2),oo 6<|.ld none (.t 5),oo 7<|.cC 0 (.t 3),oo 8<|.ld none (.t 7),oo 9<|.call Ao [.t 6,.t 8],oo 10<|.cC 1 (.t 2),oo 11<|.ld none (.t 10),oo 12<|.cC 1 (.t 3),oo 13<|.ld none (.t 12),oo 14<|.call Ao [.t 11,.t 13],oo 15<|.eE 1 2 [.int .i64 0] [(0,1,.t 9),(1,1,.t 14)],oo 16<|.call NT [.t 15],oo 4<|.mv (.t 16)]
def cQX : C := (.seq (.aH adS false [] [2,3]) (.seq (.aH adR true [(9,9),(10,10),(11,11),(12,12),(1,2),(0,3),(1,3),(1,5),(3,5),(4,5),(0,6),(1,6),(2,6),(3,6),(4,6),(1,7),(3,7),(4,7),(6,7),(0,8),(1,8),(2,8),(3,8),(4,8),(5,8),(6,8)] [4]) .ret))
def qQX : eR := ⟨17,2,[.t 4],cQX⟩
/- cohesion/triangles.shared[int] -/
def Ee : List O :=[oo 4<|.mv (.k (.own 1 []))]
def Ec : List O :=[oo 5<|.mv (.k (.own 1 []))]
def Eb : List O :=[oo 6<|.mv (.t 0),oo 7<|.len (.t 6),oo 8<|.bin .gtr (.t 7) (ki 0),oo 9<|.mv (.t 8),gt 10 9<|.mv (.t 1),gt 11 9<|.len (.t 10),gt 12 9<|.bin .gtr (.t 11) (ki 0),oo 13<|.pick (.t 9) (.t 12) (.k (.bool false))]
def Ea : List O :=[oo 14<|.mv (.t 0),oo 15<|.gw 1 (.t 14) (ki 0),oo 16<|.ld none (.t 15),oo 17<|.mv (.t 1),oo 18<|.gw 1 (.t 17) (ki 0),oo 19<|.ld none (.t 18),oo 20<|.call Ao [.t 16,.t 19]]
def D9 : List O :=[oo 32<|.bin .eql (.t 20) (.k (.int .i64 (-1))),oo 31<|.mv (.t 32)]
def D8 : List O :=[oo 33<|.mv (.t 0),oo 34<|.rT 1 (.t 33) (some (ki 1)) none,oo 0<|.mv (.t 34)]
def D7 : List O :=[oo 36<|.bin .eql (.t 20) (ki 1),oo 35<|.mv (.t 36)]
def D6 : List O :=[oo 37<|.mv (.t 1),oo 38<|.rT 1 (.t 37) (some (ki 1)) none,oo 1<|.mv (.t 38)]
def D5 : List O :=[oo 21<|.mv (.t 5),oo 22<|.mv (.t 0),oo 23<|.gw 1 (.t 22) (ki 0),oo 24<|.ld none (.t 23),oo 25<|.eE 1 1 [.int .i64 0] [(0,1,.t 24)],oo 26<|.app 1 (.t 21) (.t 25),oo 5<|.mv (.t 26)]
def D4 : List O :=[oo 27<|.mv (.t 0),oo 28<|.rT 1 (.t 27) (some (ki 1)) none,oo 29<|.mv (.t 1),oo 30<|.rT 1 (.t 29) (some (ki 1)) none,oo 0<|.mv (.t 28),oo 1<|.mv (.t 30)]
def vW : C := (.seq (.seq (.aH Eb false [] [0,1,5,13]) (.cond (.t 13) .skip (.exit 0))) (.aJ 1 (.seq (.aH Ea true [(6,6),(2,3),(2,4),(0,5),(1,5),(2,5)] [0,1,5,20]) (.aJ 2 (.seq (.aH D9 false [] [0,1,5,20,31]) (.cond (.t 31) (.aH D8 false [] [0,1,5]) (.seq (.aH D7 false [] [0,1,5,35]) (.cond (.t 35) (.aH D6 false [] [0,1,5]) (.seq (.aH D5 false [] [0,1,5]) (.aH D4 true [(5,5)] [0,1,5]))))))))))
def xv : List O :=[oo 39<|.mv (.t 5),oo 4<|.mv (.t 39)]
def cQY : C := (.seq (.aH Ee false [] [0,1]) (.seq (.aH Ec false [] [0,1,5]) (.seq (.aJ 0 (.loop vW)) (.seq (.aH xv false [] [4]) .ret))))
def qQY : eR := ⟨40,2,[.t 4],cQY⟩
/- cohesion/cohesionref03.Before -/
def Nf : List O :=[oo 2<|.box (.t 0),oo 3<|.box (.t 1),oo 4<|.mv (.k (.bool false))]
def Nd : List O :=[oo 5<|.cC 0 (.t 2),oo 6<|.ld none (.t 5),oo 7<|.cC 0 (.t 3),oo 8<|.ld none (.t 7),oo 9<|.bin .lss (.t 6) (.t 8),oo 10<|.mv (.t 9),gf 11 10<|.cC 0 (.t 2),gf 12 10<|.ld none (.t 11),gf 13 10<|.cC 0 (.t 3),gf 14 10<|.ld none (.t 13),gf 15 10<|.bin .eql (.t 12) (.t 14),gf 16 10<|.mv (.t 15),gt 17 16<|.cC 1 (.t 2),gt 18 16<|.ld none (.t 17),gt 19 16<|.cC 1 (.t 3),gt 20 16<|.ld none (.t 19),gt 21 16<|.bin .lss (.t 18) (.t 20),gf 22 10<|.pick (.t 16) (.t 21) (.k (.bool false)),oo 23<|.pick (.t 10) (.k (.bool true)) (.t 22),oo 4<|.mv (.t 23)]
def cQZ : C := (.seq (.aH Nf false [] [2,3]) (.seq (.aH Nd false [] [4]) .ret))
def qQZ : eR := ⟨24,2,[.t 4],cQZ⟩
/- cohesion/cohesionref02.Meet -/
def Nr : List O :=[oo 4<|.mv (.k (.own 1 []))]
def Nq : List O :=[oo 5<|.mv (.k (.own 1 []))]
def Np : List O :=[oo 8<|.mv (.t 0),oo 9<|.call Kh [.t 8],oo 10<|.len (.t 9),oo 11<|.mv (ki 0)]
def Nn : List O :=[oo 12<|.bin .lss (.t 11) (.t 10)]
def Nl : List O :=[oo 13<|.gw 1 (.t 9) (.t 11),oo 14<|.ld none (.t 13),oo 7<|.mv (.t 14)]
def Nk : List O :=[oo 15<|.mv (.t 1),oo 16<|.mv (.t 7),oo 17<|.call NS [.t 15,.t 16]]
def Nj : List O :=[oo 18<|.mv (.t 5),oo 19<|.mv (.t 7),oo 20<|.eE 1 1 [.int .i64 0] [(0,1,.t 19)],oo 21<|.app 1 (.t 18) (.t 20),oo 5<|.mv (.t 21)]
def Nh : List O :=[oo 22<|.bin .add (.t 11) (ki 1),oo 11<|.mv (.t 22)]
def Ov : C := (.seq (.aH Nn false [] [1,5,9,10,11,12]) (.seq (.cond (.t 12) .skip (.exit 0)) (.seq (.aJ 1 (.seq (.aH Nl false [] [1,5,7,9,10,11]) (.seq (.aH Nk false [] [1,5,7,9,10,11,17]) (.cond (.t 17) (.aH Nj false [] [1,5,9,10,11]) .skip)))) (.aH Nh false [] [1,5,9,10,11]))))
def Ng : List O :=[oo 23<|.mv (.t 5),oo 4<|.mv (.t 23)]
def cQ0 : C := (.seq (.aH Nr false [] [0,1]) (.seq (.aH Nq false [] [0,1,5]) (.seq (.seq (.aH Np false [] [1,5,9,10,11]) (.aJ 0 (.loop Ov))) (.seq (.aH Ng false [] [4]) .ret))))
def qQ0 : eR := ⟨24,2,[.t 4],cQ0⟩
/- cohesion/cohesionref03.Neighbours -/
def BX : List O :=[oo 2<|.box (.t 0),oo 4<|.mv (.k (.own 1 []))]
def BW : List O :=[oo 8<|.ld (some 2) (.t 2),oo 9<|.call WM [.t 8],oo 10<|.bin .neq (.t 9) (ki 0)]
def BV : List O :=[oo 4<|.mv (.k (.own 1 []))]
def BU : List O :=[oo 5<|.mv (.k (.own 1 []))]
def BT : List O :=[oo 11<|.cC 1 (.t 2),oo 12<|.ld none (.t 11),oo 13<|.len (.t 12),oo 14<|.mv (ki 0)]
def BS : List O :=[oo 15<|.bin .lss (.t 14) (.t 13)]
def BR : List O :=[oo 16<|.gw 2 (.t 12) (.t 14),oo 17<|.ld (some 2) (.t 16),oo 7<|.new [.int .i64 0,.int .i64 0],oz<|.st 2 (.t 7) (.t 17)]
def BQ : List O :=[oo 18<|.cC 0 (.t 7),oo 19<|.ld none (.t 18),oo 20<|.mv (.t 1),oo 21<|.bin .eql (.t 19) (.t 20)]
def BP : List O :=[oo 22<|.mv (.t 5),oo 23<|.cC 1 (.t 7),oo 24<|.ld none (.t 23),oo 25<|.eE 1 1 [.int .i64 0] [(0,1,.t 24)],oo 26<|.app 1 (.t 22) (.t 25),oo 5<|.mv (.t 26)]
def BO : List O :=[oo 27<|.cC 1 (.t 7),oo 28<|.ld none (.t 27),oo 29<|.mv (.t 1),oo 30<|.bin .eql (.t 28) (.t 29)]
def tP : List O :=[oo 31<|.mv (.t 5),oo 32<|.cC 0 (.t 7),oo 33<|.ld none (.t 32),oo 34<|.eE 1 1 [.int .i64 0] [(0,1,.t 33)],oo 35<|.app 1 (.t 31) (.t 34),oo 5<|.mv (.t 35)]
def tO : List O :=[oo 36<|.bin .add (.t 14) (ki 1),oo 14<|.mv (.t 36)]
def Ou : C := (.seq (.aH BS false [] [1,5,12,13,14,15]) (.seq (.cond (.t 15) .skip (.exit 0)) (.seq (.aJ 1 (.seq (.aH BR false [] [1,5,7,12,13,14]) (.seq (.seq (.aH BQ false [] [1,5,7,12,13,14,21]) (.cond (.t 21) (.aH BP false [] [1,5,7,12,13,14]) .skip)) (.seq (.aH BO false [] [1,5,7,12,13,14,30]) (.cond (.t 30) (.aH tP false [] [1,5,12,13,14]) .skip))))) (.aH tO false [] [1,5,12,13,14]))))
def tL : List O :=[oo 37<|.mv (.t 5),oo 38<|.call Kh [.t 37],oo 4<|.mv (.t 38)]
def cQ1 : C := (.seq (.aH BX false [] [1,2]) (.seq (.seq (.aH BW false [] [1,2,10]) (.cond (.t 10) (.seq (.aH BV false [] [4]) .ret) .skip)) (.seq (.aH BU false [] [1,2,5]) (.seq (.seq (.aH BT false [] [1,5,12,13,14]) (.aJ 0 (.loop Ou))) (.seq (.aH tL false [] [4]) .ret)))))
def qQ1 : eR := ⟨39,2,[.t 4],cQ1⟩
/- slices.Sort[[]int,int] -/
def aia : List O :=[oo 3<|.mv (.t 0),oo 4<|.len (.t 3),oo 2<|.mv (.t 4)]
def ah9 : List O :=[oo 5<|.mv (.t 0),oo 6<|.mv (.t 2),oo 7<|.mv (.t 2),oo 8<|.CB .u64 (.t 7),oo 9<|.call 77 [.t 8],oo 10<|.call 76 [.t 5,ki 0,.t 6,.t 9]]
def cQ2 : C := (.seq (.aH aia false [] [0,2]) (.aH ah9 false [] []))
def qQ2 : eR := ⟨11,1,[],cQ2⟩
/- cohesion/ratio.Make -/
def aeC : List O :=[oo 4<|.new [.int .i64 0,.int .i64 0],oo 5<|.mv (ki 0)]
def aeB : List O :=[oo 7<|.mv (.t 1),oo 8<|.bin .eql (.t 7) (ki 0),oo 6<|.mv (.t 8)]
def aeA : List O :=[oo 9<|.build [.int .i64 0,.int .i64 0] [],oz<|.st 2 (.t 4) (.t 9),oo 5<|.mv (ki 2)]
def aez : List O :=[oo 11<|.mv (.t 0),oo 12<|.call GS [.t 11,ki 4611686018427387904],oo 13<|.mv (.t 12),gt 14 13<|.mv (.t 1),gt 15 13<|.call GS [.t 14,ki 4611686018427387904],oo 16<|.pick (.t 13) (.t 15) (.k (.bool false)),oo 10<|.mv (.t 16)]
def aey : List O :=[oo 17<|.mv (.t 0),oo 18<|.mv (.t 1),oo 19<|.call NR [.t 17,.t 18],oo 20<|.ext 0 (.t 19),oo 21<|.ext 1 (.t 19),oz<|.st 2 (.t 4) (.t 20),oo 5<|.mv (.t 21)]
def aex : List O :=[oo 22<|.mv (.t 0),oo 23<|.call nQb4 [.t 22],oo 24<|.mv (.t 1),oo 25<|.call nQb4 [.t 24],oo 26<|.call nQb3 [.t 23,.t 25],oo 27<|.ext 0 (.t 26),oo 28<|.ext 1 (.t 26),oz<|.st 2 (.t 4) (.t 27),oo 5<|.mv (.t 28)]
def cQ3 : C := (.seq (.aH aeC false [] [0,1,4]) (.seq (.aJ 0 (.seq (.aH aeB false [] [0,1,4,6]) (.cond (.t 6) (.seq (.aH aeA false [] [4,5]) .ret) (.seq (.aH aez false [] [0,1,4,10]) (.cond (.t 10) (.seq (.aH aey false [] [4,5]) .ret) .skip))))) (.seq (.aH aex false [] [4,5]) .ret)))
def qQ3 : eR := ⟨29,2,[.c 4 (some 2),.t 5],cQ3⟩
/- cohesion/cohesionref03.Degree -/
def aew : List O :=[oo 2<|.box (.t 0),oo 4<|.mv (ki 0)]
def aev : List O :=[oo 5<|.ld (some 2) (.t 2),oo 6<|.mv (.t 1),oo 7<|.call nQ1 [.t 5,.t 6],oo 8<|.len (.t 7),oo 4<|.mv (.t 8)]
def cQ4 : C := (.seq (.aH aew false [] [1,2]) (.seq (.aH aev false [] [4]) .ret))
def qQ4 : eR := ⟨9,2,[.t 4],cQ4⟩
/- cohesion/cohesionref01.Of -/
def aeu : List O :=[oo 4<|.new [.int .i64 0,.int .i64 0]]
def aet : List O :=[oo 8<|.mv (.t 0),oo 9<|.mv (.t 1),oo 10<|.call NQ [.t 8,.t 9],oo 7<|.mv (.t 10),oo 11<|.ext 0 (.t 7),oo 12<|.ext 1 (.t 7),oo 5<|.new [.int .i64 0,.int .i64 0],oz<|.st 2 (.t 5) (.t 11),oo 6<|.mv (.t 12)]
def aes : List O :=[oo 13<|.ld (some 2) (.t 5),oz<|.st 2 (.t 4) (.t 13)]
def cQ5 : C := (.seq (.aH aeu false [] [0,1,4]) (.seq (.aH aet false [] [4,5]) (.seq (.aH aes false [] [4]) .ret)))
def qQ5 : eR := ⟨14,2,[.c 4 (some 2)],cQ5⟩
/- slices.Clone[[]cohesion/api.Edge,cohesion/api.Edge] -/
def aer : List O :=[oo 2<|.mv (.k (.own 2 []))]
def aeq : List O :=[oo 3<|.mv (.t 0),oo 4<|.eq false .Pt (.t 3) (.k (.own 2 []))]
def aep : List O :=[oo 2<|.mv (.k (.own 2 []))]
def aeo : List O :=[oo 5<|.eE 2 0 [.int .i64 0,.int .i64 0] [],oo 6<|.mv (.t 0),oo 7<|.app 2 (.t 5) (.t 6),oo 2<|.mv (.t 7)]
def cQ6 : C := (.seq (.aH aer false [] [0]) (.seq (.seq (.aH aeq false [] [0,4]) (.cond (.t 4) (.seq (.aH aep false [] [2]) .ret) .skip)) (.seq (.aH aeo false [] [2]) .ret)))
def qQ6 : eR := ⟨8,1,[.t 2],cQ6⟩
/- cohesion/cohesionref03.SameEdges -/
def Te : List O :=[oo 4<|.mv (.k (.bool false))]
def Td : List O :=[oo 6<|.mv (.t 0),oo 7<|.len (.t 6),oo 8<|.mv (.t 1),oo 9<|.len (.t 8),oo 10<|.bin .neq (.t 7) (.t 9)]
def Tc : List O :=[oo 4<|.mv (.k (.bool false))]
def Tb : List O :=[oo 11<|.mv (.t 0),oo 12<|.len (.t 11),oo 13<|.mv (ki 0)]
def Ta : List O :=[oo 14<|.bin .lss (.t 13) (.t 12)]
def S9 : List O :=[oo 15<|.mv (.t 13),oo 5<|.mv (.t 15)]
def S8 : List O :=[oo 16<|.mv (.t 0),oo 17<|.mv (.t 5),oo 18<|.gw 2 (.t 16) (.t 17),oo 19<|.ld (some 2) (.t 18),oo 20<|.mv (.t 1),oo 21<|.mv (.t 5),oo 22<|.gw 2 (.t 20) (.t 21),oo 23<|.ld (some 2) (.t 22),oo 24<|.eq true (.str [true,true]) (.t 19) (.t 23)]
def S7 : List O :=[oo 4<|.mv (.k (.bool false))]
def S6 : List O :=[oo 25<|.bin .add (.t 13) (ki 1),oo 13<|.mv (.t 25)]
def T1 : C := (.seq (.aH Ta false [] [0,1,12,13,14]) (.seq (.cond (.t 14) .skip (.exit 0)) (.seq (.aJ 1 (.seq (.aH S9 false [] [0,1,5,12,13]) (.seq (.aH S8 true [(8,8),(3,4),(3,5),(3,6),(0,7),(1,7),(2,7),(3,7)] [0,1,12,13,24]) (.cond (.t 24) (.seq (.aH S7 false [] [4]) .ret) .skip)))) (.aH S6 false [] [0,1,12,13]))))
def S5 : List O :=[oo 4<|.mv (.k (.bool true))]
def cQ7 : C := (.seq (.aH Te false [] [0,1]) (.seq (.seq (.aH Td false [] [0,1,10]) (.cond (.t 10) (.seq (.aH Tc false [] [4]) .ret) .skip)) (.seq (.seq (.aH Tb false [] [0,1,12,13]) (.aJ 0 (.loop T1))) (.seq (.aH S5 false [] [4]) .ret))))
def qQ7 : eR := ⟨26,2,[.t 4],cQ7⟩
/- cohesion/masks.Count -/
def aen : List O :=[oo 2<|.mv (ki 0)]
def aem : List O :=[oo 3<|.mv (.t 0),oo 4<|.call Kg [.t 3],oo 2<|.mv (.t 4)]
def cQ8 : C := (.seq (.aH aen false [] [0]) (.seq (.aH aem false [] [2]) .ret))
def qQ8 : eR := ⟨5,1,[.t 2],cQ8⟩
/- cohesion/graph.row -/
def ael : List O :=[oo 2<|.box (.t 0),oo 4<|.mv (.k (.int .u64 0))]
def aek : List O :=[oo 6<|.ld (some 2) (.t 2),oo 7<|.call NP [.t 6],oo 5<|.mv (.t 7)]
def aej : List O :=[oo 8<|.mv (.t 1),oo 9<|.bin .lss (.t 8) (ki 0),oo 10<|.mv (.t 9),gf 11 10<|.mv (.t 1),gf 12 10<|.mv (.t 5),gf 13 10<|.len (.t 12),gf 14 10<|.bin .geq (.t 11) (.t 13),oo 15<|.pick (.t 10) (.k (.bool true)) (.t 14),oo 16<|.mv (.t 15),gf 17 16<|.ld (some 2) (.t 2),gf 18 16<|.call QJ [.t 17],gf 19 16<|.bin .neq (.t 18) (ki 0),oo 20<|.pick (.t 16) (.k (.bool true)) (.t 19)]
def aei : List O :=[oo 4<|.mv (.k (.int .u64 0))]
def aeh : List O :=[oo 21<|.mv (.t 5),oo 22<|.mv (.t 1),oo 23<|.gw 1 (.t 21) (.t 22),oo 24<|.ld none (.t 23),oo 4<|.mv (.t 24)]
def cQ9 : C := (.seq (.aH ael false [] [1,2]) (.seq (.aH aek false [] [1,2,5]) (.seq (.seq (.aH aej false [] [1,5,20]) (.cond (.t 20) (.seq (.aH aei false [] [4]) .ret) .skip)) (.seq (.aH aeh false [] [4]) .ret))))
def qQ9 : eR := ⟨25,2,[.t 4],cQ9⟩
/- cohesion/graph.change -/
def Qq : List O :=[oo 3<|.box (.t 0),oo 6<|.mv (ki 0)]
def Qp : List O :=[oo 8<|.ld (some 2) (.t 3),oo 9<|.call QJ [.t 8],oo 7<|.mv (.t 9)]
def Qo : List O :=[oo 10<|.mv (.t 7),oo 11<|.bin .neq (.t 10) (ki 0)]
def Qn : List O :=[oo 12<|.mv (.t 7),oo 6<|.mv (.t 12)]
def Qm : List O :=[oo 13<|.cC 0 (.t 3),oo 14<|.ld none (.t 13),oo 15<|.mv (.t 1),oo 16<|.mv (.t 2),oo 17<|.call NO [.t 14,.t 15,.t 16],oo 18<|.un .not (.t 17)]
def Ql : List O :=[oo 6<|.mv (ki 6)]
def Qk : List O :=[oo 6<|.mv (ki 0)]
def cQa0 : C := (.seq (.aH Qq false [] [1,2,3]) (.seq (.seq (.aH Qp false [] [1,2,3,7]) (.seq (.aH Qo false [] [1,2,3,7,11]) (.cond (.t 11) (.seq (.aH Qn false [] [6]) .ret) .skip))) (.seq (.seq (.aH Qm false [] [18]) (.cond (.t 18) (.seq (.aH Ql false [] [6]) .ret) .skip)) (.seq (.aH Qk false [] [6]) .ret))))
def qQa0 : eR := ⟨19,3,[.t 6],cQa0⟩
/- cohesion/graph.place -/
def D3 : List O :=[oo 3<|.box (.t 0),oo 6<|.mv (ki 0),oo 7<|.mv (.k (.bool false))]
def D2 : List O :=[oo 11<|.mv (.t 1),oo 12<|.mv (.t 2),oo 13<|.call Kk [.t 11,.t 12],oo 8<|.new [.int .i64 0,.int .i64 0],oz<|.st 2 (.t 8) (.t 13)]
def DZ : List O :=[oo 15<|.cC 1 (.t 3),oo 16<|.ld none (.t 15),oo 17<|.ld (some 2) (.t 8),oo 18<|.call NM [.t 16,.t 17,.k (.func (.func ZX) [] [])],oo 14<|.mv (.t 18),oo 19<|.ext 0 (.t 14),oo 20<|.ext 1 (.t 14),oo 9<|.mv (.t 19),oo 10<|.mv (.t 20)]
def DY : List O :=[oo 21<|.mv (.t 9),oo 22<|.mv (.t 9),oo 23<|.cC 1 (.t 3),oo 24<|.ld none (.t 23),oo 25<|.len (.t 24),oo 26<|.bin .lss (.t 22) (.t 25),oo 27<|.mv (.t 26),gt 28 27<|.cC 1 (.t 3),gt 29 27<|.ld none (.t 28),gt 30 27<|.mv (.t 9),gt 31 27<|.gw 2 (.t 29) (.t 30),gt 32 27<|.ld (some 2) (.t 31),gt 33 27<|.ld (some 2) (.t 8),gt 34 27<|.eq false (.str [true,true]) (.t 32) (.t 33),oo 35<|.pick (.t 27) (.t 34) (.k (.bool false)),oo 6<|.mv (.t 21),oo 7<|.mv (.t 35)]
def cQa1 : C := (.seq (.aH D3 false [] [1,2,3]) (.seq (.aH D2 false [] [3,8]) (.seq (.aH DZ false [] [3,8,9]) (.seq (.aH DY true [(16,16),(0,3),(1,3),(0,8),(8,9),(0,11),(0,12),(7,12),(8,12),(9,12),(10,12),(11,12),(8,15),(11,15),(12,15)] [6,7]) .ret))))
def qQa1 : eR := ⟨36,3,[.t 6,.t 7],cQa1⟩
/- slices.Insert[[]cohesion/api.Edge,cohesion/api.Edge] -/
def agm : List O :=[oo 6<|.mv (.k (.own 2 []))]
def agl : List O :=[oo 10<|.mv (.t 0),oo 11<|.mv (.t 1),oo 12<|.rT 2 (.t 10) (some (.t 11)) none]
def agk : List O :=[oo 13<|.mv (.t 2),oo 14<|.len (.t 13),oo 7<|.mv (.t 14)]
def agj : List O :=[oo 15<|.mv (.t 7),oo 16<|.bin .eql (.t 15) (ki 0)]
def agi : List O :=[oo 17<|.mv (.t 0),oo 6<|.mv (.t 17)]
def agh : List O :=[oo 18<|.mv (.t 0),oo 19<|.len (.t 18),oo 8<|.mv (.t 19)]
def agf : List O :=[oo 20<|.mv (.t 1),oo 21<|.mv (.t 8),oo 22<|.bin .eql (.t 20) (.t 21)]
def age : List O :=[oo 23<|.mv (.t 0),oo 24<|.mv (.t 2),oo 25<|.app 2 (.t 23) (.t 24),oo 6<|.mv (.t 25)]
def agd : List O :=[oo 26<|.mv (.t 8),oo 27<|.mv (.t 7),oo 28<|.bin .add (.t 26) (.t 27),oo 29<|.mv (.t 0),oo 30<|.bad,oo 31<|.bin .gtr (.t 28) (.t 30)]
def agc : List O :=[oo 32<|.mv (.t 0),oo 33<|.mv (.t 1),oo 34<|.rT 2 (.t 32) none (some (.t 33)),oo 35<|.mv (.t 8),oo 36<|.mv (.t 7),oo 37<|.bin .add (.t 35) (.t 36),oo 38<|.mv (.t 1),oo 39<|.bin .sub (.t 37) (.t 38),oo 40<|.bad,oo 9<|.mv (.t 40)]
def abZ : List O :=[oo 41<|.mv (.t 9),oo 42<|.mv (.t 1),oo 43<|.rT 2 (.t 41) (some (.t 42)) none,oo 44<|.mv (.t 2),oo 45<|.copy 2 (.t 43) (.t 44)]
def abY : List O :=[oo 46<|.mv (.t 9),oo 47<|.mv (.t 1),oo 48<|.mv (.t 7),oo 49<|.bin .add (.t 47) (.t 48),oo 50<|.rT 2 (.t 46) (some (.t 49)) none,oo 51<|.mv (.t 0),oo 52<|.mv (.t 1),oo 53<|.rT 2 (.t 51) (some (.t 52)) none,oo 54<|.copy 2 (.t 50) (.t 53)]
def abX : List O :=[oo 55<|.mv (.t 9),oo 6<|.mv (.t 55)]
def abW : List O :=[oo 56<|.mv (.t 0),oo 57<|.mv (.t 8),oo 58<|.mv (.t 7),oo 59<|.bin .add (.t 57) (.t 58),oo 60<|.rT 2 (.t 56) none (some (.t 59)),oo 0<|.mv (.t 60)]
def abV : List O :=[oo 61<|.mv (.t 2),oo 62<|.mv (.t 0),oo 63<|.mv (.t 1),oo 64<|.mv (.t 7),oo 65<|.bin .add (.t 63) (.t 64),oo 66<|.rT 2 (.t 62) (some (.t 65)) none,oo 67<|.call 87 [.t 61,.t 66],oo 68<|.un .not (.t 67)]
def abU : List O :=[oo 69<|.mv (.t 0),oo 70<|.mv (.t 1),oo 71<|.mv (.t 7),oo 72<|.bin .add (.t 70) (.t 71),oo 73<|.rT 2 (.t 69) (some (.t 72)) none,oo 74<|.mv (.t 0),oo 75<|.mv (.t 1),oo 76<|.rT 2 (.t 74) (some (.t 75)) none,oo 77<|.copy 2 (.t 73) (.t 76)]
def abT : List O :=[oo 78<|.mv (.t 0),oo 79<|.mv (.t 1),oo 80<|.rT 2 (.t 78) (some (.t 79)) none,oo 81<|.mv (.t 2),oo 82<|.copy 2 (.t 80) (.t 81)]
def abS : List O :=[oo 83<|.mv (.t 0),oo 6<|.mv (.t 83)]
def abR : List O :=[oo 84<|.mv (.t 0),oo 85<|.mv (.t 8),oo 86<|.rT 2 (.t 84) (some (.t 85)) none,oo 87<|.mv (.t 2),oo 88<|.copy 2 (.t 86) (.t 87)]
def abQ : List O :=[oo 89<|.mv (.t 0),oo 90<|.mv (.t 1),oo 91<|.rT 2 (.t 89) (some (.t 90)) none,oo 92<|.mv (.t 7),oo 93<|.call 88 [.t 91,.t 92]]
def abP : List O :=[oo 94<|.mv (.t 0),oo 6<|.mv (.t 94)]
def cQa2 : C := (.seq (.aH agm false [] [0,1,2]) (.seq (.aH agl false [] [0,1,2]) (.seq (.aH agk false [] [0,1,2,7]) (.seq (.seq (.aH agj false [] [0,1,2,7,16]) (.cond (.t 16) (.seq (.aH agi false [] [6]) .ret) .skip)) (.seq (.aH agh false [] [0,1,2,7,8]) (.seq (.seq (.aH agf false [] [0,1,2,7,8,22]) (.cond (.t 22) (.seq (.aH age false [] [6]) .ret) .skip)) (.seq (.seq (.aH agd false [] [0,1,2,7,8,31]) (.cond (.t 31) (.seq (.aH agc false [] [0,1,2,7,9]) (.seq (.aH abZ false [] [0,1,7,9]) (.seq (.aH abY true [(8,8)] [9]) (.seq (.aH abX false [] [6]) .ret)))) .skip)) (.seq (.aH abW false [] [0,1,2,7,8]) (.seq (.seq (.aH abV false [] [0,1,2,7,8,68]) (.cond (.t 68) (.seq (.aH abU true [(8,8)] [0,1,2]) (.seq (.aH abT false [] [0]) (.seq (.aH abS false [] [6]) .ret))) .skip)) (.seq (.aH abR false [] [0,1,7]) (.seq (.aH abQ false [] [0]) (.seq (.aH abP false [] [6]) .ret))))))))))))
def qQa2 : eR := ⟨95,3,[.t 6],cQa2⟩
/- cohesion/graph.edge -/
def Zd : List O :=[oo 4<|.new [.int .i64 0,.int .i64 0]]
def Zc : List O :=[oo 5<|.mv (.t 0),oo 6<|.mv (.t 1),oo 7<|.min [.t 5,.t 6],oo 8<|.mv (.t 0),oo 9<|.mv (.t 1),oo 10<|.max [.t 8,.t 9],oo 11<|.build [.int .i64 0,.int .i64 0] [(0,1,.t 7),(1,1,.t 10)],oz<|.st 2 (.t 4) (.t 11)]
def cQa3 : C := (.seq (.aH Zd false [] [0,1,4]) (.seq (.aH Zc false [] [4]) .ret))
def qQa3 : eR := ⟨12,2,[.c 4 (some 2)],cQa3⟩
/- slices.Clone[[]int,int] -/
def Zb : List O :=[oo 2<|.mv (.k (.own 1 []))]
def Za : List O :=[oo 3<|.mv (.t 0),oo 4<|.eq false .Pt (.t 3) (.k (.own 1 []))]
def Y9 : List O :=[oo 2<|.mv (.k (.own 1 []))]
def Y8 : List O :=[oo 5<|.eE 1 0 [.int .i64 0] [],oo 6<|.mv (.t 0),oo 7<|.app 1 (.t 5) (.t 6),oo 2<|.mv (.t 7)]
def cQa4 : C := (.seq (.aH Zb false [] [0]) (.seq (.seq (.aH Za false [] [0,4]) (.cond (.t 4) (.seq (.aH Y9 false [] [2]) .ret) .skip)) (.seq (.aH Y8 false [] [2]) .ret)))
def qQa4 : eR := ⟨8,1,[.t 2],cQa4⟩
/- cohesion/cohesionref03.Find -/
def xt : List O :=[oo 3<|.box (.t 0),oo 6<|.mv (ki 0)]
def xq : List O :=[oo 9<|.ld (some 2) (.t 3),oo 10<|.call WM [.t 9],oo 11<|.bin .neq (.t 10) (ki 0)]
def xp : List O :=[oo 6<|.mv (.k (.int .i64 (-1)))]
def xn : List O :=[oo 12<|.cC 1 (.t 3),oo 13<|.ld none (.t 12),oo 14<|.len (.t 13),oo 15<|.mv (ki 0)]
def xm : List O :=[oo 16<|.bin .lss (.t 15) (.t 14)]
def xl : List O :=[oo 17<|.mv (.t 15),oo 18<|.gw 2 (.t 13) (.t 15),oo 19<|.ld (some 2) (.t 18),oo 8<|.new [.int .i64 0,.int .i64 0],oo 7<|.mv (.t 17),oz<|.st 2 (.t 8) (.t 19)]
def xk : List O :=[oo 20<|.ld (some 2) (.t 8),oo 21<|.mv (.t 1),oo 22<|.mv (.t 2),oo 23<|.call ZY [.t 21,.t 22],oo 24<|.eq false (.str [true,true]) (.t 20) (.t 23)]
def xj : List O :=[oo 25<|.mv (.t 7),oo 6<|.mv (.t 25)]
def xh : List O :=[oo 26<|.bin .add (.t 15) (ki 1),oo 15<|.mv (.t 26)]
def Az : C := (.seq (.aH xm false [] [1,2,13,14,15,16]) (.seq (.cond (.t 16) .skip (.exit 0)) (.seq (.aJ 1 (.seq (.aH xl false [] [1,2,7,8,13,14,15]) (.seq (.aH xk true [(4,4),(0,1),(0,2),(0,3)] [1,2,7,13,14,15,24]) (.cond (.t 24) (.seq (.aH xj false [] [6]) .ret) .skip)))) (.aH xh false [] [1,2,13,14,15]))))
def xg : List O :=[oo 6<|.mv (.k (.int .i64 (-1)))]
def cQa5 : C := (.seq (.aH xt false [] [1,2,3]) (.seq (.seq (.aH xq false [] [1,2,3,11]) (.cond (.t 11) (.seq (.aH xp false [] [6]) .ret) .skip)) (.seq (.seq (.aH xn false [] [1,2,13,14,15]) (.aJ 0 (.loop Az))) (.seq (.aH xg false [] [6]) .ret))))
def qQa5 : eR := ⟨27,3,[.t 6],cQa5⟩
/- slices.Delete[[]cohesion/api.Edge,cohesion/api.Edge] -/
def agb : List O :=[oo 6<|.mv (.k (.own 2 []))]
def aga : List O :=[oo 8<|.mv (.t 0),oo 9<|.mv (.t 1),oo 10<|.mv (.t 2),oo 11<|.mv (.t 0),oo 12<|.len (.t 11),oo 13<|.bad]
def af9 : List O :=[oo 14<|.mv (.t 1),oo 15<|.mv (.t 2),oo 16<|.bin .eql (.t 14) (.t 15)]
def af8 : List O :=[oo 17<|.mv (.t 0),oo 6<|.mv (.t 17)]
def af7 : List O :=[oo 18<|.mv (.t 0),oo 19<|.len (.t 18),oo 7<|.mv (.t 19)]
def af6 : List O :=[oo 20<|.mv (.t 0),oo 21<|.mv (.t 1),oo 22<|.rT 2 (.t 20) none (some (.t 21)),oo 23<|.mv (.t 0),oo 24<|.mv (.t 2),oo 25<|.rT 2 (.t 23) (some (.t 24)) none,oo 26<|.app 2 (.t 22) (.t 25),oo 0<|.mv (.t 26)]
def af5 : List O :=[oo 27<|.mv (.t 0),oo 28<|.mv (.t 0),oo 29<|.len (.t 28),oo 30<|.mv (.t 7),oo 31<|.rT 2 (.t 27) (some (.t 29)) (some (.t 30)),oz<|.Ur 2 [.int .i64 0,.int .i64 0] (.t 31)]
def af4 : List O :=[oo 32<|.mv (.t 0),oo 6<|.mv (.t 32)]
def cQa6 : C := (.seq (.aH agb false [] [0,1,2]) (.seq (.aH aga false [] [0,1,2]) (.seq (.seq (.aH af9 false [] [0,1,2,16]) (.cond (.t 16) (.seq (.aH af8 false [] [6]) .ret) .skip)) (.seq (.aH af7 false [] [0,1,2,7]) (.seq (.aH af6 true [(6,6),(7,7)] [0,7]) (.seq (.aH af5 false [] [0]) (.seq (.aH af4 false [] [6]) .ret)))))))
def qQa6 : eR := ⟨33,3,[.t 6],cQa6⟩
/- cmp.Or[int] -/
def rk : List O :=[oo 2<|.mv (ki 0)]
def rj : List O :=[oo 3<|.mv (ki 0)]
def rh : List O :=[oo 6<|.mv (.t 0),oo 7<|.len (.t 6),oo 8<|.mv (ki 0)]
def rf : List O :=[oo 9<|.bin .lss (.t 8) (.t 7)]
def re : List O :=[oo 10<|.gw 1 (.t 6) (.t 8),oo 11<|.ld none (.t 10),oo 5<|.mv (.t 11)]
def rb : List O :=[oo 12<|.mv (.t 5),oo 13<|.mv (.t 3),oo 14<|.bin .neq (.t 12) (.t 13)]
def q9 : List O :=[oo 15<|.mv (.t 5),oo 2<|.mv (.t 15)]
def q8 : List O :=[oo 16<|.bin .add (.t 8) (ki 1),oo 8<|.mv (.t 16)]
def rz : C := (.seq (.aH rf false [] [3,6,7,8,9]) (.seq (.cond (.t 9) .skip (.exit 0)) (.seq (.aJ 1 (.seq (.aH re false [] [3,5,6,7,8]) (.seq (.aH rb false [] [3,5,6,7,8,14]) (.cond (.t 14) (.seq (.aH q9 false [] [2]) .ret) .skip)))) (.aH q8 false [] [3,6,7,8]))))
def q7 : List O :=[oo 17<|.mv (.t 3),oo 2<|.mv (.t 17)]
def cQa7 : C := (.seq (.aH rk false [] [0]) (.seq (.aH rj false [] [0,3]) (.seq (.seq (.aH rh false [] [3,6,7,8]) (.aJ 0 (.loop rz))) (.seq (.aH q7 false [] [2]) .ret))))
def qQa7 : eR := ⟨18,1,[.t 2],cQa7⟩
/- cmp.Compare[int] -/
def JT : List O :=[oo 4<|.mv (ki 0)]
def JS : List O :=[oo 7<|.mv (.t 0),oo 8<|.call Kf [.t 7],oo 5<|.mv (.t 8)]
def JR : List O :=[oo 9<|.mv (.t 1),oo 10<|.call Kf [.t 9],oo 6<|.mv (.t 10)]
def JQ : List O :=[oo 11<|.mv (.t 5)]
def JP : List O :=[oo 12<|.mv (.t 6)]
def JO : List O :=[oo 4<|.mv (ki 0)]
def JN : List O :=[oo 4<|.mv (.k (.int .i64 (-1)))]
def JM : List O :=[oo 13<|.mv (.t 6)]
def JL : List O :=[oo 4<|.mv (ki 1)]
def JK : List O :=[oo 14<|.mv (.t 0),oo 15<|.mv (.t 1),oo 16<|.bin .lss (.t 14) (.t 15)]
def CK : List O :=[oo 4<|.mv (.k (.int .i64 (-1)))]
def CJ : List O :=[oo 17<|.mv (.t 0),oo 18<|.mv (.t 1),oo 19<|.bin .gtr (.t 17) (.t 18)]
def CI : List O :=[oo 4<|.mv (ki 1)]
def CH : List O :=[oo 4<|.mv (ki 0)]
def cQa8 : C := (.seq (.aH JT false [] [0,1]) (.seq (.aH JS false [] [0,1,5]) (.seq (.aH JR false [] [0,1,5,6]) (.seq (.seq (.aH JQ false [] [0,1,6,11]) (.cond (.t 11) (.seq (.seq (.aH JP false [] [12]) (.cond (.t 12) (.seq (.aH JO false [] [4]) .ret) .skip)) (.seq (.aH JN false [] [4]) .ret)) .skip)) (.seq (.seq (.aH JM false [] [0,1,13]) (.cond (.t 13) (.seq (.aH JL false [] [4]) .ret) .skip)) (.seq (.seq (.aH JK false [] [0,1,16]) (.cond (.t 16) (.seq (.aH CK false [] [4]) .ret) .skip)) (.seq (.seq (.aH CJ false [] [19]) (.cond (.t 19) (.seq (.aH CI false [] [4]) .ret) .skip)) (.seq (.aH CH false [] [4]) .ret))))))))
def qQa8 : eR := ⟨20,2,[.t 4],cQa8⟩
/- cohesion/cohesionref02.Of -/
def xf : List O :=[oo 2<|.mv (.k (.own 1 []))]
def xe : List O :=[oo 3<|.mv (.k (.own 1 []))]
def xd : List O :=[oo 6<|.mv (.t 0),oo 7<|.len (.t 6),oo 8<|.mv (ki 0)]
def w9 : List O :=[oo 9<|.bin .lss (.t 8) (.t 7)]
def w8 : List O :=[oo 10<|.gw 1 (.t 6) (.t 8),oo 11<|.ld none (.t 10),oo 5<|.mv (.t 11)]
def wZ : List O :=[oo 12<|.mv (.t 3),oo 13<|.mv (.t 5),oo 14<|.call NL [.t 12,.t 13],oo 3<|.mv (.t 14)]
def wY : List O :=[oo 15<|.bin .add (.t 8) (ki 1),oo 8<|.mv (.t 15)]
def xN : C := (.seq (.aH w9 false [] [3,6,7,8,9]) (.seq (.cond (.t 9) .skip (.exit 0)) (.seq (.aJ 1 (.seq (.aH w8 false [] [3,5,6,7,8]) (.aH wZ false [] [3,6,7,8]))) (.aH wY false [] [3,6,7,8]))))
def wX : List O :=[oo 16<|.mv (.t 3),oo 2<|.mv (.t 16)]
def cQa9 : C := (.seq (.aH xf false [] [0]) (.seq (.aH xe false [] [0,3]) (.seq (.seq (.aH xd false [] [3,6,7,8]) (.aJ 0 (.loop xN))) (.seq (.aH wX false [] [2]) .ret))))
def qQa9 : eR := ⟨17,1,[.t 2],cQa9⟩
/- cohesion/cohesionref02.Has -/
def zY : List O :=[oo 4<|.mv (.k (.bool false))]
def zX : List O :=[oo 7<|.mv (.t 0),oo 8<|.len (.t 7),oo 9<|.mv (ki 0)]
def zW : List O :=[oo 10<|.bin .lss (.t 9) (.t 8)]
def zV : List O :=[oo 11<|.gw 1 (.t 7) (.t 9),oo 12<|.ld none (.t 11),oo 6<|.mv (.t 12)]
def zU : List O :=[oo 13<|.mv (.t 6),oo 14<|.mv (.t 1),oo 15<|.bin .eql (.t 13) (.t 14)]
def zT : List O :=[oo 4<|.mv (.k (.bool true))]
def zS : List O :=[oo 16<|.bin .add (.t 9) (ki 1),oo 9<|.mv (.t 16)]
def Fh : C := (.seq (.aH zW false [] [1,7,8,9,10]) (.seq (.cond (.t 10) .skip (.exit 0)) (.seq (.aJ 1 (.seq (.aH zV false [] [1,6,7,8,9]) (.seq (.aH zU false [] [1,7,8,9,15]) (.cond (.t 15) (.seq (.aH zT false [] [4]) .ret) .skip)))) (.aH zS false [] [1,7,8,9]))))
def zR : List O :=[oo 4<|.mv (.k (.bool false))]
def cQb0 : C := (.seq (.aH zY false [] [0,1]) (.seq (.seq (.aH zX false [] [1,7,8,9]) (.aJ 0 (.loop Fh))) (.seq (.aH zR false [] [4]) .ret)))
def qQb0 : eR := ⟨17,2,[.t 4],cQb0⟩
/- cohesion/ratio.within -/
def Y7 : List O :=[oo 4<|.mv (.k (.bool false))]
def Y6 : List O :=[oo 5<|.mv (.t 0),oo 6<|.mv (.t 1),oo 7<|.un .neg (.t 6),oo 8<|.bin .geq (.t 5) (.t 7),oo 9<|.mv (.t 8),gt 10 9<|.mv (.t 0),gt 11 9<|.mv (.t 1),gt 12 9<|.bin .leq (.t 10) (.t 11),oo 13<|.pick (.t 9) (.t 12) (.k (.bool false)),oo 4<|.mv (.t 13)]
def cQb1 : C := (.seq (.aH Y7 false [] [0,1]) (.seq (.aH Y6 false [] [4]) .ret))
def qQb1 : eR := ⟨14,2,[.t 4],cQb1⟩
/- cohesion/ratio.lowest -/
def Y5 : List O :=[oo 4<|.new [.int .i64 0,.int .i64 0],oo 5<|.mv (ki 0)]
def Y3 : List O :=[oo 7<|.mv (.t 1),oo 8<|.bin .lss (.t 7) (ki 0)]
def YZ : List O :=[oo 9<|.mv (.t 0),oo 10<|.un .neg (.t 9),oo 11<|.mv (.t 1),oo 12<|.un .neg (.t 11),oo 0<|.mv (.t 10),oo 1<|.mv (.t 12)]
def YY : List O :=[oo 13<|.mv (.t 0),oo 14<|.mv (.t 0),oo 15<|.un .neg (.t 14),oo 16<|.max [.t 13,.t 15],oo 17<|.mv (.t 1),oo 18<|.call NK [.t 16,.t 17],oo 6<|.mv (.t 18)]
def YX : List O :=[oo 19<|.mv (.t 0),oo 20<|.mv (.t 6),oo 21<|.bin .quo (.t 19) (.t 20),oo 22<|.mv (.t 1),oo 23<|.mv (.t 6),oo 24<|.bin .quo (.t 22) (.t 23),oo 25<|.build [.int .i64 0,.int .i64 0] [(0,1,.t 21),(1,1,.t 24)],oo 26<|.call Ke [.t 25],oo 27<|.ext 0 (.t 26),oo 28<|.ext 1 (.t 26),oz<|.st 2 (.t 4) (.t 27),oo 5<|.mv (.t 28)]
def cQb2 : C := (.seq (.aH Y5 false [] [0,1,4]) (.seq (.seq (.aH Y3 false [] [0,1,4,8]) (.cond (.t 8) (.aH YZ false [] [0,1,4]) .skip)) (.seq (.aH YY false [] [0,1,4,6]) (.seq (.aH YX true [(6,6),(7,7),(10,10),(11,11)] [4,5]) .ret))))
def qQb2 : eR := ⟨29,2,[.c 4 (some 2),.t 5],cQb2⟩
/- cohesion/ratio.exact -/
def af3 : List O :=[oo 2<|.box (.t 0),oo 3<|.box (.t 1),oo 4<|.new [.int .i64 0,.int .i64 0],oo 5<|.mv (ki 0)]
def af2 : List O :=[oo 11<|.ld (some 3) (.t 2),oo 12<|.ld (some 3) (.t 3),oo 13<|.call nQc4 [.t 11,.t 12],oo 6<|.new [.int .u64 0,.int .u64 0,.bool false],oz<|.st 3 (.t 6) (.t 13)]
def af1 : List O :=[oo 15<|.ld (some 3) (.t 2),oo 16<|.ld (some 3) (.t 6),oo 17<|.call nQc5 [.t 15,.t 16],oo 14<|.mv (.t 17),oo 18<|.ext 0 (.t 14),oo 19<|.ext 1 (.t 14),oo 7<|.mv (.t 18),oo 8<|.mv (.t 19)]
def af0 : List O :=[oo 21<|.ld (some 3) (.t 3),oo 22<|.ld (some 3) (.t 6),oo 23<|.call nQc5 [.t 21,.t 22],oo 20<|.mv (.t 23),oo 24<|.ext 0 (.t 20),oo 25<|.ext 1 (.t 20),oo 9<|.mv (.t 24),oo 10<|.mv (.t 25)]
def afZ : List O :=[oo 26<|.mv (.t 8),oo 27<|.un .not (.t 26),oo 28<|.mv (.t 27),gf 29 28<|.mv (.t 10),gf 30 28<|.un .not (.t 29),oo 31<|.pick (.t 28) (.k (.bool true)) (.t 30)]
def afY : List O :=[oo 32<|.build [.int .i64 0,.int .i64 0] [],oz<|.st 2 (.t 4) (.t 32),oo 5<|.mv (ki 3)]
def afX : List O :=[oo 33<|.ld (some 3) (.t 2),oo 34<|.call nQc6 [.t 33],oo 35<|.ld (some 3) (.t 3),oo 36<|.call nQc6 [.t 35],oo 37<|.eq true .bool (.t 34) (.t 36)]
def afW : List O :=[oo 38<|.mv (.t 7),oo 39<|.un .neg (.t 38),oo 7<|.mv (.t 39)]
def afV : List O :=[oo 40<|.mv (.t 7),oo 41<|.mv (.t 9),oo 42<|.build [.int .i64 0,.int .i64 0] [(0,1,.t 40),(1,1,.t 41)],oo 43<|.call Ke [.t 42],oo 44<|.ext 0 (.t 43),oo 45<|.ext 1 (.t 43),oz<|.st 2 (.t 4) (.t 44),oo 5<|.mv (.t 45)]
def cQb3 : C := (.seq (.aH af3 false [] [2,3,4]) (.seq (.aH af2 false [] [2,3,4,6]) (.seq (.aH af1 false [] [2,3,4,6,7,8]) (.seq (.aH af0 false [] [2,3,4,7,8,9,10]) (.seq (.seq (.aH afZ false [] [2,3,4,7,9,31]) (.cond (.t 31) (.seq (.aH afY false [] [4,5]) .ret) .skip)) (.seq (.seq (.aH afX true [(3,3),(4,4),(0,2),(1,2)] [4,7,9,37]) (.cond (.t 37) (.aH afW false [] [4,7,9]) .skip)) (.seq (.aH afV false [] [4,5]) .ret)))))))
def qQb3 : eR := ⟨46,2,[.c 4 (some 2),.t 5],cQb3⟩
/- cohesion/wide.Of -/
def afU : List O :=[oo 2<|.new [.int .u64 0,.int .u64 0,.bool false]]
def afT : List O :=[oo 3<|.mv (.t 0),oo 4<|.call nQc7 [.t 3],oo 5<|.mv (.t 0),oo 6<|.bin .lss (.t 5) (ki 0),oo 7<|.build [.int .u64 0,.int .u64 0,.bool false] [(1,1,.t 4),(2,1,.t 6)],oz<|.st 3 (.t 2) (.t 7)]
def cQb4 : C := (.seq (.aH afU false [] [0,2]) (.seq (.aH afT false [] [2]) .ret))
def qQb4 : eR := ⟨8,1,[.c 2 (some 3)],cQb4⟩
/- cohesion/cohesionref01.Make -/
def YW : List O :=[oo 4<|.new [.int .i64 0,.int .i64 0],oo 5<|.mv (ki 0)]
def YV : List O :=[oo 6<|.mv (.t 1),oo 7<|.bin .eql (.t 6) (ki 0)]
def YU : List O :=[oo 8<|.build [.int .i64 0,.int .i64 0] [],oz<|.st 2 (.t 4) (.t 8),oo 5<|.mv (ki 2)]
def YT : List O :=[oo 9<|.mv (.t 0),oo 10<|.bin .lss (.t 9) (ki 0),oo 11<|.mv (.t 1),oo 12<|.bin .lss (.t 11) (ki 0),oo 13<|.eq true .bool (.t 10) (.t 12),oo 14<|.mv (.t 0),oo 15<|.call Kc [.t 14],oo 16<|.build [.int .u64 0,.int .u64 0] [(0,1,.k (.int .u64 0)),(1,1,.t 15)],oo 17<|.mv (.t 1),oo 18<|.call Kc [.t 17],oo 19<|.build [.int .u64 0,.int .u64 0] [(0,1,.k (.int .u64 0)),(1,1,.t 18)],oo 20<|.call NJ [.t 13,.t 16,.t 19],oo 21<|.ext 0 (.t 20),oo 22<|.ext 1 (.t 20),oz<|.st 2 (.t 4) (.t 21),oo 5<|.mv (.t 22)]
def cQb5 : C := (.seq (.aH YW false [] [0,1,4]) (.seq (.seq (.aH YV false [] [0,1,4,7]) (.cond (.t 7) (.seq (.aH YU false [] [4,5]) .ret) .skip)) (.seq (.aH YT false [] [4,5]) .ret)))
def qQb5 : eR := ⟨23,2,[.c 4 (some 2),.t 5],cQb5⟩
/- math/bits.OnesCount64 -/
def YS : List O :=[oo 2<|.mv (ki 0)]
def YR : List O :=[oo 3<|.mv (.t 0),oo 4<|.bin .shr (.t 3) (.k (.int .u64 1)),oo 5<|.bin .and (.t 4) (.k (.int .u64 6148914691236517205)),oo 6<|.mv (.t 0),oo 7<|.bin .and (.t 6) (.k (.int .u64 6148914691236517205)),oo 8<|.bin .add (.t 5) (.t 7),oo 0<|.mv (.t 8)]
def YQ : List O :=[oo 9<|.mv (.t 0),oo 10<|.bin .shr (.t 9) (.k (.int .u64 2)),oo 11<|.bin .and (.t 10) (.k (.int .u64 3689348814741910323)),oo 12<|.mv (.t 0),oo 13<|.bin .and (.t 12) (.k (.int .u64 3689348814741910323)),oo 14<|.bin .add (.t 11) (.t 13),oo 0<|.mv (.t 14)]
def YP : List O :=[oo 15<|.mv (.t 0),oo 16<|.bin .shr (.t 15) (.k (.int .u64 4)),oo 17<|.mv (.t 0),oo 18<|.bin .add (.t 16) (.t 17),oo 19<|.bin .and (.t 18) (.k (.int .u64 1085102592571150095)),oo 0<|.mv (.t 19)]
def YO : List O :=[oo 20<|.mv (.t 0),oo 21<|.mv (.t 0),oo 22<|.bin .shr (.t 21) (.k (.int .u64 8)),oo 23<|.bin .add (.t 20) (.t 22),oo 0<|.mv (.t 23)]
def YN : List O :=[oo 24<|.mv (.t 0),oo 25<|.mv (.t 0),oo 26<|.bin .shr (.t 25) (.k (.int .u64 16)),oo 27<|.bin .add (.t 24) (.t 26),oo 0<|.mv (.t 27)]
def YM : List O :=[oo 28<|.mv (.t 0),oo 29<|.mv (.t 0),oo 30<|.bin .shr (.t 29) (.k (.int .u64 32)),oo 31<|.bin .add (.t 28) (.t 30),oo 0<|.mv (.t 31)]
def YL : List O :=[oo 32<|.mv (.t 0),oo 33<|.CB .i64 (.t 32),oo 34<|.bin .and (.t 33) (ki 127),oo 2<|.mv (.t 34)]
def cQb6 : C := (.seq (.aH YS false [] [0]) (.seq (.aH YR false [] [0]) (.seq (.aH YQ false [] [0]) (.seq (.aH YP false [] [0]) (.seq (.aH YO false [] [0]) (.seq (.aH YN false [] [0]) (.seq (.aH YM false [] [0]) (.seq (.aH YL false [] [2]) .ret))))))))
def qQb6 : eR := ⟨35,1,[.t 2],cQb6⟩
/- cohesion/masks.Rows -/
def JJ : List O :=[oo 1<|.box (.t 0),oo 2<|.mv (.k (.own 1 []))]
def JI : List O :=[oo 6<|.cC 0 (.t 1),oo 7<|.ld none (.t 6),oo 8<|.max [.t 7,ki 0],oo 9<|.min [.t 8,ki 64],oo 10<|.Kn 1 [.int .u64 0] (.t 9) (.t 9),oo 3<|.mv (.t 10)]
def JH : List O :=[oo 11<|.cC 1 (.t 1),oo 12<|.ld none (.t 11),oo 13<|.len (.t 12),oo 14<|.mv (ki 0)]
def JG : List O :=[oo 15<|.bin .lss (.t 14) (.t 13)]
def JF : List O :=[oo 16<|.gw 2 (.t 12) (.t 14),oo 17<|.ld (some 2) (.t 16),oo 5<|.new [.int .i64 0,.int .i64 0],oz<|.st 2 (.t 5) (.t 17)]
def JE : List O :=[oo 18<|.cC 0 (.t 5),oo 19<|.ld none (.t 18),oo 20<|.bin .geq (.t 19) (ki 0),oo 21<|.mv (.t 20),gt 22 21<|.cC 0 (.t 5),gt 23 21<|.ld none (.t 22),gt 24 21<|.cC 1 (.t 5),gt 25 21<|.ld none (.t 24),gt 26 21<|.bin .lss (.t 23) (.t 25),oo 27<|.pick (.t 21) (.t 26) (.k (.bool false)),oo 28<|.mv (.t 27),gt 29 28<|.cC 1 (.t 5),gt 30 28<|.ld none (.t 29),gt 31 28<|.mv (.t 3),gt 32 28<|.len (.t 31),gt 33 28<|.bin .lss (.t 30) (.t 32),oo 34<|.pick (.t 28) (.t 33) (.k (.bool false))]
def JD : List O :=[oo 35<|.mv (.t 3),oo 36<|.cC 0 (.t 5),oo 37<|.ld none (.t 36),oo 38<|.gw 1 (.t 35) (.t 37),oo 39<|.ld none (.t 38),oo 40<|.cC 1 (.t 5),oo 41<|.ld none (.t 40),oo 42<|.bin .shl (.k (.int .u64 1)) (.t 41),oo 43<|.bin .or (.t 39) (.t 42),oo 44<|.gw 1 (.t 35) (.t 37),oz<|.st 1 (.t 44) (.t 43)]
def JC : List O :=[oo 45<|.mv (.t 3),oo 46<|.cC 1 (.t 5),oo 47<|.ld none (.t 46),oo 48<|.gw 1 (.t 45) (.t 47),oo 49<|.ld none (.t 48),oo 50<|.cC 0 (.t 5),oo 51<|.ld none (.t 50),oo 52<|.bin .shl (.k (.int .u64 1)) (.t 51),oo 53<|.bin .or (.t 49) (.t 52),oo 54<|.gw 1 (.t 45) (.t 47),oz<|.st 1 (.t 54) (.t 53)]
def JB : List O :=[oo 55<|.bin .add (.t 14) (ki 1),oo 14<|.mv (.t 55)]
def Kv : C := (.seq (.aH JG false [] [3,12,13,14,15]) (.seq (.cond (.t 15) .skip (.exit 0)) (.seq (.aJ 1 (.seq (.aH JF false [] [3,5,12,13,14]) (.seq (.aH JE false [] [3,5,12,13,14,34]) (.cond (.t 34) (.seq (.aH JD true [(8,8),(9,9),(10,10),(0,2),(2,5),(4,5),(0,6),(1,6),(2,6),(3,6),(4,6),(2,7),(4,7)] [3,5,12,13,14]) (.aH JC true [(8,8),(9,9),(10,10),(0,2),(2,5),(4,5),(0,6),(1,6),(2,6),(3,6),(4,6),(2,7),(4,7)] [3,12,13,14])) .skip)))) (.aH JB false [] [3,12,13,14]))))
def JA : List O :=[oo 56<|.mv (.t 3),oo 2<|.mv (.t 56)]
def cQb7 : C := (.seq (.aH JJ false [] [1]) (.seq (.aH JI false [] [1,3]) (.seq (.seq (.aH JH false [] [3,12,13,14]) (.aJ 0 (.loop Kv))) (.seq (.aH JA false [] [2]) .ret))))
def qQb7 : eR := ⟨57,1,[.t 2],cQb7⟩
/- cohesion/graph.Ends -/
def Jz : List O :=[oo 6<|.mv (.k (.bool false))]
def Jy : List O :=[oo 7<|.mv (.t 1),oo 8<|.mv (.t 2),oo 9<|.bin .neq (.t 7) (.t 8),oo 10<|.mv (.t 9),gt 11 10<|.mv (.t 1),gt 12 10<|.mv (.t 2),gt 13 10<|.min [.t 11,.t 12],gt 14 10<|.bin .geq (.t 13) (ki 0),oo 15<|.pick (.t 10) (.t 14) (.k (.bool false)),oo 16<|.mv (.t 15),gt 17 16<|.mv (.t 1),gt 18 16<|.mv (.t 2),gt 19 16<|.max [.t 17,.t 18],gt 20 16<|.mv (.t 0),gt 21 16<|.bin .lss (.t 19) (.t 20),oo 22<|.pick (.t 16) (.t 21) (.k (.bool false)),oo 6<|.mv (.t 22)]
def cQb8 : C := (.seq (.aH Jz false [] [0,1,2]) (.seq (.aH Jy false [] [6]) .ret))
def qQb8 : eR := ⟨23,3,[.t 6],cQb8⟩
/- slices.BinarySearchFunc[[]cohesion/api.Edge,cohesion/api.Edge,cohesion/api.Edge] -/
def wW : List O :=[oo 4<|.box (.t 1),oo 6<|.mv (ki 0),oo 7<|.mv (.k (.bool false))]
def wV : List O :=[oo 12<|.mv (.t 0),oo 13<|.len (.t 12),oo 8<|.mv (.t 13)]
def wU : List O :=[oo 14<|.mv (.t 8),oo 9<|.mv (ki 0),oo 10<|.mv (.t 14)]
def wT : List O :=[oo 15<|.mv (.t 9),oo 16<|.mv (.t 10),oo 17<|.bin .lss (.t 15) (.t 16)]
def wS : List O :=[oo 18<|.mv (.t 9),oo 19<|.mv (.t 10),oo 20<|.bin .add (.t 18) (.t 19),oo 21<|.CB .u64 (.t 20),oo 22<|.bin .shr (.t 21) (.k (.int .u64 1)),oo 23<|.CB .i64 (.t 22),oo 11<|.mv (.t 23)]
def wR : List O :=[oo 24<|.mv (.t 2),oo 25<|.mv (.t 0),oo 26<|.mv (.t 11),oo 27<|.gw 2 (.t 25) (.t 26),oo 28<|.ld (some 2) (.t 27),oo 29<|.ld (some 2) (.t 4),oo 30<|.jr (.t 24) [.t 28,.t 29],oo 31<|.bin .lss (.t 30) (ki 0)]
def wQ : List O :=[oo 32<|.mv (.t 11),oo 33<|.bin .add (.t 32) (ki 1),oo 9<|.mv (.t 33)]
def wP : List O :=[oo 34<|.mv (.t 11),oo 10<|.mv (.t 34)]
def Fg : C := (.seq (.seq (.aH wT false [] [0,2,4,8,9,10,17]) (.cond (.t 17) .skip (.exit 0))) (.aJ 1 (.seq (.aH wS false [] [0,2,4,8,9,10,11]) (.seq (.aH wR true [(6,6),(7,7),(0,4),(0,5),(1,5),(2,5),(3,5),(4,5)] [0,2,4,8,9,10,11,31]) (.cond (.t 31) (.aH wQ false [] [0,2,4,8,9,10]) (.aH wP false [] [0,2,4,8,9,10]))))))
def wO : List O :=[oo 35<|.mv (.t 9),oo 36<|.mv (.t 9),oo 37<|.mv (.t 8),oo 38<|.bin .lss (.t 36) (.t 37),oo 39<|.mv (.t 38),gt 40 39<|.mv (.t 2),gt 41 39<|.mv (.t 0),gt 42 39<|.mv (.t 9),gt 43 39<|.gw 2 (.t 41) (.t 42),gt 44 39<|.ld (some 2) (.t 43),gt 45 39<|.ld (some 2) (.t 4),gt 46 39<|.jr (.t 40) [.t 44,.t 45],gt 47 39<|.bin .eql (.t 46) (ki 0),oo 48<|.pick (.t 39) (.t 47) (.k (.bool false)),oo 6<|.mv (.t 35),oo 7<|.mv (.t 48)]
def cQb9 : C := (.seq (.aH wW false [] [0,2,4]) (.seq (.aH wV false [] [0,2,4,8]) (.seq (.aH wU false [] [0,2,4,8,9,10]) (.seq (.aJ 0 (.loop Fg)) (.seq (.aH wO true [(15,15),(0,9),(5,9),(0,10),(5,10),(6,10),(7,10),(8,10),(9,10),(0,11)] [6,7]) .ret)))))
def qQb9 : eR := ⟨49,3,[.t 6,.t 7],cQb9⟩
/- cmp.isNaN[int] -/
def YK : List O :=[oo 2<|.mv (.k (.bool false))]
def YJ : List O :=[oo 3<|.mv (.t 0),oo 4<|.mv (.t 0),oo 5<|.bin .neq (.t 3) (.t 4),oo 2<|.mv (.t 5)]
def cQc0 : C := (.seq (.aH YK false [] [0]) (.seq (.aH YJ false [] [2]) .ret))
def qQc0 : eR := ⟨6,1,[.t 2],cQc0⟩
/- cohesion/cohesionref02.put -/
def wM : List O :=[oo 4<|.mv (.k (.own 1 []))]
def wL : List O :=[oo 5<|.mv (ki 0)]
def wK : List O :=[oo 7<|.mv (.t 5),oo 8<|.mv (.t 0),oo 9<|.len (.t 8),oo 10<|.bin .lss (.t 7) (.t 9),oo 11<|.mv (.t 10),gt 12 11<|.mv (.t 0),gt 13 11<|.mv (.t 5),gt 14 11<|.gw 1 (.t 12) (.t 13),gt 15 11<|.ld none (.t 14),gt 16 11<|.mv (.t 1),gt 17 11<|.bin .lss (.t 15) (.t 16),oo 18<|.pick (.t 11) (.t 17) (.k (.bool false))]
def wJ : List O :=[oo 19<|.mv (.t 5),oo 20<|.bin .add (.t 19) (ki 1),oo 5<|.mv (.t 20)]
def Ff : C := (.seq (.seq (.aH wK false [] [0,1,5,18]) (.cond (.t 18) .skip (.exit 0))) (.aJ 1 (.aH wJ false [] [0,1,5])))
def wI : List O :=[oo 21<|.mv (.t 5),oo 22<|.mv (.t 0),oo 23<|.len (.t 22),oo 24<|.bin .lss (.t 21) (.t 23),oo 25<|.mv (.t 24),gt 26 25<|.mv (.t 0),gt 27 25<|.mv (.t 5),gt 28 25<|.gw 1 (.t 26) (.t 27),gt 29 25<|.ld none (.t 28),gt 30 25<|.mv (.t 1),gt 31 25<|.bin .eql (.t 29) (.t 30),oo 32<|.pick (.t 25) (.t 31) (.k (.bool false))]
def wH : List O :=[oo 33<|.mv (.t 0),oo 4<|.mv (.t 33)]
def wG : List O :=[oo 34<|.mv (.t 0),oo 35<|.mv (.t 5),oo 36<|.rT 1 (.t 34) none (some (.t 35)),oo 37<|.app 1 (.k (.own 1 [])) (.t 36),oo 6<|.mv (.t 37)]
def wF : List O :=[oo 38<|.mv (.t 6),oo 39<|.mv (.t 1),oo 40<|.eE 1 1 [.int .i64 0] [(0,1,.t 39)],oo 41<|.app 1 (.t 38) (.t 40),oo 42<|.mv (.t 0),oo 43<|.mv (.t 5),oo 44<|.rT 1 (.t 42) (some (.t 43)) none,oo 45<|.app 1 (.t 41) (.t 44),oo 4<|.mv (.t 45)]
def cQc1 : C := (.seq (.aH wM false [] [0,1]) (.seq (.aH wL false [] [0,1,5]) (.seq (.aJ 0 (.loop Ff)) (.seq (.seq (.aH wI false [] [0,1,5,32]) (.cond (.t 32) (.seq (.aH wH false [] [4]) .ret) .skip)) (.seq (.aH wG false [] [0,1,5,6]) (.seq (.aH wF true [(7,7),(8,8),(0,2),(2,4),(3,4),(2,5),(3,5),(2,6),(3,6)] [4]) .ret))))))
def qQc1 : eR := ⟨46,2,[.t 4],cQc1⟩
/- cohesion/ratio.common -/
def Jx : List O :=[oo 4<|.mv (ki 0)]
def Jw : List O :=[oo 5<|.mv (.t 1),oo 6<|.bin .neq (.t 5) (ki 0)]
def Jv : List O :=[oo 7<|.mv (.t 1),oo 8<|.mv (.t 0),oo 9<|.mv (.t 1),oo 10<|.bin .rem (.t 8) (.t 9),oo 0<|.mv (.t 7),oo 1<|.mv (.t 10)]
def Ku : C := (.seq (.seq (.aH Jw false [] [0,1,6]) (.cond (.t 6) .skip (.exit 0))) (.aJ 1 (.aH Jv true [(5,5)] [0,1])))
def Ju : List O :=[oo 11<|.mv (.t 0),oo 4<|.mv (.t 11)]
def cQc2 : C := (.seq (.aH Jx false [] [0,1]) (.seq (.aJ 0 (.loop Ku)) (.seq (.aH Ju false [] [4]) .ret)))
def qQc2 : eR := ⟨12,2,[.t 4],cQc2⟩
/- cohesion/ratio.checked -/
def YI : List O :=[oo 1<|.box (.t 0),oo 2<|.new [.int .i64 0,.int .i64 0],oo 3<|.mv (ki 0)]
def YH : List O :=[oo 4<|.cC 0 (.t 1),oo 5<|.ld none (.t 4),oo 6<|.call GS [.t 5,ki 1152921504606846976],oo 7<|.un .not (.t 6),oo 8<|.mv (.t 7),gf 9 8<|.cC 1 (.t 1),gf 10 8<|.ld none (.t 9),gf 11 8<|.bin .gtr (.t 10) (ki 1152921504606846976),oo 12<|.pick (.t 8) (.k (.bool true)) (.t 11)]
def YG : List O :=[oo 13<|.build [.int .i64 0,.int .i64 0] [],oz<|.st 2 (.t 2) (.t 13),oo 3<|.mv (ki 3)]
def YF : List O :=[oo 14<|.ld (some 2) (.t 1),oz<|.st 2 (.t 2) (.t 14),oo 3<|.mv (ki 0)]
def cQc3 : C := (.seq (.aH YI false [] [1,2]) (.seq (.seq (.aH YH false [] [1,2,12]) (.cond (.t 12) (.seq (.aH YG false [] [2,3]) .ret) .skip)) (.seq (.aH YF false [] [2,3]) .ret)))
def qQc3 : eR := ⟨15,1,[.c 2 (some 2),.t 3],cQc3⟩
/- cohesion/wide.Common -/
def afS : List O :=[oo 2<|.box (.t 0),oo 3<|.box (.t 1),oo 4<|.new [.int .u64 0,.int .u64 0,.bool false]]
def afR : List O :=[oo 6<|.cC 2 (.t 2),oz<|.st 1 (.t 6) (.k (.bool false)),oo 7<|.cC 2 (.t 3),oz<|.st 1 (.t 7) (.k (.bool false))]
def afQ : List O :=[oo 8<|.ld (some 3) (.t 2),oo 9<|.call Vt [.t 8]]
def afP : List O :=[oo 10<|.ld (some 3) (.t 3),oz<|.st 3 (.t 4) (.t 10)]
def afO : List O :=[oo 11<|.ld (some 3) (.t 3),oo 12<|.call Vt [.t 11]]
def afN : List O :=[oo 13<|.ld (some 3) (.t 2),oz<|.st 3 (.t 4) (.t 13)]
def afM : List O :=[oo 5<|.mv (ki 0)]
def afL : List O :=[oo 14<|.ld (some 3) (.t 2),oo 15<|.call ZW [.t 14],oo 16<|.mv (.t 15),gt 17 16<|.ld (some 3) (.t 3),gt 18 16<|.call ZW [.t 17],oo 19<|.pick (.t 16) (.t 18) (.k (.bool false))]
def afK : List O :=[oo 20<|.ld (some 3) (.t 2),oo 21<|.call ZV [.t 20],oo 22<|.ld (some 3) (.t 3),oo 23<|.call ZV [.t 22],oo 24<|.mv (.t 5),oo 25<|.bin .add (.t 24) (ki 1),oz<|.st 3 (.t 2) (.t 21),oz<|.st 3 (.t 3) (.t 23),oo 5<|.mv (.t 25)]
def aha : C := (.seq (.seq (.aH afL false [] [2,3,4,5,19]) (.cond (.t 19) .skip (.exit 0))) (.aJ 1 (.aH afK true [(8,8),(0,2),(1,2),(0,4),(1,4),(2,4),(3,4),(0,5),(1,5),(2,5),(3,5),(4,6),(5,6),(4,7),(5,7)] [2,3,4,5])))
def afJ : List O :=[oo 26<|.ld (some 3) (.t 2),oo 27<|.call ZW [.t 26]]
def abO : List O :=[oo 28<|.ld (some 3) (.t 2),oo 29<|.call ZV [.t 28],oz<|.st 3 (.t 2) (.t 29)]
def ag9 : C := (.seq (.seq (.aH afJ false [] [2,3,4,5,27]) (.cond (.t 27) .skip (.exit 2))) (.aJ 3 (.aH abO false [] [2,3,4,5])))
def abN : List O :=[oo 30<|.ld (some 3) (.t 3),oo 31<|.call Vt [.t 30],oo 32<|.un .not (.t 31)]
def abM : List O :=[oo 33<|.ld (some 3) (.t 3),oo 34<|.call ZW [.t 33]]
def abL : List O :=[oo 35<|.ld (some 3) (.t 3),oo 36<|.call ZV [.t 35],oz<|.st 3 (.t 3) (.t 36)]
def ag8 : C := (.seq (.seq (.aH abM false [] [2,3,4,5,34]) (.cond (.t 34) .skip (.exit 6))) (.aJ 7 (.aH abL false [] [2,3,4,5])))
def abK : List O :=[oo 37<|.ld (some 3) (.t 3),oo 38<|.ld (some 3) (.t 2),oo 39<|.call nQd3 [.t 37,.t 38]]
def abJ : List O :=[oo 40<|.ld (some 3) (.t 3),oo 41<|.ld (some 3) (.t 2),oz<|.st 3 (.t 2) (.t 40),oz<|.st 3 (.t 3) (.t 41)]
def abI : List O :=[oo 42<|.ld (some 3) (.t 3),oo 43<|.ld (some 3) (.t 2),oo 44<|.call nQd4 [.t 42,.t 43],oz<|.st 3 (.t 3) (.t 44)]
def ag7 : C := (.seq (.seq (.aH abN false [] [2,3,4,5,32]) (.cond (.t 32) .skip (.exit 4))) (.aJ 5 (.seq (.aJ 6 (.loop ag8)) (.seq (.seq (.aH abK false [] [2,3,4,5,39]) (.cond (.t 39) (.aH abJ false [] [2,3,4,5]) .skip)) (.aH abI false [] [2,3,4,5])))))
def abH : List O :=[oo 45<|.mv (.t 5),oo 46<|.mv (ki 0)]
def abG : List O :=[oo 47<|.bin .lss (.t 46) (.t 45)]
def abF : List O :=[oo 48<|.ld (some 3) (.t 2),oo 49<|.call nQd5 [.t 48],oz<|.st 3 (.t 2) (.t 49)]
def abE : List O :=[oo 50<|.bin .add (.t 46) (ki 1),oo 46<|.mv (.t 50)]
def ag6 : C := (.seq (.aH abG false [] [2,4,45,46,47]) (.seq (.cond (.t 47) .skip (.exit 8)) (.seq (.aJ 9 (.aH abF false [] [2,4,45,46])) (.aH abE false [] [2,4,45,46]))))
def abD : List O :=[oo 51<|.ld (some 3) (.t 2),oz<|.st 3 (.t 4) (.t 51)]
def cQc4 : C := (.seq (.aH afS false [] [2,3,4]) (.seq (.aH afR false [] [2,3,4]) (.seq (.seq (.aH afQ false [] [2,3,4,9]) (.cond (.t 9) (.seq (.aH afP false [] [4]) .ret) .skip)) (.seq (.seq (.aH afO false [] [2,3,4,12]) (.cond (.t 12) (.seq (.aH afN false [] [4]) .ret) .skip)) (.seq (.aH afM false [] [2,3,4,5]) (.seq (.aJ 0 (.loop aha)) (.seq (.aJ 2 (.loop ag9)) (.seq (.aJ 4 (.loop ag7)) (.seq (.seq (.aH abH false [] [2,4,45,46]) (.aJ 8 (.loop ag6))) (.seq (.aH abD false [] [4]) .ret))))))))))
def qQc4 : eR := ⟨52,2,[.c 4 (some 3)],cQc4⟩
/- (cohesion/wide.Number).Over -/
def afI : List O :=[oo 2<|.box (.t 0),oo 3<|.box (.t 1),oo 4<|.mv (ki 0),oo 5<|.mv (.k (.bool false))]
def afH : List O :=[oo 6<|.new [.int .u64 0,.int .u64 0,.bool false],oo 7<|.new [.int .u64 0,.int .u64 0,.bool false]]
def afG : List O :=[oo 10<|.ld (some 3) (.t 3),oo 11<|.call Vt [.t 10]]
def afF : List O :=[oo 4<|.mv (ki 0),oo 5<|.mv (.k (.bool false))]
def afE : List O :=[oo 8<|.mv (ki 127)]
def afD : List O :=[oo 12<|.mv (.t 8),oo 13<|.bin .geq (.t 12) (ki 0)]
def afC : List O :=[oo 16<|.ld (some 3) (.t 6),oo 17<|.call nQd5 [.t 16],oo 18<|.ld (some 3) (.t 7),oo 19<|.call nQd5 [.t 18],oz<|.st 3 (.t 6) (.t 17),oz<|.st 3 (.t 7) (.t 19)]
def afB : List O :=[oo 20<|.cC 1 (.t 2),oo 21<|.ld none (.t 20),oo 22<|.mv (.t 8),oo 23<|.bin .shr (.t 21) (.t 22),oo 24<|.bin .and (.t 23) (.k (.int .u64 1)),oo 9<|.mv (.t 24)]
def afA : List O :=[oo 25<|.mv (.t 8),oo 26<|.bin .gtr (.t 25) (ki 63)]
def afz : List O :=[oo 27<|.cC 0 (.t 2),oo 28<|.ld none (.t 27),oo 29<|.mv (.t 8),oo 30<|.bin .sub (.t 29) (ki 64),oo 31<|.bin .shr (.t 28) (.t 30),oo 32<|.bin .and (.t 31) (.k (.int .u64 1)),oo 9<|.mv (.t 32)]
def abC : List O :=[oo 33<|.cC 1 (.t 6),oo 34<|.ld none (.t 33),oo 35<|.mv (.t 9),oo 36<|.bin .or (.t 34) (.t 35),oo 37<|.cC 1 (.t 6),oz<|.st 1 (.t 37) (.t 36)]
def abB : List O :=[oo 38<|.ld (some 3) (.t 6),oo 39<|.ld (some 3) (.t 3),oo 40<|.call nQd3 [.t 38,.t 39],oo 41<|.un .not (.t 40)]
def abA : List O :=[oo 42<|.ld (some 3) (.t 6),oo 43<|.ld (some 3) (.t 3),oo 44<|.call nQd4 [.t 42,.t 43],oz<|.st 3 (.t 6) (.t 44)]
def abz : List O :=[oo 45<|.cC 1 (.t 7),oo 46<|.ld none (.t 45),oo 47<|.bin .or (.t 46) (.k (.int .u64 1)),oo 48<|.cC 1 (.t 7),oz<|.st 1 (.t 48) (.t 47)]
def aby : List O :=[oo 14<|.mv (.t 8),oo 15<|.bin .sub (.t 14) (ki 1),oo 8<|.mv (.t 15)]
def ag5 : C := (.seq (.seq (.aH afD false [] [2,3,6,7,8,13]) (.cond (.t 13) .skip (.exit 0))) (.seq (.aJ 1 (.seq (.aH afC true [(3,3),(4,4),(5,5),(0,2),(1,2)] [2,3,6,7,8]) (.seq (.aH afB false [] [2,3,6,7,8,9]) (.seq (.seq (.aH afA false [] [2,3,6,7,8,9,26]) (.cond (.t 26) (.aH afz false [] [2,3,6,7,8,9]) .skip)) (.seq (.aH abC false [] [2,3,6,7,8]) (.seq (.aH abB false [] [2,3,6,7,8,41]) (.cond (.t 41) (.seq (.aH abA false [] [2,3,6,7,8]) (.aH abz false [] [2,3,6,7,8])) .skip))))))) (.aH aby false [] [2,3,6,7,8])))
def abx : List O :=[oo 49<|.cC 1 (.t 7),oo 50<|.ld none (.t 49),oo 51<|.bin .and (.t 50) (.k (.int .u64 4611686018427387903)),oo 52<|.CB .i64 (.t 51),oo 53<|.cC 0 (.t 7),oo 54<|.ld none (.t 53),oo 55<|.bin .eql (.t 54) (.k (.int .u64 0)),oo 56<|.mv (.t 55),gt 57 56<|.cC 1 (.t 7),gt 58 56<|.ld none (.t 57),gt 59 56<|.bin .lss (.t 58) (.k (.int .u64 4611686018427387904)),oo 60<|.pick (.t 56) (.t 59) (.k (.bool false)),oo 4<|.mv (.t 52),oo 5<|.mv (.t 60)]
def cQc5 : C := (.seq (.aH afI false [] [2,3]) (.seq (.aH afH false [] [2,3,6,7]) (.seq (.seq (.aH afG false [] [2,3,6,7,11]) (.cond (.t 11) (.seq (.aH afF false [] [4,5]) .ret) .skip)) (.seq (.seq (.aH afE false [] [2,3,6,7,8]) (.aJ 0 (.loop ag5))) (.seq (.aH abx true [(13,13),(1,4),(0,5),(1,5),(2,5),(3,5),(1,6),(1,7),(1,8),(0,9),(1,9),(2,9),(3,9),(1,10),(1,11),(9,12)] [4,5]) .ret)))))
def qQc5 : eR := ⟨61,2,[.t 4,.t 5],cQc5⟩
/- (cohesion/wide.Number).Negative -/
def afy : List O :=[oo 1<|.box (.t 0),oo 2<|.mv (.k (.bool false))]
def afx : List O :=[oo 3<|.cC 2 (.t 1),oo 4<|.ld none (.t 3),oo 5<|.mv (.t 4),gt 6 5<|.ld (some 3) (.t 1),gt 7 5<|.call Vt [.t 6],gt 8 5<|.un .not (.t 7),oo 9<|.pick (.t 5) (.t 8) (.k (.bool false)),oo 2<|.mv (.t 9)]
def cQc6 : C := (.seq (.aH afy false [] [1]) (.seq (.aH afx false [] [2]) .ret))
def qQc6 : eR := ⟨10,1,[.t 2],cQc6⟩
/- cohesion/wide.size -/
def afw : List O :=[oo 2<|.mv (.k (.int .u64 0))]
def afv : List O :=[oo 3<|.mv (.t 0),oo 4<|.bin .lss (.t 3) (ki 0)]
def afu : List O :=[oo 5<|.mv (.t 0),oo 6<|.un .neg (.t 5),oo 7<|.CB .u64 (.t 6),oo 2<|.mv (.t 7)]
def aft : List O :=[oo 8<|.mv (.t 0),oo 9<|.CB .u64 (.t 8),oo 2<|.mv (.t 9)]
def cQc7 : C := (.seq (.aH afw false [] [0]) (.seq (.seq (.aH afv false [] [0,4]) (.cond (.t 4) (.seq (.aH afu false [] [2]) .ret) .skip)) (.seq (.aH aft false [] [2]) .ret)))
def qQc7 : eR := ⟨10,1,[.t 2],cQc7⟩
/- cohesion/cohesionref01.reduce -/
def Qj : List O :=[oo 4<|.box (.t 1),oo 5<|.box (.t 2),oo 6<|.new [.int .i64 0,.int .i64 0],oo 7<|.mv (ki 0)]
def Qi : List O :=[oo 14<|.ld (some 2) (.t 4),oo 15<|.build [.int .u64 0,.int .u64 0] [],oo 16<|.eq false (.str [true,true]) (.t 14) (.t 15)]
def Qh : List O :=[oo 17<|.build [.int .i64 0,.int .i64 0] [(1,1,ki 1)],oz<|.st 2 (.t 6) (.t 17),oo 7<|.mv (ki 0)]
def Qg : List O :=[oo 18<|.ld (some 2) (.t 4),oo 19<|.ld (some 2) (.t 5),oo 20<|.call NI [.t 18,.t 19],oo 8<|.new [.int .u64 0,.int .u64 0],oz<|.st 2 (.t 8) (.t 20)]
def Qf : List O :=[oo 22<|.ld (some 2) (.t 4),oo 23<|.ld (some 2) (.t 8),oo 24<|.call GR [.t 22,.t 23],oo 21<|.mv (.t 24),oo 25<|.ext 0 (.t 21),oo 26<|.ext 1 (.t 21),oo 9<|.new [.int .u64 0,.int .u64 0],oo 10<|.new [.int .u64 0,.int .u64 0],oz<|.st 2 (.t 9) (.t 25),oz<|.st 2 (.t 10) (.t 26)]
def Qe : List O :=[oo 28<|.ld (some 2) (.t 5),oo 29<|.ld (some 2) (.t 8),oo 30<|.call GR [.t 28,.t 29],oo 27<|.mv (.t 30),oo 31<|.ext 0 (.t 27),oo 32<|.ext 1 (.t 27),oo 11<|.new [.int .u64 0,.int .u64 0],oo 12<|.new [.int .u64 0,.int .u64 0],oz<|.st 2 (.t 11) (.t 31),oz<|.st 2 (.t 12) (.t 32)]
def Qd : List O :=[oo 33<|.cC 0 (.t 9),oo 34<|.ld none (.t 33),oo 35<|.bin .gtr (.t 34) (.k (.int .u64 0)),oo 36<|.mv (.t 35),gf 37 36<|.cC 0 (.t 11),gf 38 36<|.ld none (.t 37),gf 39 36<|.bin .gtr (.t 38) (.k (.int .u64 0)),oo 40<|.pick (.t 36) (.k (.bool true)) (.t 39),oo 41<|.mv (.t 40),gf 42 41<|.cC 1 (.t 9),gf 43 41<|.ld none (.t 42),gf 44 41<|.bin .gtr (.t 43) (.k (.int .u64 1152921504606846976)),oo 45<|.pick (.t 41) (.k (.bool true)) (.t 44),oo 46<|.mv (.t 45),gf 47 46<|.cC 1 (.t 11),gf 48 46<|.ld none (.t 47),gf 49 46<|.bin .gtr (.t 48) (.k (.int .u64 1152921504606846976)),oo 50<|.pick (.t 46) (.k (.bool true)) (.t 49)]
def Qc : List O :=[oo 51<|.build [.int .i64 0,.int .i64 0] [],oz<|.st 2 (.t 6) (.t 51),oo 7<|.mv (ki 3)]
def Qb : List O :=[oo 52<|.cC 1 (.t 9),oo 53<|.ld none (.t 52),oo 54<|.CB .i64 (.t 53),oo 55<|.cC 1 (.t 11),oo 56<|.ld none (.t 55),oo 57<|.CB .i64 (.t 56),oo 58<|.build [.int .i64 0,.int .i64 0] [(0,1,.t 54),(1,1,.t 57)],oo 13<|.new [.int .i64 0,.int .i64 0],oz<|.st 2 (.t 13) (.t 58)]
def Qa : List O :=[oo 59<|.mv (.t 0)]
def Jt : List O :=[oo 60<|.cC 0 (.t 13),oo 61<|.ld none (.t 60),oo 62<|.un .neg (.t 61),oo 63<|.cC 0 (.t 13),oz<|.st 1 (.t 63) (.t 62)]
def Js : List O :=[oo 64<|.ld (some 2) (.t 13),oz<|.st 2 (.t 6) (.t 64),oo 7<|.mv (ki 0)]
def cQc8 : C := (.seq (.aH Qj false [] [0,4,5,6]) (.seq (.seq (.aH Qi false [] [0,4,5,6,16]) (.cond (.t 16) (.seq (.aH Qh false [] [6,7]) .ret) .skip)) (.seq (.aH Qg false [] [0,4,5,6,8]) (.seq (.aH Qf false [] [0,5,6,8,9]) (.seq (.aH Qe false [] [0,6,9,11]) (.seq (.seq (.aH Qd false [] [0,6,9,11,50]) (.cond (.t 50) (.seq (.aH Qc false [] [6,7]) .ret) .skip)) (.seq (.aH Qb false [] [0,6,13]) (.seq (.seq (.aH Qa false [] [6,13,59]) (.cond (.t 59) (.aH Jt false [] [6,13]) .skip)) (.seq (.aH Js false [] [6,7]) .ret)))))))))
def Zi : eR := ⟨65,3,[.c 6 (some 2),.t 7],cQc8⟩
/- cohesion/cohesionref01.size -/
def YE : List O :=[oo 2<|.mv (.k (.int .u64 0))]
def YD : List O :=[oo 3<|.mv (.t 0),oo 4<|.bin .lss (.t 3) (ki 0)]
def YC : List O :=[oo 5<|.mv (.t 0),oo 6<|.CB .u64 (.t 5),oo 7<|.un .neg (.t 6),oo 2<|.mv (.t 7)]
def YB : List O :=[oo 8<|.mv (.t 0),oo 9<|.CB .u64 (.t 8),oo 2<|.mv (.t 9)]
def cQc9 : C := (.seq (.aH YE false [] [0]) (.seq (.seq (.aH YD false [] [0,4]) (.cond (.t 4) (.seq (.aH YC false [] [2]) .ret) .skip)) (.seq (.aH YB false [] [2]) .ret)))
def qQc9 : eR := ⟨10,1,[.t 2],cQc9⟩
/- (cohesion/wide.Number).Zero -/
def afs : List O :=[oo 1<|.box (.t 0),oo 2<|.mv (.k (.bool false))]
def afr : List O :=[oo 3<|.cC 0 (.t 1),oo 4<|.ld none (.t 3),oo 5<|.bin .eql (.t 4) (.k (.int .u64 0)),oo 6<|.mv (.t 5),gt 7 6<|.cC 1 (.t 1),gt 8 6<|.ld none (.t 7),gt 9 6<|.bin .eql (.t 8) (.k (.int .u64 0)),oo 10<|.pick (.t 6) (.t 9) (.k (.bool false)),oo 2<|.mv (.t 10)]
def cQd0 : C := (.seq (.aH afs false [] [1]) (.seq (.aH afr false [] [2]) .ret))
def qQd0 : eR := ⟨11,1,[.t 2],cQd0⟩
/- (cohesion/wide.Number).even -/
def afq : List O :=[oo 1<|.box (.t 0),oo 2<|.mv (.k (.bool false))]
def afp : List O :=[oo 3<|.cC 1 (.t 1),oo 4<|.ld none (.t 3),oo 5<|.bin .and (.t 4) (.k (.int .u64 1)),oo 6<|.bin .eql (.t 5) (.k (.int .u64 0)),oo 2<|.mv (.t 6)]
def cQd1 : C := (.seq (.aH afq false [] [1]) (.seq (.aH afp false [] [2]) .ret))
def qQd1 : eR := ⟨7,1,[.t 2],cQd1⟩
/- (cohesion/wide.Number).half -/
def afo : List O :=[oo 1<|.box (.t 0),oo 2<|.new [.int .u64 0,.int .u64 0,.bool false]]
def afn : List O :=[oo 3<|.cC 0 (.t 1),oo 4<|.ld none (.t 3),oo 5<|.bin .shr (.t 4) (.k (.int .u64 1)),oo 6<|.cC 1 (.t 1),oo 7<|.ld none (.t 6),oo 8<|.bin .shr (.t 7) (.k (.int .u64 1)),oo 9<|.cC 0 (.t 1),oo 10<|.ld none (.t 9),oo 11<|.bin .shl (.t 10) (.k (.int .u64 63)),oo 12<|.bin .or (.t 8) (.t 11),oo 13<|.cC 2 (.t 1),oo 14<|.ld none (.t 13),oo 15<|.build [.int .u64 0,.int .u64 0,.bool false] [(0,1,.t 5),(1,1,.t 12),(2,1,.t 14)],oz<|.st 3 (.t 2) (.t 15)]
def cQd2 : C := (.seq (.aH afo false [] [1,2]) (.seq (.aH afn false [] [2]) .ret))
def qQd2 : eR := ⟨16,1,[.c 2 (some 3)],cQd2⟩
/- (cohesion/wide.Number).below -/
def afm : List O :=[oo 2<|.box (.t 0),oo 3<|.box (.t 1),oo 4<|.mv (.k (.bool false))]
def afl : List O :=[oo 5<|.cC 0 (.t 2),oo 6<|.ld none (.t 5),oo 7<|.cC 0 (.t 3),oo 8<|.ld none (.t 7),oo 9<|.bin .lss (.t 6) (.t 8),oo 10<|.mv (.t 9),gf 11 10<|.cC 0 (.t 2),gf 12 10<|.ld none (.t 11),gf 13 10<|.cC 0 (.t 3),gf 14 10<|.ld none (.t 13),gf 15 10<|.bin .eql (.t 12) (.t 14),gf 16 10<|.mv (.t 15),gt 17 16<|.cC 1 (.t 2),gt 18 16<|.ld none (.t 17),gt 19 16<|.cC 1 (.t 3),gt 20 16<|.ld none (.t 19),gt 21 16<|.bin .lss (.t 18) (.t 20),gf 22 10<|.pick (.t 16) (.t 21) (.k (.bool false)),oo 23<|.pick (.t 10) (.k (.bool true)) (.t 22),oo 4<|.mv (.t 23)]
def cQd3 : C := (.seq (.aH afm false [] [2,3]) (.seq (.aH afl false [] [4]) .ret))
def qQd3 : eR := ⟨24,2,[.t 4],cQd3⟩
/- (cohesion/wide.Number).less -/
def afk : List O :=[oo 2<|.box (.t 0),oo 3<|.box (.t 1),oo 4<|.new [.int .u64 0,.int .u64 0,.bool false]]
def afj : List O :=[oo 10<|.cC 1 (.t 2),oo 11<|.ld none (.t 10),oo 12<|.cC 1 (.t 3),oo 13<|.ld none (.t 12),oo 14<|.call nQd8 [.t 11,.t 13,.k (.int .u64 0)],oo 9<|.mv (.t 14),oo 15<|.ext 0 (.t 9),oo 16<|.ext 1 (.t 9),oo 5<|.mv (.t 15),oo 6<|.mv (.t 16)]
def afi : List O :=[oo 18<|.cC 0 (.t 2),oo 19<|.ld none (.t 18),oo 20<|.cC 0 (.t 3),oo 21<|.ld none (.t 20),oo 22<|.mv (.t 6),oo 23<|.call nQd8 [.t 19,.t 21,.t 22],oo 17<|.mv (.t 23),oo 24<|.ext 0 (.t 17),oo 25<|.ext 1 (.t 17),oo 7<|.mv (.t 24),oo 8<|.mv (.t 25)]
def afh : List O :=[oo 26<|.mv (.t 7),oo 27<|.mv (.t 5),oo 28<|.cC 2 (.t 2),oo 29<|.ld none (.t 28),oo 30<|.build [.int .u64 0,.int .u64 0,.bool false] [(0,1,.t 26),(1,1,.t 27),(2,1,.t 29)],oz<|.st 3 (.t 4) (.t 30)]
def cQd4 : C := (.seq (.aH afk false [] [2,3,4]) (.seq (.aH afj false [] [2,3,4,5,6]) (.seq (.aH afi false [] [2,4,5,7]) (.seq (.aH afh false [] [4]) .ret))))
def qQd4 : eR := ⟨31,2,[.c 4 (some 3)],cQd4⟩
/- (cohesion/wide.Number).twice -/
def afg : List O :=[oo 1<|.box (.t 0),oo 2<|.new [.int .u64 0,.int .u64 0,.bool false]]
def aff : List O :=[oo 3<|.cC 0 (.t 1),oo 4<|.ld none (.t 3),oo 5<|.bin .shl (.t 4) (.k (.int .u64 1)),oo 6<|.cC 1 (.t 1),oo 7<|.ld none (.t 6),oo 8<|.bin .shr (.t 7) (.k (.int .u64 63)),oo 9<|.bin .or (.t 5) (.t 8),oo 10<|.cC 1 (.t 1),oo 11<|.ld none (.t 10),oo 12<|.bin .shl (.t 11) (.k (.int .u64 1)),oo 13<|.cC 2 (.t 1),oo 14<|.ld none (.t 13),oo 15<|.build [.int .u64 0,.int .u64 0,.bool false] [(0,1,.t 9),(1,1,.t 12),(2,1,.t 14)],oz<|.st 3 (.t 2) (.t 15)]
def cQd5 : C := (.seq (.aH afg false [] [1,2]) (.seq (.aH aff false [] [2]) .ret))
def qQd5 : eR := ⟨16,1,[.c 2 (some 3)],cQd5⟩
/- cohesion/cohesionref01.gcd -/
def Jr : List O :=[oo 2<|.box (.t 0),oo 3<|.box (.t 1),oo 4<|.new [.int .u64 0,.int .u64 0]]
def Jq : List O :=[oo 7<|.ld (some 2) (.t 3),oo 8<|.build [.int .u64 0,.int .u64 0] [],oo 9<|.eq true (.str [true,true]) (.t 7) (.t 8)]
def Jp : List O :=[oo 11<|.ld (some 2) (.t 2),oo 12<|.ld (some 2) (.t 3),oo 13<|.call GR [.t 11,.t 12],oo 10<|.mv (.t 13),oo 14<|.ext 0 (.t 10),oo 15<|.ext 1 (.t 10),oo 5<|.new [.int .u64 0,.int .u64 0],oo 6<|.new [.int .u64 0,.int .u64 0],oz<|.st 2 (.t 5) (.t 14),oz<|.st 2 (.t 6) (.t 15)]
def Jo : List O :=[oo 16<|.ld (some 2) (.t 3),oo 17<|.ld (some 2) (.t 6),oz<|.st 2 (.t 2) (.t 16),oz<|.st 2 (.t 3) (.t 17)]
def Kt : C := (.seq (.seq (.aH Jq false [] [2,3,4,9]) (.cond (.t 9) .skip (.exit 0))) (.aJ 1 (.seq (.aH Jp false [] [2,3,4,6]) (.aH Jo true [(3,3),(0,1),(1,2)] [2,3,4]))))
def Jn : List O :=[oo 18<|.ld (some 2) (.t 2),oz<|.st 2 (.t 4) (.t 18)]
def cQd6 : C := (.seq (.aH Jr false [] [2,3,4]) (.seq (.aJ 0 (.loop Kt)) (.seq (.aH Jn false [] [4]) .ret)))
def qQd6 : eR := ⟨19,2,[.c 4 (some 2)],cQd6⟩
/- cohesion/cohesionref01.divide -/
def q6 : List O :=[oo 2<|.box (.t 0),oo 3<|.box (.t 1),oo 4<|.new [.int .u64 0,.int .u64 0],oo 5<|.new [.int .u64 0,.int .u64 0]]
def q5 : List O :=[oo 6<|.new [.int .u64 0,.int .u64 0],oo 7<|.new [.int .u64 0,.int .u64 0]]
def qZ : List O :=[oo 8<|.mv (ki 127)]
def qY : List O :=[oo 9<|.mv (.t 8),oo 10<|.bin .geq (.t 9) (ki 0)]
def qX : List O :=[oo 13<|.ld (some 2) (.t 7),oo 14<|.call Kb [.t 13],oz<|.st 2 (.t 7) (.t 14)]
def qW : List O :=[oo 15<|.mv (.t 8),oo 16<|.bin .geq (.t 15) (ki 64),oo 17<|.mv (.t 16),gt 18 17<|.cC 0 (.t 2),gt 19 17<|.ld none (.t 18),gt 20 17<|.mv (.t 8),gt 21 17<|.bin .sub (.t 20) (ki 64),gt 22 17<|.CB .u64 (.t 21),gt 23 17<|.bin .shr (.t 19) (.t 22),gt 24 17<|.bin .and (.t 23) (.k (.int .u64 1)),gt 25 17<|.bin .eql (.t 24) (.k (.int .u64 1)),oo 26<|.pick (.t 17) (.t 25) (.k (.bool false)),oo 27<|.mv (.t 26),gf 28 27<|.mv (.t 8),gf 29 27<|.bin .lss (.t 28) (ki 64),gf 30 27<|.mv (.t 29),gt 31 30<|.cC 1 (.t 2),gt 32 30<|.ld none (.t 31),gt 33 30<|.mv (.t 8),gt 34 30<|.CB .u64 (.t 33),gt 35 30<|.bin .shr (.t 32) (.t 34),gt 36 30<|.bin .and (.t 35) (.k (.int .u64 1)),gt 37 30<|.bin .eql (.t 36) (.k (.int .u64 1)),gf 38 27<|.pick (.t 30) (.t 37) (.k (.bool false)),oo 39<|.pick (.t 27) (.k (.bool true)) (.t 38)]
def qV : List O :=[oo 40<|.cC 1 (.t 7),oo 41<|.ld none (.t 40),oo 42<|.bin .or (.t 41) (.k (.int .u64 1)),oo 43<|.cC 1 (.t 7),oz<|.st 1 (.t 43) (.t 42)]
def qU : List O :=[oo 44<|.ld (some 2) (.t 6),oo 45<|.call Kb [.t 44],oz<|.st 2 (.t 6) (.t 45)]
def qT : List O :=[oo 46<|.ld (some 2) (.t 7),oo 47<|.ld (some 2) (.t 3),oo 48<|.call NH [.t 46,.t 47],oo 49<|.un .not (.t 48)]
def qS : List O :=[oo 50<|.ld (some 2) (.t 7),oo 51<|.ld (some 2) (.t 3),oo 52<|.call Ka [.t 50,.t 51],oz<|.st 2 (.t 7) (.t 52)]
def nq : List O :=[oo 53<|.cC 1 (.t 6),oo 54<|.ld none (.t 53),oo 55<|.bin .or (.t 54) (.k (.int .u64 1)),oo 56<|.cC 1 (.t 6),oz<|.st 1 (.t 56) (.t 55)]
def nn : List O :=[oo 11<|.mv (.t 8),oo 12<|.bin .sub (.t 11) (ki 1),oo 8<|.mv (.t 12)]
def pQ : C := (.seq (.seq (.aH qY false [] [2,3,4,5,6,7,8,10]) (.cond (.t 10) .skip (.exit 0))) (.seq (.aJ 1 (.seq (.aH qX false [] [2,3,4,5,6,7,8]) (.seq (.seq (.aH qW false [] [2,3,4,5,6,7,8,39]) (.cond (.t 39) (.aH qV false [] [2,3,4,5,6,7,8]) .skip)) (.seq (.aH qU false [] [2,3,4,5,6,7,8]) (.seq (.aH qT false [] [2,3,4,5,6,7,8,49]) (.cond (.t 49) (.seq (.aH qS false [] [2,3,4,5,6,7,8]) (.aH nq false [] [2,3,4,5,6,7,8])) .skip)))))) (.aH nn false [] [2,3,4,5,6,7,8])))
def nk : List O :=[oo 57<|.ld (some 2) (.t 6),oo 58<|.ld (some 2) (.t 7),oz<|.st 2 (.t 4) (.t 57),oz<|.st 2 (.t 5) (.t 58)]
def cQd7 : C := (.seq (.aH q6 false [] [2,3,4,5]) (.seq (.aH q5 false [] [2,3,4,5,6,7]) (.seq (.seq (.aH qZ false [] [2,3,4,5,6,7,8]) (.aJ 0 (.loop pQ))) (.seq (.aH nk true [(3,3),(0,1),(1,2)] [4,5]) .ret))))
def qQd7 : eR := ⟨59,2,[.c 4 (some 2),.c 5 (some 2)],cQd7⟩
/- cohesion/cohesionref01.double -/
def YA : List O :=[oo 1<|.box (.t 0),oo 2<|.new [.int .u64 0,.int .u64 0]]
def Yz : List O :=[oo 3<|.cC 0 (.t 1),oo 4<|.ld none (.t 3),oo 5<|.bin .shl (.t 4) (.k (.int .u64 1)),oo 6<|.cC 1 (.t 1),oo 7<|.ld none (.t 6),oo 8<|.bin .shr (.t 7) (.k (.int .u64 63)),oo 9<|.bin .or (.t 5) (.t 8),oo 10<|.cC 1 (.t 1),oo 11<|.ld none (.t 10),oo 12<|.bin .shl (.t 11) (.k (.int .u64 1)),oo 13<|.build [.int .u64 0,.int .u64 0] [(0,1,.t 9),(1,1,.t 12)],oz<|.st 2 (.t 2) (.t 13)]
def cQd9 : C := (.seq (.aH YA false [] [1,2]) (.seq (.aH Yz false [] [2]) .ret))
def qQd9 : eR := ⟨14,1,[.c 2 (some 2)],cQd9⟩
/- cohesion/cohesionref01.less -/
def Yy : List O :=[oo 2<|.box (.t 0),oo 3<|.box (.t 1),oo 4<|.mv (.k (.bool false))]
def Yx : List O :=[oo 5<|.cC 0 (.t 2),oo 6<|.ld none (.t 5),oo 7<|.cC 0 (.t 3),oo 8<|.ld none (.t 7),oo 9<|.bin .lss (.t 6) (.t 8),oo 10<|.mv (.t 9),gf 11 10<|.cC 0 (.t 2),gf 12 10<|.ld none (.t 11),gf 13 10<|.cC 0 (.t 3),gf 14 10<|.ld none (.t 13),gf 15 10<|.bin .eql (.t 12) (.t 14),gf 16 10<|.mv (.t 15),gt 17 16<|.cC 1 (.t 2),gt 18 16<|.ld none (.t 17),gt 19 16<|.cC 1 (.t 3),gt 20 16<|.ld none (.t 19),gt 21 16<|.bin .lss (.t 18) (.t 20),gf 22 10<|.pick (.t 16) (.t 21) (.k (.bool false)),oo 23<|.pick (.t 10) (.k (.bool true)) (.t 22),oo 4<|.mv (.t 23)]
def cQe0 : C := (.seq (.aH Yy false [] [2,3]) (.seq (.aH Yx false [] [4]) .ret))
def qQe0 : eR := ⟨24,2,[.t 4],cQe0⟩
/- cohesion/cohesionref01.sub -/
def Yw : List O :=[oo 2<|.box (.t 0),oo 3<|.box (.t 1),oo 4<|.new [.int .u64 0,.int .u64 0]]
def Yv : List O :=[oo 6<|.cC 0 (.t 2),oo 7<|.ld none (.t 6),oo 8<|.cC 0 (.t 3),oo 9<|.ld none (.t 8),oo 10<|.bin .sub (.t 7) (.t 9),oo 5<|.mv (.t 10)]
def Yu : List O :=[oo 11<|.cC 1 (.t 2),oo 12<|.ld none (.t 11),oo 13<|.cC 1 (.t 3),oo 14<|.ld none (.t 13),oo 15<|.bin .lss (.t 12) (.t 14)]
def Yt : List O :=[oo 16<|.mv (.t 5),oo 17<|.bin .sub (.t 16) (.k (.int .u64 1)),oo 5<|.mv (.t 17)]
def Ys : List O :=[oo 18<|.mv (.t 5),oo 19<|.cC 1 (.t 2),oo 20<|.ld none (.t 19),oo 21<|.cC 1 (.t 3),oo 22<|.ld none (.t 21),oo 23<|.bin .sub (.t 20) (.t 22),oo 24<|.build [.int .u64 0,.int .u64 0] [(0,1,.t 18),(1,1,.t 23)],oz<|.st 2 (.t 4) (.t 24)]
def cQe1 : C := (.seq (.aH Yw false [] [2,3,4]) (.seq (.aH Yv false [] [2,3,4,5]) (.seq (.seq (.aH Yu false [] [2,3,4,5,15]) (.cond (.t 15) (.aH Yt false [] [2,3,4,5]) .skip)) (.seq (.aH Ys false [] [4]) .ret))))
def qQe1 : eR := ⟨25,2,[.c 4 (some 2)],cQe1⟩
abbrev Md := Go.Bm.Md
abbrev eG := Go.Bm.eG
def look : List (Nat × Md × eR) -> Nat -> Option (Md × eR)
 | [],_ => none
 | (j,m,q) :: r,i => if i = j then some (m,q) else look r i
def fns : List (Nat × Md × eR) := [
 (nQa,⟨false,false,true⟩,qQa),
 (nQb,⟨false,false,true⟩,qQb),
 (nQc,⟨false,false,true⟩,qQc),
 (nQd,⟨false,false,true⟩,qQd),
 (nQe,⟨true,false,false⟩,qQe),
 (nQf,⟨true,false,false⟩,qQf),
 (TJ,⟨false,false,false⟩,qQg),
 (CQ,⟨true,false,false⟩,qQh),
 (nQi,⟨true,false,false⟩,Tf),
 (ZU,⟨false,false,true⟩,qQj),
 (WL,⟨false,false,true⟩,qQk),
 (nQl,⟨false,false,false⟩,qQl),
 (Vs,⟨false,false,false⟩,qQm),
 (ZT,⟨false,false,false⟩,qQn),
 (nQo,⟨false,false,false⟩,qQo),
 (nQp,⟨false,false,false⟩,qQp),
 (nQq,⟨false,false,true⟩,qQq),
 (ZS,⟨false,false,true⟩,qQr),
 (TI,⟨false,false,true⟩,qQs),
 (TH,⟨false,false,true⟩,qQt),
 (ZR,⟨false,false,false⟩,qQu),
 (ZQ,⟨false,false,false⟩,qQv),
 (ZP,⟨false,false,false⟩,qQw),
 (nQx,⟨false,false,false⟩,qQx),
 (ZO,⟨false,false,false⟩,qQy),
 (nQz,⟨false,false,false⟩,qQz),
 (nQA,⟨false,false,false⟩,qQA),
 (nQB,⟨false,false,true⟩,qQB),
 (QJ,⟨false,false,true⟩,qQC),
 (Vu,⟨false,false,false⟩,qQD),
 (WM,⟨false,false,true⟩,qQE),
 (nQF,⟨false,false,false⟩,qQF),
 (nQG,⟨false,false,false⟩,qQG),
 (nQH,⟨false,false,true⟩,qQH),
 (nQI,⟨false,false,false⟩,qQI),
 (nQJ,⟨false,false,true⟩,qQJ),
 (nQK,⟨false,false,false⟩,qQK),
 (nQL,⟨false,false,false⟩,qQL),
 (nQM,⟨false,false,true⟩,qQM),
 (nQN,⟨false,false,true⟩,qQN),
 (nQO,⟨false,false,true⟩,qQO),
 (nQP,⟨false,false,false⟩,qQP),
 (nQQ,⟨false,false,false⟩,qQQ),
 (Z0,⟨false,false,false⟩,qQR),
 (nQS,⟨false,false,false⟩,qQS),
 (ZZ,⟨false,false,false⟩,qQT),
 (nQU,⟨false,false,true⟩,qQU),
 (nQV,⟨false,false,false⟩,qQV),
 (ZY,⟨false,false,false⟩,qQW),
 (ZX,⟨false,false,true⟩,qQX),
 (nQY,⟨false,false,false⟩,qQY),
 (nQZ,⟨false,false,true⟩,qQZ),
 (nQ0,⟨false,false,false⟩,qQ0),
 (nQ1,⟨false,false,false⟩,qQ1),
 (nQ2,⟨false,false,true⟩,qQ2),
 (nQ3,⟨false,false,false⟩,qQ3),
 (nQ4,⟨false,false,true⟩,qQ4),
 (nQ5,⟨false,false,false⟩,qQ5),
 (Z1,⟨false,true,true⟩,qQ6),
 (nQ7,⟨false,false,true⟩,qQ7),
 (nQ8,⟨false,false,true⟩,qQ8),
 (nQ9,⟨false,false,true⟩,qQ9),
 (Km,⟨false,false,true⟩,qQa0),
 (Kl,⟨false,false,true⟩,qQa1),
 (QI,⟨false,true,true⟩,qQa2),
 (Kk,⟨false,false,false⟩,qQa3),
 (Kj,⟨false,true,true⟩,qQa4),
 (Ki,⟨false,false,true⟩,qQa5),
 (QH,⟨false,true,true⟩,qQa6),
 (NT,⟨false,false,true⟩,qQa7),
 (Ao,⟨false,false,true⟩,qQa8),
 (Kh,⟨false,false,false⟩,qQa9),
 (NS,⟨false,false,true⟩,qQb0),
 (GS,⟨false,false,true⟩,qQb1),
 (NR,⟨false,false,false⟩,qQb2),
 (nQb3,⟨false,false,false⟩,qQb3),
 (nQb4,⟨false,false,false⟩,qQb4),
 (NQ,⟨false,false,false⟩,qQb5),
 (Kg,⟨false,false,true⟩,qQb6),
 (NP,⟨false,false,false⟩,qQb7),
 (NO,⟨false,false,true⟩,qQb8),
 (NM,⟨false,false,true⟩,qQb9),
 (Kf,⟨false,false,true⟩,qQc0),
 (NL,⟨false,false,false⟩,qQc1),
 (NK,⟨false,false,true⟩,qQc2),
 (Ke,⟨false,false,false⟩,qQc3),
 (nQc4,⟨false,false,false⟩,qQc4),
 (nQc5,⟨false,false,true⟩,qQc5),
 (nQc6,⟨false,false,true⟩,qQc6),
 (nQc7,⟨false,false,true⟩,qQc7),
 (NJ,⟨false,false,false⟩,Zi),
 (Kc,⟨false,false,true⟩,qQc9),
 (Vt,⟨false,false,true⟩,qQd0),
 (ZW,⟨false,false,true⟩,qQd1),
 (ZV,⟨false,false,false⟩,qQd2),
 (nQd3,⟨false,false,true⟩,qQd3),
 (nQd4,⟨false,false,false⟩,qQd4),
 (nQd5,⟨false,false,false⟩,qQd5),
 (NI,⟨false,false,false⟩,qQd6),
 (GR,⟨false,false,false⟩,qQd7),
 (Kb,⟨false,false,false⟩,qQd9),
 (NH,⟨false,false,true⟩,qQe0),
 (Ka,⟨false,false,false⟩,qQe1)]
def cfg : eG := ⟨look fns,fun _ => [],fun _ => none,fun _ => none,fun _ => none,fun _ => false,fun _ => false,fun _ => none⟩
theorem kQa : bF af Go.Proofs.Tryz.f3 qQa = true := by kernel_rfl
theorem kQb : bF af Go.Proofs.Tryz.f4 qQb = true := by kernel_rfl
theorem kQc : bF af Go.Proofs.Tryz.f5 qQc = true := by kernel_rfl
theorem kQd : bF af Go.Proofs.Tryz.f6 qQd = true := by kernel_rfl
theorem kQe : bF af Go.Proofs.Tryz.f7 qQe = true := by kernel_rfl
theorem kQf : bF af Go.Proofs.Tryz.f8 qQf = true := by kernel_rfl
theorem kQg : bF af Go.Proofs.Tryz.f9 qQg = true := by kernel_rfl
theorem kQh : bF af Go.Proofs.Tryz.f10 qQh = true := by kernel_rfl
theorem kQi : bF af Go.Proofs.Tryz.f11 Tf = true := by kernel_rfl
theorem kQj : bF af Go.Proofs.Tryz.f12 qQj = true := by kernel_rfl
theorem kQk : bF af Go.Proofs.Tryz.f13 qQk = true := by kernel_rfl
theorem kQl : bF af Go.Proofs.Tryz.f14 qQl = true := by kernel_rfl
theorem kQm : bF af Go.Proofs.Tryz.f15 qQm = true := by kernel_rfl
theorem kQn : bF af Go.Proofs.Tryz.f16 qQn = true := by kernel_rfl
theorem kQo : bF af Go.Proofs.Tryz.f17 qQo = true := by kernel_rfl
theorem kQp : bF af Go.Proofs.Tryz.f18 qQp = true := by kernel_rfl
theorem kQq : bF af Go.Proofs.Tryz.f19 qQq = true := by kernel_rfl
theorem kQr : bF af Go.Proofs.Tryz.f20 qQr = true := by kernel_rfl
theorem kQs : bF af Go.Proofs.Tryz.f21 qQs = true := by kernel_rfl
theorem kQt : bF af Go.Proofs.Tryz.f22 qQt = true := by kernel_rfl
theorem kQu : bF af Go.Proofs.Tryz.f23 qQu = true := by kernel_rfl
theorem kQv : bF af Go.Proofs.Tryz.f24 qQv = true := by kernel_rfl
theorem kQw : bF af Go.Proofs.Tryz.f25 qQw = true := by kernel_rfl
theorem kQx : bF af Go.Proofs.Tryz.f26 qQx = true := by kernel_rfl
theorem kQy : bF af Go.Proofs.Tryz.f27 qQy = true := by kernel_rfl
theorem kQz : bF af Go.Proofs.Tryz.f28 qQz = true := by kernel_rfl
theorem kQA : bF af Go.Proofs.Tryz.f29 qQA = true := by kernel_rfl
theorem kQB : bF af Go.Proofs.Tryz.f30 qQB = true := by kernel_rfl
theorem kQC : bF af Go.Proofs.Tryz.f31 qQC = true := by kernel_rfl
theorem kQD : bF af Go.Proofs.Tryz.f32 qQD = true := by kernel_rfl
theorem kQE : bF af Go.Proofs.Tryz.f33 qQE = true := by kernel_rfl
theorem kQF : bF af Go.Proofs.Tryz.f34 qQF = true := by kernel_rfl
theorem kQG : bF af Go.Proofs.Tryz.f35 qQG = true := by kernel_rfl
theorem kQH : bF af Go.Proofs.Tryz.f36 qQH = true := by kernel_rfl
theorem kQI : bF af Go.Proofs.Tryz.f37 qQI = true := by kernel_rfl
theorem kQJ : bF af Go.Proofs.Tryz.f38 qQJ = true := by kernel_rfl
theorem kQK : bF af Go.Proofs.Tryz.f39 qQK = true := by kernel_rfl
theorem kQL : bF af Go.Proofs.Tryz.f40 qQL = true := by kernel_rfl
theorem kQM : bF af Go.Proofs.Tryz.f41 qQM = true := by kernel_rfl
theorem kQN : bF af Go.Proofs.Tryz.f42 qQN = true := by kernel_rfl
theorem kQO : bF af Go.Proofs.Tryz.f43 qQO = true := by kernel_rfl
theorem kQP : bF af Go.Proofs.Tryz.f44 qQP = true := by kernel_rfl
theorem kQQ : bF af Go.Proofs.Tryz.f45 qQQ = true := by kernel_rfl
theorem kQR : bF af Go.Proofs.Tryz.f46 qQR = true := by kernel_rfl
theorem kQS : bF af Go.Proofs.Tryz.f47 qQS = true := by kernel_rfl
theorem kQT : bF af Go.Proofs.Tryz.f48 qQT = true := by kernel_rfl
theorem kQU : bF af Go.Proofs.Tryz.f49 qQU = true := by kernel_rfl
theorem kQV : bF af Go.Proofs.Tryz.f50 qQV = true := by kernel_rfl
theorem kQW : bF af Go.Proofs.Tryz.f51 qQW = true := by kernel_rfl
theorem kQX : bF af Go.Proofs.Tryz.f52 qQX = true := by kernel_rfl
theorem kQY : bF af Go.Proofs.Tryz.f53 qQY = true := by kernel_rfl
theorem kQZ : bF af Go.Proofs.Tryz.f54 qQZ = true := by kernel_rfl
theorem kQ0 : bF af Go.Proofs.Tryz.f55 qQ0 = true := by kernel_rfl
theorem kQ1 : bF af Go.Proofs.Tryz.f56 qQ1 = true := by kernel_rfl
theorem kQ2 : bF af Go.Proofs.Tryz.f57 qQ2 = true := by kernel_rfl
theorem kQ3 : bF af Go.Proofs.Tryz.f58 qQ3 = true := by kernel_rfl
theorem kQ4 : bF af Go.Proofs.Tryz.f59 qQ4 = true := by kernel_rfl
theorem kQ5 : bF af Go.Proofs.Tryz.f60 qQ5 = true := by kernel_rfl
theorem kQ6 : bF af Go.Proofs.Tryz.f61 qQ6 = true := by kernel_rfl
theorem kQ7 : bF af Go.Proofs.Tryz.f62 qQ7 = true := by kernel_rfl
theorem kQ8 : bF af Go.Proofs.Tryz.f63 qQ8 = true := by kernel_rfl
theorem kQ9 : bF af Go.Proofs.Tryz.f64 qQ9 = true := by kernel_rfl
theorem kQa0 : bF af Go.Proofs.Tryz.f65 qQa0 = true := by kernel_rfl
theorem kQa1 : bF af Go.Proofs.Tryz.f66 qQa1 = true := by kernel_rfl
theorem kQa2 : bF af Go.Proofs.Tryz.f67 qQa2 = true := by kernel_rfl
theorem kQa3 : bF af Go.Proofs.Tryz.f68 qQa3 = true := by kernel_rfl
theorem kQa4 : bF af Go.Proofs.Tryz.f69 qQa4 = true := by kernel_rfl
theorem kQa5 : bF af Go.Proofs.Tryz.f70 qQa5 = true := by kernel_rfl
theorem kQa6 : bF af Go.Proofs.Tryz.f71 qQa6 = true := by kernel_rfl
theorem kQa7 : bF af Go.Proofs.Tryz.f72 qQa7 = true := by kernel_rfl
theorem kQa8 : bF af Go.Proofs.Tryz.f73 qQa8 = true := by kernel_rfl
theorem kQa9 : bF af Go.Proofs.Tryz.f74 qQa9 = true := by kernel_rfl
theorem kQb0 : bF af Go.Proofs.Tryz.f75 qQb0 = true := by kernel_rfl
theorem kQb1 : bF af Go.Proofs.Tryz.f78 qQb1 = true := by kernel_rfl
theorem kQb2 : bF af Go.Proofs.Tryz.f79 qQb2 = true := by kernel_rfl
theorem kQb3 : bF af Go.Proofs.Tryz.f80 qQb3 = true := by kernel_rfl
theorem kQb4 : bF af Go.Proofs.Tryz.f81 qQb4 = true := by kernel_rfl
theorem kQb5 : bF af Go.Proofs.Tryz.f82 qQb5 = true := by kernel_rfl
theorem kQb6 : bF af Go.Proofs.Tryz.f83 qQb6 = true := by kernel_rfl
theorem kQb7 : bF af Go.Proofs.Tryz.f84 qQb7 = true := by kernel_rfl
theorem kQb8 : bF af Go.Proofs.Tryz.f85 qQb8 = true := by kernel_rfl
theorem kQb9 : bF af Go.Proofs.Tryz.f86 qQb9 = true := by kernel_rfl
theorem kQc0 : bF af Go.Proofs.Tryz.f89 qQc0 = true := by kernel_rfl
theorem kQc1 : bF af Go.Proofs.Tryz.f90 qQc1 = true := by kernel_rfl
theorem kQc2 : bF af Go.Proofs.Tryz.f102 qQc2 = true := by kernel_rfl
theorem kQc3 : bF af Go.Proofs.Tryz.f103 qQc3 = true := by kernel_rfl
theorem kQc4 : bF af Go.Proofs.Tryz.f104 qQc4 = true := by kernel_rfl
theorem kQc5 : bF af Go.Proofs.Tryz.f105 qQc5 = true := by kernel_rfl
theorem kQc6 : bF af Go.Proofs.Tryz.f106 qQc6 = true := by kernel_rfl
theorem kQc7 : bF af Go.Proofs.Tryz.f107 qQc7 = true := by kernel_rfl
theorem kQc8 : bF af Go.Proofs.Tryz.f108 Zi = true := by kernel_rfl
theorem kQc9 : bF af Go.Proofs.Tryz.f109 qQc9 = true := by kernel_rfl
theorem kQd0 : bF af Go.Proofs.Tryz.f116 qQd0 = true := by kernel_rfl
theorem kQd1 : bF af Go.Proofs.Tryz.f117 qQd1 = true := by kernel_rfl
theorem kQd2 : bF af Go.Proofs.Tryz.f118 qQd2 = true := by kernel_rfl
theorem kQd3 : bF af Go.Proofs.Tryz.f119 qQd3 = true := by kernel_rfl
theorem kQd4 : bF af Go.Proofs.Tryz.f120 qQd4 = true := by kernel_rfl
theorem kQd5 : bF af Go.Proofs.Tryz.f121 qQd5 = true := by kernel_rfl
theorem kQd6 : bF af Go.Proofs.Tryz.f122 qQd6 = true := by kernel_rfl
theorem kQd7 : bF af Go.Proofs.Tryz.f123 qQd7 = true := by kernel_rfl
theorem kQd9 : bF af Go.Proofs.Tryz.f127 qQd9 = true := by kernel_rfl
theorem kQe0 : bF af Go.Proofs.Tryz.f128 qQe0 = true := by kernel_rfl
theorem kQe1 : bF af Go.Proofs.Tryz.f129 qQe1 = true := by kernel_rfl
theorem Oa : ∀ {l : List (Nat × Md × eR)} {f : Nat} {m : Md} {q : eR},look l f = some (m,q) -> (f,m,q) ∈ l
 | [],f,m,q,h => by simp [look] at h
 | (j,m',q') :: r,f,m,q,h => by
   unfold look at h;split at h
   ·rename_i he; subst he; simp at h; obtain ⟨rfl,rfl⟩ := h; simp
   ·exact List.mem_cons_of_mem _ (Oa h)
def Good (p : Nat × Md × eR) : Prop := ∃ fn,af.funcs[p.1]? = some fn /\ bF af fn p.2.2 = true
def All (G : Nat × Md × eR -> Prop) : List (Nat × Md × eR) -> Prop
 | [] => True
 | p :: r => G p /\ All G r
theorem All.get {G : Nat × Md × eR -> Prop} : ∀ {l : List (Nat × Md × eR)},All G l -> ∀ p ∈ l,G p
 | [],_,p,h => by simp at h
 | q :: r,h,p,hp => by
   rcases List.mem_cons.1 hp with e | e
   ·subst e; exact h.1
   ·exact All.get h.2 p e
theorem ads : All Good fns := ⟨⟨_,Go.Proofs.Tryz.func3,kQa⟩,⟨_,Go.Proofs.Tryz.func4,kQb⟩,⟨_,Go.Proofs.Tryz.func5,kQc⟩,⟨_,Go.Proofs.Tryz.func6,kQd⟩,⟨_,Go.Proofs.Tryz.func7,kQe⟩,⟨_,Go.Proofs.Tryz.func8,kQf⟩,⟨_,Go.Proofs.Tryz.func9,kQg⟩,⟨_,Go.Proofs.Tryz.func10,kQh⟩,⟨_,Go.Proofs.Tryz.func11,kQi⟩,⟨_,Go.Proofs.Tryz.func12,kQj⟩,⟨_,Go.Proofs.Tryz.func13,kQk⟩,⟨_,Go.Proofs.Tryz.func14,kQl⟩,⟨_,Go.Proofs.Tryz.func15,kQm⟩,⟨_,Go.Proofs.Tryz.func16,kQn⟩,⟨_,Go.Proofs.Tryz.func17,kQo⟩,⟨_,Go.Proofs.Tryz.func18,kQp⟩,⟨_,Go.Proofs.Tryz.func19,kQq⟩,⟨_,Go.Proofs.Tryz.func20,kQr⟩,⟨_,Go.Proofs.Tryz.func21,kQs⟩,⟨_,Go.Proofs.Tryz.func22,kQt⟩,⟨_,Go.Proofs.Tryz.func23,kQu⟩,⟨_,Go.Proofs.Tryz.func24,kQv⟩,⟨_,Go.Proofs.Tryz.func25,kQw⟩,⟨_,Go.Proofs.Tryz.func26,kQx⟩,⟨_,Go.Proofs.Tryz.func27,kQy⟩,⟨_,Go.Proofs.Tryz.func28,kQz⟩,⟨_,Go.Proofs.Tryz.func29,kQA⟩,⟨_,Go.Proofs.Tryz.func30,kQB⟩,⟨_,Go.Proofs.Tryz.func31,kQC⟩,⟨_,Go.Proofs.Tryz.func32,kQD⟩,⟨_,Go.Proofs.Tryz.func33,kQE⟩,⟨_,Go.Proofs.Tryz.func34,kQF⟩,⟨_,Go.Proofs.Tryz.func35,kQG⟩,⟨_,Go.Proofs.Tryz.func36,kQH⟩,⟨_,Go.Proofs.Tryz.func37,kQI⟩,⟨_,Go.Proofs.Tryz.func38,kQJ⟩,⟨_,Go.Proofs.Tryz.func39,kQK⟩,⟨_,Go.Proofs.Tryz.func40,kQL⟩,⟨_,Go.Proofs.Tryz.func41,kQM⟩,⟨_,Go.Proofs.Tryz.func42,kQN⟩,⟨_,Go.Proofs.Tryz.func43,kQO⟩,⟨_,Go.Proofs.Tryz.func44,kQP⟩,⟨_,Go.Proofs.Tryz.func45,kQQ⟩,⟨_,Go.Proofs.Tryz.func46,kQR⟩,⟨_,Go.Proofs.Tryz.func47,kQS⟩,⟨_,Go.Proofs.Tryz.func48,kQT⟩,⟨_,Go.Proofs.Tryz.func49,kQU⟩,⟨_,Go.Proofs.Tryz.func50,kQV⟩,⟨_,Go.Proofs.Tryz.func51,kQW⟩,⟨_,Go.Proofs.Tryz.func52,kQX⟩,⟨_,Go.Proofs.Tryz.func53,kQY⟩,⟨_,Go.Proofs.Tryz.func54,kQZ⟩,⟨_,Go.Proofs.Tryz.func55,kQ0⟩,⟨_,Go.Proofs.Tryz.func56,kQ1⟩,⟨_,UI,kQ2⟩,⟨_,Go.Proofs.Tryz.func58,kQ3⟩,⟨_,Go.Proofs.Tryz.func59,kQ4⟩,⟨_,Go.Proofs.Tryz.func60,kQ5⟩,⟨_,Go.Proofs.Tryz.func61,kQ6⟩,⟨_,Go.Proofs.Tryz.func62,kQ7⟩,⟨_,Go.Proofs.Tryz.func63,kQ8⟩,⟨_,Go.Proofs.Tryz.func64,kQ9⟩,⟨_,Go.Proofs.Tryz.func65,kQa0⟩,⟨_,Go.Proofs.Tryz.func66,kQa1⟩,⟨_,Go.Proofs.Tryz.func67,kQa2⟩,⟨_,Go.Proofs.Tryz.func68,kQa3⟩,⟨_,Go.Proofs.Tryz.func69,kQa4⟩,⟨_,Go.Proofs.Tryz.func70,kQa5⟩,⟨_,Go.Proofs.Tryz.func71,kQa6⟩,⟨_,Go.Proofs.Tryz.func72,kQa7⟩,⟨_,Go.Proofs.Tryz.func73,kQa8⟩,⟨_,Go.Proofs.Tryz.func74,kQa9⟩,⟨_,Go.Proofs.Tryz.func75,kQb0⟩,⟨_,Go.Proofs.Tryz.func78,kQb1⟩,⟨_,Go.Proofs.Tryz.func79,kQb2⟩,⟨_,Go.Proofs.Tryz.func80,kQb3⟩,⟨_,Go.Proofs.Tryz.func81,kQb4⟩,⟨_,Go.Proofs.Tryz.func82,kQb5⟩,⟨_,Go.Proofs.Tryz.func83,kQb6⟩,⟨_,Go.Proofs.Tryz.func84,kQb7⟩,⟨_,Go.Proofs.Tryz.func85,kQb8⟩,⟨_,Go.Proofs.Tryz.func86,kQb9⟩,⟨_,UH,kQc0⟩,⟨_,Go.Proofs.Tryz.func90,kQc1⟩,⟨_,Go.Proofs.Tryz.func102,kQc2⟩,⟨_,Go.Proofs.Tryz.func103,kQc3⟩,⟨_,Go.Proofs.Tryz.func104,kQc4⟩,⟨_,Go.Proofs.Tryz.func105,kQc5⟩,⟨_,Go.Proofs.Tryz.func106,kQc6⟩,⟨_,Go.Proofs.Tryz.func107,kQc7⟩,⟨_,Go.Proofs.Tryz.func108,kQc8⟩,⟨_,Go.Proofs.Tryz.func109,kQc9⟩,⟨_,Go.Proofs.Tryz.func116,kQd0⟩,⟨_,Go.Proofs.Tryz.func117,kQd1⟩,⟨_,Go.Proofs.Tryz.func118,kQd2⟩,⟨_,Go.Proofs.Tryz.func119,kQd3⟩,⟨_,Go.Proofs.Tryz.func120,kQd4⟩,⟨_,Go.Proofs.Tryz.func121,kQd5⟩,⟨_,Go.Proofs.Tryz.func122,kQd6⟩,⟨_,Go.Proofs.Tryz.func123,kQd7⟩,⟨_,Go.Proofs.Tryz.func127,kQd9⟩,⟨_,Go.Proofs.Tryz.func128,kQe0⟩,⟨_,Go.Proofs.Tryz.func129,kQe1⟩,trivial⟩
theorem aeR : fm af cfg := ⟨by kernel_rfl,fun f m q h => ads.get _ (Oa h)⟩
end Go.BmP
