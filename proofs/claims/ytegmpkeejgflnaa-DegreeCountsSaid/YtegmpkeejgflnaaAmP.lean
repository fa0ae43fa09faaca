/- The compact code of the functions, printed by program off the translation. -/
import Derived.Test.YtegmpkeejgflnaaChecked
import Derived.Test.YtegmpkeejgflnaaMa
import Derived.KernelRfl
set_option maxRecDepth 100000
namespace Go.AmP
open Go.Am
abbrev oo (d : Nat) (x : Kd) : O := ⟨some d, none, x⟩
abbrev oz (x : Kd) : O := ⟨none, none, x⟩
abbrev ki (n : Nat) : E := .k (.int .i64 n)
def nQn : Nat := 16
def nQK : Nat := 29
def nQL : Nat := 36
def nQM : Nat := 37
def nQN : Nat := 38
def nQO : Nat := 52
def nQP : Nat := 53
def nQQ : Nat := 61
/- cohesion/degree.Graphic -/
def rQnX0 : List O := [
 oo 2 <| .mv (.k (.bool false))]
def rQnX1 : List O := [
 oo 5 <| .mv (.t 0),
 oo 6 <| .len (.t 5),
 oo 7 <| .bin .gtr (.t 6) (ki 64)]
def rQnX2 : List O := [
 oo 2 <| .mv (.k (.bool false))]
def rQnX3 : List O := [
 oo 9 <| .mv (.t 0),
 oo 10 <| .call nQK [(.t 9)],
 oo 8 <| .mv (.t 10),
 oo 11 <| .ext 0 (.t 8),
 oo 12 <| .ext 1 (.t 8),
 oo 3 <| .mv (.t 11),
 oo 4 <| .mv (.t 12)]
def rQnX4 : List O := [
 oo 13 <| .mv (.t 4),
 oo 2 <| .mv (.t 13)]
def cQn : C := (.seq (.reg rQnX0 false [] [0]) (.seq (.seq (.reg rQnX1 false [] [0, 7]) (.cond (.t 7) (.seq (.reg rQnX2 false [] [2]) .ret) .skip)) (.seq (.reg rQnX3 false [] [4]) (.seq (.reg rQnX4 false [] [2]) .ret))))
def qQn : AFn := ⟨14, 1, [.t 2], cQn⟩
/- cohesion/degree.realise -/
def rQKX0 : List O := [
 oo 2 <| .mv (.k .nils),
 oo 3 <| .mv (.k (.bool false))]
def rQKX1 : List O := [
 oo 4 <| .mv (.k .nils)]
def rQKX2 : List O := [
 oo 10 <| .mv (.t 0),
 oo 11 <| .len (.t 10),
 oo 12 <| .mv (ki 0)]
def rQKX3 : List O := [
 oo 13 <| .bin .lss (.t 12) (.t 11)]
def rQKX4 : List O := [
 oo 14 <| .mv (.t 12),
 oo 15 <| .ixa 1 (.t 10) (.t 12),
 oo 16 <| .ld none (.t 15),
 oo 5 <| .mv (.t 14),
 oo 6 <| .mv (.t 16)]
def rQKX5 : List O := [
 oo 17 <| .mv (.t 6),
 oo 18 <| .bin .lss (.t 17) (ki 0),
 oo 19 <| .mv (.t 18),
 ⟨(some 20), (some (19, false)), .mv (.t 6)⟩,
 ⟨(some 21), (some (19, false)), .mv (.t 0)⟩,
 ⟨(some 22), (some (19, false)), .len (.t 21)⟩,
 ⟨(some 23), (some (19, false)), .bin .geq (.t 20) (.t 22)⟩,
 oo 24 <| .pick (.t 19) (.k (.bool true)) (.t 23)]
def rQKX6 : List O := [
 oo 2 <| .mv (.k .nils),
 oo 3 <| .mv (.k (.bool false))]
def rQKX7 : List O := [
 oo 25 <| .mv (.t 4),
 oo 26 <| .mv (.t 5),
 oo 27 <| .mv (.t 6),
 oo 28 <| .build [(.int .i64 0), (.int .i64 0)] [(0, 1, (.t 26)), (1, 1, (.t 27))],
 oo 29 <| .bslice 2 1 [(.int .i64 0), (.int .i64 0)] [(0, 2, (.t 28))],
 oo 30 <| .app 2 (.t 25) (.t 29),
 oo 4 <| .mv (.t 30)]
def rQKX8 : List O := [
 oo 31 <| .bin .add (.t 12) (ki 1),
 oo 12 <| .mv (.t 31)]
def lQKX0 : C := (.seq (.reg rQKX3 false [] [0, 4, 10, 11, 12, 13]) (.seq (.cond (.t 13) .skip (.exit 0)) (.seq (.blk 1 (.seq (.reg rQKX4 false [] [0, 4, 5, 6, 10, 11, 12]) (.seq (.seq (.reg rQKX5 false [] [0, 4, 5, 6, 10, 11, 12, 24]) (.cond (.t 24) (.seq (.reg rQKX6 false [] [2, 3]) .ret) .skip)) (.reg rQKX7 false [] [0, 4, 10, 11, 12])))) (.reg rQKX8 false [] [0, 4, 10, 11, 12]))))
def rQKX9 : List O := [
 oo 7 <| .mv (.k .nils)]
def rQKX10 : List O := [
 oo 32 <| .mv (.t 4),
 oo 33 <| .len (.t 32),
 oo 34 <| .bin .gtr (.t 33) (ki 0)]
def rQKX11 : List O := [
 oo 35 <| .mv (.t 4),
 oo 36 <| .call nQM [(.t 35), (.k (.func (.func nQN) [] []))]]
def rQKX12 : List O := [
 oo 37 <| .mv (.t 4),
 oo 38 <| .ixa 2 (.t 37) (ki 0),
 oo 39 <| .ld (some 2) (.t 38),
 oo 8 <| .new [(.int .i64 0), (.int .i64 0)],
 oz <| .st 2 (.t 8) (.t 39)]
def rQKX13 : List O := [
 oo 40 <| .mv (.t 4),
 oo 41 <| .slc 2 (.t 40) (some (ki 1)) none,
 oo 4 <| .mv (.t 41)]
def rQKX14 : List O := [
 oo 42 <| .fad 1 (.t 8),
 oo 43 <| .ld none (.t 42),
 oo 44 <| .mv (.t 4),
 oo 45 <| .len (.t 44),
 oo 46 <| .bin .gtr (.t 43) (.t 45)]
def rQKX15 : List O := [
 oo 2 <| .mv (.k .nils),
 oo 3 <| .mv (.k (.bool false))]
def rQKX16 : List O := [
 oo 47 <| .fad 1 (.t 8),
 oo 48 <| .ld none (.t 47),
 oo 49 <| .mv (ki 0)]
def rQKX17 : List O := [
 oo 50 <| .bin .lss (.t 49) (.t 48)]
def rQKX18 : List O := [
 oo 51 <| .mv (.t 49),
 oo 9 <| .mv (.t 51)]
def rQKX19 : List O := [
 oo 52 <| .mv (.t 4),
 oo 53 <| .mv (.t 9),
 oo 54 <| .ixa 2 (.t 52) (.t 53),
 oo 55 <| .fad 1 (.t 54),
 oo 56 <| .ld none (.t 55),
 oo 57 <| .bin .eql (.t 56) (ki 0)]
def rQKX20 : List O := [
 oo 2 <| .mv (.k .nils),
 oo 3 <| .mv (.k (.bool false))]
def rQKX21 : List O := [
 oo 58 <| .mv (.t 4),
 oo 59 <| .mv (.t 9),
 oo 60 <| .ixa 2 (.t 58) (.t 59),
 oo 61 <| .fad 1 (.t 60),
 oo 62 <| .ld none (.t 61),
 oo 63 <| .bin .sub (.t 62) (ki 1),
 oo 64 <| .ixa 2 (.t 58) (.t 59),
 oo 65 <| .fad 1 (.t 64),
 oz <| .st 1 (.t 65) (.t 63)]
def rQKX22 : List O := [
 oo 66 <| .mv (.t 7),
 oo 67 <| .fad 0 (.t 8),
 oo 68 <| .ld none (.t 67),
 oo 69 <| .mv (.t 4),
 oo 70 <| .mv (.t 9),
 oo 71 <| .ixa 2 (.t 69) (.t 70),
 oo 72 <| .fad 0 (.t 71),
 oo 73 <| .ld none (.t 72),
 oo 74 <| .build [(.int .i64 0), (.int .i64 0)] [(0, 1, (.t 68)), (1, 1, (.t 73))],
 oo 75 <| .bslice 2 1 [(.int .i64 0), (.int .i64 0)] [(0, 2, (.t 74))],
 oo 76 <| .app 2 (.t 66) (.t 75),
 oo 7 <| .mv (.t 76)]
def rQKX23 : List O := [
 oo 77 <| .bin .add (.t 49) (ki 1),
 oo 49 <| .mv (.t 77)]
def lQKX1 : C := (.seq (.reg rQKX17 false [] [4, 7, 8, 48, 49, 50]) (.seq (.cond (.t 50) .skip (.exit 4)) (.seq (.blk 5 (.seq (.reg rQKX18 false [] [4, 7, 8, 9, 48, 49]) (.seq (.seq (.reg rQKX19 false [] [4, 7, 8, 9, 48, 49, 57]) (.cond (.t 57) (.seq (.reg rQKX20 false [] [2, 3]) .ret) .skip)) (.seq (.reg rQKX21 false [] [4, 7, 8, 9, 48, 49]) (.reg rQKX22 true [(2, 7)] [4, 7, 8, 48, 49]))))) (.reg rQKX23 false [] [4, 7, 8, 48, 49]))))
def lQKX2 : C := (.seq (.seq (.reg rQKX10 false [] [4, 7, 34]) (.cond (.t 34) .skip (.exit 2))) (.blk 3 (.seq (.reg rQKX11 false [] [4, 7]) (.seq (.reg rQKX12 false [] [4, 7, 8]) (.seq (.reg rQKX13 false [] [4, 7, 8]) (.seq (.seq (.reg rQKX14 false [] [4, 7, 8, 46]) (.cond (.t 46) (.seq (.reg rQKX15 false [] [2, 3]) .ret) .skip)) (.seq (.reg rQKX16 false [] [4, 7, 8, 48, 49]) (.blk 4 (.loop lQKX1)))))))))
def rQKX24 : List O := [
 oo 78 <| .mv (.t 7),
 oo 2 <| .mv (.t 78),
 oo 3 <| .mv (.k (.bool true))]
def cQK : C := (.seq (.reg rQKX0 false [] [0]) (.seq (.reg rQKX1 false [] [0, 4]) (.seq (.seq (.reg rQKX2 false [] [0, 4, 10, 11, 12]) (.blk 0 (.loop lQKX0))) (.seq (.reg rQKX9 false [] [4, 7]) (.seq (.blk 2 (.loop lQKX2)) (.seq (.reg rQKX24 false [] [2, 3]) .ret))))))
def qQK : AFn := ⟨79, 1, [.t 2, .t 3], cQK⟩
/- math/bits.Len -/
def rQLX0 : List O := [
 oo 2 <| .mv (ki 0)]
def rQLX1 : List O := [
 oo 3 <| .mv (.t 0),
 oo 4 <| .cvt .u32 (.t 3),
 oo 5 <| .call 51 [(.t 4)],
 oo 2 <| .mv (.t 5)]
def rQLX2 : List O := [
 oo 6 <| .mv (.t 0),
 oo 7 <| .call nQO [(.t 6)],
 oo 2 <| .mv (.t 7)]
def cQL : C := (.seq (.reg rQLX0 false [] [0]) (.seq (.cond (.k (.bool false)) (.seq (.reg rQLX1 false [] [2]) .ret) .skip) (.seq (.reg rQLX2 false [] [2]) .ret)))
def qQL : AFn := ⟨8, 1, [.t 2], cQL⟩
/- slices.SortFunc[[]cohesion/degree.need,cohesion/degree.need] -/
def rQMX0 : List O := [
 oo 5 <| .mv (.t 0),
 oo 6 <| .len (.t 5),
 oo 4 <| .mv (.t 6)]
def rQMX1 : List O := [
 oo 7 <| .mv (.t 0),
 oo 8 <| .mv (.t 4),
 oo 9 <| .mv (.t 4),
 oo 10 <| .cvt .u64 (.t 9),
 oo 11 <| .call nQL [(.t 10)],
 oo 12 <| .mv (.t 1),
 oo 13 <| .call nQP [(.t 7), (ki 0), (.t 8), (.t 11), (.t 12)]]
def cQM : C := (.seq (.reg rQMX0 false [] [0, 1, 4]) (.reg rQMX1 false [] []))
def qQM : AFn := ⟨14, 2, [], cQM⟩
/- cohesion/degree.most -/
def rQNX0 : List O := [
 oo 2 <| .box (.t 0),
 oo 3 <| .box (.t 1),
 oo 4 <| .mv (ki 0)]
def rQNX1 : List O := [
 oo 5 <| .fad 1 (.t 2),
 oo 6 <| .ld none (.t 5),
 oo 7 <| .fad 1 (.t 3),
 oo 8 <| .ld none (.t 7),
 oo 9 <| .bin .neq (.t 6) (.t 8)]
def rQNX2 : List O := [
 oo 10 <| .fad 1 (.t 3),
 oo 11 <| .ld none (.t 10),
 oo 12 <| .fad 1 (.t 2),
 oo 13 <| .ld none (.t 12),
 oo 14 <| .bin .sub (.t 11) (.t 13),
 oo 4 <| .mv (.t 14)]
def rQNX3 : List O := [
 oo 15 <| .fad 0 (.t 2),
 oo 16 <| .ld none (.t 15),
 oo 17 <| .fad 0 (.t 3),
 oo 18 <| .ld none (.t 17),
 oo 19 <| .bin .sub (.t 16) (.t 18),
 oo 4 <| .mv (.t 19)]
def cQN : C := (.seq (.reg rQNX0 false [] [2, 3]) (.seq (.seq (.reg rQNX1 false [] [2, 3, 9]) (.cond (.t 9) (.seq (.reg rQNX2 false [] [4]) .ret) .skip)) (.seq (.reg rQNX3 false [] [4]) .ret)))
def qQN : AFn := ⟨20, 2, [.t 4], cQN⟩
/- math/bits.Len64 -/
def rQOX0 : List O := [
 oo 2 <| .mv (ki 0)]
def rQOX1 : List O := [
 oo 3 <| .mv (.t 0),
 oo 4 <| .bin .geq (.t 3) (.k (.int .u64 4294967296))]
def rQOX2 : List O := [
 oo 5 <| .mv (.t 0),
 oo 6 <| .bin .shr (.t 5) (.k (.int .u64 32)),
 oo 0 <| .mv (.t 6)]
def rQOX3 : List O := [
 oo 2 <| .mv (ki 32)]
def rQOX4 : List O := [
 oo 7 <| .mv (.t 0),
 oo 8 <| .bin .geq (.t 7) (.k (.int .u64 65536))]
def rQOX5 : List O := [
 oo 9 <| .mv (.t 0),
 oo 10 <| .bin .shr (.t 9) (.k (.int .u64 16)),
 oo 0 <| .mv (.t 10)]
def rQOX6 : List O := [
 oo 11 <| .mv (.t 2),
 oo 12 <| .bin .add (.t 11) (ki 16),
 oo 2 <| .mv (.t 12)]
def rQOX7 : List O := [
 oo 13 <| .mv (.t 0),
 oo 14 <| .bin .geq (.t 13) (.k (.int .u64 256))]
def rQOX8 : List O := [
 oo 15 <| .mv (.t 0),
 oo 16 <| .bin .shr (.t 15) (.k (.int .u64 8)),
 oo 0 <| .mv (.t 16)]
def rQOX9 : List O := [
 oo 17 <| .mv (.t 2),
 oo 18 <| .bin .add (.t 17) (ki 8),
 oo 2 <| .mv (.t 18)]
def rQOX10 : List O := [
 oo 19 <| .mv (.t 2),
 oo 20 <| .mv (.t 0),
 oo 21 <| .cvt .u8 (.t 20),
 oo 22 <| .ixs [0, 1, 2, 2, 3, 3, 3, 3, 4, 4, 4, 4, 4, 4, 4, 4, 5, 5, 5, 5, 5, 5, 5, 5, 5, 5, 5, 5, 5, 5, 5, 5, 6, 6, 6, 6, 6, 6, 6, 6, 6, 6, 6, 6, 6, 6, 6, 6, 6, 6, 6, 6, 6, 6, 6, 6, 6, 6, 6, 6, 6, 6, 6, 6, 7, 7, 7, 7, 7, 7, 7, 7, 7, 7, 7, 7, 7, 7, 7, 7, 7, 7, 7, 7, 7, 7, 7, 7, 7, 7, 7, 7, 7, 7, 7, 7, 7, 7, 7, 7, 7, 7, 7, 7, 7, 7, 7, 7, 7, 7, 7, 7, 7, 7, 7, 7, 7, 7, 7, 7, 7, 7, 7, 7, 7, 7, 7, 7, 8, 8, 8, 8, 8, 8, 8, 8, 8, 8, 8, 8, 8, 8, 8, 8, 8, 8, 8, 8, 8, 8, 8, 8, 8, 8, 8, 8, 8, 8, 8, 8, 8, 8, 8, 8, 8, 8, 8, 8, 8, 8, 8, 8, 8, 8, 8, 8, 8, 8, 8, 8, 8, 8, 8, 8, 8, 8, 8, 8, 8, 8, 8, 8, 8, 8, 8, 8, 8, 8, 8, 8, 8, 8, 8, 8, 8, 8, 8, 8, 8, 8, 8, 8, 8, 8, 8, 8, 8, 8, 8, 8, 8, 8, 8, 8, 8, 8, 8, 8, 8, 8, 8, 8, 8, 8, 8, 8, 8, 8, 8, 8, 8, 8, 8, 8, 8, 8, 8, 8, 8, 8, 8, 8, 8, 8, 8, 8] (.t 21),
 oo 23 <| .cvt .i64 (.t 22),
 oo 24 <| .bin .add (.t 19) (.t 23),
 oo 2 <| .mv (.t 24)]
def cQO : C := (.seq (.reg rQOX0 false [] [0, 2]) (.seq (.seq (.reg rQOX1 false [] [0, 2, 4]) (.cond (.t 4) (.seq (.reg rQOX2 false [] [0]) (.reg rQOX3 false [] [0, 2])) .skip)) (.seq (.seq (.reg rQOX4 false [] [0, 2, 8]) (.cond (.t 8) (.seq (.reg rQOX5 false [] [0, 2]) (.reg rQOX6 false [] [0, 2])) .skip)) (.seq (.seq (.reg rQOX7 false [] [0, 2, 14]) (.cond (.t 14) (.seq (.reg rQOX8 false [] [0, 2]) (.reg rQOX9 false [] [0, 2])) .skip)) (.seq (.reg rQOX10 false [] [2]) .ret)))))
def qQO : AFn := ⟨25, 1, [.t 2], cQO⟩
/- slices.pdqsortCmpFunc[cohesion/degree.need] -/
def rQPX0 : List O := [
 oo 10 <| .mv (.k (.bool true))]
def rQPX1 : List O := [
 oo 11 <| .mv (.k (.bool true))]
def rQPX2 : List O := [
 oo 21 <| .mv (.t 2),
 oo 22 <| .mv (.t 1),
 oo 23 <| .bin .sub (.t 21) (.t 22),
 oo 12 <| .mv (.t 23)]
def rQPX3 : List O := [
 oo 24 <| .mv (.t 12),
 oo 25 <| .bin .leq (.t 24) (ki 12)]
def rQPX4 : List O := [
 oo 26 <| .mv (.t 0),
 oo 27 <| .mv (.t 1),
 oo 28 <| .mv (.t 2),
 oo 29 <| .mv (.t 4),
 oo 30 <| .call nQQ [(.t 26), (.t 27), (.t 28), (.t 29)]]
def rQPX5 : List O := [
 oo 31 <| .mv (.t 3),
 oo 32 <| .bin .eql (.t 31) (ki 0)]
def rQPX6 : List O := [
 oo 33 <| .mv (.t 0),
 oo 34 <| .mv (.t 1),
 oo 35 <| .mv (.t 2),
 oo 36 <| .mv (.t 4),
 oo 37 <| .call 62 [(.t 33), (.t 34), (.t 35), (.t 36)]]
def rQPX7 : List O := [
 oo 38 <| .mv (.t 10),
 oo 39 <| .un .not (.t 38)]
def rQPX8 : List O := [
 oo 40 <| .mv (.t 0),
 oo 41 <| .mv (.t 1),
 oo 42 <| .mv (.t 2),
 oo 43 <| .mv (.t 4),
 oo 44 <| .call 63 [(.t 40), (.t 41), (.t 42), (.t 43)]]
def rQPX9 : List O := [
 oo 45 <| .mv (.t 3),
 oo 46 <| .bin .sub (.t 45) (ki 1),
 oo 3 <| .mv (.t 46)]
def rQPX10 : List O := [
 oo 48 <| .mv (.t 0),
 oo 49 <| .mv (.t 1),
 oo 50 <| .mv (.t 2),
 oo 51 <| .mv (.t 4),
 oo 52 <| .call 64 [(.t 48), (.t 49), (.t 50), (.t 51)],
 oo 47 <| .mv (.t 52),
 oo 53 <| .ext 0 (.t 47),
 oo 54 <| .ext 1 (.t 47),
 oo 13 <| .mv (.t 53),
 oo 14 <| .mv (.t 54)]
def rQPX11 : List O := [
 oo 55 <| .mv (.t 14),
 oo 56 <| .bin .eql (.t 55) (ki 2)]
def rQPX12 : List O := [
 oo 57 <| .mv (.t 0),
 oo 58 <| .mv (.t 1),
 oo 59 <| .mv (.t 2),
 oo 60 <| .mv (.t 4),
 oo 61 <| .call 65 [(.t 57), (.t 58), (.t 59), (.t 60)]]
def rQPX13 : List O := [
 oo 62 <| .mv (.t 2),
 oo 63 <| .bin .sub (.t 62) (ki 1),
 oo 64 <| .mv (.t 13),
 oo 65 <| .mv (.t 1),
 oo 66 <| .bin .sub (.t 64) (.t 65),
 oo 67 <| .bin .sub (.t 63) (.t 66),
 oo 13 <| .mv (.t 67)]
def rQPX14 : List O := [
 oo 14 <| .mv (ki 1)]
def rQPX15 : List O := [
 oo 68 <| .mv (.t 10),
 oo 69 <| .mv (.t 68),
 ⟨(some 70), (some (69, true)), .mv (.t 11)⟩,
 oo 71 <| .pick (.t 69) (.t 70) (.k (.bool false)),
 oo 72 <| .mv (.t 71),
 ⟨(some 73), (some (72, true)), .mv (.t 14)⟩,
 ⟨(some 74), (some (72, true)), .bin .eql (.t 73) (ki 1)⟩,
 oo 75 <| .pick (.t 72) (.t 74) (.k (.bool false))]
def rQPX16 : List O := [
 oo 76 <| .mv (.t 0),
 oo 77 <| .mv (.t 1),
 oo 78 <| .mv (.t 2),
 oo 79 <| .mv (.t 4),
 oo 80 <| .call 66 [(.t 76), (.t 77), (.t 78), (.t 79)]]
def rQPX17 : List O := [
 oo 81 <| .mv (.t 1),
 oo 82 <| .bin .gtr (.t 81) (ki 0),
 oo 83 <| .mv (.t 82),
 ⟨(some 84), (some (83, true)), .mv (.t 4)⟩,
 ⟨(some 85), (some (83, true)), .mv (.t 0)⟩,
 ⟨(some 86), (some (83, true)), .mv (.t 1)⟩,
 ⟨(some 87), (some (83, true)), .bin .sub (.t 86) (ki 1)⟩,
 ⟨(some 88), (some (83, true)), .ixa 2 (.t 85) (.t 87)⟩,
 ⟨(some 89), (some (83, true)), .ld (some 2) (.t 88)⟩,
 ⟨(some 90), (some (83, true)), .mv (.t 0)⟩,
 ⟨(some 91), (some (83, true)), .mv (.t 13)⟩,
 ⟨(some 92), (some (83, true)), .ixa 2 (.t 90) (.t 91)⟩,
 ⟨(some 93), (some (83, true)), .ld (some 2) (.t 92)⟩,
 ⟨(some 94), (some (83, true)), .callv (.t 84) [(.t 89), (.t 93)]⟩,
 ⟨(some 95), (some (83, true)), .bin .lss (.t 94) (ki 0)⟩,
 ⟨(some 96), (some (83, true)), .un .not (.t 95)⟩,
 oo 97 <| .pick (.t 83) (.t 96) (.k (.bool false))]
def rQPX18 : List O := [
 oo 98 <| .mv (.t 0),
 oo 99 <| .mv (.t 1),
 oo 100 <| .mv (.t 2),
 oo 101 <| .mv (.t 13),
 oo 102 <| .mv (.t 4),
 oo 103 <| .call 67 [(.t 98), (.t 99), (.t 100), (.t 101), (.t 102)],
 oo 15 <| .mv (.t 103)]
def rQPX19 : List O := [
 oo 104 <| .mv (.t 15),
 oo 1 <| .mv (.t 104)]
def rQPX20 : List O := [
 oo 106 <| .mv (.t 0),
 oo 107 <| .mv (.t 1),
 oo 108 <| .mv (.t 2),
 oo 109 <| .mv (.t 13),
 oo 110 <| .mv (.t 4),
 oo 111 <| .call 68 [(.t 106), (.t 107), (.t 108), (.t 109), (.t 110)],
 oo 105 <| .mv (.t 111),
 oo 112 <| .ext 0 (.t 105),
 oo 113 <| .ext 1 (.t 105),
 oo 16 <| .mv (.t 112),
 oo 17 <| .mv (.t 113)]
def rQPX21 : List O := [
 oo 114 <| .mv (.t 17),
 oo 11 <| .mv (.t 114)]
def rQPX22 : List O := [
 oo 115 <| .mv (.t 16),
 oo 116 <| .mv (.t 1),
 oo 117 <| .bin .sub (.t 115) (.t 116),
 oo 118 <| .mv (.t 2),
 oo 119 <| .mv (.t 16),
 oo 120 <| .bin .sub (.t 118) (.t 119),
 oo 18 <| .mv (.t 117),
 oo 19 <| .mv (.t 120)]
def rQPX23 : List O := [
 oo 121 <| .mv (.t 12),
 oo 122 <| .bin .quo (.t 121) (ki 8),
 oo 20 <| .mv (.t 122)]
def rQPX24 : List O := [
 oo 123 <| .mv (.t 18),
 oo 124 <| .mv (.t 19),
 oo 125 <| .bin .lss (.t 123) (.t 124)]
def rQPX25 : List O := [
 oo 126 <| .mv (.t 18),
 oo 127 <| .mv (.t 20),
 oo 128 <| .bin .geq (.t 126) (.t 127),
 oo 10 <| .mv (.t 128)]
def rQPX26 : List O := [
 oo 129 <| .mv (.t 0),
 oo 130 <| .mv (.t 1),
 oo 131 <| .mv (.t 16),
 oo 132 <| .mv (.t 3),
 oo 133 <| .mv (.t 4),
 oo 134 <| .call nQP [(.t 129), (.t 130), (.t 131), (.t 132), (.t 133)]]
def rQPX27 : List O := [
 oo 135 <| .mv (.t 16),
 oo 136 <| .bin .add (.t 135) (ki 1),
 oo 1 <| .mv (.t 136)]
def rQPX28 : List O := [
 oo 137 <| .mv (.t 19),
 oo 138 <| .mv (.t 20),
 oo 139 <| .bin .geq (.t 137) (.t 138),
 oo 10 <| .mv (.t 139)]
def rQPX29 : List O := [
 oo 140 <| .mv (.t 0),
 oo 141 <| .mv (.t 16),
 oo 142 <| .bin .add (.t 141) (ki 1),
 oo 143 <| .mv (.t 2),
 oo 144 <| .mv (.t 3),
 oo 145 <| .mv (.t 4),
 oo 146 <| .call nQP [(.t 140), (.t 142), (.t 143), (.t 144), (.t 145)]]
def rQPX30 : List O := [
 oo 147 <| .mv (.t 16),
 oo 2 <| .mv (.t 147)]
def lQPX0 : C := (.blk 1 (.seq (.reg rQPX2 false [] [0, 1, 2, 3, 4, 10, 11, 12]) (.seq (.seq (.reg rQPX3 false [] [0, 1, 2, 3, 4, 10, 11, 12, 25]) (.cond (.t 25) (.seq (.reg rQPX4 false [] []) .ret) .skip)) (.seq (.seq (.reg rQPX5 false [] [0, 1, 2, 3, 4, 10, 11, 12, 32]) (.cond (.t 32) (.seq (.reg rQPX6 false [] []) .ret) .skip)) (.seq (.seq (.reg rQPX7 false [] [0, 1, 2, 3, 4, 10, 11, 12, 39]) (.cond (.t 39) (.seq (.reg rQPX8 false [] [0, 1, 2, 3, 4, 10, 11, 12]) (.reg rQPX9 false [] [0, 1, 2, 3, 4, 10, 11, 12])) .skip)) (.seq (.reg rQPX10 false [] [0, 1, 2, 3, 4, 10, 11, 12, 13, 14]) (.seq (.seq (.reg rQPX11 false [] [0, 1, 2, 3, 4, 10, 11, 12, 13, 14, 56]) (.cond (.t 56) (.seq (.reg rQPX12 false [] [0, 1, 2, 3, 4, 10, 11, 12, 13]) (.seq (.reg rQPX13 false [] [0, 1, 2, 3, 4, 10, 11, 12, 13]) (.reg rQPX14 false [] [0, 1, 2, 3, 4, 10, 11, 12, 13, 14]))) .skip)) (.seq (.seq (.reg rQPX15 false [] [0, 1, 2, 3, 4, 10, 11, 12, 13, 75]) (.cond (.t 75) (.seq (.reg rQPX16 false [] [0, 1, 2, 3, 4, 10, 11, 12, 13, 80]) (.cond (.t 80) .ret .skip)) .skip)) (.seq (.seq (.reg rQPX17 true [(8, 12)] [0, 1, 2, 3, 4, 10, 11, 12, 13, 97]) (.cond (.t 97) (.seq (.reg rQPX18 false [] [0, 2, 3, 4, 10, 11, 15]) (.seq (.reg rQPX19 false [] [0, 1, 2, 3, 4, 10, 11]) (.exit 1))) .skip)) (.seq (.reg rQPX20 false [] [0, 1, 2, 3, 4, 12, 16, 17]) (.seq (.reg rQPX21 false [] [0, 1, 2, 3, 4, 11, 12, 16]) (.seq (.reg rQPX22 false [] [0, 1, 2, 3, 4, 11, 12, 16, 18, 19]) (.seq (.reg rQPX23 false [] [0, 1, 2, 3, 4, 11, 16, 18, 19, 20]) (.seq (.reg rQPX24 false [] [0, 1, 2, 3, 4, 11, 16, 18, 19, 20, 125]) (.cond (.t 125) (.seq (.reg rQPX25 false [] [0, 1, 2, 3, 4, 10, 11, 16]) (.seq (.reg rQPX26 false [] [0, 2, 3, 4, 10, 11, 16]) (.reg rQPX27 false [] [0, 1, 2, 3, 4, 10, 11]))) (.seq (.reg rQPX28 false [] [0, 1, 2, 3, 4, 10, 11, 16]) (.seq (.reg rQPX29 false [] [0, 1, 3, 4, 10, 11, 16]) (.reg rQPX30 false [] [0, 1, 2, 3, 4, 10, 11]))))))))))))))))))
def cQP : C := (.seq (.reg rQPX0 false [] [0, 1, 2, 3, 4, 10]) (.seq (.reg rQPX1 false [] [0, 1, 2, 3, 4, 10, 11]) (.blk 0 (.loop lQPX0))))
def qQP : AFn := ⟨148, 5, [], cQP⟩
/- slices.insertionSortCmpFunc[cohesion/degree.need] -/
def rQQX0 : List O := [
 oo 10 <| .mv (.t 1),
 oo 11 <| .bin .add (.t 10) (ki 1),
 oo 8 <| .mv (.t 11)]
def rQQX1 : List O := [
 oo 12 <| .mv (.t 8),
 oo 13 <| .mv (.t 2),
 oo 14 <| .bin .lss (.t 12) (.t 13)]
def rQQX2 : List O := [
 oo 17 <| .mv (.t 8),
 oo 9 <| .mv (.t 17)]
def rQQX3 : List O := [
 oo 18 <| .mv (.t 9),
 oo 19 <| .mv (.t 1),
 oo 20 <| .bin .gtr (.t 18) (.t 19),
 oo 21 <| .mv (.t 20),
 ⟨(some 22), (some (21, true)), .mv (.t 3)⟩,
 ⟨(some 23), (some (21, true)), .mv (.t 0)⟩,
 ⟨(some 24), (some (21, true)), .mv (.t 9)⟩,
 ⟨(some 25), (some (21, true)), .ixa 2 (.t 23) (.t 24)⟩,
 ⟨(some 26), (some (21, true)), .ld (some 2) (.t 25)⟩,
 ⟨(some 27), (some (21, true)), .mv (.t 0)⟩,
 ⟨(some 28), (some (21, true)), .mv (.t 9)⟩,
 ⟨(some 29), (some (21, true)), .bin .sub (.t 28) (ki 1)⟩,
 ⟨(some 30), (some (21, true)), .ixa 2 (.t 27) (.t 29)⟩,
 ⟨(some 31), (some (21, true)), .ld (some 2) (.t 30)⟩,
 ⟨(some 32), (some (21, true)), .callv (.t 22) [(.t 26), (.t 31)]⟩,
 ⟨(some 33), (some (21, true)), .bin .lss (.t 32) (ki 0)⟩,
 oo 34 <| .pick (.t 21) (.t 33) (.k (.bool false))]
def rQQX4 : List O := [
 oo 37 <| .mv (.t 0),
 oo 38 <| .mv (.t 9),
 oo 39 <| .mv (.t 0),
 oo 40 <| .mv (.t 9),
 oo 41 <| .bin .sub (.t 40) (ki 1),
 oo 42 <| .mv (.t 0),
 oo 43 <| .mv (.t 9),
 oo 44 <| .bin .sub (.t 43) (ki 1),
 oo 45 <| .ixa 2 (.t 42) (.t 44),
 oo 46 <| .ld (some 2) (.t 45),
 oo 47 <| .mv (.t 0),
 oo 48 <| .mv (.t 9),
 oo 49 <| .ixa 2 (.t 47) (.t 48),
 oo 50 <| .ld (some 2) (.t 49),
 oo 51 <| .ixa 2 (.t 37) (.t 38),
 oz <| .st 2 (.t 51) (.t 46),
 oo 52 <| .ixa 2 (.t 39) (.t 41),
 oz <| .st 2 (.t 52) (.t 50)]
def rQQX5 : List O := [
 oo 35 <| .mv (.t 9),
 oo 36 <| .bin .sub (.t 35) (ki 1),
 oo 9 <| .mv (.t 36)]
def lQQX0 : C := (.seq (.seq (.reg rQQX3 true [(8, 13)] [0, 1, 2, 3, 8, 9, 34]) (.cond (.t 34) .skip (.exit 2))) (.seq (.blk 3 (.reg rQQX4 true [(9, 13)] [0, 1, 2, 3, 8, 9])) (.reg rQQX5 false [] [0, 1, 2, 3, 8, 9])))
def rQQX6 : List O := [
 oo 15 <| .mv (.t 8),
 oo 16 <| .bin .add (.t 15) (ki 1),
 oo 8 <| .mv (.t 16)]
def lQQX1 : C := (.seq (.seq (.reg rQQX1 false [] [0, 1, 2, 3, 8, 14]) (.cond (.t 14) .skip (.exit 0))) (.seq (.blk 1 (.seq (.reg rQQX2 false [] [0, 1, 2, 3, 8, 9]) (.blk 2 (.loop lQQX0)))) (.reg rQQX6 false [] [0, 1, 2, 3, 8])))
def cQQ : C := (.seq (.reg rQQX0 false [] [0, 1, 2, 3, 8]) (.blk 0 (.loop lQQX1)))
def qQQ : AFn := ⟨53, 4, [], cQQ⟩
def look : List (Nat × Md × AFn) -> Nat -> Option (Md × AFn)
 | [], _ => none
 | (j, m, q) :: r, i => if i = j then some (m, q) else look r i
def fns : List (Nat × Md × AFn) := [
 (nQn, .P, qQn),
 (nQK, .P, qQK),
 (nQL, .P, qQL),
 (nQM, .K, qQM),
 (nQN, .P, qQN),
 (nQO, .P, qQO),
 (nQP, .K, qQP),
 (nQQ, .K, qQQ)]
def cfg : Cfg := ⟨look fns, fun _ => [], fun _ => none⟩
theorem kQn : chkF Go.Proofs.Try.prog Go.Proofs.Try.f16 qQn = true := by kernel_rfl
theorem kQK : chkF Go.Proofs.Try.prog Go.Proofs.Try.f29 qQK = true := by kernel_rfl
theorem kQL : chkF Go.Proofs.Try.prog Go.Proofs.Try.f36 qQL = true := by kernel_rfl
theorem kQM : chkF Go.Proofs.Try.prog Go.Proofs.Try.f37 qQM = true := by kernel_rfl
theorem kQN : chkF Go.Proofs.Try.prog Go.Proofs.Try.f38 qQN = true := by kernel_rfl
theorem kQO : chkF Go.Proofs.Try.prog Go.Proofs.Try.f52 qQO = true := by kernel_rfl
theorem kQP : chkF Go.Proofs.Try.prog Go.Proofs.Try.f53 qQP = true := by kernel_rfl
theorem kQQ : chkF Go.Proofs.Try.prog Go.Proofs.Try.f61 qQQ = true := by kernel_rfl
theorem look_mem : ∀ {l : List (Nat × Md × AFn)} {f : Nat} {m : Md} {q : AFn}, look l f = some (m, q) -> (f, m, q) ∈ l
 | [], f, m, q, h => by simp [look] at h
 | (j, m', q') :: r, f, m, q, h => by
   unfold look at h
   split at h
   ·rename_i he; subst he; simp at h; obtain ⟨rfl, rfl⟩ := h; simp
   ·exact List.mem_cons_of_mem _ (look_mem h)
def Good (p : Nat × Md × AFn) : Prop := ∃ fn, Go.Proofs.Try.prog.funcs[p.1]? = some fn /\ chkF Go.Proofs.Try.prog fn p.2.2 = true
def All (G : Nat × Md × AFn -> Prop) : List (Nat × Md × AFn) -> Prop
 | [] => True
 | p :: r => G p /\ All G r
theorem All.get {G : Nat × Md × AFn -> Prop} : ∀ {l : List (Nat × Md × AFn)}, All G l -> ∀ p ∈ l, G p
 | [], _, p, h => by simp at h
 | q :: r, h, p, hp => by
   rcases List.mem_cons.1 hp with e | e
   ·subst e; exact h.1
   ·exact All.get h.2 p e
theorem allGood : All Good fns := ⟨⟨_, Go.Proofs.Try.func16, kQn⟩, ⟨_, Go.Proofs.Try.func29, kQK⟩, ⟨_, Go.Proofs.Try.func36, kQL⟩, ⟨_, Go.Proofs.Try.func37, kQM⟩, ⟨_, Go.Proofs.Try.func38, kQN⟩, ⟨_, Go.Proofs.Try.func52, kQO⟩, ⟨_, Go.Proofs.Try.func53, kQP⟩, ⟨_, Go.Proofs.Try.func61, kQQ⟩, trivial⟩
theorem cfgOK : CfgOK Go.Proofs.Try.prog cfg := ⟨by kernel_rfl, fun f m q h => allGood.get _ (look_mem h)⟩
theorem orcOK : OrcOK Go.Proofs.Try.prog cfg := fun f g h => by cases h
theorem gQn : cfg.fn nQn = some (.P, qQn) := rfl
end Go.AmP
