/- The compact code of the functions, printed by program off the translation. -/
import Derived.Test.YtoobjomjclombaaDoorChecked
import Derived.Test.YtoobjomjclombaaDoorMa
import Derived.KernelRfl
set_option maxRecDepth 100000
namespace Go.AmP
open Go.Am
abbrev oo (d : Nat) (x : Kd) : O := ⟨some d,none,x⟩
abbrev oz (x : Kd) : O := ⟨none,none,x⟩
abbrev ki (n : Nat) : E := .k (.int .i64 n)
def nQU : Nat := 14
def nQi : Nat := 17
def nQj : Nat := 19
def nQr : Nat := 29
def nQt : Nat := 31
def nQV : Nat := 32
def nQW : Nat := 33
def nQX : Nat := 34
def nQY : Nat := 35
def nQZ : Nat := 36
def nQ0 : Nat := 37
def nQ1 : Nat := 39
def nQ2 : Nat := 40
def nQ3 : Nat := 45
def nQ4 : Nat := 46
def nQ5 : Nat := 47
def nQ6 : Nat := 48
def nQA : Nat := 51
def nQ7 : Nat := 56
def nQF : Nat := 57
def nQ8 : Nat := 58
def nQ9 : Nat := 59
def nQa0 : Nat := 60
def nQa1 : Nat := 61
def nQa2 : Nat := 62
def nQa3 : Nat := 64
def nQa4 : Nat := 65
def nQI : Nat := 67
def nQa5 : Nat := 73
def nQO : Nat := 74
def nQP : Nat := 75
def nQa6 : Nat := 76
def nQa7 : Nat := 77
def nQa8 : Nat := 78
def nQa9 : Nat := 79
def nQb0 : Nat := 80
def nQb1 : Nat := 81
def nQb2 : Nat := 82
def nQb3 : Nat := 83
def nQb4 : Nat := 84
def nQS : Nat := 87
def nQb5 : Nat := 88
def nQb6 : Nat := 89
def nQb7 : Nat := 90
def nQb8 : Nat := 91
def nQb9 : Nat := 92
def nQc0 : Nat := 93
def nQc1 : Nat := 99
def nQc2 : Nat := 102
def nQc3 : Nat := 103
/- cohesion/maxclique.Colour -/
def rQUX0 : List O := [
 oo 2 <| .box (.t 0),
 oo 4 <| .mv (.k .nils),
 oo 5 <| .mv (ki 0)]
def rQUX1 : List O := [
 oo 13 <| .ld (some 2) (.t 2),
 oo 14 <| .call nQt [(.t 13)],
 oo 6 <| .mv (.t 14)]
def rQUX2 : List O := [
 oo 15 <| .mv (.t 6),
 oo 16 <| .bin .neq (.t 15) (ki 0)]
def rQUX3 : List O := [
 oo 17 <| .mv (.t 6),
 oo 4 <| .mv (.k .nils),
 oo 5 <| .mv (.t 17)]
def rQUX4 : List O := [
 oo 18 <| .mv (.t 1),
 oo 19 <| .len (.t 18),
 oo 20 <| .fad 0 (.t 2),
 oo 21 <| .ld none (.t 20),
 oo 22 <| .bin .neq (.t 19) (.t 21),
 oo 23 <| .mv (.t 22),
 ⟨(some 24),(some (23,false)),.mv (.t 1)⟩,
 ⟨(some 25),(some (23,false)),.call nQW [(.t 24)]⟩,
 ⟨(some 26),(some (23,false)),.fad 0 (.t 2)⟩,
 ⟨(some 27),(some (23,false)),.ld none (.t 26)⟩,
 ⟨(some 28),(some (23,false)),.call nQX [(.t 27)]⟩,
 ⟨(some 29),(some (23,false)),.call nQV [(.t 25),(.t 28)]⟩,
 ⟨(some 30),(some (23,false)),.un .not (.t 29)⟩,
 oo 31 <| .pick (.t 23) (.k (.bool true)) (.t 30)]
def rQUX5 : List O := [
 oo 4 <| .mv (.k .nils),
 oo 5 <| .mv (ki 4)]
def rQUX6 : List O := [
 oo 32 <| .bslice 1 1 [(.int .i64 0)] [(0,1,(.k (.int .i64 (-1))))],
 oo 33 <| .fad 0 (.t 2),
 oo 34 <| .ld none (.t 33),
 oo 35 <| .call nQY [(.t 32),(.t 34)],
 oo 7 <| .mv (.t 35)]
def rQUX7 : List O := [
 oo 36 <| .mv (.t 1),
 oo 37 <| .len (.t 36),
 oo 38 <| .mv (ki 0)]
def rQUX8 : List O := [
 oo 39 <| .bin .lss (.t 38) (.t 37)]
def rQUX9 : List O := [
 oo 40 <| .ixa 1 (.t 36) (.t 38),
 oo 41 <| .ld none (.t 40),
 oo 9 <| .mv (.t 41)]
def rQUX10 : List O := [
 oo 10 <| .new [(.bool false),(.bool false),(.bool false),(.bool false),(.bool false),(.bool false),(.bool false),(.bool false),(.bool false),(.bool false),(.bool false),(.bool false),(.bool false),(.bool false),(.bool false),(.bool false),(.bool false),(.bool false),(.bool false),(.bool false),(.bool false),(.bool false),(.bool false),(.bool false),(.bool false),(.bool false),(.bool false),(.bool false),(.bool false),(.bool false),(.bool false),(.bool false),(.bool false),(.bool false),(.bool false),(.bool false),(.bool false),(.bool false),(.bool false),(.bool false),(.bool false),(.bool false),(.bool false),(.bool false),(.bool false),(.bool false),(.bool false),(.bool false),(.bool false),(.bool false),(.bool false),(.bool false),(.bool false),(.bool false),(.bool false),(.bool false),(.bool false),(.bool false),(.bool false),(.bool false),(.bool false),(.bool false),(.bool false),(.bool false),(.bool false)]]
def rQUX11 : List O := [
 oo 42 <| .ld (some 2) (.t 2),
 oo 43 <| .mv (.t 9),
 oo 44 <| .call nQZ [(.t 42),(.t 43)],
 oo 45 <| .len (.t 44),
 oo 46 <| .mv (ki 0)]
def rQUX12 : List O := [
 oo 47 <| .bin .lss (.t 46) (.t 45)]
def rQUX13 : List O := [
 oo 48 <| .ixa 1 (.t 44) (.t 46),
 oo 49 <| .ld none (.t 48),
 oo 12 <| .mv (.t 49)]
def rQUX14 : List O := [
 oo 50 <| .mv (.t 7),
 oo 51 <| .mv (.t 12),
 oo 52 <| .ixa 1 (.t 50) (.t 51),
 oo 53 <| .ld none (.t 52),
 oo 54 <| .bin .geq (.t 53) (ki 0)]
def rQUX15 : List O := [
 oo 55 <| .mv (.t 7),
 oo 56 <| .mv (.t 12),
 oo 57 <| .ixa 1 (.t 55) (.t 56),
 oo 58 <| .ld none (.t 57),
 oo 59 <| .ixp 65 1 (.t 10) (.t 58),
 oz <| .st 1 (.t 59) (.k (.bool true))]
def rQUX16 : List O := [
 oo 60 <| .bin .add (.t 46) (ki 1),
 oo 46 <| .mv (.t 60)]
def lQUX0 : C := (.seq (.reg rQUX12 false [] [2,7,9,10,36,37,38,44,45,46,47]) (.seq (.cond (.t 47) .skip (.exit 2)) (.seq (.blk 3 (.seq (.reg rQUX13 false [] [2,7,9,10,12,36,37,38,44,45,46]) (.seq (.reg rQUX14 false [] [2,7,9,10,12,36,37,38,44,45,46,54]) (.cond (.t 54) (.reg rQUX15 false [] [2,7,9,10,36,37,38,44,45,46]) .skip)))) (.reg rQUX16 false [] [2,7,9,10,36,37,38,44,45,46]))))
def rQUX17 : List O := [
 oo 61 <| .mv (.t 7),
 oo 62 <| .mv (.t 9),
 oo 63 <| .asl 65 (.t 10) none,
 oo 64 <| .call nQ0 [(.t 63),(.k (.bool false))],
 oo 65 <| .ixa 1 (.t 61) (.t 62),
 oz <| .st 1 (.t 65) (.t 64)]
def rQUX18 : List O := [
 oo 66 <| .bin .add (.t 38) (ki 1),
 oo 38 <| .mv (.t 66)]
def lQUX1 : C := (.seq (.reg rQUX8 false [] [2,7,36,37,38,39]) (.seq (.cond (.t 39) .skip (.exit 0)) (.seq (.blk 1 (.seq (.reg rQUX9 false [] [2,7,9,36,37,38]) (.seq (.reg rQUX10 false [] [2,7,9,10,36,37,38]) (.seq (.seq (.reg rQUX11 false [] [2,7,9,10,36,37,38,44,45,46]) (.blk 2 (.loop lQUX0))) (.reg rQUX17 false [] [2,7,36,37,38]))))) (.reg rQUX18 false [] [2,7,36,37,38]))))
def rQUX19 : List O := [
 oo 67 <| .mv (.t 7),
 oo 4 <| .mv (.t 67),
 oo 5 <| .mv (ki 0)]
def cQU : C := (.seq (.reg rQUX0 false [] [1,2]) (.seq (.seq (.reg rQUX1 false [] [1,2,6]) (.seq (.reg rQUX2 false [] [1,2,6,16]) (.cond (.t 16) (.seq (.reg rQUX3 false [] [4,5]) .ret) .skip))) (.seq (.seq (.reg rQUX4 true [(7,9)] [1,2,31]) (.cond (.t 31) (.seq (.reg rQUX5 false [] [4,5]) .ret) .skip)) (.seq (.reg rQUX6 false [] [1,2,7]) (.seq (.seq (.reg rQUX7 false [] [2,7,36,37,38]) (.blk 0 (.loop lQUX1))) (.seq (.reg rQUX19 false [] [4,5]) .ret))))))
def qQU : AFn := ⟨68,2,[.t 4,.t 5],cQU⟩
/- cohesion/maxclique.Colours -/
def rQiX0 : List O := [
 oo 1 <| .box (.t 0),
 oo 2 <| .mv (.k .nils),
 oo 3 <| .mv (ki 0)]
def rQiX1 : List O := [
 oo 7 <| .ld (some 2) (.t 1),
 oo 8 <| .call nQ1 [(.t 7)],
 oo 6 <| .mv (.t 8),
 oo 9 <| .ext 0 (.t 6),
 oo 10 <| .ext 1 (.t 6),
 oo 4 <| .mv (.t 9),
 oo 5 <| .mv (.t 10)]
def rQiX2 : List O := [
 oo 11 <| .mv (.t 5),
 oo 12 <| .bin .neq (.t 11) (ki 0)]
def rQiX3 : List O := [
 oo 13 <| .mv (.t 5),
 oo 2 <| .mv (.k .nils),
 oo 3 <| .mv (.t 13)]
def rQiX4 : List O := [
 oo 14 <| .mv (.t 4),
 oo 15 <| .call nQ2 [(.t 14)]]
def rQiX5 : List O := [
 oo 16 <| .ld (some 2) (.t 1),
 oo 17 <| .mv (.t 4),
 oo 18 <| .call nQU [(.t 16),(.t 17)],
 oo 19 <| .ext 0 (.t 18),
 oo 20 <| .ext 1 (.t 18),
 oo 2 <| .mv (.t 19),
 oo 3 <| .mv (.t 20)]
def cQi : C := (.seq (.reg rQiX0 false [] [1]) (.seq (.reg rQiX1 false [] [1,4,5]) (.seq (.seq (.reg rQiX2 false [] [1,4,5,12]) (.cond (.t 12) (.seq (.reg rQiX3 false [] [2,3]) .ret) .skip)) (.seq (.reg rQiX4 false [] [1,4]) (.seq (.reg rQiX5 false [] [2,3]) .ret)))))
def qQi : AFn := ⟨21,1,[.t 2,.t 3],cQi⟩
/- cohesion/maxclique.Proper -/
def rQjX0 : List O := [
 oo 2 <| .box (.t 0),
 oo 3 <| .box (.t 1),
 oo 4 <| .mv (.k (.bool false))]
def rQjX1 : List O := [
 oo 5 <| .ld (some 2) (.t 2),
 oo 6 <| .call nQt [(.t 5)],
 oo 7 <| .bin .neq (.t 6) (ki 0),
 oo 8 <| .mv (.t 7),
 ⟨(some 9),(some (8,false)),.ld none (.t 3)⟩,
 ⟨(some 10),(some (8,false)),.len (.t 9)⟩,
 ⟨(some 11),(some (8,false)),.fad 0 (.t 2)⟩,
 ⟨(some 12),(some (8,false)),.ld none (.t 11)⟩,
 ⟨(some 13),(some (8,false)),.bin .neq (.t 10) (.t 12)⟩,
 oo 14 <| .pick (.t 8) (.k (.bool true)) (.t 13),
 oo 15 <| .mv (.t 14),
 ⟨(some 16),(some (15,false)),.ld none (.t 3)⟩,
 ⟨(some 17),(some (15,false)),.call nQ3 [(.t 16),(.k (.func (.func nQ4) [] []))]⟩,
 oo 18 <| .pick (.t 15) (.k (.bool true)) (.t 17)]
def rQjX2 : List O := [
 oo 4 <| .mv (.k (.bool false))]
def rQjX3 : List O := [
 oo 19 <| .fad 1 (.t 2),
 oo 20 <| .ld none (.t 19),
 oo 21 <| .mkf (.func nQ6) [] [(.t 3)],
 oo 22 <| .call nQ5 [(.t 20),(.t 21)],
 oo 23 <| .un .not (.t 22),
 oo 4 <| .mv (.t 23)]
def cQj : C := (.seq (.reg rQjX0 false [] [2,3]) (.seq (.seq (.reg rQjX1 false [] [2,3,18]) (.cond (.t 18) (.seq (.reg rQjX2 false [] [4]) .ret) .skip)) (.seq (.reg rQjX3 false [] [4]) .ret)))
def qQj : AFn := ⟨24,2,[.t 4],cQj⟩
/- cohesion/maxclique.Bound -/
def rQrX0 : List O := [
 oo 1 <| .box (.t 0),
 oo 2 <| .mv (ki 0),
 oo 3 <| .mv (ki 0)]
def rQrX1 : List O := [
 oo 8 <| .ld (some 2) (.t 1),
 oo 9 <| .call nQi [(.t 8)],
 oo 7 <| .mv (.t 9),
 oo 10 <| .ext 0 (.t 7),
 oo 11 <| .ext 1 (.t 7),
 oo 4 <| .mv (.t 10),
 oo 5 <| .mv (.t 11)]
def rQrX2 : List O := [
 oo 12 <| .mv (.t 5),
 oo 13 <| .bin .neq (.t 12) (ki 0),
 oo 14 <| .mv (.t 13),
 ⟨(some 15),(some (14,false)),.fad 0 (.t 1)⟩,
 ⟨(some 16),(some (14,false)),.ld none (.t 15)⟩,
 ⟨(some 17),(some (14,false)),.bin .eql (.t 16) (ki 0)⟩,
 oo 18 <| .pick (.t 14) (.k (.bool true)) (.t 17)]
def rQrX3 : List O := [
 oo 19 <| .mv (.t 5),
 oo 2 <| .mv (ki 0),
 oo 3 <| .mv (.t 19)]
def rQrX4 : List O := [
 oo 21 <| .ld (some 2) (.t 1),
 oo 22 <| .call nQ7 [(.t 21)],
 oo 20 <| .mv (.t 22),
 oo 23 <| .ext 0 (.t 20),
 oo 24 <| .ext 1 (.t 20),
 oo 6 <| .mv (.t 23),
 oo 5 <| .mv (.t 24)]
def rQrX5 : List O := [
 oo 25 <| .mv (.t 5),
 oo 26 <| .bin .neq (.t 25) (ki 0)]
def rQrX6 : List O := [
 oo 27 <| .mv (.t 5),
 oo 2 <| .mv (ki 0),
 oo 3 <| .mv (.t 27)]
def rQrX7 : List O := [
 oo 28 <| .mv (.t 4),
 oo 29 <| .call nQW [(.t 28)],
 oo 30 <| .len (.t 29),
 oo 31 <| .mv (.t 6),
 oo 32 <| .bin .add (.t 31) (ki 1),
 oo 33 <| .min [(.t 30),(.t 32)],
 oo 2 <| .mv (.t 33),
 oo 3 <| .mv (ki 0)]
def cQr : C := (.seq (.reg rQrX0 false [] [1]) (.seq (.reg rQrX1 false [] [1,4,5]) (.seq (.seq (.reg rQrX2 false [] [1,4,5,18]) (.cond (.t 18) (.seq (.reg rQrX3 false [] [2,3]) .ret) .skip)) (.seq (.reg rQrX4 false [] [4,5,6]) (.seq (.seq (.reg rQrX5 false [] [4,5,6,26]) (.cond (.t 26) (.seq (.reg rQrX6 false [] [2,3]) .ret) .skip)) (.seq (.reg rQrX7 false [] [2,3]) .ret))))))
def qQr : AFn := ⟨34,1,[.t 2,.t 3],cQr⟩
/- cohesion/graph.Check -/
def rQtX0 : List O := [
 oo 1 <| .box (.t 0),
 oo 2 <| .mv (ki 0)]
def rQtX1 : List O := [
 oo 5 <| .fad 0 (.t 1),
 oo 6 <| .ld none (.t 5),
 oo 7 <| .bin .lss (.t 6) (ki 0),
 oo 8 <| .mv (.t 7),
 ⟨(some 9),(some (8,false)),.fad 0 (.t 1)⟩,
 ⟨(some 10),(some (8,false)),.ld none (.t 9)⟩,
 ⟨(some 11),(some (8,false)),.bin .gtr (.t 10) (ki 64)⟩,
 oo 12 <| .pick (.t 8) (.k (.bool true)) (.t 11)]
def rQtX2 : List O := [
 oo 2 <| .mv (ki 1)]
def rQtX3 : List O := [
 oo 13 <| .fad 1 (.t 1),
 oo 14 <| .ld none (.t 13),
 oo 15 <| .len (.t 14),
 oo 16 <| .mv (ki 0)]
def rQtX4 : List O := [
 oo 17 <| .bin .lss (.t 16) (.t 15)]
def rQtX5 : List O := [
 oo 18 <| .mv (.t 16),
 oo 19 <| .ixa 2 (.t 14) (.t 16),
 oo 20 <| .ld (some 2) (.t 19),
 oo 4 <| .new [(.int .i64 0),(.int .i64 0)],
 oo 3 <| .mv (.t 18),
 oz <| .st 2 (.t 4) (.t 20)]
def rQtX6 : List O := [
 oo 22 <| .fad 0 (.t 4),
 oo 23 <| .ld none (.t 22),
 oo 24 <| .bin .lss (.t 23) (ki 0),
 oo 25 <| .mv (.t 24),
 ⟨(some 26),(some (25,false)),.fad 0 (.t 4)⟩,
 ⟨(some 27),(some (25,false)),.ld none (.t 26)⟩,
 ⟨(some 28),(some (25,false)),.fad 1 (.t 4)⟩,
 ⟨(some 29),(some (25,false)),.ld none (.t 28)⟩,
 ⟨(some 30),(some (25,false)),.bin .geq (.t 27) (.t 29)⟩,
 oo 31 <| .pick (.t 25) (.k (.bool true)) (.t 30),
 oo 32 <| .mv (.t 31),
 ⟨(some 33),(some (32,false)),.fad 1 (.t 4)⟩,
 ⟨(some 34),(some (32,false)),.ld none (.t 33)⟩,
 ⟨(some 35),(some (32,false)),.fad 0 (.t 1)⟩,
 ⟨(some 36),(some (32,false)),.ld none (.t 35)⟩,
 ⟨(some 37),(some (32,false)),.bin .geq (.t 34) (.t 36)⟩,
 oo 38 <| .pick (.t 32) (.k (.bool true)) (.t 37),
 oo 21 <| .mv (.t 38)]
def rQtX7 : List O := [
 oo 2 <| .mv (ki 6)]
def rQtX8 : List O := [
 oo 40 <| .mv (.t 3),
 oo 41 <| .bin .gtr (.t 40) (ki 0),
 oo 42 <| .mv (.t 41),
 ⟨(some 43),(some (42,true)),.fad 1 (.t 1)⟩,
 ⟨(some 44),(some (42,true)),.ld none (.t 43)⟩,
 ⟨(some 45),(some (42,true)),.mv (.t 3)⟩,
 ⟨(some 46),(some (42,true)),.bin .sub (.t 45) (ki 1)⟩,
 ⟨(some 47),(some (42,true)),.ixa 2 (.t 44) (.t 46)⟩,
 ⟨(some 48),(some (42,true)),.ld (some 2) (.t 47)⟩,
 ⟨(some 49),(some (42,true)),.ld (some 2) (.t 4)⟩,
 ⟨(some 50),(some (42,true)),.call nQF [(.t 48),(.t 49)]⟩,
 ⟨(some 51),(some (42,true)),.bin .geq (.t 50) (ki 0)⟩,
 oo 52 <| .pick (.t 42) (.t 51) (.k (.bool false)),
 oo 39 <| .mv (.t 52)]
def rQtX9 : List O := [
 oo 2 <| .mv (ki 5)]
def rQtX10 : List O := [
 oo 53 <| .bin .add (.t 16) (ki 1),
 oo 16 <| .mv (.t 53)]
def lQtX0 : C := (.seq (.reg rQtX4 false [] [1,14,15,16,17]) (.seq (.cond (.t 17) .skip (.exit 0)) (.seq (.blk 1 (.seq (.reg rQtX5 false [] [1,3,4,14,15,16]) (.blk 2 (.seq (.reg rQtX6 false [] [1,3,4,14,15,16,21]) (.cond (.t 21) (.seq (.reg rQtX7 false [] [2]) .ret) (.seq (.reg rQtX8 true [(4,9),(8,9)] [1,14,15,16,39]) (.cond (.t 39) (.seq (.reg rQtX9 false [] [2]) .ret) .skip))))))) (.reg rQtX10 false [] [1,14,15,16]))))
def rQtX11 : List O := [
 oo 2 <| .mv (ki 0)]
def cQt : C := (.seq (.reg rQtX0 false [] [1]) (.seq (.seq (.reg rQtX1 false [] [1,12]) (.cond (.t 12) (.seq (.reg rQtX2 false [] [2]) .ret) .skip)) (.seq (.seq (.reg rQtX3 false [] [1,14,15,16]) (.blk 0 (.loop lQtX0))) (.seq (.reg rQtX11 false [] [2]) .ret))))
def qQt : AFn := ⟨54,1,[.t 2],cQt⟩
/- slices.Equal[[]int,int] -/
def rQVX0 : List O := [
 oo 4 <| .mv (.k (.bool false))]
def rQVX1 : List O := [
 oo 6 <| .mv (.t 0),
 oo 7 <| .len (.t 6),
 oo 8 <| .mv (.t 1),
 oo 9 <| .len (.t 8),
 oo 10 <| .bin .neq (.t 7) (.t 9)]
def rQVX2 : List O := [
 oo 4 <| .mv (.k (.bool false))]
def rQVX3 : List O := [
 oo 11 <| .mv (.t 0),
 oo 12 <| .len (.t 11),
 oo 13 <| .mv (ki 0)]
def rQVX4 : List O := [
 oo 14 <| .bin .lss (.t 13) (.t 12)]
def rQVX5 : List O := [
 oo 15 <| .mv (.t 13),
 oo 5 <| .mv (.t 15)]
def rQVX6 : List O := [
 oo 16 <| .mv (.t 0),
 oo 17 <| .mv (.t 5),
 oo 18 <| .ixa 1 (.t 16) (.t 17),
 oo 19 <| .ld none (.t 18),
 oo 20 <| .mv (.t 1),
 oo 21 <| .mv (.t 5),
 oo 22 <| .ixa 1 (.t 20) (.t 21),
 oo 23 <| .ld none (.t 22),
 oo 24 <| .bin .neq (.t 19) (.t 23)]
def rQVX7 : List O := [
 oo 4 <| .mv (.k (.bool false))]
def rQVX8 : List O := [
 oo 25 <| .bin .add (.t 13) (ki 1),
 oo 13 <| .mv (.t 25)]
def lQVX0 : C := (.seq (.reg rQVX4 false [] [0,1,12,13,14]) (.seq (.cond (.t 14) .skip (.exit 0)) (.seq (.blk 1 (.seq (.reg rQVX5 false [] [0,1,5,12,13]) (.seq (.reg rQVX6 true [(3,7)] [0,1,12,13,24]) (.cond (.t 24) (.seq (.reg rQVX7 false [] [4]) .ret) .skip)))) (.reg rQVX8 false [] [0,1,12,13]))))
def rQVX9 : List O := [
 oo 4 <| .mv (.k (.bool true))]
def cQV : C := (.seq (.reg rQVX0 false [] [0,1]) (.seq (.seq (.reg rQVX1 false [] [0,1,10]) (.cond (.t 10) (.seq (.reg rQVX2 false [] [4]) .ret) .skip)) (.seq (.seq (.reg rQVX3 false [] [0,1,12,13]) (.blk 0 (.loop lQVX0))) (.seq (.reg rQVX9 false [] [4]) .ret))))
def qQV : AFn := ⟨26,2,[.t 4],cQV⟩
/- cohesion/nodeset.Of -/
def rQWX0 : List O := [
 oo 2 <| .mv (.k .nils)]
def rQWX1 : List O := [
 oo 3 <| .mv (.t 0),
 oo 4 <| .call nQ8 [(.t 3),(.k .nils)],
 oo 2 <| .mv (.t 4)]
def cQW : C := (.seq (.reg rQWX0 false [] [0]) (.seq (.reg rQWX1 false [] [2]) .ret))
def qQW : AFn := ⟨5,1,[.t 2],cQW⟩
/- cohesion/nodeset.Range -/
def rQXX0 : List O := [
 oo 2 <| .mv (.k .nils)]
def rQXX1 : List O := [
 oo 3 <| .mv (.k .nils)]
def rQXX2 : List O := [
 oo 5 <| .mv (.t 0),
 oo 6 <| .max [(.t 5),(ki 0)],
 oo 7 <| .min [(.t 6),(ki 64)],
 oo 8 <| .mv (ki 0)]
def rQXX3 : List O := [
 oo 9 <| .bin .lss (.t 8) (.t 7)]
def rQXX4 : List O := [
 oo 10 <| .mv (.t 8),
 oo 4 <| .mv (.t 10)]
def rQXX5 : List O := [
 oo 11 <| .mv (.t 3),
 oo 12 <| .mv (.t 4),
 oo 13 <| .bslice 1 1 [(.int .i64 0)] [(0,1,(.t 12))],
 oo 14 <| .app 1 (.t 11) (.t 13),
 oo 3 <| .mv (.t 14)]
def rQXX6 : List O := [
 oo 15 <| .bin .add (.t 8) (ki 1),
 oo 8 <| .mv (.t 15)]
def lQXX0 : C := (.seq (.reg rQXX3 false [] [3,7,8,9]) (.seq (.cond (.t 9) .skip (.exit 0)) (.seq (.blk 1 (.seq (.reg rQXX4 false [] [3,4,7,8]) (.reg rQXX5 false [] [3,7,8]))) (.reg rQXX6 false [] [3,7,8]))))
def rQXX7 : List O := [
 oo 16 <| .mv (.t 3),
 oo 2 <| .mv (.t 16)]
def cQX : C := (.seq (.reg rQXX0 false [] [0]) (.seq (.reg rQXX1 false [] [0,3]) (.seq (.seq (.reg rQXX2 false [] [3,7,8]) (.blk 0 (.loop lQXX0))) (.seq (.reg rQXX7 false [] [2]) .ret))))
def qQX : AFn := ⟨17,1,[.t 2],cQX⟩
/- slices.Repeat[[]int,int] -/
def rQYX0 : List O := [
 oo 4 <| .mv (.k .nils)]
def rQYX1 : List O := [
 oo 9 <| .mv (.t 1),
 oo 10 <| .bin .lss (.t 9) (ki 0)]
def rQYX2 : List O := [
 oo 11 <| .bad,
 oz <| .bad]
def rQYX3 : List O := [
 oo 13 <| .mv (.t 0),
 oo 14 <| .len (.t 13),
 oo 15 <| .cvt .u64 (.t 14),
 oo 16 <| .mv (.t 1),
 oo 17 <| .cvt .u64 (.t 16),
 oo 18 <| .call nQ9 [(.t 15),(.t 17)],
 oo 12 <| .mv (.t 18),
 oo 19 <| .ext 0 (.t 12),
 oo 20 <| .ext 1 (.t 12),
 oo 5 <| .mv (.t 19),
 oo 6 <| .mv (.t 20)]
def rQYX4 : List O := [
 oo 21 <| .mv (.t 5),
 oo 22 <| .bin .gtr (.t 21) (.k (.int .u64 0)),
 oo 23 <| .mv (.t 22),
 ⟨(some 24),(some (23,false)),.mv (.t 6)⟩,
 ⟨(some 25),(some (23,false)),.bin .gtr (.t 24) (.k (.int .u64 9223372036854775807))⟩,
 oo 26 <| .pick (.t 23) (.k (.bool true)) (.t 25)]
def rQYX5 : List O := [
 oo 27 <| .bad,
 oz <| .bad]
def rQYX6 : List O := [
 oo 28 <| .mv (.t 6),
 oo 29 <| .cvt .i64 (.t 28),
 oo 30 <| .mks 1 [(.int .i64 0)] (.t 29) (.t 29),
 oo 7 <| .mv (.t 30)]
def rQYX7 : List O := [
 oo 31 <| .mv (.t 7),
 oo 32 <| .mv (.t 0),
 oo 33 <| .copy 1 (.t 31) (.t 32),
 oo 8 <| .mv (.t 33)]
def rQYX8 : List O := [
 oo 34 <| .mv (.t 8),
 oo 35 <| .mv (.t 7),
 oo 36 <| .len (.t 35),
 oo 37 <| .bin .lss (.t 34) (.t 36)]
def rQYX9 : List O := [
 oo 38 <| .mv (.t 8),
 oo 39 <| .mv (.t 7),
 oo 40 <| .mv (.t 8),
 oo 41 <| .slc 1 (.t 39) (some (.t 40)) none,
 oo 42 <| .mv (.t 7),
 oo 43 <| .mv (.t 8),
 oo 44 <| .slc 1 (.t 42) none (some (.t 43)),
 oo 45 <| .copy 1 (.t 41) (.t 44),
 oo 46 <| .bin .add (.t 38) (.t 45),
 oo 8 <| .mv (.t 46)]
def lQYX0 : C := (.seq (.seq (.reg rQYX8 false [] [7,8,37]) (.cond (.t 37) .skip (.exit 0))) (.blk 1 (.reg rQYX9 true [] [7,8])))
def rQYX10 : List O := [
 oo 47 <| .mv (.t 7),
 oo 4 <| .mv (.t 47)]
def cQY : C := (.seq (.reg rQYX0 false [] [0,1]) (.seq (.seq (.reg rQYX1 false [] [0,1,10]) (.cond (.t 10) (.reg rQYX2 false [] [0,1]) .skip)) (.seq (.reg rQYX3 false [] [0,5,6]) (.seq (.seq (.reg rQYX4 false [] [0,6,26]) (.cond (.t 26) (.reg rQYX5 false [] [0,6]) .skip)) (.seq (.reg rQYX6 false [] [0,7]) (.seq (.reg rQYX7 false [] [7,8]) (.seq (.blk 0 (.loop lQYX0)) (.seq (.reg rQYX10 false [] [4]) .ret))))))))
def qQY : AFn := ⟨48,2,[.t 4],cQY⟩
/- cohesion/graph.Neighbours -/
def rQZX0 : List O := [
 oo 2 <| .box (.t 0),
 oo 4 <| .mv (.k .nils)]
def rQZX1 : List O := [
 oo 5 <| .ld (some 2) (.t 2),
 oo 6 <| .mv (.t 1),
 oo 7 <| .call nQa1 [(.t 5),(.t 6)],
 oo 8 <| .call nQa0 [(.t 7)],
 oo 4 <| .mv (.t 8)]
def cQZ : C := (.seq (.reg rQZX0 false [] [1,2]) (.seq (.reg rQZX1 false [] [4]) .ret))
def qQZ : AFn := ⟨9,2,[.t 4],cQZ⟩
/- slices.Index[[]bool,bool] -/
def rQ0X0 : List O := [
 oo 4 <| .mv (ki 0)]
def rQ0X1 : List O := [
 oo 6 <| .mv (.t 0),
 oo 7 <| .len (.t 6),
 oo 8 <| .mv (ki 0)]
def rQ0X2 : List O := [
 oo 9 <| .bin .lss (.t 8) (.t 7)]
def rQ0X3 : List O := [
 oo 10 <| .mv (.t 8),
 oo 5 <| .mv (.t 10)]
def rQ0X4 : List O := [
 oo 11 <| .mv (.t 1),
 oo 12 <| .mv (.t 0),
 oo 13 <| .mv (.t 5),
 oo 14 <| .ixa 1 (.t 12) (.t 13),
 oo 15 <| .ld none (.t 14),
 oo 16 <| .eq false .bool (.t 11) (.t 15)]
def rQ0X5 : List O := [
 oo 17 <| .mv (.t 5),
 oo 4 <| .mv (.t 17)]
def rQ0X6 : List O := [
 oo 18 <| .bin .add (.t 8) (ki 1),
 oo 8 <| .mv (.t 18)]
def lQ0X0 : C := (.seq (.reg rQ0X2 false [] [0,1,7,8,9]) (.seq (.cond (.t 9) .skip (.exit 0)) (.seq (.blk 1 (.seq (.reg rQ0X3 false [] [0,1,5,7,8]) (.seq (.reg rQ0X4 false [] [0,1,5,7,8,16]) (.cond (.t 16) (.seq (.reg rQ0X5 false [] [4]) .ret) .skip)))) (.reg rQ0X6 false [] [0,1,7,8]))))
def rQ0X7 : List O := [
 oo 4 <| .mv (.k (.int .i64 (-1)))]
def cQ0 : C := (.seq (.reg rQ0X0 false [] [0,1]) (.seq (.seq (.reg rQ0X1 false [] [0,1,7,8]) (.blk 0 (.loop lQ0X0))) (.seq (.reg rQ0X7 false [] [4]) .ret)))
def qQ0 : AFn := ⟨19,2,[.t 4],cQ0⟩
/- cohesion/core.Order -/
def rQ1X0 : List O := [
 oo 1 <| .box (.t 0),
 oo 2 <| .mv (.k .nils),
 oo 3 <| .mv (ki 0)]
def rQ1X1 : List O := [
 oo 7 <| .ld (some 2) (.t 1),
 oo 8 <| .call nQt [(.t 7)],
 oo 4 <| .mv (.t 8)]
def rQ1X2 : List O := [
 oo 9 <| .mv (.t 4),
 oo 10 <| .bin .neq (.t 9) (ki 0)]
def rQ1X3 : List O := [
 oo 11 <| .mv (.t 4),
 oo 2 <| .mv (.k .nils),
 oo 3 <| .mv (.t 11)]
def rQ1X4 : List O := [
 oo 13 <| .ld (some 2) (.t 1),
 oo 14 <| .call nQa2 [(.t 13)],
 oo 12 <| .mv (.t 14),
 oo 15 <| .ext 0 (.t 12),
 oo 16 <| .ext 1 (.t 12),
 oo 5 <| .mv (.t 15),
 oo 6 <| .mv (.t 16)]
def rQ1X5 : List O := [
 oo 17 <| .mv (.t 5),
 oo 2 <| .mv (.t 17),
 oo 3 <| .mv (ki 0)]
def cQ1 : C := (.seq (.reg rQ1X0 false [] [1]) (.seq (.seq (.reg rQ1X1 false [] [1,4]) (.seq (.reg rQ1X2 false [] [1,4,10]) (.cond (.t 10) (.seq (.reg rQ1X3 false [] [2,3]) .ret) .skip))) (.seq (.reg rQ1X4 false [] [5]) (.seq (.reg rQ1X5 false [] [2,3]) .ret))))
def qQ1 : AFn := ⟨18,1,[.t 2,.t 3],cQ1⟩
/- slices.Reverse[[]int,int] -/
def rQ2X0 : List O := [
 oo 4 <| .mv (.t 0),
 oo 5 <| .len (.t 4),
 oo 6 <| .bin .sub (.t 5) (ki 1),
 oo 2 <| .mv (ki 0),
 oo 3 <| .mv (.t 6)]
def rQ2X1 : List O := [
 oo 7 <| .mv (.t 2),
 oo 8 <| .mv (.t 3),
 oo 9 <| .bin .lss (.t 7) (.t 8)]
def rQ2X2 : List O := [
 oo 14 <| .mv (.t 0),
 oo 15 <| .mv (.t 2),
 oo 16 <| .mv (.t 0),
 oo 17 <| .mv (.t 3),
 oo 18 <| .mv (.t 0),
 oo 19 <| .mv (.t 3),
 oo 20 <| .ixa 1 (.t 18) (.t 19),
 oo 21 <| .ld none (.t 20),
 oo 22 <| .mv (.t 0),
 oo 23 <| .mv (.t 2),
 oo 24 <| .ixa 1 (.t 22) (.t 23),
 oo 25 <| .ld none (.t 24),
 oo 26 <| .ixa 1 (.t 14) (.t 15),
 oz <| .st 1 (.t 26) (.t 21),
 oo 27 <| .ixa 1 (.t 16) (.t 17),
 oz <| .st 1 (.t 27) (.t 25)]
def rQ2X3 : List O := [
 oo 10 <| .mv (.t 2),
 oo 11 <| .bin .add (.t 10) (ki 1),
 oo 12 <| .mv (.t 3),
 oo 13 <| .bin .sub (.t 12) (ki 1),
 oo 2 <| .mv (.t 11),
 oo 3 <| .mv (.t 13)]
def lQ2X0 : C := (.seq (.seq (.reg rQ2X1 false [] [0,2,3,9]) (.cond (.t 9) .skip (.exit 0))) (.seq (.blk 1 (.reg rQ2X2 true [(7,11)] [0,2,3])) (.reg rQ2X3 false [] [0,2,3])))
def cQ2 : C := (.seq (.reg rQ2X0 false [] [0,2,3]) (.blk 0 (.loop lQ2X0)))
def qQ2 : AFn := ⟨28,1,[],cQ2⟩
/- slices.ContainsFunc[[]int,int] -/
def rQ3X0 : List O := [
 oo 4 <| .mv (.k (.bool false))]
def rQ3X1 : List O := [
 oo 5 <| .mv (.t 0),
 oo 6 <| .mv (.t 1),
 oo 7 <| .call nQa3 [(.t 5),(.t 6)],
 oo 8 <| .bin .geq (.t 7) (ki 0),
 oo 4 <| .mv (.t 8)]
def cQ3 : C := (.seq (.reg rQ3X0 false [] [0,1]) (.seq (.reg rQ3X1 false [] [4]) .ret))
def qQ3 : AFn := ⟨9,2,[.t 4],cQ3⟩
/- cohesion/maxclique.Proper$1 -/
def rQ4X0 : List O := [
 oo 2 <| .mv (.k (.bool false))]
def rQ4X1 : List O := [
 oo 3 <| .mv (.t 0),
 oo 4 <| .bin .lss (.t 3) (ki 0),
 oo 2 <| .mv (.t 4)]
def cQ4 : C := (.seq (.reg rQ4X0 false [] [0]) (.seq (.reg rQ4X1 false [] [2]) .ret))
def qQ4 : AFn := ⟨5,1,[.t 2],cQ4⟩
/- slices.ContainsFunc[[]cohesion/api.Edge,cohesion/api.Edge] -/
def rQ5X0 : List O := [
 oo 4 <| .mv (.k (.bool false))]
def rQ5X1 : List O := [
 oo 5 <| .mv (.t 0),
 oo 6 <| .mv (.t 1),
 oo 7 <| .call nQa4 [(.t 5),(.t 6)],
 oo 8 <| .bin .geq (.t 7) (ki 0),
 oo 4 <| .mv (.t 8)]
def cQ5 : C := (.seq (.reg rQ5X0 false [] [0,1]) (.seq (.reg rQ5X1 false [] [4]) .ret))
def qQ5 : AFn := ⟨9,2,[.t 4],cQ5⟩
/- cohesion/maxclique.Proper$2 -/
def rQ6X0 : List O := [
 oo 2 <| .box (.t 0),
 oo 3 <| .mv (.k (.bool false))]
def rQ6X1 : List O := [
 oo 4 <| .ld none (.t 1),
 oo 5 <| .fad 0 (.t 2),
 oo 6 <| .ld none (.t 5),
 oo 7 <| .ixa 1 (.t 4) (.t 6),
 oo 8 <| .ld none (.t 7),
 oo 9 <| .ld none (.t 1),
 oo 10 <| .fad 1 (.t 2),
 oo 11 <| .ld none (.t 10),
 oo 12 <| .ixa 1 (.t 9) (.t 11),
 oo 13 <| .ld none (.t 12),
 oo 14 <| .bin .eql (.t 8) (.t 13),
 oo 3 <| .mv (.t 14)]
def cQ6 : C := (.seq (.reg rQ6X0 false [] [1,2]) (.seq (.reg rQ6X1 true [(0,2),(0,5),(2,5),(4,5),(0,7),(2,7),(4,7),(5,7),(0,9),(2,9),(4,9)] [3]) .ret))
def qQ6 : AFn := ⟨15,1,[.t 3],cQ6⟩
/- math/bits.TrailingZeros64 -/
def rQAX0 : List O := [
 oo 2 <| .mv (ki 0)]
def rQAX1 : List O := [
 oo 3 <| .mv (.t 0),
 oo 4 <| .bin .eql (.t 3) (.k (.int .u64 0))]
def rQAX2 : List O := [
 oo 2 <| .mv (ki 64)]
def rQAX3 : List O := [
 oo 5 <| .mv (.t 0),
 oo 6 <| .mv (.t 0),
 oo 7 <| .un .neg (.t 6),
 oo 8 <| .bin .and (.t 5) (.t 7),
 oo 9 <| .bin .mul (.t 8) (.k (.int .u64 285870213051353865)),
 oo 10 <| .bin .shr (.t 9) (.k (.int .u64 58)),
 oo 11 <| .ixp 64 1 (.g 0) (.t 10),
 oo 12 <| .ld none (.t 11),
 oo 13 <| .cvt .i64 (.t 12),
 oo 2 <| .mv (.t 13)]
def cQA : C := (.seq (.reg rQAX0 false [] [0]) (.seq (.seq (.reg rQAX1 false [] [0,4]) (.cond (.t 4) (.seq (.reg rQAX2 false [] [2]) .ret) .skip)) (.seq (.reg rQAX3 false [] [2]) .ret)))
def qQA : AFn := ⟨14,1,[.t 2],cQA⟩
/- cohesion/core.Degeneracy -/
def rQ7X0 : List O := [
 oo 1 <| .box (.t 0),
 oo 2 <| .mv (ki 0),
 oo 3 <| .mv (ki 0)]
def rQ7X1 : List O := [
 oo 10 <| .ld (some 2) (.t 1),
 oo 11 <| .call nQa5 [(.t 10)],
 oo 9 <| .mv (.t 11),
 oo 12 <| .ext 0 (.t 9),
 oo 13 <| .ext 1 (.t 9),
 oo 4 <| .mv (.t 12),
 oo 5 <| .mv (.t 13)]
def rQ7X2 : List O := [
 oo 6 <| .mv (ki 0)]
def rQ7X3 : List O := [
 oo 14 <| .mv (.t 4),
 oo 15 <| .len (.t 14),
 oo 16 <| .mv (ki 0)]
def rQ7X4 : List O := [
 oo 17 <| .bin .lss (.t 16) (.t 15)]
def rQ7X5 : List O := [
 oo 18 <| .ixa 1 (.t 14) (.t 16),
 oo 19 <| .ld none (.t 18),
 oo 8 <| .mv (.t 19)]
def rQ7X6 : List O := [
 oo 20 <| .mv (.t 6),
 oo 21 <| .mv (.t 8),
 oo 22 <| .max [(.t 20),(.t 21)],
 oo 6 <| .mv (.t 22)]
def rQ7X7 : List O := [
 oo 23 <| .bin .add (.t 16) (ki 1),
 oo 16 <| .mv (.t 23)]
def lQ7X0 : C := (.seq (.reg rQ7X4 false [] [5,6,14,15,16,17]) (.seq (.cond (.t 17) .skip (.exit 0)) (.seq (.blk 1 (.seq (.reg rQ7X5 false [] [5,6,8,14,15,16]) (.reg rQ7X6 false [] [5,6,14,15,16]))) (.reg rQ7X7 false [] [5,6,14,15,16]))))
def rQ7X8 : List O := [
 oo 24 <| .mv (.t 6),
 oo 25 <| .mv (.t 5),
 oo 2 <| .mv (.t 24),
 oo 3 <| .mv (.t 25)]
def cQ7 : C := (.seq (.reg rQ7X0 false [] [1]) (.seq (.reg rQ7X1 false [] [4,5]) (.seq (.reg rQ7X2 false [] [4,5,6]) (.seq (.seq (.reg rQ7X3 false [] [5,6,14,15,16]) (.blk 0 (.loop lQ7X0))) (.seq (.reg rQ7X8 false [] [2,3]) .ret)))))
def qQ7 : AFn := ⟨26,1,[.t 2,.t 3],cQ7⟩
/- cohesion/graph.Order -/
def rQFX0 : List O := [
 oo 2 <| .box (.t 0),
 oo 3 <| .box (.t 1),
 oo 4 <| .mv (ki 0)]
def rQFX1 : List O := [
 oo 5 <| .fad 0 (.t 2),
 oo 6 <| .ld none (.t 5),
 oo 7 <| .fad 0 (.t 3),
 oo 8 <| .ld none (.t 7),
 oo 9 <| .call nQP [(.t 6),(.t 8)],
 oo 10 <| .fad 1 (.t 2),
 oo 11 <| .ld none (.t 10),
 oo 12 <| .fad 1 (.t 3),
 oo 13 <| .ld none (.t 12),
 oo 14 <| .call nQP [(.t 11),(.t 13)],
 oo 15 <| .bslice 1 2 [(.int .i64 0)] [(0,1,(.t 9)),(1,1,(.t 14))],
 oo 16 <| .call nQO [(.t 15)],
 oo 4 <| .mv (.t 16)]
def cQF : C := (.seq (.reg rQFX0 false [] [2,3]) (.seq (.reg rQFX1 true [(1,3),(1,6),(3,6),(4,6),(1,8),(3,8),(4,8),(6,8)] [4]) .ret))
def qQF : AFn := ⟨17,2,[.t 4],cQF⟩
/- cohesion/nodeset.Union -/
def rQ8X0 : List O := [
 oo 4 <| .mv (.k .nils)]
def rQ8X1 : List O := [
 oo 5 <| .mv (.t 0),
 oo 6 <| .mv (.t 1),
 oo 7 <| .call nQa6 [(.t 5),(.t 6),(.k (.func (.func nQa7) [] []))],
 oo 4 <| .mv (.t 7)]
def cQ8 : C := (.seq (.reg rQ8X0 false [] [0,1]) (.seq (.reg rQ8X1 false [] [4]) .ret))
def qQ8 : AFn := ⟨8,2,[.t 4],cQ8⟩
/- math/bits.Mul -/
def rQ9X0 : List O := [
 oo 4 <| .mv (.k (.int .u64 0)),
 oo 5 <| .mv (.k (.int .u64 0))]
def rQ9X1 : List O := [
 oo 11 <| .mv (.t 0),
 oo 12 <| .cvt .u32 (.t 11),
 oo 13 <| .mv (.t 1),
 oo 14 <| .cvt .u32 (.t 13),
 oo 15 <| .call nQa8 [(.t 12),(.t 14)],
 oo 10 <| .mv (.t 15),
 oo 16 <| .ext 0 (.t 10),
 oo 17 <| .ext 1 (.t 10),
 oo 6 <| .mv (.t 16),
 oo 7 <| .mv (.t 17)]
def rQ9X2 : List O := [
 oo 18 <| .mv (.t 6),
 oo 19 <| .cvt .u64 (.t 18),
 oo 20 <| .mv (.t 7),
 oo 21 <| .cvt .u64 (.t 20),
 oo 4 <| .mv (.t 19),
 oo 5 <| .mv (.t 21)]
def rQ9X3 : List O := [
 oo 23 <| .mv (.t 0),
 oo 24 <| .mv (.t 1),
 oo 25 <| .call nQa9 [(.t 23),(.t 24)],
 oo 22 <| .mv (.t 25),
 oo 26 <| .ext 0 (.t 22),
 oo 27 <| .ext 1 (.t 22),
 oo 8 <| .mv (.t 26),
 oo 9 <| .mv (.t 27)]
def rQ9X4 : List O := [
 oo 28 <| .mv (.t 8),
 oo 29 <| .mv (.t 9),
 oo 4 <| .mv (.t 28),
 oo 5 <| .mv (.t 29)]
def cQ9 : C := (.seq (.reg rQ9X0 false [] [0,1]) (.seq (.cond (.k (.bool false)) (.seq (.reg rQ9X1 false [] [6,7]) (.seq (.reg rQ9X2 false [] [4,5]) .ret)) .skip) (.seq (.reg rQ9X3 false [] [8,9]) (.seq (.reg rQ9X4 false [] [4,5]) .ret))))
def qQ9 : AFn := ⟨30,2,[.t 4,.t 5],cQ9⟩
/- cohesion/masks.List -/
def rQa0X0 : List O := [
 oo 2 <| .mv (.k .nils)]
def rQa0X1 : List O := [
 oo 3 <| .mv (.k .nils)]
def rQa0X2 : List O := [
 oo 4 <| .mv (.t 0),
 oo 5 <| .bin .neq (.t 4) (.k (.int .u64 0))]
def rQa0X3 : List O := [
 oo 10 <| .mv (.t 3),
 oo 11 <| .mv (.t 0),
 oo 12 <| .call nQA [(.t 11)],
 oo 13 <| .bslice 1 1 [(.int .i64 0)] [(0,1,(.t 12))],
 oo 14 <| .app 1 (.t 10) (.t 13),
 oo 3 <| .mv (.t 14)]
def rQa0X4 : List O := [
 oo 6 <| .mv (.t 0),
 oo 7 <| .mv (.t 0),
 oo 8 <| .bin .sub (.t 7) (.k (.int .u64 1)),
 oo 9 <| .bin .and (.t 6) (.t 8),
 oo 0 <| .mv (.t 9)]
def lQa0X0 : C := (.seq (.seq (.reg rQa0X2 false [] [0,3,5]) (.cond (.t 5) .skip (.exit 0))) (.seq (.blk 1 (.reg rQa0X3 false [] [0,3])) (.reg rQa0X4 false [] [0,3])))
def rQa0X5 : List O := [
 oo 15 <| .mv (.t 3),
 oo 2 <| .mv (.t 15)]
def cQa0 : C := (.seq (.reg rQa0X0 false [] [0]) (.seq (.reg rQa0X1 false [] [0,3]) (.seq (.blk 0 (.loop lQa0X0)) (.seq (.reg rQa0X5 false [] [2]) .ret))))
def qQa0 : AFn := ⟨16,1,[.t 2],cQa0⟩
/- cohesion/graph.row -/
def rQa1X0 : List O := [
 oo 2 <| .box (.t 0),
 oo 4 <| .mv (.k (.int .u64 0))]
def rQa1X1 : List O := [
 oo 6 <| .ld (some 2) (.t 2),
 oo 7 <| .call nQb0 [(.t 6)],
 oo 5 <| .mv (.t 7)]
def rQa1X2 : List O := [
 oo 8 <| .mv (.t 1),
 oo 9 <| .bin .lss (.t 8) (ki 0),
 oo 10 <| .mv (.t 9),
 ⟨(some 11),(some (10,false)),.mv (.t 1)⟩,
 ⟨(some 12),(some (10,false)),.mv (.t 5)⟩,
 ⟨(some 13),(some (10,false)),.len (.t 12)⟩,
 ⟨(some 14),(some (10,false)),.bin .geq (.t 11) (.t 13)⟩,
 oo 15 <| .pick (.t 10) (.k (.bool true)) (.t 14),
 oo 16 <| .mv (.t 15),
 ⟨(some 17),(some (16,false)),.ld (some 2) (.t 2)⟩,
 ⟨(some 18),(some (16,false)),.call nQt [(.t 17)]⟩,
 ⟨(some 19),(some (16,false)),.bin .neq (.t 18) (ki 0)⟩,
 oo 20 <| .pick (.t 16) (.k (.bool true)) (.t 19)]
def rQa1X3 : List O := [
 oo 4 <| .mv (.k (.int .u64 0))]
def rQa1X4 : List O := [
 oo 21 <| .mv (.t 5),
 oo 22 <| .mv (.t 1),
 oo 23 <| .ixa 1 (.t 21) (.t 22),
 oo 24 <| .ld none (.t 23),
 oo 4 <| .mv (.t 24)]
def cQa1 : C := (.seq (.reg rQa1X0 false [] [1,2]) (.seq (.reg rQa1X1 false [] [1,2,5]) (.seq (.seq (.reg rQa1X2 false [] [1,5,20]) (.cond (.t 20) (.seq (.reg rQa1X3 false [] [4]) .ret) .skip)) (.seq (.reg rQa1X4 false [] [4]) .ret))))
def qQa1 : AFn := ⟨25,2,[.t 4],cQa1⟩
/- cohesion/core.peel -/
def rQa2X0 : List O := [
 oo 1 <| .box (.t 0),
 oo 2 <| .mv (.k .nils),
 oo 3 <| .mv (.k .nils)]
def rQa2X1 : List O := [
 oo 15 <| .ld (some 2) (.t 1),
 oo 16 <| .call nQb0 [(.t 15)],
 oo 4 <| .mv (.t 16)]
def rQa2X2 : List O := [
 oo 5 <| .new [(.int .u64 0),(.int .u64 0),(.int .u64 0),(.int .u64 0),(.int .u64 0),(.int .u64 0),(.int .u64 0),(.int .u64 0),(.int .u64 0),(.int .u64 0),(.int .u64 0),(.int .u64 0),(.int .u64 0),(.int .u64 0),(.int .u64 0),(.int .u64 0),(.int .u64 0),(.int .u64 0),(.int .u64 0),(.int .u64 0),(.int .u64 0),(.int .u64 0),(.int .u64 0),(.int .u64 0),(.int .u64 0),(.int .u64 0),(.int .u64 0),(.int .u64 0),(.int .u64 0),(.int .u64 0),(.int .u64 0),(.int .u64 0),(.int .u64 0),(.int .u64 0),(.int .u64 0),(.int .u64 0),(.int .u64 0),(.int .u64 0),(.int .u64 0),(.int .u64 0),(.int .u64 0),(.int .u64 0),(.int .u64 0),(.int .u64 0),(.int .u64 0),(.int .u64 0),(.int .u64 0),(.int .u64 0),(.int .u64 0),(.int .u64 0),(.int .u64 0),(.int .u64 0),(.int .u64 0),(.int .u64 0),(.int .u64 0),(.int .u64 0),(.int .u64 0),(.int .u64 0),(.int .u64 0),(.int .u64 0),(.int .u64 0),(.int .u64 0),(.int .u64 0),(.int .u64 0)]]
def rQa2X3 : List O := [
 oo 17 <| .mv (.t 4),
 oo 18 <| .len (.t 17),
 oo 19 <| .mks 1 [(.int .i64 0)] (.t 18) (.t 18),
 oo 6 <| .mv (.t 19)]
def rQa2X4 : List O := [
 oo 20 <| .mv (.t 4),
 oo 21 <| .len (.t 20),
 oo 22 <| .mv (ki 0)]
def rQa2X5 : List O := [
 oo 23 <| .bin .lss (.t 22) (.t 21)]
def rQa2X6 : List O := [
 oo 24 <| .mv (.t 22),
 oo 25 <| .ixa 1 (.t 20) (.t 22),
 oo 26 <| .ld none (.t 25),
 oo 7 <| .mv (.t 24),
 oo 8 <| .mv (.t 26)]
def rQa2X7 : List O := [
 oo 27 <| .mv (.t 6),
 oo 28 <| .mv (.t 7),
 oo 29 <| .mv (.t 8),
 oo 30 <| .call nQb1 [(.t 29)],
 oo 31 <| .ixa 1 (.t 27) (.t 28),
 oz <| .st 1 (.t 31) (.t 30)]
def rQa2X8 : List O := [
 oo 32 <| .mv (.t 6),
 oo 33 <| .mv (.t 7),
 oo 34 <| .ixa 1 (.t 32) (.t 33),
 oo 35 <| .ld none (.t 34),
 oo 36 <| .ixp 64 1 (.t 5) (.t 35),
 oo 37 <| .ld none (.t 36),
 oo 38 <| .mv (.t 7),
 oo 39 <| .call nQb2 [(.t 38)],
 oo 40 <| .bin .or (.t 37) (.t 39),
 oo 41 <| .ixp 64 1 (.t 5) (.t 35),
 oz <| .st 1 (.t 41) (.t 40)]
def rQa2X9 : List O := [
 oo 42 <| .bin .add (.t 22) (ki 1),
 oo 22 <| .mv (.t 42)]
def lQa2X0 : C := (.seq (.reg rQa2X5 false [] [2,4,5,6,20,21,22,23]) (.seq (.cond (.t 23) .skip (.exit 0)) (.seq (.blk 1 (.seq (.reg rQa2X6 false [] [2,4,5,6,7,8,20,21,22]) (.seq (.reg rQa2X7 false [] [2,4,5,6,7,20,21,22]) (.reg rQa2X8 true [(3,7),(5,7)] [2,4,5,6,20,21,22])))) (.reg rQa2X9 false [] [2,4,5,6,20,21,22]))))
def rQa2X10 : List O := [
 oo 43 <| .mv (.t 4),
 oo 44 <| .len (.t 43),
 oo 45 <| .mks 1 [(.int .i64 0)] (.t 44) (.t 44),
 oo 3 <| .mv (.t 45)]
def rQa2X11 : List O := [
 oo 46 <| .mv (.t 4),
 oo 47 <| .len (.t 46),
 oo 48 <| .call nQb3 [(.t 47)],
 oo 9 <| .mv (.t 48)]
def rQa2X12 : List O := [
 oo 10 <| .mv (ki 0)]
def rQa2X13 : List O := [
 oo 49 <| .mv (.t 9),
 oo 50 <| .bin .neq (.t 49) (.k (.int .u64 0))]
def rQa2X14 : List O := [
 oo 51 <| .mv (ki 0)]
def rQa2X15 : List O := [
 oo 52 <| .bin .lss (.t 51) (ki 64)]
def rQa2X16 : List O := [
 oo 53 <| .mv (.t 51),
 oo 11 <| .mv (.t 53)]
def rQa2X17 : List O := [
 oo 54 <| .mv (.t 11),
 oo 55 <| .ixp 64 1 (.t 5) (.t 54),
 oo 56 <| .ld none (.t 55),
 oo 57 <| .bin .eql (.t 56) (.k (.int .u64 0))]
def rQa2X18 : List O := [
 oo 58 <| .mv (.t 11),
 oo 59 <| .ixp 64 1 (.t 5) (.t 58),
 oo 60 <| .ld none (.t 59),
 oo 61 <| .call nQb4 [(.t 60)],
 oo 12 <| .mv (.t 61)]
def rQa2X19 : List O := [
 oo 62 <| .mv (.t 10),
 oo 63 <| .mv (.t 11),
 oo 64 <| .max [(.t 62),(.t 63)],
 oo 10 <| .mv (.t 64)]
def rQa2X20 : List O := [
 oo 65 <| .mv (.t 3),
 oo 66 <| .mv (.t 12),
 oo 67 <| .mv (.t 10),
 oo 68 <| .ixa 1 (.t 65) (.t 66),
 oz <| .st 1 (.t 68) (.t 67)]
def rQa2X21 : List O := [
 oo 69 <| .mv (.t 2),
 oo 70 <| .mv (.t 12),
 oo 71 <| .bslice 1 1 [(.int .i64 0)] [(0,1,(.t 70))],
 oo 72 <| .app 1 (.t 69) (.t 71),
 oo 2 <| .mv (.t 72)]
def rQa2X22 : List O := [
 oo 73 <| .mv (.t 9),
 oo 74 <| .mv (.t 12),
 oo 75 <| .call nQb2 [(.t 74)],
 oo 76 <| .bin .andNot (.t 73) (.t 75),
 oo 9 <| .mv (.t 76)]
def rQa2X23 : List O := [
 oo 77 <| .mv (.t 11),
 oo 78 <| .ixp 64 1 (.t 5) (.t 77),
 oo 79 <| .ld none (.t 78),
 oo 80 <| .mv (.t 12),
 oo 81 <| .call nQb2 [(.t 80)],
 oo 82 <| .bin .andNot (.t 79) (.t 81),
 oo 83 <| .ixp 64 1 (.t 5) (.t 77),
 oz <| .st 1 (.t 83) (.t 82)]
def rQa2X24 : List O := [
 oo 84 <| .mv (.t 4),
 oo 85 <| .mv (.t 12),
 oo 86 <| .ixa 1 (.t 84) (.t 85),
 oo 87 <| .ld none (.t 86),
 oo 88 <| .mv (.t 9),
 oo 89 <| .bin .and (.t 87) (.t 88),
 oo 90 <| .call nQa0 [(.t 89)],
 oo 91 <| .len (.t 90),
 oo 92 <| .mv (ki 0)]
def rQa2X25 : List O := [
 oo 93 <| .bin .lss (.t 92) (.t 91)]
def rQa2X26 : List O := [
 oo 94 <| .ixa 1 (.t 90) (.t 92),
 oo 95 <| .ld none (.t 94),
 oo 14 <| .mv (.t 95)]
def rQa2X27 : List O := [
 oo 96 <| .mv (.t 6),
 oo 97 <| .mv (.t 14),
 oo 98 <| .ixa 1 (.t 96) (.t 97),
 oo 99 <| .ld none (.t 98),
 oo 100 <| .ixp 64 1 (.t 5) (.t 99),
 oo 101 <| .ld none (.t 100),
 oo 102 <| .mv (.t 14),
 oo 103 <| .call nQb2 [(.t 102)],
 oo 104 <| .bin .andNot (.t 101) (.t 103),
 oo 105 <| .ixp 64 1 (.t 5) (.t 99),
 oz <| .st 1 (.t 105) (.t 104)]
def rQa2X28 : List O := [
 oo 106 <| .mv (.t 6),
 oo 107 <| .mv (.t 14),
 oo 108 <| .ixa 1 (.t 106) (.t 107),
 oo 109 <| .ld none (.t 108),
 oo 110 <| .bin .sub (.t 109) (ki 1),
 oo 111 <| .ixa 1 (.t 106) (.t 107),
 oz <| .st 1 (.t 111) (.t 110)]
def rQa2X29 : List O := [
 oo 112 <| .mv (.t 6),
 oo 113 <| .mv (.t 14),
 oo 114 <| .ixa 1 (.t 112) (.t 113),
 oo 115 <| .ld none (.t 114),
 oo 116 <| .ixp 64 1 (.t 5) (.t 115),
 oo 117 <| .ld none (.t 116),
 oo 118 <| .mv (.t 14),
 oo 119 <| .call nQb2 [(.t 118)],
 oo 120 <| .bin .or (.t 117) (.t 119),
 oo 121 <| .ixp 64 1 (.t 5) (.t 115),
 oz <| .st 1 (.t 121) (.t 120)]
def rQa2X30 : List O := [
 oo 122 <| .bin .add (.t 92) (ki 1),
 oo 92 <| .mv (.t 122)]
def lQa2X1 : C := (.seq (.reg rQa2X25 false [] [2,3,4,5,6,9,10,90,91,92,93]) (.seq (.cond (.t 93) .skip (.exit 6)) (.seq (.blk 7 (.seq (.reg rQa2X26 false [] [2,3,4,5,6,9,10,14,90,91,92]) (.seq (.reg rQa2X27 true [(3,7),(5,7)] [2,3,4,5,6,9,10,14,90,91,92]) (.seq (.reg rQa2X28 false [] [2,3,4,5,6,9,10,14,90,91,92]) (.reg rQa2X29 true [(3,7),(5,7)] [2,3,4,5,6,9,10,90,91,92]))))) (.reg rQa2X30 false [] [2,3,4,5,6,9,10,90,91,92]))))
def rQa2X31 : List O := [
 oo 123 <| .bin .add (.t 51) (ki 1),
 oo 51 <| .mv (.t 123)]
def lQa2X2 : C := (.seq (.reg rQa2X15 false [] [2,3,4,5,6,9,10,51,52]) (.seq (.cond (.t 52) .skip (.exit 4)) (.seq (.blk 5 (.seq (.reg rQa2X16 false [] [2,3,4,5,6,9,10,11,51]) (.seq (.seq (.reg rQa2X17 false [] [2,3,4,5,6,9,10,11,51,57]) (.cond (.t 57) (.exit 5) .skip)) (.seq (.reg rQa2X18 false [] [2,3,4,5,6,9,10,11,12]) (.seq (.reg rQa2X19 false [] [2,3,4,5,6,9,10,11,12]) (.seq (.reg rQa2X20 false [] [2,3,4,5,6,9,10,11,12]) (.seq (.reg rQa2X21 false [] [2,3,4,5,6,9,10,11,12]) (.seq (.reg rQa2X22 false [] [2,3,4,5,6,9,10,11,12]) (.seq (.reg rQa2X23 true [(2,4)] [2,3,4,5,6,9,10,12]) (.seq (.seq (.reg rQa2X24 false [] [2,3,4,5,6,9,10,90,91,92]) (.blk 6 (.loop lQa2X1))) (.exit 3))))))))))) (.reg rQa2X31 false [] [2,3,4,5,6,9,10,51]))))
def lQa2X3 : C := (.seq (.seq (.reg rQa2X13 false [] [2,3,4,5,6,9,10,50]) (.cond (.t 50) .skip (.exit 2))) (.blk 3 (.seq (.reg rQa2X14 false [] [2,3,4,5,6,9,10,51]) (.blk 4 (.loop lQa2X2)))))
def rQa2X32 : List O := [
 oo 124 <| .mv (.t 2),
 oo 125 <| .mv (.t 3),
 oo 2 <| .mv (.t 124),
 oo 3 <| .mv (.t 125)]
def cQa2 : C := (.seq (.reg rQa2X0 false [] [1,2]) (.seq .skip (.seq (.reg rQa2X1 false [] [2,4]) (.seq (.reg rQa2X2 false [] [2,4,5]) (.seq (.reg rQa2X3 false [] [2,4,5,6]) (.seq (.seq (.reg rQa2X4 false [] [2,4,5,6,20,21,22]) (.blk 0 (.loop lQa2X0))) (.seq (.reg rQa2X10 false [] [2,3,4,5,6]) (.seq (.reg rQa2X11 false [] [2,3,4,5,6,9]) (.seq (.reg rQa2X12 false [] [2,3,4,5,6,9,10]) (.seq .skip (.seq (.blk 2 (.loop lQa2X3)) (.seq (.reg rQa2X32 false [] [2,3]) .ret))))))))))))
def qQa2 : AFn := ⟨126,1,[.t 2,.t 3],cQa2⟩
/- slices.IndexFunc[[]int,int] -/
def rQa3X0 : List O := [
 oo 4 <| .mv (ki 0)]
def rQa3X1 : List O := [
 oo 6 <| .mv (.t 0),
 oo 7 <| .len (.t 6),
 oo 8 <| .mv (ki 0)]
def rQa3X2 : List O := [
 oo 9 <| .bin .lss (.t 8) (.t 7)]
def rQa3X3 : List O := [
 oo 10 <| .mv (.t 8),
 oo 5 <| .mv (.t 10)]
def rQa3X4 : List O := [
 oo 11 <| .mv (.t 1),
 oo 12 <| .mv (.t 0),
 oo 13 <| .mv (.t 5),
 oo 14 <| .ixa 1 (.t 12) (.t 13),
 oo 15 <| .ld none (.t 14),
 oo 16 <| .callv (.t 11) [(.t 15)]]
def rQa3X5 : List O := [
 oo 17 <| .mv (.t 5),
 oo 4 <| .mv (.t 17)]
def rQa3X6 : List O := [
 oo 18 <| .bin .add (.t 8) (ki 1),
 oo 8 <| .mv (.t 18)]
def lQa3X0 : C := (.seq (.reg rQa3X2 false [] [0,1,7,8,9]) (.seq (.cond (.t 9) .skip (.exit 0)) (.seq (.blk 1 (.seq (.reg rQa3X3 false [] [0,1,5,7,8]) (.seq (.reg rQa3X4 false [] [0,1,5,7,8,16]) (.cond (.t 16) (.seq (.reg rQa3X5 false [] [4]) .ret) .skip)))) (.reg rQa3X6 false [] [0,1,7,8]))))
def rQa3X7 : List O := [
 oo 4 <| .mv (.k (.int .i64 (-1)))]
def cQa3 : C := (.seq (.reg rQa3X0 false [] [0,1]) (.seq (.seq (.reg rQa3X1 false [] [0,1,7,8]) (.blk 0 (.loop lQa3X0))) (.seq (.reg rQa3X7 false [] [4]) .ret)))
def qQa3 : AFn := ⟨19,2,[.t 4],cQa3⟩
/- slices.IndexFunc[[]cohesion/api.Edge,cohesion/api.Edge] -/
def rQa4X0 : List O := [
 oo 4 <| .mv (ki 0)]
def rQa4X1 : List O := [
 oo 6 <| .mv (.t 0),
 oo 7 <| .len (.t 6),
 oo 8 <| .mv (ki 0)]
def rQa4X2 : List O := [
 oo 9 <| .bin .lss (.t 8) (.t 7)]
def rQa4X3 : List O := [
 oo 10 <| .mv (.t 8),
 oo 5 <| .mv (.t 10)]
def rQa4X4 : List O := [
 oo 11 <| .mv (.t 1),
 oo 12 <| .mv (.t 0),
 oo 13 <| .mv (.t 5),
 oo 14 <| .ixa 2 (.t 12) (.t 13),
 oo 15 <| .ld (some 2) (.t 14),
 oo 16 <| .callv (.t 11) [(.t 15)]]
def rQa4X5 : List O := [
 oo 17 <| .mv (.t 5),
 oo 4 <| .mv (.t 17)]
def rQa4X6 : List O := [
 oo 18 <| .bin .add (.t 8) (ki 1),
 oo 8 <| .mv (.t 18)]
def lQa4X0 : C := (.seq (.reg rQa4X2 false [] [0,1,7,8,9]) (.seq (.cond (.t 9) .skip (.exit 0)) (.seq (.blk 1 (.seq (.reg rQa4X3 false [] [0,1,5,7,8]) (.seq (.reg rQa4X4 false [] [0,1,5,7,8,16]) (.cond (.t 16) (.seq (.reg rQa4X5 false [] [4]) .ret) .skip)))) (.reg rQa4X6 false [] [0,1,7,8]))))
def rQa4X7 : List O := [
 oo 4 <| .mv (.k (.int .i64 (-1)))]
def cQa4 : C := (.seq (.reg rQa4X0 false [] [0,1]) (.seq (.seq (.reg rQa4X1 false [] [0,1,7,8]) (.blk 0 (.loop lQa4X0))) (.seq (.reg rQa4X7 false [] [4]) .ret)))
def qQa4 : AFn := ⟨19,2,[.t 4],cQa4⟩
/- math/bits.OnesCount64 -/
def rQIX0 : List O := [
 oo 2 <| .mv (ki 0)]
def rQIX1 : List O := [
 oo 3 <| .mv (.t 0),
 oo 4 <| .bin .shr (.t 3) (.k (.int .u64 1)),
 oo 5 <| .bin .and (.t 4) (.k (.int .u64 6148914691236517205)),
 oo 6 <| .mv (.t 0),
 oo 7 <| .bin .and (.t 6) (.k (.int .u64 6148914691236517205)),
 oo 8 <| .bin .add (.t 5) (.t 7),
 oo 0 <| .mv (.t 8)]
def rQIX2 : List O := [
 oo 9 <| .mv (.t 0),
 oo 10 <| .bin .shr (.t 9) (.k (.int .u64 2)),
 oo 11 <| .bin .and (.t 10) (.k (.int .u64 3689348814741910323)),
 oo 12 <| .mv (.t 0),
 oo 13 <| .bin .and (.t 12) (.k (.int .u64 3689348814741910323)),
 oo 14 <| .bin .add (.t 11) (.t 13),
 oo 0 <| .mv (.t 14)]
def rQIX3 : List O := [
 oo 15 <| .mv (.t 0),
 oo 16 <| .bin .shr (.t 15) (.k (.int .u64 4)),
 oo 17 <| .mv (.t 0),
 oo 18 <| .bin .add (.t 16) (.t 17),
 oo 19 <| .bin .and (.t 18) (.k (.int .u64 1085102592571150095)),
 oo 0 <| .mv (.t 19)]
def rQIX4 : List O := [
 oo 20 <| .mv (.t 0),
 oo 21 <| .mv (.t 0),
 oo 22 <| .bin .shr (.t 21) (.k (.int .u64 8)),
 oo 23 <| .bin .add (.t 20) (.t 22),
 oo 0 <| .mv (.t 23)]
def rQIX5 : List O := [
 oo 24 <| .mv (.t 0),
 oo 25 <| .mv (.t 0),
 oo 26 <| .bin .shr (.t 25) (.k (.int .u64 16)),
 oo 27 <| .bin .add (.t 24) (.t 26),
 oo 0 <| .mv (.t 27)]
def rQIX6 : List O := [
 oo 28 <| .mv (.t 0),
 oo 29 <| .mv (.t 0),
 oo 30 <| .bin .shr (.t 29) (.k (.int .u64 32)),
 oo 31 <| .bin .add (.t 28) (.t 30),
 oo 0 <| .mv (.t 31)]
def rQIX7 : List O := [
 oo 32 <| .mv (.t 0),
 oo 33 <| .cvt .i64 (.t 32),
 oo 34 <| .bin .and (.t 33) (ki 127),
 oo 2 <| .mv (.t 34)]
def cQI : C := (.seq (.reg rQIX0 false [] [0]) (.seq (.reg rQIX1 false [] [0]) (.seq (.reg rQIX2 false [] [0]) (.seq (.reg rQIX3 false [] [0]) (.seq (.reg rQIX4 false [] [0]) (.seq (.reg rQIX5 false [] [0]) (.seq (.reg rQIX6 false [] [0]) (.seq (.reg rQIX7 false [] [2]) .ret))))))))
def qQI : AFn := ⟨35,1,[.t 2],cQI⟩
/- cohesion/core.Numbers -/
def rQa5X0 : List O := [
 oo 1 <| .box (.t 0),
 oo 2 <| .mv (.k .nils),
 oo 3 <| .mv (ki 0)]
def rQa5X1 : List O := [
 oo 7 <| .ld (some 2) (.t 1),
 oo 8 <| .call nQt [(.t 7)],
 oo 4 <| .mv (.t 8)]
def rQa5X2 : List O := [
 oo 9 <| .mv (.t 4),
 oo 10 <| .bin .neq (.t 9) (ki 0)]
def rQa5X3 : List O := [
 oo 11 <| .mv (.t 4),
 oo 2 <| .mv (.k .nils),
 oo 3 <| .mv (.t 11)]
def rQa5X4 : List O := [
 oo 13 <| .ld (some 2) (.t 1),
 oo 14 <| .call nQa2 [(.t 13)],
 oo 12 <| .mv (.t 14),
 oo 15 <| .ext 0 (.t 12),
 oo 16 <| .ext 1 (.t 12),
 oo 5 <| .mv (.t 15),
 oo 6 <| .mv (.t 16)]
def rQa5X5 : List O := [
 oo 17 <| .mv (.t 6),
 oo 2 <| .mv (.t 17),
 oo 3 <| .mv (ki 0)]
def cQa5 : C := (.seq (.reg rQa5X0 false [] [1]) (.seq (.seq (.reg rQa5X1 false [] [1,4]) (.seq (.reg rQa5X2 false [] [1,4,10]) (.cond (.t 10) (.seq (.reg rQa5X3 false [] [2,3]) .ret) .skip))) (.seq (.reg rQa5X4 false [] [6]) (.seq (.reg rQa5X5 false [] [2,3]) .ret))))
def qQa5 : AFn := ⟨18,1,[.t 2,.t 3],cQa5⟩
/- cmp.Or[int] -/
def rQOX0 : List O := [
 oo 2 <| .mv (ki 0)]
def rQOX1 : List O := [
 oo 3 <| .mv (ki 0)]
def rQOX2 : List O := [
 oo 6 <| .mv (.t 0),
 oo 7 <| .len (.t 6),
 oo 8 <| .mv (ki 0)]
def rQOX3 : List O := [
 oo 9 <| .bin .lss (.t 8) (.t 7)]
def rQOX4 : List O := [
 oo 10 <| .ixa 1 (.t 6) (.t 8),
 oo 11 <| .ld none (.t 10),
 oo 5 <| .mv (.t 11)]
def rQOX5 : List O := [
 oo 12 <| .mv (.t 5),
 oo 13 <| .mv (.t 3),
 oo 14 <| .bin .neq (.t 12) (.t 13)]
def rQOX6 : List O := [
 oo 15 <| .mv (.t 5),
 oo 2 <| .mv (.t 15)]
def rQOX7 : List O := [
 oo 16 <| .bin .add (.t 8) (ki 1),
 oo 8 <| .mv (.t 16)]
def lQOX0 : C := (.seq (.reg rQOX3 false [] [3,6,7,8,9]) (.seq (.cond (.t 9) .skip (.exit 0)) (.seq (.blk 1 (.seq (.reg rQOX4 false [] [3,5,6,7,8]) (.seq (.reg rQOX5 false [] [3,5,6,7,8,14]) (.cond (.t 14) (.seq (.reg rQOX6 false [] [2]) .ret) .skip)))) (.reg rQOX7 false [] [3,6,7,8]))))
def rQOX8 : List O := [
 oo 17 <| .mv (.t 3),
 oo 2 <| .mv (.t 17)]
def cQO : C := (.seq (.reg rQOX0 false [] [0]) (.seq (.reg rQOX1 false [] [0,3]) (.seq (.seq (.reg rQOX2 false [] [3,6,7,8]) (.blk 0 (.loop lQOX0))) (.seq (.reg rQOX8 false [] [2]) .ret))))
def qQO : AFn := ⟨18,1,[.t 2],cQO⟩
/- cmp.Compare[int] -/
def rQPX0 : List O := [
 oo 4 <| .mv (ki 0)]
def rQPX1 : List O := [
 oo 7 <| .mv (.t 0),
 oo 8 <| .call nQS [(.t 7)],
 oo 5 <| .mv (.t 8)]
def rQPX2 : List O := [
 oo 9 <| .mv (.t 1),
 oo 10 <| .call nQS [(.t 9)],
 oo 6 <| .mv (.t 10)]
def rQPX3 : List O := [
 oo 11 <| .mv (.t 5)]
def rQPX4 : List O := [
 oo 12 <| .mv (.t 6)]
def rQPX5 : List O := [
 oo 4 <| .mv (ki 0)]
def rQPX6 : List O := [
 oo 4 <| .mv (.k (.int .i64 (-1)))]
def rQPX7 : List O := [
 oo 13 <| .mv (.t 6)]
def rQPX8 : List O := [
 oo 4 <| .mv (ki 1)]
def rQPX9 : List O := [
 oo 14 <| .mv (.t 0),
 oo 15 <| .mv (.t 1),
 oo 16 <| .bin .lss (.t 14) (.t 15)]
def rQPX10 : List O := [
 oo 4 <| .mv (.k (.int .i64 (-1)))]
def rQPX11 : List O := [
 oo 17 <| .mv (.t 0),
 oo 18 <| .mv (.t 1),
 oo 19 <| .bin .gtr (.t 17) (.t 18)]
def rQPX12 : List O := [
 oo 4 <| .mv (ki 1)]
def rQPX13 : List O := [
 oo 4 <| .mv (ki 0)]
def cQP : C := (.seq (.reg rQPX0 false [] [0,1]) (.seq (.reg rQPX1 false [] [0,1,5]) (.seq (.reg rQPX2 false [] [0,1,5,6]) (.seq (.seq (.reg rQPX3 false [] [0,1,6,11]) (.cond (.t 11) (.seq (.seq (.reg rQPX4 false [] [12]) (.cond (.t 12) (.seq (.reg rQPX5 false [] [4]) .ret) .skip)) (.seq (.reg rQPX6 false [] [4]) .ret)) .skip)) (.seq (.seq (.reg rQPX7 false [] [0,1,13]) (.cond (.t 13) (.seq (.reg rQPX8 false [] [4]) .ret) .skip)) (.seq (.seq (.reg rQPX9 false [] [0,1,16]) (.cond (.t 16) (.seq (.reg rQPX10 false [] [4]) .ret) .skip)) (.seq (.seq (.reg rQPX11 false [] [19]) (.cond (.t 19) (.seq (.reg rQPX12 false [] [4]) .ret) .skip)) (.seq (.reg rQPX13 false [] [4]) .ret))))))))
def qQP : AFn := ⟨20,2,[.t 4],cQP⟩
/- cohesion/nodeset.merged[int] -/
def rQa6X0 : List O := [
 oo 6 <| .mv (.k .nils)]
def rQa6X1 : List O := [
 oo 11 <| .mv (.t 0),
 oo 12 <| .call nQb5 [(.t 11)],
 oo 13 <| .mv (.t 1),
 oo 14 <| .call nQb5 [(.t 13)],
 oo 0 <| .mv (.t 12),
 oo 1 <| .mv (.t 14)]
def rQa6X2 : List O := [
 oo 15 <| .mv (.t 0),
 oo 16 <| .call nQb6 [(.t 15)]]
def rQa6X3 : List O := [
 oo 17 <| .mv (.t 1),
 oo 18 <| .call nQb6 [(.t 17)]]
def rQa6X4 : List O := [
 oo 19 <| .mv (.t 0),
 oo 20 <| .call nQb7 [(.t 19)],
 oo 21 <| .mv (.t 1),
 oo 22 <| .call nQb7 [(.t 21)],
 oo 0 <| .mv (.t 20),
 oo 1 <| .mv (.t 22)]
def rQa6X5 : List O := [
 oo 7 <| .mv (.k .nils)]
def rQa6X6 : List O := [
 oo 23 <| .mv (.t 0),
 oo 24 <| .len (.t 23),
 oo 25 <| .bin .gtr (.t 24) (ki 0),
 oo 26 <| .mv (.t 25),
 ⟨(some 27),(some (26,false)),.mv (.t 1)⟩,
 ⟨(some 28),(some (26,false)),.len (.t 27)⟩,
 ⟨(some 29),(some (26,false)),.bin .gtr (.t 28) (ki 0)⟩,
 oo 30 <| .pick (.t 26) (.k (.bool true)) (.t 29)]
def rQa6X7 : List O := [
 oo 31 <| .mv (.t 1),
 oo 32 <| .len (.t 31),
 oo 33 <| .bin .eql (.t 32) (ki 0),
 oo 34 <| .mv (.t 33),
 ⟨(some 35),(some (34,false)),.mv (.t 0)⟩,
 ⟨(some 36),(some (34,false)),.len (.t 35)⟩,
 ⟨(some 37),(some (34,false)),.bin .gtr (.t 36) (ki 0)⟩,
 ⟨(some 38),(some (34,false)),.mv (.t 37)⟩,
 ⟨(some 39),(some (38,true)),.mv (.t 0)⟩,
 ⟨(some 40),(some (38,true)),.ixa 1 (.t 39) (ki 0)⟩,
 ⟨(some 41),(some (38,true)),.ld none (.t 40)⟩,
 ⟨(some 42),(some (38,true)),.mv (.t 1)⟩,
 ⟨(some 43),(some (38,true)),.ixa 1 (.t 42) (ki 0)⟩,
 ⟨(some 44),(some (38,true)),.ld none (.t 43)⟩,
 ⟨(some 45),(some (38,true)),.bin .leq (.t 41) (.t 44)⟩,
 ⟨(some 46),(some (34,false)),.pick (.t 38) (.t 45) (.k (.bool false))⟩,
 oo 47 <| .pick (.t 34) (.k (.bool true)) (.t 46),
 oo 8 <| .mv (.t 47)]
def rQa6X8 : List O := [
 oo 48 <| .mv (.t 0),
 oo 49 <| .len (.t 48),
 oo 50 <| .bin .eql (.t 49) (ki 0),
 oo 51 <| .mv (.t 50),
 ⟨(some 52),(some (51,false)),.mv (.t 1)⟩,
 ⟨(some 53),(some (51,false)),.len (.t 52)⟩,
 ⟨(some 54),(some (51,false)),.bin .gtr (.t 53) (ki 0)⟩,
 ⟨(some 55),(some (51,false)),.mv (.t 54)⟩,
 ⟨(some 56),(some (55,true)),.mv (.t 1)⟩,
 ⟨(some 57),(some (55,true)),.ixa 1 (.t 56) (ki 0)⟩,
 ⟨(some 58),(some (55,true)),.ld none (.t 57)⟩,
 ⟨(some 59),(some (55,true)),.mv (.t 0)⟩,
 ⟨(some 60),(some (55,true)),.ixa 1 (.t 59) (ki 0)⟩,
 ⟨(some 61),(some (55,true)),.ld none (.t 60)⟩,
 ⟨(some 62),(some (55,true)),.bin .leq (.t 58) (.t 61)⟩,
 ⟨(some 63),(some (51,false)),.pick (.t 55) (.t 62) (.k (.bool false))⟩,
 oo 64 <| .pick (.t 51) (.k (.bool true)) (.t 63),
 oo 9 <| .mv (.t 64)]
def rQa6X9 : List O := [
 oo 10 <| .mv (ki 0)]
def rQa6X10 : List O := [
 oo 65 <| .mv (.t 8)]
def rQa6X11 : List O := [
 oo 66 <| .mv (.t 0),
 oo 67 <| .ixa 1 (.t 66) (ki 0),
 oo 68 <| .ld none (.t 67),
 oo 69 <| .mv (.t 0),
 oo 70 <| .slc 1 (.t 69) (some (ki 1)) none,
 oo 10 <| .mv (.t 68),
 oo 0 <| .mv (.t 70)]
def rQa6X12 : List O := [
 oo 71 <| .mv (.t 9)]
def rQa6X13 : List O := [
 oo 72 <| .mv (.t 1),
 oo 73 <| .ixa 1 (.t 72) (ki 0),
 oo 74 <| .ld none (.t 73),
 oo 75 <| .mv (.t 1),
 oo 76 <| .slc 1 (.t 75) (some (ki 1)) none,
 oo 10 <| .mv (.t 74),
 oo 1 <| .mv (.t 76)]
def rQa6X14 : List O := [
 oo 77 <| .mv (.t 2),
 oo 78 <| .mv (.t 8),
 oo 79 <| .mv (.t 9),
 oo 80 <| .callv (.t 77) [(.t 78),(.t 79)]]
def rQa6X15 : List O := [
 oo 81 <| .mv (.t 7),
 oo 82 <| .mv (.t 10),
 oo 83 <| .bslice 1 1 [(.int .i64 0)] [(0,1,(.t 82))],
 oo 84 <| .app 1 (.t 81) (.t 83),
 oo 7 <| .mv (.t 84)]
def lQa6X0 : C := (.seq (.seq (.reg rQa6X6 false [] [0,1,2,7,30]) (.cond (.t 30) .skip (.exit 0))) (.blk 1 (.seq (.reg rQa6X7 true [(10,13)] [0,1,2,7,8]) (.seq (.reg rQa6X8 true [(10,13)] [0,1,2,7,8,9]) (.seq (.reg rQa6X9 false [] [0,1,2,7,8,9,10]) (.seq (.seq (.reg rQa6X10 false [] [0,1,2,7,8,9,10,65]) (.cond (.t 65) (.reg rQa6X11 true [] [0,1,2,7,8,9,10]) .skip)) (.seq (.seq (.reg rQa6X12 false [] [0,1,2,7,8,9,10,71]) (.cond (.t 71) (.reg rQa6X13 true [] [0,1,2,7,8,9,10]) .skip)) (.seq (.reg rQa6X14 false [] [0,1,2,7,10,80]) (.cond (.t 80) (.reg rQa6X15 false [] [0,1,2,7]) .skip)))))))))
def rQa6X16 : List O := [
 oo 85 <| .mv (.t 7),
 oo 6 <| .mv (.t 85)]
def cQa6 : C := (.seq (.reg rQa6X0 false [] [0,1,2]) (.seq (.reg rQa6X1 false [] [0,1,2]) (.seq (.reg rQa6X2 false [] [0,1,2]) (.seq (.reg rQa6X3 false [] [0,1,2]) (.seq (.reg rQa6X4 false [] [0,1,2]) (.seq (.reg rQa6X5 false [] [0,1,2,7]) (.seq (.blk 0 (.loop lQa6X0)) (.seq (.reg rQa6X16 false [] [6]) .ret))))))))
def qQa6 : AFn := ⟨86,3,[.t 6],cQa6⟩
/- cohesion/nodeset.Union$1 -/
def rQa7X0 : List O := [
 oo 4 <| .mv (.k (.bool false))]
def rQa7X1 : List O := [
 oo 4 <| .mv (.k (.bool true))]
def cQa7 : C := (.seq (.reg rQa7X0 false [] []) (.seq (.reg rQa7X1 false [] [4]) .ret))
def qQa7 : AFn := ⟨5,2,[.t 4],cQa7⟩
/- math/bits.Mul32 -/
def rQa8X0 : List O := [
 oo 4 <| .mv (.k (.int .u32 0)),
 oo 5 <| .mv (.k (.int .u32 0))]
def rQa8X1 : List O := [
 oo 7 <| .mv (.t 0),
 oo 8 <| .cvt .u64 (.t 7),
 oo 9 <| .mv (.t 1),
 oo 10 <| .cvt .u64 (.t 9),
 oo 11 <| .bin .mul (.t 8) (.t 10),
 oo 6 <| .mv (.t 11)]
def rQa8X2 : List O := [
 oo 12 <| .mv (.t 6),
 oo 13 <| .bin .shr (.t 12) (.k (.int .u64 32)),
 oo 14 <| .cvt .u32 (.t 13),
 oo 15 <| .mv (.t 6),
 oo 16 <| .cvt .u32 (.t 15),
 oo 4 <| .mv (.t 14),
 oo 5 <| .mv (.t 16)]
def cQa8 : C := (.seq (.reg rQa8X0 false [] [0,1]) (.seq (.reg rQa8X1 false [] [6]) (.seq (.reg rQa8X2 false [] [4,5]) .ret)))
def qQa8 : AFn := ⟨17,2,[.t 4,.t 5],cQa8⟩
/- math/bits.Mul64 -/
def rQa9X0 : List O := [
 oo 4 <| .mv (.k (.int .u64 0)),
 oo 5 <| .mv (.k (.int .u64 0))]
def rQa9X1 : List O := [
 oo 14 <| .mv (.t 0),
 oo 15 <| .bin .and (.t 14) (.k (.int .u64 4294967295)),
 oo 6 <| .mv (.t 15)]
def rQa9X2 : List O := [
 oo 16 <| .mv (.t 0),
 oo 17 <| .bin .shr (.t 16) (.k (.int .u64 32)),
 oo 7 <| .mv (.t 17)]
def rQa9X3 : List O := [
 oo 18 <| .mv (.t 1),
 oo 19 <| .bin .and (.t 18) (.k (.int .u64 4294967295)),
 oo 8 <| .mv (.t 19)]
def rQa9X4 : List O := [
 oo 20 <| .mv (.t 1),
 oo 21 <| .bin .shr (.t 20) (.k (.int .u64 32)),
 oo 9 <| .mv (.t 21)]
def rQa9X5 : List O := [
 oo 22 <| .mv (.t 6),
 oo 23 <| .mv (.t 8),
 oo 24 <| .bin .mul (.t 22) (.t 23),
 oo 10 <| .mv (.t 24)]
def rQa9X6 : List O := [
 oo 25 <| .mv (.t 7),
 oo 26 <| .mv (.t 8),
 oo 27 <| .bin .mul (.t 25) (.t 26),
 oo 28 <| .mv (.t 10),
 oo 29 <| .bin .shr (.t 28) (.k (.int .u64 32)),
 oo 30 <| .bin .add (.t 27) (.t 29),
 oo 11 <| .mv (.t 30)]
def rQa9X7 : List O := [
 oo 31 <| .mv (.t 11),
 oo 32 <| .bin .and (.t 31) (.k (.int .u64 4294967295)),
 oo 12 <| .mv (.t 32)]
def rQa9X8 : List O := [
 oo 33 <| .mv (.t 11),
 oo 34 <| .bin .shr (.t 33) (.k (.int .u64 32)),
 oo 13 <| .mv (.t 34)]
def rQa9X9 : List O := [
 oo 35 <| .mv (.t 12),
 oo 36 <| .mv (.t 6),
 oo 37 <| .mv (.t 9),
 oo 38 <| .bin .mul (.t 36) (.t 37),
 oo 39 <| .bin .add (.t 35) (.t 38),
 oo 12 <| .mv (.t 39)]
def rQa9X10 : List O := [
 oo 40 <| .mv (.t 7),
 oo 41 <| .mv (.t 9),
 oo 42 <| .bin .mul (.t 40) (.t 41),
 oo 43 <| .mv (.t 13),
 oo 44 <| .bin .add (.t 42) (.t 43),
 oo 45 <| .mv (.t 12),
 oo 46 <| .bin .shr (.t 45) (.k (.int .u64 32)),
 oo 47 <| .bin .add (.t 44) (.t 46),
 oo 4 <| .mv (.t 47)]
def rQa9X11 : List O := [
 oo 48 <| .mv (.t 0),
 oo 49 <| .mv (.t 1),
 oo 50 <| .bin .mul (.t 48) (.t 49),
 oo 5 <| .mv (.t 50)]
def cQa9 : C := (.seq (.reg rQa9X0 false [] [0,1]) (.seq (.reg rQa9X1 false [] [0,1,6]) (.seq (.reg rQa9X2 false [] [0,1,6,7]) (.seq (.reg rQa9X3 false [] [0,1,6,7,8]) (.seq (.reg rQa9X4 false [] [0,1,6,7,8,9]) (.seq (.reg rQa9X5 false [] [0,1,6,7,8,9,10]) (.seq (.reg rQa9X6 false [] [0,1,6,7,9,11]) (.seq (.reg rQa9X7 false [] [0,1,6,7,9,11,12]) (.seq (.reg rQa9X8 false [] [0,1,6,7,9,12,13]) (.seq (.reg rQa9X9 false [] [0,1,7,9,12,13]) (.seq (.reg rQa9X10 false [] [0,1,4]) (.seq (.reg rQa9X11 false [] [4,5]) .ret))))))))))))
def qQa9 : AFn := ⟨51,2,[.t 4,.t 5],cQa9⟩
/- cohesion/masks.Rows -/
def rQb0X0 : List O := [
 oo 1 <| .box (.t 0),
 oo 2 <| .mv (.k .nils)]
def rQb0X1 : List O := [
 oo 6 <| .fad 0 (.t 1),
 oo 7 <| .ld none (.t 6),
 oo 8 <| .max [(.t 7),(ki 0)],
 oo 9 <| .min [(.t 8),(ki 64)],
 oo 10 <| .mks 1 [(.int .u64 0)] (.t 9) (.t 9),
 oo 3 <| .mv (.t 10)]
def rQb0X2 : List O := [
 oo 11 <| .fad 1 (.t 1),
 oo 12 <| .ld none (.t 11),
 oo 13 <| .len (.t 12),
 oo 14 <| .mv (ki 0)]
def rQb0X3 : List O := [
 oo 15 <| .bin .lss (.t 14) (.t 13)]
def rQb0X4 : List O := [
 oo 16 <| .ixa 2 (.t 12) (.t 14),
 oo 17 <| .ld (some 2) (.t 16),
 oo 5 <| .new [(.int .i64 0),(.int .i64 0)],
 oz <| .st 2 (.t 5) (.t 17)]
def rQb0X5 : List O := [
 oo 18 <| .fad 0 (.t 5),
 oo 19 <| .ld none (.t 18),
 oo 20 <| .bin .geq (.t 19) (ki 0),
 oo 21 <| .mv (.t 20),
 ⟨(some 22),(some (21,true)),.fad 0 (.t 5)⟩,
 ⟨(some 23),(some (21,true)),.ld none (.t 22)⟩,
 ⟨(some 24),(some (21,true)),.fad 1 (.t 5)⟩,
 ⟨(some 25),(some (21,true)),.ld none (.t 24)⟩,
 ⟨(some 26),(some (21,true)),.bin .lss (.t 23) (.t 25)⟩,
 oo 27 <| .pick (.t 21) (.t 26) (.k (.bool false)),
 oo 28 <| .mv (.t 27),
 ⟨(some 29),(some (28,true)),.fad 1 (.t 5)⟩,
 ⟨(some 30),(some (28,true)),.ld none (.t 29)⟩,
 ⟨(some 31),(some (28,true)),.mv (.t 3)⟩,
 ⟨(some 32),(some (28,true)),.len (.t 31)⟩,
 ⟨(some 33),(some (28,true)),.bin .lss (.t 30) (.t 32)⟩,
 oo 34 <| .pick (.t 28) (.t 33) (.k (.bool false))]
def rQb0X6 : List O := [
 oo 35 <| .mv (.t 3),
 oo 36 <| .fad 0 (.t 5),
 oo 37 <| .ld none (.t 36),
 oo 38 <| .ixa 1 (.t 35) (.t 37),
 oo 39 <| .ld none (.t 38),
 oo 40 <| .fad 1 (.t 5),
 oo 41 <| .ld none (.t 40),
 oo 42 <| .bin .shl (.k (.int .u64 1)) (.t 41),
 oo 43 <| .bin .or (.t 39) (.t 42),
 oo 44 <| .ixa 1 (.t 35) (.t 37),
 oz <| .st 1 (.t 44) (.t 43)]
def rQb0X7 : List O := [
 oo 45 <| .mv (.t 3),
 oo 46 <| .fad 1 (.t 5),
 oo 47 <| .ld none (.t 46),
 oo 48 <| .ixa 1 (.t 45) (.t 47),
 oo 49 <| .ld none (.t 48),
 oo 50 <| .fad 0 (.t 5),
 oo 51 <| .ld none (.t 50),
 oo 52 <| .bin .shl (.k (.int .u64 1)) (.t 51),
 oo 53 <| .bin .or (.t 49) (.t 52),
 oo 54 <| .ixa 1 (.t 45) (.t 47),
 oz <| .st 1 (.t 54) (.t 53)]
def rQb0X8 : List O := [
 oo 55 <| .bin .add (.t 14) (ki 1),
 oo 14 <| .mv (.t 55)]
def lQb0X0 : C := (.seq (.reg rQb0X3 false [] [3,12,13,14,15]) (.seq (.cond (.t 15) .skip (.exit 0)) (.seq (.blk 1 (.seq (.reg rQb0X4 false [] [3,5,12,13,14]) (.seq (.reg rQb0X5 false [] [3,5,12,13,14,34]) (.cond (.t 34) (.seq (.reg rQb0X6 true [(2,6),(4,6)] [3,5,12,13,14]) (.reg rQb0X7 true [(2,6),(4,6)] [3,12,13,14])) .skip)))) (.reg rQb0X8 false [] [3,12,13,14]))))
def rQb0X9 : List O := [
 oo 56 <| .mv (.t 3),
 oo 2 <| .mv (.t 56)]
def cQb0 : C := (.seq (.reg rQb0X0 false [] [1]) (.seq (.reg rQb0X1 false [] [1,3]) (.seq (.seq (.reg rQb0X2 false [] [3,12,13,14]) (.blk 0 (.loop lQb0X0))) (.seq (.reg rQb0X9 false [] [2]) .ret))))
def qQb0 : AFn := ⟨57,1,[.t 2],cQb0⟩
/- cohesion/masks.Count -/
def rQb1X0 : List O := [
 oo 2 <| .mv (ki 0)]
def rQb1X1 : List O := [
 oo 3 <| .mv (.t 0),
 oo 4 <| .call nQI [(.t 3)],
 oo 2 <| .mv (.t 4)]
def cQb1 : C := (.seq (.reg rQb1X0 false [] [0]) (.seq (.reg rQb1X1 false [] [2]) .ret))
def qQb1 : AFn := ⟨5,1,[.t 2],cQb1⟩
/- cohesion/masks.Bit -/
def rQb2X0 : List O := [
 oo 2 <| .mv (.k (.int .u64 0))]
def rQb2X1 : List O := [
 oo 3 <| .mv (.t 0),
 oo 4 <| .bin .lss (.t 3) (ki 0),
 oo 5 <| .mv (.t 4),
 ⟨(some 6),(some (5,false)),.mv (.t 0)⟩,
 ⟨(some 7),(some (5,false)),.bin .geq (.t 6) (ki 64)⟩,
 oo 8 <| .pick (.t 5) (.k (.bool true)) (.t 7)]
def rQb2X2 : List O := [
 oo 2 <| .mv (.k (.int .u64 0))]
def rQb2X3 : List O := [
 oo 9 <| .mv (.t 0),
 oo 10 <| .bin .shl (.k (.int .u64 1)) (.t 9),
 oo 2 <| .mv (.t 10)]
def cQb2 : C := (.seq (.reg rQb2X0 false [] [0]) (.seq (.seq (.reg rQb2X1 false [] [0,8]) (.cond (.t 8) (.seq (.reg rQb2X2 false [] [2]) .ret) .skip)) (.seq (.reg rQb2X3 false [] [2]) .ret)))
def qQb2 : AFn := ⟨11,1,[.t 2],cQb2⟩
/- cohesion/masks.All -/
def rQb3X0 : List O := [
 oo 2 <| .mv (.k (.int .u64 0))]
def rQb3X1 : List O := [
 oo 4 <| .mv (.t 0),
 oo 5 <| .bin .leq (.t 4) (ki 0),
 oo 3 <| .mv (.t 5)]
def rQb3X2 : List O := [
 oo 2 <| .mv (.k (.int .u64 0))]
def rQb3X3 : List O := [
 oo 7 <| .mv (.t 0),
 oo 8 <| .bin .geq (.t 7) (ki 64),
 oo 6 <| .mv (.t 8)]
def rQb3X4 : List O := [
 oo 2 <| .mv (.k (.int .u64 18446744073709551615))]
def rQb3X5 : List O := [
 oo 9 <| .mv (.t 0),
 oo 10 <| .bin .shl (.k (.int .u64 1)) (.t 9),
 oo 11 <| .bin .sub (.t 10) (.k (.int .u64 1)),
 oo 2 <| .mv (.t 11)]
def cQb3 : C := (.seq (.reg rQb3X0 false [] [0]) (.seq (.blk 0 (.seq (.reg rQb3X1 false [] [0,3]) (.cond (.t 3) (.seq (.reg rQb3X2 false [] [2]) .ret) (.seq (.reg rQb3X3 false [] [0,6]) (.cond (.t 6) (.seq (.reg rQb3X4 false [] [2]) .ret) .skip))))) (.seq (.reg rQb3X5 false [] [2]) .ret)))
def qQb3 : AFn := ⟨12,1,[.t 2],cQb3⟩
/- cohesion/masks.Least -/
def rQb4X0 : List O := [
 oo 2 <| .mv (ki 0)]
def rQb4X1 : List O := [
 oo 3 <| .mv (.t 0),
 oo 4 <| .call nQA [(.t 3)],
 oo 2 <| .mv (.t 4)]
def cQb4 : C := (.seq (.reg rQb4X0 false [] [0]) (.seq (.reg rQb4X1 false [] [2]) .ret))
def qQb4 : AFn := ⟨5,1,[.t 2],cQb4⟩
/- cmp.isNaN[int] -/
def rQSX0 : List O := [
 oo 2 <| .mv (.k (.bool false))]
def rQSX1 : List O := [
 oo 3 <| .mv (.t 0),
 oo 4 <| .mv (.t 0),
 oo 5 <| .bin .neq (.t 3) (.t 4),
 oo 2 <| .mv (.t 5)]
def cQS : C := (.seq (.reg rQSX0 false [] [0]) (.seq (.reg rQSX1 false [] [2]) .ret))
def qQS : AFn := ⟨6,1,[.t 2],cQS⟩
/- slices.Clone[[]int,int] -/
def rQb5X0 : List O := [
 oo 2 <| .mv (.k .nils)]
def rQb5X1 : List O := [
 oo 3 <| .mv (.t 0),
 oo 4 <| .eq false .nsl (.t 3) (.k .nils)]
def rQb5X2 : List O := [
 oo 2 <| .mv (.k .nils)]
def rQb5X3 : List O := [
 oo 5 <| .bslice 1 0 [(.int .i64 0)] [],
 oo 6 <| .mv (.t 0),
 oo 7 <| .app 1 (.t 5) (.t 6),
 oo 2 <| .mv (.t 7)]
def cQb5 : C := (.seq (.reg rQb5X0 false [] [0]) (.seq (.seq (.reg rQb5X1 false [] [0,4]) (.cond (.t 4) (.seq (.reg rQb5X2 false [] [2]) .ret) .skip)) (.seq (.reg rQb5X3 false [] [2]) .ret)))
def qQb5 : AFn := ⟨8,1,[.t 2],cQb5⟩
/- slices.Sort[[]int,int] -/
def rQb6X0 : List O := [
 oo 3 <| .mv (.t 0),
 oo 4 <| .len (.t 3),
 oo 2 <| .mv (.t 4)]
def rQb6X1 : List O := [
 oo 5 <| .mv (.t 0),
 oo 6 <| .mv (.t 2),
 oo 7 <| .mv (.t 2),
 oo 8 <| .cvt .u64 (.t 7),
 oo 9 <| .call nQb9 [(.t 8)],
 oo 10 <| .call nQb8 [(.t 5),(ki 0),(.t 6),(.t 9)]]
def cQb6 : C := (.seq (.reg rQb6X0 false [] [0,2]) (.reg rQb6X1 false [] []))
def qQb6 : AFn := ⟨11,1,[],cQb6⟩
/- slices.Compact[[]int,int] -/
def rQb7X0 : List O := [
 oo 2 <| .mv (.k .nils)]
def rQb7X1 : List O := [
 oo 6 <| .mv (.t 0),
 oo 7 <| .len (.t 6),
 oo 8 <| .bin .lss (.t 7) (ki 2)]
def rQb7X2 : List O := [
 oo 9 <| .mv (.t 0),
 oo 2 <| .mv (.t 9)]
def rQb7X3 : List O := [
 oo 3 <| .mv (ki 1)]
def rQb7X4 : List O := [
 oo 10 <| .mv (.t 3),
 oo 11 <| .mv (.t 0),
 oo 12 <| .len (.t 11),
 oo 13 <| .bin .lss (.t 10) (.t 12)]
def rQb7X5 : List O := [
 oo 16 <| .mv (.t 0),
 oo 17 <| .mv (.t 3),
 oo 18 <| .ixa 1 (.t 16) (.t 17),
 oo 19 <| .ld none (.t 18),
 oo 20 <| .mv (.t 0),
 oo 21 <| .mv (.t 3),
 oo 22 <| .bin .sub (.t 21) (ki 1),
 oo 23 <| .ixa 1 (.t 20) (.t 22),
 oo 24 <| .ld none (.t 23),
 oo 25 <| .bin .eql (.t 19) (.t 24)]
def rQb7X6 : List O := [
 oo 26 <| .mv (.t 0),
 oo 27 <| .mv (.t 3),
 oo 28 <| .slc 1 (.t 26) (some (.t 27)) none,
 oo 4 <| .mv (.t 28)]
def rQb7X7 : List O := [
 oo 5 <| .mv (ki 1)]
def rQb7X8 : List O := [
 oo 29 <| .mv (.t 5),
 oo 30 <| .mv (.t 4),
 oo 31 <| .len (.t 30),
 oo 32 <| .bin .lss (.t 29) (.t 31)]
def rQb7X9 : List O := [
 oo 35 <| .mv (.t 4),
 oo 36 <| .mv (.t 5),
 oo 37 <| .ixa 1 (.t 35) (.t 36),
 oo 38 <| .ld none (.t 37),
 oo 39 <| .mv (.t 4),
 oo 40 <| .mv (.t 5),
 oo 41 <| .bin .sub (.t 40) (ki 1),
 oo 42 <| .ixa 1 (.t 39) (.t 41),
 oo 43 <| .ld none (.t 42),
 oo 44 <| .bin .neq (.t 38) (.t 43)]
def rQb7X10 : List O := [
 oo 45 <| .mv (.t 0),
 oo 46 <| .mv (.t 3),
 oo 47 <| .mv (.t 4),
 oo 48 <| .mv (.t 5),
 oo 49 <| .ixa 1 (.t 47) (.t 48),
 oo 50 <| .ld none (.t 49),
 oo 51 <| .ixa 1 (.t 45) (.t 46),
 oz <| .st 1 (.t 51) (.t 50)]
def rQb7X11 : List O := [
 oo 52 <| .mv (.t 3),
 oo 53 <| .bin .add (.t 52) (ki 1),
 oo 3 <| .mv (.t 53)]
def rQb7X12 : List O := [
 oo 33 <| .mv (.t 5),
 oo 34 <| .bin .add (.t 33) (ki 1),
 oo 5 <| .mv (.t 34)]
def lQb7X0 : C := (.seq (.seq (.reg rQb7X8 false [] [0,3,4,5,32]) (.cond (.t 32) .skip (.exit 2))) (.seq (.blk 3 (.seq (.reg rQb7X9 true [(3,8)] [0,3,4,5,44]) (.cond (.t 44) (.seq (.reg rQb7X10 false [] [0,3,4,5]) (.reg rQb7X11 false [] [0,3,4,5])) .skip))) (.reg rQb7X12 false [] [0,3,4,5])))
def rQb7X13 : List O := [
 oo 54 <| .mv (.t 0),
 oo 55 <| .mv (.t 3),
 oo 56 <| .slc 1 (.t 54) (some (.t 55)) none,
 oz <| .clr 1 [(.int .i64 0)] (.t 56)]
def rQb7X14 : List O := [
 oo 57 <| .mv (.t 0),
 oo 58 <| .mv (.t 3),
 oo 59 <| .slc 1 (.t 57) none (some (.t 58)),
 oo 2 <| .mv (.t 59)]
def rQb7X15 : List O := [
 oo 14 <| .mv (.t 3),
 oo 15 <| .bin .add (.t 14) (ki 1),
 oo 3 <| .mv (.t 15)]
def lQb7X1 : C := (.seq (.seq (.reg rQb7X4 false [] [0,3,13]) (.cond (.t 13) .skip (.exit 0))) (.seq (.blk 1 (.seq (.reg rQb7X5 true [(3,8)] [0,3,25]) (.cond (.t 25) (.seq (.reg rQb7X6 false [] [0,3,4]) (.seq (.seq (.reg rQb7X7 false [] [0,3,4,5]) (.blk 2 (.loop lQb7X0))) (.seq (.reg rQb7X13 false [] [0,3]) (.seq (.reg rQb7X14 false [] [2]) .ret)))) .skip))) (.reg rQb7X15 false [] [0,3])))
def rQb7X16 : List O := [
 oo 60 <| .mv (.t 0),
 oo 2 <| .mv (.t 60)]
def cQb7 : C := (.seq (.reg rQb7X0 false [] [0]) (.seq (.seq (.reg rQb7X1 false [] [0,8]) (.cond (.t 8) (.seq (.reg rQb7X2 false [] [2]) .ret) .skip)) (.seq (.seq (.reg rQb7X3 false [] [0,3]) (.blk 0 (.loop lQb7X1))) (.seq (.reg rQb7X16 false [] [2]) .ret))))
def qQb7 : AFn := ⟨61,1,[.t 2],cQb7⟩
/- slices.pdqsortOrdered[int] -/
def rQb8X0 : List O := [
 oo 8 <| .mv (.k (.bool true))]
def rQb8X1 : List O := [
 oo 9 <| .mv (.k (.bool true))]
def rQb8X2 : List O := [
 oo 19 <| .mv (.t 2),
 oo 20 <| .mv (.t 1),
 oo 21 <| .bin .sub (.t 19) (.t 20),
 oo 10 <| .mv (.t 21)]
def rQb8X3 : List O := [
 oo 22 <| .mv (.t 10),
 oo 23 <| .bin .leq (.t 22) (ki 12)]
def rQb8X4 : List O := [
 oo 24 <| .mv (.t 0),
 oo 25 <| .mv (.t 1),
 oo 26 <| .mv (.t 2),
 oo 27 <| .call nQc0 [(.t 24),(.t 25),(.t 26)]]
def rQb8X5 : List O := [
 oo 28 <| .mv (.t 3),
 oo 29 <| .bin .eql (.t 28) (ki 0)]
def rQb8X6 : List O := [
 oo 30 <| .mv (.t 0),
 oo 31 <| .mv (.t 1),
 oo 32 <| .mv (.t 2),
 oo 33 <| .call 94 [(.t 30),(.t 31),(.t 32)]]
def rQb8X7 : List O := [
 oo 34 <| .mv (.t 8),
 oo 35 <| .un .not (.t 34)]
def rQb8X8 : List O := [
 oo 36 <| .mv (.t 0),
 oo 37 <| .mv (.t 1),
 oo 38 <| .mv (.t 2),
 oo 39 <| .call 95 [(.t 36),(.t 37),(.t 38)]]
def rQb8X9 : List O := [
 oo 40 <| .mv (.t 3),
 oo 41 <| .bin .sub (.t 40) (ki 1),
 oo 3 <| .mv (.t 41)]
def rQb8X10 : List O := [
 oo 43 <| .mv (.t 0),
 oo 44 <| .mv (.t 1),
 oo 45 <| .mv (.t 2),
 oo 46 <| .call 96 [(.t 43),(.t 44),(.t 45)],
 oo 42 <| .mv (.t 46),
 oo 47 <| .ext 0 (.t 42),
 oo 48 <| .ext 1 (.t 42),
 oo 11 <| .mv (.t 47),
 oo 12 <| .mv (.t 48)]
def rQb8X11 : List O := [
 oo 49 <| .mv (.t 12),
 oo 50 <| .bin .eql (.t 49) (ki 2)]
def rQb8X12 : List O := [
 oo 51 <| .mv (.t 0),
 oo 52 <| .mv (.t 1),
 oo 53 <| .mv (.t 2),
 oo 54 <| .call 97 [(.t 51),(.t 52),(.t 53)]]
def rQb8X13 : List O := [
 oo 55 <| .mv (.t 2),
 oo 56 <| .bin .sub (.t 55) (ki 1),
 oo 57 <| .mv (.t 11),
 oo 58 <| .mv (.t 1),
 oo 59 <| .bin .sub (.t 57) (.t 58),
 oo 60 <| .bin .sub (.t 56) (.t 59),
 oo 11 <| .mv (.t 60)]
def rQb8X14 : List O := [
 oo 12 <| .mv (ki 1)]
def rQb8X15 : List O := [
 oo 61 <| .mv (.t 8),
 oo 62 <| .mv (.t 61),
 ⟨(some 63),(some (62,true)),.mv (.t 9)⟩,
 oo 64 <| .pick (.t 62) (.t 63) (.k (.bool false)),
 oo 65 <| .mv (.t 64),
 ⟨(some 66),(some (65,true)),.mv (.t 12)⟩,
 ⟨(some 67),(some (65,true)),.bin .eql (.t 66) (ki 1)⟩,
 oo 68 <| .pick (.t 65) (.t 67) (.k (.bool false))]
def rQb8X16 : List O := [
 oo 69 <| .mv (.t 0),
 oo 70 <| .mv (.t 1),
 oo 71 <| .mv (.t 2),
 oo 72 <| .call 98 [(.t 69),(.t 70),(.t 71)]]
def rQb8X17 : List O := [
 oo 73 <| .mv (.t 1),
 oo 74 <| .bin .gtr (.t 73) (ki 0),
 oo 75 <| .mv (.t 74),
 ⟨(some 76),(some (75,true)),.mv (.t 0)⟩,
 ⟨(some 77),(some (75,true)),.mv (.t 1)⟩,
 ⟨(some 78),(some (75,true)),.bin .sub (.t 77) (ki 1)⟩,
 ⟨(some 79),(some (75,true)),.ixa 1 (.t 76) (.t 78)⟩,
 ⟨(some 80),(some (75,true)),.ld none (.t 79)⟩,
 ⟨(some 81),(some (75,true)),.mv (.t 0)⟩,
 ⟨(some 82),(some (75,true)),.mv (.t 11)⟩,
 ⟨(some 83),(some (75,true)),.ixa 1 (.t 81) (.t 82)⟩,
 ⟨(some 84),(some (75,true)),.ld none (.t 83)⟩,
 ⟨(some 85),(some (75,true)),.call nQc1 [(.t 80),(.t 84)]⟩,
 ⟨(some 86),(some (75,true)),.un .not (.t 85)⟩,
 oo 87 <| .pick (.t 75) (.t 86) (.k (.bool false))]
def rQb8X18 : List O := [
 oo 88 <| .mv (.t 0),
 oo 89 <| .mv (.t 1),
 oo 90 <| .mv (.t 2),
 oo 91 <| .mv (.t 11),
 oo 92 <| .call 100 [(.t 88),(.t 89),(.t 90),(.t 91)],
 oo 13 <| .mv (.t 92)]
def rQb8X19 : List O := [
 oo 93 <| .mv (.t 13),
 oo 1 <| .mv (.t 93)]
def rQb8X20 : List O := [
 oo 95 <| .mv (.t 0),
 oo 96 <| .mv (.t 1),
 oo 97 <| .mv (.t 2),
 oo 98 <| .mv (.t 11),
 oo 99 <| .call 101 [(.t 95),(.t 96),(.t 97),(.t 98)],
 oo 94 <| .mv (.t 99),
 oo 100 <| .ext 0 (.t 94),
 oo 101 <| .ext 1 (.t 94),
 oo 14 <| .mv (.t 100),
 oo 15 <| .mv (.t 101)]
def rQb8X21 : List O := [
 oo 102 <| .mv (.t 15),
 oo 9 <| .mv (.t 102)]
def rQb8X22 : List O := [
 oo 103 <| .mv (.t 14),
 oo 104 <| .mv (.t 1),
 oo 105 <| .bin .sub (.t 103) (.t 104),
 oo 106 <| .mv (.t 2),
 oo 107 <| .mv (.t 14),
 oo 108 <| .bin .sub (.t 106) (.t 107),
 oo 16 <| .mv (.t 105),
 oo 17 <| .mv (.t 108)]
def rQb8X23 : List O := [
 oo 109 <| .mv (.t 10),
 oo 110 <| .bin .quo (.t 109) (ki 8),
 oo 18 <| .mv (.t 110)]
def rQb8X24 : List O := [
 oo 111 <| .mv (.t 16),
 oo 112 <| .mv (.t 17),
 oo 113 <| .bin .lss (.t 111) (.t 112)]
def rQb8X25 : List O := [
 oo 114 <| .mv (.t 16),
 oo 115 <| .mv (.t 18),
 oo 116 <| .bin .geq (.t 114) (.t 115),
 oo 8 <| .mv (.t 116)]
def rQb8X26 : List O := [
 oo 117 <| .mv (.t 0),
 oo 118 <| .mv (.t 1),
 oo 119 <| .mv (.t 14),
 oo 120 <| .mv (.t 3),
 oo 121 <| .call nQb8 [(.t 117),(.t 118),(.t 119),(.t 120)]]
def rQb8X27 : List O := [
 oo 122 <| .mv (.t 14),
 oo 123 <| .bin .add (.t 122) (ki 1),
 oo 1 <| .mv (.t 123)]
def rQb8X28 : List O := [
 oo 124 <| .mv (.t 17),
 oo 125 <| .mv (.t 18),
 oo 126 <| .bin .geq (.t 124) (.t 125),
 oo 8 <| .mv (.t 126)]
def rQb8X29 : List O := [
 oo 127 <| .mv (.t 0),
 oo 128 <| .mv (.t 14),
 oo 129 <| .bin .add (.t 128) (ki 1),
 oo 130 <| .mv (.t 2),
 oo 131 <| .mv (.t 3),
 oo 132 <| .call nQb8 [(.t 127),(.t 129),(.t 130),(.t 131)]]
def rQb8X30 : List O := [
 oo 133 <| .mv (.t 14),
 oo 2 <| .mv (.t 133)]
def lQb8X0 : C := (.blk 1 (.seq (.reg rQb8X2 false [] [0,1,2,3,8,9,10]) (.seq (.seq (.reg rQb8X3 false [] [0,1,2,3,8,9,10,23]) (.cond (.t 23) (.seq (.reg rQb8X4 false [] []) .ret) .skip)) (.seq (.seq (.reg rQb8X5 false [] [0,1,2,3,8,9,10,29]) (.cond (.t 29) (.seq (.reg rQb8X6 false [] []) .ret) .skip)) (.seq (.seq (.reg rQb8X7 false [] [0,1,2,3,8,9,10,35]) (.cond (.t 35) (.seq (.reg rQb8X8 false [] [0,1,2,3,8,9,10]) (.reg rQb8X9 false [] [0,1,2,3,8,9,10])) .skip)) (.seq (.reg rQb8X10 false [] [0,1,2,3,8,9,10,11,12]) (.seq (.seq (.reg rQb8X11 false [] [0,1,2,3,8,9,10,11,12,50]) (.cond (.t 50) (.seq (.reg rQb8X12 false [] [0,1,2,3,8,9,10,11]) (.seq (.reg rQb8X13 false [] [0,1,2,3,8,9,10,11]) (.reg rQb8X14 false [] [0,1,2,3,8,9,10,11,12]))) .skip)) (.seq (.seq (.reg rQb8X15 false [] [0,1,2,3,8,9,10,11,68]) (.cond (.t 68) (.seq (.reg rQb8X16 false [] [0,1,2,3,8,9,10,11,72]) (.cond (.t 72) .ret .skip)) .skip)) (.seq (.seq (.reg rQb8X17 true [(7,11)] [0,1,2,3,8,9,10,11,87]) (.cond (.t 87) (.seq (.reg rQb8X18 false [] [0,2,3,8,9,13]) (.seq (.reg rQb8X19 false [] [0,1,2,3,8,9]) (.exit 1))) .skip)) (.seq (.reg rQb8X20 false [] [0,1,2,3,10,14,15]) (.seq (.reg rQb8X21 false [] [0,1,2,3,9,10,14]) (.seq (.reg rQb8X22 false [] [0,1,2,3,9,10,14,16,17]) (.seq (.reg rQb8X23 false [] [0,1,2,3,9,14,16,17,18]) (.seq (.reg rQb8X24 false [] [0,1,2,3,9,14,16,17,18,113]) (.cond (.t 113) (.seq (.reg rQb8X25 false [] [0,1,2,3,8,9,14]) (.seq (.reg rQb8X26 false [] [0,2,3,8,9,14]) (.reg rQb8X27 false [] [0,1,2,3,8,9]))) (.seq (.reg rQb8X28 false [] [0,1,2,3,8,9,14]) (.seq (.reg rQb8X29 false [] [0,1,3,8,9,14]) (.reg rQb8X30 false [] [0,1,2,3,8,9]))))))))))))))))))
def cQb8 : C := (.seq (.reg rQb8X0 false [] [0,1,2,3,8]) (.seq (.reg rQb8X1 false [] [0,1,2,3,8,9]) (.blk 0 (.loop lQb8X0))))
def qQb8 : AFn := ⟨134,4,[],cQb8⟩
/- math/bits.Len -/
def rQb9X0 : List O := [
 oo 2 <| .mv (ki 0)]
def rQb9X1 : List O := [
 oo 3 <| .mv (.t 0),
 oo 4 <| .cvt .u32 (.t 3),
 oo 5 <| .call nQc2 [(.t 4)],
 oo 2 <| .mv (.t 5)]
def rQb9X2 : List O := [
 oo 6 <| .mv (.t 0),
 oo 7 <| .call nQc3 [(.t 6)],
 oo 2 <| .mv (.t 7)]
def cQb9 : C := (.seq (.reg rQb9X0 false [] [0]) (.seq (.cond (.k (.bool false)) (.seq (.reg rQb9X1 false [] [2]) .ret) .skip) (.seq (.reg rQb9X2 false [] [2]) .ret)))
def qQb9 : AFn := ⟨8,1,[.t 2],cQb9⟩
/- slices.insertionSortOrdered[int] -/
def rQc0X0 : List O := [
 oo 8 <| .mv (.t 1),
 oo 9 <| .bin .add (.t 8) (ki 1),
 oo 6 <| .mv (.t 9)]
def rQc0X1 : List O := [
 oo 10 <| .mv (.t 6),
 oo 11 <| .mv (.t 2),
 oo 12 <| .bin .lss (.t 10) (.t 11)]
def rQc0X2 : List O := [
 oo 15 <| .mv (.t 6),
 oo 7 <| .mv (.t 15)]
def rQc0X3 : List O := [
 oo 16 <| .mv (.t 7),
 oo 17 <| .mv (.t 1),
 oo 18 <| .bin .gtr (.t 16) (.t 17),
 oo 19 <| .mv (.t 18),
 ⟨(some 20),(some (19,true)),.mv (.t 0)⟩,
 ⟨(some 21),(some (19,true)),.mv (.t 7)⟩,
 ⟨(some 22),(some (19,true)),.ixa 1 (.t 20) (.t 21)⟩,
 ⟨(some 23),(some (19,true)),.ld none (.t 22)⟩,
 ⟨(some 24),(some (19,true)),.mv (.t 0)⟩,
 ⟨(some 25),(some (19,true)),.mv (.t 7)⟩,
 ⟨(some 26),(some (19,true)),.bin .sub (.t 25) (ki 1)⟩,
 ⟨(some 27),(some (19,true)),.ixa 1 (.t 24) (.t 26)⟩,
 ⟨(some 28),(some (19,true)),.ld none (.t 27)⟩,
 ⟨(some 29),(some (19,true)),.call nQc1 [(.t 23),(.t 28)]⟩,
 oo 30 <| .pick (.t 19) (.t 29) (.k (.bool false))]
def rQc0X4 : List O := [
 oo 33 <| .mv (.t 0),
 oo 34 <| .mv (.t 7),
 oo 35 <| .mv (.t 0),
 oo 36 <| .mv (.t 7),
 oo 37 <| .bin .sub (.t 36) (ki 1),
 oo 38 <| .mv (.t 0),
 oo 39 <| .mv (.t 7),
 oo 40 <| .bin .sub (.t 39) (ki 1),
 oo 41 <| .ixa 1 (.t 38) (.t 40),
 oo 42 <| .ld none (.t 41),
 oo 43 <| .mv (.t 0),
 oo 44 <| .mv (.t 7),
 oo 45 <| .ixa 1 (.t 43) (.t 44),
 oo 46 <| .ld none (.t 45),
 oo 47 <| .ixa 1 (.t 33) (.t 34),
 oz <| .st 1 (.t 47) (.t 42),
 oo 48 <| .ixa 1 (.t 35) (.t 37),
 oz <| .st 1 (.t 48) (.t 46)]
def rQc0X5 : List O := [
 oo 31 <| .mv (.t 7),
 oo 32 <| .bin .sub (.t 31) (ki 1),
 oo 7 <| .mv (.t 32)]
def lQc0X0 : C := (.seq (.seq (.reg rQc0X3 true [(7,12)] [0,1,2,6,7,30]) (.cond (.t 30) .skip (.exit 2))) (.seq (.blk 3 (.reg rQc0X4 true [(9,13)] [0,1,2,6,7])) (.reg rQc0X5 false [] [0,1,2,6,7])))
def rQc0X6 : List O := [
 oo 13 <| .mv (.t 6),
 oo 14 <| .bin .add (.t 13) (ki 1),
 oo 6 <| .mv (.t 14)]
def lQc0X1 : C := (.seq (.seq (.reg rQc0X1 false [] [0,1,2,6,12]) (.cond (.t 12) .skip (.exit 0))) (.seq (.blk 1 (.seq (.reg rQc0X2 false [] [0,1,2,6,7]) (.blk 2 (.loop lQc0X0)))) (.reg rQc0X6 false [] [0,1,2,6])))
def cQc0 : C := (.seq (.reg rQc0X0 false [] [0,1,2,6]) (.blk 0 (.loop lQc0X1)))
def qQc0 : AFn := ⟨49,3,[],cQc0⟩
/- cmp.Less[int] -/
def rQc1X0 : List O := [
 oo 4 <| .mv (.k (.bool false))]
def rQc1X1 : List O := [
 oo 5 <| .mv (.t 0),
 oo 6 <| .call nQS [(.t 5)],
 oo 7 <| .mv (.t 6),
 ⟨(some 8),(some (7,true)),.mv (.t 1)⟩,
 ⟨(some 9),(some (7,true)),.call nQS [(.t 8)]⟩,
 ⟨(some 10),(some (7,true)),.un .not (.t 9)⟩,
 oo 11 <| .pick (.t 7) (.t 10) (.k (.bool false)),
 oo 12 <| .mv (.t 11),
 ⟨(some 13),(some (12,false)),.mv (.t 0)⟩,
 ⟨(some 14),(some (12,false)),.mv (.t 1)⟩,
 ⟨(some 15),(some (12,false)),.bin .lss (.t 13) (.t 14)⟩,
 oo 16 <| .pick (.t 12) (.k (.bool true)) (.t 15),
 oo 4 <| .mv (.t 16)]
def cQc1 : C := (.seq (.reg rQc1X0 false [] [0,1]) (.seq (.reg rQc1X1 false [] [4]) .ret))
def qQc1 : AFn := ⟨17,2,[.t 4],cQc1⟩
/- math/bits.Len32 -/
def rQc2X0 : List O := [
 oo 2 <| .mv (ki 0)]
def rQc2X1 : List O := [
 oo 3 <| .mv (.t 0),
 oo 4 <| .bin .geq (.t 3) (.k (.int .u32 65536))]
def rQc2X2 : List O := [
 oo 5 <| .mv (.t 0),
 oo 6 <| .bin .shr (.t 5) (.k (.int .u64 16)),
 oo 0 <| .mv (.t 6)]
def rQc2X3 : List O := [
 oo 2 <| .mv (ki 16)]
def rQc2X4 : List O := [
 oo 7 <| .mv (.t 0),
 oo 8 <| .bin .geq (.t 7) (.k (.int .u32 256))]
def rQc2X5 : List O := [
 oo 9 <| .mv (.t 0),
 oo 10 <| .bin .shr (.t 9) (.k (.int .u64 8)),
 oo 0 <| .mv (.t 10)]
def rQc2X6 : List O := [
 oo 11 <| .mv (.t 2),
 oo 12 <| .bin .add (.t 11) (ki 8),
 oo 2 <| .mv (.t 12)]
def rQc2X7 : List O := [
 oo 13 <| .mv (.t 2),
 oo 14 <| .mv (.t 0),
 oo 15 <| .cvt .u8 (.t 14),
 oo 16 <| .ixs [0,1,2,2,3,3,3,3,4,4,4,4,4,4,4,4,5,5,5,5,5,5,5,5,5,5,5,5,5,5,5,5,6,6,6,6,6,6,6,6,6,6,6,6,6,6,6,6,6,6,6,6,6,6,6,6,6,6,6,6,6,6,6,6,7,7,7,7,7,7,7,7,7,7,7,7,7,7,7,7,7,7,7,7,7,7,7,7,7,7,7,7,7,7,7,7,7,7,7,7,7,7,7,7,7,7,7,7,7,7,7,7,7,7,7,7,7,7,7,7,7,7,7,7,7,7,7,7,8,8,8,8,8,8,8,8,8,8,8,8,8,8,8,8,8,8,8,8,8,8,8,8,8,8,8,8,8,8,8,8,8,8,8,8,8,8,8,8,8,8,8,8,8,8,8,8,8,8,8,8,8,8,8,8,8,8,8,8,8,8,8,8,8,8,8,8,8,8,8,8,8,8,8,8,8,8,8,8,8,8,8,8,8,8,8,8,8,8,8,8,8,8,8,8,8,8,8,8,8,8,8,8,8,8,8,8,8,8,8,8,8,8,8,8,8,8,8,8,8,8,8,8,8,8,8,8] (.t 15),
 oo 17 <| .cvt .i64 (.t 16),
 oo 18 <| .bin .add (.t 13) (.t 17),
 oo 2 <| .mv (.t 18)]
def cQc2 : C := (.seq (.reg rQc2X0 false [] [0,2]) (.seq (.seq (.reg rQc2X1 false [] [0,2,4]) (.cond (.t 4) (.seq (.reg rQc2X2 false [] [0]) (.reg rQc2X3 false [] [0,2])) .skip)) (.seq (.seq (.reg rQc2X4 false [] [0,2,8]) (.cond (.t 8) (.seq (.reg rQc2X5 false [] [0,2]) (.reg rQc2X6 false [] [0,2])) .skip)) (.seq (.reg rQc2X7 false [] [2]) .ret))))
def qQc2 : AFn := ⟨19,1,[.t 2],cQc2⟩
/- math/bits.Len64 -/
def rQc3X0 : List O := [
 oo 2 <| .mv (ki 0)]
def rQc3X1 : List O := [
 oo 3 <| .mv (.t 0),
 oo 4 <| .bin .geq (.t 3) (.k (.int .u64 4294967296))]
def rQc3X2 : List O := [
 oo 5 <| .mv (.t 0),
 oo 6 <| .bin .shr (.t 5) (.k (.int .u64 32)),
 oo 0 <| .mv (.t 6)]
def rQc3X3 : List O := [
 oo 2 <| .mv (ki 32)]
def rQc3X4 : List O := [
 oo 7 <| .mv (.t 0),
 oo 8 <| .bin .geq (.t 7) (.k (.int .u64 65536))]
def rQc3X5 : List O := [
 oo 9 <| .mv (.t 0),
 oo 10 <| .bin .shr (.t 9) (.k (.int .u64 16)),
 oo 0 <| .mv (.t 10)]
def rQc3X6 : List O := [
 oo 11 <| .mv (.t 2),
 oo 12 <| .bin .add (.t 11) (ki 16),
 oo 2 <| .mv (.t 12)]
def rQc3X7 : List O := [
 oo 13 <| .mv (.t 0),
 oo 14 <| .bin .geq (.t 13) (.k (.int .u64 256))]
def rQc3X8 : List O := [
 oo 15 <| .mv (.t 0),
 oo 16 <| .bin .shr (.t 15) (.k (.int .u64 8)),
 oo 0 <| .mv (.t 16)]
def rQc3X9 : List O := [
 oo 17 <| .mv (.t 2),
 oo 18 <| .bin .add (.t 17) (ki 8),
 oo 2 <| .mv (.t 18)]
def rQc3X10 : List O := [
 oo 19 <| .mv (.t 2),
 oo 20 <| .mv (.t 0),
 oo 21 <| .cvt .u8 (.t 20),
 oo 22 <| .ixs [0,1,2,2,3,3,3,3,4,4,4,4,4,4,4,4,5,5,5,5,5,5,5,5,5,5,5,5,5,5,5,5,6,6,6,6,6,6,6,6,6,6,6,6,6,6,6,6,6,6,6,6,6,6,6,6,6,6,6,6,6,6,6,6,7,7,7,7,7,7,7,7,7,7,7,7,7,7,7,7,7,7,7,7,7,7,7,7,7,7,7,7,7,7,7,7,7,7,7,7,7,7,7,7,7,7,7,7,7,7,7,7,7,7,7,7,7,7,7,7,7,7,7,7,7,7,7,7,8,8,8,8,8,8,8,8,8,8,8,8,8,8,8,8,8,8,8,8,8,8,8,8,8,8,8,8,8,8,8,8,8,8,8,8,8,8,8,8,8,8,8,8,8,8,8,8,8,8,8,8,8,8,8,8,8,8,8,8,8,8,8,8,8,8,8,8,8,8,8,8,8,8,8,8,8,8,8,8,8,8,8,8,8,8,8,8,8,8,8,8,8,8,8,8,8,8,8,8,8,8,8,8,8,8,8,8,8,8,8,8,8,8,8,8,8,8,8,8,8,8,8,8,8,8,8,8] (.t 21),
 oo 23 <| .cvt .i64 (.t 22),
 oo 24 <| .bin .add (.t 19) (.t 23),
 oo 2 <| .mv (.t 24)]
def cQc3 : C := (.seq (.reg rQc3X0 false [] [0,2]) (.seq (.seq (.reg rQc3X1 false [] [0,2,4]) (.cond (.t 4) (.seq (.reg rQc3X2 false [] [0]) (.reg rQc3X3 false [] [0,2])) .skip)) (.seq (.seq (.reg rQc3X4 false [] [0,2,8]) (.cond (.t 8) (.seq (.reg rQc3X5 false [] [0,2]) (.reg rQc3X6 false [] [0,2])) .skip)) (.seq (.seq (.reg rQc3X7 false [] [0,2,14]) (.cond (.t 14) (.seq (.reg rQc3X8 false [] [0,2]) (.reg rQc3X9 false [] [0,2])) .skip)) (.seq (.reg rQc3X10 false [] [2]) .ret)))))
def qQc3 : AFn := ⟨25,1,[.t 2],cQc3⟩
def look : List (Nat × Md × AFn) -> Nat -> Option (Md × AFn)
 | [],_ => none
 | (j,m,q) :: r,i => if i = j then some (m,q) else look r i
def fns : List (Nat × Md × AFn) := [
 (nQU,.P,qQU),
 (nQi,.P,qQi),
 (nQj,.P,qQj),
 (nQr,.P,qQr),
 (nQt,.P,qQt),
 (nQV,.K,qQV),
 (nQW,.P,qQW),
 (nQX,.P,qQX),
 (nQY,.K,qQY),
 (nQZ,.P,qQZ),
 (nQ0,.K,qQ0),
 (nQ1,.K,qQ1),
 (nQ2,.K,qQ2),
 (nQ3,.K,qQ3),
 (nQ4,.P,qQ4),
 (nQ5,.K,qQ5),
 (nQ6,.P,qQ6),
 (nQA,.P,qQA),
 (nQ7,.P,qQ7),
 (nQF,.P,qQF),
 (nQ8,.P,qQ8),
 (nQ9,.P,qQ9),
 (nQa0,.P,qQa0),
 (nQa1,.P,qQa1),
 (nQa2,.K,qQa2),
 (nQa3,.K,qQa3),
 (nQa4,.K,qQa4),
 (nQI,.P,qQI),
 (nQa5,.P,qQa5),
 (nQO,.P,qQO),
 (nQP,.P,qQP),
 (nQa6,.P,qQa6),
 (nQa7,.P,qQa7),
 (nQa8,.P,qQa8),
 (nQa9,.P,qQa9),
 (nQb0,.P,qQb0),
 (nQb1,.P,qQb1),
 (nQb2,.P,qQb2),
 (nQb3,.P,qQb3),
 (nQb4,.P,qQb4),
 (nQS,.P,qQS),
 (nQb5,.K,qQb5),
 (nQb6,.K,qQb6),
 (nQb7,.K,qQb7),
 (nQb8,.K,qQb8),
 (nQb9,.P,qQb9),
 (nQc0,.K,qQc0),
 (nQc1,.P,qQc1),
 (nQc2,.P,qQc2),
 (nQc3,.P,qQc3)]
def cfg : Cfg := ⟨look fns,fun _ => [],fun _ => none⟩
theorem kQU : chkF Go.Proofs.Tryd.prog Go.Proofs.Tryd.f14 qQU = true := by kernel_rfl
theorem kQi : chkF Go.Proofs.Tryd.prog Go.Proofs.Tryd.f17 qQi = true := by kernel_rfl
theorem kQj : chkF Go.Proofs.Tryd.prog Go.Proofs.Tryd.f19 qQj = true := by kernel_rfl
theorem kQr : chkF Go.Proofs.Tryd.prog Go.Proofs.Tryd.f29 qQr = true := by kernel_rfl
theorem kQt : chkF Go.Proofs.Tryd.prog Go.Proofs.Tryd.f31 qQt = true := by kernel_rfl
theorem kQV : chkF Go.Proofs.Tryd.prog Go.Proofs.Tryd.f32 qQV = true := by kernel_rfl
theorem kQW : chkF Go.Proofs.Tryd.prog Go.Proofs.Tryd.f33 qQW = true := by kernel_rfl
theorem kQX : chkF Go.Proofs.Tryd.prog Go.Proofs.Tryd.f34 qQX = true := by kernel_rfl
theorem kQY : chkF Go.Proofs.Tryd.prog Go.Proofs.Tryd.f35 qQY = true := by kernel_rfl
theorem kQZ : chkF Go.Proofs.Tryd.prog Go.Proofs.Tryd.f36 qQZ = true := by kernel_rfl
theorem kQ0 : chkF Go.Proofs.Tryd.prog Go.Proofs.Tryd.f37 qQ0 = true := by kernel_rfl
theorem kQ1 : chkF Go.Proofs.Tryd.prog Go.Proofs.Tryd.f39 qQ1 = true := by kernel_rfl
theorem kQ2 : chkF Go.Proofs.Tryd.prog Go.Proofs.Tryd.f40 qQ2 = true := by kernel_rfl
theorem kQ3 : chkF Go.Proofs.Tryd.prog Go.Proofs.Tryd.f45 qQ3 = true := by kernel_rfl
theorem kQ4 : chkF Go.Proofs.Tryd.prog Go.Proofs.Tryd.f46 qQ4 = true := by kernel_rfl
theorem kQ5 : chkF Go.Proofs.Tryd.prog Go.Proofs.Tryd.f47 qQ5 = true := by kernel_rfl
theorem kQ6 : chkF Go.Proofs.Tryd.prog Go.Proofs.Tryd.f48 qQ6 = true := by kernel_rfl
theorem kQA : chkF Go.Proofs.Tryd.prog Go.Proofs.Tryd.f51 qQA = true := by kernel_rfl
theorem kQ7 : chkF Go.Proofs.Tryd.prog Go.Proofs.Tryd.f56 qQ7 = true := by kernel_rfl
theorem kQF : chkF Go.Proofs.Tryd.prog Go.Proofs.Tryd.f57 qQF = true := by kernel_rfl
theorem kQ8 : chkF Go.Proofs.Tryd.prog Go.Proofs.Tryd.f58 qQ8 = true := by kernel_rfl
theorem kQ9 : chkF Go.Proofs.Tryd.prog Go.Proofs.Tryd.f59 qQ9 = true := by kernel_rfl
theorem kQa0 : chkF Go.Proofs.Tryd.prog Go.Proofs.Tryd.f60 qQa0 = true := by kernel_rfl
theorem kQa1 : chkF Go.Proofs.Tryd.prog Go.Proofs.Tryd.f61 qQa1 = true := by kernel_rfl
theorem kQa2 : chkF Go.Proofs.Tryd.prog Go.Proofs.Tryd.f62 qQa2 = true := by kernel_rfl
theorem kQa3 : chkF Go.Proofs.Tryd.prog Go.Proofs.Tryd.f64 qQa3 = true := by kernel_rfl
theorem kQa4 : chkF Go.Proofs.Tryd.prog Go.Proofs.Tryd.f65 qQa4 = true := by kernel_rfl
theorem kQI : chkF Go.Proofs.Tryd.prog Go.Proofs.Tryd.f67 qQI = true := by kernel_rfl
theorem kQa5 : chkF Go.Proofs.Tryd.prog Go.Proofs.Tryd.f73 qQa5 = true := by kernel_rfl
theorem kQO : chkF Go.Proofs.Tryd.prog Go.Proofs.Tryd.f74 qQO = true := by kernel_rfl
theorem kQP : chkF Go.Proofs.Tryd.prog Go.Proofs.Tryd.f75 qQP = true := by kernel_rfl
theorem kQa6 : chkF Go.Proofs.Tryd.prog Go.Proofs.Tryd.f76 qQa6 = true := by kernel_rfl
theorem kQa7 : chkF Go.Proofs.Tryd.prog Go.Proofs.Tryd.f77 qQa7 = true := by kernel_rfl
theorem kQa8 : chkF Go.Proofs.Tryd.prog Go.Proofs.Tryd.f78 qQa8 = true := by kernel_rfl
theorem kQa9 : chkF Go.Proofs.Tryd.prog Go.Proofs.Tryd.f79 qQa9 = true := by kernel_rfl
theorem kQb0 : chkF Go.Proofs.Tryd.prog Go.Proofs.Tryd.f80 qQb0 = true := by kernel_rfl
theorem kQb1 : chkF Go.Proofs.Tryd.prog Go.Proofs.Tryd.f81 qQb1 = true := by kernel_rfl
theorem kQb2 : chkF Go.Proofs.Tryd.prog Go.Proofs.Tryd.f82 qQb2 = true := by kernel_rfl
theorem kQb3 : chkF Go.Proofs.Tryd.prog Go.Proofs.Tryd.f83 qQb3 = true := by kernel_rfl
theorem kQb4 : chkF Go.Proofs.Tryd.prog Go.Proofs.Tryd.f84 qQb4 = true := by kernel_rfl
theorem kQS : chkF Go.Proofs.Tryd.prog Go.Proofs.Tryd.f87 qQS = true := by kernel_rfl
theorem kQb5 : chkF Go.Proofs.Tryd.prog Go.Proofs.Tryd.f88 qQb5 = true := by kernel_rfl
theorem kQb6 : chkF Go.Proofs.Tryd.prog Go.Proofs.Tryd.f89 qQb6 = true := by kernel_rfl
theorem kQb7 : chkF Go.Proofs.Tryd.prog Go.Proofs.Tryd.f90 qQb7 = true := by kernel_rfl
theorem kQb8 : chkF Go.Proofs.Tryd.prog Go.Proofs.Tryd.f91 qQb8 = true := by kernel_rfl
theorem kQb9 : chkF Go.Proofs.Tryd.prog Go.Proofs.Tryd.f92 qQb9 = true := by kernel_rfl
theorem kQc0 : chkF Go.Proofs.Tryd.prog Go.Proofs.Tryd.f93 qQc0 = true := by kernel_rfl
theorem kQc1 : chkF Go.Proofs.Tryd.prog Go.Proofs.Tryd.f99 qQc1 = true := by kernel_rfl
theorem kQc2 : chkF Go.Proofs.Tryd.prog Go.Proofs.Tryd.f102 qQc2 = true := by kernel_rfl
theorem kQc3 : chkF Go.Proofs.Tryd.prog Go.Proofs.Tryd.f103 qQc3 = true := by kernel_rfl
theorem look_mem : ∀ {l : List (Nat × Md × AFn)} {f : Nat} {m : Md} {q : AFn},look l f = some (m,q) -> (f,m,q) ∈ l
 | [],f,m,q,h => by simp [look] at h
 | (j,m',q') :: r,f,m,q,h => by
   unfold look at h
   split at h
   ·rename_i he; subst he; simp at h; obtain ⟨rfl,rfl⟩ := h; simp
   ·exact List.mem_cons_of_mem _ (look_mem h)
def Good (p : Nat × Md × AFn) : Prop := ∃ fn,Go.Proofs.Tryd.prog.funcs[p.1]? = some fn /\ chkF Go.Proofs.Tryd.prog fn p.2.2 = true
def All (G : Nat × Md × AFn -> Prop) : List (Nat × Md × AFn) -> Prop
 | [] => True
 | p :: r => G p /\ All G r
theorem All.get {G : Nat × Md × AFn -> Prop} : ∀ {l : List (Nat × Md × AFn)},All G l -> ∀ p ∈ l,G p
 | [],_,p,h => by simp at h
 | q :: r,h,p,hp => by
   rcases List.mem_cons.1 hp with e | e
   ·subst e; exact h.1
   ·exact All.get h.2 p e
theorem allGood : All Good fns := ⟨⟨_,Go.Proofs.Tryd.func14,kQU⟩,⟨_,Go.Proofs.Tryd.func17,kQi⟩,⟨_,Go.Proofs.Tryd.func19,kQj⟩,⟨_,Go.Proofs.Tryd.func29,kQr⟩,⟨_,Go.Proofs.Tryd.func31,kQt⟩,⟨_,Go.Proofs.Tryd.func32,kQV⟩,⟨_,Go.Proofs.Tryd.func33,kQW⟩,⟨_,Go.Proofs.Tryd.func34,kQX⟩,⟨_,Go.Proofs.Tryd.func35,kQY⟩,⟨_,Go.Proofs.Tryd.func36,kQZ⟩,⟨_,Go.Proofs.Tryd.func37,kQ0⟩,⟨_,Go.Proofs.Tryd.func39,kQ1⟩,⟨_,Go.Proofs.Tryd.func40,kQ2⟩,⟨_,Go.Proofs.Tryd.func45,kQ3⟩,⟨_,Go.Proofs.Tryd.func46,kQ4⟩,⟨_,Go.Proofs.Tryd.func47,kQ5⟩,⟨_,Go.Proofs.Tryd.func48,kQ6⟩,⟨_,Go.Proofs.Tryd.func51,kQA⟩,⟨_,Go.Proofs.Tryd.func56,kQ7⟩,⟨_,Go.Proofs.Tryd.func57,kQF⟩,⟨_,Go.Proofs.Tryd.func58,kQ8⟩,⟨_,Go.Proofs.Tryd.func59,kQ9⟩,⟨_,Go.Proofs.Tryd.func60,kQa0⟩,⟨_,Go.Proofs.Tryd.func61,kQa1⟩,⟨_,Go.Proofs.Tryd.func62,kQa2⟩,⟨_,Go.Proofs.Tryd.func64,kQa3⟩,⟨_,Go.Proofs.Tryd.func65,kQa4⟩,⟨_,Go.Proofs.Tryd.func67,kQI⟩,⟨_,Go.Proofs.Tryd.func73,kQa5⟩,⟨_,Go.Proofs.Tryd.func74,kQO⟩,⟨_,Go.Proofs.Tryd.func75,kQP⟩,⟨_,Go.Proofs.Tryd.func76,kQa6⟩,⟨_,Go.Proofs.Tryd.func77,kQa7⟩,⟨_,Go.Proofs.Tryd.func78,kQa8⟩,⟨_,Go.Proofs.Tryd.func79,kQa9⟩,⟨_,Go.Proofs.Tryd.func80,kQb0⟩,⟨_,Go.Proofs.Tryd.func81,kQb1⟩,⟨_,Go.Proofs.Tryd.func82,kQb2⟩,⟨_,Go.Proofs.Tryd.func83,kQb3⟩,⟨_,Go.Proofs.Tryd.func84,kQb4⟩,⟨_,Go.Proofs.Tryd.func87,kQS⟩,⟨_,Go.Proofs.Tryd.func88,kQb5⟩,⟨_,Go.Proofs.Tryd.func89,kQb6⟩,⟨_,Go.Proofs.Tryd.func90,kQb7⟩,⟨_,Go.Proofs.Tryd.func91,kQb8⟩,⟨_,Go.Proofs.Tryd.func92,kQb9⟩,⟨_,Go.Proofs.Tryd.func93,kQc0⟩,⟨_,Go.Proofs.Tryd.func99,kQc1⟩,⟨_,Go.Proofs.Tryd.func102,kQc2⟩,⟨_,Go.Proofs.Tryd.func103,kQc3⟩,trivial⟩
theorem cfgOK : CfgOK Go.Proofs.Tryd.prog cfg := ⟨by kernel_rfl,fun f m q h => allGood.get _ (look_mem h)⟩
theorem gQi : cfg.fn nQi = some (.P,qQi) := rfl
theorem gQj : cfg.fn nQj = some (.P,qQj) := rfl
theorem gQr : cfg.fn nQr = some (.P,qQr) := rfl
theorem gQt : cfg.fn nQt = some (.P,qQt) := rfl
theorem gQA : cfg.fn nQA = some (.P,qQA) := rfl
theorem gQF : cfg.fn nQF = some (.P,qQF) := rfl
theorem gQI : cfg.fn nQI = some (.P,qQI) := rfl
theorem gQO : cfg.fn nQO = some (.P,qQO) := rfl
theorem gQP : cfg.fn nQP = some (.P,qQP) := rfl
theorem gQS : cfg.fn nQS = some (.P,qQS) := rfl
end Go.AmP
