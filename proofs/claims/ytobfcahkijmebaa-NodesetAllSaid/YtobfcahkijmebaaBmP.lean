/- The compact code of the functions, printed by program off the translation. -/
import Derived.Test.YtobfcahkijmebaaChecked
import Derived.Test.YtobfcahkijmebaaBmA
import Derived.KernelRfl
set_option maxRecDepth 100000
namespace Go.BmP
open Go.Am Go.Bm
def nLaw02NodesetWithin : Nat := 5
def nLaw02NodesetAll : Nat := 6
def nLaw02Awake : Nat := 7
def nNodesetCmp : Nat := 8
def nRef02Same : Nat := 9
def nNodesetUnion : Nat := 10
def nNodesetMeet : Nat := 11
def nNodesetMinus : Nat := 12
def nNodesetOf : Nat := 13
def nNodesetWithin : Nat := 14
def nNodesetHas : Nat := 15
def nNodesetValid : Nat := 16
def nNodesetRange : Nat := 17
def nRef02Of : Nat := 18
def nRef02Valid : Nat := 19
def nRef02Has : Nat := 20
def nRef02Union : Nat := 21
def nRef02Meet : Nat := 22
def nRef02Minus : Nat := 23
def nRef02Within : Nat := 24
def nRef02Cmp : Nat := 25
def nMakeMod : Nat := 26
def nRef02Range : Nat := 27
def nSlicesCompareIntInt : Nat := 28
def nNodesetMergedInt : Nat := 29
def nNodesetUnion1 : Nat := 30
def nNodesetMeet1 : Nat := 31
def nNodesetMinus1 : Nat := 32
def nSlicesContainsIntInt : Nat := 33
def nRef02Put : Nat := 34
def nCmpCompareInt : Nat := 35
def nSlicesCloneIntInt : Nat := 36
def nSlicesSortIntInt : Nat := 37
def nSlicesCompactIntInt : Nat := 38
def nSlicesIndexIntInt : Nat := 39
def nCmpIsNaNInt : Nat := 40
/- cohesion/cohesionlaw02.NodesetWithin -/
def rLaw02NodesetWithinX0 : List O := [
  ⟨(some 6), none, .mv (.k (.bool false))⟩]
def rLaw02NodesetWithinX1 : List O := [
  ⟨(some 9), none, .mv (.t 0)⟩,
  ⟨(some 10), none, .len (.t 9)⟩,
  ⟨(some 11), none, .mv (.t 1)⟩,
  ⟨(some 12), none, .len (.t 11)⟩,
  ⟨(some 13), none, .bin .add (.t 10) (.t 12)⟩,
  ⟨(some 14), none, .bin .gtr (.t 13) (.k (.int .i64 200))⟩]
def rLaw02NodesetWithinX2 : List O := [
  ⟨(some 15), none, .call nLaw02Awake []⟩,
  ⟨(some 6), none, .mv (.t 15)⟩]
def rLaw02NodesetWithinX3 : List O := [
  ⟨(some 16), none, .mv (.t 0)⟩,
  ⟨(some 17), none, .mv (.t 1)⟩,
  ⟨(some 18), none, .call nNodesetWithin [(.t 16), (.t 17)]⟩,
  ⟨(some 19), none, .mv (.t 18)⟩,
  ⟨(some 20), (some (19, true)), .mv (.t 1)⟩,
  ⟨(some 21), (some (19, true)), .mv (.t 0)⟩,
  ⟨(some 22), (some (19, true)), .call nNodesetWithin [(.t 20), (.t 21)]⟩,
  ⟨(some 23), none, .pick (.t 19) (.t 22) (.k (.bool false))⟩,
  ⟨(some 7), none, .mv (.t 23)⟩]
def rLaw02NodesetWithinX4 : List O := [
  ⟨(some 24), none, .mv (.t 0)⟩,
  ⟨(some 25), none, .mv (.t 1)⟩,
  ⟨(some 26), none, .call nNodesetUnion [(.t 24), (.t 25)]⟩,
  ⟨(some 8), none, .mv (.t 26)⟩]
def rLaw02NodesetWithinX5 : List O := [
  ⟨(some 27), none, .mv (.t 7)⟩,
  ⟨(some 28), none, .mv (.t 0)⟩,
  ⟨(some 29), none, .call nNodesetOf [(.t 28)]⟩,
  ⟨(some 30), none, .mv (.t 1)⟩,
  ⟨(some 31), none, .call nNodesetOf [(.t 30)]⟩,
  ⟨(some 32), none, .call nRef02Same [(.t 29), (.t 31)]⟩,
  ⟨(some 33), none, .eq false .bool (.t 27) (.t 32)⟩,
  ⟨(some 34), none, .mv (.t 33)⟩,
  ⟨(some 35), (some (34, true)), .mv (.t 8)⟩,
  ⟨(some 36), (some (34, true)), .mv (.t 2)⟩,
  ⟨(some 37), (some (34, true)), .call nNodesetHas [(.t 35), (.t 36)]⟩,
  ⟨(some 38), (some (34, true)), .mv (.t 0)⟩,
  ⟨(some 39), (some (34, true)), .mv (.t 2)⟩,
  ⟨(some 40), (some (34, true)), .call nNodesetHas [(.t 38), (.t 39)]⟩,
  ⟨(some 41), (some (34, true)), .mv (.t 40)⟩,
  ⟨(some 42), (some (41, false)), .mv (.t 1)⟩,
  ⟨(some 43), (some (41, false)), .mv (.t 2)⟩,
  ⟨(some 44), (some (41, false)), .call nNodesetHas [(.t 42), (.t 43)]⟩,
  ⟨(some 45), (some (34, true)), .pick (.t 41) (.k (.bool true)) (.t 44)⟩,
  ⟨(some 46), (some (34, true)), .eq false .bool (.t 37) (.t 45)⟩,
  ⟨(some 47), none, .pick (.t 34) (.t 46) (.k (.bool false))⟩,
  ⟨(some 48), none, .mv (.t 47)⟩,
  ⟨(some 49), (some (48, true)), .mv (.t 0)⟩,
  ⟨(some 50), (some (48, true)), .mv (.t 1)⟩,
  ⟨(some 51), (some (48, true)), .call nNodesetMinus [(.t 49), (.t 50)]⟩,
  ⟨(some 52), (some (48, true)), .mv (.t 2)⟩,
  ⟨(some 53), (some (48, true)), .call nNodesetHas [(.t 51), (.t 52)]⟩,
  ⟨(some 54), (some (48, true)), .mv (.t 0)⟩,
  ⟨(some 55), (some (48, true)), .mv (.t 2)⟩,
  ⟨(some 56), (some (48, true)), .call nNodesetHas [(.t 54), (.t 55)]⟩,
  ⟨(some 57), (some (48, true)), .mv (.t 56)⟩,
  ⟨(some 58), (some (57, true)), .mv (.t 1)⟩,
  ⟨(some 59), (some (57, true)), .mv (.t 2)⟩,
  ⟨(some 60), (some (57, true)), .call nNodesetHas [(.t 58), (.t 59)]⟩,
  ⟨(some 61), (some (57, true)), .un .not (.t 60)⟩,
  ⟨(some 62), (some (48, true)), .pick (.t 57) (.t 61) (.k (.bool false))⟩,
  ⟨(some 63), (some (48, true)), .eq false .bool (.t 53) (.t 62)⟩,
  ⟨(some 64), none, .pick (.t 48) (.t 63) (.k (.bool false))⟩,
  ⟨(some 65), none, .mv (.t 64)⟩,
  ⟨(some 66), (some (65, true)), .call nNodesetRange [(.k (.int .i64 64))]⟩,
  ⟨(some 67), (some (65, true)), .call nNodesetValid [(.t 66), (.k (.int .i64 64))]⟩,
  ⟨(some 68), none, .pick (.t 65) (.t 67) (.k (.bool false))⟩,
  ⟨(some 69), none, .mv (.t 68)⟩,
  ⟨(some 70), (some (69, true)), .call nLaw02Awake []⟩,
  ⟨(some 71), none, .pick (.t 69) (.t 70) (.k (.bool false))⟩,
  ⟨(some 6), none, .mv (.t 71)⟩]
def cLaw02NodesetWithin : C := (.seq (.reg rLaw02NodesetWithinX0 false [] [0, 1, 2]) (.seq (.seq (.reg rLaw02NodesetWithinX1 false [] [0, 1, 2, 14]) (.cond (.t 14) (.seq (.reg rLaw02NodesetWithinX2 false [] [6]) .ret) .skip)) (.seq (.reg rLaw02NodesetWithinX3 false [] [0, 1, 2, 7]) (.seq (.reg rLaw02NodesetWithinX4 false [] [0, 1, 2, 7, 8]) (.seq (.reg rLaw02NodesetWithinX5 false [] [6]) .ret)))))
def qLaw02NodesetWithin : AFn := ⟨72, 3, [.t 6], cLaw02NodesetWithin⟩
/- cohesion/cohesionlaw02.NodesetAll -/
def rLaw02NodesetAllX0 : List O := [
  ⟨(some 8), none, .mv (.k (.bool false))⟩]
def rLaw02NodesetAllX1 : List O := [
  ⟨(some 14), none, .mv (.t 0)⟩,
  ⟨(some 15), none, .len (.t 14)⟩,
  ⟨(some 16), none, .bin .gtr (.t 15) (.k (.int .i64 120))⟩,
  ⟨(some 17), none, .mv (.t 16)⟩,
  ⟨(some 18), (some (17, false)), .mv (.t 1)⟩,
  ⟨(some 19), (some (17, false)), .len (.t 18)⟩,
  ⟨(some 20), (some (17, false)), .bin .gtr (.t 19) (.k (.int .i64 120))⟩,
  ⟨(some 21), none, .pick (.t 17) (.k (.bool true)) (.t 20)⟩]
def rLaw02NodesetAllX2 : List O := [
  ⟨(some 22), none, .call nLaw02Awake []⟩,
  ⟨(some 8), none, .mv (.t 22)⟩]
def rLaw02NodesetAllX3 : List O := [
  ⟨(some 23), none, .mv (.t 0)⟩,
  ⟨(some 24), none, .mv (.t 1)⟩,
  ⟨(some 25), none, .build [(.own 1 []), (.own 1 [])] [(0, 1, (.t 23)), (1, 1, (.t 24))]⟩,
  ⟨(some 26), none, .mv (.t 0)⟩,
  ⟨(some 27), none, .call nRef02Of [(.t 26)]⟩,
  ⟨(some 28), none, .mv (.t 1)⟩,
  ⟨(some 29), none, .build [(.own 1 []), (.own 1 [])] [(0, 1, (.t 27)), (1, 1, (.t 28))]⟩,
  ⟨(some 30), none, .mv (.t 0)⟩,
  ⟨(some 31), none, .call nRef02Of [(.t 30)]⟩,
  ⟨(some 32), none, .mv (.t 1)⟩,
  ⟨(some 33), none, .call nRef02Of [(.t 32)]⟩,
  ⟨(some 34), none, .build [(.own 1 []), (.own 1 [])] [(0, 1, (.t 31)), (1, 1, (.t 33))]⟩,
  ⟨(some 35), none, .bslice 2 3 [(.own 1 []), (.own 1 [])] [(0, 2, (.t 25)), (2, 2, (.t 29)), (4, 2, (.t 34))]⟩,
  ⟨(some 36), none, .len (.t 35)⟩,
  ⟨(some 37), none, .mv (.k (.int .i64 0))⟩]
def rLaw02NodesetAllX4 : List O := [
  ⟨(some 38), none, .bin .lss (.t 37) (.t 36)⟩]
def rLaw02NodesetAllX5 : List O := [
  ⟨(some 39), none, .ixa 2 (.t 35) (.t 37)⟩,
  ⟨(some 40), none, .ld (some 2) (.t 39)⟩,
  ⟨(some 10), none, .new [(.own 1 []), (.own 1 [])]⟩,
  ⟨none, none, .st 2 (.t 10) (.t 40)⟩]
def rLaw02NodesetAllX6 : List O := [
  ⟨(some 41), none, .ixp 2 1 (.t 10) (.k (.int .i64 0))⟩,
  ⟨(some 42), none, .ld none (.t 41)⟩,
  ⟨(some 43), none, .ixp 2 1 (.t 10) (.k (.int .i64 1))⟩,
  ⟨(some 44), none, .ld none (.t 43)⟩,
  ⟨(some 11), none, .mv (.t 42)⟩,
  ⟨(some 12), none, .mv (.t 44)⟩]
def rLaw02NodesetAllX7 : List O := [
  ⟨(some 45), none, .mv (.t 11)⟩,
  ⟨(some 46), none, .mv (.t 2)⟩,
  ⟨(some 47), none, .call nNodesetValid [(.t 45), (.t 46)]⟩,
  ⟨(some 48), none, .mv (.t 11)⟩,
  ⟨(some 49), none, .mv (.t 2)⟩,
  ⟨(some 50), none, .call nRef02Valid [(.t 48), (.t 49)]⟩,
  ⟨(some 51), none, .eq true .bool (.t 47) (.t 50)⟩,
  ⟨(some 52), none, .mv (.t 51)⟩,
  ⟨(some 53), (some (52, false)), .mv (.t 11)⟩,
  ⟨(some 54), (some (52, false)), .call nNodesetOf [(.t 53)]⟩,
  ⟨(some 55), (some (52, false)), .mv (.t 11)⟩,
  ⟨(some 56), (some (52, false)), .call nRef02Of [(.t 55)]⟩,
  ⟨(some 57), (some (52, false)), .call nRef02Same [(.t 54), (.t 56)]⟩,
  ⟨(some 58), (some (52, false)), .un .not (.t 57)⟩,
  ⟨(some 59), none, .pick (.t 52) (.k (.bool true)) (.t 58)⟩,
  ⟨(some 60), none, .mv (.t 59)⟩,
  ⟨(some 61), (some (60, false)), .mv (.t 11)⟩,
  ⟨(some 62), (some (60, false)), .mv (.t 3)⟩,
  ⟨(some 63), (some (60, false)), .call nNodesetHas [(.t 61), (.t 62)]⟩,
  ⟨(some 64), (some (60, false)), .mv (.t 11)⟩,
  ⟨(some 65), (some (60, false)), .mv (.t 3)⟩,
  ⟨(some 66), (some (60, false)), .call nRef02Has [(.t 64), (.t 65)]⟩,
  ⟨(some 67), (some (60, false)), .eq true .bool (.t 63) (.t 66)⟩,
  ⟨(some 68), none, .pick (.t 60) (.k (.bool true)) (.t 67)⟩,
  ⟨(some 69), none, .mv (.t 68)⟩,
  ⟨(some 70), (some (69, false)), .mv (.t 11)⟩,
  ⟨(some 71), (some (69, false)), .mv (.t 12)⟩,
  ⟨(some 72), (some (69, false)), .call nNodesetUnion [(.t 70), (.t 71)]⟩,
  ⟨(some 73), (some (69, false)), .mv (.t 11)⟩,
  ⟨(some 74), (some (69, false)), .mv (.t 12)⟩,
  ⟨(some 75), (some (69, false)), .call nRef02Union [(.t 73), (.t 74)]⟩,
  ⟨(some 76), (some (69, false)), .call nRef02Same [(.t 72), (.t 75)]⟩,
  ⟨(some 77), (some (69, false)), .un .not (.t 76)⟩,
  ⟨(some 78), none, .pick (.t 69) (.k (.bool true)) (.t 77)⟩,
  ⟨(some 79), none, .mv (.t 78)⟩,
  ⟨(some 80), (some (79, false)), .mv (.t 11)⟩,
  ⟨(some 81), (some (79, false)), .mv (.t 12)⟩,
  ⟨(some 82), (some (79, false)), .call nNodesetMeet [(.t 80), (.t 81)]⟩,
  ⟨(some 83), (some (79, false)), .mv (.t 11)⟩,
  ⟨(some 84), (some (79, false)), .mv (.t 12)⟩,
  ⟨(some 85), (some (79, false)), .call nRef02Meet [(.t 83), (.t 84)]⟩,
  ⟨(some 86), (some (79, false)), .call nRef02Same [(.t 82), (.t 85)]⟩,
  ⟨(some 87), (some (79, false)), .un .not (.t 86)⟩,
  ⟨(some 88), none, .pick (.t 79) (.k (.bool true)) (.t 87)⟩,
  ⟨(some 89), none, .mv (.t 88)⟩,
  ⟨(some 90), (some (89, false)), .mv (.t 11)⟩,
  ⟨(some 91), (some (89, false)), .mv (.t 12)⟩,
  ⟨(some 92), (some (89, false)), .call nNodesetMinus [(.t 90), (.t 91)]⟩,
  ⟨(some 93), (some (89, false)), .mv (.t 11)⟩,
  ⟨(some 94), (some (89, false)), .mv (.t 12)⟩,
  ⟨(some 95), (some (89, false)), .call nRef02Minus [(.t 93), (.t 94)]⟩,
  ⟨(some 96), (some (89, false)), .call nRef02Same [(.t 92), (.t 95)]⟩,
  ⟨(some 97), (some (89, false)), .un .not (.t 96)⟩,
  ⟨(some 98), none, .pick (.t 89) (.k (.bool true)) (.t 97)⟩,
  ⟨(some 99), none, .mv (.t 98)⟩,
  ⟨(some 100), (some (99, false)), .mv (.t 11)⟩,
  ⟨(some 101), (some (99, false)), .mv (.t 12)⟩,
  ⟨(some 102), (some (99, false)), .call nNodesetWithin [(.t 100), (.t 101)]⟩,
  ⟨(some 103), (some (99, false)), .mv (.t 11)⟩,
  ⟨(some 104), (some (99, false)), .mv (.t 12)⟩,
  ⟨(some 105), (some (99, false)), .call nRef02Within [(.t 103), (.t 104)]⟩,
  ⟨(some 106), (some (99, false)), .eq true .bool (.t 102) (.t 105)⟩,
  ⟨(some 107), none, .pick (.t 99) (.k (.bool true)) (.t 106)⟩,
  ⟨(some 108), none, .mv (.t 107)⟩,
  ⟨(some 109), (some (108, false)), .mv (.t 11)⟩,
  ⟨(some 110), (some (108, false)), .mv (.t 12)⟩,
  ⟨(some 111), (some (108, false)), .call nNodesetCmp [(.t 109), (.t 110)]⟩,
  ⟨(some 112), (some (108, false)), .mv (.t 11)⟩,
  ⟨(some 113), (some (108, false)), .mv (.t 12)⟩,
  ⟨(some 114), (some (108, false)), .call nRef02Cmp [(.t 112), (.t 113)]⟩,
  ⟨(some 115), (some (108, false)), .bin .neq (.t 111) (.t 114)⟩,
  ⟨(some 116), none, .pick (.t 108) (.k (.bool true)) (.t 115)⟩]
def rLaw02NodesetAllX8 : List O := [
  ⟨(some 8), none, .mv (.k (.bool false))⟩]
def rLaw02NodesetAllX9 : List O := [
  ⟨(some 117), none, .bin .add (.t 37) (.k (.int .i64 1))⟩,
  ⟨(some 37), none, .mv (.t 117)⟩]
def lLaw02NodesetAllX0 : C := (.seq (.reg rLaw02NodesetAllX4 false [] [2, 3, 35, 36, 37, 38]) (.seq (.cond (.t 38) .skip (.exit 0)) (.seq (.blk 1 (.seq (.reg rLaw02NodesetAllX5 false [] [2, 3, 10, 35, 36, 37]) (.seq (.reg rLaw02NodesetAllX6 true [(5, 5), (1, 2), (0, 3), (1, 3), (3, 4)] [2, 3, 11, 12, 35, 36, 37]) (.seq (.reg rLaw02NodesetAllX7 false [] [2, 3, 35, 36, 37, 116]) (.cond (.t 116) (.seq (.reg rLaw02NodesetAllX8 false [] [8]) .ret) .skip))))) (.reg rLaw02NodesetAllX9 false [] [2, 3, 35, 36, 37]))))
def rLaw02NodesetAllX10 : List O := [
  ⟨(some 118), none, .mv (.t 2)⟩,
  ⟨(some 119), none, .call nMakeMod [(.t 118), (.k (.int .i64 80))]⟩,
  ⟨(some 120), none, .bin .sub (.t 119) (.k (.int .i64 5))⟩,
  ⟨(some 13), none, .mv (.t 120)⟩]
def rLaw02NodesetAllX11 : List O := [
  ⟨(some 121), none, .mv (.t 2)⟩,
  ⟨(some 122), none, .call nNodesetRange [(.t 121)]⟩,
  ⟨(some 123), none, .mv (.t 2)⟩,
  ⟨(some 124), none, .call nRef02Range [(.t 123)]⟩,
  ⟨(some 125), none, .call nRef02Same [(.t 122), (.t 124)]⟩,
  ⟨(some 126), none, .mv (.t 125)⟩,
  ⟨(some 127), (some (126, true)), .mv (.t 13)⟩,
  ⟨(some 128), (some (126, true)), .call nNodesetRange [(.t 127)]⟩,
  ⟨(some 129), (some (126, true)), .mv (.t 13)⟩,
  ⟨(some 130), (some (126, true)), .call nRef02Range [(.t 129)]⟩,
  ⟨(some 131), (some (126, true)), .call nRef02Same [(.t 128), (.t 130)]⟩,
  ⟨(some 132), none, .pick (.t 126) (.t 131) (.k (.bool false))⟩,
  ⟨(some 133), none, .mv (.t 132)⟩,
  ⟨(some 134), (some (133, true)), .call nLaw02Awake []⟩,
  ⟨(some 135), none, .pick (.t 133) (.t 134) (.k (.bool false))⟩,
  ⟨(some 8), none, .mv (.t 135)⟩]
def cLaw02NodesetAll : C := (.seq (.reg rLaw02NodesetAllX0 false [] [0, 1, 2, 3]) (.seq (.seq (.reg rLaw02NodesetAllX1 false [] [0, 1, 2, 3, 21]) (.cond (.t 21) (.seq (.reg rLaw02NodesetAllX2 false [] [8]) .ret) .skip)) (.seq (.seq (.reg rLaw02NodesetAllX3 false [] [2, 3, 35, 36, 37]) (.blk 0 (.loop lLaw02NodesetAllX0))) (.seq (.reg rLaw02NodesetAllX10 false [] [2, 13]) (.seq (.reg rLaw02NodesetAllX11 false [] [8]) .ret)))))
def qLaw02NodesetAll : AFn := ⟨136, 4, [.t 8], cLaw02NodesetAll⟩
/- cohesion/cohesionlaw02.awake -/
def rLaw02AwakeX0 : List O := [
  ⟨(some 0), none, .mv (.k (.bool false))⟩]
def rLaw02AwakeX1 : List O := [
  ⟨(some 2), none, .bslice 1 3 [(.int .i64 0)] [(0, 1, (.k (.int .i64 3))), (1, 1, (.k (.int .i64 1))), (2, 1, (.k (.int .i64 3)))]⟩,
  ⟨(some 3), none, .call nNodesetOf [(.t 2)]⟩,
  ⟨(some 1), none, .mv (.t 3)⟩]
def rLaw02AwakeX2 : List O := [
  ⟨(some 4), none, .mv (.t 1)⟩,
  ⟨(some 5), none, .bslice 1 2 [(.int .i64 0)] [(0, 1, (.k (.int .i64 1))), (1, 1, (.k (.int .i64 3)))]⟩,
  ⟨(some 6), none, .call nRef02Same [(.t 4), (.t 5)]⟩,
  ⟨(some 7), none, .mv (.t 6)⟩,
  ⟨(some 8), (some (7, true)), .bslice 1 2 [(.int .i64 0)] [(0, 1, (.k (.int .i64 0))), (1, 1, (.k (.int .i64 5)))]⟩,
  ⟨(some 9), (some (7, true)), .bslice 1 3 [(.int .i64 0)] [(0, 1, (.k (.int .i64 0))), (1, 1, (.k (.int .i64 5))), (2, 1, (.k (.int .i64 6)))]⟩,
  ⟨(some 10), (some (7, true)), .call nNodesetCmp [(.t 8), (.t 9)]⟩,
  ⟨(some 11), (some (7, true)), .bin .eql (.t 10) (.k (.int .i64 (-1)))⟩,
  ⟨(some 12), none, .pick (.t 7) (.t 11) (.k (.bool false))⟩,
  ⟨(some 13), none, .mv (.t 12)⟩,
  ⟨(some 14), (some (13, true)), .mv (.t 1)⟩,
  ⟨(some 15), (some (13, true)), .call nNodesetValid [(.t 14), (.k (.int .i64 4))]⟩,
  ⟨(some 16), none, .pick (.t 13) (.t 15) (.k (.bool false))⟩,
  ⟨(some 17), none, .mv (.t 16)⟩,
  ⟨(some 18), (some (17, true)), .mv (.t 1)⟩,
  ⟨(some 19), (some (17, true)), .call nNodesetHas [(.t 18), (.k (.int .i64 3))]⟩,
  ⟨(some 20), none, .pick (.t 17) (.t 19) (.k (.bool false))⟩,
  ⟨(some 0), none, .mv (.t 20)⟩]
def cLaw02Awake : C := (.seq (.reg rLaw02AwakeX0 false [] []) (.seq (.reg rLaw02AwakeX1 false [] [1]) (.seq (.reg rLaw02AwakeX2 false [] [0]) .ret)))
def qLaw02Awake : AFn := ⟨21, 0, [.t 0], cLaw02Awake⟩
/- cohesion/nodeset.Cmp -/
def rNodesetCmpX0 : List O := [
  ⟨(some 4), none, .mv (.k (.int .i64 0))⟩]
def rNodesetCmpX1 : List O := [
  ⟨(some 5), none, .mv (.t 0)⟩,
  ⟨(some 6), none, .mv (.t 1)⟩,
  ⟨(some 7), none, .call nSlicesCompareIntInt [(.t 5), (.t 6)]⟩,
  ⟨(some 4), none, .mv (.t 7)⟩]
def cNodesetCmp : C := (.seq (.reg rNodesetCmpX0 false [] [0, 1]) (.seq (.reg rNodesetCmpX1 false [] [4]) .ret))
def qNodesetCmp : AFn := ⟨8, 2, [.t 4], cNodesetCmp⟩
/- cohesion/cohesionref02.Same -/
def rRef02SameX0 : List O := [
  ⟨(some 4), none, .mv (.k (.bool false))⟩]
def rRef02SameX1 : List O := [
  ⟨(some 5), none, .mv (.t 0)⟩,
  ⟨(some 6), none, .len (.t 5)⟩,
  ⟨(some 7), none, .mv (.t 1)⟩,
  ⟨(some 8), none, .len (.t 7)⟩,
  ⟨(some 9), none, .bin .eql (.t 6) (.t 8)⟩,
  ⟨(some 10), none, .mv (.t 9)⟩,
  ⟨(some 11), (some (10, true)), .mv (.t 0)⟩,
  ⟨(some 12), (some (10, true)), .mv (.t 1)⟩,
  ⟨(some 13), (some (10, true)), .call nRef02Cmp [(.t 11), (.t 12)]⟩,
  ⟨(some 14), (some (10, true)), .bin .eql (.t 13) (.k (.int .i64 0))⟩,
  ⟨(some 15), none, .pick (.t 10) (.t 14) (.k (.bool false))⟩,
  ⟨(some 4), none, .mv (.t 15)⟩]
def cRef02Same : C := (.seq (.reg rRef02SameX0 false [] [0, 1]) (.seq (.reg rRef02SameX1 false [] [4]) .ret))
def qRef02Same : AFn := ⟨16, 2, [.t 4], cRef02Same⟩
/- cohesion/nodeset.Union -/
def rNodesetUnionX0 : List O := [
  ⟨(some 4), none, .mv (.k (.own 1 []))⟩]
def rNodesetUnionX1 : List O := [
  ⟨(some 5), none, .mv (.t 0)⟩,
  ⟨(some 6), none, .mv (.t 1)⟩,
  ⟨(some 7), none, .call nNodesetMergedInt [(.t 5), (.t 6), (.k (.func (.func nNodesetUnion1) [] []))]⟩,
  ⟨(some 4), none, .mv (.t 7)⟩]
def cNodesetUnion : C := (.seq (.reg rNodesetUnionX0 false [] [0, 1]) (.seq (.reg rNodesetUnionX1 false [] [4]) .ret))
def qNodesetUnion : AFn := ⟨8, 2, [.t 4], cNodesetUnion⟩
/- cohesion/nodeset.Meet -/
def rNodesetMeetX0 : List O := [
  ⟨(some 4), none, .mv (.k (.own 1 []))⟩]
def rNodesetMeetX1 : List O := [
  ⟨(some 5), none, .mv (.t 0)⟩,
  ⟨(some 6), none, .mv (.t 1)⟩,
  ⟨(some 7), none, .call nNodesetMergedInt [(.t 5), (.t 6), (.k (.func (.func nNodesetMeet1) [] []))]⟩,
  ⟨(some 4), none, .mv (.t 7)⟩]
def cNodesetMeet : C := (.seq (.reg rNodesetMeetX0 false [] [0, 1]) (.seq (.reg rNodesetMeetX1 false [] [4]) .ret))
def qNodesetMeet : AFn := ⟨8, 2, [.t 4], cNodesetMeet⟩
/- cohesion/nodeset.Minus -/
def rNodesetMinusX0 : List O := [
  ⟨(some 4), none, .mv (.k (.own 1 []))⟩]
def rNodesetMinusX1 : List O := [
  ⟨(some 5), none, .mv (.t 0)⟩,
  ⟨(some 6), none, .mv (.t 1)⟩,
  ⟨(some 7), none, .call nNodesetMergedInt [(.t 5), (.t 6), (.k (.func (.func nNodesetMinus1) [] []))]⟩,
  ⟨(some 4), none, .mv (.t 7)⟩]
def cNodesetMinus : C := (.seq (.reg rNodesetMinusX0 false [] [0, 1]) (.seq (.reg rNodesetMinusX1 false [] [4]) .ret))
def qNodesetMinus : AFn := ⟨8, 2, [.t 4], cNodesetMinus⟩
/- cohesion/nodeset.Of -/
def rNodesetOfX0 : List O := [
  ⟨(some 2), none, .mv (.k (.own 1 []))⟩]
def rNodesetOfX1 : List O := [
  ⟨(some 3), none, .mv (.t 0)⟩,
  ⟨(some 4), none, .call nNodesetUnion [(.t 3), (.k (.own 1 []))]⟩,
  ⟨(some 2), none, .mv (.t 4)⟩]
def cNodesetOf : C := (.seq (.reg rNodesetOfX0 false [] [0]) (.seq (.reg rNodesetOfX1 false [] [2]) .ret))
def qNodesetOf : AFn := ⟨5, 1, [.t 2], cNodesetOf⟩
/- cohesion/nodeset.Within -/
def rNodesetWithinX0 : List O := [
  ⟨(some 4), none, .mv (.k (.bool false))⟩]
def rNodesetWithinX1 : List O := [
  ⟨(some 5), none, .mv (.t 0)⟩,
  ⟨(some 6), none, .mv (.t 1)⟩,
  ⟨(some 7), none, .call nNodesetMinus [(.t 5), (.t 6)]⟩,
  ⟨(some 8), none, .len (.t 7)⟩,
  ⟨(some 9), none, .bin .eql (.t 8) (.k (.int .i64 0))⟩,
  ⟨(some 4), none, .mv (.t 9)⟩]
def cNodesetWithin : C := (.seq (.reg rNodesetWithinX0 false [] [0, 1]) (.seq (.reg rNodesetWithinX1 false [] [4]) .ret))
def qNodesetWithin : AFn := ⟨10, 2, [.t 4], cNodesetWithin⟩
/- cohesion/nodeset.Has -/
def rNodesetHasX0 : List O := [
  ⟨(some 4), none, .mv (.k (.bool false))⟩]
def rNodesetHasX1 : List O := [
  ⟨(some 5), none, .mv (.t 0)⟩,
  ⟨(some 6), none, .mv (.t 1)⟩,
  ⟨(some 7), none, .call nSlicesContainsIntInt [(.t 5), (.t 6)]⟩,
  ⟨(some 4), none, .mv (.t 7)⟩]
def cNodesetHas : C := (.seq (.reg rNodesetHasX0 false [] [0, 1]) (.seq (.reg rNodesetHasX1 false [] [4]) .ret))
def qNodesetHas : AFn := ⟨8, 2, [.t 4], cNodesetHas⟩
/- cohesion/nodeset.Valid -/
def rNodesetValidX0 : List O := [
  ⟨(some 4), none, .mv (.k (.bool false))⟩]
def rNodesetValidX1 : List O := [
  ⟨(some 7), none, .mv (.t 0)⟩,
  ⟨(some 8), none, .len (.t 7)⟩,
  ⟨(some 9), none, .mv (.k (.int .i64 0))⟩]
def rNodesetValidX2 : List O := [
  ⟨(some 10), none, .bin .lss (.t 9) (.t 8)⟩]
def rNodesetValidX3 : List O := [
  ⟨(some 11), none, .mv (.t 9)⟩,
  ⟨(some 12), none, .ixa 1 (.t 7) (.t 9)⟩,
  ⟨(some 13), none, .ld none (.t 12)⟩,
  ⟨(some 5), none, .mv (.t 11)⟩,
  ⟨(some 6), none, .mv (.t 13)⟩]
def rNodesetValidX4 : List O := [
  ⟨(some 14), none, .mv (.t 6)⟩,
  ⟨(some 15), none, .bin .lss (.t 14) (.k (.int .i64 0))⟩,
  ⟨(some 16), none, .mv (.t 15)⟩,
  ⟨(some 17), (some (16, false)), .mv (.t 6)⟩,
  ⟨(some 18), (some (16, false)), .mv (.t 1)⟩,
  ⟨(some 19), (some (16, false)), .bin .geq (.t 17) (.t 18)⟩,
  ⟨(some 20), none, .pick (.t 16) (.k (.bool true)) (.t 19)⟩,
  ⟨(some 21), none, .mv (.t 20)⟩,
  ⟨(some 22), (some (21, false)), .mv (.t 5)⟩,
  ⟨(some 23), (some (21, false)), .bin .gtr (.t 22) (.k (.int .i64 0))⟩,
  ⟨(some 24), (some (21, false)), .mv (.t 23)⟩,
  ⟨(some 25), (some (24, true)), .mv (.t 0)⟩,
  ⟨(some 26), (some (24, true)), .mv (.t 5)⟩,
  ⟨(some 27), (some (24, true)), .bin .sub (.t 26) (.k (.int .i64 1))⟩,
  ⟨(some 28), (some (24, true)), .ixa 1 (.t 25) (.t 27)⟩,
  ⟨(some 29), (some (24, true)), .ld none (.t 28)⟩,
  ⟨(some 30), (some (24, true)), .mv (.t 6)⟩,
  ⟨(some 31), (some (24, true)), .bin .geq (.t 29) (.t 30)⟩,
  ⟨(some 32), (some (21, false)), .pick (.t 24) (.t 31) (.k (.bool false))⟩,
  ⟨(some 33), none, .pick (.t 21) (.k (.bool true)) (.t 32)⟩]
def rNodesetValidX5 : List O := [
  ⟨(some 4), none, .mv (.k (.bool false))⟩]
def rNodesetValidX6 : List O := [
  ⟨(some 34), none, .bin .add (.t 9) (.k (.int .i64 1))⟩,
  ⟨(some 9), none, .mv (.t 34)⟩]
def lNodesetValidX0 : C := (.seq (.reg rNodesetValidX2 false [] [0, 1, 7, 8, 9, 10]) (.seq (.cond (.t 10) .skip (.exit 0)) (.seq (.blk 1 (.seq (.reg rNodesetValidX3 false [] [0, 1, 5, 6, 7, 8, 9]) (.seq (.reg rNodesetValidX4 false [] [0, 1, 7, 8, 9, 33]) (.cond (.t 33) (.seq (.reg rNodesetValidX5 false [] [4]) .ret) .skip)))) (.reg rNodesetValidX6 false [] [0, 1, 7, 8, 9]))))
def rNodesetValidX7 : List O := [
  ⟨(some 4), none, .mv (.k (.bool true))⟩]
def cNodesetValid : C := (.seq (.reg rNodesetValidX0 false [] [0, 1]) (.seq (.seq (.reg rNodesetValidX1 false [] [0, 1, 7, 8, 9]) (.blk 0 (.loop lNodesetValidX0))) (.seq (.reg rNodesetValidX7 false [] [4]) .ret)))
def qNodesetValid : AFn := ⟨35, 2, [.t 4], cNodesetValid⟩
/- cohesion/nodeset.Range -/
def rNodesetRangeX0 : List O := [
  ⟨(some 2), none, .mv (.k (.own 1 []))⟩]
def rNodesetRangeX1 : List O := [
  ⟨(some 3), none, .mv (.k (.own 1 []))⟩]
def rNodesetRangeX2 : List O := [
  ⟨(some 5), none, .mv (.t 0)⟩,
  ⟨(some 6), none, .max [(.t 5), (.k (.int .i64 0))]⟩,
  ⟨(some 7), none, .min [(.t 6), (.k (.int .i64 64))]⟩,
  ⟨(some 8), none, .mv (.k (.int .i64 0))⟩]
def rNodesetRangeX3 : List O := [
  ⟨(some 9), none, .bin .lss (.t 8) (.t 7)⟩]
def rNodesetRangeX4 : List O := [
  ⟨(some 10), none, .mv (.t 8)⟩,
  ⟨(some 4), none, .mv (.t 10)⟩]
def rNodesetRangeX5 : List O := [
  ⟨(some 11), none, .mv (.t 3)⟩,
  ⟨(some 12), none, .mv (.t 4)⟩,
  ⟨(some 13), none, .bslice 1 1 [(.int .i64 0)] [(0, 1, (.t 12))]⟩,
  ⟨(some 14), none, .app 1 (.t 11) (.t 13)⟩,
  ⟨(some 3), none, .mv (.t 14)⟩]
def rNodesetRangeX6 : List O := [
  ⟨(some 15), none, .bin .add (.t 8) (.k (.int .i64 1))⟩,
  ⟨(some 8), none, .mv (.t 15)⟩]
def lNodesetRangeX0 : C := (.seq (.reg rNodesetRangeX3 false [] [3, 7, 8, 9]) (.seq (.cond (.t 9) .skip (.exit 0)) (.seq (.blk 1 (.seq (.reg rNodesetRangeX4 false [] [3, 4, 7, 8]) (.reg rNodesetRangeX5 false [] [3, 7, 8]))) (.reg rNodesetRangeX6 false [] [3, 7, 8]))))
def rNodesetRangeX7 : List O := [
  ⟨(some 16), none, .mv (.t 3)⟩,
  ⟨(some 2), none, .mv (.t 16)⟩]
def cNodesetRange : C := (.seq (.reg rNodesetRangeX0 false [] [0]) (.seq (.reg rNodesetRangeX1 false [] [0, 3]) (.seq (.seq (.reg rNodesetRangeX2 false [] [3, 7, 8]) (.blk 0 (.loop lNodesetRangeX0))) (.seq (.reg rNodesetRangeX7 false [] [2]) .ret))))
def qNodesetRange : AFn := ⟨17, 1, [.t 2], cNodesetRange⟩
/- cohesion/cohesionref02.Of -/
def rRef02OfX0 : List O := [
  ⟨(some 2), none, .mv (.k (.own 1 []))⟩]
def rRef02OfX1 : List O := [
  ⟨(some 3), none, .mv (.k (.own 1 []))⟩]
def rRef02OfX2 : List O := [
  ⟨(some 6), none, .mv (.t 0)⟩,
  ⟨(some 7), none, .len (.t 6)⟩,
  ⟨(some 8), none, .mv (.k (.int .i64 0))⟩]
def rRef02OfX3 : List O := [
  ⟨(some 9), none, .bin .lss (.t 8) (.t 7)⟩]
def rRef02OfX4 : List O := [
  ⟨(some 10), none, .ixa 1 (.t 6) (.t 8)⟩,
  ⟨(some 11), none, .ld none (.t 10)⟩,
  ⟨(some 5), none, .mv (.t 11)⟩]
def rRef02OfX5 : List O := [
  ⟨(some 12), none, .mv (.t 3)⟩,
  ⟨(some 13), none, .mv (.t 5)⟩,
  ⟨(some 14), none, .call nRef02Put [(.t 12), (.t 13)]⟩,
  ⟨(some 3), none, .mv (.t 14)⟩]
def rRef02OfX6 : List O := [
  ⟨(some 15), none, .bin .add (.t 8) (.k (.int .i64 1))⟩,
  ⟨(some 8), none, .mv (.t 15)⟩]
def lRef02OfX0 : C := (.seq (.reg rRef02OfX3 false [] [3, 6, 7, 8, 9]) (.seq (.cond (.t 9) .skip (.exit 0)) (.seq (.blk 1 (.seq (.reg rRef02OfX4 false [] [3, 5, 6, 7, 8]) (.reg rRef02OfX5 false [] [3, 6, 7, 8]))) (.reg rRef02OfX6 false [] [3, 6, 7, 8]))))
def rRef02OfX7 : List O := [
  ⟨(some 16), none, .mv (.t 3)⟩,
  ⟨(some 2), none, .mv (.t 16)⟩]
def cRef02Of : C := (.seq (.reg rRef02OfX0 false [] [0]) (.seq (.reg rRef02OfX1 false [] [0, 3]) (.seq (.seq (.reg rRef02OfX2 false [] [3, 6, 7, 8]) (.blk 0 (.loop lRef02OfX0))) (.seq (.reg rRef02OfX7 false [] [2]) .ret))))
def qRef02Of : AFn := ⟨17, 1, [.t 2], cRef02Of⟩
/- cohesion/cohesionref02.Valid -/
def rRef02ValidX0 : List O := [
  ⟨(some 4), none, .mv (.k (.bool false))⟩]
def rRef02ValidX1 : List O := [
  ⟨(some 7), none, .mv (.t 0)⟩,
  ⟨(some 8), none, .len (.t 7)⟩,
  ⟨(some 9), none, .mv (.k (.int .i64 0))⟩]
def rRef02ValidX2 : List O := [
  ⟨(some 10), none, .bin .lss (.t 9) (.t 8)⟩]
def rRef02ValidX3 : List O := [
  ⟨(some 11), none, .mv (.t 9)⟩,
  ⟨(some 12), none, .ixa 1 (.t 7) (.t 9)⟩,
  ⟨(some 13), none, .ld none (.t 12)⟩,
  ⟨(some 5), none, .mv (.t 11)⟩,
  ⟨(some 6), none, .mv (.t 13)⟩]
def rRef02ValidX4 : List O := [
  ⟨(some 14), none, .mv (.t 6)⟩,
  ⟨(some 15), none, .bin .lss (.t 14) (.k (.int .i64 0))⟩,
  ⟨(some 16), none, .mv (.t 15)⟩,
  ⟨(some 17), (some (16, false)), .mv (.t 6)⟩,
  ⟨(some 18), (some (16, false)), .mv (.t 1)⟩,
  ⟨(some 19), (some (16, false)), .bin .geq (.t 17) (.t 18)⟩,
  ⟨(some 20), none, .pick (.t 16) (.k (.bool true)) (.t 19)⟩,
  ⟨(some 21), none, .mv (.t 20)⟩,
  ⟨(some 22), (some (21, false)), .mv (.t 5)⟩,
  ⟨(some 23), (some (21, false)), .bin .gtr (.t 22) (.k (.int .i64 0))⟩,
  ⟨(some 24), (some (21, false)), .mv (.t 23)⟩,
  ⟨(some 25), (some (24, true)), .mv (.t 0)⟩,
  ⟨(some 26), (some (24, true)), .mv (.t 5)⟩,
  ⟨(some 27), (some (24, true)), .bin .sub (.t 26) (.k (.int .i64 1))⟩,
  ⟨(some 28), (some (24, true)), .ixa 1 (.t 25) (.t 27)⟩,
  ⟨(some 29), (some (24, true)), .ld none (.t 28)⟩,
  ⟨(some 30), (some (24, true)), .mv (.t 6)⟩,
  ⟨(some 31), (some (24, true)), .bin .geq (.t 29) (.t 30)⟩,
  ⟨(some 32), (some (21, false)), .pick (.t 24) (.t 31) (.k (.bool false))⟩,
  ⟨(some 33), none, .pick (.t 21) (.k (.bool true)) (.t 32)⟩]
def rRef02ValidX5 : List O := [
  ⟨(some 4), none, .mv (.k (.bool false))⟩]
def rRef02ValidX6 : List O := [
  ⟨(some 34), none, .bin .add (.t 9) (.k (.int .i64 1))⟩,
  ⟨(some 9), none, .mv (.t 34)⟩]
def lRef02ValidX0 : C := (.seq (.reg rRef02ValidX2 false [] [0, 1, 7, 8, 9, 10]) (.seq (.cond (.t 10) .skip (.exit 0)) (.seq (.blk 1 (.seq (.reg rRef02ValidX3 false [] [0, 1, 5, 6, 7, 8, 9]) (.seq (.reg rRef02ValidX4 false [] [0, 1, 7, 8, 9, 33]) (.cond (.t 33) (.seq (.reg rRef02ValidX5 false [] [4]) .ret) .skip)))) (.reg rRef02ValidX6 false [] [0, 1, 7, 8, 9]))))
def rRef02ValidX7 : List O := [
  ⟨(some 4), none, .mv (.k (.bool true))⟩]
def cRef02Valid : C := (.seq (.reg rRef02ValidX0 false [] [0, 1]) (.seq (.seq (.reg rRef02ValidX1 false [] [0, 1, 7, 8, 9]) (.blk 0 (.loop lRef02ValidX0))) (.seq (.reg rRef02ValidX7 false [] [4]) .ret)))
def qRef02Valid : AFn := ⟨35, 2, [.t 4], cRef02Valid⟩
/- cohesion/cohesionref02.Has -/
def rRef02HasX0 : List O := [
  ⟨(some 4), none, .mv (.k (.bool false))⟩]
def rRef02HasX1 : List O := [
  ⟨(some 7), none, .mv (.t 0)⟩,
  ⟨(some 8), none, .len (.t 7)⟩,
  ⟨(some 9), none, .mv (.k (.int .i64 0))⟩]
def rRef02HasX2 : List O := [
  ⟨(some 10), none, .bin .lss (.t 9) (.t 8)⟩]
def rRef02HasX3 : List O := [
  ⟨(some 11), none, .ixa 1 (.t 7) (.t 9)⟩,
  ⟨(some 12), none, .ld none (.t 11)⟩,
  ⟨(some 6), none, .mv (.t 12)⟩]
def rRef02HasX4 : List O := [
  ⟨(some 13), none, .mv (.t 6)⟩,
  ⟨(some 14), none, .mv (.t 1)⟩,
  ⟨(some 15), none, .bin .eql (.t 13) (.t 14)⟩]
def rRef02HasX5 : List O := [
  ⟨(some 4), none, .mv (.k (.bool true))⟩]
def rRef02HasX6 : List O := [
  ⟨(some 16), none, .bin .add (.t 9) (.k (.int .i64 1))⟩,
  ⟨(some 9), none, .mv (.t 16)⟩]
def lRef02HasX0 : C := (.seq (.reg rRef02HasX2 false [] [1, 7, 8, 9, 10]) (.seq (.cond (.t 10) .skip (.exit 0)) (.seq (.blk 1 (.seq (.reg rRef02HasX3 false [] [1, 6, 7, 8, 9]) (.seq (.reg rRef02HasX4 false [] [1, 7, 8, 9, 15]) (.cond (.t 15) (.seq (.reg rRef02HasX5 false [] [4]) .ret) .skip)))) (.reg rRef02HasX6 false [] [1, 7, 8, 9]))))
def rRef02HasX7 : List O := [
  ⟨(some 4), none, .mv (.k (.bool false))⟩]
def cRef02Has : C := (.seq (.reg rRef02HasX0 false [] [0, 1]) (.seq (.seq (.reg rRef02HasX1 false [] [1, 7, 8, 9]) (.blk 0 (.loop lRef02HasX0))) (.seq (.reg rRef02HasX7 false [] [4]) .ret)))
def qRef02Has : AFn := ⟨17, 2, [.t 4], cRef02Has⟩
/- cohesion/cohesionref02.Union -/
def rRef02UnionX0 : List O := [
  ⟨(some 4), none, .mv (.k (.own 1 []))⟩]
def rRef02UnionX1 : List O := [
  ⟨(some 5), none, .mv (.t 0)⟩,
  ⟨(some 6), none, .app 1 (.k (.own 1 [])) (.t 5)⟩,
  ⟨(some 7), none, .mv (.t 1)⟩,
  ⟨(some 8), none, .app 1 (.t 6) (.t 7)⟩,
  ⟨(some 9), none, .call nRef02Of [(.t 8)]⟩,
  ⟨(some 4), none, .mv (.t 9)⟩]
def cRef02Union : C := (.seq (.reg rRef02UnionX0 false [] [0, 1]) (.seq (.reg rRef02UnionX1 false [] [4]) .ret))
def qRef02Union : AFn := ⟨10, 2, [.t 4], cRef02Union⟩
/- cohesion/cohesionref02.Meet -/
def rRef02MeetX0 : List O := [
  ⟨(some 4), none, .mv (.k (.own 1 []))⟩]
def rRef02MeetX1 : List O := [
  ⟨(some 5), none, .mv (.k (.own 1 []))⟩]
def rRef02MeetX2 : List O := [
  ⟨(some 8), none, .mv (.t 0)⟩,
  ⟨(some 9), none, .call nRef02Of [(.t 8)]⟩,
  ⟨(some 10), none, .len (.t 9)⟩,
  ⟨(some 11), none, .mv (.k (.int .i64 0))⟩]
def rRef02MeetX3 : List O := [
  ⟨(some 12), none, .bin .lss (.t 11) (.t 10)⟩]
def rRef02MeetX4 : List O := [
  ⟨(some 13), none, .ixa 1 (.t 9) (.t 11)⟩,
  ⟨(some 14), none, .ld none (.t 13)⟩,
  ⟨(some 7), none, .mv (.t 14)⟩]
def rRef02MeetX5 : List O := [
  ⟨(some 15), none, .mv (.t 1)⟩,
  ⟨(some 16), none, .mv (.t 7)⟩,
  ⟨(some 17), none, .call nRef02Has [(.t 15), (.t 16)]⟩]
def rRef02MeetX6 : List O := [
  ⟨(some 18), none, .mv (.t 5)⟩,
  ⟨(some 19), none, .mv (.t 7)⟩,
  ⟨(some 20), none, .bslice 1 1 [(.int .i64 0)] [(0, 1, (.t 19))]⟩,
  ⟨(some 21), none, .app 1 (.t 18) (.t 20)⟩,
  ⟨(some 5), none, .mv (.t 21)⟩]
def rRef02MeetX7 : List O := [
  ⟨(some 22), none, .bin .add (.t 11) (.k (.int .i64 1))⟩,
  ⟨(some 11), none, .mv (.t 22)⟩]
def lRef02MeetX0 : C := (.seq (.reg rRef02MeetX3 false [] [1, 5, 9, 10, 11, 12]) (.seq (.cond (.t 12) .skip (.exit 0)) (.seq (.blk 1 (.seq (.reg rRef02MeetX4 false [] [1, 5, 7, 9, 10, 11]) (.seq (.reg rRef02MeetX5 false [] [1, 5, 7, 9, 10, 11, 17]) (.cond (.t 17) (.reg rRef02MeetX6 false [] [1, 5, 9, 10, 11]) .skip)))) (.reg rRef02MeetX7 false [] [1, 5, 9, 10, 11]))))
def rRef02MeetX8 : List O := [
  ⟨(some 23), none, .mv (.t 5)⟩,
  ⟨(some 4), none, .mv (.t 23)⟩]
def cRef02Meet : C := (.seq (.reg rRef02MeetX0 false [] [0, 1]) (.seq (.reg rRef02MeetX1 false [] [0, 1, 5]) (.seq (.seq (.reg rRef02MeetX2 false [] [1, 5, 9, 10, 11]) (.blk 0 (.loop lRef02MeetX0))) (.seq (.reg rRef02MeetX8 false [] [4]) .ret))))
def qRef02Meet : AFn := ⟨24, 2, [.t 4], cRef02Meet⟩
/- cohesion/cohesionref02.Minus -/
def rRef02MinusX0 : List O := [
  ⟨(some 4), none, .mv (.k (.own 1 []))⟩]
def rRef02MinusX1 : List O := [
  ⟨(some 5), none, .mv (.k (.own 1 []))⟩]
def rRef02MinusX2 : List O := [
  ⟨(some 8), none, .mv (.t 0)⟩,
  ⟨(some 9), none, .call nRef02Of [(.t 8)]⟩,
  ⟨(some 10), none, .len (.t 9)⟩,
  ⟨(some 11), none, .mv (.k (.int .i64 0))⟩]
def rRef02MinusX3 : List O := [
  ⟨(some 12), none, .bin .lss (.t 11) (.t 10)⟩]
def rRef02MinusX4 : List O := [
  ⟨(some 13), none, .ixa 1 (.t 9) (.t 11)⟩,
  ⟨(some 14), none, .ld none (.t 13)⟩,
  ⟨(some 7), none, .mv (.t 14)⟩]
def rRef02MinusX5 : List O := [
  ⟨(some 15), none, .mv (.t 1)⟩,
  ⟨(some 16), none, .mv (.t 7)⟩,
  ⟨(some 17), none, .call nRef02Has [(.t 15), (.t 16)]⟩,
  ⟨(some 18), none, .un .not (.t 17)⟩]
def rRef02MinusX6 : List O := [
  ⟨(some 19), none, .mv (.t 5)⟩,
  ⟨(some 20), none, .mv (.t 7)⟩,
  ⟨(some 21), none, .bslice 1 1 [(.int .i64 0)] [(0, 1, (.t 20))]⟩,
  ⟨(some 22), none, .app 1 (.t 19) (.t 21)⟩,
  ⟨(some 5), none, .mv (.t 22)⟩]
def rRef02MinusX7 : List O := [
  ⟨(some 23), none, .bin .add (.t 11) (.k (.int .i64 1))⟩,
  ⟨(some 11), none, .mv (.t 23)⟩]
def lRef02MinusX0 : C := (.seq (.reg rRef02MinusX3 false [] [1, 5, 9, 10, 11, 12]) (.seq (.cond (.t 12) .skip (.exit 0)) (.seq (.blk 1 (.seq (.reg rRef02MinusX4 false [] [1, 5, 7, 9, 10, 11]) (.seq (.reg rRef02MinusX5 false [] [1, 5, 7, 9, 10, 11, 18]) (.cond (.t 18) (.reg rRef02MinusX6 false [] [1, 5, 9, 10, 11]) .skip)))) (.reg rRef02MinusX7 false [] [1, 5, 9, 10, 11]))))
def rRef02MinusX8 : List O := [
  ⟨(some 24), none, .mv (.t 5)⟩,
  ⟨(some 4), none, .mv (.t 24)⟩]
def cRef02Minus : C := (.seq (.reg rRef02MinusX0 false [] [0, 1]) (.seq (.reg rRef02MinusX1 false [] [0, 1, 5]) (.seq (.seq (.reg rRef02MinusX2 false [] [1, 5, 9, 10, 11]) (.blk 0 (.loop lRef02MinusX0))) (.seq (.reg rRef02MinusX8 false [] [4]) .ret))))
def qRef02Minus : AFn := ⟨25, 2, [.t 4], cRef02Minus⟩
/- cohesion/cohesionref02.Within -/
def rRef02WithinX0 : List O := [
  ⟨(some 4), none, .mv (.k (.bool false))⟩]
def rRef02WithinX1 : List O := [
  ⟨(some 7), none, .mv (.t 0)⟩,
  ⟨(some 8), none, .len (.t 7)⟩,
  ⟨(some 9), none, .mv (.k (.int .i64 0))⟩]
def rRef02WithinX2 : List O := [
  ⟨(some 10), none, .bin .lss (.t 9) (.t 8)⟩]
def rRef02WithinX3 : List O := [
  ⟨(some 11), none, .ixa 1 (.t 7) (.t 9)⟩,
  ⟨(some 12), none, .ld none (.t 11)⟩,
  ⟨(some 6), none, .mv (.t 12)⟩]
def rRef02WithinX4 : List O := [
  ⟨(some 13), none, .mv (.t 1)⟩,
  ⟨(some 14), none, .mv (.t 6)⟩,
  ⟨(some 15), none, .call nRef02Has [(.t 13), (.t 14)]⟩,
  ⟨(some 16), none, .un .not (.t 15)⟩]
def rRef02WithinX5 : List O := [
  ⟨(some 4), none, .mv (.k (.bool false))⟩]
def rRef02WithinX6 : List O := [
  ⟨(some 17), none, .bin .add (.t 9) (.k (.int .i64 1))⟩,
  ⟨(some 9), none, .mv (.t 17)⟩]
def lRef02WithinX0 : C := (.seq (.reg rRef02WithinX2 false [] [1, 7, 8, 9, 10]) (.seq (.cond (.t 10) .skip (.exit 0)) (.seq (.blk 1 (.seq (.reg rRef02WithinX3 false [] [1, 6, 7, 8, 9]) (.seq (.reg rRef02WithinX4 false [] [1, 7, 8, 9, 16]) (.cond (.t 16) (.seq (.reg rRef02WithinX5 false [] [4]) .ret) .skip)))) (.reg rRef02WithinX6 false [] [1, 7, 8, 9]))))
def rRef02WithinX7 : List O := [
  ⟨(some 4), none, .mv (.k (.bool true))⟩]
def cRef02Within : C := (.seq (.reg rRef02WithinX0 false [] [0, 1]) (.seq (.seq (.reg rRef02WithinX1 false [] [1, 7, 8, 9]) (.blk 0 (.loop lRef02WithinX0))) (.seq (.reg rRef02WithinX7 false [] [4]) .ret)))
def qRef02Within : AFn := ⟨18, 2, [.t 4], cRef02Within⟩
/- cohesion/cohesionref02.Cmp -/
def rRef02CmpX0 : List O := [
  ⟨(some 4), none, .mv (.k (.int .i64 0))⟩]
def rRef02CmpX1 : List O := [
  ⟨(some 6), none, .mv (.t 0)⟩,
  ⟨(some 7), none, .len (.t 6)⟩,
  ⟨(some 8), none, .mv (.k (.int .i64 0))⟩]
def rRef02CmpX2 : List O := [
  ⟨(some 9), none, .bin .lss (.t 8) (.t 7)⟩]
def rRef02CmpX3 : List O := [
  ⟨(some 10), none, .mv (.t 8)⟩,
  ⟨(some 5), none, .mv (.t 10)⟩]
def rRef02CmpX4 : List O := [
  ⟨(some 12), none, .mv (.t 5)⟩,
  ⟨(some 13), none, .mv (.t 1)⟩,
  ⟨(some 14), none, .len (.t 13)⟩,
  ⟨(some 15), none, .bin .geq (.t 12) (.t 14)⟩,
  ⟨(some 16), none, .mv (.t 15)⟩,
  ⟨(some 17), (some (16, false)), .mv (.t 0)⟩,
  ⟨(some 18), (some (16, false)), .mv (.t 5)⟩,
  ⟨(some 19), (some (16, false)), .ixa 1 (.t 17) (.t 18)⟩,
  ⟨(some 20), (some (16, false)), .ld none (.t 19)⟩,
  ⟨(some 21), (some (16, false)), .mv (.t 1)⟩,
  ⟨(some 22), (some (16, false)), .mv (.t 5)⟩,
  ⟨(some 23), (some (16, false)), .ixa 1 (.t 21) (.t 22)⟩,
  ⟨(some 24), (some (16, false)), .ld none (.t 23)⟩,
  ⟨(some 25), (some (16, false)), .bin .gtr (.t 20) (.t 24)⟩,
  ⟨(some 26), none, .pick (.t 16) (.k (.bool true)) (.t 25)⟩,
  ⟨(some 11), none, .mv (.t 26)⟩]
def rRef02CmpX5 : List O := [
  ⟨(some 4), none, .mv (.k (.int .i64 1))⟩]
def rRef02CmpX6 : List O := [
  ⟨(some 28), none, .mv (.t 0)⟩,
  ⟨(some 29), none, .mv (.t 5)⟩,
  ⟨(some 30), none, .ixa 1 (.t 28) (.t 29)⟩,
  ⟨(some 31), none, .ld none (.t 30)⟩,
  ⟨(some 32), none, .mv (.t 1)⟩,
  ⟨(some 33), none, .mv (.t 5)⟩,
  ⟨(some 34), none, .ixa 1 (.t 32) (.t 33)⟩,
  ⟨(some 35), none, .ld none (.t 34)⟩,
  ⟨(some 36), none, .bin .lss (.t 31) (.t 35)⟩,
  ⟨(some 27), none, .mv (.t 36)⟩]
def rRef02CmpX7 : List O := [
  ⟨(some 4), none, .mv (.k (.int .i64 (-1)))⟩]
def rRef02CmpX8 : List O := [
  ⟨(some 37), none, .bin .add (.t 8) (.k (.int .i64 1))⟩,
  ⟨(some 8), none, .mv (.t 37)⟩]
def lRef02CmpX0 : C := (.seq (.reg rRef02CmpX2 false [] [0, 1, 7, 8, 9]) (.seq (.cond (.t 9) .skip (.exit 0)) (.seq (.blk 1 (.seq (.reg rRef02CmpX3 false [] [0, 1, 5, 7, 8]) (.blk 2 (.seq (.reg rRef02CmpX4 true [(3, 3), (4, 4), (13, 13), (14, 14), (15, 15), (8, 9), (8, 10), (8, 11), (5, 12), (6, 12), (7, 12), (8, 12)] [0, 1, 5, 7, 8, 11]) (.cond (.t 11) (.seq (.reg rRef02CmpX5 false [] [4]) .ret) (.seq (.reg rRef02CmpX6 true [(8, 8), (9, 9), (3, 4), (3, 5), (3, 6), (0, 7), (1, 7), (2, 7), (3, 7)] [0, 1, 7, 8, 27]) (.cond (.t 27) (.seq (.reg rRef02CmpX7 false [] [4]) .ret) .skip))))))) (.reg rRef02CmpX8 false [] [0, 1, 7, 8]))))
def rRef02CmpX9 : List O := [
  ⟨(some 38), none, .mv (.t 0)⟩,
  ⟨(some 39), none, .len (.t 38)⟩,
  ⟨(some 40), none, .mv (.t 1)⟩,
  ⟨(some 41), none, .len (.t 40)⟩,
  ⟨(some 42), none, .bin .lss (.t 39) (.t 41)⟩]
def rRef02CmpX10 : List O := [
  ⟨(some 4), none, .mv (.k (.int .i64 (-1)))⟩]
def rRef02CmpX11 : List O := [
  ⟨(some 4), none, .mv (.k (.int .i64 0))⟩]
def cRef02Cmp : C := (.seq (.reg rRef02CmpX0 false [] [0, 1]) (.seq (.seq (.reg rRef02CmpX1 false [] [0, 1, 7, 8]) (.blk 0 (.loop lRef02CmpX0))) (.seq (.seq (.reg rRef02CmpX9 false [] [42]) (.cond (.t 42) (.seq (.reg rRef02CmpX10 false [] [4]) .ret) .skip)) (.seq (.reg rRef02CmpX11 false [] [4]) .ret))))
def qRef02Cmp : AFn := ⟨43, 2, [.t 4], cRef02Cmp⟩
/- cohesion/cohesionmake.Mod -/
def rMakeModX0 : List O := [
  ⟨(some 4), none, .mv (.k (.int .i64 0))⟩]
def rMakeModX1 : List O := [
  ⟨(some 5), none, .mv (.t 0)⟩,
  ⟨(some 6), none, .mv (.t 1)⟩,
  ⟨(some 7), none, .bin .rem (.t 5) (.t 6)⟩,
  ⟨(some 8), none, .mv (.t 1)⟩,
  ⟨(some 9), none, .bin .add (.t 7) (.t 8)⟩,
  ⟨(some 10), none, .mv (.t 1)⟩,
  ⟨(some 11), none, .bin .rem (.t 9) (.t 10)⟩,
  ⟨(some 4), none, .mv (.t 11)⟩]
def cMakeMod : C := (.seq (.reg rMakeModX0 false [] [0, 1]) (.seq (.reg rMakeModX1 false [] [4]) .ret))
def qMakeMod : AFn := ⟨12, 2, [.t 4], cMakeMod⟩
/- cohesion/cohesionref02.Range -/
def rRef02RangeX0 : List O := [
  ⟨(some 2), none, .mv (.k (.own 1 []))⟩]
def rRef02RangeX1 : List O := [
  ⟨(some 3), none, .mv (.k (.own 1 []))⟩]
def rRef02RangeX2 : List O := [
  ⟨(some 4), none, .mv (.k (.int .i64 0))⟩]
def rRef02RangeX3 : List O := [
  ⟨(some 5), none, .mv (.t 4)⟩,
  ⟨(some 6), none, .mv (.t 0)⟩,
  ⟨(some 7), none, .bin .lss (.t 5) (.t 6)⟩,
  ⟨(some 8), none, .mv (.t 7)⟩,
  ⟨(some 9), (some (8, true)), .mv (.t 4)⟩,
  ⟨(some 10), (some (8, true)), .bin .lss (.t 9) (.k (.int .i64 64))⟩,
  ⟨(some 11), none, .pick (.t 8) (.t 10) (.k (.bool false))⟩]
def rRef02RangeX4 : List O := [
  ⟨(some 14), none, .mv (.t 3)⟩,
  ⟨(some 15), none, .mv (.t 4)⟩,
  ⟨(some 16), none, .bslice 1 1 [(.int .i64 0)] [(0, 1, (.t 15))]⟩,
  ⟨(some 17), none, .app 1 (.t 14) (.t 16)⟩,
  ⟨(some 3), none, .mv (.t 17)⟩]
def rRef02RangeX5 : List O := [
  ⟨(some 12), none, .mv (.t 4)⟩,
  ⟨(some 13), none, .bin .add (.t 12) (.k (.int .i64 1))⟩,
  ⟨(some 4), none, .mv (.t 13)⟩]
def lRef02RangeX0 : C := (.seq (.seq (.reg rRef02RangeX3 false [] [0, 3, 4, 11]) (.cond (.t 11) .skip (.exit 0))) (.seq (.blk 1 (.reg rRef02RangeX4 false [] [0, 3, 4])) (.reg rRef02RangeX5 false [] [0, 3, 4])))
def rRef02RangeX6 : List O := [
  ⟨(some 18), none, .mv (.t 3)⟩,
  ⟨(some 2), none, .mv (.t 18)⟩]
def cRef02Range : C := (.seq (.reg rRef02RangeX0 false [] [0]) (.seq (.reg rRef02RangeX1 false [] [0, 3]) (.seq (.seq (.reg rRef02RangeX2 false [] [0, 3, 4]) (.blk 0 (.loop lRef02RangeX0))) (.seq (.reg rRef02RangeX6 false [] [2]) .ret))))
def qRef02Range : AFn := ⟨19, 1, [.t 2], cRef02Range⟩
/- slices.Compare[[]int,int] -/
def rSlicesCompareIntIntX0 : List O := [
  ⟨(some 4), none, .mv (.k (.int .i64 0))⟩]
def rSlicesCompareIntIntX1 : List O := [
  ⟨(some 9), none, .mv (.t 0)⟩,
  ⟨(some 10), none, .len (.t 9)⟩,
  ⟨(some 11), none, .mv (.k (.int .i64 0))⟩]
def rSlicesCompareIntIntX2 : List O := [
  ⟨(some 12), none, .bin .lss (.t 11) (.t 10)⟩]
def rSlicesCompareIntIntX3 : List O := [
  ⟨(some 13), none, .mv (.t 11)⟩,
  ⟨(some 14), none, .ixa 1 (.t 9) (.t 11)⟩,
  ⟨(some 15), none, .ld none (.t 14)⟩,
  ⟨(some 5), none, .mv (.t 13)⟩,
  ⟨(some 6), none, .mv (.t 15)⟩]
def rSlicesCompareIntIntX4 : List O := [
  ⟨(some 16), none, .mv (.t 5)⟩,
  ⟨(some 17), none, .mv (.t 1)⟩,
  ⟨(some 18), none, .len (.t 17)⟩,
  ⟨(some 19), none, .bin .geq (.t 16) (.t 18)⟩]
def rSlicesCompareIntIntX5 : List O := [
  ⟨(some 4), none, .mv (.k (.int .i64 1))⟩]
def rSlicesCompareIntIntX6 : List O := [
  ⟨(some 20), none, .mv (.t 1)⟩,
  ⟨(some 21), none, .mv (.t 5)⟩,
  ⟨(some 22), none, .ixa 1 (.t 20) (.t 21)⟩,
  ⟨(some 23), none, .ld none (.t 22)⟩,
  ⟨(some 7), none, .mv (.t 23)⟩]
def rSlicesCompareIntIntX7 : List O := [
  ⟨(some 24), none, .mv (.t 6)⟩,
  ⟨(some 25), none, .mv (.t 7)⟩,
  ⟨(some 26), none, .call nCmpCompareInt [(.t 24), (.t 25)]⟩,
  ⟨(some 8), none, .mv (.t 26)⟩]
def rSlicesCompareIntIntX8 : List O := [
  ⟨(some 27), none, .mv (.t 8)⟩,
  ⟨(some 28), none, .bin .neq (.t 27) (.k (.int .i64 0))⟩]
def rSlicesCompareIntIntX9 : List O := [
  ⟨(some 29), none, .mv (.t 8)⟩,
  ⟨(some 4), none, .mv (.t 29)⟩]
def rSlicesCompareIntIntX10 : List O := [
  ⟨(some 30), none, .bin .add (.t 11) (.k (.int .i64 1))⟩,
  ⟨(some 11), none, .mv (.t 30)⟩]
def lSlicesCompareIntIntX0 : C := (.seq (.reg rSlicesCompareIntIntX2 false [] [0, 1, 9, 10, 11, 12]) (.seq (.cond (.t 12) .skip (.exit 0)) (.seq (.blk 1 (.seq (.reg rSlicesCompareIntIntX3 false [] [0, 1, 5, 6, 9, 10, 11]) (.seq (.seq (.reg rSlicesCompareIntIntX4 false [] [0, 1, 5, 6, 9, 10, 11, 19]) (.cond (.t 19) (.seq (.reg rSlicesCompareIntIntX5 false [] [4]) .ret) .skip)) (.seq (.reg rSlicesCompareIntIntX6 false [] [0, 1, 6, 7, 9, 10, 11]) (.seq (.reg rSlicesCompareIntIntX7 false [] [0, 1, 8, 9, 10, 11]) (.seq (.reg rSlicesCompareIntIntX8 false [] [0, 1, 8, 9, 10, 11, 28]) (.cond (.t 28) (.seq (.reg rSlicesCompareIntIntX9 false [] [4]) .ret) .skip))))))) (.reg rSlicesCompareIntIntX10 false [] [0, 1, 9, 10, 11]))))
def rSlicesCompareIntIntX11 : List O := [
  ⟨(some 31), none, .mv (.t 0)⟩,
  ⟨(some 32), none, .len (.t 31)⟩,
  ⟨(some 33), none, .mv (.t 1)⟩,
  ⟨(some 34), none, .len (.t 33)⟩,
  ⟨(some 35), none, .bin .lss (.t 32) (.t 34)⟩]
def rSlicesCompareIntIntX12 : List O := [
  ⟨(some 4), none, .mv (.k (.int .i64 (-1)))⟩]
def rSlicesCompareIntIntX13 : List O := [
  ⟨(some 4), none, .mv (.k (.int .i64 0))⟩]
def cSlicesCompareIntInt : C := (.seq (.reg rSlicesCompareIntIntX0 false [] [0, 1]) (.seq (.seq (.reg rSlicesCompareIntIntX1 false [] [0, 1, 9, 10, 11]) (.blk 0 (.loop lSlicesCompareIntIntX0))) (.seq (.seq (.reg rSlicesCompareIntIntX11 false [] [35]) (.cond (.t 35) (.seq (.reg rSlicesCompareIntIntX12 false [] [4]) .ret) .skip)) (.seq (.reg rSlicesCompareIntIntX13 false [] [4]) .ret))))
def qSlicesCompareIntInt : AFn := ⟨36, 2, [.t 4], cSlicesCompareIntInt⟩
/- cohesion/nodeset.merged[int] -/
def rNodesetMergedIntX0 : List O := [
  ⟨(some 6), none, .mv (.k (.own 1 []))⟩]
def rNodesetMergedIntX1 : List O := [
  ⟨(some 11), none, .mv (.t 0)⟩,
  ⟨(some 12), none, .call nSlicesCloneIntInt [(.t 11)]⟩,
  ⟨(some 13), none, .mv (.t 1)⟩,
  ⟨(some 14), none, .call nSlicesCloneIntInt [(.t 13)]⟩,
  ⟨(some 0), none, .mv (.t 12)⟩,
  ⟨(some 1), none, .mv (.t 14)⟩]
def rNodesetMergedIntX2 : List O := [
  ⟨(some 15), none, .mv (.t 0)⟩,
  ⟨(some 16), none, .call nSlicesSortIntInt [(.t 15)]⟩]
def rNodesetMergedIntX3 : List O := [
  ⟨(some 17), none, .mv (.t 1)⟩,
  ⟨(some 18), none, .call nSlicesSortIntInt [(.t 17)]⟩]
def rNodesetMergedIntX4 : List O := [
  ⟨(some 19), none, .mv (.t 0)⟩,
  ⟨(some 20), none, .call nSlicesCompactIntInt [(.t 19)]⟩,
  ⟨(some 21), none, .mv (.t 1)⟩,
  ⟨(some 22), none, .call nSlicesCompactIntInt [(.t 21)]⟩,
  ⟨(some 0), none, .mv (.t 20)⟩,
  ⟨(some 1), none, .mv (.t 22)⟩]
def rNodesetMergedIntX5 : List O := [
  ⟨(some 7), none, .mv (.k (.own 1 []))⟩]
def rNodesetMergedIntX6 : List O := [
  ⟨(some 23), none, .mv (.t 0)⟩,
  ⟨(some 24), none, .len (.t 23)⟩,
  ⟨(some 25), none, .bin .gtr (.t 24) (.k (.int .i64 0))⟩,
  ⟨(some 26), none, .mv (.t 25)⟩,
  ⟨(some 27), (some (26, false)), .mv (.t 1)⟩,
  ⟨(some 28), (some (26, false)), .len (.t 27)⟩,
  ⟨(some 29), (some (26, false)), .bin .gtr (.t 28) (.k (.int .i64 0))⟩,
  ⟨(some 30), none, .pick (.t 26) (.k (.bool true)) (.t 29)⟩]
def rNodesetMergedIntX7 : List O := [
  ⟨(some 31), none, .mv (.t 1)⟩,
  ⟨(some 32), none, .len (.t 31)⟩,
  ⟨(some 33), none, .bin .eql (.t 32) (.k (.int .i64 0))⟩,
  ⟨(some 34), none, .mv (.t 33)⟩,
  ⟨(some 35), (some (34, false)), .mv (.t 0)⟩,
  ⟨(some 36), (some (34, false)), .len (.t 35)⟩,
  ⟨(some 37), (some (34, false)), .bin .gtr (.t 36) (.k (.int .i64 0))⟩,
  ⟨(some 38), (some (34, false)), .mv (.t 37)⟩,
  ⟨(some 39), (some (38, true)), .mv (.t 0)⟩,
  ⟨(some 40), (some (38, true)), .ixa 1 (.t 39) (.k (.int .i64 0))⟩,
  ⟨(some 41), (some (38, true)), .ld none (.t 40)⟩,
  ⟨(some 42), (some (38, true)), .mv (.t 1)⟩,
  ⟨(some 43), (some (38, true)), .ixa 1 (.t 42) (.k (.int .i64 0))⟩,
  ⟨(some 44), (some (38, true)), .ld none (.t 43)⟩,
  ⟨(some 45), (some (38, true)), .bin .leq (.t 41) (.t 44)⟩,
  ⟨(some 46), (some (34, false)), .pick (.t 38) (.t 45) (.k (.bool false))⟩,
  ⟨(some 47), none, .pick (.t 34) (.k (.bool true)) (.t 46)⟩,
  ⟨(some 8), none, .mv (.t 47)⟩]
def rNodesetMergedIntX8 : List O := [
  ⟨(some 48), none, .mv (.t 0)⟩,
  ⟨(some 49), none, .len (.t 48)⟩,
  ⟨(some 50), none, .bin .eql (.t 49) (.k (.int .i64 0))⟩,
  ⟨(some 51), none, .mv (.t 50)⟩,
  ⟨(some 52), (some (51, false)), .mv (.t 1)⟩,
  ⟨(some 53), (some (51, false)), .len (.t 52)⟩,
  ⟨(some 54), (some (51, false)), .bin .gtr (.t 53) (.k (.int .i64 0))⟩,
  ⟨(some 55), (some (51, false)), .mv (.t 54)⟩,
  ⟨(some 56), (some (55, true)), .mv (.t 1)⟩,
  ⟨(some 57), (some (55, true)), .ixa 1 (.t 56) (.k (.int .i64 0))⟩,
  ⟨(some 58), (some (55, true)), .ld none (.t 57)⟩,
  ⟨(some 59), (some (55, true)), .mv (.t 0)⟩,
  ⟨(some 60), (some (55, true)), .ixa 1 (.t 59) (.k (.int .i64 0))⟩,
  ⟨(some 61), (some (55, true)), .ld none (.t 60)⟩,
  ⟨(some 62), (some (55, true)), .bin .leq (.t 58) (.t 61)⟩,
  ⟨(some 63), (some (51, false)), .pick (.t 55) (.t 62) (.k (.bool false))⟩,
  ⟨(some 64), none, .pick (.t 51) (.k (.bool true)) (.t 63)⟩,
  ⟨(some 9), none, .mv (.t 64)⟩]
def rNodesetMergedIntX9 : List O := [
  ⟨(some 10), none, .mv (.k (.int .i64 0))⟩]
def rNodesetMergedIntX10 : List O := [
  ⟨(some 65), none, .mv (.t 8)⟩]
def rNodesetMergedIntX11 : List O := [
  ⟨(some 66), none, .mv (.t 0)⟩,
  ⟨(some 67), none, .ixa 1 (.t 66) (.k (.int .i64 0))⟩,
  ⟨(some 68), none, .ld none (.t 67)⟩,
  ⟨(some 69), none, .mv (.t 0)⟩,
  ⟨(some 70), none, .slc 1 (.t 69) (some (.k (.int .i64 1))) none⟩,
  ⟨(some 10), none, .mv (.t 68)⟩,
  ⟨(some 0), none, .mv (.t 70)⟩]
def rNodesetMergedIntX12 : List O := [
  ⟨(some 71), none, .mv (.t 9)⟩]
def rNodesetMergedIntX13 : List O := [
  ⟨(some 72), none, .mv (.t 1)⟩,
  ⟨(some 73), none, .ixa 1 (.t 72) (.k (.int .i64 0))⟩,
  ⟨(some 74), none, .ld none (.t 73)⟩,
  ⟨(some 75), none, .mv (.t 1)⟩,
  ⟨(some 76), none, .slc 1 (.t 75) (some (.k (.int .i64 1))) none⟩,
  ⟨(some 10), none, .mv (.t 74)⟩,
  ⟨(some 1), none, .mv (.t 76)⟩]
def rNodesetMergedIntX14 : List O := [
  ⟨(some 77), none, .mv (.t 2)⟩,
  ⟨(some 78), none, .mv (.t 8)⟩,
  ⟨(some 79), none, .mv (.t 9)⟩,
  ⟨(some 80), none, .callv (.t 77) [(.t 78), (.t 79)]⟩]
def rNodesetMergedIntX15 : List O := [
  ⟨(some 81), none, .mv (.t 7)⟩,
  ⟨(some 82), none, .mv (.t 10)⟩,
  ⟨(some 83), none, .bslice 1 1 [(.int .i64 0)] [(0, 1, (.t 82))]⟩,
  ⟨(some 84), none, .app 1 (.t 81) (.t 83)⟩,
  ⟨(some 7), none, .mv (.t 84)⟩]
def lNodesetMergedIntX0 : C := (.seq (.seq (.reg rNodesetMergedIntX6 false [] [0, 1, 2, 7, 30]) (.cond (.t 30) .skip (.exit 0))) (.blk 1 (.seq (.reg rNodesetMergedIntX7 true [(0, 0), (1, 1), (2, 2), (3, 3), (4, 4), (5, 5), (6, 6), (7, 7), (14, 14), (15, 15), (16, 16), (17, 17), (10, 11), (10, 12), (8, 13), (9, 13), (10, 13)] [0, 1, 2, 7, 8]) (.seq (.reg rNodesetMergedIntX8 true [(0, 0), (1, 1), (2, 2), (3, 3), (4, 4), (5, 5), (6, 6), (7, 7), (14, 14), (15, 15), (16, 16), (17, 17), (10, 11), (10, 12), (8, 13), (9, 13), (10, 13)] [0, 1, 2, 7, 8, 9]) (.seq (.reg rNodesetMergedIntX9 false [] [0, 1, 2, 7, 8, 9, 10]) (.seq (.seq (.reg rNodesetMergedIntX10 false [] [0, 1, 2, 7, 8, 9, 10, 65]) (.cond (.t 65) (.reg rNodesetMergedIntX11 true [(6, 6), (2, 3), (2, 4)] [0, 1, 2, 7, 8, 9, 10]) .skip)) (.seq (.seq (.reg rNodesetMergedIntX12 false [] [0, 1, 2, 7, 8, 9, 10, 71]) (.cond (.t 71) (.reg rNodesetMergedIntX13 true [(6, 6), (2, 3), (2, 4)] [0, 1, 2, 7, 8, 9, 10]) .skip)) (.seq (.reg rNodesetMergedIntX14 false [] [0, 1, 2, 7, 10, 80]) (.cond (.t 80) (.reg rNodesetMergedIntX15 false [] [0, 1, 2, 7]) .skip)))))))))
def rNodesetMergedIntX16 : List O := [
  ⟨(some 85), none, .mv (.t 7)⟩,
  ⟨(some 6), none, .mv (.t 85)⟩]
def cNodesetMergedInt : C := (.seq (.reg rNodesetMergedIntX0 false [] [0, 1, 2]) (.seq (.reg rNodesetMergedIntX1 false [] [0, 1, 2]) (.seq (.reg rNodesetMergedIntX2 false [] [0, 1, 2]) (.seq (.reg rNodesetMergedIntX3 false [] [0, 1, 2]) (.seq (.reg rNodesetMergedIntX4 false [] [0, 1, 2]) (.seq (.reg rNodesetMergedIntX5 false [] [0, 1, 2, 7]) (.seq (.blk 0 (.loop lNodesetMergedIntX0)) (.seq (.reg rNodesetMergedIntX16 false [] [6]) .ret))))))))
def qNodesetMergedInt : AFn := ⟨86, 3, [.t 6], cNodesetMergedInt⟩
/- cohesion/nodeset.Union$1 -/
def rNodesetUnion1X0 : List O := [
  ⟨(some 4), none, .mv (.k (.bool false))⟩]
def rNodesetUnion1X1 : List O := [
  ⟨(some 4), none, .mv (.k (.bool true))⟩]
def cNodesetUnion1 : C := (.seq (.reg rNodesetUnion1X0 false [] []) (.seq (.reg rNodesetUnion1X1 false [] [4]) .ret))
def qNodesetUnion1 : AFn := ⟨5, 2, [.t 4], cNodesetUnion1⟩
/- cohesion/nodeset.Meet$1 -/
def rNodesetMeet1X0 : List O := [
  ⟨(some 4), none, .mv (.k (.bool false))⟩]
def rNodesetMeet1X1 : List O := [
  ⟨(some 5), none, .mv (.t 0)⟩,
  ⟨(some 6), none, .mv (.t 5)⟩,
  ⟨(some 7), (some (6, true)), .mv (.t 1)⟩,
  ⟨(some 8), none, .pick (.t 6) (.t 7) (.k (.bool false))⟩,
  ⟨(some 4), none, .mv (.t 8)⟩]
def cNodesetMeet1 : C := (.seq (.reg rNodesetMeet1X0 false [] [0, 1]) (.seq (.reg rNodesetMeet1X1 false [] [4]) .ret))
def qNodesetMeet1 : AFn := ⟨9, 2, [.t 4], cNodesetMeet1⟩
/- cohesion/nodeset.Minus$1 -/
def rNodesetMinus1X0 : List O := [
  ⟨(some 4), none, .mv (.k (.bool false))⟩]
def rNodesetMinus1X1 : List O := [
  ⟨(some 5), none, .mv (.t 1)⟩,
  ⟨(some 6), none, .un .not (.t 5)⟩,
  ⟨(some 4), none, .mv (.t 6)⟩]
def cNodesetMinus1 : C := (.seq (.reg rNodesetMinus1X0 false [] [1]) (.seq (.reg rNodesetMinus1X1 false [] [4]) .ret))
def qNodesetMinus1 : AFn := ⟨7, 2, [.t 4], cNodesetMinus1⟩
/- slices.Contains[[]int,int] -/
def rSlicesContainsIntIntX0 : List O := [
  ⟨(some 4), none, .mv (.k (.bool false))⟩]
def rSlicesContainsIntIntX1 : List O := [
  ⟨(some 5), none, .mv (.t 0)⟩,
  ⟨(some 6), none, .mv (.t 1)⟩,
  ⟨(some 7), none, .call nSlicesIndexIntInt [(.t 5), (.t 6)]⟩,
  ⟨(some 8), none, .bin .geq (.t 7) (.k (.int .i64 0))⟩,
  ⟨(some 4), none, .mv (.t 8)⟩]
def cSlicesContainsIntInt : C := (.seq (.reg rSlicesContainsIntIntX0 false [] [0, 1]) (.seq (.reg rSlicesContainsIntIntX1 false [] [4]) .ret))
def qSlicesContainsIntInt : AFn := ⟨9, 2, [.t 4], cSlicesContainsIntInt⟩
/- cohesion/cohesionref02.put -/
def rRef02PutX0 : List O := [
  ⟨(some 4), none, .mv (.k (.own 1 []))⟩]
def rRef02PutX1 : List O := [
  ⟨(some 5), none, .mv (.k (.int .i64 0))⟩]
def rRef02PutX2 : List O := [
  ⟨(some 7), none, .mv (.t 5)⟩,
  ⟨(some 8), none, .mv (.t 0)⟩,
  ⟨(some 9), none, .len (.t 8)⟩,
  ⟨(some 10), none, .bin .lss (.t 7) (.t 9)⟩,
  ⟨(some 11), none, .mv (.t 10)⟩,
  ⟨(some 12), (some (11, true)), .mv (.t 0)⟩,
  ⟨(some 13), (some (11, true)), .mv (.t 5)⟩,
  ⟨(some 14), (some (11, true)), .ixa 1 (.t 12) (.t 13)⟩,
  ⟨(some 15), (some (11, true)), .ld none (.t 14)⟩,
  ⟨(some 16), (some (11, true)), .mv (.t 1)⟩,
  ⟨(some 17), (some (11, true)), .bin .lss (.t 15) (.t 16)⟩,
  ⟨(some 18), none, .pick (.t 11) (.t 17) (.k (.bool false))⟩]
def rRef02PutX3 : List O := [
  ⟨(some 19), none, .mv (.t 5)⟩,
  ⟨(some 20), none, .bin .add (.t 19) (.k (.int .i64 1))⟩,
  ⟨(some 5), none, .mv (.t 20)⟩]
def lRef02PutX0 : C := (.seq (.seq (.reg rRef02PutX2 false [] [0, 1, 5, 18]) (.cond (.t 18) .skip (.exit 0))) (.blk 1 (.reg rRef02PutX3 false [] [0, 1, 5])))
def rRef02PutX4 : List O := [
  ⟨(some 21), none, .mv (.t 5)⟩,
  ⟨(some 22), none, .mv (.t 0)⟩,
  ⟨(some 23), none, .len (.t 22)⟩,
  ⟨(some 24), none, .bin .lss (.t 21) (.t 23)⟩,
  ⟨(some 25), none, .mv (.t 24)⟩,
  ⟨(some 26), (some (25, true)), .mv (.t 0)⟩,
  ⟨(some 27), (some (25, true)), .mv (.t 5)⟩,
  ⟨(some 28), (some (25, true)), .ixa 1 (.t 26) (.t 27)⟩,
  ⟨(some 29), (some (25, true)), .ld none (.t 28)⟩,
  ⟨(some 30), (some (25, true)), .mv (.t 1)⟩,
  ⟨(some 31), (some (25, true)), .bin .eql (.t 29) (.t 30)⟩,
  ⟨(some 32), none, .pick (.t 25) (.t 31) (.k (.bool false))⟩]
def rRef02PutX5 : List O := [
  ⟨(some 33), none, .mv (.t 0)⟩,
  ⟨(some 4), none, .mv (.t 33)⟩]
def rRef02PutX6 : List O := [
  ⟨(some 34), none, .mv (.t 0)⟩,
  ⟨(some 35), none, .mv (.t 5)⟩,
  ⟨(some 36), none, .slc 1 (.t 34) none (some (.t 35))⟩,
  ⟨(some 37), none, .app 1 (.k (.own 1 [])) (.t 36)⟩,
  ⟨(some 6), none, .mv (.t 37)⟩]
def rRef02PutX7 : List O := [
  ⟨(some 38), none, .mv (.t 6)⟩,
  ⟨(some 39), none, .mv (.t 1)⟩,
  ⟨(some 40), none, .bslice 1 1 [(.int .i64 0)] [(0, 1, (.t 39))]⟩,
  ⟨(some 41), none, .app 1 (.t 38) (.t 40)⟩,
  ⟨(some 42), none, .mv (.t 0)⟩,
  ⟨(some 43), none, .mv (.t 5)⟩,
  ⟨(some 44), none, .slc 1 (.t 42) (some (.t 43)) none⟩,
  ⟨(some 45), none, .app 1 (.t 41) (.t 44)⟩,
  ⟨(some 4), none, .mv (.t 45)⟩]
def cRef02Put : C := (.seq (.reg rRef02PutX0 false [] [0, 1]) (.seq (.reg rRef02PutX1 false [] [0, 1, 5]) (.seq (.blk 0 (.loop lRef02PutX0)) (.seq (.seq (.reg rRef02PutX4 false [] [0, 1, 5, 32]) (.cond (.t 32) (.seq (.reg rRef02PutX5 false [] [4]) .ret) .skip)) (.seq (.reg rRef02PutX6 false [] [0, 1, 5, 6]) (.seq (.reg rRef02PutX7 true [(7, 7), (8, 8), (0, 2), (2, 4), (3, 4), (2, 5), (3, 5), (2, 6), (3, 6)] [4]) .ret))))))
def qRef02Put : AFn := ⟨46, 2, [.t 4], cRef02Put⟩
/- cmp.Compare[int] -/
def rCmpCompareIntX0 : List O := [
  ⟨(some 4), none, .mv (.k (.int .i64 0))⟩]
def rCmpCompareIntX1 : List O := [
  ⟨(some 7), none, .mv (.t 0)⟩,
  ⟨(some 8), none, .call nCmpIsNaNInt [(.t 7)]⟩,
  ⟨(some 5), none, .mv (.t 8)⟩]
def rCmpCompareIntX2 : List O := [
  ⟨(some 9), none, .mv (.t 1)⟩,
  ⟨(some 10), none, .call nCmpIsNaNInt [(.t 9)]⟩,
  ⟨(some 6), none, .mv (.t 10)⟩]
def rCmpCompareIntX3 : List O := [
  ⟨(some 11), none, .mv (.t 5)⟩]
def rCmpCompareIntX4 : List O := [
  ⟨(some 12), none, .mv (.t 6)⟩]
def rCmpCompareIntX5 : List O := [
  ⟨(some 4), none, .mv (.k (.int .i64 0))⟩]
def rCmpCompareIntX6 : List O := [
  ⟨(some 4), none, .mv (.k (.int .i64 (-1)))⟩]
def rCmpCompareIntX7 : List O := [
  ⟨(some 13), none, .mv (.t 6)⟩]
def rCmpCompareIntX8 : List O := [
  ⟨(some 4), none, .mv (.k (.int .i64 1))⟩]
def rCmpCompareIntX9 : List O := [
  ⟨(some 14), none, .mv (.t 0)⟩,
  ⟨(some 15), none, .mv (.t 1)⟩,
  ⟨(some 16), none, .bin .lss (.t 14) (.t 15)⟩]
def rCmpCompareIntX10 : List O := [
  ⟨(some 4), none, .mv (.k (.int .i64 (-1)))⟩]
def rCmpCompareIntX11 : List O := [
  ⟨(some 17), none, .mv (.t 0)⟩,
  ⟨(some 18), none, .mv (.t 1)⟩,
  ⟨(some 19), none, .bin .gtr (.t 17) (.t 18)⟩]
def rCmpCompareIntX12 : List O := [
  ⟨(some 4), none, .mv (.k (.int .i64 1))⟩]
def rCmpCompareIntX13 : List O := [
  ⟨(some 4), none, .mv (.k (.int .i64 0))⟩]
def cCmpCompareInt : C := (.seq (.reg rCmpCompareIntX0 false [] [0, 1]) (.seq (.reg rCmpCompareIntX1 false [] [0, 1, 5]) (.seq (.reg rCmpCompareIntX2 false [] [0, 1, 5, 6]) (.seq (.seq (.reg rCmpCompareIntX3 false [] [0, 1, 6, 11]) (.cond (.t 11) (.seq (.seq (.reg rCmpCompareIntX4 false [] [12]) (.cond (.t 12) (.seq (.reg rCmpCompareIntX5 false [] [4]) .ret) .skip)) (.seq (.reg rCmpCompareIntX6 false [] [4]) .ret)) .skip)) (.seq (.seq (.reg rCmpCompareIntX7 false [] [0, 1, 13]) (.cond (.t 13) (.seq (.reg rCmpCompareIntX8 false [] [4]) .ret) .skip)) (.seq (.seq (.reg rCmpCompareIntX9 false [] [0, 1, 16]) (.cond (.t 16) (.seq (.reg rCmpCompareIntX10 false [] [4]) .ret) .skip)) (.seq (.seq (.reg rCmpCompareIntX11 false [] [19]) (.cond (.t 19) (.seq (.reg rCmpCompareIntX12 false [] [4]) .ret) .skip)) (.seq (.reg rCmpCompareIntX13 false [] [4]) .ret))))))))
def qCmpCompareInt : AFn := ⟨20, 2, [.t 4], cCmpCompareInt⟩
/- slices.Clone[[]int,int] -/
def rSlicesCloneIntIntX0 : List O := [
  ⟨(some 2), none, .mv (.k (.own 1 []))⟩]
def rSlicesCloneIntIntX1 : List O := [
  ⟨(some 3), none, .mv (.t 0)⟩,
  ⟨(some 4), none, .eq false .nsl (.t 3) (.k (.own 1 []))⟩]
def rSlicesCloneIntIntX2 : List O := [
  ⟨(some 2), none, .mv (.k (.own 1 []))⟩]
def rSlicesCloneIntIntX3 : List O := [
  ⟨(some 5), none, .bslice 1 0 [(.int .i64 0)] []⟩,
  ⟨(some 6), none, .mv (.t 0)⟩,
  ⟨(some 7), none, .app 1 (.t 5) (.t 6)⟩,
  ⟨(some 2), none, .mv (.t 7)⟩]
def cSlicesCloneIntInt : C := (.seq (.reg rSlicesCloneIntIntX0 false [] [0]) (.seq (.seq (.reg rSlicesCloneIntIntX1 false [] [0, 4]) (.cond (.t 4) (.seq (.reg rSlicesCloneIntIntX2 false [] [2]) .ret) .skip)) (.seq (.reg rSlicesCloneIntIntX3 false [] [2]) .ret)))
def qSlicesCloneIntInt : AFn := ⟨8, 1, [.t 2], cSlicesCloneIntInt⟩
/- slices.Sort[[]int,int] -/
def rSlicesSortIntIntX0 : List O := [
  ⟨(some 3), none, .mv (.t 0)⟩,
  ⟨(some 4), none, .len (.t 3)⟩,
  ⟨(some 2), none, .mv (.t 4)⟩]
def rSlicesSortIntIntX1 : List O := [
  ⟨(some 5), none, .mv (.t 0)⟩,
  ⟨(some 6), none, .mv (.t 2)⟩,
  ⟨(some 7), none, .mv (.t 2)⟩,
  ⟨(some 8), none, .cvt .u64 (.t 7)⟩,
  ⟨(some 9), none, .call 42 [(.t 8)]⟩,
  ⟨(some 10), none, .call 41 [(.t 5), (.k (.int .i64 0)), (.t 6), (.t 9)]⟩]
def cSlicesSortIntInt : C := (.seq (.reg rSlicesSortIntIntX0 false [] [0, 2]) (.reg rSlicesSortIntIntX1 false [] []))
def qSlicesSortIntInt : AFn := ⟨11, 1, [], cSlicesSortIntInt⟩
/- slices.Compact[[]int,int] -/
def rSlicesCompactIntIntX0 : List O := [
  ⟨(some 2), none, .mv (.k (.own 1 []))⟩]
def rSlicesCompactIntIntX1 : List O := [
  ⟨(some 6), none, .mv (.t 0)⟩,
  ⟨(some 7), none, .len (.t 6)⟩,
  ⟨(some 8), none, .bin .lss (.t 7) (.k (.int .i64 2))⟩]
def rSlicesCompactIntIntX2 : List O := [
  ⟨(some 9), none, .mv (.t 0)⟩,
  ⟨(some 2), none, .mv (.t 9)⟩]
def rSlicesCompactIntIntX3 : List O := [
  ⟨(some 3), none, .mv (.k (.int .i64 1))⟩]
def rSlicesCompactIntIntX4 : List O := [
  ⟨(some 10), none, .mv (.t 3)⟩,
  ⟨(some 11), none, .mv (.t 0)⟩,
  ⟨(some 12), none, .len (.t 11)⟩,
  ⟨(some 13), none, .bin .lss (.t 10) (.t 12)⟩]
def rSlicesCompactIntIntX5 : List O := [
  ⟨(some 16), none, .mv (.t 0)⟩,
  ⟨(some 17), none, .mv (.t 3)⟩,
  ⟨(some 18), none, .ixa 1 (.t 16) (.t 17)⟩,
  ⟨(some 19), none, .ld none (.t 18)⟩,
  ⟨(some 20), none, .mv (.t 0)⟩,
  ⟨(some 21), none, .mv (.t 3)⟩,
  ⟨(some 22), none, .bin .sub (.t 21) (.k (.int .i64 1))⟩,
  ⟨(some 23), none, .ixa 1 (.t 20) (.t 22)⟩,
  ⟨(some 24), none, .ld none (.t 23)⟩,
  ⟨(some 25), none, .bin .eql (.t 19) (.t 24)⟩]
def rSlicesCompactIntIntX6 : List O := [
  ⟨(some 26), none, .mv (.t 0)⟩,
  ⟨(some 27), none, .mv (.t 3)⟩,
  ⟨(some 28), none, .slc 1 (.t 26) (some (.t 27)) none⟩,
  ⟨(some 4), none, .mv (.t 28)⟩]
def rSlicesCompactIntIntX7 : List O := [
  ⟨(some 5), none, .mv (.k (.int .i64 1))⟩]
def rSlicesCompactIntIntX8 : List O := [
  ⟨(some 29), none, .mv (.t 5)⟩,
  ⟨(some 30), none, .mv (.t 4)⟩,
  ⟨(some 31), none, .len (.t 30)⟩,
  ⟨(some 32), none, .bin .lss (.t 29) (.t 31)⟩]
def rSlicesCompactIntIntX9 : List O := [
  ⟨(some 35), none, .mv (.t 4)⟩,
  ⟨(some 36), none, .mv (.t 5)⟩,
  ⟨(some 37), none, .ixa 1 (.t 35) (.t 36)⟩,
  ⟨(some 38), none, .ld none (.t 37)⟩,
  ⟨(some 39), none, .mv (.t 4)⟩,
  ⟨(some 40), none, .mv (.t 5)⟩,
  ⟨(some 41), none, .bin .sub (.t 40) (.k (.int .i64 1))⟩,
  ⟨(some 42), none, .ixa 1 (.t 39) (.t 41)⟩,
  ⟨(some 43), none, .ld none (.t 42)⟩,
  ⟨(some 44), none, .bin .neq (.t 38) (.t 43)⟩]
def rSlicesCompactIntIntX10 : List O := [
  ⟨(some 45), none, .mv (.t 0)⟩,
  ⟨(some 46), none, .mv (.t 3)⟩,
  ⟨(some 47), none, .mv (.t 4)⟩,
  ⟨(some 48), none, .mv (.t 5)⟩,
  ⟨(some 49), none, .ixa 1 (.t 47) (.t 48)⟩,
  ⟨(some 50), none, .ld none (.t 49)⟩,
  ⟨(some 51), none, .ixa 1 (.t 45) (.t 46)⟩,
  ⟨none, none, .st 1 (.t 51) (.t 50)⟩]
def rSlicesCompactIntIntX11 : List O := [
  ⟨(some 52), none, .mv (.t 3)⟩,
  ⟨(some 53), none, .bin .add (.t 52) (.k (.int .i64 1))⟩,
  ⟨(some 3), none, .mv (.t 53)⟩]
def rSlicesCompactIntIntX12 : List O := [
  ⟨(some 33), none, .mv (.t 5)⟩,
  ⟨(some 34), none, .bin .add (.t 33) (.k (.int .i64 1))⟩,
  ⟨(some 5), none, .mv (.t 34)⟩]
def lSlicesCompactIntIntX0 : C := (.seq (.seq (.reg rSlicesCompactIntIntX8 false [] [0, 3, 4, 5, 32]) (.cond (.t 32) .skip (.exit 2))) (.seq (.blk 3 (.seq (.reg rSlicesCompactIntIntX9 true [(9, 9), (3, 4), (3, 5), (3, 6), (3, 7), (0, 8), (1, 8), (2, 8), (3, 8)] [0, 3, 4, 5, 44]) (.cond (.t 44) (.seq (.reg rSlicesCompactIntIntX10 false [] [0, 3, 4, 5]) (.reg rSlicesCompactIntIntX11 false [] [0, 3, 4, 5])) .skip))) (.reg rSlicesCompactIntIntX12 false [] [0, 3, 4, 5])))
def rSlicesCompactIntIntX13 : List O := [
  ⟨(some 54), none, .mv (.t 0)⟩,
  ⟨(some 55), none, .mv (.t 3)⟩,
  ⟨(some 56), none, .slc 1 (.t 54) (some (.t 55)) none⟩,
  ⟨none, none, .clr 1 [(.int .i64 0)] (.t 56)⟩]
def rSlicesCompactIntIntX14 : List O := [
  ⟨(some 57), none, .mv (.t 0)⟩,
  ⟨(some 58), none, .mv (.t 3)⟩,
  ⟨(some 59), none, .slc 1 (.t 57) none (some (.t 58))⟩,
  ⟨(some 2), none, .mv (.t 59)⟩]
def rSlicesCompactIntIntX15 : List O := [
  ⟨(some 14), none, .mv (.t 3)⟩,
  ⟨(some 15), none, .bin .add (.t 14) (.k (.int .i64 1))⟩,
  ⟨(some 3), none, .mv (.t 15)⟩]
def lSlicesCompactIntIntX1 : C := (.seq (.seq (.reg rSlicesCompactIntIntX4 false [] [0, 3, 13]) (.cond (.t 13) .skip (.exit 0))) (.seq (.blk 1 (.seq (.reg rSlicesCompactIntIntX5 true [(9, 9), (3, 4), (3, 5), (3, 6), (3, 7), (0, 8), (1, 8), (2, 8), (3, 8)] [0, 3, 25]) (.cond (.t 25) (.seq (.reg rSlicesCompactIntIntX6 false [] [0, 3, 4]) (.seq (.seq (.reg rSlicesCompactIntIntX7 false [] [0, 3, 4, 5]) (.blk 2 (.loop lSlicesCompactIntIntX0))) (.seq (.reg rSlicesCompactIntIntX13 false [] [0, 3]) (.seq (.reg rSlicesCompactIntIntX14 false [] [2]) .ret)))) .skip))) (.reg rSlicesCompactIntIntX15 false [] [0, 3])))
def rSlicesCompactIntIntX16 : List O := [
  ⟨(some 60), none, .mv (.t 0)⟩,
  ⟨(some 2), none, .mv (.t 60)⟩]
def cSlicesCompactIntInt : C := (.seq (.reg rSlicesCompactIntIntX0 false [] [0]) (.seq (.seq (.reg rSlicesCompactIntIntX1 false [] [0, 8]) (.cond (.t 8) (.seq (.reg rSlicesCompactIntIntX2 false [] [2]) .ret) .skip)) (.seq (.seq (.reg rSlicesCompactIntIntX3 false [] [0, 3]) (.blk 0 (.loop lSlicesCompactIntIntX1))) (.seq (.reg rSlicesCompactIntIntX16 false [] [2]) .ret))))
def qSlicesCompactIntInt : AFn := ⟨61, 1, [.t 2], cSlicesCompactIntInt⟩
/- slices.Index[[]int,int] -/
def rSlicesIndexIntIntX0 : List O := [
  ⟨(some 4), none, .mv (.k (.int .i64 0))⟩]
def rSlicesIndexIntIntX1 : List O := [
  ⟨(some 6), none, .mv (.t 0)⟩,
  ⟨(some 7), none, .len (.t 6)⟩,
  ⟨(some 8), none, .mv (.k (.int .i64 0))⟩]
def rSlicesIndexIntIntX2 : List O := [
  ⟨(some 9), none, .bin .lss (.t 8) (.t 7)⟩]
def rSlicesIndexIntIntX3 : List O := [
  ⟨(some 10), none, .mv (.t 8)⟩,
  ⟨(some 5), none, .mv (.t 10)⟩]
def rSlicesIndexIntIntX4 : List O := [
  ⟨(some 11), none, .mv (.t 1)⟩,
  ⟨(some 12), none, .mv (.t 0)⟩,
  ⟨(some 13), none, .mv (.t 5)⟩,
  ⟨(some 14), none, .ixa 1 (.t 12) (.t 13)⟩,
  ⟨(some 15), none, .ld none (.t 14)⟩,
  ⟨(some 16), none, .bin .eql (.t 11) (.t 15)⟩]
def rSlicesIndexIntIntX5 : List O := [
  ⟨(some 17), none, .mv (.t 5)⟩,
  ⟨(some 4), none, .mv (.t 17)⟩]
def rSlicesIndexIntIntX6 : List O := [
  ⟨(some 18), none, .bin .add (.t 8) (.k (.int .i64 1))⟩,
  ⟨(some 8), none, .mv (.t 18)⟩]
def lSlicesIndexIntIntX0 : C := (.seq (.reg rSlicesIndexIntIntX2 false [] [0, 1, 7, 8, 9]) (.seq (.cond (.t 9) .skip (.exit 0)) (.seq (.blk 1 (.seq (.reg rSlicesIndexIntIntX3 false [] [0, 1, 5, 7, 8]) (.seq (.reg rSlicesIndexIntIntX4 false [] [0, 1, 5, 7, 8, 16]) (.cond (.t 16) (.seq (.reg rSlicesIndexIntIntX5 false [] [4]) .ret) .skip)))) (.reg rSlicesIndexIntIntX6 false [] [0, 1, 7, 8]))))
def rSlicesIndexIntIntX7 : List O := [
  ⟨(some 4), none, .mv (.k (.int .i64 (-1)))⟩]
def cSlicesIndexIntInt : C := (.seq (.reg rSlicesIndexIntIntX0 false [] [0, 1]) (.seq (.seq (.reg rSlicesIndexIntIntX1 false [] [0, 1, 7, 8]) (.blk 0 (.loop lSlicesIndexIntIntX0))) (.seq (.reg rSlicesIndexIntIntX7 false [] [4]) .ret)))
def qSlicesIndexIntInt : AFn := ⟨19, 2, [.t 4], cSlicesIndexIntInt⟩
/- cmp.isNaN[int] -/
def rCmpIsNaNIntX0 : List O := [
  ⟨(some 2), none, .mv (.k (.bool false))⟩]
def rCmpIsNaNIntX1 : List O := [
  ⟨(some 3), none, .mv (.t 0)⟩,
  ⟨(some 4), none, .mv (.t 0)⟩,
  ⟨(some 5), none, .bin .neq (.t 3) (.t 4)⟩,
  ⟨(some 2), none, .mv (.t 5)⟩]
def cCmpIsNaNInt : C := (.seq (.reg rCmpIsNaNIntX0 false [] [0]) (.seq (.reg rCmpIsNaNIntX1 false [] [2]) .ret))
def qCmpIsNaNInt : AFn := ⟨6, 1, [.t 2], cCmpIsNaNInt⟩
abbrev Md := Go.Bm.Md
abbrev Cfg := Go.Bm.Cfg
def look : List (Nat × Md × AFn) → Nat → Option (Md × AFn)
  | [], _ => none
  | (j, m, q) :: r, i => if i = j then some (m, q) else look r i
def fns : List (Nat × Md × AFn) := [
  (nLaw02NodesetWithin, ⟨false, false, true⟩, qLaw02NodesetWithin),
  (nLaw02NodesetAll, ⟨false, false, true⟩, qLaw02NodesetAll),
  (nLaw02Awake, ⟨false, false, true⟩, qLaw02Awake),
  (nNodesetCmp, ⟨false, false, true⟩, qNodesetCmp),
  (nRef02Same, ⟨false, false, true⟩, qRef02Same),
  (nNodesetUnion, ⟨false, false, false⟩, qNodesetUnion),
  (nNodesetMeet, ⟨false, false, false⟩, qNodesetMeet),
  (nNodesetMinus, ⟨false, false, false⟩, qNodesetMinus),
  (nNodesetOf, ⟨false, false, false⟩, qNodesetOf),
  (nNodesetWithin, ⟨false, false, true⟩, qNodesetWithin),
  (nNodesetHas, ⟨false, false, true⟩, qNodesetHas),
  (nNodesetValid, ⟨false, false, true⟩, qNodesetValid),
  (nNodesetRange, ⟨false, false, false⟩, qNodesetRange),
  (nRef02Of, ⟨false, false, false⟩, qRef02Of),
  (nRef02Valid, ⟨false, false, true⟩, qRef02Valid),
  (nRef02Has, ⟨false, false, true⟩, qRef02Has),
  (nRef02Union, ⟨false, false, false⟩, qRef02Union),
  (nRef02Meet, ⟨false, false, false⟩, qRef02Meet),
  (nRef02Minus, ⟨false, false, false⟩, qRef02Minus),
  (nRef02Within, ⟨false, false, true⟩, qRef02Within),
  (nRef02Cmp, ⟨false, false, true⟩, qRef02Cmp),
  (nMakeMod, ⟨false, false, true⟩, qMakeMod),
  (nRef02Range, ⟨false, false, false⟩, qRef02Range),
  (nSlicesCompareIntInt, ⟨false, false, true⟩, qSlicesCompareIntInt),
  (nNodesetMergedInt, ⟨false, false, false⟩, qNodesetMergedInt),
  (nNodesetUnion1, ⟨false, false, true⟩, qNodesetUnion1),
  (nNodesetMeet1, ⟨false, false, true⟩, qNodesetMeet1),
  (nNodesetMinus1, ⟨false, false, true⟩, qNodesetMinus1),
  (nSlicesContainsIntInt, ⟨false, false, true⟩, qSlicesContainsIntInt),
  (nRef02Put, ⟨false, false, false⟩, qRef02Put),
  (nCmpCompareInt, ⟨false, false, true⟩, qCmpCompareInt),
  (nSlicesCloneIntInt, ⟨false, true, true⟩, qSlicesCloneIntInt),
  (nSlicesSortIntInt, ⟨false, false, true⟩, qSlicesSortIntInt),
  (nSlicesCompactIntInt, ⟨false, false, false⟩, qSlicesCompactIntInt),
  (nSlicesIndexIntInt, ⟨false, false, true⟩, qSlicesIndexIntInt),
  (nCmpIsNaNInt, ⟨false, false, true⟩, qCmpIsNaNInt)]
def cfg : Cfg := ⟨look fns, fun _ => [], fun _ => none, fun _ => none⟩
theorem kLaw02NodesetWithin : chkFB Go.Proofs.Try.prog Go.Proofs.Try.f5 qLaw02NodesetWithin = true := by kernel_rfl
theorem kLaw02NodesetAll : chkFB Go.Proofs.Try.prog Go.Proofs.Try.f6 qLaw02NodesetAll = true := by kernel_rfl
theorem kLaw02Awake : chkFB Go.Proofs.Try.prog Go.Proofs.Try.f7 qLaw02Awake = true := by kernel_rfl
theorem kNodesetCmp : chkFB Go.Proofs.Try.prog Go.Proofs.Try.f8 qNodesetCmp = true := by kernel_rfl
theorem kRef02Same : chkFB Go.Proofs.Try.prog Go.Proofs.Try.f9 qRef02Same = true := by kernel_rfl
theorem kNodesetUnion : chkFB Go.Proofs.Try.prog Go.Proofs.Try.f10 qNodesetUnion = true := by kernel_rfl
theorem kNodesetMeet : chkFB Go.Proofs.Try.prog Go.Proofs.Try.f11 qNodesetMeet = true := by kernel_rfl
theorem kNodesetMinus : chkFB Go.Proofs.Try.prog Go.Proofs.Try.f12 qNodesetMinus = true := by kernel_rfl
theorem kNodesetOf : chkFB Go.Proofs.Try.prog Go.Proofs.Try.f13 qNodesetOf = true := by kernel_rfl
theorem kNodesetWithin : chkFB Go.Proofs.Try.prog Go.Proofs.Try.f14 qNodesetWithin = true := by kernel_rfl
theorem kNodesetHas : chkFB Go.Proofs.Try.prog Go.Proofs.Try.f15 qNodesetHas = true := by kernel_rfl
theorem kNodesetValid : chkFB Go.Proofs.Try.prog Go.Proofs.Try.f16 qNodesetValid = true := by kernel_rfl
theorem kNodesetRange : chkFB Go.Proofs.Try.prog Go.Proofs.Try.f17 qNodesetRange = true := by kernel_rfl
theorem kRef02Of : chkFB Go.Proofs.Try.prog Go.Proofs.Try.f18 qRef02Of = true := by kernel_rfl
theorem kRef02Valid : chkFB Go.Proofs.Try.prog Go.Proofs.Try.f19 qRef02Valid = true := by kernel_rfl
theorem kRef02Has : chkFB Go.Proofs.Try.prog Go.Proofs.Try.f20 qRef02Has = true := by kernel_rfl
theorem kRef02Union : chkFB Go.Proofs.Try.prog Go.Proofs.Try.f21 qRef02Union = true := by kernel_rfl
theorem kRef02Meet : chkFB Go.Proofs.Try.prog Go.Proofs.Try.f22 qRef02Meet = true := by kernel_rfl
theorem kRef02Minus : chkFB Go.Proofs.Try.prog Go.Proofs.Try.f23 qRef02Minus = true := by kernel_rfl
theorem kRef02Within : chkFB Go.Proofs.Try.prog Go.Proofs.Try.f24 qRef02Within = true := by kernel_rfl
theorem kRef02Cmp : chkFB Go.Proofs.Try.prog Go.Proofs.Try.f25 qRef02Cmp = true := by kernel_rfl
theorem kMakeMod : chkFB Go.Proofs.Try.prog Go.Proofs.Try.f26 qMakeMod = true := by kernel_rfl
theorem kRef02Range : chkFB Go.Proofs.Try.prog Go.Proofs.Try.f27 qRef02Range = true := by kernel_rfl
theorem kSlicesCompareIntInt : chkFB Go.Proofs.Try.prog Go.Proofs.Try.f28 qSlicesCompareIntInt = true := by kernel_rfl
theorem kNodesetMergedInt : chkFB Go.Proofs.Try.prog Go.Proofs.Try.f29 qNodesetMergedInt = true := by kernel_rfl
theorem kNodesetUnion1 : chkFB Go.Proofs.Try.prog Go.Proofs.Try.f30 qNodesetUnion1 = true := by kernel_rfl
theorem kNodesetMeet1 : chkFB Go.Proofs.Try.prog Go.Proofs.Try.f31 qNodesetMeet1 = true := by kernel_rfl
theorem kNodesetMinus1 : chkFB Go.Proofs.Try.prog Go.Proofs.Try.f32 qNodesetMinus1 = true := by kernel_rfl
theorem kSlicesContainsIntInt : chkFB Go.Proofs.Try.prog Go.Proofs.Try.f33 qSlicesContainsIntInt = true := by kernel_rfl
theorem kRef02Put : chkFB Go.Proofs.Try.prog Go.Proofs.Try.f34 qRef02Put = true := by kernel_rfl
theorem kCmpCompareInt : chkFB Go.Proofs.Try.prog Go.Proofs.Try.f35 qCmpCompareInt = true := by kernel_rfl
theorem kSlicesCloneIntInt : chkFB Go.Proofs.Try.prog Go.Proofs.Try.f36 qSlicesCloneIntInt = true := by kernel_rfl
theorem kSlicesSortIntInt : chkFB Go.Proofs.Try.prog Go.Proofs.Try.f37 qSlicesSortIntInt = true := by kernel_rfl
theorem kSlicesCompactIntInt : chkFB Go.Proofs.Try.prog Go.Proofs.Try.f38 qSlicesCompactIntInt = true := by kernel_rfl
theorem kSlicesIndexIntInt : chkFB Go.Proofs.Try.prog Go.Proofs.Try.f39 qSlicesIndexIntInt = true := by kernel_rfl
theorem kCmpIsNaNInt : chkFB Go.Proofs.Try.prog Go.Proofs.Try.f40 qCmpIsNaNInt = true := by kernel_rfl
theorem look_mem : ∀ {l : List (Nat × Md × AFn)} {f : Nat} {m : Md} {q : AFn}, look l f = some (m, q) → (f, m, q) ∈ l
  | [], f, m, q, h => by simp [look] at h
  | (j, m', q') :: r, f, m, q, h => by
    unfold look at h
    split at h
    · rename_i he; subst he; simp at h; obtain ⟨rfl, rfl⟩ := h; simp
    · exact List.mem_cons_of_mem _ (look_mem h)
def Good (p : Nat × Md × AFn) : Prop := ∃ fn, Go.Proofs.Try.prog.funcs[p.1]? = some fn ∧ chkFB Go.Proofs.Try.prog fn p.2.2 = true
def All (G : Nat × Md × AFn → Prop) : List (Nat × Md × AFn) → Prop
  | [] => True
  | p :: r => G p ∧ All G r
theorem All.get {G : Nat × Md × AFn → Prop} : ∀ {l : List (Nat × Md × AFn)}, All G l → ∀ p ∈ l, G p
  | [], _, p, h => by simp at h
  | q :: r, h, p, hp => by
    rcases List.mem_cons.1 hp with e | e
    · subst e; exact h.1
    · exact All.get h.2 p e
theorem allGood : All Good fns := ⟨⟨_, Go.Proofs.Try.func5, kLaw02NodesetWithin⟩, ⟨_, Go.Proofs.Try.func6, kLaw02NodesetAll⟩, ⟨_, Go.Proofs.Try.func7, kLaw02Awake⟩, ⟨_, Go.Proofs.Try.func8, kNodesetCmp⟩, ⟨_, Go.Proofs.Try.func9, kRef02Same⟩, ⟨_, Go.Proofs.Try.func10, kNodesetUnion⟩, ⟨_, Go.Proofs.Try.func11, kNodesetMeet⟩, ⟨_, Go.Proofs.Try.func12, kNodesetMinus⟩, ⟨_, Go.Proofs.Try.func13, kNodesetOf⟩, ⟨_, Go.Proofs.Try.func14, kNodesetWithin⟩, ⟨_, Go.Proofs.Try.func15, kNodesetHas⟩, ⟨_, Go.Proofs.Try.func16, kNodesetValid⟩, ⟨_, Go.Proofs.Try.func17, kNodesetRange⟩, ⟨_, Go.Proofs.Try.func18, kRef02Of⟩, ⟨_, Go.Proofs.Try.func19, kRef02Valid⟩, ⟨_, Go.Proofs.Try.func20, kRef02Has⟩, ⟨_, Go.Proofs.Try.func21, kRef02Union⟩, ⟨_, Go.Proofs.Try.func22, kRef02Meet⟩, ⟨_, Go.Proofs.Try.func23, kRef02Minus⟩, ⟨_, Go.Proofs.Try.func24, kRef02Within⟩, ⟨_, Go.Proofs.Try.func25, kRef02Cmp⟩, ⟨_, Go.Proofs.Try.func26, kMakeMod⟩, ⟨_, Go.Proofs.Try.func27, kRef02Range⟩, ⟨_, Go.Proofs.Try.func28, kSlicesCompareIntInt⟩, ⟨_, Go.Proofs.Try.func29, kNodesetMergedInt⟩, ⟨_, Go.Proofs.Try.func30, kNodesetUnion1⟩, ⟨_, Go.Proofs.Try.func31, kNodesetMeet1⟩, ⟨_, Go.Proofs.Try.func32, kNodesetMinus1⟩, ⟨_, Go.Proofs.Try.func33, kSlicesContainsIntInt⟩, ⟨_, Go.Proofs.Try.func34, kRef02Put⟩, ⟨_, Go.Proofs.Try.func35, kCmpCompareInt⟩, ⟨_, Go.Proofs.Try.func36, kSlicesCloneIntInt⟩, ⟨_, Go.Proofs.Try.func37, kSlicesSortIntInt⟩, ⟨_, Go.Proofs.Try.func38, kSlicesCompactIntInt⟩, ⟨_, Go.Proofs.Try.func39, kSlicesIndexIntInt⟩, ⟨_, Go.Proofs.Try.func40, kCmpIsNaNInt⟩, trivial⟩
theorem cfgOK : CfgOKB Go.Proofs.Try.prog cfg := ⟨by kernel_rfl, fun f m q h => allGood.get _ (look_mem h)⟩
theorem gLaw02NodesetWithin : cfg.fn nLaw02NodesetWithin = some (⟨false, false, true⟩, qLaw02NodesetWithin) := rfl
theorem gLaw02NodesetAll : cfg.fn nLaw02NodesetAll = some (⟨false, false, true⟩, qLaw02NodesetAll) := rfl
theorem gLaw02Awake : cfg.fn nLaw02Awake = some (⟨false, false, true⟩, qLaw02Awake) := rfl
theorem gNodesetCmp : cfg.fn nNodesetCmp = some (⟨false, false, true⟩, qNodesetCmp) := rfl
theorem gRef02Same : cfg.fn nRef02Same = some (⟨false, false, true⟩, qRef02Same) := rfl
theorem gNodesetUnion : cfg.fn nNodesetUnion = some (⟨false, false, false⟩, qNodesetUnion) := rfl
theorem gNodesetMeet : cfg.fn nNodesetMeet = some (⟨false, false, false⟩, qNodesetMeet) := rfl
theorem gNodesetMinus : cfg.fn nNodesetMinus = some (⟨false, false, false⟩, qNodesetMinus) := rfl
theorem gNodesetOf : cfg.fn nNodesetOf = some (⟨false, false, false⟩, qNodesetOf) := rfl
theorem gNodesetWithin : cfg.fn nNodesetWithin = some (⟨false, false, true⟩, qNodesetWithin) := rfl
theorem gNodesetHas : cfg.fn nNodesetHas = some (⟨false, false, true⟩, qNodesetHas) := rfl
theorem gNodesetValid : cfg.fn nNodesetValid = some (⟨false, false, true⟩, qNodesetValid) := rfl
theorem gNodesetRange : cfg.fn nNodesetRange = some (⟨false, false, false⟩, qNodesetRange) := rfl
theorem gRef02Of : cfg.fn nRef02Of = some (⟨false, false, false⟩, qRef02Of) := rfl
theorem gRef02Valid : cfg.fn nRef02Valid = some (⟨false, false, true⟩, qRef02Valid) := rfl
theorem gRef02Has : cfg.fn nRef02Has = some (⟨false, false, true⟩, qRef02Has) := rfl
theorem gRef02Union : cfg.fn nRef02Union = some (⟨false, false, false⟩, qRef02Union) := rfl
theorem gRef02Meet : cfg.fn nRef02Meet = some (⟨false, false, false⟩, qRef02Meet) := rfl
theorem gRef02Minus : cfg.fn nRef02Minus = some (⟨false, false, false⟩, qRef02Minus) := rfl
theorem gRef02Within : cfg.fn nRef02Within = some (⟨false, false, true⟩, qRef02Within) := rfl
theorem gRef02Cmp : cfg.fn nRef02Cmp = some (⟨false, false, true⟩, qRef02Cmp) := rfl
theorem gMakeMod : cfg.fn nMakeMod = some (⟨false, false, true⟩, qMakeMod) := rfl
theorem gRef02Range : cfg.fn nRef02Range = some (⟨false, false, false⟩, qRef02Range) := rfl
theorem gSlicesCompareIntInt : cfg.fn nSlicesCompareIntInt = some (⟨false, false, true⟩, qSlicesCompareIntInt) := rfl
theorem gNodesetMergedInt : cfg.fn nNodesetMergedInt = some (⟨false, false, false⟩, qNodesetMergedInt) := rfl
theorem gNodesetUnion1 : cfg.fn nNodesetUnion1 = some (⟨false, false, true⟩, qNodesetUnion1) := rfl
theorem gNodesetMeet1 : cfg.fn nNodesetMeet1 = some (⟨false, false, true⟩, qNodesetMeet1) := rfl
theorem gNodesetMinus1 : cfg.fn nNodesetMinus1 = some (⟨false, false, true⟩, qNodesetMinus1) := rfl
theorem gSlicesContainsIntInt : cfg.fn nSlicesContainsIntInt = some (⟨false, false, true⟩, qSlicesContainsIntInt) := rfl
theorem gRef02Put : cfg.fn nRef02Put = some (⟨false, false, false⟩, qRef02Put) := rfl
theorem gCmpCompareInt : cfg.fn nCmpCompareInt = some (⟨false, false, true⟩, qCmpCompareInt) := rfl
theorem gSlicesCloneIntInt : cfg.fn nSlicesCloneIntInt = some (⟨false, true, true⟩, qSlicesCloneIntInt) := rfl
theorem gSlicesSortIntInt : cfg.fn nSlicesSortIntInt = some (⟨false, false, true⟩, qSlicesSortIntInt) := rfl
theorem gSlicesCompactIntInt : cfg.fn nSlicesCompactIntInt = some (⟨false, false, false⟩, qSlicesCompactIntInt) := rfl
theorem gSlicesIndexIntInt : cfg.fn nSlicesIndexIntInt = some (⟨false, false, true⟩, qSlicesIndexIntInt) := rfl
theorem gCmpIsNaNInt : cfg.fn nCmpIsNaNInt = some (⟨false, false, true⟩, qCmpIsNaNInt) := rfl
end Go.BmP
