/- The compact code of the functions, printed by program off the translation. -/
import Derived.Test.YtjfdniggjdnkiaaChecked
import Derived.Test.YtjfdniggjdnkiaaMa
import Derived.KernelRfl
set_option maxRecDepth 100000
namespace Go.AmP
open Go.Am
def nQl : Nat := 29
def nSlicesSortFuncDegreeNeedDegreeNeed : Nat := 45
def nDegreeMost : Nat := 46
/- cohesion/degree.realise -/
def rQlX0 : List O := [
 ⟨(some 2), none, .mv (.k .nils)⟩,
 ⟨(some 3), none, .mv (.k (.bool false))⟩]
def rQlX1 : List O := [
 ⟨(some 4), none, .mv (.k .nils)⟩]
def rQlX2 : List O := [
 ⟨(some 10), none, .mv (.t 0)⟩,
 ⟨(some 11), none, .len (.t 10)⟩,
 ⟨(some 12), none, .mv (.k (.int .i64 0))⟩]
def rQlX3 : List O := [
 ⟨(some 13), none, .bin .lss (.t 12) (.t 11)⟩]
def rQlX4 : List O := [
 ⟨(some 14), none, .mv (.t 12)⟩,
 ⟨(some 15), none, .ixa 1 (.t 10) (.t 12)⟩,
 ⟨(some 16), none, .ld none (.t 15)⟩,
 ⟨(some 5), none, .mv (.t 14)⟩,
 ⟨(some 6), none, .mv (.t 16)⟩]
def rQlX5 : List O := [
 ⟨(some 17), none, .mv (.t 6)⟩,
 ⟨(some 18), none, .bin .lss (.t 17) (.k (.int .i64 0))⟩,
 ⟨(some 19), none, .mv (.t 18)⟩,
 ⟨(some 20), (some (19, false)), .mv (.t 6)⟩,
 ⟨(some 21), (some (19, false)), .mv (.t 0)⟩,
 ⟨(some 22), (some (19, false)), .len (.t 21)⟩,
 ⟨(some 23), (some (19, false)), .bin .geq (.t 20) (.t 22)⟩,
 ⟨(some 24), none, .pick (.t 19) (.k (.bool true)) (.t 23)⟩]
def rQlX6 : List O := [
 ⟨(some 2), none, .mv (.k .nils)⟩,
 ⟨(some 3), none, .mv (.k (.bool false))⟩]
def rQlX7 : List O := [
 ⟨(some 25), none, .mv (.t 4)⟩,
 ⟨(some 26), none, .mv (.t 5)⟩,
 ⟨(some 27), none, .mv (.t 6)⟩,
 ⟨(some 28), none, .build [(.int .i64 0), (.int .i64 0)] [(0, 1, (.t 26)), (1, 1, (.t 27))]⟩,
 ⟨(some 29), none, .bslice 2 1 [(.int .i64 0), (.int .i64 0)] [(0, 2, (.t 28))]⟩,
 ⟨(some 30), none, .app 2 (.t 25) (.t 29)⟩,
 ⟨(some 4), none, .mv (.t 30)⟩]
def rQlX8 : List O := [
 ⟨(some 31), none, .bin .add (.t 12) (.k (.int .i64 1))⟩,
 ⟨(some 12), none, .mv (.t 31)⟩]
def lQlX0 : C := (.seq (.reg rQlX3 false [] [0, 4, 10, 11, 12, 13]) (.seq (.cond (.t 13) .skip (.exit 0)) (.seq (.blk 1 (.seq (.reg rQlX4 false [] [0, 4, 5, 6, 10, 11, 12]) (.seq (.seq (.reg rQlX5 false [] [0, 4, 5, 6, 10, 11, 12, 24]) (.cond (.t 24) (.seq (.reg rQlX6 false [] [2, 3]) .ret) .skip)) (.reg rQlX7 false [] [0, 4, 10, 11, 12])))) (.reg rQlX8 false [] [0, 4, 10, 11, 12]))))
def rQlX9 : List O := [
 ⟨(some 7), none, .mv (.k .nils)⟩]
def rQlX10 : List O := [
 ⟨(some 32), none, .mv (.t 4)⟩,
 ⟨(some 33), none, .len (.t 32)⟩,
 ⟨(some 34), none, .bin .gtr (.t 33) (.k (.int .i64 0))⟩]
def rQlX11 : List O := [
 ⟨(some 35), none, .mv (.t 4)⟩,
 ⟨(some 36), none, .call nSlicesSortFuncDegreeNeedDegreeNeed [(.t 35), (.k (.func (.func nDegreeMost) [] []))]⟩]
def rQlX12 : List O := [
 ⟨(some 37), none, .mv (.t 4)⟩,
 ⟨(some 38), none, .ixa 2 (.t 37) (.k (.int .i64 0))⟩,
 ⟨(some 39), none, .ld (some 2) (.t 38)⟩,
 ⟨(some 8), none, .new [(.int .i64 0), (.int .i64 0)]⟩,
 ⟨none, none, .st 2 (.t 8) (.t 39)⟩]
def rQlX13 : List O := [
 ⟨(some 40), none, .mv (.t 4)⟩,
 ⟨(some 41), none, .slc 2 (.t 40) (some (.k (.int .i64 1))) none⟩,
 ⟨(some 4), none, .mv (.t 41)⟩]
def rQlX14 : List O := [
 ⟨(some 42), none, .fad 1 (.t 8)⟩,
 ⟨(some 43), none, .ld none (.t 42)⟩,
 ⟨(some 44), none, .mv (.t 4)⟩,
 ⟨(some 45), none, .len (.t 44)⟩,
 ⟨(some 46), none, .bin .gtr (.t 43) (.t 45)⟩]
def rQlX15 : List O := [
 ⟨(some 2), none, .mv (.k .nils)⟩,
 ⟨(some 3), none, .mv (.k (.bool false))⟩]
def rQlX16 : List O := [
 ⟨(some 47), none, .fad 1 (.t 8)⟩,
 ⟨(some 48), none, .ld none (.t 47)⟩,
 ⟨(some 49), none, .mv (.k (.int .i64 0))⟩]
def rQlX17 : List O := [
 ⟨(some 50), none, .bin .lss (.t 49) (.t 48)⟩]
def rQlX18 : List O := [
 ⟨(some 51), none, .mv (.t 49)⟩,
 ⟨(some 9), none, .mv (.t 51)⟩]
def rQlX19 : List O := [
 ⟨(some 52), none, .mv (.t 4)⟩,
 ⟨(some 53), none, .mv (.t 9)⟩,
 ⟨(some 54), none, .ixa 2 (.t 52) (.t 53)⟩,
 ⟨(some 55), none, .fad 1 (.t 54)⟩,
 ⟨(some 56), none, .ld none (.t 55)⟩,
 ⟨(some 57), none, .bin .eql (.t 56) (.k (.int .i64 0))⟩]
def rQlX20 : List O := [
 ⟨(some 2), none, .mv (.k .nils)⟩,
 ⟨(some 3), none, .mv (.k (.bool false))⟩]
def rQlX21 : List O := [
 ⟨(some 58), none, .mv (.t 4)⟩,
 ⟨(some 59), none, .mv (.t 9)⟩,
 ⟨(some 60), none, .ixa 2 (.t 58) (.t 59)⟩,
 ⟨(some 61), none, .fad 1 (.t 60)⟩,
 ⟨(some 62), none, .ld none (.t 61)⟩,
 ⟨(some 63), none, .bin .sub (.t 62) (.k (.int .i64 1))⟩,
 ⟨(some 64), none, .ixa 2 (.t 58) (.t 59)⟩,
 ⟨(some 65), none, .fad 1 (.t 64)⟩,
 ⟨none, none, .st 1 (.t 65) (.t 63)⟩]
def rQlX22 : List O := [
 ⟨(some 66), none, .mv (.t 7)⟩,
 ⟨(some 67), none, .fad 0 (.t 8)⟩,
 ⟨(some 68), none, .ld none (.t 67)⟩,
 ⟨(some 69), none, .mv (.t 4)⟩,
 ⟨(some 70), none, .mv (.t 9)⟩,
 ⟨(some 71), none, .ixa 2 (.t 69) (.t 70)⟩,
 ⟨(some 72), none, .fad 0 (.t 71)⟩,
 ⟨(some 73), none, .ld none (.t 72)⟩,
 ⟨(some 74), none, .build [(.int .i64 0), (.int .i64 0)] [(0, 1, (.t 68)), (1, 1, (.t 73))]⟩,
 ⟨(some 75), none, .bslice 2 1 [(.int .i64 0), (.int .i64 0)] [(0, 2, (.t 74))]⟩,
 ⟨(some 76), none, .app 2 (.t 66) (.t 75)⟩,
 ⟨(some 7), none, .mv (.t 76)⟩]
def rQlX23 : List O := [
 ⟨(some 77), none, .bin .add (.t 49) (.k (.int .i64 1))⟩,
 ⟨(some 49), none, .mv (.t 77)⟩]
def lQlX1 : C := (.seq (.reg rQlX17 false [] [4, 7, 8, 48, 49, 50]) (.seq (.cond (.t 50) .skip (.exit 4)) (.seq (.blk 5 (.seq (.reg rQlX18 false [] [4, 7, 8, 9, 48, 49]) (.seq (.seq (.reg rQlX19 false [] [4, 7, 8, 9, 48, 49, 57]) (.cond (.t 57) (.seq (.reg rQlX20 false [] [2, 3]) .ret) .skip)) (.seq (.reg rQlX21 false [] [4, 7, 8, 9, 48, 49]) (.reg rQlX22 true [(2, 7)] [4, 7, 8, 48, 49]))))) (.reg rQlX23 false [] [4, 7, 8, 48, 49]))))
def lQlX2 : C := (.seq (.seq (.reg rQlX10 false [] [4, 7, 34]) (.cond (.t 34) .skip (.exit 2))) (.blk 3 (.seq (.reg rQlX11 false [] [4, 7]) (.seq (.reg rQlX12 false [] [4, 7, 8]) (.seq (.reg rQlX13 false [] [4, 7, 8]) (.seq (.seq (.reg rQlX14 false [] [4, 7, 8, 46]) (.cond (.t 46) (.seq (.reg rQlX15 false [] [2, 3]) .ret) .skip)) (.seq (.reg rQlX16 false [] [4, 7, 8, 48, 49]) (.blk 4 (.loop lQlX1)))))))))
def rQlX24 : List O := [
 ⟨(some 78), none, .mv (.t 7)⟩,
 ⟨(some 2), none, .mv (.t 78)⟩,
 ⟨(some 3), none, .mv (.k (.bool true))⟩]
def cQl : C := (.seq (.reg rQlX0 false [] [0]) (.seq (.reg rQlX1 false [] [0, 4]) (.seq (.seq (.reg rQlX2 false [] [0, 4, 10, 11, 12]) (.blk 0 (.loop lQlX0))) (.seq (.reg rQlX9 false [] [4, 7]) (.seq (.blk 2 (.loop lQlX2)) (.seq (.reg rQlX24 false [] [2, 3]) .ret))))))
def qQl : AFn := ⟨79, 1, [.t 2, .t 3], cQl⟩
/- slices.SortFunc[[]cohesion/degree.need,cohesion/degree.need] -/
def rSlicesSortFuncDegreeNeedDegreeNeedX0 : List O := [
 ⟨(some 5), none, .mv (.t 0)⟩,
 ⟨(some 6), none, .len (.t 5)⟩,
 ⟨(some 4), none, .mv (.t 6)⟩]
def rSlicesSortFuncDegreeNeedDegreeNeedX1 : List O := [
 ⟨(some 7), none, .mv (.t 0)⟩,
 ⟨(some 8), none, .mv (.t 4)⟩,
 ⟨(some 9), none, .mv (.t 4)⟩,
 ⟨(some 10), none, .cvt .u64 (.t 9)⟩,
 ⟨(some 11), none, .call 48 [(.t 10)]⟩,
 ⟨(some 12), none, .mv (.t 1)⟩,
 ⟨(some 13), none, .call 60 [(.t 7), (.k (.int .i64 0)), (.t 8), (.t 11), (.t 12)]⟩]
def cSlicesSortFuncDegreeNeedDegreeNeed : C := (.seq (.reg rSlicesSortFuncDegreeNeedDegreeNeedX0 false [] [0, 1, 4]) (.reg rSlicesSortFuncDegreeNeedDegreeNeedX1 false [] []))
def qSlicesSortFuncDegreeNeedDegreeNeed : AFn := ⟨14, 2, [], cSlicesSortFuncDegreeNeedDegreeNeed⟩
/- cohesion/degree.most -/
def rDegreeMostX0 : List O := [
 ⟨(some 2), none, .box (.t 0)⟩,
 ⟨(some 3), none, .box (.t 1)⟩,
 ⟨(some 4), none, .mv (.k (.int .i64 0))⟩]
def rDegreeMostX1 : List O := [
 ⟨(some 5), none, .fad 1 (.t 2)⟩,
 ⟨(some 6), none, .ld none (.t 5)⟩,
 ⟨(some 7), none, .fad 1 (.t 3)⟩,
 ⟨(some 8), none, .ld none (.t 7)⟩,
 ⟨(some 9), none, .bin .neq (.t 6) (.t 8)⟩]
def rDegreeMostX2 : List O := [
 ⟨(some 10), none, .fad 1 (.t 3)⟩,
 ⟨(some 11), none, .ld none (.t 10)⟩,
 ⟨(some 12), none, .fad 1 (.t 2)⟩,
 ⟨(some 13), none, .ld none (.t 12)⟩,
 ⟨(some 14), none, .bin .sub (.t 11) (.t 13)⟩,
 ⟨(some 4), none, .mv (.t 14)⟩]
def rDegreeMostX3 : List O := [
 ⟨(some 15), none, .fad 0 (.t 2)⟩,
 ⟨(some 16), none, .ld none (.t 15)⟩,
 ⟨(some 17), none, .fad 0 (.t 3)⟩,
 ⟨(some 18), none, .ld none (.t 17)⟩,
 ⟨(some 19), none, .bin .sub (.t 16) (.t 18)⟩,
 ⟨(some 4), none, .mv (.t 19)⟩]
def cDegreeMost : C := (.seq (.reg rDegreeMostX0 false [] [2, 3]) (.seq (.seq (.reg rDegreeMostX1 false [] [2, 3, 9]) (.cond (.t 9) (.seq (.reg rDegreeMostX2 false [] [4]) .ret) .skip)) (.seq (.reg rDegreeMostX3 false [] [4]) .ret)))
def qDegreeMost : AFn := ⟨20, 2, [.t 4], cDegreeMost⟩
def look : List (Nat × Md × AFn) -> Nat -> Option (Md × AFn)
 | [], _ => none
 | (j, m, q) :: r, i => if i = j then some (m, q) else look r i
def fns : List (Nat × Md × AFn) := [
 (nQl, .P, qQl),
 (nSlicesSortFuncDegreeNeedDegreeNeed, .K, qSlicesSortFuncDegreeNeedDegreeNeed),
 (nDegreeMost, .P, qDegreeMost)]
def cfg : Cfg := ⟨look fns, fun _ => [], fun _ => none⟩
theorem kDegreeRealise : chkF Go.Proofs.Try.prog Go.Proofs.Try.f29 qQl = true := by kernel_rfl
theorem kSlicesSortFuncDegreeNeedDegreeNeed : chkF Go.Proofs.Try.prog Go.Proofs.Try.f45 qSlicesSortFuncDegreeNeedDegreeNeed = true := by kernel_rfl
theorem kDegreeMost : chkF Go.Proofs.Try.prog Go.Proofs.Try.f46 qDegreeMost = true := by kernel_rfl
theorem look_mem : ∀ {l : List (Nat × Md × AFn)} {f : Nat} {m : Md} {q : AFn}, look l f = some (m, q) -> (f, m, q) ∈ l
 | [], f, m, q, h => by simp [look] at h
 | (j, m', q') :: r, f, m, q, h => by
   unfold look at h
   split at h
   ·rename_i he; subst he; simp at h; obtain ⟨rfl, rfl⟩ := h; simp
   ·exact List.mem_cons_of_mem _ (look_mem h)
def Good (p : Nat × Md × AFn) : Prop := ∃ fn, Go.Proofs.Try.prog.funcs[p.1]? = some fn /\ chkF Go.Proofs.Try.prog fn p.2.2 = true
def All (G : Nat × Md × AFn -> Prop) : List (Nat × Md × AFn) -> Prop
 | [] => True
 | p :: r => G p /\ All G r
theorem All.get {G : Nat × Md × AFn -> Prop} : ∀ {l : List (Nat × Md × AFn)}, All G l -> ∀ p ∈ l, G p
 | [], _, p, h => by simp at h
 | q :: r, h, p, hp => by
   rcases List.mem_cons.1 hp with e | e
   ·subst e; exact h.1
   ·exact All.get h.2 p e
theorem allGood : All Good fns := ⟨⟨_, Go.Proofs.Try.func29, kDegreeRealise⟩, ⟨_, Go.Proofs.Try.func45, kSlicesSortFuncDegreeNeedDegreeNeed⟩, ⟨_, Go.Proofs.Try.func46, kDegreeMost⟩, trivial⟩
theorem cfgOK : CfgOK Go.Proofs.Try.prog cfg := ⟨by kernel_rfl, fun f m q h => allGood.get _ (look_mem h)⟩
theorem orcOK : OrcOK Go.Proofs.Try.prog cfg := fun f g h => by cases h
theorem gQl : cfg.fn nQl = some (.P, qQl) := rfl
theorem gSlicesSortFuncDegreeNeedDegreeNeed : cfg.fn nSlicesSortFuncDegreeNeedDegreeNeed = some (.K, qSlicesSortFuncDegreeNeedDegreeNeed) := rfl
theorem gDegreeMost : cfg.fn nDegreeMost = some (.P, qDegreeMost) := rfl
end Go.AmP
