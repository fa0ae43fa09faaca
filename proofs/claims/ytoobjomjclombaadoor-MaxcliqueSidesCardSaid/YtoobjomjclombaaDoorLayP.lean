/- The library's Reverse of ints as a function that writes into the slice it is given: out of the shelf's contract. -/
import Derived.Test.YtoobjomjclombaaDoorSrtO
import Derived.Test.YtoobjomjclombaaDoorRvG
import Derived.Shelf.Slices.Reverse
import Derived.Test.YtoobjomjclombaaDoorBmP
import Derived.Test.YtoobjomjclombaaDoorCloO
import Derived.KernelRfl
namespace Go.Bm
open Go.Am Go.Sort Go.Shelf Go.Proofs
theorem rev_ret {P : Program} {ρ : Ren} (Ly : Lays.n112 P ρ) {X : Nat -> Prop} {φ : Phi} {w : World} {H : Heap} {n len : Nat} {cs : List AV} {zs : List Int} {vargs : Array Value} (ha : ARel X φ w [.sl 1 n 0 len] vargs) (hh : HRel X φ w H) (h0 : len ≠ 0) (hcs : blk H n = some cs) (hlen : 0 + len <= cs.length) (hlim : len <= LIM) (hzs : intsOf ((cs.drop 0).take len) = some zs) :
  Calls P (ρ.f 112) vargs w (Ret X φ w (.tup []) (H.set n (some (ovw cs 0 (zs.reverse.map (AV.int .i64)))))) := by
 obtain ⟨v,rfl,hv⟩ := ha.one;obtain ⟨g,cap,rfl,hc,hzl,hH,hlt,_,hput⟩ := own_row hh hv h0 hcs hlen hzs;have hcall := Any.slices_Reverse_int Ly g _ cap zs w hH (by unfold LIM at hlim; omega);rw [hzl] at hcall;refine hcall.mono ?_;rintro ee w' ⟨rfl,m,rfl⟩;obtain ⟨h1,h2⟩ := hput zs.reverse (by rw [List.length_reverse,hzl]) m #[];have e : ∀ W : World,grow W #[] = W := fun W => by unfold grow; simp
 rw [e] at h1 h2;exact ⟨_,φ,rfl,.tup _ _ _ rfl (fun i c v hc => by simp at hc),h1,h2⟩
theorem rev_inp {P : Program} {ρ : Go.Shelf.Ren} (Ly : Lays.n112 P ρ) {k : Nat} {xs es ys : List AV} {res : Option Nat} (hg : rvG k xs es = some (ys,res)) :
  ((ys.length = xs.length /\ (∀ y ∈ ys,y.cells.length = k)) /\ ((∀ y ∈ ys,∀ d ∈ y.cells,fz d = true) /\ ∀ m,res = some m -> m <= xs.length)) /\
 (xs = [] -> ∀ (X : Nat -> Prop) (φ : Phi) (w : World) (vargs : Array Value) v0 y,(y = .nils \/ y = .list k []) -> es.length + 1 = vargs.size -> vargs[0]? = some v0 -> Rep (Rd X φ w) φ y v0 -> (∀ (i : Nat) (e : AV) (v : Value),es[i]? = some e -> vargs[i + 1]? = some v -> Rep (Rd X φ w) [] e v) ->
  Calls P (ρ.f 112) vargs w (fun e w' => ∃ v',e = .returned v' /\ Rep (Rd X φ w') φ (match (generalizing := false) res with
   | none => .tup []
   | some _ => y) v' /\ Adv [] w [] w')) /\
 ∀ (X : Nat -> Prop) (φ : Phi) (w : World) Ha n rest (vargs : Array Value) v0,HRel X φ w Ha -> blk Ha n = some (flatCells (xs ++ rest)) -> es.length + 1 = vargs.size -> vargs[0]? = some v0 -> Rep (Rd X φ w) φ (.sl k n 0 xs.length) v0 -> (∀ (i : Nat) (e : AV) (v : Value),es[i]? = some e -> vargs[i + 1]? = some v -> Rep (Rd X φ w) [] e v) ->
  Calls P (ρ.f 112) vargs w (fun e w' => ∃ v' φ',e = .returned v' /\ Rep (Rd X φ' w') φ' (match (generalizing := false) res with
   | none => .tup []
   | some m => .sl k n 0 m) v' /\ HRel X φ' w' (Ha.set n (some (flatCells (ys ++ rest)))) /\ Adv φ w φ' w') := by
 unfold rvG at hg;split at hg
 case isFalse => cases hg
 rename_i hc;obtain ⟨rfl,he,hlim⟩ := hc;have he0 : es = [] := List.isEmpty_iff.1 he;subst he0;cases hzs : intsOf xs with
 | none => rw [hzs] at hg; cases hg
 | some zs =>
 rw [hzs] at hg;simp only [Option.some.injEq,Prod.mk.injEq] at hg;obtain ⟨rfl,rfl⟩ := hg;have hx := intsOf_eq hzs;subst hx;refine ⟨⟨⟨by simp,fun y hy => (ints_cells hy).1⟩,fun y hy => (ints_cells hy).2,fun m hm => by cases hm⟩,fun hnil X φ w vargs v0 y hy hs h0 hr _ => ?_,fun X φ w Ha n rest vargs v0 hh hb hs h0 hr _ => ?_⟩
 ·obtain ⟨p,cap,rfl⟩ := nil_slice hy hr;obtain rfl := one_arg hs h0;refine (Any.slices_Reverse_int_empty Ly p cap w).mono ?_;rintro e w' ⟨rfl,rfl⟩;exact ⟨_,rfl,.tup _ _ _ rfl (fun i c v hc => by simp at hc),.refl _ _⟩
 ·have ha := arel_one (by simpa using hs.symm) h0 hr;by_cases hz : zs = []
  ·subst hz
   have e : Ha.set n (some (flatCells (([] : List Int).reverse.map (AV.int .i64) ++ rest))) = Ha := by
    apply List.ext_getElem?;intro j;rw [List.getElem?_set];split
    ·rename_i e; subst e;rw [if_pos (blk_lt hb),blk_iff.1 hb]; rfl
    ·rfl
   rw [e]
   obtain ⟨p,cap,rfl⟩ : ∃ p cap,v0 = .slice p 0 cap := by
    cases hr;exact ⟨_,_,rfl⟩
   obtain rfl := one_arg hs h0;refine (Any.slices_Reverse_int_empty Ly p cap w).mono ?_;rintro e w' ⟨rfl,rfl⟩;exact ⟨_,φ,rfl,.tup _ _ _ rfl (fun i c v hc => by simp at hc),hh,.refl _ _⟩
  ·have hzl : zs.length ≠ 0 := fun h => hz (List.eq_nil_of_length_eq_zero h);have hfl : flatCells (zs.map (AV.int .i64) ++ rest) = zs.map (AV.int .i64) ++ flatCells rest := by rw [flatCells_app,flat_ints]
   have hl : (zs.map (AV.int .i64)).length = zs.length := by simp
   rw [hl] at ha hlim;have c := rev_ret Ly (H := Ha) (zs := zs) ha hh hzl hb (by rw [hfl]; simp) (by unfold LIM; omega) (by rw [hfl]; simp [intsOf_ints])
   have e : ovw (flatCells (zs.map (AV.int .i64) ++ rest)) 0 (zs.reverse.map (AV.int .i64)) = flatCells (zs.reverse.map (AV.int .i64) ++ rest) := by
    rw [flatCells_app,flatCells_app,flat_ints,flat_ints];unfold ovw;simp
   rw [e] at c;exact c
end Go.Bm
/- The library's sort and clone of ints lie in this program: which function and which type stands for which. -/
set_option maxRecDepth 100000
namespace Go.BmP
open Go.Shelf Go.Proofs
def laysSort_ren : Go.Shelf.Ren := ⟨fun | 189 => 89 | 125 => 92 | 257 => 91 | 128 => 102 | 129 => 103 | 294 => 93 | 295 => 94 | 296 => 95 | 297 => 96 | 298 => 97 | 299 => 98 | 216 => 99 | 300 => 100 | 301 => 101 | 328 => 104 | 329 => 105 | 330 => 106 | 331 => 107 | 332 => 108 | 215 => 87 | 343 => 109 | n => n,fun | 28 => 22 | 3 => 3 | 46 => 83 | 0 => 0 | 51 => 101 | 53 => 77 | 4 => 4 | 183 => 113 | 182 => 112 | 131 => 118 | 5 => 5 | 9 => 9 | 218 => 121 | 222 => 125 | 228 => 127 | 229 => 128 | n => n,fun n => n⟩
theorem laysSort : Lays.n189 Go.Proofs.Tryd.prog laysSort_ren where
 mixed := by kernel_rfl
 f125 := Go.Proofs.Tryd.func92.trans (congrArg some (by kernel_rfl))
 f128 := Go.Proofs.Tryd.func102.trans (congrArg some (by kernel_rfl))
 f129 := Go.Proofs.Tryd.func103.trans (congrArg some (by kernel_rfl))
 f189 := Go.Proofs.Tryd.func89.trans (congrArg some (by kernel_rfl))
 f215 := Go.Proofs.Tryd.func87.trans (congrArg some (by kernel_rfl))
 f216 := Go.Proofs.Tryd.func99.trans (congrArg some (by kernel_rfl))
 f257 := Go.Proofs.Tryd.func91.trans (congrArg some (by kernel_rfl))
 f294 := Go.Proofs.Tryd.func93.trans (congrArg some (by kernel_rfl))
 f295 := Go.Proofs.Tryd.func94.trans (congrArg some (by kernel_rfl))
 f296 := Go.Proofs.Tryd.func95.trans (congrArg some (by kernel_rfl))
 f297 := Go.Proofs.Tryd.func96.trans (congrArg some (by kernel_rfl))
 f298 := Go.Proofs.Tryd.func97.trans (congrArg some (by kernel_rfl))
 f299 := Go.Proofs.Tryd.func98.trans (congrArg some (by kernel_rfl))
 f300 := Go.Proofs.Tryd.func100.trans (congrArg some (by kernel_rfl))
 f301 := Go.Proofs.Tryd.func101.trans (congrArg some (by kernel_rfl))
 f328 := Go.Proofs.Tryd.func104.trans (congrArg some (by kernel_rfl))
 f329 := Go.Proofs.Tryd.func105.trans (congrArg some (by kernel_rfl))
 f330 := Go.Proofs.Tryd.func106.trans (congrArg some (by kernel_rfl))
 f331 := Go.Proofs.Tryd.func107.trans (congrArg some (by kernel_rfl))
 f332 := Go.Proofs.Tryd.func108.trans (congrArg some (by kernel_rfl))
 f343 := Go.Proofs.Tryd.func109.trans (congrArg some (by kernel_rfl))
 t0 := Go.Proofs.Tryd.underlying0
 a0 := Go.Proofs.Tryd.isAgg0
 z0 := Go.Proofs.Tryd.sizeOf0
 v0 := Go.Proofs.Tryd.zeroValue0
 t3 := Go.Proofs.Tryd.underlying3
 a3 := Go.Proofs.Tryd.isAgg3
 z3 := Go.Proofs.Tryd.sizeOf3
 v3 := Go.Proofs.Tryd.zeroValue3
 t4 := Go.Proofs.Tryd.underlying4
 a4 := Go.Proofs.Tryd.isAgg4
 z4 := Go.Proofs.Tryd.sizeOf4
 v4 := Go.Proofs.Tryd.zeroValue4
 t5 := Go.Proofs.Tryd.underlying5
 a5 := Go.Proofs.Tryd.isAgg5
 z5 := Go.Proofs.Tryd.sizeOf5
 v5 := Go.Proofs.Tryd.zeroValue5
 t9 := Go.Proofs.Tryd.underlying9
 a9 := Go.Proofs.Tryd.isAgg9
 z9 := Go.Proofs.Tryd.sizeOf9
 v9 := Go.Proofs.Tryd.zeroValue9
 t28 := Go.Proofs.Tryd.underlying22
 a28 := Go.Proofs.Tryd.isAgg22
 z28 := Go.Proofs.Tryd.sizeOf22
 v28 := Go.Proofs.Tryd.zeroValue22
 t46 := Go.Proofs.Tryd.underlying83
 a46 := Go.Proofs.Tryd.isAgg83
 z46 := Go.Proofs.Tryd.sizeOf83
 v46 := Go.Proofs.Tryd.zeroValue83
 t51 := Go.Proofs.Tryd.underlying101
 a51 := Go.Proofs.Tryd.isAgg101
 z51 := Go.Proofs.Tryd.sizeOf101
 v51 := Go.Proofs.Tryd.zeroValue101
 t53 := Go.Proofs.Tryd.underlying77
 a53 := Go.Proofs.Tryd.isAgg77
 z53 := Go.Proofs.Tryd.sizeOf77
 v53 := Go.Proofs.Tryd.zeroValue77
 t131 := Go.Proofs.Tryd.underlying118
 a131 := Go.Proofs.Tryd.isAgg118
 z131 := Go.Proofs.Tryd.sizeOf118
 v131 := Go.Proofs.Tryd.zeroValue118
 t182 := Go.Proofs.Tryd.underlying112
 a182 := Go.Proofs.Tryd.isAgg112
 z182 := Go.Proofs.Tryd.sizeOf112
 v182 := Go.Proofs.Tryd.zeroValue112
 t183 := Go.Proofs.Tryd.underlying113
 a183 := Go.Proofs.Tryd.isAgg113
 z183 := Go.Proofs.Tryd.sizeOf113
 v183 := Go.Proofs.Tryd.zeroValue113
 t218 := Go.Proofs.Tryd.underlying121
 a218 := Go.Proofs.Tryd.isAgg121
 z218 := Go.Proofs.Tryd.sizeOf121
 v218 := Go.Proofs.Tryd.zeroValue121
 t222 := Go.Proofs.Tryd.underlying125
 a222 := Go.Proofs.Tryd.isAgg125
 z222 := Go.Proofs.Tryd.sizeOf125
 v222 := Go.Proofs.Tryd.zeroValue125
 t228 := Go.Proofs.Tryd.underlying127
 a228 := Go.Proofs.Tryd.isAgg127
 z228 := Go.Proofs.Tryd.sizeOf127
 v228 := Go.Proofs.Tryd.zeroValue127
 t229 := Go.Proofs.Tryd.underlying128
 a229 := Go.Proofs.Tryd.isAgg128
 z229 := Go.Proofs.Tryd.sizeOf128
 v229 := Go.Proofs.Tryd.zeroValue128
def laysCompact_ren : Go.Shelf.Ren := ⟨fun | 20 => 90 | n => n,fun | 22 => 22 | 3 => 3 | 4 => 4 | 0 => 0 | n => n,fun n => n⟩
theorem laysCompact : Lays2.n20 Go.Proofs.Tryd.prog laysCompact_ren where
 mixed := by kernel_rfl
 f20 := Go.Proofs.Tryd.func90.trans (congrArg some (by kernel_rfl))
 t0 := Go.Proofs.Tryd.underlying0
 a0 := Go.Proofs.Tryd.isAgg0
 z0 := Go.Proofs.Tryd.sizeOf0
 v0 := Go.Proofs.Tryd.zeroValue0
 t3 := Go.Proofs.Tryd.underlying3
 a3 := Go.Proofs.Tryd.isAgg3
 z3 := Go.Proofs.Tryd.sizeOf3
 v3 := Go.Proofs.Tryd.zeroValue3
 t4 := Go.Proofs.Tryd.underlying4
 a4 := Go.Proofs.Tryd.isAgg4
 z4 := Go.Proofs.Tryd.sizeOf4
 v4 := Go.Proofs.Tryd.zeroValue4
 t22 := Go.Proofs.Tryd.underlying22
 a22 := Go.Proofs.Tryd.isAgg22
 z22 := Go.Proofs.Tryd.sizeOf22
 v22 := Go.Proofs.Tryd.zeroValue22
 i3 := by kernel_rfl
def laysRev_ren : Go.Shelf.Ren := ⟨fun | 112 => 40 | n => n,fun | 28 => 22 | 3 => 3 | 4 => 4 | 0 => 0 | n => n,fun n => n⟩
theorem laysRev : Lays.n112 Go.Proofs.Tryd.prog laysRev_ren where
 mixed := by kernel_rfl
 f112 := Go.Proofs.Tryd.func40.trans (congrArg some (by kernel_rfl))
 t0 := Go.Proofs.Tryd.underlying0
 a0 := Go.Proofs.Tryd.isAgg0
 z0 := Go.Proofs.Tryd.sizeOf0
 v0 := Go.Proofs.Tryd.zeroValue0
 t3 := Go.Proofs.Tryd.underlying3
 a3 := Go.Proofs.Tryd.isAgg3
 z3 := Go.Proofs.Tryd.sizeOf3
 v3 := Go.Proofs.Tryd.zeroValue3
 t4 := Go.Proofs.Tryd.underlying4
 a4 := Go.Proofs.Tryd.isAgg4
 z4 := Go.Proofs.Tryd.sizeOf4
 v4 := Go.Proofs.Tryd.zeroValue4
 t28 := Go.Proofs.Tryd.underlying22
 a28 := Go.Proofs.Tryd.isAgg22
 z28 := Go.Proofs.Tryd.sizeOf22
 v28 := Go.Proofs.Tryd.zeroValue22
end Go.BmP
