/- The library's decimal digits of small numbers, as the machine by value knows them. -/
import Derived.Test.YtbnheahpdodmjabGreatDoorPsG
import Derived.Shelf.Strconv.Itoa3
set_option linter.unusedVariables false
open Go.Shelf renaming Ren → zh
open Option.some renaming injEq → af
namespace Go.Bm
open Go.Am Go.Sort Go.Shelf Go.Proofs
theorem ad8 {X:Nat->Prop} {φ:dx} {w w':World} {N:Names} {s:St} {Ha:Heap} {t:Nat->Value} {B:Nat->Nat} {z:ByteArray} (h:ff X φ w N s Ha t) (a1:ft [] w [] w'):Iz X φ w B 0 (.str z) [] (.returned (.string z)) w':=by
 have B8:∀i,Am.get [(0,AV.str z)] i=if i=0 then .str z else .any:=fun i=>by simp only[Am.get]
 have iF:∀p,aB ⟨[(0,AV.str z)],[]⟩ p=none:=by
  intro p;cases p with
  |s i=>
    simp only[aB,at_,B8];by_cases hi:i=0
    ·rw[if_pos hi]
    ·rw[if_neg hi]
  |sc i j=>
    simp only[aB,at_,B8];by_cases hi:i=0
    ·rw[if_pos hi]
    ·rw[if_neg hi]
  |c b j=>simp[aB,at_,aH]
 refine⟨.string z,φ,rfl,⟨⟨N.β,fun _=>none⟩,Ha,⟨fun i=>?_,fun i=>?_,h.heap.of_same a1,fun p k' xs e=>?_,fun b cs e=>by simp[aH] at e,fun p q n e=>?_,fun b p e=>by simp[aH] at e,fun b c e=>by simp[aH] at e⟩,fun b hb=>by omega,Nat.zero_le _⟩,.of_same a1⟩
 ·show bR _ _ (lZ _ i (Am.get [(0,AV.str z)] i)) (if i=0 then _ else undef);rw[B8];by_cases e:i=0
  ·rw[if_pos e,if_pos e]; exact .str _ _
  ·rw[if_neg e,if_neg e]; exact .any _ _
 ·show cS _ _ (Am.get [(0,AV.str z)] i);rw[B8];split<;>trivial
 ·rw[iF] at e; cases e
 ·rw[iF] at e; cases e
theorem agc {P:Program} {ρ:zh} (L:Lays.n246 P ρ) {args:List AV} {H:Heap} {r:AV} {H':Heap} (hg:P5 args H=some (r,H')) {X:Nat->Prop} {φ:dx} {w:World} {B:Nat->Nat} {vargs:Array Value} (hl:args.length=vargs.size) (hs:SB X φ w B H.length ⟨dP 0 args,H⟩ (fun i=>vargs.getD i undef)) :
  Calls P (ρ.f 246) vargs w (Iz X φ w B H.length r H'):=by
 unfold P5 at hg;split at hg
 case h_2=>cases hg
 split at hg
 case isFalse=>cases hg
 rename_i hn;simp only[af,Prod.mk.injEq] at hg;obtain⟨rfl,rfl⟩:=hg;obtain⟨N,Ha,h,hb⟩:=hs;rename_i n;have pH:vargs.size=2:=by simpa using hl.symm
 have r0:bR (Rd X φ w) φ (.int .i64 n) (vargs.getD 0 undef):=h.env 0;have r1:bR (Rd X φ w) φ (.int .i64 10) (vargs.getD 1 undef):=h.env 1;obtain⟨i,rfl⟩:∃i:Nat,n=(i:Int):=⟨n.toNat,by omega⟩
 have e0:vargs.getD 0 undef=.int .i64 i:=by
  generalize vargs.getD 0 undef=v at *;cases r0; rfl
 have e1:vargs.getD 1 undef=.int .i64 10:=by
  generalize vargs.getD 1 undef=v at *;cases r1; rfl
 have hv:vargs=#[.int .i64 (i:Int),.int .i64 10]:=by
  apply Array.ext
  ·simp[pH]
  ·intro j hj1 SE
   match j with
   |0=>rw[<-e0]; simp[Array.getD,pH]
   |1=>rw[<-e1]; simp[Array.getD,pH]
   |j+2=>omega
 subst hv;refine (Any.internal_strconv_FormatInt_10_small L i (by omega) w).mono ?_;rintro e w' ⟨rfl,rfl⟩;have e:qc (i:Int)=⟨(Lib.decDigits i).toArray⟩:=by unfold qc; simp
 rw[<-e];exact ad8 h (.refl _ _)
end Go.Bm
