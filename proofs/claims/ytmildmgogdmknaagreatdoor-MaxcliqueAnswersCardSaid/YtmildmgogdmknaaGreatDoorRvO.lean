/- The library's Reverse of ints as a function that writes into the slice it is given: out of the shelf's contract. -/
import Derived.Test.YtmildmgogdmknaaGreatDoorSrtO
import Derived.Test.YtmildmgogdmknaaGreatDoorRvG
import Derived.Shelf.Slices.Reverse
open Go.Shelf renaming Ren → Bp
open Option.some renaming injEq → ai
namespace Go.Bm
open Go.Am Go.Sort Go.Shelf Go.Proofs
theorem agk {P:Program} {ρ:Ren} (Ly:Lays.n112 P ρ) {X:Nat->Prop} {φ:dQ} {w:World} {H:Heap} {n len:Nat} {cs:List AV} {zs:List Int} {vargs:Array Value} (ha:tC X φ w [.sl 1 n 0 len] vargs) (hh:cK X φ w H) (h0:len≠0) (eM:aO H n=some cs) (hlen:0+len<=cs.length) (RF:len<=jx) (RC:j8 ((cs.drop 0).take len)=some zs) :
  Calls P (ρ.f 112) vargs w (Ret X φ w (.dJ []) (H.set n (some (kg cs 0 (zs.reverse.map (AV.int .i64)))))):=by
 obtain⟨v,rfl,hv⟩:=ha.one;obtain⟨g,cap,rfl,hc,DS,hH,bD,_,xe⟩:=QN hh hv h0 eM hlen RC;have eQ:=Any.slices_Reverse_int Ly g _ cap zs w hH (by unfold jx at RF; omega);rw[DS] at eQ;refine eQ.mono ?_;rintro ee w' ⟨rfl,m,rfl⟩;obtain⟨h1,h2⟩:=xe zs.reverse (by rw[List.length_reverse,DS]) m #[];have e:∀W:World,grow W #[]=W:=fun W=>by unfold grow; simp
 rw[e] at h1 h2;exact⟨_,φ,rfl,.dJ _ _ _ rfl (fun i c v hc=>by simp at hc),h1,h2⟩
theorem agl {P:Program} {ρ:Bp} (Ly:Lays.n112 P ρ) {k:Nat} {xs es ys:List AV} {res:Option Nat} (hg:rvG k xs es=some (ys,res)) :
  ((ys.length=xs.length/\(∀y∈ys,y.cells.length=k))/\((∀y∈ys,∀d∈y.cells,fz d=true)/\∀ m,res=some m->m<=xs.length)) /\
 (xs=[]->∀(X:Nat->Prop) (φ:dQ) (w:World) (vargs:Array Value) v0 y,(y=.dO\/y=.list k [])->es.length+1=vargs.size->vargs[0]?=some v0->cB (Rd X φ w) φ y v0->(∀(i:Nat) (e:AV) (v:Value),es[i]?=some e->vargs[i+1]?=some v->cB (Rd X φ w) [] e v) ->
  Calls P (ρ.f 112) vargs w (fun e w'=>∃v',e=.returned v'/\cB (Rd X φ w') φ (match (generalizing:=false) res with
   |none=>.dJ []
   |some _=>y) v'/\fU [] w [] w')) /\
 ∀ (X:Nat->Prop) (φ:dQ) (w:World) Ha n rest (vargs:Array Value) v0,cK X φ w Ha->aO Ha n=some (aI (xs++rest))->es.length+1=vargs.size->vargs[0]?=some v0->cB (Rd X φ w) φ (.sl k n 0 xs.length) v0->(∀(i:Nat) (e:AV) (v:Value),es[i]?=some e->vargs[i+1]?=some v->cB (Rd X φ w) [] e v) ->
  Calls P (ρ.f 112) vargs w (fun e w'=>∃v' φ',e=.returned v'/\cB (Rd X φ' w') φ' (match (generalizing:=false) res with
   |none=>.dJ []
   |some m=>.sl k n 0 m) v'/\cK X φ' w' (Ha.set n (some (aI (ys++rest))))/\fU φ w φ' w'):=by
 unfold rvG at hg;split at hg
 case isFalse=>cases hg
 rename_i hc;obtain⟨rfl,he,RF⟩:=hc;have he0:es=[]:=List.isEmpty_iff.1 he;subst he0;cases RC:j8 xs with
 |none=>rw[RC] at hg; cases hg
 |some zs=>
 rw[RC] at hg;simp only[ai,Prod.mk.injEq] at hg;obtain⟨rfl,rfl⟩:=hg;have hx:=vO RC;subst hx;refine⟨⟨⟨by simp,fun y hy=>(oU hy).1⟩,fun y hy=>(oU hy).2,fun m hm=>by cases hm⟩,fun hnil X φ w vargs v0 y hy hs h0 hr _=>?_,fun X φ w Ha n rest vargs v0 hh hb hs h0 hr _=>?_⟩
 ·obtain⟨p,cap,rfl⟩:=F4 hy hr;obtain rfl:=IC hs h0;refine (Any.slices_Reverse_int_empty Ly p cap w).mono ?_;rintro e w' ⟨rfl,rfl⟩;exact⟨_,rfl,.dJ _ _ _ rfl (fun i c v hc=>by simp at hc),.refl _ _⟩
 ·have ha:=L9 (by simpa using hs.symm) h0 hr;by_cases hz:zs=[]
  ·subst hz
   have e:Ha.set n (some (aI (([]:List Int).reverse.map (AV.int .i64)++rest)))=Ha:=by
    apply List.ext_getElem?;intro j;rw[List.getElem?_set];split
    ·rename_i e; subst e;rw[if_pos (eI hb),r9.1 hb]; rfl
    ·rfl
   rw[e]
   obtain⟨p,cap,rfl⟩:∃p cap,v0=.slice p 0 cap:=by
    cases hr;exact⟨_,_,rfl⟩
   obtain rfl:=IC hs h0;refine (Any.slices_Reverse_int_empty Ly p cap w).mono ?_;rintro e w' ⟨rfl,rfl⟩;exact⟨_,φ,rfl,.dJ _ _ _ rfl (fun i c v hc=>by simp at hc),hh,.refl _ _⟩
  ·have DS:zs.length≠0:=fun h=>hz (List.eq_nil_of_length_eq_zero h);have UU:aI (zs.map (AV.int .i64)++rest)=zs.map (AV.int .i64)++aI rest:=by rw[iH,oV]
   have hl:(zs.map (AV.int .i64)).length=zs.length:=by simp
   rw[hl] at ha RF;have c:=agk Ly (H:=Ha) (zs:=zs) ha hh DS hb (by rw[UU]; simp) (by unfold jx; omega) (by rw[UU]; simp[nt])
   have e:kg (aI (zs.map (AV.int .i64)++rest)) 0 (zs.reverse.map (AV.int .i64))=aI (zs.reverse.map (AV.int .i64)++rest):=by
    rw[iH,iH,oV,oV];unfold kg;simp
   rw[e] at c;exact c
end Go.Bm
