/- The library's clone of an empty slice and compact of ints, as the machine by value knows them. -/
import Derived.Test.YtmildmgogdmknaaGreatDoorSrtO
import Derived.Test.YtmildmgogdmknaaGreatDoorCloI
import Derived.Shelf.Slices.CompactI
open Go.Proofs.Tryz renaming prog → aj
open Go.Shelf renaming Ren → Bp
open List renaming replicate → aH
open Nat renaming le_refl → aY
open Option.some renaming inj → dv, injEq → ai
open Prod.mk renaming injEq → aP
namespace Go.Bm
open Go.Am Go.Sort Go.Shelf Go.Proofs
theorem Yn {X:Nat->Prop} {φ:dQ} {w w':World} {N:Names} {s:St} {Ha:Heap} {t:Nat->Value} {B:Nat->Nat} {v':Value} {k:Nat} (h:fx X φ w N s Ha t) (a1:fU [] w [] w') (hr:cB (Rd X φ w') φ (.list k []) v'):Nf X φ w B 0 (.list k []) [] (.returned v') w':=by
 have Gv:∀i,Am.get [(0,AV.list k [])] i=if i=0 then .list k [] else .any:=fun i=>by simp only[Am.get]
 have iS:∀p,aD ⟨[(0,AV.list k [])],[]⟩ p=none:=by
  intro p;cases p with
  |s i=>
    simp only[aD,at_,Gv];by_cases hi:i=0
    ·rw[if_pos hi]
    ·rw[if_neg hi]
  |sc i j=>
    simp only[aD,at_,Gv];by_cases hi:i=0
    ·rw[if_pos hi]
    ·rw[if_neg hi]
  |c b j=>simp[aD,at_,aO]
 refine⟨v',φ,rfl,⟨⟨N.β,fun _=>none⟩,Ha,⟨fun i=>?_,fun i=>?_,h.heap.of_same a1,fun p k' xs e=>?_,fun b cs e=>by simp[aO] at e,fun p q n e=>?_,fun b p e=>by simp[aO] at e,fun b c e=>by simp[aO] at e⟩,fun b hb=>by omega,Nat.zero_le _⟩,.of_same a1⟩
 ·show cB _ _ (lK _ i (Am.get [(0,AV.list k [])] i)) (if i=0 then v' else undef);rw[Gv];by_cases e:i=0
  ·rw[if_pos e,if_pos e]; exact hr
  ·rw[if_neg e,if_neg e]; exact .any _ _
 ·show c9 _ _ (Am.get [(0,AV.list k [])] i);rw[Gv];split<;>trivial
 ·rw[iS] at e; cases e
 ·rw[iS] at e; cases e
theorem ahI {args:List AV} {H:Heap} {r:AV} {H':Heap} (hg:gClo args H=some (r,H')) {X:Nat->Prop} {φ:dQ} {w:World} {B:Nat->Nat} {vargs:Array Value} (hl:args.length=vargs.size) (hs:SB X φ w B H.length ⟨eC 0 args,H⟩ (fun i=>vargs.getD i undef)) :
  Calls aj 97 vargs w (Nf X φ w B H.length r H'):=by
 unfold gClo at hg;split at hg
 case h_2=>cases hg
 simp only[ai,aP] at hg;obtain⟨rfl,rfl⟩:=hg;obtain⟨N,Ha,h,hb⟩:=hs;have qj:vargs.size=1:=by simpa using hl.symm
 obtain⟨v,rfl⟩:∃v,vargs=#[v]:=⟨vargs[0],by apply Array.ext<;>simp[qj]; intro i hi; simp[show i=0 by omega]⟩;have r0:cB (Rd X φ w) φ (.list 1 []) v:=h.env 0;cases r0 with
 |oa _ _ _ a n cap u hn je hk hu h'=>
   simp at hn;subst hn;refine (abU a cap w).mono ?_;rintro e w' ⟨rfl,rfl⟩;have a1:fU [] w [] (w.alloc (.cells #[] 3)):=⟨rfl,rfl,rfl,aY _,by show w.heap.size<=(w.heap.push _).size; simp,fun g hg h=>⟨by show (w.heap.push _)[g]?=_; rw[Array.getElem?_push_lt hg,Array.getElem?_eq_getElem hg],h⟩,.refl _⟩;exact Yn h a1 (.oa _ _ _ _ _ _ (fun _ _=>undef) (by simp) (by omega) (fun x hx=>by simp at hx) (fun i j x c hx=>by simp at hx) (fun i j x c hx=>by simp at hx))
 |kJ=>
   refine (afv 0 0 w).mono ?_;rintro e w' ⟨rfl,rfl⟩;exact Yn h (.refl _ _) (.kJ _ _)
theorem aaR:∀(l:List Int) (z:Int),dd (l++[z])=dd l++(if l.getLast?=some z then[] else[z])
 |[],z=>by simp[dd]
 |[x],z=>by
   by_cases h:x=z
   ·subst h; simp[dd]
   ·simp[dd,h]
 |x::y::r,z=>by
   have ih:=aaR (y::r) z;simp only[List.cons_append] at ih ⊢;unfold dd;rw[ih];have e:(x::y::r).getLast?=(y::r).getLast?:=by simp[List.getLast?_cons]
   rw[e];split<;>rfl
theorem aaS (l:List Int) (z:Int):∀m,m<=l.length->Lib.compactUpTo (l++[z]).toArray m=Lib.compactUpTo l.toArray m
 |0,_=>rfl
 |m+1,hm=>by
   rw[Lib.compactUpTo_succ,Lib.compactUpTo_succ,aaS l z m (by omega)]
   have g:∀j,j<l.length->(l++[z]).toArray[j]! = l.toArray[j]! :=fun j hj=>by
    simp[hj,show j<l.length+1 by omega]
   have k:Lib.keeps (l++[z]).toArray m=Lib.keeps l.toArray m:=by
    simp only[Lib.keeps,g m (by omega),g (m-1) (by omega)]
   rw[k,g m (by omega)]
theorem XB (l:List Int):Lib.compact l=dd l:=by
 have key:∀n (l:List Int),l.length=n->Lib.compact l=dd l:=by
  intro n
  induction n with
  |zero=>intro l h; obtain rfl:=List.length_eq_zero_iff.1 h; rfl
  |succ n ih=>
    intro l h;obtain⟨r,z,rfl⟩:∃r z,l=r++[z]:=⟨l.dropLast,l.getLast (by intro e; subst e; simp at h),(List.dropLast_concat_getLast _).symm⟩;have hr:r.length=n:=by simpa using h
    have ih:=ih r hr;unfold Lib.compact at ih ⊢;rw[List.length_append,List.length_singleton,Lib.compactUpTo_succ,aaS r z r.length (aY _),ih,aaR];congr 1;have g:(r++[z]).toArray[r.length]! = z:=by simp
    rw[g];by_cases h0:r=[]
    ·subst h0; rfl
    ·have hp:0<r.length:=List.length_pos_iff.2 h0
     have g2:(r++[z]).toArray[r.length-1]! = r.getLast h0:=by
      rw[List.getLast_eq_getElem];simp[show r.length-1<r.length by omega,show r.length-1<r.length+1 by omega]
     rw[List.getLast?_eq_some_getLast h0];by_cases he:r.getLast h0=z
     ·have:Lib.keeps (r++[z]).toArray r.length=false:=Lib.keeps_neg hp (by rw[g,g2,he]);rw[this,he]; simp
     ·have:Lib.keeps (r++[z]).toArray r.length=true:=Lib.keeps_pos (by rw[g,g2]; exact fun e=>he e.symm);rw[this,if_pos rfl,if_neg];intro e; exact he (dv e)
 exact key _ l rfl
theorem Vq {P:Program} {ρ:Bp} (Ly:Lays2.n20 P ρ) {k:Nat} {xs es ys:List AV} {res:Option Nat} (hg:Xz k xs es=some (ys,res)) :
  ((ys.length=xs.length/\(∀y∈ys,y.cells.length=k))/\((∀y∈ys,∀d∈y.cells,fz d=true)/\∀ m,res=some m->m<=xs.length)) /\
 (xs=[]->∀(X:Nat->Prop) (φ:dQ) (w:World) (vargs:Array Value) v0 y,(y=.dO\/y=.list k [])->es.length+1=vargs.size->vargs[0]?=some v0->cB (Rd X φ w) φ y v0->(∀(i:Nat) (e:AV) (v:Value),es[i]?=some e->vargs[i+1]?=some v->cB (Rd X φ w) [] e v) ->
  Calls P (ρ.f 20) vargs w (fun e w'=>∃v',e=.returned v'/\cB (Rd X φ w') φ (match (generalizing:=false) res with
   |none=>.dJ []
   |some _=>y) v'/\fU [] w [] w')) /\
 ∀ (X:Nat->Prop) (φ:dQ) (w:World) Ha n rest (vargs:Array Value) v0,cK X φ w Ha->aO Ha n=some (aI (xs++rest))->es.length+1=vargs.size->vargs[0]?=some v0->cB (Rd X φ w) φ (.sl k n 0 xs.length) v0->(∀(i:Nat) (e:AV) (v:Value),es[i]?=some e->vargs[i+1]?=some v->cB (Rd X φ w) [] e v) ->
  Calls P (ρ.f 20) vargs w (fun e w'=>∃v' φ',e=.returned v'/\cB (Rd X φ' w') φ' (match (generalizing:=false) res with
   |none=>.dJ []
   |some m=>.sl k n 0 m) v'/\cK X φ' w' (Ha.set n (some (aI (ys++rest))))/\fU φ w φ' w'):=by
 unfold Xz at hg;split at hg
 case h_2=>cases hg
 split at hg
 case isFalse=>cases hg
 rename_i RF;cases RC:j8 xs with
 |none=>rw[RC] at hg; cases hg
 |some zs=>
 rw[RC] at hg;simp only[ai,aP] at hg;obtain⟨rfl,rfl⟩:=hg;have hx:=vO RC;subst hx;have hdl:=Xy zs;refine⟨⟨⟨by simp; omega,fun y hy=>(oU hy).1⟩,fun y hy=>(oU hy).2,fun m hm=>by cases hm; simpa using hdl⟩,fun hnil X φ w vargs v0 y hy hs h0 hr _=>?_,fun X φ w Ha n rest vargs v0 hh hb hs h0 hr _=>?_⟩
 ·obtain⟨p,cap,rfl⟩:=F4 hy hr;obtain rfl:=IC hs h0;refine (Any.slices_Compact_int_empty Ly p cap w).mono ?_;rintro e w' ⟨rfl,rfl⟩;exact⟨_,rfl,hr,.refl _ _⟩
 ·have ha:=L9 (by simpa using hs.symm) h0 hr;by_cases hz:zs=[]
  ·subst hz
   have e:Ha.set n (some (aI ((dd []++aH (([]:List Int).length-(dd []).length) 0).map (AV.int .i64)++rest)))=Ha:=by
    apply List.ext_getElem?;intro j;rw[List.getElem?_set];split
    ·rename_i e; subst e;rw[if_pos (eI hb),r9.1 hb]; rfl
    ·rfl
   rw[e];exact HY Ly (args:=[.sl 1 n 0 0]) (H:=Ha) (r:=.sl 1 n 0 0) (H':=Ha) rfl ha hh
  ·have DS:zs.length≠0:=fun h=>hz (List.eq_nil_of_length_eq_zero h);have UU:aI (zs.map (AV.int .i64)++rest)=zs.map (AV.int .i64)++aI rest:=by rw[iH,oV]
   have e:Fa [.sl 1 n 0 zs.length] Ha=some (.sl 1 n 0 (dd zs).length,Ha.set n (some (aI ((dd zs++aH (zs.length-(dd zs).length) 0).map (AV.int .i64)++rest)))):=by
    unfold Fa;simp only[if_neg DS,hb,UU];rw[if_pos ⟨by simp,by simpa using RF⟩];have ht:((zs.map (AV.int .i64)++aI rest).drop 0).take zs.length=zs.map (AV.int .i64):=by simp
    rw[ht,nt];simp only[cpt,XB];rw[if_pos hdl,iH,oV];unfold kg;have Lq:(List.map (AV.int .i64) (dd zs++aH (zs.length-(dd zs).length) 0)).length=zs.length:=by simp; omega
    rw[Lq];simp
   have hl:(zs.map (AV.int .i64)).length=zs.length:=by simp
   rw[hl] at ha;exact HY Ly e ha hh
end Go.Bm
