/- The library's clone of an empty slice and compact of ints, as the machine by value knows them. -/
import Derived.Test.YtbnheahpdodmjabGreatDoorSrtO
import Derived.Test.YtbnheahpdodmjabGreatDoorBmP
import Derived.Shelf.Spec.SlicesInsertGrow
import Derived.Shelf.Slices.CompactI
open Go.Proofs.Tryz renaming prog → ak
open Go.Shelf renaming Ren → zh
open List renaming replicate → bh
open Nat renaming le_refl → aJ
open Option.some renaming inj → bj, injEq → af
open Prod.mk renaming injEq → aF
namespace Go.Proofs
open Go.Shelf Go.RowKit Go.Lib
theorem adr:(Tryz.prog.info? 3).map (fun i=>(i.zero,i.size,i.bytes))=some (some (.int .i64 0),1,8):=by kernel_rfl
set_option maxHeartbeats 2000000 in
set_option maxRecDepth 100000 in
theorem adq (a:Addr) (c:Nat) (w:World):Calls Tryz.prog 105 #[.slice (some a) 0 c] w fun e w'=>e=.returned (.slice (some ⟨w.heap.size,0,none⟩) 0 0)/\w'=w.alloc (.cells #[] 3):=by
 have t4:=Tryz.underlying4; have a4:=Tryz.isAgg4; have z4:=Tryz.sizeOf4; have v4:=Tryz.zeroValue4; have t22:=Tryz.underlying23; have a22:=Tryz.isAgg23; have z22:=Tryz.sizeOf23; have v22:=Tryz.zeroValue23; have z43:=Tryz.sizeOf3;have mixed:Tryz.prog.follows .mixedOrders=true:=by kernel_rfl
 obtain⟨i0,hi0,_,_,_⟩:=info_parts adr;have q22:∀(w:World) (a:Option Addr) (n c n' c':Nat),(binOp .eql 23 (.slice a n c) (.slice none n' c')).run Tryz.prog w=.ok (.bool a.isNone) w:=fun w a n c n' c'=>Lib.run_eql_slice_nil w _ _ a n c n' c' t22;have u22:∀w,Sem.run Tryz.prog (underlying 23) w=.ok (TypeDesc.slice 3) w:=run_underlying t22;have pI:∀ty W,(Builtin.append_ #[23,23] ty #[.slice (some ⟨w.heap.size,0,none⟩) 0 0,.slice (some a) 0 c]).run Tryz.prog W=.ok (.slice (some ⟨w.heap.size,0,none⟩) 0 0) W:=fun ty W=>Go.Am.rP t22 hi0 (aJ 0)
 go_enter Tryz.func105,Tryz.ntmps105
 go_wp2_with (at_builtin; refine Lib.wpList_append_run _ rfl _ _ _ _ rfl _ _ rfl rfl _ _ (pI _ _) ?_)
 go_ret
 exact⟨rfl,rfl⟩
set_option maxHeartbeats 1000000 in
theorem agZ (n c:Nat) (w:World):Calls Tryz.prog 105 #[.slice none n c] w fun e w'=>e=.returned (.slice none 0 0)/\w'=w:=by
 have t4:=Tryz.underlying4; have a4:=Tryz.isAgg4; have z4:=Tryz.sizeOf4; have v4:=Tryz.zeroValue4; have t22:=Tryz.underlying23; have a22:=Tryz.isAgg23; have z22:=Tryz.sizeOf23; have v22:=Tryz.zeroValue23;have mixed:Tryz.prog.follows .mixedOrders=true:=by kernel_rfl
 have q22:∀(w:World) (a:Option Addr) (n c n' c':Nat),(binOp .eql 23 (.slice a n c) (.slice none n' c')).run Tryz.prog w=.ok (.bool a.isNone) w:=fun w a n c n' c'=>Lib.run_eql_slice_nil w _ _ a n c n' c' t22
 go_enter Tryz.func105,Tryz.ntmps105
 go_wp2
 go_ret
 exact⟨rfl,rfl⟩
end Go.Proofs
namespace Go.Bm
open Go.Am Go.Sort Go.Shelf Go.Proofs
theorem Zj {X:Nat->Prop} {φ:dx} {w w':World} {N:Names} {s:St} {Ha:Heap} {t:Nat->Value} {B:Nat->Nat} {v':Value} {k:Nat} (h:ff X φ w N s Ha t) (a1:ft [] w [] w') (hr:bR (Rd X φ w') φ (.list k []) v'):Iz X φ w B 0 (.list k []) [] (.returned v') w':=by
 have B8:∀i,Am.get [(0,AV.list k [])] i=if i=0 then .list k [] else .any:=fun i=>by simp only[Am.get]
 have iF:∀p,aB ⟨[(0,AV.list k [])],[]⟩ p=none:=by
  intro p;cases p with
  |s i=>
    simp only[aB,at_,B8];by_cases hi:i=0
    ·rw[if_pos hi]
    ·rw[if_neg hi]
  |sc i j=>
    simp only[aB,at_,B8];by_cases hi:i=0
    ·rw[if_pos hi]
    ·rw[if_neg hi]
  |c b j=>simp[aB,at_,aH]
 refine⟨v',φ,rfl,⟨⟨N.β,fun _=>none⟩,Ha,⟨fun i=>?_,fun i=>?_,h.heap.of_same a1,fun p k' xs e=>?_,fun b cs e=>by simp[aH] at e,fun p q n e=>?_,fun b p e=>by simp[aH] at e,fun b c e=>by simp[aH] at e⟩,fun b hb=>by omega,Nat.zero_le _⟩,.of_same a1⟩
 ·show bR _ _ (lZ _ i (Am.get [(0,AV.list k [])] i)) (if i=0 then v' else undef);rw[B8];by_cases e:i=0
  ·rw[if_pos e,if_pos e]; exact hr
  ·rw[if_neg e,if_neg e]; exact .any _ _
 ·show cS _ _ (Am.get [(0,AV.list k [])] i);rw[B8];split<;>trivial
 ·rw[iF] at e; cases e
 ·rw[iF] at e; cases e
theorem ajh {args:List AV} {H:Heap} {r:AV} {H':Heap} (hg:gClo args H=some (r,H')) {X:Nat->Prop} {φ:dx} {w:World} {B:Nat->Nat} {vargs:Array Value} (hl:args.length=vargs.size) (hs:SB X φ w B H.length ⟨dP 0 args,H⟩ (fun i=>vargs.getD i undef)) :
  Calls ak 105 vargs w (Iz X φ w B H.length r H'):=by
 unfold gClo at hg;split at hg
 case h_2=>cases hg
 simp only[af,aF] at hg;obtain⟨rfl,rfl⟩:=hg;obtain⟨N,Ha,h,hb⟩:=hs;have pH:vargs.size=1:=by simpa using hl.symm
 obtain⟨v,rfl⟩:∃v,vargs=#[v]:=⟨vargs[0],by apply Array.ext<;>simp[pH]; intro i hi; simp[show i=0 by omega]⟩;have r0:bR (Rd X φ w) φ (.list 1 []) v:=h.env 0;cases r0 with
 |yG _ _ _ a n cap u hn iN hk hu h'=>
   simp at hn;subst hn;refine (adq a cap w).mono ?_;rintro e w' ⟨rfl,rfl⟩;have a1:ft [] w [] (w.alloc (.cells #[] 3)):=⟨rfl,rfl,rfl,aJ _,by show w.heap.size<=(w.heap.push _).size; simp,fun g hg h=>⟨by show (w.heap.push _)[g]?=_; rw[Array.getElem?_push_lt hg,Array.getElem?_eq_getElem hg],h⟩,.refl _⟩;exact Zj h a1 (.yG _ _ _ _ _ _ (fun _ _=>undef) (by simp) (by omega) (fun x hx=>by simp at hx) (fun i j x c hx=>by simp at hx) (fun i j x c hx=>by simp at hx))
 |lJ=>
   refine (agZ 0 0 w).mono ?_;rintro e w' ⟨rfl,rfl⟩;exact Zj h (.refl _ _) (.lJ _ _)
theorem ace:∀(l:List Int) (z:Int),dd (l++[z])=dd l++(if l.getLast?=some z then[] else[z])
 |[],z=>by simp[dd]
 |[x],z=>by
   by_cases h:x=z
   ·subst h; simp[dd]
   ·simp[dd,h]
 |x::y::r,z=>by
   have ih:=ace (y::r) z;simp only[List.cons_append] at ih ⊢;unfold dd;rw[ih];have e:(x::y::r).getLast?=(y::r).getLast?:=by simp[List.getLast?_cons]
   rw[e];split<;>rfl
theorem acf (l:List Int) (z:Int):∀m,m<=l.length->Lib.compactUpTo (l++[z]).toArray m=Lib.compactUpTo l.toArray m
 |0,_=>rfl
 |m+1,hm=>by
   rw[Lib.compactUpTo_succ,Lib.compactUpTo_succ,acf l z m (by omega)]
   have g:∀j,j<l.length->(l++[z]).toArray[j]! = l.toArray[j]! :=fun j hj=>by
    simp[hj,show j<l.length+1 by omega]
   have k:Lib.keeps (l++[z]).toArray m=Lib.keeps l.toArray m:=by
    simp only[Lib.keeps,g m (by omega),g (m-1) (by omega)]
   rw[k,g m (by omega)]
theorem Yz (l:List Int):Lib.compact l=dd l:=by
 have key:∀n (l:List Int),l.length=n->Lib.compact l=dd l:=by
  intro n
  induction n with
  |zero=>intro l h; obtain rfl:=List.length_eq_zero_iff.1 h; rfl
  |succ n ih=>
    intro l h;obtain⟨r,z,rfl⟩:∃r z,l=r++[z]:=⟨l.dropLast,l.getLast (by intro e; subst e; simp at h),(List.dropLast_concat_getLast _).symm⟩;have hr:r.length=n:=by simpa using h
    have ih:=ih r hr;unfold Lib.compact at ih ⊢;rw[List.length_append,List.length_singleton,Lib.compactUpTo_succ,acf r z r.length (aJ _),ih,ace];congr 1;have g:(r++[z]).toArray[r.length]! = z:=by simp
    rw[g];by_cases h0:r=[]
    ·subst h0; rfl
    ·have hp:0<r.length:=List.length_pos_iff.2 h0
     have g2:(r++[z]).toArray[r.length-1]! = r.getLast h0:=by
      rw[List.getLast_eq_getElem];simp[show r.length-1<r.length by omega,show r.length-1<r.length+1 by omega]
     rw[List.getLast?_eq_some_getLast h0];by_cases he:r.getLast h0=z
     ·have:Lib.keeps (r++[z]).toArray r.length=false:=Lib.keeps_neg hp (by rw[g,g2,he]);rw[this,he]; simp
     ·have:Lib.keeps (r++[z]).toArray r.length=true:=Lib.keeps_pos (by rw[g,g2]; exact fun e=>he e.symm);rw[this,if_pos rfl,if_neg];intro e; exact he (bj e)
 exact key _ l rfl
theorem VU {P:Program} {ρ:zh} (Ly:Lays2.n20 P ρ) {k:Nat} {xs es ys:List AV} {res:Option Nat} (hg:Yv k xs es=some (ys,res)) :
  ((ys.length=xs.length/\(∀y∈ys,y.cells.length=k))/\((∀y∈ys,∀d∈y.cells,fz d=true)/\∀ m,res=some m->m<=xs.length)) /\
 (xs=[]->∀(X:Nat->Prop) (φ:dx) (w:World) (vargs:Array Value) v0 y,(y=.dC\/y=.list k [])->es.length+1=vargs.size->vargs[0]?=some v0->bR (Rd X φ w) φ y v0->(∀(i:Nat) (e:AV) (v:Value),es[i]?=some e->vargs[i+1]?=some v->bR (Rd X φ w) [] e v) ->
  Calls P (ρ.f 20) vargs w (fun e w'=>∃v',e=.returned v'/\bR (Rd X φ w') φ (match (generalizing:=false) res with
   |none=>.dR []
   |some _=>y) v'/\ft [] w [] w')) /\
 ∀ (X:Nat->Prop) (φ:dx) (w:World) Ha n rest (vargs:Array Value) v0,cm X φ w Ha->aH Ha n=some (aC (xs++rest))->es.length+1=vargs.size->vargs[0]?=some v0->bR (Rd X φ w) φ (.sl k n 0 xs.length) v0->(∀(i:Nat) (e:AV) (v:Value),es[i]?=some e->vargs[i+1]?=some v->bR (Rd X φ w) [] e v) ->
  Calls P (ρ.f 20) vargs w (fun e w'=>∃v' φ',e=.returned v'/\bR (Rd X φ' w') φ' (match (generalizing:=false) res with
   |none=>.dR []
   |some m=>.sl k n 0 m) v'/\cm X φ' w' (Ha.set n (some (aC (ys++rest))))/\ft φ w φ' w'):=by
 unfold Yv at hg;split at hg
 case h_2=>cases hg
 split at hg
 case isFalse=>cases hg
 rename_i RM;cases Vg:mP xs with
 |none=>rw[Vg] at hg; cases hg
 |some zs=>
 rw[Vg] at hg;simp only[af,aF] at hg;obtain⟨rfl,rfl⟩:=hg;have hx:=Bl Vg;subst hx;have hdl:=Yu zs;refine⟨⟨⟨by simp; omega,fun y hy=>(xw hy).1⟩,fun y hy=>(xw hy).2,fun m hm=>by cases hm; simpa using hdl⟩,fun hnil X φ w vargs v0 y hy hs h0 hr _=>?_,fun X φ w Ha n rest vargs v0 hh hb hs h0 hr _=>?_⟩
 ·obtain⟨p,cap,rfl⟩:=F5 hy hr;obtain rfl:=abf hs h0;refine (Any.slices_Compact_int_empty Ly p cap w).mono ?_;rintro e w' ⟨rfl,rfl⟩;exact⟨_,rfl,hr,.refl _ _⟩
 ·have ha:=V9 (by simpa using hs.symm) h0 hr;by_cases hz:zs=[]
  ·subst hz
   have e:Ha.set n (some (aC ((dd []++bh (([]:List Int).length-(dd []).length) 0).map (AV.int .i64)++rest)))=Ha:=by
    apply List.ext_getElem?;intro j;rw[List.getElem?_set];split
    ·rename_i e; subst e;rw[if_pos (dU hb),blk_iff.1 hb]; rfl
    ·rfl
   rw[e];exact Ih Ly (args:=[.sl 1 n 0 0]) (H:=Ha) (r:=.sl 1 n 0 0) (H':=Ha) rfl ha hh
  ·have Gr:zs.length≠0:=fun h=>hz (List.eq_nil_of_length_eq_zero h);have Qi:aC (zs.map (AV.int .i64)++rest)=zs.map (AV.int .i64)++aC rest:=by rw[iq,Bu]
   have e:Fg [.sl 1 n 0 zs.length] Ha=some (.sl 1 n 0 (dd zs).length,Ha.set n (some (aC ((dd zs++bh (zs.length-(dd zs).length) 0).map (AV.int .i64)++rest)))):=by
    unfold Fg;simp only[if_neg Gr,hb,Qi];rw[if_pos ⟨by simp,by simpa using RM⟩];have ht:((zs.map (AV.int .i64)++aC rest).drop 0).take zs.length=zs.map (AV.int .i64):=by simp
    rw[ht,vm];simp only[cpt,Yz];rw[if_pos hdl,iq,Bu];unfold kj;have Bp:(List.map (AV.int .i64) (dd zs++bh (zs.length-(dd zs).length) 0)).length=zs.length:=by simp; omega
    rw[Bp];simp
   have hl:(zs.map (AV.int .i64)).length=zs.length:=by simp
   rw[hl] at ha;exact Ih Ly e ha hh
end Go.Bm
