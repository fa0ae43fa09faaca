/- The library's sort of ints as an oracle of the abstract machine. -/
import Derived.Test.YtbnheahpdodmjaaGreatDoorGrfP
import Derived.Shelf.Sort.Plain
import Derived.Shelf.Slices.In.SortNone
import Derived.Shelf.Slices.CompactI
import Derived.Shelf.Lay
open Go.Shelf renaming Ren → yJ
open List renaming getElem?_append → XD, getElem?_drop → bf, getElem?_map → cn, getElem?_take → bP, replicate → aW
open Nat renaming le_refl → aO
open Option renaming map_some → cD
open Option.some renaming injEq → af
namespace Go.Am
open Go.Sort Go.Shelf Go.Proofs
def sorted (zs:List Int):List Int:=zs.mergeSort fun x y=>decide (x<=y)
def aaQ:List AV->Heap->Option (AV × Heap)
 |[.du],H=>some (.dt [],H)
 |[.list 1 []],H=>some (.dt [],H)
 |[.sl 1 b off len],H=>if len=0 then some (.dt [],H) else match aJ H b with
   |some cs=>if off+len<=cs.length/\len<=lU then match mL ((cs.drop off).take len) with
     |some zs=>some (.dt [],H.set b (some (j9 cs off ((sorted zs).map (AV.int .i64)))))
     |none=>none
     else none
   |none=>none
 |_,_=>none
theorem u7 {α:Type} [Inhabited α] (enc:α->Value) (w:World) (g off:Nat) (d:Array α) {arr:Array Value} {e:TypeId} {fr:Nat × Nat} (hg:w.heap[g]?=some (.cells arr e fr)):putRow enc w g off d=w.setRow g (putCells enc off d arr):=by
 unfold putRow mapBlock World.setRow;congr 1;apply Array.ext_getElem?;intro k;simp only[Array.getElem?_modify];by_cases hk:g=k
 ·subst hk;simp[hg,onCells]
 ·simp[hk]
theorem BE (zs:List Int):(sorted zs).length=zs.length:=List.length_mergeSort _
theorem ZU {X:Nat->Prop} {φ:dj} {w:World} {H:Heap} {b off len:Nat} {v:Value} {cs:List AV} {zs:List Int} (hh:cj X φ w H) (hv:bO (Rd X φ w) φ (.sl 1 b off len) v) (h0:len≠0) (dI:aJ H b=some cs) (hlen:off+len<=cs.length)
  (TM:mL ((cs.drop off).take len)=some zs) :
  ∃ g cap,v=.slice (some ⟨g,off,none⟩) len cap/\len<=cap/\zs.length=len/\Holds (Value.int .i64) w g off zs.toArray/\g<w.heap.size /\
   (∀(R:Addr->Value->Prop) (m:Nat),m<=cap->bO R φ (.sl 1 b off m) (.slice (some ⟨g,off,none⟩) m cap)) /\
   ∀ (ds:List Int),ds.length=len->∀(n:Nat) (os:Array Obj),cj X φ (grow (putRow (Value.int .i64) (Sort.ahead w n) g off ds.toArray) os) (H.set b (some (j9 cs off (ds.map (AV.int .i64)))))/\fg φ w φ (grow (putRow (Value.int .i64) (Sort.ahead w n) g off ds.toArray) os):=by
 cases hv with
 |sl _ _ _ _ _ a cap hb hc h=>
 obtain⟨g,sz,arr,e,h1,h2,h3,h4,h5,h6⟩:=hh.cat dI (fun g sz q=>by have:=(h g sz q).2; omega);obtain⟨IK,iC⟩:=h g sz h1;obtain rfl:=IK (by omega);have hz:=AZ TM
 have FQ:zs.length=len:=by
  have:=congrArg List.length hz;simp at this;omega
 have yH:∀j,j<zs.length->cs[off+j]?=some (.int .i64 (zs[j]!)):=by
  intro j hj;have:=congrArg (fun l=>l[j]?) hz;simp only[bP,bf,cn] at this;rw[if_pos (by omega)] at this;rw[this];simp[hj]
 have hH:Holds (Value.int .i64) w g off zs.toArray:=by
  intro j hj;have hj':j<zs.length:=by simpa using hj
  obtain⟨u,hu,ru⟩:=h6 _ _ (yH j hj');cases ru;refine⟨?_,?_⟩
  ·simp[World.cell?,h2,hu]
  ·simp[World.frozen?,h2]
 have bF:g<w.heap.size:=(Array.getElem?_eq_some_iff.1 h2).1;refine⟨g,cap,rfl,hc,FQ,hH,bF,fun R m hm=>.sl _ _ _ _ _ _ _ hb hm h,fun ds qe n os=>?_⟩;have hg1:(Sort.ahead w n).heap[g]?=some (.cells arr e (0,0)):=h2;rw[u7 (hg:=hg1)];have a1:fg [] w [] (Sort.ahead w n):=⟨rfl,rfl,rfl,Nat.le_add_right _ _,aO _,fun _ _ h=>⟨rfl,h⟩,.refl _⟩;have hh1:=hh.of_same a1;have oi:(putCells (Value.int .i64) off ds.toArray arr).size=arr.size:=by simp[putCells]
 have hol:(j9 cs off (ds.map (AV.int .i64))).length=cs.length:=by simp[j9]; omega
 obtain⟨hh2,a2⟩:=cj.store (cs':=j9 cs off (ds.map (AV.int .i64))) (w':=(Sort.ahead w n).setRow g (putCells (Value.int .i64) off ds.toArray arr)) hh1 h1 hg1 h3 oi rfl h5 (by omega) (fun i c hi=>by
  have wP:(putCells (Value.int .i64) off ds.toArray arr)[i]?=(arr[i]?).map fun x=>if off<=i/\i<off+ds.length then Value.int .i64 (ds.toArray[i-off]!) else x:=by
   simp[putCells]
  rw[wP];simp only[j9,List.append_assoc] at hi;rw[XD] at hi;by_cases hi1:i<off
  ·rw[if_pos (by simp; omega),bP,if_pos hi1] at hi;obtain⟨u,hu,ru⟩:=h6 i c hi;exact⟨u,by simp[hu]; omega,(fg.of_same a1).rep ru⟩
  ·rw[if_neg (by simp; omega),XD] at hi;have hto:(cs.take off).length=off:=by simp; omega
   rw[hto] at hi;by_cases hi2:i-off<ds.length
   ·rw[if_pos (by simpa using hi2),cn] at hi;obtain⟨u,hu,ru⟩:=h6 i _ (by rw[show i=off+(i-off) by omega]; exact yH (i-off) (by omega));refine⟨_,by rw[hu,cD,if_pos (by omega)],?_⟩;have:ds[i-off]?=some (ds.toArray[i-off]!):=by simp[hi2]
    rw[this] at hi;simp only[cD,af] at hi;subst hi;exact .int _ _ _
   ·rw[if_neg (by simpa using hi2),bf] at hi;simp only[List.length_map] at hi;rw[show off+ds.length+(i-off-ds.length)=i by omega] at hi;obtain⟨u,hu,ru⟩:=h6 i c hi;exact⟨u,by simp[hu]; omega,(fg.of_same a1).rep ru⟩)
 have a3:fg [] ((Sort.ahead w n).setRow g (putCells (Value.int .i64) off ds.toArray arr)) [] (grow ((Sort.ahead w n).setRow g (putCells (Value.int .i64) off ds.toArray arr)) os):=
  ⟨rfl,rfl,rfl,aO _,by simp,fun k hk h=>⟨heap_grow_old _ _ hk,h⟩,.refl _⟩
 exact⟨hh2.of_same a3,((fg.of_same a1).trans a2).trans (fg.of_same a3)⟩
theorem ud.one {X:Nat->Prop} {φ:dj} {w:World} {x:AV} {vargs:Array Value} (ha:ud X φ w [x] vargs):∃v,vargs=#[v]/\bO (Rd X φ w) φ x v:=by
 obtain⟨h1,h2⟩:=ha;have oV:vargs.size=1:=by simpa using h1.symm
 obtain⟨v,rfl⟩:∃v,vargs=#[v]:=⟨vargs[0],by apply Array.ext<;>simp[oV]; intro i hi; simp[show i=0 by omega]⟩;exact⟨v,rfl,h2 0 x v rfl rfl⟩
theorem Rl {P:Program} {ρ:Ren} (Ly:Lays.n189 P ρ) {args:List AV} {H:Heap} {r:AV} {H':Heap} (hs:aaQ args H=some (r,H')) {X:Nat->Prop} {φ:dj} {w:World} {vargs:Array Value} (ha:ud X φ w args vargs) (hh:cj X φ w H) :
  Calls P (ρ.f 189) vargs w (Ret X φ w r H'):=by
 have Ef:∀(p:Option Addr) (cap:Nat),vargs=#[.slice p 0 cap]->r=.dt []->H'=H->Calls P (ρ.f 189) vargs w (Ret X φ w r H'):=by
  intro p cap hv hr hH;subst hv hr hH;refine (Any.slices_Sort_int_none Ly p cap w).mono ?_;rintro e w' ⟨rfl,rfl⟩;exact⟨_,φ,rfl,.dt _ _ _ rfl (fun i c v hc=>by simp at hc),hh,.refl _ _⟩
 unfold aaQ at hs;split at hs
 ·obtain⟨v,rfl,hv⟩:=ha.one;cases hv;simp at hs;exact Ef _ _ rfl hs.1.symm hs.2.symm
 ·obtain⟨v,rfl,hv⟩:=ha.one;simp at hs;cases hv with
  |yd _ _ _ a n cap u hn iC hk hu h=>
    simp at hn;subst hn;exact Ef _ _ rfl hs.1.symm hs.2.symm
  |lx=>exact Ef _ _ rfl hs.1.symm hs.2.symm
 ·obtain⟨v,rfl,hv⟩:=ha.one;split at hs
  ·rename_i h0;subst h0;simp at hs;cases hv;exact Ef _ _ rfl hs.1.symm hs.2.symm
  ·rename_i h0;split at hs
   ·rename_i cs dI;split at hs
    ·rename_i hlen;split at hs
     ·rename_i zs TM;simp at hs;obtain⟨rfl,rfl⟩:=hs;obtain⟨g,cap,rfl,hc,FQ,hH,bF,_,wP⟩:=ZU hh hv h0 dI hlen.1 TM;have dW:=Any.slices_Sort_int Ly g _ cap zs w hH bF (by have:=hlen.2; unfold lU at this; omega);rw[FQ] at dW;refine dW.mono ?_;rintro ee w' ⟨rfl,n,os,rfl⟩;obtain⟨h1,h2⟩:=wP (sorted zs) (by rw[BE,FQ]) n os;exact⟨_,φ,rfl,.dt _ _ _ rfl (fun i c v hc=>by simp at hc),h1,h2⟩
     ·cases hs
    ·cases hs
   ·cases hs
 ·cases hs
def cpt (zs:List Int):List Int:=Lib.compact zs
def EG:List AV->Heap->Option (AV × Heap)
 |[.du],H=>some (.du,H)
 |[.list 1 []],H=>some (.list 1 [],H)
 |[.sl 1 b off len],H=>if len=0 then some (.sl 1 b off 0,H) else match aJ H b with
   |some cs=>if off+len<=cs.length/\len<=lU then match mL ((cs.drop off).take len) with
     |some zs=>if (cpt zs).length<=len then some (.sl 1 b off (cpt zs).length,H.set b (some (j9 cs off ((cpt zs++aW (len-(cpt zs).length) 0).map (AV.int .i64))))) else none
     |none=>none
     else none
   |none=>none
 |_,_=>none
theorem HZ {P:Program} {ρ:Ren} (Ly:Lays2.n20 P ρ) {args:List AV} {H:Heap} {r:AV} {H':Heap} (hs:EG args H=some (r,H')) {X:Nat->Prop} {φ:dj} {w:World} {vargs:Array Value} (ha:ud X φ w args vargs) (hh:cj X φ w H) :
  Calls P (ρ.f 20) vargs w (Ret X φ w r H'):=by
 have Ef:∀(p:Option Addr) (cap:Nat),vargs=#[.slice p 0 cap]->bO (Rd X φ w) φ r (.slice p 0 cap)->H'=H->Calls P (ρ.f 20) vargs w (Ret X φ w r H'):=by
  intro p cap hv hr hH;subst hv hH;refine (Any.slices_Compact_int_empty Ly p cap w).mono ?_;rintro e w' ⟨rfl,rfl⟩;exact⟨_,φ,rfl,hr,hh,.refl _ _⟩
 unfold EG at hs;split at hs
 ·obtain⟨v,rfl,hv⟩:=ha.one;simp at hs;obtain⟨rfl,rfl⟩:=hs;cases hv;exact Ef _ _ rfl (.du _) rfl
 ·obtain⟨v,rfl,hv⟩:=ha.one;simp at hs;obtain⟨rfl,rfl⟩:=hs;have hv':=hv;cases hv with
  |yd _ _ _ a n cap u hn iC hk hu h=>
    simp at hn;subst hn;exact Ef _ _ rfl hv' rfl
  |lx=>exact Ef _ _ rfl hv' rfl
 ·rename_i H0 b off len;obtain⟨v,rfl,hv⟩:=ha.one;split at hs
  ·rename_i h0;subst h0;simp at hs;obtain⟨rfl,rfl⟩:=hs;have hv':=hv;cases hv;exact Ef _ _ rfl hv' rfl
  ·rename_i h0;split at hs
   ·rename_i cs dI;split at hs
    ·rename_i hlen;split at hs
     ·rename_i zs TM;split at hs
      ·rename_i hdl;simp at hs;obtain⟨rfl,rfl⟩:=hs;obtain⟨g,cap,rfl,hc,FQ,hH,bF,Ln,wP⟩:=ZU hh hv h0 dI hlen.1 TM;have dW:=Any.slices_Compact_int Ly g _ cap zs w hH (by have:=hlen.2; unfold lU at this; omega) (by omega);rw[FQ] at dW;refine dW.mono ?_;rintro ee w' ⟨rfl,n,rfl⟩;obtain⟨h1,h2⟩:=wP (cpt zs++aW (len-(cpt zs).length) 0) (by simp; omega) n #[];rw[grow_empty] at h1 h2;simp only[List.map_append,List.map_replicate] at h1;exact⟨_,φ,rfl,Ln _ _ (by omega),h1,h2⟩
      ·cases hs
     ·cases hs
    ·cases hs
   ·cases hs
 ·cases hs
end Go.Am
namespace Go.Bm
open Go.Am Go.Sort Go.Shelf Go.Proofs
theorem aeG (l:List Int):js l=sorted l:=by
 refine H7 ((pT l).trans (List.mergeSort_perm l _).symm) (AY l) ?_;have:=List.pairwise_mergeSort (le:=fun x y:Int=>decide (x<=y)) (fun a b c h1 h2=>by simp at h1 h2 ⊢; omega) (fun a b=>by simp; omega) l;exact this.imp fun h=>by simpa using h
theorem A9 (zs:List Int):aA (zs.map (AV.int .i64))=zs.map (AV.int .i64):=by
 induction zs with
 |nil=>rfl
 |cons x r ih=>simp[aA,AV.cells,ih]
theorem wN {zs:List Int} {x:AV} (h:x∈zs.map (AV.int .i64)):x.cells.length=1/\∀ d∈x.cells,fz d=true:=by
 obtain⟨z,_,rfl⟩:=List.mem_map.1 h;exact⟨rfl,fun d hd=>by simp[AV.cells] at hd; subst hd; rfl⟩
theorem UI {X:Nat->Prop} {φ:dj} {w:World} {x:AV} {vargs:Array Value} {v0:Value} (hs:vargs.size=1) (h0:vargs[0]?=some v0) (hr:bO (Rd X φ w) φ x v0):ud X φ w [x] vargs:=by
 refine⟨by simp[hs],fun i y u hy hu=>?_⟩;cases i with
 |zero=>simp at hy; subst hy; rw[h0] at hu; cases hu; exact hr
 |succ i=>simp at hy
theorem Fv {R:Addr->Value->Prop} {φ:dj} {k:Nat} {y:AV} {v0:Value} (hy:y=.du\/y=.list k []) (hr:bO R φ y v0):∃p cap,v0=.slice p 0 cap:=by
 rcases hy with rfl|rfl
 ·cases hr; exact⟨_,_,rfl⟩
 ·cases hr with
  |yd _ _ _ a n cap u hn iC hk hu h=>simp at hn; subst hn; exact⟨_,_,rfl⟩
  |lx=>exact⟨_,_,rfl⟩
theorem Z3 {vargs:Array Value} {v0:Value} (hs:([]:List AV).length+1=vargs.size) (h0:vargs[0]?=some v0):vargs=#[v0]:=by
 apply Array.ext_getElem?;intro i;cases i with
 |zero=>simpa using h0
 |succ i=>simp at hs ⊢; omega
theorem acq {P:Program} {ρ:yJ} (Ly:Lays.n189 P ρ) {k:Nat} {xs es ys:List AV} {res:Option Nat} (hg:Vv k xs es=some (ys,res)) :
  ((ys.length=xs.length/\(∀y∈ys,y.cells.length=k))/\((∀y∈ys,∀d∈y.cells,fz d=true)/\∀ m,res=some m->m<=xs.length)) /\
 (xs=[]->∀(X:Nat->Prop) (φ:dj) (w:World) (vargs:Array Value) v0 y,(y=.du\/y=.list k [])->es.length+1=vargs.size->vargs[0]?=some v0->bO (Rd X φ w) φ y v0->(∀(i:Nat) (e:AV) (v:Value),es[i]?=some e->vargs[i+1]?=some v->bO (Rd X φ w) [] e v) ->
  Calls P (ρ.f 189) vargs w (fun e w'=>∃v',e=.returned v'/\bO (Rd X φ w') φ (match (generalizing:=false) res with
   |none=>.dt []
   |some _=>y) v'/\fg [] w [] w')) /\
 ∀ (X:Nat->Prop) (φ:dj) (w:World) Ha n rest (vargs:Array Value) v0,cj X φ w Ha->aJ Ha n=some (aA (xs++rest))->es.length+1=vargs.size->vargs[0]?=some v0->bO (Rd X φ w) φ (.sl k n 0 xs.length) v0->(∀(i:Nat) (e:AV) (v:Value),es[i]?=some e->vargs[i+1]?=some v->bO (Rd X φ w) [] e v) ->
  Calls P (ρ.f 189) vargs w (fun e w'=>∃v' φ',e=.returned v'/\bO (Rd X φ' w') φ' (match (generalizing:=false) res with
   |none=>.dt []
   |some m=>.sl k n 0 m) v'/\cj X φ' w' (Ha.set n (some (aA (ys++rest))))/\fg φ w φ' w'):=by
 unfold Vv at hg;split at hg
 case h_2=>cases hg
 split at hg
 case isFalse=>cases hg
 rename_i Qn;cases TM:mL xs with
 |none=>rw[TM] at hg; cases hg
 |some zs=>
 rw[TM] at hg;simp only[af,Prod.mk.injEq] at hg;obtain⟨rfl,rfl⟩:=hg;have hx:=AZ TM;subst hx;refine⟨⟨⟨by simp[l5],fun y hy=>(wN hy).1⟩,fun y hy=>(wN hy).2,fun m hm=>by cases hm⟩,fun hnil X φ w vargs v0 y hy hs h0 hr _=>?_,fun X φ w Ha n rest vargs v0 hh hb hs h0 hr _=>?_⟩
 ·obtain⟨p,cap,rfl⟩:=Fv hy hr;obtain rfl:=Z3 hs h0;refine (Any.slices_Sort_int_none Ly p cap w).mono ?_;rintro e w' ⟨rfl,rfl⟩;exact⟨_,rfl,.dt _ _ _ rfl (fun i c v hc=>by simp at hc),.refl _ _⟩
 ·have ha:=UI (by simpa using hs.symm) h0 hr;by_cases hz:zs=[]
  ·subst hz
   have e:Ha.set n (some (aA ((js []).map (AV.int .i64)++rest)))=Ha:=by
    apply List.ext_getElem?;intro j;rw[List.getElem?_set];split
    ·rename_i e; subst e;rw[if_pos (dL hb),blk_iff.1 hb]; rfl
    ·rfl
   rw[e];exact Rl Ly (args:=[.sl 1 n 0 0]) (H:=Ha) (r:=.dt []) (H':=Ha) rfl ha hh
  ·have FQ:zs.length≠0:=fun h=>hz (List.eq_nil_of_length_eq_zero h);have hfl:aA (zs.map (AV.int .i64)++rest)=zs.map (AV.int .i64)++aA rest:=by rw[gY,A9]
   have e:aaQ [.sl 1 n 0 zs.length] Ha=some (.dt [],Ha.set n (some (aA ((js zs).map (AV.int .i64)++rest)))):=by
    unfold aaQ;simp only[if_neg FQ,hb,hfl];rw[if_pos ⟨by simp,by simpa using Qn⟩];have ht:((zs.map (AV.int .i64)++aA rest).drop 0).take zs.length=zs.map (AV.int .i64):=by simp
    rw[ht,uA];simp only;rw[gY,A9,aeG];unfold j9;simp[BE]
   have hl:(zs.map (AV.int .i64)).length=zs.length:=by simp
   rw[hl] at ha;exact Rl Ly e ha hh
end Go.Bm
