/- The library's sort of ints as an oracle of the abstract machine. -/
import Derived.Test.YtbnheahpdodmjabGreatDoorGrfP
import Derived.Shelf.Sort.Plain
import Derived.Shelf.Slices.In.SortNone
import Derived.Shelf.Slices.CompactI
import Derived.Shelf.Lay
open Go.Shelf renaming Ren → zh
open List renaming getElem?_append → Y3, getElem?_drop → bk, getElem?_map → cu, getElem?_take → bT, replicate → bh
open Nat renaming le_refl → aJ
open Option renaming map_some → cG
open Option.some renaming injEq → af
namespace Go.Am
open Go.Sort Go.Shelf Go.Proofs
def sorted (zs:List Int):List Int:=zs.mergeSort fun x y=>decide (x<=y)
def ab5:List AV->Heap->Option (AV × Heap)
 |[.dC],H=>some (.dR [],H)
 |[.list 1 []],H=>some (.dR [],H)
 |[.sl 1 b off len],H=>if len=0 then some (.dR [],H) else match aH H b with
   |some cs=>if off+len<=cs.length/\len<=ks then match mP ((cs.drop off).take len) with
     |some zs=>some (.dR [],H.set b (some (kj cs off ((sorted zs).map (AV.int .i64)))))
     |none=>none
     else none
   |none=>none
 |_,_=>none
theorem vC {α:Type} [Inhabited α] (enc:α->Value) (w:World) (g off:Nat) (d:Array α) {arr:Array Value} {e:TypeId} {fr:Nat × Nat} (hg:w.heap[g]?=some (.cells arr e fr)):putRow enc w g off d=w.setRow g (putCells enc off d arr):=by
 unfold putRow mapBlock World.setRow;congr 1;apply Array.ext_getElem?;intro k;simp only[Array.getElem?_modify];by_cases hk:g=k
 ·subst hk;simp[hg,onCells]
 ·simp[hk]
theorem B0 (zs:List Int):(sorted zs).length=zs.length:=List.length_mergeSort _
theorem aa9 {X:Nat->Prop} {φ:dx} {w:World} {H:Heap} {b off len:Nat} {v:Value} {cs:List AV} {zs:List Int} (hh:cm X φ w H) (hv:bR (Rd X φ w) φ (.sl 1 b off len) v) (h0:len≠0) (dQ:aH H b=some cs) (hlen:off+len<=cs.length)
  (Vg:mP ((cs.drop off).take len)=some zs) :
  ∃ g cap,v=.slice (some ⟨g,off,none⟩) len cap/\len<=cap/\zs.length=len/\Holds (Value.int .i64) w g off zs.toArray/\g<w.heap.size /\
   (∀(R:Addr->Value->Prop) (m:Nat),m<=cap->bR R φ (.sl 1 b off m) (.slice (some ⟨g,off,none⟩) m cap)) /\
   ∀ (ds:List Int),ds.length=len->∀(n:Nat) (os:Array Obj),cm X φ (grow (putRow (Value.int .i64) (Sort.ahead w n) g off ds.toArray) os) (H.set b (some (kj cs off (ds.map (AV.int .i64)))))/\ft φ w φ (grow (putRow (Value.int .i64) (Sort.ahead w n) g off ds.toArray) os):=by
 cases hv with
 |sl _ _ _ _ _ a cap hb hc h=>
 obtain⟨g,sz,arr,e,h1,h2,h3,h4,h5,h6⟩:=hh.cat dQ (fun g sz q=>by have:=(h g sz q).2; omega);obtain⟨ha',iN⟩:=h g sz h1;obtain rfl:=ha' (by omega);have hz:=Bl Vg
 have Gr:zs.length=len:=by
  have:=congrArg List.length hz;simp at this;omega
 have zf:∀j,j<zs.length->cs[off+j]?=some (.int .i64 (zs[j]!)):=by
  intro j hj;have:=congrArg (fun l=>l[j]?) hz;simp only[bT,bk,cu] at this;rw[if_pos (by omega)] at this;rw[this];simp[hj]
 have hH:Holds (Value.int .i64) w g off zs.toArray:=by
  intro j hj;have hj':j<zs.length:=by simpa using hj
  obtain⟨u,hu,ru⟩:=h6 _ _ (zf j hj');cases ru;refine⟨?_,?_⟩
  ·simp[World.cell?,h2,hu]
  ·simp[World.frozen?,h2]
 have bE:g<w.heap.size:=(Array.getElem?_eq_some_iff.1 h2).1;refine⟨g,cap,rfl,hc,Gr,hH,bE,fun R m hm=>.sl _ _ _ _ _ _ _ hb hm h,fun ds qG n os=>?_⟩;have hg1:(Sort.ahead w n).heap[g]?=some (.cells arr e (0,0)):=h2;rw[vC (hg:=hg1)];have a1:ft [] w [] (Sort.ahead w n):=⟨rfl,rfl,rfl,Nat.le_add_right _ _,aJ _,fun _ _ h=>⟨rfl,h⟩,.refl _⟩;have hh1:=hh.of_same a1;have oS:(putCells (Value.int .i64) off ds.toArray arr).size=arr.size:=by simp[putCells]
 have hol:(kj cs off (ds.map (AV.int .i64))).length=cs.length:=by simp[kj]; omega
 obtain⟨hh2,a2⟩:=cm.store (cs':=kj cs off (ds.map (AV.int .i64))) (w':=(Sort.ahead w n).setRow g (putCells (Value.int .i64) off ds.toArray arr)) hh1 h1 hg1 h3 oS rfl h5 (by omega) (fun i c hi=>by
  have xy:(putCells (Value.int .i64) off ds.toArray arr)[i]?=(arr[i]?).map fun x=>if off<=i/\i<off+ds.length then Value.int .i64 (ds.toArray[i-off]!) else x:=by
   simp[putCells]
  rw[xy];simp only[kj,List.append_assoc] at hi;rw[Y3] at hi;by_cases hi1:i<off
  ·rw[if_pos (by simp; omega),bT,if_pos hi1] at hi;obtain⟨u,hu,ru⟩:=h6 i c hi;exact⟨u,by simp[hu]; omega,(ft.of_same a1).rep ru⟩
  ·rw[if_neg (by simp; omega),Y3] at hi;have hto:(cs.take off).length=off:=by simp; omega
   rw[hto] at hi;by_cases hi2:i-off<ds.length
   ·rw[if_pos (by simpa using hi2),cu] at hi;obtain⟨u,hu,ru⟩:=h6 i _ (by rw[show i=off+(i-off) by omega]; exact zf (i-off) (by omega));refine⟨_,by rw[hu,cG,if_pos (by omega)],?_⟩;have:ds[i-off]?=some (ds.toArray[i-off]!):=by simp[hi2]
    rw[this] at hi;simp only[cG,af] at hi;subst hi;exact .int _ _ _
   ·rw[if_neg (by simpa using hi2),bk] at hi;simp only[List.length_map] at hi;rw[show off+ds.length+(i-off-ds.length)=i by omega] at hi;obtain⟨u,hu,ru⟩:=h6 i c hi;exact⟨u,by simp[hu]; omega,(ft.of_same a1).rep ru⟩)
 have a3:ft [] ((Sort.ahead w n).setRow g (putCells (Value.int .i64) off ds.toArray arr)) [] (grow ((Sort.ahead w n).setRow g (putCells (Value.int .i64) off ds.toArray arr)) os):=
  ⟨rfl,rfl,rfl,aJ _,by simp,fun k hk h=>⟨heap_grow_old _ _ hk,h⟩,.refl _⟩
 exact⟨hh2.of_same a3,((ft.of_same a1).trans a2).trans (ft.of_same a3)⟩
theorem rI.one {X:Nat->Prop} {φ:dx} {w:World} {x:AV} {vargs:Array Value} (ha:rI X φ w [x] vargs):∃v,vargs=#[v]/\bR (Rd X φ w) φ x v:=by
 obtain⟨h1,h2⟩:=ha;have pH:vargs.size=1:=by simpa using h1.symm
 obtain⟨v,rfl⟩:∃v,vargs=#[v]:=⟨vargs[0],by apply Array.ext<;>simp[pH]; intro i hi; simp[show i=0 by omega]⟩;exact⟨v,rfl,h2 0 x v rfl rfl⟩
theorem SZ {P:Program} {ρ:Ren} (Ly:Lays.n189 P ρ) {args:List AV} {H:Heap} {r:AV} {H':Heap} (hs:ab5 args H=some (r,H')) {X:Nat->Prop} {φ:dx} {w:World} {vargs:Array Value} (ha:rI X φ w args vargs) (hh:cm X φ w H) :
  Calls P (ρ.f 189) vargs w (Ret X φ w r H'):=by
 have EP:∀(p:Option Addr) (cap:Nat),vargs=#[.slice p 0 cap]->r=.dR []->H'=H->Calls P (ρ.f 189) vargs w (Ret X φ w r H'):=by
  intro p cap hv hr hH;subst hv hr hH;refine (Any.slices_Sort_int_none Ly p cap w).mono ?_;rintro e w' ⟨rfl,rfl⟩;exact⟨_,φ,rfl,.dR _ _ _ rfl (fun i c v hc=>by simp at hc),hh,.refl _ _⟩
 unfold ab5 at hs;split at hs
 ·obtain⟨v,rfl,hv⟩:=ha.one;cases hv;simp at hs;exact EP _ _ rfl hs.1.symm hs.2.symm
 ·obtain⟨v,rfl,hv⟩:=ha.one;simp at hs;cases hv with
  |yG _ _ _ a n cap u hn iN hk hu h=>
    simp at hn;subst hn;exact EP _ _ rfl hs.1.symm hs.2.symm
  |lJ=>exact EP _ _ rfl hs.1.symm hs.2.symm
 ·obtain⟨v,rfl,hv⟩:=ha.one;split at hs
  ·rename_i h0;subst h0;simp at hs;cases hv;exact EP _ _ rfl hs.1.symm hs.2.symm
  ·rename_i h0;split at hs
   ·rename_i cs dQ;split at hs
    ·rename_i hlen;split at hs
     ·rename_i zs Vg;simp at hs;obtain⟨rfl,rfl⟩:=hs;obtain⟨g,cap,rfl,hc,Gr,hH,bE,_,xy⟩:=aa9 hh hv h0 dQ hlen.1 Vg;have eH:=Any.slices_Sort_int Ly g _ cap zs w hH bE (by have:=hlen.2; unfold ks at this; omega);rw[Gr] at eH;refine eH.mono ?_;rintro ee w' ⟨rfl,n,os,rfl⟩;obtain⟨h1,h2⟩:=xy (sorted zs) (by rw[B0,Gr]) n os;exact⟨_,φ,rfl,.dR _ _ _ rfl (fun i c v hc=>by simp at hc),h1,h2⟩
     ·cases hs
    ·cases hs
   ·cases hs
 ·cases hs
def cpt (zs:List Int):List Int:=Lib.compact zs
def Fg:List AV->Heap->Option (AV × Heap)
 |[.dC],H=>some (.dC,H)
 |[.list 1 []],H=>some (.list 1 [],H)
 |[.sl 1 b off len],H=>if len=0 then some (.sl 1 b off 0,H) else match aH H b with
   |some cs=>if off+len<=cs.length/\len<=ks then match mP ((cs.drop off).take len) with
     |some zs=>if (cpt zs).length<=len then some (.sl 1 b off (cpt zs).length,H.set b (some (kj cs off ((cpt zs++bh (len-(cpt zs).length) 0).map (AV.int .i64))))) else none
     |none=>none
     else none
   |none=>none
 |_,_=>none
theorem Ih {P:Program} {ρ:Ren} (Ly:Lays2.n20 P ρ) {args:List AV} {H:Heap} {r:AV} {H':Heap} (hs:Fg args H=some (r,H')) {X:Nat->Prop} {φ:dx} {w:World} {vargs:Array Value} (ha:rI X φ w args vargs) (hh:cm X φ w H) :
  Calls P (ρ.f 20) vargs w (Ret X φ w r H'):=by
 have EP:∀(p:Option Addr) (cap:Nat),vargs=#[.slice p 0 cap]->bR (Rd X φ w) φ r (.slice p 0 cap)->H'=H->Calls P (ρ.f 20) vargs w (Ret X φ w r H'):=by
  intro p cap hv hr hH;subst hv hH;refine (Any.slices_Compact_int_empty Ly p cap w).mono ?_;rintro e w' ⟨rfl,rfl⟩;exact⟨_,φ,rfl,hr,hh,.refl _ _⟩
 unfold Fg at hs;split at hs
 ·obtain⟨v,rfl,hv⟩:=ha.one;simp at hs;obtain⟨rfl,rfl⟩:=hs;cases hv;exact EP _ _ rfl (.dC _) rfl
 ·obtain⟨v,rfl,hv⟩:=ha.one;simp at hs;obtain⟨rfl,rfl⟩:=hs;have hv':=hv;cases hv with
  |yG _ _ _ a n cap u hn iN hk hu h=>
    simp at hn;subst hn;exact EP _ _ rfl hv' rfl
  |lJ=>exact EP _ _ rfl hv' rfl
 ·rename_i H0 b off len;obtain⟨v,rfl,hv⟩:=ha.one;split at hs
  ·rename_i h0;subst h0;simp at hs;obtain⟨rfl,rfl⟩:=hs;have hv':=hv;cases hv;exact EP _ _ rfl hv' rfl
  ·rename_i h0;split at hs
   ·rename_i cs dQ;split at hs
    ·rename_i hlen;split at hs
     ·rename_i zs Vg;split at hs
      ·rename_i hdl;simp at hs;obtain⟨rfl,rfl⟩:=hs;obtain⟨g,cap,rfl,hc,Gr,hH,bE,Ml,xy⟩:=aa9 hh hv h0 dQ hlen.1 Vg;have eH:=Any.slices_Compact_int Ly g _ cap zs w hH (by have:=hlen.2; unfold ks at this; omega) (by omega);rw[Gr] at eH;refine eH.mono ?_;rintro ee w' ⟨rfl,n,rfl⟩;obtain⟨h1,h2⟩:=xy (cpt zs++bh (len-(cpt zs).length) 0) (by simp; omega) n #[];rw[grow_empty] at h1 h2;simp only[List.map_append,List.map_replicate] at h1;exact⟨_,φ,rfl,Ml _ _ (by omega),h1,h2⟩
      ·cases hs
     ·cases hs
    ·cases hs
   ·cases hs
 ·cases hs
end Go.Am
namespace Go.Bm
open Go.Am Go.Sort Go.Shelf Go.Proofs
theorem age (l:List Int):jz l=sorted l:=by
 refine Ik ((qu l).trans (List.mergeSort_perm l _).symm) (Bk l) ?_;have:=List.pairwise_mergeSort (le:=fun x y:Int=>decide (x<=y)) (fun a b c h1 h2=>by simp at h1 h2 ⊢; omega) (fun a b=>by simp; omega) l;exact this.imp fun h=>by simpa using h
theorem Bu (zs:List Int):aC (zs.map (AV.int .i64))=zs.map (AV.int .i64):=by
 induction zs with
 |nil=>rfl
 |cons x r ih=>simp[aC,AV.cells,ih]
theorem xw {zs:List Int} {x:AV} (h:x∈zs.map (AV.int .i64)):x.cells.length=1/\∀ d∈x.cells,fz d=true:=by
 obtain⟨z,_,rfl⟩:=List.mem_map.1 h;exact⟨rfl,fun d hd=>by simp[AV.cells] at hd; subst hd; rfl⟩
theorem V9 {X:Nat->Prop} {φ:dx} {w:World} {x:AV} {vargs:Array Value} {v0:Value} (hs:vargs.size=1) (h0:vargs[0]?=some v0) (hr:bR (Rd X φ w) φ x v0):rI X φ w [x] vargs:=by
 refine⟨by simp[hs],fun i y u hy hu=>?_⟩;cases i with
 |zero=>simp at hy; subst hy; rw[h0] at hu; cases hu; exact hr
 |succ i=>simp at hy
theorem F5 {R:Addr->Value->Prop} {φ:dx} {k:Nat} {y:AV} {v0:Value} (hy:y=.dC\/y=.list k []) (hr:bR R φ y v0):∃p cap,v0=.slice p 0 cap:=by
 rcases hy with rfl|rfl
 ·cases hr; exact⟨_,_,rfl⟩
 ·cases hr with
  |yG _ _ _ a n cap u hn iN hk hu h=>simp at hn; subst hn; exact⟨_,_,rfl⟩
  |lJ=>exact⟨_,_,rfl⟩
theorem abf {vargs:Array Value} {v0:Value} (hs:([]:List AV).length+1=vargs.size) (h0:vargs[0]?=some v0):vargs=#[v0]:=by
 apply Array.ext_getElem?;intro i;cases i with
 |zero=>simpa using h0
 |succ i=>simp at hs ⊢; omega
theorem adR {P:Program} {ρ:zh} (Ly:Lays.n189 P ρ) {k:Nat} {xs es ys:List AV} {res:Option Nat} (hg:WR k xs es=some (ys,res)) :
  ((ys.length=xs.length/\(∀y∈ys,y.cells.length=k))/\((∀y∈ys,∀d∈y.cells,fz d=true)/\∀ m,res=some m->m<=xs.length)) /\
 (xs=[]->∀(X:Nat->Prop) (φ:dx) (w:World) (vargs:Array Value) v0 y,(y=.dC\/y=.list k [])->es.length+1=vargs.size->vargs[0]?=some v0->bR (Rd X φ w) φ y v0->(∀(i:Nat) (e:AV) (v:Value),es[i]?=some e->vargs[i+1]?=some v->bR (Rd X φ w) [] e v) ->
  Calls P (ρ.f 189) vargs w (fun e w'=>∃v',e=.returned v'/\bR (Rd X φ w') φ (match (generalizing:=false) res with
   |none=>.dR []
   |some _=>y) v'/\ft [] w [] w')) /\
 ∀ (X:Nat->Prop) (φ:dx) (w:World) Ha n rest (vargs:Array Value) v0,cm X φ w Ha->aH Ha n=some (aC (xs++rest))->es.length+1=vargs.size->vargs[0]?=some v0->bR (Rd X φ w) φ (.sl k n 0 xs.length) v0->(∀(i:Nat) (e:AV) (v:Value),es[i]?=some e->vargs[i+1]?=some v->bR (Rd X φ w) [] e v) ->
  Calls P (ρ.f 189) vargs w (fun e w'=>∃v' φ',e=.returned v'/\bR (Rd X φ' w') φ' (match (generalizing:=false) res with
   |none=>.dR []
   |some m=>.sl k n 0 m) v'/\cm X φ' w' (Ha.set n (some (aC (ys++rest))))/\ft φ w φ' w'):=by
 unfold WR at hg;split at hg
 case h_2=>cases hg
 split at hg
 case isFalse=>cases hg
 rename_i RM;cases Vg:mP xs with
 |none=>rw[Vg] at hg; cases hg
 |some zs=>
 rw[Vg] at hg;simp only[af,Prod.mk.injEq] at hg;obtain⟨rfl,rfl⟩:=hg;have hx:=Bl Vg;subst hx;refine⟨⟨⟨by simp[l9],fun y hy=>(xw hy).1⟩,fun y hy=>(xw hy).2,fun m hm=>by cases hm⟩,fun hnil X φ w vargs v0 y hy hs h0 hr _=>?_,fun X φ w Ha n rest vargs v0 hh hb hs h0 hr _=>?_⟩
 ·obtain⟨p,cap,rfl⟩:=F5 hy hr;obtain rfl:=abf hs h0;refine (Any.slices_Sort_int_none Ly p cap w).mono ?_;rintro e w' ⟨rfl,rfl⟩;exact⟨_,rfl,.dR _ _ _ rfl (fun i c v hc=>by simp at hc),.refl _ _⟩
 ·have ha:=V9 (by simpa using hs.symm) h0 hr;by_cases hz:zs=[]
  ·subst hz
   have e:Ha.set n (some (aC ((jz []).map (AV.int .i64)++rest)))=Ha:=by
    apply List.ext_getElem?;intro j;rw[List.getElem?_set];split
    ·rename_i e; subst e;rw[if_pos (dU hb),blk_iff.1 hb]; rfl
    ·rfl
   rw[e];exact SZ Ly (args:=[.sl 1 n 0 0]) (H:=Ha) (r:=.dR []) (H':=Ha) rfl ha hh
  ·have Gr:zs.length≠0:=fun h=>hz (List.eq_nil_of_length_eq_zero h);have Qi:aC (zs.map (AV.int .i64)++rest)=zs.map (AV.int .i64)++aC rest:=by rw[iq,Bu]
   have e:ab5 [.sl 1 n 0 zs.length] Ha=some (.dR [],Ha.set n (some (aC ((jz zs).map (AV.int .i64)++rest)))):=by
    unfold ab5;simp only[if_neg Gr,hb,Qi];rw[if_pos ⟨by simp,by simpa using RM⟩];have ht:((zs.map (AV.int .i64)++aC rest).drop 0).take zs.length=zs.map (AV.int .i64):=by simp
    rw[ht,vm];simp only;rw[iq,Bu,age];unfold kj;simp[B0]
   have hl:(zs.map (AV.int .i64)).length=zs.length:=by simp
   rw[hl] at ha;exact SZ Ly e ha hh
end Go.Bm
