/- The library's sort of ints as an oracle of the abstract machine. -/
import Derived.Test.YtpimmjklbakckaaDoorGrfP
import Derived.Shelf.Sort.Plain
import Derived.Shelf.Slices.In.SortNone
import Derived.Shelf.Slices.CompactI
import Derived.Shelf.Lay
open Array renaming ext_getElem? → S7
open Go.Shelf renaming Ren → u6
open List renaming getElem?_append → OU, getElem?_drop → aO, getElem?_map → cF, getElem?_take → bC, replicate → aV
open Nat renaming le_refl → aG
open Option renaming map_some → bV
open Option.some renaming injEq → af
namespace Go.Am
open Go.Sort Go.Shelf Go.Proofs
def sorted (zs:List Int):List Int:=zs.mergeSort fun x y=>decide (x<=y)
def RP:List AV->Heap->Option (AV × Heap)
 |[.di],H=>some (.dA [],H)
 |[.list 1 []],H=>some (.dA [],H)
 |[.sl 1 b off len],H=>if len=0 then some (.dA [],H) else match aN H b with
   |some cs=>if off+len<=cs.length/\len<=p7 then match j7 ((cs.drop off).take len) with
     |some zs=>some (.dA [],H.set b (some (iX cs off ((sorted zs).map (AV.int .i64)))))
     |none=>none
     else none
   |none=>none
 |_,_=>none
theorem rX {α:Type} [Inhabited α] (enc:α->Value) (w:World) (g off:Nat) (d:Array α) {arr:Array Value} {e:TypeId} {fr:Nat × Nat} (hg:w.heap[g]?=some (.cells arr e fr)):putRow enc w g off d=w.setRow g (putCells enc off d arr):=by
 unfold putRow mapBlock World.setRow;congr 1;apply S7;intro k;simp only[Array.getElem?_modify];by_cases hk:g=k
 ·subst hk;simp[hg,onCells]
 ·simp[hk]
theorem xJ (zs:List Int):(sorted zs).length=zs.length:=List.length_mergeSort _
theorem QW {X:Nat->Prop} {φ:cX} {w:World} {H:Heap} {b off len:Nat} {v:Value} {cs:List AV} {zs:List Int} (hh:bO X φ w H) (hv:bD (Rd X φ w) φ (.sl 1 b off len) v) (h0:len≠0) (dB:aN H b=some cs) (hlen:off+len<=cs.length)
  (Lr:j7 ((cs.drop off).take len)=some zs) :
  ∃ g cap,v=.slice (some ⟨g,off,none⟩) len cap/\len<=cap/\zs.length=len/\Holds (Value.int .i64) w g off zs.toArray/\g<w.heap.size /\
   (∀(R:Addr->Value->Prop) (m:Nat),m<=cap->bD R φ (.sl 1 b off m) (.slice (some ⟨g,off,none⟩) m cap)) /\
   ∀ (ds:List Int),ds.length=len->∀(n:Nat) (os:Array Obj),bO X φ (grow (putRow (Value.int .i64) (Sort.ahead w n) g off ds.toArray) os) (H.set b (some (iX cs off (ds.map (AV.int .i64)))))/\eT φ w φ (grow (putRow (Value.int .i64) (Sort.ahead w n) g off ds.toArray) os):=by
 cases hv with
 |sl _ _ _ _ _ a cap hb hc h=>
 obtain⟨g,sz,arr,e,h1,h2,h3,h4,h5,h6⟩:=hh.cat dB (fun g sz q=>by have:=(h g sz q).2; omega);obtain⟨Uw,iO⟩:=h g sz h1;obtain rfl:=Uw (by omega);have hz:=wX Lr
 have A9:zs.length=len:=by
  have:=congrArg List.length hz;simp at this;omega
 have u4:∀j,j<zs.length->cs[off+j]?=some (.int .i64 (zs[j]!)):=by
  intro j hj;have:=congrArg (fun l=>l[j]?) hz;simp only[bC,aO,cF] at this;rw[if_pos (by omega)] at this;rw[this];simp[hj]
 have hH:Holds (Value.int .i64) w g off zs.toArray:=by
  intro j hj;have Ut:j<zs.length:=by simpa using hj
  obtain⟨u,hu,ru⟩:=h6 _ _ (u4 j Ut);cases ru;refine⟨?_,?_⟩
  ·simp[World.cell?,h2,hu]
  ·simp[World.frozen?,h2]
 have bY:g<w.heap.size:=(Array.getElem?_eq_some_iff.1 h2).1;refine⟨g,cap,rfl,hc,A9,hH,bY,fun R m hm=>.sl _ _ _ _ _ _ _ hb hm h,fun ds nP n os=>?_⟩;have hg1:(Sort.ahead w n).heap[g]?=some (.cells arr e (0,0)):=h2;rw[rX (hg:=hg1)];have a1:eT [] w [] (Sort.ahead w n):=⟨rfl,rfl,rfl,Nat.le_add_right _ _,aG _,fun _ _ h=>⟨rfl,h⟩,.refl _⟩;have hh1:=hh.of_same a1;have mX:(putCells (Value.int .i64) off ds.toArray arr).size=arr.size:=by simp[putCells]
 have hol:(iX cs off (ds.map (AV.int .i64))).length=cs.length:=by simp[iX]; omega
 obtain⟨W3,a2⟩:=bO.store (cs':=iX cs off (ds.map (AV.int .i64))) (w':=(Sort.ahead w n).setRow g (putCells (Value.int .i64) off ds.toArray arr)) hh1 h1 hg1 h3 mX rfl h5 (by omega) (fun i c hi=>by
  have yJ:(putCells (Value.int .i64) off ds.toArray arr)[i]?=(arr[i]?).map fun x=>if off<=i/\i<off+ds.length then Value.int .i64 (ds.toArray[i-off]!) else x:=by
   simp[putCells]
  rw[yJ];simp only[iX,List.append_assoc] at hi;rw[OU] at hi;by_cases hi1:i<off
  ·rw[if_pos (by simp; omega),bC,if_pos hi1] at hi;obtain⟨u,hu,ru⟩:=h6 i c hi;exact⟨u,by simp[hu]; omega,(eT.of_same a1).rep ru⟩
  ·rw[if_neg (by simp; omega),OU] at hi;have hto:(cs.take off).length=off:=by simp; omega
   rw[hto] at hi;by_cases ZY:i-off<ds.length
   ·rw[if_pos (by simpa using ZY),cF] at hi;obtain⟨u,hu,ru⟩:=h6 i _ (by rw[show i=off+(i-off) by omega]; exact u4 (i-off) (by omega));refine⟨_,by rw[hu,bV,if_pos (by omega)],?_⟩;have:ds[i-off]?=some (ds.toArray[i-off]!):=by simp[ZY]
    rw[this] at hi;simp only[bV,af] at hi;subst hi;exact .int _ _ _
   ·rw[if_neg (by simpa using ZY),aO] at hi;simp only[List.length_map] at hi;rw[show off+ds.length+(i-off-ds.length)=i by omega] at hi;obtain⟨u,hu,ru⟩:=h6 i c hi;exact⟨u,by simp[hu]; omega,(eT.of_same a1).rep ru⟩)
 have a3:eT [] ((Sort.ahead w n).setRow g (putCells (Value.int .i64) off ds.toArray arr)) [] (grow ((Sort.ahead w n).setRow g (putCells (Value.int .i64) off ds.toArray arr)) os):=
  ⟨rfl,rfl,rfl,aG _,by simp,fun k hk h=>⟨heap_grow_old _ _ hk,h⟩,.refl _⟩
 exact⟨W3.of_same a3,((eT.of_same a1).trans a2).trans (eT.of_same a3)⟩
theorem si.one {X:Nat->Prop} {φ:cX} {w:World} {x:AV} {vargs:Array Value} (ha:si X φ w [x] vargs):∃v,vargs=#[v]/\bD (Rd X φ w) φ x v:=by
 obtain⟨h1,h2⟩:=ha;have mO:vargs.size=1:=by simpa using h1.symm
 obtain⟨v,rfl⟩:∃v,vargs=#[v]:=⟨vargs[0],by apply Array.ext<;>simp[mO]; intro i hi; simp[show i=0 by omega]⟩;exact⟨v,rfl,h2 0 x v rfl rfl⟩
theorem JM {P:Program} {ρ:Ren} (Ly:Lays.n189 P ρ) {args:List AV} {H:Heap} {r:AV} {H':Heap} (hs:RP args H=some (r,H')) {X:Nat->Prop} {φ:cX} {w:World} {vargs:Array Value} (ha:si X φ w args vargs) (hh:bO X φ w H) :
  Calls P (ρ.f 189) vargs w (Ret X φ w r H'):=by
 have zH:∀(p:Option Addr) (cap:Nat),vargs=#[.slice p 0 cap]->r=.dA []->H'=H->Calls P (ρ.f 189) vargs w (Ret X φ w r H'):=by
  intro p cap hv hr hH;subst hv hr hH;refine (Any.slices_Sort_int_none Ly p cap w).mono ?_;rintro e w' ⟨rfl,rfl⟩;exact⟨_,φ,rfl,.dA _ _ _ rfl (fun i c v hc=>by simp at hc),hh,.refl _ _⟩
 unfold RP at hs;split at hs
 ·obtain⟨v,rfl,hv⟩:=ha.one;cases hv;simp at hs;exact zH _ _ rfl hs.1.symm hs.2.symm
 ·obtain⟨v,rfl,hv⟩:=ha.one;simp at hs;cases hv with
  |uU _ _ _ a n cap u hn iO hk hu h=>
    simp at hn;subst hn;exact zH _ _ rfl hs.1.symm hs.2.symm
  |j5=>exact zH _ _ rfl hs.1.symm hs.2.symm
 ·obtain⟨v,rfl,hv⟩:=ha.one;split at hs
  ·rename_i h0;subst h0;simp at hs;cases hv;exact zH _ _ rfl hs.1.symm hs.2.symm
  ·rename_i h0;split at hs
   ·rename_i cs dB;split at hs
    ·rename_i hlen;split at hs
     ·rename_i zs Lr;simp at hs;obtain⟨rfl,rfl⟩:=hs;obtain⟨g,cap,rfl,hc,A9,hH,bY,_,yJ⟩:=QW hh hv h0 dB hlen.1 Lr;have dI:=Any.slices_Sort_int Ly g _ cap zs w hH bY (by have:=hlen.2; unfold p7 at this; omega);rw[A9] at dI;refine dI.mono ?_;rintro ee w' ⟨rfl,n,os,rfl⟩;obtain⟨h1,h2⟩:=yJ (sorted zs) (by rw[xJ,A9]) n os;exact⟨_,φ,rfl,.dA _ _ _ rfl (fun i c v hc=>by simp at hc),h1,h2⟩
     ·cases hs
    ·cases hs
   ·cases hs
 ·cases hs
def cpt (zs:List Int):List Int:=Lib.compact zs
def zY:List AV->Heap->Option (AV × Heap)
 |[.di],H=>some (.di,H)
 |[.list 1 []],H=>some (.list 1 [],H)
 |[.sl 1 b off len],H=>if len=0 then some (.sl 1 b off 0,H) else match aN H b with
   |some cs=>if off+len<=cs.length/\len<=p7 then match j7 ((cs.drop off).take len) with
     |some zs=>if (cpt zs).length<=len then some (.sl 1 b off (cpt zs).length,H.set b (some (iX cs off ((cpt zs++aV (len-(cpt zs).length) 0).map (AV.int .i64))))) else none
     |none=>none
     else none
   |none=>none
 |_,_=>none
theorem B6 {P:Program} {ρ:Ren} (Ly:Lays2.n20 P ρ) {args:List AV} {H:Heap} {r:AV} {H':Heap} (hs:zY args H=some (r,H')) {X:Nat->Prop} {φ:cX} {w:World} {vargs:Array Value} (ha:si X φ w args vargs) (hh:bO X φ w H) :
  Calls P (ρ.f 20) vargs w (Ret X φ w r H'):=by
 have zH:∀(p:Option Addr) (cap:Nat),vargs=#[.slice p 0 cap]->bD (Rd X φ w) φ r (.slice p 0 cap)->H'=H->Calls P (ρ.f 20) vargs w (Ret X φ w r H'):=by
  intro p cap hv hr hH;subst hv hH;refine (Any.slices_Compact_int_empty Ly p cap w).mono ?_;rintro e w' ⟨rfl,rfl⟩;exact⟨_,φ,rfl,hr,hh,.refl _ _⟩
 unfold zY at hs;split at hs
 ·obtain⟨v,rfl,hv⟩:=ha.one;simp at hs;obtain⟨rfl,rfl⟩:=hs;cases hv;exact zH _ _ rfl (.di _) rfl
 ·obtain⟨v,rfl,hv⟩:=ha.one;simp at hs;obtain⟨rfl,rfl⟩:=hs;have hv':=hv;cases hv with
  |uU _ _ _ a n cap u hn iO hk hu h=>
    simp at hn;subst hn;exact zH _ _ rfl hv' rfl
  |j5=>exact zH _ _ rfl hv' rfl
 ·rename_i H0 b off len;obtain⟨v,rfl,hv⟩:=ha.one;split at hs
  ·rename_i h0;subst h0;simp at hs;obtain⟨rfl,rfl⟩:=hs;have hv':=hv;cases hv;exact zH _ _ rfl hv' rfl
  ·rename_i h0;split at hs
   ·rename_i cs dB;split at hs
    ·rename_i hlen;split at hs
     ·rename_i zs Lr;split at hs
      ·rename_i hdl;simp at hs;obtain⟨rfl,rfl⟩:=hs;obtain⟨g,cap,rfl,hc,A9,hH,bY,EA,yJ⟩:=QW hh hv h0 dB hlen.1 Lr;have dI:=Any.slices_Compact_int Ly g _ cap zs w hH (by have:=hlen.2; unfold p7 at this; omega) (by omega);rw[A9] at dI;refine dI.mono ?_;rintro ee w' ⟨rfl,n,rfl⟩;obtain⟨h1,h2⟩:=yJ (cpt zs++aV (len-(cpt zs).length) 0) (by simp; omega) n #[];rw[grow_empty] at h1 h2;simp only[List.map_append,List.map_replicate] at h1;exact⟨_,φ,rfl,EA _ _ (by omega),h1,h2⟩
      ·cases hs
     ·cases hs
    ·cases hs
   ·cases hs
 ·cases hs
end Go.Am
namespace Go.Bm
open Go.Am Go.Sort Go.Shelf Go.Proofs
theorem WC (l:List Int):iM l=sorted l:=by
 refine Ca ((tI l).trans (List.mergeSort_perm l _).symm) (A2 l) ?_;have:=List.pairwise_mergeSort (le:=fun x y:Int=>decide (x<=y)) (fun a b c h1 h2=>by simp at h1 h2 ⊢; omega) (fun a b=>by simp; omega) l;exact this.imp fun h=>by simpa using h
theorem xd (zs:List Int):az (zs.map (AV.int .i64))=zs.map (AV.int .i64):=by
 induction zs with
 |nil=>rfl
 |cons x r ih=>simp[az,AV.cells,ih]
theorem tJ {zs:List Int} {x:AV} (h:x∈zs.map (AV.int .i64)):x.cells.length=1/\∀ d∈x.cells,fz d=true:=by
 obtain⟨z,_,rfl⟩:=List.mem_map.1 h;exact⟨rfl,fun d hd=>by simp[AV.cells] at hd; subst hd; rfl⟩
theorem Mp {X:Nat->Prop} {φ:cX} {w:World} {x:AV} {vargs:Array Value} {v0:Value} (hs:vargs.size=1) (h0:vargs[0]?=some v0) (hr:bD (Rd X φ w) φ x v0):si X φ w [x] vargs:=by
 refine⟨by simp[hs],fun i y u hy hu=>?_⟩;cases i with
 |zero=>simp at hy; subst hy; rw[h0] at hu; cases hu; exact hr
 |succ i=>simp at hy
theorem AL {R:Addr->Value->Prop} {φ:cX} {k:Nat} {y:AV} {v0:Value} (hy:y=.di\/y=.list k []) (hr:bD R φ y v0):∃p cap,v0=.slice p 0 cap:=by
 rcases hy with rfl|rfl
 ·cases hr; exact⟨_,_,rfl⟩
 ·cases hr with
  |uU _ _ _ a n cap u hn iO hk hu h=>simp at hn; subst hn; exact⟨_,_,rfl⟩
  |j5=>exact⟨_,_,rfl⟩
theorem Q2 {vargs:Array Value} {v0:Value} (hs:([]:List AV).length+1=vargs.size) (h0:vargs[0]?=some v0):vargs=#[v0]:=by
 apply S7;intro i;cases i with
 |zero=>simpa using h0
 |succ i=>simp at hs ⊢; omega
theorem UN {P:Program} {ρ:u6} (Ly:Lays.n189 P ρ) {k:Nat} {xs es ys:List AV} {res:Option Nat} (hg:M6 k xs es=some (ys,res)) :
  ((ys.length=xs.length/\(∀y∈ys,y.cells.length=k))/\((∀y∈ys,∀d∈y.cells,fz d=true)/\∀ m,res=some m->m<=xs.length)) /\
 (xs=[]->∀(X:Nat->Prop) (φ:cX) (w:World) (vargs:Array Value) v0 y,(y=.di\/y=.list k [])->es.length+1=vargs.size->vargs[0]?=some v0->bD (Rd X φ w) φ y v0->(∀(i:Nat) (e:AV) (v:Value),es[i]?=some e->vargs[i+1]?=some v->bD (Rd X φ w) [] e v) ->
  Calls P (ρ.f 189) vargs w (fun e w'=>∃v',e=.returned v'/\bD (Rd X φ w') φ (match (generalizing:=false) res with
   |none=>.dA []
   |some _=>y) v'/\eT [] w [] w')) /\
 ∀ (X:Nat->Prop) (φ:cX) (w:World) Ha n rest (vargs:Array Value) v0,bO X φ w Ha->aN Ha n=some (az (xs++rest))->es.length+1=vargs.size->vargs[0]?=some v0->bD (Rd X φ w) φ (.sl k n 0 xs.length) v0->(∀(i:Nat) (e:AV) (v:Value),es[i]?=some e->vargs[i+1]?=some v->bD (Rd X φ w) [] e v) ->
  Calls P (ρ.f 189) vargs w (fun e w'=>∃v' φ',e=.returned v'/\bD (Rd X φ' w') φ' (match (generalizing:=false) res with
   |none=>.dA []
   |some m=>.sl k n 0 m) v'/\bO X φ' w' (Ha.set n (some (az (ys++rest))))/\eT φ w φ' w'):=by
 unfold M6 at hg;split at hg
 case h_2=>cases hg
 split at hg
 case isFalse=>cases hg
 rename_i IH;cases Lr:j7 xs with
 |none=>rw[Lr] at hg; cases hg
 |some zs=>
 rw[Lr] at hg;simp only[af,Prod.mk.injEq] at hg;obtain⟨rfl,rfl⟩:=hg;have hx:=wX Lr;subst hx;refine⟨⟨⟨by simp[jR],fun y hy=>(tJ hy).1⟩,fun y hy=>(tJ hy).2,fun m hm=>by cases hm⟩,fun ZS X φ w vargs v0 y hy hs h0 hr _=>?_,fun X φ w Ha n rest vargs v0 hh hb hs h0 hr _=>?_⟩
 ·obtain⟨p,cap,rfl⟩:=AL hy hr;obtain rfl:=Q2 hs h0;refine (Any.slices_Sort_int_none Ly p cap w).mono ?_;rintro e w' ⟨rfl,rfl⟩;exact⟨_,rfl,.dA _ _ _ rfl (fun i c v hc=>by simp at hc),.refl _ _⟩
 ·have ha:=Mp (by simpa using hs.symm) h0 hr;by_cases hz:zs=[]
  ·subst hz
   have e:Ha.set n (some (az ((iM []).map (AV.int .i64)++rest)))=Ha:=by
    apply List.ext_getElem?;intro j;rw[List.getElem?_set];split
    ·rename_i e; subst e;rw[if_pos (dp hb),blk_iff.1 hb]; rfl
    ·rfl
   rw[e];exact JM Ly (args:=[.sl 1 n 0 0]) (H:=Ha) (r:=.dA []) (H':=Ha) rfl ha hh
  ·have A9:zs.length≠0:=fun h=>hz (List.eq_nil_of_length_eq_zero h);have Uu:az (zs.map (AV.int .i64)++rest)=zs.map (AV.int .i64)++az rest:=by rw[fX,xd]
   have e:RP [.sl 1 n 0 zs.length] Ha=some (.dA [],Ha.set n (some (az ((iM zs).map (AV.int .i64)++rest)))):=by
    unfold RP;simp only[if_neg A9,hb,Uu];rw[if_pos ⟨by simp,by simpa using IH⟩];have ht:((zs.map (AV.int .i64)++az rest).drop 0).take zs.length=zs.map (AV.int .i64):=by simp
    rw[ht,rK];simp only;rw[fX,xd,WC];unfold iX;simp[xJ]
   have hl:(zs.map (AV.int .i64)).length=zs.length:=by simp
   rw[hl] at ha;exact JM Ly e ha hh
end Go.Bm
