/- The library's sort by hierarchy's comparison, at parts, writes into the slice that it is given. -/
import Derived.Test.YtbnheahpdodmjabGreatDoorSrtO
import Derived.Test.YtbnheahpdodmjabGreatDoorPsG
import Derived.Shelf.SlSortCmp.NoneTotal
set_option linter.unusedSimpArgs false
set_option linter.unusedVariables false
open Array renaming eq_empty_of_size_eq_zero → Im
open Classical renaming byContradiction → qP
open Go.Shelf renaming Ren → zh
open List renaming cons_append → NI, getElem?_eq_getElem → aj, getElem_mem → mV, length_append → bO, map_cons → eQ
open Nat renaming le_refl → aJ, mod_lt → I6
open Option renaming map_some → cG
open Option.some renaming inj → bj, injEq → af
namespace Go.Bm
open Go.Am Go.Sort Go.Shelf Go.Proofs Go.RowKit Go.Lib
def qi (z:Pt) (j:Nat):AV:=if j=0 then .int .i64 z.1 else if j=1 then .int .i64 z.2.1 else .list 1 (ints z.2.2)
theorem F1 (z:Pt) (j:Nat):pl (qi z j)=true/\(qi z j).leaf=true/\fz (qi z j)=true:=by
 unfold qi;split
 ·exact⟨rfl,rfl,rfl⟩
 ·split<;>exact⟨rfl,rfl,rfl⟩
theorem A9 (z:Pt):(bw z).cells=[qi z 0,qi z 1,qi z 2]:=rfl
theorem Q9:∀(zs:List Pt) (rest:List AV) (i j:Nat) (h:i<zs.length),j<3->(aC (zs.map bw++rest))[i*3+j]?=some (qi zs[i] j)
 |[],_,i,j,h,_=>by simp at h
 |z::r,rest,0,j,h,hj=>by
   simp only[eQ,NI,aC,A9]
   match j with
   |0=>rfl
   |1=>rfl
   |2=>rfl
   |j+3=>omega
 |z::r,rest,i+1,j,h,hj=>by
   have ih:=Q9 r rest i j (by simpa using h) hj;simp only[eQ,NI,aC,A9];rw[show (i+1)*3+j=i*3+j+3 by omega];simpa using ih
theorem Q8 (zs:List Pt):(aC (zs.map bw)).length=zs.length*3:=by
 induction zs with
 |nil=>rfl
 |cons z r ih=>simp only[eQ,aC,bO,ih,A9,List.length_cons,List.length_nil]; omega
theorem aaX (zs:List Pt) (rest:List AV) (i:Nat):(aC (zs.map bw++rest))[zs.length*3+i]?=(aC rest)[i]?:=by
 rw[iq,List.getElem?_append_right (by rw[Q8]; omega),Q8,show zs.length*3+i-zs.length*3=i by omega]
theorem aiE {x y z:Pt} (h1:x.1=y.1) (h2:x.2.2=y.2.2):wQ x z=wQ y z:=by unfold wQ YC; rw[h1,h2]
theorem XL {x y z:Pt} (h1:wQ x y=false) (h2:wQ y z=false):wQ x z=false:=by
 cases h:wQ x z with
 |false=>rfl
 |true=>
   rcases IX x y with k|⟨k1,k2⟩|k
   ·rw[h1] at k; cases k
   ·rw[aiE k1 k2,h2] at h; cases h
   ·have:=tC k h; rw[h2] at this; cases this
def YV (P:Program) (nC:Nat):Prop:=∀(x y:Pt) (vx vy:Value) (W:World),x.2.2.length<=1000->y.2.2.length<=1000->bR (Rd (fun _=>False) [] W) [] (bw x) vx->bR (Rd (fun _=>False) [] W) [] (bw y) vy->Calls P nC #[vx,vy] W fun e w'=>e=.returned (.int .i64 (YC x y))/\∃ q os',w'=grow (W.drewN q) os'
theorem Om {m:Nat} {vargs:Array Value} {v0:Value} {R:Addr->Value->Prop} (hs:([.func (.func m) [] []]:List AV).length+1=vargs.size) (h0:vargs[0]?=some v0) (hr:∀(i:Nat) (e:AV) (v:Value),([.func (.func m) [] []]:List AV)[i]?=some e->vargs[i+1]?=some v->bR R [] e v):vargs=#[v0,.func (.func m) #[] #[]]:=by
 have pH:vargs.size=2:=by simpa using hs.symm
 obtain⟨v1,h1⟩:∃v,vargs[1]?=some v:=⟨vargs[1],by simp[pH]⟩;have r1:=hr 0 _ v1 rfl h1
 have e1:v1=.func (.func m) #[] #[]:=by
  rcases r1.As with⟨_,va,vb,rfl,Dz,Dy,_,_⟩|⟨_,_,e,_⟩
  ·obtain rfl:va=#[]:=Im (by simpa using Dz.symm);obtain rfl:vb=#[]:=Im (by simpa using Dy.symm);rfl
  ·cases e
 subst e1;apply Array.ext_getElem?;intro i
 match i with
 |0=>simpa using h0
 |1=>simpa using h1
 |i+2=>rw[Array.getElem?_eq_none (by omega)]; simp
theorem Pg {zs:List Pt} {x:AV} (h:x∈zs.map bw):x.cells.length=3/\∀ d∈x.cells,fz d=true:=by
 obtain⟨z,_,rfl⟩:=List.mem_map.1 h;refine⟨rfl,fun d hd=>?_⟩;rw[A9] at hd;simp only[List.mem_cons,List.not_mem_nil,or_false] at hd;rcases hd with rfl|rfl|rfl<;>exact (F1 _ _).2.2
theorem ah3 {P:Program} {ρ:zh} (L:SlLaysF0.n6 P ρ) (aE:∀w,(isAgg (ρ.t 24)).run P w=.ok true w) (zE:∀w,(Go.sizeOf (ρ.t 24)).run P w=.ok 3 w) {m:Nat} (eg:∀args w,(callFunc m args).run P w=.ok (.enter m args) w) (hC:YV P m) {zs:List Pt} (hd:U0 zs=true) (hB:∀z∈zs,z.2.2.length<=1000) (hz:zs.length≠0) (RM:zs.length<=ks)
  {X:Nat->Prop} {φ:dx} {w:World} {Ha:Heap} {n:Nat} {rest:List AV} {v0:Value} (hh:cm X φ w Ha) (hb:aH Ha n=some (aC (zs.map bw++rest))) (hr:bR (Rd X φ w) φ (.sl 3 n 0 zs.length) v0) :
  Calls P (ρ.f 6) #[v0,.func (.func m) #[] #[]] w (fun e w'=>e=.returned (.tuple #[])/\cm X φ w' (Ha.set n (some (aC ((oC zs).map bw++rest))))/\ft φ w φ w'):=by
 obtain⟨g,sz,arr,te,h1,h2,h3,h4,h5,h6⟩:=hh.cat hb (fun g sz q=>hr.zq q);cases hr with
 |sl _ _ _ _ _ a cap hbn iN h=>
 obtain⟨ka,kb⟩:=h g sz h1;obtain rfl:=ka (by omega);have bE:g<w.heap.size:=(Array.getElem?_eq_some_iff.1 h2).1;have qF:Nonempty (Fin zs.length):=⟨⟨0,by omega⟩⟩
 haveI:Inhabited (Fin zs.length):=⟨⟨0,by omega⟩⟩
 have val:∀(i j:Nat) (hi:i<zs.length),j<3->∃u,arr[i*3+j]?=some u/\bR (Rd X φ w) φ (qi zs[i] j) u:=fun i j hi hj=>h6 _ _ (Q9 zs rest i j hi hj);obtain⟨enc,henc⟩:∃enc:Fin zs.length->List Value,∀i,enc i=[(arr[i.1*3+0]?).getD undef,(arr[i.1*3+1]?).getD undef,(arr[i.1*3+2]?).getD undef]:=⟨_,fun _=>rfl⟩;have encl:∀i,(enc i).length=3:=fun i=>by rw[henc]; rfl
 have encj:∀(i:Fin zs.length) (j:Nat),j<3->(enc i)[j]?=arr[i.1*3+j]?:=fun i j hj=>by
  rw[henc];obtain⟨u,hu,_⟩:=val i.1 j i.2 hj
  match j with
  |0=>rw[hu]; simp[hu]
  |1=>rw[hu]; simp[hu]
  |2=>rw[hu]; simp[hu]
  |j+3=>omega
 have encb:∀(i:Fin zs.length) (j:Nat),j<3->some ((enc i)[j]!)=arr[i.1*3+j]?:=fun i j hj=>by
  rw[<-encj i j hj,List.getElem!_eq_getElem?_getD,aj (by rw[encl]; exact hj)]; rfl
 have one:∀i,∀v∈enc i,v.oneCell'=true:=fun i v hv=>by
  obtain⟨j,hj⟩:=List.getElem?_of_mem hv;have hj3:j<3:=by have:=az hj; rw[encl] at this; exact this
  rw[encj i j hj3] at hj;obtain⟨u,hu,r⟩:=val i.1 j i.2 hj3;rw[hu] at hj;cases hj;exact r.vd (F1 _ _).2.1
 let cf:Fin zs.length->Fin zs.length->Int:=fun i j=>YC zs[i] zs[j]
 have X3:∀i j:Fin zs.length,ltOf cf i j=wQ zs[i] zs[j]:=fun i j=>rfl;have swo:SWO (ltOf cf):=⟨fun x=>by rw[X3]; exact abA _,fun x y z p q=>by rw[X3] at *; exact tC p q,fun x y z p q=>by rw[X3] at *; exact XL p q⟩
 have tot:∀x y,(ltOf cf) x y=false->(ltOf cf) y x=false->x=y:=fun x y p q=>by
  rw[X3] at p q;rcases IX zs[x] zs[y] with k|k|k
  ·rw[p] at k; cases k
  ·apply qP;intro hxy;have hpw:=List.pairwise_iff_getElem.1 (wB.1 hd);have hne2:x.1≠y.1:=fun e=>hxy (Fin.ext e);rcases Nat.lt_or_gt_of_ne hne2 with hl|hl
   ·exact hpw x.1 y.1 x.2 y.2 hl k
   ·exact hpw y.1 x.1 y.2 x.2 hl ⟨k.1.symm,k.2.symm⟩
  ·rw[q] at k; cases k
 let d:Array (Fin zs.length):=(List.finRange zs.length).toArray
 have ds:d.size=zs.length:=by simp[d]
 have dget:∀i (hi:i<zs.length),d[i]! = ⟨i,hi⟩:=fun i hi=>by
  rw[getElem!_pos d i (by rw[ds]; exact hi)]; simp[d]
 have VH:∀(D:Array (Fin zs.length)) (t:Nat),t<D.size*3->some ((flatK enc 3 D)[t]!)=arr[(D[t / 3]!).1*3+t%3]?:=fun D t ht=>by
  rw[get_flatK enc 3 D t ht];exact encb _ _ (I6 _ (by omega))
 have hH:HoldsK enc 3 w g 0 d:=by
  intro j hj;rw[size_flatK,ds] at hj
  have e1:some ((flatK enc 3 d)[j]!)=arr[j]?:=by
   rw[VH d j (by rw[ds]; exact hj),dget _ (by omega)];simp only;rw[show j / 3*3+j%3=j by omega]
  refine⟨?_,by simp[World.frozen?,h2]⟩;simp only[World.cell?,h2,Nat.zero_add,id];rw[e1];simp
 -- a world of the sort: other blocks are as they were
 have other:∀(q:Nat) (D:Array (Fin zs.length)) (os:Array Obj) (b:Nat),b≠g->b<w.heap.size->(sortWorldK enc 3 w g 0 q D os).heap[b]?=w.heap[b]?:=by
  intro q D os b hbg QB;unfold sortWorldK;have hg1:(Sort.ahead w q).heap[g]?=some (.cells arr te (0,0)):=h2;unfold putRowK;rw[vC (hg:=hg1),heap_grow_old _ _ (by simpa using QB),setRow_other _ _ _ _ hbg];rfl
 have cmpl:CmpLays P m #[] enc 3 cf g 0 d.size w:=by
  intro q os D hs x y
  have rp:∀i:Fin zs.length,bR (Rd (fun _=>False) [] (sortWorldK enc 3 w g 0 q D os)) [] (bw zs[i]) (.agg (enc i).toArray):=fun i=>by
   refine .agg _ _ _ (by simp[encl]) fun j c v hc hv=>?_;have hj3:j<3:=by have:=az hc; exact this
   have I1:c=qi zs[i] j:=by
    have hc':[qi zs[i] 0,qi zs[i] 1,qi zs[i] 2][j]?=some c:=hc
    match j,hj3,hc' with
    |0,_,h=>exact (bj h).symm
    |1,_,h=>exact (bj h).symm
    |2,_,h=>exact (bj h).symm
    |j+3,h,_=>omega
   subst I1;have hv2:(enc i)[j]?=some v:=by simpa using hv
   rw[encj i j hj3] at hv2;obtain⟨u,hu,r⟩:=val i.1 j i.2 hj3;rw[hu] at hv2;cases hv2;refine (r.dL (gb _ (F1 _ _).1) []).mono (fun a u ha=>?_) (.refl _);obtain⟨a1,a2,a3⟩:=ha;refine⟨fun h=>h,bU.nil _,?_⟩;have Ff:a.block≠g:=fun e=>a2 ⟨n,sz,by rw[e]; exact h1⟩;rw[World.cell?_of_block (other q D os _ Ff (World.block_lt_of_cell? w a a3))];exact a3
  exact hC zs[x] zs[y] _ _ _ (hB _ (mV _)) (hB _ (mV _)) (rp x) (rp y)
 have eH:=AnyQ.slices_SortFunc_total L 3 aE zE enc encl one cf swo m #[] g 0 cap d w eg cmpl hH bE (by rw[ds]; unfold ks at RM; omega) tot;rw[ds] at eH;refine eH.mono ?_;rintro e w' ⟨rfl,q,os,rfl⟩;refine⟨rfl,?_⟩;generalize hD:(d.toList.mergeSort fun x y=>!(ltOf cf) y x)=D;have Dp:D.Perm (List.finRange zs.length):=by rw[<-hD]; exact (List.mergeSort_perm _ _).trans (by simp[d])
 have Dl:D.length=zs.length:=by rw[Dp.length_eq]; simp
 have Ds:(D.map fun i=>zs[i])=oC zs:=by
  refine M9 ?_ (xt hd) ?_
  ·rw[List.pairwise_map]
   have p1:D.Pairwise fun x y=>(!(ltOf cf) y x)=true:=by
    rw[<-hD]
    exact List.pairwise_mergeSort (le:=fun x y=>!(ltOf cf) y x) (fun a b c p q=>by
     simp only[Bool.not_eq_true'] at p q ⊢;exact swo.ntrans c b a q p) (fun a b=>by
     cases p:ltOf cf b a with
     |false=>simp
     |true=>cases q:ltOf cf a b with
       |false=>simp
       |true=>have:=swo.trans _ _ _ p q; rw[swo.irrefl] at this; cases this) _
   have p2:D.Pairwise fun x y=>x≠y:=(Dp.nodup_iff).2 (List.nodup_finRange _);refine (p1.and p2).imp fun{x y} hxy=>?_;obtain⟨k1,k2⟩:=hxy;cases k:ltOf cf x y with
   |true=>rw[X3] at k; exact k
   |false=>exact absurd (tot x y k (by simpa using k1)) k2
  ·refine (Dp.map _).trans ((List.Perm.of_eq ?_).trans (lK zs).symm);apply List.ext_getElem
   ·simp
   ·intro i i1 i2; simp
 have hg1:(Sort.ahead w q).heap[g]?=some (.cells arr te (0,0)):=h2;have a1:ft [] w [] (Sort.ahead w q):=⟨rfl,rfl,rfl,Nat.le_add_right _ _,aJ _,fun _ _ h=>⟨rfl,h⟩,.refl _⟩;have hh1:=hh.of_same a1;unfold sortWorldK putRowK;rw[vC (hg:=hg1)];have fs:(flatK enc 3 D.toArray).size=zs.length*3:=by rw[size_flatK]; simp[Dl]
 have oS:(putCells id 0 (flatK enc 3 D.toArray) arr).size=arr.size:=by simp[putCells]
 have hol:(aC ((oC zs).map bw++rest)).length=(aC (zs.map bw++rest)).length:=by
  rw[iq,iq,bO,bO,Q8,Q8,mZ]
 obtain⟨hh2,a2⟩:=cm.store (cs':=aC ((oC zs).map bw++rest)) (w':=(Sort.ahead w q).setRow g (putCells id 0 (flatK enc 3 D.toArray) arr)) hh1 h1 hg1 h3 oS rfl h5 (by omega) (fun i c hi=>by
  have xy:(putCells id 0 (flatK enc 3 D.toArray) arr)[i]?=(arr[i]?).map fun x=>if i<zs.length*3 then (flatK enc 3 D.toArray)[i]! else x:=by
   simp[putCells,fs]
  rw[xy];by_cases hi3:i<zs.length*3
  ·have hq:i / 3<zs.length:=by omega
   have hqD:i / 3<D.length:=by omega
   have hqI:i / 3<(oC zs).length:=by rw[mZ]; exact hq
   have c1:=Q9 (oC zs) rest (i / 3) (i%3) hqI (I6 _ (by omega));rw[show i / 3*3+i%3=i by omega,hi] at c1
   have c2:(oC zs)[i / 3]=zs[D[i / 3]]:=by
    have:=congrArg (fun l=>l[i / 3]?) Ds;simp only[List.getElem?_map,aj hqD,aj hqI,cG,af] at this;exact this.symm
   obtain⟨u,hu,ru⟩:=val (D[i / 3]).1 (i%3) (D[i / 3]).2 (I6 _ (by omega))
   have Mq:i<arr.size:=by
    have:=az hi;omega
   refine⟨u,?_,?_⟩
   ·rw[Array.getElem?_eq_getElem Mq,cG,if_pos hi3];have e1:=VH D.toArray i (by simp[Dl]; exact hi3);rw[e1];have e2:D.toArray[i / 3]! = D[i / 3]:=by rw[getElem!_pos D.toArray (i / 3) (by simpa using hqD)]; simp
    rw[e2]; exact hu
   ·simp only[af] at c1;rw[c1,c2];exact (ft.of_same a1).rep ru
  ·obtain⟨t,rfl⟩:∃t,i=zs.length*3+t:=⟨i-zs.length*3,by omega⟩;have e1:=aaX (oC zs) rest t;rw[mZ,hi,<-aaX zs rest t] at e1;obtain⟨u,hu,ru⟩:=h6 _ _ e1.symm;exact⟨u,by rw[hu,cG,if_neg hi3],(ft.of_same a1).rep ru⟩)
 have a3:ft [] ((Sort.ahead w q).setRow g (putCells id 0 (flatK enc 3 D.toArray) arr)) [] (grow ((Sort.ahead w q).setRow g (putCells id 0 (flatK enc 3 D.toArray) arr)) os):=
  ⟨rfl,rfl,rfl,aJ _,by simp,fun k hk h=>⟨heap_grow_old _ _ hk,h⟩,.refl _⟩
 exact⟨hh2.of_same a3,((ft.of_same a1).trans a2).trans (ft.of_same a3)⟩
theorem alF {P:Program} {ρ:zh} (L:SlLaysF0.n6 P ρ) (aE:∀w,(isAgg (ρ.t 24)).run P w=.ok true w) (zE:∀w,(Go.sizeOf (ρ.t 24)).run P w=.ok 3 w) {nC:Nat} (eg:∀args w,(callFunc nC args).run P w=.ok (.enter nC args) w) (hC:YV P nC) {k:Nat} {xs es ys:List AV} {res:Option Nat} (hg:psG nC k xs es=some (ys,res)) :
  ((ys.length=xs.length/\(∀y∈ys,y.cells.length=k))/\((∀y∈ys,∀d∈y.cells,fz d=true)/\∀ m,res=some m->m<=xs.length)) /\
 (xs=[]->∀(X:Nat->Prop) (φ:dx) (w:World) (vargs:Array Value) v0 y,(y=.dC\/y=.list k [])->es.length+1=vargs.size->vargs[0]?=some v0->bR (Rd X φ w) φ y v0->(∀(i:Nat) (e:AV) (v:Value),es[i]?=some e->vargs[i+1]?=some v->bR (Rd X φ w) [] e v) ->
  Calls P (ρ.f 6) vargs w (fun e w'=>∃v',e=.returned v'/\bR (Rd X φ w') φ (match (generalizing:=false) res with
   |none=>.dR []
   |some _=>y) v'/\ft [] w [] w')) /\
 ∀ (X:Nat->Prop) (φ:dx) (w:World) Ha n rest (vargs:Array Value) v0,cm X φ w Ha->aH Ha n=some (aC (xs++rest))->es.length+1=vargs.size->vargs[0]?=some v0->bR (Rd X φ w) φ (.sl k n 0 xs.length) v0->(∀(i:Nat) (e:AV) (v:Value),es[i]?=some e->vargs[i+1]?=some v->bR (Rd X φ w) [] e v) ->
  Calls P (ρ.f 6) vargs w (fun e w'=>∃v' φ',e=.returned v'/\bR (Rd X φ' w') φ' (match (generalizing:=false) res with
   |none=>.dR []
   |some m=>.sl k n 0 m) v'/\cm X φ' w' (Ha.set n (some (aC (ys++rest))))/\ft φ w φ' w'):=by
 unfold psG at hg;split at hg
 case h_2=>cases hg
 rename_i m;split at hg
 case isFalse=>cases hg
 rename_i agu;obtain⟨rfl,rfl,RM⟩:=agu;cases Vg:HS xs with
 |none=>rw[Vg] at hg; cases hg
 |some zs=>
 rw[Vg] at hg;simp only at hg;split at hg
 case isFalse=>cases hg
 rename_i hd;obtain⟨hd,hB⟩:=Bool.and_eq_true_iff.1 hd;have hB:∀z∈zs,z.2.2.length<=1000:=fun z hz=>of_decide_eq_true (List.all_eq_true.1 hB z hz);simp only[af,Prod.mk.injEq] at hg;obtain⟨rfl,rfl⟩:=hg;have hx:=TM Vg;subst hx;refine⟨⟨⟨by simp[mZ],fun y hy=>(Pg hy).1⟩,fun y hy=>(Pg hy).2,fun m hm=>by cases hm⟩,fun hnil X φ w vargs v0 y hy hs h0 hr he=>?_,fun X φ w Ha n rest vargs v0 hh hb hs h0 hr he=>?_⟩
 ·obtain⟨p,cap,rfl⟩:=F5 hy hr;obtain rfl:=Om hs h0 he;refine (AnyF.slices_SortFunc_none L p cap _ w).mono ?_;rintro e w' ⟨rfl,rfl⟩;exact⟨_,rfl,.dR _ _ _ rfl (fun i c v hc=>by simp at hc),.refl _ _⟩
 ·obtain rfl:=Om hs h0 he;by_cases hz:zs=[]
  ·subst hz
   have e:Ha.set n (some (aC ((oC []).map bw++rest)))=Ha:=by
    apply List.ext_getElem?;intro j;rw[List.getElem?_set];split
    ·rename_i e; subst e;rw[if_pos (dU hb),blk_iff.1 hb]; rfl
    ·rfl
   rw[e];cases hr with
   |sl _ _ _ _ _ a cap h1 hc h=>
   refine (AnyF.slices_SortFunc_none L (some a) cap _ w).mono ?_;rintro e w' ⟨rfl,rfl⟩;exact⟨_,φ,rfl,.dR _ _ _ rfl (fun i c v hc=>by simp at hc),hh,.refl _ _⟩
  ·have Gr:zs.length≠0:=fun h=>hz (List.eq_nil_of_length_eq_zero h);have hl:(zs.map bw).length=zs.length:=by simp
   rw[hl] at hr;refine (ah3 L aE zE eg hC hd hB Gr (by simpa using RM) hh hb hr).mono ?_;rintro e w' ⟨rfl,p1,p2⟩;exact⟨_,φ,rfl,.dR _ _ _ rfl (fun i c v hc=>by simp at hc),p1,p2⟩
end Go.Bm
