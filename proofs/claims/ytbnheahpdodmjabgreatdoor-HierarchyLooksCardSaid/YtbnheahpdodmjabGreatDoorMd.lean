/- The machine by value: operations, calls, code. -/
import Derived.Test.YtbnheahpdodmjabGreatDoorMc
import Derived.Scope
import Derived.Sort.Grow
import Derived.Deep.Draws
/- Operations that write: append, clear, stores. -/
set_option linter.unusedSimpArgs false
set_option linter.unusedVariables false
open Array renaming getD_eq_getD_getElem? → bm, getElem?_append_left → vA, getElem?_append_right → Nt, getElem?_eq_none → SN, getElem?_eq_some_iff → eG, getElem?_replicate → nM, getElem?_setIfInBounds_ne → jl, replicate → tJ
open Bool renaming and_eq_false_iff → WG, and_eq_true → ae, false_eq_true → bH, not_eq_true' → bN, or_eq_false_iff → fi, or_eq_true → eE, true_and → WE
open Classical renaming byContradiction → qP
open Go.Sort renaming grow → QK
open List renaming append_assoc → dS, append_nil → jE, drop_eq_nil_of_le → BI, eq_nil_of_length_eq_zero → eL, ext_getElem? → dW, getElem?_append_left → aA, getElem?_append_right → aL, getElem?_cons_succ → p9, getElem?_drop → bk, getElem?_eq_getElem → aj, getElem?_eq_none → dO, getElem?_map → cu, getElem?_of_mem → bG, getElem?_replicate → jF, getElem?_set → aU, getElem?_set_ne → cT, getElem?_take → bT, isEmpty_iff → fN, length_append → bO, length_cons → cH, length_nil → gG, length_set → cF, length_take → bD, mem_append → aI, mem_cons → aO, mem_of_getElem? → bp, mem_of_mem_drop → dv, mem_of_mem_take → du, mem_or_eq_of_mem_set → QJ, pairwise_append → DW, rel_of_pairwise_cons → QH, replicate → bh, take_append_drop → WB, take_zero → qK
open Nat renaming add_mul → cO, le_refl → aJ, le_trans → NF, lt_of_lt_of_le → fh, mul_le_mul_right → bV, zero_add → fT, zero_le → yM, zero_mul → rJ
open Ne renaming symm → jP
open Option renaming getD_some → eJ, isSome_iff_exists → bf, map_some → cG
open Option.some renaming inj → bj, injEq → af
open Prod.mk renaming injEq → aF
namespace Go.Bm
open Go.Am
section
variable {P:Program} {X:Nat->Prop} {φ φ':dx} {w w':World} {N N':Names} {s s1:St} {Ha Ha':Heap} {t:Nat->Value} {B:Nat->Nat} {base:Nat} {v va:AV} {v':Value} {c:eS} {o:Oper} {a:Act} {kd:Kd}
theorem xP {l:List AV} (h:∀x∈l,x.leaf=true):bF l=true:=by
 induction l with
 |nil=>rfl
 |cons y r ih=>simp only[bF,ae]; exact⟨h y (by simp),ih fun x hx=>h x (by simp[hx])⟩
theorem AL {l:List AV} (h:bF l=true):∀x∈l,x.leaf=true:=by
 induction l with
 |nil=>intro x hx; simp at hx
 |cons y r ih=>
   intro x hx;simp only[bF,ae] at h;rcases aO.1 hx with e|e
   ·subst e; exact h.1
   ·exact ih h.2 x e
theorem Bt {k:Nat} {xs:List AV} (h:∀x∈xs,x.cells.length=k) (n:Nat):aC (xs.take n)=(aC xs).take (n*k):=by
 induction xs generalizing n with
 |nil=>simp[aC]
 |cons x r ih=>
   cases n with
   |zero=>simp[aC]
   |succ n=>
     have hx:=h x (by simp);simp only[List.take_succ_cons,aC,ih (fun y hy=>h y (by simp[hy])) n];rw[List.take_append,hx,cO,Nat.one_mul,List.take_of_length_le (by omega:x.cells.length<=n*k+k),Nat.add_sub_cancel]
theorem Qe {k:Nat} {xs:List AV} (h:∀x∈xs,x.cells.length=k) (n:Nat):aC (xs.drop n)=(aC xs).drop (n*k):=by
 induction xs generalizing n with
 |nil=>simp[aC]
 |cons x r ih=>
   cases n with
   |zero=>simp
   |succ n=>
     have hx:=h x (by simp);simp only[List.drop_succ_cons,aC,ih (fun y hy=>h y (by simp[hy])) n];rw[List.drop_append,hx,cO,Nat.one_mul,BI (by omega:x.cells.length<=n*k+k),List.nil_append,Nat.add_sub_cancel]
theorem gV {k:Nat} {xs:List AV} (h:∀x∈xs,x.cells.length=k):(aC xs).length=xs.length*k:=(fK h).1
theorem I5 (h:ff X φ w N s Ha (tm a)) (hg:Am.eI (iu c) X φ w) {k:Nat} {x:E} {o':Operand} (ho:dj o' (nI x)=true) {ys:List AV} (hc:cont s k (bq c s.env x)=some ys) (Bo:bF (aC ys)=true) :
  ∃ news,jQ Ha k (Am.ev (iu c) (DR N s.env) (nI x))=some (news,ys.length)/\news.length=ys.length*k/\(∀y∈ys,y.cells.length=k)/\bF news=true /\
   ∀ (i:Nat) (d:AV),(aC ys)[i]?=some d->fz d=true/\∃ e,news[i]?=some e/\e.leaf=true/\Le d e:=by
 have hx:=cM (c:=c) (cA:=iu c) h rfl ho;have dy:=hx.ok;have r:=cj (c:=iu c) (env:=DR N s.env) (a:=a) (fun i=>by rw[pN]; exact h.env i) hg ho;rw[hx.ev] at r ⊢;cases e:bq c s.env x<;>rw[e] at hc dy r<;>try (simp[cont] at hc; done)
 ·rename_i k' xs;simp only[cont] at hc;split at hc
  case isFalse=>cases hc
  rename_i wR;subst wR;simp at hc;subst hc;simp only[gU,cU,jQ,if_true] at r ⊢
  have ja:(∀y∈xs,y.cells.length=k')/\∀ y∈xs,∀d∈y.cells,pl d=true:=by
   generalize a.eval o'=z at r;cases r with
   |yG _ _ _ ad n cap u hn iN hk hu h=>
     refine⟨hk,fun y hy d hd=>?_⟩;obtain⟨i,hi⟩:=bG hy;obtain⟨j,hj⟩:=bG hd;exact aea (h i j y d hi hj) rfl
   |lJ=>exact⟨fun y hy=>by simp at hy,fun y hy=>by simp at hy⟩
  refine⟨aC xs,rfl,gV ja.1,ja.1,Bo,fun i d hd=>?_⟩;obtain⟨i',y,j,h1,h2,_⟩:=(fK ja.1).2 i d hd;have hdl:=AL Bo d (bp hd);refine⟨?_,d,hd,hdl,Le.refl _⟩;unfold fz;rw[hdl,ja.2 y (bp h1) d (bp h2)];rfl
 ·rename_i k' xs;have:=hx.eo k' xs e;subst this;simp[cont] at hc;subst hc;exact⟨[],by simp[gU,jQ],by simp,fun y hy=>by simp at hy,rfl,fun i d hd=>by simp[aC] at hd⟩
 ·rename_i k' p off len;simp only[cont] at hc;split at hc
  case h_2=>cases hc
  rename_i Bj xs hp;split at hc
  case isFalse=>cases hc
  rename_i hcc;obtain⟨rfl,rfl,hle⟩:=hcc;simp at hc;subst hc;have eZ:=h.own p Bj xs hp;simp only[gU];rcases vI h dy with⟨n,hn,e2⟩|⟨hn,h0,h1,e2⟩
  ·rw[e2];rw[hn] at eZ;obtain⟨cs,c1,c2,c3,c4⟩:=eZ
   have hb:off*Bj+len*Bj<=cs.length:=by
    have:(off+len)*Bj<=xs.length*Bj:=bV Bj hle;rw[cO] at this;omega
   have zo:∀y∈(xs.drop off).take len,y.cells.length=Bj:=fun y hy=>c3 y (dv (du hy));have hl:((xs.drop off).take len).length=len:=by simp; omega
   have idx:∀(i:Nat) (d:AV),(aC ((xs.drop off).take len))[i]?=some d->fz d=true/\∃ e,((cs.drop (off*Bj)).take (len*Bj))[i]?=some e/\e.leaf=true/\Le d e:=by
    intro i d hd;rw[Bt (fun y hy=>c3 y (dv hy)),Qe c3,bT] at hd;split at hd
    case isFalse=>cases hd
    rename_i hi;rw[bk] at hd;obtain⟨f1,e,f2,f3,f4⟩:=c4 _ d hd;exact⟨f1,e,by rw[bT,if_pos hi,bk]; exact f2,f3,f4⟩
   refine⟨(cs.drop (off*Bj)).take (len*Bj),by simp only[jQ,c1,hl]; rw[if_pos ⟨trivial,hb⟩],by rw[hl]; simp; omega,zo,xP fun x hx=>?_,idx⟩;obtain⟨i,hi⟩:=bG hx;have bE:=az hi;have:i<(aC ((xs.drop off).take len)).length:=by rw[gV zo,hl]; simp at bE; omega
   obtain⟨d,hd⟩:=bt this;obtain⟨_,e,g2,g3,_⟩:=idx i d hd;rw[hi] at g2;cases g2;exact g3
  ·rw[e2];subst h1;exact⟨[],by simp[jQ],by simp,fun y hy=>by simp at hy,rfl,fun i d hd=>by simp[aC] at hd⟩
theorem aip (hm:P.follows .mixedOrders=true) (h:SB X φ w B base s (tm a)) (hg:Am.eI (iu c) X φ w) {k k':Nat} {x y:E} (hk:di P o.op (nj (.app k x y))=true) (BQ:bq c s.env x=.own k' []) {ys:List AV} (hy:cont s k (bq c s.env y)=some ys) (Bo:bF (aC ys)=true) (hl:ys.length<=ks) :
  nB P X φ w B base s (.own k ys) o a:=by
 obtain⟨N,Ha,h,hb⟩:=h;obtain⟨⟨o1,h1⟩,o2,h2⟩:=acn hk;have hx:=cM (c:=c) (cA:=iu c) h rfl h1;obtain⟨news,n1,n2,n3,n4,n5⟩:=I5 h hg h2 hy Bo;by_cases h0:ys.length=0
 ·have:ys=[]:=eL h0;subst this;refine nB.of (nu (va:=.dC) (Ha':=Ha) hm h hg hk (by simp only[nj,ga,n1,hx.ev,BQ,gU,gG,if_true]; rfl)) fun v' w' φ' r hh ad=>?_;exact eF.quiet (h.oN ad hh h.own (fun _ _=>rfl)) hb trivial (by simp[EO]) r
 ·refine nB.of (nu (va:=.sl k Ha.length 0 ys.length) (Ha':=Ha++[some news]) hm h hg hk (by simp only[nj,ga,n1,hx.ev,BQ,gU,if_neg h0,if_pos (⟨hl,n4⟩:ys.length<=ks/\bF news=true)]; rfl)) fun v' w' φ' r hh ad=>?_;exact Fh h hb ad hh (by omega) n3 n5 r
theorem aio (hm:P.follows .mixedOrders=true) (h:SB X φ w B base s (tm a)) (hg:Am.eI (iu c) X φ w) {k len:Nat} {x y:E} (hk:di P o.op (nj (.app k x y))=true) {p:Rt} {xs:List AV} (BQ:bq c s.env x=.dX k p 0 len) (hp:aB s p=some (k,xs)) (hle:len<=xs.length) {ys:List AV} (hy:cont s k (bq c s.env y)=some ys) (Bo:bF (aC ys)=true) (hl:len+ys.length<=ks) :
  nB P X φ w B base (setAt (cB (sw p) s) p .any) (.own k (xs.take len++ys)) o a:=by
 obtain⟨N,Ha,h,hb⟩:=h;obtain⟨⟨o1,h1⟩,o2,h2⟩:=acn hk;have hx:=cM (c:=c) (cA:=iu c) h rfl h1;have dy:=hx.ok;rw[BQ] at dy;obtain⟨news,n1,n2,n3,n4,n5⟩:=I5 h hg h2 hy Bo;obtain⟨d1,d2,d3⟩:=h.drop hp;have B9:(∀b,b<base->N.β b=B b)/\base<=(setAt (cB (sw p) s) p .any).H.length:=⟨hb.1,by rw[d3.len]; exact hb.2⟩;have eZ:=h.own p k xs hp;rcases vI h dy with⟨n,hn,e2⟩|⟨hn,_,Vp,e2⟩
 ·rw[hn] at eZ;obtain⟨cs,c1,c2,c3,c4⟩:=eZ;have Is:len*k<=cs.length:=NF (bV k hle) c2;have hnlt:=dU c1;refine nB.of (nu (va:=.sl k Ha.length 0 (len+ys.length)) (Ha':=Ha.set n none++[some (cs.take (len*k)++news)]) hm h hg hk (by simp only[nj,ga,n1,hx.ev,BQ,gU,e2,rJ,c1,if_pos (⟨trivial,Is,hl,n4⟩:True/\len*k<=cs.length/\len+ys.length<=ks/\bF news=true)]; rfl)) fun v' w' φ' r hh ad=>?_;have Iq:∀m,m≠n->aH (Ha.set n none) m=aH Ha m:=fun m FF=>by unfold aH; rw[cT (jP FF)]
  have lN:∀m,m≠n->m<Ha.length->aH (Ha.set n none++[some (cs.take (len*k)++news)]) m=aH Ha m:=fun m FF bE=>by
   rw[fQ,if_neg (by simp; omega),Iq m FF]
  have gq:ff X φ' w' N (setAt (cB (sw p) s) p .any) (Ha.set n none++[some (cs.take (len*k)++news)]) (tm a):=by
   refine d1.oN ad hh (fun q k' zs e=>?_) (fun b Fe=>?_)
   ·have e':=e;rw[d2] at e';split at e'
    ·cases e'
    rename_i rn;refine (d1.own q k' zs e).same fun m hmq=>lN m ?_ ?_
    ·rintro rfl;exact rn (h.inj q p m (by rw[e']; rfl) (by rw[hp]; rfl) hmq hn)
    ·exact h.gS (by rw[e']; rfl) hmq
   ·have N3:(aH s.H b).isSome:=by
     cases e:aH s.H b with
     |none=>rw[d3.F6 b e] at Fe; cases Fe
     |some _=>rfl
    refine lN _ ?_ (h.uK N3);intro e;exact h.bx b p N3 (by rw[hp]; rfl) (by rw[hn,e])
  have Vq:(xs.take len++ys).length=len+ys.length:=by simp; omega
  have htk:∀z∈xs.take len,z.cells.length=k:=fun z hz=>c3 z (du hz);refine eF.fresh gq B9 (n:=Ha.length) ⟨cs.take (len*k)++news,by rw[fQ,if_pos (by simp)],?_,?_,?_⟩ (fun q hq e=>?_) (fun b Fe e=>?_) (by rw[Vq]; exact r)
  ·rw[Vq,cO,bO,bD,n2]; omega
  ·intro z hz;rcases aI.1 hz with hz|hz
   ·exact htk z hz
   ·exact n3 z hz
  ·intro i d hd;rw[me,Bt c3] at hd
   have hlt1:((aC xs).take (len*k)).length=len*k:=by
    have:=gV c3;have:len*k<=xs.length*k:=bV k hle;rw[bD]; omega
   rw[List.getElem?_append] at hd;rw[hlt1] at hd;split at hd
   ·rename_i hi;rw[bT,if_pos hi] at hd;obtain⟨f1,e,f2,f3,f4⟩:=c4 i d hd;exact⟨f1,e,by rw[aA (by simp; omega),bT,if_pos hi]; exact f2,f3,f4⟩
   ·rename_i hi;obtain⟨f1,e,f2,f3,f4⟩:=n5 _ d hd;refine⟨f1,e,?_,f3,f4⟩;rw[aL (by simp; omega)];rw[bD,Nat.min_eq_left Is];exact f2
  ·have hq':(aB s q).isSome:=by
    rw[d2] at hq;split at hq
    ·cases hq
    ·exact hq
   have:=h.gS hq' e;omega
  ·have N3:(aH s.H b).isSome:=by
    cases e:aH s.H b with
    |none=>rw[d3.F6 b e] at Fe; cases Fe
    |some _=>rfl
   have:=h.uK N3;omega
 ·rw[hn] at eZ;have hxs:xs=[]:=eZ;subst hxs;subst Vp
  have simq:∀{φ' w' Ha'},ft φ w φ' w'->cm X φ' w' Ha'->(∀m,m<Ha.length->aH Ha' m=aH Ha m)->ff X φ' w' N (setAt (cB (sw p) s) p .any) Ha' (tm a):=by
   intro φ' w' Ha' ad hh lN;refine d1.oN ad hh (fun q k' zs e=>?_) (fun b Fe=>?_)
   ·exact (d1.own q k' zs e).same fun m hmq=>lN m (d1.gS (by rw[e]; rfl) hmq)
   ·exact lN _ (d1.uK Fe)
  by_cases h0:ys.length=0
  ·have:ys=[]:=eL h0;subst this;refine nB.of (nu (va:=.dC) (Ha':=Ha) hm h hg hk (by simp only[nj,ga,n1,hx.ev,BQ,gU,e2,gG,if_true]; rfl)) fun v' w' φ' r hh ad=>?_;exact eF.quiet (simq ad hh fun _ _=>rfl) B9 trivial (by simp[EO]) r
  ·have NY:ys.length<=ks:=by omega
   refine nB.of (nu (va:=.sl k Ha.length 0 ys.length) (Ha':=Ha++[some news]) hm h hg hk (by simp only[nj,ga,n1,hx.ev,BQ,gU,e2,if_neg h0,if_pos (⟨NY,n4⟩:ys.length<=ks/\bF news=true)]; rfl)) fun v' w' φ' r hh ad=>?_;have gq:=simq ad hh fun m bE=>by rw[fQ,if_neg (by omega)]
   refine eF.fresh gq B9 (n:=Ha.length) ⟨news,M4 _ _,by simp; omega,by simpa using n3,by simpa using n5⟩ (fun q hq e=>?_) (fun b Fe e=>?_) (by simpa using r)
   ·have:=d1.gS hq e; omega
   ·have:=d1.uK Fe; omega
end
end Go.Bm

/- Stores and clearing. -/
namespace Go.Bm
open Go.Am
mutual
theorem abk {o o':Rt->Option (Nat × List AV)} {nb:Nat} (ho:∀p k xs,o p=some (k,xs)->∃ys,o' p=some (k,ys)/\xs.length<=ys.length):∀x,cS o nb x->cS o' nb x
 |.dX k p off len,h=>by simp only[cS] at h ⊢; obtain⟨xs,e,h2⟩:=h; obtain⟨ys,e2,h3⟩:=ho p k xs e; exact⟨ys,e2,by omega⟩
 |.fG k p i off,h=>by simp only[cS] at h ⊢; obtain⟨xs,e,h2⟩:=h; obtain⟨ys,e2,h3⟩:=ho p k xs e; exact⟨ys,e2,by omega⟩
 |.ptr b off,h=>h
 |.agg cs,h=>by simp only[cS] at h ⊢; exact EJ ho cs h
 |.dR cs,h=>by simp only[cS] at h ⊢; exact EJ ho cs h
 |.func f a b,h=>by simp only[cS] at h ⊢; exact⟨EJ ho a h.1,EJ ho b h.2.1,h.2.2⟩
 |.any,_=>trivial
 |.undef,_=>trivial
 |.fY,_=>trivial
 |.gh,_=>trivial
 |.dC,_=>trivial
 |.int _ _,_=>trivial
 |.bool _,_=>trivial
 |.str _,_=>trivial
 |.list _ _,_=>trivial
 |.dG _,_=>trivial
 |.own _ _,_=>trivial
 |.sl _ _ _ _,h=>h
theorem EJ {o o':Rt->Option (Nat × List AV)} {nb:Nat} (ho:∀p k xs,o p=some (k,xs)->∃ys,o' p=some (k,ys)/\xs.length<=ys.length):∀cs,mw o nb cs->mw o' nb cs
 |[],_=>trivial
 |x::r,h=>⟨abk ho x h.1,EJ ho r h.2⟩
end
theorem nG {l vs:List AV} {off:Nat} (h:off+vs.length<=l.length) (m:Nat):(kj l off vs)[m]?=if m<off then l[m]? else if m<off+vs.length then vs[m-off]? else l[m]?:=by
 unfold kj;have h1:(l.take off).length=off:=by simp; omega
 by_cases a:m<off
 ·rw[if_pos a,dS,aA (by omega),bT,if_pos a]
 ·rw[if_neg a];by_cases b:m<off+vs.length
  ·rw[if_pos b,dS,aL (by omega),h1,aA (by omega)]
  ·rw[if_neg b,aL (by simp; omega),bk];congr 1;simp; omega
section
variable {P:Program} {X:Nat->Prop} {φ φ':dx} {w w':World} {N N':Names} {s s1:St} {Ha Ha':Heap} {t:Nat->Value} {B:Nat->Nat} {base:Nat} {v va:AV} {v':Value} {c:eS} {o:Oper} {a:Act} {kd:Kd}
theorem ahy {p:Rt} {k:Nat} {xs xs':List AV} (hp:aB s p=some (k,xs)) (hl:xs'.length=xs.length) (i:Nat):lZ N i (get (setAt s p (.own k xs')).env i)=lZ N i (get s.env i):=by
 have zf:=cD.1 hp;cases p with
 |s j=>
   simp only[at_,af] at zf;simp only[setAt,bQ];by_cases e:i=j
   ·subst e; rw[if_pos rfl,zf]; simp only[lZ,jG,hl]
   ·rw[if_neg e]
 |sc j l=>
   simp only[at_] at zf;cases hg:get s.env j<;>rw[hg] at zf<;>simp at zf
   rename_i ds;have hs:setAt s (.sc j l) (.own k xs')=⟨put s.env j (.agg (ds.set l (.own k xs'))),s.H⟩:=by simp[setAt,hg]
   rw[hs];simp only[bQ];by_cases e:i=j
   ·subst e;rw[if_pos rfl,hg];simp only[lZ];congr 1;apply dW;intro m;rw[gC,gC,aU];by_cases hm:l=m
    ·subst hm;rw[if_pos rfl,if_pos (az zf),zf];simp only[cG,jG,hl]
    ·rw[if_neg hm]
   ·rw[if_neg e]
 |c b l=>
   simp only[at_] at zf;cases hg:aH s.H b<;>rw[hg] at zf<;>simp at zf
   simp[setAt,hg]
theorem ff.upd (h:ff X φ w N s Ha t) {p:Rt} {k n:Nat} {xs xs':List AV} (hp:aB s p=some (k,xs)) (hn:N.ν p=some n) (hl:xs'.length=xs.length) (ad:ft φ w φ' w') (hh:cm X φ' w' Ha') (ho:rF Ha' (some n) k xs') (hb:∀m,m≠n->aH Ha' m=aH Ha m) :
  ff X φ' w' N (setAt s p (.own k xs')) Ha' t/\Shape s (setAt s p (.own k xs')):=by
 have zf:=cD.1 hp;have rq:Fits s p (.own k xs'):=⟨(fun cs e=>by cases e),_,zf,(fun cs e=>by cases e)⟩;have jI:=Shape.set rq;generalize Vk:setAt s p (.own k xs')=s' at jI ⊢
 have own:∀q,aB s' q=if q=p then some (k,xs') else aB s q:=by
  refine Bd jI (fun q hq=>?_) (fun q hq=>?_)
  ·have e:at_ s' q=if q=p then some (.own k xs') else at_ s q:=by rw[<-Vk]; exact GI rq hq
   by_cases rn:q=p
   ·rw[if_pos rn] at e ⊢; exact cD.2 e
   ·rw[if_neg rn] at e ⊢; exact iW e
  ·rw[if_neg (by rintro rfl; exact hq (Ll (by rw[hp]; rfl)))];exact wq hq
 have hlen:∀q k' ys,aB s q=some (k',ys)->∃zs,aB s' q=some (k',zs)/\ys.length<=zs.length:=by
  intro q k' ys e;rw[own];by_cases rn:q=p
  ·subst rn;rw[hp] at e;cases e;exact⟨xs',by rw[if_pos rfl],by omega⟩
  ·exact⟨ys,by rw[if_neg rn]; exact e,aJ _⟩
 have oiff:∀{q},(aB s' q).isSome->(aB s q).isSome:=by
  intro q hq;rw[own] at hq;by_cases rn:q=p
  ·subst rn; rw[hp]; rfl
  ·rw[if_neg rn] at hq; exact hq
 have biff:∀{b},(aH s'.H b).isSome->(aH s.H b).isSome:=by
  intro b hb;cases e:aH s.H b with
  |none=>rw[jI.F6 b e] at hb; cases hb
  |some _=>rfl
 have okk:∀r y,Lf s' r->at_ s' r=some y->cS (aB s') s'.H.length y:=by
  intro r y hr hy;obtain⟨yH,x,hx⟩:=jI.back hr hy;have e:at_ s' r=if r=p then some (.own k xs') else at_ s r:=by rw[<-Vk]; exact GI rq yH
  rw[e] at hy;by_cases Ir:r=p
  ·rw[if_pos Ir] at hy; cases hy; trivial
  ·rw[if_neg Ir] at hy;rw[jI.len];exact abk hlen y (h.EI hy)
 obtain⟨hk,hkc⟩:=Ls okk;refine⟨⟨fun i=>?_,hk,hh,fun q k' ys e=>?_,fun b cs e=>?_,fun q r m e1 e2 e3 e4=>h.inj q r m (oiff e1) (oiff e2) e3 e4,fun b q e1 e2 e3=>h.bx b q (biff e1) (oiff e2) e3,fun b d e1 e2 e3=>h.bi b d (biff e1) (biff e2) e3⟩,jI⟩
 ·rw[<-Vk,ahy hp hl]; exact ad.rep (h.env i)
 ·rw[own] at e;by_cases rn:q=p
  ·subst rn;rw[if_pos rfl] at e;cases e;rw[hn];exact ho
  ·rw[if_neg rn] at e;refine (h.own q k' ys e).same fun m hm=>hb m ?_;rintro rfl;exact rn (h.inj q p m (by rw[e]; rfl) (by rw[hp]; rfl) hm hn)
 ·cases N3:aH s.H b with
  |none=>rw[jI.F6 b N3] at e; cases e
  |some cs0=>
    obtain⟨ds,q1,q2⟩:=jI.box b cs0 N3;rw[e] at q1; cases q1;obtain⟨as,g1,g2,g3⟩:=h.box b cs0 N3;refine⟨as,?_,by omega,fun j d hd=>⟨hkc b cs e j d hd,?_⟩⟩
    ·rw[hb]
     ·exact g1
     ·intro e3; exact h.bx b p (by rw[N3]; rfl) (by rw[hp]; rfl) (by rw[hn,e3])
    ·obtain⟨d0,hd0⟩:=bt (l:=cs0) (i:=j) (by have:=az hd; omega);obtain⟨_,a',a1,a2⟩:=g3 j d0 hd0;refine⟨a',a1,?_⟩;have e3:at_ s' (.c b j)=if Rt.c b j=p then some (.own k xs') else at_ s (.c b j):=by rw[<-Vk]; exact GI rq (fun i e=>by cases e)
     rw[AE e,AE N3,hd,hd0] at e3;by_cases Ir:Rt.c b j=p
     ·rw[if_pos Ir] at e3;cases e3
      have hat':d0=.own k xs:=by
       rw[<-Ir,AE N3,hd0] at zf;exact bj zf
      subst hat';simp only[jG,hl] at a2 ⊢;exact a2
     ·rw[if_neg Ir] at e3;cases e3;exact a2
theorem WL {k off:Nat} {x:AV} {vs:List AV} (hx:x.cells.length=k) (hf:off+vs.length<=k):(SR k x off vs).cells=kj x.cells off vs:=by
 unfold SR;split
 ·rename_i h;rw[wH];obtain⟨rfl,hl⟩:=h;unfold kj;rw[BI (by omega)];simp
 ·rw[wH]
theorem Y7:∀{cs:List AV},FG cs=true->iR N cs=cs
 |[],_=>rfl
 |x::r,h=>by
   simp only[FG,ae] at h;simp only[iR];rw[Y7 h.2];have:=(my h.1).1;congr 1;cases x<;>first|exact mj N _ this|(simp[pl] at this; done)
theorem alR (hm:P.follows .mixedOrders=true) (h:SB X φ w B base s (tm a)) (hg:Am.eI (iu c) X φ w) {k k' i off:Nat} {x y:E} {p:Rt} {xs:List AV} {u:AV} (hk:di P o.op (nj (.st k x y))=true) (BQ:bq c s.env x=.fG k' p i off) (hp:aB s p=some (k',xs)) (hu:xs[i]?=some u)
  (h1:(bq c s.env y).cells.length=k) (h2:off+k<=k') (h3:FG (bq c s.env y).cells=true):nB P X φ w B base (setAt s p (.own k' (xs.set i (SR k' u off (bq c s.env y).cells)))) .undef o a:=by
 obtain⟨N,Ha,h,hb⟩:=h;obtain⟨⟨o1,c1⟩,o2,c2⟩:=amU hk;have hx:=cM (c:=c) (cA:=iu c) h rfl c1;have hy:=cM (c:=c) (cA:=iu c) h rfl c2;have dy:=hx.ok;rw[BQ] at dy;obtain⟨n,hn,e2⟩:=Ld h dy;have eZ:=h.own p k' xs hp;rw[hn] at eZ;obtain⟨cs,q1,q2,q3,q4⟩:=eZ;generalize SA:(bq c s.env y).cells=vs at h1 h3 ⊢;have ja:(Am.ev (iu c) (DR N s.env) (nI y)).cells=vs:=by rw[hy.ev,MU N hy.na,SA,Y7 h3]
 have Bo:bF vs=true:=xP fun z hz=>(my (qH h3 z hz)).2;have huk:u.cells.length=k':=q3 u (bp hu);have hilt:=az hu;have wS:(i+1)*k'<=xs.length*k':=bV k' hilt;rw[cO] at wS;have rq:i*k'+off+k<=cs.length:=by omega
 refine nB.of (nu (va:=.undef) (Ha':=Ha.set n (some (kj cs (i*k'+off) vs))) hm h hg hk (by simp only[nj,ga,hx.ev,BQ,gU,e2,q1,ja,if_pos (⟨h1,rq,Bo⟩:vs.length=k/\i*k'+off+k<=cs.length/\bF vs=true)]; rfl)) fun v' w' φ' r hh ad=>?_;have X8:=WL (k:=k') (off:=off) (vs:=vs) huk (by omega)
 have hnew:rF (Ha.set n (some (kj cs (i*k'+off) vs))) (some n) k' (xs.set i (SR k' u off vs)):=by
  refine⟨kj cs (i*k'+off) vs,by rw[dH,if_pos ⟨rfl,dU q1⟩],?_,?_,?_⟩
  ·rw[cF,gT (by omega)]; exact q2
  ·intro z hz;rcases QJ hz with hz|rfl
   ·exact q3 z hz
   ·rw[X8,gT (by omega),huk]
  ·have akE:∀z∈xs.set i (SR k' u off vs),z.cells.length=k':=by
    intro z hz;rcases QJ hz with hz|rfl
    ·exact q3 z hz
    ·rw[X8,gT (by omega),huk]
   intro m d hd;obtain⟨i',z,j,z1,z2,z3⟩:=(fK akE).2 m d hd;have hj:j<k':=by rw[<-akE z (bp z1)]; exact az z2
   rw[aU] at z1;by_cases hii:i=i'
   ·subst hii;rw[if_pos rfl,if_pos hilt] at z1;cases z1;rw[X8,nG (by omega)] at z2
    have NP:u.cells[j]?=some d->j<off\/¬ j<off+vs.length->fz d=true/\∃ e,(kj cs (i*k'+off) vs)[m]?=some e/\e.leaf=true/\Le d e:=by
     intro e hc;obtain⟨f1,e',f2,f3,f4⟩:=q4 _ d (Fi q3 hu e);refine⟨f1,e',?_,f3,f4⟩;rw[z3,nG (by omega)];rcases hc with hc|hc
     ·rw[if_pos (by omega)]; exact f2
     ·rw[if_neg (by omega),if_neg (by omega)]; exact f2
    split at z2
    ·rename_i hc; exact NP z2 (.inl hc)
    ·split at z2
     ·rename_i Wt I1;have hz:=qH h3 d (bp z2);refine⟨hz,d,?_,(my hz).2,Le.refl _⟩;rw[z3,nG (by omega),if_neg (by omega),if_pos (by omega),show i*k'+j-(i*k'+off)=j-off by omega];exact z2
     ·rename_i Wt I1; exact NP z2 (.inr I1)
   ·rw[if_neg hii] at z1;obtain⟨f1,e',f2,f3,f4⟩:=q4 _ d (Fi q3 z1 z2);refine⟨f1,e',?_,f3,f4⟩;rw[z3,nG (by omega)];rcases Nat.lt_or_gt_of_ne hii with bE|hgt
    ·have:(i+1)*k'<=i'*k':=bV k' bE;rw[cO] at this;rw[if_neg (by omega),if_neg (by omega)];exact f2
    ·have:(i'+1)*k'<=i*k':=bV k' hgt;rw[cO] at this;rw[if_pos (by omega)];exact f2
 obtain⟨gq,jI⟩:=h.upd (xs':=xs.set i (SR k' u off vs)) hp hn (by simp) ad hh hnew (fun m FF=>by rw[dH,if_neg (fun e=>FF e.1)]);exact eF.quiet gq ⟨hb.1,by rw[jI.len]; exact hb.2⟩ trivial trivial r
end
end Go.Bm

/- Stores into boxes. -/
namespace Go.Bm
open Go.Am
section
variable {P:Program} {X:Nat->Prop} {φ φ':dx} {w w':World} {N N':Names} {s s' s1:St} {Ha Ha':Heap} {t t':Nat->Value} {B:Nat->Nat} {base:Nat} {v va:AV} {v':Value} {c:eS} {o:Oper} {a:Act} {kd:Kd}
theorem wy (i b off:Nat):∀k p x l,jU i b off (.dX k p x l)=.dX k (jj i b off p) x l/\jU i b off (.fG k p x l)=.fG k (jj i b off p) x l:=fun _ _ _ _=>⟨rfl,rfl⟩
theorem A4 (N:Names) (i:Nat) (v:AV):(lZ N i v).cells.length=v.cells.length/\∀ (j:Nat) (d:AV),v.cells[j]?=some d->(lZ N i v).cells[j]?=some (jG N (match v with
  |.agg _=>.sc i j
  |_=>.s i) d):=by
 by_cases ha:∃cs,v=.agg cs
 ·obtain⟨cs,rfl⟩:=ha;simp only[lZ,AV.cells];exact⟨gQ _ _ _ _,fun j d hd=>by rw[gC,hd]; simp⟩
 ·have hn:kA v:=fun cs e=>ha ⟨cs,e⟩;have e1:lZ N i v=jG N (.s i) v:=by cases v<;>first|rfl|exact absurd rfl (hn _)
  have e2:v.cells=[v]:=by cases v<;>first|rfl|exact absurd rfl (hn _)
  have e3:(jG N (.s i) v).cells=[jG N (.s i) v]:=by
   cases v<;>first
    |rfl
    |exact absurd rfl (hn _)
    |(rename_i k xs; simp only[jG,sN]; cases N.ν (.s i)<;>rfl)
    |(rename_i k p x l; simp only[jG,cU]; cases N.ν p<;>rfl)
  rw[e1,e2,e3];refine⟨rfl,fun j d hd=>?_⟩;cases j with
  |zero=>
    simp at hd;subst hd;cases v<;>first|rfl|exact absurd rfl (hn _)
  |succ j=>simp at hd
theorem LN {g:AV->AV} (hg:lX g) (v:AV):(cW g v).cells=dp g v.cells:=by
 by_cases ha:∃cs,v=.agg cs
 ·obtain⟨cs,rfl⟩:=ha;simp[cW,AV.cells]
 ·have hn:kA v:=fun cs e=>ha ⟨cs,e⟩;have hn2:=oI hg hn;have e2:v.cells=[v]:=by cases v<;>first|rfl|exact absurd rfl (hn _)
  rw[e2];simp only[dp];generalize cW g v=y at hn2;cases y<;>first|rfl|exact absurd rfl (hn2 _)
def uJ (i:Nat) (v:AV) (j:Nat):Rt:=
 match v with
 |.agg _=>.sc i j
 |_=>.s i
theorem adD {i:Nat} {j:Nat} {d:AV} (h:(get s.env i).cells[j]?=some d):at_ s (uJ i (get s.env i) j)=some d:=by
 by_cases ha:∃cs,get s.env i=.agg cs
 ·obtain⟨cs,e⟩:=ha;rw[e] at h ⊢;simp only[uJ];rw[M8 e];exact h
 ·have hn:kA (get s.env i):=fun cs e=>ha ⟨cs,e⟩
  have e2:(get s.env i).cells=[get s.env i]:=by
   generalize get s.env i=v at hn;cases v<;>first|rfl|exact absurd rfl (hn _)
  have e3:uJ i (get s.env i) j=.s i:=by
   generalize get s.env i=v at hn;cases v<;>first|rfl|exact absurd rfl (hn _)
  rw[e2] at h;rw[e3];cases j with
  |zero=>simp at h; rw[<-h]; rfl
  |succ j=>simp at h
theorem ff.ajU (h:ff X φ w N s Ha t) {i b off k:Nat} {cs as:List AV} (hb:aH s.H b=some cs) (has:aH Ha (N.β b)=some as) (hk:(get s.env i).cells.length=k) (rq:off+k<=cs.length)
  (hC:∀r x,at_ s r=some x->∀p∈aV x,dq b off k p=false)
  (ad:ft φ w φ' w') (hh:cm X φ' w' (Ha.set (N.β b) (some (kj as off (lZ N i (get s.env i)).cells))))
  (he:∀j,get s'.env j=if j=i then .any else cW (jU i b off) (get s.env j)) (hH:s'.H=(gK (jU i b off) s.H).set b (some (kj (dp (jU i b off) cs) off (cW (jU i b off) (get s.env i)).cells))) (ht:∀j,j≠i->t' j=t j) :
  ∃ N',N'.β=N.β/\ff X φ' w' N' s' (Ha.set (N.β b) (some (kj as off (lZ N i (get s.env i)).cells))) t':=by
 have hg:=wy i b off;have hL:=abF i b off;generalize hv:get s.env i=v at *;obtain⟨tc1,tc2⟩:=A4 N i v;have hblt:=dU hb;have halt:=dU has
 have hasl:as.length=cs.length:=by
  obtain⟨as',g1,g2,_⟩:=h.box b cs hb;rw[has] at g1; cases g1; exact g2
 have I0:(cW (jU i b off) v).cells=dp (jU i b off) v.cells:=LN hL v
 -- where a place of the new state comes from
 obtain⟨u,hu1,hu2⟩:∃u:Rt->Rt,(∀j,off<=j->j<off+k->u (.c b j)=uJ i v (j-off))/\∀ q,dq b off k q=false->u q=q:=
  ⟨fun q=>match q with
   |.c d j=>if d=b/\off<=j/\j<off+k then uJ i v (j-off) else .c d j
   |q=>q,fun j h1 h2=>by simp[h1,h2],fun q hq=>by
     cases q with
     |s j=>rfl
     |sc j l=>rfl
     |c d j=>
       simp only[dq,WG,decide_eq_false_iff_not] at hq;have:¬(d=b/\off<=j/\j<off+k):=by omega
       simp[this]⟩
 have blkH:∀d,aH s'.H d=if d=b then some (kj (dp (jU i b off) cs) off (dp (jU i b off) v.cells)) else (aH s.H d).map (dp (jU i b off)):=by
  intro d;rw[hH,dH,fR,I0,fX];by_cases e:d=b
  ·subst e; simp[hblt]
  ·simp[e]
 have atq:∀q,bP i q=false->dq b off k q=false->at_ s' q=(at_ s q).map (cW (jU i b off)):=by
  intro q h1 h2;cases q with
  |s j=>simp only[bP,decide_eq_false_iff_not] at h1; simp[at_,he,h1]
  |sc j l=>
    simp only[bP,decide_eq_false_iff_not] at h1;have:=j8 hL s (.sc j l);simp only[at_,cB,dF] at this;simp only[at_,he,if_neg h1];exact this
  |c d j=>
    simp only[at_,blkH];by_cases e:d=b
    ·subst e;simp only[if_true,hb];simp only[dq,decide_true,WE,WG,decide_eq_false_iff_not] at h2;rw[nG (by rw[cQ,cQ,hk]; exact rq),cQ,hk];by_cases c1:j<off
     ·rw[if_pos c1,fc]
     ·rw[if_neg c1,if_neg (by omega),fc]
    ·simp only[if_neg e];cases aH s.H d with
     |none=>rfl
     |some ds=>simp[fc]
 have atb:∀j,off<=j->j<off+k->at_ s' (.c b j)=(v.cells[j-off]?).map (cW (jU i b off)):=by
  intro j h1 h2;simp only[at_,blkH,if_true];rw[nG (by rw[cQ,cQ,hk]; exact rq),cQ,hk,if_neg (by omega),if_pos h2,fc]
 have ati:∀q,bP i q=true->aB s' q=none:=by
  intro q hq;cases q with
  |s j=>simp only[bP,decide_eq_true_eq] at hq; subst hq; unfold aB; simp[at_,he]
  |sc j l=>simp only[bP,decide_eq_true_eq] at hq; subst hq; unfold aB; simp[at_,he]
  |c d j=>simp[bP] at hq
 have cellAt:∀j d,v.cells[j]?=some d->at_ s (uJ i v j)=some d:=fun j d hd=>by
  have:=adD (s:=s) (i:=i) (j:=j) (d:=d) (by rw[hv]; exact hd)
  rwa [hv] at this
 have own:∀q k' xs,aB s' q=some (k',xs)->aB s (u q)=some (k',xs):=by
  intro q k' xs e
  have hqi:bP i q=false:=by
   cases e2:bP i q with
   |true=>rw[ati q e2] at e; cases e
   |false=>rfl
  have e':=cD.1 e;cases hq:dq b off k q with
  |false=>
    rw[hu2 q hq];rw[atq q hqi hq] at e';cases ha:at_ s q with
    |none=>rw[ha] at e'; cases e'
    |some x=>
      rw[ha] at e';simp only[cG,af] at e';rw[Ag hL] at e';subst e';exact cD.2 ha
  |true=>
    cases q with
    |s j=>simp[dq] at hq
    |sc j l=>simp[dq] at hq
    |c d j=>
      simp only[dq,ae,decide_eq_true_eq] at hq;obtain⟨rfl,h1,h2⟩:=hq;rw[hu1 j h1 h2];rw[atb j h1 h2] at e';cases ha:v.cells[j-off]? with
      |none=>rw[ha] at e'; cases e'
      |some x=>
        rw[ha] at e';simp only[cG,af] at e';rw[Ag hL] at e';subst e';exact cD.2 (cellAt _ _ ha)
 have anb:(∃ds,v=.agg ds)\/(kA v/\v.cells=[v]/\∀ j,uJ i v j=.s i):=by
  by_cases ha:∃ds,v=.agg ds
  ·exact .inl ha
  ·have hn:kA v:=fun ds e=>ha ⟨ds,e⟩;refine .inr ⟨hn,?_,fun j=>?_⟩
   ·cases v<;>first|rfl|exact absurd rfl (hn _)
   ·cases v<;>first|rfl|exact absurd rfl (hn _)
 -- an owner that was, where it is now
 have own2:∀p,(aB s p).isSome->dq b off k p=false->aB s' (jj i b off p)=aB s p/\u (jj i b off p)=p:=by
  intro p hp hc;obtain⟨⟨k',xs⟩,e⟩:=bf.1 hp;have e':=cD.1 e;cases hpi:bP i p with
  |false=>
    have hm:jj i b off p=p:=by
     cases p with
     |s j=>simp only[bP,decide_eq_false_iff_not] at hpi; simp[jj,hpi]
     |sc j l=>simp only[bP,decide_eq_false_iff_not] at hpi; simp[jj,hpi]
     |c d j=>rfl
    rw[hm];refine⟨?_,hu2 p hc⟩;rw[<-iX hL s p];exact iW (by rw[atq p hpi hc,j8 hL])
  |true=>
    cases p with
    |s j=>
      simp only[bP,decide_eq_true_eq] at hpi;subst hpi;simp only[at_,af] at e';rw[hv] at e';subst e';have hk1:k=1:=by rw[<-hk]; rfl
      subst hk1;have hm:jj j b off (.s j)=.c b off:=by simp[jj]
      rw[hm,hu1 off (aJ _) (by omega)];refine⟨?_,rfl⟩;rw[e];exact cD.2 (by rw[atb off (aJ _) (by omega)]; simp[AV.cells,cW])
    |sc j l=>
      simp only[bP,decide_eq_true_eq] at hpi;subst hpi;simp only[at_,hv] at e';split at e'
      case h_2=>cases e'
      rename_i ds;have hl:l<k:=by rw[<-hk]; exact az e'
      have hm:jj j b off (.sc j l)=.c b (off+l):=by simp[jj]
      rw[hm,hu1 (off+l) (by omega) (by omega)];refine⟨?_,by simp[uJ]⟩;rw[e];exact cD.2 (by rw[atb (off+l) (by omega) (by omega)]; simp[AV.cells,e',cW])
    |c d j=>simp[bP] at hpi
 have back:∀q,(aB s' q).isSome->jj i b off (u q)=q:=by
  intro q hq
  have hqi:bP i q=false:=by
   cases e2:bP i q with
   |true=>rw[ati q e2] at hq; cases hq
   |false=>rfl
  cases hc:dq b off k q with
  |false=>
    rw[hu2 q hc];cases q with
    |s j=>simp only[bP,decide_eq_false_iff_not] at hqi; simp[jj,hqi]
    |sc j l=>simp only[bP,decide_eq_false_iff_not] at hqi; simp[jj,hqi]
    |c d j=>rfl
  |true=>
    cases q with
    |s j=>simp[dq] at hc
    |sc j l=>simp[dq] at hc
    |c d j=>
      simp only[dq,ae,decide_eq_true_eq] at hc;obtain⟨rfl,h1,h2⟩:=hc;rw[hu1 j h1 h2];rcases anb with⟨ds,rfl⟩|⟨_,Wt,hp1⟩
      ·simp only[uJ,jj,if_true];rw[show off+(j-off)=j by omega]
      ·rw[hp1];have:k=1:=by rw[<-hk,Wt]; rfl
       simp only[jj,if_true];rw[show off=j by omega]
 have hlen:s'.H.length=s.H.length:=by rw[hH,cF,fX]
 obtain⟨N',fg,hN⟩:∃N':Names,N'.β=N.β/\∀ q,N'.ν q=N.ν (u q):=⟨⟨N.β,fun q=>N.ν (u q)⟩,rfl,fun _=>rfl⟩;have lM:∀p,(aB s p).isSome->dq b off k p=false->N'.ν (jj i b off p)=N.ν p:=fun p hp hc=>by rw[hN,(own2 p hp hc).2]
 have bor1:∀{r x},at_ s r=some x->(∀p∈aV x,N'.ν (jj i b off p)=N.ν p)/\cS (aB s') s'.H.length (cW (jU i b off) x):=by
  intro r x hx;refine⟨fun p hp=>lM p (h.dX hx p hp) (hC r x hx p hp),?_⟩;rw[hlen];exact TX hg x (fun p hp=>(own2 p (h.dX hx p hp) (hC r x hx p hp)).1) (h.EI hx)
 have so:∀{q},(aB s' q).isSome->(aB s (u q)).isSome:=by
  intro q hq;obtain⟨⟨k',xs⟩,e⟩:=bf.1 hq;rw[own q k' xs e]; rfl
 have sb:∀{d},(aH s'.H d).isSome->(aH s.H d).isSome:=by
  intro d hd;rw[blkH] at hd;by_cases e:d=b
  ·subst e; rw[hb]; rfl
  ·rw[if_neg e] at hd;cases e2:aH s.H d with
   |none=>rw[e2] at hd; cases hd
   |some _=>rfl
 refine⟨N',fg,⟨fun j=>?_,fun j=>?_,hh,fun q k' xs e=>?_,fun d ds e=>?_,fun p q n e1 e2 e3 e4=>?_,fun d q e1 e2 e3=>?_,fun d e e1 e2 e3=>?_⟩⟩
 ·rw[he];by_cases DU:j=i
  ·rw[if_pos DU]; exact .any _ _
  ·rw[if_neg DU,ht j DU];rw[QO (N:=N) (i:=j) fg hg (by rw[hN,hu2 _ rfl]) (fun l=>by rw[hN,hu2 _ rfl]) (bor1 (r:=.s j) rfl).1];exact ad.rep (h.env j)
 ·rw[he];by_cases DU:j=i
  ·rw[if_pos DU]; trivial
  ·rw[if_neg DU]; exact (bor1 (r:=.s j) rfl).2
 ·have e2:=own q k' xs e;rw[hN];refine (h.own _ k' xs e2).same fun n hn=>?_;rw[dH,if_neg];rintro⟨e3,_⟩;exact h.bx b (u q) (by rw[hb]; rfl) (by rw[e2]; rfl) (by rw[hn,e3])
 ·rw[blkH] at e;by_cases hd:d=b
  ·subst hd;rw[if_pos rfl] at e;cases e;refine⟨kj as off (lZ N i v).cells,by rw[fg,dH,if_pos ⟨rfl,halt⟩],?_,fun j x hx=>?_⟩
   ·rw[gT (by rw[tc1,hk]; omega),gT (by rw[cQ,cQ,hk]; omega),cQ,hasl]
   ·rw[nG (by rw[cQ,cQ,hk]; exact rq),cQ,hk] at hx
    have outside:(dp (jU i d off) cs)[j]?=some x->dq d off k (.c d j)=false->(∀hj:True,(kj as off (lZ N i v).cells)[j]?=as[j]?)->cS (aB s') s'.H.length x/\∃ a',(kj as off (lZ N i v).cells)[j]?=some a'/\Le (jG N' (.c d j) x) a':=by
     intro hx hc hov;rw[fc] at hx;cases Mn:cs[j]? with
     |none=>rw[Mn] at hx; cases hx
     |some x0=>
       rw[Mn] at hx;simp at hx;subst hx;obtain⟨as2,g1,g2,g3⟩:=h.box d cs hb;rw[has] at g1; cases g1;obtain⟨_,a',a1,a2⟩:=g3 j x0 Mn;have xC:=bor1 (r:=.c d j) (x:=x0) (by rw[AE hb]; exact Mn);refine⟨xC.2,a',by rw[hov trivial]; exact a1,?_⟩;rw[Ck (N:=N) (r:=.c d j) fg hg (fun _ _ _=>by rw[hN,hu2 _ hc]) xC.1];exact a2
    split at hx
    ·rename_i c1;exact outside hx (by simp[dq]; omega) (fun _=>by rw[nG (by rw[tc1,hk]; omega),if_pos c1])
    ·split at hx
     ·rename_i c1 c2;rw[fc] at hx;cases Mn:v.cells[j-off]? with
      |none=>rw[Mn] at hx; cases hx
      |some x0=>
        rw[Mn] at hx;simp at hx;subst hx;have xC:=bor1 (cellAt _ _ Mn);refine⟨xC.2,jG N (uJ i v (j-off)) x0,?_,?_⟩
        ·rw[nG (by rw[tc1,hk]; omega),if_neg c1,if_pos (by rw[tc1,hk]; exact c2),tc2 _ _ Mn];cases v<;>rfl
        ·rw[Ck (N:=N) (r:=uJ i v (j-off)) fg hg (fun _ _ _=>by rw[hN,hu1 j (by omega) c2]) xC.1];exact Le.refl _
     ·rename_i c1 c2;exact outside hx (by simp[dq]; omega) (fun _=>by rw[nG (by rw[tc1,hk]; omega),if_neg c1,if_neg (by rw[tc1,hk]; exact c2)])
  ·rw[if_neg hd] at e;cases mT:aH s.H d with
   |none=>rw[mT] at e; cases e
   |some ds0=>
     rw[mT] at e;simp at e;subst e;obtain⟨as2,g1,g2,g3⟩:=h.box d ds0 mT;refine⟨as2,?_,by rw[cQ]; exact g2,fun j x hx=>?_⟩
     ·rw[fg,dH,if_neg]
      ·exact g1
      ·rintro⟨e3,_⟩;exact hd (h.bi d b (by rw[mT]; rfl) (by rw[hb]; rfl) e3)
     ·rw[fc] at hx;cases Mn:ds0[j]? with
      |none=>rw[Mn] at hx; cases hx
      |some x0=>
        rw[Mn] at hx;simp at hx;subst hx;obtain⟨_,a',a1,a2⟩:=g3 j x0 Mn;have xC:=bor1 (r:=.c d j) (x:=x0) (by rw[AE mT]; exact Mn);refine⟨xC.2,a',a1,?_⟩;rw[Ck (N:=N) (r:=.c d j) fg hg (fun _ _ _=>by rw[hN,hu2 _ (by simp[dq,hd])]) xC.1];exact a2
 ·rw[hN] at e3 e4;have:=h.inj _ _ n (so e1) (so e2) e3 e4;rw[<-back p e1,this,back q e2]
 ·rw[hN,fg] at e3;exact h.bx d _ (sb e1) (so e2) e3
 ·rw[fg] at e3;exact h.bi d e (sb e1) (sb e2) e3
end
end Go.Bm

/- Stores. -/
namespace Go.Bm
open Go.Am
section
variable {P:Program} {X:Nat->Prop} {φ φ':dx} {w w':World} {N N':Names} {s s' s1:St} {Ha Ha':Heap} {t t':Nat->Value} {B:Nat->Nat} {base:Nat} {v va:AV} {v':Value} {c:eS} {o:Oper} {a:Act} {kd:Kd}
theorem aji {op:Op} {k:Nat} {x y:E} (h:di P op (.st k x y)=true):∃ty xo yo,op=.store ty xo yo/\qf P ty k=true/\dj xo x=true/\dj yo y=true:=by
 unfold di at h;split at h<;>simp_all
 exact⟨_,_,_,⟨rfl,rfl,rfl⟩,h.1.1,h.1.2,h.2⟩
theorem Ox (h:ff X φ w N s Ha t) {i:Nat} (hl:bF (get s.env i).cells=true):bF (lZ N i (get s.env i)).cells=true:=by
 obtain⟨h1,h2⟩:=A4 N i (get s.env i);refine xP fun d hd=>?_;obtain⟨j,hj⟩:=bG hd;obtain⟨x,hx⟩:=bt (l:=(get s.env i).cells) (i:=j) (by have:=az hj; omega);rw[h2 j x hx] at hj;cases hj;have hxl:=AL hl x (bp hx);have dy:=IP (zZ (h.IL i)) x (bp hx);by_cases ho:∃k xs,x=.own k xs
 ·obtain⟨k,xs,rfl⟩:=ho;simp only[jG,sN];split<;>rfl
 ·have:=Ru h hxl dy;cases x<;>first|exact this|exact absurd ⟨_,_,rfl⟩ ho
theorem H8:∀{ds:List AV},bS ds=false->∀x∈ds,∀k xs,x≠.own k xs
 |[],_,x,hx=>by simp at hx
 |y::r,h,x,hx=>by
   intro k xs e;subst e;obtain⟨j,hj⟩:=bG hx;exact DC h j k xs hj
theorem Jw {b off k:Nat} {cs:List AV} (hb:aH s.H b=some cs) (ho:bS ((cs.drop off).take k)=false) {p:Rt} (hp:(aB s p).isSome):dq b off k p=false:=by
 cases p with
 |s j=>rfl
 |sc j l=>rfl
 |c d j=>
   cases e:dq b off k (.c d j) with
   |false=>rfl
   |true=>
     simp only[dq,ae,decide_eq_true_eq] at e;obtain⟨rfl,h1,h2⟩:=e;obtain⟨⟨k',xs⟩,e2⟩:=bf.1 hp;have e3:=cD.1 e2;rw[AE hb] at e3;refine absurd rfl (H8 ho (.own k' xs) ?_ k' xs);refine bp (i:=j-off) ?_;rw[bT,if_pos (by omega),bk,show off+(j-off)=j by omega];exact e3
theorem TW (hm:P.follows .mixedOrders=true) (h:SB X φ w B base s (tm a)) (hg:Am.eI (iu c) X φ w) {k b off:Nat} {x y:E} {f:Fq} (hk:di P o.op (nj (.st k x y))=true) (BQ:bq c s.env x=.ptr b off) (hs:BZ s b off k (bq c s.env y)=some (s',f)):nB P X φ w B base s' .undef o a:=by
 obtain⟨N,Ha,h,hbB,QB⟩:=h;obtain⟨ty,xo,yo,fu,pH,c1,c2⟩:=aji hk;have hx:=cM (c:=c) (cA:=iu c) h rfl c1;have hy:=cM (c:=c) (cA:=iu c) h rfl c2;have he:rH X φ w (DR N s.env) a.tmps:=fun i=>by rw[pN]; exact h.env i
 have rx:=cj (a:=a) he hg c1;have ry:=cj (a:=a) he hg c2;rw[hx.ev,BQ] at rx;rw[hy.evQ] at ry;simp only[gU,cU] at rx;have hpo:eF X φ w N.β s.H.length s (bq c s.env y) (tm a) (a.eval yo):=eF.quiet h ⟨fun _ _=>rfl,aJ _⟩ hy.ok hy.EO ry;generalize bq c s.env y=v at *;unfold BZ at hs;split at hs
 case h_2=>cases hs
 rename_i cs dQ;split at hs
 case isFalse=>cases hs
 rename_i agu;obtain⟨q1,q2,q3⟩:=agu;have hblt:=dU dQ;split at hs
 ·split at hs
  case h_2=>cases hs
  rename_i N5;split at hs
  case h_2=>cases hs
  rename_i s2 hh;simp at hs;obtain⟨rfl,_⟩:=hs;obtain⟨l5,NA,ad1⟩:=SB.D8 b k off (hpo.put fJ N5);generalize D8 b off k ⟨put s.env fJ v,s.H⟩=s1 at hh NA;obtain⟨N1,Wx,gq,B9,hl1⟩:=NA;have hL:=abF fJ b off;unfold xD at hh;split at hh
  case h_2=>cases hh
  rename_i cs2 Vt;split at hh
  case isFalse=>cases hh
  rename_i I1;obtain⟨r1,r2,r3,r4⟩:=I1;simp at hh;subst hh;simp only[cB,fR,dF] at Vt r1 r2 r3 r4 ⊢;cases hcs1:aH s1.H b with
  |none=>rw[hcs1] at Vt; cases Vt
  |some cs1=>
    rw[hcs1] at Vt;simp at Vt;subst Vt;rw[LN hL] at r1 r4;rw[cQ] at r1 r2
    have Bo:bF (get s1.env fJ).cells=true:=by
     refine xP fun d hd=>?_;obtain⟨j,hj⟩:=bG hd;have:=AL r4 (cW (jU fJ b off) d) (bp (i:=j) (by rw[fc,hj]; rfl));cases d<;>first|rfl|exact this
    have iF:bS ((cs1.drop off).take k)=false:=by
     have key:∀{l:List AV},bS (dp (jU fJ b off) l)=false->bS l=false:=by
      intro l
      induction l with
      |nil=>intro _; rfl
      |cons z r ih=>
        intro h;simp only[dp] at h;cases z<;>simp[cW,jU,bS] at h ⊢<;>exact ih h
     apply key
     have:(dp (jU fJ b off) cs1).drop off=dp (jU fJ b off) (cs1.drop off):=by
      apply dW; intro j; rw[bk,fc,fc,bk]
     rw[this] at r3
     have h2:(dp (jU fJ b off) (cs1.drop off)).take k=dp (jU fJ b off) ((cs1.drop off).take k):=by
      apply dW; intro j; rw[bT,fc,fc,bT]; split<;>rfl
     rw[h2] at r3;exact r3
    obtain⟨as,g1,g2,g3⟩:=gq.box b cs1 hcs1;have hβ1:N1.β b=N.β b:=B9 b hblt;refine nB.ghost ad1 ?_;have dy:=afn (P:=P) fu gq.heap g1 pH (by rw[hβ1]; exact ad1.rep rx) (by have:=gq.env fJ; simp only[if_true] at this; exact this) (by rw[(A4 N1 fJ _).1]; exact r1) (by omega) (Ox gq Bo);refine nB.of dy fun v' w' φ' r hh ad=>?_
    obtain⟨N',e1,QR⟩:=gq.ajU (i:=fJ) (b:=b) (off:=off) (k:=k) (s':=⟨put (l8 (jU fJ b off) s1.env) fJ .any,(gK (jU fJ b off) s1.H).set b (some (kj (dp (jU fJ b off) cs1) off (cW (jU fJ b off) (get s1.env fJ)).cells))⟩) (t':=tm a)
     hcs1 g1 r1 r2 (fun rr z hz p hp=>Jw hcs1 iF (gq.dX hz p hp)) ad hh (fun j=>by simp only[bQ,dF]) rfl (fun j hj=>by simp[hj])
    refine eF.quiet QR ⟨fun d hd=>?_,?_⟩ trivial trivial r
    ·rw[e1,B9 d (by omega)]; exact hbB d hd
    ·simp only[cF,fX]; omega
 ·rename_i akC;simp at hs;obtain⟨rfl,_⟩:=hs;obtain⟨i,hi,_⟩:=PZ s.env [];obtain⟨N1,Wx,gq,B9,hl1⟩:=hpo.put i hi;have hio:bY (get s.env i)=false:=by rw[hi]; rfl
  obtain⟨as,g1,g2,g3⟩:=gq.box b cs dQ;have hβ1:N1.β b=N.β b:=B9 b hblt;have gi:get (put s.env i v) i=v:=by rw[bQ,if_pos rfl]
  have Bo:bF (get (put s.env i v) i).cells=true:=by rw[gi]; exact q3
  have Uf:∀{p},(aB s p).isSome->jj i b off p=p:=by
   intro p hp;have:=xM hio hp;cases p with
   |s j=>simp only[bP,decide_eq_false_iff_not] at this; simp[jj,this]
   |sc j l=>simp only[bP,decide_eq_false_iff_not] at this; simp[jj,this]
   |c d j=>rfl
  have dy:=afn (P:=P) fu gq.heap g1 pH (by rw[hβ1]; exact rx) (by have:=gq.env i; simp only[if_true] at this; exact this) (by rw[(A4 N1 i _).1,gi]; exact q1) (by omega) (Ox gq Bo);refine nB.of dy fun v' w' φ' r hh ad=>?_
  have hnoC:∀r z,at_ ⟨put s.env i v,s.H⟩ r=some z->∀p∈aV z,dq b off k p=false:=by
   intro r z hz p hp;simp only[ae,not_and,Bool.not_eq_true] at akC;cases hod:bS ((cs.drop off).take k) with
   |false=>exact Jw (s:=⟨put s.env i v,s.H⟩) dQ hod (gq.dX hz p hp)
   |true=>
     have hn:=akC hod;simp only[Nh,fi] at hn;cases r with
     |s j=>
       simp only[at_,bQ,af] at hz;subst hz;split at hp
       ·exact lU hn.1 p hp
       ·exact uO hn.2.1 j p hp
     |sc j l=>
       simp only[at_,bQ] at hz;split at hz
       ·rename_i ds qG;split at qG
        ·subst qG;exact lU hn.1 p (by simp only[aV]; exact nq hz hp)
        ·exact uO hn.2.1 j p (by rw[qG]; simp only[aV]; exact nq hz hp)
       ·cases hz
     |c d l=>
       simp only[at_] at hz;split at hz
       ·rename_i ds qG;exact xN hn.2.2 d ds qG p (nq hz hp)
       ·cases hz
  obtain⟨N',e1,QR⟩:=gq.ajU (i:=i) (b:=b) (off:=off) (k:=k) (s':=⟨s.env,s.H.set b (some (kj cs off v.cells))⟩) (t':=tm a) dQ g1 (by rw[gi]; exact q1) q2 hnoC ad hh
   (fun j=>by
    simp only[bQ];by_cases hj:j=i
    ·rw[if_pos hj,hj]; exact hi
    ·rw[if_neg hj,if_neg hj,vh (wy i b off) _ (fun p hp=>Uf (h.dX (r:=.s j) rfl p hp))])
   (by
    simp only[gi]
    rw[IW (wy i b off) s.H (fun d ds hd p hp=>Uf (by
     obtain⟨j,z,h1,h2⟩:=Sa hp;exact h.dX (r:=.c d j) (by rw[AE hd]; exact h1) p h2)),
     uw (wy i b off) cs (fun p hp=>Uf (by
     obtain⟨j,z,h1,h2⟩:=Sa hp;exact h.dX (r:=.c b j) (by rw[AE dQ]; exact h1) p h2)),
     vh (wy i b off) v (fun p hp=>Uf (F3 v hpo.ok p hp))])
   (fun j hj=>by simp[hj])
  refine eF.quiet QR ⟨fun d hd=>?_,?_⟩ trivial trivial r
  ·rw[e1,B9 d (by omega)]; exact hbB d hd
  ·simp only[cF]; omega
end
end Go.Bm

/- Maps, whose entries are a box of plain values. -/
namespace Go.Bm
open Go.Am
theorem gg:∀{cs:List AV},dc cs=true->∀(i:Nat) (c:AV),cs[i]?=some c->pl c=true
 |x::r,h,0,c,hc=>by simp only[dc,ae] at h; simp at hc; subst hc; exact h.1
 |x::r,h,i+1,c,hc=>by simp only[dc,ae] at h; exact gg h.2 i c (by simpa using hc)
theorem ug {x:AV} (h:pl x=true):bY x=false:=by
 cases x<;>first|rfl|(simp[pl] at h; done)|skip
 rename_i cs;simp only[pl] at h;simp only[bY]
 induction cs with
 |nil=>rfl
 |cons y r ih=>
   simp only[dc,ae] at h;have h1:=h.1;cases y<;>first|exact ih h.2|(simp[pl] at h1; done)
theorem aa0:∀{xs ys:List AV},dc xs=true->dc ys=true->dc (xs++ys)=true
 |[],_,_,h=>h
 |x::r,ys,h,k=>by simp only[List.cons_append,dc,ae] at h ⊢; exact⟨h.1,aa0 h.2 k⟩
theorem aaZ:∀{xs:List AV} {i:Nat} {y:AV},dc xs=true->pl y=true->dc (xs.set i y)=true
 |[],_,_,_,_=>rfl
 |x::r,0,y,h,k=>by simp only[List.set_cons_zero,dc,ae] at h ⊢; exact⟨k,h.2⟩
 |x::r,i+1,y,h,k=>by simp only[List.set_cons_succ,dc,ae] at h ⊢; exact⟨h.1,aaZ h.2 k⟩
theorem _root_.Go.Am.bR.zq {R:Addr->Value->Prop} {φ:dx} {k b off len:Nat} {v:Value} (r:bR R φ (.sl k b off len) v) {g sz:Nat} (e:φ[b]?=some (some (g,sz))):0<sz:=by
 cases r with
 |sl _ _ _ _ _ a cap hb hc h=>have:=(h g sz e).2; omega
theorem _root_.Go.Am.bR.ah2 {R:Addr->Value->Prop} {φ:dx} {b off:Nat} {v:Value} (r:bR R φ (.ptr b off) v) {g sz:Nat} (e:φ[b]?=some (some (g,sz))):0<sz:=by
 cases r with
 |ptr _ _ _ a hb h=>exact (h g sz e).2
theorem less {X:Nat->Prop} {φ:dx} {w:World} {Ha:Heap} (h:cm X φ w Ha) {n:Nat} {cs cs':List AV} (hb:aH Ha n=some cs) (hl:cs'.length<=cs.length) (hs:(∀g sz,φ[n]?=some (some (g,sz))->0<sz)\/cs'.length=cs.length) (hc:∀(i:Nat) (d:AV),cs'[i]?=some d->∃a,cs[i]?=some a/\Le d a):cm X φ w (Ha.set n (some cs')):=by
 refine⟨by simp[h.len],h.GR,fun b ds mT=>?_,fun b mT=>?_,h.inj⟩
 ·rw[aU] at mT;split at mT
  ·rename_i e;subst e;split at mT
   ·simp at mT;subst mT;obtain⟨g,sz,arr,e,g1,g2,g3,g4,g5,g6⟩:=h.at hb;refine⟨g,sz,arr,e,g1,g2,g3,⟨by omega,fun z=>hs.elim (fun hs=>absurd (hs g sz g1) (by omega)) (fun hs=>hs.trans (g4.2 z))⟩,g5,fun i d hd=>?_⟩;obtain⟨a,ha,hle⟩:=hc i d hd;obtain⟨u,u1,u2⟩:=g6 i a ha;exact⟨u,u1,hle _ _ _ u2⟩
   ·cases mT
  ·exact h.live b ds mT
 ·rw[aU] at mT;split at mT
  ·split at mT<;>simp at mT
  ·exact h.dead b mT
theorem F2 {e:Env} {H:Heap} {d j:Nat} (hp:∀cs,aH H d=some cs->dc cs=true):aB ⟨e,H⟩ (.c d j)=none:=by
 cases ho:aB ⟨e,H⟩ (.c d j) with
 |none=>rfl
 |some y=>
   obtain⟨k,xs⟩:=y;have h1:=cD.1 ho;simp only[at_] at h1;split at h1
   ·rename_i ds hd;have:=gg (hp ds hd) j _ h1;simp[pl] at this
   ·cases h1
theorem tv (N:Names) (p:Rt) {z:AV} (hz:pl z=true):jG N p z=z:=by
 cases z<;>first|exact mj N _ hz|(simp[pl] at hz; done)
theorem A5 (N:Names) {z:AV} (hz:pl z=true):gU N z=z:=by
 cases z<;>first|exact mj N _ hz|(simp[pl] at hz; done)
theorem ff.QS {X:Nat->Prop} {φ l5:dx} {w w1:World} {N:Names} {s:St} {Ha Ha':Heap} {t:Nat->Value} (h:ff X φ w N s Ha t) {b:Nat} {cs cs':List AV} (hb:aH s.H b=some cs) (Kq:dc cs=true) (XZ:dc cs'=true) (ad:ft φ w l5 w1) (hh:cm X l5 w1 Ha') (Iq:aH Ha' (N.β b)=some cs') (Gs:∀m,m≠N.β b->aH Ha' m=aH Ha m):ff X l5 w1 N ⟨s.env,s.H.set b (some cs')⟩ Ha' t:=by
 have hoa:∀p,aB ⟨s.env,s.H.set b (some cs')⟩ p=aB s p:=by
  intro p;cases p with
  |s i=>rfl
  |sc i j=>rfl
  |c d j=>
    by_cases e:d=b
    ·subst e;rw[F2 (e:=s.env) (H:=s.H.set d (some cs')) (d:=d) (j:=j) fun ds hd=>by rw[dH,if_pos ⟨rfl,dU hb⟩] at hd; cases hd; exact XZ];exact (F2 (e:=s.env) (H:=s.H) (d:=d) (j:=j) fun ds hd=>by rw[hb] at hd; cases hd; exact Kq).symm
    ·simp only[aB,at_];rw[dH,if_neg (fun h=>e h.1)]
 have hfe:aB ⟨s.env,s.H.set b (some cs')⟩=aB s:=funext hoa;have hlen:(s.H.set b (some cs')).length=s.H.length:=by simp
 have hblk:∀d ds,aH (s.H.set b (some cs')) d=some ds->(d=b/\ds=cs')\/(d≠b/\aH s.H d=some ds):=by
  intro d ds e;by_cases e2:d=b
  ·subst e2;rw[dH,if_pos ⟨rfl,dU hb⟩] at e;cases e;exact .inl ⟨rfl,rfl⟩
  ·rw[dH,if_neg (fun h=>e2 h.1)] at e;exact .inr ⟨e2,e⟩
 have agl:∀d,(aH (s.H.set b (some cs')) d).isSome->(aH s.H d).isSome:=by
  intro d e;obtain⟨ds,hd⟩:=bf.1 e;rcases hblk d ds hd with⟨rfl,_⟩|⟨_,h2⟩
  ·rw[hb]; rfl
  ·rw[h2]; rfl
 have N3:(aH s.H b).isSome:=by rw[hb]; rfl
 refine⟨fun i=>ad.rep (h.env i),fun i=>?_,hh,fun p k xs e=>?_,fun d ds e=>?_,fun p q n e1 e2=>?_,fun d p e1 e2=>?_,fun d e0 e1 e2 e3=>?_⟩
 ·rw[hfe];show cS _ (s.H.set b (some cs')).length _;rw[hlen]; exact h.IL i
 ·rw[hoa] at e;have ho:=h.own p k xs e;cases hn:N.ν p with
  |none=>rw[hn] at ho; exact ho
  |some m=>
    rw[hn] at ho;obtain⟨ds,d1,d2⟩:=ho;have qF:m≠N.β b:=fun e2=>h.bx b p N3 (by rw[e]; rfl) (by rw[hn,e2]);exact⟨ds,by rw[Gs _ qF]; exact d1,d2⟩
 ·rcases hblk d ds e with⟨rfl,rfl⟩|⟨hd,H5⟩
  ·exact⟨_,Iq,rfl,fun j d hd=>⟨wv _ (gg XZ j d hd),d,hd,by rw[tv _ _ (gg XZ j d hd)]; exact Le.refl _⟩⟩
  ·obtain⟨as2,x1,x2,x3⟩:=h.box d ds H5;have qF:N.β d≠N.β b:=fun h2=>hd (h.bi d b (by rw[H5]; rfl) N3 h2);refine⟨as2,by rw[Gs _ qF]; exact x1,x2,fun j d' hd'=>?_⟩;obtain⟨y1,y2⟩:=x3 j d' hd';refine⟨?_,y2⟩;rw[hfe];show cS _ (s.H.set b (some cs')).length _;rw[hlen]; exact y1
 ·rw[hoa] at e1 e2; exact h.inj p q n e1 e2
 ·rw[hoa] at e2; exact h.bx d p (agl d e1) e2
 ·exact h.bi d e0 (agl d e1) (agl e0 e2) e3

section
variable {P:Program} {X:Nat->Prop} {φ φ':dx} {w w':World} {N N':Names} {s s' s1:St} {Ha Ha':Heap} {t t':Nat->Value} {B:Nat->Nat} {base:Nat} {v va:AV} {v':Value} {c:eS} {o:Oper} {a:Act} {kd:Kd} {call:Nat->List AV->Heap->Option (AV × Heap)}
theorem ff.aba (h:ff X φ w N s Ha t) {p:Rt} {k n:Nat} {xs:List AV} (hp:aB s p=some (k,xs)) (hn:N.ν p=some n) {g sz:Nat} (e:φ[n]?=some (some (g,sz))):0<sz:=by
 have ha:=cD.1 hp;cases p with
 |s i=>
   simp only[at_,af] at ha;have r:=h.env i;rw[ha] at r;simp only[lZ,jG,sN,hn] at r;exact r.zq e
 |sc i j=>
   simp only[at_] at ha;split at ha
   case h_2=>cases ha
   rename_i cs dQ;have r:=h.env i;rw[dQ] at r;simp only[lZ] at r;generalize t i=v at r;cases r with
   |agg _ _ vs hl hh=>
     obtain⟨u,hu⟩:=cc (l:=vs) (i:=j) (by have:=az ha; rw[gQ] at hl; omega);have r2:=hh j _ u (by rw[gC,ha]; rfl) hu;simp only[fT,jG,sN,hn] at r2;exact r2.zq e
 |c b j=>
   simp only[at_] at ha;split at ha
   case h_2=>cases ha
   rename_i cs dQ;obtain⟨as,a1,a2,a3⟩:=h.box b cs dQ;obtain⟨_,a',b1,b2⟩:=a3 j _ ha;obtain⟨_,_,_,_,_,_,_,_,_,g6⟩:=h.heap.at a1;obtain⟨u,_,u2⟩:=g6 j a' b1;have r2:=b2 _ _ _ u2;simp only[jG,sN,hn] at r2;exact r2.zq e
theorem ff.akv (h:ff X φ w N s Ha t) {b:Nat} {es:List AV} (hb:aH s.H b=some es) (hp:dc es=true):∃Wx,aH Wx (N.β b)=some es/\ff X φ w N s Wx t:=by
 obtain⟨as,b1,b2,b3⟩:=h.box b es hb
 have hh:cm X φ w (Ha.set (N.β b) (some es)):=less h.heap b1 (by omega) (.inr (by omega)) fun i d hd=>by
  obtain⟨_,a',a1,a2⟩:=b3 i d hd;rw[tv N _ (gg hp i d hd)] at a2;exact⟨a',a1,a2⟩
 have Iq:aH (Ha.set (N.β b) (some es)) (N.β b)=some es:=by rw[dH,if_pos ⟨rfl,dU b1⟩]
 have h2:=h.QS hb hp hp (.refl φ w) hh Iq fun m hm=>by rw[dH,if_neg (fun e=>hm e.1)]
 have he:s.H.set b (some es)=s.H:=by
  apply dW;intro i;rw[aU];split
  ·rename_i e; subst e; rw[if_pos (dU hb)]; exact (uM hb).symm
  ·rfl
 rw[he] at h2;exact⟨_,Iq,h2⟩
theorem Un {K:Kt} {x:AV}:∀{cs:List AV} {i:Nat} {p:Nat × AV},iY K x cs i=some (some p)->dc cs=true->pl p.2=true
 |[],_,_,h,_=>by simp[iY] at h
 |c::cs,i,p,h,hp=>by
   obtain⟨k',v,rfl,h2⟩:=Dm h;simp only[dc,pl,ae] at hp;rcases h2 with⟨_,h3⟩|⟨_,h3⟩
   ·simp only[af] at h3; subst h3; exact hp.1.2.1
   ·exact Un h3 hp.2
theorem afQ {K:Kt} {x:AV} {cs:List AV} {ok:Bool} {z:AV} {r:Option (Nat × AV)} (hf:iY K x cs 0=some r) (hp:dc cs=true) (hz:pl z=true):pl (mgv ok z r)=true:=by
 cases r with
 |none=>cases ok<;>simp[mgv,pl,dc,hz]
 |some p=>
   have:=Un hf hp;cases ok<;>simp[mgv,pl,dc,this]
theorem afR {c:eS} {call:Nat->List AV->Heap->Option (AV × Heap)} {s s1:St} {K:Kt} {ok:Bool} {z v:AV} {x k:E} {f:Fq} (h:fD c call s (.BP K ok z x k)=some (v,s1,f)) :
  ∃ b es r,mapOf (bq c s.env x)=some b/\aH s.H b=some es/\(dc es=true/\(pl (bq c s.env k)=true/\Bi K (bq c s.env k) (bq c s.env k)=some true))/\iY K (bq c s.env k) es 0=some r/\pl z=true/\v=mgv ok z r/\s1=s/\f=.rd [.c b 1]:=by
 simp only[fD] at h;split at h
 case h_2=>cases h
 rename_i b e1;split at h
 case h_2=>cases h
 rename_i es e2;split at h
 case isFalse=>cases h
 rename_i hp;split at h
 case h_2=>cases h
 rename_i r e3;split at h
 case isFalse=>cases h
 rename_i hz;simp only[af,aF] at h;obtain⟨rfl,rfl,rfl⟩:=h;exact⟨b,es,r,e1,e2,hp,e3,hz,rfl,rfl,rfl⟩
theorem afJ {c:eS} {call:Nat->List AV->Heap->Option (AV × Heap)} {s s1:St} {K:Kt} {v:AV} {x k y:E} {f:Fq} (h:fD c call s (.Df K x k y)=some (v,s1,f)) :
  ∃ b es r,mapOf (bq c s.env x)=some b/\aH s.H b=some es/\(dc es=true/\((pl (bq c s.env k)=true/\pl (bq c s.env y)=true)/\Bi K (bq c s.env k) (bq c s.env k)=some true))/\iY K (bq c s.env k) es 0=some r/\v=.undef/\s1=⟨s.env,s.H.set b (some (Dh (bq c s.env k) (bq c s.env y) es r))⟩/\f=.all:=by
 simp only[fD] at h;split at h
 case h_2=>cases h
 rename_i b e1;split at h
 case h_2=>cases h
 rename_i es e2;split at h
 case isFalse=>cases h
 rename_i hp;split at h
 case h_2=>cases h
 rename_i r e3;simp only[af,aF] at h;obtain⟨rfl,rfl,rfl⟩:=h;exact⟨b,es,r,e1,e2,hp,e3,rfl,rfl,rfl⟩
theorem ag2 {op:Op} {K:Kt} {ok:Bool} {z:AV} {x k:E} (h:di P op (.BP K ok z x k)=true):(∃y,dj y x=true)/\∃ y,dj y k=true:=by
 cases op<;>simp[di] at h
 exact⟨⟨_,h.1.2⟩,⟨_,h.2⟩⟩
theorem ag1 {op:Op} {K:Kt} {x k y:E} (h:di P op (.Df K x k y)=true):(∃z,dj z x=true)/\(∃z,dj z k=true)/\∃ z,dj z y=true:=by
 cases op<;>simp[di] at h
 exact⟨⟨_,h.1.1.2⟩,⟨_,h.1.2⟩,⟨_,h.2⟩⟩
theorem LL (b:Nat):mapOf (qp b)=some b:=rfl
theorem adK (N:Names) (b:Nat):gU N (qp b)=qp (N.β b):=rfl
theorem afr (hm:P.follows .mixedOrders=true) (h:SB X φ w B base s (tm a)) (hg:Am.eI (iu c) X φ w) (hk:di P o.op (nj .Ga)=true):nB P X φ w B base ⟨s.env,s.H++[some []]⟩ (qp s.H.length) o a:=by
 obtain⟨N,Ha,h,hb,hl⟩:=h;refine nB.of (nu hm h hg hk (by simp only[nj,ga]; rfl)) fun v' w' φ' r hh ad=>?_;obtain⟨N',n1,n2,h'⟩:=h.Rn (zs:=[]) ad hh trivial (fun j k xs hj=>by simp at hj) rfl;refine eF.quiet h' ⟨fun b bE=>by rw[n1 b (by omega)]; exact hb b bE,by simp; omega⟩ ⟨trivial,⟨by simp[cS],trivial⟩,fun _=>⟨rfl,_,rfl⟩⟩ trivial ?_;simp only[zd,cU,mX,qp,n2];exact r
theorem aft (hm:P.follows .mixedOrders=true) (h:SB X φ w B base s (tm a)) (hg:Am.eI (iu c) X φ w) {K:Kt} {ok:Bool} {z:AV} {x k:E} (hk:di P o.op (nj (.BP K ok z x k))=true) {b:Nat} {es:List AV} {r:Option (Nat × AV)}
  (hx:mapOf (bq c s.env x)=some b) (hb:aH s.H b=some es) (hp:dc es=true/\(pl (bq c s.env k)=true/\Bi K (bq c s.env k) (bq c s.env k)=some true)) (hf:iY K (bq c s.env k) es 0=some r) (hz:pl z=true):nB P X φ w B base s (mgv ok z r) o a:=by
 obtain⟨N,Ha,h,Fe⟩:=h;obtain⟨Wx,q1,h1⟩:=h.akv hb hp.1;obtain⟨⟨y1,k1⟩,y2,k2⟩:=ag2 hk;have ex:=cM (c:=c) (cA:=iu c) h1 rfl k1;have ek:=cM (c:=c) (cA:=iu c) h1 rfl k2;have hmv:=EW hx;have oS:pl (mgv ok z r)=true:=afQ hf hp.1 hz;refine nB.of (nu hm h1 hg hk (va:=mgv ok z r) (Ha':=Wx) (fl:=.rd (N.β b)) ?_) fun v' w' φ' r' hh ad=>?_
 ·simp only[nj,ga,ex.ev,ek.ev,hmv,adK,A5 N hp.2.1,LL,q1,hp.2.2,if_true,hf]
 ·refine eF.quiet (h1.oN ad hh h1.own (fun _ _=>rfl)) Fe (wv _ oS) (oK (ug oS)) ?_;rw[nF N (ug oS),mj N _ oS]; exact r'
theorem afq (hm:P.follows .mixedOrders=true) (h:SB X φ w B base s (tm a)) (hg:Am.eI (iu c) X φ w) {K:Kt} {x k y:E} (hk:di P o.op (nj (.Df K x k y))=true) {b:Nat} {es:List AV} {r:Option (Nat × AV)}
  (hx:mapOf (bq c s.env x)=some b) (hb:aH s.H b=some es) (hp:dc es=true/\((pl (bq c s.env k)=true/\pl (bq c s.env y)=true)/\Bi K (bq c s.env k) (bq c s.env k)=some true)) (hf:iY K (bq c s.env k) es 0=some r):nB P X φ w B base ⟨s.env,s.H.set b (some (Dh (bq c s.env k) (bq c s.env y) es r))⟩ .undef o a:=by
 obtain⟨N,Ha,h,Fe⟩:=h;obtain⟨Wx,q1,h1⟩:=h.akv hb hp.1;obtain⟨⟨y1,k1⟩,⟨y2,k2⟩,y3,k3⟩:=ag1 hk;have ex:=cM (c:=c) (cA:=iu c) h1 rfl k1;have ek:=cM (c:=c) (cA:=iu c) h1 rfl k2;have ey:=cM (c:=c) (cA:=iu c) h1 rfl k3;have hmv:=EW hx
 have oS:dc (Dh (bq c s.env k) (bq c s.env y) es r)=true:=by
  have hkv:pl (.dR [bq c s.env k,bq c s.env y])=true:=by simp[pl,dc,hp.2.1.1,hp.2.1.2]
  cases r with
  |none=>exact aa0 hp.1 (by simp[dc,hkv])
  |some p=>exact aaZ hp.1 hkv
 refine nB.of (nu hm h1 hg hk (va:=.undef) (Ha':=Wx.set (N.β b) (some (Dh (bq c s.env k) (bq c s.env y) es r))) (fl:=.wr Wx.length [N.β b]) ?_) fun v' w' φ' r' hh ad=>?_
 ·simp only[nj,ga,ex.ev,ek.ev,ey.ev,hmv,adK,A5 N hp.2.1.1,A5 N hp.2.1.2,LL,q1,hp.2.2,if_true,hf]
 ·refine eF.quiet (h1.QS hb hp.1 oS ad hh (by rw[dH,if_pos ⟨rfl,dU q1⟩]) fun m hm=>by rw[dH,if_neg (fun e=>hm e.1)]) ⟨Fe.1,by simpa using Fe.2⟩ trivial trivial r'
end
end Go.Bm

/- Every operation that calls nothing. -/
namespace Go.Bm
open Go.Am
def pG:Kd->Bool
 |.call _ _=>true
 |.jM _ _=>true
 |_=>false
section
variable {P:Program} {X:Nat->Prop} {φ φ':dx} {w w':World} {N N':Names} {s s' s1:St} {Ha Ha':Heap} {t t':Nat->Value} {B:Nat->Nat} {base:Nat} {v va:AV} {v':Value} {c:eS} {o:Oper} {a:Act} {kd:Kd} {call:Nat->List AV->Heap->Option (AV × Heap)}
theorem abj (hm:P.follows .mixedOrders=true) (h:SB X φ w B base s (tm a)) (hg:Am.eI (iu c) X φ w) {k:Nat} {zs:List AV} {x:E} (hk:di P o.op (nj (.Rg k zs x))=true) (BQ:(∃k',bq c s.env x=.own k' [])\/∃ k',bq c s.env x=.list k' []):nB P X φ w B base s .undef o a:=by
 obtain⟨N,Ha,h,hb⟩:=h;obtain⟨_,o1,h1⟩:=ajw hk;have hx:=cM (c:=c) (cA:=iu c) h rfl h1;refine nB.of (nu (va:=.undef) (Ha':=Ha) hm h hg hk (fl:=.wr Ha.length []) ?_) fun v' w' φ' r hh ad=>?_
 ·rcases BQ with⟨k',e⟩|⟨k',e⟩<;>simp only[nj,ga,hx.ev,e,gU,cU]
 ·exact eF.quiet (h.oN ad hh h.own (fun _ _=>rfl)) hb trivial trivial r
theorem ain (hm:P.follows .mixedOrders=true) (h:SB X φ w B base s (tm a)) (hg:Am.eI (iu c) X φ w) {n m b off:Nat} {x:E} {hi:Option E} {cs:List AV} (hk:di P o.op (nj (.Of n x hi))=true) (e1:bq c s.env x=.ptr b off) (mT:DM c s.env n n hi=some m) (hbk:aH s.H b=some cs) (hl:off+n<=cs.length):nB P X φ w B base s (.sl 1 b off m) o a:=by
 obtain⟨N,Ha,h,hb⟩:=h;obtain⟨⟨o1,h1⟩,h2⟩:=acm hk;have hx:=cM (c:=c) (cA:=iu c) h rfl h1;have g2:=YJ (cA:=iu c) h rfl h2 mT;obtain⟨as,a1,a2,_⟩:=h.box b cs hbk;refine nB.of (nu (va:=.sl 1 (N.β b) off m) (Ha':=Ha) hm h hg hk (fl:=.rd (N.β b)) ?_) fun v' w' φ' r hh ad=>?_
 ·simp only[nj,ga,hx.ev,e1,gU,cU,g2,a1,a2];rw[if_pos hl]
 ·exact eF.quiet (h.oN ad hh h.own (fun _ _=>rfl)) hb (dU hbk) trivial r
theorem agJ {k off:Nat} {xs ys:List AV} (h1:∀x∈xs,x.cells.length=k) (h2:∀y∈ys,y.cells.length=k):aC (kj xs off ys)=kj (aC xs) (off*k) (aC ys):=by
 unfold kj;rw[me,me,Bt h1,Qe h1,gV h2,cO]
theorem afv (hm:P.follows .mixedOrders=true) (h:SB X φ w B base s (tm a)) (hg:Am.eI (iu c) X φ w) {k off n:Nat} {x y:E} (hk:di P o.op (nj (.copy k x y))=true) {p:Rt} {xs ys:List AV} (BQ:bq c s.env x=.dX k p off n) (hp:aB s p=some (k,xs)) (hle:off+n<=xs.length) (hn0:n≠0) (hy:cont s k (bq c s.env y)=some ys) (Bo:bF (aC ys)=true):nB P X φ w B base (setAt s p (.own k (kj xs off (ys.take (min ys.length n))))) (.int .i64 (min ys.length n:Nat)) o a:=by
 obtain⟨N,Ha,h,hb⟩:=h;obtain⟨⟨o1,h1⟩,o2,h2⟩:=V0 hk;have hx:=cM (c:=c) (cA:=iu c) h rfl h1;have dy:=hx.ok;rw[BQ] at dy;obtain⟨news,n1,n2,n3,n4,n5⟩:=I5 h hg h2 hy Bo;have eZ:=h.own p k xs hp;rcases vI h dy with⟨b,hn,e2⟩|⟨_,_,Vp,_⟩
 case inr=>exact absurd Vp hn0
 rw[hn] at eZ;obtain⟨cs,q1,q2,q3,q4⟩:=eZ
 have Is:off*k+n*k<=cs.length:=by
  have:=bV k hle;rw[cO] at this; omega
 generalize hm2:min ys.length n=m;have hm3:m<=n/\m<=ys.length:=by omega
 have hmk:m*k<=n*k:=bV k hm3.1
 have hml:(news.take (m*k)).length=m*k:=by
  rw[bD,n2];have:=bV k hm3.2;omega
 have IZ:∀z∈ys.take m,z.cells.length=k:=fun z hz=>n3 z (du hz);have Qi:aC (ys.take m)=(aC ys).take (m*k):=Bt n3 m;have hyl:(ys.take m).length=m:=by rw[bD]; omega
 have hfl2:(aC (ys.take m)).length=m*k:=by rw[gV IZ,hyl]
 have hxk:off*k+m*k<=(aC xs).length:=by
  rw[gV q3];have:=bV k hle;rw[cO] at this; omega
 refine nB.of (nu (va:=.int .i64 (m:Nat)) (Ha':=Ha.set b (some (kj cs (off*k) (news.take (m*k))))) hm h hg hk (fl:=.wr Ha.length [b]) ?_) fun v' w' φ' r hh ad=>?_
 ·simp only[nj,ga,n1,hx.ev,BQ,gU,e2,q1,hm2];rw[if_pos ⟨trivial,Is,n4⟩]
 have hnew:rF (Ha.set b (some (kj cs (off*k) (news.take (m*k))))) (some b) k (kj xs off (ys.take m)):=by
  refine⟨kj cs (off*k) (news.take (m*k)),by rw[dH,if_pos ⟨rfl,dU q1⟩],?_,?_,?_⟩
  ·rw[gT (by rw[hyl]; omega),gT (by rw[hml]; omega)]; exact q2
  ·intro z hz;unfold kj at hz;simp only[aI] at hz;rcases hz with (hz|hz)|hz
   ·exact q3 z (du hz)
   ·exact IZ z hz
   ·exact q3 z (dv hz)
  ·intro i d hd;rw[agJ q3 IZ,nG (by rw[hfl2]; exact hxk),hfl2] at hd;rw[nG (by rw[hml]; omega),hml];split
   ·rename_i hc; rw[if_pos hc] at hd; exact q4 i d hd
   ·rename_i hc;rw[if_neg hc] at hd;split
    ·rename_i I1;rw[if_pos I1,Qi,bT,if_pos (by omega)] at hd;obtain⟨f1,e,f2,f3,f4⟩:=n5 _ d hd;exact⟨f1,e,by rw[bT,if_pos (by omega)]; exact f2,f3,f4⟩
    ·rename_i I1; rw[if_neg I1] at hd; exact q4 i d hd
 obtain⟨gq,jI⟩:=h.upd (xs':=kj xs off (ys.take m)) hp hn (gT (by rw[hyl]; omega)) ad hh hnew (fun m' FF=>by rw[dH,if_neg (fun e=>FF e.1)]);exact eF.quiet gq ⟨hb.1,by rw[jI.len]; exact hb.2⟩ trivial trivial r
theorem afw (hm:P.follows .mixedOrders=true) (h:SB X φ w B base s (tm a)) (hg:Am.eI (iu c) X φ w) {k off:Nat} {x y:E} (hk:di P o.op (nj (.copy k x y))=true) {p:Rt} {ys:List AV} (BQ:bq c s.env x=.dX k p off 0) (hy:cont s k (bq c s.env y)=some ys) (Bo:bF (aC ys)=true):nB P X φ w B base s (.int .i64 0) o a:=by
 obtain⟨N,Ha,h,hb⟩:=h;obtain⟨⟨o1,h1⟩,o2,h2⟩:=V0 hk;have hx:=cM (c:=c) (cA:=iu c) h rfl h1;have dy:=hx.ok;rw[BQ] at dy;obtain⟨news,n1,n2,n3,n4,n5⟩:=I5 h hg h2 hy Bo;rcases vI h dy with⟨b,hn,e2⟩|⟨_,_,_,e2⟩
 ·simp only[cS] at dy;obtain⟨xs,hp,hle⟩:=dy;have eZ:=h.own p k xs hp;rw[hn] at eZ;obtain⟨cs,q1,q2,q3,q4⟩:=eZ
  have Is:off*k+0*k<=cs.length:=by
   have:=bV k hle;rw[cO] at this; omega
  refine nB.of (nu (va:=.int .i64 0) (Ha':=Ha) hm h hg hk (fl:=.wr Ha.length [b]) ?_) fun v' w' φ' r hh ad=>eF.quiet (h.oN ad hh h.own (fun _ _=>rfl)) hb trivial trivial r;have he:kj cs (off*k) []=cs:=by unfold kj; simp
  have Iq:Ha.set b (some cs)=Ha:=by
   apply dW;intro i;rw[aU];split
   ·rename_i hbi; subst hbi; rw[if_pos (dU q1)]; exact (uM q1).symm
   ·rfl
  simp only[nj,ga,n1,hx.ev,BQ,gU,e2,q1];rw[if_pos ⟨trivial,Is,n4⟩];simp[he,Iq]
 ·refine nB.of (nu (va:=.int .i64 0) (Ha':=Ha) hm h hg hk (fl:=.wr Ha.length []) ?_) fun v' w' φ' r hh ad=>eF.quiet (h.oN ad hh h.own (fun _ _=>rfl)) hb trivial trivial r;simp only[nj,ga,n1,hx.ev,BQ,gU,e2]
theorem ah1 {f:Fq} (h1:pG kd=false) (h2:fD c call s kd=some (v,s',f)):(Xm c s.env kd=some v/\s'=s)\/(∃zs,kd=.new zs)\/(∃x,kd=.box x)\/(∃k n zs ps,kd=.dw k n zs ps)\/(∃k zs l cp,kd=.Rr k zs l cp)\/(∃ag x,kd=.ld ag x)\/(∃k x y,kd=.st k x y)\/(∃k zs x,kd=.Rg k zs x)\/(∃k x y,kd=.app k x y)\/(∃n x hi,kd=.Of n x hi)\/(∃k x y,kd=.copy k x y)\/kd=.Ga\/(∃K ok z x k,kd=.BP K ok z x k)\/(∃K x k y,kd=.Df K x k y):=by
 cases kd<;>simp only[fD] at h2<;>first
  | (left
     split at h2
     ·rename_i u hu;simp only[af,aF] at h2;obtain⟨rfl,rfl,_⟩:=h2;exact⟨hu,rfl⟩
     ·cases h2)
  |(right; simp; done)
  |(simp[pG] at h1; done)
theorem alO (hm:P.follows .mixedOrders=true) (h:SB X φ w B base s (tm a)) (hg:Am.eI (iu c) X φ w) {f:Fq} (hk:di P o.op (nj kd)=true) (hnc:pG kd=false) (hs:fD c call s kd=some (v,s',f)):nB P X φ w B base s' v o a:=by
 rcases ah1 hnc hs with⟨h1,rfl⟩|⟨zs,rfl⟩|⟨x,rfl⟩|⟨k,n,zs,ps,rfl⟩|⟨k,zs,l,cp,rfl⟩|⟨ag,x,rfl⟩|⟨k,x,y,rfl⟩|⟨k,zs,x,rfl⟩|⟨k,x,y,rfl⟩|⟨n,x,hi,rfl⟩|⟨k,x,y,rfl⟩|rfl|⟨K,ok,z,x,k,rfl⟩|⟨K,x,k,y,rfl⟩
 ·exact abg hm h hg hk h1
 ·simp only[fD,af,aF] at hs;obtain⟨rfl,rfl,_⟩:=hs;exact Xn hm h hg hk
 ·simp only[fD] at hs;split at hs
  case isFalse=>cases hs
  rename_i hl;simp only[af,aF] at hs;obtain⟨rfl,rfl,_⟩:=hs;exact aim hm h hg hk hl
 ·simp only[fD] at hs;split at hs
  case h_2=>cases hs
  rename_i cs hf;split at hs
  case isFalse=>cases hs
  rename_i hz;simp only[af,aF] at hs;obtain⟨rfl,rfl,_⟩:=hs;obtain⟨l5,h1,a1⟩:=SB.eO (iy c s.env ps) h;exact nB.ghost a1 (Xq hm h1 (hg.oN a1) hk hf hz)
 ·simp only[fD] at hs;split at hs
  case h_2=>cases hs
  rename_i k1 l' k2 cp' e1 e2;split at hs
  case isFalse=>cases hs
  rename_i hc;split at hs
  ·rename_i z hz;simp only[af,aF] at hs;obtain⟨rfl,rfl,_⟩:=hs;exact aif hm h hg hk hz e1 e2 hc
  ·simp only[af,aF] at hs;obtain⟨rfl,rfl,_⟩:=hs;exact aih hm h hg hk e1 e2 hc
 ·simp only[fD] at hs;split at hs
  case h_2=>cases hs
  rename_i u ps hp;split at hs
  case isFalse=>cases hs
  simp only[af,aF] at hs;obtain⟨rfl,rfl,_⟩:=hs;exact alZ hm h hg hk hp
 ·simp only[fD] at hs;split at hs
  ·rename_i k' p i off e0;split at hs
   case h_2=>cases hs
   rename_i s2 f2 h2;simp only[af,aF] at hs;obtain⟨rfl,rfl,_⟩:=hs;obtain⟨l5,h1,a1⟩:=SB.eO (aV (bq c s.env y)) h;refine nB.ghost a1 ?_;generalize eO (aV (bq c s.env y)) s=s3 at h1 h2;unfold Wo at h2;split at h2
   ·rename_i b off' e1;exact TW hm h1 (hg.oN a1) hk e1 h2
   ·rename_i k2 p2 i2 off2 e1;split at h2
    case h_2=>cases h2
    rename_i k3 xs hp;split at h2
    case isFalse=>cases h2
    rename_i wR;subst wR;split at h2
    case h_2=>cases h2
    rename_i u hu;split at h2
    case isFalse=>cases h2
    rename_i hc;simp only[af,aF] at h2;obtain⟨rfl,_⟩:=h2;exact alR hm h1 (hg.oN a1) hk e1 hp hu hc.1 hc.2.1 hc.2.2
   ·cases h2
  ·rename_i hnp;split at hs
   case h_2=>cases hs
   rename_i s2 f2 h2;simp only[af,aF] at hs;obtain⟨rfl,rfl,_⟩:=hs;unfold Wo at h2;split at h2
   ·rename_i b off' e1;exact TW hm h hg hk e1 h2
   ·rename_i k2 p2 i2 off2 e1;exact absurd e1 (hnp k2 p2 i2 off2)
   ·cases h2
 ·simp only[fD] at hs;split at hs
  ·rename_i k' e1;simp only[af,aF] at hs;obtain⟨rfl,rfl,_⟩:=hs;exact abj hm h hg hk (.inl ⟨k',e1⟩)
  ·rename_i k' e1;simp only[af,aF] at hs;obtain⟨rfl,rfl,_⟩:=hs;exact abj hm h hg hk (.inr ⟨k',e1⟩)
  ·cases hs
 ·simp only[fD] at hs;split at hs
  case h_2=>cases hs
  rename_i ys hy;split at hs
  case isFalse=>cases hs
  rename_i Bo;split at hs
  ·rename_i k' e1;split at hs
   case isFalse=>cases hs
   rename_i hl;simp only[af,aF] at hs;obtain⟨rfl,rfl,_⟩:=hs;exact aip hm h hg hk e1 hy Bo hl
  ·rename_i k' p len e1;split at hs
   case h_2=>cases hs
   rename_i Bj xs hp;split at hs
   case isFalse=>cases hs
   rename_i hc;obtain⟨rfl,rfl,hle,hl⟩:=hc;simp only[af,aF] at hs;obtain⟨rfl,rfl,_⟩:=hs;exact aio hm h hg hk e1 hp hle hy Bo hl
  ·cases hs
 ·simp only[fD] at hs;split at hs
  ·rename_i b off e1;split at hs
   case h_2=>cases hs
   rename_i m cs mT hbk;split at hs
   case isFalse=>cases hs
   rename_i hl;simp only[af,aF] at hs;obtain⟨rfl,rfl,_⟩:=hs;exact ain hm h hg hk e1 mT hbk hl
  ·split at hs
   case h_2=>cases hs
   rename_i u hu;simp only[af,aF] at hs;obtain⟨rfl,rfl,_⟩:=hs;exact abg hm h hg hk hu
 ·simp only[fD] at hs;split at hs
  case h_2=>cases hs
  rename_i k' p off n e1;split at hs
  ·rename_i hn;subst hn;split at hs
   case h_2=>cases hs
   rename_i ys hy;split at hs
   case isFalse=>cases hs
   rename_i hc;obtain⟨rfl,hl⟩:=hc;simp only[af,aF] at hs;obtain⟨rfl,rfl,_⟩:=hs;exact afw hm h hg hk e1 hy hl
  ·rename_i hn;split at hs
   case h_2=>cases hs
   rename_i Bj xs ys hp hy;split at hs
   case isFalse=>cases hs
   rename_i hc;obtain⟨rfl,rfl,hle,hl⟩:=hc;simp only[af,aF] at hs;obtain⟨rfl,rfl,_⟩:=hs;exact afv hm h hg hk e1 hp hle hn hy hl
 ·simp only[fD,af,aF] at hs;obtain⟨rfl,rfl,_⟩:=hs;exact afr hm h hg hk
 ·simp only[fD] at hs;split at hs
  case h_2=>cases hs
  rename_i b e1;split at hs
  case h_2=>cases hs
  rename_i es e2;split at hs
  case isFalse=>cases hs
  rename_i hp;split at hs
  case h_2=>cases hs
  rename_i r e3;split at hs
  case isFalse=>cases hs
  rename_i hz;simp only[af,aF] at hs;obtain⟨rfl,rfl,_⟩:=hs;exact aft hm h hg hk e1 e2 hp e3 hz
 ·simp only[fD] at hs;split at hs
  case h_2=>cases hs
  rename_i b e1;split at hs
  case h_2=>cases hs
  rename_i es e2;split at hs
  case isFalse=>cases hs
  rename_i hp;split at hs
  case h_2=>cases hs
  rename_i r e3;simp only[af,aF] at hs;obtain⟨rfl,rfl,_⟩:=hs;exact afq hm h hg hk e1 e2 hp e3
end
end Go.Bm

/- Calls: arguments by value. -/
namespace Go.Bm
open Go.Am
section
variable {P:Program} {X:Nat->Prop} {φ φ':dx} {w w':World} {N N':Names} {s s' s1:St} {Ha Ha':Heap} {t t':Nat->Value} {B:Nat->Nat} {base:Nat} {v va:AV} {v':Value} {c:eS} {o:Oper} {a:Act} {kd:Kd} {call:Nat->List AV->Heap->Option (AV × Heap)}
theorem Ij (h:cm X φ w Ha) {n k:Nat} {xs:List AV} (ho:rF Ha (some n) k xs) {off len:Nat} (hle:off+len<=xs.length) {v:Value} (r:bR (Rd X φ w) φ (.sl k n (off*k) len) v) :
  bR (Rd X [] w) [] (.list k ((xs.drop off).take len)) v:=by
 obtain⟨g,sz,jV,hX,hc⟩:=tw h ho;have xx:∀a u,Rd X φ w a u->Rd X [] w a u:=fun a u ⟨h1,_,h3⟩=>⟨h1,bU.nil _,h3⟩;cases r with
 |sl _ _ _ _ _ a cap hb iN hh=>
   obtain⟨h1,h2⟩:=hh g sz jV;by_cases h0:len=0
   ·subst h0;simp only[qK];exact .yG _ _ _ _ _ _ (fun _ _=>undef) rfl iN (fun x hx=>by simp at hx) (fun i j x c hx=>by simp at hx) (fun i j x c hx=>by simp at hx)
   ·have ha:=h1 (by omega);subst ha
    have hx:∀(i:Nat) (x:AV),((xs.drop off).take len)[i]?=some x->xs[off+i]?=some x/\i<len:=by
     intro i x hx;rw[bT] at hx;split at hx
     ·rw[bk] at hx; exact⟨hx,‹_›⟩
     ·cases hx
    obtain⟨cs,q1,q2,hk,q4⟩:=ho;refine .yG _ _ _ _ _ _ (fun i j=>(w.cell? ⟨g,(off+i)*k+j,none⟩).getD undef) (by simp; omega) iN (fun x hm=>?_) (fun i j x c hi hj=>?_) (fun i j x c hi hj=>?_)
    ·exact hk x (dv (du hm))
    ·obtain⟨u,u1,_,_⟩:=hc _ j x c (hx i x hi).1 hj;rw[u1,Addr.jB,show off*k+(i*k+j)=(off+i)*k+j by rw[cO]; omega];exact⟨hX,bU.nil _,u1⟩
    ·obtain⟨u,u1,_,u3⟩:=hc _ j x c (hx i x hi).1 hj;rw[u1];exact u3.mono xx (.refl _)
mutual
theorem gj (h:ff X φ w N s Ha t):∀(x y:AV),nf false s x=some y->cS (aB s) s.H.length x->(pl y=true/\∀ v,bR (Rd X φ w) φ (cU N x) v->bR (Rd X [] w) [] y v)
 |.dX k p off len,y,hf,hk=>by
   simp only[nf] at hf;split at hf
   case h_2=>cases hf
   rename_i k' xs hp;split at hf
   case isFalse=>cases hf
   rename_i hc;obtain⟨rfl,hle⟩:=hc;simp at hf;subst hf;refine⟨rfl,fun v r=>?_⟩;have eZ:=h.own p k' xs hp;rcases vI h hk with⟨n,hn,e2⟩|⟨hn,h0,h1,e2⟩
   ·rw[e2] at r;rw[hn] at eZ;exact Ij h.heap eZ hle r
   ·rw[e2] at r;subst h1;simp only[qK];cases r;exact .lJ _ _
 |.agg cs,y,hf,hk=>by
   simp only[nf] at hf;split at hf
   case h_2=>cases hf
   rename_i ds hd;simp at hf;subst hf;simp only[cS] at hk;obtain⟨h1,h2,h3⟩:=Au h cs ds hd hk;refine⟨h1,fun v r=>?_⟩;simp only[cU] at r;cases r with
   |agg _ _ vs hl hh=>exact .agg _ _ _ (by rw[h2,<-er N cs]; exact hl) (fun i d u H5 hu=>h3 i d u H5 (fun z hz=>hh i z u hz hu))
 |.dR cs,y,hf,hk=>by
   simp only[nf] at hf;split at hf
   case h_2=>cases hf
   rename_i ds hd;simp at hf;subst hf;simp only[cS] at hk;obtain⟨h1,h2,h3⟩:=Au h cs ds hd hk;refine⟨h1,fun v r=>?_⟩;simp only[cU] at r;cases r with
   |dR _ _ vs hl hh=>exact .dR _ _ _ (by rw[h2,<-er N cs]; exact hl) (fun i d u H5 hu=>h3 i d u H5 (fun z hz=>hh i z u hz hu))
 |.func f a b,y,hf,hk=>by
   simp only[nf] at hf;split at hf
   case h_2=>cases hf
   rename_i a' b' ha hb;simp at hf;subst hf;simp only[cS] at hk;obtain⟨h1,h2,h3⟩:=Au h a a' ha hk.1;obtain⟨k1,k2,k3⟩:=Au h b b' hb hk.2.1
   have hny:kB f=false:=by
    cases hy:kB f with
    |false=>rfl
    |true=>obtain⟨_,c,rfl⟩:=hk.2.2 hy; simp[Gz,nf] at hb
   refine⟨by simp only[pl,ae,bN]; exact⟨hny,h1,k1⟩,fun v r=>?_⟩;simp only[cU] at r;rcases r.As with⟨hy,va,vb,rfl,Dz,Dy,hra,hrb⟩|⟨_,_,rfl,_⟩
   case inr=>simp[kB] at hny
   ·exact .func _ _ _ _ _ _ hy (by rw[h2,<-er N a]; exact Dz) (by rw[k2,<-er N b]; exact Dy) (fun i d u H5 hu=>h3 i d u H5 (fun z hz=>hra i z u hz hu)) (fun i d u H5 hu=>k3 i d u H5 (fun z hz=>hrb i z u hz hu))
 |.own _ _,y,hf,hk=>by simp[nf] at hf
 |.fG _ _ _ _,y,hf,hk=>by simp[nf] at hf
 |.ptr _ _,y,hf,hk=>by simp[nf] at hf
 |.sl _ _ _ _,y,hf,hk=>by simp[nf] at hf
 |.any,y,hf,hk=>by simp[nf] at hf
 |.undef,y,hf,hk=>by simp[nf] at hf; subst hf; exact⟨rfl,fun v r=>(r.dL rfl []).mono (fun a u ⟨h1,_,h3⟩=>⟨h1,bU.nil _,h3⟩) (.refl _)⟩
 |.fY,y,hf,hk=>by simp[nf] at hf; subst hf; exact⟨rfl,fun v r=>(r.dL rfl []).mono (fun a u ⟨h1,_,h3⟩=>⟨h1,bU.nil _,h3⟩) (.refl _)⟩
 |.gh,y,hf,hk=>by simp[nf] at hf; subst hf; exact⟨rfl,fun v r=>(r.dL rfl []).mono (fun a u ⟨h1,_,h3⟩=>⟨h1,bU.nil _,h3⟩) (.refl _)⟩
 |.dC,y,hf,hk=>by simp[nf] at hf; subst hf; exact⟨rfl,fun v r=>(r.dL rfl []).mono (fun a u ⟨h1,_,h3⟩=>⟨h1,bU.nil _,h3⟩) (.refl _)⟩
 |.int _ _,y,hf,hk=>by simp[nf] at hf; subst hf; exact⟨rfl,fun v r=>(r.dL rfl []).mono (fun a u ⟨h1,_,h3⟩=>⟨h1,bU.nil _,h3⟩) (.refl _)⟩
 |.bool _,y,hf,hk=>by simp[nf] at hf; subst hf; exact⟨rfl,fun v r=>(r.dL rfl []).mono (fun a u ⟨h1,_,h3⟩=>⟨h1,bU.nil _,h3⟩) (.refl _)⟩
 |.str _,y,hf,hk=>by simp[nf] at hf; subst hf; exact⟨rfl,fun v r=>(r.dL rfl []).mono (fun a u ⟨h1,_,h3⟩=>⟨h1,bU.nil _,h3⟩) (.refl _)⟩
 |.list _ _,y,hf,hk=>by simp[nf] at hf; subst hf; exact⟨rfl,fun v r=>(r.dL rfl []).mono (fun a u ⟨h1,_,h3⟩=>⟨h1,bU.nil _,h3⟩) (.refl _)⟩
 |.dG _,y,hf,hk=>by simp[nf] at hf; subst hf; exact⟨rfl,fun v r=>(r.dL rfl []).mono (fun a u ⟨h1,_,h3⟩=>⟨h1,bU.nil _,h3⟩) (.refl _)⟩
theorem Au (h:ff X φ w N s Ha t):∀(xs ys:List AV),Gz false s xs=some ys->mw (aB s) s.H.length xs->(dc ys=true/\ys.length=xs.length/\∀ (i:Nat) (y:AV) (v:Value),ys[i]?=some y->(∀z,(mX N xs)[i]?=some z->bR (Rd X φ w) φ z v)->bR (Rd X [] w) [] y v)
 |[],ys,hf,_=>by simp[Gz] at hf; subst hf; exact⟨rfl,rfl,fun i y v hy=>by simp at hy⟩
 |x::r,ys,hf,hk=>by
   simp only[Gz] at hf;split at hf
   case h_2=>cases hf
   rename_i y DQ h1 h2;simp at hf;subst hf;obtain⟨a1,a2⟩:=gj h x y h1 hk.1;obtain⟨b1,b2,b3⟩:=Au h r DQ h2 hk.2;refine⟨by simp only[dc,ae]; exact⟨a1,b1⟩,by simp[b2],fun i z v hz hv=>?_⟩;cases i with
   |zero=>simp[mX] at hz hv; subst hz; exact a2 v hv
   |succ i=>simp[mX] at hz hv; exact b3 i z v hz hv
end
theorem agI (h:ff X φ w N s Ha t) {r:Rt} {x y:AV} (hx:at_ s r=some x) (hf:Ym x=some y):(pl y=true/\y.cells=[y])/\∀ v,bR (Rd X φ w) φ (jG N r x) v->bR (Rd X [] w) [] y v:=by
 unfold Ym at hf;split at hf
 ·rename_i k xs;simp at hf;subst hf;refine⟨⟨rfl,rfl⟩,fun v rv=>?_⟩;have eZ:=h.own r k xs (cD.2 hx);simp only[jG,sN] at rv;cases hn:N.ν r with
  |none=>
    rw[hn] at eZ rv;have:xs=[]:=eZ;subst this;simp only at rv;cases rv;exact .lJ _ _
  |some n=>
    rw[hn] at eZ rv;have:=Ij (off:=0) (len:=xs.length) h.heap eZ (by omega) (v:=v) (by simpa using rv);simpa using this
 ·rename_i iF;split at hf
  case isFalse=>cases hf
  rename_i hz;simp at hf;subst hf;obtain⟨h1,h2⟩:=my hz;refine⟨⟨h1,by cases x<;>first|rfl|(simp[AV.leaf] at h2; done)⟩,fun v rv=>?_⟩;have e:jG N r x=cU N x:=by cases x<;>first|rfl|exact (iF _ _ rfl).elim
  rw[e,mj N x h1] at rv;exact (rv.dL (gb _ h1) []).mono (fun a u ⟨h1,_,h3⟩=>⟨h1,bU.nil _,h3⟩) (.refl _)
theorem P8:∀{cs ys:List AV},Ca cs=some ys->ys.length=cs.length/\∀ (i:Nat) (y:AV),ys[i]?=some y->∃x,cs[i]?=some x/\Ym x=some y
 |[],ys,h=>by simp[Ca] at h; subst h; exact⟨rfl,fun i y hy=>by simp at hy⟩
 |x::r,ys,h=>by
   simp only[Ca] at h;split at h
   case h_2=>cases h
   rename_i y DQ h1 h2;simp at h;subst h;obtain⟨k1,k2⟩:=P8 h2;refine⟨by simp[k1],fun i z hz=>?_⟩;cases i with
   |zero=>simp at hz; subst hz; exact⟨x,rfl,h1⟩
   |succ i=>simp at hz; obtain⟨u,u1,u2⟩:=k2 i z hz; exact⟨u,by simpa using u1,u2⟩
theorem VB (h:ff X φ w N s Ha t) {k b off len:Nat} {y:AV} (hf:VC s k b off len=some y):pl y=true/\∀ v,bR (Rd X φ w) φ (cU N (.sl k b off len)) v->bR (Rd X [] w) [] y v:=by
 unfold VC at hf;split at hf
 case h_2=>cases hf
 rename_i cs hb;split at hf
 case isFalse=>cases hf
 rename_i hc;obtain⟨rfl,hle⟩:=hc;split at hf
 case h_2=>cases hf
 rename_i ys hy;simp at hf;subst hf;refine⟨rfl,fun v r=>?_⟩;obtain⟨as,a1,a2,a3⟩:=h.box b cs hb;obtain⟨k1,k2⟩:=P8 hy;have hyl:ys.length=len:=by rw[k1,bD,List.length_drop]; omega
 simp only[cU] at r;cases r with
 |sl _ _ _ _ _ a cap jJ iN hh=>
   obtain⟨g,sz,arr,e,g1,g2,g3,g4,g5,g6⟩:=h.heap.cat a1 (fun g sz q=>by have:=(hh g sz q).2; omega);obtain⟨h1,h2⟩:=hh g sz g1;by_cases h0:len=0
   ·subst h0;have:ys=[]:=eL hyl;subst this;exact .yG _ _ _ _ _ _ (fun _ _=>undef) rfl iN (fun x hx=>by simp at hx) (fun i j x c hx=>by simp at hx) (fun i j x c hx=>by simp at hx)
   ·have ha:=h1 (by omega);subst ha
    have cell:∀(i:Nat) (y:AV),ys[i]?=some y->(pl y=true/\y.cells=[y])/\∃ u,w.cell? ⟨g,off+i,none⟩=some u/\bR (Rd X [] w) [] y u:=by
     intro i y hi;obtain⟨x,x1,x2⟩:=k2 i y hi
     have x3:cs[off+i]?=some x:=by
      rw[bT] at x1;split at x1
      ·rw[bk] at x1; exact x1
      ·cases x1
     obtain⟨_,a',b1,b2⟩:=a3 _ x x3;obtain⟨u,u1,u2⟩:=g6 _ a' b1;obtain⟨c1,c2⟩:=agI h (r:=.c b (off+i)) (x:=x) (by simp only[at_,hb]; exact x3) x2;exact⟨c1,u,by rw[gE g2]; exact u1,c2 u (b2 _ _ _ u2)⟩
    refine .yG _ _ _ _ _ _ (fun i j=>(w.cell? ⟨g,off+i,none⟩).getD undef) hyl.symm iN (fun x hm=>?_) (fun i j x c hi hj=>?_) (fun i j x c hi hj=>?_)
    ·obtain⟨i,hi⟩:=bG hm;rw[(cell i x hi).1.2]; rfl
    ·obtain⟨⟨q1,q2⟩,u,u1,u2⟩:=cell i x hi;rw[q2] at hj;have hj0:j=0:=by have:=az hj; simp at this; exact this
     subst hj0;rw[u1,Addr.jB,show off+(i*1+0)=off+i by omega];exact⟨g5,bU.nil _,u1⟩
    ·obtain⟨⟨q1,q2⟩,u,u1,u2⟩:=cell i x hi;rw[q2] at hj;have hj0:j=0:=by have:=az hj; simp at this; exact this
     subst hj0;simp at hj;subst hj;rw[u1];exact u2
mutual
theorem VD (h:ff X φ w N s Ha t):∀(x y:AV),Yl s x=some y->cS (aB s) s.H.length x->(pl y=true/\∀ v,bR (Rd X φ w) φ (cU N x) v->bR (Rd X [] w) [] y v)
 |.sl k b off len,y,hf,_=>by simp only[Yl] at hf; exact VB h hf
 |.dR cs,y,hf,hk=>by
   simp only[Yl] at hf;split at hf
   case h_2=>cases hf
   rename_i ds hd;simp at hf;subst hf;simp only[cS] at hk;obtain⟨h1,h2,h3⟩:=P6 h cs ds hd hk;refine⟨h1,fun v r=>?_⟩;simp only[cU] at r;cases r with
   |dR _ _ vs hl hh=>exact .dR _ _ _ (by rw[h2,<-er N cs]; exact hl) (fun i d u H5 hu=>h3 i d u H5 (fun z hz=>hh i z u hz hu))
 |.any,y,hf,hk=>gj h _ y hf hk
 |.undef,y,hf,hk=>gj h _ y hf hk
 |.fY,y,hf,hk=>gj h _ y hf hk
 |.gh,y,hf,hk=>gj h _ y hf hk
 |.dC,y,hf,hk=>gj h _ y hf hk
 |.int _ _,y,hf,hk=>gj h _ y hf hk
 |.bool _,y,hf,hk=>gj h _ y hf hk
 |.str _,y,hf,hk=>gj h _ y hf hk
 |.agg _,y,hf,hk=>gj h _ y hf hk
 |.list _ _,y,hf,hk=>gj h _ y hf hk
 |.dG _,y,hf,hk=>gj h _ y hf hk
 |.ptr _ _,y,hf,hk=>gj h _ y hf hk
 |.func _ _ _,y,hf,hk=>gj h _ y hf hk
 |.own _ _,y,hf,hk=>gj h _ y hf hk
 |.dX _ _ _ _,y,hf,hk=>gj h _ y hf hk
 |.fG _ _ _ _,y,hf,hk=>gj h _ y hf hk
theorem P6 (h:ff X φ w N s Ha t):∀(xs ys:List AV),P7 s xs=some ys->mw (aB s) s.H.length xs->(dc ys=true/\ys.length=xs.length/\∀ (i:Nat) (y:AV) (v:Value),ys[i]?=some y->(∀z,(mX N xs)[i]?=some z->bR (Rd X φ w) φ z v)->bR (Rd X [] w) [] y v)
 |[],ys,hf,_=>by simp[P7] at hf; subst hf; exact⟨rfl,rfl,fun i y v hy=>by simp at hy⟩
 |x::r,ys,hf,hk=>by
   simp only[P7] at hf;split at hf
   case h_2=>cases hf
   rename_i y DQ h1 h2;simp at hf;subst hf;obtain⟨a1,a2⟩:=VD h x y h1 hk.1;obtain⟨b1,b2,b3⟩:=P6 h r DQ h2 hk.2;refine⟨by simp only[dc,ae]; exact⟨a1,b1⟩,by simp[b2],fun i z v hz hv=>?_⟩;cases i with
   |zero=>simp[mX] at hz hv; subst hz; exact a2 v hv
   |succ i=>simp[mX] at hz hv; exact b3 i z v hz hv
end
theorem Mz (h:ff X φ w N s Ha t):∀(xs ys:List AV),xG s xs=some ys->mw (aB s) s.H.length xs->(dc ys=true/\ys.length=xs.length/\∀ (i:Nat) (y:AV) (v:Value),ys[i]?=some y->(∀z,(iR N xs)[i]?=some z->bR (Rd X φ w) φ z v)->bR (Rd X [] w) [] y v)
 |[],ys,hf,_=>by simp[xG] at hf; subst hf; exact⟨rfl,rfl,fun i y v hy=>by simp at hy⟩
 |x::r,ys,hf,hk=>by
   have gen:∀{y DQ},(pl y=true/\∀ v,bR (Rd X φ w) φ (cU N x) v->bR (Rd X [] w) [] y v)->xG s r=some DQ->(∀k l,x≠.own k l)->ys=y::DQ->(dc ys=true/\ys.length=(x::r).length/\∀ (i:Nat) (y:AV) (v:Value),ys[i]?=some y->(∀z,(iR N (x::r))[i]?=some z->bR (Rd X φ w) φ z v)->bR (Rd X [] w) [] y v):=by
    intro y DQ h1 h2 hn e;subst e;obtain⟨a1,a2⟩:=h1;obtain⟨b1,b2,b3⟩:=Mz h r DQ h2 hk.2;have ex:gU N x=cU N x:=by cases x<;>first|rfl|exact absurd rfl (hn _ _)
    refine⟨by simp only[dc,ae]; exact⟨a1,b1⟩,by simp[b2],fun i z v hz hv=>?_⟩;cases i with
    |zero=>simp[iR] at hz hv; subst hz; rw[ex] at hv; exact a2 v hv
    |succ i=>simp[iR] at hz hv; exact b3 i z v hz hv
   by_cases ho:∃k,x=.own k []
   ·obtain⟨k,rfl⟩:=ho;simp only[xG] at hf;split at hf
    case h_2=>cases hf
    rename_i DQ h2;simp at hf;subst hf;obtain⟨b1,b2,b3⟩:=Mz h r DQ h2 hk.2;refine⟨by simp only[dc,pl,WE]; exact b1,by simp[b2],fun i z v hz hv=>?_⟩;cases i with
    |zero=>
      simp[iR,gU] at hz hv;subst hz;cases hv;exact .lJ _ _
    |succ i=>simp[iR] at hz hv; exact b3 i z v hz hv
   ·have hn:∀k l,x≠.own k l:=by
     rintro k l rfl;cases l with
     |nil=>exact ho ⟨k,rfl⟩
     |cons z l=>simp[xG,nf] at hf
    by_cases iZ:∃k b off len,x=.sl k b off len
    ·obtain⟨k,b,off,len,rfl⟩:=iZ;simp only[xG] at hf;split at hf
     case h_2=>cases hf
     rename_i y DQ h1 h2;simp at hf;exact gen (VB h h1) h2 hn hf.symm
    rw[xG] at hf
    ·split at hf
     case h_2=>cases hf
     rename_i y DQ h1 h2;simp at hf;exact gen (gj h x y h1 hk.1) h2 hn hf.symm
    ·exact fun k e=>ho ⟨k,e⟩
    ·exact fun k b off len e=>iZ ⟨k,b,off,len,e⟩
end
end Go.Bm

/- Calls of functions that see no boxes. -/
namespace Go.Bm
open Go.Am
section
variable {P:Program} {X:Nat->Prop} {φ φ':dx} {w w':World} {N N':Names} {s s' s1:St} {Ha Ha':Heap} {t t':Nat->Value} {B:Nat->Nat} {base:Nat} {v va:AV} {v':Value} {c:eS} {o:Oper} {a:Act} {kd:Kd} {call:Nat->List AV->Heap->Option (AV × Heap)}
def Iz (X:Nat->Prop) (φ:dx) (w:World) (B:Nat->Nat) (base:Nat) (r:AV) (H':Heap) (e:Ending) (w':World):Prop:=
 ∃ v' φ',e=.returned v'/\SB X φ' w' B base ⟨[(0,r)],H'⟩ (fun i=>if i=0 then v' else undef)/\ft φ w φ' w'
def iG (P:Program) (c:eS) (call:Nat->List AV->Heap->Option (AV × Heap)):Prop:=
 ∀ f md q,c.fn f=some (md,q)->∀args H r H',(md.sh=true\/H=[])->call f args H=some (r,H')->(md.sh=true->fx H'=true)->∀X φ w B (vargs:Array Value),args.length=vargs.size->SB X φ w B H.length ⟨dP 0 args,H⟩ (fun i=>vargs.getD i undef)->Am.eI (iu c) X φ w->Calls P f vargs w (Iz X φ w B H.length r H')
theorem B4 (dy:fy P c) {f:Nat} {m:Md} {q:fM} (hf:c.fn f=some (m,q)) (vargs:Array Value):(callFunc f vargs).run P w=.ok (.enter f vargs) w:=by
 obtain⟨fn,h1,h2⟩:=dy.fn f m q hf;simp only[cC,ae,bN] at h2;obtain⟨⟨⟨_,Fb⟩,_⟩,wG⟩:=h2
 have hb:fn.body.isNone=false:=by
  cases hfb:fn.body with
  |none=>rw[hfb] at wG; cases wG
  |some b=>rfl
 simp only[callFunc,Sem.run_bind,run_program,Result.andThen_ok,h1,Fb,hb,bH,if_false,Sem.run_pure]
def Sn (R:Addr->Value->Prop) (φ:dx) (N:Names) (xs:List AV) (vs:Array Value):Prop:=xs.length=vs.size/\∀ (i:Nat) (x:AV) (v:Value),xs[i]?=some x->vs[i]?=some v->bR R φ (gU N x) v
theorem Sn.append {R:Addr->Value->Prop} {xs ys:List AV} {vs us:Array Value} (h:Sn R φ N xs vs) (k:Sn R φ N ys us):Sn R φ N (xs++ys) (vs++us):=by
 refine⟨by simp[h.1,k.1],fun i x v hx hv=>?_⟩;by_cases hi:i<xs.length
 ·rw[aA hi] at hx;rw[vA (by have:=h.1; omega)] at hv;exact h.2 i x v hx hv
 ·rw[aL (by omega)] at hx;rw[Nt (by have:=h.1; omega),<-h.1] at hv;exact k.2 _ x v hx hv
theorem ag3 {op:Op} {f:Nat} {ys:List E} (h:di P op (.call f ys)=true):∃ca:Call,op=.call ca/\ca.callee=.value (.func f)/\jL ca.args.toList ys=true:=by
 unfold di at h;split at h<;>simp_all
theorem adt {op:Op} {y:E} {ys:List E} (h:di P op (.jM y ys)=true):∃(ca:Call) (x:Operand),op=.call ca/\ca.callee=.value x/\dj x y=true/\jL ca.args.toList ys=true:=by
 unfold di at h;split at h<;>simp_all
theorem oL (dy:fy P c) (h:ff X φ w N s Ha (tm a)) (hg:Am.eI (iu c) X φ w) (hk:di P o.op (nj kd)=true) {f:Nat} {args:List AV} (ha:rB c s.env kd=some (f,args)) {md:Md} {q:fM} (hf:c.fn f=some (md,q)) :
  ∃ vargs:Array Value,(execOp a.eval o).run P w=.ok (.enter f vargs) w/\Sn (Rd X φ w) φ N args vargs/\mw (aB s) s.H.length args:=by
 have he:rH X φ w (DR N s.env) a.tmps:=fun i=>by rw[pN]; exact h.env i
 have agM:∀{os:Array Operand} {xs:List E},jL os.toList (GB xs)=true->Sn (Rd X φ w) φ N (dK c s.env xs) (os.map a.eval)/\mw (aB s) s.H.length (dK c s.env xs):=by
  intro os xs hk;obtain⟨e1,e2⟩:=wu (cA:=iu c) h rfl hk;obtain⟨hl,hr⟩:=qx (a:=a) he hg hk;rw[e1,jH] at hl;refine⟨⟨by simpa using hl,fun i x v hx hv=>?_⟩,e2⟩;refine hr i (gU N x) v (by rw[e1,qR,hx]; rfl) (by simpa using hv)
 cases kd<;>simp only[rB,reduceCtorEq] at ha
 case call f' ys=>
  simp only[af,aF] at ha;obtain⟨rfl,rfl⟩:=ha;obtain⟨ca,fu,H6,pK⟩:=ag3 hk;obtain⟨e1,e2⟩:=agM pK;refine⟨ca.args.map a.eval,?_,e1,e2⟩;simp only[execOp,fu,resolve,H6,Act.eval,Deferred.ofValue,invoke,Sem.run_bind,Sem.run_pure,Result.andThen_ok,Array.empty_append,Array.append_empty];exact B4 dy hf _
 case jM y ys=>
  obtain⟨ca,x,fu,H6,hx,pK⟩:=adt hk;have ho:=cM (c:=c) (cA:=iu c) h rfl hx;have rx:=cj (a:=a) he hg hx;rw[ho.ev] at rx;have NX:=ho.ok;cases e:bq c s.env y<;>rw[e] at ha rx NX<;>try (simp at ha; done)
  rename_i fn as bs;cases fn<;>simp only[reduceCtorEq] at ha
  rename_i f';split at ha
  ·cases ha
  rename_i iF;simp only[eE,not_or,Bool.not_eq_true] at iF;simp only[af,aF] at ha;obtain⟨rfl,rfl⟩:=ha;obtain⟨e1,e2⟩:=agM pK;simp only[gU,cU] at rx;simp only[cS] at NX;generalize Wu:a.eval x=ax at rx;rcases rx.As with⟨hy,va,vb,rfl,Dz,Dy,hra,hrb⟩|⟨_,_,e9,_⟩
  case inr=>cases e9
  ·rw[er] at Dz Dy;have c1:Sn (Rd X φ w) φ N as va:=⟨Dz,fun i x v hx hv=>hra i _ v (by rw[<-mW N iF.1,qR,hx]; rfl) hv⟩;have c3:Sn (Rd X φ w) φ N bs vb:=⟨Dy,fun i x v hx hv=>hrb i _ v (by rw[<-mW N iF.2,qR,hx]; rfl) hv⟩;refine⟨va++ca.args.map a.eval++vb,?_,(c1.append e1).append c3,ur (ur NX.1 e2) NX.2.1⟩;simp only[execOp,fu,resolve,H6,Wu,Deferred.ofValue,invoke,Sem.run_bind,Sem.run_pure,Result.andThen_ok];exact B4 dy hf _
mutual
theorem abo {R:Addr->Value->Prop} {φ:dx} (N:Names):∀(x:AV) {v:Value},bR R φ (cU N x) v->bR R φ (cU N (lS x)) v
 |.dX k p off n,v,r=>by
   unfold lS;split
   ·rename_i h; subst h;simp only[cU] at r ⊢;split at r
    ·cases r with
     |sl _ _ _ _ _ a cap hb hc h=>exact .yG _ _ _ _ _ _ (fun _ _=>undef) rfl hc (fun x hx=>by simp at hx) (fun i j x c hx=>by simp at hx) (fun i j x c hx=>by simp at hx)
    ·cases r; exact .lJ _ _
   ·exact r
 |.agg cs,v,r=>by
   simp only[lS,cU] at r ⊢;cases r with
   |agg _ _ vs hl h=>
     obtain⟨l1,l2⟩:=LC (R:=R) (φ:=φ) N cs;refine .agg _ _ _ (by rw[er,l1,<-er N cs]; exact hl) fun i c u hc hu=>?_;rw[oZ] at hc;cases e:(ER cs)[i]? with
     |none=>rw[e] at hc; cases hc
     |some y=>
       rw[e] at hc;simp only[cG,af] at hc;subst hc;obtain⟨x,hx⟩:=bt (l:=cs) (i:=i) (by have:=az e; omega);exact l2 i x y u hx e (h i _ u (by rw[oZ,hx]; rfl) hu)
 |.any,v,r=>r|.undef,v,r=>r|.fY,v,r=>r|.gh,v,r=>r|.dC,v,r=>r
 |.int _ _,v,r=>r|.bool _,v,r=>r|.str _,v,r=>r|.dR _,v,r=>r
 |.list _ _,v,r=>r|.dG _,v,r=>r|.ptr _ _,v,r=>r|.sl _ _ _ _,v,r=>r
 |.func _ _ _,v,r=>r|.own _ _,v,r=>r|.fG _ _ _ _,v,r=>r
theorem LC {R:Addr->Value->Prop} {φ:dx} (N:Names):∀(cs:List AV),(ER cs).length=cs.length/\∀ (i:Nat) (x y:AV) (v:Value),cs[i]?=some x->(ER cs)[i]?=some y->bR R φ (cU N x) v->bR R φ (cU N y) v
 |[]=>⟨rfl,fun i x y v hx=>by simp at hx⟩
 |c::r=>by
   obtain⟨l1,l2⟩:=LC (R:=R) (φ:=φ) N r;refine⟨by simp[ER,l1],fun i x y v hx hy rr=>?_⟩;cases i with
   |zero=>simp[ER] at hx hy; subst hx; subst hy; exact abo N c rr
   |succ i=>exact l2 i x y v (by simpa using hx) (by simpa[ER] using hy) rr
end
theorem afF {R:Addr->Value->Prop} {φ:dx} (N:Names) (x:AV) {v:Value} (r:bR R φ (gU N x) v):bR R φ (gU N (lS x)) v:=by
 by_cases h:∃k xs,x=.own k xs
 ·obtain⟨k,xs,rfl⟩:=h;simpa[lS] using r
 ·have e1:gU N x=cU N x:=by cases x<;>first|rfl|exact absurd ⟨_,_,rfl⟩ h
  have e2:gU N (lS x)=cU N (lS x):=by
   cases x<;>simp only[lS]<;>first|rfl|exact absurd ⟨_,_,rfl⟩ h|(split<;>rfl)
  rw[e2];rw[e1] at r;exact abo N x r
mutual
theorem amj {o:Rt->Option (Nat × List AV)} {nb:Nat}:∀(x:AV),cS o nb x->cS o nb (lS x)
 |.dX k p off n,h=>by
   unfold lS;split
   ·trivial
   ·exact h
 |.agg cs,h=>by
   simp only[lS,cS] at h ⊢;exact Rm cs h
 |.any,h=>h|.undef,h=>h|.fY,h=>h|.gh,h=>h|.dC,h=>h
 |.int _ _,h=>h|.bool _,h=>h|.str _,h=>h|.dR _,h=>h
 |.list _ _,h=>h|.dG _,h=>h|.ptr _ _,h=>h|.sl _ _ _ _,h=>h
 |.func _ _ _,h=>h|.own _ _,h=>h|.fG _ _ _ _,h=>h
theorem Rm {o:Rt->Option (Nat × List AV)} {nb:Nat}:∀(cs:List AV),mw o nb cs->mw o nb (ER cs)
 |[],_=>trivial
 |x::r,h=>⟨amj x h.1,Rm r h.2⟩
end
theorem T0:∀(cs:List AV) (i:Nat),(ER cs)[i]?=(cs[i]?).map lS
 |[],i=>by simp[ER]
 |x::r,i=>by cases i<;>simp[ER,T0 r]
theorem DE (dy:fy P c) (h:ff X φ w N s Ha (tm a)) (hg:Am.eI (iu c) X φ w) (hk:di P o.op (nj kd)=true) {f:Nat} {args:List AV} (ha:getArgs c s.env kd=some (f,args)) {md:Md} {q:fM} (hf:c.fn f=some (md,q)) :
  ∃ vargs:Array Value,(execOp a.eval o).run P w=.ok (.enter f vargs) w/\Sn (Rd X φ w) φ N args vargs/\mw (aB s) s.H.length args:=by
 unfold getArgs at ha;cases h0:rB c s.env kd with
 |none=>rw[h0] at ha; cases ha
 |some z=>
   obtain⟨f0,akM⟩:=z;rw[h0] at ha;simp only[af,aF] at ha;obtain⟨rfl,rfl⟩:=ha;obtain⟨vargs,h1,h2,h3⟩:=oL dy h hg hk h0 hf;refine⟨vargs,h1,?_⟩;split
   ·refine⟨⟨?_,fun i x v hx hv=>?_⟩,Rm _ h3⟩
    ·have l1:=(LC (R:=Rd X φ w) (φ:=φ) N akM).1;rw[l1]; exact h2.1
    ·rw[T0] at hx;cases e:akM[i]? with
     |none=>rw[e] at hx; cases hx
     |some y=>
       rw[e] at hx;simp only[cG,af] at hx;subst hx;exact afF N y (h2.2 i y v e hv)
   ·exact⟨h2,h3⟩
theorem zn (N:Names) (i:Nat) {x:AV} (h:pl x=true):lZ N i x=x:=by
 by_cases ha:∃cs,x=.agg cs
 ·obtain⟨cs,rfl⟩:=ha;simp only[lZ];simp only[pl] at h;congr 1;apply dW;intro j;rw[gC];cases hc:cs[j]? with
  |none=>rfl
  |some d=>
    simp only[cG]
    have hd:pl d=true:=by
     have:∀{l:List AV},dc l=true->∀z∈l,pl z=true:=by
      intro l
      induction l with
      |nil=>intro _ z hz; simp at hz
      |cons y r ih=>
        intro h z hz;simp only[dc,ae] at h;rcases aO.1 hz with e|e
        ·subst e; exact h.1
        ·exact ih h.2 z e
     exact this h d (bp hc)
    congr 1;cases d<;>first|exact mj N _ hd|(simp[pl] at hd; done)
 ·have hn:kA x:=fun cs e=>ha ⟨cs,e⟩;cases x<;>first|exact mj N _ h|exact absurd rfl (hn _)|(simp[pl] at h; done)
theorem SB.start {args:List AV} {vargs:Array Value} (hx:∀g,X g->g<w.heap.size) (hp:dc args=true) (hl:args.length=vargs.size) (hr:∀(i:Nat) (x:AV) (v:Value),args[i]?=some x->vargs[i]?=some v->bR (Rd X [] w) [] x v) (B:Nat->Nat) :
  SB X [] w B 0 ⟨dP 0 args,[]⟩ (fun i=>vargs.getD i undef):=by
 have B8:∀i,get (dP 0 args) i=args[i]?.getD .any:=fun i=>by rw[tD]; simp
 have oS:∀i,pl (get (dP 0 args) i)=true:=fun i=>by
  rw[B8];cases e:args[i]? with
  |none=>rfl
  |some x=>exact gg hp i x e
 have iF:∀p,aB ⟨dP 0 args,[]⟩ p=none:=by
  intro p;cases p with
  |s i=>exact (eB (s:=⟨dP 0 args,[]⟩) (ug (oS i))).1
  |sc i j=>exact (eB (s:=⟨dP 0 args,[]⟩) (ug (oS i))).2 j
  |c b j=>unfold aB; simp[at_,aH]
 refine⟨⟨fun _=>0,fun _=>none⟩,[],⟨fun i=>?_,fun i=>wv _ (oS i),⟨rfl,hx,fun b cs hb=>by simp at hb,fun b hb=>by simp at hb,fun b b' g sz pX h1=>by simp at h1⟩,fun p k xs e=>?_,fun b cs e=>?_,fun p q n e1=>?_,fun b p e1=>?_,fun b d e1=>?_⟩,fun b hb=>by omega,yM _⟩
 ·rw[zn _ _ (oS i),B8];cases e:args[i]? with
  |none=>exact .any _ _
  |some x=>
    obtain⟨v,hv⟩:=cc (l:=vargs) (i:=i) (by have:=az e; omega);simp only[eJ];rw[bm,hv];exact hr i x v e hv
 ·rw[iF] at e; cases e
 ·simp[aH] at e
 ·rw[iF] at e1; cases e1
 ·simp[aH] at e1
 ·simp[aH] at e1
end
end Go.Bm

/- Calls of functions that see no boxes: what comes back. -/
namespace Go.Bm
open Go.Am
mutual
theorem GC {R R':Addr->Value->Prop} {φ φ':dx} {N N':Names}:∀x,clean x=true->∀v,bR R φ (cU N x) v->bR R' φ' (cU N' x) v
 |.list k xs,h,v,r=>by
   simp only[clean,fN] at h;subst h;simp only[cU] at r ⊢;cases r with
   |yG _ _ _ a n cap u hn iN hk hu hh=>subst hn; exact .yG _ _ _ _ _ _ u rfl iN hk (fun i j x c hx=>by simp at hx) (fun i j x c hx=>by simp at hx)
   |lJ=>exact .lJ _ _
 |.agg cs,h,v,r=>by
   simp only[clean] at h;simp only[cU] at r ⊢;cases r with
   |agg _ _ vs hl hh=>exact .agg _ _ _ (by rw[er] at hl ⊢; exact hl) (fun i d u hd hu=>DG cs h i d u hd (fun z hz=>hh i z u hz hu))
 |.dR cs,h,v,r=>by
   simp only[clean] at h;simp only[cU] at r ⊢;cases r with
   |dR _ _ vs hl hh=>exact .dR _ _ _ (by rw[er] at hl ⊢; exact hl) (fun i d u hd hu=>DG cs h i d u hd (fun z hz=>hh i z u hz hu))
 |.own _ _,_,v,_=>.any _ _
 |.dG _,h,_,_=>by simp[clean] at h
 |.any,h,_,_=>by simp[clean] at h
 |.func _ _ _,h,_,_=>by simp[clean] at h
 |.dX _ _ _ _,h,_,_=>by simp[clean] at h
 |.fG _ _ _ _,h,_,_=>by simp[clean] at h
 |.ptr _ _,h,_,_=>by simp[clean] at h
 |.sl _ _ _ _,h,_,_=>by simp[clean] at h
 |.undef,_,v,r=>by simp only[cU] at r ⊢; cases r; exact .undef _
 |.fY,_,v,r=>by simp only[cU] at r ⊢; cases r; exact .fY _
 |.gh,_,v,r=>by simp only[cU] at r ⊢; cases r; exact .gh _
 |.dC,_,v,r=>by simp only[cU] at r ⊢; cases r; exact .dC _
 |.int _ _,_,v,r=>by simp only[cU] at r ⊢; cases r; exact .int _ _ _
 |.bool _,_,v,r=>by simp only[cU] at r ⊢; cases r; exact .bool _ _
 |.str _,_,v,r=>by simp only[cU] at r ⊢; cases r; exact .str _ _
theorem DG {R R':Addr->Value->Prop} {φ φ':dx} {N N':Names}:∀cs,iB cs=true->∀(i:Nat) (d:AV) (u:Value),(mX N' cs)[i]?=some d->(∀z,(mX N cs)[i]?=some z->bR R φ z u)->bR R' φ' d u
 |[],_,i,d,u,h,_=>by simp[mX] at h
 |x::r,hc,i,d,u,h,hz=>by
   simp only[iB,ae] at hc;cases i with
   |zero=>simp[mX] at h hz; subst h; exact GC x hc.1 u hz
   |succ i=>simp[mX] at h hz; exact DG r hc.2 i d u h hz
end
mutual
theorem VY {o:Rt->Option (Nat × List AV)} {nb:Nat}:∀x,clean x=true->cS o nb x
 |.list _ _,_=>trivial
 |.agg cs,h=>by simp only[clean] at h; exact GD cs h
 |.dR cs,h=>by simp only[clean] at h; exact GD cs h
 |.own _ _,_=>trivial
 |.dG _,h=>by simp[clean] at h
 |.any,h=>by simp[clean] at h
 |.func _ _ _,h=>by simp[clean] at h
 |.dX _ _ _ _,h=>by simp[clean] at h
 |.fG _ _ _ _,h=>by simp[clean] at h
 |.ptr _ _,h=>by simp[clean] at h
 |.sl _ _ _ _,h=>by simp[clean] at h
 |.undef,_=>trivial
 |.fY,_=>trivial
 |.gh,_=>trivial
 |.dC,_=>trivial
 |.int _ _,_=>trivial
 |.bool _,_=>trivial
 |.str _,_=>trivial
theorem GD {o:Rt->Option (Nat × List AV)} {nb:Nat}:∀cs,iB cs=true->mw o nb cs
 |[],_=>trivial
 |x::r,h=>by simp only[iB,ae] at h; exact⟨VY x h.1,GD r h.2⟩
end
theorem VZ {x:AV} (h:clean x=true):∀d∈x.cells,clean d=true:=by
 have all:∀{l:List AV},iB l=true->∀z∈l,clean z=true:=by
  intro l
  induction l with
  |nil=>intro _ z hz; simp at hz
  |cons y r ih=>
    intro h z hz;simp only[iB,ae] at h;rcases aO.1 hz with e|e
    ·subst e; exact h.1
    ·exact ih h.2 z e
 intro d hd;by_cases ha:∃cs,x=.agg cs
 ·obtain⟨cs,rfl⟩:=ha;simp only[clean] at h;exact all h d hd
 ·have:x.cells=[x]:=by cases x<;>first|rfl|exact absurd ⟨_,rfl⟩ ha
  rw[this] at hd;simp at hd;subst hd;exact h
theorem YE {l:List AV} (h:iB l=true):∀z∈l,clean z=true:=by
 induction l with
 |nil=>intro z hz; simp at hz
 |cons y r ih=>
   intro z hz;simp only[iB,ae] at h;rcases aO.1 hz with e|e
   ·subst e; exact h.1
   ·exact ih h.2 z e
theorem A3 (N:Names) (i:Nat) {x:AV} (h:bY x=false):lZ N i x=cU N x:=by
 by_cases ha:∃cs,x=.agg cs
 ·obtain⟨cs,rfl⟩:=ha;simp only[bY] at h;simp only[lZ,cU];congr 1;apply dW;intro j;rw[gC,oZ];cases hc:cs[j]? with
  |none=>rfl
  |some d=>
    simp only[cG];congr 1;have:=H8 h d (bp hc);cases d<;>first|rfl|exact absurd rfl (this _ _)
 ·cases x<;>first|rfl|exact absurd ⟨_,rfl⟩ ha|(simp[bY] at h; done)
section
variable {P:Program} {X:Nat->Prop} {φ l5 φ':dx} {w w1 w':World} {N N1 N':Names} {s s' s1:St} {Ha H1 Ha':Heap} {t t1 t':Nat->Value} {B:Nat->Nat} {base:Nat} {v va:AV} {v':Value} {c:eS} {o:Oper} {a:Act} {kd:Kd} {call:Nat->List AV->Heap->Option (AV × Heap)}
theorem an8 (h:ff X φ w N s Ha t) (hb:(∀b,b<base->N.β b=B b)/\base<=s.H.length) (ad:ft [] w l5 w1) {k:Nat} {xs:List AV} {H':Heap} (h1:ff X l5 w1 N1 ⟨[(0,.own k xs)],H'⟩ H1 t1) (hc:iB xs=true) :
  ∃ φ',eF X φ' w1 B base s (.own k xs) t (t1 0)/\ft φ w φ' w1:=by
 have ho1:aB ⟨[(0,.own k xs)],H'⟩ (.s 0)=some (k,xs):=rfl;have eZ:=h1.own (.s 0) k xs ho1;have hr:=h1.env 0;simp only[Am.get,if_true,lZ,jG,sN] at hr;cases hn:N1.ν (.s 0) with
 |none=>
   rw[hn] at eZ hr;have hx:xs=[]:=eZ;subst hx;refine⟨φ,eF.quiet (h.oN (.of_same ad) (h.heap.of_same ad) h.own (fun _ _=>rfl)) hb trivial (by simp[EO]) ?_,.of_same ad⟩;simp only at hr;simp only[zd];generalize t1 0=z at hr ⊢;cases hr;exact .dC _
 |some n1=>
   rw[hn] at eZ hr;simp only at hr;obtain⟨g,sz,jV,hX,ja⟩:=tw h1.heap eZ;obtain⟨cs,c1,c2,c3,c4⟩:=eZ;obtain⟨g',pX,arr,e,f1,f2,f3,f4,f5,f6⟩:=h1.heap.cat c1 (fun g sz q=>hr.zq q);rw[jV] at f1;cases f1;have hgs:w.heap.size<=g:=Nat.le_of_not_lt fun bE=>(ad.keep g bE (bU.nil g)).2 ⟨n1,sz,jV⟩;have Qi:=gV c3
   have oN:ft φ w (φ++[some (g,sz)]) w1:=by
    refine⟨ad.os,ad.tape,ad.output,ad.drawn,ad.size,fun g0 bE iF=>⟨(ad.keep g0 bE (bU.nil g0)).1,fun ho=>?_⟩,⟨by simp,fun b p hb hp=>by rwa [aA hb] at hp⟩⟩;rcases tg ho with h2|h2
    ·exact iF h2
    ·simp at h2; omega
   have hh:cm X (φ++[some (g,sz)]) w1 (Ha++[some (aC xs)]):=by
    refine⟨by simp[h.heap.len],fun g0 hg0=>fh (h.heap.GR g0 hg0) ad.size,fun b ds mT=>?_,fun b mT=>?_,fun b b' g0 td sz1 e1 e2=>?_⟩
    ·by_cases bE:b<Ha.length
     ·rw[aA bE] at mT;obtain⟨g0,td,V8,e0,p1,p2,p3,p4,p5,p6⟩:=h.heap.live b ds mT;refine⟨g0,td,V8,e0,by rw[aA (by rw[h.heap.len]; exact bE)]; exact p1,?_,p3,p4,p5,fun i d hd=>?_⟩
      ·rw[(ad.keep g0 (eG.1 p2).1 (bU.nil g0)).1]; exact p2
      ·obtain⟨u,u1,u2⟩:=p6 i d hd;exact⟨u,u1,oN.rep u2⟩
     ·have Mo:b=Ha.length:=by have:=az mT; simp at this; omega
      subst Mo;simp at mT;subst mT;refine⟨g,sz,arr,_,by rw[<-h.heap.len]; simp,f2,.inl ⟨e,rfl,f3⟩,⟨by omega,fun z=>by omega⟩,hX,fun i d hd=>?_⟩;obtain⟨i',z,j,z1,z2,z3⟩:=(fK c3).2 i d hd;obtain⟨u,u1,u2,u3⟩:=ja i' j z d z1 z2;refine⟨u,by rw[gE f2] at u1; rw[z3]; exact u1,?_⟩;have I0:=VZ (YE hc z (bp z1)) d (bp z2);have oS:=(my u2).1;have:=GC (N:=N) (N':=N) (R':=Rd X (φ++[some (g,sz)]) w1) (φ':=φ++[some (g,sz)]) d I0 u (by rw[mj N _ oS]; exact u3)
      rwa [mj N _ oS] at this
    ·by_cases bE:b<Ha.length
     ·rw[aA bE] at mT;rw[aA (by rw[h.heap.len]; exact bE)];exact h.heap.dead b mT
     ·have Mo:b=Ha.length:=by have:=az mT; simp at this; omega
      subst Mo;simp at mT
    ·have new:∀(b g0 td:Nat),(φ++[some (g,sz)])[b]?=some (some (g0,td))->(b<φ.length/\φ[b]?=some (some (g0,td))/\g0<w.heap.size)\/(b=φ.length/\g0=g):=by
      intro b g0 td hb;by_cases bE:b<φ.length
      ·rw[aA bE] at hb;exact .inl ⟨bE,hb,(h.heap.gS ⟨b,td,hb⟩).1⟩
      ·have jJ:=az hb;simp at jJ;have Mo:b=φ.length:=by omega
       subst Mo;simp at hb;exact .inr ⟨rfl,hb.1.symm⟩
     rcases new b g0 td e1 with⟨l1,q1,g1⟩|⟨l1,g1⟩<;>rcases new b' g0 sz1 e2 with⟨l2,q2,g2⟩|⟨l2,g2⟩
     ·exact h.heap.inj b b' g0 td sz1 q1 q2
     ·omega
     ·omega
     ·omega
   refine⟨φ++[some (g,sz)],Fh h hb oN hh (by omega) c3 (fun i d hd=>?_) ?_,oN⟩
   ·obtain⟨i',z,j,z1,z2,z3⟩:=(fK c3).2 i d hd;obtain⟨u,u1,u2,u3⟩:=ja i' j z d z1 z2;exact⟨u2,d,hd,(my u2).2,Le.refl _⟩
   ·generalize t1 0=z at hr;cases hr with
    |sl _ _ _ _ _ ad' cap jJ iN hh'=>
      refine .sl _ _ _ _ _ _ _ (by simp[h.heap.len]) iN fun g0 td e0=>?_;rw[<-h.heap.len] at e0;simp at e0;obtain⟨rfl,rfl⟩:=e0;exact hh' g sz jV
theorem Yd {X':Nat->Prop} (hg:Am.eI (iu c) X φ w) (hx:∀g,X' g->X g\/bU φ g):Am.eI (iu c) X' [] w:=fun g=>(hg g).mono (fun a u ⟨h1,h2,h3⟩=>⟨fun h=>(hx _ h).elim h1 h2,bU.nil _,h3⟩) (.refl _)
theorem Xp (dy:fy P c) (eH:iG P c call) (h:SB X φ w B base s (tm a)) (hg:Am.eI (iu c) X φ w) (hk:di P o.op (nj kd)=true) {f:Nat} {args vu:List AV} (ha:getArgs c s.env kd=some (f,args)) {md:Md} {q:fM} (hf:c.fn f=some (md,q)) (jI:md.sh=false) (hz:xG s args=some vu) {r:AV} {H':Heap} (hc:call f vu []=some (r,H')) (hr:TY r=true):nB P X φ w B base s r o a:=by
 obtain⟨N,Ha,h,hb⟩:=h;obtain⟨vargs,pI,hA,BR⟩:=DE dy h hg hk ha hf;obtain⟨z1,z2,z3⟩:=Mz h args vu hz BR
 have NA:=SB.start (X:=X) (w:=w) (args:=vu) (vargs:=vargs) h.heap.GR z1 (by rw[z2]; exact hA.1) (fun i x v hx hv=>z3 i x v hx (fun z hz=>by
  rw[qR] at hz;cases Mq:args[i]? with
  |none=>rw[Mq] at hz; cases hz
  |some y=>rw[Mq] at hz; simp at hz; subst hz; exact hA.2 i y v Mq hv)) (fun _=>0)
 have jW:=eH f md q hf vu [] r H' (.inr rfl) hc (fun e=>by rw[jI] at e; cases e) X [] w (fun _=>0) vargs (by rw[z2]; exact hA.1) NA (Yd hg fun g h=>.inl h);intro K Q hK;unfold Oper.wp;rw[pI,Oper.upon_enter];refine jW.mono ?_;rintro e w1 ⟨v',l5,rfl,⟨N1,H1,gq,_⟩,ad⟩;unfold TY at hr;simp only[ae] at hr;by_cases ho:∃k xs,r=.own k xs
 ·obtain⟨k,xs,rfl⟩:=ho;obtain⟨φ',hp,ad'⟩:=an8 h hb ad gq (by simpa[clean] using hr.1);exact hK v' w1 φ' (by simpa using hp) ad'
 ·have iF:bY r=false:=by
   have:=hr.2;cases r<;>first|exact absurd ⟨_,_,rfl⟩ ho|simpa using this
  refine hK v' w1 φ (eF.quiet (h.oN (.of_same ad) (h.heap.of_same ad) h.own (fun _ _=>rfl)) hb (VY r hr.1) (oK iF) ?_) (.of_same ad);have r0:=gq.env 0;simp only[Am.get,if_true] at r0;rw[A3 N1 0 iF] at r0;rw[nF N iF];exact GC r hr.1 v' r0
theorem Xo (dy:fy P c) (eH:iG P c call) (h:SB X φ w B base s (tm a)) (hg:Am.eI (iu c) X φ w) (hk:di P o.op (nj kd)=true) {f:Nat} {args:List AV} (ha:getArgs c s.env kd=some (f,args)) {md:Md} {q:fM} (hf:c.fn f=some (md,q)) (jI:md.sh=false) (hz:dc (args.map fa)=true) {r:AV} {H':Heap} (hc:call f (args.map fa) []=some (r,H')) (hr:pl r=true):nB P X φ w B base s r o a:=by
 obtain⟨N,Ha,h,hb⟩:=h;obtain⟨vargs,pI,hA,BR⟩:=DE dy h hg hk ha hf;have xx:∀a u,Rd X φ w a u->Rd (fun g=>X g\/bU φ g) [] w a u:=fun a u ⟨h1,h2,h3⟩=>⟨fun h=>h.elim h1 h2,bU.nil _,h3⟩
 have NA:=SB.start (X:=fun g=>X g\/bU φ g) (w:=w) (args:=args.map fa) (vargs:=vargs) (fun g hg=>hg.elim (h.heap.GR g) (fun ho=>(h.heap.gS ho).1)) hz (by simpa using hA.1) (fun i x v hx hv=>by
  rw[cu] at hx;cases Mq:args[i]? with
  |none=>rw[Mq] at hx; cases hx
  |some y=>
    rw[Mq] at hx;simp at hx;subst hx;have r0:=hA.2 i y v Mq hv;have hpy:=gg hz i (fa y) (by rw[cu,Mq]; rfl);by_cases ho:∃k,y=.own k []
    ·obtain⟨k,rfl⟩:=ho;simp only[gU] at r0;cases r0;exact .lJ _ _
    ·have hn:fa y=y:=by
      unfold fa;split
      ·rename_i k; exact absurd ⟨k,rfl⟩ ho
      ·rfl
     rw[hn] at hpy ⊢;have hy:gU N y=y:=by cases y<;>first|exact mj N _ hpy|(simp[pl] at hpy; done)
     rw[hy] at r0;exact (r0.dL (gb _ hpy) []).mono xx (.refl _)) (fun _=>0)
 have jW:=eH f md q hf (args.map fa) [] r H' (.inr rfl) hc (fun e=>by rw[jI] at e; cases e) (fun g=>X g\/bU φ g) [] w (fun _=>0) vargs (by simpa using hA.1) NA (Yd hg fun g h=>h);intro K Q hK;unfold Oper.wp;rw[pI,Oper.upon_enter];refine jW.mono ?_;rintro e w1 ⟨v',l5,rfl,⟨N1,H1,gq,_⟩,ad⟩;have iF:=ug hr;refine hK v' w1 φ (eF.quiet (h.oN (.of_same ad) (h.heap.of_same ad) h.own (fun _ _=>rfl)) hb (wv r hr) (oK iF) ?_) (.of_same ad);have r0:=gq.env 0;simp only[Am.get,if_true] at r0;rw[zn N1 0 hr] at r0;rw[nF N iF,mj N _ hr];exact ((r0.dL (gb _ hr) []).mono (fun a u ⟨h1,_,h3⟩=>⟨fun h=>h1 (.inl h),fun h=>h1 (.inr h),h3⟩) (.refl _)).HV φ
end
end Go.Bm

/- Regions in the order of the text; their ends. -/
namespace Go.Bm
open Go.Am
section
variable {P:Program} {X:Nat->Prop} {φ l5 φ':dx} {w w1 w':World} {N1 N':Names} {s s' s1:St} {B:Nat->Nat} {base:Nat} {v va:AV} {v':Value} {c:eS} {o:Oper} {a:Act} {kd:Kd} {call:Nat->List AV->Heap->Option (AV × Heap)}
structure FC (X:Nat->Prop) (φ:dx) (w:World) (B:Nat->Nat) (base:Nat) (s:St) (a:Act) (N:Nat):Prop where
 sb:SB X φ w B base s (tm a)
 defers:a.defers=[]
 size:a.tmps.size=N
theorem akV {a:Act} {d:Option Nat} {v':Value} (hd:∀i,d=some i->i<a.tmps.size) (j:Nat):tm (a.put d v') j=if some j=d then v' else tm a j:=by
 cases d with
 |none=>simp[tm,Act.put]
 |some i=>
   have hi:=hd i rfl;simp only[tm,Act.put,bm];by_cases e:j=i
   ·subst e; simp[hi]
   ·simp[jl (jP e),e]
theorem FC.put {N:Nat} (h:FC X φ w B base s a N) (hN:N<=fJ) {d:Option Nat} (hd:∀i,d=some i->i<N) (hp:eF X φ' w' B base s1 v (tm a) v') (hs:B5 s1 d v=some s'):∃rN,FC X rN w' B base s' (a.put d v') N/\ft φ' w' rN w':=by
 obtain⟨rN,h1,a1⟩:=ah0 (t':=tm (a.put d v')) hp hs (fun e=>by have:=hd fJ e; omega) (fun j=>akV (fun i hi=>by rw[h.size]; exact hd i hi) j);obtain⟨h2,h3⟩:=ae1 a d v';exact⟨rN,⟨h1,by rw[h3]; exact h.defers,by rw[h2]; exact h.size⟩,a1⟩
theorem eF.undef (h:SB X φ w B base s (tm a)):eF X φ w B base s .undef (tm a) Go.undef:=by
 obtain⟨N,Ha,h,hb⟩:=h;exact eF.quiet h hb trivial trivial (.undef _)
theorem SV {N:Nat} {ops:Array Oper} {q:O} {fl:Fq} (fu:∀v s1 f,fD c call s q.kd=some (v,s1,f)->nB P X φ w B base s1 v o a) (hc:R8 P N ops o (VQ q)=true) (hN:N<=fJ)
  (hs:u4 c call s q=some (s',fl)) (hr:FC X φ w B base s a N) {K:Act->World->Prop} {Q:Exit->Act->World->Prop} (hK:∀a' w' φ',FC X φ' w' B base s' a' N->ft φ w φ' w'->K a' w') :
  if Region.wanted o (yielded ops a.tmps) then o.wp P a w K Q\/(o.asks P a w/\LetsOut Q) else K (a.put o.dst Go.undef) w:=by
 simp only[R8,VQ,ae,decide_eq_true_eq] at hc;obtain⟨⟨⟨anY,hd⟩,hgd⟩,_⟩:=hc;have hdst:o.dst=q.dst:=of_decide_eq_true anY
 have hd':∀i,o.dst=some i->i<N:=by
  intro i hi;rw[<-hdst,hi] at hd;simpa using hd
 have run:∀{v s1 f fl'},fD c call s q.kd=some (v,s1,f)->Fk s.env q.dst v s1 f=some (s',fl')->o.wp P a w K Q:=by
  intro v s1 f fl' hv hf;unfold Fk at hf;split at hf
  case h_2=>cases hf
  rename_i s2 hp;simp only[af,aF] at hf;obtain⟨rfl,_⟩:=hf;refine fu v s1 f hv K Q fun v' w' φ' xy ad=>?_;rw[<-hdst] at hp;obtain⟨rN,h1,a1⟩:=hr.put hN hd' xy hp;exact hK _ _ rN h1 (ad.trans a1)
 have no:∀{fl'},Fk s.env q.dst .undef s .no=some (s',fl')->K (a.put o.dst Go.undef) w:=by
  intro fl' hf;unfold Fk at hf;split at hf
  case h_2=>cases hf
  rename_i s2 hp;simp only[af,aF] at hf;obtain⟨rfl,_⟩:=hf;rw[<-hdst] at hp;obtain⟨rN,h1,a1⟩:=hr.put hN hd' (eF.undef hr.sb) hp;exact hK _ _ rN h1 a1
 have anQ:∀(g:Nat),∃N1 Ha,bR (Rd X φ w) φ (lZ N1 g (get s.env g)) (tm a g)/\ff X φ w N1 s Ha (tm a):=fun g=>by
  obtain⟨N1,Ha,h,_⟩:=hr.sb;exact⟨N1,Ha,h.env g,h⟩
 unfold u4 at hs;split at hs
 ·rename_i hgn;rw[hgn] at hgd;split at hgd
  ·rename_i h1 _;rw[if_pos (by simp[Region.wanted,h1])];split at hs
   ·rename_i v s1 f hv;exact .inl (run hv hs)
   ·cases hs
  ·rename_i h2; simp at h2
  ·cases hgd
 ·rename_i g want hgn;rw[hgn] at hgd;split at hgd
  ·rename_i h2; simp at h2
  ·rename_i j ajT g' an9 h1 h2;simp only[ae,decide_eq_true_eq] at hgd;obtain⟨hj,rfl⟩:=hgd;simp at h2;obtain⟨rfl,rfl⟩:=h2;obtain⟨N1,Ha,Ml,_⟩:=anQ g;split at hs
   ·rename_i b hb;rw[hb] at Ml;simp only[lZ,jG,cU] at Ml;have hv:=o9 Ml;have hy:yielded ops a.tmps j=some b:=by unfold yielded; rw[hj]; simp only[Option.bind_some]; rw[adj hv]
    by_cases X9:b=want
    ·subst X9;rw[if_pos (by simp[Region.wanted,h1,hy])];simp only[if_true] at hs;split at hs
     ·rename_i v s1 f hv;exact .inl (run hv hs)
     ·cases hs
    ·rw[if_neg (by simp[Region.wanted,h1,hy,X9])];rw[if_neg X9] at hs;exact no hs
   ·rename_i hb;rw[hb] at Ml;simp only[lZ,jG,cU] at Ml;generalize hv:tm a g=vg at Ml;cases Ml
    have hy:yielded ops a.tmps j=none:=by
     unfold yielded;rw[hj];simp only[Option.bind_some];rcases Yf hv with h|h<;>rw[h]
    rw[if_neg (by simp[Region.wanted,h1,hy])];exact no hs
   ·cases hs
  ·cases hgd
def QD (P:Program) (c:eS) (call:Nat->List AV->Heap->Option (AV × Heap)):Prop:=
 ∀ X φ w B base s o a kd v s1 f,di P o.op (nj kd)=true->fD c call s kd=some (v,s1,f)->SB X φ w B base s (tm a)->Am.eI (iu c) X φ w->nB P X φ w B base s1 v o a
theorem abd (Gt:QD P c call) {N:Nat} (hN:N<=fJ) {ops:Array Oper} {Q:Exit->Act->World->Prop}:∀(l:List Oper) (qs:List O) (k:Nat) (s s':St) (sP:List Fq) (a:Act) (w:World) (φ:dx),
  (∀j,l[j]?=ops[k+j]?)->uG P N ops l qs=true->pz c call qs s=some (s',sP)->FC X φ w B base s a N->Am.eI (iu c) X φ w->(∀a' w' φ',FC X φ' w' B base s' a' N->ft φ w φ' w'->Q .normal a' w') ->
  wpOps P ops Q (List.range' k l.length) a w
 |[],qs,k,s,s',sP,a,w,φ,_,hc,hs,hr,hg,hQ=>by
   cases qs with
   |nil=>
     simp[pz] at hs;obtain⟨rfl,rfl⟩:=hs;exact hQ a w φ hr (.refl _ _)
   |cons q r=>simp[uG] at hc
 |o::l,qs,k,s,s',sP,a,w,φ,hl,hc,hs,hr,hg,hQ=>by
   cases qs with
   |nil=>simp[uG] at hc
   |cons q r=>
     simp only[uG,ae] at hc;simp only[pz] at hs;split at hs
     case h_2=>cases hs
     rename_i s1 fl1 h1;split at hs
     case h_2=>cases hs
     rename_i s2 fl2 h2;simp at hs;obtain⟨rfl,rfl⟩:=hs;have h0:ops[k]?=some o:=by simpa using (hl 0).symm
     rw[cH,List.range'_succ,wpOps_cons];unfold wpOp;rw[h0]
     have hck:di P o.op (nj q.kd)=true:=by
      have:=hc.1;simp only[R8,VQ,ae] at this;exact this.2
     refine SV (fun v s1 f hv=>Gt X φ w B base s o a q.kd v s1 f hck hv hr.sb hg) hc.1 hN h1 hr fun a' w' φ' yH k'=>?_;exact abd Gt hN l r (k+1) s1 s2 fl2 a' w' φ' (fun j=>by have:=hl (j+1); simpa[Nat.add_assoc,Nat.add_comm 1 j] using this) hc.2 h2 yH (hg.oN k') fun a'' w'' rN h'' Bj=>hQ a'' w'' rN h'' (k'.trans Bj)
theorem H9 {keep:List Nat}:∀{e:Env},vo keep e=false->∀i,mem i keep=false->bY (get e i)=false
 |[],_,i,_=>rfl
 |(j,v)::r,h,i,hi=>by
   simp only[vo,fi] at h;simp only[Am.get];split
   ·rename_i e;subst e;rw[hi] at h;simpa using h.1
   ·exact H9 h.2 i hi
theorem Ia (keep:List Nat):∀(env:Env) (i:Nat),get (uy keep env) i=if mem i keep=true then get env i else .any
 |[],i=>by simp[uy,Am.get]
 |(j,u)::r,i=>by
   have ih:=Ia keep r i;unfold uy;split
   ·rename_i hm;simp only[Am.get];by_cases e:i=j
    ·subst e; simp[hm]
    ·rw[if_neg e,if_neg e]; exact ih
   ·rename_i hm;rw[ih];simp only[Am.get];by_cases e:i=j
    ·subst e; simp[hm]
    ·rw[if_neg e]
theorem acb {t:Nat->Value} (h:SB X φ w B base s t) {keep:List Nat} (ho:vo keep s.env=false):SB X φ w B base (endK base keep s) t:=by
 obtain⟨N,Ha,h,hb,hl⟩:=h
 have h1:ff X φ w N ⟨uy keep s.env,s.H⟩ Ha t:=h.keep (fun i=>by
  rw[Ia];cases hm:mem i keep with
  |true=>exact .inl (by simp)
  |false=>exact .inr ⟨by simp,H9 ho i hm⟩) rfl
 refine⟨N,Ha,h1.trim (base0:=base) s.H.length,hb,?_⟩
 have len:∀(n:Nat) (H:Heap),base<=H.length->base<=(trim base (uy keep s.env) n H).length:=by
  intro n
  induction n with
  |zero=>intro H h; exact h
  |succ n ih=>
    intro H h;simp only[trim];split
    ·rename_i hc;exact ih _ (by simp; omega)
    ·exact h
 exact len _ _ hl
theorem ai6 {t:Nat->Value} (h:SB X φ w B base s t) {keep:List Nat} (he:Yp base keep s=some s'):∃φ',SB X φ' w B base s' t/\ft φ w φ' w:=by
 unfold Yp at he;split at he
 ·split at he
  ·cases he
  rename_i ho;simp at he ho;subst he;obtain⟨l5,h1,a1⟩:=SB.qI keep s.env h;exact⟨l5,acb h1 ho,a1⟩
 ·rename_i ho;simp at he ho;subst he;exact⟨φ,acb h ho,.refl _ _⟩
end
end Go.Bm

/- A run of the compact code by value is a run of the dump's code. -/
namespace Go.Bm
open Go.Am
section
variable {P:Program} {c:eS}
def Nr (P:Program) (c:eS) (call:Nat->List AV->Heap->Option (AV × Heap)):Prop:=
 ∀ X φ w B base s s' sP a N id ops os un (Q:Exit->Act->World->Prop),N<=fJ->uG P N ops ops.toList os=true->qy un [] [] ops.toList os=true->pz c call os s=some (s',sP)->Qg os sP un=true->FC X φ w B base s a N->Am.eI (iu c) X φ w ->
  (∀a' w' φ',FC X φ' w' B base s' a' N->ft φ w φ' w'->Q .normal a' w')->(Code.region id ops true).wp P Q a w
def Wh (P:Program) (c:eS) (n:Nat):Prop:=∀(N base:Nat) (code:Code) (cd:C) (s s':St) (e:Ex),N<=fJ->Ob P N code cd=true->df c n base cd s=some (e,s')->∀X φ w B a,FC X φ w B base s a N->Am.eI (iu c) X φ w ->
 ∀ Q:Exit->Act->World->Prop,(∀a' w' φ',FC X φ' w' B base s' a' N->ft φ w φ' w'->Q e.to a' w')->code.wp P Q a w
theorem Jl (H1:∀call,iG P c call->QD P c call) (H2:∀call,iG P c call->Nr P c call) (H3:∀n,Wh P c n->iG P c (pR c (df c n))):∀n,Wh P c n
 |0=>fun N base code cd s s' e _ _ h=>by simp[df] at h
 |n+1=>by
   have ih:=Jl H1 H2 H3 n;have eH:=H3 n ih;intro N base code cd s s' e hN hc h X φ w B a hr hg Q hQ;unfold Ob at hc;split at hc
   case h_1=>simp[df] at h; obtain⟨rfl,rfl⟩:=h; exact wp_skip (hQ a w φ hr (.refl _ _))
   case h_2=>simp[df] at h; obtain⟨rfl,rfl⟩:=h; exact wp_ret (hQ a w φ hr (.refl _ _))
   case h_3=>
    simp only[decide_eq_true_eq] at hc;subst hc;simp[df] at h; obtain⟨rfl,rfl⟩:=h; exact wp_exit (hQ a w φ hr (.refl _ _))
   case h_4=>
    rename_i id ops d os dr un keep;simp only[ae,decide_eq_true_eq] at hc;obtain⟨⟨rfl,dQ⟩,ho⟩:=hc;simp only[df] at h;split at h
    case h_2=>cases h
    rename_i s1 sP hs;split at h
    case isFalse=>cases h
    rename_i hd;split at h
    case h_2=>cases h
    rename_i s2 he;simp at h;obtain⟨rfl,rfl⟩:=h
    have hQ':∀a' w' φ',FC X φ' w' B base s1 a' N->ft φ w φ' w'->Q .normal a' w':=fun a' w' φ' h k=>by
     obtain⟨rN,h2,a2⟩:=ai6 h.sb he;exact hQ a' w' rN ⟨h2,h.defers,h.size⟩ (k.trans a2)
    cases d with
    |false=>
      refine wp_region ?_;rw[List.range_eq_range',<-Array.length_toList];exact abd (H1 _ eH) hN ops.toList os 0 s s1 sP a w φ (fun j=>by simp) dQ hs hr hg hQ'
    |true=>
      simp at ho;exact H2 _ eH X φ w B base s s1 sP a N id ops os un Q hN dQ ho hs (by simpa using hd) hr hg hQ'
   case h_5=>
    rename_i x y cx cy;simp only[ae] at hc;simp only[df] at h;refine wp_seq ?_;cases h1:df c n base cx s with
    |none=>rw[h1] at h; cases h
    |some p=>
      obtain⟨e1,s1⟩:=p;rw[h1] at h;cases e1 with
      |normal=>
        simp only at h;exact ih N base x cx s s1 .normal hN hc.1 h1 X φ w B a hr hg _ fun a' w' φ' yH k=>ih N base y cy s1 s' e hN hc.2 h X φ' w' B a' yH (hg.oN k) Q fun a'' w'' rN hr'' Bj=>hQ a'' w'' rN hr'' (k.trans Bj)
      |exit id=>simp at h; obtain⟨rfl,rfl⟩:=h; exact ih N base x cx s s1 _ hN hc.1 h1 X φ w B a hr hg _ fun a' w' φ' yH k=>hQ a' w' φ' yH k
      |ret=>simp at h; obtain⟨rfl,rfl⟩:=h; exact ih N base x cx s s1 _ hN hc.1 h1 X φ w B a hr hg _ fun a' w' φ' yH k=>hQ a' w' φ' yH k
   case h_6=>
    rename_i x ca cb y da db;simp only[ae] at hc;simp only[df] at h;split at h
    case h_2=>cases h
    rename_i t ht
    have r:a.eval x=.bool t:=by
     obtain⟨N1,Ha,hsim,_⟩:=hr.sb;have ho:=cM (c:=c) (cA:=iu c) hsim rfl hc.1.1;have:=cj (c:=iu c) (env:=DR N1 s.env) (a:=a) (fun i=>by rw[pN]; exact hsim.env i) hg hc.1.1;rw[ho.ev,ht] at this;exact o9 this
    refine wp_cond (t:=t) r ?_;cases t with
    |true=>simp at h ⊢; exact ih N base ca da s s' e hN hc.1.2 h X φ w B a hr hg Q hQ
    |false=>simp at h ⊢; exact ih N base cb db s s' e hN hc.2 h X φ w B a hr hg Q hQ
   case h_7=>
    rename_i i b j x;simp only[ae,decide_eq_true_eq] at hc;obtain⟨rfl,hc⟩:=hc;simp only[df] at h;refine wp_block ?_;cases h1:df c n base x s with
    |none=>rw[h1] at h; cases h
    |some p=>
      obtain⟨e1,s1⟩:=p;rw[h1] at h;refine ih N base b x s s1 e1 hN hc h1 X φ w B a hr hg _ fun a' w' φ' yH k=>?_;cases e1 with
      |normal=>simp at h; obtain⟨rfl,rfl⟩:=h; exact hQ a' w' φ' yH k
      |ret=>simp at h; obtain⟨rfl,rfl⟩:=h; exact hQ a' w' φ' yH k
      |exit id=>
        simp only at h;split at h
        ·rename_i hid;simp at h; obtain⟨rfl,rfl⟩:=h;simp only[Ex.to,Exit.inBlock,hid,if_true];exact hQ a' w' φ' yH k
        ·rename_i hid;simp at h; obtain⟨rfl,rfl⟩:=h;simp only[Ex.to,Exit.inBlock,hid,if_false];exact hQ a' w' φ' yH k
   case h_8=>
    rename_i b x;simp only[df] at h
    have key:∀m,m<=n->∀s a w φ,df c m base (.loop x) s=some (e,s')->FC X φ w B base s a N->Am.eI (iu c) X φ w->(∀a' w' φ',FC X φ' w' B base s' a' N->ft φ w φ' w'->Q e.to a' w')->LW P b Q a w:=by
     intro m
     induction m with
     |zero=>intro _ s a w φ h; simp[df] at h
     |succ m ihm=>
       intro hm s a w φ h hr hg hQ;simp only[df] at h;refine LW.step ?_;have ihb:Wh P c m:=Jl H1 H2 H3 m;cases h1:df c m base x s with
       |none=>rw[h1] at h; cases h
       |some p=>
         obtain⟨e1,s1⟩:=p;rw[h1] at h;refine ihb N base b x s s1 e1 hN hc h1 X φ w B a hr hg _ fun a' w' φ' yH k=>?_;cases e1 with
         |normal=>simp only at h; exact ihm (by omega) s1 a' w' φ' h yH (hg.oN k) fun a'' w'' rN hr'' Bj=>hQ a'' w'' rN hr'' (k.trans Bj)
         |exit id=>simp at h; obtain⟨rfl,rfl⟩:=h; exact hQ a' w' φ' yH k
         |ret=>simp at h; obtain⟨rfl,rfl⟩:=h; exact hQ a' w' φ' yH k
    refine LW.loop (LW.step ?_);cases h1:df c n base x s with
    |none=>rw[h1] at h; cases h
    |some p=>
      obtain⟨e1,s1⟩:=p;rw[h1] at h;refine ih N base b x s s1 e1 hN hc h1 X φ w B a hr hg _ fun a' w' φ' yH k=>?_;cases e1 with
      |normal=>simp only at h; exact key n (aJ _) s1 a' w' φ' h yH (hg.oN k) fun a'' w'' rN hr'' Bj=>hQ a'' w'' rN hr'' (k.trans Bj)
      |exit id=>simp at h; obtain⟨rfl,rfl⟩:=h; exact hQ a' w' φ' yH k
      |ret=>simp at h; obtain⟨rfl,rfl⟩:=h; exact hQ a' w' φ' yH k
   case h_9=>simp[df] at h; obtain⟨rfl,rfl⟩:=h; exact wp_label (hQ a w φ hr (.refl _ _))
   case h_10=>
    rename_i b x;simp only[df] at h;cases n with
    |zero=>simp[df] at h
    |succ n'=>
      rw[show df c (n'+1) base .skip s=some (.normal,s) from rfl] at h;simp only at h;refine wp_scope_straight (ih N base b x s s' e hN hc h X φ w B a hr hg _ fun a' w' φ' yH k=>?_);have hq:=hQ a' w' φ' yH k;cases e<;>exact hq
   case h_11=>cases hc
end
end Go.Bm

/- What a function returns. -/
namespace Go.Bm
open Go.Am
section
variable {P:Program} {X:Nat->Prop} {φ l5 φ':dx} {w w1 w':World} {N N1 N':Names} {s s' s1:St} {Ha:Heap} {B:Nat->Nat} {base:Nat} {v va:AV} {v':Value} {c:eS} {a:Act} {call:Nat->List AV->Heap->Option (AV × Heap)}
theorem ak1 (h:ff X φ w N s Ha (tm a)) (hg:Am.eI (iu c) X φ w) {rv:Rv} {x:AV} (hx:resV c s rv=some x):∃xa,resA Ha (DR N s.env) rv=some xa/\Le (cU N x) xa/\cS (aB s) s.H.length x/\bY x=false:=by
 cases rv with
 |t i=>
   simp only[resV,af] at hx;subst hx;refine⟨_,rfl,?_,abi h i,Uw _ _⟩;rw[pN,<-Y6];exact Le.refl _
 |c i ag=>
   simp only[resV] at hx;split at hx
   case h_2=>cases hx
   rename_i u ps hp;simp at hx;subst hx;obtain⟨va,fl,e,hle,h2,h3⟩:=akA (a:=a) h hg (x:=.t i) (o':=.tmp i) (by simp[nI,dj]) hp
   have iF:bY u=false:=by
    have rd:∀{cs:List AV},QY ag cs=some u->bY u=false:=by
     intro cs hu;unfold QY at hu;split at hu
     case h_2=>cases hu
     split at hu
     ·cases hu
     rename_i iF;simp at hu iF;subst hu;exact iF
    unfold Da at hp;split at hp
    ·split at hp
     ·rename_i hu; simp at hp; obtain⟨rfl,_⟩:=hp; exact rd hu
     ·cases hp
    ·split at hp
     ·split at hp
      ·rename_i hu; simp at hp; obtain⟨rfl,_⟩:=hp; exact rd hu
      ·cases hp
     ·cases hp
    ·split at hp
     ·split at hp
      ·split at hp
       ·split at hp
        ·rename_i hu; simp at hp; obtain⟨rfl,_⟩:=hp; exact rd hu
        ·cases hp
       ·cases hp
      ·cases hp
     ·cases hp
    ·cases hp
   rw[nF N iF] at hle;refine⟨va,?_,hle,h2,iF⟩;simp only[nj,nI,ga,Am.ev] at e;simp only[resA];split at e
   ·rename_i cs dQ;rw[dQ];split at e
    ·rename_i u' NU; simp at e; obtain⟨rfl,_⟩:=e; exact NU
    ·cases e
   ·rename_i b off dQ;rw[dQ];split at e
    ·rename_i cs hb;simp only[hb];split at e
     ·rename_i u' NU; simp at e; obtain⟨rfl,_⟩:=e; exact NU
     ·cases e
    ·cases e
   ·cases e
theorem Zk (h:ff X φ w N s Ha (tm a)) (hg:Am.eI (iu c) X φ w):∀{rvs:List Rv} {xs:List AV},sU c s rvs=some xs->∃xas,Td Ha (DR N s.env) rvs=some xas/\xas.length=xs.length/\(∀(i:Nat) (x y:AV),xs[i]?=some x->xas[i]?=some y->Le (cU N x) y)/\mw (aB s) s.H.length xs/\∀ x∈xs,bY x=false
 |[],xs,hx=>by simp[sU] at hx; subst hx; exact⟨[],rfl,rfl,fun i x y h=>by simp at h,trivial,fun x hx=>by simp at hx⟩
 |r::rs,xs,hx=>by
   simp only[sU] at hx;split at hx
   case h_2=>cases hx
   rename_i u us h1 h2;simp at hx;subst hx;obtain⟨xa,a1,a2,a3,a4⟩:=ak1 h hg h1;obtain⟨xas,b1,b2,b3,b4,b5⟩:=Zk h hg h2;refine⟨xa::xas,by simp only[Td,a1,b1],by simp[b2],fun i x y hx hy=>?_,⟨a3,b4⟩,fun x hx=>?_⟩
   ·cases i with
    |zero=>simp at hx hy; subst hx hy; exact a2
    |succ i=>simp at hx hy; exact b3 i x y hx hy
   ·rcases aO.1 hx with e|e
    ·subst e; exact a4
    ·exact b5 x e
theorem adI (h:ff X φ w N s Ha (tm a)) (hg:Am.eI (iu c) X φ w) {rvs:List Rv} {xs:List AV} (hx:sU c s rvs=some xs):∃xas,Td Ha (DR N s.env) rvs=some xas/\Le (cU N (qQ xs)) (qQ xas)/\cS (aB s) s.H.length (qQ xs)/\bY (qQ xs)=false:=by
 obtain⟨xas,b1,b2,b3,b4,b5⟩:=Zk h hg hx;refine⟨xas,b1,?_⟩
 match xs,xas,b2 with
 |[],[],_=>exact⟨Le.refl _,trivial,rfl⟩
 |[x],[y],_=>exact⟨b3 0 x y rfl rfl,b4.1,b5 x (by simp)⟩
 |x::x2::xs,y::y2::ys,hl=>
   refine⟨fun R φ v r=>?_,b4,rfl⟩;simp only[qQ,cU] at r ⊢;cases r with
   |dR _ _ vs Bp hh=>exact .dR _ _ _ (by rw[er,<-hl]; exact Bp) (fun i d u hd hu=>by
     rw[oZ] at hd;cases hc:(x::x2::xs)[i]? with
     |none=>rw[hc] at hd; cases hd
     |some z=>
       rw[hc] at hd;simp at hd;subst hd;obtain⟨y',Mj⟩:=bt (l:=y::y2::ys) (i:=i) (by have:=az hc; omega);exact b3 i z y' hc Mj _ _ _ (hh i y' u Mj hu))
theorem SB.val (h:SB X φ w B base s (tm a)) {r:AV} (hp:pl r=true) {v':Value} (hr:bR (Rd X [] w) [] r v') (B':Nat->Nat):∃φ',SB X φ' w B' 0 ⟨[(0,r)],[]⟩ (fun i=>if i=0 then v' else undef)/\ft φ w φ' w:=by
 obtain⟨N,Ha,h,hb⟩:=h
 have iF:∀g,¬bU (bh φ.length none) g:=fun g ⟨b,sz,e⟩=>by
  rw[jF] at e;split at e<;>simp at e
 refine⟨bh φ.length none,?_,⟨rfl,rfl,rfl,aJ _,aJ _,fun g hg ho=>⟨rfl,iF g⟩,⟨by simp,fun b p hb e=>by rw[jF] at e; split at e<;>simp at e⟩⟩⟩;have B8:∀i,get [(0,r)] i=if i=0 then r else .any:=fun i=>by simp only[Am.get]
 have oS:∀i,pl (get [(0,r)] i)=true:=fun i=>by rw[B8]; split; exact hp; rfl
 have hnoo:∀p,aB ⟨[(0,r)],[]⟩ p=none:=by
  intro p;cases p with
  |s i=>exact (eB (s:=⟨[(0,r)],[]⟩) (ug (oS i))).1
  |sc i j=>exact (eB (s:=⟨[(0,r)],[]⟩) (ug (oS i))).2 j
  |c b j=>unfold aB; simp[at_,aH]
 refine⟨⟨fun _=>0,fun _=>none⟩,bh φ.length none,⟨fun i=>?_,fun i=>wv _ (oS i),⟨by simp,h.heap.GR,fun b cs hb=>?_,fun b hb=>?_,fun b b' g sz pX h1=>?_⟩,fun p k xs e=>?_,fun b cs e=>?_,fun p q n e1=>?_,fun b p e1=>?_,fun b d e1=>?_⟩,fun b hb=>by omega,yM _⟩
 ·have hr2:bR (Rd X (bh φ.length none) w) (bh φ.length none) r v':=(hr.mono (R':=Rd X (bh φ.length none) w) (fun a u h=>⟨h.1,iF _,h.2.2⟩) (.refl _)).HV _;show bR _ _ (lZ _ i (get [(0,r)] i)) (if i=0 then v' else undef);rw[zn _ _ (oS i),B8];by_cases e:i=0
  ·rw[if_pos e,if_pos e]; exact hr2
  ·rw[if_neg e,if_neg e]; exact .any _ _
 ·rw[jF] at hb; split at hb<;>simp at hb
 ·have:=az hb;rw[jF];simp at this;rw[if_pos this]
 ·rw[jF] at h1; split at h1<;>simp at h1
 ·rw[hnoo] at e; cases e
 ·simp[aH] at e
 ·rw[hnoo] at e1; cases e1
 ·simp[aH] at e1
 ·simp[aH] at e1
end
end Go.Bm

/- The end of a function that sees no boxes of others. -/
namespace Go.Bm
open Go.Am
section
variable {P:Program} {X:Nat->Prop} {φ l5 φ':dx} {w w1 w':World} {N N1 N':Names} {s s' s1:St} {Ha:Heap} {B:Nat->Nat} {base:Nat} {v va:AV} {v':Value} {c:eS} {a:Act} {call:Nat->List AV->Heap->Option (AV × Heap)}
theorem SB.own1 (h:ff X φ w N s Ha (tm a)) {p:Rt} {k len:Nat} {xs:List AV} (hp:aB s p=some (k,xs)) (hle:len<=xs.length) (hr:bR (Rd X φ w) φ (cU N (.dX k p 0 len)) v') (B':Nat->Nat):SB X φ w B' 0 ⟨[(0,.own k (xs.take len))],[]⟩ (fun i=>if i=0 then v' else undef):=by
 have B8:∀i,get [(0,AV.own k (xs.take len))] i=if i=0 then .own k (xs.take len) else .any:=fun i=>by simp only[Am.get]
 have hlen:(xs.take len).length=len:=by simp; omega
 have eZ:∀q k' ys,aB ⟨[(0,.own k (xs.take len))],[]⟩ q=some (k',ys)->q=.s 0/\k'=k/\ys=xs.take len:=by
  intro q k' ys e;have e':=cD.1 e;cases q with
  |s i=>
    simp only[at_,B8,af] at e';by_cases hi:i=0
    ·subst hi; simp at e'; exact⟨rfl,e'.1.symm,e'.2.symm⟩
    ·rw[if_neg hi] at e'; cases e'
  |sc i j=>
    simp only[at_,B8] at e';by_cases hi:i=0
    ·subst hi; simp at e'
    ·rw[if_neg hi] at e'; cases e'
  |c b j=>simp[at_,aH] at e'
 have one:∀{q},(aB ⟨[(0,.own k (xs.take len))],[]⟩ q).isSome->q=.s 0:=by
  intro q hq;obtain⟨⟨k',ys⟩,e⟩:=bf.1 hq;exact (eZ q k' ys e).1
 refine⟨⟨N.β,fun q=>N.ν p⟩,Ha,⟨fun i=>?_,fun i=>?_,h.heap,fun q k' ys e=>?_,fun b cs e=>?_,fun q r n e1 e2 _ _=>?_,fun b q e1=>?_,fun b d e1=>?_⟩,fun b hb=>by omega,yM _⟩
 ·show bR _ _ (lZ _ i (get [(0,AV.own k (xs.take len))] i)) (if i=0 then v' else undef);rw[B8];by_cases e:i=0
  ·rw[if_pos e,if_pos e];simp only[lZ,jG,sN,hlen];simp only[cU,rJ] at hr;exact hr
  ·rw[if_neg e,if_neg e]; exact .any _ _
 ·show cS _ _ (get [(0,AV.own k (xs.take len))] i);rw[B8];split<;>trivial
 ·obtain⟨rfl,rfl,rfl⟩:=eZ q k' ys e;exact (h.own p k' xs hp).take
 ·simp[aH] at e
 ·rw[one e1,one e2]
 ·simp[aH] at e1
 ·simp[aH] at e1
theorem aiZ (h:ff X φ w N s Ha (tm a)) (hb:(∀b,b<base->N.β b=B b)/\base<=s.H.length) (hv:bR (Rd X φ w) φ (cU N v) v') (hk:cS (aB s) s.H.length v) (iF:bY v=false) {md:Md} {r:AV} {H':Heap} (jI:md.sh=false) (hf:bC md base s v=some (r,H')) (B':Nat->Nat) :
  H'=[]/\∃ φ',SB X φ' w B' 0 ⟨[(0,r)],[]⟩ (fun i=>if i=0 then v' else undef)/\ft φ w φ' w:=by
 have xx:∀a u,Rd X φ w a u->Rd X [] w a u:=fun a u ⟨h1,_,h3⟩=>⟨h1,bU.nil _,h3⟩;unfold bC at hf;rw[jI] at hf;simp only[bH,if_false] at hf;split at hf
 ·split at hf
  case isFalse=>cases hf
  split at hf
  case h_2=>cases hf
  rename_i r' hr;simp at hf;obtain⟨rfl,rfl⟩:=hf;refine⟨rfl,?_⟩;unfold Ow Ov at hr;split at hr
  ·rename_i k p len;split at hr
   case h_2=>cases hr
   rename_i k' xs hp;split at hr
   case isFalse=>cases hr
   rename_i hc;obtain⟨rfl,hle⟩:=hc;simp at hr;subst hr;exact⟨φ,SB.own1 h hp hle hv B',.refl _ _⟩
  ·simp[bY] at iF
  ·rename_i h1 h2;split at hr
   case isFalse=>cases hr
   rename_i oS;simp at hr;subst hr;rw[mj N _ oS] at hv;exact SB.val (base:=base) (B:=B) ⟨N,Ha,h,hb⟩ oS ((hv.dL (gb _ oS) []).mono xx (.refl _)) B'
 ·split at hf
  case h_2=>cases hf
  rename_i r' hr;simp at hf;obtain⟨rfl,rfl⟩:=hf;obtain⟨p1,p2⟩:=VD h v r' hr hk;exact⟨rfl,SB.val (base:=base) (B:=B) ⟨N,Ha,h,hb⟩ p1 (p2 _ hv) B'⟩
def xQ (P:Program) (c:eS):Prop:=∀f g md q,c.orc f=some g->c.fn f=some (md,q)->∀args H r H',(md.sh=true\/H=[])->g args H=some (r,H')->(md.sh=true->fx H'=true)->∀X φ w B (vargs:Array Value),args.length=vargs.size->SB X φ w B H.length ⟨dP 0 args,H⟩ (fun i=>vargs.getD i undef)->Am.eI (iu c) X φ w->Calls P f vargs w (Iz X φ w B H.length r H')
def ShOK (P:Program) (c:eS) (n:Nat):Prop:=∀f md q,c.fn f=some (md,q)->md.sh=true->∀args H r H',pR c (df c n) f args H=some (r,H')->fx H'=true->∀X φ w B (vargs:Array Value),args.length=vargs.size->SB X φ w B H.length ⟨dP 0 args,H⟩ (fun i=>vargs.getD i undef)->Am.eI (iu c) X φ w->Calls P f vargs w (Iz X φ w B H.length r H')
theorem Qt (dy:fy P c) (xz:xQ P c) {n:Nat} (hs:Wh P c n) (jI:ShOK P c n):iG P c (pR c (df c n)):=by
 intro f md q hf args H r H' hH h lN X φ w B vargs hl NA hg;by_cases hm:md.sh=true
 ·exact jI f md q hf hm args H r H' h (lN hm) X φ w B vargs hl NA hg
 have X1:md.sh=false:=by simpa using hm
 have hH':H=[]:=hH.elim (fun e=>absurd e hm) id;subst hH';unfold pR at h;split at h
 ·rename_i x Bq;unfold NO at Bq;split at Bq
  case h_2=>cases Bq
  rename_i g SF;rw[h] at Bq;replace h:=Bq;exact xz f g md q SF hf args [] r H' (.inr rfl) h lN X φ w B vargs hl NA hg
 ·rw[hf] at h;simp only at h;split at h
  case isFalse=>cases h
  rename_i hle;obtain⟨fn,h1,h2⟩:=dy.fn f md q hf;simp only[cC,ae,decide_eq_true_eq] at h2;obtain⟨⟨⟨⟨hn,anU⟩,_⟩,hres⟩,wG⟩:=h2;split at wG
  case h_2=>cases wG
  rename_i code hb;have Fa:(vargs++tJ (fn.ntmps-vargs.size) undef).size=q.n:=by simp; omega
  have htm:tm { tmps:=vargs++tJ (fn.ntmps-vargs.size) undef,defers:=[] }=fun i=>vargs.getD i undef:=by
   funext i;simp only[tm,bm];by_cases hi:i<vargs.size
   ·rw[vA hi]
   ·rw[Nt (by omega),nM];rw[SN (by omega)];split<;>rfl
  have hS:FC X φ w B 0 ⟨dP 0 args,[]⟩ { tmps:=vargs++tJ (fn.ntmps-vargs.size) undef,defers:=[] } q.n:=⟨by rw[htm]; exact NA,rfl,Fa⟩
  have fin:∀{e:Ex} {s:St} {vs:List AV},df c n 0 q.body ⟨dP 0 args,[]⟩=some (e,s)->(e=.ret\/e=.normal)->sU c s q.res=some vs->bC md 0 s (qQ vs)=some (r,H')->Calls P f vargs w (Iz X φ w B 0 r H'):=by
   intro e s vs he hre SA X6;refine calls_of_wp h1 hb (hs q.n 0 code q.body _ s e (by omega) wG he X φ w B _ hS hg _ fun a' w' φ' hS' xE=>?_);obtain⟨N,Ha,A7,hbB⟩:=hS'.sb;obtain⟨xas,x1,x2,x3,x4⟩:=adI A7 (hg.oN xE) SA;obtain⟨v,k1,k2⟩:=GV (P:=P) (s:=⟨DR N s.env,Ha⟩) (ts:=a'.tmps) (fun i=>by rw[pN]; exact A7.env i) A7.heap hres x1;obtain⟨rfl,nN,s2,a2⟩:=aiZ A7 hbB (x2 _ _ _ k2) x3 x4 X1 X6 B;have:bodyPost P fn (Iz X φ w B 0 r []) .ret a' w':=⟨hS'.defers,v,k1,v,nN,rfl,s2,xE.trans a2⟩;rcases hre with rfl|rfl
   ·exact this
   ·exact this
  split at h
  ·rename_i s he;split at h
   ·rename_i vs SA;exact fin he (.inl rfl) SA h
   ·cases h
  ·rename_i s he;split at h
   ·rename_i vs SA;exact fin he (.inr rfl) SA h
   ·cases h
  ·cases h
end
end Go.Bm

/- Every operation, given the calls that share boxes. -/
namespace Go.Bm
open Go.Am
section
variable {P:Program} {c:eS} {call:Nat->List AV->Heap->Option (AV × Heap)}
def Nq (P:Program) (c:eS) (call:Nat->List AV->Heap->Option (AV × Heap)):Prop:=
 ∀ X φ w B base s (o:Oper) (a:Act) kd f args md q r H',di P o.op (nj kd)=true->SB X φ w B base s (tm a)->Am.eI (iu c) X φ w->getArgs c s.env kd=some (f,args)->c.fn f=some (md,q)->md.sh=true->dm (args.map fa)=true->fx s.H=true->aV r=[]->bY r=false->fx H'=true->call f (args.map fa) s.H=some (r,H')->nB P X φ w B base ⟨l8 jD s.env,H'⟩ r o a
theorem ac1 (dy:fy P c) (eH:iG P c call) (jI:Nq P c call) {X:Nat->Prop} {φ:dx} {w:World} {B:Nat->Nat} {base:Nat} {s s1:St} {o:Oper} {a:Act} {kd:Kd} {v:AV} {fq:Fq} (hk:di P o.op (nj kd)=true) (h:SB X φ w B base s (tm a)) (hg:Am.eI (iu c) X φ w) (hs:eT c call kd s=some (v,s1,fq)):nB P X φ w B base s1 v o a:=by
 unfold eT at hs;split at hs
 ·cases hs
 rename_i f args ha;split at hs
 ·cases hs
 rename_i md q hf;split at hs
 ·rename_i hmd;simp only[ae,bN] at hmd;split at hs
  ·cases hs
  rename_i vu hz;split at hs
  case h_2=>cases hs
  rename_i r H' hc;split at hs
  case isFalse=>cases hs
  rename_i hr;simp only[af,aF] at hs;obtain⟨rfl,rfl,_⟩:=hs;exact Xp dy eH h hg hk ha hf hmd.2 hz hc hr
 ·obtain⟨l5,h1,a1⟩:=SB.eO (dz args) h;refine nB.ghost a1 ?_;split at hs
  ·cases hs
  rename_i f1 rE N6;split at hs
  case isFalse=>cases hs
  rename_i hff;subst hff;split at hs
  ·rename_i hm;split at hs
   case isFalse=>cases hs
   rename_i hp;split at hs
   case h_2=>cases hs
   rename_i r H' hc;split at hs
   case isFalse=>cases hs
   rename_i hr;simp only[af,aF] at hs;obtain⟨rfl,rfl,_⟩:=hs;simp only[ae,bN] at hp hr;exact jI X l5 w B base _ o a kd f1 rE md q r H' hk h1 (hg.oN a1) N6 hf hm hp.1 hp.2 (fN.1 hr.1.1) hr.1.2 hr.2 hc
  ·rename_i hm;split at hs
   case isFalse=>cases hs
   rename_i hp;split at hs
   case h_2=>cases hs
   rename_i r H' hc;split at hs
   case isFalse=>cases hs
   rename_i hr;simp only[af,aF] at hs;obtain⟨rfl,rfl,_⟩:=hs;exact Xo dy eH h1 (hg.oN a1) hk N6 hf (by simpa using hm) hp hc hr
def Sm (w:World) (og:Option Nat) (k:Nat) (ys:List AV) (e:Ending) (w':World):Prop:=
 ∃ (g' MW:Nat) (arr':Array Value) (e':TypeId),e=.returned (.slice (some ⟨g',0,none⟩) ys.length MW)/\ys.length<=MW/\MW*k<=arr'.size/\w'.heap[g']?=some (.cells arr' e' (0,0)) /\
  (∀(i:Nat) (d:AV),(aC ys)[i]?=some d->∃u,arr'[i]?=some u/\bR (fun _ _=>False) [] d u)/\(og=some g'\/w.heap.size<=g') /\
  (∀h,h<w.heap.size->og≠some h->w'.heap[h]?=w.heap[h]?)/\w'.os=w.os/\w'.tape=w.tape/\w'.output=w.output/\w.drawn<=w'.drawn/\w.heap.size<=w'.heap.size
abbrev Sk (T:Nat->Nat->Addr->Value->Prop) (w:World) (og:Option Nat) (k:Nat) (ys:List AV) (e:Ending) (w':World):Prop:=
 ∃ (g' MW:Nat) (arr':Array Value) (e':TypeId) (a':Addr),e=.returned (.slice (some a') ys.length MW)/\(0<MW->a'=⟨g',0,none⟩)/\ys.length<=MW/\MW*k<=arr'.size/\w'.heap[g']?=some (.cells arr' e' (0,0)) /\
  (∀(i:Nat) (d:AV),(aC ys)[i]?=some d->∃u,arr'[i]?=some u/\bR (T g' (arr'.size+1)) [] d u)/\(og=some g'\/w.heap.size<=g') /\
  (∀h,h<w.heap.size->og≠some h->w'.heap[h]?=w.heap[h]?)/\w'.os=w.os/\w'.tape=w.tape/\w'.output=w.output/\w.drawn<=w'.drawn/\w.heap.size<=w'.heap.size
def Wj (w:World) (og:Option Nat) (k:Nat) (ys:List AV) (e:Ending) (w':World):Prop:=
 Sk (fun _ _ _ _=>False) w og k ys e w' \/
 (og=none/\ys=[]/\e=.returned (.slice none 0 0)/\ft [] w [] w')
theorem Sm.n {w:World} {og:Option Nat} {k:Nat} {ys:List AV} {e:Ending} {w':World} (h:Sm w og k ys e w'):Wj w og k ys e w':=by
 obtain⟨g',MW,arr',e',h1,h2⟩:=h;exact .inl ⟨g',MW,arr',e',_,h1,fun _=>rfl,h2⟩
def YZ (w:World) (og:Option Nat) (a:Addr) (u:Value):Prop:=og≠some a.block/\w.cell? a=some u/\∃ arr te,w.heap[a.block]?=some (.cells arr te (0,0))
def acI (w:World) (og:Option Nat) (a:Addr) (u:Value):Prop:=og≠some a.block/\w.cell? a=some u
def BesE:AV->World->Option Nat->Addr->Value->Prop
 |.func _ _ _=>acI
 |_=>YZ
def YT (P:Program) (f:Nat) (g:Nat->List AV->List AV->Option (List AV)) (Q:World->Option Nat->Nat->List AV->Ending->World->Prop):Prop:=∀k xs es ys,g k xs es=some ys->(∀x∈xs,x.cells.length=k)->(∀x∈xs,∀d∈x.cells,fz d=true) ->
 ((∀y∈ys,y.cells.length=k)/\∀ y∈ys,∀d∈y.cells,fz d=true) /\
 (xs=[]->∀w (vargs:Array Value),es.length+1=vargs.size->vargs[0]?=some (.slice none 0 0)->(∀(i:Nat) (e:AV) (v:Value),es[i]?=some e->vargs[i+1]?=some v->bR (BesE e w none) [] e v)->Calls P f vargs w (Q w none k ys)) /\
 ∀ w (vargs:Array Value) g0 arr te a cap,w.heap[g0]?=some (.cells arr te (0,0))->(∀(i:Nat) (d:AV),(aC xs)[i]?=some d->∃u,arr[i]?=some u/\bR (fun _ _=>False) [] d u)->es.length+1=vargs.size->vargs[0]?=some (.slice (some a) xs.length cap)->(0<cap->a=⟨g0,0,none⟩)->xs.length<=cap->cap*k<=arr.size ->
  (∀(i:Nat) (e:AV) (v:Value),es[i]?=some e->vargs[i+1]?=some v->bR (BesE e w (some g0)) [] e v)->Calls P f vargs w (Q w (some g0) k ys)
def QF (P:Program) (c:eS):Prop:=True
def ahp (P:Program) (c:eS):Prop:=∀f g,c.inp f=some g->(∃md q,c.fn f=some (md,q))/\∀ k xs es ys res,g k xs es=some (ys,res)->(∀x∈xs,x.cells.length=k)->(∀x∈xs,∀d∈x.cells,fz d=true) ->
 ((ys.length=xs.length/\(∀y∈ys,y.cells.length=k))/\((∀y∈ys,∀d∈y.cells,fz d=true)/\∀ m,res=some m->m<=xs.length)) /\
 (xs=[]->∀X φ w (vargs:Array Value) v0 y,(y=.dC\/y=.list k [])->es.length+1=vargs.size->vargs[0]?=some v0->bR (Rd X φ w) φ y v0->(∀(i:Nat) (e:AV) (v:Value),es[i]?=some e->vargs[i+1]?=some v->bR (Rd X φ w) [] e v) ->
  Calls P f vargs w (fun e w'=>∃v',e=.returned v'/\bR (Rd X φ w') φ (match res with
   |none=>.dR []
   |some _=>y) v'/\ft [] w [] w')) /\
 ∀ X φ w Ha n rest (vargs:Array Value) v0,cm X φ w Ha->aH Ha n=some (aC (xs++rest))->es.length+1=vargs.size->vargs[0]?=some v0->bR (Rd X φ w) φ (.sl k n 0 xs.length) v0->(∀(i:Nat) (e:AV) (v:Value),es[i]?=some e->vargs[i+1]?=some v->bR (Rd X φ w) [] e v) ->
  Calls P f vargs w (fun e w'=>∃v' φ',e=.returned v'/\bR (Rd X φ' w') φ' (match res with
   |none=>.dR []
   |some m=>.sl k n 0 m) v'/\cm X φ' w' (Ha.set n (some (aC (ys++rest))))/\ft φ w φ' w')
def wO (P:Program) (c:eS):Prop:=ahp P c/\QF P c
theorem QF.none {P:Program} {c:eS} (h:∀f,c.eat f=none):QF P c:=trivial
theorem wO.none {P:Program} {c:eS} (h:∀f,c.inp f=none) (h2:∀f,c.eat f=none:=by intro _; rfl):wO P c:=⟨(fun f g hf=>by rw[h f] at hf; cases hf),QF.none h2⟩
theorem WT {s:St} {p:Rt} {v:AV} (h:at_ s p=some v):(∀i,get (setAt s p v).env i=get s.env i)/\(setAt s p v).H=s.H:=by
 cases p with
 |s i=>
   simp only[at_,af] at h;refine⟨fun j=>?_,rfl⟩;simp only[setAt,bQ];split
   ·rename_i e; subst e; exact h.symm
   ·rfl
 |sc i l=>
   simp only[at_] at h;split at h
   ·rename_i cs hc
    have e:cs.set l v=cs:=by
     apply dW;intro j;rw[aU];split
     ·rename_i e; subst e; split
      ·exact h.symm
      ·rename_i bE; rw[dO (by omega)] at h; cases h
     ·rfl
    have hs:setAt s (.sc i l) v=⟨put s.env i (.agg cs),s.H⟩:=by simp only[setAt,hc,e]
    rw[hs];refine⟨fun j=>?_,rfl⟩;show get (put s.env i (.agg cs)) j=_;rw[bQ];split
    ·rename_i e2; subst e2; exact hc.symm
    ·rfl
   ·cases h
 |c b l=>
   simp only[at_] at h;split at h
   ·rename_i cs hc
    have e:cs.set l v=cs:=by
     apply dW;intro j;rw[aU];split
     ·rename_i e; subst e; split
      ·exact h.symm
      ·rename_i bE; rw[dO (by omega)] at h; cases h
     ·rfl
    have hs:setAt s (.c b l) v=⟨s.env,s.H.set b (some cs)⟩:=by simp only[setAt,hc,e]
    rw[hs];refine⟨fun j=>rfl,?_⟩;show s.H.set b (some cs)=s.H;apply dW;intro j;rw[aU];split
    ·rename_i e2;subst e2;rw[if_pos (dU hc),blk_iff.1 hc]
    ·rfl
   ·cases h
theorem iq (xs ys:List AV):aC (xs++ys)=aC xs++aC ys:=by
 induction xs with
 |nil=>rfl
 |cons x r ih=>simp[aC,ih,dS]
theorem vG {xs:List AV} {d:AV} (h:d∈aC xs):∃x∈xs,d∈x.cells:=by
 induction xs with
 |nil=>simp[aC] at h
 |cons x r ih=>
   simp only[aC,aI] at h;rcases h with h|h
   ·exact⟨x,by simp,h⟩
   ·obtain⟨y,hy,hd⟩:=ih h;exact⟨y,by simp[hy],hd⟩
theorem YZ.weak {w:World} {og:Option Nat} {a:Addr} {u:Value} (h:YZ w og a u):acI w og a u:=⟨h.1,h.2.1⟩
theorem agN {X:Nat->Prop} {φ:dx} {w w':World} {Ha:Heap} (h:cm X φ w Ha) {n:Nat} {og:Option Nat} (h1:∀g,og=some g->∃sz,φ[n]?=some (some (g,sz))) (h2:og=none->φ.length<=n) {k:Nat} {ys:List AV} (hk:∀y∈ys,y.cells.length=k) {e:Ending} {T:Nat->Nat->Addr->Value->Prop} (hp:Sk T w og k ys e w') (hT:∀g' sz a u,T g' sz a u->Rd X (φ.set n none++[some (g',sz)]) w' a u) :
  ∃ φ' v',e=.returned v'/\cm X φ' w' (Ha.set n none++[some (aC ys)])/\ft φ w φ' w'/\bR (Rd X φ' w') φ' (.sl k Ha.length 0 ys.length) v':=by
 obtain⟨g',MW,arr',e',a',rfl,haa,iN,pH,RP,ja,Bq,Fc,ho1,ho2,ho3,ho4,ho5⟩:=hp;have hlen:=h.len;have hog:∀g,og=some g->bU φ g:=fun g e=>by obtain⟨sz,q⟩:=h1 g e; exact⟨n,sz,q⟩
 have Qi:=gV hk
 have sub:∀{b:Nat} {p:Nat × Nat},(φ.set n none)[b]?=some (some p)->φ[b]?=some (some p)/\b≠n:=by
  intro b p hb;rw[aU] at hb;split at hb
  ·split at hb<;>simp at hb
  ·rename_i qF; exact⟨hb,fun e=>qF e.symm⟩
 have notg:∀{b g0 td:Nat},b≠n->φ[b]?=some (some (g0,td))->og≠some g0:=by
  intro b g0 td hb jV e;obtain⟨sz,q⟩:=h1 g0 e;exact hb (h.inj b n g0 td sz jV q)
 have oN:ft φ w (φ.set n none++[some (g',arr'.size+1)]) w':=by
  refine⟨ho1,ho2,ho3,ho4,ho5,fun g0 bE iF=>⟨Fc g0 bE fun e=>iF (hog g0 e),fun ho=>?_⟩,⟨by simp,fun b p hb hp=>?_⟩⟩
  ·rcases tg ho with q|q
   ·exact iF (wk q)
   ·simp only at q;subst q;rcases Bq with e|e
    ·exact iF (hog _ e)
    ·omega
  ·rw[aA (by simpa using hb)] at hp;exact (sub hp).1
 refine⟨φ.set n none++[some (g',arr'.size+1)],_,rfl,?_,oN,?_⟩
 ·refine⟨by simp[hlen],fun g0 hg0=>fh (h.GR g0 hg0) ho5,fun b ds mT=>?_,fun b mT=>?_,fun b b' g0 td sz1 e1 e2=>?_⟩
  ·by_cases bE:b<Ha.length
   ·rw[aA (by simpa using bE)] at mT;rw[aU] at mT;split at mT
    ·split at mT<;>simp at mT
    rename_i qF;obtain⟨g0,td,V8,e0,p1,p2,p3,p4,p5,p6⟩:=h.live b ds mT;refine⟨g0,td,V8,e0,by rw[aA (by simp; omega),cT qF]; exact p1,?_,p3,p4,p5,fun i d hd=>?_⟩
    ·rw[Fc g0 (eG.1 p2).1 (notg (jP qF) p1)]; exact p2
    ·obtain⟨u,u1,u2⟩:=p6 i d hd;exact⟨u,u1,oN.rep u2⟩
   ·have Mo:b=Ha.length:=by have:=az mT; simp at this; omega
    subst Mo;rw[aL (by simp)] at mT;simp at mT;subst mT;refine⟨g',arr'.size+1,arr',_,?_,RP,.inl ⟨e',rfl,rfl⟩,⟨?_,fun z=>by omega⟩,?_,fun i d hd=>?_⟩
    ·rw[aL (by simp; omega)]; simp[hlen]
    ·rw[Qi];exact NF (bV k iN) pH
    ·intro hX;rcases Bq with q|q
     ·obtain⟨sz,jV⟩:=h1 _ q;cases hb:Ha[n]? with
      |none=>
        have:=az jV;rw[List.getElem?_eq_none_iff] at hb;omega
      |some z=>
        cases z with
        |none=>have:=h.dead n hb; rw[this] at jV; cases jV
        |some cs=>
          obtain⟨g0,td,V8,e0,p1,p2,p3,p4,p5,p6⟩:=h.live n cs hb;rw[p1] at jV;cases jV;exact p5 hX
     ·have:=h.GR _ hX; omega
    ·obtain⟨u,u1,u2⟩:=ja i d hd;exact⟨u,u1,(u2.mono (fun a u h=>hT _ _ a u h) (.refl _)).HV _⟩
  ·by_cases bE:b<Ha.length
   ·rw[aA (by simpa using bE)] at mT;rw[aA (by simp; omega)];rw[aU] at mT ⊢;by_cases e:n=b
    ·subst e; simp[show n<φ.length by omega]
    ·rw[if_neg e] at mT ⊢; exact h.dead b mT
   ·have Mo:b=Ha.length:=by have:=az mT; simp at this; omega
    subst Mo;rw[aL (by simp)] at mT;simp at mT
  ·have new:∀(b g0 td:Nat),(φ.set n none++[some (g',arr'.size+1)])[b]?=some (some (g0,td))->(b<φ.length/\φ[b]?=some (some (g0,td))/\b≠n/\g0<w.heap.size)\/(b=φ.length/\g0=g'):=by
    intro b g0 td hb;by_cases bE:b<φ.length
    ·rw[aA (by simpa using bE)] at hb;obtain⟨q1,q2⟩:=sub hb;exact .inl ⟨bE,q1,q2,(h.gS ⟨b,td,q1⟩).1⟩
    ·have jJ:=az hb;simp at jJ;have Mo:b=φ.length:=by omega
     subst Mo;rw[aL (by simp)] at hb;simp at hb;exact .inr ⟨rfl,hb.1.symm⟩
   have mix:∀{b td},φ[b]?=some (some (g',td))->b≠n->g'<w.heap.size->False:=fun{b td} q hb bE=>by
    rcases Bq with e|e
    ·exact notg hb q e
    ·omega
   rcases new b g0 td e1 with⟨l1,q1,d1,g1⟩|⟨l1,g1⟩<;>rcases new b' g0 sz1 e2 with⟨l2,q2,d2,g2⟩|⟨l2,g2⟩
   ·exact h.inj b b' g0 td sz1 q1 q2
   ·subst g2; exact (mix q1 d1 g1).elim
   ·subst g1; exact (mix q2 d2 g2).elim
   ·omega
 ·refine .sl _ _ _ _ _ _ _ (by simp[hlen]) iN fun g0 td e0=>?_;rw[aL (by simp; omega)] at e0;simp[hlen] at e0;obtain⟨rfl,rfl⟩:=e0;exact⟨haa,by omega⟩
theorem ff.Oe {X:Nat->Prop} {φ l5:dx} {w w1:World} {N:Names} {s:St} {Ha Ha':Heap} {t:Nat->Value} (h:ff X φ w N s Ha t) {p:Rt} {kp:Nat} {xs:List AV} (hp:aB s p=some (kp,xs)) (ad:ft φ w l5 w1) (hh:cm X l5 w1 Ha') {n:Nat} (hn:N.ν p=some n\/φ.length<=n) (lN:∀m,m≠n->m<Ha.length->aH Ha' m=aH Ha m):ff X l5 w1 N (setAt (cB (sw p) s) p .any) Ha' t:=by
 have hpo:(aB s p).isSome:=by rw[hp]; rfl
 obtain⟨d1,d2,d3⟩:=h.drop hp;have hlen:=h.heap.len;refine d1.oN ad hh (fun q k' zs e=>?_) (fun b Fe=>?_)
 ·have e':=e;rw[d2] at e';split at e'
  ·cases e'
  rename_i rn;refine (d1.own q k' zs e).same fun m hmq=>?_;have hml:=h.gS (by rw[e']; rfl) hmq;refine lN m ?_ hml;rintro rfl;rcases hn with hn|hn
  ·exact rn (h.inj q p m (by rw[e']; rfl) hpo hmq hn)
  ·omega
 ·have N3:(aH s.H b).isSome:=by
   cases e:aH s.H b with
   |none=>rw[d3.F6 b e] at Fe; cases Fe
   |some _=>rfl
  have hml:=h.uK N3;refine lN _ ?_ hml;intro e;rcases hn with hn|hn
  ·exact h.bx b p N3 hpo (by rw[hn,e])
  ·omega
theorem adh {X:Nat->Prop} {φ:dx} {w w':World} {Ha:Heap} (h:cm X φ w Ha) {n:Nat} {og:Option Nat} (h1:∀g,og=some g->∃sz,φ[n]?=some (some (g,sz))) (Fc:∀g,g<w.heap.size->og≠some g->w'.heap[g]?=w.heap[g]?) (ho1:w'.os=w.os) (ho2:w'.tape=w.tape) (ho3:w'.output=w.output) (ho4:w.drawn<=w'.drawn) (ho5:w.heap.size<=w'.heap.size):cm X (φ.set n none) w' (Ha.set n none)/\ft φ w (φ.set n none) w':=by
 have hlen:=h.len;have hog:∀g,og=some g->bU φ g:=fun g e=>by obtain⟨sz,q⟩:=h1 g e; exact⟨n,sz,q⟩
 have sub:∀{b:Nat} {p:Nat × Nat},(φ.set n none)[b]?=some (some p)->φ[b]?=some (some p)/\b≠n:=by
  intro b p hb;rw[aU] at hb;split at hb
  ·split at hb<;>simp at hb
  ·rename_i qF; exact⟨hb,fun e=>qF e.symm⟩
 have notg:∀{b g0 td:Nat},b≠n->φ[b]?=some (some (g0,td))->og≠some g0:=by
  intro b g0 td hb jV e;obtain⟨sz,q⟩:=h1 g0 e;exact hb (h.inj b n g0 td sz jV q)
 have oN:ft φ w (φ.set n none) w':=⟨ho1,ho2,ho3,ho4,ho5,fun g0 bE iF=>⟨Fc g0 bE fun e=>iF (hog g0 e),fun ho=>iF (wk ho)⟩,⟨by simp,fun b p _ hp=>(sub hp).1⟩⟩;refine⟨⟨by simp[hlen],fun g0 hg0=>fh (h.GR g0 hg0) ho5,fun b ds mT=>?_,fun b mT=>?_,fun b b' g0 td sz1 e1 e2=>h.inj b b' g0 td sz1 (sub e1).1 (sub e2).1⟩,oN⟩
 ·rw[aU] at mT;split at mT
  ·split at mT<;>simp at mT
  rename_i qF;obtain⟨g0,td,V8,e0,p1,p2,p3,p4,p5,p6⟩:=h.live b ds mT;refine⟨g0,td,V8,e0,by rw[cT qF]; exact p1,?_,p3,p4,p5,fun i d hd=>?_⟩
  ·rw[Fc g0 (eG.1 p2).1 (notg (jP qF) p1)]; exact p2
  ·obtain⟨u,u1,u2⟩:=p6 i d hd;exact⟨u,u1,oN.rep u2⟩
 ·rw[aU] at mT ⊢;by_cases e:n=b
  ·subst e;rw[if_pos rfl] at mT ⊢;split at mT
   ·rw[if_pos (by omega)]
   ·cases mT
  ·rw[if_neg e] at mT ⊢; exact h.dead b mT
theorem aib {X:Nat->Prop} {φ:dx} {w:World} {B:Nat->Nat} {base:Nat} {N:Names} {s:St} {Ha:Heap} {t:Nat->Value} (h:ff X φ w N s Ha t) (hb:(∀b,b<base->N.β b=B b)/\base<=s.H.length) {p:Rt} {kp:Nat} {xs ys:List AV} (hp:aB s p=some (kp,xs)) {k:Nat} {T:Nat->Nat->Addr->Value->Prop} {n:Nat} {og:Option Nat} (h1:∀g,og=some g->∃sz,φ[n]?=some (some (g,sz))) (h2:og=none->φ.length<=n) (hn:N.ν p=some n\/φ.length<=n) (zo:(∀y∈ys,y.cells.length=k)/\∀ y∈ys,∀d∈y.cells,fz d=true) {e:Ending} {w1:World} (agm:Sk T w og k ys e w1\/(og=none/\ys=[]/\e=.returned (.slice none 0 0)/\ft [] w [] w1)) (hT:∀g' sz a u,T g' sz a u->Rd X (φ.set n none++[some (g',sz)]) w1 a u) :
  ∃ v',e=.returned v'/\∃ l5,eF X l5 w1 B base (setAt (cB (sw p) s) p .any) (.own k ys) t v'/\ft φ w l5 w1:=by
  have hpo:(aB s p).isSome:=by rw[hp]; rfl
  obtain⟨d1,d2,d3⟩:=h.drop hp;have B9:(∀b,b<base->N.β b=B b)/\base<=(setAt (cB (sw p) s) p .any).H.length:=⟨hb.1,by rw[d3.len]; exact hb.2⟩;have hlen:=h.heap.len;rcases agm with agm|hnil
  case inr=>
   obtain⟨_,rfl,rfl,ad⟩:=hnil;have gq:ff X φ w1 N (setAt (cB (sw p) s) p .any) Ha t:=d1.oN (.of_same ad) (h.heap.of_same ad) d1.own (fun _ _=>rfl);refine⟨_,rfl,φ,eF.quiet gq B9 ?_ ?_ ?_,.of_same ad⟩
   ·trivial
   ·trivial
   ·simp only[zd]; exact .dC _
  obtain⟨l5,v',rfl,hh,ad,rv⟩:=agN h.heap h1 h2 zo.1 agm hT;refine⟨v',rfl,l5,?_,ad⟩
  have lN:∀m,m≠n->m<Ha.length->aH (Ha.set n none++[some (aC ys)]) m=aH Ha m:=fun m FF bE=>by
   rw[fQ,if_neg (by simp; omega)];unfold aH; rw[cT (jP FF)]
  have gq:ff X l5 w1 N (setAt (cB (sw p) s) p .any) (Ha.set n none++[some (aC ys)]) t:=h.Oe hp ad hh hn lN;refine eF.fresh gq B9 (n:=Ha.length) ⟨aC ys,by rw[fQ,if_pos (by simp)],by rw[gV zo.1]; exact aJ _,zo.1,fun i d hd=>?_⟩ (fun q hq e=>?_) (fun b Fe e=>?_) rv
  ·obtain⟨y,hy,hdy⟩:=vG (bp hd);have hfd:=zo.2 y hy d hdy;exact⟨hfd,d,hd,(my hfd).2,Le.refl _⟩
  ·have hq':(aB s q).isSome:=by
    rw[d2] at hq;split at hq
    ·cases hq
    ·exact hq
   have:=h.gS hq' e;omega
  ·have N3:(aH s.H b).isSome:=by
    cases e:aH s.H b with
    |none=>rw[d3.F6 b e] at Fe; cases Fe
    |some _=>rfl
   have:=h.uK N3;omega
theorem al9 (dy:fy P c) (heat:QF P c) {X:Nat->Prop} {φ:dx} {w:World} {B:Nat->Nat} {base:Nat} {s s1:St} {o:Oper} {a:Act} {f:Nat} {x:E} {es:List E} {v:AV} {fq:Fq} (hk:di P o.op (nj (.call f (x::es)))=true) (h:SB X φ w B base s (tm a)) (hg:Am.eI (iu c) X φ w) {g:Nat->List AV->List AV->Option (List AV)} (SF:c.eat f=some g) (hs:Yq s g (bq c s.env x) (dK c s.env es)=some (v,s1,fq)):nB P X φ w B base s1 v o a:=by unfold Yq at hs;cases hs
mutual
theorem Ra:∀x,pl x=true->aV x=[]
 |.dX _ _ _ _,h=>by simp[pl] at h
 |.fG _ _ _ _,h=>by simp[pl] at h
 |.agg cs,h=>by simp only[pl] at h; simp only[aV]; exact Bc cs h
 |.dR cs,h=>by simp only[pl] at h; simp only[aV]; exact Bc cs h
 |.func _ a b,h=>by simp only[pl,ae] at h; simp only[aV,Bc a h.2.1,Bc b h.2.2,jE]
 |.any,_=>rfl|.undef,_=>rfl|.fY,_=>rfl|.gh,_=>rfl|.dC,_=>rfl
 |.int _ _,_=>rfl|.bool _,_=>rfl|.str _,_=>rfl|.list _ _,_=>rfl|.dG _,_=>rfl|.ptr _ _,_=>rfl|.sl _ _ _ _,_=>rfl|.own _ _,_=>rfl
theorem Bc:∀xs,dc xs=true->dz xs=[]
 |[],_=>rfl
 |x::r,h=>by simp only[dc,ae] at h; simp only[dz,Ra x h.1,Bc r h.2,jE]
end
theorem afX {s s1:St} {f:Nat} {x:AV} {es:List AV} {v:AV} {fl:Fq} (h:locV c call s f es x=some (v,s1,fl)):∃b md q cs cs',x=.ptr b 0/\c.fn f=some (md,q)/\aH s.H b=some cs/\(md.sh=true/\dc es=true/\dc cs=true)/\call f (.ptr 0 0::es) [some cs]=some (v,[some cs'])/\(pl v=true/\dc cs'=true)/\s1=⟨s.env,s.H.set b (some cs')⟩/\fl=.lw b:=by
 unfold locV at h;split at h
 case h_2=>cases h
 rename_i b;split at h
 case h_2=>cases h
 rename_i md q cs hf hb;split at h
 case isFalse=>cases h
 rename_i hp;split at h
 case h_2=>cases h
 rename_i r cs' hc;split at h
 case isFalse=>cases h
 rename_i hr;simp only[af,aF] at h;obtain⟨rfl,rfl,rfl⟩:=h;exact⟨b,md,q,cs,cs',rfl,hf,hb,hp,hc,hr,rfl,rfl⟩
theorem Ai {s s1:St} {kd:Kd} {v:AV} {fl:Fq} (h:p7 c call s kd=some (some (v,s1,fl))):∃f x es b md q cs cs',kd=.call f (x::es)/\c.loc f=true/\bq c s.env x=.ptr b 0/\c.fn f=some (md,q)/\aH s.H b=some cs/\(md.sh=true/\dc (dK c s.env es)=true/\dc cs=true)/\call f (.ptr 0 0::dK c s.env es) [some cs]=some (v,[some cs'])/\(pl v=true/\dc cs'=true)/\s1=⟨s.env,s.H.set b (some cs')⟩/\fl=.lw b:=by
 unfold p7 at h;split at h
 case h_2=>cases h
 rename_i f x es;split at h
 case isFalse=>cases h
 rename_i hl;simp only[af] at h;obtain⟨b,md,q,cs,cs',h1,h2,h3,h4,h5,h6,h7,h8⟩:=afX h;exact⟨f,x,es,b,md,q,cs,cs',rfl,hl,h1,h2,h3,h4,h5,h6,h7,h8⟩
theorem IY {s s1:St} {kd:Kd} {v:AV} {f:Fq} (h:p7 c call s kd=some (some (v,s1,f))):∃b,f=.lw b:=by
 obtain⟨_,_,_,b,_,_,_,_,_,_,_,_,_,_,_,_,_,e⟩:=Ai h;exact⟨b,e⟩
theorem Xi:∀{l:List AV},(∀y∈l,pl y=true)->dc l=true
 |[],_=>rfl
 |x::r,h=>by simp only[dc,ae]; exact⟨h x (by simp),Xi fun y hy=>h y (by simp[hy])⟩
theorem RZ:∀{l:List AV},(∀y∈l,y.cells=[y])->aC l=l
 |[],_=>rfl
 |x::r,h=>by
   simp only[aC];rw[h x (by simp),RZ fun y hy=>h y (by simp[hy])];rfl
theorem agH {x:AV} (h:fz x=true):x.cells=[x]:=by
 have:=(my h).2;cases x<;>first|rfl|(simp[AV.leaf] at this; done)
theorem aij (dy:fy P c) (qv:ahp P c) {X:Nat->Prop} {φ:dx} {w:World} {B:Nat->Nat} {base:Nat} {s:St} {o:Oper} {a:Act} {f:Nat} {x:E} {es:List E} {g:Nat->List AV->List AV->Option (List AV × Option Nat)} (hk:di P o.op (nj (.call f (x::es)))=true) (h:SB X φ w B base s (tm a)) (hg:Am.eI (iu c) X φ w) (SF:c.inp f=some g) {k b len:Nat} {cs ys:List AV} {res:Option Nat} (hx:bq c s.env x=.sl k b 0 len) (hb:aH s.H b=some cs) (hc:k=1/\len<=cs.length/\FG cs=true/\dc (dK c s.env es)=true) (NZ:g k (cs.take len) (dK c s.env es)=some (ys,res)):nB P X φ w B base ⟨s.env,s.H.set b (some (aC ys++cs.drop len))⟩ (Mh k b res) o a:=by
 obtain⟨rfl,hle,It,oS⟩:=hc;obtain⟨⟨md,q,hf⟩,hI⟩:=qv f g SF;obtain⟨N,Ha,h,Fe⟩:=h;obtain⟨vargs,pI,hA,BR⟩:=oL (kd:=.call f (x::es)) (args:=bq c s.env x::dK c s.env es) dy h hg hk rfl hf;rw[hx] at hA BR;have hl:(dK c s.env es).length+1=vargs.size:=by have:=hA.1; simpa using this
 obtain⟨v0,Vi⟩:=cc (l:=vargs) (i:=0) (by omega);have r0:=hA.2 0 _ v0 rfl Vi
 have hes:∀(i:Nat) (e:AV) (u:Value),(dK c s.env es)[i]?=some e->vargs[i+1]?=some u->bR (Rd X φ w) [] e u:=fun i e u he hu=>by
  have r1:=hA.2 (i+1) e u (by simpa using he) hu;have NB:=gg oS i e he;have ht:gU N e=e:=by cases e<;>first|exact mj N _ NB|(simp[pl] at NB; done)
  rw[ht] at r1;exact r1.dL (gb _ NB) []
 simp only[gU,cU] at r0;obtain⟨as,b1,b2,b3⟩:=h.box b cs hb;have hce:∀y∈cs,y.cells=[y]:=fun y hy=>agH (qH It y hy);have Kq:dc cs=true:=Xi fun y hy=>(my (qH It y hy)).1
 have hH1:cm X φ w (Ha.set (N.β b) (some cs)):=less h.heap b1 (by omega) (.inr (by omega)) fun i d hd=>by
  obtain⟨_,a',a1,a2⟩:=b3 i d hd;rw[tv N _ (gg Kq i d hd)] at a2;exact⟨a',a1,a2⟩
 have htd:aC (cs.take len++cs.drop len)=cs:=by rw[WB]; exact RZ hce
 have bE:(cs.take len).length=len:=by rw[bD]; omega
 obtain⟨⟨⟨j1,j2⟩,j3,j4⟩,_,j6⟩:=hI 1 _ _ ys res NZ (fun y hy=>by rw[hce y (du hy)]; rfl) (fun y hy d hd=>by
  have Mj:=du hy;rw[hce y Mj] at hd;simp at hd;subst hd;exact qH It d Mj)
 have jW:=j6 X φ w (Ha.set (N.β b) (some cs)) (N.β b) (cs.drop len) vargs v0 hH1 (by rw[htd,dH,if_pos ⟨rfl,dU b1⟩]) hl Vi (by rw[bE]; exact r0) hes;intro K Q hK;unfold Oper.wp;rw[pI,Oper.upon_enter];refine jW.mono ?_;rintro e w1 ⟨v',l5,rfl,rv,hh,ad⟩;rw[List.set_set,iq,RZ (l:=cs.drop len) fun y hy=>hce y (dv hy)] at hh
 have NW:dc (aC ys++cs.drop len)=true:=Xi fun y hy=>by
  rcases aI.1 hy with hy|hy
  ·obtain⟨z,hz,hd⟩:=vG hy;exact (my (j3 z hz y hd)).1
  ·exact (my (qH It y (dv hy))).1
 have gq:=h.QS (cs':=aC ys++cs.drop len) hb Kq NW ad hh (by rw[dH,if_pos ⟨rfl,dU b1⟩]) fun m hm=>by rw[dH,if_neg (fun h=>hm h.1)]
 refine hK v' w1 l5 (eF.quiet gq ⟨Fe.1,by simpa using Fe.2⟩ ?_ ?_ ?_) ad
 ·cases res with
  |none=>trivial
  |some m=>
    show b<(s.H.set b _).length;rw[cF]; exact dU hb
 ·cases res<;>trivial
 ·cases res with
  |none=>simpa[Mh,zd,cU,mX] using rv
  |some m=>simpa[Mh,zd,cU] using rv
theorem al5 (dy:fy P c) (qv:wO P c) {X:Nat->Prop} {φ:dx} {w:World} {B:Nat->Nat} {base:Nat} {s s1:St} {o:Oper} {a:Act} {kd:Kd} {v:AV} {fq:Fq} (hk:di P o.op (nj kd)=true) (h:SB X φ w B base s (tm a)) (hg:Am.eI (iu c) X φ w) (hs:sO c s kd=some (some (v,s1,fq))):nB P X φ w B base s1 v o a:=by
 unfold sO at hs;split at hs
 case h_2=>cases hs
 rename_i f x es;split at hs
 case h_1=>
  split at hs
  ·cases hs
  ·rename_i g SF;simp only[af] at hs;exact al9 dy qv.2 hk h hg SF hs
 replace qv:=qv.1;rename_i g SF;simp only[af] at hs;split at hs
 case h_4=>cases hs
 case h_3=>
  rename_i k b len hx;split at hs
  case h_2=>cases hs
  rename_i cs hb;split at hs
  case isFalse=>cases hs
  rename_i hc;split at hs
  case h_2=>cases hs
  rename_i ys res NZ;simp only[af,aF] at hs;obtain⟨rfl,rfl,_⟩:=hs;exact aij dy qv hk h hg SF hx hb hc NZ
 ·rename_i k hx;split at hs
  case isFalse=>cases hs
  rename_i oS;split at hs
  case h_2=>cases hs
  rename_i ys res NZ;simp only[af,aF] at hs;obtain⟨rfl,rfl,_⟩:=hs;obtain⟨⟨md,q,hf⟩,hI⟩:=qv f g SF;obtain⟨N,Ha,h,hb⟩:=h;obtain⟨vargs,pI,hA,BR⟩:=oL (kd:=.call f (x::es)) (args:=bq c s.env x::dK c s.env es) dy h hg hk rfl hf;rw[hx] at hA BR;have hl:(dK c s.env es).length+1=vargs.size:=by have:=hA.1; simpa using this
  obtain⟨v0,Vi⟩:=cc (l:=vargs) (i:=0) (by omega);have r0:=hA.2 0 _ v0 rfl Vi
  have hes:∀(i:Nat) (e:AV) (u:Value),(dK c s.env es)[i]?=some e->vargs[i+1]?=some u->bR (Rd X φ w) [] e u:=fun i e u he hu=>by
   have r1:=hA.2 (i+1) e u (by simpa using he) hu;have NB:=gg oS i e he;have ht:gU N e=e:=by cases e<;>first|exact mj N _ NB|(simp[pl] at NB; done)
   rw[ht] at r1;exact r1.dL (gb _ NB) []
  obtain⟨_,j3,_⟩:=hI k _ _ ys res NZ (fun y hy=>by simp at hy) (fun y hy=>by simp at hy);simp only[gU,cU] at r0;have jW:=j3 rfl X φ w vargs v0 _ (.inr rfl) hl Vi r0 hes;intro K Q hK;unfold Oper.wp;rw[pI,Oper.upon_enter];refine jW.mono ?_;rintro e w1 ⟨v',rfl,rv,ad⟩;have gq:ff X φ w1 N s Ha (tm a):=h.oN (.of_same ad) (h.heap.of_same ad) h.own (fun _ _=>rfl);refine hK v' w1 φ (eF.quiet gq hb ?_ ?_ ?_) (.of_same ad)
  ·cases res<;>trivial
  ·cases res<;>trivial
  ·cases res with
   |none=>simpa[inpL,zd,cU,mX] using rv
   |some m=>simpa[inpL,zd,cU] using rv
 rename_i k p len hx;split at hs
 case h_2=>cases hs
 rename_i k' xs hp;split at hs
 case isFalse=>cases hs
 rename_i hc;obtain⟨rfl,hle,oS⟩:=hc;split at hs
 case h_2=>cases hs
 rename_i ys res NZ;simp only[af,aF] at hs;obtain⟨rfl,rfl,_⟩:=hs;obtain⟨⟨md,q,hf⟩,hI⟩:=qv f g SF;obtain⟨N,Ha,h,hb⟩:=h;obtain⟨vargs,pI,hA,BR⟩:=oL (kd:=.call f (x::es)) (args:=bq c s.env x::dK c s.env es) dy h hg hk rfl hf;rw[hx] at hA BR;have hl:(dK c s.env es).length+1=vargs.size:=by have:=hA.1; simpa using this
 obtain⟨v0,Vi⟩:=cc (l:=vargs) (i:=0) (by omega);have r0:=hA.2 0 _ v0 rfl Vi
 have hes:∀(i:Nat) (e:AV) (u:Value),(dK c s.env es)[i]?=some e->vargs[i+1]?=some u->bR (Rd X φ w) [] e u:=fun i e u he hu=>by
  have r1:=hA.2 (i+1) e u (by simpa using he) hu;have NB:=gg oS i e he;have ht:gU N e=e:=by cases e<;>first|exact mj N _ NB|(simp[pl] at NB; done)
  rw[ht] at r1;exact r1.dL (gb _ NB) []
 have eZ:=h.own p k' xs hp;cases hn:N.ν p with
 |none=>
   rw[hn] at eZ;have hxs:xs=[]:=eZ;subst hxs;have h0:len=0:=by simpa using hle
   subst h0;obtain⟨⟨⟨j1,_⟩,_,j2⟩,j3,_⟩:=hI k' _ _ ys res NZ (fun y hy=>by simp at hy) (fun y hy=>by simp at hy);have zo:ys=[]:=by simpa using j1
   subst zo;simp only[gU,cU,hn] at r0;have jW:=j3 (by simp) X φ w vargs v0 _ (.inl rfl) hl Vi r0 hes;intro K Q hK;unfold Oper.wp;rw[pI,Oper.upon_enter];refine jW.mono ?_;rintro e w1 ⟨v',rfl,rv,ad⟩;obtain⟨se,sH⟩:=WT (s:=s) (p:=p) (v:=.own k' []) (cD.1 hp);have gq:ff X φ w1 N (setAt s p (.own k' ([]++([]:List AV).drop 0))) Ha (tm a):=(h.oN (.of_same ad) (h.heap.of_same ad) h.own (fun _ _=>rfl)).ext se sH;refine hK v' w1 φ (eF.quiet gq ⟨hb.1,by show base<=(setAt s p (.own k' [])).H.length; rw[sH]; exact hb.2⟩ ?_ ?_ ?_) (.of_same ad)
   ·cases res with
    |none=>trivial
    |some m=>
      have:=j2 m rfl;simp at this;subst this
      exact⟨[],by
       show aB (setAt s p (.own k' [])) p=_;rw[Po se sH]; exact hp,by simp⟩
   ·cases res<;>trivial
   ·cases res with
    |none=>simpa[inpV,zd,cU,mX] using rv
    |some m=>simpa[inpV,zd,cU,hn] using rv
 |some n=>
   rw[hn] at eZ;obtain⟨cs,c1,c2,c3,c4⟩:=eZ;have hxs:xs.take len++xs.drop len=xs:=WB len xs
   have It:∀y∈xs,∀d∈y.cells,fz d=true:=by
    intro y hy d hd
    have:d∈aC xs:=by
     clear c1 c2 c3 c4 NZ hp hle hxs hA r0 BR hx Vi hes
     induction xs with
     |nil=>simp at hy
     |cons z r ih=>
       simp only[aC,aI];rcases aO.1 hy with e|e
       ·subst e; exact .inl hd
       ·exact .inr (ih e)
    obtain⟨i,hi⟩:=bG this;exact (c4 i d hi).1
   obtain⟨⟨⟨j1,j2⟩,j3,j4⟩,_,j6⟩:=hI k' _ _ ys res NZ (fun y hy=>c3 y (du hy)) (fun y hy=>It y (du hy));have bE:(xs.take len).length=len:=by simp; omega
   rw[bE] at j1;simp only[gU,cU,hn,rJ] at r0
   have hH1:cm X φ w (Ha.set n (some (aC xs))):=less h.heap c1 (by rw[gV c3]; exact c2) (.inl fun g sz e=>r0.zq e) fun i d hd=>by
    obtain⟨_,a',b1,_,b2⟩:=c4 i d hd;exact⟨a',b1,b2⟩
   have jW:=j6 X φ w (Ha.set n (some (aC xs))) n (xs.drop len) vargs v0 hH1 (by rw[hxs,dH,if_pos ⟨rfl,dU c1⟩]) hl Vi (by rw[bE]; exact r0) hes;intro K Q hK;unfold Oper.wp;rw[pI,Oper.upon_enter];refine jW.mono ?_;rintro e w1 ⟨v',l5,rfl,rv,hh,ad⟩;rw[List.set_set] at hh
   have Vq:∀y∈ys++xs.drop len,y.cells.length=k':=fun y hy=>by
    rcases aI.1 hy with hy|hy
    ·exact j2 y hy
    ·exact c3 y (dv hy)
   have hnew:rF (Ha.set n (some (aC (ys++xs.drop len)))) (some n) k' (ys++xs.drop len):=by
    refine⟨aC (ys++xs.drop len),by rw[dH,if_pos ⟨rfl,dU c1⟩],by rw[gV Vq]; exact aJ _,Vq,fun i d hd=>?_⟩;have hm:=vG (bp hd);obtain⟨y,hy,hdy⟩:=hm
    have hfd:fz d=true:=by
     rcases aI.1 hy with hy|hy
     ·exact j3 y hy d hdy
     ·exact It y (dv hy) d hdy
    exact⟨hfd,d,hd,(my hfd).2,Le.refl _⟩
   obtain⟨gq,jI⟩:=h.upd (xs':=ys++xs.drop len) hp hn (by simp; omega) ad hh hnew (fun m FF=>by rw[dH,if_neg (fun e=>FF e.1)])
   have fu:aB (setAt s p (.own k' (ys++xs.drop len))) p=some (k',ys++xs.drop len):=by
    have zf:=cD.1 hp;refine cD.2 ?_;rw[GI ⟨(fun cs e=>by cases e),_,zf,(fun cs e=>by cases e)⟩ (Ll (by rw[hp]; rfl)),if_pos rfl]
   refine hK v' w1 l5 (eF.quiet gq ⟨hb.1,by rw[jI.len]; exact hb.2⟩ ?_ ?_ ?_) ad
   ·cases res with
    |none=>trivial
    |some m=>
      have:=j4 m rfl;refine⟨_,fu,?_⟩;rw[bO];omega
   ·cases res<;>trivial
   ·cases res with
    |none=>simpa[inpV,zd,cU,mX] using rv
    |some m=>simpa[inpV,zd,cU,hn] using rv
theorem alX (dy:fy P c) (eH:iG P c call) {X:Nat->Prop} {φ:dx} {w:World} {B:Nat->Nat} {base:Nat} {s s1:St} {o:Oper} {a:Act} {kd:Kd} {v:AV} {fq:Fq} (hk:di P o.op (nj kd)=true) (h:SB X φ w B base s (tm a)) (hg:Am.eI (iu c) X φ w) (hs:p7 c call s kd=some (some (v,s1,fq))):nB P X φ w B base s1 v o a:=by
 obtain⟨f,x,es,b,md,q,cs,cs',rfl,hl,hx,hf,hb,⟨jI,oS,Kq⟩,hc,⟨hpr,XZ⟩,rfl,rfl⟩:=Ai hs;obtain⟨N,Ha,h,Fe⟩:=h;obtain⟨vargs,pI,hA,BR⟩:=oL (kd:=.call f (x::es)) (args:=bq c s.env x::dK c s.env es) dy h hg hk rfl hf;rw[hx] at hA BR;generalize dK c s.env es=as at oS hc hA BR;obtain⟨bs,b1,b2,b3⟩:=h.box b cs hb
 obtain⟨g,sz,arr,te,g1,g2,g3,g4,g5,g6⟩:=h.heap.cat b1 (fun g sz q=>by
  obtain⟨v0,Vi⟩:=cc (l:=vargs) (i:=0) (by have:=hA.1; simp at this; omega);have r0:bR (Rd X φ w) φ (.ptr (N.β b) 0) v0:=hA.2 0 _ v0 rfl Vi;exact r0.ah2 q)
 have og:bU φ g:=⟨_,sz,g1⟩
 have ow:∀g0,bU [some (g,sz)] g0->g0=g:=by
  rintro g0 ⟨i,z,hi⟩;cases i with
  |zero=>simp at hi; exact hi.1.symm
  |succ i=>simp at hi
 have rdin:∀a u,Rd X φ w a u->Rd (fun g0=>X g0\/(bU φ g0/\g0≠g)) [some (g,sz)] w a u:=fun a u ⟨h1,h2,h3⟩=>⟨fun h=>h.elim h1 (fun h=>h2 h.1),fun ho=>h2 (by rw[ow _ ho]; exact og),h3⟩
 have hh:cm (fun g0=>X g0\/(bU φ g0/\g0≠g)) [some (g,sz)] w [some cs]:=by
  refine⟨rfl,fun g0 h0=>h0.elim (h.heap.GR g0) (fun ho=>(h.heap.gS ho.1).1),fun i ds hi=>?_,fun i hi=>?_,fun i i' g0 z z' e1 e2=>?_⟩
  ·cases i with
   |succ i=>simp at hi
   |zero=>
     simp at hi;subst hi;refine⟨g,sz,arr,_,rfl,g2,.inl ⟨te,rfl,g3⟩,⟨by omega,fun z=>by omega⟩,fun h0=>h0.elim g5 (fun h1=>h1.2 rfl),fun j d hd=>?_⟩;obtain⟨_,a',ha',hle⟩:=b3 j d hd;obtain⟨u,u1,u2⟩:=g6 j a' ha';have hpd:=gg Kq j d hd;rw[tv N _ hpd] at hle;exact⟨u,u1,((hle _ _ _ u2).dL (gb _ hpd) _).mono rdin (.refl _)⟩
  ·cases i with
   |zero=>simp at hi
   |succ i=>simp at hi
  ·cases i with
   |succ i=>simp at e1
   |zero=>cases i' with
     |zero=>rfl
     |succ i'=>simp at e2
 have B8:∀i,get (dP 0 (AV.ptr 0 0::as)) i=(AV.ptr 0 0::as)[i]?.getD .any:=fun i=>by rw[tD]; simp
 have Mm:∀i,(get (dP 0 (AV.ptr 0 0::as)) i=.ptr 0 0/\i=0)\/pl (get (dP 0 (AV.ptr 0 0::as)) i)=true:=fun i=>by
  rw[B8];cases i with
  |zero=>exact .inl ⟨rfl,rfl⟩
  |succ i=>
    refine .inr ?_;simp only[p9];cases e:as[i]? with
    |none=>rfl
    |some x=>exact gg oS i x e
 have iF:∀p,aB ⟨dP 0 (AV.ptr 0 0::as),[some cs]⟩ p=none:=by
  have hw:∀i,bY (get (dP 0 (AV.ptr 0 0::as)) i)=false:=fun i=>(Mm i).elim (fun e=>by rw[e.1]; rfl) ug;intro p;cases p with
  |s i=>exact (eB (s:=⟨dP 0 (AV.ptr 0 0::as),[some cs]⟩) (hw i)).1
  |sc i j=>exact (eB (s:=⟨dP 0 (AV.ptr 0 0::as),[some cs]⟩) (hw i)).2 j
  |c d j=>
    refine F2 fun ds hd=>?_;cases d with
    |zero=>simp[aH] at hd; subst hd; exact Kq
    |succ d=>simp[aH] at hd
 have pH:as.length+1=vargs.size:=by simpa using hA.1
 have NA:SB (fun g0=>X g0\/(bU φ g0/\g0≠g)) [some (g,sz)] w (fun _=>0) 1 ⟨dP 0 (AV.ptr 0 0::as),[some cs]⟩ (fun i=>vargs.getD i undef):=by
  refine⟨⟨fun _=>0,fun _=>none⟩,[some cs],⟨fun i=>?_,fun i=>?_,hh,fun p k xs e=>?_,fun d ds e=>?_,fun p q n e1=>?_,fun d p _ e1=>?_,fun d e0 e1 e2 _=>?_⟩,fun b hb=>rfl,by simp⟩
  ·show bR _ _ (lZ _ i (get (dP 0 (AV.ptr 0 0::as)) i)) _;rcases Mm i with⟨e,rfl⟩|hp
   ·rw[e];obtain⟨v0,Vi⟩:=cc (l:=vargs) (i:=0) (by omega);have r0:=hA.2 0 _ v0 rfl Vi;rw[bm,Vi];simp only[gU,cU] at r0;cases r0 with
    |ptr _ _ _ ad jJ h'=>
      refine .ptr _ _ _ _ (by simp) fun g0 z e=>?_;simp at e;obtain⟨rfl,rfl⟩:=e;exact h' g sz g1
   ·rw[zn _ _ hp];cases i with
    |zero=>rw[B8] at hp; simp[pl] at hp
    |succ i=>
      rw[B8] at hp ⊢;simp only[p9] at hp ⊢;cases e:as[i]? with
      |none=>exact .any _ _
      |some y=>
        rw[e] at hp;simp only[eJ] at hp ⊢;obtain⟨v,hv⟩:=cc (l:=vargs) (i:=i+1) (by have:=az e; omega);have r0:=hA.2 (i+1) y v (by simpa using e) hv;rw[A5 N hp] at r0;rw[bm,hv];exact (r0.dL (gb _ hp) _).mono rdin (.refl _)
  ·show cS _ _ (get (dP 0 (AV.ptr 0 0::as)) i);rcases Mm i with⟨e,_⟩|hp
   ·rw[e]; simp[cS]
   ·exact wv _ hp
  ·rw[iF] at e; cases e
  ·cases d with
   |succ d=>simp[aH] at e
   |zero=>
     simp[aH] at e;subst e;exact⟨cs,rfl,rfl,fun j d hd=>⟨wv _ (gg Kq j d hd),d,hd,by rw[tv _ _ (gg Kq j d hd)]; exact Le.refl _⟩⟩
  ·rw[iF] at e1; cases e1
  ·rw[iF] at e1; cases e1
  ·cases d with
   |succ d=>simp[aH] at e1
   |zero=>cases e0 with
     |succ d=>simp[aH] at e2
     |zero=>rfl
 have jW:=eH f md q hf (AV.ptr 0 0::as) [some cs] v [some cs'] (.inl jI) hc (fun _=>by simp[fx,Bc _ XZ,AH]) _ _ w (fun _=>0) vargs (by simpa using hA.1) NA (fun g0=>(hg g0).mono rdin (.refl _));intro K Q hK;unfold Oper.wp;rw[pI,Oper.upon_enter];refine jW.mono ?_;rintro e w1 ⟨v',l5,rfl,⟨N1,H1,gq,B9,_⟩,ad⟩;obtain⟨as1,c1,c2,c3⟩:=gq.box 0 cs' rfl;rw[B9 0 (by simp)] at c1;obtain⟨g',pX,uX,te1,k1,k2,k3,k4,k5,k6⟩:=gq.heap.at c1;have hgg:=ad.cL.NP 0 _ (by simp) k1;simp at hgg;obtain⟨rfl,rfl⟩:=hgg;have ow2:bU l5 g:=⟨0,sz,k1⟩;have ajW:∀a u,Rd (fun g0=>X g0\/(bU φ g0/\g0≠g)) l5 w1 a u->Rd X φ w1 a u:=fun a u ⟨h1,h2,h3⟩=>⟨fun h=>h1 (.inl h),fun ho=>h1 (.inr ⟨ho,fun e=>h2 (by rw[e]; exact ow2)⟩),h3⟩;have oN:ft φ w φ w1:=⟨ad.os,ad.tape,ad.output,ad.drawn,ad.size,fun g0 bE hno'=>⟨(ad.keep g0 bE (fun ho=>hno' (by rw[ow _ ho]; exact og))).1,hno'⟩,.refl _⟩
 have hh2:cm X φ w1 (Ha.set (N.β b) (some cs')):=by
  refine⟨by simp[h.heap.len],fun g0 h0=>fh (h.heap.GR g0 h0) ad.size,fun m ds hm=>?_,fun m hm=>?_,h.heap.inj⟩
  ·rw[aU] at hm;split at hm
   ·rename_i e;subst e;split at hm
    ·simp at hm;subst hm;refine⟨g,sz,uX,te1,g1,k2,k3,⟨by omega,fun z=>by omega⟩,g5,fun j d hd=>?_⟩;obtain⟨_,a',ha',hle⟩:=c3 j d hd;obtain⟨u,u1,u2⟩:=k6 j a' ha';have hpd:=gg XZ j d hd;rw[tv N1 _ hpd] at hle;exact⟨u,u1,((hle _ _ _ u2).dL (gb _ hpd) _).mono ajW (.refl _)⟩
    ·cases hm
   ·rename_i qF;obtain⟨g0,td,V8,e0,p1,p2,p3,p4,p5,p6⟩:=h.heap.live m ds hm;have hg0:g0≠g:=fun e=>qF (h.heap.inj _ _ _ _ _ g1 (e▸p1));refine⟨g0,td,V8,e0,p1,?_,p3,p4,p5,fun j d hd=>?_⟩
    ·rw[(ad.keep g0 (eG.1 p2).1 (fun ho=>hg0 (ow _ ho))).1]; exact p2
    ·obtain⟨u,u1,u2⟩:=p6 j d hd;exact⟨u,u1,oN.rep u2⟩
  ·rw[aU] at hm;split at hm
   ·split at hm<;>simp at hm
   ·exact h.heap.dead m hm
 have hlen:(s.H.set b (some cs')).length=s.H.length:=by simp
 have QR:ff X φ w1 N ⟨s.env,s.H.set b (some cs')⟩ (Ha.set (N.β b) (some cs')) (tm a):=h.QS hb Kq XZ oN hh2 (by rw[dH,if_pos ⟨rfl,dU b1⟩]) fun m hm=>by rw[dH,if_neg (fun h=>hm h.1)]
 have hno2:=ug hpr;have r0:=gq.env 0;simp only[Am.get,if_true] at r0;rw[zn N1 0 hpr] at r0;refine hK v' w1 φ (eF.quiet QR ⟨Fe.1,by show base<=(s.H.set b (some cs')).length; rw[hlen]; exact Fe.2⟩ (wv v hpr) (oK hno2) ?_) oN;rw[nF N hno2,mj N _ hpr];exact (r0.dL (gb _ hpr) _).mono ajW (.refl _)
theorem alU (dy:fy P c) (eH:iG P c call) {X:Nat->Prop} {φ:dx} {w:World} {B:Nat->Nat} {base:Nat} {s s1:St} {o:Oper} {a:Act} {v:AV} {fq:Fq} {f i:Nat} {es:List E} (hk:di P o.op (nj (.call f es))=true) (h:SB X φ w B base s (tm a)) (hg:Am.eI (iu c) X φ w) (hs:Uk c call f i s (dK c s.env es)=some (v,s1,fq)):nB P X φ w B base s1 v o a:=by
 unfold Uk at hs;split at hs
 case h_2=>cases hs
 rename_i md q k p len hf Mq;split at hs
 case h_2=>cases hs
 rename_i k' xs hp;split at hs
 case isFalse=>cases hs
 rename_i hc;obtain⟨jI,rfl,rfl,oS⟩:=hc;split at hs
 case h_2=>cases hs
 rename_i k2 ys H' I0;simp only[af,aF] at hs;obtain⟨rfl,rfl,_⟩:=hs;obtain⟨N,Ha,h,hb⟩:=h;obtain⟨vargs,pI,hA,BR⟩:=oL (kd:=.call f es) (args:=dK c s.env es) dy h hg hk rfl hf;generalize dK c s.env es=args at Mq oS I0 hA BR;have hil:i<args.length:=az Mq;have eZ:=h.own p k' xs hp;have hpo:(aB s p).isSome:=by rw[hp]; rfl
 obtain⟨vi,hvi⟩:=cc (l:=vargs) (i:=i) (by have:=hA.1; omega);have ri:=hA.2 i _ vi Mq hvi;simp only[gU,cU,rJ] at ri
 -- the other arguments
 have oth:∀(j:Nat) (x:AV) (u:Value),j≠i->((args.map fa).set i (.own k' xs))[j]?=some x->vargs[j]?=some u->pl x=true/\bR (Rd X φ w) [] x u:=by
  intro j x u hj hx hu;rw[cT (jP hj),cu] at hx;cases haj:args[j]? with
  |none=>rw[haj] at hx; cases hx
  |some y=>
    rw[haj] at hx;simp at hx;subst hx;have hpy:=gg oS j (fa y) (by rw[cT (jP hj),cu,haj]; rfl);refine⟨hpy,?_⟩;have r0:=hA.2 j y u haj hu;by_cases ho:∃k,y=.own k []
    ·obtain⟨k,rfl⟩:=ho;simp only[gU] at r0;cases r0;exact .lJ _ _
    ·have hn:fa y=y:=by
      unfold fa;split
      ·rename_i k; exact absurd ⟨k,rfl⟩ ho
      ·rfl
     rw[hn] at hpy ⊢;have hy:gU N y=y:=by cases y<;>first|exact mj N _ hpy|(simp[pl] at hpy; done)
     rw[hy] at r0;exact r0.dL (gb _ hpy) []
 have B8:∀j,Am.get (dP 0 ((args.map fa).set i (.own k' xs))) j=((args.map fa).set i (.own k' xs))[j]?.getD .any:=fun j=>by rw[tD]; simp
 have hgii:Am.get (dP 0 ((args.map fa).set i (.own k' xs))) i=.own k' xs:=by rw[B8,aU]; simp[hil]
 have Bq:∀j,j≠i->pl (Am.get (dP 0 ((args.map fa).set i (.own k' xs))) j)=true:=by
  intro j hj;rw[B8];cases e:((args.map fa).set i (.own k' xs))[j]? with
  |none=>rfl
  |some x=>
    rw[cT (jP hj)] at e;exact gg oS j x (by rw[cT (jP hj)]; exact e)
 have agn:∀p',(aB ⟨dP 0 ((args.map fa).set i (.own k' xs)),[]⟩ p').isSome->p'=.s i:=by
  intro p' e;cases p' with
  |s j=>
    by_cases hj:j=i
    ·rw[hj]
    ·rw[(eB (s:=⟨dP 0 ((args.map fa).set i (.own k' xs)),[]⟩) (ug (Bq j hj))).1] at e; cases e
  |sc j l=>
    by_cases hj:j=i
    ·subst hj;unfold aB at_ at e;simp only[hgii] at e;cases e
    ·rw[(eB (s:=⟨dP 0 ((args.map fa).set i (.own k' xs)),[]⟩) (ug (Bq j hj))).2 l] at e; cases e
  |c b j=>unfold aB at e; simp[at_,aH] at e
 have amD:aB ⟨dP 0 ((args.map fa).set i (.own k' xs)),[]⟩ (.s i)=some (k',xs):=by
  unfold aB at_;simp only[hgii]
 -- the callee's state, with the block that goes over, or none
 have start:∀(og:Option Nat) (X':Nat->Prop) (φc:dx) (Hac:Heap) (ν:Option Nat),(∀a u,Rd X φ w a u->Rd X' φc w a u)->cm X' φc w Hac->rF Hac ν k' xs->bR (Rd X' φc w) φc (match ν with
   |some n=>.sl k' n 0 xs.length
   |none=>.dC) vi->SB X' φc w (fun _=>0) 0 ⟨dP 0 ((args.map fa).set i (.own k' xs)),[]⟩ (fun j=>vargs.getD j undef):=by
  intro og X' φc Hac ν xx hh ho rv;refine⟨⟨fun _=>0,fun p'=>if p'=.s i then ν else none⟩,Hac,⟨fun j=>?_,fun j=>?_,hh,fun p' k0 xs0 e=>?_,fun b cs e=>by simp[aH] at e,fun p' q' m e1 e2=>?_,fun b p' e1=>by simp[aH] at e1,fun b d e1=>by simp[aH] at e1⟩,fun b hb=>by omega,yM _⟩
  ·by_cases hj:j=i
   ·subst hj;rw[hgii];simp only[lZ,jG,sN,if_true];rw[bm,hvi];exact rv
   ·rw[zn _ _ (Bq j hj)];rw[B8];cases e:((args.map fa).set i (.own k' xs))[j]? with
    |none=>exact .any _ _
    |some x=>
      have hjl:=az e;simp at hjl;obtain⟨u,hu⟩:=cc (l:=vargs) (i:=j) (by have:=hA.1; omega);simp only[eJ];rw[bm,hu];obtain⟨Hq,rx⟩:=oth j x u hj e hu;exact ((rx.mono xx (.refl _)).dL (gb _ Hq) _)
  ·by_cases hj:j=i
   ·subst hj; show cS _ _ (Am.get _ j); rw[hgii]; trivial
   ·exact wv _ (Bq j hj)
  ·have:=agn p' (by rw[e]; rfl);subst this;rw[amD] at e;cases e;simp only[if_true];exact ho
  ·rw[agn p' e1,agn q' e2]; exact fun _ _=>rfl
 -- the end
 have fin:∀(n:Nat) (og:Option Nat) (X':Nat->Prop) (φc:dx),(∀g,og=some g->∃sz,φ[n]?=some (some (g,sz)))->(og=none->φ.length<=n)->(N.ν p=some n\/φ.length<=n)->(∀g,X g->X' g)->(∀g,bU φ g->og≠some g->X' g)->(∀g,bU φc g->og=some g)->∀{e:Ending} {w1:World},Iz X' φc w (fun _=>0) 0 (.own k2 ys) H' e w1->∃v',e=.returned v'/\∃ l5,eF X l5 w1 B base (setAt (cB (sw p) s) p .any) (.own k2 ys) (tm a) v'/\ft φ w l5 w1:=by
  intro n og X' φc h1 h2 hn hX hX2 hφc e w1 hr;obtain⟨v',l5,rfl,⟨N1,H1,gq,_⟩,ad⟩:=hr;have Fc:∀g,g<w.heap.size->og≠some g->w1.heap[g]?=w.heap[g]?/\¬ bU l5 g:=fun g bE hg=>ad.keep g bE fun ho=>hg (hφc g ho);have ho1:aB ⟨[(0,.own k2 ys)],H'⟩ (.s 0)=some (k2,ys):=rfl;have Vm:=gq.own (.s 0) k2 ys ho1;have r0:=gq.env 0;simp only[Am.get,if_true,lZ,jG,sN] at r0;cases lM:N1.ν (.s 0) with
  |none=>
    rw[lM] at Vm r0;have hy0:ys=[]:=Vm;subst hy0;simp only at r0;cases r0;obtain⟨hh,ad2⟩:=adh h.heap h1 (fun g bE hg=>(Fc g bE hg).1) ad.os ad.tape ad.output ad.drawn ad.size;have QR:=h.Oe hp ad2 hh hn fun m FF _=>by unfold aH; rw[cT (jP FF)]
    obtain⟨_,_,d3⟩:=h.drop hp;exact⟨_,rfl,_,eF.quiet QR ⟨hb.1,by rw[d3.len]; exact hb.2⟩ trivial rfl (.dC _),ad2⟩
  |some n1=>
    rw[lM] at Vm r0;simp only at r0;obtain⟨g',pX,hφ1,hX1,ja⟩:=tw gq.heap Vm;obtain⟨cs,c1,c2,c3,c4⟩:=Vm;obtain⟨g3,sz3,arr,te,f1,f2,f3,f4,f5,f6⟩:=gq.heap.cat c1 (fun g sz q=>r0.zq q);rw[hφ1] at f1;cases f1
    have zo:(∀y∈ys,y.cells.length=k2)/\∀ y∈ys,∀d∈y.cells,fz d=true:=by
     refine⟨c3,fun y hy d hd=>?_⟩;obtain⟨i',xB⟩:=bG hy;obtain⟨j,hj⟩:=bG hd;obtain⟨_,_,q,_⟩:=ja i' j y d xB hj;exact q
    have hgo1:og=some g'\/w.heap.size<=g':=by
     by_cases bE:g'<w.heap.size
     ·left;apply qP;intro qF;exact (Fc g' bE qF).2 ⟨n1,pX,hφ1⟩
     ·right; omega
    generalize hv:v'=vv at r0;cases r0 with
    |sl _ _ _ _ _ ad0 cap jJ iN hh=>
      obtain⟨N6,ha2⟩:=hh g' pX hφ1;subst hv;refine aib (T:=fun g2 _ a u=>Rd X' l5 w1 a u/\a.block≠g2) h hb hp h1 h2 hn zo (.inl ⟨g',cap,arr,te,ad0,rfl,N6,iN,by omega,f2,fun i' d hd=>?_,hgo1,fun g bE hg=>(Fc g bE hg).1,ad.os,ad.tape,ad.output,ad.drawn,ad.size⟩) ?_
      ·obtain⟨i2,z,j,z1,z2,z3⟩:=(fK c3).2 i' d hd;obtain⟨u,u1,u2,u3⟩:=ja i2 j z d z1 z2;refine⟨u,by rw[gE f2] at u1; rw[z3]; exact u1,u3.mono (fun a u hr=>⟨hr,fun e=>hr.2.1 ⟨n1,pX,by rw[e]; exact hφ1⟩⟩) (.refl _)⟩
      ·rintro g2 sz2 a u ⟨⟨q1,q2,q3⟩,q4⟩;refine⟨fun hx=>q1 (hX _ hx),fun ho=>?_,q3⟩;rcases tg ho with ho|ho
       ·refine q1 (hX2 _ (wk ho) fun e=>?_);obtain⟨sz,e2⟩:=h1 _ e;obtain⟨b,td,e3⟩:=ho;rw[aU] at e3;split at e3
        ·split at e3<;>simp at e3
        ·rename_i qF;exact qF (h.heap.inj n b _ _ _ e2 e3)
       ·exact q4 ho
 cases lM:N.ν p with
 |none=>
   rw[lM] at eZ ri;have BQ:xs=[]:=eZ;subst BQ;have jW:=eH f md q hf _ [] _ H' (.inr rfl) I0 (fun e=>by rw[jI] at e; cases e) (fun g=>X g\/bU φ g) [] w (fun _=>0) vargs (by simpa using hA.1) (start none (fun g=>X g\/bU φ g) [] [] none (fun a u ⟨h1,h2,h3⟩=>⟨fun h=>h.elim h1 h2,bU.nil _,h3⟩) ⟨rfl,fun g hg=>hg.elim (h.heap.GR g) (fun ho=>(h.heap.gS ho).1),fun b cs hb=>by simp at hb,fun b hb=>by simp at hb,fun b b' g sz pX h1=>by simp at h1⟩ rfl (by cases ri; exact .dC _)) (Yd hg fun g h=>h);intro K Q hK;unfold Oper.wp;rw[pI,Oper.upon_enter];refine jW.mono ?_;intro e w1 hr;obtain⟨v',rfl,l5,xy,ad⟩:=fin φ.length none _ [] (fun _ h=>by cases h) (fun _=>aJ _) (.inr (aJ _)) (fun g h=>.inl h) (fun g h _=>.inr h) (fun g h=>(bU.nil g h).elim) hr;exact hK v' w1 l5 xy ad
 |some n=>
   rw[lM] at eZ ri;obtain⟨g2,sz2,Vf,hX2,hc3⟩:=tw h.heap eZ;obtain⟨cs,c1,c2,c3,c4⟩:=eZ;obtain⟨g3,sz,arr,te,b1,b2,b3,b4,b5,b6⟩:=h.heap.cat c1 (fun g sz q=>ri.zq q);rw[Vf] at b1;cases b1
   have one:∀g,bU [some (g2,sz2)] g->g=g2:=by
    rintro g ⟨b,s0,e⟩;cases b with
    |zero=>simp at e; exact e.1.symm
    |succ b=>simp at e
   have xx:∀a u,Rd X φ w a u->Rd (fun g=>X g\/(bU φ g/\g≠g2)) [some (g2,sz2)] w a u:=fun a u ⟨h1,h2,h3⟩=>⟨fun h=>h.elim h1 fun q=>h2 q.1,fun ho=>h2 ⟨n,sz2,by rw[one _ ho]; exact Vf⟩,h3⟩
   have hh:cm (fun g=>X g\/(bU φ g/\g≠g2)) [some (g2,sz2)] w [some (aC xs)]:=by
    refine⟨rfl,fun g hg=>hg.elim (h.heap.GR g) (fun ho=>(h.heap.gS ho.1).1),fun b ds hb=>?_,fun b hb=>?_,fun b b' g sz pX e1 e2=>?_⟩
    ·cases b with
     |succ b=>simp at hb
     |zero=>
       simp at hb;subst hb;refine⟨g2,sz2,arr,_,rfl,b2,.inl ⟨te,rfl,b3⟩,⟨by rw[gV c3]; omega,fun z=>by omega⟩,fun h=>h.elim hX2 fun q=>q.2 rfl,fun i' d hd=>?_⟩;obtain⟨i2,z,j,z1,z2,z3⟩:=(fK c3).2 i' d hd;obtain⟨u,u1,u2,u3⟩:=hc3 i2 j z d z1 z2;exact⟨u,by rw[gE b2] at u1; rw[z3]; exact u1,(u3.mono xx (.refl _)).HV _⟩
    ·cases b with
     |succ b=>simp at hb
     |zero=>simp at hb
    ·cases b with
     |succ b=>simp at e1
     |zero=>cases b' with
       |succ b'=>simp at e2
       |zero=>rfl
   have RP:Am.eI (iu c) (fun g=>X g\/(bU φ g/\g≠g2)) [some (g2,sz2)] w:=fun g=>(hg g).mono xx (.refl _)
   have ho':rF [some (aC xs)] (some 0) k' xs:=⟨aC xs,rfl,by rw[gV c3]; exact aJ _,c3,fun i' d hd=>by
    obtain⟨i2,z,j,z1,z2,z3⟩:=(fK c3).2 i' d hd;obtain⟨u,u1,u2,u3⟩:=hc3 i2 j z d z1 z2;exact⟨u2,d,hd,(my u2).2,Le.refl _⟩⟩
   have rv:bR (Rd (fun g=>X g\/(bU φ g/\g≠g2)) [some (g2,sz2)] w) [some (g2,sz2)] (.sl k' 0 0 xs.length) vi:=by
    simp only at ri;generalize vi=vv at ri;cases ri with
    |sl _ _ _ _ _ ad cap jJ iN hh'=>
      obtain⟨N6,ha2⟩:=hh' g2 sz2 Vf;refine .sl _ _ _ _ _ _ _ (by simp) iN fun g0 td e0=>?_;simp at e0;obtain⟨rfl,rfl⟩:=e0;exact⟨N6,ha2⟩
   have jW:=eH f md q hf _ [] _ H' (.inr rfl) I0 (fun e=>by rw[jI] at e; cases e) _ _ w (fun _=>0) vargs (by simpa using hA.1) (start (some g2) _ _ _ (some 0) xx hh ho' rv) RP;intro K Q hK;unfold Oper.wp;rw[pI,Oper.upon_enter];refine jW.mono ?_;intro e w1 hr;obtain⟨v',rfl,l5,xy,ad⟩:=fin n (some g2) _ [some (g2,sz2)] (fun g e=>by cases e; exact⟨sz2,Vf⟩) (fun e=>by cases e) (.inl lM) (fun g h=>.inl h) (fun g h qF=>.inr ⟨h,fun e=>qF (by rw[e])⟩) (fun g h=>by rw[one g h]) hr;exact hK v' w1 l5 xy ad
theorem A6 {s s1:St} {kd:Kd} {v:AV} {f:Fq} (h:FI c call s kd=some (v,s1,f)):f=.all/\aV v=[]:=by unfold FI at h;cases h
theorem Zc {s:St} {kd:Kd} {x:AV × St × Fq} (h:FI c call s kd=some x):∃n args H r H',call n args H=some (r,H')/\∀ g:Nat->List AV->Heap->Option (AV × Heap),g n args H=some (r,H')->FI c g s kd=some x:=by unfold FI at h;cases h
theorem adT {s:St} {kd:Kd} {x:AV × St × Fq} (h:FI c call s kd=some x) (g:Nat->List AV->Heap->Option (AV × Heap)):eT c g kd s=none:=by unfold FI at h;cases h
theorem jX {s s1:St} {kd:Kd} {v:AV} {f:Fq} (h:vt c call kd s=some (v,s1,f)):eT c call kd s=some (v,s1,f)\/FI c call s kd=some (v,s1,f):=by
 unfold vt at h;split at h
 ·rename_i x hx;rw[hx];exact .inl h
 ·exact .inr h
theorem uA {s:St} {kd:Kd} {x:AV × St × Fq} (h:eT c call kd s=some x):vt c call kd s=some x:=by
 unfold vt;rw[h]
theorem MG {s:St} {kd:Kd} {x:AV × St × Fq} (h:FI c call s kd=some x):vt c call kd s=some x:=by
 unfold vt;rw[adT h];exact h
theorem alS (dy:fy P c) (eH:iG P c call) {X:Nat->Prop} {φ:dx} {w:World} {B:Nat->Nat} {base:Nat} {s s1:St} {o:Oper} {a:Act} {kd:Kd} {v:AV} {fq:Fq} (hk:di P o.op (nj kd)=true) (h:SB X φ w B base s (tm a)) (hg:Am.eI (iu c) X φ w) (hs:FI c call s kd=some (v,s1,fq)):nB P X φ w B base s1 v o a:=by unfold FI at hs;cases hs
theorem Lu (dy:fy P c) (qv:wO P c) (eH:iG P c call) (jI:Nq P c call) {X:Nat->Prop} {φ:dx} {w:World} {B:Nat->Nat} {base:Nat} {s s1:St} {o:Oper} {a:Act} {kd:Kd} {v:AV} {fq:Fq} (hk:di P o.op (nj kd)=true) (h:SB X φ w B base s (tm a)) (hg:Am.eI (iu c) X φ w) (hs:dN c call kd s=some (v,s1,fq)):nB P X φ w B base s1 v o a:=by
 unfold dN at hs;cases hi:sO c s kd with
 |none=>
   rw[hi] at hs;cases hl:p7 c call s kd with
   |none=>
     rw[hl] at hs;simp only[gP] at hs;cases hm:vE c call s kd with
     |none=>
       rw[hm] at hs;rcases jX hs with hs|hs
       ·exact ac1 dy eH jI hk h hg hs
       ·exact alS dy eH hk h hg hs
     |some r=>
       rw[hm] at hs;simp only at hs;subst hs;unfold vE at hm;split at hm
       case h_2=>cases hm
       rename_i f es;split at hm
       case h_2=>cases hm
       rename_i i hi;simp only[af] at hm;obtain⟨l5,h1,a1⟩:=SB.eO (dz ((dK c s.env es).set i .undef)) h;exact nB.ghost a1 (alU dy eH hk h1 (hg.oN a1) hm)
   |some r=>
     rw[hl] at hs;simp only at hs;subst hs;exact alX dy eH hk h hg hl
 |some r=>
   rw[hi] at hs;simp only at hs;subst hs;exact al5 dy qv hk h hg hi
theorem akx (dy:fy P c) (qv:wO P c) (eH:iG P c call) (jI:Nq P c call):QD P c call:=by
 intro X φ w B base s o a kd v s1 f hk hs h hg;cases hc:pG kd with
 |false=>exact alO dy.mixed h hg hk hc hs
 |true=>
   cases kd<;>simp[pG] at hc
   ·simp only[fD] at hs; exact Lu dy qv eH jI hk h hg hs
   ·simp only[fD] at hs; exact Lu dy qv eH jI hk h hg hs
end
end Go.Bm

/- A call of a function of the program, from a world of which nothing is known but how the arguments read; given what is still to be shown. -/
namespace Go.Bm
open Go.Am
section
variable {P:Program} {c:eS}
theorem WS (dy:fy P c) (qv:wO P c) (xz:xQ P c) (hshc:∀call,iG P c call->Nq P c call) (hdr:∀call,iG P c call->Nr P c call) (jI:∀n,Wh P c n->ShOK P c n) (n:Nat):Wh P c n:=
 Jl (fun call hc=>akx dy qv hc (hshc call hc)) hdr (fun n hs=>Qt dy xz hs (jI n hs)) n
theorem adx (dy:fy P c) {call:Nat->List AV->Heap->Option (AV × Heap)} (eH:iG P c call) {f:Nat} {md:Md} {q:fM} (hf:c.fn f=some (md,q)) (jI:md.sh=false) {args:List AV} (hz:dc args=true) {r:AV} {H':Heap} (h:call f args []=some (r,H')) (hr:pl r=true) {w:World} {vargs:Array Value}
  (ha:rI (fun _=>False) [] w args vargs) (hg:Am.eI (iu c) (fun _=>False) [] w):Calls P f vargs w (fun e w'=>∃v,e=.returned v/\bR (Rd (fun _=>False) [] w') [] r v/\RowKit.Below w.heap.size w w'):=by
 have NA:=SB.start (X:=fun _=>False) (w:=w) (args:=args) (vargs:=vargs) (fun g hg=>hg.elim) hz ha.1 ha.2 (fun _=>0);refine (eH f md q hf args [] r H' (.inr rfl) h (fun e=>by rw[jI] at e; cases e) (fun _=>False) [] w (fun _=>0) vargs ha.1 NA hg).mono ?_;rintro e w1 ⟨v',l5,rfl,⟨N1,H1,gq,_⟩,a1⟩;have r0:=gq.env 0;simp only[Am.get,if_true] at r0;rw[zn N1 0 hr] at r0;refine⟨v',rfl,(r0.dL (gb _ hr) []).mono (fun a u ⟨h1,_,h3⟩=>⟨h1,bU.nil _,h3⟩) (.refl _),a1.os,a1.tape,a1.output,a1.size,fun k hk=>(a1.keep k hk (bU.nil k)).1⟩
theorem ahl {φ':dx} {w w':World} (a:ft [] w φ' w'):∃q os,w'=QK (w.drewN q) os:=by
 refine⟨w'.drawn-w.drawn,w'.heap.extract w.heap.size w'.heap.size,?_⟩;have hd:=a.drawn;have hs:=a.size
 have hh:w'.heap=w.heap++w'.heap.extract w.heap.size w'.heap.size:=by
  apply Array.ext_getElem?;intro k;rw[Array.getElem?_append];split
  ·rename_i h;exact (a.keep k h (bU.nil k)).1
  ·rename_i h;rw[Array.getElem?_extract];by_cases h2:k<w'.heap.size
   ·rw[if_pos (by omega),show w.heap.size+(k-w.heap.size)=k by omega]
   ·rw[if_neg (by omega),SN (by omega)]
 have h1:=a.os;have h2:=a.tape;have h3:=a.output;obtain⟨Vl,tp',dr',os',ou'⟩:=w';obtain⟨hp,tp,dr,os,ou⟩:=w;simp only at hh hd h1 h2 h3;subst h1; subst h2; subst h3;unfold QK World.drewN;simp only[World.mk.injEq,and_true,true_and];exact⟨hh,by omega⟩
theorem YI (dy:fy P c) {call:Nat->List AV->Heap->Option (AV × Heap)} (eH:iG P c call) {f:Nat} {md:Md} {q:fM} (hf:c.fn f=some (md,q)) (jI:md.sh=false) {args:List AV} (hz:dc args=true) {r:AV} {H':Heap} (h:call f args []=some (r,H')) (hr:pl r=true) {w:World} {vargs:Array Value}
  (ha:rI (fun _=>False) [] w args vargs) (hg:Am.eI (iu c) (fun _=>False) [] w):Calls P f vargs w (fun e w'=>∃v,e=.returned v/\bR (Rd (fun _=>False) [] w') [] r v/\∃ q os,w'=QK (w.drewN q) os):=by
 have NA:=SB.start (X:=fun _=>False) (w:=w) (args:=args) (vargs:=vargs) (fun g hg=>hg.elim) hz ha.1 ha.2 (fun _=>0);refine (eH f md q hf args [] r H' (.inr rfl) h (fun e=>by rw[jI] at e; cases e) (fun _=>False) [] w (fun _=>0) vargs ha.1 NA hg).mono ?_;rintro e w1 ⟨v',l5,rfl,⟨N1,H1,gq,_⟩,a1⟩;have r0:=gq.env 0;simp only[Am.get,if_true] at r0;rw[zn N1 0 hr] at r0;exact⟨v',rfl,(r0.dL (gb _ hr) []).mono (fun a u ⟨h1,_,h3⟩=>⟨h1,bU.nil _,h3⟩) (.refl _),ahl a1⟩
end
end Go.Bm

/- Regions that draw their order: it makes no difference, given that two steps whose order is open commute. -/
namespace Go.Bm
open Go.Am
section
variable {P:Program} {c:eS} {call:Nat->List AV->Heap->Option (AV × Heap)} {T:St->O->Fq->St->Prop}
abbrev EntB:=Nat × Oper × O × Fq
def YQ (P:Program) (c:eS) (T:St->O->Fq->St->Prop):Prop:=
 ∀ X φ w B base N ops s s' (o:Oper) a q f,N<=fJ->R8 P N ops o (VQ q)=true->T s q f s'->FC X φ w B base s a N->Am.eI (iu c) X φ w->∀(K:Act->World->Prop) (Q:Exit->Act->World->Prop),(∀a' w' φ',FC X φ' w' B base s' a' N->ft φ w φ' w'->K a' w') ->
  if Region.wanted o (yielded ops a.tmps) then o.wp P a w K Q\/(o.asks P a w/\LetsOut Q) else K (a.put o.dst Go.undef) w
def Wk (T:St->O->Fq->St->Prop):Prop:=
 ∀ s x f s1 y g s2,T s x f s1->T s1 y g s2->kh x y=true->jx x f y g=true->∃NK,T s y g NK/\T NK x f s2
def Sj (T:St->O->Fq->St->Prop):List EntB->St->St->Prop
 |[],s,sf=>s=sf
 |p::r,s,sf=>∃s1,T s p.2.2.1 p.2.2.2 s1/\Sj T r s1 sf
theorem Sj.R9 (hC:Wk T) {x:EntB}:∀{R1 R2:List EntB} {s sf:St},(∀p∈R1,kh p.2.2.1 x.2.2.1=true/\jx p.2.2.1 p.2.2.2 x.2.2.1 x.2.2.2=true)->Sj T (R1++x::R2) s sf->Sj T (x::(R1++R2)) s sf
 |[],R2,s,sf,_,hr=>hr
 |p::R1,R2,s,sf,h,⟨s1,h1,h2⟩=>by
   obtain⟨s2,h3,h4⟩:=Sj.R9 hC (fun q hq=>h q (by simp[hq])) h2;obtain⟨Gw,hf⟩:=h p (by simp);obtain⟨NK,k1,k2⟩:=hC _ _ _ _ _ _ _ h1 h3 Gw hf;exact⟨NK,k1,s2,k2,h4⟩
theorem ajO (hT:YQ P c T) (hC:Wk T) {X:Nat->Prop} {B:Nat->Nat} {base N:Nat} (hN:N<=fJ) {ops:Array Oper} {Q:Exit->Act->World->Prop} {sf:St} :
  ∀ (fuel:Nat) (R:List EntB) (listed:Array Bool) (a:Act) (w:World) (φ:dx) (s:St),R.length=fuel->(∀i,listed.getD i true=false ↔ ∃p∈R,p.1=i)->listed.size=ops.size ->
   YX ops listed->(∀p∈R,ops[p.1]?=some p.2.1/\R8 P N ops p.2.1 (VQ p.2.2.1)=true/\∀ e∈p.2.1.after,Region.binds .any e=true->e.on<p.1) ->
   R.Pairwise (fun p q=>p.1<q.1/\(Anc ops p.1 q.1\/(kh p.2.2.1 q.2.2.1=true/\jx p.2.2.1 p.2.2.2 q.2.2.1 q.2.2.2=true)))->Sj T R s sf->FC X φ w B base s a N->Am.eI (iu c) X φ w ->
   (∀a' w' φ',FC X φ' w' B base sf a' N->ft φ w φ' w'->Q .normal a' w')->wpAny P .any ops Q fuel listed a w:=by
 have fin:∀{a:Act} {w:World} {φ:dx} {s:St},Sj T [] s sf->FC X φ w B base s a N->(∀a' w' φ',FC X φ' w' B base sf a' N->ft φ w φ' w'->Q .normal a' w')->Q .normal a w:=by
  intro a w φ s hr hs hQ;obtain rfl:s=sf:=hr;exact hQ a w φ hs (.refl _ _)
 intro fuel
 induction fuel with
 |zero=>
   intro R listed a w φ s hl hls _ _ _ _ hr hs hg hQ;have hR:R=[]:=eL hl;subst hR;refine⟨?_,fin hr hs hQ⟩;rw[List.eq_nil_iff_forall_not_mem];intro i hi;obtain⟨h1,_⟩:=mem_ready.1 hi;obtain⟨p,hp,_⟩:=(hls i).1 h1;cases hp
 |succ fuel ih=>
   intro R listed a w φ s hl hls pH I0 Gt hpw hr hs hg hQ;refine⟨fun hnil=>?_,fun i hi=>?_⟩
   ·cases R with
    |nil=>simp at hl
    |cons p r=>
      exfalso;obtain⟨h1,h2,h3⟩:=Gt p (by simp)
      have:p.1∈Region.ready .any ops listed:=by
       refine mem_ready.2 ⟨(hls p.1).2 ⟨p,by simp,rfl⟩,p.2.1,h1,fun e he hb=>?_⟩;have bE:=h3 e he hb;cases hv:listed.getD e.on false with
       |true=>rfl
       |false=>
         exfalso
         have X3:e.on<listed.size:=by
          rw[pH];have:=nK h1;omega
         have hv2:listed.getD e.on true=false:=by
          simp[bm,X3] at hv ⊢;exact hv
         obtain⟨q,hq,hq1⟩:=(hls e.on).1 hv2;rcases aO.1 hq with hq|hq
         ·subst hq; omega
         ·have:=(QH hpw hq).1;omega
      rw[hnil] at this;cases this
   ·obtain⟨hun,o,ho,lN⟩:=mem_ready.1 hi;obtain⟨x,hx,hxi⟩:=(hls i).1 hun;subst hxi;obtain⟨R1,R2,rfl⟩:=List.append_of_mem hx;obtain⟨h1,h2,h3⟩:=Gt x (by simp);rw[h1] at ho;simp at ho;subst ho;have hpw':=DW.1 hpw
    have anZ:∀p∈R1,kh p.2.2.1 x.2.2.1=true/\jx p.2.2.1 p.2.2.2 x.2.2.1 x.2.2.2=true:=by
     intro p hp;obtain⟨_,hrel⟩:=hpw'.2.2 p hp x (by simp);rcases hrel with hw|hw
     ·exfalso
      have:=I0.Fz hw x.2.1 h1 fun k hk=>by
       obtain⟨e,he,hb,heq⟩:=Dn.1 hk;rw[<-heq]; exact lN e he hb
      have hf:=(hls p.1).2 ⟨p,by simp[hp],rfl⟩
      have bE:p.1<listed.size:=by
       rw[pH];exact nK (Gt p (by simp[hp])).1
      simp[bm,bE] at this hf;rw[this] at hf;cases hf
     ·exact hw
    obtain⟨s1,k1,k2⟩:=Sj.R9 hC anZ hr;unfold wpOp;rw[h1];refine hT X φ w B base N ops s s1 x.2.1 a x.2.2.1 x.2.2.2 hN h2 k1 hs hg _ _ fun a' w' φ' Vk xE=>?_
    refine ih (R1++R2) _ a' w' φ' _ (by simp at hl ⊢; omega) (fun j=>?_) (by simpa using pH) (fun j oj hj hlj i hi=>?_) (fun p hp=>Gt p (by rcases aI.1 hp with h|h<;>simp[h])) ?_ k2 Vk (hg.oN xE)
     fun a'' w'' rN h'' Bj=>hQ a'' w'' rN h'' (xE.trans Bj)
    ·have hxlt:x.1<listed.size:=by rw[pH]; exact nK h1
     by_cases hj:j=x.1
     ·subst hj;simp only[bm,Array.getElem?_setIfInBounds_self_of_lt hxlt,eJ];refine⟨(fun h=>by cases h),fun⟨p,hp,Hq⟩=>?_⟩;exfalso;rcases aI.1 hp with h|h
      ·have:=(hpw'.2.2 p h x (by simp)).1; omega
      ·have:=(QH hpw'.2.1 h).1; omega
     ·have qF:x.1≠j:=fun e=>hj e.symm;rw[bm,jl qF,<-bm,hls j];constructor
      ·rintro⟨p,hp,hpj⟩;refine⟨p,?_,hpj⟩;simp at hp ⊢;rcases hp with h|h|h
       ·exact .inl h
       ·subst h; exact absurd hpj.symm hj
       ·exact .inr h
      ·rintro⟨p,hp,hpj⟩;refine⟨p,?_,hpj⟩;simp at hp ⊢;rcases hp with h|h
       ·exact .inl h
       ·exact .inr (.inr h)
    ·have mono:∀k,listed.getD k false=true->(listed.setIfInBounds x.1 true).getD k false=true:=by
      intro k hk;by_cases hkx:x.1=k
      ·subst hkx;have bE:x.1<listed.size:=by rw[pH]; exact nK h1
       simp[bm,bE]
      ·rw[bm,jl hkx,<-bm]; exact hk
     by_cases hjx:x.1=j
     ·subst hjx;rw[h1] at hj;cases hj;obtain⟨e,he,hb,heq⟩:=Dn.1 hi;exact mono i (by rw[<-heq]; exact lN e he hb)
     ·refine mono i (I0 j oj hj ?_ i hi);rw[bm,jl hjx,<-bm] at hlj;exact hlj
    ·refine DW.2 ⟨hpw'.1,(List.pairwise_cons.1 hpw'.2.1).2,fun p hp q hq=>hpw'.2.2 p hp q (by simp[hq])⟩

end
end Go.Bm

/- Regions that draw their order, from the machine's own check. -/
namespace Go.Bm
open Go.Am
section
variable {P:Program} {c:eS} {call:Nat->List AV->Heap->Option (AV × Heap)} {T:St->O->Fq->St->Prop}
def LK:Nat->List Oper->List O->List Fq->List EntB
 |k,o::r,q::s,f::t=>(k,o,q,f)::LK (k+1) r s t
 |_,_,_,_=>[]
theorem wz:∀(k:Nat) (os:List Oper) (qs:List O) (fs:List Fq) (j:Nat) (p:EntB),(LK k os qs fs)[j]?=some p->p.1=k+j/\os[j]?=some p.2.1/\qs[j]?=some p.2.2.1/\fs[j]?=some p.2.2.2
 |k,[],qs,fs,j,p,h=>by simp[LK] at h
 |k,_::_,[],fs,j,p,h=>by simp[LK] at h
 |k,_::_,_::_,[],j,p,h=>by simp[LK] at h
 |k,o::r,q::s,f::t,j,p,h=>by
   simp only[LK] at h;cases j with
   |zero=>simp at h; subst h; exact⟨rfl,rfl,rfl,rfl⟩
   |succ j=>
     simp at h;obtain⟨h1,h2,h3,h4⟩:=wz (k+1) r s t j p h;exact⟨by omega,by simpa using h2,by simpa using h3,by simpa using h4⟩
theorem HX:∀(k:Nat) (os:List Oper) (qs:List O) (fs:List Fq),os.length=qs.length->qs.length=fs.length->(LK k os qs fs).length=os.length
 |k,[],[],[],_,_=>rfl
 |k,o::r,q::s,f::t,h1,h2=>by simp[LK]; exact HX (k+1) r s t (by simpa using h1) (by simpa using h2)
 |_,[],_::_,_,h,_=>by simp at h
 |_,_::_,[],_,h,_=>by simp at h
 |_,[],[],_::_,_,h=>by simp at h
 |_,_::_,_::_,[],_,h=>by simp at h
def ahn (c:eS) (call:Nat->List AV->Heap->Option (AV × Heap)) (T:St->O->Fq->St->Prop):Prop:=∀s q f s',B7 q.kd=true->u4 c call s q=some (s',f)->(qJ f=true->T s q f s')/\T s q .all s'
def LY (un:List (Nat × Nat)):Nat->List Fq->List Fq
 |_,[]=>[]
 |k,f::r=>(if lG k k un then .all else f)::LY un (k+1) r
theorem HY (un:List (Nat × Nat)):∀(k:Nat) (fs:List Fq),(LY un k fs).length=fs.length
 |_,[]=>rfl
 |k,f::r=>by simp[LY,HY un (k+1) r]
theorem UB (un:List (Nat × Nat)):∀(k:Nat) (fs:List Fq) (j:Nat),(LY un k fs)[j]?=(fs[j]?).map fun f=>if lG (k+j) (k+j) un then .all else f
 |_,[],j=>by simp[LY]
 |k,f::r,j=>by
   cases j with
   |zero=>simp[LY]
   |succ j=>simp only[LY,p9,UB un (k+1) r]; rw[show k+1+j=k+(j+1) by omega]
theorem TU (hS:ahn c call T) (un:List (Nat × Nat)):∀(k:Nat) (os:List Oper) (qs:List O) (s s':St) (sP:List Fq),os.length=qs.length->(∀q∈qs,B7 q.kd=true)->pz c call qs s=some (s',sP)->Nj un k sP=true->qs.length=sP.length/\Sj T (LK k os qs (LY un k sP)) s s'
 |k,[],[],s,s',sP,_,_,h,_=>by simp[pz] at h; obtain⟨rfl,rfl⟩:=h; exact⟨rfl,rfl⟩
 |k,[],_::_,_,_,_,hl,_,_,_=>by simp at hl
 |k,_::_,[],_,_,_,hl,_,_,_=>by simp at hl
 |k,o::r,q::qs,s,s',sP,hl,hk,h,hn=>by
   simp only[pz] at h;split at h
   case h_2=>cases h
   rename_i s1 fl1 h1;split at h
   case h_2=>cases h
   rename_i s2 fl2 h2;simp at h;obtain⟨rfl,rfl⟩:=h;simp only[Nj,ae,eE] at hn;obtain⟨hn1,hn2⟩:=hn;obtain⟨h4,h5⟩:=TU hS un (k+1) r qs _ s2 fl2 (by simpa using hl) (fun q hq=>hk q (by simp[hq])) h2 hn2;refine⟨by simp[h4],s1,?_,h5⟩;have:=hS _ _ _ _ (hk q (by simp)) h1;show T s q (if lG k k un then .all else fl1) s1;split
   ·exact this.2
   ·rename_i hp;exact this.1 (hn1.resolve_right hp)
theorem Pr {s s1:St} {kd:Kd} {v:AV} {f:Fq} (h:fD c call s kd=some (v,s1,f)) (hp:still kd=true):f=.no:=by
 cases kd<;>simp[still] at hp<;>simp only[fD] at h
 all_goals try rw[hp] at h
 all_goals
  (repeat' split at h)
  all_goals first
   |(cases h; done)
   |(rename_i hq; cases hq; done)
   |(simp at h; obtain⟨rfl,rfl,rfl⟩:=h; rfl)
theorem Fj {e:Env} {d:Option Nat} {v:AV} {s s':St} {f g:Fq} (h:Fk e d v s f=some (s',g)):g=ct e d f:=by
 unfold Fk at h;split at h
 ·simp at h;exact h.2.symm
 ·cases h
theorem D7 {e:Env} {d:Option Nat}:ct e d .no=.no\/ct e d .no=.bo []\/ct e d .no=.sp:=by
 unfold ct;split
 ·exact .inl rfl
 ·split
  ·exact .inr (.inr rfl)
  ·split
   ·exact .inl rfl
   ·exact .inr (.inl rfl)
theorem SY {s s':St} {q:O} {f:Fq} (h:u4 c call s q=some (s',f)) (hp:still q.kd=true):f=.no\/f=.bo []\/f=.sp:=by
 unfold u4 at h;split at h
 ·split at h
  ·rename_i v s1 fl ho;rw[Pr ho hp] at h;rw[Fj h]; exact D7
  ·cases h
 ·split at h
  ·split at h
   ·split at h
    ·rename_i v s1 fl ho;rw[Pr ho hp] at h;rw[Fj h]; exact D7
    ·cases h
   ·rw[Fj h]; exact D7
  ·rw[Fj h]; exact D7
  ·cases h
theorem Db {un:List (Nat × Nat)}:∀{qs:List O} {k:Nat} {s s':St} {sP:List Fq},pz c call qs s=some (s',sP)->Nj un k sP=true->∀(j:Nat) (q:O) (f:Fq),qs[j]?=some q->sP[j]?=some f->still q.kd=true->lG (k+j) (k+j) un=false->f=.no\/f=.bo []
 |[],_,_,_,_,_,_,j,q,f,hq,_,_,_=>by simp at hq
 |x::r,k,s,s',sP,h,hn,j,q,f,hq,hf,hp,hb=>by
   simp only[pz] at h;split at h
   case h_2=>cases h
   rename_i s1 fl1 h1;split at h
   case h_2=>cases h
   rename_i s2 fl2 h2;simp at h;obtain⟨rfl,rfl⟩:=h;simp only[Nj,ae,eE] at hn;obtain⟨hn1,hn2⟩:=hn;cases j with
   |zero=>
     simp at hq hf hb;subst hq; subst hf;rw[hb] at hn1;rcases SY h1 hp with e|e|e
     ·exact .inl e
     ·exact .inr e
     ·subst e; simp[qJ] at hn1
   |succ j=>simp at hq hf; exact Db h2 hn2 j q f hq hf hp (by rw[show k+1+j=k+(j+1) by omega]; exact hb)
theorem MR {N:Nat} {ops:Array Oper}:∀{l:List Oper} {qs:List O},uG P N ops l qs=true->l.length=qs.length/\∀ (j:Nat) (o:Oper) (q:O),l[j]?=some o->qs[j]?=some q->R8 P N ops o (VQ q)=true
 |[],[],_=>⟨rfl,fun j o q h=>by simp at h⟩
 |[],_::_,h=>by simp[uG] at h
 |_::_,[],h=>by simp[uG] at h
 |o::r,q::s,h=>by
   simp only[uG,ae] at h;obtain⟨hl,hm⟩:=MR h.2;refine⟨by simp[hl],fun j o' q' h1 h2=>?_⟩;cases j with
   |zero=>simp at h1 h2; subst h1; subst h2; exact h.1
   |succ j=>simp at h1 h2; exact hm j o' q' h1 h2
theorem AB {un:List (Nat × Nat)} {j:Nat} {ys:List Nat} {q:O}:∀{k:Nat} {l:List O},xJ un j ys q k l=true->∀(i:Nat) (x:O),l[i]?=some x->MQ un (k+i) j x ys q=true
 |k,[],_,i,x,h=>by simp at h
 |k,z::r,hc,i,x,h=>by
   simp only[xJ,ae] at hc;cases i with
   |zero=>simp at h; subst h; exact hc.1
   |succ i=>simp at h; have:=AB hc.2 i x h; rwa [show k+1+i=k+(i+1) by omega] at this
theorem Cb {un:List (Nat × Nat)} {ops:Array Oper}:∀{ys:List Oper} {qs seen:List O} {Fz:List (List Nat)},qy un Fz seen ys qs=true->ahr ops Fz->Fz.length=seen.length->(∀j,ys[j]?=ops[seen.length+j]?)->∀(j:Nat) (y:Oper) (q:O),ys[j]?=some y->qs[j]?=some q ->
  (∀e∈y.after,Region.binds .any e=true->e.on<seen.length+j)/\∀ (i:Nat) (x:O),(seen++qs)[i]?=some x->i<seen.length+j->Anc ops i (seen.length+j)\/((lG i i un=false/\lG (seen.length+j) (seen.length+j) un=false)/\kh x q=true/\((still x.kd=true/\still q.kd=true)\/lG i (seen.length+j) un=true))
 |[],_,_,_,_,_,_,_,j,y,q,h,_=>by simp at h
 |_::_,[],_,_,_,_,_,_,j,y,q,_,h=>by simp at h
 |z::r,p::s,seen,Fz,hc,hanc,SG,zo,j,y,q,h1,h2=>by
   simp only[qy,ae] at hc;obtain⟨⟨⟨_,c1⟩,c2⟩,c3⟩:=hc;have hz:ops[seen.length]?=some z:=by simpa using (zo 0).symm
   cases j with
   |zero=>
     simp at h1 h2;subst h1; subst h2;refine⟨fun e he hb=>?_,fun i x hx hi=>?_⟩
     ·have:=List.all_eq_true.1 c1 e.on (Dn.2 ⟨e,he,hb,rfl⟩);simpa using this
     ·rw[aA (by omega)] at hx;have:=AB c2 i x hx;simp only[MQ,fT,eE,ae,bN] at this;rcases this with h|h
      ·exact .inl (Wc hanc hz i (mem_iff.1 h))
      ·right;exact h
   |succ j=>
     simp at h1 h2
     have an3:ahr ops (Fz++[Ni Fz z]):=by
      intro k l hl i hi;by_cases hk:k<Fz.length
      ·rw[aA hk] at hl; exact hanc k l hl i hi
      ·have hk2:=az hl;simp at hk2;have hke:k=Fz.length:=by omega
       subst hke;simp at hl;subst hl;rw[SG];exact Wc hanc hz i hi
     obtain⟨k1,k2⟩:=Cb c3 an3 (by simp[SG]) (fun m=>by have:=zo (m+1); simp at this ⊢; rw[this]; congr 1; omega) j y q h1 h2;simp only[bO,cH,gG] at k1 k2;refine⟨fun e he hb=>by have:=k1 e he hb; omega,fun i x hx hi=>?_⟩;have:=k2 i x (by simpa using hx) (by omega)
     rwa [show seen.length+(0+1)+j=seen.length+(j+1) by omega] at this
theorem yI {un:List (Nat × Nat)}:∀{ys:List Oper} {qs seen:List O} {Fz:List (List Nat)},qy un Fz seen ys qs=true->ys.length=qs.length->∀q∈qs,B7 q.kd=true
 |[],[],_,_,_,_,q,hq=>by simp at hq
 |[],_::_,_,_,_,hl,_,_=>by simp at hl
 |_::_,[],_,_,_,hl,_,_=>by simp at hl
 |z::r,p::s,seen,Fz,hc,hl,q,hq=>by
   simp only[qy,ae] at hc;rcases aO.1 hq with e|e
   ·subst e; exact hc.1.1.1
   ·exact yI hc.2 (by simpa using hl) q e
theorem HT {os:List O} {sP:List Fq}:∀{un:List (Nat × Nat)},EM os sP un=true->∀i j,i≠j->lG i j un=true->jx (os.getD i ⟨none,none,.min []⟩) (sP.getD i .all) (os.getD j ⟨none,none,.min []⟩) (sP.getD j .all)=true
 |[],_,i,j,_,h=>by simp[lG] at h
 |p::r,hk,i,j,qF,h=>by
   obtain⟨x,y⟩:=p;simp only[EM,ae,eE,decide_eq_true_eq] at hk;simp only[lG,eE,ae,decide_eq_true_eq] at h;rcases h with⟨rfl,rfl⟩|h
   ·exact hk.1.resolve_left qF
   ·exact HT hk.2 i j qF h
theorem Rh (x y:O) {f g:Fq} (hf:f=.no\/f=.bo []) (hg:g=.no\/g=.bo []):jx x f y g=true:=by
 have d:∀d,DF d (.bo [])=true:=fun d=>by cases d<;>rfl
 have d':∀d,DF d .no=true:=fun d=>by cases d<;>rfl
 rcases hf with rfl|rfl<;>rcases hg with rfl|rfl<;>simp[jx,Fq.ok,Ol,d,d']
theorem FC.drew {X:Nat->Prop} {φ:dx} {w:World} {B:Nat->Nat} {base:Nat} {s:St} {a:Act} {N:Nat} (h:FC X φ w B base s a N):FC X φ w.drew B base s a N:=by
 obtain⟨N1,Ha,A7,hb⟩:=h.sb;exact⟨⟨N1,Ha,A7.oN (.drew _ _) (A7.heap.of_same (ψ:=[]) ⟨rfl,rfl,rfl,Nat.le_succ _,aJ _,fun g _ h=>⟨rfl,h⟩,.refl _⟩) A7.own (fun _ _=>rfl),hb⟩,h.defers,h.size⟩
theorem agO (dy:fy P c) (hS:ahn c call T) (hT:YQ P c T) (hC:Wk T):Nr P c call:=by
 intro X φ w B base s s' sP a N id ops os un Q hN hc ho hs hd hr hg hQ;simp only[Qg,ae] at hd;obtain⟨hn,hd⟩:=hd;obtain⟨hl,hm⟩:=MR hc;obtain⟨Bo,pI⟩:=TU hS un 0 ops.toList os s s' sP hl (yI ho hl) hs hn;have hlen:=HX 0 ops.toList os (LY un 0 sP) hl (by rw[HY]; exact Bo);have xE:ft φ w φ w.drew:=.drew _ _;have hord:=Cb (ops:=ops) ho (fun j l hl=>by simp at hl) rfl (fun j=>by simp);have yH:FC X φ w.drew B base s a N:=hr.drew
 refine wp_region_any dy.mixed (ajO hT hC (X:=X) (B:=B) (base:=base) hN (sf:=s') ops.size (LK 0 ops.toList os (LY un 0 sP)) _ a w.drew φ s (by simpa using hlen) (fun i=>?_) (by simp) (fun j o _ hl=>by simp[bm,nM] at hl; split at hl<;>simp at hl) (fun p hp=>?_) ?_ pI yH (hg.oN xE)
  fun a' w' φ' h k=>hQ a' w' φ' h (xE.trans k))
 ·by_cases hi:i<ops.size
  ·simp only[bm,nM,hi,if_true,eJ,true_iff];obtain⟨p,hp⟩:=bt (l:=LK 0 ops.toList os (LY un 0 sP)) (i:=i) (by rw[hlen]; simpa using hi);exact⟨p,bp hp,by have:=(wz 0 _ _ _ i p hp).1; omega⟩
  ·simp only[bm,nM,hi,if_false,Option.getD_none];refine⟨(fun h=>by cases h),fun⟨p,hp,hpi⟩=>?_⟩;exfalso;obtain⟨j,hj⟩:=bG hp;have h1:=(wz 0 _ _ _ j p hj).1;have h2:=az hj;rw[hlen] at h2;simp at h2;omega
 ·obtain⟨j,hj⟩:=bG hp;obtain⟨h1,h2,h3,h4⟩:=wz 0 _ _ _ j p hj;have h1':p.1=j:=by omega
  obtain⟨k1,_⟩:=hord j p.2.1 p.2.2.1 h2 h3;refine⟨by rw[h1']; simpa using h2,hm j _ _ h2 h3,fun e he hb=>?_⟩;have:=k1 e he hb;simp at this;omega
 ·rw[List.pairwise_iff_getElem];intro i j hi hj xA;obtain⟨h1,h2,h3,h4⟩:=wz 0 _ _ _ i _ (aj hi);obtain⟨k1,k2,k3,k4⟩:=wz 0 _ _ _ j _ (aj hj);refine⟨by omega,?_⟩;obtain⟨_,anR⟩:=hord j _ _ k2 k3;have:=anR i _ (by simpa using h3) (by simpa using xA);simp only[gG,fT] at this;rcases this with h|h
  ·left; rw[h1,k1]; simpa using h
  ·right;obtain⟨⟨B9,xC⟩,Gw,h⟩:=h;refine⟨Gw,?_⟩;rw[UB] at h4 k4;simp only[fT,B9,xC,bH,if_false,Option.map_id'] at h4 k4;rcases h with⟨h5,h6⟩|h5
   ·exact Rh _ _ (Db hs hn i _ _ h3 h4 h5 (by simpa using B9)) (Db hs hn j _ _ k3 k4 h6 (by simpa using xC))
   ·have:=HT hd i j (by omega) h5;simp only[List.getD_eq_getElem?_getD,h3,k3,h4,k4,eJ] at this;exact this
end
end Go.Bm

/- A step up to what can be seen of a state: StepT and SoundT. -/
namespace Go.Bm
open Go.Am
section
variable {P:Program} {c:eS} {call:Nat->List AV->Heap->Option (AV × Heap)}
def eC (s t:St):Prop:=(∀i,get s.env i=get t.env i)/\s.H=t.H
theorem eC.rfl' {s:St}:eC s s:=⟨fun _=>rfl,rfl⟩
theorem eC.symm {s t:St} (h:eC s t):eC t s:=⟨fun i=>(h.1 i).symm,h.2.symm⟩
theorem eC.trans {s t u:St} (h:eC s t) (k:eC t u):eC s u:=⟨fun i=>(h.1 i).trans (k.1 i),h.2.trans k.2⟩
theorem FC.same {X:Nat->Prop} {φ:dx} {w:World} {B:Nat->Nat} {base:Nat} {s t:St} {a:Act} {N:Nat} (h:FC X φ w B base s a N) (e:eC s t):FC X φ w B base t a N:=by
 obtain⟨N1,Ha,A7,B9,xC⟩:=h.sb;exact⟨⟨N1,Ha,A7.ext (fun i=>(e.1 i).symm) e.2.symm,B9,by rw[<-e.2]; exact xC⟩,h.defers,h.size⟩
def DV:Fq->Fq->Prop
 |_,.all=>True
 |.wr sl bs,.wr sl' bs'=>(∀i∈sl,i∈sl')/\(match bs,bs' with
   |none,none=>True
   |some l,some l'=>∀b∈l,b∈l'
   |_,_=>False)
 |f,g=>f=g
theorem DV.refl (f:Fq):DV f f:=by
 cases f<;>try exact rfl
 case wr sl bs=>cases bs<;>simp[DV]
 case all=>trivial
def TS (c:eS) (call:Nat->List AV->Heap->Option (AV × Heap)) (s:St) (q:O) (f:Fq) (s':St):Prop:=
 B7 q.kd=true/\∃ s0 s1 f0,eC s s0/\u4 c call s0 q=some (s1,f0)/\DV f0 f/\eC s1 s'
theorem akX:ahn c call (TS c call):=fun s q f s' hk h=>⟨fun hf=>⟨hk,s,s',f,eC.rfl',h,.refl f,eC.rfl'⟩,⟨hk,s,s',f,eC.rfl',h,by cases f<;>trivial,eC.rfl'⟩⟩
theorem ahC (Gt:QD P c call):YQ P c (TS c call):=by
 intro X φ w B base N ops s s' o a q f hN hc ⟨_,s0,s1,f0,e0,h,_,e1⟩ hr hg K Q hK;have hr0:=hr.same e0
 have hck:di P o.op (nj q.kd)=true:=by
  have:=hc;simp only[R8,VQ,ae] at this;exact this.2
 exact SV (fun v s2 f hv=>Gt X φ w B base s0 o a q.kd v s2 f hck hv hr0.sb hg) hc hN h hr0 fun a' w' φ' yH k'=>hK a' w' φ' (yH.same e1) k'
theorem adn (dy:fy P c) (Gt:QD P c call) (hC:Wk (TS c call)):Nr P c call:=agO dy akX (ahC Gt) hC
end
end Go.Bm
