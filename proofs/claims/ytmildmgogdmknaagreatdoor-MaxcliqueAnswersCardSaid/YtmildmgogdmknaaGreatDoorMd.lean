/- The machine by value: operations, calls, code. -/
import Derived.Test.YtmildmgogdmknaaGreatDoorMc
import Derived.Scope
import Derived.Sort.Grow
import Derived.Deep.Draws
/- Operations that write: append, clear, stores. -/
set_option linter.unusedSimpArgs false
set_option linter.unusedVariables false
open Array renaming getD_eq_getD_getElem? → bn, getElem?_append_left → uf, getElem?_append_right → Mn, getElem?_eq_some_iff → dS, getElem?_replicate → mV, getElem?_setIfInBounds_ne → jy, replicate → sF
open Bool renaming and_eq_false_iff → V6, and_eq_true → ae, false_eq_true → bz, not_eq_true' → bR, or_eq_false_iff → fD, or_eq_true → gM, true_and → dI
open Classical renaming byContradiction → ep
open List renaming append_assoc → du, append_nil → dW, drop_eq_nil_of_le → Bo, eq_nil_of_length_eq_zero → dC, ext_getElem? → eT, getElem?_append_left → aB, getElem?_append_right → aR, getElem?_cons_succ → nZ, getElem?_drop → br, getElem?_eq_getElem → an, getElem?_eq_none → fj, getElem?_map → ct, getElem?_of_mem → bH, getElem?_replicate → iE, getElem?_set → bg, getElem?_set_ne → bT, getElem?_take → bN, isEmpty_iff → fV, length_append → bV, length_cons → cN, length_nil → gP, length_set → bI, length_take → bF, mem_append → aG, mem_cons → aK, mem_of_getElem? → bt, mem_of_mem_drop → dB, mem_of_mem_take → dA, mem_or_eq_of_mem_set → jw, pairwise_append → bP, rel_of_pairwise_cons → PM, replicate → aH, take_append_drop → VZ, take_zero → pD
open Nat renaming add_mul → cT, le_refl → aY, le_trans → Mu, lt_of_lt_of_le → ff, mul_le_mul_right → bS, zero_add → ik, zero_le → Ml, zero_mul → qk
open Ne renaming symm → fM
open Option renaming getD_some → iQ, isSome_iff_exists → aV, map_some → dE
open Option.some renaming inj → dv, injEq → ai
open Prod.mk renaming injEq → aP
namespace Go.Bm
open Go.Am
section
variable {P:Program} {X:Nat->Prop} {φ φ':dQ} {w w':World} {N N':Names} {s s1:St} {Ha Ha':Heap} {t:Nat->Value} {B:Nat->Nat} {base:Nat} {v va:AV} {v':Value} {c:fe} {o:Oper} {a:Act} {kd:Kd}
theorem xx {l:List AV} (h:∀x∈l,x.leaf=true):bG l=true:=by
 induction l with
 |nil=>rfl
 |cons y r ih=>simp only[bG,ae]; exact⟨h y (by simp),ih fun x hx=>h x (by simp[hx])⟩
theorem Az {l:List AV} (h:bG l=true):∀x∈l,x.leaf=true:=by
 induction l with
 |nil=>intro x hx; simp at hx
 |cons y r ih=>
   intro x hx;simp only[bG,ae] at h;rcases aK.1 hx with e|e
   ·subst e; exact h.1
   ·exact ih h.2 x e
theorem Be {k:Nat} {xs:List AV} (h:∀x∈xs,x.cells.length=k) (n:Nat):aI (xs.take n)=(aI xs).take (n*k):=by
 induction xs generalizing n with
 |nil=>simp[aI]
 |cons x r ih=>
   cases n with
   |zero=>simp[aI]
   |succ n=>
     have hx:=h x (by simp);simp only[List.take_succ_cons,aI,ih (fun y hy=>h y (by simp[hy])) n];rw[List.take_append,hx,cT,Nat.one_mul,List.take_of_length_le (by omega:x.cells.length<=n*k+k),Nat.add_sub_cancel]
theorem Po {k:Nat} {xs:List AV} (h:∀x∈xs,x.cells.length=k) (n:Nat):aI (xs.drop n)=(aI xs).drop (n*k):=by
 induction xs generalizing n with
 |nil=>simp[aI]
 |cons x r ih=>
   cases n with
   |zero=>simp
   |succ n=>
     have hx:=h x (by simp);simp only[List.drop_succ_cons,aI,ih (fun y hy=>h y (by simp[hy])) n];rw[List.drop_append,hx,cT,Nat.one_mul,Bo (by omega:x.cells.length<=n*k+k),List.nil_append,Nat.add_sub_cancel]
theorem iq {k:Nat} {xs:List AV} (h:∀x∈xs,x.cells.length=k):(aI xs).length=xs.length*k:=(fS h).1
theorem IZ (h:fx X φ w N s Ha (tm a)) (hg:Am.e9 (ju c) X φ w) {k:Nat} {x:E} {o':Operand} (ho:dF o' (nT x)=true) {ys:List AV} (hc:cont s k (bC c s.env x)=some ys) (A8:bG (aI ys)=true) :
  ∃ news,jX Ha k (Am.ev (ju c) (DQ N s.env) (nT x))=some (news,ys.length)/\news.length=ys.length*k/\(∀y∈ys,y.cells.length=k)/\bG news=true /\
   ∀ (i:Nat) (d:AV),(aI ys)[i]?=some d->fz d=true/\∃ e,news[i]?=some e/\e.leaf=true/\Le d e:=by
 have hx:=dg (c:=c) (cA:=ju c) h rfl ho;have dG:=hx.ok;have r:=cF (c:=ju c) (env:=DQ N s.env) (a:=a) (fun i=>by rw[nO]; exact h.env i) hg ho;rw[hx.ev] at r ⊢;cases e:bC c s.env x<;>rw[e] at hc dG r<;>try (simp[cont] at hc; done)
 ·rename_i k' xs;simp only[cont] at hc;split at hc
  case isFalse=>cases hc
  rename_i wc;subst wc;simp at hc;subst hc;simp only[ig,df,jX,if_true] at r ⊢
  have kQ:(∀y∈xs,y.cells.length=k')/\∀ y∈xs,∀d∈y.cells,pl d=true:=by
   generalize a.eval o'=z at r;cases r with
   |oa _ _ _ ad n cap u hn je hk hu h=>
     refine⟨hk,fun y hy d hd=>?_⟩;obtain⟨i,hi⟩:=bH hy;obtain⟨j,hj⟩:=bH hd;exact acC (h i j y d hi hj) rfl
   |kJ=>exact⟨fun y hy=>by simp at hy,fun y hy=>by simp at hy⟩
  refine⟨aI xs,rfl,iq kQ.1,kQ.1,A8,fun i d hd=>?_⟩;obtain⟨i',y,j,h1,h2,_⟩:=(fS kQ.1).2 i d hd;have hdl:=Az A8 d (bt hd);refine⟨?_,d,hd,hdl,Le.refl _⟩;unfold fz;rw[hdl,kQ.2 y (bt h1) d (bt h2)];rfl
 ·rename_i k' xs;have:=hx.eo k' xs e;subst this;simp[cont] at hc;subst hc;exact⟨[],by simp[ig,jX],by simp,fun y hy=>by simp at hy,rfl,fun i d hd=>by simp[aI] at hd⟩
 ·rename_i k' p off len;simp only[cont] at hc;split at hc
  case h_2=>cases hc
  rename_i A6 xs hp;split at hc
  case isFalse=>cases hc
  rename_i hcc;obtain⟨rfl,rfl,hle⟩:=hcc;simp at hc;subst hc;have fc:=h.own p A6 xs hp;simp only[ig];rcases uM h dG with⟨n,hn,e2⟩|⟨hn,h0,h1,e2⟩
  ·rw[e2];rw[hn] at fc;obtain⟨cs,c1,c2,c3,c4⟩:=fc
   have hb:off*A6+len*A6<=cs.length:=by
    have:(off+len)*A6<=xs.length*A6:=bS A6 hle;rw[cT] at this;omega
   have hys:∀y∈(xs.drop off).take len,y.cells.length=A6:=fun y hy=>c3 y (dB (dA hy));have hl:((xs.drop off).take len).length=len:=by simp; omega
   have idx:∀(i:Nat) (d:AV),(aI ((xs.drop off).take len))[i]?=some d->fz d=true/\∃ e,((cs.drop (off*A6)).take (len*A6))[i]?=some e/\e.leaf=true/\Le d e:=by
    intro i d hd;rw[Be (fun y hy=>c3 y (dB hy)),Po c3,bN] at hd;split at hd
    case isFalse=>cases hd
    rename_i hi;rw[br] at hd;obtain⟨f1,e,f2,f3,f4⟩:=c4 _ d hd;exact⟨f1,e,by rw[bN,if_pos hi,br]; exact f2,f3,f4⟩
   refine⟨(cs.drop (off*A6)).take (len*A6),by simp only[jX,c1,hl]; rw[if_pos ⟨trivial,hb⟩],by rw[hl]; simp; omega,hys,xx fun x hx=>?_,idx⟩;obtain⟨i,hi⟩:=bH hx;have bD:=aC hi;have:i<(aI ((xs.drop off).take len)).length:=by rw[iq hys,hl]; simp at bD; omega
   obtain⟨d,hd⟩:=bu this;obtain⟨_,e,g2,g3,_⟩:=idx i d hd;rw[hi] at g2;cases g2;exact g3
  ·rw[e2];subst h1;exact⟨[],by simp[jX],by simp,fun y hy=>by simp at hy,rfl,fun i d hd=>by simp[aI] at hd⟩
theorem agR (hm:P.follows .mixedOrders=true) (h:SB X φ w B base s (tm a)) (hg:Am.e9 (ju c) X φ w) {k k':Nat} {x y:E} (hk:dz P o.op (nS (.app k x y))=true) (DU:bC c s.env x=.own k' []) {ys:List AV} (hy:cont s k (bC c s.env y)=some ys) (A8:bG (aI ys)=true) (hl:ys.length<=jx) :
  nW P X φ w B base s (.own k ys) o a:=by
 obtain⟨N,Ha,h,hb⟩:=h;obtain⟨⟨o1,h1⟩,o2,h2⟩:=aa1 hk;have hx:=dg (c:=c) (cA:=ju c) h rfl h1;obtain⟨news,n1,n2,n3,n4,n5⟩:=IZ h hg h2 hy A8;by_cases h0:ys.length=0
 ·have:ys=[]:=dC h0;subst this;refine nW.of (oh (va:=.dO) (Ha':=Ha) hm h hg hk (by simp only[nS,gU,n1,hx.ev,DU,ig,gP,if_true]; rfl)) fun v' w' φ' r hh ad=>?_;exact eR.quiet (h.m6 ad hh h.own (fun _ _=>rfl)) hb trivial (by simp[EO]) r
 ·refine nW.of (oh (va:=.sl k Ha.length 0 ys.length) (Ha':=Ha++[some news]) hm h hg hk (by simp only[nS,gU,n1,hx.ev,DU,ig,if_neg h0,if_pos (⟨hl,n4⟩:ys.length<=jx/\bG news=true)]; rfl)) fun v' w' φ' r hh ad=>?_;exact Fb h hb ad hh (by omega) n3 n5 r
theorem agQ (hm:P.follows .mixedOrders=true) (h:SB X φ w B base s (tm a)) (hg:Am.e9 (ju c) X φ w) {k len:Nat} {x y:E} (hk:dz P o.op (nS (.app k x y))=true) {p:Rt} {xs:List AV} (DU:bC c s.env x=.eE k p 0 len) (hp:aD s p=some (k,xs)) (hle:len<=xs.length) {ys:List AV} (hy:cont s k (bC c s.env y)=some ys) (A8:bG (aI ys)=true) (hl:len+ys.length<=jx) :
  nW P X φ w B base (setAt (cE (sw p) s) p .any) (.own k (xs.take len++ys)) o a:=by
 obtain⟨N,Ha,h,hb⟩:=h;obtain⟨⟨o1,h1⟩,o2,h2⟩:=aa1 hk;have hx:=dg (c:=c) (cA:=ju c) h rfl h1;have dG:=hx.ok;rw[DU] at dG;obtain⟨news,n1,n2,n3,n4,n5⟩:=IZ h hg h2 hy A8;obtain⟨d1,d2,d3⟩:=h.drop hp;have Cb:(∀b,b<base->N.β b=B b)/\base<=(setAt (cE (sw p) s) p .any).H.length:=⟨hb.1,by rw[d3.len]; exact hb.2⟩;have fc:=h.own p k xs hp;rcases uM h dG with⟨n,hn,e2⟩|⟨hn,_,UR,e2⟩
 ·rw[hn] at fc;obtain⟨cs,c1,c2,c3,c4⟩:=fc;have hlk:len*k<=cs.length:=Mu (bS k hle) c2;have hnlt:=eI c1;refine nW.of (oh (va:=.sl k Ha.length 0 (len+ys.length)) (Ha':=Ha.set n none++[some (cs.take (len*k)++news)]) hm h hg hk (by simp only[nS,gU,n1,hx.ev,DU,ig,e2,qk,c1,if_pos (⟨trivial,hlk,hl,n4⟩:True/\len*k<=cs.length/\len+ys.length<=jx/\bG news=true)]; rfl)) fun v' w' φ' r hh ad=>?_;have RE:∀m,m≠n->aO (Ha.set n none) m=aO Ha m:=fun m FE=>by unfold aO; rw[bT (fM FE)]
  have km:∀m,m≠n->m<Ha.length->aO (Ha.set n none++[some (cs.take (len*k)++news)]) m=aO Ha m:=fun m FE bD=>by
   rw[fY,if_neg (by simp; omega),RE m FE]
  have gJ:fx X φ' w' N (setAt (cE (sw p) s) p .any) (Ha.set n none++[some (cs.take (len*k)++news)]) (tm a):=by
   refine d1.m6 ad hh (fun q k' zs e=>?_) (fun b Gw=>?_)
   ·have e':=e;rw[d2] at e';split at e'
    ·cases e'
    rename_i pZ;refine (d1.own q k' zs e).same fun m hmq=>km m ?_ ?_
    ·rintro rfl;exact pZ (h.inj q p m (by rw[e']; rfl) (by rw[hp]; rfl) hmq hn)
    ·exact h.gQ (by rw[e']; rfl) hmq
   ·have IP:(aO s.H b).isSome:=by
     cases e:aO s.H b with
     |none=>rw[d3.F5 b e] at Gw; cases Gw
     |some _=>rfl
    refine km _ ?_ (h.tw IP);intro e;exact h.bx b p IP (by rw[hp]; rfl) (by rw[hn,e])
  have US:(xs.take len++ys).length=len+ys.length:=by simp; omega
  have htk:∀z∈xs.take len,z.cells.length=k:=fun z hz=>c3 z (dA hz);refine eR.fresh gJ Cb (n:=Ha.length) ⟨cs.take (len*k)++news,by rw[fY,if_pos (by simp)],?_,?_,?_⟩ (fun q hq e=>?_) (fun b Gw e=>?_) (by rw[US]; exact r)
  ·rw[US,cT,bV,bF,n2]; omega
  ·intro z hz;rcases aG.1 hz with hz|hz
   ·exact htk z hz
   ·exact n3 z hz
  ·intro i d hd;rw[lj,Be c3] at hd
   have hlt1:((aI xs).take (len*k)).length=len*k:=by
    have:=iq c3;have:len*k<=xs.length*k:=bS k hle;rw[bF]; omega
   rw[List.getElem?_append] at hd;rw[hlt1] at hd;split at hd
   ·rename_i hi;rw[bN,if_pos hi] at hd;obtain⟨f1,e,f2,f3,f4⟩:=c4 i d hd;exact⟨f1,e,by rw[aB (by simp; omega),bN,if_pos hi]; exact f2,f3,f4⟩
   ·rename_i hi;obtain⟨f1,e,f2,f3,f4⟩:=n5 _ d hd;refine⟨f1,e,?_,f3,f4⟩;rw[aR (by simp; omega)];rw[bF,Nat.min_eq_left hlk];exact f2
  ·have hq':(aD s q).isSome:=by
    rw[d2] at hq;split at hq
    ·cases hq
    ·exact hq
   have:=h.gQ hq' e;omega
  ·have IP:(aO s.H b).isSome:=by
    cases e:aO s.H b with
    |none=>rw[d3.F5 b e] at Gw; cases Gw
    |some _=>rfl
   have:=h.tw IP;omega
 ·rw[hn] at fc;have hxs:xs=[]:=fc;subst hxs;subst UR
  have simq:∀{φ' w' Ha'},fU φ w φ' w'->cK X φ' w' Ha'->(∀m,m<Ha.length->aO Ha' m=aO Ha m)->fx X φ' w' N (setAt (cE (sw p) s) p .any) Ha' (tm a):=by
   intro φ' w' Ha' ad hh km;refine d1.m6 ad hh (fun q k' zs e=>?_) (fun b Gw=>?_)
   ·exact (d1.own q k' zs e).same fun m hmq=>km m (d1.gQ (by rw[e]; rfl) hmq)
   ·exact km _ (d1.tw Gw)
  by_cases h0:ys.length=0
  ·have:ys=[]:=dC h0;subst this;refine nW.of (oh (va:=.dO) (Ha':=Ha) hm h hg hk (by simp only[nS,gU,n1,hx.ev,DU,ig,e2,gP,if_true]; rfl)) fun v' w' φ' r hh ad=>?_;exact eR.quiet (simq ad hh fun _ _=>rfl) Cb trivial (by simp[EO]) r
  ·have Pd:ys.length<=jx:=by omega
   refine nW.of (oh (va:=.sl k Ha.length 0 ys.length) (Ha':=Ha++[some news]) hm h hg hk (by simp only[nS,gU,n1,hx.ev,DU,ig,e2,if_neg h0,if_pos (⟨Pd,n4⟩:ys.length<=jx/\bG news=true)]; rfl)) fun v' w' φ' r hh ad=>?_;have gJ:=simq ad hh fun m bD=>by rw[fY,if_neg (by omega)]
   refine eR.fresh gJ Cb (n:=Ha.length) ⟨news,L3 _ _,by simp; omega,by simpa using n3,by simpa using n5⟩ (fun q hq e=>?_) (fun b Gw e=>?_) (by simpa using r)
   ·have:=d1.gQ hq e; omega
   ·have:=d1.tw Gw; omega
end
end Go.Bm

/- Stores and clearing. -/
namespace Go.Bm
open Go.Am
mutual
theorem ZO {o o':Rt->Option (Nat × List AV)} {nb:Nat} (ho:∀p k xs,o p=some (k,xs)->∃ys,o' p=some (k,ys)/\xs.length<=ys.length):∀x,c9 o nb x->c9 o' nb x
 |.eE k p off len,h=>by simp only[c9] at h ⊢; obtain⟨xs,e,h2⟩:=h; obtain⟨ys,e2,h3⟩:=ho p k xs e; exact⟨ys,e2,by omega⟩
 |.fP k p i off,h=>by simp only[c9] at h ⊢; obtain⟨xs,e,h2⟩:=h; obtain⟨ys,e2,h3⟩:=ho p k xs e; exact⟨ys,e2,by omega⟩
 |.ptr b off,h=>h
 |.agg cs,h=>by simp only[c9] at h ⊢; exact EI ho cs h
 |.dJ cs,h=>by simp only[c9] at h ⊢; exact EI ho cs h
 |.func f a b,h=>by simp only[c9] at h ⊢; exact⟨EI ho a h.1,EI ho b h.2⟩
 |.any,_=>trivial
 |.undef,_=>trivial
 |.gq,_=>trivial
 |.gz,_=>trivial
 |.dO,_=>trivial
 |.int _ _,_=>trivial
 |.bool _,_=>trivial
 |.str _,_=>trivial
 |.list _ _,_=>trivial
 |.dV _,_=>trivial
 |.own _ _,_=>trivial
 |.sl _ _ _ _,h=>h
theorem EI {o o':Rt->Option (Nat × List AV)} {nb:Nat} (ho:∀p k xs,o p=some (k,xs)->∃ys,o' p=some (k,ys)/\xs.length<=ys.length):∀cs,lJ o nb cs->lJ o' nb cs
 |[],_=>trivial
 |x::r,h=>⟨ZO ho x h.1,EI ho r h.2⟩
end
theorem mQ {l vs:List AV} {off:Nat} (h:off+vs.length<=l.length) (m:Nat):(kg l off vs)[m]?=if m<off then l[m]? else if m<off+vs.length then vs[m-off]? else l[m]?:=by
 unfold kg;have h1:(l.take off).length=off:=by simp; omega
 by_cases a:m<off
 ·rw[if_pos a,du,aB (by omega),bN,if_pos a]
 ·rw[if_neg a];by_cases b:m<off+vs.length
  ·rw[if_pos b,du,aR (by omega),h1,aB (by omega)]
  ·rw[if_neg b,aR (by simp; omega),br];congr 1;simp; omega
section
variable {P:Program} {X:Nat->Prop} {φ φ':dQ} {w w':World} {N N':Names} {s s1:St} {Ha Ha':Heap} {t:Nat->Value} {B:Nat->Nat} {base:Nat} {v va:AV} {v':Value} {c:fe} {o:Oper} {a:Act} {kd:Kd}
theorem af1 {p:Rt} {k:Nat} {xs xs':List AV} (hp:aD s p=some (k,xs)) (hl:xs'.length=xs.length) (i:Nat):lK N i (get (setAt s p (.own k xs')).env i)=lK N i (get s.env i):=by
 have yQ:=cM.1 hp;cases p with
 |s j=>
   simp only[at_,ai] at yQ;simp only[setAt,bM];by_cases e:i=j
   ·subst e; rw[if_pos rfl,yQ]; simp only[lK,kf,hl]
   ·rw[if_neg e]
 |sc j l=>
   simp only[at_] at yQ;cases hg:get s.env j<;>rw[hg] at yQ<;>simp at yQ
   rename_i ds;have hs:setAt s (.sc j l) (.own k xs')=⟨put s.env j (.agg (ds.set l (.own k xs'))),s.H⟩:=by simp[setAt,hg]
   rw[hs];simp only[bM];by_cases e:i=j
   ·subst e;rw[if_pos rfl,hg];simp only[lK];congr 1;apply eT;intro m;rw[gV,gV,bg];by_cases hm:l=m
    ·subst hm;rw[if_pos rfl,if_pos (aC yQ),yQ];simp only[dE,kf,hl]
    ·rw[if_neg hm]
   ·rw[if_neg e]
 |c b l=>
   simp only[at_] at yQ;cases hg:aO s.H b<;>rw[hg] at yQ<;>simp at yQ
   simp[setAt,hg]
theorem fx.upd (h:fx X φ w N s Ha t) {p:Rt} {k n:Nat} {xs xs':List AV} (hp:aD s p=some (k,xs)) (hn:N.ν p=some n) (hl:xs'.length=xs.length) (ad:fU φ w φ' w') (hh:cK X φ' w' Ha') (ho:pd Ha' (some n) k xs') (hb:∀m,m≠n->aO Ha' m=aO Ha m) :
  fx X φ' w' N (setAt s p (.own k xs')) Ha' t/\Shape s (setAt s p (.own k xs')):=by
 have yQ:=cM.1 hp;have p7:Fits s p (.own k xs'):=⟨(fun cs e=>by cases e),_,yQ,(fun cs e=>by cases e)⟩;have kb:=Shape.set p7;generalize UO:setAt s p (.own k xs')=s' at kb ⊢
 have own:∀q,aD s' q=if q=p then some (k,xs') else aD s q:=by
  refine AZ kb (fun q hq=>?_) (fun q hq=>?_)
  ·have e:at_ s' q=if q=p then some (.own k xs') else at_ s q:=by rw[<-UO]; exact GK p7 hq
   by_cases pZ:q=p
   ·rw[if_pos pZ] at e ⊢; exact cM.2 e
   ·rw[if_neg pZ] at e ⊢; exact jc e
  ·rw[if_neg (by rintro rfl; exact hq (Ko (by rw[hp]; rfl)))];exact vG hq
 have hlen:∀q k' ys,aD s q=some (k',ys)->∃zs,aD s' q=some (k',zs)/\ys.length<=zs.length:=by
  intro q k' ys e;rw[own];by_cases pZ:q=p
  ·subst pZ;rw[hp] at e;cases e;exact⟨xs',by rw[if_pos rfl],by omega⟩
  ·exact⟨ys,by rw[if_neg pZ]; exact e,aY _⟩
 have oiff:∀{q},(aD s' q).isSome->(aD s q).isSome:=by
  intro q hq;rw[own] at hq;by_cases pZ:q=p
  ·subst pZ; rw[hp]; rfl
  ·rw[if_neg pZ] at hq; exact hq
 have biff:∀{b},(aO s'.H b).isSome->(aO s.H b).isSome:=by
  intro b hb;cases e:aO s.H b with
  |none=>rw[kb.F5 b e] at hb; cases hb
  |some _=>rfl
 have okk:∀r y,Lf s' r->at_ s' r=some y->c9 (aD s') s'.H.length y:=by
  intro r y hr hy;obtain⟨yN,x,hx⟩:=kb.back hr hy;have e:at_ s' r=if r=p then some (.own k xs') else at_ s r:=by rw[<-UO]; exact GK p7 yN
  rw[e] at hy;by_cases Ii:r=p
  ·rw[if_pos Ii] at hy; cases hy; trivial
  ·rw[if_neg Ii] at hy;rw[kb.len];exact ZO hlen y (h.EH hy)
 obtain⟨hk,hkc⟩:=Kv okk;refine⟨⟨fun i=>?_,hk,hh,fun q k' ys e=>?_,fun b cs e=>?_,fun q r m e1 e2 e3 e4=>h.inj q r m (oiff e1) (oiff e2) e3 e4,fun b q e1 e2 e3=>h.bx b q (biff e1) (oiff e2) e3,fun b d e1 e2 e3=>h.bi b d (biff e1) (biff e2) e3⟩,kb⟩
 ·rw[<-UO,af1 hp hl]; exact ad.rep (h.env i)
 ·rw[own] at e;by_cases pZ:q=p
  ·subst pZ;rw[if_pos rfl] at e;cases e;rw[hn];exact ho
  ·rw[if_neg pZ] at e;refine (h.own q k' ys e).same fun m hm=>hb m ?_;rintro rfl;exact pZ (h.inj q p m (by rw[e]; rfl) (by rw[hp]; rfl) hm hn)
 ·cases IP:aO s.H b with
  |none=>rw[kb.F5 b IP] at e; cases e
  |some cs0=>
    obtain⟨ds,q1,q2⟩:=kb.box b cs0 IP;rw[e] at q1; cases q1;obtain⟨as,g1,g2,g3⟩:=h.box b cs0 IP;refine⟨as,?_,by omega,fun j d hd=>⟨hkc b cs e j d hd,?_⟩⟩
    ·rw[hb]
     ·exact g1
     ·intro e3; exact h.bx b p (by rw[IP]; rfl) (by rw[hp]; rfl) (by rw[hn,e3])
    ·obtain⟨d0,hd0⟩:=bu (l:=cs0) (i:=j) (by have:=aC hd; omega);obtain⟨_,a',a1,a2⟩:=g3 j d0 hd0;refine⟨a',a1,?_⟩;have e3:at_ s' (.c b j)=if Rt.c b j=p then some (.own k xs') else at_ s (.c b j):=by rw[<-UO]; exact GK p7 (fun i e=>by cases e)
     rw[Au e,Au IP,hd,hd0] at e3;by_cases Ii:Rt.c b j=p
     ·rw[if_pos Ii] at e3;cases e3
      have hat':d0=.own k xs:=by
       rw[<-Ii,Au IP,hd0] at yQ;exact dv yQ
      subst hat';simp only[kf,hl] at a2 ⊢;exact a2
     ·rw[if_neg Ii] at e3;cases e3;exact a2
theorem Wc {k off:Nat} {x:AV} {vs:List AV} (hx:x.cells.length=k) (hf:off+vs.length<=k):(Su k x off vs).cells=kg x.cells off vs:=by
 unfold Su;split
 ·rename_i h;rw[vU];obtain⟨rfl,hl⟩:=h;unfold kg;rw[Bo (by omega)];simp
 ·rw[vU]
theorem X5:∀{cs:List AV},U7 cs=true->ja N cs=cs
 |[],_=>rfl
 |x::r,h=>by
   simp only[U7,ae] at h;simp only[ja];rw[X5 h.2];have:=(kD h.1).1;congr 1;cases x<;>first|exact lz N _ this|(simp[pl] at this; done)
theorem akN (hm:P.follows .mixedOrders=true) (h:SB X φ w B base s (tm a)) (hg:Am.e9 (ju c) X φ w) {k k' i off:Nat} {x y:E} {p:Rt} {xs:List AV} {u:AV} (hk:dz P o.op (nS (.st k x y))=true) (DU:bC c s.env x=.fP k' p i off) (hp:aD s p=some (k',xs)) (hu:xs[i]?=some u)
  (h1:(bC c s.env y).cells.length=k) (h2:off+k<=k') (h3:U7 (bC c s.env y).cells=true):nW P X φ w B base (setAt s p (.own k' (xs.set i (Su k' u off (bC c s.env y).cells)))) .undef o a:=by
 obtain⟨N,Ha,h,hb⟩:=h;obtain⟨⟨o1,c1⟩,o2,c2⟩:=alU hk;have hx:=dg (c:=c) (cA:=ju c) h rfl c1;have hy:=dg (c:=c) (cA:=ju c) h rfl c2;have dG:=hx.ok;rw[DU] at dG;obtain⟨n,hn,e2⟩:=Kh h dG;have fc:=h.own p k' xs hp;rw[hn] at fc;obtain⟨cs,q1,q2,q3,q4⟩:=fc;generalize Si:(bC c s.env y).cells=vs at h1 h3 ⊢;have kQ:(Am.ev (ju c) (DQ N s.env) (nT y)).cells=vs:=by rw[hy.ev,LV N hy.na,Si,X5 h3]
 have A8:bG vs=true:=xx fun z hz=>(kD (lh h3 z hz)).2;have huk:u.cells.length=k':=q3 u (bt hu);have hilt:=aC hu;have A9:(i+1)*k'<=xs.length*k':=bS k' hilt;rw[cT] at A9;have p7:i*k'+off+k<=cs.length:=by omega
 refine nW.of (oh (va:=.undef) (Ha':=Ha.set n (some (kg cs (i*k'+off) vs))) hm h hg hk (by simp only[nS,gU,hx.ev,DU,ig,e2,q1,kQ,if_pos (⟨h1,p7,A8⟩:vs.length=k/\i*k'+off+k<=cs.length/\bG vs=true)]; rfl)) fun v' w' φ' r hh ad=>?_;have Xg:=Wc (k:=k') (off:=off) (vs:=vs) huk (by omega)
 have hnew:pd (Ha.set n (some (kg cs (i*k'+off) vs))) (some n) k' (xs.set i (Su k' u off vs)):=by
  refine⟨kg cs (i*k'+off) vs,by rw[eF,if_pos ⟨rfl,eI q1⟩],?_,?_,?_⟩
  ·rw[bI,ib (by omega)]; exact q2
  ·intro z hz;rcases jw hz with hz|rfl
   ·exact q3 z hz
   ·rw[Xg,ib (by omega),huk]
  ·have ajk:∀z∈xs.set i (Su k' u off vs),z.cells.length=k':=by
    intro z hz;rcases jw hz with hz|rfl
    ·exact q3 z hz
    ·rw[Xg,ib (by omega),huk]
   intro m d hd;obtain⟨i',z,j,z1,z2,z3⟩:=(fS ajk).2 m d hd;have hj:j<k':=by rw[<-ajk z (bt z1)]; exact aC z2
   rw[bg] at z1;by_cases hii:i=i'
   ·subst hii;rw[if_pos rfl,if_pos hilt] at z1;cases z1;rw[Xg,mQ (by omega)] at z2
    have OJ:u.cells[j]?=some d->j<off\/¬ j<off+vs.length->fz d=true/\∃ e,(kg cs (i*k'+off) vs)[m]?=some e/\e.leaf=true/\Le d e:=by
     intro e hc;obtain⟨f1,e',f2,f3,f4⟩:=q4 _ d (Fc q3 hu e);refine⟨f1,e',?_,f3,f4⟩;rw[z3,mQ (by omega)];rcases hc with hc|hc
     ·rw[if_pos (by omega)]; exact f2
     ·rw[if_neg (by omega),if_neg (by omega)]; exact f2
    split at z2
    ·rename_i hc; exact OJ z2 (.inl hc)
    ·split at z2
     ·rename_i hc1 Lr;have hz:=lh h3 d (bt z2);refine⟨hz,d,?_,(kD hz).2,Le.refl _⟩;rw[z3,mQ (by omega),if_neg (by omega),if_pos (by omega),show i*k'+j-(i*k'+off)=j-off by omega];exact z2
     ·rename_i hc1 Lr; exact OJ z2 (.inr Lr)
   ·rw[if_neg hii] at z1;obtain⟨f1,e',f2,f3,f4⟩:=q4 _ d (Fc q3 z1 z2);refine⟨f1,e',?_,f3,f4⟩;rw[z3,mQ (by omega)];rcases Nat.lt_or_gt_of_ne hii with bD|hgt
    ·have:(i+1)*k'<=i'*k':=bS k' bD;rw[cT] at this;rw[if_neg (by omega),if_neg (by omega)];exact f2
    ·have:(i'+1)*k'<=i*k':=bS k' hgt;rw[cT] at this;rw[if_pos (by omega)];exact f2
 obtain⟨gJ,kb⟩:=h.upd (xs':=xs.set i (Su k' u off vs)) hp hn (by simp) ad hh hnew (fun m FE=>by rw[eF,if_neg (fun e=>FE e.1)]);exact eR.quiet gJ ⟨hb.1,by rw[kb.len]; exact hb.2⟩ trivial trivial r
end
end Go.Bm

/- Stores into boxes. -/
namespace Go.Bm
open Go.Am
section
variable {P:Program} {X:Nat->Prop} {φ φ':dQ} {w w':World} {N N':Names} {s s' s1:St} {Ha Ha':Heap} {t t':Nat->Value} {B:Nat->Nat} {base:Nat} {v va:AV} {v':Value} {c:fe} {o:Oper} {a:Act} {kd:Kd}
theorem vJ (i b off:Nat):∀k p x l,fQ i b off (.eE k p x l)=.eE k (eX i b off p) x l/\fQ i b off (.fP k p x l)=.fP k (eX i b off p) x l:=fun _ _ _ _=>⟨rfl,rfl⟩
theorem AO (N:Names) (i:Nat) (v:AV):(lK N i v).cells.length=v.cells.length/\∀ (j:Nat) (d:AV),v.cells[j]?=some d->(lK N i v).cells[j]?=some (kf N (match v with
  |.agg _=>.sc i j
  |_=>.s i) d):=by
 by_cases ha:∃cs,v=.agg cs
 ·obtain⟨cs,rfl⟩:=ha;simp only[lK,AV.cells];exact⟨jo _ _ _ _,fun j d hd=>by rw[gV,hd]; simp⟩
 ·have hn:kK v:=fun cs e=>ha ⟨cs,e⟩;have e1:lK N i v=kf N (.s i) v:=by cases v<;>first|rfl|exact absurd rfl (hn _)
  have e2:v.cells=[v]:=by cases v<;>first|rfl|exact absurd rfl (hn _)
  have e3:(kf N (.s i) v).cells=[kf N (.s i) v]:=by
   cases v<;>first
    |rfl
    |exact absurd rfl (hn _)
    |(rename_i k xs; simp only[kf,tJ]; cases N.ν (.s i)<;>rfl)
    |(rename_i k p x l; simp only[kf,df]; cases N.ν p<;>rfl)
  rw[e1,e2,e3];refine⟨rfl,fun j d hd=>?_⟩;cases j with
  |zero=>
    simp at hd;subst hd;cases v<;>first|rfl|exact absurd rfl (hn _)
  |succ j=>simp at hd
theorem KX {g:AV->AV} (hg:kT g) (v:AV):(cZ g v).cells=dq g v.cells:=by
 by_cases ha:∃cs,v=.agg cs
 ·obtain⟨cs,rfl⟩:=ha;simp[cZ,AV.cells]
 ·have hn:kK v:=fun cs e=>ha ⟨cs,e⟩;have hn2:=nj hg hn;have e2:v.cells=[v]:=by cases v<;>first|rfl|exact absurd rfl (hn _)
  rw[e2];simp only[dq];generalize cZ g v=y at hn2;cases y<;>first|rfl|exact absurd rfl (hn2 _)
def tv (i:Nat) (v:AV) (j:Nat):Rt:=
 match v with
 |.agg _=>.sc i j
 |_=>.s i
theorem ab8 {i:Nat} {j:Nat} {d:AV} (h:(get s.env i).cells[j]?=some d):at_ s (tv i (get s.env i) j)=some d:=by
 by_cases ha:∃cs,get s.env i=.agg cs
 ·obtain⟨cs,e⟩:=ha;rw[e] at h ⊢;simp only[tv];rw[L8 e];exact h
 ·have hn:kK (get s.env i):=fun cs e=>ha ⟨cs,e⟩
  have e2:(get s.env i).cells=[get s.env i]:=by
   generalize get s.env i=v at hn;cases v<;>first|rfl|exact absurd rfl (hn _)
  have e3:tv i (get s.env i) j=.s i:=by
   generalize get s.env i=v at hn;cases v<;>first|rfl|exact absurd rfl (hn _)
  rw[e2] at h;rw[e3];cases j with
  |zero=>simp at h; rw[<-h]; rfl
  |succ j=>simp at h
theorem fx.aio (h:fx X φ w N s Ha t) {i b off k:Nat} {cs as:List AV} (hb:aO s.H b=some cs) (has:aO Ha (N.β b)=some as) (hk:(get s.env i).cells.length=k) (p7:off+k<=cs.length)
  (hC:∀r x,at_ s r=some x->∀p∈aU x,dw b off k p=false)
  (ad:fU φ w φ' w') (hh:cK X φ' w' (Ha.set (N.β b) (some (kg as off (lK N i (get s.env i)).cells))))
  (he:∀j,get s'.env j=if j=i then .any else cZ (fQ i b off) (get s.env j)) (hH:s'.H=(fI (fQ i b off) s.H).set b (some (kg (dq (fQ i b off) cs) off (cZ (fQ i b off) (get s.env i)).cells))) (ht:∀j,j≠i->t' j=t j) :
  ∃ N',N'.β=N.β/\fx X φ' w' N' s' (Ha.set (N.β b) (some (kg as off (lK N i (get s.env i)).cells))) t':=by
 have hg:=vJ i b off;have hL:=aaf i b off;generalize hv:get s.env i=v at *;obtain⟨tc1,tc2⟩:=AO N i v;have hblt:=eI hb;have halt:=eI has
 have hasl:as.length=cs.length:=by
  obtain⟨as',g1,g2,_⟩:=h.box b cs hb;rw[has] at g1; cases g1; exact g2
 have M5:(cZ (fQ i b off) v).cells=dq (fQ i b off) v.cells:=KX hL v
 -- where a place of the new state comes from
 obtain⟨u,hu1,hu2⟩:∃u:Rt->Rt,(∀j,off<=j->j<off+k->u (.c b j)=tv i v (j-off))/\∀ q,dw b off k q=false->u q=q:=
  ⟨fun q=>match q with
   |.c d j=>if d=b/\off<=j/\j<off+k then tv i v (j-off) else .c d j
   |q=>q,fun j h1 h2=>by simp[h1,h2],fun q hq=>by
     cases q with
     |s j=>rfl
     |sc j l=>rfl
     |c d j=>
       simp only[dw,V6,decide_eq_false_iff_not] at hq;have:¬(d=b/\off<=j/\j<off+k):=by omega
       simp[this]⟩
 have blkH:∀d,aO s'.H d=if d=b then some (kg (dq (fQ i b off) cs) off (dq (fQ i b off) v.cells)) else (aO s.H d).map (dq (fQ i b off)):=by
  intro d;rw[hH,eF,fZ,M5,gk];by_cases e:d=b
  ·subst e; simp[hblt]
  ·simp[e]
 have atq:∀q,bJ i q=false->dw b off k q=false->at_ s' q=(at_ s q).map (cZ (fQ i b off)):=by
  intro q h1 h2;cases q with
  |s j=>simp only[bJ,decide_eq_false_iff_not] at h1; simp[at_,he,h1]
  |sc j l=>
    simp only[bJ,decide_eq_false_iff_not] at h1;have:=ku hL s (.sc j l);simp only[at_,cE,dT] at this;simp only[at_,he,if_neg h1];exact this
  |c d j=>
    simp only[at_,blkH];by_cases e:d=b
    ·subst e;simp only[if_true,hb];simp only[dw,decide_true,dI,V6,decide_eq_false_iff_not] at h2;rw[mQ (by rw[cW,cW,hk]; exact p7),cW,hk];by_cases c1:j<off
     ·rw[if_pos c1,ft]
     ·rw[if_neg c1,if_neg (by omega),ft]
    ·simp only[if_neg e];cases aO s.H d with
     |none=>rfl
     |some ds=>simp[ft]
 have atb:∀j,off<=j->j<off+k->at_ s' (.c b j)=(v.cells[j-off]?).map (cZ (fQ i b off)):=by
  intro j h1 h2;simp only[at_,blkH,if_true];rw[mQ (by rw[cW,cW,hk]; exact p7),cW,hk,if_neg (by omega),if_pos h2,ft]
 have ati:∀q,bJ i q=true->aD s' q=none:=by
  intro q hq;cases q with
  |s j=>simp only[bJ,decide_eq_true_eq] at hq; subst hq; unfold aD; simp[at_,he]
  |sc j l=>simp only[bJ,decide_eq_true_eq] at hq; subst hq; unfold aD; simp[at_,he]
  |c d j=>simp[bJ] at hq
 have cellAt:∀j d,v.cells[j]?=some d->at_ s (tv i v j)=some d:=fun j d hd=>by
  have:=ab8 (s:=s) (i:=i) (j:=j) (d:=d) (by rw[hv]; exact hd)
  rwa [hv] at this
 have own:∀q k' xs,aD s' q=some (k',xs)->aD s (u q)=some (k',xs):=by
  intro q k' xs e
  have hqi:bJ i q=false:=by
   cases e2:bJ i q with
   |true=>rw[ati q e2] at e; cases e
   |false=>rfl
  have e':=cM.1 e;cases hq:dw b off k q with
  |false=>
    rw[hu2 q hq];rw[atq q hqi hq] at e';cases ha:at_ s q with
    |none=>rw[ha] at e'; cases e'
    |some x=>
      rw[ha] at e';simp only[dE,ai] at e';rw[zY hL] at e';subst e';exact cM.2 ha
  |true=>
    cases q with
    |s j=>simp[dw] at hq
    |sc j l=>simp[dw] at hq
    |c d j=>
      simp only[dw,ae,decide_eq_true_eq] at hq;obtain⟨rfl,h1,h2⟩:=hq;rw[hu1 j h1 h2];rw[atb j h1 h2] at e';cases ha:v.cells[j-off]? with
      |none=>rw[ha] at e'; cases e'
      |some x=>
        rw[ha] at e';simp only[dE,ai] at e';rw[zY hL] at e';subst e';exact cM.2 (cellAt _ _ ha)
 have ame:(∃ds,v=.agg ds)\/(kK v/\v.cells=[v]/\∀ j,tv i v j=.s i):=by
  by_cases ha:∃ds,v=.agg ds
  ·exact .inl ha
  ·have hn:kK v:=fun ds e=>ha ⟨ds,e⟩;refine .inr ⟨hn,?_,fun j=>?_⟩
   ·cases v<;>first|rfl|exact absurd rfl (hn _)
   ·cases v<;>first|rfl|exact absurd rfl (hn _)
 -- an owner that was, where it is now
 have own2:∀p,(aD s p).isSome->dw b off k p=false->aD s' (eX i b off p)=aD s p/\u (eX i b off p)=p:=by
  intro p hp hc;obtain⟨⟨k',xs⟩,e⟩:=aV.1 hp;have e':=cM.1 e;cases hpi:bJ i p with
  |false=>
    have hm:eX i b off p=p:=by
     cases p with
     |s j=>simp only[bJ,decide_eq_false_iff_not] at hpi; simp[eX,hpi]
     |sc j l=>simp only[bJ,decide_eq_false_iff_not] at hpi; simp[eX,hpi]
     |c d j=>rfl
    rw[hm];refine⟨?_,hu2 p hc⟩;rw[<-jd hL s p];exact jc (by rw[atq p hpi hc,ku hL])
  |true=>
    cases p with
    |s j=>
      simp only[bJ,decide_eq_true_eq] at hpi;subst hpi;simp only[at_,ai] at e';rw[hv] at e';subst e';have hk1:k=1:=by rw[<-hk]; rfl
      subst hk1;have hm:eX j b off (.s j)=.c b off:=by simp[eX]
      rw[hm,hu1 off (aY _) (by omega)];refine⟨?_,rfl⟩;rw[e];exact cM.2 (by rw[atb off (aY _) (by omega)]; simp[AV.cells,cZ])
    |sc j l=>
      simp only[bJ,decide_eq_true_eq] at hpi;subst hpi;simp only[at_,hv] at e';split at e'
      case h_2=>cases e'
      rename_i ds;have hl:l<k:=by rw[<-hk]; exact aC e'
      have hm:eX j b off (.sc j l)=.c b (off+l):=by simp[eX]
      rw[hm,hu1 (off+l) (by omega) (by omega)];refine⟨?_,by simp[tv]⟩;rw[e];exact cM.2 (by rw[atb (off+l) (by omega) (by omega)]; simp[AV.cells,e',cZ])
    |c d j=>simp[bJ] at hpi
 have back:∀q,(aD s' q).isSome->eX i b off (u q)=q:=by
  intro q hq
  have hqi:bJ i q=false:=by
   cases e2:bJ i q with
   |true=>rw[ati q e2] at hq; cases hq
   |false=>rfl
  cases hc:dw b off k q with
  |false=>
    rw[hu2 q hc];cases q with
    |s j=>simp only[bJ,decide_eq_false_iff_not] at hqi; simp[eX,hqi]
    |sc j l=>simp only[bJ,decide_eq_false_iff_not] at hqi; simp[eX,hqi]
    |c d j=>rfl
  |true=>
    cases q with
    |s j=>simp[dw] at hc
    |sc j l=>simp[dw] at hc
    |c d j=>
      simp only[dw,ae,decide_eq_true_eq] at hc;obtain⟨rfl,h1,h2⟩:=hc;rw[hu1 j h1 h2];rcases ame with⟨ds,rfl⟩|⟨_,hc1,hp1⟩
      ·simp only[tv,eX,if_true];rw[show off+(j-off)=j by omega]
      ·rw[hp1];have:k=1:=by rw[<-hk,hc1]; rfl
       simp only[eX,if_true];rw[show off=j by omega]
 have hlen:s'.H.length=s.H.length:=by rw[hH,bI,gk]
 obtain⟨N',fy,hN⟩:∃N':Names,N'.β=N.β/\∀ q,N'.ν q=N.ν (u q):=⟨⟨N.β,fun q=>N.ν (u q)⟩,rfl,fun _=>rfl⟩;have kW:∀p,(aD s p).isSome->dw b off k p=false->N'.ν (eX i b off p)=N.ν p:=fun p hp hc=>by rw[hN,(own2 p hp hc).2]
 have bor1:∀{r x},at_ s r=some x->(∀p∈aU x,N'.ν (eX i b off p)=N.ν p)/\c9 (aD s') s'.H.length (cZ (fQ i b off) x):=by
  intro r x hx;refine⟨fun p hp=>kW p (h.eE hx p hp) (hC r x hx p hp),?_⟩;rw[hlen];exact TL hg x (fun p hp=>(own2 p (h.eE hx p hp) (hC r x hx p hp)).1) (h.EH hx)
 have so:∀{q},(aD s' q).isSome->(aD s (u q)).isSome:=by
  intro q hq;obtain⟨⟨k',xs⟩,e⟩:=aV.1 hq;rw[own q k' xs e]; rfl
 have sb:∀{d},(aO s'.H d).isSome->(aO s.H d).isSome:=by
  intro d hd;rw[blkH] at hd;by_cases e:d=b
  ·subst e; rw[hb]; rfl
  ·rw[if_neg e] at hd;cases e2:aO s.H d with
   |none=>rw[e2] at hd; cases hd
   |some _=>rfl
 refine⟨N',fy,⟨fun j=>?_,fun j=>?_,hh,fun q k' xs e=>?_,fun d ds e=>?_,fun p q n e1 e2 e3 e4=>?_,fun d q e1 e2 e3=>?_,fun d e e1 e2 e3=>?_⟩⟩
 ·rw[he];by_cases M0:j=i
  ·rw[if_pos M0]; exact .any _ _
  ·rw[if_neg M0,ht j M0];rw[PV (N:=N) (i:=j) fy hg (by rw[hN,hu2 _ rfl]) (fun l=>by rw[hN,hu2 _ rfl]) (bor1 (r:=.s j) rfl).1];exact ad.rep (h.env j)
 ·rw[he];by_cases M0:j=i
  ·rw[if_pos M0]; trivial
  ·rw[if_neg M0]; exact (bor1 (r:=.s j) rfl).2
 ·have e2:=own q k' xs e;rw[hN];refine (h.own _ k' xs e2).same fun n hn=>?_;rw[eF,if_neg];rintro⟨e3,_⟩;exact h.bx b (u q) (by rw[hb]; rfl) (by rw[e2]; rfl) (by rw[hn,e3])
 ·rw[blkH] at e;by_cases hd:d=b
  ·subst hd;rw[if_pos rfl] at e;cases e;refine⟨kg as off (lK N i v).cells,by rw[fy,eF,if_pos ⟨rfl,halt⟩],?_,fun j x hx=>?_⟩
   ·rw[ib (by rw[tc1,hk]; omega),ib (by rw[cW,cW,hk]; omega),cW,hasl]
   ·rw[mQ (by rw[cW,cW,hk]; exact p7),cW,hk] at hx
    have outside:(dq (fQ i d off) cs)[j]?=some x->dw d off k (.c d j)=false->(∀hj:True,(kg as off (lK N i v).cells)[j]?=as[j]?)->c9 (aD s') s'.H.length x/\∃ a',(kg as off (lK N i v).cells)[j]?=some a'/\Le (kf N' (.c d j) x) a':=by
     intro hx hc hov;rw[ft] at hx;cases Ls:cs[j]? with
     |none=>rw[Ls] at hx; cases hx
     |some x0=>
       rw[Ls] at hx;simp at hx;subst hx;obtain⟨as2,g1,g2,g3⟩:=h.box d cs hb;rw[has] at g1; cases g1;obtain⟨_,a',a1,a2⟩:=g3 j x0 Ls;have vS:=bor1 (r:=.c d j) (x:=x0) (by rw[Au hb]; exact Ls);refine⟨vS.2,a',by rw[hov trivial]; exact a1,?_⟩;rw[Ch (N:=N) (r:=.c d j) fy hg (fun _ _ _=>by rw[hN,hu2 _ hc]) vS.1];exact a2
    split at hx
    ·rename_i c1;exact outside hx (by simp[dw]; omega) (fun _=>by rw[mQ (by rw[tc1,hk]; omega),if_pos c1])
    ·split at hx
     ·rename_i c1 c2;rw[ft] at hx;cases Ls:v.cells[j-off]? with
      |none=>rw[Ls] at hx; cases hx
      |some x0=>
        rw[Ls] at hx;simp at hx;subst hx;have vS:=bor1 (cellAt _ _ Ls);refine⟨vS.2,kf N (tv i v (j-off)) x0,?_,?_⟩
        ·rw[mQ (by rw[tc1,hk]; omega),if_neg c1,if_pos (by rw[tc1,hk]; exact c2),tc2 _ _ Ls];cases v<;>rfl
        ·rw[Ch (N:=N) (r:=tv i v (j-off)) fy hg (fun _ _ _=>by rw[hN,hu1 j (by omega) c2]) vS.1];exact Le.refl _
     ·rename_i c1 c2;exact outside hx (by simp[dw]; omega) (fun _=>by rw[mQ (by rw[tc1,hk]; omega),if_neg c1,if_neg (by rw[tc1,hk]; exact c2)])
  ·rw[if_neg hd] at e;cases lN:aO s.H d with
   |none=>rw[lN] at e; cases e
   |some ds0=>
     rw[lN] at e;simp at e;subst e;obtain⟨as2,g1,g2,g3⟩:=h.box d ds0 lN;refine⟨as2,?_,by rw[cW]; exact g2,fun j x hx=>?_⟩
     ·rw[fy,eF,if_neg]
      ·exact g1
      ·rintro⟨e3,_⟩;exact hd (h.bi d b (by rw[lN]; rfl) (by rw[hb]; rfl) e3)
     ·rw[ft] at hx;cases Ls:ds0[j]? with
      |none=>rw[Ls] at hx; cases hx
      |some x0=>
        rw[Ls] at hx;simp at hx;subst hx;obtain⟨_,a',a1,a2⟩:=g3 j x0 Ls;have vS:=bor1 (r:=.c d j) (x:=x0) (by rw[Au lN]; exact Ls);refine⟨vS.2,a',a1,?_⟩;rw[Ch (N:=N) (r:=.c d j) fy hg (fun _ _ _=>by rw[hN,hu2 _ (by simp[dw,hd])]) vS.1];exact a2
 ·rw[hN] at e3 e4;have:=h.inj _ _ n (so e1) (so e2) e3 e4;rw[<-back p e1,this,back q e2]
 ·rw[hN,fy] at e3;exact h.bx d _ (sb e1) (so e2) e3
 ·rw[fy] at e3;exact h.bi d e (sb e1) (sb e2) e3
end
end Go.Bm

/- Stores. -/
namespace Go.Bm
open Go.Am
section
variable {P:Program} {X:Nat->Prop} {φ φ':dQ} {w w':World} {N N':Names} {s s' s1:St} {Ha Ha':Heap} {t t':Nat->Value} {B:Nat->Nat} {base:Nat} {v va:AV} {v':Value} {c:fe} {o:Oper} {a:Act} {kd:Kd}
theorem ahJ {op:Op} {k:Nat} {x y:E} (h:dz P op (.st k x y)=true):∃ty xo yo,op=.store ty xo yo/\oi P ty k=true/\dF xo x=true/\dF yo y=true:=by
 unfold dz at h;split at h<;>simp_all
 exact⟨_,_,_,⟨rfl,rfl,rfl⟩,h.1.1,h.1.2,h.2⟩
theorem Nx (h:fx X φ w N s Ha t) {i:Nat} (hl:bG (get s.env i).cells=true):bG (lK N i (get s.env i)).cells=true:=by
 obtain⟨h1,h2⟩:=AO N i (get s.env i);refine xx fun d hd=>?_;obtain⟨j,hj⟩:=bH hd;obtain⟨x,hx⟩:=bu (l:=(get s.env i).cells) (i:=j) (by have:=aC hj; omega);rw[h2 j x hx] at hj;cases hj;have hxl:=Az hl x (bt hx);have dG:=IE (zR (h.Ib i)) x (bt hx);by_cases ho:∃k xs,x=.own k xs
 ·obtain⟨k,xs,rfl⟩:=ho;simp only[kf,tJ];split<;>rfl
 ·have:=Re h hxl dG;cases x<;>first|exact this|exact absurd ⟨_,_,rfl⟩ ho
theorem HP:∀{ds:List AV},bZ ds=false->∀x∈ds,∀k xs,x≠.own k xs
 |[],_,x,hx=>by simp at hx
 |y::r,h,x,hx=>by
   intro k xs e;subst e;obtain⟨j,hj⟩:=bH hx;exact DC h j k xs hj
theorem Js {b off k:Nat} {cs:List AV} (hb:aO s.H b=some cs) (ho:bZ ((cs.drop off).take k)=false) {p:Rt} (hp:(aD s p).isSome):dw b off k p=false:=by
 cases p with
 |s j=>rfl
 |sc j l=>rfl
 |c d j=>
   cases e:dw b off k (.c d j) with
   |false=>rfl
   |true=>
     simp only[dw,ae,decide_eq_true_eq] at e;obtain⟨rfl,h1,h2⟩:=e;obtain⟨⟨k',xs⟩,e2⟩:=aV.1 hp;have e3:=cM.1 e2;rw[Au hb] at e3;refine absurd rfl (HP ho (.own k' xs) ?_ k' xs);refine bt (i:=j-off) ?_;rw[bN,if_pos (by omega),br,show off+(j-off)=j by omega];exact e3
theorem TK (hm:P.follows .mixedOrders=true) (h:SB X φ w B base s (tm a)) (hg:Am.e9 (ju c) X φ w) {k b off:Nat} {x y:E} {f:Fq} (hk:dz P o.op (nS (.st k x y))=true) (DU:bC c s.env x=.ptr b off) (hs:Bv s b off k (bC c s.env y)=some (s',f)):nW P X φ w B base s' .undef o a:=by
 obtain⟨N,Ha,h,hbB,hbl⟩:=h;obtain⟨ty,xo,yo,gh,qj,c1,c2⟩:=ahJ hk;have hx:=dg (c:=c) (cA:=ju c) h rfl c1;have hy:=dg (c:=c) (cA:=ju c) h rfl c2;have he:qf X φ w (DQ N s.env) a.tmps:=fun i=>by rw[nO]; exact h.env i
 have rx:=cF (a:=a) he hg c1;have ry:=cF (a:=a) he hg c2;rw[hx.ev,DU] at rx;rw[hy.evQ] at ry;simp only[ig,df] at rx;have hpo:eR X φ w N.β s.H.length s (bC c s.env y) (tm a) (a.eval yo):=eR.quiet h ⟨fun _ _=>rfl,aY _⟩ hy.ok hy.EO ry;generalize bC c s.env y=v at *;unfold Bv at hs;split at hs
 case h_2=>cases hs
 rename_i cs eM;split at hs
 case isFalse=>cases hs
 rename_i anv;obtain⟨q1,q2,q3⟩:=anv;have hblt:=eI eM;split at hs
 ·split at hs
  case h_2=>cases hs
  rename_i M6;split at hs
  case h_2=>cases hs
  rename_i s2 hh;simp at hs;obtain⟨rfl,_⟩:=hs;obtain⟨kX,IK,ad1⟩:=SB.kG b k off (hpo.put fR M6);generalize kG b off k ⟨put s.env fR v,s.H⟩=s1 at hh IK;obtain⟨N1,Ha1,gJ,Cb,hl1⟩:=IK;have hL:=aaf fR b off;unfold eZ at hh;split at hh
  case h_2=>cases hh
  rename_i cs2 UW;split at hh
  case isFalse=>cases hh
  rename_i Lr;obtain⟨r1,r2,r3,r4⟩:=Lr;simp at hh;subst hh;simp only[cE,fZ,dT] at UW r1 r2 r3 r4 ⊢;cases hcs1:aO s1.H b with
  |none=>rw[hcs1] at UW; cases UW
  |some cs1=>
    rw[hcs1] at UW;simp at UW;subst UW;rw[KX hL] at r1 r4;rw[cW] at r1 r2
    have A8:bG (get s1.env fR).cells=true:=by
     refine xx fun d hd=>?_;obtain⟨j,hj⟩:=bH hd;have:=Az r4 (cZ (fQ fR b off) d) (bt (i:=j) (by rw[ft,hj]; rfl));cases d<;>first|rfl|exact this
    have iS:bZ ((cs1.drop off).take k)=false:=by
     have key:∀{l:List AV},bZ (dq (fQ fR b off) l)=false->bZ l=false:=by
      intro l
      induction l with
      |nil=>intro _; rfl
      |cons z r ih=>
        intro h;simp only[dq] at h;cases z<;>simp[cZ,fQ,bZ] at h ⊢<;>exact ih h
     apply key
     have:(dq (fQ fR b off) cs1).drop off=dq (fQ fR b off) (cs1.drop off):=by
      apply eT; intro j; rw[br,ft,ft,br]
     rw[this] at r3
     have h2:(dq (fQ fR b off) (cs1.drop off)).take k=dq (fQ fR b off) ((cs1.drop off).take k):=by
      apply eT; intro j; rw[bN,ft,ft,bN]; split<;>rfl
     rw[h2] at r3;exact r3
    obtain⟨as,g1,g2,g3⟩:=gJ.box b cs1 hcs1;have hβ1:N1.β b=N.β b:=Cb b hblt;refine nW.ghost ad1 ?_;have dG:=adX (P:=P) gh gJ.heap g1 qj (by rw[hβ1]; exact ad1.rep rx) (by have:=gJ.env fR; simp only[if_true] at this; exact this) (by rw[(AO N1 fR _).1]; exact r1) (by omega) (Nx gJ A8);refine nW.of dG fun v' w' φ' r hh ad=>?_
    obtain⟨N',e1,P3⟩:=gJ.aio (i:=fR) (b:=b) (off:=off) (k:=k) (s':=⟨put (k8 (fQ fR b off) s1.env) fR .any,(fI (fQ fR b off) s1.H).set b (some (kg (dq (fQ fR b off) cs1) off (cZ (fQ fR b off) (get s1.env fR)).cells))⟩) (t':=tm a)
     hcs1 g1 r1 r2 (fun rr z hz p hp=>Js hcs1 iS (gJ.eE hz p hp)) ad hh (fun j=>by simp only[bM,dT]) rfl (fun j hj=>by simp[hj])
    refine eR.quiet P3 ⟨fun d hd=>?_,?_⟩ trivial trivial r
    ·rw[e1,Cb d (by omega)]; exact hbB d hd
    ·simp only[bI,gk]; omega
 ·rename_i ajh;simp at hs;obtain⟨rfl,_⟩:=hs;obtain⟨i,hi,_⟩:=Pg s.env [];obtain⟨N1,Ha1,gJ,Cb,hl1⟩:=hpo.put i hi;have hio:bX (get s.env i)=false:=by rw[hi]; rfl
  obtain⟨as,g1,g2,g3⟩:=gJ.box b cs eM;have hβ1:N1.β b=N.β b:=Cb b hblt;have gi:get (put s.env i v) i=v:=by rw[bM,if_pos rfl]
  have A8:bG (get (put s.env i v) i).cells=true:=by rw[gi]; exact q3
  have TV:∀{p},(aD s p).isSome->eX i b off p=p:=by
   intro p hp;have:=xt hio hp;cases p with
   |s j=>simp only[bJ,decide_eq_false_iff_not] at this; simp[eX,this]
   |sc j l=>simp only[bJ,decide_eq_false_iff_not] at this; simp[eX,this]
   |c d j=>rfl
  have dG:=adX (P:=P) gh gJ.heap g1 qj (by rw[hβ1]; exact rx) (by have:=gJ.env i; simp only[if_true] at this; exact this) (by rw[(AO N1 i _).1,gi]; exact q1) (by omega) (Nx gJ A8);refine nW.of dG fun v' w' φ' r hh ad=>?_
  have hnoC:∀r z,at_ ⟨put s.env i v,s.H⟩ r=some z->∀p∈aU z,dw b off k p=false:=by
   intro r z hz p hp;simp only[ae,not_and,Bool.not_eq_true] at ajh;cases hod:bZ ((cs.drop off).take k) with
   |false=>exact Js (s:=⟨put s.env i v,s.H⟩) eM hod (gJ.eE hz p hp)
   |true=>
     have hn:=ajh hod;simp only[Me,fD] at hn;cases r with
     |s j=>
       simp only[at_,bM,ai] at hz;subst hz;split at hp
       ·exact kS hn.1 p hp
       ·exact tA hn.2.1 j p hp
     |sc j l=>
       simp only[at_,bM] at hz;split at hz
       ·rename_i ds px;split at px
        ·subst px;exact kS hn.1 p (by simp only[aU]; exact lZ hz hp)
        ·exact tA hn.2.1 j p (by rw[px]; simp only[aU]; exact lZ hz hp)
       ·cases hz
     |c d l=>
       simp only[at_] at hz;split at hz
       ·rename_i ds px;exact xv hn.2.2 d ds px p (lZ hz hp)
       ·cases hz
  obtain⟨N',e1,P3⟩:=gJ.aio (i:=i) (b:=b) (off:=off) (k:=k) (s':=⟨s.env,s.H.set b (some (kg cs off v.cells))⟩) (t':=tm a) eM g1 (by rw[gi]; exact q1) q2 hnoC ad hh
   (fun j=>by
    simp only[bM];by_cases hj:j=i
    ·rw[if_pos hj,hj]; exact hi
    ·rw[if_neg hj,if_neg hj,tX (vJ i b off) _ (fun p hp=>TV (h.eE (r:=.s j) rfl p hp))])
   (by
    simp only[gi]
    rw[IF (vJ i b off) s.H (fun d ds hd p hp=>TV (by
     obtain⟨j,z,h1,h2⟩:=I3 hp;exact h.eE (r:=.c d j) (by rw[Au hd]; exact h1) p h2)),
     tc (vJ i b off) cs (fun p hp=>TV (by
     obtain⟨j,z,h1,h2⟩:=I3 hp;exact h.eE (r:=.c b j) (by rw[Au eM]; exact h1) p h2)),
     tX (vJ i b off) v (fun p hp=>TV (FW v hpo.ok p hp))])
   (fun j hj=>by simp[hj])
  refine eR.quiet P3 ⟨fun d hd=>?_,?_⟩ trivial trivial r
  ·rw[e1,Cb d (by omega)]; exact hbB d hd
  ·simp only[bI]; omega
end
end Go.Bm

/- Every operation that calls nothing. -/
namespace Go.Bm
open Go.Am
def nM:Kd->Bool
 |.call _ _=>true
 |.jM _ _=>true
 |_=>false
section
variable {P:Program} {X:Nat->Prop} {φ φ':dQ} {w w':World} {N N':Names} {s s' s1:St} {Ha Ha':Heap} {t t':Nat->Value} {B:Nat->Nat} {base:Nat} {v va:AV} {v':Value} {c:fe} {o:Oper} {a:Act} {kd:Kd} {call:Nat->List AV->Heap->Option (AV × Heap)}
theorem ZN (hm:P.follows .mixedOrders=true) (h:SB X φ w B base s (tm a)) (hg:Am.e9 (ju c) X φ w) {k:Nat} {zs:List AV} {x:E} (hk:dz P o.op (nS (.Vv k zs x))=true) (DU:(∃k',bC c s.env x=.own k' [])\/∃ k',bC c s.env x=.list k' []):nW P X φ w B base s .undef o a:=by
 obtain⟨N,Ha,h,hb⟩:=h;obtain⟨_,o1,h1⟩:=ahX hk;have hx:=dg (c:=c) (cA:=ju c) h rfl h1;refine nW.of (oh (va:=.undef) (Ha':=Ha) hm h hg hk (fl:=.wr Ha.length []) ?_) fun v' w' φ' r hh ad=>?_
 ·rcases DU with⟨k',e⟩|⟨k',e⟩<;>simp only[nS,gU,hx.ev,e,ig,df]
 ·exact eR.quiet (h.m6 ad hh h.own (fun _ _=>rfl)) hb trivial trivial r
theorem agP (hm:P.follows .mixedOrders=true) (h:SB X φ w B base s (tm a)) (hg:Am.e9 (ju c) X φ w) {n m b off:Nat} {x:E} {hi:Option E} {cs:List AV} (hk:dz P o.op (nS (.Nd n x hi))=true) (e1:bC c s.env x=.ptr b off) (lN:DK c s.env n n hi=some m) (hbk:aO s.H b=some cs) (hl:off+n<=cs.length):nW P X φ w B base s (.sl 1 b off m) o a:=by
 obtain⟨N,Ha,h,hb⟩:=h;obtain⟨⟨o1,h1⟩,h2⟩:=aa0 hk;have hx:=dg (c:=c) (cA:=ju c) h rfl h1;have g2:=XH (cA:=ju c) h rfl h2 lN;obtain⟨as,a1,a2,_⟩:=h.box b cs hbk;refine nW.of (oh (va:=.sl 1 (N.β b) off m) (Ha':=Ha) hm h hg hk (fl:=.rd (N.β b)) ?_) fun v' w' φ' r hh ad=>?_
 ·simp only[nS,gU,hx.ev,e1,ig,df,g2,a1,a2];rw[if_pos hl]
 ·exact eR.quiet (h.m6 ad hh h.own (fun _ _=>rfl)) hb (eI hbk) trivial r
theorem ae9 {k off:Nat} {xs ys:List AV} (h1:∀x∈xs,x.cells.length=k) (h2:∀y∈ys,y.cells.length=k):aI (kg xs off ys)=kg (aI xs) (off*k) (aI ys):=by
 unfold kg;rw[lj,lj,Be h1,Po h1,iq h2,cT]
theorem ad5 (hm:P.follows .mixedOrders=true) (h:SB X φ w B base s (tm a)) (hg:Am.e9 (ju c) X φ w) {k off n:Nat} {x y:E} (hk:dz P o.op (nS (.copy k x y))=true) {p:Rt} {xs ys:List AV} (DU:bC c s.env x=.eE k p off n) (hp:aD s p=some (k,xs)) (hle:off+n<=xs.length) (hn0:n≠0) (hy:cont s k (bC c s.env y)=some ys) (A8:bG (aI ys)=true):nW P X φ w B base (setAt s p (.own k (kg xs off (ys.take (min ys.length n))))) (.int .i64 (min ys.length n:Nat)) o a:=by
 obtain⟨N,Ha,h,hb⟩:=h;obtain⟨⟨o1,h1⟩,o2,h2⟩:=Vy hk;have hx:=dg (c:=c) (cA:=ju c) h rfl h1;have dG:=hx.ok;rw[DU] at dG;obtain⟨news,n1,n2,n3,n4,n5⟩:=IZ h hg h2 hy A8;have fc:=h.own p k xs hp;rcases uM h dG with⟨b,hn,e2⟩|⟨_,_,UR,_⟩
 case inr=>exact absurd UR hn0
 rw[hn] at fc;obtain⟨cs,q1,q2,q3,q4⟩:=fc
 have hlk:off*k+n*k<=cs.length:=by
  have:=bS k hle;rw[cT] at this; omega
 generalize hm2:min ys.length n=m;have hm3:m<=n/\m<=ys.length:=by omega
 have hmk:m*k<=n*k:=bS k hm3.1
 have hml:(news.take (m*k)).length=m*k:=by
  rw[bF,n2];have:=bS k hm3.2;omega
 have Sk:∀z∈ys.take m,z.cells.length=k:=fun z hz=>n3 z (dA hz);have UU:aI (ys.take m)=(aI ys).take (m*k):=Be n3 m;have hyl:(ys.take m).length=m:=by rw[bF]; omega
 have hfl2:(aI (ys.take m)).length=m*k:=by rw[iq Sk,hyl]
 have hxk:off*k+m*k<=(aI xs).length:=by
  rw[iq q3];have:=bS k hle;rw[cT] at this; omega
 refine nW.of (oh (va:=.int .i64 (m:Nat)) (Ha':=Ha.set b (some (kg cs (off*k) (news.take (m*k))))) hm h hg hk (fl:=.wr Ha.length [b]) ?_) fun v' w' φ' r hh ad=>?_
 ·simp only[nS,gU,n1,hx.ev,DU,ig,e2,q1,hm2];rw[if_pos ⟨trivial,hlk,n4⟩]
 have hnew:pd (Ha.set b (some (kg cs (off*k) (news.take (m*k))))) (some b) k (kg xs off (ys.take m)):=by
  refine⟨kg cs (off*k) (news.take (m*k)),by rw[eF,if_pos ⟨rfl,eI q1⟩],?_,?_,?_⟩
  ·rw[ib (by rw[hyl]; omega),ib (by rw[hml]; omega)]; exact q2
  ·intro z hz;unfold kg at hz;simp only[aG] at hz;rcases hz with (hz|hz)|hz
   ·exact q3 z (dA hz)
   ·exact Sk z hz
   ·exact q3 z (dB hz)
  ·intro i d hd;rw[ae9 q3 Sk,mQ (by rw[hfl2]; exact hxk),hfl2] at hd;rw[mQ (by rw[hml]; omega),hml];split
   ·rename_i hc; rw[if_pos hc] at hd; exact q4 i d hd
   ·rename_i hc;rw[if_neg hc] at hd;split
    ·rename_i Lr;rw[if_pos Lr,UU,bN,if_pos (by omega)] at hd;obtain⟨f1,e,f2,f3,f4⟩:=n5 _ d hd;exact⟨f1,e,by rw[bN,if_pos (by omega)]; exact f2,f3,f4⟩
    ·rename_i Lr; rw[if_neg Lr] at hd; exact q4 i d hd
 obtain⟨gJ,kb⟩:=h.upd (xs':=kg xs off (ys.take m)) hp hn (ib (by rw[hyl]; omega)) ad hh hnew (fun m' FE=>by rw[eF,if_neg (fun e=>FE e.1)]);exact eR.quiet gJ ⟨hb.1,by rw[kb.len]; exact hb.2⟩ trivial trivial r
theorem ad6 (hm:P.follows .mixedOrders=true) (h:SB X φ w B base s (tm a)) (hg:Am.e9 (ju c) X φ w) {k off:Nat} {x y:E} (hk:dz P o.op (nS (.copy k x y))=true) {p:Rt} {ys:List AV} (DU:bC c s.env x=.eE k p off 0) (hy:cont s k (bC c s.env y)=some ys) (A8:bG (aI ys)=true):nW P X φ w B base s (.int .i64 0) o a:=by
 obtain⟨N,Ha,h,hb⟩:=h;obtain⟨⟨o1,h1⟩,o2,h2⟩:=Vy hk;have hx:=dg (c:=c) (cA:=ju c) h rfl h1;have dG:=hx.ok;rw[DU] at dG;obtain⟨news,n1,n2,n3,n4,n5⟩:=IZ h hg h2 hy A8;rcases uM h dG with⟨b,hn,e2⟩|⟨_,_,_,e2⟩
 ·simp only[c9] at dG;obtain⟨xs,hp,hle⟩:=dG;have fc:=h.own p k xs hp;rw[hn] at fc;obtain⟨cs,q1,q2,q3,q4⟩:=fc
  have hlk:off*k+0*k<=cs.length:=by
   have:=bS k hle;rw[cT] at this; omega
  refine nW.of (oh (va:=.int .i64 0) (Ha':=Ha) hm h hg hk (fl:=.wr Ha.length [b]) ?_) fun v' w' φ' r hh ad=>eR.quiet (h.m6 ad hh h.own (fun _ _=>rfl)) hb trivial trivial r;have he:kg cs (off*k) []=cs:=by unfold kg; simp
  have RE:Ha.set b (some cs)=Ha:=by
   apply eT;intro i;rw[bg];split
   ·rename_i hbi; subst hbi; rw[if_pos (eI q1)]; exact (vZ q1).symm
   ·rfl
  simp only[nS,gU,n1,hx.ev,DU,ig,e2,q1];rw[if_pos ⟨trivial,hlk,n4⟩];simp[he,RE]
 ·refine nW.of (oh (va:=.int .i64 0) (Ha':=Ha) hm h hg hk (fl:=.wr Ha.length []) ?_) fun v' w' φ' r hh ad=>eR.quiet (h.m6 ad hh h.own (fun _ _=>rfl)) hb trivial trivial r;simp only[nS,gU,n1,hx.ev,DU,ig,e2]
theorem agz {f:Fq} (h1:nM kd=false) (h2:gH c call s kd=some (v,s',f)):(WE c s.env kd=some v/\s'=s)\/(∃zs,kd=.new zs)\/(∃x,kd=.box x)\/(∃k n zs ps,kd=.dK k n zs ps)\/(∃k zs l cp,kd=.KR k zs l cp)\/(∃ag x,kd=.ld ag x)\/(∃k x y,kd=.st k x y)\/(∃k zs x,kd=.Vv k zs x)\/(∃k x y,kd=.app k x y)\/(∃n x hi,kd=.Nd n x hi)\/(∃k x y,kd=.copy k x y):=by
 cases kd<;>simp only[gH] at h2<;>first
  | (left
     split at h2
     ·rename_i u hu;simp only[ai,aP] at h2;obtain⟨rfl,rfl,_⟩:=h2;exact⟨hu,rfl⟩
     ·cases h2)
  |(right; simp; done)
  |(simp[nM] at h1; done)
theorem akK (hm:P.follows .mixedOrders=true) (h:SB X φ w B base s (tm a)) (hg:Am.e9 (ju c) X φ w) {f:Fq} (hk:dz P o.op (nS kd)=true) (hnc:nM kd=false) (hs:gH c call s kd=some (v,s',f)):nW P X φ w B base s' v o a:=by
 rcases agz hnc hs with⟨h1,rfl⟩|⟨zs,rfl⟩|⟨x,rfl⟩|⟨k,n,zs,ps,rfl⟩|⟨k,zs,l,cp,rfl⟩|⟨ag,x,rfl⟩|⟨k,x,y,rfl⟩|⟨k,zs,x,rfl⟩|⟨k,x,y,rfl⟩|⟨n,x,hi,rfl⟩|⟨k,x,y,rfl⟩
 ·exact ZK hm h hg hk h1
 ·simp only[gH,ai,aP] at hs;obtain⟨rfl,rfl,_⟩:=hs;exact WG hm h hg hk
 ·simp only[gH] at hs;split at hs
  case isFalse=>cases hs
  rename_i hl;simp only[ai,aP] at hs;obtain⟨rfl,rfl,_⟩:=hs;exact agO hm h hg hk hl
 ·simp only[gH] at hs;split at hs
  case h_2=>cases hs
  rename_i cs hf;split at hs
  case isFalse=>cases hs
  rename_i hz;simp only[ai,aP] at hs;obtain⟨rfl,rfl,_⟩:=hs;obtain⟨kX,h1,a1⟩:=SB.eO (iN c s.env ps) h;exact nW.ghost a1 (WJ hm h1 (hg.m6 a1) hk hf hz)
 ·simp only[gH] at hs;split at hs
  case h_2=>cases hs
  rename_i k1 l' k2 cp' e1 e2;split at hs
  case isFalse=>cases hs
  rename_i hc;split at hs
  ·rename_i z hz;simp only[ai,aP] at hs;obtain⟨rfl,rfl,_⟩:=hs;exact agJ hm h hg hk hz e1 e2 hc
  ·simp only[ai,aP] at hs;obtain⟨rfl,rfl,_⟩:=hs;exact agK hm h hg hk e1 e2 hc
 ·simp only[gH] at hs;split at hs
  case h_2=>cases hs
  rename_i u ps hp;split at hs
  case isFalse=>cases hs
  simp only[ai,aP] at hs;obtain⟨rfl,rfl,_⟩:=hs;exact akV hm h hg hk hp
 ·simp only[gH] at hs;split at hs
  ·rename_i k' p i off e0;split at hs
   case h_2=>cases hs
   rename_i s2 f2 h2;simp only[ai,aP] at hs;obtain⟨rfl,rfl,_⟩:=hs;obtain⟨kX,h1,a1⟩:=SB.eO (aU (bC c s.env y)) h;refine nW.ghost a1 ?_;generalize eO (aU (bC c s.env y)) s=s3 at h1 h2;unfold VO at h2;split at h2
   ·rename_i b off' e1;exact TK hm h1 (hg.m6 a1) hk e1 h2
   ·rename_i k2 p2 i2 off2 e1;split at h2
    case h_2=>cases h2
    rename_i k3 xs hp;split at h2
    case isFalse=>cases h2
    rename_i wc;subst wc;split at h2
    case h_2=>cases h2
    rename_i u hu;split at h2
    case isFalse=>cases h2
    rename_i hc;simp only[ai,aP] at h2;obtain⟨rfl,_⟩:=h2;exact akN hm h1 (hg.m6 a1) hk e1 hp hu hc.1 hc.2.1 hc.2.2
   ·cases h2
  ·rename_i hnp;split at hs
   case h_2=>cases hs
   rename_i s2 f2 h2;simp only[ai,aP] at hs;obtain⟨rfl,rfl,_⟩:=hs;unfold VO at h2;split at h2
   ·rename_i b off' e1;exact TK hm h hg hk e1 h2
   ·rename_i k2 p2 i2 off2 e1;exact absurd e1 (hnp k2 p2 i2 off2)
   ·cases h2
 ·simp only[gH] at hs;split at hs
  ·rename_i k' e1;simp only[ai,aP] at hs;obtain⟨rfl,rfl,_⟩:=hs;exact ZN hm h hg hk (.inl ⟨k',e1⟩)
  ·rename_i k' e1;simp only[ai,aP] at hs;obtain⟨rfl,rfl,_⟩:=hs;exact ZN hm h hg hk (.inr ⟨k',e1⟩)
  ·cases hs
 ·simp only[gH] at hs;split at hs
  case h_2=>cases hs
  rename_i ys hy;split at hs
  case isFalse=>cases hs
  rename_i A8;split at hs
  ·rename_i k' e1;split at hs
   case isFalse=>cases hs
   rename_i hl;simp only[ai,aP] at hs;obtain⟨rfl,rfl,_⟩:=hs;exact agR hm h hg hk e1 hy A8 hl
  ·rename_i k' p len e1;split at hs
   case h_2=>cases hs
   rename_i A6 xs hp;split at hs
   case isFalse=>cases hs
   rename_i hc;obtain⟨rfl,rfl,hle,hl⟩:=hc;simp only[ai,aP] at hs;obtain⟨rfl,rfl,_⟩:=hs;exact agQ hm h hg hk e1 hp hle hy A8 hl
  ·cases hs
 ·simp only[gH] at hs;split at hs
  ·rename_i b off e1;split at hs
   case h_2=>cases hs
   rename_i m cs lN hbk;split at hs
   case isFalse=>cases hs
   rename_i hl;simp only[ai,aP] at hs;obtain⟨rfl,rfl,_⟩:=hs;exact agP hm h hg hk e1 lN hbk hl
  ·split at hs
   case h_2=>cases hs
   rename_i u hu;simp only[ai,aP] at hs;obtain⟨rfl,rfl,_⟩:=hs;exact ZK hm h hg hk hu
 ·simp only[gH] at hs;split at hs
  case h_2=>cases hs
  rename_i k' p off n e1;split at hs
  ·rename_i hn;subst hn;split at hs
   case h_2=>cases hs
   rename_i ys hy;split at hs
   case isFalse=>cases hs
   rename_i hc;obtain⟨rfl,hl⟩:=hc;simp only[ai,aP] at hs;obtain⟨rfl,rfl,_⟩:=hs;exact ad6 hm h hg hk e1 hy hl
  ·rename_i hn;split at hs
   case h_2=>cases hs
   rename_i A6 xs ys hp hy;split at hs
   case isFalse=>cases hs
   rename_i hc;obtain⟨rfl,rfl,hle,hl⟩:=hc;simp only[ai,aP] at hs;obtain⟨rfl,rfl,_⟩:=hs;exact ad5 hm h hg hk e1 hp hle hn hy hl
end
end Go.Bm

/- Calls: arguments by value. -/
namespace Go.Bm
open Go.Am
section
variable {P:Program} {X:Nat->Prop} {φ φ':dQ} {w w':World} {N N':Names} {s s' s1:St} {Ha Ha':Heap} {t t':Nat->Value} {B:Nat->Nat} {base:Nat} {v va:AV} {v':Value} {c:fe} {o:Oper} {a:Act} {kd:Kd} {call:Nat->List AV->Heap->Option (AV × Heap)}
theorem H7 (h:cK X φ w Ha) {n k:Nat} {xs:List AV} (ho:pd Ha (some n) k xs) {off len:Nat} (hle:off+len<=xs.length) {v:Value} (r:cB (Rd X φ w) φ (.sl k n (off*k) len) v) :
  cB (Rd X [] w) [] (.list k ((xs.drop off).take len)) v:=by
 obtain⟨g,sz,kV,hX,hc⟩:=sk h ho;have rY:∀a u,Rd X φ w a u->Rd X [] w a u:=fun a u ⟨h1,_,h3⟩=>⟨h1,bQ.nil _,h3⟩;cases r with
 |sl _ _ _ _ _ a cap hb je hh=>
   obtain⟨h1,h2⟩:=hh g sz kV;by_cases h0:len=0
   ·subst h0;simp only[pD];exact .oa _ _ _ _ _ _ (fun _ _=>undef) rfl je (fun x hx=>by simp at hx) (fun i j x c hx=>by simp at hx) (fun i j x c hx=>by simp at hx)
   ·have ha:=h1 (by omega);subst ha
    have hx:∀(i:Nat) (x:AV),((xs.drop off).take len)[i]?=some x->xs[off+i]?=some x/\i<len:=by
     intro i x hx;rw[bN] at hx;split at hx
     ·rw[br] at hx; exact⟨hx,‹_›⟩
     ·cases hx
    obtain⟨cs,q1,q2,hk,q4⟩:=ho;refine .oa _ _ _ _ _ _ (fun i j=>(w.cell? ⟨g,(off+i)*k+j,none⟩).getD undef) (by simp; omega) je (fun x hm=>?_) (fun i j x c hi hj=>?_) (fun i j x c hi hj=>?_)
    ·exact hk x (dB (dA hm))
    ·obtain⟨u,u1,_,_⟩:=hc _ j x c (hx i x hi).1 hj;rw[u1,Addr.jP,show off*k+(i*k+j)=(off+i)*k+j by rw[cT]; omega];exact⟨hX,bQ.nil _,u1⟩
    ·obtain⟨u,u1,_,u3⟩:=hc _ j x c (hx i x hi).1 hj;rw[u1];exact u3.mono rY (.refl _)
mutual
theorem gI (h:fx X φ w N s Ha t):∀(x y:AV),mZ false s x=some y->c9 (aD s) s.H.length x->(pl y=true/\∀ v,cB (Rd X φ w) φ (df N x) v->cB (Rd X [] w) [] y v)
 |.eE k p off len,y,hf,hk=>by
   simp only[mZ] at hf;split at hf
   case h_2=>cases hf
   rename_i k' xs hp;split at hf
   case isFalse=>cases hf
   rename_i hc;obtain⟨rfl,hle⟩:=hc;simp at hf;subst hf;refine⟨rfl,fun v r=>?_⟩;have fc:=h.own p k' xs hp;rcases uM h hk with⟨n,hn,e2⟩|⟨hn,h0,h1,e2⟩
   ·rw[e2] at r;rw[hn] at fc;exact H7 h.heap fc hle r
   ·rw[e2] at r;subst h1;simp only[pD];cases r;exact .kJ _ _
 |.agg cs,y,hf,hk=>by
   simp only[mZ] at hf;split at hf
   case h_2=>cases hf
   rename_i ds hd;simp at hf;subst hf;simp only[c9] at hk;obtain⟨h1,h2,h3⟩:=Ak h cs ds hd hk;refine⟨h1,fun v r=>?_⟩;simp only[df] at r;cases r with
   |agg _ _ vs hl hh=>exact .agg _ _ _ (by rw[h2,<-eG N cs]; exact hl) (fun i d u DA hu=>h3 i d u DA (fun z hz=>hh i z u hz hu))
 |.dJ cs,y,hf,hk=>by
   simp only[mZ] at hf;split at hf
   case h_2=>cases hf
   rename_i ds hd;simp at hf;subst hf;simp only[c9] at hk;obtain⟨h1,h2,h3⟩:=Ak h cs ds hd hk;refine⟨h1,fun v r=>?_⟩;simp only[df] at r;cases r with
   |dJ _ _ vs hl hh=>exact .dJ _ _ _ (by rw[h2,<-eG N cs]; exact hl) (fun i d u DA hu=>h3 i d u DA (fun z hz=>hh i z u hz hu))
 |.func f a b,y,hf,hk=>by
   simp only[mZ] at hf;split at hf
   case h_2=>cases hf
   rename_i a' b' ha hb;simp at hf;subst hf;simp only[c9] at hk;obtain⟨h1,h2,h3⟩:=Ak h a a' ha hk.1;obtain⟨k1,k2,k3⟩:=Ak h b b' hb hk.2;refine⟨by simp only[pl,ae]; exact⟨h1,k1⟩,fun v r=>?_⟩;simp only[df] at r;cases r with
   |func _ _ _ va _ vb HN HM hra hrb=>exact .func _ _ _ _ _ _ (by rw[h2,<-eG N a]; exact HN) (by rw[k2,<-eG N b]; exact HM) (fun i d u DA hu=>h3 i d u DA (fun z hz=>hra i z u hz hu)) (fun i d u DA hu=>k3 i d u DA (fun z hz=>hrb i z u hz hu))
 |.own _ _,y,hf,hk=>by simp[mZ] at hf
 |.fP _ _ _ _,y,hf,hk=>by simp[mZ] at hf
 |.ptr _ _,y,hf,hk=>by simp[mZ] at hf
 |.sl _ _ _ _,y,hf,hk=>by simp[mZ] at hf
 |.any,y,hf,hk=>by simp[mZ] at hf
 |.undef,y,hf,hk=>by simp[mZ] at hf; subst hf; exact⟨rfl,fun v r=>(r.dY rfl []).mono (fun a u ⟨h1,_,h3⟩=>⟨h1,bQ.nil _,h3⟩) (.refl _)⟩
 |.gq,y,hf,hk=>by simp[mZ] at hf; subst hf; exact⟨rfl,fun v r=>(r.dY rfl []).mono (fun a u ⟨h1,_,h3⟩=>⟨h1,bQ.nil _,h3⟩) (.refl _)⟩
 |.gz,y,hf,hk=>by simp[mZ] at hf; subst hf; exact⟨rfl,fun v r=>(r.dY rfl []).mono (fun a u ⟨h1,_,h3⟩=>⟨h1,bQ.nil _,h3⟩) (.refl _)⟩
 |.dO,y,hf,hk=>by simp[mZ] at hf; subst hf; exact⟨rfl,fun v r=>(r.dY rfl []).mono (fun a u ⟨h1,_,h3⟩=>⟨h1,bQ.nil _,h3⟩) (.refl _)⟩
 |.int _ _,y,hf,hk=>by simp[mZ] at hf; subst hf; exact⟨rfl,fun v r=>(r.dY rfl []).mono (fun a u ⟨h1,_,h3⟩=>⟨h1,bQ.nil _,h3⟩) (.refl _)⟩
 |.bool _,y,hf,hk=>by simp[mZ] at hf; subst hf; exact⟨rfl,fun v r=>(r.dY rfl []).mono (fun a u ⟨h1,_,h3⟩=>⟨h1,bQ.nil _,h3⟩) (.refl _)⟩
 |.str _,y,hf,hk=>by simp[mZ] at hf; subst hf; exact⟨rfl,fun v r=>(r.dY rfl []).mono (fun a u ⟨h1,_,h3⟩=>⟨h1,bQ.nil _,h3⟩) (.refl _)⟩
 |.list _ _,y,hf,hk=>by simp[mZ] at hf; subst hf; exact⟨rfl,fun v r=>(r.dY rfl []).mono (fun a u ⟨h1,_,h3⟩=>⟨h1,bQ.nil _,h3⟩) (.refl _)⟩
 |.dV _,y,hf,hk=>by simp[mZ] at hf; subst hf; exact⟨rfl,fun v r=>(r.dY rfl []).mono (fun a u ⟨h1,_,h3⟩=>⟨h1,bQ.nil _,h3⟩) (.refl _)⟩
theorem Ak (h:fx X φ w N s Ha t):∀(xs ys:List AV),Io false s xs=some ys->lJ (aD s) s.H.length xs->(dP ys=true/\ys.length=xs.length/\∀ (i:Nat) (y:AV) (v:Value),ys[i]?=some y->(∀z,(m9 N xs)[i]?=some z->cB (Rd X φ w) φ z v)->cB (Rd X [] w) [] y v)
 |[],ys,hf,_=>by simp[Io] at hf; subst hf; exact⟨rfl,rfl,fun i y v hy=>by simp at hy⟩
 |x::r,ys,hf,hk=>by
   simp only[Io] at hf;split at hf
   case h_2=>cases hf
   rename_i y DP h1 h2;simp at hf;subst hf;obtain⟨a1,a2⟩:=gI h x y h1 hk.1;obtain⟨b1,b2,b3⟩:=Ak h r DP h2 hk.2;refine⟨by simp only[dP,ae]; exact⟨a1,b1⟩,by simp[b2],fun i z v hz hv=>?_⟩;cases i with
   |zero=>simp[m9] at hz hv; subst hz; exact a2 v hv
   |succ i=>simp[m9] at hz hv; exact b3 i z v hz hv
end
theorem ae8 (h:fx X φ w N s Ha t) {r:Rt} {x y:AV} (hx:at_ s r=some x) (hf:Vb x=some y):(pl y=true/\y.cells=[y])/\∀ v,cB (Rd X φ w) φ (kf N r x) v->cB (Rd X [] w) [] y v:=by
 unfold Vb at hf;split at hf
 ·rename_i k xs;simp at hf;subst hf;refine⟨⟨rfl,rfl⟩,fun v rv=>?_⟩;have fc:=h.own r k xs (cM.2 hx);simp only[kf,tJ] at rv;cases hn:N.ν r with
  |none=>
    rw[hn] at fc rv;have:xs=[]:=fc;subst this;simp only at rv;cases rv;exact .kJ _ _
  |some n=>
    rw[hn] at fc rv;have:=H7 (off:=0) (len:=xs.length) h.heap fc (by omega) (v:=v) (by simpa using rv);simpa using this
 ·rename_i iS;split at hf
  case isFalse=>cases hf
  rename_i hz;simp at hf;subst hf;obtain⟨h1,h2⟩:=kD hz;refine⟨⟨h1,by cases x<;>first|rfl|(simp[AV.leaf] at h2; done)⟩,fun v rv=>?_⟩;have e:kf N r x=df N x:=by cases x<;>first|rfl|exact (iS _ _ rfl).elim
  rw[e,lz N x h1] at rv;exact (rv.dY (gG _ h1) []).mono (fun a u ⟨h1,_,h3⟩=>⟨h1,bQ.nil _,h3⟩) (.refl _)
theorem Pl:∀{cs ys:List AV},vT cs=some ys->ys.length=cs.length/\∀ (i:Nat) (y:AV),ys[i]?=some y->∃x,cs[i]?=some x/\Vb x=some y
 |[],ys,h=>by simp[vT] at h; subst h; exact⟨rfl,fun i y hy=>by simp at hy⟩
 |x::r,ys,h=>by
   simp only[vT] at h;split at h
   case h_2=>cases h
   rename_i y DP h1 h2;simp at h;subst h;obtain⟨k1,k2⟩:=Pl h2;refine⟨by simp[k1],fun i z hz=>?_⟩;cases i with
   |zero=>simp at hz; subst hz; exact⟨x,rfl,h1⟩
   |succ i=>simp at hz; obtain⟨u,u1,u2⟩:=k2 i z hz; exact⟨u,by simpa using u1,u2⟩
theorem U8 (h:fx X φ w N s Ha t) {k b off len:Nat} {y:AV} (hf:U9 s k b off len=some y):pl y=true/\∀ v,cB (Rd X φ w) φ (df N (.sl k b off len)) v->cB (Rd X [] w) [] y v:=by
 unfold U9 at hf;split at hf
 case h_2=>cases hf
 rename_i cs hb;split at hf
 case isFalse=>cases hf
 rename_i hc;obtain⟨rfl,hle⟩:=hc;split at hf
 case h_2=>cases hf
 rename_i ys hy;simp at hf;subst hf;refine⟨rfl,fun v r=>?_⟩;obtain⟨as,a1,a2,a3⟩:=h.box b cs hb;obtain⟨g,sz,arr,e,g1,g2,g3,g4,g5,g6⟩:=h.heap.at a1;obtain⟨k1,k2⟩:=Pl hy;have hyl:ys.length=len:=by rw[k1,bF,List.length_drop]; omega
 simp only[df] at r;cases r with
 |sl _ _ _ _ _ a cap iK je hh=>
   obtain⟨h1,h2⟩:=hh g sz g1;by_cases h0:len=0
   ·subst h0;have:ys=[]:=dC hyl;subst this;exact .oa _ _ _ _ _ _ (fun _ _=>undef) rfl je (fun x hx=>by simp at hx) (fun i j x c hx=>by simp at hx) (fun i j x c hx=>by simp at hx)
   ·have ha:=h1 (by omega);subst ha
    have cell:∀(i:Nat) (y:AV),ys[i]?=some y->(pl y=true/\y.cells=[y])/\∃ u,w.cell? ⟨g,off+i,none⟩=some u/\cB (Rd X [] w) [] y u:=by
     intro i y hi;obtain⟨x,x1,x2⟩:=k2 i y hi
     have x3:cs[off+i]?=some x:=by
      rw[bN] at x1;split at x1
      ·rw[br] at x1; exact x1
      ·cases x1
     obtain⟨_,a',b1,b2⟩:=a3 _ x x3;obtain⟨u,u1,u2⟩:=g6 _ a' b1;obtain⟨c1,c2⟩:=ae8 h (r:=.c b (off+i)) (x:=x) (by simp only[at_,hb]; exact x3) x2;exact⟨c1,u,by rw[gN g2]; exact u1,c2 u (b2 _ _ _ u2)⟩
    refine .oa _ _ _ _ _ _ (fun i j=>(w.cell? ⟨g,off+i,none⟩).getD undef) hyl.symm je (fun x hm=>?_) (fun i j x c hi hj=>?_) (fun i j x c hi hj=>?_)
    ·obtain⟨i,hi⟩:=bH hm;rw[(cell i x hi).1.2]; rfl
    ·obtain⟨⟨q1,q2⟩,u,u1,u2⟩:=cell i x hi;rw[q2] at hj;have hj0:j=0:=by have:=aC hj; simp at this; exact this
     subst hj0;rw[u1,Addr.jP,show off+(i*1+0)=off+i by omega];exact⟨g5,bQ.nil _,u1⟩
    ·obtain⟨⟨q1,q2⟩,u,u1,u2⟩:=cell i x hi;rw[q2] at hj;have hj0:j=0:=by have:=aC hj; simp at this; exact this
     subst hj0;simp at hj;subst hj;rw[u1];exact u2
mutual
theorem Va (h:fx X φ w N s Ha t):∀(x y:AV),Xo s x=some y->c9 (aD s) s.H.length x->(pl y=true/\∀ v,cB (Rd X φ w) φ (df N x) v->cB (Rd X [] w) [] y v)
 |.sl k b off len,y,hf,_=>by simp only[Xo] at hf; exact U8 h hf
 |.dJ cs,y,hf,hk=>by
   simp only[Xo] at hf;split at hf
   case h_2=>cases hf
   rename_i ds hd;simp at hf;subst hf;simp only[c9] at hk;obtain⟨h1,h2,h3⟩:=Pj h cs ds hd hk;refine⟨h1,fun v r=>?_⟩;simp only[df] at r;cases r with
   |dJ _ _ vs hl hh=>exact .dJ _ _ _ (by rw[h2,<-eG N cs]; exact hl) (fun i d u DA hu=>h3 i d u DA (fun z hz=>hh i z u hz hu))
 |.any,y,hf,hk=>gI h _ y hf hk
 |.undef,y,hf,hk=>gI h _ y hf hk
 |.gq,y,hf,hk=>gI h _ y hf hk
 |.gz,y,hf,hk=>gI h _ y hf hk
 |.dO,y,hf,hk=>gI h _ y hf hk
 |.int _ _,y,hf,hk=>gI h _ y hf hk
 |.bool _,y,hf,hk=>gI h _ y hf hk
 |.str _,y,hf,hk=>gI h _ y hf hk
 |.agg _,y,hf,hk=>gI h _ y hf hk
 |.list _ _,y,hf,hk=>gI h _ y hf hk
 |.dV _,y,hf,hk=>gI h _ y hf hk
 |.ptr _ _,y,hf,hk=>gI h _ y hf hk
 |.func _ _ _,y,hf,hk=>gI h _ y hf hk
 |.own _ _,y,hf,hk=>gI h _ y hf hk
 |.eE _ _ _ _,y,hf,hk=>gI h _ y hf hk
 |.fP _ _ _ _,y,hf,hk=>gI h _ y hf hk
theorem Pj (h:fx X φ w N s Ha t):∀(xs ys:List AV),Pk s xs=some ys->lJ (aD s) s.H.length xs->(dP ys=true/\ys.length=xs.length/\∀ (i:Nat) (y:AV) (v:Value),ys[i]?=some y->(∀z,(m9 N xs)[i]?=some z->cB (Rd X φ w) φ z v)->cB (Rd X [] w) [] y v)
 |[],ys,hf,_=>by simp[Pk] at hf; subst hf; exact⟨rfl,rfl,fun i y v hy=>by simp at hy⟩
 |x::r,ys,hf,hk=>by
   simp only[Pk] at hf;split at hf
   case h_2=>cases hf
   rename_i y DP h1 h2;simp at hf;subst hf;obtain⟨a1,a2⟩:=Va h x y h1 hk.1;obtain⟨b1,b2,b3⟩:=Pj h r DP h2 hk.2;refine⟨by simp only[dP,ae]; exact⟨a1,b1⟩,by simp[b2],fun i z v hz hv=>?_⟩;cases i with
   |zero=>simp[m9] at hz hv; subst hz; exact a2 v hv
   |succ i=>simp[m9] at hz hv; exact b3 i z v hz hv
end
theorem LC (h:fx X φ w N s Ha t):∀(xs ys:List AV),xh s xs=some ys->lJ (aD s) s.H.length xs->(dP ys=true/\ys.length=xs.length/\∀ (i:Nat) (y:AV) (v:Value),ys[i]?=some y->(∀z,(ja N xs)[i]?=some z->cB (Rd X φ w) φ z v)->cB (Rd X [] w) [] y v)
 |[],ys,hf,_=>by simp[xh] at hf; subst hf; exact⟨rfl,rfl,fun i y v hy=>by simp at hy⟩
 |x::r,ys,hf,hk=>by
   have gen:∀{y DP},(pl y=true/\∀ v,cB (Rd X φ w) φ (df N x) v->cB (Rd X [] w) [] y v)->xh s r=some DP->(∀k l,x≠.own k l)->ys=y::DP->(dP ys=true/\ys.length=(x::r).length/\∀ (i:Nat) (y:AV) (v:Value),ys[i]?=some y->(∀z,(ja N (x::r))[i]?=some z->cB (Rd X φ w) φ z v)->cB (Rd X [] w) [] y v):=by
    intro y DP h1 h2 hn e;subst e;obtain⟨a1,a2⟩:=h1;obtain⟨b1,b2,b3⟩:=LC h r DP h2 hk.2;have ex:ig N x=df N x:=by cases x<;>first|rfl|exact absurd rfl (hn _ _)
    refine⟨by simp only[dP,ae]; exact⟨a1,b1⟩,by simp[b2],fun i z v hz hv=>?_⟩;cases i with
    |zero=>simp[ja] at hz hv; subst hz; rw[ex] at hv; exact a2 v hv
    |succ i=>simp[ja] at hz hv; exact b3 i z v hz hv
   by_cases ho:∃k,x=.own k []
   ·obtain⟨k,rfl⟩:=ho;simp only[xh] at hf;split at hf
    case h_2=>cases hf
    rename_i DP h2;simp at hf;subst hf;obtain⟨b1,b2,b3⟩:=LC h r DP h2 hk.2;refine⟨by simp only[dP,pl,dI]; exact b1,by simp[b2],fun i z v hz hv=>?_⟩;cases i with
    |zero=>
      simp[ja,ig] at hz hv;subst hz;cases hv;exact .kJ _ _
    |succ i=>simp[ja] at hz hv; exact b3 i z v hz hv
   ·have hn:∀k l,x≠.own k l:=by
     rintro k l rfl;cases l with
     |nil=>exact ho ⟨k,rfl⟩
     |cons z l=>simp[xh,mZ] at hf
    by_cases hsl:∃k b off len,x=.sl k b off len
    ·obtain⟨k,b,off,len,rfl⟩:=hsl;simp only[xh] at hf;split at hf
     case h_2=>cases hf
     rename_i y DP h1 h2;simp at hf;exact gen (U8 h h1) h2 hn hf.symm
    rw[xh] at hf
    ·split at hf
     case h_2=>cases hf
     rename_i y DP h1 h2;simp at hf;exact gen (gI h x y h1 hk.1) h2 hn hf.symm
    ·exact fun k e=>ho ⟨k,e⟩
    ·exact fun k b off len e=>hsl ⟨k,b,off,len,e⟩
end
end Go.Bm

/- Calls of functions that see no boxes. -/
namespace Go.Bm
open Go.Am
section
variable {P:Program} {X:Nat->Prop} {φ φ':dQ} {w w':World} {N N':Names} {s s' s1:St} {Ha Ha':Heap} {t t':Nat->Value} {B:Nat->Nat} {base:Nat} {v va:AV} {v':Value} {c:fe} {o:Oper} {a:Act} {kd:Kd} {call:Nat->List AV->Heap->Option (AV × Heap)}
def Nf (X:Nat->Prop) (φ:dQ) (w:World) (B:Nat->Nat) (base:Nat) (r:AV) (H':Heap) (e:Ending) (w':World):Prop:=
 ∃ v' φ',e=.returned v'/\SB X φ' w' B base ⟨[(0,r)],H'⟩ (fun i=>if i=0 then v' else undef)/\fU φ w φ' w'
def ji (P:Program) (c:fe) (call:Nat->List AV->Heap->Option (AV × Heap)):Prop:=
 ∀ f md q,c.fn f=some (md,q)->∀args H r H',(md.sh=true\/H=[])->call f args H=some (r,H')->(md.sh=true->fa H'=true)->∀X φ w B (vargs:Array Value),args.length=vargs.size->SB X φ w B H.length ⟨eC 0 args,H⟩ (fun i=>vargs.getD i undef)->Am.e9 (ju c) X φ w->Calls P f vargs w (Nf X φ w B H.length r H')
theorem BA (dG:gF P c) {f:Nat} {m:Md} {q:fK} (hf:c.fn f=some (m,q)) (vargs:Array Value):(callFunc f vargs).run P w=.ok (.enter f vargs) w:=by
 obtain⟨fn,h1,h2⟩:=dG.fn f m q hf;simp only[cj,ae,bR] at h2;obtain⟨⟨⟨_,Pc⟩,_⟩,vR⟩:=h2
 have hb:fn.body.isNone=false:=by
  cases hfb:fn.body with
  |none=>rw[hfb] at vR; cases vR
  |some b=>rfl
 simp only[callFunc,Sem.run_bind,run_program,Result.andThen_ok,h1,Pc,hb,bz,if_false,Sem.run_pure]
def Sa (R:Addr->Value->Prop) (φ:dQ) (N:Names) (xs:List AV) (vs:Array Value):Prop:=xs.length=vs.size/\∀ (i:Nat) (x:AV) (v:Value),xs[i]?=some x->vs[i]?=some v->cB R φ (ig N x) v
theorem Sa.append {R:Addr->Value->Prop} {xs ys:List AV} {vs us:Array Value} (h:Sa R φ N xs vs) (k:Sa R φ N ys us):Sa R φ N (xs++ys) (vs++us):=by
 refine⟨by simp[h.1,k.1],fun i x v hx hv=>?_⟩;by_cases hi:i<xs.length
 ·rw[aB hi] at hx;rw[uf (by have:=h.1; omega)] at hv;exact h.2 i x v hx hv
 ·rw[aR (by omega)] at hx;rw[Mn (by have:=h.1; omega),<-h.1] at hv;exact k.2 _ x v hx hv
theorem afx {op:Op} {f:Nat} {ys:List E} (h:dz P op (.call f ys)=true):∃ca:Call,op=.call ca/\ca.callee=.value (.func f)/\jW ca.args.toList ys=true:=by
 unfold dz at h;split at h<;>simp_all
theorem abY {op:Op} {y:E} {ys:List E} (h:dz P op (.jM y ys)=true):∃(ca:Call) (x:Operand),op=.call ca/\ca.callee=.value x/\dF x y=true/\jW ca.args.toList ys=true:=by
 unfold dz at h;split at h<;>simp_all
theorem ny (dG:gF P c) (h:fx X φ w N s Ha (tm a)) (hg:Am.e9 (ju c) X φ w) (hk:dz P o.op (nS kd)=true) {f:Nat} {args:List AV} (ha:p9 c s.env kd=some (f,args)) {md:Md} {q:fK} (hf:c.fn f=some (md,q)) :
  ∃ vargs:Array Value,(execOp a.eval o).run P w=.ok (.enter f vargs) w/\Sa (Rd X φ w) φ N args vargs/\lJ (aD s) s.H.length args:=by
 have he:qf X φ w (DQ N s.env) a.tmps:=fun i=>by rw[nO]; exact h.env i
 have afd:∀{os:Array Operand} {xs:List E},jW os.toList (GD xs)=true->Sa (Rd X φ w) φ N (dX c s.env xs) (os.map a.eval)/\lJ (aD s) s.H.length (dX c s.env xs):=by
  intro os xs hk;obtain⟨e1,e2⟩:=vH (cA:=ju c) h rfl hk;obtain⟨hl,hr⟩:=oX (a:=a) he hg hk;rw[e1,jU] at hl;refine⟨⟨by simpa using hl,fun i x v hx hv=>?_⟩,e2⟩;refine hr i (ig N x) v (by rw[e1,pG,hx]; rfl) (by simpa using hv)
 cases kd<;>simp only[p9,reduceCtorEq] at ha
 case call f' ys=>
  simp only[ai,aP] at ha;obtain⟨rfl,rfl⟩:=ha;obtain⟨ca,gh,HO,nN⟩:=afx hk;obtain⟨e1,e2⟩:=afd nN;refine⟨ca.args.map a.eval,?_,e1,e2⟩;simp only[execOp,gh,resolve,HO,Act.eval,Deferred.ofValue,invoke,Sem.run_bind,Sem.run_pure,Result.andThen_ok,Array.empty_append,Array.append_empty];exact BA dG hf _
 case jM y ys=>
  obtain⟨ca,x,gh,HO,hx,nN⟩:=abY hk;have ho:=dg (c:=c) (cA:=ju c) h rfl hx;have rx:=cF (a:=a) he hg hx;rw[ho.ev] at rx;have MZ:=ho.ok;cases e:bC c s.env y<;>rw[e] at ha rx MZ<;>try (simp at ha; done)
  rename_i fn as bs;cases fn<;>simp only[reduceCtorEq] at ha
  rename_i f';split at ha
  ·cases ha
  rename_i iS;simp only[gM,not_or,Bool.not_eq_true] at iS;simp only[ai,aP] at ha;obtain⟨rfl,rfl⟩:=ha;obtain⟨e1,e2⟩:=afd nN;simp only[ig,df] at rx;simp only[c9] at MZ;generalize VT:a.eval x=ax at rx;cases rx with
  |func _ _ _ va _ vb HN HM hra hrb=>
    rw[eG] at HN HM;have c1:Sa (Rd X φ w) φ N as va:=⟨HN,fun i x v hx hv=>hra i _ v (by rw[<-lV N iS.1,pG,hx]; rfl) hv⟩;have c3:Sa (Rd X φ w) φ N bs vb:=⟨HM,fun i x v hx hv=>hrb i _ v (by rw[<-lV N iS.2,pG,hx]; rfl) hv⟩;refine⟨va++ca.args.map a.eval++vb,?_,(c1.append e1).append c3,s8 (s8 MZ.1 e2) MZ.2⟩;simp only[execOp,gh,resolve,HO,VT,Deferred.ofValue,invoke,Sem.run_bind,Sem.run_pure,Result.andThen_ok];exact BA dG hf _
mutual
theorem ZT {R:Addr->Value->Prop} {φ:dQ} (N:Names):∀(x:AV) {v:Value},cB R φ (df N x) v->cB R φ (df N (ZU x)) v
 |.eE k p off n,v,r=>by
   unfold ZU;split
   ·rename_i h; subst h;simp only[df] at r ⊢;split at r
    ·cases r with
     |sl _ _ _ _ _ a cap hb hc h=>exact .oa _ _ _ _ _ _ (fun _ _=>undef) rfl hc (fun x hx=>by simp at hx) (fun i j x c hx=>by simp at hx) (fun i j x c hx=>by simp at hx)
    ·cases r; exact .kJ _ _
   ·exact r
 |.agg cs,v,r=>by
   simp only[ZU,df] at r ⊢;cases r with
   |agg _ _ vs hl h=>
     obtain⟨l1,l2⟩:=KC (R:=R) (φ:=φ) N cs;refine .agg _ _ _ (by rw[eG,l1,<-eG N cs]; exact hl) fun i c u hc hu=>?_;rw[nE] at hc;cases e:(EP cs)[i]? with
     |none=>rw[e] at hc; cases hc
     |some y=>
       rw[e] at hc;simp only[dE,ai] at hc;subst hc;obtain⟨x,hx⟩:=bu (l:=cs) (i:=i) (by have:=aC e; omega);exact l2 i x y u hx e (h i _ u (by rw[nE,hx]; rfl) hu)
 |.any,v,r=>r|.undef,v,r=>r|.gq,v,r=>r|.gz,v,r=>r|.dO,v,r=>r
 |.int _ _,v,r=>r|.bool _,v,r=>r|.str _,v,r=>r|.dJ _,v,r=>r
 |.list _ _,v,r=>r|.dV _,v,r=>r|.ptr _ _,v,r=>r|.sl _ _ _ _,v,r=>r
 |.func _ _ _,v,r=>r|.own _ _,v,r=>r|.fP _ _ _ _,v,r=>r
theorem KC {R:Addr->Value->Prop} {φ:dQ} (N:Names):∀(cs:List AV),(EP cs).length=cs.length/\∀ (i:Nat) (x y:AV) (v:Value),cs[i]?=some x->(EP cs)[i]?=some y->cB R φ (df N x) v->cB R φ (df N y) v
 |[]=>⟨rfl,fun i x y v hx=>by simp at hx⟩
 |c::r=>by
   obtain⟨l1,l2⟩:=KC (R:=R) (φ:=φ) N r;refine⟨by simp[EP,l1],fun i x y v hx hy rr=>?_⟩;cases i with
   |zero=>simp[EP] at hx hy; subst hx; subst hy; exact ZT N c rr
   |succ i=>exact l2 i x y v (by simpa using hx) (by simpa[EP] using hy) rr
end
theorem aei {R:Addr->Value->Prop} {φ:dQ} (N:Names) (x:AV) {v:Value} (r:cB R φ (ig N x) v):cB R φ (ig N (ZU x)) v:=by
 by_cases h:∃k xs,x=.own k xs
 ·obtain⟨k,xs,rfl⟩:=h;simpa[ZU] using r
 ·have e1:ig N x=df N x:=by cases x<;>first|rfl|exact absurd ⟨_,_,rfl⟩ h
  have e2:ig N (ZU x)=df N (ZU x):=by
   cases x<;>simp only[ZU]<;>first|rfl|exact absurd ⟨_,_,rfl⟩ h|(split<;>rfl)
  rw[e2];rw[e1] at r;exact ZT N x r
mutual
theorem ale {o:Rt->Option (Nat × List AV)} {nb:Nat}:∀(x:AV),c9 o nb x->c9 o nb (ZU x)
 |.eE k p off n,h=>by
   unfold ZU;split
   ·trivial
   ·exact h
 |.agg cs,h=>by
   simp only[ZU,c9] at h ⊢;exact QY cs h
 |.any,h=>h|.undef,h=>h|.gq,h=>h|.gz,h=>h|.dO,h=>h
 |.int _ _,h=>h|.bool _,h=>h|.str _,h=>h|.dJ _,h=>h
 |.list _ _,h=>h|.dV _,h=>h|.ptr _ _,h=>h|.sl _ _ _ _,h=>h
 |.func _ _ _,h=>h|.own _ _,h=>h|.fP _ _ _ _,h=>h
theorem QY {o:Rt->Option (Nat × List AV)} {nb:Nat}:∀(cs:List AV),lJ o nb cs->lJ o nb (EP cs)
 |[],_=>trivial
 |x::r,h=>⟨ale x h.1,QY r h.2⟩
end
theorem TO:∀(cs:List AV) (i:Nat),(EP cs)[i]?=(cs[i]?).map ZU
 |[],i=>by simp[EP]
 |x::r,i=>by cases i<;>simp[EP,TO r]
theorem xk (dG:gF P c) (h:fx X φ w N s Ha (tm a)) (hg:Am.e9 (ju c) X φ w) (hk:dz P o.op (nS kd)=true) {f:Nat} {args:List AV} (ha:getArgs c s.env kd=some (f,args)) {md:Md} {q:fK} (hf:c.fn f=some (md,q)) :
  ∃ vargs:Array Value,(execOp a.eval o).run P w=.ok (.enter f vargs) w/\Sa (Rd X φ w) φ N args vargs/\lJ (aD s) s.H.length args:=by
 unfold getArgs at ha;cases h0:p9 c s.env kd with
 |none=>rw[h0] at ha; cases ha
 |some z=>
   obtain⟨f0,ajv⟩:=z;rw[h0] at ha;simp only[ai,aP] at ha;obtain⟨rfl,rfl⟩:=ha;obtain⟨vargs,h1,h2,h3⟩:=ny dG h hg hk h0 hf;refine⟨vargs,h1,?_⟩;split
   ·refine⟨⟨?_,fun i x v hx hv=>?_⟩,QY _ h3⟩
    ·have l1:=(KC (R:=Rd X φ w) (φ:=φ) N ajv).1;rw[l1]; exact h2.1
    ·rw[TO] at hx;cases e:ajv[i]? with
     |none=>rw[e] at hx; cases hx
     |some y=>
       rw[e] at hx;simp only[dE,ai] at hx;subst hx;exact aei N y (h2.2 i y v e hv)
   ·exact⟨h2,h3⟩
theorem yS (N:Names) (i:Nat) {x:AV} (h:pl x=true):lK N i x=x:=by
 by_cases ha:∃cs,x=.agg cs
 ·obtain⟨cs,rfl⟩:=ha;simp only[lK];simp only[pl] at h;congr 1;apply eT;intro j;rw[gV];cases hc:cs[j]? with
  |none=>rfl
  |some d=>
    simp only[dE]
    have hd:pl d=true:=by
     have:∀{l:List AV},dP l=true->∀z∈l,pl z=true:=by
      intro l
      induction l with
      |nil=>intro _ z hz; simp at hz
      |cons y r ih=>
        intro h z hz;simp only[dP,ae] at h;rcases aK.1 hz with e|e
        ·subst e; exact h.1
        ·exact ih h.2 z e
     exact this h d (bt hc)
    congr 1;cases d<;>first|exact lz N _ hd|(simp[pl] at hd; done)
 ·have hn:kK x:=fun cs e=>ha ⟨cs,e⟩;cases x<;>first|exact lz N _ h|exact absurd rfl (hn _)|(simp[pl] at h; done)
theorem uH {x:AV} (h:pl x=true):bX x=false:=by
 cases x<;>first|rfl|(simp[pl] at h; done)|skip
 rename_i cs;simp only[pl] at h;simp only[bX]
 induction cs with
 |nil=>rfl
 |cons y r ih=>
   simp only[dP,ae] at h;have h1:=h.1;cases y<;>first|exact ih h.2|(simp[pl] at h1; done)
theorem fv:∀{l:List AV},dP l=true->∀(i:Nat) (z:AV),l[i]?=some z->pl z=true
 |[],_,i,z,hz=>by simp at hz
 |y::r,h,i,z,hz=>by
   simp only[dP,ae] at h;cases i with
   |zero=>simp at hz; subst hz; exact h.1
   |succ i=>exact fv h.2 i z (by simpa using hz)
theorem SB.start {args:List AV} {vargs:Array Value} (hx:∀g,X g->g<w.heap.size) (hp:dP args=true) (hl:args.length=vargs.size) (hr:∀(i:Nat) (x:AV) (v:Value),args[i]?=some x->vargs[i]?=some v->cB (Rd X [] w) [] x v) (B:Nat->Nat) :
  SB X [] w B 0 ⟨eC 0 args,[]⟩ (fun i=>vargs.getD i undef):=by
 have Gv:∀i,get (eC 0 args) i=args[i]?.getD .any:=fun i=>by rw[sy]; simp
 have pq:∀i,pl (get (eC 0 args) i)=true:=fun i=>by
  rw[Gv];cases e:args[i]? with
  |none=>rfl
  |some x=>exact fv hp i x e
 have iS:∀p,aD ⟨eC 0 args,[]⟩ p=none:=by
  intro p;cases p with
  |s i=>exact (eH (s:=⟨eC 0 args,[]⟩) (uH (pq i))).1
  |sc i j=>exact (eH (s:=⟨eC 0 args,[]⟩) (uH (pq i))).2 j
  |c b j=>unfold aD; simp[at_,aO]
 refine⟨⟨fun _=>0,fun _=>none⟩,[],⟨fun i=>?_,fun i=>vI _ (pq i),⟨rfl,hx,fun b cs hb=>by simp at hb,fun b hb=>by simp at hb,fun b b' g sz nF h1=>by simp at h1⟩,fun p k xs e=>?_,fun b cs e=>?_,fun p q n e1=>?_,fun b p e1=>?_,fun b d e1=>?_⟩,fun b hb=>by omega,Ml _⟩
 ·rw[yS _ _ (pq i),Gv];cases e:args[i]? with
  |none=>exact .any _ _
  |some x=>
    obtain⟨v,hv⟩:=dc (l:=vargs) (i:=i) (by have:=aC e; omega);simp only[iQ];rw[bn,hv];exact hr i x v e hv
 ·rw[iS] at e; cases e
 ·simp[aO] at e
 ·rw[iS] at e1; cases e1
 ·simp[aO] at e1
 ·simp[aO] at e1
end
end Go.Bm

/- Calls of functions that see no boxes: what comes back. -/
namespace Go.Bm
open Go.Am
mutual
theorem GH {R R':Addr->Value->Prop} {φ φ':dQ} {N N':Names}:∀x,clean x=true->∀v,cB R φ (df N x) v->cB R' φ' (df N' x) v
 |.list k xs,h,v,r=>by
   simp only[clean,fV] at h;subst h;simp only[df] at r ⊢;cases r with
   |oa _ _ _ a n cap u hn je hk hu hh=>subst hn; exact .oa _ _ _ _ _ _ u rfl je hk (fun i j x c hx=>by simp at hx) (fun i j x c hx=>by simp at hx)
   |kJ=>exact .kJ _ _
 |.agg cs,h,v,r=>by
   simp only[clean] at h;simp only[df] at r ⊢;cases r with
   |agg _ _ vs hl hh=>exact .agg _ _ _ (by rw[eG] at hl ⊢; exact hl) (fun i d u hd hu=>DG cs h i d u hd (fun z hz=>hh i z u hz hu))
 |.dJ cs,h,v,r=>by
   simp only[clean] at h;simp only[df] at r ⊢;cases r with
   |dJ _ _ vs hl hh=>exact .dJ _ _ _ (by rw[eG] at hl ⊢; exact hl) (fun i d u hd hu=>DG cs h i d u hd (fun z hz=>hh i z u hz hu))
 |.own _ _,_,v,_=>.any _ _
 |.dV _,h,_,_=>by simp[clean] at h
 |.any,h,_,_=>by simp[clean] at h
 |.func _ _ _,h,_,_=>by simp[clean] at h
 |.eE _ _ _ _,h,_,_=>by simp[clean] at h
 |.fP _ _ _ _,h,_,_=>by simp[clean] at h
 |.ptr _ _,h,_,_=>by simp[clean] at h
 |.sl _ _ _ _,h,_,_=>by simp[clean] at h
 |.undef,_,v,r=>by simp only[df] at r ⊢; cases r; exact .undef _
 |.gq,_,v,r=>by simp only[df] at r ⊢; cases r; exact .gq _
 |.gz,_,v,r=>by simp only[df] at r ⊢; cases r; exact .gz _
 |.dO,_,v,r=>by simp only[df] at r ⊢; cases r; exact .dO _
 |.int _ _,_,v,r=>by simp only[df] at r ⊢; cases r; exact .int _ _ _
 |.bool _,_,v,r=>by simp only[df] at r ⊢; cases r; exact .bool _ _
 |.str _,_,v,r=>by simp only[df] at r ⊢; cases r; exact .str _ _
theorem DG {R R':Addr->Value->Prop} {φ φ':dQ} {N N':Names}:∀cs,gK cs=true->∀(i:Nat) (d:AV) (u:Value),(m9 N' cs)[i]?=some d->(∀z,(m9 N cs)[i]?=some z->cB R φ z u)->cB R' φ' d u
 |[],_,i,d,u,h,_=>by simp[m9] at h
 |x::r,hc,i,d,u,h,hz=>by
   simp only[gK,ae] at hc;cases i with
   |zero=>simp[m9] at h hz; subst h; exact GH x hc.1 u hz
   |succ i=>simp[m9] at h hz; exact DG r hc.2 i d u h hz
end
mutual
theorem Vw {o:Rt->Option (Nat × List AV)} {nb:Nat}:∀x,clean x=true->c9 o nb x
 |.list _ _,_=>trivial
 |.agg cs,h=>by simp only[clean] at h; exact GI cs h
 |.dJ cs,h=>by simp only[clean] at h; exact GI cs h
 |.own _ _,_=>trivial
 |.dV _,h=>by simp[clean] at h
 |.any,h=>by simp[clean] at h
 |.func _ _ _,h=>by simp[clean] at h
 |.eE _ _ _ _,h=>by simp[clean] at h
 |.fP _ _ _ _,h=>by simp[clean] at h
 |.ptr _ _,h=>by simp[clean] at h
 |.sl _ _ _ _,h=>by simp[clean] at h
 |.undef,_=>trivial
 |.gq,_=>trivial
 |.gz,_=>trivial
 |.dO,_=>trivial
 |.int _ _,_=>trivial
 |.bool _,_=>trivial
 |.str _,_=>trivial
theorem GI {o:Rt->Option (Nat × List AV)} {nb:Nat}:∀cs,gK cs=true->lJ o nb cs
 |[],_=>trivial
 |x::r,h=>by simp only[gK,ae] at h; exact⟨Vw x h.1,GI r h.2⟩
end
theorem Vx {x:AV} (h:clean x=true):∀d∈x.cells,clean d=true:=by
 have all:∀{l:List AV},gK l=true->∀z∈l,clean z=true:=by
  intro l
  induction l with
  |nil=>intro _ z hz; simp at hz
  |cons y r ih=>
    intro h z hz;simp only[gK,ae] at h;rcases aK.1 hz with e|e
    ·subst e; exact h.1
    ·exact ih h.2 z e
 intro d hd;by_cases ha:∃cs,x=.agg cs
 ·obtain⟨cs,rfl⟩:=ha;simp only[clean] at h;exact all h d hd
 ·have:x.cells=[x]:=by cases x<;>first|rfl|exact absurd ⟨_,rfl⟩ ha
  rw[this] at hd;simp at hd;subst hd;exact h
theorem XE {l:List AV} (h:gK l=true):∀z∈l,clean z=true:=by
 induction l with
 |nil=>intro z hz; simp at hz
 |cons y r ih=>
   intro z hz;simp only[gK,ae] at h;rcases aK.1 hz with e|e
   ·subst e; exact h.1
   ·exact ih h.2 z e
theorem AN (N:Names) (i:Nat) {x:AV} (h:bX x=false):lK N i x=df N x:=by
 by_cases ha:∃cs,x=.agg cs
 ·obtain⟨cs,rfl⟩:=ha;simp only[bX] at h;simp only[lK,df];congr 1;apply eT;intro j;rw[gV,nE];cases hc:cs[j]? with
  |none=>rfl
  |some d=>
    simp only[dE];congr 1;have:=HP h d (bt hc);cases d<;>first|rfl|exact absurd rfl (this _ _)
 ·cases x<;>first|rfl|exact absurd ⟨_,rfl⟩ ha|(simp[bX] at h; done)
section
variable {P:Program} {X:Nat->Prop} {φ kX φ':dQ} {w w1 w':World} {N N1 N':Names} {s s' s1:St} {Ha H1 Ha':Heap} {t t1 t':Nat->Value} {B:Nat->Nat} {base:Nat} {v va:AV} {v':Value} {c:fe} {o:Oper} {a:Act} {kd:Kd} {call:Nat->List AV->Heap->Option (AV × Heap)}
theorem ajx (h:fx X φ w N s Ha t) (hb:(∀b,b<base->N.β b=B b)/\base<=s.H.length) (ad:fU [] w kX w1) {k:Nat} {xs:List AV} {H':Heap} (h1:fx X kX w1 N1 ⟨[(0,.own k xs)],H'⟩ H1 t1) (hc:gK xs=true) :
  ∃ φ',eR X φ' w1 B base s (.own k xs) t (t1 0)/\fU φ w φ' w1:=by
 have ho1:aD ⟨[(0,.own k xs)],H'⟩ (.s 0)=some (k,xs):=rfl;have fc:=h1.own (.s 0) k xs ho1;have hr:=h1.env 0;simp only[Am.get,if_true,lK,kf,tJ] at hr;cases hn:N1.ν (.s 0) with
 |none=>
   rw[hn] at fc hr;have hx:xs=[]:=fc;subst hx;refine⟨φ,eR.quiet (h.m6 (.of_same ad) (h.heap.of_same ad) h.own (fun _ _=>rfl)) hb trivial (by simp[EO]) ?_,.of_same ad⟩;simp only at hr;simp only[yT];generalize t1 0=z at hr ⊢;cases hr;exact .dO _
 |some n1=>
   rw[hn] at fc hr;simp only at hr;obtain⟨g,sz,kV,hX,kQ⟩:=sk h1.heap fc;obtain⟨cs,c1,c2,c3,c4⟩:=fc;obtain⟨g',nF,arr,e,f1,f2,f3,f4,f5,f6⟩:=h1.heap.at c1;rw[kV] at f1;cases f1;have hgs:w.heap.size<=g:=Nat.le_of_not_lt fun bD=>(ad.keep g bD (bQ.nil g)).2 ⟨n1,sz,kV⟩;have UU:=iq c3
   have m6:fU φ w (φ++[some (g,sz)]) w1:=by
    refine⟨ad.os,ad.tape,ad.output,ad.drawn,ad.size,fun g0 bD iS=>⟨(ad.keep g0 bD (bQ.nil g0)).1,fun ho=>?_⟩,⟨by simp,fun b p hb hp=>by rwa [aB hb] at hp⟩⟩;rcases rV ho with h2|h2
    ·exact iS h2
    ·simp at h2; omega
   have hh:cK X (φ++[some (g,sz)]) w1 (Ha++[some (aI xs)]):=by
    refine⟨by simp[h.heap.len],fun g0 hg0=>ff (h.heap.FC g0 hg0) ad.size,fun b ds lN=>?_,fun b lN=>?_,fun b b' g0 uV sz1 e1 e2=>?_⟩
    ·by_cases bD:b<Ha.length
     ·rw[aB bD] at lN;obtain⟨g0,uV,VD,e0,p1,p2,p3,p4,p5,p6⟩:=h.heap.live b ds lN;refine⟨g0,uV,VD,e0,by rw[aB (by rw[h.heap.len]; exact bD)]; exact p1,?_,p3,p4,p5,fun i d hd=>?_⟩
      ·rw[(ad.keep g0 (dS.1 p2).1 (bQ.nil g0)).1]; exact p2
      ·obtain⟨u,u1,u2⟩:=p6 i d hd;exact⟨u,u1,m6.rep u2⟩
     ·have DB:b=Ha.length:=by have:=aC lN; simp at this; omega
      subst DB;simp at lN;subst lN;refine⟨g,sz,arr,e,by rw[<-h.heap.len]; simp,f2,f3,by omega,hX,fun i d hd=>?_⟩;obtain⟨i',z,j,z1,z2,z3⟩:=(fS c3).2 i d hd;obtain⟨u,u1,u2,u3⟩:=kQ i' j z d z1 z2;refine⟨u,by rw[gN f2] at u1; rw[z3]; exact u1,?_⟩;have M5:=Vx (XE hc z (bt z1)) d (bt z2);have pq:=(kD u2).1;have:=GH (N:=N) (N':=N) (R':=Rd X (φ++[some (g,sz)]) w1) (φ':=φ++[some (g,sz)]) d M5 u (by rw[lz N _ pq]; exact u3)
      rwa [lz N _ pq] at this
    ·by_cases bD:b<Ha.length
     ·rw[aB bD] at lN;rw[aB (by rw[h.heap.len]; exact bD)];exact h.heap.dead b lN
     ·have DB:b=Ha.length:=by have:=aC lN; simp at this; omega
      subst DB;simp at lN
    ·have new:∀(b g0 uV:Nat),(φ++[some (g,sz)])[b]?=some (some (g0,uV))->(b<φ.length/\φ[b]?=some (some (g0,uV))/\g0<w.heap.size)\/(b=φ.length/\g0=g):=by
      intro b g0 uV hb;by_cases bD:b<φ.length
      ·rw[aB bD] at hb;exact .inl ⟨bD,hb,(h.heap.gQ ⟨b,uV,hb⟩).1⟩
      ·have iK:=aC hb;simp at iK;have DB:b=φ.length:=by omega
       subst DB;simp at hb;exact .inr ⟨rfl,hb.1.symm⟩
     rcases new b g0 uV e1 with⟨l1,q1,g1⟩|⟨l1,g1⟩<;>rcases new b' g0 sz1 e2 with⟨l2,q2,g2⟩|⟨l2,g2⟩
     ·exact h.heap.inj b b' g0 uV sz1 q1 q2
     ·omega
     ·omega
     ·omega
   refine⟨φ++[some (g,sz)],Fb h hb m6 hh (by omega) c3 (fun i d hd=>?_) ?_,m6⟩
   ·obtain⟨i',z,j,z1,z2,z3⟩:=(fS c3).2 i d hd;obtain⟨u,u1,u2,u3⟩:=kQ i' j z d z1 z2;exact⟨u2,d,hd,(kD u2).2,Le.refl _⟩
   ·generalize t1 0=z at hr;cases hr with
    |sl _ _ _ _ _ ad' cap iK je hh'=>
      refine .sl _ _ _ _ _ _ _ (by simp[h.heap.len]) je fun g0 uV e0=>?_;rw[<-h.heap.len] at e0;simp at e0;obtain⟨rfl,rfl⟩:=e0;exact hh' g sz kV
theorem RM {X':Nat->Prop} (hg:Am.e9 (ju c) X φ w) (hx:∀g,X' g->X g\/bQ φ g):Am.e9 (ju c) X' [] w:=fun g=>(hg g).mono (fun a u ⟨h1,h2,h3⟩=>⟨fun h=>(hx _ h).elim h1 h2,bQ.nil _,h3⟩) (.refl _)
theorem WI (dG:gF P c) (eQ:ji P c call) (h:SB X φ w B base s (tm a)) (hg:Am.e9 (ju c) X φ w) (hk:dz P o.op (nS kd)=true) {f:Nat} {args ud:List AV} (ha:getArgs c s.env kd=some (f,args)) {md:Md} {q:fK} (hf:c.fn f=some (md,q)) (kb:md.sh=false) (hz:xh s args=some ud) {r:AV} {H':Heap} (hc:call f ud []=some (r,H')) (hr:TM r=true):nW P X φ w B base s r o a:=by
 obtain⟨N,Ha,h,hb⟩:=h;obtain⟨vargs,mY,hA,Aj⟩:=xk dG h hg hk ha hf;obtain⟨z1,z2,z3⟩:=LC h args ud hz Aj
 have IK:=SB.start (X:=X) (w:=w) (args:=ud) (vargs:=vargs) h.heap.FC z1 (by rw[z2]; exact hA.1) (fun i x v hx hv=>z3 i x v hx (fun z hz=>by
  rw[pG] at hz;cases HR:args[i]? with
  |none=>rw[HR] at hz; cases hz
  |some y=>rw[HR] at hz; simp at hz; subst hz; exact hA.2 i y v HR hv)) (fun _=>0)
 have jr:=eQ f md q hf ud [] r H' (.inr rfl) hc (fun e=>by rw[kb] at e; cases e) X [] w (fun _=>0) vargs (by rw[z2]; exact hA.1) IK (RM hg fun g h=>.inl h);intro K Q hK;unfold Oper.wp;rw[mY,Oper.upon_enter];refine jr.mono ?_;rintro e w1 ⟨v',kX,rfl,⟨N1,H1,gJ,_⟩,ad⟩;unfold TM at hr;simp only[ae] at hr;by_cases ho:∃k xs,r=.own k xs
 ·obtain⟨k,xs,rfl⟩:=ho;obtain⟨φ',hp,ad'⟩:=ajx h hb ad gJ (by simpa[clean] using hr.1);exact hK v' w1 φ' (by simpa using hp) ad'
 ·have iS:bX r=false:=by
   have:=hr.2;cases r<;>first|exact absurd ⟨_,_,rfl⟩ ho|simpa using this
  refine hK v' w1 φ (eR.quiet (h.m6 (.of_same ad) (h.heap.of_same ad) h.own (fun _ _=>rfl)) hb (Vw r hr.1) (nu iS) ?_) (.of_same ad);have r0:=gJ.env 0;simp only[Am.get,if_true] at r0;rw[AN N1 0 iS] at r0;rw[mg N iS];exact GH r hr.1 v' r0
theorem WH (dG:gF P c) (eQ:ji P c call) (h:SB X φ w B base s (tm a)) (hg:Am.e9 (ju c) X φ w) (hk:dz P o.op (nS kd)=true) {f:Nat} {args:List AV} (ha:getArgs c s.env kd=some (f,args)) {md:Md} {q:fK} (hf:c.fn f=some (md,q)) (kb:md.sh=false) (hz:dP (args.map eV)=true) {r:AV} {H':Heap} (hc:call f (args.map eV) []=some (r,H')) (hr:pl r=true):nW P X φ w B base s r o a:=by
 obtain⟨N,Ha,h,hb⟩:=h;obtain⟨vargs,mY,hA,Aj⟩:=xk dG h hg hk ha hf;have rY:∀a u,Rd X φ w a u->Rd (fun g=>X g\/bQ φ g) [] w a u:=fun a u ⟨h1,h2,h3⟩=>⟨fun h=>h.elim h1 h2,bQ.nil _,h3⟩
 have IK:=SB.start (X:=fun g=>X g\/bQ φ g) (w:=w) (args:=args.map eV) (vargs:=vargs) (fun g hg=>hg.elim (h.heap.FC g) (fun ho=>(h.heap.gQ ho).1)) hz (by simpa using hA.1) (fun i x v hx hv=>by
  rw[ct] at hx;cases HR:args[i]? with
  |none=>rw[HR] at hx; cases hx
  |some y=>
    rw[HR] at hx;simp at hx;subst hx;have r0:=hA.2 i y v HR hv;have UP:=fv hz i (eV y) (by rw[ct,HR]; rfl);by_cases ho:∃k,y=.own k []
    ·obtain⟨k,rfl⟩:=ho;simp only[ig] at r0;cases r0;exact .kJ _ _
    ·have hn:eV y=y:=by
      unfold eV;split
      ·rename_i k; exact absurd ⟨k,rfl⟩ ho
      ·rfl
     rw[hn] at UP ⊢;have hy:ig N y=y:=by cases y<;>first|exact lz N _ UP|(simp[pl] at UP; done)
     rw[hy] at r0;exact (r0.dY (gG _ UP) []).mono rY (.refl _)) (fun _=>0)
 have jr:=eQ f md q hf (args.map eV) [] r H' (.inr rfl) hc (fun e=>by rw[kb] at e; cases e) (fun g=>X g\/bQ φ g) [] w (fun _=>0) vargs (by simpa using hA.1) IK (RM hg fun g h=>h);intro K Q hK;unfold Oper.wp;rw[mY,Oper.upon_enter];refine jr.mono ?_;rintro e w1 ⟨v',kX,rfl,⟨N1,H1,gJ,_⟩,ad⟩;have iS:=uH hr;refine hK v' w1 φ (eR.quiet (h.m6 (.of_same ad) (h.heap.of_same ad) h.own (fun _ _=>rfl)) hb (vI r hr) (nu iS) ?_) (.of_same ad);have r0:=gJ.env 0;simp only[Am.get,if_true] at r0;rw[yS N1 0 hr] at r0;rw[mg N iS,lz N _ hr];exact ((r0.dY (gG _ hr) []).mono (fun a u ⟨h1,_,h3⟩=>⟨fun h=>h1 (.inl h),fun h=>h1 (.inr h),h3⟩) (.refl _)).EU φ
end
end Go.Bm

/- Regions in the order of the text; their ends. -/
namespace Go.Bm
open Go.Am
section
variable {P:Program} {X:Nat->Prop} {φ kX φ':dQ} {w w1 w':World} {N1 N':Names} {s s' s1:St} {B:Nat->Nat} {base:Nat} {v va:AV} {v':Value} {c:fe} {o:Oper} {a:Act} {kd:Kd} {call:Nat->List AV->Heap->Option (AV × Heap)}
structure Fz (X:Nat->Prop) (φ:dQ) (w:World) (B:Nat->Nat) (base:Nat) (s:St) (a:Act) (N:Nat):Prop where
 sb:SB X φ w B base s (tm a)
 defers:a.defers=[]
 size:a.tmps.size=N
theorem ajF {a:Act} {d:Option Nat} {v':Value} (hd:∀i,d=some i->i<a.tmps.size) (j:Nat):tm (a.put d v') j=if some j=d then v' else tm a j:=by
 cases d with
 |none=>simp[tm,Act.put]
 |some i=>
   have hi:=hd i rfl;simp only[tm,Act.put,bn];by_cases e:j=i
   ·subst e; simp[hi]
   ·simp[jy (fM e),e]
theorem Fz.put {N:Nat} (h:Fz X φ w B base s a N) (hN:N<=fR) {d:Option Nat} (hd:∀i,d=some i->i<N) (hp:eR X φ' w' B base s1 v (tm a) v') (hs:B8 s1 d v=some s'):∃ql,Fz X ql w' B base s' (a.put d v') N/\fU φ' w' ql w':=by
 obtain⟨ql,h1,a1⟩:=agy (t':=tm (a.put d v')) hp hs (fun e=>by have:=hd fR e; omega) (fun j=>ajF (fun i hi=>by rw[h.size]; exact hd i hi) j);obtain⟨h2,h3⟩:=adG a d v';exact⟨ql,⟨h1,by rw[h3]; exact h.defers,by rw[h2]; exact h.size⟩,a1⟩
theorem eR.undef (h:SB X φ w B base s (tm a)):eR X φ w B base s .undef (tm a) Go.undef:=by
 obtain⟨N,Ha,h,hb⟩:=h;exact eR.quiet h hb trivial trivial (.undef _)
theorem SA {N:Nat} {ops:Array Oper} {q:O} {fl:Fq} (gh:∀v s1 f,gH c call s q.kd=some (v,s1,f)->nW P X φ w B base s1 v o a) (hc:RT P N ops o (Vl q)=true) (hN:N<=fR)
  (hs:tQ c call s q=some (s',fl)) (hr:Fz X φ w B base s a N) {K:Act->World->Prop} {Q:Exit->Act->World->Prop} (hK:∀a' w' φ',Fz X φ' w' B base s' a' N->fU φ w φ' w'->K a' w') :
  if Region.wanted o (yielded ops a.tmps) then o.wp P a w K Q\/(o.asks P a w/\LetsOut Q) else K (a.put o.dst Go.undef) w:=by
 simp only[RT,Vl,ae] at hc;obtain⟨⟨⟨anu,hd⟩,hgd⟩,_⟩:=hc;have hdst:o.dst=q.dst:=of_decide_eq_true anu
 have hd':∀i,o.dst=some i->i<N:=by
  intro i hi;rw[<-hdst,hi] at hd;simpa using hd
 have run:∀{v s1 f fl'},gH c call s q.kd=some (v,s1,f)->Fh s.env q.dst v s1 f=some (s',fl')->o.wp P a w K Q:=by
  intro v s1 f fl' hv hf;unfold Fh at hf;split at hf
  case h_2=>cases hf
  rename_i s2 hp;simp only[ai,aP] at hf;obtain⟨rfl,_⟩:=hf;refine gh v s1 f hv K Q fun v' w' φ' xe ad=>?_;rw[<-hdst] at hp;obtain⟨ql,h1,a1⟩:=hr.put hN hd' xe hp;exact hK _ _ ql h1 (ad.trans a1)
 have no:∀{fl'},Fh s.env q.dst .undef s .no=some (s',fl')->K (a.put o.dst Go.undef) w:=by
  intro fl' hf;unfold Fh at hf;split at hf
  case h_2=>cases hf
  rename_i s2 hp;simp only[ai,aP] at hf;obtain⟨rfl,_⟩:=hf;rw[<-hdst] at hp;obtain⟨ql,h1,a1⟩:=hr.put hN hd' (eR.undef hr.sb) hp;exact hK _ _ ql h1 a1
 have anm:∀(g:Nat),∃N1 Ha,cB (Rd X φ w) φ (lK N1 g (get s.env g)) (tm a g)/\fx X φ w N1 s Ha (tm a):=fun g=>by
  obtain⟨N1,Ha,h,_⟩:=hr.sb;exact⟨N1,Ha,h.env g,h⟩
 unfold tQ at hs;split at hs
 ·rename_i hgn;rw[hgn] at hgd;split at hgd
  ·rename_i h1 _;rw[if_pos (by simp[Region.wanted,h1])];split at hs
   ·rename_i v s1 f hv;exact .inl (run hv hs)
   ·cases hs
  ·rename_i h2; simp at h2
  ·cases hgd
 ·rename_i g want hgn;rw[hgn] at hgd;split at hgd
  ·rename_i h2; simp at h2
  ·rename_i j ain g' anK h1 h2;simp only[ae,decide_eq_true_eq] at hgd;obtain⟨hj,rfl⟩:=hgd;simp at h2;obtain⟨rfl,rfl⟩:=h2;obtain⟨N1,Ha,Lp,_⟩:=anm g;split at hs
   ·rename_i b hb;rw[hb] at Lp;simp only[lK,kf,df] at Lp;have hv:=pH Lp;have hy:yielded ops a.tmps j=some b:=by unfold yielded; rw[hj]; simp only[Option.bind_some]; rw[abL hv]
    by_cases Xi:b=want
    ·subst Xi;rw[if_pos (by simp[Region.wanted,h1,hy])];simp only[if_true] at hs;split at hs
     ·rename_i v s1 f hv;exact .inl (run hv hs)
     ·cases hs
    ·rw[if_neg (by simp[Region.wanted,h1,hy,Xi])];rw[if_neg Xi] at hs;exact no hs
   ·rename_i hb;rw[hb] at Lp;simp only[lK,kf,df] at Lp;generalize hv:tm a g=vg at Lp;cases Lp
    have hy:yielded ops a.tmps j=none:=by
     unfold yielded;rw[hj];simp only[Option.bind_some];rcases Xl hv with h|h<;>rw[h]
    rw[if_neg (by simp[Region.wanted,h1,hy])];exact no hs
   ·cases hs
  ·cases hgd
def PK (P:Program) (c:fe) (call:Nat->List AV->Heap->Option (AV × Heap)):Prop:=
 ∀ X φ w B base s o a kd v s1 f,dz P o.op (nS kd)=true->gH c call s kd=some (v,s1,f)->SB X φ w B base s (tm a)->Am.e9 (ju c) X φ w->nW P X φ w B base s1 v o a
theorem ZI (Gu:PK P c call) {N:Nat} (hN:N<=fR) {ops:Array Oper} {Q:Exit->Act->World->Prop}:∀(l:List Oper) (qs:List O) (k:Nat) (s s':St) (rH:List Fq) (a:Act) (w:World) (φ:dQ),
  (∀j,l[j]?=ops[k+j]?)->tr P N ops l qs=true->nI c call qs s=some (s',rH)->Fz X φ w B base s a N->Am.e9 (ju c) X φ w->(∀a' w' φ',Fz X φ' w' B base s' a' N->fU φ w φ' w'->Q .normal a' w') ->
  wpOps P ops Q (List.range' k l.length) a w
 |[],qs,k,s,s',rH,a,w,φ,_,hc,hs,hr,hg,hQ=>by
   cases qs with
   |nil=>
     simp[nI] at hs;obtain⟨rfl,rfl⟩:=hs;exact hQ a w φ hr (.refl _ _)
   |cons q r=>simp[tr] at hc
 |o::l,qs,k,s,s',rH,a,w,φ,hl,hc,hs,hr,hg,hQ=>by
   cases qs with
   |nil=>simp[tr] at hc
   |cons q r=>
     simp only[tr,ae] at hc;simp only[nI] at hs;split at hs
     case h_2=>cases hs
     rename_i s1 fl1 h1;split at hs
     case h_2=>cases hs
     rename_i s2 fl2 h2;simp at hs;obtain⟨rfl,rfl⟩:=hs;have h0:ops[k]?=some o:=by simpa using (hl 0).symm
     rw[cN,List.range'_succ,wpOps_cons];unfold wpOp;rw[h0]
     have hck:dz P o.op (nS q.kd)=true:=by
      have:=hc.1;simp only[RT,Vl,ae] at this;exact this.2
     refine SA (fun v s1 f hv=>Gu X φ w B base s o a q.kd v s1 f hck hv hr.sb hg) hc.1 hN h1 hr fun a' w' φ' yN k'=>?_;exact ZI Gu hN l r (k+1) s1 s2 fl2 a' w' φ' (fun j=>by have:=hl (j+1); simpa[Nat.add_assoc,Nat.add_comm 1 j] using this) hc.2 h2 yN (hg.m6 k') fun a'' w'' ql h'' A6=>hQ a'' w'' ql h'' (k'.trans A6)
theorem HQ {keep:List Nat}:∀{e:Env},tZ keep e=false->∀i,mem i keep=false->bX (get e i)=false
 |[],_,i,_=>rfl
 |(j,v)::r,h,i,hi=>by
   simp only[tZ,fD] at h;simp only[Am.get];split
   ·rename_i e;subst e;rw[hi] at h;simpa using h.1
   ·exact HQ h.2 i hi
theorem HS (keep:List Nat):∀(env:Env) (i:Nat),get (td keep env) i=if mem i keep=true then get env i else .any
 |[],i=>by simp[td,Am.get]
 |(j,u)::r,i=>by
   have ih:=HS keep r i;unfold td;split
   ·rename_i hm;simp only[Am.get];by_cases e:i=j
    ·subst e; simp[hm]
    ·rw[if_neg e,if_neg e]; exact ih
   ·rename_i hm;rw[ih];simp only[Am.get];by_cases e:i=j
    ·subst e; simp[hm]
    ·rw[if_neg e]
theorem aaP {t:Nat->Value} (h:SB X φ w B base s t) {keep:List Nat} (ho:tZ keep s.env=false):SB X φ w B base (endK base keep s) t:=by
 obtain⟨N,Ha,h,hb,hl⟩:=h
 have h1:fx X φ w N ⟨td keep s.env,s.H⟩ Ha t:=h.keep (fun i=>by
  rw[HS];cases hm:mem i keep with
  |true=>exact .inl (by simp)
  |false=>exact .inr ⟨by simp,HQ ho i hm⟩) rfl
 refine⟨N,Ha,h1.trim (base0:=base) s.H.length,hb,?_⟩
 have len:∀(n:Nat) (H:Heap),base<=H.length->base<=(trim base (td keep s.env) n H).length:=by
  intro n
  induction n with
  |zero=>intro H h; exact h
  |succ n ih=>
    intro H h;simp only[trim];split
    ·rename_i hc;exact ih _ (by simp; omega)
    ·exact h
 exact len _ _ hl
theorem ahy {t:Nat->Value} (h:SB X φ w B base s t) {keep:List Nat} (he:Xr base keep s=some s'):∃φ',SB X φ' w B base s' t/\fU φ w φ' w:=by
 unfold Xr at he;split at he
 ·split at he
  ·cases he
  rename_i ho;simp at he ho;subst he;obtain⟨kX,h1,a1⟩:=SB.pz keep s.env h;exact⟨kX,aaP h1 ho,a1⟩
 ·rename_i ho;simp at he ho;subst he;exact⟨φ,aaP h ho,.refl _ _⟩
end
end Go.Bm

/- A run of the compact code by value is a run of the dump's code. -/
namespace Go.Bm
open Go.Am
section
variable {P:Program} {c:fe}
def Mk (P:Program) (c:fe) (call:Nat->List AV->Heap->Option (AV × Heap)):Prop:=
 ∀ X φ w B base s s' rH a N id ops os un (Q:Exit->Act->World->Prop),N<=fR->tr P N ops ops.toList os=true->oZ un [] [] ops.toList os=true->nI c call os s=some (s',rH)->Pt os rH un=true->Fz X φ w B base s a N->Am.e9 (ju c) X φ w ->
  (∀a' w' φ',Fz X φ' w' B base s' a' N->fU φ w φ' w'->Q .normal a' w')->(Code.region id ops true).wp P Q a w
def VH (P:Program) (c:fe) (n:Nat):Prop:=∀(N base:Nat) (code:Code) (cd:C) (s s':St) (e:Ex),N<=fR->Na P N code cd=true->dm c n base cd s=some (e,s')->∀X φ w B a,Fz X φ w B base s a N->Am.e9 (ju c) X φ w ->
 ∀ Q:Exit->Act->World->Prop,(∀a' w' φ',Fz X φ' w' B base s' a' N->fU φ w φ' w'->Q e.to a' w')->code.wp P Q a w
theorem Jl (H1:∀call,ji P c call->PK P c call) (H2:∀call,ji P c call->Mk P c call) (H3:∀n,VH P c n->ji P c (nV c (dm c n))):∀n,VH P c n
 |0=>fun N base code cd s s' e _ _ h=>by simp[dm] at h
 |n+1=>by
   have ih:=Jl H1 H2 H3 n;have eQ:=H3 n ih;intro N base code cd s s' e hN hc h X φ w B a hr hg Q hQ;unfold Na at hc;split at hc
   case h_1=>simp[dm] at h; obtain⟨rfl,rfl⟩:=h; exact wp_skip (hQ a w φ hr (.refl _ _))
   case h_2=>simp[dm] at h; obtain⟨rfl,rfl⟩:=h; exact wp_ret (hQ a w φ hr (.refl _ _))
   case h_3=>
    simp only[decide_eq_true_eq] at hc;subst hc;simp[dm] at h; obtain⟨rfl,rfl⟩:=h; exact wp_exit (hQ a w φ hr (.refl _ _))
   case h_4=>
    rename_i id ops d os dr un keep;simp only[ae,decide_eq_true_eq] at hc;obtain⟨⟨rfl,eM⟩,ho⟩:=hc;simp only[dm] at h;split at h
    case h_2=>cases h
    rename_i s1 rH hs;split at h
    case isFalse=>cases h
    rename_i hd;split at h
    case h_2=>cases h
    rename_i s2 he;simp at h;obtain⟨rfl,rfl⟩:=h
    have hQ':∀a' w' φ',Fz X φ' w' B base s1 a' N->fU φ w φ' w'->Q .normal a' w':=fun a' w' φ' h k=>by
     obtain⟨ql,h2,a2⟩:=ahy h.sb he;exact hQ a' w' ql ⟨h2,h.defers,h.size⟩ (k.trans a2)
    cases d with
    |false=>
      refine wp_region ?_;rw[List.range_eq_range',<-Array.length_toList];exact ZI (H1 _ eQ) hN ops.toList os 0 s s1 rH a w φ (fun j=>by simp) eM hs hr hg hQ'
    |true=>
      simp at ho;exact H2 _ eQ X φ w B base s s1 rH a N id ops os un Q hN eM ho hs (by simpa using hd) hr hg hQ'
   case h_5=>
    rename_i x y cx cy;simp only[ae] at hc;simp only[dm] at h;refine wp_seq ?_;cases h1:dm c n base cx s with
    |none=>rw[h1] at h; cases h
    |some p=>
      obtain⟨e1,s1⟩:=p;rw[h1] at h;cases e1 with
      |normal=>
        simp only at h;exact ih N base x cx s s1 .normal hN hc.1 h1 X φ w B a hr hg _ fun a' w' φ' yN k=>ih N base y cy s1 s' e hN hc.2 h X φ' w' B a' yN (hg.m6 k) Q fun a'' w'' ql hr'' A6=>hQ a'' w'' ql hr'' (k.trans A6)
      |exit id=>simp at h; obtain⟨rfl,rfl⟩:=h; exact ih N base x cx s s1 _ hN hc.1 h1 X φ w B a hr hg _ fun a' w' φ' yN k=>hQ a' w' φ' yN k
      |ret=>simp at h; obtain⟨rfl,rfl⟩:=h; exact ih N base x cx s s1 _ hN hc.1 h1 X φ w B a hr hg _ fun a' w' φ' yN k=>hQ a' w' φ' yN k
   case h_6=>
    rename_i x ca cb y da db;simp only[ae] at hc;simp only[dm] at h;split at h
    case h_2=>cases h
    rename_i t ht
    have r:a.eval x=.bool t:=by
     obtain⟨N1,Ha,hsim,_⟩:=hr.sb;have ho:=dg (c:=c) (cA:=ju c) hsim rfl hc.1.1;have:=cF (c:=ju c) (env:=DQ N1 s.env) (a:=a) (fun i=>by rw[nO]; exact hsim.env i) hg hc.1.1;rw[ho.ev,ht] at this;exact pH this
    refine wp_cond (t:=t) r ?_;cases t with
    |true=>simp at h ⊢; exact ih N base ca da s s' e hN hc.1.2 h X φ w B a hr hg Q hQ
    |false=>simp at h ⊢; exact ih N base cb db s s' e hN hc.2 h X φ w B a hr hg Q hQ
   case h_7=>
    rename_i i b j x;simp only[ae,decide_eq_true_eq] at hc;obtain⟨rfl,hc⟩:=hc;simp only[dm] at h;refine wp_block ?_;cases h1:dm c n base x s with
    |none=>rw[h1] at h; cases h
    |some p=>
      obtain⟨e1,s1⟩:=p;rw[h1] at h;refine ih N base b x s s1 e1 hN hc h1 X φ w B a hr hg _ fun a' w' φ' yN k=>?_;cases e1 with
      |normal=>simp at h; obtain⟨rfl,rfl⟩:=h; exact hQ a' w' φ' yN k
      |ret=>simp at h; obtain⟨rfl,rfl⟩:=h; exact hQ a' w' φ' yN k
      |exit id=>
        simp only at h;split at h
        ·rename_i tI;simp at h; obtain⟨rfl,rfl⟩:=h;simp only[Ex.to,Exit.inBlock,tI,if_true];exact hQ a' w' φ' yN k
        ·rename_i tI;simp at h; obtain⟨rfl,rfl⟩:=h;simp only[Ex.to,Exit.inBlock,tI,if_false];exact hQ a' w' φ' yN k
   case h_8=>
    rename_i b x;simp only[dm] at h
    have key:∀m,m<=n->∀s a w φ,dm c m base (.loop x) s=some (e,s')->Fz X φ w B base s a N->Am.e9 (ju c) X φ w->(∀a' w' φ',Fz X φ' w' B base s' a' N->fU φ w φ' w'->Q e.to a' w')->LW P b Q a w:=by
     intro m
     induction m with
     |zero=>intro _ s a w φ h; simp[dm] at h
     |succ m ihm=>
       intro hm s a w φ h hr hg hQ;simp only[dm] at h;refine LW.step ?_;have ihb:VH P c m:=Jl H1 H2 H3 m;cases h1:dm c m base x s with
       |none=>rw[h1] at h; cases h
       |some p=>
         obtain⟨e1,s1⟩:=p;rw[h1] at h;refine ihb N base b x s s1 e1 hN hc h1 X φ w B a hr hg _ fun a' w' φ' yN k=>?_;cases e1 with
         |normal=>simp only at h; exact ihm (by omega) s1 a' w' φ' h yN (hg.m6 k) fun a'' w'' ql hr'' A6=>hQ a'' w'' ql hr'' (k.trans A6)
         |exit id=>simp at h; obtain⟨rfl,rfl⟩:=h; exact hQ a' w' φ' yN k
         |ret=>simp at h; obtain⟨rfl,rfl⟩:=h; exact hQ a' w' φ' yN k
    refine LW.loop (LW.step ?_);cases h1:dm c n base x s with
    |none=>rw[h1] at h; cases h
    |some p=>
      obtain⟨e1,s1⟩:=p;rw[h1] at h;refine ih N base b x s s1 e1 hN hc h1 X φ w B a hr hg _ fun a' w' φ' yN k=>?_;cases e1 with
      |normal=>simp only at h; exact key n (aY _) s1 a' w' φ' h yN (hg.m6 k) fun a'' w'' ql hr'' A6=>hQ a'' w'' ql hr'' (k.trans A6)
      |exit id=>simp at h; obtain⟨rfl,rfl⟩:=h; exact hQ a' w' φ' yN k
      |ret=>simp at h; obtain⟨rfl,rfl⟩:=h; exact hQ a' w' φ' yN k
   case h_9=>simp[dm] at h; obtain⟨rfl,rfl⟩:=h; exact wp_label (hQ a w φ hr (.refl _ _))
   case h_10=>
    rename_i b x;simp only[dm] at h;cases n with
    |zero=>simp[dm] at h
    |succ n'=>
      rw[show dm c (n'+1) base .skip s=some (.normal,s) from rfl] at h;simp only at h;refine wp_scope_straight (ih N base b x s s' e hN hc h X φ w B a hr hg _ fun a' w' φ' yN k=>?_);have hq:=hQ a' w' φ' yN k;cases e<;>exact hq
   case h_11=>cases hc
end
end Go.Bm

/- What a function returns. -/
namespace Go.Bm
open Go.Am
section
variable {P:Program} {X:Nat->Prop} {φ kX φ':dQ} {w w1 w':World} {N N1 N':Names} {s s' s1:St} {Ha:Heap} {B:Nat->Nat} {base:Nat} {v va:AV} {v':Value} {c:fe} {a:Act} {call:Nat->List AV->Heap->Option (AV × Heap)}
theorem ajL (h:fx X φ w N s Ha (tm a)) (hg:Am.e9 (ju c) X φ w) {rv:Rv} {x:AV} (hx:resV c s rv=some x):∃xa,resA Ha (DQ N s.env) rv=some xa/\Le (df N x) xa/\c9 (aD s) s.H.length x/\bX x=false:=by
 cases rv with
 |t i=>
   simp only[resV,ai] at hx;subst hx;refine⟨_,rfl,?_,ZM h i,Ua _ _⟩;rw[nO,<-X4];exact Le.refl _
 |c i ag=>
   simp only[resV] at hx;split at hx
   case h_2=>cases hx
   rename_i u ps hp;simp at hx;subst hx;obtain⟨va,fl,e,hle,h2,h3⟩:=ajd (a:=a) h hg (x:=.t i) (o':=.tmp i) (by simp[nT,dF]) hp
   have iS:bX u=false:=by
    have rd:∀{cs:List AV},P9 ag cs=some u->bX u=false:=by
     intro cs hu;unfold P9 at hu;split at hu
     case h_2=>cases hu
     split at hu
     ·cases hu
     rename_i iS;simp at hu iS;subst hu;exact iS
    unfold Dj at hp;split at hp
    ·split at hp
     ·rename_i hu; simp at hp; obtain⟨rfl,_⟩:=hp; exact rd hu
     ·cases hp
    ·split at hp
     ·split at hp
      ·rename_i hu; simp at hp; obtain⟨rfl,_⟩:=hp; exact rd hu
      ·cases hp
     ·cases hp
    ·split at hp
     ·split at hp
      ·split at hp
       ·split at hp
        ·rename_i hu; simp at hp; obtain⟨rfl,_⟩:=hp; exact rd hu
        ·cases hp
       ·cases hp
      ·cases hp
     ·cases hp
    ·cases hp
   rw[mg N iS] at hle;refine⟨va,?_,hle,h2,iS⟩;simp only[nS,nT,gU,Am.ev] at e;simp only[resA];split at e
   ·rename_i cs eM;rw[eM];split at e
    ·rename_i u' RD; simp at e; obtain⟨rfl,_⟩:=e; exact RD
    ·cases e
   ·rename_i b off eM;rw[eM];split at e
    ·rename_i cs hb;simp only[hb];split at e
     ·rename_i u' RD; simp at e; obtain⟨rfl,_⟩:=e; exact RD
     ·cases e
    ·cases e
   ·cases e
theorem Yo (h:fx X φ w N s Ha (tm a)) (hg:Am.e9 (ju c) X φ w):∀{rvs:List Rv} {xs:List AV},rM c s rvs=some xs->∃xas,SP Ha (DQ N s.env) rvs=some xas/\xas.length=xs.length/\(∀(i:Nat) (x y:AV),xs[i]?=some x->xas[i]?=some y->Le (df N x) y)/\lJ (aD s) s.H.length xs/\∀ x∈xs,bX x=false
 |[],xs,hx=>by simp[rM] at hx; subst hx; exact⟨[],rfl,rfl,fun i x y h=>by simp at h,trivial,fun x hx=>by simp at hx⟩
 |r::rs,xs,hx=>by
   simp only[rM] at hx;split at hx
   case h_2=>cases hx
   rename_i u us h1 h2;simp at hx;subst hx;obtain⟨xa,a1,a2,a3,a4⟩:=ajL h hg h1;obtain⟨xas,b1,b2,b3,b4,b5⟩:=Yo h hg h2;refine⟨xa::xas,by simp only[SP,a1,b1],by simp[b2],fun i x y hx hy=>?_,⟨a3,b4⟩,fun x hx=>?_⟩
   ·cases i with
    |zero=>simp at hx hy; subst hx hy; exact a2
    |succ i=>simp at hx hy; exact b3 i x y hx hy
   ·rcases aK.1 hx with e|e
    ·subst e; exact a4
    ·exact b5 x e
theorem ace (h:fx X φ w N s Ha (tm a)) (hg:Am.e9 (ju c) X φ w) {rvs:List Rv} {xs:List AV} (hx:rM c s rvs=some xs):∃xas,SP Ha (DQ N s.env) rvs=some xas/\Le (df N (pF xs)) (pF xas)/\c9 (aD s) s.H.length (pF xs)/\bX (pF xs)=false:=by
 obtain⟨xas,b1,b2,b3,b4,b5⟩:=Yo h hg hx;refine⟨xas,b1,?_⟩
 match xs,xas,b2 with
 |[],[],_=>exact⟨Le.refl _,trivial,rfl⟩
 |[x],[y],_=>exact⟨b3 0 x y rfl rfl,b4.1,b5 x (by simp)⟩
 |x::x2::xs,y::y2::ys,hl=>
   refine⟨fun R φ v r=>?_,b4,rfl⟩;simp only[pF,df] at r ⊢;cases r with
   |dJ _ _ vs Lq hh=>exact .dJ _ _ _ (by rw[eG,<-hl]; exact Lq) (fun i d u hd hu=>by
     rw[nE] at hd;cases hc:(x::x2::xs)[i]? with
     |none=>rw[hc] at hd; cases hd
     |some z=>
       rw[hc] at hd;simp at hd;subst hd;obtain⟨y',DT⟩:=bu (l:=y::y2::ys) (i:=i) (by have:=aC hc; omega);exact b3 i z y' hc DT _ _ _ (hh i y' u DT hu))
theorem SB.val (h:SB X φ w B base s (tm a)) {r:AV} (hp:pl r=true) {v':Value} (hr:cB (Rd X [] w) [] r v') (B':Nat->Nat):∃φ',SB X φ' w B' 0 ⟨[(0,r)],[]⟩ (fun i=>if i=0 then v' else undef)/\fU φ w φ' w:=by
 obtain⟨N,Ha,h,hb⟩:=h
 have iS:∀g,¬bQ (aH φ.length none) g:=fun g ⟨b,sz,e⟩=>by
  rw[iE] at e;split at e<;>simp at e
 refine⟨aH φ.length none,?_,⟨rfl,rfl,rfl,aY _,aY _,fun g hg ho=>⟨rfl,iS g⟩,⟨by simp,fun b p hb e=>by rw[iE] at e; split at e<;>simp at e⟩⟩⟩;have Gv:∀i,get [(0,r)] i=if i=0 then r else .any:=fun i=>by simp only[Am.get]
 have pq:∀i,pl (get [(0,r)] i)=true:=fun i=>by rw[Gv]; split; exact hp; rfl
 have hnoo:∀p,aD ⟨[(0,r)],[]⟩ p=none:=by
  intro p;cases p with
  |s i=>exact (eH (s:=⟨[(0,r)],[]⟩) (uH (pq i))).1
  |sc i j=>exact (eH (s:=⟨[(0,r)],[]⟩) (uH (pq i))).2 j
  |c b j=>unfold aD; simp[at_,aO]
 refine⟨⟨fun _=>0,fun _=>none⟩,aH φ.length none,⟨fun i=>?_,fun i=>vI _ (pq i),⟨by simp,h.heap.FC,fun b cs hb=>?_,fun b hb=>?_,fun b b' g sz nF h1=>?_⟩,fun p k xs e=>?_,fun b cs e=>?_,fun p q n e1=>?_,fun b p e1=>?_,fun b d e1=>?_⟩,fun b hb=>by omega,Ml _⟩
 ·have hr2:cB (Rd X (aH φ.length none) w) (aH φ.length none) r v':=(hr.mono (R':=Rd X (aH φ.length none) w) (fun a u h=>⟨h.1,iS _,h.2.2⟩) (.refl _)).EU _;show cB _ _ (lK _ i (get [(0,r)] i)) (if i=0 then v' else undef);rw[yS _ _ (pq i),Gv];by_cases e:i=0
  ·rw[if_pos e,if_pos e]; exact hr2
  ·rw[if_neg e,if_neg e]; exact .any _ _
 ·rw[iE] at hb; split at hb<;>simp at hb
 ·have:=aC hb;rw[iE];simp at this;rw[if_pos this]
 ·rw[iE] at h1; split at h1<;>simp at h1
 ·rw[hnoo] at e; cases e
 ·simp[aO] at e
 ·rw[hnoo] at e1; cases e1
 ·simp[aO] at e1
 ·simp[aO] at e1
end
end Go.Bm

/- The end of a function that sees no boxes of others. -/
namespace Go.Bm
open Go.Am
section
variable {P:Program} {X:Nat->Prop} {φ kX φ':dQ} {w w1 w':World} {N N1 N':Names} {s s' s1:St} {Ha:Heap} {B:Nat->Nat} {base:Nat} {v va:AV} {v':Value} {c:fe} {a:Act} {call:Nat->List AV->Heap->Option (AV × Heap)}
theorem SB.own1 (h:fx X φ w N s Ha (tm a)) {p:Rt} {k len:Nat} {xs:List AV} (hp:aD s p=some (k,xs)) (hle:len<=xs.length) (hr:cB (Rd X φ w) φ (df N (.eE k p 0 len)) v') (B':Nat->Nat):SB X φ w B' 0 ⟨[(0,.own k (xs.take len))],[]⟩ (fun i=>if i=0 then v' else undef):=by
 have Gv:∀i,get [(0,AV.own k (xs.take len))] i=if i=0 then .own k (xs.take len) else .any:=fun i=>by simp only[Am.get]
 have hlen:(xs.take len).length=len:=by simp; omega
 have fc:∀q k' ys,aD ⟨[(0,.own k (xs.take len))],[]⟩ q=some (k',ys)->q=.s 0/\k'=k/\ys=xs.take len:=by
  intro q k' ys e;have e':=cM.1 e;cases q with
  |s i=>
    simp only[at_,Gv,ai] at e';by_cases hi:i=0
    ·subst hi; simp at e'; exact⟨rfl,e'.1.symm,e'.2.symm⟩
    ·rw[if_neg hi] at e'; cases e'
  |sc i j=>
    simp only[at_,Gv] at e';by_cases hi:i=0
    ·subst hi; simp at e'
    ·rw[if_neg hi] at e'; cases e'
  |c b j=>simp[at_,aO] at e'
 have one:∀{q},(aD ⟨[(0,.own k (xs.take len))],[]⟩ q).isSome->q=.s 0:=by
  intro q hq;obtain⟨⟨k',ys⟩,e⟩:=aV.1 hq;exact (fc q k' ys e).1
 refine⟨⟨N.β,fun q=>N.ν p⟩,Ha,⟨fun i=>?_,fun i=>?_,h.heap,fun q k' ys e=>?_,fun b cs e=>?_,fun q r n e1 e2 _ _=>?_,fun b q e1=>?_,fun b d e1=>?_⟩,fun b hb=>by omega,Ml _⟩
 ·show cB _ _ (lK _ i (get [(0,AV.own k (xs.take len))] i)) (if i=0 then v' else undef);rw[Gv];by_cases e:i=0
  ·rw[if_pos e,if_pos e];simp only[lK,kf,tJ,hlen];simp only[df,qk] at hr;exact hr
  ·rw[if_neg e,if_neg e]; exact .any _ _
 ·show c9 _ _ (get [(0,AV.own k (xs.take len))] i);rw[Gv];split<;>trivial
 ·obtain⟨rfl,rfl,rfl⟩:=fc q k' ys e;exact (h.own p k' xs hp).take
 ·simp[aO] at e
 ·rw[one e1,one e2]
 ·simp[aO] at e1
 ·simp[aO] at e1
theorem ahp (h:fx X φ w N s Ha (tm a)) (hb:(∀b,b<base->N.β b=B b)/\base<=s.H.length) (hv:cB (Rd X φ w) φ (df N v) v') (hk:c9 (aD s) s.H.length v) (iS:bX v=false) {md:Md} {r:AV} {H':Heap} (kb:md.sh=false) (hf:bf md base s v=some (r,H')) (B':Nat->Nat) :
  H'=[]/\∃ φ',SB X φ' w B' 0 ⟨[(0,r)],[]⟩ (fun i=>if i=0 then v' else undef)/\fU φ w φ' w:=by
 have rY:∀a u,Rd X φ w a u->Rd X [] w a u:=fun a u ⟨h1,_,h3⟩=>⟨h1,bQ.nil _,h3⟩;unfold bf at hf;rw[kb] at hf;simp only[bz,if_false] at hf;split at hf
 ·split at hf
  case isFalse=>cases hf
  split at hf
  case h_2=>cases hf
  rename_i r' hr;simp at hf;obtain⟨rfl,rfl⟩:=hf;refine⟨rfl,?_⟩;unfold Sy Sx at hr;split at hr
  ·rename_i k p len;split at hr
   case h_2=>cases hr
   rename_i k' xs hp;split at hr
   case isFalse=>cases hr
   rename_i hc;obtain⟨rfl,hle⟩:=hc;simp at hr;subst hr;exact⟨φ,SB.own1 h hp hle hv B',.refl _ _⟩
  ·simp[bX] at iS
  ·rename_i h1 h2;split at hr
   case isFalse=>cases hr
   rename_i pq;simp at hr;subst hr;rw[lz N _ pq] at hv;exact SB.val (base:=base) (B:=B) ⟨N,Ha,h,hb⟩ pq ((hv.dY (gG _ pq) []).mono rY (.refl _)) B'
 ·split at hf
  case h_2=>cases hf
  rename_i r' hr;simp at hf;obtain⟨rfl,rfl⟩:=hf;obtain⟨p1,p2⟩:=Va h v r' hr hk;exact⟨rfl,SB.val (base:=base) (B:=B) ⟨N,Ha,h,hb⟩ p1 (p2 _ hv) B'⟩
def AD (P:Program) (c:fe):Prop:=∀f g md q,c.orc f=some g->c.fn f=some (md,q)->∀args H r H',(md.sh=true\/H=[])->g args H=some (r,H')->(md.sh=true->fa H'=true)->∀X φ w B (vargs:Array Value),args.length=vargs.size->SB X φ w B H.length ⟨eC 0 args,H⟩ (fun i=>vargs.getD i undef)->Am.e9 (ju c) X φ w->Calls P f vargs w (Nf X φ w B H.length r H')
def ShOK (P:Program) (c:fe) (n:Nat):Prop:=∀f md q,c.fn f=some (md,q)->md.sh=true->∀args H r H',nV c (dm c n) f args H=some (r,H')->fa H'=true->∀X φ w B (vargs:Array Value),args.length=vargs.size->SB X φ w B H.length ⟨eC 0 args,H⟩ (fun i=>vargs.getD i undef)->Am.e9 (ju c) X φ w->Calls P f vargs w (Nf X φ w B H.length r H')
theorem PE (dG:gF P c) (Ai:AD P c) {n:Nat} (hs:VH P c n) (kb:ShOK P c n):ji P c (nV c (dm c n)):=by
 intro f md q hf args H r H' hH h km X φ w B vargs hl IK hg;by_cases hm:md.sh=true
 ·exact kb f md q hf hm args H r H' h (km hm) X φ w B vargs hl IK hg
 have Xa:md.sh=false:=by simpa using hm
 have hH':H=[]:=hH.elim (fun e=>absurd e hm) id;subst hH';unfold nV at h;split at h
 ·rename_i x Bb;unfold QP at Bb;split at Bb
  case h_2=>cases Bb
  rename_i g Sm;rw[h] at Bb;replace h:=Bb;exact Ai f g md q Sm hf args [] r H' (.inr rfl) h km X φ w B vargs hl IK hg
 ·rw[hf] at h;simp only at h;split at h
  case isFalse=>cases h
  rename_i hle;obtain⟨fn,h1,h2⟩:=dG.fn f md q hf;simp only[cj,ae,decide_eq_true_eq] at h2;obtain⟨⟨⟨⟨hn,anq⟩,_⟩,hres⟩,vR⟩:=h2;split at vR
  case h_2=>cases vR
  rename_i code hb;have E3:(vargs++sF (fn.ntmps-vargs.size) undef).size=q.n:=by simp; omega
  have htm:tm { tmps:=vargs++sF (fn.ntmps-vargs.size) undef,defers:=[] }=fun i=>vargs.getD i undef:=by
   funext i;simp only[tm,bn];by_cases hi:i<vargs.size
   ·rw[uf hi]
   ·rw[Mn (by omega),mV];rw[Array.getElem?_eq_none (by omega)];split<;>rfl
  have hS:Fz X φ w B 0 ⟨eC 0 args,[]⟩ { tmps:=vargs++sF (fn.ntmps-vargs.size) undef,defers:=[] } q.n:=⟨by rw[htm]; exact IK,rfl,E3⟩
  have fin:∀{e:Ex} {s:St} {vs:List AV},dm c n 0 q.body ⟨eC 0 args,[]⟩=some (e,s)->(e=.ret\/e=.normal)->rM c s q.res=some vs->bf md 0 s (pF vs)=some (r,H')->Calls P f vargs w (Nf X φ w B 0 r H'):=by
   intro e s vs he hre Si Xe;refine calls_of_wp h1 hb (hs q.n 0 code q.body _ s e (by omega) vR he X φ w B _ hS hg _ fun a' w' φ' hS' xf=>?_);obtain⟨N,Ha,AR,hbB⟩:=hS'.sb;obtain⟨xas,x1,x2,x3,x4⟩:=ace AR (hg.m6 xf) Si;obtain⟨v,k1,k2⟩:=GP (P:=P) (s:=⟨DQ N s.env,Ha⟩) (ts:=a'.tmps) (fun i=>by rw[nO]; exact AR.env i) AR.heap hres x1;obtain⟨rfl,mW,s2,a2⟩:=ahp AR hbB (x2 _ _ _ k2) x3 x4 Xa Xe B;have:bodyPost P fn (Nf X φ w B 0 r []) .ret a' w':=⟨hS'.defers,v,k1,v,mW,rfl,s2,xf.trans a2⟩;rcases hre with rfl|rfl
   ·exact this
   ·exact this
  split at h
  ·rename_i s he;split at h
   ·rename_i vs Si;exact fin he (.inl rfl) Si h
   ·cases h
  ·rename_i s he;split at h
   ·rename_i vs Si;exact fin he (.inr rfl) Si h
   ·cases h
  ·cases h
end
end Go.Bm

/- Every operation, given the calls that share boxes. -/
namespace Go.Bm
open Go.Am
section
variable {P:Program} {c:fe} {call:Nat->List AV->Heap->Option (AV × Heap)}
def Mj (P:Program) (c:fe) (call:Nat->List AV->Heap->Option (AV × Heap)):Prop:=
 ∀ X φ w B base s (o:Oper) (a:Act) kd f args md q r H',dz P o.op (nS kd)=true->SB X φ w B base s (tm a)->Am.e9 (ju c) X φ w->getArgs c s.env kd=some (f,args)->c.fn f=some (md,q)->md.sh=true->cX (args.map eV)=true->fa s.H=true->aU r=[]->bX r=false->fa H'=true->call f (args.map eV) s.H=some (r,H')->nW P X φ w B base ⟨k8 iX s.env,H'⟩ r o a
theorem aby (dG:gF P c) (eQ:ji P c call) (kb:Mj P c call) {X:Nat->Prop} {φ:dQ} {w:World} {B:Nat->Nat} {base:Nat} {s s1:St} {o:Oper} {a:Act} {kd:Kd} {v:AV} {fq:Fq} (hk:dz P o.op (nS kd)=true) (h:SB X φ w B base s (tm a)) (hg:Am.e9 (ju c) X φ w) (hs:eU c call kd s=some (v,s1,fq)):nW P X φ w B base s1 v o a:=by
 unfold eU at hs;split at hs
 ·cases hs
 rename_i f args ha;split at hs
 ·cases hs
 rename_i md q hf;split at hs
 ·rename_i hmd;simp only[ae,bR] at hmd;split at hs
  ·cases hs
  rename_i ud hz;split at hs
  case h_2=>cases hs
  rename_i r H' hc;split at hs
  case isFalse=>cases hs
  rename_i hr;simp only[ai,aP] at hs;obtain⟨rfl,rfl,_⟩:=hs;exact WI dG eQ h hg hk ha hf hmd.2 hz hc hr
 ·obtain⟨kX,h1,a1⟩:=SB.eO (dL args) h;refine nW.ghost a1 ?_;split at hs
  ·cases hs
  rename_i f1 qd M7;split at hs
  case isFalse=>cases hs
  rename_i hff;subst hff;split at hs
  ·rename_i hm;split at hs
   case isFalse=>cases hs
   rename_i hp;split at hs
   case h_2=>cases hs
   rename_i r H' hc;split at hs
   case isFalse=>cases hs
   rename_i hr;simp only[ai,aP] at hs;obtain⟨rfl,rfl,_⟩:=hs;simp only[ae,bR] at hp hr;exact kb X kX w B base _ o a kd f1 qd md q r H' hk h1 (hg.m6 a1) M7 hf hm hp.1 hp.2 (fV.1 hr.1.1) hr.1.2 hr.2 hc
  ·rename_i hm;split at hs
   case isFalse=>cases hs
   rename_i hp;split at hs
   case h_2=>cases hs
   rename_i r H' hc;split at hs
   case isFalse=>cases hs
   rename_i hr;simp only[ai,aP] at hs;obtain⟨rfl,rfl,_⟩:=hs;exact WH dG eQ h1 (hg.m6 a1) hk M7 hf (by simpa using hm) hp hc hr
def R9 (w:World) (og:Option Nat) (k:Nat) (ys:List AV) (e:Ending) (w':World):Prop:=
 ∃ (g' LY:Nat) (arr':Array Value) (e':TypeId),e=.returned (.slice (some ⟨g',0,none⟩) ys.length LY)/\ys.length<=LY/\LY*k<=arr'.size/\w'.heap[g']?=some (.cells arr' e' (0,0)) /\
  (∀(i:Nat) (d:AV),(aI ys)[i]?=some d->∃u,arr'[i]?=some u/\cB (fun _ _=>False) [] d u)/\(og=some g'\/w.heap.size<=g') /\
  (∀h,h<w.heap.size->og≠some h->w'.heap[h]?=w.heap[h]?)/\w'.os=w.os/\w'.tape=w.tape/\w'.output=w.output/\w.drawn<=w'.drawn/\w.heap.size<=w'.heap.size
abbrev R7 (T:Nat->Nat->Addr->Value->Prop) (w:World) (og:Option Nat) (k:Nat) (ys:List AV) (e:Ending) (w':World):Prop:=
 ∃ (g' LY:Nat) (arr':Array Value) (e':TypeId) (a':Addr),e=.returned (.slice (some a') ys.length LY)/\(0<LY->a'=⟨g',0,none⟩)/\ys.length<=LY/\LY*k<=arr'.size/\w'.heap[g']?=some (.cells arr' e' (0,0)) /\
  (∀(i:Nat) (d:AV),(aI ys)[i]?=some d->∃u,arr'[i]?=some u/\cB (T g' arr'.size) [] d u)/\(og=some g'\/w.heap.size<=g') /\
  (∀h,h<w.heap.size->og≠some h->w'.heap[h]?=w.heap[h]?)/\w'.os=w.os/\w'.tape=w.tape/\w'.output=w.output/\w.drawn<=w'.drawn/\w.heap.size<=w'.heap.size
def VI (w:World) (og:Option Nat) (k:Nat) (ys:List AV) (e:Ending) (w':World):Prop:=
 R7 (fun _ _ _ _=>False) w og k ys e w' \/
 (og=none/\ys=[]/\e=.returned (.slice none 0 0)/\fU [] w [] w')
theorem R9.n {w:World} {og:Option Nat} {k:Nat} {ys:List AV} {e:Ending} {w':World} (h:R9 w og k ys e w'):VI w og k ys e w':=by
 obtain⟨g',LY,arr',e',h1,h2⟩:=h;exact .inl ⟨g',LY,arr',e',_,h1,fun _=>rfl,h2⟩
def XU (w:World) (og:Option Nat) (a:Addr) (u:Value):Prop:=og≠some a.block/\w.cell? a=some u/\∃ arr te,w.heap[a.block]?=some (.cells arr te (0,0))
def abe (w:World) (og:Option Nat) (a:Addr) (u:Value):Prop:=og≠some a.block/\w.cell? a=some u
def BesE:AV->World->Option Nat->Addr->Value->Prop
 |.func _ _ _=>abe
 |_=>XU
def XP (P:Program) (f:Nat) (g:Nat->List AV->List AV->Option (List AV)) (Q:World->Option Nat->Nat->List AV->Ending->World->Prop):Prop:=∀k xs es ys,g k xs es=some ys->(∀x∈xs,x.cells.length=k)->(∀x∈xs,∀d∈x.cells,fz d=true) ->
 ((∀y∈ys,y.cells.length=k)/\∀ y∈ys,∀d∈y.cells,fz d=true) /\
 (xs=[]->∀w (vargs:Array Value),es.length+1=vargs.size->vargs[0]?=some (.slice none 0 0)->(∀(i:Nat) (e:AV) (v:Value),es[i]?=some e->vargs[i+1]?=some v->cB (BesE e w none) [] e v)->Calls P f vargs w (Q w none k ys)) /\
 ∀ w (vargs:Array Value) g0 arr te a cap,w.heap[g0]?=some (.cells arr te (0,0))->(∀(i:Nat) (d:AV),(aI xs)[i]?=some d->∃u,arr[i]?=some u/\cB (fun _ _=>False) [] d u)->es.length+1=vargs.size->vargs[0]?=some (.slice (some a) xs.length cap)->(0<cap->a=⟨g0,0,none⟩)->xs.length<=cap->cap*k<=arr.size ->
  (∀(i:Nat) (e:AV) (v:Value),es[i]?=some e->vargs[i+1]?=some v->cB (BesE e w (some g0)) [] e v)->Calls P f vargs w (Q w (some g0) k ys)
def PL (P:Program) (c:fe):Prop:=True
def afR (P:Program) (c:fe):Prop:=∀f g,c.inp f=some g->(∃md q,c.fn f=some (md,q))/\∀ k xs es ys res,g k xs es=some (ys,res)->(∀x∈xs,x.cells.length=k)->(∀x∈xs,∀d∈x.cells,fz d=true) ->
 ((ys.length=xs.length/\(∀y∈ys,y.cells.length=k))/\((∀y∈ys,∀d∈y.cells,fz d=true)/\∀ m,res=some m->m<=xs.length)) /\
 (xs=[]->∀X φ w (vargs:Array Value) v0 y,(y=.dO\/y=.list k [])->es.length+1=vargs.size->vargs[0]?=some v0->cB (Rd X φ w) φ y v0->(∀(i:Nat) (e:AV) (v:Value),es[i]?=some e->vargs[i+1]?=some v->cB (Rd X φ w) [] e v) ->
  Calls P f vargs w (fun e w'=>∃v',e=.returned v'/\cB (Rd X φ w') φ (match res with
   |none=>.dJ []
   |some _=>y) v'/\fU [] w [] w')) /\
 ∀ X φ w Ha n rest (vargs:Array Value) v0,cK X φ w Ha->aO Ha n=some (aI (xs++rest))->es.length+1=vargs.size->vargs[0]?=some v0->cB (Rd X φ w) φ (.sl k n 0 xs.length) v0->(∀(i:Nat) (e:AV) (v:Value),es[i]?=some e->vargs[i+1]?=some v->cB (Rd X φ w) [] e v) ->
  Calls P f vargs w (fun e w'=>∃v' φ',e=.returned v'/\cB (Rd X φ' w') φ' (match res with
   |none=>.dJ []
   |some m=>.sl k n 0 m) v'/\cK X φ' w' (Ha.set n (some (aI (ys++rest))))/\fU φ w φ' w')
def AG (P:Program) (c:fe):Prop:=afR P c/\PL P c
theorem PL.none {P:Program} {c:fe} (h:∀f,c.eat f=none):PL P c:=trivial
theorem AG.none {P:Program} {c:fe} (h:∀f,c.inp f=none) (h2:∀f,c.eat f=none:=by intro _; rfl):AG P c:=⟨(fun f g hf=>by rw[h f] at hf; cases hf),PL.none h2⟩
theorem less {X:Nat->Prop} {φ:dQ} {w:World} {Ha:Heap} (h:cK X φ w Ha) {n:Nat} {cs cs':List AV} (hb:aO Ha n=some cs) (hl:cs'.length<=cs.length) (hc:∀(i:Nat) (d:AV),cs'[i]?=some d->∃a,cs[i]?=some a/\Le d a):cK X φ w (Ha.set n (some cs')):=by
 refine⟨by simp[h.len],h.FC,fun b ds lN=>?_,fun b lN=>?_,h.inj⟩
 ·rw[bg] at lN;split at lN
  ·rename_i e;subst e;split at lN
   ·simp at lN;subst lN;obtain⟨g,sz,arr,e,g1,g2,g3,g4,g5,g6⟩:=h.at hb;refine⟨g,sz,arr,e,g1,g2,g3,by omega,g5,fun i d hd=>?_⟩;obtain⟨a,ha,hle⟩:=hc i d hd;obtain⟨u,u1,u2⟩:=g6 i a ha;exact⟨u,u1,hle _ _ _ u2⟩
   ·cases lN
  ·exact h.live b ds lN
 ·rw[bg] at lN;split at lN
  ·split at lN<;>simp at lN
  ·exact h.dead b lN
theorem Wn {s:St} {p:Rt} {v:AV} (h:at_ s p=some v):(∀i,get (setAt s p v).env i=get s.env i)/\(setAt s p v).H=s.H:=by
 cases p with
 |s i=>
   simp only[at_,ai] at h;refine⟨fun j=>?_,rfl⟩;simp only[setAt,bM];split
   ·rename_i e; subst e; exact h.symm
   ·rfl
 |sc i l=>
   simp only[at_] at h;split at h
   ·rename_i cs hc
    have e:cs.set l v=cs:=by
     apply eT;intro j;rw[bg];split
     ·rename_i e; subst e; split
      ·exact h.symm
      ·rename_i bD; rw[fj (by omega)] at h; cases h
     ·rfl
    have hs:setAt s (.sc i l) v=⟨put s.env i (.agg cs),s.H⟩:=by simp only[setAt,hc,e]
    rw[hs];refine⟨fun j=>?_,rfl⟩;show get (put s.env i (.agg cs)) j=_;rw[bM];split
    ·rename_i e2; subst e2; exact hc.symm
    ·rfl
   ·cases h
 |c b l=>
   simp only[at_] at h;split at h
   ·rename_i cs hc
    have e:cs.set l v=cs:=by
     apply eT;intro j;rw[bg];split
     ·rename_i e; subst e; split
      ·exact h.symm
      ·rename_i bD; rw[fj (by omega)] at h; cases h
     ·rfl
    have hs:setAt s (.c b l) v=⟨s.env,s.H.set b (some cs)⟩:=by simp only[setAt,hc,e]
    rw[hs];refine⟨fun j=>rfl,?_⟩;show s.H.set b (some cs)=s.H;apply eT;intro j;rw[bg];split
    ·rename_i e2;subst e2;rw[if_pos (eI hc),r9.1 hc]
    ·rfl
   ·cases h
theorem iH (xs ys:List AV):aI (xs++ys)=aI xs++aI ys:=by
 induction xs with
 |nil=>rfl
 |cons x r ih=>simp[aI,ih,du]
theorem uK {xs:List AV} {d:AV} (h:d∈aI xs):∃x∈xs,d∈x.cells:=by
 induction xs with
 |nil=>simp[aI] at h
 |cons x r ih=>
   simp only[aI,aG] at h;rcases h with h|h
   ·exact⟨x,by simp,h⟩
   ·obtain⟨y,hy,hd⟩:=ih h;exact⟨y,by simp[hy],hd⟩
theorem XU.weak {w:World} {og:Option Nat} {a:Addr} {u:Value} (h:XU w og a u):abe w og a u:=⟨h.1,h.2.1⟩
theorem afh {X:Nat->Prop} {φ:dQ} {w w':World} {Ha:Heap} (h:cK X φ w Ha) {n:Nat} {og:Option Nat} (h1:∀g,og=some g->∃sz,φ[n]?=some (some (g,sz))) (h2:og=none->φ.length<=n) {k:Nat} {ys:List AV} (hk:∀y∈ys,y.cells.length=k) {e:Ending} {T:Nat->Nat->Addr->Value->Prop} (hp:R7 T w og k ys e w') (hT:∀g' sz a u,T g' sz a u->Rd X (φ.set n none++[some (g',sz)]) w' a u) :
  ∃ φ' v',e=.returned v'/\cK X φ' w' (Ha.set n none++[some (aI ys)])/\fU φ w φ' w'/\cB (Rd X φ' w') φ' (.sl k Ha.length 0 ys.length) v':=by
 obtain⟨g',LY,arr',e',a',rfl,haa,je,qj,Xd,kQ,Bb,E4,ho1,ho2,ho3,ho4,ho5⟩:=hp;have hlen:=h.len;have hog:∀g,og=some g->bQ φ g:=fun g e=>by obtain⟨sz,q⟩:=h1 g e; exact⟨n,sz,q⟩
 have UU:=iq hk
 have sub:∀{b:Nat} {p:Nat × Nat},(φ.set n none)[b]?=some (some p)->φ[b]?=some (some p)/\b≠n:=by
  intro b p hb;rw[bg] at hb;split at hb
  ·split at hb<;>simp at hb
  ·rename_i kj; exact⟨hb,fun e=>kj e.symm⟩
 have notg:∀{b g0 uV:Nat},b≠n->φ[b]?=some (some (g0,uV))->og≠some g0:=by
  intro b g0 uV hb kV e;obtain⟨sz,q⟩:=h1 g0 e;exact hb (h.inj b n g0 uV sz kV q)
 have m6:fU φ w (φ.set n none++[some (g',arr'.size)]) w':=by
  refine⟨ho1,ho2,ho3,ho4,ho5,fun g0 bD iS=>⟨E4 g0 bD fun e=>iS (hog g0 e),fun ho=>?_⟩,⟨by simp,fun b p hb hp=>?_⟩⟩
  ·rcases rV ho with q|q
   ·exact iS (vF q)
   ·simp only at q;subst q;rcases Bb with e|e
    ·exact iS (hog _ e)
    ·omega
  ·rw[aB (by simpa using hb)] at hp;exact (sub hp).1
 refine⟨φ.set n none++[some (g',arr'.size)],_,rfl,?_,m6,?_⟩
 ·refine⟨by simp[hlen],fun g0 hg0=>ff (h.FC g0 hg0) ho5,fun b ds lN=>?_,fun b lN=>?_,fun b b' g0 uV sz1 e1 e2=>?_⟩
  ·by_cases bD:b<Ha.length
   ·rw[aB (by simpa using bD)] at lN;rw[bg] at lN;split at lN
    ·split at lN<;>simp at lN
    rename_i kj;obtain⟨g0,uV,VD,e0,p1,p2,p3,p4,p5,p6⟩:=h.live b ds lN;refine⟨g0,uV,VD,e0,by rw[aB (by simp; omega),bT kj]; exact p1,?_,p3,p4,p5,fun i d hd=>?_⟩
    ·rw[E4 g0 (dS.1 p2).1 (notg (fM kj) p1)]; exact p2
    ·obtain⟨u,u1,u2⟩:=p6 i d hd;exact⟨u,u1,m6.rep u2⟩
   ·have DB:b=Ha.length:=by have:=aC lN; simp at this; omega
    subst DB;rw[aR (by simp)] at lN;simp at lN;subst lN;refine⟨g',arr'.size,arr',e',?_,Xd,rfl,?_,?_,fun i d hd=>?_⟩
    ·rw[aR (by simp; omega)]; simp[hlen]
    ·rw[UU];exact Mu (bS k je) qj
    ·intro hX;rcases Bb with q|q
     ·obtain⟨sz,kV⟩:=h1 _ q;cases hb:Ha[n]? with
      |none=>
        have:=aC kV;rw[List.getElem?_eq_none_iff] at hb;omega
      |some z=>
        cases z with
        |none=>have:=h.dead n hb; rw[this] at kV; cases kV
        |some cs=>
          obtain⟨g0,uV,VD,e0,p1,p2,p3,p4,p5,p6⟩:=h.live n cs hb;rw[p1] at kV;cases kV;exact p5 hX
     ·have:=h.FC _ hX; omega
    ·obtain⟨u,u1,u2⟩:=kQ i d hd;exact⟨u,u1,(u2.mono (fun a u h=>hT _ _ a u h) (.refl _)).EU _⟩
  ·by_cases bD:b<Ha.length
   ·rw[aB (by simpa using bD)] at lN;rw[aB (by simp; omega)];rw[bg] at lN ⊢;by_cases e:n=b
    ·subst e; simp[show n<φ.length by omega]
    ·rw[if_neg e] at lN ⊢; exact h.dead b lN
   ·have DB:b=Ha.length:=by have:=aC lN; simp at this; omega
    subst DB;rw[aR (by simp)] at lN;simp at lN
  ·have new:∀(b g0 uV:Nat),(φ.set n none++[some (g',arr'.size)])[b]?=some (some (g0,uV))->(b<φ.length/\φ[b]?=some (some (g0,uV))/\b≠n/\g0<w.heap.size)\/(b=φ.length/\g0=g'):=by
    intro b g0 uV hb;by_cases bD:b<φ.length
    ·rw[aB (by simpa using bD)] at hb;obtain⟨q1,q2⟩:=sub hb;exact .inl ⟨bD,q1,q2,(h.gQ ⟨b,uV,q1⟩).1⟩
    ·have iK:=aC hb;simp at iK;have DB:b=φ.length:=by omega
     subst DB;rw[aR (by simp)] at hb;simp at hb;exact .inr ⟨rfl,hb.1.symm⟩
   have mix:∀{b uV},φ[b]?=some (some (g',uV))->b≠n->g'<w.heap.size->False:=fun{b uV} q hb bD=>by
    rcases Bb with e|e
    ·exact notg hb q e
    ·omega
   rcases new b g0 uV e1 with⟨l1,q1,d1,g1⟩|⟨l1,g1⟩<;>rcases new b' g0 sz1 e2 with⟨l2,q2,d2,g2⟩|⟨l2,g2⟩
   ·exact h.inj b b' g0 uV sz1 q1 q2
   ·subst g2; exact (mix q1 d1 g1).elim
   ·subst g1; exact (mix q2 d2 g2).elim
   ·omega
 ·refine .sl _ _ _ _ _ _ _ (by simp[hlen]) je fun g0 uV e0=>?_;rw[aR (by simp; omega)] at e0;simp[hlen] at e0;obtain⟨rfl,rfl⟩:=e0;exact⟨haa,by omega⟩
theorem fx.Nc {X:Nat->Prop} {φ kX:dQ} {w w1:World} {N:Names} {s:St} {Ha Ha':Heap} {t:Nat->Value} (h:fx X φ w N s Ha t) {p:Rt} {kp:Nat} {xs:List AV} (hp:aD s p=some (kp,xs)) (ad:fU φ w kX w1) (hh:cK X kX w1 Ha') {n:Nat} (hn:N.ν p=some n\/φ.length<=n) (km:∀m,m≠n->m<Ha.length->aO Ha' m=aO Ha m):fx X kX w1 N (setAt (cE (sw p) s) p .any) Ha' t:=by
 have hpo:(aD s p).isSome:=by rw[hp]; rfl
 obtain⟨d1,d2,d3⟩:=h.drop hp;have hlen:=h.heap.len;refine d1.m6 ad hh (fun q k' zs e=>?_) (fun b Gw=>?_)
 ·have e':=e;rw[d2] at e';split at e'
  ·cases e'
  rename_i pZ;refine (d1.own q k' zs e).same fun m hmq=>?_;have hml:=h.gQ (by rw[e']; rfl) hmq;refine km m ?_ hml;rintro rfl;rcases hn with hn|hn
  ·exact pZ (h.inj q p m (by rw[e']; rfl) hpo hmq hn)
  ·omega
 ·have IP:(aO s.H b).isSome:=by
   cases e:aO s.H b with
   |none=>rw[d3.F5 b e] at Gw; cases Gw
   |some _=>rfl
  have hml:=h.tw IP;refine km _ ?_ hml;intro e;rcases hn with hn|hn
  ·exact h.bx b p IP hpo (by rw[hn,e])
  ·omega
theorem abJ {X:Nat->Prop} {φ:dQ} {w w':World} {Ha:Heap} (h:cK X φ w Ha) {n:Nat} {og:Option Nat} (h1:∀g,og=some g->∃sz,φ[n]?=some (some (g,sz))) (E4:∀g,g<w.heap.size->og≠some g->w'.heap[g]?=w.heap[g]?) (ho1:w'.os=w.os) (ho2:w'.tape=w.tape) (ho3:w'.output=w.output) (ho4:w.drawn<=w'.drawn) (ho5:w.heap.size<=w'.heap.size):cK X (φ.set n none) w' (Ha.set n none)/\fU φ w (φ.set n none) w':=by
 have hlen:=h.len;have hog:∀g,og=some g->bQ φ g:=fun g e=>by obtain⟨sz,q⟩:=h1 g e; exact⟨n,sz,q⟩
 have sub:∀{b:Nat} {p:Nat × Nat},(φ.set n none)[b]?=some (some p)->φ[b]?=some (some p)/\b≠n:=by
  intro b p hb;rw[bg] at hb;split at hb
  ·split at hb<;>simp at hb
  ·rename_i kj; exact⟨hb,fun e=>kj e.symm⟩
 have notg:∀{b g0 uV:Nat},b≠n->φ[b]?=some (some (g0,uV))->og≠some g0:=by
  intro b g0 uV hb kV e;obtain⟨sz,q⟩:=h1 g0 e;exact hb (h.inj b n g0 uV sz kV q)
 have m6:fU φ w (φ.set n none) w':=⟨ho1,ho2,ho3,ho4,ho5,fun g0 bD iS=>⟨E4 g0 bD fun e=>iS (hog g0 e),fun ho=>iS (vF ho)⟩,⟨by simp,fun b p _ hp=>(sub hp).1⟩⟩;refine⟨⟨by simp[hlen],fun g0 hg0=>ff (h.FC g0 hg0) ho5,fun b ds lN=>?_,fun b lN=>?_,fun b b' g0 uV sz1 e1 e2=>h.inj b b' g0 uV sz1 (sub e1).1 (sub e2).1⟩,m6⟩
 ·rw[bg] at lN;split at lN
  ·split at lN<;>simp at lN
  rename_i kj;obtain⟨g0,uV,VD,e0,p1,p2,p3,p4,p5,p6⟩:=h.live b ds lN;refine⟨g0,uV,VD,e0,by rw[bT kj]; exact p1,?_,p3,p4,p5,fun i d hd=>?_⟩
  ·rw[E4 g0 (dS.1 p2).1 (notg (fM kj) p1)]; exact p2
  ·obtain⟨u,u1,u2⟩:=p6 i d hd;exact⟨u,u1,m6.rep u2⟩
 ·rw[bg] at lN ⊢;by_cases e:n=b
  ·subst e;rw[if_pos rfl] at lN ⊢;split at lN
   ·rw[if_pos (by omega)]
   ·cases lN
  ·rw[if_neg e] at lN ⊢; exact h.dead b lN
theorem agH {X:Nat->Prop} {φ:dQ} {w:World} {B:Nat->Nat} {base:Nat} {N:Names} {s:St} {Ha:Heap} {t:Nat->Value} (h:fx X φ w N s Ha t) (hb:(∀b,b<base->N.β b=B b)/\base<=s.H.length) {p:Rt} {kp:Nat} {xs ys:List AV} (hp:aD s p=some (kp,xs)) {k:Nat} {T:Nat->Nat->Addr->Value->Prop} {n:Nat} {og:Option Nat} (h1:∀g,og=some g->∃sz,φ[n]?=some (some (g,sz))) (h2:og=none->φ.length<=n) (hn:N.ν p=some n\/φ.length<=n) (hys:(∀y∈ys,y.cells.length=k)/\∀ y∈ys,∀d∈y.cells,fz d=true) {e:Ending} {w1:World} (aeY:R7 T w og k ys e w1\/(og=none/\ys=[]/\e=.returned (.slice none 0 0)/\fU [] w [] w1)) (hT:∀g' sz a u,T g' sz a u->Rd X (φ.set n none++[some (g',sz)]) w1 a u) :
  ∃ v',e=.returned v'/\∃ kX,eR X kX w1 B base (setAt (cE (sw p) s) p .any) (.own k ys) t v'/\fU φ w kX w1:=by
  have hpo:(aD s p).isSome:=by rw[hp]; rfl
  obtain⟨d1,d2,d3⟩:=h.drop hp;have Cb:(∀b,b<base->N.β b=B b)/\base<=(setAt (cE (sw p) s) p .any).H.length:=⟨hb.1,by rw[d3.len]; exact hb.2⟩;have hlen:=h.heap.len;rcases aeY with aeY|hnil
  case inr=>
   obtain⟨_,rfl,rfl,ad⟩:=hnil;have gJ:fx X φ w1 N (setAt (cE (sw p) s) p .any) Ha t:=d1.m6 (.of_same ad) (h.heap.of_same ad) d1.own (fun _ _=>rfl);refine⟨_,rfl,φ,eR.quiet gJ Cb ?_ ?_ ?_,.of_same ad⟩
   ·trivial
   ·trivial
   ·simp only[yT]; exact .dO _
  obtain⟨kX,v',rfl,hh,ad,rv⟩:=afh h.heap h1 h2 hys.1 aeY hT;refine⟨v',rfl,kX,?_,ad⟩
  have km:∀m,m≠n->m<Ha.length->aO (Ha.set n none++[some (aI ys)]) m=aO Ha m:=fun m FE bD=>by
   rw[fY,if_neg (by simp; omega)];unfold aO; rw[bT (fM FE)]
  have gJ:fx X kX w1 N (setAt (cE (sw p) s) p .any) (Ha.set n none++[some (aI ys)]) t:=h.Nc hp ad hh hn km;refine eR.fresh gJ Cb (n:=Ha.length) ⟨aI ys,by rw[fY,if_pos (by simp)],by rw[iq hys.1]; exact aY _,hys.1,fun i d hd=>?_⟩ (fun q hq e=>?_) (fun b Gw e=>?_) rv
  ·obtain⟨y,hy,hdy⟩:=uK (bt hd);have hfd:=hys.2 y hy d hdy;exact⟨hfd,d,hd,(kD hfd).2,Le.refl _⟩
  ·have hq':(aD s q).isSome:=by
    rw[d2] at hq;split at hq
    ·cases hq
    ·exact hq
   have:=h.gQ hq' e;omega
  ·have IP:(aO s.H b).isSome:=by
    cases e:aO s.H b with
    |none=>rw[d3.F5 b e] at Gw; cases Gw
    |some _=>rfl
   have:=h.tw IP;omega
theorem ak3 (dG:gF P c) (heat:PL P c) {X:Nat->Prop} {φ:dQ} {w:World} {B:Nat->Nat} {base:Nat} {s s1:St} {o:Oper} {a:Act} {f:Nat} {x:E} {es:List E} {v:AV} {fq:Fq} (hk:dz P o.op (nS (.call f (x::es)))=true) (h:SB X φ w B base s (tm a)) (hg:Am.e9 (ju c) X φ w) {g:Nat->List AV->List AV->Option (List AV)} (Sm:c.eat f=some g) (hs:Xs s g (bC c s.env x) (dX c s.env es)=some (v,s1,fq)):nW P X φ w B base s1 v o a:=by unfold Xs at hs;cases hs
mutual
theorem Kl:∀x,pl x=true->aU x=[]
 |.eE _ _ _ _,h=>by simp[pl] at h
 |.fP _ _ _ _,h=>by simp[pl] at h
 |.agg cs,h=>by simp only[pl] at h; simp only[aU]; exact AY cs h
 |.dJ cs,h=>by simp only[pl] at h; simp only[aU]; exact AY cs h
 |.func _ a b,h=>by simp only[pl,ae] at h; simp only[aU,AY a h.1,AY b h.2,dW]
 |.any,_=>rfl|.undef,_=>rfl|.gq,_=>rfl|.gz,_=>rfl|.dO,_=>rfl
 |.int _ _,_=>rfl|.bool _,_=>rfl|.str _,_=>rfl|.list _ _,_=>rfl|.dV _,_=>rfl|.ptr _ _,_=>rfl|.sl _ _ _ _,_=>rfl|.own _ _,_=>rfl
theorem AY:∀xs,dP xs=true->dL xs=[]
 |[],_=>rfl
 |x::r,h=>by simp only[dP,ae] at h; simp only[dL,Kl x h.1,AY r h.2,dW]
end
theorem aeB {s s1:St} {f:Nat} {x:AV} {es:List AV} {v:AV} {fl:Fq} (h:locV c call s f es x=some (v,s1,fl)):∃b md q cs cs',x=.ptr b 0/\c.fn f=some (md,q)/\aO s.H b=some cs/\(md.sh=true/\dP es=true/\dP cs=true)/\call f (.ptr 0 0::es) [some cs]=some (v,[some cs'])/\(pl v=true/\dP cs'=true)/\s1=⟨s.env,s.H.set b (some cs')⟩/\fl=.lw b:=by
 unfold locV at h;split at h
 case h_2=>cases h
 rename_i b;split at h
 case h_2=>cases h
 rename_i md q cs hf hb;split at h
 case isFalse=>cases h
 rename_i hp;split at h
 case h_2=>cases h
 rename_i r cs' hc;split at h
 case isFalse=>cases h
 rename_i hr;simp only[ai,aP] at h;obtain⟨rfl,rfl,rfl⟩:=h;exact⟨b,md,q,cs,cs',rfl,hf,hb,hp,hc,hr,rfl,rfl⟩
theorem z6 {s s1:St} {kd:Kd} {v:AV} {fl:Fq} (h:nY c call s kd=some (some (v,s1,fl))):∃f x es b md q cs cs',kd=.call f (x::es)/\c.loc f=true/\bC c s.env x=.ptr b 0/\c.fn f=some (md,q)/\aO s.H b=some cs/\(md.sh=true/\dP (dX c s.env es)=true/\dP cs=true)/\call f (.ptr 0 0::dX c s.env es) [some cs]=some (v,[some cs'])/\(pl v=true/\dP cs'=true)/\s1=⟨s.env,s.H.set b (some cs')⟩/\fl=.lw b:=by
 unfold nY at h;split at h
 case h_2=>cases h
 rename_i f x es;split at h
 case isFalse=>cases h
 rename_i hl;simp only[ai] at h;obtain⟨b,md,q,cs,cs',h1,h2,h3,h4,h5,h6,h7,h8⟩:=aeB h;exact⟨f,x,es,b,md,q,cs,cs',rfl,hl,h1,h2,h3,h4,h5,h6,h7,h8⟩
theorem IG {s s1:St} {kd:Kd} {v:AV} {f:Fq} (h:nY c call s kd=some (some (v,s1,f))):∃b,f=.lw b:=by
 obtain⟨_,_,_,b,_,_,_,_,_,_,_,_,_,_,_,_,_,e⟩:=z6 h;exact⟨b,e⟩
theorem vB {e:Env} {H:Heap} {d j:Nat} (hp:∀cs,aO H d=some cs->dP cs=true):aD ⟨e,H⟩ (.c d j)=none:=by
 cases ho:aD ⟨e,H⟩ (.c d j) with
 |none=>rfl
 |some y=>
   obtain⟨k,xs⟩:=y;have h1:=cM.1 ho;simp only[at_] at h1;split at h1
   ·rename_i ds hd;have:=fv (hp ds hd) j _ h1;simp[pl] at this
   ·cases h1
theorem si (N:Names) (p:Rt) {z:AV} (hz:pl z=true):kf N p z=z:=by
 cases z<;>first|exact lz N _ hz|(simp[pl] at hz; done)
theorem Nu (N:Names) {z:AV} (hz:pl z=true):ig N z=z:=by
 cases z<;>first|exact lz N _ hz|(simp[pl] at hz; done)
theorem fx.acq {X:Nat->Prop} {φ kX:dQ} {w w1:World} {N:Names} {s:St} {Ha Ha':Heap} {t:Nat->Value} (h:fx X φ w N s Ha t) {b:Nat} {cs cs':List AV} (hb:aO s.H b=some cs) (O9:dP cs=true) (W9:dP cs'=true) (ad:fU φ w kX w1) (hh:cK X kX w1 Ha') (RE:aO Ha' (N.β b)=some cs') (Gt:∀m,m≠N.β b->aO Ha' m=aO Ha m):fx X kX w1 N ⟨s.env,s.H.set b (some cs')⟩ Ha' t:=by
 have hoa:∀p,aD ⟨s.env,s.H.set b (some cs')⟩ p=aD s p:=by
  intro p;cases p with
  |s i=>rfl
  |sc i j=>rfl
  |c d j=>
    by_cases e:d=b
    ·subst e;rw[vB (e:=s.env) (H:=s.H.set d (some cs')) (d:=d) (j:=j) fun ds hd=>by rw[eF,if_pos ⟨rfl,eI hb⟩] at hd; cases hd; exact W9];exact (vB (e:=s.env) (H:=s.H) (d:=d) (j:=j) fun ds hd=>by rw[hb] at hd; cases hd; exact O9).symm
    ·simp only[aD,at_];rw[eF,if_neg (fun h=>e h.1)]
 have hfe:aD ⟨s.env,s.H.set b (some cs')⟩=aD s:=funext hoa;have hlen:(s.H.set b (some cs')).length=s.H.length:=by simp
 have hblk:∀d ds,aO (s.H.set b (some cs')) d=some ds->(d=b/\ds=cs')\/(d≠b/\aO s.H d=some ds):=by
  intro d ds e;by_cases e2:d=b
  ·subst e2;rw[eF,if_pos ⟨rfl,eI hb⟩] at e;cases e;exact .inl ⟨rfl,rfl⟩
  ·rw[eF,if_neg (fun h=>e2 h.1)] at e;exact .inr ⟨e2,e⟩
 have Lo:∀d,(aO (s.H.set b (some cs')) d).isSome->(aO s.H d).isSome:=by
  intro d e;obtain⟨ds,hd⟩:=aV.1 e;rcases hblk d ds hd with⟨rfl,_⟩|⟨_,h2⟩
  ·rw[hb]; rfl
  ·rw[h2]; rfl
 have IP:(aO s.H b).isSome:=by rw[hb]; rfl
 refine⟨fun i=>ad.rep (h.env i),fun i=>?_,hh,fun p k xs e=>?_,fun d ds e=>?_,fun p q n e1 e2=>?_,fun d p e1 e2=>?_,fun d e0 e1 e2 e3=>?_⟩
 ·rw[hfe];show c9 _ (s.H.set b (some cs')).length _;rw[hlen]; exact h.Ib i
 ·rw[hoa] at e;have ho:=h.own p k xs e;cases hn:N.ν p with
  |none=>rw[hn] at ho; exact ho
  |some m=>
    rw[hn] at ho;obtain⟨ds,d1,d2⟩:=ho;have kj:m≠N.β b:=fun e2=>h.bx b p IP (by rw[e]; rfl) (by rw[hn,e2]);exact⟨ds,by rw[Gt _ kj]; exact d1,d2⟩
 ·rcases hblk d ds e with⟨rfl,rfl⟩|⟨hd,DA⟩
  ·exact⟨_,RE,rfl,fun j d hd=>⟨vI _ (fv W9 j d hd),d,hd,by rw[si _ _ (fv W9 j d hd)]; exact Le.refl _⟩⟩
  ·obtain⟨as2,x1,x2,x3⟩:=h.box d ds DA;have kj:N.β d≠N.β b:=fun h2=>hd (h.bi d b (by rw[DA]; rfl) IP h2);refine⟨as2,by rw[Gt _ kj]; exact x1,x2,fun j d' hd'=>?_⟩;obtain⟨y1,y2⟩:=x3 j d' hd';refine⟨?_,y2⟩;rw[hfe];show c9 _ (s.H.set b (some cs')).length _;rw[hlen]; exact y1
 ·rw[hoa] at e1 e2; exact h.inj p q n e1 e2
 ·rw[hoa] at e2; exact h.bx d p (Lo d e1) e2
 ·exact h.bi d e0 (Lo d e1) (Lo e0 e2) e3
theorem Km:∀{l:List AV},(∀y∈l,pl y=true)->dP l=true
 |[],_=>rfl
 |x::r,h=>by simp only[dP,ae]; exact⟨h x (by simp),Km fun y hy=>h y (by simp[hy])⟩
theorem IV:∀{l:List AV},(∀y∈l,y.cells=[y])->aI l=l
 |[],_=>rfl
 |x::r,h=>by
   simp only[aI];rw[h x (by simp),IV fun y hy=>h y (by simp[hy])];rfl
theorem U6 {x:AV} (h:fz x=true):x.cells=[x]:=by
 have:=(kD h).2;cases x<;>first|rfl|(simp[AV.leaf] at this; done)
theorem agL (dG:gF P c) (rG:afR P c) {X:Nat->Prop} {φ:dQ} {w:World} {B:Nat->Nat} {base:Nat} {s:St} {o:Oper} {a:Act} {f:Nat} {x:E} {es:List E} {g:Nat->List AV->List AV->Option (List AV × Option Nat)} (hk:dz P o.op (nS (.call f (x::es)))=true) (h:SB X φ w B base s (tm a)) (hg:Am.e9 (ju c) X φ w) (Sm:c.inp f=some g) {k b len:Nat} {cs ys:List AV} {res:Option Nat} (hx:bC c s.env x=.sl k b 0 len) (hb:aO s.H b=some cs) (hc:k=1/\len<=cs.length/\U7 cs=true/\dP (dX c s.env es)=true) (M3:g k (cs.take len) (dX c s.env es)=some (ys,res)):nW P X φ w B base ⟨s.env,s.H.set b (some (aI ys++cs.drop len))⟩ (MW k b res) o a:=by
 obtain⟨rfl,hle,E5,pq⟩:=hc;obtain⟨⟨md,q,hf⟩,hI⟩:=rG f g Sm;obtain⟨N,Ha,h,Gw⟩:=h;obtain⟨vargs,mY,hA,Aj⟩:=ny (kd:=.call f (x::es)) (args:=bC c s.env x::dX c s.env es) dG h hg hk rfl hf;rw[hx] at hA Aj;have hl:(dX c s.env es).length+1=vargs.size:=by have:=hA.1; simpa using this
 obtain⟨v0,W7⟩:=dc (l:=vargs) (i:=0) (by omega);have r0:=hA.2 0 _ v0 rfl W7
 have hes:∀(i:Nat) (e:AV) (u:Value),(dX c s.env es)[i]?=some e->vargs[i+1]?=some u->cB (Rd X φ w) [] e u:=fun i e u he hu=>by
  have r1:=hA.2 (i+1) e u (by simpa using he) hu;have Mq:=fv pq i e he;have ht:ig N e=e:=by cases e<;>first|exact lz N _ Mq|(simp[pl] at Mq; done)
  rw[ht] at r1;exact r1.dY (gG _ Mq) []
 simp only[ig,df] at r0;obtain⟨as,b1,b2,b3⟩:=h.box b cs hb;have hce:∀y∈cs,y.cells=[y]:=fun y hy=>U6 (lh E5 y hy);have O9:dP cs=true:=Km fun y hy=>(kD (lh E5 y hy)).1
 have hH1:cK X φ w (Ha.set (N.β b) (some cs)):=less h.heap b1 (by omega) fun i d hd=>by
  obtain⟨_,a',a1,a2⟩:=b3 i d hd;rw[si N _ (fv O9 i d hd)] at a2;exact⟨a',a1,a2⟩
 have htd:aI (cs.take len++cs.drop len)=cs:=by rw[VZ]; exact IV hce
 have bD:(cs.take len).length=len:=by rw[bF]; omega
 obtain⟨⟨⟨j1,j2⟩,j3,j4⟩,_,j6⟩:=hI 1 _ _ ys res M3 (fun y hy=>by rw[hce y (dA hy)]; rfl) (fun y hy d hd=>by
  have DT:=dA hy;rw[hce y DT] at hd;simp at hd;subst hd;exact lh E5 d DT)
 have jr:=j6 X φ w (Ha.set (N.β b) (some cs)) (N.β b) (cs.drop len) vargs v0 hH1 (by rw[htd,eF,if_pos ⟨rfl,eI b1⟩]) hl W7 (by rw[bD]; exact r0) hes;intro K Q hK;unfold Oper.wp;rw[mY,Oper.upon_enter];refine jr.mono ?_;rintro e w1 ⟨v',kX,rfl,rv,hh,ad⟩;rw[List.set_set,iH,IV (l:=cs.drop len) fun y hy=>hce y (dB hy)] at hh
 have hpn:dP (aI ys++cs.drop len)=true:=Km fun y hy=>by
  rcases aG.1 hy with hy|hy
  ·obtain⟨z,hz,hd⟩:=uK hy;exact (kD (j3 z hz y hd)).1
  ·exact (kD (lh E5 y (dB hy))).1
 have gJ:=h.acq (cs':=aI ys++cs.drop len) hb O9 hpn ad hh (by rw[eF,if_pos ⟨rfl,eI b1⟩]) fun m hm=>by rw[eF,if_neg (fun h=>hm h.1)]
 refine hK v' w1 kX (eR.quiet gJ ⟨Gw.1,by simpa using Gw.2⟩ ?_ ?_ ?_) ad
 ·cases res with
  |none=>trivial
  |some m=>
    show b<(s.H.set b _).length;rw[bI]; exact eI hb
 ·cases res<;>trivial
 ·cases res with
  |none=>simpa[MW,yT,df,m9] using rv
  |some m=>simpa[MW,yT,df] using rv
theorem akZ (dG:gF P c) (rG:AG P c) {X:Nat->Prop} {φ:dQ} {w:World} {B:Nat->Nat} {base:Nat} {s s1:St} {o:Oper} {a:Act} {kd:Kd} {v:AV} {fq:Fq} (hk:dz P o.op (nS kd)=true) (h:SB X φ w B base s (tm a)) (hg:Am.e9 (ju c) X φ w) (hs:rF c s kd=some (some (v,s1,fq))):nW P X φ w B base s1 v o a:=by
 unfold rF at hs;split at hs
 case h_2=>cases hs
 rename_i f x es;split at hs
 case h_1=>
  split at hs
  ·cases hs
  ·rename_i g Sm;simp only[ai] at hs;exact ak3 dG rG.2 hk h hg Sm hs
 replace rG:=rG.1;rename_i g Sm;simp only[ai] at hs;split at hs
 case h_4=>cases hs
 case h_3=>
  rename_i k b len hx;split at hs
  case h_2=>cases hs
  rename_i cs hb;split at hs
  case isFalse=>cases hs
  rename_i hc;split at hs
  case h_2=>cases hs
  rename_i ys res M3;simp only[ai,aP] at hs;obtain⟨rfl,rfl,_⟩:=hs;exact agL dG rG hk h hg Sm hx hb hc M3
 ·rename_i k hx;split at hs
  case isFalse=>cases hs
  rename_i pq;split at hs
  case h_2=>cases hs
  rename_i ys res M3;simp only[ai,aP] at hs;obtain⟨rfl,rfl,_⟩:=hs;obtain⟨⟨md,q,hf⟩,hI⟩:=rG f g Sm;obtain⟨N,Ha,h,hb⟩:=h;obtain⟨vargs,mY,hA,Aj⟩:=ny (kd:=.call f (x::es)) (args:=bC c s.env x::dX c s.env es) dG h hg hk rfl hf;rw[hx] at hA Aj;have hl:(dX c s.env es).length+1=vargs.size:=by have:=hA.1; simpa using this
  obtain⟨v0,W7⟩:=dc (l:=vargs) (i:=0) (by omega);have r0:=hA.2 0 _ v0 rfl W7
  have hes:∀(i:Nat) (e:AV) (u:Value),(dX c s.env es)[i]?=some e->vargs[i+1]?=some u->cB (Rd X φ w) [] e u:=fun i e u he hu=>by
   have r1:=hA.2 (i+1) e u (by simpa using he) hu;have Mq:=fv pq i e he;have ht:ig N e=e:=by cases e<;>first|exact lz N _ Mq|(simp[pl] at Mq; done)
   rw[ht] at r1;exact r1.dY (gG _ Mq) []
  obtain⟨_,j3,_⟩:=hI k _ _ ys res M3 (fun y hy=>by simp at hy) (fun y hy=>by simp at hy);simp only[ig,df] at r0;have jr:=j3 rfl X φ w vargs v0 _ (.inr rfl) hl W7 r0 hes;intro K Q hK;unfold Oper.wp;rw[mY,Oper.upon_enter];refine jr.mono ?_;rintro e w1 ⟨v',rfl,rv,ad⟩;have gJ:fx X φ w1 N s Ha (tm a):=h.m6 (.of_same ad) (h.heap.of_same ad) h.own (fun _ _=>rfl);refine hK v' w1 φ (eR.quiet gJ hb ?_ ?_ ?_) (.of_same ad)
  ·cases res<;>trivial
  ·cases res<;>trivial
  ·cases res with
   |none=>simpa[inpL,yT,df,m9] using rv
   |some m=>simpa[inpL,yT,df] using rv
 rename_i k p len hx;split at hs
 case h_2=>cases hs
 rename_i k' xs hp;split at hs
 case isFalse=>cases hs
 rename_i hc;obtain⟨rfl,hle,pq⟩:=hc;split at hs
 case h_2=>cases hs
 rename_i ys res M3;simp only[ai,aP] at hs;obtain⟨rfl,rfl,_⟩:=hs;obtain⟨⟨md,q,hf⟩,hI⟩:=rG f g Sm;obtain⟨N,Ha,h,hb⟩:=h;obtain⟨vargs,mY,hA,Aj⟩:=ny (kd:=.call f (x::es)) (args:=bC c s.env x::dX c s.env es) dG h hg hk rfl hf;rw[hx] at hA Aj;have hl:(dX c s.env es).length+1=vargs.size:=by have:=hA.1; simpa using this
 obtain⟨v0,W7⟩:=dc (l:=vargs) (i:=0) (by omega);have r0:=hA.2 0 _ v0 rfl W7
 have hes:∀(i:Nat) (e:AV) (u:Value),(dX c s.env es)[i]?=some e->vargs[i+1]?=some u->cB (Rd X φ w) [] e u:=fun i e u he hu=>by
  have r1:=hA.2 (i+1) e u (by simpa using he) hu;have Mq:=fv pq i e he;have ht:ig N e=e:=by cases e<;>first|exact lz N _ Mq|(simp[pl] at Mq; done)
  rw[ht] at r1;exact r1.dY (gG _ Mq) []
 have fc:=h.own p k' xs hp;cases hn:N.ν p with
 |none=>
   rw[hn] at fc;have hxs:xs=[]:=fc;subst hxs;have h0:len=0:=by simpa using hle
   subst h0;obtain⟨⟨⟨j1,_⟩,_,j2⟩,j3,_⟩:=hI k' _ _ ys res M3 (fun y hy=>by simp at hy) (fun y hy=>by simp at hy);have hys:ys=[]:=by simpa using j1
   subst hys;simp only[ig,df,hn] at r0;have jr:=j3 (by simp) X φ w vargs v0 _ (.inl rfl) hl W7 r0 hes;intro K Q hK;unfold Oper.wp;rw[mY,Oper.upon_enter];refine jr.mono ?_;rintro e w1 ⟨v',rfl,rv,ad⟩;obtain⟨se,sH⟩:=Wn (s:=s) (p:=p) (v:=.own k' []) (cM.1 hp);have gJ:fx X φ w1 N (setAt s p (.own k' ([]++([]:List AV).drop 0))) Ha (tm a):=(h.m6 (.of_same ad) (h.heap.of_same ad) h.own (fun _ _=>rfl)).ext se sH;refine hK v' w1 φ (eR.quiet gJ ⟨hb.1,by show base<=(setAt s p (.own k' [])).H.length; rw[sH]; exact hb.2⟩ ?_ ?_ ?_) (.of_same ad)
   ·cases res with
    |none=>trivial
    |some m=>
      have:=j2 m rfl;simp at this;subst this
      exact⟨[],by
       show aD (setAt s p (.own k' [])) p=_;rw[OG se sH]; exact hp,by simp⟩
   ·cases res<;>trivial
   ·cases res with
    |none=>simpa[inpV,yT,df,m9] using rv
    |some m=>simpa[inpV,yT,df,hn] using rv
 |some n=>
   rw[hn] at fc;obtain⟨cs,c1,c2,c3,c4⟩:=fc;have hxs:xs.take len++xs.drop len=xs:=VZ len xs
   have E5:∀y∈xs,∀d∈y.cells,fz d=true:=by
    intro y hy d hd
    have:d∈aI xs:=by
     clear c1 c2 c3 c4 M3 hp hle hxs hA r0 Aj hx W7 hes
     induction xs with
     |nil=>simp at hy
     |cons z r ih=>
       simp only[aI,aG];rcases aK.1 hy with e|e
       ·subst e; exact .inl hd
       ·exact .inr (ih e)
    obtain⟨i,hi⟩:=bH this;exact (c4 i d hi).1
   obtain⟨⟨⟨j1,j2⟩,j3,j4⟩,_,j6⟩:=hI k' _ _ ys res M3 (fun y hy=>c3 y (dA hy)) (fun y hy=>E5 y (dA hy));have bD:(xs.take len).length=len:=by simp; omega
   rw[bD] at j1
   have hH1:cK X φ w (Ha.set n (some (aI xs))):=less h.heap c1 (by rw[iq c3]; exact c2) fun i d hd=>by
    obtain⟨_,a',b1,_,b2⟩:=c4 i d hd;exact⟨a',b1,b2⟩
   simp only[ig,df,hn,qk] at r0;have jr:=j6 X φ w (Ha.set n (some (aI xs))) n (xs.drop len) vargs v0 hH1 (by rw[hxs,eF,if_pos ⟨rfl,eI c1⟩]) hl W7 (by rw[bD]; exact r0) hes;intro K Q hK;unfold Oper.wp;rw[mY,Oper.upon_enter];refine jr.mono ?_;rintro e w1 ⟨v',kX,rfl,rv,hh,ad⟩;rw[List.set_set] at hh
   have US:∀y∈ys++xs.drop len,y.cells.length=k':=fun y hy=>by
    rcases aG.1 hy with hy|hy
    ·exact j2 y hy
    ·exact c3 y (dB hy)
   have hnew:pd (Ha.set n (some (aI (ys++xs.drop len)))) (some n) k' (ys++xs.drop len):=by
    refine⟨aI (ys++xs.drop len),by rw[eF,if_pos ⟨rfl,eI c1⟩],by rw[iq US]; exact aY _,US,fun i d hd=>?_⟩;have hm:=uK (bt hd);obtain⟨y,hy,hdy⟩:=hm
    have hfd:fz d=true:=by
     rcases aG.1 hy with hy|hy
     ·exact j3 y hy d hdy
     ·exact E5 y (dB hy) d hdy
    exact⟨hfd,d,hd,(kD hfd).2,Le.refl _⟩
   obtain⟨gJ,kb⟩:=h.upd (xs':=ys++xs.drop len) hp hn (by simp; omega) ad hh hnew (fun m FE=>by rw[eF,if_neg (fun e=>FE e.1)])
   have gh:aD (setAt s p (.own k' (ys++xs.drop len))) p=some (k',ys++xs.drop len):=by
    have yQ:=cM.1 hp;refine cM.2 ?_;rw[GK ⟨(fun cs e=>by cases e),_,yQ,(fun cs e=>by cases e)⟩ (Ko (by rw[hp]; rfl)),if_pos rfl]
   refine hK v' w1 kX (eR.quiet gJ ⟨hb.1,by rw[kb.len]; exact hb.2⟩ ?_ ?_ ?_) ad
   ·cases res with
    |none=>trivial
    |some m=>
      have:=j4 m rfl;refine⟨_,gh,?_⟩;rw[bV];omega
   ·cases res<;>trivial
   ·cases res with
    |none=>simpa[inpV,yT,df,m9] using rv
    |some m=>simpa[inpV,yT,df,hn] using rv
theorem akT (dG:gF P c) (eQ:ji P c call) {X:Nat->Prop} {φ:dQ} {w:World} {B:Nat->Nat} {base:Nat} {s s1:St} {o:Oper} {a:Act} {kd:Kd} {v:AV} {fq:Fq} (hk:dz P o.op (nS kd)=true) (h:SB X φ w B base s (tm a)) (hg:Am.e9 (ju c) X φ w) (hs:nY c call s kd=some (some (v,s1,fq))):nW P X φ w B base s1 v o a:=by
 obtain⟨f,x,es,b,md,q,cs,cs',rfl,hl,hx,hf,hb,⟨kb,pq,O9⟩,hc,⟨hpr,W9⟩,rfl,rfl⟩:=z6 hs;obtain⟨N,Ha,h,Gw⟩:=h;obtain⟨vargs,mY,hA,Aj⟩:=ny (kd:=.call f (x::es)) (args:=bC c s.env x::dX c s.env es) dG h hg hk rfl hf;rw[hx] at hA Aj;generalize dX c s.env es=as at pq hc hA Aj;obtain⟨bs,b1,b2,b3⟩:=h.box b cs hb;obtain⟨g,sz,arr,te,g1,g2,g3,g4,g5,g6⟩:=h.heap.at b1;have og:bQ φ g:=⟨_,sz,g1⟩
 have ow:∀g0,bQ [some (g,sz)] g0->g0=g:=by
  rintro g0 ⟨i,z,hi⟩;cases i with
  |zero=>simp at hi; exact hi.1.symm
  |succ i=>simp at hi
 have rdin:∀a u,Rd X φ w a u->Rd (fun g0=>X g0\/(bQ φ g0/\g0≠g)) [some (g,sz)] w a u:=fun a u ⟨h1,h2,h3⟩=>⟨fun h=>h.elim h1 (fun h=>h2 h.1),fun ho=>h2 (by rw[ow _ ho]; exact og),h3⟩
 have hh:cK (fun g0=>X g0\/(bQ φ g0/\g0≠g)) [some (g,sz)] w [some cs]:=by
  refine⟨rfl,fun g0 h0=>h0.elim (h.heap.FC g0) (fun ho=>(h.heap.gQ ho.1).1),fun i ds hi=>?_,fun i hi=>?_,fun i i' g0 z z' e1 e2=>?_⟩
  ·cases i with
   |succ i=>simp at hi
   |zero=>
     simp at hi;subst hi;refine⟨g,sz,arr,te,rfl,g2,g3,by omega,fun h0=>h0.elim g5 (fun h1=>h1.2 rfl),fun j d hd=>?_⟩;obtain⟨_,a',IQ,hle⟩:=b3 j d hd;obtain⟨u,u1,u2⟩:=g6 j a' IQ;have hpd:=fv O9 j d hd;rw[si N _ hpd] at hle;exact⟨u,u1,((hle _ _ _ u2).dY (gG _ hpd) _).mono rdin (.refl _)⟩
  ·cases i with
   |zero=>simp at hi
   |succ i=>simp at hi
  ·cases i with
   |succ i=>simp at e1
   |zero=>cases i' with
     |zero=>rfl
     |succ i'=>simp at e2
 have Gv:∀i,get (eC 0 (AV.ptr 0 0::as)) i=(AV.ptr 0 0::as)[i]?.getD .any:=fun i=>by rw[sy]; simp
 have ae1:∀i,(get (eC 0 (AV.ptr 0 0::as)) i=.ptr 0 0/\i=0)\/pl (get (eC 0 (AV.ptr 0 0::as)) i)=true:=fun i=>by
  rw[Gv];cases i with
  |zero=>exact .inl ⟨rfl,rfl⟩
  |succ i=>
    refine .inr ?_;simp only[nZ];cases e:as[i]? with
    |none=>rfl
    |some x=>exact fv pq i x e
 have iS:∀p,aD ⟨eC 0 (AV.ptr 0 0::as),[some cs]⟩ p=none:=by
  have hw:∀i,bX (get (eC 0 (AV.ptr 0 0::as)) i)=false:=fun i=>(ae1 i).elim (fun e=>by rw[e.1]; rfl) uH;intro p;cases p with
  |s i=>exact (eH (s:=⟨eC 0 (AV.ptr 0 0::as),[some cs]⟩) (hw i)).1
  |sc i j=>exact (eH (s:=⟨eC 0 (AV.ptr 0 0::as),[some cs]⟩) (hw i)).2 j
  |c d j=>
    refine vB fun ds hd=>?_;cases d with
    |zero=>simp[aO] at hd; subst hd; exact O9
    |succ d=>simp[aO] at hd
 have qj:as.length+1=vargs.size:=by simpa using hA.1
 have IK:SB (fun g0=>X g0\/(bQ φ g0/\g0≠g)) [some (g,sz)] w (fun _=>0) 1 ⟨eC 0 (AV.ptr 0 0::as),[some cs]⟩ (fun i=>vargs.getD i undef):=by
  refine⟨⟨fun _=>0,fun _=>none⟩,[some cs],⟨fun i=>?_,fun i=>?_,hh,fun p k xs e=>?_,fun d ds e=>?_,fun p q n e1=>?_,fun d p _ e1=>?_,fun d e0 e1 e2 _=>?_⟩,fun b hb=>rfl,by simp⟩
  ·show cB _ _ (lK _ i (get (eC 0 (AV.ptr 0 0::as)) i)) _;rcases ae1 i with⟨e,rfl⟩|hp
   ·rw[e];obtain⟨v0,W7⟩:=dc (l:=vargs) (i:=0) (by omega);have r0:=hA.2 0 _ v0 rfl W7;rw[bn,W7];simp only[ig,df] at r0;cases r0 with
    |ptr _ _ _ ad iK h'=>
      refine .ptr _ _ _ _ (by simp) fun g0 z e=>?_;simp at e;obtain⟨rfl,rfl⟩:=e;exact h' g sz g1
   ·rw[yS _ _ hp];cases i with
    |zero=>rw[Gv] at hp; simp[pl] at hp
    |succ i=>
      rw[Gv] at hp ⊢;simp only[nZ] at hp ⊢;cases e:as[i]? with
      |none=>exact .any _ _
      |some y=>
        rw[e] at hp;simp only[iQ] at hp ⊢;obtain⟨v,hv⟩:=dc (l:=vargs) (i:=i+1) (by have:=aC e; omega);have r0:=hA.2 (i+1) y v (by simpa using e) hv;rw[Nu N hp] at r0;rw[bn,hv];exact (r0.dY (gG _ hp) _).mono rdin (.refl _)
  ·show c9 _ _ (get (eC 0 (AV.ptr 0 0::as)) i);rcases ae1 i with⟨e,_⟩|hp
   ·rw[e]; simp[c9]
   ·exact vI _ hp
  ·rw[iS] at e; cases e
  ·cases d with
   |succ d=>simp[aO] at e
   |zero=>
     simp[aO] at e;subst e;exact⟨cs,rfl,rfl,fun j d hd=>⟨vI _ (fv O9 j d hd),d,hd,by rw[si _ _ (fv O9 j d hd)]; exact Le.refl _⟩⟩
  ·rw[iS] at e1; cases e1
  ·rw[iS] at e1; cases e1
  ·cases d with
   |succ d=>simp[aO] at e1
   |zero=>cases e0 with
     |succ d=>simp[aO] at e2
     |zero=>rfl
 have jr:=eQ f md q hf (AV.ptr 0 0::as) [some cs] v [some cs'] (.inl kb) hc (fun _=>by simp[fa,AY _ W9,Aw]) _ _ w (fun _=>0) vargs (by simpa using hA.1) IK (fun g0=>(hg g0).mono rdin (.refl _));intro K Q hK;unfold Oper.wp;rw[mY,Oper.upon_enter];refine jr.mono ?_;rintro e w1 ⟨v',kX,rfl,⟨N1,H1,gJ,Cb,_⟩,ad⟩;obtain⟨as1,c1,c2,c3⟩:=gJ.box 0 cs' rfl;rw[Cb 0 (by simp)] at c1;obtain⟨g',nF,arr1,te1,k1,k2,k3,k4,k5,k6⟩:=gJ.heap.at c1;have hgg:=ad.ZA.OJ 0 _ (by simp) k1;simp at hgg;obtain⟨rfl,rfl⟩:=hgg;have ow2:bQ kX g:=⟨0,sz,k1⟩;have air:∀a u,Rd (fun g0=>X g0\/(bQ φ g0/\g0≠g)) kX w1 a u->Rd X φ w1 a u:=fun a u ⟨h1,h2,h3⟩=>⟨fun h=>h1 (.inl h),fun ho=>h1 (.inr ⟨ho,fun e=>h2 (by rw[e]; exact ow2)⟩),h3⟩;have m6:fU φ w φ w1:=⟨ad.os,ad.tape,ad.output,ad.drawn,ad.size,fun g0 bD hno'=>⟨(ad.keep g0 bD (fun ho=>hno' (by rw[ow _ ho]; exact og))).1,hno'⟩,.refl _⟩
 have hh2:cK X φ w1 (Ha.set (N.β b) (some cs')):=by
  refine⟨by simp[h.heap.len],fun g0 h0=>ff (h.heap.FC g0 h0) ad.size,fun m ds hm=>?_,fun m hm=>?_,h.heap.inj⟩
  ·rw[bg] at hm;split at hm
   ·rename_i e;subst e;split at hm
    ·simp at hm;subst hm;refine⟨g,sz,arr1,te1,g1,k2,k3,by omega,g5,fun j d hd=>?_⟩;obtain⟨_,a',IQ,hle⟩:=c3 j d hd;obtain⟨u,u1,u2⟩:=k6 j a' IQ;have hpd:=fv W9 j d hd;rw[si N1 _ hpd] at hle;exact⟨u,u1,((hle _ _ _ u2).dY (gG _ hpd) _).mono air (.refl _)⟩
    ·cases hm
   ·rename_i kj;obtain⟨g0,uV,VD,e0,p1,p2,p3,p4,p5,p6⟩:=h.heap.live m ds hm;have hg0:g0≠g:=fun e=>kj (h.heap.inj _ _ _ _ _ g1 (e▸p1));refine⟨g0,uV,VD,e0,p1,?_,p3,p4,p5,fun j d hd=>?_⟩
    ·rw[(ad.keep g0 (dS.1 p2).1 (fun ho=>hg0 (ow _ ho))).1]; exact p2
    ·obtain⟨u,u1,u2⟩:=p6 j d hd;exact⟨u,u1,m6.rep u2⟩
  ·rw[bg] at hm;split at hm
   ·split at hm<;>simp at hm
   ·exact h.heap.dead m hm
 have hlen:(s.H.set b (some cs')).length=s.H.length:=by simp
 have P3:fx X φ w1 N ⟨s.env,s.H.set b (some cs')⟩ (Ha.set (N.β b) (some cs')) (tm a):=h.acq hb O9 W9 m6 hh2 (by rw[eF,if_pos ⟨rfl,eI b1⟩]) fun m hm=>by rw[eF,if_neg (fun h=>hm h.1)]
 have hno2:=uH hpr;have r0:=gJ.env 0;simp only[Am.get,if_true] at r0;rw[yS N1 0 hpr] at r0;refine hK v' w1 φ (eR.quiet P3 ⟨Gw.1,by show base<=(s.H.set b (some cs')).length; rw[hlen]; exact Gw.2⟩ (vI v hpr) (nu hno2) ?_) m6;rw[mg N hno2,lz N _ hpr];exact (r0.dY (gG _ hpr) _).mono air (.refl _)
theorem akQ (dG:gF P c) (eQ:ji P c call) {X:Nat->Prop} {φ:dQ} {w:World} {B:Nat->Nat} {base:Nat} {s s1:St} {o:Oper} {a:Act} {v:AV} {fq:Fq} {f i:Nat} {es:List E} (hk:dz P o.op (nS (.call f es))=true) (h:SB X φ w B base s (tm a)) (hg:Am.e9 (ju c) X φ w) (hs:TY c call f i s (dX c s.env es)=some (v,s1,fq)):nW P X φ w B base s1 v o a:=by
 unfold TY at hs;split at hs
 case h_2=>cases hs
 rename_i md q k p len hf HR;split at hs
 case h_2=>cases hs
 rename_i k' xs hp;split at hs
 case isFalse=>cases hs
 rename_i hc;obtain⟨kb,rfl,rfl,pq⟩:=hc;split at hs
 case h_2=>cases hs
 rename_i k2 ys H' M5;simp only[ai,aP] at hs;obtain⟨rfl,rfl,_⟩:=hs;obtain⟨N,Ha,h,hb⟩:=h;obtain⟨vargs,mY,hA,Aj⟩:=ny (kd:=.call f es) (args:=dX c s.env es) dG h hg hk rfl hf;generalize dX c s.env es=args at HR pq M5 hA Aj;have hil:i<args.length:=aC HR;have fc:=h.own p k' xs hp;have hpo:(aD s p).isSome:=by rw[hp]; rfl
 obtain⟨vi,hvi⟩:=dc (l:=vargs) (i:=i) (by have:=hA.1; omega);have ri:=hA.2 i _ vi HR hvi;simp only[ig,df,qk] at ri
 -- the other arguments
 have oth:∀(j:Nat) (x:AV) (u:Value),j≠i->((args.map eV).set i (.own k' xs))[j]?=some x->vargs[j]?=some u->pl x=true/\cB (Rd X φ w) [] x u:=by
  intro j x u hj hx hu;rw[bT (fM hj),ct] at hx;cases haj:args[j]? with
  |none=>rw[haj] at hx; cases hx
  |some y=>
    rw[haj] at hx;simp at hx;subst hx;have UP:=fv pq j (eV y) (by rw[bT (fM hj),ct,haj]; rfl);refine⟨UP,?_⟩;have r0:=hA.2 j y u haj hu;by_cases ho:∃k,y=.own k []
    ·obtain⟨k,rfl⟩:=ho;simp only[ig] at r0;cases r0;exact .kJ _ _
    ·have hn:eV y=y:=by
      unfold eV;split
      ·rename_i k; exact absurd ⟨k,rfl⟩ ho
      ·rfl
     rw[hn] at UP ⊢;have hy:ig N y=y:=by cases y<;>first|exact lz N _ UP|(simp[pl] at UP; done)
     rw[hy] at r0;exact r0.dY (gG _ UP) []
 have Gv:∀j,Am.get (eC 0 ((args.map eV).set i (.own k' xs))) j=((args.map eV).set i (.own k' xs))[j]?.getD .any:=fun j=>by rw[sy]; simp
 have hgii:Am.get (eC 0 ((args.map eV).set i (.own k' xs))) i=.own k' xs:=by rw[Gv,bg]; simp[hil]
 have Bb:∀j,j≠i->pl (Am.get (eC 0 ((args.map eV).set i (.own k' xs))) j)=true:=by
  intro j hj;rw[Gv];cases e:((args.map eV).set i (.own k' xs))[j]? with
  |none=>rfl
  |some x=>
    rw[bT (fM hj)] at e;exact fv pq j x (by rw[bT (fM hj)]; exact e)
 have aeZ:∀p',(aD ⟨eC 0 ((args.map eV).set i (.own k' xs)),[]⟩ p').isSome->p'=.s i:=by
  intro p' e;cases p' with
  |s j=>
    by_cases hj:j=i
    ·rw[hj]
    ·rw[(eH (s:=⟨eC 0 ((args.map eV).set i (.own k' xs)),[]⟩) (uH (Bb j hj))).1] at e; cases e
  |sc j l=>
    by_cases hj:j=i
    ·subst hj;unfold aD at_ at e;simp only[hgii] at e;cases e
    ·rw[(eH (s:=⟨eC 0 ((args.map eV).set i (.own k' xs)),[]⟩) (uH (Bb j hj))).2 l] at e; cases e
  |c b j=>unfold aD at e; simp[at_,aO] at e
 have alH:aD ⟨eC 0 ((args.map eV).set i (.own k' xs)),[]⟩ (.s i)=some (k',xs):=by
  unfold aD at_;simp only[hgii]
 -- the callee's state, with the block that goes over, or none
 have start:∀(og:Option Nat) (X':Nat->Prop) (φc:dQ) (Hac:Heap) (ν:Option Nat),(∀a u,Rd X φ w a u->Rd X' φc w a u)->cK X' φc w Hac->pd Hac ν k' xs->cB (Rd X' φc w) φc (match ν with
   |some n=>.sl k' n 0 xs.length
   |none=>.dO) vi->SB X' φc w (fun _=>0) 0 ⟨eC 0 ((args.map eV).set i (.own k' xs)),[]⟩ (fun j=>vargs.getD j undef):=by
  intro og X' φc Hac ν rY hh ho rv;refine⟨⟨fun _=>0,fun p'=>if p'=.s i then ν else none⟩,Hac,⟨fun j=>?_,fun j=>?_,hh,fun p' k0 xs0 e=>?_,fun b cs e=>by simp[aO] at e,fun p' q' m e1 e2=>?_,fun b p' e1=>by simp[aO] at e1,fun b d e1=>by simp[aO] at e1⟩,fun b hb=>by omega,Ml _⟩
  ·by_cases hj:j=i
   ·subst hj;rw[hgii];simp only[lK,kf,tJ,if_true];rw[bn,hvi];exact rv
   ·rw[yS _ _ (Bb j hj)];rw[Gv];cases e:((args.map eV).set i (.own k' xs))[j]? with
    |none=>exact .any _ _
    |some x=>
      have hjl:=aC e;simp at hjl;obtain⟨u,hu⟩:=dc (l:=vargs) (i:=j) (by have:=hA.1; omega);simp only[iQ];rw[bn,hu];obtain⟨hpx,rx⟩:=oth j x u hj e hu;exact ((rx.mono rY (.refl _)).dY (gG _ hpx) _)
  ·by_cases hj:j=i
   ·subst hj; show c9 _ _ (Am.get _ j); rw[hgii]; trivial
   ·exact vI _ (Bb j hj)
  ·have:=aeZ p' (by rw[e]; rfl);subst this;rw[alH] at e;cases e;simp only[if_true];exact ho
  ·rw[aeZ p' e1,aeZ q' e2]; exact fun _ _=>rfl
 -- the end
 have fin:∀(n:Nat) (og:Option Nat) (X':Nat->Prop) (φc:dQ),(∀g,og=some g->∃sz,φ[n]?=some (some (g,sz)))->(og=none->φ.length<=n)->(N.ν p=some n\/φ.length<=n)->(∀g,X g->X' g)->(∀g,bQ φ g->og≠some g->X' g)->(∀g,bQ φc g->og=some g)->∀{e:Ending} {w1:World},Nf X' φc w (fun _=>0) 0 (.own k2 ys) H' e w1->∃v',e=.returned v'/\∃ kX,eR X kX w1 B base (setAt (cE (sw p) s) p .any) (.own k2 ys) (tm a) v'/\fU φ w kX w1:=by
  intro n og X' φc h1 h2 hn hX hX2 hφc e w1 hr;obtain⟨v',kX,rfl,⟨N1,H1,gJ,_⟩,ad⟩:=hr;have E4:∀g,g<w.heap.size->og≠some g->w1.heap[g]?=w.heap[g]?/\¬ bQ kX g:=fun g bD hg=>ad.keep g bD fun ho=>hg (hφc g ho);have ho1:aD ⟨[(0,.own k2 ys)],H'⟩ (.s 0)=some (k2,ys):=rfl;have UQ:=gJ.own (.s 0) k2 ys ho1;have r0:=gJ.env 0;simp only[Am.get,if_true,lK,kf,tJ] at r0;cases kW:N1.ν (.s 0) with
  |none=>
    rw[kW] at UQ r0;have hy0:ys=[]:=UQ;subst hy0;simp only at r0;cases r0;obtain⟨hh,ad2⟩:=abJ h.heap h1 (fun g bD hg=>(E4 g bD hg).1) ad.os ad.tape ad.output ad.drawn ad.size;have P3:=h.Nc hp ad2 hh hn fun m FE _=>by unfold aO; rw[bT (fM FE)]
    obtain⟨_,_,d3⟩:=h.drop hp;exact⟨_,rfl,_,eR.quiet P3 ⟨hb.1,by rw[d3.len]; exact hb.2⟩ trivial rfl (.dO _),ad2⟩
  |some n1=>
    rw[kW] at UQ r0;simp only at r0;obtain⟨g',nF,hφ1,hX1,kQ⟩:=sk gJ.heap UQ;obtain⟨cs,c1,c2,c3,c4⟩:=UQ;obtain⟨g3,sz3,arr,te,f1,f2,f3,f4,f5,f6⟩:=gJ.heap.at c1;rw[hφ1] at f1;cases f1
    have hys:(∀y∈ys,y.cells.length=k2)/\∀ y∈ys,∀d∈y.cells,fz d=true:=by
     refine⟨c3,fun y hy d hd=>?_⟩;obtain⟨i',Ba⟩:=bH hy;obtain⟨j,hj⟩:=bH hd;obtain⟨_,_,q,_⟩:=kQ i' j y d Ba hj;exact q
    have hgo1:og=some g'\/w.heap.size<=g':=by
     by_cases bD:g'<w.heap.size
     ·left;apply ep;intro kj;exact (E4 g' bD kj).2 ⟨n1,nF,hφ1⟩
     ·right; omega
    generalize hv:v'=vv at r0;cases r0 with
    |sl _ _ _ _ _ ad0 cap iK je hh=>
      obtain⟨M7,ha2⟩:=hh g' nF hφ1;subst hv;refine agH (T:=fun g2 _ a u=>Rd X' kX w1 a u/\a.block≠g2) h hb hp h1 h2 hn hys (.inl ⟨g',cap,arr,te,ad0,rfl,M7,je,by omega,f2,fun i' d hd=>?_,hgo1,fun g bD hg=>(E4 g bD hg).1,ad.os,ad.tape,ad.output,ad.drawn,ad.size⟩) ?_
      ·obtain⟨i2,z,j,z1,z2,z3⟩:=(fS c3).2 i' d hd;obtain⟨u,u1,u2,u3⟩:=kQ i2 j z d z1 z2;refine⟨u,by rw[gN f2] at u1; rw[z3]; exact u1,u3.mono (fun a u hr=>⟨hr,fun e=>hr.2.1 ⟨n1,nF,by rw[e]; exact hφ1⟩⟩) (.refl _)⟩
      ·rintro g2 sz2 a u ⟨⟨q1,q2,q3⟩,q4⟩;refine⟨fun hx=>q1 (hX _ hx),fun ho=>?_,q3⟩;rcases rV ho with ho|ho
       ·refine q1 (hX2 _ (vF ho) fun e=>?_);obtain⟨sz,e2⟩:=h1 _ e;obtain⟨b,uV,e3⟩:=ho;rw[bg] at e3;split at e3
        ·split at e3<;>simp at e3
        ·rename_i kj;exact kj (h.heap.inj n b _ _ _ e2 e3)
       ·exact q4 ho
 cases kW:N.ν p with
 |none=>
   rw[kW] at fc ri;have DU:xs=[]:=fc;subst DU;have jr:=eQ f md q hf _ [] _ H' (.inr rfl) M5 (fun e=>by rw[kb] at e; cases e) (fun g=>X g\/bQ φ g) [] w (fun _=>0) vargs (by simpa using hA.1) (start none (fun g=>X g\/bQ φ g) [] [] none (fun a u ⟨h1,h2,h3⟩=>⟨fun h=>h.elim h1 h2,bQ.nil _,h3⟩) ⟨rfl,fun g hg=>hg.elim (h.heap.FC g) (fun ho=>(h.heap.gQ ho).1),fun b cs hb=>by simp at hb,fun b hb=>by simp at hb,fun b b' g sz nF h1=>by simp at h1⟩ rfl (by cases ri; exact .dO _)) (RM hg fun g h=>h);intro K Q hK;unfold Oper.wp;rw[mY,Oper.upon_enter];refine jr.mono ?_;intro e w1 hr;obtain⟨v',rfl,kX,xe,ad⟩:=fin φ.length none _ [] (fun _ h=>by cases h) (fun _=>aY _) (.inr (aY _)) (fun g h=>.inl h) (fun g h _=>.inr h) (fun g h=>(bQ.nil g h).elim) hr;exact hK v' w1 kX xe ad
 |some n=>
   rw[kW] at fc ri;obtain⟨g2,sz2,UL,hX2,hc3⟩:=sk h.heap fc;obtain⟨cs,c1,c2,c3,c4⟩:=fc;obtain⟨g3,sz,arr,te,b1,b2,b3,b4,b5,b6⟩:=h.heap.at c1;rw[UL] at b1;cases b1
   have one:∀g,bQ [some (g2,sz2)] g->g=g2:=by
    rintro g ⟨b,s0,e⟩;cases b with
    |zero=>simp at e; exact e.1.symm
    |succ b=>simp at e
   have rY:∀a u,Rd X φ w a u->Rd (fun g=>X g\/(bQ φ g/\g≠g2)) [some (g2,sz2)] w a u:=fun a u ⟨h1,h2,h3⟩=>⟨fun h=>h.elim h1 fun q=>h2 q.1,fun ho=>h2 ⟨n,sz2,by rw[one _ ho]; exact UL⟩,h3⟩
   have hh:cK (fun g=>X g\/(bQ φ g/\g≠g2)) [some (g2,sz2)] w [some (aI xs)]:=by
    refine⟨rfl,fun g hg=>hg.elim (h.heap.FC g) (fun ho=>(h.heap.gQ ho.1).1),fun b ds hb=>?_,fun b hb=>?_,fun b b' g sz nF e1 e2=>?_⟩
    ·cases b with
     |succ b=>simp at hb
     |zero=>
       simp at hb;subst hb;refine⟨g2,sz2,arr,te,rfl,b2,b3,by rw[iq c3]; omega,fun h=>h.elim hX2 fun q=>q.2 rfl,fun i' d hd=>?_⟩;obtain⟨i2,z,j,z1,z2,z3⟩:=(fS c3).2 i' d hd;obtain⟨u,u1,u2,u3⟩:=hc3 i2 j z d z1 z2;exact⟨u,by rw[gN b2] at u1; rw[z3]; exact u1,(u3.mono rY (.refl _)).EU _⟩
    ·cases b with
     |succ b=>simp at hb
     |zero=>simp at hb
    ·cases b with
     |succ b=>simp at e1
     |zero=>cases b' with
       |succ b'=>simp at e2
       |zero=>rfl
   have Xd:Am.e9 (ju c) (fun g=>X g\/(bQ φ g/\g≠g2)) [some (g2,sz2)] w:=fun g=>(hg g).mono rY (.refl _)
   have ho':pd [some (aI xs)] (some 0) k' xs:=⟨aI xs,rfl,by rw[iq c3]; exact aY _,c3,fun i' d hd=>by
    obtain⟨i2,z,j,z1,z2,z3⟩:=(fS c3).2 i' d hd;obtain⟨u,u1,u2,u3⟩:=hc3 i2 j z d z1 z2;exact⟨u2,d,hd,(kD u2).2,Le.refl _⟩⟩
   have rv:cB (Rd (fun g=>X g\/(bQ φ g/\g≠g2)) [some (g2,sz2)] w) [some (g2,sz2)] (.sl k' 0 0 xs.length) vi:=by
    simp only at ri;generalize vi=vv at ri;cases ri with
    |sl _ _ _ _ _ ad cap iK je hh'=>
      obtain⟨M7,ha2⟩:=hh' g2 sz2 UL;refine .sl _ _ _ _ _ _ _ (by simp) je fun g0 uV e0=>?_;simp at e0;obtain⟨rfl,rfl⟩:=e0;exact⟨M7,ha2⟩
   have jr:=eQ f md q hf _ [] _ H' (.inr rfl) M5 (fun e=>by rw[kb] at e; cases e) _ _ w (fun _=>0) vargs (by simpa using hA.1) (start (some g2) _ _ _ (some 0) rY hh ho' rv) Xd;intro K Q hK;unfold Oper.wp;rw[mY,Oper.upon_enter];refine jr.mono ?_;intro e w1 hr;obtain⟨v',rfl,kX,xe,ad⟩:=fin n (some g2) _ [some (g2,sz2)] (fun g e=>by cases e; exact⟨sz2,UL⟩) (fun e=>by cases e) (.inl kW) (fun g h=>.inl h) (fun g h kj=>.inr ⟨h,fun e=>kj (by rw[e])⟩) (fun g h=>by rw[one g h]) hr;exact hK v' w1 kX xe ad
theorem SG:∀(l:List AV) (n:Nat) {i b off len:Nat},FI n l=some (i,b,off,len)->∃j,i=n+j/\l[j]?=some (.sl 1 b off len)
 |[],n,i,b,off,len,h=>by simp[FI] at h
 |x::r,n,i,b,off,len,h=>by
   have go:FI (n+1) r=some (i,b,off,len)->∃j,i=n+j/\(x::r)[j]?=some (.sl 1 b off len):=fun h=>by
    obtain⟨j,h1,h2⟩:=SG r (n+1) h;exact⟨j+1,by omega,by simpa using h2⟩
   cases x<;>simp only[FI] at h<;>try exact go h
   rename_i k b' off' len';split at h
   ·rename_i hk;subst hk;simp only[ai,aP] at h;obtain⟨rfl,rfl,rfl,rfl⟩:=h;exact⟨0,by omega,rfl⟩
   ·exact go h
theorem D3 {s s1:St} {kd:Kd} {v:AV} {fl:Fq} (h:D4 c call s kd=some (v,s1,fl)):∃f args md q i b off len cs H',getArgs c s.env kd=some (f,args)/\c.fn f=some (md,q)/\FI 0 args=some (i,b,off,len)/\args[i]?=some (.sl 1 b off len)/\aO s.H b=some cs/\(((md.cl=false/\md.sh=false)/\(off+len<=cs.length/\U7 cs=true))/\dP ((args.map eV).set i .undef)=true)/\call f ((args.map eV).set i (.list 1 ((cs.drop off).take len))) []=some (v,H')/\pl v=true/\s1=⟨s.env,s.H.set b none⟩/\fl=.all:=by
 unfold D4 at h;split at h
 ·cases h
 rename_i f args ha;split at h
 case h_2=>cases h
 rename_i md q i b off len hf hs;split at h
 case h_2=>cases h
 rename_i cs hb;split at h
 case isFalse=>cases h
 rename_i hc;split at h
 case h_2=>cases h
 rename_i r H' hr;split at h
 case isFalse=>cases h
 rename_i hp;simp only[ai,aP] at h;obtain⟨rfl,rfl,rfl⟩:=h;obtain⟨j,h1,h2⟩:=SG args 0 hs;have:i=j:=by omega
 subst this;exact⟨f,args,md,q,i,b,off,len,cs,H',ha,hf,hs,h2,hb,hc,hr,hp,rfl,rfl⟩
theorem AQ {s s1:St} {kd:Kd} {v:AV} {f:Fq} (h:D4 c call s kd=some (v,s1,f)):f=.all/\aU v=[]:=by
 obtain⟨f,args,md,q,i,b,off,len,cs,H',_,_,_,_,_,_,_,hp,_,hf⟩:=D3 h;exact⟨hf,Kl _ hp⟩
theorem Yb {s:St} {kd:Kd} {x:AV × St × Fq} (h:D4 c call s kd=some x):∃n args H r H',call n args H=some (r,H')/\∀ g:Nat->List AV->Heap->Option (AV × Heap),g n args H=some (r,H')->D4 c g s kd=some x:=by
 obtain⟨v,s1,fl⟩:=x;obtain⟨f,args,md,q,i,b,off,len,cs,H',ha,hf,hs,hi,hb,hc,hr,hp,rfl,rfl⟩:=D3 h;refine⟨_,_,_,_,_,hr,fun g hg=>?_⟩;unfold D4;rw[ha];simp only[hf,hs,hb];rw[if_pos hc,hg];simp only;rw[if_pos hp]
theorem aco {s:St} {kd:Kd} {x:AV × St × Fq} (h:D4 c call s kd=some x) (g:Nat->List AV->Heap->Option (AV × Heap)):eU c g kd s=none:=by
 obtain⟨v,s1,fl⟩:=x;obtain⟨f,args,md,q,i,b,off,len,cs,H',ha,hf,hs,hi,hb,⟨⟨⟨h1,h2⟩,h3⟩,h4⟩,hr,hp,rfl,rfl⟩:=D3 h
 have hbor:dL args=[]:=by
  cases e:dL args with
  |nil=>rfl
  |cons p r=>
    exfalso;obtain⟨j,z,hz,hpz⟩:=I3 (cs:=args) (p:=p) (by rw[e]; simp);by_cases hj:j=i
    ·subst hj;rw[hi] at hz;cases hz;simp[aU] at hpz
    ·have:=fv h4 j (eV z) (by rw[bT (fM hj),ct,hz]; rfl);by_cases ho:∃k,z=.own k []
     ·obtain⟨k,rfl⟩:=ho;simp[aU] at hpz
     ·have hn:eV z=z:=by
       unfold eV;split
       ·rename_i k; exact absurd ⟨k,rfl⟩ ho
       ·rfl
      rw[hn] at this;rw[Kl _ this] at hpz;cases hpz
 have hnp:dP (args.map eV)=false:=by
  cases e:dP (args.map eV) with
  |false=>rfl
  |true=>
    have:=fv e i (eV (.sl 1 b off len)) (by rw[ct,hi]; rfl);simp[eV,pl] at this
 unfold eU;rw[ha];simp only[hf,h1,h2,Bool.false_and,bz,if_false,hbor,eO,ha,if_true,hnp]
theorem j9 {s s1:St} {kd:Kd} {v:AV} {f:Fq} (h:uc c call kd s=some (v,s1,f)):eU c call kd s=some (v,s1,f)\/D4 c call s kd=some (v,s1,f):=by
 unfold uc at h;split at h
 ·rename_i x hx;rw[hx];exact .inl h
 ·exact .inr h
theorem tj {s:St} {kd:Kd} {x:AV × St × Fq} (h:eU c call kd s=some x):uc c call kd s=some x:=by
 unfold uc;rw[h]
theorem LJ {s:St} {kd:Kd} {x:AV × St × Fq} (h:D4 c call s kd=some x):uc c call kd s=some x:=by
 unfold uc;rw[aco h];exact h
theorem fx.ahb {X:Nat->Prop} {φ:dQ} {w:World} {N:Names} {s:St} {Ha:Heap} {t:Nat->Value} (h:fx X φ w N s Ha t) {b:Nat} {cs:List AV} (hb:aO s.H b=some cs) (O9:dP cs=true):fx X (φ.set (N.β b) none) w N ⟨s.env,s.H.set b none⟩ (Ha.set (N.β b) none) t:=by
 obtain⟨hh,ad⟩:=h.heap.UB (N.β b);have hbn:aO (s.H.set b none) b=none:=by unfold aO; rw[List.getElem?_set_self (eI hb)]
 have hoa:∀p,aD ⟨s.env,s.H.set b none⟩ p=aD s p:=by
  intro p;cases p with
  |s i=>rfl
  |sc i j=>rfl
  |c d j=>
    by_cases e:d=b
    ·subst e;rw[vB (e:=s.env) (H:=s.H.set d none) (d:=d) (j:=j) fun ds hd=>by rw[hbn] at hd; cases hd];exact (vB (e:=s.env) (H:=s.H) (d:=d) (j:=j) fun ds hd=>by rw[hb] at hd; cases hd; exact O9).symm
    ·simp only[aD,at_];rw[o8 (fM e)]
 have hfe:aD ⟨s.env,s.H.set b none⟩=aD s:=funext hoa;have hlen:(s.H.set b none).length=s.H.length:=by simp
 have hblk:∀d ds,aO (s.H.set b none) d=some ds->d≠b/\aO s.H d=some ds:=by
  intro d ds e;by_cases e2:d=b
  ·subst e2;rw[hbn] at e;cases e
  ·rw[o8 (fM e2)] at e;exact⟨e2,e⟩
 have Lo:∀d,(aO (s.H.set b none) d).isSome->(aO s.H d).isSome:=by
  intro d e;obtain⟨ds,hd⟩:=aV.1 e;rw[(hblk d ds hd).2]; rfl
 have IP:(aO s.H b).isSome:=by rw[hb]; rfl
 refine⟨fun i=>ad.rep (h.env i),fun i=>?_,hh,fun p k xs e=>?_,fun d ds e=>?_,fun p q n e1 e2=>?_,fun d p e1 e2=>?_,fun d e0 e1 e2 e3=>?_⟩
 ·rw[hfe];show c9 _ (s.H.set b none).length _;rw[hlen]; exact h.Ib i
 ·rw[hoa] at e;have ho:=h.own p k xs e;cases hn:N.ν p with
  |none=>rw[hn] at ho; exact ho
  |some m=>
    rw[hn] at ho;obtain⟨ds,d1,d2⟩:=ho;have kj:m≠N.β b:=fun e2=>h.bx b p IP (by rw[e]; rfl) (by rw[hn,e2]);exact⟨ds,by rw[o8 (fM kj)]; exact d1,d2⟩
 ·obtain⟨hd,DA⟩:=hblk d ds e;obtain⟨as2,x1,x2,x3⟩:=h.box d ds DA;have kj:N.β d≠N.β b:=fun h2=>hd (h.bi d b (by rw[DA]; rfl) IP h2);refine⟨as2,by rw[o8 (fM kj)]; exact x1,x2,fun j d' hd'=>?_⟩;obtain⟨y1,y2⟩:=x3 j d' hd';refine⟨?_,y2⟩;rw[hfe];show c9 _ (s.H.set b none).length _;rw[hlen]; exact y1
 ·rw[hoa] at e1 e2; exact h.inj p q n e1 e2
 ·rw[hoa] at e2; exact h.bx d p (Lo d e1) e2
 ·exact h.bi d e0 (Lo d e1) (Lo e0 e2) e3
theorem akO (dG:gF P c) (eQ:ji P c call) {X:Nat->Prop} {φ:dQ} {w:World} {B:Nat->Nat} {base:Nat} {s s1:St} {o:Oper} {a:Act} {kd:Kd} {v:AV} {fq:Fq} (hk:dz P o.op (nS kd)=true) (h:SB X φ w B base s (tm a)) (hg:Am.e9 (ju c) X φ w) (hs:D4 c call s kd=some (v,s1,fq)):nW P X φ w B base s1 v o a:=by
 obtain⟨f,args,md,q,i,b,off,len,cs,H',ha,hf,hsl,hi,hb,⟨⟨⟨h1,kb⟩,hle,E5⟩,pq⟩,hc,hr,rfl,rfl⟩:=D3 hs;obtain⟨N,Ha,h,Gw⟩:=h;obtain⟨vargs,mY,hA,Aj⟩:=xk dG h hg hk ha hf;have O9:dP cs=true:=Km fun y hy=>(kD (lh E5 y hy)).1;have hce:∀y∈cs,y.cells=[y]:=fun y hy=>U6 (lh E5 y hy);obtain⟨hh,had⟩:=h.heap.UB (N.β b);have hk2:=h.ahb hb O9;have hil:i<args.length:=aC hi;obtain⟨as,b1,b2,b3⟩:=h.box b cs hb
 have fc:pd (Ha.set (N.β b) (some cs)) (some (N.β b)) 1 cs:=⟨cs,by rw[eF,if_pos ⟨rfl,eI b1⟩],by omega,fun x hx=>by rw[hce x hx]; rfl,fun j d hd=>by
  rw[IV hce] at hd;have DA:=lh E5 d (bt hd);exact⟨DA,d,hd,(kD DA).2,Le.refl _⟩⟩
 have hH1:cK X φ w (Ha.set (N.β b) (some cs)):=less h.heap b1 (by omega) fun j d hd=>by
  obtain⟨_,a',a1,a2⟩:=b3 j d hd;rw[si N _ (fv O9 j d hd)] at a2;exact⟨a',a1,a2⟩
 have rY:∀a u,Rd X (φ.set (N.β b) none) w a u->Rd (fun g=>X g\/bQ (φ.set (N.β b) none) g) [] w a u:=fun a u ⟨h1,h2,h3⟩=>⟨fun h=>h.elim h1 h2,bQ.nil _,h3⟩
 have hpl2:dP ((args.map eV).set i (.list 1 ((cs.drop off).take len)))=true:=Km fun y hy=>by
  obtain⟨j,hj,hy2⟩:=List.getElem_of_mem hy;have hy3:=(an hj).trans (congrArg some hy2);by_cases e:j=i
  ·subst e;rw[bg] at hy3;simp[hil] at hy3;rw[<-hy3]; rfl
  ·rw[bT (fM e)] at hy3;exact fv pq j y (by rw[bT (fM e)]; exact hy3)
 have IK:=SB.start (X:=fun g=>X g\/bQ (φ.set (N.β b) none) g) (w:=w) (args:=(args.map eV).set i (.list 1 ((cs.drop off).take len))) (vargs:=vargs) (fun g hg=>hg.elim (h.heap.FC g) (fun ho=>(hh.gQ ho).1)) hpl2 (by simpa using hA.1) (fun j x v hx hv=>by
  by_cases e:j=i
  ·subst e;rw[bg] at hx;simp[hil] at hx;subst hx;have r0:=hA.2 j _ v hi hv;simp only[ig,df] at r0;exact (DL hH1 fc hle (by simpa using r0) []).mono rY (.refl _)
  ·rw[bT (fM e),ct] at hx;cases HR:args[j]? with
   |none=>rw[HR] at hx; cases hx
   |some y=>
     rw[HR] at hx;simp at hx;subst hx;have r0:=hA.2 j y v HR hv;have UP:=fv pq j (eV y) (by rw[bT (fM e),ct,HR]; rfl);by_cases ho:∃k,y=.own k []
     ·obtain⟨k,rfl⟩:=ho;simp only[ig] at r0;cases r0;exact .kJ _ _
     ·have hn:eV y=y:=by
       unfold eV;split
       ·rename_i k; exact absurd ⟨k,rfl⟩ ho
       ·rfl
      rw[hn] at UP ⊢;rw[Nu N UP] at r0;exact (r0.dY (gG _ UP) []).mono (fun a u hr=>rY a u (had.rd a u hr)) (.refl _)) (fun _=>0)
 have jr:=eQ f md q hf _ [] v H' (.inr rfl) hc (fun e=>by rw[kb] at e; cases e) (fun g=>X g\/bQ (φ.set (N.β b) none) g) [] w (fun _=>0) vargs (by simpa using hA.1) IK (RM (hg.m6 had) fun g h=>h);intro K Q hK;unfold Oper.wp;rw[mY,Oper.upon_enter];refine jr.mono ?_;rintro e w1 ⟨v',kX,rfl,⟨N1,H1,gJ,_⟩,ad⟩;have iS:=uH hr;have hlen:(s.H.set b none).length=s.H.length:=by simp
 refine hK v' w1 (φ.set (N.β b) none) (eR.quiet (hk2.m6 (.of_same ad) (hh.of_same ad) hk2.own (fun _ _=>rfl)) ⟨Gw.1,by show base<=(s.H.set b none).length; rw[hlen]; exact Gw.2⟩ (vI v hr) (nu iS) ?_) (had.trans (.of_same ad));have r0:=gJ.env 0;simp only[Am.get,if_true] at r0;rw[yS N1 0 hr] at r0;rw[mg N iS,lz N _ hr];exact ((r0.dY (gG _ hr) []).mono (fun a u ⟨h1,_,h3⟩=>⟨fun h=>h1 (.inl h),fun h=>h1 (.inr h),h3⟩) (.refl _)).EU _
theorem Kx (dG:gF P c) (rG:AG P c) (eQ:ji P c call) (kb:Mj P c call) {X:Nat->Prop} {φ:dQ} {w:World} {B:Nat->Nat} {base:Nat} {s s1:St} {o:Oper} {a:Act} {kd:Kd} {v:AV} {fq:Fq} (hk:dz P o.op (nS kd)=true) (h:SB X φ w B base s (tm a)) (hg:Am.e9 (ju c) X φ w) (hs:dZ c call kd s=some (v,s1,fq)):nW P X φ w B base s1 v o a:=by
 unfold dZ at hs;cases hi:rF c s kd with
 |none=>
   rw[hi] at hs;cases hl:nY c call s kd with
   |none=>
     rw[hl] at hs;simp only[ia] at hs;cases hm:uI c call s kd with
     |none=>
       rw[hm] at hs;rcases j9 hs with hs|hs
       ·exact aby dG eQ kb hk h hg hs
       ·exact akO dG eQ hk h hg hs
     |some r=>
       rw[hm] at hs;simp only at hs;subst hs;unfold uI at hm;split at hm
       case h_2=>cases hm
       rename_i f es;split at hm
       case h_2=>cases hm
       rename_i i hi;simp only[ai] at hm;obtain⟨kX,h1,a1⟩:=SB.eO (dL ((dX c s.env es).set i .undef)) h;exact nW.ghost a1 (akQ dG eQ hk h1 (hg.m6 a1) hm)
   |some r=>
     rw[hl] at hs;simp only at hs;subst hs;exact akT dG eQ hk h hg hl
 |some r=>
   rw[hi] at hs;simp only at hs;subst hs;exact akZ dG rG hk h hg hi
theorem ai5 (dG:gF P c) (rG:AG P c) (eQ:ji P c call) (kb:Mj P c call):PK P c call:=by
 intro X φ w B base s o a kd v s1 f hk hs h hg;cases hc:nM kd with
 |false=>exact akK dG.mixed h hg hk hc hs
 |true=>
   cases kd<;>simp[nM] at hc
   ·simp only[gH] at hs; exact Kx dG rG eQ kb hk h hg hs
   ·simp only[gH] at hs; exact Kx dG rG eQ kb hk h hg hs
end
end Go.Bm

/- A call of a function of the program, from a world of which nothing is known but how the arguments read; given what is still to be shown. -/
namespace Go.Bm
open Go.Am
section
variable {P:Program} {c:fe}
theorem Wl (dG:gF P c) (rG:AG P c) (Ai:AD P c) (hshc:∀call,ji P c call->Mj P c call) (hdr:∀call,ji P c call->Mk P c call) (kb:∀n,VH P c n->ShOK P c n) (n:Nat):VH P c n:=
 Jl (fun call hc=>ai5 dG rG hc (hshc call hc)) hdr (fun n hs=>PE dG Ai hs (kb n hs)) n
theorem ab0 (dG:gF P c) {call:Nat->List AV->Heap->Option (AV × Heap)} (eQ:ji P c call) {f:Nat} {md:Md} {q:fK} (hf:c.fn f=some (md,q)) (kb:md.sh=false) {args:List AV} (hz:dP args=true) {r:AV} {H':Heap} (h:call f args []=some (r,H')) (hr:pl r=true) {w:World} {vargs:Array Value}
  (ha:tC (fun _=>False) [] w args vargs) (hg:Am.e9 (ju c) (fun _=>False) [] w):Calls P f vargs w (fun e w'=>∃v,e=.returned v/\cB (Rd (fun _=>False) [] w') [] r v/\RowKit.Below w.heap.size w w'):=by
 have IK:=SB.start (X:=fun _=>False) (w:=w) (args:=args) (vargs:=vargs) (fun g hg=>hg.elim) hz ha.1 ha.2 (fun _=>0);refine (eQ f md q hf args [] r H' (.inr rfl) h (fun e=>by rw[kb] at e; cases e) (fun _=>False) [] w (fun _=>0) vargs ha.1 IK hg).mono ?_;rintro e w1 ⟨v',kX,rfl,⟨N1,H1,gJ,_⟩,a1⟩;have r0:=gJ.env 0;simp only[Am.get,if_true] at r0;rw[yS N1 0 hr] at r0;refine⟨v',rfl,(r0.dY (gG _ hr) []).mono (fun a u ⟨h1,_,h3⟩=>⟨h1,bQ.nil _,h3⟩) (.refl _),a1.os,a1.tape,a1.output,a1.size,fun k hk=>(a1.keep k hk (bQ.nil k)).1⟩
end
end Go.Bm

/- Regions that draw their order: it makes no difference, given that two steps whose order is open commute. -/
namespace Go.Bm
open Go.Am
section
variable {P:Program} {c:fe} {call:Nat->List AV->Heap->Option (AV × Heap)} {T:St->O->Fq->St->Prop}
abbrev EntB:=Nat × Oper × O × Fq
def XM (P:Program) (c:fe) (T:St->O->Fq->St->Prop):Prop:=
 ∀ X φ w B base N ops s s' (o:Oper) a q f,N<=fR->RT P N ops o (Vl q)=true->T s q f s'->Fz X φ w B base s a N->Am.e9 (ju c) X φ w->∀(K:Act->World->Prop) (Q:Exit->Act->World->Prop),(∀a' w' φ',Fz X φ' w' B base s' a' N->fU φ w φ' w'->K a' w') ->
  if Region.wanted o (yielded ops a.tmps) then o.wp P a w K Q\/(o.asks P a w/\LetsOut Q) else K (a.put o.dst Go.undef) w
def VJ (T:St->O->Fq->St->Prop):Prop:=
 ∀ s x f s1 y g s2,T s x f s1->T s1 y g s2->kC x y=true->jH x f y g=true->∃My,T s y g My/\T My x f s2
def R6 (T:St->O->Fq->St->Prop):List EntB->St->St->Prop
 |[],s,sf=>s=sf
 |p::r,s,sf=>∃s1,T s p.2.2.1 p.2.2.2 s1/\R6 T r s1 sf
theorem R6.RU (hC:VJ T) {x:EntB}:∀{R1 R2:List EntB} {s sf:St},(∀p∈R1,kC p.2.2.1 x.2.2.1=true/\jH p.2.2.1 p.2.2.2 x.2.2.1 x.2.2.2=true)->R6 T (R1++x::R2) s sf->R6 T (x::(R1++R2)) s sf
 |[],R2,s,sf,_,hr=>hr
 |p::R1,R2,s,sf,h,⟨s1,h1,h2⟩=>by
   obtain⟨s2,h3,h4⟩:=R6.RU hC (fun q hq=>h q (by simp[hq])) h2;obtain⟨Gx,hf⟩:=h p (by simp);obtain⟨My,k1,k2⟩:=hC _ _ _ _ _ _ _ h1 h3 Gx hf;exact⟨My,k1,s2,k2,h4⟩
theorem aii (hT:XM P c T) (hC:VJ T) {X:Nat->Prop} {B:Nat->Nat} {base N:Nat} (hN:N<=fR) {ops:Array Oper} {Q:Exit->Act->World->Prop} {sf:St} :
  ∀ (fuel:Nat) (R:List EntB) (listed:Array Bool) (a:Act) (w:World) (φ:dQ) (s:St),R.length=fuel->(∀i,listed.getD i true=false ↔ ∃p∈R,p.1=i)->listed.size=ops.size ->
   XR ops listed->(∀p∈R,ops[p.1]?=some p.2.1/\RT P N ops p.2.1 (Vl p.2.2.1)=true/\∀ e∈p.2.1.after,Region.binds .any e=true->e.on<p.1) ->
   R.Pairwise (fun p q=>p.1<q.1/\(Anc ops p.1 q.1\/(kC p.2.2.1 q.2.2.1=true/\jH p.2.2.1 p.2.2.2 q.2.2.1 q.2.2.2=true)))->R6 T R s sf->Fz X φ w B base s a N->Am.e9 (ju c) X φ w ->
   (∀a' w' φ',Fz X φ' w' B base sf a' N->fU φ w φ' w'->Q .normal a' w')->wpAny P .any ops Q fuel listed a w:=by
 have fin:∀{a:Act} {w:World} {φ:dQ} {s:St},R6 T [] s sf->Fz X φ w B base s a N->(∀a' w' φ',Fz X φ' w' B base sf a' N->fU φ w φ' w'->Q .normal a' w')->Q .normal a w:=by
  intro a w φ s hr hs hQ;obtain rfl:s=sf:=hr;exact hQ a w φ hs (.refl _ _)
 intro fuel
 induction fuel with
 |zero=>
   intro R listed a w φ s hl hls _ _ _ _ hr hs hg hQ;have hR:R=[]:=dC hl;subst hR;refine⟨?_,fin hr hs hQ⟩;rw[List.eq_nil_iff_forall_not_mem];intro i hi;obtain⟨h1,_⟩:=mem_ready.1 hi;obtain⟨p,hp,_⟩:=(hls i).1 h1;cases hp
 |succ fuel ih=>
   intro R listed a w φ s hl hls qj M5 Gu hpw hr hs hg hQ;refine⟨fun hnil=>?_,fun i hi=>?_⟩
   ·cases R with
    |nil=>simp at hl
    |cons p r=>
      exfalso;obtain⟨h1,h2,h3⟩:=Gu p (by simp)
      have:p.1∈Region.ready .any ops listed:=by
       refine mem_ready.2 ⟨(hls p.1).2 ⟨p,by simp,rfl⟩,p.2.1,h1,fun e he hb=>?_⟩;have bD:=h3 e he hb;cases hv:listed.getD e.on false with
       |true=>rfl
       |false=>
         exfalso
         have hlt2:e.on<listed.size:=by
          rw[qj];have:=mU h1;omega
         have hv2:listed.getD e.on true=false:=by
          simp[bn,hlt2] at hv ⊢;exact hv
         obtain⟨q,hq,hq1⟩:=(hls e.on).1 hv2;rcases aK.1 hq with hq|hq
         ·subst hq; omega
         ·have:=(PM hpw hq).1;omega
      rw[hnil] at this;cases this
   ·obtain⟨hun,o,ho,km⟩:=mem_ready.1 hi;obtain⟨x,hx,hxi⟩:=(hls i).1 hun;subst hxi;obtain⟨R1,R2,rfl⟩:=List.append_of_mem hx;obtain⟨h1,h2,h3⟩:=Gu x (by simp);rw[h1] at ho;simp at ho;subst ho;have hpw':=bP.1 hpw
    have anw:∀p∈R1,kC p.2.2.1 x.2.2.1=true/\jH p.2.2.1 p.2.2.2 x.2.2.1 x.2.2.2=true:=by
     intro p hp;obtain⟨_,hrel⟩:=hpw'.2.2 p hp x (by simp);rcases hrel with hw|hw
     ·exfalso
      have:=M5.Fw hw x.2.1 h1 fun k hk=>by
       obtain⟨e,he,hb,heq⟩:=Ds.1 hk;rw[<-heq]; exact km e he hb
      have hf:=(hls p.1).2 ⟨p,by simp[hp],rfl⟩
      have bD:p.1<listed.size:=by
       rw[qj];exact mU (Gu p (by simp[hp])).1
      simp[bn,bD] at this hf;rw[this] at hf;cases hf
     ·exact hw
    obtain⟨s1,k1,k2⟩:=R6.RU hC anw hr;unfold wpOp;rw[h1];refine hT X φ w B base N ops s s1 x.2.1 a x.2.2.1 x.2.2.2 hN h2 k1 hs hg _ _ fun a' w' φ' UO xf=>?_
    refine ih (R1++R2) _ a' w' φ' _ (by simp at hl ⊢; omega) (fun j=>?_) (by simpa using qj) (fun j oj hj hlj i hi=>?_) (fun p hp=>Gu p (by rcases aG.1 hp with h|h<;>simp[h])) ?_ k2 UO (hg.m6 xf)
     fun a'' w'' ql h'' A6=>hQ a'' w'' ql h'' (xf.trans A6)
    ·have hxlt:x.1<listed.size:=by rw[qj]; exact mU h1
     by_cases hj:j=x.1
     ·subst hj;simp only[bn,Array.getElem?_setIfInBounds_self_of_lt hxlt,iQ];refine⟨(fun h=>by cases h),fun⟨p,hp,hpx⟩=>?_⟩;exfalso;rcases aG.1 hp with h|h
      ·have:=(hpw'.2.2 p h x (by simp)).1; omega
      ·have:=(PM hpw'.2.1 h).1; omega
     ·have kj:x.1≠j:=fun e=>hj e.symm;rw[bn,jy kj,<-bn,hls j];constructor
      ·rintro⟨p,hp,hpj⟩;refine⟨p,?_,hpj⟩;simp at hp ⊢;rcases hp with h|h|h
       ·exact .inl h
       ·subst h; exact absurd hpj.symm hj
       ·exact .inr h
      ·rintro⟨p,hp,hpj⟩;refine⟨p,?_,hpj⟩;simp at hp ⊢;rcases hp with h|h
       ·exact .inl h
       ·exact .inr (.inr h)
    ·have mono:∀k,listed.getD k false=true->(listed.setIfInBounds x.1 true).getD k false=true:=by
      intro k hk;by_cases hkx:x.1=k
      ·subst hkx;have bD:x.1<listed.size:=by rw[qj]; exact mU h1
       simp[bn,bD]
      ·rw[bn,jy hkx,<-bn]; exact hk
     by_cases hjx:x.1=j
     ·subst hjx;rw[h1] at hj;cases hj;obtain⟨e,he,hb,heq⟩:=Ds.1 hi;exact mono i (by rw[<-heq]; exact km e he hb)
     ·refine mono i (M5 j oj hj ?_ i hi);rw[bn,jy hjx,<-bn] at hlj;exact hlj
    ·refine bP.2 ⟨hpw'.1,(List.pairwise_cons.1 hpw'.2.1).2,fun p hp q hq=>hpw'.2.2 p hp q (by simp[hq])⟩

end
end Go.Bm

/- Regions that draw their order, from the machine's own check. -/
namespace Go.Bm
open Go.Am
section
variable {P:Program} {c:fe} {call:Nat->List AV->Heap->Option (AV × Heap)} {T:St->O->Fq->St->Prop}
def KS:Nat->List Oper->List O->List Fq->List EntB
 |k,o::r,q::s,f::t=>(k,o,q,f)::KS (k+1) r s t
 |_,_,_,_=>[]
theorem vK:∀(k:Nat) (os:List Oper) (qs:List O) (fs:List Fq) (j:Nat) (p:EntB),(KS k os qs fs)[j]?=some p->p.1=k+j/\os[j]?=some p.2.1/\qs[j]?=some p.2.2.1/\fs[j]?=some p.2.2.2
 |k,[],qs,fs,j,p,h=>by simp[KS] at h
 |k,_::_,[],fs,j,p,h=>by simp[KS] at h
 |k,_::_,_::_,[],j,p,h=>by simp[KS] at h
 |k,o::r,q::s,f::t,j,p,h=>by
   simp only[KS] at h;cases j with
   |zero=>simp at h; subst h; exact⟨rfl,rfl,rfl,rfl⟩
   |succ j=>
     simp at h;obtain⟨h1,h2,h3,h4⟩:=vK (k+1) r s t j p h;exact⟨by omega,by simpa using h2,by simpa using h3,by simpa using h4⟩
theorem HI:∀(k:Nat) (os:List Oper) (qs:List O) (fs:List Fq),os.length=qs.length->qs.length=fs.length->(KS k os qs fs).length=os.length
 |k,[],[],[],_,_=>rfl
 |k,o::r,q::s,f::t,h1,h2=>by simp[KS]; exact HI (k+1) r s t (by simpa using h1) (by simpa using h2)
 |_,[],_::_,_,h,_=>by simp at h
 |_,_::_,[],_,h,_=>by simp at h
 |_,[],[],_::_,_,h=>by simp at h
 |_,_::_,_::_,[],_,h=>by simp at h
def afP (c:fe) (call:Nat->List AV->Heap->Option (AV × Heap)) (T:St->O->Fq->St->Prop):Prop:=∀s q f s',Ca q.kd=true->tQ c call s q=some (s',f)->(pA f=true->T s q f s')/\T s q .all s'
def K3 (un:List (Nat × Nat)):Nat->List Fq->List Fq
 |_,[]=>[]
 |k,f::r=>(if kL k k un then .all else f)::K3 un (k+1) r
theorem HK (un:List (Nat × Nat)):∀(k:Nat) (fs:List Fq),(K3 un k fs).length=fs.length
 |_,[]=>rfl
 |k,f::r=>by simp[K3,HK un (k+1) r]
theorem Ue (un:List (Nat × Nat)):∀(k:Nat) (fs:List Fq) (j:Nat),(K3 un k fs)[j]?=(fs[j]?).map fun f=>if kL (k+j) (k+j) un then .all else f
 |_,[],j=>by simp[K3]
 |k,f::r,j=>by
   cases j with
   |zero=>simp[K3]
   |succ j=>simp only[K3,nZ,Ue un (k+1) r]; rw[show k+1+j=k+(j+1) by omega]
theorem TH (hS:afP c call T) (un:List (Nat × Nat)):∀(k:Nat) (os:List Oper) (qs:List O) (s s':St) (rH:List Fq),os.length=qs.length->(∀q∈qs,Ca q.kd=true)->nI c call qs s=some (s',rH)->Mh un k rH=true->qs.length=rH.length/\R6 T (KS k os qs (K3 un k rH)) s s'
 |k,[],[],s,s',rH,_,_,h,_=>by simp[nI] at h; obtain⟨rfl,rfl⟩:=h; exact⟨rfl,rfl⟩
 |k,[],_::_,_,_,_,hl,_,_,_=>by simp at hl
 |k,_::_,[],_,_,_,hl,_,_,_=>by simp at hl
 |k,o::r,q::qs,s,s',rH,hl,hk,h,hn=>by
   simp only[nI] at h;split at h
   case h_2=>cases h
   rename_i s1 fl1 h1;split at h
   case h_2=>cases h
   rename_i s2 fl2 h2;simp at h;obtain⟨rfl,rfl⟩:=h;simp only[Mh,ae,gM] at hn;obtain⟨hn1,hn2⟩:=hn;obtain⟨h4,h5⟩:=TH hS un (k+1) r qs _ s2 fl2 (by simpa using hl) (fun q hq=>hk q (by simp[hq])) h2 hn2;refine⟨by simp[h4],s1,?_,h5⟩;have:=hS _ _ _ _ (hk q (by simp)) h1;show T s q (if kL k k un then .all else fl1) s1;split
   ·exact this.2
   ·rename_i hp;exact this.1 (hn1.resolve_right hp)
theorem OI {s s1:St} {kd:Kd} {v:AV} {f:Fq} (h:gH c call s kd=some (v,s1,f)) (hp:still kd=true):f=.no:=by
 cases kd<;>simp[still] at hp<;>simp only[gH] at h
 all_goals try rw[hp] at h
 all_goals
  (repeat' split at h)
  all_goals first
   |(cases h; done)
   |(rename_i hq; cases hq; done)
   |(simp at h; obtain⟨rfl,rfl,rfl⟩:=h; rfl)
theorem Fg {e:Env} {d:Option Nat} {v:AV} {s s':St} {f g:Fq} (h:Fh e d v s f=some (s',g)):g=cD e d f:=by
 unfold Fh at h;split at h
 ·simp at h;exact h.2.symm
 ·cases h
theorem Ea {e:Env} {d:Option Nat}:cD e d .no=.no\/cD e d .no=.bo []\/cD e d .no=.sp:=by
 unfold cD;split
 ·exact .inl rfl
 ·split
  ·exact .inr (.inr rfl)
  ·split
   ·exact .inl rfl
   ·exact .inr (.inl rfl)
theorem SD {s s':St} {q:O} {f:Fq} (h:tQ c call s q=some (s',f)) (hp:still q.kd=true):f=.no\/f=.bo []\/f=.sp:=by
 unfold tQ at h;split at h
 ·split at h
  ·rename_i v s1 fl ho;rw[OI ho hp] at h;rw[Fg h]; exact Ea
  ·cases h
 ·split at h
  ·split at h
   ·split at h
    ·rename_i v s1 fl ho;rw[OI ho hp] at h;rw[Fg h]; exact Ea
    ·cases h
   ·rw[Fg h]; exact Ea
  ·rw[Fg h]; exact Ea
  ·cases h
theorem Dk {un:List (Nat × Nat)}:∀{qs:List O} {k:Nat} {s s':St} {rH:List Fq},nI c call qs s=some (s',rH)->Mh un k rH=true->∀(j:Nat) (q:O) (f:Fq),qs[j]?=some q->rH[j]?=some f->still q.kd=true->kL (k+j) (k+j) un=false->f=.no\/f=.bo []
 |[],_,_,_,_,_,_,j,q,f,hq,_,_,_=>by simp at hq
 |x::r,k,s,s',rH,h,hn,j,q,f,hq,hf,hp,hb=>by
   simp only[nI] at h;split at h
   case h_2=>cases h
   rename_i s1 fl1 h1;split at h
   case h_2=>cases h
   rename_i s2 fl2 h2;simp at h;obtain⟨rfl,rfl⟩:=h;simp only[Mh,ae,gM] at hn;obtain⟨hn1,hn2⟩:=hn;cases j with
   |zero=>
     simp at hq hf hb;subst hq; subst hf;rw[hb] at hn1;rcases SD h1 hp with e|e|e
     ·exact .inl e
     ·exact .inr e
     ·subst e; simp[pA] at hn1
   |succ j=>simp at hq hf; exact Dk h2 hn2 j q f hq hf hp (by rw[show k+1+j=k+(j+1) by omega]; exact hb)
theorem LQ {N:Nat} {ops:Array Oper}:∀{l:List Oper} {qs:List O},tr P N ops l qs=true->l.length=qs.length/\∀ (j:Nat) (o:Oper) (q:O),l[j]?=some o->qs[j]?=some q->RT P N ops o (Vl q)=true
 |[],[],_=>⟨rfl,fun j o q h=>by simp at h⟩
 |[],_::_,h=>by simp[tr] at h
 |_::_,[],h=>by simp[tr] at h
 |o::r,q::s,h=>by
   simp only[tr,ae] at h;obtain⟨hl,hm⟩:=LQ h.2;refine⟨by simp[hl],fun j o' q' h1 h2=>?_⟩;cases j with
   |zero=>simp at h1 h2; subst h1; subst h2; exact h.1
   |succ j=>simp at h1 h2; exact hm j o' q' h1 h2
theorem Ar {un:List (Nat × Nat)} {j:Nat} {ys:List Nat} {q:O}:∀{k:Nat} {l:List O},xp un j ys q k l=true->∀(i:Nat) (x:O),l[i]?=some x->LP un (k+i) j x ys q=true
 |k,[],_,i,x,h=>by simp at h
 |k,z::r,hc,i,x,h=>by
   simp only[xp,ae] at hc;cases i with
   |zero=>simp at h; subst h; exact hc.1
   |succ i=>simp at h; have:=Ar hc.2 i x h; rwa [show k+1+i=k+(i+1) by omega] at this
theorem Cc {un:List (Nat × Nat)} {ops:Array Oper}:∀{ys:List Oper} {qs seen:List O} {Fw:List (List Nat)},oZ un Fw seen ys qs=true->afT ops Fw->Fw.length=seen.length->(∀j,ys[j]?=ops[seen.length+j]?)->∀(j:Nat) (y:Oper) (q:O),ys[j]?=some y->qs[j]?=some q ->
  (∀e∈y.after,Region.binds .any e=true->e.on<seen.length+j)/\∀ (i:Nat) (x:O),(seen++qs)[i]?=some x->i<seen.length+j->Anc ops i (seen.length+j)\/((kL i i un=false/\kL (seen.length+j) (seen.length+j) un=false)/\kC x q=true/\((still x.kd=true/\still q.kd=true)\/kL i (seen.length+j) un=true))
 |[],_,_,_,_,_,_,_,j,y,q,h,_=>by simp at h
 |_::_,[],_,_,_,_,_,_,j,y,q,_,h=>by simp at h
 |z::r,p::s,seen,Fw,hc,hanc,hal,hys,j,y,q,h1,h2=>by
   simp only[oZ,ae] at hc;obtain⟨⟨⟨_,c1⟩,c2⟩,c3⟩:=hc;have hz:ops[seen.length]?=some z:=by simpa using (hys 0).symm
   cases j with
   |zero=>
     simp at h1 h2;subst h1; subst h2;refine⟨fun e he hb=>?_,fun i x hx hi=>?_⟩
     ·have:=List.all_eq_true.1 c1 e.on (Ds.2 ⟨e,he,hb,rfl⟩);simpa using this
     ·rw[aB (by omega)] at hx;have:=Ar c2 i x hx;simp only[LP,ik,gM,ae,bR] at this;rcases this with h|h
      ·exact .inl (VF hanc hz i (mem_iff.1 h))
      ·right;exact h
   |succ j=>
     simp at h1 h2
     have anA:afT ops (Fw++[Mf Fw z]):=by
      intro k l hl i hi;by_cases hk:k<Fw.length
      ·rw[aB hk] at hl; exact hanc k l hl i hi
      ·have hk2:=aC hl;simp at hk2;have hke:k=Fw.length:=by omega
       subst hke;simp at hl;subst hl;rw[hal];exact VF hanc hz i hi
     obtain⟨k1,k2⟩:=Cc c3 anA (by simp[hal]) (fun m=>by have:=hys (m+1); simp at this ⊢; rw[this]; congr 1; omega) j y q h1 h2;simp only[bV,cN,gP] at k1 k2;refine⟨fun e he hb=>by have:=k1 e he hb; omega,fun i x hx hi=>?_⟩;have:=k2 i x (by simpa using hx) (by omega)
     rwa [show seen.length+(0+1)+j=seen.length+(j+1) by omega] at this
theorem yF {un:List (Nat × Nat)}:∀{ys:List Oper} {qs seen:List O} {Fw:List (List Nat)},oZ un Fw seen ys qs=true->ys.length=qs.length->∀q∈qs,Ca q.kd=true
 |[],[],_,_,_,_,q,hq=>by simp at hq
 |[],_::_,_,_,_,hl,_,_=>by simp at hl
 |_::_,[],_,_,_,hl,_,_=>by simp at hl
 |z::r,p::s,seen,Fw,hc,hl,q,hq=>by
   simp only[oZ,ae] at hc;rcases aK.1 hq with e|e
   ·subst e; exact hc.1.1.1
   ·exact yF hc.2 (by simpa using hl) q e
theorem HF {os:List O} {rH:List Fq}:∀{un:List (Nat × Nat)},EL os rH un=true->∀i j,i≠j->kL i j un=true->jH (os.getD i ⟨none,none,.min []⟩) (rH.getD i .all) (os.getD j ⟨none,none,.min []⟩) (rH.getD j .all)=true
 |[],_,i,j,_,h=>by simp[kL] at h
 |p::r,hk,i,j,kj,h=>by
   obtain⟨x,y⟩:=p;simp only[EL,ae,gM,decide_eq_true_eq] at hk;simp only[kL,gM,ae,decide_eq_true_eq] at h;rcases h with⟨rfl,rfl⟩|h
   ·exact hk.1.resolve_left kj
   ·exact HF hk.2 i j kj h
theorem QT (x y:O) {f g:Fq} (hf:f=.no\/f=.bo []) (hg:g=.no\/g=.bo []):jH x f y g=true:=by
 have d:∀d,DE d (.bo [])=true:=fun d=>by cases d<;>rfl
 have d':∀d,DE d .no=true:=fun d=>by cases d<;>rfl
 rcases hf with rfl|rfl<;>rcases hg with rfl|rfl<;>simp[jH,Fq.ok,Nq,d,d']
theorem Fz.drew {X:Nat->Prop} {φ:dQ} {w:World} {B:Nat->Nat} {base:Nat} {s:St} {a:Act} {N:Nat} (h:Fz X φ w B base s a N):Fz X φ w.drew B base s a N:=by
 obtain⟨N1,Ha,AR,hb⟩:=h.sb;exact⟨⟨N1,Ha,AR.m6 (.drew _ _) (AR.heap.of_same (ψ:=[]) ⟨rfl,rfl,rfl,Nat.le_succ _,aY _,fun g _ h=>⟨rfl,h⟩,.refl _⟩) AR.own (fun _ _=>rfl),hb⟩,h.defers,h.size⟩
theorem afi (dG:gF P c) (hS:afP c call T) (hT:XM P c T) (hC:VJ T):Mk P c call:=by
 intro X φ w B base s s' rH a N id ops os un Q hN hc ho hs hd hr hg hQ;simp only[Pt,ae] at hd;obtain⟨hn,hd⟩:=hd;obtain⟨hl,hm⟩:=LQ hc;obtain⟨A8,mY⟩:=TH hS un 0 ops.toList os s s' rH hl (yF ho hl) hs hn;have hlen:=HI 0 ops.toList os (K3 un 0 rH) hl (by rw[HK]; exact A8);have xf:fU φ w φ w.drew:=.drew _ _;have hord:=Cc (ops:=ops) ho (fun j l hl=>by simp at hl) rfl (fun j=>by simp);have yN:Fz X φ w.drew B base s a N:=hr.drew
 refine wp_region_any dG.mixed (aii hT hC (X:=X) (B:=B) (base:=base) hN (sf:=s') ops.size (KS 0 ops.toList os (K3 un 0 rH)) _ a w.drew φ s (by simpa using hlen) (fun i=>?_) (by simp) (fun j o _ hl=>by simp[bn,mV] at hl; split at hl<;>simp at hl) (fun p hp=>?_) ?_ mY yN (hg.m6 xf)
  fun a' w' φ' h k=>hQ a' w' φ' h (xf.trans k))
 ·by_cases hi:i<ops.size
  ·simp only[bn,mV,hi,if_true,iQ,true_iff];obtain⟨p,hp⟩:=bu (l:=KS 0 ops.toList os (K3 un 0 rH)) (i:=i) (by rw[hlen]; simpa using hi);exact⟨p,bt hp,by have:=(vK 0 _ _ _ i p hp).1; omega⟩
  ·simp only[bn,mV,hi,if_false,Option.getD_none];refine⟨(fun h=>by cases h),fun⟨p,hp,hpi⟩=>?_⟩;exfalso;obtain⟨j,hj⟩:=bH hp;have h1:=(vK 0 _ _ _ j p hj).1;have h2:=aC hj;rw[hlen] at h2;simp at h2;omega
 ·obtain⟨j,hj⟩:=bH hp;obtain⟨h1,h2,h3,h4⟩:=vK 0 _ _ _ j p hj;have h1':p.1=j:=by omega
  obtain⟨k1,_⟩:=hord j p.2.1 p.2.2.1 h2 h3;refine⟨by rw[h1']; simpa using h2,hm j _ _ h2 h3,fun e he hb=>?_⟩;have:=k1 e he hb;simp at this;omega
 ·rw[List.pairwise_iff_getElem];intro i j hi hj Il;obtain⟨h1,h2,h3,h4⟩:=vK 0 _ _ _ i _ (an hi);obtain⟨k1,k2,k3,k4⟩:=vK 0 _ _ _ j _ (an hj);refine⟨by omega,?_⟩;obtain⟨_,ann⟩:=hord j _ _ k2 k3;have:=ann i _ (by simpa using h3) (by simpa using Il);simp only[gP,ik] at this;rcases this with h|h
  ·left; rw[h1,k1]; simpa using h
  ·right;obtain⟨⟨Cb,vS⟩,Gx,h⟩:=h;refine⟨Gx,?_⟩;rw[Ue] at h4 k4;simp only[ik,Cb,vS,bz,if_false,Option.map_id'] at h4 k4;rcases h with⟨h5,h6⟩|h5
   ·exact QT _ _ (Dk hs hn i _ _ h3 h4 h5 (by simpa using Cb)) (Dk hs hn j _ _ k3 k4 h6 (by simpa using vS))
   ·have:=HF hd i j (by omega) h5;simp only[List.getD_eq_getElem?_getD,h3,k3,h4,k4,iQ] at this;exact this
end
end Go.Bm

/- A step up to what can be seen of a state: StepT and SoundT. -/
namespace Go.Bm
open Go.Am
section
variable {P:Program} {c:fe} {call:Nat->List AV->Heap->Option (AV × Heap)}
def eJ (s t:St):Prop:=(∀i,get s.env i=get t.env i)/\s.H=t.H
theorem eJ.rfl' {s:St}:eJ s s:=⟨fun _=>rfl,rfl⟩
theorem eJ.symm {s t:St} (h:eJ s t):eJ t s:=⟨fun i=>(h.1 i).symm,h.2.symm⟩
theorem eJ.trans {s t u:St} (h:eJ s t) (k:eJ t u):eJ s u:=⟨fun i=>(h.1 i).trans (k.1 i),h.2.trans k.2⟩
theorem Fz.same {X:Nat->Prop} {φ:dQ} {w:World} {B:Nat->Nat} {base:Nat} {s t:St} {a:Act} {N:Nat} (h:Fz X φ w B base s a N) (e:eJ s t):Fz X φ w B base t a N:=by
 obtain⟨N1,Ha,AR,Cb,vS⟩:=h.sb;exact⟨⟨N1,Ha,AR.ext (fun i=>(e.1 i).symm) e.2.symm,Cb,by rw[<-e.2]; exact vS⟩,h.defers,h.size⟩
def DV:Fq->Fq->Prop
 |_,.all=>True
 |.wr sl bs,.wr sl' bs'=>(∀i∈sl,i∈sl')/\(match bs,bs' with
   |none,none=>True
   |some l,some l'=>∀b∈l,b∈l'
   |_,_=>False)
 |f,g=>f=g
theorem DV.refl (f:Fq):DV f f:=by
 cases f<;>try exact rfl
 case wr sl bs=>cases bs<;>simp[DV]
 case all=>trivial
def TS (c:fe) (call:Nat->List AV->Heap->Option (AV × Heap)) (s:St) (q:O) (f:Fq) (s':St):Prop:=
 Ca q.kd=true/\∃ s0 s1 f0,eJ s s0/\tQ c call s0 q=some (s1,f0)/\DV f0 f/\eJ s1 s'
theorem ajH:afP c call (TS c call):=fun s q f s' hk h=>⟨fun hf=>⟨hk,s,s',f,eJ.rfl',h,.refl f,eJ.rfl'⟩,⟨hk,s,s',f,eJ.rfl',h,by cases f<;>trivial,eJ.rfl'⟩⟩
theorem af6 (Gu:PK P c call):XM P c (TS c call):=by
 intro X φ w B base N ops s s' o a q f hN hc ⟨_,s0,s1,f0,e0,h,_,e1⟩ hr hg K Q hK;have hr0:=hr.same e0
 have hck:dz P o.op (nS q.kd)=true:=by
  have:=hc;simp only[RT,Vl,ae] at this;exact this.2
 exact SA (fun v s2 f hv=>Gu X φ w B base s0 o a q.kd v s2 f hck hv hr0.sb hg) hc hN h hr0 fun a' w' φ' yN k'=>hK a' w' φ' (yN.same e1) k'
theorem abP (dG:gF P c) (Gu:PK P c call) (hC:VJ (TS c call)):Mk P c call:=afi dG ajH (af6 Gu) hC
end
end Go.Bm
